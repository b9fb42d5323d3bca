import Derived.WalkKit
import Derived.OrdersIn
import Derived.RegionTactic
import Derived.Deep.AppendLies
import Derived.Test.YtnhpcoagkmgdoaaGreatX7
set_option linter.unusedVariables false
set_option linter.unusedSimpArgs false
/- A region that draws its order: what each operation keeps, whatever has come up before it. -/
namespace Go.Q
open Go
section
variable {P : Program} {ops : Array Oper} {Q : Exit → Act → World → Prop} {md : Region.Mode}
end
end Go.Q
/- A region that draws its order, in a round of a range over a function: what is shown of it outside of a round holds in it (there is no defer in it; it may hold calls). -/
namespace Go.Q
open Go Go.RowKit
def noDefer (o : Oper) : Bool := match o.op with
 | .defer _ => false
 | _ => true
section
variable {n l₀ : Nat} {P : Program} {ops : Array Oper} {Q : Exit → Act → World → Prop} {md : Region.Mode}
theorem noDefer_ne {o : Oper} (h : noDefer o = true) : ∀ c, o.op ≠ .defer c := by
 intro c e
 unfold noDefer at h
 rw [e] at h
 cases h
theorem wpIn_of_wp {o : Oper} (hp : noDefer o = true) {a : Act} {w : World} {K : Act → World → Prop} (h : o.wp P a w K Q) : o.wpIn (Fence.wide.inRound l₀) n P a w K Q := by
 refine ⟨fun _ _ => trivial, ?_⟩
 rw [Oper.semAt_eq _ _ _ (noDefer_ne hp)]
 unfold Oper.wp at h
 generalize (execOp a.eval o).run P w = r at *
 cases r with
 | ok x w' =>
  cases x with
  | enter f args => exact ⟨fun h => by simp [Fence.wide] at h, CallsIn.mono (CallsIn.inRound l₀ (callsIn_wide.2 h)) fun e w'' he => by cases e <;> exact he⟩
  | row row args =>
   refine ⟨fun h => by simp [Fence.wide] at h, fun c cs _ => ?_⟩
   obtain ⟨v, w', r, s⟩ := h c cs
   exact ⟨v, w', r, stepsIn_wide.2 s⟩
  | round l f tmps assign body => exact (show False from h).elim
  | _ => exact h
 | halt x w' => cases x <;> exact h
theorem wpOp_in (hp : ∀ o ∈ ops, noDefer o = true) (hQ : ¬ LetsOut Q) {i : Nat} {a : Act} {w : World} {K : Act → World → Prop} (h : wpOp P ops Q i K a w) : wpOpIn (Fence.wide.inRound l₀) n P ops Q i K a w := by
 unfold wpOp at h
 unfold wpOpIn
 cases ho : ops[i]? with
 | none => rw [ho] at h; exact h
 | some o =>
  rw [ho] at h
  dsimp only at h ⊢
  split
  ·rename_i hw
   rw [if_pos hw] at h
   exact wpIn_of_wp (hp o (Array.mem_of_getElem? ho)) (h.resolve_right fun x => hQ x.2)
  ·rename_i hw
   rw [if_neg hw] at h
   exact ⟨fun _ _ => trivial, h⟩
theorem wpAny_in (hp : ∀ o ∈ ops, noDefer o = true) (hQ : ¬ LetsOut Q) : ∀ (fuel : Nat) (listed : Array Bool) (a : Act) (w : World), wpAny P md ops Q fuel listed a w → wpAnyIn (Fence.wide.inRound l₀) n P md ops Q fuel listed a w
 | 0, _, _, _, h => h
 | fuel + 1, _, _, _, h => ⟨h.1, fun i hi => wpOpIn_mono (fun _ _ => wpAny_in hp hQ fuel _ _ _) (wpOp_in hp hQ (h.2 i hi))⟩
theorem nq_shut : ¬ LetsOut (NQ Q) := fun ⟨_, _, h⟩ => h
/-- a region that draws its order, in a round: shown by its steps as outside of a round -/
theorem wpIn_region_plain {id : Nat} {a : Act} {w : World} (hm : P.follows .mixedOrders = true) (hp : ops.all noDefer = true)
  (h : wpAny P .any ops (NQ Q) ops.size (Array.replicate ops.size false) a w.drew) : (Code.region id ops true).wpIn (Fence.wide.inRound l₀) n P Q a w :=
 wpIn_normal (wpIn_region_any hm (wpAny_in (fun o h => Array.all_eq_true_iff_forall_mem.1 hp o h) nq_shut _ _ _ _ h))
end
end Go.Q
/- A row of bytes of the call's own that a box holds, in a round of a range over a function. -/
namespace Go.Proofs.YtnhpcoagkmgdoaaGreat
open Go.RowKit Go.Q Go.Joins
/-- box bx holds the row xs (its blocks from B0 on); but for cells all lies as in V; but for M all lies as in V -/
def BoxRow (M : Nat → Prop) (bx B0 : Nat) (V X : World) (xs : List Nat) : Prop :=
 ∃ ra rc, Boxed X bx 63 (.slice ra xs.length rc) ∧ X.ownsRow B0 5 1 (.slice ra xs.length rc) xs.length (ub (natI xs)) ∧ KeepsOthers V X ∧ KpM M V X
theorem BoxRow.drew {M : Nat → Prop} {bx B0 : Nat} {V X : World} {xs : List Nat} (h : BoxRow M bx B0 V X xs) : BoxRow M bx B0 V X.drew xs := by
 obtain ⟨ra, rc, h1, h2, h3, h4⟩ := h
 exact ⟨ra, rc, h1, h2.drew, h3.trans (KeepsOthers.drew X), h4.trans (KpM.of_ext (Below.refl _ _).drew)⟩
/-- behind the append of a byte and the store of the longer row -/
theorem BoxRow.push {M : Nat → Prop} {bx B0 : Nat} {V X w1 : World} {xs : List Nat} {x : Nat} {ra : Option Addr} {rc : Nat} {v' : Value} {tmp : Obj}
  (h1 : Boxed X bx 63 (.slice ra xs.length rc)) (h2 : X.ownsRow B0 5 1 (.slice ra xs.length rc) xs.length (ub (natI xs))) (h3 : KeepsOthers V X) (h4 : KpM M V X)
  (hB0 : bx < B0) (hB1 : B0 ≤ X.heap.size) (hMb : M bx) (hM0 : ∀ q, B0 ≤ q → M q)
  (hown : w1.ownsRow B0 5 1 v' (xs.length + 1) (ub (natI xs) ++ [.int .u8 (x : Nat)])) (hgrow : (X.alloc tmp).grownBy w1 (Value.slice ra xs.length rc).ownBlock) :
  (Boxed w1 bx 63 (.slice ra xs.length rc)) ∧ BoxRow M bx B0 V (w1.setCell ⟨bx, 0, none⟩ v') (xs ++ [x]) := by
 have hv1 : Boxed w1 bx 63 (.slice ra xs.length rc) := (h1.alloc tmp).kept hgrow (h1.not_row (by decide) h2)
 obtain ⟨a', c', rfl⟩ : ∃ a' c', v' = .slice a' (xs.length + 1) c' := by
  rcases hown.2 with ⟨_, e⟩ | ⟨g, cap, cur, e, _⟩
  ·omega
  ·exact ⟨_, _, e⟩
 have hl : (xs ++ [x]).length = xs.length + 1 := by simp
 have hub : ub (natI (xs ++ [x])) = ub (natI xs) ++ [.int .u8 (x : Nat)] := by
  rw [natI_append]; unfold ub; rw [List.map_append]; rfl
 refine ⟨hv1, a', c', ?_, ?_, ?_, ?_⟩
 ·rw [hl]; exact hv1.set _
 ·rw [hl, hub]
  exact hown.kept (grownBy_setCell' w1 bx _) (.inr (hv1.not_row (by decide) hown).symm)
 ·refine h3.trans (((KeepsOthers.alloc X tmp).trans (KeepsOthers.of_grownBy hgrow fun j o ej hj => ?_)).trans (KeepsOthers.setCell _ _ _))
  rcases (h2.alloc tmp).2 with ⟨e, _⟩ | ⟨g, cap, cur, e, _, hgb, _⟩
  ·rw [e] at ej; simp [Value.ownBlock] at ej
  ·rw [e] at ej
   obtain rfl : g = j := by simpa [Value.ownBlock] using ej
   rw [hgb] at hj; cases hj; rfl
 ·refine (h4.trans (KpM.of_ext ((Ext.refl X).alloc tmp))).trans (KpM.trans ⟨hgrow.size, fun b hb hn => hgrow.block b hb fun e => ?_, hgrow.os, hgrow.tape, hgrow.output⟩ (KpM.set w1 bx _ hMb))
  have := (h2.lt b e.symm).1
  exact hn (hM0 b this)
end Go.Proofs.YtnhpcoagkmgdoaaGreat
/- Slices of slices of bytes. -/
namespace Go.Proofs.YtnhpcoagkmgdoaaGreat
open Go.RowKit Go.Q Go.Shelf Go.Joins
theorem size_u8 (W : World) : (sizeOf (Tryz.prog.elem 63)).run Tryz.prog W = .ok 1 W := by
 rw [show Tryz.prog.elem 63 = 5 by kernel_rfl]
 obtain ⟨i0, hi, _, hz1, _⟩ := info_parts Tryz.infoU
 simp [sizeOf, typeInfo, hi, hz1, go_sem]
theorem slice_fromU (W : World) (g off n k1 lo : Nat) (h1 : lo < k1) (h2 : lo ≤ n) : (Instr.slice 63 (.slice (some ⟨g, off, none⟩) n k1) (some (.int .i64 (lo : Int))) none none).run Tryz.prog W = .ok (.slice (some ⟨g, off + lo, none⟩) (n - lo) (k1 - lo)) W := by
 have h := run_slice_l (P := Tryz.prog) (w := W) 63 (some ⟨g, off, none⟩) n k1 (by rw [Tryz.underlying63]; kernel_rfl) .i64 (lo : Int) (by omega) (by omega)
 rw [h, size_u8]
 show Result.ok (sliced _ _ _ _ 1) W = _
 unfold sliced
 rw [if_neg (by omega)]
 simp [Addr.add]
theorem slice_toU (W : World) (g off n k1 hi : Nat) (h0 : 0 < k1) (h1 : hi ≤ k1) : (Instr.slice 63 (.slice (some ⟨g, off, none⟩) n k1) none (some (.int .i64 (hi : Int))) none).run Tryz.prog W = .ok (.slice (some ⟨g, off, none⟩) hi k1) W := by
 have h := run_slice_h (P := Tryz.prog) (w := W) 63 (some ⟨g, off, none⟩) n k1 (by rw [Tryz.underlying63]; kernel_rfl) .i64 (hi : Int) (by omega) (by omega)
 rw [h, size_u8]
 show Result.ok (sliced _ _ _ _ 1) W = _
 unfold sliced
 rw [if_neg (by omega)]
 simp [Addr.add]
theorem slice_threeU (W : World) (g off n k1 lo hi : Nat) (h1 : lo < hi) (h3 : hi ≤ k1) : (Instr.slice 63 (.slice (some ⟨g, off, none⟩) n k1) (some (.int .i64 (lo : Int))) (some (.int .i64 (hi : Int))) (some (.int .i64 (hi : Int)))).run Tryz.prog W = .ok (.slice (some ⟨g, off + lo, none⟩) (hi - lo) (hi - lo)) W := by
 have h := run_slice_lhm (P := Tryz.prog) (w := W) 63 (some ⟨g, off, none⟩) n k1 (by rw [Tryz.underlying63]; kernel_rfl) .i64 .i64 .i64 (lo : Int) (hi : Int) (hi : Int) (by omega) (by omega) (by omega) (by omega)
 rw [h, size_u8]
 show Result.ok (sliced _ _ _ _ 1) W = _
 unfold sliced
 rw [if_neg (by omega)]
 simp [Addr.add]
theorem slice_toI (W : World) (g off n k1 hi : Nat) (h0 : 0 < k1) (h1 : hi ≤ k1) : (Instr.slice 22 (.slice (some ⟨g, off, none⟩) n k1) none (some (.int .i64 (hi : Int))) none).run Tryz.prog W = .ok (.slice (some ⟨g, off, none⟩) hi k1) W := by
 have h := run_slice_h (P := Tryz.prog) (w := W) 22 (some ⟨g, off, none⟩) n k1 (by rw [Tryz.underlying22]; kernel_rfl) .i64 (hi : Int) (by omega) (by omega)
 rw [h, size_int]
 show Result.ok (sliced _ _ _ _ 1) W = _
 unfold sliced
 rw [if_neg (by omega)]
 simp [Addr.add]
theorem at_sliceU {W W' : World} {v r : Value} {lo hi mx : Option Value} (h : (Instr.slice 63 v lo hi mx).run Tryz.prog W = .ok r W') : (Instr.sliceAt 63 v lo hi mx).run Tryz.prog W = .ok r W' :=
 Eq.trans (run_sliceAt_slice (P := Tryz.prog) (w := W) 63 _ _ _ _ (by rw [Tryz.underlying63]; kernel_rfl)) h
end Go.Proofs.YtnhpcoagkmgdoaaGreat

import Derived.Deep.RegionHeld3
import Derived.OrdersIn
import Derived.RegionTactic
import Derived.Deep.AppendLies
import Derived.Test.YtnhpcoagkmgdoaaX11
import Derived.Test.YtnhpcoagkmgdoaaX7
import Derived.Test.YtnhpcoagkmgdoaaX1
import Derived.Test.YtnhpcoagkmgdoaaX9
import Derived.Test.YtnhpcoagkmgdoaaX8
set_option linter.unusedVariables false
set_option linter.unusedSimpArgs false
/- Layer 10's reference: the words of a state. -/
namespace Go.Proofs.Ytnhpcoagkmgdoaa
open Go.RowKit Go.Q Go.Joins
end Go.Proofs.Ytnhpcoagkmgdoaa
/- Layer 10's reference: Dump. -/
namespace Go.Proofs.Ytnhpcoagkmgdoaa
open Go.RowKit Go.Q Go.Joins
end Go.Proofs.Ytnhpcoagkmgdoaa
/- Layer 10's law: the rows that Awake begins with. -/
namespace Go.Q
def rows63 (i : Nat) : List Nat := [1, 64, 64, 64, 127] ++ List.replicate i 64
theorem rows63_succ (i : Nat) : rows63 (i + 1) = rows63 i ++ [64] := by unfold rows63; rw [List.replicate_succ', List.append_assoc]
theorem rows63_tape : tapeW [63] = rows63 59 ++ [62] := by decide +kernel
end Go.Q
namespace Go.Proofs.Ytnhpcoagkmgdoaa
open Go.RowKit Go.Q Go.Joins
set_option maxRecDepth 100000 in
set_option maxHeartbeats 4000000 in
theorem rows10_any (w : World) : Calls Try.prog 54 #[] w fun e w' => ∃ a c, e = .returned (.slice a 65 c) ∧ w'.ownsRow w.heap.size 5 1 (.slice a 65 c) 65 (ub (natI (tapeW [63]))) ∧ Ext w w' := by
 have HT := Lib.hid rows63_tape
 obtain ⟨tp, htp⟩ : ∃ tp, tapeW [63] = tp := ⟨_, rfl⟩
 rw [htp] at HT ⊢
 clear htp
 obtain ⟨i1, hi1, hy0, hy1, hy2⟩ := info_parts Try.infoU
 go_enter Try.func54, Try.ntmps54
 go_wp2
 have h0 : (w.alloc (.cells #[.int .u8 1, .int .u8 64, .int .u8 64, .int .u8 64, .int .u8 127] 5)).ownsRow w.heap.size 5 1 (.slice (some ⟨w.heap.size, 0, none⟩) 5 5) (5 + 0) (ub (natI (rows63 0))) := World.ownsRow_lit w #[.int .u8 1, .int .u8 64, .int .u8 64, .int .u8 64, .int .u8 127] 5 (Nat.le_refl _) (by unfold maxLen; decide) rfl
 have e0 : Ext w (w.alloc (.cells #[.int .u8 1, .int .u8 64, .int .u8 64, .int .u8 64, .int .u8 127] 5)) := (Ext.refl w).alloc _
 go_loopw [1, 2] (fun s1 s2 X => ∃ i : Nat, i ≤ 59 ∧ s2 = .int .i64 (i : Int) ∧ (∃ a c n, n = 5 + i ∧ s1 = .slice a n c ∧ X.ownsRow w.heap.size 5 1 (.slice a n c) n (ub (natI (rows63 i)))) ∧ Ext w X) (fun _ s2 _ => 59 - (Go.RowKit.intOf s2).toNat)
 case atStart => exact ⟨0, by omega, rfl, ⟨_, _, 5, rfl, rfl, h0⟩, e0⟩
 case round =>
  clear h0 e0
  obtain ⟨i, hi, rfl, ⟨a, c, n, hn, rfl, hown⟩, EX⟩ := hrel
  obtain ⟨X, rfl⟩ : ∃ X : World, X = wr := ⟨_, rfl⟩
  have hXs := EX.size
  by_cases hlt : i < 59
  ·have hltz : (i : Int) < 59 := by omega
   have HS := Lib.hid (rows63_succ i)
   have HNN := Lib.hid hn
   clear hn
   have hn64 : n ≤ 64 := by have := HNN.out; omega
   go_wp2_with (at_builtin; refine wpList_append_own _ rfl _ _ 23 rfl w.heap.size 5 i1 (.int .u8 0) 1 1 Try.underlying23 hi1 hy0 hy1 hy2 rfl (by decide) _ _ _ rfl (hown.alloc _) ⟨X.heap.size, 0, none⟩ 1 1 [.int .u8 64] rfl rfl (cell_one_new _ _ _) (by simp [Value.oneCell']) (by unfold maxLen; omega) (by omega) (by simp; omega) ?_; intro v' w7 hown' hgrow hnil)
   have E7 : Ext w w7 := (EX.alloc _).grown hgrow (by simp; omega) (fun q e => (hown.lt q e).1)
   obtain ⟨a7, c7, rfl⟩ := own_formU hown'
   have hown7 : w7.ownsRow w.heap.size 5 1 (.slice a7 (n + 1) c7) (n + 1) (ub (natI (rows63 (i + 1)))) := by
    rw [HS.out, natI_append]
    unfold ub at hown' ⊢
    rw [List.map_append]
    exact hown'
   clear hown hown' hgrow hnil EX
   (try go_frame)
   go_wp2
   go_roundw
   case rel => exact ⟨i + 1, by omega, by go_num, ⟨a7, c7, n + 1, by have := HNN.out; omega, rfl, hown7⟩, E7⟩
   case measure => simp [Go.RowKit.intOf]; omega
  ·obtain rfl : i = 59 := by omega
   obtain rfl : n = 64 := by omega
   go_wp2_with (at_builtin; refine wpList_append_own _ rfl _ _ 23 rfl w.heap.size 5 i1 (.int .u8 0) 1 1 Try.underlying23 hi1 hy0 hy1 hy2 rfl (by decide) _ _ _ rfl (hown.alloc _) ⟨X.heap.size, 0, none⟩ 1 1 [.int .u8 62] rfl rfl (cell_one_new _ _ _) (by simp [Value.oneCell']) (by unfold maxLen; omega) (by omega) (by simp; omega) ?_; intro v' w7 hown' hgrow hnil)
   have E7 : Ext w w7 := (EX.alloc _).grown hgrow (by simp; omega) (fun q e => (hown.lt q e).1)
   obtain ⟨a7, c7, rfl⟩ := own_formU hown'
   have hown7 : w7.ownsRow w.heap.size 5 1 (.slice a7 65 c7) 65 (ub (natI tp)) := by
    rw [HT.out, natI_append]
    unfold ub at hown' ⊢
    rw [List.map_append]
    exact hown'
   clear hown hown' hgrow hnil EX
   (try go_frame)
   go_wp2
   exact bodyPost_ret (v := .slice a7 65 c7) (by simp [results, Try.results54, go_sem]) rfl ⟨a7, c7, rfl, hown7, E7⟩
end Go.Proofs.Ytnhpcoagkmgdoaa
/- Layer 10's law: one loss. -/
namespace Go.Q
/-- values in memory, one behind the other -/
def ValsAt (w : World) (a : Option Addr) (vs : List Value) : Prop := vs = [] ∨ ∃ b off, a = some ⟨b, off, none⟩ ∧ b < w.heap.size ∧ ∀ i, i < vs.length → w.cell? ⟨b, off + i, none⟩ = vs[i]?
end Go.Q
namespace Go.Proofs.Ytnhpcoagkmgdoaa
open Go.RowKit Go.Q Go.Joins
theorem loss10_any (n : Int) (w : World) : Calls Try.prog 28 #[.int .i64 n] w fun e w' => ∃ a c, e = .returned (.slice a 1 c) ∧ 1 ≤ c ∧ ValsAt w' a [.int .i64 3, .int .i64 n, .int .i64 0] ∧ Ext w w' := by
 go_enter Try.func28, Try.ntmps28
 go_wp2
 go_ret
 refine ⟨_, _, rfl, by decide, .inr ⟨w.heap.size, 0, rfl, by simp, fun i hi => ?_⟩, (Ext.refl w).alloc _⟩
 match i, hi with
 | 0, _ => exact box_at (Ext.refl _) 0 rfl
 | 1, _ => exact box_at (Ext.refl _) 1 rfl
 | 2, _ => exact box_at (Ext.refl _) 2 rfl
end Go.Proofs.Ytnhpcoagkmgdoaa
/- A region that draws its order, in a round of a range over a function: what is shown of it outside of a round holds in it (there is no defer in it; it may hold calls). -/
namespace Go.Q
open Go Go.RowKit
def noDefer (o : Oper) : Bool := match o.op with
 | .defer _ => false
 | _ => true
section
variable {n l₀ : Nat} {P : Program} {ops : Array Oper} {Q : Exit → Act → World → Prop} {md : Region.Mode}
theorem noDefer_ne {o : Oper} (h : noDefer o = true) : ∀ c, o.op ≠ .defer c := by
 intro c e
 unfold noDefer at h
 rw [e] at h
 cases h
theorem wpIn_of_wp {o : Oper} (hp : noDefer o = true) {a : Act} {w : World} {K : Act → World → Prop} (h : o.wp P a w K Q) : o.wpIn (Fence.wide.inRound l₀) n P a w K Q := by
 refine ⟨fun _ _ => trivial, ?_⟩
 rw [Oper.semAt_eq _ _ _ (noDefer_ne hp)]
 unfold Oper.wp at h
 generalize (execOp a.eval o).run P w = r at *
 cases r with
 | ok x w' =>
  cases x with
  | enter f args => exact ⟨fun h => by simp [Fence.wide] at h, CallsIn.mono (CallsIn.inRound l₀ (callsIn_wide.2 h)) fun e w'' he => by cases e <;> exact he⟩
  | row row args =>
   refine ⟨fun h => by simp [Fence.wide] at h, fun c cs _ => ?_⟩
   obtain ⟨v, w', r, s⟩ := h c cs
   exact ⟨v, w', r, stepsIn_wide.2 s⟩
  | round l f tmps assign body => exact (show False from h).elim
  | _ => exact h
 | halt x w' => cases x <;> exact h
theorem wpOp_in (hp : ∀ o ∈ ops, noDefer o = true) (hQ : ¬ LetsOut Q) {i : Nat} {a : Act} {w : World} {K : Act → World → Prop} (h : wpOp P ops Q i K a w) : wpOpIn (Fence.wide.inRound l₀) n P ops Q i K a w := by
 unfold wpOp at h
 unfold wpOpIn
 cases ho : ops[i]? with
 | none => rw [ho] at h; exact h
 | some o =>
  rw [ho] at h
  dsimp only at h ⊢
  split
  ·rename_i hw
   rw [if_pos hw] at h
   exact wpIn_of_wp (hp o (Array.mem_of_getElem? ho)) (h.resolve_right fun x => hQ x.2)
  ·rename_i hw
   rw [if_neg hw] at h
   exact ⟨fun _ _ => trivial, h⟩
theorem wpAny_in (hp : ∀ o ∈ ops, noDefer o = true) (hQ : ¬ LetsOut Q) : ∀ (fuel : Nat) (listed : Array Bool) (a : Act) (w : World), wpAny P md ops Q fuel listed a w → wpAnyIn (Fence.wide.inRound l₀) n P md ops Q fuel listed a w
 | 0, _, _, _, h => h
 | fuel + 1, _, _, _, h => ⟨h.1, fun i hi => wpOpIn_mono (fun _ _ => wpAny_in hp hQ fuel _ _ _) (wpOp_in hp hQ (h.2 i hi))⟩
theorem nq_shut : ¬ LetsOut (NQ Q) := fun ⟨_, _, h⟩ => h
/-- a region that draws its order, in a round: shown by its steps as outside of a round -/
theorem wpIn_region_plain {id : Nat} {a : Act} {w : World} (hm : P.follows .mixedOrders = true) (hp : ops.all noDefer = true)
  (h : wpAny P .any ops (NQ Q) ops.size (Array.replicate ops.size false) a w.drew) : (Code.region id ops true).wpIn (Fence.wide.inRound l₀) n P Q a w :=
 wpIn_normal (wpIn_region_any hm (wpAny_in (fun o h => Array.all_eq_true_iff_forall_mem.1 hp o h) nq_shut _ _ _ _ h))
end
end Go.Q
/- A row of bytes of the call's own that a box holds, in a round of a range over a function. -/
namespace Go.Proofs.Ytnhpcoagkmgdoaa
open Go.RowKit Go.Q Go.Joins
/-- box bx holds the row xs (its blocks from B0 on); but for cells all lies as in V; but for M all lies as in V -/
def BoxRow (M : Nat → Prop) (bx B0 : Nat) (V X : World) (xs : List Nat) : Prop :=
 ∃ ra rc, Boxed X bx 23 (.slice ra xs.length rc) ∧ X.ownsRow B0 5 1 (.slice ra xs.length rc) xs.length (ub (natI xs)) ∧ KeepsOthers V X ∧ KpM M V X
theorem BoxRow.drew {M : Nat → Prop} {bx B0 : Nat} {V X : World} {xs : List Nat} (h : BoxRow M bx B0 V X xs) : BoxRow M bx B0 V X.drew xs := by
 obtain ⟨ra, rc, h1, h2, h3, h4⟩ := h
 exact ⟨ra, rc, h1, h2.drew, h3.trans (KeepsOthers.drew X), h4.trans (KpM.of_ext (Below.refl _ _).drew)⟩
/-- behind the append of a byte and the store of the longer row -/
theorem BoxRow.push {M : Nat → Prop} {bx B0 : Nat} {V X w1 : World} {xs : List Nat} {x : Nat} {ra : Option Addr} {rc : Nat} {v' : Value} {tmp : Obj}
  (h1 : Boxed X bx 23 (.slice ra xs.length rc)) (h2 : X.ownsRow B0 5 1 (.slice ra xs.length rc) xs.length (ub (natI xs))) (h3 : KeepsOthers V X) (h4 : KpM M V X)
  (hB0 : bx < B0) (hB1 : B0 ≤ X.heap.size) (hMb : M bx) (hM0 : ∀ q, B0 ≤ q → M q)
  (hown : w1.ownsRow B0 5 1 v' (xs.length + 1) (ub (natI xs) ++ [.int .u8 (x : Nat)])) (hgrow : (X.alloc tmp).grownBy w1 (Value.slice ra xs.length rc).ownBlock) :
  (Boxed w1 bx 23 (.slice ra xs.length rc)) ∧ BoxRow M bx B0 V (w1.setCell ⟨bx, 0, none⟩ v') (xs ++ [x]) := by
 have hv1 : Boxed w1 bx 23 (.slice ra xs.length rc) := (h1.alloc tmp).kept hgrow (h1.not_row (by decide) h2)
 obtain ⟨a', c', rfl⟩ : ∃ a' c', v' = .slice a' (xs.length + 1) c' := by
  rcases hown.2 with ⟨_, e⟩ | ⟨g, cap, cur, e, _⟩
  ·omega
  ·exact ⟨_, _, e⟩
 have hl : (xs ++ [x]).length = xs.length + 1 := by simp
 have hub : ub (natI (xs ++ [x])) = ub (natI xs) ++ [.int .u8 (x : Nat)] := by
  rw [natI_append]; unfold ub; rw [List.map_append]; rfl
 refine ⟨hv1, a', c', ?_, ?_, ?_, ?_⟩
 ·rw [hl]; exact hv1.set _
 ·rw [hl, hub]
  exact hown.kept (grownBy_setCell' w1 bx _) (.inr (hv1.not_row (by decide) hown).symm)
 ·refine h3.trans (((KeepsOthers.alloc X tmp).trans (KeepsOthers.of_grownBy hgrow fun j o ej hj => ?_)).trans (KeepsOthers.setCell _ _ _))
  rcases (h2.alloc tmp).2 with ⟨e, _⟩ | ⟨g, cap, cur, e, _, hgb, _⟩
  ·rw [e] at ej; simp [Value.ownBlock] at ej
  ·rw [e] at ej
   obtain rfl : g = j := by simpa [Value.ownBlock] using ej
   rw [hgb] at hj; cases hj; rfl
 ·refine (h4.trans (KpM.of_ext ((Ext.refl X).alloc tmp))).trans (KpM.trans ⟨hgrow.size, fun b hb hn => hgrow.block b hb fun e => ?_, hgrow.os, hgrow.tape, hgrow.output⟩ (KpM.set w1 bx _ hMb))
  have := (h2.lt b e.symm).1
  exact hn (hM0 b this)
end Go.Proofs.Ytnhpcoagkmgdoaa
/- Slices of slices of bytes. -/
namespace Go.Proofs.Ytnhpcoagkmgdoaa
open Go.RowKit Go.Q Go.Shelf Go.Joins
theorem size_u8 (W : World) : (sizeOf (Try.prog.elem 23)).run Try.prog W = .ok 1 W := by
 rw [show Try.prog.elem 23 = 5 by kernel_rfl]
 obtain ⟨i0, hi, _, hz1, _⟩ := info_parts Try.infoU
 simp [sizeOf, typeInfo, hi, hz1, go_sem]
theorem slice_fromU (W : World) (g off n k1 lo : Nat) (h1 : lo < k1) (h2 : lo ≤ n) : (Instr.slice 23 (.slice (some ⟨g, off, none⟩) n k1) (some (.int .i64 (lo : Int))) none none).run Try.prog W = .ok (.slice (some ⟨g, off + lo, none⟩) (n - lo) (k1 - lo)) W := by
 have h := run_slice_l (P := Try.prog) (w := W) 23 (some ⟨g, off, none⟩) n k1 (by rw [Try.underlying23]; kernel_rfl) .i64 (lo : Int) (by omega) (by omega)
 rw [h, size_u8]
 show Result.ok (sliced _ _ _ _ 1) W = _
 unfold sliced
 rw [if_neg (by omega)]
 simp [Addr.add]
theorem slice_toU (W : World) (g off n k1 hi : Nat) (h0 : 0 < k1) (h1 : hi ≤ k1) : (Instr.slice 23 (.slice (some ⟨g, off, none⟩) n k1) none (some (.int .i64 (hi : Int))) none).run Try.prog W = .ok (.slice (some ⟨g, off, none⟩) hi k1) W := by
 have h := run_slice_h (P := Try.prog) (w := W) 23 (some ⟨g, off, none⟩) n k1 (by rw [Try.underlying23]; kernel_rfl) .i64 (hi : Int) (by omega) (by omega)
 rw [h, size_u8]
 show Result.ok (sliced _ _ _ _ 1) W = _
 unfold sliced
 rw [if_neg (by omega)]
 simp [Addr.add]
theorem slice_threeU (W : World) (g off n k1 lo hi : Nat) (h1 : lo < hi) (h3 : hi ≤ k1) : (Instr.slice 23 (.slice (some ⟨g, off, none⟩) n k1) (some (.int .i64 (lo : Int))) (some (.int .i64 (hi : Int))) (some (.int .i64 (hi : Int)))).run Try.prog W = .ok (.slice (some ⟨g, off + lo, none⟩) (hi - lo) (hi - lo)) W := by
 have h := run_slice_lhm (P := Try.prog) (w := W) 23 (some ⟨g, off, none⟩) n k1 (by rw [Try.underlying23]; kernel_rfl) .i64 .i64 .i64 (lo : Int) (hi : Int) (hi : Int) (by omega) (by omega) (by omega) (by omega)
 rw [h, size_u8]
 show Result.ok (sliced _ _ _ _ 1) W = _
 unfold sliced
 rw [if_neg (by omega)]
 simp [Addr.add]
theorem slice_toI (W : World) (g off n k1 hi : Nat) (h0 : 0 < k1) (h1 : hi ≤ k1) : (Instr.slice 22 (.slice (some ⟨g, off, none⟩) n k1) none (some (.int .i64 (hi : Int))) none).run Try.prog W = .ok (.slice (some ⟨g, off, none⟩) hi k1) W := by
 have h := run_slice_h (P := Try.prog) (w := W) 22 (some ⟨g, off, none⟩) n k1 (by rw [Try.underlying22]; kernel_rfl) .i64 (hi : Int) (by omega) (by omega)
 rw [h, size_int]
 show Result.ok (sliced _ _ _ _ 1) W = _
 unfold sliced
 rw [if_neg (by omega)]
 simp [Addr.add]
theorem at_sliceU {W W' : World} {v r : Value} {lo hi mx : Option Value} (h : (Instr.slice 23 v lo hi mx).run Try.prog W = .ok r W') : (Instr.sliceAt 23 v lo hi mx).run Try.prog W = .ok r W' :=
 Eq.trans (run_sliceAt_slice (P := Try.prog) (w := W) 23 _ _ _ _ (by rw [Try.underlying23]; kernel_rfl)) h
end Go.Proofs.Ytnhpcoagkmgdoaa

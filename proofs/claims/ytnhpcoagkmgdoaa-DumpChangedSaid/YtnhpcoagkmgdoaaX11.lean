import Derived.Maps.AppendAt
import Derived.Test.YtnhpcoagkmgdoaaX10
set_option linter.unusedVariables false
set_option linter.unusedSimpArgs false
/- Three rows that grow side by side; slices of rows of bytes. -/
namespace Go.Proofs.Ytnhpcoagkmgdoaa
open Go.RowKit Go.Q Go.Joins
/-- two rows do not lie in one block -/
def Ap2 (u v : Value) : Prop := u.ownBlock = none ∨ u.ownBlock ≠ v.ownBlock
theorem Ap2.symm {u v : Value} (h : Ap2 u v) : Ap2 v u := by
 cases e : v.ownBlock with
 | none => exact .inl e
 | some b =>
  refine .inr ?_
  rw [e]
  rcases h with h | h
  ·rw [h]; intro q; cases q
  ·intro q; exact h (by rw [e]; exact q.symm)
/-- right rows, mended rows, words -/
structure R3 (B tU tI : Nat) (X : World) (s7 s8 s9 : Value) (x7 x8 x9 : List Int) : Prop where
 r7 : X.ownsRow B tU 1 s7 x7.length (ub x7)
 r8 : X.ownsRow B tI 1 s8 x8.length (iv x8)
 r9 : X.ownsRow B tI 1 s9 x9.length (iv x9)
 a78 : Ap2 s7 s8
 a79 : Ap2 s7 s9
 a89 : Ap2 s8 s9
theorem own_extX {w w' : World} {B t sz n : Nat} {v : Value} {xs : List Value} (h : w.ownsRow B t sz v n xs) (E : Ext w w') : w'.ownsRow B t sz v n xs := by
 refine ⟨h.1, ?_⟩
 rcases h.2 with h2 | ⟨g, cap, cur, rfl, hb, hg, r⟩
 ·exact .inl h2
 ·exact .inr ⟨g, cap, cur, rfl, hb, (E.block g (lt_of_block hg)).trans hg, r⟩
theorem R3.ext {B tU tI : Nat} {X Y : World} {s7 s8 s9 : Value} {x7 x8 x9 : List Int} (h : R3 B tU tI X s7 s8 s9 x7 x8 x9) (E : Ext X Y) : R3 B tU tI Y s7 s8 s9 x7 x8 x9 :=
 ⟨own_extX h.r7 E, own_extX h.r8 E, own_extX h.r9 E, h.a78, h.a79, h.a89⟩
theorem R3.set7 {B tU tI : Nat} {X : World} {g n c : Nat} {s8 s9 : Value} {x7 x8 x9 : List Int} (h : R3 B tU tI X (.slice (some ⟨g, 0, none⟩) n c) s8 s9 x7 x8 x9) (hn : x7.length = n) (j : Nat) (v : Int) :
  R3 B tU tI (X.setCell ⟨g, j, none⟩ (.int .u8 v)) (.slice (some ⟨g, 0, none⟩) n c) s8 s9 (x7.set j v) x8 x9 := by
 have h7 := h.r7
 rw [hn] at h7
 obtain ⟨k1, k2⟩ := h7.stored j (.int .u8 v)
 refine ⟨?_, h.r8.kept k2 h.a78.symm, h.r9.kept k2 h.a79.symm, h.a78, h.a79, h.a89⟩
 rw [List.length_set, hn]
 unfold ub at k1 ⊢
 rw [List.map_set]
 exact k1
theorem ap_new {u v v' : Value} {W : World} (h : Ap2 u v) (hb : ∀ b, u.ownBlock = some b → b < W.heap.size) (hv : v'.ownBlock = v.ownBlock ∨ v'.ownBlock = some W.heap.size) : Ap2 u v' := by
 rcases hv with hv | hv
 ·unfold Ap2; rw [hv]; exact h
 ·cases e : u.ownBlock with
  | none => exact .inl e
  | some b =>
   refine .inr ?_
   rw [e, hv]
   intro q
   have := hb b e
   injection q with q
   omega
theorem R3.app8 {B tU tI : Nat} {X Y : World} {s7 s8 s9 v' : Value} {x7 x8 x9 : List Int} {x : Int} (h : R3 B tU tI X s7 s8 s9 x7 x8 x9) (ho : Y.ownsRow B tI 1 v' (x8.length + 1) (iv x8 ++ [.int .i64 x])) (hg : X.grownBy Y s8.ownBlock) (hv : v'.ownBlock = s8.ownBlock ∨ v'.ownBlock = some X.heap.size) :
  R3 B tU tI Y s7 v' s9 x7 (x8 ++ [x]) x9 := by
 refine ⟨h.r7.kept hg h.a78, ?_, h.r9.kept hg h.a89.symm, ap_new h.a78 (fun b e => (h.r7.lt b e).2) hv, h.a79, (ap_new h.a89.symm (fun b e => (h.r9.lt b e).2) hv).symm⟩
 rw [List.length_append]
 unfold iv at ho ⊢
 rw [List.map_append]
 exact ho
theorem R3.app9 {B tU tI : Nat} {X Y : World} {s7 s8 s9 v' : Value} {x7 x8 x9 : List Int} {x : Int} (h : R3 B tU tI X s7 s8 s9 x7 x8 x9) (ho : Y.ownsRow B tI 1 v' (x9.length + 1) (iv x9 ++ [.int .i64 x])) (hg : X.grownBy Y s9.ownBlock) (hv : v'.ownBlock = s9.ownBlock ∨ v'.ownBlock = some X.heap.size) :
  R3 B tU tI Y s7 s8 v' x7 x8 (x9 ++ [x]) := by
 refine ⟨h.r7.kept hg h.a79, h.r8.kept hg h.a89, ?_, h.a78, ap_new h.a79 (fun b e => (h.r7.lt b e).2) hv, ap_new h.a89 (fun b e => (h.r8.lt b e).2) hv⟩
 rw [List.length_append]
 unfold iv at ho ⊢
 rw [List.map_append]
 exact ho
theorem R3.cell7 {B tI g n c j : Nat} {X : World} {s8 s9 : Value} {x7 x8 x9 : List Int} (h : R3 B 5 tI X (.slice (some ⟨g, 0, none⟩) n c) s8 s9 x7 x8 x9) (hn : x7.length = n) (hj : j < x7.length) : X.cell? ⟨g, j, none⟩ = some (.int .u8 (x7[j]?.getD 0)) := by
 have h7 := h.r7
 rw [hn] at h7
 rcases own_bytes h7 with e | ⟨b, off, ha, _, hc⟩
 ·rw [e] at hj; simp at hj
 ·simp only [Option.some.injEq, Addr.mk.injEq, and_true] at ha
  obtain ⟨rfl, rfl⟩ := ha
  have := hc j hj
  rwa [Nat.zero_add] at this
theorem slice_u8s (W : World) (g off n k1 lo hi : Nat) (h1 : lo < k1) (h2 : lo ≤ hi) (h3 : hi ≤ k1) : (Instr.slice 23 (.slice (some ⟨g, off, none⟩) n k1) (some (.int .i64 (lo : Int))) (some (.int .i64 (hi : Int))) none).run Try.prog W = .ok (.slice (some ⟨g, off + lo, none⟩) (hi - lo) (k1 - lo)) W := by
 have h := run_slice_lh (P := Try.prog) (w := W) 23 (some ⟨g, off, none⟩) n k1 (by rw [Try.underlying23]; kernel_rfl) .i64 .i64 (lo : Int) (hi : Int) (by omega) (by omega) (by omega)
 rw [h]
 have e : (sizeOf (Try.prog.elem 23)).run Try.prog W = .ok 1 W := by
  rw [show Try.prog.elem 23 = 5 by kernel_rfl]
  obtain ⟨i0, hi, _, hz1, _⟩ := info_parts Try.infoU
  simp [sizeOf, typeInfo, hi, hz1, go_sem]
 rw [e]
 show Result.ok (sliced _ _ _ _ 1) W = _
 unfold sliced
 rw [if_neg (by omega)]
 simp [Addr.add]
theorem slice_u8sAt (W : World) (g off n k1 lo hi : Nat) (h1 : lo < k1) (h2 : lo ≤ hi) (h3 : hi ≤ k1) : (Instr.sliceAt 23 (.slice (some ⟨g, off, none⟩) n k1) (some (.int .i64 (lo : Int))) (some (.int .i64 (hi : Int))) none).run Try.prog W = .ok (.slice (some ⟨g, off + lo, none⟩) (hi - lo) (k1 - lo)) W := by
 refine Eq.trans (run_sliceAt_slice (P := Try.prog) (w := W) 23 _ _ _ _ (by rw [Try.underlying23]; kernel_rfl)) ?_
 exact slice_u8s W g off n k1 lo hi h1 h2 h3
theorem sub_u8s {W : World} {g off lo k : Nat} {xs : List Nat} (h : BytesAt W (some ⟨g, off, none⟩) (natI xs)) (hl : lo + k ≤ xs.length) : BytesAt W (some ⟨g, off + lo, none⟩) (natI ((xs.drop lo).take k)) := by
 rcases h with e | ⟨b, o, ha, hb, hc⟩
 ·have := natI_length xs
  rw [e] at this
  simp only [List.length_nil] at this
  refine .inl ?_
  rw [List.eq_nil_of_length_eq_zero this.symm]
  simp [natI]
 ·simp only [Option.some.injEq, Addr.mk.injEq, and_true] at ha
  obtain ⟨rfl, rfl⟩ := ha
  refine .inr ⟨g, off + lo, rfl, hb, fun i hi => ?_⟩
  rw [natI_length, List.length_take, List.length_drop] at hi
  have := hc (lo + i) (by rw [natI_length]; omega)
  rw [← Nat.add_assoc, natI_get] at this
  rw [this, natI_get, List.getElem?_take, if_pos (by omega), List.getElem?_drop]
theorem sub_intsN {W : World} {g lo k : Nat} {xs : List Int} (h : IntsAt W (some ⟨g, 0, none⟩) xs) (hl : lo + k ≤ xs.length) : IntsAt W (some ⟨g, lo, none⟩) ((xs.drop lo).take k) := by
 rcases h with e | ⟨b, off, ha, hb, hc⟩
 ·rw [e]; exact .inl (by simp)
 ·simp only [Option.some.injEq, Addr.mk.injEq, and_true] at ha
  obtain ⟨rfl, rfl⟩ := ha
  refine .inr ⟨g, lo, rfl, hb, fun i hi => ?_⟩
  rw [List.length_take, List.length_drop] at hi
  have := hc (lo + i) (by omega)
  rw [Nat.zero_add] at this
  rw [this, List.getElem?_take, if_pos (by omega), List.getElem?_drop]
end Go.Proofs.Ytnhpcoagkmgdoaa

import Derived.Test.YtnhpcoagkmgdoaaGreatX7
set_option linter.unusedVariables false
set_option linter.unusedSimpArgs false
/- Layer 10's law: the rows that Awake begins with. -/
namespace Go.Q
def rows63 (i : Nat) : List Nat := [1, 64, 64, 64, 127] ++ List.replicate i 64
theorem rows63_succ (i : Nat) : rows63 (i + 1) = rows63 i ++ [64] := by unfold rows63; rw [List.replicate_succ', List.append_assoc]
theorem rows63_tape : tapeW [63] = rows63 59 ++ [62] := by decide +kernel
end Go.Q
namespace Go.Proofs.YtnhpcoagkmgdoaaGreat
open Go.RowKit Go.Q Go.Joins
set_option maxRecDepth 100000 in
set_option maxHeartbeats 4000000 in
theorem rows10_any (w : World) : Calls Tryz.prog 31 #[] w fun e w' => ∃ a c, e = .returned (.slice a 65 c) ∧ w'.ownsRow w.heap.size 5 1 (.slice a 65 c) 65 (ub (natI (tapeW [63]))) ∧ Ext w w' := by
 have HT := Lib.hid rows63_tape
 obtain ⟨tp, htp⟩ : ∃ tp, tapeW [63] = tp := ⟨_, rfl⟩
 rw [htp] at HT ⊢
 clear htp
 obtain ⟨i1, hi1, hy0, hy1, hy2⟩ := info_parts Tryz.infoU
 go_enter Tryz.func31, Tryz.ntmps31
 go_wp2
 have h0 : (w.alloc (.cells #[.int .u8 1, .int .u8 64, .int .u8 64, .int .u8 64, .int .u8 127] 5)).ownsRow w.heap.size 5 1 (.slice (some ⟨w.heap.size, 0, none⟩) 5 5) (5 + 0) (ub (natI (rows63 0))) := World.ownsRow_lit w #[.int .u8 1, .int .u8 64, .int .u8 64, .int .u8 64, .int .u8 127] 5 (Nat.le_refl _) (by unfold maxLen; decide) rfl
 have e0 : Ext w (w.alloc (.cells #[.int .u8 1, .int .u8 64, .int .u8 64, .int .u8 64, .int .u8 127] 5)) := (Ext.refl w).alloc _
 go_loopw [1, 2] (fun s1 s2 X => ∃ i : Nat, i ≤ 59 ∧ s2 = .int .i64 (i : Int) ∧ (∃ a c n, n = 5 + i ∧ s1 = .slice a n c ∧ X.ownsRow w.heap.size 5 1 (.slice a n c) n (ub (natI (rows63 i)))) ∧ Ext w X) (fun _ s2 _ => 59 - (Go.RowKit.intOf s2).toNat)
 case atStart => exact ⟨0, by omega, rfl, ⟨_, _, 5, rfl, rfl, h0⟩, e0⟩
 case round =>
  clear h0 e0
  obtain ⟨i, hi, rfl, ⟨a, c, n, hn, rfl, hown⟩, EX⟩ := hrel
  obtain ⟨X, rfl⟩ : ∃ X : World, X = wr := ⟨_, rfl⟩
  have hXs := EX.size
  by_cases hlt : i < 59
  ·have hltz : (i : Int) < 59 := by omega
   have HS := Lib.hid (rows63_succ i)
   have HNN := Lib.hid hn
   clear hn
   have hn64 : n ≤ 64 := by have := HNN.out; omega
   go_wp2_with (at_builtin; refine wpList_append_own _ rfl _ _ 63 rfl w.heap.size 5 i1 (.int .u8 0) 1 1 Tryz.underlying63 hi1 hy0 hy1 hy2 rfl (by decide) _ _ _ rfl (hown.alloc _) ⟨X.heap.size, 0, none⟩ 1 1 [.int .u8 64] rfl rfl (cell_one_new _ _ _) (by simp [Value.oneCell']) (by unfold maxLen; omega) (by omega) (by simp; omega) ?_; intro v' w7 hown' hgrow hnil)
   have E7 : Ext w w7 := (EX.alloc _).grown hgrow (by simp; omega) (fun q e => (hown.lt q e).1)
   obtain ⟨a7, c7, rfl⟩ := own_formU hown'
   have hown7 : w7.ownsRow w.heap.size 5 1 (.slice a7 (n + 1) c7) (n + 1) (ub (natI (rows63 (i + 1)))) := by
    rw [HS.out, natI_append]
    unfold ub at hown' ⊢
    rw [List.map_append]
    exact hown'
   clear hown hown' hgrow hnil EX
   (try go_frame)
   go_wp2
   go_roundw
   case rel => exact ⟨i + 1, by omega, by go_num, ⟨a7, c7, n + 1, by have := HNN.out; omega, rfl, hown7⟩, E7⟩
   case measure => simp [Go.RowKit.intOf]; omega
  ·obtain rfl : i = 59 := by omega
   obtain rfl : n = 64 := by omega
   go_wp2_with (at_builtin; refine wpList_append_own _ rfl _ _ 63 rfl w.heap.size 5 i1 (.int .u8 0) 1 1 Tryz.underlying63 hi1 hy0 hy1 hy2 rfl (by decide) _ _ _ rfl (hown.alloc _) ⟨X.heap.size, 0, none⟩ 1 1 [.int .u8 62] rfl rfl (cell_one_new _ _ _) (by simp [Value.oneCell']) (by unfold maxLen; omega) (by omega) (by simp; omega) ?_; intro v' w7 hown' hgrow hnil)
   have E7 : Ext w w7 := (EX.alloc _).grown hgrow (by simp; omega) (fun q e => (hown.lt q e).1)
   obtain ⟨a7, c7, rfl⟩ := own_formU hown'
   have hown7 : w7.ownsRow w.heap.size 5 1 (.slice a7 65 c7) 65 (ub (natI tp)) := by
    rw [HT.out, natI_append]
    unfold ub at hown' ⊢
    rw [List.map_append]
    exact hown'
   clear hown hown' hgrow hnil EX
   (try go_frame)
   go_wp2
   exact bodyPost_ret (v := .slice a7 65 c7) (by simp [results, Tryz.results31, go_sem]) rfl ⟨a7, c7, rfl, hown7, E7⟩
end Go.Proofs.YtnhpcoagkmgdoaaGreat
/- Layer 10's law: one loss. -/
namespace Go.Q
/-- values in memory, one behind the other -/
def ValsAt (w : World) (a : Option Addr) (vs : List Value) : Prop := vs = [] ∨ ∃ b off, a = some ⟨b, off, none⟩ ∧ b < w.heap.size ∧ ∀ i, i < vs.length → w.cell? ⟨b, off + i, none⟩ = vs[i]?
end Go.Q
namespace Go.Proofs.YtnhpcoagkmgdoaaGreat
open Go.RowKit Go.Q Go.Joins
theorem loss10_any (n : Int) (w : World) : Calls Tryz.prog 33 #[.int .i64 n] w fun e w' => ∃ a c, e = .returned (.slice a 1 c) ∧ 1 ≤ c ∧ ValsAt w' a [.int .i64 3, .int .i64 n, .int .i64 0] ∧ Ext w w' := by
 go_enter Tryz.func33, Tryz.ntmps33
 go_wp2
 go_ret
 refine ⟨_, _, rfl, by decide, .inr ⟨w.heap.size, 0, rfl, by simp, fun i hi => ?_⟩, (Ext.refl w).alloc _⟩
 match i, hi with
 | 0, _ => exact box_at (Ext.refl _) 0 rfl
 | 1, _ => exact box_at (Ext.refl _) 1 rfl
 | 2, _ => exact box_at (Ext.refl _) 2 rfl
end Go.Proofs.YtnhpcoagkmgdoaaGreat
/- A row of bytes of one's own: a byte is stored, a byte is read. -/
namespace Go.Proofs.YtnhpcoagkmgdoaaGreat
open Go.RowKit Go.Q Go.Joins
theorem own_setU {X : World} {g n c B : Nat} {xs : List Int} (h : X.ownsRow B 5 1 (.slice (some ⟨g, 0, none⟩) n c) n (ub xs)) (j : Nat) (v : Int) : (X.setCell ⟨g, j, none⟩ (.int .u8 v)).ownsRow B 5 1 (.slice (some ⟨g, 0, none⟩) n c) n (ub (xs.set j v)) := by
 obtain ⟨k1, _⟩ := h.stored j (.int .u8 v)
 unfold ub at k1 ⊢
 rw [List.map_set]
 exact k1
theorem own_cellU {X : World} {g n c B : Nat} {xs : List Int} (h : X.ownsRow B 5 1 (.slice (some ⟨g, 0, none⟩) n c) n (ub xs)) (j : Nat) (hj : j < xs.length) : X.cell? ⟨g, j, none⟩ = some (.int .u8 (xs[j]?.getD 0)) := by
 rcases own_bytes h with e | ⟨b, off, ha, _, hc⟩
 ·rw [e] at hj; exact absurd hj (Nat.not_lt_zero _)
 ·cases ha
  have := hc j hj
  rwa [Nat.zero_add] at this
end Go.Proofs.YtnhpcoagkmgdoaaGreat

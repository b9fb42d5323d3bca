/- Contracts of layer 1's reference: Span; Can where it refuses. -/
import Derived.Test.YtkkchoinfdfiaaaJ5
set_option linter.unusedVariables false
set_option linter.unusedSimpArgs false
namespace Go.Q
/-- the error before the spans are looked at -/
def canY (l : Ln) (ss : List Sp) : Int := if okL l = false then 7 else if 60 < ss.length then 3 else 0
theorem canX_Y {l : Ln} {ss : List Sp} (h : canY l ss ≠ 0) : canX l ss = canY l ss := by
  unfold canX canY at *
  by_cases h1 : okL l = false
  · rw [if_pos h1, if_pos h1]
  · rw [if_neg h1] at h ⊢
    by_cases h2 : 60 < ss.length
    · rw [if_pos h2]; rw [if_neg h1, if_pos h2]
    · rw [if_neg h2] at h; omega
theorem canX_Z {l : Ln} {ss : List Sp} (h : canY l ss = 0) : canX l ss = spansX ss ∧ okL l = true ∧ ss.length ≤ 60 := by
  unfold canX canY at *
  by_cases h1 : okL l = false
  · rw [if_pos h1] at h; omega
  · rw [if_neg h1] at h ⊢
    by_cases h2 : 60 < ss.length
    · rw [if_pos h2] at h; omega
    · rw [if_neg h2]; exact ⟨rfl, by simpa using h1, by omega⟩
theorem spansX_take {ss : List Sp} {k : Nat} (hk : k < ss.length) (hz : spansX (ss.take k) = 0) : spansX (ss.take (k + 1)) = spanX (ss[k]?.getD ⟨0, 0⟩) := by
  induction ss generalizing k with
  | nil => simp at hk
  | cons s ss ih =>
    cases k with
    | zero =>
      simp only [List.take_succ_cons, List.take_zero, List.getElem?_cons_zero, Option.getD_some]
      unfold spansX spansX
      split <;> omega
    | succ k =>
      rw [List.take_succ_cons] at hz ⊢
      unfold spansX at hz ⊢
      split at hz
      · omega
      · rename_i h0
        rw [if_neg h0]
        exact ih (by simpa using hk) hz
theorem spansX_more {ss : List Sp} : ∀ {k : Nat}, spansX (ss.take k) ≠ 0 → spansX ss = spansX (ss.take k) := by
  induction ss with
  | nil => intro k h; simp [spansX] at h
  | cons s ss ih =>
    intro k h
    cases k with
    | zero => simp [spansX] at h
    | succ k =>
      rw [List.take_succ_cons] at h ⊢
      unfold spansX at h ⊢
      split
      · rfl
      · rename_i h0
        rw [if_neg h0] at h
        exact ih h
end Go.Q
namespace Go.Proofs.Ytkkchoinfdfiaaa
open Go.RowKit Go.Q Go.Shelf Go.Maps

theorem madeB_cell (W : World) {n i : Nat} (h : i < n) : (W.alloc (.cells (Array.replicate n (Value.bool false)) 4)).cell? ⟨W.heap.size, i, none⟩ = some (.bool false) ∧ (W.alloc (.cells (Array.replicate n (Value.bool false)) 4)).frozen? ⟨W.heap.size, i, none⟩ = false :=
  ⟨box_at (Ext.refl _) i (by simp [h]), box_free (Ext.refl _) i⟩
theorem madeB_cell2 (W : World) (o : Obj) {n i : Nat} (h : i < n) : ((W.alloc o).alloc (.cells (Array.replicate n (Value.bool false)) 4)).cell? ⟨W.heap.size + 1, i, none⟩ = some (.bool false) ∧ ((W.alloc o).alloc (.cells (Array.replicate n (Value.bool false)) 4)).frozen? ⟨W.heap.size + 1, i, none⟩ = false := by
  have h1 := madeB_cell (W.alloc o) h
  rw [World.size_alloc] at h1
  exact h1
set_option maxHeartbeats 1000000 in
theorem rspan_any (lo hi : Int) (w : World) :
    Calls Try.prog 67 #[.agg #[.int .i64 lo, .int .i64 hi]] w fun e w' => e = .returned (.int .i64 (spanX ⟨lo, hi⟩)) ∧ Ext w w' := by
  have hs1 := fun W => rtemp_any lo W
  have hs2 := fun W => rtemp_any hi W
  unfold spanX
  dsimp only
  cases h1 : tempB lo with
  | false =>
    rw [if_pos (.inl rfl)]
    rw [h1] at hs1
    clear h1
    go_enter Try.func67, Try.ntmps67
    go_wp2_with fail
    refine (hs1 _).mono ?_
    rintro e w1 ⟨rfl, rfl⟩
    go_wp2
    go_ret
    exact ⟨rfl, (Ext.refl w).alloc _⟩
  | true =>
    rw [h1] at hs1
    clear h1
    cases h2 : tempB hi with
    | false =>
      rw [if_pos (.inr rfl)]
      rw [h2] at hs2
      clear h2
      go_enter Try.func67, Try.ntmps67
      go_wp2_with fail
      refine (hs1 _).mono ?_
      rintro e w1 ⟨rfl, rfl⟩
      go_wp2_with fail
      refine (hs2 _).mono ?_
      rintro e w1 ⟨rfl, rfl⟩
      go_wp2
      go_ret
      exact ⟨rfl, (Ext.refl w).alloc _⟩
    | true =>
      rw [if_neg (by simp)]
      rw [h2] at hs2
      clear h2
      by_cases h3 : hi < lo
      · rw [if_pos h3]
        go_enter Try.func67, Try.ntmps67
        go_wp2_with fail
        refine (hs1 _).mono ?_
        rintro e w1 ⟨rfl, rfl⟩
        go_wp2_with fail
        refine (hs2 _).mono ?_
        rintro e w1 ⟨rfl, rfl⟩
        go_wp2
        go_ret
        exact ⟨rfl, (Ext.refl w).alloc _⟩
      · rw [if_neg h3]
        go_enter Try.func67, Try.ntmps67
        go_wp2_with fail
        refine (hs1 _).mono ?_
        rintro e w1 ⟨rfl, rfl⟩
        go_wp2_with fail
        refine (hs2 _).mono ?_
        rintro e w1 ⟨rfl, rfl⟩
        go_wp2
        go_ret
        exact ⟨rfl, (Ext.refl w).alloc _⟩
set_option maxRecDepth 100000 in
set_option maxHeartbeats 4000000 in
theorem rcan_early (l : Ln) (a2 : Option Addr) (n2 c2 : Nat) (ss : List Sp) (w : World) (l2 : ss.length = n2) (b2 : n2 ≤ 9223372036854775807) (hy : canY l ss ≠ 0) :
    Calls Try.prog 27 #[.agg #[.int .i64 l.words, .int .i64 l.bits, .int .i64 l.period, .int .i64 l.delay, .int .i64 l.slope, .int .i64 l.window], .slice a2 n2 c2] w (CanRes (canE l ss) w) := by
  have hE : canE l ss = ([], false, canY l ss) := by unfold canE; rw [if_neg (by rw [canX_Y hy]; exact hy), canX_Y hy]
  rw [hE]
  have hck := fun W => rcheck_any l W
  by_cases h1 : okL l = false
  · have e : canY l ss = 7 := by unfold canY; rw [if_pos h1]
    rw [e]
    rw [checkL_no h1] at hck
    clear hE hy e h1
    go_enter Try.func27, Try.ntmps27
    go_wp2_with fail
    refine (hck _).mono ?_
    rintro e w1 ⟨rfl, E1⟩
    go_wp2_with fail
    have HE1 := Lib.hid E1
    have hEw : Ext w w1 := E1.old.old
    clear E1
    go_loopw [6, 7] (fun s6 s7 wr => s6 = .int .i64 7 ∧ s7 = .int .i64 0 ∧ Ext w1 wr) (fun _ _ _ => 0)
    case atStart => exact ⟨rfl, rfl, Ext.refl _⟩
    case round =>
      obtain ⟨rfl, rfl, EW⟩ := hrel
      have E2 := HE1.out.comp EW
      have z0 := box_at2 (v := .slice none 0 0) E2 0 rfl
      have z1 := box_at2 (v := .bool false) E2 1 rfl
      have f0 := box_free2 E2 0
      have f1 := box_free2 E2 1
      by_cases h0 : 0 < n2
      · have h0z : (0 : Int) < (n2 : Int) := by omega
        go_wp2
        refine bodyPost_ret (v := .tuple #[.agg #[.slice none 0 0, .bool false], .int .i64 7]) (by simp [results, Try.results27, go_sem, z0, z1, f0, f1]) rfl (can_err ?_)
        exact ((hEw.comp EW).setCell (p := ⟨w.heap.size + 1, 0, none⟩) (Nat.le_succ _) _).setCell (p := ⟨w.heap.size + 1, 1, none⟩) (Nat.le_succ _) _
      · have h0z : ¬ (0 : Int) < (n2 : Int) := by omega
        go_wp2
        refine bodyPost_ret (v := .tuple #[.agg #[.slice none 0 0, .bool false], .int .i64 7]) (by simp [results, Try.results27, go_sem, z0, z1, f0, f1]) rfl (can_err ?_)
        exact ((hEw.comp EW).setCell (p := ⟨w.heap.size + 1, 0, none⟩) (Nat.le_succ _) _).setCell (p := ⟨w.heap.size + 1, 1, none⟩) (Nat.le_succ _) _
  · have h1' : okL l = true := by simpa using h1
    rw [checkL_of h1'] at hck
    have h3 : 60 < n2 := by
      unfold canY at hy
      rw [if_neg h1] at hy
      split at hy
      · omega
      · omega
    have e : canY l ss = 3 := by unfold canY; rw [if_neg h1, if_pos (by omega)]
    rw [e]
    have d1 : decide (60 < (n2 : Int)) = true := decide_eq_true (by omega)
    clear hE hy e h1 h1'
    go_enter Try.func27, Try.ntmps27
    go_wp2_with fail
    refine (hck _).mono ?_
    rintro e w1 ⟨rfl, E1⟩
    go_wp2_with fail
    have HE1 := Lib.hid E1
    have hEw : Ext w w1 := E1.old.old
    clear E1
    go_loopw [6, 7] (fun s6 s7 wr => s6 = .int .i64 3 ∧ s7 = .int .i64 0 ∧ Ext w1 wr) (fun _ _ _ => 0)
    case atStart => exact ⟨rfl, rfl, Ext.refl _⟩
    case round =>
      obtain ⟨rfl, rfl, EW⟩ := hrel
      have E2 := HE1.out.comp EW
      have z0 := box_at2 (v := .slice none 0 0) E2 0 rfl
      have z1 := box_at2 (v := .bool false) E2 1 rfl
      have f0 := box_free2 E2 0
      have f1 := box_free2 E2 1
      by_cases h0 : 0 < n2
      · have h0z : (0 : Int) < (n2 : Int) := by omega
        go_wp2
        refine bodyPost_ret (v := .tuple #[.agg #[.slice none 0 0, .bool false], .int .i64 3]) (by simp [results, Try.results27, go_sem, z0, z1, f0, f1]) rfl (can_err ?_)
        exact ((hEw.comp EW).setCell (p := ⟨w.heap.size + 1, 0, none⟩) (Nat.le_succ _) _).setCell (p := ⟨w.heap.size + 1, 1, none⟩) (Nat.le_succ _) _
      · exfalso; omega
end Go.Proofs.Ytkkchoinfdfiaaa

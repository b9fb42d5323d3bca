/- Contracts: when (both), When (both). -/
import Derived.Test.YtjfggepgjpdebaaA4
import Derived.Deep.RegionHeld3
import Derived.Deep.DeepCutAuto
set_option linter.unusedVariables false
set_option linter.unusedSimpArgs false
namespace Go.Proofs.Ytjfggepgjpdebaa
open Go.RowKit Go.Q

theorem after_bd (t a : Int) : t + 1 ≤ Q.after t a ∧ Q.after t a ≤ t + 16 := by unfold Q.after; omega

set_option maxHeartbeats 1000000 in
theorem when_def (o a b c : Int) (t : Int) (ng : Bool) (w : World) (h5 : (o == 5) = false) (h7 : (o == 7) = false) (h6 : (o == 6) = false) (h4 : (o == 4) = false)
    (ht0 : 0 ≤ t) (ht1 : t ≤ 1000000000) (ha0 : 0 ≤ a) (ha1 : a ≤ 127) (hb0 : 0 ≤ b) (hb1 : b ≤ 127) (hc0 : 0 ≤ c) (hc1 : c ≤ 127) :
    Calls Try.prog 63 #[.agg #[.int .i64 o, .int .i64 a, .int .i64 b, .int .i64 c], .int .i64 t, .bool ng] w fun e w' => e = .returned (.tuple #[.int .i64 c, .int .i64 (Q.after (Q.after (Q.after t a) b) c)]) ∧ Ext w w' := by
  have b1 := after_bd t a
  have b2 := after_bd (Q.after t a) b
  go_enter Try.func63, Try.ntmps63
  go_wp2
  generalize hW : World.alloc w _ = W
  have hE : Ext w W := by rw [← hW]; exact (Ext.refl w).alloc _
  have h1 : W.cell? ⟨w.heap.size, 1, none⟩ = some (.int .i64 a) := by rw [← hW]; simp [go_sem]
  have h2 : W.cell? ⟨w.heap.size, 2, none⟩ = some (.int .i64 b) := by rw [← hW]; simp [go_sem]
  clear hW
  go_region_held3 (fun w' => Ext w w' ∧ w'.cell? ⟨w.heap.size, 1, none⟩ = some (.int .i64 a) ∧ w'.cell? ⟨w.heap.size, 2, none⟩ = some (.int .i64 b))
    (first | exact ⟨hE.drew, h1, h2⟩ | exact ⟨Ext.comp hE.drew hb', cell_later hb' h1, cell_later hb' h2⟩ | (have hh := ‹Ext w _ ∧ _ ∧ _›; exact ⟨Ext.comp hh.1 hb', cell_later hb' hh.2.1, cell_later hb' hh.2.2⟩))
    (first | (go_at_call 92; refine (after_any _ _ _ (by omega) (by omega) (by omega) (by omega)).mono ?_; rintro e w' ⟨rfl, hb'⟩))
  have E1 := (‹Ext w _ ∧ _ ∧ _›).1
  go_wp2_with (go_at_call 92; refine (after_any _ _ _ (by omega) (by omega) (by omega) (by omega)).mono ?_; rintro e w' ⟨rfl, hb'⟩)
  go_ret2
  exact ⟨rfl, E1.comp hb'⟩

set_option maxHeartbeats 1000000 in
theorem when_mul (a b c : Int) (t : Int) (ng : Bool) (w : World)
    (ht0 : 0 ≤ t) (ht1 : t ≤ 1000000000) (ha0 : 0 ≤ a) (ha1 : a ≤ 127) (hb0 : 0 ≤ b) (hb1 : b ≤ 127) (hc0 : 0 ≤ c) (hc1 : c ≤ 127) :
    Calls Try.prog 63 #[.agg #[.int .i64 4, .int .i64 a, .int .i64 b, .int .i64 c], .int .i64 t, .bool ng] w fun e w' => e = .returned (.tuple #[.int .i64 c, .int .i64 (Q.after (Q.after (Q.after (Q.after t a) b + 12) b) c)]) ∧ Ext w w' := by
  have b1 := after_bd t a
  have b2 := after_bd (Q.after t a) b
  have b3 := after_bd (Q.after (Q.after t a) b + 12) b
  go_enter Try.func63, Try.ntmps63
  go_wp2
  generalize hW : World.alloc w _ = W
  have hE : Ext w W := by rw [← hW]; exact (Ext.refl w).alloc _
  have h1 : W.cell? ⟨w.heap.size, 1, none⟩ = some (.int .i64 a) := by rw [← hW]; simp [go_sem]
  have h2 : W.cell? ⟨w.heap.size, 2, none⟩ = some (.int .i64 b) := by rw [← hW]; simp [go_sem]
  clear hW
  go_region_held3 (fun w' => Ext w w' ∧ w'.cell? ⟨w.heap.size, 1, none⟩ = some (.int .i64 a) ∧ w'.cell? ⟨w.heap.size, 2, none⟩ = some (.int .i64 b))
    (first | exact ⟨hE.drew, h1, h2⟩ | exact ⟨Ext.comp hE.drew hb', cell_later hb' h1, cell_later hb' h2⟩ | (have hh := ‹Ext w _ ∧ _ ∧ _›; exact ⟨Ext.comp hh.1 hb', cell_later hb' hh.2.1, cell_later hb' hh.2.2⟩))
    (first | (go_at_call 92; refine (after_any _ _ _ (by omega) (by omega) (by omega) (by omega)).mono ?_; rintro e w' ⟨rfl, hb'⟩))
  obtain ⟨E1, _, q2⟩ := ‹Ext w _ ∧ _ ∧ _›
  go_wp2_with fail
  refine (after_any _ _ _ (by omega) (by omega) (by omega) (by omega)).mono ?_
  rintro e w2 ⟨rfl, hb2⟩
  go_wp2_with fail
  refine (after_any _ _ _ (by omega) (by omega) (by omega) (by omega)).mono ?_
  rintro e w3 ⟨rfl, hb3⟩
  go_wp2
  go_ret2
  exact ⟨rfl, (E1.comp hb2).comp hb3⟩

set_option maxHeartbeats 1000000 in
theorem when_read (a b c : Int) (t : Int) (ng : Bool) (w : World)
    (ht0 : 0 ≤ t) (ht1 : t ≤ 1000000000) (hb0 : 0 ≤ b) (hb1 : b ≤ 127) (hc0 : 0 ≤ c) (hc1 : c ≤ 127) :
    Calls Try.prog 63 #[.agg #[.int .i64 6, .int .i64 a, .int .i64 b, .int .i64 c], .int .i64 t, .bool ng] w fun e w' => e = .returned (.tuple #[.int .i64 c, .int .i64 (Q.after (Q.after t b) c)]) ∧ Ext w w' := by
  have b2 := after_bd t b
  go_enter Try.func63, Try.ntmps63
  go_wp2_with fail
  refine (after_any _ _ _ (by omega) (by omega) (by omega) (by omega)).mono ?_
  rintro e w2 ⟨rfl, hb2⟩
  go_wp2_with fail
  refine (after_any _ _ _ (by omega) (by omega) (by omega) (by omega)).mono ?_
  rintro e w3 ⟨rfl, hb3⟩
  go_wp2
  go_ret2
  exact ⟨rfl, (((Ext.refl w).alloc _).comp hb2).comp hb3⟩

set_option maxHeartbeats 1000000 in
theorem when_print (a b c : Int) (t : Int) (ng : Bool) (w : World)
    (ht0 : 0 ≤ t) (ht1 : t ≤ 1000000000) (ha0 : 0 ≤ a) (ha1 : a ≤ 127) (hc0 : 0 ≤ c) (hc1 : c ≤ 127) :
    Calls Try.prog 63 #[.agg #[.int .i64 7, .int .i64 a, .int .i64 b, .int .i64 c], .int .i64 t, .bool ng] w fun e w' => e = .returned (.tuple #[.int .i64 c, .int .i64 (Q.after (Q.after t a) c)]) ∧ Ext w w' := by
  have b2 := after_bd t a
  go_enter Try.func63, Try.ntmps63
  go_wp2_with fail
  refine (after_any _ _ _ (by omega) (by omega) (by omega) (by omega)).mono ?_
  rintro e w2 ⟨rfl, hb2⟩
  go_wp2_with fail
  refine (after_any _ _ _ (by omega) (by omega) (by omega) (by omega)).mono ?_
  rintro e w3 ⟨rfl, hb3⟩
  go_wp2
  go_ret2
  exact ⟨rfl, (((Ext.refl w).alloc _).comp hb2).comp hb3⟩

set_option maxHeartbeats 1000000 in
theorem when_test (a b c : Int) (t : Int) (ng : Bool) (w : World)
    (ht0 : 0 ≤ t) (ht1 : t ≤ 1000000000) (ha0 : 0 ≤ a) (ha1 : a ≤ 127) (hb0 : 0 ≤ b) (hb1 : b ≤ 127) (hc0 : 0 ≤ c) (hc1 : c ≤ 127) :
    Calls Try.prog 63 #[.agg #[.int .i64 5, .int .i64 a, .int .i64 b, .int .i64 c], .int .i64 t, .bool ng] w fun e w' => e = .returned (.tuple #[.int .i64 (if ng then b else c), .int .i64 (Q.after (Q.after t a) (if ng then b else c))]) ∧ Ext w w' := by
  have b2 := after_bd t a
  cases ng
  all_goals
    go_enter Try.func63, Try.ntmps63
    go_wp2_with fail
    refine (after_any _ _ _ (by omega) (by omega) (by omega) (by omega)).mono ?_
    rintro e w2 ⟨rfl, hb2⟩
    go_wp2_with fail
    refine (after_any _ _ _ (by omega) (by omega) (by omega) (by omega)).mono ?_
    rintro e w3 ⟨rfl, hb3⟩
    go_wp2
    go_ret2
    exact ⟨rfl, (((Ext.refl w).alloc _).comp hb2).comp hb3⟩

theorem ordB_bd {o a b c : Int} (h : ordB ⟨o, a, b, c⟩ = true) : (0 ≤ o ∧ o ≤ 7) ∧ (0 ≤ a ∧ a ≤ 127) ∧ (0 ≤ b ∧ b ≤ 127) ∧ 0 ≤ c ∧ c ≤ 127 := by
  simp [ordB, inB, addrB] at h
  omega

theorem when_any (o a b c : Int) (t : Int) (ng : Bool) (w : World) (ho : ordB ⟨o, a, b, c⟩ = true) (ht0 : 0 ≤ t) (ht1 : t ≤ 1000000000) :
    Calls Try.prog 63 #[.agg #[.int .i64 o, .int .i64 a, .int .i64 b, .int .i64 c], .int .i64 t, .bool ng] w fun e w' => e = .returned (.tuple #[.int .i64 (whenAt ⟨o, a, b, c⟩ ng), .int .i64 (whenUntil ⟨o, a, b, c⟩ t ng)]) ∧ Ext w w' := by
  obtain ⟨⟨o0, o1⟩, ⟨a0, a1⟩, ⟨b0, b1⟩, c0, c1⟩ := ordB_bd ho
  by_cases h5 : o = 5
  · subst h5
    refine (when_test a b c t ng w ht0 ht1 a0 a1 b0 b1 c0 c1).mono fun e w' h => ?_
    cases ng <;> simpa [whenAt, whenUntil, whenEnd] using h
  by_cases h7 : o = 7
  · subst h7
    refine (when_print a b c t ng w ht0 ht1 a0 a1 c0 c1).mono fun e w' h => ?_
    simpa [whenAt, whenUntil, whenEnd] using h
  by_cases h6 : o = 6
  · subst h6
    refine (when_read a b c t ng w ht0 ht1 b0 b1 c0 c1).mono fun e w' h => ?_
    simpa [whenAt, whenUntil, whenEnd] using h
  by_cases h4 : o = 4
  · subst h4
    refine (when_mul a b c t ng w ht0 ht1 a0 a1 b0 b1 c0 c1).mono fun e w' h => ?_
    simpa [whenAt, whenUntil, whenEnd] using h
  refine (when_def o a b c t ng w (by simpa using h5) (by simpa using h7) (by simpa using h6) (by simpa using h4) ht0 ht1 a0 a1 b0 b1 c0 c1).mono fun e w' h => ?_
  simpa [whenAt, whenUntil, whenEnd, h5, h7, h6, h4] using h
end Go.Proofs.Ytjfggepgjpdebaa

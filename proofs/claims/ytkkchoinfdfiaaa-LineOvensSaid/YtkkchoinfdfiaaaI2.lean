/- Contracts of layer 1's reference: shift, Shift, safe. -/
import Derived.Test.YtkkchoinfdfiaaaI1
set_option linter.unusedVariables false
set_option linter.unusedSimpArgs false
namespace Go.Q
/-- division that rounds to zero is near the floor -/
theorem near_by {a b w : Int} (hb : 2 ≤ b) (hw0 : 0 ≤ w) (hw1 : w ≤ (b - 1) / 2) : a.tdiv b - 1 ≤ (a + w) / b ∧ (a + w) / b ≤ a.tdiv b + 1 := by
  have h := floor_of_tdiv (a := a) (b := b) (by omega)
  have e1 := Int.emod_add_mul_ediv a b
  have e2 := Int.emod_nonneg a (show b ≠ 0 by omega)
  have e3 := Int.emod_lt_of_pos a (show 0 < b by omega)
  have e4 : a / b ≤ (a + w) / b := Int.ediv_le_ediv (by omega) (by omega)
  have e5 : (a + w) / b ≤ a / b + 1 := by
    have : (a + w) / b ≤ (a + b) / b := Int.ediv_le_ediv (by omega) (by omega)
    rw [show a + b = a + b * 1 by omega, Int.add_mul_ediv_left _ _ (by omega)] at this
    exact this
  by_cases hneg : a.tmod b < 0
  · rw [if_pos hneg] at h
    omega
  · rw [if_neg hneg] at h
    omega
/-- pulses that are late by s beats come within the window -/
theorem hit_shift {l : Ln} (h : OkL l) (t s : Int) : inB (l.delay + l.slope * t - l.words * l.bits * l.period - s * l.period) (-l.window) l.window = (!lostL l t && (s == byL l t)) := by
  have hp := h.period
  have hw := h.window
  have e : l.delay + l.slope * t - l.words * l.bits * l.period - s * l.period = lateL l t - l.window - s * l.period := by unfold lateL beatsL; omega
  rw [e]
  unfold lostL byL
  have e1 := Int.emod_add_mul_ediv (lateL l t) l.period
  have e2 := Int.emod_nonneg (lateL l t) (show l.period ≠ 0 by omega)
  have e3 := Int.emod_lt_of_pos (lateL l t) (show 0 < l.period by omega)
  rw [Int.mul_comm l.period] at e1
  generalize lateL l t = A at *
  generalize hq : A / l.period = q at *
  generalize A % l.period = r at *
  unfold inB
  by_cases hs : s = q
  · subst hs
    rw [beq_self_eq_true, Bool.and_true]
    by_cases hr : 2 * l.window < r
    · rw [decide_eq_true hr, decide_eq_false (show ¬ A - l.window - s * l.period ≤ l.window by omega), Bool.and_false]; rfl
    · rw [decide_eq_false hr, decide_eq_true (show A - l.window - s * l.period ≤ l.window by omega), decide_eq_true (show -l.window ≤ A - l.window - s * l.period by omega)]; rfl
  · have hne : (s == q) = false := by simpa using hs
    rw [hne, Bool.and_false]
    rcases Int.lt_or_gt_of_ne hs with h1 | h1
    · have h2 : (q - s) * l.period ≥ 1 * l.period := Int.mul_le_mul_of_nonneg_right (by omega) (by omega)
      rw [Int.sub_mul] at h2
      rw [decide_eq_false (show ¬ A - l.window - s * l.period ≤ l.window by omega), Bool.and_false]
    · have h2 : (s - q) * l.period ≥ 1 * l.period := Int.mul_le_mul_of_nonneg_right (by omega) (by omega)
      rw [Int.sub_mul] at h2
      rw [decide_eq_false (show ¬ -l.window ≤ A - l.window - s * l.period by omega), Bool.false_and]
theorem near_shift {l : Ln} (h : OkL l) (t : Int) : (l.delay + l.slope * t - l.words * l.bits * l.period).tdiv l.period - 1 ≤ byL l t ∧ byL l t ≤ (l.delay + l.slope * t - l.words * l.bits * l.period).tdiv l.period + 1 := by
  have hp := h.period
  have hw := h.window
  have := near_by (a := l.delay + l.slope * t - l.words * l.bits * l.period) (b := l.period) (w := l.window) (by omega) hw.1 hw.2
  unfold byL lateL beatsL
  exact this
end Go.Q
namespace Go.Proofs.Ytkkchoinfdfiaaa
open Go.RowKit Go.Q Go.Shelf

set_option maxHeartbeats 2000000 in
theorem rshift_any (l : Ln) (t : Int) (w : World) (h : OkL l) (ht : -100000 ≤ t ∧ t ≤ 100000) :
    Calls Try.prog 62 #[.agg #[.int .i64 l.words, .int .i64 l.bits, .int .i64 l.period, .int .i64 l.delay, .int .i64 l.slope, .int .i64 l.window], .int .i64 t] w fun e w' => e = .returned (.tuple #[.int .i64 (shiftV l t).1, .bool (!(shiftV l t).2)]) ∧ Ext w w' := by
  have hhit := fun s => hit_shift h t s
  have hnear := near_shift h t
  have hs := h.slopeT ht
  have hsp := h.span
  have hd := h.delay
  have hp := h.period
  have hwn := h.window
  have hbe := h.beats
  unfold beatsL at hsp hbe
  obtain ⟨A, hA⟩ : ∃ A, l.delay + l.slope * t - l.words * l.bits * l.period = A := ⟨_, rfl⟩
  have hAb : -11000000000 ≤ A ∧ A ≤ 12000000000 := by omega
  have w1 : IntKind.i64.wrap (l.slope * t) = l.slope * t := IntWalk.i64_in _ (by omega)
  have w2 : IntKind.i64.wrap (l.delay + l.slope * t) = l.delay + l.slope * t := IntWalk.i64_in _ (by omega)
  have w3 : IntKind.i64.wrap (l.words * l.bits * l.period) = l.words * l.bits * l.period := IntWalk.i64_in _ (by omega)
  have w4 : IntKind.i64.wrap (l.words * l.bits) = l.words * l.bits := IntWalk.i64_in _ (by omega)
  have w5 : IntKind.i64.wrap (l.delay + l.slope * t - l.words * l.bits * l.period) = l.delay + l.slope * t - l.words * l.bits * l.period := IntWalk.i64_in _ (by omega)
  have hq : -11000000001 ≤ A.tdiv l.period ∧ A.tdiv l.period ≤ 12000000001 := by
    have := floor_of_tdiv (a := A) (b := l.period) (by omega)
    have f0 : -11000000000 ≤ A / l.period := Int.le_ediv_of_mul_le (by omega) (by omega)
    have f1 : A / l.period ≤ 12000000000 := by
      have := Int.ediv_lt_of_lt_mul (a := A) (b := 12000000001) (c := l.period) (by omega) (by omega)
      omega
    split at this <;> omega
  rw [hA] at hnear
  simp only [hA] at hhit
  have hte := Int.mul_tdiv_add_tmod A l.period
  have ht1 := Int.lt_tmod_of_pos A (show 0 < l.period by omega)
  have ht2 := Int.tmod_lt_of_pos A (show 0 < l.period by omega)
  rw [Int.mul_comm] at hte
  have hqp : A - l.period ≤ A.tdiv l.period * l.period ∧ A.tdiv l.period * l.period ≤ A + l.period := by omega
  clear hte ht1 ht2
  have HV := Lib.hid (show ∀ (s : Int) (b : Bool), (if lostL l t = true then (0, true) else (byL l t, false)) = (s, b) → (shiftV l t).1 = s ∧ (!(shiftV l t).2) = !b by
    intro s b e
    unfold shiftV
    rw [e]
    exact ⟨rfl, rfl⟩)
  obtain ⟨q, hqe⟩ : ∃ q, A.tdiv l.period = q := ⟨_, rfl⟩
  have HH := Lib.hid hhit
  have HN := Lib.hid hnear
  clear hhit hnear
  rw [hqe] at hq hqp HN
  obtain ⟨hp0, hp1⟩ := hp
  obtain ⟨hw0, hw1⟩ := hwn
  obtain ⟨hq0, hq1⟩ := hq
  obtain ⟨hqp0, hqp1⟩ := hqp
  obtain ⟨hA0, hA1⟩ := hAb
  have hne : (l.period == 0) = false := by simp; omega
  go_enter Try.func62, Try.ntmps62
  go_wp2
  have HE := Lib.hid (show Ext w (w.alloc (.cells #[.int .i64 l.words, .int .i64 l.bits, .int .i64 l.period, .int .i64 l.delay, .int .i64 l.slope, .int .i64 l.window] 25)) from (Ext.refl w).alloc _)
  clear w1 w2 w3 w4 w5 hA hqe hs hsp hd hbe ht h
  go_loop [8] (fun s8 => ∃ k : Nat, k ≤ 3 ∧ s8 = .int .i64 (q - 1 + (k : Int)) ∧ Aside (∀ j : Nat, j < k → (!lostL l t && (q - 1 + (j : Int) == byL l t)) = false)) (fun s8 => (q + 2 - intOf s8).toNat)
  case atStart => exact ⟨0, Nat.zero_le _, by simp, fun j hj => absurd hj (Nat.not_lt_zero _)⟩
  case round =>
    obtain ⟨k, hk, rfl, HA⟩ := hrel
    obtain ⟨s, hse⟩ : ∃ s, q - 1 + (k : Int) = s := ⟨_, rfl⟩
    rw [hse]
    have hsp : s * l.period = q * l.period - l.period + k * l.period := by rw [← hse, Int.add_mul, Int.sub_mul]; omega
    have hkp := mul_bd (a := (k : Int)) (b := l.period) (A := 3) (by omega) (by omega) (by omega) hp1
    have w6 : IntKind.i64.wrap (s * l.period) = s * l.period := IntWalk.i64_in _ (by omega)
    have w7 : IntKind.i64.wrap (A - s * l.period) = A - s * l.period := IntWalk.i64_in _ (by omega)
    have w8 : IntKind.i64.wrap (-l.window) = -l.window := IntWalk.i64_in _ (by omega)
    have w9 : IntKind.i64.wrap (s + 1) = s + 1 := IntWalk.i64_in _ (by omega)
    have w10 : IntKind.i64.wrap (q + 1) = q + 1 := IntWalk.i64_in _ (by omega)
    have hin := fun W => rin_any (A - s * l.period) (-l.window) l.window W
    rw [HH.out s] at hin
    clear hsp hkp
    by_cases hlt : k < 3
    · have hle : s ≤ q + 1 := by omega
      cases hb : (!lostL l t && (s == byL l t)) with
      | true =>
        rw [hb] at hin
        have hlo : lostL l t = false := by cases h : lostL l t with | false => rfl | true => rw [h] at hb; simp at hb
        have hby : byL l t = s := by rw [hlo] at hb; exact (show s = byL l t by simpa using hb).symm
        have HF := Lib.hid (HV.out s false (by rw [hlo, hby]; rfl))
        clear hb hlo hby
        go_wp2_with fail
        refine (hin _).mono ?_
        rintro e w2 ⟨rfl, rfl⟩
        go_wp2
        go_ret2
        exact ⟨by rw [HF.out.1, HF.out.2]; rfl, HE.out⟩
      | false =>
        rw [hb] at hin
        have HA2 : Aside (∀ j : Nat, j < k + 1 → (!lostL l t && (q - 1 + (j : Int) == byL l t)) = false) := (show Aside _ from fun j hj => by
          by_cases e : j = k
          · rw [e, hse]; exact hb
          · exact HA.out j (by omega))
        have HK : s + 1 = q - 1 + ((k + 1 : Nat) : Int) := by omega
        have HKK := Lib.hid HK
        clear hb HA HK
        go_wp2_with fail
        refine (hin _).mono ?_
        rintro e w2 ⟨rfl, rfl⟩
        go_wp2
        go_round
        case rel => exact ⟨k + 1, by omega, by rw [HKK.out], HA2⟩
        case measure => simp [intOf]; omega
    · have hgt : ¬ s ≤ q + 1 := by omega
      have hlo : lostL l t = true := by
        cases h : lostL l t with
        | true => rfl
        | false =>
          exfalso
          have h1 := HN.out
          have h2 := HA.out (byL l t - (q - 1)).toNat (by omega)
          rw [h, show q - 1 + (((byL l t - (q - 1)).toNat : Nat) : Int) = byL l t by omega] at h2
          simp at h2
      have HF := Lib.hid (HV.out 0 true (by rw [hlo]; rfl))
      clear hlo HA
      go_wp2
      go_ret2
      exact ⟨by rw [HF.out.1, HF.out.2]; rfl, HE.out⟩
set_option maxHeartbeats 1000000 in
theorem rShift_any (l : Ln) (t : Int) (w : World) :
    Calls Try.prog 37 #[.agg #[.int .i64 l.words, .int .i64 l.bits, .int .i64 l.period, .int .i64 l.delay, .int .i64 l.slope, .int .i64 l.window], .int .i64 t] w fun e w' => e = .returned (.tuple #[.int .i64 (shiftE l t).1, .bool (shiftE l t).2.1, .int .i64 (shiftE l t).2.2]) ∧ Ext w w' := by
  have hck := fun W => rcheck_any l W
  cases ho : okL l with
  | false =>
    have e1 : shiftE l t = (0, false, 7) := by unfold shiftE; rw [if_neg (by rw [ho]; simp)]
    rw [e1]
    rw [checkL_no ho] at hck
    clear e1 ho
    dsimp only
    go_enter Try.func37, Try.ntmps37
    go_wp2_with fail
    refine (hck _).mono ?_
    rintro e w1 ⟨rfl, E1⟩
    go_wp2
    go_ret3
    exact ⟨rfl, E1.old⟩
  | true =>
    rw [checkL_of ho] at hck
    have hok := okL_ok ho
    cases ht : tempB t with
    | false =>
      have e1 : shiftE l t = (0, false, 7) := by unfold shiftE; rw [if_neg (by rw [ht]; simp)]
      have hst := fun W => rtemp_any t W
      rw [ht] at hst
      rw [e1]
      clear e1 ho ht
      dsimp only
      go_enter Try.func37, Try.ntmps37
      go_wp2_with fail
      refine (hck _).mono ?_
      rintro e w1 ⟨rfl, E1⟩
      go_wp2_with fail
      refine (hst _).mono ?_
      rintro e w2 ⟨rfl, rfl⟩
      go_wp2
      go_ret3
      exact ⟨rfl, E1.old⟩
    | true =>
      have hst := fun W => rtemp_any t W
      rw [ht] at hst
      have hb := tempB_bd ht
      have hsh := fun W => rshift_any l t W hok (by omega)
      have e1 : shiftE l t = ((shiftV l t).1, (shiftV l t).2, 0) := by unfold shiftE; rw [if_pos ⟨ho, ht⟩]
      rw [e1]
      clear e1 ho ht hb
      dsimp only
      generalize (shiftV l t).1 = s at *
      generalize (shiftV l t).2 = b at *
      go_enter Try.func37, Try.ntmps37
      go_wp2_with fail
      refine (hck _).mono ?_
      rintro e w1 ⟨rfl, E1⟩
      have c0 := box_at (v := .int .i64 l.words) E1 0 rfl
      have c1 := box_at (v := .int .i64 l.bits) E1 1 rfl
      have c2 := box_at (v := .int .i64 l.period) E1 2 rfl
      have c3 := box_at (v := .int .i64 l.delay) E1 3 rfl
      have c4 := box_at (v := .int .i64 l.slope) E1 4 rfl
      have c5 := box_at (v := .int .i64 l.window) E1 5 rfl
      go_wp2_with fail
      refine (hst _).mono ?_
      rintro e w2 ⟨rfl, rfl⟩
      go_wp2_with fail
      refine (hsh _).mono ?_
      rintro e w3 ⟨rfl, E3⟩
      go_wp2
      go_ret3
      exact ⟨rfl, E1.old.comp E3⟩
set_option maxHeartbeats 1000000 in
theorem rsafe_any (l : Ln) (t : Int) (w : World) (h : OkL l) (ht : -100000 ≤ t ∧ t ≤ 100000) :
    Calls Try.prog 70 #[.agg #[.int .i64 l.words, .int .i64 l.bits, .int .i64 l.period, .int .i64 l.delay, .int .i64 l.slope, .int .i64 l.window], .int .i64 t] w fun e w' => e = .returned (.bool (safeL l t)) ∧ Ext w w' := by
  have hcall := fun W => rshift_any l t W h ht
  cases hl : lostL l t with
  | true =>
    have e1 : shiftV l t = (0, true) := by unfold shiftV; rw [hl]; rfl
    have e2 : safeL l t = false := by unfold safeL; rw [hl]; simp
    rw [e1] at hcall
    rw [e2]
    clear e1 e2 hl
    dsimp only [Bool.not_true] at hcall
    go_enter Try.func70, Try.ntmps70
    go_wp2_with fail
    refine (hcall _).mono ?_
    rintro e w1 ⟨rfl, E1⟩
    go_wp2
    go_ret
    exact ⟨rfl, E1.old⟩
  | false =>
    have e1 : shiftV l t = (byL l t, false) := by unfold shiftV; rw [hl]; rfl
    rw [e1] at hcall
    dsimp only [Bool.not_false] at hcall
    cases hb : (byL l t == 0) with
    | false =>
      have e2 : safeL l t = false := by unfold safeL; rw [hb]; rfl
      rw [e2]
      clear e1 e2 hl
      go_enter Try.func70, Try.ntmps70
      go_wp2_with fail
      refine (hcall _).mono ?_
      rintro e w1 ⟨rfl, E1⟩
      go_wp2
      go_ret
      exact ⟨rfl, E1.old⟩
    | true =>
      have e2 : safeL l t = tempB t := by unfold safeL; rw [hl, hb]; rfl
      have e3 : byL l t = 0 := by simpa using hb
      rw [e3] at hcall
      rw [e2]
      clear e1 e2 e3 hl hb
      go_enter Try.func70, Try.ntmps70
      go_wp2_with fail
      refine (hcall _).mono ?_
      rintro e w1 ⟨rfl, E1⟩
      go_wp2_with fail
      refine (rtemp_any _ _).mono ?_
      rintro e w2 ⟨rfl, rfl⟩
      go_wp2
      go_ret
      exact ⟨rfl, E1.old⟩
end Go.Proofs.Ytkkchoinfdfiaaa

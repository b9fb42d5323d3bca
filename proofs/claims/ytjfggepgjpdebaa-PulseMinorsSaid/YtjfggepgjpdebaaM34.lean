import Derived.Deep.QuietTactic
import Derived.BigQuiet
import Derived.Deep.RegionLaw
import Derived.IntWalk
import Derived.Test.YtjfggepgjpdebaaM23
set_option linter.unusedVariables false
set_option linter.unusedSimpArgs false
/- Contract: the reference of layer 5: Multiplied. -/
namespace Go.Proofs.Ytjfggepgjpdebaa
open Go.RowKit Go.Q
set_option maxRecDepth 100000 in
set_option maxHeartbeats 8000000 in
theorem rmultF_any (a1 a2 a3 : Option Addr) (n1 c1 n2 c2 n3 c3 : Nat) (s : Pu) (w : World) (hc : 1 ≤ s.count ∧ s.count ≤ 12) (hot : 0 ≤ s.other ∧ s.other ≤ 16777215) (hop : 0 ≤ s.operand ∧ s.operand ≤ 16777215) (hpr : -140737488355328 ≤ s.product ∧ s.product ≤ 140737488355327) :
    Calls Try.prog 102 #[psv a1 a2 a3 n1 c1 n2 c2 n3 c3 s, .bool false] w fun e w' => e = .returned (psv a1 a2 a3 n1 c1 n2 c2 n3 c3 (multP s (24 - 2 * s.count).toNat)) ∧ Ext w w' := by
  obtain ⟨d0, d1⟩ := hc
  obtain ⟨p0, p1⟩ := hpr
  obtain ⟨k, hk⟩ : ∃ k : Nat, k = (24 - 2 * s.count).toNat := ⟨_, rfl⟩
  rw [← hk]
  have hk23 : k ≤ 23 := by rw [hk]; omega
  have hm : multP s k = { s with product := (s.product + (if k = 23 then -(bitIn s.other s.operand k) else bitIn s.other s.operand k) + 140737488355328) % 281474976710656 - 140737488355328 } := rfl
  obtain ⟨V, hV⟩ : ∃ V, V = (s.product + (if k = 23 then -(bitIn s.other s.operand k) else bitIn s.other s.operand k) + 140737488355328) % 281474976710656 - 140737488355328 := ⟨_, rfl⟩
  rw [← hV] at hm
  rw [hm]
  clear hm
  have hsg : ∀ W, Calls Try.prog 42 #[.int .i64 s.other] W fun e w' => e = .returned (.int .i64 (sgn s.other)) ∧ w' = W := fun W => (sign_any s.other W hot.1 hot.2).mono fun e w' h => ⟨h.1, h.2.symm⟩
  have hbt : ∀ W, Calls Try.prog 70 #[.int .i64 s.operand, .int .i64 k] W fun e w' => e = .returned (.int .i64 (bitQ s.operand k)) ∧ w' = W := fun W => (rbit_any s.operand k W hop.1 (by omega) (by omega)).mono fun e w' h => ⟨h.1, h.2.symm⟩
  have hhf : ∀ W, Calls Try.prog 82 #[] W fun e w' => e = .returned (.int .i64 140737488355328) ∧ w' = W := fun W => (rhalf_any W).mono fun e w' h => ⟨h.1, h.2.symm⟩
  have hbj : ∀ j : Nat, j ≤ 23 → (-8388608 ≤ sgn s.other * bitQ s.operand k ∧ sgn s.other * bitQ s.operand k ≤ 8388607) ∧ -70368744177664 ≤ sgn s.other * bitQ s.operand k * 2 ^ j ∧ sgn s.other * bitQ s.operand k * 2 ^ j ≤ 70368744177664 := fun j hj => by
    have h1 := (bitIn_bd (p := s.operand) (k := k) hot hk23).1
    refine ⟨h1, ?_⟩
    have h3 := pow_le23 hj
    generalize sgn s.other * bitQ s.operand k = x at *
    generalize (2 : Int) ^ j = y at *
    rcases Int.le_total 0 x with h | h
    · have := Int.mul_nonneg h (show 0 ≤ y by omega)
      have : x * y ≤ 8388607 * 8388608 := Int.mul_le_mul (by omega) (by omega) (by omega) (by omega)
      omega
    · have := Int.mul_nonpos_of_nonpos_of_nonneg h (show 0 ≤ y by omega)
      have : (-x) * y ≤ 8388608 * 8388608 := Int.mul_le_mul (by omega) (by omega) (by omega) (by omega)
      rw [Int.neg_mul] at this
      omega
  have hN : bitIn s.other s.operand k = sgn s.other * bitQ s.operand k * 2 ^ k := rfl
  rw [hN] at hV
  have HB := Lib.hid hbj
  have hb0 := (hbj 0 (by omega)).1
  have hwr : IntKind.i64.wrap (sgn s.other * bitQ s.operand k) = sgn s.other * bitQ s.operand k := IntWalk.i64_in _ (by omega)
  clear hbj hN hot hop
  generalize bitQ s.operand k = bq at *
  generalize sgn s.other = sg at *
  generalize hX : sg * bq = X at *
  have HV := Lib.hid hV
  clear hV
  have hkk : 24 - 2 * s.count = (k : Int) := by rw [hk]; omega
  clear hk
  have hrf := Ext.refl w
  go_enter Try.func102, Try.ntmps102
  go_wp2_with fail
  clear hkk
  go_quiet (first | (go_at_call 42; exact Calls.quiet_of_same (hsg _)) | (go_at_call 70; exact Calls.quiet_of_same (hbt _)))
  go_wp2_with fail
  clear hb0 hwr hX
  go_loop [6, 7] (fun n i => ∃ j : Nat, j ≤ k ∧ i = .int .i64 j ∧ n = .int .i64 (X * 2 ^ j)) (fun _ i => k - (intOf i).toNat)
  case atStart => exact ⟨0, Nat.zero_le _, rfl, by simp⟩
  case round =>
    obtain ⟨j, hj, rfl, rfl⟩ := hrel
    obtain ⟨_, y0, y1⟩ := HB.out j (by omega)
    have hp := Lib.hid (show X * 2 ^ (j + 1) = 2 * (X * 2 ^ j) by rw [Int.pow_succ]; generalize (2 : Int) ^ j = y; rw [← Int.mul_assoc]; omega)
    by_cases hlt : j < k
    · have hltz : (j : Int) < (k : Int) := by omega
      generalize X * 2 ^ j = y at *
      go_wp2_with fail
      go_round
      case rel => exact ⟨j + 1, by omega, by go_num, by rw [hp.out]⟩
      case measure => simp [intOf]; omega
    · have hltz : ¬ (j : Int) < (k : Int) := by omega
      obtain rfl : j = k := by omega
      clear hp
      generalize X * 2 ^ j = y at *
      by_cases h23 : j = 23
      · have e23 : ((j : Int) == 23) = true := by simp [h23]
        have HW := Lib.hid (HV.out.trans (by rw [if_pos h23]))
        clear h23 hj hlt HV
        go_wp2_with (go_at_call 82; refine (hhf _).mono ?_; rintro e w' ⟨rfl, rfl⟩)
        have z0 : -70368744177664 ≤ -y ∧ -y ≤ 70368744177664 := by omega
        generalize -y = N at *
        have y0 : ∃ m r : Int, m = (s.product + N + 140737488355328) % 281474976710656 ∧ (s.product + N + 140737488355328).tmod 281474976710656 = r ∧ (r + 281474976710656).tmod 281474976710656 = m ∧ -281474976710656 < r ∧ r < 281474976710656 := by
          generalize s.product + N + 140737488355328 = y
          have k1 := Int.mul_tdiv_add_tmod y 281474976710656
          have k2 := Int.tmod_lt_of_pos y (show (0 : Int) < 281474976710656 by decide)
          have k3 := Int.lt_tmod_of_pos y (show (0 : Int) < 281474976710656 by decide)
          refine ⟨_, _, rfl, rfl, ?_, k3, k2⟩
          rw [Int.tmod_eq_emod_of_nonneg (by omega)]
          exact mod_all k1.symm k3
        obtain ⟨m, r, hm, hr, hr2, r0, r1⟩ := y0
        have m0 : 0 ≤ m ∧ m < 281474976710656 := by omega
        have HX := Lib.hid (HW.out.trans (by rw [← hm]))
        have hws : IntKind.i64.wrap (s.product + N) = s.product + N ∧ IntKind.i64.wrap (s.product + N + 140737488355328) = s.product + N + 140737488355328 ∧ IntKind.i64.wrap (r + 281474976710656) = r + 281474976710656 ∧ IntKind.i64.wrap (m - 140737488355328) = m - 140737488355328 :=
          ⟨IntWalk.i64_in _ (by omega), IntWalk.i64_in _ (by omega), IntWalk.i64_in _ (by omega), IntWalk.i64_in _ (by omega)⟩
        clear hm HW
        obtain ⟨hw1, hw2, hw3, hw4⟩ := hws
        go_region_law (go_simp; go_at_call 82; refine (hhf _).mono ?_; rintro e w' ⟨rfl, rfl⟩)
        all_goals
          go_wp2_with fail
          refine bodyPost_ret (v := psv a1 a2 a3 n1 c1 n2 c2 n3 c3 { s with product := m - 140737488355328 }) (by simp [results, Try.results102, go_sem]) rfl ⟨by rw [HX.out], ?_⟩
          exact (by repeat (first | with_reducible exact Ext.refl _ | with_reducible exact hrf | with_reducible exact hrf.old | with_reducible exact hrf.old.old | with_reducible exact hrf.old.old.old | (with_reducible refine Ext.alloc ?_ _) | (with_reducible refine Below.drew ?_) | (with_reducible refine below_drewN ?_ _) | (with_reducible refine ext_put ?_ _ ?_; rotate_left; (first | with_reducible exact Nat.le_refl _ | with_reducible exact Nat.le_succ _ | omega | (dsimp only; omega)))))
      · have e23 : ((j : Int) == 23) = false := by rw [beq_eq_false_iff_ne]; omega
        have HW := Lib.hid (HV.out.trans (by rw [if_neg h23]))
        clear h23 hj hlt HV
        go_wp2_with (go_at_call 82; refine (hhf _).mono ?_; rintro e w' ⟨rfl, rfl⟩)
        have z0 : -70368744177664 ≤ y ∧ y ≤ 70368744177664 := by omega
        generalize y = N at *
        have y0 : ∃ m r : Int, m = (s.product + N + 140737488355328) % 281474976710656 ∧ (s.product + N + 140737488355328).tmod 281474976710656 = r ∧ (r + 281474976710656).tmod 281474976710656 = m ∧ -281474976710656 < r ∧ r < 281474976710656 := by
          generalize s.product + N + 140737488355328 = y
          have k1 := Int.mul_tdiv_add_tmod y 281474976710656
          have k2 := Int.tmod_lt_of_pos y (show (0 : Int) < 281474976710656 by decide)
          have k3 := Int.lt_tmod_of_pos y (show (0 : Int) < 281474976710656 by decide)
          refine ⟨_, _, rfl, rfl, ?_, k3, k2⟩
          rw [Int.tmod_eq_emod_of_nonneg (by omega)]
          exact mod_all k1.symm k3
        obtain ⟨m, r, hm, hr, hr2, r0, r1⟩ := y0
        have m0 : 0 ≤ m ∧ m < 281474976710656 := by omega
        have HX := Lib.hid (HW.out.trans (by rw [← hm]))
        have hws : IntKind.i64.wrap (s.product + N) = s.product + N ∧ IntKind.i64.wrap (s.product + N + 140737488355328) = s.product + N + 140737488355328 ∧ IntKind.i64.wrap (r + 281474976710656) = r + 281474976710656 ∧ IntKind.i64.wrap (m - 140737488355328) = m - 140737488355328 :=
          ⟨IntWalk.i64_in _ (by omega), IntWalk.i64_in _ (by omega), IntWalk.i64_in _ (by omega), IntWalk.i64_in _ (by omega)⟩
        clear hm HW
        obtain ⟨hw1, hw2, hw3, hw4⟩ := hws
        go_region_law (go_simp; go_at_call 82; refine (hhf _).mono ?_; rintro e w' ⟨rfl, rfl⟩)
        all_goals
          go_wp2_with fail
          refine bodyPost_ret (v := psv a1 a2 a3 n1 c1 n2 c2 n3 c3 { s with product := m - 140737488355328 }) (by simp [results, Try.results102, go_sem]) rfl ⟨by rw [HX.out], ?_⟩
          exact (by repeat (first | with_reducible exact Ext.refl _ | with_reducible exact hrf | with_reducible exact hrf.old | with_reducible exact hrf.old.old | with_reducible exact hrf.old.old.old | (with_reducible refine Ext.alloc ?_ _) | (with_reducible refine Below.drew ?_) | (with_reducible refine below_drewN ?_ _) | (with_reducible refine ext_put ?_ _ ?_; rotate_left; (first | with_reducible exact Nat.le_refl _ | with_reducible exact Nat.le_succ _ | omega | (dsimp only; omega)))))
end Go.Proofs.Ytjfggepgjpdebaa

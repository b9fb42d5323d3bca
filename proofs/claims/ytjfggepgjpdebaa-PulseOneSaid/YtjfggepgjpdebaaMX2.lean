import Derived.Test.YtjfggepgjpdebaaML0
set_option linter.unusedVariables false
set_option linter.unusedSimpArgs false
/- Contracts of the small functions that only reckon: in, Word, Address, Sign, signed, pack, unpack, Written. -/
namespace Go.Proofs.Ytjfggepgjpdebaa
open Go.RowKit Go.Q
set_option maxHeartbeats 400000 in
theorem signed_any (n : Int) (w : World) (h0 : 0 ≤ n) (h1 : n ≤ 16777215) :
    Calls Try.prog 89 #[.int .i64 n] w fun e w' => e = .returned (.int .i64 (sgn n)) ∧ w = w' := by
  go_enter Try.func89, Try.ntmps89
  go_wp2
  go_ret
  exact ⟨ret_int (by show n - n / 8388608 * 16777216 = sgn n; unfold sgn; split <;> omega), rfl⟩
end Go.Proofs.Ytjfggepgjpdebaa
/- Layer 5 in plain Lean, on: what stays while the machine waits; a product. -/
namespace Go.Q
theorem wait_like (s : Pu) : { waitP s with clock := s.clock, product := s.product, count := s.count } = s := by
  unfold waitP
  split
  · unfold multsP
    split <;> rfl
  · rfl
/-- while the machine waits nothing changes but Clock, Product and Count -/
theorem until_like : ∀ (k : Nat) {s : Pu}, ValidP s → s.why = 0 → k < untilP s → { minorsP k s with clock := s.clock, product := s.product, count := s.count } = s
  | 0, _, _, _, _ => rfl
  | k + 1, s, h, hy, hk => by
    obtain ⟨w1, w2, w3, w4⟩ := wait_law h hy (by omega)
    have hv := minorP_valid h
    rw [w1] at hv
    have ih := until_like k hv w3 (by omega)
    show { minorsP k (minorP s) with clock := s.clock, product := s.product, count := s.count } = s
    rw [w1]
    have e := congrArg (fun t : Pu => { t with clock := s.clock, product := s.product, count := s.count }) ih
    exact e.trans (wait_like s)
/-- bits of a word, the last one with its sign -/
def lowS (a : Int) (n : Nat) : Int := if n = 24 then sgn a else a % 2 ^ n
theorem sgn_mul_bd {b x : Int} (hb : 0 ≤ b ∧ b ≤ 16777215) (hx : -8388608 ≤ x ∧ x ≤ 8388608) : -70368744177664 ≤ sgn b * x ∧ sgn b * x ≤ 70368744177664 := by
  have h := sgn_bd' hb
  generalize sgn b = g at *
  rcases Int.le_total 0 x with h0 | h0
  · have h1 := Int.mul_le_mul_of_nonneg_right h.1 h0
    have h2 := Int.mul_le_mul_of_nonneg_right h.2 h0
    omega
  · have h1 := Int.mul_le_mul_of_nonpos_right h.1 h0
    have h2 := Int.mul_le_mul_of_nonpos_right h.2 h0
    omega
theorem low_step {a b : Int} (_ha : 0 ≤ a ∧ a ≤ 16777215) {k : Nat} (hk : k < 24) : sgn b * lowS a k + addend b a k = sgn b * lowS a (k + 1) := by
  have h2 := Nat.two_pow_pos k
  have e := two_pow_cast k
  have hm : a % (2 ^ k * 2) = a % 2 ^ k + 2 ^ k * (a / 2 ^ k % 2) := emod_two (by omega)
  have hbq : a / 2 ^ k % 2 = bitQ a k := rfl
  rw [hbq] at hm
  unfold lowS addend
  rw [if_neg (by omega : ¬ k = 24)]
  by_cases h23 : k = 23
  · subst h23
    rw [if_pos rfl, if_pos rfl]
    have e23 : (2 : Int) ^ 23 = 8388608 := by decide
    have hs : sgn a = a % 2 ^ 23 - bitQ a 23 * 2 ^ 23 := by
      unfold sgn bitQ
      rw [e23]
      split <;> omega
    rw [hs, Int.mul_sub, Int.mul_assoc]
    omega
  · rw [if_neg h23, if_neg (by omega : ¬ k + 1 = 24), Int.pow_succ, hm, Int.mul_add, Int.mul_assoc, Int.mul_comm (bitQ a k)]
theorem low_bd {a : Int} (ha : 0 ≤ a ∧ a ≤ 16777215) {n : Nat} (hn : n ≤ 24) : -8388608 ≤ lowS a n ∧ lowS a n ≤ 8388608 := by
  unfold lowS
  split
  · have := sgn_bd' ha; omega
  · have h1 : (2 : Nat) ^ n ≤ 2 ^ 23 := Nat.pow_le_pow_right (by decide) (by omega)
    have e1 : (2 : Nat) ^ 23 = 8388608 := by decide
    have h2 := Nat.two_pow_pos n
    have e := two_pow_cast n
    have r0 := Int.emod_nonneg a (show (2 : Int) ^ n ≠ 0 by omega)
    have r1 := Int.emod_lt_of_pos a (show (0 : Int) < 2 ^ n by omega)
    omega
theorem mult_low {s : Pu} (ho : 0 ≤ s.operand ∧ s.operand ≤ 16777215) (hb : 0 ≤ s.other ∧ s.other ≤ 16777215) {k : Nat} (hk : k < 24) (hp : s.product = sgn s.other * lowS s.operand k) :
    multP s k = { s with product := sgn s.other * lowS s.operand (k + 1) } := by
  unfold multP
  rw [hp, low_step ho hk]
  have h := sgn_mul_bd hb (low_bd ho (n := k + 1) (by omega))
  congr 1
  omega
/-- a minor cycle of the multiplier -/
theorem count_minor {s : Pu} (hv : ValidP s) (h3 : s.phase = 3) (hy : s.why = 0) (hc : s.clock ≠ 1000000000) {j : Nat} (hj : j < 12) (hct : s.count = 12 - j) (hp : s.product = sgn s.other * lowS s.operand (2 * j)) :
    minorP s = { s with product := sgn s.other * lowS s.operand (2 * (j + 1)), count := 12 - (j + 1 : Nat), phase := if j = 11 then 4 else 3, clock := s.clock + 1 } := by
  have hcm : comesP s = false := by
    unfold comesP
    have : ¬ 0 ≤ addrP s := by unfold addrP; rw [h3]; simp
    rw [decide_eq_false this]; rfl
  have e24 : (24 - 2 * s.count).toNat = 2 * j := by omega
  have hst : storeP s = s := by unfold storeP; rw [hcm]; rfl
  have hm : multsP s = { s with product := sgn s.other * lowS s.operand (2 * (j + 1)) } := by
    unfold multsP
    rw [if_pos h3, e24, mult_low hv.operand hv.other (by omega) hp]
    have := mult_low (s := { s with product := sgn s.other * lowS s.operand (2 * j + 1) }) hv.operand hv.other (k := 2 * j + 1) (by omega) rfl
    rw [this]
    rfl
  unfold minorP
  rw [if_neg (by omega), if_neg hc, hst, hm]
  unfold endP
  rw [if_pos (.inr h3)]
  unfold cameP
  simp only [h3]
  rw [if_neg (by decide), if_neg (by decide), if_neg (by decide), if_pos trivial]
  unfold countP tickP
  rw [if_pos hy]
  have e1 : (s.count - 1 = 0) ↔ j = 11 := by omega
  have e2 : s.count - 1 = 12 - ((j + 1 : Nat) : Int) := by omega
  by_cases h11 : j = 11
  · simp only [e1, h11, if_pos, h3]
    rw [e2]
    subst h11
    rfl
  · simp only [e1, h11, if_false]
    rw [e2]
theorem count_minors : ∀ (n j : Nat) {s : Pu}, ValidP s → s.phase = 3 → s.why = 0 → s.clock + n ≤ 1000000000 → n + j = 12 → n ≠ 0 → s.count = 12 - j → s.product = sgn s.other * lowS s.operand (2 * j) →
    minorsP n s = { s with product := sgn s.other * sgn s.operand, count := 0, phase := 4, clock := s.clock + n }
  | 0, _, _, _, _, _, _, _, h0, _, _ => absurd rfl h0
  | n + 1, j, s, hv, h3, hy, hc, hn, _, hct, hp => by
    have hm := count_minor hv h3 hy (by omega) (j := j) (by omega) hct hp
    have hv' := minorP_valid hv
    show minorsP n (minorP s) = _
    rw [hm] at hv' ⊢
    by_cases h11 : j = 11
    · obtain rfl : n = 0 := by omega
      subst h11
      show ({ s with product := _, count := _, phase := _, clock := _ } : Pu) = _
      have e : lowS s.operand (2 * (11 + 1)) = sgn s.operand := by unfold lowS; rw [if_pos (by decide)]
      rw [e]
      simp
    · rw [if_neg h11] at hv' ⊢
      have ih := count_minors n (j + 1) hv' rfl hy (by show s.clock + 1 + (n : Int) ≤ 1000000000; omega) (by omega) (by omega) rfl rfl
      rw [ih]
      show ({ s with product := _, count := _, phase := _, clock := s.clock + 1 + (n : Int) } : Pu) = { s with product := _, count := _, phase := _, clock := s.clock + ((n + 1 : Nat) : Int) }
      rw [show s.clock + 1 + (n : Int) = s.clock + ((n + 1 : Nat) : Int) by omega]
/-- the order's word comes by, and is the other factor -/
theorem mul_first {s : Pu} (hy : s.why = 0) (hc : s.clock ≠ 1000000000) (h2 : s.phase = 2) (ho : (ordP s).op = 4) (ht : 0 ≤ (ordP s).to) (hm : ((ordP s).to - s.clock) % 16 = 0) :
    minorP s = { s with other := s.store[(ordP s).to.toNat]?.getD 0, product := 0, count := 12, phase := 3, clock := s.clock + 1 } := by
  have ha : addrP s = (ordP s).to := by unfold addrP; rw [if_neg (by omega), if_neg (by omega), if_neg (by omega)]
  have hcm : comesP s = true := by
    unfold comesP
    rw [ha, decide_eq_true ht, decide_eq_true hm]; rfl
  have hr : replP s = false := by
    unfold replP
    rw [decide_eq_false (by omega : ¬ s.phase = 4), decide_eq_true h2, decide_eq_false (by rw [ho]; simp : ¬ (ordP s).op ≠ 4)]; rfl
  have hst : storeP s = s := by unfold storeP; rw [hr]; simp
  have hms : multsP s = s := by unfold multsP; rw [if_neg (by omega)]
  have hw : wordP s = s.store[(ordP s).to.toNat]?.getD 0 := by unfold wordP; rw [if_pos hcm, ha]
  unfold minorP
  rw [if_neg (by omega), if_neg hc, hst, hms, hw, hcm]
  unfold endP
  rw [if_pos (.inl rfl)]
  unfold cameP
  rw [if_neg (by omega), if_neg (by omega), if_pos h2]
  unfold toP
  rw [if_pos ho]
  unfold tickP
  rw [if_pos hy]
end Go.Q

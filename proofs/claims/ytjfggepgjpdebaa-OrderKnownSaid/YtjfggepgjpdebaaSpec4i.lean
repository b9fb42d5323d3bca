/- Layer 4 in plain Lean: the runs of the laws on two words. -/
import Derived.Test.YtjfggepgjpdebaaSpec4g
import Derived.Test.YtjfggepgjpdebaaC2
set_option linter.unusedVariables false
set_option linter.unusedSimpArgs false
namespace Go.Q
open Go.Proofs.Ytjfggepgjpdebaa
theorem wordB_mk {n : Int} (h : 0 ≤ n ∧ n ≤ 16777215) : wordB n = true := by simp only [wordB, inB, Bool.and_eq_true, decide_eq_true_eq]; exact h
theorem outB_words {xs : List Int} (h : ∀ x ∈ xs, 0 ≤ x ∧ x ≤ 16777215) : outB 16777215 xs = false := by
  unfold outB
  rw [List.any_eq_false]
  intro x hx
  have := h x hx
  simp only [Bool.or_eq_true, decide_eq_true_eq]
  omega
/-- what a good Begin returns is a valid state -/
theorem begin_valid {st tp : List Int} {start : Int} (h1 : st.length ≤ 128) (h2 : tp.length ≤ 200) (h3 : ∀ x ∈ st, 0 ≤ x ∧ x ≤ 16777215) (h4 : ∀ x ∈ tp, 0 ≤ x ∧ x ≤ 16777215) (h5 : 0 ≤ start ∧ start ≤ 127) :
    beginQ st tp start = (⟨st ++ List.replicate (128 - st.length) 0, tp, 0, [], start % 16, start, 0, 0⟩, 0) ∧ Valid ⟨st ++ List.replicate (128 - st.length) 0, tp, 0, [], start % 16, start, 0, 0⟩ := by
  constructor
  · unfold beginQ
    rw [if_pos ⟨h1, h2⟩, if_pos ⟨outB_words h3, outB_words h4, by simp only [addrB, inB, Bool.and_eq_true, decide_eq_true_eq]; exact h5⟩]
  · refine ⟨by simp; omega, h2, by simp, ?_, h4, by simp, ⟨Int.le_refl 0, by simp⟩, ⟨by show 0 ≤ start % 16; omega, by show start % 16 ≤ _; omega⟩, h5, ⟨Int.le_refl 0, by show 0 ≤ start % 16; omega⟩, ⟨by show (0 : Int) ≤ 0; omega, by show (0 : Int) ≤ 4; omega⟩, by show start % 16 % 16 = start % 16; omega⟩
    intro x hx
    rcases List.mem_append.1 hx with h | h
    · exact h3 x h
    · obtain ⟨_, rfl⟩ := List.mem_replicate.1 h
      omega
/-- one order, told by its word -/
theorem step_at {s : St} {k : Int} {o : Ord} (hk : wordAt s s.at_ = k) (ho : decodeQ k = o) (h0 : o.op ≠ 0) (h6 : o.op ≠ 6) (h7 : o.op ≠ 7) {u : Int} (hu : ∀ ng, whenUntil o s.time ng = u) (hm : u ≤ 1000000000) (h5 : o.op ≠ 5) :
    stepQ s = { doQ s o with at_ := o.nxt, time := u, done := s.done + 1 } := by
  have e : ordAt s = o := by unfold ordAt; rw [hk, ho]
  have hu' : untilAt s = u := by unfold untilAt; rw [e]; exact hu _
  have hw : whyAt s = 0 := by
    unfold whyAt
    rw [e, hu', if_neg h0, if_neg (fun c => h6 c.1), if_neg (fun c => h7 c.1), if_neg (by omega)]
  have ha : whenAt o (negAt s) = o.nxt := by unfold whenAt; rw [if_neg (fun c => h5 c.1)]
  unfold stepQ
  rw [if_pos hw, e, ha, hu']
theorem step_halt {s : St} {k : Int} (hk : wordAt s s.at_ = k) (h0 : (decodeQ k).op = 0) : stepQ s = { s with why := 1 } := by
  have e : (ordAt s).op = 0 := by unfold ordAt; rw [hk, h0]
  have hw : whyAt s = 1 := by unfold whyAt; rw [if_pos e]
  unfold stepQ
  rw [hw, if_neg (by decide)]
/-- the machine of OrderUndone: the words at 4, 5, 6, the time, the place, the orders done -/
def un (x y z t a d wy : Int) : St := ⟨[4260481, 6357634, 2179843, 6357511, x, y, z, 0] ++ List.replicate 120 0, [], 0, [], t, a, d, wy⟩
theorem un0 (x y z : Int) : stepQ (un x y z 0 0 0 0) = un x ((y + x) % 16777216) z 17 1 1 0 := by
  rw [step_at (s := un x y z 0 0 0 0) (k := 4260481) (o := ⟨2, 4, 5, 1⟩) rfl (by simp [decodeQ]) (by decide) (by decide) (by decide) (u := 17) (fun ng => show whenUntil ⟨2, 4, 5, 1⟩ 0 ng = 17 by cases ng <;> decide) (by decide) (by decide)]
  rfl
theorem un1 (x y z : Int) : stepQ (un x y z 17 1 1 0) = un x ((y - x) % 16777216) z 34 2 2 0 := by
  rw [step_at (s := un x y z 17 1 1 0) (k := 6357634) (o := ⟨3, 4, 5, 2⟩) rfl (by simp [decodeQ]) (by decide) (by decide) (by decide) (u := 34) (fun ng => show whenUntil ⟨3, 4, 5, 2⟩ 17 ng = 34 by cases ng <;> decide) (by decide) (by decide)]
  rfl
theorem un2 (x y z : Int) : stepQ (un x y z 34 2 2 0) = un x y y 51 3 3 0 := by
  rw [step_at (s := un x y z 34 2 2 0) (k := 2179843) (o := ⟨1, 5, 6, 3⟩) rfl (by simp [decodeQ]) (by decide) (by decide) (by decide) (u := 51) (fun ng => show whenUntil ⟨1, 5, 6, 3⟩ 34 ng = 51 by cases ng <;> decide) (by decide) (by decide)]
  rfl
theorem un3 (x y z : Int) : stepQ (un x y z 51 3 3 0) = un 0 y z 71 7 4 0 := by
  rw [step_at (s := un x y z 51 3 3 0) (k := 6357511) (o := ⟨3, 4, 4, 7⟩) rfl (by simp [decodeQ]) (by decide) (by decide) (by decide) (u := 71) (fun ng => show whenUntil ⟨3, 4, 4, 7⟩ 51 ng = 71 by cases ng <;> decide) (by decide) (by decide)]
  have : (x - x) % 16777216 = 0 := by omega
  show un ((x - x) % 16777216) y z 71 7 4 0 = _
  rw [this]
theorem un4 (x y z : Int) : stepQ (un x y z 71 7 4 0) = un x y z 71 7 4 1 := step_halt (s := un x y z 71 7 4 0) (k := 0) rfl (by simp [decodeQ])
theorem run_go {s : St} (n : Nat) (h : s.why = 0) : runQ (n + 1) s = runQ n (stepQ s) := by simp [runQ, h]
theorem un_two (x y : Int) (h : 0 ≤ y ∧ y ≤ 16777215) : runQ 2 (un x y 0 0 0 0 0) = un x y 0 34 2 2 0 := by
  have e : ((y + x) % 16777216 - x) % 16777216 = y := by omega
  rw [run_go 1 rfl, un0, run_go 0 rfl, un1, e]
  rfl
theorem un_nine (x y : Int) (h : 0 ≤ y ∧ y ≤ 16777215) : runQ 9 (un x y 0 0 0 0 0) = un 0 y y 71 7 4 1 := by
  have e : runQ 9 (un x y 0 0 0 0 0) = runQ 7 (runQ 2 (un x y 0 0 0 0 0)) := runQ_add 2 7 _
  rw [e, un_two x y h, run_go 6 rfl, un2, run_go 5 rfl, un3, run_go 4 rfl, un4]
  exact runQ_end (by show (1 : Int) ≠ 0; decide) 4
/-- the machine of OrderProduct -/
def pm (x y t a d : Int) : St := ⟨[8405251, x, y] ++ List.replicate 125 0, [], 0, [], t, a, d, 0⟩
theorem pm0 (x y : Int) : runQ 1 (pm x y 0 0 0) = pm x (prod x y) 19 3 1 := by
  rw [run_go 0 rfl]
  show stepQ (pm x y 0 0 0) = _
  rw [step_at (s := pm x y 0 0 0) (k := 8405251) (o := ⟨4, 1, 2, 3⟩) rfl (by simp [decodeQ]) (by decide) (by decide) (by decide) (u := 19) (fun ng => show whenUntil ⟨4, 1, 2, 3⟩ 0 ng = 19 by cases ng <;> decide) (by decide) (by decide)]
  rfl
theorem sgn_bd {n : Int} (h : 0 ≤ n ∧ n ≤ 16777215) : -8388608 ≤ sgn n ∧ sgn n ≤ 8388607 := by unfold sgn; split <;> omega
/-- a product, Signed -/
theorem prod_law {a b : Int} (ha : 0 ≤ a ∧ a ≤ 16777215) (hb : 0 ≤ b ∧ b ≤ 16777215) : (sgn a = -8388608 ∧ sgn b = -8388608) ∨ (sgn (prod a b) * 8388608 ≤ sgn a * sgn b ∧ sgn a * sgn b - sgn (prod a b) * 8388608 < 8388608) := by
  have h1 := sgn_bd ha
  have h2 := sgn_bd hb
  by_cases hc : sgn a = -8388608 ∧ sgn b = -8388608
  · exact .inl hc
  · refine .inr ?_
    unfold prod
    generalize sgn a = x at *
    generalize sgn b = y at *
    have hlo : -70368744177664 ≤ x * y := by
      rcases Int.le_total 0 x with h | h <;> rcases Int.le_total 0 y with h' | h'
      · have := Int.mul_nonneg h h'; omega
      · have : x * (-y) ≤ 8388607 * 8388608 := Int.mul_le_mul (by omega) (by omega) (by omega) (by omega)
        rw [Int.mul_neg] at this; omega
      · have : (-x) * y ≤ 8388608 * 8388607 := Int.mul_le_mul (by omega) (by omega) (by omega) (by omega)
        rw [Int.neg_mul] at this; omega
      · have := Int.mul_nonneg_of_nonpos_of_nonpos h h'; omega
    have hhi : x * y ≤ 70368735789056 := by
      rcases Int.le_total 0 x with h | h <;> rcases Int.le_total 0 y with h' | h'
      · have : x * y ≤ 8388607 * 8388607 := Int.mul_le_mul (by omega) (by omega) (by omega) (by omega)
        omega
      · have := Int.mul_nonpos_of_nonneg_of_nonpos h h'; omega
      · have := Int.mul_nonpos_of_nonpos_of_nonneg h h'; omega
      · have hne : ¬ (-x = 8388608 ∧ -y = 8388608) := fun c => hc (by omega)
        have e : x * y = (-x) * (-y) := by rw [Int.neg_mul_neg]
        rw [e]
        by_cases hx : -x ≤ 8388607
        · have : (-x) * (-y) ≤ 8388607 * 8388608 := Int.mul_le_mul hx (by omega) (by omega) (by omega)
          omega
        · have : (-x) * (-y) ≤ 8388608 * 8388607 := Int.mul_le_mul (by omega) (by omega) (by omega) (by omega)
          omega
    generalize x * y = n at *
    unfold sgn
    split <;> omega
theorem prod_word (a b : Int) : 0 ≤ prod a b ∧ prod a b ≤ 16777215 := by unfold prod; omega
end Go.Q

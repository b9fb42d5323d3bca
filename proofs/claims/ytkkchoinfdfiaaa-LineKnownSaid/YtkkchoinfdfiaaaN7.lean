/- Layer 1, plain: the examples of the document. -/
import Derived.Test.YtkkchoinfdfiaaaN6
set_option linter.unusedVariables false
set_option linter.unusedSimpArgs false
namespace Go.Q
open Go.Proofs.Ytkkchoinfdfiaaa
def exL : Ln := ⟨4, 8, 10, 320, 1, 3⟩
def exO : Ov := ⟨20, 30, ⟨2, 4⟩, ⟨1, 3⟩⟩
def exA : Ov := ⟨-2, 0, ⟨1, 1⟩, ⟨1, 1⟩⟩
def exB : Ov := ⟨-2, 0, ⟨1, 1⟩, ⟨2, 2⟩⟩
theorem ex_shift3 : shiftE exL 3 = (0, false, 0) := by decide +kernel
theorem ex_shift5 : shiftE exL 5 = (0, true, 0) := by decide +kernel
theorem ex_safe : safeE exL = (⟨-3, 3⟩, 0) := by decide +kernel
theorem ex_pass : passE exL [1, 128, 0, 255] [8, -8] = ([1, 128, 0, 255], -1, 0) := by decide +kernel
theorem ex_pass2 : passE exL [1, 128, 0, 255] [2, 5, 8] = ([0, 0, 0, 0], 1, 0) := by decide +kernel
theorem ex_can : canE exL [⟨0, 3⟩, ⟨7, 8⟩] = ([1], false, 0) := by decide +kernel
theorem ex_next : nextE exL 2 15 = (16, 0) := by decide +kernel
theorem exO_in : ∀ (m : Nat) (s : Int × Bool), s ∈ statesO exO ⟨25, 25⟩ false m → 17 ≤ s.1 ∧ s.1 ≤ 34
  | 0, (t, b), h => by
    have := (states_zero.1 h).1
    dsimp only at this ⊢
    omega
  | m + 1, s, h => by
    obtain ⟨⟨t, b⟩, hx, hs⟩ := List.mem_flatMap.1 h
    have ih := exO_in m _ hx
    dsimp only at ih
    unfold afterO at hs
    dsimp only at hs
    cases hh : heatsO exO t b with
    | true =>
      rw [hh, if_pos rfl] at hs
      obtain ⟨n, hn, rfl⟩ := List.mem_map.1 hs
      have hn := mem_tempsS.1 hn
      unfold heatsO exO at hh
      simp only [Bool.or_eq_true, Bool.and_eq_true, decide_eq_true_eq] at hh
      unfold exO at hn
      dsimp only at hn ⊢
      omega
    | false =>
      rw [hh, if_neg (by simp)] at hs
      obtain ⟨n, hn, rfl⟩ := List.mem_map.1 hs
      have hn := mem_tempsS.1 hn
      unfold heatsO exO at hh
      simp only [Bool.or_eq_false_iff, decide_eq_false_iff_not] at hh
      unfold exO at hn
      dsimp only at hn ⊢
      omega
theorem exA_in : ∀ (m : Nat) (s : Int × Bool), s ∈ statesO exA ⟨0, 0⟩ false m → -3 ≤ s.1 ∧ s.1 ≤ 1
  | 0, (t, b), h => by
    have := (states_zero.1 h).1
    dsimp only at this ⊢
    omega
  | m + 1, s, h => by
    obtain ⟨⟨t, b⟩, hx, hs⟩ := List.mem_flatMap.1 h
    have ih := exA_in m _ hx
    dsimp only at ih
    unfold afterO at hs
    dsimp only at hs
    cases hh : heatsO exA t b with
    | true =>
      rw [hh, if_pos rfl] at hs
      obtain ⟨n, hn, rfl⟩ := List.mem_map.1 hs
      have hn := mem_tempsS.1 hn
      unfold heatsO exA at hh
      simp only [Bool.or_eq_true, Bool.and_eq_true, decide_eq_true_eq] at hh
      unfold exA at hn
      dsimp only at hn ⊢
      omega
    | false =>
      rw [hh, if_neg (by simp)] at hs
      obtain ⟨n, hn, rfl⟩ := List.mem_map.1 hs
      have hn := mem_tempsS.1 hn
      unfold heatsO exA at hh
      simp only [Bool.or_eq_false_iff, decide_eq_false_iff_not] at hh
      unfold exA at hn
      dsimp only at hn ⊢
      omega
theorem exO_step (m : Nat) (t n t' : Int) (b b' : Bool) (h : (t, b) ∈ statesO exO ⟨25, 25⟩ false m) (hh : heatsO exO t b = b') (hn : if b' = true then 2 ≤ n ∧ n ≤ 4 else 1 ≤ n ∧ n ≤ 3) (ht : (if b' = true then t + n else t - n) = t') : (t', b') ∈ statesO exO ⟨25, 25⟩ false (m + 1) := by
  have := state_next h (n := n) (by rw [hh]; exact hn)
  rw [hh, ht] at this
  exact this
theorem exO_path : (17, false) ∈ statesO exO ⟨25, 25⟩ false 3 ∧ (34, true) ∈ statesO exO ⟨25, 25⟩ false 8 := by
  have s0 : (25, false) ∈ statesO exO ⟨25, 25⟩ false 0 := states_zero.2 ⟨by decide, rfl⟩
  have s1 := exO_step 0 25 3 22 false false s0 (by decide) (by decide) (by decide)
  have s2 := exO_step 1 22 2 20 false false s1 (by decide) (by decide) (by decide)
  have s3 := exO_step 2 20 3 17 false false s2 (by decide) (by decide) (by decide)
  have s4 := exO_step 3 17 4 21 false true s3 (by decide) (by decide) (by decide)
  have s5 := exO_step 4 21 4 25 true true s4 (by decide) (by decide) (by decide)
  have s6 := exO_step 5 25 3 28 true true s5 (by decide) (by decide) (by decide)
  have s7 := exO_step 6 28 2 30 true true s6 (by decide) (by decide) (by decide)
  have s8 := exO_step 7 30 4 34 true true s7 (by decide) (by decide) (by decide)
  exact ⟨s3, s8⟩
theorem ex_oven : ovenE exO ⟨25, 25⟩ false 200 = (⟨17, 34⟩, 0) := by
  have hx : ovenX exO ⟨25, 25⟩ 200 = 0 := by decide
  have e1 : loO exO ⟨25, 25⟩ false 200 = 17 := by
    have h1 := loO_state (o := exO) (temp := ⟨25, 25⟩) (heats := false) 200 3 (by omega) _ exO_path.1
    dsimp only at h1
    rcases loO_got (o := exO) (temp := ⟨25, 25⟩) (heats := false) 200 with h | ⟨m, _, s, hs, h⟩
    · dsimp only at h; omega
    · have := exO_in m s hs; omega
  have e2 : hiO exO ⟨25, 25⟩ false 200 = 34 := by
    have h1 := hiO_state (o := exO) (temp := ⟨25, 25⟩) (heats := false) 200 8 (by omega) _ exO_path.2
    dsimp only at h1
    rcases hiO_got (o := exO) (temp := ⟨25, 25⟩) (heats := false) 200 with h | ⟨m, _, s, hs, h⟩
    · dsimp only at h; omega
    · have := exO_in m s hs; omega
  unfold ovenE
  rw [if_pos hx]
  show ((⟨loO exO ⟨25, 25⟩ false 200, hiO exO ⟨25, 25⟩ false 200⟩ : Sp), (0 : Int)) = _
  rw [e1, e2]
theorem exA_safe : ∀ t : Int, -3 ≤ t → t ≤ 1 → safeL exL t = true := by
  intro t h1 h2
  have : t = -3 ∨ t = -2 ∨ t = -1 ∨ t = 0 ∨ t = 1 := by omega
  rcases this with rfl | rfl | rfl | rfl | rfl <;> decide
theorem ex_keepsA : keepsE exL exA ⟨0, 0⟩ false 200 = (-1, 0) := by
  have hx : ovenX exA ⟨0, 0⟩ 200 = 0 := by decide
  have hc : checkL exL = 0 := by decide
  have e : kpF (unsafeO exL exA ⟨0, 0⟩ false) 200 = -1 := kpF_none (fun m _ => by
    unfold unsafeO
    rw [List.any_eq_false]
    intro s hs
    have := exA_in m s hs
    rw [exA_safe s.1 this.1 this.2]
    simp)
  unfold keepsE
  rw [if_neg (by rw [hc]; simp), if_neg (by rw [hx]; simp)]
  show (kpF (unsafeO exL exA ⟨0, 0⟩ false) 200, (0 : Int)) = _
  rw [e]
theorem ex_keepsB : keepsE exL exB ⟨0, 0⟩ false 200 = (2, 0) := by
  have hx : ovenX exB ⟨0, 0⟩ 200 = 0 := by decide
  have hc : checkL exL = 0 := by decide
  have e : kpF (unsafeO exL exB ⟨0, 0⟩ false) 200 = 2 := kpF_some (k := 2) (by omega) (by decide +kernel) (fun j hj => by
    have : j = 0 ∨ j = 1 := by omega
    rcases this with rfl | rfl <;> decide +kernel)
  unfold keepsE
  rw [if_neg (by rw [hc]; simp), if_neg (by rw [hx]; simp)]
  show (kpF (unsafeO exL exB ⟨0, 0⟩ false) 200, (0 : Int)) = _
  rw [e]
end Go.Q

import Derived.Test.YtbcciokmlkofkaaGreatWSpec4d
import Derived.Test.YtbcciokmlkofkaaGreatWN6
set_option linter.unusedVariables false
set_option linter.unusedSimpArgs false
/- Layer 4 in plain Lean: a run that has ended stays; runs one after the other are one run; what a run leaves. -/
namespace Go.Q
theorem runQ_end {s : St} (h : s.why ≠ 0) : ∀ n, runQ n s = s
  | 0 => rfl
  | n + 1 => by simp [runQ, h]
theorem runQ_add (a : Nat) : ∀ (b : Nat) (s : St), runQ (a + b) s = runQ b (runQ a s)
  | 0, s => rfl
  | b + 1, s => by
    rw [← Nat.add_assoc, runQ_snoc (a + b) s, runQ_snoc b (runQ a s), runQ_add a b s]
theorem stepQ_done (s : St) : (whyAt s = 0 ∧ (stepQ s).done = s.done + 1 ∧ (stepQ s).time = untilAt s) ∨ (whyAt s ≠ 0 ∧ stepQ s = { s with why := whyAt s }) := by
  by_cases h : whyAt s = 0
  · exact .inl ⟨h, by unfold stepQ; rw [if_pos h], by unfold stepQ; rw [if_pos h]⟩
  · exact .inr ⟨h, by unfold stepQ; rw [if_neg h]⟩
theorem runQ_done : ∀ (n : Nat) (s : St), s.done ≤ (runQ n s).done ∧ (runQ n s).done ≤ s.done + n ∧ s.time ≤ (runQ n s).time ∧ ((runQ n s).why = 0 → (runQ n s).done = s.done + n)
  | 0, s => by
    show s.done ≤ s.done ∧ s.done ≤ s.done + ((0 : Nat) : Int) ∧ s.time ≤ s.time ∧ (s.why = 0 → s.done = s.done + ((0 : Nat) : Int))
    omega
  | n + 1, s => by
    obtain ⟨h1, h2, h3, h4⟩ := runQ_done n s
    rw [runQ_snoc]
    by_cases h : (runQ n s).why = 0
    · rw [if_pos h]
      have h4' := h4 h
      rcases stepQ_done (runQ n s) with ⟨hw, hd, ht⟩ | ⟨hw, he⟩
      · rw [hd, ht]
        have hu := (until_bd (ordAt (runQ n s)) (runQ n s).time (negAt (runQ n s))).1
        have hu' : (runQ n s).time + 2 ≤ untilAt (runQ n s) := hu
        refine ⟨by omega, by omega, by omega, fun _ => by omega⟩
      · rw [he]
        exact ⟨h1, by show (runQ n s).done ≤ _; omega, h3, fun c => absurd c hw⟩
    · rw [if_neg h]
      exact ⟨h1, by omega, h3, fun c => absurd c h⟩
theorem traceQ_len : ∀ (n : Nat) (s : St), ((traceQ n s).length : Int) = (runQ n s).done - s.done
  | 0, s => by show ((([] : List Stp).length : Nat) : Int) = s.done - s.done; simp
  | n + 1, s => by
    have ih := traceQ_len n s
    rw [traceQ_snoc, runQ_snoc]
    by_cases h : (runQ n s).why = 0
    · rcases stepQ_done (runQ n s) with ⟨hw, hd, _⟩ | ⟨hw, he⟩
      · have hs : (stepQ (runQ n s)).why = 0 := by rw [stepQ_why h]; exact hw
        rw [if_pos ⟨h, hs⟩, if_pos h, hd]
        simp only [List.length_append, List.length_cons, List.length_nil]
        omega
      · have hs : (stepQ (runQ n s)).why ≠ 0 := by rw [stepQ_why h]; exact hw
        rw [if_neg (fun c => hs c.2), if_pos h, he]
        exact ih
    · rw [if_neg (fun c => h c.1), if_neg h]
      exact ih
theorem idxQ_none {p : Int → Bool} {xs : List Int} (h : ∀ x ∈ xs, p x = false) : ¬ 0 ≤ idxQ p xs := by
  have e := idxQ_nonneg p xs
  have : xs.any p = false := List.any_eq_false.2 (fun x hx => by simp [h x hx])
  rw [this] at e
  exact of_decide_eq_false e
theorem check_of_valid {s : St} (h : Valid s) : checkQ s = (0, 0, 0) := by
  have bw : ∀ {xs : List Int}, (∀ x ∈ xs, 0 ≤ x ∧ x ≤ 16777215) → ¬ 0 ≤ idxQ badW xs := fun hx => idxQ_none (fun x hm => by
    have := hx x hm
    simp only [badW, wordB, inB, Bool.not_eq_false', Bool.and_eq_true, decide_eq_true_eq]
    exact this)
  have hl : lensB s = true := by
    simp only [lensB, Bool.and_eq_true, beq_iff_eq, decide_eq_true_eq]
    exact ⟨⟨h.len, h.tlen⟩, h.plen⟩
  have hf : fieldsB s = true := by
    simp only [fieldsB, addrB, inB, Bool.and_eq_true, decide_eq_true_eq]
    exact ⟨⟨⟨⟨h.taken, h.time⟩, h.at_⟩, h.done⟩, h.why⟩
  unfold checkQ
  rw [if_neg (by simp [hl]), if_neg (bw h.ws), if_neg (bw h.wt), if_neg (bw h.wp), if_neg (by simp [hf]), if_neg (by simpa using h.place)]
theorem asked_of_valid {s : St} (h : Valid s) {most : Int} (hm : 0 ≤ most ∧ most ≤ 5000) : askedQ s most = 0 := by
  have hi : inB most 0 5000 = true := by simp only [inB, Bool.and_eq_true, decide_eq_true_eq]; exact hm
  unfold askedQ
  rw [check_of_valid h, if_neg (by simp), if_pos hi]
end Go.Q
/- Plain: the lines of a machine's store, and how they keep their words in an oven. -/
namespace Go.Q
open Go.Proofs.YtbcciokmlkofkaaGreat
/-- a line of the machine's words -/
def lineW (l : Ln) : Ln := ⟨16, 24, l.period, l.delay, l.slope, l.window⟩
def lane (s : St) (k : Nat) : List Int := (s.store.drop (16 * k)).take 16
theorem lane_length {s : St} (h : Valid s) {k : Nat} (hk : k < 8) : (lane s k).length = 16 := by
  unfold lane
  rw [List.length_take, List.length_drop, h.len]
  omega
theorem lane_get {s : St} {k i : Nat} (hi : i < 16) : (lane s k)[i]? = s.store[16 * k + i]? := by
  unfold lane
  rw [List.getElem?_take, if_pos hi, List.getElem?_drop]
theorem lane_words {l : Ln} {s : St} (h : Valid s) {k : Nat} (hk : k < 8) : wordsE (lineW l) (lane s k) = 0 := by
  unfold wordsE
  rw [if_neg (by rw [lane_length h hk]; exact fun e => e rfl), if_neg]
  rw [Bool.not_eq_true, List.any_eq_false]
  intro x hx
  have hw := h.ws x (List.mem_of_mem_drop (List.mem_of_mem_take hx))
  have e : inB x 0 (2 ^ (lineW l).bits.toNat - 1) = true := by
    show inB x 0 16777215 = true
    unfold inB
    rw [decide_eq_true hw.1, decide_eq_true hw.2]
    rfl
  rw [e]
  simp
theorem lanes_join {s : St} (k : Nat) : s.store.take (16 * k) ++ lane s k = s.store.take (16 * (k + 1)) := by
  unfold lane
  rw [Nat.mul_add, Nat.mul_one, List.take_add]
theorem lanes_all {s : St} (h : Valid s) : s.store.take (16 * 8) = s.store := List.take_of_length_le (by rw [h.len]; decide)
theorem lanes_length {s : St} (h : Valid s) {k : Nat} (hk : k ≤ 8) : (s.store.take (16 * k)).length = 16 * k := by
  rw [List.length_take, h.len]
  omega
/-- what Pass returns of a line of the store, if Keeps doubts at no minute -/
theorem warm_pass {l : Ln} {o : Ov} {temp : Sp} {heats : Bool} {xs : List Int} {s : St} {M k : Nat} (hv : Valid s) (hk : k < 8) (hM : M ≤ 59) (hx : ∀ x ∈ xs, 0 ≤ x ∧ x ≤ 255) (h0 : (keepsE (lineW l) o temp heats (M : Int)).2 = 0) (h1 : (keepsE (lineW l) o temp heats (M : Int)).1 < 0) :
    passE (lineW l) (lane s k) (tempsQ o temp heats xs M) = (lane s k, -1, 0) ∧ OkO o ∧ spanX temp = 0 := by
  have hc : checkL (lineW l) = 0 := by
    by_cases h : checkL (lineW l) = 0
    · exact h
    · unfold keepsE at h0; rw [if_pos h] at h0; exact absurd h0 h
  have ho : ovenX o temp (M : Int) = 0 := by
    by_cases h : ovenX o temp (M : Int) = 0
    · exact h
    · unfold keepsE at h0; rw [if_neg (by omega), if_pos h] at h0; exact absurd h0 h
  have e : keepsE (lineW l) o temp heats (M : Int) = (kpF (unsafeO (lineW l) o temp heats) M, 0) := by unfold keepsE; rw [if_neg (by omega), if_neg (by omega)]; simp
  rw [e] at h1
  have hok : okL (lineW l) = true := by
    unfold checkL at hc
    split at hc
    · assumption
    · omega
  obtain ⟨hO, hsp, _, _⟩ := okO_of ho
  have hO2 := hO
  obtain ⟨a1, a2, a3, a4, a5⟩ := hO
  obtain ⟨t0, t1, t2⟩ := spanX_bd hsp
  have hs := temps_safe (xs := xs) hx ⟨t1, by omega⟩ ⟨a4.2.1, by omega⟩ ⟨a5.2.1, by omega⟩ h1
  exact ⟨pass_safe hok (lane_words hv hk) (by rw [tempsQ_length]; omega) hs, hO2, hsp⟩
end Go.Q

/- Layer 1 in plain Lean: rounds in another order; how many pulses there are. -/
import Derived.Test.YtkkchoinfdfiaaaI5
set_option linter.unusedVariables false
set_option linter.unusedSimpArgs false
namespace Go.Q
theorem any_reverse {α : Type} (p : α → Bool) (xs : List α) : xs.reverse.any p = xs.any p := by
  rw [Bool.eq_iff_iff, List.any_eq_true, List.any_eq_true]
  simp only [List.mem_reverse]
theorem passX_rev (l : Ln) (ws ts : List Int) : passX l ws ts.reverse = passX l ws ts := by
  unfold passX
  rw [List.length_reverse, any_reverse]
theorem foldl_add (xs : List Int) : ∀ a, xs.foldl (· + ·) a = a + xs.foldl (· + ·) 0 := by
  induction xs with
  | nil => intro a; simp
  | cons x xs ih => intro a; rw [List.foldl_cons, List.foldl_cons, ih (a + x), ih (0 + x)]; omega
theorem sumL_cons (l : Ln) (t : Int) (ts : List Int) : sumL l (t :: ts) = byL l t + sumL l ts := by
  unfold sumL
  rw [List.map_cons, List.foldl_cons, foldl_add]
  omega
theorem sumL_rev (l : Ln) (ts : List Int) : sumL l ts.reverse = sumL l ts := by
  induction ts with
  | nil => rfl
  | cons t ts ih => rw [List.reverse_cons, sumL_snoc, ih, sumL_cons]; omega
theorem passW_rev {l : Ln} (h : OkL l) {ws ts : List Int} (hw : wordsE l ws = 0) : passW l ws ts.reverse = passW l ws ts := by
  cases hl : ts.any (lostL l) with
  | true => rw [pass_lost hl, pass_lost (by rw [any_reverse]; exact hl)]
  | false => rw [pass_rot h hw hl, pass_rot h hw (by rw [any_reverse]; exact hl), sumL_rev]
/-- by how many beats, lost pulses counting nothing -/
def sumS (l : Ln) (ts : List Int) : Int := (ts.map fun t => (shiftV l t).1).foldl (· + ·) 0
theorem sumS_snoc (l : Ln) (ts : List Int) (t : Int) : sumS l (ts ++ [t]) = sumS l ts + (shiftV l t).1 := by simp [sumS]
theorem sumS_sumL {l : Ln} : ∀ {ts : List Int}, ts.any (lostL l) = false → sumS l ts = sumL l ts := by
  intro ts
  induction ts with
  | nil => intro _; rfl
  | cons t ts ih =>
    intro h
    rw [List.any_cons, Bool.or_eq_false_iff] at h
    have e : sumS l (t :: ts) = (shiftV l t).1 + sumS l ts := by
      unfold sumS
      rw [List.map_cons, List.foldl_cons, foldl_add]
      omega
    rw [e, ih h.2, sumL_cons]
    unfold shiftV
    rw [h.1]
    rfl
theorem shiftV_bd {l : Ln} (h : OkL l) {t : Int} (ht : tempB t = true) : -1000000000000 ≤ (shiftV l t).1 ∧ (shiftV l t).1 ≤ 1000000000000 := by
  have hb := inB_bd ht
  unfold shiftV
  split
  · dsimp only; omega
  · exact Go.Q.OkL.by_bd h (by omega)
theorem sumS_bd {l : Ln} (h : OkL l) : ∀ {ts : List Int}, (∀ t ∈ ts, tempB t = true) → -1000000000000 * ts.length ≤ sumS l ts ∧ sumS l ts ≤ 1000000000000 * ts.length := by
  intro ts
  induction ts with
  | nil => intro _; simp [sumS]
  | cons t ts ih =>
    intro hts
    have h1 := shiftV_bd h (hts t List.mem_cons_self)
    have h2 := ih (fun x hx => hts x (List.mem_cons_of_mem _ hx))
    have e : sumS l (t :: ts) = (shiftV l t).1 + sumS l ts := by
      unfold sumS
      rw [List.map_cons, List.foldl_cons, foldl_add]
      omega
    rw [e, List.length_cons]
    omega
/-- the round in which pulses are lost first -/
theorem at_lost {l : Ln} {ts : List Int} {i : Nat} (hi : i < ts.length) (h : lostL l (ts[i]?.getD 0) = true) : 0 ≤ atL l ts ∧ atL l ts ≤ i := by
  unfold atL idxQ
  cases hf : ts.findIdx? (lostL l) with
  | none =>
    rw [List.findIdx?_eq_none_iff] at hf
    rw [List.getElem?_eq_getElem hi] at h
    have := hf _ (List.getElem_mem hi)
    rw [show (some ts[i]).getD 0 = ts[i] from rfl] at h
    rw [h] at this
    simp at this
  | some j =>
    rw [List.findIdx?_eq_some_iff_getElem] at hf
    obtain ⟨hj, _, hn⟩ := hf
    refine ⟨by simp, ?_⟩
    by_cases hij : j ≤ i
    · show (j : Int) ≤ i; omega
    · have := hn i (by omega)
      rw [List.getElem?_eq_getElem hi] at h
      rw [show (some ts[i]).getD 0 = ts[i] from rfl] at h
      rw [h] at this
      simp at this
theorem at_kept {l : Ln} {ts : List Int} {i : Nat} (hi : i < ts.length) (h : lostL l (ts[i]?.getD 0) = false) : atL l ts ≠ i := by
  unfold atL idxQ
  cases hf : ts.findIdx? (lostL l) with
  | none => show (-1 : Int) ≠ i; omega
  | some j =>
    rw [List.findIdx?_eq_some_iff_getElem] at hf
    obtain ⟨hj, hp, _⟩ := hf
    intro e
    have e2 : j = i := by
      have : (j : Int) = i := e
      omega
    subst e2
    rw [List.getElem?_eq_getElem hi, show (some ts[j]).getD 0 = ts[j] from rfl, hp] at h
    simp at h
theorem at_bd (l : Ln) (ts : List Int) : -1 ≤ atL l ts ∧ atL l ts < ts.length := idxQ_lt _ _
theorem at_neg {l : Ln} {ts : List Int} (h : atL l ts < 0) : ts.any (lostL l) = false := by
  cases hl : ts.any (lostL l) with
  | false => rfl
  | true => have := atL_some hl; omega
theorem at_pos {l : Ln} {ts : List Int} (h : ¬ atL l ts < 0) : ts.any (lostL l) = true := by
  cases hl : ts.any (lostL l) with
  | true => rfl
  | false => have := atL_none hl; omega
theorem count_late (ps : List Bool) (s : Nat) : (lateP ps s).count true = ps.count true := by
  unfold lateP
  rw [List.count_append, Nat.add_comm, ← List.count_append, List.take_append_drop]
theorem count_rounds {l : Ln} {ps : List Bool} : ∀ ts : List Int, ts.any (lostL l) = false → (roundsP l ps ts).count true = ps.count true := by
  refine snoc_induct ?_ ?_
  · intro _; rfl
  · intro ts t ih h
    rw [List.any_append, Bool.or_eq_false_iff] at h
    have ht : lostL l t = false := by simpa using h.2
    rw [roundsP_snoc, ← ih h.1]
    unfold roundP
    rw [ht, if_neg (by simp), count_late]
theorem ones_bits {bits : Nat} (hb : bits ≤ 40) : ∀ ws : List Int, (∀ x ∈ ws, 0 ≤ x ∧ x < 2 ^ bits) → onesQ ws = ((pulsesN bits ws).count true : Nat) := by
  intro ws
  induction ws with
  | nil => intro _; rfl
  | cons x ws ih =>
    intro h
    have h1 := ih (fun y hy => h y (List.mem_cons_of_mem _ hy))
    have h2 := h x List.mem_cons_self
    unfold onesQ at h1 ⊢
    have e : ∀ b, pulsesN b (x :: ws) = pulse1 b x ++ pulsesN b ws := fun b => by simp [pulsesN]
    rw [e, e, List.count_append, List.count_append]
    have e2 : (pulse1 40 x).count true = (pulse1 bits x).count true := count_rest (f := bitN x) (fun i hi => bitN_high h2.1 h2.2 i hi) 40 hb
    rw [e2]
    omega
theorem ones_zero (n : Nat) : onesQ (List.replicate n 0) = 0 := by
  have : ∀ n, (pulsesN 40 (List.replicate n 0)).count true = 0 := by
    intro n
    induction n with
    | zero => rfl
    | succ n ih =>
      rw [List.replicate_succ]
      have e : pulsesN 40 (0 :: List.replicate n 0) = pulse1 40 0 ++ pulsesN 40 (List.replicate n 0) := by simp [pulsesN]
      rw [e, List.count_append, ih]
      decide
  unfold onesQ
  rw [this]
  rfl
theorem wordN_bd (bits : Nat) (ps : List Bool) (k : Nat) : 0 ≤ wordN bits ps k ∧ wordN bits ps k < 2 ^ bits := sumB_bd _ _
theorem wordsN_bd (bits n : Nat) (ps : List Bool) : ∀ x ∈ wordsN bits n ps, 0 ≤ x ∧ x < 2 ^ bits := by
  intro x hx
  unfold wordsN fstN at hx
  obtain ⟨k, _, rfl⟩ := List.mem_map.1 hx
  exact wordN_bd _ _ _
theorem bits40 {bits : Nat} (h : bits ≤ 40) {x : Int} (hx : 0 ≤ x ∧ x < 2 ^ bits) : 0 ≤ x ∧ x < 1099511627776 := by
  have h2 : (2 : Int) ^ bits ≤ 2 ^ 40 := by exact_mod_cast Nat.pow_le_pow_right (by decide : 0 < 2) h
  have e : (2 : Int) ^ 40 = 1099511627776 := by decide
  omega
theorem ones_pass {l : Ln} (h : OkL l) {ws ts : List Int} (hw : wordsE l ws = 0) (hl : ts.any (lostL l) = false) : onesQ (passW l ws ts) = onesQ ws := by
  have hb := h.bits
  have hwd := h.words
  have h1 := words_bd h hw
  have hlen := pulses_len h hw
  unfold passW
  rw [ones_bits (bits := l.bits.toNat) (by omega) ws h1.2, ones_bits (bits := l.bits.toNat) (by omega) _ (wordsN_bd _ _ _)]
  rw [pulses_words (by rw [roundsP_length, pulsesN_length, show ws.length = l.words.toNat by omega]), count_rounds ts hl]
end Go.Q

/- Layer 1 in plain Lean: the safe temperatures are a span; one pulse; words and their pulses. -/
import Derived.Test.YtkkchoinfdfiaaaN1
import Derived.Test.YtkkchoinfdfiaaaI3
set_option linter.unusedVariables false
set_option linter.unusedSimpArgs false
namespace Go.Q
open Go.Proofs.Ytkkchoinfdfiaaa
theorem sumB_bit (f : Nat → Bool) : ∀ (j i : Nat), i < j → bitN (sumB f j) i = f i
  | 0, i, h => by omega
  | j + 1, i, h => by
    have hb := sumB_bd f j
    have hp : (0 : Int) < 2 ^ j := Int.pow_pos (by decide)
    by_cases e : i = j
    · subst e
      unfold sumB bitN
      cases hf : f i with
      | true =>
        rw [if_pos rfl, show sumB f i + 2 ^ i = sumB f i + 2 ^ i * 1 by omega, Int.add_mul_ediv_left _ _ (by omega), Int.ediv_eq_zero_of_lt hb.1 hb.2]
        decide
      | false =>
        rw [if_neg (by simp), Int.add_zero, Int.ediv_eq_zero_of_lt hb.1 hb.2]
        decide
    · have ih := sumB_bit f j i (by omega)
      have es : sumB f (j + 1) = sumB f j + (if f j = true then 2 ^ j else 0) := rfl
      rw [← ih, es]
      unfold bitN
      cases hf : f j with
      | false => rw [if_neg (by simp), Int.add_zero]
      | true =>
        rw [if_pos rfl]
        have e2 : (2 : Int) ^ j = 2 ^ i * (2 * 2 ^ (j - i - 1)) := by
          rw [← Int.mul_assoc, ← Int.pow_succ, ← Int.pow_add]
          congr 1
          omega
        rw [e2, Int.add_mul_ediv_left _ _ (by have : (0 : Int) < 2 ^ i := Int.pow_pos (by decide); omega), Int.add_mul_emod_self_left]
theorem pulses_words {bits n : Nat} {ps : List Bool} (h : ps.length = n * bits) : pulsesN bits (wordsN bits n ps) = ps := by
  have hl : (pulsesN bits (wordsN bits n ps)).length = n * bits := by rw [pulsesN_length]; unfold wordsN; rw [fstN_length]
  refine list_ext (by omega) fun k hk => ?_
  rw [hl] at hk
  have hb : 0 < bits := by
    rcases Nat.eq_zero_or_pos bits with h0 | h0
    · rw [h0] at hk; simp at hk
    · exact h0
  have e : k = k / bits * bits + k % bits := by rw [Nat.mul_comm]; exact (Nat.div_add_mod k bits).symm
  have h1 : k / bits < n := Nat.div_lt_of_lt_mul (by rw [Nat.mul_comm]; exact hk)
  have h2 := Nat.mod_lt k hb
  have h3 := pulsesN_get bits (wordsN bits n ps) (k / bits) (k % bits) (by unfold wordsN; rw [fstN_length]; exact h1) h2
  rw [← e] at h3
  rw [h3]
  unfold wordsN
  rw [fstN_get _ h1]
  have h4 := sumB_bit (fun i => ps[k / bits * bits + i]?.getD false) bits (k % bits) h2
  rw [← e] at h4
  show some (bitN (wordN bits ps (k / bits)) (k % bits)) = _
  unfold wordN
  rw [h4, List.getElem?_eq_getElem (by omega)]
  rfl
theorem safeL_iff {l : Ln} (h : OkL l) (t : Int) : safeL l t = true ↔ (0 ≤ lateL l t ∧ lateL l t ≤ 2 * l.window) ∧ tempB t = true := by
  have hp := h.period
  have hw := h.window
  unfold safeL byL lostL
  rw [Bool.and_eq_true, Bool.and_eq_true, beq_iff_eq, Bool.not_eq_true', decide_eq_false_iff_not]
  have e1 := Int.emod_add_mul_ediv (lateL l t) l.period
  have e2 := Int.emod_nonneg (lateL l t) (show l.period ≠ 0 by omega)
  have e3 := Int.emod_lt_of_pos (lateL l t) (show 0 < l.period by omega)
  constructor
  · rintro ⟨⟨a, b⟩, c⟩
    rw [a, Int.mul_zero] at e1
    exact ⟨⟨by omega, by omega⟩, c⟩
  · rintro ⟨⟨a, b⟩, c⟩
    have h1 : lateL l t / l.period = 0 := Int.ediv_eq_zero_of_lt a (by omega)
    rw [h1, Int.mul_zero] at e1
    exact ⟨⟨h1, by omega⟩, c⟩
theorem mem_safeK {l : Ln} {t : Int} : t ∈ safeK l 1501 ↔ safeL l t = true := by
  constructor
  · intro h
    exact (List.mem_filter.1 h).2
  · intro h
    have ht : tempB t = true := by
      unfold safeL at h
      rw [Bool.and_eq_true] at h
      exact h.2
    have hb := inB_bd ht
    refine List.mem_filter.2 ⟨?_, h⟩
    unfold fstN
    exact List.mem_map.2 ⟨(t + 500).toNat, List.mem_range.2 (by omega), by omega⟩
/-- the temperatures at which a line is safe are those of the span -/
theorem safe_span {l : Ln} (h : OkL l) (hs : safeK l 1501 ≠ []) (t : Int) : (loK l 1501 ≤ t ∧ t ≤ hiK l 1501) ↔ safeL l t = true := by
  have h1 := fold_min (fun x : Int => x) (safeK l 1501) 1001
  have h2 := fold_max (fun x : Int => x) (safeK l 1501) (-501)
  have e1 : loK l 1501 = (safeK l 1501).foldl (fun a s => min a s) 1001 := rfl
  have e2 : hiK l 1501 = (safeK l 1501).foldl (fun a s => max a s) (-501) := rfl
  constructor
  · rintro ⟨a, b⟩
    rw [e1] at a
    rw [e2] at b
    obtain ⟨x, hx⟩ := List.exists_mem_of_ne_nil _ hs
    have hxb := safeK_bd hx
    obtain ⟨u, hu, eu⟩ : ∃ u ∈ safeK l 1501, (safeK l 1501).foldl (fun a s => min a s) 1001 = u := by
      rcases h1.2.2 with h | h
      · exfalso; have := h1.2.1 x hx; omega
      · exact h
    obtain ⟨v, hv, ev⟩ : ∃ v ∈ safeK l 1501, (safeK l 1501).foldl (fun a s => max a s) (-501) = v := by
      rcases h2.2.2 with h | h
      · exfalso; have := h2.2.1 x hx; omega
      · exact h
    rw [eu] at a
    rw [ev] at b
    obtain ⟨su, tu⟩ := (safeL_iff h u).1 (mem_safeK.1 hu)
    obtain ⟨sv, tv⟩ := (safeL_iff h v).1 (mem_safeK.1 hv)
    refine (safeL_iff h t).2 ⟨?_, ?_⟩
    · unfold lateL at *
      rcases Int.le_total 0 l.slope with hp | hn
      · have m1 := Int.mul_le_mul_of_nonneg_left a hp
        have m2 := Int.mul_le_mul_of_nonneg_left b hp
        omega
      · have m1 := Int.mul_le_mul_of_nonpos_left hn a
        have m2 := Int.mul_le_mul_of_nonpos_left hn b
        omega
    · have := inB_bd tu
      have := inB_bd tv
      unfold tempB inB
      simp
      omega
  · intro ht
    exact ⟨by rw [e1]; exact h1.2.1 t (mem_safeK.2 ht), by rw [e2]; exact h2.2.1 t (mem_safeK.2 ht)⟩
/-- one pulse in the first beat -/
def oneW (n : Nat) : List Int := 1 :: List.replicate (n - 1) 0
theorem oneW_len {n : Nat} (h : 1 ≤ n) : (oneW n).length = n := by unfold oneW; simp; omega
theorem oneW_get {n i : Nat} : (oneW n)[i]?.getD 0 = if i = 0 then 1 else 0 := by
  unfold oneW
  cases i with
  | zero => rfl
  | succ i =>
    rw [if_neg (show ¬ i + 1 = 0 by omega), List.getElem?_cons_succ, List.getElem?_replicate]
    split <;> rfl
theorem oneW_ok {l : Ln} (h : OkL l) : wordsE l (oneW l.words.toNat) = 0 := by
  have hw := h.words
  have hb := h.bits
  unfold wordsE
  rw [if_neg (by rw [oneW_len (by omega)]; omega), if_neg]
  rw [Bool.not_eq_true, List.any_eq_false]
  intro x hx
  have hx2 : x = 1 ∨ x = 0 := by
    unfold oneW at hx
    rcases List.mem_cons.1 hx with h | h
    · exact .inl h
    · exact .inr (List.eq_of_mem_replicate h)
  have h2 : (2 : Int) ^ 1 ≤ 2 ^ l.bits.toNat := by exact_mod_cast Nat.pow_le_pow_right (by decide : 0 < 2) (by omega : 1 ≤ l.bits.toNat)
  have h3 : (2 : Int) ^ 1 = 2 := rfl
  unfold inB
  rcases hx2 with rfl | rfl <;> simp <;> omega
theorem bitN_zero (i : Nat) : bitN 0 i = false := by unfold bitN; simp
theorem bitN_one (i : Nat) : bitN 1 i = decide (i = 0) := by
  unfold bitN
  cases i with
  | zero => decide
  | succ i =>
    have : (1 : Int) / 2 ^ (i + 1) = 0 := Int.ediv_eq_zero_of_lt (by decide) (by
      have : (2 : Int) ^ 1 ≤ 2 ^ (i + 1) := by exact_mod_cast Nat.pow_le_pow_right (by decide : 0 < 2) (by omega : 1 ≤ i + 1)
      have h3 : (2 : Int) ^ 1 = 2 := rfl
      omega)
    rw [this]
    simp
theorem oneP_get {bits n k : Nat} (hb : 1 ≤ bits) (hn : 1 ≤ n) (hk : k < n * bits) : (pulsesN bits (oneW n))[k]? = some (decide (k = 0)) := by
  have e : k = k / bits * bits + k % bits := by rw [Nat.mul_comm]; exact (Nat.div_add_mod k bits).symm
  have h1 : k / bits < n := Nat.div_lt_of_lt_mul (by rw [Nat.mul_comm]; exact hk)
  have h2 := Nat.mod_lt k (show 0 < bits by omega)
  have h3 := pulsesN_get bits (oneW n) (k / bits) (k % bits) (by rw [oneW_len hn]; exact h1) h2
  rw [← e] at h3
  rw [h3, oneW_get]
  by_cases h0 : k / bits = 0
  · rw [if_pos h0, bitN_one]
    rw [h0, Nat.zero_mul, Nat.zero_add] at e
    rw [← e]
  · rw [if_neg h0, bitN_zero]
    have : k ≠ 0 := by intro h; rw [h] at h0; simp at h0
    rw [decide_eq_false this]
/-- the pulse comes to the first beat again only by whole rounds -/
theorem one_same {l : Ln} (h : OkL l) {t : Int} (ht : lostL l t = false) : (passW l (oneW l.words.toNat) [t] = oneW l.words.toNat) ↔ byL l t % beatsL l = 0 := by
  have hw := h.words
  have hb := h.bits
  have hB := h.beats
  have hok := oneW_ok h
  have hlen := pulses_len h hok
  rw [pass_rot h hok (by simpa using ht)]
  have hs : sumL l [t] = byL l t := by simp [sumL]
  rw [hs]
  constructor
  · intro e
    have hn : (pulsesN l.bits.toNat (oneW l.words.toNat)).length = l.words.toNat * l.bits.toNat := by rw [pulsesN_length, oneW_len (by omega)]
    have e2 := congrArg (pulsesN l.bits.toNat) e
    rw [pulses_words (by rw [rotP_length, hn])] at e2
    have e3 := Int.emod_nonneg (byL l t) (show beatsL l ≠ 0 by omega)
    have e4 := Int.emod_lt_of_pos (byL l t) (show 0 < beatsL l by omega)
    obtain ⟨j, hj⟩ := Int.eq_ofNat_of_zero_le e3
    have hjl : j < (pulsesN l.bits.toNat (oneW l.words.toNat)).length := by omega
    have e5 := congrArg (fun x : List Bool => x[j]?) e2
    (try dsimp only at e5)
    have e6 : ((j : Int) - byL l t) % ((pulsesN l.bits.toNat (oneW l.words.toNat)).length : Int) = 0 := by
      rw [hlen, ← hj, Int.sub_emod, Int.emod_emod, Int.sub_self]
      simp
    rw [rotP_get hjl, e6, Int.toNat_zero, oneP_get (k := 0) (by omega) (by omega) (by omega), oneP_get (k := j) (by omega) (by omega) (by omega)] at e5
    have e7 : j = 0 := by simpa using e5
    rw [hj, e7]
    rfl
  · intro e
    rw [rotP_whole _ _ (by rw [hlen]; exact e), words_same h hok]
theorem one_lost {l : Ln} (h : OkL l) {t : Int} (ht : lostL l t = true) : passW l (oneW l.words.toNat) [t] ≠ oneW l.words.toNat := by
  have hw := h.words
  rw [pass_lost (by simpa using ht)]
  intro e
  have e2 := congrArg (fun x : List Int => x[0]?.getD 0) e
  (try dsimp only at e2)
  rw [oneW_get, if_pos rfl, List.getElem?_replicate, if_pos (by omega)] at e2
  simp at e2
theorem at_one {l : Ln} {t : Int} : atL l [t] = if lostL l t = true then 0 else -1 := by
  unfold atL idxQ
  cases h : lostL l t <;> simp [h]
theorem pass_one_in {l : Ln} (h : OkL l) {ws : List Int} {t : Int} (hw : wordsE l ws = 0) (ht : lostL l t = false) (hb : byL l t = 0) : passW l ws [t] = ws := by
  rw [pass_rot h hw (by simpa using ht), show sumL l [t] = byL l t by simp [sumL], hb, rotP_zero, words_same h hw]
end Go.Q

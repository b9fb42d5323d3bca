/- Layer 1 in plain Lean: temperatures within spans, and by how much one pulse is late then. -/
import Derived.Test.YtkkchoinfdfiaaaN4
set_option linter.unusedVariables false
set_option linter.unusedSimpArgs false
namespace Go.Q
/-- a temperature of a span, so many 255ths on -/
def amongS (s : Sp) (n : Int) : Int := s.lo + (s.hi - s.lo) * n / 255
theorem amongS_in {s : Sp} (h : s.lo ≤ s.hi) {n : Int} (hn : 0 ≤ n ∧ n ≤ 255) : s.lo ≤ amongS s n ∧ amongS s n ≤ s.hi := by
  have h1 := mul_bd (a := s.hi - s.lo) (b := n) (B := 255) (by omega) (Int.le_refl _) hn.1 hn.2
  unfold amongS
  omega
def pickX (xs : List Int) (i : Nat) : Int := if xs.length = 0 then 0 else xs[i % xs.length]?.getD 0
theorem pickX_bd {xs : List Int} (hx : ∀ x ∈ xs, 0 ≤ x ∧ x ≤ 255) (i : Nat) : 0 ≤ pickX xs i ∧ pickX xs i ≤ 255 := by
  unfold pickX
  split
  · omega
  · exact mem_get (Nat.mod_lt _ (by omega)) hx
/-- the temperatures -/
def tempsL (xs : List Int) (ss : List Sp) (k : Nat) : List Int := fstN (fun i => amongS (ss[i]?.getD ⟨0, 0⟩) (pickX xs i)) k
theorem tempsL_succ (xs : List Int) (ss : List Sp) (k : Nat) : tempsL xs ss (k + 1) = tempsL xs ss k ++ [amongS (ss[k]?.getD ⟨0, 0⟩) (pickX xs k)] := fstN_succ _ _
theorem tempsL_length (xs : List Int) (ss : List Sp) (k : Nat) : (tempsL xs ss k).length = k := fstN_length _ _
theorem take_span {ss : List Sp} {k : Nat} (hk : k < ss.length) : ss.take (k + 1) = ss.take k ++ [ss[k]?.getD ⟨0, 0⟩] := by
  rw [List.take_succ_eq_append_getElem hk, List.getElem?_eq_getElem hk]; rfl
theorem span_at {ss : List Sp} (hs : ∀ s ∈ ss, spanX s = 0) {k : Nat} (hk : k < ss.length) : (-500 ≤ (ss[k]?.getD ⟨0, 0⟩).lo ∧ (ss[k]?.getD ⟨0, 0⟩).lo ≤ 1000) ∧ (-500 ≤ (ss[k]?.getD ⟨0, 0⟩).hi ∧ (ss[k]?.getD ⟨0, 0⟩).hi ≤ 1000) ∧ (ss[k]?.getD ⟨0, 0⟩).lo ≤ (ss[k]?.getD ⟨0, 0⟩).hi :=
  span_ok (hs _ (by rw [List.getElem?_eq_getElem hk]; exact List.getElem_mem _))
theorem temps_in {xs : List Int} (hx : ∀ x ∈ xs, 0 ≤ x ∧ x ≤ 255) {ss : List Sp} (hs : ∀ s ∈ ss, spanX s = 0) {k : Nat} (hk : k < ss.length) : amongS (ss[k]?.getD ⟨0, 0⟩) (pickX xs k) ∈ tempsS (ss[k]?.getD ⟨0, 0⟩) := by
  rw [mem_tempsS]
  exact amongS_in (span_at hs hk).2.2 (pickX_bd hx k)
theorem temps_ok {xs : List Int} (hx : ∀ x ∈ xs, 0 ≤ x ∧ x ≤ 255) {ss : List Sp} (hs : ∀ s ∈ ss, spanX s = 0) : ∀ k, k ≤ ss.length → ∀ t ∈ tempsL xs ss k, tempB t = true
  | 0, _, t, ht => by simp [tempsL, fstN] at ht
  | k + 1, hk, t, ht => by
    rw [tempsL_succ, List.mem_append, List.mem_singleton] at ht
    rcases ht with ht | rfl
    · exact temps_ok hx hs k (by omega) t ht
    · have h1 := span_at hs (show k < ss.length by omega)
      have h2 := mem_tempsS.1 (temps_in hx hs (show k < ss.length by omega))
      unfold tempB inB
      simp
      omega
theorem temps_lost {l : Ln} {xs : List Int} (hx : ∀ x ∈ xs, 0 ≤ x ∧ x ≤ 255) {ss : List Sp} (hs : ∀ s ∈ ss, spanX s = 0) : ∀ k, k ≤ ss.length → (tempsL xs ss k).any (lostL l) = true → (ss.take k).any (lostC l) = true
  | 0, _, h => by simp [tempsL, fstN] at h
  | k + 1, hk, h => by
    rw [tempsL_succ, List.any_append, Bool.or_eq_true] at h
    rw [take_span (by omega), List.any_append, Bool.or_eq_true]
    rcases h with h | h
    · exact .inl (temps_lost hx hs k (by omega) h)
    · right
      rw [List.any_cons, List.any_nil, Bool.or_false] at h ⊢
      exact List.any_eq_true.2 ⟨_, temps_in hx hs (by omega), h⟩
theorem temps_can {l : Ln} (hok : OkL l) {xs : List Int} (hx : ∀ x ∈ xs, 0 ≤ x ∧ x ≤ 255) {ss : List Sp} (hs : ∀ s ∈ ss, spanX s = 0) : ∀ k, k ≤ ss.length → (tempsL xs ss k).any (lostL l) = false → canC l (ss.take k) (sumL l (tempsL xs ss k) % beatsL l) = true
  | 0, _, _ => by
    rw [show tempsL xs ss 0 = [] from rfl, sumL_nil, Int.zero_emod]
    rfl
  | k + 1, hk, h => by
    rw [tempsL_succ, List.any_append, Bool.or_eq_false_iff] at h
    have ih := temps_can hok hx hs k (by omega) h.1
    have hB := hok.beats
    rw [take_span (by omega), canC_snoc, tempsL_succ, sumL_snoc]
    obtain ⟨t, ht⟩ : ∃ t, amongS (ss[k]?.getD ⟨0, 0⟩) (pickX xs k) = t := ⟨_, rfl⟩
    have hin := temps_in hx hs (show k < ss.length by omega)
    rw [ht] at hin h ⊢
    have hl : lostL l t = false := by simpa using h.2
    have h1 := canC_in hok ih
    have h2 := hok.turn (byL l t)
    refine List.any_eq_true.2 ⟨_, mem_beatsN.2 h1, ?_⟩
    rw [ih, Bool.true_and]
    refine List.any_eq_true.2 ⟨turnL l (byL l t), mem_beatsN.2 h2, ?_⟩
    rw [Bool.and_eq_true]
    refine ⟨List.any_eq_true.2 ⟨t, hin, by rw [hl]; simp⟩, ?_⟩
    rw [beq_iff_eq]
    unfold turnL
    rw [Int.add_emod, Int.emod_emod, Int.emod_emod, ← Int.add_emod]
/-- one pulse, late by so many beats, comes in one beat -/
theorem one_rot {l : Ln} (h : OkL l) (s : Int) {j : Nat} (hj : (j : Int) < beatsL l) : (rotP false (pulsesN l.bits.toNat (oneW l.words.toNat)) s)[j]?.getD false = decide ((j : Int) = s % beatsL l) := by
  have hw := h.words
  have hb := h.bits
  have hB := h.beats
  have hlen := pulses_len h (oneW_ok h)
  have hn : (pulsesN l.bits.toNat (oneW l.words.toNat)).length = l.words.toNat * l.bits.toNat := by rw [pulsesN_length, oneW_len (by omega)]
  have hjl : j < (pulsesN l.bits.toNat (oneW l.words.toNat)).length := by omega
  rw [rotP_get hjl, hlen]
  have e1 := Int.emod_nonneg ((j : Int) - s) (show beatsL l ≠ 0 by omega)
  have e2 := Int.emod_lt_of_pos ((j : Int) - s) (show 0 < beatsL l by omega)
  show (pulsesN l.bits.toNat (oneW l.words.toNat))[(((j : Int) - s) % beatsL l).toNat]?.getD false = _
  rw [oneP_get (by omega) (by omega) (by omega)]
  show decide ((((j : Int) - s) % beatsL l).toNat = 0) = _
  rw [decide_eq_decide]
  constructor
  · intro h0
    have h1 : ((j : Int) - s) % beatsL l = 0 := by omega
    have h2 := Int.emod_emod_of_dvd
    have h3 : (j : Int) % beatsL l = s % beatsL l := Int.emod_eq_emod_iff_emod_sub_eq_zero.2 h1
    rw [← h3, Int.emod_eq_of_lt (by omega) hj]
  · intro h0
    have h1 : (j : Int) % beatsL l = s % beatsL l := by rw [Int.emod_eq_of_lt (by omega) hj]; exact h0
    have h2 := Int.emod_eq_emod_iff_emod_sub_eq_zero.1 h1
    omega
end Go.Q

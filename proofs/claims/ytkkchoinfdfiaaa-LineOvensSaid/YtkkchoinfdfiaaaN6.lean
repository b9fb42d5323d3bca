/- Layer 1, plain: what an oven can come to, and how Keeps and Oven grow with the minutes and the span. -/
import Derived.Test.YtkkchoinfdfiaaaH25
import Derived.Test.YtkkchoinfdfiaaaI3
set_option linter.unusedVariables false
set_option linter.unusedSimpArgs false
namespace Go.Q
open Go.Proofs.Ytkkchoinfdfiaaa
theorem states_zero {o : Ov} {temp : Sp} {heats : Bool} {t : Int} {b : Bool} : (t, b) ∈ statesO o temp heats 0 ↔ (temp.lo ≤ t ∧ t ≤ temp.hi) ∧ b = heats := by
  show (t, b) ∈ (tempsS temp).map (fun t => (t, heats)) ↔ _
  rw [List.mem_map]
  constructor
  · rintro ⟨x, hx, e⟩
    obtain ⟨rfl, rfl⟩ := Prod.mk.inj e
    exact ⟨mem_tempsS.1 hx, rfl⟩
  · rintro ⟨h, rfl⟩
    exact ⟨t, mem_tempsS.2 h, rfl⟩
theorem states_mono {o : Ov} {temp temp' : Sp} {heats : Bool} (h1 : temp'.lo ≤ temp.lo) (h2 : temp.hi ≤ temp'.hi) : ∀ (m : Nat) (s : Int × Bool), s ∈ statesO o temp heats m → s ∈ statesO o temp' heats m
  | 0, (t, b), h => by
    rw [states_zero] at h ⊢
    exact ⟨by omega, h.2⟩
  | m + 1, s, h => by
    obtain ⟨x, hx, hs⟩ := List.mem_flatMap.1 h
    exact List.mem_flatMap.2 ⟨x, states_mono h1 h2 m x hx, hs⟩
theorem loO_state {o : Ov} {temp : Sp} {heats : Bool} : ∀ (M m : Nat), m ≤ M → ∀ s ∈ statesO o temp heats m, loO o temp heats M ≤ s.1
  | 0, m, hm, (t, b), hs => by
    obtain rfl : m = 0 := by omega
    exact (states_zero.1 hs).1.1
  | M + 1, m, hm, s, hs => by
    obtain ⟨a1, a2, _⟩ := fold_min (fun s : Int × Bool => s.1) (statesO o temp heats (M + 1)) (loO o temp heats M)
    by_cases e : m = M + 1
    · subst e
      exact a2 s hs
    · exact Int.le_trans a1 (loO_state M m (by omega) s hs)
theorem hiO_state {o : Ov} {temp : Sp} {heats : Bool} : ∀ (M m : Nat), m ≤ M → ∀ s ∈ statesO o temp heats m, s.1 ≤ hiO o temp heats M
  | 0, m, hm, (t, b), hs => by
    obtain rfl : m = 0 := by omega
    exact (states_zero.1 hs).1.2
  | M + 1, m, hm, s, hs => by
    obtain ⟨a1, a2, _⟩ := fold_max (fun s : Int × Bool => s.1) (statesO o temp heats (M + 1)) (hiO o temp heats M)
    by_cases e : m = M + 1
    · subst e
      exact a2 s hs
    · exact Int.le_trans (hiO_state M m (by omega) s hs) a1
theorem loO_got {o : Ov} {temp : Sp} {heats : Bool} : ∀ M : Nat, loO o temp heats M = temp.lo ∨ ∃ m, m ≤ M ∧ ∃ s ∈ statesO o temp heats m, loO o temp heats M = s.1
  | 0 => .inl rfl
  | M + 1 => by
    obtain ⟨_, _, a3⟩ := fold_min (fun s : Int × Bool => s.1) (statesO o temp heats (M + 1)) (loO o temp heats M)
    rcases a3 with h | ⟨s, hs, h⟩
    · rcases loO_got M with h2 | ⟨m, hm, s, hs, h2⟩
      · exact .inl (h.trans h2)
      · exact .inr ⟨m, by omega, s, hs, h.trans h2⟩
    · exact .inr ⟨M + 1, Nat.le_refl _, s, hs, h⟩
theorem hiO_got {o : Ov} {temp : Sp} {heats : Bool} : ∀ M : Nat, hiO o temp heats M = temp.hi ∨ ∃ m, m ≤ M ∧ ∃ s ∈ statesO o temp heats m, hiO o temp heats M = s.1
  | 0 => .inl rfl
  | M + 1 => by
    obtain ⟨_, _, a3⟩ := fold_max (fun s : Int × Bool => s.1) (statesO o temp heats (M + 1)) (hiO o temp heats M)
    rcases a3 with h | ⟨s, hs, h⟩
    · rcases hiO_got M with h2 | ⟨m, hm, s, hs, h2⟩
      · exact .inl (h.trans h2)
      · exact .inr ⟨m, by omega, s, hs, h.trans h2⟩
    · exact .inr ⟨M + 1, Nat.le_refl _, s, hs, h⟩
theorem lo_wider {o : Ov} {temp temp' : Sp} {heats : Bool} (h1 : temp'.lo ≤ temp.lo) (h2 : temp.hi ≤ temp'.hi) {M M' : Nat} (hM : M ≤ M') : loO o temp' heats M' ≤ loO o temp heats M := by
  rcases loO_got M with h | ⟨m, hm, s, hs, h⟩
  · rw [h]
    exact Int.le_trans (loO_le o temp' heats M') h1
  · rw [h]
    exact loO_state M' m (by omega) s (states_mono h1 h2 m s hs)
theorem hi_wider {o : Ov} {temp temp' : Sp} {heats : Bool} (h1 : temp'.lo ≤ temp.lo) (h2 : temp.hi ≤ temp'.hi) {M M' : Nat} (hM : M ≤ M') : hiO o temp heats M ≤ hiO o temp' heats M' := by
  rcases hiO_got M with h | ⟨m, hm, s, hs, h⟩
  · rw [h]
    exact Int.le_trans h2 (hiO_le o temp' heats M')
  · rw [h]
    exact hiO_state M' m (by omega) s (states_mono h1 h2 m s hs)
theorem unsafe_mono {l : Ln} {o : Ov} {temp temp' : Sp} {heats : Bool} (h1 : temp'.lo ≤ temp.lo) (h2 : temp.hi ≤ temp'.hi) {m : Nat} (h : unsafeO l o temp heats m = true) : unsafeO l o temp' heats m = true := by
  unfold unsafeO at *
  rw [List.any_eq_true] at *
  obtain ⟨s, hs, hn⟩ := h
  exact ⟨s, states_mono h1 h2 m s hs, hn⟩
/-- what kpF finds is the first -/
theorem kpF_at {u : Nat → Bool} {M : Nat} (h : 0 ≤ kpF u M) : ∃ k : Nat, kpF u M = k ∧ k ≤ M ∧ u k = true ∧ ∀ j, j < k → u j = false := by
  unfold kpF at *
  cases e : (List.range (M + 1)).find? u with
  | none => exact absurd h (by rw [e]; decide)
  | some k =>
    rw [List.find?_range_eq_some] at e
    refine ⟨k, rfl, by have := List.mem_range.1 e.2.1; omega, e.1, fun j hj => ?_⟩
    have := e.2.2 j hj
    simpa using this
theorem kpF_before {u : Nat → Bool} {M m : Nat} (hm : m ≤ M) (h : kpF u M < 0 ∨ (m : Int) < kpF u M) : u m = false := by
  cases hu : u m with
  | false => rfl
  | true =>
    rcases kpF_bd u M with h1 | h1
    · exfalso
      unfold kpF at h1
      cases e : (List.range (M + 1)).find? u with
      | none =>
        rw [List.find?_range_eq_none] at e
        have := e m (by omega)
        rw [hu] at this
        simp at this
      | some k => rw [e] at h1; simp at h1
    · obtain ⟨k, h2, _, _, h3⟩ := kpF_at h1.1
      have := h3 m (by omega)
      rw [hu] at this; cases this
theorem kp_wider {u u' : Nat → Bool} {M M' : Nat} (hM : M ≤ M') (hu : ∀ m, u m = true → u' m = true) (h : 0 ≤ kpF u M) : 0 ≤ kpF u' M' ∧ kpF u' M' ≤ kpF u M := by
  obtain ⟨k, h1, h2, h3, _⟩ := kpF_at h
  rcases kpF_bd u' M' with h4 | h4
  · have := kpF_before (u := u') (M := M') (m := k) (by omega) (.inl (by omega))
    rw [hu k h3] at this; cases this
  · refine ⟨h4.1, ?_⟩
    by_cases hlt : kpF u' M' ≤ kpF u M
    · exact hlt
    · have := kpF_before (u := u') (M := M') (m := k) (by omega) (.inr (by omega))
      rw [hu k h3] at this; cases this
/-- a temperature after a minute -/
theorem state_next {o : Ov} {temp : Sp} {heats : Bool} {m : Nat} {t n : Int} {b : Bool} (h : (t, b) ∈ statesO o temp heats m) (hn : if heatsO o t b = true then o.warm.lo ≤ n ∧ n ≤ o.warm.hi else o.cool.lo ≤ n ∧ n ≤ o.cool.hi) :
    (if heatsO o t b = true then t + n else t - n, heatsO o t b) ∈ statesO o temp heats (m + 1) := by
  refine List.mem_flatMap.2 ⟨(t, b), h, ?_⟩
  unfold afterO
  dsimp only
  cases hh : heatsO o t b with
  | true =>
    rw [hh] at hn
    rw [if_pos rfl, if_pos rfl]
    exact List.mem_map.2 ⟨n, mem_tempsS.2 (by simpa using hn), rfl⟩
  | false =>
    rw [hh] at hn
    rw [if_neg (by simp), if_neg (by simp)]
    exact List.mem_map.2 ⟨n, mem_tempsS.2 (by simpa using hn), rfl⟩
theorem mem_safeK2 {l : Ln} {t : Int} {k : Nat} (h : safeL l t = true) (hk : -500 ≤ t ∧ t < -500 + (k : Int)) : t ∈ safeK l k := by
  unfold safeK fstN
  rw [List.mem_filter]
  exact ⟨List.mem_map.2 ⟨(t + 500).toNat, List.mem_range.2 (by omega), by omega⟩, h⟩
/-- a temperature of a span, so many 255ths on -/
def amongO (s : Sp) (n : Int) : Int := s.lo + (s.hi - s.lo) * n / 255
theorem mulO {a b : Int} (ha0 : 0 ≤ a) (ha : a ≤ 1500) (hb0 : 0 ≤ b) (hb : b ≤ 255) : 0 ≤ a * b ∧ a * b ≤ a * 255 := ⟨Int.mul_nonneg ha0 hb0, Int.mul_le_mul_of_nonneg_left hb ha0⟩
theorem amongO_in {s : Sp} (h : s.lo ≤ s.hi) (h2 : s.hi - s.lo ≤ 1500) {n : Int} (hn : 0 ≤ n ∧ n ≤ 255) : s.lo ≤ amongO s n ∧ amongO s n ≤ s.hi := by
  have h1 := mulO (a := s.hi - s.lo) (b := n) (by omega) h2 hn.1 hn.2
  unfold amongO
  omega
/-- a temperature at which a line is safe lies in the span of Safe -/
theorem safe_in {l : Ln} (ho : okL l = true) {t : Int} (h : safeL l t = true) : (safeE l).2 = 0 ∧ (safeE l).1.lo ≤ t ∧ t ≤ (safeE l).1.hi := by
  have hb : tempB t = true := by
    unfold safeL at h
    rw [Bool.and_eq_true] at h
    exact h.2
  have hbd := tempB_bd hb
  have hm : t ∈ safeK l 1501 := mem_safeK2 h (by omega)
  obtain ⟨K, hK⟩ : ∃ K, safeK l 1501 = K := ⟨_, rfl⟩
  rw [hK] at hm
  have h1 : loK l 1501 ≤ t := by
    unfold loK
    rw [hK]
    exact (fold_min (fun x : Int => x) K 1001).2.1 t hm
  have h2 : t ≤ hiK l 1501 := by
    unfold hiK
    rw [hK]
    exact (fold_max (fun x : Int => x) K (-501)).2.1 t hm
  have hne : K ≠ [] := List.ne_nil_of_mem hm
  rw [show safeE l = (⟨loK l 1501, hiK l 1501⟩, 0) by unfold safeE; rw [if_pos ho, if_neg (by rw [hK]; exact hne)]]
  clear hK hm
  generalize loK l 1501 = a at *
  generalize hiK l 1501 = b at *
  exact ⟨rfl, h1, h2⟩
theorem unsafe_no {l : Ln} {o : Ov} {temp : Sp} {heats : Bool} {m : Nat} (h : unsafeO l o temp heats m = false) {t : Int} {b : Bool} (hs : (t, b) ∈ statesO o temp heats m) : safeL l t = true := by
  unfold unsafeO at h
  rw [List.any_eq_false] at h
  have := h _ hs
  simpa using this
end Go.Q

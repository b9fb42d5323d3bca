import Derived.Test.YtbcciokmlkofkaaGreatWH24
import Derived.Test.YtbcciokmlkofkaaGreatWH23
import Derived.Test.YtbcciokmlkofkaaGreatWH0
set_option linter.unusedVariables false
set_option linter.unusedSimpArgs false
/- Layer 1, plain: what an oven can come to, and how Keeps and Oven grow with the minutes and the span. -/
namespace Go.Q
open Go.Proofs.YtbcciokmlkofkaaGreat
theorem states_zero {o : Ov} {temp : Sp} {heats : Bool} {t : Int} {b : Bool} : (t, b) ∈ statesO o temp heats 0 ↔ (temp.lo ≤ t ∧ t ≤ temp.hi) ∧ b = heats := by
  show (t, b) ∈ (tempsS temp).map (fun t => (t, heats)) ↔ _
  rw [List.mem_map]
  constructor
  · rintro ⟨x, hx, e⟩
    obtain ⟨rfl, rfl⟩ := Prod.mk.inj e
    exact ⟨mem_tempsS.1 hx, rfl⟩
  · rintro ⟨h, rfl⟩
    exact ⟨t, mem_tempsS.2 h, rfl⟩
theorem states_mono {o : Ov} {temp temp' : Sp} {heats : Bool} (h1 : temp'.lo ≤ temp.lo) (h2 : temp.hi ≤ temp'.hi) : ∀ (m : Nat) (s : Int × Bool), s ∈ statesO o temp heats m → s ∈ statesO o temp' heats m
  | 0, (t, b), h => by
    rw [states_zero] at h ⊢
    exact ⟨by omega, h.2⟩
  | m + 1, s, h => by
    obtain ⟨x, hx, hs⟩ := List.mem_flatMap.1 h
    exact List.mem_flatMap.2 ⟨x, states_mono h1 h2 m x hx, hs⟩
theorem loO_state {o : Ov} {temp : Sp} {heats : Bool} : ∀ (M m : Nat), m ≤ M → ∀ s ∈ statesO o temp heats m, loO o temp heats M ≤ s.1
  | 0, m, hm, (t, b), hs => by
    obtain rfl : m = 0 := by omega
    exact (states_zero.1 hs).1.1
  | M + 1, m, hm, s, hs => by
    obtain ⟨a1, a2, _⟩ := fold_min (fun s : Int × Bool => s.1) (statesO o temp heats (M + 1)) (loO o temp heats M)
    by_cases e : m = M + 1
    · subst e
      exact a2 s hs
    · exact Int.le_trans a1 (loO_state M m (by omega) s hs)
theorem hiO_state {o : Ov} {temp : Sp} {heats : Bool} : ∀ (M m : Nat), m ≤ M → ∀ s ∈ statesO o temp heats m, s.1 ≤ hiO o temp heats M
  | 0, m, hm, (t, b), hs => by
    obtain rfl : m = 0 := by omega
    exact (states_zero.1 hs).1.2
  | M + 1, m, hm, s, hs => by
    obtain ⟨a1, a2, _⟩ := fold_max (fun s : Int × Bool => s.1) (statesO o temp heats (M + 1)) (hiO o temp heats M)
    by_cases e : m = M + 1
    · subst e
      exact a2 s hs
    · exact Int.le_trans (hiO_state M m (by omega) s hs) a1
theorem loO_got {o : Ov} {temp : Sp} {heats : Bool} : ∀ M : Nat, loO o temp heats M = temp.lo ∨ ∃ m, m ≤ M ∧ ∃ s ∈ statesO o temp heats m, loO o temp heats M = s.1
  | 0 => .inl rfl
  | M + 1 => by
    obtain ⟨_, _, a3⟩ := fold_min (fun s : Int × Bool => s.1) (statesO o temp heats (M + 1)) (loO o temp heats M)
    rcases a3 with h | ⟨s, hs, h⟩
    · rcases loO_got M with h2 | ⟨m, hm, s, hs, h2⟩
      · exact .inl (h.trans h2)
      · exact .inr ⟨m, by omega, s, hs, h.trans h2⟩
    · exact .inr ⟨M + 1, Nat.le_refl _, s, hs, h⟩
theorem hiO_got {o : Ov} {temp : Sp} {heats : Bool} : ∀ M : Nat, hiO o temp heats M = temp.hi ∨ ∃ m, m ≤ M ∧ ∃ s ∈ statesO o temp heats m, hiO o temp heats M = s.1
  | 0 => .inl rfl
  | M + 1 => by
    obtain ⟨_, _, a3⟩ := fold_max (fun s : Int × Bool => s.1) (statesO o temp heats (M + 1)) (hiO o temp heats M)
    rcases a3 with h | ⟨s, hs, h⟩
    · rcases hiO_got M with h2 | ⟨m, hm, s, hs, h2⟩
      · exact .inl (h.trans h2)
      · exact .inr ⟨m, by omega, s, hs, h.trans h2⟩
    · exact .inr ⟨M + 1, Nat.le_refl _, s, hs, h⟩
theorem lo_wider {o : Ov} {temp temp' : Sp} {heats : Bool} (h1 : temp'.lo ≤ temp.lo) (h2 : temp.hi ≤ temp'.hi) {M M' : Nat} (hM : M ≤ M') : loO o temp' heats M' ≤ loO o temp heats M := by
  rcases loO_got M with h | ⟨m, hm, s, hs, h⟩
  · rw [h]
    exact Int.le_trans (loO_le o temp' heats M') h1
  · rw [h]
    exact loO_state M' m (by omega) s (states_mono h1 h2 m s hs)
theorem hi_wider {o : Ov} {temp temp' : Sp} {heats : Bool} (h1 : temp'.lo ≤ temp.lo) (h2 : temp.hi ≤ temp'.hi) {M M' : Nat} (hM : M ≤ M') : hiO o temp heats M ≤ hiO o temp' heats M' := by
  rcases hiO_got M with h | ⟨m, hm, s, hs, h⟩
  · rw [h]
    exact Int.le_trans h2 (hiO_le o temp' heats M')
  · rw [h]
    exact hiO_state M' m (by omega) s (states_mono h1 h2 m s hs)
theorem unsafe_mono {l : Ln} {o : Ov} {temp temp' : Sp} {heats : Bool} (h1 : temp'.lo ≤ temp.lo) (h2 : temp.hi ≤ temp'.hi) {m : Nat} (h : unsafeO l o temp heats m = true) : unsafeO l o temp' heats m = true := by
  unfold unsafeO at *
  rw [List.any_eq_true] at *
  obtain ⟨s, hs, hn⟩ := h
  exact ⟨s, states_mono h1 h2 m s hs, hn⟩
/-- what kpF finds is the first -/
theorem kpF_at {u : Nat → Bool} {M : Nat} (h : 0 ≤ kpF u M) : ∃ k : Nat, kpF u M = k ∧ k ≤ M ∧ u k = true ∧ ∀ j, j < k → u j = false := by
  unfold kpF at *
  cases e : (List.range (M + 1)).find? u with
  | none => exact absurd h (by rw [e]; decide)
  | some k =>
    rw [List.find?_range_eq_some] at e
    refine ⟨k, rfl, by have := List.mem_range.1 e.2.1; omega, e.1, fun j hj => ?_⟩
    have := e.2.2 j hj
    simpa using this
theorem kpF_before {u : Nat → Bool} {M m : Nat} (hm : m ≤ M) (h : kpF u M < 0 ∨ (m : Int) < kpF u M) : u m = false := by
  cases hu : u m with
  | false => rfl
  | true =>
    rcases kpF_bd u M with h1 | h1
    · exfalso
      unfold kpF at h1
      cases e : (List.range (M + 1)).find? u with
      | none =>
        rw [List.find?_range_eq_none] at e
        have := e m (by omega)
        rw [hu] at this
        simp at this
      | some k => rw [e] at h1; simp at h1
    · obtain ⟨k, h2, _, _, h3⟩ := kpF_at h1.1
      have := h3 m (by omega)
      rw [hu] at this; cases this
theorem kp_wider {u u' : Nat → Bool} {M M' : Nat} (hM : M ≤ M') (hu : ∀ m, u m = true → u' m = true) (h : 0 ≤ kpF u M) : 0 ≤ kpF u' M' ∧ kpF u' M' ≤ kpF u M := by
  obtain ⟨k, h1, h2, h3, _⟩ := kpF_at h
  rcases kpF_bd u' M' with h4 | h4
  · have := kpF_before (u := u') (M := M') (m := k) (by omega) (.inl (by omega))
    rw [hu k h3] at this; cases this
  · refine ⟨h4.1, ?_⟩
    by_cases hlt : kpF u' M' ≤ kpF u M
    · exact hlt
    · have := kpF_before (u := u') (M := M') (m := k) (by omega) (.inr (by omega))
      rw [hu k h3] at this; cases this
/-- a temperature after a minute -/
theorem state_next {o : Ov} {temp : Sp} {heats : Bool} {m : Nat} {t n : Int} {b : Bool} (h : (t, b) ∈ statesO o temp heats m) (hn : if heatsO o t b = true then o.warm.lo ≤ n ∧ n ≤ o.warm.hi else o.cool.lo ≤ n ∧ n ≤ o.cool.hi) :
    (if heatsO o t b = true then t + n else t - n, heatsO o t b) ∈ statesO o temp heats (m + 1) := by
  refine List.mem_flatMap.2 ⟨(t, b), h, ?_⟩
  unfold afterO
  dsimp only
  cases hh : heatsO o t b with
  | true =>
    rw [hh] at hn
    rw [if_pos rfl, if_pos rfl]
    exact List.mem_map.2 ⟨n, mem_tempsS.2 (by simpa using hn), rfl⟩
  | false =>
    rw [hh] at hn
    rw [if_neg (by simp), if_neg (by simp)]
    exact List.mem_map.2 ⟨n, mem_tempsS.2 (by simpa using hn), rfl⟩
theorem mem_safeK2 {l : Ln} {t : Int} {k : Nat} (h : safeL l t = true) (hk : -500 ≤ t ∧ t < -500 + (k : Int)) : t ∈ safeK l k := by
  unfold safeK fstN
  rw [List.mem_filter]
  exact ⟨List.mem_map.2 ⟨(t + 500).toNat, List.mem_range.2 (by omega), by omega⟩, h⟩
/-- a temperature of a span, so many 255ths on -/
def amongO (s : Sp) (n : Int) : Int := s.lo + (s.hi - s.lo) * n / 255
theorem mulO {a b : Int} (ha0 : 0 ≤ a) (ha : a ≤ 1500) (hb0 : 0 ≤ b) (hb : b ≤ 255) : 0 ≤ a * b ∧ a * b ≤ a * 255 := ⟨Int.mul_nonneg ha0 hb0, Int.mul_le_mul_of_nonneg_left hb ha0⟩
theorem amongO_in {s : Sp} (h : s.lo ≤ s.hi) (h2 : s.hi - s.lo ≤ 1500) {n : Int} (hn : 0 ≤ n ∧ n ≤ 255) : s.lo ≤ amongO s n ∧ amongO s n ≤ s.hi := by
  have h1 := mulO (a := s.hi - s.lo) (b := n) (by omega) h2 hn.1 hn.2
  unfold amongO
  omega
/-- a temperature at which a line is safe lies in the span of Safe -/
theorem safe_in {l : Ln} (ho : okL l = true) {t : Int} (h : safeL l t = true) : (safeE l).2 = 0 ∧ (safeE l).1.lo ≤ t ∧ t ≤ (safeE l).1.hi := by
  have hb : tempB t = true := by
    unfold safeL at h
    rw [Bool.and_eq_true] at h
    exact h.2
  have hbd := tempB_bd hb
  have hm : t ∈ safeK l 1501 := mem_safeK2 h (by omega)
  obtain ⟨K, hK⟩ : ∃ K, safeK l 1501 = K := ⟨_, rfl⟩
  rw [hK] at hm
  have h1 : loK l 1501 ≤ t := by
    unfold loK
    rw [hK]
    exact (fold_min (fun x : Int => x) K 1001).2.1 t hm
  have h2 : t ≤ hiK l 1501 := by
    unfold hiK
    rw [hK]
    exact (fold_max (fun x : Int => x) K (-501)).2.1 t hm
  have hne : K ≠ [] := List.ne_nil_of_mem hm
  rw [show safeE l = (⟨loK l 1501, hiK l 1501⟩, 0) by unfold safeE; rw [if_pos ho, if_neg (by rw [hK]; exact hne)]]
  clear hK hm
  generalize loK l 1501 = a at *
  generalize hiK l 1501 = b at *
  exact ⟨rfl, h1, h2⟩
theorem unsafe_no {l : Ln} {o : Ov} {temp : Sp} {heats : Bool} {m : Nat} (h : unsafeO l o temp heats m = false) {t : Int} {b : Bool} (hs : (t, b) ∈ statesO o temp heats m) : safeL l t = true := by
  unfold unsafeO at h
  rw [List.any_eq_false] at h
  have := h _ hs
  simpa using this
end Go.Q
/- Layer 1 in plain Lean: rounds turn the pulses; lost pulses. -/
namespace Go.Q
/-- a list that comes s places later, round about -/
def rotP {α : Type} (d : α) (ps : List α) (s : Int) : List α := fstN (fun k => (ps[(((k : Int) - s) % (ps.length : Int)).toNat]?).getD d) ps.length
theorem rotP_length {α : Type} (d : α) (ps : List α) (s : Int) : (rotP d ps s).length = ps.length := fstN_length _ _
theorem rotP_get {α : Type} {d : α} {ps : List α} {s : Int} {k : Nat} (hk : k < ps.length) : (rotP d ps s)[k]? = some ((ps[(((k : Int) - s) % (ps.length : Int)).toNat]?).getD d) := fstN_get _ hk
theorem list_ext {α : Type} {xs ys : List α} (hl : xs.length = ys.length) (h : ∀ k, k < xs.length → xs[k]? = ys[k]?) : xs = ys := by
  refine List.ext_getElem? fun k => ?_
  by_cases hk : k < xs.length
  · exact h k hk
  · rw [List.getElem?_eq_none (by omega), List.getElem?_eq_none (by omega)]
theorem rotP_rotP {α : Type} (d : α) (ps : List α) (a b : Int) : rotP d (rotP d ps a) b = rotP d ps (a + b) := by
  refine list_ext (by rw [rotP_length, rotP_length, rotP_length]) fun k hk => ?_
  rw [rotP_length] at hk
  have hk' : k < ps.length := by rw [rotP_length] at hk; exact hk
  rw [rotP_get hk, rotP_get hk', rotP_length]
  have hn : (ps.length : Int) ≠ 0 := by omega
  have e1 := Int.emod_nonneg ((k : Int) - b) hn
  have e2 := Int.emod_lt_of_pos ((k : Int) - b) (show 0 < (ps.length : Int) by omega)
  rw [rotP_get (by omega), Int.toNat_of_nonneg e1]
  have e3 : (((k : Int) - b) % (ps.length : Int) - a) % (ps.length : Int) = ((k : Int) - (a + b)) % (ps.length : Int) := by
    rw [Int.sub_emod, Int.emod_emod, ← Int.sub_emod]
    congr 1
    omega
  rw [e3]
  rfl
theorem rotP_congr {α : Type} (d : α) (ps : List α) {a b : Int} (h : a % (ps.length : Int) = b % (ps.length : Int)) : rotP d ps a = rotP d ps b := by
  refine list_ext (by rw [rotP_length, rotP_length]) fun k hk => ?_
  rw [rotP_length] at hk
  rw [rotP_get hk, rotP_get hk]
  have e : ((k : Int) - a) % (ps.length : Int) = ((k : Int) - b) % (ps.length : Int) := by rw [Int.sub_emod, h, ← Int.sub_emod]
  rw [e]
theorem rotP_zero {α : Type} (d : α) (ps : List α) : rotP d ps 0 = ps := by
  refine list_ext (rotP_length _ _ _) fun k hk => ?_
  rw [rotP_length] at hk
  rw [rotP_get hk, Int.sub_zero, Int.emod_eq_of_lt (by omega) (by omega)]
  rw [List.getElem?_eq_getElem (by omega)]
  simp
theorem rotP_whole {α : Type} (d : α) (ps : List α) {a : Int} (h : a % (ps.length : Int) = 0) : rotP d ps a = ps := by
  rw [rotP_congr d ps (b := 0) (by rw [h]; simp), rotP_zero]
theorem rotP_map {α β : Type} (f : α → β) (d : α) (ps : List α) (s : Int) : rotP (f d) (ps.map f) s = (rotP d ps s).map f := by
  refine list_ext (by rw [rotP_length, List.length_map, List.length_map, rotP_length]) fun k hk => ?_
  rw [rotP_length, List.length_map] at hk
  rw [rotP_get (by rw [List.length_map]; exact hk), List.getElem?_map, List.getElem?_map, rotP_get hk, List.length_map]
  cases ps[(((k : Int) - s) % (ps.length : Int)).toNat]? <;> rfl
theorem lateP_rot {ps : List Bool} {s : Nat} (hs : s < ps.length) : lateP ps s = rotP false ps s := by
  refine list_ext (by rw [lateP_length, rotP_length]) fun k hk => ?_
  rw [lateP_length] at hk
  rw [lateP_get (by omega) hk, rotP_get hk]
  by_cases h : k < s
  · rw [if_pos h]
    have e : ((k : Int) - (s : Int)) % (ps.length : Int) = ((ps.length - s + k : Nat) : Int) := by
      rw [show (k : Int) - (s : Int) = ((ps.length - s + k : Nat) : Int) + (ps.length : Int) * (-1) by omega, Int.add_mul_emod_self_left, Int.emod_eq_of_lt (by omega) (by omega)]
    rw [e, Int.toNat_natCast, List.getElem?_eq_getElem (by omega)]
    rfl
  · rw [if_neg h]
    have e : ((k : Int) - (s : Int)) % (ps.length : Int) = ((k - s : Nat) : Int) := by
      rw [show (k : Int) - (s : Int) = ((k - s : Nat) : Int) by omega, Int.emod_eq_of_lt (by omega) (by omega)]
    rw [e, Int.toNat_natCast, List.getElem?_eq_getElem (by omega)]
    rfl
/-- by how many beats pulses are late after rounds -/
def sumL (l : Ln) (ts : List Int) : Int := (ts.map (byL l)).foldl (· + ·) 0
theorem sumL_snoc (l : Ln) (ts : List Int) (t : Int) : sumL l (ts ++ [t]) = sumL l ts + byL l t := by simp [sumL]
theorem sumL_nil (l : Ln) : sumL l [] = 0 := rfl
theorem roundP_rot {l : Ln} (h : OkL l) {ps : List Bool} (hp : (ps.length : Int) = beatsL l) {t : Int} (ht : lostL l t = false) : roundP l ps t = rotP false ps (byL l t) := by
  have ht' := h.turn (byL l t)
  unfold roundP
  rw [ht, if_neg (by simp), lateP_rot (by omega)]
  refine rotP_congr _ _ ?_
  rw [Int.toNat_of_nonneg ht'.1]
  unfold turnL
  rw [hp, Int.emod_emod]
theorem snoc_induct {α : Type} {P : List α → Prop} (h0 : P []) (h1 : ∀ xs x, P xs → P (xs ++ [x])) (xs : List α) : P xs := by
  have key : ∀ n (xs : List α), xs.length = n → P xs := by
    intro n
    induction n with
    | zero => intro xs h; rw [List.eq_nil_of_length_eq_zero h]; exact h0
    | succ n ih =>
      intro xs h
      rcases List.eq_nil_or_concat xs with rfl | ⟨ys, y, rfl⟩
      · simp at h
      · rw [List.concat_eq_append] at h ⊢
        exact h1 ys y (ih ys (by simpa using h))
  exact key _ xs rfl
/-- no pulses are lost -/
theorem rounds_rot {l : Ln} (h : OkL l) {ps : List Bool} (hp : (ps.length : Int) = beatsL l) : ∀ ts : List Int, ts.any (lostL l) = false → roundsP l ps ts = rotP false ps (sumL l ts) := by
  refine snoc_induct ?_ ?_
  · intro _
    rw [sumL_nil, rotP_zero]
    rfl
  · intro ts t ih hl
    rw [List.any_append, Bool.or_eq_false_iff] at hl
    rw [roundsP_snoc, ih hl.1, roundP_rot h (by rw [rotP_length]; exact hp) (by simpa using hl.2), rotP_rotP, sumL_snoc]
theorem lateP_zero (n s : Nat) : lateP (List.replicate n false) s = List.replicate n false := by
  unfold lateP
  rw [List.length_replicate, List.drop_replicate, List.take_replicate, List.replicate_append_replicate]
  congr 1
  omega
theorem roundP_zero (l : Ln) (n : Nat) (t : Int) : roundP l (List.replicate n false) t = List.replicate n false := by
  unfold roundP
  split
  · rw [List.length_replicate]
  · exact lateP_zero _ _
/-- pulses are lost -/
theorem rounds_lost {l : Ln} {ps : List Bool} : ∀ ts : List Int, ts.any (lostL l) = true → roundsP l ps ts = List.replicate ps.length false := by
  refine snoc_induct ?_ ?_
  · intro h; simp at h
  · intro ts t ih hl
    rw [roundsP_snoc]
    by_cases h : ts.any (lostL l) = true
    · rw [ih h, roundP_zero]
    · have ht : lostL l t = true := by
        rw [List.any_append, Bool.or_eq_true] at hl
        rcases hl with hl | hl
        · exact absurd hl h
        · simpa using hl
      unfold roundP
      rw [if_pos ht, roundsP_length]
theorem sumB_zero (j : Nat) : sumB (fun _ => false) j = 0 := by
  induction j with
  | zero => rfl
  | succ j ih => unfold sumB; rw [ih]; rfl
theorem wordsN_zero (bits n m : Nat) : wordsN bits n (List.replicate m false) = List.replicate n 0 := by
  refine list_ext (by unfold wordsN; rw [fstN_length, List.length_replicate]) fun k hk => ?_
  unfold wordsN at hk ⊢
  rw [fstN_length] at hk
  rw [fstN_get _ hk, List.getElem?_replicate, if_pos hk]
  unfold wordN
  rw [sumB_congr (g := fun _ => false) bits (fun i _ => by rw [List.getElem?_replicate]; split <;> rfl), sumB_zero]
theorem atL_none {l : Ln} {ts : List Int} (h : ts.any (lostL l) = false) : atL l ts = -1 := by
  have := idxQ_nonneg (lostL l) ts
  rw [h] at this
  have h2 := idxQ_lt (lostL l) ts
  have h3 : ¬ 0 ≤ idxQ (lostL l) ts := of_decide_eq_false this
  unfold atL
  omega
theorem atL_some {l : Ln} {ts : List Int} (h : ts.any (lostL l) = true) : 0 ≤ atL l ts ∧ atL l ts < ts.length := by
  have := idxQ_nonneg (lostL l) ts
  rw [h] at this
  exact ⟨of_decide_eq_true this, (idxQ_lt (lostL l) ts).2⟩
/-- what Pass returns where it succeeds -/
theorem pass_rot {l : Ln} (h : OkL l) {ws ts : List Int} (hw : wordsE l ws = 0) (hl : ts.any (lostL l) = false) : passW l ws ts = wordsN l.bits.toNat l.words.toNat (rotP false (pulsesN l.bits.toNat ws) (sumL l ts)) := by
  have hlen : (ws.length : Int) = l.words := by
    unfold wordsE at hw
    split at hw
    · omega
    · omega
  unfold passW
  rw [rounds_rot h _ ts hl]
  rw [pulsesN_length]
  unfold beatsL
  have hb := h.bits
  rw [Int.natCast_mul, hlen, Int.toNat_of_nonneg (by omega)]
theorem words_bd {l : Ln} (h : OkL l) {ws : List Int} (hw : wordsE l ws = 0) : (ws.length : Int) = l.words ∧ ∀ x ∈ ws, 0 ≤ x ∧ x < 2 ^ l.bits.toNat := by
  unfold wordsE at hw
  split at hw
  · omega
  · split at hw
    · omega
    · rename_i h1 h2
      refine ⟨by omega, fun x hx => ?_⟩
      simp only [List.any_eq_true, not_exists, not_and, Bool.not_eq_true, Bool.not_eq_false'] at h2
      have hb := inB_bd (h2 x hx)
      omega
theorem pulses_len {l : Ln} (h : OkL l) {ws : List Int} (hw : wordsE l ws = 0) : ((pulsesN l.bits.toNat ws).length : Int) = beatsL l := by
  have hlen := (words_bd h hw).1
  have hb := h.bits
  rw [pulsesN_length]
  unfold beatsL
  rw [Int.natCast_mul, hlen, Int.toNat_of_nonneg (by omega)]
theorem words_same {l : Ln} (h : OkL l) {ws : List Int} (hw : wordsE l ws = 0) : wordsN l.bits.toNat l.words.toNat (pulsesN l.bits.toNat ws) = ws := by
  obtain ⟨h1, h2⟩ := words_bd h hw
  rw [show l.words.toNat = ws.length by omega]
  exact words_pulses h2
theorem pass_lost {l : Ln} {ws ts : List Int} (hl : ts.any (lostL l) = true) : passW l ws ts = List.replicate l.words.toNat 0 := by
  unfold passW
  rw [rounds_lost ts hl, wordsN_zero]
end Go.Q
/- Layer 1 in plain Lean: words that circulate at safe temperatures stay as they are; the temperatures of an oven, minute by minute. -/
namespace Go.Q
open Go.Proofs.YtbcciokmlkofkaaGreat
theorem safe_parts {l : Ln} {t : Int} (h : safeL l t = true) : byL l t = 0 ∧ lostL l t = false ∧ tempB t = true := by
  unfold safeL at h
  rw [Bool.and_eq_true, Bool.and_eq_true, beq_iff_eq, Bool.not_eq_true'] at h
  exact ⟨h.1.1, h.1.2, h.2⟩
theorem sumL_safe {l : Ln} (ts : List Int) : (∀ t ∈ ts, safeL l t = true) → sumL l ts = 0 := by
  refine snoc_induct (P := fun ts => (∀ t ∈ ts, safeL l t = true) → sumL l ts = 0) (fun _ => rfl) (fun xs x ih h => ?_) ts
  rw [sumL_snoc, ih (fun t ht => h t (List.mem_append_left _ ht)), (safe_parts (h x (List.mem_append_right _ (List.mem_singleton.2 rfl)))).1]
  rfl
/-- words that circulate at safe temperatures stay as they are -/
theorem pass_safe {l : Ln} {ws ts : List Int} (ho : okL l = true) (hw : wordsE l ws = 0) (hn : ts.length ≤ 60) (hs : ∀ t ∈ ts, safeL l t = true) : passE l ws ts = (ws, -1, 0) := by
  have h := okL_ok ho
  have hl : ts.any (lostL l) = false := by
    rw [List.any_eq_false]
    intro t ht
    rw [(safe_parts (hs t ht)).2.1]; simp
  have hx : passX l ws ts = 0 := by
    unfold passX
    rw [if_neg (by rw [ho]; simp), if_neg (by rw [hw]; simp), if_neg (by omega), if_neg]
    rw [Bool.not_eq_true, List.any_eq_false]
    intro t ht
    rw [(safe_parts (hs t ht)).2.2]; simp
  unfold passE
  rw [if_pos hx, pass_rot h hw hl, sumL_safe ts hs, rotP_zero, words_same h hw, atL_none hl]
/-- the temperature of an oven after so many minutes, and whether it heats -/
def tempQ (o : Ov) (temp : Sp) (heats : Bool) (xs : List Int) : Nat → Int × Bool
  | 0 => (amongO temp (xs[0]?.getD 0), heats)
  | m + 1 => if heatsO o (tempQ o temp heats xs m).1 (tempQ o temp heats xs m).2 = true then ((tempQ o temp heats xs m).1 + amongO o.warm (xs[(m + 1) % xs.length]?.getD 0), true) else ((tempQ o temp heats xs m).1 - amongO o.cool (xs[(m + 1) % xs.length]?.getD 0), false)
def tempsQ (o : Ov) (temp : Sp) (heats : Bool) (xs : List Int) (M : Nat) : List Int := fstN (fun i => (tempQ o temp heats xs i).1) (M + 1)
theorem byte_at {xs : List Int} (h : ∀ x ∈ xs, 0 ≤ x ∧ x ≤ 255) (i : Nat) : 0 ≤ xs[i]?.getD 0 ∧ xs[i]?.getD 0 ≤ 255 := by
  by_cases hi : i < xs.length
  · rw [List.getElem?_eq_getElem hi]; exact h _ (List.getElem_mem hi)
  · rw [List.getElem?_eq_none (by omega)]; simp
theorem tempQ_state {o : Ov} {temp : Sp} {heats : Bool} {xs : List Int} (hx : ∀ x ∈ xs, 0 ≤ x ∧ x ≤ 255) (ht : temp.lo ≤ temp.hi ∧ temp.hi - temp.lo ≤ 1500) (hw : o.warm.lo ≤ o.warm.hi ∧ o.warm.hi - o.warm.lo ≤ 1500) (hc : o.cool.lo ≤ o.cool.hi ∧ o.cool.hi - o.cool.lo ≤ 1500) : ∀ m : Nat, tempQ o temp heats xs m ∈ statesO o temp heats m
  | 0 => states_zero.2 ⟨amongO_in ht.1 ht.2 (byte_at hx 0), rfl⟩
  | m + 1 => by
    have ih := tempQ_state (heats := heats) hx ht hw hc m
    obtain ⟨s, hs⟩ : ∃ s, tempQ o temp heats xs m = s := ⟨_, rfl⟩
    rw [hs] at ih
    obtain ⟨t, b⟩ := s
    have hb := byte_at hx ((m + 1) % xs.length)
    unfold tempQ
    rw [hs]
    dsimp only
    cases hh : heatsO o t b with
    | true =>
      have h := state_next ih (n := amongO o.warm (xs[(m + 1) % xs.length]?.getD 0)) (by rw [hh]; simpa using amongO_in hw.1 hw.2 hb)
      rw [hh] at h
      simpa using h
    | false =>
      have h := state_next ih (n := amongO o.cool (xs[(m + 1) % xs.length]?.getD 0)) (by rw [hh]; simpa using amongO_in hc.1 hc.2 hb)
      rw [hh] at h
      simpa using h
theorem tempsQ_length {o : Ov} {temp : Sp} {heats : Bool} {xs : List Int} {M : Nat} : (tempsQ o temp heats xs M).length = M + 1 := fstN_length _ _
/-- if Keeps doubts at no minute, each temperature is safe -/
theorem temps_safe {l : Ln} {o : Ov} {temp : Sp} {heats : Bool} {xs : List Int} {M : Nat} (hx : ∀ x ∈ xs, 0 ≤ x ∧ x ≤ 255) (ht : temp.lo ≤ temp.hi ∧ temp.hi - temp.lo ≤ 1500) (hw : o.warm.lo ≤ o.warm.hi ∧ o.warm.hi - o.warm.lo ≤ 1500) (hc : o.cool.lo ≤ o.cool.hi ∧ o.cool.hi - o.cool.lo ≤ 1500) (hk : kpF (unsafeO l o temp heats) M < 0) : ∀ t ∈ tempsQ o temp heats xs M, safeL l t = true := by
  intro t h
  unfold tempsQ fstN at h
  rw [List.mem_map] at h
  obtain ⟨i, hi, rfl⟩ := h
  have hi2 := List.mem_range.1 hi
  have hu := kpF_before (u := unsafeO l o temp heats) (m := i) (M := M) (by omega) (.inl hk)
  exact unsafe_no hu (b := (tempQ o temp heats xs i).2) (tempQ_state hx ht hw hc i)
end Go.Q

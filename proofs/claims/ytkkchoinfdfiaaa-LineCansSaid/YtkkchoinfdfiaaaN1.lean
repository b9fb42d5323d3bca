/- Layer 1 in plain Lean: rounds turn the pulses; lost pulses. -/
import Derived.Test.YtkkchoinfdfiaaaH1
import Derived.Test.YtkkchoinfdfiaaaH2
set_option linter.unusedVariables false
set_option linter.unusedSimpArgs false
namespace Go.Q
/-- a list that comes s places later, round about -/
def rotP {α : Type} (d : α) (ps : List α) (s : Int) : List α := fstN (fun k => (ps[(((k : Int) - s) % (ps.length : Int)).toNat]?).getD d) ps.length
theorem rotP_length {α : Type} (d : α) (ps : List α) (s : Int) : (rotP d ps s).length = ps.length := fstN_length _ _
theorem rotP_get {α : Type} {d : α} {ps : List α} {s : Int} {k : Nat} (hk : k < ps.length) : (rotP d ps s)[k]? = some ((ps[(((k : Int) - s) % (ps.length : Int)).toNat]?).getD d) := fstN_get _ hk
theorem list_ext {α : Type} {xs ys : List α} (hl : xs.length = ys.length) (h : ∀ k, k < xs.length → xs[k]? = ys[k]?) : xs = ys := by
  refine List.ext_getElem? fun k => ?_
  by_cases hk : k < xs.length
  · exact h k hk
  · rw [List.getElem?_eq_none (by omega), List.getElem?_eq_none (by omega)]
theorem rotP_rotP {α : Type} (d : α) (ps : List α) (a b : Int) : rotP d (rotP d ps a) b = rotP d ps (a + b) := by
  refine list_ext (by rw [rotP_length, rotP_length, rotP_length]) fun k hk => ?_
  rw [rotP_length] at hk
  have hk' : k < ps.length := by rw [rotP_length] at hk; exact hk
  rw [rotP_get hk, rotP_get hk', rotP_length]
  have hn : (ps.length : Int) ≠ 0 := by omega
  have e1 := Int.emod_nonneg ((k : Int) - b) hn
  have e2 := Int.emod_lt_of_pos ((k : Int) - b) (show 0 < (ps.length : Int) by omega)
  rw [rotP_get (by omega), Int.toNat_of_nonneg e1]
  have e3 : (((k : Int) - b) % (ps.length : Int) - a) % (ps.length : Int) = ((k : Int) - (a + b)) % (ps.length : Int) := by
    rw [Int.sub_emod, Int.emod_emod, ← Int.sub_emod]
    congr 1
    omega
  rw [e3]
  rfl
theorem rotP_congr {α : Type} (d : α) (ps : List α) {a b : Int} (h : a % (ps.length : Int) = b % (ps.length : Int)) : rotP d ps a = rotP d ps b := by
  refine list_ext (by rw [rotP_length, rotP_length]) fun k hk => ?_
  rw [rotP_length] at hk
  rw [rotP_get hk, rotP_get hk]
  have e : ((k : Int) - a) % (ps.length : Int) = ((k : Int) - b) % (ps.length : Int) := by rw [Int.sub_emod, h, ← Int.sub_emod]
  rw [e]
theorem rotP_zero {α : Type} (d : α) (ps : List α) : rotP d ps 0 = ps := by
  refine list_ext (rotP_length _ _ _) fun k hk => ?_
  rw [rotP_length] at hk
  rw [rotP_get hk, Int.sub_zero, Int.emod_eq_of_lt (by omega) (by omega)]
  rw [List.getElem?_eq_getElem (by omega)]
  simp
theorem rotP_whole {α : Type} (d : α) (ps : List α) {a : Int} (h : a % (ps.length : Int) = 0) : rotP d ps a = ps := by
  rw [rotP_congr d ps (b := 0) (by rw [h]; simp), rotP_zero]
theorem rotP_map {α β : Type} (f : α → β) (d : α) (ps : List α) (s : Int) : rotP (f d) (ps.map f) s = (rotP d ps s).map f := by
  refine list_ext (by rw [rotP_length, List.length_map, List.length_map, rotP_length]) fun k hk => ?_
  rw [rotP_length, List.length_map] at hk
  rw [rotP_get (by rw [List.length_map]; exact hk), List.getElem?_map, List.getElem?_map, rotP_get hk, List.length_map]
  cases ps[(((k : Int) - s) % (ps.length : Int)).toNat]? <;> rfl
theorem lateP_rot {ps : List Bool} {s : Nat} (hs : s < ps.length) : lateP ps s = rotP false ps s := by
  refine list_ext (by rw [lateP_length, rotP_length]) fun k hk => ?_
  rw [lateP_length] at hk
  rw [lateP_get (by omega) hk, rotP_get hk]
  by_cases h : k < s
  · rw [if_pos h]
    have e : ((k : Int) - (s : Int)) % (ps.length : Int) = ((ps.length - s + k : Nat) : Int) := by
      rw [show (k : Int) - (s : Int) = ((ps.length - s + k : Nat) : Int) + (ps.length : Int) * (-1) by omega, Int.add_mul_emod_self_left, Int.emod_eq_of_lt (by omega) (by omega)]
    rw [e, Int.toNat_natCast, List.getElem?_eq_getElem (by omega)]
    rfl
  · rw [if_neg h]
    have e : ((k : Int) - (s : Int)) % (ps.length : Int) = ((k - s : Nat) : Int) := by
      rw [show (k : Int) - (s : Int) = ((k - s : Nat) : Int) by omega, Int.emod_eq_of_lt (by omega) (by omega)]
    rw [e, Int.toNat_natCast, List.getElem?_eq_getElem (by omega)]
    rfl
/-- by how many beats pulses are late after rounds -/
def sumL (l : Ln) (ts : List Int) : Int := (ts.map (byL l)).foldl (· + ·) 0
theorem sumL_snoc (l : Ln) (ts : List Int) (t : Int) : sumL l (ts ++ [t]) = sumL l ts + byL l t := by simp [sumL]
theorem sumL_nil (l : Ln) : sumL l [] = 0 := rfl
theorem roundP_rot {l : Ln} (h : OkL l) {ps : List Bool} (hp : (ps.length : Int) = beatsL l) {t : Int} (ht : lostL l t = false) : roundP l ps t = rotP false ps (byL l t) := by
  have ht' := h.turn (byL l t)
  unfold roundP
  rw [ht, if_neg (by simp), lateP_rot (by omega)]
  refine rotP_congr _ _ ?_
  rw [Int.toNat_of_nonneg ht'.1]
  unfold turnL
  rw [hp, Int.emod_emod]
theorem snoc_induct {α : Type} {P : List α → Prop} (h0 : P []) (h1 : ∀ xs x, P xs → P (xs ++ [x])) (xs : List α) : P xs := by
  have key : ∀ n (xs : List α), xs.length = n → P xs := by
    intro n
    induction n with
    | zero => intro xs h; rw [List.eq_nil_of_length_eq_zero h]; exact h0
    | succ n ih =>
      intro xs h
      rcases List.eq_nil_or_concat xs with rfl | ⟨ys, y, rfl⟩
      · simp at h
      · rw [List.concat_eq_append] at h ⊢
        exact h1 ys y (ih ys (by simpa using h))
  exact key _ xs rfl
/-- no pulses are lost -/
theorem rounds_rot {l : Ln} (h : OkL l) {ps : List Bool} (hp : (ps.length : Int) = beatsL l) : ∀ ts : List Int, ts.any (lostL l) = false → roundsP l ps ts = rotP false ps (sumL l ts) := by
  refine snoc_induct ?_ ?_
  · intro _
    rw [sumL_nil, rotP_zero]
    rfl
  · intro ts t ih hl
    rw [List.any_append, Bool.or_eq_false_iff] at hl
    rw [roundsP_snoc, ih hl.1, roundP_rot h (by rw [rotP_length]; exact hp) (by simpa using hl.2), rotP_rotP, sumL_snoc]
theorem lateP_zero (n s : Nat) : lateP (List.replicate n false) s = List.replicate n false := by
  unfold lateP
  rw [List.length_replicate, List.drop_replicate, List.take_replicate, List.replicate_append_replicate]
  congr 1
  omega
theorem roundP_zero (l : Ln) (n : Nat) (t : Int) : roundP l (List.replicate n false) t = List.replicate n false := by
  unfold roundP
  split
  · rw [List.length_replicate]
  · exact lateP_zero _ _
/-- pulses are lost -/
theorem rounds_lost {l : Ln} {ps : List Bool} : ∀ ts : List Int, ts.any (lostL l) = true → roundsP l ps ts = List.replicate ps.length false := by
  refine snoc_induct ?_ ?_
  · intro h; simp at h
  · intro ts t ih hl
    rw [roundsP_snoc]
    by_cases h : ts.any (lostL l) = true
    · rw [ih h, roundP_zero]
    · have ht : lostL l t = true := by
        rw [List.any_append, Bool.or_eq_true] at hl
        rcases hl with hl | hl
        · exact absurd hl h
        · simpa using hl
      unfold roundP
      rw [if_pos ht, roundsP_length]
theorem sumB_zero (j : Nat) : sumB (fun _ => false) j = 0 := by
  induction j with
  | zero => rfl
  | succ j ih => unfold sumB; rw [ih]; rfl
theorem wordsN_zero (bits n m : Nat) : wordsN bits n (List.replicate m false) = List.replicate n 0 := by
  refine list_ext (by unfold wordsN; rw [fstN_length, List.length_replicate]) fun k hk => ?_
  unfold wordsN at hk ⊢
  rw [fstN_length] at hk
  rw [fstN_get _ hk, List.getElem?_replicate, if_pos hk]
  unfold wordN
  rw [sumB_congr (g := fun _ => false) bits (fun i _ => by rw [List.getElem?_replicate]; split <;> rfl), sumB_zero]
theorem atL_none {l : Ln} {ts : List Int} (h : ts.any (lostL l) = false) : atL l ts = -1 := by
  have := idxQ_nonneg (lostL l) ts
  rw [h] at this
  have h2 := idxQ_lt (lostL l) ts
  have h3 : ¬ 0 ≤ idxQ (lostL l) ts := of_decide_eq_false this
  unfold atL
  omega
theorem atL_some {l : Ln} {ts : List Int} (h : ts.any (lostL l) = true) : 0 ≤ atL l ts ∧ atL l ts < ts.length := by
  have := idxQ_nonneg (lostL l) ts
  rw [h] at this
  exact ⟨of_decide_eq_true this, (idxQ_lt (lostL l) ts).2⟩
/-- what Pass returns where it succeeds -/
theorem pass_rot {l : Ln} (h : OkL l) {ws ts : List Int} (hw : wordsE l ws = 0) (hl : ts.any (lostL l) = false) : passW l ws ts = wordsN l.bits.toNat l.words.toNat (rotP false (pulsesN l.bits.toNat ws) (sumL l ts)) := by
  have hlen : (ws.length : Int) = l.words := by
    unfold wordsE at hw
    split at hw
    · omega
    · omega
  unfold passW
  rw [rounds_rot h _ ts hl]
  rw [pulsesN_length]
  unfold beatsL
  have hb := h.bits
  rw [Int.natCast_mul, hlen, Int.toNat_of_nonneg (by omega)]
theorem words_bd {l : Ln} (h : OkL l) {ws : List Int} (hw : wordsE l ws = 0) : (ws.length : Int) = l.words ∧ ∀ x ∈ ws, 0 ≤ x ∧ x < 2 ^ l.bits.toNat := by
  unfold wordsE at hw
  split at hw
  · omega
  · split at hw
    · omega
    · rename_i h1 h2
      refine ⟨by omega, fun x hx => ?_⟩
      simp only [List.any_eq_true, not_exists, not_and, Bool.not_eq_true, Bool.not_eq_false'] at h2
      have hb := inB_bd (h2 x hx)
      omega
theorem pulses_len {l : Ln} (h : OkL l) {ws : List Int} (hw : wordsE l ws = 0) : ((pulsesN l.bits.toNat ws).length : Int) = beatsL l := by
  have hlen := (words_bd h hw).1
  have hb := h.bits
  rw [pulsesN_length]
  unfold beatsL
  rw [Int.natCast_mul, hlen, Int.toNat_of_nonneg (by omega)]
theorem words_same {l : Ln} (h : OkL l) {ws : List Int} (hw : wordsE l ws = 0) : wordsN l.bits.toNat l.words.toNat (pulsesN l.bits.toNat ws) = ws := by
  obtain ⟨h1, h2⟩ := words_bd h hw
  rw [show l.words.toNat = ws.length by omega]
  exact words_pulses h2
theorem pass_lost {l : Ln} {ws ts : List Int} (hl : ts.any (lostL l) = true) : passW l ws ts = List.replicate l.words.toNat 0 := by
  unfold passW
  rw [rounds_lost ts hl, wordsN_zero]
end Go.Q

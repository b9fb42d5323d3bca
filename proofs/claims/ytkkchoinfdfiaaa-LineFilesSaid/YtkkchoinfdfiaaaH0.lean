/- Layer 1 (line) in plain Lean: what the functions compute; no program in sight. -/
import Derived.Test.YtkkchoinfdfiaaaLib
import Derived.Test.YtkkchoinfdfiaaaSpec4
set_option linter.unusedVariables false
set_option linter.unusedSimpArgs false
namespace Go.Q
structure Ln where
  words : Int
  bits : Int
  period : Int
  delay : Int
  slope : Int
  window : Int
structure Sp where
  lo : Int
  hi : Int
deriving DecidableEq
structure Ov where
  low : Int
  high : Int
  warm : Sp
  cool : Sp
def okL (l : Ln) : Bool := inB l.words 1 64 && inB l.bits 1 40 && inB l.period 2 100000 && inB l.delay 0 1000000000 && inB l.slope (-100000) 100000 && inB l.window 0 ((l.period - 1) / 2)
/-- what Check returns -/
def checkL (l : Ln) : Int := if okL l = true then 0 else 7
def tempB (t : Int) : Bool := inB t (-500) 1000
def beatsL (l : Ln) : Int := l.words * l.bits
/-- a line that is valid -/
structure OkL (l : Ln) : Prop where
  words : 1 ≤ l.words ∧ l.words ≤ 64
  bits : 1 ≤ l.bits ∧ l.bits ≤ 40
  period : 2 ≤ l.period ∧ l.period ≤ 100000
  delay : 0 ≤ l.delay ∧ l.delay ≤ 1000000000
  slope : -100000 ≤ l.slope ∧ l.slope ≤ 100000
  window : 0 ≤ l.window ∧ l.window ≤ (l.period - 1) / 2
theorem okL_ok {l : Ln} (h : okL l = true) : OkL l := by
  simp only [okL, Bool.and_eq_true] at h
  obtain ⟨⟨⟨⟨⟨a, b⟩, c⟩, d⟩, e⟩, f⟩ := h
  exact ⟨inB_bd a, inB_bd b, inB_bd c, inB_bd d, inB_bd e, inB_bd f⟩
theorem mul_bd {a b A B : Int} (a0 : 0 ≤ a) (a1 : a ≤ A) (b0 : 0 ≤ b) (b1 : b ≤ B) : 0 ≤ a * b ∧ a * b ≤ A * B :=
  ⟨Int.mul_nonneg a0 b0, Int.mul_le_mul a1 b1 b0 (by omega)⟩
theorem OkL.beats {l : Ln} (h : OkL l) : 1 ≤ beatsL l ∧ beatsL l ≤ 2560 := by
  have h1 := mul_bd (a := l.words) (b := l.bits) (by have := h.words; omega) h.words.2 (by have := h.bits; omega) h.bits.2
  have h2 : 1 * 1 ≤ l.words * l.bits := Int.mul_le_mul h.words.1 h.bits.1 (by omega) (by have := h.words; omega)
  unfold beatsL
  omega
theorem mul_abs {s t S T : Int} (hs : -S ≤ s ∧ s ≤ S) (ht : -T ≤ t ∧ t ≤ T) : -(S * T) ≤ s * t ∧ s * t ≤ S * T := by
  have key : ∀ a b : Int, 0 ≤ a → a ≤ S → -T ≤ b → b ≤ T → -(S * T) ≤ a * b ∧ a * b ≤ S * T := by
    intro a b a0 a1 b0 b1
    have hT : 0 ≤ T := by omega
    rcases Int.le_total 0 b with hb | hb
    · have := mul_bd a0 a1 hb b1; have hST := Int.mul_nonneg (by omega : 0 ≤ S) hT; omega
    · have := mul_bd a0 a1 (b := -b) (B := T) (by omega) (by omega); rw [Int.mul_neg] at this; have hST := Int.mul_nonneg (by omega : 0 ≤ S) hT; omega
  rcases Int.le_total 0 s with h | h
  · exact key s t h hs.2 ht.1 ht.2
  · have := key (-s) t (by omega) (by omega) ht.1 ht.2
    rw [Int.neg_mul] at this
    omega
theorem OkL.slopeT {l : Ln} (h : OkL l) {t : Int} (ht : -100000 ≤ t ∧ t ≤ 100000) : -10000000000 ≤ l.slope * t ∧ l.slope * t ≤ 10000000000 := by
  have := mul_abs (S := 100000) (T := 100000) h.slope ht
  omega
theorem OkL.span {l : Ln} (h : OkL l) : 2 ≤ beatsL l * l.period ∧ beatsL l * l.period ≤ 256000000 := by
  have hb := h.beats
  have hp := h.period
  have h1 := mul_bd (a := beatsL l) (b := l.period) (by omega) hb.2 (by omega) hp.2
  have h2 : 1 * 2 ≤ beatsL l * l.period := Int.mul_le_mul hb.1 hp.1 (by omega) (by omega)
  omega
/-- by how much pulses are late, from the lower end of the window on -/
def lateL (l : Ln) (t : Int) : Int := l.delay + l.slope * t - beatsL l * l.period + l.window
def lostL (l : Ln) (t : Int) : Bool := decide (2 * l.window < lateL l t % l.period)
/-- by how many beats pulses are late -/
def byL (l : Ln) (t : Int) : Int := lateL l t / l.period
/-- what shift returns -/
def shiftV (l : Ln) (t : Int) : Int × Bool := if lostL l t = true then (0, true) else (byL l t, false)
def safeL (l : Ln) (t : Int) : Bool := (byL l t == 0) && !lostL l t && tempB t
def turnL (l : Ln) (n : Int) : Int := n % beatsL l
/-- what Shift and Next return -/
def shiftE (l : Ln) (t : Int) : Int × Bool × Int := if okL l = true ∧ tempB t = true then ((shiftV l t).1, (shiftV l t).2, 0) else (0, false, 7)
def nextE (l : Ln) (word beat : Int) : Int × Int :=
  if okL l = true ∧ inB word 0 (l.words - 1) = true ∧ inB beat 0 1000000000 = true then (beat + 1 + turnL l (word * l.bits - beat - 1), 0) else (0, 7)
theorem OkL.late {l : Ln} (h : OkL l) {t : Int} (ht : -100000 ≤ t ∧ t ≤ 100000) : -11000000000 ≤ lateL l t ∧ lateL l t ≤ 12000000000 := by
  have h1 := h.slopeT ht
  have h2 := h.span
  have h3 := h.delay
  have h4 := h.window
  have h5 := h.period
  unfold lateL
  omega
/-- division that rounds to zero, and the correction -/
theorem floor_of_tdiv {a b : Int} (hb : 0 < b) : (if a.tmod b < 0 then a.tdiv b - 1 else a.tdiv b) = a / b := by
  rcases Int.le_total 0 a with h | h
  · rw [Int.tdiv_eq_ediv_of_nonneg h, Int.tmod_eq_emod_of_nonneg h, if_neg]
    have := Int.emod_nonneg a (show b ≠ 0 by omega)
    omega
  · have e1 : a.tdiv b = -((-a) / b) := by
      rw [show a = -(-a) by omega, Int.neg_tdiv, Int.tdiv_eq_ediv_of_nonneg (by omega)]; simp
    have e2 : a.tmod b = -((-a) % b) := by
      rw [show a = -(-a) by omega, Int.neg_tmod, Int.tmod_eq_emod_of_nonneg (by omega)]; simp
    have d1 := Int.emod_add_mul_ediv (-a) b
    have d2 := Int.emod_nonneg (-a) (show b ≠ 0 by omega)
    have d3 := Int.emod_lt_of_pos (-a) hb
    rw [e1, e2]
    generalize (-a) / b = q at *
    generalize hr : (-a) % b = r at *
    symm
    split
    · have ha : a = (b - r) + b * (-q - 1) := by rw [Int.mul_sub, Int.mul_neg]; omega
      rw [ha, Int.add_mul_ediv_left _ _ (by omega), Int.ediv_eq_zero_of_lt (by omega) (by omega)]
      omega
    · have ha : a = b * (-q) := by rw [Int.mul_neg]; omega
      rw [ha, Int.mul_ediv_cancel_left _ (by omega)]
theorem turn_of_tmod {a b : Int} (hb : 0 < b) : (a.tmod b + b).tmod b = a % b := by
  have e : (a.tmod b + b).tmod b = (a.tmod b + b) % b := by
    apply Int.tmod_eq_emod_of_nonneg
    have := Int.lt_tmod_of_pos a hb
    omega
  rw [e, Int.add_emod_right]
  rcases Int.le_total 0 a with h | h
  · rw [Int.tmod_eq_emod_of_nonneg h]; simp
  · rw [Int.tmod_eq_emod]
    split
    · simp
    · rw [show (b.natAbs : Int) = b by omega, Int.sub_emod]; simp
/-- a byte of a name, at its place -/
def nameC (i : Nat) (c : Int) : Bool := (decide (97 ≤ c) && decide (c ≤ 122)) || (decide (0 < i) && ((c == 95) || (decide (48 ≤ c) && decide (c ≤ 57))))
/-- the bytes of a name -/
def nameB (s : List Int) : Bool := inB s.length 1 20 && !((s[s.length - 1]?.getD 0) == 95) && (List.range s.length).all fun i => nameC i (s[i]?.getD 0)
/-- the bytes of a string -/
def bytesS (s : ByteArray) : List Int := s.data.toList.map fun b => (b.toNat : Int)
theorem bytesS_length (s : ByteArray) : (bytesS s).length = s.size := by unfold bytesS; rw [List.length_map]; rfl
theorem bytesS_get (s : ByteArray) (i : Nat) (h : i < s.size) : (bytesS s)[i]?.getD 0 = (s[i].toNat : Int) := by
  unfold bytesS
  rw [List.getElem?_map, List.getElem?_eq_getElem (by simpa using h)]
  rfl
end Go.Q

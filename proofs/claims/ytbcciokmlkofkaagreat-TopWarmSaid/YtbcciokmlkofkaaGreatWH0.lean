import Derived.Test.YtbcciokmlkofkaaGreatWLib
import Derived.Test.YtbcciokmlkofkaaGreatWSpec4
set_option linter.unusedVariables false
set_option linter.unusedSimpArgs false
/- Layer 1 (line) in plain Lean: what the functions compute; no program in sight. -/
namespace Go.Q
structure Ln where
  words : Int
  bits : Int
  period : Int
  delay : Int
  slope : Int
  window : Int
structure Sp where
  lo : Int
  hi : Int
deriving DecidableEq
structure Ov where
  low : Int
  high : Int
  warm : Sp
  cool : Sp
def okL (l : Ln) : Bool := inB l.words 1 64 && inB l.bits 1 40 && inB l.period 2 100000 && inB l.delay 0 1000000000 && inB l.slope (-100000) 100000 && inB l.window 0 ((l.period - 1) / 2)
/-- what Check returns -/
def checkL (l : Ln) : Int := if okL l = true then 0 else 7
def tempB (t : Int) : Bool := inB t (-500) 1000
def beatsL (l : Ln) : Int := l.words * l.bits
/-- a line that is valid -/
structure OkL (l : Ln) : Prop where
  words : 1 ≤ l.words ∧ l.words ≤ 64
  bits : 1 ≤ l.bits ∧ l.bits ≤ 40
  period : 2 ≤ l.period ∧ l.period ≤ 100000
  delay : 0 ≤ l.delay ∧ l.delay ≤ 1000000000
  slope : -100000 ≤ l.slope ∧ l.slope ≤ 100000
  window : 0 ≤ l.window ∧ l.window ≤ (l.period - 1) / 2
theorem okL_ok {l : Ln} (h : okL l = true) : OkL l := by
  simp only [okL, Bool.and_eq_true] at h
  obtain ⟨⟨⟨⟨⟨a, b⟩, c⟩, d⟩, e⟩, f⟩ := h
  exact ⟨inB_bd a, inB_bd b, inB_bd c, inB_bd d, inB_bd e, inB_bd f⟩
theorem mul_bd {a b A B : Int} (a0 : 0 ≤ a) (a1 : a ≤ A) (b0 : 0 ≤ b) (b1 : b ≤ B) : 0 ≤ a * b ∧ a * b ≤ A * B :=
  ⟨Int.mul_nonneg a0 b0, Int.mul_le_mul a1 b1 b0 (by omega)⟩
theorem OkL.beats {l : Ln} (h : OkL l) : 1 ≤ beatsL l ∧ beatsL l ≤ 2560 := by
  have h1 := mul_bd (a := l.words) (b := l.bits) (by have := h.words; omega) h.words.2 (by have := h.bits; omega) h.bits.2
  have h2 : 1 * 1 ≤ l.words * l.bits := Int.mul_le_mul h.words.1 h.bits.1 (by omega) (by have := h.words; omega)
  unfold beatsL
  omega
theorem mul_abs {s t S T : Int} (hs : -S ≤ s ∧ s ≤ S) (ht : -T ≤ t ∧ t ≤ T) : -(S * T) ≤ s * t ∧ s * t ≤ S * T := by
  have key : ∀ a b : Int, 0 ≤ a → a ≤ S → -T ≤ b → b ≤ T → -(S * T) ≤ a * b ∧ a * b ≤ S * T := by
    intro a b a0 a1 b0 b1
    have hT : 0 ≤ T := by omega
    rcases Int.le_total 0 b with hb | hb
    · have := mul_bd a0 a1 hb b1; have hST := Int.mul_nonneg (by omega : 0 ≤ S) hT; omega
    · have := mul_bd a0 a1 (b := -b) (B := T) (by omega) (by omega); rw [Int.mul_neg] at this; have hST := Int.mul_nonneg (by omega : 0 ≤ S) hT; omega
  rcases Int.le_total 0 s with h | h
  · exact key s t h hs.2 ht.1 ht.2
  · have := key (-s) t (by omega) (by omega) ht.1 ht.2
    rw [Int.neg_mul] at this
    omega
theorem OkL.slopeT {l : Ln} (h : OkL l) {t : Int} (ht : -100000 ≤ t ∧ t ≤ 100000) : -10000000000 ≤ l.slope * t ∧ l.slope * t ≤ 10000000000 := by
  have := mul_abs (S := 100000) (T := 100000) h.slope ht
  omega
theorem OkL.span {l : Ln} (h : OkL l) : 2 ≤ beatsL l * l.period ∧ beatsL l * l.period ≤ 256000000 := by
  have hb := h.beats
  have hp := h.period
  have h1 := mul_bd (a := beatsL l) (b := l.period) (by omega) hb.2 (by omega) hp.2
  have h2 : 1 * 2 ≤ beatsL l * l.period := Int.mul_le_mul hb.1 hp.1 (by omega) (by omega)
  omega
/-- by how much pulses are late, from the lower end of the window on -/
def lateL (l : Ln) (t : Int) : Int := l.delay + l.slope * t - beatsL l * l.period + l.window
def lostL (l : Ln) (t : Int) : Bool := decide (2 * l.window < lateL l t % l.period)
/-- by how many beats pulses are late -/
def byL (l : Ln) (t : Int) : Int := lateL l t / l.period
/-- what shift returns -/
def shiftV (l : Ln) (t : Int) : Int × Bool := if lostL l t = true then (0, true) else (byL l t, false)
def safeL (l : Ln) (t : Int) : Bool := (byL l t == 0) && !lostL l t && tempB t
def turnL (l : Ln) (n : Int) : Int := n % beatsL l
/-- what Shift and Next return -/
def shiftE (l : Ln) (t : Int) : Int × Bool × Int := if okL l = true ∧ tempB t = true then ((shiftV l t).1, (shiftV l t).2, 0) else (0, false, 7)
def nextE (l : Ln) (word beat : Int) : Int × Int :=
  if okL l = true ∧ inB word 0 (l.words - 1) = true ∧ inB beat 0 1000000000 = true then (beat + 1 + turnL l (word * l.bits - beat - 1), 0) else (0, 7)
theorem OkL.late {l : Ln} (h : OkL l) {t : Int} (ht : -100000 ≤ t ∧ t ≤ 100000) : -11000000000 ≤ lateL l t ∧ lateL l t ≤ 12000000000 := by
  have h1 := h.slopeT ht
  have h2 := h.span
  have h3 := h.delay
  have h4 := h.window
  have h5 := h.period
  unfold lateL
  omega
/-- division that rounds to zero, and the correction -/
theorem floor_of_tdiv {a b : Int} (hb : 0 < b) : (if a.tmod b < 0 then a.tdiv b - 1 else a.tdiv b) = a / b := by
  rcases Int.le_total 0 a with h | h
  · rw [Int.tdiv_eq_ediv_of_nonneg h, Int.tmod_eq_emod_of_nonneg h, if_neg]
    have := Int.emod_nonneg a (show b ≠ 0 by omega)
    omega
  · have e1 : a.tdiv b = -((-a) / b) := by
      rw [show a = -(-a) by omega, Int.neg_tdiv, Int.tdiv_eq_ediv_of_nonneg (by omega)]; simp
    have e2 : a.tmod b = -((-a) % b) := by
      rw [show a = -(-a) by omega, Int.neg_tmod, Int.tmod_eq_emod_of_nonneg (by omega)]; simp
    have d1 := Int.emod_add_mul_ediv (-a) b
    have d2 := Int.emod_nonneg (-a) (show b ≠ 0 by omega)
    have d3 := Int.emod_lt_of_pos (-a) hb
    rw [e1, e2]
    generalize (-a) / b = q at *
    generalize hr : (-a) % b = r at *
    symm
    split
    · have ha : a = (b - r) + b * (-q - 1) := by rw [Int.mul_sub, Int.mul_neg]; omega
      rw [ha, Int.add_mul_ediv_left _ _ (by omega), Int.ediv_eq_zero_of_lt (by omega) (by omega)]
      omega
    · have ha : a = b * (-q) := by rw [Int.mul_neg]; omega
      rw [ha, Int.mul_ediv_cancel_left _ (by omega)]
theorem turn_of_tmod {a b : Int} (hb : 0 < b) : (a.tmod b + b).tmod b = a % b := by
  have e : (a.tmod b + b).tmod b = (a.tmod b + b) % b := by
    apply Int.tmod_eq_emod_of_nonneg
    have := Int.lt_tmod_of_pos a hb
    omega
  rw [e, Int.add_emod_right]
  rcases Int.le_total 0 a with h | h
  · rw [Int.tmod_eq_emod_of_nonneg h]; simp
  · rw [Int.tmod_eq_emod]
    split
    · simp
    · rw [show (b.natAbs : Int) = b by omega, Int.sub_emod]; simp
/-- a byte of a name, at its place -/
def nameC (i : Nat) (c : Int) : Bool := (decide (97 ≤ c) && decide (c ≤ 122)) || (decide (0 < i) && ((c == 95) || (decide (48 ≤ c) && decide (c ≤ 57))))
/-- the bytes of a name -/
def nameB (s : List Int) : Bool := inB s.length 1 20 && !((s[s.length - 1]?.getD 0) == 95) && (List.range s.length).all fun i => nameC i (s[i]?.getD 0)
/-- the bytes of a string -/
def bytesS (s : ByteArray) : List Int := s.data.toList.map fun b => (b.toNat : Int)
theorem bytesS_length (s : ByteArray) : (bytesS s).length = s.size := by unfold bytesS; rw [List.length_map]; rfl
theorem bytesS_get (s : ByteArray) (i : Nat) (h : i < s.size) : (bytesS s)[i]?.getD 0 = (s[i].toNat : Int) := by
  unfold bytesS
  rw [List.getElem?_map, List.getElem?_eq_getElem (by simpa using h)]
  rfl
end Go.Q
/- Layer 1 in plain Lean: the pulses of words, what rounds make of them, the words of pulses. -/
namespace Go.Q
/-- bit k of a number -/
def bitN (x : Int) (k : Nat) : Bool := x / 2 ^ k % 2 == 1
/-- the first n of what f gives -/
def fstN {α : Type} (f : Nat → α) (n : Nat) : List α := (List.range n).map f
theorem fstN_succ {α : Type} (f : Nat → α) (n : Nat) : fstN f (n + 1) = fstN f n ++ [f n] := by unfold fstN; rw [List.range_succ, List.map_append]; rfl
theorem fstN_length {α : Type} (f : Nat → α) (n : Nat) : (fstN f n).length = n := by unfold fstN; rw [List.length_map, List.length_range]
theorem fstN_get {α : Type} (f : Nat → α) {n i : Nat} (h : i < n) : (fstN f n)[i]? = some (f i) := by unfold fstN; rw [List.getElem?_map, List.getElem?_range h]; rfl
/-- the pulses of a word, of so many words -/
def pulse1 (bits : Nat) (x : Int) : List Bool := fstN (bitN x) bits
def pulsesN (bits : Nat) (ws : List Int) : List Bool := ws.flatMap (pulse1 bits)
theorem pulse1_length (bits : Nat) (x : Int) : (pulse1 bits x).length = bits := fstN_length _ _
theorem pulsesN_length (bits : Nat) : ∀ ws : List Int, (pulsesN bits ws).length = ws.length * bits
  | [] => by simp [pulsesN]
  | x :: ws => by
    have := pulsesN_length bits ws
    unfold pulsesN at this ⊢
    rw [List.flatMap_cons, List.length_append, this, pulse1_length, List.length_cons, Nat.add_mul]; omega
theorem pulsesN_snoc (bits : Nat) (ws : List Int) (x : Int) : pulsesN bits (ws ++ [x]) = pulsesN bits ws ++ pulse1 bits x := by simp [pulsesN]
/-- pulse k * bits + i is bit i of word k -/
theorem pulsesN_get (bits : Nat) : ∀ (ws : List Int) (k i : Nat), k < ws.length → i < bits → (pulsesN bits ws)[k * bits + i]? = some (bitN (ws[k]?.getD 0) i)
  | [], k, i, hk, _ => by simp at hk
  | x :: ws, 0, i, _, hi => by
    unfold pulsesN
    rw [List.flatMap_cons, List.getElem?_append_left (by rw [pulse1_length]; omega)]
    have e := fstN_get (bitN x) hi
    simpa [pulse1] using e
  | x :: ws, k + 1, i, hk, hi => by
    have ih := pulsesN_get bits ws k i (by simpa using hk) hi
    unfold pulsesN at ih ⊢
    rw [List.flatMap_cons, List.getElem?_append_right (by rw [pulse1_length, Nat.add_mul]; omega), pulse1_length, show (k + 1) * bits + i - bits = k * bits + i by rw [Nat.add_mul]; omega, ih]
    simp
/-- the number of the first j bits -/
def sumB (f : Nat → Bool) : Nat → Int
  | 0 => 0
  | j + 1 => sumB f j + (if f j = true then 2 ^ j else 0)
theorem sumB_bd (f : Nat → Bool) : ∀ j, 0 ≤ sumB f j ∧ sumB f j < 2 ^ j
  | 0 => by simp [sumB]
  | j + 1 => by
    have ih := sumB_bd f j
    have h2 : (0 : Int) ≤ 2 ^ j := by have := Int.pow_pos (n := 2) (m := j) (by decide); omega
    unfold sumB
    rw [Int.pow_succ]
    split <;> omega
theorem sumB_congr {f g : Nat → Bool} : ∀ j, (∀ i, i < j → f i = g i) → sumB f j = sumB g j
  | 0, _ => rfl
  | j + 1, h => by unfold sumB; rw [sumB_congr j (fun i hi => h i (by omega)), h j (by omega)]
theorem sumB_bits {x : Int} (h0 : 0 ≤ x) : ∀ j, sumB (bitN x) j = x % 2 ^ j
  | 0 => by simp [sumB]
  | j + 1 => by
    have ih := sumB_bits h0 j
    have hp : (0 : Int) < 2 ^ j := Int.pow_pos (by decide)
    unfold sumB
    rw [ih, Int.pow_succ]
    have e1 := Int.emod_add_mul_ediv x (2 ^ j)
    have e2 := Int.emod_add_mul_ediv (x / 2 ^ j) 2
    have e3 := Int.emod_nonneg x (show (2 : Int) ^ j ≠ 0 by omega)
    have e4 := Int.emod_lt_of_pos x hp
    have e5 : x = x % 2 ^ j + 2 ^ j * (x / 2 ^ j % 2) + 2 ^ j * 2 * (x / 2 ^ j / 2) := by
      rw [Int.mul_assoc, Int.add_assoc, ← Int.mul_add, e2, e1]
    have e6 : (if bitN x j = true then (2 : Int) ^ j else 0) = 2 ^ j * (x / 2 ^ j % 2) := by
      unfold bitN
      rcases Int.emod_two_eq (x / 2 ^ j) with h | h <;> rw [h] <;> simp
    rw [e6]
    have e7 : 0 ≤ x % 2 ^ j + 2 ^ j * (x / 2 ^ j % 2) ∧ x % 2 ^ j + 2 ^ j * (x / 2 ^ j % 2) < 2 ^ j * 2 := by
      rcases Int.emod_two_eq (x / 2 ^ j) with h | h <;> rw [h] <;> omega
    conv => rhs; rw [e5]
    rw [Int.add_mul_emod_self_left, Int.emod_eq_of_lt e7.1 e7.2]
/-- the words of pulses -/
def wordN (bits : Nat) (ps : List Bool) (k : Nat) : Int := sumB (fun i => ps[k * bits + i]?.getD false) bits
def wordsN (bits n : Nat) (ps : List Bool) : List Int := fstN (wordN bits ps) n
theorem words_pulses {bits : Nat} {ws : List Int} (h : ∀ x ∈ ws, 0 ≤ x ∧ x < 2 ^ bits) : wordsN bits ws.length (pulsesN bits ws) = ws := by
  refine List.ext_getElem? fun k => ?_
  by_cases hk : k < ws.length
  · unfold wordsN
    rw [fstN_get _ hk, List.getElem?_eq_getElem hk]
    obtain ⟨h0, h1⟩ := h ws[k] (List.getElem_mem hk)
    unfold wordN
    rw [sumB_congr (g := bitN ws[k]) bits (fun i hi => by rw [pulsesN_get bits ws k i hk hi, List.getElem?_eq_getElem hk]; rfl), sumB_bits h0, Int.emod_eq_of_lt h0 h1]
  · rw [List.getElem?_eq_none (by unfold wordsN; rw [fstN_length]; omega), List.getElem?_eq_none (by omega)]
/-- pulses that come s beats later -/
def lateP (ps : List Bool) (s : Nat) : List Bool := ps.drop (ps.length - s) ++ ps.take (ps.length - s)
theorem lateP_length (ps : List Bool) (s : Nat) : (lateP ps s).length = ps.length := by
  unfold lateP; rw [List.length_append, List.length_drop, List.length_take]; omega
theorem lateP_get {ps : List Bool} {s k : Nat} (hs : s ≤ ps.length) (hk : k < ps.length) : (lateP ps s)[k]? = if k < s then ps[ps.length - s + k]? else ps[k - s]? := by
  unfold lateP
  split
  · rw [List.getElem?_append_left (by rw [List.length_drop]; omega), List.getElem?_drop]
  · rw [List.getElem?_append_right (by rw [List.length_drop]; omega), List.length_drop, List.getElem?_take, if_pos (by omega)]
    congr 1; omega
/-- the pulses after a round -/
def roundP (l : Ln) (ps : List Bool) (t : Int) : List Bool := if lostL l t = true then List.replicate ps.length false else lateP ps (turnL l (byL l t)).toNat
def roundsP (l : Ln) (ps : List Bool) (ts : List Int) : List Bool := ts.foldl (roundP l) ps
theorem roundP_length (l : Ln) (ps : List Bool) (t : Int) : (roundP l ps t).length = ps.length := by
  unfold roundP; split
  · simp
  · exact lateP_length _ _
theorem roundsP_length (l : Ln) : ∀ (ts : List Int) (ps : List Bool), (roundsP l ps ts).length = ps.length
  | [], _ => rfl
  | t :: ts, ps => by
    show (roundsP l (roundP l ps t) ts).length = _
    rw [roundsP_length l ts, roundP_length]
theorem roundsP_snoc (l : Ln) (ps : List Bool) (ts : List Int) (t : Int) : roundsP l ps (ts ++ [t]) = roundP l (roundsP l ps ts) t := by simp [roundsP]
/-- the error of words -/
def wordsE (l : Ln) (ws : List Int) : Int := if (ws.length : Int) ≠ l.words then 3 else if ws.any (fun n => !inB n 0 (2 ^ l.bits.toNat - 1)) = true then 7 else 0
/-- the first round in which pulses are lost; -1 -/
def atL (l : Ln) (ts : List Int) : Int := idxQ (lostL l) ts
/-- what Pass returns -/
def passX (l : Ln) (ws ts : List Int) : Int :=
  if okL l = false then 7 else if wordsE l ws ≠ 0 then wordsE l ws else if 60 < ts.length then 3 else if ts.any (fun t => !tempB t) = true then 7 else 0
def passW (l : Ln) (ws ts : List Int) : List Int := wordsN l.bits.toNat l.words.toNat (roundsP l (pulsesN l.bits.toNat ws) ts)
def passE (l : Ln) (ws ts : List Int) : List Int × Int × Int := if passX l ws ts = 0 then (passW l ws ts, atL l ts, 0) else ([], 0, passX l ws ts)
/-- the error of a span -/
def spanX (s : Sp) : Int := if tempB s.lo = false ∨ tempB s.hi = false then 7 else if s.hi < s.lo then 2 else 0
end Go.Q
/- Layer 1 in plain Lean: by how many beats words can be late (Can); the states of an oven. -/
namespace Go.Q
/-- the temperatures of a span -/
def tempsS (s : Sp) : List Int := fstN (fun i => s.lo + (i : Int)) (s.hi - s.lo + 1).toNat
theorem mem_tempsS {s : Sp} {t : Int} : t ∈ tempsS s ↔ s.lo ≤ t ∧ t ≤ s.hi := by
  unfold tempsS fstN
  rw [List.mem_map]
  constructor
  · rintro ⟨i, hi, rfl⟩
    rw [List.mem_range] at hi
    omega
  · rintro ⟨h1, h2⟩
    exact ⟨(t - s.lo).toNat, by rw [List.mem_range]; omega, by omega⟩
/-- pulses can be b beats late after a round at a temperature of the span -/
def oneC (l : Ln) (s : Sp) (b : Int) : Bool := (tempsS s).any fun t => !lostL l t && (turnL l (byL l t) == b)
def lostC (l : Ln) (s : Sp) : Bool := (tempsS s).any fun t => lostL l t
def beatsN (l : Ln) : List Int := fstN (fun i => (i : Int)) (beatsL l).toNat
def nextC (l : Ln) (s : Sp) (can : Int → Bool) (x : Int) : Bool := (beatsN l).any fun n => can n && (beatsN l).any fun b => oneC l s b && (turnL l (n + b) == x)
def canC (l : Ln) (ss : List Sp) : Int → Bool := ss.foldl (fun can s => nextC l s can) (fun n => n == 0)
theorem canC_snoc (l : Ln) (ss : List Sp) (s : Sp) : canC l (ss ++ [s]) = nextC l s (canC l ss) := by simp [canC]
def shiftsC (l : Ln) (ss : List Sp) : List Int := (beatsN l).filter (canC l ss)
/-- the error of spans -/
def spansX (ss : List Sp) : Int := match ss with
  | [] => 0
  | s :: ss => if spanX s ≠ 0 then spanX s else spansX ss
def canX (l : Ln) (ss : List Sp) : Int := if okL l = false then 7 else if 60 < ss.length then 3 else spansX ss
/-- what Can returns -/
def canE (l : Ln) (ss : List Sp) : List Int × Bool × Int := if canX l ss = 0 then (shiftsC l ss, ss.any (lostC l), 0) else ([], false, canX l ss)
theorem mem_beatsN {l : Ln} {n : Int} : n ∈ beatsN l ↔ 0 ≤ n ∧ n < beatsL l := by
  unfold beatsN fstN
  rw [List.mem_map]
  constructor
  · rintro ⟨i, hi, rfl⟩
    rw [List.mem_range] at hi
    omega
  · rintro ⟨h1, h2⟩
    exact ⟨n.toNat, by rw [List.mem_range]; omega, by omega⟩
theorem OkL.turn {l : Ln} (h : OkL l) (n : Int) : 0 ≤ turnL l n ∧ turnL l n < beatsL l := by
  have := h.beats
  unfold turnL
  exact ⟨Int.emod_nonneg _ (by omega), Int.emod_lt_of_pos _ (by omega)⟩
theorem canC_in {l : Ln} (h : OkL l) {ss : List Sp} {x : Int} (hx : canC l ss x = true) : 0 ≤ x ∧ x < beatsL l := by
  have hb := h.beats
  rcases List.eq_nil_or_concat ss with rfl | ⟨ss', s, rfl⟩
  · have : x = 0 := by simpa [canC] using hx
    omega
  · rw [List.concat_eq_append, canC_snoc] at hx
    unfold nextC at hx
    obtain ⟨n, _, hn⟩ := List.any_eq_true.1 hx
    rw [Bool.and_eq_true] at hn
    obtain ⟨b, _, hb2⟩ := List.any_eq_true.1 hn.2
    rw [Bool.and_eq_true] at hb2
    have : turnL l (n + b) = x := by simpa using hb2.2
    rw [← this]
    exact h.turn _
theorem oneC_in {l : Ln} (h : OkL l) {s : Sp} {x : Int} (hx : oneC l s x = true) : 0 ≤ x ∧ x < beatsL l := by
  obtain ⟨t, _, ht⟩ := List.any_eq_true.1 hx
  rw [Bool.and_eq_true] at ht
  have : turnL l (byL l t) = x := by simpa using ht.2
  rw [← this]
  exact h.turn _
/-- an oven heats in a minute -/
def heatsO (o : Ov) (t : Int) (h : Bool) : Bool := decide (t < o.low) || (decide (t ≤ o.high) && h)
/-- the states after a minute from a state on -/
def afterO (o : Ov) (s : Int × Bool) : List (Int × Bool) :=
  if heatsO o s.1 s.2 = true then (tempsS o.warm).map fun n => (s.1 + n, true) else (tempsS o.cool).map fun n => (s.1 - n, false)
def statesO (o : Ov) (temp : Sp) (heats : Bool) : Nat → List (Int × Bool)
  | 0 => (tempsS temp).map fun t => (t, heats)
  | m + 1 => (statesO o temp heats m).flatMap (afterO o)
/-- the span of temperatures up to a minute -/
def loO (o : Ov) (temp : Sp) (heats : Bool) : Nat → Int
  | 0 => temp.lo
  | m + 1 => (statesO o temp heats (m + 1)).foldl (fun a s => min a s.1) (loO o temp heats m)
def hiO (o : Ov) (temp : Sp) (heats : Bool) : Nat → Int
  | 0 => temp.hi
  | m + 1 => (statesO o temp heats (m + 1)).foldl (fun a s => max a s.1) (hiO o temp heats m)
def warmB (n : Int) : Bool := inB n 0 100
/-- the error of an oven, of temperatures and of minutes -/
def ovenX (o : Ov) (temp : Sp) (minutes : Int) : Int :=
  if tempB o.low = false ∨ tempB o.high = false ∨ warmB o.warm.lo = false ∨ warmB o.warm.hi = false ∨ warmB o.cool.lo = false ∨ warmB o.cool.hi = false then 7
  else if o.high < o.low ∨ o.warm.hi < o.warm.lo ∨ o.cool.hi < o.cool.lo then 2
  else if spanX temp ≠ 0 then spanX temp else if inB minutes 0 200 = false then 7 else 0
/-- what Oven returns -/
def ovenE (o : Ov) (temp : Sp) (heats : Bool) (minutes : Int) : Sp × Int :=
  if ovenX o temp minutes = 0 then (⟨loO o temp heats minutes.toNat, hiO o temp heats minutes.toNat⟩, 0) else (⟨0, 0⟩, ovenX o temp minutes)
/-- an oven that is valid -/
structure OkO (o : Ov) : Prop where
  low : -500 ≤ o.low ∧ o.low ≤ 1000
  high : -500 ≤ o.high ∧ o.high ≤ 1000
  lh : o.low ≤ o.high
  w0 : 0 ≤ o.warm.lo ∧ o.warm.lo ≤ o.warm.hi ∧ o.warm.hi ≤ 100
  c0 : 0 ≤ o.cool.lo ∧ o.cool.lo ≤ o.cool.hi ∧ o.cool.hi ≤ 100
theorem statesO_bd {o : Ov} (h : OkO o) {temp : Sp} (ht : -500 ≤ temp.lo ∧ temp.hi ≤ 1000) {heats : Bool} : ∀ m, ∀ s ∈ statesO o temp heats m, -600 ≤ s.1 ∧ s.1 ≤ 1100
  | 0, s, hs => by
    obtain ⟨t, h1, rfl⟩ := List.mem_map.1 hs
    rw [mem_tempsS] at h1
    dsimp only
    omega
  | m + 1, s, hs => by
    obtain ⟨s', h1, h2⟩ := List.mem_flatMap.1 hs
    have ih := statesO_bd h ht m s' h1
    unfold afterO at h2
    have h3 := h.low; have h4 := h.high; have h5 := h.w0; have h6 := h.c0; have h7 := h.lh
    split at h2
    · rename_i hh
      obtain ⟨n, h8, rfl⟩ := List.mem_map.1 h2
      rw [mem_tempsS] at h8
      unfold heatsO at hh
      simp only [Bool.or_eq_true, Bool.and_eq_true, decide_eq_true_eq] at hh
      dsimp only
      omega
    · rename_i hh
      obtain ⟨n, h8, rfl⟩ := List.mem_map.1 h2
      rw [mem_tempsS] at h8
      unfold heatsO at hh
      simp only [Bool.or_eq_true, Bool.and_eq_true, decide_eq_true_eq] at hh
      dsimp only
      omega
end Go.Q

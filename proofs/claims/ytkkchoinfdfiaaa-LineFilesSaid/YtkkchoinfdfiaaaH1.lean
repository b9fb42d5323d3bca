/- Layer 1 in plain Lean: the pulses of words, what rounds make of them, the words of pulses. -/
import Derived.Test.YtkkchoinfdfiaaaH0
set_option linter.unusedVariables false
set_option linter.unusedSimpArgs false
namespace Go.Q
/-- bit k of a number -/
def bitN (x : Int) (k : Nat) : Bool := x / 2 ^ k % 2 == 1
/-- the first n of what f gives -/
def fstN {α : Type} (f : Nat → α) (n : Nat) : List α := (List.range n).map f
theorem fstN_succ {α : Type} (f : Nat → α) (n : Nat) : fstN f (n + 1) = fstN f n ++ [f n] := by unfold fstN; rw [List.range_succ, List.map_append]; rfl
theorem fstN_length {α : Type} (f : Nat → α) (n : Nat) : (fstN f n).length = n := by unfold fstN; rw [List.length_map, List.length_range]
theorem fstN_get {α : Type} (f : Nat → α) {n i : Nat} (h : i < n) : (fstN f n)[i]? = some (f i) := by unfold fstN; rw [List.getElem?_map, List.getElem?_range h]; rfl
/-- the pulses of a word, of so many words -/
def pulse1 (bits : Nat) (x : Int) : List Bool := fstN (bitN x) bits
def pulsesN (bits : Nat) (ws : List Int) : List Bool := ws.flatMap (pulse1 bits)
theorem pulse1_length (bits : Nat) (x : Int) : (pulse1 bits x).length = bits := fstN_length _ _
theorem pulsesN_length (bits : Nat) : ∀ ws : List Int, (pulsesN bits ws).length = ws.length * bits
  | [] => by simp [pulsesN]
  | x :: ws => by
    have := pulsesN_length bits ws
    unfold pulsesN at this ⊢
    rw [List.flatMap_cons, List.length_append, this, pulse1_length, List.length_cons, Nat.add_mul]; omega
theorem pulsesN_snoc (bits : Nat) (ws : List Int) (x : Int) : pulsesN bits (ws ++ [x]) = pulsesN bits ws ++ pulse1 bits x := by simp [pulsesN]
/-- pulse k * bits + i is bit i of word k -/
theorem pulsesN_get (bits : Nat) : ∀ (ws : List Int) (k i : Nat), k < ws.length → i < bits → (pulsesN bits ws)[k * bits + i]? = some (bitN (ws[k]?.getD 0) i)
  | [], k, i, hk, _ => by simp at hk
  | x :: ws, 0, i, _, hi => by
    unfold pulsesN
    rw [List.flatMap_cons, List.getElem?_append_left (by rw [pulse1_length]; omega)]
    have e := fstN_get (bitN x) hi
    simpa [pulse1] using e
  | x :: ws, k + 1, i, hk, hi => by
    have ih := pulsesN_get bits ws k i (by simpa using hk) hi
    unfold pulsesN at ih ⊢
    rw [List.flatMap_cons, List.getElem?_append_right (by rw [pulse1_length, Nat.add_mul]; omega), pulse1_length, show (k + 1) * bits + i - bits = k * bits + i by rw [Nat.add_mul]; omega, ih]
    simp
/-- the number of the first j bits -/
def sumB (f : Nat → Bool) : Nat → Int
  | 0 => 0
  | j + 1 => sumB f j + (if f j = true then 2 ^ j else 0)
theorem sumB_bd (f : Nat → Bool) : ∀ j, 0 ≤ sumB f j ∧ sumB f j < 2 ^ j
  | 0 => by simp [sumB]
  | j + 1 => by
    have ih := sumB_bd f j
    have h2 : (0 : Int) ≤ 2 ^ j := by have := Int.pow_pos (n := 2) (m := j) (by decide); omega
    unfold sumB
    rw [Int.pow_succ]
    split <;> omega
theorem sumB_congr {f g : Nat → Bool} : ∀ j, (∀ i, i < j → f i = g i) → sumB f j = sumB g j
  | 0, _ => rfl
  | j + 1, h => by unfold sumB; rw [sumB_congr j (fun i hi => h i (by omega)), h j (by omega)]
theorem sumB_bits {x : Int} (h0 : 0 ≤ x) : ∀ j, sumB (bitN x) j = x % 2 ^ j
  | 0 => by simp [sumB]
  | j + 1 => by
    have ih := sumB_bits h0 j
    have hp : (0 : Int) < 2 ^ j := Int.pow_pos (by decide)
    unfold sumB
    rw [ih, Int.pow_succ]
    have e1 := Int.emod_add_mul_ediv x (2 ^ j)
    have e2 := Int.emod_add_mul_ediv (x / 2 ^ j) 2
    have e3 := Int.emod_nonneg x (show (2 : Int) ^ j ≠ 0 by omega)
    have e4 := Int.emod_lt_of_pos x hp
    have e5 : x = x % 2 ^ j + 2 ^ j * (x / 2 ^ j % 2) + 2 ^ j * 2 * (x / 2 ^ j / 2) := by
      rw [Int.mul_assoc, Int.add_assoc, ← Int.mul_add, e2, e1]
    have e6 : (if bitN x j = true then (2 : Int) ^ j else 0) = 2 ^ j * (x / 2 ^ j % 2) := by
      unfold bitN
      rcases Int.emod_two_eq (x / 2 ^ j) with h | h <;> rw [h] <;> simp
    rw [e6]
    have e7 : 0 ≤ x % 2 ^ j + 2 ^ j * (x / 2 ^ j % 2) ∧ x % 2 ^ j + 2 ^ j * (x / 2 ^ j % 2) < 2 ^ j * 2 := by
      rcases Int.emod_two_eq (x / 2 ^ j) with h | h <;> rw [h] <;> omega
    conv => rhs; rw [e5]
    rw [Int.add_mul_emod_self_left, Int.emod_eq_of_lt e7.1 e7.2]
/-- the words of pulses -/
def wordN (bits : Nat) (ps : List Bool) (k : Nat) : Int := sumB (fun i => ps[k * bits + i]?.getD false) bits
def wordsN (bits n : Nat) (ps : List Bool) : List Int := fstN (wordN bits ps) n
theorem words_pulses {bits : Nat} {ws : List Int} (h : ∀ x ∈ ws, 0 ≤ x ∧ x < 2 ^ bits) : wordsN bits ws.length (pulsesN bits ws) = ws := by
  refine List.ext_getElem? fun k => ?_
  by_cases hk : k < ws.length
  · unfold wordsN
    rw [fstN_get _ hk, List.getElem?_eq_getElem hk]
    obtain ⟨h0, h1⟩ := h ws[k] (List.getElem_mem hk)
    unfold wordN
    rw [sumB_congr (g := bitN ws[k]) bits (fun i hi => by rw [pulsesN_get bits ws k i hk hi, List.getElem?_eq_getElem hk]; rfl), sumB_bits h0, Int.emod_eq_of_lt h0 h1]
  · rw [List.getElem?_eq_none (by unfold wordsN; rw [fstN_length]; omega), List.getElem?_eq_none (by omega)]
/-- pulses that come s beats later -/
def lateP (ps : List Bool) (s : Nat) : List Bool := ps.drop (ps.length - s) ++ ps.take (ps.length - s)
theorem lateP_length (ps : List Bool) (s : Nat) : (lateP ps s).length = ps.length := by
  unfold lateP; rw [List.length_append, List.length_drop, List.length_take]; omega
theorem lateP_get {ps : List Bool} {s k : Nat} (hs : s ≤ ps.length) (hk : k < ps.length) : (lateP ps s)[k]? = if k < s then ps[ps.length - s + k]? else ps[k - s]? := by
  unfold lateP
  split
  · rw [List.getElem?_append_left (by rw [List.length_drop]; omega), List.getElem?_drop]
  · rw [List.getElem?_append_right (by rw [List.length_drop]; omega), List.length_drop, List.getElem?_take, if_pos (by omega)]
    congr 1; omega
/-- the pulses after a round -/
def roundP (l : Ln) (ps : List Bool) (t : Int) : List Bool := if lostL l t = true then List.replicate ps.length false else lateP ps (turnL l (byL l t)).toNat
def roundsP (l : Ln) (ps : List Bool) (ts : List Int) : List Bool := ts.foldl (roundP l) ps
theorem roundP_length (l : Ln) (ps : List Bool) (t : Int) : (roundP l ps t).length = ps.length := by
  unfold roundP; split
  · simp
  · exact lateP_length _ _
theorem roundsP_length (l : Ln) : ∀ (ts : List Int) (ps : List Bool), (roundsP l ps ts).length = ps.length
  | [], _ => rfl
  | t :: ts, ps => by
    show (roundsP l (roundP l ps t) ts).length = _
    rw [roundsP_length l ts, roundP_length]
theorem roundsP_snoc (l : Ln) (ps : List Bool) (ts : List Int) (t : Int) : roundsP l ps (ts ++ [t]) = roundP l (roundsP l ps ts) t := by simp [roundsP]
/-- the error of words -/
def wordsE (l : Ln) (ws : List Int) : Int := if (ws.length : Int) ≠ l.words then 3 else if ws.any (fun n => !inB n 0 (2 ^ l.bits.toNat - 1)) = true then 7 else 0
/-- the first round in which pulses are lost; -1 -/
def atL (l : Ln) (ts : List Int) : Int := idxQ (lostL l) ts
/-- what Pass returns -/
def passX (l : Ln) (ws ts : List Int) : Int :=
  if okL l = false then 7 else if wordsE l ws ≠ 0 then wordsE l ws else if 60 < ts.length then 3 else if ts.any (fun t => !tempB t) = true then 7 else 0
def passW (l : Ln) (ws ts : List Int) : List Int := wordsN l.bits.toNat l.words.toNat (roundsP l (pulsesN l.bits.toNat ws) ts)
def passE (l : Ln) (ws ts : List Int) : List Int × Int × Int := if passX l ws ts = 0 then (passW l ws ts, atL l ts, 0) else ([], 0, passX l ws ts)
/-- the error of a span -/
def spanX (s : Sp) : Int := if tempB s.lo = false ∨ tempB s.hi = false then 7 else if s.hi < s.lo then 2 else 0
end Go.Q

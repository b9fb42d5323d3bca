import Derived.Test.YtnhpcoagkmgdoaaX3
set_option linter.unusedVariables false
set_option linter.unusedSimpArgs false
/- Layer 4 in plain Lean: a run that has ended stays; runs one after the other are one run; what a run leaves. -/
namespace Go.Q
theorem runQ_end {s : St} (h : s.why ≠ 0) : ∀ n, runQ n s = s
 | 0 => rfl
 | n + 1 => by simp [runQ, h]
theorem runQ_add (a : Nat) : ∀ (b : Nat) (s : St), runQ (a + b) s = runQ b (runQ a s)
 | 0, s => rfl
 | b + 1, s => by
  rw [← Nat.add_assoc, runQ_snoc (a + b) s, runQ_snoc b (runQ a s), runQ_add a b s]
theorem stepQ_done (s : St) : (whyAt s = 0 ∧ (stepQ s).done = s.done + 1 ∧ (stepQ s).time = untilAt s) ∨ (whyAt s ≠ 0 ∧ stepQ s = { s with why := whyAt s }) := by
 by_cases h : whyAt s = 0
 ·exact .inl ⟨h, by unfold stepQ; rw [if_pos h], by unfold stepQ; rw [if_pos h]⟩
 ·exact .inr ⟨h, by unfold stepQ; rw [if_neg h]⟩
theorem runQ_done : ∀ (n : Nat) (s : St), s.done ≤ (runQ n s).done ∧ (runQ n s).done ≤ s.done + n ∧ s.time ≤ (runQ n s).time ∧ ((runQ n s).why = 0 → (runQ n s).done = s.done + n)
 | 0, s => by
  show s.done ≤ s.done ∧ s.done ≤ s.done + ((0 : Nat) : Int) ∧ s.time ≤ s.time ∧ (s.why = 0 → s.done = s.done + ((0 : Nat) : Int))
  omega
 | n + 1, s => by
  obtain ⟨h1, h2, h3, h4⟩ := runQ_done n s
  rw [runQ_snoc]
  by_cases h : (runQ n s).why = 0
  ·rw [if_pos h]
   have h4' := h4 h
   rcases stepQ_done (runQ n s) with ⟨hw, hd, ht⟩ | ⟨hw, he⟩
   ·rw [hd, ht]
    have hu := (until_bd (ordAt (runQ n s)) (runQ n s).time (negAt (runQ n s))).1
    have hu' : (runQ n s).time + 2 ≤ untilAt (runQ n s) := hu
    refine ⟨by omega, by omega, by omega, fun _ => by omega⟩
   ·rw [he]
    exact ⟨h1, by show (runQ n s).done ≤ _; omega, h3, fun c => absurd c hw⟩
  ·rw [if_neg h]
   exact ⟨h1, by omega, h3, fun c => absurd c h⟩
theorem idxQ_none {p : Int → Bool} {xs : List Int} (h : ∀ x ∈ xs, p x = false) : ¬ 0 ≤ idxQ p xs := by
 have e := idxQ_nonneg p xs
 have : xs.any p = false := List.any_eq_false.2 (fun x hx => by simp [h x hx])
 rw [this] at e
 exact of_decide_eq_false e
theorem check_of_valid {s : St} (h : Valid s) : checkQ s = (0, 0, 0) := by
 have bw : ∀ {xs : List Int}, (∀ x ∈ xs, 0 ≤ x ∧ x ≤ 16777215) → ¬ 0 ≤ idxQ badW xs := fun hx => idxQ_none (fun x hm => by
  have := hx x hm
  simp only [badW, wordB, inB, Bool.not_eq_false', Bool.and_eq_true, decide_eq_true_eq]
  exact this)
 have hl : lensB s = true := by
  simp only [lensB, Bool.and_eq_true, beq_iff_eq, decide_eq_true_eq]
  exact ⟨⟨h.len, h.tlen⟩, h.plen⟩
 have hf : fieldsB s = true := by
  simp only [fieldsB, addrB, inB, Bool.and_eq_true, decide_eq_true_eq]
  exact ⟨⟨⟨⟨h.taken, h.time⟩, h.at_⟩, h.done⟩, h.why⟩
 unfold checkQ
 rw [if_neg (by simp [hl]), if_neg (bw h.ws), if_neg (bw h.wt), if_neg (bw h.wp), if_neg (by simp [hf]), if_neg (by simpa using h.place)]
theorem asked_of_valid {s : St} (h : Valid s) {most : Int} (hm : 0 ≤ most ∧ most ≤ 5000) : askedQ s most = 0 := by
 have hi : inB most 0 5000 = true := by simp only [inB, Bool.and_eq_true, decide_eq_true_eq]; exact hm
 unfold askedQ
 rw [check_of_valid h, if_neg (by simp), if_pos hi]
end Go.Q
/- Layer 10 (dump) in plain Lean: rows, blocks, tapes; what Punch and Read return. No program in sight. -/
namespace Go.Q
/-- how many of the lowest k bits are ones -/
def onesN (n : Nat) : Nat → Nat
 | 0 => 0
 | k + 1 => onesN n k + (if n.testBit k = true then 1 else 0)
/-- an odd number of holes among seven -/
def oddP (r : Nat) : Bool := onesN r 7 % 2 == 1
/-- the row of six places -/
def oddR (n : Nat) : Nat := if oddP (n % 64) = true then n % 64 else n % 64 + 64
/-- in which places an odd number of rows has a hole -/
def chk (rs : List Nat) : Nat := rs.foldl (· ^^^ ·) 0 % 64
/-- row j of a word -/
def rowW (n : Int) (j : Nat) : Nat := oddR (n.toNat / 64 ^ j)
def rowsW (n : Int) : List Nat := [rowW n 0, rowW n 1, rowW n 2, rowW n 3]
def blockW (ws : List Int) : List Nat := ws.flatMap rowsW ++ [oddR (chk (ws.flatMap rowsW))]
/-- words, filled up to whole blocks -/
def padW (ws : List Int) : List Int := ((ws.length : Int) :: ws) ++ List.replicate ((16 - (ws.length + 1) % 16) % 16) 0
/-- the blocks of 16 words -/
def chunksW (all : List Int) : List (List Int) := (List.range (all.length / 16)).map fun i => (all.drop (16 * i)).take 16
def tapeW (ws : List Int) : List Nat := (chunksW (padW ws)).flatMap blockW
/-- what Punch returns -/
def punchX (ws : List Int) : Int := if 560 < ws.length then 3 else if ws.any badW = true then 7 else 0
def punchE (ws : List Int) : List Nat × Int := if punchX ws = 0 then (tapeW ws, 0) else ([], punchX ws)
/-- the rows with an even number of holes -/
def evs (b : List Nat) : List Nat := (List.range b.length).filter fun i => !oddP (b[i]?.getD 0)
/-- what is turned over in a row -/
def turnM (b : List Nat) : Nat := if chk b = 0 then 64 else chk b
/-- the row in which a bit is mended (-1: none), whether all is fine, and the block then -/
def mendB (b : List Nat) : Int × Bool × List Nat :=
 match evs b with
 | [] => (-1, chk b == 0, b)
 | [r] => if 1 < onesN (chk b) 6 then (0, false, b) else ((r : Int), true, b.set r (b[r]?.getD 0 ^^^ turnM b))
 | _ => (0, false, b)
/-- the word of four rows -/
def wordR (b : List Nat) (k : Nat) : Int := (((b[4 * k]?.getD 0 % 64) + 64 * (b[4 * k + 1]?.getD 0 % 64) + 4096 * (b[4 * k + 2]?.getD 0 % 64) + 262144 * (b[4 * k + 3]?.getD 0 % 64) : Nat) : Int)
def wordsB (b : List Nat) : List Int := (List.range 16).map (wordR b)
/-- block i of rows -/
def blk (rs : List Nat) (i : Nat) : List Nat := (rs.drop (65 * i)).take 65
def fineB (rs : List Nat) (i : Nat) : Bool := (mendB (blk rs i)).2.1
/-- the mended rows, the right rows, and the words of the first n blocks -/
def mendedN (rs : List Nat) (n : Nat) : List Int := (List.range n).flatMap fun i => if 0 ≤ (mendB (blk rs i)).1 then [(65 * i : Nat) + (mendB (blk rs i)).1] else []
def rightN (rs : List Nat) (n : Nat) : List Nat := (List.range n).flatMap fun i => (mendB (blk rs i)).2.2
def wordsN10 (rs : List Nat) (n : Nat) : List Int := (List.range n).flatMap fun i => wordsB (mendB (blk rs i)).2.2
def firstBad (rs : List Nat) : Option Nat := (List.range (rs.length / 65)).find? fun i => !fineB rs i
/-- the words behind the first one -/
def bodyR (rs : List Nat) : List Int := (wordsN10 rs (rs.length / 65)).drop 1
def manyR (rs : List Nat) : Int := (wordsN10 rs (rs.length / 65))[0]?.getD 0
def readX (rs : List Nat) : Int :=
 if 2400 < rs.length then 3
 else if rs.length = 0 ∨ rs.length % 65 ≠ 0 ∨ rs.any (fun r => decide (127 < r)) = true then 6
 else match firstBad rs with
  | some _ => 200
  | none => if 560 < manyR rs ∨ ((bodyR rs).length : Int) < manyR rs then 6 else if tapeW ((bodyR rs).take (manyR rs).toNat) = rightN rs (rs.length / 65) then 0 else 6
/-- what Read returns: words, the rows that were mended, the block, the error -/
def readE (rs : List Nat) : List Int × List Int × Int × Int :=
 if readX rs = 0 then ((bodyR rs).take (manyR rs).toNat, mendedN rs (rs.length / 65), 0, 0)
 else if readX rs = 200 then ([], [], ((firstBad rs).getD 0 : Nat), 200)
 else ([], [], 0, readX rs)
end Go.Q
/- Layer 10 in plain Lean: rows and blocks: what one wrong hole does to a block, and how it is mended. -/
namespace Go.Q
theorem onesN_xor (a b : Nat) : ∀ k, onesN (a ^^^ b) k % 2 = (onesN a k + onesN b k) % 2
 | 0 => rfl
 | k + 1 => by
  have ih := onesN_xor a b k
  unfold onesN
  rw [Nat.testBit_xor]
  cases a.testBit k <;> cases b.testBit k <;> simp <;> omega
theorem oddP_xor (a b : Nat) : oddP (a ^^^ b) = (oddP a != oddP b) := by
 have h := onesN_xor a b 7
 unfold oddP
 rcases Nat.mod_two_eq_zero_or_one (onesN a 7) with ha | ha <;> rcases Nat.mod_two_eq_zero_or_one (onesN b 7) with hb | hb <;> rw [ha, hb, show onesN (a ^^^ b) 7 % 2 = _ from h] <;> simp [Nat.add_mod, ha, hb]
theorem oddR_facts : ∀ x : Fin 64, (oddR x.1 < 128 ∧ oddP (oddR x.1) = true) ∧ oddR x.1 % 64 = x.1 := by decide
theorem oddR_mod (n : Nat) : oddR n = oddR (n % 64) := by unfold oddR; rw [Nat.mod_mod]
theorem oddR_lt (n : Nat) : oddR n < 128 := by rw [oddR_mod]; exact (oddR_facts ⟨n % 64, Nat.mod_lt _ (by decide)⟩).1.1
theorem oddR_odd (n : Nat) : oddP (oddR n) = true := by rw [oddR_mod]; exact (oddR_facts ⟨n % 64, Nat.mod_lt _ (by decide)⟩).1.2
theorem oddR_low (n : Nat) : oddR n % 64 = n % 64 := by rw [oddR_mod]; exact (oddR_facts ⟨n % 64, Nat.mod_lt _ (by decide)⟩).2
/-- the exclusive or of rows -/
def xorL (rs : List Nat) : Nat := rs.foldl (· ^^^ ·) 0
theorem foldl_xor : ∀ (rs : List Nat) (a : Nat), rs.foldl (· ^^^ ·) a = a ^^^ xorL rs
 | [], a => by simp [xorL]
 | r :: rs, a => by
  unfold xorL
  rw [List.foldl_cons, List.foldl_cons, foldl_xor rs, foldl_xor rs, Nat.zero_xor, Nat.xor_assoc]
theorem xorL_cons (r : Nat) (rs : List Nat) : xorL (r :: rs) = r ^^^ xorL rs := by
 unfold xorL
 rw [List.foldl_cons, foldl_xor, Nat.zero_xor]
 rfl
theorem xorL_append (a b : List Nat) : xorL (a ++ b) = xorL a ^^^ xorL b := by
 unfold xorL
 rw [List.foldl_append, foldl_xor]
 rfl
theorem xorL_set : ∀ (rs : List Nat) (i v : Nat), i < rs.length → xorL (rs.set i v) = xorL rs ^^^ (rs[i]?.getD 0) ^^^ v
 | [], i, v, h => absurd h (by simp)
 | r :: rs, 0, v, _ => by
  rw [List.set_cons_zero, xorL_cons, xorL_cons]
  show v ^^^ xorL rs = r ^^^ xorL rs ^^^ r ^^^ v
  rw [Nat.xor_comm r (xorL rs), Nat.xor_assoc (xorL rs) r r, Nat.xor_self, Nat.xor_zero, Nat.xor_comm]
 | r :: rs, i + 1, v, h => by
  rw [List.set_cons_succ, xorL_cons, xorL_cons, xorL_set rs i v (by simpa using h)]
  show r ^^^ (xorL rs ^^^ rs[i]?.getD 0 ^^^ v) = r ^^^ xorL rs ^^^ rs[i]?.getD 0 ^^^ v
  rw [← Nat.xor_assoc, ← Nat.xor_assoc]
theorem chk_xorL (rs : List Nat) : chk rs = xorL rs % 64 := rfl
theorem xor_mod64 (a b : Nat) : (a ^^^ b) % 64 = (a % 64) ^^^ (b % 64) := by
 have := Nat.xor_mod_two_pow (a := a) (b := b) (n := 6)
 simpa using this
/-- a block as it should be: each row has an odd number of holes, each place an even one -/
structure GoodB (b : List Nat) : Prop where
 len : b.length = 65
 odd : ∀ r ∈ b, oddP r = true
 lt : ∀ r ∈ b, r < 128
 chk : chk b = 0
theorem GoodB.evs {b : List Nat} (h : GoodB b) : evs b = [] := by
 unfold Go.Q.evs
 rw [List.filter_eq_nil_iff]
 intro i hi
 have hi2 := List.mem_range.1 hi
 rw [List.getElem?_eq_getElem hi2]
 have := h.odd _ (List.getElem_mem hi2)
 simp [this]
theorem GoodB.mend {b : List Nat} (h : GoodB b) : mendB b = (-1, true, b) := by
 unfold mendB
 rw [h.evs, h.chk]
 rfl
theorem oddP_two : ∀ p : Fin 7, oddP (2 ^ p.1) = true ∧ (2 ^ p.1 % 64 = 0 ↔ p.1 = 6) ∧ onesN (2 ^ p.1 % 64) 6 ≤ 1 ∧ (if 2 ^ p.1 % 64 = 0 then 64 else 2 ^ p.1 % 64) = 2 ^ p.1 := by decide
/-- a block with one wrong hole -/
def flipB (b : List Nat) (r p : Nat) : List Nat := b.set r (b[r]?.getD 0 ^^^ 2 ^ p)
theorem GoodB.flip_chk {b : List Nat} (h : GoodB b) {r p : Nat} (hr : r < 65) : Go.Q.chk (flipB b r p) = 2 ^ p % 64 := by
 unfold flipB
 rw [chk_xorL, xorL_set _ _ _ (by rw [h.len]; exact hr)]
 have h0 := h.chk
 rw [chk_xorL] at h0
 rw [Nat.xor_assoc, ← Nat.xor_assoc (b[r]?.getD 0), Nat.xor_self, Nat.zero_xor, xor_mod64, h0, Nat.zero_xor]
theorem filter_one {p : Nat → Bool} {n r : Nat} (hr : r < n) (h1 : p r = true) (h2 : ∀ i, i < n → i ≠ r → p i = false) : (List.range n).filter p = [r] := by
 induction n with
 | zero => omega
 | succ n ih =>
  rw [List.range_succ, List.filter_append]
  by_cases e : r = n
  ·subst e
   have : (List.range r).filter p = [] := by
    rw [List.filter_eq_nil_iff]
    intro i hi
    have := List.mem_range.1 hi
    rw [h2 i (by omega) (by omega)]
    simp
   rw [this]
   simp [h1]
  ·rw [ih (by omega) (fun i hi he => h2 i (by omega) he)]
   simp [h2 n (by omega) (fun e2 => e e2.symm)]
theorem GoodB.flip_evs {b : List Nat} (h : GoodB b) {r p : Nat} (hr : r < 65) (hp : p < 7) : Go.Q.evs (flipB b r p) = [r] := by
 unfold Go.Q.evs flipB
 have hrb : r < b.length := by rw [h.len]; exact hr
 rw [List.length_set]
 refine filter_one hrb ?_ fun i hi he => ?_
 ·rw [List.getElem?_set_self hrb, Option.getD_some, oddP_xor, List.getElem?_eq_getElem hrb, Option.getD_some, h.odd _ (List.getElem_mem hrb), (oddP_two ⟨p, hp⟩).1]
  rfl
 ·rw [List.getElem?_set_ne (fun e => he e.symm), List.getElem?_eq_getElem hi, Option.getD_some, h.odd _ (List.getElem_mem hi)]
  rfl
theorem GoodB.mend_flip {b : List Nat} (h : GoodB b) {r p : Nat} (hr : r < 65) (hp : p < 7) : mendB (flipB b r p) = ((r : Int), true, b) := by
 have hrb : r < b.length := by rw [h.len]; exact hr
 have h2 := oddP_two ⟨p, hp⟩
 have h3 : onesN (2 ^ p % 64) 6 ≤ 1 := h2.2.2.1
 have h4 : (if 2 ^ p % 64 = 0 then 64 else 2 ^ p % 64) = 2 ^ p := h2.2.2.2
 unfold mendB
 rw [h.flip_evs hr hp]
 dsimp only
 rw [h.flip_chk hr, if_neg (by omega)]
 have e : turnM (flipB b r p) = 2 ^ p := by
  unfold turnM
  rw [h.flip_chk hr]
  exact h4
 rw [e]
 congr 2
 unfold flipB
 rw [List.getElem?_set_self hrb, Option.getD_some, List.set_set, Nat.xor_assoc, Nat.xor_self, Nat.xor_zero, List.getElem?_eq_getElem hrb, Option.getD_some, List.set_getElem_self]
theorem two_apart : ∀ p q : Fin 7, p ≠ q → (2 ^ p.1 ^^^ 2 ^ q.1) % 64 ≠ 0 := by decide
/-- two wrong holes are noticed -/
theorem GoodB.mend_two {b : List Nat} (h : GoodB b) {r p r2 p2 : Nat} (hr : r < 65) (hp : p < 7) (hr2 : r2 < 65) (hp2 : p2 < 7) (hne : ¬ (r = r2 ∧ p = p2)) : (mendB (flipB (flipB b r p) r2 p2)).2.1 = false := by
 have hrb : r < b.length := by rw [h.len]; exact hr
 have hrb2 : r2 < b.length := by rw [h.len]; exact hr2
 by_cases hrr : r = r2
 ·subst hrr
  have hpp : p ≠ p2 := fun e => hne ⟨rfl, e⟩
  have he : flipB (flipB b r p) r p2 = b.set r (b[r]?.getD 0 ^^^ (2 ^ p ^^^ 2 ^ p2)) := by
   unfold flipB
   rw [List.getElem?_set_self hrb, Option.getD_some, List.set_set, Nat.xor_assoc]
  have hq := two_apart ⟨p, hp⟩ ⟨p2, hp2⟩ (fun e => hpp (by injection e))
  have hev : Go.Q.evs (flipB (flipB b r p) r p2) = [] := by
   rw [he]
   unfold Go.Q.evs
   rw [List.filter_eq_nil_iff, List.length_set]
   intro i hi
   have hi2 := List.mem_range.1 hi
   by_cases e : i = r
   ·subst e
    rw [List.getElem?_set_self hrb, Option.getD_some, oddP_xor, oddP_xor, (oddP_two ⟨p, hp⟩).1, (oddP_two ⟨p2, hp2⟩).1, List.getElem?_eq_getElem hrb, Option.getD_some, h.odd _ (List.getElem_mem hrb)]
    simp
   ·rw [List.getElem?_set_ne (fun e2 => e e2.symm), List.getElem?_eq_getElem hi2, Option.getD_some, h.odd _ (List.getElem_mem hi2)]
    simp
  have hck : Go.Q.chk (flipB (flipB b r p) r p2) ≠ 0 := by
   rw [he, chk_xorL, xorL_set _ _ _ hrb]
   have h0 := h.chk
   rw [chk_xorL] at h0
   rw [Nat.xor_assoc, ← Nat.xor_assoc (b[r]?.getD 0), Nat.xor_self, Nat.zero_xor, xor_mod64, h0, Nat.zero_xor]
   exact hq
  unfold mendB
  rw [hev]
  simpa using hck
 ·have hm : ∀ x, (x = r ∨ x = r2) → x ∈ Go.Q.evs (flipB (flipB b r p) r2 p2) := by
   intro x hx
   unfold Go.Q.evs flipB
   rw [List.mem_filter, List.length_set, List.length_set, List.mem_range]
   rcases hx with rfl | rfl
   ·refine ⟨hrb, ?_⟩
    rw [List.getElem?_set_ne (fun e => hrr e.symm), List.getElem?_set_self hrb, Option.getD_some, oddP_xor, (oddP_two ⟨p, hp⟩).1, List.getElem?_eq_getElem hrb, Option.getD_some, h.odd _ (List.getElem_mem hrb)]
    rfl
   ·refine ⟨hrb2, ?_⟩
    rw [List.getElem?_set_self (by rw [List.length_set]; exact hrb2), Option.getD_some, List.getElem?_set_ne hrr, oddP_xor, (oddP_two ⟨p2, hp2⟩).1, List.getElem?_eq_getElem hrb2, Option.getD_some, h.odd _ (List.getElem_mem hrb2)]
    rfl
  have h1 := hm r (.inl rfl)
  have h2 := hm r2 (.inr rfl)
  unfold mendB
  generalize Go.Q.evs (flipB (flipB b r p) r2 p2) = es at *
  match es, h1, h2 with
  | [], h1, _ => simp at h1
  | [x], h1, h2 =>
   rw [List.mem_singleton] at h1 h2
   exact absurd (h1.trans h2.symm) hrr
  | _ :: _ :: _, _, _ => rfl
end Go.Q
/- Layer 10 in plain Lean: tapes: what Read makes of the tape of words, with at most one wrong hole in each block. -/
namespace Go.Q
theorem flat4_len : ∀ ws : List Int, (ws.flatMap rowsW).length = 4 * ws.length
 | [] => rfl
 | w :: ws => by
  rw [List.flatMap_cons, List.length_append, flat4_len ws, List.length_cons]
  show 4 + 4 * ws.length = _
  omega
theorem blockW_len {ws : List Int} (h : ws.length = 16) : (blockW ws).length = 65 := by
 unfold blockW
 rw [List.length_append, flat4_len, h]
 rfl
theorem flat4_mem {ws : List Int} {r : Nat} (h : r ∈ ws.flatMap rowsW) : ∃ n j, r = rowW n j := by
 rw [List.mem_flatMap] at h
 obtain ⟨n, _, hr⟩ := h
 unfold rowsW at hr
 simp only [List.mem_cons, List.not_mem_nil, or_false] at hr
 rcases hr with h | h | h | h
 ·exact ⟨n, 0, h⟩
 ·exact ⟨n, 1, h⟩
 ·exact ⟨n, 2, h⟩
 ·exact ⟨n, 3, h⟩
theorem blockW_mem {ws : List Int} {r : Nat} (h : r ∈ blockW ws) : ∃ n, r = oddR n := by
 unfold blockW at h
 rw [List.mem_append, List.mem_singleton] at h
 rcases h with h | h
 ·obtain ⟨n, j, e⟩ := flat4_mem h
  exact ⟨_, e⟩
 ·exact ⟨_, h⟩
theorem good_block {ws : List Int} (h : ws.length = 16) : GoodB (blockW ws) where
 len := blockW_len h
 odd := fun r hr => by obtain ⟨n, rfl⟩ := blockW_mem hr; exact oddR_odd n
 lt := fun r hr => by obtain ⟨n, rfl⟩ := blockW_mem hr; exact oddR_lt n
 chk := by
  unfold blockW
  rw [chk_xorL, xorL_append, xor_mod64]
  have e : xorL [oddR (chk (ws.flatMap rowsW))] % 64 = xorL (ws.flatMap rowsW) % 64 := by
   show (0 ^^^ oddR (chk (ws.flatMap rowsW))) % 64 = _
   rw [Nat.zero_xor, oddR_low, chk_xorL, Nat.mod_mod]
  rw [e, Nat.xor_self]
theorem flat4_get : ∀ (ws : List Int) (k j : Nat), k < ws.length → j < 4 → (ws.flatMap rowsW)[4 * k + j]? = some (rowW (ws[k]?.getD 0) j)
 | [], k, j, h, _ => absurd h (by simp)
 | w :: ws, 0, j, _, hj => by
  rw [List.flatMap_cons, List.getElem?_append_left (by show 4 * 0 + j < 4; omega)]
  match j, hj with
  | 0, _ => rfl
  | 1, _ => rfl
  | 2, _ => rfl
  | 3, _ => rfl
 | w :: ws, k + 1, j, h, hj => by
  have ih := flat4_get ws k j (by simpa using h) hj
  rw [List.flatMap_cons, List.getElem?_append_right (by show 4 ≤ 4 * (k + 1) + j; omega), show 4 * (k + 1) + j - (rowsW w).length = 4 * k + j by show 4 * (k + 1) + j - 4 = _; omega, ih]
  rfl
theorem blockW_get {ws : List Int} {k j : Nat} (hk : k < ws.length) (hj : j < 4) : (blockW ws)[4 * k + j]?.getD 0 = rowW (ws[k]?.getD 0) j := by
 unfold blockW
 rw [List.getElem?_append_left (by rw [flat4_len]; omega), flat4_get ws k j hk hj]
 rfl
theorem word_back {n : Int} (h0 : 0 ≤ n) (h1 : n ≤ 16777215) : ((((rowW n 0 % 64) + 64 * (rowW n 1 % 64) + 4096 * (rowW n 2 % 64) + 262144 * (rowW n 3 % 64) : Nat)) : Int) = n := by
 obtain ⟨m, rfl⟩ := Int.eq_ofNat_of_zero_le h0
 unfold rowW
 rw [oddR_low, oddR_low, oddR_low, oddR_low, Int.toNat_natCast]
 have hm : m < 16777216 := by omega
 show (((m / 64 ^ 0 % 64) + 64 * (m / 64 ^ 1 % 64) + 4096 * (m / 64 ^ 2 % 64) + 262144 * (m / 64 ^ 3 % 64) : Nat) : Int) = m
 rw [show (64 : Nat) ^ 0 = 1 from rfl, show (64 : Nat) ^ 1 = 64 from rfl, show (64 : Nat) ^ 2 = 4096 from rfl, show (64 : Nat) ^ 3 = 262144 from rfl]
 congr 1
 omega
def wordOk (ws : List Int) : Prop := ∀ x ∈ ws, 0 ≤ x ∧ x ≤ 16777215
theorem wordsB_block {ws : List Int} (h : ws.length = 16) (hw : wordOk ws) : wordsB (blockW ws) = ws := by
 refine List.ext_getElem? fun k => ?_
 unfold wordsB
 by_cases hk : k < 16
 ·rw [List.getElem?_map, List.getElem?_range hk, Option.map_some]
  have hk2 : k < ws.length := by omega
  have hx := hw _ (List.getElem_mem hk2)
  have e : ws[k]?.getD 0 = ws[k] := by rw [List.getElem?_eq_getElem hk2]; rfl
  rw [List.getElem?_eq_getElem hk2]
  congr 1
  unfold wordR
  have e0 := blockW_get (j := 0) hk2 (by decide)
  rw [Nat.add_zero] at e0
  rw [e0, blockW_get (j := 1) hk2 (by decide), blockW_get (j := 2) hk2 (by decide), blockW_get (j := 3) hk2 (by decide), e]
  exact word_back hx.1 hx.2
 ·rw [List.getElem?_eq_none (by rw [List.length_map, List.length_range]; omega), List.getElem?_eq_none (by omega)]
theorem pad_mod (ws : List Int) : (padW ws).length % 16 = 0 := by
 unfold padW
 rw [List.length_append, List.length_cons, List.length_replicate]
 omega
theorem pad_len (ws : List Int) : ws.length + 1 ≤ (padW ws).length ∧ (padW ws).length ≤ ws.length + 16 := by
 unfold padW
 rw [List.length_append, List.length_cons, List.length_replicate]
 omega
theorem pad_ok {ws : List Int} (h : wordOk ws) (hl : ws.length ≤ 16777215) : wordOk (padW ws) := by
 intro x hx
 unfold padW at hx
 rw [List.mem_append, List.mem_cons, List.mem_replicate] at hx
 rcases hx with (rfl | hx) | ⟨_, rfl⟩
 ·omega
 ·exact h x hx
 ·omega
theorem chunk_len {all : List Int} {i : Nat} (hi : i < all.length / 16) : ((all.drop (16 * i)).take 16).length = 16 := by
 rw [List.length_take, List.length_drop]
 omega
theorem chunks_join : ∀ (m : Nat) (all : List Int), ((List.range m).map fun i => (all.drop (16 * i)).take 16).flatten = all.take (16 * m)
 | 0, all => by simp
 | m + 1, all => by
  rw [List.range_succ, List.map_append, List.flatten_append, chunks_join m all, Nat.mul_add, Nat.mul_one, List.take_add]
  simp
theorem chunks_all {all : List Int} (h : all.length % 16 = 0) : (chunksW all).flatten = all := by
 unfold chunksW
 rw [chunks_join, show 16 * (all.length / 16) = all.length by omega, List.take_length]
theorem flat_len2 {α : Type} {g : Nat → List α} {n : Nat} : ∀ m : Nat, (∀ i, i < m → (g i).length = n) → ((List.range m).flatMap g).length = n * m
 | 0, _ => rfl
 | m + 1, hg => by rw [List.range_succ, List.flatMap_append, List.length_append, flat_len2 m (fun i hi => hg i (by omega)), List.flatMap_cons, List.flatMap_nil, List.append_nil, hg m (by omega), Nat.mul_add, Nat.mul_one]
/-- pieces of one length, put together and parted again -/
theorem flat_blk {α : Type} {g : Nat → List α} {n : Nat} : ∀ (m i : Nat), (∀ i, i < m → (g i).length = n) → i < m → ((((List.range m).flatMap g).drop (n * i)).take n) = g i
 | 0, i, _, h => absurd h (by omega)
 | m + 1, i, hg, h => by
  have hl := flat_len2 m (fun i hi => hg i (by omega))
  rw [List.range_succ, List.flatMap_append, List.flatMap_cons, List.flatMap_nil, List.append_nil]
  by_cases e : i < m
  ·have h2 : n * i + n ≤ n * m := by
    have := Nat.mul_le_mul_left n (show i + 1 ≤ m from e)
    rw [Nat.mul_add, Nat.mul_one] at this
    exact this
   rw [List.drop_append_of_le_length (by rw [hl]; omega), List.take_append_of_le_length (by rw [List.length_drop, hl]; omega)]
   exact flat_blk m i (fun i hi => hg i (by omega)) e
  ·obtain rfl : i = m := by omega
   rw [List.drop_append, hl, Nat.sub_self, List.drop_of_length_le (by rw [hl]; exact Nat.le_refl _)]
   simp [List.take_of_length_le, hg i (by omega)]
end Go.Q
/- Layer 10 in plain Lean: Read of a tape with at most one wrong hole in each block returns the words, and mends just these rows. -/
namespace Go.Q
/-- block i of the tape of words -/
def tapeB (ws : List Int) (i : Nat) : List Nat := blockW (((padW ws).drop (16 * i)).take 16)
def manyB (ws : List Int) : Nat := (padW ws).length / 16
theorem tape_blocks (ws : List Int) : tapeW ws = (List.range (manyB ws)).flatMap (tapeB ws) := by
 unfold tapeW chunksW
 rw [List.flatMap_map]
 rfl
theorem tapeB_good {ws : List Int} {i : Nat} (hi : i < manyB ws) : GoodB (tapeB ws i) := good_block (chunk_len hi)
theorem tapeB_words {ws : List Int} (h : wordOk ws) (hl : ws.length ≤ 560) {i : Nat} (hi : i < manyB ws) : wordsB (tapeB ws i) = ((padW ws).drop (16 * i)).take 16 :=
 wordsB_block (chunk_len hi) fun x hx => pad_ok h (by omega) x (List.mem_of_mem_drop (List.mem_of_mem_take hx))
/-- block i with the hole that is wrong there, if there is one -/
def spoilB (g : Nat → List Nat) (f : Nat → Option (Nat × Nat)) (i : Nat) : List Nat := match f i with | none => g i | some (r, p) => flipB (g i) r p
def rowsAt (f : Nat → Option (Nat × Nat)) (i : Nat) : List Int := match f i with | none => [] | some (r, _) => [((65 * i : Nat) : Int) + (r : Int)]
def spoilT (ws : List Int) (f : Nat → Option (Nat × Nat)) : List Nat := (List.range (manyB ws)).flatMap (spoilB (tapeB ws) f)
def mendedT (ws : List Int) (f : Nat → Option (Nat × Nat)) : List Int := (List.range (manyB ws)).flatMap (rowsAt f)
def holesOk (f : Nat → Option (Nat × Nat)) : Prop := ∀ i r p, f i = some (r, p) → r < 65 ∧ p < 7
theorem spoil_none (ws : List Int) : spoilT ws (fun _ => none) = tapeW ws ∧ mendedT ws (fun _ => none) = [] := by
 refine ⟨(tape_blocks ws).symm, ?_⟩
 unfold mendedT rowsAt
 rw [List.flatMap_eq_nil_iff]
 intro i _
 rfl
theorem flipB_len (b : List Nat) (r p : Nat) : (flipB b r p).length = b.length := List.length_set ..
theorem spoilB_len {ws : List Int} {f : Nat → Option (Nat × Nat)} {i : Nat} (hi : i < manyB ws) : (spoilB (tapeB ws) f i).length = 65 := by
 unfold spoilB
 split
 ·exact (tapeB_good hi).len
 ·rw [flipB_len]; exact (tapeB_good hi).len
theorem spoilB_mend {ws : List Int} {f : Nat → Option (Nat × Nat)} (hf : holesOk f) {i : Nat} (hi : i < manyB ws) :
  mendB (spoilB (tapeB ws) f i) = ((match f i with | none => -1 | some (r, _) => (r : Int)), true, tapeB ws i) := by
 unfold spoilB
 cases e : f i with
 | none => exact (tapeB_good hi).mend
 | some q =>
  obtain ⟨r, p⟩ := q
  obtain ⟨h1, h2⟩ := hf i r p e
  exact (tapeB_good hi).mend_flip h1 h2
theorem spoilB_lt {ws : List Int} {f : Nat → Option (Nat × Nat)} (hf : holesOk f) {i : Nat} (hi : i < manyB ws) : ∀ r ∈ spoilB (tapeB ws) f i, r < 128 := by
 intro x hx
 have hg := tapeB_good hi
 unfold spoilB at hx
 cases e : f i with
 | none => rw [e] at hx; exact hg.lt x hx
 | some q =>
  obtain ⟨r, p⟩ := q
  rw [e] at hx
  obtain ⟨h1, h2⟩ := hf i r p e
  unfold flipB at hx
  rcases List.mem_or_eq_of_mem_set hx with h | rfl
  ·exact hg.lt x h
  ·have h3 : (tapeB ws i)[r]?.getD 0 < 2 ^ 7 := by
    rw [List.getElem?_eq_getElem (by rw [hg.len]; exact h1)]
    exact hg.lt _ (List.getElem_mem _)
   have h4 : 2 ^ p < 2 ^ 7 := Nat.pow_lt_pow_right (by decide) h2
   exact Nat.xor_lt_two_pow h3 h4
theorem manyB_bd {ws : List Int} (h : ws.length ≤ 560) : 1 ≤ manyB ws ∧ manyB ws ≤ 36 := by
 have h1 := pad_len ws
 have h2 := pad_mod ws
 unfold manyB
 omega
theorem flatMap_congr2 {α : Type} {f g : Nat → List α} {m : Nat} (h : ∀ i, i < m → f i = g i) : (List.range m).flatMap f = (List.range m).flatMap g := by
 rw [List.flatMap_def, List.flatMap_def]
 congr 1
 exact List.map_congr_left fun i hi => h i (List.mem_range.1 hi)
/-- what Read returns of a tape with at most one wrong hole in each block -/
theorem read_spoil {ws : List Int} (hw : wordOk ws) (hl : ws.length ≤ 560) {f : Nat → Option (Nat × Nat)} (hf : holesOk f) : readE (spoilT ws f) = (ws, mendedT ws f, 0, 0) := by
 obtain ⟨m0, m1⟩ := manyB_bd hl
 have hpm := pad_mod ws
 have hlen : (spoilT ws f).length = 65 * manyB ws := flat_len2 _ fun i hi => spoilB_len hi
 have hnb : (spoilT ws f).length / 65 = manyB ws := by rw [hlen]; omega
 have hblk : ∀ i, i < manyB ws → blk (spoilT ws f) i = spoilB (tapeB ws) f i := fun i hi => flat_blk _ i (fun j hj => spoilB_len hj) hi
 have hmend : ∀ i, i < manyB ws → mendB (blk (spoilT ws f) i) = ((match f i with | none => -1 | some (r, _) => (r : Int)), true, tapeB ws i) := fun i hi => by rw [hblk i hi, spoilB_mend hf hi]
 have hany : (spoilT ws f).any (fun r => decide (127 < r)) = false := by
  rw [List.any_eq_false]
  intro r hr
  unfold spoilT at hr
  rw [List.mem_flatMap] at hr
  obtain ⟨i, hi, hr⟩ := hr
  have := spoilB_lt hf (List.mem_range.1 hi) r hr
  simp
  omega
 have hbad : firstBad (spoilT ws f) = none := by
  unfold firstBad
  rw [hnb, List.find?_range_eq_none]
  intro i hi
  unfold fineB
  rw [hmend i hi]
  rfl
 have hright : rightN (spoilT ws f) (manyB ws) = tapeW ws := by
  unfold rightN
  rw [tape_blocks]
  exact flatMap_congr2 fun i hi => by rw [hmend i hi]
 have hwords : wordsN10 (spoilT ws f) (manyB ws) = padW ws := by
  unfold wordsN10
  rw [flatMap_congr2 (g := fun i => ((padW ws).drop (16 * i)).take 16) fun i hi => by rw [hmend i hi]; exact tapeB_words hw hl hi]
  rw [List.flatMap_def]
  exact chunks_all hpm
 have hmended : mendedN (spoilT ws f) (manyB ws) = mendedT ws f := by
  unfold mendedN mendedT
  refine flatMap_congr2 fun i hi => ?_
  rw [hmend i hi]
  unfold rowsAt
  cases f i with
  | none => rfl
  | some q => rw [if_pos (by show (0 : Int) ≤ (q.1 : Int); omega)]
 have hmany : manyR (spoilT ws f) = (ws.length : Int) := by
  unfold manyR
  rw [hnb, hwords]
  rfl
 have hbody : bodyR (spoilT ws f) = ws ++ List.replicate ((16 - (ws.length + 1) % 16) % 16) 0 := by
  unfold bodyR
  rw [hnb, hwords]
  rfl
 have htake : (bodyR (spoilT ws f)).take (manyR (spoilT ws f)).toNat = ws := by
  rw [hmany, hbody, Int.toNat_natCast, List.take_left]
 have hx : readX (spoilT ws f) = 0 := by
  unfold readX
  rw [if_neg (by rw [hlen]; omega), if_neg (by rw [hany, hlen]; simp; omega), hbad]
  dsimp only
  rw [if_neg (by rw [hmany, hbody, List.length_append]; omega), htake, hnb, hright, if_pos rfl]
 unfold readE
 rw [if_pos hx, htake, hnb, hmended]
end Go.Q
/- Layer 10 in plain Lean: two wrong holes in a block are noticed; what Read refuses or mends. -/
namespace Go.Q
/-- the tape of words with two wrong holes in block k -/
def twoT (ws : List Int) (k r p r2 p2 : Nat) : List Nat := (List.range (manyB ws)).flatMap fun i => if i = k then flipB (flipB (tapeB ws i) r p) r2 p2 else tapeB ws i
theorem read_two {ws : List Int} (hl : ws.length ≤ 560) {k r p r2 p2 : Nat} (hk : k < manyB ws) (hr : r < 65) (hp : p < 7) (hr2 : r2 < 65) (hp2 : p2 < 7) (hne : ¬ (r = r2 ∧ p = p2)) : readE (twoT ws k r p r2 p2) = ([], [], (k : Int), 200) := by
 obtain ⟨m0, m1⟩ := manyB_bd hl
 have hg : ∀ i, i < manyB ws → (if i = k then flipB (flipB (tapeB ws i) r p) r2 p2 else tapeB ws i).length = 65 := fun i hi => by
  split
  ·rw [flipB_len, flipB_len]; exact (tapeB_good hi).len
  ·exact (tapeB_good hi).len
 have hlen : (twoT ws k r p r2 p2).length = 65 * manyB ws := flat_len2 _ hg
 have hnb : (twoT ws k r p r2 p2).length / 65 = manyB ws := by rw [hlen]; omega
 have hblk : ∀ i, i < manyB ws → blk (twoT ws k r p r2 p2) i = if i = k then flipB (flipB (tapeB ws i) r p) r2 p2 else tapeB ws i := fun i hi => flat_blk _ i hg hi
 have hflt : ∀ (b : List Nat) (r p : Nat), (∀ x ∈ b, x < 128) → r < b.length → p < 7 → ∀ x ∈ flipB b r p, x < 128 := by
  intro b r p hb hr hp x hx
  unfold flipB at hx
  rcases List.mem_or_eq_of_mem_set hx with h | rfl
  ·exact hb x h
  ·have h3 : b[r]?.getD 0 < 2 ^ 7 := by
    rw [List.getElem?_eq_getElem hr]
    exact hb _ (List.getElem_mem _)
   have h4 : 2 ^ p < 2 ^ 7 := Nat.pow_lt_pow_right (by decide) hp
   exact Nat.xor_lt_two_pow h3 h4
 have hany : (twoT ws k r p r2 p2).any (fun r => decide (127 < r)) = false := by
  rw [List.any_eq_false]
  intro x hx
  unfold twoT at hx
  rw [List.mem_flatMap] at hx
  obtain ⟨i, hi, hx⟩ := hx
  have hgd := tapeB_good (List.mem_range.1 hi)
  have : x < 128 := by
   split at hx
   ·exact hflt _ _ _ (hflt _ _ _ hgd.lt (by rw [hgd.len]; exact hr) hp) (by rw [flipB_len, hgd.len]; exact hr2) hp2 x hx
   ·exact hgd.lt x hx
  simp
  omega
 have hbad : firstBad (twoT ws k r p r2 p2) = some k := by
  unfold firstBad
  rw [hnb, List.find?_range_eq_some]
  refine ⟨?_, List.mem_range.2 hk, fun j hj => ?_⟩
  ·unfold fineB
   rw [hblk k hk, if_pos rfl, (tapeB_good hk).mend_two hr hp hr2 hp2 hne]
   rfl
  ·unfold fineB
   rw [hblk j (by omega), if_neg (by omega), (tapeB_good (show j < manyB ws by omega)).mend]
   rfl
 have hx : readX (twoT ws k r p r2 p2) = 200 := by
  unfold readX
  rw [if_neg (by rw [hlen]; omega), if_neg (by rw [hany, hlen]; simp; omega), hbad]
 unfold readE
 rw [if_neg (by rw [hx]; decide), if_pos hx, hbad]
 rfl
/-- what is known of rows that Read takes -/
structure ReadOk (rs : List Nat) : Prop where
 len : rs.length ≤ 2400
 blocks : rs.length = 65 * (rs.length / 65) ∧ 0 < rs.length
 lt : ∀ r ∈ rs, r < 128
 fine : ∀ i, i < rs.length / 65 → fineB rs i = true
 many : 0 ≤ manyR rs ∧ manyR rs ≤ 560 ∧ manyR rs ≤ (bodyR rs).length
 right : tapeW ((bodyR rs).take (manyR rs).toNat) = rightN rs (rs.length / 65)
theorem wordR_bd (b : List Nat) (k : Nat) : 0 ≤ wordR b k ∧ wordR b k ≤ 16777215 := by
 unfold wordR
 omega
theorem wordsB_ok (b : List Nat) : wordOk (wordsB b) := by
 intro x hx
 unfold wordsB at hx
 rw [List.mem_map] at hx
 obtain ⟨k, _, rfl⟩ := hx
 exact wordR_bd b k
theorem wordsN_ok (rs : List Nat) (n : Nat) : wordOk (wordsN10 rs n) := by
 intro x hx
 unfold wordsN10 at hx
 rw [List.mem_flatMap] at hx
 obtain ⟨i, _, hx⟩ := hx
 exact wordsB_ok _ x hx
theorem manyR_bd (rs : List Nat) : 0 ≤ manyR rs ∧ manyR rs ≤ 16777215 := by
 unfold manyR
 rcases Nat.lt_or_ge 0 (wordsN10 rs (rs.length / 65)).length with h | h
 ·rw [List.getElem?_eq_getElem h]
  exact wordsN_ok _ _ _ (List.getElem_mem h)
 ·rw [List.getElem?_eq_none h]
  simp
theorem readX_ok {rs : List Nat} (h : readX rs = 0) : ReadOk rs := by
 unfold readX at h
 split at h
 ·omega
 ·rename_i h1
  split at h
  ·omega
  ·rename_i h2
   cases hb : firstBad rs with
   | some k => rw [hb] at h; simp at h
   | none =>
    rw [hb] at h
    dsimp only at h
    split at h
    ·omega
    ·rename_i h3
     split at h
     ·rename_i h4
      have h5 : rs.any (fun r => decide (127 < r)) = false := by
       cases hc : rs.any (fun r => decide (127 < r)) with
       | false => rfl
       | true => exact absurd (.inr (.inr hc)) h2
      have hm := manyR_bd rs
      have h0 : rs.length ≠ 0 := fun e => h2 (.inl e)
      have h6 : rs.length % 65 = 0 := by
       rcases Nat.eq_zero_or_pos (rs.length % 65) with e | e
       ·exact e
       ·exact absurd (.inr (.inl (by omega))) h2
      refine ⟨by omega, ⟨by omega, by omega⟩, fun r hr => ?_, fun i hi => ?_, ⟨hm.1, by omega, by omega⟩, h4⟩
      ·rw [List.any_eq_false] at h5
       have := h5 r hr
       simp at this
       omega
      ·unfold firstBad at hb
       rw [List.find?_range_eq_none] at hb
       have := hb i hi
       simpa using this
     ·omega
end Go.Q
/- Layer 10 in plain Lean: the rows that Read mends are just those in which the tape of its words is another one. -/
namespace Go.Q
theorem turn_ne (b : List Nat) : turnM b ≠ 0 := by
 unfold turnM
 split
 ·decide
 ·assumption
theorem xor_ne {a t : Nat} (h : t ≠ 0) : a ^^^ t ≠ a := by
 intro e
 have h2 : a ^^^ (a ^^^ t) = a ^^^ a := by rw [e]
 rw [← Nat.xor_assoc, Nat.xor_self, Nat.zero_xor] at h2
 exact h h2
/-- what mending changes -/
theorem mend_rows {b : List Nat} (h : (mendB b).2.1 = true) : ((mendB b).1 = -1 ∧ (mendB b).2.2 = b) ∨ ∃ r : Nat, r < b.length ∧ (mendB b).1 = (r : Int) ∧ (mendB b).2.2.length = b.length ∧ ∀ i, i < b.length → ((mendB b).2.2[i]?.getD 0 ≠ b[i]?.getD 0 ↔ i = r) := by
 unfold mendB at *
 have hm : ∀ r, r ∈ evs b → r < b.length := fun r hr => by
  unfold evs at hr
  rw [List.mem_filter] at hr
  exact List.mem_range.1 hr.1
 generalize evs b = es at *
 match es, h, hm with
 | [], h, _ => exact .inl ⟨rfl, rfl⟩
 | [r], h, hm =>
  have hr := hm r (List.mem_singleton.2 rfl)
  dsimp only at h ⊢
  by_cases h1 : 1 < onesN (chk b) 6
  ·rw [if_pos h1] at h; simp at h
  ·rw [if_neg h1]
   refine .inr ⟨r, hr, rfl, List.length_set .., fun i hi => ?_⟩
   dsimp only
   by_cases e : i = r
   ·subst e
    rw [List.getElem?_set_self hi, Option.getD_some]
    exact ⟨fun _ => rfl, fun _ => xor_ne (turn_ne b)⟩
   ·rw [List.getElem?_set_ne (fun e2 => e e2.symm)]
    exact ⟨fun h => absurd rfl h, fun h => absurd h e⟩
 | _ :: _ :: _, h, _ => simp at h
theorem mend_len {b : List Nat} (h : (mendB b).2.1 = true) : (mendB b).2.2.length = b.length := by
 rcases mend_rows h with ⟨_, e⟩ | ⟨r, _, _, e, _⟩
 ·rw [e]
 ·exact e
theorem blk_len {rs : List Nat} {i : Nat} (h : rs.length = 65 * (rs.length / 65)) (hi : i < rs.length / 65) : (blk rs i).length = 65 := by
 unfold blk
 rw [List.length_take, List.length_drop]
 omega
theorem blk_get {rs : List Nat} {i q : Nat} (hq : q < 65) : (blk rs i)[q]? = rs[65 * i + q]? := by
 unfold blk
 rw [List.getElem?_take, if_pos hq, List.getElem?_drop]
theorem flat_get2 {α : Type} {g : Nat → List α} {n m i q : Nat} (hg : ∀ i, i < m → (g i).length = n) (hi : i < m) (hq : q < n) : ((List.range m).flatMap g)[n * i + q]? = (g i)[q]? := by
 have h := flat_blk m i hg hi
 rw [← h, List.getElem?_take, if_pos hq, List.getElem?_drop]
theorem right_len {rs : List Nat} (h : ReadOk rs) : (rightN rs (rs.length / 65)).length = rs.length := by
 unfold rightN
 rw [flat_len2 (n := 65) _ fun i hi => by rw [mend_len (h.fine i hi)]; exact blk_len h.blocks.1 hi]
 exact h.blocks.1.symm
theorem mem_mended {rs : List Nat} {n : Nat} {x : Int} : x ∈ mendedN rs n ↔ ∃ i, i < n ∧ 0 ≤ (mendB (blk rs i)).1 ∧ x = ((65 * i : Nat) : Int) + (mendB (blk rs i)).1 := by
 unfold mendedN
 rw [List.mem_flatMap]
 constructor
 ·rintro ⟨i, hi, hx⟩
  by_cases h0 : 0 ≤ (mendB (blk rs i)).1
  ·rw [if_pos h0, List.mem_singleton] at hx
   exact ⟨i, List.mem_range.1 hi, h0, hx⟩
  ·rw [if_neg h0] at hx
   simp at hx
 ·rintro ⟨i, hi, h0, hx⟩
  exact ⟨i, List.mem_range.2 hi, by rw [if_pos h0, List.mem_singleton]; exact hx⟩
/-- a row is another one just where it was mended -/
theorem bytes_rows {rs : List Nat} (h : ReadOk rs) {j : Nat} (hj : j < rs.length) : ((rightN rs (rs.length / 65))[j]?.getD 0 ≠ rs[j]?.getD 0) ↔ (j : Int) ∈ mendedN rs (rs.length / 65) := by
 have hb := h.blocks.1
 have hi : j / 65 < rs.length / 65 := by omega
 have hq : j % 65 < 65 := Nat.mod_lt _ (by decide)
 have hj2 : 65 * (j / 65) + j % 65 = j := by omega
 have hl := blk_len hb hi
 have e1 : (rightN rs (rs.length / 65))[j]? = (mendB (blk rs (j / 65))).2.2[j % 65]? := by
  have := flat_get2 (g := fun i => (mendB (blk rs i)).2.2) (n := 65) (m := rs.length / 65) (i := j / 65) (q := j % 65) (fun i hi => by rw [mend_len (h.fine i hi)]; exact blk_len hb hi) hi hq
  rw [hj2] at this
  exact this
 have e2 : rs[j]? = (blk rs (j / 65))[j % 65]? := by rw [blk_get hq, hj2]
 rw [e1, e2]
 rw [mem_mended]
 have hf := h.fine _ hi
 rcases mend_rows hf with ⟨h1, h2⟩ | ⟨r, hr, h1, _, h3⟩
 ·rw [h2]
  refine ⟨fun e => absurd rfl e, ?_⟩
  rintro ⟨i, hin, h0, hx⟩
  exfalso
  rcases mend_rows (h.fine i hin) with ⟨h4, _⟩ | ⟨r, hr, h4, _, _⟩
  ·rw [h4] at h0; omega
  ·rw [h4] at hx
   have hbi := blk_len hb hin
   have : i = j / 65 := by omega
   subst this
   rw [h1] at h4
   omega
 ·rw [h3 _ (by rw [hl]; exact hq)]
  constructor
  ·intro e
   exact ⟨j / 65, hi, by rw [h1]; omega, by rw [h1]; omega⟩
  ·rintro ⟨i, hin, h0, hx⟩
   rcases mend_rows (h.fine i hin) with ⟨h4, _⟩ | ⟨r2, hr2, h4, _, _⟩
   ·rw [h4] at h0; omega
   ·rw [h4] at hx
    have hbi := blk_len hb hin
    have : i = j / 65 := by omega
    subst this
    rw [h1] at h4
    omega
/-- how many numbers of a list are below one -/
def marksK (M : List Int) (i : Int) : Nat := (M.filter fun x => decide (x < i)).length
theorem marks_cons (x : Int) (M : List Int) (i : Int) : marksK (x :: M) i = (if x < i then 1 else 0) + marksK M i := by
 unfold marksK
 rw [List.filter_cons]
 by_cases h : x < i
 ·rw [if_pos (by simpa using h), if_pos h, List.length_cons]; omega
 ·rw [if_neg (by simpa using h), if_neg h]; omega
theorem marks_none {M : List Int} {i : Int} (h : ∀ x ∈ M, i ≤ x) : marksK M i = 0 := by
 unfold marksK
 rw [List.length_eq_zero_iff, List.filter_eq_nil_iff]
 intro x hx
 have := h x hx
 simp
 omega
theorem marks_all {M : List Int} {i : Int} (h : ∀ x ∈ M, x < i) : marksK M i = M.length := by
 unfold marksK
 rw [List.filter_eq_self.2]
 intro x hx
 simpa using h x hx
theorem marks_at : ∀ {M : List Int}, M.Pairwise (· < ·) → ∀ i : Int, (M[marksK M i]? = some i ↔ i ∈ M)
 | [], _, i => by simp
 | x :: M, h, i => by
  rw [List.pairwise_cons] at h
  rw [marks_cons]
  rcases Int.lt_trichotomy x i with hx | hx | hx
  ·rw [if_pos hx, Nat.add_comm, List.getElem?_cons_succ, marks_at h.2 i, List.mem_cons]
   exact ⟨.inr, fun e => e.elim (fun e => by omega) id⟩
  ·subst hx
   rw [if_neg (by omega), marks_none fun y hy => Int.le_of_lt (h.1 y hy)]
   simp
  ·rw [if_neg (by omega), marks_none fun y hy => by have := h.1 y hy; omega]
   simp only [Nat.add_zero, List.getElem?_cons_zero, Option.some.injEq, List.mem_cons]
   refine ⟨fun e => by omega, fun e => e.elim (fun e => by omega) fun e => ?_⟩
   have := h.1 i e
   omega
theorem marks_succ : ∀ {M : List Int}, M.Pairwise (· < ·) → ∀ i : Int, marksK M (i + 1) = marksK M i + if i ∈ M then 1 else 0
 | [], _, i => by simp [marksK]
 | x :: M, h, i => by
  rw [List.pairwise_cons] at h
  rw [marks_cons, marks_cons]
  have ih := marks_succ h.2 i
  rcases Int.lt_trichotomy x i with hx | hx | hx
  ·rw [if_pos (by omega), if_pos hx, ih]
   have : (i ∈ x :: M) = (i ∈ M) := by
    rw [List.mem_cons, eq_iff_iff]
    exact ⟨fun e => e.elim (fun e => by omega) id, .inr⟩
   simp only [this]
   omega
  ·subst hx
   rw [if_pos (by omega), if_neg (by omega), if_pos (List.mem_cons_self ..), marks_none (M := M) (i := x + 1) fun y hy => by have := h.1 y hy; omega, marks_none (M := M) (i := x) fun y hy => by have := h.1 y hy; omega]
  ·have hn : ¬ i ∈ x :: M := by
    rw [List.mem_cons]
    rintro (e | e)
    ·omega
    ·have := h.1 i e; omega
   rw [if_neg (by omega), if_neg (by omega), if_neg hn, marks_none (M := M) (i := i + 1) fun y hy => by have := h.1 y hy; omega, marks_none (M := M) (i := i) fun y hy => by have := h.1 y hy; omega]
theorem mended_sorted {rs : List Nat} : ∀ n : Nat, (∀ i, i < n → fineB rs i = true ∧ (blk rs i).length = 65) → (mendedN rs n).Pairwise (· < ·) ∧ ∀ x ∈ mendedN rs n, 0 ≤ x ∧ x < ((65 * n : Nat) : Int)
 | 0, _ => ⟨List.Pairwise.nil, by intro x hx; simp [mendedN] at hx⟩
 | n + 1, h => by
  obtain ⟨ih1, ih2⟩ := mended_sorted n fun i hi => h i (by omega)
  have e : mendedN rs (n + 1) = mendedN rs n ++ if 0 ≤ (mendB (blk rs n)).1 then [((65 * n : Nat) : Int) + (mendB (blk rs n)).1] else [] := by
   unfold mendedN
   rw [List.range_succ, List.flatMap_append, List.flatMap_cons, List.flatMap_nil, List.append_nil]
  rw [e]
  obtain ⟨hf, hl⟩ := h n (by omega)
  by_cases h0 : 0 ≤ (mendB (blk rs n)).1
  ·rw [if_pos h0]
   rcases mend_rows hf with ⟨h4, _⟩ | ⟨r, hr, h4, _, _⟩
   ·rw [h4] at h0; omega
   ·rw [h4, hl] at *
    refine ⟨?_, ?_⟩
    ·rw [List.pairwise_append]
     refine ⟨ih1, List.pairwise_singleton _ _, fun a ha b hb => ?_⟩
     rw [List.mem_singleton] at hb
     have := ih2 a ha
     omega
    ·intro x hx
     rw [List.mem_append, List.mem_singleton] at hx
     rcases hx with hx | hx
     ·have := ih2 x hx; omega
     ·omega
  ·rw [if_neg h0, List.append_nil]
   exact ⟨ih1, fun x hx => by have := ih2 x hx; omega⟩
end Go.Q

import Derived.Test.YtnhpcoagkmgdoaaGreatX5
set_option linter.unusedVariables false
set_option linter.unusedSimpArgs false
/- Layer 10's reference: the rows of a block. -/
namespace Go.Q
open Go.RowKit
theorem rows_snoc (ws : List Int) {i : Nat} (hi : i < ws.length) : (ws.take (i + 1)).flatMap rowsW = (ws.take i).flatMap rowsW ++ rowsW (ws[i]?.getD 0) := by
 rw [List.take_add_one, List.flatMap_append, List.getElem?_eq_getElem hi]
 show _ ++ [ws[i]].flatMap rowsW = _
 rw [List.flatMap_cons, List.flatMap_nil, List.append_nil]
 rfl
theorem rowsW_take (x : Int) : ∀ {j : Nat}, j < 4 → (rowsW x).take (j + 1) = (rowsW x).take j ++ [rowW x j]
 | 0, _ => rfl
 | 1, _ => rfl
 | 2, _ => rfl
 | 3, _ => rfl
 | j + 4, h => absurd h (by omega)
theorem rows_lt {rs : List Nat} (h : ∀ r ∈ rs, ∃ n, r = oddR n) : ∀ r ∈ rs, r < 256 := fun r hr => by
 obtain ⟨n, rfl⟩ := h r hr
 have := oddR_lt n
 omega
theorem rowsW_odd (ws : List Int) : ∀ r ∈ ws.flatMap rowsW, ∃ n, r = oddR n := fun r hr => by
 rw [List.mem_flatMap] at hr
 obtain ⟨x, _, hx⟩ := hr
 unfold rowsW at hx
 simp only [List.mem_cons, List.not_mem_nil, or_false] at hx
 rcases hx with h | h | h | h <;> exact ⟨_, h⟩
theorem flat4_length : ∀ ws : List Int, (ws.flatMap rowsW).length = 4 * ws.length
 | [] => rfl
 | w :: ws => by
  rw [List.flatMap_cons, List.length_append, flat4_length ws, List.length_cons]
  show 4 + 4 * ws.length = _
  omega
end Go.Q
namespace Go.Proofs.YtnhpcoagkmgdoaaGreat
open Go.RowKit Go.Q
end Go.Proofs.YtnhpcoagkmgdoaaGreat
/- Layer 10's reference: Flipped, mend. -/
namespace Go.Q
open Go.RowKit
/-- the places in which an odd number of rows has a hole -/
def plcX (x : Nat) : List Nat := (List.range 6).filter fun k => x / 2 ^ k % 2 == 1
/-- what the reference's mend returns -/
def rmendB (b : List Nat) : Int × Int × Bool :=
 match evs b, plcX (chk b) with
 | [], [] => (-1, 0, true)
 | [r], [] => ((r : Int), 6, true)
 | [r], [k] => ((r : Int), (k : Int), true)
 | _, _ => (0, 0, false)
def evsK (b : List Nat) (i : Nat) : List Nat := (List.range i).filter fun i => !oddP (b[i]?.getD 0)
theorem evsK_succ (b : List Nat) (i : Nat) : evsK b (i + 1) = if oddP (b[i]?.getD 0) = true then evsK b i else evsK b i ++ [i] := by
 unfold evsK
 rw [List.range_succ, List.filter_append]
 cases h : oddP (b[i]?.getD 0) <;> simp [h]
end Go.Q
namespace Go.Proofs.YtnhpcoagkmgdoaaGreat
open Go.RowKit Go.Q
end Go.Proofs.YtnhpcoagkmgdoaaGreat
/- Layer 10 in plain Lean: the reference's mend is the program's. -/
namespace Go.Q
theorem plc_facts : ∀ x : Fin 64, (plcX x.1 = [] → x.1 = 0) ∧ (∀ k : Fin 6, plcX x.1 = [k.1] → x.1 = 2 ^ k.1 ∧ ¬ 1 < onesN x.1 6) ∧ (2 ≤ (plcX x.1).length → 1 < onesN x.1 6) ∧ (∀ k ∈ plcX x.1, k < 6) := by decide +kernel
theorem chk_lt (b : List Nat) : chk b < 64 := Nat.mod_lt _ (by decide)
theorem ones_zero6 : onesN 0 6 = 0 := by decide
theorem plc_zero : plcX 0 = [] := by decide
theorem rmend_eq (b : List Nat) : (rmendB b).2.2 = (mendB b).2.1 ∧ ((mendB b).2.1 = true → (rmendB b).1 = (mendB b).1 ∧ (((mendB b).1 = -1 ∧ (mendB b).2.2 = b) ∨ ∃ r k : Nat, r < b.length ∧ k < 7 ∧ (rmendB b).1 = (r : Int) ∧ (rmendB b).2.1 = (k : Int) ∧ (mendB b).2.2 = b.set r (b[r]?.getD 0 ^^^ 2 ^ k))) := by
 obtain ⟨p1, p2, p3, p4⟩ := plc_facts ⟨chk b, chk_lt b⟩
 dsimp only at p1 p2 p3 p4
 have hz : chk b = 0 → plcX (chk b) = [] := fun e => by rw [e]; exact plc_zero
 have hm : ∀ r, r ∈ evs b → r < b.length := fun r hr => by
  unfold evs at hr
  rw [List.mem_filter] at hr
  exact List.mem_range.1 hr.1
 unfold rmendB mendB
 generalize plcX (chk b) = ps at *
 generalize evs b = es at *
 match es, ps, hm with
 | [], [], _ => exact ⟨by rw [p1 rfl]; rfl, fun _ => ⟨rfl, .inl ⟨rfl, rfl⟩⟩⟩
 | [], k :: ps, _ =>
  have hne : (chk b == 0) = false := by
   cases e : chk b == 0 with
   | false => rfl
   | true => have := hz (by simpa using e); simp at this
  dsimp only
  rw [hne]
  exact ⟨rfl, fun h => by cases h⟩
 | [r], [], hm =>
  have h0 := p1 rfl
  dsimp only
  rw [if_neg (by rw [h0, ones_zero6]; decide)]
  refine ⟨rfl, fun _ => ⟨rfl, .inr ⟨r, 6, hm r (List.mem_singleton.2 rfl), by decide, rfl, rfl, ?_⟩⟩⟩
  unfold turnM
  rw [if_pos h0]
 | [r], [k], hm =>
  have hk := p4 k (List.mem_singleton.2 rfl)
  obtain ⟨h1, h2⟩ := p2 ⟨k, hk⟩ rfl
  dsimp only at h1
  have hne : chk b ≠ 0 := fun e => by have := hz e; simp at this
  dsimp only
  rw [if_neg h2]
  refine ⟨rfl, fun _ => ⟨rfl, .inr ⟨r, k, hm r (List.mem_singleton.2 rfl), by omega, rfl, rfl, ?_⟩⟩⟩
  unfold turnM
  rw [if_neg hne, h1]
 | [r], k :: k2 :: ps, _ =>
  have h1 := p3 (by simp)
  dsimp only
  rw [if_pos h1]
  exact ⟨rfl, fun h => by cases h⟩
 | _ :: _ :: _, ps, _ =>
  refine ⟨?_, fun h => by cases h⟩
  match ps with
  | [] => rfl
  | [_] => rfl
  | _ :: _ :: _ => rfl
end Go.Q
/- Layer 10 in plain Lean: tapes: what Read makes of the tape of words, with at most one wrong hole in each block. -/
namespace Go.Q
theorem flat4_len : ∀ ws : List Int, (ws.flatMap rowsW).length = 4 * ws.length
 | [] => rfl
 | w :: ws => by
  rw [List.flatMap_cons, List.length_append, flat4_len ws, List.length_cons]
  show 4 + 4 * ws.length = _
  omega
theorem blockW_len {ws : List Int} (h : ws.length = 16) : (blockW ws).length = 65 := by
 unfold blockW
 rw [List.length_append, flat4_len, h]
 rfl
theorem flat4_mem {ws : List Int} {r : Nat} (h : r ∈ ws.flatMap rowsW) : ∃ n j, r = rowW n j := by
 rw [List.mem_flatMap] at h
 obtain ⟨n, _, hr⟩ := h
 unfold rowsW at hr
 simp only [List.mem_cons, List.not_mem_nil, or_false] at hr
 rcases hr with h | h | h | h
 ·exact ⟨n, 0, h⟩
 ·exact ⟨n, 1, h⟩
 ·exact ⟨n, 2, h⟩
 ·exact ⟨n, 3, h⟩
theorem blockW_mem {ws : List Int} {r : Nat} (h : r ∈ blockW ws) : ∃ n, r = oddR n := by
 unfold blockW at h
 rw [List.mem_append, List.mem_singleton] at h
 rcases h with h | h
 ·obtain ⟨n, j, e⟩ := flat4_mem h
  exact ⟨_, e⟩
 ·exact ⟨_, h⟩
theorem good_block {ws : List Int} (h : ws.length = 16) : GoodB (blockW ws) where
 len := blockW_len h
 odd := fun r hr => by obtain ⟨n, rfl⟩ := blockW_mem hr; exact oddR_odd n
 lt := fun r hr => by obtain ⟨n, rfl⟩ := blockW_mem hr; exact oddR_lt n
 chk := by
  unfold blockW
  rw [chk_xorL, xorL_append, xor_mod64]
  have e : xorL [oddR (chk (ws.flatMap rowsW))] % 64 = xorL (ws.flatMap rowsW) % 64 := by
   show (0 ^^^ oddR (chk (ws.flatMap rowsW))) % 64 = _
   rw [Nat.zero_xor, oddR_low, chk_xorL, Nat.mod_mod]
  rw [e, Nat.xor_self]
def wordOk (ws : List Int) : Prop := ∀ x ∈ ws, 0 ≤ x ∧ x ≤ 16777215
theorem pad_mod (ws : List Int) : (padW ws).length % 16 = 0 := by
 unfold padW
 rw [List.length_append, List.length_cons, List.length_replicate]
 omega
theorem pad_len (ws : List Int) : ws.length + 1 ≤ (padW ws).length ∧ (padW ws).length ≤ ws.length + 16 := by
 unfold padW
 rw [List.length_append, List.length_cons, List.length_replicate]
 omega
theorem pad_ok {ws : List Int} (h : wordOk ws) (hl : ws.length ≤ 16777215) : wordOk (padW ws) := by
 intro x hx
 unfold padW at hx
 rw [List.mem_append, List.mem_cons, List.mem_replicate] at hx
 rcases hx with (rfl | hx) | ⟨_, rfl⟩
 ·omega
 ·exact h x hx
 ·omega
theorem chunk_len {all : List Int} {i : Nat} (hi : i < all.length / 16) : ((all.drop (16 * i)).take 16).length = 16 := by
 rw [List.length_take, List.length_drop]
 omega
theorem flat_len2 {α : Type} {g : Nat → List α} {n : Nat} : ∀ m : Nat, (∀ i, i < m → (g i).length = n) → ((List.range m).flatMap g).length = n * m
 | 0, _ => rfl
 | m + 1, hg => by rw [List.range_succ, List.flatMap_append, List.length_append, flat_len2 m (fun i hi => hg i (by omega)), List.flatMap_cons, List.flatMap_nil, List.append_nil, hg m (by omega), Nat.mul_add, Nat.mul_one]
end Go.Q
/- Layer 10 in plain Lean: Read of a tape with at most one wrong hole in each block returns the words, and mends just these rows. -/
namespace Go.Q
/-- block i of the tape of words -/
def tapeB (ws : List Int) (i : Nat) : List Nat := blockW (((padW ws).drop (16 * i)).take 16)
def manyB (ws : List Int) : Nat := (padW ws).length / 16
theorem tape_blocks (ws : List Int) : tapeW ws = (List.range (manyB ws)).flatMap (tapeB ws) := by
 unfold tapeW chunksW
 rw [List.flatMap_map]
 rfl
theorem tapeB_good {ws : List Int} {i : Nat} (hi : i < manyB ws) : GoodB (tapeB ws i) := good_block (chunk_len hi)
end Go.Q
/- Layer 10 in plain Lean: two wrong holes in a block are noticed; what Read refuses or mends. -/
namespace Go.Q
theorem wordR_bd (b : List Nat) (k : Nat) : 0 ≤ wordR b k ∧ wordR b k ≤ 16777215 := by
 unfold wordR
 omega
theorem wordsB_ok (b : List Nat) : wordOk (wordsB b) := by
 intro x hx
 unfold wordsB at hx
 rw [List.mem_map] at hx
 obtain ⟨k, _, rfl⟩ := hx
 exact wordR_bd b k
theorem wordsN_ok (rs : List Nat) (n : Nat) : wordOk (wordsN10 rs n) := by
 intro x hx
 unfold wordsN10 at hx
 rw [List.mem_flatMap] at hx
 obtain ⟨i, _, hx⟩ := hx
 exact wordsB_ok _ x hx
theorem manyR_bd (rs : List Nat) : 0 ≤ manyR rs ∧ manyR rs ≤ 16777215 := by
 unfold manyR
 rcases Nat.lt_or_ge 0 (wordsN10 rs (rs.length / 65)).length with h | h
 ·rw [List.getElem?_eq_getElem h]
  exact wordsN_ok _ _ _ (List.getElem_mem h)
 ·rw [List.getElem?_eq_none h]
  simp
end Go.Q
/- Layer 10 in plain Lean: the rows that Read mends are just those in which the tape of its words is another one. -/
namespace Go.Q
end Go.Q
/- Layer 10's reference: the tape of words. -/
namespace Go.Q
open Go.RowKit
theorem tape_snoc (ws : List Int) (i : Nat) : (List.range (i + 1)).flatMap (tapeB ws) = (List.range i).flatMap (tapeB ws) ++ tapeB ws i := by
 rw [List.range_succ, List.flatMap_append, List.flatMap_cons, List.flatMap_nil, List.append_nil]
theorem tape_part_len {ws : List Int} {i : Nat} (hi : i ≤ manyB ws) : ((List.range i).flatMap (tapeB ws)).length = 65 * i := flat_len2 i fun j hj => (tapeB_good (by omega)).len
end Go.Q
namespace Go.Proofs.YtnhpcoagkmgdoaaGreat
open Go.RowKit Go.Q Go.Joins
end Go.Proofs.YtnhpcoagkmgdoaaGreat
/- Layer 10's reference: Punch. -/
namespace Go.Q
open Go.RowKit
/-- rows and an error's code are returned -/
def RowsRes (r : List Nat × Int) (w : World) (e : Ending) (w' : World) : Prop := ∃ a c, e = .returned (.tuple #[.slice a r.1.length c, .int .i64 r.2]) ∧ (r.1.length ≤ c ∧ c ≤ 9223372036854775807) ∧ BytesAt w' a (natI r.1) ∧ Ext w w'
theorem rows_none {x : Int} {w W : World} (E : Ext w W) : RowsRes ([], x) w (.returned (.tuple #[.slice none 0 0, .int .i64 x])) W := ⟨none, 0, rfl, ⟨Nat.le_refl _, by decide⟩, .inl rfl, E⟩
theorem punch_long {ws : List Int} (h : 560 < ws.length) : punchE ws = ([], 3) := by
 have e : punchX ws = 3 := by unfold punchX; rw [if_pos h]
 unfold punchE
 rw [e, if_neg (by decide)]
theorem punch_good {ws : List Int} (h : ws.length ≤ 560) (hw : wordOk ws) : punchE ws = (tapeW ws, 0) := by
 have e : punchX ws = 0 := by
  unfold punchX
  rw [if_neg (by omega), if_neg]
  rw [Bool.not_eq_true, List.any_eq_false]
  intro x hx
  have := hw x hx
  have hb : wordB x = true := by unfold wordB inB; rw [decide_eq_true this.1, decide_eq_true this.2]; rfl
  unfold badW
  rw [hb]
  simp
 unfold punchE
 rw [if_pos e]
end Go.Q
namespace Go.Proofs.YtnhpcoagkmgdoaaGreat
open Go.RowKit Go.Q Go.Joins
end Go.Proofs.YtnhpcoagkmgdoaaGreat

/- Layer 1 in plain Lean: a file is read as its words, and written again as it was; a file with one other byte is none. -/
import Derived.Test.YtkkchoinfdfiaaaN11
set_option linter.unusedVariables false
set_option linter.unusedSimpArgs false
namespace Go.Q
def plainL (l : Ln) : Ln := ⟨l.words, l.bits, 2, 0, 0, 0⟩
theorem accD_bytes : ∀ (m : Nat) (x : Int), 0 ≤ x → x < 256 ^ m → accD (fun j => x / 2 ^ (8 * j) % 256) m = x
  | 0, x, h0, h1 => by
    have : x < 1 := by simpa using h1
    show (0 : Int) = x
    omega
  | m + 1, x, h0, h1 => by
    have h2 : (256 : Int) ^ (m + 1) = 256 ^ m * 256 := Int.pow_succ ..
    have h3 : x / 256 < 256 ^ m := by omega
    have ih := accD_bytes m (x / 256) (by omega) h3
    have e : (fun j => x / 2 ^ (8 * (j + 1)) % 256) = fun j => x / 256 / 2 ^ (8 * j) % 256 := by
      funext j
      have e2 : (2 : Int) ^ (8 * (j + 1)) = 256 * 2 ^ (8 * j) := by rw [Nat.mul_add, Int.pow_add, Int.mul_comm]; rfl
      rw [e2, ← Int.ediv_ediv_of_nonneg (by omega)]
    show accD (fun j => x / 2 ^ (8 * (j + 1)) % 256) m * 256 + x / 2 ^ (8 * 0) % 256 = x
    rw [e, ih]
    simp
    omega
theorem flat_get (sz : Nat) : ∀ (ws : List Int) (k j : Nat), k < ws.length → j < sz → (ws.flatMap fun n => wbytes n sz)[k * sz + j]? = some ((ws[k]?.getD 0) / 2 ^ (8 * j) % 256)
  | [], k, j, hk, hj => absurd hk (by simp)
  | x :: ws, 0, j, hk, hj => by
    have hl : (wbytes x sz).length = sz := fstN_length _ _
    rw [List.flatMap_cons, Nat.zero_mul, Nat.zero_add, List.getElem?_append_left (by omega)]
    unfold wbytes
    rw [fstN_get _ hj]
    rfl
  | x :: ws, k + 1, j, hk, hj => by
    have hl : (wbytes x sz).length = sz := fstN_length _ _
    have ih := flat_get sz ws k j (by simpa using hk) hj
    rw [List.flatMap_cons, List.getElem?_append_right (by rw [hl, Nat.add_mul]; omega), hl, show (k + 1) * sz + j - sz = k * sz + j by rw [Nat.add_mul]; omega, ih]
    rfl
theorem file_len {l : Ln} {ws : List Int} : (fileF l ws).length = 5 + ws.length * many8 l.bits := by
  unfold fileF bodyF headF
  rw [List.length_append, List.length_append, flat_len]
  simp
  omega
theorem file_get {l : Ln} {ws : List Int} {k j : Nat} (hk : k < ws.length) (hj : j < many8 l.bits) : byteF (fileF l ws) (4 + k * many8 l.bits + j) = (ws[k]?.getD 0) / 2 ^ (8 * j) % 256 := by
  have h := flat_get (many8 l.bits) ws k j hk hj
  have hlt : k * many8 l.bits + j < (ws.flatMap fun n => wbytes n (many8 l.bits)).length := by
    rcases Nat.lt_or_ge (k * many8 l.bits + j) (ws.flatMap fun n => wbytes n (many8 l.bits)).length with h2 | h2
    · exact h2
    · rw [List.getElem?_eq_none h2] at h; cases h
  unfold byteF fileF bodyF headF
  rw [Nat.add_assoc, List.getElem?_append_left (by simp only [List.length_append, List.length_cons, List.length_nil]; omega), List.getElem?_append_right (by simp only [List.length_cons, List.length_nil]; omega), show 4 + (k * many8 l.bits + j) - [77, 76, l.words, l.bits].length = k * many8 l.bits + j by simp, h]
  rfl
theorem file_line {l : Ln} {ws : List Int} : lineF (fileF l ws) = plainL l := rfl
theorem plain_ok {l : Ln} (h : okL l = true) : okL (plainL l) = true := by
  simp only [okL, Bool.and_eq_true] at h ⊢
  obtain ⟨⟨⟨⟨⟨a, b⟩, _⟩, _⟩, _⟩, _⟩ := h
  exact ⟨⟨⟨⟨⟨a, b⟩, (show inB 2 2 100000 = true by decide)⟩, (show inB 0 0 1000000000 = true by decide)⟩, (show inB 0 (-100000) 100000 = true by decide)⟩, (show inB 0 0 ((2 - 1) / 2) = true by decide)⟩
theorem two_256 (b : Int) (hb : 0 ≤ b) : (2 : Int) ^ b.toNat ≤ 256 ^ many8 b := by
  have h1 : b.toNat ≤ 8 * many8 b := by unfold many8; omega
  have h2 : 2 ^ b.toNat ≤ 2 ^ (8 * many8 b) := Nat.pow_le_pow_right (by omega) h1
  rw [Nat.pow_mul] at h2
  have h3 : ((2 ^ b.toNat : Nat) : Int) ≤ (((2 ^ 8) ^ many8 b : Nat) : Int) := Int.ofNat_le.2 h2
  simpa using h3
theorem wordsE_parts {l : Ln} {ws : List Int} (h : wordsE l ws = 0) : (ws.length : Int) = l.words ∧ ∀ x ∈ ws, 0 ≤ x ∧ x ≤ 2 ^ l.bits.toNat - 1 := by
  unfold wordsE at h
  by_cases h1 : (ws.length : Int) ≠ l.words
  · rw [if_pos h1] at h; simp at h
  · rw [if_neg h1] at h
    refine ⟨by omega, fun x hx => ?_⟩
    by_cases h2 : ws.any (fun n => !inB n 0 (2 ^ l.bits.toNat - 1)) = true
    · rw [if_pos h2] at h; simp at h
    · rw [List.any_eq_true] at h2
      have h3 : inB x 0 (2 ^ l.bits.toNat - 1) = true := by
        cases hb : inB x 0 (2 ^ l.bits.toNat - 1) with
        | true => rfl
        | false => exact absurd ⟨x, hx, by rw [hb]; rfl⟩ h2
      exact inB_bd h3
theorem file_words {l : Ln} {ws : List Int} (h : okL l = true) (hw : wordsE l ws = 0) : wordsF (fileF l ws) = ws := by
  have hb := (okL_ok h).bits
  obtain ⟨hl, hx⟩ := wordsE_parts hw
  have e2 : (byteF (fileF l ws) 2).toNat = ws.length := by
    show l.words.toNat = ws.length
    omega
  refine List.ext_getElem? fun k => ?_
  unfold wordsF
  rw [e2]
  by_cases hk : k < ws.length
  · rw [fstN_get _ hk, List.getElem?_eq_getElem hk]
    congr 1
    unfold wordF
    have e3 : sizeF (fileF l ws) = many8 l.bits := rfl
    rw [e3, accD_congr (many8 l.bits) (g := fun j => (ws[k]?.getD 0) / 2 ^ (8 * j) % 256) (fun j hj => file_get hk hj)]
    have e4 : ws[k]?.getD 0 = ws[k] := by rw [List.getElem?_eq_getElem hk]; rfl
    have h5 := hx ws[k] (List.getElem_mem hk)
    have h6 := two_256 l.bits (by omega)
    rw [e4]
    exact accD_bytes _ _ h5.1 (by omega)
  · rw [List.getElem?_eq_none (by rw [fstN_length]; omega), List.getElem?_eq_none (by omega)]
theorem file_sum {l : Ln} {ws : List Int} : sum8 (fileF l ws) = 0 := by
  unfold fileF
  rw [sum8_snoc]
  generalize sum8 _ = z
  omega
theorem file_small {l : Ln} {ws : List Int} (h : okL l = true) (hw : wordsE l ws = 0) : 5 ≤ (fileF l ws).length ∧ (fileF l ws).length ≤ 400 := by
  have hk := okL_ok h
  have h1 := hk.words
  have h2 := hk.bits
  have h3 := (wordsE_parts hw).1
  have h4 : many8 l.bits ≤ 5 := by unfold many8; omega
  have h5 : ws.length * many8 l.bits ≤ 64 * 5 := Nat.mul_le_mul (by omega) h4
  rw [file_len]
  omega
/-- a file of words is read as the words -/
theorem read_write {l : Ln} {ws : List Int} (h : okL l = true) (hw : wordsE l ws = 0) : readF (fileF l ws) = (l.words, l.bits, ws, 0) := by
  have hs := file_small h hw
  have hl := (wordsE_parts hw).1
  have hg : goodF (fileF l ws) = true := by
    refine good_yes (head_yes file_sum (by omega) rfl (plain_ok h)) ?_ ?_
    · rw [file_len]
      show 5 + ws.length * many8 l.bits = 5 + l.words.toNat * many8 l.bits
      rw [show l.words.toNat = ws.length by omega]
    · rw [file_words h hw]
      exact hw
  rw [readF_good hs.2 hg, file_words h hw]
  rfl
/-- what is read is written as the bytes -/
theorem write_read {bs : List Int} (hB : ∀ x ∈ bs, 0 ≤ x ∧ x ≤ 255) (h : (readF bs).2.2.2 = 0) : readF bs = (byteF bs 2, byteF bs 3, wordsF bs, 0) ∧ writeE (lineF bs) (wordsF bs) = (bs, 0) := by
  by_cases hl : 400 < bs.length
  · rw [readF_long hl] at h; simp at h
  · cases hg : goodF bs with
    | false => rw [readF_bad (by omega) hg] at h; simp at h
    | true =>
      refine ⟨readF_good (by omega) hg, ?_⟩
      have hg2 := hg
      unfold goodF headB at hg2
      simp only [Bool.and_eq_true, beq_iff_eq] at hg2
      obtain ⟨⟨⟨_, ho⟩, hn⟩, hw⟩ := hg2
      have hr := file_right hB ho hn hw
      rw [hg] at hr
      have e : fileF (lineF bs) (wordsF bs) = bs := of_decide_eq_true hr.symm
      unfold writeE
      rw [if_neg (by unfold checkL; rw [if_pos ho]; decide), if_neg (by rw [hw]; decide), e]
theorem foldl_mod : ∀ (xs : List Int) (a : Int), xs.foldl (fun a x => (a + x) % 256) a % 256 = (a + xs.sum) % 256
  | [], a => by simp
  | x :: xs, a => by
    rw [List.foldl_cons, foldl_mod xs, List.sum_cons]
    omega
theorem sum8_sum (xs : List Int) : sum8 xs = xs.sum % 256 := by
  have h := foldl_mod xs 0
  have h2 := sum8_bd xs
  unfold sum8 at h2 ⊢
  omega
theorem sum_set : ∀ (xs : List Int) (k : Nat) (y : Int), k < xs.length → (xs.set k y).sum = xs.sum - byteF xs k + y
  | [], k, y, hk => absurd hk (by simp)
  | x :: xs, 0, y, _ => by
    have : byteF (x :: xs) 0 = x := rfl
    rw [List.set_cons_zero, List.sum_cons, List.sum_cons, this]
    omega
  | x :: xs, k + 1, y, hk => by
    have h := sum_set xs k y (by simpa using hk)
    have : byteF (x :: xs) (k + 1) = byteF xs k := rfl
    rw [List.set_cons_succ, List.sum_cons, List.sum_cons, this, h]
    omega
/-- a byte that is another one -/
theorem forged_bad {bs : List Int} {k : Nat} {d : Int} (hs : sum8 bs = 0) (hl : bs.length ≤ 400) (hk : k < bs.length) (h1 : 1 ≤ d) (h2 : d ≤ 255) : readF (bs.set k ((byteF bs k + d) % 256)) = (0, 0, [], 6) := by
  refine readF_bad (by rw [List.length_set]; exact hl) (goodF_head (head_sum ?_))
  rw [sum8_sum, sum_set _ _ _ hk]
  rw [sum8_sum] at hs
  omega
theorem forged_bd {bs : List Int} {k : Nat} {y : Int} (hB : ∀ x ∈ bs, 0 ≤ x ∧ x ≤ 255) : ∀ x ∈ bs.set k (y % 256), 0 ≤ x ∧ x ≤ 255 := by
  intro x hx
  rcases List.mem_or_eq_of_mem_set hx with h | rfl
  · exact hB x h
  · omega
theorem write_good2 {l : Ln} {ws : List Int} (h : okL l = true) (hw : wordsE l ws = 0) : writeE l ws = (fileF l ws, 0) := by
  unfold writeE
  rw [if_neg (by unfold checkL; rw [if_pos h]; decide), if_neg (by rw [hw]; decide)]
/-- what Write refuses has no bytes -/
theorem write_cases (l : Ln) (ws : List Int) : (∃ x, x ≠ 0 ∧ writeE l ws = ([], x)) ∨ (okL l = true ∧ wordsE l ws = 0 ∧ writeE l ws = (fileF l ws, 0)) := by
  cases h : okL l with
  | false => exact .inl ⟨7, by decide, by unfold writeE; rw [if_pos (by unfold checkL; rw [h]; decide)]; unfold checkL; rw [h]; rfl⟩
  | true =>
    by_cases hw : wordsE l ws = 0
    · exact .inr ⟨rfl, hw, write_good2 h hw⟩
    · exact .inl ⟨_, hw, by unfold writeE; rw [if_neg (by unfold checkL; rw [if_pos h]; decide), if_pos hw]⟩
theorem write_bd {l : Ln} {ws : List Int} : ∀ x ∈ (writeE l ws).1, 0 ≤ x ∧ x ≤ 255 := by
  rcases write_cases l ws with ⟨x, _, e⟩ | ⟨h, _, e⟩
  · rw [e]; intro y hy; simp at hy
  · have hk := okL_ok h
    have h1 := hk.words
    have h2 := hk.bits
    rw [e]
    exact file_bd ⟨by omega, by omega⟩ ⟨by omega, by omega⟩
theorem read_small {bs : List Int} (hB : ∀ x ∈ bs, 0 ≤ x ∧ x ≤ 255) : (readF bs).2.2.1.length ≤ 255 := by
  have h2 := byteF_bd hB 2
  unfold readF
  split
  · simp
  · split
    · show (wordsF bs).length ≤ 255
      unfold wordsF
      rw [fstN_length]
      omega
    · simp
end Go.Q

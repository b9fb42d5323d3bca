/- Layer 1 in plain Lean: a file is right if and only if it is the file of its words. -/
import Derived.Test.YtkkchoinfdfiaaaN10
set_option linter.unusedVariables false
set_option linter.unusedSimpArgs false
namespace Go.Q
theorem wbytes_accD : ∀ (m : Nat) {f : Nat → Int}, (∀ j, j < m → 0 ≤ f j ∧ f j ≤ 255) → wbytes (accD f m) m = fstN f m
  | 0, _, _ => rfl
  | m + 1, f, h => by
    have h0 := h 0 (by omega)
    have ih := wbytes_accD m (f := fun j => f (j + 1)) (fun j hj => h (j + 1) (by omega))
    have hA := accD_bd m (f := fun j => f (j + 1)) (fun j hj => h (j + 1) (by omega))
    unfold wbytes fstN at ih ⊢
    rw [List.range_succ_eq_map, List.map_cons, List.map_cons, List.map_map, List.map_map]
    have e0 : accD f (m + 1) = accD (fun j => f (j + 1)) m * 256 + f 0 := rfl
    rw [e0]
    generalize accD (fun j => f (j + 1)) m = A at *
    congr 1
    · simp; omega
    · have e1 : (List.range m).map ((fun i => (A * 256 + f 0) / 2 ^ (8 * i) % 256) ∘ Nat.succ) = (List.range m).map fun i => A / 2 ^ (8 * i) % 256 := by
        refine List.map_congr_left fun i _ => ?_
        have e2 : (2 : Int) ^ (8 * (i + 1)) = 256 * 2 ^ (8 * i) := by rw [Nat.mul_add, Int.pow_add, Int.mul_comm]; rfl
        show (A * 256 + f 0) / 2 ^ (8 * (i + 1)) % 256 = _
        rw [e2, ← Int.ediv_ediv_of_nonneg (by omega), show (A * 256 + f 0) / 256 = A by omega]
      rw [e1, ih]
      rfl
theorem fstN_add {α : Type} (f : Nat → α) (a : Nat) : ∀ b, fstN f (a + b) = fstN f a ++ fstN (fun i => f (a + i)) b
  | 0 => by simp [fstN]
  | b + 1 => by rw [← Nat.add_assoc, fstN_succ, fstN_add f a b, fstN_succ, List.append_assoc]
theorem flat_bytes (g : Nat → Int) (sz : Nat) (hg : ∀ i, 0 ≤ g i ∧ g i ≤ 255) : ∀ K, (fstN (fun k => accD (fun j => g (k * sz + j)) sz) K).flatMap (fun n => wbytes n sz) = fstN g (K * sz)
  | 0 => by simp [fstN]
  | K + 1 => by
    rw [fstN_succ, List.flatMap_append, flat_bytes g sz hg K, List.flatMap_cons, List.flatMap_nil, List.append_nil, wbytes_accD sz (fun j _ => hg _), Nat.add_mul, Nat.one_mul, fstN_add]
theorem body_bytes {bs : List Int} (hB : ∀ x ∈ bs, 0 ≤ x ∧ x ≤ 255) : bodyF (lineF bs) (wordsF bs) = [77, 76, byteF bs 2, byteF bs 3] ++ fstN (fun i => byteF bs (4 + i)) ((byteF bs 2).toNat * sizeF bs) := by
  unfold bodyF headF
  have h := flat_bytes (fun i => byteF bs (4 + i)) (sizeF bs) (fun i => byteF_bd hB _) (byteF bs 2).toNat
  have e : wordsF bs = fstN (fun k => accD (fun j => byteF bs (4 + (k * sizeF bs + j))) (sizeF bs)) (byteF bs 2).toNat := by
    unfold wordsF wordF
    congr 1
    funext k
    congr 1
    funext j
    rw [Nat.add_assoc]
  rw [e]
  have e2 : many8 (lineF bs).bits = sizeF bs := rfl
  rw [e2, h]
  rfl
theorem bytes_all {bs : List Int} {M : Nat} (h : bs.length = 5 + M) : bs = [byteF bs 0, byteF bs 1, byteF bs 2, byteF bs 3] ++ fstN (fun i => byteF bs (4 + i)) M ++ [byteF bs (4 + M)] := by
  have e : bs = fstN (byteF bs) bs.length := by
    refine List.ext_getElem? fun i => ?_
    by_cases hi : i < bs.length
    · rw [fstN_get _ hi]
      unfold byteF
      rw [List.getElem?_eq_getElem hi]
      rfl
    · rw [List.getElem?_eq_none (by omega), List.getElem?_eq_none (by rw [fstN_length]; omega)]
  have e2 := fstN_succ (fun i => byteF bs (4 + i)) M
  rw [h, show 5 + M = 4 + (M + 1) by omega, fstN_add, e2, ← List.append_assoc] at e
  exact e
theorem neg_sum {s x : Int} (hx : 0 ≤ x ∧ x ≤ 255) : (-s % 256 = x) ↔ (s + x) % 256 = 0 := by omega
/-- a file of the right length, of a line that is valid -/
theorem file_right {bs : List Int} (hB : ∀ x ∈ bs, 0 ≤ x ∧ x ≤ 255) (h4 : okL (lineF bs) = true) (hlen : bs.length = 5 + (byteF bs 2).toNat * sizeF bs) (hw : wordsE (lineF bs) (wordsF bs) = 0) :
    goodF bs = decide (fileF (lineF bs) (wordsF bs) = bs) := by
  have hb := body_bytes hB
  have ha := bytes_all hlen
  have hl := byteF_bd hB (4 + (byteF bs 2).toNat * sizeF bs)
  unfold fileF
  rw [hb]
  generalize hM : (byteF bs 2).toNat * sizeF bs = M at *
  generalize hF : fstN (fun i => byteF bs (4 + i)) M = F at *
  generalize hL : byteF bs (4 + M) = last at *
  by_cases hm : (byteF bs 0 == 77 && byteF bs 1 == 76) = true
  · have hm' := hm
    rw [Bool.and_eq_true, beq_iff_eq, beq_iff_eq] at hm'
    have e1 : bs = ([77, 76, byteF bs 2, byteF bs 3] ++ F) ++ [last] := by
      have := ha
      rw [hm'.1, hm'.2] at this
      exact this
    have e2 : sum8 bs = (sum8 ([77, 76, byteF bs 2, byteF bs 3] ++ F) + last) % 256 := by
      conv => lhs; rw [e1]
      rw [sum8_snoc]
    generalize hS : [77, 76, byteF bs 2, byteF bs 3] ++ F = S at *
    by_cases hs : sum8 bs = 0
    · have hg : goodF bs = true := good_yes (head_yes hs (by omega) hm h4) (by rw [hM]; exact hlen) hw
      rw [hg]
      symm
      rw [decide_eq_true_eq]
      rw [(neg_sum hl).2 (by omega)]
      exact e1.symm
    · rw [goodF_head (head_sum hs)]
      symm
      rw [decide_eq_false_iff_not]
      intro e
      rw [e1] at e
      have e3 : -sum8 S % 256 = last := by
        have := List.append_cancel_left e
        simpa using this
      have := (neg_sum hl).1 e3
      omega
  · have hm2 : (byteF bs 0 == 77 && byteF bs 1 == 76) = false := by simpa using hm
    rw [goodF_head (head_ml hm2)]
    symm
    rw [decide_eq_false_iff_not]
    intro e
    have e0 : byteF bs 0 = 77 := by unfold byteF; rw [← e]; rfl
    have e1 : byteF bs 1 = 76 := by unfold byteF; rw [← e]; rfl
    rw [e0, e1] at hm2
    simp at hm2
theorem file_bd {l : Ln} {ws : List Int} (h2 : 0 ≤ l.words ∧ l.words ≤ 255) (h3 : 0 ≤ l.bits ∧ l.bits ≤ 255) : ∀ x ∈ fileF l ws, 0 ≤ x ∧ x ≤ 255 := by
  intro x hx
  unfold fileF bodyF headF at hx
  rw [List.mem_append, List.mem_append, List.mem_singleton, List.mem_flatMap] at hx
  rcases hx with (hx | ⟨y, _, hx⟩) | rfl
  · have hx' : x = 77 ∨ x = 76 ∨ x = l.words ∨ x = l.bits := by simpa using hx
    rcases hx' with rfl | rfl | rfl | rfl <;> omega
  · unfold wbytes fstN at hx
    rw [List.mem_map] at hx
    obtain ⟨i, _, rfl⟩ := hx
    generalize y / 2 ^ (8 * i) = z
    omega
  · generalize sum8 _ = z
    omega
end Go.Q

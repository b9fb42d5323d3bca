/- Contracts of layer 1's reference: Joined; ones of the laws. -/
import Derived.Test.YtkkchoinfdfiaaaI4
set_option linter.unusedVariables false
set_option linter.unusedSimpArgs false
namespace Go.Q
/-- bits from place s on, d of them, the least one first -/
def horF (f : Nat → Bool) : Nat → Nat → Int
  | 0, _ => 0
  | d + 1, s => 2 * horF f d (s + 1) + b2i (f s)
theorem sumB_shift (g : Nat → Bool) : ∀ d, sumB g (d + 1) = 2 * sumB (fun j => g (j + 1)) d + b2i (g 0)
  | 0 => by
    unfold sumB b2i
    show sumB g 0 + _ = _
    unfold sumB
    cases g 0 <;> simp
  | d + 1 => by
    have ih := sumB_shift g d
    have e1 : sumB g (d + 1 + 1) = sumB g (d + 1) + (if g (d + 1) = true then 2 ^ (d + 1) else 0) := rfl
    have e2 : sumB (fun j => g (j + 1)) (d + 1) = sumB (fun j => g (j + 1)) d + (if g (d + 1) = true then 2 ^ d else 0) := rfl
    rw [e1, ih, e2, Int.pow_succ]
    split <;> omega
theorem horF_sum (f : Nat → Bool) : ∀ d s, horF f d s = sumB (fun j => f (s + j)) d
  | 0, s => rfl
  | d + 1, s => by
    unfold horF
    rw [sumB_shift, horF_sum f d (s + 1)]
    congr 2
    exact sumB_congr d fun i _ => by rw [show s + 1 + i = s + (i + 1) by omega]
theorem horF_bd (f : Nat → Bool) (d s : Nat) (hd : d ≤ 40) : 0 ≤ horF f d s ∧ horF f d s < 1099511627776 := by
  rw [horF_sum]
  have h := sumB_bd (fun j => f (s + j)) d
  have h2 : (2 : Int) ^ d ≤ 2 ^ 40 := by exact_mod_cast Nat.pow_le_pow_right (by decide) hd
  have e : (2 : Int) ^ 40 = 1099511627776 := by decide
  omega
/-- the words of pulses, as far as the pulses from the k-th on have been joined -/
def joinV (bits : Nat) (ps : List Bool) (k i : Nat) : Int := horF (fun j => ps[i * bits + j]?.getD false) (bits - (k - i * bits)) (k - i * bits)
def joinK (bits m : Nat) (ps : List Bool) (k : Nat) : List Int := fstN (joinV bits ps k) m
theorem joinK_length (bits m : Nat) (ps : List Bool) (k : Nat) : (joinK bits m ps k).length = m := fstN_length _ _
theorem joinK_get {bits m : Nat} {ps : List Bool} {k i : Nat} (h : i < m) : (joinK bits m ps k)[i]?.getD 0 = joinV bits ps k i := by unfold joinK; rw [fstN_get _ h]; rfl
theorem joinK_start {bits m : Nat} {ps : List Bool} : joinK bits m ps (m * bits) = List.replicate m 0 := by
  refine list_ext (by rw [joinK_length, List.length_replicate]) fun i hi => ?_
  rw [joinK_length] at hi
  have h1 : (i + 1) * bits ≤ m * bits := Nat.mul_le_mul_right _ hi
  rw [Nat.add_mul] at h1
  unfold joinK joinV
  rw [fstN_get _ hi, List.getElem?_replicate, if_pos hi, show bits - (m * bits - i * bits) = 0 by omega]
  rfl
theorem joinK_end {bits m : Nat} {ps : List Bool} : joinK bits m ps 0 = wordsN bits m ps := by
  refine list_ext (by rw [joinK_length]; unfold wordsN; rw [fstN_length]) fun i hi => ?_
  rw [joinK_length] at hi
  unfold joinK joinV wordsN wordN
  rw [fstN_get _ hi, fstN_get _ hi, horF_sum, show bits - (0 - i * bits) = bits by omega]
  congr 1
  exact sumB_congr bits fun j _ => by rw [show 0 - i * bits + j = j by omega]
theorem joinK_step {bits m : Nat} {ps : List Bool} {k : Nat} (hb : 0 < bits) (hk : k < m * bits) : (joinK bits m ps (k + 1)).set (k / bits) (2 * joinV bits ps (k + 1) (k / bits) + b2i (ps[k]?.getD false)) = joinK bits m ps k := by
  have hi : k / bits < m := Nat.div_lt_of_lt_mul (by rw [Nat.mul_comm]; exact hk)
  have e : k = k / bits * bits + k % bits := by rw [Nat.mul_comm]; exact (Nat.div_add_mod k bits).symm
  have h2 := Nat.mod_lt k hb
  refine list_ext (by rw [List.length_set, joinK_length, joinK_length]) fun i h => ?_
  rw [List.length_set, joinK_length] at h
  rw [List.getElem?_set, joinK_length]
  by_cases he : k / bits = i
  · rw [if_pos he, if_pos hi]
    subst he
    unfold joinK joinV
    rw [fstN_get _ h]
    generalize hp : k / bits * bits = p at *
    rw [show k + 1 - p = k % bits + 1 by omega, show k - p = k % bits by omega, show bits - k % bits = (bits - (k % bits + 1)) + 1 by omega]
    have e3 : ∀ f d s, horF f (d + 1) s = 2 * horF f d (s + 1) + b2i (f s) := fun _ _ _ => rfl
    rw [e3, show p + k % bits = k by omega]
  · rw [if_neg he]
    unfold joinK joinV
    rw [fstN_get _ h, fstN_get _ h]
    rcases Nat.lt_or_gt_of_ne he with hlt | hgt
    · have h3 : (k / bits + 1) * bits ≤ i * bits := Nat.mul_le_mul_right _ hlt
      rw [Nat.add_mul] at h3
      rw [show k + 1 - i * bits = 0 by omega, show k - i * bits = 0 by omega]
    · have h3 : (i + 1) * bits ≤ k / bits * bits := Nat.mul_le_mul_right _ hgt
      rw [Nat.add_mul] at h3
      rw [show bits - (k + 1 - i * bits) = 0 by omega, show bits - (k - i * bits) = 0 by omega]
      rfl
/-- how many pulses words have -/
def onesQ (ws : List Int) : Int := ((pulsesN 40 ws).count true : Nat)
theorem count_snoc (f : Nat → Bool) (j : Nat) : (((fstN f (j + 1)).count true : Nat) : Int) = ((fstN f j).count true : Nat) + b2i (f j) := by
  rw [fstN_succ, List.count_append]
  unfold b2i
  cases f j <;> simp
theorem count_rest {f : Nat → Bool} {j : Nat} (h : ∀ i, j ≤ i → f i = false) : ∀ n, j ≤ n → (fstN f n).count true = (fstN f j).count true := by
  intro n hn
  obtain ⟨d, rfl⟩ := Nat.exists_eq_add_of_le hn
  clear hn
  induction d with
  | zero => rfl
  | succ d ih =>
    rw [← Nat.add_assoc, fstN_succ, List.count_append, ih, h (j + d) (by omega)]
    rfl
theorem bitN_high {x : Int} {j : Nat} (h0 : 0 ≤ x) (h : x < 2 ^ j) (i : Nat) (hi : j ≤ i) : bitN x i = false := by
  unfold bitN
  have h2 : (2 : Int) ^ j ≤ 2 ^ i := by exact_mod_cast Nat.pow_le_pow_right (by decide : 0 < 2) hi
  rw [Int.ediv_eq_zero_of_lt h0 (by omega)]
  rfl
end Go.Q
namespace Go.Proofs.Ytkkchoinfdfiaaa
open Go.RowKit Go.Q Go.Shelf Go.Maps

set_option maxRecDepth 100000 in
set_option maxHeartbeats 4000000 in
theorem rjoined_any (bits m : Nat) (a : Option Addr) (n c : Nat) (ps : List Bool) (w : World) (hb0 : 1 ≤ bits) (hb : bits ≤ 40) (hm : m ≤ 64) (hn : ps.length = n) (hnm : n = m * bits) (hI : IntsAt w a (b2is ps)) :
    Calls Try.prog 32 #[.slice a n c, .int .i64 bits] w fun e w' => ∃ a' c', e = .returned (.slice a' m c') ∧ IntsAt w' a' (wordsN bits m ps) ∧ Ext w w' := by
  have hmk : ∀ W, (Instr.makeSlice 26 (.int .i64 m) (.int .i64 m)).run Try.prog W = .ok (.slice (some ⟨W.heap.size, 0, none⟩) m m) (W.alloc (.cells (Array.replicate m (.int .i64 0)) 3)) := fun W => makeI W m (by omega)
  have hdiv : (n : Int) / (bits : Int) = m := by rw [hnm, Int.natCast_mul, Int.mul_ediv_cancel _ (by omega)]
  have hn26 : n ≤ 2560 := by rw [hnm]; have := Nat.mul_le_mul hm hb; omega
  have hbne : ¬ bits = 0 := by omega
  have hbne2 : ((bits : Int) == 0) = false := by simp; omega
  have HNM := Lib.hid hnm
  have HN := Lib.hid hn
  clear hnm hn
  go_enter Try.func32, Try.ntmps32
  go_wp2
  have hb00 : (w.alloc (.cells (Array.replicate m (.int .i64 0)) 3)).heap[w.heap.size]? = some (.cells (iv (joinK bits m ps n)).toArray 3 (0, 0)) := by
    rw [HNM.out, joinK_start, ← iv_rep]
    exact heap_alloc_new w _
  have hE0 : Ext w (w.alloc (.cells (Array.replicate m (.int .i64 0)) 3)) := (Ext.refl w).alloc _
  clear hmk hdiv
  go_loopw [6] (fun s6 wr => ∃ k : Nat, k ≤ n ∧ s6 = .int .i64 ((k : Int) - 1) ∧ wr.heap[w.heap.size]? = some (.cells (iv (joinK bits m ps k)).toArray 3 (0, 0)) ∧ Ext w wr) (fun s6 _ => (Go.RowKit.intOf s6 + 1).toNat)
  case atStart => exact ⟨n, Nat.le_refl _, rfl, hb00, hE0⟩
  case round =>
    clear hb00 hE0
    obtain ⟨k, hk, rfl, hbx, EX⟩ := hrel
    obtain ⟨X, rfl⟩ : ∃ X : World, X = wr := ⟨_, rfl⟩
    cases k with
    | zero =>
      have hltz : ¬ (0 : Int) ≤ ((0 : Nat) : Int) - 1 := by omega
      rw [joinK_end] at hbx
      have hE := ints_fresh5 hbx rfl
      go_wp2
      refine bodyPost_ret (v := .slice (some ⟨w.heap.size, 0, none⟩) m m) (by simp [results, Try.results32, go_sem]) rfl ?_
      exact ⟨some ⟨w.heap.size, 0, none⟩, ⟨m, rfl⟩, hE, EX⟩
    | succ k =>
      rw [show (((k + 1 : Nat) : Int) - 1) = (k : Int) by omega]
      have hltz : (0 : Int) ≤ (k : Int) := by omega
      have hkn : (k : Int) < (n : Int) := by omega
      rcases hI with e | ⟨b, off, rfl, hbl, hc⟩
      · have := congrArg List.length e
        rw [b2is_length, HN.out] at this
        simp at this
        omega
      have hx := (EX.cell (p := ⟨b, off + k, none⟩) hbl).trans (hc k (by rw [b2is_length, HN.out]; omega))
      rw [b2is_get] at hx
      have hst := Lib.hid (joinK_step (bits := bits) (m := m) (ps := ps) (k := k) (by omega) (by rw [← HNM.out]; omega))
      have hpm : k / bits < m := Nat.div_lt_of_lt_mul (by rw [Nat.mul_comm, ← HNM.out]; omega)
      have hbc := blk_cell hbx (k / bits) (v := .int .i64 (joinV bits ps (k + 1) (k / bits))) (by rw [List.getElem?_toArray, iv_get _ _ (by rw [joinK_length]; exact hpm), joinK_get hpm])
      have hbf := blk_free hbx (k / bits)
      have hvb := horF_bd (fun j => ps[k / bits * bits + j]?.getD false) (bits - (k + 1 - k / bits * bits)) (k + 1 - k / bits * bits) (by omega)
      have hve : horF (fun j => ps[k / bits * bits + j]?.getD false) (bits - (k + 1 - k / bits * bits)) (k + 1 - k / bits * bits) = joinV bits ps (k + 1) (k / bits) := rfl
      rw [hve] at hvb
      have hxb : 0 ≤ b2i (ps[k]?.getD false) ∧ b2i (ps[k]?.getD false) ≤ 1 := by unfold b2i; split <;> omega
      obtain ⟨v, hv⟩ : ∃ v, joinV bits ps (k + 1) (k / bits) = v := ⟨_, rfl⟩
      obtain ⟨x, hxe⟩ : ∃ x, b2i (ps[k]?.getD false) = x := ⟨_, rfl⟩
      obtain ⟨p, hp⟩ : ∃ p, k / bits = p := ⟨_, rfl⟩
      have htd : ((k : Int)).tdiv (bits : Int) = (p : Int) := by rw [Int.tdiv_eq_ediv_of_nonneg (by omega), ← hp]; exact (Int.natCast_ediv k bits).symm
      rw [hv] at hbc hvb hst
      rw [hxe] at hx hxb hst
      rw [hp] at hbc hbf hpm hst
      clear hv hxe hp hve
      obtain ⟨hv0, hv1⟩ := hvb
      obtain ⟨hx0, hx1⟩ := hxb
      have hp0 : (0 : Int) ≤ (p : Int) := by omega
      have hp1 : (p : Int) < (m : Int) := by omega
      have w1 : IntKind.i64.wrap (p : Int) = p := IntWalk.i64_in _ (by omega)
      have w2 : IntKind.i64.wrap (2 * v) = 2 * v := IntWalk.i64_in _ (by omega)
      have w3 : IntKind.i64.wrap (2 * v + x) = 2 * v + x := IntWalk.i64_in _ (by omega)
      go_wp2
      go_region_law (fail)
      all_goals
        go_wp2_with fail
        refine ⟨⟨k, by omega, rfl, ?_, ?_⟩, by (try simp [Go.RowKit.intOf]) <;> omega⟩
        · show (X.setCell ⟨w.heap.size, p, none⟩ (.int .i64 (2 * v + x))).heap[w.heap.size]? = _
          rw [← hst.out]
          exact set_iv hbx
        · exact ((EX.setCell (p := ⟨w.heap.size, p, none⟩) (Nat.le_refl _) _).drew)
set_option maxRecDepth 100000 in
set_option maxHeartbeats 4000000 in
theorem ones_any (a : Option Addr) (n c : Nat) (ws : List Int) (w : World) (hn : ws.length = n) (hbig : n ≤ 64) (hI : IntsAt w a ws) (hw : ∀ x ∈ ws, 0 ≤ x ∧ x < 1099511627776) :
    Calls Try.prog 31 #[.slice a n c] w fun e w' => e = .returned (.int .i64 (onesQ ws)) ∧ w' = w := by
  have hcell : ∀ k, k < n → ∃ b off, a = some ⟨b, off, none⟩ ∧ w.cell? ⟨b, off + k, none⟩ = some (.int .i64 (ws[k]?.getD 0)) ∧ 0 ≤ ws[k]?.getD 0 ∧ ws[k]?.getD 0 < 1099511627776 := by
    intro k hk
    rcases hI with e | ⟨b, off, ha, hb, hc⟩
    · rw [e] at hn; simp at hn; omega
    · refine ⟨b, off, ha, hc k (by omega), ?_⟩
      rw [List.getElem?_eq_getElem (by omega)]
      exact hw _ (List.getElem_mem _)
  have HC := Lib.hid hcell
  have HN := Lib.hid hn
  clear hcell hn hI hw
  have hcb : ∀ k, k ≤ n → 0 ≤ onesQ (ws.take k) ∧ onesQ (ws.take k) ≤ 2560 := by
    intro k hk
    have h1 : (pulsesN 40 (ws.take k)).count true ≤ (pulsesN 40 (ws.take k)).length := List.count_le_length
    rw [pulsesN_length, List.length_take] at h1
    unfold onesQ
    omega
  have HCB := Lib.hid hcb
  clear hcb
  go_enter Try.func31, Try.ntmps31
  go_wp2
  go_loopw [3, 4] (fun s3 s4 wr => ∃ k : Nat, k ≤ n ∧ s4 = .int .i64 k ∧ s3 = .int .i64 (onesQ (ws.take k)) ∧ wr = w) (fun _ s4 _ => n - (Go.RowKit.intOf s4).toNat)
  case atStart => exact ⟨0, Nat.zero_le _, rfl, by simp [onesQ, pulsesN], rfl⟩
  case round =>
    obtain ⟨k, hk, rfl, rfl, rfl⟩ := hrel
    by_cases hlt : k < n
    · have hltz : (k : Int) < (n : Int) := by omega
      obtain ⟨b, off, rfl, hc, hx0, hx1⟩ := HC.out k hlt
      obtain ⟨x, hx⟩ : ∃ x, ws[k]?.getD 0 = x := ⟨_, rfl⟩
      rw [hx] at hc hx0 hx1
      have hcb := HCB.out k hk
      have HS := Lib.hid (show onesQ (ws.take (k + 1)) = onesQ (ws.take k) + ((fstN (bitN x) 40).count true : Nat) by
        unfold onesQ
        rw [← pulses_step 40 ws k x (by rw [HN.out]; exact hlt) hx, List.count_append]
        unfold pulse1
        omega)
      obtain ⟨q, hq⟩ : ∃ q, onesQ (ws.take k) = q := ⟨_, rfl⟩
      rw [hq] at hcb HS ⊢
      obtain ⟨hcb0, hcb1⟩ := hcb
      clear hx hq
      go_wp2
      go_loopw [3, 5] (fun s3 s5 V => ∃ j : Nat, j ≤ 40 ∧ s5 = .int .i64 (x / 2 ^ j) ∧ s3 = .int .i64 (q + ((fstN (bitN x) j).count true : Nat)) ∧ V = wr) (fun _ s5 _ => (Go.RowKit.intOf s5).toNat)
      case atStart => exact ⟨0, Nat.zero_le _, by simp, by simp [fstN], rfl⟩
      case round =>
        obtain ⟨j, hj, rfl, rfl, rfl⟩ := hrel
        obtain ⟨hy0, hy1⟩ := half_bd hx0 (by omega) j
        have HB := Lib.hid (bitN_b2i x j)
        have HH := Lib.hid (half_step x j)
        have HCS := Lib.hid (count_snoc (bitN x) j)
        have hcl : (fstN (bitN x) j).count true ≤ 40 := Nat.le_trans List.count_le_length (by rw [fstN_length]; exact hj)
        obtain ⟨y, hye⟩ : ∃ y, x / 2 ^ j = y := ⟨_, rfl⟩
        obtain ⟨z, hze⟩ : ∃ z, (fstN (bitN x) j).count true = z := ⟨_, rfl⟩
        rw [hye] at hy0 hy1 HB HH
        rw [hze] at HCS hcl
        have HYE := Lib.hid hye
        have HZE := Lib.hid hze
        rw [hye, hze]
        clear hye hze
        by_cases hpos : 0 < y
        · have hj40 : j < 40 := by
            rcases Nat.lt_or_ge j 40 with h | h
            · exact h
            · exfalso
              obtain rfl : j = 40 := by omega
              have : x / 2 ^ 40 = 0 := Int.ediv_eq_zero_of_lt hx0 hx1
              have := HYE.out
              omega
          go_wp2
          go_roundw
          case rel => exact ⟨j + 1, by omega, by rw [← HH.out], by rw [HCS.out, ← HB.out, Int.add_assoc], (by first | rfl | trivial)⟩
          case measure => simp [Go.RowKit.intOf]; omega
        · have hyz : y = 0 := by omega
          have HF := Lib.hid (show q + (z : Int) = onesQ (ws.take (k + 1)) by
            rw [HS.out, ← HZE.out]
            congr 2
            refine (count_rest (f := bitN x) (j := j) (fun i hi => bitN_high hx0 ?_ i hi) 40 hj).symm
            have hp : (0 : Int) < 2 ^ j := Int.pow_pos (by decide)
            have h1 := HYE.out
            rw [hyz] at h1
            have h2 := Int.emod_add_mul_ediv x (2 ^ j)
            have h3 := Int.emod_lt_of_pos x hp
            rw [h1, Int.mul_zero] at h2
            omega)
          clear hyz
          go_wp2
          go_roundw
          case rel => exact ⟨k + 1, by omega, by go_num, by rw [HF.out], (by first | rfl | trivial)⟩
          case measure => simp [Go.RowKit.intOf]; omega
    · have hltz : ¬ (k : Int) < (n : Int) := by omega
      obtain rfl : k = n := by omega
      rw [show onesQ (ws.take k) = onesQ ws by rw [List.take_of_length_le (by rw [HN.out]; exact Nat.le_refl _)]]
      go_wp2
      exact bodyPost_ret (v := .int .i64 (onesQ ws)) (by simp [results, Try.results31, go_sem]) rfl ⟨rfl, rfl⟩
end Go.Proofs.Ytkkchoinfdfiaaa

/- Contracts: line.Write whole; the reference's Sum, file, Write. -/
import Derived.Test.YtkkchoinfdfiaaaLR4
import Derived.Test.YtkkchoinfdfiaaaI6
set_option linter.unusedVariables false
set_option linter.unusedSimpArgs false
namespace Go.Q
open Go.RowKit
theorem writeE_line {l : Ln} {ws : List Int} (h : checkL l ≠ 0) : writeE l ws = ([], checkL l) := by unfold writeE; rw [if_pos h]
theorem writeE_words {l : Ln} {ws : List Int} (h : checkL l = 0) (h2 : wordsE l ws ≠ 0) : writeE l ws = ([], wordsE l ws) := by unfold writeE; rw [if_neg (by omega), if_pos h2]
theorem writeE_good {l : Ln} {ws : List Int} (h : checkL l = 0) (h2 : wordsE l ws = 0) : writeE l ws = (fileF l ws, 0) := by unfold writeE; rw [if_neg (by omega), if_neg (by omega)]
end Go.Q
namespace Go.Proofs.Ytkkchoinfdfiaaa
open Go.RowKit Go.Q Go.Shelf Go.Maps

def WriteRes (r : List Int × Int) (w : World) (e : Ending) (w' : World) : Prop := ∃ a c, e = .returned (.tuple #[.slice a r.1.length c, .int .i64 r.2]) ∧ (r.1.length ≤ c ∧ c ≤ 9223372036854775807) ∧ BytesAt w' a r.1 ∧ Ext w w'
theorem own_cap {w : World} {B t sz n c : Nat} {a : Option Addr} {xs : List Value} (h : w.ownsRow B t sz (.slice a n c) n xs) : n ≤ c ∧ c ≤ 9223372036854775807 := by
  rcases h.2 with ⟨h1, h2⟩ | ⟨g, cap, cur, h1, h2, h3, h4, h5, h6⟩
  · obtain ⟨-, h8, h9⟩ := Value.slice.inj h1
    omega
  · obtain ⟨-, -, rfl⟩ := Value.slice.inj h1
    unfold maxLen at h5
    omega
set_option maxHeartbeats 1000000 in
theorem Write_any (l : Ln) (a : Option Addr) (n c : Nat) (ws : List Int) (w : World) (hn : ws.length = n) (hbig : n ≤ 9223372036854775807) (hI : IntsAt w a ws) :
    Calls Try.prog 49 #[.agg #[.int .i64 l.words, .int .i64 l.bits, .int .i64 l.period, .int .i64 l.delay, .int .i64 l.slope, .int .i64 l.window], .slice a n c] w (WriteRes (writeE l ws) w) := by
  have hck := fun W => check_any l W
  cases hok : okL l with
  | false =>
    rw [writeE_line (by rw [checkL_no hok]; decide), checkL_no hok]
    rw [checkL_no hok] at hck
    clear hok hI hn
    go_enter Try.func49, Try.ntmps49
    go_wp2_with fail
    refine (hck _).mono ?_
    rintro e w1 ⟨rfl, E1⟩
    go_wp2
    go_ret2
    exact ⟨none, 0, rfl, ⟨Nat.le_refl _, by omega⟩, .inl rfl, E1.old⟩
  | true =>
    by_cases hw : wordsE l ws = 0
    · rw [writeE_good (checkL_of hok) hw]
      refine (Write_good l a n c ws w hok hn hI hw).mono ?_
      rintro e w' ⟨v, rfl, hown, E⟩
      obtain ⟨av, cv, rfl⟩ := own_formU hown
      exact ⟨av, cv, rfl, own_cap hown, own_bytes hown, E⟩
    · rw [writeE_words (checkL_of hok) hw]
      rw [checkL_of hok] at hck
      have htc := fun W (E : Ext w W) => tcheck_any l a n c ws W (okL_ok hok) hn hbig (hI.ext E)
      obtain ⟨y, hy⟩ : ∃ y, wordsE l ws = y := ⟨_, rfl⟩
      rw [hy] at htc hw ⊢
      have hyb : (y == 0) = false := by simpa using hw
      have hyb2 : (y != 0) = true := by simpa using hw
      clear hok hI hn hy hw
      go_enter Try.func49, Try.ntmps49
      go_wp2_with fail
      refine (hck _).mono ?_
      rintro e w1 ⟨rfl, E1⟩
      have q0 := box_at (v := .int .i64 l.words) E1 0 rfl
      have q1 := box_at (v := .int .i64 l.bits) E1 1 rfl
      have q2 := box_at (v := .int .i64 l.period) E1 2 rfl
      have q3 := box_at (v := .int .i64 l.delay) E1 3 rfl
      have q4 := box_at (v := .int .i64 l.slope) E1 4 rfl
      have q5 := box_at (v := .int .i64 l.window) E1 5 rfl
      go_wp2_with fail
      refine (htc _ E1.old).mono ?_
      rintro e w2 ⟨rfl, E2⟩
      go_wp2
      go_ret2
      exact ⟨none, 0, rfl, ⟨Nat.le_refl _, by omega⟩, .inl rfl, E1.old.comp E2⟩
set_option maxHeartbeats 1000000 in
theorem rsum_any (a : Option Addr) (n c : Nat) (xs : List Int) (w : World) (hn : xs.length = n) (hbig : n ≤ 9223372036854775807) (hI : BytesAt w a xs) :
    Calls Try.prog 99 #[.slice a n c] w fun e w' => e = .returned (.int .u8 (sum8 xs)) ∧ w' = w := by
  have hcell : ∀ k, k < n → ∃ b off, a = some ⟨b, off, none⟩ ∧ w.cell? ⟨b, off + k, none⟩ = some (.int .u8 (xs[k]?.getD 0)) := by
    intro k hk
    rcases hI with e | ⟨b, off, ha, hb, hc⟩
    · rw [e] at hn; simp at hn; omega
    · exact ⟨b, off, ha, hc k (by omega)⟩
  have HC := Lib.hid hcell
  have HN := Lib.hid hn
  clear hcell hn hI
  go_enter Try.func99, Try.ntmps99
  go_wp2
  go_loopw [3, 4] (fun s3 s4 wr => ∃ k : Nat, k ≤ n ∧ s4 = .int .i64 k ∧ s3 = .int .u8 (sum8 (xs.take k)) ∧ wr = w) (fun _ s4 _ => n - (Go.RowKit.intOf s4).toNat)
  case atStart => exact ⟨0, Nat.zero_le _, rfl, by simp [sum8], rfl⟩
  case round =>
    obtain ⟨k, hk, rfl, rfl, rfl⟩ := hrel
    obtain ⟨y, hy⟩ : ∃ y, sum8 (xs.take k) = y := ⟨_, rfl⟩
    have hyb := sum8_bd (xs.take k)
    rw [hy] at hyb ⊢
    have HY := Lib.hid hy
    clear hy
    by_cases hlt : k < n
    · have hltz : (k : Int) < (n : Int) := by omega
      obtain ⟨b, off, rfl, hc⟩ := HC.out k hlt
      obtain ⟨x, hx⟩ : ∃ x, xs[k]?.getD 0 = x := ⟨_, rfl⟩
      rw [hx] at hc
      have hw8 := IntKind.wrap_u8 (y + x)
      have HX := Lib.hid (show sum8 (xs.take (k + 1)) = (y + x) % 256 by rw [take_snoc (by rw [HN.out]; exact hlt) 0 hx, sum8_snoc, HY.out])
      clear hx
      go_wp2
      go_roundw
      case rel => exact ⟨k + 1, by omega, by go_num, by rw [HX.out], trivial⟩
      case measure => simp [Go.RowKit.intOf]; omega
    · have hltz : ¬ (k : Int) < (n : Int) := by omega
      obtain rfl : k = n := by omega
      go_wp2
      refine bodyPost_ret (v := .int .u8 y) (by simp [results, Try.results99, go_sem]) rfl ⟨?_, rfl⟩
      rw [← HY.out, List.take_of_length_le (by rw [HN.out]; exact Nat.le_refl _)]

set_option maxRecDepth 100000 in
set_option maxHeartbeats 4000000 in
theorem rfile_any (l : Ln) (a : Option Addr) (n c : Nat) (ws : List Int) (w : World) (h : OkL l) (hn : ws.length = n) (hI : IntsAt w a ws) (hwl : (n : Int) = l.words) (hwb : ∀ x ∈ ws, 0 ≤ x ∧ x ≤ 1099511627775) :
    Calls Try.prog 80 #[.slice a n c, .int .i64 l.bits] w fun e w' => ∃ v, e = .returned v ∧ w'.ownsRow w.heap.size 5 1 v (fileF l ws).length (ub (fileF l ws)) ∧ Ext w w' := by
  have HN := Lib.hid hn
  have hbt := h.bits
  have hwt := h.words
  have hn64 : n ≤ 64 := by omega
  have hcell : ∀ W, Ext w W → ∀ k, k < n → ∃ b off, a = some ⟨b, off, none⟩ ∧ W.cell? ⟨b, off + k, none⟩ = some (.int .i64 (ws[k]?.getD 0)) ∧ (0 ≤ ws[k]?.getD 0 ∧ ws[k]?.getD 0 ≤ 1099511627775) ∧ (headF l ++ (ws.take k).flatMap fun n => wbytes n (many8 l.bits)).length ≤ 400 := by
    intro W E k hk
    have hm : many8 l.bits ≤ 5 := by unfold many8; omega
    rcases hI with e | ⟨b, off, ha, hb, hc⟩
    · rw [e] at hn; simp at hn; omega
    · refine ⟨b, off, ha, (E.cell (p := ⟨b, off + k, none⟩) hb).trans (hc k (by omega)), ?_, body_len l ws k hm (by omega)⟩
      rw [List.getElem?_eq_getElem (by omega)]
      exact hwb _ (List.getElem_mem _)
  have hb400 : (bodyF l ws).length ≤ 400 := by
    have e := body_len l ws n (by unfold many8; omega) hn64
    rw [List.take_of_length_le (by omega)] at e
    exact e
  have HB400 := Lib.hid hb400
  have HC := Lib.hid hcell
  have wn : IntKind.u8.wrap (n : Int) = (n : Int) := by rw [IntKind.wrap_u8]; omega
  have wb : IntKind.u8.wrap l.bits = l.bits := by rw [IntKind.wrap_u8]; omega
  have hown0 : (w.alloc (.cells #[.int .u8 77, .int .u8 76, .int .u8 n, .int .u8 l.bits] 5)).ownsRow w.heap.size 5 1 (.slice (some ⟨w.heap.size, 0, none⟩) 4 4) (headF l ++ (ws.take 0).flatMap fun n => wbytes n (many8 l.bits)).length (ub (headF l ++ (ws.take 0).flatMap fun n => wbytes n (many8 l.bits))) := by
    refine ⟨by simp [headF, ub], .inr ⟨w.heap.size, 4, _, by simp [headF], Nat.le_refl _, heap_alloc_new _ _, by simp [headF], by decide, by simp, by simp [headF, ub, hwl]⟩⟩
  have EE0 : Ext w (w.alloc (.cells #[.int .u8 77, .int .u8 76, .int .u8 n, .int .u8 l.bits] 5)) := (Ext.refl w).alloc _
  clear hn hI hcell hb400 hwb hwl
  go_enter Try.func80, Try.ntmps80
  go_wp2_with fail
  generalize w.alloc (.cells #[.int .u8 77, .int .u8 76, .int .u8 n, .int .u8 l.bits] 5) = X0 at *
  have hm8 : (l.bits + 7) / 8 = ((many8 l.bits : Nat) : Int) := by unfold many8; omega
  have hm85 : many8 l.bits ≤ 5 := by unfold many8; omega
  obtain ⟨m8, hm8e⟩ : ∃ m8, many8 l.bits = m8 := ⟨_, rfl⟩
  have HM8 := Lib.hid hm8e
  have hbody : bodyF l ws = headF l ++ ws.flatMap fun n => wbytes n m8 := by unfold bodyF; rw [hm8e]
  have HBD := Lib.hid hbody
  rw [hm8e] at hown0 hm8 hm85
  simp only [hm8e] at HC
  clear hm8e hbody wn wb
  go_loopw [5, 6] (fun s5 s6 wr => ∃ k : Nat, k ≤ n ∧ s6 = .int .i64 k ∧ wr.ownsRow w.heap.size 5 1 s5 (headF l ++ (ws.take k).flatMap fun n => wbytes n m8).length (ub (headF l ++ (ws.take k).flatMap fun n => wbytes n m8)) ∧ Ext w wr) (fun _ s6 _ => n - (Go.RowKit.intOf s6).toNat)
  case atStart => exact ⟨0, Nat.zero_le _, rfl, hown0, EE0⟩
  case round =>
    clear hown0 EE0
    obtain ⟨k, hk, rfl, hown, EX⟩ := hrel
    obtain ⟨X, rfl⟩ : ∃ X : World, X = wr := ⟨_, rfl⟩
    by_cases hlt : k < n
    · have hltz : (k : Int) < (n : Int) := by omega
      obtain ⟨b, off, rfl, hc, hxb, hxs⟩ := HC.out X EX k hlt
      obtain ⟨x, hx⟩ : ∃ x, ws[k]?.getD 0 = x := ⟨_, rfl⟩
      rw [hx] at hc hxb
      obtain ⟨pre, hpre⟩ : ∃ pre, (headF l ++ (ws.take k).flatMap fun n => wbytes n m8) = pre := ⟨_, rfl⟩
      rw [hpre] at hown hxs
      obtain ⟨hx0, hx1⟩ := hxb
      have HX := Lib.hid (show (headF l ++ (ws.take (k + 1)).flatMap fun n => wbytes n m8) = pre ++ wbytes x m8 by
        rw [take_snoc (by rw [HN.out]; exact hlt) 0 hx, List.flatMap_append, ← List.append_assoc, hpre]; simp)
      clear hx hpre
      go_wp2_with fail
      go_loopw [5, 7, 8] (fun s5 s7 s8 Y => ∃ j : Nat, j ≤ m8 ∧ s8 = .int .i64 j ∧ s7 = .int .i64 (x / 2 ^ (8 * j)) ∧ Y.ownsRow w.heap.size 5 1 s5 (pre ++ wbytes x j).length (ub (pre ++ wbytes x j)) ∧ Ext w Y) (fun _ _ s8 _ => m8 - (Go.RowKit.intOf s8).toNat)
      case atStart => exact ⟨0, Nat.zero_le _, rfl, by simp, by simpa [wbytes, fstN] using hown, EX⟩
      case round =>
        clear hown EX
        obtain ⟨j, hj, rfl, rfl, hown, EY⟩ := hrel
        obtain ⟨Y, rfl⟩ : ∃ Y : World, Y = wr := ⟨_, rfl⟩
        have hlen : (pre ++ wbytes x j).length ≤ 405 := by rw [List.length_append]; unfold wbytes; rw [fstN_length]; omega
        have hYs := EY.size
        have hp2 : (0 : Int) < 2 ^ (8 * j) := Int.pow_pos (by decide)
        have hR0 : 0 ≤ x / 2 ^ (8 * j) := Int.ediv_nonneg hx0 (by omega)
        have hR1 : x / 2 ^ (8 * j) ≤ 1099511627775 := Int.le_trans (Int.ediv_le_self _ hx0) hx1
        have HRS := Lib.hid (show x / 2 ^ (8 * (j + 1)) = x / 2 ^ (8 * j) / 256 by
          rw [show (2 : Int) ^ (8 * (j + 1)) = 2 ^ (8 * j) * 256 by rw [Nat.mul_add, Int.pow_add]; rfl, Int.ediv_ediv_of_nonneg (by omega)])
        have HBY := Lib.hid (show pre ++ wbytes x (j + 1) = (pre ++ wbytes x j) ++ [x / 2 ^ (8 * j) % 256] by unfold wbytes; rw [fstN_succ, List.append_assoc])
        obtain ⟨R, hR⟩ : ∃ R, x / 2 ^ (8 * j) = R := ⟨_, rfl⟩
        rw [hR] at hR0 hR1 HRS HBY ⊢
        have w8 : IntKind.u8.wrap (R % 256) = R % 256 := by rw [IntKind.wrap_u8]; omega
        clear hR hp2
        by_cases hjl : j < m8
        · have hjz : (j : Int) < (m8 : Int) := by omega
          obtain ⟨i0, hi, hz0, hz1, hz2⟩ := info_parts Try.infoU
          go_wp2_with (at_builtin; refine wpList_append_own _ rfl _ _ 46 rfl w.heap.size 5 i0 (.int .u8 0) 1 1 Try.underlying46 hi hz0 hz1 hz2 rfl (by decide) _ _ _ rfl (hown.alloc _) ⟨Y.heap.size, 0, none⟩ 1 1 [.int .u8 (R % 256)] rfl rfl (cell_one_new _ _ _) (by simp [Value.oneCell']) (by unfold maxLen; omega) (by omega) (by simp; omega) ?_; intro v' w3 hown' hgrow hnil; clear hnil)
          have E3 : Ext w w3 := (EY.alloc _).grown hgrow (by simp; omega) (fun q e => (hown.lt q e).1)
          have hown3 : w3.ownsRow w.heap.size 5 1 v' (pre ++ wbytes x (j + 1)).length (ub (pre ++ wbytes x (j + 1))) := by
            rw [HBY.out, List.length_append]
            unfold ub at hown' ⊢
            rw [List.map_append]
            exact hown'
          clear hown hown' hgrow w8
          (try go_frame)
          go_wp2
          go_roundw
          case rel => exact ⟨j + 1, by omega, by go_num, by rw [HRS.out], hown3, E3⟩
          case measure => simp [Go.RowKit.intOf]; omega
        · have hjz : ¬ (j : Int) < (m8 : Int) := by omega
          obtain rfl : j = m8 := by omega
          clear w8
          go_wp2
          go_roundw
          case rel => exact ⟨k + 1, by omega, by go_num, by rw [HX.out]; exact hown, EY⟩
          case measure => simp [Go.RowKit.intOf]; omega
    · have hltz : ¬ (k : Int) < (n : Int) := by omega
      obtain rfl : k = n := by omega
      have hfin : (headF l ++ (ws.take k).flatMap fun n => wbytes n m8) = bodyF l ws := by rw [List.take_of_length_le (by rw [HN.out]; exact Nat.le_refl _), HBD.out]
      rw [hfin] at hown
      obtain ⟨av, cv, rfl⟩ := own_formU hown
      have hsum := rsum_any av _ cv (bodyF l ws) X rfl (by have := HB400.out; omega) (own_bytes hown)
      obtain ⟨i0, hi, hz0, hz1, hz2⟩ := info_parts Try.infoU
      have hXs := EX.size
      have hb400 := HB400.out
      have HFL := Lib.hid (show fileF l ws = bodyF l ws ++ [-sum8 (bodyF l ws) % 256] from rfl)
      obtain ⟨bd, hbd⟩ : ∃ bd, bodyF l ws = bd := ⟨_, rfl⟩
      rw [hbd] at hown hsum hb400 HFL ⊢
      have hs8 := sum8_bd bd
      obtain ⟨y, hy⟩ : ∃ y, sum8 bd = y := ⟨_, rfl⟩
      rw [hy] at hsum hs8
      have HY := Lib.hid hy
      clear hfin hbd hy
      go_wp2_with fail
      refine hsum.mono ?_
      rintro e w' ⟨rfl, rfl⟩
      go_wp2_with (at_builtin; refine wpList_append_own _ rfl _ _ 46 rfl w.heap.size 5 i0 (.int .u8 0) 1 1 Try.underlying46 hi hz0 hz1 hz2 rfl (by decide) _ _ _ rfl (hown.alloc _) ⟨w'.heap.size, 0, none⟩ 1 1 [.int .u8 (-y % 256)] rfl rfl (cell_one_new _ _ _) (by simp [Value.oneCell']) (by unfold maxLen; omega) (by omega) (by simp; omega) ?_; intro v' w3 hown' hgrow hnil; clear hnil)
      have E3 : Ext w w3 := (EX.alloc _).grown hgrow (by simp; omega) (fun q e => (hown.lt q e).1)
      have hown3 : w3.ownsRow w.heap.size 5 1 v' (fileF l ws).length (ub (fileF l ws)) := by
        rw [HFL.out, HY.out, List.length_append]
        unfold ub at hown' ⊢
        rw [List.map_append]
        exact hown'
      clear hown hown' hgrow
      (try go_frame)
      go_wp2
      refine bodyPost_ret (v := v') (by simp [results, Try.results80, go_sem]) rfl ⟨_, rfl, hown3, E3⟩
end Go.Proofs.Ytkkchoinfdfiaaa

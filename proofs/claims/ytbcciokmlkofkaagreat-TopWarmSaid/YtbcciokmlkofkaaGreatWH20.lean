import Derived.Test.YtbcciokmlkofkaaGreatWH19
set_option linter.unusedVariables false
set_option linter.unusedSimpArgs false
/- Contracts of layer 1: the file of a line. -/
namespace Go.Q
/-- a sum of bytes -/
def sum8 (xs : List Int) : Int := xs.foldl (fun a x => (a + x) % 256) 0
theorem sum8_snoc (xs : List Int) (x : Int) : sum8 (xs ++ [x]) = (sum8 xs + x) % 256 := by unfold sum8; rw [List.foldl_append]; rfl
theorem sum8_bd (xs : List Int) : 0 ≤ sum8 xs ∧ sum8 xs ≤ 255 := by
  rcases xs.eq_nil_or_concat with rfl | ⟨ys, y, rfl⟩
  · unfold sum8; simp
  · rw [List.concat_eq_append, sum8_snoc]; omega
/-- the bytes of a word -/
def wbytes (n : Int) (k : Nat) : List Int := fstN (fun i => n / 2 ^ (8 * i) % 256) k
def many8 (bits : Int) : Nat := ((bits + 7) / 8).toNat
def headF (l : Ln) : List Int := [77, 76, l.words, l.bits]
def bodyF (l : Ln) (ws : List Int) : List Int := headF l ++ ws.flatMap fun n => wbytes n (many8 l.bits)
def fileF (l : Ln) (ws : List Int) : List Int := bodyF l ws ++ [-sum8 (bodyF l ws) % 256]
def writeE (l : Ln) (ws : List Int) : List Int × Int := if checkL l ≠ 0 then ([], checkL l) else if wordsE l ws ≠ 0 then ([], wordsE l ws) else (fileF l ws, 0)
/-- bytes in memory -/
def ub (xs : List Int) : List Value := xs.map (Value.int .u8)
def BytesAt (w : World) (a : Option Addr) (xs : List Int) : Prop := xs = [] ∨ ∃ b off, a = some ⟨b, off, none⟩ ∧ b < w.heap.size ∧ ∀ i, i < xs.length → w.cell? ⟨b, off + i, none⟩ = some (.int .u8 (xs[i]?.getD 0))
theorem BytesAt.ext {w w' : World} {a : Option Addr} {xs : List Int} (h : BytesAt w a xs) (E : Ext w w') : BytesAt w' a xs :=
  h.imp id fun ⟨b, off, ha, hb, hc⟩ => ⟨b, off, ha, Nat.lt_of_lt_of_le hb E.size, fun i hi => (E.cell (p := ⟨b, off + i, none⟩) hb).trans (hc i hi)⟩
theorem flat_len (m : Nat) : ∀ ws : List Int, (ws.flatMap fun n => wbytes n m).length = ws.length * m
  | [] => by simp
  | x :: ws => by
    rw [List.flatMap_cons, List.length_append, flat_len m ws]
    unfold wbytes
    rw [fstN_length, List.length_cons, Nat.add_mul]
    omega
theorem body_len (l : Ln) (ws : List Int) (k : Nat) (hm : many8 l.bits ≤ 5) (hk : k ≤ 64) : (headF l ++ (ws.take k).flatMap fun n => wbytes n (many8 l.bits)).length ≤ 400 := by
  rw [List.length_append, flat_len, List.length_take]
  have h1 : min k ws.length * many8 l.bits ≤ 64 * 5 := Nat.mul_le_mul (by omega) hm
  have h2 : (headF l).length = 4 := rfl
  omega
theorem wordsE_zero {l : Ln} {ws : List Int} (h : OkL l) (hw : wordsE l ws = 0) : (ws.length : Int) = l.words ∧ ∀ x ∈ ws, 0 ≤ x ∧ x ≤ 1099511627775 := by
  unfold wordsE at hw
  split at hw
  · omega
  · split at hw
    · omega
    · rename_i h1 h2
      refine ⟨by omega, fun x hx => ?_⟩
      simp only [List.any_eq_true, not_exists, not_and, Bool.not_eq_true, Bool.not_eq_false'] at h2
      have hb := inB_bd (h2 x hx)
      have hbt := h.bits
      have hp : (2 : Int) ^ l.bits.toNat ≤ 2 ^ 40 := by exact_mod_cast Nat.pow_le_pow_right (by decide : 0 < 2) (by omega : l.bits.toNat ≤ 40)
      omega
theorem take_snoc {α : Type} {xs : List α} {k : Nat} {y : α} (hk : k < xs.length) (d : α) (h : xs[k]?.getD d = y) : xs.take (k + 1) = xs.take k ++ [y] := by
  rw [List.take_succ_eq_append_getElem hk]
  rw [List.getElem?_eq_getElem hk] at h
  rw [← h]; rfl
end Go.Q
namespace Go.Proofs.YtbcciokmlkofkaaGreat
open Go.RowKit Go.Q Go.Shelf Go.Maps
set_option maxHeartbeats 1000000 in
theorem lsum_any (a : Option Addr) (n c : Nat) (xs : List Int) (w : World) (hn : xs.length = n) (hbig : n ≤ 9223372036854775807) (hI : BytesAt w a xs) :
    Calls Tryz.prog 61 #[.slice a n c] w fun e w' => e = .returned (.int .u8 (sum8 xs)) ∧ w' = w := by
  have hcell : ∀ k, k < n → ∃ b off, a = some ⟨b, off, none⟩ ∧ w.cell? ⟨b, off + k, none⟩ = some (.int .u8 (xs[k]?.getD 0)) := by
    intro k hk
    rcases hI with e | ⟨b, off, ha, hb, hc⟩
    · rw [e] at hn; simp at hn; omega
    · exact ⟨b, off, ha, hc k (by omega)⟩
  have HC := Lib.hid hcell
  have HN := Lib.hid hn
  clear hcell hn hI
  go_enter Tryz.func61, Tryz.ntmps61
  go_wp2
  go_loopw [2, 7] (fun s2 s7 wr => ∃ k : Nat, k ≤ n ∧ s7 = .int .i64 k ∧ s2 = .int .u8 (sum8 (xs.take k)) ∧ wr = w) (fun _ s7 _ => n - (Go.RowKit.intOf s7).toNat)
  case atStart => exact ⟨0, Nat.zero_le _, rfl, by simp [sum8], rfl⟩
  case round =>
    obtain ⟨k, hk, rfl, rfl, rfl⟩ := hrel
    obtain ⟨y, hy⟩ : ∃ y, sum8 (xs.take k) = y := ⟨_, rfl⟩
    have hyb := sum8_bd (xs.take k)
    rw [hy] at hyb ⊢
    have HY := Lib.hid hy
    clear hy
    by_cases hlt : k < n
    · have hltz : (k : Int) < (n : Int) := by omega
      obtain ⟨b, off, rfl, hc⟩ := HC.out k hlt
      obtain ⟨x, hx⟩ : ∃ x, xs[k]?.getD 0 = x := ⟨_, rfl⟩
      rw [hx] at hc
      have hw8 := IntKind.wrap_u8 (y + x)
      have HX := Lib.hid (show sum8 (xs.take (k + 1)) = (y + x) % 256 by rw [take_snoc (by rw [HN.out]; exact hlt) 0 hx, sum8_snoc, HY.out])
      clear hx
      go_wp2
      go_roundw
      case rel => exact ⟨k + 1, by omega, by go_num, by rw [HX.out], trivial⟩
      case measure => simp [Go.RowKit.intOf]; omega
    · have hltz : ¬ (k : Int) < (n : Int) := by omega
      obtain rfl : k = n := by omega
      go_wp2
      refine bodyPost_ret (v := .int .u8 y) (by simp [results, Tryz.results61, go_sem]) rfl ⟨?_, rfl⟩
      rw [← HY.out, List.take_of_length_le (by rw [HN.out]; exact Nat.le_refl _)]
theorem own_formU {w : World} {nb t n : Nat} {v : Value} {xs : List Value} (h : w.ownsRow nb t 1 v n xs) : ∃ a c, v = .slice a n c := by
  rcases h.2 with ⟨h1, h2⟩ | ⟨g, cap, cur, h1, _⟩
  · exact ⟨none, 0, by rw [h2]; exact h1⟩
  · exact ⟨_, _, h1⟩
theorem ub_get (xs : List Int) (i : Nat) (h : i < xs.length) : (ub xs)[i]? = some (.int .u8 (xs[i]?.getD 0)) := by
  unfold ub
  rw [List.getElem?_map, List.getElem?_eq_getElem h]; rfl
theorem own_bytes {w : World} {B n c : Nat} {a : Option Addr} {xs : List Int} (h : w.ownsRow B 5 1 (.slice a n c) n (ub xs)) : BytesAt w a xs := by
  rcases h.2 with ⟨h1, h2⟩ | ⟨g, cap, cur, h1, h2, h3, h4, h5, h6, h7⟩
  · left
    have h0 := h.1
    rw [h2] at h0
    simpa [ub] using h0
  · obtain ⟨rfl, -, -⟩ := Value.slice.inj h1
    refine .inr ⟨g, 0, rfl, (Array.getElem?_eq_some_iff.1 h3).1, fun i hi => ?_⟩
    have := World.ownsRow.cells h (g := g) rfl i (.int .u8 (xs[i]?.getD 0)) (ub_get xs i hi)
    refine Eq.trans (congrArg w.cell? ?_) this
    cases i <;> simp [Addr.add]
theorem Tryz.infoU : (Tryz.prog.info? 5).map (fun i => (i.zero, i.size, i.bytes)) = some (some (.int .u8 0), 1, 1) := by kernel_rfl
set_option maxRecDepth 100000 in
set_option maxHeartbeats 4000000 in
theorem Write_good (l : Ln) (a : Option Addr) (n c : Nat) (ws : List Int) (w : World) (hok : okL l = true) (hn : ws.length = n) (hI : IntsAt w a ws) (hw : wordsE l ws = 0) :
    Calls Tryz.prog 29 #[.agg #[.int .i64 l.words, .int .i64 l.bits, .int .i64 l.period, .int .i64 l.delay, .int .i64 l.slope, .int .i64 l.window], .slice a n c] w fun e w' => ∃ v, e = .returned (.tuple #[v, .int .i64 0]) ∧ w'.ownsRow w.heap.size 5 1 v (fileF l ws).length (ub (fileF l ws)) ∧ Ext w w' := by
  have hck := fun W => check_anyL l W
  rw [checkL_of hok] at hck
  have h := okL_ok hok
  obtain ⟨hwl, hwb⟩ := wordsE_zero h hw
  have htc := fun W (E : Ext w W) => tcheck_any l a n c ws W h hn (by have := h.words; omega) (hI.ext E)
  rw [hw] at htc
  have HTC := Lib.hid htc
  have HN := Lib.hid hn
  have hbt := h.bits
  have hwt := h.words
  have hn64 : n ≤ 64 := by omega
  have hcell : ∀ W, Ext w W → ∀ k, k < n → ∃ b off, a = some ⟨b, off, none⟩ ∧ W.cell? ⟨b, off + k, none⟩ = some (.int .i64 (ws[k]?.getD 0)) ∧ (0 ≤ ws[k]?.getD 0 ∧ ws[k]?.getD 0 ≤ 1099511627775) ∧ (headF l ++ (ws.take k).flatMap fun n => wbytes n (many8 l.bits)).length ≤ 400 := by
    intro W E k hk
    have hm : many8 l.bits ≤ 5 := by unfold many8; omega
    rcases hI with e | ⟨b, off, ha, hb, hc⟩
    · rw [e] at hn; simp at hn; omega
    · refine ⟨b, off, ha, (E.cell (p := ⟨b, off + k, none⟩) hb).trans (hc k (by omega)), ?_, body_len l ws k hm (by omega)⟩
      rw [List.getElem?_eq_getElem (by omega)]
      exact hwb _ (List.getElem_mem _)
  have hb400 : (bodyF l ws).length ≤ 400 := by
    have e := body_len l ws n (by unfold many8; omega) hn64
    rw [List.take_of_length_le (by omega)] at e
    exact e
  have HB400 := Lib.hid hb400
  have HC := Lib.hid hcell
  clear hn hI hcell hb400 hwb hwl
  clear htc
  go_enter Tryz.func29, Tryz.ntmps29
  go_wp2_with fail
  refine (hck _).mono ?_
  rintro e w1 ⟨rfl, E1⟩
  have E1o := E1.old
  have hck2 := HTC.out w1 E1o
  have q0 := box_at (v := .int .i64 l.words) E1 0 rfl
  have q1 := box_at (v := .int .i64 l.bits) E1 1 rfl
  have q2 := box_at (v := .int .i64 l.period) E1 2 rfl
  have q3 := box_at (v := .int .i64 l.delay) E1 3 rfl
  have q4 := box_at (v := .int .i64 l.slope) E1 4 rfl
  have q5 := box_at (v := .int .i64 l.window) E1 5 rfl
  go_wp2_with fail
  refine hck2.mono ?_
  rintro e w2 ⟨rfl, E2⟩
  have E12 := E1.comp E2
  clear q0 q1 q2 q3 q4 q5
  have q0 := box_at (v := .int .i64 l.words) E12 0 rfl
  have q1 := box_at (v := .int .i64 l.bits) E12 1 rfl
  have q2 := box_at (v := .int .i64 l.period) E12 2 rfl
  have q3 := box_at (v := .int .i64 l.delay) E12 3 rfl
  have q4 := box_at (v := .int .i64 l.slope) E12 4 rfl
  have q5 := box_at (v := .int .i64 l.window) E12 5 rfl
  go_wp2
  have hown0 : (w2.alloc (.cells #[.int .u8 77, .int .u8 76, .int .u8 l.words, .int .u8 l.bits] 5)).ownsRow w2.heap.size 5 1 (.slice (some ⟨w2.heap.size, 0, none⟩) 4 4) (headF l ++ (ws.take 0).flatMap fun n => wbytes n (many8 l.bits)).length (ub (headF l ++ (ws.take 0).flatMap fun n => wbytes n (many8 l.bits))) := by
    refine ⟨by simp [headF, ub], .inr ⟨w2.heap.size, 4, _, by simp [headF], Nat.le_refl _, heap_alloc_new _ _, by simp [headF], by decide, by simp, by simp [headF, ub]⟩⟩
  have EE0 : Ext w2 (w2.alloc (.cells #[.int .u8 77, .int .u8 76, .int .u8 l.words, .int .u8 l.bits] 5)) := (Ext.refl w2).alloc _
  generalize w2.alloc (.cells #[.int .u8 77, .int .u8 76, .int .u8 l.words, .int .u8 l.bits] 5) = X0 at *
  have HE12 := Lib.hid E12
  clear q0 q1 q2 q3 q4 q5 hck hck2 E1 E1o E12 E2
  go_loopw [8, 33] (fun s8 s33 wr => ∃ k : Nat, k ≤ n ∧ s33 = .int .i64 k ∧ wr.ownsRow w2.heap.size 5 1 s8 (headF l ++ (ws.take k).flatMap fun n => wbytes n (many8 l.bits)).length (ub (headF l ++ (ws.take k).flatMap fun n => wbytes n (many8 l.bits))) ∧ Ext w2 wr) (fun _ s33 _ => n - (Go.RowKit.intOf s33).toNat)
  case atStart => exact ⟨0, Nat.zero_le _, rfl, hown0, EE0⟩
  case round =>
    clear hown0 EE0
    obtain ⟨k, hk, rfl, hown, EX⟩ := hrel
    obtain ⟨X, rfl⟩ : ∃ X : World, X = wr := ⟨_, rfl⟩
    by_cases hlt : k < n
    · have hltz : (k : Int) < (n : Int) := by omega
      obtain ⟨b, off, rfl, hc, hxb, hxs⟩ := HC.out X (HE12.out.old.comp EX) k hlt
      obtain ⟨x, hx⟩ : ∃ x, ws[k]?.getD 0 = x := ⟨_, rfl⟩
      rw [hx] at hc hxb
      obtain ⟨pre, hpre⟩ : ∃ pre, (headF l ++ (ws.take k).flatMap fun n => wbytes n (many8 l.bits)) = pre := ⟨_, rfl⟩
      rw [hpre] at hown hxs
      obtain ⟨hx0, hx1⟩ := hxb
      have HX := Lib.hid (show (headF l ++ (ws.take (k + 1)).flatMap fun n => wbytes n (many8 l.bits)) = pre ++ wbytes x (many8 l.bits) by
        rw [take_snoc (by rw [HN.out]; exact hlt) 0 hx, List.flatMap_append, ← List.append_assoc, hpre]; simp)
      clear hx hpre
      go_wp2
      go_loopw [8, 11] (fun s8 s11 Y => ∃ j : Nat, j ≤ many8 l.bits ∧ s11 = .int .i64 (8 * (j : Int)) ∧ Y.ownsRow w2.heap.size 5 1 s8 (pre ++ wbytes x j).length (ub (pre ++ wbytes x j)) ∧ Ext w2 Y) (fun _ s11 _ => (l.bits + 8 - Go.RowKit.intOf s11).toNat)
      case atStart => exact ⟨0, Nat.zero_le _, by simp, by simpa [wbytes, fstN] using hown, EX⟩
      case round =>
        clear hown EX
        obtain ⟨j, hj, rfl, hown, EY⟩ := hrel
        obtain ⟨Y, rfl⟩ : ∃ Y : World, Y = wr := ⟨_, rfl⟩
        have q0 := box_at (v := .int .i64 l.words) (HE12.out.comp EY) 0 rfl
        have q1 := box_at (v := .int .i64 l.bits) (HE12.out.comp EY) 1 rfl
        have q2 := box_at (v := .int .i64 l.period) (HE12.out.comp EY) 2 rfl
        have q3 := box_at (v := .int .i64 l.delay) (HE12.out.comp EY) 3 rfl
        have q4 := box_at (v := .int .i64 l.slope) (HE12.out.comp EY) 4 rfl
        have q5 := box_at (v := .int .i64 l.window) (HE12.out.comp EY) 5 rfl
        have hjb : j ≤ 5 := by have := hj; unfold many8 at this; omega
        have hlen : (pre ++ wbytes x j).length ≤ 405 := by rw [List.length_append]; unfold wbytes; rw [fstN_length]; omega
        have hYs := EY.size
        by_cases hjl : 8 * (j : Int) < l.bits
        · obtain ⟨i0, hi, hz0, hz1, hz2⟩ := info_parts Tryz.infoU
          go_wp2_with (at_builtin; refine wpList_append_own _ rfl _ _ 31 rfl w2.heap.size 5 i0 (.int .u8 0) 1 1 Tryz.underlying31 hi hz0 hz1 hz2 rfl (by decide) _ _ _ rfl (hown.alloc _) ⟨Y.heap.size, 0, none⟩ 1 1 [.int .u8 (x / 2 ^ (8 * j) % 256)] rfl rfl (cell_one_new _ _ _) (by simp [Value.oneCell']) (by unfold maxLen; omega) (by omega) (by simp; omega) ?_; intro v' w3 hown' hgrow hnil; clear hnil)
          have E3 : Ext w2 w3 := (EY.alloc _).grown hgrow (by simp; omega) (fun q e => (hown.lt q e).1)
          have hown3 : w3.ownsRow w2.heap.size 5 1 v' (pre ++ wbytes x (j + 1)).length (ub (pre ++ wbytes x (j + 1))) := by
            have e : pre ++ wbytes x (j + 1) = (pre ++ wbytes x j) ++ [x / 2 ^ (8 * j) % 256] := by unfold wbytes; rw [fstN_succ, List.append_assoc]
            rw [e, List.length_append]
            unfold ub at hown' ⊢
            rw [List.map_append]
            exact hown'
          clear hown hown' hgrow q0 q1 q2 q3 q4 q5
          (try go_frame)
          go_wp2
          go_roundw
          case rel => exact ⟨j + 1, by unfold many8; omega, by go_num, hown3, E3⟩
          case measure => simp [Go.RowKit.intOf]; omega
        · have hjl' : ¬ 8 * (j : Int) < l.bits := hjl
          obtain rfl : j = many8 l.bits := by unfold many8 at hj ⊢; omega
          clear q0 q2 q3 q4 q5
          go_wp2
          go_roundw
          case rel => exact ⟨k + 1, by omega, by go_num, by rw [HX.out]; exact hown, EY⟩
          case measure => simp [Go.RowKit.intOf]; omega
    · have hltz : ¬ (k : Int) < (n : Int) := by omega
      obtain rfl : k = n := by omega
      have hfin : (headF l ++ (ws.take k).flatMap fun n => wbytes n (many8 l.bits)) = bodyF l ws := by rw [List.take_of_length_le (by rw [HN.out]; exact Nat.le_refl _)]; rfl
      rw [hfin] at hown
      obtain ⟨av, cv, rfl⟩ := own_formU hown
      have hsum := lsum_any av _ cv (bodyF l ws) X rfl (by have := HB400.out; omega) (own_bytes hown)
      obtain ⟨i0, hi, hz0, hz1, hz2⟩ := info_parts Tryz.infoU
      have hXs := EX.size
      have hb400 := HB400.out
      have HFL := Lib.hid (show fileF l ws = bodyF l ws ++ [-sum8 (bodyF l ws) % 256] from rfl)
      obtain ⟨bd, hbd⟩ : ∃ bd, bodyF l ws = bd := ⟨_, rfl⟩
      rw [hbd] at hown hsum hb400 HFL ⊢
      have hs8 := sum8_bd bd
      obtain ⟨y, hy⟩ : ∃ y, sum8 bd = y := ⟨_, rfl⟩
      rw [hy] at hsum hs8
      have HY := Lib.hid hy
      clear hfin hbd hy
      go_wp2_with fail
      refine hsum.mono ?_
      rintro e w' ⟨rfl, rfl⟩
      go_wp2_with (at_builtin; refine wpList_append_own _ rfl _ _ 31 rfl w2.heap.size 5 i0 (.int .u8 0) 1 1 Tryz.underlying31 hi hz0 hz1 hz2 rfl (by decide) _ _ _ rfl (hown.alloc _) ⟨w'.heap.size, 0, none⟩ 1 1 [.int .u8 (-y % 256)] rfl rfl (cell_one_new _ _ _) (by simp [Value.oneCell']) (by unfold maxLen; omega) (by omega) (by simp; omega) ?_; intro v' w3 hown' hgrow hnil; clear hnil)
      have E3 : Ext w2 w3 := (EX.alloc _).grown hgrow (by simp; omega) (fun q e => (hown.lt q e).1)
      have EW : Ext w w3 := HE12.out.old.comp E3
      have hown3 : w3.ownsRow w.heap.size 5 1 v' (fileF l ws).length (ub (fileF l ws)) := by
        rw [HFL.out, HY.out, List.length_append]
        unfold ub at hown' ⊢
        rw [List.map_append]
        exact own_low hown' HE12.out.old.size
      clear hown hown' hgrow
      (try go_frame)
      go_wp2
      refine bodyPost_ret (v := .tuple #[v', .int .i64 0]) (by simp [results, Tryz.results29, go_sem]) rfl ⟨_, rfl, hown3, EW⟩
end Go.Proofs.YtbcciokmlkofkaaGreat

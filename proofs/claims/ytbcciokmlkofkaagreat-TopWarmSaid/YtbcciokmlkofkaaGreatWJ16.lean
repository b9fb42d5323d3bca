import Derived.Test.YtbcciokmlkofkaaGreatWSpec4g
import Derived.Test.YtbcciokmlkofkaaGreatWH22
import Derived.Test.YtbcciokmlkofkaaGreatWOwn
set_option linter.unusedVariables false
set_option linter.unusedSimpArgs false
/- TopWarm: the temperatures of an oven, minute by minute (printed by gen_j16.py). -/
namespace Go.Proofs.YtbcciokmlkofkaaGreat
open Go.RowKit Go.Q Go.Shelf Go.Maps
theorem five_later {w X W : World} {p1 p2 p3 p4 p5 : Addr} {v1 v2 v3 v4 v5 : Value} (h : Ext w X ∧ X.cell? p1 = some v1 ∧ X.cell? p2 = some v2 ∧ X.cell? p3 = some v3 ∧ X.cell? p4 = some v4 ∧ X.cell? p5 = some v5) (E : Ext X W) : Ext w W ∧ W.cell? p1 = some v1 ∧ W.cell? p2 = some v2 ∧ W.cell? p3 = some v3 ∧ W.cell? p4 = some v4 ∧ W.cell? p5 = some v5 :=
  ⟨h.1.comp E, cell_laterA h.2.1 E, cell_laterA h.2.2.1 E, cell_laterA h.2.2.2.1 E, cell_laterA h.2.2.2.2.1 E, cell_laterA h.2.2.2.2.2 E⟩
set_option maxHeartbeats 1000000 in
theorem heats_any (o : Ov) (t : Int) (h : Bool) (w : World) :
    Calls Tryz.prog 44 #[.agg #[.int .i64 o.low, .int .i64 o.high, .int .i64 o.warm.lo, .int .i64 o.warm.hi, .int .i64 o.cool.lo, .int .i64 o.cool.hi], .int .i64 t, .bool h] w fun e w' => e = .returned (.bool (heatsO o t h)) ∧ Ext w w' := by
  unfold heatsO
  by_cases h1 : t < o.low
  · rw [show (decide (t < o.low) || (decide (t ≤ o.high) && h)) = true by simp [h1]]
    go_enter Tryz.func44, Tryz.ntmps44
    go_wp2
    go_ret
    exact ⟨rfl, (Ext.refl w).alloc _⟩
  · by_cases h2 : t ≤ o.high
    · rw [show (decide (t < o.low) || (decide (t ≤ o.high) && h)) = h by simp [h1, h2]]
      go_enter Tryz.func44, Tryz.ntmps44
      go_wp2
      go_ret
      exact ⟨rfl, (Ext.refl w).alloc _⟩
    · rw [show (decide (t < o.low) || (decide (t ≤ o.high) && h)) = false by simp [h1, h2]]
      go_enter Tryz.func44, Tryz.ntmps44
      go_wp2
      go_ret
      exact ⟨rfl, (Ext.refl w).alloc _⟩
set_option maxHeartbeats 1000000 in
theorem part_any (s : Sp) (n : Int) (w : World) (h0 : -500 ≤ s.lo) (h1 : s.lo ≤ s.hi) (h2 : s.hi ≤ 1000) (hn : 0 ≤ n ∧ n ≤ 255) : Calls Tryz.prog 43 #[.agg #[.int .i64 s.lo, .int .i64 s.hi], .int .u8 n] w fun e w' => e = .returned (.int .i64 (amongO s n)) ∧ Ext w w' := by
  have m1 := mulO (a := s.hi - s.lo) (b := n) (by omega) (by omega) hn.1 hn.2
  obtain ⟨hn0, hn1⟩ := hn
  unfold amongO
  have w1 : IntKind.i64.wrap (s.hi - s.lo) = s.hi - s.lo := IntWalk.i64_in _ (by omega)
  have w2 : IntKind.i64.wrap ((s.hi - s.lo) * n) = (s.hi - s.lo) * n := IntWalk.i64_in _ (by omega)
  have t1 : ((s.hi - s.lo) * n).tdiv 255 = (s.hi - s.lo) * n / 255 := Int.tdiv_eq_ediv_of_nonneg (by omega)
  have w3 : IntKind.i64.wrap n = n := IntWalk.i64_in _ (by omega)
  have w4 : IntKind.i64.wrap ((s.hi - s.lo) * n / 255) = (s.hi - s.lo) * n / 255 := IntWalk.i64_in _ (by omega)
  have w5 : IntKind.i64.wrap (s.lo + (s.hi - s.lo) * n / 255) = s.lo + (s.hi - s.lo) * n / 255 := IntWalk.i64_in _ (by omega)
  go_enter Tryz.func43, Tryz.ntmps43
  go_wp2
  go_ret
  exact ⟨rfl, (Ext.refl w).alloc _⟩
set_option maxRecDepth 100000 in
set_option maxHeartbeats 8000000 in
theorem temps_any (l : Ln) (o : Ov) (temp : Sp) (heats : Bool) (a : Option Addr) (c n M : Nat) (xs : List Int) (w : World) (hl : xs.length = n) (h0 : 0 < n) (hbig : n ≤ 9223372036854775807) (hI : BytesAt w a xs) (hxs : ∀ x ∈ xs, 0 ≤ x ∧ x ≤ 255) (hO : OkO o) (hsp : spanX temp = 0) (hM : M ≤ 59) :
    Calls Tryz.prog 9 #[.agg #[.int .i64 l.words, .int .i64 l.bits, .int .i64 l.period, .int .i64 l.delay, .int .i64 l.slope, .int .i64 l.window, .int .i64 o.low, .int .i64 o.high, .int .i64 o.warm.lo, .int .i64 o.warm.hi, .int .i64 o.cool.lo, .int .i64 o.cool.hi, .int .i64 temp.lo, .int .i64 temp.hi, .bool heats, .slice a n c], .int .i64 M] w fun e w' => ∃ a' c', e = .returned (.slice a' (M + 1) c') ∧ IntsAt w' a' (tempsQ o temp heats xs M) ∧ Ext w w' := by
  obtain ⟨t0, t1, t2⟩ := spanX_bd hsp
  have hst := fun m => tempQ_state (o := o) (temp := temp) (heats := heats) (xs := xs) hxs ⟨t1, by omega⟩ ⟨hO.w0.2.1, by have := hO.w0; omega⟩ ⟨hO.c0.2.1, by have := hO.c0; omega⟩ m
  have hbd := fun m => statesO_bd hO ⟨by omega, by omega⟩ m _ (hst m)
  have HBD := Lib.hid hbd
  obtain ⟨b, off, rfl, hb, hc⟩ : ∃ b off, a = some ⟨b, off, none⟩ ∧ b < w.heap.size ∧ ∀ i, i < xs.length → w.cell? ⟨b, off + i, none⟩ = some (.int .u8 (xs[i]?.getD 0)) := hI.elim (fun h => by rw [h] at hl; simp at hl; omega) id
  obtain ⟨z0, hz0⟩ : ∃ z0, xs[0]?.getD 0 = z0 := ⟨_, rfl⟩
  have hzb0 : 0 ≤ z0 ∧ z0 ≤ 255 := by rw [← hz0]; exact byte_at hxs 0
  have yb0 := hc 0 (by omega)
  rw [hz0, Nat.add_zero] at yb0
  have ham0 := fun W => part_any temp z0 W t0 t1 t2 hzb0
  have HZ := Lib.hid (show tempQ o temp heats xs 0 = (amongO temp z0, heats) by show (amongO temp (xs[0]?.getD 0), heats) = _; rw [hz0])
  have HC := Lib.hid hc
  have HN := Lib.hid hl
  have HXS := Lib.hid hxs
  have hO' := hO
  have h0z : (0 : Int) < (n : Int) := by omega
  clear hc hl hI hbd hst hz0 hO hxs hsp
  go_enter Tryz.func9, Tryz.ntmps9
  go_wp2_with fail
  have dx : (w.alloc (.cells #[.int .i64 l.words, .int .i64 l.bits, .int .i64 l.period, .int .i64 l.delay, .int .i64 l.slope, .int .i64 l.window, .int .i64 o.low, .int .i64 o.high, .int .i64 o.warm.lo, .int .i64 o.warm.hi, .int .i64 o.cool.lo, .int .i64 o.cool.hi, .int .i64 temp.lo, .int .i64 temp.hi, .bool heats, .slice (some ⟨b, off, none⟩) n c] 33)).heap[w.heap.size]? = some (.cells #[.int .i64 l.words, .int .i64 l.bits, .int .i64 l.period, .int .i64 l.delay, .int .i64 l.slope, .int .i64 l.window, .int .i64 o.low, .int .i64 o.high, .int .i64 o.warm.lo, .int .i64 o.warm.hi, .int .i64 o.cool.lo, .int .i64 o.cool.hi, .int .i64 temp.lo, .int .i64 temp.hi, .bool heats, .slice (some ⟨b, off, none⟩) n c] 33 (0, 0)) := heap_alloc_new w _
  have EY : Ext w (w.alloc (.cells #[.int .i64 l.words, .int .i64 l.bits, .int .i64 l.period, .int .i64 l.delay, .int .i64 l.slope, .int .i64 l.window, .int .i64 o.low, .int .i64 o.high, .int .i64 o.warm.lo, .int .i64 o.warm.hi, .int .i64 o.cool.lo, .int .i64 o.cool.hi, .int .i64 temp.lo, .int .i64 temp.hi, .bool heats, .slice (some ⟨b, off, none⟩) n c] 33)) := (Ext.refl w).alloc _
  have hYS : (w.alloc (.cells #[.int .i64 l.words, .int .i64 l.bits, .int .i64 l.period, .int .i64 l.delay, .int .i64 l.slope, .int .i64 l.window, .int .i64 o.low, .int .i64 o.high, .int .i64 o.warm.lo, .int .i64 o.warm.hi, .int .i64 o.cool.lo, .int .i64 o.cool.hi, .int .i64 temp.lo, .int .i64 temp.hi, .bool heats, .slice (some ⟨b, off, none⟩) n c] 33)).heap.size = w.heap.size + 1 := by simp
  generalize w.alloc (.cells #[.int .i64 l.words, .int .i64 l.bits, .int .i64 l.period, .int .i64 l.delay, .int .i64 l.slope, .int .i64 l.window, .int .i64 o.low, .int .i64 o.high, .int .i64 o.warm.lo, .int .i64 o.warm.hi, .int .i64 o.cool.lo, .int .i64 o.cool.hi, .int .i64 temp.lo, .int .i64 temp.hi, .bool heats, .slice (some ⟨b, off, none⟩) n c] 33) = Y at *
  have x12 := blk_cell dx 12 (v := .int .i64 temp.lo) rfl
  have x13 := blk_cell dx 13 (v := .int .i64 temp.hi) rfl
  have x14 := blk_cell dx 14 (v := .bool heats) rfl
  have x15 := blk_cell dx 15 (v := .slice (some ⟨b, off, none⟩) n c) rfl
  have yb := (EY.cell (p := ⟨b, off, none⟩) hb).trans yb0
  have HDX := Lib.hid dx
  have HEY := Lib.hid EY
  have HYS := Lib.hid hYS
  clear yb0 dx EY hYS
  go_region_held3 (fun w' => Ext Y w' ∧ w'.cell? ⟨w.heap.size, 12, none⟩ = some (.int .i64 temp.lo) ∧ w'.cell? ⟨w.heap.size, 13, none⟩ = some (.int .i64 temp.hi) ∧ w'.cell? ⟨w.heap.size, 14, none⟩ = some (.bool heats) ∧ w'.cell? ⟨w.heap.size, 15, none⟩ = some (.slice (some ⟨b, off, none⟩) n c) ∧ w'.cell? ⟨b, off, none⟩ = some (.int .u8 z0))
    (first | exact ⟨(Ext.refl Y).drew, x12, x13, x14, x15, yb⟩ | exact five_later ⟨(Ext.refl Y).drew, x12, x13, x14, x15, yb⟩ hb' | exact five_later (by assumption) hb')
    (first | (go_at_call 43; refine (ham0 _).mono ?_; rintro e w' ⟨rfl, hb'⟩))
  have EW' := (‹Ext Y _ ∧ _ ∧ _ ∧ _ ∧ _ ∧ _›).1
  clear ham0 x12 x13 x14 x15 yb
  go_wp2
  have hown0 : (w'.alloc (.cells #[.int .i64 (amongO temp z0)] 3)).ownsRow Y.heap.size 3 1 (.slice (some ⟨w'.heap.size, 0, none⟩) 1 1) (0 + 1) (iv (tempsQ o temp heats xs 0)) := by
    have e : tempsQ o temp heats xs 0 = [amongO temp z0] := by
      show [(tempQ o temp heats xs 0).1] = _
      rw [HZ.out]
    rw [e]
    exact World.ownsRow_lit w' #[.int .i64 (amongO temp z0)] 1 EW'.size (by unfold maxLen; decide) rfl
  have EX0 : Ext Y (w'.alloc (.cells #[.int .i64 (amongO temp z0)] 3)) := EW'.alloc _
  clear EW' hb'
  go_loopw [6, 7, 8, 9] (fun s6 s7 s8 s9 X => ∃ m : Nat, m ≤ M ∧ s6 = .int .i64 (tempQ o temp heats xs m).1 ∧ s7 = .bool (tempQ o temp heats xs m).2 ∧ s9 = .int .i64 (m : Int) ∧ X.ownsRow Y.heap.size 3 1 s8 (m + 1) (iv (tempsQ o temp heats xs m)) ∧ Ext Y X) (fun _ _ _ s9 _ => M - (Go.RowKit.intOf s9).toNat)
  case atStart => exact ⟨0, Nat.zero_le _, by rw [HZ.out], by rw [HZ.out], rfl, hown0, EX0⟩
  case round =>
    clear hown0 EX0
    obtain ⟨m, hm, rfl, rfl, rfl, hown, EX⟩ := hrel
    obtain ⟨X, rfl⟩ : ∃ X : World, X = wr := ⟨_, rfl⟩
    have htb := HBD.out m
    obtain ⟨t, ht⟩ : ∃ t, (tempQ o temp heats xs m).1 = t := ⟨_, rfl⟩
    obtain ⟨hh, hhh⟩ : ∃ hh, (tempQ o temp heats xs m).2 = hh := ⟨_, rfl⟩
    have hq : tempQ o temp heats xs m = (t, hh) := Prod.ext ht hhh
    rw [ht] at htb ⊢
    rw [hhh]
    clear ht hhh
    obtain ⟨sa, sc, rfl⟩ := own_form hown
    by_cases hlt : m < M
    · have hltz : (m : Int) < (M : Int) := by omega
      have bx := (EX.block _ (Array.getElem?_eq_some_iff.1 HDX.out).1).trans HDX.out
      have hht := fun W => heats_any o t hh W
      obtain ⟨p, hmod⟩ : ∃ p : Nat, (m + 1) % n = p := ⟨_, rfl⟩
      have hpn : p < n := by rw [← hmod]; exact Nat.mod_lt _ h0
      obtain ⟨z, hz⟩ : ∃ z, xs[p]?.getD 0 = z := ⟨_, rfl⟩
      have hzb : 0 ≤ z ∧ z ≤ 255 := by rw [← hz]; exact byte_at HXS.out p
      have yp := ((HEY.out.comp EX).cell (p := ⟨b, off + p, none⟩) hb).trans (HC.out p (by rw [HN.out]; exact hpn))
      rw [hz] at yp
      have em : ((m : Int) + 1) % (n : Int) = (p : Int) := by rw [← hmod]; push_cast; rfl
      have tm : Int.tmod ((m : Int) + 1) (n : Int) = (p : Int) := by rw [Int.tmod_eq_emod_of_nonneg (by omega)]; exact em
      have hp0 : (0 : Int) ≤ (p : Int) := by omega
      have hp1 : (p : Int) < (n : Int) := by omega
      have hn0 : ¬ (n : Int) = 0 := by omega
      have hn1 : ((n : Int) == 0) = false := by simp; omega
      have wm : IntKind.i64.wrap ((m : Int) + 1) = (m : Int) + 1 := IntWalk.i64_in _ (by omega)
      have wpp : IntKind.i64.wrap (p : Int) = (p : Int) := IntWalk.i64_in _ (by omega)
      have x6 := blk_cell bx 6 (v := .int .i64 o.low) rfl
      have x7 := blk_cell bx 7 (v := .int .i64 o.high) rfl
      have x8 := blk_cell bx 8 (v := .int .i64 o.warm.lo) rfl
      have x9 := blk_cell bx 9 (v := .int .i64 o.warm.hi) rfl
      have x10 := blk_cell bx 10 (v := .int .i64 o.cool.lo) rfl
      have x11 := blk_cell bx 11 (v := .int .i64 o.cool.hi) rfl
      go_wp2_with fail
      refine (hht _).mono ?_
      rintro e w5 ⟨rfl, E5⟩
      have hown5 := own_ext hown E5
      have yp := cell_laterA yp E5
      replace bx := (E5.block _ (Array.getElem?_eq_some_iff.1 bx).1).trans bx
      clear x6 x7 x8 x9 x10 x11 hown hht
      replace E5 := EX.comp E5
      have x8 := blk_cell bx 8 (v := .int .i64 o.warm.lo) rfl
      have x9 := blk_cell bx 9 (v := .int .i64 o.warm.hi) rfl
      have x10 := blk_cell bx 10 (v := .int .i64 o.cool.lo) rfl
      have x11 := blk_cell bx 11 (v := .int .i64 o.cool.hi) rfl
      have x15 := blk_cell bx 15 (v := .slice (some ⟨b, off, none⟩) n c) rfl
      clear EX bx
      obtain ⟨hw0, hw1, hw2⟩ := hO'.w0
      obtain ⟨hc0, hc1, hc2⟩ := hO'.c0
      cases hheat : heatsO o t hh with
      | true =>
        have HT1 := Lib.hid (show tempQ o temp heats xs (m + 1) = (t + amongO o.warm z, true) by
          show (if heatsO o (tempQ o temp heats xs m).1 (tempQ o temp heats xs m).2 = true then _ else _) = _
          rw [hq, HN.out, hmod, hz]
          dsimp only
          rw [hheat]
          simp)
        have HT2 := Lib.hid (show tempsQ o temp heats xs (m + 1) = tempsQ o temp heats xs m ++ [t + amongO o.warm z] by
          unfold tempsQ
          rw [fstN_succ]
          rw [HT1.out])
        have hag := amongO_in (s := o.warm) (n := z) (by omega) (by omega) hzb
        obtain ⟨g, hg⟩ : ∃ g, amongO o.warm z = g := ⟨_, rfl⟩
        rw [hg] at hag HT1 HT2
        have hw3 : IntKind.i64.wrap (t + g) = t + g := IntWalk.i64_in _ (by omega)
        have ham := fun W => part_any o.warm z W (by omega) (by omega) (by omega) hzb
        rw [hg] at ham
        have HHE := Lib.hid hheat
        clear hheat hq hz hmod hg
        go_wp2_with fail
        first
          | go_quiet (fail)
          | go_region
        have E5q : Ext Y (w5.drewN nq) := ext_drewN E5 nq
        have hown5q := own_ext hown5 (ext_drewN (Ext.refl w5) nq)
        clear E5 hown5
        go_wp2_with fail
        refine (ham (w5.drewN nq)).mono ?_
        rintro e w6 ⟨rfl, E6⟩
        replace E5q := E5q.comp E6
        have hown6 := own_ext hown5q E6
        clear hown5q E6 ham x8 x9 x10 x11 x15 yp
        obtain ⟨i0, hi, hz0, hz1, hz2⟩ := info_parts Tryz.infoE
        have hsz := E5q.size
        go_wp2_with (at_builtin; refine wpList_append_own _ rfl _ _ 22 rfl Y.heap.size 3 i0 (.int .i64 0) 1 8 Tryz.underlying22 hi hz0 hz1 hz2 rfl (by decide) _ _ _ rfl (hown6.alloc _) ⟨w6.heap.size, 0, none⟩ 1 1 [.int .i64 (t + g)] rfl rfl (cell_one_new _ _ _) (by simp [Value.oneCell']) (by unfold maxLen; omega) (by omega) (by simp; omega) ?_; intro v' w7 hown' hgrow hnil)
        have E7 : Ext Y w7 := (E5q.alloc _).grown hgrow (by simp; omega) (fun q e => (hown6.lt q e).1)
        have hown7 : w7.ownsRow Y.heap.size 3 1 v' (m + 1 + 1) (iv (tempsQ o temp heats xs (m + 1))) := by
          rw [HT2.out]
          unfold iv at hown' ⊢
          rw [List.map_append]
          exact hown'
        clear hown' hgrow hnil hown6 E5q
        (try go_frame)
        go_wp2
        go_roundw
        case rel => exact ⟨m + 1, by omega, by rw [HT1.out], by rw [HT1.out], by go_num, hown7, E7⟩
        case measure => simp [Go.RowKit.intOf]; omega
      | false =>
        have HT1 := Lib.hid (show tempQ o temp heats xs (m + 1) = (t - amongO o.cool z, false) by
          show (if heatsO o (tempQ o temp heats xs m).1 (tempQ o temp heats xs m).2 = true then _ else _) = _
          rw [hq, HN.out, hmod, hz]
          dsimp only
          rw [hheat]
          simp)
        have HT2 := Lib.hid (show tempsQ o temp heats xs (m + 1) = tempsQ o temp heats xs m ++ [t - amongO o.cool z] by
          unfold tempsQ
          rw [fstN_succ]
          rw [HT1.out])
        have hag := amongO_in (s := o.cool) (n := z) (by omega) (by omega) hzb
        obtain ⟨g, hg⟩ : ∃ g, amongO o.cool z = g := ⟨_, rfl⟩
        rw [hg] at hag HT1 HT2
        have hw3 : IntKind.i64.wrap (t - g) = t - g := IntWalk.i64_in _ (by omega)
        have ham := fun W => part_any o.cool z W (by omega) (by omega) (by omega) hzb
        rw [hg] at ham
        have HHE := Lib.hid hheat
        clear hheat hq hz hmod hg
        go_wp2_with fail
        first
          | go_quiet (fail)
          | go_region
        have E5q : Ext Y (w5.drewN nq) := ext_drewN E5 nq
        have hown5q := own_ext hown5 (ext_drewN (Ext.refl w5) nq)
        clear E5 hown5
        go_wp2_with fail
        refine (ham (w5.drewN nq)).mono ?_
        rintro e w6 ⟨rfl, E6⟩
        replace E5q := E5q.comp E6
        have hown6 := own_ext hown5q E6
        clear hown5q E6 ham x8 x9 x10 x11 x15 yp
        obtain ⟨i0, hi, hz0, hz1, hz2⟩ := info_parts Tryz.infoE
        have hsz := E5q.size
        go_wp2_with (at_builtin; refine wpList_append_own _ rfl _ _ 22 rfl Y.heap.size 3 i0 (.int .i64 0) 1 8 Tryz.underlying22 hi hz0 hz1 hz2 rfl (by decide) _ _ _ rfl (hown6.alloc _) ⟨w6.heap.size, 0, none⟩ 1 1 [.int .i64 (t - g)] rfl rfl (cell_one_new _ _ _) (by simp [Value.oneCell']) (by unfold maxLen; omega) (by omega) (by simp; omega) ?_; intro v' w7 hown' hgrow hnil)
        have E7 : Ext Y w7 := (E5q.alloc _).grown hgrow (by simp; omega) (fun q e => (hown6.lt q e).1)
        have hown7 : w7.ownsRow Y.heap.size 3 1 v' (m + 1 + 1) (iv (tempsQ o temp heats xs (m + 1))) := by
          rw [HT2.out]
          unfold iv at hown' ⊢
          rw [List.map_append]
          exact hown'
        clear hown' hgrow hnil hown6 E5q
        (try go_frame)
        go_wp2
        go_roundw
        case rel => exact ⟨m + 1, by omega, by rw [HT1.out], by rw [HT1.out], by go_num, hown7, E7⟩
        case measure => simp [Go.RowKit.intOf]; omega
    · have hltz : ¬ (m : Int) < (M : Int) := by omega
      obtain rfl : m = M := by omega
      have hI2 := own_ints hown
      go_wp2
      exact bodyPost_ret (v := .slice sa (m + 1) sc) (by simp [results, Tryz.results9, go_sem]) rfl ⟨sa, ⟨sc, rfl⟩, hI2, HEY.out.comp EX⟩
end Go.Proofs.YtbcciokmlkofkaaGreat

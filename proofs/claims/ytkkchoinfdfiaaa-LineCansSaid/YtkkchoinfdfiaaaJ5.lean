/- The law LineRounds: its walk. -/
import Derived.Test.YtkkchoinfdfiaaaN3
import Derived.Deep.QuietTactic
set_option linter.unusedVariables false
set_option linter.unusedSimpArgs false
namespace Go.Proofs.Ytkkchoinfdfiaaa
open Go.RowKit Go.Q Go.Shelf Go.Maps

theorem seven_later {w X W : World} {p0 p1 p2 p3 p4 p5 p6 : Addr} {v0 v1 v2 v3 v4 v5 v6 : Value} (h : Ext w X ∧ X.cell? p0 = some v0 ∧ X.cell? p1 = some v1 ∧ X.cell? p2 = some v2 ∧ X.cell? p3 = some v3 ∧ X.cell? p4 = some v4 ∧ X.cell? p5 = some v5 ∧ X.cell? p6 = some v6) (E : Ext X W) :
    Ext w W ∧ W.cell? p0 = some v0 ∧ W.cell? p1 = some v1 ∧ W.cell? p2 = some v2 ∧ W.cell? p3 = some v3 ∧ W.cell? p4 = some v4 ∧ W.cell? p5 = some v5 ∧ W.cell? p6 = some v6 := by
  obtain ⟨h, a, b, c, d, e, f, g⟩ := h
  exact ⟨h.comp E, cell_laterA a E, cell_laterA b E, cell_laterA c E, cell_laterA d E, cell_laterA e E, cell_laterA f E, cell_laterA g E⟩
theorem one_later {w X W : World} {p : Addr} {v : Value} (h : Ext w X ∧ X.cell? p = some v) (E : Ext X W) : Ext w W ∧ W.cell? p = some v := ⟨h.1.comp E, cell_laterA h.2 E⟩
set_option maxRecDepth 100000 in
set_option maxHeartbeats 4000000 in
theorem rounds_bad (l : Ln) (a1 a2 : Option Addr) (n1 n2 c1 c2 : Nat) (ws ts : List Int) (w : World) (l1 : ws.length = n1) (l2 : ts.length = n2) (b1 : n1 ≤ 9223372036854775807) (b2 : n2 ≤ 9223372036854775807) (i1 : IntsAt w a1 ws) (i2 : IntsAt w a2 ts) (hx : passX l ws ts ≠ 0) :
    Calls Try.prog 7 #[.agg #[.int .i64 l.words, .int .i64 l.bits, .int .i64 l.period, .int .i64 l.delay, .int .i64 l.slope, .int .i64 l.window], .slice a1 n1 c1, .slice a2 n2 c2] w fun e w' => e = .returned (.bool true) ∧ Ext w w' := by
  have hps := fun W (E : Ext w W) => Pass_any l a1 a2 n1 n2 c1 c2 ws ts W l1 l2 b1 b2 (i1.ext E) (i2.ext E)
  have e3 : passE l ws ts = ([], 0, passX l ws ts) := by unfold passE; rw [if_neg hx]
  rw [e3] at hps
  have hxb : (passX l ws ts != 0) = true := by simpa using hx
  obtain ⟨y, hy⟩ : ∃ y, passX l ws ts = y := ⟨_, rfl⟩
  rw [hy] at hps hxb
  clear e3 hx hy i1 i2 l1 l2
  go_enter Try.func7, Try.ntmps7
  go_wp2_with fail
  refine (hps _ ((Ext.refl w).alloc _)).mono ?_
  rintro e w1 ⟨a5, k5, rfl, hI5, E1⟩
  go_wp2_with fail
  refine (awake_any _).mono ?_
  rintro e w6 ⟨rfl, E6⟩
  go_wp2
  go_ret
  exact ⟨rfl, E1.old.comp E6⟩
set_option maxRecDepth 100000 in
set_option maxHeartbeats 8000000 in
theorem rounds_good (l : Ln) (a1 a2 : Option Addr) (n1 n2 c1 c2 : Nat) (ws ts : List Int) (w : World) (l1 : ws.length = n1) (l2 : ts.length = n2) (b1 : n1 ≤ 9223372036854775807) (b2 : n2 ≤ 9223372036854775807) (i1 : IntsAt w a1 ws) (i2 : IntsAt w a2 ts) (hx : passX l ws ts = 0) :
    Calls Try.prog 7 #[.agg #[.int .i64 l.words, .int .i64 l.bits, .int .i64 l.period, .int .i64 l.delay, .int .i64 l.slope, .int .i64 l.window], .slice a1 n1 c1, .slice a2 n2 c2] w fun e w' => e = .returned (.bool true) ∧ Ext w w' := by
  have hps := fun W (E : Ext w W) => Pass_any l a1 a2 n1 n2 c1 c2 ws ts W l1 l2 b1 b2 (i1.ext E) (i2.ext E)
  have e3 : passE l ws ts = (passW l ws ts, atL l ts, 0) := by unfold passE; rw [if_pos hx]
  rw [e3] at hps
  obtain ⟨ho, hwe, h60, hts⟩ : okL l = true ∧ wordsE l ws = 0 ∧ ts.length ≤ 60 ∧ ∀ t ∈ ts, tempB t = true := by
    unfold passX at hx
    split at hx
    · omega
    · split at hx
      · omega
      · split at hx
        · omega
        · split at hx
          · omega
          · rename_i g1 g2 g3 g4
            refine ⟨by simpa using g1, by omega, by omega, fun t ht => ?_⟩
            cases h : tempB t with
            | true => rfl
            | false => exact absurd (List.any_eq_true.2 ⟨t, ht, by rw [h]; rfl⟩) g4
  have hok := okL_ok ho
  have hsh : ∀ t, tempB t = true → ∀ W, Calls Try.prog 30 #[.agg #[.int .i64 l.words, .int .i64 l.bits, .int .i64 l.period, .int .i64 l.delay, .int .i64 l.slope, .int .i64 l.window], .int .i64 t] W fun e w' => e = .returned (.tuple #[.int .i64 (shiftV l t).1, .bool (lostL l t), .int .i64 0]) ∧ Ext W w' := by
    intro t ht W
    have h := Shift_any l t W
    rw [show shiftE l t = ((shiftV l t).1, (shiftV l t).2, 0) by unfold shiftE; rw [if_pos ⟨ho, ht⟩]] at h
    dsimp only at h
    rw [show (shiftV l t).2 = lostL l t by unfold shiftV; cases lostL l t <;> rfl] at h
    exact h
  have hw1 : (passW l ws ts).length = n1 := by
    have := (words_bd hok hwe).1
    unfold passW wordsN
    rw [fstN_length]
    omega
  obtain ⟨V, hV⟩ : ∃ V, passW l ws ts = V := ⟨_, rfl⟩
  obtain ⟨at_, hat⟩ : ∃ x, atL l ts = x := ⟨_, rfl⟩
  have hcell : ∀ W, Ext w W → ∀ k, k < n2 → ∃ b off, a2 = some ⟨b, off, none⟩ ∧ (∀ j, j < n2 → W.cell? ⟨b, off + j, none⟩ = some (.int .i64 (ts[j]?.getD 0))) ∧ tempB (ts[k]?.getD 0) = true := by
    intro W E k hk
    rcases i2 with e | ⟨b, off, ha, hb, hc⟩
    · rw [e] at l2; simp at l2; omega
    · refine ⟨b, off, ha, fun j hj => (E.cell (p := ⟨b, off + j, none⟩) hb).trans (hc j (by omega)), ?_⟩
      rw [List.getElem?_eq_getElem (by omega)]
      exact hts _ (List.getElem_mem _)
  rw [hV, hat] at hps
  rw [hV] at hw1
  have HC := Lib.hid hcell
  have HV := Lib.hid hV
  have HAT := Lib.hid hat
  have HX := Lib.hid (And.intro ho (And.intro hwe (And.intro hx hts)))
  have HOK := Lib.hid hok
  have H12 := Lib.hid (And.intro l1 l2)
  have HW1 := Lib.hid hw1
  have HI := Lib.hid (And.intro i1 i2)
  rw [l2] at h60
  clear hcell hV hat ho hwe hx hts hok l1 l2 hw1 i1 i2 e3
  go_enter Try.func7, Try.ntmps7
  go_wp2_with fail
  refine (hps _ ((Ext.refl w).alloc _)).mono ?_
  rintro e w1 ⟨a5, k5, rfl, hI5, E1⟩
  rw [show ((V, (at_ : Int), (0 : Int)) : List Int × Int × Int).1.length = n1 from HW1.out]
  clear hps
  obtain ⟨i0, hi, hz0, hz1, hz2⟩ := info_parts Try.infoE
  have HE1 := Lib.hid E1
  have hI5' : IntsAt w1 a5 V := hI5
  have hEw : Ext w w1 := E1.old
  have HB12 := Lib.hid (And.intro b1 b2)
  clear hI5 E1 b1 b2
  go_wp2_with fail
  go_loopw [10, 11, 12] (fun s10 s11 s12 wr => ∃ k : Nat, k ≤ n2 ∧ s12 = .int .i64 k ∧ s11 = .int .i64 (sumS l (ts.take k)) ∧ wr.ownsRow w1.heap.size 3 1 s10 (ts.reverse.take k).length (iv (ts.reverse.take k)) ∧ Ext w1 wr) (fun _ _ s12 _ => n2 - (Go.RowKit.intOf s12).toNat)
  case atStart => exact ⟨0, Nat.zero_le _, rfl, by simp [sumS], World.ownsRow_nil _ _ _ _, Ext.refl _⟩
  case round =>
    obtain ⟨k, hk, rfl, rfl, hown, EX⟩ := hrel
    obtain ⟨X, rfl⟩ : ∃ X : World, X = wr := ⟨_, rfl⟩
    by_cases hlt : k < n2
    · have hltz : (k : Int) < (n2 : Int) := by omega
      obtain ⟨b, off, rfl, hc, htb⟩ := HC.out X (hEw.comp EX) k hlt
      have hc1 := hc (n2 - 1 - k) (by omega)
      have hc2 := hc k hlt
      have e1 : ((n2 : Int) - 1 - (k : Int)) = ((n2 - 1 - k : Nat) : Int) := by omega
      obtain ⟨p, hp⟩ : ∃ p, n2 - 1 - k = p := ⟨_, rfl⟩
      rw [hp] at hc1 e1
      have hp0 : (0 : Int) ≤ (p : Int) := by omega
      have hp1 : (p : Int) < (n2 : Int) := by omega
      have hxs := EX.size
      have hlen : (ts.reverse.take k).length = k := by rw [List.length_take, List.length_reverse, H12.out.2]; omega
      obtain ⟨tp, htp⟩ : ∃ tp, ts[p]?.getD 0 = tp := ⟨_, rfl⟩
      obtain ⟨t, ht⟩ : ∃ t, ts[k]?.getD 0 = t := ⟨_, rfl⟩
      rw [htp] at hc1
      rw [ht] at hc2 htb
      have HT := Lib.hid (And.intro htp (And.intro ht hp))
      rw [hlen] at hown
      have E2 := HE1.out.comp EX
      have hrev : ts.reverse.take (k + 1) = ts.reverse.take k ++ [tp] := take_snoc (by rw [List.length_reverse, H12.out.2]; exact hlt) 0 (by
        rw [List.getElem?_reverse (by rw [H12.out.2]; exact hlt), H12.out.2, hp]
        exact htp)
      have hsum : sumS l (ts.take (k + 1)) = sumS l (ts.take k) + (shiftV l t).1 := by
        rw [take_snoc (by rw [H12.out.2]; exact hlt) 0 ht, sumS_snoc]
      have hsb := sumS_bd HOK.out (ts := ts.take k) (fun x hx => HX.out.2.2.2 x (List.mem_of_mem_take hx))
      have hsb1 := shiftV_bd HOK.out htb
      have hlk : (ts.take k).length = k := by rw [List.length_take, H12.out.2]; omega
      rw [hlk] at hsb
      have hshk := hsh t htb
      obtain ⟨z, hz⟩ : ∃ z, (shiftV l t).1 = z := ⟨_, rfl⟩
      obtain ⟨q, hq⟩ : ∃ q, sumS l (ts.take k) = q := ⟨_, rfl⟩
      rw [hz] at hshk hsum hsb1
      rw [hq] at hsum hsb ⊢
      have HREV := Lib.hid hrev
      have HSUM := Lib.hid hsum
      have HLK := Lib.hid hlen
      obtain ⟨hsb0, hsb2⟩ := hsb
      obtain ⟨hsb3, hsb4⟩ := hsb1
      have wq : IntKind.i64.wrap (q + z) = q + z := IntWalk.i64_in _ (by omega)
      clear htp ht hp hc hlen hrev hsum hz hq hlk
      go_wp2_with (at_builtin; refine wpList_append_own _ rfl _ _ 26 rfl w1.heap.size 3 i0 (.int .i64 0) 1 8 Try.underlying26 hi hz0 hz1 hz2 rfl (by decide) _ _ _ rfl (hown.alloc _) ⟨X.heap.size, 0, none⟩ 1 1 [.int .i64 tp] rfl rfl (cell_one_new _ _ _) (by simp [Value.oneCell']) (by unfold maxLen; omega) (by omega) (by simp; omega) ?_; intro v' w3 hown' hgrow hnil; clear hnil)
      have E4 : Ext w1 w3 := (EX.alloc _).grown hgrow (by simp; omega) (fun q e => (hown.lt q e).1)
      have hown3 : w3.ownsRow w1.heap.size 3 1 v' (k + 1) (iv (ts.reverse.take (k + 1))) := by
        rw [HREV.out]
        unfold iv at hown' ⊢
        rw [List.map_append]
        exact hown'
      have E5 := HE1.out.comp E4
      clear hown hown' hgrow EX E2
      have c0 := box_at (v := .int .i64 l.words) E5 0 rfl
      have c1 := box_at (v := .int .i64 l.bits) E5 1 rfl
      have c2 := box_at (v := .int .i64 l.period) E5 2 rfl
      have c3 := box_at (v := .int .i64 l.delay) E5 3 rfl
      have c4 := box_at (v := .int .i64 l.slope) E5 4 rfl
      have c5 := box_at (v := .int .i64 l.window) E5 5 rfl
      obtain ⟨b', off', hbe, hc3', _⟩ := HC.out w3 (hEw.comp E4) k hlt
      obtain ⟨rfl, rfl⟩ : b = b' ∧ off = off' := by
        cases hbe
        exact ⟨rfl, rfl⟩
      have hc3 := hc3' k hlt
      rw [HT.out.2.1] at hc3
      clear hbe hc3' hc1 hc2
      (try go_frame)
      go_wp2_with fail
      have hE33 := Ext.refl w3
      go_region_held3 (fun w' => Ext w3 w' ∧ w'.cell? ⟨w.heap.size, 0, none⟩ = some (.int .i64 l.words) ∧ w'.cell? ⟨w.heap.size, 1, none⟩ = some (.int .i64 l.bits) ∧ w'.cell? ⟨w.heap.size, 2, none⟩ = some (.int .i64 l.period) ∧ w'.cell? ⟨w.heap.size, 3, none⟩ = some (.int .i64 l.delay) ∧ w'.cell? ⟨w.heap.size, 4, none⟩ = some (.int .i64 l.slope) ∧ w'.cell? ⟨w.heap.size, 5, none⟩ = some (.int .i64 l.window) ∧ w'.cell? ⟨b, off + k, none⟩ = some (.int .i64 t))
        (first | exact ⟨hE33.drew, c0, c1, c2, c3, c4, c5, hc3⟩ | exact seven_later hHeld hb' | exact seven_later (by assumption) hb')
        (first | (go_at_call 30; refine (hshk _).mono ?_; rintro e w' ⟨rfl, hb'⟩))
      all_goals
        have hh := ‹Ext w3 _ ∧ _ ∧ _ ∧ _ ∧ _ ∧ _ ∧ _ ∧ _›
        have E6 := hh.1
        have hown6 := own_ext hown3 E6
        have E46 := E4.comp E6
        clear c0 c1 c2 c3 c4 c5 hc3 hE33 hh hown3
        cases hlo : lostL l t with
        | true =>
          have hal := at_lost (l := l) (ts := ts) (i := k) (by rw [H12.out.2]; exact hlt) (by rw [HT.out.2.1]; exact hlo)
          rw [HAT.out] at hal
          have d1 : decide (at_ < 0) = false := decide_eq_false (by omega)
          have d2 : decide ((k : Int) < at_) = false := decide_eq_false (by omega)
          clear hlo hal
          go_wp2_with fail
          go_roundw
          case rel => exact ⟨k + 1, by omega, by go_num, by rw [HSUM.out], by rw [List.length_take, List.length_reverse, H12.out.2, Nat.min_eq_left (by omega)]; exact hown6, E46⟩
          case measure => simp [Go.RowKit.intOf]; omega
        | false =>
          have hak := at_kept (l := l) (ts := ts) (i := k) (by rw [H12.out.2]; exact hlt) (by rw [HT.out.2.1]; exact hlo)
          rw [HAT.out] at hak
          have d1 : (at_ == (k : Int)) = false := by simpa using hak
          clear hlo hak
          go_wp2_with fail
          go_roundw
          case rel => exact ⟨k + 1, by omega, by go_num, by rw [HSUM.out], by rw [List.length_take, List.length_reverse, H12.out.2, Nat.min_eq_left (by omega)]; exact hown6, E46⟩
          case measure => simp [Go.RowKit.intOf]; omega
    · have hltz : ¬ (k : Int) < (n2 : Int) := by omega
      have hkn : k = n2 := by omega
      have hsb := sumS_bd HOK.out (ts := ts) (fun x hx => HX.out.2.2.2 x hx)
      rw [H12.out.2] at hsb
      rw [show ts.take k = ts from List.take_of_length_le (by rw [H12.out.2]; omega), show ts.reverse.take k = ts.reverse from List.take_of_length_le (by rw [List.length_reverse, H12.out.2]; omega)] at *
      have hlr : ts.reverse.length = n2 := by rw [List.length_reverse, H12.out.2]
      rw [hlr] at hown
      obtain ⟨av, cv, rfl⟩ := own_form hown
      have hI2 := own_ints hown
      have hWX := hEw.comp EX
      have hps2 := fun W (E : Ext X W) => Pass_any l a1 av n1 n2 c1 cv ws ts.reverse W H12.out.1 hlr HB12.out.1 (by omega) (HI.out.1.ext (hWX.comp E)) (hI2.ext E)
      rw [show passE l ws ts.reverse = (V, atL l ts.reverse, 0) by unfold passE; rw [passX_rev, if_pos HX.out.2.2.1, passW_rev HOK.out HX.out.2.1, HV.out]] at hps2
      obtain ⟨at2, hat2⟩ : ∃ x, atL l ts.reverse = x := ⟨_, rfl⟩
      rw [hat2] at hps2
      have hin := fun (b5 : Option Addr) (d5 : Nat) W (j5 : IntsAt W b5 V) (E : Ext X W) => ints_any a5 b5 n1 n1 k5 d5 V V W HW1.out HW1.out HB12.out.1 HB12.out.1 (hI5'.ext (EX.comp E)) j5
      rw [show decide (V = V) = true from decide_eq_true rfl] at hin
      have hab := at_bd l ts
      rw [HAT.out, H12.out.2] at hab
      obtain ⟨hab0, hab1⟩ := hab
      have d1 : decide (at_ < -1) = false := decide_eq_false (by omega)
      have d2 : decide ((n2 : Int) ≤ at_) = false := decide_eq_false (by omega)
      obtain ⟨s, hs⟩ : ∃ s, sumS l ts = s := ⟨_, rfl⟩
      rw [hs] at hsb ⊢
      have HS := Lib.hid hs
      have E2 := HE1.out.comp EX
      have y0 := box_at (v := .int .i64 l.words) E2 0 rfl
      have y1 := box_at (v := .int .i64 l.bits) E2 1 rfl
      have y2 := box_at (v := .int .i64 l.period) E2 2 rfl
      have y3 := box_at (v := .int .i64 l.delay) E2 3 rfl
      have y4 := box_at (v := .int .i64 l.slope) E2 4 rfl
      have y5 := box_at (v := .int .i64 l.window) E2 5 rfl
      have HHI2 := Lib.hid hI2
      clear hat2 hs hown hlr hI2 hkn hi hz0 hz1 hz2
      go_wp2_with fail
      refine (hps2 _ (Ext.refl _)).mono ?_
      rintro e w5 ⟨b5, d5, rfl, hJ5, E5⟩
      rw [show ((V, (at2 : Int), (0 : Int)) : List Int × Int × Int).1.length = n1 from HW1.out]
      go_wp2_with fail
      refine (hin _ _ _ hJ5 E5).mono ?_
      rintro e w6 ⟨rfl, E6⟩
      have E56 := E5.comp E6
      have hX6 := hWX.comp E56
      have hbt := HOK.out.bits
      have hwd := HOK.out.words
      have hn164 : n1 ≤ 64 := by have := (words_bd HOK.out HX.out.2.1).1; have := H12.out.1; omega
      have hVb : ∀ x ∈ V, 0 ≤ x ∧ x < 1099511627776 := by
        intro x hx
        rw [← HV.out] at hx
        exact bits40 (bits := l.bits.toNat) (by omega) (wordsN_bd _ _ _ x hx)
      have hon := fun W (E : Ext X W) => ones_any a5 n1 k5 V W HW1.out hn164 (hI5'.ext (EX.comp E)) hVb
      by_cases hneg : at_ < 0
      · have hnl : ts.any (lostL l) = false := at_neg (by rw [HAT.out]; exact hneg)
        have hdn : decide (0 ≤ at_) = false := decide_eq_false (by omega)
        obtain ⟨bb, hbb⟩ : ∃ bb : Nat, l.bits = bb := Int.eq_ofNat_of_zero_le (by omega)
        have hbt40 : bb ≤ 40 := by omega
        have hbt1 : 1 ≤ bb := by omega
        have hwb := (words_bd HOK.out HX.out.2.1).2
        have hpu := fun W (E : Ext w W) => rpulses_any bb a1 n1 c1 ws W hbt40 H12.out.1 hn164 (HI.out.1.ext E) (fun x hx => by have := bits40 (bits := l.bits.toNat) (by omega) (hwb x hx); omega)
        have hplen : (pulsesN bb ws).length = n1 * bb := by rw [pulsesN_length, H12.out.1]
        have hlm : n1 * bb ≤ 2560 := by have := Nat.mul_le_mul hn164 hbt40; omega
        have hla := fun W (b : Option Addr) (d : Nat) (j : IntsAt W b (b2is (pulsesN bb ws))) => rlate_any b (n1 * bb) d (b2is (pulsesN bb ws)) s W (by rw [b2is_length, hplen]) (by omega) j (by omega)
        have hro : rotP 0 (b2is (pulsesN bb ws)) s = b2is (rotP false (pulsesN bb ws) s) := rotP_map b2i false (pulsesN bb ws) s
        rw [hro] at hla
        have hjo := fun W (b : Option Addr) (d : Nat) (j : IntsAt W b (b2is (rotP false (pulsesN bb ws) s))) => rjoined_any bb n1 b (n1 * bb) d (rotP false (pulsesN bb ws) s) W hbt1 hbt40 hn164 (by rw [rotP_length, hplen]) rfl j
        have hVe : wordsN bb n1 (rotP false (pulsesN bb ws) s) = V := by
          rw [← HV.out, pass_rot HOK.out HX.out.2.1 hnl, ← sumS_sumL hnl, HS.out]
          have e1 : l.bits.toNat = bb := by omega
          have e2 : l.words.toNat = n1 := by have := (words_bd HOK.out HX.out.2.1).1; have := H12.out.1; omega
          rw [e1, e2]
        rw [hVe] at hjo
        have hin2 := fun (b5 : Option Addr) (d5 : Nat) W (j5 : IntsAt W b5 V) (E : Ext X W) => ints_any a5 b5 n1 n1 k5 d5 V V W HW1.out HW1.out HB12.out.1 HB12.out.1 (hI5'.ext (EX.comp E)) j5
        rw [show decide (V = V) = true from decide_eq_true rfl] at hin2
        have how := fun W (E : Ext w W) => ones_any a1 n1 c1 ws W H12.out.1 hn164 (HI.out.1.ext E) (fun x hx => bits40 (bits := l.bits.toNat) (by omega) (hwb x hx))
        have hoe : onesQ V = onesQ ws := by rw [← HV.out]; exact ones_pass HOK.out HX.out.2.1 hnl
        rw [hoe] at hon
        generalize onesQ ws = oq at *
        rw [← hbb] at hpu hjo
        have E26 := E2.comp E56
        clear y0 y1 y2 y3 y4 y5
        have y0 := box_at (v := .int .i64 l.words) E26 0 rfl
        have y1 := box_at (v := .int .i64 l.bits) E26 1 rfl
        have y2 := box_at (v := .int .i64 l.period) E26 2 rfl
        have y3 := box_at (v := .int .i64 l.delay) E26 3 rfl
        have y4 := box_at (v := .int .i64 l.slope) E26 4 rfl
        have y5 := box_at (v := .int .i64 l.window) E26 5 rfl
        clear hbb hbt hwd hro hVe hoe hnl hplen hwb hVb hin hps2 hsh
        go_wp2_with fail
        go_region_held3 (fun w' => Ext w6 w' ∧ w'.cell? ⟨w.heap.size, 1, none⟩ = some (.int .i64 l.bits))
          (first | assumption | exact ⟨(Ext.refl w6).drew, y1⟩ | exact one_later (by assumption) hb')
          (first
            | (go_at_call 34; refine (hpu _ (hX6.comp (awS_ext (by assumption)))).mono ?_; rintro e w' ⟨pa, pc, rfl, pown, hb'⟩)
            | (go_at_call 33; refine (hla _ _ _ (own_ints pown)).mono ?_; rintro e w' ⟨qa, qc, rfl, qI, hb'⟩)
            | (go_at_call 32; refine (hjo _ _ _ qI).mono ?_; rintro e w' ⟨ra, rc, rfl, rI, hb'⟩)
            | (go_at_call 25; refine (hin2 _ _ _ rI (E56.comp (awS_ext (by assumption)))).mono ?_; rintro e w' ⟨rfl, hb'⟩)
            | (go_at_call_of 31 (Value.slice a5 n1 k5); refine (hon _ (E56.comp (awS_ext (by assumption)))).mono ?_; rintro e w' ⟨rfl, rfl⟩)
            | (go_at_call_of 31 (Value.slice a1 n1 c1); refine (how _ (hX6.comp (awS_ext (by assumption)))).mono ?_; rintro e w' ⟨rfl, rfl⟩)
            | (go_at_call 22; refine (awake_any _).mono ?_; rintro e w' ⟨rfl, hb'⟩))
        all_goals
          have hh := ‹Ext w6 _ ∧ _›
          have hE := hX6.comp hh.1
          clear hh
          go_wp2
          go_ret
          exact ⟨rfl, hE⟩
      · have hnl : ts.any (lostL l) = true := at_pos (by rw [HAT.out]; exact hneg)
        have hdn : decide (0 ≤ at_) = true := decide_eq_true (by omega)
        have hz : onesQ V = 0 := by rw [← HV.out, pass_lost hnl, ones_zero]
        rw [hz] at hon
        clear hnl hz hbt hwd hVb hin hps2 hsh
        go_wp2_with fail
        refine (hon _ E56).mono ?_
        rintro e w7 ⟨rfl, hw7⟩
        obtain rfl := hw7
        go_wp2_with fail
        refine (awake_any _).mono ?_
        rintro e w8 ⟨rfl, E8⟩
        go_wp2
        go_ret
        exact ⟨rfl, hX6.comp E8⟩
theorem rounds_law (l : Ln) (a1 a2 : Option Addr) (n1 n2 c1 c2 : Nat) (ws ts : List Int) (w : World) (l1 : ws.length = n1) (l2 : ts.length = n2) (b1 : n1 ≤ 9223372036854775807) (b2 : n2 ≤ 9223372036854775807) (i1 : IntsAt w a1 ws) (i2 : IntsAt w a2 ts) :
    Calls Try.prog 7 #[.agg #[.int .i64 l.words, .int .i64 l.bits, .int .i64 l.period, .int .i64 l.delay, .int .i64 l.slope, .int .i64 l.window], .slice a1 n1 c1, .slice a2 n2 c2] w fun e w' => e = .returned (.bool true) ∧ Ext w w' := by
  by_cases hx : passX l ws ts = 0
  · exact rounds_good l a1 a2 n1 n2 c1 c2 ws ts w l1 l2 b1 b2 i1 i2 hx
  · exact rounds_bad l a1 a2 n1 n2 c1 c2 ws ts w l1 l2 b1 b2 i1 i2 hx
end Go.Proofs.Ytkkchoinfdfiaaa

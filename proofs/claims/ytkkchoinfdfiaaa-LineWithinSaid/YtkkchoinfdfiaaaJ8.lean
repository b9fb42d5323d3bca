/- The law LineWithin: its walk. -/
import Derived.Test.YtkkchoinfdfiaaaN5
import Derived.Test.YtkkchoinfdfiaaaJ5
set_option linter.unusedVariables false
set_option linter.unusedSimpArgs false
namespace Go.Proofs.Ytkkchoinfdfiaaa
open Go.RowKit Go.Q Go.Shelf Go.Maps

set_option maxHeartbeats 1000000 in
theorem among_any (s : Sp) (n : Int) (w : World) (h0 : -500 ≤ s.lo) (h1 : s.lo ≤ s.hi) (h2 : s.hi ≤ 1000) (hn : 0 ≤ n ∧ n ≤ 255) : Calls Try.prog 35 #[.agg #[.int .i64 s.lo, .int .i64 s.hi], .int .u8 n] w fun e w' => e = .returned (.int .i64 (amongS s n)) ∧ Ext w w' := by
  have m1 := mul_bd (a := s.hi - s.lo) (b := n) (A := 1500) (B := 255) (by omega) (by omega) hn.1 hn.2
  obtain ⟨hn0, hn1⟩ := hn
  unfold amongS
  have w1 : IntKind.i64.wrap (s.hi - s.lo) = s.hi - s.lo := IntWalk.i64_in _ (by omega)
  have w2 : IntKind.i64.wrap ((s.hi - s.lo) * n) = (s.hi - s.lo) * n := IntWalk.i64_in _ (by omega)
  have t1 : ((s.hi - s.lo) * n).tdiv 255 = (s.hi - s.lo) * n / 255 := Int.tdiv_eq_ediv_of_nonneg (by omega)
  have w3 : IntKind.i64.wrap n = n := IntWalk.i64_in _ (by omega)
  have w4 : IntKind.i64.wrap ((s.hi - s.lo) * n / 255) = (s.hi - s.lo) * n / 255 := IntWalk.i64_in _ (by omega)
  have w5 : IntKind.i64.wrap (s.lo + (s.hi - s.lo) * n / 255) = s.lo + (s.hi - s.lo) * n / 255 := IntWalk.i64_in _ (by omega)
  go_enter Try.func35, Try.ntmps35
  go_wp2
  go_ret
  exact ⟨rfl, (Ext.refl w).alloc _⟩
set_option maxRecDepth 100000 in
set_option maxHeartbeats 4000000 in
theorem within_law (l : Ln) (a1 a2 : Option Addr) (n1 n2 c1 c2 : Nat) (ss : List Sp) (xs : List Int) (w : World) (l1 : ss.length = n1) (l2 : xs.length = n2) (b1 : n1 ≤ 9223372036854775807) (b2 : n2 ≤ 9223372036854775807) (i1 : SpansAt w a1 ss) (i2 : BytesAt w a2 xs) (hx : ∀ x ∈ xs, 0 ≤ x ∧ x ≤ 255) :
    Calls Try.prog 9 #[.agg #[.int .i64 l.words, .int .i64 l.bits, .int .i64 l.period, .int .i64 l.delay, .int .i64 l.slope, .int .i64 l.window], .slice a1 n1 c1, .slice a2 n2 c2] w fun e w' => e = .returned (.bool true) ∧ Ext w w' := by
  have hcn := fun W (E : Ext w W) => Can_any l a1 n1 c1 ss W l1 b1 (i1.ext E)
  by_cases hc : canX l ss = 0
  · have e1 : canE l ss = (shiftsC l ss, ss.any (lostC l), 0) := by unfold canE; rw [if_pos hc]
    rw [e1] at hcn
    obtain ⟨V, hV⟩ : ∃ V, shiftsC l ss = V := ⟨_, rfl⟩
    obtain ⟨L, hL⟩ : ∃ L, ss.any (lostC l) = L := ⟨_, rfl⟩
    have ho : okL l = true := by
      have := hc
      unfold canX at this
      cases h : okL l with
      | true => rfl
      | false => rw [if_pos h] at this; omega
    have hsp : ∀ s ∈ ss, spanX s = 0 := by
      have h := hc
      unfold canX at h
      rw [if_neg (by intro h2; rw [if_pos h2] at h; omega)] at h
      split at h
      · omega
      · exact spansX_all ss h
    have h60 : n1 ≤ 60 := by
      have h := hc
      unfold canX at h
      rw [if_neg (by intro h2; rw [if_pos h2] at h; omega)] at h
      split at h
      · omega
      · omega
    rw [hV, hL] at hcn
    have HV := Lib.hid hV
    have HL := Lib.hid hL
    have HO := Lib.hid ho
    have HOK := Lib.hid (okL_ok ho)
    have HSP := Lib.hid hsp
    have HX := Lib.hid hx
    have L1 := Lib.hid l1
    have L2 := Lib.hid l2
    have I1 := Lib.hid i1
    have I2 := Lib.hid i2
    clear e1 hV hL hc l1 l2 i1 i2 ho hsp hx
    go_enter Try.func9, Try.ntmps9
    go_wp2_with fail
    refine (hcn _ ((Ext.refl w).alloc _)).mono ?_
    rintro e w1 ⟨ac, cc, rfl, hI, E1⟩
    rw [show ((V, L, (0 : Int)) : List Int × Bool × Int).1.length = V.length from rfl]
    have hI1 : IntsAt w1 ac V := hI
    have hEw : Ext w w1 := E1.old
    have HE1 := Lib.hid E1
    clear hI E1 hcn
    obtain ⟨i0, hi, hz0, hz1, hz2⟩ := info_parts Try.infoE
    go_wp2_with fail
    have hbx0 : (w1.alloc (.cells #[.slice ac V.length cc, .bool L] 34)).heap[w1.heap.size]? = some (.cells #[.slice ac V.length cc, .bool L] 34 (0, 0)) := heap_alloc_new _ _
    have hEW1 : Ext w1 (w1.alloc (.cells #[.slice ac V.length cc, .bool L] 34)) := (Ext.refl _).alloc _
    obtain ⟨Bc, hBc⟩ : ∃ Bc, w1.heap.size = Bc := ⟨_, rfl⟩
    rw [hBc] at hbx0
    rw [hBc]
    generalize w1.alloc (.cells #[.slice ac V.length cc, .bool L] 34) = W1 at *
    have HI1 := Lib.hid (hI1.ext hEW1)
    replace HE1 := Lib.hid (HE1.out.comp hEW1)
    replace hEw := hEw.comp hEW1
    have hB0 : Bc < W1.heap.size := (Array.getElem?_eq_some_iff.1 hbx0).1
    have HBX := Lib.hid hbx0
    clear hI1 hBc hbx0 hEW1
    go_loopw [9, 10] (fun s9 s10 wr => ∃ k : Nat, k ≤ n1 ∧ s10 = .int .i64 k ∧ wr.ownsRow W1.heap.size 3 1 s9 k (iv (tempsL xs ss k)) ∧ Ext W1 wr) (fun _ s10 _ => n1 - (Go.RowKit.intOf s10).toNat)
    case atStart => exact ⟨0, Nat.zero_le _, rfl, World.ownsRow_nil _ _ _ _, Ext.refl _⟩
    case round =>
      obtain ⟨k, hk, rfl, hown, EX⟩ := hrel
      obtain ⟨X, rfl⟩ : ∃ X : World, X = wr := ⟨_, rfl⟩
      by_cases hlt : k < n1
      · have hltz : (k : Int) < (n1 : Int) := by omega
        rcases I1.out with e | ⟨b, off, rfl, hbl, hc⟩
        · have := L1.out
          rw [e] at this; simp at this; omega
        have hck := hc k (by rw [L1.out]; exact hlt)
        have hx0 := ((hEw.comp EX).cell (p := ⟨b, off + k * 2, none⟩) hbl).trans hck.1
        have hx1 := ((hEw.comp EX).cell (p := ⟨b, off + k * 2 + 1, none⟩) hbl).trans hck.2
        have hsa := span_at HSP.out (k := k) (by rw [L1.out]; exact hlt)
        obtain ⟨s, hs⟩ : ∃ s, ss[k]?.getD ⟨0, 0⟩ = s := ⟨_, rfl⟩
        rw [hs] at hx0 hx1 hsa
        obtain ⟨⟨g0, g1⟩, ⟨g2, g3⟩, g4⟩ := hsa
        have HS := Lib.hid (show tempsL xs ss (k + 1) = tempsL xs ss k ++ [amongS s (pickX xs k)] by rw [tempsL_succ, hs])
        have hXs := EX.size
        clear hc hck hs
        by_cases h0 : n2 = 0
        · have h0z : ¬ (0 : Int) < (n2 : Int) := by omega
          have HK := Lib.hid (show pickX xs k = 0 by unfold pickX; rw [if_pos (by rw [L2.out]; exact h0)])
          have ham := fun W => among_any s 0 W g0 g4 g3 (by omega)
          clear h0
          go_wp2_with fail
          refine (ham _).mono ?_
          rintro e w5 ⟨rfl, E5⟩
          have hown5 := own_ext hown E5
          have EX5 := EX.comp E5
          have hXs5 := EX5.size
          clear hown E5 EX hx0 hx1
          go_wp2_with (at_builtin; refine wpList_append_own _ rfl _ _ 26 rfl W1.heap.size 3 i0 (.int .i64 0) 1 8 Try.underlying26 hi hz0 hz1 hz2 rfl (by decide) _ _ _ rfl (hown5.alloc _) ⟨w5.heap.size, 0, none⟩ 1 1 [.int .i64 (amongS s 0)] rfl rfl (cell_one_new _ _ _) (by simp [Value.oneCell']) (by unfold maxLen; omega) (by omega) (by simp; omega) ?_; intro v' w3 hown' hgrow hnil; clear hnil)
          have E4 : Ext W1 w3 := (EX5.alloc _).grown hgrow (by simp; omega) (fun q e => (hown5.lt q e).1)
          have hown3 : w3.ownsRow W1.heap.size 3 1 v' (k + 1) (iv (tempsL xs ss (k + 1))) := by
            rw [HS.out, HK.out]
            unfold iv at hown' ⊢
            rw [List.map_append]
            exact hown'
          clear hown5 hown' hgrow EX5
          (try go_frame)
          go_wp2
          go_roundw
          case rel => exact ⟨k + 1, by omega, by go_num, hown3, E4⟩
          case measure => simp [Go.RowKit.intOf]; omega
        · have h0z : (0 : Int) < (n2 : Int) := by omega
          rcases I2.out with e | ⟨b2', off2, rfl, hbl2, hc2⟩
          · have := L2.out
            rw [e] at this; simp at this; omega
          obtain ⟨p, hp⟩ : ∃ p, k % n2 = p := ⟨_, rfl⟩
          have hp1 : p < n2 := by rw [← hp]; exact Nat.mod_lt _ (by omega)
          have hpe : (k : Int) % (n2 : Int) = (p : Int) := by rw [← hp]; exact (Int.natCast_emod k n2).symm
          have hpm : ((k : Int)).tmod (n2 : Int) = (p : Int) := by rw [Int.tmod_eq_emod_of_nonneg (by omega)]; exact hpe
          have hxp := mem_get (i := p) (by rw [L2.out]; exact hp1) HX.out
          have cp := (((hEw.comp EX)).cell (p := ⟨b2', off2 + p, none⟩) hbl2).trans (hc2 p (by rw [L2.out]; exact hp1))
          obtain ⟨xa, hxa⟩ : ∃ xa, xs[p]?.getD 0 = xa := ⟨_, rfl⟩
          have HK := Lib.hid (show pickX xs k = xa by unfold pickX; rw [if_neg (by rw [L2.out]; exact h0), L2.out, hp, hxa])
          rw [hxa] at cp hxp
          have ham := fun W => among_any s xa W g0 g4 g3 hxp
          have w9 : IntKind.i64.wrap (p : Int) = p := IntWalk.i64_in _ (by omega)
          have hp0 : (0 : Int) ≤ (p : Int) := by omega
          have hp2 : (p : Int) < (n2 : Int) := by omega
          have hne : ¬ n2 = 0 := h0
          have hne2 : ((n2 : Int) == 0) = false := by simp; omega
          clear hp hxa h0 hc2
          go_wp2_with fail
          refine (ham _).mono ?_
          rintro e w5 ⟨rfl, E5⟩
          clear cp
          have hown5 := own_ext hown E5
          have EX5 := EX.comp E5
          have hXs5 := EX5.size
          clear hown E5 EX hx0 hx1
          go_wp2_with (at_builtin; refine wpList_append_own _ rfl _ _ 26 rfl W1.heap.size 3 i0 (.int .i64 0) 1 8 Try.underlying26 hi hz0 hz1 hz2 rfl (by decide) _ _ _ rfl (hown5.alloc _) ⟨w5.heap.size, 0, none⟩ 1 1 [.int .i64 (amongS s xa)] rfl rfl (cell_one_new _ _ _) (by simp [Value.oneCell']) (by unfold maxLen; omega) (by omega) (by simp; omega) ?_; intro v' w3 hown' hgrow hnil; clear hnil)
          have E4 : Ext W1 w3 := (EX5.alloc _).grown hgrow (by simp; omega) (fun q e => (hown5.lt q e).1)
          have hown3 : w3.ownsRow W1.heap.size 3 1 v' (k + 1) (iv (tempsL xs ss (k + 1))) := by
            rw [HS.out, HK.out]
            unfold iv at hown' ⊢
            rw [List.map_append]
            exact hown'
          clear hown5 hown' hgrow EX5
          (try go_frame)
          go_wp2
          go_roundw
          case rel => exact ⟨k + 1, by omega, by go_num, hown3, E4⟩
          case measure => simp [Go.RowKit.intOf]; omega
      · have hltz : ¬ (k : Int) < (n1 : Int) := by omega
        obtain rfl : k = n1 := by omega
        have hok := HOK.out
        have hwd := hok.words
        have hbt := hok.bits
        have hB := hok.beats
        have hkl : k ≤ ss.length := by rw [L1.out]; exact Nat.le_refl _
        have htk : ss.take k = ss := List.take_of_length_le (by rw [L1.out]; exact Nat.le_refl _)
        obtain ⟨nw, hnw⟩ : ∃ nw : Nat, l.words = nw := Int.eq_ofNat_of_zero_le (by omega)
        obtain ⟨av, cv, rfl⟩ := own_form hown
        have hTI := own_ints hown
        have hlen := tempsL_length xs ss k
        have hlost := temps_lost (l := l) HX.out HSP.out k hkl
        have hcan := temps_can hok HX.out HSP.out k hkl
        have hto := temps_ok HX.out HSP.out k hkl
        rw [htk] at hlost hcan
        rw [HL.out] at hlost
        obtain ⟨TS, hTS⟩ : ∃ TS, tempsL xs ss k = TS := ⟨_, rfl⟩
        rw [hTS] at hTI hlen hlost hcan hto
        have hx1 : passX l (oneW nw) TS = 0 := by
          have := oneW_ok hok
          rw [hnw, Int.toNat_natCast] at this
          unfold passX
          rw [HO.out, this, if_neg (by simp), if_neg (by simp), if_neg (by omega), if_neg]
          rw [Bool.not_eq_true, List.any_eq_false]
          intro t ht
          rw [hto t ht]
          simp
        have hpo := fun W (a1 : Option Addr) (c1 : Nat) (j1 : IntsAt W a1 (oneW nw)) (E : Ext X W) => Pass_any l a1 av nw k c1 cv (oneW nw) TS W (oneW_len (by omega)) hlen (by omega) (by omega) j1 (hTI.ext E)
        rw [show passE l (oneW nw) TS = (passW l (oneW nw) TS, atL l TS, 0) by unfold passE; rw [if_pos hx1]] at hpo
        have hplen : (passW l (oneW nw) TS).length = nw := by unfold passW wordsN; rw [fstN_length, hnw]; rfl
        have hmk : ∀ W, (Instr.makeSlice 26 (.int .i64 l.words) (.int .i64 l.words)).run Try.prog W = .ok (.slice (some ⟨W.heap.size, 0, none⟩) nw nw) (W.alloc (.cells (Array.replicate nw (.int .i64 0)) 3)) := fun W => by rw [hnw]; exact makeI W nw (by omega)
        have hmc := fun W => (made_cell W (n := nw) (i := 0) (by omega)).1
        have hmf := fun W => (made_cell W (n := nw) (i := 0) (by omega)).2
        have hnw1 : (0 : Int) < (nw : Int) := by omega
        have hnw0 : 1 ≤ nw ∧ nw ≤ 64 := by omega
        obtain ⟨at_, hat⟩ : ∃ x, atL l TS = x := ⟨_, rfl⟩
        obtain ⟨P, hP⟩ : ∃ P, passW l (oneW nw) TS = P := ⟨_, rfl⟩
        rw [hat, hP] at hpo
        rw [hP] at hplen
        have HPL := Lib.hid hplen
        have HP := Lib.hid hP
        have HAT := Lib.hid hat
        have HNW := Lib.hid hnw
        have HLO := Lib.hid hlost
        have HCAN := Lib.hid hcan
        have hAr := Lib.hid (oneA (n := nw) (by omega))
        have E2 := HE1.out.comp EX
        have d0 := box_at (v := .int .i64 l.words) E2 0 rfl
        have y0 := fun ob => box_at (v := .int .i64 l.words) (Ext.alloc E2 ob) 0 rfl
        have y1 := fun ob => box_at (v := .int .i64 l.bits) (Ext.alloc E2 ob) 1 rfl
        have y2 := fun ob => box_at (v := .int .i64 l.period) (Ext.alloc E2 ob) 2 rfl
        have y3 := fun ob => box_at (v := .int .i64 l.delay) (Ext.alloc E2 ob) 3 rfl
        have y4 := fun ob => box_at (v := .int .i64 l.slope) (Ext.alloc E2 ob) 4 rfl
        have y5 := fun ob => box_at (v := .int .i64 l.window) (Ext.alloc E2 ob) 5 rfl
        have hbxX := (EX.block _ hB0).trans HBX.out
        have hEX := hEw.comp EX
        have hIVX := HI1.out.ext EX
        clear hok hwd hbt hB hkl htk hnw hTI hlen hlost hcan hto hTS hx1 hat hP hplen hown EX hi hz0 hz1 hz2
        go_wp2_with fail
        have j1 : IntsAt (X.alloc (.cells ((Array.replicate nw (Value.int .i64 0)).setIfInBounds 0 (.int .i64 1)) 3)) (some ⟨X.heap.size, 0, none⟩) (oneW nw) := ints_fresh (w := X) hAr.out (Ext.refl _)
        refine (hpo _ _ _ j1 ((Ext.refl X).alloc _)).mono ?_
        rintro e w5 ⟨a5, k5, rfl, hI5, E5⟩
        rw [show ((P, at_, (0 : Int)) : List Int × Int × Int).1.length = nw from HPL.out]
        have E5o := E5.old
        have hbx5 := (E5o.block _ (Array.getElem?_eq_some_iff.1 hbxX).1).trans hbxX
        have hE5 := hEX.comp E5o
        have hIV5 := hIVX.ext E5o
        have E25 := E2.comp E5o
        clear hpo j1 hAr hmk hmc hmf E5 E5o hbxX hEX hIVX E2 d0 y0 y1 y2 y3 y4 y5
        have y0 := box_at (v := .int .i64 l.words) E25 0 rfl
        have y1 := box_at (v := .int .i64 l.bits) E25 1 rfl
        have y2 := box_at (v := .int .i64 l.period) E25 2 rfl
        have y3 := box_at (v := .int .i64 l.delay) E25 3 rfl
        have y4 := box_at (v := .int .i64 l.slope) E25 4 rfl
        have y5 := box_at (v := .int .i64 l.window) E25 5 rfl
        have c0 := blk_cell hbx5 0 (v := .slice ac V.length cc) rfl
        have cl := blk_cell hbx5 1 (v := .bool L) rfl
        by_cases hneg : at_ < 0
        · have hnl : TS.any (lostL l) = false := at_neg (by rw [HAT.out]; exact hneg)
          have hdn : decide (0 ≤ at_) = false := decide_eq_false (by omega)
          have hwd := HOK.out.words
          have hbt := HOK.out.bits
          have hB := HOK.out.beats
          have hno := HNW.out
          obtain ⟨bb, hbb⟩ : ∃ bb : Nat, l.bits = bb := Int.eq_ofNat_of_zero_le (by omega)
          have ebb : l.bits.toNat = bb := by omega
          have enw : l.words.toNat = nw := by omega
          obtain ⟨S, hS⟩ : ∃ S, sumL l TS = S := ⟨_, rfl⟩
          have hPr : P = wordsN bb nw (rotP false (pulsesN bb (oneW nw)) S) := by
            have h1 := oneW_ok HOK.out
            rw [enw] at h1
            rw [← HP.out, pass_rot HOK.out h1 hnl, hS, ebb, enw]
          have hpl1 : (pulsesN bb (oneW nw)).length = nw * bb := by rw [pulsesN_length, oneW_len (by omega)]
          have hpp : pulsesN bb P = rotP false (pulsesN bb (oneW nw)) S := by
            rw [hPr, pulses_words (by rw [rotP_length, hpl1])]
          have hNB : ((nw * bb : Nat) : Int) = beatsL l := by unfold beatsL; rw [Int.natCast_mul, hno, hbb]
          have hcx := HCAN.out hnl
          rw [hS] at hcx
          have hx0 := canC_in HOK.out hcx
          have hxV : S % beatsL l ∈ V := by
            rw [← HV.out]
            unfold shiftsC
            exact List.mem_filter.2 ⟨mem_beatsN.2 hx0, hcx⟩
          have hVb : ∀ v ∈ V, 0 ≤ v ∧ v < beatsL l := by
            intro v hv
            rw [← HV.out] at hv
            unfold shiftsC at hv
            exact mem_beatsN.1 (List.mem_filter.1 hv).1
          have hget : ∀ j : Nat, (j : Int) < beatsL l → (pulsesN bb P)[j]?.getD false = decide ((j : Int) = S % beatsL l) := by
            intro j hj
            have := one_rot HOK.out S hj
            rw [ebb, enw] at this
            rw [hpp]
            exact this
          have hpu := fun W (E : Ext w5 W) => rpulses_any bb a5 nw k5 P W (by omega) HPL.out (by omega) (hI5.ext E) (fun x hx => by
            have h2 : ∀ x ∈ P, 0 ≤ x ∧ x < 2 ^ bb := by rw [hPr]; exact wordsN_bd _ _ _
            have := bits40 (bits := bb) (by omega) (h2 x hx)
            omega)
          obtain ⟨N, hN⟩ : ∃ N, nw * bb = N := ⟨_, rfl⟩
          obtain ⟨x0, hx0e⟩ : ∃ x0, S % beatsL l = x0 := ⟨_, rfl⟩
          rw [hN] at hpu hNB
          rw [hx0e] at hxV hget
          rw [← hNB] at hVb hget
          rw [← hbb] at hpu
          have HXV := Lib.hid hxV
          have HVB := Lib.hid hVb
          have HGET := Lib.hid hget
          have HSV := Lib.hid (show V.Pairwise (· < ·) by rw [← HV.out]; exact shiftsC_sorted l ss)
          have HPPL := Lib.hid (show (pulsesN bb P).length = N by rw [hpp, rotP_length, hpl1, hN])
          have hVl : V.length ≤ 2560 := by
            rw [← HV.out]
            have h1 : (shiftsC l ss).length ≤ (beatsN l).length := List.length_filter_le _ _
            unfold beatsN at h1
            rw [fstN_length] at h1
            omega
          have hN26 : (N : Int) ≤ 2560 := by omega
          clear hnl hwd hbt hB hno hbb ebb enw hS hPr hpl1 hpp hNB hcx hx0 hxV hVb hget hN hx0e
          go_wp2_with fail
          refine (hpu _ (Ext.refl _)).mono ?_
          rintro e w6 ⟨pa, pc, rfl, pown, E6⟩
          have pI := own_ints pown
          have hbx6 := (E6.block _ (Array.getElem?_eq_some_iff.1 hbx5).1).trans hbx5
          have hE6 := hE5.comp E6
          have hIV6 := hIV5.ext E6
          have hBc6 : Bc < w6.heap.size := (Array.getElem?_eq_some_iff.1 hbx6).1
          clear pown hpu hbx5 hE5 hIV5 y0 y1 y2 y3 y4 y5 c0 cl E25 hI5
          go_wp2_with fail
          go_loopw [16, 17] (fun s16 s17 wr => ∃ i : Nat, i ≤ V.length ∧ s17 = .int .i64 i ∧ s16 = .bool ((V.take i).any (fun v => v == x0)) ∧ Ext w6 wr) (fun _ s17 _ => V.length - (Go.RowKit.intOf s17).toNat)
          case atStart => exact ⟨0, Nat.zero_le _, rfl, rfl, Ext.refl _⟩
          case round =>
            obtain ⟨i, hi', rfl, rfl, EX⟩ := hrel
            obtain ⟨X7, rfl⟩ : ∃ X7 : World, X7 = wr := ⟨_, rfl⟩
            have c0 := blk_cell ((EX.block _ hBc6).trans hbx6) 0 (v := .slice ac V.length cc) rfl
            by_cases hlt : i < V.length
            · have hltz : (i : Int) < (V.length : Int) := by omega
              rcases hIV6 with e | ⟨bV, oV, rfl, hbV, hcV⟩
              · rw [e] at hlt; simp at hlt
              have hv := (EX.cell (p := ⟨bV, oV + i, none⟩) hbV).trans (hcV i hlt)
              have hvb := HVB.out (V[i]?.getD 0) (by rw [List.getElem?_eq_getElem hlt]; exact List.getElem_mem _)
              obtain ⟨v, hve⟩ : ∃ v, V[i]?.getD 0 = v := ⟨_, rfl⟩
              rw [hve] at hv hvb
              have HT := Lib.hid (show V.take (i + 1) = V.take i ++ [v] from take_snoc hlt 0 hve)
              obtain ⟨hv0, hv1⟩ := hvb
              have d1 : decide (v < 0) = false := decide_eq_false (by omega)
              have d2 : decide ((N : Int) ≤ v) = false := decide_eq_false (by omega)
              have d1n : ¬ v < 0 := by omega
              have d2n : ¬ (N : Int) ≤ v := by omega
              by_cases hi0 : 0 < i
              · have hi0z : (0 : Int) < (i : Int) := by omega
                have d3 : decide ((0 : Int) < (i : Int)) = true := decide_eq_true hi0z
                have d3n : decide (0 < i) = true := decide_eq_true hi0
                have hu := (EX.cell (p := ⟨bV, oV + (i - 1), none⟩) hbV).trans (hcV (i - 1) (by omega))
                have huv := List.pairwise_iff_getElem.1 HSV.out (i - 1) i (by omega) hlt (by omega)
                rw [List.getElem?_eq_getElem hlt] at hve
                rw [List.getElem?_eq_getElem (by omega)] at hu
                obtain ⟨u, hue⟩ : ∃ u, V[i - 1] = u := ⟨_, rfl⟩
                rw [show (some V[i - 1]).getD 0 = V[i - 1] from rfl, hue] at hu
                rw [hue, show V[i] = v from hve] at huv
                have d4 : decide (v ≤ u) = false := decide_eq_false (by omega)
                obtain ⟨q, hq⟩ : ∃ q, i - 1 = q := ⟨_, rfl⟩
                rw [hq] at hu
                have hiq : (i : Int) - 1 = (q : Int) := by omega
                have wq : IntKind.i64.wrap (q : Int) = q := IntWalk.i64_in _ (by omega)
                have wq2 : IntKind.i64.wrap ((i : Int) - 1) = q := by rw [hiq]; exact wq
                have hq0 : (0 : Int) ≤ (q : Int) := by omega
                have hq1 : (q : Int) < (V.length : Int) := by omega
                clear hve hue hcV huv
                cases hf : (V.take i).any (fun v => v == x0) with
                | true =>
                  have HF := Lib.hid (show (V.take (i + 1)).any (fun v => v == x0) = true by rw [HT.out, List.any_append, hf]; rfl)
                  clear hf
                  go_wp2_with fail
                  go_quiet (fail)
                  go_wp2_with fail
                  go_roundw
                  case rel => exact ⟨i + 1, by omega, by go_num, by rw [HF.out], below_drewN EX _⟩
                  case measure => simp [Go.RowKit.intOf]; omega
                | false =>
                  rcases pI with e | ⟨bP, oP, rfl, hbP, hcP⟩
                  · have := congrArg List.length e
                    rw [b2is_length, HPPL.out] at this
                    simp at this
                    omega
                  have hpc := (EX.cell (p := ⟨bP, oP + v.toNat, none⟩) hbP).trans (hcP v.toNat (by rw [b2is_length, HPPL.out]; omega))
                  rw [b2is_get, HGET.out v.toNat (by omega), Int.toNat_of_nonneg hv0] at hpc
                  clear hcP
                  by_cases hjx : v = x0
                  · rw [decide_eq_true hjx] at hpc
                    have hpc1 : X7.cell? ⟨bP, oP + v.toNat, none⟩ = some (.int .i64 1) := hpc
                    have HF := Lib.hid (show (V.take (i + 1)).any (fun v => v == x0) = true by rw [HT.out, List.any_append, hf]; simp [hjx])
                    clear hf hpc hjx
                    go_wp2_with fail
                    go_quiet (fail)
                    go_wp2_with fail
                    go_roundw
                    case rel => exact ⟨i + 1, by omega, by go_num, by rw [HF.out], below_drewN EX _⟩
                    case measure => simp [Go.RowKit.intOf]; omega
                  · rw [decide_eq_false hjx] at hpc
                    have hpc1 : X7.cell? ⟨bP, oP + v.toNat, none⟩ = some (.int .i64 0) := hpc
                    have HF := Lib.hid (show (V.take (i + 1)).any (fun v => v == x0) = false by rw [HT.out, List.any_append, hf]; simp [hjx])
                    clear hf hpc hjx
                    go_wp2_with fail
                    go_quiet (fail)
                    go_wp2_with fail
                    go_roundw
                    case rel => exact ⟨i + 1, by omega, by go_num, by rw [HF.out], below_drewN EX _⟩
                    case measure => simp [Go.RowKit.intOf]; omega
              · have hi0z : ¬ (0 : Int) < (i : Int) := by omega
                have d3 : decide ((0 : Int) < (i : Int)) = false := decide_eq_false hi0z
                have d3n : decide (0 < i) = false := decide_eq_false hi0
                clear hve hcV
                cases hf : (V.take i).any (fun v => v == x0) with
                | true =>
                  have HF := Lib.hid (show (V.take (i + 1)).any (fun v => v == x0) = true by rw [HT.out, List.any_append, hf]; rfl)
                  clear hf
                  go_wp2_with fail
                  go_quiet (fail)
                  go_wp2_with fail
                  go_roundw
                  case rel => exact ⟨i + 1, by omega, by go_num, by rw [HF.out], below_drewN EX _⟩
                  case measure => simp [Go.RowKit.intOf]; omega
                | false =>
                  rcases pI with e | ⟨bP, oP, rfl, hbP, hcP⟩
                  · have := congrArg List.length e
                    rw [b2is_length, HPPL.out] at this
                    simp at this
                    omega
                  have hpc := (EX.cell (p := ⟨bP, oP + v.toNat, none⟩) hbP).trans (hcP v.toNat (by rw [b2is_length, HPPL.out]; omega))
                  rw [b2is_get, HGET.out v.toNat (by omega), Int.toNat_of_nonneg hv0] at hpc
                  clear hcP
                  by_cases hjx : v = x0
                  · rw [decide_eq_true hjx] at hpc
                    have hpc1 : X7.cell? ⟨bP, oP + v.toNat, none⟩ = some (.int .i64 1) := hpc
                    have HF := Lib.hid (show (V.take (i + 1)).any (fun v => v == x0) = true by rw [HT.out, List.any_append, hf]; simp [hjx])
                    clear hf hpc hjx
                    go_wp2_with fail
                    go_quiet (fail)
                    go_wp2_with fail
                    go_roundw
                    case rel => exact ⟨i + 1, by omega, by go_num, by rw [HF.out], below_drewN EX _⟩
                    case measure => simp [Go.RowKit.intOf]; omega
                  · rw [decide_eq_false hjx] at hpc
                    have hpc1 : X7.cell? ⟨bP, oP + v.toNat, none⟩ = some (.int .i64 0) := hpc
                    have HF := Lib.hid (show (V.take (i + 1)).any (fun v => v == x0) = false by rw [HT.out, List.any_append, hf]; simp [hjx])
                    clear hf hpc hjx
                    go_wp2_with fail
                    go_quiet (fail)
                    go_wp2_with fail
                    go_roundw
                    case rel => exact ⟨i + 1, by omega, by go_num, by rw [HF.out], below_drewN EX _⟩
                    case measure => simp [Go.RowKit.intOf]; omega
            · have hltz : ¬ (i : Int) < (V.length : Int) := by omega
              rw [show V.take i = V from List.take_of_length_le (by omega)]
              rw [show V.any (fun v => v == x0) = true from List.any_eq_true.2 ⟨x0, HXV.out, by simp⟩]
              go_wp2_with fail
              refine (awake_any _).mono ?_
              rintro e w9 ⟨rfl, E9⟩
              go_wp2
              go_ret
              exact ⟨rfl, (hE6.comp EX).comp E9⟩
        · have hnl : TS.any (lostL l) = true := at_pos (by rw [HAT.out]; exact hneg)
          have hdn : decide (0 ≤ at_) = true := decide_eq_true (by omega)
          obtain rfl : L = true := HLO.out hnl
          clear hnl
          go_wp2_with fail
          refine (awake_any _).mono ?_
          rintro e w8 ⟨rfl, E8⟩
          go_wp2
          go_ret
          exact ⟨rfl, hE5.comp E8⟩
  · have e1 : canE l ss = ([], false, canX l ss) := by unfold canE; rw [if_neg hc]
    rw [e1] at hcn
    have hxb : (canX l ss != 0) = true := by simpa using hc
    obtain ⟨y, hy⟩ : ∃ y, canX l ss = y := ⟨_, rfl⟩
    rw [hy] at hcn hxb
    clear e1 hc hy l1 l2 i1 i2
    go_enter Try.func9, Try.ntmps9
    go_wp2_with fail
    refine (hcn _ ((Ext.refl w).alloc _)).mono ?_
    rintro e w1 ⟨ac, cc, rfl, hI, E1⟩
    go_wp2_with fail
    refine (awake_any _).mono ?_
    rintro e w6 ⟨rfl, E6⟩
    go_wp2
    go_ret
    exact ⟨rfl, E1.old.comp E6.old⟩
end Go.Proofs.Ytkkchoinfdfiaaa

import Derived.Test.YtbcciokmlkofkaaGreatWOnce
import Derived.Test.YtbcciokmlkofkaaGreatWSpec4b
set_option linter.unusedVariables false
set_option linter.unusedSimpArgs false
/- Contract: the program's Check. -/
namespace Go.Proofs.YtbcciokmlkofkaaGreat
open Go.RowKit Go.Q
/-- a state as a value: three slices and five numbers -/
abbrev sv (a1 a2 a3 : Option Addr) (n1 c1 n2 c2 n3 c3 : Nat) (tk tm at_ dn wy : Int) : Value :=
  .agg #[.slice a1 n1 c1, .slice a2 n2 c2, .int .i64 tk, .slice a3 n3 c3, .int .i64 tm, .int .i64 at_, .int .i64 dn, .int .i64 wy]
theorem pred_check (w : World) : PredQ Tryz.prog 80 #[] badW w := fun W x hb => (check1_any x W).mono fun e w' ⟨h1, h2⟩ => ⟨h1, hb.comp h2⟩
set_option maxHeartbeats 1000000 in
theorem check_len (a1 a2 a3 : Option Addr) (n1 c1 n2 c2 n3 c3 : Nat) (tk tm at_ dn wy : Int) (w : World)
    (b1 : n1 ≤ 9223372036854775807) (b2 : n2 ≤ 9223372036854775807) (b3 : n3 ≤ 9223372036854775807)
    (h : (n1 == 128 && decide (n2 ≤ 200) && decide (n3 ≤ 200)) = false) :
    Calls Tryz.prog 69 #[sv a1 a2 a3 n1 c1 n2 c2 n3 c3 tk tm at_ dn wy] w fun e w' => e = .returned (v3 (1, 0, 3)) ∧ Ext w w' := by
  by_cases h1 : n1 = 128
  · subst h1
    by_cases h2 : n2 ≤ 200
    · have h3 : ¬ n3 ≤ 200 := by simpa [h2] using h
      clear h
      go_enter Tryz.func69, Tryz.ntmps69
      go_wp2
      go_ret3
      exact ⟨rfl, (Ext.refl w).alloc _⟩
    · clear h
      go_enter Tryz.func69, Tryz.ntmps69
      go_wp2
      go_ret3
      exact ⟨rfl, (Ext.refl w).alloc _⟩
  · have h1' : ((n1 : Int) != 128) = true := by rw [bne_iff_ne]; omega
    clear h h1
    go_enter Tryz.func69, Tryz.ntmps69
    go_wp2
    go_ret3
    exact ⟨rfl, (Ext.refl w).alloc _⟩
set_option maxHeartbeats 2000000 in
set_option maxRecDepth 100000 in
theorem check_rest (a1 a2 a3 : Option Addr) (n2 n3 c1 c2 c3 : Nat) (s : St) (w : World)
    (l1 : s.store.length = 128) (l2 : s.tape.length = n2) (l3 : s.printed.length = n3) (l2' : n2 ≤ 200) (l3' : n3 ≤ 200)
    (i1 : IntsAt w a1 s.store) (i2 : IntsAt w a2 s.tape) (i3 : IntsAt w a3 s.printed) :
    Calls Tryz.prog 69 #[sv a1 a2 a3 128 c1 n2 c2 n3 c3 s.taken s.time s.at_ s.done s.why] w fun e w' => e = .returned (v3 (checkQ s)) ∧ Ext w w' := by
  obtain ⟨st, tp, tk, pr, tm, at_, dn, wy⟩ := s
  dsimp only at l1 l2 l3 i1 i2 i3 ⊢
  go_enter Tryz.func69, Tryz.ntmps69
  go_wp2
  obtain ⟨W0, hW0⟩ : ∃ W0, (w.alloc (.cells #[.slice a1 128 c1, .slice a2 n2 c2, .int .i64 tk, .slice a3 n3 c3, .int .i64 tm, .int .i64 at_, .int .i64 dn, .int .i64 wy] 24)).alloc (.cells #[.slice a1 128 c1, .slice a2 n2 c2, .slice a3 n3 c3] 22) = W0 := ⟨_, rfl⟩
  have E0 : Ext w W0 := by rw [← hW0]; exact ((Ext.refl w).alloc _).alloc _
  have EB : Ext (w.alloc (.cells #[.slice a1 128 c1, .slice a2 n2 c2, .int .i64 tk, .slice a3 n3 c3, .int .i64 tm, .int .i64 at_, .int .i64 dn, .int .i64 wy] 24)) W0 := by rw [← hW0]; exact (Ext.refl _).alloc _
  have r0 : W0.cell? ⟨w.heap.size + 1, 0, none⟩ = some (.slice a1 128 c1) := by rw [← hW0]; simp [go_sem]
  have r1 : W0.cell? ⟨w.heap.size + 1, 1, none⟩ = some (.slice a2 n2 c2) := by rw [← hW0]; simp [go_sem]
  have r2 : W0.cell? ⟨w.heap.size + 1, 2, none⟩ = some (.slice a3 n3 c3) := by rw [← hW0]; simp [go_sem]
  have hs0 : W0.heap.size = w.heap.size + 2 := by rw [← hW0]; simp
  have i1' := i1.ext E0
  have i2' := i2.ext E0
  have i3' := i3.ext E0
  rw [hW0]
  clear hW0 i1 i2 i3
  go_loopg [5, 6, 7, 32] 4 (fun gg _ _ _ s32 wr => ∃ k : Nat, k ≤ 3 ∧ 4 - k ≤ gg ∧ s32 = .int .i64 k ∧ Aside (Ext W0 wr) ∧ Aside ((0 < k → idxQ badW st = -1) ∧ (1 < k → idxQ badW tp = -1) ∧ (2 < k → idxQ badW pr = -1)))
  case atStart => exact ⟨0, by omega, by omega, rfl, Ext.refl W0, ⟨fun h => by omega, fun h => by omega, fun h => by omega⟩⟩
  case round =>
    obtain ⟨k, hk, hg, rfl, BW, A⟩ := hrel
    have hlen : lensB ⟨st, tp, tk, pr, tm, at_, dn, wy⟩ = true := by simp [lensB, l1, l2, l3, l2', l3']
    have Hlen := Lib.hid hlen
    clear hlen
    obtain rfl | rfl | rfl | rfl : k = 0 ∨ k = 1 ∨ k = 2 ∨ k = 3 := by omega
    · have q0 : wr.cell? ⟨w.heap.size + 1, 0, none⟩ = some (.slice a1 128 c1) := (BW.out.cell (p := ⟨w.heap.size + 1, 0, none⟩) (by show w.heap.size + 1 < _; omega)).trans r0
      have hi := index_any 80 #[] badW a1 128 c1 st wr (enters_of Tryz.func80 (by kernel_rfl) rfl) (pred_check wr) l1 (by omega) (i1'.ext BW.out)
      have bd := idxQ_lt badW st
      rw [l1] at bd
      clear r0 r1 r2 i1' i2' i3'
      generalize hx : idxQ badW st = x at hi bd
      have Hx := Lib.hid hx
      clear hx l1 l2 l3
      by_cases hq : 0 ≤ x
      · go_wp2_with (go_at_call 55; refine hi.mono ?_; rintro e w' ⟨rfl, hb'⟩)
        go_ret3
        refine ⟨?_, (E0.comp BW.out).comp hb'⟩
        have e : checkQ ⟨st, tp, tk, pr, tm, at_, dn, wy⟩ = (2, x, 7) := by simp [checkQ, Hlen.out, Hx.out, hq]
        rw [e]; first | rfl | (simp [v3]; done)
      · go_wp2_with (go_at_call 55; refine hi.mono ?_; rintro e w' ⟨rfl, hb'⟩)
        go_roundg 3
        case measure => omega
        case rel => exact ⟨1, by omega, by omega, by go_num, BW.out.comp hb', ⟨fun _ => by rw [Hx.out]; omega, fun h => by omega, fun h => by omega⟩⟩
    · have q0 : wr.cell? ⟨w.heap.size + 1, 1, none⟩ = some (.slice a2 n2 c2) := (BW.out.cell (p := ⟨w.heap.size + 1, 1, none⟩) (by show w.heap.size + 1 < _; omega)).trans r1
      have hi := index_any 80 #[] badW a2 n2 c2 tp wr (enters_of Tryz.func80 (by kernel_rfl) rfl) (pred_check wr) l2 (by omega) (i2'.ext BW.out)
      have bd := idxQ_lt badW tp
      rw [l2] at bd
      clear r0 r1 r2 i1' i2' i3'
      generalize hx : idxQ badW tp = x at hi bd
      have Hx := Lib.hid hx
      clear hx l1 l2 l3
      by_cases hq : 0 ≤ x
      · go_wp2_with (go_at_call 55; refine hi.mono ?_; rintro e w' ⟨rfl, hb'⟩)
        go_ret3
        refine ⟨?_, (E0.comp BW.out).comp hb'⟩
        have e : checkQ ⟨st, tp, tk, pr, tm, at_, dn, wy⟩ = (3, x, 7) := by simp [checkQ, Hlen.out, Hx.out, hq, A.out.1 (by omega)]
        rw [e]; first | rfl | (simp [v3]; done)
      · go_wp2_with (go_at_call 55; refine hi.mono ?_; rintro e w' ⟨rfl, hb'⟩)
        go_roundg 2
        case measure => omega
        case rel => exact ⟨2, by omega, by omega, by go_num, BW.out.comp hb', ⟨fun _ => A.out.1 (by omega), fun _ => by rw [Hx.out]; omega, fun h => by omega⟩⟩
    · have q0 : wr.cell? ⟨w.heap.size + 1, 2, none⟩ = some (.slice a3 n3 c3) := (BW.out.cell (p := ⟨w.heap.size + 1, 2, none⟩) (by show w.heap.size + 1 < _; omega)).trans r2
      have hi := index_any 80 #[] badW a3 n3 c3 pr wr (enters_of Tryz.func80 (by kernel_rfl) rfl) (pred_check wr) l3 (by omega) (i3'.ext BW.out)
      have bd := idxQ_lt badW pr
      rw [l3] at bd
      clear r0 r1 r2 i1' i2' i3'
      generalize hx : idxQ badW pr = x at hi bd
      have Hx := Lib.hid hx
      clear hx l1 l2 l3
      by_cases hq : 0 ≤ x
      · go_wp2_with (go_at_call 55; refine hi.mono ?_; rintro e w' ⟨rfl, hb'⟩)
        go_ret3
        refine ⟨?_, (E0.comp BW.out).comp hb'⟩
        have e : checkQ ⟨st, tp, tk, pr, tm, at_, dn, wy⟩ = (4, x, 7) := by simp [checkQ, Hlen.out, Hx.out, hq, A.out.1 (by omega), A.out.2.1 (by omega)]
        rw [e]; first | rfl | (simp [v3]; done)
      · go_wp2_with (go_at_call 55; refine hi.mono ?_; rintro e w' ⟨rfl, hb'⟩)
        go_roundg 1
        case measure => omega
        case rel => exact ⟨3, by omega, by omega, by go_num, BW.out.comp hb', ⟨fun _ => A.out.1 (by omega), fun _ => A.out.2.1 (by omega), fun _ => by rw [Hx.out]; omega⟩⟩
    · have hi1 := A.out.1 (by omega)
      have hi2 := A.out.2.1 (by omega)
      have hi3 := A.out.2.2 (by omega)
      have H1 := Lib.hid hi1; have H2 := Lib.hid hi2; have H3 := Lib.hid hi3; have HL := Lib.hid l2
      clear hi1 hi2 hi3 r0 r1 r2 i1' i2' i3' A
      have EK := EB.comp BW.out
      have EW := E0.comp BW.out
      clear EB E0 BW l1 l3
      subst l2
      cases t0 : inB tk 0 (tp.length : Int) with
      | false =>
        have e : checkQ ⟨st, tp, tk, pr, tm, at_, dn, wy⟩ = (5, 0, 7) := by simp [checkQ, Hlen.out, H1.out, H2.out, H3.out, fieldsB, addrB, t0]
        have He := Lib.hid e
        clear e
        have p0_1 := box_at (v := .slice a2 tp.length c2) EK 1 rfl
        have p0_2 := box_at (v := .int .i64 tk) EK 2 rfl
        go_wp2_with fail
        refine (out_one _ tk _ _ (by simp) (by simp)).mono ?_
        rintro e w0 ⟨rfl, hb0⟩
        have EK0 := EK.comp hb0.old
        have EW0 := EW.comp hb0.old
        go_wp2
        go_ret3
        exact ⟨by rw [He.out]; rfl, EW0⟩
      | true =>
        cases t1 : inB tm 0 1000000000 with
        | false =>
          have e : checkQ ⟨st, tp, tk, pr, tm, at_, dn, wy⟩ = (5, 0, 7) := by simp [checkQ, Hlen.out, H1.out, H2.out, H3.out, fieldsB, addrB, t0, t1]
          have He := Lib.hid e
          clear e
          have p0_1 := box_at (v := .slice a2 tp.length c2) EK 1 rfl
          have p0_2 := box_at (v := .int .i64 tk) EK 2 rfl
          go_wp2_with fail
          refine (out_one _ tk _ _ (by simp) (by simp)).mono ?_
          rintro e w0 ⟨rfl, hb0⟩
          have EK0 := EK.comp hb0.old
          have EW0 := EW.comp hb0.old
          have p1_4 := box_at (v := .int .i64 tm) EK0 4 rfl
          go_wp2_with fail
          refine (out_one _ tm _ _ (by simp) (by simp)).mono ?_
          rintro e w1 ⟨rfl, hb1⟩
          have EK1 := EK0.comp hb1.old
          have EW1 := EW0.comp hb1.old
          go_wp2
          go_ret3
          exact ⟨by rw [He.out]; rfl, EW1⟩
        | true =>
          cases t2 : inB at_ 0 127 with
          | false =>
            have e : checkQ ⟨st, tp, tk, pr, tm, at_, dn, wy⟩ = (5, 0, 7) := by simp [checkQ, Hlen.out, H1.out, H2.out, H3.out, fieldsB, addrB, t0, t1, t2]
            have He := Lib.hid e
            clear e
            have p0_1 := box_at (v := .slice a2 tp.length c2) EK 1 rfl
            have p0_2 := box_at (v := .int .i64 tk) EK 2 rfl
            go_wp2_with fail
            refine (out_one _ tk _ _ (by simp) (by simp)).mono ?_
            rintro e w0 ⟨rfl, hb0⟩
            have EK0 := EK.comp hb0.old
            have EW0 := EW.comp hb0.old
            have p1_4 := box_at (v := .int .i64 tm) EK0 4 rfl
            go_wp2_with fail
            refine (out_one _ tm _ _ (by simp) (by simp)).mono ?_
            rintro e w1 ⟨rfl, hb1⟩
            have EK1 := EK0.comp hb1.old
            have EW1 := EW0.comp hb1.old
            have p2_5 := box_at (v := .int .i64 at_) EK1 5 rfl
            go_wp2_with fail
            refine (out_one _ at_ _ _ (by simp) (by simp)).mono ?_
            rintro e w2 ⟨rfl, hb2⟩
            have EK2 := EK1.comp hb2.old
            have EW2 := EW1.comp hb2.old
            go_wp2
            go_ret3
            exact ⟨by rw [He.out]; rfl, EW2⟩
          | true =>
            cases t3 : inB dn 0 tm with
            | false =>
              have e : checkQ ⟨st, tp, tk, pr, tm, at_, dn, wy⟩ = (5, 0, 7) := by simp [checkQ, Hlen.out, H1.out, H2.out, H3.out, fieldsB, addrB, t0, t1, t2, t3]
              have He := Lib.hid e
              clear e
              have p0_1 := box_at (v := .slice a2 tp.length c2) EK 1 rfl
              have p0_2 := box_at (v := .int .i64 tk) EK 2 rfl
              go_wp2_with fail
              refine (out_one _ tk _ _ (by simp) (by simp)).mono ?_
              rintro e w0 ⟨rfl, hb0⟩
              have EK0 := EK.comp hb0.old
              have EW0 := EW.comp hb0.old
              have p1_4 := box_at (v := .int .i64 tm) EK0 4 rfl
              go_wp2_with fail
              refine (out_one _ tm _ _ (by simp) (by simp)).mono ?_
              rintro e w1 ⟨rfl, hb1⟩
              have EK1 := EK0.comp hb1.old
              have EW1 := EW0.comp hb1.old
              have p2_5 := box_at (v := .int .i64 at_) EK1 5 rfl
              go_wp2_with fail
              refine (out_one _ at_ _ _ (by simp) (by simp)).mono ?_
              rintro e w2 ⟨rfl, hb2⟩
              have EK2 := EK1.comp hb2.old
              have EW2 := EW1.comp hb2.old
              have p3_4 := box_at (v := .int .i64 tm) EK2 4 rfl
              have p3_6 := box_at (v := .int .i64 dn) EK2 6 rfl
              go_wp2_with fail
              refine (out_one _ dn _ _ (by simp) (by simp)).mono ?_
              rintro e w3 ⟨rfl, hb3⟩
              have EK3 := EK2.comp hb3.old
              have EW3 := EW2.comp hb3.old
              go_wp2
              go_ret3
              exact ⟨by rw [He.out]; rfl, EW3⟩
            | true =>
              cases t4 : inB wy 0 4 with
              | false =>
                have e : checkQ ⟨st, tp, tk, pr, tm, at_, dn, wy⟩ = (5, 0, 7) := by simp [checkQ, Hlen.out, H1.out, H2.out, H3.out, fieldsB, addrB, t0, t1, t2, t3, t4]
                have He := Lib.hid e
                clear e
                have p0_1 := box_at (v := .slice a2 tp.length c2) EK 1 rfl
                have p0_2 := box_at (v := .int .i64 tk) EK 2 rfl
                go_wp2_with fail
                refine (out_one _ tk _ _ (by simp) (by simp)).mono ?_
                rintro e w0 ⟨rfl, hb0⟩
                have EK0 := EK.comp hb0.old
                have EW0 := EW.comp hb0.old
                have p1_4 := box_at (v := .int .i64 tm) EK0 4 rfl
                go_wp2_with fail
                refine (out_one _ tm _ _ (by simp) (by simp)).mono ?_
                rintro e w1 ⟨rfl, hb1⟩
                have EK1 := EK0.comp hb1.old
                have EW1 := EW0.comp hb1.old
                have p2_5 := box_at (v := .int .i64 at_) EK1 5 rfl
                go_wp2_with fail
                refine (out_one _ at_ _ _ (by simp) (by simp)).mono ?_
                rintro e w2 ⟨rfl, hb2⟩
                have EK2 := EK1.comp hb2.old
                have EW2 := EW1.comp hb2.old
                have p3_4 := box_at (v := .int .i64 tm) EK2 4 rfl
                have p3_6 := box_at (v := .int .i64 dn) EK2 6 rfl
                go_wp2_with fail
                refine (out_one _ dn _ _ (by simp) (by simp)).mono ?_
                rintro e w3 ⟨rfl, hb3⟩
                have EK3 := EK2.comp hb3.old
                have EW3 := EW2.comp hb3.old
                have p4_7 := box_at (v := .int .i64 wy) EK3 7 rfl
                go_wp2_with fail
                refine (out_one _ wy _ _ (by simp) (by simp)).mono ?_
                rintro e w4 ⟨rfl, hb4⟩
                have EK4 := EK3.comp hb4.old
                have EW4 := EW3.comp hb4.old
                go_wp2
                go_ret3
                exact ⟨by rw [He.out]; rfl, EW4⟩
              | true =>
                have ff : fieldsB ⟨st, tp, tk, pr, tm, at_, dn, wy⟩ = true := by simp [fieldsB, addrB, t0, t1, t2, t3, t4]
                have tb0 := inB_bd t1; have tb1 := inB_bd t2
                by_cases hm : tm % 16 = at_ % 16
                · have e : checkQ ⟨st, tp, tk, pr, tm, at_, dn, wy⟩ = (0, 0, 0) := by simp [checkQ, Hlen.out, H1.out, H2.out, H3.out, ff, hm]
                  have He := Lib.hid e
                  have hm' : ((tm - at_).tmod 16 != 0) = false := tmod16_yes hm
                  clear e hm ff
                  have p0_1 := box_at (v := .slice a2 tp.length c2) EK 1 rfl
                  have p0_2 := box_at (v := .int .i64 tk) EK 2 rfl
                  go_wp2_with fail
                  refine (out_one _ tk _ _ (by simp) (by simp)).mono ?_
                  rintro e w0 ⟨rfl, hb0⟩
                  have EK0 := EK.comp hb0.old
                  have EW0 := EW.comp hb0.old
                  have p1_4 := box_at (v := .int .i64 tm) EK0 4 rfl
                  go_wp2_with fail
                  refine (out_one _ tm _ _ (by simp) (by simp)).mono ?_
                  rintro e w1 ⟨rfl, hb1⟩
                  have EK1 := EK0.comp hb1.old
                  have EW1 := EW0.comp hb1.old
                  have p2_5 := box_at (v := .int .i64 at_) EK1 5 rfl
                  go_wp2_with fail
                  refine (out_one _ at_ _ _ (by simp) (by simp)).mono ?_
                  rintro e w2 ⟨rfl, hb2⟩
                  have EK2 := EK1.comp hb2.old
                  have EW2 := EW1.comp hb2.old
                  have p3_4 := box_at (v := .int .i64 tm) EK2 4 rfl
                  have p3_6 := box_at (v := .int .i64 dn) EK2 6 rfl
                  go_wp2_with fail
                  refine (out_one _ dn _ _ (by simp) (by simp)).mono ?_
                  rintro e w3 ⟨rfl, hb3⟩
                  have EK3 := EK2.comp hb3.old
                  have EW3 := EW2.comp hb3.old
                  have p4_7 := box_at (v := .int .i64 wy) EK3 7 rfl
                  go_wp2_with fail
                  refine (out_one _ wy _ _ (by simp) (by simp)).mono ?_
                  rintro e w4 ⟨rfl, hb4⟩
                  have EK4 := EK3.comp hb4.old
                  have EW4 := EW3.comp hb4.old
                  have p5_4 := box_at (v := .int .i64 tm) EK4 4 rfl
                  have p5_5 := box_at (v := .int .i64 at_) EK4 5 rfl
                  go_wp2
                  go_ret3
                  exact ⟨by rw [He.out]; rfl, EW4⟩
                · have e : checkQ ⟨st, tp, tk, pr, tm, at_, dn, wy⟩ = (6, 0, 2) := by simp [checkQ, Hlen.out, H1.out, H2.out, H3.out, ff, hm]
                  have He := Lib.hid e
                  have hm' : ((tm - at_).tmod 16 != 0) = true := tmod16_no hm
                  clear e hm ff
                  have p0_1 := box_at (v := .slice a2 tp.length c2) EK 1 rfl
                  have p0_2 := box_at (v := .int .i64 tk) EK 2 rfl
                  go_wp2_with fail
                  refine (out_one _ tk _ _ (by simp) (by simp)).mono ?_
                  rintro e w0 ⟨rfl, hb0⟩
                  have EK0 := EK.comp hb0.old
                  have EW0 := EW.comp hb0.old
                  have p1_4 := box_at (v := .int .i64 tm) EK0 4 rfl
                  go_wp2_with fail
                  refine (out_one _ tm _ _ (by simp) (by simp)).mono ?_
                  rintro e w1 ⟨rfl, hb1⟩
                  have EK1 := EK0.comp hb1.old
                  have EW1 := EW0.comp hb1.old
                  have p2_5 := box_at (v := .int .i64 at_) EK1 5 rfl
                  go_wp2_with fail
                  refine (out_one _ at_ _ _ (by simp) (by simp)).mono ?_
                  rintro e w2 ⟨rfl, hb2⟩
                  have EK2 := EK1.comp hb2.old
                  have EW2 := EW1.comp hb2.old
                  have p3_4 := box_at (v := .int .i64 tm) EK2 4 rfl
                  have p3_6 := box_at (v := .int .i64 dn) EK2 6 rfl
                  go_wp2_with fail
                  refine (out_one _ dn _ _ (by simp) (by simp)).mono ?_
                  rintro e w3 ⟨rfl, hb3⟩
                  have EK3 := EK2.comp hb3.old
                  have EW3 := EW2.comp hb3.old
                  have p4_7 := box_at (v := .int .i64 wy) EK3 7 rfl
                  go_wp2_with fail
                  refine (out_one _ wy _ _ (by simp) (by simp)).mono ?_
                  rintro e w4 ⟨rfl, hb4⟩
                  have EK4 := EK3.comp hb4.old
                  have EW4 := EW3.comp hb4.old
                  have p5_4 := box_at (v := .int .i64 tm) EK4 4 rfl
                  have p5_5 := box_at (v := .int .i64 at_) EK4 5 rfl
                  go_wp2
                  go_ret3
                  exact ⟨by rw [He.out]; rfl, EW4⟩
end Go.Proofs.YtbcciokmlkofkaaGreat

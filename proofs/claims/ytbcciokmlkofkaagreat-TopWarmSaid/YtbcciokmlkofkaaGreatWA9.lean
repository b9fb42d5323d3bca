import Derived.Test.YtbcciokmlkofkaaGreatWA8
set_option linter.unusedVariables false
set_option linter.unusedSimpArgs false
/- Contracts: the reference's odd and Check; both Checks at whatever state. -/
namespace Go.Proofs.YtbcciokmlkofkaaGreat
open Go.RowKit Go.Q
set_option maxHeartbeats 1000000 in
theorem odd_any (a : Option Addr) (n cap : Nat) (xs : List Int) (w : World) (hn : xs.length = n) (hbig : n ≤ 9223372036854775807) (hI : IntsAt w a xs) :
    Calls Tryz.prog 12 #[.slice a n cap] w fun e w' => e = .returned (.int .i64 (idxQ badW xs)) ∧ w = w' := by
  rcases hI with rfl | ⟨b, off, rfl, hb, hc⟩
  · obtain rfl : n = 0 := hn.symm
    go_enter Tryz.func12, Tryz.ntmps12
    go_wp2
    go_loop [3] (fun s => s = .int .i64 0) (fun _ => 0)
    case atStart => exact rfl
    case round =>
      obtain rfl := hrel
      go_wp2
      go_ret
      exact ⟨rfl, rfl⟩
  · subst hn
    go_enter Tryz.func12, Tryz.ntmps12
    go_wp2
    go_loop [3] (fun s => ∃ k : Nat, k ≤ xs.length ∧ s = .int .i64 k ∧ Aside (∀ j, j < k → badW (xs[j]?.getD 0) = false)) (fun s => xs.length - (intOf s).toNat)
    case atStart => exact ⟨0, Nat.zero_le _, rfl, fun j hj => absurd hj (Nat.not_lt_zero _)⟩
    case round =>
      obtain ⟨kk, hkk, rfl, A⟩ := hrel
      by_cases hlt : kk < xs.length
      · have hltz : (kk : Int) < (xs.length : Int) := by omega
        have l2 : w.cell? ⟨b, off + kk, none⟩ = some (.int .i64 (xs[kk]?.getD 0)) := hc kk hlt
        clear hc
        generalize hy : xs[kk]?.getD 0 = y at l2
        have B : Aside (xs[kk]?.getD 0 = y) := hy
        clear hy
        cases hq : wordB y with
        | true =>
          go_wp2_with (go_at_call 48; refine (word_any y _).mono ?_; rintro e w' ⟨rfl, rfl⟩)
          go_round
          case rel =>
            refine ⟨kk + 1, by omega, by go_num, (show Aside _ from fun j hj => ?_)⟩
            by_cases e : j = kk
            · subst e
              rw [B.out]; simp [badW, hq]
            · exact A.out j (by omega)
          case measure => simp [intOf]; omega
        | false =>
          go_wp2_with (go_at_call 48; refine (word_any y _).mono ?_; rintro e w' ⟨rfl, rfl⟩)
          go_ret
          refine ⟨?_, rfl⟩
          rw [idxQ_hit badW xs kk hlt (by rw [B.out]; simp [badW, hq]) A.out]
          rfl
      · have hltz : ¬ (kk : Int) < (xs.length : Int) := by omega
        go_wp2
        go_ret
        refine ⟨?_, rfl⟩
        rw [idxQ_miss badW xs (fun j hj => A.out j (by omega))]
        rfl
set_option maxHeartbeats 1000000 in
theorem rcheck_len (a1 a2 a3 : Option Addr) (n1 c1 n2 c2 n3 c3 : Nat) (tk tm at_ dn wy : Int) (w : World)
    (b1 : n1 ≤ 9223372036854775807) (b2 : n2 ≤ 9223372036854775807) (b3 : n3 ≤ 9223372036854775807)
    (h : (n1 == 128 && decide (n2 ≤ 200) && decide (n3 ≤ 200)) = false) :
    Calls Tryz.prog 4 #[sv a1 a2 a3 n1 c1 n2 c2 n3 c3 tk tm at_ dn wy] w fun e w' => e = .returned (v3 (1, 0, 3)) ∧ Ext w w' := by
  by_cases h1 : n1 = 128
  · subst h1
    by_cases h2 : n2 ≤ 200
    · have h3 : ¬ n3 ≤ 200 := by simpa [h2] using h
      clear h
      go_enter Tryz.func4, Tryz.ntmps4
      go_wp2
      go_ret3
      exact ⟨rfl, (Ext.refl w).alloc _⟩
    · clear h
      go_enter Tryz.func4, Tryz.ntmps4
      go_wp2
      go_ret3
      exact ⟨rfl, (Ext.refl w).alloc _⟩
  · have h1' : ((n1 : Int) != 128) = true := by rw [bne_iff_ne]; omega
    clear h h1
    go_enter Tryz.func4, Tryz.ntmps4
    go_wp2
    go_ret3
    exact ⟨rfl, (Ext.refl w).alloc _⟩
set_option maxHeartbeats 2000000 in
set_option maxRecDepth 100000 in
theorem rcheck_rest (a1 a2 a3 : Option Addr) (n2 n3 c1 c2 c3 : Nat) (s : St) (w : World)
    (l1 : s.store.length = 128) (l2 : s.tape.length = n2) (l3 : s.printed.length = n3) (l2' : n2 ≤ 200) (l3' : n3 ≤ 200)
    (i1 : IntsAt w a1 s.store) (i2 : IntsAt w a2 s.tape) (i3 : IntsAt w a3 s.printed) :
    Calls Tryz.prog 4 #[sv a1 a2 a3 128 c1 n2 c2 n3 c3 s.taken s.time s.at_ s.done s.why] w fun e w' => e = .returned (v3 (checkQ s)) ∧ Ext w w' := by
  obtain ⟨st, tp, tk, pr, tm, at_, dn, wy⟩ := s
  dsimp only at l1 l2 l3 i1 i2 i3 ⊢
  go_enter Tryz.func4, Tryz.ntmps4
  go_wp2
  obtain ⟨W0, hW0⟩ : ∃ W0, (w.alloc (.cells #[.slice a1 128 c1, .slice a2 n2 c2, .int .i64 tk, .slice a3 n3 c3, .int .i64 tm, .int .i64 at_, .int .i64 dn, .int .i64 wy] 24)).alloc (.cells #[.slice a1 128 c1, .slice a2 n2 c2, .slice a3 n3 c3] 22) = W0 := ⟨_, rfl⟩
  have E0 : Ext w W0 := by rw [← hW0]; exact ((Ext.refl w).alloc _).alloc _
  have EB : Ext (w.alloc (.cells #[.slice a1 128 c1, .slice a2 n2 c2, .int .i64 tk, .slice a3 n3 c3, .int .i64 tm, .int .i64 at_, .int .i64 dn, .int .i64 wy] 24)) W0 := by rw [← hW0]; exact (Ext.refl _).alloc _
  have r0 : W0.cell? ⟨w.heap.size + 1, 0, none⟩ = some (.slice a1 128 c1) := by rw [← hW0]; simp [go_sem]
  have r1 : W0.cell? ⟨w.heap.size + 1, 1, none⟩ = some (.slice a2 n2 c2) := by rw [← hW0]; simp [go_sem]
  have r2 : W0.cell? ⟨w.heap.size + 1, 2, none⟩ = some (.slice a3 n3 c3) := by rw [← hW0]; simp [go_sem]
  have i1' := i1.ext E0
  have i2' := i2.ext E0
  have i3' := i3.ext E0
  rw [hW0]
  clear hW0 i1 i2 i3
  go_loop [6, 7] (fun s _ => ∃ k : Nat, k ≤ 3 ∧ s = .int .i64 k ∧ Aside ((0 < k → idxQ badW st = -1) ∧ (1 < k → idxQ badW tp = -1) ∧ (2 < k → idxQ badW pr = -1))) (fun s _ => 3 - (intOf s).toNat)
  case atStart => exact ⟨0, by omega, rfl, ⟨fun h => by omega, fun h => by omega, fun h => by omega⟩⟩
  case round =>
    obtain ⟨k, hk, rfl, A⟩ := hrel
    have hlen : lensB ⟨st, tp, tk, pr, tm, at_, dn, wy⟩ = true := by simp [lensB, l1, l2, l3, l2', l3']
    have Hlen := Lib.hid hlen
    clear hlen
    obtain rfl | rfl | rfl | rfl : k = 0 ∨ k = 1 ∨ k = 2 ∨ k = 3 := by omega
    · have hi := odd_any a1 128 c1 st W0 l1 (by omega) i1'
      have bd := idxQ_lt badW st
      rw [l1] at bd
      clear i1' i2' i3'
      generalize hx : idxQ badW st = x at hi bd
      have Hx := Lib.hid hx
      clear hx l1 l2 l3
      by_cases hq : 0 ≤ x
      · go_wp2_with (go_at_call 12; refine hi.mono ?_; rintro e w' ⟨rfl, rfl⟩)
        go_ret3
        refine ⟨?_, E0⟩
        have e : checkQ ⟨st, tp, tk, pr, tm, at_, dn, wy⟩ = (2, x, 7) := by simp [checkQ, Hlen.out, Hx.out, hq]
        rw [e]; first | rfl | (simp [v3]; done)
      · go_wp2_with (go_at_call 12; refine hi.mono ?_; rintro e w' ⟨rfl, rfl⟩)
        go_round
        case rel => exact ⟨1, by omega, by go_num, ⟨fun _ => by first | omega | (rw [Hx.out]; omega), fun h => by omega, fun h => by omega⟩⟩
        case measure => simp [intOf]
    · have hi := odd_any a2 n2 c2 tp W0 l2 (by omega) i2'
      have bd := idxQ_lt badW tp
      rw [l2] at bd
      clear i1' i2' i3'
      generalize hx : idxQ badW tp = x at hi bd
      have Hx := Lib.hid hx
      clear hx l1 l2 l3
      by_cases hq : 0 ≤ x
      · go_wp2_with (go_at_call 12; refine hi.mono ?_; rintro e w' ⟨rfl, rfl⟩)
        go_ret3
        refine ⟨?_, E0⟩
        have e : checkQ ⟨st, tp, tk, pr, tm, at_, dn, wy⟩ = (3, x, 7) := by simp [checkQ, Hlen.out, Hx.out, hq, A.out.1 (by omega)]
        rw [e]; first | rfl | (simp [v3]; done)
      · go_wp2_with (go_at_call 12; refine hi.mono ?_; rintro e w' ⟨rfl, rfl⟩)
        go_round
        case rel => exact ⟨2, by omega, by go_num, ⟨fun _ => A.out.1 (by omega), fun _ => by first | omega | (rw [Hx.out]; omega), fun h => by omega⟩⟩
        case measure => simp [intOf]
    · have hi := odd_any a3 n3 c3 pr W0 l3 (by omega) i3'
      have bd := idxQ_lt badW pr
      rw [l3] at bd
      clear i1' i2' i3'
      generalize hx : idxQ badW pr = x at hi bd
      have Hx := Lib.hid hx
      clear hx l1 l2 l3
      by_cases hq : 0 ≤ x
      · go_wp2_with (go_at_call 12; refine hi.mono ?_; rintro e w' ⟨rfl, rfl⟩)
        go_ret3
        refine ⟨?_, E0⟩
        have e : checkQ ⟨st, tp, tk, pr, tm, at_, dn, wy⟩ = (4, x, 7) := by simp [checkQ, Hlen.out, Hx.out, hq, A.out.1 (by omega), A.out.2.1 (by omega)]
        rw [e]; first | rfl | (simp [v3]; done)
      · go_wp2_with (go_at_call 12; refine hi.mono ?_; rintro e w' ⟨rfl, rfl⟩)
        go_round
        case rel => exact ⟨3, by omega, by go_num, ⟨fun _ => A.out.1 (by omega), fun _ => A.out.2.1 (by omega), fun _ => by first | omega | (rw [Hx.out]; omega)⟩⟩
        case measure => simp [intOf]
    · have hi1 := A.out.1 (by omega)
      have hi2 := A.out.2.1 (by omega)
      have hi3 := A.out.2.2 (by omega)
      have H1 := Lib.hid hi1; have H2 := Lib.hid hi2; have H3 := Lib.hid hi3
      clear hi1 hi2 hi3 r0 r1 r2 i1' i2' i3' A l1 l3
      subst l2
      have p1 := box_at (v := .slice a2 tp.length c2) EB 1 rfl
      have p2 := box_at (v := .int .i64 tk) EB 2 rfl
      have p4 := box_at (v := .int .i64 tm) EB 4 rfl
      have p5 := box_at (v := .int .i64 at_) EB 5 rfl
      have p6 := box_at (v := .int .i64 dn) EB 6 rfl
      have p7 := box_at (v := .int .i64 wy) EB 7 rfl
      cases t0 : inB tk 0 (tp.length : Int) with
      | false =>
        have e : checkQ ⟨st, tp, tk, pr, tm, at_, dn, wy⟩ = (5, 0, 7) := by simp [checkQ, Hlen.out, H1.out, H2.out, H3.out, fieldsB, t0]
        have He := Lib.hid e
        clear e
        go_wp2_with (first | (go_at_call 13; refine (in_any _ _ _ _).mono ?_; rintro e w' ⟨rfl, rfl⟩) | (go_at_call 14; refine (address_any _ _).mono ?_; rintro e w' ⟨rfl, rfl⟩))
        go_ret3
        exact ⟨by rw [He.out]; rfl, E0⟩
      | true =>
        cases t1 : inB tm 0 1000000000 with
        | false =>
          have e : checkQ ⟨st, tp, tk, pr, tm, at_, dn, wy⟩ = (5, 0, 7) := by simp [checkQ, Hlen.out, H1.out, H2.out, H3.out, fieldsB, t0, t1]
          have He := Lib.hid e
          clear e
          go_wp2_with (first | (go_at_call 13; refine (in_any _ _ _ _).mono ?_; rintro e w' ⟨rfl, rfl⟩) | (go_at_call 14; refine (address_any _ _).mono ?_; rintro e w' ⟨rfl, rfl⟩))
          go_ret3
          exact ⟨by rw [He.out]; rfl, E0⟩
        | true =>
          cases t2 : addrB at_ with
          | false =>
            have e : checkQ ⟨st, tp, tk, pr, tm, at_, dn, wy⟩ = (5, 0, 7) := by simp [checkQ, Hlen.out, H1.out, H2.out, H3.out, fieldsB, t0, t1, t2]
            have He := Lib.hid e
            clear e
            go_wp2_with (first | (go_at_call 13; refine (in_any _ _ _ _).mono ?_; rintro e w' ⟨rfl, rfl⟩) | (go_at_call 14; refine (address_any _ _).mono ?_; rintro e w' ⟨rfl, rfl⟩))
            go_ret3
            exact ⟨by rw [He.out]; rfl, E0⟩
          | true =>
            cases t3 : inB dn 0 tm with
            | false =>
              have e : checkQ ⟨st, tp, tk, pr, tm, at_, dn, wy⟩ = (5, 0, 7) := by simp [checkQ, Hlen.out, H1.out, H2.out, H3.out, fieldsB, t0, t1, t2, t3]
              have He := Lib.hid e
              clear e
              go_wp2_with (first | (go_at_call 13; refine (in_any _ _ _ _).mono ?_; rintro e w' ⟨rfl, rfl⟩) | (go_at_call 14; refine (address_any _ _).mono ?_; rintro e w' ⟨rfl, rfl⟩))
              go_ret3
              exact ⟨by rw [He.out]; rfl, E0⟩
            | true =>
              cases t4 : inB wy 0 4 with
              | false =>
                have e : checkQ ⟨st, tp, tk, pr, tm, at_, dn, wy⟩ = (5, 0, 7) := by simp [checkQ, Hlen.out, H1.out, H2.out, H3.out, fieldsB, t0, t1, t2, t3, t4]
                have He := Lib.hid e
                clear e
                go_wp2_with (first | (go_at_call 13; refine (in_any _ _ _ _).mono ?_; rintro e w' ⟨rfl, rfl⟩) | (go_at_call 14; refine (address_any _ _).mono ?_; rintro e w' ⟨rfl, rfl⟩))
                go_ret3
                exact ⟨by rw [He.out]; rfl, E0⟩
              | true =>
                have ff : fieldsB ⟨st, tp, tk, pr, tm, at_, dn, wy⟩ = true := by simp [fieldsB, t0, t1, t2, t3, t4]
                have tb0 := inB_bd t1; have tb1 := inB_bd (show inB at_ 0 127 = true from t2)
                by_cases hm : tm % 16 = at_ % 16
                · have e : checkQ ⟨st, tp, tk, pr, tm, at_, dn, wy⟩ = (0, 0, 0) := by simp [checkQ, Hlen.out, H1.out, H2.out, H3.out, ff, hm]
                  have He := Lib.hid e
                  have hm' : (tm % 16 != at_ % 16) = false := by simpa using hm
                  clear e hm ff
                  go_wp2_with (first | (go_at_call 13; refine (in_any _ _ _ _).mono ?_; rintro e w' ⟨rfl, rfl⟩) | (go_at_call 14; refine (address_any _ _).mono ?_; rintro e w' ⟨rfl, rfl⟩))
                  go_ret3
                  exact ⟨by rw [He.out]; rfl, E0⟩
                · have e : checkQ ⟨st, tp, tk, pr, tm, at_, dn, wy⟩ = (6, 0, 2) := by simp [checkQ, Hlen.out, H1.out, H2.out, H3.out, ff, hm]
                  have He := Lib.hid e
                  have hm' : (tm % 16 != at_ % 16) = true := by simpa using hm
                  clear e hm ff
                  go_wp2_with (first | (go_at_call 13; refine (in_any _ _ _ _).mono ?_; rintro e w' ⟨rfl, rfl⟩) | (go_at_call 14; refine (address_any _ _).mono ?_; rintro e w' ⟨rfl, rfl⟩))
                  go_ret3
                  exact ⟨by rw [He.out]; rfl, E0⟩
/-- v reads in w as the state s -/
def StAt (w : World) (v : Value) (s : St) : Prop := ∃ a1 a2 a3 c1 c2 c3, v = sv a1 a2 a3 s.store.length c1 s.tape.length c2 s.printed.length c3 s.taken s.time s.at_ s.done s.why ∧
  IntsAt w a1 s.store ∧ IntsAt w a2 s.tape ∧ IntsAt w a3 s.printed
/-- the lists of a state are no longer than the model's bound -/
def StBd (s : St) : Prop := s.store.length ≤ 9223372036854775807 ∧ s.tape.length ≤ 9223372036854775807 ∧ s.printed.length ≤ 9223372036854775807
theorem StAt.ext {w w' : World} {v : Value} {s : St} (h : StAt w v s) (e : Ext w w') : StAt w' v s := by
  obtain ⟨a1, a2, a3, c1, c2, c3, rfl, h1, h2, h3⟩ := h
  exact ⟨a1, a2, a3, c1, c2, c3, rfl, h1.ext e, h2.ext e, h3.ext e⟩
theorem check_any (v : Value) (s : St) (w : World) (h : StAt w v s) (hb : StBd s) :
    Calls Tryz.prog 69 #[v] w fun e w' => e = .returned (v3 (checkQ s)) ∧ Ext w w' := by
  obtain ⟨a1, a2, a3, c1, c2, c3, rfl, h1, h2, h3⟩ := h
  obtain ⟨b1, b2, b3⟩ := hb
  cases hl : lensB s with
  | false =>
    have e : checkQ s = (1, 0, 3) := by simp [checkQ, hl]
    rw [e]
    exact check_len _ _ _ _ _ _ _ _ _ _ _ _ _ _ w b1 b2 b3 hl
  | true =>
    have hl' := hl
    simp [lensB] at hl
    obtain ⟨⟨l1, l2⟩, l3⟩ := hl
    have := check_rest a1 a2 a3 _ _ c1 c2 c3 s w l1 rfl rfl l2 l3 h1 h2 h3
    rw [← l1] at this
    exact this
theorem rcheck_any (v : Value) (s : St) (w : World) (h : StAt w v s) (hb : StBd s) :
    Calls Tryz.prog 4 #[v] w fun e w' => e = .returned (v3 (checkQ s)) ∧ Ext w w' := by
  obtain ⟨a1, a2, a3, c1, c2, c3, rfl, h1, h2, h3⟩ := h
  obtain ⟨b1, b2, b3⟩ := hb
  cases hl : lensB s with
  | false =>
    have e : checkQ s = (1, 0, 3) := by simp [checkQ, hl]
    rw [e]
    exact rcheck_len _ _ _ _ _ _ _ _ _ _ _ _ _ _ w b1 b2 b3 hl
  | true =>
    have hl' := hl
    simp [lensB] at hl
    obtain ⟨⟨l1, l2⟩, l3⟩ := hl
    have := rcheck_rest a1 a2 a3 _ _ c1 c2 c3 s w l1 rfl rfl l2 l3 h1 h2 h3
    rw [← l1] at this
    exact this
end Go.Proofs.YtbcciokmlkofkaaGreat

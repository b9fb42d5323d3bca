import Derived.Test.YtjfggepgjpdebaaM30
import Derived.Test.YtjfggepgjpdebaaM2
set_option linter.unusedVariables false
set_option linter.unusedSimpArgs false
/- Contract: the reference of layer 5: operand. -/
namespace Go.Proofs.Ytjfggepgjpdebaa
open Go.RowKit Go.Q
theorem own_addr {w : World} {B n c : Nat} {a : Option Addr} {xs : List Value} (h : w.ownsRow B 3 1 (.slice a n c) n xs) (hn : 0 < n) : ∃ g, a = some ⟨g, 0, none⟩ := by
  obtain ⟨g, cap, e, _⟩ := h.form hn
  exact ⟨g, by injection e⟩
theorem own_room {w : World} {B g n c : Nat} {xs : List Value} (h : w.ownsRow B 3 1 (.slice (some ⟨g, 0, none⟩) n c) n xs) : B ≤ g ∧ g < w.heap.size := h.lt g rfl
set_option maxRecDepth 100000 in
set_option maxHeartbeats 12000000 in
theorem roperand_any (a1 a2 a3 : Option Addr) (n1 c1 n2 c2 c3 : Nat) (s : Pu) (x : Int) (w : World) (ho : 0 ≤ s.order ∧ s.order ≤ 16777215) (hd : 0 ≤ s.done ∧ s.done ≤ 1000000000) (hx : 0 ≤ x ∧ x ≤ 16777215) (hI : IntsAt w a3 s.printed) (hpl : s.printed.length ≤ 200) :
    Calls Try.prog 132 #[psv a1 a2 a3 n1 c1 n2 c2 s.printed.length c3 s, .int .i64 x] w (Beh a1 a2 a3 n1 c1 n2 c2 s.printed w (fromP s x)) := by
  obtain ⟨i0, hi, ha0, ha1, ha2⟩ := info_parts Try.infoE
  have hdd := fun W => rdec_ord ho W
  have hdn := fun (b3 : Option Addr) (m3 d3 : Nat) (t : Pu) (h1 : 0 ≤ t.order ∧ t.order ≤ 16777215) (h2 : 0 ≤ t.done ∧ t.done ≤ 1000000000) W => rdone_any a1 a2 b3 n1 c1 n2 c2 m3 d3 t W h1 h2
  have hsg := fun W => sign_any x W hx.1 hx.2
  have ef : fromP s x = if (decodeQ s.order).op = 7 then finishP { s with operand := x, printed := s.printed ++ [x] } else if (decodeQ s.order).op = 5 then { finishP { s with operand := x } with at_ := if sgn x < 0 then (decodeQ s.order).to else (decodeQ s.order).nxt } else { s with operand := x, phase := 2 } := rfl
  rw [ef]
  clear ef hx
  by_cases h7 : (decodeQ s.order).op = 7
  · rw [if_pos h7]
    have b7 : ((decodeQ s.order).op == 7) = true := by simpa using h7
    have hd7 := fun b3 d3 => hdn b3 (s.printed.length + 1) d3 { s with operand := x, printed := s.printed ++ [x] } ho hd
    have hT : (finishP { s with operand := x, printed := s.printed ++ [x] }).printed = s.printed ++ [x] := rfl
    clear h7 hdn hsg ho hd
    generalize finishP { s with operand := x, printed := s.printed ++ [x] } = T at *
    generalize decodeQ s.order = o at *
    have HT := Lib.hid hT
    clear hT
    go_enter Try.func132, Try.ntmps132
    go_wp2_with fail
    refine (hdd _).mono ?_
    rintro e w1 ⟨rfl, E1⟩
    have P := Blk.of E1.old
    have R := Blk.of E1
    rw [World.size_alloc] at R
    have u0 := Blk.c P 0 (v := .slice a1 n1 c1) rfl
    have u1 := Blk.c P 1 (v := .slice a2 n2 c2) rfl
    have u2 := Blk.c P 2 (v := .int .i64 s.taken) rfl
    have u3 := Blk.c P 3 (v := .slice a3 s.printed.length c3) rfl
    have u4 := Blk.c P 4 (v := .int .i64 s.clock) rfl
    have u5 := Blk.c P 5 (v := .int .i64 s.at_) rfl
    have u6 := Blk.c P 6 (v := .int .i64 s.phase) rfl
    have u7 := Blk.c P 7 (v := .int .i64 s.order) rfl
    have u8 := Blk.c P 8 (v := .int .i64 s.operand) rfl
    have u9 := Blk.c P 9 (v := .int .i64 s.other) rfl
    have u10 := Blk.c P 10 (v := .int .i64 s.product) rfl
    have u11 := Blk.c P 11 (v := .int .i64 s.count) rfl
    have u12 := Blk.c P 12 (v := .int .i64 s.done) rfl
    have u13 := Blk.c P 13 (v := .int .i64 s.why) rfl
    have g0 := Blk.f P 0
    have g1 := Blk.f P 1
    have g2 := Blk.f P 2
    have g3 := Blk.f P 3
    have g4 := Blk.f P 4
    have g5 := Blk.f P 5
    have g6 := Blk.f P 6
    have g7 := Blk.f P 7
    have g8 := Blk.f P 8
    have g9 := Blk.f P 9
    have g10 := Blk.f P 10
    have g11 := Blk.f P 11
    have g12 := Blk.f P 12
    have g13 := Blk.f P 13
    have hz : w.heap.size + 1 < w1.heap.size := R.lt
    have hz0 : w.heap.size < w1.heap.size := P.lt
    have F1 : Ext w ((w1.setCell ⟨w.heap.size, 8, none⟩ (.int .i64 x)).alloc (.cells #[.int .i64 o.op, .int .i64 o.frm, .int .i64 o.to, .int .i64 o.nxt] 36)) := (by repeat (first | with_reducible exact Ext.refl _ | with_reducible exact E1 | with_reducible exact E1.old | with_reducible exact E1.old.old | with_reducible exact E1.old.old.old | (with_reducible refine Ext.alloc ?_ _) | (with_reducible refine Below.drew ?_) | (with_reducible refine below_drewN ?_ _) | (with_reducible refine ext_put ?_ _ ?_; rotate_left; (first | with_reducible exact Nat.le_refl _ | with_reducible exact Nat.le_succ _ | omega | (dsimp only; omega)))))
    have P1 : Blk ((w1.setCell ⟨w.heap.size, 8, none⟩ (.int .i64 x)).alloc (.cells #[.int .i64 o.op, .int .i64 o.frm, .int .i64 o.to, .int .i64 o.nxt] 36)) w.heap.size _ _ := (P.st 8 _).al _
    have R1 : Blk ((w1.setCell ⟨w.heap.size, 8, none⟩ (.int .i64 x)).alloc (.cells #[.int .i64 o.op, .int .i64 o.frm, .int .i64 o.to, .int .i64 o.nxt] 36)) (w.heap.size + 1) _ _ := (R.ot (by omega)).al _
    have hWz : ((w1.setCell ⟨w.heap.size, 8, none⟩ (.int .i64 x)).alloc (.cells #[.int .i64 o.op, .int .i64 o.frm, .int .i64 o.to, .int .i64 o.nxt] 36)).heap.size = w1.heap.size + 1 := by simp [World.setCell]
    have HWz := Lib.hid hWz
    clear hWz
    go_wp2_with (at_builtin; refine wpList_app (w0 := ((w1.setCell ⟨w.heap.size, 8, none⟩ (.int .i64 x)).alloc (.cells #[.int .i64 o.op, .int .i64 o.frm, .int .i64 o.to, .int .i64 o.nxt] 36))) rfl _ _ 22 rfl 3 i0 (.int .i64 0) 1 8 Try.underlying22 hi ha0 ha1 ha2 rfl (by decide) _ 0 (w1.heap.size + 1) [] rfl (own_empty2 HWz.out (Ext.refl _)) ((Ext.refl _).alloc _) (by rw [HWz.out]; exact Nat.le_refl _) (by simp) a3 s.printed.length c3 (iv s.printed) rfl ?d1 ?d2 (iv_one _) (by unfold maxLen; omega) (by omega) ?_)
    case d1 => rw [iv_length, Nat.mul_one]
    case d2 => exact from_ints (hI.ext (F1.alloc _))
    intro b1 d1 wf hown1 hE1 _
    have hwf : w1.heap.size + 1 ≤ wf.heap.size := by have := hE1.size; rw [HWz.out] at this; exact this
    go_wp2_with (at_builtin; refine wpList_app (w0 := ((w1.setCell ⟨w.heap.size, 8, none⟩ (.int .i64 x)).alloc (.cells #[.int .i64 o.op, .int .i64 o.frm, .int .i64 o.to, .int .i64 o.nxt] 36))) rfl _ _ 22 rfl 3 i0 (.int .i64 0) 1 8 Try.underlying22 hi ha0 ha1 ha2 rfl (by decide) _ s.printed.length (w1.heap.size + 1) (iv s.printed) rfl ?e0 (hE1.alloc _) (by rw [HWz.out]; exact Nat.le_refl _) (by simp; omega) _ 1 1 (iv [x]) rfl ?e1 ?e2 (iv_one _) (by unfold maxLen; omega) (by omega) ?_)
    case e0 => exact hown1.alloc _
    case e1 => rfl
    case e2 => exact from_ints (IntsAt.one (by simp) (by simp))
    intro b2 d2 wg hown2 hE2 _
    rw [iv_app] at hown2
    obtain ⟨gA, rfl⟩ := own_addr hown2 (by omega)
    obtain ⟨hg2, hg3⟩ := own_room hown2
    have hg4 : w.heap.size + 1 < w1.heap.size := R.lt
    clear hwf
    have P2 := P1.ex hE2
    have R2 := R1.ex hE2
    have F2 := F1.comp hE2
    have J2 := own_ints hown2
    clear u0 u1 u2 u3 u4 u5 u6 u7 u8 u9 u10 u11 u12 u13 g0 g1 g2 g3 g4 g5 g6 g7 g8 g9 g10 g11 g12 g13 hown1 hE1 hE2 hown2 F1 hz hz0
    have u0 := Blk.c P2 0 (v := .slice a1 n1 c1) rfl
    have u1 := Blk.c P2 1 (v := .slice a2 n2 c2) rfl
    have u2 := Blk.c P2 2 (v := .int .i64 { s with operand := x }.taken) rfl
    have u3 := Blk.c P2 3 (v := .slice a3 s.printed.length c3) rfl
    have u4 := Blk.c P2 4 (v := .int .i64 { s with operand := x }.clock) rfl
    have u5 := Blk.c P2 5 (v := .int .i64 { s with operand := x }.at_) rfl
    have u6 := Blk.c P2 6 (v := .int .i64 { s with operand := x }.phase) rfl
    have u7 := Blk.c P2 7 (v := .int .i64 { s with operand := x }.order) rfl
    have u8 := Blk.c P2 8 (v := .int .i64 { s with operand := x }.operand) rfl
    have u9 := Blk.c P2 9 (v := .int .i64 { s with operand := x }.other) rfl
    have u10 := Blk.c P2 10 (v := .int .i64 { s with operand := x }.product) rfl
    have u11 := Blk.c P2 11 (v := .int .i64 { s with operand := x }.count) rfl
    have u12 := Blk.c P2 12 (v := .int .i64 { s with operand := x }.done) rfl
    have u13 := Blk.c P2 13 (v := .int .i64 { s with operand := x }.why) rfl
    have g0 := Blk.f P2 0
    have g1 := Blk.f P2 1
    have g2 := Blk.f P2 2
    have g3 := Blk.f P2 3
    have g4 := Blk.f P2 4
    have g5 := Blk.f P2 5
    have g6 := Blk.f P2 6
    have g7 := Blk.f P2 7
    have g8 := Blk.f P2 8
    have g9 := Blk.f P2 9
    have g10 := Blk.f P2 10
    have g11 := Blk.f P2 11
    have g12 := Blk.f P2 12
    have g13 := Blk.f P2 13
    have hz : w.heap.size + 1 < wg.heap.size := R2.lt
    have hz0 : w.heap.size < wg.heap.size := P2.lt
    have hd8 := hd7 (some ⟨gA, 0, none⟩) d2
    clear hd7
    go_wp2_with fail
    refine (hd8 _).mono ?_
    rintro e w3 ⟨rfl, E3⟩
    have F3 : Ext w w3 := Ext.comp (by repeat (first | with_reducible exact Ext.refl _ | with_reducible exact F2 | with_reducible exact F2.old | with_reducible exact F2.old.old | with_reducible exact F2.old.old.old | (with_reducible refine Ext.alloc ?_ _) | (with_reducible refine Below.drew ?_) | (with_reducible refine below_drewN ?_ _) | (with_reducible refine ext_put ?_ _ ?_; rotate_left; (first | with_reducible exact Nat.le_refl _ | with_reducible exact Nat.le_succ _ | omega | (dsimp only; omega))))) E3
    have R3 := Blk.go R2 (by intro hblk; repeat (first | with_reducible exact hblk | with_reducible refine Blk.al ?_ _ | with_reducible refine Blk.dr ?_ | (with_reducible refine Blk.ot ?_ ?_; rotate_left; (first | omega | (dsimp only; omega))))) E3
    have q0 := Blk.c R3 0 (v := .slice none 0 0) rfl
    have q1 := Blk.c R3 1 (v := .slice none 0 0) rfl
    have q2 := Blk.c R3 2 (v := .int .i64 0) rfl
    have q3 := Blk.c R3 3 (v := .slice none 0 0) rfl
    have q4 := Blk.c R3 4 (v := .int .i64 0) rfl
    have q5 := Blk.c R3 5 (v := .int .i64 0) rfl
    have q6 := Blk.c R3 6 (v := .int .i64 0) rfl
    have q7 := Blk.c R3 7 (v := .int .i64 0) rfl
    have q8 := Blk.c R3 8 (v := .int .i64 0) rfl
    have q9 := Blk.c R3 9 (v := .int .i64 0) rfl
    have q10 := Blk.c R3 10 (v := .int .i64 0) rfl
    have q11 := Blk.c R3 11 (v := .int .i64 0) rfl
    have q12 := Blk.c R3 12 (v := .int .i64 0) rfl
    have q13 := Blk.c R3 13 (v := .int .i64 0) rfl
    have f0 := Blk.f R3 0
    have f1 := Blk.f R3 1
    have f2 := Blk.f R3 2
    have f3 := Blk.f R3 3
    have f4 := Blk.f R3 4
    have f5 := Blk.f R3 5
    have f6 := Blk.f R3 6
    have f7 := Blk.f R3 7
    have f8 := Blk.f R3 8
    have f9 := Blk.f R3 9
    have f10 := Blk.f R3 10
    have f11 := Blk.f R3 11
    have f12 := Blk.f R3 12
    have f13 := Blk.f R3 13
    have hy : w.heap.size + 1 < w3.heap.size := R3.lt
    go_wp2_with fail
    refine bodyPost_ret (v := psv a1 a2 (some ⟨gA, 0, none⟩) n1 c1 n2 c2 (s.printed.length + 1) d2 T) (by simp [results, Try.results132, go_sem, hz, hz0, hy, q0, q1, q2, q3, q4, q5, q6, q7, q8, q9, q10, q11, q12, q13]) rfl ⟨some ⟨gA, 0, none⟩, d2, ?_, ?_, ?_⟩
    · rw [HT.out]; simp
    · refine .inr ⟨gA, rfl, by omega, ?_⟩
      rw [HT.out]
      have hne : ∀ b off, (some ⟨gA, 0, none⟩ : Option Addr) = some ⟨b, off, none⟩ → b ≠ w.heap.size ∧ b ≠ w.heap.size + 1 := fun b off e => by cases e; omega
      have J3 := (ints_put (p := ⟨w.heap.size, 3, none⟩) (u := .slice (some ⟨gA, 0, none⟩) (s.printed.length + 1) d2) J2 (fun b off e => (hne b off e).1)).ext E3
      repeat (first | with_reducible exact J3 | (with_reducible refine ints_put ?_ ?_; rotate_left; exact (fun b off e => (hne b off e).2)))
    · exact (by repeat (first | with_reducible exact Ext.refl _ | with_reducible exact F3 | with_reducible exact F3.old | with_reducible exact F3.old.old | with_reducible exact F3.old.old.old | (with_reducible refine Ext.alloc ?_ _) | (with_reducible refine Below.drew ?_) | (with_reducible refine below_drewN ?_ _) | (with_reducible refine ext_put ?_ _ ?_; rotate_left; (first | with_reducible exact Nat.le_refl _ | with_reducible exact Nat.le_succ _ | omega | (dsimp only; omega)))))
  · rw [if_neg h7]
    have b7 : ((decodeQ s.order).op == 7) = false := by simpa using h7
    by_cases h5 : (decodeQ s.order).op = 5
    · rw [if_pos h5]
      have b5 : ((decodeQ s.order).op == 5) = true := by simpa using h5
      have hd5 := hdn a3 s.printed.length c3 { s with operand := x } ho hd
      have hT : (finishP { s with operand := x }).printed = s.printed := rfl
      have hN : (finishP { s with operand := x }).at_ = (decodeQ s.order).nxt := rfl
      clear h7 h5 hdn ho hd hI
      generalize finishP { s with operand := x } = T at *
      generalize decodeQ s.order = o at *
      generalize hn3 : s.printed.length = n3 at *
      have HT := Lib.hid hT
      have HN := Lib.hid hN
      have HL := Lib.hid hn3
      clear hT hN hn3
      generalize sgn x = sx at *
      by_cases hs : sx < 0
      · have hs' : decide (sx < 0) = true := by simpa using hs
        rw [if_pos hs]
        clear hs
        go_enter Try.func132, Try.ntmps132
        go_wp2_with fail
        refine (hdd _).mono ?_
        rintro e w1 ⟨rfl, E1⟩
        have P := Blk.of E1.old
        have R := Blk.of E1
        rw [World.size_alloc] at R
        have u0 := Blk.c P 0 (v := .slice a1 n1 c1) rfl
        have u1 := Blk.c P 1 (v := .slice a2 n2 c2) rfl
        have u2 := Blk.c P 2 (v := .int .i64 s.taken) rfl
        have u3 := Blk.c P 3 (v := .slice a3 n3 c3) rfl
        have u4 := Blk.c P 4 (v := .int .i64 s.clock) rfl
        have u5 := Blk.c P 5 (v := .int .i64 s.at_) rfl
        have u6 := Blk.c P 6 (v := .int .i64 s.phase) rfl
        have u7 := Blk.c P 7 (v := .int .i64 s.order) rfl
        have u8 := Blk.c P 8 (v := .int .i64 s.operand) rfl
        have u9 := Blk.c P 9 (v := .int .i64 s.other) rfl
        have u10 := Blk.c P 10 (v := .int .i64 s.product) rfl
        have u11 := Blk.c P 11 (v := .int .i64 s.count) rfl
        have u12 := Blk.c P 12 (v := .int .i64 s.done) rfl
        have u13 := Blk.c P 13 (v := .int .i64 s.why) rfl
        have g0 := Blk.f P 0
        have g1 := Blk.f P 1
        have g2 := Blk.f P 2
        have g3 := Blk.f P 3
        have g4 := Blk.f P 4
        have g5 := Blk.f P 5
        have g6 := Blk.f P 6
        have g7 := Blk.f P 7
        have g8 := Blk.f P 8
        have g9 := Blk.f P 9
        have g10 := Blk.f P 10
        have g11 := Blk.f P 11
        have g12 := Blk.f P 12
        have g13 := Blk.f P 13
        have hz : w.heap.size + 1 < w1.heap.size := R.lt
        have hz0 : w.heap.size < w1.heap.size := P.lt
        have O1 := Blk.nw (w1.setCell ⟨w.heap.size, 8, none⟩ (.int .i64 x)) #[.int .i64 o.op, .int .i64 o.frm, .int .i64 o.to, .int .i64 o.nxt] 36
        have hWz : (w1.setCell ⟨w.heap.size, 8, none⟩ (.int .i64 x)).heap.size = w1.heap.size := by simp [World.setCell]
        rw [hWz] at O1
        clear hWz
        go_wp2_with fail
        refine (hd5 _).mono ?_
        rintro e w2 ⟨rfl, E2⟩
        have F2 : Ext w w2 := Ext.comp (by repeat (first | with_reducible exact Ext.refl _ | with_reducible exact E1 | with_reducible exact E1.old | with_reducible exact E1.old.old | with_reducible exact E1.old.old.old | (with_reducible refine Ext.alloc ?_ _) | (with_reducible refine Below.drew ?_) | (with_reducible refine below_drewN ?_ _) | (with_reducible refine ext_put ?_ _ ?_; rotate_left; (first | with_reducible exact Nat.le_refl _ | with_reducible exact Nat.le_succ _ | omega | (dsimp only; omega))))) E2
        have P2 := Blk.ex ((P.st 8 (.int .i64 x)).al _) E2
        have R2 := Blk.go R (by intro hblk; repeat (first | with_reducible exact hblk | with_reducible refine Blk.al ?_ _ | with_reducible refine Blk.dr ?_ | (with_reducible refine Blk.ot ?_ ?_; rotate_left; (first | omega | (dsimp only; omega))))) E2
        have O2 := Blk.ex O1 E2
        clear u0 u1 u2 u3 u4 u5 u6 u7 u8 u9 u10 u11 u12 u13 g0 g1 g2 g3 g4 g5 g6 g7 g8 g9 g10 g11 g12 g13 hz hz0
        have u0 := Blk.c P2 0 (v := .slice a1 n1 c1) rfl
        have u1 := Blk.c P2 1 (v := .slice a2 n2 c2) rfl
        have u2 := Blk.c P2 2 (v := .int .i64 { s with operand := x }.taken) rfl
        have u3 := Blk.c P2 3 (v := .slice a3 n3 c3) rfl
        have u4 := Blk.c P2 4 (v := .int .i64 { s with operand := x }.clock) rfl
        have u5 := Blk.c P2 5 (v := .int .i64 { s with operand := x }.at_) rfl
        have u6 := Blk.c P2 6 (v := .int .i64 { s with operand := x }.phase) rfl
        have u7 := Blk.c P2 7 (v := .int .i64 { s with operand := x }.order) rfl
        have u8 := Blk.c P2 8 (v := .int .i64 { s with operand := x }.operand) rfl
        have u9 := Blk.c P2 9 (v := .int .i64 { s with operand := x }.other) rfl
        have u10 := Blk.c P2 10 (v := .int .i64 { s with operand := x }.product) rfl
        have u11 := Blk.c P2 11 (v := .int .i64 { s with operand := x }.count) rfl
        have u12 := Blk.c P2 12 (v := .int .i64 { s with operand := x }.done) rfl
        have u13 := Blk.c P2 13 (v := .int .i64 { s with operand := x }.why) rfl
        have g0 := Blk.f P2 0
        have g1 := Blk.f P2 1
        have g2 := Blk.f P2 2
        have g3 := Blk.f P2 3
        have g4 := Blk.f P2 4
        have g5 := Blk.f P2 5
        have g6 := Blk.f P2 6
        have g7 := Blk.f P2 7
        have g8 := Blk.f P2 8
        have g9 := Blk.f P2 9
        have g10 := Blk.f P2 10
        have g11 := Blk.f P2 11
        have g12 := Blk.f P2 12
        have g13 := Blk.f P2 13
        have q0 := Blk.c R2 0 (v := .slice none 0 0) rfl
        have q1 := Blk.c R2 1 (v := .slice none 0 0) rfl
        have q2 := Blk.c R2 2 (v := .int .i64 0) rfl
        have q3 := Blk.c R2 3 (v := .slice none 0 0) rfl
        have q4 := Blk.c R2 4 (v := .int .i64 0) rfl
        have q5 := Blk.c R2 5 (v := .int .i64 0) rfl
        have q6 := Blk.c R2 6 (v := .int .i64 0) rfl
        have q7 := Blk.c R2 7 (v := .int .i64 0) rfl
        have q8 := Blk.c R2 8 (v := .int .i64 0) rfl
        have q9 := Blk.c R2 9 (v := .int .i64 0) rfl
        have q10 := Blk.c R2 10 (v := .int .i64 0) rfl
        have q11 := Blk.c R2 11 (v := .int .i64 0) rfl
        have q12 := Blk.c R2 12 (v := .int .i64 0) rfl
        have q13 := Blk.c R2 13 (v := .int .i64 0) rfl
        have f0 := Blk.f R2 0
        have f1 := Blk.f R2 1
        have f2 := Blk.f R2 2
        have f3 := Blk.f R2 3
        have f4 := Blk.f R2 4
        have f5 := Blk.f R2 5
        have f6 := Blk.f R2 6
        have f7 := Blk.f R2 7
        have f8 := Blk.f R2 8
        have f9 := Blk.f R2 9
        have f10 := Blk.f R2 10
        have f11 := Blk.f R2 11
        have f12 := Blk.f R2 12
        have f13 := Blk.f R2 13
        have z0 := Blk.c O2 0 (v := .int .i64 o.op) rfl
        have z1 := Blk.c O2 1 (v := .int .i64 o.frm) rfl
        have z2 := Blk.c O2 2 (v := .int .i64 o.to) rfl
        have z3 := Blk.c O2 3 (v := .int .i64 o.nxt) rfl
        have hz : w.heap.size + 1 < w2.heap.size := R2.lt
        have hz0 : w.heap.size < w2.heap.size := P2.lt
        have hz1 : w1.heap.size < w2.heap.size := O2.lt
        have hz2 : w.heap.size < w1.heap.size := P.lt
        have hz3 : w.heap.size + 1 < w1.heap.size := R.lt
        go_upto_region 8 with fail
        obtain ⟨w3, hw3⟩ : ∃ w3 : World, w3 = ((((((((((((((w2.setCell ⟨w.heap.size, 0, none⟩ (.slice a1 n1 c1)).setCell ⟨w.heap.size, 1, none⟩ (.slice a2 n2 c2)).setCell ⟨w.heap.size, 2, none⟩ (.int .i64 T.taken)).setCell ⟨w.heap.size, 3, none⟩ (.slice a3 n3 c3)).setCell ⟨w.heap.size, 4, none⟩ (.int .i64 T.clock)).setCell ⟨w.heap.size, 5, none⟩ (.int .i64 T.at_)).setCell ⟨w.heap.size, 6, none⟩ (.int .i64 T.phase)).setCell ⟨w.heap.size, 7, none⟩ (.int .i64 T.order)).setCell ⟨w.heap.size, 8, none⟩ (.int .i64 T.operand)).setCell ⟨w.heap.size, 9, none⟩ (.int .i64 T.other)).setCell ⟨w.heap.size, 10, none⟩ (.int .i64 T.product)).setCell ⟨w.heap.size, 11, none⟩ (.int .i64 T.count)).setCell ⟨w.heap.size, 12, none⟩ (.int .i64 T.done)).setCell ⟨w.heap.size, 13, none⟩ (.int .i64 T.why)) := ⟨_, rfl⟩
        have F3 : Ext w w3 := by rw [hw3]; exact (by repeat (first | with_reducible exact Ext.refl _ | with_reducible exact F2 | with_reducible exact F2.old | with_reducible exact F2.old.old | with_reducible exact F2.old.old.old | (with_reducible refine Ext.alloc ?_ _) | (with_reducible refine Below.drew ?_) | (with_reducible refine below_drewN ?_ _) | (with_reducible refine ext_put ?_ _ ?_; rotate_left; (first | with_reducible exact Nat.le_refl _ | with_reducible exact Nat.le_succ _ | omega | (dsimp only; omega)))))
        have P3 : Blk w3 w.heap.size #[.slice a1 n1 c1, .slice a2 n2 c2, .int .i64 T.taken, .slice a3 n3 c3, .int .i64 T.clock, .int .i64 T.at_, .int .i64 T.phase, .int .i64 T.order, .int .i64 T.operand, .int .i64 T.other, .int .i64 T.product, .int .i64 T.count, .int .i64 T.done, .int .i64 T.why] 41 := by rw [hw3]; exact P2.st14 _ _ _ _ _ _ _ _ _ _ _ _ _ _
        have R3 := R2.nm14 hw3 (by omega)
        have hzw3 : w3.heap.size = w2.heap.size := by rw [hw3]; simp only [World.size_setCell]
        have O3 := O2.nm14 hw3 (by omega)
        rw [← hw3]
        clear hw3
        clear u0 u1 u2 u3 u4 u5 u6 u7 u8 u9 u10 u11 u12 u13 g0 g1 g2 g3 g4 g5 g6 g7 g8 g9 g10 g11 g12 g13 q0 q1 q2 q3 q4 q5 q6 q7 q8 q9 q10 q11 q12 q13 f0 f1 f2 f3 f4 f5 f6 f7 f8 f9 f10 f11 f12 f13 hz hz0 hz1 hz2 hz3
        clear z0 z1 z2 z3
        have u0 := Blk.c P3 0 (v := .slice a1 n1 c1) rfl
        have u1 := Blk.c P3 1 (v := .slice a2 n2 c2) rfl
        have u2 := Blk.c P3 2 (v := .int .i64 T.taken) rfl
        have u3 := Blk.c P3 3 (v := .slice a3 n3 c3) rfl
        have u4 := Blk.c P3 4 (v := .int .i64 T.clock) rfl
        have u5 := Blk.c P3 5 (v := .int .i64 T.at_) rfl
        have u6 := Blk.c P3 6 (v := .int .i64 T.phase) rfl
        have u7 := Blk.c P3 7 (v := .int .i64 T.order) rfl
        have u8 := Blk.c P3 8 (v := .int .i64 T.operand) rfl
        have u9 := Blk.c P3 9 (v := .int .i64 T.other) rfl
        have u10 := Blk.c P3 10 (v := .int .i64 T.product) rfl
        have u11 := Blk.c P3 11 (v := .int .i64 T.count) rfl
        have u12 := Blk.c P3 12 (v := .int .i64 T.done) rfl
        have u13 := Blk.c P3 13 (v := .int .i64 T.why) rfl
        have g0 := Blk.f P3 0
        have g1 := Blk.f P3 1
        have g2 := Blk.f P3 2
        have g3 := Blk.f P3 3
        have g4 := Blk.f P3 4
        have g5 := Blk.f P3 5
        have g6 := Blk.f P3 6
        have g7 := Blk.f P3 7
        have g8 := Blk.f P3 8
        have g9 := Blk.f P3 9
        have g10 := Blk.f P3 10
        have g11 := Blk.f P3 11
        have g12 := Blk.f P3 12
        have g13 := Blk.f P3 13
        have q0 := Blk.c R3 0 (v := .slice none 0 0) rfl
        have q1 := Blk.c R3 1 (v := .slice none 0 0) rfl
        have q2 := Blk.c R3 2 (v := .int .i64 0) rfl
        have q3 := Blk.c R3 3 (v := .slice none 0 0) rfl
        have q4 := Blk.c R3 4 (v := .int .i64 0) rfl
        have q5 := Blk.c R3 5 (v := .int .i64 0) rfl
        have q6 := Blk.c R3 6 (v := .int .i64 0) rfl
        have q7 := Blk.c R3 7 (v := .int .i64 0) rfl
        have q8 := Blk.c R3 8 (v := .int .i64 0) rfl
        have q9 := Blk.c R3 9 (v := .int .i64 0) rfl
        have q10 := Blk.c R3 10 (v := .int .i64 0) rfl
        have q11 := Blk.c R3 11 (v := .int .i64 0) rfl
        have q12 := Blk.c R3 12 (v := .int .i64 0) rfl
        have q13 := Blk.c R3 13 (v := .int .i64 0) rfl
        have f0 := Blk.f R3 0
        have f1 := Blk.f R3 1
        have f2 := Blk.f R3 2
        have f3 := Blk.f R3 3
        have f4 := Blk.f R3 4
        have f5 := Blk.f R3 5
        have f6 := Blk.f R3 6
        have f7 := Blk.f R3 7
        have f8 := Blk.f R3 8
        have f9 := Blk.f R3 9
        have f10 := Blk.f R3 10
        have f11 := Blk.f R3 11
        have f12 := Blk.f R3 12
        have f13 := Blk.f R3 13
        have z0 := Blk.c O3 0 (v := .int .i64 o.op) rfl
        have z1 := Blk.c O3 1 (v := .int .i64 o.frm) rfl
        have z2 := Blk.c O3 2 (v := .int .i64 o.to) rfl
        have z3 := Blk.c O3 3 (v := .int .i64 o.nxt) rfl
        have hz : w.heap.size + 1 < w3.heap.size := R3.lt
        have hz0 : w.heap.size < w3.heap.size := P3.lt
        have hz1 : w1.heap.size < w3.heap.size := O3.lt
        go_wp2_with (go_at_call 42; refine (hsg _).mono ?_; rintro e w' ⟨rfl, rfl⟩)
        refine bodyPost_ret (v := psv a1 a2 a3 n1 c1 n2 c2 n3 c3 { T with at_ := o.to }) (by simp [results, Try.results132, go_sem, hz, hz0, q0, q1, q2, q3, q4, q5, q6, q7, q8, q9, q10, q11, q12, q13]) rfl ⟨a3, c3, ?_, .inl ⟨rfl, ?_⟩, ?_⟩
        · rw [show ({ T with at_ := o.to } : Pu).printed = T.printed from rfl, HT.out, HL.out]
        · exact HT.out
        · exact (by repeat (first | with_reducible exact Ext.refl _ | with_reducible exact F3 | with_reducible exact F3.old | with_reducible exact F3.old.old | with_reducible exact F3.old.old.old | (with_reducible refine Ext.alloc ?_ _) | (with_reducible refine Below.drew ?_) | (with_reducible refine below_drewN ?_ _) | (with_reducible refine ext_put ?_ _ ?_; rotate_left; (first | with_reducible exact Nat.le_refl _ | with_reducible exact Nat.le_succ _ | omega | (dsimp only; omega)))))
      · have hs' : decide (sx < 0) = false := by simpa using hs
        rw [if_neg hs]
        clear hs
        go_enter Try.func132, Try.ntmps132
        go_wp2_with fail
        refine (hdd _).mono ?_
        rintro e w1 ⟨rfl, E1⟩
        have P := Blk.of E1.old
        have R := Blk.of E1
        rw [World.size_alloc] at R
        have u0 := Blk.c P 0 (v := .slice a1 n1 c1) rfl
        have u1 := Blk.c P 1 (v := .slice a2 n2 c2) rfl
        have u2 := Blk.c P 2 (v := .int .i64 s.taken) rfl
        have u3 := Blk.c P 3 (v := .slice a3 n3 c3) rfl
        have u4 := Blk.c P 4 (v := .int .i64 s.clock) rfl
        have u5 := Blk.c P 5 (v := .int .i64 s.at_) rfl
        have u6 := Blk.c P 6 (v := .int .i64 s.phase) rfl
        have u7 := Blk.c P 7 (v := .int .i64 s.order) rfl
        have u8 := Blk.c P 8 (v := .int .i64 s.operand) rfl
        have u9 := Blk.c P 9 (v := .int .i64 s.other) rfl
        have u10 := Blk.c P 10 (v := .int .i64 s.product) rfl
        have u11 := Blk.c P 11 (v := .int .i64 s.count) rfl
        have u12 := Blk.c P 12 (v := .int .i64 s.done) rfl
        have u13 := Blk.c P 13 (v := .int .i64 s.why) rfl
        have g0 := Blk.f P 0
        have g1 := Blk.f P 1
        have g2 := Blk.f P 2
        have g3 := Blk.f P 3
        have g4 := Blk.f P 4
        have g5 := Blk.f P 5
        have g6 := Blk.f P 6
        have g7 := Blk.f P 7
        have g8 := Blk.f P 8
        have g9 := Blk.f P 9
        have g10 := Blk.f P 10
        have g11 := Blk.f P 11
        have g12 := Blk.f P 12
        have g13 := Blk.f P 13
        have hz : w.heap.size + 1 < w1.heap.size := R.lt
        have hz0 : w.heap.size < w1.heap.size := P.lt
        have O1 := Blk.nw (w1.setCell ⟨w.heap.size, 8, none⟩ (.int .i64 x)) #[.int .i64 o.op, .int .i64 o.frm, .int .i64 o.to, .int .i64 o.nxt] 36
        have hWz : (w1.setCell ⟨w.heap.size, 8, none⟩ (.int .i64 x)).heap.size = w1.heap.size := by simp [World.setCell]
        rw [hWz] at O1
        clear hWz
        go_wp2_with fail
        refine (hd5 _).mono ?_
        rintro e w2 ⟨rfl, E2⟩
        have F2 : Ext w w2 := Ext.comp (by repeat (first | with_reducible exact Ext.refl _ | with_reducible exact E1 | with_reducible exact E1.old | with_reducible exact E1.old.old | with_reducible exact E1.old.old.old | (with_reducible refine Ext.alloc ?_ _) | (with_reducible refine Below.drew ?_) | (with_reducible refine below_drewN ?_ _) | (with_reducible refine ext_put ?_ _ ?_; rotate_left; (first | with_reducible exact Nat.le_refl _ | with_reducible exact Nat.le_succ _ | omega | (dsimp only; omega))))) E2
        have P2 := Blk.ex ((P.st 8 (.int .i64 x)).al _) E2
        have R2 := Blk.go R (by intro hblk; repeat (first | with_reducible exact hblk | with_reducible refine Blk.al ?_ _ | with_reducible refine Blk.dr ?_ | (with_reducible refine Blk.ot ?_ ?_; rotate_left; (first | omega | (dsimp only; omega))))) E2
        have O2 := Blk.ex O1 E2
        clear u0 u1 u2 u3 u4 u5 u6 u7 u8 u9 u10 u11 u12 u13 g0 g1 g2 g3 g4 g5 g6 g7 g8 g9 g10 g11 g12 g13 hz hz0
        have u0 := Blk.c P2 0 (v := .slice a1 n1 c1) rfl
        have u1 := Blk.c P2 1 (v := .slice a2 n2 c2) rfl
        have u2 := Blk.c P2 2 (v := .int .i64 { s with operand := x }.taken) rfl
        have u3 := Blk.c P2 3 (v := .slice a3 n3 c3) rfl
        have u4 := Blk.c P2 4 (v := .int .i64 { s with operand := x }.clock) rfl
        have u5 := Blk.c P2 5 (v := .int .i64 { s with operand := x }.at_) rfl
        have u6 := Blk.c P2 6 (v := .int .i64 { s with operand := x }.phase) rfl
        have u7 := Blk.c P2 7 (v := .int .i64 { s with operand := x }.order) rfl
        have u8 := Blk.c P2 8 (v := .int .i64 { s with operand := x }.operand) rfl
        have u9 := Blk.c P2 9 (v := .int .i64 { s with operand := x }.other) rfl
        have u10 := Blk.c P2 10 (v := .int .i64 { s with operand := x }.product) rfl
        have u11 := Blk.c P2 11 (v := .int .i64 { s with operand := x }.count) rfl
        have u12 := Blk.c P2 12 (v := .int .i64 { s with operand := x }.done) rfl
        have u13 := Blk.c P2 13 (v := .int .i64 { s with operand := x }.why) rfl
        have g0 := Blk.f P2 0
        have g1 := Blk.f P2 1
        have g2 := Blk.f P2 2
        have g3 := Blk.f P2 3
        have g4 := Blk.f P2 4
        have g5 := Blk.f P2 5
        have g6 := Blk.f P2 6
        have g7 := Blk.f P2 7
        have g8 := Blk.f P2 8
        have g9 := Blk.f P2 9
        have g10 := Blk.f P2 10
        have g11 := Blk.f P2 11
        have g12 := Blk.f P2 12
        have g13 := Blk.f P2 13
        have q0 := Blk.c R2 0 (v := .slice none 0 0) rfl
        have q1 := Blk.c R2 1 (v := .slice none 0 0) rfl
        have q2 := Blk.c R2 2 (v := .int .i64 0) rfl
        have q3 := Blk.c R2 3 (v := .slice none 0 0) rfl
        have q4 := Blk.c R2 4 (v := .int .i64 0) rfl
        have q5 := Blk.c R2 5 (v := .int .i64 0) rfl
        have q6 := Blk.c R2 6 (v := .int .i64 0) rfl
        have q7 := Blk.c R2 7 (v := .int .i64 0) rfl
        have q8 := Blk.c R2 8 (v := .int .i64 0) rfl
        have q9 := Blk.c R2 9 (v := .int .i64 0) rfl
        have q10 := Blk.c R2 10 (v := .int .i64 0) rfl
        have q11 := Blk.c R2 11 (v := .int .i64 0) rfl
        have q12 := Blk.c R2 12 (v := .int .i64 0) rfl
        have q13 := Blk.c R2 13 (v := .int .i64 0) rfl
        have f0 := Blk.f R2 0
        have f1 := Blk.f R2 1
        have f2 := Blk.f R2 2
        have f3 := Blk.f R2 3
        have f4 := Blk.f R2 4
        have f5 := Blk.f R2 5
        have f6 := Blk.f R2 6
        have f7 := Blk.f R2 7
        have f8 := Blk.f R2 8
        have f9 := Blk.f R2 9
        have f10 := Blk.f R2 10
        have f11 := Blk.f R2 11
        have f12 := Blk.f R2 12
        have f13 := Blk.f R2 13
        have z0 := Blk.c O2 0 (v := .int .i64 o.op) rfl
        have z1 := Blk.c O2 1 (v := .int .i64 o.frm) rfl
        have z2 := Blk.c O2 2 (v := .int .i64 o.to) rfl
        have z3 := Blk.c O2 3 (v := .int .i64 o.nxt) rfl
        have hz : w.heap.size + 1 < w2.heap.size := R2.lt
        have hz0 : w.heap.size < w2.heap.size := P2.lt
        have hz1 : w1.heap.size < w2.heap.size := O2.lt
        have hz2 : w.heap.size < w1.heap.size := P.lt
        have hz3 : w.heap.size + 1 < w1.heap.size := R.lt
        go_upto_region 8 with fail
        obtain ⟨w3, hw3⟩ : ∃ w3 : World, w3 = ((((((((((((((w2.setCell ⟨w.heap.size, 0, none⟩ (.slice a1 n1 c1)).setCell ⟨w.heap.size, 1, none⟩ (.slice a2 n2 c2)).setCell ⟨w.heap.size, 2, none⟩ (.int .i64 T.taken)).setCell ⟨w.heap.size, 3, none⟩ (.slice a3 n3 c3)).setCell ⟨w.heap.size, 4, none⟩ (.int .i64 T.clock)).setCell ⟨w.heap.size, 5, none⟩ (.int .i64 T.at_)).setCell ⟨w.heap.size, 6, none⟩ (.int .i64 T.phase)).setCell ⟨w.heap.size, 7, none⟩ (.int .i64 T.order)).setCell ⟨w.heap.size, 8, none⟩ (.int .i64 T.operand)).setCell ⟨w.heap.size, 9, none⟩ (.int .i64 T.other)).setCell ⟨w.heap.size, 10, none⟩ (.int .i64 T.product)).setCell ⟨w.heap.size, 11, none⟩ (.int .i64 T.count)).setCell ⟨w.heap.size, 12, none⟩ (.int .i64 T.done)).setCell ⟨w.heap.size, 13, none⟩ (.int .i64 T.why)) := ⟨_, rfl⟩
        have F3 : Ext w w3 := by rw [hw3]; exact (by repeat (first | with_reducible exact Ext.refl _ | with_reducible exact F2 | with_reducible exact F2.old | with_reducible exact F2.old.old | with_reducible exact F2.old.old.old | (with_reducible refine Ext.alloc ?_ _) | (with_reducible refine Below.drew ?_) | (with_reducible refine below_drewN ?_ _) | (with_reducible refine ext_put ?_ _ ?_; rotate_left; (first | with_reducible exact Nat.le_refl _ | with_reducible exact Nat.le_succ _ | omega | (dsimp only; omega)))))
        have P3 : Blk w3 w.heap.size #[.slice a1 n1 c1, .slice a2 n2 c2, .int .i64 T.taken, .slice a3 n3 c3, .int .i64 T.clock, .int .i64 T.at_, .int .i64 T.phase, .int .i64 T.order, .int .i64 T.operand, .int .i64 T.other, .int .i64 T.product, .int .i64 T.count, .int .i64 T.done, .int .i64 T.why] 41 := by rw [hw3]; exact P2.st14 _ _ _ _ _ _ _ _ _ _ _ _ _ _
        have R3 := R2.nm14 hw3 (by omega)
        have hzw3 : w3.heap.size = w2.heap.size := by rw [hw3]; simp only [World.size_setCell]
        have O3 := O2.nm14 hw3 (by omega)
        rw [← hw3]
        clear hw3
        clear u0 u1 u2 u3 u4 u5 u6 u7 u8 u9 u10 u11 u12 u13 g0 g1 g2 g3 g4 g5 g6 g7 g8 g9 g10 g11 g12 g13 q0 q1 q2 q3 q4 q5 q6 q7 q8 q9 q10 q11 q12 q13 f0 f1 f2 f3 f4 f5 f6 f7 f8 f9 f10 f11 f12 f13 hz hz0 hz1 hz2 hz3
        clear z0 z1 z2 z3
        have u0 := Blk.c P3 0 (v := .slice a1 n1 c1) rfl
        have u1 := Blk.c P3 1 (v := .slice a2 n2 c2) rfl
        have u2 := Blk.c P3 2 (v := .int .i64 T.taken) rfl
        have u3 := Blk.c P3 3 (v := .slice a3 n3 c3) rfl
        have u4 := Blk.c P3 4 (v := .int .i64 T.clock) rfl
        have u5 := Blk.c P3 5 (v := .int .i64 T.at_) rfl
        have u6 := Blk.c P3 6 (v := .int .i64 T.phase) rfl
        have u7 := Blk.c P3 7 (v := .int .i64 T.order) rfl
        have u8 := Blk.c P3 8 (v := .int .i64 T.operand) rfl
        have u9 := Blk.c P3 9 (v := .int .i64 T.other) rfl
        have u10 := Blk.c P3 10 (v := .int .i64 T.product) rfl
        have u11 := Blk.c P3 11 (v := .int .i64 T.count) rfl
        have u12 := Blk.c P3 12 (v := .int .i64 T.done) rfl
        have u13 := Blk.c P3 13 (v := .int .i64 T.why) rfl
        have g0 := Blk.f P3 0
        have g1 := Blk.f P3 1
        have g2 := Blk.f P3 2
        have g3 := Blk.f P3 3
        have g4 := Blk.f P3 4
        have g5 := Blk.f P3 5
        have g6 := Blk.f P3 6
        have g7 := Blk.f P3 7
        have g8 := Blk.f P3 8
        have g9 := Blk.f P3 9
        have g10 := Blk.f P3 10
        have g11 := Blk.f P3 11
        have g12 := Blk.f P3 12
        have g13 := Blk.f P3 13
        have q0 := Blk.c R3 0 (v := .slice none 0 0) rfl
        have q1 := Blk.c R3 1 (v := .slice none 0 0) rfl
        have q2 := Blk.c R3 2 (v := .int .i64 0) rfl
        have q3 := Blk.c R3 3 (v := .slice none 0 0) rfl
        have q4 := Blk.c R3 4 (v := .int .i64 0) rfl
        have q5 := Blk.c R3 5 (v := .int .i64 0) rfl
        have q6 := Blk.c R3 6 (v := .int .i64 0) rfl
        have q7 := Blk.c R3 7 (v := .int .i64 0) rfl
        have q8 := Blk.c R3 8 (v := .int .i64 0) rfl
        have q9 := Blk.c R3 9 (v := .int .i64 0) rfl
        have q10 := Blk.c R3 10 (v := .int .i64 0) rfl
        have q11 := Blk.c R3 11 (v := .int .i64 0) rfl
        have q12 := Blk.c R3 12 (v := .int .i64 0) rfl
        have q13 := Blk.c R3 13 (v := .int .i64 0) rfl
        have f0 := Blk.f R3 0
        have f1 := Blk.f R3 1
        have f2 := Blk.f R3 2
        have f3 := Blk.f R3 3
        have f4 := Blk.f R3 4
        have f5 := Blk.f R3 5
        have f6 := Blk.f R3 6
        have f7 := Blk.f R3 7
        have f8 := Blk.f R3 8
        have f9 := Blk.f R3 9
        have f10 := Blk.f R3 10
        have f11 := Blk.f R3 11
        have f12 := Blk.f R3 12
        have f13 := Blk.f R3 13
        have z0 := Blk.c O3 0 (v := .int .i64 o.op) rfl
        have z1 := Blk.c O3 1 (v := .int .i64 o.frm) rfl
        have z2 := Blk.c O3 2 (v := .int .i64 o.to) rfl
        have z3 := Blk.c O3 3 (v := .int .i64 o.nxt) rfl
        have hz : w.heap.size + 1 < w3.heap.size := R3.lt
        have hz0 : w.heap.size < w3.heap.size := P3.lt
        have hz1 : w1.heap.size < w3.heap.size := O3.lt
        go_wp2_with (go_at_call 42; refine (hsg _).mono ?_; rintro e w' ⟨rfl, rfl⟩)
        refine bodyPost_ret (v := psv a1 a2 a3 n1 c1 n2 c2 n3 c3 { T with at_ := T.at_ }) (by simp [results, Try.results132, go_sem, hz, hz0, q0, q1, q2, q3, q4, q5, q6, q7, q8, q9, q10, q11, q12, q13]) rfl ⟨a3, c3, ?_, .inl ⟨rfl, ?_⟩, ?_⟩
        · rw [← HN.out]
          show Ending.returned (psv a1 a2 a3 n1 c1 n2 c2 n3 c3 T) = .returned (psv a1 a2 a3 n1 c1 n2 c2 T.printed.length c3 T)
          rw [HT.out, HL.out]
        · exact HT.out
        · exact (by repeat (first | with_reducible exact Ext.refl _ | with_reducible exact F3 | with_reducible exact F3.old | with_reducible exact F3.old.old | with_reducible exact F3.old.old.old | (with_reducible refine Ext.alloc ?_ _) | (with_reducible refine Below.drew ?_) | (with_reducible refine below_drewN ?_ _) | (with_reducible refine ext_put ?_ _ ?_; rotate_left; (first | with_reducible exact Nat.le_refl _ | with_reducible exact Nat.le_succ _ | omega | (dsimp only; omega)))))
    · rw [if_neg h5]
      have b5 : ((decodeQ s.order).op == 5) = false := by simpa using h5
      clear h7 h5 hdn hsg ho hd hI
      generalize decodeQ s.order = o at *
      generalize hn3 : s.printed.length = n3 at *
      have HL := Lib.hid hn3
      clear hn3
      go_enter Try.func132, Try.ntmps132
      go_wp2_with fail
      refine (hdd _).mono ?_
      rintro e w1 ⟨rfl, E1⟩
      have P := Blk.of E1.old
      have R := Blk.of E1
      rw [World.size_alloc] at R
      have u0 := Blk.c P 0 (v := .slice a1 n1 c1) rfl
      have u1 := Blk.c P 1 (v := .slice a2 n2 c2) rfl
      have u2 := Blk.c P 2 (v := .int .i64 s.taken) rfl
      have u3 := Blk.c P 3 (v := .slice a3 n3 c3) rfl
      have u4 := Blk.c P 4 (v := .int .i64 s.clock) rfl
      have u5 := Blk.c P 5 (v := .int .i64 s.at_) rfl
      have u6 := Blk.c P 6 (v := .int .i64 s.phase) rfl
      have u7 := Blk.c P 7 (v := .int .i64 s.order) rfl
      have u8 := Blk.c P 8 (v := .int .i64 s.operand) rfl
      have u9 := Blk.c P 9 (v := .int .i64 s.other) rfl
      have u10 := Blk.c P 10 (v := .int .i64 s.product) rfl
      have u11 := Blk.c P 11 (v := .int .i64 s.count) rfl
      have u12 := Blk.c P 12 (v := .int .i64 s.done) rfl
      have u13 := Blk.c P 13 (v := .int .i64 s.why) rfl
      have g0 := Blk.f P 0
      have g1 := Blk.f P 1
      have g2 := Blk.f P 2
      have g3 := Blk.f P 3
      have g4 := Blk.f P 4
      have g5 := Blk.f P 5
      have g6 := Blk.f P 6
      have g7 := Blk.f P 7
      have g8 := Blk.f P 8
      have g9 := Blk.f P 9
      have g10 := Blk.f P 10
      have g11 := Blk.f P 11
      have g12 := Blk.f P 12
      have g13 := Blk.f P 13
      have q0 := Blk.c R 0 (v := .slice none 0 0) rfl
      have q1 := Blk.c R 1 (v := .slice none 0 0) rfl
      have q2 := Blk.c R 2 (v := .int .i64 0) rfl
      have q3 := Blk.c R 3 (v := .slice none 0 0) rfl
      have q4 := Blk.c R 4 (v := .int .i64 0) rfl
      have q5 := Blk.c R 5 (v := .int .i64 0) rfl
      have q6 := Blk.c R 6 (v := .int .i64 0) rfl
      have q7 := Blk.c R 7 (v := .int .i64 0) rfl
      have q8 := Blk.c R 8 (v := .int .i64 0) rfl
      have q9 := Blk.c R 9 (v := .int .i64 0) rfl
      have q10 := Blk.c R 10 (v := .int .i64 0) rfl
      have q11 := Blk.c R 11 (v := .int .i64 0) rfl
      have q12 := Blk.c R 12 (v := .int .i64 0) rfl
      have q13 := Blk.c R 13 (v := .int .i64 0) rfl
      have f0 := Blk.f R 0
      have f1 := Blk.f R 1
      have f2 := Blk.f R 2
      have f3 := Blk.f R 3
      have f4 := Blk.f R 4
      have f5 := Blk.f R 5
      have f6 := Blk.f R 6
      have f7 := Blk.f R 7
      have f8 := Blk.f R 8
      have f9 := Blk.f R 9
      have f10 := Blk.f R 10
      have f11 := Blk.f R 11
      have f12 := Blk.f R 12
      have f13 := Blk.f R 13
      have hz : w.heap.size + 1 < w1.heap.size := R.lt
      have hz0 : w.heap.size < w1.heap.size := P.lt
      go_wp2_with fail
      refine bodyPost_ret (v := psv a1 a2 a3 n1 c1 n2 c2 n3 c3 { s with operand := x, phase := 2 }) (by simp [results, Try.results132, go_sem, hz, hz0, q0, q1, q2, q3, q4, q5, q6, q7, q8, q9, q10, q11, q12, q13]) rfl ⟨a3, c3, ?_, .inl ⟨rfl, rfl⟩, ?_⟩
      · rw [HL.out]
      · exact (by repeat (first | with_reducible exact Ext.refl _ | with_reducible exact E1 | with_reducible exact E1.old | with_reducible exact E1.old.old | with_reducible exact E1.old.old.old | (with_reducible refine Ext.alloc ?_ _) | (with_reducible refine Below.drew ?_) | (with_reducible refine below_drewN ?_ _) | (with_reducible refine ext_put ?_ _ ?_; rotate_left; (first | with_reducible exact Nat.le_refl _ | with_reducible exact Nat.le_succ _ | omega | (dsimp only; omega)))))
end Go.Proofs.Ytjfggepgjpdebaa

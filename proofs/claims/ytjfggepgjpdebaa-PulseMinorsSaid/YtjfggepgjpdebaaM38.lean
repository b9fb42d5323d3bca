import Derived.Test.YtjfggepgjpdebaaM37
import Derived.Test.YtjfggepgjpdebaaM26
import Derived.Test.YtjfggepgjpdebaaM9
set_option linter.unusedVariables false
set_option linter.unusedSimpArgs false
/- Contract: the reference of layer 5: Minors. -/
namespace Go.Proofs.Ytjfggepgjpdebaa
open Go.RowKit Go.Q
theorem IntsO.nm14 {W W3 : World} {lo hi m : Nat} {a : Option Addr} {ys : List Int} {x0 x1 x2 x3 x4 x5 x6 x7 x8 x9 x10 x11 x12 x13 : Value} (h : IntsO W lo hi a ys) (e : W3 = ((((((((((((((W.setCell ⟨m, 0, none⟩ x0).setCell ⟨m, 1, none⟩ x1).setCell ⟨m, 2, none⟩ x2).setCell ⟨m, 3, none⟩ x3).setCell ⟨m, 4, none⟩ x4).setCell ⟨m, 5, none⟩ x5).setCell ⟨m, 6, none⟩ x6).setCell ⟨m, 7, none⟩ x7).setCell ⟨m, 8, none⟩ x8).setCell ⟨m, 9, none⟩ x9).setCell ⟨m, 10, none⟩ x10).setCell ⟨m, 11, none⟩ x11).setCell ⟨m, 12, none⟩ x12).setCell ⟨m, 13, none⟩ x13)) (hm : lo ≤ m ∧ m < hi) : IntsO W3 lo hi a ys := by
  rw [e]
  exact (((((((((((((h.put hm x0).put hm x1).put hm x2).put hm x3).put hm x4).put hm x5).put hm x6).put hm x7).put hm x8).put hm x9).put hm x10).put hm x11).put hm x12).put hm x13
/-- the variable m holds the state t, whose lists lie in no block from lo on and below hi -/
def PuBox (w : World) (lo hi m : Nat) (t : Pu) : Prop := ∃ a1 k1 a2 k2 a3 k3, Blk w m #[.slice a1 t.store.length k1, .slice a2 t.tape.length k2, .int .i64 t.taken, .slice a3 t.printed.length k3, .int .i64 t.clock, .int .i64 t.at_, .int .i64 t.phase, .int .i64 t.order, .int .i64 t.operand, .int .i64 t.other, .int .i64 t.product, .int .i64 t.count, .int .i64 t.done, .int .i64 t.why] 41 ∧ IntsO w lo hi a1 t.store ∧ IntsO w lo hi a2 t.tape ∧ IntsO w lo hi a3 t.printed
theorem came_tape (s : Pu) (x : Int) : (cameP s x).tape = s.tape := by
  unfold cameP fetchP fromP toP countP finishP
  repeat' split
  all_goals rfl
theorem end_tape (c : Bool) (s : Pu) (x : Int) : (endP c x s).tape = s.tape := by
  unfold endP tickP
  repeat' split
  all_goals first | rfl | exact came_tape s x
theorem minorP_tape (s : Pu) : (minorP s).tape = s.tape := by
  have h1 : (storeP s).tape = s.tape := by unfold storeP; split <;> rfl
  have h2 : ∀ t : Pu, (multsP t).tape = t.tape := fun t => by unfold multsP; split <;> rfl
  unfold minorP
  split
  · rfl
  split
  · rfl
  rw [end_tape, h2, h1]
/-- a minor cycle's state is stored into the variable m -/
theorem box_minor {w w2 W3 : World} {lo hi m : Nat} {s : Pu} {a1 a2 a3 b1 b3 : Option Addr} {k2 d1 d3 : Nat} {c0 c1 c2 c3 c4 c5 c6 c7 c8 c9 c10 c11 c12 c13 : Value} {cs : Array Value}
    (hB : Blk w2 m cs 41) (hcs : cs = #[c0, c1, c2, c3, c4, c5, c6, c7, c8, c9, c10, c11, c12, c13])
    (r1 : Row w.heap.size a1 s.store w2 b1 (minorP s).store) (r3 : Row w.heap.size a3 s.printed w2 b3 (minorP s).printed) (i1 : IntsO w lo hi a1 s.store) (i2 : IntsO w lo hi a2 s.tape) (i3 : IntsO w lo hi a3 s.printed) (E : Ext w w2) (hhi : hi ≤ w.heap.size) (hm : lo ≤ m ∧ m < hi)
    (e : W3 = ((((((((((((((w2.setCell ⟨m, 0, none⟩ (.slice b1 (minorP s).store.length d1)).setCell ⟨m, 1, none⟩ (.slice a2 s.tape.length k2)).setCell ⟨m, 2, none⟩ (.int .i64 (minorP s).taken)).setCell ⟨m, 3, none⟩ (.slice b3 (minorP s).printed.length d3)).setCell ⟨m, 4, none⟩ (.int .i64 (minorP s).clock)).setCell ⟨m, 5, none⟩ (.int .i64 (minorP s).at_)).setCell ⟨m, 6, none⟩ (.int .i64 (minorP s).phase)).setCell ⟨m, 7, none⟩ (.int .i64 (minorP s).order)).setCell ⟨m, 8, none⟩ (.int .i64 (minorP s).operand)).setCell ⟨m, 9, none⟩ (.int .i64 (minorP s).other)).setCell ⟨m, 10, none⟩ (.int .i64 (minorP s).product)).setCell ⟨m, 11, none⟩ (.int .i64 (minorP s).count)).setCell ⟨m, 12, none⟩ (.int .i64 (minorP s).done)).setCell ⟨m, 13, none⟩ (.int .i64 (minorP s).why))) : PuBox W3 lo hi m (minorP s) := by
  subst hcs
  refine ⟨b1, d1, a2, k2, b3, d3, ?_, (r1.intsO i1 E hhi).nm14 e hm, ?_, (r3.intsO i3 E hhi).nm14 e hm⟩
  · rw [e, minorP_tape]
    exact hB.st14 _ _ _ _ _ _ _ _ _ _ _ _ _ _
  · rw [minorP_tape]
    exact (i2.ext E).nm14 e hm
set_option maxRecDepth 100000 in
set_option maxHeartbeats 8000000 in
theorem rminors_good (v : Value) (s : Pu) (n : Nat) (w : World) (h : PuAt w v s) (hz : (checkP s).2.2 = 0) (hn : n ≤ 20000) :
    Calls Try.prog 26 #[v, .int .i64 n] w (PuRes (minorsP n s, 0) w) := by
  have hv := valid_check hz
  have hb : PuBd s := ⟨by rw [hv.len]; decide, Nat.le_trans hv.tlen (by decide), Nat.le_trans hv.plen (by decide)⟩
  have hc := fun W (E : Ext w W) => rcheck5_any v s W (h.ext E) hb
  rw [checkP_zero hz] at hc
  unfold v3 at hc
  have hin : ∀ W, Calls Try.prog 67 #[.int .i64 n, .int .i64 0, .int .i64 20000] W fun e w' => e = .returned (.bool true) ∧ W = w' := fun W => by
    have h := rin5_any n 0 20000 W
    have e : inB (n : Int) 0 20000 = true := by simp [inB]; omega
    rw [e] at h
    exact h
  obtain ⟨a1, a2, a3, c1, c2, c3, rfl, i1, i2, i3⟩ := h
  have HV := Lib.hid hv
  clear hv hz hb
  go_enter Try.func26, Try.ntmps26
  go_wp2_with fail
  refine (hc _ (by repeat (first | with_reducible exact Ext.refl _ | with_reducible refine Ext.alloc ?_ _ | with_reducible refine Below.drew ?_))).mono ?_
  rintro e w1 ⟨rfl, E1⟩
  have P1 := Blk.of E1.old
  have R1 := Blk.of E1
  rw [World.size_alloc] at R1
  have F1 : Ext w w1 := E1.old.old
  have hB0 : PuBox w1 w.heap.size (w.heap.size + 2) w.heap.size s := ⟨_, _, _, _, _, _, P1, (IntsO.new i1 (Nat.le_refl _)).ext F1, (IntsO.new i2 (Nat.le_refl _)).ext F1, (IntsO.new i3 (Nat.le_refl _)).ext F1⟩
  have hs1 : w.heap.size + 2 ≤ w1.heap.size := by have := R1.lt; omega
  have HB0 := Lib.hid hB0
  clear hB0
  go_wp2_with fail
  refine (hin _).mono ?_
  rintro e wx ⟨rfl, rfl⟩
  go_wp2_with fail
  clear hc hin
  go_loopw [9] (fun i wr => ∃ k : Nat, k ≤ n ∧ i = .int .i64 k ∧ Ext w wr ∧ w.heap.size + 2 ≤ wr.heap.size ∧ PuBox wr w.heap.size (w.heap.size + 2) w.heap.size (minorsP k s) ∧ Blk wr (w.heap.size + 1) #[.slice none 0 0, .slice none 0 0, .int .i64 0, .slice none 0 0, .int .i64 0, .int .i64 0, .int .i64 0, .int .i64 0, .int .i64 0, .int .i64 0, .int .i64 0, .int .i64 0, .int .i64 0, .int .i64 0] 41) (fun i _ => n - (intOf i).toNat)
  case atStart => exact ⟨0, Nat.zero_le _, rfl, F1, hs1, HB0.out, R1⟩
  case round =>
    obtain ⟨k, hk, rfl, F, hsz, ⟨d1, e1, d2, e2, d3, e3, P, j1, j2, j3⟩, R⟩ := hrel
    have V := Lib.hid (minorsP_valid k HV.out)
    have RS := Lib.hid (minorsP_snoc' k s)
    generalize hT : minorsP k s = t at *
    have HT := Lib.hid hT
    clear hT
    have hz0 : w.heap.size < wr.heap.size := by omega
    have hz : w.heap.size + 1 < wr.heap.size := by omega
    have u0 := Blk.c P 0 (v := .slice d1 t.store.length e1) rfl
    have u1 := Blk.c P 1 (v := .slice d2 t.tape.length e2) rfl
    have u2 := Blk.c P 2 (v := .int .i64 t.taken) rfl
    have u3 := Blk.c P 3 (v := .slice d3 t.printed.length e3) rfl
    have u4 := Blk.c P 4 (v := .int .i64 t.clock) rfl
    have u5 := Blk.c P 5 (v := .int .i64 t.at_) rfl
    have u6 := Blk.c P 6 (v := .int .i64 t.phase) rfl
    have u7 := Blk.c P 7 (v := .int .i64 t.order) rfl
    have u8 := Blk.c P 8 (v := .int .i64 t.operand) rfl
    have u9 := Blk.c P 9 (v := .int .i64 t.other) rfl
    have u10 := Blk.c P 10 (v := .int .i64 t.product) rfl
    have u11 := Blk.c P 11 (v := .int .i64 t.count) rfl
    have u12 := Blk.c P 12 (v := .int .i64 t.done) rfl
    have u13 := Blk.c P 13 (v := .int .i64 t.why) rfl
    by_cases hlt : k < n
    · have hltz : (k : Int) < (n : Int) := by omega
      have hmn := fun W (E : Ext wr W) => rminor_any d1 d2 d3 e1 e2 e3 t W V.out (j1.at_.ext E) (j2.at_.ext E) (j3.at_.ext E)
      rw [← V.out.len] at hmn
      go_wp2_with fail
      refine (hmn _ (Ext.refl _)).mono ?_
      rintro e w2 ⟨b1, m1, b3, m3, rfl, r1, r3, E2⟩
      have P2 := P.ex E2
      have R2 := R.ex E2
      have F2 := F.comp E2
      clear hmn u0 u1 u2 u3 u4 u5 u6 u7 u8 u9 u10 u11 u12 u13 hz0 hz
      have u0 := Blk.c P2 0 (v := .slice d1 t.store.length e1) rfl
      have u1 := Blk.c P2 1 (v := .slice d2 t.tape.length e2) rfl
      have u2 := Blk.c P2 2 (v := .int .i64 t.taken) rfl
      have u3 := Blk.c P2 3 (v := .slice d3 t.printed.length e3) rfl
      have u4 := Blk.c P2 4 (v := .int .i64 t.clock) rfl
      have u5 := Blk.c P2 5 (v := .int .i64 t.at_) rfl
      have u6 := Blk.c P2 6 (v := .int .i64 t.phase) rfl
      have u7 := Blk.c P2 7 (v := .int .i64 t.order) rfl
      have u8 := Blk.c P2 8 (v := .int .i64 t.operand) rfl
      have u9 := Blk.c P2 9 (v := .int .i64 t.other) rfl
      have u10 := Blk.c P2 10 (v := .int .i64 t.product) rfl
      have u11 := Blk.c P2 11 (v := .int .i64 t.count) rfl
      have u12 := Blk.c P2 12 (v := .int .i64 t.done) rfl
      have u13 := Blk.c P2 13 (v := .int .i64 t.why) rfl
      have g0 := Blk.f P2 0
      have g1 := Blk.f P2 1
      have g2 := Blk.f P2 2
      have g3 := Blk.f P2 3
      have g4 := Blk.f P2 4
      have g5 := Blk.f P2 5
      have g6 := Blk.f P2 6
      have g7 := Blk.f P2 7
      have g8 := Blk.f P2 8
      have g9 := Blk.f P2 9
      have g10 := Blk.f P2 10
      have g11 := Blk.f P2 11
      have g12 := Blk.f P2 12
      have g13 := Blk.f P2 13
      have hz2 : w.heap.size + 2 ≤ w2.heap.size := by have := E2.size; omega
      have hres := fun W3 (e : W3 = _) => box_minor (W3 := W3) (lo := w.heap.size) (hi := w.heap.size + 2) (m := w.heap.size) (d1 := m1) (k2 := e2) (d3 := m3) P2 rfl r1 r3 j1 j2 j3 E2 hsz ⟨Nat.le_refl _, by omega⟩ e
      have Hres := Lib.hid hres
      clear hres
      go_wp2_with fail
      go_roundw
      case measure => simp [intOf]; omega
      case rel =>
        refine ⟨k + 1, by omega, by go_num, (by repeat (first | with_reducible exact Ext.refl _ | with_reducible exact F2 | with_reducible exact F2.old | with_reducible exact F2.old.old | with_reducible exact F2.old.old.old | (with_reducible refine Ext.alloc ?_ _) | (with_reducible refine Below.drew ?_) | (with_reducible refine below_drewN ?_ _) | (with_reducible refine ext_put ?_ _ ?_; rotate_left; (first | with_reducible exact Nat.le_refl _ | with_reducible exact Nat.le_succ _ | omega | (dsimp only; omega))))), by simp only [World.size_setCell]; exact hz2, ?_, R2.ot14 (by omega) _ _ _ _ _ _ _ _ _ _ _ _ _ _⟩
        rw [RS.out]
        exact Hres.out _ rfl
    · have hltz : ¬ (k : Int) < (n : Int) := by omega
      have hkn : k = n := by omega
      have q0 := Blk.c R 0 (v := .slice none 0 0) rfl
      have q1 := Blk.c R 1 (v := .slice none 0 0) rfl
      have q2 := Blk.c R 2 (v := .int .i64 0) rfl
      have q3 := Blk.c R 3 (v := .slice none 0 0) rfl
      have q4 := Blk.c R 4 (v := .int .i64 0) rfl
      have q5 := Blk.c R 5 (v := .int .i64 0) rfl
      have q6 := Blk.c R 6 (v := .int .i64 0) rfl
      have q7 := Blk.c R 7 (v := .int .i64 0) rfl
      have q8 := Blk.c R 8 (v := .int .i64 0) rfl
      have q9 := Blk.c R 9 (v := .int .i64 0) rfl
      have q10 := Blk.c R 10 (v := .int .i64 0) rfl
      have q11 := Blk.c R 11 (v := .int .i64 0) rfl
      have q12 := Blk.c R 12 (v := .int .i64 0) rfl
      have q13 := Blk.c R 13 (v := .int .i64 0) rfl
      have f0 := Blk.f R 0
      have f1 := Blk.f R 1
      have f2 := Blk.f R 2
      have f3 := Blk.f R 3
      have f4 := Blk.f R 4
      have f5 := Blk.f R 5
      have f6 := Blk.f R 6
      have f7 := Blk.f R 7
      have f8 := Blk.f R 8
      have f9 := Blk.f R 9
      have f10 := Blk.f R 10
      have f11 := Blk.f R 11
      have f12 := Blk.f R 12
      have f13 := Blk.f R 13
      have hx : minorsP n s = t := by rw [← hkn]; exact HT.out
      have HX := Lib.hid hx
      clear hx hkn
      go_wp2_with fail
      refine bodyPost_ret (v := .tuple #[psv d1 d2 d3 t.store.length e1 t.tape.length e2 t.printed.length e3 t, .int .i64 0]) (by simp [results, Try.results26, go_sem, hz, hz0, q0, q1, q2, q3, q4, q5, q6, q7, q8, q9, q10, q11, q12, q13]) rfl ?_
      rw [HX.out]
      refine ⟨_, rfl, ?_, (by repeat (first | with_reducible exact Ext.refl _ | with_reducible exact F | with_reducible exact F.old | with_reducible exact F.old.old | with_reducible exact F.old.old.old | (with_reducible refine Ext.alloc ?_ _) | (with_reducible refine Below.drew ?_) | (with_reducible refine below_drewN ?_ _) | (with_reducible refine ext_put ?_ _ ?_; rotate_left; (first | with_reducible exact Nat.le_refl _ | with_reducible exact Nat.le_succ _ | omega | (dsimp only; omega)))))⟩
      refine PuO.at_ (lo := w.heap.size) (hi := w.heap.size + 2) ⟨d1, d2, d3, e1, e2, e3, rfl, ?_, ?_, ?_⟩
      · exact (show IntsO _ _ _ _ _ from j1.nm14 (m := w.heap.size + 1) rfl ⟨by omega, by omega⟩)
      · exact (show IntsO _ _ _ _ _ from j2.nm14 (m := w.heap.size + 1) rfl ⟨by omega, by omega⟩)
      · exact (show IntsO _ _ _ _ _ from j3.nm14 (m := w.heap.size + 1) rfl ⟨by omega, by omega⟩)
set_option maxRecDepth 100000 in
set_option maxHeartbeats 4000000 in
theorem rminors_bad (v : Value) (s : Pu) (many : Int) (w : World) (h : PuAt w v s) (hb : PuBd s) (he : (minorsE s many).2 ≠ 0) :
    Calls Try.prog 26 #[v, .int .i64 many] w (PuRes (minorsE s many) w) := by
  have hc := fun W (E : Ext w W) => rcheck5_any v s W (h.ext E) hb
  have hin := fun W => rin5_any many 0 20000 W
  obtain ⟨a1, a2, a3, c1, c2, c3, rfl, _, _, _⟩ := h
  have e : minorsE s many = if (checkP s).2.2 ≠ 0 then (zpu, (checkP s).2.2) else if inB many 0 20000 = true then (minorsP many.toNat s, 0) else (zpu, 7) := rfl
  generalize checkP s = p at *
  obtain ⟨p, i, er⟩ := p
  unfold v3 at hc
  dsimp only at e hc
  by_cases hz : er = 0
  · subst hz
    rw [if_neg (by decide)] at e
    cases hm : inB many 0 20000 with
    | true => rw [hm, if_pos rfl] at e; rw [e] at he; exact absurd rfl he
    | false =>
      rw [hm, if_neg (by decide)] at e
      rw [e]
      rw [hm] at hin
      clear e he hm hb
      go_enter Try.func26, Try.ntmps26
      go_wp2_with fail
      refine (hc _ (by repeat (first | with_reducible exact Ext.refl _ | with_reducible refine Ext.alloc ?_ _ | with_reducible refine Below.drew ?_))).mono ?_
      rintro e w1 ⟨rfl, E1⟩
      have R := Blk.of E1
      rw [World.size_alloc] at R
      have q0 := Blk.c R 0 (v := .slice none 0 0) rfl
      have q1 := Blk.c R 1 (v := .slice none 0 0) rfl
      have q2 := Blk.c R 2 (v := .int .i64 0) rfl
      have q3 := Blk.c R 3 (v := .slice none 0 0) rfl
      have q4 := Blk.c R 4 (v := .int .i64 0) rfl
      have q5 := Blk.c R 5 (v := .int .i64 0) rfl
      have q6 := Blk.c R 6 (v := .int .i64 0) rfl
      have q7 := Blk.c R 7 (v := .int .i64 0) rfl
      have q8 := Blk.c R 8 (v := .int .i64 0) rfl
      have q9 := Blk.c R 9 (v := .int .i64 0) rfl
      have q10 := Blk.c R 10 (v := .int .i64 0) rfl
      have q11 := Blk.c R 11 (v := .int .i64 0) rfl
      have q12 := Blk.c R 12 (v := .int .i64 0) rfl
      have q13 := Blk.c R 13 (v := .int .i64 0) rfl
      have f0 := Blk.f R 0
      have f1 := Blk.f R 1
      have f2 := Blk.f R 2
      have f3 := Blk.f R 3
      have f4 := Blk.f R 4
      have f5 := Blk.f R 5
      have f6 := Blk.f R 6
      have f7 := Blk.f R 7
      have f8 := Blk.f R 8
      have f9 := Blk.f R 9
      have f10 := Blk.f R 10
      have f11 := Blk.f R 11
      have f12 := Blk.f R 12
      have f13 := Blk.f R 13
      have hz0 := R.lt
      go_wp2_with fail
      refine (hin _).mono ?_
      rintro e wx ⟨rfl, rfl⟩
      go_wp2_with fail
      refine bodyPost_ret (v := .tuple #[zpv, .int .i64 7]) (by simp [results, Try.results26, go_sem, hz0, q0, q1, q2, q3, q4, q5, q6, q7, q8, q9, q10, q11, q12, q13]) rfl ?_
      exact zpu_res 7 (by repeat (first | with_reducible exact Ext.refl _ | with_reducible exact E1 | with_reducible exact E1.old | with_reducible exact E1.old.old | with_reducible exact E1.old.old.old | (with_reducible refine Ext.alloc ?_ _) | (with_reducible refine Below.drew ?_) | (with_reducible refine below_drewN ?_ _) | (with_reducible refine ext_put ?_ _ ?_; rotate_left; (first | with_reducible exact Nat.le_refl _ | with_reducible exact Nat.le_succ _ | omega | (dsimp only; omega)))))
  · rw [if_pos hz] at e
    rw [e]
    have hz' : (er == 0) = false := by simpa using hz
    have hz2 : (er != 0) = true := by simpa using hz
    clear e he hz hb
    go_enter Try.func26, Try.ntmps26
    go_wp2_with fail
    refine (hc _ (by repeat (first | with_reducible exact Ext.refl _ | with_reducible refine Ext.alloc ?_ _ | with_reducible refine Below.drew ?_))).mono ?_
    rintro e w1 ⟨rfl, E1⟩
    have R := Blk.of E1
    rw [World.size_alloc] at R
    have q0 := Blk.c R 0 (v := .slice none 0 0) rfl
    have q1 := Blk.c R 1 (v := .slice none 0 0) rfl
    have q2 := Blk.c R 2 (v := .int .i64 0) rfl
    have q3 := Blk.c R 3 (v := .slice none 0 0) rfl
    have q4 := Blk.c R 4 (v := .int .i64 0) rfl
    have q5 := Blk.c R 5 (v := .int .i64 0) rfl
    have q6 := Blk.c R 6 (v := .int .i64 0) rfl
    have q7 := Blk.c R 7 (v := .int .i64 0) rfl
    have q8 := Blk.c R 8 (v := .int .i64 0) rfl
    have q9 := Blk.c R 9 (v := .int .i64 0) rfl
    have q10 := Blk.c R 10 (v := .int .i64 0) rfl
    have q11 := Blk.c R 11 (v := .int .i64 0) rfl
    have q12 := Blk.c R 12 (v := .int .i64 0) rfl
    have q13 := Blk.c R 13 (v := .int .i64 0) rfl
    have f0 := Blk.f R 0
    have f1 := Blk.f R 1
    have f2 := Blk.f R 2
    have f3 := Blk.f R 3
    have f4 := Blk.f R 4
    have f5 := Blk.f R 5
    have f6 := Blk.f R 6
    have f7 := Blk.f R 7
    have f8 := Blk.f R 8
    have f9 := Blk.f R 9
    have f10 := Blk.f R 10
    have f11 := Blk.f R 11
    have f12 := Blk.f R 12
    have f13 := Blk.f R 13
    have hz0 := R.lt
    go_wp2_with fail
    refine bodyPost_ret (v := .tuple #[zpv, .int .i64 er]) (by simp [results, Try.results26, go_sem, hz0, q0, q1, q2, q3, q4, q5, q6, q7, q8, q9, q10, q11, q12, q13]) rfl ?_
    exact zpu_res er (by repeat (first | with_reducible exact Ext.refl _ | with_reducible exact E1 | with_reducible exact E1.old | with_reducible exact E1.old.old | with_reducible exact E1.old.old.old | (with_reducible refine Ext.alloc ?_ _) | (with_reducible refine Below.drew ?_) | (with_reducible refine below_drewN ?_ _) | (with_reducible refine ext_put ?_ _ ?_; rotate_left; (first | with_reducible exact Nat.le_refl _ | with_reducible exact Nat.le_succ _ | omega | (dsimp only; omega)))))
theorem rminors_any (v : Value) (s : Pu) (many : Int) (w : World) (h : PuAt w v s) (hb : PuBd s) : Calls Try.prog 26 #[v, .int .i64 many] w (PuRes (minorsE s many) w) := by
  by_cases he : (minorsE s many).2 = 0
  · have e : minorsE s many = if (checkP s).2.2 ≠ 0 then (zpu, (checkP s).2.2) else if inB many 0 20000 = true then (minorsP many.toNat s, 0) else (zpu, 7) := rfl
    by_cases hz : (checkP s).2.2 = 0
    · rw [if_neg (by omega)] at e
      cases hm : inB many 0 20000 with
      | true =>
        rw [hm, if_pos rfl] at e
        rw [e]
        obtain ⟨m0, m1⟩ := inB_bd hm
        obtain ⟨n, rfl⟩ := Int.eq_ofNat_of_zero_le m0
        rw [Int.toNat_natCast]
        exact rminors_good v s n w h hz (by omega)
      | false => rw [hm, if_neg (by decide)] at e; rw [e] at he; exact absurd he (by decide)
    · rw [if_pos hz] at e; rw [e] at he; exact absurd he hz
  · exact rminors_bad v s many w h hb he
end Go.Proofs.Ytjfggepgjpdebaa
/- Contract: the reference of layer 5: Until. -/
namespace Go.Proofs.Ytjfggepgjpdebaa
open Go.RowKit Go.Q
set_option maxRecDepth 100000 in
set_option maxHeartbeats 8000000 in
theorem runtil_good (v : Value) (s : Pu) (w : World) (h : PuAt w v s) (hz : (checkP s).2.2 = 0) (hy : s.why = 0) :
    Calls Try.prog 29 #[v] w fun e w' => e = .returned (v2i (((untilP s : Nat) : Int), 0)) ∧ Ext w w' := by
  have hv := valid_check hz
  have hb : PuBd s := ⟨by rw [hv.len]; decide, Nat.le_trans hv.tlen (by decide), Nat.le_trans hv.plen (by decide)⟩
  have hc := fun W (E : Ext w W) => rcheck5_any v s W (h.ext E) hb
  rw [checkP_zero hz] at hc
  unfold v3 at hc
  obtain ⟨a1, a2, a3, c1, c2, c3, rfl, i1, i2, i3⟩ := h
  have HV := Lib.hid hv
  have Hy := Lib.hid hy
  have hy0 : (s.why != 0) = false := by simpa using hy
  have hub := untilP_bd hv
  clear hv hz hb hy
  go_enter Try.func29, Try.ntmps29
  go_wp2_with fail
  refine (hc _ (by repeat (first | with_reducible exact Ext.refl _ | with_reducible refine Ext.alloc ?_ _ | with_reducible refine Below.drew ?_))).mono ?_
  rintro e w1 ⟨rfl, E1⟩
  have P1 := Blk.of E1
  have F1 : Ext w w1 := E1.old
  have u0 := Blk.c P1 0 (v := .slice a1 s.store.length c1) rfl
  have u1 := Blk.c P1 1 (v := .slice a2 s.tape.length c2) rfl
  have u2 := Blk.c P1 2 (v := .int .i64 s.taken) rfl
  have u3 := Blk.c P1 3 (v := .slice a3 s.printed.length c3) rfl
  have u4 := Blk.c P1 4 (v := .int .i64 s.clock) rfl
  have u5 := Blk.c P1 5 (v := .int .i64 s.at_) rfl
  have u6 := Blk.c P1 6 (v := .int .i64 s.phase) rfl
  have u7 := Blk.c P1 7 (v := .int .i64 s.order) rfl
  have u8 := Blk.c P1 8 (v := .int .i64 s.operand) rfl
  have u9 := Blk.c P1 9 (v := .int .i64 s.other) rfl
  have u10 := Blk.c P1 10 (v := .int .i64 s.product) rfl
  have u11 := Blk.c P1 11 (v := .int .i64 s.count) rfl
  have u12 := Blk.c P1 12 (v := .int .i64 s.done) rfl
  have u13 := Blk.c P1 13 (v := .int .i64 s.why) rfl
  have hs0 : w.heap.size < w1.heap.size := P1.lt
  generalize hu : untilP s = n at *
  have Hu := Lib.hid hu
  clear hu
  have X1 : Ext w (w1.alloc (.cells #[.slice a1 s.store.length c1, .slice a2 s.tape.length c2, .int .i64 s.taken, .slice a3 s.printed.length c3, .int .i64 s.clock, .int .i64 s.at_, .int .i64 s.phase, .int .i64 s.order, .int .i64 s.operand, .int .i64 s.other, .int .i64 s.product, .int .i64 s.count, .int .i64 s.done, .int .i64 s.why] 41)) := F1.alloc _
  have hB0 : PuBox (w1.alloc (.cells #[.slice a1 s.store.length c1, .slice a2 s.tape.length c2, .int .i64 s.taken, .slice a3 s.printed.length c3, .int .i64 s.clock, .int .i64 s.at_, .int .i64 s.phase, .int .i64 s.order, .int .i64 s.operand, .int .i64 s.other, .int .i64 s.product, .int .i64 s.count, .int .i64 s.done, .int .i64 s.why] 41)) w.heap.size (w1.heap.size + 1) w1.heap.size s :=
    ⟨_, _, _, _, _, _, Blk.nw w1 _ _, ((IntsO.new i1 (Nat.le_refl _)).ext F1).ext ((Ext.refl w1).alloc _), ((IntsO.new i2 (Nat.le_refl _)).ext F1).ext ((Ext.refl w1).alloc _), ((IntsO.new i3 (Nat.le_refl _)).ext F1).ext ((Ext.refl w1).alloc _)⟩
  have HB0 := Lib.hid hB0
  have hP0 : Blk (w1.alloc (.cells #[.slice a1 s.store.length c1, .slice a2 s.tape.length c2, .int .i64 s.taken, .slice a3 s.printed.length c3, .int .i64 s.clock, .int .i64 s.at_, .int .i64 s.phase, .int .i64 s.order, .int .i64 s.operand, .int .i64 s.other, .int .i64 s.product, .int .i64 s.count, .int .i64 s.done, .int .i64 s.why] 41)) w.heap.size _ _ := P1.al _
  have HP0 := Lib.hid hP0
  clear hB0 hP0
  go_wp2_with fail
  go_loopw [7] (fun i wr => ∃ k : Nat, k ≤ n ∧ i = .int .i64 k ∧ Ext w wr ∧ w1.heap.size + 1 ≤ wr.heap.size ∧ PuBox wr w.heap.size (w1.heap.size + 1) w1.heap.size (minorsP k s) ∧ Blk wr w.heap.size #[.slice a1 s.store.length c1, .slice a2 s.tape.length c2, .int .i64 s.taken, .slice a3 s.printed.length c3, .int .i64 s.clock, .int .i64 s.at_, .int .i64 s.phase, .int .i64 s.order, .int .i64 s.operand, .int .i64 s.other, .int .i64 s.product, .int .i64 s.count, .int .i64 s.done, .int .i64 s.why] 41) (fun i _ => n - (intOf i).toNat)
  case atStart => exact ⟨0, Nat.zero_le _, rfl, X1, by simp, HB0.out, HP0.out⟩
  case round =>
    obtain ⟨k, hk, rfl, F, hsz, ⟨d1, e1, d2, e2, d3, e3, P, j1, j2, j3⟩, S⟩ := hrel
    have V := Lib.hid (minorsP_valid k HV.out)
    have RS := Lib.hid (minorsP_snoc' k s)
    have hend := until_end HV.out Hy.out
    have hlaw := until_law (s := s) k HV.out Hy.out
    rw [Hu.out] at hend hlaw
    generalize hT : minorsP k s = t at *
    have HT := Lib.hid hT
    clear hT
    have hz0 : w.heap.size < wr.heap.size := by omega
    have hz : w1.heap.size < wr.heap.size := by omega
    have u0 := Blk.c P 0 (v := .slice d1 t.store.length e1) rfl
    have u1 := Blk.c P 1 (v := .slice d2 t.tape.length e2) rfl
    have u2 := Blk.c P 2 (v := .int .i64 t.taken) rfl
    have u3 := Blk.c P 3 (v := .slice d3 t.printed.length e3) rfl
    have u4 := Blk.c P 4 (v := .int .i64 t.clock) rfl
    have u5 := Blk.c P 5 (v := .int .i64 t.at_) rfl
    have u6 := Blk.c P 6 (v := .int .i64 t.phase) rfl
    have u7 := Blk.c P 7 (v := .int .i64 t.order) rfl
    have u8 := Blk.c P 8 (v := .int .i64 t.operand) rfl
    have u9 := Blk.c P 9 (v := .int .i64 t.other) rfl
    have u10 := Blk.c P 10 (v := .int .i64 t.product) rfl
    have u11 := Blk.c P 11 (v := .int .i64 t.count) rfl
    have u12 := Blk.c P 12 (v := .int .i64 t.done) rfl
    have u13 := Blk.c P 13 (v := .int .i64 t.why) rfl
    have s6 := Blk.c S 6 (v := .int .i64 s.phase) rfl
    by_cases hlt : k < n
    · obtain ⟨q1, q2, q3, q4⟩ := hlaw hlt
      clear q3 q4
      rw [q1] at u6
      rw [q2] at u13
      have hmn := fun W (E : Ext wr W) => rminor_any d1 d2 d3 e1 e2 e3 t W V.out (j1.at_.ext E) (j2.at_.ext E) (j3.at_.ext E)
      rw [← V.out.len] at hmn
      simp only [psv, q1, q2] at hmn
      have hhi : w1.heap.size + 1 ≤ wr.heap.size := hsz
      have hlo : w.heap.size ≤ w1.heap.size := Nat.le_of_lt hs0
      clear hend hlaw q1 q2
      go_wp2_with fail
      refine (hmn _ (Ext.refl _)).mono ?_
      rintro e w2 ⟨b1, m1, b3, m3, rfl, r1, r3, E2⟩
      have P2 := P.ex E2
      have S2 := S.ex E2
      have F2 := F.comp E2
      clear hmn u0 u1 u2 u3 u4 u5 u6 u7 u8 u9 u10 u11 u12 u13 hz0 hz s6
      have u0 := Blk.c P2 0 (v := .slice d1 t.store.length e1) rfl
      have u1 := Blk.c P2 1 (v := .slice d2 t.tape.length e2) rfl
      have u2 := Blk.c P2 2 (v := .int .i64 t.taken) rfl
      have u3 := Blk.c P2 3 (v := .slice d3 t.printed.length e3) rfl
      have u4 := Blk.c P2 4 (v := .int .i64 t.clock) rfl
      have u5 := Blk.c P2 5 (v := .int .i64 t.at_) rfl
      have u6 := Blk.c P2 6 (v := .int .i64 t.phase) rfl
      have u7 := Blk.c P2 7 (v := .int .i64 t.order) rfl
      have u8 := Blk.c P2 8 (v := .int .i64 t.operand) rfl
      have u9 := Blk.c P2 9 (v := .int .i64 t.other) rfl
      have u10 := Blk.c P2 10 (v := .int .i64 t.product) rfl
      have u11 := Blk.c P2 11 (v := .int .i64 t.count) rfl
      have u12 := Blk.c P2 12 (v := .int .i64 t.done) rfl
      have u13 := Blk.c P2 13 (v := .int .i64 t.why) rfl
      have g0 := Blk.f P2 0
      have g1 := Blk.f P2 1
      have g2 := Blk.f P2 2
      have g3 := Blk.f P2 3
      have g4 := Blk.f P2 4
      have g5 := Blk.f P2 5
      have g6 := Blk.f P2 6
      have g7 := Blk.f P2 7
      have g8 := Blk.f P2 8
      have g9 := Blk.f P2 9
      have g10 := Blk.f P2 10
      have g11 := Blk.f P2 11
      have g12 := Blk.f P2 12
      have g13 := Blk.f P2 13
      have hz2 : w1.heap.size + 1 ≤ w2.heap.size := by have := E2.size; omega
      have hres := fun W3 (e : W3 = _) => box_minor (W3 := W3) (lo := w.heap.size) (hi := w1.heap.size + 1) (m := w1.heap.size) (d1 := m1) (k2 := e2) (d3 := m3) P2 rfl r1 r3 j1 j2 j3 E2 hhi ⟨hlo, by omega⟩ e
      have Hres := Lib.hid hres
      clear hres
      go_wp2_with fail
      go_roundw
      case measure => simp [intOf]; omega
      case rel =>
        refine ⟨k + 1, by omega, by go_num, (by repeat (first | with_reducible exact Ext.refl _ | with_reducible exact F2 | with_reducible exact F2.old | with_reducible exact F2.old.old | with_reducible exact F2.old.old.old | (with_reducible refine Ext.alloc ?_ _) | (with_reducible refine Below.drew ?_) | (with_reducible refine below_drewN ?_ _) | (with_reducible refine ext_put ?_ _ ?_; rotate_left; (first | with_reducible exact Nat.le_refl _ | with_reducible exact Nat.le_succ _ | omega | (dsimp only; omega))))), by simp only [World.size_setCell]; exact hz2, ?_, S2.ot14 (by omega) _ _ _ _ _ _ _ _ _ _ _ _ _ _⟩
        rw [RS.out]
        exact Hres.out _ rfl
    · have hkn : k = n := by omega
      rw [← hkn, HT.out] at hend
      have HK := Lib.hid hkn
      clear hlaw hkn
      by_cases hp : t.phase = s.phase
      · have hw4 : ¬ t.why = 0 := hend.resolve_left (fun c => c hp)
        have bp : (t.phase == s.phase) = true := by simpa using hp
        have bw : (t.why == 0) = false := by simpa using hw4
        clear hend hp hw4
        go_wp2_with fail
        go_ret2
        exact ⟨ret_int2 (by have := HK.out; have := Hu.out; omega) rfl, (by repeat (first | with_reducible exact Ext.refl _ | with_reducible exact F | with_reducible exact F.old | with_reducible exact F.old.old | with_reducible exact F.old.old.old | (with_reducible refine Ext.alloc ?_ _) | (with_reducible refine Below.drew ?_) | (with_reducible refine below_drewN ?_ _) | (with_reducible refine ext_put ?_ _ ?_; rotate_left; (first | with_reducible exact Nat.le_refl _ | with_reducible exact Nat.le_succ _ | omega | (dsimp only; omega)))))⟩
      · have bp : (t.phase == s.phase) = false := by simpa using hp
        clear hend hp
        go_wp2_with fail
        go_ret2
        exact ⟨ret_int2 (by have := HK.out; have := Hu.out; omega) rfl, (by repeat (first | with_reducible exact Ext.refl _ | with_reducible exact F | with_reducible exact F.old | with_reducible exact F.old.old | with_reducible exact F.old.old.old | (with_reducible refine Ext.alloc ?_ _) | (with_reducible refine Below.drew ?_) | (with_reducible refine below_drewN ?_ _) | (with_reducible refine ext_put ?_ _ ?_; rotate_left; (first | with_reducible exact Nat.le_refl _ | with_reducible exact Nat.le_succ _ | omega | (dsimp only; omega)))))⟩
set_option maxRecDepth 100000 in
set_option maxHeartbeats 4000000 in
theorem runtil_bad (v : Value) (s : Pu) (w : World) (h : PuAt w v s) (hb : PuBd s) (he : (untilE s).2 ≠ 0) :
    Calls Try.prog 29 #[v] w fun e w' => e = .returned (v2i (untilE s)) ∧ Ext w w' := by
  have hc := fun W (E : Ext w W) => rcheck5_any v s W (h.ext E) hb
  obtain ⟨a1, a2, a3, c1, c2, c3, rfl, _, _, _⟩ := h
  have e : untilE s = if (checkP s).2.2 ≠ 0 then (0, (checkP s).2.2) else if s.why ≠ 0 then (0, 9) else (((untilP s : Nat) : Int), 0) := rfl
  generalize checkP s = p at *
  obtain ⟨p, i, er⟩ := p
  unfold v3 at hc
  dsimp only at e hc
  by_cases hz : er = 0
  · subst hz
    rw [if_neg (by decide)] at e
    by_cases hy : s.why ≠ 0
    · rw [if_pos hy] at e
      rw [e]
      have hy' : (s.why != 0) = true := by simpa using hy
      clear e he hy hb
      go_enter Try.func29, Try.ntmps29
      go_wp2_with fail
      refine (hc _ (by repeat (first | with_reducible exact Ext.refl _ | with_reducible refine Ext.alloc ?_ _ | with_reducible refine Below.drew ?_))).mono ?_
      rintro e w1 ⟨rfl, E1⟩
      have P1 := Blk.of E1
      have u0 := Blk.c P1 0 (v := .slice a1 s.store.length c1) rfl
      have u1 := Blk.c P1 1 (v := .slice a2 s.tape.length c2) rfl
      have u2 := Blk.c P1 2 (v := .int .i64 s.taken) rfl
      have u3 := Blk.c P1 3 (v := .slice a3 s.printed.length c3) rfl
      have u4 := Blk.c P1 4 (v := .int .i64 s.clock) rfl
      have u5 := Blk.c P1 5 (v := .int .i64 s.at_) rfl
      have u6 := Blk.c P1 6 (v := .int .i64 s.phase) rfl
      have u7 := Blk.c P1 7 (v := .int .i64 s.order) rfl
      have u8 := Blk.c P1 8 (v := .int .i64 s.operand) rfl
      have u9 := Blk.c P1 9 (v := .int .i64 s.other) rfl
      have u10 := Blk.c P1 10 (v := .int .i64 s.product) rfl
      have u11 := Blk.c P1 11 (v := .int .i64 s.count) rfl
      have u12 := Blk.c P1 12 (v := .int .i64 s.done) rfl
      have u13 := Blk.c P1 13 (v := .int .i64 s.why) rfl
      have hs0 := P1.lt
      go_wp2_with fail
      go_ret2
      exact ⟨rfl, (by repeat (first | with_reducible exact Ext.refl _ | with_reducible exact E1 | with_reducible exact E1.old | with_reducible exact E1.old.old | with_reducible exact E1.old.old.old | (with_reducible refine Ext.alloc ?_ _) | (with_reducible refine Below.drew ?_) | (with_reducible refine below_drewN ?_ _) | (with_reducible refine ext_put ?_ _ ?_; rotate_left; (first | with_reducible exact Nat.le_refl _ | with_reducible exact Nat.le_succ _ | omega | (dsimp only; omega)))))⟩
    · rw [if_neg hy] at e; rw [e] at he; exact absurd rfl he
  · rw [if_pos hz] at e
    rw [e]
    have hz' : (er == 0) = false := by simpa using hz
    have hz2 : (er != 0) = true := by simpa using hz
    clear e he hz hb
    go_enter Try.func29, Try.ntmps29
    go_wp2_with fail
    refine (hc _ (by repeat (first | with_reducible exact Ext.refl _ | with_reducible refine Ext.alloc ?_ _ | with_reducible refine Below.drew ?_))).mono ?_
    rintro e w1 ⟨rfl, E1⟩
    go_wp2_with fail
    go_ret2
    exact ⟨rfl, (by repeat (first | with_reducible exact Ext.refl _ | with_reducible exact E1 | with_reducible exact E1.old | with_reducible exact E1.old.old | with_reducible exact E1.old.old.old | (with_reducible refine Ext.alloc ?_ _) | (with_reducible refine Below.drew ?_) | (with_reducible refine below_drewN ?_ _) | (with_reducible refine ext_put ?_ _ ?_; rotate_left; (first | with_reducible exact Nat.le_refl _ | with_reducible exact Nat.le_succ _ | omega | (dsimp only; omega)))))⟩
theorem runtil_any (v : Value) (s : Pu) (w : World) (h : PuAt w v s) (hb : PuBd s) : Calls Try.prog 29 #[v] w fun e w' => e = .returned (v2i (untilE s)) ∧ Ext w w' := by
  by_cases he : (untilE s).2 = 0
  · have e : untilE s = if (checkP s).2.2 ≠ 0 then (0, (checkP s).2.2) else if s.why ≠ 0 then (0, 9) else (((untilP s : Nat) : Int), 0) := rfl
    by_cases hz : (checkP s).2.2 = 0
    · rw [if_neg (by omega)] at e
      by_cases hy : s.why = 0
      · rw [if_neg (by omega)] at e
        rw [e]
        exact runtil_good v s w h hz hy
      · rw [if_pos hy] at e; rw [e] at he; exact absurd he (by decide)
    · rw [if_pos hz] at e; rw [e] at he; exact absurd he hz
  · exact runtil_bad v s w h hb he
end Go.Proofs.Ytjfggepgjpdebaa

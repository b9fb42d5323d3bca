import Derived.Deep.QuietTactic
import Derived.BigQuiet
import Derived.Deep.RegionLaw
import Derived.Deep.DeepCutAuto
import Derived.Test.YtjfggepgjpdebaaM9
import Derived.Test.YtjfggepgjpdebaaM36
set_option linter.unusedVariables false
set_option linter.unusedSimpArgs false
/- Contract: the reference of layer 5: Result. -/
namespace Go.Proofs.Ytjfggepgjpdebaa
open Go.RowKit Go.Q
theorem floor_mod {p q r d m : Int} (hp : p = 8388608 * q + r) (h1 : r < 8388608) (h2 : -8388608 < r) (hq : (if r < 0 then q - 1 else q) = 16777216 * d + m) (h3 : -16777216 < m) (h4 : m < 16777216) : (m + 16777216) % 16777216 = p / 8388608 % 16777216 := by
  split at hq <;> omega
set_option maxRecDepth 100000 in
set_option maxHeartbeats 4000000 in
theorem rresult_any (a1 a2 a3 : Option Addr) (n1 c1 c2 n3 c3 : Nat) (s : Pu) (x : Int) (w : World) (hI : IntsAt w a2 s.tape) (ho : 0 ≤ s.order ∧ s.order ≤ 16777215) (hop : 0 ≤ s.operand ∧ s.operand ≤ 16777215) (hpr : -140737488355328 ≤ s.product ∧ s.product ≤ 140737488355327)
    (htk : 0 ≤ s.taken ∧ s.taken ≤ s.tape.length) (htl : s.tape.length ≤ 200) (hwt : ∀ x ∈ s.tape, 0 ≤ x ∧ x ≤ 16777215) (hw : 0 ≤ x ∧ x ≤ 16777215) (hr : s.phase = 4 ∨ (ordP s).op = 6 → s.phase = 4 ∨ s.taken < s.tape.length) :
    Calls Try.prog 101 #[psv a1 a2 a3 n1 c1 s.tape.length c2 n3 c3 s, .int .i64 x] w fun e w' => e = .returned (.int .i64 (resP s x)) ∧ Ext w w' := by
  have hdd := fun W => rdec_ord ho W
  have e : resP s x = (if s.phase = 4 then s.product / 8388608 else if (ordP s).op = 2 then x + s.operand else if (ordP s).op = 3 then x - s.operand else if (ordP s).op = 6 then s.tape[s.taken.toNat]?.getD 0 else s.operand) % 16777216 := rfl
  rw [e]
  have ep : ordP s = decodeQ s.order := rfl
  rw [ep] at hr ⊢
  obtain ⟨x0, x1⟩ := hw
  obtain ⟨o0, o1⟩ := hop
  obtain ⟨p0, p1⟩ := hpr
  obtain ⟨t0, t1⟩ := htk
  clear e ep ho
  generalize decodeQ s.order = o at *
  by_cases h4 : s.phase = 4
  · rw [if_pos h4]
    have b4 : (s.phase == 4) = true := by simpa using h4
    clear h4 hI hr hwt
    go_enter Try.func101, Try.ntmps101
    go_wp2_with fail
    refine (hdd _).mono ?_
    rintro e w1 ⟨rfl, E1⟩
    have P := Blk.of E1
    have u0 := Blk.c P 0 (v := .slice a1 n1 c1) rfl
    have u1 := Blk.c P 1 (v := .slice a2 s.tape.length c2) rfl
    have u2 := Blk.c P 2 (v := .int .i64 s.taken) rfl
    have u3 := Blk.c P 3 (v := .slice a3 n3 c3) rfl
    have u4 := Blk.c P 4 (v := .int .i64 s.clock) rfl
    have u5 := Blk.c P 5 (v := .int .i64 s.at_) rfl
    have u6 := Blk.c P 6 (v := .int .i64 s.phase) rfl
    have u7 := Blk.c P 7 (v := .int .i64 s.order) rfl
    have u8 := Blk.c P 8 (v := .int .i64 s.operand) rfl
    have u9 := Blk.c P 9 (v := .int .i64 s.other) rfl
    have u10 := Blk.c P 10 (v := .int .i64 s.product) rfl
    have u11 := Blk.c P 11 (v := .int .i64 s.count) rfl
    have u12 := Blk.c P 12 (v := .int .i64 s.done) rfl
    have u13 := Blk.c P 13 (v := .int .i64 s.why) rfl
    have hz0 : w.heap.size < w1.heap.size := P.lt
    go_wp2_with fail
    all_goals
      go_ret
      refine ⟨ret_int ?_, (by repeat (first | with_reducible exact Ext.refl _ | with_reducible exact E1 | with_reducible exact E1.old | with_reducible exact E1.old.old | with_reducible exact E1.old.old.old | (with_reducible refine Ext.alloc ?_ _) | (with_reducible refine Below.drew ?_) | (with_reducible refine below_drewN ?_ _) | (with_reducible refine ext_put ?_ _ ?_; rotate_left; (first | with_reducible exact Nat.le_refl _ | with_reducible exact Nat.le_succ _ | omega | (dsimp only; omega)))))⟩
      generalize s.product = p at *
      have h1 := Int.mul_tdiv_add_tmod p 8388608
      have h2 := Int.tmod_lt_of_pos p (show (0 : Int) < 8388608 by decide)
      have h3 := Int.lt_tmod_of_pos p (show (0 : Int) < 8388608 by decide)
      generalize p.tdiv 8388608 = q at *
      generalize p.tmod 8388608 = r at *
      first
        | (rw [IntWalk.wrap64_in (q - 1) (by omega)]
           have k1 := Int.mul_tdiv_add_tmod (q - 1) 16777216
           have k2 := Int.tmod_lt_of_pos (q - 1) (show (0 : Int) < 16777216 by decide)
           have k3 := Int.lt_tmod_of_pos (q - 1) (show (0 : Int) < 16777216 by decide)
           generalize (q - 1).tdiv 16777216 = d at *
           generalize (q - 1).tmod 16777216 = m at *
           rw [IntWalk.wrap64_in (m + 16777216) (by omega), Int.tmod_eq_emod_of_nonneg (by omega)]
           exact floor_mod (d := d) h1.symm h2 h3 (by rw [if_pos (by omega)]; omega) k3 k2)
        | (have k1 := Int.mul_tdiv_add_tmod q 16777216
           have k2 := Int.tmod_lt_of_pos q (show (0 : Int) < 16777216 by decide)
           have k3 := Int.lt_tmod_of_pos q (show (0 : Int) < 16777216 by decide)
           generalize q.tdiv 16777216 = d at *
           generalize q.tmod 16777216 = m at *
           rw [IntWalk.wrap64_in (m + 16777216) (by omega), Int.tmod_eq_emod_of_nonneg (by omega)]
           exact floor_mod (d := d) h1.symm h2 h3 (by rw [if_neg (by omega)]; omega) k3 k2)
  · have b4 : (s.phase == 4) = false := by simpa using h4
    rw [if_neg h4]
    by_cases h6 : o.op = 6
    · have hlt : s.taken < s.tape.length := (hr (.inr h6)).resolve_left h4
      have hwd : 0 ≤ s.tape[s.taken.toNat]?.getD 0 ∧ s.tape[s.taken.toNat]?.getD 0 ≤ 16777215 := by
        rw [List.getElem?_eq_getElem (by omega)]
        exact hwt _ (List.getElem_mem _)
      rcases hI with e' | ⟨b, off, rfl, hb, hc⟩
      · rw [e'] at hlt; simp at hlt; omega
      have hcell : w.cell? ⟨b, off + s.taken.toNat, none⟩ = some (.int .i64 (s.tape[s.taken.toNat]?.getD 0)) := hc _ (by omega)
      rw [if_neg (by omega), if_neg (by omega), if_pos h6]
      have b2 : (o.op == 2) = false := by simp [h6]
      have b3 : (o.op == 3) = false := by simp [h6]
      have b6 : (o.op == 6) = true := by simp [h6]
      generalize s.tape[s.taken.toNat]?.getD 0 = y at *
      have HC := Lib.hid hcell
      obtain ⟨y0, y1⟩ := hwd
      clear h4 hc hr h6 hwt hcell
      go_enter Try.func101, Try.ntmps101
      go_wp2_with fail
      refine (hdd _).mono ?_
      rintro e w1 ⟨rfl, E1⟩
      have P := Blk.of E1
      have u0 := Blk.c P 0 (v := .slice a1 n1 c1) rfl
      have u1 := Blk.c P 1 (v := .slice (some ⟨b, off, none⟩) s.tape.length c2) rfl
      have u2 := Blk.c P 2 (v := .int .i64 s.taken) rfl
      have u3 := Blk.c P 3 (v := .slice a3 n3 c3) rfl
      have u4 := Blk.c P 4 (v := .int .i64 s.clock) rfl
      have u5 := Blk.c P 5 (v := .int .i64 s.at_) rfl
      have u6 := Blk.c P 6 (v := .int .i64 s.phase) rfl
      have u7 := Blk.c P 7 (v := .int .i64 s.order) rfl
      have u8 := Blk.c P 8 (v := .int .i64 s.operand) rfl
      have u9 := Blk.c P 9 (v := .int .i64 s.other) rfl
      have u10 := Blk.c P 10 (v := .int .i64 s.product) rfl
      have u11 := Blk.c P 11 (v := .int .i64 s.count) rfl
      have u12 := Blk.c P 12 (v := .int .i64 s.done) rfl
      have u13 := Blk.c P 13 (v := .int .i64 s.why) rfl
      have hz0 : w.heap.size < w1.heap.size := P.lt
      have hcell := (E1.old.cell (p := ⟨b, off + s.taken.toNat, none⟩) hb).trans HC.out
      have hbz : b < w1.heap.size := Nat.lt_of_lt_of_le hb E1.old.size
      go_wp2_with fail
      go_ret
      exact ⟨ret_int (by omega), (by repeat (first | with_reducible exact Ext.refl _ | with_reducible exact E1 | with_reducible exact E1.old | with_reducible exact E1.old.old | with_reducible exact E1.old.old.old | (with_reducible refine Ext.alloc ?_ _) | (with_reducible refine Below.drew ?_) | (with_reducible refine below_drewN ?_ _) | (with_reducible refine ext_put ?_ _ ?_; rotate_left; (first | with_reducible exact Nat.le_refl _ | with_reducible exact Nat.le_succ _ | omega | (dsimp only; omega)))))⟩
    · have b6 : (o.op == 6) = false := by simpa using h6
      by_cases h2 : o.op = 2
      · rw [if_pos h2]
        have b2 : (o.op == 2) = true := by simp [h2]
        clear h4 hI hr h2 h6 hwt
        go_enter Try.func101, Try.ntmps101
        go_wp2_with fail
        refine (hdd _).mono ?_
        rintro e w1 ⟨rfl, E1⟩
        have P := Blk.of E1
        have u0 := Blk.c P 0 (v := .slice a1 n1 c1) rfl
        have u1 := Blk.c P 1 (v := .slice a2 s.tape.length c2) rfl
        have u2 := Blk.c P 2 (v := .int .i64 s.taken) rfl
        have u3 := Blk.c P 3 (v := .slice a3 n3 c3) rfl
        have u4 := Blk.c P 4 (v := .int .i64 s.clock) rfl
        have u5 := Blk.c P 5 (v := .int .i64 s.at_) rfl
        have u6 := Blk.c P 6 (v := .int .i64 s.phase) rfl
        have u7 := Blk.c P 7 (v := .int .i64 s.order) rfl
        have u8 := Blk.c P 8 (v := .int .i64 s.operand) rfl
        have u9 := Blk.c P 9 (v := .int .i64 s.other) rfl
        have u10 := Blk.c P 10 (v := .int .i64 s.product) rfl
        have u11 := Blk.c P 11 (v := .int .i64 s.count) rfl
        have u12 := Blk.c P 12 (v := .int .i64 s.done) rfl
        have u13 := Blk.c P 13 (v := .int .i64 s.why) rfl
        have hz0 : w.heap.size < w1.heap.size := P.lt
        go_wp2_with fail
        go_ret
        exact ⟨ret_int (by omega), (by repeat (first | with_reducible exact Ext.refl _ | with_reducible exact E1 | with_reducible exact E1.old | with_reducible exact E1.old.old | with_reducible exact E1.old.old.old | (with_reducible refine Ext.alloc ?_ _) | (with_reducible refine Below.drew ?_) | (with_reducible refine below_drewN ?_ _) | (with_reducible refine ext_put ?_ _ ?_; rotate_left; (first | with_reducible exact Nat.le_refl _ | with_reducible exact Nat.le_succ _ | omega | (dsimp only; omega)))))⟩
      · have b2 : (o.op == 2) = false := by simpa using h2
        by_cases h3 : o.op = 3
        · rw [if_neg h2, if_pos h3]
          have b3 : (o.op == 3) = true := by simp [h3]
          clear h4 hI hr h2 h3 h6 hwt
          go_enter Try.func101, Try.ntmps101
          go_wp2_with fail
          refine (hdd _).mono ?_
          rintro e w1 ⟨rfl, E1⟩
          have P := Blk.of E1
          have u0 := Blk.c P 0 (v := .slice a1 n1 c1) rfl
          have u1 := Blk.c P 1 (v := .slice a2 s.tape.length c2) rfl
          have u2 := Blk.c P 2 (v := .int .i64 s.taken) rfl
          have u3 := Blk.c P 3 (v := .slice a3 n3 c3) rfl
          have u4 := Blk.c P 4 (v := .int .i64 s.clock) rfl
          have u5 := Blk.c P 5 (v := .int .i64 s.at_) rfl
          have u6 := Blk.c P 6 (v := .int .i64 s.phase) rfl
          have u7 := Blk.c P 7 (v := .int .i64 s.order) rfl
          have u8 := Blk.c P 8 (v := .int .i64 s.operand) rfl
          have u9 := Blk.c P 9 (v := .int .i64 s.other) rfl
          have u10 := Blk.c P 10 (v := .int .i64 s.product) rfl
          have u11 := Blk.c P 11 (v := .int .i64 s.count) rfl
          have u12 := Blk.c P 12 (v := .int .i64 s.done) rfl
          have u13 := Blk.c P 13 (v := .int .i64 s.why) rfl
          have hz0 : w.heap.size < w1.heap.size := P.lt
          go_wp2_with fail
          go_ret
          exact ⟨ret_int (by omega), (by repeat (first | with_reducible exact Ext.refl _ | with_reducible exact E1 | with_reducible exact E1.old | with_reducible exact E1.old.old | with_reducible exact E1.old.old.old | (with_reducible refine Ext.alloc ?_ _) | (with_reducible refine Below.drew ?_) | (with_reducible refine below_drewN ?_ _) | (with_reducible refine ext_put ?_ _ ?_; rotate_left; (first | with_reducible exact Nat.le_refl _ | with_reducible exact Nat.le_succ _ | omega | (dsimp only; omega)))))⟩
        · have b3 : (o.op == 3) = false := by simpa using h3
          rw [if_neg h2, if_neg h3, if_neg h6]
          clear h4 hI hr h2 h3 h6 hwt
          go_enter Try.func101, Try.ntmps101
          go_wp2_with fail
          refine (hdd _).mono ?_
          rintro e w1 ⟨rfl, E1⟩
          have P := Blk.of E1
          have u0 := Blk.c P 0 (v := .slice a1 n1 c1) rfl
          have u1 := Blk.c P 1 (v := .slice a2 s.tape.length c2) rfl
          have u2 := Blk.c P 2 (v := .int .i64 s.taken) rfl
          have u3 := Blk.c P 3 (v := .slice a3 n3 c3) rfl
          have u4 := Blk.c P 4 (v := .int .i64 s.clock) rfl
          have u5 := Blk.c P 5 (v := .int .i64 s.at_) rfl
          have u6 := Blk.c P 6 (v := .int .i64 s.phase) rfl
          have u7 := Blk.c P 7 (v := .int .i64 s.order) rfl
          have u8 := Blk.c P 8 (v := .int .i64 s.operand) rfl
          have u9 := Blk.c P 9 (v := .int .i64 s.other) rfl
          have u10 := Blk.c P 10 (v := .int .i64 s.product) rfl
          have u11 := Blk.c P 11 (v := .int .i64 s.count) rfl
          have u12 := Blk.c P 12 (v := .int .i64 s.done) rfl
          have u13 := Blk.c P 13 (v := .int .i64 s.why) rfl
          have hz0 : w.heap.size < w1.heap.size := P.lt
          go_wp2_with fail
          go_ret
          exact ⟨ret_int (by omega), (by repeat (first | with_reducible exact Ext.refl _ | with_reducible exact E1 | with_reducible exact E1.old | with_reducible exact E1.old.old | with_reducible exact E1.old.old.old | (with_reducible refine Ext.alloc ?_ _) | (with_reducible refine Below.drew ?_) | (with_reducible refine below_drewN ?_ _) | (with_reducible refine ext_put ?_ _ ?_; rotate_left; (first | with_reducible exact Nat.le_refl _ | with_reducible exact Nat.le_succ _ | omega | (dsimp only; omega)))))⟩
end Go.Proofs.Ytjfggepgjpdebaa
/- Contract: the reference of layer 5: Minor, where a word is replaced. -/
namespace Go.Proofs.Ytjfggepgjpdebaa
open Go.RowKit Go.Q
/-- behind the store of the new word -/
def MCut (w : World) (g d1 : Nat) (a2 a3 : Option Addr) (n2 c2 n3 c3 : Nat) (s : Pu) (xs : List Int) (wx : World) : Prop :=
  Ext w wx ∧ Blk wx w.heap.size #[.slice (some ⟨g, 0, none⟩) 128 d1, .slice a2 n2 c2, .int .i64 s.taken, .slice a3 n3 c3, .int .i64 s.clock, .int .i64 s.at_, .int .i64 s.phase, .int .i64 s.order, .int .i64 s.operand, .int .i64 s.other, .int .i64 s.product, .int .i64 s.count, .int .i64 s.done, .int .i64 s.why] 41 ∧
    Blk wx (w.heap.size + 1) #[.slice none 0 0, .slice none 0 0, .int .i64 0, .slice none 0 0, .int .i64 0, .int .i64 0, .int .i64 0, .int .i64 0, .int .i64 0, .int .i64 0, .int .i64 0, .int .i64 0, .int .i64 0, .int .i64 0] 41 ∧ IntsAt wx (some ⟨g, 0, none⟩) xs
theorem own_put5 {w : World} {B g n c i : Nat} {xs : List Int} (h : w.ownsRow B 3 1 (.slice (some ⟨g, 0, none⟩) n c) n (iv xs)) (x : Int) :
    IntsAt (w.setCell ⟨g, i, none⟩ (.int .i64 x)) (some ⟨g, 0, none⟩) (xs.set i x) := by
  have := (h.stored i (.int .i64 x)).1
  rw [iv_set] at this
  exact own_ints this
theorem own_cell5 {w : World} {B g n c i : Nat} {xs : List Int} (h : w.ownsRow B 3 1 (.slice (some ⟨g, 0, none⟩) n c) n (iv xs)) (hi : i < n) : w.cell? ⟨g, i, none⟩ = some (.int .i64 (xs[i]?.getD 0)) := by
  rw [h.cellAt i (by omega)]
  exact iv_get xs i (by have := h.1; rw [iv_length] at this; omega)
theorem own_ext5 {w w' : World} {B n c : Nat} {a : Option Addr} {xs : List Value} (h : w.ownsRow B 3 1 (.slice a n c) n xs) (E : Ext w w') : w'.ownsRow B 3 1 (.slice a n c) n xs :=
  own_later h (fun b hb => E.block b (own_lt h hb))
set_option maxRecDepth 100000 in
set_option maxHeartbeats 16000000 in
theorem rminor_write (a1 a2 a3 : Option Addr) (c1 c2 c3 : Nat) (s : Pu) (w : World) (hv : ValidP s) (i1 : IntsAt w a1 s.store) (i2 : IntsAt w a2 s.tape) (i3 : IntsAt w a3 s.printed) (hy : s.why = 0) (hc : s.clock ≠ 1000000000) (hw : wrB s = true) :
    Calls Try.prog 68 #[psv a1 a2 a3 128 c1 s.tape.length c2 s.printed.length c3 s] w (MinRes a1 a2 a3 s.tape.length c2 s.store s.printed w (minorP s)) := by
  have hvl := hv.len
  have had' := adrP_bd hv
  obtain ⟨b, off, rfl, hbl, hcl⟩ := ints_form5 i1 (by rw [hvl]; decide)
  have hdd := fun W => rdec_ord hv.order W
  have had := fun W => raddress_any (some ⟨b, off, none⟩) a2 a3 128 c1 s.tape.length c2 s.printed.length c3 s W hv.order
  have hwr := fun W => rwrites_any (some ⟨b, off, none⟩) a2 a3 128 c1 s.tape.length c2 s.printed.length c3 s W hv.order hv.clock hv.frm.2.2.1
  have hcell : w.cell? ⟨b, off + (adrP s).toNat, none⟩ = some (.int .i64 (s.store[(adrP s).toNat]?.getD 0)) := hcl _ (by omega)
  have hxb := hv.word (adrP s).toNat (by omega)
  have by_ : (s.why != 0) = false := by simpa using hy
  have bc_ : (s.clock == 1000000000) = false := by simpa using hc
  obtain ⟨i0, hi, ha0, ha1, ha2⟩ := info_parts Try.infoE
  have hww := hw
  unfold wrB at hww
  simp only [Bool.and_eq_true, Bool.or_eq_true, decide_eq_true_eq] at hww
  have h3 : ¬ s.phase = 3 := by omega
  have hadr : adrP s = (ordP s).to := by unfold adrP; rw [if_neg (by omega), if_neg (by omega)]
  have hcr : (comesP s && replP s) = true := by rw [← wr_repl hv, hw]
  have hcm : comesP s = true := by simp only [Bool.and_eq_true] at hcr; exact hcr.1
  have e1 : storeP s = { s with store := s.store.set (adrP s).toNat (resP s (s.store[(adrP s).toNat]?.getD 0)) } := by
    unfold storeP; rw [if_pos hcr, (comes_adr hv h3).2.1]
  have V1 := storeP_valid hv
  rw [e1] at V1
  have e : minorP s = endP true (s.store[(adrP s).toNat]?.getD 0) { s with store := s.store.set (adrP s).toNat (resP s (s.store[(adrP s).toNat]?.getD 0)) } := by
    have e2 : multsP { s with store := s.store.set (adrP s).toNat (resP s (s.store[(adrP s).toNat]?.getD 0)) } = { s with store := s.store.set (adrP s).toNat (resP s (s.store[(adrP s).toNat]?.getD 0)) } := by unfold multsP; rw [if_neg h3]
    unfold minorP
    rw [if_neg (by omega), if_neg hc, hcm, wordP_adr hv hcm, e1, e2]
  have hT : (minorP s).store = s.store.set (adrP s).toNat (resP s (s.store[(adrP s).toNat]?.getD 0)) := by rw [e, end_store]
  have hB : ∀ W d1 g, Ext w W → Calls Try.prog 103 #[psv (some ⟨g, 0, none⟩) a2 a3 128 d1 s.tape.length c2 s.printed.length c3 s, .int .i64 (s.store[(adrP s).toNat]?.getD 0)] W (Beh (some ⟨g, 0, none⟩) a2 a3 128 d1 s.tape.length c2 s.printed W (minorP s)) := fun W d1 g E => by
    have h := rbehind_any (some ⟨g, 0, none⟩) a2 a3 128 d1 c2 c3 { s with store := s.store.set (adrP s).toNat (resP s (s.store[(adrP s).toNat]?.getD 0)) } (s.store[(adrP s).toNat]?.getD 0) W V1 hy hc hxb (i3.ext E)
    rw [show comesP { s with store := s.store.set (adrP s).toNat (resP s (s.store[(adrP s).toNat]?.getD 0)) } = true from hcm] at h
    rw [e]
    exact h
  have hrc : s.phase = 4 ∨ (ordP s).op = 6 → s.phase = 4 ∨ s.taken < s.tape.length := fun h => by
    rcases h with h | h
    · exact .inl h
    · by_cases h4 : s.phase = 4
      · exact .inl h4
      · have := (fits_of hv).2.1 (by omega)
        omega
  have hR : ∀ W d1 g, Ext w W → Calls Try.prog 101 #[psv (some ⟨g, 0, none⟩) a2 a3 128 d1 s.tape.length c2 s.printed.length c3 s, .int .i64 (s.store[(adrP s).toNat]?.getD 0)] W fun e w' => e = .returned (.int .i64 (resP s (s.store[(adrP s).toNat]?.getD 0))) ∧ Ext W w' := fun W d1 g E =>
    rresult_any (some ⟨g, 0, none⟩) a2 a3 128 d1 c2 s.printed.length c3 s _ W (i2.ext E) hv.order hv.operand hv.product hv.taken hv.tlen hv.wt hxb hrc
  rw [hw] at hwr
  have b3 : (s.phase == 3) = false := by simpa using h3
  have HS := Lib.hid hT
  have HL1 : Hid ((minorP s).store.length = 128) := Lib.hid (by rw [hT, List.length_set, hvl])
  have HL := Lib.hid hvl
  have hto : adrP s = (decodeQ s.order).to := hadr
  obtain ⟨ad0, ad1⟩ := had'
  clear hT e hv hy hc hw h3 i2 i3 hxb hvl hcl hww hadr hcr hcm e1 V1 hrc
  generalize hn2 : s.tape.length = n2 at *
  generalize hn3 : s.printed.length = n3 at *
  clear hn2 hn3
  generalize resP s (s.store[(adrP s).toNat]?.getD 0) = r at *
  generalize s.store[(adrP s).toNat]?.getD 0 = x at *
  generalize adrP s = ad at *
  generalize minorP s = T at *
  generalize (s.phase != 3) = ph at *
  generalize decodeQ s.order = o at *
  obtain ⟨op, fr, tt, nx⟩ := o
  obtain rfl : ad = tt := hto
  have HC := Lib.hid hcell
  clear hcell
  go_enter Try.func68, Try.ntmps68
  go_wp2_with fail
  refine (hdd _).mono ?_
  rintro e w1 ⟨rfl, E1⟩
  have P1 := Blk.of E1.old
  have R1 := Blk.of E1
  rw [World.size_alloc] at R1
  have F1 : Ext w w1 := E1.old.old
  have u0 := Blk.c P1 0 (v := .slice (some ⟨b, off, none⟩) 128 c1) rfl
  have u1 := Blk.c P1 1 (v := .slice a2 n2 c2) rfl
  have u2 := Blk.c P1 2 (v := .int .i64 s.taken) rfl
  have u3 := Blk.c P1 3 (v := .slice a3 n3 c3) rfl
  have u4 := Blk.c P1 4 (v := .int .i64 s.clock) rfl
  have u5 := Blk.c P1 5 (v := .int .i64 s.at_) rfl
  have u6 := Blk.c P1 6 (v := .int .i64 s.phase) rfl
  have u7 := Blk.c P1 7 (v := .int .i64 s.order) rfl
  have u8 := Blk.c P1 8 (v := .int .i64 s.operand) rfl
  have u9 := Blk.c P1 9 (v := .int .i64 s.other) rfl
  have u10 := Blk.c P1 10 (v := .int .i64 s.product) rfl
  have u11 := Blk.c P1 11 (v := .int .i64 s.count) rfl
  have u12 := Blk.c P1 12 (v := .int .i64 s.done) rfl
  have u13 := Blk.c P1 13 (v := .int .i64 s.why) rfl
  have g0 := Blk.f P1 0
  have g1 := Blk.f P1 1
  have g2 := Blk.f P1 2
  have g3 := Blk.f P1 3
  have g4 := Blk.f P1 4
  have g5 := Blk.f P1 5
  have g6 := Blk.f P1 6
  have g7 := Blk.f P1 7
  have g8 := Blk.f P1 8
  have g9 := Blk.f P1 9
  have g10 := Blk.f P1 10
  have g11 := Blk.f P1 11
  have g12 := Blk.f P1 12
  have g13 := Blk.f P1 13
  have q0 := Blk.c R1 0 (v := .slice none 0 0) rfl
  have q1 := Blk.c R1 1 (v := .slice none 0 0) rfl
  have q2 := Blk.c R1 2 (v := .int .i64 0) rfl
  have q3 := Blk.c R1 3 (v := .slice none 0 0) rfl
  have q4 := Blk.c R1 4 (v := .int .i64 0) rfl
  have q5 := Blk.c R1 5 (v := .int .i64 0) rfl
  have q6 := Blk.c R1 6 (v := .int .i64 0) rfl
  have q7 := Blk.c R1 7 (v := .int .i64 0) rfl
  have q8 := Blk.c R1 8 (v := .int .i64 0) rfl
  have q9 := Blk.c R1 9 (v := .int .i64 0) rfl
  have q10 := Blk.c R1 10 (v := .int .i64 0) rfl
  have q11 := Blk.c R1 11 (v := .int .i64 0) rfl
  have q12 := Blk.c R1 12 (v := .int .i64 0) rfl
  have q13 := Blk.c R1 13 (v := .int .i64 0) rfl
  have f0 := Blk.f R1 0
  have f1 := Blk.f R1 1
  have f2 := Blk.f R1 2
  have f3 := Blk.f R1 3
  have f4 := Blk.f R1 4
  have f5 := Blk.f R1 5
  have f6 := Blk.f R1 6
  have f7 := Blk.f R1 7
  have f8 := Blk.f R1 8
  have f9 := Blk.f R1 9
  have f10 := Blk.f R1 10
  have f11 := Blk.f R1 11
  have f12 := Blk.f R1 12
  have f13 := Blk.f R1 13
  have hz : w.heap.size + 1 < w1.heap.size := R1.lt
  have hz0 : w.heap.size < w1.heap.size := P1.lt
  go_wp2_with fail
  refine (had _).mono ?_
  rintro e w2 ⟨rfl, E2⟩
  have F2 : Ext w w2 := Ext.comp (by repeat (first | with_reducible exact Ext.refl _ | with_reducible exact F1 | with_reducible exact F1.old | with_reducible exact F1.old.old | with_reducible exact F1.old.old.old | (with_reducible refine Ext.alloc ?_ _) | (with_reducible refine Below.drew ?_) | (with_reducible refine below_drewN ?_ _) | (with_reducible refine ext_put ?_ _ ?_; rotate_left; (first | with_reducible exact Nat.le_refl _ | with_reducible exact Nat.le_succ _ | omega | (dsimp only; omega))))) E2
  have P2 := Blk.go P1 (by intro hblk; repeat (first | with_reducible exact hblk | with_reducible refine Blk.al ?_ _ | with_reducible refine Blk.dr ?_ | (with_reducible refine Blk.ot ?_ ?_; rotate_left; (first | omega | (dsimp only; omega))))) E2
  have R2 := Blk.go R1 (by intro hblk; repeat (first | with_reducible exact hblk | with_reducible refine Blk.al ?_ _ | with_reducible refine Blk.dr ?_ | (with_reducible refine Blk.ot ?_ ?_; rotate_left; (first | omega | (dsimp only; omega))))) E2
  have O2 := Blk.ex (Blk.nw w1 #[.int .i64 op, .int .i64 fr, .int .i64 ad, .int .i64 nx] 36) E2
  clear u0 u1 u2 u3 u4 u5 u6 u7 u8 u9 u10 u11 u12 u13 g0 g1 g2 g3 g4 g5 g6 g7 g8 g9 g10 g11 g12 g13 q0 q1 q2 q3 q4 q5 q6 q7 q8 q9 q10 q11 q12 q13 f0 f1 f2 f3 f4 f5 f6 f7 f8 f9 f10 f11 f12 f13 hz hz0
  have u0 := Blk.c P2 0 (v := .slice (some ⟨b, off, none⟩) 128 c1) rfl
  have u1 := Blk.c P2 1 (v := .slice a2 n2 c2) rfl
  have u2 := Blk.c P2 2 (v := .int .i64 s.taken) rfl
  have u3 := Blk.c P2 3 (v := .slice a3 n3 c3) rfl
  have u4 := Blk.c P2 4 (v := .int .i64 s.clock) rfl
  have u5 := Blk.c P2 5 (v := .int .i64 s.at_) rfl
  have u6 := Blk.c P2 6 (v := .int .i64 s.phase) rfl
  have u7 := Blk.c P2 7 (v := .int .i64 s.order) rfl
  have u8 := Blk.c P2 8 (v := .int .i64 s.operand) rfl
  have u9 := Blk.c P2 9 (v := .int .i64 s.other) rfl
  have u10 := Blk.c P2 10 (v := .int .i64 s.product) rfl
  have u11 := Blk.c P2 11 (v := .int .i64 s.count) rfl
  have u12 := Blk.c P2 12 (v := .int .i64 s.done) rfl
  have u13 := Blk.c P2 13 (v := .int .i64 s.why) rfl
  have g0 := Blk.f P2 0
  have g1 := Blk.f P2 1
  have g2 := Blk.f P2 2
  have g3 := Blk.f P2 3
  have g4 := Blk.f P2 4
  have g5 := Blk.f P2 5
  have g6 := Blk.f P2 6
  have g7 := Blk.f P2 7
  have g8 := Blk.f P2 8
  have g9 := Blk.f P2 9
  have g10 := Blk.f P2 10
  have g11 := Blk.f P2 11
  have g12 := Blk.f P2 12
  have g13 := Blk.f P2 13
  have q0 := Blk.c R2 0 (v := .slice none 0 0) rfl
  have q1 := Blk.c R2 1 (v := .slice none 0 0) rfl
  have q2 := Blk.c R2 2 (v := .int .i64 0) rfl
  have q3 := Blk.c R2 3 (v := .slice none 0 0) rfl
  have q4 := Blk.c R2 4 (v := .int .i64 0) rfl
  have q5 := Blk.c R2 5 (v := .int .i64 0) rfl
  have q6 := Blk.c R2 6 (v := .int .i64 0) rfl
  have q7 := Blk.c R2 7 (v := .int .i64 0) rfl
  have q8 := Blk.c R2 8 (v := .int .i64 0) rfl
  have q9 := Blk.c R2 9 (v := .int .i64 0) rfl
  have q10 := Blk.c R2 10 (v := .int .i64 0) rfl
  have q11 := Blk.c R2 11 (v := .int .i64 0) rfl
  have q12 := Blk.c R2 12 (v := .int .i64 0) rfl
  have q13 := Blk.c R2 13 (v := .int .i64 0) rfl
  have f0 := Blk.f R2 0
  have f1 := Blk.f R2 1
  have f2 := Blk.f R2 2
  have f3 := Blk.f R2 3
  have f4 := Blk.f R2 4
  have f5 := Blk.f R2 5
  have f6 := Blk.f R2 6
  have f7 := Blk.f R2 7
  have f8 := Blk.f R2 8
  have f9 := Blk.f R2 9
  have f10 := Blk.f R2 10
  have f11 := Blk.f R2 11
  have f12 := Blk.f R2 12
  have f13 := Blk.f R2 13
  have hz : w.heap.size + 1 < w2.heap.size := R2.lt
  have hz0 : w.heap.size < w2.heap.size := P2.lt
  have z0 := Blk.c O2 0 (v := .int .i64 op) rfl
  have z1 := Blk.c O2 1 (v := .int .i64 fr) rfl
  have z2 := Blk.c O2 2 (v := .int .i64 ad) rfl
  have z3 := Blk.c O2 3 (v := .int .i64 nx) rfl
  have hzo : w1.heap.size < w2.heap.size := O2.lt
  have hcell2 := (F2.cell (p := ⟨b, off + ad.toNat, none⟩) hbl).trans HC.out
  have hbz : b < w2.heap.size := Nat.lt_of_lt_of_le hbl F2.size
  go_wp2_with fail
  refine (hwr _).mono ?_
  rintro e w3 ⟨rfl, E3⟩
  have F3 : Ext w w3 := Ext.comp (by repeat (first | with_reducible exact Ext.refl _ | with_reducible exact F2 | with_reducible exact F2.old | with_reducible exact F2.old.old | with_reducible exact F2.old.old.old | (with_reducible refine Ext.alloc ?_ _) | (with_reducible refine Below.drew ?_) | (with_reducible refine below_drewN ?_ _) | (with_reducible refine ext_put ?_ _ ?_; rotate_left; (first | with_reducible exact Nat.le_refl _ | with_reducible exact Nat.le_succ _ | omega | (dsimp only; omega))))) E3
  have P3 := Blk.go P2 (by intro hblk; repeat (first | with_reducible exact hblk | with_reducible refine Blk.al ?_ _ | with_reducible refine Blk.dr ?_ | (with_reducible refine Blk.ot ?_ ?_; rotate_left; (first | omega | (dsimp only; omega))))) E3
  have R3 := Blk.go R2 (by intro hblk; repeat (first | with_reducible exact hblk | with_reducible refine Blk.al ?_ _ | with_reducible refine Blk.dr ?_ | (with_reducible refine Blk.ot ?_ ?_; rotate_left; (first | omega | (dsimp only; omega))))) E3
  have O3 := Blk.go O2 (by intro hblk; repeat (first | with_reducible exact hblk | with_reducible refine Blk.al ?_ _ | with_reducible refine Blk.dr ?_ | (with_reducible refine Blk.ot ?_ ?_; rotate_left; (first | omega | (dsimp only; omega))))) E3
  clear u0 u1 u2 u3 u4 u5 u6 u7 u8 u9 u10 u11 u12 u13 g0 g1 g2 g3 g4 g5 g6 g7 g8 g9 g10 g11 g12 g13 q0 q1 q2 q3 q4 q5 q6 q7 q8 q9 q10 q11 q12 q13 f0 f1 f2 f3 f4 f5 f6 f7 f8 f9 f10 f11 f12 f13 hz hz0 hzo z0 z1 z2 z3
  have u0 := Blk.c P3 0 (v := .slice (some ⟨b, off, none⟩) 128 c1) rfl
  have u1 := Blk.c P3 1 (v := .slice a2 n2 c2) rfl
  have u2 := Blk.c P3 2 (v := .int .i64 s.taken) rfl
  have u3 := Blk.c P3 3 (v := .slice a3 n3 c3) rfl
  have u4 := Blk.c P3 4 (v := .int .i64 s.clock) rfl
  have u5 := Blk.c P3 5 (v := .int .i64 s.at_) rfl
  have u6 := Blk.c P3 6 (v := .int .i64 s.phase) rfl
  have u7 := Blk.c P3 7 (v := .int .i64 s.order) rfl
  have u8 := Blk.c P3 8 (v := .int .i64 s.operand) rfl
  have u9 := Blk.c P3 9 (v := .int .i64 s.other) rfl
  have u10 := Blk.c P3 10 (v := .int .i64 s.product) rfl
  have u11 := Blk.c P3 11 (v := .int .i64 s.count) rfl
  have u12 := Blk.c P3 12 (v := .int .i64 s.done) rfl
  have u13 := Blk.c P3 13 (v := .int .i64 s.why) rfl
  have g0 := Blk.f P3 0
  have g1 := Blk.f P3 1
  have g2 := Blk.f P3 2
  have g3 := Blk.f P3 3
  have g4 := Blk.f P3 4
  have g5 := Blk.f P3 5
  have g6 := Blk.f P3 6
  have g7 := Blk.f P3 7
  have g8 := Blk.f P3 8
  have g9 := Blk.f P3 9
  have g10 := Blk.f P3 10
  have g11 := Blk.f P3 11
  have g12 := Blk.f P3 12
  have g13 := Blk.f P3 13
  have q0 := Blk.c R3 0 (v := .slice none 0 0) rfl
  have q1 := Blk.c R3 1 (v := .slice none 0 0) rfl
  have q2 := Blk.c R3 2 (v := .int .i64 0) rfl
  have q3 := Blk.c R3 3 (v := .slice none 0 0) rfl
  have q4 := Blk.c R3 4 (v := .int .i64 0) rfl
  have q5 := Blk.c R3 5 (v := .int .i64 0) rfl
  have q6 := Blk.c R3 6 (v := .int .i64 0) rfl
  have q7 := Blk.c R3 7 (v := .int .i64 0) rfl
  have q8 := Blk.c R3 8 (v := .int .i64 0) rfl
  have q9 := Blk.c R3 9 (v := .int .i64 0) rfl
  have q10 := Blk.c R3 10 (v := .int .i64 0) rfl
  have q11 := Blk.c R3 11 (v := .int .i64 0) rfl
  have q12 := Blk.c R3 12 (v := .int .i64 0) rfl
  have q13 := Blk.c R3 13 (v := .int .i64 0) rfl
  have f0 := Blk.f R3 0
  have f1 := Blk.f R3 1
  have f2 := Blk.f R3 2
  have f3 := Blk.f R3 3
  have f4 := Blk.f R3 4
  have f5 := Blk.f R3 5
  have f6 := Blk.f R3 6
  have f7 := Blk.f R3 7
  have f8 := Blk.f R3 8
  have f9 := Blk.f R3 9
  have f10 := Blk.f R3 10
  have f11 := Blk.f R3 11
  have f12 := Blk.f R3 12
  have f13 := Blk.f R3 13
  have hz : w.heap.size + 1 < w3.heap.size := R3.lt
  have hz0 : w.heap.size < w3.heap.size := P3.lt
  have z0 := Blk.c O3 0 (v := .int .i64 op) rfl
  have z1 := Blk.c O3 1 (v := .int .i64 fr) rfl
  have z2 := Blk.c O3 2 (v := .int .i64 ad) rfl
  have z3 := Blk.c O3 3 (v := .int .i64 nx) rfl
  have hzo : w1.heap.size < w3.heap.size := O3.lt
  go_wp2_with (at_builtin; refine wpList_app (w0 := w3) rfl _ _ 22 rfl 3 i0 (.int .i64 0) 1 8 Try.underlying22 hi ha0 ha1 ha2 rfl (by decide) _ 0 w3.heap.size [] rfl (own_empty (Ext.refl _)) ((Ext.refl w3).alloc _) (Nat.le_refl _) (by simp) _ 128 c1 (iv s.store) rfl ?c1 ?c2 (iv_one _) (by unfold maxLen; omega) (by omega) ?_)
  case c1 => rw [iv_length, HL.out]
  case c2 => exact from_ints (i1.ext (F3.alloc _))
  intro a' d1 w4 hown E4 _
  obtain ⟨g, rfl⟩ := own_addr hown (by decide)
  obtain ⟨hg0, hg1⟩ := own_room hown
  have F4 := F3.comp E4
  have P4 := P3.ex E4
  have R4 := R3.ex E4
  have O4 := O3.ex E4
  have hg2 : w.heap.size + 1 < w3.heap.size := R3.lt
  have hg3 : w.heap.size + 1 < w1.heap.size := R1.lt
  clear hcell2 hbz
  clear u0 u1 u2 u3 u4 u5 u6 u7 u8 u9 u10 u11 u12 u13 g0 g1 g2 g3 g4 g5 g6 g7 g8 g9 g10 g11 g12 g13 q0 q1 q2 q3 q4 q5 q6 q7 q8 q9 q10 q11 q12 q13 f0 f1 f2 f3 f4 f5 f6 f7 f8 f9 f10 f11 f12 f13 hz hz0 hzo z0 z1 z2 z3
  have u0 := Blk.c P4 0 (v := .slice (some ⟨b, off, none⟩) 128 c1) rfl
  have u1 := Blk.c P4 1 (v := .slice a2 n2 c2) rfl
  have u2 := Blk.c P4 2 (v := .int .i64 s.taken) rfl
  have u3 := Blk.c P4 3 (v := .slice a3 n3 c3) rfl
  have u4 := Blk.c P4 4 (v := .int .i64 s.clock) rfl
  have u5 := Blk.c P4 5 (v := .int .i64 s.at_) rfl
  have u6 := Blk.c P4 6 (v := .int .i64 s.phase) rfl
  have u7 := Blk.c P4 7 (v := .int .i64 s.order) rfl
  have u8 := Blk.c P4 8 (v := .int .i64 s.operand) rfl
  have u9 := Blk.c P4 9 (v := .int .i64 s.other) rfl
  have u10 := Blk.c P4 10 (v := .int .i64 s.product) rfl
  have u11 := Blk.c P4 11 (v := .int .i64 s.count) rfl
  have u12 := Blk.c P4 12 (v := .int .i64 s.done) rfl
  have u13 := Blk.c P4 13 (v := .int .i64 s.why) rfl
  have g0 := Blk.f P4 0
  have g1 := Blk.f P4 1
  have g2 := Blk.f P4 2
  have g3 := Blk.f P4 3
  have g4 := Blk.f P4 4
  have g5 := Blk.f P4 5
  have g6 := Blk.f P4 6
  have g7 := Blk.f P4 7
  have g8 := Blk.f P4 8
  have g9 := Blk.f P4 9
  have g10 := Blk.f P4 10
  have g11 := Blk.f P4 11
  have g12 := Blk.f P4 12
  have g13 := Blk.f P4 13
  have q0 := Blk.c R4 0 (v := .slice none 0 0) rfl
  have q1 := Blk.c R4 1 (v := .slice none 0 0) rfl
  have q2 := Blk.c R4 2 (v := .int .i64 0) rfl
  have q3 := Blk.c R4 3 (v := .slice none 0 0) rfl
  have q4 := Blk.c R4 4 (v := .int .i64 0) rfl
  have q5 := Blk.c R4 5 (v := .int .i64 0) rfl
  have q6 := Blk.c R4 6 (v := .int .i64 0) rfl
  have q7 := Blk.c R4 7 (v := .int .i64 0) rfl
  have q8 := Blk.c R4 8 (v := .int .i64 0) rfl
  have q9 := Blk.c R4 9 (v := .int .i64 0) rfl
  have q10 := Blk.c R4 10 (v := .int .i64 0) rfl
  have q11 := Blk.c R4 11 (v := .int .i64 0) rfl
  have q12 := Blk.c R4 12 (v := .int .i64 0) rfl
  have q13 := Blk.c R4 13 (v := .int .i64 0) rfl
  have f0 := Blk.f R4 0
  have f1 := Blk.f R4 1
  have f2 := Blk.f R4 2
  have f3 := Blk.f R4 3
  have f4 := Blk.f R4 4
  have f5 := Blk.f R4 5
  have f6 := Blk.f R4 6
  have f7 := Blk.f R4 7
  have f8 := Blk.f R4 8
  have f9 := Blk.f R4 9
  have f10 := Blk.f R4 10
  have f11 := Blk.f R4 11
  have f12 := Blk.f R4 12
  have f13 := Blk.f R4 13
  have hz : w.heap.size + 1 < w4.heap.size := R4.lt
  have hz0 : w.heap.size < w4.heap.size := P4.lt
  have z0 := Blk.c O4 0 (v := .int .i64 op) rfl
  have z1 := Blk.c O4 1 (v := .int .i64 fr) rfl
  have z2 := Blk.c O4 2 (v := .int .i64 ad) rfl
  have z3 := Blk.c O4 3 (v := .int .i64 nx) rfl
  have hzo : w1.heap.size < w4.heap.size := O4.lt
  go_upto_region 11 with fail
  obtain ⟨w5, hw5⟩ : ∃ w5 : World, w5 = w4.setCell ⟨w.heap.size, 0, none⟩ (.slice (some ⟨g, 0, none⟩) 128 d1) := ⟨_, rfl⟩
  have F5 : Ext w w5 := by rw [hw5]; exact (by repeat (first | with_reducible exact Ext.refl _ | with_reducible exact F4 | with_reducible exact F4.old | with_reducible exact F4.old.old | with_reducible exact F4.old.old.old | (with_reducible refine Ext.alloc ?_ _) | (with_reducible refine Below.drew ?_) | (with_reducible refine below_drewN ?_ _) | (with_reducible refine ext_put ?_ _ ?_; rotate_left; (first | with_reducible exact Nat.le_refl _ | with_reducible exact Nat.le_succ _ | omega | (dsimp only; omega)))))
  have P5 : Blk w5 w.heap.size #[.slice (some ⟨g, 0, none⟩) 128 d1, .slice a2 n2 c2, .int .i64 s.taken, .slice a3 n3 c3, .int .i64 s.clock, .int .i64 s.at_, .int .i64 s.phase, .int .i64 s.order, .int .i64 s.operand, .int .i64 s.other, .int .i64 s.product, .int .i64 s.count, .int .i64 s.done, .int .i64 s.why] 41 := by rw [hw5]; exact P4.st 0 _
  have R5 : Blk w5 (w.heap.size + 1) #[.slice none 0 0, .slice none 0 0, .int .i64 0, .slice none 0 0, .int .i64 0, .int .i64 0, .int .i64 0, .int .i64 0, .int .i64 0, .int .i64 0, .int .i64 0, .int .i64 0, .int .i64 0, .int .i64 0] 41 := by rw [hw5]; exact R4.ot (by omega)
  have O5 : Blk w5 w1.heap.size #[.int .i64 op, .int .i64 fr, .int .i64 ad, .int .i64 nx] 36 := by rw [hw5]; exact O4.ot (by omega)
  have hown5 : w5.ownsRow w3.heap.size 3 1 (.slice (some ⟨g, 0, none⟩) 128 d1) 128 (iv s.store) := by
    rw [hw5]
    exact own_later hown (fun k hk => Below.heap_setCell _ _ _ _ (by
      have hk' : g = k := by simpa [Value.ownBlock] using hk
      show k ≠ w.heap.size
      omega))
  have hR5 : ∀ W, Ext w5 W → _ := fun W E => hR W d1 g (F5.comp E)
  have hB5 : ∀ W, Ext w W → _ := fun W E => hB W d1 g E
  clear hR hB
  rw [← hw5]
  clear hw5 hown
  clear u0 u1 u2 u3 u4 u5 u6 u7 u8 u9 u10 u11 u12 u13 g0 g1 g2 g3 g4 g5 g6 g7 g8 g9 g10 g11 g12 g13 q0 q1 q2 q3 q4 q5 q6 q7 q8 q9 q10 q11 q12 q13 f0 f1 f2 f3 f4 f5 f6 f7 f8 f9 f10 f11 f12 f13 hz hz0 hzo z0 z1 z2 z3
  have u0 := Blk.c P5 0 (v := .slice (some ⟨g, 0, none⟩) 128 d1) rfl
  have u1 := Blk.c P5 1 (v := .slice a2 n2 c2) rfl
  have u2 := Blk.c P5 2 (v := .int .i64 s.taken) rfl
  have u3 := Blk.c P5 3 (v := .slice a3 n3 c3) rfl
  have u4 := Blk.c P5 4 (v := .int .i64 s.clock) rfl
  have u5 := Blk.c P5 5 (v := .int .i64 s.at_) rfl
  have u6 := Blk.c P5 6 (v := .int .i64 s.phase) rfl
  have u7 := Blk.c P5 7 (v := .int .i64 s.order) rfl
  have u8 := Blk.c P5 8 (v := .int .i64 s.operand) rfl
  have u9 := Blk.c P5 9 (v := .int .i64 s.other) rfl
  have u10 := Blk.c P5 10 (v := .int .i64 s.product) rfl
  have u11 := Blk.c P5 11 (v := .int .i64 s.count) rfl
  have u12 := Blk.c P5 12 (v := .int .i64 s.done) rfl
  have u13 := Blk.c P5 13 (v := .int .i64 s.why) rfl
  have g0 := Blk.f P5 0
  have g1 := Blk.f P5 1
  have g2 := Blk.f P5 2
  have g3 := Blk.f P5 3
  have g4 := Blk.f P5 4
  have g5 := Blk.f P5 5
  have g6 := Blk.f P5 6
  have g7 := Blk.f P5 7
  have g8 := Blk.f P5 8
  have g9 := Blk.f P5 9
  have g10 := Blk.f P5 10
  have g11 := Blk.f P5 11
  have g12 := Blk.f P5 12
  have g13 := Blk.f P5 13
  have q0 := Blk.c R5 0 (v := .slice none 0 0) rfl
  have q1 := Blk.c R5 1 (v := .slice none 0 0) rfl
  have q2 := Blk.c R5 2 (v := .int .i64 0) rfl
  have q3 := Blk.c R5 3 (v := .slice none 0 0) rfl
  have q4 := Blk.c R5 4 (v := .int .i64 0) rfl
  have q5 := Blk.c R5 5 (v := .int .i64 0) rfl
  have q6 := Blk.c R5 6 (v := .int .i64 0) rfl
  have q7 := Blk.c R5 7 (v := .int .i64 0) rfl
  have q8 := Blk.c R5 8 (v := .int .i64 0) rfl
  have q9 := Blk.c R5 9 (v := .int .i64 0) rfl
  have q10 := Blk.c R5 10 (v := .int .i64 0) rfl
  have q11 := Blk.c R5 11 (v := .int .i64 0) rfl
  have q12 := Blk.c R5 12 (v := .int .i64 0) rfl
  have q13 := Blk.c R5 13 (v := .int .i64 0) rfl
  have f0 := Blk.f R5 0
  have f1 := Blk.f R5 1
  have f2 := Blk.f R5 2
  have f3 := Blk.f R5 3
  have f4 := Blk.f R5 4
  have f5 := Blk.f R5 5
  have f6 := Blk.f R5 6
  have f7 := Blk.f R5 7
  have f8 := Blk.f R5 8
  have f9 := Blk.f R5 9
  have f10 := Blk.f R5 10
  have f11 := Blk.f R5 11
  have f12 := Blk.f R5 12
  have f13 := Blk.f R5 13
  have hz : w.heap.size + 1 < w5.heap.size := R5.lt
  have hz0 : w.heap.size < w5.heap.size := P5.lt
  have z0 := Blk.c O5 0 (v := .int .i64 op) rfl
  have z1 := Blk.c O5 1 (v := .int .i64 fr) rfl
  have z2 := Blk.c O5 2 (v := .int .i64 ad) rfl
  have z3 := Blk.c O5 3 (v := .int .i64 nx) rfl
  have hzo : w1.heap.size < w5.heap.size := O5.lt
  have had7 : ad < 128 := by omega
  have hl0 := own_cell5 hown5 (i := ad.toNat) (by omega)
  have hl1 := hown5.frozenAt ad.toNat
  have hgz : g < w5.heap.size := (own_room hown5).2
  go_cut [] (fun wx => MCut w g d1 a2 a3 n2 c2 n3 c3 s (s.store.set ad.toNat r) wx)
  case first =>
    go_region_law (go_simp; go_at_call 101; refine (hR5 _ (by first | with_reducible exact Ext.refl _ | with_reducible exact (Ext.refl w5).drew)).mono ?_; rintro e w6 ⟨rfl, E6⟩; have E56 : Ext w5 w6 := (by first | with_reducible exact E6 | with_reducible exact Ext.comp (Ext.refl w5).drew E6); have P6 := P5.ex E56; have O6 := O5.ex E56; have own6 := own_ext5 hown5 E56; have y0 := Blk.c P6 0 (v := .slice (some ⟨g, 0, none⟩) 128 d1) rfl; have y1 := Blk.c P6 1 (v := .slice a2 n2 c2) rfl; have y2 := Blk.c P6 2 (v := .int .i64 s.taken) rfl; have y3 := Blk.c P6 3 (v := .slice a3 n3 c3) rfl; have y4 := Blk.c P6 4 (v := .int .i64 s.clock) rfl; have y5 := Blk.c P6 5 (v := .int .i64 s.at_) rfl; have y6 := Blk.c P6 6 (v := .int .i64 s.phase) rfl; have y7 := Blk.c P6 7 (v := .int .i64 s.order) rfl; have y8 := Blk.c P6 8 (v := .int .i64 s.operand) rfl; have y9 := Blk.c P6 9 (v := .int .i64 s.other) rfl; have y10 := Blk.c P6 10 (v := .int .i64 s.product) rfl; have y11 := Blk.c P6 11 (v := .int .i64 s.count) rfl; have y12 := Blk.c P6 12 (v := .int .i64 s.done) rfl; have y13 := Blk.c P6 13 (v := .int .i64 s.why) rfl; have k2 := Blk.c O6 2 (v := .int .i64 ad) rfl; have k0 := own_cell5 own6 (i := ad.toNat) (by omega); have k1 := own6.frozenAt ad.toNat; have k3 : g < w6.heap.size := (own_room own6).2; have k4 : w.heap.size < w6.heap.size := P6.lt; have k5 : w1.heap.size < w6.heap.size := O6.lt)
    all_goals
      go_wp2_with fail
      go_meet
      exact ⟨ext_put (F5.comp E56) _ (by dsimp only; omega), (P5.ex E56).ot (by omega), (R5.ex E56).ot (by omega), own_put5 own6 r⟩
  case rest =>
    obtain ⟨w7, rfl⟩ : ∃ w7 : World, w7 = wc := ⟨_, rfl⟩
    obtain ⟨F7, P7, R7, I7⟩ := hcut
    have u0 := Blk.c P7 0 (v := .slice (some ⟨g, 0, none⟩) 128 d1) rfl
    have u1 := Blk.c P7 1 (v := .slice a2 n2 c2) rfl
    have u2 := Blk.c P7 2 (v := .int .i64 s.taken) rfl
    have u3 := Blk.c P7 3 (v := .slice a3 n3 c3) rfl
    have u4 := Blk.c P7 4 (v := .int .i64 s.clock) rfl
    have u5 := Blk.c P7 5 (v := .int .i64 s.at_) rfl
    have u6 := Blk.c P7 6 (v := .int .i64 s.phase) rfl
    have u7 := Blk.c P7 7 (v := .int .i64 s.order) rfl
    have u8 := Blk.c P7 8 (v := .int .i64 s.operand) rfl
    have u9 := Blk.c P7 9 (v := .int .i64 s.other) rfl
    have u10 := Blk.c P7 10 (v := .int .i64 s.product) rfl
    have u11 := Blk.c P7 11 (v := .int .i64 s.count) rfl
    have u12 := Blk.c P7 12 (v := .int .i64 s.done) rfl
    have u13 := Blk.c P7 13 (v := .int .i64 s.why) rfl
    have g0 := Blk.f P7 0
    have g1 := Blk.f P7 1
    have g2 := Blk.f P7 2
    have g3 := Blk.f P7 3
    have g4 := Blk.f P7 4
    have g5 := Blk.f P7 5
    have g6 := Blk.f P7 6
    have g7 := Blk.f P7 7
    have g8 := Blk.f P7 8
    have g9 := Blk.f P7 9
    have g10 := Blk.f P7 10
    have g11 := Blk.f P7 11
    have g12 := Blk.f P7 12
    have g13 := Blk.f P7 13
    have q0 := Blk.c R7 0 (v := .slice none 0 0) rfl
    have q1 := Blk.c R7 1 (v := .slice none 0 0) rfl
    have q2 := Blk.c R7 2 (v := .int .i64 0) rfl
    have q3 := Blk.c R7 3 (v := .slice none 0 0) rfl
    have q4 := Blk.c R7 4 (v := .int .i64 0) rfl
    have q5 := Blk.c R7 5 (v := .int .i64 0) rfl
    have q6 := Blk.c R7 6 (v := .int .i64 0) rfl
    have q7 := Blk.c R7 7 (v := .int .i64 0) rfl
    have q8 := Blk.c R7 8 (v := .int .i64 0) rfl
    have q9 := Blk.c R7 9 (v := .int .i64 0) rfl
    have q10 := Blk.c R7 10 (v := .int .i64 0) rfl
    have q11 := Blk.c R7 11 (v := .int .i64 0) rfl
    have q12 := Blk.c R7 12 (v := .int .i64 0) rfl
    have q13 := Blk.c R7 13 (v := .int .i64 0) rfl
    have f0 := Blk.f R7 0
    have f1 := Blk.f R7 1
    have f2 := Blk.f R7 2
    have f3 := Blk.f R7 3
    have f4 := Blk.f R7 4
    have f5 := Blk.f R7 5
    have f6 := Blk.f R7 6
    have f7 := Blk.f R7 7
    have f8 := Blk.f R7 8
    have f9 := Blk.f R7 9
    have f10 := Blk.f R7 10
    have f11 := Blk.f R7 11
    have f12 := Blk.f R7 12
    have f13 := Blk.f R7 13
    have hz : w.heap.size + 1 < w7.heap.size := R7.lt
    have hz0 : w.heap.size < w7.heap.size := P7.lt
    go_wp2_with fail
    refine (hB5 _ (by repeat (first | with_reducible exact Ext.refl _ | with_reducible exact F7 | with_reducible exact F7.old | with_reducible exact F7.old.old | with_reducible exact F7.old.old.old | (with_reducible refine Ext.alloc ?_ _) | (with_reducible refine Below.drew ?_) | (with_reducible refine below_drewN ?_ _) | (with_reducible refine ext_put ?_ _ ?_; rotate_left; (first | with_reducible exact Nat.le_refl _ | with_reducible exact Nat.le_succ _ | omega | (dsimp only; omega)))))).mono ?_
    rintro e w8 ⟨b3, d3, rfl, I8, E8⟩
    have F8 : Ext w w8 := Ext.comp (by repeat (first | with_reducible exact Ext.refl _ | with_reducible exact F7 | with_reducible exact F7.old | with_reducible exact F7.old.old | with_reducible exact F7.old.old.old | (with_reducible refine Ext.alloc ?_ _) | (with_reducible refine Below.drew ?_) | (with_reducible refine below_drewN ?_ _) | (with_reducible refine ext_put ?_ _ ?_; rotate_left; (first | with_reducible exact Nat.le_refl _ | with_reducible exact Nat.le_succ _ | omega | (dsimp only; omega))))) E8
    have P8 := Blk.go P7 (by intro hblk; repeat (first | with_reducible exact hblk | with_reducible refine Blk.al ?_ _ | with_reducible refine Blk.dr ?_ | (with_reducible refine Blk.ot ?_ ?_; rotate_left; (first | omega | (dsimp only; omega))))) E8
    have R8 := Blk.go R7 (by intro hblk; repeat (first | with_reducible exact hblk | with_reducible refine Blk.al ?_ _ | with_reducible refine Blk.dr ?_ | (with_reducible refine Blk.ot ?_ ?_; rotate_left; (first | omega | (dsimp only; omega))))) E8
    clear u0 u1 u2 u3 u4 u5 u6 u7 u8 u9 u10 u11 u12 u13 g0 g1 g2 g3 g4 g5 g6 g7 g8 g9 g10 g11 g12 g13 q0 q1 q2 q3 q4 q5 q6 q7 q8 q9 q10 q11 q12 q13 f0 f1 f2 f3 f4 f5 f6 f7 f8 f9 f10 f11 f12 f13 hz hz0
    have u0 := Blk.c P8 0 (v := .slice (some ⟨g, 0, none⟩) 128 d1) rfl
    have u1 := Blk.c P8 1 (v := .slice a2 n2 c2) rfl
    have u2 := Blk.c P8 2 (v := .int .i64 s.taken) rfl
    have u3 := Blk.c P8 3 (v := .slice a3 n3 c3) rfl
    have u4 := Blk.c P8 4 (v := .int .i64 s.clock) rfl
    have u5 := Blk.c P8 5 (v := .int .i64 s.at_) rfl
    have u6 := Blk.c P8 6 (v := .int .i64 s.phase) rfl
    have u7 := Blk.c P8 7 (v := .int .i64 s.order) rfl
    have u8 := Blk.c P8 8 (v := .int .i64 s.operand) rfl
    have u9 := Blk.c P8 9 (v := .int .i64 s.other) rfl
    have u10 := Blk.c P8 10 (v := .int .i64 s.product) rfl
    have u11 := Blk.c P8 11 (v := .int .i64 s.count) rfl
    have u12 := Blk.c P8 12 (v := .int .i64 s.done) rfl
    have u13 := Blk.c P8 13 (v := .int .i64 s.why) rfl
    have g0 := Blk.f P8 0
    have g1 := Blk.f P8 1
    have g2 := Blk.f P8 2
    have g3 := Blk.f P8 3
    have g4 := Blk.f P8 4
    have g5 := Blk.f P8 5
    have g6 := Blk.f P8 6
    have g7 := Blk.f P8 7
    have g8 := Blk.f P8 8
    have g9 := Blk.f P8 9
    have g10 := Blk.f P8 10
    have g11 := Blk.f P8 11
    have g12 := Blk.f P8 12
    have g13 := Blk.f P8 13
    have q0 := Blk.c R8 0 (v := .slice none 0 0) rfl
    have q1 := Blk.c R8 1 (v := .slice none 0 0) rfl
    have q2 := Blk.c R8 2 (v := .int .i64 0) rfl
    have q3 := Blk.c R8 3 (v := .slice none 0 0) rfl
    have q4 := Blk.c R8 4 (v := .int .i64 0) rfl
    have q5 := Blk.c R8 5 (v := .int .i64 0) rfl
    have q6 := Blk.c R8 6 (v := .int .i64 0) rfl
    have q7 := Blk.c R8 7 (v := .int .i64 0) rfl
    have q8 := Blk.c R8 8 (v := .int .i64 0) rfl
    have q9 := Blk.c R8 9 (v := .int .i64 0) rfl
    have q10 := Blk.c R8 10 (v := .int .i64 0) rfl
    have q11 := Blk.c R8 11 (v := .int .i64 0) rfl
    have q12 := Blk.c R8 12 (v := .int .i64 0) rfl
    have q13 := Blk.c R8 13 (v := .int .i64 0) rfl
    have f0 := Blk.f R8 0
    have f1 := Blk.f R8 1
    have f2 := Blk.f R8 2
    have f3 := Blk.f R8 3
    have f4 := Blk.f R8 4
    have f5 := Blk.f R8 5
    have f6 := Blk.f R8 6
    have f7 := Blk.f R8 7
    have f8 := Blk.f R8 8
    have f9 := Blk.f R8 9
    have f10 := Blk.f R8 10
    have f11 := Blk.f R8 11
    have f12 := Blk.f R8 12
    have f13 := Blk.f R8 13
    have hz : w.heap.size + 1 < w8.heap.size := R8.lt
    have hz0 : w.heap.size < w8.heap.size := P8.lt
    have hI8 : Row w.heap.size (some ⟨b, off, none⟩) s.store w8 (some ⟨g, 0, none⟩) T.store := .inr ⟨g, rfl, by omega, by rw [HS.out]; exact I7.ext E8⟩
    have L8 := Row.mono (C := w.heap.size + 2) (.inr ⟨g, rfl, (by omega : w.heap.size + 2 ≤ g), by rw [HS.out]; exact I7.ext E8⟩ : Row (w.heap.size + 2) (some ⟨b, off, none⟩) s.store w8 (some ⟨g, 0, none⟩) T.store) (Nat.le_refl _)
    have hrl := R7.lt
    have J8 := Row.mono (C := w.heap.size + 2) I8 (by first | omega | (simp; omega))
    clear hrl
    go_wp2_with fail
    refine bodyPost_ret (v := psv (some ⟨g, 0, none⟩) a2 b3 128 d1 n2 c2 T.printed.length d3 T) (by simp [results, Try.results68, go_sem, hz, hz0, q0, q1, q2, q3, q4, q5, q6, q7, q8, q9, q10, q11, q12, q13]) rfl ⟨(some ⟨g, 0, none⟩), d1, b3, d3, ?_, ?_, ?_, ?_⟩
    · rw [HL1.out]
    · refine Row.mono (B := w.heap.size + 2) ?_ (by omega)
      exact (by repeat (first | with_reducible exact L8 | with_reducible refine Row.drew ?_ | (with_reducible refine Row.put ?_ ?_ _; rotate_left; (first | omega | (dsimp only; omega)))))
    · refine Row.mono (B := w.heap.size + 2) ?_ (by omega)
      exact (by repeat (first | with_reducible exact J8 | with_reducible refine Row.drew ?_ | (with_reducible refine Row.put ?_ ?_ _; rotate_left; (first | omega | (dsimp only; omega)))))
    · exact (by repeat (first | with_reducible exact Ext.refl _ | with_reducible exact F8 | with_reducible exact F8.old | with_reducible exact F8.old.old | with_reducible exact F8.old.old.old | (with_reducible refine Ext.alloc ?_ _) | (with_reducible refine Below.drew ?_) | (with_reducible refine below_drewN ?_ _) | (with_reducible refine ext_put ?_ _ ?_; rotate_left; (first | with_reducible exact Nat.le_refl _ | with_reducible exact Nat.le_succ _ | omega | (dsimp only; omega)))))
end Go.Proofs.Ytjfggepgjpdebaa
/- Contract: the reference of layer 5: Minor. -/
namespace Go.Proofs.Ytjfggepgjpdebaa
open Go.RowKit Go.Q
theorem rminor_any (a1 a2 a3 : Option Addr) (c1 c2 c3 : Nat) (s : Pu) (w : World) (hv : ValidP s) (i1 : IntsAt w a1 s.store) (i2 : IntsAt w a2 s.tape) (i3 : IntsAt w a3 s.printed) :
    Calls Try.prog 68 #[psv a1 a2 a3 128 c1 s.tape.length c2 s.printed.length c3 s] w (MinRes a1 a2 a3 s.tape.length c2 s.store s.printed w (minorP s)) := by
  by_cases hr : s.why ≠ 0 ∨ s.clock = 1000000000
  · exact rminor_rest a1 a2 a3 c1 c2 c3 s w hv i1 i2 i3 hr
  · have hy : s.why = 0 := by omega
    have hc : s.clock ≠ 1000000000 := by omega
    by_cases h3 : s.phase = 3
    · exact rminor_count a1 a2 a3 c1 c2 c3 s w hv i1 i2 i3 hy hc h3
    · cases hw : wrB s with
      | true => exact rminor_write a1 a2 a3 c1 c2 c3 s w hv i1 i2 i3 hy hc hw
      | false => exact rminor_wait a1 a2 a3 c1 c2 c3 s w hv i1 i2 i3 hy hc hw h3
end Go.Proofs.Ytjfggepgjpdebaa

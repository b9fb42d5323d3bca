import Derived.Test.YtjfggepgjpdebaaM23
import Derived.Test.YtjfggepgjpdebaaM9
set_option linter.unusedVariables false
set_option linter.unusedSimpArgs false
/- Contracts: the reference of layer 5: Comes. -/
namespace Go.Proofs.Ytjfggepgjpdebaa
open Go.RowKit Go.Q
set_option maxRecDepth 100000 in
set_option maxHeartbeats 1000000 in
theorem rcomes_any (a1 a2 a3 : Option Addr) (n1 c1 n2 c2 n3 c3 : Nat) (s : Pu) (a : Int) (w : World) (hc : 0 ≤ s.clock ∧ s.clock ≤ 1000000000) (ha : 0 ≤ a ∧ a ≤ 127) :
    Calls Try.prog 44 #[psv a1 a2 a3 n1 c1 n2 c2 n3 c3 s, .int .i64 a] w fun e w' => e = .returned (.bool (decide (s.clock % 16 = a % 16))) ∧ Ext w w' := by
  obtain ⟨c0, c1⟩ := hc
  obtain ⟨b0, b1⟩ := ha
  go_enter Try.func44, Try.ntmps44
  go_wp2
  go_ret
  exact ⟨ret_bool (by rw [Bool.eq_iff_iff]; simp), (Ext.refl w).alloc _⟩
end Go.Proofs.Ytjfggepgjpdebaa
/- Contracts: the reference of layer 5: counted. -/
namespace Go.Proofs.Ytjfggepgjpdebaa
open Go.RowKit Go.Q
set_option maxRecDepth 100000 in
set_option maxHeartbeats 2000000 in
theorem rcounted_any (a1 a2 a3 : Option Addr) (n1 c1 n2 c2 n3 c3 : Nat) (s : Pu) (w : World) (hc : 1 ≤ s.count ∧ s.count ≤ 12) :
    Calls Try.prog 130 #[psv a1 a2 a3 n1 c1 n2 c2 n3 c3 s] w fun e w' => e = .returned (psv a1 a2 a3 n1 c1 n2 c2 n3 c3 (countP s)) ∧ Ext w w' := by
  obtain ⟨d0, d1⟩ := hc
  by_cases h1 : s.count - 1 = 0
  · have e1 : (s.count - 1 == 0) = true := by simpa using h1
    have e2 : countP s = { s with count := s.count - 1, phase := 4 } := by unfold countP; rw [if_pos h1]
    rw [e2]
    clear h1 e2
    go_enter Try.func130, Try.ntmps130
    go_wp2_with fail
    refine bodyPost_ret (v := psv a1 a2 a3 n1 c1 n2 c2 n3 c3 { s with count := s.count - 1, phase := 4 }) (by simp [results, Try.results130, go_sem]) rfl ⟨rfl, ?_⟩
    exact ((Ext.refl w).alloc _).alloc _
  · have e1 : (s.count - 1 == 0) = false := by simpa using h1
    have e2 : countP s = { s with count := s.count - 1 } := by unfold countP; rw [if_neg h1]
    rw [e2]
    clear h1 e2
    go_enter Try.func130, Try.ntmps130
    go_wp2_with fail
    refine bodyPost_ret (v := psv a1 a2 a3 n1 c1 n2 c2 n3 c3 { s with count := s.count - 1 }) (by simp [results, Try.results130, go_sem]) rfl ⟨rfl, ?_⟩
    exact ((Ext.refl w).alloc _).alloc _
end Go.Proofs.Ytjfggepgjpdebaa
/- Contracts: the reference of layer 5: address, writes. -/
namespace Go.Proofs.Ytjfggepgjpdebaa
open Go.RowKit Go.Q
/-- the address for which a state waits, or the second word's -/
def adrP (s : Pu) : Int := if s.phase = 0 then s.at_ else if s.phase = 1 then (ordP s).frm else (ordP s).to
/-- the word at To comes by, and is replaced -/
def wrB (s : Pu) : Bool := decide (s.clock % 16 = (ordP s).to % 16) && (decide (s.phase = 4) || (decide (s.phase = 2) && decide ((ordP s).op ≠ 4)))
set_option maxRecDepth 100000 in
set_option maxHeartbeats 4000000 in
theorem raddress_any (a1 a2 a3 : Option Addr) (n1 c1 n2 c2 n3 c3 : Nat) (s : Pu) (w : World) (ho : 0 ≤ s.order ∧ s.order ≤ 16777215) :
    Calls Try.prog 99 #[psv a1 a2 a3 n1 c1 n2 c2 n3 c3 s] w fun e w' => e = .returned (.tuple #[.int .i64 (adrP s), .bool (s.phase != 3)]) ∧ Ext w w' := by
  have hdd := fun W => rdec_ord ho W
  have ea : adrP s = if s.phase = 0 then s.at_ else if s.phase = 1 then (decodeQ s.order).frm else (decodeQ s.order).to := rfl
  generalize decodeQ s.order = o at *
  by_cases h0 : s.phase = 0
  · have e1 : adrP s = s.at_ := by rw [ea, if_pos h0]
    have e2 : (s.phase != 3) = true := by simp [h0]
    have b0 : (s.phase == 0) = true := by simpa using h0
    rw [e1, e2]
    clear e1 e2 ea h0
    go_enter Try.func99, Try.ntmps99
    go_wp2_with fail
    refine (hdd _).mono ?_
    rintro e w1 ⟨rfl, E1⟩
    have P := Blk.of E1
    have u0 := Blk.c P 0 (v := .slice a1 n1 c1) rfl
    have u1 := Blk.c P 1 (v := .slice a2 n2 c2) rfl
    have u2 := Blk.c P 2 (v := .int .i64 s.taken) rfl
    have u3 := Blk.c P 3 (v := .slice a3 n3 c3) rfl
    have u4 := Blk.c P 4 (v := .int .i64 s.clock) rfl
    have u5 := Blk.c P 5 (v := .int .i64 s.at_) rfl
    have u6 := Blk.c P 6 (v := .int .i64 s.phase) rfl
    have u7 := Blk.c P 7 (v := .int .i64 s.order) rfl
    have u8 := Blk.c P 8 (v := .int .i64 s.operand) rfl
    have u9 := Blk.c P 9 (v := .int .i64 s.other) rfl
    have u10 := Blk.c P 10 (v := .int .i64 s.product) rfl
    have u11 := Blk.c P 11 (v := .int .i64 s.count) rfl
    have u12 := Blk.c P 12 (v := .int .i64 s.done) rfl
    have u13 := Blk.c P 13 (v := .int .i64 s.why) rfl
    have hz0 : w.heap.size < w1.heap.size := P.lt
    go_wp2_with fail
    go_ret2
    exact ⟨rfl, (by repeat (first | with_reducible exact Ext.refl _ | with_reducible exact E1 | with_reducible exact E1.old | with_reducible exact E1.old.old | with_reducible exact E1.old.old.old | (with_reducible refine Ext.alloc ?_ _) | (with_reducible refine Below.drew ?_) | (with_reducible refine below_drewN ?_ _) | (with_reducible refine ext_put ?_ _ ?_; rotate_left; (first | with_reducible exact Nat.le_refl _ | with_reducible exact Nat.le_succ _ | omega | (dsimp only; omega)))))⟩
  · have b0 : (s.phase == 0) = false := by simpa using h0
    by_cases h1 : s.phase = 1
    · have e1 : adrP s = o.frm := by rw [ea, if_neg h0, if_pos h1]
      have e2 : (s.phase != 3) = true := by simp [h1]
      have b1 : (s.phase == 1) = true := by simpa using h1
      rw [e1, e2]
      clear e1 e2 ea h0 h1
      go_enter Try.func99, Try.ntmps99
      go_wp2_with fail
      refine (hdd _).mono ?_
      rintro e w1 ⟨rfl, E1⟩
      have P := Blk.of E1
      have u0 := Blk.c P 0 (v := .slice a1 n1 c1) rfl
      have u1 := Blk.c P 1 (v := .slice a2 n2 c2) rfl
      have u2 := Blk.c P 2 (v := .int .i64 s.taken) rfl
      have u3 := Blk.c P 3 (v := .slice a3 n3 c3) rfl
      have u4 := Blk.c P 4 (v := .int .i64 s.clock) rfl
      have u5 := Blk.c P 5 (v := .int .i64 s.at_) rfl
      have u6 := Blk.c P 6 (v := .int .i64 s.phase) rfl
      have u7 := Blk.c P 7 (v := .int .i64 s.order) rfl
      have u8 := Blk.c P 8 (v := .int .i64 s.operand) rfl
      have u9 := Blk.c P 9 (v := .int .i64 s.other) rfl
      have u10 := Blk.c P 10 (v := .int .i64 s.product) rfl
      have u11 := Blk.c P 11 (v := .int .i64 s.count) rfl
      have u12 := Blk.c P 12 (v := .int .i64 s.done) rfl
      have u13 := Blk.c P 13 (v := .int .i64 s.why) rfl
      have hz0 : w.heap.size < w1.heap.size := P.lt
      go_wp2_with fail
      go_ret2
      exact ⟨rfl, (by repeat (first | with_reducible exact Ext.refl _ | with_reducible exact E1 | with_reducible exact E1.old | with_reducible exact E1.old.old | with_reducible exact E1.old.old.old | (with_reducible refine Ext.alloc ?_ _) | (with_reducible refine Below.drew ?_) | (with_reducible refine below_drewN ?_ _) | (with_reducible refine ext_put ?_ _ ?_; rotate_left; (first | with_reducible exact Nat.le_refl _ | with_reducible exact Nat.le_succ _ | omega | (dsimp only; omega)))))⟩
    · have e1 : adrP s = o.to := by rw [ea, if_neg h0, if_neg h1]
      have b1 : (s.phase == 1) = false := by simpa using h1
      rw [e1]
      clear e1 ea h0 h1
      go_enter Try.func99, Try.ntmps99
      go_wp2_with fail
      refine (hdd _).mono ?_
      rintro e w1 ⟨rfl, E1⟩
      have P := Blk.of E1
      have u0 := Blk.c P 0 (v := .slice a1 n1 c1) rfl
      have u1 := Blk.c P 1 (v := .slice a2 n2 c2) rfl
      have u2 := Blk.c P 2 (v := .int .i64 s.taken) rfl
      have u3 := Blk.c P 3 (v := .slice a3 n3 c3) rfl
      have u4 := Blk.c P 4 (v := .int .i64 s.clock) rfl
      have u5 := Blk.c P 5 (v := .int .i64 s.at_) rfl
      have u6 := Blk.c P 6 (v := .int .i64 s.phase) rfl
      have u7 := Blk.c P 7 (v := .int .i64 s.order) rfl
      have u8 := Blk.c P 8 (v := .int .i64 s.operand) rfl
      have u9 := Blk.c P 9 (v := .int .i64 s.other) rfl
      have u10 := Blk.c P 10 (v := .int .i64 s.product) rfl
      have u11 := Blk.c P 11 (v := .int .i64 s.count) rfl
      have u12 := Blk.c P 12 (v := .int .i64 s.done) rfl
      have u13 := Blk.c P 13 (v := .int .i64 s.why) rfl
      have hz0 : w.heap.size < w1.heap.size := P.lt
      go_wp2_with fail
      go_quiet (fail)
      go_wp2_with fail
      go_ret2
      exact ⟨rfl, below_drewN (by repeat (first | with_reducible exact Ext.refl _ | with_reducible exact E1 | with_reducible exact E1.old | with_reducible exact E1.old.old | with_reducible exact E1.old.old.old | (with_reducible refine Ext.alloc ?_ _) | (with_reducible refine Below.drew ?_) | (with_reducible refine below_drewN ?_ _) | (with_reducible refine ext_put ?_ _ ?_; rotate_left; (first | with_reducible exact Nat.le_refl _ | with_reducible exact Nat.le_succ _ | omega | (dsimp only; omega))))) _⟩
set_option maxRecDepth 100000 in
set_option maxHeartbeats 4000000 in
theorem rwrites_any (a1 a2 a3 : Option Addr) (n1 c1 n2 c2 n3 c3 : Nat) (s : Pu) (w : World) (ho : 0 ≤ s.order ∧ s.order ≤ 16777215) (hc : 0 ≤ s.clock ∧ s.clock ≤ 1000000000) (hto : 0 ≤ (ordP s).to ∧ (ordP s).to ≤ 127) :
    Calls Try.prog 100 #[psv a1 a2 a3 n1 c1 n2 c2 n3 c3 s] w fun e w' => e = .returned (.bool (wrB s)) ∧ Ext w w' := by
  have hdd := fun W => rdec_ord ho W
  have hcm := fun W => rcomes_any a1 a2 a3 n1 c1 n2 c2 n3 c3 s (ordP s).to W hc hto
  have eo : ordP s = decodeQ s.order := rfl
  have ew : wrB s = (decide (s.clock % 16 = (ordP s).to % 16) && (decide (s.phase = 4) || (decide (s.phase = 2) && decide ((ordP s).op ≠ 4)))) := rfl
  rw [eo] at hcm ew
  clear eo hto hc
  generalize decodeQ s.order = o at *
  generalize decide (s.clock % 16 = o.to % 16) = cb at *
  cases cb with
  | false =>
    have e1 : wrB s = false := by rw [ew]; rfl
    rw [e1]
    clear e1 ew
    go_enter Try.func100, Try.ntmps100
    go_wp2_with fail
    refine (hdd _).mono ?_
    rintro e w1 ⟨rfl, E1⟩
    have P := Blk.of E1
    have u0 := Blk.c P 0 (v := .slice a1 n1 c1) rfl
    have u1 := Blk.c P 1 (v := .slice a2 n2 c2) rfl
    have u2 := Blk.c P 2 (v := .int .i64 s.taken) rfl
    have u3 := Blk.c P 3 (v := .slice a3 n3 c3) rfl
    have u4 := Blk.c P 4 (v := .int .i64 s.clock) rfl
    have u5 := Blk.c P 5 (v := .int .i64 s.at_) rfl
    have u6 := Blk.c P 6 (v := .int .i64 s.phase) rfl
    have u7 := Blk.c P 7 (v := .int .i64 s.order) rfl
    have u8 := Blk.c P 8 (v := .int .i64 s.operand) rfl
    have u9 := Blk.c P 9 (v := .int .i64 s.other) rfl
    have u10 := Blk.c P 10 (v := .int .i64 s.product) rfl
    have u11 := Blk.c P 11 (v := .int .i64 s.count) rfl
    have u12 := Blk.c P 12 (v := .int .i64 s.done) rfl
    have u13 := Blk.c P 13 (v := .int .i64 s.why) rfl
    have hz0 : w.heap.size < w1.heap.size := P.lt
    go_wp2_with fail
    refine (hcm _).mono ?_
    rintro e w2 ⟨rfl, E2⟩
    have F2 : Ext w w2 := Ext.comp (by repeat (first | with_reducible exact Ext.refl _ | with_reducible exact E1 | with_reducible exact E1.old | with_reducible exact E1.old.old | with_reducible exact E1.old.old.old | (with_reducible refine Ext.alloc ?_ _) | (with_reducible refine Below.drew ?_) | (with_reducible refine below_drewN ?_ _) | (with_reducible refine ext_put ?_ _ ?_; rotate_left; (first | with_reducible exact Nat.le_refl _ | with_reducible exact Nat.le_succ _ | omega | (dsimp only; omega))))) E2
    go_wp2_with fail
    go_ret
    exact ⟨rfl, (by repeat (first | with_reducible exact Ext.refl _ | with_reducible exact F2 | with_reducible exact F2.old | with_reducible exact F2.old.old | with_reducible exact F2.old.old.old | (with_reducible refine Ext.alloc ?_ _) | (with_reducible refine Below.drew ?_) | (with_reducible refine below_drewN ?_ _) | (with_reducible refine ext_put ?_ _ ?_; rotate_left; (first | with_reducible exact Nat.le_refl _ | with_reducible exact Nat.le_succ _ | omega | (dsimp only; omega)))))⟩
  | true =>
    by_cases h4 : s.phase = 4
    · have e1 : wrB s = true := by rw [ew]; simp [h4]
      have b4 : (s.phase == 4) = true := by simpa using h4
      rw [e1]
      clear e1 ew h4
      go_enter Try.func100, Try.ntmps100
      go_wp2_with fail
      refine (hdd _).mono ?_
      rintro e w1 ⟨rfl, E1⟩
      have P := Blk.of E1
      have u0 := Blk.c P 0 (v := .slice a1 n1 c1) rfl
      have u1 := Blk.c P 1 (v := .slice a2 n2 c2) rfl
      have u2 := Blk.c P 2 (v := .int .i64 s.taken) rfl
      have u3 := Blk.c P 3 (v := .slice a3 n3 c3) rfl
      have u4 := Blk.c P 4 (v := .int .i64 s.clock) rfl
      have u5 := Blk.c P 5 (v := .int .i64 s.at_) rfl
      have u6 := Blk.c P 6 (v := .int .i64 s.phase) rfl
      have u7 := Blk.c P 7 (v := .int .i64 s.order) rfl
      have u8 := Blk.c P 8 (v := .int .i64 s.operand) rfl
      have u9 := Blk.c P 9 (v := .int .i64 s.other) rfl
      have u10 := Blk.c P 10 (v := .int .i64 s.product) rfl
      have u11 := Blk.c P 11 (v := .int .i64 s.count) rfl
      have u12 := Blk.c P 12 (v := .int .i64 s.done) rfl
      have u13 := Blk.c P 13 (v := .int .i64 s.why) rfl
      have hz0 : w.heap.size < w1.heap.size := P.lt
      go_wp2_with fail
      refine (hcm _).mono ?_
      rintro e w2 ⟨rfl, E2⟩
      have F2 : Ext w w2 := Ext.comp (by repeat (first | with_reducible exact Ext.refl _ | with_reducible exact E1 | with_reducible exact E1.old | with_reducible exact E1.old.old | with_reducible exact E1.old.old.old | (with_reducible refine Ext.alloc ?_ _) | (with_reducible refine Below.drew ?_) | (with_reducible refine below_drewN ?_ _) | (with_reducible refine ext_put ?_ _ ?_; rotate_left; (first | with_reducible exact Nat.le_refl _ | with_reducible exact Nat.le_succ _ | omega | (dsimp only; omega))))) E2
      have P2 := Blk.go P (by intro hblk; repeat (first | with_reducible exact hblk | with_reducible refine Blk.al ?_ _ | with_reducible refine Blk.dr ?_ | (with_reducible refine Blk.ot ?_ ?_; rotate_left; (first | omega | (dsimp only; omega))))) E2
      clear u0 u1 u2 u3 u4 u5 u6 u7 u8 u9 u10 u11 u12 u13
      have u0 := Blk.c P2 0 (v := .slice a1 n1 c1) rfl
      have u1 := Blk.c P2 1 (v := .slice a2 n2 c2) rfl
      have u2 := Blk.c P2 2 (v := .int .i64 s.taken) rfl
      have u3 := Blk.c P2 3 (v := .slice a3 n3 c3) rfl
      have u4 := Blk.c P2 4 (v := .int .i64 s.clock) rfl
      have u5 := Blk.c P2 5 (v := .int .i64 s.at_) rfl
      have u6 := Blk.c P2 6 (v := .int .i64 s.phase) rfl
      have u7 := Blk.c P2 7 (v := .int .i64 s.order) rfl
      have u8 := Blk.c P2 8 (v := .int .i64 s.operand) rfl
      have u9 := Blk.c P2 9 (v := .int .i64 s.other) rfl
      have u10 := Blk.c P2 10 (v := .int .i64 s.product) rfl
      have u11 := Blk.c P2 11 (v := .int .i64 s.count) rfl
      have u12 := Blk.c P2 12 (v := .int .i64 s.done) rfl
      have u13 := Blk.c P2 13 (v := .int .i64 s.why) rfl
      go_wp2_with fail
      go_ret
      exact ⟨rfl, (by repeat (first | with_reducible exact Ext.refl _ | with_reducible exact F2 | with_reducible exact F2.old | with_reducible exact F2.old.old | with_reducible exact F2.old.old.old | (with_reducible refine Ext.alloc ?_ _) | (with_reducible refine Below.drew ?_) | (with_reducible refine below_drewN ?_ _) | (with_reducible refine ext_put ?_ _ ?_; rotate_left; (first | with_reducible exact Nat.le_refl _ | with_reducible exact Nat.le_succ _ | omega | (dsimp only; omega)))))⟩
    · have b4 : (s.phase == 4) = false := by simpa using h4
      by_cases h2 : s.phase = 2
      · have e1 : wrB s = (o.op != 4) := by rw [ew]; simp [h2]; rw [Bool.eq_iff_iff]; simp
        have b2 : (s.phase == 2) = true := by simpa using h2
        rw [e1]
        clear e1 ew h4 h2
        go_enter Try.func100, Try.ntmps100
        go_wp2_with fail
        refine (hdd _).mono ?_
        rintro e w1 ⟨rfl, E1⟩
        have P := Blk.of E1
        have u0 := Blk.c P 0 (v := .slice a1 n1 c1) rfl
        have u1 := Blk.c P 1 (v := .slice a2 n2 c2) rfl
        have u2 := Blk.c P 2 (v := .int .i64 s.taken) rfl
        have u3 := Blk.c P 3 (v := .slice a3 n3 c3) rfl
        have u4 := Blk.c P 4 (v := .int .i64 s.clock) rfl
        have u5 := Blk.c P 5 (v := .int .i64 s.at_) rfl
        have u6 := Blk.c P 6 (v := .int .i64 s.phase) rfl
        have u7 := Blk.c P 7 (v := .int .i64 s.order) rfl
        have u8 := Blk.c P 8 (v := .int .i64 s.operand) rfl
        have u9 := Blk.c P 9 (v := .int .i64 s.other) rfl
        have u10 := Blk.c P 10 (v := .int .i64 s.product) rfl
        have u11 := Blk.c P 11 (v := .int .i64 s.count) rfl
        have u12 := Blk.c P 12 (v := .int .i64 s.done) rfl
        have u13 := Blk.c P 13 (v := .int .i64 s.why) rfl
        have hz0 : w.heap.size < w1.heap.size := P.lt
        have hz3 : w1.heap.size < (w1.alloc (.cells #[.int .i64 o.op, .int .i64 o.frm, .int .i64 o.to, .int .i64 o.nxt] 36)).heap.size := by simp
        have O := Blk.nw w1 #[.int .i64 o.op, .int .i64 o.frm, .int .i64 o.to, .int .i64 o.nxt] 36
        go_wp2_with fail
        refine (hcm _).mono ?_
        rintro e w2 ⟨rfl, E2⟩
        have F2 : Ext w w2 := Ext.comp (by repeat (first | with_reducible exact Ext.refl _ | with_reducible exact E1 | with_reducible exact E1.old | with_reducible exact E1.old.old | with_reducible exact E1.old.old.old | (with_reducible refine Ext.alloc ?_ _) | (with_reducible refine Below.drew ?_) | (with_reducible refine below_drewN ?_ _) | (with_reducible refine ext_put ?_ _ ?_; rotate_left; (first | with_reducible exact Nat.le_refl _ | with_reducible exact Nat.le_succ _ | omega | (dsimp only; omega))))) E2
        have P2 := Blk.go P (by intro hblk; repeat (first | with_reducible exact hblk | with_reducible refine Blk.al ?_ _ | with_reducible refine Blk.dr ?_ | (with_reducible refine Blk.ot ?_ ?_; rotate_left; (first | omega | (dsimp only; omega))))) E2
        have O2 := Blk.ex O E2
        clear u0 u1 u2 u3 u4 u5 u6 u7 u8 u9 u10 u11 u12 u13
        have u0 := Blk.c P2 0 (v := .slice a1 n1 c1) rfl
        have u1 := Blk.c P2 1 (v := .slice a2 n2 c2) rfl
        have u2 := Blk.c P2 2 (v := .int .i64 s.taken) rfl
        have u3 := Blk.c P2 3 (v := .slice a3 n3 c3) rfl
        have u4 := Blk.c P2 4 (v := .int .i64 s.clock) rfl
        have u5 := Blk.c P2 5 (v := .int .i64 s.at_) rfl
        have u6 := Blk.c P2 6 (v := .int .i64 s.phase) rfl
        have u7 := Blk.c P2 7 (v := .int .i64 s.order) rfl
        have u8 := Blk.c P2 8 (v := .int .i64 s.operand) rfl
        have u9 := Blk.c P2 9 (v := .int .i64 s.other) rfl
        have u10 := Blk.c P2 10 (v := .int .i64 s.product) rfl
        have u11 := Blk.c P2 11 (v := .int .i64 s.count) rfl
        have u12 := Blk.c P2 12 (v := .int .i64 s.done) rfl
        have u13 := Blk.c P2 13 (v := .int .i64 s.why) rfl
        have z0 := Blk.c O2 0 (v := .int .i64 o.op) rfl
        have z1 := Blk.c O2 1 (v := .int .i64 o.frm) rfl
        have z2 := Blk.c O2 2 (v := .int .i64 o.to) rfl
        have z3 := Blk.c O2 3 (v := .int .i64 o.nxt) rfl
        go_wp2_with fail
        go_ret
        exact ⟨rfl, (by repeat (first | with_reducible exact Ext.refl _ | with_reducible exact F2 | with_reducible exact F2.old | with_reducible exact F2.old.old | with_reducible exact F2.old.old.old | (with_reducible refine Ext.alloc ?_ _) | (with_reducible refine Below.drew ?_) | (with_reducible refine below_drewN ?_ _) | (with_reducible refine ext_put ?_ _ ?_; rotate_left; (first | with_reducible exact Nat.le_refl _ | with_reducible exact Nat.le_succ _ | omega | (dsimp only; omega)))))⟩
      · have e1 : wrB s = false := by rw [ew]; simp [h2, h4]
        have b2 : (s.phase == 2) = false := by simpa using h2
        rw [e1]
        clear e1 ew h4 h2
        go_enter Try.func100, Try.ntmps100
        go_wp2_with fail
        refine (hdd _).mono ?_
        rintro e w1 ⟨rfl, E1⟩
        have P := Blk.of E1
        have u0 := Blk.c P 0 (v := .slice a1 n1 c1) rfl
        have u1 := Blk.c P 1 (v := .slice a2 n2 c2) rfl
        have u2 := Blk.c P 2 (v := .int .i64 s.taken) rfl
        have u3 := Blk.c P 3 (v := .slice a3 n3 c3) rfl
        have u4 := Blk.c P 4 (v := .int .i64 s.clock) rfl
        have u5 := Blk.c P 5 (v := .int .i64 s.at_) rfl
        have u6 := Blk.c P 6 (v := .int .i64 s.phase) rfl
        have u7 := Blk.c P 7 (v := .int .i64 s.order) rfl
        have u8 := Blk.c P 8 (v := .int .i64 s.operand) rfl
        have u9 := Blk.c P 9 (v := .int .i64 s.other) rfl
        have u10 := Blk.c P 10 (v := .int .i64 s.product) rfl
        have u11 := Blk.c P 11 (v := .int .i64 s.count) rfl
        have u12 := Blk.c P 12 (v := .int .i64 s.done) rfl
        have u13 := Blk.c P 13 (v := .int .i64 s.why) rfl
        have hz0 : w.heap.size < w1.heap.size := P.lt
        go_wp2_with fail
        refine (hcm _).mono ?_
        rintro e w2 ⟨rfl, E2⟩
        have F2 : Ext w w2 := Ext.comp (by repeat (first | with_reducible exact Ext.refl _ | with_reducible exact E1 | with_reducible exact E1.old | with_reducible exact E1.old.old | with_reducible exact E1.old.old.old | (with_reducible refine Ext.alloc ?_ _) | (with_reducible refine Below.drew ?_) | (with_reducible refine below_drewN ?_ _) | (with_reducible refine ext_put ?_ _ ?_; rotate_left; (first | with_reducible exact Nat.le_refl _ | with_reducible exact Nat.le_succ _ | omega | (dsimp only; omega))))) E2
        have P2 := Blk.go P (by intro hblk; repeat (first | with_reducible exact hblk | with_reducible refine Blk.al ?_ _ | with_reducible refine Blk.dr ?_ | (with_reducible refine Blk.ot ?_ ?_; rotate_left; (first | omega | (dsimp only; omega))))) E2
        clear u0 u1 u2 u3 u4 u5 u6 u7 u8 u9 u10 u11 u12 u13
        have u0 := Blk.c P2 0 (v := .slice a1 n1 c1) rfl
        have u1 := Blk.c P2 1 (v := .slice a2 n2 c2) rfl
        have u2 := Blk.c P2 2 (v := .int .i64 s.taken) rfl
        have u3 := Blk.c P2 3 (v := .slice a3 n3 c3) rfl
        have u4 := Blk.c P2 4 (v := .int .i64 s.clock) rfl
        have u5 := Blk.c P2 5 (v := .int .i64 s.at_) rfl
        have u6 := Blk.c P2 6 (v := .int .i64 s.phase) rfl
        have u7 := Blk.c P2 7 (v := .int .i64 s.order) rfl
        have u8 := Blk.c P2 8 (v := .int .i64 s.operand) rfl
        have u9 := Blk.c P2 9 (v := .int .i64 s.other) rfl
        have u10 := Blk.c P2 10 (v := .int .i64 s.product) rfl
        have u11 := Blk.c P2 11 (v := .int .i64 s.count) rfl
        have u12 := Blk.c P2 12 (v := .int .i64 s.done) rfl
        have u13 := Blk.c P2 13 (v := .int .i64 s.why) rfl
        go_wp2_with fail
        go_ret
        exact ⟨rfl, (by repeat (first | with_reducible exact Ext.refl _ | with_reducible exact F2 | with_reducible exact F2.old | with_reducible exact F2.old.old | with_reducible exact F2.old.old.old | (with_reducible refine Ext.alloc ?_ _) | (with_reducible refine Below.drew ?_) | (with_reducible refine below_drewN ?_ _) | (with_reducible refine ext_put ?_ _ ?_; rotate_left; (first | with_reducible exact Nat.le_refl _ | with_reducible exact Nat.le_succ _ | omega | (dsimp only; omega)))))⟩
end Go.Proofs.Ytjfggepgjpdebaa
/- Contract: the reference of layer 5: behind (Q13h). -/
namespace Go.Proofs.Ytjfggepgjpdebaa
open Go.RowKit Go.Q
theorem comes_adr {s : Pu} (hv : ValidP s) (hp : s.phase ≠ 3) : comesP s = decide (s.clock % 16 = adrP s % 16) ∧ addrP s = adrP s ∧ 0 ≤ adrP s ∧ adrP s ≤ 127 := by
  have hb := addrP_bd hv
  have e : addrP s = adrP s := by unfold addrP adrP; rw [if_neg hp]
  have h0 : ¬ addrP s = -1 := fun c => hp (hb.2.2.1 c)
  have h1 : 0 ≤ addrP s := by omega
  refine ⟨?_, e, by omega, by omega⟩
  unfold comesP
  rw [decide_eq_true h1, Bool.true_and, e]
  rw [Bool.eq_iff_iff]; simp only [decide_eq_true_eq]
  omega
theorem tick_go {t : Pu} (h : t.why = 0) : tickP t = { t with clock := t.clock + 1 } := by unfold tickP; rw [if_pos h]
theorem tick_stop {t : Pu} (h : ¬ t.why = 0) : tickP t = t := by unfold tickP; rw [if_neg h]
theorem came_printed {s : Pu} (x : Int) (h : ¬ s.phase = 1) : (cameP s x).printed = s.printed := by
  unfold cameP fetchP toP countP finishP
  repeat' split
  all_goals first | rfl | omega
theorem came_clock (s : Pu) (x : Int) : (cameP s x).clock = s.clock := by
  unfold cameP fetchP fromP toP countP finishP
  repeat' split
  all_goals rfl
theorem came_why {s : Pu} (x : Int) (h : ¬ s.phase = 0) : (cameP s x).why = s.why := by
  unfold cameP fetchP fromP toP countP finishP
  repeat' split
  all_goals first | rfl | omega
end Go.Proofs.Ytjfggepgjpdebaa
/- What the contracts of layer 5's reference share, on. -/
namespace Go.Proofs.Ytjfggepgjpdebaa
open Go.RowKit Go.Q
theorem Row.nm14 {W W3 : World} {B m : Nat} {a a' : Option Addr} {ys ys' : List Int} {x0 x1 x2 x3 x4 x5 x6 x7 x8 x9 x10 x11 x12 x13 : Value} (h : Row B a ys W a' ys') (e : W3 = ((((((((((((((W.setCell ⟨m, 0, none⟩ x0).setCell ⟨m, 1, none⟩ x1).setCell ⟨m, 2, none⟩ x2).setCell ⟨m, 3, none⟩ x3).setCell ⟨m, 4, none⟩ x4).setCell ⟨m, 5, none⟩ x5).setCell ⟨m, 6, none⟩ x6).setCell ⟨m, 7, none⟩ x7).setCell ⟨m, 8, none⟩ x8).setCell ⟨m, 9, none⟩ x9).setCell ⟨m, 10, none⟩ x10).setCell ⟨m, 11, none⟩ x11).setCell ⟨m, 12, none⟩ x12).setCell ⟨m, 13, none⟩ x13)) (hm : m < B) : Row B a ys W3 a' ys' := by
  rw [e]
  exact (((((((((((((h.put hm x0).put hm x1).put hm x2).put hm x3).put hm x4).put hm x5).put hm x6).put hm x7).put hm x8).put hm x9).put hm x10).put hm x11).put hm x12).put hm x13
end Go.Proofs.Ytjfggepgjpdebaa

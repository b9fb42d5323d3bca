import Derived.Test.YtjfggepgjpdebaaM9
set_option linter.unusedVariables false
set_option linter.unusedSimpArgs false
/- Contracts: the reference of layer 5: in, half, bit. -/
namespace Go.Proofs.Ytjfggepgjpdebaa
open Go.RowKit Go.Q
set_option maxHeartbeats 400000 in
theorem rin5_any (n lo hi : Int) (w : World) : Calls Try.prog 67 #[.int .i64 n, .int .i64 lo, .int .i64 hi] w fun e w' => e = .returned (.bool (inB n lo hi)) ∧ w = w' := by
  by_cases h0 : lo ≤ n <;> by_cases h1 : n ≤ hi
  all_goals
    go_enter Try.func67, Try.ntmps67
    go_wp2
    go_ret
    exact ⟨ret_bool (by rw [Bool.eq_iff_iff]; simp [inB] <;> omega), rfl⟩
set_option maxHeartbeats 400000 in
theorem rhalf_any (w : World) : Calls Try.prog 82 #[] w fun e w' => e = .returned (.int .i64 140737488355328) ∧ w = w' := by
  go_enter Try.func82, Try.ntmps82
  go_wp2
  go_ret
  exact ⟨rfl, rfl⟩
theorem half_pow (x : Int) (k : Nat) : x / 2 ^ k / 2 = x / 2 ^ (k + 1) := by
  have h := Nat.two_pow_pos k
  have e : ((2 ^ k : Nat) : Int) = 2 ^ k := by simp
  rw [Int.ediv_ediv, if_neg (fun c => by omega), Int.sub_zero, Int.pow_succ]
set_option maxHeartbeats 1000000 in
theorem rbit_any (x : Int) (n : Nat) (w : World) (h0 : 0 ≤ x) (h1 : x ≤ 9223372036854775807) (hn : n ≤ 9223372036854775807) :
    Calls Try.prog 70 #[.int .i64 x, .int .i64 n] w fun e w' => e = .returned (.int .i64 (bitQ x n)) ∧ w = w' := by
  go_enter Try.func70, Try.ntmps70
  go_wp2
  go_loop [0, 5] (fun a i => ∃ k : Nat, k ≤ n ∧ i = .int .i64 k ∧ a = .int .i64 (x / 2 ^ k)) (fun _ i => n - (intOf i).toNat)
  case atStart => exact ⟨0, Nat.zero_le _, rfl, by simp⟩
  case round =>
    obtain ⟨k, hk, rfl, rfl⟩ := hrel
    have hp := Lib.hid (half_pow x k)
    have hb : bitQ x k = x / 2 ^ k % 2 := rfl
    have y0 : 0 ≤ x / 2 ^ k := Int.ediv_nonneg h0 (Int.pow_nonneg (by decide))
    have y1 : x / 2 ^ k ≤ 9223372036854775807 := Int.le_trans (Int.ediv_le_self _ h0) h1
    by_cases hlt : k < n
    · have hltz : (k : Int) < (n : Int) := by omega
      clear hb
      generalize x / 2 ^ k = y at *
      go_wp2
      go_round
      case rel => exact ⟨k + 1, by omega, by go_num, by rw [← hp.out]⟩
      case measure => simp [intOf]; omega
    · have hltz : ¬ (k : Int) < (n : Int) := by omega
      obtain rfl : k = n := by omega
      have Hb := Lib.hid hb
      clear hb
      generalize x / 2 ^ k = y at *
      go_wp2
      go_ret
      exact ⟨ret_int (by rw [Hb.out]), rfl⟩
end Go.Proofs.Ytjfggepgjpdebaa
/- Contract: the reference of layer 5: fits. -/
namespace Go.Proofs.Ytjfggepgjpdebaa
open Go.RowKit Go.Q
set_option maxRecDepth 100000 in
set_option maxHeartbeats 8000000 in
theorem rfits_any (a1 a2 a3 : Option Addr) (n1 c1 c2 c3 : Nat) (s : Pu) (w : World) (ho : 0 ≤ s.order ∧ s.order ≤ 16777215) (hp : 0 ≤ s.phase ∧ s.phase ≤ 4) (hl : s.tape.length ≤ 200 ∧ s.printed.length ≤ 200) :
    Calls Try.prog 83 #[psv a1 a2 a3 n1 c1 s.tape.length c2 s.printed.length c3 s] w fun e w' => e = .returned (.bool (cntB s && fitsB s)) ∧ Ext w w' := by
  have hdd := fun W => rdec_ord ho W
  have hin := fun W => rin5_any (decodeQ s.order).op 1 4 W
  have ec : cntB s = (decide (s.phase = 3) == decide (0 < s.count)) := rfl
  have ef : fitsB s = if s.phase = 1 then inB (decodeQ s.order).op 1 4 || decide ((decodeQ s.order).op = 5) || (decide ((decodeQ s.order).op = 7) && decide (s.printed.length < 200))
      else if s.phase = 2 then inB (decodeQ s.order).op 1 4 || (decide ((decodeQ s.order).op = 6) && decide (s.taken < s.tape.length))
      else if s.phase = 3 ∨ s.phase = 4 then decide ((decodeQ s.order).op = 4) else true := rfl
  obtain ⟨ph0, ph1⟩ := hp
  obtain ⟨hl0, hl1⟩ := hl
  generalize hb : inB (decodeQ s.order).op 1 4 = wk at *
  clear hb
  generalize decodeQ s.order = o at *
  generalize cntB s = cb at *
  generalize fitsB s = fb at *
  by_cases h3 : s.phase = 3
  · skip
    have b3 : (s.phase == 3) = true := by simpa using h3
    have b1 : (s.phase == 1) = false := by simp [h3]
    have b2 : (s.phase == 2) = false := by simp [h3]
    have b0 : (s.phase == 0) = false := by simp [h3]
    by_cases hg : 0 < s.count
    · skip
      have bg : decide (0 < s.count) = true := by simpa using hg
      by_cases h4 : o.op = 4
      · skip
        have b4 : (o.op == 4) = true := by simpa using h4
        have e2 : (cb && fb) = true := by rw [ec, ef]; simp [h3, hg, h4]
        rw [e2]
        clear e2 ec ef h3 hg h4
        go_enter Try.func83, Try.ntmps83
        go_wp2_with fail
        refine (hdd _).mono ?_
        rintro e w1 ⟨rfl, E1⟩
        have P := Blk.of E1
        have u0 := Blk.c P 0 (v := .slice a1 n1 c1) rfl
        have u1 := Blk.c P 1 (v := .slice a2 s.tape.length c2) rfl
        have u2 := Blk.c P 2 (v := .int .i64 s.taken) rfl
        have u3 := Blk.c P 3 (v := .slice a3 s.printed.length c3) rfl
        have u4 := Blk.c P 4 (v := .int .i64 s.clock) rfl
        have u5 := Blk.c P 5 (v := .int .i64 s.at_) rfl
        have u6 := Blk.c P 6 (v := .int .i64 s.phase) rfl
        have u7 := Blk.c P 7 (v := .int .i64 s.order) rfl
        have u8 := Blk.c P 8 (v := .int .i64 s.operand) rfl
        have u9 := Blk.c P 9 (v := .int .i64 s.other) rfl
        have u10 := Blk.c P 10 (v := .int .i64 s.product) rfl
        have u11 := Blk.c P 11 (v := .int .i64 s.count) rfl
        have u12 := Blk.c P 12 (v := .int .i64 s.done) rfl
        have u13 := Blk.c P 13 (v := .int .i64 s.why) rfl
        have hz0 : w.heap.size < w1.heap.size := P.lt
        go_wp2_with fail
        refine (hin _).mono ?_
        rintro e w2 ⟨rfl, rfl⟩
        go_wp2_with fail
        go_ret
        exact ⟨rfl, (by repeat (first | with_reducible exact Ext.refl _ | with_reducible exact E1 | with_reducible exact E1.old | with_reducible exact E1.old.old | with_reducible exact E1.old.old.old | (with_reducible refine Ext.alloc ?_ _) | (with_reducible refine Below.drew ?_) | (with_reducible refine below_drewN ?_ _) | (with_reducible refine ext_put ?_ _ ?_; rotate_left; (first | with_reducible exact Nat.le_refl _ | with_reducible exact Nat.le_succ _ | omega | (dsimp only; omega)))))⟩
      · skip
        have b4 : (o.op == 4) = false := by simpa using h4
        have e2 : (cb && fb) = false := by rw [ec, ef]; simp [h3, hg, h4]
        rw [e2]
        clear e2 ec ef h3 hg h4
        go_enter Try.func83, Try.ntmps83
        go_wp2_with fail
        refine (hdd _).mono ?_
        rintro e w1 ⟨rfl, E1⟩
        have P := Blk.of E1
        have u0 := Blk.c P 0 (v := .slice a1 n1 c1) rfl
        have u1 := Blk.c P 1 (v := .slice a2 s.tape.length c2) rfl
        have u2 := Blk.c P 2 (v := .int .i64 s.taken) rfl
        have u3 := Blk.c P 3 (v := .slice a3 s.printed.length c3) rfl
        have u4 := Blk.c P 4 (v := .int .i64 s.clock) rfl
        have u5 := Blk.c P 5 (v := .int .i64 s.at_) rfl
        have u6 := Blk.c P 6 (v := .int .i64 s.phase) rfl
        have u7 := Blk.c P 7 (v := .int .i64 s.order) rfl
        have u8 := Blk.c P 8 (v := .int .i64 s.operand) rfl
        have u9 := Blk.c P 9 (v := .int .i64 s.other) rfl
        have u10 := Blk.c P 10 (v := .int .i64 s.product) rfl
        have u11 := Blk.c P 11 (v := .int .i64 s.count) rfl
        have u12 := Blk.c P 12 (v := .int .i64 s.done) rfl
        have u13 := Blk.c P 13 (v := .int .i64 s.why) rfl
        have hz0 : w.heap.size < w1.heap.size := P.lt
        go_wp2_with fail
        refine (hin _).mono ?_
        rintro e w2 ⟨rfl, rfl⟩
        go_wp2_with fail
        go_ret
        exact ⟨rfl, (by repeat (first | with_reducible exact Ext.refl _ | with_reducible exact E1 | with_reducible exact E1.old | with_reducible exact E1.old.old | with_reducible exact E1.old.old.old | (with_reducible refine Ext.alloc ?_ _) | (with_reducible refine Below.drew ?_) | (with_reducible refine below_drewN ?_ _) | (with_reducible refine ext_put ?_ _ ?_; rotate_left; (first | with_reducible exact Nat.le_refl _ | with_reducible exact Nat.le_succ _ | omega | (dsimp only; omega)))))⟩
    · skip
      have bg : decide (0 < s.count) = false := by simpa using hg
      have e2 : (cb && fb) = false := by rw [ec, ef]; simp [h3, hg]
      rw [e2]
      clear e2 ec ef h3 hg
      go_enter Try.func83, Try.ntmps83
      go_wp2_with fail
      refine (hdd _).mono ?_
      rintro e w1 ⟨rfl, E1⟩
      have P := Blk.of E1
      have u0 := Blk.c P 0 (v := .slice a1 n1 c1) rfl
      have u1 := Blk.c P 1 (v := .slice a2 s.tape.length c2) rfl
      have u2 := Blk.c P 2 (v := .int .i64 s.taken) rfl
      have u3 := Blk.c P 3 (v := .slice a3 s.printed.length c3) rfl
      have u4 := Blk.c P 4 (v := .int .i64 s.clock) rfl
      have u5 := Blk.c P 5 (v := .int .i64 s.at_) rfl
      have u6 := Blk.c P 6 (v := .int .i64 s.phase) rfl
      have u7 := Blk.c P 7 (v := .int .i64 s.order) rfl
      have u8 := Blk.c P 8 (v := .int .i64 s.operand) rfl
      have u9 := Blk.c P 9 (v := .int .i64 s.other) rfl
      have u10 := Blk.c P 10 (v := .int .i64 s.product) rfl
      have u11 := Blk.c P 11 (v := .int .i64 s.count) rfl
      have u12 := Blk.c P 12 (v := .int .i64 s.done) rfl
      have u13 := Blk.c P 13 (v := .int .i64 s.why) rfl
      have hz0 : w.heap.size < w1.heap.size := P.lt
      go_wp2_with fail
      go_ret
      exact ⟨rfl, (by repeat (first | with_reducible exact Ext.refl _ | with_reducible exact E1 | with_reducible exact E1.old | with_reducible exact E1.old.old | with_reducible exact E1.old.old.old | (with_reducible refine Ext.alloc ?_ _) | (with_reducible refine Below.drew ?_) | (with_reducible refine below_drewN ?_ _) | (with_reducible refine ext_put ?_ _ ?_; rotate_left; (first | with_reducible exact Nat.le_refl _ | with_reducible exact Nat.le_succ _ | omega | (dsimp only; omega)))))⟩
  · skip
    have b3 : (s.phase == 3) = false := by simpa using h3
    by_cases hg : 0 < s.count
    · skip
      have bg : decide (0 < s.count) = true := by simpa using hg
      have e2 : (cb && fb) = false := by rw [ec, ef]; simp [h3, hg]
      rw [e2]
      clear e2 ec ef h3 hg
      go_enter Try.func83, Try.ntmps83
      go_wp2_with fail
      refine (hdd _).mono ?_
      rintro e w1 ⟨rfl, E1⟩
      have P := Blk.of E1
      have u0 := Blk.c P 0 (v := .slice a1 n1 c1) rfl
      have u1 := Blk.c P 1 (v := .slice a2 s.tape.length c2) rfl
      have u2 := Blk.c P 2 (v := .int .i64 s.taken) rfl
      have u3 := Blk.c P 3 (v := .slice a3 s.printed.length c3) rfl
      have u4 := Blk.c P 4 (v := .int .i64 s.clock) rfl
      have u5 := Blk.c P 5 (v := .int .i64 s.at_) rfl
      have u6 := Blk.c P 6 (v := .int .i64 s.phase) rfl
      have u7 := Blk.c P 7 (v := .int .i64 s.order) rfl
      have u8 := Blk.c P 8 (v := .int .i64 s.operand) rfl
      have u9 := Blk.c P 9 (v := .int .i64 s.other) rfl
      have u10 := Blk.c P 10 (v := .int .i64 s.product) rfl
      have u11 := Blk.c P 11 (v := .int .i64 s.count) rfl
      have u12 := Blk.c P 12 (v := .int .i64 s.done) rfl
      have u13 := Blk.c P 13 (v := .int .i64 s.why) rfl
      have hz0 : w.heap.size < w1.heap.size := P.lt
      go_wp2_with fail
      go_ret
      exact ⟨rfl, (by repeat (first | with_reducible exact Ext.refl _ | with_reducible exact E1 | with_reducible exact E1.old | with_reducible exact E1.old.old | with_reducible exact E1.old.old.old | (with_reducible refine Ext.alloc ?_ _) | (with_reducible refine Below.drew ?_) | (with_reducible refine below_drewN ?_ _) | (with_reducible refine ext_put ?_ _ ?_; rotate_left; (first | with_reducible exact Nat.le_refl _ | with_reducible exact Nat.le_succ _ | omega | (dsimp only; omega)))))⟩
    · skip
      have bg : decide (0 < s.count) = false := by simpa using hg
      by_cases h1 : s.phase = 1
      · skip
        have b1 : (s.phase == 1) = true := by simpa using h1
        cases wk with
        | true =>
          have e2 : (cb && fb) = true := by rw [ec, ef]; simp [h3, hg, h1]
          rw [e2]
          clear e2 ec ef h3 hg h1
          go_enter Try.func83, Try.ntmps83
          go_wp2_with fail
          refine (hdd _).mono ?_
          rintro e w1 ⟨rfl, E1⟩
          have P := Blk.of E1
          have u0 := Blk.c P 0 (v := .slice a1 n1 c1) rfl
          have u1 := Blk.c P 1 (v := .slice a2 s.tape.length c2) rfl
          have u2 := Blk.c P 2 (v := .int .i64 s.taken) rfl
          have u3 := Blk.c P 3 (v := .slice a3 s.printed.length c3) rfl
          have u4 := Blk.c P 4 (v := .int .i64 s.clock) rfl
          have u5 := Blk.c P 5 (v := .int .i64 s.at_) rfl
          have u6 := Blk.c P 6 (v := .int .i64 s.phase) rfl
          have u7 := Blk.c P 7 (v := .int .i64 s.order) rfl
          have u8 := Blk.c P 8 (v := .int .i64 s.operand) rfl
          have u9 := Blk.c P 9 (v := .int .i64 s.other) rfl
          have u10 := Blk.c P 10 (v := .int .i64 s.product) rfl
          have u11 := Blk.c P 11 (v := .int .i64 s.count) rfl
          have u12 := Blk.c P 12 (v := .int .i64 s.done) rfl
          have u13 := Blk.c P 13 (v := .int .i64 s.why) rfl
          have hz0 : w.heap.size < w1.heap.size := P.lt
          go_wp2_with fail
          refine (hin _).mono ?_
          rintro e w2 ⟨rfl, rfl⟩
          go_wp2_with fail
          go_ret
          exact ⟨rfl, (by repeat (first | with_reducible exact Ext.refl _ | with_reducible exact E1 | with_reducible exact E1.old | with_reducible exact E1.old.old | with_reducible exact E1.old.old.old | (with_reducible refine Ext.alloc ?_ _) | (with_reducible refine Below.drew ?_) | (with_reducible refine below_drewN ?_ _) | (with_reducible refine ext_put ?_ _ ?_; rotate_left; (first | with_reducible exact Nat.le_refl _ | with_reducible exact Nat.le_succ _ | omega | (dsimp only; omega)))))⟩
        | false =>
          by_cases h5 : o.op = 5
          · skip
            have b5 : (o.op == 5) = true := by simpa using h5
            have e2 : (cb && fb) = true := by rw [ec, ef]; simp [h3, hg, h1, h5]
            rw [e2]
            clear e2 ec ef h3 hg h1 h5
            go_enter Try.func83, Try.ntmps83
            go_wp2_with fail
            refine (hdd _).mono ?_
            rintro e w1 ⟨rfl, E1⟩
            have P := Blk.of E1
            have u0 := Blk.c P 0 (v := .slice a1 n1 c1) rfl
            have u1 := Blk.c P 1 (v := .slice a2 s.tape.length c2) rfl
            have u2 := Blk.c P 2 (v := .int .i64 s.taken) rfl
            have u3 := Blk.c P 3 (v := .slice a3 s.printed.length c3) rfl
            have u4 := Blk.c P 4 (v := .int .i64 s.clock) rfl
            have u5 := Blk.c P 5 (v := .int .i64 s.at_) rfl
            have u6 := Blk.c P 6 (v := .int .i64 s.phase) rfl
            have u7 := Blk.c P 7 (v := .int .i64 s.order) rfl
            have u8 := Blk.c P 8 (v := .int .i64 s.operand) rfl
            have u9 := Blk.c P 9 (v := .int .i64 s.other) rfl
            have u10 := Blk.c P 10 (v := .int .i64 s.product) rfl
            have u11 := Blk.c P 11 (v := .int .i64 s.count) rfl
            have u12 := Blk.c P 12 (v := .int .i64 s.done) rfl
            have u13 := Blk.c P 13 (v := .int .i64 s.why) rfl
            have hz0 : w.heap.size < w1.heap.size := P.lt
            go_wp2_with fail
            refine (hin _).mono ?_
            rintro e w2 ⟨rfl, rfl⟩
            go_wp2_with fail
            go_ret
            exact ⟨rfl, (by repeat (first | with_reducible exact Ext.refl _ | with_reducible exact E1 | with_reducible exact E1.old | with_reducible exact E1.old.old | with_reducible exact E1.old.old.old | (with_reducible refine Ext.alloc ?_ _) | (with_reducible refine Below.drew ?_) | (with_reducible refine below_drewN ?_ _) | (with_reducible refine ext_put ?_ _ ?_; rotate_left; (first | with_reducible exact Nat.le_refl _ | with_reducible exact Nat.le_succ _ | omega | (dsimp only; omega)))))⟩
          · skip
            have b5 : (o.op == 5) = false := by simpa using h5
            by_cases h7 : o.op = 7
            · skip
              have b7 : (o.op == 7) = true := by simpa using h7
              by_cases hq : s.printed.length < 200
              · skip
                have bq : decide ((s.printed.length : Int) < 200) = true := by simp; omega
                have e2 : (cb && fb) = true := by rw [ec, ef]; simp [h3, hg, h1, h5, h7, hq]
                rw [e2]
                clear e2 ec ef h3 hg h1 h5 h7 hq
                go_enter Try.func83, Try.ntmps83
                go_wp2_with fail
                refine (hdd _).mono ?_
                rintro e w1 ⟨rfl, E1⟩
                have P := Blk.of E1
                have u0 := Blk.c P 0 (v := .slice a1 n1 c1) rfl
                have u1 := Blk.c P 1 (v := .slice a2 s.tape.length c2) rfl
                have u2 := Blk.c P 2 (v := .int .i64 s.taken) rfl
                have u3 := Blk.c P 3 (v := .slice a3 s.printed.length c3) rfl
                have u4 := Blk.c P 4 (v := .int .i64 s.clock) rfl
                have u5 := Blk.c P 5 (v := .int .i64 s.at_) rfl
                have u6 := Blk.c P 6 (v := .int .i64 s.phase) rfl
                have u7 := Blk.c P 7 (v := .int .i64 s.order) rfl
                have u8 := Blk.c P 8 (v := .int .i64 s.operand) rfl
                have u9 := Blk.c P 9 (v := .int .i64 s.other) rfl
                have u10 := Blk.c P 10 (v := .int .i64 s.product) rfl
                have u11 := Blk.c P 11 (v := .int .i64 s.count) rfl
                have u12 := Blk.c P 12 (v := .int .i64 s.done) rfl
                have u13 := Blk.c P 13 (v := .int .i64 s.why) rfl
                have hz0 : w.heap.size < w1.heap.size := P.lt
                go_wp2_with fail
                refine (hin _).mono ?_
                rintro e w2 ⟨rfl, rfl⟩
                go_wp2_with fail
                go_ret
                exact ⟨rfl, (by repeat (first | with_reducible exact Ext.refl _ | with_reducible exact E1 | with_reducible exact E1.old | with_reducible exact E1.old.old | with_reducible exact E1.old.old.old | (with_reducible refine Ext.alloc ?_ _) | (with_reducible refine Below.drew ?_) | (with_reducible refine below_drewN ?_ _) | (with_reducible refine ext_put ?_ _ ?_; rotate_left; (first | with_reducible exact Nat.le_refl _ | with_reducible exact Nat.le_succ _ | omega | (dsimp only; omega)))))⟩
              · skip
                have bq : decide ((s.printed.length : Int) < 200) = false := by simp; omega
                have e2 : (cb && fb) = false := by rw [ec, ef]; simp [h3, hg, h1, h5, h7, hq]
                rw [e2]
                clear e2 ec ef h3 hg h1 h5 h7 hq
                go_enter Try.func83, Try.ntmps83
                go_wp2_with fail
                refine (hdd _).mono ?_
                rintro e w1 ⟨rfl, E1⟩
                have P := Blk.of E1
                have u0 := Blk.c P 0 (v := .slice a1 n1 c1) rfl
                have u1 := Blk.c P 1 (v := .slice a2 s.tape.length c2) rfl
                have u2 := Blk.c P 2 (v := .int .i64 s.taken) rfl
                have u3 := Blk.c P 3 (v := .slice a3 s.printed.length c3) rfl
                have u4 := Blk.c P 4 (v := .int .i64 s.clock) rfl
                have u5 := Blk.c P 5 (v := .int .i64 s.at_) rfl
                have u6 := Blk.c P 6 (v := .int .i64 s.phase) rfl
                have u7 := Blk.c P 7 (v := .int .i64 s.order) rfl
                have u8 := Blk.c P 8 (v := .int .i64 s.operand) rfl
                have u9 := Blk.c P 9 (v := .int .i64 s.other) rfl
                have u10 := Blk.c P 10 (v := .int .i64 s.product) rfl
                have u11 := Blk.c P 11 (v := .int .i64 s.count) rfl
                have u12 := Blk.c P 12 (v := .int .i64 s.done) rfl
                have u13 := Blk.c P 13 (v := .int .i64 s.why) rfl
                have hz0 : w.heap.size < w1.heap.size := P.lt
                go_wp2_with fail
                refine (hin _).mono ?_
                rintro e w2 ⟨rfl, rfl⟩
                go_wp2_with fail
                go_ret
                exact ⟨rfl, (by repeat (first | with_reducible exact Ext.refl _ | with_reducible exact E1 | with_reducible exact E1.old | with_reducible exact E1.old.old | with_reducible exact E1.old.old.old | (with_reducible refine Ext.alloc ?_ _) | (with_reducible refine Below.drew ?_) | (with_reducible refine below_drewN ?_ _) | (with_reducible refine ext_put ?_ _ ?_; rotate_left; (first | with_reducible exact Nat.le_refl _ | with_reducible exact Nat.le_succ _ | omega | (dsimp only; omega)))))⟩
            · skip
              have b7 : (o.op == 7) = false := by simpa using h7
              have e2 : (cb && fb) = false := by rw [ec, ef]; simp [h3, hg, h1, h5, h7]
              rw [e2]
              clear e2 ec ef h3 hg h1 h5 h7
              go_enter Try.func83, Try.ntmps83
              go_wp2_with fail
              refine (hdd _).mono ?_
              rintro e w1 ⟨rfl, E1⟩
              have P := Blk.of E1
              have u0 := Blk.c P 0 (v := .slice a1 n1 c1) rfl
              have u1 := Blk.c P 1 (v := .slice a2 s.tape.length c2) rfl
              have u2 := Blk.c P 2 (v := .int .i64 s.taken) rfl
              have u3 := Blk.c P 3 (v := .slice a3 s.printed.length c3) rfl
              have u4 := Blk.c P 4 (v := .int .i64 s.clock) rfl
              have u5 := Blk.c P 5 (v := .int .i64 s.at_) rfl
              have u6 := Blk.c P 6 (v := .int .i64 s.phase) rfl
              have u7 := Blk.c P 7 (v := .int .i64 s.order) rfl
              have u8 := Blk.c P 8 (v := .int .i64 s.operand) rfl
              have u9 := Blk.c P 9 (v := .int .i64 s.other) rfl
              have u10 := Blk.c P 10 (v := .int .i64 s.product) rfl
              have u11 := Blk.c P 11 (v := .int .i64 s.count) rfl
              have u12 := Blk.c P 12 (v := .int .i64 s.done) rfl
              have u13 := Blk.c P 13 (v := .int .i64 s.why) rfl
              have hz0 : w.heap.size < w1.heap.size := P.lt
              go_wp2_with fail
              refine (hin _).mono ?_
              rintro e w2 ⟨rfl, rfl⟩
              go_wp2_with fail
              go_ret
              exact ⟨rfl, (by repeat (first | with_reducible exact Ext.refl _ | with_reducible exact E1 | with_reducible exact E1.old | with_reducible exact E1.old.old | with_reducible exact E1.old.old.old | (with_reducible refine Ext.alloc ?_ _) | (with_reducible refine Below.drew ?_) | (with_reducible refine below_drewN ?_ _) | (with_reducible refine ext_put ?_ _ ?_; rotate_left; (first | with_reducible exact Nat.le_refl _ | with_reducible exact Nat.le_succ _ | omega | (dsimp only; omega)))))⟩
      · skip
        have b1 : (s.phase == 1) = false := by simpa using h1
        by_cases h2 : s.phase = 2
        · skip
          have b2 : (s.phase == 2) = true := by simpa using h2
          cases wk with
          | true =>
            have e2 : (cb && fb) = true := by rw [ec, ef]; simp [h3, hg, h1, h2]
            rw [e2]
            clear e2 ec ef h3 hg h1 h2
            go_enter Try.func83, Try.ntmps83
            go_wp2_with fail
            refine (hdd _).mono ?_
            rintro e w1 ⟨rfl, E1⟩
            have P := Blk.of E1
            have u0 := Blk.c P 0 (v := .slice a1 n1 c1) rfl
            have u1 := Blk.c P 1 (v := .slice a2 s.tape.length c2) rfl
            have u2 := Blk.c P 2 (v := .int .i64 s.taken) rfl
            have u3 := Blk.c P 3 (v := .slice a3 s.printed.length c3) rfl
            have u4 := Blk.c P 4 (v := .int .i64 s.clock) rfl
            have u5 := Blk.c P 5 (v := .int .i64 s.at_) rfl
            have u6 := Blk.c P 6 (v := .int .i64 s.phase) rfl
            have u7 := Blk.c P 7 (v := .int .i64 s.order) rfl
            have u8 := Blk.c P 8 (v := .int .i64 s.operand) rfl
            have u9 := Blk.c P 9 (v := .int .i64 s.other) rfl
            have u10 := Blk.c P 10 (v := .int .i64 s.product) rfl
            have u11 := Blk.c P 11 (v := .int .i64 s.count) rfl
            have u12 := Blk.c P 12 (v := .int .i64 s.done) rfl
            have u13 := Blk.c P 13 (v := .int .i64 s.why) rfl
            have hz0 : w.heap.size < w1.heap.size := P.lt
            go_wp2_with fail
            refine (hin _).mono ?_
            rintro e w2 ⟨rfl, rfl⟩
            go_wp2_with fail
            go_ret
            exact ⟨rfl, (by repeat (first | with_reducible exact Ext.refl _ | with_reducible exact E1 | with_reducible exact E1.old | with_reducible exact E1.old.old | with_reducible exact E1.old.old.old | (with_reducible refine Ext.alloc ?_ _) | (with_reducible refine Below.drew ?_) | (with_reducible refine below_drewN ?_ _) | (with_reducible refine ext_put ?_ _ ?_; rotate_left; (first | with_reducible exact Nat.le_refl _ | with_reducible exact Nat.le_succ _ | omega | (dsimp only; omega)))))⟩
          | false =>
            by_cases h6 : o.op = 6
            · skip
              have b6 : (o.op == 6) = true := by simpa using h6
              by_cases ht : s.taken < s.tape.length
              · skip
                have bt : decide (s.taken < (s.tape.length : Int)) = true := by simpa using ht
                have e2 : (cb && fb) = true := by rw [ec, ef]; simp [h3, hg, h1, h2, h6, ht]
                rw [e2]
                clear e2 ec ef h3 hg h1 h2 h6 ht
                go_enter Try.func83, Try.ntmps83
                go_wp2_with fail
                refine (hdd _).mono ?_
                rintro e w1 ⟨rfl, E1⟩
                have P := Blk.of E1
                have u0 := Blk.c P 0 (v := .slice a1 n1 c1) rfl
                have u1 := Blk.c P 1 (v := .slice a2 s.tape.length c2) rfl
                have u2 := Blk.c P 2 (v := .int .i64 s.taken) rfl
                have u3 := Blk.c P 3 (v := .slice a3 s.printed.length c3) rfl
                have u4 := Blk.c P 4 (v := .int .i64 s.clock) rfl
                have u5 := Blk.c P 5 (v := .int .i64 s.at_) rfl
                have u6 := Blk.c P 6 (v := .int .i64 s.phase) rfl
                have u7 := Blk.c P 7 (v := .int .i64 s.order) rfl
                have u8 := Blk.c P 8 (v := .int .i64 s.operand) rfl
                have u9 := Blk.c P 9 (v := .int .i64 s.other) rfl
                have u10 := Blk.c P 10 (v := .int .i64 s.product) rfl
                have u11 := Blk.c P 11 (v := .int .i64 s.count) rfl
                have u12 := Blk.c P 12 (v := .int .i64 s.done) rfl
                have u13 := Blk.c P 13 (v := .int .i64 s.why) rfl
                have hz0 : w.heap.size < w1.heap.size := P.lt
                go_wp2_with fail
                refine (hin _).mono ?_
                rintro e w2 ⟨rfl, rfl⟩
                go_wp2_with fail
                go_ret
                exact ⟨rfl, (by repeat (first | with_reducible exact Ext.refl _ | with_reducible exact E1 | with_reducible exact E1.old | with_reducible exact E1.old.old | with_reducible exact E1.old.old.old | (with_reducible refine Ext.alloc ?_ _) | (with_reducible refine Below.drew ?_) | (with_reducible refine below_drewN ?_ _) | (with_reducible refine ext_put ?_ _ ?_; rotate_left; (first | with_reducible exact Nat.le_refl _ | with_reducible exact Nat.le_succ _ | omega | (dsimp only; omega)))))⟩
              · skip
                have bt : decide (s.taken < (s.tape.length : Int)) = false := by simpa using ht
                have e2 : (cb && fb) = false := by rw [ec, ef]; simp [h3, hg, h1, h2, h6, ht]
                rw [e2]
                clear e2 ec ef h3 hg h1 h2 h6 ht
                go_enter Try.func83, Try.ntmps83
                go_wp2_with fail
                refine (hdd _).mono ?_
                rintro e w1 ⟨rfl, E1⟩
                have P := Blk.of E1
                have u0 := Blk.c P 0 (v := .slice a1 n1 c1) rfl
                have u1 := Blk.c P 1 (v := .slice a2 s.tape.length c2) rfl
                have u2 := Blk.c P 2 (v := .int .i64 s.taken) rfl
                have u3 := Blk.c P 3 (v := .slice a3 s.printed.length c3) rfl
                have u4 := Blk.c P 4 (v := .int .i64 s.clock) rfl
                have u5 := Blk.c P 5 (v := .int .i64 s.at_) rfl
                have u6 := Blk.c P 6 (v := .int .i64 s.phase) rfl
                have u7 := Blk.c P 7 (v := .int .i64 s.order) rfl
                have u8 := Blk.c P 8 (v := .int .i64 s.operand) rfl
                have u9 := Blk.c P 9 (v := .int .i64 s.other) rfl
                have u10 := Blk.c P 10 (v := .int .i64 s.product) rfl
                have u11 := Blk.c P 11 (v := .int .i64 s.count) rfl
                have u12 := Blk.c P 12 (v := .int .i64 s.done) rfl
                have u13 := Blk.c P 13 (v := .int .i64 s.why) rfl
                have hz0 : w.heap.size < w1.heap.size := P.lt
                go_wp2_with fail
                refine (hin _).mono ?_
                rintro e w2 ⟨rfl, rfl⟩
                go_wp2_with fail
                go_ret
                exact ⟨rfl, (by repeat (first | with_reducible exact Ext.refl _ | with_reducible exact E1 | with_reducible exact E1.old | with_reducible exact E1.old.old | with_reducible exact E1.old.old.old | (with_reducible refine Ext.alloc ?_ _) | (with_reducible refine Below.drew ?_) | (with_reducible refine below_drewN ?_ _) | (with_reducible refine ext_put ?_ _ ?_; rotate_left; (first | with_reducible exact Nat.le_refl _ | with_reducible exact Nat.le_succ _ | omega | (dsimp only; omega)))))⟩
            · skip
              have b6 : (o.op == 6) = false := by simpa using h6
              have e2 : (cb && fb) = false := by rw [ec, ef]; simp [h3, hg, h1, h2, h6]
              rw [e2]
              clear e2 ec ef h3 hg h1 h2 h6
              go_enter Try.func83, Try.ntmps83
              go_wp2_with fail
              refine (hdd _).mono ?_
              rintro e w1 ⟨rfl, E1⟩
              have P := Blk.of E1
              have u0 := Blk.c P 0 (v := .slice a1 n1 c1) rfl
              have u1 := Blk.c P 1 (v := .slice a2 s.tape.length c2) rfl
              have u2 := Blk.c P 2 (v := .int .i64 s.taken) rfl
              have u3 := Blk.c P 3 (v := .slice a3 s.printed.length c3) rfl
              have u4 := Blk.c P 4 (v := .int .i64 s.clock) rfl
              have u5 := Blk.c P 5 (v := .int .i64 s.at_) rfl
              have u6 := Blk.c P 6 (v := .int .i64 s.phase) rfl
              have u7 := Blk.c P 7 (v := .int .i64 s.order) rfl
              have u8 := Blk.c P 8 (v := .int .i64 s.operand) rfl
              have u9 := Blk.c P 9 (v := .int .i64 s.other) rfl
              have u10 := Blk.c P 10 (v := .int .i64 s.product) rfl
              have u11 := Blk.c P 11 (v := .int .i64 s.count) rfl
              have u12 := Blk.c P 12 (v := .int .i64 s.done) rfl
              have u13 := Blk.c P 13 (v := .int .i64 s.why) rfl
              have hz0 : w.heap.size < w1.heap.size := P.lt
              go_wp2_with fail
              refine (hin _).mono ?_
              rintro e w2 ⟨rfl, rfl⟩
              go_wp2_with fail
              go_ret
              exact ⟨rfl, (by repeat (first | with_reducible exact Ext.refl _ | with_reducible exact E1 | with_reducible exact E1.old | with_reducible exact E1.old.old | with_reducible exact E1.old.old.old | (with_reducible refine Ext.alloc ?_ _) | (with_reducible refine Below.drew ?_) | (with_reducible refine below_drewN ?_ _) | (with_reducible refine ext_put ?_ _ ?_; rotate_left; (first | with_reducible exact Nat.le_refl _ | with_reducible exact Nat.le_succ _ | omega | (dsimp only; omega)))))⟩
        · skip
          have b2 : (s.phase == 2) = false := by simpa using h2
          by_cases h0 : s.phase = 0
          · skip
            have b0 : (s.phase == 0) = true := by simpa using h0
            have e2 : (cb && fb) = true := by rw [ec, ef]; simp [h3, hg, h1, h2, h0]
            rw [e2]
            clear e2 ec ef h3 hg h1 h2 h0
            go_enter Try.func83, Try.ntmps83
            go_wp2_with fail
            refine (hdd _).mono ?_
            rintro e w1 ⟨rfl, E1⟩
            have P := Blk.of E1
            have u0 := Blk.c P 0 (v := .slice a1 n1 c1) rfl
            have u1 := Blk.c P 1 (v := .slice a2 s.tape.length c2) rfl
            have u2 := Blk.c P 2 (v := .int .i64 s.taken) rfl
            have u3 := Blk.c P 3 (v := .slice a3 s.printed.length c3) rfl
            have u4 := Blk.c P 4 (v := .int .i64 s.clock) rfl
            have u5 := Blk.c P 5 (v := .int .i64 s.at_) rfl
            have u6 := Blk.c P 6 (v := .int .i64 s.phase) rfl
            have u7 := Blk.c P 7 (v := .int .i64 s.order) rfl
            have u8 := Blk.c P 8 (v := .int .i64 s.operand) rfl
            have u9 := Blk.c P 9 (v := .int .i64 s.other) rfl
            have u10 := Blk.c P 10 (v := .int .i64 s.product) rfl
            have u11 := Blk.c P 11 (v := .int .i64 s.count) rfl
            have u12 := Blk.c P 12 (v := .int .i64 s.done) rfl
            have u13 := Blk.c P 13 (v := .int .i64 s.why) rfl
            have hz0 : w.heap.size < w1.heap.size := P.lt
            go_wp2_with fail
            refine (hin _).mono ?_
            rintro e w2 ⟨rfl, rfl⟩
            go_wp2_with fail
            go_ret
            exact ⟨rfl, (by repeat (first | with_reducible exact Ext.refl _ | with_reducible exact E1 | with_reducible exact E1.old | with_reducible exact E1.old.old | with_reducible exact E1.old.old.old | (with_reducible refine Ext.alloc ?_ _) | (with_reducible refine Below.drew ?_) | (with_reducible refine below_drewN ?_ _) | (with_reducible refine ext_put ?_ _ ?_; rotate_left; (first | with_reducible exact Nat.le_refl _ | with_reducible exact Nat.le_succ _ | omega | (dsimp only; omega)))))⟩
          · skip
            have b0 : (s.phase == 0) = false := by simpa using h0
            have h34 : s.phase = 4 := by omega
            by_cases h4 : o.op = 4
            · skip
              have b4 : (o.op == 4) = true := by simpa using h4
              have e2 : (cb && fb) = true := by rw [ec, ef]; simp [h3, hg, h1, h2, h34, h0, h4]
              rw [e2]
              clear e2 ec ef h3 hg h1 h2 h34 h0 h4
              go_enter Try.func83, Try.ntmps83
              go_wp2_with fail
              refine (hdd _).mono ?_
              rintro e w1 ⟨rfl, E1⟩
              have P := Blk.of E1
              have u0 := Blk.c P 0 (v := .slice a1 n1 c1) rfl
              have u1 := Blk.c P 1 (v := .slice a2 s.tape.length c2) rfl
              have u2 := Blk.c P 2 (v := .int .i64 s.taken) rfl
              have u3 := Blk.c P 3 (v := .slice a3 s.printed.length c3) rfl
              have u4 := Blk.c P 4 (v := .int .i64 s.clock) rfl
              have u5 := Blk.c P 5 (v := .int .i64 s.at_) rfl
              have u6 := Blk.c P 6 (v := .int .i64 s.phase) rfl
              have u7 := Blk.c P 7 (v := .int .i64 s.order) rfl
              have u8 := Blk.c P 8 (v := .int .i64 s.operand) rfl
              have u9 := Blk.c P 9 (v := .int .i64 s.other) rfl
              have u10 := Blk.c P 10 (v := .int .i64 s.product) rfl
              have u11 := Blk.c P 11 (v := .int .i64 s.count) rfl
              have u12 := Blk.c P 12 (v := .int .i64 s.done) rfl
              have u13 := Blk.c P 13 (v := .int .i64 s.why) rfl
              have hz0 : w.heap.size < w1.heap.size := P.lt
              go_wp2_with fail
              refine (hin _).mono ?_
              rintro e w2 ⟨rfl, rfl⟩
              go_wp2_with fail
              go_ret
              exact ⟨rfl, (by repeat (first | with_reducible exact Ext.refl _ | with_reducible exact E1 | with_reducible exact E1.old | with_reducible exact E1.old.old | with_reducible exact E1.old.old.old | (with_reducible refine Ext.alloc ?_ _) | (with_reducible refine Below.drew ?_) | (with_reducible refine below_drewN ?_ _) | (with_reducible refine ext_put ?_ _ ?_; rotate_left; (first | with_reducible exact Nat.le_refl _ | with_reducible exact Nat.le_succ _ | omega | (dsimp only; omega)))))⟩
            · skip
              have b4 : (o.op == 4) = false := by simpa using h4
              have e2 : (cb && fb) = false := by rw [ec, ef]; simp [h3, hg, h1, h2, h34, h0, h4]
              rw [e2]
              clear e2 ec ef h3 hg h1 h2 h34 h0 h4
              go_enter Try.func83, Try.ntmps83
              go_wp2_with fail
              refine (hdd _).mono ?_
              rintro e w1 ⟨rfl, E1⟩
              have P := Blk.of E1
              have u0 := Blk.c P 0 (v := .slice a1 n1 c1) rfl
              have u1 := Blk.c P 1 (v := .slice a2 s.tape.length c2) rfl
              have u2 := Blk.c P 2 (v := .int .i64 s.taken) rfl
              have u3 := Blk.c P 3 (v := .slice a3 s.printed.length c3) rfl
              have u4 := Blk.c P 4 (v := .int .i64 s.clock) rfl
              have u5 := Blk.c P 5 (v := .int .i64 s.at_) rfl
              have u6 := Blk.c P 6 (v := .int .i64 s.phase) rfl
              have u7 := Blk.c P 7 (v := .int .i64 s.order) rfl
              have u8 := Blk.c P 8 (v := .int .i64 s.operand) rfl
              have u9 := Blk.c P 9 (v := .int .i64 s.other) rfl
              have u10 := Blk.c P 10 (v := .int .i64 s.product) rfl
              have u11 := Blk.c P 11 (v := .int .i64 s.count) rfl
              have u12 := Blk.c P 12 (v := .int .i64 s.done) rfl
              have u13 := Blk.c P 13 (v := .int .i64 s.why) rfl
              have hz0 : w.heap.size < w1.heap.size := P.lt
              go_wp2_with fail
              refine (hin _).mono ?_
              rintro e w2 ⟨rfl, rfl⟩
              go_wp2_with fail
              go_ret
              exact ⟨rfl, (by repeat (first | with_reducible exact Ext.refl _ | with_reducible exact E1 | with_reducible exact E1.old | with_reducible exact E1.old.old | with_reducible exact E1.old.old.old | (with_reducible refine Ext.alloc ?_ _) | (with_reducible refine Below.drew ?_) | (with_reducible refine below_drewN ?_ _) | (with_reducible refine ext_put ?_ _ ?_; rotate_left; (first | with_reducible exact Nat.le_refl _ | with_reducible exact Nat.le_succ _ | omega | (dsimp only; omega)))))⟩
end Go.Proofs.Ytjfggepgjpdebaa

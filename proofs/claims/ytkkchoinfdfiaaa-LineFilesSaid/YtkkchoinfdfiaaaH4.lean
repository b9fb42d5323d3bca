/- Contracts of layer 1: safe, Shift, Next. -/
import Derived.Test.YtkkchoinfdfiaaaH3
set_option linter.unusedVariables false
set_option linter.unusedSimpArgs false
namespace Go.Proofs.Ytkkchoinfdfiaaa
open Go.RowKit Go.Q

theorem tempB_bd {t : Int} (h : tempB t = true) : -500 ≤ t ∧ t ≤ 1000 := inB_bd h
theorem checkL_of {l : Ln} (h : okL l = true) : checkL l = 0 := by unfold checkL; rw [if_pos h]
theorem checkL_no {l : Ln} (h : okL l = false) : checkL l = 7 := by unfold checkL; rw [h]; rfl
set_option maxHeartbeats 1000000 in
theorem safe_any (l : Ln) (t : Int) (w : World) (h : OkL l) (ht : -100000 ≤ t ∧ t ≤ 100000) :
    Calls Try.prog 68 #[.agg #[.int .i64 l.words, .int .i64 l.bits, .int .i64 l.period, .int .i64 l.delay, .int .i64 l.slope, .int .i64 l.window], .int .i64 t] w fun e w' => e = .returned (.bool (safeL l t)) ∧ Ext w w' := by
  have hcall := fun W => shift_any l t W h ht
  cases hl : lostL l t with
  | true =>
    have e1 : shiftV l t = (0, true) := by unfold shiftV; rw [hl]; rfl
    have e2 : safeL l t = false := by unfold safeL; rw [hl]; simp
    rw [e1] at hcall
    rw [e2]
    clear e1 e2 hl
    dsimp only at hcall
    go_enter Try.func68, Try.ntmps68
    go_wp2_with fail
    refine (hcall _).mono ?_
    rintro e w1 ⟨rfl, E1⟩
    go_wp2
    go_ret
    exact ⟨rfl, E1.old⟩
  | false =>
    have e1 : shiftV l t = (byL l t, false) := by unfold shiftV; rw [hl]; rfl
    rw [e1] at hcall
    dsimp only at hcall
    cases hb : (byL l t == 0) with
    | false =>
      have e2 : safeL l t = false := by unfold safeL; rw [hb]; rfl
      rw [e2]
      clear e1 e2 hl
      go_enter Try.func68, Try.ntmps68
      go_wp2_with fail
      refine (hcall _).mono ?_
      rintro e w1 ⟨rfl, E1⟩
      go_wp2
      go_ret
      exact ⟨rfl, E1.old⟩
    | true =>
      have e2 : safeL l t = tempB t := by unfold safeL; rw [hl, hb]; rfl
      have e3 : byL l t = 0 := by simpa using hb
      rw [e3] at hcall
      rw [e2]
      clear e1 e2 e3 hl hb
      go_enter Try.func68, Try.ntmps68
      go_wp2_with fail
      refine (hcall _).mono ?_
      rintro e w1 ⟨rfl, E1⟩
      go_wp2_with fail
      refine (strange_any _ _).mono ?_
      rintro e w2 ⟨rfl, rfl⟩
      go_wp2
      go_ret
      exact ⟨ret_bool (by cases tempB t <;> rfl), E1.old⟩
set_option maxHeartbeats 1000000 in
theorem Shift_any (l : Ln) (t : Int) (w : World) :
    Calls Try.prog 30 #[.agg #[.int .i64 l.words, .int .i64 l.bits, .int .i64 l.period, .int .i64 l.delay, .int .i64 l.slope, .int .i64 l.window], .int .i64 t] w fun e w' => e = .returned (.tuple #[.int .i64 (shiftE l t).1, .bool (shiftE l t).2.1, .int .i64 (shiftE l t).2.2]) ∧ Ext w w' := by
  have hck := fun W => check_any l W
  cases ho : okL l with
  | false =>
    have e1 : shiftE l t = (0, false, 7) := by unfold shiftE; rw [if_neg (by rw [ho]; simp)]
    rw [e1]
    rw [checkL_no ho] at hck
    clear e1 ho
    dsimp only
    go_enter Try.func30, Try.ntmps30
    go_wp2_with fail
    refine (hck _).mono ?_
    rintro e w1 ⟨rfl, E1⟩
    go_wp2
    go_ret3
    exact ⟨rfl, E1.old⟩
  | true =>
    rw [checkL_of ho] at hck
    have hok := okL_ok ho
    cases ht : tempB t with
    | false =>
      have e1 : shiftE l t = (0, false, 7) := by unfold shiftE; rw [if_neg (by rw [ht]; simp)]
      have hst := fun W => strange_any t W
      rw [ht] at hst
      rw [e1]
      clear e1 ho ht
      dsimp only
      go_enter Try.func30, Try.ntmps30
      go_wp2_with fail
      refine (hck _).mono ?_
      rintro e w1 ⟨rfl, E1⟩
      go_wp2_with fail
      refine (hst _).mono ?_
      rintro e w2 ⟨rfl, rfl⟩
      go_wp2
      go_ret3
      exact ⟨rfl, E1.old⟩
    | true =>
      have hst := fun W => strange_any t W
      rw [ht] at hst
      have hb := tempB_bd ht
      have hsh := fun W => shift_any l t W hok (by omega)
      have e1 : shiftE l t = ((shiftV l t).1, (shiftV l t).2, 0) := by unfold shiftE; rw [if_pos ⟨ho, ht⟩]
      rw [e1]
      clear e1 ho ht hb
      dsimp only
      generalize (shiftV l t).1 = s at *
      generalize (shiftV l t).2 = b at *
      go_enter Try.func30, Try.ntmps30
      go_wp2_with fail
      refine (hck _).mono ?_
      rintro e w1 ⟨rfl, E1⟩
      have c0 := box_at (v := .int .i64 l.words) E1 0 rfl
      have c1 := box_at (v := .int .i64 l.bits) E1 1 rfl
      have c2 := box_at (v := .int .i64 l.period) E1 2 rfl
      have c3 := box_at (v := .int .i64 l.delay) E1 3 rfl
      have c4 := box_at (v := .int .i64 l.slope) E1 4 rfl
      have c5 := box_at (v := .int .i64 l.window) E1 5 rfl
      go_wp2_with fail
      refine (hst _).mono ?_
      rintro e w2 ⟨rfl, rfl⟩
      go_wp2_with fail
      refine (hsh _).mono ?_
      rintro e w3 ⟨rfl, E3⟩
      go_wp2
      go_ret3
      exact ⟨rfl, E1.old.comp E3⟩
theorem nextE_of {l : Ln} {a b : Int} (h1 : okL l = true) (h2 : inB a 0 (l.words - 1) = true) (h3 : inB b 0 1000000000 = true) : nextE l a b = (b + 1 + turnL l (a * l.bits - b - 1), 0) := by unfold nextE; rw [if_pos ⟨h1, h2, h3⟩]
set_option maxHeartbeats 1000000 in
theorem Next_any (l : Ln) (a b : Int) (w : World) :
    Calls Try.prog 28 #[.agg #[.int .i64 l.words, .int .i64 l.bits, .int .i64 l.period, .int .i64 l.delay, .int .i64 l.slope, .int .i64 l.window], .int .i64 a, .int .i64 b] w fun e w' => e = .returned (.tuple #[.int .i64 (nextE l a b).1, .int .i64 (nextE l a b).2]) ∧ Ext w w' := by
  have hck := fun W => check_any l W
  cases ho : okL l with
  | false =>
    have e1 : nextE l a b = (0, 7) := by unfold nextE; rw [if_neg (by rw [ho]; simp)]
    rw [e1]
    rw [checkL_no ho] at hck
    clear e1 ho
    dsimp only
    go_enter Try.func28, Try.ntmps28
    go_wp2_with fail
    refine (hck _).mono ?_
    rintro e w1 ⟨rfl, E1⟩
    go_wp2
    go_ret2
    exact ⟨rfl, E1.old⟩
  | true =>
    rw [checkL_of ho] at hck
    have hok := okL_ok ho
    have hwb := hok.words
    have hbb := hok.bits
    cases h1 : inB a 0 (l.words - 1) with
    | false =>
      have e1 : nextE l a b = (0, 7) := by unfold nextE; rw [if_neg (by rw [h1]; simp)]
      have ho1 := fun W => lout_any a 0 (l.words - 1) W
      rw [h1] at ho1
      rw [e1]
      clear e1 ho h1
      dsimp only
      go_enter Try.func28, Try.ntmps28
      go_wp2_with fail
      refine (hck _).mono ?_
      rintro e w1 ⟨rfl, E1⟩
      have c0 := box_at (v := .int .i64 l.words) E1 0 rfl
      have c1 := box_at (v := .int .i64 l.bits) E1 1 rfl
      have c2 := box_at (v := .int .i64 l.period) E1 2 rfl
      have c3 := box_at (v := .int .i64 l.delay) E1 3 rfl
      have c4 := box_at (v := .int .i64 l.slope) E1 4 rfl
      have c5 := box_at (v := .int .i64 l.window) E1 5 rfl
      go_wp2_with fail
      refine (ho1 _).mono ?_
      rintro e w2 ⟨rfl, rfl⟩
      go_wp2
      go_ret2
      exact ⟨rfl, E1.old⟩
    | true =>
      have ho1 := fun W => lout_any a 0 (l.words - 1) W
      rw [h1] at ho1
      cases h2 : inB b 0 1000000000 with
      | false =>
        have e1 : nextE l a b = (0, 7) := by unfold nextE; rw [if_neg (by rw [h2]; simp)]
        have ho2 := fun W => lout_any b 0 1000000000 W
        rw [h2] at ho2
        rw [e1]
        clear e1 ho h1 h2
        dsimp only
        go_enter Try.func28, Try.ntmps28
        go_wp2_with fail
        refine (hck _).mono ?_
        rintro e w1 ⟨rfl, E1⟩
        have c0 := box_at (v := .int .i64 l.words) E1 0 rfl
        have c1 := box_at (v := .int .i64 l.bits) E1 1 rfl
        have c2 := box_at (v := .int .i64 l.period) E1 2 rfl
        have c3 := box_at (v := .int .i64 l.delay) E1 3 rfl
        have c4 := box_at (v := .int .i64 l.slope) E1 4 rfl
        have c5 := box_at (v := .int .i64 l.window) E1 5 rfl
        go_wp2_with fail
        refine (ho1 _).mono ?_
        rintro e w2 ⟨rfl, rfl⟩
        go_wp2_with fail
        refine (ho2 _).mono ?_
        rintro e w3 ⟨rfl, rfl⟩
        go_wp2
        go_ret2
        exact ⟨rfl, E1.old⟩
      | true =>
        have ho2 := fun W => lout_any b 0 1000000000 W
        rw [h2] at ho2
        rw [nextE_of ho h1 h2]
        have ha := inB_bd h1
        have hb := inB_bd h2
        have hm := mul_bd (a := a) (b := l.bits) ha.1 (show a ≤ 63 by omega) (by omega) hbb.2
        have htn := fun W => turn_any l (a * l.bits - b - 1) W hok (by omega)
        have htb := hok.turn (a * l.bits - b - 1)
        have hbe := hok.beats
        obtain ⟨hm0, hm1⟩ := hm
        obtain ⟨hb0, hb1⟩ := hb
        obtain ⟨hwb0, hwb1⟩ := hwb
        have w1 : IntKind.i64.wrap (a * l.bits) = a * l.bits := IntWalk.i64_in _ (by omega)
        have w2 : IntKind.i64.wrap (a * l.bits - b) = a * l.bits - b := IntWalk.i64_in _ (by omega)
        have w3 : IntKind.i64.wrap (a * l.bits - b - 1) = a * l.bits - b - 1 := IntWalk.i64_in _ (by omega)
        have w4 : IntKind.i64.wrap (b + 1) = b + 1 := IntWalk.i64_in _ (by omega)
        have w5 : IntKind.i64.wrap (b + 1 + turnL l (a * l.bits - b - 1)) = b + 1 + turnL l (a * l.bits - b - 1) := IntWalk.i64_in _ (by omega)
        clear ho h1 h2 ha hbb hok htb hbe
        dsimp only
        generalize turnL l (a * l.bits - b - 1) = r at *
        go_enter Try.func28, Try.ntmps28
        go_wp2_with fail
        refine (hck _).mono ?_
        rintro e w1 ⟨rfl, E1⟩
        have c0 := box_at (v := .int .i64 l.words) E1 0 rfl
        have c1 := box_at (v := .int .i64 l.bits) E1 1 rfl
        have c2 := box_at (v := .int .i64 l.period) E1 2 rfl
        have c3 := box_at (v := .int .i64 l.delay) E1 3 rfl
        have c4 := box_at (v := .int .i64 l.slope) E1 4 rfl
        have c5 := box_at (v := .int .i64 l.window) E1 5 rfl
        go_wp2_with fail
        refine (ho1 _).mono ?_
        rintro e w2 ⟨rfl, rfl⟩
        go_wp2_with fail
        refine (ho2 _).mono ?_
        rintro e w3 ⟨rfl, rfl⟩
        clear hck ho1 ho2
        have d0 := fun ob => box_at (v := .int .i64 l.words) (Ext.alloc E1 ob) 0 rfl
        have d1 := fun ob => box_at (v := .int .i64 l.bits) (Ext.alloc E1 ob) 1 rfl
        have d2 := fun ob => box_at (v := .int .i64 l.period) (Ext.alloc E1 ob) 2 rfl
        have d3 := fun ob => box_at (v := .int .i64 l.delay) (Ext.alloc E1 ob) 3 rfl
        have d4 := fun ob => box_at (v := .int .i64 l.slope) (Ext.alloc E1 ob) 4 rfl
        have d5 := fun ob => box_at (v := .int .i64 l.window) (Ext.alloc E1 ob) 5 rfl
        go_wp2_with fail
        refine (htn _).mono ?_
        rintro e w4 ⟨rfl, E4⟩
        go_wp2
        go_ret2
        exact ⟨rfl, E1.old.comp E4.old⟩
end Go.Proofs.Ytkkchoinfdfiaaa

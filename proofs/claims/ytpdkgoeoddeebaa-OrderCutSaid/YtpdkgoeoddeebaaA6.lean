/- Contracts: ref when, When (both), Encode, Decode, Signed (both). -/
import Derived.Test.YtpdkgoeoddeebaaA5
set_option linter.unusedVariables false
set_option linter.unusedSimpArgs false
namespace Go.Proofs.Ytpdkgoeoddeebaa
open Go.RowKit Go.Q

set_option maxHeartbeats 1000000 in
theorem rwhen_any (o a b c : Int) (t : Int) (ng : Bool) (w : World) (ho : ordB ⟨o, a, b, c⟩ = true) (ht0 : 0 ≤ t) (ht1 : t ≤ 1000000000) :
    Calls Try.prog 61 #[.agg #[.int .i64 o, .int .i64 a, .int .i64 b, .int .i64 c], .int .i64 t, .bool ng] w fun e w' => e = .returned (.tuple #[.int .i64 (whenAt ⟨o, a, b, c⟩ ng), .int .i64 (whenUntil ⟨o, a, b, c⟩ t ng)]) ∧ Ext w w' := by
  obtain ⟨⟨o0, o1⟩, ⟨a0, a1⟩, ⟨b0, b1⟩, c0, c1⟩ := ordB_bd ho
  clear ho
  have d1 := after_bd t a
  have d2 := after_bd t b
  have d3 := after_bd (Q.after t a) b
  have d4 := after_bd (Q.after (Q.after t a) b + 12) b
  by_cases h5 : o = 5
  · subst h5
    cases ng
    all_goals
      go_enter Try.func61, Try.ntmps61
      go_wp2_with (go_at_call 68; refine (rafter_any _ _ _ (by omega) (by omega) (by omega) (by omega)).mono ?_; rintro e w' ⟨rfl, rfl⟩)
      go_ret2
      exact ⟨by simp [whenAt, whenUntil, whenEnd], (Ext.refl w).alloc _⟩
  by_cases h7 : o = 7
  · subst h7
    go_enter Try.func61, Try.ntmps61
    go_wp2_with (go_at_call 68; refine (rafter_any _ _ _ (by omega) (by omega) (by omega) (by omega)).mono ?_; rintro e w' ⟨rfl, rfl⟩)
    go_ret2
    exact ⟨by simp [whenAt, whenUntil, whenEnd], (Ext.refl w).alloc _⟩
  by_cases h6 : o = 6
  · subst h6
    go_enter Try.func61, Try.ntmps61
    go_wp2_with (go_at_call 68; refine (rafter_any _ _ _ (by omega) (by omega) (by omega) (by omega)).mono ?_; rintro e w' ⟨rfl, rfl⟩)
    go_ret2
    exact ⟨by simp [whenAt, whenUntil, whenEnd], (Ext.refl w).alloc _⟩
  by_cases h4 : o = 4
  · subst h4
    go_enter Try.func61, Try.ntmps61
    go_wp2_with (go_at_call 68; refine (rafter_any _ _ _ (by omega) (by omega) (by omega) (by omega)).mono ?_; rintro e w' ⟨rfl, rfl⟩)
    go_ret2
    exact ⟨by simp [whenAt, whenUntil, whenEnd], (Ext.refl w).alloc _⟩
  have e5 : (o == 5) = false := by simpa using h5
  have e7 : (o == 7) = false := by simpa using h7
  have e6 : (o == 6) = false := by simpa using h6
  have e4 : (o == 4) = false := by simpa using h4
  have f5 : (o != 5) = true := by simpa using h5
  have f7 : (o != 7) = true := by simpa using h7
  have f6 : (o != 6) = true := by simpa using h6
  have q : whenAt ⟨o, a, b, c⟩ ng = c ∧ whenUntil ⟨o, a, b, c⟩ t ng = Q.after (Q.after (Q.after t a) b) c := by simp [whenAt, whenUntil, whenEnd, h5, h7, h6, h4]
  rw [q.1, q.2]
  clear h5 h7 h6 h4 q
  go_enter Try.func61, Try.ntmps61
  go_wp2_with (go_at_call 68; refine (rafter_any _ _ _ (by omega) (by omega) (by omega) (by omega)).mono ?_; rintro e w' ⟨rfl, rfl⟩)
  go_ret2
  exact ⟨rfl, (Ext.refl w).alloc _⟩

set_option maxHeartbeats 1000000 in
theorem order_any (a b c d : Int) (w : World) :
    Calls Try.prog 57 #[.agg #[.int .i64 a, .int .i64 b, .int .i64 c, .int .i64 d]] w fun e w' => e = .returned (.bool (ordB ⟨a, b, c, d⟩)) ∧ Ext w w' := by
  have q : ordB ⟨a, b, c, d⟩ = (inB a 0 7 && addrB b && addrB c && addrB d) := rfl
  rw [q]; clear q
  cases h1 : inB a 0 7
  all_goals cases h2 : addrB b
  all_goals cases h3 : addrB c
  all_goals
    go_enter Try.func57, Try.ntmps57
    go_wp2_with (first | (go_at_call 44; refine (in_any _ _ _ _).mono ?_; rintro e w' ⟨rfl, rfl⟩) | (go_at_call 45; refine (address_any _ _).mono ?_; rintro e w' ⟨rfl, rfl⟩))
    go_ret
    exact ⟨by first | rfl | simp, (Ext.refl w).alloc _⟩

set_option maxHeartbeats 1000000 in
theorem signedE_any (n : Int) (w : World) :
    Calls Try.prog 31 #[.int .i64 n] w fun e w' => e = .returned (.tuple #[.int .i64 (signedQ n).1, .int .i64 (signedQ n).2]) ∧ Ext w w' := by
  cases h : wordB n with
  | false =>
    have h' : inB n 0 16777215 = false := h
    go_enter Try.func31, Try.ntmps31
    go_wp2_with (go_at_call 42; refine (out_one _ n _ _ (by simp) (by simp)).mono ?_; rintro e w' ⟨rfl, hb'⟩)
    go_ret2
    exact ⟨by simp [signedQ, h], hb'.old⟩
  | true =>
    have h' : inB n 0 16777215 = true := h
    obtain ⟨h0, h1⟩ := wordB_bd h
    go_enter Try.func31, Try.ntmps31
    go_wp2_with (first | (go_at_call 42; refine (out_one _ n _ _ (by simp) (by simp)).mono ?_; rintro e w' ⟨rfl, hb'⟩) | (go_at_call 54; refine (signed_any n _ h0 h1).mono ?_; rintro e w' ⟨rfl, rfl⟩))
    go_ret2
    exact ⟨by simp [signedQ, h], hb'.old⟩
set_option maxHeartbeats 1000000 in
theorem rsignedE_any (n : Int) (w : World) :
    Calls Try.prog 36 #[.int .i64 n] w fun e w' => e = .returned (.tuple #[.int .i64 (signedQ n).1, .int .i64 (signedQ n).2]) ∧ Ext w w' := by
  cases h : wordB n with
  | false =>
    go_enter Try.func36, Try.ntmps36
    go_wp2_with (go_at_call 30; refine (word_any n _).mono ?_; rintro e w' ⟨rfl, rfl⟩)
    go_ret2
    exact ⟨by simp [signedQ, h], Ext.refl w⟩
  | true =>
    obtain ⟨h0, h1⟩ := wordB_bd h
    go_enter Try.func36, Try.ntmps36
    go_wp2_with (first | (go_at_call 30; refine (word_any n _).mono ?_; rintro e w' ⟨rfl, rfl⟩) | (go_at_call 59; refine (sign_any n _ h0 h1).mono ?_; rintro e w' ⟨rfl, rfl⟩))
    go_ret2
    exact ⟨by simp [signedQ, h], Ext.refl w⟩

/-- an order with an error's code, as a value -/
def ovE (p : Ord × Int) : Value := .tuple #[.agg #[.int .i64 p.1.op, .int .i64 p.1.frm, .int .i64 p.1.to, .int .i64 p.1.nxt], .int .i64 p.2]
theorem ext_set4 {w w1 : World} {n : Nat} (h : Ext w w1) (hn : w.heap.size ≤ n) (a b c d : Value) (i j k l : Nat) : Ext w ((((w1.setCell ⟨n, i, none⟩ a).setCell ⟨n, j, none⟩ b).setCell ⟨n, k, none⟩ c).setCell ⟨n, l, none⟩ d) :=
  (((h.setCell (p := ⟨n, i, none⟩) hn a).setCell (p := ⟨n, j, none⟩) hn b).setCell (p := ⟨n, k, none⟩) hn c).setCell (p := ⟨n, l, none⟩) hn d
set_option maxHeartbeats 1000000 in
theorem decodeE_any (n : Int) (w : World) :
    Calls Try.prog 34 #[.int .i64 n] w fun e w' => e = .returned (ovE (decQ n)) ∧ Ext w w' := by
  cases h : wordB n with
  | false =>
    have h' : inB n 0 16777215 = false := h
    go_enter Try.func34, Try.ntmps34
    go_wp2_with fail
    refine (out_one _ n _ _ (by simp) (by simp)).mono ?_
    rintro e w1 ⟨rfl, hb⟩
    have q0 := box_at (v := .int .i64 0) hb.old 0 rfl
    have q1 := box_at (v := .int .i64 0) hb.old 1 rfl
    have q2 := box_at (v := .int .i64 0) hb.old 2 rfl
    have q3 := box_at (v := .int .i64 0) hb.old 3 rfl
    have f0 := box_free hb.old 0
    have f1 := box_free hb.old 1
    have f2 := box_free hb.old 2
    have f3 := box_free hb.old 3
    go_wp2
    exact bodyPost_ret (v := .tuple #[.agg #[.int .i64 0, .int .i64 0, .int .i64 0, .int .i64 0], .int .i64 7]) (by simp [results, Try.results34, go_sem, q0, q1, q2, q3]) rfl ⟨by simp [decQ, h, ovE], ext_set4 hb.old.old (Nat.le_refl _) _ _ _ _ _ _ _ _⟩
  | true =>
    have h' : inB n 0 16777215 = true := h
    obtain ⟨h0, h1⟩ := wordB_bd h
    have e : decQ n = (decodeQ n, 0) := by simp [decQ, h]
    rw [e]
    have hd := fun W => decode_any n W h0
    generalize decodeQ n = o at hd ⊢
    go_enter Try.func34, Try.ntmps34
    go_wp2_with fail
    refine (out_one _ n _ _ (by simp) (by simp)).mono ?_
    rintro e w1 ⟨rfl, hb⟩
    go_wp2_with fail
    refine (hd _).mono ?_
    rintro e w2 ⟨rfl, hb2⟩
    have hb3 := hb.comp hb2
    have q0 := box_at (v := .int .i64 0) hb3.old 0 rfl
    have q1 := box_at (v := .int .i64 0) hb3.old 1 rfl
    have q2 := box_at (v := .int .i64 0) hb3.old 2 rfl
    have q3 := box_at (v := .int .i64 0) hb3.old 3 rfl
    have f0 := box_free hb3.old 0
    have f1 := box_free hb3.old 1
    have f2 := box_free hb3.old 2
    have f3 := box_free hb3.old 3
    go_wp2
    exact bodyPost_ret (v := ovE (o, 0)) (by simp [results, Try.results34, go_sem, q0, q1, q2, q3, ovE]) rfl ⟨rfl, ext_set4 hb3.old.old (Nat.le_refl _) _ _ _ _ _ _ _ _⟩
set_option maxHeartbeats 1000000 in
theorem rdecodeE_any (n : Int) (w : World) :
    Calls Try.prog 35 #[.int .i64 n] w fun e w' => e = .returned (ovE (decQ n)) ∧ Ext w w' := by
  cases h : wordB n with
  | false =>
    go_enter Try.func35, Try.ntmps35
    go_wp2_with (go_at_call 30; refine (word_any n _).mono ?_; rintro e w' ⟨rfl, rfl⟩)
    exact bodyPost_ret (v := .tuple #[.agg #[.int .i64 0, .int .i64 0, .int .i64 0, .int .i64 0], .int .i64 7]) (by simp [results, Try.results35, go_sem]) rfl ⟨by simp [decQ, h, ovE], (Ext.refl w).alloc _⟩
  | true =>
    obtain ⟨h0, h1⟩ := wordB_bd h
    have e : decQ n = (decodeQ n, 0) := by simp [decQ, h]
    rw [e]
    have hd := fun W => rdecode_any n W h0 h1
    generalize decodeQ n = o at hd ⊢
    go_enter Try.func35, Try.ntmps35
    go_wp2_with fail
    refine (word_any n _).mono ?_
    rintro e w' ⟨rfl, rfl⟩
    go_wp2_with fail
    refine (hd _).mono ?_
    rintro e w2 ⟨rfl, hb3⟩
    have q0 := box_at (v := .int .i64 0) hb3 0 rfl
    have q1 := box_at (v := .int .i64 0) hb3 1 rfl
    have q2 := box_at (v := .int .i64 0) hb3 2 rfl
    have q3 := box_at (v := .int .i64 0) hb3 3 rfl
    have f0 := box_free hb3 0
    have f1 := box_free hb3 1
    have f2 := box_free hb3 2
    have f3 := box_free hb3 3
    go_wp2
    exact bodyPost_ret (v := ovE (o, 0)) (by simp [results, Try.results35, go_sem, q0, q1, q2, q3, ovE]) rfl ⟨rfl, ext_set4 hb3.old (Nat.le_refl _) _ _ _ _ _ _ _ _⟩

set_option maxHeartbeats 1000000 in
theorem encode_any (a b c d : Int) (w : World) :
    Calls Try.prog 32 #[.agg #[.int .i64 a, .int .i64 b, .int .i64 c, .int .i64 d]] w fun e w' => e = .returned (.tuple #[.int .i64 (encodeQ ⟨a, b, c, d⟩).1, .int .i64 (encodeQ ⟨a, b, c, d⟩).2]) ∧ Ext w w' := by
  cases h : ordB ⟨a, b, c, d⟩ with
  | false =>
    go_enter Try.func32, Try.ntmps32
    go_wp2_with (go_at_call 55; refine (strange_any a b c d _).mono ?_; rintro e w' ⟨rfl, hb'⟩)
    go_ret2
    exact ⟨by simp [encodeQ, h], hb'.old⟩
  | true =>
    obtain ⟨⟨o0, o1⟩, ⟨a0, a1⟩, ⟨b0, b1⟩, c0, c1⟩ := ordB_bd h
    have e : encodeQ ⟨a, b, c, d⟩ = (((a * 128 + b) * 128 + c) * 128 + d, 0) := by simp [encodeQ, h, Q.written]
    rw [e]
    go_enter Try.func32, Try.ntmps32
    go_wp2_with fail
    refine (strange_any a b c d _).mono ?_
    rintro e w2 ⟨rfl, hb3⟩
    have q0 := box_at (v := .int .i64 a) hb3 0 rfl
    have q1 := box_at (v := .int .i64 b) hb3 1 rfl
    have q2 := box_at (v := .int .i64 c) hb3 2 rfl
    have q3 := box_at (v := .int .i64 d) hb3 3 rfl
    go_wp2
    go_quiet ((go_at_call 56; exact Calls.quiet_of_same ((pack_any _ _ _ (by omega) (by omega) (by omega) (by omega)).mono fun e w' h => ⟨h.1, h.2.symm⟩)))
    go_wp2
    go_ret2
    exact ⟨rfl, below_drewN hb3.old _⟩
set_option maxHeartbeats 1000000 in
theorem rencode_any (a b c d : Int) (w : World) :
    Calls Try.prog 33 #[.agg #[.int .i64 a, .int .i64 b, .int .i64 c, .int .i64 d]] w fun e w' => e = .returned (.tuple #[.int .i64 (encodeQ ⟨a, b, c, d⟩).1, .int .i64 (encodeQ ⟨a, b, c, d⟩).2]) ∧ Ext w w' := by
  cases h : ordB ⟨a, b, c, d⟩ with
  | false =>
    go_enter Try.func33, Try.ntmps33
    go_wp2_with (go_at_call 57; refine (order_any a b c d _).mono ?_; rintro e w' ⟨rfl, hb'⟩)
    go_ret2
    exact ⟨by simp [encodeQ, h], hb'.old⟩
  | true =>
    have e : encodeQ ⟨a, b, c, d⟩ = (Q.written ⟨a, b, c, d⟩, 0) := by simp [encodeQ, h]
    rw [e]
    go_enter Try.func33, Try.ntmps33
    go_wp2_with fail
    refine (order_any a b c d _).mono ?_
    rintro e w2 ⟨rfl, hb3⟩
    have q0 := box_at (v := .int .i64 a) hb3 0 rfl
    have q1 := box_at (v := .int .i64 b) hb3 1 rfl
    have q2 := box_at (v := .int .i64 c) hb3 2 rfl
    have q3 := box_at (v := .int .i64 d) hb3 3 rfl
    go_wp2_with (go_at_call 29; refine (written_any a b c d _ h).mono ?_; rintro e w' ⟨rfl, hb'⟩)
    go_ret2
    exact ⟨rfl, hb3.old.comp hb'⟩
end Go.Proofs.Ytpdkgoeoddeebaa

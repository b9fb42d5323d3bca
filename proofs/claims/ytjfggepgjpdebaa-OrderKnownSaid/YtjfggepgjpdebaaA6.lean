/- Contracts: ref when, When (both), Encode, Decode, Signed (both). -/
import Derived.Test.YtjfggepgjpdebaaA5
set_option linter.unusedVariables false
set_option linter.unusedSimpArgs false
namespace Go.Proofs.Ytjfggepgjpdebaa
open Go.RowKit Go.Q

set_option maxHeartbeats 1000000 in
theorem signedE_any (n : Int) (w : World) :
    Calls Try.prog 57 #[.int .i64 n] w fun e w' => e = .returned (.tuple #[.int .i64 (signedQ n).1, .int .i64 (signedQ n).2]) ∧ Ext w w' := by
  cases h : wordB n with
  | false =>
    have h' : inB n 0 16777215 = false := h
    go_enter Try.func57, Try.ntmps57
    go_wp2_with (go_at_call 51; refine (out_one _ n _ _ (by simp) (by simp)).mono ?_; rintro e w' ⟨rfl, hb'⟩)
    go_ret2
    exact ⟨by simp [signedQ, h], hb'.old⟩
  | true =>
    have h' : inB n 0 16777215 = true := h
    obtain ⟨h0, h1⟩ := wordB_bd h
    go_enter Try.func57, Try.ntmps57
    go_wp2_with (first | (go_at_call 51; refine (out_one _ n _ _ (by simp) (by simp)).mono ?_; rintro e w' ⟨rfl, hb'⟩) | (go_at_call 89; refine (signed_any n _ h0 h1).mono ?_; rintro e w' ⟨rfl, rfl⟩))
    go_ret2
    exact ⟨by simp [signedQ, h], hb'.old⟩
/-- an order with an error's code, as a value -/
def ovE (p : Ord × Int) : Value := .tuple #[.agg #[.int .i64 p.1.op, .int .i64 p.1.frm, .int .i64 p.1.to, .int .i64 p.1.nxt], .int .i64 p.2]
theorem ext_set4 {w w1 : World} {n : Nat} (h : Ext w w1) (hn : w.heap.size ≤ n) (a b c d : Value) (i j k l : Nat) : Ext w ((((w1.setCell ⟨n, i, none⟩ a).setCell ⟨n, j, none⟩ b).setCell ⟨n, k, none⟩ c).setCell ⟨n, l, none⟩ d) :=
  (((h.setCell (p := ⟨n, i, none⟩) hn a).setCell (p := ⟨n, j, none⟩) hn b).setCell (p := ⟨n, k, none⟩) hn c).setCell (p := ⟨n, l, none⟩) hn d
set_option maxHeartbeats 1000000 in
theorem decodeE_any (n : Int) (w : World) :
    Calls Try.prog 58 #[.int .i64 n] w fun e w' => e = .returned (ovE (decQ n)) ∧ Ext w w' := by
  cases h : wordB n with
  | false =>
    have h' : inB n 0 16777215 = false := h
    go_enter Try.func58, Try.ntmps58
    go_wp2_with fail
    refine (out_one _ n _ _ (by simp) (by simp)).mono ?_
    rintro e w1 ⟨rfl, hb⟩
    have q0 := box_at (v := .int .i64 0) hb.old 0 rfl
    have q1 := box_at (v := .int .i64 0) hb.old 1 rfl
    have q2 := box_at (v := .int .i64 0) hb.old 2 rfl
    have q3 := box_at (v := .int .i64 0) hb.old 3 rfl
    have f0 := box_free hb.old 0
    have f1 := box_free hb.old 1
    have f2 := box_free hb.old 2
    have f3 := box_free hb.old 3
    go_wp2
    exact bodyPost_ret (v := .tuple #[.agg #[.int .i64 0, .int .i64 0, .int .i64 0, .int .i64 0], .int .i64 7]) (by simp [results, Try.results58, go_sem, q0, q1, q2, q3]) rfl ⟨by simp [decQ, h, ovE], ext_set4 hb.old.old (Nat.le_refl _) _ _ _ _ _ _ _ _⟩
  | true =>
    have h' : inB n 0 16777215 = true := h
    obtain ⟨h0, h1⟩ := wordB_bd h
    have e : decQ n = (decodeQ n, 0) := by simp [decQ, h]
    rw [e]
    have hd := fun W => decode_any n W h0
    generalize decodeQ n = o at hd ⊢
    go_enter Try.func58, Try.ntmps58
    go_wp2_with fail
    refine (out_one _ n _ _ (by simp) (by simp)).mono ?_
    rintro e w1 ⟨rfl, hb⟩
    go_wp2_with fail
    refine (hd _).mono ?_
    rintro e w2 ⟨rfl, hb2⟩
    have hb3 := hb.comp hb2
    have q0 := box_at (v := .int .i64 0) hb3.old 0 rfl
    have q1 := box_at (v := .int .i64 0) hb3.old 1 rfl
    have q2 := box_at (v := .int .i64 0) hb3.old 2 rfl
    have q3 := box_at (v := .int .i64 0) hb3.old 3 rfl
    have f0 := box_free hb3.old 0
    have f1 := box_free hb3.old 1
    have f2 := box_free hb3.old 2
    have f3 := box_free hb3.old 3
    go_wp2
    exact bodyPost_ret (v := ovE (o, 0)) (by simp [results, Try.results58, go_sem, q0, q1, q2, q3, ovE]) rfl ⟨rfl, ext_set4 hb3.old.old (Nat.le_refl _) _ _ _ _ _ _ _ _⟩
set_option maxHeartbeats 1000000 in
theorem rdecodeE_any (n : Int) (w : World) :
    Calls Try.prog 43 #[.int .i64 n] w fun e w' => e = .returned (ovE (decQ n)) ∧ Ext w w' := by
  cases h : wordB n with
  | false =>
    go_enter Try.func43, Try.ntmps43
    go_wp2_with (go_at_call 41; refine (word_any n _).mono ?_; rintro e w' ⟨rfl, rfl⟩)
    exact bodyPost_ret (v := .tuple #[.agg #[.int .i64 0, .int .i64 0, .int .i64 0, .int .i64 0], .int .i64 7]) (by simp [results, Try.results43, go_sem]) rfl ⟨by simp [decQ, h, ovE], (Ext.refl w).alloc _⟩
  | true =>
    obtain ⟨h0, h1⟩ := wordB_bd h
    have e : decQ n = (decodeQ n, 0) := by simp [decQ, h]
    rw [e]
    have hd := fun W => rdecode_any n W h0 h1
    generalize decodeQ n = o at hd ⊢
    go_enter Try.func43, Try.ntmps43
    go_wp2_with fail
    refine (word_any n _).mono ?_
    rintro e w' ⟨rfl, rfl⟩
    go_wp2_with fail
    refine (hd _).mono ?_
    rintro e w2 ⟨rfl, hb3⟩
    have q0 := box_at (v := .int .i64 0) hb3 0 rfl
    have q1 := box_at (v := .int .i64 0) hb3 1 rfl
    have q2 := box_at (v := .int .i64 0) hb3 2 rfl
    have q3 := box_at (v := .int .i64 0) hb3 3 rfl
    have f0 := box_free hb3 0
    have f1 := box_free hb3 1
    have f2 := box_free hb3 2
    have f3 := box_free hb3 3
    go_wp2
    exact bodyPost_ret (v := ovE (o, 0)) (by simp [results, Try.results43, go_sem, q0, q1, q2, q3, ovE]) rfl ⟨rfl, ext_set4 hb3.old (Nat.le_refl _) _ _ _ _ _ _ _ _⟩

end Go.Proofs.Ytjfggepgjpdebaa

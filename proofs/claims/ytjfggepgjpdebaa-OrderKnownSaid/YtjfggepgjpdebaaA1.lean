/- Contracts of the small functions that only reckon: in, Word, Address, Sign, signed, pack, unpack, Written. -/
import Derived.Test.YtjfggepgjpdebaaRows
import Derived.Test.YtjfggepgjpdebaaSpec4
import Derived.Test.YtjfggepgjpdebaaLib
set_option linter.unusedVariables false
set_option linter.unusedSimpArgs false
namespace Go.Proofs.Ytjfggepgjpdebaa
open Go.RowKit Go.Q

set_option maxHeartbeats 400000 in
theorem in_any (n l h : Int) (w : World) :
    Calls Try.prog 77 #[.int .i64 n, .int .i64 l, .int .i64 h] w fun e w' => e = .returned (.bool (inB n l h)) ∧ w = w' := by
  go_enter Try.func77, Try.ntmps77
  by_cases h1 : l ≤ n
  · go_wp2
    go_ret
    exact ⟨ret_bool (by simp [inB, h1]), rfl⟩
  · go_wp2
    go_ret
    exact ⟨ret_bool (by rw [inB, decide_eq_false (by omega)]; rfl), rfl⟩
set_option maxHeartbeats 400000 in
theorem word_any (n : Int) (w : World) :
    Calls Try.prog 41 #[.int .i64 n] w fun e w' => e = .returned (.bool (wordB n)) ∧ w = w' := by
  go_enter Try.func41, Try.ntmps41
  go_wp2_with (go_at_call 77; refine (in_any _ _ _ _).mono ?_; rintro e w' ⟨rfl, rfl⟩)
  go_ret
  exact ⟨rfl, rfl⟩
set_option maxHeartbeats 400000 in
theorem address_any (n : Int) (w : World) :
    Calls Try.prog 54 #[.int .i64 n] w fun e w' => e = .returned (.bool (addrB n)) ∧ w = w' := by
  go_enter Try.func54, Try.ntmps54
  go_wp2_with (go_at_call 77; refine (in_any _ _ _ _).mono ?_; rintro e w' ⟨rfl, rfl⟩)
  go_ret
  exact ⟨rfl, rfl⟩
set_option maxHeartbeats 400000 in
theorem sign_any (n : Int) (w : World) (h0 : 0 ≤ n) (h1 : n ≤ 16777215) :
    Calls Try.prog 42 #[.int .i64 n] w fun e w' => e = .returned (.int .i64 (sgn n)) ∧ w = w' := by
  go_enter Try.func42, Try.ntmps42
  by_cases h2 : 8388608 ≤ n
  · go_wp2
    go_ret
    exact ⟨ret_int (by simp [sgn, h2]), rfl⟩
  · go_wp2
    go_ret
    exact ⟨ret_int (by rw [sgn, if_neg (by omega)]), rfl⟩
set_option maxHeartbeats 400000 in
theorem signed_any (n : Int) (w : World) (h0 : 0 ≤ n) (h1 : n ≤ 16777215) :
    Calls Try.prog 89 #[.int .i64 n] w fun e w' => e = .returned (.int .i64 (sgn n)) ∧ w = w' := by
  go_enter Try.func89, Try.ntmps89
  go_wp2
  go_ret
  exact ⟨ret_int (by show n - n / 8388608 * 16777216 = sgn n; unfold sgn; split <;> omega), rfl⟩
theorem unpack_any (n : Int) (w : World) (h0 : 0 ≤ n) :
    Calls Try.prog 113 #[.int .i64 n] w fun e w' => e = .returned (.tuple #[.int .i64 (n / 128), .int .i64 (n % 128)]) ∧ w = w' := by
  go_enter Try.func113, Try.ntmps113
  go_wp2
  go_ret2
  exact ⟨ret_int2 rfl (Q.i64_and127 n), rfl⟩
theorem written_any (a b c d : Int) (w : World) (h : ordB ⟨a, b, c, d⟩ = true) :
    Calls Try.prog 24 #[.agg #[.int .i64 a, .int .i64 b, .int .i64 c, .int .i64 d]] w fun e w' => e = .returned (.int .i64 (Q.written ⟨a, b, c, d⟩)) ∧ Ext w w' := by
  simp [ordB, inB, addrB] at h
  obtain ⟨⟨⟨⟨a0, a1⟩, b0, b1⟩, c0, c1⟩, d0, d1⟩ := h
  go_enter Try.func24, Try.ntmps24
  go_wp2
  go_ret
  exact ⟨rfl, (Ext.refl w).alloc _⟩
end Go.Proofs.Ytjfggepgjpdebaa

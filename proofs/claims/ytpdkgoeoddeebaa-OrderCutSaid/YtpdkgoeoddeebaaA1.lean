/- Contracts of the small functions that only reckon: in, Word, Address, Sign, signed, pack, unpack, Written. -/
import Derived.Test.YtpdkgoeoddeebaaRows
import Derived.Test.YtpdkgoeoddeebaaSpec4
import Derived.Test.YtpdkgoeoddeebaaLib
set_option linter.unusedVariables false
set_option linter.unusedSimpArgs false
namespace Go.Proofs.Ytpdkgoeoddeebaa
open Go.RowKit Go.Q

set_option maxHeartbeats 400000 in
theorem in_any (n l h : Int) (w : World) :
    Calls Try.prog 44 #[.int .i64 n, .int .i64 l, .int .i64 h] w fun e w' => e = .returned (.bool (inB n l h)) ∧ w = w' := by
  go_enter Try.func44, Try.ntmps44
  by_cases h1 : l ≤ n
  · go_wp2
    go_ret
    exact ⟨ret_bool (by simp [inB, h1]), rfl⟩
  · go_wp2
    go_ret
    exact ⟨ret_bool (by rw [inB, decide_eq_false (by omega)]; rfl), rfl⟩
set_option maxHeartbeats 400000 in
theorem word_any (n : Int) (w : World) :
    Calls Try.prog 30 #[.int .i64 n] w fun e w' => e = .returned (.bool (wordB n)) ∧ w = w' := by
  go_enter Try.func30, Try.ntmps30
  go_wp2_with (go_at_call 44; refine (in_any _ _ _ _).mono ?_; rintro e w' ⟨rfl, rfl⟩)
  go_ret
  exact ⟨rfl, rfl⟩
set_option maxHeartbeats 400000 in
theorem address_any (n : Int) (w : World) :
    Calls Try.prog 45 #[.int .i64 n] w fun e w' => e = .returned (.bool (addrB n)) ∧ w = w' := by
  go_enter Try.func45, Try.ntmps45
  go_wp2_with (go_at_call 44; refine (in_any _ _ _ _).mono ?_; rintro e w' ⟨rfl, rfl⟩)
  go_ret
  exact ⟨rfl, rfl⟩
set_option maxHeartbeats 400000 in
theorem sign_any (n : Int) (w : World) (h0 : 0 ≤ n) (h1 : n ≤ 16777215) :
    Calls Try.prog 59 #[.int .i64 n] w fun e w' => e = .returned (.int .i64 (sgn n)) ∧ w = w' := by
  go_enter Try.func59, Try.ntmps59
  by_cases h2 : 8388608 ≤ n
  · go_wp2
    go_ret
    exact ⟨ret_int (by simp [sgn, h2]), rfl⟩
  · go_wp2
    go_ret
    exact ⟨ret_int (by rw [sgn, if_neg (by omega)]), rfl⟩
set_option maxHeartbeats 400000 in
theorem signed_any (n : Int) (w : World) (h0 : 0 ≤ n) (h1 : n ≤ 16777215) :
    Calls Try.prog 54 #[.int .i64 n] w fun e w' => e = .returned (.int .i64 (sgn n)) ∧ w = w' := by
  go_enter Try.func54, Try.ntmps54
  go_wp2
  go_ret
  exact ⟨ret_int (by show n - n / 8388608 * 16777216 = sgn n; unfold sgn; split <;> omega), rfl⟩
theorem unpack_any (n : Int) (w : World) (h0 : 0 ≤ n) :
    Calls Try.prog 66 #[.int .i64 n] w fun e w' => e = .returned (.tuple #[.int .i64 (n / 128), .int .i64 (n % 128)]) ∧ w = w' := by
  go_enter Try.func66, Try.ntmps66
  go_wp2
  go_ret2
  exact ⟨ret_int2 rfl (Q.i64_and127 n), rfl⟩
theorem pack_any (n x : Int) (w : World) (h0 : 0 ≤ n) (h1 : n ≤ 16777215) (h2 : 0 ≤ x) (h3 : x ≤ 127) :
    Calls Try.prog 56 #[.int .i64 n, .int .i64 x] w fun e w' => e = .returned (.int .i64 (n * 128 + x)) ∧ w = w' := by
  go_enter Try.func56, Try.ntmps56
  go_wp2
  go_ret
  exact ⟨ret_int (i64_or128 n x h0 h1 h2 h3), rfl⟩
theorem written_any (a b c d : Int) (w : World) (h : ordB ⟨a, b, c, d⟩ = true) :
    Calls Try.prog 29 #[.agg #[.int .i64 a, .int .i64 b, .int .i64 c, .int .i64 d]] w fun e w' => e = .returned (.int .i64 (Q.written ⟨a, b, c, d⟩)) ∧ Ext w w' := by
  simp [ordB, inB, addrB] at h
  obtain ⟨⟨⟨⟨a0, a1⟩, b0, b1⟩, c0, c1⟩, d0, d1⟩ := h
  go_enter Try.func29, Try.ntmps29
  go_wp2
  go_ret
  exact ⟨rfl, (Ext.refl w).alloc _⟩
end Go.Proofs.Ytpdkgoeoddeebaa

/- The laws LineNames, LineNexts: their walks. -/
import Derived.Test.YtkkchoinfdfiaaaI1
import Derived.Test.YtkkchoinfdfiaaaH22
set_option linter.unusedVariables false
set_option linter.unusedSimpArgs false
namespace Go.Proofs.Ytkkchoinfdfiaaa
open Go.RowKit Go.Q Go.Shelf

set_option maxHeartbeats 1000000 in
theorem names_law (s : ByteArray) (w : World) (hs : s.size ≤ 9223372036854775807) : Calls Try.prog 3 #[.string s] w fun e w' => e = .returned (.bool true) ∧ Ext w w' := by
  have h1 := fun W => name_any s W hs
  have h2 := fun W => rName_any s W hs
  cases hb : nameB (bytesS s) with
  | true =>
    rw [hb] at h1 h2
    clear hb
    go_enter Try.func3, Try.ntmps3
    go_wp2_with fail
    refine (h1 _).mono ?_
    rintro e w1 ⟨rfl, E1⟩
    go_wp2_with fail
    refine (h2 _).mono ?_
    rintro e w2 ⟨rfl, E2⟩
    go_wp2_with fail
    refine (awake_any _).mono ?_
    rintro e w3 ⟨rfl, E3⟩
    go_wp2
    go_ret
    exact ⟨rfl, (E1.comp E2).comp E3⟩
  | false =>
    rw [hb] at h1 h2
    clear hb
    go_enter Try.func3, Try.ntmps3
    go_wp2_with fail
    refine (h1 _).mono ?_
    rintro e w1 ⟨rfl, E1⟩
    go_wp2_with fail
    refine (h2 _).mono ?_
    rintro e w2 ⟨rfl, E2⟩
    go_wp2_with fail
    refine (awake_any _).mono ?_
    rintro e w3 ⟨rfl, E3⟩
    go_wp2
    go_ret
    exact ⟨rfl, (E1.comp E2).comp E3⟩
set_option maxHeartbeats 1000000 in
theorem nexts_law (l : Ln) (a b : Int) (w : World) : Calls Try.prog 6 #[.agg #[.int .i64 l.words, .int .i64 l.bits, .int .i64 l.period, .int .i64 l.delay, .int .i64 l.slope, .int .i64 l.window], .int .i64 a, .int .i64 b] w fun e w' => e = .returned (.bool true) ∧ Ext w w' := by
  have h1 := fun W => Next_any l a b W
  have h2 := fun W => rNext_any l a b W
  generalize (nextE l a b).1 = x at *
  generalize (nextE l a b).2 = y at *
  go_enter Try.func6, Try.ntmps6
  go_wp2_with fail
  refine (h1 _).mono ?_
  rintro e w1 ⟨rfl, E1⟩
  have E1o := E1.old
  have c0 := box_at (v := .int .i64 l.words) E1 0 rfl
  have c1 := box_at (v := .int .i64 l.bits) E1 1 rfl
  have c2 := box_at (v := .int .i64 l.period) E1 2 rfl
  have c3 := box_at (v := .int .i64 l.delay) E1 3 rfl
  have c4 := box_at (v := .int .i64 l.slope) E1 4 rfl
  have c5 := box_at (v := .int .i64 l.window) E1 5 rfl
  go_wp2_with fail
  refine (h2 _).mono ?_
  rintro e w2 ⟨rfl, E2⟩
  go_wp2_with fail
  refine (awake_any _).mono ?_
  rintro e w3 ⟨rfl, E3⟩
  go_wp2
  go_ret
  exact ⟨rfl, (E1o.comp E2).comp E3⟩
end Go.Proofs.Ytkkchoinfdfiaaa

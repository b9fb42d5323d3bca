/- The law LinePasses: its walk. -/
import Derived.Test.YtkkchoinfdfiaaaI7
set_option linter.unusedVariables false
set_option linter.unusedSimpArgs false
namespace Go.Proofs.Ytkkchoinfdfiaaa
open Go.RowKit Go.Q Go.Shelf Go.Maps

set_option maxRecDepth 100000 in
set_option maxHeartbeats 4000000 in
theorem passes_law (l : Ln) (a1 a2 : Option Addr) (n1 n2 c1 c2 : Nat) (ws ts : List Int) (w : World) (l1 : ws.length = n1) (l2 : ts.length = n2) (b1 : n1 ≤ 9223372036854775807) (b2 : n2 ≤ 9223372036854775807) (i1 : IntsAt w a1 ws) (i2 : IntsAt w a2 ts) :
    Calls Try.prog 4 #[.agg #[.int .i64 l.words, .int .i64 l.bits, .int .i64 l.period, .int .i64 l.delay, .int .i64 l.slope, .int .i64 l.window], .slice a1 n1 c1, .slice a2 n2 c2] w fun e w' => e = .returned (.bool true) ∧ Ext w w' := by
  have hps := fun W (E : Ext w W) => Pass_any l a1 a2 n1 n2 c1 c2 ws ts W l1 l2 b1 b2 (i1.ext E) (i2.ext E)
  have hpr := fun W (E : Ext w W) => rpass_any l a1 a2 n1 n2 c1 c2 ws ts W l1 l2 b1 b2 (i1.ext E) (i2.ext E)
  have hlen : (passE l ws ts).1.length ≤ 9223372036854775807 := by
    unfold passE
    split
    · rename_i hx
      have hy : passY l ws ts = 0 := by
        by_cases h : passY l ws ts = 0
        · exact h
        · rw [passX_Y h] at hx; exact absurd hx h
      have hw := (okL_ok (passY_ok hy).1).words
      unfold passW wordsN
      rw [fstN_length]
      omega
    · simp
  obtain ⟨V, hV⟩ : ∃ V, (passE l ws ts).1 = V := ⟨_, rfl⟩
  obtain ⟨x, hx⟩ : ∃ x, (passE l ws ts).2.1 = x := ⟨_, rfl⟩
  obtain ⟨y, hy⟩ : ∃ y, (passE l ws ts).2.2 = y := ⟨_, rfl⟩
  have e : passE l ws ts = (V, x, y) := by rw [← hV, ← hx, ← hy]
  rw [hV] at hlen
  rw [e] at hps hpr
  clear hV hx hy e i1 i2 l1 l2
  obtain ⟨m, hm⟩ : ∃ m, V.length = m := ⟨_, rfl⟩
  rw [hm] at hlen
  have hin := fun (a b : Option Addr) (c d : Nat) W (j : IntsAt W a V) (k : IntsAt W b V) => ints_any a b m m c d V V W hm hm hlen hlen j k
  rw [show decide (V = V) = true from decide_eq_true rfl] at hin
  have HM := Lib.hid hm
  clear hm
  go_enter Try.func4, Try.ntmps4
  go_wp2_with fail
  refine (hps _ ((Ext.refl w).alloc _)).mono ?_
  rintro e w1 ⟨a5, k5, rfl, hI5, E1⟩
  rw [show ((V, x, y) : List Int × Int × Int).1.length = m from HM.out]
  have c0 := box_at (v := .int .i64 l.words) E1 0 rfl
  have c1 := box_at (v := .int .i64 l.bits) E1 1 rfl
  have c2 := box_at (v := .int .i64 l.period) E1 2 rfl
  have c3 := box_at (v := .int .i64 l.delay) E1 3 rfl
  have c4 := box_at (v := .int .i64 l.slope) E1 4 rfl
  have c5 := box_at (v := .int .i64 l.window) E1 5 rfl
  go_wp2_with fail
  refine (hpr _ E1.old).mono ?_
  rintro e w2 ⟨a6, k6, rfl, hI6, E2⟩
  rw [show ((V, x, y) : List Int × Int × Int).1.length = m from HM.out]
  have hI5' := hI5.ext E2
  clear hps hpr hI5 c0 c1 c2 c3 c4 c5
  go_wp2_with fail
  refine (hin _ _ _ _ _ hI5' hI6).mono ?_
  rintro e w3 ⟨rfl, E3⟩
  go_wp2_with fail
  refine (awake_any _).mono ?_
  rintro e w4 ⟨rfl, E4⟩
  go_wp2
  go_ret
  exact ⟨rfl, (E1.old.comp E2).comp (E3.comp E4)⟩
end Go.Proofs.Ytkkchoinfdfiaaa

/- The law LineFiles: its walk. -/
import Derived.Test.YtkkchoinfdfiaaaLR7
import Derived.Test.YtkkchoinfdfiaaaN12
import Derived.Test.YtkkchoinfdfiaaaH22
set_option linter.unusedVariables false
set_option linter.unusedSimpArgs false
namespace Go.Proofs.Ytkkchoinfdfiaaa
open Go.RowKit Go.Q Go.Shelf Go.Maps

set_option maxRecDepth 100000 in
set_option maxHeartbeats 4000000 in
theorem files_law (l : Ln) (a1 a2 : Option Addr) (n1 n2 c1 c2 : Nat) (ws bs : List Int) (w : World) (l1 : ws.length = n1) (l2 : bs.length = n2) (b1 : n1 ≤ 9223372036854775807) (b2 : n2 ≤ c2 ∧ c2 ≤ 9223372036854775807) (i1 : IntsAt w a1 ws) (i2 : BytesAt w a2 bs) (o2 : ∀ x ∈ bs, 0 ≤ x ∧ x ≤ 255) :
    Calls Try.prog 18 #[.agg #[.int .i64 l.words, .int .i64 l.bits, .int .i64 l.period, .int .i64 l.delay, .int .i64 l.slope, .int .i64 l.window], .slice a1 n1 c1, .slice a2 n2 c2] w fun e w' => e = .returned (.bool true) ∧ Ext w w' := by
  have hwp := fun W (E : Ext w W) => Write_any l a1 n1 c1 ws W l1 b1 (i1.ext E)
  have hwr := fun W (E : Ext w W) => rWrite_any l a1 n1 c1 ws W l1 b1 (i1.ext E)
  have hrp := fun W (E : Ext w W) => Read_any a2 n2 c2 bs W l2 b2.1 b2.2 (i2.ext E) o2
  have hrr := fun W (E : Ext w W) => rRead_any a2 n2 c2 bs W l2 (Nat.le_trans b2.1 b2.2) (i2.ext E) o2
  have hVb : ∀ x ∈ (writeE l ws).1, 0 ≤ x ∧ x ≤ 255 := write_bd
  obtain ⟨V, hV⟩ : ∃ V, (writeE l ws).1 = V := ⟨_, rfl⟩
  obtain ⟨y, hy⟩ : ∃ y, (writeE l ws).2 = y := ⟨_, rfl⟩
  have e : writeE l ws = (V, y) := by rw [← hV, ← hy]
  rw [hV] at hVb
  rw [e] at hwp hwr
  have hlen : (readF bs).2.2.1.length ≤ 9223372036854775807 := Nat.le_trans (read_small o2) (by decide)
  obtain ⟨A, hA⟩ : ∃ A, (readF bs).1 = A := ⟨_, rfl⟩
  obtain ⟨B, hB⟩ : ∃ B, (readF bs).2.1 = B := ⟨_, rfl⟩
  obtain ⟨U, hU⟩ : ∃ U, (readF bs).2.2.1 = U := ⟨_, rfl⟩
  obtain ⟨z, hz⟩ : ∃ z, (readF bs).2.2.2 = z := ⟨_, rfl⟩
  have e2 : readF bs = (A, B, U, z) := by rw [← hA, ← hB, ← hU, ← hz]
  rw [hU] at hlen
  rw [e2] at hrp hrr
  clear hV hy e hA hB hU hz e2 i1 i2 o2 l1 l2 b1 b2
  obtain ⟨m, hm⟩ : ∃ m, V.length = m := ⟨_, rfl⟩
  obtain ⟨u, hu⟩ : ∃ u, U.length = u := ⟨_, rfl⟩
  rw [hu] at hlen
  have hin := fun (a b : Option Addr) (c d : Nat) W (j : IntsAt W a U) (k : IntsAt W b U) => ints_any a b u u c d U U W hu hu hlen hlen j k
  rw [show decide (U = U) = true from decide_eq_true rfl] at hin
  have hcv := fun (W : World) (a : Option Addr) (c : Nat) (h : BytesAt W a V) => conv_bytes (c := c) h hVb
  rw [hm] at hcv
  have HM := Lib.hid hm
  have HU := Lib.hid hu
  have hss : (!((strU V).toList == (strU V).toList)) = false := by simp only [beq_self_eq_true, Bool.not_true]
  clear hm hu hVb
  generalize strU V = sv at *
  go_enter Try.func18, Try.ntmps18
  go_wp2_with fail
  refine (hwp _ ((Ext.refl w).alloc _)).mono ?_
  rintro e w1 ⟨a5, k5, rfl, _, hI5, E1⟩
  rw [show ((V, y) : List Int × Int).1.length = m from HM.out]
  have c0 := box_at (v := .int .i64 l.words) E1 0 rfl
  have c1 := box_at (v := .int .i64 l.bits) E1 1 rfl
  have c2 := box_at (v := .int .i64 l.period) E1 2 rfl
  have c3 := box_at (v := .int .i64 l.delay) E1 3 rfl
  have c4 := box_at (v := .int .i64 l.slope) E1 4 rfl
  have c5 := box_at (v := .int .i64 l.window) E1 5 rfl
  go_wp2_with fail
  refine (hwr _ E1.old).mono ?_
  rintro e w2 ⟨a6, k6, rfl, _, hI6, E2⟩
  rw [show ((V, y) : List Int × Int).1.length = m from HM.out]
  have hc5 := hcv w2 a5 k5 (hI5.ext E2)
  have hc6 := hcv w2 a6 k6 hI6
  clear hwp hwr hI5 hI6 c0 c1 c2 c3 c4 c5 hcv
  go_wp2_with fail
  refine (hrp _ (E1.old.comp E2)).mono ?_
  rintro e w3 ⟨a7, k7, rfl, hI7, E3⟩
  rw [show ((A, B, U, z) : Int × Int × List Int × Int).2.2.1.length = u from HU.out]
  clear hc5 hc6
  go_wp2_with fail
  refine (hrr _ ((E1.old.comp E2).comp E3)).mono ?_
  rintro e w4 ⟨a8, k8, rfl, hI8, E4⟩
  rw [show ((A, B, U, z) : Int × Int × List Int × Int).2.2.1.length = u from HU.out]
  have hI7' := hI7.ext E4
  clear hrp hrr hI7
  go_wp2_with fail
  refine (hin _ _ _ _ _ hI7' hI8).mono ?_
  rintro e w5 ⟨rfl, E5⟩
  go_wp2_with fail
  refine (awake_any _).mono ?_
  rintro e w6 ⟨rfl, E6⟩
  go_wp2
  go_ret
  exact ⟨rfl, ((((E1.old.comp E2).comp E3).comp E4).comp E5).comp E6⟩
end Go.Proofs.Ytkkchoinfdfiaaa

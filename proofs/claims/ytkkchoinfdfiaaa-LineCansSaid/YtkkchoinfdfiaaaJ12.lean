/- The law LineCans: its walk. -/
import Derived.Test.YtkkchoinfdfiaaaI8b
set_option linter.unusedVariables false
set_option linter.unusedSimpArgs false
namespace Go.Proofs.Ytkkchoinfdfiaaa
open Go.RowKit Go.Q Go.Shelf Go.Maps

set_option maxRecDepth 100000 in
set_option maxHeartbeats 4000000 in
theorem cans_law (l : Ln) (a2 : Option Addr) (n2 c2 : Nat) (ss : List Sp) (w : World) (l2 : ss.length = n2) (b2 : n2 ≤ 9223372036854775807) (i2 : SpansAt w a2 ss) :
    Calls Try.prog 5 #[.agg #[.int .i64 l.words, .int .i64 l.bits, .int .i64 l.period, .int .i64 l.delay, .int .i64 l.slope, .int .i64 l.window], .slice a2 n2 c2] w fun e w' => e = .returned (.bool true) ∧ Ext w w' := by
  have hps := fun W (E : Ext w W) => Can_any l a2 n2 c2 ss W l2 b2 (i2.ext E)
  have hpr := fun W (E : Ext w W) => rcan_any l a2 n2 c2 ss W l2 b2 (i2.ext E)
  have hlen : (canE l ss).1.length ≤ 9223372036854775807 := by
    unfold canE
    split
    · rename_i hx
      have ho : okL l = true := by
        cases h : okL l with
        | true => rfl
        | false => unfold canX at hx; rw [if_pos h] at hx; omega
      have hb := (okL_ok ho).beats
      have := pickT_length (canC l ss) (beatsL l).toNat
      rw [pickT_all] at this
      dsimp only
      omega
    · simp
  obtain ⟨V, hV⟩ : ∃ V, (canE l ss).1 = V := ⟨_, rfl⟩
  obtain ⟨L, hL⟩ : ∃ L, (canE l ss).2.1 = L := ⟨_, rfl⟩
  obtain ⟨y, hy⟩ : ∃ y, (canE l ss).2.2 = y := ⟨_, rfl⟩
  have e : canE l ss = (V, L, y) := by rw [← hV, ← hL, ← hy]
  rw [hV] at hlen
  rw [e] at hps hpr
  clear hV hL hy e i2 l2
  obtain ⟨m, hm⟩ : ∃ m, V.length = m := ⟨_, rfl⟩
  rw [hm] at hlen
  have hin := fun (a b : Option Addr) (c d : Nat) W (j : IntsAt W a V) (k : IntsAt W b V) => ints_any a b m m c d V V W hm hm hlen hlen j k
  rw [show decide (V = V) = true from decide_eq_true rfl] at hin
  have HM := Lib.hid hm
  clear hm
  go_enter Try.func5, Try.ntmps5
  go_wp2_with fail
  refine (hps _ ((Ext.refl w).alloc _)).mono ?_
  rintro e w1 ⟨a5, k5, rfl, hI5, E1⟩
  rw [show ((V, L, y) : List Int × Bool × Int).1.length = m from HM.out]
  dsimp only
  have c0 := fun ob => box_at (v := .int .i64 l.words) (Ext.alloc E1 ob) 0 rfl
  have c1 := fun ob => box_at (v := .int .i64 l.bits) (Ext.alloc E1 ob) 1 rfl
  have c2 := fun ob => box_at (v := .int .i64 l.period) (Ext.alloc E1 ob) 2 rfl
  have c3 := fun ob => box_at (v := .int .i64 l.delay) (Ext.alloc E1 ob) 3 rfl
  have c4 := fun ob => box_at (v := .int .i64 l.slope) (Ext.alloc E1 ob) 4 rfl
  have c5 := fun ob => box_at (v := .int .i64 l.window) (Ext.alloc E1 ob) 5 rfl
  go_wp2_with fail
  refine (hpr _ (E1.old.alloc _)).mono ?_
  rintro e w2 ⟨a6, k6, rfl, hI6, E2⟩
  rw [show ((V, L, y) : List Int × Bool × Int).1.length = m from HM.out]
  dsimp only
  have hI5' := hI5.ext E2.old
  clear hps hpr hI5 c0 c1 c2 c3 c4 c5
  have u0 := box_at (v := .slice a5 m k5) E2 0 rfl
  have u1 := box_at (v := .bool L) E2 1 rfl
  have E3 := (Ext.refl w2).alloc (.cells #[.slice a6 m k6, .bool L] 34)
  have v0 := cell_laterA u0 E3
  have v1 := cell_laterA u1 E3
  have z0 := box_at (v := .slice a6 m k6) (Ext.refl (w2.alloc (.cells #[.slice a6 m k6, .bool L] 34))) 0 rfl
  have z1 := box_at (v := .bool L) (Ext.refl (w2.alloc (.cells #[.slice a6 m k6, .bool L] 34))) 1 rfl
  go_wp2_with fail
  clear u0 u1
  generalize w2.alloc (.cells #[.slice a6 m k6, .bool L] 34) = W2 at *
  refine (hin _ _ _ _ _ (hI5'.ext E3) (hI6.ext E3)).mono ?_
  rintro e w3 ⟨rfl, E4⟩
  have y0 := cell_laterA v1 E4
  have y1 := cell_laterA z1 E4
  clear v0 v1 z0 z1 hI5' hI6
  go_wp2_with fail
  refine (awake_any _).mono ?_
  rintro e w5 ⟨rfl, E5⟩
  go_wp2
  go_ret
  exact ⟨rfl, ((E1.old.comp E2.old).comp E3).comp (E4.comp E5)⟩
end Go.Proofs.Ytkkchoinfdfiaaa

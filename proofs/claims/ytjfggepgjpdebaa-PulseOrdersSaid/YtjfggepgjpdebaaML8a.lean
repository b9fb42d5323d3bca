import Derived.Outline
import Derived.Test.YtjfggepgjpdebaaML0
import Derived.Test.YtjfggepgjpdebaaMX3
import Derived.Test.YtjfggepgjpdebaaMX1
set_option linter.unusedVariables false
set_option linter.unusedSimpArgs false
/- Contract: PulseOrders returns true. -/
namespace Go.Proofs.Ytjfggepgjpdebaa
open Go.RowKit Go.Q
def StZ (er : Int) (w : World) (e : Ending) (w' : World) : Prop := ∃ u1 u2 u3 p1 p2 p3, e = .returned (.tuple #[.agg #[.slice u1 0 p1, .slice u2 0 p2, .int .i64 0, .slice u3 0 p3, .int .i64 0, .int .i64 0, .int .i64 0, .int .i64 0], .int .i64 er]) ∧ Ext w w'
theorem StZ.of {er : Int} {w w' : World} {e : Ending} (h : StRes (zst, er) w e w') : StZ er w e w' := by
  obtain ⟨v, rfl, ⟨a1, a2, a3, c1, c2, c3, rfl, _⟩, hE⟩ := h
  exact ⟨a1, a2, a3, c1, c2, c3, rfl, hE⟩
/-- a state of layer 4 was returned -/
def StR (t : St) (w : World) (e : Ending) (w' : World) : Prop :=
  ∃ x1 x2 x3 m1 k1 m2 k2 m3 k3, e = .returned (.tuple #[sv x1 x2 x3 m1 k1 m2 k2 m3 k3 t.taken t.time t.at_ t.done t.why, .int .i64 0]) ∧ StAt w' (sv x1 x2 x3 m1 k1 m2 k2 m3 k3 t.taken t.time t.at_ t.done t.why) t ∧ Ext w w'
theorem StR.of {t : St} {w w' : World} {e : Ending} (h : StRes (t, 0) w e w') : StR t w e w' := by
  obtain ⟨v, rfl, ⟨a1, a2, a3, c1, c2, c3, rfl, i⟩, hE⟩ := h
  exact ⟨a1, a2, a3, _, c1, _, c2, _, c3, rfl, ⟨a1, a2, a3, c1, c2, c3, rfl, i⟩, hE⟩
set_option maxRecDepth 100000 in
set_option maxHeartbeats 8000000 in
theorem orders_bad (a1 a2 a3 : Option Addr) (n1 c1 n2 c2 n3 c3 : Nat) (s : St) (x er : Int) (w : World) (hx : 0 ≤ x ∧ x ≤ 255) (her : (er != 0) = true)
    (h1 : ∀ W, Ext w W → Calls Try.prog 22 #[sv a1 a2 a3 n1 c1 n2 c2 n3 c3 s.taken s.time s.at_ s.done s.why, .int .i64 x] W (StZ er W)) :
    Calls Try.prog 16 #[sv a1 a2 a3 n1 c1 n2 c2 n3 c3 s.taken s.time s.at_ s.done s.why, .int .u8 x] w fun e w' => e = .returned (.bool true) ∧ Ext w w' := by
  go_enter Try.func16, Try.ntmps16
  go_wp2_with fail
  refine (h1 _ ((Ext.refl w).alloc _)).mono ?_
  rintro e w1 ⟨u1, u2, u3, p1, p2, p3, rfl, E1⟩
  have Y0_1 : Ext w w1 := E1.old
  have Bs_1 := Blk.of E1
  clear E1
  go_wp2_with (go_at_call 30; refine (awake5_any _).mono ?_; rintro e w2 ⟨rfl, E2⟩)
  have Y1_2 : Ext w1 w2 := E2.old
  have Y0_2 : Ext w w2 := Y0_1.comp Y1_2
  have Bs_2 := Blk.ex (Blk.al Bs_1 (.cells #[.slice u1 0 p1, .slice u2 0 p2, .int .i64 0, .slice u3 0 p3, .int .i64 0, .int .i64 0, .int .i64 0, .int .i64 0] 24)) E2
  have Bt_2 := Blk.of E2
  clear Bs_1 Y0_1
  clear E2
  go_ret
  exact ⟨rfl, Y0_2⟩
set_option maxRecDepth 100000 in
set_option maxHeartbeats 8000000 in
theorem orders_early (a1 a2 a3 : Option Addr) (n1 c1 n2 c2 n3 c3 : Nat) (s t : St) (x : Int) (w : World) (hx : 0 ≤ x ∧ x ≤ 255) (hs : 0 ≤ s.time ∧ s.time ≤ 1000000000) (ht : 0 ≤ t.time ∧ t.time ≤ 1000000000)
    (hc : (t.why == 4) = true ∨ ((t.why == 4) = false ∧ (t.time == 1000000000) = true) ∨ ((t.why == 4) = false ∧ (t.time == 1000000000) = false ∧ 19999 < t.time - s.time))
    (h1 : ∀ W, Ext w W → Calls Try.prog 22 #[sv a1 a2 a3 n1 c1 n2 c2 n3 c3 s.taken s.time s.at_ s.done s.why, .int .i64 x] W (StR t W)) :
    Calls Try.prog 16 #[sv a1 a2 a3 n1 c1 n2 c2 n3 c3 s.taken s.time s.at_ s.done s.why, .int .u8 x] w fun e w' => e = .returned (.bool true) ∧ Ext w w' := by
  rcases hc with hc | ⟨hc, hc2⟩ | ⟨hc, hc2, hc3⟩
  all_goals
    go_enter Try.func16, Try.ntmps16
    go_wp2_with fail
    refine (h1 _ ((Ext.refl w).alloc _)).mono ?_
    rintro e w1 ⟨x1, x2, x3, m1, k1, m2, k2, m3, k3, rfl, A1, E1⟩
    have Y0_1 : Ext w w1 := E1.old
    have Bs_1 := Blk.of E1
    have q1s4 := fun ob => Blk.c (Blk.al Bs_1 ob) 4 (v := .int .i64 s.time) rfl
    clear E1
    go_wp2_with (go_at_call 30; refine (awake5_any _).mono ?_; rintro e w2 ⟨rfl, E2⟩)
    clear q1s4
    have Y1_2 : Ext w1 w2 := E2.old
    have Y0_2 : Ext w w2 := Y0_1.comp Y1_2
    have Bs_2 := Blk.ex (Blk.al Bs_1 (.cells #[.slice x1 m1 k1, .slice x2 m2 k2, .int .i64 t.taken, .slice x3 m3 k3, .int .i64 t.time, .int .i64 t.at_, .int .i64 t.done, .int .i64 t.why] 24)) E2
    have Bt_2 := Blk.of E2
    clear Bs_1 Y0_1
    clear E2
    go_ret
    exact ⟨rfl, Y0_2⟩
end Go.Proofs.Ytjfggepgjpdebaa

import Derived.Deep.DeepCutAuto
import Derived.Outline
import Derived.Test.YtjfggepgjpdebaaM18
import Derived.Test.YtjfggepgjpdebaaM12
import Derived.Test.YtjfggepgjpdebaaM26
set_option linter.unusedVariables false
set_option linter.unusedSimpArgs false
/- Contract: the reference of layer 5: Order. -/
namespace Go.Proofs.Ytjfggepgjpdebaa
open Go.RowKit Go.Q
theorem after_time (s : Pu) : Q.after (s.clock - 1) s.at_ = timeP s := by
  unfold Q.after timeP
  rw [show s.clock - 1 + 1 = s.clock by omega, show s.at_ - (s.clock - 1) - 1 = s.at_ - s.clock by omega]
set_option maxHeartbeats 1000000 in
theorem rafter5_any (t a : Int) (w : World) (ht0 : -1 ≤ t) (ht1 : t ≤ 2000000000) (ha0 : 0 ≤ a) (ha1 : a ≤ 127) :
    Calls Try.prog 85 #[.int .i64 t, .int .i64 a] w fun e w' => e = .returned (.int .i64 (Q.after t a)) ∧ w = w' := by
  have hq : Q.after t a = t + 1 + (a - t - 1) % 16 := rfl
  go_enter Try.func85, Try.ntmps85
  go_wp2
  go_loop [5] (fun s => ∃ k : Int, 0 ≤ k ∧ k ≤ (a - t - 1) % 16 ∧ s = .int .i64 (t + 1 + k)) (fun s => (t + 20 - intOf s).toNat)
  case atStart => exact ⟨0, by omega, by omega, by go_num⟩
  case round =>
    obtain ⟨k, hk0, hk1, rfl⟩ := hrel
    have hk2 : k ≤ 15 := by omega
    by_cases hlt : k < (a - t - 1) % 16
    · have hne : ((t + 1 + k) % 16 == a % 16) = false := by rw [beq_eq_false_iff_ne]; omega
      have hne' : ((t + 1 + k) % 16 != a % 16) = true := by rw [bne_iff_ne]; omega
      go_wp2
      go_round
      case rel => exact ⟨k + 1, by omega, by omega, by go_num⟩
      case measure => simp [intOf]; omega
    · have heq : ((t + 1 + k) % 16 == a % 16) = true := by rw [beq_iff_eq]; omega
      have heq' : ((t + 1 + k) % 16 != a % 16) = false := by rw [bne_eq_false_iff_eq]; omega
      go_wp2
      go_ret
      exact ⟨ret_int (by show t + 1 + k = Q.after t a; omega), rfl⟩
/-- the frame, whatever of the region has come up -/
def OrL (sz : Nat) (a1 a2 a3 : Option Addr) (n2 n3 k1 k2 k3 : Nat) (s : Pu) (tm : Int) (l : Nat → Bool) (b0 b1 b2 : Nat) (r0 r1 r2 : Option Addr) (q0 q1 q2 : Nat) : Act := { tmps := #[psv a1 a2 a3 128 k1 n2 k2 n3 k3 s, .pointer (some ⟨sz, 0, none⟩), .pointer (some ⟨sz + 1, 0, none⟩), .int .i64 0, .int .i64 0, .int .i64 0, .int .i64 0, .int .i64 tm, .tuple #[.int .i64 0, .int .i64 0, .int .i64 0], .agg #[.slice a1 128 k1, .slice a2 n2 k2, .int .i64 s.taken, .slice a3 n3 k3, .int .i64 s.clock, .int .i64 s.at_, .int .i64 s.phase, .int .i64 s.order, .int .i64 s.operand, .int .i64 s.other, .int .i64 s.product, .int .i64 s.count, .int .i64 s.done, .int .i64 s.why], .tuple #[.int .i64 0, .int .i64 0, .int .i64 0], .int .i64 0, .int .i64 0, .int .i64 0, .int .i64 0, .bool false, undef, undef, .pointer (some ⟨sz, 4, none⟩), .int .i64 s.clock, .int .i64 (s.clock - 1), .pointer (some ⟨sz, 5, none⟩), .int .i64 s.at_, .int .i64 tm, .pointer (some ⟨sz, 6, none⟩), .int .i64 s.phase, .bool false, .bool false, .int .i64 tm, .bool false, .bool false, undef, cond (l 0) (.slice (some ⟨b0, 0, none⟩) 0 0) undef, cond (l 1) (.pointer (some ⟨sz, 0, none⟩)) undef, cond (l 2) (.slice a1 128 k1) undef, cond (l 3) (.slice r0 128 q0) undef, cond (l 4) (.slice (some ⟨b1, 0, none⟩) 0 0) undef, cond (l 5) (.pointer (some ⟨sz, 1, none⟩)) undef, cond (l 6) (.slice a2 n2 k2) undef, cond (l 7) (.slice r1 n2 q1) undef, cond (l 8) (.pointer (some ⟨sz, 2, none⟩)) undef, cond (l 9) (.int .i64 s.taken) undef, cond (l 10) (.slice (some ⟨b2, 0, none⟩) 0 0) undef, cond (l 11) (.pointer (some ⟨sz, 3, none⟩)) undef, cond (l 12) (.slice a3 n3 k3) undef, cond (l 13) (.slice r2 n3 q2) undef, cond (l 14) (.int .i64 tm) undef, cond (l 15) (.pointer (some ⟨sz, 5, none⟩)) undef, cond (l 16) (.int .i64 s.at_) undef, cond (l 17) (.pointer (some ⟨sz, 12, none⟩)) undef, cond (l 18) (.int .i64 s.done) undef, cond (l 19) (.pointer (some ⟨sz, 13, none⟩)) undef, cond (l 20) (.int .i64 s.why) undef, cond (l 21) (.agg #[.slice r0 128 q0, .slice r1 n2 q1, .int .i64 s.taken, .slice r2 n3 q2, .int .i64 tm, .int .i64 s.at_, .int .i64 s.done, .int .i64 s.why]) undef], defers := [] }
/-- what holds, whatever of the region has come up -/
def OrI (w w1 : World) (a1 a2 a3 : Option Addr) (n2 n3 k1 k2 k3 : Nat) (s : Pu) (tm : Int) (l : Nat → Bool) (a : Act) (w' : World) : Prop :=
  ∃ b0 b1 b2 r0 r1 r2 q0 q1 q2, a = OrL w.heap.size a1 a2 a3 n2 n3 k1 k2 k3 s tm l b0 b1 b2 r0 r1 r2 q0 q1 q2 ∧ (l 22 = false → Rows3 w1 s.store s.tape s.printed (l 0) (l 3) (l 4) (l 7) (l 10) (l 13) b0 b1 b2 r0 r1 r2 w') ∧
    (l 22 = true → ∃ wf, Rows3 w1 s.store s.tape s.printed true true true true true true b0 b1 b2 r0 r1 r2 wf ∧ w' = ((((((((wf.setCell ⟨w.heap.size + 1, 0, none⟩ (.slice r0 128 q0)).setCell ⟨w.heap.size + 1, 1, none⟩ (.slice r1 n2 q1)).setCell ⟨w.heap.size + 1, 2, none⟩ (.int .i64 s.taken)).setCell ⟨w.heap.size + 1, 3, none⟩ (.slice r2 n3 q2)).setCell ⟨w.heap.size + 1, 4, none⟩ (.int .i64 tm)).setCell ⟨w.heap.size + 1, 5, none⟩ (.int .i64 s.at_)).setCell ⟨w.heap.size + 1, 6, none⟩ (.int .i64 s.done)).setCell ⟨w.heap.size + 1, 7, none⟩ (.int .i64 s.why)))
set_option maxRecDepth 100000 in
set_option maxHeartbeats 16000000 in
theorem rorder_good (a1 a2 a3 : Option Addr) (n2 n3 k1 k2 k3 : Nat) (s : Pu) (w : World) (l1 : s.store.length = 128) (l2 : s.tape.length = n2) (l3 : s.printed.length = n3) (hv : ValidP s) (hz : checkP s = (0, 0, 0)) (hp : s.phase = 0) (htm : timeP s ≤ 1000000000)
    (i1 : IntsAt w a1 s.store) (i2 : IntsAt w a2 s.tape) (i3 : IntsAt w a3 s.printed) :
    Calls Try.prog 50 #[psv a1 a2 a3 128 k1 n2 k2 n3 k3 s] w (StRes (orderQ s, 0) w) := by
  obtain ⟨i0, hi0, ha0, ha1, ha2⟩ := info_parts Try.infoE
  have hb : PuBd s := ⟨by rw [hv.len]; decide, Nat.le_trans hv.tlen (by decide), Nat.le_trans hv.plen (by decide)⟩
  have m2 : n2 ≤ 200 := by rw [← l2]; exact hv.tlen
  have m3 : n3 ≤ 200 := by rw [← l3]; exact hv.plen
  have hc := fun W (E : Ext w W) => rcheck5_any (psv a1 a2 a3 128 k1 n2 k2 n3 k3 s) s W ⟨a1, a2, a3, k1, k2, k3, by rw [l1, l2, l3], i1.ext E, i2.ext E, i3.ext E⟩ hb
  rw [hz] at hc
  unfold v3 at hc
  obtain ⟨cl0, cl1⟩ := hv.clock
  obtain ⟨at0, at1⟩ := hv.at_
  have haf := fun W => rafter5_any (s.clock - 1) s.at_ W (by omega) (by omega) (by omega) (by omega)
  rw [after_time] at haf
  have bp : (s.phase != 0) = false := by simp [hp]
  have bt : decide (1000000000 < timeP s) = false := by simp; omega
  have Hl := Lib.hid (And.intro l1 (And.intro l2 l3))
  clear l1 l2 l3 hz hv hb hp htm
  generalize hT : timeP s = tm at *
  have HTM := Lib.hid hT
  clear hT
  go_enter Try.func50, Try.ntmps50
  go_wp2_with fail
  refine (hc _ (by repeat (first | with_reducible exact Ext.refl _ | with_reducible refine Ext.alloc ?_ _ | with_reducible refine Below.drew ?_))).mono ?_
  rintro e w1 ⟨rfl, E1⟩
  clear hc
  have F1 : Ext w w1 := E1.old.old
  have PB := Blk.of E1.old
  have RB := Blk.of E1
  rw [World.size_alloc] at RB
  have j1 := i1.ext F1
  have j2 := i2.ext F1
  have j3 := i3.ext F1
  clear i1 i2 i3
  have u0 := Blk.c PB 0 (v := .slice a1 128 k1) rfl
  have u1 := Blk.c PB 1 (v := .slice a2 n2 k2) rfl
  have u2 := Blk.c PB 2 (v := .int .i64 s.taken) rfl
  have u3 := Blk.c PB 3 (v := .slice a3 n3 k3) rfl
  have u4 := Blk.c PB 4 (v := .int .i64 s.clock) rfl
  have u5 := Blk.c PB 5 (v := .int .i64 s.at_) rfl
  have u6 := Blk.c PB 6 (v := .int .i64 s.phase) rfl
  go_wp2_with fail
  refine (haf _).mono ?_
  rintro e wx ⟨rfl, rfl⟩
  go_upto_region 7 with fail
  clear u0 u1 u2 u3 u4 u5 u6
  refine wp_region_closed (OrI w w1 a1 a2 a3 n2 n3 k1 k2 k3 s tm) (by kernel_rfl) (by kernel_rfl) ?start ?step ?done
  case start => exact ⟨0, 0, 0, none, none, none, 0, 0, 0, rfl, fun _ => Rows3.start w1 _ _ _ _ _ _ _ _ _, nofun⟩
  case step =>
    intro l a w' hI hcl i hi hl hw
    have hi2 : i < 24 := hi
    obtain ⟨b0, b1, b2, r0, r1, r2, q0, q1, q2, rfl, hR, hF⟩ := hI
    have cst := hcl 22
    have cbu := hcl 21
    have c3 := hcl 3
    have c7 := hcl 7
    have c13 := hcl 13
    simp only [Region.waits] at cst cbu c3 c7 c13 hw
    clear hcl hi
    match i, hi2 with
    | 0, _ =>
      have hst : l 22 = false := by
              cases h : l 22 with
              | false => rfl
              | true =>
                have c := cst h
                simp [Region.binds] at c
                simp [c] at hl
      have hR2 := hR hst
      have E2 : Ext w1 w' := hR2.1
      have hd : l 3 = false := by
              cases h : l 3 with
              | false => rfl
              | true =>
                have c := c3 h
                simp [Region.binds] at c
                simp [c] at hl
      clear cst cbu c3 c7 c13 hR hF
      clear hw
      refine wpOp_step rfl (fun K2 hK => ?_)
      rw [if_pos (by rfl)]
      unfold OrL
      go_simp
      exact hK _ _ ⟨w'.heap.size, b1, b2, r0, r1, r2, q0, q1, q2, (by unfold OrL; simp [hl, hd]), fun _ => hR2.new0 hd, fun h => absurd h (by show ¬ l 22 = true; rw [hst]; decide)⟩
    | 1, _ =>
      have hst : l 22 = false := by
              cases h : l 22 with
              | false => rfl
              | true =>
                have c := cst h
                simp [Region.binds] at c
                simp [c] at hl
      have hR2 := hR hst
      have E2 : Ext w1 w' := hR2.1
      clear cst cbu c3 c7 c13 hR hF
      clear hw
      refine wpOp_step rfl (fun K2 hK => ?_)
      rw [if_pos (by rfl)]
      unfold OrL
      go_simp
      exact hK _ _ ⟨b0, b1, b2, r0, r1, r2, q0, q1, q2, (by unfold OrL; simp []), fun _ => hR2, fun h => absurd h (by show ¬ l 22 = true; rw [hst]; decide)⟩
    | 2, _ =>
      have hst : l 22 = false := by
              cases h : l 22 with
              | false => rfl
              | true =>
                have c := cst h
                simp [Region.binds] at c
                simp [c] at hl
      have hR2 := hR hst
      have E2 : Ext w1 w' := hR2.1
      clear cst cbu c3 c7 c13 hR hF
      simp [Region.binds] at hw
      refine wpOp_step rfl (fun K2 hK => ?_)
      have cf := Blk.c (PB.ex E2) 0 (v := .slice a1 128 k1) rfl
      rw [if_pos (by rfl)]
      unfold OrL
      go_simp
      exact hK _ _ ⟨b0, b1, b2, r0, r1, r2, q0, q1, q2, (by unfold OrL; simp [hw]), fun _ => hR2, fun h => absurd h (by show ¬ l 22 = true; rw [hst]; decide)⟩
    | 3, _ =>
      have hst : l 22 = false := by
              cases h : l 22 with
              | false => rfl
              | true =>
                have c := cst h
                simp [Region.binds] at c
                simp [c] at hl
      have hR2 := hR hst
      have E2 : Ext w1 w' := hR2.1
      have hbu : l 21 = false := by
              cases h : l 21 with
              | false => rfl
              | true =>
                have c := cbu h
                simp [Region.binds] at c
                simp [c] at hl
      clear cst cbu c3 c7 c13 hR hF
      simp [Region.binds] at hw
      refine wpOp_step rfl (fun K2 hK => ?_)
      obtain ⟨g0, g1⟩ := hw
      have hM : Emp w1 w' b0 := hR2.2.1 g0 hl
      refine step_app (w0 := w1) rfl (.tmp 32) (.tmp 34) 22 rfl 3 i0 (.int .i64 0) 1 8 Try.underlying22 hi0 ha0 ha1 ha2 rfl (by decide) (.slice (some ⟨b0, 0, none⟩) 0 0) 0 w1.heap.size [] ?e1 hM.own E2 (Nat.le_refl _) E2.size a1 128 k1 (iv s.store) ?e2 ?e3 ?e4 (iv_one _) ?e5 ?e6 ?_
      case e1 => simp [OrL, Act.eval, g0]
      case e2 => simp [OrL, Act.eval, g1]
      case e3 => rw [iv_length, Nat.mul_one]; exact Hl.out.1
      case e4 => exact from_ints (j1.ext E2)
      case e5 => unfold maxLen; omega
      case e6 => omega
      intro a' c' w2 hown hE hg
      rw [List.nil_append] at hown
      have hIa := IntsN.own hown
      refine hK _ _ ⟨b0, b1, b2, a', r1, r2, c', q1, q2, ?_, fun _ => hR2.out0 g0 hl hIa hE hg, fun h => absurd h (by show ¬ l 22 = true; rw [hst]; decide)⟩
      unfold OrL
      simp [Act.put, hl, hbu]
    | 4, _ =>
      have hst : l 22 = false := by
              cases h : l 22 with
              | false => rfl
              | true =>
                have c := cst h
                simp [Region.binds] at c
                simp [c] at hl
      have hR2 := hR hst
      have E2 : Ext w1 w' := hR2.1
      have hd : l 7 = false := by
              cases h : l 7 with
              | false => rfl
              | true =>
                have c := c7 h
                simp [Region.binds] at c
                simp [c] at hl
      clear cst cbu c3 c7 c13 hR hF
      clear hw
      refine wpOp_step rfl (fun K2 hK => ?_)
      rw [if_pos (by rfl)]
      unfold OrL
      go_simp
      exact hK _ _ ⟨b0, w'.heap.size, b2, r0, r1, r2, q0, q1, q2, (by unfold OrL; simp [hl, hd]), fun _ => hR2.new1 hd, fun h => absurd h (by show ¬ l 22 = true; rw [hst]; decide)⟩
    | 5, _ =>
      have hst : l 22 = false := by
              cases h : l 22 with
              | false => rfl
              | true =>
                have c := cst h
                simp [Region.binds] at c
                simp [c] at hl
      have hR2 := hR hst
      have E2 : Ext w1 w' := hR2.1
      clear cst cbu c3 c7 c13 hR hF
      clear hw
      refine wpOp_step rfl (fun K2 hK => ?_)
      rw [if_pos (by rfl)]
      unfold OrL
      go_simp
      exact hK _ _ ⟨b0, b1, b2, r0, r1, r2, q0, q1, q2, (by unfold OrL; simp []), fun _ => hR2, fun h => absurd h (by show ¬ l 22 = true; rw [hst]; decide)⟩
    | 6, _ =>
      have hst : l 22 = false := by
              cases h : l 22 with
              | false => rfl
              | true =>
                have c := cst h
                simp [Region.binds] at c
                simp [c] at hl
      have hR2 := hR hst
      have E2 : Ext w1 w' := hR2.1
      clear cst cbu c3 c7 c13 hR hF
      simp [Region.binds] at hw
      refine wpOp_step rfl (fun K2 hK => ?_)
      have cf := Blk.c (PB.ex E2) 1 (v := .slice a2 n2 k2) rfl
      rw [if_pos (by rfl)]
      unfold OrL
      go_simp
      exact hK _ _ ⟨b0, b1, b2, r0, r1, r2, q0, q1, q2, (by unfold OrL; simp [hw]), fun _ => hR2, fun h => absurd h (by show ¬ l 22 = true; rw [hst]; decide)⟩
    | 7, _ =>
      have hst : l 22 = false := by
              cases h : l 22 with
              | false => rfl
              | true =>
                have c := cst h
                simp [Region.binds] at c
                simp [c] at hl
      have hR2 := hR hst
      have E2 : Ext w1 w' := hR2.1
      have hbu : l 21 = false := by
              cases h : l 21 with
              | false => rfl
              | true =>
                have c := cbu h
                simp [Region.binds] at c
                simp [c] at hl
      clear cst cbu c3 c7 c13 hR hF
      simp [Region.binds] at hw
      refine wpOp_step rfl (fun K2 hK => ?_)
      obtain ⟨g0, g1, g2⟩ := hw
      have hM : Emp w1 w' b1 := hR2.2.2.1 g0 hl
      refine step_app (w0 := w1) rfl (.tmp 36) (.tmp 38) 22 rfl 3 i0 (.int .i64 0) 1 8 Try.underlying22 hi0 ha0 ha1 ha2 rfl (by decide) (.slice (some ⟨b1, 0, none⟩) 0 0) 0 w1.heap.size [] ?e1 hM.own E2 (Nat.le_refl _) E2.size a2 n2 k2 (iv s.tape) ?e2 ?e3 ?e4 (iv_one _) ?e5 ?e6 ?_
      case e1 => simp [OrL, Act.eval, g0]
      case e2 => simp [OrL, Act.eval, g1]
      case e3 => rw [iv_length, Nat.mul_one]; exact Hl.out.2.1
      case e4 => exact from_ints (j2.ext E2)
      case e5 => unfold maxLen; omega
      case e6 => omega
      intro a' c' w2 hown hE hg
      rw [List.nil_append] at hown
      have hIa := IntsN.own hown
      refine hK _ _ ⟨b0, b1, b2, r0, a', r2, q0, c', q2, ?_, fun _ => hR2.out1 g0 hl hIa hE hg, fun h => absurd h (by show ¬ l 22 = true; rw [hst]; decide)⟩
      unfold OrL
      simp [Act.put, hl, hbu]
    | 8, _ =>
      have hst : l 22 = false := by
              cases h : l 22 with
              | false => rfl
              | true =>
                have c := cst h
                simp [Region.binds] at c
                simp [c] at hl
      have hR2 := hR hst
      have E2 : Ext w1 w' := hR2.1
      clear cst cbu c3 c7 c13 hR hF
      clear hw
      refine wpOp_step rfl (fun K2 hK => ?_)
      rw [if_pos (by rfl)]
      unfold OrL
      go_simp
      exact hK _ _ ⟨b0, b1, b2, r0, r1, r2, q0, q1, q2, (by unfold OrL; simp []), fun _ => hR2, fun h => absurd h (by show ¬ l 22 = true; rw [hst]; decide)⟩
    | 9, _ =>
      have hst : l 22 = false := by
              cases h : l 22 with
              | false => rfl
              | true =>
                have c := cst h
                simp [Region.binds] at c
                simp [c] at hl
      have hR2 := hR hst
      have E2 : Ext w1 w' := hR2.1
      clear cst cbu c3 c7 c13 hR hF
      simp [Region.binds] at hw
      refine wpOp_step rfl (fun K2 hK => ?_)
      have cf := Blk.c (PB.ex E2) 2 (v := .int .i64 s.taken) rfl
      rw [if_pos (by rfl)]
      unfold OrL
      go_simp
      exact hK _ _ ⟨b0, b1, b2, r0, r1, r2, q0, q1, q2, (by unfold OrL; simp [hw]), fun _ => hR2, fun h => absurd h (by show ¬ l 22 = true; rw [hst]; decide)⟩
    | 10, _ =>
      have hst : l 22 = false := by
              cases h : l 22 with
              | false => rfl
              | true =>
                have c := cst h
                simp [Region.binds] at c
                simp [c] at hl
      have hR2 := hR hst
      have E2 : Ext w1 w' := hR2.1
      have hd : l 13 = false := by
              cases h : l 13 with
              | false => rfl
              | true =>
                have c := c13 h
                simp [Region.binds] at c
                simp [c] at hl
      clear cst cbu c3 c7 c13 hR hF
      clear hw
      refine wpOp_step rfl (fun K2 hK => ?_)
      rw [if_pos (by rfl)]
      unfold OrL
      go_simp
      exact hK _ _ ⟨b0, b1, w'.heap.size, r0, r1, r2, q0, q1, q2, (by unfold OrL; simp [hl, hd]), fun _ => hR2.new2 hd, fun h => absurd h (by show ¬ l 22 = true; rw [hst]; decide)⟩
    | 11, _ =>
      have hst : l 22 = false := by
              cases h : l 22 with
              | false => rfl
              | true =>
                have c := cst h
                simp [Region.binds] at c
                simp [c] at hl
      have hR2 := hR hst
      have E2 : Ext w1 w' := hR2.1
      clear cst cbu c3 c7 c13 hR hF
      clear hw
      refine wpOp_step rfl (fun K2 hK => ?_)
      rw [if_pos (by rfl)]
      unfold OrL
      go_simp
      exact hK _ _ ⟨b0, b1, b2, r0, r1, r2, q0, q1, q2, (by unfold OrL; simp []), fun _ => hR2, fun h => absurd h (by show ¬ l 22 = true; rw [hst]; decide)⟩
    | 12, _ =>
      have hst : l 22 = false := by
              cases h : l 22 with
              | false => rfl
              | true =>
                have c := cst h
                simp [Region.binds] at c
                simp [c] at hl
      have hR2 := hR hst
      have E2 : Ext w1 w' := hR2.1
      clear cst cbu c3 c7 c13 hR hF
      simp [Region.binds] at hw
      refine wpOp_step rfl (fun K2 hK => ?_)
      have cf := Blk.c (PB.ex E2) 3 (v := .slice a3 n3 k3) rfl
      rw [if_pos (by rfl)]
      unfold OrL
      go_simp
      exact hK _ _ ⟨b0, b1, b2, r0, r1, r2, q0, q1, q2, (by unfold OrL; simp [hw]), fun _ => hR2, fun h => absurd h (by show ¬ l 22 = true; rw [hst]; decide)⟩
    | 13, _ =>
      have hst : l 22 = false := by
              cases h : l 22 with
              | false => rfl
              | true =>
                have c := cst h
                simp [Region.binds] at c
                simp [c] at hl
      have hR2 := hR hst
      have E2 : Ext w1 w' := hR2.1
      have hbu : l 21 = false := by
              cases h : l 21 with
              | false => rfl
              | true =>
                have c := cbu h
                simp [Region.binds] at c
                simp [c] at hl
      clear cst cbu c3 c7 c13 hR hF
      simp [Region.binds] at hw
      refine wpOp_step rfl (fun K2 hK => ?_)
      obtain ⟨g0, g1, g2⟩ := hw
      have hM : Emp w1 w' b2 := hR2.2.2.2.1 g0 hl
      refine step_app (w0 := w1) rfl (.tmp 42) (.tmp 44) 22 rfl 3 i0 (.int .i64 0) 1 8 Try.underlying22 hi0 ha0 ha1 ha2 rfl (by decide) (.slice (some ⟨b2, 0, none⟩) 0 0) 0 w1.heap.size [] ?e1 hM.own E2 (Nat.le_refl _) E2.size a3 n3 k3 (iv s.printed) ?e2 ?e3 ?e4 (iv_one _) ?e5 ?e6 ?_
      case e1 => simp [OrL, Act.eval, g0]
      case e2 => simp [OrL, Act.eval, g1]
      case e3 => rw [iv_length, Nat.mul_one]; exact Hl.out.2.2
      case e4 => exact from_ints (j3.ext E2)
      case e5 => unfold maxLen; omega
      case e6 => omega
      intro a' c' w2 hown hE hg
      rw [List.nil_append] at hown
      have hIa := IntsN.own hown
      refine hK _ _ ⟨b0, b1, b2, r0, r1, a', q0, q1, c', ?_, fun _ => hR2.out2 g0 hl hIa hE hg, fun h => absurd h (by show ¬ l 22 = true; rw [hst]; decide)⟩
      unfold OrL
      simp [Act.put, hl, hbu]
    | 14, _ =>
      have hst : l 22 = false := by
              cases h : l 22 with
              | false => rfl
              | true =>
                have c := cst h
                simp [Region.binds] at c
                simp [c] at hl
      have hR2 := hR hst
      have E2 : Ext w1 w' := hR2.1
      clear cst cbu c3 c7 c13 hR hF
      clear hw
      refine wpOp_step rfl (fun K2 hK => ?_)
      rw [if_pos (by rfl)]
      unfold OrL
      go_simp
      exact hK _ _ ⟨b0, b1, b2, r0, r1, r2, q0, q1, q2, (by unfold OrL; simp []), fun _ => hR2, fun h => absurd h (by show ¬ l 22 = true; rw [hst]; decide)⟩
    | 15, _ =>
      have hst : l 22 = false := by
              cases h : l 22 with
              | false => rfl
              | true =>
                have c := cst h
                simp [Region.binds] at c
                simp [c] at hl
      have hR2 := hR hst
      have E2 : Ext w1 w' := hR2.1
      clear cst cbu c3 c7 c13 hR hF
      clear hw
      refine wpOp_step rfl (fun K2 hK => ?_)
      rw [if_pos (by rfl)]
      unfold OrL
      go_simp
      exact hK _ _ ⟨b0, b1, b2, r0, r1, r2, q0, q1, q2, (by unfold OrL; simp []), fun _ => hR2, fun h => absurd h (by show ¬ l 22 = true; rw [hst]; decide)⟩
    | 16, _ =>
      have hst : l 22 = false := by
              cases h : l 22 with
              | false => rfl
              | true =>
                have c := cst h
                simp [Region.binds] at c
                simp [c] at hl
      have hR2 := hR hst
      have E2 : Ext w1 w' := hR2.1
      clear cst cbu c3 c7 c13 hR hF
      simp [Region.binds] at hw
      refine wpOp_step rfl (fun K2 hK => ?_)
      have cf := Blk.c (PB.ex E2) 5 (v := .int .i64 s.at_) rfl
      rw [if_pos (by rfl)]
      unfold OrL
      go_simp
      exact hK _ _ ⟨b0, b1, b2, r0, r1, r2, q0, q1, q2, (by unfold OrL; simp [hw]), fun _ => hR2, fun h => absurd h (by show ¬ l 22 = true; rw [hst]; decide)⟩
    | 17, _ =>
      have hst : l 22 = false := by
              cases h : l 22 with
              | false => rfl
              | true =>
                have c := cst h
                simp [Region.binds] at c
                simp [c] at hl
      have hR2 := hR hst
      have E2 : Ext w1 w' := hR2.1
      clear cst cbu c3 c7 c13 hR hF
      clear hw
      refine wpOp_step rfl (fun K2 hK => ?_)
      rw [if_pos (by rfl)]
      unfold OrL
      go_simp
      exact hK _ _ ⟨b0, b1, b2, r0, r1, r2, q0, q1, q2, (by unfold OrL; simp []), fun _ => hR2, fun h => absurd h (by show ¬ l 22 = true; rw [hst]; decide)⟩
    | 18, _ =>
      have hst : l 22 = false := by
              cases h : l 22 with
              | false => rfl
              | true =>
                have c := cst h
                simp [Region.binds] at c
                simp [c] at hl
      have hR2 := hR hst
      have E2 : Ext w1 w' := hR2.1
      clear cst cbu c3 c7 c13 hR hF
      simp [Region.binds] at hw
      refine wpOp_step rfl (fun K2 hK => ?_)
      have cf := Blk.c (PB.ex E2) 12 (v := .int .i64 s.done) rfl
      rw [if_pos (by rfl)]
      unfold OrL
      go_simp
      exact hK _ _ ⟨b0, b1, b2, r0, r1, r2, q0, q1, q2, (by unfold OrL; simp [hw]), fun _ => hR2, fun h => absurd h (by show ¬ l 22 = true; rw [hst]; decide)⟩
    | 19, _ =>
      have hst : l 22 = false := by
              cases h : l 22 with
              | false => rfl
              | true =>
                have c := cst h
                simp [Region.binds] at c
                simp [c] at hl
      have hR2 := hR hst
      have E2 : Ext w1 w' := hR2.1
      clear cst cbu c3 c7 c13 hR hF
      clear hw
      refine wpOp_step rfl (fun K2 hK => ?_)
      rw [if_pos (by rfl)]
      unfold OrL
      go_simp
      exact hK _ _ ⟨b0, b1, b2, r0, r1, r2, q0, q1, q2, (by unfold OrL; simp []), fun _ => hR2, fun h => absurd h (by show ¬ l 22 = true; rw [hst]; decide)⟩
    | 20, _ =>
      have hst : l 22 = false := by
              cases h : l 22 with
              | false => rfl
              | true =>
                have c := cst h
                simp [Region.binds] at c
                simp [c] at hl
      have hR2 := hR hst
      have E2 : Ext w1 w' := hR2.1
      clear cst cbu c3 c7 c13 hR hF
      simp [Region.binds] at hw
      refine wpOp_step rfl (fun K2 hK => ?_)
      have cf := Blk.c (PB.ex E2) 13 (v := .int .i64 s.why) rfl
      rw [if_pos (by rfl)]
      unfold OrL
      go_simp
      exact hK _ _ ⟨b0, b1, b2, r0, r1, r2, q0, q1, q2, (by unfold OrL; simp [hw]), fun _ => hR2, fun h => absurd h (by show ¬ l 22 = true; rw [hst]; decide)⟩
    | 21, _ =>
      have hst : l 22 = false := by
              cases h : l 22 with
              | false => rfl
              | true =>
                have c := cst h
                simp [Region.binds] at c
                simp [c] at hl
      have hR2 := hR hst
      have E2 : Ext w1 w' := hR2.1
      clear cst cbu c3 c7 c13 hR hF
      simp [Region.binds] at hw
      refine wpOp_step rfl (fun K2 hK => ?_)
      obtain ⟨g0, g1, g2, g3, g4, g5, g6, g7⟩ := hw
      rw [if_pos (by rfl)]
      unfold OrL
      go_simp
      exact hK _ _ ⟨b0, b1, b2, r0, r1, r2, q0, q1, q2, (by unfold OrL; simp [g0, g1, g2, g3, g4, g5, g6, g7]), fun _ => hR2, fun h => absurd h (by show ¬ l 22 = true; rw [hst]; decide)⟩
    | 22, _ =>
      clear cst cbu c3 c7 c13
      simp [Region.binds] at hw
      refine wpOp_step rfl (fun K2 hK => ?_)
      have hR2 := hR hl
      clear hR hF
      have hk : l 21 = true ∧ l 0 = true ∧ l 3 = true ∧ l 4 = true ∧ l 7 = true ∧ l 10 = true ∧ l 13 = true := by simp [hw]
      obtain ⟨gbu, g0, g3, g4, g7, g10, g13⟩ := hk
      rw [g0, g3, g4, g7, g10, g13] at hR2
      clear hw
      have E2 : Ext w1 w' := hR2.1
      have RR := RB.ex E2
      have z0 := Blk.c RR 0 (v := .slice none 0 0) rfl
      have z1 := Blk.c RR 1 (v := .slice none 0 0) rfl
      have z2 := Blk.c RR 2 (v := .int .i64 0) rfl
      have z3 := Blk.c RR 3 (v := .slice none 0 0) rfl
      have z4 := Blk.c RR 4 (v := .int .i64 0) rfl
      have z5 := Blk.c RR 5 (v := .int .i64 0) rfl
      have z6 := Blk.c RR 6 (v := .int .i64 0) rfl
      have z7 := Blk.c RR 7 (v := .int .i64 0) rfl
      have f0 := Blk.f RR 0
      have f1 := Blk.f RR 1
      have f2 := Blk.f RR 2
      have f3 := Blk.f RR 3
      have f4 := Blk.f RR 4
      have f5 := Blk.f RR 5
      have f6 := Blk.f RR 6
      have f7 := Blk.f RR 7
      rw [if_pos (by rfl)]
      unfold OrL
      go_simp
      exact hK _ _ ⟨b0, b1, b2, r0, r1, r2, q0, q1, q2, (by unfold OrL; simp [gbu, g0, g3, g4, g7, g10, g13]), fun h => absurd h (by simp), fun _ => ⟨w', hR2, rfl⟩⟩
    | 23, _ =>
      clear cst cbu c3 c7 c13
      simp [Region.binds] at hw
      refine wpOp_step rfl (fun K2 hK => ?_)
      have hst : l 22 = true := by simp [hw]
      obtain ⟨wf, hR2, rfl⟩ := hF hst
      clear hw hR hF
      rw [if_pos (by rfl)]
      unfold OrL
      go_simp
      exact hK _ _ ⟨b0, b1, b2, r0, r1, r2, q0, q1, q2, (by unfold OrL; simp), fun h => absurd h (by simp [hst]), fun _ => ⟨wf, hR2, rfl⟩⟩
  case done =>
    intro l a w' hI hall
    obtain ⟨b0, b1, b2, r0, r1, r2, q0, q1, q2, rfl, _, hF⟩ := hI
    obtain ⟨wf, hR, rfl⟩ := hF (hall 22 (by show 22 < 24; decide))
    have hL : ∀ i, i < 24 → l i = true := hall
    obtain ⟨E2, _, _, _, _, _, _, _, _, _, I1, I2, I3⟩ := hR
    have I1 := I1 rfl
    have I2 := I2 rfl
    have I3 := I3 rfl
    have HI := Lib.hid (And.intro I1 (And.intro I2 I3))
    have RR := RB.ex E2
    have hsz := RB.lt
    clear hF hall I1 I2 I3 j1 j2 j3
    have z0 := Blk.c RR 0 (v := .slice none 0 0) rfl
    have z1 := Blk.c RR 1 (v := .slice none 0 0) rfl
    have z2 := Blk.c RR 2 (v := .int .i64 0) rfl
    have z3 := Blk.c RR 3 (v := .slice none 0 0) rfl
    have z4 := Blk.c RR 4 (v := .int .i64 0) rfl
    have z5 := Blk.c RR 5 (v := .int .i64 0) rfl
    have z6 := Blk.c RR 6 (v := .int .i64 0) rfl
    have z7 := Blk.c RR 7 (v := .int .i64 0) rfl
    have f0 := Blk.f RR 0
    have f1 := Blk.f RR 1
    have f2 := Blk.f RR 2
    have f3 := Blk.f RR 3
    have f4 := Blk.f RR 4
    have f5 := Blk.f RR 5
    have f6 := Blk.f RR 6
    have f7 := Blk.f RR 7
    have hz0 := RR.lt
    unfold OrL
    simp only [hL 0 (by decide), hL 1 (by decide), hL 2 (by decide), hL 3 (by decide), hL 4 (by decide), hL 5 (by decide), hL 6 (by decide), hL 7 (by decide), hL 8 (by decide), hL 9 (by decide), hL 10 (by decide), hL 11 (by decide), hL 12 (by decide), hL 13 (by decide), hL 14 (by decide), hL 15 (by decide), hL 16 (by decide), hL 17 (by decide), hL 18 (by decide), hL 19 (by decide), hL 20 (by decide), hL 21 (by decide), cond_true]
    clear hL
    go_wp2_with fail
    refine bodyPost_ret (v := .tuple #[.agg #[.slice r0 128 q0, .slice r1 n2 q1, .int .i64 s.taken, .slice r2 n3 q2, .int .i64 tm, .int .i64 s.at_, .int .i64 s.done, .int .i64 s.why], .int .i64 0]) (by simp [results, Try.results50, go_sem, hz0, z0, z1, z2, z3, z4, z5, z6, z7]) rfl ?_
    obtain ⟨l1, l2, l3⟩ := Hl.out
    obtain ⟨I1, I2, I3⟩ := HI.out
    refine ⟨_, rfl, ⟨r0, r1, r2, q0, q1, q2, ?_, ?_, ?_, ?_⟩, ?_⟩
    · show _ = sv r0 r1 r2 s.store.length q0 s.tape.length q1 s.printed.length q2 s.taken (timeP s) s.at_ s.done s.why
      rw [l1, l2, l3, HTM.out]
    · exact (by repeat (first | with_reducible exact I1 | with_reducible refine IntsN.put ?_ hsz _) : IntsN w1 _ r0 s.store).1
    · exact (by repeat (first | with_reducible exact I2 | with_reducible refine IntsN.put ?_ hsz _) : IntsN w1 _ r1 s.tape).1
    · exact (by repeat (first | with_reducible exact I3 | with_reducible refine IntsN.put ?_ hsz _) : IntsN w1 _ r2 s.printed).1
    · have F2 := F1.comp E2
      exact (by repeat (first | with_reducible exact Ext.refl _ | with_reducible exact F2 | with_reducible exact F2.old | with_reducible exact F2.old.old | with_reducible exact F2.old.old.old | (with_reducible refine Ext.alloc ?_ _) | (with_reducible refine Below.drew ?_) | (with_reducible refine below_drewN ?_ _) | (with_reducible refine ext_put ?_ _ ?_; rotate_left; (first | with_reducible exact Nat.le_refl _ | with_reducible exact Nat.le_succ _ | omega | (dsimp only; omega)))))
end Go.Proofs.Ytjfggepgjpdebaa
/- Contract: the reference of layer 5: Order, whatever the state. -/
namespace Go.Proofs.Ytjfggepgjpdebaa
open Go.RowKit Go.Q
set_option maxRecDepth 100000 in
set_option maxHeartbeats 8000000 in
theorem rorder_bad (v : Value) (s : Pu) (w : World) (h : PuAt w v s) (hb : PuBd s) (he : (orderE s).2 ≠ 0) :
    Calls Try.prog 50 #[v] w (StRes (orderE s) w) := by
  have hc := fun W (E : Ext w W) => rcheck5_any v s W (h.ext E) hb
  obtain ⟨a1, a2, a3, c1, c2, c3, rfl, _, _, _⟩ := h
  have e : orderE s = if (checkP s).2.2 ≠ 0 then (zst, (checkP s).2.2) else if s.phase ≠ 0 ∨ 1000000000 < timeP s then (zst, 9) else (orderQ s, 0) := rfl
  by_cases hz : (checkP s).2.2 = 0
  · have hv := valid_check hz
    rw [checkP_zero hz] at hc
    unfold v3 at hc
    rw [if_neg (by omega)] at e
    by_cases hy : s.phase ≠ 0 ∨ 1000000000 < timeP s
    · rw [if_pos hy] at e
      rw [e]
      obtain ⟨cl0, cl1⟩ := hv.clock
      obtain ⟨at0, at1⟩ := hv.at_
      have haf := fun W => rafter5_any (s.clock - 1) s.at_ W (by omega) (by omega) (by omega) (by omega)
      rw [after_time] at haf
      by_cases hp : s.phase = 0
      · have bp : (s.phase != 0) = false := by simpa using hp
        have bt : decide (1000000000 < timeP s) = true := by
          have : 1000000000 < timeP s := hy.resolve_left (fun c => c hp)
          simpa using this
        clear e he hy hb hv hz hp
        generalize timeP s = tm at *
        go_enter Try.func50, Try.ntmps50
        go_wp2_with fail
        refine (hc _ (by repeat (first | with_reducible exact Ext.refl _ | with_reducible refine Ext.alloc ?_ _ | with_reducible refine Below.drew ?_))).mono ?_
        rintro e w1 ⟨rfl, E1⟩
        have PB := Blk.of E1.old
        have RB := Blk.of E1
        rw [World.size_alloc] at RB
        have u0 := Blk.c PB 0 (v := .slice a1 s.store.length c1) rfl
        have u1 := Blk.c PB 1 (v := .slice a2 s.tape.length c2) rfl
        have u2 := Blk.c PB 2 (v := .int .i64 s.taken) rfl
        have u3 := Blk.c PB 3 (v := .slice a3 s.printed.length c3) rfl
        have u4 := Blk.c PB 4 (v := .int .i64 s.clock) rfl
        have u5 := Blk.c PB 5 (v := .int .i64 s.at_) rfl
        have u6 := Blk.c PB 6 (v := .int .i64 s.phase) rfl
        have q0 := Blk.c RB 0 (v := .slice none 0 0) rfl
        have q1 := Blk.c RB 1 (v := .slice none 0 0) rfl
        have q2 := Blk.c RB 2 (v := .int .i64 0) rfl
        have q3 := Blk.c RB 3 (v := .slice none 0 0) rfl
        have q4 := Blk.c RB 4 (v := .int .i64 0) rfl
        have q5 := Blk.c RB 5 (v := .int .i64 0) rfl
        have q6 := Blk.c RB 6 (v := .int .i64 0) rfl
        have q7 := Blk.c RB 7 (v := .int .i64 0) rfl
        have f0 := Blk.f RB 0
        have f1 := Blk.f RB 1
        have f2 := Blk.f RB 2
        have f3 := Blk.f RB 3
        have f4 := Blk.f RB 4
        have f5 := Blk.f RB 5
        have f6 := Blk.f RB 6
        have f7 := Blk.f RB 7
        have hz0 := RB.lt
        have hz1 := PB.lt
        go_wp2_with fail
        refine (haf _).mono ?_
        rintro e wx ⟨rfl, rfl⟩
        go_wp2_with fail
        refine bodyPost_ret (v := .tuple #[.agg #[.slice none 0 0, .slice none 0 0, .int .i64 0, .slice none 0 0, .int .i64 0, .int .i64 0, .int .i64 0, .int .i64 0], .int .i64 9]) (by simp [results, Try.results50, go_sem, hz0, q0, q1, q2, q3, q4, q5, q6, q7]) rfl ?_
        exact ⟨_, rfl, ⟨none, none, none, 0, 0, 0, rfl, .inl rfl, .inl rfl, .inl rfl⟩, (by repeat (first | with_reducible exact Ext.refl _ | with_reducible exact E1 | with_reducible exact E1.old | with_reducible exact E1.old.old | with_reducible exact E1.old.old.old | (with_reducible refine Ext.alloc ?_ _) | (with_reducible refine Below.drew ?_) | (with_reducible refine below_drewN ?_ _) | (with_reducible refine ext_put ?_ _ ?_; rotate_left; (first | with_reducible exact Nat.le_refl _ | with_reducible exact Nat.le_succ _ | omega | (dsimp only; omega)))))⟩
      · have bp : (s.phase != 0) = true := by simpa using hp
        clear e he hy hb hv hz hp
        generalize timeP s = tm at *
        go_enter Try.func50, Try.ntmps50
        go_wp2_with fail
        refine (hc _ (by repeat (first | with_reducible exact Ext.refl _ | with_reducible refine Ext.alloc ?_ _ | with_reducible refine Below.drew ?_))).mono ?_
        rintro e w1 ⟨rfl, E1⟩
        have PB := Blk.of E1.old
        have RB := Blk.of E1
        rw [World.size_alloc] at RB
        have u0 := Blk.c PB 0 (v := .slice a1 s.store.length c1) rfl
        have u1 := Blk.c PB 1 (v := .slice a2 s.tape.length c2) rfl
        have u2 := Blk.c PB 2 (v := .int .i64 s.taken) rfl
        have u3 := Blk.c PB 3 (v := .slice a3 s.printed.length c3) rfl
        have u4 := Blk.c PB 4 (v := .int .i64 s.clock) rfl
        have u5 := Blk.c PB 5 (v := .int .i64 s.at_) rfl
        have u6 := Blk.c PB 6 (v := .int .i64 s.phase) rfl
        have q0 := Blk.c RB 0 (v := .slice none 0 0) rfl
        have q1 := Blk.c RB 1 (v := .slice none 0 0) rfl
        have q2 := Blk.c RB 2 (v := .int .i64 0) rfl
        have q3 := Blk.c RB 3 (v := .slice none 0 0) rfl
        have q4 := Blk.c RB 4 (v := .int .i64 0) rfl
        have q5 := Blk.c RB 5 (v := .int .i64 0) rfl
        have q6 := Blk.c RB 6 (v := .int .i64 0) rfl
        have q7 := Blk.c RB 7 (v := .int .i64 0) rfl
        have f0 := Blk.f RB 0
        have f1 := Blk.f RB 1
        have f2 := Blk.f RB 2
        have f3 := Blk.f RB 3
        have f4 := Blk.f RB 4
        have f5 := Blk.f RB 5
        have f6 := Blk.f RB 6
        have f7 := Blk.f RB 7
        have hz0 := RB.lt
        have hz1 := PB.lt
        go_wp2_with fail
        refine (haf _).mono ?_
        rintro e wx ⟨rfl, rfl⟩
        go_wp2_with fail
        refine bodyPost_ret (v := .tuple #[.agg #[.slice none 0 0, .slice none 0 0, .int .i64 0, .slice none 0 0, .int .i64 0, .int .i64 0, .int .i64 0, .int .i64 0], .int .i64 9]) (by simp [results, Try.results50, go_sem, hz0, q0, q1, q2, q3, q4, q5, q6, q7]) rfl ?_
        exact ⟨_, rfl, ⟨none, none, none, 0, 0, 0, rfl, .inl rfl, .inl rfl, .inl rfl⟩, (by repeat (first | with_reducible exact Ext.refl _ | with_reducible exact E1 | with_reducible exact E1.old | with_reducible exact E1.old.old | with_reducible exact E1.old.old.old | (with_reducible refine Ext.alloc ?_ _) | (with_reducible refine Below.drew ?_) | (with_reducible refine below_drewN ?_ _) | (with_reducible refine ext_put ?_ _ ?_; rotate_left; (first | with_reducible exact Nat.le_refl _ | with_reducible exact Nat.le_succ _ | omega | (dsimp only; omega)))))⟩
    · rw [if_neg hy] at e; rw [e] at he; exact absurd rfl he
  · rw [if_pos hz] at e
    rw [e]
    generalize checkP s = p at *
    obtain ⟨p, i, er⟩ := p
    unfold v3 at hc
    dsimp only at hz hc ⊢
    have hz' : (er != 0) = true := by simpa using hz
    clear e he hz hb
    go_enter Try.func50, Try.ntmps50
    go_wp2_with fail
    refine (hc _ (by repeat (first | with_reducible exact Ext.refl _ | with_reducible refine Ext.alloc ?_ _ | with_reducible refine Below.drew ?_))).mono ?_
    rintro e w1 ⟨rfl, E1⟩
    have PB := Blk.of E1.old
    have RB := Blk.of E1
    rw [World.size_alloc] at RB
    have u0 := Blk.c PB 0 (v := .slice a1 s.store.length c1) rfl
    have u1 := Blk.c PB 1 (v := .slice a2 s.tape.length c2) rfl
    have u2 := Blk.c PB 2 (v := .int .i64 s.taken) rfl
    have u3 := Blk.c PB 3 (v := .slice a3 s.printed.length c3) rfl
    have u4 := Blk.c PB 4 (v := .int .i64 s.clock) rfl
    have u5 := Blk.c PB 5 (v := .int .i64 s.at_) rfl
    have u6 := Blk.c PB 6 (v := .int .i64 s.phase) rfl
    have q0 := Blk.c RB 0 (v := .slice none 0 0) rfl
    have q1 := Blk.c RB 1 (v := .slice none 0 0) rfl
    have q2 := Blk.c RB 2 (v := .int .i64 0) rfl
    have q3 := Blk.c RB 3 (v := .slice none 0 0) rfl
    have q4 := Blk.c RB 4 (v := .int .i64 0) rfl
    have q5 := Blk.c RB 5 (v := .int .i64 0) rfl
    have q6 := Blk.c RB 6 (v := .int .i64 0) rfl
    have q7 := Blk.c RB 7 (v := .int .i64 0) rfl
    have f0 := Blk.f RB 0
    have f1 := Blk.f RB 1
    have f2 := Blk.f RB 2
    have f3 := Blk.f RB 3
    have f4 := Blk.f RB 4
    have f5 := Blk.f RB 5
    have f6 := Blk.f RB 6
    have f7 := Blk.f RB 7
    have hz0 := RB.lt
    have hz1 := PB.lt
    go_wp2_with fail
    refine bodyPost_ret (v := .tuple #[.agg #[.slice none 0 0, .slice none 0 0, .int .i64 0, .slice none 0 0, .int .i64 0, .int .i64 0, .int .i64 0, .int .i64 0], .int .i64 er]) (by simp [results, Try.results50, go_sem, hz0, q0, q1, q2, q3, q4, q5, q6, q7]) rfl ?_
    exact ⟨_, rfl, ⟨none, none, none, 0, 0, 0, rfl, .inl rfl, .inl rfl, .inl rfl⟩, (by repeat (first | with_reducible exact Ext.refl _ | with_reducible exact E1 | with_reducible exact E1.old | with_reducible exact E1.old.old | with_reducible exact E1.old.old.old | (with_reducible refine Ext.alloc ?_ _) | (with_reducible refine Below.drew ?_) | (with_reducible refine below_drewN ?_ _) | (with_reducible refine ext_put ?_ _ ?_; rotate_left; (first | with_reducible exact Nat.le_refl _ | with_reducible exact Nat.le_succ _ | omega | (dsimp only; omega)))))⟩
theorem rorder_any (v : Value) (s : Pu) (w : World) (h : PuAt w v s) (hb : PuBd s) : Calls Try.prog 50 #[v] w (StRes (orderE s) w) := by
  by_cases he : (orderE s).2 = 0
  · have e : orderE s = if (checkP s).2.2 ≠ 0 then (zst, (checkP s).2.2) else if s.phase ≠ 0 ∨ 1000000000 < timeP s then (zst, 9) else (orderQ s, 0) := rfl
    by_cases hz : (checkP s).2.2 = 0
    · have V := valid_check hz
      rw [if_neg (by omega)] at e
      by_cases hy : s.phase ≠ 0 ∨ 1000000000 < timeP s
      · rw [if_pos hy] at e; rw [e] at he; exact absurd he (by decide)
      · rw [if_neg hy] at e
        rw [e]
        obtain ⟨a1, a2, a3, c1, c2, c3, rfl, i1, i2, i3⟩ := h
        have hg := rorder_good a1 a2 a3 s.tape.length s.printed.length c1 c2 c3 s w V.len rfl rfl V (checkP_zero hz) (by omega) (by omega) i1 i2 i3
        rw [V.len]
        exact hg
    · rw [if_pos hz] at e; rw [e] at he; exact absurd he hz
  · exact rorder_bad v s w h hb he
end Go.Proofs.Ytjfggepgjpdebaa

/- Contract: PulseOne returns true. -/
import Derived.Test.YtjfggepgjpdebaaML0
import Derived.Test.YtjfggepgjpdebaaMX2
import Derived.Test.YtjfggepgjpdebaaM27
import Derived.Test.YtjfggepgjpdebaaV11
import Derived.Test.YtjfggepgjpdebaaQ23
import Derived.Test.YtjfggepgjpdebaaU8
import Derived.Outline
import Derived.Deep.DeepCutAuto
import Derived.Deep.MidRow
import Derived.Deep.QuietTactic
import Derived.BigQuiet
set_option linter.unusedVariables false
set_option linter.unusedSimpArgs false
namespace Go.Proofs.Ytjfggepgjpdebaa
open Go.RowKit Go.Q

/-- zeros were returned, with an error -/
def PbZ1 (er : Int) (w : World) (e : Ending) (w' : World) : Prop := ∃ x0 x1 x2 x3 y0 y1 y2 y3, e = .returned (.tuple #[.agg #[.slice x0 0 y0, .slice x1 0 y1, .slice x2 0 y2, .int .i64 0, .slice x3 0 y3, .int .i64 0, .int .i64 0, .int .i64 0, .int .i64 0, .int .i64 0, .int .i64 0, .int .i64 0, .int .i64 0, .int .i64 0, .int .i64 0, .int .i64 0, .int .i64 0, .int .i64 0], .int .i64 er]) ∧ Ext w w'
theorem PbZ1.of {er : Int} {w w' : World} {e : Ending} (h : PbRes (zpb, er) w e w') : PbZ1 er w e w' := by
  obtain ⟨v, rfl, ⟨aL, a1, a2, a3, cL, c1, c2, c3, rfl, _⟩, hE⟩ := h
  exact ⟨aL, a1, a2, a3, cL, c1, c2, c3, rfl, hE⟩
set_option maxRecDepth 100000 in
set_option maxHeartbeats 8000000 in
theorem one_bad (aL a1 a2 a3 : Option Addr) (nL cL n1 c1 n2 c2 n3 c3 : Nat) (b : PuB) (er : Int) (w : World) (her : (er != 0) = true)
    (h1 : ∀ W, Ext w W → Calls Try.prog 36 #[pbv aL a1 a2 a3 nL cL n1 c1 n2 c2 n3 c3 b, .int .i64 1] W (PbZ1 er W)) :
    Calls Try.prog 13 #[pbv aL a1 a2 a3 nL cL n1 c1 n2 c2 n3 c3 b] w fun e w' => e = .returned (.bool true) ∧ Ext w w' := by
  go_enter Try.func13, Try.ntmps13
  have HM0b := Lib.hid (Blk.range (L := [.slice aL nL cL, .slice a1 n1 c1, .slice a2 n2 c2, .int .i64 b.now.taken, .slice a3 n3 c3, .int .i64 b.now.clock, .int .i64 b.now.at_, .int .i64 b.now.phase, .int .i64 b.now.order, .int .i64 b.now.operand, .int .i64 b.now.other, .int .i64 b.now.product, .int .i64 b.now.count, .int .i64 b.now.done, .int .i64 b.now.why, .int .i64 b.beat, .int .i64 b.carry, .int .i64 b.sum]) (Blk.nw w #[.slice aL nL cL, .slice a1 n1 c1, .slice a2 n2 c2, .int .i64 b.now.taken, .slice a3 n3 c3, .int .i64 b.now.clock, .int .i64 b.now.at_, .int .i64 b.now.phase, .int .i64 b.now.order, .int .i64 b.now.operand, .int .i64 b.now.other, .int .i64 b.now.product, .int .i64 b.now.count, .int .i64 b.now.done, .int .i64 b.now.why, .int .i64 b.beat, .int .i64 b.carry, .int .i64 b.sum] 50))
  go_wp2_with (first | (refine wpList_load_mid rfl 50 (.tmp 1) rfl (w.heap.size) 0 rfl [.slice aL nL cL, .slice a1 n1 c1, .slice a2 n2 c2, .int .i64 b.now.taken, .slice a3 n3 c3, .int .i64 b.now.clock, .int .i64 b.now.at_, .int .i64 b.now.phase, .int .i64 b.now.order, .int .i64 b.now.operand, .int .i64 b.now.other, .int .i64 b.now.product, .int .i64 b.now.count, .int .i64 b.now.done, .int .i64 b.now.why, .int .i64 b.beat, .int .i64 b.carry, .int .i64 b.sum] _ HM0b.out Try.underlying50 rfl (by kernel_rfl) ?_))
  refine (h1 _ ((Ext.refl w).alloc _)).mono ?_
  rintro e w1 ⟨x0, x1, x2, x3, y0, y1, y2, y3, rfl, E1⟩
  clear HM0b
  have Y0_1 : Ext w w1 := E1.old
  have Bb_1 := Blk.of E1
  clear E1
  go_wp2_with (go_at_call 30; refine (awake5_any _).mono ?_; rintro e w2 ⟨rfl, E2⟩)
  have Y1_2 : Ext w1 w2 := E2.old
  have Y0_2 : Ext w w2 := Y0_1.comp Y1_2
  have Bb_2 := Blk.ex (Blk.al Bb_1 (.cells #[.slice x0 0 y0, .slice x1 0 y1, .slice x2 0 y2, .int .i64 0, .slice x3 0 y3, .int .i64 0, .int .i64 0, .int .i64 0, .int .i64 0, .int .i64 0, .int .i64 0, .int .i64 0, .int .i64 0, .int .i64 0, .int .i64 0, .int .i64 0, .int .i64 0, .int .i64 0] 50)) E2
  have Bc_2 := Blk.of E2
  clear Bb_1 Y0_1
  clear E2
  go_ret
  exact ⟨rfl, Y0_2⟩
set_option maxRecDepth 100000 in
set_option maxHeartbeats 8000000 in
theorem one_good (aL a1 a2 a3 : Option Addr) (cL c1 n2 c2 n3 c3 : Nat) (b c : PuB) (oo of_ ot on : Int) (w : World) (hto : 0 ≤ ot ∧ ot ≤ 127) (hbt : 0 ≤ b.beat ∧ b.beat ≤ 23) (hcl : 0 ≤ b.now.clock ∧ b.now.clock ≤ 1000000000)
    (h1 : ∀ W, Ext w W → Calls Try.prog 36 #[pbv aL a1 a2 a3 8 cL 0 c1 n2 c2 n3 c3 b, .int .i64 1] W (PbR8 c W))
    (hd : ∀ W, Calls Try.prog 43 #[.int .i64 b.now.order] W fun e w' => e = .returned (.tuple #[.agg #[.int .i64 oo, .int .i64 of_, .int .i64 ot, .int .i64 on], .int .i64 0]) ∧ Ext W w')
    (iL : LinesAt w aL b.lines) (l8 : b.lines.length = 8) (m8 : c.lines.length = 8) (hl : ∀ i, i < 8 → (b.lines[i]?.getD []).length = 384) (hm : ∀ i, i < 8 → (c.lines[i]?.getD []).length = 384)
    (hone : ∀ i k : Nat, (c.lines[i]?.getD [])[k]?.getD false = (b.lines[i]?.getD [])[k]?.getD false ∨ ((i : Int) = ot / 16 ∧ (k : Int) = ot % 16 * 24 + b.beat ∧ b.now.clock % 16 = ot % 16 ∧ (b.now.phase = 2 ∨ b.now.phase = 4)))
    (hend : c.now.why ≠ 0 ∨ c.beat = (b.beat + 1) % 24) :
    Calls Try.prog 13 #[pbv aL a1 a2 a3 8 cL 0 c1 n2 c2 n3 c3 b] w fun e w' => e = .returned (.bool true) ∧ Ext w w' := by
  have HL := Lib.hid (And.intro iL (And.intro l8 (And.intro m8 (And.intro hl hm))))
  have HONE := Lib.hid hone
  have HEND := Lib.hid hend
  obtain ⟨to0, to1⟩ := hto
  obtain ⟨bt0, bt1⟩ := hbt
  clear iL l8 m8 hl hm hone hend
  go_enter Try.func13, Try.ntmps13
  have HM0b := Lib.hid (Blk.range (L := [.slice aL 8 cL, .slice a1 0 c1, .slice a2 n2 c2, .int .i64 b.now.taken, .slice a3 n3 c3, .int .i64 b.now.clock, .int .i64 b.now.at_, .int .i64 b.now.phase, .int .i64 b.now.order, .int .i64 b.now.operand, .int .i64 b.now.other, .int .i64 b.now.product, .int .i64 b.now.count, .int .i64 b.now.done, .int .i64 b.now.why, .int .i64 b.beat, .int .i64 b.carry, .int .i64 b.sum]) (Blk.nw w #[.slice aL 8 cL, .slice a1 0 c1, .slice a2 n2 c2, .int .i64 b.now.taken, .slice a3 n3 c3, .int .i64 b.now.clock, .int .i64 b.now.at_, .int .i64 b.now.phase, .int .i64 b.now.order, .int .i64 b.now.operand, .int .i64 b.now.other, .int .i64 b.now.product, .int .i64 b.now.count, .int .i64 b.now.done, .int .i64 b.now.why, .int .i64 b.beat, .int .i64 b.carry, .int .i64 b.sum] 50))
  go_wp2_with (first | (refine wpList_load_mid rfl 50 (.tmp 1) rfl (w.heap.size) 0 rfl [.slice aL 8 cL, .slice a1 0 c1, .slice a2 n2 c2, .int .i64 b.now.taken, .slice a3 n3 c3, .int .i64 b.now.clock, .int .i64 b.now.at_, .int .i64 b.now.phase, .int .i64 b.now.order, .int .i64 b.now.operand, .int .i64 b.now.other, .int .i64 b.now.product, .int .i64 b.now.count, .int .i64 b.now.done, .int .i64 b.now.why, .int .i64 b.beat, .int .i64 b.carry, .int .i64 b.sum] _ HM0b.out Try.underlying50 rfl (by kernel_rfl) ?_))
  refine (h1 _ ((Ext.refl w).alloc _)).mono ?_
  rintro e w1 ⟨x0, x1, x2, x3, y0, y1, k2, y2, k3, y3, rfl, A1, E1⟩
  clear HM0b
  have Y0_1 : Ext w w1 := E1.old
  have Bb_1 := Blk.of E1
  have q1b0 := fun ob => Blk.c (Blk.al Bb_1 ob) 0 (v := .slice aL 8 cL) rfl
  have q1b8 := fun ob => Blk.c (Blk.al Bb_1 ob) 8 (v := .int .i64 b.now.order) rfl
  clear E1
  have jL := A1
  obtain ⟨zL, z1, z2, z3, zc, zd1, zd2, zd3, hzv, jL2, _, _, _⟩ := A1
  have hxL : x0 = zL := by simp only [Value.agg.injEq, Array.mk.injEq, List.cons.injEq, Value.slice.injEq] at hzv; exact hzv.1.1
  subst hxL
  have HJ := Lib.hid jL2
  clear jL hzv jL2
  go_wp2_with fail
  refine (hd _).mono ?_
  rintro e w2 ⟨rfl, E2⟩
  clear q1b0 q1b8
  have Y1_2 : Ext w1 w2 := E2.old
  have Y0_2 : Ext w w2 := Y0_1.comp Y1_2
  have Bb_2 := Blk.ex (Blk.al Bb_1 (.cells #[.slice x0 8 y0, .slice x1 0 y1, .slice x2 k2 y2, .int .i64 c.now.taken, .slice x3 k3 y3, .int .i64 c.now.clock, .int .i64 c.now.at_, .int .i64 c.now.phase, .int .i64 c.now.order, .int .i64 c.now.operand, .int .i64 c.now.other, .int .i64 c.now.product, .int .i64 c.now.count, .int .i64 c.now.done, .int .i64 c.now.why, .int .i64 c.beat, .int .i64 c.carry, .int .i64 c.sum] 50)) E2
  have Bc_2 := Blk.of E2
  clear Bb_1 Y0_1
  have q2b0 := fun ob => Blk.c (Blk.al Bb_2 ob) 0 (v := .slice aL 8 cL) rfl
  have q2b15 := fun ob => Blk.c (Blk.al Bb_2 ob) 15 (v := .int .i64 b.beat) rfl
  clear E2
  go_wp2_with fail
  clear q2b0 q2b15
  have HB := Lib.hid (And.intro (Blk.al Bb_2 (.cells #[.int .i64 oo, .int .i64 of_, .int .i64 ot, .int .i64 on] 36)) (And.intro (Blk.al Bc_2 (.cells #[.int .i64 oo, .int .i64 of_, .int .i64 ot, .int .i64 on] 36)) (And.intro (Blk.nw w2 #[.int .i64 oo, .int .i64 of_, .int .i64 ot, .int .i64 on] 36) (And.intro (Y0_2.alloc (.cells #[.int .i64 oo, .int .i64 of_, .int .i64 ot, .int .i64 on] 36)) (Y1_2.alloc (.cells #[.int .i64 oo, .int .i64 of_, .int .i64 ot, .int .i64 on] 36))))))
  clear Bb_2 Bc_2 Y0_2 Y1_2
  obtain ⟨W0, hW0⟩ : ∃ W0 : World, W0 = w2.alloc (.cells #[.int .i64 oo, .int .i64 of_, .int .i64 ot, .int .i64 on] 36) := ⟨_, rfl⟩
  rw [← hW0] at HB
  rw [← hW0]
  clear hW0
  go_loopw [7] (fun s wr => ∃ i : Nat, i ≤ 8 ∧ s = .int .i64 i ∧ Ext W0 wr) (fun s _ => 8 - (intOf s).toNat)
  case atStart => exact ⟨0, Nat.zero_le _, rfl, Ext.refl _⟩
  case round =>
    obtain ⟨i, hi, rfl, EW⟩ := hrel
    have b0 := (HB.out.1.ex EW).c 0 (v := .slice aL 8 cL) rfl
    have c0 := (HB.out.2.1.ex EW).c 0 (v := .slice x0 8 y0) rfl
    have HEW := Lib.hid EW
    by_cases hlt : i < 8
    · have hltz : (i : Int) < 8 := by omega
      obtain ⟨iL, l8, m8, hl, hm⟩ := HL.out
      have jL := HJ.out
      rcases iL with e | ⟨ba, oa, rfl, hba, hca⟩
      · rw [e] at l8; simp at l8
      rcases jL with e | ⟨bc, oc, rfl, hbc, hcc⟩
      · rw [e] at m8; simp at m8
      obtain ⟨ai, ci, x1, hci, u1⟩ := hca i (by omega)
      obtain ⟨bi, di, y1', hdi, u2⟩ := hcc i (by omega)
      have l1 := hl i hlt
      have l2 := hm i hlt
      have E0 := HB.out.2.2.2.1.comp EW
      have E1 := HB.out.2.2.2.2.comp EW
      have r0 := (E0.cell (p := ⟨ba, oa + i, none⟩) hba).trans x1
      have r1 := (E1.cell (p := ⟨bc, oc + i, none⟩) hbc).trans y1'
      rw [l1] at r0 hci
      rw [l2] at r1 hdi
      rcases u1 with e | ⟨ga, pa, rfl, hga, hva⟩
      · rw [e] at l1; simp at l1
      rcases u2 with e | ⟨gc, pc, rfl, hgc, hvc⟩
      · rw [e] at l2; simp at l2
      have HV := Lib.hid (And.intro (fun k (hk : k < 384) => (E0.cell (p := ⟨ga, pa + k, none⟩) hga).trans (hva k (by omega))) (fun k (hk : k < 384) => (E1.cell (p := ⟨gc, pc + k, none⟩) hgc).trans (hvc k (by omega))))
      have HC := Lib.hid (And.intro b0 (And.intro c0 (And.intro r0 r1)))
      obtain ⟨hci1, hci2⟩ := hci
      obtain ⟨hdi1, hdi2⟩ := hdi
      clear l8 m8 hl hm hca hcc x1 y1' l1 l2 hva hvc E0 E1 hba hbc EW
      have hne : ((384 : Int) != 384) = false := by decide
      obtain ⟨wo, rfl⟩ : ∃ wo : World, wo = wr := ⟨_, rfl⟩
      go_wp2_with fail
      go_quiet (fail)
      have HEq := Lib.hid (below_drewN (Ext.refl wo) nq)
      clear b0 c0 r0 r1
      go_wp2_with fail
      go_loopw [8] (fun s wr => ∃ k : Nat, k ≤ 384 ∧ s = .int .i64 k ∧ Ext wo wr) (fun s _ => 384 - (intOf s).toNat)
      case atStart => exact ⟨0, Nat.zero_le _, rfl, HEq.out⟩
      case round =>
        obtain ⟨k, hk, rfl, EV⟩ := hrel
        have b0 := ext_gq EV (lt_of_cell HC.out.1) HC.out.1
        have r0 := ext_gq EV (lt_of_cell HC.out.2.2.1) HC.out.2.2.1
        have HEV := Lib.hid EV
        by_cases hlk : k < 384
        · have hlkz : (k : Int) < 384 := by omega
          have c0 := ext_gq EV (lt_of_cell HC.out.2.1) HC.out.2.1
          have r1 := ext_gq EV (lt_of_cell HC.out.2.2.2) HC.out.2.2.2
          have v1 := HV.out.1 k hlk
          have v2 := HV.out.2 k hlk
          replace v1 := ext_gq EV (lt_of_cell v1) v1
          replace v2 := ext_gq EV (lt_of_cell v2) v2
          have bW := HB.out.1.ex (HEW.out.comp EV)
          have oW := HB.out.2.2.1.ex (HEW.out.comp EV)
          have b15 := bW.c 15 (v := .int .i64 b.beat) rfl
          have b7 := bW.c 7 (v := .int .i64 b.now.phase) rfl
          have o2 := oW.c 2 (v := .int .i64 ot) rfl
          have HN := Lib.hid bW.range14
          have hwo := HONE.out i k
          generalize (b.lines[i]?.getD [])[k]?.getD false = xb at *
          generalize (c.lines[i]?.getD [])[k]?.getD false = xc at *
          have HX := Lib.hid (And.intro v1 v2)
          have HR := Lib.hid (And.intro b0 (And.intro r0 (And.intro c0 (And.intro r1 (And.intro bW oW)))))
          clear EV bW oW
          have hat : 0 ≤ ot % 16 ∧ ot % 16 ≤ 15 := by omega
          obtain ⟨hat0, hat1⟩ := hat
          obtain ⟨mb, hmb⟩ : ∃ mb : Bool, mb = decide ((i : Int) = ot / 16 ∧ (k : Int) = ot % 16 * 24 + b.beat ∧ b.now.clock % 16 = ot % 16 ∧ (b.now.phase = 2 ∨ b.now.phase = 4)) := ⟨_, rfl⟩
          have HMB := Lib.hid hmb
          have HWO := Lib.hid hwo
          have hcm := fun W => rcomes_any a1 a2 a3 0 c1 n2 c2 n3 c3 b.now ot W hcl ⟨to0, to1⟩
          clear hmb hwo c0 r1 v1 v2
          go_upto_region 16 with fail
          clear b0 r0
          go_cut [10] (fun s10 wx => s10 = .bool mb ∧ Ext wr wx)
          case first =>
            by_cases hm1 : (i : Int) = ot / 16
            · have t1 : ((i : Int) == ot / 16) = true := by simpa using hm1
              have H1 := Lib.hid hm1
              clear hm1
              by_cases hm2 : (k : Int) = ot % 16 * 24 + b.beat
              · have t2 : ((k : Int) == ot % 16 * 24 + b.beat) = true := by simpa using hm2
                have H2 := Lib.hid hm2
                clear hm2
                by_cases hm3 : b.now.clock % 16 = ot % 16
                · rw [show decide (b.now.clock % 16 = ot % 16) = true by simpa using hm3] at hcm
                  have H3 := Lib.hid hm3
                  clear hm3
                  by_cases hp : b.now.phase = 2
                  · have HTP := Lib.hid (show (b.now.phase == 2) = true by simpa using hp)
                    have H4 := Lib.hid hp
                    clear hp
                    go_wp2_with (first | (refine wpList_load_midG (by kernel_rfl) 41 (.tmp 87) rfl w.heap.size 1 rfl [.slice a1 0 c1, .slice a2 n2 c2, .int .i64 b.now.taken, .slice a3 n3 c3, .int .i64 b.now.clock, .int .i64 b.now.at_, .int .i64 b.now.phase, .int .i64 b.now.order, .int .i64 b.now.operand, .int .i64 b.now.other, .int .i64 b.now.product, .int .i64 b.now.count, .int .i64 b.now.done, .int .i64 b.now.why] _ HN.out Try.underlying41 rfl (by kernel_rfl) ?_) | (go_at_call 44; refine (hcm _).mono ?_; rintro e w3 ⟨rfl, E3c⟩; have b7 := (HR.out.2.2.2.2.1.ex E3c).c 7 (v := .int .i64 b.now.phase) rfl; have tp := HTP.out))
                    go_meet
                    exact ⟨by rw [HMB.out, decide_eq_true (p := ((i : Int) = ot / 16 ∧ (k : Int) = ot % 16 * 24 + b.beat ∧ b.now.clock % 16 = ot % 16 ∧ (b.now.phase = 2 ∨ b.now.phase = 4))) ⟨H1.out, H2.out, H3.out, .inl H4.out⟩], E3c⟩
                  · have HTP := Lib.hid (show (b.now.phase == 2) = false by simpa using hp)
                    by_cases hp4 : b.now.phase = 4
                    · have HTP4 := Lib.hid (show (b.now.phase == 4) = true by simpa using hp4)
                      have H4 := Lib.hid hp4
                      clear hp hp4
                      go_wp2_with (first | (refine wpList_load_midG (by kernel_rfl) 41 (.tmp 87) rfl w.heap.size 1 rfl [.slice a1 0 c1, .slice a2 n2 c2, .int .i64 b.now.taken, .slice a3 n3 c3, .int .i64 b.now.clock, .int .i64 b.now.at_, .int .i64 b.now.phase, .int .i64 b.now.order, .int .i64 b.now.operand, .int .i64 b.now.other, .int .i64 b.now.product, .int .i64 b.now.count, .int .i64 b.now.done, .int .i64 b.now.why] _ HN.out Try.underlying41 rfl (by kernel_rfl) ?_) | (go_at_call 44; refine (hcm _).mono ?_; rintro e w3 ⟨rfl, E3c⟩; have b7 := (HR.out.2.2.2.2.1.ex E3c).c 7 (v := .int .i64 b.now.phase) rfl; have tp := HTP.out; have tp4 := HTP4.out))
                      go_meet
                      exact ⟨by rw [HMB.out, decide_eq_true (p := ((i : Int) = ot / 16 ∧ (k : Int) = ot % 16 * 24 + b.beat ∧ b.now.clock % 16 = ot % 16 ∧ (b.now.phase = 2 ∨ b.now.phase = 4))) ⟨H1.out, H2.out, H3.out, .inr H4.out⟩], E3c⟩
                    · have HTP4 := Lib.hid (show (b.now.phase == 4) = false by simpa using hp4)
                      have H4 := Lib.hid (And.intro hp hp4)
                      clear hp hp4
                      go_wp2_with (first | (refine wpList_load_midG (by kernel_rfl) 41 (.tmp 87) rfl w.heap.size 1 rfl [.slice a1 0 c1, .slice a2 n2 c2, .int .i64 b.now.taken, .slice a3 n3 c3, .int .i64 b.now.clock, .int .i64 b.now.at_, .int .i64 b.now.phase, .int .i64 b.now.order, .int .i64 b.now.operand, .int .i64 b.now.other, .int .i64 b.now.product, .int .i64 b.now.count, .int .i64 b.now.done, .int .i64 b.now.why] _ HN.out Try.underlying41 rfl (by kernel_rfl) ?_) | (go_at_call 44; refine (hcm _).mono ?_; rintro e w3 ⟨rfl, E3c⟩; have b7 := (HR.out.2.2.2.2.1.ex E3c).c 7 (v := .int .i64 b.now.phase) rfl; have tp := HTP.out; have tp4 := HTP4.out))
                      go_meet
                      exact ⟨by rw [HMB.out, decide_eq_false (p := ((i : Int) = ot / 16 ∧ (k : Int) = ot % 16 * 24 + b.beat ∧ b.now.clock % 16 = ot % 16 ∧ (b.now.phase = 2 ∨ b.now.phase = 4))) (fun c => c.2.2.2.elim H4.out.1 H4.out.2)], E3c⟩
                · rw [show decide (b.now.clock % 16 = ot % 16) = false by simpa using hm3] at hcm
                  have H3 := Lib.hid hm3
                  clear hm3
                  have tokL : True := trivial
                  go_wp2_with (first | (have _t := tokL; refine wpList_load_midG (by kernel_rfl) 41 (.tmp 87) rfl w.heap.size 1 rfl [.slice a1 0 c1, .slice a2 n2 c2, .int .i64 b.now.taken, .slice a3 n3 c3, .int .i64 b.now.clock, .int .i64 b.now.at_, .int .i64 b.now.phase, .int .i64 b.now.order, .int .i64 b.now.operand, .int .i64 b.now.other, .int .i64 b.now.product, .int .i64 b.now.count, .int .i64 b.now.done, .int .i64 b.now.why] _ HN.out Try.underlying41 rfl (by kernel_rfl) ?_; clear _t tokL) | (go_at_call 44; refine (hcm _).mono ?_; rintro e w3 ⟨rfl, E3c⟩; have b7 := (HR.out.2.2.2.2.1.ex E3c).c 7 (v := .int .i64 b.now.phase) rfl))
                  go_meet
                  exact ⟨by rw [HMB.out, decide_eq_false (p := ((i : Int) = ot / 16 ∧ (k : Int) = ot % 16 * 24 + b.beat ∧ b.now.clock % 16 = ot % 16 ∧ (b.now.phase = 2 ∨ b.now.phase = 4))) (fun c => H3.out c.2.2.1)], E3c⟩
              · have t2 : ((k : Int) == ot % 16 * 24 + b.beat) = false := by simpa using hm2
                have H2 := Lib.hid hm2
                clear hm2
                go_wp2_with fail
                go_meet
                exact ⟨by rw [HMB.out, decide_eq_false (p := ((i : Int) = ot / 16 ∧ (k : Int) = ot % 16 * 24 + b.beat ∧ b.now.clock % 16 = ot % 16 ∧ (b.now.phase = 2 ∨ b.now.phase = 4))) (fun c => H2.out c.2.1)], Ext.refl _⟩
            · have t1 : ((i : Int) == ot / 16) = false := by simpa using hm1
              have H1 := Lib.hid hm1
              clear hm1
              go_wp2_with fail
              go_meet
              exact ⟨by rw [HMB.out, decide_eq_false (p := ((i : Int) = ot / 16 ∧ (k : Int) = ot % 16 * 24 + b.beat ∧ b.now.clock % 16 = ot % 16 ∧ (b.now.phase = 2 ∨ b.now.phase = 4))) (fun c => H1.out c.1)], Ext.refl _⟩
          case rest =>
            obtain ⟨rfl, EC⟩ := hcut
            obtain ⟨wq, rfl⟩ : ∃ wq : World, wq = wc := ⟨_, rfl⟩
            have b0 := ext_gq EC (lt_of_cell HR.out.1) HR.out.1
            have r0 := ext_gq EC (lt_of_cell HR.out.2.1) HR.out.2.1
            have c0 := ext_gq EC (lt_of_cell HR.out.2.2.1) HR.out.2.2.1
            have r1 := ext_gq EC (lt_of_cell HR.out.2.2.2.1) HR.out.2.2.2.1
            have v1 := ext_gq EC (lt_of_cell HX.out.1) HX.out.1
            have v2 := ext_gq EC (lt_of_cell HX.out.2) HX.out.2
            have HEC := Lib.hid EC
            clear EC b15 b7 o2 hcm
            cases xb with
            | false =>
              cases xc with
              | false =>
                go_wp2_with fail
                go_quiet (fail)
                have E3 := HEV.out.comp (HEC.out.comp (below_drewN (Ext.refl _) nq))
                clear v1 v2 b0 r0 c0 r1
                go_wp2_with fail
                go_roundw
                case rel => exact ⟨k + 1, by omega, by simp, E3⟩
                case measure => simp [intOf]; omega
              | true =>
                have hmt : mb = true := by
                  rcases HWO.out with e | e
                  · cases e
                  · rw [HMB.out]; exact decide_eq_true e
                subst hmt
                go_wp2_with fail
                go_quiet (fail)
                have E3 := HEV.out.comp (HEC.out.comp (below_drewN (Ext.refl _) nq))
                clear v1 v2 b0 r0 c0 r1
                go_wp2_with fail
                go_roundw
                case rel => exact ⟨k + 1, by omega, by simp, E3⟩
                case measure => simp [intOf]; omega
            | true =>
              cases xc with
              | true =>
                go_wp2_with fail
                go_quiet (fail)
                have E3 := HEV.out.comp (HEC.out.comp (below_drewN (Ext.refl _) nq))
                clear v1 v2 b0 r0 c0 r1
                go_wp2_with fail
                go_roundw
                case rel => exact ⟨k + 1, by omega, by simp, E3⟩
                case measure => simp [intOf]; omega
              | false =>
                have hmt : mb = true := by
                  rcases HWO.out with e | e
                  · cases e
                  · rw [HMB.out]; exact decide_eq_true e
                subst hmt
                go_wp2_with fail
                go_quiet (fail)
                have E3 := HEV.out.comp (HEC.out.comp (below_drewN (Ext.refl _) nq))
                clear v1 v2 b0 r0 c0 r1
                go_wp2_with fail
                go_roundw
                case rel => exact ⟨k + 1, by omega, by simp, E3⟩
                case measure => simp [intOf]; omega
        · obtain rfl : k = 384 := by omega
          have hlkz : ¬ ((384 : Nat) : Int) < 384 := by omega
          clear EV
          go_wp2_with fail
          go_roundw
          case rel => exact ⟨i + 1, by omega, by simp, HEW.out.comp HEV.out⟩
          case measure => simp [intOf]; omega
    · obtain rfl : i = 8 := by omega
      have hltz : ¬ ((8 : Nat) : Int) < 8 := by omega
      clear c0
      have bW := HB.out.1.ex EW
      have cW := HB.out.2.1.ex EW
      have X := Lib.hid (HB.out.2.2.2.1.comp EW)
      have b15 := bW.c 15 (v := .int .i64 b.beat) rfl
      have d14 := cW.c 14 (v := .int .i64 c.now.why) rfl
      have d15 := cW.c 15 (v := .int .i64 c.beat) rfl
      clear EW bW cW
      by_cases hwy : c.now.why = 0
      · have hwy' : (c.now.why != 0) = false := by simpa using hwy
        have hbe : (c.beat == (b.beat + 1) % 24) = true := by have := HEND.out; simp; omega
        clear hwy
        go_wp2_with (go_at_call 30; refine (awake5_any _).mono ?_; rintro e w5 ⟨rfl, E5⟩)
        go_ret
        exact ⟨rfl, X.out.comp E5⟩
      · have hwy' : (c.now.why != 0) = true := by simpa using hwy
        clear hwy
        go_wp2_with (go_at_call 30; refine (awake5_any _).mono ?_; rintro e w5 ⟨rfl, E5⟩)
        go_ret
        exact ⟨rfl, X.out.comp E5⟩
theorem one_law (v : Value) (b : PuB) (w : World) (h : PbAt w v b) (hb : PbBd b) :
    Calls Try.prog 13 #[v] w fun e w' => e = .returned (.bool true) ∧ Ext w w' := by
  have h1 := fun W (E : Ext w W) => beats_any v b 1 W (h.ext E) hb
  obtain ⟨aL, a1, a2, a3, cL, c1, c2, c3, rfl, iL, _, _, _⟩ := h
  by_cases hs : stateE b = 0
  · have hv := valid_state hs
    have hv2 : ValidB (beatP b) := beatsP_valid 1 hv
    have e1 : beatsE b 1 = (beatP b, 0) := by
      unfold beatsE
      rw [hs, if_neg (by decide), if_pos (inB_mk (by omega) (by omega))]
      rfl
    rw [e1] at h1
    have hd := fun W => rdec_ord (n := b.now.order) hv.st.order W
    have hg : ∀ (x : PuB), ValidB x → ∀ i, i < 8 → (x.lines[i]?.getD []).length = 384 := fun x hx i hi => by
      rw [List.getElem?_eq_getElem (by rw [hx.lines]; exact hi)]
      exact hx.len _ (List.getElem_mem _)
    have e0 : b.now.store.length = 0 := by rw [hv.nostore]; rfl
    rw [hv.lines, e0] at h1 ⊢
    have hto : 0 ≤ (decodeQ b.now.order).to ∧ (decodeQ b.now.order).to ≤ 127 := by
      show 0 ≤ b.now.order / 128 % 128 ∧ b.now.order / 128 % 128 ≤ 127
      omega
    exact one_good aL a1 a2 a3 cL c1 _ c2 _ c3 b (beatP b) _ _ _ _ w hto hv.beat hv.st.clock (fun W E => (h1 W E).mono fun _ _ k => PbR8.of k hv2) hd iL hv.lines hv2.lines (hg b hv) (hg _ hv2) (beatP_one hv) (beatP_end hv)
  · have e1 : beatsE b 1 = (zpb, stateE b) := by unfold beatsE; rw [if_pos hs]
    rw [e1] at h1
    exact one_bad aL a1 a2 a3 _ cL _ c1 _ c2 _ c3 b (stateE b) w (by simpa using hs) (fun W E => (h1 W E).mono fun _ _ k => PbZ1.of k)
end Go.Proofs.Ytjfggepgjpdebaa

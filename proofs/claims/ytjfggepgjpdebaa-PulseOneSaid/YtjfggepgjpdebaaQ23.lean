/- Contract: the reference of layer 5: Pulses, of two values that read as the same pulses. -/
import Derived.Test.YtjfggepgjpdebaaM20
import Derived.Test.YtjfggepgjpdebaaM15
import Derived.Deep.MidRow
import Derived.Deep.QuietTactic
import Derived.BigQuiet
set_option linter.unusedVariables false
set_option linter.unusedSimpArgs false
namespace Go.Proofs.Ytjfggepgjpdebaa
open Go.RowKit Go.Q

/-- a whole struct is loaded, by an operation that is guarded -/
theorem wpList_load_midG {P : Program} {ops : Array Oper} {rest : List Oper} {op : Oper} {a : Act} {w : World} {Q : Exit → Act → World → Prop} (hw : Region.wanted op (yielded ops a.tmps) = true) (ty : TypeId) (x : Operand) (ho : op.op = .load ty x)
    (b o : Nat) (hx : a.eval x = .pointer (some ⟨b, o, none⟩)) (cs : List Value) (d : TypeDesc) (hc : w.rangeAt b o cs)
    (hu : P.underlying ty = some d) (hd : d.isRow = true) (hi : (P.info? ty).map (·.size) = some cs.length)
    (h : wpList P ops Q rest (a.put op.dst (.agg cs.toArray)) w) : wpList P ops Q (op :: rest) a w :=
  BigFrame.wpList_want hw fun _ hK => wp_load_mid ty x ho b o hx cs d hc hu hd hi (hK _ _ h)
theorem lt_of_cell {W : World} {k i : Nat} {v : Value} (h : W.cell? ⟨k, i, none⟩ = some v) : k < W.heap.size := World.block_lt_of_cell? _ _ h
theorem ext_gq {w W : World} {k i : Nat} {v : Value} (E : Ext w W) (h : k < w.heap.size) (hc : w.cell? ⟨k, i, none⟩ = some v) : W.cell? ⟨k, i, none⟩ = some v := (E.cell (p := ⟨k, i, none⟩) h).trans hc
set_option maxRecDepth 100000 in
set_option maxHeartbeats 8000000 in
theorem pulses_same (va vb : Value) (b : PuB) (w : World) (ha : PbAt w va b) (hb : PbAt w vb b) (hn : b.lines.length ≤ 9223372036854775807) (hB : PuBd b.now) :
    Calls Try.prog 33 #[va, vb] w fun e w' => e = .returned (.bool true) ∧ Ext w w' := by
  obtain ⟨aL, a1, a2, a3, cL, c1, c2, c3, rfl, iL, i1, i2, i3⟩ := ha
  obtain ⟨bL, b1, b2, b3, dL, d1, d2, d3, rfl, jL, j1, j2, j3⟩ := hb
  have hs := fun W (E : Ext w W) => pstates_same (psv a1 a2 a3 b.now.store.length c1 b.now.tape.length c2 b.now.printed.length c3 b.now) (psv b1 b2 b3 b.now.store.length d1 b.now.tape.length d2 b.now.printed.length d3 b.now) b.now W
    ⟨a1, a2, a3, c1, c2, c3, rfl, i1.ext E, i2.ext E, i3.ext E⟩ ⟨b1, b2, b3, d1, d2, d3, rfl, j1.ext E, j2.ext E, j3.ext E⟩ hB
  generalize b.now.store.length = n1 at *
  generalize b.now.tape.length = n2 at *
  generalize b.now.printed.length = n3 at *
  generalize hln : b.lines.length = n at *
  have HI := Lib.hid (And.intro hln (And.intro iL jL))
  clear i1 i2 i3 j1 j2 j3 hB iL jL hln
  have HA := Lib.hid (Blk.range14 (Blk.al (Blk.nw w #[.slice aL n cL, .slice a1 n1 c1, .slice a2 n2 c2, .int .i64 b.now.taken, .slice a3 n3 c3, .int .i64 b.now.clock, .int .i64 b.now.at_, .int .i64 b.now.phase, .int .i64 b.now.order, .int .i64 b.now.operand, .int .i64 b.now.other, .int .i64 b.now.product, .int .i64 b.now.count, .int .i64 b.now.done, .int .i64 b.now.why, .int .i64 b.beat, .int .i64 b.carry, .int .i64 b.sum] 50) (.cells #[.slice bL n dL, .slice b1 n1 d1, .slice b2 n2 d2, .int .i64 b.now.taken, .slice b3 n3 d3, .int .i64 b.now.clock, .int .i64 b.now.at_, .int .i64 b.now.phase, .int .i64 b.now.order, .int .i64 b.now.operand, .int .i64 b.now.other, .int .i64 b.now.product, .int .i64 b.now.count, .int .i64 b.now.done, .int .i64 b.now.why, .int .i64 b.beat, .int .i64 b.carry, .int .i64 b.sum] 50)))
  have HB := Lib.hid (Blk.range14 (Blk.nw (w.alloc (.cells #[.slice aL n cL, .slice a1 n1 c1, .slice a2 n2 c2, .int .i64 b.now.taken, .slice a3 n3 c3, .int .i64 b.now.clock, .int .i64 b.now.at_, .int .i64 b.now.phase, .int .i64 b.now.order, .int .i64 b.now.operand, .int .i64 b.now.other, .int .i64 b.now.product, .int .i64 b.now.count, .int .i64 b.now.done, .int .i64 b.now.why, .int .i64 b.beat, .int .i64 b.carry, .int .i64 b.sum] 50)) #[.slice bL n dL, .slice b1 n1 d1, .slice b2 n2 d2, .int .i64 b.now.taken, .slice b3 n3 d3, .int .i64 b.now.clock, .int .i64 b.now.at_, .int .i64 b.now.phase, .int .i64 b.now.order, .int .i64 b.now.operand, .int .i64 b.now.other, .int .i64 b.now.product, .int .i64 b.now.count, .int .i64 b.now.done, .int .i64 b.now.why, .int .i64 b.beat, .int .i64 b.carry, .int .i64 b.sum] 50))
  rw [World.size_alloc] at HB
  go_enter Try.func33, Try.ntmps33
  go_wp2_with (first | (refine wpList_load_mid rfl 41 (.tmp 15) rfl w.heap.size 1 rfl [.slice a1 n1 c1, .slice a2 n2 c2, .int .i64 b.now.taken, .slice a3 n3 c3, .int .i64 b.now.clock, .int .i64 b.now.at_, .int .i64 b.now.phase, .int .i64 b.now.order, .int .i64 b.now.operand, .int .i64 b.now.other, .int .i64 b.now.product, .int .i64 b.now.count, .int .i64 b.now.done, .int .i64 b.now.why] _ HA.out Try.underlying41 rfl (by kernel_rfl) ?_) | (refine wpList_load_mid rfl 41 (.tmp 17) rfl (w.heap.size + 1) 1 rfl [.slice b1 n1 d1, .slice b2 n2 d2, .int .i64 b.now.taken, .slice b3 n3 d3, .int .i64 b.now.clock, .int .i64 b.now.at_, .int .i64 b.now.phase, .int .i64 b.now.order, .int .i64 b.now.operand, .int .i64 b.now.other, .int .i64 b.now.product, .int .i64 b.now.count, .int .i64 b.now.done, .int .i64 b.now.why] _ HB.out Try.underlying41 rfl (by kernel_rfl) ?_))
  refine (hs _ (((Ext.refl w).alloc _).alloc _)).mono ?_
  rintro e w1 ⟨rfl, E1⟩
  have bA := Blk.of E1.old
  have bB := Blk.of E1
  rw [World.size_alloc] at bB
  have X1 := E1.old.old
  have p15 := bA.c 15 (v := .int .i64 b.beat) rfl
  have p16 := bA.c 16 (v := .int .i64 b.carry) rfl
  have p17 := bA.c 17 (v := .int .i64 b.sum) rfl
  have q15 := bB.c 15 (v := .int .i64 b.beat) rfl
  have q16 := bB.c 16 (v := .int .i64 b.carry) rfl
  have q17 := bB.c 17 (v := .int .i64 b.sum) rfl
  have HW := Lib.hid (And.intro bA (And.intro bB X1))
  clear bA bB X1 hs HA HB E1
  go_wp2_with fail
  clear p15 p16 p17 q15 q16 q17
  go_loopw [5] (fun s wr => ∃ k : Nat, k ≤ n ∧ s = .int .i64 k ∧ Ext w1 wr) (fun s _ => n - (intOf s).toNat)
  case atStart => exact ⟨0, Nat.zero_le _, rfl, Ext.refl _⟩
  case round =>
    obtain ⟨k, hk, rfl, EW⟩ := hrel
    have r0 := (HW.out.1.ex EW).c 0 (v := .slice aL n cL) rfl
    have s0 := (HW.out.2.1.ex EW).c 0 (v := .slice bL n dL) rfl
    have X := Lib.hid (HW.out.2.2.comp EW)
    have HEW := Lib.hid EW
    by_cases hlt : k < n
    · have hltz : (k : Int) < (n : Int) := by omega
      obtain ⟨hln, iL, jL⟩ := HI.out
      rcases iL with e | ⟨ba, oa, rfl, hba, hca⟩
      · rw [e] at hln; simp at hln; omega
      rcases jL with e | ⟨bb, ob, rfl, hbb, hcb⟩
      · rw [e] at hln; simp at hln; omega
      obtain ⟨ai, ci, x1, ⟨_, hci⟩, x2⟩ := hca k (by omega)
      obtain ⟨bi, di, y1, ⟨_, hdi⟩, y2⟩ := hcb k (by omega)
      have x1' := (X.out.cell (p := ⟨ba, oa + k, none⟩) hba).trans x1
      have y1' := (X.out.cell (p := ⟨bb, ob + k, none⟩) hbb).trans y1
      generalize b.lines[k]?.getD [] = l at *
      have hm : l.length ≤ 9223372036854775807 := by omega
      generalize hml : l.length = m at *
      have HL := Lib.hid (And.intro hml (And.intro x2 y2))
      have HC := Lib.hid (And.intro x1' y1')
      clear hca hcb x1 y1 hci hdi x2 y2 EW hln hml
      obtain ⟨wo, rfl⟩ : ∃ wo : World, wo = wr := ⟨_, rfl⟩
      go_wp2_with fail
      go_quiet (fail)
      have E1q : Ext wo (wo.drewN nq) := below_drewN (Ext.refl wo) nq
      have HEq := Lib.hid E1q
      have HR := Lib.hid (And.intro r0 s0)
      clear E1q r0 s0 x1' y1'
      go_wp2_with fail
      go_loopw [6] (fun s wr => ∃ j : Nat, j ≤ m ∧ s = .int .i64 j ∧ Ext wo wr) (fun s _ => m - (intOf s).toNat)
      case atStart => exact ⟨0, Nat.zero_le _, rfl, HEq.out⟩
      case round =>
        obtain ⟨j, hj, rfl, EV⟩ := hrel
        have r0 := ext_gq EV (lt_of_cell HR.out.1) HR.out.1
        have s0 := ext_gq EV (lt_of_cell HR.out.2) HR.out.2
        have x1' := ext_gq EV (lt_of_cell HC.out.1) HC.out.1
        have y1' := ext_gq EV (lt_of_cell HC.out.2) HC.out.2
        have HEV := Lib.hid EV
        by_cases hlt2 : j < m
        · have hltz2 : (j : Int) < (m : Int) := by omega
          obtain ⟨hml, x2, y2⟩ := HL.out
          rcases x2 with e | ⟨ga, pa, rfl, hga, hcc⟩
          · rw [e] at hml; simp at hml; omega
          rcases y2 with e | ⟨gb, pb, rfl, hgb, hcd⟩
          · rw [e] at hml; simp at hml; omega
          have u1 := ((X.out.comp EV).cell (p := ⟨ga, pa + j, none⟩) hga).trans (hcc j (by omega))
          have u2 := ((X.out.comp EV).cell (p := ⟨gb, pb + j, none⟩) hgb).trans (hcd j (by omega))
          generalize l[j]?.getD false = bt at *
          have hbt : (bt != bt) = false := by simp
          clear hcc hcd EV hml
          go_wp2_with fail
          go_quiet (fail)
          clear r0 s0 x1' y1' u1 u2
          have E3 := HEV.out.comp (below_drewN (Ext.refl _) nq)
          go_wp2_with fail
          go_roundw
          case rel => exact ⟨j + 1, by omega, by simp, E3⟩
          case measure => simp [intOf]; omega
        · obtain rfl : j = m := by omega
          have hltz2 : ¬ (j : Int) < (j : Int) := by omega
          clear EV
          go_wp2_with fail
          go_roundw
          case rel => exact ⟨k + 1, by omega, by simp, HEW.out.comp HEV.out⟩
          case measure => simp [intOf]; omega
    · obtain rfl : k = n := by omega
      have hltz : ¬ (k : Int) < (k : Int) := by omega
      clear EW
      go_wp2_with fail
      go_ret
      exact ⟨rfl, X.out⟩
end Go.Proofs.Ytjfggepgjpdebaa

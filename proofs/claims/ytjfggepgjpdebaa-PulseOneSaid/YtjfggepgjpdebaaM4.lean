import Derived.Test.YtjfggepgjpdebaaM3
import Derived.Test.YtjfggepgjpdebaaM2
set_option linter.unusedVariables false
set_option linter.unusedSimpArgs false
/- Contracts: pulse's fresh, open. -/
namespace Go.Proofs.Ytjfggepgjpdebaa
open Go.RowKit Go.Q
/-- a state of pulse as a value -/
abbrev psv (a1 a2 a3 : Option Addr) (n1 c1 n2 c2 n3 c3 : Nat) (s : Pu) : Value :=
  .agg #[.slice a1 n1 c1, .slice a2 n2 c2, .int .i64 s.taken, .slice a3 n3 c3, .int .i64 s.clock, .int .i64 s.at_, .int .i64 s.phase, .int .i64 s.order, .int .i64 s.operand, .int .i64 s.other, .int .i64 s.product, .int .i64 s.count, .int .i64 s.done, .int .i64 s.why]
def PuAt (w : World) (v : Value) (s : Pu) : Prop := ∃ a1 a2 a3 c1 c2 c3, v = psv a1 a2 a3 s.store.length c1 s.tape.length c2 s.printed.length c3 s ∧ IntsAt w a1 s.store ∧ IntsAt w a2 s.tape ∧ IntsAt w a3 s.printed
theorem PuAt.ext {w w' : World} {v : Value} {s : Pu} (h : PuAt w v s) (e : Ext w w') : PuAt w' v s := by
  obtain ⟨a1, a2, a3, c1, c2, c3, hv, i1, i2, i3⟩ := h
  exact ⟨a1, a2, a3, c1, c2, c3, hv, i1.ext e, i2.ext e, i3.ext e⟩
def PuBd (s : Pu) : Prop := s.store.length ≤ 9223372036854775807 ∧ s.tape.length ≤ 9223372036854775807 ∧ s.printed.length ≤ 9223372036854775807
set_option maxHeartbeats 1000000 in
theorem fresh_any (a : Option Addr) (n c : Nat) (xs : List Int) (w : World) (hn : xs.length = n) (hbig : n ≤ 17592186044416) (hI : IntsAt w a xs) :
    Calls Try.prog 84 #[.slice a n c] w (OwnRes n xs w) := by
  obtain ⟨i0, hi, hz0, hz1, hz2⟩ := info_parts Try.infoE
  have hf := from_ints hI
  clear hI
  go_enter Try.func84, Try.ntmps84
  go_wp2_with (at_builtin; refine wpList_app (w0 := w) rfl _ _ 22 rfl 3 i0 (.int .i64 0) 1 8 Try.underlying22 hi hz0 hz1 hz2 rfl (by decide) (.slice none 0 0) 0 w.heap.size [] rfl (World.ownsRow_nil w _ _ _) (Ext.refl w) (Nat.le_refl _) (Nat.le_refl _) a n c (iv xs) rfl (by rw [iv_length]; omega) hf (iv_one xs) (by unfold maxLen; omega) (by omega) ?_; intro a' c' w1 hown hE hgrow)
  rw [Nat.zero_add, List.nil_append] at hown
  clear hf hgrow
  go_wp2
  go_ret
  exact ⟨a', c', rfl, hown, hE⟩
/-- the control's own block is laid -/
theorem Parts.ctl {w : World} {nb B g1 c1 : Nat} {tv pv : Value} {s : Pu} (h : Parts w nb B g1 c1 tv pv (base4 s)) (hnb : nb ≤ w.heap.size) (o : Ord) :
    Ctl (w.alloc (.cells (pcells g1 c1 tv pv s o) 100)) nb w.heap.size g1 c1 tv pv s o := by
  have e : Ext w (w.alloc (.cells (pcells g1 c1 tv pv s o) 100)) := (Ext.refl w).alloc _
  obtain ⟨cur, hg, ht⟩ := h.st
  have lg := lt_of_block hg
  refine ⟨⟨hnb, h.low.1, by omega⟩, by show (w.heap.push _)[w.heap.size]? = _; simp, ⟨cur, (e.block g1 lg).trans hg, ht⟩, h.len, ?_, own_later h.prow (fun b hb => e.block b (own_lt h.prow hb)), fun hb => by have := own_lt h.prow hb; omega, h.pg⟩
  obtain ⟨a2, c2, hv, ht⟩ := h.tp
  refine ⟨a2, c2, hv, ?_⟩
  rcases ht with ht | ⟨b, off, ha, ⟨cu, hcu⟩, h1, h2, h3, hc⟩
  · exact .inl ht
  · have hlt := lt_of_block hcu
    exact .inr ⟨b, off, ha, ⟨cu, (e.block b hlt).trans hcu⟩, by omega, h2, h3, fun i hi => (e.cell (p := ⟨b, off + i, none⟩) hlt).trans (hc i hi)⟩
/-- open has made a control -/
def POpen (s : Pu) (w : World) (e : Ending) (w' : World) : Prop :=
  ∃ m g1 c1 tv pv, e = .returned (.pointer (some ⟨m, 0, none⟩)) ∧ Ctl w' w.heap.size m g1 c1 tv pv s (ordP s) ∧ Ext w w'
/-- the copy of the state, with slices of the call's own -/
def PBox (s : Pu) (w : World) (wx : World) : Prop :=
  ∃ g1 cs tv pv, wx.heap[w.heap.size]? = some (.cells #[.slice (some ⟨g1, 0, none⟩) 128 cs, tv, .int .i64 s.taken, pv, .int .i64 s.clock, .int .i64 s.at_, .int .i64 s.phase, .int .i64 s.order, .int .i64 s.operand, .int .i64 s.other, .int .i64 s.product, .int .i64 s.count, .int .i64 s.done, .int .i64 s.why] 41 (0, 0)) ∧
    Parts wx w.heap.size w.heap.size g1 cs tv pv (base4 s) ∧ Ext w wx
theorem pbox_res {w W0 ws wt wp W : World} {a1 a2 a3 as_ at_ ap : Option Addr} {c1 c2 c3 cs ct cp ns nt np n2 n3 : Nat} {s : Pu}
    (E0 : Ext (w.alloc (.cells #[.slice a1 128 c1, .slice a2 n2 c2, .int .i64 s.taken, .slice a3 n3 c3, .int .i64 s.clock, .int .i64 s.at_, .int .i64 s.phase, .int .i64 s.order, .int .i64 s.operand, .int .i64 s.other, .int .i64 s.product, .int .i64 s.count, .int .i64 s.done, .int .i64 s.why] 41)) W0)
    (hs : ws.ownsRow ns 3 1 (.slice as_ 128 cs) 128 (iv s.store)) (ht : wt.ownsRow nt 3 1 (.slice at_ n2 ct) n2 (iv s.tape)) (hp : wp.ownsRow np 3 1 (.slice ap n3 cp) n3 (iv s.printed))
    (hl : s.store.length = 128 ∧ s.tape.length = n2 ∧ s.printed.length = n3) (EW : Ext W0 W)
    (es : Ext ws W) (et : Ext wt W) (ep : Ext wp W) (ls : w.heap.size < ns) (lt : w.heap.size < nt) (lp : w.heap.size < np)
    (d1 : ws.heap.size ≤ nt ∨ wt.heap.size ≤ ns) (d2 : ws.heap.size ≤ np ∨ wp.heap.size ≤ ns) (d3 : wt.heap.size ≤ np ∨ wp.heap.size ≤ nt) :
    PBox s w (((W.setCell ⟨w.heap.size, 0, none⟩ (.slice as_ 128 cs)).setCell ⟨w.heap.size, 1, none⟩ (.slice at_ n2 ct)).setCell ⟨w.heap.size, 3, none⟩ (.slice ap n3 cp)) := by
  obtain ⟨hl1, rfl, rfl⟩ := hl
  obtain ⟨g1, rfl, hP⟩ := parts_of (s := base4 s) (nb := w.heap.size) (B := w.heap.size) hs ht hp es et ep ⟨ls, by omega⟩ ⟨lt, by omega⟩ ⟨lp, by omega⟩ hl1 d1 d2 d3
  have hB : W.heap[w.heap.size]? = _ := ((E0.comp EW).block w.heap.size (by simp)).trans (show (w.heap.push _)[w.heap.size]? = _ by simp; rfl)
  refine ⟨g1, cs, _, _, cells_set (cells_set (cells_set hB 0 _) 1 _) 3 _, ((hP.set 0 _).set 1 _).set 3 _, ?_⟩
  exact (((E0.old.comp EW).setCell (p := ⟨w.heap.size, 0, none⟩) (Nat.le_refl _) _).setCell (p := ⟨w.heap.size, 1, none⟩) (Nat.le_refl _) _).setCell (p := ⟨w.heap.size, 3, none⟩) (Nat.le_refl _) _
set_option maxHeartbeats 4000000 in
set_option maxRecDepth 100000 in
theorem popen_ok (a1 a2 a3 : Option Addr) (n2 n3 c1 c2 c3 : Nat) (s : Pu) (w : World) (l1 : s.store.length = 128) (l2 : s.tape.length = n2) (l3 : s.printed.length = n3) (b2 : n2 ≤ 200) (b3 : n3 ≤ 200)
    (i1 : IntsAt w a1 s.store) (i2 : IntsAt w a2 s.tape) (i3 : IntsAt w a3 s.printed) (ho : 0 ≤ s.order ∧ s.order ≤ 16777215) :
    Calls Try.prog 65 #[psv a1 a2 a3 128 c1 n2 c2 n3 c3 s] w (POpen s w) := by
  have hcs' := fun W (E : Ext w W) => fresh_any a1 128 c1 s.store W l1 (by decide) (i1.ext E)
  have hct' := fun W (E : Ext w W) => fresh_any a2 n2 c2 s.tape W l2 (by omega) (i2.ext E)
  have hcp' := fun W (E : Ext w W) => fresh_any a3 n3 c3 s.printed W l3 (by omega) (i3.ext E)
  have Hl := Lib.hid (And.intro l1 (And.intro l2 l3))
  have hd := fun W => decodeE_any s.order W
  have hdq : decQ s.order = (ordP s, 0) := by unfold decQ; rw [if_pos (by simp only [wordB, inB, Bool.and_eq_true, decide_eq_true_eq]; exact ho)]; rfl
  rw [hdq] at hd
  unfold ovE at hd
  clear i1 i2 i3 l1 l2 l3 hdq
  go_enter Try.func65, Try.ntmps65
  obtain ⟨W0, hW0⟩ : ∃ W0 : World, W0 = w.alloc (.cells #[.slice a1 128 c1, .slice a2 n2 c2, .int .i64 s.taken, .slice a3 n3 c3, .int .i64 s.clock, .int .i64 s.at_, .int .i64 s.phase, .int .i64 s.order, .int .i64 s.operand, .int .i64 s.other, .int .i64 s.product, .int .i64 s.count, .int .i64 s.done, .int .i64 s.why] 41) := ⟨_, rfl⟩
  have E0 : Ext (w.alloc (.cells #[.slice a1 128 c1, .slice a2 n2 c2, .int .i64 s.taken, .slice a3 n3 c3, .int .i64 s.clock, .int .i64 s.at_, .int .i64 s.phase, .int .i64 s.order, .int .i64 s.operand, .int .i64 s.other, .int .i64 s.product, .int .i64 s.count, .int .i64 s.done, .int .i64 s.why] 41)) W0 := by rw [hW0]; exact Ext.refl _
  have hcs := fun W (E : Ext W0 W) => hcs' W (E0.old.comp E)
  have hct := fun W (E : Ext W0 W) => hct' W (E0.old.comp E)
  have hcp := fun W (E : Ext W0 W) => hcp' W (E0.old.comp E)
  clear hcs' hct' hcp'
  go_upto_region 1 with fail
  rw [← hW0]
  clear hW0
  have p0 := box_at (v := .slice a1 128 c1) E0 0 rfl
  have p1 := box_at (v := .slice a2 n2 c2) E0 1 rfl
  have p3 := box_at (v := .slice a3 n3 c3) E0 3 rfl
  have z0 : w.heap.size < W0.heap.size := by have := E0.size; simp at this; omega
  go_cut [] (fun wx => PBox s w wx)
  case first =>
    go_region_law (first | (go_simp; go_at_call_of 84 (Value.slice a1 128 c1); refine (hcs _ (by first | exact EBt | exact EBp | exact (Ext.refl W0).drew)).mono ?_; rintro e ws ⟨aas, ccs, rfl, hos, hbs⟩; have EBs : Ext W0 ws := (by first | exact Ext.comp EBt hbs | exact Ext.comp EBp hbs | exact Ext.comp (Ext.refl W0).drew hbs); have sc0 := box_at (v := .slice a1 128 c1) (E0.comp EBs) 0 rfl; have sf0 := box_free (E0.comp EBs) 0; have sc1 := box_at (v := .slice a2 n2 c2) (E0.comp EBs) 1 rfl; have sf1 := box_free (E0.comp EBs) 1; have sc3 := box_at (v := .slice a3 n3 c3) (E0.comp EBs) 3 rfl; have sf3 := box_free (E0.comp EBs) 3) | (go_simp; go_at_call_of 84 (Value.slice a2 n2 c2); refine (hct _ (by first | exact EBs | exact EBp | exact (Ext.refl W0).drew)).mono ?_; rintro e wt ⟨aat, cct, rfl, hot, hbt⟩; have EBt : Ext W0 wt := (by first | exact Ext.comp EBs hbt | exact Ext.comp EBp hbt | exact Ext.comp (Ext.refl W0).drew hbt); have tc0 := box_at (v := .slice a1 128 c1) (E0.comp EBt) 0 rfl; have tf0 := box_free (E0.comp EBt) 0; have tc1 := box_at (v := .slice a2 n2 c2) (E0.comp EBt) 1 rfl; have tf1 := box_free (E0.comp EBt) 1; have tc3 := box_at (v := .slice a3 n3 c3) (E0.comp EBt) 3 rfl; have tf3 := box_free (E0.comp EBt) 3) | (go_simp; go_at_call_of 84 (Value.slice a3 n3 c3); refine (hcp _ (by first | exact EBs | exact EBt | exact (Ext.refl W0).drew)).mono ?_; rintro e wp ⟨aap, ccp, rfl, hop, hbp⟩; have EBp : Ext W0 wp := (by first | exact Ext.comp EBs hbp | exact Ext.comp EBt hbp | exact Ext.comp (Ext.refl W0).drew hbp); have pc0 := box_at (v := .slice a1 128 c1) (E0.comp EBp) 0 rfl; have pf0 := box_free (E0.comp EBp) 0; have pc1 := box_at (v := .slice a2 n2 c2) (E0.comp EBp) 1 rfl; have pf1 := box_free (E0.comp EBp) 1; have pc3 := box_at (v := .slice a3 n3 c3) (E0.comp EBp) 3 rfl; have pf3 := box_free (E0.comp EBp) 3))
    all_goals
      go_wp2_with fail
      go_meet
      exact pbox_res E0 hos hot hop Hl.out (by first | exact EBs | exact EBt | exact EBp) (by first | exact Ext.refl _ | exact hbs | exact hbt | exact hbp | exact hbs.comp hbt | exact hbs.comp hbp | exact hbt.comp hbs | exact hbt.comp hbp | exact hbp.comp hbs | exact hbp.comp hbt) (by first | exact Ext.refl _ | exact hbs | exact hbt | exact hbp | exact hbs.comp hbt | exact hbs.comp hbp | exact hbt.comp hbs | exact hbt.comp hbp | exact hbp.comp hbs | exact hbp.comp hbt) (by first | exact Ext.refl _ | exact hbs | exact hbt | exact hbp | exact hbs.comp hbt | exact hbs.comp hbp | exact hbt.comp hbs | exact hbt.comp hbp | exact hbp.comp hbs | exact hbp.comp hbt) (by first | exact z0 | exact Nat.lt_of_lt_of_le z0 EBs.size | exact Nat.lt_of_lt_of_le z0 EBt.size | exact Nat.lt_of_lt_of_le z0 EBp.size) (by first | exact z0 | exact Nat.lt_of_lt_of_le z0 EBs.size | exact Nat.lt_of_lt_of_le z0 EBt.size | exact Nat.lt_of_lt_of_le z0 EBp.size) (by first | exact z0 | exact Nat.lt_of_lt_of_le z0 EBs.size | exact Nat.lt_of_lt_of_le z0 EBt.size | exact Nat.lt_of_lt_of_le z0 EBp.size) (by first | exact .inl (Nat.le_refl _) | exact .inr (Nat.le_refl _) | exact .inl hbs.size | exact .inl hbt.size | exact .inl hbp.size | exact .inr hbs.size | exact .inr hbt.size | exact .inr hbp.size) (by first | exact .inl (Nat.le_refl _) | exact .inr (Nat.le_refl _) | exact .inl hbs.size | exact .inl hbt.size | exact .inl hbp.size | exact .inr hbs.size | exact .inr hbt.size | exact .inr hbp.size) (by first | exact .inl (Nat.le_refl _) | exact .inr (Nat.le_refl _) | exact .inl hbs.size | exact .inl hbt.size | exact .inl hbp.size | exact .inr hbs.size | exact .inr hbt.size | exact .inr hbp.size)
  case rest =>
    obtain ⟨g1, cs, tv, pv, hB, hP, hE⟩ := hcut
    have k0 := cell_of_cells hB 0 (v := .slice (some ⟨g1, 0, none⟩) 128 cs) rfl
    have k1 := cell_of_cells hB 1 (v := tv) rfl
    have k3 := cell_of_cells hB 3 (v := pv) rfl
    have k2 := cell_of_cells hB 2 (v := .int .i64 s.taken) rfl
    have k4 := cell_of_cells hB 4 (v := .int .i64 s.clock) rfl
    have k5 := cell_of_cells hB 5 (v := .int .i64 s.at_) rfl
    have k6 := cell_of_cells hB 6 (v := .int .i64 s.phase) rfl
    have k7 := cell_of_cells hB 7 (v := .int .i64 s.order) rfl
    have k8 := cell_of_cells hB 8 (v := .int .i64 s.operand) rfl
    have k9 := cell_of_cells hB 9 (v := .int .i64 s.other) rfl
    have k10 := cell_of_cells hB 10 (v := .int .i64 s.product) rfl
    have k11 := cell_of_cells hB 11 (v := .int .i64 s.count) rfl
    have k12 := cell_of_cells hB 12 (v := .int .i64 s.done) rfl
    have k13 := cell_of_cells hB 13 (v := .int .i64 s.why) rfl
    have hM := hP.ctl hE.size ⟨0, 0, 0, 0⟩
    have hE2 : Ext w _ := hE.alloc (.cells (pcells g1 cs tv pv s ⟨0, 0, 0, 0⟩) 100)
    have HM := Lib.hid hM
    have hBw := lt_of_block hB
    have H7 := Lib.hid hB
    clear hM hB hP
    obtain ⟨at2, ct2, rfl⟩ : ∃ a c, tv = .slice a s.tape.length c := by
      obtain ⟨a, c, h, _⟩ := HM.out.tp
      exact ⟨a, c, h⟩
    obtain ⟨ap2, cp2, rfl⟩ : ∃ a c, pv = .slice a s.printed.length c := own_form HM.out.prow
    go_wp2_with fail
    refine (hd _).mono ?_
    rintro e w2 ⟨rfl, E2⟩
    have M2 := HM.out.ext E2
    have r14 := M2.c 14 (v := .int .i64 0) rfl
    have r15 := M2.c 15 (v := .int .i64 0) rfl
    have r16 := M2.c 16 (v := .int .i64 0) rfl
    have r17 := M2.c 17 (v := .int .i64 0) rfl
    have g14 := M2.f 14
    have g15 := M2.f 15
    have g16 := M2.f 16
    have g17 := M2.f 17
    have HM2 := Lib.hid (Ctl.setOrd M2 (ordP s))
    have HE2 := Lib.hid (hE2.comp E2)
    have hnw : w.heap.size ≤ wc.heap.size := hE.size
    clear M2 hE2 E2 hE
    go_wp2_with fail
    go_ret
    refine ⟨_, _, _, _, _, rfl, HM2.out, ?_⟩
    exact (((HE2.out.setCell (p := ⟨wc.heap.size, 14, none⟩) hnw _).setCell (p := ⟨wc.heap.size, 15, none⟩) hnw _).setCell (p := ⟨wc.heap.size, 16, none⟩) hnw _).setCell (p := ⟨wc.heap.size, 17, none⟩) hnw _
end Go.Proofs.Ytjfggepgjpdebaa
/- Contracts: pulse's out, works, fits. -/
namespace Go.Proofs.Ytjfggepgjpdebaa
open Go.RowKit Go.Q
variable {nb m g1 c1 : Nat} {tv pv : Value} {s : Pu}
set_option maxHeartbeats 400000 in
theorem pout_any (n lo hi : Int) (w : World) : Calls Try.prog 64 #[.int .i64 n, .int .i64 lo, .int .i64 hi] w fun e w' => e = .returned (.bool (!inB n lo hi)) ∧ w = w' := by
  by_cases h0 : lo ≤ n <;> by_cases h1 : n ≤ hi
  all_goals
    go_enter Try.func64, Try.ntmps64
    go_wp2
    go_ret
    exact ⟨ret_bool (by rw [Bool.eq_iff_iff]; simp [inB] <;> omega), rfl⟩
set_option maxHeartbeats 400000 in
theorem works_any (n : Int) (w : World) : Calls Try.prog 112 #[.int .i64 n] w fun e w' => e = .returned (.bool (worksB n)) ∧ w = w' := by
  have e : worksB n = !!inB n 1 4 := by unfold worksB; simp
  rw [e]
  generalize hb : inB n 1 4 = b
  have h := pout_any n 1 4 w
  rw [hb] at h
  clear hb e
  go_enter Try.func112, Try.ntmps112
  go_wp2_with (go_at_call 64; refine h.mono ?_; rintro e w' ⟨rfl, rfl⟩)
  go_ret
  exact ⟨ret_bool (by cases b <;> rfl), rfl⟩
set_option maxRecDepth 100000 in
set_option maxHeartbeats 8000000 in
theorem pfits_any (w : World) (h : Ctl w nb m g1 c1 tv pv s (ordP s)) (hp : 0 ≤ s.phase ∧ s.phase ≤ 4) (hpl : s.printed.length ≤ 200) (htl : s.tape.length ≤ 200) (htk : 0 ≤ s.taken) :
    Calls Try.prog 80 #[.pointer (some ⟨m, 0, none⟩)] w fun e w' => e = .returned (.bool (fitsB s)) ∧ ∃ n, w' = w.drewN n := by
  have hwk := fun W => works_any (ordP s).op W
  have hwk2 : ∀ W, Calls Try.prog 112 #[.int .i64 (ordP s).op] W fun e w' => e = .returned (.bool (worksB (ordP s).op)) ∧ w' = W := fun W => (works_any (ordP s).op W).mono fun e w' h => ⟨h.1, h.2.symm⟩
  obtain ⟨at_, ct, htv, _⟩ := h.tape
  obtain ⟨ap, cp, hpv⟩ := h.paper
  subst htv
  subst hpv
  have q1 := h.c 1 (v := .slice at_ s.tape.length ct) rfl
  have q2 := h.c 2 (v := .int .i64 s.taken) rfl
  have q3 := h.c 3 (v := .slice ap s.printed.length cp) rfl
  have q6 := h.c 6 (v := .int .i64 s.phase) rfl
  have q14 := h.c 14 (v := .int .i64 (ordP s).op) rfl
  have e : fitsB s = if s.phase = 1 then worksB (ordP s).op || decide ((ordP s).op = 5) || (decide ((ordP s).op = 7) && decide (s.printed.length < 200))
    else if s.phase = 2 then worksB (ordP s).op || (decide ((ordP s).op = 6) && decide (s.taken < s.tape.length))
    else if s.phase = 3 ∨ s.phase = 4 then decide ((ordP s).op = 4) else true := rfl
  rw [e]
  have hc : s.phase = 0 ∨ s.phase = 1 ∨ s.phase = 2 ∨ s.phase = 3 ∨ s.phase = 4 := by omega
  clear h e hp
  generalize s.phase = ph at *
  generalize (ordP s).op = op at *
  generalize s.taken = tk at *
  generalize s.tape.length = tl at *
  generalize s.printed.length = pl at *
  rcases hc with rfl | rfl | rfl | rfl | rfl
  · rw [if_neg (by decide), if_neg (by decide), if_neg (by decide)]
    clear hwk2
    go_enter Try.func80, Try.ntmps80
    go_wp2_with (go_at_call 112; refine (hwk _).mono ?_; rintro e w' ⟨rfl, rfl⟩)
    go_ret
    exact ⟨by first | rfl | simp, 0, rfl⟩
  · rw [if_pos rfl]
    clear hwk2
    cases hw : worksB op with
    | true =>
      rw [hw] at hwk
      clear hw
      go_enter Try.func80, Try.ntmps80
      go_wp2_with (go_at_call 112; refine (hwk _).mono ?_; rintro e w' ⟨rfl, rfl⟩)
      go_ret
      exact ⟨by first | rfl | simp, 0, rfl⟩
    | false =>
      rw [hw] at hwk
      clear hw
      by_cases h5 : op = 5
      · subst h5
        go_enter Try.func80, Try.ntmps80
        go_wp2_with (go_at_call 112; refine (hwk _).mono ?_; rintro e w' ⟨rfl, rfl⟩)
        go_ret
        exact ⟨by first | rfl | simp, 0, rfl⟩
      · have b5 : (op == 5) = false := by simpa using h5
        have d5 : decide (op = 5) = false := by simpa using h5
        rw [d5]
        clear h5 d5
        by_cases h7 : op = 7
        · subst h7
          by_cases hl : pl < 200
          · have bl : decide ((pl : Int) < 200) = true := by simpa using (by omega : (pl : Int) < 200)
            have dl : decide (pl < 200) = true := by simpa using hl
            rw [dl]
            clear hl dl
            go_enter Try.func80, Try.ntmps80
            go_wp2_with (go_at_call 112; refine (hwk _).mono ?_; rintro e w' ⟨rfl, rfl⟩)
            go_ret
            exact ⟨by first | rfl | simp, 0, rfl⟩
          · have bl : decide ((pl : Int) < 200) = false := by simpa using (by omega : ¬ (pl : Int) < 200)
            have dl : decide (pl < 200) = false := by simpa using hl
            rw [dl]
            clear hl dl
            go_enter Try.func80, Try.ntmps80
            go_wp2_with (go_at_call 112; refine (hwk _).mono ?_; rintro e w' ⟨rfl, rfl⟩)
            go_ret
            exact ⟨by first | rfl | simp, 0, rfl⟩
        · have b7 : (op == 7) = false := by simpa using h7
          have d7 : decide (op = 7) = false := by simpa using h7
          rw [d7]
          clear h7 d7
          go_enter Try.func80, Try.ntmps80
          go_wp2_with (go_at_call 112; refine (hwk _).mono ?_; rintro e w' ⟨rfl, rfl⟩)
          go_ret
          exact ⟨by first | rfl | simp, 0, rfl⟩
  · rw [if_neg (by decide), if_pos rfl]
    clear hwk
    cases hw : worksB op with
    | true =>
      rw [hw] at hwk2
      clear hw
      go_enter Try.func80, Try.ntmps80
      go_wp2_with fail
      go_quiet ((go_at_call 112; exact Calls.quiet_of_same (hwk2 _)))
      go_wp2_with fail
      go_ret
      exact ⟨by first | rfl | simp, _, rfl⟩
    | false =>
      rw [hw] at hwk2
      clear hw
      by_cases h6 : op = 6
      · subst h6
        by_cases hl : tk < tl
        · have bl : decide (tk < (tl : Int)) = true := by simpa using hl
          rw [bl]
          clear hl
          go_enter Try.func80, Try.ntmps80
          go_wp2_with fail
          go_quiet ((go_at_call 112; exact Calls.quiet_of_same (hwk2 _)))
          go_wp2_with fail
          go_ret
          exact ⟨by first | rfl | simp, _, rfl⟩
        · have bl : decide (tk < (tl : Int)) = false := by simpa using hl
          rw [bl]
          clear hl
          go_enter Try.func80, Try.ntmps80
          go_wp2_with fail
          go_quiet ((go_at_call 112; exact Calls.quiet_of_same (hwk2 _)))
          go_wp2_with fail
          go_ret
          exact ⟨by first | rfl | simp, _, rfl⟩
      · have b6 : (op == 6) = false := by simpa using h6
        have d6 : decide (op = 6) = false := by simpa using h6
        rw [d6]
        clear h6 d6
        go_enter Try.func80, Try.ntmps80
        go_wp2_with fail
        go_quiet ((go_at_call 112; exact Calls.quiet_of_same (hwk2 _)))
        go_wp2_with fail
        go_ret
        exact ⟨by first | rfl | simp, _, rfl⟩
  · rw [if_neg (by decide), if_neg (by decide), if_pos (.inl rfl)]
    clear hwk2
    by_cases h4 : op = 4
    · subst h4
      go_enter Try.func80, Try.ntmps80
      go_wp2_with (go_at_call 112; refine (hwk _).mono ?_; rintro e w' ⟨rfl, rfl⟩)
      go_ret
      exact ⟨by first | rfl | simp, 0, rfl⟩
    · have b4 : (op == 4) = false := by simpa using h4
      have d4 : decide (op = 4) = false := by simpa using h4
      rw [d4]
      clear h4 d4
      go_enter Try.func80, Try.ntmps80
      go_wp2_with (go_at_call 112; refine (hwk _).mono ?_; rintro e w' ⟨rfl, rfl⟩)
      go_ret
      exact ⟨by first | rfl | simp, 0, rfl⟩
  · rw [if_neg (by decide), if_neg (by decide), if_pos (.inr rfl)]
    clear hwk2
    by_cases h4 : op = 4
    · subst h4
      go_enter Try.func80, Try.ntmps80
      go_wp2_with (go_at_call 112; refine (hwk _).mono ?_; rintro e w' ⟨rfl, rfl⟩)
      go_ret
      exact ⟨by first | rfl | simp, 0, rfl⟩
    · have b4 : (op == 4) = false := by simpa using h4
      have d4 : decide (op = 4) = false := by simpa using h4
      rw [d4]
      clear h4 d4
      go_enter Try.func80, Try.ntmps80
      go_wp2_with (go_at_call 112; refine (hwk _).mono ?_; rintro e w' ⟨rfl, rfl⟩)
      go_ret
      exact ⟨by first | rfl | simp, 0, rfl⟩
end Go.Proofs.Ytjfggepgjpdebaa
/- Contract: pulse.Check. -/
namespace Go.Q
theorem inB_mk {n lo hi : Int} (h0 : lo ≤ n) (h1 : n ≤ hi) : inB n lo hi = true := by simp only [inB, Bool.and_eq_true, decide_eq_true_eq]; exact ⟨h0, h1⟩
theorem inB_no {n lo hi : Int} (h : inB n lo hi = false) : ¬ (lo ≤ n ∧ n ≤ hi) := fun c => by rw [inB_mk c.1 c.2] at h; cases h
theorem base_err (s : Pu) : (checkQ (base4 s)).2.2 = 0 → s.store.length = 128 ∧ s.tape.length ≤ 200 ∧ s.printed.length ≤ 200 := fun h => by
  have V := valid_of_check (s := base4 s) h
  exact ⟨V.len, V.tlen, V.plen⟩
end Go.Q
namespace Go.Proofs.Ytjfggepgjpdebaa
open Go.RowKit Go.Q
variable {s : Pu}
theorem pcheck_pre (a1 a2 a3 : Option Addr) (n1 n2 n3 c1 c2 c3 : Nat) (s : Pu) (w : World) (l1 : s.store.length = n1) (l2 : s.tape.length = n2) (l3 : s.printed.length = n3) (hb : PuBd s)
    (i1 : IntsAt w a1 s.store) (i2 : IntsAt w a2 s.tape) (i3 : IntsAt w a3 s.printed) : ∀ W, Ext w W →
    Calls Try.prog 79 #[sv a1 a2 a3 n1 c1 n2 c2 n3 c3 0 0 0 0 0] W fun e w' => e = .returned (v3 (checkQ (base4 s))) ∧ Ext W w' := fun W E =>
  check_any _ (base4 s) W ⟨a1, a2, a3, c1, c2, c3, by rw [← l1, ← l2, ← l3]; rfl, i1.ext E, i2.ext E, i3.ext E⟩ hb
set_option maxRecDepth 100000 in
set_option maxHeartbeats 4000000 in
theorem pcheck_bad (a1 a2 a3 : Option Addr) (n1 n2 n3 c1 c2 c3 : Nat) (s : Pu) (w : World) (l1 : s.store.length = n1) (l2 : s.tape.length = n2) (l3 : s.printed.length = n3) (hb : PuBd s)
    (i1 : IntsAt w a1 s.store) (i2 : IntsAt w a2 s.tape) (i3 : IntsAt w a3 s.printed) (hz : (checkQ (base4 s)).2.2 ≠ 0) :
    Calls Try.prog 45 #[psv a1 a2 a3 n1 c1 n2 c2 n3 c3 s] w fun e w' => e = .returned (v3 (checkP s)) ∧ Ext w w' := by
  have hc := pcheck_pre a1 a2 a3 n1 n2 n3 c1 c2 c3 s w l1 l2 l3 hb i1 i2 i3
  have e : checkP s = checkQ (base4 s) := by unfold checkP; rw [if_pos hz]
  rw [e]
  clear l1 l2 l3 hb i1 i2 i3 e
  generalize checkQ (base4 s) = p at *
  obtain ⟨p, i, e⟩ := p
  have hz' : (e != 0) = true := by simpa using hz
  unfold v3 at hc
  clear hz
  go_enter Try.func45, Try.ntmps45
  go_wp2_with fail
  refine (hc _ (by repeat (first | with_reducible exact Ext.refl _ | with_reducible refine Ext.alloc ?_ _ | with_reducible refine Below.drew ?_))).mono ?_
  rintro e w1 ⟨rfl, E1⟩
  go_wp2_with fail
  go_ret3
  exact ⟨rfl, E1.old⟩
theorem pout_dec (n lo hi : Int) (w : World) : Calls Try.prog 64 #[.int .i64 n, .int .i64 lo, .int .i64 hi] w fun e w' => e = .returned (.bool (decide (n < lo) || decide (hi < n))) ∧ w = w' :=
  (pout_any n lo hi w).mono fun e w' ⟨he, hw⟩ => ⟨by rw [he]; exact ret_bool (by rw [Bool.eq_iff_iff]; simp [inB] <;> omega), hw⟩
/-- the part of Check behind the lists -/
structure PMid (a1 a2 a3 : Option Addr) (n2 n3 c1 c2 c3 : Nat) (s : Pu) (w : World) : Prop where
  hc : ∀ W, Ext w W → Calls Try.prog 79 #[sv a1 a2 a3 128 c1 n2 c2 n3 c3 0 0 0 0 0] W fun e w' => e = .returned (.tuple #[.int .i64 0, .int .i64 0, .int .i64 0]) ∧ Ext W w'
  l2 : s.tape.length = n2
  l3 : s.printed.length = n3
  b2 : n2 ≤ 200
  b3 : n3 ≤ 200
set_option maxRecDepth 100000 in
set_option maxHeartbeats 4000000 in
theorem pc_a0 {a1 a2 a3 : Option Addr} {n2 n3 c1 c2 c3 : Nat} {s : Pu} {w : World} (h : PMid a1 a2 a3 n2 n3 c1 c2 c3 s w) (h0 : inB s.taken 0 s.tape.length = false) :
    Calls Try.prog 45 #[psv a1 a2 a3 128 c1 n2 c2 n3 c3 s] w fun e w' => e = .returned (v3 (5, 0, 7)) ∧ Ext w w' := by
  obtain ⟨hc, rfl, rfl, b2, b3⟩ := h
  have k0 := fun W => pout_any s.taken 0 s.tape.length W
  rw [h0] at k0
  clear h0
  go_enter Try.func45, Try.ntmps45
  go_wp2_with fail
  refine (hc _ (by repeat (first | with_reducible exact Ext.refl _ | with_reducible refine Ext.alloc ?_ _ | with_reducible refine Below.drew ?_))).mono ?_
  rintro e w1 ⟨rfl, E1⟩
  have q0 := box_at (v := .slice a1 128 c1) E1 0 rfl
  have q1 := box_at (v := .slice a2 s.tape.length c2) E1 1 rfl
  have q2 := box_at (v := .int .i64 s.taken) E1 2 rfl
  have q3 := box_at (v := .slice a3 s.printed.length c3) E1 3 rfl
  have q4 := box_at (v := .int .i64 s.clock) E1 4 rfl
  have q5 := box_at (v := .int .i64 s.at_) E1 5 rfl
  have q6 := box_at (v := .int .i64 s.phase) E1 6 rfl
  have q7 := box_at (v := .int .i64 s.order) E1 7 rfl
  have q8 := box_at (v := .int .i64 s.operand) E1 8 rfl
  have q9 := box_at (v := .int .i64 s.other) E1 9 rfl
  have q10 := box_at (v := .int .i64 s.product) E1 10 rfl
  have q11 := box_at (v := .int .i64 s.count) E1 11 rfl
  have q12 := box_at (v := .int .i64 s.done) E1 12 rfl
  have q13 := box_at (v := .int .i64 s.why) E1 13 rfl
  go_wp2_with fail
  refine (k0 _).mono ?_
  rintro e w2 ⟨rfl, rfl⟩
  go_wp2_with fail
  go_ret3
  exact ⟨rfl, E1.old⟩
set_option maxRecDepth 100000 in
set_option maxHeartbeats 4000000 in
theorem pc_a1 {a1 a2 a3 : Option Addr} {n2 n3 c1 c2 c3 : Nat} {s : Pu} {w : World} (h : PMid a1 a2 a3 n2 n3 c1 c2 c3 s w) (h0 : inB s.taken 0 s.tape.length = true) (h1 : inB s.clock 0 1000000000 = false) :
    Calls Try.prog 45 #[psv a1 a2 a3 128 c1 n2 c2 n3 c3 s] w fun e w' => e = .returned (v3 (5, 0, 7)) ∧ Ext w w' := by
  obtain ⟨hc, rfl, rfl, b2, b3⟩ := h
  have k0 := fun W => pout_any s.taken 0 s.tape.length W
  rw [h0] at k0
  have k1 := fun W => pout_any s.clock 0 1000000000 W
  rw [h1] at k1
  clear h0 h1
  go_enter Try.func45, Try.ntmps45
  go_wp2_with fail
  refine (hc _ (by repeat (first | with_reducible exact Ext.refl _ | with_reducible refine Ext.alloc ?_ _ | with_reducible refine Below.drew ?_))).mono ?_
  rintro e w1 ⟨rfl, E1⟩
  have q0 := box_at (v := .slice a1 128 c1) E1 0 rfl
  have q1 := box_at (v := .slice a2 s.tape.length c2) E1 1 rfl
  have q2 := box_at (v := .int .i64 s.taken) E1 2 rfl
  have q3 := box_at (v := .slice a3 s.printed.length c3) E1 3 rfl
  have q4 := box_at (v := .int .i64 s.clock) E1 4 rfl
  have q5 := box_at (v := .int .i64 s.at_) E1 5 rfl
  have q6 := box_at (v := .int .i64 s.phase) E1 6 rfl
  have q7 := box_at (v := .int .i64 s.order) E1 7 rfl
  have q8 := box_at (v := .int .i64 s.operand) E1 8 rfl
  have q9 := box_at (v := .int .i64 s.other) E1 9 rfl
  have q10 := box_at (v := .int .i64 s.product) E1 10 rfl
  have q11 := box_at (v := .int .i64 s.count) E1 11 rfl
  have q12 := box_at (v := .int .i64 s.done) E1 12 rfl
  have q13 := box_at (v := .int .i64 s.why) E1 13 rfl
  go_wp2_with fail
  refine (k0 _).mono ?_
  rintro e w2 ⟨rfl, rfl⟩
  go_wp2_with fail
  refine (k1 _).mono ?_
  rintro e w2 ⟨rfl, rfl⟩
  go_wp2_with fail
  go_ret3
  exact ⟨rfl, E1.old⟩
set_option maxRecDepth 100000 in
set_option maxHeartbeats 4000000 in
theorem pc_a2 {a1 a2 a3 : Option Addr} {n2 n3 c1 c2 c3 : Nat} {s : Pu} {w : World} (h : PMid a1 a2 a3 n2 n3 c1 c2 c3 s w) (h0 : inB s.taken 0 s.tape.length = true) (h1 : inB s.clock 0 1000000000 = true) (h2 : inB s.at_ 0 127 = false) :
    Calls Try.prog 45 #[psv a1 a2 a3 128 c1 n2 c2 n3 c3 s] w fun e w' => e = .returned (v3 (5, 0, 7)) ∧ Ext w w' := by
  obtain ⟨hc, rfl, rfl, b2, b3⟩ := h
  have k0 := fun W => pout_any s.taken 0 s.tape.length W
  rw [h0] at k0
  have k1 := fun W => pout_any s.clock 0 1000000000 W
  rw [h1] at k1
  have k2 := fun W => pout_any s.at_ 0 127 W
  rw [h2] at k2
  clear h0 h1 h2
  go_enter Try.func45, Try.ntmps45
  go_wp2_with fail
  refine (hc _ (by repeat (first | with_reducible exact Ext.refl _ | with_reducible refine Ext.alloc ?_ _ | with_reducible refine Below.drew ?_))).mono ?_
  rintro e w1 ⟨rfl, E1⟩
  have q0 := box_at (v := .slice a1 128 c1) E1 0 rfl
  have q1 := box_at (v := .slice a2 s.tape.length c2) E1 1 rfl
  have q2 := box_at (v := .int .i64 s.taken) E1 2 rfl
  have q3 := box_at (v := .slice a3 s.printed.length c3) E1 3 rfl
  have q4 := box_at (v := .int .i64 s.clock) E1 4 rfl
  have q5 := box_at (v := .int .i64 s.at_) E1 5 rfl
  have q6 := box_at (v := .int .i64 s.phase) E1 6 rfl
  have q7 := box_at (v := .int .i64 s.order) E1 7 rfl
  have q8 := box_at (v := .int .i64 s.operand) E1 8 rfl
  have q9 := box_at (v := .int .i64 s.other) E1 9 rfl
  have q10 := box_at (v := .int .i64 s.product) E1 10 rfl
  have q11 := box_at (v := .int .i64 s.count) E1 11 rfl
  have q12 := box_at (v := .int .i64 s.done) E1 12 rfl
  have q13 := box_at (v := .int .i64 s.why) E1 13 rfl
  go_wp2_with fail
  refine (k0 _).mono ?_
  rintro e w2 ⟨rfl, rfl⟩
  go_wp2_with fail
  refine (k1 _).mono ?_
  rintro e w2 ⟨rfl, rfl⟩
  go_wp2_with fail
  refine (k2 _).mono ?_
  rintro e w2 ⟨rfl, rfl⟩
  go_wp2_with fail
  go_ret3
  exact ⟨rfl, E1.old⟩
set_option maxRecDepth 100000 in
set_option maxHeartbeats 4000000 in
theorem pc_a3 {a1 a2 a3 : Option Addr} {n2 n3 c1 c2 c3 : Nat} {s : Pu} {w : World} (h : PMid a1 a2 a3 n2 n3 c1 c2 c3 s w) (h0 : inB s.taken 0 s.tape.length = true) (h1 : inB s.clock 0 1000000000 = true) (h2 : inB s.at_ 0 127 = true) (h3 : inB s.phase 0 4 = false) :
    Calls Try.prog 45 #[psv a1 a2 a3 128 c1 n2 c2 n3 c3 s] w fun e w' => e = .returned (v3 (5, 0, 7)) ∧ Ext w w' := by
  obtain ⟨hc, rfl, rfl, b2, b3⟩ := h
  have k0 := fun W => pout_any s.taken 0 s.tape.length W
  rw [h0] at k0
  have k1 := fun W => pout_any s.clock 0 1000000000 W
  rw [h1] at k1
  have k2 := fun W => pout_any s.at_ 0 127 W
  rw [h2] at k2
  have k3 := fun W => pout_any s.phase 0 4 W
  rw [h3] at k3
  clear h0 h1 h2 h3
  go_enter Try.func45, Try.ntmps45
  go_wp2_with fail
  refine (hc _ (by repeat (first | with_reducible exact Ext.refl _ | with_reducible refine Ext.alloc ?_ _ | with_reducible refine Below.drew ?_))).mono ?_
  rintro e w1 ⟨rfl, E1⟩
  have q0 := box_at (v := .slice a1 128 c1) E1 0 rfl
  have q1 := box_at (v := .slice a2 s.tape.length c2) E1 1 rfl
  have q2 := box_at (v := .int .i64 s.taken) E1 2 rfl
  have q3 := box_at (v := .slice a3 s.printed.length c3) E1 3 rfl
  have q4 := box_at (v := .int .i64 s.clock) E1 4 rfl
  have q5 := box_at (v := .int .i64 s.at_) E1 5 rfl
  have q6 := box_at (v := .int .i64 s.phase) E1 6 rfl
  have q7 := box_at (v := .int .i64 s.order) E1 7 rfl
  have q8 := box_at (v := .int .i64 s.operand) E1 8 rfl
  have q9 := box_at (v := .int .i64 s.other) E1 9 rfl
  have q10 := box_at (v := .int .i64 s.product) E1 10 rfl
  have q11 := box_at (v := .int .i64 s.count) E1 11 rfl
  have q12 := box_at (v := .int .i64 s.done) E1 12 rfl
  have q13 := box_at (v := .int .i64 s.why) E1 13 rfl
  go_wp2_with fail
  refine (k0 _).mono ?_
  rintro e w2 ⟨rfl, rfl⟩
  go_wp2_with fail
  refine (k1 _).mono ?_
  rintro e w2 ⟨rfl, rfl⟩
  go_wp2_with fail
  refine (k2 _).mono ?_
  rintro e w2 ⟨rfl, rfl⟩
  go_wp2_with fail
  refine (k3 _).mono ?_
  rintro e w2 ⟨rfl, rfl⟩
  go_wp2_with fail
  go_ret3
  exact ⟨rfl, E1.old⟩
set_option maxRecDepth 100000 in
set_option maxHeartbeats 4000000 in
theorem pc_a4 {a1 a2 a3 : Option Addr} {n2 n3 c1 c2 c3 : Nat} {s : Pu} {w : World} (h : PMid a1 a2 a3 n2 n3 c1 c2 c3 s w) (h0 : inB s.taken 0 s.tape.length = true) (h1 : inB s.clock 0 1000000000 = true) (h2 : inB s.at_ 0 127 = true) (h3 : inB s.phase 0 4 = true) (h4 : inB s.done 0 s.clock = false) :
    Calls Try.prog 45 #[psv a1 a2 a3 128 c1 n2 c2 n3 c3 s] w fun e w' => e = .returned (v3 (5, 0, 7)) ∧ Ext w w' := by
  obtain ⟨hc, rfl, rfl, b2, b3⟩ := h
  have k0 := fun W => pout_any s.taken 0 s.tape.length W
  rw [h0] at k0
  have k1 := fun W => pout_any s.clock 0 1000000000 W
  rw [h1] at k1
  have k2 := fun W => pout_any s.at_ 0 127 W
  rw [h2] at k2
  have k3 := fun W => pout_any s.phase 0 4 W
  rw [h3] at k3
  have k4 := fun W => pout_any s.done 0 s.clock W
  rw [h4] at k4
  clear h0 h1 h2 h3 h4
  go_enter Try.func45, Try.ntmps45
  go_wp2_with fail
  refine (hc _ (by repeat (first | with_reducible exact Ext.refl _ | with_reducible refine Ext.alloc ?_ _ | with_reducible refine Below.drew ?_))).mono ?_
  rintro e w1 ⟨rfl, E1⟩
  have q0 := box_at (v := .slice a1 128 c1) E1 0 rfl
  have q1 := box_at (v := .slice a2 s.tape.length c2) E1 1 rfl
  have q2 := box_at (v := .int .i64 s.taken) E1 2 rfl
  have q3 := box_at (v := .slice a3 s.printed.length c3) E1 3 rfl
  have q4 := box_at (v := .int .i64 s.clock) E1 4 rfl
  have q5 := box_at (v := .int .i64 s.at_) E1 5 rfl
  have q6 := box_at (v := .int .i64 s.phase) E1 6 rfl
  have q7 := box_at (v := .int .i64 s.order) E1 7 rfl
  have q8 := box_at (v := .int .i64 s.operand) E1 8 rfl
  have q9 := box_at (v := .int .i64 s.other) E1 9 rfl
  have q10 := box_at (v := .int .i64 s.product) E1 10 rfl
  have q11 := box_at (v := .int .i64 s.count) E1 11 rfl
  have q12 := box_at (v := .int .i64 s.done) E1 12 rfl
  have q13 := box_at (v := .int .i64 s.why) E1 13 rfl
  go_wp2_with fail
  refine (k0 _).mono ?_
  rintro e w2 ⟨rfl, rfl⟩
  go_wp2_with fail
  refine (k1 _).mono ?_
  rintro e w2 ⟨rfl, rfl⟩
  go_wp2_with fail
  refine (k2 _).mono ?_
  rintro e w2 ⟨rfl, rfl⟩
  go_wp2_with fail
  refine (k3 _).mono ?_
  rintro e w2 ⟨rfl, rfl⟩
  go_wp2_with fail
  refine (k4 _).mono ?_
  rintro e w2 ⟨rfl, rfl⟩
  go_wp2_with fail
  go_ret3
  exact ⟨rfl, E1.old⟩
set_option maxRecDepth 100000 in
set_option maxHeartbeats 4000000 in
theorem pc_a5 {a1 a2 a3 : Option Addr} {n2 n3 c1 c2 c3 : Nat} {s : Pu} {w : World} (h : PMid a1 a2 a3 n2 n3 c1 c2 c3 s w) (h0 : inB s.taken 0 s.tape.length = true) (h1 : inB s.clock 0 1000000000 = true) (h2 : inB s.at_ 0 127 = true) (h3 : inB s.phase 0 4 = true) (h4 : inB s.done 0 s.clock = true) (h5 : inB s.why 0 4 = false) :
    Calls Try.prog 45 #[psv a1 a2 a3 128 c1 n2 c2 n3 c3 s] w fun e w' => e = .returned (v3 (5, 0, 7)) ∧ Ext w w' := by
  obtain ⟨hc, rfl, rfl, b2, b3⟩ := h
  have k0 := fun W => pout_any s.taken 0 s.tape.length W
  rw [h0] at k0
  have k1 := fun W => pout_any s.clock 0 1000000000 W
  rw [h1] at k1
  have k2 := fun W => pout_any s.at_ 0 127 W
  rw [h2] at k2
  have k3 := fun W => pout_any s.phase 0 4 W
  rw [h3] at k3
  have k4 := fun W => pout_any s.done 0 s.clock W
  rw [h4] at k4
  have k5 := fun W => pout_any s.why 0 4 W
  rw [h5] at k5
  clear h0 h1 h2 h3 h4 h5
  go_enter Try.func45, Try.ntmps45
  go_wp2_with fail
  refine (hc _ (by repeat (first | with_reducible exact Ext.refl _ | with_reducible refine Ext.alloc ?_ _ | with_reducible refine Below.drew ?_))).mono ?_
  rintro e w1 ⟨rfl, E1⟩
  have q0 := box_at (v := .slice a1 128 c1) E1 0 rfl
  have q1 := box_at (v := .slice a2 s.tape.length c2) E1 1 rfl
  have q2 := box_at (v := .int .i64 s.taken) E1 2 rfl
  have q3 := box_at (v := .slice a3 s.printed.length c3) E1 3 rfl
  have q4 := box_at (v := .int .i64 s.clock) E1 4 rfl
  have q5 := box_at (v := .int .i64 s.at_) E1 5 rfl
  have q6 := box_at (v := .int .i64 s.phase) E1 6 rfl
  have q7 := box_at (v := .int .i64 s.order) E1 7 rfl
  have q8 := box_at (v := .int .i64 s.operand) E1 8 rfl
  have q9 := box_at (v := .int .i64 s.other) E1 9 rfl
  have q10 := box_at (v := .int .i64 s.product) E1 10 rfl
  have q11 := box_at (v := .int .i64 s.count) E1 11 rfl
  have q12 := box_at (v := .int .i64 s.done) E1 12 rfl
  have q13 := box_at (v := .int .i64 s.why) E1 13 rfl
  go_wp2_with fail
  refine (k0 _).mono ?_
  rintro e w2 ⟨rfl, rfl⟩
  go_wp2_with fail
  refine (k1 _).mono ?_
  rintro e w2 ⟨rfl, rfl⟩
  go_wp2_with fail
  refine (k2 _).mono ?_
  rintro e w2 ⟨rfl, rfl⟩
  go_wp2_with fail
  refine (k3 _).mono ?_
  rintro e w2 ⟨rfl, rfl⟩
  go_wp2_with fail
  refine (k4 _).mono ?_
  rintro e w2 ⟨rfl, rfl⟩
  go_wp2_with fail
  refine (k5 _).mono ?_
  rintro e w2 ⟨rfl, rfl⟩
  go_wp2_with fail
  go_ret3
  exact ⟨rfl, E1.old⟩
end Go.Proofs.Ytjfggepgjpdebaa

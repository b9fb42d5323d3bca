import Derived.Deep.RegionHeld3
import Derived.Deep.DeepCutAuto
import Derived.Deep.RegionLaw
import Derived.BigRegion
import Derived.Test.YtnhpcoagkmgdoaaGreatX17
import Derived.Test.YtnhpcoagkmgdoaaGreatX19
set_option linter.unusedVariables false
set_option linter.unusedSimpArgs false
/- Layer 4's open and Run again: the lists that Run returns lie in new blocks. -/
namespace Go.Proofs.YtnhpcoagkmgdoaaGreat
open Go.RowKit Go.Q
/-- open has made a machine -/
def OpenResN (s : St) (w : World) (e : Ending) (w' : World) : Prop :=
 ∃ m g1 c1 tv pv, e = .returned (.tuple #[.pointer (some ⟨m, 0, none⟩), .int .i64 0]) ∧ Mac w' w.heap.size m g1 c1 tv pv s ⟨0, 0, 0, 0⟩ ∧ Ext w w' ∧ (∀ b, tv.ownBlock = some b → w.heap.size ≤ b)
/-- the copy of the state, with slices of the call's own -/
def BoxResN (s : St) (w : World) (wx : World) : Prop :=
 ∃ g1 cs tv pv, wx.heap[w.heap.size]? = some (.cells #[.slice (some ⟨g1, 0, none⟩) 128 cs, tv, .int .i64 s.taken, pv, .int .i64 s.time, .int .i64 s.at_, .int .i64 s.done, .int .i64 s.why] 24 (0, 0)) ∧
  Parts wx w.heap.size w.heap.size g1 cs tv pv s ∧ Ext w wx ∧ (∀ b, tv.ownBlock = some b → w.heap.size ≤ b)
theorem box_resN {w W0 ws wt wp W : World} {a1 a2 a3 as_ at_ ap : Option Addr} {c1 c2 c3 cs ct cp ns nt np n2 n3 : Nat} {s : St}
  (E0 : Ext (w.alloc (.cells #[.slice a1 128 c1, .slice a2 n2 c2, .int .i64 s.taken, .slice a3 n3 c3, .int .i64 s.time, .int .i64 s.at_, .int .i64 s.done, .int .i64 s.why] 24)) W0)
  (hs : ws.ownsRow ns 3 1 (.slice as_ 128 cs) 128 (iv s.store)) (ht : wt.ownsRow nt 3 1 (.slice at_ n2 ct) n2 (iv s.tape)) (hp : wp.ownsRow np 3 1 (.slice ap n3 cp) n3 (iv s.printed))
  (hl : s.store.length = 128 ∧ s.tape.length = n2 ∧ s.printed.length = n3) (EW : Ext W0 W)
  (es : Ext ws W) (et : Ext wt W) (ep : Ext wp W) (ls : w.heap.size < ns) (lt : w.heap.size < nt) (lp : w.heap.size < np)
  (d1 : ws.heap.size ≤ nt ∨ wt.heap.size ≤ ns) (d2 : ws.heap.size ≤ np ∨ wp.heap.size ≤ ns) (d3 : wt.heap.size ≤ np ∨ wp.heap.size ≤ nt) :
  BoxResN s w (((W.setCell ⟨w.heap.size, 0, none⟩ (.slice as_ 128 cs)).setCell ⟨w.heap.size, 1, none⟩ (.slice at_ n2 ct)).setCell ⟨w.heap.size, 3, none⟩ (.slice ap n3 cp)) := by
 obtain ⟨hl1, rfl, rfl⟩ := hl
 obtain ⟨g1, rfl, hP⟩ := parts_of (nb := w.heap.size) (B := w.heap.size) hs ht hp es et ep ⟨ls, by omega⟩ ⟨lt, by omega⟩ ⟨lp, by omega⟩ hl1 d1 d2 d3
 have hB : W.heap[w.heap.size]? = _ := ((E0.comp EW).block w.heap.size (by simp)).trans (show (w.heap.push _)[w.heap.size]? = _ by simp; rfl)
 refine ⟨g1, cs, _, _, cells_set (cells_set (cells_set hB 0 _) 1 _) 3 _, ((hP.set 0 _).set 1 _).set 3 _, ?_, fun b hb => by have := (own_at ht hb).1; omega⟩
 exact (((E0.old.comp EW).setCell (p := ⟨w.heap.size, 0, none⟩) (Nat.le_refl _) _).setCell (p := ⟨w.heap.size, 1, none⟩) (Nat.le_refl _) _).setCell (p := ⟨w.heap.size, 3, none⟩) (Nat.le_refl _) _
set_option maxHeartbeats 4000000 in
set_option maxRecDepth 100000 in
theorem open_okN (a1 a2 a3 : Option Addr) (n2 n3 c1 c2 c3 : Nat) (s : St) (most : Int) (w : World) (l1 : s.store.length = 128) (l2 : s.tape.length = n2) (l3 : s.printed.length = n3) (b2 : n2 ≤ 200) (b3 : n3 ≤ 200)
  (i1 : IntsAt w a1 s.store) (i2 : IntsAt w a2 s.tape) (i3 : IntsAt w a3 s.printed) (hz : checkQ s = (0, 0, 0)) (hm : inB most 0 5000 = true) :
  Calls Tryz.prog 95 #[sv a1 a2 a3 128 c1 n2 c2 n3 c3 s.taken s.time s.at_ s.done s.why, .int .i64 most] w (OpenResN s w) := by
 have hc := fun W (E : Ext w W) => check_any (sv a1 a2 a3 128 c1 n2 c2 n3 c3 s.taken s.time s.at_ s.done s.why) s W ⟨a1, a2, a3, c1, c2, c3, by rw [l1, l2, l3], i1.ext E, i2.ext E, i3.ext E⟩ ⟨by omega, by omega, by omega⟩
 rw [hz] at hc
 have hcs' := fun W (E : Ext w W) => clone_any a1 128 c1 s.store W l1 (by decide) (i1.ext E)
 have hct' := fun W (E : Ext w W) => clone_any a2 n2 c2 s.tape W l2 (by omega) (i2.ext E)
 have hcp' := fun W (E : Ext w W) => clone_any a3 n3 c3 s.printed W l3 (by omega) (i3.ext E)
 have Hl := Lib.hid (And.intro l1 (And.intro l2 l3))
 clear i1 i2 i3 l1 l2 l3 hz
 go_enter Tryz.func95, Tryz.ntmps95
 go_wp2_with fail
 refine (hc _ (by exact (Ext.refl w).alloc _)).mono ?_
 rintro e w1 ⟨rfl, hb1⟩
 unfold v3
 go_wp2_with fail
 refine (out_one _ most _ _ (by simp) (by simp)).mono ?_
 rintro e W0 ⟨rfl, hb2⟩
 have E0 := hb1.comp hb2.old
 clear hc hb1 hb2
 have hcs := fun W (E : Ext W0 W) => hcs' W (E0.old.comp E)
 have hct := fun W (E : Ext W0 W) => hct' W (E0.old.comp E)
 have hcp := fun W (E : Ext W0 W) => hcp' W (E0.old.comp E)
 clear hcs' hct' hcp'
 have p0 := box_at (v := .slice a1 128 c1) E0 0 rfl
 have p1 := box_at (v := .slice a2 n2 c2) E0 1 rfl
 have p3 := box_at (v := .slice a3 n3 c3) E0 3 rfl
 have z0 : w.heap.size < W0.heap.size := by have := E0.size; simp at this; omega
 go_upto_region 6 with fail
 go_cut [] (fun wx => BoxResN s w wx)
 case first =>
  go_region_law (first | (go_simp; go_at_call_of 48 (Value.slice a1 128 c1); refine (hcs _ (by first | exact EBt | exact EBp | exact (Ext.refl W0).drew)).mono ?_; rintro e ws ⟨aas, ccs, rfl, hos, hbs⟩; have EBs : Ext W0 ws := (by first | exact Ext.comp EBt hbs | exact Ext.comp EBp hbs | exact Ext.comp (Ext.refl W0).drew hbs); have sc0 := box_at (v := .slice a1 128 c1) (E0.comp EBs) 0 rfl; have sf0 := box_free (E0.comp EBs) 0; have sc1 := box_at (v := .slice a2 n2 c2) (E0.comp EBs) 1 rfl; have sf1 := box_free (E0.comp EBs) 1; have sc3 := box_at (v := .slice a3 n3 c3) (E0.comp EBs) 3 rfl; have sf3 := box_free (E0.comp EBs) 3) | (go_simp; go_at_call_of 48 (Value.slice a2 n2 c2); refine (hct _ (by first | exact EBs | exact EBp | exact (Ext.refl W0).drew)).mono ?_; rintro e wt ⟨aat, cct, rfl, hot, hbt⟩; have EBt : Ext W0 wt := (by first | exact Ext.comp EBs hbt | exact Ext.comp EBp hbt | exact Ext.comp (Ext.refl W0).drew hbt); have tc0 := box_at (v := .slice a1 128 c1) (E0.comp EBt) 0 rfl; have tf0 := box_free (E0.comp EBt) 0; have tc1 := box_at (v := .slice a2 n2 c2) (E0.comp EBt) 1 rfl; have tf1 := box_free (E0.comp EBt) 1; have tc3 := box_at (v := .slice a3 n3 c3) (E0.comp EBt) 3 rfl; have tf3 := box_free (E0.comp EBt) 3) | (go_simp; go_at_call_of 48 (Value.slice a3 n3 c3); refine (hcp _ (by first | exact EBs | exact EBt | exact (Ext.refl W0).drew)).mono ?_; rintro e wp ⟨aap, ccp, rfl, hop, hbp⟩; have EBp : Ext W0 wp := (by first | exact Ext.comp EBs hbp | exact Ext.comp EBt hbp | exact Ext.comp (Ext.refl W0).drew hbp); have pc0 := box_at (v := .slice a1 128 c1) (E0.comp EBp) 0 rfl; have pf0 := box_free (E0.comp EBp) 0; have pc1 := box_at (v := .slice a2 n2 c2) (E0.comp EBp) 1 rfl; have pf1 := box_free (E0.comp EBp) 1; have pc3 := box_at (v := .slice a3 n3 c3) (E0.comp EBp) 3 rfl; have pf3 := box_free (E0.comp EBp) 3))
  all_goals
   go_wp2_with fail
   go_meet
   exact box_resN E0 hos hot hop Hl.out (by first | exact EBs | exact EBt | exact EBp) (by first | exact Ext.refl _ | exact hbs | exact hbt | exact hbp | exact hbs.comp hbt | exact hbs.comp hbp | exact hbt.comp hbs | exact hbt.comp hbp | exact hbp.comp hbs | exact hbp.comp hbt) (by first | exact Ext.refl _ | exact hbs | exact hbt | exact hbp | exact hbs.comp hbt | exact hbs.comp hbp | exact hbt.comp hbs | exact hbt.comp hbp | exact hbp.comp hbs | exact hbp.comp hbt) (by first | exact Ext.refl _ | exact hbs | exact hbt | exact hbp | exact hbs.comp hbt | exact hbs.comp hbp | exact hbt.comp hbs | exact hbt.comp hbp | exact hbp.comp hbs | exact hbp.comp hbt) (by first | exact z0 | exact Nat.lt_of_lt_of_le z0 EBs.size | exact Nat.lt_of_lt_of_le z0 EBt.size | exact Nat.lt_of_lt_of_le z0 EBp.size) (by first | exact z0 | exact Nat.lt_of_lt_of_le z0 EBs.size | exact Nat.lt_of_lt_of_le z0 EBt.size | exact Nat.lt_of_lt_of_le z0 EBp.size) (by first | exact z0 | exact Nat.lt_of_lt_of_le z0 EBs.size | exact Nat.lt_of_lt_of_le z0 EBt.size | exact Nat.lt_of_lt_of_le z0 EBp.size) (by first | exact .inl (Nat.le_refl _) | exact .inr (Nat.le_refl _) | exact .inl hbs.size | exact .inl hbt.size | exact .inl hbp.size | exact .inr hbs.size | exact .inr hbt.size | exact .inr hbp.size) (by first | exact .inl (Nat.le_refl _) | exact .inr (Nat.le_refl _) | exact .inl hbs.size | exact .inl hbt.size | exact .inl hbp.size | exact .inr hbs.size | exact .inr hbt.size | exact .inr hbp.size) (by first | exact .inl (Nat.le_refl _) | exact .inr (Nat.le_refl _) | exact .inl hbs.size | exact .inl hbt.size | exact .inl hbp.size | exact .inr hbs.size | exact .inr hbt.size | exact .inr hbp.size)
 case rest =>
  obtain ⟨g1, cs, tv, pv, hB, hP, hE, hN⟩ := hcut
  have HN := Lib.hid hN
  clear hN
  have k0 := cell_of_cells hB 0 (v := .slice (some ⟨g1, 0, none⟩) 128 cs) rfl
  have k1 := cell_of_cells hB 1 (v := tv) rfl
  have k2 := cell_of_cells hB 2 (v := .int .i64 s.taken) rfl
  have k3 := cell_of_cells hB 3 (v := pv) rfl
  have k4 := cell_of_cells hB 4 (v := .int .i64 s.time) rfl
  have k5 := cell_of_cells hB 5 (v := .int .i64 s.at_) rfl
  have k6 := cell_of_cells hB 6 (v := .int .i64 s.done) rfl
  have k7 := cell_of_cells hB 7 (v := .int .i64 s.why) rfl
  have hM := hP.mac hE.size ⟨0, 0, 0, 0⟩
  have hE2 : Ext w _ := hE.alloc (.cells (mcells g1 cs tv pv s ⟨0, 0, 0, 0⟩) 159)
  have HM := Lib.hid hM
  clear hM hB hP
  obtain ⟨at2, ct2, rfl⟩ : ∃ a c, tv = .slice a s.tape.length c := by
   obtain ⟨a, c, h, _⟩ := HM.out.tp
   exact ⟨a, c, h⟩
  obtain ⟨ap2, cp2, rfl⟩ : ∃ a c, pv = .slice a s.printed.length c := own_form HM.out.prow
  go_wp2_with fail
  go_ret2
  exact ⟨_, _, _, _, _, rfl, HM.out, hE2, HN.out⟩
/-- a state whose lists lie in new blocks -/
def StAtN (nb : Nat) (w : World) (v : Value) (s : St) : Prop := ∃ a1 a2 a3 c1 c2 c3, v = sv a1 a2 a3 s.store.length c1 s.tape.length c2 s.printed.length c3 s.taken s.time s.at_ s.done s.why ∧ IntsF (fun q => q < nb) w a1 s.store ∧ IntsF (fun q => q < nb) w a2 s.tape ∧ IntsF (fun q => q < nb) w a3 s.printed
def StResN (p : St × Int) (w : World) (e : Ending) (w' : World) : Prop := ∃ v, e = .returned (.tuple #[v, .int .i64 p.2]) ∧ StAtN w.heap.size w' v p.1 ∧ Ext w w'
set_option maxHeartbeats 4000000 in
set_option maxRecDepth 100000 in
theorem run_goodN (v : Value) (s : St) (most : Int) (w : World) (h : StAt w v s) (hb : StBd s) (he : askedQ s most = 0) :
  Calls Tryz.prog 72 #[v, .int .i64 most] w (StResN (runE s most) w) := by
 have e1 : runE s most = (runQ most.toNat s, 0) := by simp [runE, he]
 rw [e1]
 obtain ⟨z1, z2⟩ := asked_ok he
 have hv := valid_of_check z1
 have z3 := check_zero z1
 obtain ⟨p0, p1⟩ := inB_bd z2
 obtain ⟨a1, a2, a3, k1, k2, k3, rfl, i1, i2, i3⟩ := h
 rw [hv.len]
 have ho := fun W (E : Ext w W) => open_okN a1 a2 a3 _ _ k1 k2 k3 s most W hv.len rfl rfl hv.tlen hv.plen (i1.ext E) (i2.ext E) (i3.ext E) z3 z2
 clear i1 i2 i3 z1 z2 z3 he e1 hb
 obtain ⟨n, rfl⟩ := Int.eq_ofNat_of_zero_le p0
 have hn : n ≤ 5000 := by omega
 have HV := Lib.hid hv
 clear hv p0 p1
 have en : ((n : Int)).toNat = n := rfl
 rw [en]
 clear en
 go_enter Tryz.func72, Tryz.ntmps72
 go_wp2_with fail
 refine (ho _ (by exact ((Ext.refl w).alloc _).alloc _)).mono ?_
 rintro e w3 ⟨m, g1, c1, tv, pv, rfl, M, hb3, htv⟩
 clear ho
 have HTV := Lib.hid htv
 clear htv
 go_wp2_with fail
 refine (run_any w3 (w.heap.size + 2) n 97 #[] (fun _ _ => True) M HV.out hn (by simp) (enters_of Tryz.func97 (by kernel_rfl) rfl) keepM_tell trivial).mono ?_
 rintro e w4 ⟨rfl, ⟨pv4, o4, M4⟩, _, hB4⟩
 have hb4 : Ext ((w.alloc _).alloc _) w4 := hb3.trans (by simpa using hB4)
 have q0 := box_at2 (v := .slice none 0 0) hb4 0 rfl
 have q1 := box_at2 (v := .slice none 0 0) hb4 1 rfl
 have q2 := box_at2 (v := .int .i64 0) hb4 2 rfl
 have q3 := box_at2 (v := .slice none 0 0) hb4 3 rfl
 have q4 := box_at2 (v := .int .i64 0) hb4 4 rfl
 have q5 := box_at2 (v := .int .i64 0) hb4 5 rfl
 have q6 := box_at2 (v := .int .i64 0) hb4 6 rfl
 have q7 := box_at2 (v := .int .i64 0) hb4 7 rfl
 have f0 := box_free2 hb4 0
 have f1 := box_free2 hb4 1
 have f2 := box_free2 hb4 2
 have f3 := box_free2 hb4 3
 have f4 := box_free2 hb4 4
 have f5 := box_free2 hb4 5
 have f6 := box_free2 hb4 6
 have f7 := box_free2 hb4 7
 obtain ⟨b2, bt, b3, bp, rfl, rfl, _, _, _⟩ := M4.reads
 have M5 := M4.keep (keep8 (blk2 hb4) (by decide) (by decide) (.slice (some ⟨g1, 0, none⟩) 128 c1) (.slice b2 (runQ n s).tape.length bt) (.int .i64 (runQ n s).taken) (.slice b3 (runQ n s).printed.length bp) (.int .i64 (runQ n s).time) (.int .i64 (runQ n s).at_) (.int .i64 (runQ n s).done) (.int .i64 (runQ n s).why))
 have HM5 := Lib.hid M5
 clear M5
 have r0 := M4.c 0 (v := .slice (some ⟨g1, 0, none⟩) 128 c1) rfl
 have r1 := M4.c 1 (v := .slice b2 (runQ n s).tape.length bt) rfl
 have r2 := M4.c 2 (v := .int .i64 (runQ n s).taken) rfl
 have r3 := M4.c 3 (v := .slice b3 (runQ n s).printed.length bp) rfl
 have r4 := M4.c 4 (v := .int .i64 (runQ n s).time) rfl
 have r5 := M4.c 5 (v := .int .i64 (runQ n s).at_) rfl
 have r6 := M4.c 6 (v := .int .i64 (runQ n s).done) rfl
 have r7 := M4.c 7 (v := .int .i64 (runQ n s).why) rfl
 have hlen := Lib.hid M4.len
 clear M M4 hB4 hb3
 go_wp2_with fail
 refine bodyPost_ret (v := .tuple #[.agg #[.slice (some ⟨g1, 0, none⟩) 128 c1, .slice b2 (runQ n s).tape.length bt, .int .i64 (runQ n s).taken, .slice b3 (runQ n s).printed.length bp, .int .i64 (runQ n s).time, .int .i64 (runQ n s).at_, .int .i64 (runQ n s).done, .int .i64 (runQ n s).why], .int .i64 0]) (by simp [results, Tryz.results72, go_sem, q0, q1, q2, q3, q4, q5, q6, q7]) rfl ?_
 have hM := HM5.out
 obtain ⟨d2, dt, d3, dp, x1, x2, I1, I2, I3⟩ := hM.readsT
 obtain ⟨rfl, -, rfl⟩ := Value.slice.inj x1
 obtain ⟨rfl, -, rfl⟩ := Value.slice.inj x2
 have hsz : ((w.alloc (.cells #[.slice a1 128 k1, .slice a2 s.tape.length k2, .int .i64 s.taken, .slice a3 s.printed.length k3, .int .i64 s.time, .int .i64 s.at_, .int .i64 s.done, .int .i64 s.why] 24))).heap.size = w.heap.size + 1 := by simp
 have hlo := hM.low
 have hpr := hM.prow
 refine ⟨_, rfl, ⟨some ⟨g1, 0, none⟩, b2, b3, c1, bt, bp, by rw [hlen.out], ?_, ?_, ?_⟩, ext_set8 (Ext.old (Ext.old hb4)) (by omega) _ _ _ _ _ _ _ _⟩
 ·exact (I1.at_).imp id fun ⟨b, off, ha, hb, hc⟩ => ⟨b, off, ha, by cases ha; simp at hlo; omega, hb, hc⟩
 ·exact (I2.at_).imp id fun ⟨b, off, ha, hb, hc⟩ => ⟨b, off, ha, by have := HTV.out b (by rw [ha]; rfl); simp at this; omega, hb, hc⟩
 ·exact (I3.at_).imp id fun ⟨b, off, ha, hb, hc⟩ => ⟨b, off, ha, by have := (own_at hpr (b := b) (by rw [ha]; rfl)).1; simp at this; omega, hb, hc⟩
theorem runE_anyN (v : Value) (s : St) (most : Int) (w : World) (h : StAt w v s) (hb : StBd s) (he : askedQ s most = 0) : Calls Tryz.prog 72 #[v, .int .i64 most] w (StResN (runE s most) w) := run_goodN v s most w h hb he
end Go.Proofs.YtnhpcoagkmgdoaaGreat
/- A piece of code whose panic is caught: what the panic's post may read of the frame. -/
namespace Go.Q
open Go Go.RowKit
/-- a panic's post reads one slot of the frame, and the calls that are put off -/
def PQ (Q : Exit → Act → World → Prop) (t : Nat) (p : Value) (ds : List Deferred) (F : List PanicEntry → World → Prop) : Exit → Act → World → Prop
 | .normal, a, w => Q .normal a w
 | .panic c, a, w => a.tmps.getD t undef = p ∧ a.defers = ds ∧ F c w
 | _, _, _ => False
section
variable {Q : Exit → Act → World → Prop} {t : Nat} {p : Value} {ds : List Deferred} {F : List PanicEntry → World → Prop}
theorem pq_normal (a : Act) (w : World) : PQ Q t p ds F .normal a w = Q .normal a w := rfl
theorem pq_put {d : Nat} (hd : d ≠ t) {v : Value} (c : List PanicEntry) (a : Act) (w : World) (h : PQ Q t p ds F (.panic c) (a.put (some d) v) w) : PQ Q t p ds F (.panic c) a w := by
 obtain ⟨h1, h2, h3⟩ := h
 refine ⟨?_, h2, h3⟩
 rw [← h1]
 show a.tmps.getD t undef = (a.tmps.setIfInBounds d v).getD t undef
 rw [Array.getD_eq_getD_getElem?, Array.getD_eq_getD_getElem?, Array.getElem?_setIfInBounds_ne hd]
theorem wp_of_PQ {P : Program} {c : Code} {a : Act} {w : World} (t : Nat) (p : Value) (ds : List Deferred) (F : List PanicEntry → World → Prop) (h : c.wp P (PQ Q t p ds F) a w) (hF : ∀ c a w, a.tmps.getD t undef = p → a.defers = ds → F c w → Q (.panic c) a w) : c.wp P Q a w :=
 wpIn_wide.1 (wpIn_mono (Q := PQ Q t p ds F) ((wpIn_wide (n := 9)).2 h) fun e a' w' hq => by
  cases e with
  | normal => exact hq
  | panic c => exact hF c a' w' hq.1 hq.2.1 hq.2.2
  | _ => exact hq.elim)
end
end Go.Q
/- Layer 10: how an order ends, each of whose words is looked at. -/
namespace Go.Proofs.YtnhpcoagkmgdoaaGreat
open Go.RowKit Go.Q Go.Shelf Go.Maps
set_option maxHeartbeats 4000000
set_option maxRecDepth 100000
attribute [local go_sem] Oper.semAt_some
/-- how step ends: the word that is noticed (or -1), and the line -/
def StepP (m mb : Nat) (L : List Loss) (y : Lm) (r : Int) (w : World) (ex : Nat → Prop) (e : Ending) (w' : World) : Prop := e = .returned (.int .i64 r) ∧ LinAt w' m mb L y ex ∧ KpM (LM m mb) w w'
def catchS (b0 : Nat) : Deferred := { target := .fn (.func 70) #[.pointer (some ⟨b0, 0, none⟩)], args := #[] }
theorem LinAt.lt {w : World} {m mb : Nat} {L : List Loss} {y : Lm} {ex : Nat → Prop} (h : LinAt w m mb L y ex) : m < w.heap.size ∧ mb < w.heap.size := by
 obtain ⟨a1, a2, a3, c1, c2, c3, hB, i1, i2, i3, hM⟩ := h
 obtain ⟨f, h2, _⟩ := hM
 exact ⟨hB.lt, h2.lt⟩
theorem leavesS_bad {n m mb : Nat} {L : List Loss} {y : Lm} {tmps : Array Value} {w W : World} {x : Int} {u : Value} (h0 : W.heap[w.heap.size]? = some (.cells #[u] 3 (0, 0))) {ex : Nat → Prop} (hL : LinAt w m mb L y ex) (hE : Ext w W)
  (t4 : tmps.getD 4 undef = .pointer (some ⟨w.heap.size, 0, none⟩)) :
  LeavesInM Fence.wide n Tryz.prog Tryz.f39 tmps (StepP m mb L y x w ex) [catchS w.heap.size] (.panicking (lostP x)) W := by
 refine ⟨by simp, .inr ⟨nofun, .func 70, _, 70, _, rfl, (by simp [invoke, go_sem, catchS]; rfl), fun _ _ => trivial, ?_⟩⟩
 refine (step_caught w.heap.size x u W (n - 1) h0).mono ?_
 rintro e u' w2 ⟨rfl, hu, hC, hk⟩
 dsimp only
 rw [hu]
 have c0 := cell_of_cells hC 0 (v := .int .i64 x) rfl
 have kk : KpM (fun q => q = w.heap.size) w w2 := (KpM.of_ext hE).trans hk
 refine ⟨.int .i64 x, ?_, rfl, hL.turn kk (fun b hb e => by omega), KpM.of_ext (kk.below (Ext.refl w) (Nat.le_refl _) (fun b hb => by omega))⟩
 rw [Array.getD_eq_getD_getElem?] at t4
 simp [results, Tryz.results39, go_sem, t4, c0]
theorem leavesS_good {n m mb : Nat} {L : List Loss} {y : Lm} {tmps : Array Value} {w W : World} {x : Int} (h0 : W.heap[w.heap.size]? = some (.cells #[.int .i64 x] 3 (0, 0))) {ex : Nat → Prop} (hL : LinAt W m mb L y ex) (hK : KpM (LM m mb) w W)
  (t4 : tmps.getD 4 undef = .pointer (some ⟨w.heap.size, 0, none⟩)) :
  LeavesInM Fence.wide n Tryz.prog Tryz.f39 tmps (StepP m mb L y x w ex) [catchS w.heap.size] .returning W := by
 refine ⟨by simp, .inr ⟨nofun, .func 70, _, 70, _, rfl, (by simp [invoke, go_sem, catchS]; rfl), fun _ _ => trivial, ?_⟩⟩
 refine (step_idle w.heap.size W (n - 1)).mono ?_
 rintro e u' w2 ⟨rfl, rfl, rfl⟩
 have c0 := cell_of_cells h0 0 (v := .int .i64 x) rfl
 refine ⟨.int .i64 x, ?_, rfl, hL, hK⟩
 rw [Array.getD_eq_getD_getElem?] at t4
 simp [results, Tryz.results39, go_sem, t4, c0]
theorem IntsF.weaken {M M' : Nat → Prop} {W : World} {a : Option Addr} {xs : List Int} (h : IntsF M W a xs) (hM : ∀ b, b < W.heap.size → M' b → M b) : IntsF M' W a xs := h.imp id fun ⟨b, off, ha, hm, hb, hc⟩ => ⟨b, off, ha, fun h => hm (hM b hb h), hb, hc⟩
/-- the line behind an order -/
theorem lin_step {X w3 V : World} {m mb nb b0 : Nat} {L : List Loss} {T : St} {bad : List Bool} {gone : Int → Bool} {a1 a2 a3 : Option Addr} {c1 c2 c3 : Nat} {u : Value}
  (hB : LnB V m mb (.slice a1 T.store.length c1) (.slice a2 T.tape.length c2) (.int .i64 T.taken) (.slice a3 T.printed.length c3) (.int .i64 T.time) (.int .i64 T.at_) (.int .i64 T.done) (.int .i64 T.why) bad)
  (i1 : IntsF (fun q => q < nb) w3 a1 T.store) (i2 : IntsF (fun q => q < nb) w3 a2 T.tape) (i3 : IntsF (fun q => q < nb) w3 a3 T.printed) (hM : MapL X mb (leftL L gone))
  (K3 : KpM (fun q => q = m ∨ q = b0) w3 V) (KX : KpM (fun q => q = m ∨ q = b0) X V) (hm : m < nb) (hmb : mb < nb) (hb0 : b0 < nb) (hne : mb ≠ m) (hne2 : mb ≠ b0) (hbx : X.heap[b0]? = some (.cells #[u] 3 (0, 0))) (hmx : ∃ cs, X.heap[m]? = some (.cells cs 76 (0, 0))) {ex : Nat → Prop} (hex : ∀ q, ex q → q < nb) : LinAt V m mb L ⟨T, bad, gone⟩ ex := by
 have kk : ∀ {a : Option Addr} {xs : List Int}, IntsF (fun q => q < nb) w3 a xs → IntsF (LX m mb ex) V a xs := fun h =>
  (h.kp K3 (fun b _ e => by rcases e with rfl | rfl <;> assumption)).weaken (fun b _ e => by
   rcases e with (rfl | rfl) | e
   ·exact hm
   ·exact hmb
   ·exact hex b e)
 refine ⟨a1, a2, a3, c1, c2, c3, hB, kk i1, kk i2, kk i3, hM.kp KX (fun e => e.elim hne hne2) fun b cs fr hb e => ?_⟩
 obtain ⟨cs2, hc2⟩ := hmx
 rcases e with rfl | rfl
 ·rw [hc2] at hb; cases hb
 ·rw [hbx] at hb; cases hb
theorem kp_box {W X V : World} {m mb : Nat} (E : Ext W X) (K : KpM (fun q => q = m ∨ q = W.heap.size) X V) : KpM (LM m mb) W V :=
 ⟨Nat.le_trans E.size K.size, fun b hb hn => (K.block b (Nat.lt_of_lt_of_le hb E.size) (fun h => h.elim (fun h => hn (.inl h)) (fun h => by omega))).trans (E.block b hb), K.os.trans E.os, K.tape.trans E.tape, K.output.trans E.output⟩
theorem valid_bd {s : St} (h : Valid s) : StBd s := ⟨by have := h.len; omega, by have := h.tlen; omega, by have := h.plen; omega⟩
theorem asked_valid {s : St} (h : Valid s) : askedQ s 1 = 0 := by
 unfold askedQ
 rw [if_neg (by rw [check_of_valid h]; decide), if_pos (by decide)]
theorem notice_at {x : Lm} {p : Nat} (ha : x.s.at_ = (p : Int)) (hb : x.bad[p]?.getD false = true) : noticeQ x = (p : Int) := by
 unfold noticeQ readsQ
 rw [List.find?_cons_of_pos (by unfold badAt; rw [ha, Int.toNat_natCast]; exact hb), ha]
 rfl
theorem notice_rd {x : Lm} {p : Nat} {o : Ord} (ha : x.s.at_ = (p : Int)) (ho : ordAt x.s = o) (hb : x.bad[p]?.getD false = false) {l : List Int} (hl : (if (1 ≤ o.op ∧ o.op ≤ 5) ∨ o.op = 7 then [o.frm] else []) ++ (if 2 ≤ o.op ∧ o.op ≤ 4 then [o.to] else []) = l) : noticeQ x = (l.find? (badAt x.bad)).getD (-1) := by
 unfold noticeQ readsQ
 rw [List.find?_cons_of_neg (by unfold badAt; rw [ha, Int.toNat_natCast, hb]; simp), ho, hl]
end Go.Proofs.YtnhpcoagkmgdoaaGreat

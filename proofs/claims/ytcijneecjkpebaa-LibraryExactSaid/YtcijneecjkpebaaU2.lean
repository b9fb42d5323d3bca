import Derived.Deep.RegionHeld3
import Derived.Deep.DeepCutAuto
import Derived.Deep.RegionLaw
import Derived.BigRegion
import Derived.Maps.AppendAt
import Derived.Deep.AppendLies
import Derived.Laws.OwnMore
import Derived.Test.YtcijneecjkpebaaU1
import Derived.Test.YtcijneecjkpebaaU0
import Derived.Test.YtcijneecjkpebaaUS4
set_option linter.unusedVariables false
set_option linter.unusedSimpArgs false
/- Contract: open: it makes the machine of a state. -/
namespace Go.Proofs.Ytcijneecjkpebaa
open Go.RowKit Go.Q
set_option maxHeartbeats 1000000 in
theorem open_bad (v : Value) (s : St) (most : Int) (w : World) (h : StAt w v s) (hb : StBd s) (he : askedQ s most ≠ 0) :
    Calls Try.prog 96 #[v, .int .i64 most] w fun e w' => e = .returned (.tuple #[.pointer none, .int .i64 (askedQ s most)]) ∧ Ext w w' := by
  obtain ⟨a1, a2, a3, c1, c2, c3, rfl, i1, i2, i3⟩ := h
  have hs : StAt w (sv a1 a2 a3 s.store.length c1 s.tape.length c2 s.printed.length c3 s.taken s.time s.at_ s.done s.why) s := ⟨a1, a2, a3, c1, c2, c3, rfl, i1, i2, i3⟩
  have hc := fun W (E : Ext w W) => check_any _ s W (hs.ext E) hb
  have e3 := checkQ_err s
  clear hs i1 i2 i3 hb
  by_cases hz : (checkQ s).2.2 = 0
  · have hm : inB most 0 5000 = false := by
      cases h : inB most 0 5000 with
      | false => rfl
      | true => exact absurd (by simp [askedQ, hz, h]) he
    have ha : askedQ s most = 7 := by simp [askedQ, hz, hm]
    rw [ha]
    clear ha he e3
    rcases hcq : checkQ s with ⟨p, i, e⟩
    rw [hcq] at hc hz
    obtain rfl : e = 0 := hz
    clear hcq
    go_enter Try.func96, Try.ntmps96
    go_wp2_with fail
    refine (hc _ (by exact (Ext.refl w).alloc _)).mono ?_
    rintro e w1 ⟨rfl, hb1⟩
    unfold v3
    go_wp2_with (go_at_call 94; refine (out_one _ most _ _ (by simp) (by simp)).mono ?_; rintro e w' ⟨rfl, hb'⟩)
    go_ret2
    exact ⟨rfl, hb1.old.comp hb'.old⟩
  · have ha : askedQ s most = (checkQ s).2.2 := by simp [askedQ, hz]
    rw [ha]
    clear ha he
    rcases hcq : checkQ s with ⟨p, i, e⟩
    rw [hcq] at hc hz e3
    dsimp only at hz e3 ⊢
    have hz' : (e != 0) = true := by simpa using hz
    clear hcq hz
    go_enter Try.func96, Try.ntmps96
    go_wp2_with fail
    refine (hc _ (by exact (Ext.refl w).alloc _)).mono ?_
    rintro e w1 ⟨rfl, hb1⟩
    unfold v3
    go_wp2_with fail
    go_ret2
    exact ⟨rfl, hb1.old⟩
/-- a machine's parts, its own block apart -/
structure Parts (w : World) (nb B g1 c1 : Nat) (tv pv : Value) (s : St) : Prop where
  low : nb ≤ g1 ∧ g1 ≠ B
  st : ∃ cur, w.heap[g1]? = some (.cells cur 3 (0, 0)) ∧ cur.toList.take 128 = iv s.store
  len : s.store.length = 128
  tp : ∃ a2 c2, tv = .slice a2 s.tape.length c2 ∧ (s.tape = [] ∨ ∃ b off, a2 = some ⟨b, off, none⟩ ∧ (∃ cur, w.heap[b]? = some (.cells cur 3 (0, 0))) ∧ b ≠ B ∧ b ≠ g1 ∧ pv.ownBlock ≠ some b ∧ ∀ i, i < s.tape.length → w.cell? ⟨b, off + i, none⟩ = some (.int .i64 (s.tape[i]?.getD 0)))
  prow : w.ownsRow nb 3 1 pv s.printed.length (iv s.printed)
  pB : pv.ownBlock ≠ some B
  pg : pv.ownBlock ≠ some g1
theorem own_at {w : World} {nb t n : Nat} {v : Value} {xs : List Value} (h : w.ownsRow nb t 1 v n xs) {b : Nat} (hb : v.ownBlock = some b) : nb ≤ b ∧ b < w.heap.size := by
  refine ⟨?_, own_lt h hb⟩
  rcases h.2 with ⟨rfl, _⟩ | ⟨g, cap, cur, rfl, hg, _⟩
  · cases hb
  · obtain rfl : g = b := by simpa [Value.ownBlock] using hb
    exact hg
/-- an owned row reads as a list -/
theorem own_reads {w : World} {nb t n : Nat} {a : Option Addr} {c : Nat} {xs : List Int} (h : w.ownsRow nb t 1 (.slice a n c) n (iv xs)) :
    xs = [] ∨ ∃ g, a = some ⟨g, 0, none⟩ ∧ (∃ cur, w.heap[g]? = some (.cells cur t (0, 0))) ∧ ∀ i, i < xs.length → w.cell? ⟨g, 0 + i, none⟩ = some (.int .i64 (xs[i]?.getD 0)) := by
  have hl := h.1
  rw [iv_length, Nat.mul_one] at hl
  rcases h.2 with ⟨_, h2⟩ | ⟨g, cap, cur, hv, hg, hh, hnc, hcm, hcs, ht⟩
  · exact .inl (List.eq_nil_of_length_eq_zero (by omega))
  · refine .inr ⟨g, by simpa using (Value.slice.inj hv).1, ⟨cur, hh⟩, fun i hi => ?_⟩
    rw [Nat.zero_add]
    refine cell_of_cells hh i ?_
    have e := iv_get xs i hi
    rw [← ht, List.getElem?_take, if_pos (by omega)] at e
    simpa using e
theorem own_ints {w : World} {nb t n : Nat} {a : Option Addr} {c : Nat} {xs : List Int} (h : w.ownsRow nb t 1 (.slice a n c) n (iv xs)) : IntsAt w a xs := by
  rcases own_reads h with e | ⟨g, ha, hg, hc⟩
  · exact .inl e
  · exact .inr ⟨g, 0, ha, by obtain ⟨cu, hcu⟩ := hg; exact lt_of_block hcu, hc⟩
/-- three slices made one behind the other are a machine's parts -/
theorem parts_of {ws wt wp W : World} {nb B : Nat} {as_ at_ ap : Option Addr} {cs ct cp ns nt np : Nat} {s : St}
    (hs : ws.ownsRow ns 3 1 (.slice as_ 128 cs) 128 (iv s.store)) (ht : wt.ownsRow nt 3 1 (.slice at_ s.tape.length ct) s.tape.length (iv s.tape)) (hp : wp.ownsRow np 3 1 (.slice ap s.printed.length cp) s.printed.length (iv s.printed))
    (es : Ext ws W) (et : Ext wt W) (ep : Ext wp W) (ls : B < ns ∧ nb ≤ ns) (lt : B < nt ∧ nb ≤ nt) (lp : B < np ∧ nb ≤ np) (hl : s.store.length = 128)
    (d1 : ws.heap.size ≤ nt ∨ wt.heap.size ≤ ns) (d2 : ws.heap.size ≤ np ∨ wp.heap.size ≤ ns) (d3 : wt.heap.size ≤ np ∨ wp.heap.size ≤ nt) :
    ∃ g1, as_ = some ⟨g1, 0, none⟩ ∧ Parts W nb B g1 cs (.slice at_ s.tape.length ct) (.slice ap s.printed.length cp) s := by
  rcases hs.2 with ⟨_, h2⟩ | ⟨g1, cap, cur, hv, hg, hh, hnc, hcm, hcs, htk⟩
  · cases h2
  have ha : as_ = some ⟨g1, 0, none⟩ := (Value.slice.inj hv).1
  have gb := lt_of_block hh
  refine ⟨g1, ha, ⟨by omega, by omega⟩, ⟨cur, (es.block g1 gb).trans hh, by simpa using htk⟩, hl, ?_, ?_, ?_, ?_⟩
  · refine ⟨at_, ct, rfl, ?_⟩
    rcases own_reads ht with e | ⟨g2, ha2, ⟨cu, hcu⟩, hc⟩
    · exact .inl e
    · have hg2 := lt_of_block hcu
      have hb2 := own_at ht (b := g2) (by rw [ha2]; rfl)
      refine .inr ⟨g2, 0, ha2, ⟨cu, (et.block g2 hg2).trans hcu⟩, by omega, by omega, fun e => ?_, fun i hi => (et.cell (p := ⟨g2, 0 + i, none⟩) hg2).trans (hc i hi)⟩
      have hb3 := own_at hp e
      omega
  · have := own_later hp (w' := W) (fun b hb => ep.block b (own_at hp hb).2)
    refine ⟨this.1, ?_⟩
    rcases this.2 with h | ⟨g, cap, cur, h1, h2, h3⟩
    · exact .inl h
    · exact .inr ⟨g, cap, cur, h1, by omega, h3⟩
  · intro e
    have := own_at hp e
    omega
  · intro e
    have := own_at hp e
    omega
theorem Parts.set {w : World} {nb B g1 c1 : Nat} {tv pv : Value} {s : St} (h : Parts w nb B g1 c1 tv pv s) (i : Nat) (v : Value) : Parts (w.setCell ⟨B, i, none⟩ v) nb B g1 c1 tv pv s where
  low := h.low
  st := by obtain ⟨cur, hg, ht⟩ := h.st; exact ⟨cur, (Below.heap_setCell _ _ _ _ h.low.2).trans hg, ht⟩
  len := h.len
  tp := by
    obtain ⟨a2, c2, hv, ht⟩ := h.tp
    refine ⟨a2, c2, hv, ?_⟩
    rcases ht with ht | ⟨b, off, ha, ⟨cu, hcu⟩, h1, h2, h3, hc⟩
    · exact .inl ht
    · exact .inr ⟨b, off, ha, ⟨cu, (Below.heap_setCell _ _ _ _ h1).trans hcu⟩, h1, h2, h3, fun i hi => (World.cell?_of_block (w := w) (Below.heap_setCell _ _ _ _ h1)).trans (hc i hi)⟩
  prow := own_later h.prow (fun b e => Below.heap_setCell _ _ _ _ (fun e' => h.pB (by rw [e]; exact congrArg some e')))
  pB := h.pB
  pg := h.pg
/-- the machine's own block is laid -/
theorem Parts.mac {w : World} {nb B g1 c1 : Nat} {tv pv : Value} {s : St} (h : Parts w nb B g1 c1 tv pv s) (hnb : nb ≤ w.heap.size) (o : Ord) :
    Mac (w.alloc (.cells (mcells g1 c1 tv pv s o) 155)) nb w.heap.size g1 c1 tv pv s o := by
  have e : Ext w (w.alloc (.cells (mcells g1 c1 tv pv s o) 155)) := (Ext.refl w).alloc _
  obtain ⟨cur, hg, ht⟩ := h.st
  have lg := lt_of_block hg
  refine ⟨⟨hnb, h.low.1, by omega⟩, by show (w.heap.push _)[w.heap.size]? = _; simp, ⟨cur, (e.block g1 lg).trans hg, ht⟩, h.len, ?_, own_later h.prow (fun b hb => e.block b (own_lt h.prow hb)), fun hb => by have := own_lt h.prow hb; omega, h.pg⟩
  obtain ⟨a2, c2, hv, ht⟩ := h.tp
  refine ⟨a2, c2, hv, ?_⟩
  rcases ht with ht | ⟨b, off, ha, ⟨cu, hcu⟩, h1, h2, h3, hc⟩
  · exact .inl ht
  · have hlt := lt_of_block hcu
    exact .inr ⟨b, off, ha, ⟨cu, (e.block b hlt).trans hcu⟩, by omega, h2, h3, fun i hi => (e.cell (p := ⟨b, off + i, none⟩) hlt).trans (hc i hi)⟩
/-- open has made a machine -/
def OpenRes (s : St) (w : World) (e : Ending) (w' : World) : Prop :=
  ∃ m g1 c1 tv pv, e = .returned (.tuple #[.pointer (some ⟨m, 0, none⟩), .int .i64 0]) ∧ Mac w' w.heap.size m g1 c1 tv pv s ⟨0, 0, 0, 0⟩ ∧ Ext w w'
/-- the copy of the state, with slices of the call's own -/
def BoxRes (s : St) (w : World) (wx : World) : Prop :=
  ∃ g1 cs tv pv, wx.heap[w.heap.size]? = some (.cells #[.slice (some ⟨g1, 0, none⟩) 128 cs, tv, .int .i64 s.taken, pv, .int .i64 s.time, .int .i64 s.at_, .int .i64 s.done, .int .i64 s.why] 81 (0, 0)) ∧
    Parts wx w.heap.size w.heap.size g1 cs tv pv s ∧ Ext w wx
theorem box_res {w W0 ws wt wp W : World} {a1 a2 a3 as_ at_ ap : Option Addr} {c1 c2 c3 cs ct cp ns nt np n2 n3 : Nat} {s : St}
    (E0 : Ext (w.alloc (.cells #[.slice a1 128 c1, .slice a2 n2 c2, .int .i64 s.taken, .slice a3 n3 c3, .int .i64 s.time, .int .i64 s.at_, .int .i64 s.done, .int .i64 s.why] 81)) W0)
    (hs : ws.ownsRow ns 3 1 (.slice as_ 128 cs) 128 (iv s.store)) (ht : wt.ownsRow nt 3 1 (.slice at_ n2 ct) n2 (iv s.tape)) (hp : wp.ownsRow np 3 1 (.slice ap n3 cp) n3 (iv s.printed))
    (hl : s.store.length = 128 ∧ s.tape.length = n2 ∧ s.printed.length = n3) (EW : Ext W0 W)
    (es : Ext ws W) (et : Ext wt W) (ep : Ext wp W) (ls : w.heap.size < ns) (lt : w.heap.size < nt) (lp : w.heap.size < np)
    (d1 : ws.heap.size ≤ nt ∨ wt.heap.size ≤ ns) (d2 : ws.heap.size ≤ np ∨ wp.heap.size ≤ ns) (d3 : wt.heap.size ≤ np ∨ wp.heap.size ≤ nt) :
    BoxRes s w (((W.setCell ⟨w.heap.size, 0, none⟩ (.slice as_ 128 cs)).setCell ⟨w.heap.size, 1, none⟩ (.slice at_ n2 ct)).setCell ⟨w.heap.size, 3, none⟩ (.slice ap n3 cp)) := by
  obtain ⟨hl1, rfl, rfl⟩ := hl
  obtain ⟨g1, rfl, hP⟩ := parts_of (nb := w.heap.size) (B := w.heap.size) hs ht hp es et ep ⟨ls, by omega⟩ ⟨lt, by omega⟩ ⟨lp, by omega⟩ hl1 d1 d2 d3
  have hB : W.heap[w.heap.size]? = _ := ((E0.comp EW).block w.heap.size (by simp)).trans (show (w.heap.push _)[w.heap.size]? = _ by simp; rfl)
  refine ⟨g1, cs, _, _, cells_set (cells_set (cells_set hB 0 _) 1 _) 3 _, ((hP.set 0 _).set 1 _).set 3 _, ?_⟩
  exact (((E0.old.comp EW).setCell (p := ⟨w.heap.size, 0, none⟩) (Nat.le_refl _) _).setCell (p := ⟨w.heap.size, 1, none⟩) (Nat.le_refl _) _).setCell (p := ⟨w.heap.size, 3, none⟩) (Nat.le_refl _) _
set_option maxHeartbeats 4000000 in
set_option maxRecDepth 100000 in
theorem open_ok (a1 a2 a3 : Option Addr) (n2 n3 c1 c2 c3 : Nat) (s : St) (most : Int) (w : World) (l1 : s.store.length = 128) (l2 : s.tape.length = n2) (l3 : s.printed.length = n3) (b2 : n2 ≤ 200) (b3 : n3 ≤ 200)
    (i1 : IntsAt w a1 s.store) (i2 : IntsAt w a2 s.tape) (i3 : IntsAt w a3 s.printed) (hz : checkQ s = (0, 0, 0)) (hm : inB most 0 5000 = true) :
    Calls Try.prog 96 #[sv a1 a2 a3 128 c1 n2 c2 n3 c3 s.taken s.time s.at_ s.done s.why, .int .i64 most] w (OpenRes s w) := by
  have hc := fun W (E : Ext w W) => check_any (sv a1 a2 a3 128 c1 n2 c2 n3 c3 s.taken s.time s.at_ s.done s.why) s W ⟨a1, a2, a3, c1, c2, c3, by rw [l1, l2, l3], i1.ext E, i2.ext E, i3.ext E⟩ ⟨by omega, by omega, by omega⟩
  rw [hz] at hc
  have hcs' := fun W (E : Ext w W) => clone_any a1 128 c1 s.store W l1 (by decide) (i1.ext E)
  have hct' := fun W (E : Ext w W) => clone_any a2 n2 c2 s.tape W l2 (by omega) (i2.ext E)
  have hcp' := fun W (E : Ext w W) => clone_any a3 n3 c3 s.printed W l3 (by omega) (i3.ext E)
  have Hl := Lib.hid (And.intro l1 (And.intro l2 l3))
  clear i1 i2 i3 l1 l2 l3 hz
  go_enter Try.func96, Try.ntmps96
  go_wp2_with fail
  refine (hc _ (by exact (Ext.refl w).alloc _)).mono ?_
  rintro e w1 ⟨rfl, hb1⟩
  unfold v3
  go_wp2_with fail
  refine (out_one _ most _ _ (by simp) (by simp)).mono ?_
  rintro e W0 ⟨rfl, hb2⟩
  have E0 := hb1.comp hb2.old
  clear hc hb1 hb2
  have hcs := fun W (E : Ext W0 W) => hcs' W (E0.old.comp E)
  have hct := fun W (E : Ext W0 W) => hct' W (E0.old.comp E)
  have hcp := fun W (E : Ext W0 W) => hcp' W (E0.old.comp E)
  clear hcs' hct' hcp'
  have p0 := box_at (v := .slice a1 128 c1) E0 0 rfl
  have p1 := box_at (v := .slice a2 n2 c2) E0 1 rfl
  have p3 := box_at (v := .slice a3 n3 c3) E0 3 rfl
  have z0 : w.heap.size < W0.heap.size := by have := E0.size; simp at this; omega
  go_upto_region 6 with fail
  go_cut [] (fun wx => BoxRes s w wx)
  case first =>
    go_region_law (first | (go_simp; go_at_call_of 95 (Value.slice a1 128 c1); refine (hcs _ (by first | exact EBt | exact EBp | exact (Ext.refl W0).drew)).mono ?_; rintro e ws ⟨aas, ccs, rfl, hos, hbs⟩; have EBs : Ext W0 ws := (by first | exact Ext.comp EBt hbs | exact Ext.comp EBp hbs | exact Ext.comp (Ext.refl W0).drew hbs); have sc0 := box_at (v := .slice a1 128 c1) (E0.comp EBs) 0 rfl; have sf0 := box_free (E0.comp EBs) 0; have sc1 := box_at (v := .slice a2 n2 c2) (E0.comp EBs) 1 rfl; have sf1 := box_free (E0.comp EBs) 1; have sc3 := box_at (v := .slice a3 n3 c3) (E0.comp EBs) 3 rfl; have sf3 := box_free (E0.comp EBs) 3) | (go_simp; go_at_call_of 95 (Value.slice a2 n2 c2); refine (hct _ (by first | exact EBs | exact EBp | exact (Ext.refl W0).drew)).mono ?_; rintro e wt ⟨aat, cct, rfl, hot, hbt⟩; have EBt : Ext W0 wt := (by first | exact Ext.comp EBs hbt | exact Ext.comp EBp hbt | exact Ext.comp (Ext.refl W0).drew hbt); have tc0 := box_at (v := .slice a1 128 c1) (E0.comp EBt) 0 rfl; have tf0 := box_free (E0.comp EBt) 0; have tc1 := box_at (v := .slice a2 n2 c2) (E0.comp EBt) 1 rfl; have tf1 := box_free (E0.comp EBt) 1; have tc3 := box_at (v := .slice a3 n3 c3) (E0.comp EBt) 3 rfl; have tf3 := box_free (E0.comp EBt) 3) | (go_simp; go_at_call_of 95 (Value.slice a3 n3 c3); refine (hcp _ (by first | exact EBs | exact EBt | exact (Ext.refl W0).drew)).mono ?_; rintro e wp ⟨aap, ccp, rfl, hop, hbp⟩; have EBp : Ext W0 wp := (by first | exact Ext.comp EBs hbp | exact Ext.comp EBt hbp | exact Ext.comp (Ext.refl W0).drew hbp); have pc0 := box_at (v := .slice a1 128 c1) (E0.comp EBp) 0 rfl; have pf0 := box_free (E0.comp EBp) 0; have pc1 := box_at (v := .slice a2 n2 c2) (E0.comp EBp) 1 rfl; have pf1 := box_free (E0.comp EBp) 1; have pc3 := box_at (v := .slice a3 n3 c3) (E0.comp EBp) 3 rfl; have pf3 := box_free (E0.comp EBp) 3))
    all_goals
      go_wp2_with fail
      go_meet
      exact box_res E0 hos hot hop Hl.out (by first | exact EBs | exact EBt | exact EBp) (by first | exact Ext.refl _ | exact hbs | exact hbt | exact hbp | exact hbs.comp hbt | exact hbs.comp hbp | exact hbt.comp hbs | exact hbt.comp hbp | exact hbp.comp hbs | exact hbp.comp hbt) (by first | exact Ext.refl _ | exact hbs | exact hbt | exact hbp | exact hbs.comp hbt | exact hbs.comp hbp | exact hbt.comp hbs | exact hbt.comp hbp | exact hbp.comp hbs | exact hbp.comp hbt) (by first | exact Ext.refl _ | exact hbs | exact hbt | exact hbp | exact hbs.comp hbt | exact hbs.comp hbp | exact hbt.comp hbs | exact hbt.comp hbp | exact hbp.comp hbs | exact hbp.comp hbt) (by first | exact z0 | exact Nat.lt_of_lt_of_le z0 EBs.size | exact Nat.lt_of_lt_of_le z0 EBt.size | exact Nat.lt_of_lt_of_le z0 EBp.size) (by first | exact z0 | exact Nat.lt_of_lt_of_le z0 EBs.size | exact Nat.lt_of_lt_of_le z0 EBt.size | exact Nat.lt_of_lt_of_le z0 EBp.size) (by first | exact z0 | exact Nat.lt_of_lt_of_le z0 EBs.size | exact Nat.lt_of_lt_of_le z0 EBt.size | exact Nat.lt_of_lt_of_le z0 EBp.size) (by first | exact .inl (Nat.le_refl _) | exact .inr (Nat.le_refl _) | exact .inl hbs.size | exact .inl hbt.size | exact .inl hbp.size | exact .inr hbs.size | exact .inr hbt.size | exact .inr hbp.size) (by first | exact .inl (Nat.le_refl _) | exact .inr (Nat.le_refl _) | exact .inl hbs.size | exact .inl hbt.size | exact .inl hbp.size | exact .inr hbs.size | exact .inr hbt.size | exact .inr hbp.size) (by first | exact .inl (Nat.le_refl _) | exact .inr (Nat.le_refl _) | exact .inl hbs.size | exact .inl hbt.size | exact .inl hbp.size | exact .inr hbs.size | exact .inr hbt.size | exact .inr hbp.size)
  case rest =>
    obtain ⟨g1, cs, tv, pv, hB, hP, hE⟩ := hcut
    have k0 := cell_of_cells hB 0 (v := .slice (some ⟨g1, 0, none⟩) 128 cs) rfl
    have k1 := cell_of_cells hB 1 (v := tv) rfl
    have k2 := cell_of_cells hB 2 (v := .int .i64 s.taken) rfl
    have k3 := cell_of_cells hB 3 (v := pv) rfl
    have k4 := cell_of_cells hB 4 (v := .int .i64 s.time) rfl
    have k5 := cell_of_cells hB 5 (v := .int .i64 s.at_) rfl
    have k6 := cell_of_cells hB 6 (v := .int .i64 s.done) rfl
    have k7 := cell_of_cells hB 7 (v := .int .i64 s.why) rfl
    have hM := hP.mac hE.size ⟨0, 0, 0, 0⟩
    have hE2 : Ext w _ := hE.alloc (.cells (mcells g1 cs tv pv s ⟨0, 0, 0, 0⟩) 155)
    have HM := Lib.hid hM
    clear hM hB hP
    obtain ⟨at2, ct2, rfl⟩ : ∃ a c, tv = .slice a s.tape.length c := by
      obtain ⟨a, c, h, _⟩ := HM.out.tp
      exact ⟨a, c, h⟩
    obtain ⟨ap2, cp2, rfl⟩ : ∃ a c, pv = .slice a s.printed.length c := own_form HM.out.prow
    go_wp2_with fail
    go_ret2
    exact ⟨_, _, _, _, _, rfl, HM.out, hE2⟩
end Go.Proofs.Ytcijneecjkpebaa
/- Contracts: the reference's Ints; the program's Begin. -/
namespace Go.Proofs.Ytcijneecjkpebaa
open Go.RowKit Go.Q
theorem ints_eq {xs ys : List Int} (hl : xs.length = ys.length) (h : ∀ j, j < xs.length → xs[j]?.getD 0 = ys[j]?.getD 0) : xs = ys := by
  apply List.ext_getElem hl
  intro i h1 h2
  have := h i h1
  rw [List.getElem?_eq_getElem h1, List.getElem?_eq_getElem h2] at this
  simpa using this
set_option maxHeartbeats 1000000 in
theorem ints_any (a b : Option Addr) (n m c d : Nat) (xs ys : List Int) (w : World) (hn : xs.length = n) (hm : ys.length = m) (b1 : n ≤ 9223372036854775807) (b2 : m ≤ 9223372036854775807) (hI : IntsAt w a xs) (hJ : IntsAt w b ys) :
    Calls Try.prog 25 #[.slice a n c, .slice b m d] w fun e w' => e = .returned (.bool (decide (xs = ys))) ∧ Ext w w' := by
  by_cases hnm : n = m
  · subst hnm
    by_cases h0 : n = 0
    · subst h0
      have e1 : xs = [] := List.eq_nil_of_length_eq_zero hn
      have e2 : ys = [] := List.eq_nil_of_length_eq_zero hm
      subst e1; subst e2
      clear hI hJ hn hm
      go_enter Try.func25, Try.ntmps25
      go_wp2
      go_loop [5] (fun s => s = .int .i64 0) (fun _ => 0)
      case atStart => exact rfl
      case round =>
        obtain rfl := hrel
        go_wp2
        go_ret
        exact ⟨rfl, Ext.refl _⟩
    · rcases hI with e | ⟨ba, oa, rfl, _, hc⟩
      · subst e; exact absurd hn.symm h0
      rcases hJ with e | ⟨bb, ob, rfl, _, hd⟩
      · subst e; exact absurd hm.symm h0
      have hne : ((n : Int) != (n : Int)) = false := by simp
      have Hn := Lib.hid hn
      have Hm := Lib.hid hm
      rw [hn] at hc
      rw [hm] at hd
      clear hn hm h0
      go_enter Try.func25, Try.ntmps25
      go_wp2
      go_loopw [5] (fun s wr => ∃ k : Nat, k ≤ n ∧ s = .int .i64 k ∧ Aside (Ext w wr) ∧ Aside (∀ j, j < k → xs[j]?.getD 0 = ys[j]?.getD 0)) (fun s _ => n - (intOf s).toNat)
      case atStart => exact ⟨0, Nat.zero_le _, rfl, Ext.refl w, fun j hj => absurd hj (Nat.not_lt_zero _)⟩
      case round =>
        obtain ⟨k, hk, rfl, EW, A⟩ := hrel
        by_cases hlt : k < n
        · have hltz : (k : Int) < (n : Int) := by omega
          have p := cell_later EW.out (hc k hlt)
          have q := cell_later EW.out (hd k hlt)
          have hk0 : (0 : Int) ≤ (k : Int) := by omega
          clear hc hd
          generalize hx : xs[k]?.getD 0 = x at p
          generalize hy : ys[k]?.getD 0 = y at q
          have Hx := Lib.hid hx
          have Hy := Lib.hid hy
          clear hx hy
          cases hq : x == y with
          | true =>
            have hq' : (x != y) = false := by rw [bne, hq]; rfl
            have Hq := Lib.hid hq
            clear hq
            go_wp2
            go_quiet (fail)
            go_wp2
            go_roundw
            case rel =>
              refine ⟨k + 1, by omega, by go_num, below_drewN EW.out _, (show Aside _ from fun j hj => ?_)⟩
              by_cases e : j = k
              · subst e
                rw [Hx.out, Hy.out]; simpa using Hq.out
              · exact A.out j (by omega)
            case measure => simp [intOf]; omega
          | false =>
            have hq' : (x != y) = true := by rw [bne, hq]; rfl
            have Hq := Lib.hid hq
            clear hq
            go_wp2
            go_quiet (fail)
            go_wp2
            go_ret
            refine ⟨ret_bool ?_, below_drewN EW.out _⟩
            symm; rw [decide_eq_false_iff_not]
            intro e
            have : x = y := by rw [← Hx.out, ← Hy.out, e]
            have := Hq.out
            simp_all
        · have hltz : ¬ (k : Int) < (n : Int) := by omega
          go_wp2
          go_ret
          refine ⟨ret_bool ?_, EW.out⟩
          symm; rw [decide_eq_true_iff]
          exact ints_eq (by rw [Hn.out, Hm.out]) (fun j hj => A.out j (by have := Hn.out; omega))
  · have hne : ((n : Int) != (m : Int)) = true := by rw [bne_iff_ne]; omega
    have e : decide (xs = ys) = false := by rw [decide_eq_false_iff_not]; intro e; subst e; omega
    rw [e]
    clear hnm hn hm e hI hJ
    go_enter Try.func25, Try.ntmps25
    go_wp2
    go_ret
    exact ⟨rfl, Ext.refl _⟩
end Go.Proofs.Ytcijneecjkpebaa
/- Append to a row of the call's own, the source nil or not, in a plain region and in one that draws; what such a row reads as. -/
namespace Go.Q
open Go.RowKit
/-- the cells news lie from a on; where there are none nothing is asked -/
def From (w : World) (a : Option Addr) (news : List Value) : Prop := news = [] ∨ ∃ ad, a = some ad ∧ ∀ j u, news[j]? = some u → w.cell? (ad.add j) = some u
theorem ext_drewN {a b : World} (h : Ext a b) (n : Nat) : Ext a (b.drewN n) := below_drewN h n
theorem ext_drew {a b : World} (h : Ext a b) : Ext a b.drew := h.drew
theorem run_app_nil {P : Program} {w : World} (t ty e : TypeId) {i : TypeInfo} (ht : P.underlying t = some (.slice e)) (hi : P.info? e = some i) {B sz n : Nat} {v : Value} {xs : List Value}
    (hown : w.ownsRow B e sz v n xs) (c : Nat) : (Builtin.append_ #[t, t] ty #[v, .slice none 0 c]).run P w = .ok v w := by
  rcases hown.2 with ⟨h, _⟩ | ⟨g, cap, cur, h, _, _, hle, _⟩ <;> subst h
  · simp [Builtin.append_, Builtin.lenOf, Builtin.firstCells, run_underlying ht, sizeOf, typeInfo, hi]
  · simp [Builtin.append_, Builtin.lenOf, Builtin.firstCells, run_underlying ht, sizeOf, typeInfo, hi, hle, storeCells]
theorem run_app {P : Program} {w0 w : World} (t ty e : TypeId) (i : TypeInfo) (z : Value) (sz bytes : Nat) (ht : P.underlying t = some (.slice e)) (hi : P.info? e = some i) (hz : i.zero = some z) (hs : i.size = sz) (hb : i.bytes = bytes) (hzs : z.cells.size = sz) (hsz : 0 < sz)
    (v : Value) (n B : Nat) (xs : List Value) (hown : w.ownsRow B e sz v n xs) (hE : Ext w0 w) (hB0 : w0.heap.size ≤ B) (hB1 : B ≤ w.heap.size)
    (a : Option Addr) (m c : Nat) (news : List Value) (hl : news.length = m * sz) (hf : From w a news) (h1 : ∀ u ∈ news, u.oneCell' = true) (h63 : n + m ≤ maxLen) (hbytes : (n + m) * bytes ≤ 140737488355328) :
    ∃ (a' : Option Addr) (c' : Nat) (w' : World), (Builtin.append_ #[t, t] ty #[v, .slice a m c]).run P w = .ok (.slice a' (n + m) c') w' ∧ w'.ownsRow B e sz (.slice a' (n + m) c') (n + m) (xs ++ news) ∧ Ext w0 w' ∧ w.grownBy w' v.ownBlock := by
  have hrow : ∀ k, v.ownBlock = some k → w0.heap.size ≤ k := fun k hk => Nat.le_trans hB0 (hown.lt k hk).1
  have fin : ∀ (v' : Value) (w' : World), w'.ownsRow B e sz v' (n + m) (xs ++ news) → ∃ a' c', v' = .slice a' (n + m) c' := by
    intro v' w' h
    rcases h.2 with ⟨h1, h2⟩ | ⟨g, cap, cur, h1, _⟩
    · exact ⟨none, 0, by rw [h2]; exact h1⟩
    · exact ⟨_, _, h1⟩
  cases a with
  | none =>
    have hn : news = [] := by
      rcases hf with h | ⟨ad, h, _⟩
      · exact h
      · cases h
    subst hn
    have hm : m = 0 := by
      rcases Nat.eq_zero_or_pos m with h | h
      · exact h
      · have : 0 < m * sz := Nat.mul_pos h hsz
        simp at hl; omega
    subst hm
    have ho : w.ownsRow B e sz v (n + 0) (xs ++ []) := by simpa using hown
    obtain ⟨a', c', hv⟩ := fin v w ho
    exact ⟨a', c', w, by rw [← hv]; exact run_app_nil t ty e ht hi hown c, by rw [← hv]; exact ho, hE, World.grownBy.refl w _⟩
  | some ad =>
    have hc : ∀ j u, news[j]? = some u → w.cell? (ad.add j) = some u := by
      rcases hf with h | ⟨ad', h, hc⟩
      · subst h; intro j u hu; simp at hu
      · cases h; exact hc
    obtain ⟨v', w', hr, h2, h3, _, _⟩ := run_append_own_at (P := P) w B t ty e i z sz bytes ht hi hz hs hb hzs hsz v n xs hown ad m c news hl hc h1 h63 hbytes hB1
    obtain ⟨a', c', hv⟩ := fin v' w' h2
    exact ⟨a', c', w', by rw [hr, hv], by rw [← hv]; exact h2, hE.grown h3 hE.size hrow, h3⟩
section
variable {P : Program} {w0 w : World}
theorem wp_app {o : Oper} {act : Act} {K : Act → World → Prop} {Q : Exit → Act → World → Prop} (s x : Operand) (t : TypeId)
    (ho : o.op = .call { callee := .builtin .append, args := #[s, x], argTypes := #[t, t] })
    (e : TypeId) (i : TypeInfo) (z : Value) (sz bytes : Nat) (ht : P.underlying t = some (.slice e)) (hi : P.info? e = some i) (hz : i.zero = some z) (hs : i.size = sz) (hb : i.bytes = bytes) (hzs : z.cells.size = sz) (hsz : 0 < sz)
    (v : Value) (n B : Nat) (xs : List Value) (he : act.eval s = v) (hown : w.ownsRow B e sz v n xs) (hE : Ext w0 w) (hB0 : w0.heap.size ≤ B) (hB1 : B ≤ w.heap.size)
    (a : Option Addr) (m c : Nat) (news : List Value) (hx : act.eval x = .slice a m c) (hl : news.length = m * sz) (hf : From w a news) (h1 : ∀ u ∈ news, u.oneCell' = true) (h63 : n + m ≤ maxLen) (hbytes : (n + m) * bytes ≤ 140737488355328)
    (h : ∀ (a' : Option Addr) (c' : Nat) (w' : World), w'.ownsRow B e sz (.slice a' (n + m) c') (n + m) (xs ++ news) → Ext w0 w' → w.grownBy w' v.ownBlock → K (act.put o.dst (.slice a' (n + m) c')) w') : o.wp P act w K Q := by
  obtain ⟨a', c', w', hr, h2, h3, h4⟩ := run_app (P := P) t o.type e i z sz bytes ht hi hz hs hb hzs hsz v n B xs hown hE hB0 hB1 a m c news hl hf h1 h63 hbytes
  have hk := h a' c' w' h2 h3 h4
  unfold Oper.wp execOp
  simp only [ho, resolve, invoke, builtin, Sem.run_bind, Sem.run_pure, Result.andThen_ok, List.map_toArray, List.map_cons, List.map_nil, he, hx, hr]
  exact hk
theorem wpList_app {ops : Array Oper} {rest : List Oper} {o : Oper} {act : Act} {Q : Exit → Act → World → Prop} (hgd : o.guard = none) (s x : Operand) (t : TypeId)
    (ho : o.op = .call { callee := .builtin .append, args := #[s, x], argTypes := #[t, t] })
    (e : TypeId) (i : TypeInfo) (z : Value) (sz bytes : Nat) (ht : P.underlying t = some (.slice e)) (hi : P.info? e = some i) (hz : i.zero = some z) (hs : i.size = sz) (hb : i.bytes = bytes) (hzs : z.cells.size = sz) (hsz : 0 < sz)
    (v : Value) (n B : Nat) (xs : List Value) (he : act.eval s = v) (hown : w.ownsRow B e sz v n xs) (hE : Ext w0 w) (hB0 : w0.heap.size ≤ B) (hB1 : B ≤ w.heap.size)
    (a : Option Addr) (m c : Nat) (news : List Value) (hx : act.eval x = .slice a m c) (hl : news.length = m * sz) (hf : From w a news) (h1 : ∀ u ∈ news, u.oneCell' = true) (h63 : n + m ≤ maxLen) (hbytes : (n + m) * bytes ≤ 140737488355328)
    (h : ∀ (a' : Option Addr) (c' : Nat) (w' : World), w'.ownsRow B e sz (.slice a' (n + m) c') (n + m) (xs ++ news) → Ext w0 w' → w.grownBy w' v.ownBlock → wpList P ops Q rest (act.put o.dst (.slice a' (n + m) c')) w') : wpList P ops Q (o :: rest) act w :=
  wpList_plain hgd fun _ hK => wp_app s x t ho e i z sz bytes ht hi hz hs hb hzs hsz v n B xs he hown hE hB0 hB1 a m c news hx hl hf h1 h63 hbytes fun a' c' w' h2 h3 h4 => hK _ _ (h a' c' w' h2 h3 h4)
theorem step_app {ops : Array Oper} {o : Oper} {act : Act} {K : Act → World → Prop} {Q : Exit → Act → World → Prop} {E : Prop} (hgd : o.guard = none) (s x : Operand) (t : TypeId)
    (ho : o.op = .call { callee := .builtin .append, args := #[s, x], argTypes := #[t, t] })
    (e : TypeId) (i : TypeInfo) (z : Value) (sz bytes : Nat) (ht : P.underlying t = some (.slice e)) (hi : P.info? e = some i) (hz : i.zero = some z) (hs : i.size = sz) (hb : i.bytes = bytes) (hzs : z.cells.size = sz) (hsz : 0 < sz)
    (v : Value) (n B : Nat) (xs : List Value) (he : act.eval s = v) (hown : w.ownsRow B e sz v n xs) (hE : Ext w0 w) (hB0 : w0.heap.size ≤ B) (hB1 : B ≤ w.heap.size)
    (a : Option Addr) (m c : Nat) (news : List Value) (hx : act.eval x = .slice a m c) (hl : news.length = m * sz) (hf : From w a news) (h1 : ∀ u ∈ news, u.oneCell' = true) (h63 : n + m ≤ maxLen) (hbytes : (n + m) * bytes ≤ 140737488355328)
    (h : ∀ (a' : Option Addr) (c' : Nat) (w' : World), w'.ownsRow B e sz (.slice a' (n + m) c') (n + m) (xs ++ news) → Ext w0 w' → w.grownBy w' v.ownBlock → K (act.put o.dst (.slice a' (n + m) c')) w') :
    if Region.wanted o (yielded ops act.tmps) = true then Oper.wp P o act w K Q else E := by
  rw [if_pos (by simp [Region.wanted, hgd])]
  exact wp_app s x t ho e i z sz bytes ht hi hz hs hb hzs hsz v n B xs he hown hE hB0 hB1 a m c news hx hl hf h1 h63 hbytes h
end
/-- an empty literal -/
theorem own_empty {w w1 : World} {e : TypeId} {sz : Nat} (hE : Ext (w.alloc (.cells #[] e)) w1) : w1.ownsRow w.heap.size e sz (.slice (some ⟨w.heap.size, 0, none⟩) 0 0) 0 [] :=
  ⟨by simp, .inr ⟨w.heap.size, 0, #[], rfl, Nat.le_refl _, (hE.block w.heap.size (by simp)).trans (heap_alloc_new w _), Nat.le_refl _, Nat.zero_le _, by simp, by simp⟩⟩
theorem own_empty2 {w w1 : World} {e : TypeId} {sz n : Nat} (hn : w.heap.size = n) (hE : Ext (w.alloc (.cells #[] e)) w1) : w1.ownsRow n e sz (.slice (some ⟨n, 0, none⟩) 0 0) 0 [] := by
  subst hn; exact own_empty hE
end Go.Q
namespace Go.Proofs.Ytcijneecjkpebaa
open Go.RowKit Go.Q
theorem from_ints {w : World} {a : Option Addr} {xs : List Int} (h : IntsAt w a xs) : From w a (iv xs) := by
  rcases h with h | ⟨b, off, ha, hb, hc⟩
  · subst h; exact .inl rfl
  · refine .inr ⟨_, ha, fun j u hu => ?_⟩
    have hj : j < xs.length := by
      rcases Nat.lt_or_ge j xs.length with h | h
      · exact h
      · rw [List.getElem?_eq_none (by simpa [iv_length] using h)] at hu; cases hu
    rw [iv_get xs j hj] at hu
    obtain rfl := Option.some.inj hu
    rw [Addr.add_lit]
    exact hc j hj
theorem iv_set (xs : List Int) (i : Nat) (x : Int) : (iv xs).set i (.int .i64 x) = iv (xs.set i x) := by unfold iv; rw [List.map_set]
theorem iv_app (xs ys : List Int) : iv xs ++ iv ys = iv (xs ++ ys) := by unfold iv; rw [List.map_append]
end Go.Proofs.Ytcijneecjkpebaa
/- Layer 1 (line) in plain Lean: what the functions compute; no program in sight. -/
namespace Go.Q
structure Ln where
  words : Int
  bits : Int
  period : Int
  delay : Int
  slope : Int
  window : Int
structure Sp where
  lo : Int
  hi : Int
deriving DecidableEq
structure Ov where
  low : Int
  high : Int
  warm : Sp
  cool : Sp
def okL (l : Ln) : Bool := inB l.words 1 64 && inB l.bits 1 40 && inB l.period 2 100000 && inB l.delay 0 1000000000 && inB l.slope (-100000) 100000 && inB l.window 0 ((l.period - 1) / 2)
/-- what Check returns -/
def checkL (l : Ln) : Int := if okL l = true then 0 else 7
def tempB (t : Int) : Bool := inB t (-500) 1000
def beatsL (l : Ln) : Int := l.words * l.bits
/-- a line that is valid -/
structure OkL (l : Ln) : Prop where
  words : 1 ≤ l.words ∧ l.words ≤ 64
  bits : 1 ≤ l.bits ∧ l.bits ≤ 40
  period : 2 ≤ l.period ∧ l.period ≤ 100000
  delay : 0 ≤ l.delay ∧ l.delay ≤ 1000000000
  slope : -100000 ≤ l.slope ∧ l.slope ≤ 100000
  window : 0 ≤ l.window ∧ l.window ≤ (l.period - 1) / 2
theorem okL_ok {l : Ln} (h : okL l = true) : OkL l := by
  simp only [okL, Bool.and_eq_true] at h
  obtain ⟨⟨⟨⟨⟨a, b⟩, c⟩, d⟩, e⟩, f⟩ := h
  exact ⟨inB_bd a, inB_bd b, inB_bd c, inB_bd d, inB_bd e, inB_bd f⟩
theorem mul_bd {a b A B : Int} (a0 : 0 ≤ a) (a1 : a ≤ A) (b0 : 0 ≤ b) (b1 : b ≤ B) : 0 ≤ a * b ∧ a * b ≤ A * B :=
  ⟨Int.mul_nonneg a0 b0, Int.mul_le_mul a1 b1 b0 (by omega)⟩
theorem OkL.beats {l : Ln} (h : OkL l) : 1 ≤ beatsL l ∧ beatsL l ≤ 2560 := by
  have h1 := mul_bd (a := l.words) (b := l.bits) (by have := h.words; omega) h.words.2 (by have := h.bits; omega) h.bits.2
  have h2 : 1 * 1 ≤ l.words * l.bits := Int.mul_le_mul h.words.1 h.bits.1 (by omega) (by have := h.words; omega)
  unfold beatsL
  omega
theorem mul_abs {s t S T : Int} (hs : -S ≤ s ∧ s ≤ S) (ht : -T ≤ t ∧ t ≤ T) : -(S * T) ≤ s * t ∧ s * t ≤ S * T := by
  have key : ∀ a b : Int, 0 ≤ a → a ≤ S → -T ≤ b → b ≤ T → -(S * T) ≤ a * b ∧ a * b ≤ S * T := by
    intro a b a0 a1 b0 b1
    have hT : 0 ≤ T := by omega
    rcases Int.le_total 0 b with hb | hb
    · have := mul_bd a0 a1 hb b1; have hST := Int.mul_nonneg (by omega : 0 ≤ S) hT; omega
    · have := mul_bd a0 a1 (b := -b) (B := T) (by omega) (by omega); rw [Int.mul_neg] at this; have hST := Int.mul_nonneg (by omega : 0 ≤ S) hT; omega
  rcases Int.le_total 0 s with h | h
  · exact key s t h hs.2 ht.1 ht.2
  · have := key (-s) t (by omega) (by omega) ht.1 ht.2
    rw [Int.neg_mul] at this
    omega
theorem OkL.slopeT {l : Ln} (h : OkL l) {t : Int} (ht : -100000 ≤ t ∧ t ≤ 100000) : -10000000000 ≤ l.slope * t ∧ l.slope * t ≤ 10000000000 := by
  have := mul_abs (S := 100000) (T := 100000) h.slope ht
  omega
theorem OkL.span {l : Ln} (h : OkL l) : 2 ≤ beatsL l * l.period ∧ beatsL l * l.period ≤ 256000000 := by
  have hb := h.beats
  have hp := h.period
  have h1 := mul_bd (a := beatsL l) (b := l.period) (by omega) hb.2 (by omega) hp.2
  have h2 : 1 * 2 ≤ beatsL l * l.period := Int.mul_le_mul hb.1 hp.1 (by omega) (by omega)
  omega
/-- by how much pulses are late, from the lower end of the window on -/
def lateL (l : Ln) (t : Int) : Int := l.delay + l.slope * t - beatsL l * l.period + l.window
def lostL (l : Ln) (t : Int) : Bool := decide (2 * l.window < lateL l t % l.period)
/-- by how many beats pulses are late -/
def byL (l : Ln) (t : Int) : Int := lateL l t / l.period
/-- what shift returns -/
def shiftV (l : Ln) (t : Int) : Int × Bool := if lostL l t = true then (0, true) else (byL l t, false)
def safeL (l : Ln) (t : Int) : Bool := (byL l t == 0) && !lostL l t && tempB t
def turnL (l : Ln) (n : Int) : Int := n % beatsL l
/-- what Shift and Next return -/
def shiftE (l : Ln) (t : Int) : Int × Bool × Int := if okL l = true ∧ tempB t = true then ((shiftV l t).1, (shiftV l t).2, 0) else (0, false, 7)
def nextE (l : Ln) (word beat : Int) : Int × Int :=
  if okL l = true ∧ inB word 0 (l.words - 1) = true ∧ inB beat 0 1000000000 = true then (beat + 1 + turnL l (word * l.bits - beat - 1), 0) else (0, 7)
theorem OkL.late {l : Ln} (h : OkL l) {t : Int} (ht : -100000 ≤ t ∧ t ≤ 100000) : -11000000000 ≤ lateL l t ∧ lateL l t ≤ 12000000000 := by
  have h1 := h.slopeT ht
  have h2 := h.span
  have h3 := h.delay
  have h4 := h.window
  have h5 := h.period
  unfold lateL
  omega
/-- division that rounds to zero, and the correction -/
theorem floor_of_tdiv {a b : Int} (hb : 0 < b) : (if a.tmod b < 0 then a.tdiv b - 1 else a.tdiv b) = a / b := by
  rcases Int.le_total 0 a with h | h
  · rw [Int.tdiv_eq_ediv_of_nonneg h, Int.tmod_eq_emod_of_nonneg h, if_neg]
    have := Int.emod_nonneg a (show b ≠ 0 by omega)
    omega
  · have e1 : a.tdiv b = -((-a) / b) := by
      rw [show a = -(-a) by omega, Int.neg_tdiv, Int.tdiv_eq_ediv_of_nonneg (by omega)]; simp
    have e2 : a.tmod b = -((-a) % b) := by
      rw [show a = -(-a) by omega, Int.neg_tmod, Int.tmod_eq_emod_of_nonneg (by omega)]; simp
    have d1 := Int.emod_add_mul_ediv (-a) b
    have d2 := Int.emod_nonneg (-a) (show b ≠ 0 by omega)
    have d3 := Int.emod_lt_of_pos (-a) hb
    rw [e1, e2]
    generalize (-a) / b = q at *
    generalize hr : (-a) % b = r at *
    symm
    split
    · have ha : a = (b - r) + b * (-q - 1) := by rw [Int.mul_sub, Int.mul_neg]; omega
      rw [ha, Int.add_mul_ediv_left _ _ (by omega), Int.ediv_eq_zero_of_lt (by omega) (by omega)]
      omega
    · have ha : a = b * (-q) := by rw [Int.mul_neg]; omega
      rw [ha, Int.mul_ediv_cancel_left _ (by omega)]
theorem turn_of_tmod {a b : Int} (hb : 0 < b) : (a.tmod b + b).tmod b = a % b := by
  have e : (a.tmod b + b).tmod b = (a.tmod b + b) % b := by
    apply Int.tmod_eq_emod_of_nonneg
    have := Int.lt_tmod_of_pos a hb
    omega
  rw [e, Int.add_emod_right]
  rcases Int.le_total 0 a with h | h
  · rw [Int.tmod_eq_emod_of_nonneg h]; simp
  · rw [Int.tmod_eq_emod]
    split
    · simp
    · rw [show (b.natAbs : Int) = b by omega, Int.sub_emod]; simp
/-- a byte of a name, at its place -/
def nameC (i : Nat) (c : Int) : Bool := (decide (97 ≤ c) && decide (c ≤ 122)) || (decide (0 < i) && ((c == 95) || (decide (48 ≤ c) && decide (c ≤ 57))))
/-- the bytes of a name -/
def nameB (s : List Int) : Bool := inB s.length 1 20 && !((s[s.length - 1]?.getD 0) == 95) && (List.range s.length).all fun i => nameC i (s[i]?.getD 0)
/-- the bytes of a string -/
def bytesS (s : ByteArray) : List Int := s.data.toList.map fun b => (b.toNat : Int)
theorem bytesS_length (s : ByteArray) : (bytesS s).length = s.size := by unfold bytesS; rw [List.length_map]; rfl
theorem bytesS_get (s : ByteArray) (i : Nat) (h : i < s.size) : (bytesS s)[i]?.getD 0 = (s[i].toNat : Int) := by
  unfold bytesS
  rw [List.getElem?_map, List.getElem?_eq_getElem (by simpa using h)]
  rfl
end Go.Q
/- Layer 1 in plain Lean: the pulses of words, what rounds make of them, the words of pulses. -/
namespace Go.Q
/-- bit k of a number -/
def bitN (x : Int) (k : Nat) : Bool := x / 2 ^ k % 2 == 1
/-- the first n of what f gives -/
def fstN {α : Type} (f : Nat → α) (n : Nat) : List α := (List.range n).map f
theorem fstN_succ {α : Type} (f : Nat → α) (n : Nat) : fstN f (n + 1) = fstN f n ++ [f n] := by unfold fstN; rw [List.range_succ, List.map_append]; rfl
theorem fstN_length {α : Type} (f : Nat → α) (n : Nat) : (fstN f n).length = n := by unfold fstN; rw [List.length_map, List.length_range]
theorem fstN_get {α : Type} (f : Nat → α) {n i : Nat} (h : i < n) : (fstN f n)[i]? = some (f i) := by unfold fstN; rw [List.getElem?_map, List.getElem?_range h]; rfl
/-- the pulses of a word, of so many words -/
def pulse1 (bits : Nat) (x : Int) : List Bool := fstN (bitN x) bits
def pulsesN (bits : Nat) (ws : List Int) : List Bool := ws.flatMap (pulse1 bits)
theorem pulse1_length (bits : Nat) (x : Int) : (pulse1 bits x).length = bits := fstN_length _ _
theorem pulsesN_length (bits : Nat) : ∀ ws : List Int, (pulsesN bits ws).length = ws.length * bits
  | [] => by simp [pulsesN]
  | x :: ws => by
    have := pulsesN_length bits ws
    unfold pulsesN at this ⊢
    rw [List.flatMap_cons, List.length_append, this, pulse1_length, List.length_cons, Nat.add_mul]; omega
theorem pulsesN_snoc (bits : Nat) (ws : List Int) (x : Int) : pulsesN bits (ws ++ [x]) = pulsesN bits ws ++ pulse1 bits x := by simp [pulsesN]
/-- pulse k * bits + i is bit i of word k -/
theorem pulsesN_get (bits : Nat) : ∀ (ws : List Int) (k i : Nat), k < ws.length → i < bits → (pulsesN bits ws)[k * bits + i]? = some (bitN (ws[k]?.getD 0) i)
  | [], k, i, hk, _ => by simp at hk
  | x :: ws, 0, i, _, hi => by
    unfold pulsesN
    rw [List.flatMap_cons, List.getElem?_append_left (by rw [pulse1_length]; omega)]
    have e := fstN_get (bitN x) hi
    simpa [pulse1] using e
  | x :: ws, k + 1, i, hk, hi => by
    have ih := pulsesN_get bits ws k i (by simpa using hk) hi
    unfold pulsesN at ih ⊢
    rw [List.flatMap_cons, List.getElem?_append_right (by rw [pulse1_length, Nat.add_mul]; omega), pulse1_length, show (k + 1) * bits + i - bits = k * bits + i by rw [Nat.add_mul]; omega, ih]
    simp
/-- the number of the first j bits -/
def sumB (f : Nat → Bool) : Nat → Int
  | 0 => 0
  | j + 1 => sumB f j + (if f j = true then 2 ^ j else 0)
theorem sumB_bd (f : Nat → Bool) : ∀ j, 0 ≤ sumB f j ∧ sumB f j < 2 ^ j
  | 0 => by simp [sumB]
  | j + 1 => by
    have ih := sumB_bd f j
    have h2 : (0 : Int) ≤ 2 ^ j := by have := Int.pow_pos (n := 2) (m := j) (by decide); omega
    unfold sumB
    rw [Int.pow_succ]
    split <;> omega
theorem sumB_congr {f g : Nat → Bool} : ∀ j, (∀ i, i < j → f i = g i) → sumB f j = sumB g j
  | 0, _ => rfl
  | j + 1, h => by unfold sumB; rw [sumB_congr j (fun i hi => h i (by omega)), h j (by omega)]
theorem sumB_bits {x : Int} (h0 : 0 ≤ x) : ∀ j, sumB (bitN x) j = x % 2 ^ j
  | 0 => by simp [sumB]
  | j + 1 => by
    have ih := sumB_bits h0 j
    have hp : (0 : Int) < 2 ^ j := Int.pow_pos (by decide)
    unfold sumB
    rw [ih, Int.pow_succ]
    have e1 := Int.emod_add_mul_ediv x (2 ^ j)
    have e2 := Int.emod_add_mul_ediv (x / 2 ^ j) 2
    have e3 := Int.emod_nonneg x (show (2 : Int) ^ j ≠ 0 by omega)
    have e4 := Int.emod_lt_of_pos x hp
    have e5 : x = x % 2 ^ j + 2 ^ j * (x / 2 ^ j % 2) + 2 ^ j * 2 * (x / 2 ^ j / 2) := by
      rw [Int.mul_assoc, Int.add_assoc, ← Int.mul_add, e2, e1]
    have e6 : (if bitN x j = true then (2 : Int) ^ j else 0) = 2 ^ j * (x / 2 ^ j % 2) := by
      unfold bitN
      rcases Int.emod_two_eq (x / 2 ^ j) with h | h <;> rw [h] <;> simp
    rw [e6]
    have e7 : 0 ≤ x % 2 ^ j + 2 ^ j * (x / 2 ^ j % 2) ∧ x % 2 ^ j + 2 ^ j * (x / 2 ^ j % 2) < 2 ^ j * 2 := by
      rcases Int.emod_two_eq (x / 2 ^ j) with h | h <;> rw [h] <;> omega
    conv => rhs; rw [e5]
    rw [Int.add_mul_emod_self_left, Int.emod_eq_of_lt e7.1 e7.2]
/-- the words of pulses -/
def wordN (bits : Nat) (ps : List Bool) (k : Nat) : Int := sumB (fun i => ps[k * bits + i]?.getD false) bits
def wordsN (bits n : Nat) (ps : List Bool) : List Int := fstN (wordN bits ps) n
theorem words_pulses {bits : Nat} {ws : List Int} (h : ∀ x ∈ ws, 0 ≤ x ∧ x < 2 ^ bits) : wordsN bits ws.length (pulsesN bits ws) = ws := by
  refine List.ext_getElem? fun k => ?_
  by_cases hk : k < ws.length
  · unfold wordsN
    rw [fstN_get _ hk, List.getElem?_eq_getElem hk]
    obtain ⟨h0, h1⟩ := h ws[k] (List.getElem_mem hk)
    unfold wordN
    rw [sumB_congr (g := bitN ws[k]) bits (fun i hi => by rw [pulsesN_get bits ws k i hk hi, List.getElem?_eq_getElem hk]; rfl), sumB_bits h0, Int.emod_eq_of_lt h0 h1]
  · rw [List.getElem?_eq_none (by unfold wordsN; rw [fstN_length]; omega), List.getElem?_eq_none (by omega)]
/-- pulses that come s beats later -/
def lateP (ps : List Bool) (s : Nat) : List Bool := ps.drop (ps.length - s) ++ ps.take (ps.length - s)
theorem lateP_length (ps : List Bool) (s : Nat) : (lateP ps s).length = ps.length := by
  unfold lateP; rw [List.length_append, List.length_drop, List.length_take]; omega
theorem lateP_get {ps : List Bool} {s k : Nat} (hs : s ≤ ps.length) (hk : k < ps.length) : (lateP ps s)[k]? = if k < s then ps[ps.length - s + k]? else ps[k - s]? := by
  unfold lateP
  split
  · rw [List.getElem?_append_left (by rw [List.length_drop]; omega), List.getElem?_drop]
  · rw [List.getElem?_append_right (by rw [List.length_drop]; omega), List.length_drop, List.getElem?_take, if_pos (by omega)]
    congr 1; omega
/-- the pulses after a round -/
def roundP (l : Ln) (ps : List Bool) (t : Int) : List Bool := if lostL l t = true then List.replicate ps.length false else lateP ps (turnL l (byL l t)).toNat
def roundsP (l : Ln) (ps : List Bool) (ts : List Int) : List Bool := ts.foldl (roundP l) ps
theorem roundP_length (l : Ln) (ps : List Bool) (t : Int) : (roundP l ps t).length = ps.length := by
  unfold roundP; split
  · simp
  · exact lateP_length _ _
theorem roundsP_length (l : Ln) : ∀ (ts : List Int) (ps : List Bool), (roundsP l ps ts).length = ps.length
  | [], _ => rfl
  | t :: ts, ps => by
    show (roundsP l (roundP l ps t) ts).length = _
    rw [roundsP_length l ts, roundP_length]
theorem roundsP_snoc (l : Ln) (ps : List Bool) (ts : List Int) (t : Int) : roundsP l ps (ts ++ [t]) = roundP l (roundsP l ps ts) t := by simp [roundsP]
/-- the error of words -/
def wordsE (l : Ln) (ws : List Int) : Int := if (ws.length : Int) ≠ l.words then 3 else if ws.any (fun n => !inB n 0 (2 ^ l.bits.toNat - 1)) = true then 7 else 0
/-- the first round in which pulses are lost; -1 -/
def atL (l : Ln) (ts : List Int) : Int := idxQ (lostL l) ts
/-- what Pass returns -/
def passX (l : Ln) (ws ts : List Int) : Int :=
  if okL l = false then 7 else if wordsE l ws ≠ 0 then wordsE l ws else if 60 < ts.length then 3 else if ts.any (fun t => !tempB t) = true then 7 else 0
def passW (l : Ln) (ws ts : List Int) : List Int := wordsN l.bits.toNat l.words.toNat (roundsP l (pulsesN l.bits.toNat ws) ts)
def passE (l : Ln) (ws ts : List Int) : List Int × Int × Int := if passX l ws ts = 0 then (passW l ws ts, atL l ts, 0) else ([], 0, passX l ws ts)
/-- the error of a span -/
def spanX (s : Sp) : Int := if tempB s.lo = false ∨ tempB s.hi = false then 7 else if s.hi < s.lo then 2 else 0
end Go.Q

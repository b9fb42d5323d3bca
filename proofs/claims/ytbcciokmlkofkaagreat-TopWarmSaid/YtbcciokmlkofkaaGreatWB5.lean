import Derived.Deep.RegionHeld3
import Derived.Deep.DeepCutAuto
import Derived.Deep.RegionLaw
import Derived.BigRegion
import Derived.Test.YtbcciokmlkofkaaGreatWB1
import Derived.Test.YtbcciokmlkofkaaGreatWSpec4c
set_option linter.unusedVariables false
set_option linter.unusedSimpArgs false
/- Contract: open: it makes the machine of a state. -/
namespace Go.Proofs.YtbcciokmlkofkaaGreat
open Go.RowKit Go.Q
set_option maxHeartbeats 1000000 in
theorem open_bad (v : Value) (s : St) (most : Int) (w : World) (h : StAt w v s) (hb : StBd s) (he : askedQ s most ≠ 0) :
    Calls Tryz.prog 45 #[v, .int .i64 most] w fun e w' => e = .returned (.tuple #[.pointer none, .int .i64 (askedQ s most)]) ∧ Ext w w' := by
  obtain ⟨a1, a2, a3, c1, c2, c3, rfl, i1, i2, i3⟩ := h
  have hs : StAt w (sv a1 a2 a3 s.store.length c1 s.tape.length c2 s.printed.length c3 s.taken s.time s.at_ s.done s.why) s := ⟨a1, a2, a3, c1, c2, c3, rfl, i1, i2, i3⟩
  have hc := fun W (E : Ext w W) => check_any _ s W (hs.ext E) hb
  have e3 := checkQ_err s
  clear hs i1 i2 i3 hb
  by_cases hz : (checkQ s).2.2 = 0
  · have hm : inB most 0 5000 = false := by
      cases h : inB most 0 5000 with
      | false => rfl
      | true => exact absurd (by simp [askedQ, hz, h]) he
    have ha : askedQ s most = 7 := by simp [askedQ, hz, hm]
    rw [ha]
    clear ha he e3
    rcases hcq : checkQ s with ⟨p, i, e⟩
    rw [hcq] at hc hz
    obtain rfl : e = 0 := hz
    clear hcq
    go_enter Tryz.func45, Tryz.ntmps45
    go_wp2_with fail
    refine (hc _ (by exact (Ext.refl w).alloc _)).mono ?_
    rintro e w1 ⟨rfl, hb1⟩
    unfold v3
    go_wp2_with (go_at_call 62; refine (out_one _ most _ _ (by simp) (by simp)).mono ?_; rintro e w' ⟨rfl, hb'⟩)
    go_ret2
    exact ⟨rfl, hb1.old.comp hb'.old⟩
  · have ha : askedQ s most = (checkQ s).2.2 := by simp [askedQ, hz]
    rw [ha]
    clear ha he
    rcases hcq : checkQ s with ⟨p, i, e⟩
    rw [hcq] at hc hz e3
    dsimp only at hz e3 ⊢
    have hz' : (e != 0) = true := by simpa using hz
    clear hcq hz
    go_enter Tryz.func45, Tryz.ntmps45
    go_wp2_with fail
    refine (hc _ (by exact (Ext.refl w).alloc _)).mono ?_
    rintro e w1 ⟨rfl, hb1⟩
    unfold v3
    go_wp2_with fail
    go_ret2
    exact ⟨rfl, hb1.old⟩
/-- a machine's parts, its own block apart -/
structure Parts (w : World) (nb B g1 c1 : Nat) (tv pv : Value) (s : St) : Prop where
  low : nb ≤ g1 ∧ g1 ≠ B
  st : ∃ cur, w.heap[g1]? = some (.cells cur 3 (0, 0)) ∧ cur.toList.take 128 = iv s.store
  len : s.store.length = 128
  tp : ∃ a2 c2, tv = .slice a2 s.tape.length c2 ∧ (s.tape = [] ∨ ∃ b off, a2 = some ⟨b, off, none⟩ ∧ (∃ cur, w.heap[b]? = some (.cells cur 3 (0, 0))) ∧ b ≠ B ∧ b ≠ g1 ∧ pv.ownBlock ≠ some b ∧ ∀ i, i < s.tape.length → w.cell? ⟨b, off + i, none⟩ = some (.int .i64 (s.tape[i]?.getD 0)))
  prow : w.ownsRow nb 3 1 pv s.printed.length (iv s.printed)
  pB : pv.ownBlock ≠ some B
  pg : pv.ownBlock ≠ some g1
theorem own_at {w : World} {nb t n : Nat} {v : Value} {xs : List Value} (h : w.ownsRow nb t 1 v n xs) {b : Nat} (hb : v.ownBlock = some b) : nb ≤ b ∧ b < w.heap.size := by
  refine ⟨?_, own_lt h hb⟩
  rcases h.2 with ⟨rfl, _⟩ | ⟨g, cap, cur, rfl, hg, _⟩
  · cases hb
  · obtain rfl : g = b := by simpa [Value.ownBlock] using hb
    exact hg
/-- an owned row reads as a list -/
theorem own_reads {w : World} {nb t n : Nat} {a : Option Addr} {c : Nat} {xs : List Int} (h : w.ownsRow nb t 1 (.slice a n c) n (iv xs)) :
    xs = [] ∨ ∃ g, a = some ⟨g, 0, none⟩ ∧ (∃ cur, w.heap[g]? = some (.cells cur t (0, 0))) ∧ ∀ i, i < xs.length → w.cell? ⟨g, 0 + i, none⟩ = some (.int .i64 (xs[i]?.getD 0)) := by
  have hl := h.1
  rw [iv_length, Nat.mul_one] at hl
  rcases h.2 with ⟨_, h2⟩ | ⟨g, cap, cur, hv, hg, hh, hnc, hcm, hcs, ht⟩
  · exact .inl (List.eq_nil_of_length_eq_zero (by omega))
  · refine .inr ⟨g, by simpa using (Value.slice.inj hv).1, ⟨cur, hh⟩, fun i hi => ?_⟩
    rw [Nat.zero_add]
    refine cell_of_cells hh i ?_
    have e := iv_get xs i hi
    rw [← ht, List.getElem?_take, if_pos (by omega)] at e
    simpa using e
theorem own_ints {w : World} {nb t n : Nat} {a : Option Addr} {c : Nat} {xs : List Int} (h : w.ownsRow nb t 1 (.slice a n c) n (iv xs)) : IntsAt w a xs := by
  rcases own_reads h with e | ⟨g, ha, hg, hc⟩
  · exact .inl e
  · exact .inr ⟨g, 0, ha, by obtain ⟨cu, hcu⟩ := hg; exact lt_of_block hcu, hc⟩
/-- three slices made one behind the other are a machine's parts -/
theorem parts_of {ws wt wp W : World} {nb B : Nat} {as_ at_ ap : Option Addr} {cs ct cp ns nt np : Nat} {s : St}
    (hs : ws.ownsRow ns 3 1 (.slice as_ 128 cs) 128 (iv s.store)) (ht : wt.ownsRow nt 3 1 (.slice at_ s.tape.length ct) s.tape.length (iv s.tape)) (hp : wp.ownsRow np 3 1 (.slice ap s.printed.length cp) s.printed.length (iv s.printed))
    (es : Ext ws W) (et : Ext wt W) (ep : Ext wp W) (ls : B < ns ∧ nb ≤ ns) (lt : B < nt ∧ nb ≤ nt) (lp : B < np ∧ nb ≤ np) (hl : s.store.length = 128)
    (d1 : ws.heap.size ≤ nt ∨ wt.heap.size ≤ ns) (d2 : ws.heap.size ≤ np ∨ wp.heap.size ≤ ns) (d3 : wt.heap.size ≤ np ∨ wp.heap.size ≤ nt) :
    ∃ g1, as_ = some ⟨g1, 0, none⟩ ∧ Parts W nb B g1 cs (.slice at_ s.tape.length ct) (.slice ap s.printed.length cp) s := by
  rcases hs.2 with ⟨_, h2⟩ | ⟨g1, cap, cur, hv, hg, hh, hnc, hcm, hcs, htk⟩
  · cases h2
  have ha : as_ = some ⟨g1, 0, none⟩ := (Value.slice.inj hv).1
  have gb := lt_of_block hh
  refine ⟨g1, ha, ⟨by omega, by omega⟩, ⟨cur, (es.block g1 gb).trans hh, by simpa using htk⟩, hl, ?_, ?_, ?_, ?_⟩
  · refine ⟨at_, ct, rfl, ?_⟩
    rcases own_reads ht with e | ⟨g2, ha2, ⟨cu, hcu⟩, hc⟩
    · exact .inl e
    · have hg2 := lt_of_block hcu
      have hb2 := own_at ht (b := g2) (by rw [ha2]; rfl)
      refine .inr ⟨g2, 0, ha2, ⟨cu, (et.block g2 hg2).trans hcu⟩, by omega, by omega, fun e => ?_, fun i hi => (et.cell (p := ⟨g2, 0 + i, none⟩) hg2).trans (hc i hi)⟩
      have hb3 := own_at hp e
      omega
  · have := own_later hp (w' := W) (fun b hb => ep.block b (own_at hp hb).2)
    refine ⟨this.1, ?_⟩
    rcases this.2 with h | ⟨g, cap, cur, h1, h2, h3⟩
    · exact .inl h
    · exact .inr ⟨g, cap, cur, h1, by omega, h3⟩
  · intro e
    have := own_at hp e
    omega
  · intro e
    have := own_at hp e
    omega
theorem Parts.set {w : World} {nb B g1 c1 : Nat} {tv pv : Value} {s : St} (h : Parts w nb B g1 c1 tv pv s) (i : Nat) (v : Value) : Parts (w.setCell ⟨B, i, none⟩ v) nb B g1 c1 tv pv s where
  low := h.low
  st := by obtain ⟨cur, hg, ht⟩ := h.st; exact ⟨cur, (Below.heap_setCell _ _ _ _ h.low.2).trans hg, ht⟩
  len := h.len
  tp := by
    obtain ⟨a2, c2, hv, ht⟩ := h.tp
    refine ⟨a2, c2, hv, ?_⟩
    rcases ht with ht | ⟨b, off, ha, ⟨cu, hcu⟩, h1, h2, h3, hc⟩
    · exact .inl ht
    · exact .inr ⟨b, off, ha, ⟨cu, (Below.heap_setCell _ _ _ _ h1).trans hcu⟩, h1, h2, h3, fun i hi => (World.cell?_of_block (w := w) (Below.heap_setCell _ _ _ _ h1)).trans (hc i hi)⟩
  prow := own_later h.prow (fun b e => Below.heap_setCell _ _ _ _ (fun e' => h.pB (by rw [e]; exact congrArg some e')))
  pB := h.pB
  pg := h.pg
/-- the machine's own block is laid -/
theorem Parts.mac {w : World} {nb B g1 c1 : Nat} {tv pv : Value} {s : St} (h : Parts w nb B g1 c1 tv pv s) (hnb : nb ≤ w.heap.size) (o : Ord) :
    Mac (w.alloc (.cells (mcells g1 c1 tv pv s o) 103)) nb w.heap.size g1 c1 tv pv s o := by
  have e : Ext w (w.alloc (.cells (mcells g1 c1 tv pv s o) 103)) := (Ext.refl w).alloc _
  obtain ⟨cur, hg, ht⟩ := h.st
  have lg := lt_of_block hg
  refine ⟨⟨hnb, h.low.1, by omega⟩, by show (w.heap.push _)[w.heap.size]? = _; simp, ⟨cur, (e.block g1 lg).trans hg, ht⟩, h.len, ?_, own_later h.prow (fun b hb => e.block b (own_lt h.prow hb)), fun hb => by have := own_lt h.prow hb; omega, h.pg⟩
  obtain ⟨a2, c2, hv, ht⟩ := h.tp
  refine ⟨a2, c2, hv, ?_⟩
  rcases ht with ht | ⟨b, off, ha, ⟨cu, hcu⟩, h1, h2, h3, hc⟩
  · exact .inl ht
  · have hlt := lt_of_block hcu
    exact .inr ⟨b, off, ha, ⟨cu, (e.block b hlt).trans hcu⟩, by omega, h2, h3, fun i hi => (e.cell (p := ⟨b, off + i, none⟩) hlt).trans (hc i hi)⟩
/-- open has made a machine -/
def OpenRes (s : St) (w : World) (e : Ending) (w' : World) : Prop :=
  ∃ m g1 c1 tv pv, e = .returned (.tuple #[.pointer (some ⟨m, 0, none⟩), .int .i64 0]) ∧ Mac w' w.heap.size m g1 c1 tv pv s ⟨0, 0, 0, 0⟩ ∧ Ext w w'
/-- the copy of the state, with slices of the call's own -/
def BoxRes (s : St) (w : World) (wx : World) : Prop :=
  ∃ g1 cs tv pv, wx.heap[w.heap.size]? = some (.cells #[.slice (some ⟨g1, 0, none⟩) 128 cs, tv, .int .i64 s.taken, pv, .int .i64 s.time, .int .i64 s.at_, .int .i64 s.done, .int .i64 s.why] 24 (0, 0)) ∧
    Parts wx w.heap.size w.heap.size g1 cs tv pv s ∧ Ext w wx
theorem box_res {w W0 ws wt wp W : World} {a1 a2 a3 as_ at_ ap : Option Addr} {c1 c2 c3 cs ct cp ns nt np n2 n3 : Nat} {s : St}
    (E0 : Ext (w.alloc (.cells #[.slice a1 128 c1, .slice a2 n2 c2, .int .i64 s.taken, .slice a3 n3 c3, .int .i64 s.time, .int .i64 s.at_, .int .i64 s.done, .int .i64 s.why] 24)) W0)
    (hs : ws.ownsRow ns 3 1 (.slice as_ 128 cs) 128 (iv s.store)) (ht : wt.ownsRow nt 3 1 (.slice at_ n2 ct) n2 (iv s.tape)) (hp : wp.ownsRow np 3 1 (.slice ap n3 cp) n3 (iv s.printed))
    (hl : s.store.length = 128 ∧ s.tape.length = n2 ∧ s.printed.length = n3) (EW : Ext W0 W)
    (es : Ext ws W) (et : Ext wt W) (ep : Ext wp W) (ls : w.heap.size < ns) (lt : w.heap.size < nt) (lp : w.heap.size < np)
    (d1 : ws.heap.size ≤ nt ∨ wt.heap.size ≤ ns) (d2 : ws.heap.size ≤ np ∨ wp.heap.size ≤ ns) (d3 : wt.heap.size ≤ np ∨ wp.heap.size ≤ nt) :
    BoxRes s w (((W.setCell ⟨w.heap.size, 0, none⟩ (.slice as_ 128 cs)).setCell ⟨w.heap.size, 1, none⟩ (.slice at_ n2 ct)).setCell ⟨w.heap.size, 3, none⟩ (.slice ap n3 cp)) := by
  obtain ⟨hl1, rfl, rfl⟩ := hl
  obtain ⟨g1, rfl, hP⟩ := parts_of (nb := w.heap.size) (B := w.heap.size) hs ht hp es et ep ⟨ls, by omega⟩ ⟨lt, by omega⟩ ⟨lp, by omega⟩ hl1 d1 d2 d3
  have hB : W.heap[w.heap.size]? = _ := ((E0.comp EW).block w.heap.size (by simp)).trans (show (w.heap.push _)[w.heap.size]? = _ by simp; rfl)
  refine ⟨g1, cs, _, _, cells_set (cells_set (cells_set hB 0 _) 1 _) 3 _, ((hP.set 0 _).set 1 _).set 3 _, ?_⟩
  exact (((E0.old.comp EW).setCell (p := ⟨w.heap.size, 0, none⟩) (Nat.le_refl _) _).setCell (p := ⟨w.heap.size, 1, none⟩) (Nat.le_refl _) _).setCell (p := ⟨w.heap.size, 3, none⟩) (Nat.le_refl _) _
set_option maxHeartbeats 4000000 in
set_option maxRecDepth 100000 in
theorem open_ok (a1 a2 a3 : Option Addr) (n2 n3 c1 c2 c3 : Nat) (s : St) (most : Int) (w : World) (l1 : s.store.length = 128) (l2 : s.tape.length = n2) (l3 : s.printed.length = n3) (b2 : n2 ≤ 200) (b3 : n3 ≤ 200)
    (i1 : IntsAt w a1 s.store) (i2 : IntsAt w a2 s.tape) (i3 : IntsAt w a3 s.printed) (hz : checkQ s = (0, 0, 0)) (hm : inB most 0 5000 = true) :
    Calls Tryz.prog 45 #[sv a1 a2 a3 128 c1 n2 c2 n3 c3 s.taken s.time s.at_ s.done s.why, .int .i64 most] w (OpenRes s w) := by
  have hc := fun W (E : Ext w W) => check_any (sv a1 a2 a3 128 c1 n2 c2 n3 c3 s.taken s.time s.at_ s.done s.why) s W ⟨a1, a2, a3, c1, c2, c3, by rw [l1, l2, l3], i1.ext E, i2.ext E, i3.ext E⟩ ⟨by omega, by omega, by omega⟩
  rw [hz] at hc
  have hcs' := fun W (E : Ext w W) => clone_any a1 128 c1 s.store W l1 (by decide) (i1.ext E)
  have hct' := fun W (E : Ext w W) => clone_any a2 n2 c2 s.tape W l2 (by omega) (i2.ext E)
  have hcp' := fun W (E : Ext w W) => clone_any a3 n3 c3 s.printed W l3 (by omega) (i3.ext E)
  have Hl := Lib.hid (And.intro l1 (And.intro l2 l3))
  clear i1 i2 i3 l1 l2 l3 hz
  go_enter Tryz.func45, Tryz.ntmps45
  go_wp2_with fail
  refine (hc _ (by exact (Ext.refl w).alloc _)).mono ?_
  rintro e w1 ⟨rfl, hb1⟩
  unfold v3
  go_wp2_with fail
  refine (out_one _ most _ _ (by simp) (by simp)).mono ?_
  rintro e W0 ⟨rfl, hb2⟩
  have E0 := hb1.comp hb2.old
  clear hc hb1 hb2
  have hcs := fun W (E : Ext W0 W) => hcs' W (E0.old.comp E)
  have hct := fun W (E : Ext W0 W) => hct' W (E0.old.comp E)
  have hcp := fun W (E : Ext W0 W) => hcp' W (E0.old.comp E)
  clear hcs' hct' hcp'
  have p0 := box_at (v := .slice a1 128 c1) E0 0 rfl
  have p1 := box_at (v := .slice a2 n2 c2) E0 1 rfl
  have p3 := box_at (v := .slice a3 n3 c3) E0 3 rfl
  have z0 : w.heap.size < W0.heap.size := by have := E0.size; simp at this; omega
  go_upto_region 6 with fail
  go_cut [] (fun wx => BoxRes s w wx)
  case first =>
    go_region_law (first | (go_simp; go_at_call_of 63 (Value.slice a1 128 c1); refine (hcs _ (by first | exact EBt | exact EBp | exact (Ext.refl W0).drew)).mono ?_; rintro e ws ⟨aas, ccs, rfl, hos, hbs⟩; have EBs : Ext W0 ws := (by first | exact Ext.comp EBt hbs | exact Ext.comp EBp hbs | exact Ext.comp (Ext.refl W0).drew hbs); have sc0 := box_at (v := .slice a1 128 c1) (E0.comp EBs) 0 rfl; have sf0 := box_free (E0.comp EBs) 0; have sc1 := box_at (v := .slice a2 n2 c2) (E0.comp EBs) 1 rfl; have sf1 := box_free (E0.comp EBs) 1; have sc3 := box_at (v := .slice a3 n3 c3) (E0.comp EBs) 3 rfl; have sf3 := box_free (E0.comp EBs) 3) | (go_simp; go_at_call_of 63 (Value.slice a2 n2 c2); refine (hct _ (by first | exact EBs | exact EBp | exact (Ext.refl W0).drew)).mono ?_; rintro e wt ⟨aat, cct, rfl, hot, hbt⟩; have EBt : Ext W0 wt := (by first | exact Ext.comp EBs hbt | exact Ext.comp EBp hbt | exact Ext.comp (Ext.refl W0).drew hbt); have tc0 := box_at (v := .slice a1 128 c1) (E0.comp EBt) 0 rfl; have tf0 := box_free (E0.comp EBt) 0; have tc1 := box_at (v := .slice a2 n2 c2) (E0.comp EBt) 1 rfl; have tf1 := box_free (E0.comp EBt) 1; have tc3 := box_at (v := .slice a3 n3 c3) (E0.comp EBt) 3 rfl; have tf3 := box_free (E0.comp EBt) 3) | (go_simp; go_at_call_of 63 (Value.slice a3 n3 c3); refine (hcp _ (by first | exact EBs | exact EBt | exact (Ext.refl W0).drew)).mono ?_; rintro e wp ⟨aap, ccp, rfl, hop, hbp⟩; have EBp : Ext W0 wp := (by first | exact Ext.comp EBs hbp | exact Ext.comp EBt hbp | exact Ext.comp (Ext.refl W0).drew hbp); have pc0 := box_at (v := .slice a1 128 c1) (E0.comp EBp) 0 rfl; have pf0 := box_free (E0.comp EBp) 0; have pc1 := box_at (v := .slice a2 n2 c2) (E0.comp EBp) 1 rfl; have pf1 := box_free (E0.comp EBp) 1; have pc3 := box_at (v := .slice a3 n3 c3) (E0.comp EBp) 3 rfl; have pf3 := box_free (E0.comp EBp) 3))
    all_goals
      go_wp2_with fail
      go_meet
      exact box_res E0 hos hot hop Hl.out (by first | exact EBs | exact EBt | exact EBp) (by first | exact Ext.refl _ | exact hbs | exact hbt | exact hbp | exact hbs.comp hbt | exact hbs.comp hbp | exact hbt.comp hbs | exact hbt.comp hbp | exact hbp.comp hbs | exact hbp.comp hbt) (by first | exact Ext.refl _ | exact hbs | exact hbt | exact hbp | exact hbs.comp hbt | exact hbs.comp hbp | exact hbt.comp hbs | exact hbt.comp hbp | exact hbp.comp hbs | exact hbp.comp hbt) (by first | exact Ext.refl _ | exact hbs | exact hbt | exact hbp | exact hbs.comp hbt | exact hbs.comp hbp | exact hbt.comp hbs | exact hbt.comp hbp | exact hbp.comp hbs | exact hbp.comp hbt) (by first | exact z0 | exact Nat.lt_of_lt_of_le z0 EBs.size | exact Nat.lt_of_lt_of_le z0 EBt.size | exact Nat.lt_of_lt_of_le z0 EBp.size) (by first | exact z0 | exact Nat.lt_of_lt_of_le z0 EBs.size | exact Nat.lt_of_lt_of_le z0 EBt.size | exact Nat.lt_of_lt_of_le z0 EBp.size) (by first | exact z0 | exact Nat.lt_of_lt_of_le z0 EBs.size | exact Nat.lt_of_lt_of_le z0 EBt.size | exact Nat.lt_of_lt_of_le z0 EBp.size) (by first | exact .inl (Nat.le_refl _) | exact .inr (Nat.le_refl _) | exact .inl hbs.size | exact .inl hbt.size | exact .inl hbp.size | exact .inr hbs.size | exact .inr hbt.size | exact .inr hbp.size) (by first | exact .inl (Nat.le_refl _) | exact .inr (Nat.le_refl _) | exact .inl hbs.size | exact .inl hbt.size | exact .inl hbp.size | exact .inr hbs.size | exact .inr hbt.size | exact .inr hbp.size) (by first | exact .inl (Nat.le_refl _) | exact .inr (Nat.le_refl _) | exact .inl hbs.size | exact .inl hbt.size | exact .inl hbp.size | exact .inr hbs.size | exact .inr hbt.size | exact .inr hbp.size)
  case rest =>
    obtain ⟨g1, cs, tv, pv, hB, hP, hE⟩ := hcut
    have k0 := cell_of_cells hB 0 (v := .slice (some ⟨g1, 0, none⟩) 128 cs) rfl
    have k1 := cell_of_cells hB 1 (v := tv) rfl
    have k2 := cell_of_cells hB 2 (v := .int .i64 s.taken) rfl
    have k3 := cell_of_cells hB 3 (v := pv) rfl
    have k4 := cell_of_cells hB 4 (v := .int .i64 s.time) rfl
    have k5 := cell_of_cells hB 5 (v := .int .i64 s.at_) rfl
    have k6 := cell_of_cells hB 6 (v := .int .i64 s.done) rfl
    have k7 := cell_of_cells hB 7 (v := .int .i64 s.why) rfl
    have hM := hP.mac hE.size ⟨0, 0, 0, 0⟩
    have hE2 : Ext w _ := hE.alloc (.cells (mcells g1 cs tv pv s ⟨0, 0, 0, 0⟩) 103)
    have HM := Lib.hid hM
    clear hM hB hP
    obtain ⟨at2, ct2, rfl⟩ : ∃ a c, tv = .slice a s.tape.length c := by
      obtain ⟨a, c, h, _⟩ := HM.out.tp
      exact ⟨a, c, h⟩
    obtain ⟨ap2, cp2, rfl⟩ : ∃ a c, pv = .slice a s.printed.length c := own_form HM.out.prow
    go_wp2_with fail
    go_ret2
    exact ⟨_, _, _, _, _, rfl, HM.out, hE2⟩
end Go.Proofs.YtbcciokmlkofkaaGreat

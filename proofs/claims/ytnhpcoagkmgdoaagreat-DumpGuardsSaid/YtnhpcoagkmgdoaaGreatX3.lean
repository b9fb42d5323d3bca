import Derived.Deep.RegionHeld3
import Derived.Deep.DeepCutAuto
import Derived.Deep.RegionLaw
import Derived.BigRegion
import Derived.ScopeJumps
import Derived.Shelf.Abstract
import Derived.Deep.LoopGhost
import Derived.Test.YtnhpcoagkmgdoaaGreatX2
set_option linter.unusedVariables false
set_option linter.unusedSimpArgs false
/- Contract: open: it makes the machine of a state. -/
namespace Go.Proofs.YtnhpcoagkmgdoaaGreat
open Go.RowKit Go.Q
/-- a machine's parts, its own block apart -/
structure Parts (w : World) (nb B g1 c1 : Nat) (tv pv : Value) (s : St) : Prop where
 low : nb ≤ g1 ∧ g1 ≠ B
 st : ∃ cur, w.heap[g1]? = some (.cells cur 3 (0, 0)) ∧ cur.toList.take 128 = iv s.store
 len : s.store.length = 128
 tp : ∃ a2 c2, tv = .slice a2 s.tape.length c2 ∧ (s.tape = [] ∨ ∃ b off, a2 = some ⟨b, off, none⟩ ∧ (∃ cur, w.heap[b]? = some (.cells cur 3 (0, 0))) ∧ b ≠ B ∧ b ≠ g1 ∧ pv.ownBlock ≠ some b ∧ ∀ i, i < s.tape.length → w.cell? ⟨b, off + i, none⟩ = some (.int .i64 (s.tape[i]?.getD 0)))
 prow : w.ownsRow nb 3 1 pv s.printed.length (iv s.printed)
 pB : pv.ownBlock ≠ some B
 pg : pv.ownBlock ≠ some g1
theorem own_at {w : World} {nb t n : Nat} {v : Value} {xs : List Value} (h : w.ownsRow nb t 1 v n xs) {b : Nat} (hb : v.ownBlock = some b) : nb ≤ b ∧ b < w.heap.size := by
 refine ⟨?_, own_lt h hb⟩
 rcases h.2 with ⟨rfl, _⟩ | ⟨g, cap, cur, rfl, hg, _⟩
 ·cases hb
 ·obtain rfl : g = b := by simpa [Value.ownBlock] using hb
  exact hg
/-- an owned row reads as a list -/
theorem own_reads {w : World} {nb t n : Nat} {a : Option Addr} {c : Nat} {xs : List Int} (h : w.ownsRow nb t 1 (.slice a n c) n (iv xs)) :
  xs = [] ∨ ∃ g, a = some ⟨g, 0, none⟩ ∧ (∃ cur, w.heap[g]? = some (.cells cur t (0, 0))) ∧ ∀ i, i < xs.length → w.cell? ⟨g, 0 + i, none⟩ = some (.int .i64 (xs[i]?.getD 0)) := by
 have hl := h.1
 rw [iv_length, Nat.mul_one] at hl
 rcases h.2 with ⟨_, h2⟩ | ⟨g, cap, cur, hv, hg, hh, hnc, hcm, hcs, ht⟩
 ·exact .inl (List.eq_nil_of_length_eq_zero (by omega))
 ·refine .inr ⟨g, by simpa using (Value.slice.inj hv).1, ⟨cur, hh⟩, fun i hi => ?_⟩
  rw [Nat.zero_add]
  refine cell_of_cells hh i ?_
  have e := iv_get xs i hi
  rw [← ht, List.getElem?_take, if_pos (by omega)] at e
  simpa using e
theorem own_ints {w : World} {nb t n : Nat} {a : Option Addr} {c : Nat} {xs : List Int} (h : w.ownsRow nb t 1 (.slice a n c) n (iv xs)) : IntsAt w a xs := by
 rcases own_reads h with e | ⟨g, ha, hg, hc⟩
 ·exact .inl e
 ·exact .inr ⟨g, 0, ha, by obtain ⟨cu, hcu⟩ := hg; exact lt_of_block hcu, hc⟩
/-- three slices made one behind the other are a machine's parts -/
theorem parts_of {ws wt wp W : World} {nb B : Nat} {as_ at_ ap : Option Addr} {cs ct cp ns nt np : Nat} {s : St}
  (hs : ws.ownsRow ns 3 1 (.slice as_ 128 cs) 128 (iv s.store)) (ht : wt.ownsRow nt 3 1 (.slice at_ s.tape.length ct) s.tape.length (iv s.tape)) (hp : wp.ownsRow np 3 1 (.slice ap s.printed.length cp) s.printed.length (iv s.printed))
  (es : Ext ws W) (et : Ext wt W) (ep : Ext wp W) (ls : B < ns ∧ nb ≤ ns) (lt : B < nt ∧ nb ≤ nt) (lp : B < np ∧ nb ≤ np) (hl : s.store.length = 128)
  (d1 : ws.heap.size ≤ nt ∨ wt.heap.size ≤ ns) (d2 : ws.heap.size ≤ np ∨ wp.heap.size ≤ ns) (d3 : wt.heap.size ≤ np ∨ wp.heap.size ≤ nt) :
  ∃ g1, as_ = some ⟨g1, 0, none⟩ ∧ Parts W nb B g1 cs (.slice at_ s.tape.length ct) (.slice ap s.printed.length cp) s := by
 rcases hs.2 with ⟨_, h2⟩ | ⟨g1, cap, cur, hv, hg, hh, hnc, hcm, hcs, htk⟩
 ·cases h2
 have ha : as_ = some ⟨g1, 0, none⟩ := (Value.slice.inj hv).1
 have gb := lt_of_block hh
 refine ⟨g1, ha, ⟨by omega, by omega⟩, ⟨cur, (es.block g1 gb).trans hh, by simpa using htk⟩, hl, ?_, ?_, ?_, ?_⟩
 ·refine ⟨at_, ct, rfl, ?_⟩
  rcases own_reads ht with e | ⟨g2, ha2, ⟨cu, hcu⟩, hc⟩
  ·exact .inl e
  ·have hg2 := lt_of_block hcu
   have hb2 := own_at ht (b := g2) (by rw [ha2]; rfl)
   refine .inr ⟨g2, 0, ha2, ⟨cu, (et.block g2 hg2).trans hcu⟩, by omega, by omega, fun e => ?_, fun i hi => (et.cell (p := ⟨g2, 0 + i, none⟩) hg2).trans (hc i hi)⟩
   have hb3 := own_at hp e
   omega
 ·have := own_later hp (w' := W) (fun b hb => ep.block b (own_at hp hb).2)
  refine ⟨this.1, ?_⟩
  rcases this.2 with h | ⟨g, cap, cur, h1, h2, h3⟩
  ·exact .inl h
  ·exact .inr ⟨g, cap, cur, h1, by omega, h3⟩
 ·intro e
  have := own_at hp e
  omega
 ·intro e
  have := own_at hp e
  omega
theorem Parts.set {w : World} {nb B g1 c1 : Nat} {tv pv : Value} {s : St} (h : Parts w nb B g1 c1 tv pv s) (i : Nat) (v : Value) : Parts (w.setCell ⟨B, i, none⟩ v) nb B g1 c1 tv pv s where
 low := h.low
 st := by obtain ⟨cur, hg, ht⟩ := h.st; exact ⟨cur, (Below.heap_setCell _ _ _ _ h.low.2).trans hg, ht⟩
 len := h.len
 tp := by
  obtain ⟨a2, c2, hv, ht⟩ := h.tp
  refine ⟨a2, c2, hv, ?_⟩
  rcases ht with ht | ⟨b, off, ha, ⟨cu, hcu⟩, h1, h2, h3, hc⟩
  ·exact .inl ht
  ·exact .inr ⟨b, off, ha, ⟨cu, (Below.heap_setCell _ _ _ _ h1).trans hcu⟩, h1, h2, h3, fun i hi => (World.cell?_of_block (w := w) (Below.heap_setCell _ _ _ _ h1)).trans (hc i hi)⟩
 prow := own_later h.prow (fun b e => Below.heap_setCell _ _ _ _ (fun e' => h.pB (by rw [e]; exact congrArg some e')))
 pB := h.pB
 pg := h.pg
/-- the machine's own block is laid -/
theorem Parts.mac {w : World} {nb B g1 c1 : Nat} {tv pv : Value} {s : St} (h : Parts w nb B g1 c1 tv pv s) (hnb : nb ≤ w.heap.size) (o : Ord) :
  Mac (w.alloc (.cells (mcells g1 c1 tv pv s o) 159)) nb w.heap.size g1 c1 tv pv s o := by
 have e : Ext w (w.alloc (.cells (mcells g1 c1 tv pv s o) 159)) := (Ext.refl w).alloc _
 obtain ⟨cur, hg, ht⟩ := h.st
 have lg := lt_of_block hg
 refine ⟨⟨hnb, h.low.1, by omega⟩, by show (w.heap.push _)[w.heap.size]? = _; simp, ⟨cur, (e.block g1 lg).trans hg, ht⟩, h.len, ?_, own_later h.prow (fun b hb => e.block b (own_lt h.prow hb)), fun hb => by have := own_lt h.prow hb; omega, h.pg⟩
 obtain ⟨a2, c2, hv, ht⟩ := h.tp
 refine ⟨a2, c2, hv, ?_⟩
 rcases ht with ht | ⟨b, off, ha, ⟨cu, hcu⟩, h1, h2, h3, hc⟩
 ·exact .inl ht
 ·have hlt := lt_of_block hcu
  exact .inr ⟨b, off, ha, ⟨cu, (e.block b hlt).trans hcu⟩, by omega, h2, h3, fun i hi => (e.cell (p := ⟨b, off + i, none⟩) hlt).trans (hc i hi)⟩
end Go.Proofs.YtnhpcoagkmgdoaaGreat
/- Layer 4 in plain Lean, on: a run, and its trace. -/
namespace Go.Q
/-- an order that is done -/
structure Stp where
 at_ : Int
 ord : Ord
 time : Int
 until_ : Int
def runQ : Nat → St → St
 | 0, s => s
 | n + 1, s => if s.why = 0 then runQ n (stepQ s) else s
def traceQ : Nat → St → List Stp
 | 0, _ => []
 | n + 1, s => if s.why = 0 then (if whyAt s = 0 then ⟨s.at_, ordAt s, s.time, untilAt s⟩ :: traceQ n (stepQ s) else []) else []
theorem doQ_same (s : St) (o : Ord) : (doQ s o).tape = s.tape ∧ (doQ s o).time = s.time ∧ (doQ s o).at_ = s.at_ ∧ (doQ s o).done = s.done ∧ (doQ s o).why = s.why := by
 unfold doQ
 dsimp only
 repeat' split
 all_goals exact ⟨rfl, rfl, rfl, rfl, rfl⟩
theorem whyAt_bd (s : St) : 0 ≤ whyAt s ∧ whyAt s ≤ 4 := by
 unfold whyAt
 repeat' split
 all_goals omega
theorem after_mod (t a : Int) : after t a % 16 = a % 16 := by unfold after; omega
theorem after_gt (t a : Int) : t + 1 ≤ after t a ∧ after t a ≤ t + 16 := by unfold after; omega
theorem whenEnd_bd (o : Ord) (t : Int) : t + 1 ≤ whenEnd o t ∧ whenEnd o t ≤ t + 60 := by
 have h1 := after_gt t o.frm
 have h2 := after_gt t o.to
 have h3 := after_gt (after t o.frm) o.to
 have h4 := after_gt (after (after t o.frm) o.to + 12) o.to
 unfold whenEnd
 repeat' split
 all_goals omega
theorem until_bd (o : Ord) (t : Int) (ng : Bool) : t + 2 ≤ whenUntil o t ng ∧ whenUntil o t ng ≤ t + 76 ∧ whenUntil o t ng % 16 = whenAt o ng % 16 := by
 have h1 := whenEnd_bd o t
 have h2 := after_gt (whenEnd o t) (whenAt o ng)
 exact ⟨by unfold whenUntil; omega, by unfold whenUntil; omega, after_mod _ _⟩
theorem set_all {xs : List Int} {P : Int → Prop} (h : ∀ x ∈ xs, P x) (i : Nat) {v : Int} (hv : P v) : ∀ x ∈ xs.set i v, P x := by
 intro x hx
 rcases List.mem_or_eq_of_mem_set hx with h1 | h1
 ·exact h x h1
 ·exact h1 ▸ hv
theorem doQ_valid {s : St} (h : Valid s) (h7 : ¬((ordAt s).op = 7 ∧ s.printed.length = 200)) (h6 : ¬((ordAt s).op = 6 ∧ s.taken = s.tape.length)) :
  (doQ s (ordAt s)).store.length = 128 ∧ (doQ s (ordAt s)).printed.length ≤ 200 ∧ (∀ x ∈ (doQ s (ordAt s)).store, 0 ≤ x ∧ x ≤ 16777215) ∧ (∀ x ∈ (doQ s (ordAt s)).printed, 0 ≤ x ∧ x ≤ 16777215) ∧
   0 ≤ (doQ s (ordAt s)).taken ∧ (doQ s (ordAt s)).taken ≤ s.tape.length := by
 have ho := h.ord
 generalize ordAt s = o at *
 obtain ⟨_, ⟨a0, a1⟩, ⟨b0, b1⟩, _⟩ : (0 ≤ o.op ∧ o.op ≤ 7) ∧ (0 ≤ o.frm ∧ o.frm ≤ 127) ∧ (0 ≤ o.to ∧ o.to ≤ 127) ∧ 0 ≤ o.nxt ∧ o.nxt ≤ 127 := by
  simp only [ordB, addrB, Bool.and_eq_true] at ho
  exact ⟨inB_bd ho.1.1.1, inB_bd ho.1.1.2, inB_bd ho.1.2, inB_bd ho.2⟩
 have wa := h.word o.frm a0 a1
 have wb := h.word o.to b0 b1
 have st := h.ws
 have pt := h.wp
 have hl := h.len
 have hp := h.plen
 have ht := h.taken
 unfold doQ
 dsimp only
 split
 ·exact ⟨by simpa using hl, hp, set_all st _ wa, pt, ht.1, ht.2⟩
 split
 ·exact ⟨by simpa using hl, hp, set_all st _ (by omega), pt, ht.1, ht.2⟩
 split
 ·exact ⟨by simpa using hl, hp, set_all st _ (by omega), pt, ht.1, ht.2⟩
 split
 ·exact ⟨by simpa using hl, hp, set_all st _ (by unfold prod; omega), pt, ht.1, ht.2⟩
 split
 ·rename_i e6
  have hlt : s.taken < s.tape.length := by
   rcases Int.lt_or_le s.taken s.tape.length with h | h'
   ·exact h
   ·exact absurd ⟨e6, by omega⟩ h6
  exact ⟨by simpa using hl, hp, set_all st _ (mem_get (by omega) h.wt), pt, by show 0 ≤ s.taken + 1; omega, by show s.taken + 1 ≤ _; omega⟩
 split
 ·rename_i e7
  refine ⟨hl, ?_, st, ?_, ht.1, ht.2⟩
  ·have : s.printed.length ≠ 200 := fun e => h7 ⟨e7, e⟩
   simp only [List.length_append, List.length_cons, List.length_nil]
   omega
  ·intro x hx
   rcases List.mem_append.1 hx with h1 | h1
   ·exact pt x h1
   ·simp only [List.mem_singleton] at h1; exact h1 ▸ wa
 ·exact ⟨hl, hp, st, pt, ht.1, ht.2⟩
theorem stepQ_valid {s : St} (h : Valid s) : Valid (stepQ s) := by
 unfold stepQ
 split
 ·rename_i hw
  have h7 : ¬((ordAt s).op = 7 ∧ s.printed.length = 200) := by
   intro hc; unfold whyAt at hw; rw [if_neg (by omega), if_neg (by omega), if_pos hc] at hw; omega
  have h6 : ¬((ordAt s).op = 6 ∧ s.taken = s.tape.length) := by
   intro hc; unfold whyAt at hw; rw [if_neg (by omega), if_pos hc] at hw; omega
  have hu : untilAt s ≤ 1000000000 := by
   by_cases hc : untilAt s ≤ 1000000000
   ·exact hc
   have hc' : 1000000000 < untilAt s := by omega
   by_cases h0 : (ordAt s).op = 0
   ·simp [whyAt, h0] at hw
   ·simp [whyAt, h0, h6, h7, hc'] at hw
  obtain ⟨d1, d2, d3, d4, d5, d6⟩ := doQ_valid h h7 h6
  obtain ⟨q1, q2, q3, q4, q5⟩ := doQ_same s (ordAt s)
  have ub := until_bd (ordAt s) s.time (negAt s)
  have ue : untilAt s = whenUntil (ordAt s) s.time (negAt s) := rfl
  have ho := h.ord
  simp only [ordB, addrB, Bool.and_eq_true] at ho
  have b1 := inB_bd ho.1.2
  have b2 := inB_bd ho.2
  have hat : 0 ≤ whenAt (ordAt s) (negAt s) ∧ whenAt (ordAt s) (negAt s) ≤ 127 := by unfold whenAt; split <;> assumption
  have ht := h.time
  have hd := h.done
  have hy := h.why
  exact ⟨d1, by show (doQ s (ordAt s)).tape.length ≤ _; rw [q1]; exact h.tlen, d2, d3, by show ∀ x ∈ (doQ s (ordAt s)).tape, _; rw [q1]; exact h.wt, d4,
   ⟨d5, by show _ ≤ ((doQ s (ordAt s)).tape.length : Int); rw [q1]; exact d6⟩, ⟨by show 0 ≤ untilAt s; omega, hu⟩, hat, ⟨by show 0 ≤ s.done + 1; omega, by show s.done + 1 ≤ untilAt s; omega⟩, by show 0 ≤ (doQ s (ordAt s)).why ∧ _; rw [q5]; exact hy, by show untilAt s % 16 = _; rw [ue]; exact ub.2.2⟩
 ·have hy := whyAt_bd s
  exact ⟨h.len, h.tlen, h.plen, h.ws, h.wt, h.wp, h.taken, h.time, h.at_, h.done, hy, h.place⟩
theorem runQ_valid : ∀ (n : Nat) {s : St}, Valid s → Valid (runQ n s)
 | 0, _, h => h
 | n + 1, s, h => by
  unfold runQ
  split
  ·exact runQ_valid n (stepQ_valid h)
  ·exact h
/-- one order more -/
theorem runQ_snoc : ∀ (n : Nat) (s : St), runQ (n + 1) s = if (runQ n s).why = 0 then stepQ (runQ n s) else runQ n s
 | 0, s => rfl
 | n + 1, s => by
  show (if s.why = 0 then runQ (n + 1) (stepQ s) else s) = _
  by_cases h : s.why = 0
  ·have e : runQ (n + 1) s = runQ n (stepQ s) := by simp [runQ, h]
   rw [if_pos h, e]; exact runQ_snoc n (stepQ s)
  ·have e : runQ (n + 1) s = s := by simp [runQ, h]
   rw [if_neg h, e, if_neg h]
theorem stepQ_why {s : St} (h : s.why = 0) : (stepQ s).why = whyAt s := by
 unfold stepQ
 split
 ·rename_i hw; rw [hw]; show (doQ s (ordAt s)).why = 0; rw [(doQ_same s _).2.2.2.2]; exact h
 ·rfl
theorem traceQ_snoc : ∀ (n : Nat) (s : St), traceQ (n + 1) s = if (runQ n s).why = 0 ∧ (stepQ (runQ n s)).why = 0 then traceQ n s ++ [⟨(runQ n s).at_, ordAt (runQ n s), (runQ n s).time, (stepQ (runQ n s)).time⟩] else traceQ n s
 | 0, s => by
  by_cases h : s.why = 0
  ·by_cases h2 : whyAt s = 0
   ·have : (stepQ s).time = untilAt s := by unfold stepQ; rw [if_pos h2]
    simp [traceQ, runQ, h, h2, stepQ_why h, this]
   ·simp [traceQ, runQ, h, h2, stepQ_why h]
  ·simp [traceQ, runQ, h]
 | n + 1, s => by
  by_cases h : s.why = 0
  ·have er : runQ (n + 1) s = runQ n (stepQ s) := by simp [runQ, h]
   by_cases h2 : whyAt s = 0
   ·have e1 : traceQ (n + 1 + 1) s = ⟨s.at_, ordAt s, s.time, untilAt s⟩ :: traceQ (n + 1) (stepQ s) := by rw [traceQ]; simp [h, h2]
    have e2 : traceQ (n + 1) s = ⟨s.at_, ordAt s, s.time, untilAt s⟩ :: traceQ n (stepQ s) := by rw [traceQ]; simp [h, h2]
    rw [e1, e2, er, traceQ_snoc n (stepQ s)]
    split <;> simp
   ·have e1 : traceQ (n + 1 + 1) s = [] := by rw [traceQ]; simp [h, h2]
    have e2 : traceQ (n + 1) s = [] := by rw [traceQ]; simp [h, h2]
    have hs : (stepQ s).why ≠ 0 := by rw [stepQ_why h]; exact h2
    have e3 : (runQ n (stepQ s)).why ≠ 0 := by
     cases n with
     | zero => exact hs
     | succ n => simp [runQ, hs]
    rw [e1, e2, er, if_neg (fun c => e3 c.1)]
  ·have er : runQ (n + 1) s = s := by simp [runQ, h]
   have e1 : traceQ (n + 1 + 1) s = [] := by rw [traceQ]; simp [h]
   have e2 : traceQ (n + 1) s = [] := by rw [traceQ]; simp [h]
   rw [e1, e2, er, if_neg (fun c => h c.1)]
theorem traceQ_le : ∀ (n : Nat) (s : St), (traceQ n s).length ≤ n
 | 0, _ => Nat.le_refl _
 | n + 1, s => by
  have := traceQ_le n (stepQ s)
  unfold traceQ
  repeat' split
  all_goals simp
  omega
end Go.Q
/- Contract: machine.run, whatever it tells. -/
namespace Go.Proofs.YtnhpcoagkmgdoaaGreat
open Go.RowKit Go.Q
/-- a step as a value -/
abbrev stv (x : Stp) : Value := .agg #[.int .i64 x.at_, .int .i64 x.ord.op, .int .i64 x.ord.frm, .int .i64 x.ord.to, .int .i64 x.ord.nxt, .int .i64 x.time, .int .i64 x.until_]
/-- rows of ints and machines stay -/
def KeepT (w w' : World) : Prop := w.heap.size ≤ w'.heap.size ∧ ∀ (k : Nat) (c : Array Value) (T : TypeId) (fr : Nat × Nat), w.heap[k]? = some (Obj.cells c T fr) → T = 3 ∨ T = 159 → w'.heap[k]? = w.heap[k]?
theorem KeepT.of_ext {w w' : World} (h : Ext w w') : KeepT w w' := ⟨h.size, fun k c T fr hk _ => h.block k (lt_of_block hk)⟩
theorem KeepT.set {w : World} {b : Nat} {cs : Array Value} {T : TypeId} {fr : Nat × Nat} (hb : w.heap[b]? = some (.cells cs T fr)) (h1 : T ≠ 3) (h2 : T ≠ 159) (i : Nat) (v : Value) : KeepT w (w.setCell ⟨b, i, none⟩ v) :=
 ⟨by simp [World.setCell], fun k c U fr' hk hU => Below.heap_setCell _ _ _ _ (fun e => by
  have e' : k = b := e
  rw [e'] at hk
  have := hb.symm.trans hk
  simp only [Option.some.injEq, Obj.cells.injEq] at this
  obtain ⟨_, rfl, _⟩ := this
  exact hU.elim h1 h2)⟩
variable {nb m g1 c1 : Nat} {tv pv : Value} {s : St} {o : Ord}
theorem Mac.keep {w w' : World} (h : Mac w nb m g1 c1 tv pv s o) (k : KeepT w w') : Mac w' nb m g1 c1 tv pv s o where
 low := h.low
 blk := (k.2 _ _ _ _ h.blk (.inr rfl)).trans h.blk
 st := by obtain ⟨cur, hg, ht⟩ := h.st; exact ⟨cur, (k.2 _ _ _ _ hg (.inl rfl)).trans hg, ht⟩
 len := h.len
 tp := by
  obtain ⟨a2, c2, hv, ht⟩ := h.tp
  refine ⟨a2, c2, hv, ?_⟩
  rcases ht with ht | ⟨b, off, ha, ⟨cu, hcu⟩, h1, h2, h3, hc⟩
  ·exact .inl ht
  ·have e := k.2 _ _ _ _ hcu (.inl rfl)
   exact .inr ⟨b, off, ha, ⟨cu, e.trans hcu⟩, h1, h2, h3, fun i hi => (World.cell?_of_block (w := w) e).trans (hc i hi)⟩
 prow := own_later h.prow (fun b hb => by
  rcases h.prow.2 with ⟨e, _⟩ | ⟨g, cap, cur, e, _, hg, _⟩
  ·rw [e] at hb; cases hb
  ·rw [e] at hb
   obtain rfl : g = b := by simpa [Value.ownBlock] using hb
   exact k.2 _ _ _ _ hg (.inl rfl))
 pm := h.pm
 pg := h.pg
theorem KeepT.trans {a b c : World} (h : KeepT a b) (k : KeepT b c) : KeepT a c :=
 ⟨Nat.le_trans h.1 k.1, fun i cs T fr hi hT => by
  have e := h.2 i cs T fr hi hT
  exact (k.2 i cs T fr (e.trans hi) hT).trans e⟩
/-- five cells of a block that is no machine's are written -/
theorem set5 {w : World} {b : Nat} {cs : Array Value} {T : TypeId} (hb : w.heap[b]? = some (.cells cs T (0, 0))) (h1 : T ≠ 3) (h2 : T ≠ 159) (i j k l n : Nat) (x y z u v : Value) :
  KeepT w (((((w.setCell ⟨b, i, none⟩ x).setCell ⟨b, j, none⟩ y).setCell ⟨b, k, none⟩ z).setCell ⟨b, l, none⟩ u).setCell ⟨b, n, none⟩ v) ∧
   Chg (fun q => q = b) w (((((w.setCell ⟨b, i, none⟩ x).setCell ⟨b, j, none⟩ y).setCell ⟨b, k, none⟩ z).setCell ⟨b, l, none⟩ u).setCell ⟨b, n, none⟩ v) := by
 have b1 := cells_set hb i x
 have b2 := cells_set b1 j y
 have b3 := cells_set b2 k z
 have b4 := cells_set b3 l u
 refine ⟨((((KeepT.set hb h1 h2 i x).trans (KeepT.set b1 h1 h2 j y)).trans (KeepT.set b2 h1 h2 k z)).trans (KeepT.set b3 h1 h2 l u)).trans (KeepT.set b4 h1 h2 n v), ?_⟩
 exact ((((((Chg.refl (fun q => q = b) w).setCell ⟨b, i, none⟩ rfl x).setCell ⟨b, j, none⟩ rfl y).setCell ⟨b, k, none⟩ rfl z).setCell ⟨b, l, none⟩ rfl u).setCell ⟨b, n, none⟩ rfl v)
theorem runQ_stop {s : St} {k : Nat} (h : (runQ k s).why ≠ 0) : ∀ j, runQ (k + j) s = runQ k s ∧ traceQ (k + j) s = traceQ k s
 | 0 => ⟨rfl, rfl⟩
 | j + 1 => by
  obtain ⟨h1, h2⟩ := runQ_stop h j
  have e : k + (j + 1) = (k + j) + 1 := rfl
  rw [e, runQ_snoc, traceQ_snoc, h1, h2, if_neg h, if_neg (fun c => h c.1)]
  exact ⟨rfl, rfl⟩
/-- what is asked of the function that is told each step -/
structure Tell (P : Program) (g : Nat) (lb : Array Value) (nb m g1 c1 n0 : Nat) (I : List Stp → World → Prop) : Prop where
 keep : ∀ l W W' tv pv s o, Mac W nb m g1 c1 tv pv s o → Chg (Own3 m g1 pv) W W' → I l W → I l W'
 tell : ∀ x l W, l.length ≤ 5000 → n0 ≤ W.heap.size → I l W → Calls P g (#[stv x] ++ lb) W fun e w' => e = .returned (.tuple #[]) ∧ I (l ++ [x]) w' ∧ KeepT W w' ∧ Below n0 W w'
/-- the machine has run -/
def RunRes (nb m g1 c1 n0 : Nat) (tv : Value) (I : List Stp → World → Prop) (s : St) (n : Nat) (w : World) (e : Ending) (w' : World) : Prop :=
 e = .returned (.tuple #[]) ∧ (∃ pv o, Mac w' nb m g1 c1 tv pv (runQ n s) o) ∧ I (traceQ n s) w' ∧ Below n0 w w'
set_option maxHeartbeats 8000000 in
set_option maxRecDepth 100000 in
theorem run_any (w : World) (n0 most : Nat) (g : Nat) (lb : Array Value) (I : List Stp → World → Prop) (h : Mac w nb m g1 c1 tv pv s o) (hv : Valid s) (hm : most ≤ 5000) (hn0 : n0 ≤ nb)
  (eg : ∀ args w, (callFunc g args).run Tryz.prog w = .ok (.enter g args) w) (hT : Tell Tryz.prog g lb nb m g1 c1 n0 I) (hI : I [] w) :
  Calls Tryz.prog 96 #[.pointer (some ⟨m, 0, none⟩), .int .i64 most, .func (.func g) #[] lb] w (RunRes nb m g1 c1 n0 tv I s most w) := by
 have HT := Lib.hid hT
 have HV := Lib.hid hv
 have Hm0 := Lib.hid (And.intro hI h)
 clear hT hv hI h
 go_enter Tryz.func96, Tryz.ntmps96
 go_wp2
 go_step3
 go_wp2
 go_step3
 go_wp2
 go_loopg [6, 8] (most + 1) (fun gg _ s8 wr => ∃ k : Nat, k ≤ most ∧ most + 1 - k ≤ gg ∧ s8 = .int .i64 k ∧ Aside (∃ pv o, Mac wr nb m g1 c1 tv pv (runQ k s) o) ∧ Aside (I (traceQ k s) wr) ∧ Aside (Below n0 w wr))
 case atStart => exact ⟨0, by omega, by omega, rfl, ⟨_, _, Hm0.out.2⟩, Hm0.out.1, Below.refl _ _⟩
 case round =>
  obtain ⟨k, hk, hg, rfl, hM, hI, hB⟩ := hrel
  clear Hm0
  obtain ⟨pk, ok, M⟩ := hM.out
  clear hM
  by_cases hlt : k < most
  ·have hltz : (k : Int) < (most : Int) := by omega
   have k7 := M.c 7 (v := .int .i64 (runQ k s).why) rfl
   have k4 := M.c 4 (v := .int .i64 (runQ k s).time) rfl
   have k5 := M.c 5 (v := .int .i64 (runQ k s).at_) rfl
   have k4' : ∀ ob, (wr.alloc ob).cell? ⟨m, 4, none⟩ = some (.int .i64 (runQ k s).time) := fun ob => cell_later ((Ext.refl wr).alloc ob) k4
   have k5' : ∀ ob, (wr.alloc ob).cell? ⟨m, 5, none⟩ = some (.int .i64 (runQ k s).at_) := fun ob => cell_later ((Ext.refl wr).alloc ob) k5
   have V := Lib.hid (runQ_valid k HV.out)
   have R1 := Lib.hid (runQ_snoc k s)
   have R2 := Lib.hid (traceQ_snoc k s)
   have R3 := Lib.hid (runQ_stop (s := s) (k := k))
   have hll := traceQ_le k s
   generalize runQ k s = sk at *
   generalize traceQ k s = lk at *
   cases hy : sk.why == 0 with
   | false =>
    have hy' : (sk.why != 0) = true := by rw [bne, hy]; rfl
    have Hy := Lib.hid hy
    clear hy
    go_wp2_with fail
    rw [Exit.noGoto_normal]
    go_end0
    have hne : sk.why ≠ 0 := by have := Hy.out; intro e; rw [e] at this; exact absurd this (by decide)
    obtain ⟨e1, e2⟩ := R3.out hne (most - k)
    have ek : k + (most - k) = most := by omega
    rw [ek] at e1 e2
    exact ⟨rfl, ⟨pk, ok, by rw [e1]; exact M⟩, by rw [e2]; exact hI.out, hB.out⟩
   | true =>
    have hy' : (sk.why != 0) = false := by rw [bne, hy]; rfl
    have Hy := Lib.hid hy
    clear hy
    go_wp2_with fail
    go_region
    go_wp2_with fail
    have hy0 : sk.why = 0 := by simpa using Hy.out
    have hlt1 := M.ltm
    have hlt2 := M.ltg
    have hnm := M.low.1
    refine (step_any _ (by exact M.ext ((Ext.refl wr).alloc _).drew) V.out hy0).mono ?_
    rintro e w2 ⟨rfl, pv2, M2, C2, hp2⟩
    have hx : w2.heap[wr.heap.size]? = some (.cells #[.int .i64 sk.at_, .int .i64 0, .int .i64 0, .int .i64 0, .int .i64 0, .int .i64 sk.time, .int .i64 0] 156 (0, 0)) :=
     (C2.block wr.heap.size (by simp) (fun hS => by
      rcases hS with hS | hS | hS
      ·omega
      ·omega
      ·have := own_lt M.prow hS; omega)).trans (show (wr.heap.push _)[wr.heap.size]? = _ by simp)
    have C3 : Chg (Own3 m g1 pk) wr w2 := (Chg.of_ext ((Ext.refl wr).alloc _).drew).trans C2
    have B3 : Below n0 w w2 := hB.out.trans (C3.below (fun k hS => by
     rcases hS with hS | hS | hS
     ·omega
     ·have := M.low.2.1; omega
     ·rcases M.prow.2 with ⟨h1, _⟩ | ⟨g', cap', cur', h1, h2, _⟩
      ·rw [h1] at hS; cases hS
      ·rw [h1] at hS
       obtain rfl : g' = k := by simpa [Value.ownBlock] using hS
       omega) (by omega))
    have ew := stepQ_why hy0
    have j7 := M2.c 7 (v := .int .i64 (whyAt sk)) (by rw [← ew]; rfl)
    have hxm : wr.heap.size ≠ m := by omega
    have hmx : m ≠ wr.heap.size := by omega
    have Hx := Lib.hid hx
    have HC := Lib.hid C3
    have HE := Lib.hid ew
    have Hyy := Lib.hid hy0
    clear C2 C3 ew hy0 k4 k5 k7 k4' k5'
    cases hz : whyAt sk == 0 with
    | false =>
     have Hz := Lib.hid hz
     rw [show whyAt sk = whyAt sk from rfl] at j7
     go_wp2_with fail
     go_roundg (most - k)
     case measure => omega
     case rel =>
      have hs2 : (stepQ sk).why ≠ 0 := by rw [HE.out]; intro e; rw [e] at Hz; exact absurd Hz.out (by decide)
      refine ⟨k + 1, by omega, by omega, by go_num, ?_, ?_, B3⟩
      ·rw [R1.out, if_pos Hyy.out]; exact ⟨_, _, M2⟩
      ·rw [R2.out, if_neg (fun c => hs2 c.2)]; exact HT.out.keep _ _ _ _ _ _ _ M HC.out hI.out
    | true =>
     have Hz := Lib.hid hz
     have j8 := M2.c 8 (v := .int .i64 (ordAt sk).op) rfl
     have j9 := M2.c 9 (v := .int .i64 (ordAt sk).frm) rfl
     have j10 := M2.c 10 (v := .int .i64 (ordAt sk).to) rfl
     have j11 := M2.c 11 (v := .int .i64 (ordAt sk).nxt) rfl
     have j4 := M2.c 4 (v := .int .i64 (stepQ sk).time) rfl
     have x0 := cell_of_cells hx 0 (v := .int .i64 sk.at_) rfl
     have x1 := cell_of_cells hx 1 (v := .int .i64 0) rfl
     have x2 := cell_of_cells hx 2 (v := .int .i64 0) rfl
     have x3 := cell_of_cells hx 3 (v := .int .i64 0) rfl
     have x4 := cell_of_cells hx 4 (v := .int .i64 0) rfl
     have x5 := cell_of_cells hx 5 (v := .int .i64 sk.time) rfl
     have x6 := cell_of_cells hx 6 (v := .int .i64 0) rfl
     have y1 := free_of_cells hx 1
     have y2 := free_of_cells hx 2
     have y3 := free_of_cells hx 3
     have y4 := free_of_cells hx 4
     have y6 := free_of_cells hx 6
     clear hx
     have ht := fun (W : World) (h1 : n0 ≤ W.heap.size) (h2 : I lk W) => HT.out.tell ⟨sk.at_, ordAt sk, sk.time, (stepQ sk).time⟩ lk W (by omega) h1 h2
     have HT2 := Lib.hid ht
     clear ht
     go_wp2_with fail
     go_region
     go_wp2_with fail
     have S5 := set5 Hx.out (by decide) (by decide) 1 2 3 4 6 (.int .i64 (ordAt sk).op) (.int .i64 (ordAt sk).frm) (.int .i64 (ordAt sk).to) (.int .i64 (ordAt sk).nxt) (.int .i64 (stepQ sk).time)
     have CW := (HC.out.trans' S5.2 (fun i hi e => by omega)).trans (.of_ext (Ext.refl _).drew)
     have MW := (M2.keep S5.1).ext (Ext.refl _).drew
     have BW := (B3.trans (S5.2.below (n := n0) (fun k e => by omega) (by have := M2.ltm; omega))).drew
     have hnw : n0 ≤ w2.heap.size := by have := M2.ltm; omega
     refine (HT2.out _ (by exact Nat.le_trans hnw S5.1.1) (HT.out.keep _ _ _ _ _ _ _ M CW hI.out)).mono ?_
     rintro e w3 ⟨rfl, hI3, hK3, hB3⟩
     have M3 := MW.keep hK3
     have B4 := BW.trans hB3
     clear S5 CW MW BW hK3 hB3 x0 x1 x2 x3 x4 x5 x6 y1 y2 y3 y4 y6 j4 j7 j8 j9 j10 j11
     go_wp2_with fail
     go_roundg (most - k)
     case measure => omega
     case rel =>
      have hs2 : (stepQ sk).why = 0 := by rw [HE.out]; simpa using Hz.out
      refine ⟨k + 1, by omega, by omega, by go_num, ?_, ?_, B4⟩
      ·rw [R1.out, if_pos Hyy.out]; exact ⟨_, _, M3⟩
      ·rw [R2.out, if_pos ⟨Hyy.out, hs2⟩]; exact hI3
  ·have hltz : ¬ (k : Int) < (most : Int) := by omega
   have hkm : k = most := by omega
   have Hkm := Lib.hid hkm
   clear hkm
   go_wp2_with fail
   go_end0
   exact ⟨rfl, ⟨pk, ok, by rw [← Hkm.out]; exact M⟩, by rw [← Hkm.out]; exact hI.out, hB.out⟩
end Go.Proofs.YtnhpcoagkmgdoaaGreat
/- Layer 4 in plain Lean, on: what Run, Trace and Begin return. -/
namespace Go.Q
open Go.RowKit
def zst : St := ⟨[], [], 0, [], 0, 0, 0, 0⟩
def runE (s : St) (most : Int) : St × Int := if askedQ s most = 0 then (runQ most.toNat s, 0) else (zst, askedQ s most)
theorem asked_ok {s : St} {most : Int} (h : askedQ s most = 0) : (checkQ s).2.2 = 0 ∧ inB most 0 5000 = true := by
 by_cases h1 : (checkQ s).2.2 = 0
 ·refine ⟨h1, ?_⟩
  cases h2 : inB most 0 5000 with
  | true => rfl
  | false => simp [askedQ, h1, h2] at h
 ·simp [askedQ, h1] at h
theorem check_zero {s : St} (h : (checkQ s).2.2 = 0) : checkQ s = (0, 0, 0) := by
 unfold checkQ at *
 repeat' split at h
 all_goals first | (simp at h; done) | skip
 simp_all
 rw [if_neg (by omega), if_neg (by omega), if_neg (by omega)]
/-- cells of the block laid second -/
theorem box_at2 {w w1 : World} {o : Obj} {vs : Array Value} {T : TypeId} (h : Ext ((w.alloc o).alloc (.cells vs T)) w1) (i : Nat) {v : Value} (hv : vs[i]? = some v) : w1.cell? ⟨w.heap.size + 1, i, none⟩ = some v := by
 have := box_at h i hv
 simpa using this
theorem box_free2 {w w1 : World} {o : Obj} {vs : Array Value} {T : TypeId} (h : Ext ((w.alloc o).alloc (.cells vs T)) w1) (i : Nat) : w1.frozen? ⟨w.heap.size + 1, i, none⟩ = false := by
 have := box_free h i
 simpa using this
theorem ext_set8 {w w1 : World} {n : Nat} (h : Ext w w1) (hn : w.heap.size ≤ n) (a b c d e f g k : Value) : Ext w ((((((((w1.setCell ⟨n, 0, none⟩ a).setCell ⟨n, 1, none⟩ b).setCell ⟨n, 2, none⟩ c).setCell ⟨n, 3, none⟩ d).setCell ⟨n, 4, none⟩ e).setCell ⟨n, 5, none⟩ f).setCell ⟨n, 6, none⟩ g).setCell ⟨n, 7, none⟩ k) :=
 (((((((h.setCell (p := ⟨n, 0, none⟩) hn a).setCell (p := ⟨n, 1, none⟩) hn b).setCell (p := ⟨n, 2, none⟩) hn c).setCell (p := ⟨n, 3, none⟩) hn d).setCell (p := ⟨n, 4, none⟩) hn e).setCell (p := ⟨n, 5, none⟩) hn f).setCell (p := ⟨n, 6, none⟩) hn g).setCell (p := ⟨n, 7, none⟩) hn k
end Go.Q

import Derived.Test.YtjfggepgjpdebaaM14
import Derived.Test.YtjfggepgjpdebaaM15
set_option linter.unusedVariables false
set_option linter.unusedSimpArgs false
/- Contract: pulse's leave. -/
namespace Go.Proofs.Ytjfggepgjpdebaa
open Go.RowKit Go.Q
variable {nb G m g1 c1 LB cL : Nat} {tv pv : Value} {vs : Nat → Value} {b : PuB} {st0 : List Int}
theorem ext_gc {w W : World} {k i : Nat} {v : Value} (E : Ext w W) (h : k < w.heap.size) (hc : w.cell? ⟨k, i, none⟩ = some v) : W.cell? ⟨k, i, none⟩ = some v := (E.cell (p := ⟨k, i, none⟩) h).trans hc
theorem Gat.lines {W : World} (h : Gat W nb G m g1 c1 tv pv LB cL vs b st0) (hl : b.lines.length = 8) (h384 : ∀ l ∈ b.lines, l.length = 384) : LinesAt W (some ⟨LB, 0, none⟩) b.lines := by
  have hlt : LB < W.heap.size := by obtain ⟨cur, hc, _⟩ := h.lb; exact hc.lt
  refine .inr ⟨LB, 0, rfl, hlt, fun i hi => ?_⟩
  have hi8 : i < 8 := by omega
  have hlen : (b.lines[i]?.getD []).length = 384 := by
    rw [List.getElem?_eq_getElem (by omega)]
    exact h384 _ (List.getElem_mem _)
  have hc := h.line hi8
  have hr := h.row i hi8
  rw [hlen, Nat.zero_add]
  rcases hr.2 with ⟨_, h0⟩ | ⟨g, cap, cur, hv, hbg, hgb, hle, hmx, _, ht⟩
  · omega
  · refine ⟨some ⟨g, 0, none⟩, cap, by rw [hc, hv], ⟨hle, by unfold maxLen at hmx; omega⟩, .inr ⟨g, 0, rfl, lt_of_block hgb, fun k hk => ?_⟩⟩
    rw [hlen] at hk
    refine cell_of_cells hgb (0 + k) ?_
    rw [Nat.zero_add]
    have e := bv_get (b.lines[i]?.getD []) k (by omega)
    rw [← ht, List.getElem?_take, if_pos (by omega)] at e
    simpa using e
/-- leave has returned the gates' pulses: the value is built of the gates' own slices -/
def LvR (tv pv : Value) (LB cL : Nat) (b : PuB) (w : World) (e : Ending) (w' : World) : Prop :=
  ∃ a2 d2 a3 d3, tv = .slice a2 b.now.tape.length d2 ∧ pv = .slice a3 b.now.printed.length d3 ∧ e = .returned (pbv (some ⟨LB, 0, none⟩) none a2 a3 8 cL 0 0 b.now.tape.length d2 b.now.printed.length d3 b) ∧ Ext w w'
theorem Gat.pb {W : World} {a2 a3 : Option Addr} {d2 d3 : Nat} (h : Gat W nb G m g1 c1 (.slice a2 b.now.tape.length d2) (.slice a3 b.now.printed.length d3) LB cL vs b st0) (hl : b.lines.length = 8) (h384 : ∀ l ∈ b.lines, l.length = 384) (hno : b.now.store = []) :
    PbAt W (pbv (some ⟨LB, 0, none⟩) none a2 a3 8 cL 0 0 b.now.tape.length d2 b.now.printed.length d3 b) b := by
  obtain ⟨x2, y2, e2, i2⟩ := h.ctl.tape
  simp only [Value.slice.injEq] at e2
  obtain ⟨rfl, _, rfl⟩ := e2
  exact ⟨some ⟨LB, 0, none⟩, none, a2, a3, cL, 0, d2, d3, by rw [hl, hno]; rfl, h.lines hl h384, .inl hno, i2, own_ints h.ctl.prow⟩
/-- blocks of one kind may turn: the gates do not look at them -/
theorem Gat.keepT {W W' : World} (h : Gat W nb G m g1 c1 tv pv LB cL vs b st0) (hs : W.heap.size ≤ W'.heap.size)
    (hk : ∀ (k : Nat) (cs : Array Value) (T : TypeId) (fr : Nat × Nat), W.heap[k]? = some (.cells cs T fr) → T ≠ 50 → W'.heap[k]? = W.heap[k]?) : Gat W' nb G m g1 c1 tv pv LB cL vs b st0 where
  low := h.low
  blk := (hk _ _ _ _ h.blk (by decide)).trans h.blk
  lb := by obtain ⟨cur, hc, hv⟩ := h.lb; exact ⟨cur, (hk _ _ _ _ hc (by decide)).trans hc, hv⟩
  row := fun i hi => own_later (h.row i hi) (fun q hq => by
    rcases (h.row i hi).2 with ⟨e1, _⟩ | ⟨g, cap, cur, e1, _, hg, _⟩
    · rw [e1] at hq; cases hq
    · rw [e1] at hq
      obtain rfl : g = q := by simpa [Value.ownBlock] using hq
      exact hk _ _ _ _ hg (by decide))
  apart := h.apart
  ctl := h.ctl.keep ⟨hs, fun k c T fr hc hT => hk k c T fr hc (by rcases hT with rfl | rfl <;> decide)⟩
set_option maxRecDepth 100000 in
set_option maxHeartbeats 8000000 in
theorem leave_any (w : World) (h : Gat w nb G m g1 c1 tv pv LB cL vs b st0) (hl : b.lines.length = 8) (h384 : ∀ l ∈ b.lines, l.length = 384) (hno : b.now.store = []) :
    Calls Try.prog 75 #[.pointer (some ⟨G, 0, none⟩)] w (LvR tv pv LB cL b w) := by
  obtain ⟨a2, d2, htv, i2⟩ := h.ctl.tape
  obtain ⟨a3, d3, hpv⟩ := h.ctl.paper
  have hpr := h.ctl.prow
  have i3 : IntsAt w a3 b.now.printed := by
    have h0 := hpr
    rw [hpv] at h0
    exact own_ints h0
  have i2' : IntsAt w a2 b.now.tape := i2
  obtain ⟨n2, hn2⟩ : ∃ n, n = b.now.tape.length := ⟨_, rfl⟩
  obtain ⟨n3, hn3⟩ : ∃ n, n = b.now.printed.length := ⟨_, rfl⟩
  have htv' : tv = .slice a2 n2 d2 := by rw [hn2]; exact htv
  have hpv' : pv = .slice a3 n3 d3 := by rw [hn3]; exact hpv
  subst htv' hpv' 
  have k0 := h.c 0 (v := .pointer (some ⟨m, 0, none⟩)) rfl
  have k1 := h.c 1 (v := .slice (some ⟨LB, 0, none⟩) 8 cL) rfl
  have k2 := h.c 2 (v := .int .i64 b.beat) rfl
  have k3 := h.c 3 (v := .int .i64 b.carry) rfl
  have k4 := h.c 4 (v := .int .i64 b.sum) rfl
  have q0 := h.ctl.c 0 (v := .slice (some ⟨g1, 0, none⟩) 128 c1) rfl
  have q1 := h.ctl.c 1 (v := .slice a2 n2 d2) rfl
  have q2 := h.ctl.c 2 (v := .int .i64 b.now.taken) rfl
  have q3 := h.ctl.c 3 (v := .slice a3 n3 d3) rfl
  have q4 := h.ctl.c 4 (v := .int .i64 b.now.clock) rfl
  have q5 := h.ctl.c 5 (v := .int .i64 b.now.at_) rfl
  have q6 := h.ctl.c 6 (v := .int .i64 b.now.phase) rfl
  have q7 := h.ctl.c 7 (v := .int .i64 b.now.order) rfl
  have q8 := h.ctl.c 8 (v := .int .i64 b.now.operand) rfl
  have q9 := h.ctl.c 9 (v := .int .i64 b.now.other) rfl
  have q10 := h.ctl.c 10 (v := .int .i64 b.now.product) rfl
  have q11 := h.ctl.c 11 (v := .int .i64 b.now.count) rfl
  have q12 := h.ctl.c 12 (v := .int .i64 b.now.done) rfl
  have q13 := h.ctl.c 13 (v := .int .i64 b.now.why) rfl
  have hG := h.blk.lt
  have hM := h.ctl.ltm
  have hS : ∀ W, Ext w W → W.cell? ⟨G, 0, none⟩ = some (.pointer (some ⟨m, 0, none⟩)) ∧ W.cell? ⟨G, 1, none⟩ = some (.slice (some ⟨LB, 0, none⟩) 8 cL) ∧ W.cell? ⟨G, 2, none⟩ = some (.int .i64 b.beat) ∧ W.cell? ⟨G, 3, none⟩ = some (.int .i64 b.carry) ∧ W.cell? ⟨G, 4, none⟩ = some (.int .i64 b.sum) ∧ W.cell? ⟨m, 0, none⟩ = some (.slice (some ⟨g1, 0, none⟩) 128 c1) ∧ W.cell? ⟨m, 1, none⟩ = some (.slice a2 n2 d2) ∧ W.cell? ⟨m, 2, none⟩ = some (.int .i64 b.now.taken) ∧ W.cell? ⟨m, 3, none⟩ = some (.slice a3 n3 d3) ∧ W.cell? ⟨m, 4, none⟩ = some (.int .i64 b.now.clock) ∧ W.cell? ⟨m, 5, none⟩ = some (.int .i64 b.now.at_) ∧ W.cell? ⟨m, 6, none⟩ = some (.int .i64 b.now.phase) ∧ W.cell? ⟨m, 7, none⟩ = some (.int .i64 b.now.order) ∧ W.cell? ⟨m, 8, none⟩ = some (.int .i64 b.now.operand) ∧ W.cell? ⟨m, 9, none⟩ = some (.int .i64 b.now.other) ∧ W.cell? ⟨m, 10, none⟩ = some (.int .i64 b.now.product) ∧ W.cell? ⟨m, 11, none⟩ = some (.int .i64 b.now.count) ∧ W.cell? ⟨m, 12, none⟩ = some (.int .i64 b.now.done) ∧ W.cell? ⟨m, 13, none⟩ = some (.int .i64 b.now.why) := fun W E => ⟨ext_gc E hG k0, ext_gc E hG k1, ext_gc E hG k2, ext_gc E hG k3, ext_gc E hG k4, ext_gc E hM q0, ext_gc E hM q1, ext_gc E hM q2, ext_gc E hM q3, ext_gc E hM q4, ext_gc E hM q5, ext_gc E hM q6, ext_gc E hM q7, ext_gc E hM q8, ext_gc E hM q9, ext_gc E hM q10, ext_gc E hM q11, ext_gc E hM q12, ext_gc E hM q13⟩
  have H := Lib.hid h
  have HI := Lib.hid (And.intro i2' i3)
  have HN := Lib.hid (And.intro hn2 hn3)
  clear h i2 i2' i3 hpr htv hpv hn2 hn3
  go_enter Try.func75, Try.ntmps75
  go_wp2_with fail
  go_region_held3 (fun W => W.cell? ⟨G, 0, none⟩ = some (.pointer (some ⟨m, 0, none⟩)) ∧ W.cell? ⟨G, 1, none⟩ = some (.slice (some ⟨LB, 0, none⟩) 8 cL) ∧ W.cell? ⟨G, 2, none⟩ = some (.int .i64 b.beat) ∧ W.cell? ⟨G, 3, none⟩ = some (.int .i64 b.carry) ∧ W.cell? ⟨G, 4, none⟩ = some (.int .i64 b.sum) ∧ W.cell? ⟨m, 0, none⟩ = some (.slice (some ⟨g1, 0, none⟩) 128 c1) ∧ W.cell? ⟨m, 1, none⟩ = some (.slice a2 n2 d2) ∧ W.cell? ⟨m, 2, none⟩ = some (.int .i64 b.now.taken) ∧ W.cell? ⟨m, 3, none⟩ = some (.slice a3 n3 d3) ∧ W.cell? ⟨m, 4, none⟩ = some (.int .i64 b.now.clock) ∧ W.cell? ⟨m, 5, none⟩ = some (.int .i64 b.now.at_) ∧ W.cell? ⟨m, 6, none⟩ = some (.int .i64 b.now.phase) ∧ W.cell? ⟨m, 7, none⟩ = some (.int .i64 b.now.order) ∧ W.cell? ⟨m, 8, none⟩ = some (.int .i64 b.now.operand) ∧ W.cell? ⟨m, 9, none⟩ = some (.int .i64 b.now.other) ∧ W.cell? ⟨m, 10, none⟩ = some (.int .i64 b.now.product) ∧ W.cell? ⟨m, 11, none⟩ = some (.int .i64 b.now.count) ∧ W.cell? ⟨m, 12, none⟩ = some (.int .i64 b.now.done) ∧ W.cell? ⟨m, 13, none⟩ = some (.int .i64 b.now.why)) (first | exact hS _ (by repeat (first | with_reducible exact Ext.refl _ | (with_reducible refine Ext.alloc ?_ _) | (with_reducible refine Below.drew ?_) | (with_reducible refine ext_put ?_ _ (by simp; omega))))) (fail)
  as_aux_lemma =>
  have eW : Ext w (((w.alloc (.cells #[.slice none 0 0, .slice none 0 0, .slice none 0 0, .int .i64 0, .slice none 0 0, .int .i64 0, .int .i64 0, .int .i64 0, .int .i64 0, .int .i64 0, .int .i64 0, .int .i64 0, .int .i64 0, .int .i64 0, .int .i64 0, .int .i64 0, .int .i64 0, .int .i64 0] 50)).alloc (.cells #[.slice (some ⟨LB, 0, none⟩) 8 cL, .slice (some ⟨g1, 0, none⟩) 128 c1, .slice a2 n2 d2, .int .i64 b.now.taken, .slice a3 n3 d3, .int .i64 b.now.clock, .int .i64 b.now.at_, .int .i64 b.now.phase, .int .i64 b.now.order, .int .i64 b.now.operand, .int .i64 b.now.other, .int .i64 b.now.product, .int .i64 b.now.count, .int .i64 b.now.done, .int .i64 b.now.why, .int .i64 b.beat, .int .i64 b.carry, .int .i64 b.sum] 50)).drew) := Below.drew (Ext.alloc (Ext.alloc (Ext.refl w) _) _)
  have rb : Blk (((w.alloc (.cells #[.slice none 0 0, .slice none 0 0, .slice none 0 0, .int .i64 0, .slice none 0 0, .int .i64 0, .int .i64 0, .int .i64 0, .int .i64 0, .int .i64 0, .int .i64 0, .int .i64 0, .int .i64 0, .int .i64 0, .int .i64 0, .int .i64 0, .int .i64 0, .int .i64 0] 50)).alloc (.cells #[.slice (some ⟨LB, 0, none⟩) 8 cL, .slice (some ⟨g1, 0, none⟩) 128 c1, .slice a2 n2 d2, .int .i64 b.now.taken, .slice a3 n3 d3, .int .i64 b.now.clock, .int .i64 b.now.at_, .int .i64 b.now.phase, .int .i64 b.now.order, .int .i64 b.now.operand, .int .i64 b.now.other, .int .i64 b.now.product, .int .i64 b.now.count, .int .i64 b.now.done, .int .i64 b.now.why, .int .i64 b.beat, .int .i64 b.carry, .int .i64 b.sum] 50)).drew) w.heap.size #[.slice none 0 0, .slice none 0 0, .slice none 0 0, .int .i64 0, .slice none 0 0, .int .i64 0, .int .i64 0, .int .i64 0, .int .i64 0, .int .i64 0, .int .i64 0, .int .i64 0, .int .i64 0, .int .i64 0, .int .i64 0, .int .i64 0, .int .i64 0, .int .i64 0] 50 := Blk.dr (Blk.al (Blk.nw w _ _) _)
  have vb : Blk (((w.alloc (.cells #[.slice none 0 0, .slice none 0 0, .slice none 0 0, .int .i64 0, .slice none 0 0, .int .i64 0, .int .i64 0, .int .i64 0, .int .i64 0, .int .i64 0, .int .i64 0, .int .i64 0, .int .i64 0, .int .i64 0, .int .i64 0, .int .i64 0, .int .i64 0, .int .i64 0] 50)).alloc (.cells #[.slice (some ⟨LB, 0, none⟩) 8 cL, .slice (some ⟨g1, 0, none⟩) 128 c1, .slice a2 n2 d2, .int .i64 b.now.taken, .slice a3 n3 d3, .int .i64 b.now.clock, .int .i64 b.now.at_, .int .i64 b.now.phase, .int .i64 b.now.order, .int .i64 b.now.operand, .int .i64 b.now.other, .int .i64 b.now.product, .int .i64 b.now.count, .int .i64 b.now.done, .int .i64 b.now.why, .int .i64 b.beat, .int .i64 b.carry, .int .i64 b.sum] 50)).drew) (w.heap.size + 1) #[.slice (some ⟨LB, 0, none⟩) 8 cL, .slice (some ⟨g1, 0, none⟩) 128 c1, .slice a2 n2 d2, .int .i64 b.now.taken, .slice a3 n3 d3, .int .i64 b.now.clock, .int .i64 b.now.at_, .int .i64 b.now.phase, .int .i64 b.now.order, .int .i64 b.now.operand, .int .i64 b.now.other, .int .i64 b.now.product, .int .i64 b.now.count, .int .i64 b.now.done, .int .i64 b.now.why, .int .i64 b.beat, .int .i64 b.carry, .int .i64 b.sum] 50 := by
    have := Blk.nw (w.alloc (.cells #[.slice none 0 0, .slice none 0 0, .slice none 0 0, .int .i64 0, .slice none 0 0, .int .i64 0, .int .i64 0, .int .i64 0, .int .i64 0, .int .i64 0, .int .i64 0, .int .i64 0, .int .i64 0, .int .i64 0, .int .i64 0, .int .i64 0, .int .i64 0, .int .i64 0] 50)) #[.slice (some ⟨LB, 0, none⟩) 8 cL, .slice (some ⟨g1, 0, none⟩) 128 c1, .slice a2 n2 d2, .int .i64 b.now.taken, .slice a3 n3 d3, .int .i64 b.now.clock, .int .i64 b.now.at_, .int .i64 b.now.phase, .int .i64 b.now.order, .int .i64 b.now.operand, .int .i64 b.now.other, .int .i64 b.now.product, .int .i64 b.now.count, .int .i64 b.now.done, .int .i64 b.now.why, .int .i64 b.beat, .int .i64 b.carry, .int .i64 b.sum] 50
    rw [World.size_alloc] at this
    exact Blk.dr this
  obtain ⟨W2, hW2⟩ : ∃ W2 : World, W2 = ((w.alloc (.cells #[.slice none 0 0, .slice none 0 0, .slice none 0 0, .int .i64 0, .slice none 0 0, .int .i64 0, .int .i64 0, .int .i64 0, .int .i64 0, .int .i64 0, .int .i64 0, .int .i64 0, .int .i64 0, .int .i64 0, .int .i64 0, .int .i64 0, .int .i64 0, .int .i64 0] 50)).alloc (.cells #[.slice (some ⟨LB, 0, none⟩) 8 cL, .slice (some ⟨g1, 0, none⟩) 128 c1, .slice a2 n2 d2, .int .i64 b.now.taken, .slice a3 n3 d3, .int .i64 b.now.clock, .int .i64 b.now.at_, .int .i64 b.now.phase, .int .i64 b.now.order, .int .i64 b.now.operand, .int .i64 b.now.other, .int .i64 b.now.product, .int .i64 b.now.count, .int .i64 b.now.done, .int .i64 b.now.why, .int .i64 b.beat, .int .i64 b.carry, .int .i64 b.sum] 50)).drew := ⟨_, rfl⟩
  rw [← hW2] at eW rb vb ⊢
  clear hW2 hS
  have v1 := vb.c 1 (v := .slice (some ⟨g1, 0, none⟩) 128 c1) rfl
  have vf := vb.f 1
  have hra : (W2.setCell ⟨w.heap.size + 1, 1, none⟩ (.slice none 0 0)).rangeAt (w.heap.size + 1) 0 [.slice (some ⟨LB, 0, none⟩) 8 cL, .slice none 0 0, .slice a2 n2 d2, .int .i64 b.now.taken, .slice a3 n3 d3, .int .i64 b.now.clock, .int .i64 b.now.at_, .int .i64 b.now.phase, .int .i64 b.now.order, .int .i64 b.now.operand, .int .i64 b.now.other, .int .i64 b.now.product, .int .i64 b.now.count, .int .i64 b.now.done, .int .i64 b.now.why, .int .i64 b.beat, .int .i64 b.carry, .int .i64 b.sum] := Blk.range (vb.st 1 _)
  have hth : (W2.setCell ⟨w.heap.size + 1, 1, none⟩ (.slice none 0 0)).there w.heap.size 0 18 := Blk.there (rb.ot (m := w.heap.size + 1) (i := 1) (v := .slice none 0 0) (by omega))
  have HR := Lib.hid (And.intro hra hth)
  have HB := Lib.hid (And.intro rb vb)
  have HE := Lib.hid eW
  clear hra hth rb vb eW
  go_wp2_with (first | (refine wpList_load_mid rfl 50 (.tmp 3) rfl (w.heap.size + 1) 0 rfl [.slice (some ⟨LB, 0, none⟩) 8 cL, .slice none 0 0, .slice a2 n2 d2, .int .i64 b.now.taken, .slice a3 n3 d3, .int .i64 b.now.clock, .int .i64 b.now.at_, .int .i64 b.now.phase, .int .i64 b.now.order, .int .i64 b.now.operand, .int .i64 b.now.other, .int .i64 b.now.product, .int .i64 b.now.count, .int .i64 b.now.done, .int .i64 b.now.why, .int .i64 b.beat, .int .i64 b.carry, .int .i64 b.sum] _ HR.out.1 Try.underlying50 rfl (by kernel_rfl) ?_) | (refine wpList_store_mid rfl 50 (.tmp 2) (.tmp 30) rfl w.heap.size 0 [.slice (some ⟨LB, 0, none⟩) 8 cL, .slice none 0 0, .slice a2 n2 d2, .int .i64 b.now.taken, .slice a3 n3 d3, .int .i64 b.now.clock, .int .i64 b.now.at_, .int .i64 b.now.phase, .int .i64 b.now.order, .int .i64 b.now.operand, .int .i64 b.now.other, .int .i64 b.now.product, .int .i64 b.now.count, .int .i64 b.now.done, .int .i64 b.now.why, .int .i64 b.beat, .int .i64 b.carry, .int .i64 b.sum].toArray rfl rfl HR.out.2 (by kernel_rfl) (by simp [Value.oneCell']) ?_))
  have hW : Ext w ((W2.setCell ⟨w.heap.size + 1, 1, none⟩ (.slice none 0 0)).setCells w.heap.size 0 [.slice (some ⟨LB, 0, none⟩) 8 cL, .slice none 0 0, .slice a2 n2 d2, .int .i64 b.now.taken, .slice a3 n3 d3, .int .i64 b.now.clock, .int .i64 b.now.at_, .int .i64 b.now.phase, .int .i64 b.now.order, .int .i64 b.now.operand, .int .i64 b.now.other, .int .i64 b.now.product, .int .i64 b.now.count, .int .i64 b.now.done, .int .i64 b.now.why, .int .i64 b.beat, .int .i64 b.carry, .int .i64 b.sum]) := (OnlyB.sets _ _ _ (OnlyB.refl w.heap.size _)).ext (HE.out.setCell (p := ⟨w.heap.size + 1, 1, none⟩) (by show w.heap.size ≤ w.heap.size + 1; omega) _) (Nat.le_refl _)
  have r3 : ((W2.setCell ⟨w.heap.size + 1, 1, none⟩ (.slice none 0 0)).setCells w.heap.size 0 [.slice (some ⟨LB, 0, none⟩) 8 cL, .slice none 0 0, .slice a2 n2 d2, .int .i64 b.now.taken, .slice a3 n3 d3, .int .i64 b.now.clock, .int .i64 b.now.at_, .int .i64 b.now.phase, .int .i64 b.now.order, .int .i64 b.now.operand, .int .i64 b.now.other, .int .i64 b.now.product, .int .i64 b.now.count, .int .i64 b.now.done, .int .i64 b.now.why, .int .i64 b.beat, .int .i64 b.carry, .int .i64 b.sum]).rangeAt w.heap.size 0 [.slice (some ⟨LB, 0, none⟩) 8 cL, .slice none 0 0, .slice a2 n2 d2, .int .i64 b.now.taken, .slice a3 n3 d3, .int .i64 b.now.clock, .int .i64 b.now.at_, .int .i64 b.now.phase, .int .i64 b.now.order, .int .i64 b.now.operand, .int .i64 b.now.other, .int .i64 b.now.product, .int .i64 b.now.count, .int .i64 b.now.done, .int .i64 b.now.why, .int .i64 b.beat, .int .i64 b.carry, .int .i64 b.sum] := World.rangeAt_setCells_same _ _ _ _ HR.out.2
  obtain ⟨W3, hW3⟩ : ∃ W3 : World, W3 = (W2.setCell ⟨w.heap.size + 1, 1, none⟩ (.slice none 0 0)).setCells w.heap.size 0 [.slice (some ⟨LB, 0, none⟩) 8 cL, .slice none 0 0, .slice a2 n2 d2, .int .i64 b.now.taken, .slice a3 n3 d3, .int .i64 b.now.clock, .int .i64 b.now.at_, .int .i64 b.now.phase, .int .i64 b.now.order, .int .i64 b.now.operand, .int .i64 b.now.other, .int .i64 b.now.product, .int .i64 b.now.count, .int .i64 b.now.done, .int .i64 b.now.why, .int .i64 b.beat, .int .i64 b.carry, .int .i64 b.sum] := ⟨_, rfl⟩
  rw [← hW3] at hW r3
  dsimp only [Act.put]
  rw [← hW3]
  clear hW3 k0 k1 k2 k3 k4 q0 q1 q2 q3 q4 q5 q6 q7 q8 q9 q10 q11 q12 q13 v1 vf
  have z0 : W3.cell? ⟨w.heap.size, 0, none⟩ = some (.slice (some ⟨LB, 0, none⟩) 8 cL) := by simpa using r3 0 _ rfl
  have z1 : W3.cell? ⟨w.heap.size, 1, none⟩ = some (.slice none 0 0) := by simpa using r3 1 _ rfl
  have z2 : W3.cell? ⟨w.heap.size, 2, none⟩ = some (.slice a2 n2 d2) := by simpa using r3 2 _ rfl
  have z3 : W3.cell? ⟨w.heap.size, 3, none⟩ = some (.int .i64 b.now.taken) := by simpa using r3 3 _ rfl
  have z4 : W3.cell? ⟨w.heap.size, 4, none⟩ = some (.slice a3 n3 d3) := by simpa using r3 4 _ rfl
  have z5 : W3.cell? ⟨w.heap.size, 5, none⟩ = some (.int .i64 b.now.clock) := by simpa using r3 5 _ rfl
  have z6 : W3.cell? ⟨w.heap.size, 6, none⟩ = some (.int .i64 b.now.at_) := by simpa using r3 6 _ rfl
  have z7 : W3.cell? ⟨w.heap.size, 7, none⟩ = some (.int .i64 b.now.phase) := by simpa using r3 7 _ rfl
  have z8 : W3.cell? ⟨w.heap.size, 8, none⟩ = some (.int .i64 b.now.order) := by simpa using r3 8 _ rfl
  have z9 : W3.cell? ⟨w.heap.size, 9, none⟩ = some (.int .i64 b.now.operand) := by simpa using r3 9 _ rfl
  have z10 : W3.cell? ⟨w.heap.size, 10, none⟩ = some (.int .i64 b.now.other) := by simpa using r3 10 _ rfl
  have z11 : W3.cell? ⟨w.heap.size, 11, none⟩ = some (.int .i64 b.now.product) := by simpa using r3 11 _ rfl
  have z12 : W3.cell? ⟨w.heap.size, 12, none⟩ = some (.int .i64 b.now.count) := by simpa using r3 12 _ rfl
  have z13 : W3.cell? ⟨w.heap.size, 13, none⟩ = some (.int .i64 b.now.done) := by simpa using r3 13 _ rfl
  have z14 : W3.cell? ⟨w.heap.size, 14, none⟩ = some (.int .i64 b.now.why) := by simpa using r3 14 _ rfl
  have z15 : W3.cell? ⟨w.heap.size, 15, none⟩ = some (.int .i64 b.beat) := by simpa using r3 15 _ rfl
  have z16 : W3.cell? ⟨w.heap.size, 16, none⟩ = some (.int .i64 b.carry) := by simpa using r3 16 _ rfl
  have z17 : W3.cell? ⟨w.heap.size, 17, none⟩ = some (.int .i64 b.sum) := by simpa using r3 17 _ rfl
  have HW := Lib.hid hW
  clear hW r3
  as_aux_lemma =>
  go_wp2_with fail
  refine bodyPost_ret (v := pbv (some ⟨LB, 0, none⟩) none a2 a3 8 cL 0 0 n2 d2 n3 d3 b) (by simp [results, Try.results75, go_sem, z0, z1, z2, z3, z4, z5, z6, z7, z8, z9, z10, z11, z12, z13, z14, z15, z16, z17]) rfl ?_
  have W3E := HW.out
  exact ⟨a2, d2, a3, d3, by rw [← HN.out.1], by rw [← HN.out.2], by rw [← HN.out.1, ← HN.out.2], W3E⟩
end Go.Proofs.Ytjfggepgjpdebaa

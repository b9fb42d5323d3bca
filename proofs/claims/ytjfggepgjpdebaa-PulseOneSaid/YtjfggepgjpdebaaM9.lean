import Derived.ScopeJumps
import Derived.Deep.LoopGhost
import Derived.Outline
import Derived.Test.YtjfggepgjpdebaaM5
import Derived.Test.YtjfggepgjpdebaaM6
import Derived.Test.YtjfggepgjpdebaaM7
import Derived.Test.YtjfggepgjpdebaaM8
import Derived.Test.YtjfggepgjpdebaaM4
import Derived.Test.YtjfggepgjpdebaaM1
import Derived.Test.YtjfggepgjpdebaaM0
set_option linter.unusedVariables false
set_option linter.unusedSimpArgs false
/- Contract: pulse.Check, whatever the state. -/
namespace Go.Q
theorem checkQ_zero {s : St} (h : (checkQ s).2.2 = 0) : checkQ s = (0, 0, 0) := by
  unfold checkQ at *
  split at h
  · simp at h
  split at h
  · simp at h
  split at h
  · simp at h
  split at h
  · simp at h
  split at h
  · simp at h
  split at h
  · simp at h
  rename_i h1 h2 h3 h4 h5 h6
  rw [if_neg h1, if_neg h2, if_neg h3, if_neg h4, if_neg h5, if_neg h6]
theorem fields_bd {s : Pu} (h : fieldsP s = true) : ((0 ≤ s.taken ∧ s.taken ≤ s.tape.length) ∧ (0 ≤ s.clock ∧ s.clock ≤ 1000000000) ∧ (0 ≤ s.at_ ∧ s.at_ ≤ 127) ∧ (0 ≤ s.phase ∧ s.phase ≤ 4) ∧ (0 ≤ s.done ∧ s.done ≤ s.clock) ∧ (0 ≤ s.why ∧ s.why ≤ 4)) ∧
    (0 ≤ s.order ∧ s.order ≤ 16777215) ∧ (0 ≤ s.operand ∧ s.operand ≤ 16777215) ∧ (0 ≤ s.other ∧ s.other ≤ 16777215) ∧ (-140737488355328 ≤ s.product ∧ s.product ≤ 140737488355327) ∧ (0 ≤ s.count ∧ s.count ≤ 12) := by
  simp only [fieldsP, wordB, Bool.and_eq_true] at h
  obtain ⟨⟨⟨⟨⟨⟨⟨⟨⟨⟨a1, a2⟩, a3⟩, a4⟩, a5⟩, a6⟩, a7⟩, a8⟩, a9⟩, a10⟩, a11⟩ := h
  exact ⟨⟨inB_bd a1, inB_bd a2, inB_bd a3, inB_bd a4, inB_bd a9, inB_bd a10⟩, inB_bd a5, inB_bd a6, inB_bd a7, inB_bd a8, inB_bd a11⟩
theorem cp5 {s : Pu} (hz : (checkQ (base4 s)).2.2 = 0) (h : ¬ fieldsP s = true) : checkP s = (5, 0, 7) := by
  have : fieldsP s = false := by simpa using h
  unfold checkP; rw [if_neg (by rw [hz]; simp), if_pos this]
theorem cp6 {s : Pu} (hz : (checkQ (base4 s)).2.2 = 0) (h : fieldsP s = true) (h2 : cntB s = false ∨ fitsB s = false) : checkP s = (6, 0, 2) := by
  unfold checkP; rw [if_neg (by rw [hz]; simp), if_neg (by rw [h]; simp), if_pos h2]
theorem cp0 {s : Pu} (hz : (checkQ (base4 s)).2.2 = 0) (h : fieldsP s = true) (h2 : cntB s = true) (h3 : fitsB s = true) : checkP s = (0, 0, 0) := by
  unfold checkP; rw [if_neg (by rw [hz]; simp), if_neg (by rw [h]; simp), if_neg (by rw [h2, h3]; simp)]
end Go.Q
namespace Go.Proofs.Ytjfggepgjpdebaa
open Go.RowKit Go.Q
theorem pcheck_any (v : Value) (s : Pu) (w : World) (h : PuAt w v s) (hb : PuBd s) :
    Calls Try.prog 45 #[v] w fun e w' => e = .returned (v3 (checkP s)) ∧ Ext w w' := by
  obtain ⟨a1, a2, a3, c1, c2, c3, rfl, i1, i2, i3⟩ := h
  by_cases hz : (checkQ (base4 s)).2.2 = 0
  · obtain ⟨l1, l2, l3⟩ := base_err s hz
    have hq := checkQ_zero hz
    have hc := pcheck_pre a1 a2 a3 s.store.length s.tape.length s.printed.length c1 c2 c3 s w rfl rfl rfl hb i1 i2 i3
    rw [hq, l1] at hc
    rw [l1]
    have M : PMid a1 a2 a3 s.tape.length s.printed.length c1 c2 c3 s w := ⟨hc, rfl, rfl, l2, l3⟩
    cases h0 : inB s.taken 0 s.tape.length with
    | false =>
      rw [cp5 hz (fun c => inB_no h0 (fields_bd c).1.1)]
      exact pc_a0 M h0
    | true =>
      cases h1 : inB s.clock 0 1000000000 with
      | false =>
        rw [cp5 hz (fun c => inB_no h1 (fields_bd c).1.2.1)]
        exact pc_a1 M h0 h1
      | true =>
        cases h2 : inB s.at_ 0 127 with
        | false =>
          rw [cp5 hz (fun c => inB_no h2 (fields_bd c).1.2.2.1)]
          exact pc_a2 M h0 h1 h2
        | true =>
          cases h3 : inB s.phase 0 4 with
          | false =>
            rw [cp5 hz (fun c => inB_no h3 (fields_bd c).1.2.2.2.1)]
            exact pc_a3 M h0 h1 h2 h3
          | true =>
            cases h4 : inB s.done 0 s.clock with
            | false =>
              rw [cp5 hz (fun c => inB_no h4 (fields_bd c).1.2.2.2.2.1)]
              exact pc_a4 M h0 h1 h2 h3 h4
            | true =>
              cases h5 : inB s.why 0 4 with
              | false =>
                rw [cp5 hz (fun c => inB_no h5 (fields_bd c).1.2.2.2.2.2)]
                exact pc_a5 M h0 h1 h2 h3 h4 h5
              | true =>
                by_cases g0 : s.order < 0
                · rw [cp5 hz (fun c => by have := (fields_bd c).2; omega)]
                  exact pc_b0 M h0 h1 h2 h3 h4 h5 g0
                by_cases g1 : 16777215 < s.order
                · rw [cp5 hz (fun c => by have := (fields_bd c).2; omega)]
                  exact pc_b1 M h0 h1 h2 h3 h4 h5 g1
                by_cases g2 : s.operand < 0
                · rw [cp5 hz (fun c => by have := (fields_bd c).2; omega)]
                  exact pc_b2 M h0 h1 h2 h3 h4 h5 g2
                by_cases g3 : 16777215 < s.operand
                · rw [cp5 hz (fun c => by have := (fields_bd c).2; omega)]
                  exact pc_b3 M h0 h1 h2 h3 h4 h5 g3
                by_cases g4 : s.other < 0
                · rw [cp5 hz (fun c => by have := (fields_bd c).2; omega)]
                  exact pc_b4 M h0 h1 h2 h3 h4 h5 g4
                by_cases g5 : 16777215 < s.other
                · rw [cp5 hz (fun c => by have := (fields_bd c).2; omega)]
                  exact pc_b5 M h0 h1 h2 h3 h4 h5 g5
                by_cases g6 : s.product < -140737488355328
                · rw [cp5 hz (fun c => by have := (fields_bd c).2; omega)]
                  exact pc_b6 M h0 h1 h2 h3 h4 h5 g6
                by_cases g7 : 140737488355327 < s.product
                · rw [cp5 hz (fun c => by have := (fields_bd c).2; omega)]
                  exact pc_b7 M h0 h1 h2 h3 h4 h5 g7
                by_cases g8 : s.count < 0
                · rw [cp5 hz (fun c => by have := (fields_bd c).2; omega)]
                  exact pc_b8 M h0 h1 h2 h3 h4 h5 g8
                by_cases g9 : 12 < s.count
                · rw [cp5 hz (fun c => by have := (fields_bd c).2; omega)]
                  exact pc_b9 M h0 h1 h2 h3 h4 h5 g9
                have G0 : 0 ≤ s.order ∧ s.order ≤ 16777215 := by omega
                have G1 : 0 ≤ s.operand ∧ s.operand ≤ 16777215 := by omega
                have G2 : 0 ≤ s.other ∧ s.other ≤ 16777215 := by omega
                have G3 : -140737488355328 ≤ s.product ∧ s.product ≤ 140737488355327 := by omega
                have G4 : 0 ≤ s.count ∧ s.count ≤ 12 := by omega
                have hf : fieldsP s = true := by
                  have t0 : inB s.order 0 16777215 = true := inB_mk G0.1 G0.2
                  have t1 : inB s.operand 0 16777215 = true := inB_mk G1.1 G1.2
                  have t2 : inB s.other 0 16777215 = true := inB_mk G2.1 G2.2
                  have t3 : inB s.product (-140737488355328) 140737488355327 = true := inB_mk G3.1 G3.2
                  have t4 : inB s.count 0 12 = true := inB_mk G4.1 G4.2
                  unfold fieldsP wordB
                  rw [h0, h1, h2, h3, h4, h5, t0, t1, t2, t3, t4]
                  rfl
                cases gc : cntB s with
                | false =>
                  rw [cp6 hz hf (.inl gc)]
                  exact pc_c M h0 h1 h2 h3 h4 h5 G0 G1 G2 G3 G4 gc
                | true =>
                    cases gf : fitsB s with
                    | false =>
                      rw [cp6 hz hf (.inr gf)]
                      exact pc_f M h0 h1 h2 h3 h4 h5 G0 G1 G2 G3 G4 gc gf l1 i1 i2 i3
                    | true =>
                      rw [cp0 hz hf gc gf]
                      exact pc_g M h0 h1 h2 h3 h4 h5 G0 G1 G2 G3 G4 gc gf l1 i1 i2 i3
  · exact pcheck_bad a1 a2 a3 s.store.length s.tape.length s.printed.length c1 c2 c3 s w rfl rfl rfl hb i1 i2 i3 hz
end Go.Proofs.Ytjfggepgjpdebaa
/- What stays of a control behind writes elsewhere; what it reads as. -/
namespace Go.Proofs.Ytjfggepgjpdebaa
open Go.RowKit Go.Q
/-- rows of ints and machines stay -/
def KeepP (w w' : World) : Prop := w.heap.size ≤ w'.heap.size ∧ ∀ (k : Nat) (c : Array Value) (T : TypeId) (fr : Nat × Nat), w.heap[k]? = some (Obj.cells c T fr) → T = 3 ∨ T = 100 → w'.heap[k]? = w.heap[k]?
theorem KeepP.set {w : World} {b : Nat} {cs : Array Value} {T : TypeId} {fr : Nat × Nat} (hb : w.heap[b]? = some (.cells cs T fr)) (h1 : T ≠ 3) (h2 : T ≠ 100) (i : Nat) (v : Value) : KeepP w (w.setCell ⟨b, i, none⟩ v) :=
  ⟨by simp [World.setCell], fun k c U fr' hk hU => Below.heap_setCell _ _ _ _ (fun e => by
    have e' : k = b := e
    rw [e'] at hk
    have := hb.symm.trans hk
    simp only [Option.some.injEq, Obj.cells.injEq] at this
    obtain ⟨_, rfl, _⟩ := this
    exact hU.elim h1 h2)⟩
variable {nb m g1 c1 : Nat} {tv pv : Value} {s : Pu} {o : Ord}
theorem Ctl.keep {w w' : World} (h : Ctl w nb m g1 c1 tv pv s o) (k : KeepP w w') : Ctl w' nb m g1 c1 tv pv s o where
  low := h.low
  blk := (k.2 _ _ _ _ h.blk (.inr rfl)).trans h.blk
  st := by obtain ⟨cur, hg, ht⟩ := h.st; exact ⟨cur, (k.2 _ _ _ _ hg (.inl rfl)).trans hg, ht⟩
  len := h.len
  tp := by
    obtain ⟨a2, c2, hv, ht⟩ := h.tp
    refine ⟨a2, c2, hv, ?_⟩
    rcases ht with ht | ⟨b, off, ha, ⟨cu, hcu⟩, h1, h2, h3, hc⟩
    · exact .inl ht
    · have e := k.2 _ _ _ _ hcu (.inl rfl)
      exact .inr ⟨b, off, ha, ⟨cu, e.trans hcu⟩, h1, h2, h3, fun i hi => (World.cell?_of_block (w := w) e).trans (hc i hi)⟩
  prow := own_later h.prow (fun b hb => by
    rcases h.prow.2 with ⟨e, _⟩ | ⟨g, cap, cur, e, _, hg, _⟩
    · rw [e] at hb; cases hb
    · rw [e] at hb
      obtain rfl : g = b := by simpa [Value.ownBlock] using hb
      exact k.2 _ _ _ _ hg (.inl rfl))
  pm := h.pm
  pg := h.pg
theorem KeepP.trans {a b c : World} (h : KeepP a b) (k : KeepP b c) : KeepP a c :=
  ⟨Nat.le_trans h.1 k.1, fun i cs T fr hi hT => by
    have e := h.2 i cs T fr hi hT
    exact (k.2 i cs T fr (e.trans hi) hT).trans e⟩
/-- fourteen cells of a block that is no control's are written -/
theorem set14 {w : World} {b : Nat} {cs : Array Value} {T : TypeId} (hb : w.heap[b]? = some (.cells cs T (0, 0))) (h1 : T ≠ 3) (h2 : T ≠ 100) (x0 x1 x2 x3 x4 x5 x6 x7 x8 x9 x10 x11 x12 x13 : Value) :
    KeepP w ((((((((((((((w.setCell ⟨b, 0, none⟩ x0).setCell ⟨b, 1, none⟩ x1).setCell ⟨b, 2, none⟩ x2).setCell ⟨b, 3, none⟩ x3).setCell ⟨b, 4, none⟩ x4).setCell ⟨b, 5, none⟩ x5).setCell ⟨b, 6, none⟩ x6).setCell ⟨b, 7, none⟩ x7).setCell ⟨b, 8, none⟩ x8).setCell ⟨b, 9, none⟩ x9).setCell ⟨b, 10, none⟩ x10).setCell ⟨b, 11, none⟩ x11).setCell ⟨b, 12, none⟩ x12).setCell ⟨b, 13, none⟩ x13) ∧ (∀ n, n ≤ b → n ≤ w.heap.size → Below n w ((((((((((((((w.setCell ⟨b, 0, none⟩ x0).setCell ⟨b, 1, none⟩ x1).setCell ⟨b, 2, none⟩ x2).setCell ⟨b, 3, none⟩ x3).setCell ⟨b, 4, none⟩ x4).setCell ⟨b, 5, none⟩ x5).setCell ⟨b, 6, none⟩ x6).setCell ⟨b, 7, none⟩ x7).setCell ⟨b, 8, none⟩ x8).setCell ⟨b, 9, none⟩ x9).setCell ⟨b, 10, none⟩ x10).setCell ⟨b, 11, none⟩ x11).setCell ⟨b, 12, none⟩ x12).setCell ⟨b, 13, none⟩ x13)) := by
  have b1 := cells_set hb 0 x0
  have b2 := cells_set b1 1 x1
  have b3 := cells_set b2 2 x2
  have b4 := cells_set b3 3 x3
  have b5 := cells_set b4 4 x4
  have b6 := cells_set b5 5 x5
  have b7 := cells_set b6 6 x6
  have b8 := cells_set b7 7 x7
  have b9 := cells_set b8 8 x8
  have b10 := cells_set b9 9 x9
  have b11 := cells_set b10 10 x10
  have b12 := cells_set b11 11 x11
  have b13 := cells_set b12 12 x12
  exact ⟨(((((((((((((KeepP.set hb h1 h2 0 x0).trans (KeepP.set b1 h1 h2 1 x1)).trans (KeepP.set b2 h1 h2 2 x2)).trans (KeepP.set b3 h1 h2 3 x3)).trans (KeepP.set b4 h1 h2 4 x4)).trans (KeepP.set b5 h1 h2 5 x5)).trans (KeepP.set b6 h1 h2 6 x6)).trans (KeepP.set b7 h1 h2 7 x7)).trans (KeepP.set b8 h1 h2 8 x8)).trans (KeepP.set b9 h1 h2 9 x9)).trans (KeepP.set b10 h1 h2 10 x10)).trans (KeepP.set b11 h1 h2 11 x11)).trans (KeepP.set b12 h1 h2 12 x12)).trans (KeepP.set b13 h1 h2 13 x13), fun n hn _ => ((((((((((((((Below.refl _ _).setCell (p := ⟨b, 0, none⟩) hn _).setCell (p := ⟨b, 1, none⟩) hn _).setCell (p := ⟨b, 2, none⟩) hn _).setCell (p := ⟨b, 3, none⟩) hn _).setCell (p := ⟨b, 4, none⟩) hn _).setCell (p := ⟨b, 5, none⟩) hn _).setCell (p := ⟨b, 6, none⟩) hn _).setCell (p := ⟨b, 7, none⟩) hn _).setCell (p := ⟨b, 8, none⟩) hn _).setCell (p := ⟨b, 9, none⟩) hn _).setCell (p := ⟨b, 10, none⟩) hn _).setCell (p := ⟨b, 11, none⟩) hn _).setCell (p := ⟨b, 12, none⟩) hn _).setCell (p := ⟨b, 13, none⟩) hn _⟩
theorem ext_set14 {w0 w : World} {b : Nat} (h : Ext w0 w) (hn : w0.heap.size ≤ b) (x0 x1 x2 x3 x4 x5 x6 x7 x8 x9 x10 x11 x12 x13 : Value) : Ext w0 ((((((((((((((w.setCell ⟨b, 0, none⟩ x0).setCell ⟨b, 1, none⟩ x1).setCell ⟨b, 2, none⟩ x2).setCell ⟨b, 3, none⟩ x3).setCell ⟨b, 4, none⟩ x4).setCell ⟨b, 5, none⟩ x5).setCell ⟨b, 6, none⟩ x6).setCell ⟨b, 7, none⟩ x7).setCell ⟨b, 8, none⟩ x8).setCell ⟨b, 9, none⟩ x9).setCell ⟨b, 10, none⟩ x10).setCell ⟨b, 11, none⟩ x11).setCell ⟨b, 12, none⟩ x12).setCell ⟨b, 13, none⟩ x13) :=
  ((((((((((((((h).setCell (p := ⟨b, 0, none⟩) hn _).setCell (p := ⟨b, 1, none⟩) hn _).setCell (p := ⟨b, 2, none⟩) hn _).setCell (p := ⟨b, 3, none⟩) hn _).setCell (p := ⟨b, 4, none⟩) hn _).setCell (p := ⟨b, 5, none⟩) hn _).setCell (p := ⟨b, 6, none⟩) hn _).setCell (p := ⟨b, 7, none⟩) hn _).setCell (p := ⟨b, 8, none⟩) hn _).setCell (p := ⟨b, 9, none⟩) hn _).setCell (p := ⟨b, 10, none⟩) hn _).setCell (p := ⟨b, 11, none⟩) hn _).setCell (p := ⟨b, 12, none⟩) hn _).setCell (p := ⟨b, 13, none⟩) hn _
/-- what a state reads as -/
theorem Ctl.pu {w : World} (h : Ctl w nb m g1 c1 tv pv s o) : ∃ a2 c2 a3 c3, tv = .slice a2 s.tape.length c2 ∧ pv = .slice a3 s.printed.length c3 ∧ PuAt w (psv (some ⟨g1, 0, none⟩) a2 a3 128 c1 s.tape.length c2 s.printed.length c3 s) s := by
  obtain ⟨a2, c2, hv, hI⟩ := h.tape
  obtain ⟨a3, c3, hp⟩ := h.paper
  refine ⟨a2, c2, a3, c3, hv, hp, some ⟨g1, 0, none⟩, a2, a3, c1, c2, c3, by rw [h.len], .inr ⟨g1, 0, rfl, h.ltg, fun i hi => ?_⟩, hI, ?_⟩
  · rw [Nat.zero_add]; exact h.wc i (by have := h.len; omega)
  · have := h.prow
    rw [hp] at this
    exact own_ints this
def zpu : Pu := ⟨[], [], 0, [], 0, 0, 0, 0, 0, 0, 0, 0, 0, 0⟩
abbrev zpv : Value := .agg #[.slice none 0 0, .slice none 0 0, .int .i64 0, .slice none 0 0, .int .i64 0, .int .i64 0, .int .i64 0, .int .i64 0, .int .i64 0, .int .i64 0, .int .i64 0, .int .i64 0, .int .i64 0, .int .i64 0]
/-- the call returned a state and an error -/
def PuRes (p : Pu × Int) (w : World) (e : Ending) (w' : World) : Prop := ∃ v, e = .returned (.tuple #[v, .int .i64 p.2]) ∧ PuAt w' v p.1 ∧ Ext w w'
theorem zpu_res {w w' : World} (er : Int) (h : Ext w w') : PuRes (zpu, er) w (.returned (.tuple #[zpv, .int .i64 er])) w' :=
  ⟨_, rfl, ⟨none, none, none, 0, 0, 0, rfl, .inl rfl, .inl rfl, .inl rfl⟩, h⟩
/-- what Minors returns -/
def minorsE (s : Pu) (many : Int) : Pu × Int := if (checkP s).2.2 ≠ 0 then (zpu, (checkP s).2.2) else if inB many 0 20000 = true then (minorsP many.toNat s, 0) else (zpu, 7)
end Go.Proofs.Ytjfggepgjpdebaa
/- Contract: pulse.Minors. -/
namespace Go.Proofs.Ytjfggepgjpdebaa
open Go.RowKit Go.Q
variable {nb m g1 c1 : Nat} {tv pv : Value} {s : Pu} {o : Ord}
set_option maxRecDepth 100000 in
set_option maxHeartbeats 4000000 in
theorem minors_bad (v : Value) (s : Pu) (many : Int) (w : World) (h : PuAt w v s) (hb : PuBd s) (he : (minorsE s many).2 ≠ 0) :
    Calls Try.prog 25 #[v, .int .i64 many] w (PuRes (minorsE s many) w) := by
  have hc := fun W (E : Ext w W) => pcheck_any v s W (h.ext E) hb
  obtain ⟨a1, a2, a3, c1, c2, c3, rfl, _, _, _⟩ := h
  have e : minorsE s many = if (checkP s).2.2 ≠ 0 then (zpu, (checkP s).2.2) else if inB many 0 20000 = true then (minorsP many.toNat s, 0) else (zpu, 7) := rfl
  generalize checkP s = p at *
  obtain ⟨p, i, er⟩ := p
  unfold v3 at hc
  dsimp only at e hc
  by_cases hz : er = 0
  · subst hz
    rw [if_neg (by decide)] at e
    cases hm : inB many 0 20000 with
    | true => rw [hm, if_pos rfl] at e; rw [e] at he; exact absurd rfl he
    | false =>
      rw [hm, if_neg (by decide)] at e
      rw [e]
      have ho := fun W => pout_any many 0 20000 W
      rw [hm] at ho
      clear e he hm hb
      go_enter Try.func25, Try.ntmps25
      go_wp2
      go_step3
      go_wp2_with fail
      refine (hc _ (by repeat (first | with_reducible exact Ext.refl _ | with_reducible refine Ext.alloc ?_ _ | with_reducible refine Below.drew ?_))).mono ?_
      rintro e w1 ⟨rfl, E1⟩
      go_wp2_with fail
      refine (ho _).mono ?_
      rintro e w2 ⟨rfl, rfl⟩
      have q0 := box_at2 (v := .slice none 0 0) E1 0 rfl
      have q1 := box_at2 (v := .slice none 0 0) E1 1 rfl
      have q2 := box_at2 (v := .int .i64 0) E1 2 rfl
      have q3 := box_at2 (v := .slice none 0 0) E1 3 rfl
      have q4 := box_at2 (v := .int .i64 0) E1 4 rfl
      have q5 := box_at2 (v := .int .i64 0) E1 5 rfl
      have q6 := box_at2 (v := .int .i64 0) E1 6 rfl
      have q7 := box_at2 (v := .int .i64 0) E1 7 rfl
      have q8 := box_at2 (v := .int .i64 0) E1 8 rfl
      have q9 := box_at2 (v := .int .i64 0) E1 9 rfl
      have q10 := box_at2 (v := .int .i64 0) E1 10 rfl
      have q11 := box_at2 (v := .int .i64 0) E1 11 rfl
      have q12 := box_at2 (v := .int .i64 0) E1 12 rfl
      have q13 := box_at2 (v := .int .i64 0) E1 13 rfl
      have f0 := box_free2 E1 0
      have f1 := box_free2 E1 1
      have f2 := box_free2 E1 2
      have f3 := box_free2 E1 3
      have f4 := box_free2 E1 4
      have f5 := box_free2 E1 5
      have f6 := box_free2 E1 6
      have f7 := box_free2 E1 7
      have f8 := box_free2 E1 8
      have f9 := box_free2 E1 9
      have f10 := box_free2 E1 10
      have f11 := box_free2 E1 11
      have f12 := box_free2 E1 12
      have f13 := box_free2 E1 13
      go_wp2_with fail
      rw [Exit.noGoto_ret]
      refine bodyPost_ret (v := .tuple #[zpv, .int .i64 7]) (by simp [results, Try.results25, go_sem, q0, q1, q2, q3, q4, q5, q6, q7, q8, q9, q10, q11, q12, q13]) rfl ?_
      exact zpu_res 7 (ext_set14 E1.old.old (Nat.le_succ _) _ _ _ _ _ _ _ _ _ _ _ _ _ _)
  · rw [if_pos hz] at e
    rw [e]
    have hz' : (er != 0) = true := by simpa using hz
    clear e he hz hb
    go_enter Try.func25, Try.ntmps25
    go_wp2
    go_step3
    go_wp2_with fail
    refine (hc _ (by repeat (first | with_reducible exact Ext.refl _ | with_reducible refine Ext.alloc ?_ _ | with_reducible refine Below.drew ?_))).mono ?_
    rintro e w1 ⟨rfl, E1⟩
    have q0 := box_at2 (v := .slice none 0 0) E1 0 rfl
    have q1 := box_at2 (v := .slice none 0 0) E1 1 rfl
    have q2 := box_at2 (v := .int .i64 0) E1 2 rfl
    have q3 := box_at2 (v := .slice none 0 0) E1 3 rfl
    have q4 := box_at2 (v := .int .i64 0) E1 4 rfl
    have q5 := box_at2 (v := .int .i64 0) E1 5 rfl
    have q6 := box_at2 (v := .int .i64 0) E1 6 rfl
    have q7 := box_at2 (v := .int .i64 0) E1 7 rfl
    have q8 := box_at2 (v := .int .i64 0) E1 8 rfl
    have q9 := box_at2 (v := .int .i64 0) E1 9 rfl
    have q10 := box_at2 (v := .int .i64 0) E1 10 rfl
    have q11 := box_at2 (v := .int .i64 0) E1 11 rfl
    have q12 := box_at2 (v := .int .i64 0) E1 12 rfl
    have q13 := box_at2 (v := .int .i64 0) E1 13 rfl
    have f0 := box_free2 E1 0
    have f1 := box_free2 E1 1
    have f2 := box_free2 E1 2
    have f3 := box_free2 E1 3
    have f4 := box_free2 E1 4
    have f5 := box_free2 E1 5
    have f6 := box_free2 E1 6
    have f7 := box_free2 E1 7
    have f8 := box_free2 E1 8
    have f9 := box_free2 E1 9
    have f10 := box_free2 E1 10
    have f11 := box_free2 E1 11
    have f12 := box_free2 E1 12
    have f13 := box_free2 E1 13
    go_wp2_with fail
    rw [Exit.noGoto_ret]
    refine bodyPost_ret (v := .tuple #[zpv, .int .i64 er]) (by simp [results, Try.results25, go_sem, q0, q1, q2, q3, q4, q5, q6, q7, q8, q9, q10, q11, q12, q13]) rfl ?_
    exact zpu_res er (ext_set14 E1.old.old (Nat.le_succ _) _ _ _ _ _ _ _ _ _ _ _ _ _ _)
theorem checkP_zero {s : Pu} (h : (checkP s).2.2 = 0) : checkP s = (0, 0, 0) := by
  unfold checkP at *
  repeat' split at h
  · rename_i hq; exact absurd h hq
  · exact absurd h (by decide)
  · exact absurd h (by decide)
  · rename_i h1 h2 h3; rw [if_neg h1, if_neg h2, if_neg h3]
theorem minors_fin {w w1 w3 wr : World} {A : Obj} {a2 a3 : Option Addr} {c2 c3 : Nat} {t : Pu} (E1 : Ext ((w.alloc A).alloc (.cells #[.slice none 0 0, .slice none 0 0, .int .i64 0, .slice none 0 0, .int .i64 0, .int .i64 0, .int .i64 0, .int .i64 0, .int .i64 0, .int .i64 0, .int .i64 0, .int .i64 0, .int .i64 0, .int .i64 0] 41)) w1) (E3 : Ext w1 w3) (hB : Below w1.heap.size w3 wr)
    (M : Ctl wr nb m g1 c1 (.slice a2 t.tape.length c2) (.slice a3 t.printed.length c3) t o) :
    PuRes (t, 0) w (.returned (.tuple #[psv (some ⟨g1, 0, none⟩) a2 a3 128 c1 t.tape.length c2 t.printed.length c3 t, .int .i64 0])) ((((((((((((((wr.setCell ⟨w.heap.size + 1, 0, none⟩ (.slice (some ⟨g1, 0, none⟩) 128 c1)).setCell ⟨w.heap.size + 1, 1, none⟩ (.slice a2 t.tape.length c2)).setCell ⟨w.heap.size + 1, 2, none⟩ (.int .i64 t.taken)).setCell ⟨w.heap.size + 1, 3, none⟩ (.slice a3 t.printed.length c3)).setCell ⟨w.heap.size + 1, 4, none⟩ (.int .i64 t.clock)).setCell ⟨w.heap.size + 1, 5, none⟩ (.int .i64 t.at_)).setCell ⟨w.heap.size + 1, 6, none⟩ (.int .i64 t.phase)).setCell ⟨w.heap.size + 1, 7, none⟩ (.int .i64 t.order)).setCell ⟨w.heap.size + 1, 8, none⟩ (.int .i64 t.operand)).setCell ⟨w.heap.size + 1, 9, none⟩ (.int .i64 t.other)).setCell ⟨w.heap.size + 1, 10, none⟩ (.int .i64 t.product)).setCell ⟨w.heap.size + 1, 11, none⟩ (.int .i64 t.count)).setCell ⟨w.heap.size + 1, 12, none⟩ (.int .i64 t.done)).setCell ⟨w.heap.size + 1, 13, none⟩ (.int .i64 t.why)) := by
  have hz := E1.size
  simp at hz
  have h1 : w1.heap[w.heap.size + 1]? = some (.cells #[.slice none 0 0, .slice none 0 0, .int .i64 0, .slice none 0 0, .int .i64 0, .int .i64 0, .int .i64 0, .int .i64 0, .int .i64 0, .int .i64 0, .int .i64 0, .int .i64 0, .int .i64 0, .int .i64 0] 41 (0, 0)) := by
    have e := heap_alloc_new (w.alloc A) (.cells #[.slice none 0 0, .slice none 0 0, .int .i64 0, .slice none 0 0, .int .i64 0, .int .i64 0, .int .i64 0, .int .i64 0, .int .i64 0, .int .i64 0, .int .i64 0, .int .i64 0, .int .i64 0, .int .i64 0] 41)
    rw [World.size_alloc] at e
    exact (E1.block (w.heap.size + 1) (by simp)).trans e
  have h3 := (E3.block (w.heap.size + 1) (by omega)).trans h1
  have hr := (hB.block (w.heap.size + 1) (by omega)).trans h3
  have K := set14 hr (by decide) (by decide) (.slice (some ⟨g1, 0, none⟩) 128 c1) (.slice a2 t.tape.length c2) (.int .i64 t.taken) (.slice a3 t.printed.length c3) (.int .i64 t.clock) (.int .i64 t.at_) (.int .i64 t.phase) (.int .i64 t.order) (.int .i64 t.operand) (.int .i64 t.other) (.int .i64 t.product) (.int .i64 t.count) (.int .i64 t.done) (.int .i64 t.why)
  have M' := M.keep K.1
  obtain ⟨x2, y2, x3, y3, e2, e3, hP⟩ := M'.pu
  obtain ⟨rfl, _, rfl⟩ := Value.slice.inj e2
  obtain ⟨rfl, _, rfl⟩ := Value.slice.inj e3
  refine ⟨_, rfl, hP, ?_⟩
  have hw : Below w.heap.size w wr := (E1.old.old.comp E3).trans (hB.mono (by omega))
  exact hw.trans (K.2 w.heap.size (by omega) (by have := hw.size; omega))
set_option maxRecDepth 100000 in
set_option maxHeartbeats 8000000 in
theorem minors_good (v : Value) (s : Pu) (many : Int) (w : World) (h : PuAt w v s) (hz : (checkP s).2.2 = 0) (hm : inB many 0 20000 = true) :
    Calls Try.prog 25 #[v, .int .i64 many] w (PuRes (minorsP many.toNat s, 0) w) := by
  have hv := valid_check hz
  have hb : PuBd s := ⟨by rw [hv.len]; decide, Nat.le_trans hv.tlen (by decide), Nat.le_trans hv.plen (by decide)⟩
  have hc := fun W (E : Ext w W) => pcheck_any v s W (h.ext E) hb
  rw [checkP_zero hz] at hc
  unfold v3 at hc
  have ho := fun W => pout_any many 0 20000 W
  rw [hm] at ho
  obtain ⟨n0, n1⟩ := inB_bd hm
  obtain ⟨n, rfl⟩ := Int.eq_ofNat_of_zero_le n0
  rw [Int.toNat_natCast]
  obtain ⟨a1, a2, a3, c1, c2, c3, rfl, i1, i2, i3⟩ := h
  have hl := hv.len
  have hop := fun W (E : Ext w W) => popen_ok a1 a2 a3 s.tape.length s.printed.length c1 c2 c3 s W hl rfl rfl hv.tlen hv.plen (i1.ext E) (i2.ext E) (i3.ext E) hv.order
  rw [hl] at hc ⊢
  have HV := Lib.hid hv
  have hnn : n ≤ 20000 := by omega
  clear hb hz hm n0 n1 i1 i2 i3 hv hl
  go_enter Try.func25, Try.ntmps25
  go_wp2
  go_step3
  go_wp2_with fail
  refine (hc _ (by repeat (first | with_reducible exact Ext.refl _ | with_reducible refine Ext.alloc ?_ _ | with_reducible refine Below.drew ?_))).mono ?_
  rintro e w1 ⟨rfl, E1⟩
  go_wp2_with fail
  refine (ho _).mono ?_
  rintro e w2 ⟨rfl, rfl⟩
  have q0 := box_at (v := .slice a1 128 c1) E1.old 0 rfl
  have q1 := box_at (v := .slice a2 s.tape.length c2) E1.old 1 rfl
  have q2 := box_at (v := .int .i64 s.taken) E1.old 2 rfl
  have q3 := box_at (v := .slice a3 s.printed.length c3) E1.old 3 rfl
  have q4 := box_at (v := .int .i64 s.clock) E1.old 4 rfl
  have q5 := box_at (v := .int .i64 s.at_) E1.old 5 rfl
  have q6 := box_at (v := .int .i64 s.phase) E1.old 6 rfl
  have q7 := box_at (v := .int .i64 s.order) E1.old 7 rfl
  have q8 := box_at (v := .int .i64 s.operand) E1.old 8 rfl
  have q9 := box_at (v := .int .i64 s.other) E1.old 9 rfl
  have q10 := box_at (v := .int .i64 s.product) E1.old 10 rfl
  have q11 := box_at (v := .int .i64 s.count) E1.old 11 rfl
  have q12 := box_at (v := .int .i64 s.done) E1.old 12 rfl
  have q13 := box_at (v := .int .i64 s.why) E1.old 13 rfl
  go_wp2_with fail
  refine (hop _ E1.old.old).mono ?_
  rintro e w3 ⟨m, g1, cc, tv, pv, rfl, M, E3⟩
  clear hc ho hop
  clear q0 q1 q2 q3 q4 q5 q6 q7 q8 q9 q10 q11 q12 q13
  have HM := Lib.hid M
  have HE1 := Lib.hid E1
  have HE3 := Lib.hid E3
  clear M E1 E3
  go_wp2_with fail
  go_step3
  go_wp2
  have hz1 : w.heap.size + 1 < w1.heap.size := by have := HE1.out.size; simp at this; omega
  have hz3 : w1.heap.size ≤ w3.heap.size := HE3.out.size
  go_loopg [26] (n + 1) (fun gg s26 wr => ∃ k : Nat, k ≤ n ∧ n + 1 - k ≤ gg ∧ s26 = .int .i64 k ∧ Aside (∃ pv', Ctl wr w1.heap.size m g1 cc tv pv' (minorsP k s) (ordP (minorsP k s))) ∧ Aside (Below w1.heap.size w3 wr))
  case atStart => exact ⟨0, by omega, by omega, rfl, ⟨_, HM.out⟩, Below.refl _ _⟩
  case round =>
    obtain ⟨k, hk, hg, rfl, hM, hB⟩ := hrel
    clear HM
    obtain ⟨pk, M⟩ := hM.out
    clear hM
    by_cases hlt : k < n
    · have hltz : (k : Int) < (n : Int) := by omega
      have V := minorsP_valid k HV.out
      have hmn := minor_any wr M V
      have R := Lib.hid (minorsP_snoc' k s)
      have hnb := M.low
      have hpn : ∀ b, pk.ownBlock = some b → w1.heap.size ≤ b := fun b e => (own_at M.prow e).1
      clear M V
      generalize minorP (minorsP k s) = t at *
      go_wp2_with fail
      refine hmn.mono ?_
      rintro e w4 ⟨rfl, pv4, M4, C4, _⟩
      have B4 : Below w1.heap.size w3 w4 := hB.out.trans (C4.below (fun i hS => by
        rcases hS with e | e | e
        · omega
        · omega
        · exact hpn i e) (by have := hB.out.size; omega))
      have p13 := M4.c 13 (v := .int .i64 t.why) rfl
      cases hy : t.why != 0 with
      | true =>
        have Hy := Lib.hid hy
        have HM4 := Lib.hid M4
        have HB4 := Lib.hid B4
        clear M4 C4 B4 p13
        obtain ⟨a4, c4, htv, _⟩ := HM4.out.tape
        subst htv
        obtain ⟨a5, c5, hpv⟩ := HM4.out.paper
        subst hpv
        have p0 := HM4.out.c 0 (v := .slice (some ⟨g1, 0, none⟩) 128 cc) rfl
        have p1 := HM4.out.c 1 (v := .slice a4 t.tape.length c4) rfl
        have p2 := HM4.out.c 2 (v := .int .i64 t.taken) rfl
        have p3 := HM4.out.c 3 (v := .slice a5 t.printed.length c5) rfl
        have p4 := HM4.out.c 4 (v := .int .i64 t.clock) rfl
        have p5 := HM4.out.c 5 (v := .int .i64 t.at_) rfl
        have p6 := HM4.out.c 6 (v := .int .i64 t.phase) rfl
        have p7 := HM4.out.c 7 (v := .int .i64 t.order) rfl
        have p8 := HM4.out.c 8 (v := .int .i64 t.operand) rfl
        have p9 := HM4.out.c 9 (v := .int .i64 t.other) rfl
        have p10 := HM4.out.c 10 (v := .int .i64 t.product) rfl
        have p11 := HM4.out.c 11 (v := .int .i64 t.count) rfl
        have p12 := HM4.out.c 12 (v := .int .i64 t.done) rfl
        have p13 := HM4.out.c 13 (v := .int .i64 t.why) rfl
        have E4 := (HE1.out.comp HE3.out).trans (HB4.out.mono (by simp; omega))
        have q0 := box_at2 (v := .slice none 0 0) E4 0 rfl
        have q1 := box_at2 (v := .slice none 0 0) E4 1 rfl
        have q2 := box_at2 (v := .int .i64 0) E4 2 rfl
        have q3 := box_at2 (v := .slice none 0 0) E4 3 rfl
        have q4 := box_at2 (v := .int .i64 0) E4 4 rfl
        have q5 := box_at2 (v := .int .i64 0) E4 5 rfl
        have q6 := box_at2 (v := .int .i64 0) E4 6 rfl
        have q7 := box_at2 (v := .int .i64 0) E4 7 rfl
        have q8 := box_at2 (v := .int .i64 0) E4 8 rfl
        have q9 := box_at2 (v := .int .i64 0) E4 9 rfl
        have q10 := box_at2 (v := .int .i64 0) E4 10 rfl
        have q11 := box_at2 (v := .int .i64 0) E4 11 rfl
        have q12 := box_at2 (v := .int .i64 0) E4 12 rfl
        have q13 := box_at2 (v := .int .i64 0) E4 13 rfl
        have f0 := box_free2 E4 0
        have f1 := box_free2 E4 1
        have f2 := box_free2 E4 2
        have f3 := box_free2 E4 3
        have f4 := box_free2 E4 4
        have f5 := box_free2 E4 5
        have f6 := box_free2 E4 6
        have f7 := box_free2 E4 7
        have f8 := box_free2 E4 8
        have f9 := box_free2 E4 9
        have f10 := box_free2 E4 10
        have f11 := box_free2 E4 11
        have f12 := box_free2 E4 12
        have f13 := box_free2 E4 13
        clear E4
        go_wp2_with fail
        (try rw [Exit.noGoto_ret])
        refine bodyPost_ret (v := .tuple #[psv (some ⟨g1, 0, none⟩) a4 a5 128 cc t.tape.length c4 t.printed.length c5 t, .int .i64 0]) (by simp [results, Try.results25, go_sem, q0, q1, q2, q3, q4, q5, q6, q7, q8, q9, q10, q11, q12, q13]) rfl ?_
        have hst : minorsP n s = t := by
          have e : n = (k + 1) + (n - (k + 1)) := by omega
          rw [e, minorsP_add, R.out]
          exact minorsP_stop (by have := Hy.out; simpa using this) _
        rw [hst]
        exact minors_fin HE1.out HE3.out HB4.out HM4.out
      | false =>
        have HM4 := Lib.hid M4
        have HB4 := Lib.hid B4
        clear M4 C4 B4
        go_wp2_with fail
        go_roundg (n - k)
        case measure => omega
        case rel => exact ⟨k + 1, by omega, by omega, by go_num, ⟨_, by rw [R.out]; exact HM4.out⟩, HB4.out⟩
    · have hltz : ¬ (k : Int) < (n : Int) := by omega
      obtain rfl : k = n := by omega
      have HM4 := Lib.hid M
      have HB4 := Lib.hid hB.out
      clear M hB
      generalize hs : minorsP k s = t at *
      have Hs := Lib.hid hs
      clear hs
      obtain ⟨a4, c4, htv, _⟩ := HM4.out.tape
      subst htv
      obtain ⟨a5, c5, hpv⟩ := HM4.out.paper
      subst hpv
      have p0 := HM4.out.c 0 (v := .slice (some ⟨g1, 0, none⟩) 128 cc) rfl
      have p1 := HM4.out.c 1 (v := .slice a4 t.tape.length c4) rfl
      have p2 := HM4.out.c 2 (v := .int .i64 t.taken) rfl
      have p3 := HM4.out.c 3 (v := .slice a5 t.printed.length c5) rfl
      have p4 := HM4.out.c 4 (v := .int .i64 t.clock) rfl
      have p5 := HM4.out.c 5 (v := .int .i64 t.at_) rfl
      have p6 := HM4.out.c 6 (v := .int .i64 t.phase) rfl
      have p7 := HM4.out.c 7 (v := .int .i64 t.order) rfl
      have p8 := HM4.out.c 8 (v := .int .i64 t.operand) rfl
      have p9 := HM4.out.c 9 (v := .int .i64 t.other) rfl
      have p10 := HM4.out.c 10 (v := .int .i64 t.product) rfl
      have p11 := HM4.out.c 11 (v := .int .i64 t.count) rfl
      have p12 := HM4.out.c 12 (v := .int .i64 t.done) rfl
      have p13 := HM4.out.c 13 (v := .int .i64 t.why) rfl
      have E4 := (HE1.out.comp HE3.out).trans (HB4.out.mono (by simp; omega))
      have q0 := box_at2 (v := .slice none 0 0) E4 0 rfl
      have q1 := box_at2 (v := .slice none 0 0) E4 1 rfl
      have q2 := box_at2 (v := .int .i64 0) E4 2 rfl
      have q3 := box_at2 (v := .slice none 0 0) E4 3 rfl
      have q4 := box_at2 (v := .int .i64 0) E4 4 rfl
      have q5 := box_at2 (v := .int .i64 0) E4 5 rfl
      have q6 := box_at2 (v := .int .i64 0) E4 6 rfl
      have q7 := box_at2 (v := .int .i64 0) E4 7 rfl
      have q8 := box_at2 (v := .int .i64 0) E4 8 rfl
      have q9 := box_at2 (v := .int .i64 0) E4 9 rfl
      have q10 := box_at2 (v := .int .i64 0) E4 10 rfl
      have q11 := box_at2 (v := .int .i64 0) E4 11 rfl
      have q12 := box_at2 (v := .int .i64 0) E4 12 rfl
      have q13 := box_at2 (v := .int .i64 0) E4 13 rfl
      have f0 := box_free2 E4 0
      have f1 := box_free2 E4 1
      have f2 := box_free2 E4 2
      have f3 := box_free2 E4 3
      have f4 := box_free2 E4 4
      have f5 := box_free2 E4 5
      have f6 := box_free2 E4 6
      have f7 := box_free2 E4 7
      have f8 := box_free2 E4 8
      have f9 := box_free2 E4 9
      have f10 := box_free2 E4 10
      have f11 := box_free2 E4 11
      have f12 := box_free2 E4 12
      have f13 := box_free2 E4 13
      clear E4
      go_wp2_with fail
      (try rw [Exit.noGoto_ret])
      refine bodyPost_ret (v := .tuple #[psv (some ⟨g1, 0, none⟩) a4 a5 128 cc t.tape.length c4 t.printed.length c5 t, .int .i64 0]) (by simp [results, Try.results25, go_sem, q0, q1, q2, q3, q4, q5, q6, q7, q8, q9, q10, q11, q12, q13]) rfl ?_
      (try rw [Hs.out])
      exact minors_fin HE1.out HE3.out HB4.out HM4.out
end Go.Proofs.Ytjfggepgjpdebaa
/- Contract: pulse.Until. -/
namespace Go.Proofs.Ytjfggepgjpdebaa
open Go.RowKit Go.Q
variable {nb m g1 c1 : Nat} {tv pv : Value} {s : Pu} {o : Ord}
/-- what Until returns -/
def untilE (s : Pu) : Int × Int := if (checkP s).2.2 ≠ 0 then (0, (checkP s).2.2) else if s.why ≠ 0 then (0, 9) else (((untilP s : Nat) : Int), 0)
abbrev v2i (p : Int × Int) : Value := .tuple #[.int .i64 p.1, .int .i64 p.2]
set_option maxRecDepth 100000 in
set_option maxHeartbeats 4000000 in
theorem until_bad (v : Value) (s : Pu) (w : World) (h : PuAt w v s) (hb : PuBd s) (he : (untilE s).2 ≠ 0) :
    Calls Try.prog 28 #[v] w fun e w' => e = .returned (v2i (untilE s)) ∧ Ext w w' := by
  have hc := fun W (E : Ext w W) => pcheck_any v s W (h.ext E) hb
  obtain ⟨a1, a2, a3, c1, c2, c3, rfl, _, _, _⟩ := h
  have e : untilE s = if (checkP s).2.2 ≠ 0 then (0, (checkP s).2.2) else if s.why ≠ 0 then (0, 9) else (((untilP s : Nat) : Int), 0) := rfl
  generalize checkP s = p at *
  obtain ⟨p, i, er⟩ := p
  unfold v3 at hc
  dsimp only at e hc
  by_cases hz : er = 0
  · subst hz
    rw [if_neg (by decide)] at e
    by_cases hy : s.why ≠ 0
    · rw [if_pos hy] at e
      rw [e]
      have hy' : (s.why != 0) = true := by simpa using hy
      clear e he hy hb
      go_enter Try.func28, Try.ntmps28
      go_wp2_with fail
      refine (hc _ (by repeat (first | with_reducible exact Ext.refl _ | with_reducible refine Ext.alloc ?_ _ | with_reducible refine Below.drew ?_))).mono ?_
      rintro e w1 ⟨rfl, E1⟩
      have q0 := box_at (v := .slice a1 s.store.length c1) E1 0 rfl
      have q1 := box_at (v := .slice a2 s.tape.length c2) E1 1 rfl
      have q2 := box_at (v := .int .i64 s.taken) E1 2 rfl
      have q3 := box_at (v := .slice a3 s.printed.length c3) E1 3 rfl
      have q4 := box_at (v := .int .i64 s.clock) E1 4 rfl
      have q5 := box_at (v := .int .i64 s.at_) E1 5 rfl
      have q6 := box_at (v := .int .i64 s.phase) E1 6 rfl
      have q7 := box_at (v := .int .i64 s.order) E1 7 rfl
      have q8 := box_at (v := .int .i64 s.operand) E1 8 rfl
      have q9 := box_at (v := .int .i64 s.other) E1 9 rfl
      have q10 := box_at (v := .int .i64 s.product) E1 10 rfl
      have q11 := box_at (v := .int .i64 s.count) E1 11 rfl
      have q12 := box_at (v := .int .i64 s.done) E1 12 rfl
      have q13 := box_at (v := .int .i64 s.why) E1 13 rfl
      go_wp2_with fail
      go_ret2
      exact ⟨rfl, E1.old⟩
    · rw [if_neg hy] at e; rw [e] at he; exact absurd rfl he
  · rw [if_pos hz] at e
    rw [e]
    have hz' : (er != 0) = true := by simpa using hz
    clear e he hz hb
    go_enter Try.func28, Try.ntmps28
    go_wp2_with fail
    refine (hc _ (by repeat (first | with_reducible exact Ext.refl _ | with_reducible refine Ext.alloc ?_ _ | with_reducible refine Below.drew ?_))).mono ?_
    rintro e w1 ⟨rfl, E1⟩
    go_wp2_with fail
    go_ret2
    exact ⟨rfl, E1.old⟩
set_option maxRecDepth 100000 in
set_option maxHeartbeats 8000000 in
theorem until_good (v : Value) (s : Pu) (w : World) (h : PuAt w v s) (hz : (checkP s).2.2 = 0) (hy : s.why = 0) :
    Calls Try.prog 28 #[v] w fun e w' => e = .returned (v2i (((untilP s : Nat) : Int), 0)) ∧ Ext w w' := by
  have hv := valid_check hz
  have hb : PuBd s := ⟨by rw [hv.len]; decide, Nat.le_trans hv.tlen (by decide), Nat.le_trans hv.plen (by decide)⟩
  have hc := fun W (E : Ext w W) => pcheck_any v s W (h.ext E) hb
  rw [checkP_zero hz] at hc
  unfold v3 at hc
  obtain ⟨a1, a2, a3, c1, c2, c3, rfl, i1, i2, i3⟩ := h
  have hl := hv.len
  have hop := fun W (E : Ext w W) => popen_ok a1 a2 a3 s.tape.length s.printed.length c1 c2 c3 s W hl rfl rfl hv.tlen hv.plen (i1.ext E) (i2.ext E) (i3.ext E) hv.order
  rw [hl] at hc ⊢
  have HV := Lib.hid hv
  have Hy := Lib.hid hy
  have hy0 : (s.why != 0) = false := by simpa using hy
  have hub := untilP_bd hv
  clear hb hz i1 i2 i3 hv hl hy
  go_enter Try.func28, Try.ntmps28
  go_wp2_with fail
  refine (hc _ (by repeat (first | with_reducible exact Ext.refl _ | with_reducible refine Ext.alloc ?_ _ | with_reducible refine Below.drew ?_))).mono ?_
  rintro e w1 ⟨rfl, E1⟩
  have q0 := box_at (v := .slice a1 128 c1) E1 0 rfl
  have q1 := box_at (v := .slice a2 s.tape.length c2) E1 1 rfl
  have q2 := box_at (v := .int .i64 s.taken) E1 2 rfl
  have q3 := box_at (v := .slice a3 s.printed.length c3) E1 3 rfl
  have q4 := box_at (v := .int .i64 s.clock) E1 4 rfl
  have q5 := box_at (v := .int .i64 s.at_) E1 5 rfl
  have q6 := box_at (v := .int .i64 s.phase) E1 6 rfl
  have q7 := box_at (v := .int .i64 s.order) E1 7 rfl
  have q8 := box_at (v := .int .i64 s.operand) E1 8 rfl
  have q9 := box_at (v := .int .i64 s.other) E1 9 rfl
  have q10 := box_at (v := .int .i64 s.product) E1 10 rfl
  have q11 := box_at (v := .int .i64 s.count) E1 11 rfl
  have q12 := box_at (v := .int .i64 s.done) E1 12 rfl
  have q13 := box_at (v := .int .i64 s.why) E1 13 rfl
  go_wp2_with fail
  refine (hop _ E1.old).mono ?_
  rintro e w3 ⟨m, g1, cc, tv, pv, rfl, M, E3⟩
  clear hc hop
  clear q0 q1 q2 q3 q4 q5 q6 q7 q8 q9 q10 q11 q12 q13
  have HM := Lib.hid M
  have HE1 := Lib.hid E1
  have HE3 := Lib.hid E3
  clear M E1 E3
  go_wp2_with fail
  have hz1 : w.heap.size < w1.heap.size := by have := HE1.out.size; simp at this; omega
  have hz3 : w1.heap.size ≤ w3.heap.size := HE3.out.size
  generalize hu : untilP s = u at *
  have Hu := Lib.hid hu
  clear hu
  go_loopg [2] u (fun gg s2 wr => ∃ k : Nat, k < u ∧ u - k ≤ gg ∧ s2 = .int .i64 (k + 1 : Nat) ∧ Aside (∃ pv', Ctl wr w1.heap.size m g1 cc tv pv' (minorsP k s) (ordP (minorsP k s))) ∧ Aside (Below w1.heap.size w3 wr))
  case atStart => exact ⟨0, by omega, by omega, rfl, ⟨_, HM.out⟩, Below.refl _ _⟩
  case round =>
    obtain ⟨k, hk, hg, rfl, hM, hB⟩ := hrel
    clear HM
    obtain ⟨pk, M⟩ := hM.out
    clear hM
    have V := minorsP_valid k HV.out
    have hmn := minor_any wr M V
    have R := Lib.hid (minorsP_snoc' k s)
    have hnb := M.low
    have hpn : ∀ b, pk.ownBlock = some b → w1.heap.size ≤ b := fun b e => (own_at M.prow e).1
    clear M V
    generalize minorP (minorsP k s) = t at *
    go_wp2_with fail
    refine hmn.mono ?_
    rintro e w4 ⟨rfl, pv4, M4, C4, _⟩
    have B4 : Below w1.heap.size w3 w4 := hB.out.trans (C4.below (fun i hS => by
      rcases hS with e | e | e
      · omega
      · omega
      · exact hpn i e) (by have := hB.out.size; omega))
    have E4 := (HE1.out.comp HE3.out).trans (B4.mono (by simp; omega))
    have b6 := box_at (v := .int .i64 s.phase) E4 6 rfl
    have HM4 := Lib.hid M4
    have HB4 := Lib.hid B4
    have HE4 : Hid (Ext w w4) := Lib.hid (Ext.old (o := .cells _ 41) E4)
    have hkk : ((k + 1 : Nat) : Int) + 1 = ((k + 2 : Nat) : Int) := by omega
    by_cases hlast : k + 1 = u
    · have hend := until_end HV.out Hy.out
      rw [Hu.out, ← hlast, R.out] at hend
      by_cases hph : t.phase = s.phase
      · have hw4 : t.why ≠ 0 := hend.resolve_left (fun c => c hph)
        have p6 := M4.c 6 (v := .int .i64 s.phase) (by rw [← hph]; rfl)
        have p13 := M4.c 13 (v := .int .i64 t.why) rfl
        have bw : (t.why != 0) = true := by simpa using hw4
        have bp : (s.phase != s.phase) = false := by simp
        have Hl := Lib.hid hlast
        clear hend hw4 hph hlast M4 C4 B4 E4
        go_wp2_with fail
        go_quiet (fail)
        go_wp2_with fail
        go_ret2
        exact ⟨ret_int2 (by have a := Hl.out; have b := Hu.out; omega) rfl, below_drewN HE4.out _⟩
      · have p6 := M4.c 6 (v := .int .i64 t.phase) rfl
        have p13 := M4.c 13 (v := .int .i64 t.why) rfl
        have bp : (t.phase != s.phase) = true := by simpa using hph
        have Hl := Lib.hid hlast
        clear hend hph hlast M4 C4 B4 E4
        go_wp2_with fail
        go_quiet (fail)
        go_wp2_with fail
        go_ret2
        exact ⟨ret_int2 (by have a := Hl.out; have b := Hu.out; omega) rfl, below_drewN HE4.out _⟩
    · obtain ⟨r1, r2, _, _⟩ := until_law (k + 1) HV.out Hy.out (by rw [Hu.out]; omega)
      rw [R.out] at r1 r2
      have p6 := M4.c 6 (v := .int .i64 s.phase) (by rw [← r1]; rfl)
      have p13 := M4.c 13 (v := .int .i64 0) (by rw [← r2]; rfl)
      have bp : (s.phase != s.phase) = false := by simp
      clear r1 r2 M4 C4 B4 E4
      go_wp2_with fail
      go_quiet (fail)
      go_wp2_with fail
      go_roundg (u - (k + 1))
      case measure => omega
      case rel => exact ⟨k + 1, by omega, by omega, by go_num, ⟨_, by rw [R.out]; exact HM4.out.drewN _⟩, HB4.out.trans (below_drewN (Below.refl _ _) _)⟩
theorem until_any (v : Value) (s : Pu) (w : World) (h : PuAt w v s) (hb : PuBd s) : Calls Try.prog 28 #[v] w fun e w' => e = .returned (v2i (untilE s)) ∧ Ext w w' := by
  by_cases he : (untilE s).2 = 0
  · have e : untilE s = if (checkP s).2.2 ≠ 0 then (0, (checkP s).2.2) else if s.why ≠ 0 then (0, 9) else (((untilP s : Nat) : Int), 0) := rfl
    by_cases hz : (checkP s).2.2 = 0
    · rw [if_neg (by omega)] at e
      by_cases hy : s.why = 0
      · rw [if_neg (by omega)] at e
        rw [e]
        exact until_good v s w h hz hy
      · rw [if_pos hy] at e; rw [e] at he; exact absurd he (by decide)
    · rw [if_pos hz] at e; rw [e] at he; exact absurd he hz
  · exact until_bad v s w h hb he
theorem minors_any (v : Value) (s : Pu) (many : Int) (w : World) (h : PuAt w v s) (hb : PuBd s) : Calls Try.prog 25 #[v, .int .i64 many] w (PuRes (minorsE s many) w) := by
  by_cases he : (minorsE s many).2 = 0
  · have e : minorsE s many = if (checkP s).2.2 ≠ 0 then (zpu, (checkP s).2.2) else if inB many 0 20000 = true then (minorsP many.toNat s, 0) else (zpu, 7) := rfl
    by_cases hz : (checkP s).2.2 = 0
    · rw [if_neg (by omega)] at e
      cases hm : inB many 0 20000 with
      | true => rw [hm, if_pos rfl] at e; rw [e]; exact minors_good v s many w h hz hm
      | false => rw [hm, if_neg (by decide)] at e; rw [e] at he; exact absurd he (by decide)
    · rw [if_pos hz] at e; rw [e] at he; exact absurd he hz
  · exact minors_bad v s many w h hb he
end Go.Proofs.Ytjfggepgjpdebaa
/- What the contracts of layer 5's reference share: a block known whole, through stores and calls. -/
namespace Go.Proofs.Ytjfggepgjpdebaa
open Go.RowKit Go.Q
theorem ext_put {a w : World} {p : Addr} (h : Ext a w) (u : Value) (hp : a.heap.size ≤ p.block) : Ext a (w.setCell p u) := h.setCell hp u
theorem rdec_ord {n : Int} (h : 0 ≤ n ∧ n ≤ 16777215) (w : World) :
    Calls Try.prog 43 #[.int .i64 n] w fun e w' => e = .returned (.tuple #[.agg #[.int .i64 (decodeQ n).op, .int .i64 (decodeQ n).frm, .int .i64 (decodeQ n).to, .int .i64 (decodeQ n).nxt], .int .i64 0]) ∧ Ext w w' := by
  have hd := rdecodeE_any n w
  have hdq : decQ n = (decodeQ n, 0) := by unfold decQ; rw [if_pos (by simp only [wordB, inB, Bool.and_eq_true, decide_eq_true_eq]; exact h)]
  rw [hdq] at hd
  unfold ovE at hd
  exact hd
theorem mod_all {y r d : Int} (h : y = 281474976710656 * d + r) (h1 : -281474976710656 < r) : (r + 281474976710656) % 281474976710656 = y % 281474976710656 := by omega
/-- block b is known whole -/
def Blk (W : World) (b : Nat) (cs : Array Value) (T : TypeId) : Prop := W.heap[b]? = some (.cells cs T (0, 0))
section
variable {w W W' : World} {b m i : Nat} {cs : Array Value} {T : TypeId} {v : Value}
theorem Blk.lt (h : Blk W b cs T) : b < W.heap.size := lt_of_block h
theorem Blk.al (h : Blk W b cs T) (ob : Obj) : Blk (W.alloc ob) b cs T := by
  have := h.lt
  show (W.heap.push ob)[b]? = _
  rw [Array.getElem?_push, if_neg (by omega)]; exact h
theorem Blk.dr (h : Blk W b cs T) : Blk W.drew b cs T := h
theorem Blk.ot (h : Blk W b cs T) (hne : b ≠ m) : Blk (W.setCell ⟨m, i, none⟩ v) b cs T := (Below.heap_setCell _ _ _ _ hne).trans h
theorem Blk.st (h : Blk W b cs T) (i : Nat) (v : Value) : Blk (W.setCell ⟨b, i, none⟩ v) b (cs.setIfInBounds i v) T := cells_set h i v
theorem Blk.ex (h : Blk W b cs T) (E : Ext W W') : Blk W' b cs T := (E.block b h.lt).trans h
theorem Blk.go {X Y : World} (h : Blk W b cs T) (k : Blk W b cs T → Blk X b cs T) (E : Ext X Y) : Blk Y b cs T := (k h).ex E
theorem Blk.nw (W : World) (cs : Array Value) (T : TypeId) : Blk (W.alloc (.cells cs T)) W.heap.size cs T := heap_alloc_new W _
theorem Blk.of (E : Ext (w.alloc (.cells cs T)) W) : Blk W w.heap.size cs T := (Blk.nw w cs T).ex E
theorem Blk.c (h : Blk W b cs T) (i : Nat) {v : Value} (hv : cs[i]? = some v) : W.cell? ⟨b, i, none⟩ = some v := cell_of_cells h i hv
theorem Blk.f (h : Blk W b cs T) (i : Nat) : W.frozen? ⟨b, i, none⟩ = false := free_of_cells h i
theorem Blk.ot14 (h : Blk W b cs T) (hne : b ≠ m) (x0 x1 x2 x3 x4 x5 x6 x7 x8 x9 x10 x11 x12 x13 : Value) : Blk ((((((((((((((W.setCell ⟨m, 0, none⟩ x0).setCell ⟨m, 1, none⟩ x1).setCell ⟨m, 2, none⟩ x2).setCell ⟨m, 3, none⟩ x3).setCell ⟨m, 4, none⟩ x4).setCell ⟨m, 5, none⟩ x5).setCell ⟨m, 6, none⟩ x6).setCell ⟨m, 7, none⟩ x7).setCell ⟨m, 8, none⟩ x8).setCell ⟨m, 9, none⟩ x9).setCell ⟨m, 10, none⟩ x10).setCell ⟨m, 11, none⟩ x11).setCell ⟨m, 12, none⟩ x12).setCell ⟨m, 13, none⟩ x13) b cs T :=
  (((((((((((((h.ot hne).ot hne).ot hne).ot hne).ot hne).ot hne).ot hne).ot hne).ot hne).ot hne).ot hne).ot hne).ot hne).ot hne
theorem Blk.st14 {c0 c1 c2 c3 c4 c5 c6 c7 c8 c9 c10 c11 c12 c13 : Value} (h : Blk W b #[c0, c1, c2, c3, c4, c5, c6, c7, c8, c9, c10, c11, c12, c13] T) (x0 x1 x2 x3 x4 x5 x6 x7 x8 x9 x10 x11 x12 x13 : Value) : Blk ((((((((((((((W.setCell ⟨b, 0, none⟩ x0).setCell ⟨b, 1, none⟩ x1).setCell ⟨b, 2, none⟩ x2).setCell ⟨b, 3, none⟩ x3).setCell ⟨b, 4, none⟩ x4).setCell ⟨b, 5, none⟩ x5).setCell ⟨b, 6, none⟩ x6).setCell ⟨b, 7, none⟩ x7).setCell ⟨b, 8, none⟩ x8).setCell ⟨b, 9, none⟩ x9).setCell ⟨b, 10, none⟩ x10).setCell ⟨b, 11, none⟩ x11).setCell ⟨b, 12, none⟩ x12).setCell ⟨b, 13, none⟩ x13) b #[x0, x1, x2, x3, x4, x5, x6, x7, x8, x9, x10, x11, x12, x13] T :=
  by
    have b0 : Blk (W.setCell ⟨b, 0, none⟩ x0) b #[x0, c1, c2, c3, c4, c5, c6, c7, c8, c9, c10, c11, c12, c13] T := h.st 0 x0
    have b1 : Blk ((W.setCell ⟨b, 0, none⟩ x0).setCell ⟨b, 1, none⟩ x1) b #[x0, x1, c2, c3, c4, c5, c6, c7, c8, c9, c10, c11, c12, c13] T := b0.st 1 x1
    have b2 : Blk (((W.setCell ⟨b, 0, none⟩ x0).setCell ⟨b, 1, none⟩ x1).setCell ⟨b, 2, none⟩ x2) b #[x0, x1, x2, c3, c4, c5, c6, c7, c8, c9, c10, c11, c12, c13] T := b1.st 2 x2
    have b3 : Blk ((((W.setCell ⟨b, 0, none⟩ x0).setCell ⟨b, 1, none⟩ x1).setCell ⟨b, 2, none⟩ x2).setCell ⟨b, 3, none⟩ x3) b #[x0, x1, x2, x3, c4, c5, c6, c7, c8, c9, c10, c11, c12, c13] T := b2.st 3 x3
    have b4 : Blk (((((W.setCell ⟨b, 0, none⟩ x0).setCell ⟨b, 1, none⟩ x1).setCell ⟨b, 2, none⟩ x2).setCell ⟨b, 3, none⟩ x3).setCell ⟨b, 4, none⟩ x4) b #[x0, x1, x2, x3, x4, c5, c6, c7, c8, c9, c10, c11, c12, c13] T := b3.st 4 x4
    have b5 : Blk ((((((W.setCell ⟨b, 0, none⟩ x0).setCell ⟨b, 1, none⟩ x1).setCell ⟨b, 2, none⟩ x2).setCell ⟨b, 3, none⟩ x3).setCell ⟨b, 4, none⟩ x4).setCell ⟨b, 5, none⟩ x5) b #[x0, x1, x2, x3, x4, x5, c6, c7, c8, c9, c10, c11, c12, c13] T := b4.st 5 x5
    have b6 : Blk (((((((W.setCell ⟨b, 0, none⟩ x0).setCell ⟨b, 1, none⟩ x1).setCell ⟨b, 2, none⟩ x2).setCell ⟨b, 3, none⟩ x3).setCell ⟨b, 4, none⟩ x4).setCell ⟨b, 5, none⟩ x5).setCell ⟨b, 6, none⟩ x6) b #[x0, x1, x2, x3, x4, x5, x6, c7, c8, c9, c10, c11, c12, c13] T := b5.st 6 x6
    have b7 : Blk ((((((((W.setCell ⟨b, 0, none⟩ x0).setCell ⟨b, 1, none⟩ x1).setCell ⟨b, 2, none⟩ x2).setCell ⟨b, 3, none⟩ x3).setCell ⟨b, 4, none⟩ x4).setCell ⟨b, 5, none⟩ x5).setCell ⟨b, 6, none⟩ x6).setCell ⟨b, 7, none⟩ x7) b #[x0, x1, x2, x3, x4, x5, x6, x7, c8, c9, c10, c11, c12, c13] T := b6.st 7 x7
    have b8 : Blk (((((((((W.setCell ⟨b, 0, none⟩ x0).setCell ⟨b, 1, none⟩ x1).setCell ⟨b, 2, none⟩ x2).setCell ⟨b, 3, none⟩ x3).setCell ⟨b, 4, none⟩ x4).setCell ⟨b, 5, none⟩ x5).setCell ⟨b, 6, none⟩ x6).setCell ⟨b, 7, none⟩ x7).setCell ⟨b, 8, none⟩ x8) b #[x0, x1, x2, x3, x4, x5, x6, x7, x8, c9, c10, c11, c12, c13] T := b7.st 8 x8
    have b9 : Blk ((((((((((W.setCell ⟨b, 0, none⟩ x0).setCell ⟨b, 1, none⟩ x1).setCell ⟨b, 2, none⟩ x2).setCell ⟨b, 3, none⟩ x3).setCell ⟨b, 4, none⟩ x4).setCell ⟨b, 5, none⟩ x5).setCell ⟨b, 6, none⟩ x6).setCell ⟨b, 7, none⟩ x7).setCell ⟨b, 8, none⟩ x8).setCell ⟨b, 9, none⟩ x9) b #[x0, x1, x2, x3, x4, x5, x6, x7, x8, x9, c10, c11, c12, c13] T := b8.st 9 x9
    have b10 : Blk (((((((((((W.setCell ⟨b, 0, none⟩ x0).setCell ⟨b, 1, none⟩ x1).setCell ⟨b, 2, none⟩ x2).setCell ⟨b, 3, none⟩ x3).setCell ⟨b, 4, none⟩ x4).setCell ⟨b, 5, none⟩ x5).setCell ⟨b, 6, none⟩ x6).setCell ⟨b, 7, none⟩ x7).setCell ⟨b, 8, none⟩ x8).setCell ⟨b, 9, none⟩ x9).setCell ⟨b, 10, none⟩ x10) b #[x0, x1, x2, x3, x4, x5, x6, x7, x8, x9, x10, c11, c12, c13] T := b9.st 10 x10
    have b11 : Blk ((((((((((((W.setCell ⟨b, 0, none⟩ x0).setCell ⟨b, 1, none⟩ x1).setCell ⟨b, 2, none⟩ x2).setCell ⟨b, 3, none⟩ x3).setCell ⟨b, 4, none⟩ x4).setCell ⟨b, 5, none⟩ x5).setCell ⟨b, 6, none⟩ x6).setCell ⟨b, 7, none⟩ x7).setCell ⟨b, 8, none⟩ x8).setCell ⟨b, 9, none⟩ x9).setCell ⟨b, 10, none⟩ x10).setCell ⟨b, 11, none⟩ x11) b #[x0, x1, x2, x3, x4, x5, x6, x7, x8, x9, x10, x11, c12, c13] T := b10.st 11 x11
    have b12 : Blk (((((((((((((W.setCell ⟨b, 0, none⟩ x0).setCell ⟨b, 1, none⟩ x1).setCell ⟨b, 2, none⟩ x2).setCell ⟨b, 3, none⟩ x3).setCell ⟨b, 4, none⟩ x4).setCell ⟨b, 5, none⟩ x5).setCell ⟨b, 6, none⟩ x6).setCell ⟨b, 7, none⟩ x7).setCell ⟨b, 8, none⟩ x8).setCell ⟨b, 9, none⟩ x9).setCell ⟨b, 10, none⟩ x10).setCell ⟨b, 11, none⟩ x11).setCell ⟨b, 12, none⟩ x12) b #[x0, x1, x2, x3, x4, x5, x6, x7, x8, x9, x10, x11, x12, c13] T := b11.st 12 x12
    have b13 : Blk ((((((((((((((W.setCell ⟨b, 0, none⟩ x0).setCell ⟨b, 1, none⟩ x1).setCell ⟨b, 2, none⟩ x2).setCell ⟨b, 3, none⟩ x3).setCell ⟨b, 4, none⟩ x4).setCell ⟨b, 5, none⟩ x5).setCell ⟨b, 6, none⟩ x6).setCell ⟨b, 7, none⟩ x7).setCell ⟨b, 8, none⟩ x8).setCell ⟨b, 9, none⟩ x9).setCell ⟨b, 10, none⟩ x10).setCell ⟨b, 11, none⟩ x11).setCell ⟨b, 12, none⟩ x12).setCell ⟨b, 13, none⟩ x13) b #[x0, x1, x2, x3, x4, x5, x6, x7, x8, x9, x10, x11, x12, x13] T := b12.st 13 x13
    exact b13
theorem Blk.nm14 {W3 : World} {x0 x1 x2 x3 x4 x5 x6 x7 x8 x9 x10 x11 x12 x13 : Value} (h : Blk W b cs T) (e : W3 = ((((((((((((((W.setCell ⟨m, 0, none⟩ x0).setCell ⟨m, 1, none⟩ x1).setCell ⟨m, 2, none⟩ x2).setCell ⟨m, 3, none⟩ x3).setCell ⟨m, 4, none⟩ x4).setCell ⟨m, 5, none⟩ x5).setCell ⟨m, 6, none⟩ x6).setCell ⟨m, 7, none⟩ x7).setCell ⟨m, 8, none⟩ x8).setCell ⟨m, 9, none⟩ x9).setCell ⟨m, 10, none⟩ x10).setCell ⟨m, 11, none⟩ x11).setCell ⟨m, 12, none⟩ x12).setCell ⟨m, 13, none⟩ x13)) (hne : b ≠ m) : Blk W3 b cs T := e ▸ h.ot14 hne x0 x1 x2 x3 x4 x5 x6 x7 x8 x9 x10 x11 x12 x13
end
/-- the list lies in no block from lo on and below hi -/
def IntsO (w : World) (lo hi : Nat) (a : Option Addr) (xs : List Int) : Prop :=
  xs = [] ∨ ∃ b off, a = some ⟨b, off, none⟩ ∧ b < w.heap.size ∧ (b < lo ∨ hi ≤ b) ∧ ∀ i, i < xs.length → w.cell? ⟨b, off + i, none⟩ = some (.int .i64 (xs[i]?.getD 0))
section
variable {w w' : World} {lo hi : Nat} {a : Option Addr} {xs : List Int}
theorem IntsO.at_ (h : IntsO w lo hi a xs) : IntsAt w a xs := h.imp id fun ⟨b, off, ha, hb, _, hc⟩ => ⟨b, off, ha, hb, hc⟩
theorem IntsO.ext (h : IntsO w lo hi a xs) (E : Ext w w') : IntsO w' lo hi a xs :=
  h.imp id fun ⟨b, off, ha, hb, ho, hc⟩ => ⟨b, off, ha, Nat.lt_of_lt_of_le hb E.size, ho, fun i hi => (E.cell (p := ⟨b, off + i, none⟩) hb).trans (hc i hi)⟩
theorem IntsO.put (h : IntsO w lo hi a xs) {p : Addr} (hp : lo ≤ p.block ∧ p.block < hi) (u : Value) : IntsO (w.setCell p u) lo hi a xs :=
  h.imp id fun ⟨b, off, ha, hb, ho, hc⟩ => ⟨b, off, ha, by simpa [World.setCell] using hb, ho, fun i hi => (World.cell?_setCell_other w p _ u (fun e => by
    have e2 : b = p.block := by rw [e]
    omega)).trans (hc i hi)⟩
theorem IntsO.new (h : IntsAt w a xs) (hlo : w.heap.size ≤ lo) : IntsO w lo hi a xs :=
  h.imp id fun ⟨b, off, ha, hb, hc⟩ => ⟨b, off, ha, hb, .inl (by omega), hc⟩
end
/-- a state whose lists lie in no block from lo on and below hi -/
def PuO (w : World) (lo hi : Nat) (v : Value) (s : Pu) : Prop := ∃ a1 a2 a3 c1 c2 c3, v = psv a1 a2 a3 s.store.length c1 s.tape.length c2 s.printed.length c3 s ∧ IntsO w lo hi a1 s.store ∧ IntsO w lo hi a2 s.tape ∧ IntsO w lo hi a3 s.printed
theorem PuO.at_ {w : World} {lo hi : Nat} {v : Value} {s : Pu} (h : PuO w lo hi v s) : PuAt w v s := by
  obtain ⟨a1, a2, a3, c1, c2, c3, hv, i1, i2, i3⟩ := h
  exact ⟨a1, a2, a3, c1, c2, c3, hv, i1.at_, i2.at_, i3.at_⟩
/-- the list is the old one, or lies in a block from B on -/
def Row (B : Nat) (a : Option Addr) (xs : List Int) (w : World) (a' : Option Addr) (xs' : List Int) : Prop :=
  (a' = a ∧ xs' = xs) ∨ ∃ g, a' = some ⟨g, 0, none⟩ ∧ B ≤ g ∧ IntsAt w a' xs'
section
variable {w w' : World} {B lo hi : Nat} {a a' : Option Addr} {xs xs' : List Int}
theorem Row.mono (h : Row B a xs w a' xs') {C : Nat} (hc : C ≤ B) : Row C a xs w a' xs' := h.imp id fun ⟨g, e, hg, hI⟩ => ⟨g, e, by omega, hI⟩
theorem ints_put {p : Addr} {u : Value} (h : IntsAt w a xs) (hp : ∀ b off, a = some ⟨b, off, none⟩ → b ≠ p.block) : IntsAt (w.setCell p u) a xs := by
  rcases h with h | ⟨b, off, ha, hb, hc⟩
  · exact .inl h
  · exact .inr ⟨b, off, ha, by simpa [World.setCell] using hb, fun i hi => (World.cell?_setCell_other w p _ u (fun e => hp b off ha (by rw [e]))).trans (hc i hi)⟩
theorem Row.put (h : Row B a xs w a' xs') {p : Addr} (hp : p.block < B) (u : Value) : Row B a xs (w.setCell p u) a' xs' :=
  h.imp id fun ⟨g, e, hg, hI⟩ => ⟨g, e, hg, ints_put hI (fun b off e2 => by rw [e] at e2; cases e2; omega)⟩
theorem Row.intsO (h : Row B a xs w' a' xs') (hI : IntsO w lo hi a xs) (E : Ext w w') (hB : hi ≤ B) : IntsO w' lo hi a' xs' := by
  rcases h with ⟨rfl, rfl⟩ | ⟨g, e, hg, hI2⟩
  · exact hI.ext E
  · rcases hI2 with h | ⟨b, off, e2, hb, hc⟩
    · exact .inl h
    · rw [e] at e2; cases e2
      exact .inr ⟨g, 0, e, hb, .inr (by omega), hc⟩
end
/-- the call returned the state t; its printed list is the old one, or a new one -/
def Beh (a1 a2 a3 : Option Addr) (n1 c1 n2 c2 : Nat) (xs : List Int) (w : World) (t : Pu) (e : Ending) (w' : World) : Prop :=
  ∃ b3 d3, e = .returned (psv a1 a2 b3 n1 c1 n2 c2 t.printed.length d3 t) ∧ Row w.heap.size a3 xs w' b3 t.printed ∧ Ext w w'
theorem Beh.of {a1 a2 a3 : Option Addr} {n1 c1 n2 c2 c3 : Nat} {s t : Pu} {w w' : World} {e : Ending} (h : e = .returned (psv a1 a2 a3 n1 c1 n2 c2 s.printed.length c3 t) ∧ Ext w w') (hp : t.printed = s.printed) : Beh a1 a2 a3 n1 c1 n2 c2 s.printed w t e w' :=
  ⟨a3, c3, by rw [h.1, hp], .inl ⟨rfl, hp⟩, h.2⟩
end Go.Proofs.Ytjfggepgjpdebaa

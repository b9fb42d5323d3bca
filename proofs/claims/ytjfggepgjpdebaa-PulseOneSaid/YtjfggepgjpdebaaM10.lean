import Derived.Outline
import Derived.Deep.MidRow
import Derived.Test.YtjfggepgjpdebaaM2
import Derived.Test.YtjfggepgjpdebaaM9
set_option linter.unusedVariables false
set_option linter.unusedSimpArgs false
/- Contract: pulse.Bits. -/
namespace Go.Proofs.Ytjfggepgjpdebaa
open Go.RowKit Go.Q Go.Shelf
attribute [local go_sem] Oper.semAt_some
/-- a state of pulses as a value -/
abbrev pbv (aL a1 a2 a3 : Option Addr) (nL cL n1 c1 n2 c2 n3 c3 : Nat) (b : PuB) : Value :=
  .agg #[.slice aL nL cL, .slice a1 n1 c1, .slice a2 n2 c2, .int .i64 b.now.taken, .slice a3 n3 c3, .int .i64 b.now.clock, .int .i64 b.now.at_, .int .i64 b.now.phase, .int .i64 b.now.order, .int .i64 b.now.operand, .int .i64 b.now.other, .int .i64 b.now.product, .int .i64 b.now.count, .int .i64 b.now.done, .int .i64 b.now.why, .int .i64 b.beat, .int .i64 b.carry, .int .i64 b.sum]
def PbAt (w : World) (v : Value) (b : PuB) : Prop := ∃ aL a1 a2 a3 cL c1 c2 c3, v = pbv aL a1 a2 a3 b.lines.length cL b.now.store.length c1 b.now.tape.length c2 b.now.printed.length c3 b ∧ LinesAt w aL b.lines ∧ IntsAt w a1 b.now.store ∧ IntsAt w a2 b.now.tape ∧ IntsAt w a3 b.now.printed
theorem PbAt.ext {w w' : World} {v : Value} {b : PuB} (h : PbAt w v b) (e : Ext w w') : PbAt w' v b := by
  obtain ⟨aL, a1, a2, a3, cL, c1, c2, c3, hv, iL, i1, i2, i3⟩ := h
  exact ⟨aL, a1, a2, a3, cL, c1, c2, c3, hv, iL.ext e, i1.ext e, i2.ext e, i3.ext e⟩
def PbRes (p : PuB × Int) (w : World) (e : Ending) (w' : World) : Prop := ∃ v, e = .returned (.tuple #[v, .int .i64 p.2]) ∧ PbAt w' v p.1 ∧ Ext w w'
def zpb : PuB := ⟨[], zpu, 0, 0, 0⟩
abbrev zpbv : Value := .agg #[.slice none 0 0, .slice none 0 0, .slice none 0 0, .int .i64 0, .slice none 0 0, .int .i64 0, .int .i64 0, .int .i64 0, .int .i64 0, .int .i64 0, .int .i64 0, .int .i64 0, .int .i64 0, .int .i64 0, .int .i64 0, .int .i64 0, .int .i64 0, .int .i64 0]
theorem zpb_res {w w' : World} (er : Int) (h : Ext w w') : PbRes (zpb, er) w (.returned (.tuple #[zpbv, .int .i64 er])) w' :=
  ⟨_, rfl, ⟨none, none, none, none, 0, 0, 0, 0, rfl, .inl rfl, .inl rfl, .inl rfl, .inl rfl⟩, h⟩
/-- one block alone has turned -/
abbrev OnlyB (B : Nat) (W W' : World) : Prop := W.grownBy W' (some B)
theorem OnlyB.refl (B : Nat) (W : World) : OnlyB B W W := World.grownBy.refl W _
theorem OnlyB.set {B : Nat} {W W' : World} (h : OnlyB B W W') (i : Nat) (v : Value) : OnlyB B W (W'.setCell ⟨B, i, none⟩ v) :=
  ⟨h.os, h.tape, h.output, by rw [size_set']; exact h.size, fun k hk hne => (Below.heap_setCell _ _ _ _ (fun e => hne (by rw [e]))).trans (h.block k hk hne)⟩
theorem OnlyB.keep {B : Nat} {W W' : World} (h : OnlyB B W W') {cs : Array Value} {T : TypeId} (hB : Blk W B cs T) (h1 : T ≠ 3) (h2 : T ≠ 100) : KeepP W W' :=
  ⟨h.size, fun k c U fr hk hU => h.block k (lt_of_block hk) (fun e => by
    cases e
    have := Eq.trans (Eq.symm hB) hk
    simp only [Option.some.injEq, Obj.cells.injEq] at this
    obtain ⟨_, rfl, _⟩ := this
    exact hU.elim h1 h2)⟩
theorem OnlyB.ext {B : Nat} {w W W' : World} (h : OnlyB B W W') (E : Ext w W) (hB : w.heap.size ≤ B) : Ext w W' := E.grown h E.size (fun k e => by cases e; exact hB)
theorem OnlyB.other {B b : Nat} {W W' : World} (h : OnlyB B W W') {cs : Array Value} {T : TypeId} (hb : Blk W b cs T) (hne : b ≠ B) : Blk W' b cs T := (h.block b hb.lt (fun e => hne (by cases e; rfl))).trans hb
/-- eight lines that grow, at block LB -/
structure LinP (W : World) (base LB : Nat) (f : Nat → List Bool) (vs : Nat → Value) : Prop where
  blk : Blk W LB #[vs 0, vs 1, vs 2, vs 3, vs 4, vs 5, vs 6, vs 7] 69
  row : ∀ i, i < 8 → W.ownsRow base 4 1 (vs i) (f i).length (bv (f i))
  apart : ∀ i j q, i < 8 → j < 8 → i ≠ j → (vs i).ownBlock = some q → (vs j).ownBlock ≠ some q
section
variable {W W' : World} {base LB : Nat} {f : Nat → List Bool} {vs : Nat → Value}
theorem LinP.keep (h : LinP W base LB f vs) (hk : ∀ (k : Nat) (o : Obj), W.heap[k]? = some o → o.isCells = true → W'.heap[k]? = some o) : LinP W' base LB f vs where
  blk := hk _ _ h.blk rfl
  row := fun i hi => own_later (h.row i hi) (fun b hb => by
    rcases (h.row i hi).2 with ⟨e, _⟩ | ⟨g, cap, cur, e, _, hg, _⟩
    · rw [e] at hb; cases hb
    · rw [e] at hb
      obtain rfl : g = b := by simpa [Value.ownBlock] using hb
      rw [hg]
      exact hk _ _ hg rfl)
  apart := h.apart
theorem LinP.cell (h : LinP W base LB f vs) {i : Nat} (hi : i < 8) : W.cell? ⟨LB, i, none⟩ = some (vs i) := by
  refine h.blk.c i ?_
  match i, hi with
  | 0, _ | 1, _ | 2, _ | 3, _ | 4, _ | 5, _ | 6, _ | 7, _ => rfl
theorem LinP.nb (h : LinP W base LB f vs) {i : Nat} (hi : i < 8) : (vs i).ownBlock ≠ some LB := by
  intro e
  rcases (h.row i hi).2 with ⟨e1, _⟩ | ⟨g, cap, cur, e1, _, hg, _⟩
  · rw [e1] at e; cases e
  · rw [e1] at e
    obtain rfl : g = LB := by simpa [Value.ownBlock] using e
    have := h.blk.symm.trans hg
    simp at this
theorem linP_own {β : Type} (base LB : Nat) (F : β → Nat → List Bool) : Own (fun (s : β) W => ∃ vs, LinP W base LB (F s) vs) := by
  rintro s W W' row ⟨vs, h⟩ hg hr
  refine ⟨vs, h.keep (fun k o hk ho => (hg.block k (Array.getElem?_eq_some_iff.1 hk).1 (fun e => ?_)).trans hk)⟩
  obtain ⟨o', ho', hc⟩ := hr k e.symm
  rw [hk] at ho'
  cases ho'
  rw [ho] at hc
  cases hc
/-- a pulse is appended to the line j -/
theorem LinP.put {w1 : World} {tmp : Obj} {x : Bool} {v' : Value} {j : Nat} (h : LinP W base LB f vs) (hj : j < 8) (hg : (W.alloc tmp).grownBy w1 (vs j).ownBlock) (ho : w1.ownsRow base 4 1 v' ((f j).length + 1) (bv (f j ++ [x])))
    (hat : v'.ownBlock = (vs j).ownBlock ∨ v'.ownBlock = some (W.alloc tmp).heap.size) :
    LinP (w1.setCell ⟨LB, j, none⟩ v') base LB (fun i => if i = j then f j ++ [x] else f i) (fun i => if i = j then v' else vs i) := by
  have hlt := h.blk.lt
  have hsz : (W.alloc tmp).heap.size = W.heap.size + 1 := World.size_alloc _ _
  have old : ∀ k, k < W.heap.size → (vs j).ownBlock ≠ some k → w1.heap[k]? = W.heap[k]? := fun k hk hne => (hg.block k (by omega) (fun e => hne e.symm)).trans (Below.heap_alloc _ _ _ hk)
  have b1 : Blk w1 LB #[vs 0, vs 1, vs 2, vs 3, vs 4, vs 5, vs 6, vs 7] 69 := (old LB hlt (h.nb hj)).trans h.blk
  have hvLB : v'.ownBlock ≠ some LB := by
    rcases hat with e | e
    · rw [e]; exact h.nb hj
    · rw [e, hsz]; intro c; cases c; omega
  refine ⟨?_, fun i hi => ?_, fun i k q hi hk hne e => ?_⟩
  · have := b1.st j v'
    match j, hj with
    | 0, _ | 1, _ | 2, _ | 3, _ | 4, _ | 5, _ | 6, _ | 7, _ => exact this
  · by_cases e : i = j
    · simp only [if_pos e, List.length_append, List.length_singleton]
      exact own_later ho (fun b hb => Below.heap_setCell _ _ _ _ (fun c => hvLB (by rw [hb]; exact congrArg some c)))
    · simp only [if_neg e]
      refine own_later (h.row i hi) (fun b hb => ?_)
      have hb1 := own_lt (h.row i hi) hb
      refine (Below.heap_setCell _ _ _ _ (fun c => h.nb hi (by rw [hb]; exact congrArg some c))).trans (old b hb1 (fun c => h.apart j i b hj hi (fun c => e c.symm) c hb))
  · have fresh : ∀ (i : Nat) (q : Nat), i < 8 → (vs i).ownBlock = some q → q < W.heap.size := fun i q hi e => own_lt (h.row i hi) e
    by_cases e1 : i = j
    · rw [if_pos e1] at e
      by_cases e2 : k = j
      · omega
      · rw [if_neg e2]
        intro c
        rcases hat with h1 | h1
        · exact h.apart j k q hj hk (fun c => e2 c.symm) (h1 ▸ e) c
        · have := fresh k q hk c
          rw [h1, hsz] at e; cases e; omega
    · rw [if_neg e1] at e
      by_cases e2 : k = j
      · rw [if_pos e2]
        intro c
        rcases hat with h1 | h1
        · exact h.apart i j q hi hj e1 e (h1 ▸ c)
        · have := fresh i q hi e
          rw [h1, hsz] at c; cases c; omega
      · rw [if_neg e2]
        exact h.apart i k q hi hk hne e
end
theorem Blk.now14 {W : World} {b : Nat} {T : TypeId} {c0 c1 c2 c3 c4 c5 c6 c7 c8 c9 c10 c11 c12 c13 c14 c15 c16 c17 : Value} (h : Blk W b #[c0, c1, c2, c3, c4, c5, c6, c7, c8, c9, c10, c11, c12, c13, c14, c15, c16, c17] T) (x0 x1 x2 x3 x4 x5 x6 x7 x8 x9 x10 x11 x12 x13 y : Value) : Blk (((((((((((((((W.setCell ⟨b, 1, none⟩ x0).setCell ⟨b, 2, none⟩ x1).setCell ⟨b, 3, none⟩ x2).setCell ⟨b, 4, none⟩ x3).setCell ⟨b, 5, none⟩ x4).setCell ⟨b, 6, none⟩ x5).setCell ⟨b, 7, none⟩ x6).setCell ⟨b, 8, none⟩ x7).setCell ⟨b, 9, none⟩ x8).setCell ⟨b, 10, none⟩ x9).setCell ⟨b, 11, none⟩ x10).setCell ⟨b, 12, none⟩ x11).setCell ⟨b, 13, none⟩ x12).setCell ⟨b, 14, none⟩ x13).setCell ⟨b, 1, none⟩ y) b #[c0, y, x1, x2, x3, x4, x5, x6, x7, x8, x9, x10, x11, x12, x13, c15, c16, c17] T := by
  have b1 : Blk (W.setCell ⟨b, 1, none⟩ x0) b #[c0, x0, c2, c3, c4, c5, c6, c7, c8, c9, c10, c11, c12, c13, c14, c15, c16, c17] T := h.st 1 x0
  have b2 : Blk ((W.setCell ⟨b, 1, none⟩ x0).setCell ⟨b, 2, none⟩ x1) b #[c0, x0, x1, c3, c4, c5, c6, c7, c8, c9, c10, c11, c12, c13, c14, c15, c16, c17] T := b1.st 2 x1
  have b3 : Blk (((W.setCell ⟨b, 1, none⟩ x0).setCell ⟨b, 2, none⟩ x1).setCell ⟨b, 3, none⟩ x2) b #[c0, x0, x1, x2, c4, c5, c6, c7, c8, c9, c10, c11, c12, c13, c14, c15, c16, c17] T := b2.st 3 x2
  have b4 : Blk ((((W.setCell ⟨b, 1, none⟩ x0).setCell ⟨b, 2, none⟩ x1).setCell ⟨b, 3, none⟩ x2).setCell ⟨b, 4, none⟩ x3) b #[c0, x0, x1, x2, x3, c5, c6, c7, c8, c9, c10, c11, c12, c13, c14, c15, c16, c17] T := b3.st 4 x3
  have b5 : Blk (((((W.setCell ⟨b, 1, none⟩ x0).setCell ⟨b, 2, none⟩ x1).setCell ⟨b, 3, none⟩ x2).setCell ⟨b, 4, none⟩ x3).setCell ⟨b, 5, none⟩ x4) b #[c0, x0, x1, x2, x3, x4, c6, c7, c8, c9, c10, c11, c12, c13, c14, c15, c16, c17] T := b4.st 5 x4
  have b6 : Blk ((((((W.setCell ⟨b, 1, none⟩ x0).setCell ⟨b, 2, none⟩ x1).setCell ⟨b, 3, none⟩ x2).setCell ⟨b, 4, none⟩ x3).setCell ⟨b, 5, none⟩ x4).setCell ⟨b, 6, none⟩ x5) b #[c0, x0, x1, x2, x3, x4, x5, c7, c8, c9, c10, c11, c12, c13, c14, c15, c16, c17] T := b5.st 6 x5
  have b7 : Blk (((((((W.setCell ⟨b, 1, none⟩ x0).setCell ⟨b, 2, none⟩ x1).setCell ⟨b, 3, none⟩ x2).setCell ⟨b, 4, none⟩ x3).setCell ⟨b, 5, none⟩ x4).setCell ⟨b, 6, none⟩ x5).setCell ⟨b, 7, none⟩ x6) b #[c0, x0, x1, x2, x3, x4, x5, x6, c8, c9, c10, c11, c12, c13, c14, c15, c16, c17] T := b6.st 7 x6
  have b8 : Blk ((((((((W.setCell ⟨b, 1, none⟩ x0).setCell ⟨b, 2, none⟩ x1).setCell ⟨b, 3, none⟩ x2).setCell ⟨b, 4, none⟩ x3).setCell ⟨b, 5, none⟩ x4).setCell ⟨b, 6, none⟩ x5).setCell ⟨b, 7, none⟩ x6).setCell ⟨b, 8, none⟩ x7) b #[c0, x0, x1, x2, x3, x4, x5, x6, x7, c9, c10, c11, c12, c13, c14, c15, c16, c17] T := b7.st 8 x7
  have b9 : Blk (((((((((W.setCell ⟨b, 1, none⟩ x0).setCell ⟨b, 2, none⟩ x1).setCell ⟨b, 3, none⟩ x2).setCell ⟨b, 4, none⟩ x3).setCell ⟨b, 5, none⟩ x4).setCell ⟨b, 6, none⟩ x5).setCell ⟨b, 7, none⟩ x6).setCell ⟨b, 8, none⟩ x7).setCell ⟨b, 9, none⟩ x8) b #[c0, x0, x1, x2, x3, x4, x5, x6, x7, x8, c10, c11, c12, c13, c14, c15, c16, c17] T := b8.st 9 x8
  have b10 : Blk ((((((((((W.setCell ⟨b, 1, none⟩ x0).setCell ⟨b, 2, none⟩ x1).setCell ⟨b, 3, none⟩ x2).setCell ⟨b, 4, none⟩ x3).setCell ⟨b, 5, none⟩ x4).setCell ⟨b, 6, none⟩ x5).setCell ⟨b, 7, none⟩ x6).setCell ⟨b, 8, none⟩ x7).setCell ⟨b, 9, none⟩ x8).setCell ⟨b, 10, none⟩ x9) b #[c0, x0, x1, x2, x3, x4, x5, x6, x7, x8, x9, c11, c12, c13, c14, c15, c16, c17] T := b9.st 10 x9
  have b11 : Blk (((((((((((W.setCell ⟨b, 1, none⟩ x0).setCell ⟨b, 2, none⟩ x1).setCell ⟨b, 3, none⟩ x2).setCell ⟨b, 4, none⟩ x3).setCell ⟨b, 5, none⟩ x4).setCell ⟨b, 6, none⟩ x5).setCell ⟨b, 7, none⟩ x6).setCell ⟨b, 8, none⟩ x7).setCell ⟨b, 9, none⟩ x8).setCell ⟨b, 10, none⟩ x9).setCell ⟨b, 11, none⟩ x10) b #[c0, x0, x1, x2, x3, x4, x5, x6, x7, x8, x9, x10, c12, c13, c14, c15, c16, c17] T := b10.st 11 x10
  have b12 : Blk ((((((((((((W.setCell ⟨b, 1, none⟩ x0).setCell ⟨b, 2, none⟩ x1).setCell ⟨b, 3, none⟩ x2).setCell ⟨b, 4, none⟩ x3).setCell ⟨b, 5, none⟩ x4).setCell ⟨b, 6, none⟩ x5).setCell ⟨b, 7, none⟩ x6).setCell ⟨b, 8, none⟩ x7).setCell ⟨b, 9, none⟩ x8).setCell ⟨b, 10, none⟩ x9).setCell ⟨b, 11, none⟩ x10).setCell ⟨b, 12, none⟩ x11) b #[c0, x0, x1, x2, x3, x4, x5, x6, x7, x8, x9, x10, x11, c13, c14, c15, c16, c17] T := b11.st 12 x11
  have b13 : Blk (((((((((((((W.setCell ⟨b, 1, none⟩ x0).setCell ⟨b, 2, none⟩ x1).setCell ⟨b, 3, none⟩ x2).setCell ⟨b, 4, none⟩ x3).setCell ⟨b, 5, none⟩ x4).setCell ⟨b, 6, none⟩ x5).setCell ⟨b, 7, none⟩ x6).setCell ⟨b, 8, none⟩ x7).setCell ⟨b, 9, none⟩ x8).setCell ⟨b, 10, none⟩ x9).setCell ⟨b, 11, none⟩ x10).setCell ⟨b, 12, none⟩ x11).setCell ⟨b, 13, none⟩ x12) b #[c0, x0, x1, x2, x3, x4, x5, x6, x7, x8, x9, x10, x11, x12, c14, c15, c16, c17] T := b12.st 13 x12
  have b14 : Blk ((((((((((((((W.setCell ⟨b, 1, none⟩ x0).setCell ⟨b, 2, none⟩ x1).setCell ⟨b, 3, none⟩ x2).setCell ⟨b, 4, none⟩ x3).setCell ⟨b, 5, none⟩ x4).setCell ⟨b, 6, none⟩ x5).setCell ⟨b, 7, none⟩ x6).setCell ⟨b, 8, none⟩ x7).setCell ⟨b, 9, none⟩ x8).setCell ⟨b, 10, none⟩ x9).setCell ⟨b, 11, none⟩ x10).setCell ⟨b, 12, none⟩ x11).setCell ⟨b, 13, none⟩ x12).setCell ⟨b, 14, none⟩ x13) b #[c0, x0, x1, x2, x3, x4, x5, x6, x7, x8, x9, x10, x11, x12, x13, c15, c16, c17] T := b13.st 14 x13
  exact b14.st 1 y
/-- a pulse has been appended to a row -/
def AppD (W : World) (tmp : Obj) (base : Nat) (v : Value) (xs : List Bool) (x : Bool) (wf : World) (v' : Value) : Prop :=
  (∃ g cap, v' = .slice (some ⟨g, 0, none⟩) (xs.length + 1) cap) ∧ (W.alloc tmp).grownBy wf v.ownBlock ∧ wf.ownsRow base 4 1 v' (xs.length + 1) (bv (xs ++ [x])) ∧ (v'.ownBlock = v.ownBlock ∨ v'.ownBlock = some (W.alloc tmp).heap.size)
theorem wpOpP_step {P : Program} {ops : Array Oper} {Q : Exit → Act → World → Prop} {i : Nat} {o : Oper} {K : Act → World → Prop} {a : Act} {w : World} (ho : ops[i]? = some o)
    (h : ∀ K' : Act → World → Prop, (∀ a w, K a w → K' a w) → if Region.wanted o (yielded ops a.tmps) = true then Oper.wp P o a w K' Q else K' (a.put o.dst undef) w) : wpOpP P ops Q i K a w := by
  have := h K (fun _ _ h => h)
  unfold wpOpP
  rw [ho]
  exact this
theorem wp_appD {P : Program} {w : World} {o : Oper} {act : Act} {K : Act → World → Prop} {Q : Exit → Act → World → Prop} (s x : Operand) (t : TypeId)
    (ho : o.op = .call { callee := .builtin .append, args := #[s, x], argTypes := #[t, t] })
    (e : TypeId) (i : TypeInfo) (z : Value) (bytes : Nat) (ht : P.underlying t = some (.slice e)) (hi : P.info? e = some i) (hz : i.zero = some z) (hs : i.size = 1) (hb : i.bytes = bytes) (hzs : z.cells.size = 1)
    (v : Value) (n B : Nat) (xs : List Value) (he : act.eval s = v) (hown : w.ownsRow B e 1 v n xs) (hB1 : B ≤ w.heap.size)
    (ad : Addr) (c : Nat) (u : Value) (hx : act.eval x = .slice (some ad) 1 c) (hu : w.cell? ad = some u) (h1 : u.oneCell' = true) (h63 : n + 1 ≤ maxLen) (hbytes : (n + 1) * bytes ≤ 140737488355328)
    (h : ∀ (v' : Value) (w' : World), w'.ownsRow B e 1 v' (n + 1) (xs ++ [u]) → w.grownBy w' v.ownBlock → (v'.ownBlock = v.ownBlock ∨ v'.ownBlock = some w.heap.size) → K (act.put o.dst v') w') : o.wp P act w K Q := by
  obtain ⟨v', w', hr, h2, h3, _, h5⟩ := run_append_own_at (P := P) w B t o.type e i z 1 bytes ht hi hz hs hb hzs (by decide) v n xs hown ad 1 c [u] rfl (fun j y hy => by
    cases j with
    | zero => cases hy; rw [show ad.add 0 = ad from by simp [Addr.add]]; exact hu
    | succ j => simp at hy) (fun y hy => by cases List.mem_singleton.1 hy; exact h1) h63 hbytes hB1
  have hk := h v' w' h2 h3 h5
  unfold Oper.wp execOp
  simp only [ho, resolve, invoke, builtin, Sem.run_bind, Sem.run_pure, Result.andThen_ok, List.map_toArray, List.map_cons, List.map_nil, he, hx, hr]
  exact hk
theorem Blk.stSame {W : World} {b i : Nat} {cs : Array Value} {T : TypeId} {v : Value} (h : Blk W b cs T) (hv : cs[i]? = some v) : Blk (W.setCell ⟨b, i, none⟩ v) b cs T := by
  have := h.st i v
  have e : cs.setIfInBounds i v = cs := by
    refine Array.ext (by simp) fun k h1 h2 => ?_
    rw [Array.getElem_setIfInBounds]
    split
    · rename_i e
      subst e
      rw [Array.getElem?_eq_getElem h2] at hv
      exact (Option.some.inj hv).symm
    · rfl
  rw [e] at this
  exact this
theorem Blk.sames {b : Nat} {T : TypeId} {A : Array Value} : ∀ (L : List Value) (o : Nat) (W : World), Blk W b A T → (∀ j v, L[j]? = some v → A[o + j]? = some v) → Blk (W.setCells b o L) b A T
  | [], _, _, h, _ => h
  | v :: r, o, W, h, hv => by
    rw [World.setCells]
    exact Blk.sames r (o + 1) _ (h.stSame (hv 0 v rfl)) (fun j u hj => by rw [show o + 1 + j = o + (j + 1) by omega]; exact hv (j + 1) u hj)
theorem OnlyB.sets {b : Nat} {W : World} : ∀ (L : List Value) (o : Nat) (W' : World), OnlyB b W W' → OnlyB b W (W'.setCells b o L)
  | [], _, _, h => h
  | v :: r, o, W', h => by
    rw [World.setCells]
    exact OnlyB.sets r (o + 1) _ (h.set o v)
/-- line i when N bits of a store have come -/
def lineU (st : List Int) (N i : Nat) : List Bool := (lineB st i).take (N - 384 * i)
theorem lineU_word {st : List Int} {k : Nat} (hk : k < 128) : lineU st (24 * k) (k / 16) ++ bitL (st[k]?.getD 0) 24 = lineU st (24 * (k + 1)) (k / 16) := by
  unfold lineU
  have hl := lineB_length st (k / 16)
  refine List.ext_getElem? fun i => ?_
  have hmin : min (24 * k - 384 * (k / 16)) (lineB st (k / 16)).length = 24 * k - 384 * (k / 16) := by omega
  by_cases h1 : i < 24 * k - 384 * (k / 16)
  · rw [List.getElem?_append_left (by rw [List.length_take]; omega), List.getElem?_take, List.getElem?_take, if_pos h1, if_pos (by omega)]
  · rw [List.getElem?_append_right (by rw [List.length_take]; omega), List.length_take, hmin]
    by_cases h2 : i < 24 * (k + 1) - 384 * (k / 16)
    · rw [List.getElem?_take, if_pos h2]
      unfold bitL upto
      rw [List.getElem?_map, List.getElem?_range (by omega)]
      have hg := lineB_get st (k / 16) (i := i) (by omega)
      obtain ⟨y, hy⟩ : ∃ y, (lineB st (k / 16))[i]? = some y := ⟨_, List.getElem?_eq_getElem (by omega)⟩
      rw [hy] at hg
      rw [hy]
      show some _ = some y
      congr 1
      show _ = (some y).getD false
      rw [hg, show k / 16 * 16 + i / 24 = k by omega, show i % 24 = i - (24 * k - 384 * (k / 16)) by omega]
    · rw [List.getElem?_eq_none (by unfold bitL; rw [upto_length]; omega), List.getElem?_eq_none (by rw [List.length_take]; omega)]
theorem lineU_other {st : List Int} {k i : Nat} (hi : i ≠ k / 16) : lineU st (24 * k) i = lineU st (24 * (k + 1)) i := by
  unfold lineU
  have hl := lineB_length st i
  by_cases h : i < k / 16
  · rw [List.take_of_length_le (by omega), List.take_of_length_le (by omega)]
  · rw [show 24 * k - 384 * i = 0 by omega, show 24 * (k + 1) - 384 * i = 0 by omega]
theorem ints_low {W4 W6 : World} {LB : Nat} {a : Option Addr} {xs : List Int} (h : IntsAt W4 a xs) (hs : W4.heap.size = LB + 1) (hL : Blk W4 LB #[.slice none 0 0, .slice none 0 0, .slice none 0 0, .slice none 0 0, .slice none 0 0, .slice none 0 0, .slice none 0 0, .slice none 0 0] 69) (hB : Below LB W4 W6) : IntsAt W6 a xs := by
  rcases h with h | ⟨b, off, ha, hb, hc⟩
  · exact .inl h
  · by_cases hx : xs = []
    · exact .inl hx
    have h0 : 0 < xs.length := List.length_pos_iff.2 hx
    have hbl : b < LB := by
      rcases Nat.lt_or_ge b LB with h1 | h1
      · exact h1
      · exfalso
        obtain rfl : b = LB := by omega
        have h2 := hc 0 h0
        have h3 : W4.heap[b]? = _ := hL
        simp only [World.cell?, h3] at h2
        have h4 := Array.mem_of_getElem? h2
        simp at h4
    exact .inr ⟨b, off, ha, by have := hB.size; omega, fun i hi => (hB.cell (p := ⟨b, off + i, none⟩) hbl).trans (hc i hi)⟩
theorem lines_up {W : World} {LB : Nat} {s : Pu} {vs : Nat → Value} (h : LinP W LB LB (lineU s.store (24 * 128)) vs) : LinesAt W (some ⟨LB, 0, none⟩) (bitsP s).lines := by
  refine .inr ⟨LB, 0, rfl, h.blk.lt, fun i hi => ?_⟩
  have hi8 : i < 8 := hi
  have hg : (bitsP s).lines[i]?.getD [] = lineB s.store i := by
    unfold bitsP
    rw [List.getElem?_map, List.getElem?_range hi8]
    rfl
  have hl := lineB_length s.store i
  have hu : lineU s.store (24 * 128) i = lineB s.store i := by unfold lineU; exact List.take_of_length_le (by omega)
  have hr := h.row i hi8
  rw [hu, hl] at hr
  have hc := h.cell hi8
  rw [hg, hl, Nat.zero_add]
  rcases hr.2 with ⟨_, h0⟩ | ⟨g, cap, cur, hv, hbg, hgb, hle, hmx, _, ht⟩
  · omega
  · refine ⟨some ⟨g, 0, none⟩, cap, by rw [hc, hv], ⟨hle, by unfold maxLen at hmx; omega⟩, .inr ⟨g, 0, rfl, lt_of_block hgb, fun k hk => ?_⟩⟩
    rw [hl] at hk
    refine cell_of_cells hgb (0 + k) ?_
    rw [Nat.zero_add]
    have e := bv_get (lineB s.store i) k (by omega)
    rw [← ht, List.getElem?_take, if_pos (by omega)] at e
    simpa using e
set_option maxRecDepth 100000 in
set_option maxHeartbeats 8000000 in
theorem bits_good (a1 a2 a3 : Option Addr) (n2 n3 c1 c2 c3 : Nat) (s : Pu) (w : World) (l2 : s.tape.length = n2) (l3 : s.printed.length = n3)
    (i1 : IntsAt w a1 s.store) (i2 : IntsAt w a2 s.tape) (i3 : IntsAt w a3 s.printed) (hz : checkP s = (0, 0, 0)) (hv : ValidP s) :
    Calls Try.prog 31 #[psv a1 a2 a3 128 c1 n2 c2 n3 c3 s] w (PbRes (bitsP s, 0) w) := by
  have hb : PuBd s := ⟨by rw [hv.len]; decide, Nat.le_trans hv.tlen (by decide), Nat.le_trans hv.plen (by decide)⟩
  have hpu : PuAt w (psv a1 a2 a3 128 c1 n2 c2 n3 c3 s) s := ⟨a1, a2, a3, c1, c2, c3, by rw [hv.len, l2, l3], i1, i2, i3⟩
  have hc := fun W (E : Ext w W) => pcheck_any (psv a1 a2 a3 128 c1 n2 c2 n3 c3 s) s W (hpu.ext E) hb
  rw [hz] at hc
  unfold v3 at hc
  have hop := fun W (E : Ext w W) => popen_ok a1 a2 a3 n2 n3 c1 c2 c3 s W hv.len l2 l3 (by have := hv.tlen; omega) (by have := hv.plen; omega) (i1.ext E) (i2.ext E) (i3.ext E) hv.order
  obtain ⟨i0, hi0, ha0, ha1, ha2⟩ := info_parts Try.infoB
  have HV := Lib.hid hv
  clear hv hb hpu hz
  refine (callsIn_wide (n := 9)).1 ?_
  refine callsIn_of_wp_marks Try.func31 rfl trivial ?_ rfl
  simp only [Try.ntmps31, List.size_toArray, List.length_cons, List.length_nil, Nat.reduceAdd, Nat.reduceSub, Array.replicate_succ, Array.replicate_zero, List.push_toArray, List.append_toArray, List.nil_append, List.cons_append]
  gi_wp2_with fail
  refine ⟨trivial, ?_⟩
  refine (callsIn_wide.2 (hc _ (by repeat (first | with_reducible exact Ext.refl _ | with_reducible refine Ext.alloc ?_ _ | with_reducible refine Below.drew ?_)))).mono ?_
  rintro e w1 ⟨rfl, E1⟩
  have PB := Blk.of E1.old
  have F1 : Ext w w1 := E1.old.old
  have q0 := Blk.c PB 0 (v := .slice a1 128 c1) rfl
  have q1 := Blk.c PB 1 (v := .slice a2 n2 c2) rfl
  have q2 := Blk.c PB 2 (v := .int .i64 s.taken) rfl
  have q3 := Blk.c PB 3 (v := .slice a3 n3 c3) rfl
  have q4 := Blk.c PB 4 (v := .int .i64 s.clock) rfl
  have q5 := Blk.c PB 5 (v := .int .i64 s.at_) rfl
  have q6 := Blk.c PB 6 (v := .int .i64 s.phase) rfl
  have q7 := Blk.c PB 7 (v := .int .i64 s.order) rfl
  have q8 := Blk.c PB 8 (v := .int .i64 s.operand) rfl
  have q9 := Blk.c PB 9 (v := .int .i64 s.other) rfl
  have q10 := Blk.c PB 10 (v := .int .i64 s.product) rfl
  have q11 := Blk.c PB 11 (v := .int .i64 s.count) rfl
  have q12 := Blk.c PB 12 (v := .int .i64 s.done) rfl
  have q13 := Blk.c PB 13 (v := .int .i64 s.why) rfl
  gi_wp2_with fail
  refine ⟨trivial, ?_⟩
  refine (callsIn_wide.2 (hop _ (by repeat (first | with_reducible exact F1 | with_reducible refine Ext.alloc ?_ _ | with_reducible refine Below.drew ?_)))).mono ?_
  rintro e w2 ⟨m, g1, cc1, tv, pv, rfl, M2, E2⟩
  obtain ⟨b2, d2, b3, d3, rfl, rfl, hPu⟩ := M2.pu
  rw [l2] at M2 hPu
  rw [l3] at M2 hPu
  have F2 := F1.comp E2
  have PB2 := PB.ex E2
  have RB2 := (Blk.of E1).ex E2
  rw [World.size_alloc] at RB2
  clear q0 q1 q2 q3 q4 q5 q6 q7 q8 q9 q10 q11 q12 q13 PB
  have r0 := M2.c 0 (v := .slice (some ⟨g1, 0, none⟩) 128 cc1) rfl
  have r1 := M2.c 1 (v := .slice b2 n2 d2) rfl
  have r2 := M2.c 2 (v := .int .i64 s.taken) rfl
  have r3 := M2.c 3 (v := .slice b3 n3 d3) rfl
  have r4 := M2.c 4 (v := .int .i64 s.clock) rfl
  have r5 := M2.c 5 (v := .int .i64 s.at_) rfl
  have r6 := M2.c 6 (v := .int .i64 s.phase) rfl
  have r7 := M2.c 7 (v := .int .i64 s.order) rfl
  have r8 := M2.c 8 (v := .int .i64 s.operand) rfl
  have r9 := M2.c 9 (v := .int .i64 s.other) rfl
  have r10 := M2.c 10 (v := .int .i64 s.product) rfl
  have r11 := M2.c 11 (v := .int .i64 s.count) rfl
  have r12 := M2.c 12 (v := .int .i64 s.done) rfl
  have r13 := M2.c 13 (v := .int .i64 s.why) rfl
  have f0 := Blk.f RB2 0
  have f1 := Blk.f RB2 1
  have f2 := Blk.f RB2 2
  have f3 := Blk.f RB2 3
  have f4 := Blk.f RB2 4
  have f5 := Blk.f RB2 5
  have f6 := Blk.f RB2 6
  have f7 := Blk.f RB2 7
  have f8 := Blk.f RB2 8
  have f9 := Blk.f RB2 9
  have f10 := Blk.f RB2 10
  have f11 := Blk.f RB2 11
  have f12 := Blk.f RB2 12
  have f13 := Blk.f RB2 13
  have f14 := Blk.f RB2 14
  have f15 := Blk.f RB2 15
  have f16 := Blk.f RB2 16
  have f17 := Blk.f RB2 17
  have z0 := Blk.c RB2 0 (v := .slice none 0 0) rfl
  have z1 := Blk.c RB2 1 (v := .slice none 0 0) rfl
  have z2 := Blk.c RB2 2 (v := .slice none 0 0) rfl
  have z3 := Blk.c RB2 3 (v := .int .i64 0) rfl
  have z4 := Blk.c RB2 4 (v := .slice none 0 0) rfl
  have z5 := Blk.c RB2 5 (v := .int .i64 0) rfl
  have z6 := Blk.c RB2 6 (v := .int .i64 0) rfl
  have z7 := Blk.c RB2 7 (v := .int .i64 0) rfl
  have z8 := Blk.c RB2 8 (v := .int .i64 0) rfl
  have z9 := Blk.c RB2 9 (v := .int .i64 0) rfl
  have z10 := Blk.c RB2 10 (v := .int .i64 0) rfl
  have z11 := Blk.c RB2 11 (v := .int .i64 0) rfl
  have z12 := Blk.c RB2 12 (v := .int .i64 0) rfl
  have z13 := Blk.c RB2 13 (v := .int .i64 0) rfl
  have z14 := Blk.c RB2 14 (v := .int .i64 0) rfl
  have z15 := Blk.c RB2 15 (v := .int .i64 0) rfl
  have z16 := Blk.c RB2 16 (v := .int .i64 0) rfl
  have z17 := Blk.c RB2 17 (v := .int .i64 0) rfl
  have p0 := Blk.c PB2 0 (v := .slice a1 128 c1) rfl
  have hz2 := RB2.lt
  have HM2 := Lib.hid M2
  have HPu := Lib.hid hPu
  have HRB := Lib.hid RB2
  have HPB := Lib.hid PB2
  clear M2 hPu RB2 PB2
  gi_wp2_with fail
  have o3 : OnlyB (w.heap.size + 1) w2 (((((((((((((((w2.setCell ⟨w.heap.size + 1, 1, none⟩ (.slice (some ⟨g1, 0, none⟩) 128 cc1)).setCell ⟨w.heap.size + 1, 2, none⟩ (.slice b2 n2 d2)).setCell ⟨w.heap.size + 1, 3, none⟩ (.int .i64 s.taken)).setCell ⟨w.heap.size + 1, 4, none⟩ (.slice b3 n3 d3)).setCell ⟨w.heap.size + 1, 5, none⟩ (.int .i64 s.clock)).setCell ⟨w.heap.size + 1, 6, none⟩ (.int .i64 s.at_)).setCell ⟨w.heap.size + 1, 7, none⟩ (.int .i64 s.phase)).setCell ⟨w.heap.size + 1, 8, none⟩ (.int .i64 s.order)).setCell ⟨w.heap.size + 1, 9, none⟩ (.int .i64 s.operand)).setCell ⟨w.heap.size + 1, 10, none⟩ (.int .i64 s.other)).setCell ⟨w.heap.size + 1, 11, none⟩ (.int .i64 s.product)).setCell ⟨w.heap.size + 1, 12, none⟩ (.int .i64 s.count)).setCell ⟨w.heap.size + 1, 13, none⟩ (.int .i64 s.done)).setCell ⟨w.heap.size + 1, 14, none⟩ (.int .i64 s.why)).setCell ⟨w.heap.size + 1, 1, none⟩ (.slice none 0 0)) := by
    repeat (first | with_reducible exact OnlyB.refl _ _ | with_reducible refine OnlyB.set ?_ _ _)
  have RB3 : Blk (((((((((((((((w2.setCell ⟨w.heap.size + 1, 1, none⟩ (.slice (some ⟨g1, 0, none⟩) 128 cc1)).setCell ⟨w.heap.size + 1, 2, none⟩ (.slice b2 n2 d2)).setCell ⟨w.heap.size + 1, 3, none⟩ (.int .i64 s.taken)).setCell ⟨w.heap.size + 1, 4, none⟩ (.slice b3 n3 d3)).setCell ⟨w.heap.size + 1, 5, none⟩ (.int .i64 s.clock)).setCell ⟨w.heap.size + 1, 6, none⟩ (.int .i64 s.at_)).setCell ⟨w.heap.size + 1, 7, none⟩ (.int .i64 s.phase)).setCell ⟨w.heap.size + 1, 8, none⟩ (.int .i64 s.order)).setCell ⟨w.heap.size + 1, 9, none⟩ (.int .i64 s.operand)).setCell ⟨w.heap.size + 1, 10, none⟩ (.int .i64 s.other)).setCell ⟨w.heap.size + 1, 11, none⟩ (.int .i64 s.product)).setCell ⟨w.heap.size + 1, 12, none⟩ (.int .i64 s.count)).setCell ⟨w.heap.size + 1, 13, none⟩ (.int .i64 s.done)).setCell ⟨w.heap.size + 1, 14, none⟩ (.int .i64 s.why)).setCell ⟨w.heap.size + 1, 1, none⟩ (.slice none 0 0)) (w.heap.size + 1) #[.slice none 0 0, .slice none 0 0, .slice b2 n2 d2, .int .i64 s.taken, .slice b3 n3 d3, .int .i64 s.clock, .int .i64 s.at_, .int .i64 s.phase, .int .i64 s.order, .int .i64 s.operand, .int .i64 s.other, .int .i64 s.product, .int .i64 s.count, .int .i64 s.done, .int .i64 s.why, .int .i64 0, .int .i64 0, .int .i64 0] 50 := HRB.out.now14 _ _ _ _ _ _ _ _ _ _ _ _ _ _ _
  obtain ⟨W3, hW3⟩ : ∃ W3 : World, W3 = (((((((((((((((w2.setCell ⟨w.heap.size + 1, 1, none⟩ (.slice (some ⟨g1, 0, none⟩) 128 cc1)).setCell ⟨w.heap.size + 1, 2, none⟩ (.slice b2 n2 d2)).setCell ⟨w.heap.size + 1, 3, none⟩ (.int .i64 s.taken)).setCell ⟨w.heap.size + 1, 4, none⟩ (.slice b3 n3 d3)).setCell ⟨w.heap.size + 1, 5, none⟩ (.int .i64 s.clock)).setCell ⟨w.heap.size + 1, 6, none⟩ (.int .i64 s.at_)).setCell ⟨w.heap.size + 1, 7, none⟩ (.int .i64 s.phase)).setCell ⟨w.heap.size + 1, 8, none⟩ (.int .i64 s.order)).setCell ⟨w.heap.size + 1, 9, none⟩ (.int .i64 s.operand)).setCell ⟨w.heap.size + 1, 10, none⟩ (.int .i64 s.other)).setCell ⟨w.heap.size + 1, 11, none⟩ (.int .i64 s.product)).setCell ⟨w.heap.size + 1, 12, none⟩ (.int .i64 s.count)).setCell ⟨w.heap.size + 1, 13, none⟩ (.int .i64 s.done)).setCell ⟨w.heap.size + 1, 14, none⟩ (.int .i64 s.why)).setCell ⟨w.heap.size + 1, 1, none⟩ (.slice none 0 0)) := ⟨_, rfl⟩
  rw [← hW3] at o3 RB3 ⊢
  clear hW3 r0 r1 r2 r3 r4 r5 r6 r7 r8 r9 r10 r11 r12 r13 p0
  clear z0 z1 z2 z3 z4 z5 z6 z7 z8 z9 z10 z11 z12 z13 z14 z15 z16 z17
  clear f0 f1 f2 f3 f4 f5 f6 f7 f8 f9 f10 f11 f12 f13 f14 f15 f16 f17
  have M3 := HM2.out.keep (o3.keep HRB.out (by decide) (by decide))
  have PB3 := o3.other HPB.out (by omega)
  have F3 : Ext w W3 := o3.ext F2 (by omega)
  have hz3 := RB3.lt
  have hz0 : w.heap.size < W3.heap.size := by omega
  have k0 := RB3.c 0 (v := .slice none 0 0) rfl
  have f0 := RB3.f 0
  have p0 := Blk.c PB3 0 (v := .slice a1 128 c1) rfl
  have hmk := fun (w : World) => show (Instr.makeSlice 48 (.int .i64 8) (.int .i64 8)).run Try.prog w = .ok (.slice (some ⟨w.heap.size, 0, none⟩) 8 8) (w.alloc (.cells #[.slice none 0 0, .slice none 0 0, .slice none 0 0, .slice none 0 0, .slice none 0 0, .slice none 0 0, .slice none 0 0, .slice none 0 0] 69)) from by kernel_rfl
  have HM3 := Lib.hid M3
  have HRB3 := Lib.hid RB3
  have HPB3 := Lib.hid PB3
  clear M3 RB3 PB3 o3
  rw [hmk]
  clear hmk
  gi_wp2_with fail
  have hLB : W3.heap.size < (W3.alloc (.cells #[.slice none 0 0] 69)).heap.size := by simp
  clear hLB
  have F4 : Ext w ((W3.setCell ⟨w.heap.size + 1, 0, none⟩ (.slice (some ⟨W3.heap.size, 0, none⟩) 8 8)).alloc (.cells #[.slice none 0 0, .slice none 0 0, .slice none 0 0, .slice none 0 0, .slice none 0 0, .slice none 0 0, .slice none 0 0, .slice none 0 0] 69)) := Ext.alloc (F3.setCell (p := ⟨w.heap.size + 1, 0, none⟩) (by show w.heap.size ≤ w.heap.size + 1; omega) _) _
  have RB4 := (HRB3.out.st 0 (.slice (some ⟨W3.heap.size, 0, none⟩) 8 8)).al (.cells #[.slice none 0 0, .slice none 0 0, .slice none 0 0, .slice none 0 0, .slice none 0 0, .slice none 0 0, .slice none 0 0, .slice none 0 0] 69)
  have PB4 := (HPB3.out.ot (m := w.heap.size + 1) (i := 0) (v := .slice (some ⟨W3.heap.size, 0, none⟩) 8 8) (by omega)).al (.cells #[.slice none 0 0, .slice none 0 0, .slice none 0 0, .slice none 0 0, .slice none 0 0, .slice none 0 0, .slice none 0 0, .slice none 0 0] 69)
  have M4 := (HM3.out.keep (((OnlyB.refl (w.heap.size + 1) W3).set 0 (.slice (some ⟨W3.heap.size, 0, none⟩) 8 8)).keep HRB3.out (by decide) (by decide))).ext ((Ext.refl _).alloc (.cells #[.slice none 0 0, .slice none 0 0, .slice none 0 0, .slice none 0 0, .slice none 0 0, .slice none 0 0, .slice none 0 0, .slice none 0 0] 69))
  have LB4 : Blk ((W3.setCell ⟨w.heap.size + 1, 0, none⟩ (.slice (some ⟨W3.heap.size, 0, none⟩) 8 8)).alloc (.cells #[.slice none 0 0, .slice none 0 0, .slice none 0 0, .slice none 0 0, .slice none 0 0, .slice none 0 0, .slice none 0 0, .slice none 0 0] 69)) W3.heap.size #[.slice none 0 0, .slice none 0 0, .slice none 0 0, .slice none 0 0, .slice none 0 0, .slice none 0 0, .slice none 0 0, .slice none 0 0] 69 := by
    have := Blk.nw (W3.setCell ⟨w.heap.size + 1, 0, none⟩ (.slice (some ⟨W3.heap.size, 0, none⟩) 8 8)) #[.slice none 0 0, .slice none 0 0, .slice none 0 0, .slice none 0 0, .slice none 0 0, .slice none 0 0, .slice none 0 0, .slice none 0 0] 69
    rw [size_set'] at this
    exact this
  obtain ⟨W4, hW4⟩ : ∃ W4 : World, W4 = (W3.setCell ⟨w.heap.size + 1, 0, none⟩ (.slice (some ⟨W3.heap.size, 0, none⟩) 8 8)).alloc (.cells #[.slice none 0 0, .slice none 0 0, .slice none 0 0, .slice none 0 0, .slice none 0 0, .slice none 0 0, .slice none 0 0, .slice none 0 0] 69) := ⟨_, rfl⟩
  have hs4 : W4.heap.size = W3.heap.size + 1 := by rw [hW4]; simp [World.setCell]
  rw [← hW4] at F4 RB4 PB4 M4 LB4 ⊢
  clear hW4 p0 k0 f0
  obtain ⟨LB, hLB⟩ : ∃ LB, LB = W3.heap.size := ⟨_, rfl⟩
  rw [← hLB] at RB4 LB4 hs4 ⊢
  have hLw : w.heap.size + 1 < LB := by omega
  clear hLB
  have L4 : LinP W4 LB LB (lineU s.store (24 * 0)) (fun _ => .slice none 0 0) := ⟨LB4, fun i _ => by
    have e : lineU s.store (24 * 0) i = [] := by unfold lineU; rw [show 24 * 0 - 384 * i = 0 by omega]; rfl
    rw [e]; exact World.ownsRow_nil _ _ _ _, fun i j q _ _ _ h => by cases h⟩
  have HM4 := Lib.hid M4
  have HRB4 := Lib.hid RB4
  have HPB4 := Lib.hid PB4
  clear M4 RB4 PB4 LB4
  have hlen := HV.out.len
  rcases i1 with i1 | ⟨b, off, rfl, hb, hcs⟩
  · rw [i1] at hlen; simp at hlen
  have HCS := Lib.hid hcs
  have HLen := Lib.hid hlen
  clear hcs hlen
  have HD := Lib.hid (And.intro hz2 (And.intro hz3 hz0))
  clear hz2 hz3 hz0
  refine wpIn_loop (fun a' W => ∃ (u0 u4 u5 u6 u8 u9 u10 u11 u12 u13 u14 u15 u16 u17 u18 u19 u20 u21 u22 u23 u24 u25 u26 u27 u28 u32 u33 u34 u35 u36 u37 u38 u39 u40 u41 u42 u52 : Value) (k : Nat) (Ds : List Nat) (vs : Nat → Value), k ≤ 128 ∧ a' = { tmps := #[u0, .pointer (some ⟨w.heap.size, 0, none⟩), .pointer (some ⟨w.heap.size + 1, 0, none⟩), .int .i64 0, u4, u5, u6, undef, u8, u9, u10, u11, u12, u13, u14, u15, u16, u17, u18, u19, u20, u21, u22, u23, u24, u25, u26, u27, u28, .slice (some ⟨b, off, none⟩) 128 c1, .int .i64 128, .int .i64 k, u32, u33, u34, u35, u36, u37, u38, u39, u40, u41, u42, undef, undef, undef, undef, undef, undef, undef, undef, undef, u52, undef], defers := Ds.map markD } ∧
      Marks LB W Ds ∧ Below LB W4 W ∧ LinP W LB LB (lineU s.store (24 * k)) vs) (fun a' _ => 128 - (intOf (a'.tmps.getD 31 undef)).toNat) ?_ ?_
  · exact ⟨_, _, _, _, _, _, _, _, _, _, _, _, _, _, _, _, _, _, _, _, _, _, _, _, _, _, _, _, _, _, _, _, _, _, _, _, _, 0, [], _, by omega, rfl, Marks.nil _ _, Below.refl _ _, L4⟩
  rintro a' W ⟨u0, u4, u5, u6, u8, u9, u10, u11, u12, u13, u14, u15, u16, u17, u18, u19, u20, u21, u22, u23, u24, u25, u26, u27, u28, u32, u33, u34, u35, u36, u37, u38, u39, u40, u41, u42, u52, k, Ds, vs, hk, rfl, hM, hBl, hLin⟩
  have HM := Lib.hid hM
  clear hM
  by_cases hlt : k < 128
  · as_aux_lemma =>
    have hltz : (k : Int) < 128 := by omega
    have hkd : (k : Int) / 16 < 8 := by omega
    have hk8 : k / 16 < 8 := by omega
    have EW : Ext w W := F4.trans (hBl.mono (by omega))
    have hcw := (EW.cell (p := ⟨b, off + k, none⟩) hb).trans (HCS.out k (by rw [HLen.out]; exact hlt))
    have rb := (hBl.block (w.heap.size + 1) hLw).trans HRB4.out
    have c0 := cell_of_cells rb 0 (v := .slice (some ⟨LB, 0, none⟩) 8 8) rfl
    have hxw := HV.out.word k hlt
    obtain ⟨X, hX⟩ : ∃ X, X = s.store[k]?.getD 0 := ⟨_, rfl⟩
    have HX := Lib.hid hX
    rw [← hX] at hcw hxw
    clear rb hX
    gi_wp2_with (refine ⟨trivial, ?_⟩; gi_at_call 69; refine (bits_in trivial rfl _ _).mono ?_; rintro e w' ⟨rfl, rfl⟩)
    have bl : Boxed ((W.alloc (.cells #[.pointer (some ⟨LB, k / 16, none⟩)] 102)).alloc (.cells #[.int .i64 X] 3)) W.heap.size 102 (.pointer (some ⟨LB, k / 16, none⟩)) := (Boxed.new W _ _).alloc _
    have bw := Boxed.new (W.alloc (.cells #[.pointer (some ⟨LB, k / 16, none⟩)] 102)) 3 (.int .i64 X)
    rw [World.size_alloc] at bw
    have e0 : Ext W ((W.alloc (.cells #[.pointer (some ⟨LB, k / 16, none⟩)] 102)).alloc (.cells #[.int .i64 X] 3)) := ((Ext.refl W).alloc _).alloc _
    have kf0 : KeepsFrom 0 W ((W.alloc (.cells #[.pointer (some ⟨LB, k / 16, none⟩)] 102)).alloc (.cells #[.int .i64 X] 3)) := ((KeepsOthers.alloc _ _).trans (KeepsOthers.alloc _ _)).from _
    obtain ⟨W0, hW0⟩ : ∃ W0, (W.alloc (.cells #[.pointer (some ⟨LB, k / 16, none⟩)] 102)).alloc (.cells #[.int .i64 X] 3) = W0 := ⟨_, rfl⟩
    have hs0 : W0.heap.size = W.heap.size + 2 := by rw [← hW0]; simp
    rw [hW0] at bl bw e0 kf0 ⊢
    clear hW0
    have L0 : LinP W0 LB LB (fun i => if i = k / 16 then lineU s.store (24 * k) (k / 16) ++ [] else lineU s.store (24 * k) i) vs := by
      have e : (fun i => if i = k / 16 then lineU s.store (24 * k) (k / 16) ++ [] else lineU s.store (24 * k) i) = lineU s.store (24 * k) := by
        funext i
        by_cases h : i = k / 16
        · rw [if_pos h, h, List.append_nil]
        · rw [if_neg h]
      rw [e]
      exact hLin.keep (fun q o hq _ => (e0.block q (Array.getElem?_eq_some_iff.1 hq).1).trans hq)
    have hLW : LB ≤ W.heap.size := by have := hBl.size; omega
    refine wpIn_rangeFunc_ownH rfl (by decide) (gf := 104) (lb := #[.pointer (some ⟨W.heap.size + 1, 0, none⟩)]) rfl trivial (enters_of Try.func104 (by kernel_rfl) rfl)
      (bits1_stops (F := Fence.wide) (n := 8) trivial rfl (by decide) (W.heap.size + 1) X hxw (fun q => q = W.heap.size + 1) rfl W0 (by omega) bw.cell) KS.trans (KS.put (by omega)) (Below.refl _ _) (fun _ => rfl)
      (fun (pre : List Bool) W' => (∃ vs, LinP W' LB LB (fun i => if i = k / 16 then lineU s.store (24 * k) (k / 16) ++ pre else lineU s.store (24 * k) i) vs) ∧ (Boxed W' W.heap.size 102 (.pointer (some ⟨LB, k / 16, none⟩)) ∧ Boxed W' (W.heap.size + 1) 3 (.int .i64 X)) ∧ (Below LB W W' ∧ KeepsFrom 0 W W'))
      (fun _ _ _ => False)
      (OwnFrom.and (Own.from (linP_own LB LB _) _) (OwnFrom.and (OwnFrom.and (Own.from (boxed_own _ _ (fun _ : List Bool => Value.pointer (some ⟨LB, k / 16, none⟩))) _) (Own.from (boxed_own _ _ (fun _ : List Bool => Value.int .i64 X)) _)) (OwnFrom.and (ownFrom_below hLW (by omega)) (ownFrom_keepsFrom (by omega)))))
      (fun _ _ _ _ _ hs _ _ => hs)
      ⟨⟨vs, L0⟩, ⟨bl, bw⟩, e0.mono hLW, kf0⟩
      (fun x a' _ => a' = { tmps := #[u0, .pointer (some ⟨w.heap.size, 0, none⟩), .pointer (some ⟨w.heap.size + 1, 0, none⟩), .int .i64 0, .int .i64 k, .int .i64 X, .pointer (some ⟨W.heap.size, 0, none⟩), .bool x, u8, u9, u10, u11, u12, u13, u14, u15, u16, u17, u18, u19, u20, u21, u22, u23, u24, u25, u26, u27, u28, .slice (some ⟨b, off, none⟩) 128 c1, .int .i64 128, .int .i64 k, .bool true, .int .i64 k, .pointer (some ⟨b, off + k, none⟩), .int .i64 X, .pointer (some ⟨w.heap.size + 1, 0, none⟩), .slice (some ⟨LB, 0, none⟩) 8 8, .int .i64 k, .int .i64 ((k : Int) / 16), .pointer (some ⟨LB, k / 16, none⟩), .int .i64 X, .func (.func 104) #[] #[.pointer (some ⟨W.heap.size + 1, 0, none⟩)], .bool x, undef, undef, undef, undef, undef, undef, undef, undef, u52, undef], defers := [] }) (fun _ _ _ _ _ _ hs _ _ => hs) ?assign ?body ?done ?stop
    case assign =>
      rintro l pre x W1 K hi hK
      gi_wp2
      exact hK _ _ (KeepsFrom.refl _ _) (KS.refl _ _) hi rfl
    case stop =>
      rintro D c' pre W1 _ _ h _
      exact h.elim
    case done =>
     as_aux_lemma =>
      rintro D ys W2 hD rfl ⟨⟨vs2, L2⟩, _, hBl2, hKF2⟩ hK
      have hf : (fun i => if i = k / 16 then lineU s.store (24 * k) (k / 16) ++ bitL X 24 else lineU s.store (24 * k) i) = lineU s.store (24 * (k + 1)) := by
        funext i
        by_cases h : i = k / 16
        · rw [if_pos h, h, HX.out]; exact lineU_word hlt
        · rw [if_neg h]; exact lineU_other h
      rw [hf] at L2
      clear hf
      have HD2 := Lib.hid hD
      clear hD hs0
      gi_wp2
      have hcast : (k : Int) + 1 = ((k + 1 : Nat) : Int) := by omega
      rw [hcast]
      have hD := HD2.out
      have hs0 := e0.size
      exact ⟨⟨_, _, _, _, _, _, _, _, _, _, _, _, _, _, _, _, _, _, _, _, _, _, _, _, _, _, _, _, _, _, _, _, _, _, _, _, _, k + 1, D :: Ds, vs2, by omega, rfl, HM.out.cons hKF2 (by omega) (by omega) hK, hBl.trans hBl2, L2⟩, by simp [intOf]; omega⟩
    case body =>
     as_aux_lemma =>
      rintro l pre x a' W1 hl ⟨r, hr⟩ ⟨⟨vs1, L1⟩, ⟨bl1, bw1⟩, hBl1, hKF1⟩ rfl hlt24
      have hl1 := (Array.getElem?_eq_some_iff.1 hr).1
      have hrow := L1.row (k / 16) hk8
      rw [if_pos rfl] at hrow
      have hlen384 : (lineU s.store (24 * k) (k / 16) ++ pre).length ≤ 384 := by
        rw [List.length_append]
        unfold lineU
        rw [List.length_take]
        omega
      have hcj := L1.cell hk8
      have hbl1 := bl1.cell
      obtain ⟨vj, hvj⟩ : ∃ v, v = vs1 (k / 16) := ⟨_, rfl⟩
      obtain ⟨xs, hxs⟩ : ∃ xs, xs = lineU s.store (24 * k) (k / 16) ++ pre := ⟨_, rfl⟩
      have HVj := Lib.hid hvj
      have HXs := Lib.hid hxs
      rw [← hvj] at hcj hrow
      rw [← hxs] at hrow hlen384
      clear hvj hxs
      have hform : ∃ aj cj, vj = .slice aj xs.length cj := by
        rcases hrow.2 with ⟨h1, h2⟩ | ⟨g, cap, cur, h1, _⟩
        · exact ⟨none, 0, by rw [h2]; exact h1⟩
        · exact ⟨_, _, h1⟩
      have hblr : some W.heap.size ≠ vj.ownBlock := bl1.not_row (by decide) hrow
      gi_wp2_with fail
      refine wpIn_region_closed (fun l a2 w2 => ∃ (q : Nat) (v' : Value), a2 = { tmps := #[u0, .pointer (some ⟨w.heap.size, 0, none⟩), .pointer (some ⟨w.heap.size + 1, 0, none⟩), .int .i64 0, .int .i64 k, .int .i64 X, .pointer (some ⟨W.heap.size, 0, none⟩), .bool x, u8, u9, u10, u11, u12, u13, u14, u15, u16, u17, u18, u19, u20, u21, u22, u23, u24, u25, u26, u27, u28, .slice (some ⟨b, off, none⟩) 128 c1, .int .i64 128, .int .i64 k, .bool true, .int .i64 k, .pointer (some ⟨b, off + k, none⟩), .int .i64 X, .pointer (some ⟨w.heap.size + 1, 0, none⟩), .slice (some ⟨LB, 0, none⟩) 8 8, .int .i64 k, .int .i64 ((k : Int) / 16), .pointer (some ⟨LB, k / 16, none⟩), .int .i64 X, .func (.func 104) #[] #[.pointer (some ⟨W.heap.size + 1, 0, none⟩)], .bool x, cond (l 0) (.pointer (some ⟨LB, k / 16, none⟩)) undef, cond (l 1) (.pointer (some ⟨LB, k / 16, none⟩)) undef, cond (l 2) (.pointer (some ⟨LB, k / 16, none⟩)) undef, cond (l 3) (vj) undef, cond (l 4) (.bool x) undef, cond (l 5) (.slice (some ⟨q, 0, none⟩) 1 1) undef, cond (l 6) (v') undef, cond (l 7) (.pointer (some ⟨LB, k / 16, none⟩)) undef, u52, undef], defers := [] } ∧
          (l 5 = false → w2 = W1.drew) ∧ (l 5 = true → l 6 = false → q = W1.heap.size ∧ w2 = W1.drew.alloc (.cells #[.bool x] 4)) ∧
          (l 6 = true → l 8 = false → AppD W1.drew (.cells #[.bool x] 4) LB vj xs x w2 v') ∧
          (l 8 = true → ∃ wf, AppD W1.drew (.cells #[.bool x] 4) LB vj xs x wf v' ∧ w2 = wf.setCell ⟨LB, k / 16, none⟩ v')) (by kernel_rfl) (by kernel_rfl) (by kernel_rfl) ?start ?step ?fin
      case start => exact ⟨0, undef, rfl, fun _ => rfl, nofun, nofun, nofun⟩
      case step =>
       as_aux_lemma =>
        intro l2 a2 w2 hI hcl i hi hl2 hw
        have hi2 : i < 9 := hi
        obtain ⟨q, v', rfl, hA, hB, hC, hD⟩ := hI
        have k8 : l2 8 = true → ((l2 0 = true ∧ l2 1 = true) ∧ l2 2 = true ∧ l2 3 = true) ∧ (l2 4 = true ∧ l2 5 = true) ∧ l2 6 = true ∧ l2 7 = true := fun h => by
          have c := hcl 8 h
          simp [Region.waits, Region.binds] at c
          simp [c]
        have k6 : l2 6 = true → l2 3 = true ∧ l2 5 = true := fun h => by
          have c := hcl 6 h
          simp [Region.waits, Region.binds] at c
          simp [c]
        have k5 : l2 5 = true → l2 4 = true := fun h => by
          have c := hcl 5 h
          simp [Region.waits, Region.binds] at c
          simp [c]
        have k3 : l2 3 = true → l2 2 = true := fun h => by
          have c := hcl 3 h
          simp [Region.waits, Region.binds] at c
          simp [c]
        have k2 : l2 2 = true → l2 1 = true := fun h => by
          have c := hcl 2 h
          simp [Region.waits, Region.binds] at c
          simp [c]
        have k7 : l2 7 = true → ((l2 0 = true ∧ l2 1 = true) ∧ l2 2 = true ∧ l2 3 = true) ∧ (l2 4 = true ∧ l2 5 = true) ∧ l2 6 = true := fun h => by
          have c := hcl 7 h
          simp [Region.waits, Region.binds] at c
          simp [c]
        have hcB : l2 8 = false → w2.cell? ⟨W.heap.size, 0, none⟩ = some (.pointer (some ⟨LB, k / 16, none⟩)) := fun h8 => by
          cases h6 : l2 6 with
          | true =>
            obtain ⟨_, hg, _, _⟩ := hC h6 h8
            exact (Boxed.kept (Boxed.alloc (show Boxed W1.drew W.heap.size 102 _ from bl1) (.cells #[.bool x] 4)) hg hblr).cell
          | false =>
            cases h5 : l2 5 with
            | true =>
              obtain ⟨_, rfl⟩ := hB h5 h6
              exact (Boxed.alloc (show Boxed W1.drew W.heap.size 102 _ from bl1) _).cell
            | false =>
              rw [hA h5]
              exact hbl1
        clear hcl
        have hi3 := hi2
        clear hi2 hi
        match i, hi3 with
        | 0, _ =>
          have h8 : l2 8 = false := by
            cases h : l2 8 with
            | false => rfl
            | true => have := k8 h; simp [hl2] at this
          have cf := hcB h8
          refine wpOpP_step rfl (fun K2 hK2 => ?_)
          rw [if_pos (by rfl)]
          go_simp
          exact hK2 _ _ ⟨q, v', (by simp), hA, hB, hC, hD⟩
        | 1, _ =>
          have h8 : l2 8 = false := by
            cases h : l2 8 with
            | false => rfl
            | true => have := k8 h; simp [hl2] at this
          have cf := hcB h8
          refine wpOpP_step rfl (fun K2 hK2 => ?_)
          rw [if_pos (by rfl)]
          go_simp
          exact hK2 _ _ ⟨q, v', (by simp), hA, hB, hC, hD⟩
        | 2, _ =>
          have h8 : l2 8 = false := by
            cases h : l2 8 with
            | false => rfl
            | true => have := k8 h; simp [hl2] at this
          simp [Region.waits, Region.binds] at hw
          refine wpOpP_step rfl (fun K2 hK2 => ?_)
          rw [if_pos (by rfl)]
          go_simp
          exact hK2 _ _ ⟨q, v', (by simp [hw]), hA, hB, hC, hD⟩
        | 3, _ =>
          have h8 : l2 8 = false := by
            cases h : l2 8 with
            | false => rfl
            | true => have := k8 h; simp [hl2] at this
          simp [Region.waits, Region.binds] at hw
          have h6 : l2 6 = false := by
            cases h : l2 6 with
            | false => rfl
            | true => have a := (k6 h).1; rw [hl2] at a; cases a
          have cf : w2.cell? ⟨LB, k / 16, none⟩ = some vj := by
            cases h5 : l2 5 with
            | true =>
              obtain ⟨_, rfl⟩ := hB h5 h6
              exact (World.cell?_of_block (w := W1) (a := ⟨LB, k / 16, none⟩) (Below.heap_alloc W1.drew _ _ L1.blk.lt)).trans hcj
            | false =>
              rw [hA h5]
              exact hcj
          obtain ⟨aj, cj, rfl⟩ := hform
          refine wpOpP_step rfl (fun K2 hK2 => ?_)
          rw [if_pos (by rfl)]
          go_simp
          exact hK2 _ _ ⟨q, v', (by simp [hw, k2 hw, h6]), hA, hB, hC, hD⟩
        | 4, _ =>
          have h8 : l2 8 = false := by
            cases h : l2 8 with
            | false => rfl
            | true => have := k8 h; simp [hl2] at this
          refine wpOpP_step rfl (fun K2 hK2 => ?_)
          rw [if_pos (by rfl)]
          go_simp
          exact hK2 _ _ ⟨q, v', (by simp), hA, hB, hC, hD⟩
        | 5, _ =>
          have h8 : l2 8 = false := by
            cases h : l2 8 with
            | false => rfl
            | true => have := k8 h; simp [hl2] at this
          simp [Region.waits, Region.binds] at hw
          have h6 : l2 6 = false := by
            cases h : l2 6 with
            | false => rfl
            | true => have a := (k6 h).2; rw [hl2] at a; cases a
          have hw2 := hA hl2
          subst hw2
          refine wpOpP_step rfl (fun K2 hK2 => ?_)
          rw [if_pos (by rfl)]
          go_simp
          exact hK2 _ _ ⟨W1.heap.size, v', (by simp [hl2, hw, h6]), (fun h => by simp at h), (fun _ _ => ⟨rfl, rfl⟩), (fun h => by simp [h6] at h), (fun h => by simp [h8] at h)⟩
        | 6, _ =>
          have h8 : l2 8 = false := by
            cases h : l2 8 with
            | false => rfl
            | true => have := k8 h; simp [hl2] at this
          simp [Region.waits, Region.binds] at hw
          obtain ⟨hq, hw2⟩ := hB (by simp [hw]) hl2
          subst hq hw2
          obtain ⟨aj, cj, hvj⟩ := hform
          have hvj2 : (.slice aj xs.length cj : Value) = vj := hvj.symm
          refine wpOpP_step rfl (fun K2 hK2 => ?_)
          rw [if_pos (by rfl)]
          refine wp_appD (.tmp 47) (.tmp 49) 69 rfl 4 i0 (.bool false) 1 Try.underlying69 hi0 ha0 ha1 ha2 rfl vj xs.length LB (bv xs) (by simp [Act.eval, hw]) (World.ownsRow.alloc (show W1.drew.ownsRow LB 4 1 vj xs.length (bv xs) from hrow) _) (by simp; omega) ⟨W1.heap.size, 0, none⟩ 1 (.bool x) (by simp [Act.eval, hw]) ?c1 rfl (by unfold maxLen; omega) (by omega) ?c2
          case c1 => exact (Boxed.new W1.drew 4 (.bool x)).cell
          case c2 =>
            intro v2 w3 h1 h2 h3
            obtain ⟨g, cap, hv2⟩ := ownsRow_succ h1
            exact hK2 _ _ ⟨W1.heap.size, v2, (by simp [Act.put, hw, k3 hw.1, k2 (k3 hw.1), k5 hw.2]), (fun h => by simp [hw] at h), (fun _ h => by simp at h), (fun _ _ => ⟨⟨g, cap, hv2⟩, h2, by rw [← bv_app]; exact h1, h3⟩), (fun h => by simp [h8] at h)⟩
        | 7, _ =>
          have h8 : l2 8 = false := by
            cases h : l2 8 with
            | false => rfl
            | true => have := k8 h; simp [hl2] at this
          simp [Region.waits, Region.binds] at hw
          refine wpOpP_step rfl (fun K2 hK2 => ?_)
          rw [if_pos (by rfl)]
          go_simp
          exact hK2 _ _ ⟨q, v', (by simp [hw]), hA, hB, hC, hD⟩
        | 8, _ =>
          simp [Region.waits, Region.binds] at hw
          have hl6 : l2 6 = true := by simp [hw]
          have hAp := hC hl6 hl2
          obtain ⟨⟨g, cap, rfl⟩, hg, ho, hat⟩ := hAp
          have hnb := L1.nb hk8
          rw [← HVj.out] at hnb
          have bLB : Blk w2 LB #[vs1 0, vs1 1, vs1 2, vs1 3, vs1 4, vs1 5, vs1 6, vs1 7] 69 := (hg.block LB (by have := L1.blk.lt; simp; omega) (fun e => hnb e.symm)).trans ((Below.heap_alloc W1.drew _ _ L1.blk.lt).trans L1.blk)
          have cf : w2.cell? ⟨LB, k / 16, none⟩ = some vj := by
            rw [HVj.out]
            refine bLB.c (k / 16) ?_
            generalize k / 16 = j at hk8
            match j, hk8 with
            | 0, _ | 1, _ | 2, _ | 3, _ | 4, _ | 5, _ | 6, _ | 7, _ => rfl
          have ff := bLB.f (k / 16)
          refine wpOpP_step rfl (fun K2 hK2 => ?_)
          rw [if_pos (by rfl)]
          go_simp
          exact hK2 _ _ ⟨q, _, (by simp [hw]), (fun h => by simp [hw] at h), (fun _ h => by simp [hl6] at h), (fun _ h => by simp at h), (fun _ => ⟨w2, ⟨⟨g, cap, rfl⟩, hg, ho, hat⟩, rfl⟩)⟩
      case fin =>
       as_aux_lemma =>
        intro l2 a2 w2 hI hall
        obtain ⟨q, v', rfl, _, _, _, hD⟩ := hI
        obtain ⟨wf, ⟨_, hg, ho, hat⟩, rfl⟩ := hD (hall 8 (by decide))
        have hLd : LinP W1.drew LB LB (fun i => if i = k / 16 then lineU s.store (24 * k) (k / 16) ++ pre else lineU s.store (24 * k) i) vs1 := L1.keep (fun _ _ h _ => h)
        have L' := LinP.put (x := x) hLd hk8 (by rw [← HVj.out]; exact hg) (by
          show wf.ownsRow LB 4 1 v' ((if k / 16 = k / 16 then lineU s.store (24 * k) (k / 16) ++ pre else lineU s.store (24 * k) (k / 16)).length + 1) (bv ((if k / 16 = k / 16 then lineU s.store (24 * k) (k / 16) ++ pre else lineU s.store (24 * k) (k / 16)) ++ [x]))
          rw [if_pos rfl, ← HXs.out]; exact ho) (by rw [← HVj.out]; exact hat)
        have hF : (fun i => if i = k / 16 then (fun i => if i = k / 16 then lineU s.store (24 * k) (k / 16) ++ pre else lineU s.store (24 * k) i) (k / 16) ++ [x] else (fun i => if i = k / 16 then lineU s.store (24 * k) (k / 16) ++ pre else lineU s.store (24 * k) i) i) = fun i => if i = k / 16 then lineU s.store (24 * k) (k / 16) ++ (pre ++ [x]) else lineU s.store (24 * k) i := by
          funext i
          by_cases h : i = k / 16
          · simp only [h, if_true, List.append_assoc]
          · simp only [if_neg h]
        rw [hF] at L'
        have hlt1 := L1.blk.lt
        have hWlt := bw1.lt
        have hLW2 := hLin.blk.lt
        have hcl : ∀ (r : Nat) (o : Obj), vj.ownBlock = some r → (W1.drew.alloc (.cells #[.bool x] 4)).heap[r]? = some o → o.isCells = true := fun r o e hr => by
          have ho1 : (W1.drew.alloc (.cells #[.bool x] 4)).ownsRow LB 4 1 vj xs.length (bv xs) := World.ownsRow.alloc (show W1.drew.ownsRow LB 4 1 vj xs.length (bv xs) from hrow) _
          rcases ho1.2 with ⟨h1, _⟩ | ⟨g, cp, cur, h1, _, h2, _⟩
          · rw [h1] at e; cases e
          · rw [h1] at e
            obtain rfl : g = r := by simpa [Value.ownBlock] using e
            rw [h2] at hr; cases hr; rfl
        have ko : KeepsOthers W1 (wf.setCell ⟨LB, k / 16, none⟩ v') := (((KeepsOthers.drew W1).trans (KeepsOthers.alloc _ _)).trans (KeepsOthers.of_grownBy hg hcl)).trans (KeepsOthers.setCell _ _ _)
        have hbl' : Below LB W1 (wf.setCell ⟨LB, k / 16, none⟩ v') := ((((Below.refl LB W1).drew).alloc (by show LB ≤ W1.heap.size; omega) (.cells #[.bool x] 4)).grown hg (by simp; omega) (fun r e => (own_at hrow e).1)).setCell (p := ⟨LB, k / 16, none⟩) (Nat.le_refl _) _
        have hbwr : some (W.heap.size + 1) ≠ vj.ownBlock := bw1.not_row (by decide) hrow
        have b1 : Boxed wf W.heap.size 102 (.pointer (some ⟨LB, k / 16, none⟩)) := Boxed.kept (Boxed.alloc (show Boxed W1.drew W.heap.size 102 _ from bl1) (.cells #[.bool x] 4)) hg hblr
        have b2 : Boxed wf (W.heap.size + 1) 3 (.int .i64 X) := Boxed.kept (Boxed.alloc (show Boxed W1.drew (W.heap.size + 1) 3 _ from bw1) (.cells #[.bool x] 4)) hg hbwr
        have ks : KS (fun q => q = W.heap.size + 1) W1 (wf.setCell ⟨LB, k / 16, none⟩ v') := fun r hr => by
          subst hr
          exact (Below.heap_setCell _ _ _ _ (by show W.heap.size + 1 ≠ LB; omega)).trans ((hg.block _ (by simp; omega) hbwr).trans (Below.heap_alloc W1.drew _ _ hWlt))
        exact ⟨ko.from _, ks, ⟨_, L'⟩, ⟨(Below.heap_setCell _ _ _ _ (by show W.heap.size ≠ LB; omega)).trans b1, (Below.heap_setCell _ _ _ _ (by show W.heap.size + 1 ≠ LB; omega)).trans b2⟩, hBl1.trans hbl', hKF1.trans (ko.from _)⟩
  · as_aux_lemma =>
    have hltz : ¬ (k : Int) < 128 := by omega
    obtain rfl : k = 128 := by omega
    have rb : Blk W (w.heap.size + 1) ([.slice (some ⟨LB, 0, none⟩) 8 8, .slice none 0 0, .slice b2 n2 d2, .int .i64 s.taken, .slice b3 n3 d3, .int .i64 s.clock, .int .i64 s.at_, .int .i64 s.phase, .int .i64 s.order, .int .i64 s.operand, .int .i64 s.other, .int .i64 s.product, .int .i64 s.count, .int .i64 s.done, .int .i64 s.why, .int .i64 0, .int .i64 0, .int .i64 0] : List Value).toArray 50 := (hBl.block (w.heap.size + 1) hLw).trans HRB4.out
    have hra : W.rangeAt (w.heap.size + 1) 0 ([.slice (some ⟨LB, 0, none⟩) 8 8, .slice none 0 0, .slice b2 n2 d2, .int .i64 s.taken, .slice b3 n3 d3, .int .i64 s.clock, .int .i64 s.at_, .int .i64 s.phase, .int .i64 s.order, .int .i64 s.operand, .int .i64 s.other, .int .i64 s.product, .int .i64 s.count, .int .i64 s.done, .int .i64 s.why, .int .i64 0, .int .i64 0, .int .i64 0] : List Value) := fun j v hv => by rw [Nat.zero_add]; exact rb.c j (by simpa using hv)
    have hth : W.there (w.heap.size + 1) 0 18 := fun j hj => by
      rw [Nat.zero_add]
      refine ⟨?_, rb.f j⟩
      have hjl : j < ([.slice (some ⟨LB, 0, none⟩) 8 8, .slice none 0 0, .slice b2 n2 d2, .int .i64 s.taken, .slice b3 n3 d3, .int .i64 s.clock, .int .i64 s.at_, .int .i64 s.phase, .int .i64 s.order, .int .i64 s.operand, .int .i64 s.other, .int .i64 s.product, .int .i64 s.count, .int .i64 s.done, .int .i64 s.why, .int .i64 0, .int .i64 0, .int .i64 0] : List Value).toArray.size := hj
      rw [rb.c j (Array.getElem?_eq_getElem hjl)]
      rfl
    have HRa := Lib.hid hra
    have HTh := Lib.hid hth
    have HLn := Lib.hid hLin
    have HBl := Lib.hid hBl
    have HRB5 := Lib.hid rb
    clear hLin hBl rb hra hth
    refine wpIn_wide.2 ?_
    go_wp2_with fail
    refine wpIn_wide.2 ?_
    go_step
    go_step
    refine wpList_load_mid rfl 50 (.tmp 2) rfl (w.heap.size + 1) 0 rfl [.slice (some ⟨LB, 0, none⟩) 8 8, .slice none 0 0, .slice b2 n2 d2, .int .i64 s.taken, .slice b3 n3 d3, .int .i64 s.clock, .int .i64 s.at_, .int .i64 s.phase, .int .i64 s.order, .int .i64 s.operand, .int .i64 s.other, .int .i64 s.product, .int .i64 s.count, .int .i64 s.done, .int .i64 s.why, .int .i64 0, .int .i64 0, .int .i64 0] _ HRa.out Try.underlying50 rfl (by kernel_rfl) ?_
    dsimp only [Act.put, List.toArray]
    refine wpList_store_mid rfl 50 (.tmp 2) (.tmp 53) rfl (w.heap.size + 1) 0 #[.slice (some ⟨LB, 0, none⟩) 8 8, .slice none 0 0, .slice b2 n2 d2, .int .i64 s.taken, .slice b3 n3 d3, .int .i64 s.clock, .int .i64 s.at_, .int .i64 s.phase, .int .i64 s.order, .int .i64 s.operand, .int .i64 s.other, .int .i64 s.product, .int .i64 s.count, .int .i64 s.done, .int .i64 s.why, .int .i64 0, .int .i64 0, .int .i64 0] rfl rfl HTh.out (by kernel_rfl) (by simp [Value.oneCell']) ?_
    have o5 : OnlyB (w.heap.size + 1) W (W.setCells (w.heap.size + 1) 0 [.slice (some ⟨LB, 0, none⟩) 8 8, .slice none 0 0, .slice b2 n2 d2, .int .i64 s.taken, .slice b3 n3 d3, .int .i64 s.clock, .int .i64 s.at_, .int .i64 s.phase, .int .i64 s.order, .int .i64 s.operand, .int .i64 s.other, .int .i64 s.product, .int .i64 s.count, .int .i64 s.done, .int .i64 s.why, .int .i64 0, .int .i64 0, .int .i64 0]) := OnlyB.sets _ _ _ (OnlyB.refl _ _)
    have rb5 : Blk (W.setCells (w.heap.size + 1) 0 [.slice (some ⟨LB, 0, none⟩) 8 8, .slice none 0 0, .slice b2 n2 d2, .int .i64 s.taken, .slice b3 n3 d3, .int .i64 s.clock, .int .i64 s.at_, .int .i64 s.phase, .int .i64 s.order, .int .i64 s.operand, .int .i64 s.other, .int .i64 s.product, .int .i64 s.count, .int .i64 s.done, .int .i64 s.why, .int .i64 0, .int .i64 0, .int .i64 0]) (w.heap.size + 1) #[.slice (some ⟨LB, 0, none⟩) 8 8, .slice none 0 0, .slice b2 n2 d2, .int .i64 s.taken, .slice b3 n3 d3, .int .i64 s.clock, .int .i64 s.at_, .int .i64 s.phase, .int .i64 s.order, .int .i64 s.operand, .int .i64 s.other, .int .i64 s.product, .int .i64 s.count, .int .i64 s.done, .int .i64 s.why, .int .i64 0, .int .i64 0, .int .i64 0] 50 := Blk.sames _ _ _ HRB5.out (fun j v hv => by rw [Nat.zero_add]; simpa using hv)
    obtain ⟨W5, hW5⟩ : ∃ W5 : World, W5 = W.setCells (w.heap.size + 1) 0 [.slice (some ⟨LB, 0, none⟩) 8 8, .slice none 0 0, .slice b2 n2 d2, .int .i64 s.taken, .slice b3 n3 d3, .int .i64 s.clock, .int .i64 s.at_, .int .i64 s.phase, .int .i64 s.order, .int .i64 s.operand, .int .i64 s.other, .int .i64 s.product, .int .i64 s.count, .int .i64 s.done, .int .i64 s.why, .int .i64 0, .int .i64 0, .int .i64 0] := ⟨_, rfl⟩
    rw [← hW5] at o5 rb5
    show wpList _ _ _ _ _ (W.setCells (w.heap.size + 1) 0 [.slice (some ⟨LB, 0, none⟩) 8 8, .slice none 0 0, .slice b2 n2 d2, .int .i64 s.taken, .slice b3 n3 d3, .int .i64 s.clock, .int .i64 s.at_, .int .i64 s.phase, .int .i64 s.order, .int .i64 s.operand, .int .i64 s.other, .int .i64 s.product, .int .i64 s.count, .int .i64 s.done, .int .i64 s.why, .int .i64 0, .int .i64 0, .int .i64 0])
    rw [← hW5]
    clear hW5
    go_wp2_with fail
    have hM5 : Marks LB W5 Ds := ⟨HM.out.nodup, fun D hD => ⟨(HM.out.at_ D hD).1, (o5.block D (Array.getElem?_eq_some_iff.1 (HM.out.at_ D hD).2).1 (fun e => by
      cases e
      have h1 := (HM.out.at_ _ hD).2
      rw [HRB5.out] at h1
      cases h1)).trans (HM.out.at_ D hD).2⟩⟩
    refine leaves_marks (b := LB) Ds _ hM5 fun W6 hW6 => ?_
    have rb6 : Blk W6 (w.heap.size + 1) #[.slice (some ⟨LB, 0, none⟩) 8 8, .slice none 0 0, .slice b2 n2 d2, .int .i64 s.taken, .slice b3 n3 d3, .int .i64 s.clock, .int .i64 s.at_, .int .i64 s.phase, .int .i64 s.order, .int .i64 s.operand, .int .i64 s.other, .int .i64 s.product, .int .i64 s.count, .int .i64 s.done, .int .i64 s.why, .int .i64 0, .int .i64 0, .int .i64 0] 50 := hW6.cells _ _ rb5 rfl
    have z0 := Blk.c rb6 0 (v := .slice (some ⟨LB, 0, none⟩) 8 8) rfl
    have z1 := Blk.c rb6 1 (v := .slice none 0 0) rfl
    have z2 := Blk.c rb6 2 (v := .slice b2 n2 d2) rfl
    have z3 := Blk.c rb6 3 (v := .int .i64 s.taken) rfl
    have z4 := Blk.c rb6 4 (v := .slice b3 n3 d3) rfl
    have z5 := Blk.c rb6 5 (v := .int .i64 s.clock) rfl
    have z6 := Blk.c rb6 6 (v := .int .i64 s.at_) rfl
    have z7 := Blk.c rb6 7 (v := .int .i64 s.phase) rfl
    have z8 := Blk.c rb6 8 (v := .int .i64 s.order) rfl
    have z9 := Blk.c rb6 9 (v := .int .i64 s.operand) rfl
    have z10 := Blk.c rb6 10 (v := .int .i64 s.other) rfl
    have z11 := Blk.c rb6 11 (v := .int .i64 s.product) rfl
    have z12 := Blk.c rb6 12 (v := .int .i64 s.count) rfl
    have z13 := Blk.c rb6 13 (v := .int .i64 s.done) rfl
    have z14 := Blk.c rb6 14 (v := .int .i64 s.why) rfl
    have z15 := Blk.c rb6 15 (v := .int .i64 0) rfl
    have z16 := Blk.c rb6 16 (v := .int .i64 0) rfl
    have z17 := Blk.c rb6 17 (v := .int .i64 0) rfl
    have E45 : Below LB W4 W := HBl.out
    have EW6 : Ext w W6 := (o5.ext (F4.trans (E45.mono (by omega))) (by omega)).trans (hW6.below.mono (by omega))
    refine ⟨.tuple #[pbv (some ⟨LB, 0, none⟩) none b2 b3 8 8 0 0 n2 d2 n3 d3 (bitsP s), .int .i64 0], ?_, _, rfl, ?_, EW6⟩
    · simp [results, Try.f31, go_sem, z0, z1, z2, z3, z4, z5, z6, z7, z8, z9, z10, z11, z12, z13, z14, z15, z16, z17]
      repeat (first | rfl | refine ⟨rfl, ?_⟩)
    · have hL5 := HLn.out.keep (W' := W6) (fun q o hq ho => by
        by_cases hqb : q = w.heap.size + 1
        · subst hqb
          exact rb6.trans (Eq.trans (Eq.symm HRB5.out) hq)
        · exact hW6.cells q o ((o5.block q (Array.getElem?_eq_some_iff.1 hq).1 (fun e => hqb (by cases e; rfl))).trans hq) ho)
      have low5 : Below LB W W5 := ⟨o5.os, o5.tape, o5.output, o5.size, fun q hq => by
        by_cases e : q = w.heap.size + 1
        · subst e; exact Eq.trans rb5 (Eq.symm HRB5.out)
        · exact o5.block q (by have := HLn.out.blk.lt; omega) (fun c => e (by cases c; rfl))⟩
      have h46 : Below LB W4 W6 := (E45.trans low5).trans hW6.below
      obtain ⟨x2, y2, hx2, j2⟩ := HM4.out.tape
      have hp := HM4.out.prow
      rw [l3] at hp
      have j3 := own_ints hp
      obtain rfl : b2 = x2 := by cases hx2; rfl
      have kk2 := ints_low j2 hs4 L4.blk h46
      have kk3 := ints_low j3 hs4 L4.blk h46
      exact ⟨some ⟨LB, 0, none⟩, none, b2, b3, 8, 0, d2, d3, by rw [← l2, ← l3]; rfl, lines_up hL5, .inl rfl, kk2, kk3⟩
end Go.Proofs.Ytjfggepgjpdebaa

/- How line.Read leaves: marks, and the call that catches a panic. -/
import Derived.Test.YtkkchoinfdfiaaaLR2
import Derived.RangeFuncLeaves
set_option linter.unusedVariables false
set_option linter.unusedSimpArgs false
namespace Go.Q
open Go.RowKit
/-- the mark of a range over a function whose rounds deferred nothing -/
def markL (D : Nat) : Deferred := { target := .collected D, args := #[] }
/-- marks at blocks of the call's own -/
structure MarksL (b : Nat) (W : World) (Ds : List Nat) : Prop where
  nodup : Ds.Nodup
  at_ : ∀ D ∈ Ds, b ≤ D ∧ W.heap[D]? = some (.deferred (some []))
theorem MarksL.nil (b : Nat) (W : World) : MarksL b W [] := ⟨List.nodup_nil, nofun⟩
/-- a world in which the marks still lie, and one more -/
theorem MarksL.cons {b D : Nat} {w W : World} {Ds : List Nat} (h : MarksL b w Ds) (hk : ∀ E : Nat, w.heap[E]? = some (Obj.deferred (some [])) → W.heap[E]? = some (Obj.deferred (some []))) (hD : w.heap.size ≤ D) (hb : b ≤ D) (hW : W.heap[D]? = some (.deferred (some []))) : MarksL b W (D :: Ds) :=
  ⟨List.nodup_cons.2 ⟨fun hm => by
      have := (Array.getElem?_eq_some_iff.1 (h.at_ D hm).2).1
      omega, h.nodup⟩, fun E hE => by
    rcases List.mem_cons.1 hE with rfl | hE
    · exact ⟨hb, hW⟩
    · obtain ⟨h1, h2⟩ := h.at_ E hE
      exact ⟨h1, hk E h2⟩⟩
theorem MarksL.keep {b : Nat} {w W : World} {Ds : List Nat} (h : MarksL b w Ds) (hk : ∀ E : Nat, w.heap[E]? = some (Obj.deferred (some [])) → W.heap[E]? = some (Obj.deferred (some []))) : MarksL b W Ds :=
  ⟨h.nodup, fun E hE => ⟨(h.at_ E hE).1, hk E (h.at_ E hE).2⟩⟩
/-- what the marks' turn leaves -/
structure ShutL (b : Nat) (W W' : World) : Prop where
  below : Below b W W'
  cells : ∀ (k : Nat) (o : Obj), W.heap[k]? = some o → o.isCells = true → W'.heap[k]? = some o
theorem leaves_marksL {F : Fence} {n : Nat} {P : Program} {fn : Func} {tmps : Array Value} {R : Ending → World → Prop} {b : Nat} {u : FrameMode} (hu : u ≠ .run) {ds : List Deferred} : ∀ (Ds : List Nat) (W : World), MarksL b W Ds → (∀ W', ShutL b W W' → LeavesInM F n P fn tmps R ds u W') → LeavesInM F n P fn tmps R (Ds.map markL ++ ds) u W
  | [], W, _, h => h W ⟨Below.refl _ _, fun _ _ h _ => h⟩
  | D :: Ds, W, hM, h => by
    obtain ⟨hb, hD⟩ := hM.at_ D (List.mem_cons_self ..)
    have hlt := (Array.getElem?_eq_some_iff.1 hD).1
    have hn := List.nodup_cons.1 hM.nodup
    refine ⟨hu, .inl ⟨D, _, rfl, run_takeDeferred hD, ?_⟩⟩
    refine leaves_marksL (b := b) hu Ds _ ⟨hn.2, fun E hE => ?_⟩ fun W' hW' => h W' ⟨?_, fun k o hk ho => ?_⟩
    · obtain ⟨h1, h2⟩ := hM.at_ E (List.mem_cons_of_mem _ hE)
      exact ⟨h1, (World.putObj_heap_other (fun e => hn.1 (by subst e; exact hE))).trans h2⟩
    · exact ((Below.refl b W).grown (grownBy_putObj' W D _) (by omega) (fun k e => by cases e; exact hb)).trans hW'.below
    · refine hW'.cells k o ((World.putObj_heap_other (fun e => ?_)).trans hk) ho
      subst e
      rw [hD] at hk
      cases hk
      cases ho
end Go.Q
namespace Go.Proofs.Ytkkchoinfdfiaaa
open Go.RowKit Go.Q Go.Shelf Go.Maps

/-- the call that catches a panic -/
def catchD (b0 : Nat) : Deferred := { target := .fn (.func 81) #[.pointer (some ⟨b0, 0, none⟩), .pointer (some ⟨b0 + 1, 0, none⟩), .pointer (some ⟨b0 + 1 + 1, 0, none⟩), .pointer (some ⟨b0 + 1 + 1 + 1, 0, none⟩)], args := #[] }
/-- what Read returns -/
def ReadRes (r : Int × Int × List Int × Int) (w : World) (e : Ending) (w' : World) : Prop := ∃ a c, e = .returned (.tuple #[.int .i64 r.1, .int .i64 r.2.1, .slice a r.2.2.1.length c, .int .i64 r.2.2.2]) ∧ IntsAt w' a r.2.2.1 ∧ Ext w w'
/-- the boxes of the results -/
structure ResB (W : World) (b0 : Nat) (v0 v1 v2 v3 : Value) : Prop where
  c0 : W.heap[b0]? = some (.cells #[v0] 3 (0, 0))
  c1 : W.heap[b0 + 1]? = some (.cells #[v1] 3 (0, 0))
  c2 : W.heap[b0 + 1 + 1]? = some (.cells #[v2] 26 (0, 0))
  c3 : W.heap[b0 + 1 + 1 + 1]? = some (.cells #[v3] 27 (0, 0))
theorem ResB.ext {W W' : World} {b0 : Nat} {v0 v1 v2 v3 : Value} (h : ResB W b0 v0 v1 v2 v3) (E : Ext W W') : ResB W' b0 v0 v1 v2 v3 :=
  ⟨(E.block _ (Array.getElem?_eq_some_iff.1 h.c0).1).trans h.c0, (E.block _ (Array.getElem?_eq_some_iff.1 h.c1).1).trans h.c1, (E.block _ (Array.getElem?_eq_some_iff.1 h.c2).1).trans h.c2, (E.block _ (Array.getElem?_eq_some_iff.1 h.c3).1).trans h.c3⟩
theorem leaves_bad {n : Nat} {tmps : Array Value} {w W : World} {x : Int} {v0 v1 v2 v3 : Value} (Ds : List Nat) (hM : MarksL w.heap.size W Ds) (hB : ResB W w.heap.size v0 v1 v2 v3) (hE : Ext w W)
    (t2 : tmps.getD 2 undef = .pointer (some ⟨w.heap.size, 0, none⟩)) (t3 : tmps.getD 3 undef = .pointer (some ⟨w.heap.size + 1, 0, none⟩)) (t4 : tmps.getD 4 undef = .pointer (some ⟨w.heap.size + 1 + 1, 0, none⟩)) (t5 : tmps.getD 5 undef = .pointer (some ⟨w.heap.size + 1 + 1 + 1, 0, none⟩)) :
    LeavesInM Fence.wide n Try.prog Try.f51 tmps (ReadRes (0, 0, [], x) w) (Ds.map markL ++ [catchD w.heap.size]) (.panicking (errP x)) W := by
  refine leaves_marksL (by simp) Ds W hM fun W' hS => ?_
  have d0 := hS.cells _ _ hB.c0 rfl
  have d1 := hS.cells _ _ hB.c1 rfl
  have d2 := hS.cells _ _ hB.c2 rfl
  have d3 := hS.cells _ _ hB.c3 rfl
  refine ⟨by simp, .inr ⟨nofun, .func 81, _, 81, _, rfl, (by simp [invoke, go_sem, catchD]; rfl), fun _ _ => trivial, ?_⟩⟩
  refine (read_caught w.heap.size x W' (n - 1) ⟨_, blk_cell d0 0 rfl, blk_free d0 0⟩ ⟨_, blk_cell d1 0 rfl, blk_free d1 0⟩ ⟨_, blk_cell d2 0 rfl, blk_free d2 0⟩ ⟨_, blk_cell d3 0 rfl, blk_free d3 0⟩).mono ?_
  rintro e u' w2 ⟨rfl, hu, hC⟩
  dsimp only
  rw [hu]
  refine ⟨.tuple #[.int .i64 0, .int .i64 0, .slice none 0 0, .int .i64 x], ?_, none, 0, rfl, .inl rfl, ?_⟩
  · rw [Array.getD_eq_getD_getElem?] at t2 t3 t4 t5
    simp [results, Try.results51, go_sem, t2, t3, t4, t5, hC.c0, hC.c1, hC.c2, hC.c3]
  · have h1 := hS.below
    exact hE.trans ⟨hC.os.trans h1.os, hC.tape.trans h1.tape, hC.output.trans h1.output, by rw [hC.size]; exact h1.size, fun k hk => (hC.block k hk).trans (h1.block k hk)⟩
theorem ints_shut {W W' : World} {b B c : Nat} {a : Option Addr} {ws : List Int} (hS : ShutL b W W') (ho : W.ownsRow B 3 1 (.slice a ws.length c) ws.length (iv ws)) : IntsAt W' a ws := by
  rcases own_ints ho with h | ⟨b', off, ha, hb, hc⟩
  · exact .inl h
  · rcases ho.2 with ⟨h1, h2⟩ | ⟨g, cap, cur, h1, h2, h3, h4⟩
    · rw [ha] at h1; cases h1
    · obtain ⟨h5, -, -⟩ := Value.slice.inj h1
      rw [ha] at h5
      cases h5
      have h6 := hS.cells b' _ h3 rfl
      exact .inr ⟨b', 0, ha, (Array.getElem?_eq_some_iff.1 h6).1, fun i hi => (World.cell?_of_block (w := W) (h6.trans h3.symm)).trans (hc i hi)⟩
theorem leaves_good {n : Nat} {tmps : Array Value} {w W : World} {x y : Int} {B c : Nat} {a : Option Addr} {ws : List Int} (Ds : List Nat) (hM : MarksL w.heap.size W Ds) (hB : ResB W w.heap.size (.int .i64 x) (.int .i64 y) (.slice a ws.length c) (.int .i64 0)) (ho : W.ownsRow B 3 1 (.slice a ws.length c) ws.length (iv ws)) (hE : Ext w W)
    (t2 : tmps.getD 2 undef = .pointer (some ⟨w.heap.size, 0, none⟩)) (t3 : tmps.getD 3 undef = .pointer (some ⟨w.heap.size + 1, 0, none⟩)) (t4 : tmps.getD 4 undef = .pointer (some ⟨w.heap.size + 1 + 1, 0, none⟩)) (t5 : tmps.getD 5 undef = .pointer (some ⟨w.heap.size + 1 + 1 + 1, 0, none⟩)) :
    LeavesInM Fence.wide n Try.prog Try.f51 tmps (ReadRes (x, y, ws, 0) w) (Ds.map markL ++ [catchD w.heap.size]) .returning W := by
  refine leaves_marksL (by simp) Ds W hM fun W' hS => ?_
  have d0 := blk_cell (hS.cells _ _ hB.c0 rfl) 0 (v := .int .i64 x) rfl
  have d1 := blk_cell (hS.cells _ _ hB.c1 rfl) 0 (v := .int .i64 y) rfl
  have d2 := blk_cell (hS.cells _ _ hB.c2 rfl) 0 (v := .slice a ws.length c) rfl
  have d3 := blk_cell (hS.cells _ _ hB.c3 rfl) 0 (v := .int .i64 0) rfl
  refine ⟨by simp, .inr ⟨nofun, .func 81, _, 81, _, rfl, (by simp [invoke, go_sem, catchD]; rfl), fun _ _ => trivial, ?_⟩⟩
  refine (read_idle w.heap.size W' (n - 1)).mono ?_
  rintro e u' w2 ⟨rfl, rfl, rfl⟩
  refine ⟨.tuple #[.int .i64 x, .int .i64 y, .slice a ws.length c, .int .i64 0], ?_, a, c, rfl, ints_shut hS ho, hE.trans hS.below⟩
  rw [Array.getD_eq_getD_getElem?] at t2 t3 t4 t5
  simp [results, Try.results51, go_sem, t2, t3, t4, t5, d0, d1, d2, d3]
end Go.Proofs.Ytkkchoinfdfiaaa

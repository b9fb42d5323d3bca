/- The law LineOvens: its walk. Printed by gen_j13.py. -/
import Derived.Test.YtkkchoinfdfiaaaI13
import Derived.Test.YtkkchoinfdfiaaaFrameL
import Derived.Test.YtkkchoinfdfiaaaH22
set_option linter.unusedVariables false
set_option linter.unusedSimpArgs false
namespace Go.Proofs.Ytkkchoinfdfiaaa
open Go.RowKit Go.Q Go.Shelf Go.Maps

theorem alloc_blk2 {w : World} {b : Nat} {x : Obj} (h : w.heap[b]? = some x) (ob : Obj) : (w.alloc ob).heap[b]? = some x := ((Ext.refl w).alloc ob |>.block b (Array.getElem?_eq_some_iff.1 h).1).trans h
theorem two_boxes2 {w w1 : World} {c0 c1 : Array Value} {k0 k1 : TypeId} (E : Ext ((w.alloc (.cells c0 k0)).alloc (.cells c1 k1)) w1) :
    w1.heap[w.heap.size]? = some (.cells c0 k0 (0, 0)) ∧ w1.heap[w.heap.size + 1]? = some (.cells c1 k1 (0, 0)) := by
  have e1 := heap_alloc_new w (.cells c0 k0)
  have e2 := heap_alloc_new (w.alloc (.cells c0 k0)) (.cells c1 k1)
  simp only [World.size_alloc] at e2
  exact ⟨(E.old.block _ (by simp)).trans e1, (E.block _ (by simp)).trans e2⟩
set_option maxRecDepth 100000 in
set_option maxHeartbeats 8000000 in
theorem ovens_law (l : Ln) (x : Htd) (w : World) :
    Calls Try.prog 13 #[.agg #[.int .i64 l.words, .int .i64 l.bits, .int .i64 l.period, .int .i64 l.delay, .int .i64 l.slope, .int .i64 l.window], .agg #[.int .i64 x.oven.low, .int .i64 x.oven.high, .int .i64 x.oven.warm.lo, .int .i64 x.oven.warm.hi, .int .i64 x.oven.cool.lo, .int .i64 x.oven.cool.hi, .int .i64 x.temp.lo, .int .i64 x.temp.hi, .bool x.heats, .int .i64 x.minutes]] w fun e w' => e = .returned (.bool true) ∧ Ext w w' := by
  obtain ⟨o, temp, heats, minutes⟩ := x
  have ho1 := fun W => Oven_any o temp heats minutes W
  have ho2 := fun W => rOven_any o temp heats minutes W
  have hk1 := fun W => Keeps_any l o temp heats minutes W
  have hk2 := fun W => rKeeps_any l o temp heats minutes W
  unfold OvenRes at ho1 ho2
  generalize ovenE o temp heats minutes = R at *
  generalize keepsE l o temp heats minutes = K at *
  obtain ⟨⟨lo, hi⟩, y⟩ := R
  obtain ⟨kk, z⟩ := K
  dsimp only at ho1 ho2 hk1 hk2 ⊢
  go_enter Try.func13, Try.ntmps13
  go_wp2_with fail
  refine (ho1 _).mono ?_
  rintro e w1 ⟨rfl, E1⟩
  obtain ⟨b0, b1⟩ := two_boxes2 E1
  have EW := E1.old.old
  have l0 := fun ob => blk_cell (alloc_blk2 b0 ob) 0 (v := .int .i64 l.words) rfl
  have l1 := fun ob => blk_cell (alloc_blk2 b0 ob) 1 (v := .int .i64 l.bits) rfl
  have l2 := fun ob => blk_cell (alloc_blk2 b0 ob) 2 (v := .int .i64 l.period) rfl
  have l3 := fun ob => blk_cell (alloc_blk2 b0 ob) 3 (v := .int .i64 l.delay) rfl
  have l4 := fun ob => blk_cell (alloc_blk2 b0 ob) 4 (v := .int .i64 l.slope) rfl
  have l5 := fun ob => blk_cell (alloc_blk2 b0 ob) 5 (v := .int .i64 l.window) rfl
  have x0 := fun ob => blk_cell (alloc_blk2 b1 ob) 0 (v := .int .i64 o.low) rfl
  have x1 := fun ob => blk_cell (alloc_blk2 b1 ob) 1 (v := .int .i64 o.high) rfl
  have x2 := fun ob => blk_cell (alloc_blk2 b1 ob) 2 (v := .int .i64 o.warm.lo) rfl
  have x3 := fun ob => blk_cell (alloc_blk2 b1 ob) 3 (v := .int .i64 o.warm.hi) rfl
  have x4 := fun ob => blk_cell (alloc_blk2 b1 ob) 4 (v := .int .i64 o.cool.lo) rfl
  have x5 := fun ob => blk_cell (alloc_blk2 b1 ob) 5 (v := .int .i64 o.cool.hi) rfl
  have x6 := fun ob => blk_cell (alloc_blk2 b1 ob) 6 (v := .int .i64 temp.lo) rfl
  have x7 := fun ob => blk_cell (alloc_blk2 b1 ob) 7 (v := .int .i64 temp.hi) rfl
  have x8 := fun ob => blk_cell (alloc_blk2 b1 ob) 8 (v := .bool heats) rfl
  have x9 := fun ob => blk_cell (alloc_blk2 b1 ob) 9 (v := .int .i64 minutes) rfl
  clear E1 ho1
  go_wp2_with fail
  refine (ho2 _).mono ?_
  rintro e w2 ⟨rfl, E2⟩
  have hb2 : w2.heap[w1.heap.size]? = some (.cells #[.int .i64 lo, .int .i64 hi] 49 (0, 0)) := (E2.block w1.heap.size (by simp)).trans (heap_alloc_new w1 _)
  replace b0 := (E2.old.block _ (Array.getElem?_eq_some_iff.1 b0).1).trans b0
  replace b1 := (E2.old.block _ (Array.getElem?_eq_some_iff.1 b1).1).trans b1
  replace EW := EW.comp E2.old
  clear E2 ho2 l0 l1 l2 l3 l4 l5 x0 x1 x2 x3 x4 x5 x6 x7 x8 x9
  have X2 : Ext w2 (w2.alloc (.cells #[.int .i64 lo, .int .i64 hi] 49)) := (Ext.refl w2).alloc _
  have hb3 : (w2.alloc (.cells #[.int .i64 lo, .int .i64 hi] 49)).heap[w2.heap.size]? = some (.cells #[.int .i64 lo, .int .i64 hi] 49 (0, 0)) := heap_alloc_new w2 _
  replace hb2 := alloc_blk2 hb2 (.cells #[.int .i64 lo, .int .i64 hi] 49)
  replace b0 := alloc_blk2 b0 (.cells #[.int .i64 lo, .int .i64 hi] 49)
  replace b1 := alloc_blk2 b1 (.cells #[.int .i64 lo, .int .i64 hi] 49)
  replace EW := EW.comp X2
  clear X2
  have s0 := blk_cell hb2 0 (v := .int .i64 lo) rfl
  have s1 := blk_cell hb2 1 (v := .int .i64 hi) rfl
  have t0 := blk_cell hb3 0 (v := .int .i64 lo) rfl
  have t1 := blk_cell hb3 1 (v := .int .i64 hi) rfl
  have l0 := blk_cell b0 0 (v := .int .i64 l.words) rfl
  have l1 := blk_cell b0 1 (v := .int .i64 l.bits) rfl
  have l2 := blk_cell b0 2 (v := .int .i64 l.period) rfl
  have l3 := blk_cell b0 3 (v := .int .i64 l.delay) rfl
  have l4 := blk_cell b0 4 (v := .int .i64 l.slope) rfl
  have l5 := blk_cell b0 5 (v := .int .i64 l.window) rfl
  have x0 := blk_cell b1 0 (v := .int .i64 o.low) rfl
  have x1 := blk_cell b1 1 (v := .int .i64 o.high) rfl
  have x2 := blk_cell b1 2 (v := .int .i64 o.warm.lo) rfl
  have x3 := blk_cell b1 3 (v := .int .i64 o.warm.hi) rfl
  have x4 := blk_cell b1 4 (v := .int .i64 o.cool.lo) rfl
  have x5 := blk_cell b1 5 (v := .int .i64 o.cool.hi) rfl
  have x6 := blk_cell b1 6 (v := .int .i64 temp.lo) rfl
  have x7 := blk_cell b1 7 (v := .int .i64 temp.hi) rfl
  have x8 := blk_cell b1 8 (v := .bool heats) rfl
  have x9 := blk_cell b1 9 (v := .int .i64 minutes) rfl
  go_wp2_with fail
  clear s0 s1 t0 t1 hb2 hb3
  generalize w2.alloc (.cells #[.int .i64 lo, .int .i64 hi] 49) = W2 at *
  refine (hk1 _).mono ?_
  rintro e w3 ⟨rfl, E3⟩
  replace b0 := (E3.block _ (Array.getElem?_eq_some_iff.1 b0).1).trans b0
  replace b1 := (E3.block _ (Array.getElem?_eq_some_iff.1 b1).1).trans b1
  replace EW := EW.comp E3
  clear E3 hk1 l0 l1 l2 l3 l4 l5 x0 x1 x2 x3 x4 x5 x6 x7 x8 x9
  have l0 := blk_cell b0 0 (v := .int .i64 l.words) rfl
  have l1 := blk_cell b0 1 (v := .int .i64 l.bits) rfl
  have l2 := blk_cell b0 2 (v := .int .i64 l.period) rfl
  have l3 := blk_cell b0 3 (v := .int .i64 l.delay) rfl
  have l4 := blk_cell b0 4 (v := .int .i64 l.slope) rfl
  have l5 := blk_cell b0 5 (v := .int .i64 l.window) rfl
  have x0 := blk_cell b1 0 (v := .int .i64 o.low) rfl
  have x1 := blk_cell b1 1 (v := .int .i64 o.high) rfl
  have x2 := blk_cell b1 2 (v := .int .i64 o.warm.lo) rfl
  have x3 := blk_cell b1 3 (v := .int .i64 o.warm.hi) rfl
  have x4 := blk_cell b1 4 (v := .int .i64 o.cool.lo) rfl
  have x5 := blk_cell b1 5 (v := .int .i64 o.cool.hi) rfl
  have x6 := blk_cell b1 6 (v := .int .i64 temp.lo) rfl
  have x7 := blk_cell b1 7 (v := .int .i64 temp.hi) rfl
  have x8 := blk_cell b1 8 (v := .bool heats) rfl
  have x9 := blk_cell b1 9 (v := .int .i64 minutes) rfl
  go_wp2_with fail
  refine (hk2 _).mono ?_
  rintro e w4 ⟨rfl, E4⟩
  replace EW := EW.comp E4
  clear E4 hk2 l0 l1 l2 l3 l4 l5 x0 x1 x2 x3 x4 x5 x6 x7 x8 x9 b0 b1
  go_wp2_with fail
  refine (awake_any _).mono ?_
  rintro e w5 ⟨rfl, E5⟩
  go_wp2
  go_ret
  exact ⟨rfl, EW.comp E5⟩
end Go.Proofs.Ytkkchoinfdfiaaa

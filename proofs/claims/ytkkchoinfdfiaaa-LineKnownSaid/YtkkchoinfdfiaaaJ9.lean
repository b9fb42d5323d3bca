/- The law LineLonger: its walk. -/
import Derived.Test.YtkkchoinfdfiaaaN6
import Derived.Test.YtkkchoinfdfiaaaFrameL
import Derived.Test.YtkkchoinfdfiaaaH22
set_option linter.unusedVariables false
set_option linter.unusedSimpArgs false
namespace Go.Proofs.Ytkkchoinfdfiaaa
open Go.RowKit Go.Q Go.Shelf Go.Maps

theorem alloc_blk {w : World} {b : Nat} {x : Obj} (h : w.heap[b]? = some x) (ob : Obj) : (w.alloc ob).heap[b]? = some x := ((Ext.refl w).alloc ob |>.block b (Array.getElem?_eq_some_iff.1 h).1).trans h
theorem ovenX_more {o : Ov} {t t' : Sp} {m m' : Int} (h : ovenX o t m = 0) (h1 : -500 ≤ t'.lo ∧ t'.lo ≤ t'.hi ∧ t'.hi ≤ 1000) (h2 : 0 ≤ m' ∧ m' ≤ 200) : ovenX o t' m' = 0 := by
  unfold ovenX at h ⊢
  split at h
  · omega
  · rename_i a1
    rw [if_neg a1]
    split at h
    · omega
    · rename_i a2
      rw [if_neg a2]
      have e : spanX t' = 0 := by
        unfold spanX tempB inB
        simp [h1.1, h1.2.1, h1.2.2, show t'.lo ≤ 1000 by omega, show -500 ≤ t'.hi by omega]
      have e2 : inB m' 0 200 = true := by unfold inB; simp [h2.1, h2.2]
      rw [if_neg (by omega), e2, if_neg (by simp)]
theorem long_boxes {w w1 : World} {c0 c1 c2 : Array Value} {k0 k1 k2 : TypeId} (E : Ext (((w.alloc (.cells c0 k0)).alloc (.cells c1 k1)).alloc (.cells c2 k2)) w1) :
    w1.heap[w.heap.size]? = some (.cells c0 k0 (0, 0)) ∧ w1.heap[w.heap.size + 1]? = some (.cells c1 k1 (0, 0)) ∧ w1.heap[w.heap.size + 1 + 1]? = some (.cells c2 k2 (0, 0)) := by
  have e1 := heap_alloc_new w (.cells c0 k0)
  have e2 := heap_alloc_new (w.alloc (.cells c0 k0)) (.cells c1 k1)
  have e3 := heap_alloc_new ((w.alloc (.cells c0 k0)).alloc (.cells c1 k1)) (.cells c2 k2)
  simp only [World.size_alloc] at e2 e3
  have X2 := E.old
  have X1 := X2.old
  exact ⟨(X1.block _ (by simp)).trans e1, (X2.block _ (by simp)).trans e2, (E.block _ (by simp)).trans e3⟩
set_option maxRecDepth 100000 in
set_option maxHeartbeats 4000000 in
theorem longer_law (l : Ln) (x : Htd) (hx : HtdBd x) (a b c : Int) (ha : 0 ≤ a ∧ a ≤ 255) (hb : 0 ≤ b ∧ b ≤ 255) (hc : 0 ≤ c ∧ c ≤ 255) (w : World) :
    Calls Try.prog 15 #[.agg #[.int .i64 l.words, .int .i64 l.bits, .int .i64 l.period, .int .i64 l.delay, .int .i64 l.slope, .int .i64 l.window], .agg #[.int .i64 x.oven.low, .int .i64 x.oven.high, .int .i64 x.oven.warm.lo, .int .i64 x.oven.warm.hi, .int .i64 x.oven.cool.lo, .int .i64 x.oven.cool.hi, .int .i64 x.temp.lo, .int .i64 x.temp.hi, .bool x.heats, .int .i64 x.minutes], .agg #[.int .u8 a, .int .u8 b, .int .u8 c]] w fun e w' => e = .returned (.bool true) ∧ Ext w w' := by
  obtain ⟨o, temp, heats, minutes⟩ := x
  have ho1 := fun W => Oven_any o temp heats minutes W
  have hk1 := fun W => Keeps_any l o temp heats minutes W
  unfold OvenRes at ho1
  by_cases hox : ovenX o temp minutes = 0
  · have e1 : ovenE o temp heats minutes = (⟨loO o temp heats minutes.toNat, hiO o temp heats minutes.toNat⟩, 0) := by unfold ovenE; rw [if_pos hox]
    rw [e1] at ho1
    dsimp only at ho1
    clear e1
    by_cases hcl : checkL l = 0
    · have e2 : keepsE l o temp heats minutes = (kpF (unsafeO l o temp heats) minutes.toNat, 0) := by unfold keepsE; rw [if_neg (by omega), if_neg (by omega)]
      rw [e2] at hk1
      dsimp only at hk1
      generalize hlo : loO o temp heats minutes.toNat = lo at *
      generalize hhi : hiO o temp heats minutes.toNat = hi at *
      generalize hkk : kpF (unsafeO l o temp heats) minutes.toNat = kk at *
      clear e2
      go_enter Try.func15, Try.ntmps15
      go_wp2_with fail
      refine (ho1 _).mono ?_
      rintro e w1 ⟨rfl, E1⟩
      obtain ⟨b0, b1, b2⟩ := long_boxes E1
      have EW := E1.old.old.old
      have l0 := fun ob => blk_cell (alloc_blk b0 ob) 0 (v := .int .i64 l.words) rfl
      have l1 := fun ob => blk_cell (alloc_blk b0 ob) 1 (v := .int .i64 l.bits) rfl
      have l2 := fun ob => blk_cell (alloc_blk b0 ob) 2 (v := .int .i64 l.period) rfl
      have l3 := fun ob => blk_cell (alloc_blk b0 ob) 3 (v := .int .i64 l.delay) rfl
      have l4 := fun ob => blk_cell (alloc_blk b0 ob) 4 (v := .int .i64 l.slope) rfl
      have l5 := fun ob => blk_cell (alloc_blk b0 ob) 5 (v := .int .i64 l.window) rfl
      have x0 := fun ob => blk_cell (alloc_blk b1 ob) 0 (v := .int .i64 o.low) rfl
      have x1 := fun ob => blk_cell (alloc_blk b1 ob) 1 (v := .int .i64 o.high) rfl
      have x2 := fun ob => blk_cell (alloc_blk b1 ob) 2 (v := .int .i64 o.warm.lo) rfl
      have x3 := fun ob => blk_cell (alloc_blk b1 ob) 3 (v := .int .i64 o.warm.hi) rfl
      have x4 := fun ob => blk_cell (alloc_blk b1 ob) 4 (v := .int .i64 o.cool.lo) rfl
      have x5 := fun ob => blk_cell (alloc_blk b1 ob) 5 (v := .int .i64 o.cool.hi) rfl
      have x6 := fun ob => blk_cell (alloc_blk b1 ob) 6 (v := .int .i64 temp.lo) rfl
      have x7 := fun ob => blk_cell (alloc_blk b1 ob) 7 (v := .int .i64 temp.hi) rfl
      have x8 := fun ob => blk_cell (alloc_blk b1 ob) 8 (v := .bool heats) rfl
      have x9 := fun ob => blk_cell (alloc_blk b1 ob) 9 (v := .int .i64 minutes) rfl
      have HB := Lib.hid (And.intro b0 (And.intro b1 b2))
      clear E1 ho1 b0 b1 b2
      go_wp2_with fail
      refine (hk1 _).mono ?_
      rintro e w2 ⟨rfl, E2⟩
      have EW2 := EW.comp E2.old
      clear hk1 l0 l1 l2 l3 l4 l5 x0 x1 x2 x3 x4 x5 x6 x7 x8 x9
      have b0 := (E2.block _ (Array.getElem?_eq_some_iff.1 (alloc_blk HB.out.1 (.cells #[.int .i64 lo, .int .i64 hi] 49))).1).trans (alloc_blk HB.out.1 _)
      have b1 := (E2.block _ (Array.getElem?_eq_some_iff.1 (alloc_blk HB.out.2.1 (.cells #[.int .i64 lo, .int .i64 hi] 49))).1).trans (alloc_blk HB.out.2.1 _)
      have b2 := (E2.block _ (Array.getElem?_eq_some_iff.1 (alloc_blk HB.out.2.2 (.cells #[.int .i64 lo, .int .i64 hi] 49))).1).trans (alloc_blk HB.out.2.2 _)
      have b3 : w2.heap[w1.heap.size]? = some (.cells #[.int .i64 lo, .int .i64 hi] 49 (0, 0)) := (E2.block w1.heap.size (by simp)).trans (heap_alloc_new w1 _)
      clear HB E2
      have l0 := blk_cell b0 0 (v := .int .i64 l.words) rfl
      have l1 := blk_cell b0 1 (v := .int .i64 l.bits) rfl
      have l2 := blk_cell b0 2 (v := .int .i64 l.period) rfl
      have l3 := blk_cell b0 3 (v := .int .i64 l.delay) rfl
      have l4 := blk_cell b0 4 (v := .int .i64 l.slope) rfl
      have l5 := blk_cell b0 5 (v := .int .i64 l.window) rfl
      have x0 := blk_cell b1 0 (v := .int .i64 o.low) rfl
      have x1 := blk_cell b1 1 (v := .int .i64 o.high) rfl
      have x2 := blk_cell b1 2 (v := .int .i64 o.warm.lo) rfl
      have x3 := blk_cell b1 3 (v := .int .i64 o.warm.hi) rfl
      have x4 := blk_cell b1 4 (v := .int .i64 o.cool.lo) rfl
      have x5 := blk_cell b1 5 (v := .int .i64 o.cool.hi) rfl
      have x6 := blk_cell b1 6 (v := .int .i64 temp.lo) rfl
      have x7 := blk_cell b1 7 (v := .int .i64 temp.hi) rfl
      have x8 := blk_cell b1 8 (v := .bool heats) rfl
      have x9 := blk_cell b1 9 (v := .int .i64 minutes) rfl
      have m0 := blk_cell b2 0 (v := .int .u8 a) rfl
      have m1 := blk_cell b2 1 (v := .int .u8 b) rfl
      have m2 := blk_cell b2 2 (v := .int .u8 c) rfl
      have l'0 := fun ob => blk_cell (alloc_blk b0 ob) 0 (v := .int .i64 l.words) rfl
      have l'1 := fun ob => blk_cell (alloc_blk b0 ob) 1 (v := .int .i64 l.bits) rfl
      have l'2 := fun ob => blk_cell (alloc_blk b0 ob) 2 (v := .int .i64 l.period) rfl
      have l'3 := fun ob => blk_cell (alloc_blk b0 ob) 3 (v := .int .i64 l.delay) rfl
      have l'4 := fun ob => blk_cell (alloc_blk b0 ob) 4 (v := .int .i64 l.slope) rfl
      have l'5 := fun ob => blk_cell (alloc_blk b0 ob) 5 (v := .int .i64 l.window) rfl
      have x'0 := fun ob => blk_cell (alloc_blk b1 ob) 0 (v := .int .i64 o.low) rfl
      have x'1 := fun ob => blk_cell (alloc_blk b1 ob) 1 (v := .int .i64 o.high) rfl
      have x'2 := fun ob => blk_cell (alloc_blk b1 ob) 2 (v := .int .i64 o.warm.lo) rfl
      have x'3 := fun ob => blk_cell (alloc_blk b1 ob) 3 (v := .int .i64 o.warm.hi) rfl
      have x'4 := fun ob => blk_cell (alloc_blk b1 ob) 4 (v := .int .i64 o.cool.lo) rfl
      have x'5 := fun ob => blk_cell (alloc_blk b1 ob) 5 (v := .int .i64 o.cool.hi) rfl
      have x'6 := fun ob => blk_cell (alloc_blk b1 ob) 6 (v := .int .i64 temp.lo) rfl
      have x'7 := fun ob => blk_cell (alloc_blk b1 ob) 7 (v := .int .i64 temp.hi) rfl
      have x'8 := fun ob => blk_cell (alloc_blk b1 ob) 8 (v := .bool heats) rfl
      have x'9 := fun ob => blk_cell (alloc_blk b1 ob) 9 (v := .int .i64 minutes) rfl
      have m'0 := fun ob => blk_cell (alloc_blk b2 ob) 0 (v := .int .u8 a) rfl
      have m'1 := fun ob => blk_cell (alloc_blk b2 ob) 1 (v := .int .u8 b) rfl
      have m'2 := fun ob => blk_cell (alloc_blk b2 ob) 2 (v := .int .u8 c) rfl
      obtain ⟨ho, hsp, hm0, hm1⟩ := okO_of hox
      obtain ⟨t0, t1, t2⟩ := spanX_bd hsp
      have wr1 : IntKind.i64.wrap (temp.lo - b) = temp.lo - b := IntWalk.i64_in _ (by omega)
      have wr2 : IntKind.i64.wrap (temp.hi + c) = temp.hi + c := IntWalk.i64_in _ (by omega)
      have wr3 : IntKind.i64.wrap (minutes + a) = minutes + a := IntWalk.i64_in _ (by omega)
      go_wp2_with fail
      obtain ⟨tl, htl⟩ : ∃ tl, max (-500) (temp.lo - b) = tl := ⟨_, rfl⟩
      obtain ⟨th, hth⟩ : ∃ th, min 1000 (temp.hi + c) = th := ⟨_, rfl⟩
      obtain ⟨mm, hmm⟩ : ∃ mm, min 200 (minutes + a) = mm := ⟨_, rfl⟩
      rw [htl, hth, hmm]
      have q1 : -500 ≤ tl ∧ tl ≤ temp.lo := by omega
      have q2 : temp.hi ≤ th ∧ th ≤ 1000 := by omega
      have q3 : minutes ≤ mm ∧ mm ≤ 200 := by omega
      clear wr1 wr2 wr3 htl hth hmm
      have ho2 := fun W => Oven_any o ⟨tl, th⟩ heats mm W
      have hk2 := fun W => Keeps_any l o ⟨tl, th⟩ heats mm W
      have hox2 : ovenX o ⟨tl, th⟩ mm = 0 := ovenX_more hox ⟨q1.1, (show tl ≤ th by omega), q2.2⟩ ⟨by omega, q3.2⟩
      unfold OvenRes at ho2
      rw [show ovenE o ⟨tl, th⟩ heats mm = (⟨loO o ⟨tl, th⟩ heats mm.toNat, hiO o ⟨tl, th⟩ heats mm.toNat⟩, 0) by unfold ovenE; rw [if_pos hox2]] at ho2
      rw [show keepsE l o ⟨tl, th⟩ heats mm = (kpF (unsafeO l o ⟨tl, th⟩ heats) mm.toNat, 0) by unfold keepsE; rw [if_neg (by omega), if_neg (by omega)]] at hk2
      have g1 : loO o ⟨tl, th⟩ heats mm.toNat ≤ lo := by rw [← hlo]; exact lo_wider q1.2 q2.1 (by omega)
      have g2 : hi ≤ hiO o ⟨tl, th⟩ heats mm.toNat := by rw [← hhi]; exact hi_wider q1.2 q2.1 (by omega)
      have g3 : 0 ≤ kk → 0 ≤ kpF (unsafeO l o ⟨tl, th⟩ heats) mm.toNat ∧ kpF (unsafeO l o ⟨tl, th⟩ heats) mm.toNat ≤ kk := by
        rw [← hkk]
        exact kp_wider (by omega) (fun m h => unsafe_mono q1.2 q2.1 h)
      dsimp only at ho2 hk2
      generalize loO o ⟨tl, th⟩ heats mm.toNat = lo2 at *
      generalize hiO o ⟨tl, th⟩ heats mm.toNat = hi2 at *
      generalize kpF (unsafeO l o ⟨tl, th⟩ heats) mm.toNat = kk2 at *
      clear hlo hhi hkk hox2 hox hcl ho hsp hm0 hm1 t0 t1 t2 q1 q2 q3 ha hb hc hx
      clear l0 l1 l2 l3 l4 l5 x0 x1 x2 x3 x4 x5 x6 x7 x8 x9 m0 m1 m2 l'0 l'1 l'2 l'3 l'4 l'5 x'0 x'1 x'2 x'3 x'4 x'5 x'6 x'7 x'8 x'9 m'0 m'1 m'2
      refine (lawspan_any _ _ _).mono ?_
      rintro e w3 ⟨rfl, E3⟩
      have EW3 := EW2.comp E3.old
      have c0 := (E3.block _ (Array.getElem?_eq_some_iff.1 (alloc_blk b0 (.cells #[.int .i64 o.low, .int .i64 o.high, .int .i64 o.warm.lo, .int .i64 o.warm.hi, .int .i64 o.cool.lo, .int .i64 o.cool.hi, .int .i64 temp.lo, .int .i64 temp.hi, .bool heats, .int .i64 mm] 59))).1).trans (alloc_blk b0 _)
      have c3 := (E3.block _ (Array.getElem?_eq_some_iff.1 (alloc_blk b3 (.cells #[.int .i64 o.low, .int .i64 o.high, .int .i64 o.warm.lo, .int .i64 o.warm.hi, .int .i64 o.cool.lo, .int .i64 o.cool.hi, .int .i64 temp.lo, .int .i64 temp.hi, .bool heats, .int .i64 mm] 59))).1).trans (alloc_blk b3 _)
      have cy : w3.heap[w2.heap.size]? = some (.cells #[.int .i64 o.low, .int .i64 o.high, .int .i64 o.warm.lo, .int .i64 o.warm.hi, .int .i64 o.cool.lo, .int .i64 o.cool.hi, .int .i64 temp.lo, .int .i64 temp.hi, .bool heats, .int .i64 mm] 59 (0, 0)) := (E3.block w2.heap.size (by simp)).trans (heap_alloc_new w2 _)
      have hs1 : w.heap.size < w2.heap.size := (Array.getElem?_eq_some_iff.1 b0).1
      have hs2 : w1.heap.size < w2.heap.size := (Array.getElem?_eq_some_iff.1 b3).1
      clear b0 b1 b2 b3 E3 EW2
      have y0 := blk_cell cy 0 (v := .int .i64 o.low) rfl
      have y1 := blk_cell cy 1 (v := .int .i64 o.high) rfl
      have y2 := blk_cell cy 2 (v := .int .i64 o.warm.lo) rfl
      have y3 := blk_cell cy 3 (v := .int .i64 o.warm.hi) rfl
      have y4 := blk_cell cy 4 (v := .int .i64 o.cool.lo) rfl
      have y5 := blk_cell cy 5 (v := .int .i64 o.cool.hi) rfl
      have y6 := blk_cell cy 6 (v := .int .i64 temp.lo) rfl
      have y7 := blk_cell cy 7 (v := .int .i64 temp.hi) rfl
      have y8 := blk_cell cy 8 (v := .bool heats) rfl
      have y9 := blk_cell cy 9 (v := .int .i64 mm) rfl
      have fy6 := blk_free cy 6
      have fy7 := blk_free cy 7
      have d1 := heap_setCell_same w3 w2.heap.size 6 _ _ (.int .i64 tl) cy
      have d2 := heap_setCell_same _ w2.heap.size 7 _ _ (.int .i64 th) d1
      have dy : ((w3.setCell ⟨w2.heap.size, 6, none⟩ (.int .i64 tl)).setCell ⟨w2.heap.size, 7, none⟩ (.int .i64 th)).heap[w2.heap.size]? = some (.cells #[.int .i64 o.low, .int .i64 o.high, .int .i64 o.warm.lo, .int .i64 o.warm.hi, .int .i64 o.cool.lo, .int .i64 o.cool.hi, .int .i64 tl, .int .i64 th, .bool heats, .int .i64 mm] 59 (0, 0)) := by simpa using d2
      have d0 := (Below.heap_setCell (w3.setCell ⟨w2.heap.size, 6, none⟩ (.int .i64 tl)) ⟨w2.heap.size, 7, none⟩ (.int .i64 th) w.heap.size (by show w.heap.size ≠ w2.heap.size; omega)).trans ((Below.heap_setCell w3 ⟨w2.heap.size, 6, none⟩ (.int .i64 tl) w.heap.size (by show w.heap.size ≠ w2.heap.size; omega)).trans c0)
      have d3 := (Below.heap_setCell (w3.setCell ⟨w2.heap.size, 6, none⟩ (.int .i64 tl)) ⟨w2.heap.size, 7, none⟩ (.int .i64 th) w1.heap.size (by show w1.heap.size ≠ w2.heap.size; omega)).trans ((Below.heap_setCell w3 ⟨w2.heap.size, 6, none⟩ (.int .i64 tl) w1.heap.size (by show w1.heap.size ≠ w2.heap.size; omega)).trans c3)
      have EW4 : Ext w ((w3.setCell ⟨w2.heap.size, 6, none⟩ (.int .i64 tl)).setCell ⟨w2.heap.size, 7, none⟩ (.int .i64 th)) := (EW3.setCell (p := ⟨w2.heap.size, 6, none⟩) (by show w.heap.size ≤ w2.heap.size; omega) (.int .i64 tl)).setCell (p := ⟨w2.heap.size, 7, none⟩) (by show w.heap.size ≤ w2.heap.size; omega) (.int .i64 th)
      clear d1 d2 c0 c3 cy
      go_wp2_with fail
      clear fy6 fy7 y0 y1 y2 y3 y4 y5 y6 y7 y8 y9
      generalize (w3.setCell ⟨w2.heap.size, 6, none⟩ (.int .i64 tl)).setCell ⟨w2.heap.size, 7, none⟩ (.int .i64 th) = W3 at *
      refine (ho2 _).mono ?_
      rintro e w4 ⟨rfl, E4⟩
      have e0 := (E4.block _ (Array.getElem?_eq_some_iff.1 d0).1).trans d0
      have e3 := (E4.block _ (Array.getElem?_eq_some_iff.1 d3).1).trans d3
      have ey := (E4.block _ (Array.getElem?_eq_some_iff.1 dy).1).trans dy
      have l0 := fun ob => blk_cell (alloc_blk e0 ob) 0 (v := .int .i64 l.words) rfl
      have l1 := fun ob => blk_cell (alloc_blk e0 ob) 1 (v := .int .i64 l.bits) rfl
      have l2 := fun ob => blk_cell (alloc_blk e0 ob) 2 (v := .int .i64 l.period) rfl
      have l3 := fun ob => blk_cell (alloc_blk e0 ob) 3 (v := .int .i64 l.delay) rfl
      have l4 := fun ob => blk_cell (alloc_blk e0 ob) 4 (v := .int .i64 l.slope) rfl
      have l5 := fun ob => blk_cell (alloc_blk e0 ob) 5 (v := .int .i64 l.window) rfl
      have y0 := fun ob => blk_cell (alloc_blk ey ob) 0 (v := .int .i64 o.low) rfl
      have y1 := fun ob => blk_cell (alloc_blk ey ob) 1 (v := .int .i64 o.high) rfl
      have y2 := fun ob => blk_cell (alloc_blk ey ob) 2 (v := .int .i64 o.warm.lo) rfl
      have y3 := fun ob => blk_cell (alloc_blk ey ob) 3 (v := .int .i64 o.warm.hi) rfl
      have y4 := fun ob => blk_cell (alloc_blk ey ob) 4 (v := .int .i64 o.cool.lo) rfl
      have y5 := fun ob => blk_cell (alloc_blk ey ob) 5 (v := .int .i64 o.cool.hi) rfl
      have y6 := fun ob => blk_cell (alloc_blk ey ob) 6 (v := .int .i64 tl) rfl
      have y7 := fun ob => blk_cell (alloc_blk ey ob) 7 (v := .int .i64 th) rfl
      have y8 := fun ob => blk_cell (alloc_blk ey ob) 8 (v := .bool heats) rfl
      have y9 := fun ob => blk_cell (alloc_blk ey ob) 9 (v := .int .i64 mm) rfl
      have EW5 := EW4.comp E4
      clear EW4 EW3 EW E4 d0 d3 dy ho2
      go_wp2_with fail
      refine (hk2 _).mono ?_
      rintro e w5 ⟨rfl, E5⟩
      have EW6 := EW5.comp E5.old
      have n3 := (E5.block _ (Array.getElem?_eq_some_iff.1 (alloc_blk e3 (.cells #[.int .i64 lo2, .int .i64 hi2] 49))).1).trans (alloc_blk e3 _)
      have nt : w5.heap[w4.heap.size]? = some (.cells #[.int .i64 lo2, .int .i64 hi2] 49 (0, 0)) := (E5.block w4.heap.size (by simp)).trans (heap_alloc_new w4 _)
      have s0 := blk_cell n3 0 (v := .int .i64 lo) rfl
      have s1 := blk_cell n3 1 (v := .int .i64 hi) rfl
      have r0 := blk_cell nt 0 (v := .int .i64 lo2) rfl
      have r1 := blk_cell nt 1 (v := .int .i64 hi2) rfl
      clear hk2 l0 l1 l2 l3 l4 l5 y0 y1 y2 y3 y4 y5 y6 y7 y8 y9 e0 e3 ey E5 EW5 n3 nt
      by_cases hneg : kk < 0
      · go_wp2_with fail
        refine (awake_any _).mono ?_
        rintro e w6 ⟨rfl, E6⟩
        go_wp2
        go_ret
        exact ⟨rfl, EW6.comp E6⟩
      · obtain ⟨g4, g5⟩ := g3 (by omega)
        go_wp2_with fail
        refine (awake_any _).mono ?_
        rintro e w6 ⟨rfl, E6⟩
        go_wp2
        go_ret
        exact ⟨rfl, EW6.comp E6⟩
    · have e2 : keepsE l o temp heats minutes = (0, checkL l) := by unfold keepsE; rw [if_pos hcl]
      rw [e2] at hk1
      generalize checkL l = v at *
      generalize loO o temp heats minutes.toNat = lo at *
      generalize hiO o temp heats minutes.toNat = hi at *
      clear e2 hox
      go_enter Try.func15, Try.ntmps15
      go_wp2_with fail
      refine (ho1 _).mono ?_
      rintro e w1 ⟨rfl, E1⟩
      obtain ⟨b0, b1, b2⟩ := long_boxes E1
      have EW := E1.old.old.old
      have l0 := fun ob => blk_cell (alloc_blk b0 ob) 0 (v := .int .i64 l.words) rfl
      have l1 := fun ob => blk_cell (alloc_blk b0 ob) 1 (v := .int .i64 l.bits) rfl
      have l2 := fun ob => blk_cell (alloc_blk b0 ob) 2 (v := .int .i64 l.period) rfl
      have l3 := fun ob => blk_cell (alloc_blk b0 ob) 3 (v := .int .i64 l.delay) rfl
      have l4 := fun ob => blk_cell (alloc_blk b0 ob) 4 (v := .int .i64 l.slope) rfl
      have l5 := fun ob => blk_cell (alloc_blk b0 ob) 5 (v := .int .i64 l.window) rfl
      have x0 := fun ob => blk_cell (alloc_blk b1 ob) 0 (v := .int .i64 o.low) rfl
      have x1 := fun ob => blk_cell (alloc_blk b1 ob) 1 (v := .int .i64 o.high) rfl
      have x2 := fun ob => blk_cell (alloc_blk b1 ob) 2 (v := .int .i64 o.warm.lo) rfl
      have x3 := fun ob => blk_cell (alloc_blk b1 ob) 3 (v := .int .i64 o.warm.hi) rfl
      have x4 := fun ob => blk_cell (alloc_blk b1 ob) 4 (v := .int .i64 o.cool.lo) rfl
      have x5 := fun ob => blk_cell (alloc_blk b1 ob) 5 (v := .int .i64 o.cool.hi) rfl
      have x6 := fun ob => blk_cell (alloc_blk b1 ob) 6 (v := .int .i64 temp.lo) rfl
      have x7 := fun ob => blk_cell (alloc_blk b1 ob) 7 (v := .int .i64 temp.hi) rfl
      have x8 := fun ob => blk_cell (alloc_blk b1 ob) 8 (v := .bool heats) rfl
      have x9 := fun ob => blk_cell (alloc_blk b1 ob) 9 (v := .int .i64 minutes) rfl
      have HB := Lib.hid (And.intro b0 (And.intro b1 b2))
      clear E1 ho1 b0 b1 b2
      go_wp2_with fail
      refine (hk1 _).mono ?_
      rintro e w2 ⟨rfl, E2⟩
      have EW2 := EW.comp E2.old
      clear hk1 l0 l1 l2 l3 l4 l5 x0 x1 x2 x3 x4 x5 x6 x7 x8 x9
      clear EW E2 HB
      go_wp2_with fail
      refine (awake_any _).mono ?_
      rintro e w3 ⟨rfl, E3⟩
      go_wp2
      go_ret
      exact ⟨rfl, EW2.comp E3⟩
  · have e1 : ovenE o temp heats minutes = (⟨0, 0⟩, ovenX o temp minutes) := by unfold ovenE; rw [if_neg hox]
    rw [e1] at ho1
    dsimp only at ho1
    generalize hv : ovenX o temp minutes = v at *
    generalize keepsE l o temp heats minutes = kk at *
    clear e1 hv
    go_enter Try.func15, Try.ntmps15
    go_wp2_with fail
    refine (ho1 _).mono ?_
    rintro e w1 ⟨rfl, E1⟩
    obtain ⟨b0, b1, b2⟩ := long_boxes E1
    have EW := E1.old.old.old
    have l0 := fun ob => blk_cell (alloc_blk b0 ob) 0 (v := .int .i64 l.words) rfl
    have l1 := fun ob => blk_cell (alloc_blk b0 ob) 1 (v := .int .i64 l.bits) rfl
    have l2 := fun ob => blk_cell (alloc_blk b0 ob) 2 (v := .int .i64 l.period) rfl
    have l3 := fun ob => blk_cell (alloc_blk b0 ob) 3 (v := .int .i64 l.delay) rfl
    have l4 := fun ob => blk_cell (alloc_blk b0 ob) 4 (v := .int .i64 l.slope) rfl
    have l5 := fun ob => blk_cell (alloc_blk b0 ob) 5 (v := .int .i64 l.window) rfl
    have x0 := fun ob => blk_cell (alloc_blk b1 ob) 0 (v := .int .i64 o.low) rfl
    have x1 := fun ob => blk_cell (alloc_blk b1 ob) 1 (v := .int .i64 o.high) rfl
    have x2 := fun ob => blk_cell (alloc_blk b1 ob) 2 (v := .int .i64 o.warm.lo) rfl
    have x3 := fun ob => blk_cell (alloc_blk b1 ob) 3 (v := .int .i64 o.warm.hi) rfl
    have x4 := fun ob => blk_cell (alloc_blk b1 ob) 4 (v := .int .i64 o.cool.lo) rfl
    have x5 := fun ob => blk_cell (alloc_blk b1 ob) 5 (v := .int .i64 o.cool.hi) rfl
    have x6 := fun ob => blk_cell (alloc_blk b1 ob) 6 (v := .int .i64 temp.lo) rfl
    have x7 := fun ob => blk_cell (alloc_blk b1 ob) 7 (v := .int .i64 temp.hi) rfl
    have x8 := fun ob => blk_cell (alloc_blk b1 ob) 8 (v := .bool heats) rfl
    have x9 := fun ob => blk_cell (alloc_blk b1 ob) 9 (v := .int .i64 minutes) rfl
    have HB := Lib.hid (And.intro b0 (And.intro b1 b2))
    clear E1 ho1 b0 b1 b2
    go_wp2_with fail
    refine (hk1 _).mono ?_
    rintro e w2 ⟨rfl, E2⟩
    have EW2 := EW.comp E2.old
    clear hk1 l0 l1 l2 l3 l4 l5 x0 x1 x2 x3 x4 x5 x6 x7 x8 x9
    clear EW E2 HB
    go_wp2_with fail
    refine (awake_any _).mono ?_
    rintro e w3 ⟨rfl, E3⟩
    go_wp2
    go_ret
    exact ⟨rfl, EW2.comp E3⟩
end Go.Proofs.Ytkkchoinfdfiaaa

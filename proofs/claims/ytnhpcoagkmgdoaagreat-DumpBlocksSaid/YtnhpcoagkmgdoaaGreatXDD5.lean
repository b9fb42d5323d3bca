import Derived.Test.YtnhpcoagkmgdoaaGreatX30
import Derived.Test.YtnhpcoagkmgdoaaGreatX32
import Derived.Test.YtnhpcoagkmgdoaaGreatX27
import Derived.Test.YtnhpcoagkmgdoaaGreatX33
set_option linter.unusedVariables false
set_option linter.unusedSimpArgs false
/- The law DumpBlocks. -/
namespace Go.Proofs.YtnhpcoagkmgdoaaGreat
open Go.RowKit Go.Q Go.Shelf Go.Maps Go.Joins
set_option maxHeartbeats 8000000
set_option maxRecDepth 100000
theorem changes_len (s t : St) : (changesE s t).1.length ≤ 128 := by
 unfold changesE
 split
 ·simp
 ·split
  ·simp
  ·exact changed_le _ _ 128
theorem until_bd (s : St) (a m : Int) : StBd (untilE s a m).1 := by
 have hz : StBd zst := by unfold zst; exact ⟨by simp, by simp, by simp⟩
 unfold untilE
 by_cases hx : guardX s [] m = 0
 ·rw [if_neg (by rw [hx]; decide)]
  split
  ·have hv := (guard_valid hx).1
   obtain ⟨h1, h2⟩ := until_law a m.toNat s
   show StBd (untilN a m.toNat s).1
   cases hf : (untilN a m.toNat s).2 with
   | false => rw [h1 hf]; exact valid_bd (runQ_valid _ hv)
   | true =>
    obtain ⟨k, -, -, h3, -⟩ := h2 hf
    rw [h3]; exact valid_bd (runQ_valid _ hv)
  ·exact hz
 ·rw [if_pos hx]; exact hz
theorem block_bd (s : St) (a : Int) : StBd (blockE s a).1 := by
 have hz : StBd zst := by unfold zst; exact ⟨by simp, by simp, by simp⟩
 unfold blockE
 by_cases hx : guardX s [] 0 = 0
 ·rw [if_neg (by rw [hx]; decide)]
  split
  ·have hb := valid_bd (guard_valid hx).1
   exact ⟨by show (s.store.set _ _).length ≤ _; rw [List.length_set]; exact hb.1, hb.2⟩
  ·exact hz
 ·rw [if_pos hx]; exact hz
theorem dumpBlocks_any (haw : ∀ w, Calls Tryz.prog 11 #[] w fun e w' => e = .returned (.bool true) ∧ Ext w w') (v1 v2 : Value) (s t : St) (a m : Int) (w : World) (hS : StAt w v1 s) (hT : StAt w v2 t) (hbs : StBd s) (hbt : StBd t) :
  Calls Tryz.prog 5 #[v1, v2, .agg #[.int .i64 a, .int .i64 m]] w fun e w' => e = .returned (.bool true) ∧ Ext w w' := by
 have c1 := fun W (E : Ext w W) => changes_any v1 v2 s t W (hS.ext E) (hT.ext E) hbs hbt
 have c2 := fun W (E : Ext w W) => rchanges_any v1 v2 s t W (hS.ext E) (hT.ext E) hbs hbt
 have u1 := fun W (E : Ext w W) => until_any v1 s a m W (hS.ext E) hbs
 have u2 := fun W (E : Ext w W) => runtil_any v1 s a m W (hS.ext E) hbs
 have b1 := fun W (E : Ext w W) => block_anyK v1 s a W (hS.ext E) hbs
 have b2 := fun W (E : Ext w W) => rBlock_any v1 s a W (hS.ext E) hbs
 have HUB := until_bd s a m
 have HBB := block_bd s a
 obtain ⟨⟨ut, ub, ue⟩, hue⟩ : ∃ p, untilE s a m = p := ⟨_, rfl⟩
 obtain ⟨⟨bt, be⟩, hbe⟩ : ∃ p, blockE s a = p := ⟨_, rfl⟩
 rw [hue] at u1 u2 HUB
 rw [hbe] at b1 b2 HBB
 unfold UtRes at u1 u2
 unfold BkRes at b1 b2
 dsimp only at u1 u2 b1 b2 HUB HBB
 have HUB := Lib.hid HUB
 have HBB := Lib.hid HBB
 clear hue hbe
 obtain ⟨a1, a2, a3, k1, k2, k3, rfl, i1, i2, i3⟩ := hS
 have HAV := Lib.hid (fun q (hq : w.heap.size ≤ q) => avSt_sv (n1 := s.store.length) (c1 := k1) (n2 := s.tape.length) (c2 := k2) (n3 := s.printed.length) (c3 := k3) (tk := s.taken) (tm := s.time) (at_ := s.at_) (dn := s.done) (wy := s.why) |>.2 ⟨av_of i1 hq, av_of i2 hq, av_of i3 hq⟩)
 clear i1 i2 i3
 obtain ⟨d1, d2, d3, l1, l2, l3, rfl, -⟩ := hT
 unfold ChRes at c1 c2
 unfold sv at c1 c2 u1 u2 b1 b2 ⊢
 obtain ⟨⟨L, er⟩, hce⟩ : ∃ p, changesE s t = p := ⟨_, rfl⟩
 have hL128 := changes_len s t
 rw [hce] at c1 c2 hL128
 dsimp only at hL128
 have HL128 := Lib.hid hL128
 dsimp only at c1 c2
 obtain ⟨W0, hW0⟩ : ∃ W0, ((w.alloc (.cells #[.slice a1 s.store.length k1, .slice a2 s.tape.length k2, .int .i64 s.taken, .slice a3 s.printed.length k3, .int .i64 s.time, .int .i64 s.at_, .int .i64 s.done, .int .i64 s.why] 24)).alloc (.cells #[.slice d1 t.store.length l1, .slice d2 t.tape.length l2, .int .i64 t.taken, .slice d3 t.printed.length l3, .int .i64 t.time, .int .i64 t.at_, .int .i64 t.done, .int .i64 t.why] 24)).alloc (.cells #[.int .i64 a, .int .i64 m] 34) = W0 := ⟨_, rfl⟩
 have E0 : Ext w W0 := by rw [← hW0]; exact (((Ext.refl w).alloc _).alloc _).alloc _
 have g0 : W0.heap[w.heap.size]? = some (.cells #[.slice a1 s.store.length k1, .slice a2 s.tape.length k2, .int .i64 s.taken, .slice a3 s.printed.length k3, .int .i64 s.time, .int .i64 s.at_, .int .i64 s.done, .int .i64 s.why] 24 (0, 0)) := by
  rw [← hW0]
  have e := heap_alloc_new w (.cells #[.slice a1 s.store.length k1, .slice a2 s.tape.length k2, .int .i64 s.taken, .slice a3 s.printed.length k3, .int .i64 s.time, .int .i64 s.at_, .int .i64 s.done, .int .i64 s.why] 24)
  exact ((((Ext.refl (w.alloc (.cells #[.slice a1 s.store.length k1, .slice a2 s.tape.length k2, .int .i64 s.taken, .slice a3 s.printed.length k3, .int .i64 s.time, .int .i64 s.at_, .int .i64 s.done, .int .i64 s.why] 24))).alloc (.cells #[.slice d1 t.store.length l1, .slice d2 t.tape.length l2, .int .i64 t.taken, .slice d3 t.printed.length l3, .int .i64 t.time, .int .i64 t.at_, .int .i64 t.done, .int .i64 t.why] 24)).alloc (.cells #[.int .i64 a, .int .i64 m] 34)).block _ (lt_of_block e)).trans e
 have g1 : W0.heap[w.heap.size + 1]? = some (.cells #[.slice d1 t.store.length l1, .slice d2 t.tape.length l2, .int .i64 t.taken, .slice d3 t.printed.length l3, .int .i64 t.time, .int .i64 t.at_, .int .i64 t.done, .int .i64 t.why] 24 (0, 0)) := by
  rw [← hW0]
  have e := heap_alloc_new (w.alloc (.cells #[.slice a1 s.store.length k1, .slice a2 s.tape.length k2, .int .i64 s.taken, .slice a3 s.printed.length k3, .int .i64 s.time, .int .i64 s.at_, .int .i64 s.done, .int .i64 s.why] 24)) (.cells #[.slice d1 t.store.length l1, .slice d2 t.tape.length l2, .int .i64 t.taken, .slice d3 t.printed.length l3, .int .i64 t.time, .int .i64 t.at_, .int .i64 t.done, .int .i64 t.why] 24)
  rw [World.size_alloc] at e
  exact (((Ext.refl _).alloc (.cells #[.int .i64 a, .int .i64 m] 34)).block _ (lt_of_block e)).trans e
 have g2 : W0.heap[w.heap.size + 2]? = some (.cells #[.int .i64 a, .int .i64 m] 34 (0, 0)) := by
  rw [← hW0]
  have e := heap_alloc_new ((w.alloc (.cells #[.slice a1 s.store.length k1, .slice a2 s.tape.length k2, .int .i64 s.taken, .slice a3 s.printed.length k3, .int .i64 s.time, .int .i64 s.at_, .int .i64 s.done, .int .i64 s.why] 24)).alloc (.cells #[.slice d1 t.store.length l1, .slice d2 t.tape.length l2, .int .i64 t.taken, .slice d3 t.printed.length l3, .int .i64 t.time, .int .i64 t.at_, .int .i64 t.done, .int .i64 t.why] 24)) (.cells #[.int .i64 a, .int .i64 m] 34)
  rw [World.size_alloc, World.size_alloc] at e
  exact e
 clear hce hbs hbt hL128
 go_enter Tryz.func5, Tryz.ntmps5
 go_upto_region 1 with fail
 (try rw [hW0])
 clear hW0
 have q0 := blk_cell g0 0 (v := .slice a1 s.store.length k1) rfl
 have q1 := blk_cell g0 1 (v := .slice a2 s.tape.length k2) rfl
 have q2 := blk_cell g0 2 (v := .int .i64 s.taken) rfl
 have q3 := blk_cell g0 3 (v := .slice a3 s.printed.length k3) rfl
 have q4 := blk_cell g0 4 (v := .int .i64 s.time) rfl
 have q5 := blk_cell g0 5 (v := .int .i64 s.at_) rfl
 have q6 := blk_cell g0 6 (v := .int .i64 s.done) rfl
 have q7 := blk_cell g0 7 (v := .int .i64 s.why) rfl
 have r0 := blk_cell g1 0 (v := .slice d1 t.store.length l1) rfl
 have r1 := blk_cell g1 1 (v := .slice d2 t.tape.length l2) rfl
 have r2 := blk_cell g1 2 (v := .int .i64 t.taken) rfl
 have r3 := blk_cell g1 3 (v := .slice d3 t.printed.length l3) rfl
 have r4 := blk_cell g1 4 (v := .int .i64 t.time) rfl
 have r5 := blk_cell g1 5 (v := .int .i64 t.at_) rfl
 have r6 := blk_cell g1 6 (v := .int .i64 t.done) rfl
 have r7 := blk_cell g1 7 (v := .int .i64 t.why) rfl
 go_wp2_with fail
 refine (c1 _ E0).mono ?_
 rintro e w1 ⟨v', rfl, o1, E1⟩
 obtain ⟨ra, rc, rfl, hr1⟩ := ch_row o1
 clear q0 q1 q2 q3 q4 q5 q6 q7 r0 r1 r2 r3 r4 r5 r6 r7 o1 c1
 have G0 := (E1.block _ (lt_of_block g0)).trans g0
 have G1 := (E1.block _ (lt_of_block g1)).trans g1
 have q0 := blk_cell G0 0 (v := .slice a1 s.store.length k1) rfl
 have q1 := blk_cell G0 1 (v := .slice a2 s.tape.length k2) rfl
 have q2 := blk_cell G0 2 (v := .int .i64 s.taken) rfl
 have q3 := blk_cell G0 3 (v := .slice a3 s.printed.length k3) rfl
 have q4 := blk_cell G0 4 (v := .int .i64 s.time) rfl
 have q5 := blk_cell G0 5 (v := .int .i64 s.at_) rfl
 have q6 := blk_cell G0 6 (v := .int .i64 s.done) rfl
 have q7 := blk_cell G0 7 (v := .int .i64 s.why) rfl
 have r0 := blk_cell G1 0 (v := .slice d1 t.store.length l1) rfl
 have r1 := blk_cell G1 1 (v := .slice d2 t.tape.length l2) rfl
 have r2 := blk_cell G1 2 (v := .int .i64 t.taken) rfl
 have r3 := blk_cell G1 3 (v := .slice d3 t.printed.length l3) rfl
 have r4 := blk_cell G1 4 (v := .int .i64 t.time) rfl
 have r5 := blk_cell G1 5 (v := .int .i64 t.at_) rfl
 have r6 := blk_cell G1 6 (v := .int .i64 t.done) rfl
 have r7 := blk_cell G1 7 (v := .int .i64 t.why) rfl
 go_wp2_with fail
 refine (c2 _ (E0.comp E1)).mono ?_
 rintro e w2 ⟨v', rfl, o2, E2⟩
 obtain ⟨rb, rd, rfl, hr2⟩ := ch_row o2
 clear q0 q1 q2 q3 q4 q5 q6 q7 r0 r1 r2 r3 r4 r5 r6 r7 o2 c2
 have E02 := E0.comp (E1.comp E2)
 have HG := Lib.hid (fun Y (E : Ext w2 Y) => And.intro (((E1.comp E2).comp E).block _ (lt_of_block g0) |>.trans g0) (((E1.comp E2).comp E).block _ (lt_of_block g2) |>.trans g2))
 have HR : Hid (L = [] ∨ ∃ g f, ra = some ⟨g, 0, none⟩ ∧ rb = some ⟨f, 0, none⟩ ∧ ChAt w2 g L ∧ ChAt w2 f L) := Lib.hid (by
  rcases hr1 with h | ⟨g, e1, h1, h2⟩
  ·exact .inl h
  ·rcases hr2 with h | ⟨f, e2, h3, h4⟩
   ·exact .inl h
   ·exact .inr ⟨g, f, e1, e2, h2.at_ext h1 E2, h4⟩)
 clear hr1 hr2 g0 g1 g2 G0 G1
 go_wp2_with fail
 go_loopw [11] (fun i wr => ∃ k : Nat, k ≤ L.length ∧ i = .int .i64 (k : Int) ∧ Ext w2 wr) (fun i _ => L.length - (intOf i).toNat)
 case atStart => exact ⟨0, by omega, rfl, Ext.refl _⟩
 case round =>
  obtain ⟨kk, hkk, rfl, EL⟩ := hrel
  by_cases hlt : kk < L.length
  ·have hltz : (kk : Int) < (L.length : Int) := by omega
   have hk0 : (0 : Int) ≤ (kk : Int) := by omega
   have HLT := Lib.hid hlt
   have wk : IntKind.i64.wrap ((kk : Int) + 1) = (kk : Int) + 1 := IntWalk.i64_in _ (by have := HL128.out; omega)
   obtain ⟨⟨x, y, z⟩, hc⟩ : ∃ c, L[kk]? = some c := ⟨_, List.getElem?_eq_getElem hlt⟩
   obtain ⟨g, f, rfl, rfl, hg, hf⟩ : ∃ g f, ra = some ⟨g, 0, none⟩ ∧ rb = some ⟨f, 0, none⟩ ∧ ChAt w2 g L ∧ ChAt w2 f L := by
    rcases HR.out with h | h
    ·rw [h] at hlt; simp at hlt
    ·exact h
   obtain ⟨p1, p2, p3⟩ := hg.ext EL kk _ hc
   obtain ⟨q1, q2, q3⟩ := hf.ext EL kk _ hc
   dsimp only at p1 p2 p3 q1 q2 q3
   go_upto_region 8 with fail
   go_quiet (fail)
   have EQ : Ext wr (wr.drewN nq) := ext_drewN (Ext.refl wr) nq
   obtain ⟨wq, hwq⟩ : ∃ wq, wr.drewN nq = wq := ⟨_, rfl⟩
   rw [hwq] at EQ ⊢
   clear hwq p1 p2 p3 q1 q2 q3
   go_wp2_with fail
   go_roundw
   case rel => exact ⟨kk + 1, HLT.out, by go_num, EL.comp EQ⟩
   case measure => have := HLT.out; simp [intOf]; omega
  ·have hltz : ¬ (kk : Int) < (L.length : Int) := by omega
   obtain rfl : kk = L.length := by omega
   obtain ⟨g0, g2⟩ := HG.out wr EL
   have q0 := blk_cell g0 0 (v := .slice a1 s.store.length k1) rfl
   have q1 := blk_cell g0 1 (v := .slice a2 s.tape.length k2) rfl
   have q2 := blk_cell g0 2 (v := .int .i64 s.taken) rfl
   have q3 := blk_cell g0 3 (v := .slice a3 s.printed.length k3) rfl
   have q4 := blk_cell g0 4 (v := .int .i64 s.time) rfl
   have q5 := blk_cell g0 5 (v := .int .i64 s.at_) rfl
   have q6 := blk_cell g0 6 (v := .int .i64 s.done) rfl
   have q7 := blk_cell g0 7 (v := .int .i64 s.why) rfl
   have r0 := blk_cell g2 0 (v := .int .i64 a) rfl
   have r1 := blk_cell g2 1 (v := .int .i64 m) rfl
   go_wp2_with fail
   refine (u1 _ (E02.comp EL)).mono ?_
   rintro e w3 ⟨v', rfl, ⟨x1, x2, x3, n1, n2, n3, rfl, j1, j2, j3⟩, Ew3⟩
   clear q0 q1 q2 q3 q4 q5 q6 q7 r0 r1 u1
   have gt := heap_alloc_new w3 (.cells #[.slice x1 ut.store.length n1, .slice x2 ut.tape.length n2, .int .i64 ut.taken, .slice x3 ut.printed.length n3, .int .i64 ut.time, .int .i64 ut.at_, .int .i64 ut.done, .int .i64 ut.why] 24)
   have ETw3 := (Ext.refl w3).alloc (.cells #[.slice x1 ut.store.length n1, .slice x2 ut.tape.length n2, .int .i64 ut.taken, .slice x3 ut.printed.length n3, .int .i64 ut.time, .int .i64 ut.at_, .int .i64 ut.done, .int .i64 ut.why] 24)
   have Hw3 := Lib.hid (show StAt w3 (sv x1 x2 x3 ut.store.length n1 ut.tape.length n2 ut.printed.length n3 ut.taken ut.time ut.at_ ut.done ut.why) ut from ⟨x1, x2, x3, n1, n2, n3, rfl, j1, j2, j3⟩)
   clear j1 j2 j3
   go_upto_region 11 with fail
   obtain ⟨X1, hX1⟩ : ∃ X1, w3.alloc (.cells #[.slice x1 ut.store.length n1, .slice x2 ut.tape.length n2, .int .i64 ut.taken, .slice x3 ut.printed.length n3, .int .i64 ut.time, .int .i64 ut.at_, .int .i64 ut.done, .int .i64 ut.why] 24) = X1 := ⟨_, rfl⟩
   rw [hX1] at gt ETw3 ⊢
   have hltb : w2.heap.size ≤ w3.heap.size := (EL.comp Ew3).size
   obtain ⟨tb, htb⟩ : ∃ tb, w3.heap.size = tb := ⟨_, rfl⟩
   rw [htb] at gt hltb ⊢
   clear hX1 htb
   have FX1 := EL.comp (Ew3.comp ETw3)
   obtain ⟨g0, g2⟩ := HG.out X1 FX1
   have q0 := blk_cell g0 0 (v := .slice a1 s.store.length k1) rfl
   have q1 := blk_cell g0 1 (v := .slice a2 s.tape.length k2) rfl
   have q2 := blk_cell g0 2 (v := .int .i64 s.taken) rfl
   have q3 := blk_cell g0 3 (v := .slice a3 s.printed.length k3) rfl
   have q4 := blk_cell g0 4 (v := .int .i64 s.time) rfl
   have q5 := blk_cell g0 5 (v := .int .i64 s.at_) rfl
   have q6 := blk_cell g0 6 (v := .int .i64 s.done) rfl
   have q7 := blk_cell g0 7 (v := .int .i64 s.why) rfl
   have r0 := blk_cell g2 0 (v := .int .i64 a) rfl
   have r1 := blk_cell g2 1 (v := .int .i64 m) rfl
   go_wp2_with fail
   refine (u2 _ (E02.comp FX1)).mono ?_
   rintro e w4 ⟨v', rfl, ⟨y1, y2, y3, o1, o2, o3, rfl, j1, j2, j3⟩, Ew4⟩
   clear q0 q1 q2 q3 q4 q5 q6 q7 r0 r1 u2
   have gu := heap_alloc_new w4 (.cells #[.slice y1 ut.store.length o1, .slice y2 ut.tape.length o2, .int .i64 ut.taken, .slice y3 ut.printed.length o3, .int .i64 ut.time, .int .i64 ut.at_, .int .i64 ut.done, .int .i64 ut.why] 24)
   have ETw4 := (Ext.refl w4).alloc (.cells #[.slice y1 ut.store.length o1, .slice y2 ut.tape.length o2, .int .i64 ut.taken, .slice y3 ut.printed.length o3, .int .i64 ut.time, .int .i64 ut.at_, .int .i64 ut.done, .int .i64 ut.why] 24)
   have Hw4 := Lib.hid (show StAt w4 (sv y1 y2 y3 ut.store.length o1 ut.tape.length o2 ut.printed.length o3 ut.taken ut.time ut.at_ ut.done ut.why) ut from ⟨y1, y2, y3, o1, o2, o3, rfl, j1, j2, j3⟩)
   clear j1 j2 j3
   go_upto_region 12 with fail
   obtain ⟨X2, hX2⟩ : ∃ X2, w4.alloc (.cells #[.slice y1 ut.store.length o1, .slice y2 ut.tape.length o2, .int .i64 ut.taken, .slice y3 ut.printed.length o3, .int .i64 ut.time, .int .i64 ut.at_, .int .i64 ut.done, .int .i64 ut.why] 24) = X2 := ⟨_, rfl⟩
   rw [hX2] at gu ETw4 ⊢
   have hlvb : w2.heap.size ≤ w4.heap.size := (FX1.comp Ew4).size
   obtain ⟨vb, hvb⟩ : ∃ vb, w4.heap.size = vb := ⟨_, rfl⟩
   rw [hvb] at gu hlvb ⊢
   have hq1 : X1.heap.size ≤ vb := by rw [← hvb]; exact Ew4.size
   clear hX2 hvb
   have FX2 := FX1.comp (Ew4.comp ETw4)
   have gt2 := ((Ew4.comp ETw4).block tb (lt_of_block gt)).trans gt
   have hne : tb ≠ vb := by have := lt_of_block gt; omega
   have q0 := blk_cell gt2 0 (v := .slice x1 ut.store.length n1) rfl
   have q1 := blk_cell gt2 1 (v := .slice x2 ut.tape.length n2) rfl
   have q2 := blk_cell gt2 2 (v := .int .i64 ut.taken) rfl
   have q3 := blk_cell gt2 3 (v := .slice x3 ut.printed.length n3) rfl
   have q4 := blk_cell gt2 4 (v := .int .i64 ut.time) rfl
   have q5 := blk_cell gt2 5 (v := .int .i64 ut.at_) rfl
   have q6 := blk_cell gt2 6 (v := .int .i64 ut.done) rfl
   have q7 := blk_cell gt2 7 (v := .int .i64 ut.why) rfl
   have r0 := blk_cell gu 0 (v := .slice y1 ut.store.length o1) rfl
   have r1 := blk_cell gu 1 (v := .slice y2 ut.tape.length o2) rfl
   have r2 := blk_cell gu 2 (v := .int .i64 ut.taken) rfl
   have r3 := blk_cell gu 3 (v := .slice y3 ut.printed.length o3) rfl
   have r4 := blk_cell gu 4 (v := .int .i64 ut.time) rfl
   have r5 := blk_cell gu 5 (v := .int .i64 ut.at_) rfl
   have r6 := blk_cell gu 6 (v := .int .i64 ut.done) rfl
   have r7 := blk_cell gu 7 (v := .int .i64 ut.why) rfl
   go_wp2_with fail
   refine (states_same _ _ ut _ (Hw3.out.ext (ETw3.comp (Ew4.comp ETw4))) (Hw4.out.ext ETw4) HUB.out).mono ?_
   rintro e w5 ⟨rfl, E5⟩
   clear q0 q1 q2 q3 q4 q5 q6 q7 r0 r1 r2 r3 r4 r5 r6 r7
   have F5 := FX2.comp E5
   have gt5 := (E5.block tb (lt_of_block gt2)).trans gt2
   have gu5 := (E5.block vb (lt_of_block gu)).trans gu
   obtain ⟨g0, g2⟩ := HG.out w5 F5
   have q0 := blk_cell g0 0 (v := .slice a1 s.store.length k1) rfl
   have q1 := blk_cell g0 1 (v := .slice a2 s.tape.length k2) rfl
   have q2 := blk_cell g0 2 (v := .int .i64 s.taken) rfl
   have q3 := blk_cell g0 3 (v := .slice a3 s.printed.length k3) rfl
   have q4 := blk_cell g0 4 (v := .int .i64 s.time) rfl
   have q5 := blk_cell g0 5 (v := .int .i64 s.at_) rfl
   have q6 := blk_cell g0 6 (v := .int .i64 s.done) rfl
   have q7 := blk_cell g0 7 (v := .int .i64 s.why) rfl
   have r0 := blk_cell g2 0 (v := .int .i64 a) rfl
   have r1 := blk_cell g2 1 (v := .int .i64 m) rfl
   go_wp2_with fail
   refine (b1 _ (E02.comp F5)).mono ?_
   rintro e w6 ⟨v', rfl, ⟨z1, z2, z3, p1, p2, p3, rfl, j1, j2, j3⟩, Ew6, hav⟩
   clear q0 q1 q2 q3 q4 q5 q6 q7 r0 r1
   have gt5' := (Ew6.block tb (lt_of_block gt5)).trans gt5
   have hv1 := avSt_sv.1 (hav tb (lt_of_block gt5) (HAV.out tb (by have := E02.size; omega)))
   have hvz := avSt_sv.1 (hav vb (lt_of_block gu5) (HAV.out vb (by have := E02.size; omega)))
   clear hav
   have KP := s8_kp (M := fun q => q = tb) (w := w6) (b := tb) (n0 := .slice z1 bt.store.length p1) (n1 := .slice z2 bt.tape.length p2) (n2 := .int .i64 bt.taken) (n3 := .slice z3 bt.printed.length p3) (n4 := .int .i64 bt.time) (n5 := .int .i64 bt.at_) (n6 := .int .i64 bt.done) (n7 := .int .i64 bt.why) rfl
   unfold S8 at KP
   have gt5V := cells_set (cells_set (cells_set (cells_set (cells_set (cells_set (cells_set (cells_set gt5' 0 (.slice z1 bt.store.length p1)) 1 (.slice z2 bt.tape.length p2)) 2 (.int .i64 bt.taken)) 3 (.slice z3 bt.printed.length p3)) 4 (.int .i64 bt.time)) 5 (.int .i64 bt.at_)) 6 (.int .i64 bt.done)) 7 (.int .i64 bt.why)
   (try simp at gt5V)
   have Jw6 : IntsAt ((((((((w6.setCell ⟨tb, 0, none⟩ (.slice z1 bt.store.length p1)).setCell ⟨tb, 1, none⟩ (.slice z2 bt.tape.length p2)).setCell ⟨tb, 2, none⟩ (.int .i64 bt.taken)).setCell ⟨tb, 3, none⟩ (.slice z3 bt.printed.length p3)).setCell ⟨tb, 4, none⟩ (.int .i64 bt.time)).setCell ⟨tb, 5, none⟩ (.int .i64 bt.at_)).setCell ⟨tb, 6, none⟩ (.int .i64 bt.done)).setCell ⟨tb, 7, none⟩ (.int .i64 bt.why)) z1 bt.store ∧ IntsAt ((((((((w6.setCell ⟨tb, 0, none⟩ (.slice z1 bt.store.length p1)).setCell ⟨tb, 1, none⟩ (.slice z2 bt.tape.length p2)).setCell ⟨tb, 2, none⟩ (.int .i64 bt.taken)).setCell ⟨tb, 3, none⟩ (.slice z3 bt.printed.length p3)).setCell ⟨tb, 4, none⟩ (.int .i64 bt.time)).setCell ⟨tb, 5, none⟩ (.int .i64 bt.at_)).setCell ⟨tb, 6, none⟩ (.int .i64 bt.done)).setCell ⟨tb, 7, none⟩ (.int .i64 bt.why)) z2 bt.tape ∧ IntsAt ((((((((w6.setCell ⟨tb, 0, none⟩ (.slice z1 bt.store.length p1)).setCell ⟨tb, 1, none⟩ (.slice z2 bt.tape.length p2)).setCell ⟨tb, 2, none⟩ (.int .i64 bt.taken)).setCell ⟨tb, 3, none⟩ (.slice z3 bt.printed.length p3)).setCell ⟨tb, 4, none⟩ (.int .i64 bt.time)).setCell ⟨tb, 5, none⟩ (.int .i64 bt.at_)).setCell ⟨tb, 6, none⟩ (.int .i64 bt.done)).setCell ⟨tb, 7, none⟩ (.int .i64 bt.why)) z3 bt.printed := ⟨ints_av (ints_av (ints_av (ints_av (ints_av (ints_av (ints_av (ints_av j1 hv1.1) hv1.1) hv1.1) hv1.1) hv1.1) hv1.1) hv1.1) hv1.1, ints_av (ints_av (ints_av (ints_av (ints_av (ints_av (ints_av (ints_av j2 hv1.2.1) hv1.2.1) hv1.2.1) hv1.2.1) hv1.2.1) hv1.2.1) hv1.2.1) hv1.2.1, ints_av (ints_av (ints_av (ints_av (ints_av (ints_av (ints_av (ints_av j3 hv1.2.2) hv1.2.2) hv1.2.2) hv1.2.2) hv1.2.2) hv1.2.2) hv1.2.2) hv1.2.2⟩
   have FV1 : Ext w2 ((((((((w6.setCell ⟨tb, 0, none⟩ (.slice z1 bt.store.length p1)).setCell ⟨tb, 1, none⟩ (.slice z2 bt.tape.length p2)).setCell ⟨tb, 2, none⟩ (.int .i64 bt.taken)).setCell ⟨tb, 3, none⟩ (.slice z3 bt.printed.length p3)).setCell ⟨tb, 4, none⟩ (.int .i64 bt.time)).setCell ⟨tb, 5, none⟩ (.int .i64 bt.at_)).setCell ⟨tb, 6, none⟩ (.int .i64 bt.done)).setCell ⟨tb, 7, none⟩ (.int .i64 bt.why)) := (F5.comp Ew6).below5 KP (fun b hb => by omega)
   have c0 := blk_cell gt5' 0 (v := .slice x1 ut.store.length n1) rfl
   have c1 := blk_cell gt5' 1 (v := .slice x2 ut.tape.length n2) rfl
   have c2 := blk_cell gt5' 2 (v := .int .i64 ut.taken) rfl
   have c3 := blk_cell gt5' 3 (v := .slice x3 ut.printed.length n3) rfl
   have c4 := blk_cell gt5' 4 (v := .int .i64 ut.time) rfl
   have c5 := blk_cell gt5' 5 (v := .int .i64 ut.at_) rfl
   have c6 := blk_cell gt5' 6 (v := .int .i64 ut.done) rfl
   have c7 := blk_cell gt5' 7 (v := .int .i64 ut.why) rfl
   have f0 := blk_free gt5' 0
   have f1 := blk_free gt5' 1
   have f2 := blk_free gt5' 2
   have f3 := blk_free gt5' 3
   have f4 := blk_free gt5' 4
   have f5 := blk_free gt5' 5
   have f6 := blk_free gt5' 6
   have f7 := blk_free gt5' 7
   go_upto_region 15 with fail
   generalize ((((((((w6.setCell ⟨tb, 0, none⟩ (.slice z1 bt.store.length p1)).setCell ⟨tb, 1, none⟩ (.slice z2 bt.tape.length p2)).setCell ⟨tb, 2, none⟩ (.int .i64 bt.taken)).setCell ⟨tb, 3, none⟩ (.slice z3 bt.printed.length p3)).setCell ⟨tb, 4, none⟩ (.int .i64 bt.time)).setCell ⟨tb, 5, none⟩ (.int .i64 bt.at_)).setCell ⟨tb, 6, none⟩ (.int .i64 bt.done)).setCell ⟨tb, 7, none⟩ (.int .i64 bt.why)) = V1 at gt5V Jw6 FV1 KP ⊢
   clear f0 f1 f2 f3 f4 f5 f6 f7 c0 c1 c2 c3 c4 c5 c6 c7
   have gu6 := (KP.block vb (lt_of_block ((Ew6.block vb (lt_of_block gu5)).trans gu5)) (fun e => hne e.symm)).trans ((Ew6.block vb (lt_of_block gu5)).trans gu5)
   clear KP
   obtain ⟨g0, g2⟩ := HG.out V1 FV1
   have q0 := blk_cell g0 0 (v := .slice a1 s.store.length k1) rfl
   have q1 := blk_cell g0 1 (v := .slice a2 s.tape.length k2) rfl
   have q2 := blk_cell g0 2 (v := .int .i64 s.taken) rfl
   have q3 := blk_cell g0 3 (v := .slice a3 s.printed.length k3) rfl
   have q4 := blk_cell g0 4 (v := .int .i64 s.time) rfl
   have q5 := blk_cell g0 5 (v := .int .i64 s.at_) rfl
   have q6 := blk_cell g0 6 (v := .int .i64 s.done) rfl
   have q7 := blk_cell g0 7 (v := .int .i64 s.why) rfl
   have r0 := blk_cell g2 0 (v := .int .i64 a) rfl
   have r1 := blk_cell g2 1 (v := .int .i64 m) rfl
   go_wp2_with fail
   refine (b2 _ (E02.comp FV1)).mono ?_
   rintro e w7 ⟨v', rfl, ⟨s1, s2, s3, m1, m2, m3, rfl, j1, j2, j3⟩, Ew7, hav⟩
   clear q0 q1 q2 q3 q4 q5 q6 q7 r0 r1
   have gu6' := (Ew7.block vb (lt_of_block gu6)).trans gu6
   have hv1 := avSt_sv.1 (hav vb (lt_of_block gu6) (HAV.out vb (by have := E02.size; omega)))
   clear hav
   have KP := s8_kp (M := fun q => q = vb) (w := w7) (b := vb) (n0 := .slice s1 bt.store.length m1) (n1 := .slice s2 bt.tape.length m2) (n2 := .int .i64 bt.taken) (n3 := .slice s3 bt.printed.length m3) (n4 := .int .i64 bt.time) (n5 := .int .i64 bt.at_) (n6 := .int .i64 bt.done) (n7 := .int .i64 bt.why) rfl
   unfold S8 at KP
   have gt6 := (KP.block tb (lt_of_block ((Ew7.block tb (lt_of_block gt5V)).trans gt5V)) hne).trans ((Ew7.block tb (lt_of_block gt5V)).trans gt5V)
   have gu6V := cells_set (cells_set (cells_set (cells_set (cells_set (cells_set (cells_set (cells_set gu6' 0 (.slice s1 bt.store.length m1)) 1 (.slice s2 bt.tape.length m2)) 2 (.int .i64 bt.taken)) 3 (.slice s3 bt.printed.length m3)) 4 (.int .i64 bt.time)) 5 (.int .i64 bt.at_)) 6 (.int .i64 bt.done)) 7 (.int .i64 bt.why)
   (try simp at gu6V)
   have Jz7 : IntsAt ((((((((w7.setCell ⟨vb, 0, none⟩ (.slice s1 bt.store.length m1)).setCell ⟨vb, 1, none⟩ (.slice s2 bt.tape.length m2)).setCell ⟨vb, 2, none⟩ (.int .i64 bt.taken)).setCell ⟨vb, 3, none⟩ (.slice s3 bt.printed.length m3)).setCell ⟨vb, 4, none⟩ (.int .i64 bt.time)).setCell ⟨vb, 5, none⟩ (.int .i64 bt.at_)).setCell ⟨vb, 6, none⟩ (.int .i64 bt.done)).setCell ⟨vb, 7, none⟩ (.int .i64 bt.why)) z1 bt.store ∧ IntsAt ((((((((w7.setCell ⟨vb, 0, none⟩ (.slice s1 bt.store.length m1)).setCell ⟨vb, 1, none⟩ (.slice s2 bt.tape.length m2)).setCell ⟨vb, 2, none⟩ (.int .i64 bt.taken)).setCell ⟨vb, 3, none⟩ (.slice s3 bt.printed.length m3)).setCell ⟨vb, 4, none⟩ (.int .i64 bt.time)).setCell ⟨vb, 5, none⟩ (.int .i64 bt.at_)).setCell ⟨vb, 6, none⟩ (.int .i64 bt.done)).setCell ⟨vb, 7, none⟩ (.int .i64 bt.why)) z2 bt.tape ∧ IntsAt ((((((((w7.setCell ⟨vb, 0, none⟩ (.slice s1 bt.store.length m1)).setCell ⟨vb, 1, none⟩ (.slice s2 bt.tape.length m2)).setCell ⟨vb, 2, none⟩ (.int .i64 bt.taken)).setCell ⟨vb, 3, none⟩ (.slice s3 bt.printed.length m3)).setCell ⟨vb, 4, none⟩ (.int .i64 bt.time)).setCell ⟨vb, 5, none⟩ (.int .i64 bt.at_)).setCell ⟨vb, 6, none⟩ (.int .i64 bt.done)).setCell ⟨vb, 7, none⟩ (.int .i64 bt.why)) z3 bt.printed := ⟨ints_av (ints_av (ints_av (ints_av (ints_av (ints_av (ints_av (ints_av (Jw6.1.ext Ew7) hvz.1) hvz.1) hvz.1) hvz.1) hvz.1) hvz.1) hvz.1) hvz.1, ints_av (ints_av (ints_av (ints_av (ints_av (ints_av (ints_av (ints_av (Jw6.2.1.ext Ew7) hvz.2.1) hvz.2.1) hvz.2.1) hvz.2.1) hvz.2.1) hvz.2.1) hvz.2.1) hvz.2.1, ints_av (ints_av (ints_av (ints_av (ints_av (ints_av (ints_av (ints_av (Jw6.2.2.ext Ew7) hvz.2.2) hvz.2.2) hvz.2.2) hvz.2.2) hvz.2.2) hvz.2.2) hvz.2.2) hvz.2.2⟩
   have Jw7 : IntsAt ((((((((w7.setCell ⟨vb, 0, none⟩ (.slice s1 bt.store.length m1)).setCell ⟨vb, 1, none⟩ (.slice s2 bt.tape.length m2)).setCell ⟨vb, 2, none⟩ (.int .i64 bt.taken)).setCell ⟨vb, 3, none⟩ (.slice s3 bt.printed.length m3)).setCell ⟨vb, 4, none⟩ (.int .i64 bt.time)).setCell ⟨vb, 5, none⟩ (.int .i64 bt.at_)).setCell ⟨vb, 6, none⟩ (.int .i64 bt.done)).setCell ⟨vb, 7, none⟩ (.int .i64 bt.why)) s1 bt.store ∧ IntsAt ((((((((w7.setCell ⟨vb, 0, none⟩ (.slice s1 bt.store.length m1)).setCell ⟨vb, 1, none⟩ (.slice s2 bt.tape.length m2)).setCell ⟨vb, 2, none⟩ (.int .i64 bt.taken)).setCell ⟨vb, 3, none⟩ (.slice s3 bt.printed.length m3)).setCell ⟨vb, 4, none⟩ (.int .i64 bt.time)).setCell ⟨vb, 5, none⟩ (.int .i64 bt.at_)).setCell ⟨vb, 6, none⟩ (.int .i64 bt.done)).setCell ⟨vb, 7, none⟩ (.int .i64 bt.why)) s2 bt.tape ∧ IntsAt ((((((((w7.setCell ⟨vb, 0, none⟩ (.slice s1 bt.store.length m1)).setCell ⟨vb, 1, none⟩ (.slice s2 bt.tape.length m2)).setCell ⟨vb, 2, none⟩ (.int .i64 bt.taken)).setCell ⟨vb, 3, none⟩ (.slice s3 bt.printed.length m3)).setCell ⟨vb, 4, none⟩ (.int .i64 bt.time)).setCell ⟨vb, 5, none⟩ (.int .i64 bt.at_)).setCell ⟨vb, 6, none⟩ (.int .i64 bt.done)).setCell ⟨vb, 7, none⟩ (.int .i64 bt.why)) s3 bt.printed := ⟨ints_av (ints_av (ints_av (ints_av (ints_av (ints_av (ints_av (ints_av j1 hv1.1) hv1.1) hv1.1) hv1.1) hv1.1) hv1.1) hv1.1) hv1.1, ints_av (ints_av (ints_av (ints_av (ints_av (ints_av (ints_av (ints_av j2 hv1.2.1) hv1.2.1) hv1.2.1) hv1.2.1) hv1.2.1) hv1.2.1) hv1.2.1) hv1.2.1, ints_av (ints_av (ints_av (ints_av (ints_av (ints_av (ints_av (ints_av j3 hv1.2.2) hv1.2.2) hv1.2.2) hv1.2.2) hv1.2.2) hv1.2.2) hv1.2.2) hv1.2.2⟩
   have FV2 : Ext w2 ((((((((w7.setCell ⟨vb, 0, none⟩ (.slice s1 bt.store.length m1)).setCell ⟨vb, 1, none⟩ (.slice s2 bt.tape.length m2)).setCell ⟨vb, 2, none⟩ (.int .i64 bt.taken)).setCell ⟨vb, 3, none⟩ (.slice s3 bt.printed.length m3)).setCell ⟨vb, 4, none⟩ (.int .i64 bt.time)).setCell ⟨vb, 5, none⟩ (.int .i64 bt.at_)).setCell ⟨vb, 6, none⟩ (.int .i64 bt.done)).setCell ⟨vb, 7, none⟩ (.int .i64 bt.why)) := (FV1.comp Ew7).below5 KP (fun b hb => by omega)
   have c0 := blk_cell gu6' 0 (v := .slice y1 ut.store.length o1) rfl
   have c1 := blk_cell gu6' 1 (v := .slice y2 ut.tape.length o2) rfl
   have c2 := blk_cell gu6' 2 (v := .int .i64 ut.taken) rfl
   have c3 := blk_cell gu6' 3 (v := .slice y3 ut.printed.length o3) rfl
   have c4 := blk_cell gu6' 4 (v := .int .i64 ut.time) rfl
   have c5 := blk_cell gu6' 5 (v := .int .i64 ut.at_) rfl
   have c6 := blk_cell gu6' 6 (v := .int .i64 ut.done) rfl
   have c7 := blk_cell gu6' 7 (v := .int .i64 ut.why) rfl
   have f0 := blk_free gu6' 0
   have f1 := blk_free gu6' 1
   have f2 := blk_free gu6' 2
   have f3 := blk_free gu6' 3
   have f4 := blk_free gu6' 4
   have f5 := blk_free gu6' 5
   have f6 := blk_free gu6' 6
   have f7 := blk_free gu6' 7
   go_upto_region 16 with fail
   generalize ((((((((w7.setCell ⟨vb, 0, none⟩ (.slice s1 bt.store.length m1)).setCell ⟨vb, 1, none⟩ (.slice s2 bt.tape.length m2)).setCell ⟨vb, 2, none⟩ (.int .i64 bt.taken)).setCell ⟨vb, 3, none⟩ (.slice s3 bt.printed.length m3)).setCell ⟨vb, 4, none⟩ (.int .i64 bt.time)).setCell ⟨vb, 5, none⟩ (.int .i64 bt.at_)).setCell ⟨vb, 6, none⟩ (.int .i64 bt.done)).setCell ⟨vb, 7, none⟩ (.int .i64 bt.why)) = V2 at gu6V Jw7 Jz7 FV2 gt6 ⊢
   clear f0 f1 f2 f3 f4 f5 f6 f7 c0 c1 c2 c3 c4 c5 c6 c7
   clear KP
   have q0 := blk_cell gt6 0 (v := .slice z1 bt.store.length p1) rfl
   have q1 := blk_cell gt6 1 (v := .slice z2 bt.tape.length p2) rfl
   have q2 := blk_cell gt6 2 (v := .int .i64 bt.taken) rfl
   have q3 := blk_cell gt6 3 (v := .slice z3 bt.printed.length p3) rfl
   have q4 := blk_cell gt6 4 (v := .int .i64 bt.time) rfl
   have q5 := blk_cell gt6 5 (v := .int .i64 bt.at_) rfl
   have q6 := blk_cell gt6 6 (v := .int .i64 bt.done) rfl
   have q7 := blk_cell gt6 7 (v := .int .i64 bt.why) rfl
   have r0 := blk_cell gu6V 0 (v := .slice s1 bt.store.length m1) rfl
   have r1 := blk_cell gu6V 1 (v := .slice s2 bt.tape.length m2) rfl
   have r2 := blk_cell gu6V 2 (v := .int .i64 bt.taken) rfl
   have r3 := blk_cell gu6V 3 (v := .slice s3 bt.printed.length m3) rfl
   have r4 := blk_cell gu6V 4 (v := .int .i64 bt.time) rfl
   have r5 := blk_cell gu6V 5 (v := .int .i64 bt.at_) rfl
   have r6 := blk_cell gu6V 6 (v := .int .i64 bt.done) rfl
   have r7 := blk_cell gu6V 7 (v := .int .i64 bt.why) rfl
   go_wp2_with fail
   refine (states_same _ _ bt _ (show StAt V2 (sv z1 z2 z3 bt.store.length p1 bt.tape.length p2 bt.printed.length p3 bt.taken bt.time bt.at_ bt.done bt.why) bt from ⟨z1, z2, z3, p1, p2, p3, rfl, Jz7⟩) (show StAt V2 (sv s1 s2 s3 bt.store.length m1 bt.tape.length m2 bt.printed.length m3 bt.taken bt.time bt.at_ bt.done bt.why) bt from ⟨s1, s2, s3, m1, m2, m3, rfl, Jw7⟩) HBB.out).mono ?_
   rintro e w8 ⟨rfl, E8⟩
   clear q0 q1 q2 q3 q4 q5 q6 q7 r0 r1 r2 r3 r4 r5 r6 r7
   go_wp2_with fail
   refine (haw _).mono ?_
   rintro e w9 ⟨rfl, E9⟩
   go_wp2_with fail
   refine bodyPost_ret (v := .bool true) (by simp [results, Tryz.results5, go_sem]) rfl ⟨rfl, E02.comp (FV2.comp (E8.comp E9))⟩
end Go.Proofs.YtnhpcoagkmgdoaaGreat

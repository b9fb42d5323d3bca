import Derived.Test.YtnhpcoagkmgdoaaXDL7
import Derived.Test.YtnhpcoagkmgdoaaXDL8
import Derived.Test.YtnhpcoagkmgdoaaX29
import Derived.Test.YtnhpcoagkmgdoaaX22
import Derived.Test.YtnhpcoagkmgdoaaX7
set_option linter.unusedVariables false
set_option linter.unusedSimpArgs false
/- The law DumpNone. -/
namespace Go.Q
open Go.RowKit
/-- losses whose Bits become 24 -/
def quietOf (L : List Loss) : List Loss := L.map fun y => ⟨y.after, y.addr, 24⟩
theorem quiet_of (L : List Loss) : quietL (quietOf L) := by
 intro y hy
 obtain ⟨x, _, rfl⟩ := List.mem_map.1 hy
 rfl
theorem quiet_take {L : List Loss} {i : Nat} (h : i < L.length) : quietOf (L.take (i + 1)) = quietOf (L.take i) ++ [⟨(L[i]?.getD ⟨0, 0, 0⟩).after, (L[i]?.getD ⟨0, 0, 0⟩).addr, 24⟩] := by
 unfold quietOf
 rw [List.take_add_one, List.getElem?_eq_getElem h, List.map_append]
 rfl
theorem quiet_len (L : List Loss) (i : Nat) (h : i ≤ L.length) : (quietOf (L.take i)).length = i := by
 unfold quietOf
 rw [List.length_map, List.length_take]
 omega
end Go.Q
namespace Go.Proofs.Ytnhpcoagkmgdoaa
open Go.RowKit Go.Q Go.Shelf Go.Maps Go.Joins
set_option maxHeartbeats 4000000
set_option maxRecDepth 100000
theorem own_lossAt {w : World} {nb n c : Nat} {a : Option Addr} {L : List Loss} (h : w.ownsRow nb 61 3 (.slice a n c) L.length (lvs L)) : LossAt w a L := by
 obtain ⟨a', c', e, h2⟩ := own_loss h
 cases e
 rcases h2 with h2 | ⟨b, off, cs, fr, ha, hb, hc⟩
 ·exact .inl h2
 ·exact .inr ⟨b, off, ha, lt_of_block hb, hc⟩
/-- Blind with losses that change nothing -/
def ParRes (U : St) (W : World) (e : Ending) (W' : World) : Prop := ∃ D F, StRes (D, F) W e W' ∧ (F ≠ 0 ∨ (F = 0 ∧ D = U))
theorem dumpNone_of (haw : AwakeT) (s U : St) (er lost : Int) (a1 a2 a3 la : Option Addr) (k1 k2 k3 ln lc m : Nat) (L : List Loss) (w : World) (hb : StBd U) (hm : m < 256)
  (hl : L.length = ln) (hln : ln * 24 ≤ 140737488351232) (hL : LossAt w la L)
  (hrn : ∀ W, Ext w W → Calls Try.prog 31 #[sv a1 a2 a3 s.store.length k1 s.tape.length k2 s.printed.length k3 s.taken s.time s.at_ s.done s.why, .int .i64 (m : Int)] W (StRes (U, er) W))
  (hgd : ∀ W, Ext w W → Calls Try.prog 27 #[sv a1 a2 a3 s.store.length k1 s.tape.length k2 s.printed.length k3 s.taken s.time s.at_ s.done s.why, .slice none 0 0, .int .i64 (m : Int)] W (GdRes (U, lost, er) W))
  (hbl : ∀ W, Ext w W → Calls Try.prog 35 #[sv a1 a2 a3 s.store.length k1 s.tape.length k2 s.printed.length k3 s.taken s.time s.at_ s.done s.why, .slice none 0 0, .int .i64 (m : Int)] W (StRes (U, er) W))
  (hrc : ∀ W, Ext w W → Calls Try.prog 34 #[sv a1 a2 a3 s.store.length k1 s.tape.length k2 s.printed.length k3 s.taken s.time s.at_ s.done s.why, .slice none 0 0, .int .i64 7, .int .i64 (m : Int)] W (GdRes (U, 0, er) W))
  (hpa : ∀ W la lc, Ext w W → LossAt W la (quietOf L) → Calls Try.prog 35 #[sv a1 a2 a3 s.store.length k1 s.tape.length k2 s.printed.length k3 s.taken s.time s.at_ s.done s.why, .slice la ln lc, .int .i64 (m : Int)] W (ParRes U W))
  (hz : (er == 0) = false ∨ ((er == 0) = true ∧ (lost != -1) = false)) :
  Calls Try.prog 12 #[sv a1 a2 a3 s.store.length k1 s.tape.length k2 s.printed.length k3 s.taken s.time s.at_ s.done s.why, .slice la ln lc, .int .u8 (m : Int)] w fun e w' => e = .returned (.bool true) ∧ Ext w w' := by
 have g3 := heap_alloc_new w (.cells #[.slice a1 s.store.length k1, .slice a2 s.tape.length k2, .int .i64 s.taken, .slice a3 s.printed.length k3, .int .i64 s.time, .int .i64 s.at_, .int .i64 s.done, .int .i64 s.why] 33)
 have E0 : Ext w (w.alloc (.cells #[.slice a1 s.store.length k1, .slice a2 s.tape.length k2, .int .i64 s.taken, .slice a3 s.printed.length k3, .int .i64 s.time, .int .i64 s.at_, .int .i64 s.done, .int .i64 s.why] 33)) := (Ext.refl w).alloc _
 have v0 : IntKind.i64.wrap (m : Int) = (m : Int) := IntWalk.i64_in _ (by omega)
 have HG3 := Lib.hid (fun Y E => ((show Ext (w.alloc (.cells #[.slice a1 s.store.length k1, .slice a2 s.tape.length k2, .int .i64 s.taken, .slice a3 s.printed.length k3, .int .i64 s.time, .int .i64 s.at_, .int .i64 s.done, .int .i64 s.why] 33)) Y from E).block w.heap.size (lt_of_block g3)).trans g3)
 have HL := Lib.hid hL
 have HN := Lib.hid hl
 have HB := Lib.hid hb
 have HZ := Lib.hid hz
 clear hL hl hb hz
 obtain ⟨il, hil, hlz, hls, hlb⟩ := info_parts Try.infoL
 go_enter Try.func12, Try.ntmps12
 have q0 := blk_cell g3 0 (v := .slice a1 s.store.length k1) rfl
 have q1 := blk_cell g3 1 (v := .slice a2 s.tape.length k2) rfl
 have q2 := blk_cell g3 2 (v := .int .i64 s.taken) rfl
 have q3 := blk_cell g3 3 (v := .slice a3 s.printed.length k3) rfl
 have q4 := blk_cell g3 4 (v := .int .i64 s.time) rfl
 have q5 := blk_cell g3 5 (v := .int .i64 s.at_) rfl
 have q6 := blk_cell g3 6 (v := .int .i64 s.done) rfl
 have q7 := blk_cell g3 7 (v := .int .i64 s.why) rfl
 go_wp2_with fail
 refine (hrn _ E0).mono ?_
 rintro e w1 ⟨v', rfl, ⟨b1, b2, b3, l1, l2, l3, rfl, j1, j2, j3⟩, E1⟩
 dsimp only at j1 j2 j3 ⊢
 clear q0 q1 q2 q3 q4 q5 q6 q7 hrn g3
 have gt := heap_alloc_new w1 (.cells #[.slice b1 U.store.length l1, .slice b2 U.tape.length l2, .int .i64 U.taken, .slice b3 U.printed.length l3, .int .i64 U.time, .int .i64 U.at_, .int .i64 U.done, .int .i64 U.why] 33)
 have ET := (Ext.refl w1).alloc (.cells #[.slice b1 U.store.length l1, .slice b2 U.tape.length l2, .int .i64 U.taken, .slice b3 U.printed.length l3, .int .i64 U.time, .int .i64 U.at_, .int .i64 U.done, .int .i64 U.why] 33)
 have HT := Lib.hid (show StAt w1 (sv b1 b2 b3 U.store.length l1 U.tape.length l2 U.printed.length l3 U.taken U.time U.at_ U.done U.why) U from ⟨b1, b2, b3, l1, l2, l3, rfl, j1, j2, j3⟩)
 clear j1 j2 j3
 go_upto_region 2 with fail
 obtain ⟨X1, hX1⟩ : ∃ X1, w1.alloc (.cells #[.slice b1 U.store.length l1, .slice b2 U.tape.length l2, .int .i64 U.taken, .slice b3 U.printed.length l3, .int .i64 U.time, .int .i64 U.at_, .int .i64 U.done, .int .i64 U.why] 33) = X1 := ⟨_, rfl⟩
 rw [hX1] at gt ET ⊢
 obtain ⟨tb, htb⟩ : ∃ tb, w1.heap.size = tb := ⟨_, rfl⟩
 rw [htb] at gt ⊢
 clear hX1 htb
 have g3 := HG3.out X1 (E1.comp ET)
 have q0 := blk_cell g3 0 (v := .slice a1 s.store.length k1) rfl
 have q1 := blk_cell g3 1 (v := .slice a2 s.tape.length k2) rfl
 have q2 := blk_cell g3 2 (v := .int .i64 s.taken) rfl
 have q3 := blk_cell g3 3 (v := .slice a3 s.printed.length k3) rfl
 have q4 := blk_cell g3 4 (v := .int .i64 s.time) rfl
 have q5 := blk_cell g3 5 (v := .int .i64 s.at_) rfl
 have q6 := blk_cell g3 6 (v := .int .i64 s.done) rfl
 have q7 := blk_cell g3 7 (v := .int .i64 s.why) rfl
 go_wp2_with fail
 refine (hgd _ (E0.comp (E1.comp ET))).mono ?_
 rintro e w2 ⟨v', rfl, ⟨c1, c2, c3, m1, m2, m3, rfl, j1, j2, j3⟩, E2⟩
 dsimp only at j1 j2 j3 ⊢
 clear q0 q1 q2 q3 q4 q5 q6 q7 hgd g3
 have gu := heap_alloc_new w2 (.cells #[.slice c1 U.store.length m1, .slice c2 U.tape.length m2, .int .i64 U.taken, .slice c3 U.printed.length m3, .int .i64 U.time, .int .i64 U.at_, .int .i64 U.done, .int .i64 U.why] 33)
 have EU := (Ext.refl w2).alloc (.cells #[.slice c1 U.store.length m1, .slice c2 U.tape.length m2, .int .i64 U.taken, .slice c3 U.printed.length m3, .int .i64 U.time, .int .i64 U.at_, .int .i64 U.done, .int .i64 U.why] 33)
 have HU := Lib.hid (show StAt w2 (sv c1 c2 c3 U.store.length m1 U.tape.length m2 U.printed.length m3 U.taken U.time U.at_ U.done U.why) U from ⟨c1, c2, c3, m1, m2, m3, rfl, j1, j2, j3⟩)
 clear j1 j2 j3
 go_upto_region 3 with fail
 obtain ⟨X2, hX2⟩ : ∃ X2, w2.alloc (.cells #[.slice c1 U.store.length m1, .slice c2 U.tape.length m2, .int .i64 U.taken, .slice c3 U.printed.length m3, .int .i64 U.time, .int .i64 U.at_, .int .i64 U.done, .int .i64 U.why] 33) = X2 := ⟨_, rfl⟩
 rw [hX2] at gu EU ⊢
 obtain ⟨ub, hub⟩ : ∃ ub, w2.heap.size = ub := ⟨_, rfl⟩
 rw [hub] at gu ⊢
 clear hX2 hub
 have E12 : Ext X1 X2 := E2.comp EU
 have g3 := HG3.out X2 (E1.comp (ET.comp E12))
 have q0 := blk_cell g3 0 (v := .slice a1 s.store.length k1) rfl
 have q1 := blk_cell g3 1 (v := .slice a2 s.tape.length k2) rfl
 have q2 := blk_cell g3 2 (v := .int .i64 s.taken) rfl
 have q3 := blk_cell g3 3 (v := .slice a3 s.printed.length k3) rfl
 have q4 := blk_cell g3 4 (v := .int .i64 s.time) rfl
 have q5 := blk_cell g3 5 (v := .int .i64 s.at_) rfl
 have q6 := blk_cell g3 6 (v := .int .i64 s.done) rfl
 have q7 := blk_cell g3 7 (v := .int .i64 s.why) rfl
 go_wp2_with fail
 refine (hbl _ (E0.comp (E1.comp (ET.comp E12)))).mono ?_
 rintro e w3 ⟨v', rfl, ⟨d1, d2, d3, n1, n2, n3, rfl, j1, j2, j3⟩, E3⟩
 dsimp only at j1 j2 j3 ⊢
 clear q0 q1 q2 q3 q4 q5 q6 q7 hbl g3
 have gv := heap_alloc_new w3 (.cells #[.slice d1 U.store.length n1, .slice d2 U.tape.length n2, .int .i64 U.taken, .slice d3 U.printed.length n3, .int .i64 U.time, .int .i64 U.at_, .int .i64 U.done, .int .i64 U.why] 33)
 have EV := (Ext.refl w3).alloc (.cells #[.slice d1 U.store.length n1, .slice d2 U.tape.length n2, .int .i64 U.taken, .slice d3 U.printed.length n3, .int .i64 U.time, .int .i64 U.at_, .int .i64 U.done, .int .i64 U.why] 33)
 have HV := Lib.hid (show StAt w3 (sv d1 d2 d3 U.store.length n1 U.tape.length n2 U.printed.length n3 U.taken U.time U.at_ U.done U.why) U from ⟨d1, d2, d3, n1, n2, n3, rfl, j1, j2, j3⟩)
 clear j1 j2 j3
 go_upto_region 4 with fail
 obtain ⟨X3, hX3⟩ : ∃ X3, w3.alloc (.cells #[.slice d1 U.store.length n1, .slice d2 U.tape.length n2, .int .i64 U.taken, .slice d3 U.printed.length n3, .int .i64 U.time, .int .i64 U.at_, .int .i64 U.done, .int .i64 U.why] 33) = X3 := ⟨_, rfl⟩
 rw [hX3] at gv EV ⊢
 obtain ⟨vb, hvb⟩ : ∃ vb, w3.heap.size = vb := ⟨_, rfl⟩
 rw [hvb] at gv ⊢
 clear hX3 hvb
 have E23 : Ext X2 X3 := E3.comp EV
 have g3 := HG3.out X3 (E1.comp (ET.comp (E12.comp E23)))
 have q0 := blk_cell g3 0 (v := .slice a1 s.store.length k1) rfl
 have q1 := blk_cell g3 1 (v := .slice a2 s.tape.length k2) rfl
 have q2 := blk_cell g3 2 (v := .int .i64 s.taken) rfl
 have q3 := blk_cell g3 3 (v := .slice a3 s.printed.length k3) rfl
 have q4 := blk_cell g3 4 (v := .int .i64 s.time) rfl
 have q5 := blk_cell g3 5 (v := .int .i64 s.at_) rfl
 have q6 := blk_cell g3 6 (v := .int .i64 s.done) rfl
 have q7 := blk_cell g3 7 (v := .int .i64 s.why) rfl
 go_wp2_with fail
 refine (hrc _ (E0.comp (E1.comp (ET.comp (E12.comp E23))))).mono ?_
 rintro e w4 ⟨v', rfl, ⟨f1, f2, f3, o1, o2, o3, rfl, j1, j2, j3⟩, E4⟩
 dsimp only at j1 j2 j3 ⊢
 clear q0 q1 q2 q3 q4 q5 q6 q7 hrc g3
 have gw := heap_alloc_new w4 (.cells #[.slice f1 U.store.length o1, .slice f2 U.tape.length o2, .int .i64 U.taken, .slice f3 U.printed.length o3, .int .i64 U.time, .int .i64 U.at_, .int .i64 U.done, .int .i64 U.why] 33)
 have EW := (Ext.refl w4).alloc (.cells #[.slice f1 U.store.length o1, .slice f2 U.tape.length o2, .int .i64 U.taken, .slice f3 U.printed.length o3, .int .i64 U.time, .int .i64 U.at_, .int .i64 U.done, .int .i64 U.why] 33)
 have HW := Lib.hid (show StAt w4 (sv f1 f2 f3 U.store.length o1 U.tape.length o2 U.printed.length o3 U.taken U.time U.at_ U.done U.why) U from ⟨f1, f2, f3, o1, o2, o3, rfl, j1, j2, j3⟩)
 clear j1 j2 j3
 go_upto_region 5 with fail
 obtain ⟨X4, hX4⟩ : ∃ X4, w4.alloc (.cells #[.slice f1 U.store.length o1, .slice f2 U.tape.length o2, .int .i64 U.taken, .slice f3 U.printed.length o3, .int .i64 U.time, .int .i64 U.at_, .int .i64 U.done, .int .i64 U.why] 33) = X4 := ⟨_, rfl⟩
 rw [hX4] at gw EW ⊢
 obtain ⟨wb, hwb⟩ : ∃ wb, w4.heap.size = wb := ⟨_, rfl⟩
 rw [hwb] at gw ⊢
 clear hX4 hwb
 have E34 : Ext X3 X4 := E4.comp EW
 have gt := ((E12.comp (E23.comp E34)).block tb (lt_of_block gt)).trans gt
 have gu := ((E23.comp E34).block ub (lt_of_block gu)).trans gu
 have gv := (E34.block vb (lt_of_block gv)).trans gv
 have HT := Lib.hid (HT.out.ext (ET.comp (E12.comp (E23.comp E34))))
 have HU := Lib.hid (HU.out.ext (EU.comp (E23.comp E34)))
 have HV := Lib.hid (HV.out.ext (EV.comp E34))
 have HW := Lib.hid (HW.out.ext EW)
 have E04 := E1.comp (ET.comp (E12.comp (E23.comp E34)))
 clear E1 ET E2 EU E12 E3 EV E23 E4 EW E34
 rcases HZ.out with hz1 | ⟨hz1, hz2⟩
 all_goals
  have q0 := blk_cell gt 0 (v := .slice b1 U.store.length l1) rfl
  have q1 := blk_cell gt 1 (v := .slice b2 U.tape.length l2) rfl
  have q2 := blk_cell gt 2 (v := .int .i64 U.taken) rfl
  have q3 := blk_cell gt 3 (v := .slice b3 U.printed.length l3) rfl
  have q4 := blk_cell gt 4 (v := .int .i64 U.time) rfl
  have q5 := blk_cell gt 5 (v := .int .i64 U.at_) rfl
  have q6 := blk_cell gt 6 (v := .int .i64 U.done) rfl
  have q7 := blk_cell gt 7 (v := .int .i64 U.why) rfl
  have r0 := blk_cell gu 0 (v := .slice c1 U.store.length m1) rfl
  have r1 := blk_cell gu 1 (v := .slice c2 U.tape.length m2) rfl
  have r2 := blk_cell gu 2 (v := .int .i64 U.taken) rfl
  have r3 := blk_cell gu 3 (v := .slice c3 U.printed.length m3) rfl
  have r4 := blk_cell gu 4 (v := .int .i64 U.time) rfl
  have r5 := blk_cell gu 5 (v := .int .i64 U.at_) rfl
  have r6 := blk_cell gu 6 (v := .int .i64 U.done) rfl
  have r7 := blk_cell gu 7 (v := .int .i64 U.why) rfl
  go_wp2_with fail
  refine (states_same _ _ U _ HT.out HU.out HB.out).mono ?_
  rintro e X5 ⟨rfl, E5⟩
  clear q0 q1 q2 q3 q4 q5 q6 q7 r0 r1 r2 r3 r4 r5 r6 r7
  have gt5 := (E5.block tb (lt_of_block gt)).trans gt
  have gv5 := (E5.block vb (lt_of_block gv)).trans gv
  have q0 := blk_cell gt5 0 (v := .slice b1 U.store.length l1) rfl
  have q1 := blk_cell gt5 1 (v := .slice b2 U.tape.length l2) rfl
  have q2 := blk_cell gt5 2 (v := .int .i64 U.taken) rfl
  have q3 := blk_cell gt5 3 (v := .slice b3 U.printed.length l3) rfl
  have q4 := blk_cell gt5 4 (v := .int .i64 U.time) rfl
  have q5 := blk_cell gt5 5 (v := .int .i64 U.at_) rfl
  have q6 := blk_cell gt5 6 (v := .int .i64 U.done) rfl
  have q7 := blk_cell gt5 7 (v := .int .i64 U.why) rfl
  have r0 := blk_cell gv5 0 (v := .slice d1 U.store.length n1) rfl
  have r1 := blk_cell gv5 1 (v := .slice d2 U.tape.length n2) rfl
  have r2 := blk_cell gv5 2 (v := .int .i64 U.taken) rfl
  have r3 := blk_cell gv5 3 (v := .slice d3 U.printed.length n3) rfl
  have r4 := blk_cell gv5 4 (v := .int .i64 U.time) rfl
  have r5 := blk_cell gv5 5 (v := .int .i64 U.at_) rfl
  have r6 := blk_cell gv5 6 (v := .int .i64 U.done) rfl
  have r7 := blk_cell gv5 7 (v := .int .i64 U.why) rfl
  go_wp2_with fail
  refine (states_same _ _ U _ (HT.out.ext E5) (HV.out.ext E5) HB.out).mono ?_
  rintro e X6 ⟨rfl, E6⟩
  clear q0 q1 q2 q3 q4 q5 q6 q7 r0 r1 r2 r3 r4 r5 r6 r7
  have gt6 := (E6.block tb (lt_of_block gt5)).trans gt5
  have gw6 := ((E5.comp E6).block wb (lt_of_block gw)).trans gw
  have q0 := blk_cell gt6 0 (v := .slice b1 U.store.length l1) rfl
  have q1 := blk_cell gt6 1 (v := .slice b2 U.tape.length l2) rfl
  have q2 := blk_cell gt6 2 (v := .int .i64 U.taken) rfl
  have q3 := blk_cell gt6 3 (v := .slice b3 U.printed.length l3) rfl
  have q4 := blk_cell gt6 4 (v := .int .i64 U.time) rfl
  have q5 := blk_cell gt6 5 (v := .int .i64 U.at_) rfl
  have q6 := blk_cell gt6 6 (v := .int .i64 U.done) rfl
  have q7 := blk_cell gt6 7 (v := .int .i64 U.why) rfl
  have r0 := blk_cell gw6 0 (v := .slice f1 U.store.length o1) rfl
  have r1 := blk_cell gw6 1 (v := .slice f2 U.tape.length o2) rfl
  have r2 := blk_cell gw6 2 (v := .int .i64 U.taken) rfl
  have r3 := blk_cell gw6 3 (v := .slice f3 U.printed.length o3) rfl
  have r4 := blk_cell gw6 4 (v := .int .i64 U.time) rfl
  have r5 := blk_cell gw6 5 (v := .int .i64 U.at_) rfl
  have r6 := blk_cell gw6 6 (v := .int .i64 U.done) rfl
  have r7 := blk_cell gw6 7 (v := .int .i64 U.why) rfl
  go_wp2_with fail
  refine (states_same _ _ U _ (HT.out.ext (E5.comp E6)) (HW.out.ext (E5.comp E6)) HB.out).mono ?_
  rintro e X7 ⟨rfl, E7⟩
  clear q0 q1 q2 q3 q4 q5 q6 q7 r0 r1 r2 r3 r4 r5 r6 r7
  have E47 : Ext X4 X7 := E5.comp (E6.comp E7)
  have gt7 := (E7.block tb (lt_of_block gt6)).trans gt6
  clear gt5 gv5 gt6 gw6 E5 E6 E7
  go_wp2
  go_loopw [17, 18] (fun s17 s18 wr => ∃ i : Nat, i ≤ ln ∧ s18 = .int .i64 (i : Int) ∧ (∃ (pa : Option Addr) (pc : Nat), s17 = .slice pa i pc) ∧ wr.ownsRow X7.heap.size 61 3 s17 i (lvs (quietOf (L.take i))) ∧ Ext X7 wr) (fun _ s18 _ => ln - (Go.RowKit.intOf s18).toNat)
  case atStart => exact ⟨0, Nat.zero_le _, rfl, ⟨none, 0, rfl⟩, World.ownsRow_nil _ _ _ _, Ext.refl _⟩
  case round =>
   obtain ⟨i, hi, rfl, ⟨pa, pc, rfl⟩, hown, EX⟩ := hrel
   by_cases hlt : i < ln
   ·have hltz : (i : Int) < (ln : Int) := by omega
    have hi0 : (0 : Int) ≤ (i : Int) := by omega
    obtain ⟨lb, off, rfl, hlbk, hc1, hc2⟩ : ∃ b off, la = some ⟨b, off, none⟩ ∧ b < w.heap.size ∧ w.cell? ⟨b, off + i * 3, none⟩ = some (.int .i64 (L[i]?.getD ⟨0, 0, 0⟩).after) ∧ w.cell? ⟨b, off + i * 3 + 1, none⟩ = some (.int .i64 (L[i]?.getD ⟨0, 0, 0⟩).addr) := by
     rcases HL.out with h | ⟨b, off, ha, hb, hc⟩
     ·rw [h] at HN; have := HN.out; simp at this; omega
     ·exact ⟨b, off, ha, hb, (hc i (by rw [HN.out]; exact hlt)).1, (hc i (by rw [HN.out]; exact hlt)).2.1⟩
    have hq := quiet_take (L := L) (i := i) (by rw [HN.out]; exact hlt)
    have hql := quiet_len L i (by rw [HN.out]; omega)
    obtain ⟨x, hx⟩ : ∃ x, (L[i]?.getD ⟨0, 0, 0⟩).after = x := ⟨_, rfl⟩
    obtain ⟨y, hy⟩ : ∃ y, (L[i]?.getD ⟨0, 0, 0⟩).addr = y := ⟨_, rfl⟩
    rw [hx] at hc1 hq
    rw [hy] at hc2 hq
    obtain ⟨P, hP⟩ : ∃ P, quietOf (L.take i) = P := ⟨_, rfl⟩
    rw [hP] at hown hq hql
    have HQQ := Lib.hid hq
    have HEW : Hid (Ext w X7) := Lib.hid (E0.comp (E04.comp E47))
    have HQ := Lib.hid (fun Y (E : Ext X7 Y) => And.intro (((HEW.out.comp E).cell (p := ⟨lb, off + i * 3, none⟩) hlbk).trans hc1) (((HEW.out.comp E).cell (p := ⟨lb, off + i * 3 + 1, none⟩) hlbk).trans hc2))
    have HEX := Lib.hid EX
    clear hc1 hc2 hx hy hq hP EX
    go_upto_region 11 with fail
    obtain ⟨X8, hX8⟩ : ∃ X8, wr = X8 := ⟨_, rfl⟩
    rw [hX8] at HEX hown ⊢
    clear hX8
    refine wp_region_Z (fun _ => false) (fun Y => Ext X7 Y) (by kernel_rfl) HEX.out.drew fun hSX => ?_
    refine tk 0 ⟨_, _, _, _, _, _⟩ ?_ rfl (by kernel_rfl) (fun _ _ _ h => h) (Or.inl ⟨by rfl, ?_⟩) hSX ?_
    rotate_left
    ·intro wX hS
     obtain ⟨q0, q1⟩ := HQ.out wX hS
     go_simp
     (try with_reducible rfl)
    (try simp only [Act.put, List.setIfInBounds_toArray, List.set_cons_zero, List.set_cons_succ])
    refine tk 1 ⟨_, _, _, _, _, _⟩ ?_ rfl (by kernel_rfl) (fun _ _ _ h => h) (Or.inl ⟨by rfl, ?_⟩) hSX ?_
    rotate_left
    ·intro wX hS
     obtain ⟨q0, q1⟩ := HQ.out wX hS
     go_simp
     (try with_reducible rfl)
    (try simp only [Act.put, List.setIfInBounds_toArray, List.set_cons_zero, List.set_cons_succ])
    refine tk 2 ⟨_, _, _, _, _, _⟩ ?_ rfl (by kernel_rfl) (fun _ _ _ h => h) (Or.inl ⟨by rfl, ?_⟩) hSX ?_
    rotate_left
    ·intro wX hS
     obtain ⟨q0, q1⟩ := HQ.out wX hS
     go_simp
     (try with_reducible rfl)
    (try simp only [Act.put, List.setIfInBounds_toArray, List.set_cons_zero, List.set_cons_succ])
    refine tk 3 ⟨_, _, _, _, _, _⟩ ?_ rfl (by kernel_rfl) (fun _ _ _ h => h) (Or.inl ⟨by rfl, ?_⟩) hSX ?_
    rotate_left
    ·intro wX hS
     obtain ⟨q0, q1⟩ := HQ.out wX hS
     go_simp
     (try with_reducible rfl)
    (try simp only [Act.put, List.setIfInBounds_toArray, List.set_cons_zero, List.set_cons_succ])
    refine tk 4 ⟨_, _, _, _, _, _⟩ ?_ rfl (by kernel_rfl) (fun _ _ _ h => h) (Or.inl ⟨by rfl, ?_⟩) hSX ?_
    rotate_left
    ·intro wX hS
     obtain ⟨q0, q1⟩ := HQ.out wX hS
     go_simp
     (try with_reducible rfl)
    (try simp only [Act.put, List.setIfInBounds_toArray, List.set_cons_zero, List.set_cons_succ])
    refine tk 5 ⟨_, _, _, _, _, _⟩ ?_ rfl (by kernel_rfl) (fun _ _ _ h => h) (Or.inl ⟨by rfl, ?_⟩) hSX ?_
    rotate_left
    ·intro wX hS
     obtain ⟨q0, q1⟩ := HQ.out wX hS
     go_simp
     (try with_reducible rfl)
    (try simp only [Act.put, List.setIfInBounds_toArray, List.set_cons_zero, List.set_cons_succ])
    refine tk 6 ⟨_, _, _, _, _, _⟩ ?_ rfl (by kernel_rfl) (fun _ _ _ h => h) (Or.inl ⟨by rfl, ?_⟩) hSX ?_
    rotate_left
    ·intro wX hS
     obtain ⟨q0, q1⟩ := HQ.out wX hS
     go_simp
     (try with_reducible rfl)
    (try simp only [Act.put, List.setIfInBounds_toArray, List.set_cons_zero, List.set_cons_succ])
    refine tk 7 ⟨_, _, _, _, _, _⟩ ?_ rfl (by kernel_rfl) (fun _ _ _ h => h) (Or.inl ⟨by rfl, ?_⟩) hSX ?_
    rotate_left
    ·intro wX hS
     obtain ⟨q0, q1⟩ := HQ.out wX hS
     go_simp
     (try with_reducible rfl)
    (try simp only [Act.put, List.setIfInBounds_toArray, List.set_cons_zero, List.set_cons_succ])
    refine tk 8 ⟨_, _, _, _, _, _⟩ ?_ rfl (by kernel_rfl) (fun _ _ _ h => h) (Or.inl ⟨by rfl, ?_⟩) hSX ?_
    rotate_left
    ·intro wX hS
     obtain ⟨q0, q1⟩ := HQ.out wX hS
     go_simp
     (try with_reducible rfl)
    (try simp only [Act.put, List.setIfInBounds_toArray, List.set_cons_zero, List.set_cons_succ])
    refine tk 9 ⟨_, _, _, _, _, _⟩ ?_ rfl (by kernel_rfl) (fun _ _ _ h => h) (Or.inl ⟨by rfl, ?_⟩) hSX ?_
    rotate_left
    ·intro wX hS
     obtain ⟨q0, q1⟩ := HQ.out wX hS
     go_simp
     (try with_reducible rfl)
    (try simp only [Act.put, List.setIfInBounds_toArray, List.set_cons_zero, List.set_cons_succ])
    refine tk 10 ⟨_, _, _, _, _, _⟩ ?_ rfl (by kernel_rfl) (fun _ _ _ h => h) (Or.inl ⟨by rfl, ?_⟩) hSX ?_
    rotate_left
    ·intro wX hS
     obtain ⟨q0, q1⟩ := HQ.out wX hS
     go_simp
     (try with_reducible rfl)
    (try simp only [Act.put, List.setIfInBounds_toArray, List.set_cons_zero, List.set_cons_succ])
    refine tk 11 ⟨_, _, _, _, _, _⟩ ?_ rfl (by kernel_rfl) (fun _ _ _ h => h) (Or.inl ⟨by rfl, ?_⟩) hSX ?_
    rotate_left
    ·intro wX hS
     obtain ⟨q0, q1⟩ := HQ.out wX hS
     go_simp
     (try with_reducible rfl)
    (try simp only [Act.put, List.setIfInBounds_toArray, List.set_cons_zero, List.set_cons_succ])
    refine wpAnyZ_one (i := 12) (o := ⟨_, _, _, _, _, _⟩) (by kernel_rfl) rfl (fun K hK => ?_)
    go_simp
    have hnew : ∀ j u, (lv ⟨x, y, 24⟩)[j]? = some u → (X8.alloc (.cells #[.int .i64 x, .int .i64 y, .int .i64 24] 61)).drew.cell? ((⟨X8.heap.size, 0, none⟩ : Addr).add j) = some u := fun j u hu => by
     have hb := heap_alloc_new X8 (.cells #[.int .i64 x, .int .i64 y, .int .i64 24] 61)
     have hj : j < 3 := by have := (List.getElem?_eq_some_iff.1 hu).1; simpa [lv] using this
     match j, hj with
     | 0, _ => cases hu; exact blk_cell hb 0 rfl
     | 1, _ => cases hu; exact blk_cell hb 1 rfl
     | 2, _ => cases hu; exact blk_cell hb 2 rfl
    have hS1 : Ext X8 (X8.alloc (.cells #[.int .i64 x, .int .i64 y, .int .i64 24] 61)).drew := ((Ext.refl X8).alloc _).drew
    have hrow := own_extX hown hS1
    have hS7 := HEX.out.comp hS1
    refine hK _ _ (.inr hS7) (fun _ => ?_)
    clear hK
    (try simp only [Act.put, List.setIfInBounds_toArray, List.set_cons_zero, List.set_cons_succ])
    refine wpAnyZ_one (i := 13) (o := ⟨_, _, _, _, _, _⟩) (by kernel_rfl) rfl (fun K hK => ?_)
    rw [if_pos (by rfl)]
    refine wp_app_at _ _ 42 rfl 61 il (.agg #[.int .i64 0, .int .i64 0, .int .i64 0]) 3 24 Try.underlying42 hil hlz hls hlb rfl (by decide) _ i X7.heap.size (lvs P) rfl hrow (Nat.le_trans HEX.out.size hS1.size) ⟨X8.heap.size, 0, none⟩ 1 1 (lv ⟨x, y, 24⟩) rfl rfl hnew (lv_one _) (by unfold maxLen; omega) (by omega) ?_
    intro v2 X9 ho2 G2 hv2
    have EX9 : Ext X7 X9 := (HEX.out.comp hS1).grown G2 (Nat.le_trans HEX.out.size hS1.size) (fun q e => (hrow.lt q e).1)
    obtain ⟨gg, pc2, rfl⟩ := ownsRow_form ho2 (by omega)
    rw [← lvs_snoc, ← HQQ.out] at ho2
    refine hK _ _ (.inr EX9) (fun _ => ?_)
    clear hK
    (try simp only [Act.put, List.setIfInBounds_toArray, List.set_cons_zero, List.set_cons_succ])
    refine tk 14 ⟨_, _, _, _, _, _⟩ ?_ rfl (by kernel_rfl) (fun _ _ _ h => h) (Or.inl ⟨by rfl, ?_⟩) EX9 ?_
    rotate_left
    ·intro wX _
     go_simp
     (try with_reducible rfl)
    (try simp only [Act.put, List.setIfInBounds_toArray, List.set_cons_zero, List.set_cons_succ])
    refine wpAnyZ_done (by kernel_rfl) ?_ _
    go_wp2
    go_roundw
    case rel => exact ⟨i + 1, by omega, by go_num, ⟨some ⟨gg, 0, none⟩, pc2, rfl⟩, ho2, EX9⟩
    case measure => simp [Go.RowKit.intOf]; omega
   ·obtain rfl : i = ln := by omega
    have hltz : ¬ (i : Int) < (i : Int) := by omega
    have htk : L.take i = L := List.take_of_length_le (by rw [HN.out]; exact Nat.le_refl _)
    rw [htk] at hown
    have hPA : LossAt wr pa (quietOf L) := own_lossAt (n := i) (by unfold quietOf at hown ⊢; rw [List.length_map, HN.out]; exact hown)
    have E07 : Ext w wr := E0.comp (E04.comp (E47.comp EX))
    have g3 := HG3.out wr (E04.comp (E47.comp EX))
    have hpc := hpa wr pa pc E07 hPA
    have q0 := blk_cell g3 0 (v := .slice a1 s.store.length k1) rfl
    have q1 := blk_cell g3 1 (v := .slice a2 s.tape.length k2) rfl
    have q2 := blk_cell g3 2 (v := .int .i64 s.taken) rfl
    have q3 := blk_cell g3 3 (v := .slice a3 s.printed.length k3) rfl
    have q4 := blk_cell g3 4 (v := .int .i64 s.time) rfl
    have q5 := blk_cell g3 5 (v := .int .i64 s.at_) rfl
    have q6 := blk_cell g3 6 (v := .int .i64 s.done) rfl
    have q7 := blk_cell g3 7 (v := .int .i64 s.why) rfl
    clear hown htk hPA hpa
    go_wp2_with fail
    refine hpc.mono ?_
    rintro e X9 ⟨D, F, ⟨v', rfl, ⟨h1, h2, h3, p1, p2, p3, rfl, j1, j2, j3⟩, E9⟩, hDF⟩
    dsimp only at j1 j2 j3 ⊢
    clear q0 q1 q2 q3 q4 q5 q6 q7 g3
    rcases hDF with hF | ⟨rfl, rfl⟩
    ·have hF1 : (F != 0) = true := by simpa using hF
     clear hF
     go_wp2_with fail
     refine (haw _).mono ?_
     rintro e Y1 ⟨rfl, F1⟩
     go_wp2_with fail
     go_ret
     exact ⟨rfl, E07.comp (E9.comp F1.old)⟩
    ·have gd := heap_alloc_new X9 (.cells #[.slice h1 D.store.length p1, .slice h2 D.tape.length p2, .int .i64 D.taken, .slice h3 D.printed.length p3, .int .i64 D.time, .int .i64 D.at_, .int .i64 D.done, .int .i64 D.why] 33)
     have ED := (Ext.refl X9).alloc (.cells #[.slice h1 D.store.length p1, .slice h2 D.tape.length p2, .int .i64 D.taken, .slice h3 D.printed.length p3, .int .i64 D.time, .int .i64 D.at_, .int .i64 D.done, .int .i64 D.why] 33)
     have hDD : StAt X9 (sv h1 h2 h3 D.store.length p1 D.tape.length p2 D.printed.length p3 D.taken D.time D.at_ D.done D.why) D := ⟨h1, h2, h3, p1, p2, p3, rfl, j1, j2, j3⟩
     clear j1 j2 j3
     go_upto_region 13 with fail
     obtain ⟨Y0, hY0⟩ : ∃ Y0, X9.alloc (.cells #[.slice h1 D.store.length p1, .slice h2 D.tape.length p2, .int .i64 D.taken, .slice h3 D.printed.length p3, .int .i64 D.time, .int .i64 D.at_, .int .i64 D.done, .int .i64 D.why] 33) = Y0 := ⟨_, rfl⟩
     rw [hY0] at gd ED ⊢
     obtain ⟨db, hdb⟩ : ∃ db, X9.heap.size = db := ⟨_, rfl⟩
     rw [hdb] at gd ⊢
     clear hY0 hdb
     have gt9 := ((EX.comp (E9.comp ED)).block tb (lt_of_block gt7)).trans gt7
     have q0 := blk_cell gt9 0 (v := .slice b1 D.store.length l1) rfl
     have q1 := blk_cell gt9 1 (v := .slice b2 D.tape.length l2) rfl
     have q2 := blk_cell gt9 2 (v := .int .i64 D.taken) rfl
     have q3 := blk_cell gt9 3 (v := .slice b3 D.printed.length l3) rfl
     have q4 := blk_cell gt9 4 (v := .int .i64 D.time) rfl
     have q5 := blk_cell gt9 5 (v := .int .i64 D.at_) rfl
     have q6 := blk_cell gt9 6 (v := .int .i64 D.done) rfl
     have q7 := blk_cell gt9 7 (v := .int .i64 D.why) rfl
     have r0 := blk_cell gd 0 (v := .slice h1 D.store.length p1) rfl
     have r1 := blk_cell gd 1 (v := .slice h2 D.tape.length p2) rfl
     have r2 := blk_cell gd 2 (v := .int .i64 D.taken) rfl
     have r3 := blk_cell gd 3 (v := .slice h3 D.printed.length p3) rfl
     have r4 := blk_cell gd 4 (v := .int .i64 D.time) rfl
     have r5 := blk_cell gd 5 (v := .int .i64 D.at_) rfl
     have r6 := blk_cell gd 6 (v := .int .i64 D.done) rfl
     have r7 := blk_cell gd 7 (v := .int .i64 D.why) rfl
     go_wp2_with fail
     refine (states_same _ _ D _ (HT.out.ext (E47.comp (EX.comp (E9.comp ED)))) (hDD.ext ED) HB.out).mono ?_
     rintro e Y1 ⟨rfl, F1⟩
     clear q0 q1 q2 q3 q4 q5 q6 q7 r0 r1 r2 r3 r4 r5 r6 r7
     go_wp2_with fail
     refine (haw _).mono ?_
     rintro e Y2 ⟨rfl, F2⟩
     go_wp2_with fail
     go_ret
     exact ⟨rfl, E07.comp (E9.comp (ED.comp (F1.comp F2)))⟩
end Go.Proofs.Ytnhpcoagkmgdoaa

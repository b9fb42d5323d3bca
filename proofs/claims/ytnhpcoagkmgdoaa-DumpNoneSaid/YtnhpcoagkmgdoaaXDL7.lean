import Derived.Deep.DeepCutAuto
import Derived.Test.YtnhpcoagkmgdoaaXDL4
import Derived.Test.YtnhpcoagkmgdoaaX18
import Derived.Test.YtnhpcoagkmgdoaaX19
import Derived.Test.YtnhpcoagkmgdoaaX7
import Derived.Test.YtnhpcoagkmgdoaaX23
import Derived.Test.YtnhpcoagkmgdoaaX5
import Derived.Test.YtnhpcoagkmgdoaaX24
set_option linter.unusedVariables false
set_option linter.unusedSimpArgs false
/- The law DumpRestarted. -/
namespace Go.Q
open Go.RowKit
theorem asked_small (s : St) {m : Int} (h : 0 ≤ m ∧ m ≤ 5000) : askedQ s m = (checkQ s).2.2 := by
 unfold askedQ
 split
 ·rfl
 ·rename_i hc
  have : inB m 0 5000 = true := by unfold inB; rw [decide_eq_true h.1, decide_eq_true h.2]; rfl
  rw [if_pos this]
  exact (Classical.not_not.1 hc).symm
theorem run_small (s : St) {m : Nat} (h : m ≤ 5000) : ((checkQ s).2.2 ≠ 0 ∧ runE s (m : Int) = (zst, (checkQ s).2.2) ∧ dumpE s = ([], (checkQ s).2.2)) ∨ (Valid s ∧ askedQ s (m : Int) = 0 ∧ runE s (m : Int) = (runQ m s, 0) ∧ dumpE s = (tapeW (wordsS s), 0)) := by
 have ha := asked_small s (m := (m : Int)) ⟨by omega, by omega⟩
 unfold runE dumpE
 rw [ha]
 by_cases hc : (checkQ s).2.2 = 0
 ·exact .inr ⟨valid_of_check hc, hc, by rw [if_pos hc, Int.toNat_natCast], by rw [if_pos hc]⟩
 ·exact .inl ⟨hc, by rw [if_neg hc], by rw [if_neg hc]⟩
end Go.Q
namespace Go.Proofs.Ytnhpcoagkmgdoaa
open Go.RowKit Go.Q Go.Shelf Go.Maps Go.Joins
set_option maxHeartbeats 4000000
set_option maxRecDepth 100000
theorem StAtN.at_ {nb : Nat} {w : World} {v : Value} {s : St} (h : StAtN nb w v s) : StAt w v s := by
 obtain ⟨a1, a2, a3, c1, c2, c3, rfl, i1, i2, i3⟩ := h
 exact ⟨a1, a2, a3, c1, c2, c3, rfl, i1.at_, i2.at_, i3.at_⟩
theorem dumpRestarted_any (haw : AwakeT) (v : Value) (s : St) (m0 m1 : Nat) (xa : Option Addr) (xc : Nat) (x : List (Nat × Nat)) (w : World) (hS : StAt w v s) (hb : StBd s) (h0 : m0 < 256) (h1 : m1 < 256) (hX : PairsAt w xa x) (h256 : Pairs256 x) (hxl : x.length ≤ 9223372036854775807) :
  Calls Try.prog 9 #[v, .agg #[.int .u8 (m0 : Int), .int .u8 (m1 : Int)], .slice xa x.length xc] w fun e w' => e = .returned (.bool true) ∧ Ext w w' := by
 obtain ⟨a1, a2, a3, k1, k2, k3, rfl, i1, i2, i3⟩ := hS
 have HS := Lib.hid (fun Y (E : Ext w Y) => show StAt Y (sv a1 a2 a3 s.store.length k1 s.tape.length k2 s.printed.length k3 s.taken s.time s.at_ s.done s.why) s from (show StAt w _ s from ⟨a1, a2, a3, k1, k2, k3, rfl, i1, i2, i3⟩).ext E)
 clear i1 i2 i3
 have g3 := heap_alloc_new w (.cells #[.slice a1 s.store.length k1, .slice a2 s.tape.length k2, .int .i64 s.taken, .slice a3 s.printed.length k3, .int .i64 s.time, .int .i64 s.at_, .int .i64 s.done, .int .i64 s.why] 33)
 have g4 := heap_alloc_new (w.alloc (.cells #[.slice a1 s.store.length k1, .slice a2 s.tape.length k2, .int .i64 s.taken, .slice a3 s.printed.length k3, .int .i64 s.time, .int .i64 s.at_, .int .i64 s.done, .int .i64 s.why] 33)) (.cells #[.int .u8 (m0 : Int), .int .u8 (m1 : Int)] 48)
 rw [World.size_alloc] at g4
 have E0 : Ext w ((w.alloc (.cells #[.slice a1 s.store.length k1, .slice a2 s.tape.length k2, .int .i64 s.taken, .slice a3 s.printed.length k3, .int .i64 s.time, .int .i64 s.at_, .int .i64 s.done, .int .i64 s.why] 33)).alloc (.cells #[.int .u8 (m0 : Int), .int .u8 (m1 : Int)] 48)) := ((Ext.refl w).alloc _).alloc _
 have g3 := (Below.heap_alloc (w.alloc (.cells #[.slice a1 s.store.length k1, .slice a2 s.tape.length k2, .int .i64 s.taken, .slice a3 s.printed.length k3, .int .i64 s.time, .int .i64 s.at_, .int .i64 s.done, .int .i64 s.why] 33)) (.cells #[.int .u8 (m0 : Int), .int .u8 (m1 : Int)] 48) _ (lt_of_block g3)).trans g3
 have v0 : IntKind.i64.wrap (m0 : Int) = (m0 : Int) := IntWalk.i64_in _ (by omega)
 have v1 : IntKind.i64.wrap (m1 : Int) = (m1 : Int) := IntWalk.i64_in _ (by omega)
 have hdm := fun W (E : Ext w W) => ldump_any _ s W (HS.out W E) hb
 rcases run_small s (m := m0) (by omega) with ⟨hc, hr, hd⟩ | ⟨hv, ha, hr, hd⟩
 ·have hrun := fun W (E : Ext w W) => runE_any _ s (m0 : Int) W (HS.out W E) hb
  rw [hr] at hrun
  rw [hd] at hdm
  obtain ⟨er, her⟩ : ∃ er, (checkQ s).2.2 = er := ⟨_, rfl⟩
  rw [her] at hc hrun hdm
  have e1 : (er != 0) = true := by simpa using hc
  have e2 : (er == er) = true := by simp
  clear hr hd hc her hX h256
  obtain ⟨xn, hxn⟩ : ∃ xn, x.length = xn := ⟨_, rfl⟩
  rw [hxn]
  clear hxn hxl
  go_enter Try.func9, Try.ntmps9
  have q0 := blk_cell g3 0 (v := .slice a1 s.store.length k1) rfl
  have q1 := blk_cell g3 1 (v := .slice a2 s.tape.length k2) rfl
  have q2 := blk_cell g3 2 (v := .int .i64 s.taken) rfl
  have q3 := blk_cell g3 3 (v := .slice a3 s.printed.length k3) rfl
  have q4 := blk_cell g3 4 (v := .int .i64 s.time) rfl
  have q5 := blk_cell g3 5 (v := .int .i64 s.at_) rfl
  have q6 := blk_cell g3 6 (v := .int .i64 s.done) rfl
  have q7 := blk_cell g3 7 (v := .int .i64 s.why) rfl
  have r0 := blk_cell g4 0 (v := .int .u8 (m0 : Int)) rfl
  go_wp2_with fail
  refine (hrun _ E0).mono ?_
  rintro e w1 ⟨v', rfl, ⟨b1, b2, b3, l1, l2, l3, rfl, _⟩, E1⟩
  dsimp only
  have g3 := (E1.block w.heap.size (lt_of_block g3)).trans g3
  have g3 := fun ob => ((Ext.refl w1).alloc ob |>.block w.heap.size (lt_of_block g3)).trans g3
  clear q0 q1 q2 q3 q4 q5 q6 q7 r0 g4
  have q0 := fun ob => blk_cell (g3 ob) 0 (v := .slice a1 s.store.length k1) rfl
  have q1 := fun ob => blk_cell (g3 ob) 1 (v := .slice a2 s.tape.length k2) rfl
  have q2 := fun ob => blk_cell (g3 ob) 2 (v := .int .i64 s.taken) rfl
  have q3 := fun ob => blk_cell (g3 ob) 3 (v := .slice a3 s.printed.length k3) rfl
  have q4 := fun ob => blk_cell (g3 ob) 4 (v := .int .i64 s.time) rfl
  have q5 := fun ob => blk_cell (g3 ob) 5 (v := .int .i64 s.at_) rfl
  have q6 := fun ob => blk_cell (g3 ob) 6 (v := .int .i64 s.done) rfl
  have q7 := fun ob => blk_cell (g3 ob) 7 (v := .int .i64 s.why) rfl
  go_wp2_with fail
  refine (hdm _ ((E0.comp E1).alloc _)).mono ?_
  rintro e w2 ⟨da, dc, rfl, _, _, E2⟩
  dsimp only
  simp only [List.length_nil]
  clear q0 q1 q2 q3 q4 q5 q6 q7
  go_wp2_with fail
  refine (haw _).mono ?_
  rintro e w3 ⟨rfl, E3⟩
  go_wp2_with fail
  go_ret
  exact ⟨rfl, ((E0.comp E1).comp E2.old).comp E3⟩
 ·have hrun := fun W (E : Ext w W) => runE_any _ s (m0 : Int) W (HS.out W E) hb
  rw [hr] at hrun
  have hvt := runQ_valid m0 hv
  obtain ⟨t, ht⟩ : ∃ t, runQ m0 s = t := ⟨_, rfl⟩
  rw [ht] at hrun hvt
  have hbt := valid_bd hvt
  have hdt : dumpE t = (tapeW (wordsS t), 0) := by
   rcases run_small t (m := m1) (by omega) with ⟨hc, _, _⟩ | ⟨_, _, _, h⟩
   ·exact absurd (by have := asked_of_valid hvt (most := 0) ⟨by omega, by omega⟩; rw [asked_small t ⟨by omega, by omega⟩] at this; exact this) hc
   ·exact h
  obtain ⟨hat, hrt⟩ : askedQ t (m1 : Int) = 0 ∧ runE t (m1 : Int) = (runQ m1 t, 0) := by
   rcases run_small t (m := m1) (by omega) with ⟨hc, _, _⟩ | ⟨_, h2, h, _⟩
   ·exact absurd (by have := asked_of_valid hvt (most := 0) ⟨by omega, by omega⟩; rw [asked_small t ⟨by omega, by omega⟩] at this; exact this) hc
   ·exact ⟨h2, h⟩
  have hvu := runQ_valid m1 hvt
  have hru : runE s ((m0 + m1 : Nat) : Int) = (runQ m1 t, 0) := by
   rcases run_small s (m := m0 + m1) (by omega) with ⟨hc, _, _⟩ | ⟨_, _, h, _⟩
   ·exact absurd (by rw [asked_small s ⟨by omega, by omega⟩] at ha; exact ha) hc
   ·rw [h, runQ_add, ht]
  obtain ⟨u, hu⟩ : ∃ u, runQ m1 t = u := ⟨_, rfl⟩
  rw [hu] at hrt hvu hru
  have hbu := valid_bd hvu
  have hrun2 := fun W v' (h : StAt W v' t) => runE_anyN v' t (m1 : Int) W h hbt hat
  have hrun3 := fun W (E : Ext w W) => runE_any _ s ((m0 + m1 : Nat) : Int) W (HS.out W E) hb
  rw [hrt] at hrun2
  rw [hru] at hrun3
  have hdm2 := fun W v' (h : StAt W v' t) => ldump_any v' t W h hbt
  rw [hdt] at hdm2
  have hbd := manyB_bd (wordsS_ok hvt).2
  have htl := tape_len65 (wordsS t)
  have hok := wrong_ok x
  have hlt := tape_lt128 (wordsS t)
  have hsl := spoil_len (wordsS t) (wrongF x)
  have hst := spoil_lt (ws := wordsS t) hok
  have hos := out_spoil (wordsS t) hok
  have hre := fun W b d (hd : 65 * manyB (wordsS t) ≤ d ∧ d ≤ 9223372036854775807) (hB : BytesAt W b (natI (spoilT (wordsS t) (wrongF x)))) => lrestart_any b _ d (spoilT (wordsS t) (wrongF x)) W hsl hd hB (fun r h => Nat.lt_trans (hst r h) (by decide))
  rw [restart_spoil hvt hok] at hre
  have hwr := fun W b d (hd : 65 * manyB (wordsS t) ≤ d ∧ d ≤ 9223372036854775807) (hB : BytesAt W b (natI (tapeW (wordsS t)))) (E : Ext w W) => wrong_any b xa _ d xc (manyB (wordsS t)) (tapeW (wordsS t)) x W htl rfl (by omega) (by omega) hd hB hlt (hX.ext E) h256 hxl
  rw [hos, at_mended] at hwr
  obtain ⟨tp, htp⟩ : ∃ tp, tapeW (wordsS t) = tp := ⟨_, rfl⟩
  obtain ⟨sp, hsp⟩ : ∃ sp, spoilT (wordsS t) (wrongF x) = sp := ⟨_, rfl⟩
  obtain ⟨md, hmd⟩ : ∃ md, mendedT (wordsS t) (wrongF x) = md := ⟨_, rfl⟩
  obtain ⟨m, hm⟩ : ∃ m, 65 * manyB (wordsS t) = m := ⟨_, rfl⟩
  rw [htp] at hdm2 hwr htl
  rw [hsp] at hre hwr
  rw [hmd] at hwr
  rw [hm] at hre hwr htl
  obtain ⟨xn, hxn⟩ : ∃ xn, x.length = xn := ⟨_, rfl⟩
  rw [hxn] at hwr ⊢
  have HBT := Lib.hid (And.intro hbt hbu)
  have w2 : IntKind.i64.wrap ((m0 : Int) + (m1 : Int)) = ((m0 + m1 : Nat) : Int) := by rw [show (m0 : Int) + (m1 : Int) = ((m0 + m1 : Nat) : Int) by omega]; exact IntWalk.i64_in _ (by omega)
  obtain ⟨m2, hm2⟩ : ∃ m2, m0 + m1 = m2 := ⟨_, rfl⟩
  rw [hm2] at w2 hrun3
  clear hxn hxl hbd hok hlt hsl hst hos htp hsp hmd hm hX h256 hr hd hv ha ht hvt hdt hat hrt hu hvu hru hdm hm2 hbt hbu
  have HG4 := Lib.hid (fun Y E => ((show Ext ((w.alloc (.cells #[.slice a1 s.store.length k1, .slice a2 s.tape.length k2, .int .i64 s.taken, .slice a3 s.printed.length k3, .int .i64 s.time, .int .i64 s.at_, .int .i64 s.done, .int .i64 s.why] 33)).alloc (.cells #[.int .u8 (m0 : Int), .int .u8 (m1 : Int)] 48)) Y from E).block (w.heap.size + 1) (lt_of_block g4)).trans g4)
  have HG3 := Lib.hid (fun Y E => ((show Ext ((w.alloc (.cells #[.slice a1 s.store.length k1, .slice a2 s.tape.length k2, .int .i64 s.taken, .slice a3 s.printed.length k3, .int .i64 s.time, .int .i64 s.at_, .int .i64 s.done, .int .i64 s.why] 33)).alloc (.cells #[.int .u8 (m0 : Int), .int .u8 (m1 : Int)] 48)) Y from E).block w.heap.size (lt_of_block g3)).trans g3)
  go_enter Try.func9, Try.ntmps9
  have q0 := blk_cell g3 0 (v := .slice a1 s.store.length k1) rfl
  have q1 := blk_cell g3 1 (v := .slice a2 s.tape.length k2) rfl
  have q2 := blk_cell g3 2 (v := .int .i64 s.taken) rfl
  have q3 := blk_cell g3 3 (v := .slice a3 s.printed.length k3) rfl
  have q4 := blk_cell g3 4 (v := .int .i64 s.time) rfl
  have q5 := blk_cell g3 5 (v := .int .i64 s.at_) rfl
  have q6 := blk_cell g3 6 (v := .int .i64 s.done) rfl
  have q7 := blk_cell g3 7 (v := .int .i64 s.why) rfl
  have r0 := blk_cell g4 0 (v := .int .u8 (m0 : Int)) rfl
  go_wp2_with fail
  refine (hrun _ E0).mono ?_
  rintro e w1 ⟨v', rfl, ⟨b1, b2, b3, l1, l2, l3, rfl, j1, j2, j3⟩, E1⟩
  dsimp only at j1 j2 j3 ⊢
  clear q0 q1 q2 q3 q4 q5 q6 q7 r0 g4 g3
  have gt := heap_alloc_new w1 (.cells #[.slice b1 t.store.length l1, .slice b2 t.tape.length l2, .int .i64 t.taken, .slice b3 t.printed.length l3, .int .i64 t.time, .int .i64 t.at_, .int .i64 t.done, .int .i64 t.why] 33)
  have ET := (Ext.refl w1).alloc (.cells #[.slice b1 t.store.length l1, .slice b2 t.tape.length l2, .int .i64 t.taken, .slice b3 t.printed.length l3, .int .i64 t.time, .int .i64 t.at_, .int .i64 t.done, .int .i64 t.why] 33)
  have HT := Lib.hid (show StAt w1 (sv b1 b2 b3 t.store.length l1 t.tape.length l2 t.printed.length l3 t.taken t.time t.at_ t.done t.why) t from ⟨b1, b2, b3, l1, l2, l3, rfl, j1, j2, j3⟩)
  clear j1 j2 j3
  go_upto_region 5 with fail
  obtain ⟨X1, hX1⟩ : ∃ X1, w1.alloc (.cells #[.slice b1 t.store.length l1, .slice b2 t.tape.length l2, .int .i64 t.taken, .slice b3 t.printed.length l3, .int .i64 t.time, .int .i64 t.at_, .int .i64 t.done, .int .i64 t.why] 33) = X1 := ⟨_, rfl⟩
  rw [hX1] at gt ET ⊢
  obtain ⟨tb, htb⟩ : ∃ tb, w1.heap.size = tb := ⟨_, rfl⟩
  rw [htb] at gt ⊢
  have HTB := Lib.hid htb
  clear hX1 htb
  have q0 := blk_cell gt 0 (v := .slice b1 t.store.length l1) rfl
  have q1 := blk_cell gt 1 (v := .slice b2 t.tape.length l2) rfl
  have q2 := blk_cell gt 2 (v := .int .i64 t.taken) rfl
  have q3 := blk_cell gt 3 (v := .slice b3 t.printed.length l3) rfl
  have q4 := blk_cell gt 4 (v := .int .i64 t.time) rfl
  have q5 := blk_cell gt 5 (v := .int .i64 t.at_) rfl
  have q6 := blk_cell gt 6 (v := .int .i64 t.done) rfl
  have q7 := blk_cell gt 7 (v := .int .i64 t.why) rfl
  go_wp2_with fail
  refine (hdm2 _ _ (HT.out.ext ET)).mono ?_
  rintro e X2 ⟨da, dc, rfl, hdc, B2, E2⟩
  dsimp only at hdc B2 ⊢
  rw [htl] at hdc ⊢
  clear q0 q1 q2 q3 q4 q5 q6 q7 hdm2
  go_wp2_with fail
  refine (hwr _ _ _ hdc B2 ((E0.comp E1).comp (ET.comp E2))).mono ?_
  rintro e X3 ⟨oa, oc, ma, mc, rfl, hoc, B3, _, E3⟩
  obtain ⟨mn, hmn⟩ : ∃ mn, md.length = mn := ⟨_, rfl⟩
  rw [hmn]
  clear hmn hwr B2
  go_wp2_with fail
  refine (hre _ _ _ hoc B3).mono ?_
  rintro e X4 ⟨v', rfl, ⟨d1, d2, d3, o1, o2, o3, rfl, j1, j2, j3⟩, E4⟩
  dsimp only at j1 j2 j3 ⊢
  have E14 : Ext X1 X4 := E2.comp (E3.comp E4)
  have HU := Lib.hid (show StAt X4 (sv d1 d2 d3 t.store.length o1 t.tape.length o2 t.printed.length o3 t.taken t.time t.at_ t.done t.why) t from ⟨d1, d2, d3, o1, o2, o3, rfl, j1, j2, j3⟩)
  clear j1 j2 j3 hre B3 E2 E3 E4
  have gu := heap_alloc_new X4 (.cells #[.slice d1 t.store.length o1, .slice d2 t.tape.length o2, .int .i64 t.taken, .slice d3 t.printed.length o3, .int .i64 t.time, .int .i64 t.at_, .int .i64 t.done, .int .i64 t.why] 33)
  have EU := (Ext.refl X4).alloc (.cells #[.slice d1 t.store.length o1, .slice d2 t.tape.length o2, .int .i64 t.taken, .slice d3 t.printed.length o3, .int .i64 t.time, .int .i64 t.at_, .int .i64 t.done, .int .i64 t.why] 33)
  go_upto_region 8 with fail
  obtain ⟨X5, hX5⟩ : ∃ X5, X4.alloc (.cells #[.slice d1 t.store.length o1, .slice d2 t.tape.length o2, .int .i64 t.taken, .slice d3 t.printed.length o3, .int .i64 t.time, .int .i64 t.at_, .int .i64 t.done, .int .i64 t.why] 33) = X5 := ⟨_, rfl⟩
  rw [hX5] at gu EU ⊢
  have HSZ := Lib.hid (show X4.heap.size ≤ X4.heap.size from Nat.le_refl _)
  obtain ⟨ub, hub⟩ : ∃ ub, X4.heap.size = ub := ⟨_, rfl⟩
  have HUB := Lib.hid hub
  rw [hub] at gu ⊢
  clear hX5 hub
  have gt5 := ((E14.comp EU).block tb (lt_of_block gt)).trans gt
  have q0 := blk_cell gt5 0 (v := .slice b1 t.store.length l1) rfl
  have q1 := blk_cell gt5 1 (v := .slice b2 t.tape.length l2) rfl
  have q2 := blk_cell gt5 2 (v := .int .i64 t.taken) rfl
  have q3 := blk_cell gt5 3 (v := .slice b3 t.printed.length l3) rfl
  have q4 := blk_cell gt5 4 (v := .int .i64 t.time) rfl
  have q5 := blk_cell gt5 5 (v := .int .i64 t.at_) rfl
  have q6 := blk_cell gt5 6 (v := .int .i64 t.done) rfl
  have q7 := blk_cell gt5 7 (v := .int .i64 t.why) rfl
  have r0 := blk_cell gu 0 (v := .slice d1 t.store.length o1) rfl
  have r1 := blk_cell gu 1 (v := .slice d2 t.tape.length o2) rfl
  have r2 := blk_cell gu 2 (v := .int .i64 t.taken) rfl
  have r3 := blk_cell gu 3 (v := .slice d3 t.printed.length o3) rfl
  have r4 := blk_cell gu 4 (v := .int .i64 t.time) rfl
  have r5 := blk_cell gu 5 (v := .int .i64 t.at_) rfl
  have r6 := blk_cell gu 6 (v := .int .i64 t.done) rfl
  have r7 := blk_cell gu 7 (v := .int .i64 t.why) rfl
  go_wp2_with fail
  refine (states_same _ _ t _ (HT.out.ext (ET.comp (E14.comp EU))) (HU.out.ext EU) HBT.out.1).mono ?_
  rintro e X6 ⟨rfl, E6⟩
  clear q0 q1 q2 q3 q4 q5 q6 q7 r0 r1 r2 r3 r4 r5 r6 r7
  have gu6 := (E6.block ub (lt_of_block gu)).trans gu
  have E06 : Ext ((w.alloc (.cells #[.slice a1 s.store.length k1, .slice a2 s.tape.length k2, .int .i64 s.taken, .slice a3 s.printed.length k3, .int .i64 s.time, .int .i64 s.at_, .int .i64 s.done, .int .i64 s.why] 33)).alloc (.cells #[.int .u8 (m0 : Int), .int .u8 (m1 : Int)] 48)) X6 := E1.comp (ET.comp (E14.comp (EU.comp E6)))
  have g4 := HG4.out X6 E06
  have q0 := blk_cell gu6 0 (v := .slice d1 t.store.length o1) rfl
  have q1 := blk_cell gu6 1 (v := .slice d2 t.tape.length o2) rfl
  have q2 := blk_cell gu6 2 (v := .int .i64 t.taken) rfl
  have q3 := blk_cell gu6 3 (v := .slice d3 t.printed.length o3) rfl
  have q4 := blk_cell gu6 4 (v := .int .i64 t.time) rfl
  have q5 := blk_cell gu6 5 (v := .int .i64 t.at_) rfl
  have q6 := blk_cell gu6 6 (v := .int .i64 t.done) rfl
  have q7 := blk_cell gu6 7 (v := .int .i64 t.why) rfl
  have r1 := blk_cell g4 1 (v := .int .u8 (m1 : Int)) rfl
  go_wp2_with fail
  refine (hrun2 _ _ (HU.out.ext (EU.comp E6))).mono ?_
  rintro e X7 ⟨v', rfl, ⟨f1, f2, f3, y1, y2, y3, rfl, j1, j2, j3⟩, E7⟩
  dsimp only at j1 j2 j3 ⊢
  clear q0 q1 q2 q3 q4 q5 q6 q7 r1 g4 hrun2 gu gt gt5
  have gu7 := (E7.block ub (lt_of_block gu6)).trans gu6
  have KS := s8_kp (M := fun q => q = ub) (w := X7) (b := ub) (n0 := .slice f1 u.store.length y1) (n1 := .slice f2 u.tape.length y2) (n2 := .int .i64 u.taken) (n3 := .slice f3 u.printed.length y3) (n4 := .int .i64 u.time) (n5 := .int .i64 u.at_) (n6 := .int .i64 u.done) (n7 := .int .i64 u.why) rfl
  have ES := ext_set8 (E06.comp E7) (show ((w.alloc (.cells #[.slice a1 s.store.length k1, .slice a2 s.tape.length k2, .int .i64 s.taken, .slice a3 s.printed.length k3, .int .i64 s.time, .int .i64 s.at_, .int .i64 s.done, .int .i64 s.why] 33)).alloc (.cells #[.int .u8 (m0 : Int), .int .u8 (m1 : Int)] 48)).heap.size ≤ ub by rw [← HUB.out]; exact (E1.comp (ET.comp E14)).size) (.slice f1 u.store.length y1) (.slice f2 u.tape.length y2) (.int .i64 u.taken) (.slice f3 u.printed.length y3) (.int .i64 u.time) (.int .i64 u.at_) (.int .i64 u.done) (.int .i64 u.why)
  have g9 := cells_set (cells_set (cells_set (cells_set (cells_set (cells_set (cells_set (cells_set gu7 0 (.slice f1 u.store.length y1)) 1 (.slice f2 u.tape.length y2)) 2 (.int .i64 u.taken)) 3 (.slice f3 u.printed.length y3)) 4 (.int .i64 u.time)) 5 (.int .i64 u.at_)) 6 (.int .i64 u.done)) 7 (.int .i64 u.why)
  (try simp at g9)
  unfold S8 at KS
  have z1 := j1.kp KS (fun q h => by have := lt_of_block gu6; omega)
  have z2 := j2.kp KS (fun q h => by have := lt_of_block gu6; omega)
  have z3 := j3.kp KS (fun q h => by have := lt_of_block gu6; omega)
  have q0 := blk_cell gu7 0 (v := .slice d1 t.store.length o1) rfl
  have q1 := blk_cell gu7 1 (v := .slice d2 t.tape.length o2) rfl
  have q2 := blk_cell gu7 2 (v := .int .i64 t.taken) rfl
  have q3 := blk_cell gu7 3 (v := .slice d3 t.printed.length o3) rfl
  have q4 := blk_cell gu7 4 (v := .int .i64 t.time) rfl
  have q5 := blk_cell gu7 5 (v := .int .i64 t.at_) rfl
  have q6 := blk_cell gu7 6 (v := .int .i64 t.done) rfl
  have q7 := blk_cell gu7 7 (v := .int .i64 t.why) rfl
  have fr0 := blk_free gu7 0
  have fr1 := blk_free gu7 1
  have fr2 := blk_free gu7 2
  have fr3 := blk_free gu7 3
  have fr4 := blk_free gu7 4
  have fr5 := blk_free gu7 5
  have fr6 := blk_free gu7 6
  have fr7 := blk_free gu7 7
  go_upto_region 11 with fail
  generalize ((((((((X7.setCell ⟨ub, 0, none⟩ (.slice f1 u.store.length y1)).setCell ⟨ub, 1, none⟩ (.slice f2 u.tape.length y2)).setCell ⟨ub, 2, none⟩ (.int .i64 u.taken)).setCell ⟨ub, 3, none⟩ (.slice f3 u.printed.length y3)).setCell ⟨ub, 4, none⟩ (.int .i64 u.time)).setCell ⟨ub, 5, none⟩ (.int .i64 u.at_)).setCell ⟨ub, 6, none⟩ (.int .i64 u.done)).setCell ⟨ub, 7, none⟩ (.int .i64 u.why)) = V at KS ES g9 z1 z2 z3 ⊢
  have HV := Lib.hid (show StAt V (sv f1 f2 f3 u.store.length y1 u.tape.length y2 u.printed.length y3 u.taken u.time u.at_ u.done u.why) u from ⟨f1, f2, f3, y1, y2, y3, rfl, z1.at_, z2.at_, z3.at_⟩)
  clear q0 q1 q2 q3 q4 q5 q6 q7 fr0 fr1 fr2 fr3 fr4 fr5 fr6 fr7 gu7 gu6 KS j1 j2 j3 z1 z2 z3 E06 E7 E6 E14 EU ET
  have g3 := HG3.out V ES
  have g4 := HG4.out V ES
  have q0 := blk_cell g3 0 (v := .slice a1 s.store.length k1) rfl
  have q1 := blk_cell g3 1 (v := .slice a2 s.tape.length k2) rfl
  have q2 := blk_cell g3 2 (v := .int .i64 s.taken) rfl
  have q3 := blk_cell g3 3 (v := .slice a3 s.printed.length k3) rfl
  have q4 := blk_cell g3 4 (v := .int .i64 s.time) rfl
  have q5 := blk_cell g3 5 (v := .int .i64 s.at_) rfl
  have q6 := blk_cell g3 6 (v := .int .i64 s.done) rfl
  have q7 := blk_cell g3 7 (v := .int .i64 s.why) rfl
  have r0 := blk_cell g4 0 (v := .int .u8 (m0 : Int)) rfl
  have r1 := blk_cell g4 1 (v := .int .u8 (m1 : Int)) rfl
  go_wp2_with fail
  refine (hrun3 _ (E0.comp ES)).mono ?_
  rintro e X8 ⟨v', rfl, ⟨h1, h2, h3, n1, n2, n3, rfl, j1, j2, j3⟩, E8⟩
  dsimp only at j1 j2 j3 ⊢
  clear q0 q1 q2 q3 q4 q5 q6 q7 r0 r1 g3 g4 hrun3 hrun
  have gw := heap_alloc_new X8 (.cells #[.slice h1 u.store.length n1, .slice h2 u.tape.length n2, .int .i64 u.taken, .slice h3 u.printed.length n3, .int .i64 u.time, .int .i64 u.at_, .int .i64 u.done, .int .i64 u.why] 33)
  have EW := (Ext.refl X8).alloc (.cells #[.slice h1 u.store.length n1, .slice h2 u.tape.length n2, .int .i64 u.taken, .slice h3 u.printed.length n3, .int .i64 u.time, .int .i64 u.at_, .int .i64 u.done, .int .i64 u.why] 33)
  have HW := Lib.hid (show StAt X8 (sv h1 h2 h3 u.store.length n1 u.tape.length n2 u.printed.length n3 u.taken u.time u.at_ u.done u.why) u from ⟨h1, h2, h3, n1, n2, n3, rfl, j1, j2, j3⟩)
  clear j1 j2 j3
  go_upto_region 12 with fail
  obtain ⟨X9, hX9⟩ : ∃ X9, X8.alloc (.cells #[.slice h1 u.store.length n1, .slice h2 u.tape.length n2, .int .i64 u.taken, .slice h3 u.printed.length n3, .int .i64 u.time, .int .i64 u.at_, .int .i64 u.done, .int .i64 u.why] 33) = X9 := ⟨_, rfl⟩
  rw [hX9] at gw EW ⊢
  obtain ⟨wb, hwb⟩ : ∃ wb, X8.heap.size = wb := ⟨_, rfl⟩
  rw [hwb] at gw ⊢
  clear hX9 hwb
  have gu9 := ((E8.comp EW).block ub (lt_of_block g9)).trans g9
  have q0 := blk_cell gu9 0 (v := .slice f1 u.store.length y1) rfl
  have q1 := blk_cell gu9 1 (v := .slice f2 u.tape.length y2) rfl
  have q2 := blk_cell gu9 2 (v := .int .i64 u.taken) rfl
  have q3 := blk_cell gu9 3 (v := .slice f3 u.printed.length y3) rfl
  have q4 := blk_cell gu9 4 (v := .int .i64 u.time) rfl
  have q5 := blk_cell gu9 5 (v := .int .i64 u.at_) rfl
  have q6 := blk_cell gu9 6 (v := .int .i64 u.done) rfl
  have q7 := blk_cell gu9 7 (v := .int .i64 u.why) rfl
  have r0 := blk_cell gw 0 (v := .slice h1 u.store.length n1) rfl
  have r1 := blk_cell gw 1 (v := .slice h2 u.tape.length n2) rfl
  have r2 := blk_cell gw 2 (v := .int .i64 u.taken) rfl
  have r3 := blk_cell gw 3 (v := .slice h3 u.printed.length n3) rfl
  have r4 := blk_cell gw 4 (v := .int .i64 u.time) rfl
  have r5 := blk_cell gw 5 (v := .int .i64 u.at_) rfl
  have r6 := blk_cell gw 6 (v := .int .i64 u.done) rfl
  have r7 := blk_cell gw 7 (v := .int .i64 u.why) rfl
  go_wp2_with fail
  refine (states_same _ _ u _ (HV.out.ext (E8.comp EW)) (HW.out.ext EW) HBT.out.2).mono ?_
  rintro e Y1 ⟨rfl, F1⟩
  clear q0 q1 q2 q3 q4 q5 q6 q7 r0 r1 r2 r3 r4 r5 r6 r7
  go_wp2_with fail
  refine (haw _).mono ?_
  rintro e Y2 ⟨rfl, F2⟩
  go_wp2_with fail
  go_ret
  exact ⟨rfl, E0.comp (ES.comp (E8.comp (EW.comp (F1.comp F2))))⟩
end Go.Proofs.Ytnhpcoagkmgdoaa

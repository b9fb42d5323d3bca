import Derived.Test.YtnhpcoagkmgdoaaXDL7
import Derived.Test.YtnhpcoagkmgdoaaXDL8
import Derived.Test.YtnhpcoagkmgdoaaX27
import Derived.Test.YtnhpcoagkmgdoaaX23
import Derived.Test.YtnhpcoagkmgdoaaX6
set_option linter.unusedVariables false
set_option linter.unusedSimpArgs false
/- The law DumpGuarded. -/
namespace Go.Proofs.Ytnhpcoagkmgdoaa
open Go.RowKit Go.Q Go.Shelf Go.Maps Go.Joins
set_option maxHeartbeats 4000000
set_option maxRecDepth 100000
theorem dumpGuarded_any (haw : AwakeT) (v : Value) (s : St) (la : Option Addr) (ln lc m : Nat) (L : List Loss) (w : World) (hS : StAt w v s) (hb : StBd s) (hl : L.length = ln) (hln : ln ≤ 9223372036854775807) (hL : LossAt w la L) (hLi : ∀ y ∈ L, -9223372036854775808 ≤ y.after ∧ y.after ≤ 9223372036854775807) (hm : m < 256) :
  Calls Try.prog 10 #[v, .slice la ln lc, .int .u8 (m : Int)] w fun e w' => e = .returned (.bool true) ∧ Ext w w' := by
 obtain ⟨a1, a2, a3, k1, k2, k3, rfl, i1, i2, i3⟩ := hS
 have HS := Lib.hid (fun Y (E : Ext w Y) => show StAt Y (sv a1 a2 a3 s.store.length k1 s.tape.length k2 s.printed.length k3 s.taken s.time s.at_ s.done s.why) s from (show StAt w _ s from ⟨a1, a2, a3, k1, k2, k3, rfl, i1, i2, i3⟩).ext E)
 clear i1 i2 i3
 have g3 := heap_alloc_new w (.cells #[.slice a1 s.store.length k1, .slice a2 s.tape.length k2, .int .i64 s.taken, .slice a3 s.printed.length k3, .int .i64 s.time, .int .i64 s.at_, .int .i64 s.done, .int .i64 s.why] 33)
 have E0 : Ext w (w.alloc (.cells #[.slice a1 s.store.length k1, .slice a2 s.tape.length k2, .int .i64 s.taken, .slice a3 s.printed.length k3, .int .i64 s.time, .int .i64 s.at_, .int .i64 s.done, .int .i64 s.why] 33)) := (Ext.refl w).alloc _
 have v0 : IntKind.i64.wrap (m : Int) = (m : Int) := IntWalk.i64_in _ (by omega)
 have hgd := fun W (E : Ext w W) => guard_any _ s L la ln lc (m : Int) W (HS.out W E) hb hl (hL.ext E) hLi
 have hap := fun W (E : Ext w W) => apart_any la ln lc L W hl hln (hL.ext E)
 by_cases hx : guardX s L (m : Int) = 0
 ·obtain ⟨hv, hLo, -, -⟩ := guard_valid hx
  have hg : guardE s L (m : Int) = ((guardN L m (beginL s)).1.s, (guardN L m (beginL s)).2, 0) := by unfold guardE; rw [if_pos hx, Int.toNat_natCast]
  rw [hg] at hgd
  have hgs := fun ha => guarded hv hLo ha m
  obtain ⟨ha, hr⟩ : askedQ s (m : Int) = 0 ∧ runE s (m : Int) = (runQ m s, 0) := by
   rcases run_small s (m := m) (by omega) with ⟨hc, _, _⟩ | ⟨_, h2, h, _⟩
   ·exact absurd (by have := asked_of_valid hv (most := 0) ⟨by omega, by omega⟩; rw [asked_small s ⟨by omega, by omega⟩] at this; exact this) hc
   ·exact ⟨h2, h⟩
  have hrn := fun W (E : Ext w W) => runE_anyP _ s (m : Int) W (HS.out W E) hb ha
  rw [hr] at hrn
  have hbu := valid_bd (runQ_valid m hv)
  obtain ⟨t, ht⟩ : ∃ t, (guardN L m (beginL s)).1.s = t := ⟨_, rfl⟩
  obtain ⟨lost, hlo⟩ : ∃ lost, (guardN L m (beginL s)).2 = lost := ⟨_, rfl⟩
  obtain ⟨u, hu⟩ : ∃ u, runQ m s = u := ⟨_, rfl⟩
  rw [ht, hlo] at hgd hgs
  rw [hu] at hgs hrn hbu
  have HG := Lib.hid hgs
  have HBU := Lib.hid hbu
  clear hx hv hLo hg ha hr hgs ht hlo hu hbu hL hLi hl hb
  go_enter Try.func10, Try.ntmps10
  have q0 := blk_cell g3 0 (v := .slice a1 s.store.length k1) rfl
  have q1 := blk_cell g3 1 (v := .slice a2 s.tape.length k2) rfl
  have q2 := blk_cell g3 2 (v := .int .i64 s.taken) rfl
  have q3 := blk_cell g3 3 (v := .slice a3 s.printed.length k3) rfl
  have q4 := blk_cell g3 4 (v := .int .i64 s.time) rfl
  have q5 := blk_cell g3 5 (v := .int .i64 s.at_) rfl
  have q6 := blk_cell g3 6 (v := .int .i64 s.done) rfl
  have q7 := blk_cell g3 7 (v := .int .i64 s.why) rfl
  go_wp2_with fail
  refine (hgd _ E0).mono ?_
  rintro e w1 ⟨v', rfl, ⟨b1, b2, b3, l1, l2, l3, rfl, j1, j2, j3⟩, E1⟩
  dsimp only at j1 j2 j3 ⊢
  clear q0 q1 q2 q3 q4 q5 q6 q7 hgd
  have g3 := (E1.block w.heap.size (lt_of_block g3)).trans g3
  have gt := heap_alloc_new w1 (.cells #[.slice b1 t.store.length l1, .slice b2 t.tape.length l2, .int .i64 t.taken, .slice b3 t.printed.length l3, .int .i64 t.time, .int .i64 t.at_, .int .i64 t.done, .int .i64 t.why] 33)
  have ET := (Ext.refl w1).alloc (.cells #[.slice b1 t.store.length l1, .slice b2 t.tape.length l2, .int .i64 t.taken, .slice b3 t.printed.length l3, .int .i64 t.time, .int .i64 t.at_, .int .i64 t.done, .int .i64 t.why] 33)
  have HI3 := Lib.hid j3
  have HT := Lib.hid (show StAt w1 (sv b1 b2 b3 t.store.length l1 t.tape.length l2 t.printed.length l3 t.taken t.time t.at_ t.done t.why) t from ⟨b1, b2, b3, l1, l2, l3, rfl, j1, j2, j3⟩)
  clear j1 j2 j3
  go_upto_region 4 with fail
  obtain ⟨X1, hX1⟩ : ∃ X1, w1.alloc (.cells #[.slice b1 t.store.length l1, .slice b2 t.tape.length l2, .int .i64 t.taken, .slice b3 t.printed.length l3, .int .i64 t.time, .int .i64 t.at_, .int .i64 t.done, .int .i64 t.why] 33) = X1 := ⟨_, rfl⟩
  have HSX : Hid (X1.heap.size = w1.heap.size + 1) := Lib.hid (by rw [← hX1]; simp)
  rw [hX1] at gt ET ⊢
  obtain ⟨tb, htb⟩ : ∃ tb, w1.heap.size = tb := ⟨_, rfl⟩
  rw [htb] at gt HSX ⊢
  have HTB := Lib.hid htb
  clear hX1 htb
  have g3 := (ET.block w.heap.size (lt_of_block g3)).trans g3
  have q0 := blk_cell g3 0 (v := .slice a1 s.store.length k1) rfl
  have q1 := blk_cell g3 1 (v := .slice a2 s.tape.length k2) rfl
  have q2 := blk_cell g3 2 (v := .int .i64 s.taken) rfl
  have q3 := blk_cell g3 3 (v := .slice a3 s.printed.length k3) rfl
  have q4 := blk_cell g3 4 (v := .int .i64 s.time) rfl
  have q5 := blk_cell g3 5 (v := .int .i64 s.at_) rfl
  have q6 := blk_cell g3 6 (v := .int .i64 s.done) rfl
  have q7 := blk_cell g3 7 (v := .int .i64 s.why) rfl
  go_wp2_with fail
  refine (hrn _ (E0.comp (E1.comp ET))).mono ?_
  rintro e X2 ⟨h1, h2, h3, n1, n2, n3, rfl, z1, z2, z3, hcap, E2⟩
  dsimp only at z1 z2 z3 hcap ⊢
  clear q0 q1 q2 q3 q4 q5 q6 q7 hrn g3
  have gu := heap_alloc_new X2 (.cells #[.slice h1 u.store.length n1, .slice h2 u.tape.length n2, .int .i64 u.taken, .slice h3 u.printed.length n3, .int .i64 u.time, .int .i64 u.at_, .int .i64 u.done, .int .i64 u.why] 33)
  have EU := (Ext.refl X2).alloc (.cells #[.slice h1 u.store.length n1, .slice h2 u.tape.length n2, .int .i64 u.taken, .slice h3 u.printed.length n3, .int .i64 u.time, .int .i64 u.at_, .int .i64 u.done, .int .i64 u.why] 33)
  have HZ := Lib.hid (And.intro z1 (And.intro z2 z3))
  have hm3 := z3.at_
  clear z1 z2 z3
  go_upto_region 7 with fail
  obtain ⟨X3, hX3⟩ : ∃ X3, X2.alloc (.cells #[.slice h1 u.store.length n1, .slice h2 u.tape.length n2, .int .i64 u.taken, .slice h3 u.printed.length n3, .int .i64 u.time, .int .i64 u.at_, .int .i64 u.done, .int .i64 u.why] 33) = X3 := ⟨_, rfl⟩
  rw [hX3] at gu EU ⊢
  obtain ⟨ub, hub⟩ : ∃ ub, X2.heap.size = ub := ⟨_, rfl⟩
  have HUB := Lib.hid hub
  rw [hub] at gu ⊢
  clear hX3 hub
  have E03 : Ext w X3 := E0.comp (E1.comp (ET.comp (E2.comp EU)))
  go_wp2_with fail
  refine (hap _ E03).mono ?_
  rintro e X4 ⟨bb, rfl, hbb, E4⟩
  cases bb with
  | false =>
   go_wp2_with fail
   refine (haw _).mono ?_
   rintro e X5 ⟨rfl, E5⟩
   go_wp2_with fail
   go_ret
   exact ⟨rfl, E03.comp (E4.comp E5)⟩
  | true =>
   obtain ⟨hgo, hpos, hneg⟩ := HG.out (hbb rfl)
   clear hbb hap
   have HPN := Lib.hid (And.intro hpos hneg)
   obtain ⟨⟨hp1, hp2⟩, hdn, htk⟩ := hgo
   have d1 : ¬ u.done < t.done := by omega
   have d2 : ¬ u.taken < t.taken := by omega
   have hbg := begins_any b3 h3 t.printed.length u.printed.length l3 n3 t.printed u.printed X4 rfl rfl hp1 hcap (HI3.out.ext (ET.comp (E2.comp (EU.comp E4)))) (hm3.ext (EU.comp E4)) hp2
   have gt4 := ((E2.comp (EU.comp E4)).block tb (lt_of_block gt)).trans gt
   have gu4 := (E4.block ub (lt_of_block gu)).trans gu
   have q0 := blk_cell gt4 0 (v := .slice b1 t.store.length l1) rfl
   have q1 := blk_cell gt4 1 (v := .slice b2 t.tape.length l2) rfl
   have q2 := blk_cell gt4 2 (v := .int .i64 t.taken) rfl
   have q3 := blk_cell gt4 3 (v := .slice b3 t.printed.length l3) rfl
   have q4 := blk_cell gt4 4 (v := .int .i64 t.time) rfl
   have q5 := blk_cell gt4 5 (v := .int .i64 t.at_) rfl
   have q6 := blk_cell gt4 6 (v := .int .i64 t.done) rfl
   have q7 := blk_cell gt4 7 (v := .int .i64 t.why) rfl
   have r0 := blk_cell gu4 0 (v := .slice h1 u.store.length n1) rfl
   have r1 := blk_cell gu4 1 (v := .slice h2 u.tape.length n2) rfl
   have r2 := blk_cell gu4 2 (v := .int .i64 u.taken) rfl
   have r3 := blk_cell gu4 3 (v := .slice h3 u.printed.length n3) rfl
   have r4 := blk_cell gu4 4 (v := .int .i64 u.time) rfl
   have r5 := blk_cell gu4 5 (v := .int .i64 u.at_) rfl
   have r6 := blk_cell gu4 6 (v := .int .i64 u.done) rfl
   have r7 := blk_cell gu4 7 (v := .int .i64 u.why) rfl
   clear hpos hneg hp1 hp2 hdn htk hm3
   go_wp2_with fail
   refine hbg.mono ?_
   rintro e X5 ⟨rfl, E5⟩
   clear q0 q1 q2 q3 q4 q5 q6 q7 r0 r1 r2 r3 r4 r5 r6 r7 hbg
   have gt5 := (E5.block tb (lt_of_block gt4)).trans gt4
   have gu5 := (E5.block ub (lt_of_block gu4)).trans gu4
   have q0 := blk_cell gt5 0 (v := .slice b1 t.store.length l1) rfl
   have q1 := blk_cell gt5 1 (v := .slice b2 t.tape.length l2) rfl
   have q2 := blk_cell gt5 2 (v := .int .i64 t.taken) rfl
   have q3 := blk_cell gt5 3 (v := .slice b3 t.printed.length l3) rfl
   have q4 := blk_cell gt5 4 (v := .int .i64 t.time) rfl
   have q5 := blk_cell gt5 5 (v := .int .i64 t.at_) rfl
   have q6 := blk_cell gt5 6 (v := .int .i64 t.done) rfl
   have q7 := blk_cell gt5 7 (v := .int .i64 t.why) rfl
   have r0 := blk_cell gu5 0 (v := .slice h1 u.store.length n1) rfl
   have r1 := blk_cell gu5 1 (v := .slice h2 u.tape.length n2) rfl
   have r2 := blk_cell gu5 2 (v := .int .i64 u.taken) rfl
   have r3 := blk_cell gu5 3 (v := .slice h3 u.printed.length n3) rfl
   have r4 := blk_cell gu5 4 (v := .int .i64 u.time) rfl
   have r5 := blk_cell gu5 5 (v := .int .i64 u.at_) rfl
   have r6 := blk_cell gu5 6 (v := .int .i64 u.done) rfl
   have r7 := blk_cell gu5 7 (v := .int .i64 u.why) rfl
   have E35 : Ext X3 X5 := E4.comp E5
   clear gt4 gu4 E4 E5 hcap
   by_cases hlo : 0 ≤ lost
   ·obtain ⟨hlo2, hwy⟩ := HPN.out.1 hlo
    have d3 : lost < 128 := by omega
    have d4 : (t.why == 0) = true := by simpa using hwy
    clear hwy
    go_wp2_with fail
    refine (haw _).mono ?_
    rintro e X6 ⟨rfl, E6⟩
    go_wp2_with fail
    go_ret
    exact ⟨rfl, E03.comp (E35.comp E6)⟩
   ·obtain ⟨rfl, hsame⟩ := HPN.out.2 (by omega)
    have f7 := blk_free gt5 0
    have f10 := blk_free gu5 0
    have KV : KpM (fun q => q = tb ∨ q = ub) X5 ((X5.setCell ⟨tb, 0, none⟩ (.slice none 0 0)).setCell ⟨ub, 0, none⟩ (.slice none 0 0)) := (kpm_set (M := fun q => q = tb ∨ q = ub) X5 tb 0 (.slice none 0 0) (.inl rfl)).trans (kpm_set (M := fun q => q = tb ∨ q = ub) _ ub 0 (.slice none 0 0) (.inr rfl))
    have EV1 : Ext w1 ((X5.setCell ⟨tb, 0, none⟩ (.slice none 0 0)).setCell ⟨ub, 0, none⟩ (.slice none 0 0)) := ((ET.comp (E2.comp (EU.comp E35))).setCell (p := ⟨tb, 0, none⟩) (by rw [HTB.out]; exact Nat.le_refl _) _).setCell (p := ⟨ub, 0, none⟩) (by have := HTB.out; have := HUB.out; have := (ET.comp E2).size; show w1.heap.size ≤ ub; omega) _
    have KU : KpM (fun q => q = tb ∨ q = ub) X2 ((X5.setCell ⟨tb, 0, none⟩ (.slice none 0 0)).setCell ⟨ub, 0, none⟩ (.slice none 0 0)) := (KpM.of_ext (EU.comp E35)).trans KV
    have htu : tb < ub := by have := HUB.out; have := HSX.out; have := E2.size; omega
    have gt6 := cells_set gt5 0 (.slice none 0 0)
    (try simp at gt6)
    have gt7 := (Below.heap_setCell (X5.setCell ⟨tb, 0, none⟩ (.slice none 0 0)) ⟨ub, 0, none⟩ (.slice none 0 0) tb (show tb ≠ ub by omega)).trans gt6
    have gu6 := (Below.heap_setCell X5 ⟨tb, 0, none⟩ (.slice none 0 0) ub (show ub ≠ tb by omega)).trans gu5
    have gu7 := cells_set gu6 0 (.slice none 0 0)
    (try simp at gu7)
    have f10 := blk_free gu6 0
    have r0 := blk_cell gu6 0 (v := .slice h1 u.store.length n1) rfl
    have hI : ∀ b, b < X2.heap.size → (b = tb ∨ b = ub) → b < X1.heap.size := fun b hb h => by
     have := HUB.out; have := HSX.out; omega
    have y2 := (HZ.out.2.1.kp KU hI).at_
    have y3 := (HZ.out.2.2.kp KU hI).at_
    have hT0 := HT.out.ext EV1
    clear KV KU hI
    go_upto_region 14 with fail
    generalize ((X5.setCell ⟨tb, 0, none⟩ (.slice none 0 0)).setCell ⟨ub, 0, none⟩ (.slice none 0 0)) = V at gt7 gu7 y2 y3 EV1 hT0 ⊢
    clear q0 q1 q2 q3 q4 q5 q6 q7 r0 r1 r2 r3 r4 r5 r6 r7 f7 f10 gt5 gu5 gt6 gu6 htu
    have hTT : StAt V (sv none b2 b3 0 0 t.tape.length l2 t.printed.length l3 t.taken t.time t.at_ t.done t.why) { u with store := ([] : List Int) } := by
     rw [← hsame]
     obtain ⟨c1, c2, c3, o1, o2, o3, he, x1, x2, x3⟩ := hT0
     unfold sv at he
     simp only [Value.agg.injEq, Array.mk.injEq, List.cons.injEq, Value.slice.injEq, true_and, and_true] at he
     obtain ⟨⟨rfl, rfl⟩, ⟨rfl, rfl⟩, rfl, rfl⟩ := he
     exact ⟨none, _, _, 0, _, _, rfl, .inl rfl, x2, x3⟩
    have hUU : StAt V (sv none h2 h3 0 0 u.tape.length n2 u.printed.length n3 u.taken u.time u.at_ u.done u.why) { u with store := ([] : List Int) } := ⟨none, h2, h3, 0, n2, n3, rfl, .inl rfl, y2, y3⟩
    have hBB : StBd { u with store := ([] : List Int) } := ⟨by show ([] : List Int).length ≤ _; simp, HBU.out.2.1, HBU.out.2.2⟩
    have q0 := blk_cell gt7 0 (v := .slice none 0 0) rfl
    have q1 := blk_cell gt7 1 (v := .slice b2 t.tape.length l2) rfl
    have q2 := blk_cell gt7 2 (v := .int .i64 t.taken) rfl
    have q3 := blk_cell gt7 3 (v := .slice b3 t.printed.length l3) rfl
    have q4 := blk_cell gt7 4 (v := .int .i64 t.time) rfl
    have q5 := blk_cell gt7 5 (v := .int .i64 t.at_) rfl
    have q6 := blk_cell gt7 6 (v := .int .i64 t.done) rfl
    have q7 := blk_cell gt7 7 (v := .int .i64 t.why) rfl
    have r0 := blk_cell gu7 0 (v := .slice none 0 0) rfl
    have r1 := blk_cell gu7 1 (v := .slice h2 u.tape.length n2) rfl
    have r2 := blk_cell gu7 2 (v := .int .i64 u.taken) rfl
    have r3 := blk_cell gu7 3 (v := .slice h3 u.printed.length n3) rfl
    have r4 := blk_cell gu7 4 (v := .int .i64 u.time) rfl
    have r5 := blk_cell gu7 5 (v := .int .i64 u.at_) rfl
    have r6 := blk_cell gu7 6 (v := .int .i64 u.done) rfl
    have r7 := blk_cell gu7 7 (v := .int .i64 u.why) rfl
    clear hT0 y2 y3 hsame
    go_wp2_with fail
    refine (states_same _ _ _ _ hTT hUU hBB).mono ?_
    rintro e X6 ⟨rfl, E6⟩
    go_wp2_with fail
    refine (haw _).mono ?_
    rintro e X7 ⟨rfl, E7⟩
    go_wp2_with fail
    go_ret
    exact ⟨rfl, (E0.comp E1).comp (EV1.comp (E6.comp E7))⟩
 ·have hg : guardE s L (m : Int) = (zst, 0, guardX s L (m : Int)) := by unfold guardE; rw [if_neg hx]
  rw [hg] at hgd
  obtain ⟨er, her⟩ : ∃ er, guardX s L (m : Int) = er := ⟨_, rfl⟩
  rw [her] at hgd hx
  have e1 : (er != 0) = true := by simpa using hx
  clear hg her hx hap hL hLi hl hb
  go_enter Try.func10, Try.ntmps10
  have q0 := blk_cell g3 0 (v := .slice a1 s.store.length k1) rfl
  have q1 := blk_cell g3 1 (v := .slice a2 s.tape.length k2) rfl
  have q2 := blk_cell g3 2 (v := .int .i64 s.taken) rfl
  have q3 := blk_cell g3 3 (v := .slice a3 s.printed.length k3) rfl
  have q4 := blk_cell g3 4 (v := .int .i64 s.time) rfl
  have q5 := blk_cell g3 5 (v := .int .i64 s.at_) rfl
  have q6 := blk_cell g3 6 (v := .int .i64 s.done) rfl
  have q7 := blk_cell g3 7 (v := .int .i64 s.why) rfl
  go_wp2_with fail
  refine (hgd _ E0).mono ?_
  rintro e w1 ⟨v', rfl, ⟨b1, b2, b3, l1, l2, l3, rfl, _⟩, E1⟩
  simp only [zst, List.length_nil]
  clear q0 q1 q2 q3 q4 q5 q6 q7 hgd
  go_wp2_with fail
  refine (haw _).mono ?_
  rintro e w7 ⟨rfl, E7⟩
  go_wp2_with fail
  go_ret
  exact ⟨rfl, (E0.comp E1).comp E7.old⟩
end Go.Proofs.Ytnhpcoagkmgdoaa

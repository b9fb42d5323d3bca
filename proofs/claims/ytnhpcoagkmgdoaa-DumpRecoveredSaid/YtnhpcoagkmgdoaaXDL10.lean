import Derived.Test.YtnhpcoagkmgdoaaXDL7
import Derived.Test.YtnhpcoagkmgdoaaXDL8
import Derived.Test.YtnhpcoagkmgdoaaX29
import Derived.Test.YtnhpcoagkmgdoaaX7
set_option linter.unusedVariables false
set_option linter.unusedSimpArgs false
/- The law DumpRecovered. -/
namespace Go.Proofs.Ytnhpcoagkmgdoaa
open Go.RowKit Go.Q Go.Shelf Go.Maps Go.Joins
set_option maxHeartbeats 4000000
set_option maxRecDepth 100000
theorem dumpRecovered_any (haw : AwakeT) (v : Value) (s : St) (la : Option Addr) (ln lc m0 m1 : Nat) (L : List Loss) (w : World) (hS : StAt w v s) (hb : StBd s) (hl : L.length = ln) (hln : ln ≤ 9223372036854775807) (hL : LossAt w la L) (hLi : ∀ y ∈ L, -9223372036854775808 ≤ y.after ∧ y.after ≤ 9223372036854775807) (h0 : m0 < 256) (h1 : m1 < 256) :
  Calls Try.prog 11 #[v, .slice la ln lc, .agg #[.int .u8 (m0 : Int), .int .u8 (m1 : Int)]] w fun e w' => e = .returned (.bool true) ∧ Ext w w' := by
 obtain ⟨a1, a2, a3, k1, k2, k3, rfl, i1, i2, i3⟩ := hS
 have HS := Lib.hid (fun Y (E : Ext w Y) => show StAt Y (sv a1 a2 a3 s.store.length k1 s.tape.length k2 s.printed.length k3 s.taken s.time s.at_ s.done s.why) s from (show StAt w _ s from ⟨a1, a2, a3, k1, k2, k3, rfl, i1, i2, i3⟩).ext E)
 clear i1 i2 i3
 have g3 := heap_alloc_new w (.cells #[.slice a1 s.store.length k1, .slice a2 s.tape.length k2, .int .i64 s.taken, .slice a3 s.printed.length k3, .int .i64 s.time, .int .i64 s.at_, .int .i64 s.done, .int .i64 s.why] 33)
 have g4 := heap_alloc_new (w.alloc (.cells #[.slice a1 s.store.length k1, .slice a2 s.tape.length k2, .int .i64 s.taken, .slice a3 s.printed.length k3, .int .i64 s.time, .int .i64 s.at_, .int .i64 s.done, .int .i64 s.why] 33)) (.cells #[.int .u8 (m0 : Int), .int .u8 (m1 : Int)] 48)
 rw [World.size_alloc] at g4
 have E0 : Ext w ((w.alloc (.cells #[.slice a1 s.store.length k1, .slice a2 s.tape.length k2, .int .i64 s.taken, .slice a3 s.printed.length k3, .int .i64 s.time, .int .i64 s.at_, .int .i64 s.done, .int .i64 s.why] 33)).alloc (.cells #[.int .u8 (m0 : Int), .int .u8 (m1 : Int)] 48)) := ((Ext.refl w).alloc _).alloc _
 have g3 := (Below.heap_alloc (w.alloc (.cells #[.slice a1 s.store.length k1, .slice a2 s.tape.length k2, .int .i64 s.taken, .slice a3 s.printed.length k3, .int .i64 s.time, .int .i64 s.at_, .int .i64 s.done, .int .i64 s.why] 33)) (.cells #[.int .u8 (m0 : Int), .int .u8 (m1 : Int)] 48) _ (lt_of_block g3)).trans g3
 have v0 : IntKind.i64.wrap (m0 : Int) = (m0 : Int) := IntWalk.i64_in _ (by omega)
 have v1 : IntKind.i64.wrap (m1 : Int) = (m1 : Int) := IntWalk.i64_in _ (by omega)
 obtain ⟨ev, hev⟩ : ∃ ev : Int, 1 + (m0 : Int) = ev := ⟨_, rfl⟩
 have v2 : IntKind.i64.wrap (1 + (m0 : Int)) = ev := by rw [hev]; exact IntWalk.i64_in _ (by omega)
 have v3 : IntKind.i64.wrap ((m0 : Int) + 1) = ev := by rw [show (m0 : Int) + 1 = ev by omega]; exact IntWalk.i64_in _ (by omega)
 have HEV := Lib.hid (show inB ev 1 5000 = true by unfold inB; rw [decide_eq_true (show 1 ≤ ev by omega), decide_eq_true (show ev ≤ 5000 by omega)]; rfl)
 have hrc := fun W (E : Ext w W) => recover_any _ s L la ln lc ev (m1 : Int) W (HS.out W E) hb hl (hL.ext E) hLi
 have hap := fun W (E : Ext w W) => apart_any la ln lc L W hl hln (hL.ext E)
 have HLN := Lib.hid hl
 have HB := Lib.hid hb
 have HG4 := Lib.hid (fun Y E => ((show Ext ((w.alloc (.cells #[.slice a1 s.store.length k1, .slice a2 s.tape.length k2, .int .i64 s.taken, .slice a3 s.printed.length k3, .int .i64 s.time, .int .i64 s.at_, .int .i64 s.done, .int .i64 s.why] 33)).alloc (.cells #[.int .u8 (m0 : Int), .int .u8 (m1 : Int)] 48)) Y from E).block (w.heap.size + 1) (lt_of_block g4)).trans g4)
 have HG3 := Lib.hid (fun Y E => ((show Ext ((w.alloc (.cells #[.slice a1 s.store.length k1, .slice a2 s.tape.length k2, .int .i64 s.taken, .slice a3 s.printed.length k3, .int .i64 s.time, .int .i64 s.at_, .int .i64 s.done, .int .i64 s.why] 33)).alloc (.cells #[.int .u8 (m0 : Int), .int .u8 (m1 : Int)] 48)) Y from E).block w.heap.size (lt_of_block g3)).trans g3)
 clear hl hL hLi hb hev
 go_enter Try.func11, Try.ntmps11
 have q0 := blk_cell g3 0 (v := .slice a1 s.store.length k1) rfl
 have q1 := blk_cell g3 1 (v := .slice a2 s.tape.length k2) rfl
 have q2 := blk_cell g3 2 (v := .int .i64 s.taken) rfl
 have q3 := blk_cell g3 3 (v := .slice a3 s.printed.length k3) rfl
 have q4 := blk_cell g3 4 (v := .int .i64 s.time) rfl
 have q5 := blk_cell g3 5 (v := .int .i64 s.at_) rfl
 have q6 := blk_cell g3 6 (v := .int .i64 s.done) rfl
 have q7 := blk_cell g3 7 (v := .int .i64 s.why) rfl
 have r0 := blk_cell g4 0 (v := .int .u8 (m0 : Int)) rfl
 have r1 := blk_cell g4 1 (v := .int .u8 (m1 : Int)) rfl
 go_wp2_with fail
 refine (hrc _ E0).mono ?_
 rintro e w1 ⟨p, hr, v', rfl, ⟨b1, b2, b3, l1, l2, l3, rfl, j1, j2, j3⟩, E1⟩
 clear q0 q1 q2 q3 q4 q5 q6 q7 r0 r1 hrc g3 g4 v2 v3
 rcases hr with ⟨hx, rfl⟩ | ⟨_, hx, _⟩ | ⟨hx, _, x, hx2, rfl⟩
 ·obtain ⟨er, her⟩ : ∃ er, guardX s L (m1 : Int) = er := ⟨_, rfl⟩
  rw [her] at hx
  dsimp only
  rw [her]
  have e1 : (er != 0) = true := by simpa using hx
  clear hx her j1 j2 j3
  simp only [zst, List.length_nil]
  go_wp2_with fail
  refine (haw _).mono ?_
  rintro e w7 ⟨rfl, E7⟩
  go_wp2_with fail
  go_ret
  exact ⟨rfl, (E0.comp E1).comp E7.old⟩
 ·exact absurd (hx.symm.trans HEV.out) (by decide)
 ·obtain ⟨t, bk⟩ := x
  dsimp only at j1 j2 j3 ⊢
  obtain ⟨hv, hLo, -, -⟩ := guard_valid hx
  have hrec := recovered hv hLo (show (0 : Int) ≤ (m1 : Int) by omega) hx2
  rw [Int.toNat_natCast] at hrec
  dsimp only at hrec
  obtain ⟨hbk, heq⟩ := hrec
  obtain ⟨ha, hr⟩ : askedQ s (m1 : Int) = 0 ∧ runE s (m1 : Int) = (runQ m1 s, 0) := by
   rcases run_small s (m := m1) (by omega) with ⟨hc, _, _⟩ | ⟨_, h2, h, _⟩
   ·exact absurd (by have := asked_of_valid hv (most := 0) ⟨by omega, by omega⟩; rw [asked_small s ⟨by omega, by omega⟩] at this; exact this) hc
   ·exact ⟨h2, h⟩
  have hrn := fun W (E : Ext w W) => runE_any _ s (m1 : Int) W (HS.out W E) HB.out
  rw [hr] at hrn
  have hbu := valid_bd (runQ_valid m1 hv)
  obtain ⟨u, hu⟩ : ∃ u, runQ m1 s = u := ⟨_, rfl⟩
  rw [hu] at heq hrn hbu
  rw [HLN.out] at hbk
  have HEQ := Lib.hid heq
  have HBU := Lib.hid hbu
  have d1 : ¬ (bk : Int) < 0 := by omega
  have d2 : ¬ (ln : Int) < (bk : Int) := by omega
  clear hx hx2 hv hLo ha hr hu heq hbu hbk
  have gt := heap_alloc_new w1 (.cells #[.slice b1 t.store.length l1, .slice b2 t.tape.length l2, .int .i64 t.taken, .slice b3 t.printed.length l3, .int .i64 t.time, .int .i64 t.at_, .int .i64 t.done, .int .i64 t.why] 33)
  have ET := (Ext.refl w1).alloc (.cells #[.slice b1 t.store.length l1, .slice b2 t.tape.length l2, .int .i64 t.taken, .slice b3 t.printed.length l3, .int .i64 t.time, .int .i64 t.at_, .int .i64 t.done, .int .i64 t.why] 33)
  have HT := Lib.hid (show StAt w1 (sv b1 b2 b3 t.store.length l1 t.tape.length l2 t.printed.length l3 t.taken t.time t.at_ t.done t.why) t from ⟨b1, b2, b3, l1, l2, l3, rfl, j1, j2, j3⟩)
  clear j1 j2 j3
  go_upto_region 4 with fail
  obtain ⟨X1, hX1⟩ : ∃ X1, w1.alloc (.cells #[.slice b1 t.store.length l1, .slice b2 t.tape.length l2, .int .i64 t.taken, .slice b3 t.printed.length l3, .int .i64 t.time, .int .i64 t.at_, .int .i64 t.done, .int .i64 t.why] 33) = X1 := ⟨_, rfl⟩
  rw [hX1] at gt ET ⊢
  obtain ⟨tb, htb⟩ : ∃ tb, w1.heap.size = tb := ⟨_, rfl⟩
  rw [htb] at gt ⊢
  clear hX1 htb
  have g3 := HG3.out X1 (E1.comp ET)
  have g4 := HG4.out X1 (E1.comp ET)
  have q0 := blk_cell g3 0 (v := .slice a1 s.store.length k1) rfl
  have q1 := blk_cell g3 1 (v := .slice a2 s.tape.length k2) rfl
  have q2 := blk_cell g3 2 (v := .int .i64 s.taken) rfl
  have q3 := blk_cell g3 3 (v := .slice a3 s.printed.length k3) rfl
  have q4 := blk_cell g3 4 (v := .int .i64 s.time) rfl
  have q5 := blk_cell g3 5 (v := .int .i64 s.at_) rfl
  have q6 := blk_cell g3 6 (v := .int .i64 s.done) rfl
  have q7 := blk_cell g3 7 (v := .int .i64 s.why) rfl
  have r1 := blk_cell g4 1 (v := .int .u8 (m1 : Int)) rfl
  go_wp2_with fail
  refine (hrn _ (E0.comp (E1.comp ET))).mono ?_
  rintro e X2 ⟨v', rfl, ⟨h1', h2, h3, n1, n2, n3, rfl, j1, j2, j3⟩, E2⟩
  dsimp only at j1 j2 j3 ⊢
  obtain ⟨h1, hh⟩ : ∃ h1, h1' = h1 := ⟨_, rfl⟩
  rw [hh] at j1 ⊢
  clear q0 q1 q2 q3 q4 q5 q6 q7 r1 hrn g3 g4 hh
  have gu := heap_alloc_new X2 (.cells #[.slice h1 u.store.length n1, .slice h2 u.tape.length n2, .int .i64 u.taken, .slice h3 u.printed.length n3, .int .i64 u.time, .int .i64 u.at_, .int .i64 u.done, .int .i64 u.why] 33)
  have EU := (Ext.refl X2).alloc (.cells #[.slice h1 u.store.length n1, .slice h2 u.tape.length n2, .int .i64 u.taken, .slice h3 u.printed.length n3, .int .i64 u.time, .int .i64 u.at_, .int .i64 u.done, .int .i64 u.why] 33)
  have HU := Lib.hid (show StAt X2 (sv h1 h2 h3 u.store.length n1 u.tape.length n2 u.printed.length n3 u.taken u.time u.at_ u.done u.why) u from ⟨h1, h2, h3, n1, n2, n3, rfl, j1, j2, j3⟩)
  clear j1 j2 j3
  go_upto_region 7 with fail
  obtain ⟨X3, hX3⟩ : ∃ X3, X2.alloc (.cells #[.slice h1 u.store.length n1, .slice h2 u.tape.length n2, .int .i64 u.taken, .slice h3 u.printed.length n3, .int .i64 u.time, .int .i64 u.at_, .int .i64 u.done, .int .i64 u.why] 33) = X3 := ⟨_, rfl⟩
  rw [hX3] at gu EU ⊢
  obtain ⟨ub, hub⟩ : ∃ ub, X2.heap.size = ub := ⟨_, rfl⟩
  rw [hub] at gu ⊢
  clear hX3 hub
  have E03 : Ext w X3 := E0.comp (E1.comp (ET.comp (E2.comp EU)))
  go_wp2_with fail
  refine (hap _ E03).mono ?_
  rintro e X4 ⟨bb, rfl, hbb, E4⟩
  cases bb with
  | false =>
   go_wp2_with fail
   refine (haw _).mono ?_
   rintro e X5 ⟨rfl, E5⟩
   go_wp2_with fail
   go_ret
   exact ⟨rfl, E03.comp (E4.comp E5)⟩
  | true =>
   obtain rfl := HEQ.out (hbb rfl)
   clear hbb hap
   have gt4 := ((E2.comp (EU.comp E4)).block tb (lt_of_block gt)).trans gt
   have gu4 := (E4.block ub (lt_of_block gu)).trans gu
   have q0 := blk_cell gt4 0 (v := .slice b1 t.store.length l1) rfl
   have q1 := blk_cell gt4 1 (v := .slice b2 t.tape.length l2) rfl
   have q2 := blk_cell gt4 2 (v := .int .i64 t.taken) rfl
   have q3 := blk_cell gt4 3 (v := .slice b3 t.printed.length l3) rfl
   have q4 := blk_cell gt4 4 (v := .int .i64 t.time) rfl
   have q5 := blk_cell gt4 5 (v := .int .i64 t.at_) rfl
   have q6 := blk_cell gt4 6 (v := .int .i64 t.done) rfl
   have q7 := blk_cell gt4 7 (v := .int .i64 t.why) rfl
   have r0 := blk_cell gu4 0 (v := .slice h1 t.store.length n1) rfl
   have r1 := blk_cell gu4 1 (v := .slice h2 t.tape.length n2) rfl
   have r2 := blk_cell gu4 2 (v := .int .i64 t.taken) rfl
   have r3 := blk_cell gu4 3 (v := .slice h3 t.printed.length n3) rfl
   have r4 := blk_cell gu4 4 (v := .int .i64 t.time) rfl
   have r5 := blk_cell gu4 5 (v := .int .i64 t.at_) rfl
   have r6 := blk_cell gu4 6 (v := .int .i64 t.done) rfl
   have r7 := blk_cell gu4 7 (v := .int .i64 t.why) rfl
   go_wp2_with fail
   refine (states_same _ _ t _ (HT.out.ext (ET.comp (E2.comp (EU.comp E4)))) (HU.out.ext (EU.comp E4)) HBU.out).mono ?_
   rintro e X5 ⟨rfl, E5⟩
   go_wp2_with fail
   refine (haw _).mono ?_
   rintro e X6 ⟨rfl, E6⟩
   go_wp2_with fail
   go_ret
   exact ⟨rfl, E03.comp (E4.comp (E5.comp E6))⟩
end Go.Proofs.Ytnhpcoagkmgdoaa

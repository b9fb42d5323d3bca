import Derived.Deep.RegionLawGrows
import Derived.Deep.DeepCutAuto
import Derived.RegionTactic
import Derived.Deep.RegionLaw
import Derived.Test.YtnhpcoagkmgdoaaGreatX29
import Derived.Test.YtnhpcoagkmgdoaaGreatX23
import Derived.Test.YtnhpcoagkmgdoaaGreatX17
import Derived.Test.YtnhpcoagkmgdoaaGreatX19
import Derived.Test.YtnhpcoagkmgdoaaGreatX27
set_option linter.unusedVariables false
set_option linter.unusedSimpArgs false
/- Layer 10's reference: Changes. -/
namespace Go.Proofs.YtnhpcoagkmgdoaaGreat
open Go.RowKit Go.Q Go.Shelf Go.Maps Go.Joins
set_option maxHeartbeats 4000000
set_option maxRecDepth 100000
theorem rchanges_any (v1 v2 : Value) (s t : St) (w : World) (hS : StAt w v1 s) (hT : StAt w v2 t) (hbs : StBd s) (hbt : StBd t) :
  Calls Tryz.prog 15 #[v1, v2] w (ChRes s t w) := by
 have hcS := fun W (E : Ext w W) => rcheck_any _ s W (hS.ext E) hbs
 have hcT := fun W (E : Ext w W) => rcheck_any _ t W (hT.ext E) hbt
 obtain ⟨a1, a2, a3, k1, k2, k3, rfl, i1, i2, i3⟩ := hS
 obtain ⟨b1, b2, b3, l1, l2, l3, rfl, j1, j2, j3⟩ := hT
 have hlS : (checkQ s).2.2 = 0 → s.store.length = 128 := fun h => (valid_of_check h).len
 have hlT : (checkQ t).2.2 = 0 → t.store.length = 128 := fun h => (valid_of_check h).len
 have HV := Lib.hid (show changesE s t = if (checkQ s).2.2 ≠ 0 then ([], (checkQ s).2.2) else if (checkQ t).2.2 ≠ 0 then ([], (checkQ t).2.2) else (changedN s.store t.store 128, 0) from rfl)
 obtain ⟨⟨x1, x2, x3⟩, hx⟩ : ∃ p, checkQ s = p := ⟨_, rfl⟩
 obtain ⟨⟨y1, y2, y3⟩, hy⟩ : ∃ p, checkQ t = p := ⟨_, rfl⟩
 rw [hx] at hcS HV hlS
 rw [hy] at hcT HV hlT
 dsimp only at hlS hlT
 have HLS := Lib.hid hlS
 have HLT := Lib.hid hlT
 clear hlS hlT
 unfold v3 at hcS hcT
 unfold sv at hcS hcT ⊢
 have HV : Hid (changesE s t = if x3 ≠ 0 then ([], x3) else if y3 ≠ 0 then ([], y3) else (changedN s.store t.store 128, 0)) := HV
 clear hx hy hbs hbt i2 i3 j2 j3
 obtain ⟨W2, hW2⟩ : ∃ W2, (w.alloc (.cells #[.slice a1 s.store.length k1, .slice a2 s.tape.length k2, .int .i64 s.taken, .slice a3 s.printed.length k3, .int .i64 s.time, .int .i64 s.at_, .int .i64 s.done, .int .i64 s.why] 24)).alloc (.cells #[.slice b1 t.store.length l1, .slice b2 t.tape.length l2, .int .i64 t.taken, .slice b3 t.printed.length l3, .int .i64 t.time, .int .i64 t.at_, .int .i64 t.done, .int .i64 t.why] 24) = W2 := ⟨_, rfl⟩
 have E2 : Ext w W2 := by rw [← hW2]; exact ((Ext.refl w).alloc _).alloc _
 have g0 : W2.heap[w.heap.size]? = some (.cells #[.slice a1 s.store.length k1, .slice a2 s.tape.length k2, .int .i64 s.taken, .slice a3 s.printed.length k3, .int .i64 s.time, .int .i64 s.at_, .int .i64 s.done, .int .i64 s.why] 24 (0, 0)) := by
  rw [← hW2]
  exact (Below.heap_alloc (w.alloc (.cells #[.slice a1 s.store.length k1, .slice a2 s.tape.length k2, .int .i64 s.taken, .slice a3 s.printed.length k3, .int .i64 s.time, .int .i64 s.at_, .int .i64 s.done, .int .i64 s.why] 24)) (.cells #[.slice b1 t.store.length l1, .slice b2 t.tape.length l2, .int .i64 t.taken, .slice b3 t.printed.length l3, .int .i64 t.time, .int .i64 t.at_, .int .i64 t.done, .int .i64 t.why] 24) _ (lt_of_block (heap_alloc_new w (.cells #[.slice a1 s.store.length k1, .slice a2 s.tape.length k2, .int .i64 s.taken, .slice a3 s.printed.length k3, .int .i64 s.time, .int .i64 s.at_, .int .i64 s.done, .int .i64 s.why] 24)))).trans (heap_alloc_new w (.cells #[.slice a1 s.store.length k1, .slice a2 s.tape.length k2, .int .i64 s.taken, .slice a3 s.printed.length k3, .int .i64 s.time, .int .i64 s.at_, .int .i64 s.done, .int .i64 s.why] 24))
 have g1 : W2.heap[w.heap.size + 1]? = some (.cells #[.slice b1 t.store.length l1, .slice b2 t.tape.length l2, .int .i64 t.taken, .slice b3 t.printed.length l3, .int .i64 t.time, .int .i64 t.at_, .int .i64 t.done, .int .i64 t.why] 24 (0, 0)) := by
  rw [← hW2]
  have e := heap_alloc_new (w.alloc (.cells #[.slice a1 s.store.length k1, .slice a2 s.tape.length k2, .int .i64 s.taken, .slice a3 s.printed.length k3, .int .i64 s.time, .int .i64 s.at_, .int .i64 s.done, .int .i64 s.why] 24)) (.cells #[.slice b1 t.store.length l1, .slice b2 t.tape.length l2, .int .i64 t.taken, .slice b3 t.printed.length l3, .int .i64 t.time, .int .i64 t.at_, .int .i64 t.done, .int .i64 t.why] 24)
  rw [World.size_alloc] at e
  exact e
 go_enter Tryz.func15, Tryz.ntmps15
 go_upto_region 1 with fail
 (try rw [hW2])
 clear hW2
 have q0 := blk_cell g0 0 (v := .slice a1 s.store.length k1) rfl
 have q1 := blk_cell g0 1 (v := .slice a2 s.tape.length k2) rfl
 have q2 := blk_cell g0 2 (v := .int .i64 s.taken) rfl
 have q3 := blk_cell g0 3 (v := .slice a3 s.printed.length k3) rfl
 have q4 := blk_cell g0 4 (v := .int .i64 s.time) rfl
 have q5 := blk_cell g0 5 (v := .int .i64 s.at_) rfl
 have q6 := blk_cell g0 6 (v := .int .i64 s.done) rfl
 have q7 := blk_cell g0 7 (v := .int .i64 s.why) rfl
 go_wp2_with fail
 refine (hcS _ E2).mono ?_
 rintro e w3 ⟨rfl, E3⟩
 clear q0 q1 q2 q3 q4 q5 q6 q7
 by_cases hz : x3 = 0
 ·subst hz
  have g1 := (E3.block _ (lt_of_block g1)).trans g1
  have r0 := blk_cell g1 0 (v := .slice b1 t.store.length l1) rfl
  have r1 := blk_cell g1 1 (v := .slice b2 t.tape.length l2) rfl
  have r2 := blk_cell g1 2 (v := .int .i64 t.taken) rfl
  have r3 := blk_cell g1 3 (v := .slice b3 t.printed.length l3) rfl
  have r4 := blk_cell g1 4 (v := .int .i64 t.time) rfl
  have r5 := blk_cell g1 5 (v := .int .i64 t.at_) rfl
  have r6 := blk_cell g1 6 (v := .int .i64 t.done) rfl
  have r7 := blk_cell g1 7 (v := .int .i64 t.why) rfl
  go_wp2_with fail
  refine (hcT _ (E2.comp E3)).mono ?_
  rintro e w4 ⟨rfl, E4⟩
  clear r0 r1 r2 r3 r4 r5 r6 r7
  by_cases hy : y3 = 0
  ·subst hy
   have hE0 := HV.out
   rw [if_neg (by simp), if_neg (by simp)] at hE0
   have HE := Lib.hid hE0
   have hLS : s.store.length = 128 := by first | exact HLS.out rfl | exact HLS.out trivial
   have hLT : t.store.length = 128 := by first | exact HLT.out rfl | exact HLT.out trivial
   obtain ⟨ba, offa, rfl, hba, hca⟩ : ∃ ba offa, a1 = some ⟨ba, offa, none⟩ ∧ ba < w.heap.size ∧ ∀ i, i < s.store.length → w.cell? ⟨ba, offa + i, none⟩ = some (.int .i64 (s.store[i]?.getD 0)) := by
    rcases i1 with h | h
    ·rw [h] at hLS; simp at hLS
    ·exact h
   obtain ⟨bb, off, rfl, hbb, hcb⟩ : ∃ bb off, b1 = some ⟨bb, off, none⟩ ∧ bb < w.heap.size ∧ ∀ i, i < t.store.length → w.cell? ⟨bb, off + i, none⟩ = some (.int .i64 (t.store[i]?.getD 0)) := by
    rcases j1 with h | h
    ·rw [h] at hLT; simp at hLT
    ·exact h
   have LS := Lib.hid hLS
   have LT := Lib.hid hLT
   clear hLS hLT hE0 HLS HLT hcS hcT HV i1 j1
   have G0 := ((E3.comp E4).block _ (lt_of_block g0)).trans g0
   have G1 := (E4.block _ (lt_of_block g1)).trans g1
   have EY := E2.comp (E3.comp E4)
   clear g0 g1
   obtain ⟨i0, hi0, hz0, hz1, hz2⟩ := info_parts Tryz.infoCh
   go_wp2_with fail
   go_loopw [9, 10] (fun s9 i wz => ∃ m : Nat, m ≤ 128 ∧ i = .int .i64 (m : Int) ∧ Ext w4 wz ∧ wz.ownsRow w4.heap.size 41 3 s9 (changedN s.store t.store m).length (ccs (changedN s.store t.store m))) (fun _ i _ => 128 - (intOf i).toNat)
   case atStart => exact ⟨0, by omega, rfl, Ext.refl _, World.ownsRow_nil _ _ _ _⟩
   case round =>
    obtain ⟨m, hm128, rfl, EM, hown⟩ := hrel
    by_cases hlt : m < 128
    ·have hltz : (m : Int) < 128 := by omega
     have hls : (m : Int) < (s.store.length : Int) := by rw [LS.out]; omega
     have hlt' : (m : Int) < (t.store.length : Int) := by rw [LT.out]; omega
     have hm0 : (0 : Int) ≤ (m : Int) := by omega
     have hsu := changed_succ s.store t.store m
     have hle := changed_le s.store t.store m
     have ca := hca m (by rw [LS.out]; exact hlt)
     have cb := hcb m (by rw [LT.out]; exact hlt)
     obtain ⟨x, hx⟩ : ∃ x, s.store[m]?.getD 0 = x := ⟨_, rfl⟩
     obtain ⟨y, hy⟩ : ∃ y, t.store[m]?.getD 0 = y := ⟨_, rfl⟩
     rw [hx] at ca
     rw [hy] at cb
     rw [hx, hy] at hsu
     obtain ⟨L, hL⟩ : ∃ L, changedN s.store t.store m = L := ⟨_, rfl⟩
     rw [hL] at hown hsu hle
     have w1' : IntKind.i64.wrap ((m : Int) + 1) = (m : Int) + 1 := IntWalk.i64_in _ (by omega)
     have HSU := Lib.hid hsu
     have HC := Lib.hid (fun Y (E : Ext w4 Y) => And.intro (((EY.comp E).cell (p := ⟨ba, offa + m, none⟩) hba).trans ca) (And.intro (((EY.comp E).cell (p := ⟨bb, off + m, none⟩) hbb).trans cb) (And.intro (blk_cell ((E.block _ (lt_of_block G0)).trans G0) 0 (v := .slice (some ⟨ba, offa, none⟩) s.store.length k1) rfl) (blk_cell ((E.block _ (lt_of_block G1)).trans G1) 0 (v := .slice (some ⟨bb, off, none⟩) t.store.length l1) rfl))))
     clear hL hsu hx hy hca hcb ca cb
     by_cases hxy : x = y
     ·subst hxy
      obtain ⟨c1, c2, c3, c4⟩ := HC.out wr EM
      go_upto_region 10 with fail
      go_quiet (fail)
      have EQ : Ext wr (wr.drewN nq) := ext_drewN (Ext.refl wr) nq
      obtain ⟨wq, hwq⟩ : ∃ wq, wr.drewN nq = wq := ⟨_, rfl⟩
      rw [hwq] at EQ ⊢
      clear hwq c1 c2 c3 c4
      go_wp2_with fail
      go_roundw
      case rel =>
       refine ⟨m + 1, by omega, by go_num, EM.comp EQ, ?_⟩
       rw [HSU.out, if_pos rfl, List.append_nil]
       exact own_extX hown EQ
      case measure => simp [intOf]; omega
     ·have hxb : (x != y) = true := by simpa using hxy
      obtain ⟨c1, c2, c3, c4⟩ := HC.out wr EM
      go_upto_region 10 with fail
      go_quiet (fail)
      have EQ : Ext wr (wr.drewN nq) := ext_drewN (Ext.refl wr) nq
      obtain ⟨wq, hwq⟩ : ∃ wq, wr.drewN nq = wq := ⟨_, rfl⟩
      rw [hwq] at EQ ⊢
      clear hwq c1 c2 c3 c4
      go_upto_region 11 with fail
      obtain ⟨c1, c2, c3, c4⟩ := HC.out wq.drew (EM.comp EQ).drew
      have EQd := ((EM.comp EQ).alloc (.cells #[.int .i64 (m : Int), .int .i64 x, .int .i64 y] 41)).drew
      have hownq := own_extX hown ((EQ.alloc (.cells #[.int .i64 (m : Int), .int .i64 x, .int .i64 y] 41)).drew)
      have hz := EQd.size
      have hfr : From (wq.alloc (.cells #[.int .i64 (m : Int), .int .i64 x, .int .i64 y] 41)).drew (some ⟨wq.heap.size, 0, none⟩) (cc ⟨(m : Int), x, y⟩) := by
       refine .inr ⟨_, rfl, fun j u hu => ?_⟩
       have hn := heap_alloc_new wq (.cells #[.int .i64 (m : Int), .int .i64 x, .int .i64 y] 41)
       rw [Addr.add_lit]
       simp only [Nat.zero_add]
       exact blk_cell (w := (wq.alloc (.cells #[.int .i64 (m : Int), .int .i64 x, .int .i64 y] 41)).drew) hn j (by rw [← hu]; simp [cc])
      clear hown HC EQ
      go_region_law (refine step_app (w0 := w4) (by rfl) _ _ _ (by rfl) 41 i0 (.agg #[.int .i64 0, .int .i64 0, .int .i64 0]) 3 24 Tryz.underlying37 hi0 hz0 hz1 hz2 rfl (by decide) _ L.length w4.heap.size (ccs L) (by rfl) hownq EQd (Nat.le_refl _) hz (some ⟨wq.heap.size, 0, none⟩) 1 1 (cc ⟨(m : Int), x, y⟩) (by rfl) rfl hfr (cc_one _) (by unfold maxLen; omega) (by omega) ?_; intro a5 c5 w5 ho5 hE5 _)
      all_goals
       go_wp2_with fail
       go_roundw
       case rel =>
        refine ⟨m + 1, by omega, by go_num, hE5, ?_⟩
        rw [HSU.out, if_neg hxy, List.length_append, ccs_snoc]
        exact ho5
       case measure => simp [intOf]; omega
    ·have hltz : ¬ (m : Int) < 128 := by omega
     obtain rfl : m = 128 := by omega
     go_wp2_with fail
     refine bodyPost_ret (v := .tuple #[u9, .int .i64 0]) (by simp [results, Tryz.results15, go_sem]) rfl ?_
     have hs2 := EY.size
     unfold ChRes
     rw [HE.out]
     exact ⟨_, rfl, ownsRow_le hown hs2, EY.comp EM⟩
  ·have hyb : (y3 != 0) = true := by simpa using hy
   have hye : (y3 == 0) = false := by simpa using hy
   go_wp2_with fail
   refine bodyPost_ret (v := .tuple #[.slice none 0 0, .int .i64 y3]) (by simp [results, Tryz.results15, go_sem]) rfl ?_
   unfold ChRes
   rw [HV.out, if_neg (by simp), if_pos hy]
   exact ⟨_, rfl, World.ownsRow_nil _ _ _ _, E2.comp (E3.comp E4)⟩
 ·have hzb : (x3 != 0) = true := by simpa using hz
  have hze : (x3 == 0) = false := by simpa using hz
  go_wp2_with fail
  refine bodyPost_ret (v := .tuple #[.slice none 0 0, .int .i64 x3]) (by simp [results, Tryz.results15, go_sem]) rfl ?_
  unfold ChRes
  rw [HV.out, if_pos hz]
  exact ⟨_, rfl, World.ownsRow_nil _ _ _ _, E2.comp E3⟩
end Go.Proofs.YtnhpcoagkmgdoaaGreat
/- Layer 10: a copy of the state, whose store is a row of its own. -/
namespace Go.Proofs.YtnhpcoagkmgdoaaGreat
open Go.RowKit Go.Q Go.Shelf Go.Maps Go.Joins
set_option maxHeartbeats 4000000
set_option maxRecDepth 100000
theorem own_kpI {M : Nat → Prop} {w w' : World} {B t sz n : Nat} {v : Value} {xs : List Value} (h : w.ownsRow B t sz v n xs) (K : KpM M w w') (hM : ∀ b, v.ownBlock = some b → ¬ M b) : w'.ownsRow B t sz v n xs := by
 refine ⟨h.1, ?_⟩
 rcases h.2 with h2 | ⟨g, cap, cur, rfl, hb, hg, r⟩
 ·exact .inl h2
 ·exact .inr ⟨g, cap, cur, rfl, hb, (K.block g (lt_of_block hg) (hM g rfl)).trans hg, r⟩
theorem own_lo {w : World} {B n c : Nat} {a : Option Addr} {m : Nat} {xs : List Value} (h : w.ownsRow B 3 1 (.slice a m c) n xs) : ∀ b, a.map (·.block) = some b → B ≤ b ∧ b < w.heap.size := by
 intro b hb
 rcases h.2 with ⟨h1, _⟩ | ⟨g, cap, cur, h1, hB, hg, _⟩
 ·obtain ⟨rfl, -, -⟩ := Value.slice.inj h1
  cases hb
 ·obtain ⟨rfl, -, -⟩ := Value.slice.inj h1
  cases hb
  exact ⟨hB, lt_of_block hg⟩
theorem own_extI {w w' : World} {B t sz n : Nat} {v : Value} {xs : List Value} (h : w.ownsRow B t sz v n xs) (E : Ext w w') : w'.ownsRow B t sz v n xs := by
 refine ⟨h.1, ?_⟩
 rcases h.2 with h2 | ⟨g, cap, cur, rfl, hb, hg, r⟩
 ·exact .inl h2
 ·exact .inr ⟨g, cap, cur, rfl, hb, (E.block g (lt_of_block hg)).trans hg, r⟩
theorem own_weak {w : World} {B B' t sz n : Nat} {v : Value} {xs : List Value} (h : w.ownsRow B' t sz v n xs) (hB : ∀ b, v.ownBlock = some b → B ≤ b) : w.ownsRow B t sz v n xs := by
 refine ⟨h.1, ?_⟩
 rcases h.2 with h2 | ⟨g, cap, cur, rfl, hb, r⟩
 ·exact .inl h2
 ·exact .inr ⟨g, cap, cur, rfl, hB g rfl, r⟩
def StOwn (s : St) (W : World) (e : Ending) (W' : World) : Prop := ∃ g d1 p2 d2 p3 d3, e = .returned (sv (some ⟨g, 0, none⟩) p2 p3 s.store.length d1 s.tape.length d2 s.printed.length d3 s.taken s.time s.at_ s.done s.why) ∧ W.heap.size ≤ g ∧
 W'.ownsRow W.heap.size 3 1 (.slice (some ⟨g, 0, none⟩) s.store.length d1) s.store.length (iv s.store) ∧ IntsAt W' p2 s.tape ∧ (∀ b, p2.map (·.block) = some b → b ≠ g ∧ W.heap.size ≤ b) ∧ IntsAt W' p3 s.printed ∧ (∀ b, p3.map (·.block) = some b → b ≠ g ∧ W.heap.size ≤ b) ∧ Ext W W'
theorem state_own (m mb : Nat) (L : List Loss) (x : Lm) (W : World) {ex : Nat → Prop} (h : LinAt W m mb L x ex) (hv : Valid x.s) :
  Calls Tryz.prog 22 #[.pointer (some ⟨m, 0, none⟩)] W (StOwn x.s W) := by
 obtain ⟨a1, a2, a3, c1, c2, c3, hB, i1, i2, i3, hM⟩ := h
 have EW := fun ob => (Ext.refl W).alloc ob
 have b0 := fun ob => (hB.ext (EW ob)).c0
 have b1 := fun ob => (hB.ext (EW ob)).c1
 have b2 := fun ob => (hB.ext (EW ob)).c2
 have b3 := fun ob => (hB.ext (EW ob)).c3
 have b4 := fun ob => (hB.ext (EW ob)).c4
 have b5 := fun ob => (hB.ext (EW ob)).c5
 have b6 := fun ob => (hB.ext (EW ob)).c6
 have b7 := fun ob => (hB.ext (EW ob)).c7
 have Hlen := Lib.hid hv.len
 have hc1 := fun X (E : Ext W X) => clone_any a1 x.s.store.length c1 x.s.store X rfl (by rw [hv.len]; omega) (i1.at_.ext E)
 have hc2 := fun X (E : Ext W X) => clone_any a2 x.s.tape.length c2 x.s.tape X rfl (by have := hv.tlen; omega) (i2.at_.ext E)
 have hc3 := fun X (E : Ext W X) => clone_any a3 x.s.printed.length c3 x.s.printed X rfl (by have := hv.plen; omega) (i3.at_.ext E)
 clear EW
 go_enter Tryz.func22, Tryz.ntmps22
 go_wp2
 have E0 : Ext W ((W.alloc (.cells #[.slice none 0 0, .slice none 0 0, .int .i64 0, .slice none 0 0, .int .i64 0, .int .i64 0, .int .i64 0, .int .i64 0] 24)).alloc (.cells #[.slice a1 x.s.store.length c1, .slice a2 x.s.tape.length c2, .int .i64 x.s.taken, .slice a3 x.s.printed.length c3, .int .i64 x.s.time, .int .i64 x.s.at_, .int .i64 x.s.done, .int .i64 x.s.why] 24)) := ((Ext.refl W).alloc _).alloc _
 have hR : ((W.alloc (.cells #[.slice none 0 0, .slice none 0 0, .int .i64 0, .slice none 0 0, .int .i64 0, .int .i64 0, .int .i64 0, .int .i64 0] 24)).alloc (.cells #[.slice a1 x.s.store.length c1, .slice a2 x.s.tape.length c2, .int .i64 x.s.taken, .slice a3 x.s.printed.length c3, .int .i64 x.s.time, .int .i64 x.s.at_, .int .i64 x.s.done, .int .i64 x.s.why] 24)).heap[W.heap.size]? = some (.cells #[.slice none 0 0, .slice none 0 0, .int .i64 0, .slice none 0 0, .int .i64 0, .int .i64 0, .int .i64 0, .int .i64 0] 24 (0, 0)) :=
  (((Ext.refl _).alloc _).block W.heap.size (by simp)).trans (heap_alloc_new W _)
 have hD : ((W.alloc (.cells #[.slice none 0 0, .slice none 0 0, .int .i64 0, .slice none 0 0, .int .i64 0, .int .i64 0, .int .i64 0, .int .i64 0] 24)).alloc (.cells #[.slice a1 x.s.store.length c1, .slice a2 x.s.tape.length c2, .int .i64 x.s.taken, .slice a3 x.s.printed.length c3, .int .i64 x.s.time, .int .i64 x.s.at_, .int .i64 x.s.done, .int .i64 x.s.why] 24)).heap[W.heap.size + 1]? = some (.cells #[.slice a1 x.s.store.length c1, .slice a2 x.s.tape.length c2, .int .i64 x.s.taken, .slice a3 x.s.printed.length c3, .int .i64 x.s.time, .int .i64 x.s.at_, .int .i64 x.s.done, .int .i64 x.s.why] 24 (0, 0)) := by
  have e := heap_alloc_new (W.alloc (.cells #[.slice none 0 0, .slice none 0 0, .int .i64 0, .slice none 0 0, .int .i64 0, .int .i64 0, .int .i64 0, .int .i64 0] 24)) (.cells #[.slice a1 x.s.store.length c1, .slice a2 x.s.tape.length c2, .int .i64 x.s.taken, .slice a3 x.s.printed.length c3, .int .i64 x.s.time, .int .i64 x.s.at_, .int .i64 x.s.done, .int .i64 x.s.why] 24)
  rw [World.size_alloc] at e
  exact e
 obtain ⟨X, hX⟩ : ∃ X, ((W.alloc (.cells #[.slice none 0 0, .slice none 0 0, .int .i64 0, .slice none 0 0, .int .i64 0, .int .i64 0, .int .i64 0, .int .i64 0] 24)).alloc (.cells #[.slice a1 x.s.store.length c1, .slice a2 x.s.tape.length c2, .int .i64 x.s.taken, .slice a3 x.s.printed.length c3, .int .i64 x.s.time, .int .i64 x.s.at_, .int .i64 x.s.done, .int .i64 x.s.why] 24)) = X := ⟨_, rfl⟩
 rw [hX] at E0 hR hD ⊢
 obtain ⟨R, hRn⟩ : ∃ R, W.heap.size = R := ⟨_, rfl⟩
 obtain ⟨D, hDn⟩ : ∃ D, R + 1 = D := ⟨_, rfl⟩
 rw [hRn] at hR hD ⊢
 rw [hDn] at hD ⊢
 have hRD : R ≠ D := by omega
 have hWR : W.heap.size ≤ R := by omega
 have hWD : W.heap.size ≤ D := by omega
 clear b0 b1 b2 b3 b4 b5 b6 b7 hX hRn
 have HS : ∀ Y : World, Ext X Y → Y.cell? ⟨D, 0, none⟩ = some (.slice a1 x.s.store.length c1) ∧ Y.cell? ⟨D, 1, none⟩ = some (.slice a2 x.s.tape.length c2) ∧ Y.cell? ⟨D, 3, none⟩ = some (.slice a3 x.s.printed.length c3) := fun Y E => by
  have h := (E.block D (lt_of_block hD)).trans hD
  exact ⟨blk_cell h 0 rfl, blk_cell h 1 rfl, blk_cell h 3 rfl⟩
 have EX : Ext X X.drew := (Ext.refl X).drew
 refine wp_region_Z (fun i => decide (9 ≤ i)) (fun Y => Ext X Y) (by kernel_rfl) EX fun hSX => ?_
 refine wpAnyZ_take (i := 0) (oi := ⟨_, _, _, _, _, _⟩) (v := ?_) rfl (by kernel_rfl) (by kernel_rfl) (by kernel_rfl) (by kernel_rfl) (fun _ _ _ h => h) (Or.inl ⟨by rfl, ?_⟩) hSX ?_
 rotate_left
 ·intro wX hS
  obtain ⟨q0, q1, q2⟩ := HS wX hS
  go_simp
  (try with_reducible rfl)
 (try simp only [Act.put, List.setIfInBounds_toArray, List.set_cons_zero, List.set_cons_succ])
 refine wpAnyZ_take (i := 1) (oi := ⟨_, _, _, _, _, _⟩) (v := ?_) rfl (by kernel_rfl) (by kernel_rfl) (by kernel_rfl) (by kernel_rfl) (fun _ _ _ h => h) (Or.inl ⟨by rfl, ?_⟩) hSX ?_
 rotate_left
 ·intro wX hS
  obtain ⟨q0, q1, q2⟩ := HS wX hS
  go_simp
  (try with_reducible rfl)
 (try simp only [Act.put, List.setIfInBounds_toArray, List.set_cons_zero, List.set_cons_succ])
 refine wpAnyZ_take (i := 3) (oi := ⟨_, _, _, _, _, _⟩) (v := ?_) rfl (by kernel_rfl) (by kernel_rfl) (by kernel_rfl) (by kernel_rfl) (fun _ _ _ h => h) (Or.inl ⟨by rfl, ?_⟩) hSX ?_
 rotate_left
 ·intro wX hS
  obtain ⟨q0, q1, q2⟩ := HS wX hS
  go_simp
  (try with_reducible rfl)
 (try simp only [Act.put, List.setIfInBounds_toArray, List.set_cons_zero, List.set_cons_succ])
 refine wpAnyZ_take (i := 4) (oi := ⟨_, _, _, _, _, _⟩) (v := ?_) rfl (by kernel_rfl) (by kernel_rfl) (by kernel_rfl) (by kernel_rfl) (fun _ _ _ h => h) (Or.inl ⟨by rfl, ?_⟩) hSX ?_
 rotate_left
 ·intro wX hS
  obtain ⟨q0, q1, q2⟩ := HS wX hS
  go_simp
  (try with_reducible rfl)
 (try simp only [Act.put, List.setIfInBounds_toArray, List.set_cons_zero, List.set_cons_succ])
 refine wpAnyZ_take (i := 6) (oi := ⟨_, _, _, _, _, _⟩) (v := ?_) rfl (by kernel_rfl) (by kernel_rfl) (by kernel_rfl) (by kernel_rfl) (fun _ _ _ h => h) (Or.inl ⟨by rfl, ?_⟩) hSX ?_
 rotate_left
 ·intro wX hS
  obtain ⟨q0, q1, q2⟩ := HS wX hS
  go_simp
  (try with_reducible rfl)
 (try simp only [Act.put, List.setIfInBounds_toArray, List.set_cons_zero, List.set_cons_succ])
 refine wpAnyZ_take (i := 7) (oi := ⟨_, _, _, _, _, _⟩) (v := ?_) rfl (by kernel_rfl) (by kernel_rfl) (by kernel_rfl) (by kernel_rfl) (fun _ _ _ h => h) (Or.inl ⟨by rfl, ?_⟩) hSX ?_
 rotate_left
 ·intro wX hS
  obtain ⟨q0, q1, q2⟩ := HS wX hS
  go_simp
  (try with_reducible rfl)
 (try simp only [Act.put, List.setIfInBounds_toArray, List.set_cons_zero, List.set_cons_succ])
 refine wpAnyZ_one (i := 2) (o := ⟨_, _, _, _, _, _⟩) (by kernel_rfl) rfl (fun K hK => ?_)
 go_simp
 go_at_call 48
 refine (hc1 _ (E0.comp EX)).mono ?_
 rintro e y1 ⟨p1, d1, rfl, O1, E1⟩
 have EX1 := EX.comp E1
 refine hK _ _ (.inr EX1) (fun _ => ?_)
 clear hK
 (try simp only [Act.put, List.setIfInBounds_toArray, List.set_cons_zero, List.set_cons_succ])
 refine wpAnyZ_takeP (i := 9) (oi := ⟨_, _, _, _, _, _⟩) (v := ?_) rfl (by kernel_rfl) (by kernel_rfl) (by kernel_rfl) (by kernel_rfl) (fun _ _ _ h => h) (Or.inl ⟨by rfl, ?_⟩) ?_
 rotate_left
 ·intro wX _
  go_simp
  (try with_reducible rfl)
 (try simp only [Act.put, List.setIfInBounds_toArray, List.set_cons_zero, List.set_cons_succ])
 refine wpAnyZ_one (i := 5) (o := ⟨_, _, _, _, _, _⟩) (by kernel_rfl) rfl (fun K hK => ?_)
 go_simp
 go_at_call 48
 refine (hc2 _ (E0.comp EX1)).mono ?_
 rintro e y2 ⟨p2, d2, rfl, O2, E2⟩
 have EX2 := EX1.comp E2
 refine hK _ _ (.inr EX2) (fun _ => ?_)
 clear hK
 (try simp only [Act.put, List.setIfInBounds_toArray, List.set_cons_zero, List.set_cons_succ])
 refine wpAnyZ_one (i := 8) (o := ⟨_, _, _, _, _, _⟩) (by kernel_rfl) rfl (fun K hK => ?_)
 go_simp
 go_at_call 48
 refine (hc3 _ (E0.comp EX2)).mono ?_
 rintro e y3 ⟨p3, d3, rfl, O3, E3⟩
 have EX3 := EX2.comp E3
 refine hK _ _ (.inr EX3) (fun _ => ?_)
 clear hK
 (try simp only [Act.put, List.setIfInBounds_toArray, List.set_cons_zero, List.set_cons_succ])
 have g0 := (EX3.block D (lt_of_block hD)).trans hD
 have EW3 := E0.comp EX3
 have hRy := (EX3.block R (lt_of_block hR)).trans hR
 clear HS hc1 hc2 hc3 EX
 have f0 := blk_free g0 0
 have e0 := blk_cell g0 0 rfl
 have g1 := cells_set g0 0 (.slice p1 x.s.store.length d1)
 refine wpAnyZ_one (i := 10) (o := ⟨_, _, _, _, _, _⟩) (by kernel_rfl) rfl (fun K hK => ?_)
 go_simp
 refine hK _ _ (.inl rfl) (fun _ => ?_)
 clear hK
 (try simp only [Act.put, List.setIfInBounds_toArray, List.set_cons_zero, List.set_cons_succ])
 refine wpAnyZ_takeP (i := 11) (oi := ⟨_, _, _, _, _, _⟩) (v := ?_) rfl (by kernel_rfl) (by kernel_rfl) (by kernel_rfl) (by kernel_rfl) (fun _ _ _ h => h) (Or.inl ⟨by rfl, ?_⟩) ?_
 rotate_left
 ·intro wX _
  go_simp
  (try with_reducible rfl)
 (try simp only [Act.put, List.setIfInBounds_toArray, List.set_cons_zero, List.set_cons_succ])
 have f1 := blk_free g1 1
 have e1 := blk_cell g1 1 rfl
 have g2 := cells_set g1 1 (.slice p2 x.s.tape.length d2)
 refine wpAnyZ_one (i := 12) (o := ⟨_, _, _, _, _, _⟩) (by kernel_rfl) rfl (fun K hK => ?_)
 go_simp
 refine hK _ _ (.inl rfl) (fun _ => ?_)
 clear hK
 (try simp only [Act.put, List.setIfInBounds_toArray, List.set_cons_zero, List.set_cons_succ])
 refine wpAnyZ_takeP (i := 13) (oi := ⟨_, _, _, _, _, _⟩) (v := ?_) rfl (by kernel_rfl) (by kernel_rfl) (by kernel_rfl) (by kernel_rfl) (fun _ _ _ h => h) (Or.inl ⟨by rfl, ?_⟩) ?_
 rotate_left
 ·intro wX _
  go_simp
  (try with_reducible rfl)
 (try simp only [Act.put, List.setIfInBounds_toArray, List.set_cons_zero, List.set_cons_succ])
 have f2 := blk_free g2 3
 have e2 := blk_cell g2 3 rfl
 have g3 := cells_set g2 3 (.slice p3 x.s.printed.length d3)
 refine wpAnyZ_one (i := 14) (o := ⟨_, _, _, _, _, _⟩) (by kernel_rfl) rfl (fun K hK => ?_)
 go_simp
 refine hK _ _ (.inl rfl) (fun _ => ?_)
 clear hK
 (try simp only [Act.put, List.setIfInBounds_toArray, List.set_cons_zero, List.set_cons_succ])
 refine wpAnyZ_done (by kernel_rfl) ?_ _
 have KV : KpM (fun q => q = D) y3 (((y3.setCell ⟨D, 0, none⟩ (.slice p1 x.s.store.length d1)).setCell ⟨D, 1, none⟩ (.slice p2 x.s.tape.length d2)).setCell ⟨D, 3, none⟩ (.slice p3 x.s.printed.length d3)) :=
  ((kpm_set (M := fun q => q = D) _ D 0 _ rfl).trans (kpm_set (M := fun q => q = D) _ D 1 _ rfl)).trans (kpm_set (M := fun q => q = D) _ D 3 _ rfl)
 generalize ((y3.setCell ⟨D, 0, none⟩ (.slice p1 x.s.store.length d1)).setCell ⟨D, 1, none⟩ (.slice p2 x.s.tape.length d2)).setCell ⟨D, 3, none⟩ (.slice p3 x.s.printed.length d3) = V at *
 have gV : V.heap[D]? = some (.cells #[.slice p1 x.s.store.length d1, .slice p2 x.s.tape.length d2, .int .i64 x.s.taken, .slice p3 x.s.printed.length d3, .int .i64 x.s.time, .int .i64 x.s.at_, .int .i64 x.s.done, .int .i64 x.s.why] 24 (0, 0)) := by simpa using g3
 have hRV := (KV.block R (lt_of_block hRy) hRD).trans hRy
 have hDX : D < X.heap.size := lt_of_block hD
 have z1 := EX1.size
 have z2 := EX2.size
 have z3 := E2.size
 have z4 := E3.size
 have n1 := own_lo O1
 have n2 := own_lo O2
 have n3 := own_lo O3
 have n0 : X.drew.heap.size = X.heap.size := rfl
 have P1 := Lib.hid (own_kpI (own_extI (own_extI O1 E2) E3) KV (fun b hb e => by have := own_at O1 hb; omega))
 have P2 := Lib.hid (ints_kp ((own_ints O2).ext E3) KV (fun b hb e => by have := n2 b hb; omega))
 have P3 := Lib.hid (ints_kp (own_ints O3) KV (fun b hb e => by have := n3 b hb; omega))
 have hRX : R < X.heap.size := lt_of_block hR
 have PN : Hid (∀ b, p1.map (·.block) = some b → W.heap.size ≤ b ∧ b ≠ R) := Lib.hid (fun b hb => by have := n1 b hb; omega)
 have PM : Hid (∀ b b', p1.map (·.block) = some b → (p2.map (·.block) = some b' ∨ p3.map (·.block) = some b') → b' ≠ b ∧ b' ≠ R ∧ W.heap.size ≤ b') := Lib.hid (fun b b' hb hb' => by
  have h1 := n1 b hb
  rcases hb' with hb' | hb'
  ·have := n2 b' hb'; omega
  ·have := n3 b' hb'; omega)
 have EV : Ext W V := EW3.below5 KV (fun b hb => by rw [hb]; exact hWD)
 clear f0 f1 f2 e0 e1 e2 g0 g1 g2 g3 hRy O1 O2 O3 KV n1 n2 n3 n0 z1 z2 z3 z4 hDX hRX EX1 EX2 EX3 EW3 E1 E2 E3 hD hR E0 hSX
 have c0 := cell_of_cells gV 0 (v := .slice p1 x.s.store.length d1) rfl
 have c1 := cell_of_cells gV 1 (v := .slice p2 x.s.tape.length d2) rfl
 have c2 := cell_of_cells gV 2 (v := .int .i64 x.s.taken) rfl
 have c3 := cell_of_cells gV 3 (v := .slice p3 x.s.printed.length d3) rfl
 have c4 := cell_of_cells gV 4 (v := .int .i64 x.s.time) rfl
 have c5 := cell_of_cells gV 5 (v := .int .i64 x.s.at_) rfl
 have c6 := cell_of_cells gV 6 (v := .int .i64 x.s.done) rfl
 have c7 := cell_of_cells gV 7 (v := .int .i64 x.s.why) rfl
 have q0 := cell_of_cells hRV 0 (v := .slice none 0 0) rfl
 have q1 := cell_of_cells hRV 1 (v := .slice none 0 0) rfl
 have q2 := cell_of_cells hRV 2 (v := .int .i64 0) rfl
 have q3 := cell_of_cells hRV 3 (v := .slice none 0 0) rfl
 have q4 := cell_of_cells hRV 4 (v := .int .i64 0) rfl
 have q5 := cell_of_cells hRV 5 (v := .int .i64 0) rfl
 have q6 := cell_of_cells hRV 6 (v := .int .i64 0) rfl
 have q7 := cell_of_cells hRV 7 (v := .int .i64 0) rfl
 have f0 := free_of_cells hRV 0
 have f1 := free_of_cells hRV 1
 have f2 := free_of_cells hRV 2
 have f3 := free_of_cells hRV 3
 have f4 := free_of_cells hRV 4
 have f5 := free_of_cells hRV 5
 have f6 := free_of_cells hRV 6
 have f7 := free_of_cells hRV 7
 go_wp2
 refine bodyPost_ret (v := .agg #[.slice p1 x.s.store.length d1, .slice p2 x.s.tape.length d2, .int .i64 x.s.taken, .slice p3 x.s.printed.length d3, .int .i64 x.s.time, .int .i64 x.s.at_, .int .i64 x.s.done, .int .i64 x.s.why]) (by simp [results, Tryz.results22, go_sem, q0, q1, q2, q3, q4, q5, q6, q7]) rfl ?_
 have hb := hRV
 have KR := s8_kp (M := fun q => q = R) (w := V) (b := R) (n0 := .slice p1 x.s.store.length d1) (n1 := .slice p2 x.s.tape.length d2) (n2 := .int .i64 x.s.taken) (n3 := .slice p3 x.s.printed.length d3) (n4 := .int .i64 x.s.time) (n5 := .int .i64 x.s.at_) (n6 := .int .i64 x.s.done) (n7 := .int .i64 x.s.why) rfl
 obtain ⟨g, cap, hp⟩ := ownsRow_form P1.out (by rw [Hlen.out]; decide)
 obtain ⟨rfl, -, rfl⟩ := Value.slice.inj hp
 obtain ⟨pn1, pn2⟩ := PN.out g rfl
 have O := own_weak (own_kpI P1.out KR (fun b hb e => by cases hb; exact pn2 e)) (B := W.heap.size) (fun b hb => by cases hb; exact pn1)
 exact ⟨g, _, p2, d2, p3, d3, rfl, pn1, O, ints_kp P2.out KR (fun b hb e => (PM.out g b rfl (.inl hb)).2.1 e), fun b hb => ⟨(PM.out g b rfl (.inl hb)).1, (PM.out g b rfl (.inl hb)).2.2⟩, ints_kp P3.out KR (fun b hb e => (PM.out g b rfl (.inr hb)).2.1 e), fun b hb => ⟨(PM.out g b rfl (.inr hb)).1, (PM.out g b rfl (.inr hb)).2.2⟩, EV.below5 KR (fun b hb => by rw [hb]; exact hWR)⟩
end Go.Proofs.YtnhpcoagkmgdoaaGreat
/- Layer 10's program: Block. -/
namespace Go.Q
open Go.RowKit
def blockE (s : St) (a : Int) : St × Int := if guardX s [] 0 ≠ 0 then (zst, guardX s [] 0) else if inB a 0 127 = true then (blockQ a s, 0) else (zst, 7)
end Go.Q
namespace Go.Proofs.YtnhpcoagkmgdoaaGreat
open Go.RowKit Go.Q Go.Shelf Go.Maps Go.Joins
set_option maxHeartbeats 4000000
set_option maxRecDepth 100000
theorem own_setI {X : World} {g n c B : Nat} {xs : List Int} (h : X.ownsRow B 3 1 (.slice (some ⟨g, 0, none⟩) n c) n (iv xs)) (j : Nat) (v : Int) : (X.setCell ⟨g, j, none⟩ (.int .i64 v)).ownsRow B 3 1 (.slice (some ⟨g, 0, none⟩) n c) n (iv (xs.set j v)) := by
 obtain ⟨k1, _⟩ := h.stored j (.int .i64 v)
 unfold iv at k1 ⊢
 rw [List.map_set]
 exact k1
theorem own_cellI {X : World} {g n c B : Nat} {xs : List Int} (h : X.ownsRow B 3 1 (.slice (some ⟨g, 0, none⟩) n c) n (iv xs)) (j : Nat) (hj : j < xs.length) : X.cell? ⟨g, j, none⟩ = some (.int .i64 (xs[j]?.getD 0)) := by
 rcases own_ints h with e | ⟨b, off, ha, _, hc⟩
 ·rw [e] at hj; exact absurd hj (Nat.not_lt_zero _)
 ·cases ha
  have := hc j hj
  rwa [Nat.zero_add] at this
end Go.Proofs.YtnhpcoagkmgdoaaGreat

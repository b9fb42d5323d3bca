import Derived.Test.YtnhpcoagkmgdoaaGreatX32
set_option linter.unusedVariables false
set_option linter.unusedSimpArgs false
/- Layer 10's program: Block, and where its lists lie. -/
namespace Go.Proofs.YtnhpcoagkmgdoaaGreat
open Go.RowKit Go.Q Go.Shelf Go.Maps Go.Joins
set_option maxHeartbeats 4000000
set_option maxRecDepth 100000
theorem block_anyK (v : Value) (s : St) (a : Int) (w : World) (h : StAt w v s) (hb : StBd s) :
  Calls Tryz.prog 18 #[v, .int .i64 a] w (BkRes v s (blockE s a) w) := by
 obtain ⟨a1, a2, a3, k1, k2, k3, rfl, i1, i2, i3⟩ := h
 have hs : StAt w (sv a1 a2 a3 s.store.length k1 s.tape.length k2 s.printed.length k3 s.taken s.time s.at_ s.done s.why) s := ⟨a1, a2, a3, k1, k2, k3, rfl, i1, i2, i3⟩
 have ho := fun W (E : Ext w W) => open_any _ s [] none 0 0 0 W (hs.ext E) hb rfl (.inl rfl) (by simp)
 clear hs hb i1 i2 i3
 have E0 : Ext w ((w.alloc (.cells #[.slice a1 s.store.length k1, .slice a2 s.tape.length k2, .int .i64 s.taken, .slice a3 s.printed.length k3, .int .i64 s.time, .int .i64 s.at_, .int .i64 s.done, .int .i64 s.why] 24)).alloc (.cells #[.slice none 0 0, .slice none 0 0, .int .i64 0, .slice none 0 0, .int .i64 0, .int .i64 0, .int .i64 0, .int .i64 0] 24)) := ((Ext.refl w).alloc _).alloc _
 have hR : ((w.alloc (.cells #[.slice a1 s.store.length k1, .slice a2 s.tape.length k2, .int .i64 s.taken, .slice a3 s.printed.length k3, .int .i64 s.time, .int .i64 s.at_, .int .i64 s.done, .int .i64 s.why] 24)).alloc (.cells #[.slice none 0 0, .slice none 0 0, .int .i64 0, .slice none 0 0, .int .i64 0, .int .i64 0, .int .i64 0, .int .i64 0] 24)).heap[w.heap.size + 1]? = some (.cells #[.slice none 0 0, .slice none 0 0, .int .i64 0, .slice none 0 0, .int .i64 0, .int .i64 0, .int .i64 0, .int .i64 0] 24 (0, 0)) := by
  have e := heap_alloc_new (w.alloc (.cells #[.slice a1 s.store.length k1, .slice a2 s.tape.length k2, .int .i64 s.taken, .slice a3 s.printed.length k3, .int .i64 s.time, .int .i64 s.at_, .int .i64 s.done, .int .i64 s.why] 24)) (.cells #[.slice none 0 0, .slice none 0 0, .int .i64 0, .slice none 0 0, .int .i64 0, .int .i64 0, .int .i64 0, .int .i64 0] 24)
  rw [World.size_alloc] at e
  exact e
 have hP := (Below.heap_alloc (w.alloc (.cells #[.slice a1 s.store.length k1, .slice a2 s.tape.length k2, .int .i64 s.taken, .slice a3 s.printed.length k3, .int .i64 s.time, .int .i64 s.at_, .int .i64 s.done, .int .i64 s.why] 24)) (.cells #[.slice none 0 0, .slice none 0 0, .int .i64 0, .slice none 0 0, .int .i64 0, .int .i64 0, .int .i64 0, .int .i64 0] 24) _ (lt_of_block (heap_alloc_new w (.cells #[.slice a1 s.store.length k1, .slice a2 s.tape.length k2, .int .i64 s.taken, .slice a3 s.printed.length k3, .int .i64 s.time, .int .i64 s.at_, .int .i64 s.done, .int .i64 s.why] 24)))).trans (heap_alloc_new w (.cells #[.slice a1 s.store.length k1, .slice a2 s.tape.length k2, .int .i64 s.taken, .slice a3 s.printed.length k3, .int .i64 s.time, .int .i64 s.at_, .int .i64 s.done, .int .i64 s.why] 24))
 obtain ⟨er, her⟩ : ∃ er, guardX s [] 0 = er := ⟨_, rfl⟩
 have HER := Lib.hid her
 clear her
 go_enter Tryz.func18, Tryz.ntmps18
 have q0 := blk_cell hP 0 (v := .slice a1 s.store.length k1) rfl
 have q1 := blk_cell hP 1 (v := .slice a2 s.tape.length k2) rfl
 have q2 := blk_cell hP 2 (v := .int .i64 s.taken) rfl
 have q3 := blk_cell hP 3 (v := .slice a3 s.printed.length k3) rfl
 have q4 := blk_cell hP 4 (v := .int .i64 s.time) rfl
 have q5 := blk_cell hP 5 (v := .int .i64 s.at_) rfl
 have q6 := blk_cell hP 6 (v := .int .i64 s.done) rfl
 have q7 := blk_cell hP 7 (v := .int .i64 s.why) rfl
 go_wp2_with fail
 refine (ho _ E0).mono ?_
 rintro e w1 (⟨hx, m, mb, rfl, hm, hmb, hL, E1⟩ | ⟨hx, rfl, E1⟩)
 ·clear ho q0 q1 q2 q3 q4 q5 q6 q7
  have HX := Lib.hid hx
  have hR1 := (E1.block _ (lt_of_block hR)).trans hR
  have hP1 := (E1.block _ (lt_of_block hP)).trans hP
  have hsz1 : w.heap.size + 2 ≤ w1.heap.size := by have := E1.size; simp at this; omega
  clear hm hmb hx
  cases hA : inB a 0 127 with
  | false =>
   have HVe : Hid (blockE s a = (zst, 7)) := Lib.hid (by unfold blockE; rw [if_neg (by rw [HX.out]; decide), hA]; rfl)
   have q0 := blk_cell hR1 0 (v := .slice none 0 0) rfl
   have q1 := blk_cell hR1 1 (v := .slice none 0 0) rfl
   have q2 := blk_cell hR1 2 (v := .int .i64 0) rfl
   have q3 := blk_cell hR1 3 (v := .slice none 0 0) rfl
   have q4 := blk_cell hR1 4 (v := .int .i64 0) rfl
   have q5 := blk_cell hR1 5 (v := .int .i64 0) rfl
   have q6 := blk_cell hR1 6 (v := .int .i64 0) rfl
   have q7 := blk_cell hR1 7 (v := .int .i64 0) rfl
   have f0 := blk_free hR1 0
   have f1 := blk_free hR1 1
   have f2 := blk_free hR1 2
   have f3 := blk_free hR1 3
   have f4 := blk_free hR1 4
   have f5 := blk_free hR1 5
   have f6 := blk_free hR1 6
   have f7 := blk_free hR1 7
   clear hL
   go_wp2_with (go_at_call 36; refine (out10_any _ _ _ _).mono ?_; rintro e w2 ⟨rfl, rfl⟩; obtain ⟨w1, rfl⟩ : ∃ q, q = w2 := ⟨_, rfl⟩; (try simp only [hA, Bool.not_true, Bool.not_false]))
   refine bodyPost_ret (v := .tuple #[.agg #[.slice none 0 0, .slice none 0 0, .int .i64 0, .slice none 0 0, .int .i64 0, .int .i64 0, .int .i64 0, .int .i64 0], .int .i64 7]) (by simp [results, Tryz.results18, go_sem, q0, q1, q2, q3, q4, q5, q6, q7]) rfl ?_
   have KR := s8_kp (M := fun q => q = w.heap.size + 1) (w := w1) (b := w.heap.size + 1) (n0 := .slice none 0 0) (n1 := .slice none 0 0) (n2 := .int .i64 0) (n3 := .slice none 0 0) (n4 := .int .i64 0) (n5 := .int .i64 0) (n6 := .int .i64 0) (n7 := .int .i64 0) rfl
   rw [HVe.out]
   exact ⟨_, rfl, zst_at _, (E0.comp E1).below5 KR (fun b hb => by omega), fun q _ _ => av_zst q⟩
  | true =>
   have hv := (guard_valid HX.out).1
   have HVe : Hid (blockE s a = (blockQ a s, 0)) := Lib.hid (by unfold blockE; rw [if_neg (by rw [HX.out]; decide), hA, if_pos rfl])
   have hab := inB_bd hA
   have hso := state_own m mb [] (beginL s) w1 hL hv
   obtain ⟨p, rfl⟩ := Int.eq_ofNat_of_zero_le hab.1
   have hp : p < 128 := by omega
   have hlen := hv.len
   have HVL := Lib.hid hlen
   clear hab hL hv hlen
   go_wp2_with (go_at_call 36; refine (out10_any _ _ _ _).mono ?_; rintro e w2 ⟨rfl, rfl⟩; obtain ⟨w1, rfl⟩ : ∃ q, q = w2 := ⟨_, rfl⟩; (try simp only [hA, Bool.not_true, Bool.not_false]))
   refine hso.mono ?_
   rintro e w2 ⟨g, d1, p2, d2, p3, d3, rfl, hg1, O1, I2, N2, I3, N3, E2⟩
   clear hso
   change Ext w1 w2 at E2
   have hP2 := (E2.block _ (lt_of_block hP1)).trans hP1
   have hR2 := (E2.block _ (lt_of_block hR1)).trans hR1
   obtain ⟨t, ht⟩ : ∃ t, (beginL s).s = t := ⟨_, rfl⟩
   have hts : t = s := ht.symm
   rw [ht] at O1 I2 I3 ⊢
   subst hts
   have KP := s8_kp (M := fun q => q = w.heap.size) (w := w2) (b := w.heap.size) (n0 := .slice (some ⟨g, 0, none⟩) t.store.length d1) (n1 := .slice p2 t.tape.length d2) (n2 := .int .i64 t.taken) (n3 := .slice p3 t.printed.length d3) (n4 := .int .i64 t.time) (n5 := .int .i64 t.at_) (n6 := .int .i64 t.done) (n7 := .int .i64 t.why) rfl
   unfold S8 at KP
   have g9 := cells_set (cells_set (cells_set (cells_set (cells_set (cells_set (cells_set (cells_set hP2 0 (.slice (some ⟨g, 0, none⟩) t.store.length d1)) 1 (.slice p2 t.tape.length d2)) 2 (.int .i64 t.taken)) 3 (.slice p3 t.printed.length d3)) 4 (.int .i64 t.time)) 5 (.int .i64 t.at_)) 6 (.int .i64 t.done)) 7 (.int .i64 t.why)
   (try simp at g9)
   have O2 := own_kpI O1 KP (fun b hb e => by obtain rfl : g = b := Option.some.inj hb; omega)
   have I2' := ints_kp I2 KP (fun b hb e => by have := (N2 b hb).2; omega)
   have I3' := ints_kp I3 KP (fun b hb e => by have := (N3 b hb).2; omega)
   have hR3 := (KP.block (w.heap.size + 1) (lt_of_block hR2) (by omega)).trans hR2
   have E3 : Ext w _ := ((E0.comp E1).comp E2).below5 KP (fun b hb => by omega)
   have q0 := blk_cell hP2 0 (v := .slice a1 t.store.length k1) rfl
   have q1 := blk_cell hP2 1 (v := .slice a2 t.tape.length k2) rfl
   have q2 := blk_cell hP2 2 (v := .int .i64 t.taken) rfl
   have q3 := blk_cell hP2 3 (v := .slice a3 t.printed.length k3) rfl
   have q4 := blk_cell hP2 4 (v := .int .i64 t.time) rfl
   have q5 := blk_cell hP2 5 (v := .int .i64 t.at_) rfl
   have q6 := blk_cell hP2 6 (v := .int .i64 t.done) rfl
   have q7 := blk_cell hP2 7 (v := .int .i64 t.why) rfl
   have f0 := blk_free hP2 0
   have f1 := blk_free hP2 1
   have f2 := blk_free hP2 2
   have f3 := blk_free hP2 3
   have f4 := blk_free hP2 4
   have f5 := blk_free hP2 5
   have f6 := blk_free hP2 6
   have f7 := blk_free hP2 7
   go_upto_region 7 with fail
   generalize ((((((((w2.setCell ⟨w.heap.size, 0, none⟩ (.slice (some ⟨g, 0, none⟩) t.store.length d1)).setCell ⟨w.heap.size, 1, none⟩ (.slice p2 t.tape.length d2)).setCell ⟨w.heap.size, 2, none⟩ (.int .i64 t.taken)).setCell ⟨w.heap.size, 3, none⟩ (.slice p3 t.printed.length d3)).setCell ⟨w.heap.size, 4, none⟩ (.int .i64 t.time)).setCell ⟨w.heap.size, 5, none⟩ (.int .i64 t.at_)).setCell ⟨w.heap.size, 6, none⟩ (.int .i64 t.done)).setCell ⟨w.heap.size, 7, none⟩ (.int .i64 t.why)) = V at g9 O2 I2' I3' hR3 E3 KP ⊢
   clear q0 q1 q2 q3 q4 q5 q6 q7 f0 f1 f2 f3 f4 f5 f6 f7 O1 I2 I3 hP2 hR2 hP1 hR1 hP hR KP
   have c0 := own_cellI O2 p (by rw [HVL.out]; exact hp)
   have ff := O2.frozenAt p
   have q0 := blk_cell g9 0 (v := .slice (some ⟨g, 0, none⟩) t.store.length d1) rfl
   have hp0 : (0 : Int) ≤ (p : Int) := by omega
   have hp1 : (p : Int) < (t.store.length : Int) := by rw [HVL.out]; omega
   have O3 := own_setI O2 p 0
   have KG : KpM (fun q => q = g) V (V.setCell ⟨g, p, none⟩ (.int .i64 0)) := kpm_set (M := fun q => q = g) V g p (.int .i64 0) rfl
   have J2 := ints_kp I2' KG (fun b hb => (N2 b hb).1)
   have J3 := ints_kp I3' KG (fun b hb => (N3 b hb).1)
   have g10 := (KG.block w.heap.size (lt_of_block g9) (by omega)).trans g9
   have hR4 := (KG.block (w.heap.size + 1) (lt_of_block hR3) (by omega)).trans hR3
   have E4 : Ext w _ := E3.below5 KG (fun b hb => by omega)
   go_upto_region 8 with fail
   generalize V.setCell ⟨g, p, none⟩ (.int .i64 0) = V2 at g10 O3 J2 J3 hR4 E4 ⊢
   clear c0 ff q0 O2 I2' I3' g9 hR3 KG E3
   have q0 := blk_cell g10 0 (v := .slice (some ⟨g, 0, none⟩) t.store.length d1) rfl
   have q1 := blk_cell g10 1 (v := .slice p2 t.tape.length d2) rfl
   have q2 := blk_cell g10 2 (v := .int .i64 t.taken) rfl
   have q3 := blk_cell g10 3 (v := .slice p3 t.printed.length d3) rfl
   have q4 := blk_cell g10 4 (v := .int .i64 t.time) rfl
   have q5 := blk_cell g10 5 (v := .int .i64 t.at_) rfl
   have q6 := blk_cell g10 6 (v := .int .i64 t.done) rfl
   have q7 := blk_cell g10 7 (v := .int .i64 t.why) rfl
   have r0 := blk_cell hR4 0 (v := .slice none 0 0) rfl
   have r1 := blk_cell hR4 1 (v := .slice none 0 0) rfl
   have r2 := blk_cell hR4 2 (v := .int .i64 0) rfl
   have r3 := blk_cell hR4 3 (v := .slice none 0 0) rfl
   have r4 := blk_cell hR4 4 (v := .int .i64 0) rfl
   have r5 := blk_cell hR4 5 (v := .int .i64 0) rfl
   have r6 := blk_cell hR4 6 (v := .int .i64 0) rfl
   have r7 := blk_cell hR4 7 (v := .int .i64 0) rfl
   have f0 := blk_free hR4 0
   have f1 := blk_free hR4 1
   have f2 := blk_free hR4 2
   have f3 := blk_free hR4 3
   have f4 := blk_free hR4 4
   have f5 := blk_free hR4 5
   have f6 := blk_free hR4 6
   have f7 := blk_free hR4 7
   go_wp2_with fail
   refine bodyPost_ret (v := .tuple #[sv (some ⟨g, 0, none⟩) p2 p3 t.store.length d1 t.tape.length d2 t.printed.length d3 t.taken t.time t.at_ t.done t.why, .int .i64 0]) (by simp [results, Tryz.results18, go_sem, r0, r1, r2, r3, r4, r5, r6, r7]) rfl ?_
   have KR := s8_kp (M := fun q => q = w.heap.size + 1) (w := V2) (b := w.heap.size + 1) (n0 := .slice (some ⟨g, 0, none⟩) t.store.length d1) (n1 := .slice p2 t.tape.length d2) (n2 := .int .i64 t.taken) (n3 := .slice p3 t.printed.length d3) (n4 := .int .i64 t.time) (n5 := .int .i64 t.at_) (n6 := .int .i64 t.done) (n7 := .int .i64 t.why) rfl
   rw [HVe.out]
   have O4 := own_ints (own_kpI O3 KR (fun b hb e => by obtain rfl : g = b := Option.some.inj hb; omega))
   refine ⟨_, rfl, ⟨some ⟨g, 0, none⟩, p2, p3, d1, d2, d3, ?_, ?_, ints_kp J2 KR (fun b hb e => by have := (N2 b hb).2; omega), ints_kp J3 KR (fun b hb e => by have := (N3 b hb).2; omega)⟩, E4.below5 KR (fun b hb => by omega), fun q hq _ => avSt_sv.2 ⟨.inr (fun b off e => by cases e; omega), .inr (fun b off e => by have := (N2 b (by rw [e]; rfl)).2; omega), .inr (fun b off e => by have := (N3 b (by rw [e]; rfl)).2; omega)⟩⟩
   ·show _ = sv _ _ _ (t.store.set (p : Int).toNat 0).length _ _ _ _ _ _ _ _ _ _
    rw [List.length_set]
    rfl
   ·exact O4
 ·have hne : er ≠ 0 := by rw [← HER.out]; exact hx
  have HVe : Hid (blockE s a = (zst, er)) := Lib.hid (by unfold blockE; rw [if_pos hx, HER.out])
  rw [HER.out]
  have e1 : (er != 0) = true := by simpa using hne
  have hR1 := (E1.block _ (lt_of_block hR)).trans hR
  clear ho q0 q1 q2 q3 q4 q5 q6 q7 hx hne
  have q0 := blk_cell hR1 0 (v := .slice none 0 0) rfl
  have q1 := blk_cell hR1 1 (v := .slice none 0 0) rfl
  have q2 := blk_cell hR1 2 (v := .int .i64 0) rfl
  have q3 := blk_cell hR1 3 (v := .slice none 0 0) rfl
  have q4 := blk_cell hR1 4 (v := .int .i64 0) rfl
  have q5 := blk_cell hR1 5 (v := .int .i64 0) rfl
  have q6 := blk_cell hR1 6 (v := .int .i64 0) rfl
  have q7 := blk_cell hR1 7 (v := .int .i64 0) rfl
  have f0 := blk_free hR1 0
  have f1 := blk_free hR1 1
  have f2 := blk_free hR1 2
  have f3 := blk_free hR1 3
  have f4 := blk_free hR1 4
  have f5 := blk_free hR1 5
  have f6 := blk_free hR1 6
  have f7 := blk_free hR1 7
  go_wp2_with fail
  refine bodyPost_ret (v := .tuple #[.agg #[.slice none 0 0, .slice none 0 0, .int .i64 0, .slice none 0 0, .int .i64 0, .int .i64 0, .int .i64 0, .int .i64 0], .int .i64 er]) (by simp [results, Tryz.results18, go_sem, q0, q1, q2, q3, q4, q5, q6, q7]) rfl ?_
  have KR := s8_kp (M := fun q => q = w.heap.size + 1) (w := w1) (b := w.heap.size + 1) (n0 := .slice none 0 0) (n1 := .slice none 0 0) (n2 := .int .i64 0) (n3 := .slice none 0 0) (n4 := .int .i64 0) (n5 := .int .i64 0) (n6 := .int .i64 0) (n7 := .int .i64 0) rfl
  rw [HVe.out]
  exact ⟨_, rfl, zst_at _, (E0.comp E1).below5 KR (fun b hb => by omega), fun q _ _ => av_zst q⟩
end Go.Proofs.YtnhpcoagkmgdoaaGreat

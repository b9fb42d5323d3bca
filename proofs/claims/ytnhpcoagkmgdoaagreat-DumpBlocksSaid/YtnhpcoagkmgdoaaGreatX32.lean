import Derived.Outline
import Derived.Test.YtnhpcoagkmgdoaaGreatX29
import Derived.Test.YtnhpcoagkmgdoaaGreatX30
import Derived.Test.YtnhpcoagkmgdoaaGreatX27
import Derived.Test.YtnhpcoagkmgdoaaGreatX31
set_option linter.unusedVariables false
set_option linter.unusedSimpArgs false
/- Layer 10's reference: Block. -/
namespace Go.Proofs.YtnhpcoagkmgdoaaGreat
open Go.RowKit Go.Q Go.Shelf Go.Maps Go.Joins
set_option maxHeartbeats 4000000
set_option maxRecDepth 100000
/-- a state and a code are returned; the state's lists lie in no block that the argument's lists avoid, but in new ones -/
def BkRes (v0 : Value) (s0 : St) (p : St × Int) (w : World) (e : Ending) (w' : World) : Prop := ∃ v, e = .returned (.tuple #[v, .int .i64 p.2]) ∧ StAt w' v p.1 ∧ Ext w w' ∧ ∀ q, q < w.heap.size → AvSt v0 s0 q → AvSt v p.1 q
theorem av_zst (q : Nat) : AvSt (sv none none none 0 0 0 0 0 0 0 0 0 0 0) zst q := avSt_sv.2 ⟨.inl rfl, .inl rfl, .inl rfl⟩
theorem rBlock_any (v : Value) (s : St) (a : Int) (w : World) (h : StAt w v s) (hb : StBd s) :
  Calls Tryz.prog 19 #[v, .int .i64 a] w (BkRes v s (blockE s a) w) := by
 have hak := fun W (E : Ext w W) => rasked_any v s none 0 0 [] 0 W (h.ext E) hb rfl (by decide) (.inl rfl)
 have had := fun W => address_any a W
 rw [addr_in] at had
 obtain ⟨a1, a2, a3, k1, k2, k3, rfl, i1, i2, i3⟩ := h
 unfold sv at hak ⊢
 have E0 : Ext w ((w.alloc (.cells #[.slice a1 s.store.length k1, .slice a2 s.tape.length k2, .int .i64 s.taken, .slice a3 s.printed.length k3, .int .i64 s.time, .int .i64 s.at_, .int .i64 s.done, .int .i64 s.why] 24)).alloc (.cells #[.slice none 0 0, .slice none 0 0, .int .i64 0, .slice none 0 0, .int .i64 0, .int .i64 0, .int .i64 0, .int .i64 0] 24)) := ((Ext.refl w).alloc _).alloc _
 have hR : ((w.alloc (.cells #[.slice a1 s.store.length k1, .slice a2 s.tape.length k2, .int .i64 s.taken, .slice a3 s.printed.length k3, .int .i64 s.time, .int .i64 s.at_, .int .i64 s.done, .int .i64 s.why] 24)).alloc (.cells #[.slice none 0 0, .slice none 0 0, .int .i64 0, .slice none 0 0, .int .i64 0, .int .i64 0, .int .i64 0, .int .i64 0] 24)).heap[w.heap.size + 1]? = some (.cells #[.slice none 0 0, .slice none 0 0, .int .i64 0, .slice none 0 0, .int .i64 0, .int .i64 0, .int .i64 0, .int .i64 0] 24 (0, 0)) := by
  have e := heap_alloc_new (w.alloc (.cells #[.slice a1 s.store.length k1, .slice a2 s.tape.length k2, .int .i64 s.taken, .slice a3 s.printed.length k3, .int .i64 s.time, .int .i64 s.at_, .int .i64 s.done, .int .i64 s.why] 24)) (.cells #[.slice none 0 0, .slice none 0 0, .int .i64 0, .slice none 0 0, .int .i64 0, .int .i64 0, .int .i64 0, .int .i64 0] 24)
  rw [World.size_alloc] at e
  exact e
 have hP := (Below.heap_alloc (w.alloc (.cells #[.slice a1 s.store.length k1, .slice a2 s.tape.length k2, .int .i64 s.taken, .slice a3 s.printed.length k3, .int .i64 s.time, .int .i64 s.at_, .int .i64 s.done, .int .i64 s.why] 24)) (.cells #[.slice none 0 0, .slice none 0 0, .int .i64 0, .slice none 0 0, .int .i64 0, .int .i64 0, .int .i64 0, .int .i64 0] 24) _ (lt_of_block (heap_alloc_new w (.cells #[.slice a1 s.store.length k1, .slice a2 s.tape.length k2, .int .i64 s.taken, .slice a3 s.printed.length k3, .int .i64 s.time, .int .i64 s.at_, .int .i64 s.done, .int .i64 s.why] 24)))).trans (heap_alloc_new w (.cells #[.slice a1 s.store.length k1, .slice a2 s.tape.length k2, .int .i64 s.taken, .slice a3 s.printed.length k3, .int .i64 s.time, .int .i64 s.at_, .int .i64 s.done, .int .i64 s.why] 24))
 have HB : Hid (blockE s a = if guardX s [] 0 ≠ 0 then (zst, guardX s [] 0) else if inB a 0 127 = true then (blockQ a s, 0) else (zst, 7)) := Lib.hid rfl
 have HGV : Hid (guardX s [] 0 = 0 → Valid s) := Lib.hid (fun h => (guard_valid h).1)
 obtain ⟨er, her⟩ : ∃ er, guardX s [] 0 = er := ⟨_, rfl⟩
 rw [her] at hak HB HGV
 clear her hb
 go_enter Tryz.func19, Tryz.ntmps19
 have q0 := blk_cell hP 0 (v := .slice a1 s.store.length k1) rfl
 have q1 := blk_cell hP 1 (v := .slice a2 s.tape.length k2) rfl
 have q2 := blk_cell hP 2 (v := .int .i64 s.taken) rfl
 have q3 := blk_cell hP 3 (v := .slice a3 s.printed.length k3) rfl
 have q4 := blk_cell hP 4 (v := .int .i64 s.time) rfl
 have q5 := blk_cell hP 5 (v := .int .i64 s.at_) rfl
 have q6 := blk_cell hP 6 (v := .int .i64 s.done) rfl
 have q7 := blk_cell hP 7 (v := .int .i64 s.why) rfl
 go_wp2_with fail
 refine (hak _ E0).mono ?_
 rintro e w1 ⟨rfl, E1⟩
 clear q0 q1 q2 q3 q4 q5 q6 q7 hak
 have hR1 := (E1.block _ (lt_of_block hR)).trans hR
 have hP1 := (E1.block _ (lt_of_block hP)).trans hP
 have E01 := E0.comp E1
 have hsz1 : w.heap.size + 2 ≤ w1.heap.size := by have := E1.size; simp at this; omega
 clear hR hP
 have KR := s8_kp (M := fun q => q = w.heap.size + 1) (w := w1) (b := w.heap.size + 1) (n0 := .slice none 0 0) (n1 := .slice none 0 0) (n2 := .int .i64 0) (n3 := .slice none 0 0) (n4 := .int .i64 0) (n5 := .int .i64 0) (n6 := .int .i64 0) (n7 := .int .i64 0) rfl
 by_cases h0 : er = 0
 ·subst h0
  cases hA : inB a 0 127 with
  | false =>
   rw [hA] at had HB
   have HX : Hid (blockE s a = (zst, 7)) := Lib.hid (by rw [HB.out]; simp)
   clear HB HGV hA
   have q0 := blk_cell hR1 0 (v := .slice none 0 0) rfl
   have q1 := blk_cell hR1 1 (v := .slice none 0 0) rfl
   have q2 := blk_cell hR1 2 (v := .int .i64 0) rfl
   have q3 := blk_cell hR1 3 (v := .slice none 0 0) rfl
   have q4 := blk_cell hR1 4 (v := .int .i64 0) rfl
   have q5 := blk_cell hR1 5 (v := .int .i64 0) rfl
   have q6 := blk_cell hR1 6 (v := .int .i64 0) rfl
   have q7 := blk_cell hR1 7 (v := .int .i64 0) rfl
   have f0 := blk_free hR1 0
   have f1 := blk_free hR1 1
   have f2 := blk_free hR1 2
   have f3 := blk_free hR1 3
   have f4 := blk_free hR1 4
   have f5 := blk_free hR1 5
   have f6 := blk_free hR1 6
   have f7 := blk_free hR1 7
   go_wp2_with (go_at_call 46; refine (had _).mono ?_; rintro e w2 ⟨rfl, rfl⟩)
   refine bodyPost_ret (v := .tuple #[.agg #[.slice none 0 0, .slice none 0 0, .int .i64 0, .slice none 0 0, .int .i64 0, .int .i64 0, .int .i64 0, .int .i64 0], .int .i64 7]) (by simp [results, Tryz.results19, go_sem, q0, q1, q2, q3, q4, q5, q6, q7]) rfl ?_
   rw [HX.out]
   exact ⟨_, rfl, zst_at _, E01.below5 KR (fun b hb => by omega), fun q _ _ => av_zst q⟩
  | true =>
   rw [hA] at had HB
   have HX : Hid (blockE s a = (blockQ a s, 0)) := Lib.hid (by rw [HB.out]; simp)
   have hlen := (HGV.out rfl).len
   have HVL := Lib.hid hlen
   have hlen0 : 0 < s.store.length := by omega
   have hab := inB_bd hA
   obtain ⟨p, rfl⟩ := Int.eq_ofNat_of_zero_le hab.1
   have hp : p < 128 := by omega
   clear HB HGV hA KR hlen hab
   have hPa := (((Ext.refl w1).alloc (.cells #[] 3)).block w.heap.size (lt_of_block hP1)).trans hP1
   have q0 := blk_cell hPa 0 (v := .slice a1 s.store.length k1) rfl
   obtain ⟨i0, hi0, hz0, hz1, hz2⟩ := info_parts Tryz.infoE
   have hfr : From (w1.alloc (.cells #[] 3)) a1 (iv s.store) := from_ints (i1.ext (E01.alloc _))
   go_upto_region 6 with (go_at_call 46; refine (had _).mono ?_; rintro e w2 ⟨rfl, rfl⟩)
   go_upto_region 7 with (at_builtin; refine wpList_app (w0 := w1) rfl _ _ 22 rfl 3 i0 (.int .i64 0) 1 8 Tryz.underlying22 hi0 hz0 hz1 hz2 rfl (by decide) _ 0 w1.heap.size [] rfl (own_empty (Ext.refl _)) ((Ext.refl w1).alloc _) (Nat.le_refl _) (by simp) a1 s.store.length k1 (iv s.store) rfl (by rw [iv_length, Nat.mul_one]) hfr (iv_one _) (by rw [HVL.out]; unfold maxLen; decide) (by rw [HVL.out]; decide) ?_; intro a5 c5 W5 ho5 hE5 _; have hP5 := (hE5.block _ (lt_of_block hP1)).trans hP1; have f0 := blk_free hP5 0; have q5 := blk_cell hP5 0 (v := .slice a1 s.store.length k1) rfl)
   rw [Nat.zero_add, List.nil_append] at ho5
   (try rw [Nat.zero_add])
   obtain ⟨g, c5', hg5⟩ := ownsRow_form ho5 hlen0
   obtain ⟨rfl, -, rfl⟩ := Value.slice.inj hg5
   have hgl := ho5.lt g rfl
   have KP : KpM (fun q => q = w.heap.size) W5 (W5.setCell ⟨w.heap.size, 0, none⟩ (.slice (some ⟨g, 0, none⟩) s.store.length c5)) := kpm_set W5 w.heap.size 0 _ rfl
   have g9 := cells_set hP5 0 (.slice (some ⟨g, 0, none⟩) s.store.length c5)
   (try simp at g9)
   have O2 := own_kpI ho5 KP (fun b hb e => by obtain rfl : g = b := Option.some.inj hb; omega)
   have hR5 := (hE5.block _ (lt_of_block hR1)).trans hR1
   have hR3 := (KP.block (w.heap.size + 1) (lt_of_block hR5) (by omega)).trans hR5
   have E3 : Ext w _ := (E01.comp hE5).below5 KP (fun b hb => by omega)
   generalize W5.setCell ⟨w.heap.size, 0, none⟩ (.slice (some ⟨g, 0, none⟩) s.store.length c5) = V at g9 O2 hR3 E3 KP ⊢
   clear q0 q5 f0 ho5 hg5 KP hR5 hP5 hPa hfr hR1 hP1 had
   have c0 := own_cellI O2 p (by rw [HVL.out]; exact hp)
   have ff := O2.frozenAt p
   have q0 := blk_cell g9 0 (v := .slice (some ⟨g, 0, none⟩) s.store.length c5) rfl
   have hp0 : (0 : Int) ≤ (p : Int) := by omega
   have hp1 : (p : Int) < (s.store.length : Int) := by rw [HVL.out]; omega
   have O3 := own_setI O2 p 0
   have KG : KpM (fun q => q = g) V (V.setCell ⟨g, p, none⟩ (.int .i64 0)) := kpm_set (M := fun q => q = g) V g p (.int .i64 0) rfl
   have g10 := (KG.block w.heap.size (lt_of_block g9) (by omega)).trans g9
   have hR4 := (KG.block (w.heap.size + 1) (lt_of_block hR3) (by omega)).trans hR3
   have E4 : Ext w _ := E3.below5 KG (fun b hb => by omega)
   go_upto_region 8 with fail
   generalize V.setCell ⟨g, p, none⟩ (.int .i64 0) = V2 at g10 O3 hR4 E4 KG ⊢
   clear c0 ff q0 O2 g9 hR3 KG E3
   have q0 := blk_cell g10 0 (v := .slice (some ⟨g, 0, none⟩) s.store.length c5) rfl
   have q1 := blk_cell g10 1 (v := .slice a2 s.tape.length k2) rfl
   have q2 := blk_cell g10 2 (v := .int .i64 s.taken) rfl
   have q3 := blk_cell g10 3 (v := .slice a3 s.printed.length k3) rfl
   have q4 := blk_cell g10 4 (v := .int .i64 s.time) rfl
   have q5 := blk_cell g10 5 (v := .int .i64 s.at_) rfl
   have q6 := blk_cell g10 6 (v := .int .i64 s.done) rfl
   have q7 := blk_cell g10 7 (v := .int .i64 s.why) rfl
   have r0 := blk_cell hR4 0 (v := .slice none 0 0) rfl
   have r1 := blk_cell hR4 1 (v := .slice none 0 0) rfl
   have r2 := blk_cell hR4 2 (v := .int .i64 0) rfl
   have r3 := blk_cell hR4 3 (v := .slice none 0 0) rfl
   have r4 := blk_cell hR4 4 (v := .int .i64 0) rfl
   have r5 := blk_cell hR4 5 (v := .int .i64 0) rfl
   have r6 := blk_cell hR4 6 (v := .int .i64 0) rfl
   have r7 := blk_cell hR4 7 (v := .int .i64 0) rfl
   have f0 := blk_free hR4 0
   have f1 := blk_free hR4 1
   have f2 := blk_free hR4 2
   have f3 := blk_free hR4 3
   have f4 := blk_free hR4 4
   have f5 := blk_free hR4 5
   have f6 := blk_free hR4 6
   have f7 := blk_free hR4 7
   go_wp2_with fail
   refine bodyPost_ret (v := .tuple #[sv (some ⟨g, 0, none⟩) a2 a3 s.store.length c5 s.tape.length k2 s.printed.length k3 s.taken s.time s.at_ s.done s.why, .int .i64 0]) (by simp [results, Tryz.results19, go_sem, r0, r1, r2, r3, r4, r5, r6, r7]) rfl ?_
   have KR := s8_kp (M := fun q => q = w.heap.size + 1) (w := V2) (b := w.heap.size + 1) (n0 := .slice (some ⟨g, 0, none⟩) s.store.length c5) (n1 := .slice a2 s.tape.length k2) (n2 := .int .i64 s.taken) (n3 := .slice a3 s.printed.length k3) (n4 := .int .i64 s.time) (n5 := .int .i64 s.at_) (n6 := .int .i64 s.done) (n7 := .int .i64 s.why) rfl
   rw [HX.out]
   have O4 := own_ints (own_kpI O3 KR (fun b hb e => by obtain rfl : g = b := Option.some.inj hb; omega))
   have EV := E4.below5 KR (fun b hb => by omega)
   refine ⟨_, rfl, ⟨some ⟨g, 0, none⟩, a2, a3, c5, k2, k3, ?_, ?_, i2.ext EV, i3.ext EV⟩, EV, fun q hq hav => ?_⟩
   ·show _ = sv _ _ _ (s.store.set (p : Int).toNat 0).length _ _ _ _ _ _ _ _ _ _
    rw [List.length_set]
    rfl
   ·exact O4
   ·have hv := avSt_sv.1 (show AvSt (sv a1 a2 a3 s.store.length k1 s.tape.length k2 s.printed.length k3 s.taken s.time s.at_ s.done s.why) s q from hav)
    exact avSt_sv.2 ⟨.inr (fun b off e => by cases e; omega), hv.2.1, hv.2.2⟩
 ·have e1 : (er != 0) = true := by simpa using h0
  have e2 : (er == 0) = false := by simpa using h0
  have HX : Hid (blockE s a = (zst, er)) := Lib.hid (by rw [HB.out, if_pos h0])
  clear HB HGV h0 had
  have q0 := blk_cell hR1 0 (v := .slice none 0 0) rfl
  have q1 := blk_cell hR1 1 (v := .slice none 0 0) rfl
  have q2 := blk_cell hR1 2 (v := .int .i64 0) rfl
  have q3 := blk_cell hR1 3 (v := .slice none 0 0) rfl
  have q4 := blk_cell hR1 4 (v := .int .i64 0) rfl
  have q5 := blk_cell hR1 5 (v := .int .i64 0) rfl
  have q6 := blk_cell hR1 6 (v := .int .i64 0) rfl
  have q7 := blk_cell hR1 7 (v := .int .i64 0) rfl
  have f0 := blk_free hR1 0
  have f1 := blk_free hR1 1
  have f2 := blk_free hR1 2
  have f3 := blk_free hR1 3
  have f4 := blk_free hR1 4
  have f5 := blk_free hR1 5
  have f6 := blk_free hR1 6
  have f7 := blk_free hR1 7
  go_wp2_with fail
  refine bodyPost_ret (v := .tuple #[.agg #[.slice none 0 0, .slice none 0 0, .int .i64 0, .slice none 0 0, .int .i64 0, .int .i64 0, .int .i64 0, .int .i64 0], .int .i64 er]) (by simp [results, Tryz.results19, go_sem, q0, q1, q2, q3, q4, q5, q6, q7]) rfl ?_
  rw [HX.out]
  exact ⟨_, rfl, zst_at _, E01.below5 KR (fun b hb => by omega), fun q _ _ => av_zst q⟩
end Go.Proofs.YtnhpcoagkmgdoaaGreat
/- Contract: the reference's Run. -/
namespace Go.Proofs.YtnhpcoagkmgdoaaGreat
open Go.RowKit Go.Q
/-- the variable m holds a state -/
def BoxSt (w : World) (m : Nat) (s : St) : Prop := ∃ a1 k1 a2 k2 a3 k3, w.heap[m]? = some (.cells #[.slice a1 s.store.length k1, .slice a2 s.tape.length k2, .int .i64 s.taken, .slice a3 s.printed.length k3, .int .i64 s.time, .int .i64 s.at_, .int .i64 s.done, .int .i64 s.why] 24 (0, 0)) ∧
 IntsAt w a1 s.store ∧ IntsAt w a2 s.tape ∧ IntsAt w a3 s.printed ∧ Av m a1 s.store ∧ Av m a2 s.tape ∧ Av m a3 s.printed
/-- a state is stored into the variable -/
theorem box_store {w : World} {m : Nat} {cs : Array Value} {v0 v : Value} {s0 s : St} (h : w.heap[m]? = some (.cells cs 24 (0, 0))) (hc : cs.size = 8) {a1 a2 a3 : Option Addr} {k1 k2 k3 : Nat}
  (A : IntsAt w a1 s.store ∧ IntsAt w a2 s.tape ∧ IntsAt w a3 s.printed) (hA : Av m a1 s.store ∧ Av m a2 s.tape ∧ Av m a3 s.printed) :
  BoxSt ((((((((w.setCell ⟨m, 0, none⟩ (.slice a1 s.store.length k1)).setCell ⟨m, 1, none⟩ (.slice a2 s.tape.length k2)).setCell ⟨m, 2, none⟩ (.int .i64 s.taken)).setCell ⟨m, 3, none⟩ (.slice a3 s.printed.length k3)).setCell ⟨m, 4, none⟩ (.int .i64 s.time)).setCell ⟨m, 5, none⟩ (.int .i64 s.at_)).setCell ⟨m, 6, none⟩ (.int .i64 s.done)).setCell ⟨m, 7, none⟩ (.int .i64 s.why)) m s := by
 obtain ⟨cs⟩ := cs
 match cs, hc with
 | [c0, c1, c2, c3, c4, c5, c6, c7], _ =>
  obtain ⟨A1, A2, A3⟩ := A
  obtain ⟨h1, h2, h3⟩ := hA
  refine ⟨a1, k1, a2, k2, a3, k3, cells8 h _ _ _ _ _ _ _ _, ?_, ?_, ?_, h1, h2, h3⟩
  ·exact ints_av (ints_av (ints_av (ints_av (ints_av (ints_av (ints_av (ints_av A1 h1) h1) h1) h1) h1) h1) h1) h1
  ·exact ints_av (ints_av (ints_av (ints_av (ints_av (ints_av (ints_av (ints_av A2 h2) h2) h2) h2) h2) h2) h2) h2
  ·exact ints_av (ints_av (ints_av (ints_av (ints_av (ints_av (ints_av (ints_av A3 h3) h3) h3) h3) h3) h3) h3) h3
/-- the lists of the state in the variable m do not lie in block n -/
def BoxAv (w : World) (m n : Nat) (s : St) : Prop := ∃ a1 a2 a3 n1 k1 n2 k2 n3 k3 x2 x4 x5 x6 x7, w.heap[m]? = some (.cells #[.slice a1 n1 k1, .slice a2 n2 k2, x2, .slice a3 n3 k3, x4, x5, x6, x7] 24 (0, 0)) ∧ Av n a1 s.store ∧ Av n a2 s.tape ∧ Av n a3 s.printed
theorem BoxAv.get {w : World} {m n : Nat} {s : St} {a1 a2 a3 : Option Addr} {n1 k1 n2 k2 n3 k3 : Nat} {x2 x4 x5 x6 x7 : Value} (h : BoxAv w m n s) (hb : w.heap[m]? = some (.cells #[.slice a1 n1 k1, .slice a2 n2 k2, x2, .slice a3 n3 k3, x4, x5, x6, x7] 24 (0, 0))) :
  Av n a1 s.store ∧ Av n a2 s.tape ∧ Av n a3 s.printed := by
 obtain ⟨b1, b2, b3, _, _, _, _, _, _, _, _, _, _, _, h0, h1, h2, h3⟩ := h
 rw [hb] at h0
 simp at h0
 obtain ⟨⟨rfl, _⟩, ⟨rfl, _⟩, _, ⟨rfl, _⟩, _⟩ := h0
 exact ⟨h1, h2, h3⟩
theorem zbox {w W : World} {T : TypeId} {cs : Array Value} (hE : Ext (w.alloc (.cells cs T)) W) : W.heap[w.heap.size]? = some (.cells cs T (0, 0)) :=
 (hE.block w.heap.size (by simp)).trans (heap_alloc_new w _)
end Go.Proofs.YtnhpcoagkmgdoaaGreat
/- Layer 10's reference: Until. -/
namespace Go.Q
theorem untilE_ref (s : St) (a most : Int) : untilE s a most = if guardX s [] 0 ≠ 0 then (zst, false, guardX s [] 0) else if inB a 0 127 = true then (if inB most 0 5000 = true then ((untilN a most.toNat s).1, (untilN a most.toNat s).2, 0) else (zst, false, 7)) else (zst, false, 7) := by
 have h0 : inB 0 0 5000 = true := by decide
 have hl : lossX [] = 0 := by decide
 unfold untilE guardX
 rw [hl, h0]
 by_cases hc : (checkQ s).2.2 = 0
 ·rw [hc]
  cases hm : inB most 0 5000 <;> cases ha : inB a 0 127 <;> simp
 ·simp only [ne_eq, hc, not_false_eq_true, if_true]
theorem until_stop (a : Int) (n : Nat) {c : St} (h : c.why ≠ 0) : untilN a n c = (c, false) := by
 cases n with
 | zero => rfl
 | succ n =>
  unfold untilN
  rw [runQ_end h, if_pos h]
theorem until_next (a : Int) (n : Nat) {c : St} (h : c.why = 0) (h2 : ¬ ((stepQ c).at_ = a ∧ (stepQ c).why = 0)) : untilN a (n + 1) c = untilN a n (stepQ c) := by
 show (if (runQ 1 c).why ≠ 0 then (runQ 1 c, false) else if (runQ 1 c).at_ = a then (runQ 1 c, true) else untilN a n (runQ 1 c)) = untilN a n (stepQ c)
 rw [run_one h]
 by_cases hy : (stepQ c).why = 0
 ·rw [if_neg (by simpa using hy), if_neg (fun e => h2 ⟨e, hy⟩)]
 ·rw [if_pos hy]
  exact (until_stop a n hy).symm
theorem until_found (a : Int) (n : Nat) {c : St} (h : c.why = 0) (h1 : (stepQ c).at_ = a) (hy : (stepQ c).why = 0) : untilN a (n + 1) c = (stepQ c, true) := by
 unfold untilN
 rw [run_one h, if_neg (by simpa using hy), if_pos h1]
end Go.Q
namespace Go.Proofs.YtnhpcoagkmgdoaaGreat
open Go.RowKit Go.Q Go.Shelf Go.Maps Go.Joins
set_option maxHeartbeats 4000000
set_option maxRecDepth 100000
theorem runtil_any (v : Value) (s : St) (a most : Int) (w : World) (h : StAt w v s) (hb : StBd s) :
  Calls Tryz.prog 17 #[v, .int .i64 a, .int .i64 most] w (UtRes (untilE s a most) w) := by
 have hak := fun W (E : Ext w W) => rasked_any v s none 0 0 [] 0 W (h.ext E) hb rfl (by decide) (.inl rfl)
 have had := fun W => address_any a W
 have hin := fun W => rin10_any most 0 5000 W
 rw [addr_in] at had
 obtain ⟨a1, a2, a3, k1, k2, k3, rfl, i1, i2, i3⟩ := h
 have HB := Lib.hid (untilE_ref s a most)
 have HGV : Hid (guardX s [] 0 = 0 → Valid s) := Lib.hid (fun h => (guard_valid h).1)
 obtain ⟨er, her⟩ : ∃ er, guardX s [] 0 = er := ⟨_, rfl⟩
 rw [her] at hak HB HGV
 clear her hb
 by_cases he : er = 0
 ·subst he
  cases hA : inB a 0 127 with
  | false =>
   rw [hA] at had HB
   have HX : Hid (untilE s a most = (zst, false, 7)) := Lib.hid (by rw [HB.out]; simp)
   clear HB HGV hA
   go_enter Tryz.func17, Tryz.ntmps17
   go_wp2_with fail
   refine (hak _ (by repeat (first | with_reducible exact Ext.refl _ | with_reducible refine Ext.alloc ?_ _ | with_reducible refine Below.drew ?_))).mono ?_
   rintro e w1 ⟨rfl, E1⟩
   clear hak
   have r0 := box_at2 (v := .slice none 0 0) E1 0 rfl
   have r1 := box_at2 (v := .slice none 0 0) E1 1 rfl
   have r2 := box_at2 (v := .int .i64 0) E1 2 rfl
   have r3 := box_at2 (v := .slice none 0 0) E1 3 rfl
   have r4 := box_at2 (v := .int .i64 0) E1 4 rfl
   have r5 := box_at2 (v := .int .i64 0) E1 5 rfl
   have r6 := box_at2 (v := .int .i64 0) E1 6 rfl
   have r7 := box_at2 (v := .int .i64 0) E1 7 rfl
   have rf0 := box_free2 E1 0
   have rf1 := box_free2 E1 1
   have rf2 := box_free2 E1 2
   have rf3 := box_free2 E1 3
   have rf4 := box_free2 E1 4
   have rf5 := box_free2 E1 5
   have rf6 := box_free2 E1 6
   have rf7 := box_free2 E1 7
   go_wp2_with (first | (go_at_call 40; refine (hin _).mono ?_; rintro e w' ⟨rfl, rfl⟩) | (go_at_call 46; refine (had _).mono ?_; rintro e w' ⟨rfl, rfl⟩))
   refine bodyPost_ret (v := .tuple #[.agg #[.slice none 0 0, .slice none 0 0, .int .i64 0, .slice none 0 0, .int .i64 0, .int .i64 0, .int .i64 0, .int .i64 0], .bool false, .int .i64 7]) (by simp [results, Tryz.results17, go_sem, r0, r1, r2, r3, r4, r5, r6, r7]) rfl ?_
   unfold UtRes
   rw [HX.out]
   exact ⟨_, rfl, ⟨none, none, none, 0, 0, 0, rfl, .inl rfl, .inl rfl, .inl rfl⟩, ext_set8 E1.old.old (by omega) _ _ _ _ _ _ _ _⟩
  | true =>
   cases hM : inB most 0 5000 with
   | false =>
    rw [hA] at had HB
    rw [hM] at hin HB
    have HX : Hid (untilE s a most = (zst, false, 7)) := Lib.hid (by rw [HB.out]; simp)
    clear HB HGV hA hM
    go_enter Tryz.func17, Tryz.ntmps17
    go_wp2_with fail
    refine (hak _ (by repeat (first | with_reducible exact Ext.refl _ | with_reducible refine Ext.alloc ?_ _ | with_reducible refine Below.drew ?_))).mono ?_
    rintro e w1 ⟨rfl, E1⟩
    clear hak
    have r0 := box_at2 (v := .slice none 0 0) E1 0 rfl
    have r1 := box_at2 (v := .slice none 0 0) E1 1 rfl
    have r2 := box_at2 (v := .int .i64 0) E1 2 rfl
    have r3 := box_at2 (v := .slice none 0 0) E1 3 rfl
    have r4 := box_at2 (v := .int .i64 0) E1 4 rfl
    have r5 := box_at2 (v := .int .i64 0) E1 5 rfl
    have r6 := box_at2 (v := .int .i64 0) E1 6 rfl
    have r7 := box_at2 (v := .int .i64 0) E1 7 rfl
    have rf0 := box_free2 E1 0
    have rf1 := box_free2 E1 1
    have rf2 := box_free2 E1 2
    have rf3 := box_free2 E1 3
    have rf4 := box_free2 E1 4
    have rf5 := box_free2 E1 5
    have rf6 := box_free2 E1 6
    have rf7 := box_free2 E1 7
    go_wp2_with (first | (go_at_call 40; refine (hin _).mono ?_; rintro e w' ⟨rfl, rfl⟩) | (go_at_call 46; refine (had _).mono ?_; rintro e w' ⟨rfl, rfl⟩))
    refine bodyPost_ret (v := .tuple #[.agg #[.slice none 0 0, .slice none 0 0, .int .i64 0, .slice none 0 0, .int .i64 0, .int .i64 0, .int .i64 0, .int .i64 0], .bool false, .int .i64 7]) (by simp [results, Tryz.results17, go_sem, r0, r1, r2, r3, r4, r5, r6, r7]) rfl ?_
    unfold UtRes
    rw [HX.out]
    exact ⟨_, rfl, ⟨none, none, none, 0, 0, 0, rfl, .inl rfl, .inl rfl, .inl rfl⟩, ext_set8 E1.old.old (by omega) _ _ _ _ _ _ _ _⟩
   | true =>
    rw [hA] at had HB
    rw [hM] at hin HB
    have hmb := inB_bd hM
    obtain ⟨n, rfl⟩ := Int.eq_ofNat_of_zero_le hmb.1
    have HX : Hid (untilE s a (n : Int) = ((untilN a n s).1, (untilN a n s).2, 0)) := Lib.hid (by rw [HB.out, Int.toNat_natCast]; simp)
    have HV := Lib.hid (HGV.out rfl)
    clear HB HGV hA hM
    go_enter Tryz.func17, Tryz.ntmps17
    go_wp2_with fail
    refine (hak _ (by repeat (first | with_reducible exact Ext.refl _ | with_reducible refine Ext.alloc ?_ _ | with_reducible refine Below.drew ?_))).mono ?_
    rintro e w1 ⟨rfl, E1⟩
    clear hak
    have hB0 : BoxSt w1 w.heap.size s := ⟨_, _, _, _, _, _, zbox E1.old, i1.ext E1.old.old, i2.ext E1.old.old, i3.ext E1.old.old, av_of i1 (Nat.le_refl _), av_of i2 (Nat.le_refl _), av_of i3 (Nat.le_refl _)⟩
    have hBA : BoxAv w1 w.heap.size (w.heap.size + 1) s := ⟨_, _, _, _, _, _, _, _, _, _, _, _, _, _, zbox E1.old, av_of i1 (Nat.le_succ _), av_of i2 (Nat.le_succ _), av_of i3 (Nat.le_succ _)⟩
    have hZ0 : w1.heap[w.heap.size + 1]? = some (.cells #[.slice none 0 0, .slice none 0 0, .int .i64 0, .slice none 0 0, .int .i64 0, .int .i64 0, .int .i64 0, .int .i64 0] 24 (0, 0)) := by
     have := zbox E1
     rw [World.size_alloc] at this
     exact this
    have hs0 : w.heap.size + 1 < w1.heap.size := by have := E1.size; simp at this; omega
    go_wp2_with (first | (go_at_call 40; refine (hin _).mono ?_; rintro e w' ⟨rfl, rfl⟩) | (go_at_call 46; refine (had _).mono ?_; rintro e w' ⟨rfl, rfl⟩))
    obtain ⟨wv, rfl⟩ : ∃ q, q = w' := ⟨_, rfl⟩
    go_loopw [10] (fun i wr => ∃ (k : Nat) (c : St), k ≤ n ∧ i = .int .i64 (k : Int) ∧ Ext w wr ∧ w.heap.size + 1 < wr.heap.size ∧ BoxSt wr w.heap.size c ∧ BoxAv wr w.heap.size (w.heap.size + 1) c ∧ Hid (wr.heap[w.heap.size + 1]? = some (.cells #[.slice none 0 0, .slice none 0 0, .int .i64 0, .slice none 0 0, .int .i64 0, .int .i64 0, .int .i64 0, .int .i64 0] 24 (0, 0))) ∧ Hid (Valid c) ∧ Hid (untilN a n s = untilN a (n - k) c)) (fun i _ => n - (intOf i).toNat)
    case atStart => exact ⟨0, s, Nat.zero_le _, rfl, E1.old.old, hs0, hB0, hBA, Lib.hid hZ0, HV, Lib.hid rfl⟩
    case round =>
     obtain ⟨k, t, hk, rfl, E0, hsz, ⟨d1, e1, d2, e2, d3, e3, hblk, j1, j2, j3, v1, v2, v3⟩, hBA', HZ, HVt, HU⟩ := hrel
     have hav := hBA'.get hblk
     clear hBA' hBA hB0
     have c0 := cell_of_cells hblk 0 (v := .slice d1 t.store.length e1) rfl
     have c1 := cell_of_cells hblk 1 (v := .slice d2 t.tape.length e2) rfl
     have c2 := cell_of_cells hblk 2 (v := .int .i64 t.taken) rfl
     have c3 := cell_of_cells hblk 3 (v := .slice d3 t.printed.length e3) rfl
     have c4 := cell_of_cells hblk 4 (v := .int .i64 t.time) rfl
     have c5 := cell_of_cells hblk 5 (v := .int .i64 t.at_) rfl
     have c6 := cell_of_cells hblk 6 (v := .int .i64 t.done) rfl
     have c7 := cell_of_cells hblk 7 (v := .int .i64 t.why) rfl
     have hsz0 : w.heap.size < wr.heap.size := by omega
     have HBk := Lib.hid hblk
     clear hblk
     by_cases hlt : k < n
     ·have hltz : (k : Int) < (n : Int) := by omega
      by_cases hw : t.why = 0
      ·have b1 : (t.why == 0) = true := by simpa using hw
       have hst := fun W (E : Ext wr W) => rstep_any (sv d1 d2 d3 t.store.length e1 t.tape.length e2 t.printed.length e3 t.taken t.time t.at_ t.done t.why) t W ⟨d1, d2, d3, e1, e2, e3, rfl, j1.ext E, j2.ext E, j3.ext E⟩ HVt.out hw
       have Hw := Lib.hid hw
       clear hw
       go_wp2_with fail
       refine (hst _ (Ext.refl _)).mono ?_
       rintro e w2 ⟨vv, rfl, A2, E2, hA2⟩
       have hA3 := hA2 w.heap.size hsz0 (avSt_sv.2 ⟨v1, v2, v3⟩)
       obtain ⟨p1, p2, p3, m1, m2, m3, rfl, P1, P2, P3⟩ := A2
       have hA4 := avSt_sv.1 hA3
       have hA5 := avSt_sv.1 (hA2 (w.heap.size + 1) hsz (avSt_sv.2 hav))
       have hb2 := (E2.block w.heap.size hsz0).trans HBk.out
       have hz2 := (E2.block (w.heap.size + 1) hsz).trans HZ.out
       clear c0 c1 c2 c3 c4 c5 c6 c7
       have c0 := cell_of_cells hb2 0 (v := .slice d1 t.store.length e1) rfl
       have c1 := cell_of_cells hb2 1 (v := .slice d2 t.tape.length e2) rfl
       have c2 := cell_of_cells hb2 2 (v := .int .i64 t.taken) rfl
       have c3 := cell_of_cells hb2 3 (v := .slice d3 t.printed.length e3) rfl
       have c4 := cell_of_cells hb2 4 (v := .int .i64 t.time) rfl
       have c5 := cell_of_cells hb2 5 (v := .int .i64 t.at_) rfl
       have c6 := cell_of_cells hb2 6 (v := .int .i64 t.done) rfl
       have c7 := cell_of_cells hb2 7 (v := .int .i64 t.why) rfl
       have f0 := free_of_cells hb2 0
       have f1 := free_of_cells hb2 1
       have f2 := free_of_cells hb2 2
       have f3 := free_of_cells hb2 3
       have f4 := free_of_cells hb2 4
       have f5 := free_of_cells hb2 5
       have f6 := free_of_cells hb2 6
       have f7 := free_of_cells hb2 7
       have HVu := Lib.hid (stepQ_valid HVt.out)
       have hnx := fun h => until_next a (n - (k + 1)) (c := t) Hw.out h
       have hfd := fun h1 h2 => until_found a (n - (k + 1)) (c := t) Hw.out h1 h2
       rw [show n - (k + 1) + 1 = n - k by omega, ← HU.out] at hnx hfd
       obtain ⟨u, hu⟩ : ∃ u, stepQ t = u := ⟨_, rfl⟩
       rw [hu] at P1 P2 P3 hA4 hA5 HVu hnx hfd ⊢
       have hres := box_store (w := w2) (v0 := .nilIface) (v := .nilIface) (s0 := t) (s := u) hb2 rfl (k1 := m1) (k2 := m2) (k3 := m3) ⟨P1, P2, P3⟩ hA4
       have hcell := cells8 (W := w2) hb2 (.slice p1 u.store.length m1) (.slice p2 u.tape.length m2) (.int .i64 u.taken) (.slice p3 u.printed.length m3) (.int .i64 u.time) (.int .i64 u.at_) (.int .i64 u.done) (.int .i64 u.why)
       have E02 := E0.comp E2
       have hEV : Ext w ((((((((w2.setCell ⟨w.heap.size, 0, none⟩ (.slice p1 u.store.length m1)).setCell ⟨w.heap.size, 1, none⟩ (.slice p2 u.tape.length m2)).setCell ⟨w.heap.size, 2, none⟩ (.int .i64 u.taken)).setCell ⟨w.heap.size, 3, none⟩ (.slice p3 u.printed.length m3)).setCell ⟨w.heap.size, 4, none⟩ (.int .i64 u.time)).setCell ⟨w.heap.size, 5, none⟩ (.int .i64 u.at_)).setCell ⟨w.heap.size, 6, none⟩ (.int .i64 u.done)).setCell ⟨w.heap.size, 7, none⟩ (.int .i64 u.why)) := ext_set8 E02 (Nat.le_refl _) _ _ _ _ _ _ _ _
       have hsz2 : w.heap.size + 1 < w2.heap.size := Nat.lt_of_lt_of_le hsz E2.size
       have hszV : w.heap.size + 1 < ((((((((w2.setCell ⟨w.heap.size, 0, none⟩ (.slice p1 u.store.length m1)).setCell ⟨w.heap.size, 1, none⟩ (.slice p2 u.tape.length m2)).setCell ⟨w.heap.size, 2, none⟩ (.int .i64 u.taken)).setCell ⟨w.heap.size, 3, none⟩ (.slice p3 u.printed.length m3)).setCell ⟨w.heap.size, 4, none⟩ (.int .i64 u.time)).setCell ⟨w.heap.size, 5, none⟩ (.int .i64 u.at_)).setCell ⟨w.heap.size, 6, none⟩ (.int .i64 u.done)).setCell ⟨w.heap.size, 7, none⟩ (.int .i64 u.why)).heap.size := by simpa [World.setCell] using hsz2
       have hzV : ((((((((w2.setCell ⟨w.heap.size, 0, none⟩ (.slice p1 u.store.length m1)).setCell ⟨w.heap.size, 1, none⟩ (.slice p2 u.tape.length m2)).setCell ⟨w.heap.size, 2, none⟩ (.int .i64 u.taken)).setCell ⟨w.heap.size, 3, none⟩ (.slice p3 u.printed.length m3)).setCell ⟨w.heap.size, 4, none⟩ (.int .i64 u.time)).setCell ⟨w.heap.size, 5, none⟩ (.int .i64 u.at_)).setCell ⟨w.heap.size, 6, none⟩ (.int .i64 u.done)).setCell ⟨w.heap.size, 7, none⟩ (.int .i64 u.why)).heap[w.heap.size + 1]? = some (.cells #[.slice none 0 0, .slice none 0 0, .int .i64 0, .slice none 0 0, .int .i64 0, .int .i64 0, .int .i64 0, .int .i64 0] 24 (0, 0)) := by
        repeat (refine (Below.heap_setCell _ _ _ _ ?_).trans ?_; · simp)
        exact hz2
       clear hb2 hz2 hst hA2 hA3 hA4 hu E02 E2 E0 HU HZ HBk hsz2
       go_upto_region 10 with fail
       generalize ((((((((w2.setCell ⟨w.heap.size, 0, none⟩ (.slice p1 u.store.length m1)).setCell ⟨w.heap.size, 1, none⟩ (.slice p2 u.tape.length m2)).setCell ⟨w.heap.size, 2, none⟩ (.int .i64 u.taken)).setCell ⟨w.heap.size, 3, none⟩ (.slice p3 u.printed.length m3)).setCell ⟨w.heap.size, 4, none⟩ (.int .i64 u.time)).setCell ⟨w.heap.size, 5, none⟩ (.int .i64 u.at_)).setCell ⟨w.heap.size, 6, none⟩ (.int .i64 u.done)).setCell ⟨w.heap.size, 7, none⟩ (.int .i64 u.why)) = V at hres hcell hEV hszV hzV ⊢
       clear c0 c1 c2 c3 c4 c5 c6 c7 f0 f1 f2 f3 f4 f5 f6 f7
       obtain ⟨s1, n1, s2, n2, s3, n3, hblkV, A1, A2, A3, B1, B2, B3⟩ := id hres
       rw [hcell] at hblkV
       simp at hblkV
       obtain ⟨⟨rfl, rfl⟩, ⟨rfl, rfl⟩, rfl, rfl⟩ := hblkV
       have c0 := cell_of_cells hcell 0 (v := .slice p1 u.store.length m1) rfl
       have c1 := cell_of_cells hcell 1 (v := .slice p2 u.tape.length m2) rfl
       have c2 := cell_of_cells hcell 2 (v := .int .i64 u.taken) rfl
       have c3 := cell_of_cells hcell 3 (v := .slice p3 u.printed.length m3) rfl
       have c4 := cell_of_cells hcell 4 (v := .int .i64 u.time) rfl
       have c5 := cell_of_cells hcell 5 (v := .int .i64 u.at_) rfl
       have c6 := cell_of_cells hcell 6 (v := .int .i64 u.done) rfl
       have c7 := cell_of_cells hcell 7 (v := .int .i64 u.why) rfl
       by_cases hat : u.at_ = a
       ·by_cases hy : u.why = 0
        ·have hX2 := hfd hat hy
         have y1 : (u.at_ == a) = true := by simpa using hat
         have y2 : (u.why == 0) = true := by simpa using hy
         obtain ⟨q1, q2, q3⟩ := hA5
         have r0 := cell_of_cells hzV 0 (v := .slice none 0 0) rfl
         have r1 := cell_of_cells hzV 1 (v := .slice none 0 0) rfl
         have r2 := cell_of_cells hzV 2 (v := .int .i64 0) rfl
         have r3 := cell_of_cells hzV 3 (v := .slice none 0 0) rfl
         have r4 := cell_of_cells hzV 4 (v := .int .i64 0) rfl
         have r5 := cell_of_cells hzV 5 (v := .int .i64 0) rfl
         have r6 := cell_of_cells hzV 6 (v := .int .i64 0) rfl
         have r7 := cell_of_cells hzV 7 (v := .int .i64 0) rfl
         have rf0 := free_of_cells hzV 0
         have rf1 := free_of_cells hzV 1
         have rf2 := free_of_cells hzV 2
         have rf3 := free_of_cells hzV 3
         have rf4 := free_of_cells hzV 4
         have rf5 := free_of_cells hzV 5
         have rf6 := free_of_cells hzV 6
         have rf7 := free_of_cells hzV 7
         clear hat hy hfd hnx
         go_wp2_with fail
         refine bodyPost_ret (v := .tuple #[sv p1 p2 p3 u.store.length m1 u.tape.length m2 u.printed.length m3 u.taken u.time u.at_ u.done u.why, .bool true, .int .i64 0]) (by simp [results, Tryz.results17, go_sem, r0, r1, r2, r3, r4, r5, r6, r7]) rfl ?_
         unfold UtRes
         rw [HX.out, hX2]
         exact ⟨_, rfl, ⟨p1, p2, p3, m1, m2, m3, rfl, ints_av (ints_av (ints_av (ints_av (ints_av (ints_av (ints_av (ints_av A1 q1) q1) q1) q1) q1) q1) q1) q1, ints_av (ints_av (ints_av (ints_av (ints_av (ints_av (ints_av (ints_av A2 q2) q2) q2) q2) q2) q2) q2) q2, ints_av (ints_av (ints_av (ints_av (ints_av (ints_av (ints_av (ints_av A3 q3) q3) q3) q3) q3) q3) q3) q3⟩, ext_set8 hEV (Nat.le_succ _) _ _ _ _ _ _ _ _⟩
        ·have hX2 := hnx (fun h => hy h.2)
         have y1 : (u.at_ == a) = true := by simpa using hat
         have y2 : (u.why == 0) = false := by simpa using hy
         clear hat hy hfd hnx
         go_wp2_with fail
         go_roundw
         case measure => simp [intOf]; omega
         case rel => exact ⟨k + 1, u, by omega, by go_num, hEV, hszV, hres, ⟨_, _, _, _, _, _, _, _, _, _, _, _, _, _, hcell, hA5⟩, Lib.hid hzV, HVu, Lib.hid hX2⟩
       ·have hX2 := hnx (fun h => hat h.1)
        have y1 : (u.at_ == a) = false := by simpa using hat
        clear hat hfd hnx
        go_wp2_with fail
        go_roundw
        case measure => simp [intOf]; omega
        case rel => exact ⟨k + 1, u, by omega, by go_num, hEV, hszV, hres, ⟨_, _, _, _, _, _, _, _, _, _, _, _, _, _, hcell, hA5⟩, Lib.hid hzV, HVu, Lib.hid hX2⟩
      ·have b1 : (t.why == 0) = false := by simpa using hw
       have z8 := HZ.out
       have r0 := cell_of_cells z8 0 (v := .slice none 0 0) rfl
       have r1 := cell_of_cells z8 1 (v := .slice none 0 0) rfl
       have r2 := cell_of_cells z8 2 (v := .int .i64 0) rfl
       have r3 := cell_of_cells z8 3 (v := .slice none 0 0) rfl
       have r4 := cell_of_cells z8 4 (v := .int .i64 0) rfl
       have r5 := cell_of_cells z8 5 (v := .int .i64 0) rfl
       have r6 := cell_of_cells z8 6 (v := .int .i64 0) rfl
       have r7 := cell_of_cells z8 7 (v := .int .i64 0) rfl
       have rf0 := free_of_cells z8 0
       have rf1 := free_of_cells z8 1
       have rf2 := free_of_cells z8 2
       have rf3 := free_of_cells z8 3
       have rf4 := free_of_cells z8 4
       have rf5 := free_of_cells z8 5
       have rf6 := free_of_cells z8 6
       have rf7 := free_of_cells z8 7
       have hX2 : untilN a n s = (t, false) := by rw [HU.out, until_stop a _ hw]
       obtain ⟨q1, q2, q3⟩ := hav
       clear hw z8
       go_wp2_with fail
       refine bodyPost_ret (v := .tuple #[sv d1 d2 d3 t.store.length e1 t.tape.length e2 t.printed.length e3 t.taken t.time t.at_ t.done t.why, .bool false, .int .i64 0]) (by simp [results, Tryz.results17, go_sem, r0, r1, r2, r3, r4, r5, r6, r7]) rfl ?_
       unfold UtRes
       rw [HX.out, hX2]
       exact ⟨_, rfl, ⟨d1, d2, d3, e1, e2, e3, rfl, ints_av (ints_av (ints_av (ints_av (ints_av (ints_av (ints_av (ints_av j1 q1) q1) q1) q1) q1) q1) q1) q1, ints_av (ints_av (ints_av (ints_av (ints_av (ints_av (ints_av (ints_av j2 q2) q2) q2) q2) q2) q2) q2) q2, ints_av (ints_av (ints_av (ints_av (ints_av (ints_av (ints_av (ints_av j3 q3) q3) q3) q3) q3) q3) q3) q3⟩, ext_set8 E0 (Nat.le_succ _) _ _ _ _ _ _ _ _⟩
     ·have hltz : ¬ (k : Int) < (n : Int) := by omega
      have hkn : n - k = 0 := by omega
      have z8 := HZ.out
      have r0 := cell_of_cells z8 0 (v := .slice none 0 0) rfl
      have r1 := cell_of_cells z8 1 (v := .slice none 0 0) rfl
      have r2 := cell_of_cells z8 2 (v := .int .i64 0) rfl
      have r3 := cell_of_cells z8 3 (v := .slice none 0 0) rfl
      have r4 := cell_of_cells z8 4 (v := .int .i64 0) rfl
      have r5 := cell_of_cells z8 5 (v := .int .i64 0) rfl
      have r6 := cell_of_cells z8 6 (v := .int .i64 0) rfl
      have r7 := cell_of_cells z8 7 (v := .int .i64 0) rfl
      have rf0 := free_of_cells z8 0
      have rf1 := free_of_cells z8 1
      have rf2 := free_of_cells z8 2
      have rf3 := free_of_cells z8 3
      have rf4 := free_of_cells z8 4
      have rf5 := free_of_cells z8 5
      have rf6 := free_of_cells z8 6
      have rf7 := free_of_cells z8 7
      have hX2 : untilN a n s = (t, false) := by rw [HU.out, hkn]; rfl
      obtain ⟨q1, q2, q3⟩ := hav
      clear z8 hkn
      go_wp2_with fail
      refine bodyPost_ret (v := .tuple #[sv d1 d2 d3 t.store.length e1 t.tape.length e2 t.printed.length e3 t.taken t.time t.at_ t.done t.why, .bool false, .int .i64 0]) (by simp [results, Tryz.results17, go_sem, r0, r1, r2, r3, r4, r5, r6, r7]) rfl ?_
      unfold UtRes
      rw [HX.out, hX2]
      exact ⟨_, rfl, ⟨d1, d2, d3, e1, e2, e3, rfl, ints_av (ints_av (ints_av (ints_av (ints_av (ints_av (ints_av (ints_av j1 q1) q1) q1) q1) q1) q1) q1) q1, ints_av (ints_av (ints_av (ints_av (ints_av (ints_av (ints_av (ints_av j2 q2) q2) q2) q2) q2) q2) q2) q2, ints_av (ints_av (ints_av (ints_av (ints_av (ints_av (ints_av (ints_av j3 q3) q3) q3) q3) q3) q3) q3) q3⟩, ext_set8 E0 (Nat.le_succ _) _ _ _ _ _ _ _ _⟩
 ·have he' : (er != 0) = true := by simpa using he
  have he2 : (er == 0) = false := by simpa using he
  have HX : Hid (untilE s a most = (zst, false, er)) := Lib.hid (by rw [HB.out, if_pos he])
  clear HB HGV he
  go_enter Tryz.func17, Tryz.ntmps17
  go_wp2_with fail
  refine (hak _ (by repeat (first | with_reducible exact Ext.refl _ | with_reducible refine Ext.alloc ?_ _ | with_reducible refine Below.drew ?_))).mono ?_
  rintro e w1 ⟨rfl, E1⟩
  clear hak
  have r0 := box_at2 (v := .slice none 0 0) E1 0 rfl
  have r1 := box_at2 (v := .slice none 0 0) E1 1 rfl
  have r2 := box_at2 (v := .int .i64 0) E1 2 rfl
  have r3 := box_at2 (v := .slice none 0 0) E1 3 rfl
  have r4 := box_at2 (v := .int .i64 0) E1 4 rfl
  have r5 := box_at2 (v := .int .i64 0) E1 5 rfl
  have r6 := box_at2 (v := .int .i64 0) E1 6 rfl
  have r7 := box_at2 (v := .int .i64 0) E1 7 rfl
  have rf0 := box_free2 E1 0
  have rf1 := box_free2 E1 1
  have rf2 := box_free2 E1 2
  have rf3 := box_free2 E1 3
  have rf4 := box_free2 E1 4
  have rf5 := box_free2 E1 5
  have rf6 := box_free2 E1 6
  have rf7 := box_free2 E1 7
  go_wp2_with fail
  refine bodyPost_ret (v := .tuple #[.agg #[.slice none 0 0, .slice none 0 0, .int .i64 0, .slice none 0 0, .int .i64 0, .int .i64 0, .int .i64 0, .int .i64 0], .bool false, .int .i64 er]) (by simp [results, Tryz.results17, go_sem, r0, r1, r2, r3, r4, r5, r6, r7]) rfl ?_
  unfold UtRes
  rw [HX.out]
  exact ⟨_, rfl, ⟨none, none, none, 0, 0, 0, rfl, .inl rfl, .inl rfl, .inl rfl⟩, ext_set8 E1.old.old (by omega) _ _ _ _ _ _ _ _⟩
end Go.Proofs.YtnhpcoagkmgdoaaGreat
/- Layer 10: a row of changes in memory. -/
namespace Go.Proofs.YtnhpcoagkmgdoaaGreat
open Go.RowKit Go.Q Go.Shelf Go.Maps Go.Joins
/-- the changes lie in block g -/
def ChAt (W : World) (g : Nat) (L : List Chd) : Prop := ∀ i c, L[i]? = some c → W.cell? ⟨g, i * 3, none⟩ = some (.int .i64 c.addr) ∧ W.cell? ⟨g, i * 3 + 1, none⟩ = some (.int .i64 c.was) ∧ W.cell? ⟨g, i * 3 + 2, none⟩ = some (.int .i64 c.is_)
theorem ccs_at : ∀ (L : List Chd) (i : Nat) (c : Chd), L[i]? = some c → (ccs L)[i * 3]? = some (.int .i64 c.addr) ∧ (ccs L)[i * 3 + 1]? = some (.int .i64 c.was) ∧ (ccs L)[i * 3 + 2]? = some (.int .i64 c.is_)
 | [], i, c, h => by simp at h
 | x :: l, 0, c, h => by
  obtain rfl : x = c := by simpa using h
  exact ⟨rfl, rfl, rfl⟩
 | x :: l, i + 1, c, h => by
  have ih := ccs_at l i c (by simpa using h)
  rw [show (i + 1) * 3 = i * 3 + 3 by omega]
  exact ih
theorem ch_row {W : World} {B : Nat} {v : Value} {L : List Chd} (h : W.ownsRow B 41 3 v L.length (ccs L)) :
  ∃ ra rc, v = .slice ra L.length rc ∧ (L = [] ∨ ∃ g, ra = some ⟨g, 0, none⟩ ∧ g < W.heap.size ∧ ChAt W g L) := by
 obtain ⟨-, ⟨rfl, h0⟩ | ⟨g, cap, cur, rfl, hbg, hg, hnc, hcm, hcs, htake⟩⟩ := h
 ·exact ⟨none, 0, by rw [h0], .inl (List.length_eq_zero_iff.1 h0)⟩
 ·refine ⟨some ⟨g, 0, none⟩, cap, rfl, .inr ⟨g, rfl, lt_of_block hg, fun i c hc => ?_⟩⟩
  have hi : i < L.length := (List.getElem?_eq_some_iff.1 hc).1
  obtain ⟨h1, h2, h3⟩ := ccs_at L i c hc
  have key : ∀ (j : Nat) (u : Value), j < L.length * 3 → (ccs L)[j]? = some u → W.cell? ⟨g, j, none⟩ = some u := by
   intro j u hj hu
   rw [← htake, List.getElem?_take_of_lt hj] at hu
   exact blk_cell hg j (by simpa using hu)
  exact ⟨key _ _ (by omega) h1, key _ _ (by omega) h2, key _ _ (by omega) h3⟩
theorem ChAt.at_ext {W Y : World} {g : Nat} {L : List Chd} (h : ChAt W g L) (hg : g < W.heap.size) (E : Ext W Y) : ChAt Y g L := fun i c hc => by
 obtain ⟨h1, h2, h3⟩ := h i c hc
 exact ⟨(E.cell (p := ⟨g, _, none⟩) hg).trans h1, (E.cell (p := ⟨g, _, none⟩) hg).trans h2, (E.cell (p := ⟨g, _, none⟩) hg).trans h3⟩
theorem ChAt.ext {W Y : World} {g : Nat} {L : List Chd} (h : ChAt W g L) (E : Ext W Y) : ChAt Y g L := fun i c hc => by
 have hg : g < W.heap.size := by
  have h1 := (h i c hc).1
  rcases Nat.lt_or_ge g W.heap.size with hl | hl
  ·exact hl
  ·simp [World.cell?, Array.getElem?_eq_none hl] at h1
 exact h.at_ext hg E i c hc
end Go.Proofs.YtnhpcoagkmgdoaaGreat

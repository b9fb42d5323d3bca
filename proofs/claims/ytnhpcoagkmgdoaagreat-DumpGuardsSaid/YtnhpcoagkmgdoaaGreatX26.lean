import Derived.Deep.DeepCutAuto
import Derived.Test.YtnhpcoagkmgdoaaGreatX25
set_option linter.unusedVariables false
set_option linter.unusedSimpArgs false
/- Layer 10: Recover. -/
namespace Go.Q
/-- what Recover hands back -/
def RecRel (s : St) (L : List Loss) (every most : Int) (p : St × Int × Int) : Prop :=
 (guardX s L most ≠ 0 ∧ p = (zst, 0, guardX s L most)) ∨ (guardX s L most = 0 ∧ inB every 1 5000 = false ∧ p = (zst, 0, 7)) ∨
 (guardX s L most = 0 ∧ inB every 1 5000 = true ∧ ∃ x, RecTo L s every most (beginR s) x ∧ p = (x.1, (x.2 : Int), 0))
theorem rn_bad {L : List Loss} {s : St} {every most : Int} {r : Rm} {z : Lm} (hz : hapQ L r.m = z) (h : (endR s most z.s || dueR s every z.s) = true) (hb : someB z.bad = true) : recNext L s every most r = .inl ⟨⟨r.last, zerosB, z.gone⟩, r.last, r.back + 1⟩ := by
 unfold recNext
 rw [hz, if_pos (by rw [h, hb]; rfl)]
theorem rn_end {L : List Loss} {s : St} {every most : Int} {r : Rm} {z : Lm} (hz : hapQ L r.m = z) (he : endR s most z.s = true) (hb : someB z.bad = false) : recNext L s every most r = .inr (z.s, r.back) := by
 unfold recNext
 rw [hz, if_neg (by rw [hb]; simp), if_pos he]
theorem rn_due_note {L : List Loss} {s : St} {every most : Int} {r : Rm} {z : Lm} (hz : hapQ L r.m = z) (he : endR s most z.s = false) (hd : dueR s every z.s = true) (hb : someB z.bad = false) (hn : 0 ≤ noticeQ z) : recNext L s every most r = .inl ⟨⟨z.s, zerosB, z.gone⟩, z.s, r.back + 1⟩ := by
 unfold recNext
 rw [hz, if_neg (by rw [hb]; simp), if_neg (by rw [he]; simp)]
 dsimp only
 rw [if_pos hd, if_pos hn]
theorem rn_due_go {L : List Loss} {s : St} {every most : Int} {r : Rm} {z : Lm} (hz : hapQ L r.m = z) (he : endR s most z.s = false) (hd : dueR s every z.s = true) (hb : someB z.bad = false) (hn : ¬ 0 ≤ noticeQ z) : recNext L s every most r = .inl ⟨doL z, z.s, r.back⟩ := by
 unfold recNext
 rw [hz, if_neg (by rw [hb]; simp), if_neg (by rw [he]; simp)]
 dsimp only
 rw [if_pos hd, if_neg hn]
theorem rn_note {L : List Loss} {s : St} {every most : Int} {r : Rm} {z : Lm} (hz : hapQ L r.m = z) (he : endR s most z.s = false) (hd : dueR s every z.s = false) (hn : 0 ≤ noticeQ z) : recNext L s every most r = .inl ⟨⟨r.last, zerosB, z.gone⟩, r.last, r.back + 1⟩ := by
 unfold recNext
 rw [hz, if_neg (by rw [he, hd]; simp), if_neg (by rw [he]; simp)]
 dsimp only
 rw [if_pos hn, if_neg (by rw [hd]; simp)]
theorem rn_go {L : List Loss} {s : St} {every most : Int} {r : Rm} {z : Lm} (hz : hapQ L r.m = z) (he : endR s most z.s = false) (hd : dueR s every z.s = false) (hn : ¬ 0 ≤ noticeQ z) : recNext L s every most r = .inl ⟨doL z, r.last, r.back⟩ := by
 unfold recNext
 rw [hz, if_neg (by rw [he, hd]; simp), if_neg (by rw [he]; simp)]
 dsimp only
 rw [if_neg hn, if_neg (by rw [hd]; simp)]
end Go.Q
namespace Go.Proofs.YtnhpcoagkmgdoaaGreat
open Go.RowKit Go.Q Go.Shelf Go.Maps
set_option maxHeartbeats 20000000
set_option maxRecDepth 100000
theorem LinAt.weak {W : World} {m mb : Nat} {L : List Loss} {x : Lm} {ex : Nat → Prop} (h : LinAt W m mb L x) (hex : ∀ q, ex q → W.heap.size ≤ q) : LinAt W m mb L x ex := by
 obtain ⟨a1, a2, a3, c1, c2, c3, hB, i1, i2, i3, hM⟩ := h
 have k : ∀ b, b < W.heap.size → LX m mb ex b → LX m mb (fun _ => False) b := fun b hb h => by
  rcases h with h | h
  ·exact .inl h
  ·have := hex b h; omega
 exact ⟨a1, a2, a3, c1, c2, c3, hB, i1.weaken k, i2.weaken k, i3.weaken k, hM⟩
/-- a box that holds a state, beside a line -/
theorem LinAt.box {W V : World} {m mb D : Nat} {L : List Loss} {x : Lm} {cs : Array Value} (h : LinAt W m mb L x (fun q => q = D)) (K : KpM (fun q => q = D) W V) (hD : W.heap[D]? = some (.cells cs 24 (0, 0))) : LinAt V m mb L x (fun q => q = D) := by
 obtain ⟨a1, a2, a3, c1, c2, c3, hB, i1, i2, i3, hM⟩ := h
 obtain ⟨cs2, h1, _⟩ := hB.blk
 have hM2 := hM
 obtain ⟨f, h2, _⟩ := hM2
 obtain ⟨es, kk, h3⟩ := map_block h2
 refine ⟨a1, a2, a3, c1, c2, c3, hB.kp K (fun e => ?_), i1.kp K (fun b _ h => .inr h), i2.kp K (fun b _ h => .inr h), i3.kp K (fun b _ h => .inr h), hM.kp K (fun e => ?_) (fun b cs fr hb e => ?_)⟩
 ·rw [← e, h1] at hD; cases hD
 ·rw [← e, h3] at hD; cases hD
 ·rw [← e, hb] at hD; cases hD
/-- the state copied is what one goes back to -/
theorem lst_new {W : World} {m mb D : Nat} {t : St} {b1 b2 b3 : Option Addr} {e1 e2 e3 : Nat} {cm : Array Value} {es : Array MapEntry} {kk : Nat} (hm : W.heap[m]? = some (.cells cm 76 (0, 0))) (hmb : W.heap[mb]? = some (.map es kk))
  (hD : W.heap[D]? = some (.cells #[.slice b1 t.store.length e1, .slice b2 t.tape.length e2, .int .i64 t.taken, .slice b3 t.printed.length e3, .int .i64 t.time, .int .i64 t.at_, .int .i64 t.done, .int .i64 t.why] 24 (0, 0))) (h1 : IntsT W b1 t.store) (h2 : IntsT W b2 t.tape) (h3 : IntsT W b3 t.printed) : LstAt m mb W D t := by
 have hno : ∀ b cs fr, W.heap[b]? = some (.cells cs 3 fr) → ¬ LX m mb (fun q => q = D) b := fun b cs fr hb h => by
  rcases h with (h | h) | h
  ·rw [h, hm] at hb; cases hb
  ·rw [h, hmb] at hb; cases hb
  ·rw [h, hD] at hb; cases hb
 exact ⟨b1, b2, b3, e1, e2, e3, hD, IntsF.of_T h1 hno, IntsF.of_T h2 hno, IntsF.of_T h3 hno⟩
theorem sv_inj {a1 a2 a3 b1 b2 b3 : Option Addr} {n1 c1 n2 c2 n3 c3 d1 d2 d3 : Nat} {t1 t2 t3 t4 t5 : Int} (h : sv a1 a2 a3 n1 c1 n2 c2 n3 c3 t1 t2 t3 t4 t5 = sv b1 b2 b3 n1 d1 n2 d2 n3 d3 t1 t2 t3 t4 t5) : a1 = b1 ∧ a2 = b2 ∧ a3 = b3 := by
 simp only [sv, Value.agg.injEq, Array.mk.injEq, List.cons.injEq, Value.slice.injEq] at h
 exact ⟨h.1.1, h.2.1.1, h.2.2.2.1.1⟩
theorem lin_blocks {W : World} {m mb : Nat} {L : List Loss} {x : Lm} {ex : Nat → Prop} (h : LinAt W m mb L x ex) : (∃ cm, W.heap[m]? = some (.cells cm 76 (0, 0))) ∧ ∃ es kk, W.heap[mb]? = some (.map es kk) := by
 obtain ⟨a1, a2, a3, c1, c2, c3, hB, i1, i2, i3, hM⟩ := h
 obtain ⟨cs2, h1, _⟩ := hB.blk
 obtain ⟨f, h2, _⟩ := hM
 exact ⟨⟨cs2, h1⟩, map_block h2⟩
theorem recover_any (v : Value) (s : St) (L : List Loss) (la : Option Addr) (ln lc : Nat) (every most : Int) (w : World) (h : StAt w v s) (hb : StBd s) (hl : L.length = ln) (hI : LossAt w la L) (hLi : ∀ y ∈ L, -9223372036854775808 ≤ y.after ∧ y.after ≤ 9223372036854775807) :
  Calls Tryz.prog 12 #[v, .slice la ln lc, .int .i64 every, .int .i64 most] w fun e w' => ∃ p, RecRel s L every most p ∧ GdRes p w e w' := by
 obtain ⟨a1, a2, a3, c1, c2, c3, rfl, i1, i2, i3⟩ := h
 have hs : StAt w (sv a1 a2 a3 s.store.length c1 s.tape.length c2 s.printed.length c3 s.taken s.time s.at_ s.done s.why) s := ⟨a1, a2, a3, c1, c2, c3, rfl, i1, i2, i3⟩
 have ho := fun W (E : Ext w W) => open_any _ s L la ln lc most W (hs.ext E) hb hl (hI.ext E) hLi
 clear hs hb hl hI hLi i1 i2 i3
 have E0 : Ext w ((w.alloc (.cells #[.slice a1 s.store.length c1, .slice a2 s.tape.length c2, .int .i64 s.taken, .slice a3 s.printed.length c3, .int .i64 s.time, .int .i64 s.at_, .int .i64 s.done, .int .i64 s.why] 24)).alloc (.cells #[.slice none 0 0, .slice none 0 0, .int .i64 0, .slice none 0 0, .int .i64 0, .int .i64 0, .int .i64 0, .int .i64 0] 24)) := ((Ext.refl w).alloc _).alloc _
 have hR : ((w.alloc (.cells #[.slice a1 s.store.length c1, .slice a2 s.tape.length c2, .int .i64 s.taken, .slice a3 s.printed.length c3, .int .i64 s.time, .int .i64 s.at_, .int .i64 s.done, .int .i64 s.why] 24)).alloc (.cells #[.slice none 0 0, .slice none 0 0, .int .i64 0, .slice none 0 0, .int .i64 0, .int .i64 0, .int .i64 0, .int .i64 0] 24)).heap[w.heap.size + 1]? = some (.cells #[.slice none 0 0, .slice none 0 0, .int .i64 0, .slice none 0 0, .int .i64 0, .int .i64 0, .int .i64 0, .int .i64 0] 24 (0, 0)) := by
  have e := heap_alloc_new (w.alloc (.cells #[.slice a1 s.store.length c1, .slice a2 s.tape.length c2, .int .i64 s.taken, .slice a3 s.printed.length c3, .int .i64 s.time, .int .i64 s.at_, .int .i64 s.done, .int .i64 s.why] 24)) (.cells #[.slice none 0 0, .slice none 0 0, .int .i64 0, .slice none 0 0, .int .i64 0, .int .i64 0, .int .i64 0, .int .i64 0] 24)
  rw [World.size_alloc] at e
  exact e
 have hS : ((w.alloc (.cells #[.slice a1 s.store.length c1, .slice a2 s.tape.length c2, .int .i64 s.taken, .slice a3 s.printed.length c3, .int .i64 s.time, .int .i64 s.at_, .int .i64 s.done, .int .i64 s.why] 24)).alloc (.cells #[.slice none 0 0, .slice none 0 0, .int .i64 0, .slice none 0 0, .int .i64 0, .int .i64 0, .int .i64 0, .int .i64 0] 24)).heap[w.heap.size]? = some (.cells #[.slice a1 s.store.length c1, .slice a2 s.tape.length c2, .int .i64 s.taken, .slice a3 s.printed.length c3, .int .i64 s.time, .int .i64 s.at_, .int .i64 s.done, .int .i64 s.why] 24 (0, 0)) := (((Ext.refl _).alloc _).block w.heap.size (by simp)).trans (heap_alloc_new w _)
 obtain ⟨er, her⟩ : ∃ er, guardX s L most = er := ⟨_, rfl⟩
 have HER := Lib.hid her
 clear her
 go_enter Tryz.func12, Tryz.ntmps12
 go_wp2_with fail
 refine (ho _ E0).mono ?_
 rintro e w1 (⟨hx, m, mb, rfl, hm, hmb, hL, E1⟩ | ⟨hx, rfl, E1⟩)
 ·clear ho
  have hsz : w.heap.size + 2 ≤ m ∧ w.heap.size + 2 ≤ mb := by simp at hm hmb; omega
  have HX := Lib.hid hx
  clear hm hmb hx
  cases hA : inB every 1 5000 with
  | false =>
   have hR1 := (E1.block _ (lt_of_block hR)).trans hR
   have q0 := blk_cell hR1 0 (v := .slice none 0 0) rfl
   have q1 := blk_cell hR1 1 (v := .slice none 0 0) rfl
   have q2 := blk_cell hR1 2 (v := .int .i64 0) rfl
   have q3 := blk_cell hR1 3 (v := .slice none 0 0) rfl
   have q4 := blk_cell hR1 4 (v := .int .i64 0) rfl
   have q5 := blk_cell hR1 5 (v := .int .i64 0) rfl
   have q6 := blk_cell hR1 6 (v := .int .i64 0) rfl
   have q7 := blk_cell hR1 7 (v := .int .i64 0) rfl
   have f0 := blk_free hR1 0
   have f1 := blk_free hR1 1
   have f2 := blk_free hR1 2
   have f3 := blk_free hR1 3
   have f4 := blk_free hR1 4
   have f5 := blk_free hR1 5
   have f6 := blk_free hR1 6
   have f7 := blk_free hR1 7
   clear hL hS
   go_wp2_with (go_at_call 36; refine (out10_any _ _ _ _).mono ?_; rintro e w2 ⟨rfl, rfl⟩; obtain ⟨w1, rfl⟩ : ∃ q, q = w2 := ⟨_, rfl⟩; (try simp only [hA, Bool.not_true, Bool.not_false]))
   refine bodyPost_ret (v := .tuple #[.agg #[.slice none 0 0, .slice none 0 0, .int .i64 0, .slice none 0 0, .int .i64 0, .int .i64 0, .int .i64 0, .int .i64 0], .int .i64 0, .int .i64 7]) (by simp [results, Tryz.results12, go_sem, q0, q1, q2, q3, q4, q5, q6, q7]) rfl ?_
   have KR := s8_kp (M := fun q => q = w.heap.size + 1) (w := w1) (b := w.heap.size + 1) (n0 := .slice none 0 0) (n1 := .slice none 0 0) (n2 := .int .i64 0) (n3 := .slice none 0 0) (n4 := .int .i64 0) (n5 := .int .i64 0) (n6 := .int .i64 0) (n7 := .int .i64 0) rfl
   exact ⟨(zst, 0, 7), .inr (.inl ⟨HX.out, hA, rfl⟩), _, rfl, zst_at _, (E0.comp E1).below5 KR (fun b hb => by omega)⟩
  | true =>
   obtain ⟨hv, hLo, hl40, mo, rfl, hmo5⟩ := guard_valid HX.out
   have hmo5b := hmo5
   have hmo : 0 ≤ (mo : Int) := by omega
   have HLo := Lib.hid hLo
   have hev := inB_bd hA
   obtain ⟨ev, rfl⟩ := Int.eq_ofNat_of_zero_le (show (0 : Int) ≤ every by omega)
   have hev1 : 1 ≤ ev := by omega
   clear hev
   have HA := Lib.hid hA
   obtain ⟨x, hx0⟩ := rec_ends (every := (ev : Int)) hLo hmo _ (beginR s) (Nat.lt_succ_self _) (begin_inv hv hmo)
   have HRT0 := Lib.hid hx0
   have HRT0x := Lib.hid hx0
   have HI0 := Lib.hid (begin_inv (L := L) hv hmo)
   have HF0 := Lib.hid (Fit.begin hv)
   have hL0 := Lib.hid hL
   clear hL hv hLo hx0
   go_wp2_with (go_at_call 36; refine (out10_any _ _ _ _).mono ?_; rintro e w2 ⟨rfl, rfl⟩; obtain ⟨w1, rfl⟩ : ∃ q, q = w2 := ⟨_, rfl⟩; (try simp only [hA, Bool.not_true, Bool.not_false]))
   clear hA
   have hst : Calls Tryz.prog 22 #[.pointer (some ⟨m, 0, none⟩)] w1 (fun e W' => ∃ v, e = .returned v ∧ StAtT W' v s ∧ Ext w1 W') := state_any m mb L (beginL s) w1 hL0.out HF0.out.v
   refine hst.mono ?_
   rintro e w2 ⟨v2, rfl, hT, E2⟩
   clear hst
   have HT := Lib.hid hT
   obtain ⟨b1, b2, b3, g1, g2, g3, rfl, u1, u2, u3⟩ := hT
   have HT3 := Lib.hid (And.intro u1 (And.intro u2 u3))
   clear u1 u2 u3
   go_wp2_with fail
   have hDn := heap_alloc_new w2 (.cells #[.slice b1 s.store.length g1, .slice b2 s.tape.length g2, .int .i64 s.taken, .slice b3 s.printed.length g3, .int .i64 s.time, .int .i64 s.at_, .int .i64 s.done, .int .i64 s.why] 24)
   have EX0 : Ext w1 (w2.alloc (.cells #[.slice b1 s.store.length g1, .slice b2 s.tape.length g2, .int .i64 s.taken, .slice b3 s.printed.length g3, .int .i64 s.time, .int .i64 s.at_, .int .i64 s.done, .int .i64 s.why] 24)) := E2.alloc _
   have hDs : w2.heap.size < (w2.alloc (.cells #[.slice b1 s.store.length g1, .slice b2 s.tape.length g2, .int .i64 s.taken, .slice b3 s.printed.length g3, .int .i64 s.time, .int .i64 s.at_, .int .i64 s.done, .int .i64 s.why] 24)).heap.size := by simp
   have hT3 := HT3.out
   have EA : Ext w2 (w2.alloc (.cells #[.slice b1 s.store.length g1, .slice b2 s.tape.length g2, .int .i64 s.taken, .slice b3 s.printed.length g3, .int .i64 s.time, .int .i64 s.at_, .int .i64 s.done, .int .i64 s.why] 24)) := (Ext.refl w2).alloc _
   have hDw := E2.size
   obtain ⟨D, hDq⟩ : ∃ D, w2.heap.size = D := ⟨_, rfl⟩
   obtain ⟨X0, hX0⟩ : ∃ X0, (w2.alloc (.cells #[.slice b1 s.store.length g1, .slice b2 s.tape.length g2, .int .i64 s.taken, .slice b3 s.printed.length g3, .int .i64 s.time, .int .i64 s.at_, .int .i64 s.done, .int .i64 s.why] 24)) = X0 := ⟨_, rfl⟩
   rw [hX0, hDq] at hDn hDs
   rw [hX0] at EX0 EA ⊢
   rw [hDq] at hDw ⊢
   have hLX : LinAt X0 m mb L (beginL s) (fun q => q = D) := ((hL0.out.ext E2).weak (fun q h => by omega)).ext EA
   obtain ⟨⟨cm, hcm⟩, es, kk, hes⟩ := lin_blocks hLX
   have hlst0 : LstAt m mb X0 D s := lst_new hcm hes hDn (hT3.1.ext EA) (hT3.2.1.ext EA) (hT3.2.2.ext EA)
   have hK0 : KpM (fun q => LM m mb q ∨ q = D) w1 X0 := KpM.of_ext EX0
   clear hX0 hDq hDn hT3 EA hcm hes HT HT3 EX0
   have hLM : ∀ q, q < w1.heap.size → w.heap.size + 2 ≤ q ∨ ¬ (LM m mb q ∨ q = D) := fun q hq => by
    by_cases h : w.heap.size + 2 ≤ q
    ·exact .inl h
    ·exact .inr (fun h2 => by rcases h2 with (h2 | h2) | h2 <;> omega)
   have hS1 := (E1.block _ (lt_of_block hS)).trans hS
   have hR1 := (E1.block _ (lt_of_block hR)).trans hR
   have HSR : Hid (∀ Y : World, KpM (fun q => LM m mb q ∨ q = D) w1 Y → Y.heap[w.heap.size]? = some (.cells #[.slice a1 s.store.length c1, .slice a2 s.tape.length c2, .int .i64 s.taken, .slice a3 s.printed.length c3, .int .i64 s.time, .int .i64 s.at_, .int .i64 s.done, .int .i64 s.why] 24 (0, 0)) ∧ Y.heap[w.heap.size + 1]? = some (.cells #[.slice none 0 0, .slice none 0 0, .int .i64 0, .slice none 0 0, .int .i64 0, .int .i64 0, .int .i64 0, .int .i64 0] 24 (0, 0))) := Lib.hid (fun Y K => ⟨(K.block _ (lt_of_block hS1) ((hLM _ (lt_of_block hS1)).resolve_left (by omega))).trans hS1, (K.block _ (lt_of_block hR1) ((hLM _ (lt_of_block hR1)).resolve_left (by omega))).trans hR1⟩)
   clear hLM hS1 hR1
   go_loopg [9] (muR L s (mo : Int) (beginR s)) (fun gg s9 X => ∃ r : Rm, muR L s (mo : Int) r ≤ gg ∧ s9 = .int .i64 (r.back : Int) ∧ LinAt X m mb L r.m (fun q => q = D) ∧ LstAt m mb X D r.last ∧ Hid (RInv L s (mo : Int) r) ∧ Hid (RecTo L s (ev : Int) (mo : Int) r x) ∧ KpM (fun q => LM m mb q ∨ q = D) w1 X ∧ D < X.heap.size)
   case atStart => exact ⟨beginR s, Nat.le_refl _, rfl, hLX, hlst0, HI0, HRT0, hK0, hDs⟩
   case round =>
    clear hLX hlst0 HI0 HRT0 hK0 hDs
    obtain ⟨r, hmu, rfl, hz0, hl0, HI, HRT, hK, hDX⟩ := hrel
    obtain ⟨X, rfl⟩ : ∃ X : World, X = wr := ⟨_, rfl⟩
    have hh := happen_any m mb L r.m X (fun q h => by rw [h]; exact hDX) hz0 HLo.out hl40 HI.out.valid
    go_wp2_with fail
    refine hh.mono ?_
    rintro e w3 ⟨rfl, hz1, K1⟩
    clear hh
    have KY : KpM (fun q => LM m mb q ∨ q = D) w1 w3 := hK.trans (K1.mono fun q h => .inl h)
    have hl1 := hl0.kp (lst_far hl0 hz0) K1
    have hD3 := Nat.lt_of_lt_of_le hDX K1.size
    obtain ⟨z, hzq⟩ : ∃ z, hapQ L r.m = z := ⟨_, rfl⟩
    have HZQ := Lib.hid hzq
    rw [hzq] at hz1
    have HFz : Hid (Fit z) := Lib.hid (by rw [← hzq]; exact Fit.hap ⟨HI.out.valid, HI.out.blen⟩ HLo.out)
    have hzd : z.s.done = r.m.s.done := by rw [← hzq, hap_same]
    have hdd := HI.out.done
    have hsd : 0 ≤ s.done := HF0.out.v.done.1
    obtain ⟨nn, hnn⟩ : ∃ nn : Nat, z.s.done - s.done = (nn : Int) := ⟨(z.s.done - s.done).toNat, by omega⟩
    have hnm : nn ≤ mo := by omega
    have hw1 : IntKind.i64.wrap (z.s.done - s.done) = (nn : Int) := by rw [hnn]; exact IntWalk.i64_in _ (by omega)
    have HNN := Lib.hid hnn
    have hzz := hz1
    obtain ⟨_, _, _, _, _, _, hB, _, _, _, _⟩ := hzz
    have c6 := hB.c6
    have x6 := blk_cell (HSR.out w3 KY).1 6 (v := .int .i64 s.done) rfl
    clear hnn hzd hdd hsd hzq hB hz0 hl0 hK hDX K1
    go_wp2_with fail
    go_quiet (fail)
    have E4 : Ext w3 (w3.drewN nq) := below_drewN (Ext.refl w3) nq
    have hz4 := hz1.ext E4
    have hl4 := hl1.kp (lst_far hl1 hz1) (KpM.of_ext E4)
    have KY4 := KY.trans (KpM.of_ext E4)
    have hD4 := Nat.lt_of_lt_of_le hD3 E4.size
    clear hz1 hl1 KY hD3 c6 x6 E4 hw1
    generalize w3.drewN nq = w4 at *
    obtain ⟨eb, heb⟩ : ∃ eb, endR s (mo : Int) z.s = eb := ⟨_, rfl⟩
    obtain ⟨db, hdb⟩ : ∃ db, dueR s (ev : Int) z.s = db := ⟨_, rfl⟩
    have HEB := Lib.hid heb
    have HDB := Lib.hid hdb
    clear heb hdb
    go_wp2_with fail
    go_cut [14, 15] (fun x14 x15 wx => x14 = .bool eb ∧ x15 = .bool db ∧ Ext w4 wx)
    case first =>
     have hzz := hz4
     obtain ⟨_, _, _, _, _, _, hB, _, _, _, _⟩ := hzz
     have c7 := hB.c7
     clear hB
     have hrm : (nn : Int).tmod (ev : Int) = ((nn % ev : Nat) : Int) := by rw [Int.tmod_eq_emod_of_nonneg (by omega)]; rfl
     have hev0 : ¬ (ev : Int) = 0 := by omega
     have hDq : ∀ b : Bool, (((nn % ev : Nat) : Int) == 0) = b → b = db := fun b h => by
      rw [← HDB.out, ← h]
      unfold dueR
      rw [HNN.out]
      rfl
     obtain ⟨rr, hrr⟩ : ∃ rr, nn % ev = rr := ⟨_, rfl⟩
     rw [hrr] at hrm hDq
     clear hrr
     have HDq := Lib.hid hDq
     clear hDq
     by_cases hN : nn = mo
     ·subst hN
      have HE2 : Hid (eb = true) := Lib.hid (by rw [← HEB.out]; unfold endR; rw [HNN.out]; simp)
      go_quiet (fail)
      go_wp2_with fail
      go_meet
      refine ⟨?_, ?_, below_drewN (Ext.refl w4) _⟩
      ·rw [HE2.out]
      ·exact congrArg Value.bool (HDq.out _ rfl)
     ·have hNz : ¬ (nn : Int) = (mo : Int) := by omega
      have hNb : ((nn : Int) == (mo : Int)) = false := by simpa using hNz
      have HE2 : Hid (eb = (z.s.why != 0)) := Lib.hid (by rw [← HEB.out]; unfold endR; rw [HNN.out]; simp [hNb])
      go_quiet (fail)
      go_wp2_with fail
      go_meet
      refine ⟨?_, ?_, below_drewN (Ext.refl w4) _⟩
      ·rw [HE2.out]
      ·exact congrArg Value.bool (HDq.out _ rfl)
    case rest =>
     obtain ⟨rfl, rfl, E5⟩ := hcut
     have hz5 := hz4.ext E5
     have hl5 := hl4.kp (lst_far hl4 hz4) (KpM.of_ext E5)
     have KY5 := KY4.trans (KpM.of_ext E5)
     have hD5 := Nat.lt_of_lt_of_le hD4 E5.size
     clear hz4 hl4 KY4 hD4 E5
     clear w4
     have hcb : ∀ (b : Bool), someB z.bad = b → Calls Tryz.prog 38 #[.slice (some ⟨m, 8, none⟩) 128 128, .bool true] wc fun e w' => e = .returned (.bool b) ∧ w' = wc := fun b hb => by
      obtain ⟨_, _, _, _, _, _, hB, _, _, _, _⟩ := hz5
      rw [← hb]
      exact contains_bad m z.bad wc HFz.out.b hB.cb
     have HCB := Lib.hid hcb
     clear hcb
     cases eb with
     | true =>
      cases db with
      | true =>
       cases hsb : someB z.bad with
       | true =>
        have hcb := HCB.out true hsb
        have HSB := Lib.hid hsb
        clear hsb HCB
        go_wp2_with fail
        refine hcb.mono ?_
        rintro e w6 ⟨rfl, rfl⟩
        obtain ⟨wc, rfl⟩ : ∃ q, q = w6 := ⟨_, rfl⟩
        clear hcb
        obtain ⟨t, ht⟩ : ∃ t, r.last = t := ⟨_, rfl⟩
        have HNX : Hid (recNext L s (ev : Int) (mo : Int) r = .inl ⟨⟨t, zerosB, z.gone⟩, t, r.back + 1⟩) := Lib.hid (by rw [← ht]; exact rn_bad HZQ.out (by rw [HEB.out, HDB.out]; rfl) HSB.out)
        have hlD := hl5
        rw [ht] at hlD
        clear ht
        have hnD := lst_far hlD hz5
        have hlD2 := Lib.hid hlD
        obtain ⟨b1, b2, b3, g1, g2, g3, hD, j1, j2, j3⟩ := hlD
        have hzz := hz5
        obtain ⟨_, _, _, _, _, _, hB, _, _, _, _⟩ := hzz
        have d0 := blk_cell hD 0 (v := .slice b1 t.store.length g1) rfl
        have d1 := blk_cell hD 1 (v := .slice b2 t.tape.length g2) rfl
        have d2 := blk_cell hD 2 (v := .int .i64 t.taken) rfl
        have d3 := blk_cell hD 3 (v := .slice b3 t.printed.length g3) rfl
        have d4 := blk_cell hD 4 (v := .int .i64 t.time) rfl
        have d5 := blk_cell hD 5 (v := .int .i64 t.at_) rfl
        have d6 := blk_cell hD 6 (v := .int .i64 t.done) rfl
        have d7 := blk_cell hD 7 (v := .int .i64 t.why) rfl
        have k0 := hB.c0
        have k1 := hB.c1
        have k2 := hB.c2
        have k3 := hB.c3
        have k4 := hB.c4
        have k5 := hB.c5
        have k6 := hB.c6
        have k7 := hB.c7
        have f0 := hB.free 0
        have f1 := hB.free 1
        have f2 := hB.free 2
        have f3 := hB.free 3
        have f4 := hB.free 4
        have f5 := hB.free 5
        have f6 := hB.free 6
        have f7 := hB.free 7
        have h8 := hB.set8 (.slice b1 t.store.length g1) (.slice b2 t.tape.length g2) (.int .i64 t.taken) (.slice b3 t.printed.length g3) (.int .i64 t.time) (.int .i64 t.at_) (.int .i64 t.done) (.int .i64 t.why)
        unfold S8 at h8
        have HTH : Hid (World.there ((((((((wc.setCell ⟨m, 0, none⟩ (.slice b1 t.store.length g1)).setCell ⟨m, 1, none⟩ (.slice b2 t.tape.length g2)).setCell ⟨m, 2, none⟩ (.int .i64 t.taken)).setCell ⟨m, 3, none⟩ (.slice b3 t.printed.length g3)).setCell ⟨m, 4, none⟩ (.int .i64 t.time)).setCell ⟨m, 5, none⟩ (.int .i64 t.at_)).setCell ⟨m, 6, none⟩ (.int .i64 t.done)).setCell ⟨m, 7, none⟩ (.int .i64 t.why)) m 8 Tryz.zeroCells73.size) := Lib.hid (by
         intro j hj
         rw [zero_arr] at hj
         have hj2 : j < 128 := by simpa using hj
         exact ⟨by rw [h8.cb j hj2]; rfl, h8.free (8 + j)⟩)
        have HBK := Lib.hid (lin_back (V := (((((((((wc.setCell ⟨m, 0, none⟩ (.slice b1 t.store.length g1)).setCell ⟨m, 1, none⟩ (.slice b2 t.tape.length g2)).setCell ⟨m, 2, none⟩ (.int .i64 t.taken)).setCell ⟨m, 3, none⟩ (.slice b3 t.printed.length g3)).setCell ⟨m, 4, none⟩ (.int .i64 t.time)).setCell ⟨m, 5, none⟩ (.int .i64 t.at_)).setCell ⟨m, 6, none⟩ (.int .i64 t.done)).setCell ⟨m, 7, none⟩ (.int .i64 t.why))).setCells m 8 Tryz.zeroCells73.toList) (e1 := g1) (e2 := g2) (e3 := g3) hz5 j1 j2 j3 (by rw [zero_arr]; rfl))
        clear h8 hB j1 j2 j3
        have hb41 : r.back ≤ 40 := by have := HI.out.back; omega
        have hwb : IntKind.i64.wrap ((r.back : Int) + 1) = (r.back : Int) + 1 := IntWalk.i64_in _ (by omega)
        go_upto_region 17 with fail
        refine wp_region_lit ?_
        refine wpList_plain rfl fun K hK => ?_
        go_simp
        refine hK _ _ ?_
        clear hK
        (try simp only [Act.put, List.setIfInBounds_toArray, List.set_cons_zero, List.set_cons_succ])
        refine wpList_plain rfl fun K hK => ?_
        go_simp
        refine hK _ _ ?_
        clear hK
        (try simp only [Act.put, List.setIfInBounds_toArray, List.set_cons_zero, List.set_cons_succ])
        refine wpList_plain rfl fun K hK => ?_
        go_simp
        refine hK _ _ ?_
        clear hK
        (try simp only [Act.put, List.setIfInBounds_toArray, List.set_cons_zero, List.set_cons_succ])
        refine wpList_plain rfl fun K hK => ?_
        go_simp
        refine hK _ _ ?_
        clear hK
        (try simp only [Act.put, List.setIfInBounds_toArray, List.set_cons_zero, List.set_cons_succ])
        refine wpList_plain rfl fun K hK => ?_
        go_simp
        refine hK _ _ ?_
        clear hK
        (try simp only [Act.put, List.setIfInBounds_toArray, List.set_cons_zero, List.set_cons_succ])
        refine wpList_plain rfl fun K hK => ?_
        go_simp
        refine hK _ _ ?_
        clear hK
        (try simp only [Act.put, List.setIfInBounds_toArray, List.set_cons_zero, List.set_cons_succ])
        refine wpList_plain rfl fun K hK => ?_
        go_simp
        refine hK _ _ ?_
        clear hK
        (try simp only [Act.put, List.setIfInBounds_toArray, List.set_cons_zero, List.set_cons_succ])
        refine wpList_plain rfl fun K hK => ?_
        go_simp
        refine hK _ _ ?_
        clear hK
        (try simp only [Act.put, List.setIfInBounds_toArray, List.set_cons_zero, List.set_cons_succ])
        refine wpList_plain rfl fun K hK => ?_
        go_simp
        refine hK _ _ ?_
        clear hK
        (try simp only [Act.put, List.setIfInBounds_toArray, List.set_cons_zero, List.set_cons_succ])
        refine wpList_store_mid rfl 73 (.tmp 97) (.tmp 93) rfl m 8 Tryz.zeroCells73 rfl rfl HTH.out (by kernel_rfl) (by kernel_rfl) ?_
        refine wpList_nil ?_
        clear d0 d1 d2 d3 d4 d5 d6 d7 k0 k1 k2 k3 k4 k5 k6 k7 f0 f1 f2 f3 f4 f5 f6 f7
        obtain ⟨hlin, hkk⟩ := HBK.out
        generalize (((((((((wc.setCell ⟨m, 0, none⟩ (.slice b1 t.store.length g1)).setCell ⟨m, 1, none⟩ (.slice b2 t.tape.length g2)).setCell ⟨m, 2, none⟩ (.int .i64 t.taken)).setCell ⟨m, 3, none⟩ (.slice b3 t.printed.length g3)).setCell ⟨m, 4, none⟩ (.int .i64 t.time)).setCell ⟨m, 5, none⟩ (.int .i64 t.at_)).setCell ⟨m, 6, none⟩ (.int .i64 t.done)).setCell ⟨m, 7, none⟩ (.int .i64 t.why))).setCells m 8 Tryz.zeroCells73.toList = V at hlin hkk ⊢
        obtain ⟨hI2, hmu2⟩ := rec_inv HLo.out hmo HI.out HNX.out
        go_wp2
        go_roundg (muR L s (mo : Int) ⟨⟨t, zerosB, z.gone⟩, t, r.back + 1⟩)
        case measure => omega
        case rel => exact ⟨⟨⟨t, zerosB, z.gone⟩, t, r.back + 1⟩, Nat.le_refl _, (by simp), hlin, hlD2.out.kp hnD hkk, Lib.hid hI2, Lib.hid (HRT.out.next HNX.out), KY5.trans (hkk.mono fun q h => .inl h), Nat.lt_of_lt_of_le hD5 hkk.size⟩
       | false =>
        have hcb := HCB.out false hsb
        have HSB := Lib.hid hsb
        clear hsb HCB
        go_wp2_with fail
        refine hcb.mono ?_
        rintro e w6 ⟨rfl, rfl⟩
        obtain ⟨wc, rfl⟩ : ∃ q, q = w6 := ⟨_, rfl⟩
        clear hcb
        have hst := state_any m mb L z wc hz5 HFz.out.v
        go_wp2_with fail
        refine hst.mono ?_
        rintro e w7 ⟨v7, rfl, hT7, E7⟩
        clear hst
        have HT7 := Lib.hid hT7
        obtain ⟨p1, p2, p3, d1, d2, d3, rfl, _, _, _⟩ := hT7
        obtain ⟨zz, hzz2⟩ : ∃ zz, z.s = zz := ⟨_, rfl⟩
        have HZZ := Lib.hid hzz2
        rw [hzz2] at HT7 ⊢
        clear hzz2
        have hR3 := (E7.block _ (lt_of_block (HSR.out wc KY5).2)).trans (HSR.out wc KY5).2
        have q0 := blk_cell hR3 0 (v := .slice none 0 0) rfl
        have q1 := blk_cell hR3 1 (v := .slice none 0 0) rfl
        have q2 := blk_cell hR3 2 (v := .int .i64 0) rfl
        have q3 := blk_cell hR3 3 (v := .slice none 0 0) rfl
        have q4 := blk_cell hR3 4 (v := .int .i64 0) rfl
        have q5 := blk_cell hR3 5 (v := .int .i64 0) rfl
        have q6 := blk_cell hR3 6 (v := .int .i64 0) rfl
        have q7 := blk_cell hR3 7 (v := .int .i64 0) rfl
        have f0 := blk_free hR3 0
        have f1 := blk_free hR3 1
        have f2 := blk_free hR3 2
        have f3 := blk_free hR3 3
        have f4 := blk_free hR3 4
        have f5 := blk_free hR3 5
        have f6 := blk_free hR3 6
        have f7 := blk_free hR3 7
        have HfinE := Lib.hid (HRT.out.fin (rn_end HZQ.out HEB.out HSB.out))
        have EW : Ext w w7 := ((E0.comp E1).below5 KY5 (by have := (E0.comp E1).size; rintro b ((h | h) | h) <;> omega)).comp E7
        go_wp2
        refine bodyPost_ret (v := .tuple #[(.agg #[.slice p1 zz.store.length d1, .slice p2 zz.tape.length d2, .int .i64 zz.taken, .slice p3 zz.printed.length d3, .int .i64 zz.time, .int .i64 zz.at_, .int .i64 zz.done, .int .i64 zz.why]), .int .i64 (r.back : Int), .int .i64 0]) (by simp [results, Tryz.results12, go_sem, q0, q1, q2, q3, q4, q5, q6, q7]) rfl ?_
        have hfin := stT_set HT7.out ⟨_, hR3⟩ (n0 := .slice p1 zz.store.length d1) (n1 := .slice p2 zz.tape.length d2) (n2 := .int .i64 zz.taken) (n3 := .slice p3 zz.printed.length d3) (n4 := .int .i64 zz.time) (n5 := .int .i64 zz.at_) (n6 := .int .i64 zz.done) (n7 := .int .i64 zz.why)
        have KR := s8_kp (M := fun q => q = w.heap.size + 1) (w := w7) (b := w.heap.size + 1) (n0 := .slice p1 zz.store.length d1) (n1 := .slice p2 zz.tape.length d2) (n2 := .int .i64 zz.taken) (n3 := .slice p3 zz.printed.length d3) (n4 := .int .i64 zz.time) (n5 := .int .i64 zz.at_) (n6 := .int .i64 zz.done) (n7 := .int .i64 zz.why) rfl
        refine ⟨(zz, (r.back : Int), 0), .inr (.inr ⟨HX.out, HA.out, x, HRT0x.out, ?_⟩), _, rfl, hfin, EW.below5 KR (fun b hb => by omega)⟩
        rw [HfinE.out, HZZ.out]
      | false =>
       cases hsb : someB z.bad with
       | true =>
        have hcb := HCB.out true hsb
        have HSB := Lib.hid hsb
        clear hsb HCB
        go_wp2_with fail
        refine hcb.mono ?_
        rintro e w6 ⟨rfl, rfl⟩
        obtain ⟨wc, rfl⟩ : ∃ q, q = w6 := ⟨_, rfl⟩
        clear hcb
        obtain ⟨t, ht⟩ : ∃ t, r.last = t := ⟨_, rfl⟩
        have HNX : Hid (recNext L s (ev : Int) (mo : Int) r = .inl ⟨⟨t, zerosB, z.gone⟩, t, r.back + 1⟩) := Lib.hid (by rw [← ht]; exact rn_bad HZQ.out (by rw [HEB.out, HDB.out]; rfl) HSB.out)
        have hlD := hl5
        rw [ht] at hlD
        clear ht
        have hnD := lst_far hlD hz5
        have hlD2 := Lib.hid hlD
        obtain ⟨b1, b2, b3, g1, g2, g3, hD, j1, j2, j3⟩ := hlD
        have hzz := hz5
        obtain ⟨_, _, _, _, _, _, hB, _, _, _, _⟩ := hzz
        have d0 := blk_cell hD 0 (v := .slice b1 t.store.length g1) rfl
        have d1 := blk_cell hD 1 (v := .slice b2 t.tape.length g2) rfl
        have d2 := blk_cell hD 2 (v := .int .i64 t.taken) rfl
        have d3 := blk_cell hD 3 (v := .slice b3 t.printed.length g3) rfl
        have d4 := blk_cell hD 4 (v := .int .i64 t.time) rfl
        have d5 := blk_cell hD 5 (v := .int .i64 t.at_) rfl
        have d6 := blk_cell hD 6 (v := .int .i64 t.done) rfl
        have d7 := blk_cell hD 7 (v := .int .i64 t.why) rfl
        have k0 := hB.c0
        have k1 := hB.c1
        have k2 := hB.c2
        have k3 := hB.c3
        have k4 := hB.c4
        have k5 := hB.c5
        have k6 := hB.c6
        have k7 := hB.c7
        have f0 := hB.free 0
        have f1 := hB.free 1
        have f2 := hB.free 2
        have f3 := hB.free 3
        have f4 := hB.free 4
        have f5 := hB.free 5
        have f6 := hB.free 6
        have f7 := hB.free 7
        have h8 := hB.set8 (.slice b1 t.store.length g1) (.slice b2 t.tape.length g2) (.int .i64 t.taken) (.slice b3 t.printed.length g3) (.int .i64 t.time) (.int .i64 t.at_) (.int .i64 t.done) (.int .i64 t.why)
        unfold S8 at h8
        have HTH : Hid (World.there ((((((((wc.setCell ⟨m, 0, none⟩ (.slice b1 t.store.length g1)).setCell ⟨m, 1, none⟩ (.slice b2 t.tape.length g2)).setCell ⟨m, 2, none⟩ (.int .i64 t.taken)).setCell ⟨m, 3, none⟩ (.slice b3 t.printed.length g3)).setCell ⟨m, 4, none⟩ (.int .i64 t.time)).setCell ⟨m, 5, none⟩ (.int .i64 t.at_)).setCell ⟨m, 6, none⟩ (.int .i64 t.done)).setCell ⟨m, 7, none⟩ (.int .i64 t.why)) m 8 Tryz.zeroCells73.size) := Lib.hid (by
         intro j hj
         rw [zero_arr] at hj
         have hj2 : j < 128 := by simpa using hj
         exact ⟨by rw [h8.cb j hj2]; rfl, h8.free (8 + j)⟩)
        have HBK := Lib.hid (lin_back (V := (((((((((wc.setCell ⟨m, 0, none⟩ (.slice b1 t.store.length g1)).setCell ⟨m, 1, none⟩ (.slice b2 t.tape.length g2)).setCell ⟨m, 2, none⟩ (.int .i64 t.taken)).setCell ⟨m, 3, none⟩ (.slice b3 t.printed.length g3)).setCell ⟨m, 4, none⟩ (.int .i64 t.time)).setCell ⟨m, 5, none⟩ (.int .i64 t.at_)).setCell ⟨m, 6, none⟩ (.int .i64 t.done)).setCell ⟨m, 7, none⟩ (.int .i64 t.why))).setCells m 8 Tryz.zeroCells73.toList) (e1 := g1) (e2 := g2) (e3 := g3) hz5 j1 j2 j3 (by rw [zero_arr]; rfl))
        clear h8 hB j1 j2 j3
        have hb41 : r.back ≤ 40 := by have := HI.out.back; omega
        have hwb : IntKind.i64.wrap ((r.back : Int) + 1) = (r.back : Int) + 1 := IntWalk.i64_in _ (by omega)
        go_upto_region 17 with fail
        refine wp_region_lit ?_
        refine wpList_plain rfl fun K hK => ?_
        go_simp
        refine hK _ _ ?_
        clear hK
        (try simp only [Act.put, List.setIfInBounds_toArray, List.set_cons_zero, List.set_cons_succ])
        refine wpList_plain rfl fun K hK => ?_
        go_simp
        refine hK _ _ ?_
        clear hK
        (try simp only [Act.put, List.setIfInBounds_toArray, List.set_cons_zero, List.set_cons_succ])
        refine wpList_plain rfl fun K hK => ?_
        go_simp
        refine hK _ _ ?_
        clear hK
        (try simp only [Act.put, List.setIfInBounds_toArray, List.set_cons_zero, List.set_cons_succ])
        refine wpList_plain rfl fun K hK => ?_
        go_simp
        refine hK _ _ ?_
        clear hK
        (try simp only [Act.put, List.setIfInBounds_toArray, List.set_cons_zero, List.set_cons_succ])
        refine wpList_plain rfl fun K hK => ?_
        go_simp
        refine hK _ _ ?_
        clear hK
        (try simp only [Act.put, List.setIfInBounds_toArray, List.set_cons_zero, List.set_cons_succ])
        refine wpList_plain rfl fun K hK => ?_
        go_simp
        refine hK _ _ ?_
        clear hK
        (try simp only [Act.put, List.setIfInBounds_toArray, List.set_cons_zero, List.set_cons_succ])
        refine wpList_plain rfl fun K hK => ?_
        go_simp
        refine hK _ _ ?_
        clear hK
        (try simp only [Act.put, List.setIfInBounds_toArray, List.set_cons_zero, List.set_cons_succ])
        refine wpList_plain rfl fun K hK => ?_
        go_simp
        refine hK _ _ ?_
        clear hK
        (try simp only [Act.put, List.setIfInBounds_toArray, List.set_cons_zero, List.set_cons_succ])
        refine wpList_plain rfl fun K hK => ?_
        go_simp
        refine hK _ _ ?_
        clear hK
        (try simp only [Act.put, List.setIfInBounds_toArray, List.set_cons_zero, List.set_cons_succ])
        refine wpList_store_mid rfl 73 (.tmp 97) (.tmp 93) rfl m 8 Tryz.zeroCells73 rfl rfl HTH.out (by kernel_rfl) (by kernel_rfl) ?_
        refine wpList_nil ?_
        clear d0 d1 d2 d3 d4 d5 d6 d7 k0 k1 k2 k3 k4 k5 k6 k7 f0 f1 f2 f3 f4 f5 f6 f7
        obtain ⟨hlin, hkk⟩ := HBK.out
        generalize (((((((((wc.setCell ⟨m, 0, none⟩ (.slice b1 t.store.length g1)).setCell ⟨m, 1, none⟩ (.slice b2 t.tape.length g2)).setCell ⟨m, 2, none⟩ (.int .i64 t.taken)).setCell ⟨m, 3, none⟩ (.slice b3 t.printed.length g3)).setCell ⟨m, 4, none⟩ (.int .i64 t.time)).setCell ⟨m, 5, none⟩ (.int .i64 t.at_)).setCell ⟨m, 6, none⟩ (.int .i64 t.done)).setCell ⟨m, 7, none⟩ (.int .i64 t.why))).setCells m 8 Tryz.zeroCells73.toList = V at hlin hkk ⊢
        obtain ⟨hI2, hmu2⟩ := rec_inv HLo.out hmo HI.out HNX.out
        go_wp2
        go_roundg (muR L s (mo : Int) ⟨⟨t, zerosB, z.gone⟩, t, r.back + 1⟩)
        case measure => omega
        case rel => exact ⟨⟨⟨t, zerosB, z.gone⟩, t, r.back + 1⟩, Nat.le_refl _, (by simp), hlin, hlD2.out.kp hnD hkk, Lib.hid hI2, Lib.hid (HRT.out.next HNX.out), KY5.trans (hkk.mono fun q h => .inl h), Nat.lt_of_lt_of_le hD5 hkk.size⟩
       | false =>
        have hcb := HCB.out false hsb
        have HSB := Lib.hid hsb
        clear hsb HCB
        go_wp2_with fail
        refine hcb.mono ?_
        rintro e w6 ⟨rfl, rfl⟩
        obtain ⟨wc, rfl⟩ : ∃ q, q = w6 := ⟨_, rfl⟩
        clear hcb
        have hst := state_any m mb L z wc hz5 HFz.out.v
        go_wp2_with fail
        refine hst.mono ?_
        rintro e w7 ⟨v7, rfl, hT7, E7⟩
        clear hst
        have HT7 := Lib.hid hT7
        obtain ⟨p1, p2, p3, d1, d2, d3, rfl, _, _, _⟩ := hT7
        obtain ⟨zz, hzz2⟩ : ∃ zz, z.s = zz := ⟨_, rfl⟩
        have HZZ := Lib.hid hzz2
        rw [hzz2] at HT7 ⊢
        clear hzz2
        have hR3 := (E7.block _ (lt_of_block (HSR.out wc KY5).2)).trans (HSR.out wc KY5).2
        have q0 := blk_cell hR3 0 (v := .slice none 0 0) rfl
        have q1 := blk_cell hR3 1 (v := .slice none 0 0) rfl
        have q2 := blk_cell hR3 2 (v := .int .i64 0) rfl
        have q3 := blk_cell hR3 3 (v := .slice none 0 0) rfl
        have q4 := blk_cell hR3 4 (v := .int .i64 0) rfl
        have q5 := blk_cell hR3 5 (v := .int .i64 0) rfl
        have q6 := blk_cell hR3 6 (v := .int .i64 0) rfl
        have q7 := blk_cell hR3 7 (v := .int .i64 0) rfl
        have f0 := blk_free hR3 0
        have f1 := blk_free hR3 1
        have f2 := blk_free hR3 2
        have f3 := blk_free hR3 3
        have f4 := blk_free hR3 4
        have f5 := blk_free hR3 5
        have f6 := blk_free hR3 6
        have f7 := blk_free hR3 7
        have HfinE := Lib.hid (HRT.out.fin (rn_end HZQ.out HEB.out HSB.out))
        have EW : Ext w w7 := ((E0.comp E1).below5 KY5 (by have := (E0.comp E1).size; rintro b ((h | h) | h) <;> omega)).comp E7
        go_wp2
        refine bodyPost_ret (v := .tuple #[(.agg #[.slice p1 zz.store.length d1, .slice p2 zz.tape.length d2, .int .i64 zz.taken, .slice p3 zz.printed.length d3, .int .i64 zz.time, .int .i64 zz.at_, .int .i64 zz.done, .int .i64 zz.why]), .int .i64 (r.back : Int), .int .i64 0]) (by simp [results, Tryz.results12, go_sem, q0, q1, q2, q3, q4, q5, q6, q7]) rfl ?_
        have hfin := stT_set HT7.out ⟨_, hR3⟩ (n0 := .slice p1 zz.store.length d1) (n1 := .slice p2 zz.tape.length d2) (n2 := .int .i64 zz.taken) (n3 := .slice p3 zz.printed.length d3) (n4 := .int .i64 zz.time) (n5 := .int .i64 zz.at_) (n6 := .int .i64 zz.done) (n7 := .int .i64 zz.why)
        have KR := s8_kp (M := fun q => q = w.heap.size + 1) (w := w7) (b := w.heap.size + 1) (n0 := .slice p1 zz.store.length d1) (n1 := .slice p2 zz.tape.length d2) (n2 := .int .i64 zz.taken) (n3 := .slice p3 zz.printed.length d3) (n4 := .int .i64 zz.time) (n5 := .int .i64 zz.at_) (n6 := .int .i64 zz.done) (n7 := .int .i64 zz.why) rfl
        refine ⟨(zz, (r.back : Int), 0), .inr (.inr ⟨HX.out, HA.out, x, HRT0x.out, ?_⟩), _, rfl, hfin, EW.below5 KR (fun b hb => by omega)⟩
        rw [HfinE.out, HZZ.out]
     | false =>
      cases db with
      | true =>
       cases hsb : someB z.bad with
       | true =>
        have hcb := HCB.out true hsb
        have HSB := Lib.hid hsb
        clear hsb HCB
        go_wp2_with fail
        refine hcb.mono ?_
        rintro e w6 ⟨rfl, rfl⟩
        obtain ⟨wc, rfl⟩ : ∃ q, q = w6 := ⟨_, rfl⟩
        clear hcb
        obtain ⟨t, ht⟩ : ∃ t, r.last = t := ⟨_, rfl⟩
        have HNX : Hid (recNext L s (ev : Int) (mo : Int) r = .inl ⟨⟨t, zerosB, z.gone⟩, t, r.back + 1⟩) := Lib.hid (by rw [← ht]; exact rn_bad HZQ.out (by rw [HEB.out, HDB.out]; rfl) HSB.out)
        have hlD := hl5
        rw [ht] at hlD
        clear ht
        have hnD := lst_far hlD hz5
        have hlD2 := Lib.hid hlD
        obtain ⟨b1, b2, b3, g1, g2, g3, hD, j1, j2, j3⟩ := hlD
        have hzz := hz5
        obtain ⟨_, _, _, _, _, _, hB, _, _, _, _⟩ := hzz
        have d0 := blk_cell hD 0 (v := .slice b1 t.store.length g1) rfl
        have d1 := blk_cell hD 1 (v := .slice b2 t.tape.length g2) rfl
        have d2 := blk_cell hD 2 (v := .int .i64 t.taken) rfl
        have d3 := blk_cell hD 3 (v := .slice b3 t.printed.length g3) rfl
        have d4 := blk_cell hD 4 (v := .int .i64 t.time) rfl
        have d5 := blk_cell hD 5 (v := .int .i64 t.at_) rfl
        have d6 := blk_cell hD 6 (v := .int .i64 t.done) rfl
        have d7 := blk_cell hD 7 (v := .int .i64 t.why) rfl
        have k0 := hB.c0
        have k1 := hB.c1
        have k2 := hB.c2
        have k3 := hB.c3
        have k4 := hB.c4
        have k5 := hB.c5
        have k6 := hB.c6
        have k7 := hB.c7
        have f0 := hB.free 0
        have f1 := hB.free 1
        have f2 := hB.free 2
        have f3 := hB.free 3
        have f4 := hB.free 4
        have f5 := hB.free 5
        have f6 := hB.free 6
        have f7 := hB.free 7
        have h8 := hB.set8 (.slice b1 t.store.length g1) (.slice b2 t.tape.length g2) (.int .i64 t.taken) (.slice b3 t.printed.length g3) (.int .i64 t.time) (.int .i64 t.at_) (.int .i64 t.done) (.int .i64 t.why)
        unfold S8 at h8
        have HTH : Hid (World.there ((((((((wc.setCell ⟨m, 0, none⟩ (.slice b1 t.store.length g1)).setCell ⟨m, 1, none⟩ (.slice b2 t.tape.length g2)).setCell ⟨m, 2, none⟩ (.int .i64 t.taken)).setCell ⟨m, 3, none⟩ (.slice b3 t.printed.length g3)).setCell ⟨m, 4, none⟩ (.int .i64 t.time)).setCell ⟨m, 5, none⟩ (.int .i64 t.at_)).setCell ⟨m, 6, none⟩ (.int .i64 t.done)).setCell ⟨m, 7, none⟩ (.int .i64 t.why)) m 8 Tryz.zeroCells73.size) := Lib.hid (by
         intro j hj
         rw [zero_arr] at hj
         have hj2 : j < 128 := by simpa using hj
         exact ⟨by rw [h8.cb j hj2]; rfl, h8.free (8 + j)⟩)
        have HBK := Lib.hid (lin_back (V := (((((((((wc.setCell ⟨m, 0, none⟩ (.slice b1 t.store.length g1)).setCell ⟨m, 1, none⟩ (.slice b2 t.tape.length g2)).setCell ⟨m, 2, none⟩ (.int .i64 t.taken)).setCell ⟨m, 3, none⟩ (.slice b3 t.printed.length g3)).setCell ⟨m, 4, none⟩ (.int .i64 t.time)).setCell ⟨m, 5, none⟩ (.int .i64 t.at_)).setCell ⟨m, 6, none⟩ (.int .i64 t.done)).setCell ⟨m, 7, none⟩ (.int .i64 t.why))).setCells m 8 Tryz.zeroCells73.toList) (e1 := g1) (e2 := g2) (e3 := g3) hz5 j1 j2 j3 (by rw [zero_arr]; rfl))
        clear h8 hB j1 j2 j3
        have hb41 : r.back ≤ 40 := by have := HI.out.back; omega
        have hwb : IntKind.i64.wrap ((r.back : Int) + 1) = (r.back : Int) + 1 := IntWalk.i64_in _ (by omega)
        go_upto_region 17 with fail
        refine wp_region_lit ?_
        refine wpList_plain rfl fun K hK => ?_
        go_simp
        refine hK _ _ ?_
        clear hK
        (try simp only [Act.put, List.setIfInBounds_toArray, List.set_cons_zero, List.set_cons_succ])
        refine wpList_plain rfl fun K hK => ?_
        go_simp
        refine hK _ _ ?_
        clear hK
        (try simp only [Act.put, List.setIfInBounds_toArray, List.set_cons_zero, List.set_cons_succ])
        refine wpList_plain rfl fun K hK => ?_
        go_simp
        refine hK _ _ ?_
        clear hK
        (try simp only [Act.put, List.setIfInBounds_toArray, List.set_cons_zero, List.set_cons_succ])
        refine wpList_plain rfl fun K hK => ?_
        go_simp
        refine hK _ _ ?_
        clear hK
        (try simp only [Act.put, List.setIfInBounds_toArray, List.set_cons_zero, List.set_cons_succ])
        refine wpList_plain rfl fun K hK => ?_
        go_simp
        refine hK _ _ ?_
        clear hK
        (try simp only [Act.put, List.setIfInBounds_toArray, List.set_cons_zero, List.set_cons_succ])
        refine wpList_plain rfl fun K hK => ?_
        go_simp
        refine hK _ _ ?_
        clear hK
        (try simp only [Act.put, List.setIfInBounds_toArray, List.set_cons_zero, List.set_cons_succ])
        refine wpList_plain rfl fun K hK => ?_
        go_simp
        refine hK _ _ ?_
        clear hK
        (try simp only [Act.put, List.setIfInBounds_toArray, List.set_cons_zero, List.set_cons_succ])
        refine wpList_plain rfl fun K hK => ?_
        go_simp
        refine hK _ _ ?_
        clear hK
        (try simp only [Act.put, List.setIfInBounds_toArray, List.set_cons_zero, List.set_cons_succ])
        refine wpList_plain rfl fun K hK => ?_
        go_simp
        refine hK _ _ ?_
        clear hK
        (try simp only [Act.put, List.setIfInBounds_toArray, List.set_cons_zero, List.set_cons_succ])
        refine wpList_store_mid rfl 73 (.tmp 97) (.tmp 93) rfl m 8 Tryz.zeroCells73 rfl rfl HTH.out (by kernel_rfl) (by kernel_rfl) ?_
        refine wpList_nil ?_
        clear d0 d1 d2 d3 d4 d5 d6 d7 k0 k1 k2 k3 k4 k5 k6 k7 f0 f1 f2 f3 f4 f5 f6 f7
        obtain ⟨hlin, hkk⟩ := HBK.out
        generalize (((((((((wc.setCell ⟨m, 0, none⟩ (.slice b1 t.store.length g1)).setCell ⟨m, 1, none⟩ (.slice b2 t.tape.length g2)).setCell ⟨m, 2, none⟩ (.int .i64 t.taken)).setCell ⟨m, 3, none⟩ (.slice b3 t.printed.length g3)).setCell ⟨m, 4, none⟩ (.int .i64 t.time)).setCell ⟨m, 5, none⟩ (.int .i64 t.at_)).setCell ⟨m, 6, none⟩ (.int .i64 t.done)).setCell ⟨m, 7, none⟩ (.int .i64 t.why))).setCells m 8 Tryz.zeroCells73.toList = V at hlin hkk ⊢
        obtain ⟨hI2, hmu2⟩ := rec_inv HLo.out hmo HI.out HNX.out
        go_wp2
        go_roundg (muR L s (mo : Int) ⟨⟨t, zerosB, z.gone⟩, t, r.back + 1⟩)
        case measure => omega
        case rel => exact ⟨⟨⟨t, zerosB, z.gone⟩, t, r.back + 1⟩, Nat.le_refl _, (by simp), hlin, hlD2.out.kp hnD hkk, Lib.hid hI2, Lib.hid (HRT.out.next HNX.out), KY5.trans (hkk.mono fun q h => .inl h), Nat.lt_of_lt_of_le hD5 hkk.size⟩
       | false =>
        have hcb := HCB.out false hsb
        have HSB := Lib.hid hsb
        clear hsb HCB
        go_wp2_with fail
        refine hcb.mono ?_
        rintro e w6 ⟨rfl, rfl⟩
        obtain ⟨wc, rfl⟩ : ∃ q, q = w6 := ⟨_, rfl⟩
        clear hcb
        have hst := state_any m mb L z wc hz5 HFz.out.v
        go_wp2_with fail
        refine hst.mono ?_
        rintro e w7 ⟨v7, rfl, hT7, E7⟩
        clear hst
        have HT7 := Lib.hid hT7
        obtain ⟨p1, p2, p3, d1, d2, d3, rfl, _, _, _⟩ := hT7
        have hz7 := hz5.ext E7
        have hl7 := hl5.kp (lst_far hl5 hz5) (KpM.of_ext E7)
        have KY7 := KY5.trans (KpM.of_ext E7)
        have hD7 := Nat.lt_of_lt_of_le hD5 E7.size
        obtain ⟨y1, y2, y3, x1, x2, x3, hDc, _, _, _⟩ := hl7
        have dc0 := blk_cell hDc 0 (v := .slice y1 r.last.store.length x1) rfl
        have dc1 := blk_cell hDc 1 (v := .slice y2 r.last.tape.length x2) rfl
        have dc2 := blk_cell hDc 2 (v := .int .i64 r.last.taken) rfl
        have dc3 := blk_cell hDc 3 (v := .slice y3 r.last.printed.length x3) rfl
        have dc4 := blk_cell hDc 4 (v := .int .i64 r.last.time) rfl
        have dc5 := blk_cell hDc 5 (v := .int .i64 r.last.at_) rfl
        have dc6 := blk_cell hDc 6 (v := .int .i64 r.last.done) rfl
        have dc7 := blk_cell hDc 7 (v := .int .i64 r.last.why) rfl
        have f0 := blk_free hDc 0
        have f1 := blk_free hDc 1
        have f2 := blk_free hDc 2
        have f3 := blk_free hDc 3
        have f4 := blk_free hDc 4
        have f5 := blk_free hDc 5
        have f6 := blk_free hDc 6
        have f7 := blk_free hDc 7
        have g8 := s8_block (n0 := .slice p1 z.s.store.length d1) (n1 := .slice p2 z.s.tape.length d2) (n2 := .int .i64 z.s.taken) (n3 := .slice p3 z.s.printed.length d3) (n4 := .int .i64 z.s.time) (n5 := .int .i64 z.s.at_) (n6 := .int .i64 z.s.done) (n7 := .int .i64 z.s.why) hDc
        have k8 := s8_kp (M := fun q => q = D) (w := w7) (b := D) (n0 := .slice p1 z.s.store.length d1) (n1 := .slice p2 z.s.tape.length d2) (n2 := .int .i64 z.s.taken) (n3 := .slice p3 z.s.printed.length d3) (n4 := .int .i64 z.s.time) (n5 := .int .i64 z.s.at_) (n6 := .int .i64 z.s.done) (n7 := .int .i64 z.s.why) rfl
        unfold S8 at g8 k8
        have HG8 := Lib.hid g8
        have HK8 := Lib.hid k8
        have HDc := Lib.hid hDc
        clear g8 k8 hDc
        go_upto_region 16 with fail
        have g8 := HG8.out
        have k8 := HK8.out
        clear HG8 HK8
        generalize ((((((((w7.setCell ⟨D, 0, none⟩ (.slice p1 z.s.store.length d1)).setCell ⟨D, 1, none⟩ (.slice p2 z.s.tape.length d2)).setCell ⟨D, 2, none⟩ (.int .i64 z.s.taken)).setCell ⟨D, 3, none⟩ (.slice p3 z.s.printed.length d3)).setCell ⟨D, 4, none⟩ (.int .i64 z.s.time)).setCell ⟨D, 5, none⟩ (.int .i64 z.s.at_)).setCell ⟨D, 6, none⟩ (.int .i64 z.s.done)).setCell ⟨D, 7, none⟩ (.int .i64 z.s.why)) = w8 at g8 k8 ⊢
        clear dc0 dc1 dc2 dc3 dc4 dc5 dc6 dc7 f0 f1 f2 f3 f4 f5 f6 f7
        have hz8 := hz7.box k8 HDc.out
        obtain ⟨⟨cm, hcm⟩, es, kk, hes⟩ := lin_blocks hz8
        have hT7 := HT7.out
        obtain ⟨p1b, p2b, p3b, d1b, d2b, d3b, hvv, u1, u2, u3⟩ := hT7
        have hno : ∀ b cs fr, w7.heap[b]? = some (.cells cs 3 fr) → ¬ b = D := fun b cs fr hb e => by
         rw [e, HDc.out] at hb
         cases hb
        obtain ⟨rfl, rfl, rfl⟩ := sv_inj hvv
        have hl8 : LstAt m mb w8 D z.s := lst_new hcm hes g8 (u1.kp k8 hno) (u2.kp k8 hno) (u3.kp k8 hno)
        have KY8 := KY7.trans (k8.mono fun q h => .inr h)
        have hD8 := Nat.lt_of_lt_of_le hD7 k8.size
        clear g8 k8 hcm hes hno hz7 KY7 hD7 hz5 hl5 KY5 hD5
        go_wp2_with fail
        have hs := lstep_sharp m mb L z w8 (fun q h => by rw [h]; exact hD8) hz8 HFz.out.v
        rcases notice_bd HFz.out.v with hnb | ⟨q, hnb⟩
        ·rw [hnb, if_neg (by decide)] at hs
         have HNX : Hid (recNext L s (ev : Int) (mo : Int) r = .inl ⟨doL z, z.s, r.back⟩) := Lib.hid (by exact rn_due_go HZQ.out HEB.out HDB.out HSB.out (by rw [hnb]; decide))
         clear hnb
         go_wp2_with fail
         refine hs.mono ?_
         rintro e y5 ⟨rfl, hzn, K5⟩
         clear hs
         have hln := LstAt.kp hl8 (lst_far hl8 hz8) K5
         obtain ⟨hI2, hmu2⟩ := rec_inv HLo.out hmo HI.out HNX.out
         go_wp2
         go_roundg (muR L s (mo : Int) ⟨doL z, z.s, r.back⟩)
         case measure => omega
         case rel => exact ⟨⟨doL z, z.s, r.back⟩, Nat.le_refl _, rfl, hzn, hln, Lib.hid hI2, Lib.hid (HRT.out.next HNX.out), KY8.trans (K5.mono fun q h => .inl h), Nat.lt_of_lt_of_le hD8 K5.size⟩
        ·rw [hnb, if_pos (by omega)] at hs
         have HNB := Lib.hid hnb
         have hqq : (0 : Int) ≤ (q : Int) := by omega
         clear hnb
         go_wp2_with fail
         refine hs.mono ?_
         rintro e y5 ⟨rfl, hzn, K5⟩
         clear hs
         have hln := LstAt.kp hl8 (lst_far hl8 hz8) K5
         have KYn := KY8.trans (K5.mono fun q h => .inl h)
         have hDn := Nat.lt_of_lt_of_le hD8 K5.size
         obtain ⟨t, ht⟩ : ∃ t, z.s = t := ⟨_, rfl⟩
         have HNX : Hid (recNext L s (ev : Int) (mo : Int) r = .inl ⟨⟨t, zerosB, z.gone⟩, t, r.back + 1⟩) := Lib.hid (by rw [← ht]; exact rn_due_note HZQ.out HEB.out HDB.out HSB.out (by rw [HNB.out]; omega))
         have hlD := hln
         rw [ht] at hlD
         clear ht
         have hnD := lst_far hlD hzn
         have hlD2 := Lib.hid hlD
         obtain ⟨b1, b2, b3, g1, g2, g3, hD, j1, j2, j3⟩ := hlD
         have hzz := hzn
         obtain ⟨_, _, _, _, _, _, hB, _, _, _, _⟩ := hzz
         have d0 := blk_cell hD 0 (v := .slice b1 t.store.length g1) rfl
         have d1 := blk_cell hD 1 (v := .slice b2 t.tape.length g2) rfl
         have d2 := blk_cell hD 2 (v := .int .i64 t.taken) rfl
         have d3 := blk_cell hD 3 (v := .slice b3 t.printed.length g3) rfl
         have d4 := blk_cell hD 4 (v := .int .i64 t.time) rfl
         have d5 := blk_cell hD 5 (v := .int .i64 t.at_) rfl
         have d6 := blk_cell hD 6 (v := .int .i64 t.done) rfl
         have d7 := blk_cell hD 7 (v := .int .i64 t.why) rfl
         have k0 := hB.c0
         have k1 := hB.c1
         have k2 := hB.c2
         have k3 := hB.c3
         have k4 := hB.c4
         have k5 := hB.c5
         have k6 := hB.c6
         have k7 := hB.c7
         have f0 := hB.free 0
         have f1 := hB.free 1
         have f2 := hB.free 2
         have f3 := hB.free 3
         have f4 := hB.free 4
         have f5 := hB.free 5
         have f6 := hB.free 6
         have f7 := hB.free 7
         have h8 := hB.set8 (.slice b1 t.store.length g1) (.slice b2 t.tape.length g2) (.int .i64 t.taken) (.slice b3 t.printed.length g3) (.int .i64 t.time) (.int .i64 t.at_) (.int .i64 t.done) (.int .i64 t.why)
         unfold S8 at h8
         have HTH : Hid (World.there ((((((((y5.setCell ⟨m, 0, none⟩ (.slice b1 t.store.length g1)).setCell ⟨m, 1, none⟩ (.slice b2 t.tape.length g2)).setCell ⟨m, 2, none⟩ (.int .i64 t.taken)).setCell ⟨m, 3, none⟩ (.slice b3 t.printed.length g3)).setCell ⟨m, 4, none⟩ (.int .i64 t.time)).setCell ⟨m, 5, none⟩ (.int .i64 t.at_)).setCell ⟨m, 6, none⟩ (.int .i64 t.done)).setCell ⟨m, 7, none⟩ (.int .i64 t.why)) m 8 Tryz.zeroCells73.size) := Lib.hid (by
          intro j hj
          rw [zero_arr] at hj
          have hj2 : j < 128 := by simpa using hj
          exact ⟨by rw [h8.cb j hj2]; rfl, h8.free (8 + j)⟩)
         have HBK := Lib.hid (lin_back (V := (((((((((y5.setCell ⟨m, 0, none⟩ (.slice b1 t.store.length g1)).setCell ⟨m, 1, none⟩ (.slice b2 t.tape.length g2)).setCell ⟨m, 2, none⟩ (.int .i64 t.taken)).setCell ⟨m, 3, none⟩ (.slice b3 t.printed.length g3)).setCell ⟨m, 4, none⟩ (.int .i64 t.time)).setCell ⟨m, 5, none⟩ (.int .i64 t.at_)).setCell ⟨m, 6, none⟩ (.int .i64 t.done)).setCell ⟨m, 7, none⟩ (.int .i64 t.why))).setCells m 8 Tryz.zeroCells73.toList) (e1 := g1) (e2 := g2) (e3 := g3) hzn j1 j2 j3 (by rw [zero_arr]; rfl))
         clear h8 hB j1 j2 j3
         have hb41 : r.back ≤ 40 := by have := HI.out.back; omega
         have hwb : IntKind.i64.wrap ((r.back : Int) + 1) = (r.back : Int) + 1 := IntWalk.i64_in _ (by omega)
         go_upto_region 17 with fail
         refine wp_region_lit ?_
         refine wpList_plain rfl fun K hK => ?_
         go_simp
         refine hK _ _ ?_
         clear hK
         (try simp only [Act.put, List.setIfInBounds_toArray, List.set_cons_zero, List.set_cons_succ])
         refine wpList_plain rfl fun K hK => ?_
         go_simp
         refine hK _ _ ?_
         clear hK
         (try simp only [Act.put, List.setIfInBounds_toArray, List.set_cons_zero, List.set_cons_succ])
         refine wpList_plain rfl fun K hK => ?_
         go_simp
         refine hK _ _ ?_
         clear hK
         (try simp only [Act.put, List.setIfInBounds_toArray, List.set_cons_zero, List.set_cons_succ])
         refine wpList_plain rfl fun K hK => ?_
         go_simp
         refine hK _ _ ?_
         clear hK
         (try simp only [Act.put, List.setIfInBounds_toArray, List.set_cons_zero, List.set_cons_succ])
         refine wpList_plain rfl fun K hK => ?_
         go_simp
         refine hK _ _ ?_
         clear hK
         (try simp only [Act.put, List.setIfInBounds_toArray, List.set_cons_zero, List.set_cons_succ])
         refine wpList_plain rfl fun K hK => ?_
         go_simp
         refine hK _ _ ?_
         clear hK
         (try simp only [Act.put, List.setIfInBounds_toArray, List.set_cons_zero, List.set_cons_succ])
         refine wpList_plain rfl fun K hK => ?_
         go_simp
         refine hK _ _ ?_
         clear hK
         (try simp only [Act.put, List.setIfInBounds_toArray, List.set_cons_zero, List.set_cons_succ])
         refine wpList_plain rfl fun K hK => ?_
         go_simp
         refine hK _ _ ?_
         clear hK
         (try simp only [Act.put, List.setIfInBounds_toArray, List.set_cons_zero, List.set_cons_succ])
         refine wpList_plain rfl fun K hK => ?_
         go_simp
         refine hK _ _ ?_
         clear hK
         (try simp only [Act.put, List.setIfInBounds_toArray, List.set_cons_zero, List.set_cons_succ])
         refine wpList_store_mid rfl 73 (.tmp 97) (.tmp 93) rfl m 8 Tryz.zeroCells73 rfl rfl HTH.out (by kernel_rfl) (by kernel_rfl) ?_
         refine wpList_nil ?_
         clear d0 d1 d2 d3 d4 d5 d6 d7 k0 k1 k2 k3 k4 k5 k6 k7 f0 f1 f2 f3 f4 f5 f6 f7
         obtain ⟨hlin, hkk⟩ := HBK.out
         generalize (((((((((y5.setCell ⟨m, 0, none⟩ (.slice b1 t.store.length g1)).setCell ⟨m, 1, none⟩ (.slice b2 t.tape.length g2)).setCell ⟨m, 2, none⟩ (.int .i64 t.taken)).setCell ⟨m, 3, none⟩ (.slice b3 t.printed.length g3)).setCell ⟨m, 4, none⟩ (.int .i64 t.time)).setCell ⟨m, 5, none⟩ (.int .i64 t.at_)).setCell ⟨m, 6, none⟩ (.int .i64 t.done)).setCell ⟨m, 7, none⟩ (.int .i64 t.why))).setCells m 8 Tryz.zeroCells73.toList = V at hlin hkk ⊢
         obtain ⟨hI2, hmu2⟩ := rec_inv HLo.out hmo HI.out HNX.out
         go_wp2
         go_roundg (muR L s (mo : Int) ⟨⟨t, zerosB, z.gone⟩, t, r.back + 1⟩)
         case measure => omega
         case rel => exact ⟨⟨⟨t, zerosB, z.gone⟩, t, r.back + 1⟩, Nat.le_refl _, (by simp), hlin, hlD2.out.kp hnD hkk, Lib.hid hI2, Lib.hid (HRT.out.next HNX.out), KYn.trans (hkk.mono fun q h => .inl h), Nat.lt_of_lt_of_le hDn hkk.size⟩
      | false =>
       go_wp2_with fail
       have hs := lstep_sharp m mb L z wc (fun q h => by rw [h]; exact hD5) hz5 HFz.out.v
       rcases notice_bd HFz.out.v with hnb | ⟨q, hnb⟩
       ·rw [hnb, if_neg (by decide)] at hs
        have HNX : Hid (recNext L s (ev : Int) (mo : Int) r = .inl ⟨doL z, r.last, r.back⟩) := Lib.hid (by exact rn_go HZQ.out HEB.out HDB.out (by rw [hnb]; decide))
        clear hnb
        go_wp2_with fail
        refine hs.mono ?_
        rintro e y5 ⟨rfl, hzn, K5⟩
        clear hs
        have hln := LstAt.kp hl5 (lst_far hl5 hz5) K5
        obtain ⟨hI2, hmu2⟩ := rec_inv HLo.out hmo HI.out HNX.out
        go_wp2
        go_roundg (muR L s (mo : Int) ⟨doL z, r.last, r.back⟩)
        case measure => omega
        case rel => exact ⟨⟨doL z, r.last, r.back⟩, Nat.le_refl _, rfl, hzn, hln, Lib.hid hI2, Lib.hid (HRT.out.next HNX.out), KY5.trans (K5.mono fun q h => .inl h), Nat.lt_of_lt_of_le hD5 K5.size⟩
       ·rw [hnb, if_pos (by omega)] at hs
        have HNB := Lib.hid hnb
        have hqq : (0 : Int) ≤ (q : Int) := by omega
        clear hnb
        go_wp2_with fail
        refine hs.mono ?_
        rintro e y5 ⟨rfl, hzn, K5⟩
        clear hs
        have hln := LstAt.kp hl5 (lst_far hl5 hz5) K5
        have KYn := KY5.trans (K5.mono fun q h => .inl h)
        have hDn := Nat.lt_of_lt_of_le hD5 K5.size
        obtain ⟨t, ht⟩ : ∃ t, r.last = t := ⟨_, rfl⟩
        have HNX : Hid (recNext L s (ev : Int) (mo : Int) r = .inl ⟨⟨t, zerosB, z.gone⟩, t, r.back + 1⟩) := Lib.hid (by rw [← ht]; exact rn_note HZQ.out HEB.out HDB.out (by rw [HNB.out]; omega))
        have hlD := hln
        rw [ht] at hlD
        clear ht
        have hnD := lst_far hlD hzn
        have hlD2 := Lib.hid hlD
        obtain ⟨b1, b2, b3, g1, g2, g3, hD, j1, j2, j3⟩ := hlD
        have hzz := hzn
        obtain ⟨_, _, _, _, _, _, hB, _, _, _, _⟩ := hzz
        have d0 := blk_cell hD 0 (v := .slice b1 t.store.length g1) rfl
        have d1 := blk_cell hD 1 (v := .slice b2 t.tape.length g2) rfl
        have d2 := blk_cell hD 2 (v := .int .i64 t.taken) rfl
        have d3 := blk_cell hD 3 (v := .slice b3 t.printed.length g3) rfl
        have d4 := blk_cell hD 4 (v := .int .i64 t.time) rfl
        have d5 := blk_cell hD 5 (v := .int .i64 t.at_) rfl
        have d6 := blk_cell hD 6 (v := .int .i64 t.done) rfl
        have d7 := blk_cell hD 7 (v := .int .i64 t.why) rfl
        have k0 := hB.c0
        have k1 := hB.c1
        have k2 := hB.c2
        have k3 := hB.c3
        have k4 := hB.c4
        have k5 := hB.c5
        have k6 := hB.c6
        have k7 := hB.c7
        have f0 := hB.free 0
        have f1 := hB.free 1
        have f2 := hB.free 2
        have f3 := hB.free 3
        have f4 := hB.free 4
        have f5 := hB.free 5
        have f6 := hB.free 6
        have f7 := hB.free 7
        have h8 := hB.set8 (.slice b1 t.store.length g1) (.slice b2 t.tape.length g2) (.int .i64 t.taken) (.slice b3 t.printed.length g3) (.int .i64 t.time) (.int .i64 t.at_) (.int .i64 t.done) (.int .i64 t.why)
        unfold S8 at h8
        have HTH : Hid (World.there ((((((((y5.setCell ⟨m, 0, none⟩ (.slice b1 t.store.length g1)).setCell ⟨m, 1, none⟩ (.slice b2 t.tape.length g2)).setCell ⟨m, 2, none⟩ (.int .i64 t.taken)).setCell ⟨m, 3, none⟩ (.slice b3 t.printed.length g3)).setCell ⟨m, 4, none⟩ (.int .i64 t.time)).setCell ⟨m, 5, none⟩ (.int .i64 t.at_)).setCell ⟨m, 6, none⟩ (.int .i64 t.done)).setCell ⟨m, 7, none⟩ (.int .i64 t.why)) m 8 Tryz.zeroCells73.size) := Lib.hid (by
         intro j hj
         rw [zero_arr] at hj
         have hj2 : j < 128 := by simpa using hj
         exact ⟨by rw [h8.cb j hj2]; rfl, h8.free (8 + j)⟩)
        have HBK := Lib.hid (lin_back (V := (((((((((y5.setCell ⟨m, 0, none⟩ (.slice b1 t.store.length g1)).setCell ⟨m, 1, none⟩ (.slice b2 t.tape.length g2)).setCell ⟨m, 2, none⟩ (.int .i64 t.taken)).setCell ⟨m, 3, none⟩ (.slice b3 t.printed.length g3)).setCell ⟨m, 4, none⟩ (.int .i64 t.time)).setCell ⟨m, 5, none⟩ (.int .i64 t.at_)).setCell ⟨m, 6, none⟩ (.int .i64 t.done)).setCell ⟨m, 7, none⟩ (.int .i64 t.why))).setCells m 8 Tryz.zeroCells73.toList) (e1 := g1) (e2 := g2) (e3 := g3) hzn j1 j2 j3 (by rw [zero_arr]; rfl))
        clear h8 hB j1 j2 j3
        have hb41 : r.back ≤ 40 := by have := HI.out.back; omega
        have hwb : IntKind.i64.wrap ((r.back : Int) + 1) = (r.back : Int) + 1 := IntWalk.i64_in _ (by omega)
        go_upto_region 17 with fail
        refine wp_region_lit ?_
        refine wpList_plain rfl fun K hK => ?_
        go_simp
        refine hK _ _ ?_
        clear hK
        (try simp only [Act.put, List.setIfInBounds_toArray, List.set_cons_zero, List.set_cons_succ])
        refine wpList_plain rfl fun K hK => ?_
        go_simp
        refine hK _ _ ?_
        clear hK
        (try simp only [Act.put, List.setIfInBounds_toArray, List.set_cons_zero, List.set_cons_succ])
        refine wpList_plain rfl fun K hK => ?_
        go_simp
        refine hK _ _ ?_
        clear hK
        (try simp only [Act.put, List.setIfInBounds_toArray, List.set_cons_zero, List.set_cons_succ])
        refine wpList_plain rfl fun K hK => ?_
        go_simp
        refine hK _ _ ?_
        clear hK
        (try simp only [Act.put, List.setIfInBounds_toArray, List.set_cons_zero, List.set_cons_succ])
        refine wpList_plain rfl fun K hK => ?_
        go_simp
        refine hK _ _ ?_
        clear hK
        (try simp only [Act.put, List.setIfInBounds_toArray, List.set_cons_zero, List.set_cons_succ])
        refine wpList_plain rfl fun K hK => ?_
        go_simp
        refine hK _ _ ?_
        clear hK
        (try simp only [Act.put, List.setIfInBounds_toArray, List.set_cons_zero, List.set_cons_succ])
        refine wpList_plain rfl fun K hK => ?_
        go_simp
        refine hK _ _ ?_
        clear hK
        (try simp only [Act.put, List.setIfInBounds_toArray, List.set_cons_zero, List.set_cons_succ])
        refine wpList_plain rfl fun K hK => ?_
        go_simp
        refine hK _ _ ?_
        clear hK
        (try simp only [Act.put, List.setIfInBounds_toArray, List.set_cons_zero, List.set_cons_succ])
        refine wpList_plain rfl fun K hK => ?_
        go_simp
        refine hK _ _ ?_
        clear hK
        (try simp only [Act.put, List.setIfInBounds_toArray, List.set_cons_zero, List.set_cons_succ])
        refine wpList_store_mid rfl 73 (.tmp 97) (.tmp 93) rfl m 8 Tryz.zeroCells73 rfl rfl HTH.out (by kernel_rfl) (by kernel_rfl) ?_
        refine wpList_nil ?_
        clear d0 d1 d2 d3 d4 d5 d6 d7 k0 k1 k2 k3 k4 k5 k6 k7 f0 f1 f2 f3 f4 f5 f6 f7
        obtain ⟨hlin, hkk⟩ := HBK.out
        generalize (((((((((y5.setCell ⟨m, 0, none⟩ (.slice b1 t.store.length g1)).setCell ⟨m, 1, none⟩ (.slice b2 t.tape.length g2)).setCell ⟨m, 2, none⟩ (.int .i64 t.taken)).setCell ⟨m, 3, none⟩ (.slice b3 t.printed.length g3)).setCell ⟨m, 4, none⟩ (.int .i64 t.time)).setCell ⟨m, 5, none⟩ (.int .i64 t.at_)).setCell ⟨m, 6, none⟩ (.int .i64 t.done)).setCell ⟨m, 7, none⟩ (.int .i64 t.why))).setCells m 8 Tryz.zeroCells73.toList = V at hlin hkk ⊢
        obtain ⟨hI2, hmu2⟩ := rec_inv HLo.out hmo HI.out HNX.out
        go_wp2
        go_roundg (muR L s (mo : Int) ⟨⟨t, zerosB, z.gone⟩, t, r.back + 1⟩)
        case measure => omega
        case rel => exact ⟨⟨⟨t, zerosB, z.gone⟩, t, r.back + 1⟩, Nat.le_refl _, (by simp), hlin, hlD2.out.kp hnD hkk, Lib.hid hI2, Lib.hid (HRT.out.next HNX.out), KYn.trans (hkk.mono fun q h => .inl h), Nat.lt_of_lt_of_le hDn hkk.size⟩
 ·clear ho
  have hR1 := (E1.block _ (lt_of_block hR)).trans hR
  have q0 := blk_cell hR1 0 (v := .slice none 0 0) rfl
  have q1 := blk_cell hR1 1 (v := .slice none 0 0) rfl
  have q2 := blk_cell hR1 2 (v := .int .i64 0) rfl
  have q3 := blk_cell hR1 3 (v := .slice none 0 0) rfl
  have q4 := blk_cell hR1 4 (v := .int .i64 0) rfl
  have q5 := blk_cell hR1 5 (v := .int .i64 0) rfl
  have q6 := blk_cell hR1 6 (v := .int .i64 0) rfl
  have q7 := blk_cell hR1 7 (v := .int .i64 0) rfl
  have f0 := blk_free hR1 0
  have f1 := blk_free hR1 1
  have f2 := blk_free hR1 2
  have f3 := blk_free hR1 3
  have f4 := blk_free hR1 4
  have f5 := blk_free hR1 5
  have f6 := blk_free hR1 6
  have f7 := blk_free hR1 7
  rw [HER.out] at hx
  have hne : (er != 0) = true := by simpa using hx
  rw [HER.out]
  go_wp2
  refine bodyPost_ret (v := .tuple #[.agg #[.slice none 0 0, .slice none 0 0, .int .i64 0, .slice none 0 0, .int .i64 0, .int .i64 0, .int .i64 0, .int .i64 0], .int .i64 0, .int .i64 er]) (by simp [results, Tryz.results12, go_sem, q0, q1, q2, q3, q4, q5, q6, q7]) rfl ?_
  have KR := s8_kp (M := fun q => q = w.heap.size + 1) (w := w1) (b := w.heap.size + 1) (n0 := .slice none 0 0) (n1 := .slice none 0 0) (n2 := .int .i64 0) (n3 := .slice none 0 0) (n4 := .int .i64 0) (n5 := .int .i64 0) (n6 := .int .i64 0) (n7 := .int .i64 0) rfl
  exact ⟨(zst, 0, er), .inl ⟨by rw [HER.out]; exact hx, by rw [HER.out]⟩, _, rfl, zst_at _, (E0.comp E1).below5 KR (fun b hb => by omega)⟩
end Go.Proofs.YtnhpcoagkmgdoaaGreat

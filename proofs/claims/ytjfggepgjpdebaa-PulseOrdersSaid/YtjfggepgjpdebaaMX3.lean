import Derived.Test.YtjfggepgjpdebaaML0
import Derived.Test.YtjfggepgjpdebaaMX2
set_option linter.unusedVariables false
set_option linter.unusedSimpArgs false
/- Contracts: pulse's Minors and Order of valid states: the lists that they return lie in blocks of integers. -/
namespace Go.Proofs.Ytjfggepgjpdebaa
open Go.RowKit Go.Q
/-- a list that lies in a block of integers -/
def IntsT (W : World) (a : Option Addr) (xs : List Int) : Prop :=
  xs = [] ∨ ∃ b off cs fr, a = some ⟨b, off, none⟩ ∧ W.heap[b]? = some (.cells cs 3 fr) ∧ ∀ i, i < xs.length → W.cell? ⟨b, off + i, none⟩ = some (.int .i64 (xs[i]?.getD 0))
section
variable {W W' : World} {a : Option Addr} {xs : List Int}
theorem IntsT.at_ (h : IntsT W a xs) : IntsAt W a xs := h.imp id fun ⟨b, off, _, _, ha, hb, hc⟩ => ⟨b, off, ha, lt_of_block hb, hc⟩
theorem IntsT.ext (h : IntsT W a xs) (E : Ext W W') : IntsT W' a xs := h.imp id fun ⟨b, off, cs, fr, ha, hb, hc⟩ => ⟨b, off, cs, fr, ha, (E.block b (lt_of_block hb)).trans hb, fun i hi => (E.cell (p := ⟨b, off + i, none⟩) (lt_of_block hb)).trans (hc i hi)⟩
theorem IntsT.set (h : IntsT W a xs) {B : Nat} {cs : Array Value} {T : TypeId} (hB : Blk W B cs T) (hT : T ≠ 3) (i : Nat) (v : Value) : IntsT (W.setCell ⟨B, i, none⟩ v) a xs :=
  h.imp id fun ⟨b, off, ds, fr, ha, hb, hc⟩ => by
    have hne : b ≠ B := fun e => by
      rw [e] at hb
      have := Eq.trans (Eq.symm hb) hB
      simp at this
      exact hT this.2.1.symm
    have hk : (W.setCell ⟨B, i, none⟩ v).heap[b]? = W.heap[b]? := Below.heap_setCell _ _ _ _ hne
    exact ⟨b, off, ds, fr, ha, hk.trans hb, fun j hj => (World.cell?_of_block (w := W) hk).trans (hc j hj)⟩
theorem own_intsT {nb n c : Nat} (h : W.ownsRow nb 3 1 (.slice a n c) n (iv xs)) : IntsT W a xs := by
  have hi := own_ints h
  rcases hi with hi | ⟨b, off, ha, hb, hc⟩
  · exact .inl hi
  · have hq : (Value.slice a n c).ownBlock = some b := by rw [ha]; rfl
    rcases h.2 with ⟨e1, _⟩ | ⟨g, cap, cur, e1, _, hg, _⟩
    · rw [e1] at hq; cases hq
    · rw [e1] at hq
      obtain rfl : g = b := by simpa [Value.ownBlock] using hq
      exact .inr ⟨g, off, cur, _, ha, hg, hc⟩
end
def PuAtT (w : World) (v : Value) (s : Pu) : Prop := ∃ a1 a2 a3 c1 c2 c3, v = psv a1 a2 a3 s.store.length c1 s.tape.length c2 s.printed.length c3 s ∧ IntsT w a1 s.store ∧ IntsT w a2 s.tape ∧ IntsT w a3 s.printed
def StAtT (w : World) (v : Value) (s : St) : Prop := ∃ a1 a2 a3 c1 c2 c3, v = sv a1 a2 a3 s.store.length c1 s.tape.length c2 s.printed.length c3 s.taken s.time s.at_ s.done s.why ∧ IntsT w a1 s.store ∧ IntsT w a2 s.tape ∧ IntsT w a3 s.printed
def PuResT (p : Pu × Int) (w : World) (e : Ending) (w' : World) : Prop := ∃ v, e = .returned (.tuple #[v, .int .i64 p.2]) ∧ PuAtT w' v p.1 ∧ Ext w w'
def StResT (p : St × Int) (w : World) (e : Ending) (w' : World) : Prop := ∃ v, e = .returned (.tuple #[v, .int .i64 p.2]) ∧ StAtT w' v p.1 ∧ Ext w w'
theorem Ctl.puT {w : World} {nb m g1 c1 : Nat} {tv pv : Value} {s : Pu} {o : Ord} (h : Ctl w nb m g1 c1 tv pv s o) : ∃ a2 c2 a3 c3, tv = .slice a2 s.tape.length c2 ∧ pv = .slice a3 s.printed.length c3 ∧ PuAtT w (psv (some ⟨g1, 0, none⟩) a2 a3 128 c1 s.tape.length c2 s.printed.length c3 s) s := by
  obtain ⟨a2, c2, hv, hI⟩ := h.tp
  obtain ⟨a3, c3, hp⟩ := h.paper
  obtain ⟨cur, hg, _⟩ := h.st
  refine ⟨a2, c2, a3, c3, hv, hp, some ⟨g1, 0, none⟩, a2, a3, c1, c2, c3, by rw [h.len], .inr ⟨g1, 0, cur, _, rfl, hg, fun i hi => ?_⟩, ?_, ?_⟩
  · rw [Nat.zero_add]; exact h.wc i (by have := h.len; omega)
  · rcases hI with hI | ⟨b, off, ha, ⟨cu, hcu⟩, _, _, _, hc⟩
    · exact .inl hI
    · exact .inr ⟨b, off, cu, _, ha, hcu, hc⟩
  · have := h.prow
    rw [hp] at this
    exact own_intsT this
section
variable {nb m g1 c1 : Nat} {o : Ord}
theorem minors_finT {w w1 w3 wr : World} {A : Obj} {a2 a3 : Option Addr} {c2 c3 : Nat} {t : Pu} (E1 : Ext ((w.alloc A).alloc (.cells #[.slice none 0 0, .slice none 0 0, .int .i64 0, .slice none 0 0, .int .i64 0, .int .i64 0, .int .i64 0, .int .i64 0, .int .i64 0, .int .i64 0, .int .i64 0, .int .i64 0, .int .i64 0, .int .i64 0] 41)) w1) (E3 : Ext w1 w3) (hB : Below w1.heap.size w3 wr)
    (M : Ctl wr nb m g1 c1 (.slice a2 t.tape.length c2) (.slice a3 t.printed.length c3) t o) :
    PuResT (t, 0) w (.returned (.tuple #[psv (some ⟨g1, 0, none⟩) a2 a3 128 c1 t.tape.length c2 t.printed.length c3 t, .int .i64 0])) ((((((((((((((wr.setCell ⟨w.heap.size + 1, 0, none⟩ (.slice (some ⟨g1, 0, none⟩) 128 c1)).setCell ⟨w.heap.size + 1, 1, none⟩ (.slice a2 t.tape.length c2)).setCell ⟨w.heap.size + 1, 2, none⟩ (.int .i64 t.taken)).setCell ⟨w.heap.size + 1, 3, none⟩ (.slice a3 t.printed.length c3)).setCell ⟨w.heap.size + 1, 4, none⟩ (.int .i64 t.clock)).setCell ⟨w.heap.size + 1, 5, none⟩ (.int .i64 t.at_)).setCell ⟨w.heap.size + 1, 6, none⟩ (.int .i64 t.phase)).setCell ⟨w.heap.size + 1, 7, none⟩ (.int .i64 t.order)).setCell ⟨w.heap.size + 1, 8, none⟩ (.int .i64 t.operand)).setCell ⟨w.heap.size + 1, 9, none⟩ (.int .i64 t.other)).setCell ⟨w.heap.size + 1, 10, none⟩ (.int .i64 t.product)).setCell ⟨w.heap.size + 1, 11, none⟩ (.int .i64 t.count)).setCell ⟨w.heap.size + 1, 12, none⟩ (.int .i64 t.done)).setCell ⟨w.heap.size + 1, 13, none⟩ (.int .i64 t.why)) := by
  have hz := E1.size
  simp at hz
  have h1 : w1.heap[w.heap.size + 1]? = some (.cells #[.slice none 0 0, .slice none 0 0, .int .i64 0, .slice none 0 0, .int .i64 0, .int .i64 0, .int .i64 0, .int .i64 0, .int .i64 0, .int .i64 0, .int .i64 0, .int .i64 0, .int .i64 0, .int .i64 0] 41 (0, 0)) := by
    have e := heap_alloc_new (w.alloc A) (.cells #[.slice none 0 0, .slice none 0 0, .int .i64 0, .slice none 0 0, .int .i64 0, .int .i64 0, .int .i64 0, .int .i64 0, .int .i64 0, .int .i64 0, .int .i64 0, .int .i64 0, .int .i64 0, .int .i64 0] 41)
    rw [World.size_alloc] at e
    exact (E1.block (w.heap.size + 1) (by simp)).trans e
  have h3 := (E3.block (w.heap.size + 1) (by omega)).trans h1
  have hr := (hB.block (w.heap.size + 1) (by omega)).trans h3
  have K := set14 hr (by decide) (by decide) (.slice (some ⟨g1, 0, none⟩) 128 c1) (.slice a2 t.tape.length c2) (.int .i64 t.taken) (.slice a3 t.printed.length c3) (.int .i64 t.clock) (.int .i64 t.at_) (.int .i64 t.phase) (.int .i64 t.order) (.int .i64 t.operand) (.int .i64 t.other) (.int .i64 t.product) (.int .i64 t.count) (.int .i64 t.done) (.int .i64 t.why)
  have M' := M.keep K.1
  obtain ⟨x2, y2, x3, y3, e2, e3, hP⟩ := M'.puT
  obtain ⟨rfl, _, rfl⟩ := Value.slice.inj e2
  obtain ⟨rfl, _, rfl⟩ := Value.slice.inj e3
  refine ⟨_, rfl, hP, ?_⟩
  have hw : Below w.heap.size w wr := (E1.old.old.comp E3).trans (hB.mono (by omega))
  exact hw.trans (K.2 w.heap.size (by omega) (by have := hw.size; omega))
end
set_option maxRecDepth 100000 in
set_option maxHeartbeats 8000000 in
theorem minors_goodT (v : Value) (s : Pu) (many : Int) (w : World) (h : PuAt w v s) (hz : (checkP s).2.2 = 0) (hm : inB many 0 20000 = true) :
    Calls Try.prog 25 #[v, .int .i64 many] w (PuResT (minorsP many.toNat s, 0) w) := by
  have hv := valid_check hz
  have hb : PuBd s := ⟨by rw [hv.len]; decide, Nat.le_trans hv.tlen (by decide), Nat.le_trans hv.plen (by decide)⟩
  have hc := fun W (E : Ext w W) => pcheck_any v s W (h.ext E) hb
  rw [checkP_zero hz] at hc
  unfold v3 at hc
  have ho := fun W => pout_any many 0 20000 W
  rw [hm] at ho
  obtain ⟨n0, n1⟩ := inB_bd hm
  obtain ⟨n, rfl⟩ := Int.eq_ofNat_of_zero_le n0
  rw [Int.toNat_natCast]
  obtain ⟨a1, a2, a3, c1, c2, c3, rfl, i1, i2, i3⟩ := h
  have hl := hv.len
  have hop := fun W (E : Ext w W) => popen_ok a1 a2 a3 s.tape.length s.printed.length c1 c2 c3 s W hl rfl rfl hv.tlen hv.plen (i1.ext E) (i2.ext E) (i3.ext E) hv.order
  rw [hl] at hc ⊢
  have HV := Lib.hid hv
  have hnn : n ≤ 20000 := by omega
  clear hb hz hm n0 n1 i1 i2 i3 hv hl
  go_enter Try.func25, Try.ntmps25
  go_wp2
  go_step3
  go_wp2_with fail
  refine (hc _ (by repeat (first | with_reducible exact Ext.refl _ | with_reducible refine Ext.alloc ?_ _ | with_reducible refine Below.drew ?_))).mono ?_
  rintro e w1 ⟨rfl, E1⟩
  go_wp2_with fail
  refine (ho _).mono ?_
  rintro e w2 ⟨rfl, rfl⟩
  have q0 := box_at (v := .slice a1 128 c1) E1.old 0 rfl
  have q1 := box_at (v := .slice a2 s.tape.length c2) E1.old 1 rfl
  have q2 := box_at (v := .int .i64 s.taken) E1.old 2 rfl
  have q3 := box_at (v := .slice a3 s.printed.length c3) E1.old 3 rfl
  have q4 := box_at (v := .int .i64 s.clock) E1.old 4 rfl
  have q5 := box_at (v := .int .i64 s.at_) E1.old 5 rfl
  have q6 := box_at (v := .int .i64 s.phase) E1.old 6 rfl
  have q7 := box_at (v := .int .i64 s.order) E1.old 7 rfl
  have q8 := box_at (v := .int .i64 s.operand) E1.old 8 rfl
  have q9 := box_at (v := .int .i64 s.other) E1.old 9 rfl
  have q10 := box_at (v := .int .i64 s.product) E1.old 10 rfl
  have q11 := box_at (v := .int .i64 s.count) E1.old 11 rfl
  have q12 := box_at (v := .int .i64 s.done) E1.old 12 rfl
  have q13 := box_at (v := .int .i64 s.why) E1.old 13 rfl
  go_wp2_with fail
  refine (hop _ E1.old.old).mono ?_
  rintro e w3 ⟨m, g1, cc, tv, pv, rfl, M, E3⟩
  clear hc ho hop
  clear q0 q1 q2 q3 q4 q5 q6 q7 q8 q9 q10 q11 q12 q13
  have HM := Lib.hid M
  have HE1 := Lib.hid E1
  have HE3 := Lib.hid E3
  clear M E1 E3
  go_wp2_with fail
  go_step3
  go_wp2
  have hz1 : w.heap.size + 1 < w1.heap.size := by have := HE1.out.size; simp at this; omega
  have hz3 : w1.heap.size ≤ w3.heap.size := HE3.out.size
  go_loopg [26] (n + 1) (fun gg s26 wr => ∃ k : Nat, k ≤ n ∧ n + 1 - k ≤ gg ∧ s26 = .int .i64 k ∧ Aside (∃ pv', Ctl wr w1.heap.size m g1 cc tv pv' (minorsP k s) (ordP (minorsP k s))) ∧ Aside (Below w1.heap.size w3 wr))
  case atStart => exact ⟨0, by omega, by omega, rfl, ⟨_, HM.out⟩, Below.refl _ _⟩
  case round =>
    obtain ⟨k, hk, hg, rfl, hM, hB⟩ := hrel
    clear HM
    obtain ⟨pk, M⟩ := hM.out
    clear hM
    by_cases hlt : k < n
    · have hltz : (k : Int) < (n : Int) := by omega
      have V := minorsP_valid k HV.out
      have hmn := minor_any wr M V
      have R := Lib.hid (minorsP_snoc' k s)
      have hnb := M.low
      have hpn : ∀ b, pk.ownBlock = some b → w1.heap.size ≤ b := fun b e => (own_at M.prow e).1
      clear M V
      generalize minorP (minorsP k s) = t at *
      go_wp2_with fail
      refine hmn.mono ?_
      rintro e w4 ⟨rfl, pv4, M4, C4, _⟩
      have B4 : Below w1.heap.size w3 w4 := hB.out.trans (C4.below (fun i hS => by
        rcases hS with e | e | e
        · omega
        · omega
        · exact hpn i e) (by have := hB.out.size; omega))
      have p13 := M4.c 13 (v := .int .i64 t.why) rfl
      cases hy : t.why != 0 with
      | true =>
        have Hy := Lib.hid hy
        have HM4 := Lib.hid M4
        have HB4 := Lib.hid B4
        clear M4 C4 B4 p13
        obtain ⟨a4, c4, htv, _⟩ := HM4.out.tape
        subst htv
        obtain ⟨a5, c5, hpv⟩ := HM4.out.paper
        subst hpv
        have p0 := HM4.out.c 0 (v := .slice (some ⟨g1, 0, none⟩) 128 cc) rfl
        have p1 := HM4.out.c 1 (v := .slice a4 t.tape.length c4) rfl
        have p2 := HM4.out.c 2 (v := .int .i64 t.taken) rfl
        have p3 := HM4.out.c 3 (v := .slice a5 t.printed.length c5) rfl
        have p4 := HM4.out.c 4 (v := .int .i64 t.clock) rfl
        have p5 := HM4.out.c 5 (v := .int .i64 t.at_) rfl
        have p6 := HM4.out.c 6 (v := .int .i64 t.phase) rfl
        have p7 := HM4.out.c 7 (v := .int .i64 t.order) rfl
        have p8 := HM4.out.c 8 (v := .int .i64 t.operand) rfl
        have p9 := HM4.out.c 9 (v := .int .i64 t.other) rfl
        have p10 := HM4.out.c 10 (v := .int .i64 t.product) rfl
        have p11 := HM4.out.c 11 (v := .int .i64 t.count) rfl
        have p12 := HM4.out.c 12 (v := .int .i64 t.done) rfl
        have p13 := HM4.out.c 13 (v := .int .i64 t.why) rfl
        have E4 := (HE1.out.comp HE3.out).trans (HB4.out.mono (by simp; omega))
        have q0 := box_at2 (v := .slice none 0 0) E4 0 rfl
        have q1 := box_at2 (v := .slice none 0 0) E4 1 rfl
        have q2 := box_at2 (v := .int .i64 0) E4 2 rfl
        have q3 := box_at2 (v := .slice none 0 0) E4 3 rfl
        have q4 := box_at2 (v := .int .i64 0) E4 4 rfl
        have q5 := box_at2 (v := .int .i64 0) E4 5 rfl
        have q6 := box_at2 (v := .int .i64 0) E4 6 rfl
        have q7 := box_at2 (v := .int .i64 0) E4 7 rfl
        have q8 := box_at2 (v := .int .i64 0) E4 8 rfl
        have q9 := box_at2 (v := .int .i64 0) E4 9 rfl
        have q10 := box_at2 (v := .int .i64 0) E4 10 rfl
        have q11 := box_at2 (v := .int .i64 0) E4 11 rfl
        have q12 := box_at2 (v := .int .i64 0) E4 12 rfl
        have q13 := box_at2 (v := .int .i64 0) E4 13 rfl
        have f0 := box_free2 E4 0
        have f1 := box_free2 E4 1
        have f2 := box_free2 E4 2
        have f3 := box_free2 E4 3
        have f4 := box_free2 E4 4
        have f5 := box_free2 E4 5
        have f6 := box_free2 E4 6
        have f7 := box_free2 E4 7
        have f8 := box_free2 E4 8
        have f9 := box_free2 E4 9
        have f10 := box_free2 E4 10
        have f11 := box_free2 E4 11
        have f12 := box_free2 E4 12
        have f13 := box_free2 E4 13
        clear E4
        go_wp2_with fail
        (try rw [Exit.noGoto_ret])
        refine bodyPost_ret (v := .tuple #[psv (some ⟨g1, 0, none⟩) a4 a5 128 cc t.tape.length c4 t.printed.length c5 t, .int .i64 0]) (by simp [results, Try.results25, go_sem, q0, q1, q2, q3, q4, q5, q6, q7, q8, q9, q10, q11, q12, q13]) rfl ?_
        have hst : minorsP n s = t := by
          have e : n = (k + 1) + (n - (k + 1)) := by omega
          rw [e, minorsP_add, R.out]
          exact minorsP_stop (by have := Hy.out; simpa using this) _
        rw [hst]
        exact minors_finT HE1.out HE3.out HB4.out HM4.out
      | false =>
        have HM4 := Lib.hid M4
        have HB4 := Lib.hid B4
        clear M4 C4 B4
        go_wp2_with fail
        go_roundg (n - k)
        case measure => omega
        case rel => exact ⟨k + 1, by omega, by omega, by go_num, ⟨_, by rw [R.out]; exact HM4.out⟩, HB4.out⟩
    · have hltz : ¬ (k : Int) < (n : Int) := by omega
      obtain rfl : k = n := by omega
      have HM4 := Lib.hid M
      have HB4 := Lib.hid hB.out
      clear M hB
      generalize hs : minorsP k s = t at *
      have Hs := Lib.hid hs
      clear hs
      obtain ⟨a4, c4, htv, _⟩ := HM4.out.tape
      subst htv
      obtain ⟨a5, c5, hpv⟩ := HM4.out.paper
      subst hpv
      have p0 := HM4.out.c 0 (v := .slice (some ⟨g1, 0, none⟩) 128 cc) rfl
      have p1 := HM4.out.c 1 (v := .slice a4 t.tape.length c4) rfl
      have p2 := HM4.out.c 2 (v := .int .i64 t.taken) rfl
      have p3 := HM4.out.c 3 (v := .slice a5 t.printed.length c5) rfl
      have p4 := HM4.out.c 4 (v := .int .i64 t.clock) rfl
      have p5 := HM4.out.c 5 (v := .int .i64 t.at_) rfl
      have p6 := HM4.out.c 6 (v := .int .i64 t.phase) rfl
      have p7 := HM4.out.c 7 (v := .int .i64 t.order) rfl
      have p8 := HM4.out.c 8 (v := .int .i64 t.operand) rfl
      have p9 := HM4.out.c 9 (v := .int .i64 t.other) rfl
      have p10 := HM4.out.c 10 (v := .int .i64 t.product) rfl
      have p11 := HM4.out.c 11 (v := .int .i64 t.count) rfl
      have p12 := HM4.out.c 12 (v := .int .i64 t.done) rfl
      have p13 := HM4.out.c 13 (v := .int .i64 t.why) rfl
      have E4 := (HE1.out.comp HE3.out).trans (HB4.out.mono (by simp; omega))
      have q0 := box_at2 (v := .slice none 0 0) E4 0 rfl
      have q1 := box_at2 (v := .slice none 0 0) E4 1 rfl
      have q2 := box_at2 (v := .int .i64 0) E4 2 rfl
      have q3 := box_at2 (v := .slice none 0 0) E4 3 rfl
      have q4 := box_at2 (v := .int .i64 0) E4 4 rfl
      have q5 := box_at2 (v := .int .i64 0) E4 5 rfl
      have q6 := box_at2 (v := .int .i64 0) E4 6 rfl
      have q7 := box_at2 (v := .int .i64 0) E4 7 rfl
      have q8 := box_at2 (v := .int .i64 0) E4 8 rfl
      have q9 := box_at2 (v := .int .i64 0) E4 9 rfl
      have q10 := box_at2 (v := .int .i64 0) E4 10 rfl
      have q11 := box_at2 (v := .int .i64 0) E4 11 rfl
      have q12 := box_at2 (v := .int .i64 0) E4 12 rfl
      have q13 := box_at2 (v := .int .i64 0) E4 13 rfl
      have f0 := box_free2 E4 0
      have f1 := box_free2 E4 1
      have f2 := box_free2 E4 2
      have f3 := box_free2 E4 3
      have f4 := box_free2 E4 4
      have f5 := box_free2 E4 5
      have f6 := box_free2 E4 6
      have f7 := box_free2 E4 7
      have f8 := box_free2 E4 8
      have f9 := box_free2 E4 9
      have f10 := box_free2 E4 10
      have f11 := box_free2 E4 11
      have f12 := box_free2 E4 12
      have f13 := box_free2 E4 13
      clear E4
      go_wp2_with fail
      (try rw [Exit.noGoto_ret])
      refine bodyPost_ret (v := .tuple #[psv (some ⟨g1, 0, none⟩) a4 a5 128 cc t.tape.length c4 t.printed.length c5 t, .int .i64 0]) (by simp [results, Try.results25, go_sem, q0, q1, q2, q3, q4, q5, q6, q7, q8, q9, q10, q11, q12, q13]) rfl ?_
      (try rw [Hs.out])
      exact minors_finT HE1.out HE3.out HB4.out HM4.out
theorem row_fin8T {wk W : World} {nb n c b : Nat} {a : Option Addr} {ys : List Int} (ho : wk.ownsRow nb 3 1 (.slice a n c) n (iv ys)) (E : Ext wk W) (hn : b < nb) (x0 x1 x2 x3 x4 x5 x6 x7 : Value) : IntsT ((((((((W.setCell ⟨b, 0, none⟩ x0).setCell ⟨b, 1, none⟩ x1).setCell ⟨b, 2, none⟩ x2).setCell ⟨b, 3, none⟩ x3).setCell ⟨b, 4, none⟩ x4).setCell ⟨b, 5, none⟩ x5).setCell ⟨b, 6, none⟩ x6).setCell ⟨b, 7, none⟩ x7) a ys := by
  refine own_intsT (nb := nb) (n := n) (c := c) (own_later ho (fun k hk => ?_))
  have := own_at ho hk
  exact (other8 W b k (by omega) _ _ _ _ _ _ _ _).trans (E.block k this.2)
theorem order_finT {w ws wt wp W : World} {aas aat aap : Option Addr} {n2 n3 ccs cct ccp ns nt np : Nat} {s : Pu} {tm : Int} (htm : timeP s = tm) (hos : ws.ownsRow ns 3 1 (.slice aas 128 ccs) 128 (iv s.store)) (hot : wt.ownsRow nt 3 1 (.slice aat n2 cct) n2 (iv s.tape)) (hop : wp.ownsRow np 3 1 (.slice aap n3 ccp) n3 (iv s.printed))
    (hl : s.store.length = 128 ∧ s.tape.length = n2 ∧ s.printed.length = n3) (es : Ext ws W) (et : Ext wt W) (ep : Ext wp W) (hW : Ext w W) (ls : w.heap.size + 1 < ns) (lt : w.heap.size + 1 < nt) (lp : w.heap.size + 1 < np) :
    StResT (orderQ s, 0) w (.returned (.tuple #[.agg #[.slice aas 128 ccs, .slice aat n2 cct, .int .i64 s.taken, .slice aap n3 ccp, .int .i64 tm, .int .i64 s.at_, .int .i64 s.done, .int .i64 s.why], .int .i64 0])) ((((((((W.setCell ⟨w.heap.size + 1, 0, none⟩ (.slice aas 128 ccs)).setCell ⟨w.heap.size + 1, 1, none⟩ (.slice aat n2 cct)).setCell ⟨w.heap.size + 1, 2, none⟩ (.int .i64 s.taken)).setCell ⟨w.heap.size + 1, 3, none⟩ (.slice aap n3 ccp)).setCell ⟨w.heap.size + 1, 4, none⟩ (.int .i64 tm)).setCell ⟨w.heap.size + 1, 5, none⟩ (.int .i64 s.at_)).setCell ⟨w.heap.size + 1, 6, none⟩ (.int .i64 s.done)).setCell ⟨w.heap.size + 1, 7, none⟩ (.int .i64 s.why)) := by
  obtain ⟨l1, rfl, rfl⟩ := hl
  subst htm
  refine ⟨_, rfl, ⟨aas, aat, aap, ccs, cct, ccp, ?_, row_fin8T hos es ls _ _ _ _ _ _ _ _, row_fin8T hot et lt _ _ _ _ _ _ _ _, row_fin8T hop ep lp _ _ _ _ _ _ _ _⟩, ext_set8 hW (Nat.le_succ _) _ _ _ _ _ _ _ _⟩
  show _ = sv aas aat aap s.store.length ccs s.tape.length cct s.printed.length ccp s.taken (timeP s) s.at_ s.done s.why
  rw [l1]
set_option maxRecDepth 100000 in
set_option maxHeartbeats 8000000 in
theorem order_goodT (a1 a2 a3 : Option Addr) (n2 n3 k1 k2 k3 : Nat) (s : Pu) (w : World) (hv : ValidP s) (hb : PuBd s) (l2 : s.tape.length = n2) (l3 : s.printed.length = n3)
    (i1 : IntsAt w a1 s.store) (i2 : IntsAt w a2 s.tape) (i3 : IntsAt w a3 s.printed) (hz : checkP s = (0, 0, 0)) (hp : s.phase = 0) (ht : timeP s ≤ 1000000000) :
    Calls Try.prog 49 #[psv a1 a2 a3 128 k1 n2 k2 n3 k3 s] w (StResT (orderQ s, 0) w) := by
  have hc := fun W (E : Ext w W) => pcheck_any (psv a1 a2 a3 128 k1 n2 k2 n3 k3 s) s W ⟨a1, a2, a3, k1, k2, k3, by rw [hv.len, l2, l3], i1.ext E, i2.ext E, i3.ext E⟩ hb
  rw [hz] at hc
  unfold v3 at hc
  have hf1 := fun W (E : Ext w W) => fresh_any a1 128 k1 s.store W hv.len (by decide) (i1.ext E)
  have hf2 := fun W (E : Ext w W) => fresh_any a2 n2 k2 s.tape W l2 (by have := hv.tlen; omega) (i2.ext E)
  have hf3 := fun W (E : Ext w W) => fresh_any a3 n3 k3 s.printed W l3 (by have := hv.plen; omega) (i3.ext E)
  have Hl := Lib.hid (And.intro hv.len (And.intro l2 l3))
  obtain ⟨cl0, cl1⟩ := hv.clock
  obtain ⟨at0, at1⟩ := hv.at_
  have htm : timeP s = s.clock + (s.at_ - s.clock) % 16 := rfl
  rw [htm] at ht
  clear i1 i2 i3 l2 l3 hz hb hv htm
  rw [show psv a1 a2 a3 128 k1 n2 k2 n3 k3 s = .agg #[.slice a1 128 k1, .slice a2 n2 k2, .int .i64 s.taken, .slice a3 n3 k3, .int .i64 s.clock, .int .i64 s.at_, .int .i64 0, .int .i64 s.order, .int .i64 s.operand, .int .i64 s.other, .int .i64 s.product, .int .i64 s.count, .int .i64 s.done, .int .i64 s.why] from by rw [← hp]] at hc ⊢
  clear hp
  go_enter Try.func49, Try.ntmps49
  go_wp2_with fail
  refine (hc _ (by repeat (first | with_reducible exact Ext.refl _ | with_reducible refine Ext.alloc ?_ _ | with_reducible refine Below.drew ?_))).mono ?_
  rintro e w1 ⟨rfl, E1⟩
  clear hc
  have E0 := E1.old
  have u0 := box_at (v := .slice a1 128 k1) E0 0 rfl
  have u1 := box_at (v := .slice a2 n2 k2) E0 1 rfl
  have u2 := box_at (v := .int .i64 s.taken) E0 2 rfl
  have u3 := box_at (v := .slice a3 n3 k3) E0 3 rfl
  have u4 := box_at (v := .int .i64 s.clock) E0 4 rfl
  have u5 := box_at (v := .int .i64 s.at_) E0 5 rfl
  have u6 := box_at (v := .int .i64 0) E0 6 rfl
  have u7 := box_at (v := .int .i64 s.order) E0 7 rfl
  have u8 := box_at (v := .int .i64 s.operand) E0 8 rfl
  have u9 := box_at (v := .int .i64 s.other) E0 9 rfl
  have u10 := box_at (v := .int .i64 s.product) E0 10 rfl
  have u11 := box_at (v := .int .i64 s.count) E0 11 rfl
  have u12 := box_at (v := .int .i64 s.done) E0 12 rfl
  have u13 := box_at (v := .int .i64 s.why) E0 13 rfl
  go_upto_region 7 with fail
  clear u0 u1 u2 u3 u4 u5 u6 u7 u8 u9 u10 u11 u12 u13
  have hle : (w.alloc (.cells #[.slice a1 128 k1, .slice a2 n2 k2, .int .i64 s.taken, .slice a3 n3 k3, .int .i64 s.clock, .int .i64 s.at_, .int .i64 0, .int .i64 s.order, .int .i64 s.operand, .int .i64 s.other, .int .i64 s.product, .int .i64 s.count, .int .i64 s.done, .int .i64 s.why] 41)).heap.size ≤ w.heap.size + 1 := by simp
  have z1 : w.heap.size + 1 < w1.heap.size := by have := E1.size; simp at this; omega
  have zs : ∀ W : World, Ext ((w.alloc (.cells #[.slice a1 128 k1, .slice a2 n2 k2, .int .i64 s.taken, .slice a3 n3 k3, .int .i64 s.clock, .int .i64 s.at_, .int .i64 0, .int .i64 s.order, .int .i64 s.operand, .int .i64 s.other, .int .i64 s.product, .int .i64 s.count, .int .i64 s.done, .int .i64 s.why] 41)).alloc (.cells #[.slice none 0 0, .slice none 0 0, .int .i64 0, .slice none 0 0, .int .i64 0, .int .i64 0, .int .i64 0, .int .i64 0] 24)) W → w.heap.size + 1 < W.heap.size := fun W e => by have := e.size; simp at this; omega
  go_region_held3 (fun w' => Ext (w.alloc (.cells #[.slice a1 128 k1, .slice a2 n2 k2, .int .i64 s.taken, .slice a3 n3 k3, .int .i64 s.clock, .int .i64 s.at_, .int .i64 0, .int .i64 s.order, .int .i64 s.operand, .int .i64 s.other, .int .i64 s.product, .int .i64 s.count, .int .i64 s.done, .int .i64 s.why] 41)) w' ∧ w'.cell? ⟨w.heap.size, 0, none⟩ = some (.slice a1 128 k1) ∧ w'.cell? ⟨w.heap.size, 1, none⟩ = some (.slice a2 n2 k2) ∧ w'.cell? ⟨w.heap.size, 2, none⟩ = some (.int .i64 s.taken) ∧ w'.cell? ⟨w.heap.size, 3, none⟩ = some (.slice a3 n3 k3) ∧ w'.cell? ⟨w.heap.size, 4, none⟩ = some (.int .i64 s.clock) ∧ w'.cell? ⟨w.heap.size, 5, none⟩ = some (.int .i64 s.at_) ∧ w'.cell? ⟨w.heap.size, 6, none⟩ = some (.int .i64 0) ∧ w'.cell? ⟨w.heap.size, 7, none⟩ = some (.int .i64 s.order) ∧ w'.cell? ⟨w.heap.size, 8, none⟩ = some (.int .i64 s.operand) ∧ w'.cell? ⟨w.heap.size, 9, none⟩ = some (.int .i64 s.other) ∧ w'.cell? ⟨w.heap.size, 10, none⟩ = some (.int .i64 s.product) ∧ w'.cell? ⟨w.heap.size, 11, none⟩ = some (.int .i64 s.count) ∧ w'.cell? ⟨w.heap.size, 12, none⟩ = some (.int .i64 s.done) ∧ w'.cell? ⟨w.heap.size, 13, none⟩ = some (.int .i64 s.why)) (first | with_reducible exact order_keep EEs.old | with_reducible exact order_keep EEt.old | with_reducible exact order_keep EEp.old | with_reducible exact order_keep (Ext.comp E0 (Ext.refl w1).drew) | with_reducible exact order_keep (ext_set8 EEs.old hle _ _ _ _ _ _ _ _) | with_reducible exact order_keep (ext_set8 EEt.old hle _ _ _ _ _ _ _ _) | with_reducible exact order_keep (ext_set8 EEp.old hle _ _ _ _ _ _ _ _))
    (first | (go_at_call_of 84 (Value.slice a1 128 k1); refine (hf1 _ (by first | exact EEt.old.old | exact EEp.old.old | exact (Ext.comp E1 (Ext.refl w1).drew).old.old)).mono ?_; rintro e ws ⟨aas, ccs, rfl, hos, hbs⟩; have EEs : Ext ((w.alloc (.cells #[.slice a1 128 k1, .slice a2 n2 k2, .int .i64 s.taken, .slice a3 n3 k3, .int .i64 s.clock, .int .i64 s.at_, .int .i64 0, .int .i64 s.order, .int .i64 s.operand, .int .i64 s.other, .int .i64 s.product, .int .i64 s.count, .int .i64 s.done, .int .i64 s.why] 41)).alloc (.cells #[.slice none 0 0, .slice none 0 0, .int .i64 0, .slice none 0 0, .int .i64 0, .int .i64 0, .int .i64 0, .int .i64 0] 24)) ws := (by first | exact Ext.comp EEt hbs | exact Ext.comp EEp hbs | exact Ext.comp (Ext.comp E1 (Ext.refl w1).drew) hbs); have sq0 := box_at2 (v := .slice none 0 0) EEs 0 rfl; have sf0 := box_free2 EEs 0; have sq1 := box_at2 (v := .slice none 0 0) EEs 1 rfl; have sf1 := box_free2 EEs 1; have sq2 := box_at2 (v := .int .i64 0) EEs 2 rfl; have sf2 := box_free2 EEs 2; have sq3 := box_at2 (v := .slice none 0 0) EEs 3 rfl; have sf3 := box_free2 EEs 3; have sq4 := box_at2 (v := .int .i64 0) EEs 4 rfl; have sf4 := box_free2 EEs 4; have sq5 := box_at2 (v := .int .i64 0) EEs 5 rfl; have sf5 := box_free2 EEs 5; have sq6 := box_at2 (v := .int .i64 0) EEs 6 rfl; have sf6 := box_free2 EEs 6; have sq7 := box_at2 (v := .int .i64 0) EEs 7 rfl; have sf7 := box_free2 EEs 7) | (go_at_call_of 84 (Value.slice a2 n2 k2); refine (hf2 _ (by first | exact EEs.old.old | exact EEp.old.old | exact (Ext.comp E1 (Ext.refl w1).drew).old.old)).mono ?_; rintro e wt ⟨aat, cct, rfl, hot, hbt⟩; have EEt : Ext ((w.alloc (.cells #[.slice a1 128 k1, .slice a2 n2 k2, .int .i64 s.taken, .slice a3 n3 k3, .int .i64 s.clock, .int .i64 s.at_, .int .i64 0, .int .i64 s.order, .int .i64 s.operand, .int .i64 s.other, .int .i64 s.product, .int .i64 s.count, .int .i64 s.done, .int .i64 s.why] 41)).alloc (.cells #[.slice none 0 0, .slice none 0 0, .int .i64 0, .slice none 0 0, .int .i64 0, .int .i64 0, .int .i64 0, .int .i64 0] 24)) wt := (by first | exact Ext.comp EEs hbt | exact Ext.comp EEp hbt | exact Ext.comp (Ext.comp E1 (Ext.refl w1).drew) hbt); have tq0 := box_at2 (v := .slice none 0 0) EEt 0 rfl; have tf0 := box_free2 EEt 0; have tq1 := box_at2 (v := .slice none 0 0) EEt 1 rfl; have tf1 := box_free2 EEt 1; have tq2 := box_at2 (v := .int .i64 0) EEt 2 rfl; have tf2 := box_free2 EEt 2; have tq3 := box_at2 (v := .slice none 0 0) EEt 3 rfl; have tf3 := box_free2 EEt 3; have tq4 := box_at2 (v := .int .i64 0) EEt 4 rfl; have tf4 := box_free2 EEt 4; have tq5 := box_at2 (v := .int .i64 0) EEt 5 rfl; have tf5 := box_free2 EEt 5; have tq6 := box_at2 (v := .int .i64 0) EEt 6 rfl; have tf6 := box_free2 EEt 6; have tq7 := box_at2 (v := .int .i64 0) EEt 7 rfl; have tf7 := box_free2 EEt 7) | (go_at_call_of 84 (Value.slice a3 n3 k3); refine (hf3 _ (by first | exact EEs.old.old | exact EEt.old.old | exact (Ext.comp E1 (Ext.refl w1).drew).old.old)).mono ?_; rintro e wp ⟨aap, ccp, rfl, hop, hbp⟩; have EEp : Ext ((w.alloc (.cells #[.slice a1 128 k1, .slice a2 n2 k2, .int .i64 s.taken, .slice a3 n3 k3, .int .i64 s.clock, .int .i64 s.at_, .int .i64 0, .int .i64 s.order, .int .i64 s.operand, .int .i64 s.other, .int .i64 s.product, .int .i64 s.count, .int .i64 s.done, .int .i64 s.why] 41)).alloc (.cells #[.slice none 0 0, .slice none 0 0, .int .i64 0, .slice none 0 0, .int .i64 0, .int .i64 0, .int .i64 0, .int .i64 0] 24)) wp := (by first | exact Ext.comp EEs hbp | exact Ext.comp EEt hbp | exact Ext.comp (Ext.comp E1 (Ext.refl w1).drew) hbp); have pq0 := box_at2 (v := .slice none 0 0) EEp 0 rfl; have pf0 := box_free2 EEp 0; have pq1 := box_at2 (v := .slice none 0 0) EEp 1 rfl; have pf1 := box_free2 EEp 1; have pq2 := box_at2 (v := .int .i64 0) EEp 2 rfl; have pf2 := box_free2 EEp 2; have pq3 := box_at2 (v := .slice none 0 0) EEp 3 rfl; have pf3 := box_free2 EEp 3; have pq4 := box_at2 (v := .int .i64 0) EEp 4 rfl; have pf4 := box_free2 EEp 4; have pq5 := box_at2 (v := .int .i64 0) EEp 5 rfl; have pf5 := box_free2 EEp 5; have pq6 := box_at2 (v := .int .i64 0) EEp 6 rfl; have pf6 := box_free2 EEp 6; have pq7 := box_at2 (v := .int .i64 0) EEp 7 rfl; have pf7 := box_free2 EEp 7))
  all_goals
    go_wp2_with fail
    refine bodyPost_ret (v := .tuple #[.agg #[.slice aas 128 ccs, .slice aat n2 cct, .int .i64 s.taken, .slice aap n3 ccp, .int .i64 (s.clock + (s.at_ - s.clock) % 16), .int .i64 s.at_, .int .i64 s.done, .int .i64 s.why], .int .i64 0]) (by simp [results, Try.results49, go_sem, sq0, sq1, sq2, sq3, sq4, sq5, sq6, sq7, tq0, tq1, tq2, tq3, tq4, tq5, tq6, tq7, pq0, pq1, pq2, pq3, pq4, pq5, pq6, pq7]) rfl ?_
    exact order_finT rfl hos hot hop Hl.out (by first | exact Ext.refl _ | exact hbs | exact hbt | exact hbp | exact hbs.comp hbt | exact hbs.comp hbp | exact hbt.comp hbs | exact hbt.comp hbp | exact hbp.comp hbs | exact hbp.comp hbt) (by first | exact Ext.refl _ | exact hbs | exact hbt | exact hbp | exact hbs.comp hbt | exact hbs.comp hbp | exact hbt.comp hbs | exact hbt.comp hbp | exact hbp.comp hbs | exact hbp.comp hbt) (by first | exact Ext.refl _ | exact hbs | exact hbt | exact hbp | exact hbs.comp hbt | exact hbs.comp hbp | exact hbt.comp hbs | exact hbt.comp hbp | exact hbp.comp hbs | exact hbp.comp hbt) (by first | exact EEs.old.old | exact EEt.old.old | exact EEp.old.old) (by first | exact z1 | exact zs _ EEs | exact zs _ EEt | exact zs _ EEp) (by first | exact z1 | exact zs _ EEs | exact zs _ EEt | exact zs _ EEp) (by first | exact z1 | exact zs _ EEs | exact zs _ EEt | exact zs _ EEp)
end Go.Proofs.Ytjfggepgjpdebaa

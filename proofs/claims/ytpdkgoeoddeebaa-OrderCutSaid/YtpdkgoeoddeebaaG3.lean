/- Contract: the reference's Run. -/
import Derived.Test.YtpdkgoeoddeebaaG2
import Derived.Outline
set_option linter.unusedVariables false
set_option linter.unusedSimpArgs false
namespace Go.Proofs.Ytpdkgoeoddeebaa
open Go.RowKit Go.Q

/-- the variable m holds a state -/
def BoxSt (w : World) (m : Nat) (s : St) : Prop := ∃ a1 k1 a2 k2 a3 k3, w.heap[m]? = some (.cells #[.slice a1 s.store.length k1, .slice a2 s.tape.length k2, .int .i64 s.taken, .slice a3 s.printed.length k3, .int .i64 s.time, .int .i64 s.at_, .int .i64 s.done, .int .i64 s.why] 24 (0, 0)) ∧
  IntsAt w a1 s.store ∧ IntsAt w a2 s.tape ∧ IntsAt w a3 s.printed ∧ Av m a1 s.store ∧ Av m a2 s.tape ∧ Av m a3 s.printed
/-- a state is stored into the variable -/
theorem box_store {w : World} {m : Nat} {cs : Array Value} {v0 v : Value} {s0 s : St} (h : w.heap[m]? = some (.cells cs 24 (0, 0))) (hc : cs.size = 8) {a1 a2 a3 : Option Addr} {k1 k2 k3 : Nat}
    (A : IntsAt w a1 s.store ∧ IntsAt w a2 s.tape ∧ IntsAt w a3 s.printed) (hA : Av m a1 s.store ∧ Av m a2 s.tape ∧ Av m a3 s.printed) :
    BoxSt ((((((((w.setCell ⟨m, 0, none⟩ (.slice a1 s.store.length k1)).setCell ⟨m, 1, none⟩ (.slice a2 s.tape.length k2)).setCell ⟨m, 2, none⟩ (.int .i64 s.taken)).setCell ⟨m, 3, none⟩ (.slice a3 s.printed.length k3)).setCell ⟨m, 4, none⟩ (.int .i64 s.time)).setCell ⟨m, 5, none⟩ (.int .i64 s.at_)).setCell ⟨m, 6, none⟩ (.int .i64 s.done)).setCell ⟨m, 7, none⟩ (.int .i64 s.why)) m s := by
  obtain ⟨cs⟩ := cs
  match cs, hc with
  | [c0, c1, c2, c3, c4, c5, c6, c7], _ =>
    obtain ⟨A1, A2, A3⟩ := A
    obtain ⟨h1, h2, h3⟩ := hA
    refine ⟨a1, k1, a2, k2, a3, k3, cells8 h _ _ _ _ _ _ _ _, ?_, ?_, ?_, h1, h2, h3⟩
    · exact ints_av (ints_av (ints_av (ints_av (ints_av (ints_av (ints_av (ints_av A1 h1) h1) h1) h1) h1) h1) h1) h1
    · exact ints_av (ints_av (ints_av (ints_av (ints_av (ints_av (ints_av (ints_av A2 h2) h2) h2) h2) h2) h2) h2) h2
    · exact ints_av (ints_av (ints_av (ints_av (ints_av (ints_av (ints_av (ints_av A3 h3) h3) h3) h3) h3) h3) h3) h3
/-- the lists of the state in the variable m do not lie in block n -/
def BoxAv (w : World) (m n : Nat) (s : St) : Prop := ∃ a1 a2 a3 n1 k1 n2 k2 n3 k3 x2 x4 x5 x6 x7, w.heap[m]? = some (.cells #[.slice a1 n1 k1, .slice a2 n2 k2, x2, .slice a3 n3 k3, x4, x5, x6, x7] 24 (0, 0)) ∧ Av n a1 s.store ∧ Av n a2 s.tape ∧ Av n a3 s.printed
theorem BoxAv.get {w : World} {m n : Nat} {s : St} {a1 a2 a3 : Option Addr} {n1 k1 n2 k2 n3 k3 : Nat} {x2 x4 x5 x6 x7 : Value} (h : BoxAv w m n s) (hb : w.heap[m]? = some (.cells #[.slice a1 n1 k1, .slice a2 n2 k2, x2, .slice a3 n3 k3, x4, x5, x6, x7] 24 (0, 0))) :
    Av n a1 s.store ∧ Av n a2 s.tape ∧ Av n a3 s.printed := by
  obtain ⟨b1, b2, b3, _, _, _, _, _, _, _, _, _, _, _, h0, h1, h2, h3⟩ := h
  rw [hb] at h0
  simp at h0
  obtain ⟨⟨rfl, _⟩, ⟨rfl, _⟩, _, ⟨rfl, _⟩, _⟩ := h0
  exact ⟨h1, h2, h3⟩
theorem zbox {w W : World} {T : TypeId} {cs : Array Value} (hE : Ext (w.alloc (.cells cs T)) W) : W.heap[w.heap.size]? = some (.cells cs T (0, 0)) :=
  (hE.block w.heap.size (by simp)).trans (heap_alloc_new w _)

set_option maxRecDepth 100000 in
set_option maxHeartbeats 4000000 in
theorem rrun_any (v : Value) (s : St) (most : Int) (w : World) (h : StAt w v s) (hb : StBd s) :
    Calls Try.prog 24 #[v, .int .i64 most] w (StRes (runE s most) w) := by
  have ha := fun W (E : Ext w W) => asked_any v s most W (h.ext E) hb
  have hr : runE s most = if askedQ s most = 0 then (runQ most.toNat s, 0) else (zst, askedQ s most) := rfl
  rw [hr]
  have hok := asked_ok (s := s) (most := most)
  obtain ⟨a1, a2, a3, k1, k2, k3, rfl, i1, i2, i3⟩ := h
  generalize askedQ s most = er at *
  by_cases he : er = 0
  · subst he
    obtain ⟨z1, z2⟩ := hok rfl
    have hv := valid_of_check z1
    obtain ⟨p0, p1⟩ := inB_bd z2
    clear z1 z2 hok
    rw [if_pos rfl]
    obtain ⟨n, rfl⟩ := Int.eq_ofNat_of_zero_le p0
    rw [Int.toNat_natCast]
    go_enter Try.func24, Try.ntmps24
    go_wp2_with fail
    refine (ha _ (by repeat (first | with_reducible exact Ext.refl _ | with_reducible refine Ext.alloc ?_ _ | with_reducible refine Below.drew ?_))).mono ?_
    rintro e w1 ⟨rfl, E1⟩
    clear ha
    have hB0 : BoxSt w1 w.heap.size s := ⟨_, _, _, _, _, _, zbox E1.old, i1.ext E1.old.old, i2.ext E1.old.old, i3.ext E1.old.old, av_of i1 (Nat.le_refl _), av_of i2 (Nat.le_refl _), av_of i3 (Nat.le_refl _)⟩
    have hBA : BoxAv w1 w.heap.size (w.heap.size + 1) s := ⟨_, _, _, _, _, _, _, _, _, _, _, _, _, _, zbox E1.old, av_of i1 (Nat.le_succ _), av_of i2 (Nat.le_succ _), av_of i3 (Nat.le_succ _)⟩
    have hZ0 : w1.heap[w.heap.size + 1]? = some (.cells #[.slice none 0 0, .slice none 0 0, .int .i64 0, .slice none 0 0, .int .i64 0, .int .i64 0, .int .i64 0, .int .i64 0] 24 (0, 0)) := by
      have := zbox E1
      rw [World.size_alloc] at this
      exact this
    have hs0 : w.heap.size + 1 < w1.heap.size := by have := E1.size; simp at this; omega
    have HV := Lib.hid hv
    clear hv
    go_wp2_with fail
    go_loopw [7] (fun i wr => ∃ k : Nat, k ≤ n ∧ i = .int .i64 k ∧ Ext w wr ∧ w.heap.size + 1 < wr.heap.size ∧ BoxSt wr w.heap.size (runQ k s) ∧ BoxAv wr w.heap.size (w.heap.size + 1) (runQ k s) ∧ Aside (wr.heap[w.heap.size + 1]? = some (.cells #[.slice none 0 0, .slice none 0 0, .int .i64 0, .slice none 0 0, .int .i64 0, .int .i64 0, .int .i64 0, .int .i64 0] 24 (0, 0)))) (fun i _ => n - (intOf i).toNat)
    case atStart => exact ⟨0, Nat.zero_le _, rfl, E1.old.old, hs0, hB0, hBA, hZ0⟩
    case round =>
      obtain ⟨k, hk, rfl, E0, hsz, ⟨d1, e1, d2, e2, d3, e3, hblk, j1, j2, j3, v1, v2, v3⟩, hBA, hZ⟩ := hrel
      have hav := hBA.get hblk
      clear hBA
      have V := Lib.hid (runQ_valid k HV.out)
      have R1 := Lib.hid (runQ_snoc k s)
      have R3 := Lib.hid (runQ_stop (s := s) (k := k))
      generalize hT : runQ k s = t at *
      have HT := Lib.hid hT
      clear hT
      have c0 := cell_of_cells hblk 0 (v := .slice d1 t.store.length e1) rfl
      have c1 := cell_of_cells hblk 1 (v := .slice d2 t.tape.length e2) rfl
      have c2 := cell_of_cells hblk 2 (v := .int .i64 t.taken) rfl
      have c3 := cell_of_cells hblk 3 (v := .slice d3 t.printed.length e3) rfl
      have c4 := cell_of_cells hblk 4 (v := .int .i64 t.time) rfl
      have c5 := cell_of_cells hblk 5 (v := .int .i64 t.at_) rfl
      have c6 := cell_of_cells hblk 6 (v := .int .i64 t.done) rfl
      have c7 := cell_of_cells hblk 7 (v := .int .i64 t.why) rfl
      have hsz0 : w.heap.size < wr.heap.size := by omega
      have HB := Lib.hid hblk
      clear hblk
      by_cases hlt : k < n
      · have hltz : (k : Int) < (n : Int) := by omega
        by_cases hw : t.why = 0
        · have b1 : (t.why == 0) = true := by simpa using hw
          have hst := fun W (E : Ext wr W) => rstep_any (sv d1 d2 d3 t.store.length e1 t.tape.length e2 t.printed.length e3 t.taken t.time t.at_ t.done t.why) t W ⟨d1, d2, d3, e1, e2, e3, rfl, j1.ext E, j2.ext E, j3.ext E⟩ V.out hw
          have Hw := Lib.hid hw
          clear hw
          go_wp2_with fail
          refine (hst _ (Ext.refl _)).mono ?_
          rintro e w2 ⟨vv, rfl, A2, E2, hA2⟩
          have hA3 := hA2 w.heap.size hsz0 (avSt_sv.2 ⟨v1, v2, v3⟩)
          obtain ⟨p1, p2, p3, m1, m2, m3, rfl, P1, P2, P3⟩ := A2
          have hA4 := avSt_sv.1 hA3
          have hA5 := avSt_sv.1 (hA2 (w.heap.size + 1) hsz (avSt_sv.2 hav))
          have hb2 := (E2.block w.heap.size hsz0).trans HB.out
          have hz2 := (E2.block (w.heap.size + 1) hsz).trans hZ.out
          have c0 := cell_of_cells hb2 0 (v := .slice d1 t.store.length e1) rfl
          have c1 := cell_of_cells hb2 1 (v := .slice d2 t.tape.length e2) rfl
          have c2 := cell_of_cells hb2 2 (v := .int .i64 t.taken) rfl
          have c3 := cell_of_cells hb2 3 (v := .slice d3 t.printed.length e3) rfl
          have c4 := cell_of_cells hb2 4 (v := .int .i64 t.time) rfl
          have c5 := cell_of_cells hb2 5 (v := .int .i64 t.at_) rfl
          have c6 := cell_of_cells hb2 6 (v := .int .i64 t.done) rfl
          have c7 := cell_of_cells hb2 7 (v := .int .i64 t.why) rfl
          have f0 := free_of_cells hb2 0
          have f1 := free_of_cells hb2 1
          have f2 := free_of_cells hb2 2
          have f3 := free_of_cells hb2 3
          have f4 := free_of_cells hb2 4
          have f5 := free_of_cells hb2 5
          have f6 := free_of_cells hb2 6
          have f7 := free_of_cells hb2 7
          have hres := box_store (w := w2) (v0 := .nilIface) (v := .nilIface) (s0 := t) hb2 rfl (k1 := m1) (k2 := m2) (k3 := m3) ⟨P1, P2, P3⟩ hA4
          have Hres := Lib.hid hres
          have Hcell := Lib.hid (cells8 (W := w2) hb2 (.slice p1 (stepQ t).store.length m1) (.slice p2 (stepQ t).tape.length m2) (.int .i64 (stepQ t).taken) (.slice p3 (stepQ t).printed.length m3) (.int .i64 (stepQ t).time) (.int .i64 (stepQ t).at_) (.int .i64 (stepQ t).done) (.int .i64 (stepQ t).why))
          have Hz2 := Lib.hid hz2
          have E02 := E0.comp E2
          have hsz2 : w.heap.size + 1 < w2.heap.size := Nat.lt_of_lt_of_le hsz E2.size
          clear hres hb2 hz2 hst hA2 hA3 hA4
          go_wp2_with fail
          go_roundw
          case measure => simp [intOf]; omega
          case rel =>
            refine ⟨k + 1, by omega, by go_num, ext_set8 E02 (Nat.le_refl _) _ _ _ _ _ _ _ _, by simpa [World.setCell] using hsz2, ?_, ?_, (show Aside _ from ?_)⟩
            · rw [R1.out, if_pos Hw.out]; exact Hres.out
            · rw [R1.out, if_pos Hw.out]; exact ⟨_, _, _, _, _, _, _, _, _, _, _, _, _, _, Hcell.out, hA5⟩
            · repeat (refine (Below.heap_setCell _ _ _ _ ?_).trans ?_; · simp)
              exact Hz2.out
        · have b1 : (t.why == 0) = false := by simpa using hw
          have z8 := hZ.out
          have r0 := cell_of_cells z8 0 (v := .slice none 0 0) rfl
          have r1 := cell_of_cells z8 1 (v := .slice none 0 0) rfl
          have r2 := cell_of_cells z8 2 (v := .int .i64 0) rfl
          have r3 := cell_of_cells z8 3 (v := .slice none 0 0) rfl
          have r4 := cell_of_cells z8 4 (v := .int .i64 0) rfl
          have r5 := cell_of_cells z8 5 (v := .int .i64 0) rfl
          have r6 := cell_of_cells z8 6 (v := .int .i64 0) rfl
          have r7 := cell_of_cells z8 7 (v := .int .i64 0) rfl
          have rf0 := free_of_cells z8 0
          have rf1 := free_of_cells z8 1
          have rf2 := free_of_cells z8 2
          have rf3 := free_of_cells z8 3
          have rf4 := free_of_cells z8 4
          have rf5 := free_of_cells z8 5
          have rf6 := free_of_cells z8 6
          have rf7 := free_of_cells z8 7
          have hx := (R3.out hw (n - k)).1
          have ek : k + (n - k) = n := by omega
          rw [ek] at hx
          have HX := Lib.hid hx
          clear hw z8 hx ek
          go_wp2_with fail
          refine bodyPost_ret (v := .tuple #[sv d1 d2 d3 t.store.length e1 t.tape.length e2 t.printed.length e3 t.taken t.time t.at_ t.done t.why, .int .i64 0]) (by simp [results, Try.results24, go_sem, r0, r1, r2, r3, r4, r5, r6, r7]) rfl ?_
          rw [HX.out]
          obtain ⟨hav1, hav2, hav3⟩ := hav
          exact ⟨_, rfl, ⟨d1, d2, d3, e1, e2, e3, rfl, ints_av (ints_av (ints_av (ints_av (ints_av (ints_av (ints_av (ints_av j1 hav1) hav1) hav1) hav1) hav1) hav1) hav1) hav1,
            ints_av (ints_av (ints_av (ints_av (ints_av (ints_av (ints_av (ints_av j2 hav2) hav2) hav2) hav2) hav2) hav2) hav2) hav2,
            ints_av (ints_av (ints_av (ints_av (ints_av (ints_av (ints_av (ints_av j3 hav3) hav3) hav3) hav3) hav3) hav3) hav3) hav3⟩, ext_set8 E0 (Nat.le_succ _) _ _ _ _ _ _ _ _⟩
      · have hltz : ¬ (k : Int) < (n : Int) := by omega
        have hkn : k = n := by omega
        have z8 := hZ.out
        have r0 := cell_of_cells z8 0 (v := .slice none 0 0) rfl
        have r1 := cell_of_cells z8 1 (v := .slice none 0 0) rfl
        have r2 := cell_of_cells z8 2 (v := .int .i64 0) rfl
        have r3 := cell_of_cells z8 3 (v := .slice none 0 0) rfl
        have r4 := cell_of_cells z8 4 (v := .int .i64 0) rfl
        have r5 := cell_of_cells z8 5 (v := .int .i64 0) rfl
        have r6 := cell_of_cells z8 6 (v := .int .i64 0) rfl
        have r7 := cell_of_cells z8 7 (v := .int .i64 0) rfl
        have rf0 := free_of_cells z8 0
        have rf1 := free_of_cells z8 1
        have rf2 := free_of_cells z8 2
        have rf3 := free_of_cells z8 3
        have rf4 := free_of_cells z8 4
        have rf5 := free_of_cells z8 5
        have rf6 := free_of_cells z8 6
        have rf7 := free_of_cells z8 7
        have hx : runQ n s = t := by rw [← hkn]; exact HT.out
        have HX := Lib.hid hx
        clear z8 hx hkn
        go_wp2_with fail
        refine bodyPost_ret (v := .tuple #[sv d1 d2 d3 t.store.length e1 t.tape.length e2 t.printed.length e3 t.taken t.time t.at_ t.done t.why, .int .i64 0]) (by simp [results, Try.results24, go_sem, r0, r1, r2, r3, r4, r5, r6, r7]) rfl ?_
        rw [HX.out]
        obtain ⟨hav1, hav2, hav3⟩ := hav
        exact ⟨_, rfl, ⟨d1, d2, d3, e1, e2, e3, rfl, ints_av (ints_av (ints_av (ints_av (ints_av (ints_av (ints_av (ints_av j1 hav1) hav1) hav1) hav1) hav1) hav1) hav1) hav1,
          ints_av (ints_av (ints_av (ints_av (ints_av (ints_av (ints_av (ints_av j2 hav2) hav2) hav2) hav2) hav2) hav2) hav2) hav2,
          ints_av (ints_av (ints_av (ints_av (ints_av (ints_av (ints_av (ints_av j3 hav3) hav3) hav3) hav3) hav3) hav3) hav3) hav3⟩, ext_set8 E0 (Nat.le_succ _) _ _ _ _ _ _ _ _⟩
  · rw [if_neg he]
    have he' : (er != 0) = true := by simpa using he
    clear hok hr he
    go_enter Try.func24, Try.ntmps24
    go_wp2_with fail
    refine (ha _ (by repeat (first | with_reducible exact Ext.refl _ | with_reducible refine Ext.alloc ?_ _ | with_reducible refine Below.drew ?_))).mono ?_
    rintro e w1 ⟨rfl, E1⟩
    have r0 := box_at2 (v := .slice none 0 0) E1 0 rfl
    have r1 := box_at2 (v := .slice none 0 0) E1 1 rfl
    have r2 := box_at2 (v := .int .i64 0) E1 2 rfl
    have r3 := box_at2 (v := .slice none 0 0) E1 3 rfl
    have r4 := box_at2 (v := .int .i64 0) E1 4 rfl
    have r5 := box_at2 (v := .int .i64 0) E1 5 rfl
    have r6 := box_at2 (v := .int .i64 0) E1 6 rfl
    have r7 := box_at2 (v := .int .i64 0) E1 7 rfl
    have rf0 := box_free2 E1 0
    have rf1 := box_free2 E1 1
    have rf2 := box_free2 E1 2
    have rf3 := box_free2 E1 3
    have rf4 := box_free2 E1 4
    have rf5 := box_free2 E1 5
    have rf6 := box_free2 E1 6
    have rf7 := box_free2 E1 7
    go_wp2_with fail
    refine bodyPost_ret (v := .tuple #[.agg #[.slice none 0 0, .slice none 0 0, .int .i64 0, .slice none 0 0, .int .i64 0, .int .i64 0, .int .i64 0, .int .i64 0], .int .i64 er]) (by simp [results, Try.results24, go_sem, r0, r1, r2, r3, r4, r5, r6, r7]) rfl ?_
    exact ⟨_, rfl, ⟨none, none, none, 0, 0, 0, rfl, .inl rfl, .inl rfl, .inl rfl⟩, ext_set8 E1.old.old (by omega) _ _ _ _ _ _ _ _⟩
end Go.Proofs.Ytpdkgoeoddeebaa

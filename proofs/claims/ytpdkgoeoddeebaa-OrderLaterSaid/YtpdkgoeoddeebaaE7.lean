/- Contract: OrderLater returns true. -/
import Derived.Test.YtpdkgoeoddeebaaE6
import Derived.Test.YtpdkgoeoddeebaaSpec4h
import Derived.Outline
set_option linter.unusedVariables false
set_option linter.unusedSimpArgs false
namespace Go.Proofs.Ytpdkgoeoddeebaa
open Go.RowKit Go.Q

theorem later_valid {s : St} (h : Valid s) {k : Int} (h0 : 0 ≤ k) (h1 : s.time + 16 * k ≤ 1000000000) : Valid (later k s) := by
  have ht := h.time
  have hd := h.done
  have hp := h.place
  exact ⟨h.len, h.tlen, h.plen, h.ws, h.wt, h.wp, h.taken, ⟨by show 0 ≤ s.time + 16 * k; omega, h1⟩, h.at_, ⟨h.done.1, by show s.done ≤ s.time + 16 * k; omega⟩, h.why, by show (s.time + 16 * k) % 16 = s.at_ % 16; omega⟩
theorem StAt.at_time {w : World} {a1 a2 a3 : Option Addr} {n1 k1 n2 k2 n3 k3 : Nat} {tk tm at_ dn wy : Int} {s : St} (h : StAt w (sv a1 a2 a3 n1 k1 n2 k2 n3 k3 tk tm at_ dn wy) s) (x : Int) :
    StAt w (sv a1 a2 a3 n1 k1 n2 k2 n3 k3 tk x at_ dn wy) { s with time := x } := by
  obtain ⟨b1, b2, b3, l1, l2, l3, e, h1, h2, h3⟩ := h
  unfold sv at e
  simp only [Value.agg.injEq] at e
  obtain ⟨rfl, rfl, rfl⟩ : a1 = b1 ∧ a2 = b2 ∧ a3 = b3 := by simp at e; exact ⟨e.1.1, e.2.1.1, e.2.2.2.1.1⟩
  simp at e
  refine ⟨a1, a2, a3, l1, l2, l3, ?_, h1, h2, h3⟩
  simp [sv, e]

set_option maxRecDepth 100000 in
set_option maxHeartbeats 4000000 in
theorem later_any (v : Value) (s : St) (x y : Int) (w : World) (h : StAt w v s) (hb : StBd s) (hx : 0 ≤ x ∧ x ≤ 65535) (hy : 0 ≤ y ∧ y ≤ 65535) :
    Calls Try.prog 10 #[v, .agg #[.int .u16 x, .int .u16 y]] w fun e w' => e = .returned (.bool true) ∧ Ext w w' := by
  obtain ⟨x, rfl⟩ := Int.eq_ofNat_of_zero_le hx.1
  have h1 := fun W (E : Ext w W) => runE_any v s ((x % 5001 : Nat) : Int) W (h.ext E) hb
  have e1 : ((x % 5001 : Nat) : Int) = (x : Int) % 5001 := by omega
  have A0 := h
  obtain ⟨a1, a2, a3, k1, k2, k3, rfl, i1, i2, i3⟩ := h
  rcases runE_ways s (x % 5001) (by omega) with ⟨er, he, hr⟩ | ⟨hv, hr⟩
  · rw [hr, e1] at h1
    have he' : (er == 0) = false := by simpa using he
    have he2 : (er != 0) = true := by simpa using he
    clear hr he e1
    go_enter Try.func10, Try.ntmps10
    go_wp2_with fail
    refine (h1 _ (by repeat (first | with_reducible exact Ext.refl _ | with_reducible refine Ext.alloc ?_ _ | with_reducible refine Below.drew ?_))).mono ?_
    rintro e w1 ⟨v1, rfl, ⟨b1, b2, b3, l1, l2, l3, rfl, _, _, _⟩, E1⟩
    clear h1
    go_wp2_with (go_at_call 19; refine (awake_any _).mono ?_; rintro e w2 ⟨rfl, E2⟩)
    go_ret
    exact ⟨rfl, E1.old.old.comp E2.old⟩
  · rw [hr, e1] at h1
    have htime := hv.time
    by_cases hl : s.time + 16 * y ≤ 1000000000
    · have hv2 := later_valid hv hy.1 hl
      have hb2 := valid_bd hv2
      have g1 := fun W V (A : StAt W V (later y s)) => runE_any V (later y s) ((x % 5001 : Nat) : Int) W A hb2
      rw [runE_valid hv2 (x % 5001) (by omega), e1] at g1
      have hrl := run_later y (x % 5001) s
      have tv := runQ_valid (x % 5001) hv
      have uv := runQ_valid (x % 5001) hv2
      have g2 := fun W V V' (A : StAt W V (runQ (x % 5001) s)) (B : StAt W V' (runQ (x % 5001) s)) => states_same V V' (runQ (x % 5001) s) W A B (valid_bd tv)
      have utime := uv.time
      have hu2 : (runQ (x % 5001) s).why ≠ 4 → (runQ (x % 5001) (later y s)).why ≠ 4 → { runQ (x % 5001) (later y s) with time := (runQ (x % 5001) (later y s)).time - 16 * y } = runQ (x % 5001) s := fun p q => by
        rw [hrl p q]
        show ({ (runQ (x % 5001) s) with time := (runQ (x % 5001) s).time + 16 * y - 16 * y } : St) = _
        rw [show (runQ (x % 5001) s).time + 16 * y - 16 * y = (runQ (x % 5001) s).time by omega]
      have HU := Lib.hid hu2
      clear hr hv hv2 hrl hu2 hb2 tv uv e1
      generalize runQ (x % 5001) s = t at *
      generalize runQ (x % 5001) (later y s) = u at *
      by_cases p : t.why = 4
      · have b6 : (t.why == 4) = true := by simpa using p
        clear p g2
        go_enter Try.func10, Try.ntmps10
        go_wp2_with fail
        refine (h1 _ (by repeat (first | with_reducible exact Ext.refl _ | with_reducible refine Ext.alloc ?_ _ | with_reducible refine Below.drew ?_))).mono ?_
        rintro e w1 ⟨v1, rfl, A1, E1⟩
        obtain ⟨b1, b2, b3, l1, l2, l3, rfl, A2, A3, A4⟩ := id A1
        clear h1
        have q0 := box_at (v := .slice a1 s.store.length k1) E1.old 0 rfl
        have q1 := box_at (v := .slice a2 s.tape.length k2) E1.old 1 rfl
        have q2 := box_at (v := .int .i64 s.taken) E1.old 2 rfl
        have q3 := box_at (v := .slice a3 s.printed.length k3) E1.old 3 rfl
        have q4 := box_at (v := .int .i64 s.time) E1.old 4 rfl
        have q5 := box_at (v := .int .i64 s.at_) E1.old 5 rfl
        have q6 := box_at (v := .int .i64 s.done) E1.old 6 rfl
        have q7 := box_at (v := .int .i64 s.why) E1.old 7 rfl
        have r0 := box_at2 (v := .int .u16 x) E1 0 rfl
        have r1 := box_at2 (v := .int .u16 y) E1 1 rfl
        have hz0 : w.heap.size < w1.heap.size := by have := E1.size; simp at this; omega
        have hz1 : w.heap.size + 1 < w1.heap.size := by have := E1.size; simp at this; omega
        go_wp2_with fail
        refine (g1 _ _ ⟨a1, a2, a3, k1, k2, k3, rfl, i1.ext (by repeat (first | with_reducible exact E1.old.old | with_reducible refine Ext.alloc ?_ _ | with_reducible refine Below.drew ?_)), i2.ext (by repeat (first | with_reducible exact E1.old.old | with_reducible refine Ext.alloc ?_ _ | with_reducible refine Below.drew ?_)), i3.ext (by repeat (first | with_reducible exact E1.old.old | with_reducible refine Ext.alloc ?_ _ | with_reducible refine Below.drew ?_))⟩).mono ?_
        rintro e w2 ⟨v2, rfl, B1, E2⟩
        clear g1
        obtain ⟨c1, c2, c3, m1, m2, m3, rfl, B2, B3, B4⟩ := id B1
        have p0 := box_at (v := .slice b1 t.store.length l1) E2.old 0 rfl
        have p1 := box_at (v := .slice b2 t.tape.length l2) E2.old 1 rfl
        have p2 := box_at (v := .int .i64 t.taken) E2.old 2 rfl
        have p3 := box_at (v := .slice b3 t.printed.length l3) E2.old 3 rfl
        have p4 := box_at (v := .int .i64 t.time) E2.old 4 rfl
        have p5 := box_at (v := .int .i64 t.at_) E2.old 5 rfl
        have p6 := box_at (v := .int .i64 t.done) E2.old 6 rfl
        have p7 := box_at (v := .int .i64 t.why) E2.old 7 rfl
        have hu0 : w1.heap.size < w2.heap.size := by have := E2.size; simp at this; omega
        have hu1 : w1.heap.size + 1 < w2.heap.size := by have := E2.size; simp at this; omega
        clear q0 q1 q2 q3 q4 q5 q6 q7
        clear r0 r1
        have E02 := E1.old.old.comp E2.old.old
        have E12 : Ext ((w.alloc (.cells #[.slice a1 s.store.length k1, .slice a2 s.tape.length k2, .int .i64 s.taken, .slice a3 s.printed.length k3, .int .i64 s.time, .int .i64 s.at_, .int .i64 s.done, .int .i64 s.why] 24)).alloc (.cells #[.int .u16 x, .int .u16 y] 41)) w2 := E1.comp E2.old.old
        have r0 := box_at2 (v := .int .u16 x) E12 0 rfl
        have r1 := box_at2 (v := .int .u16 y) E12 1 rfl
        have hv0 : w.heap.size < w2.heap.size := by have := E12.size; simp at this; omega
        have hv1 : w.heap.size + 1 < w2.heap.size := by have := E12.size; simp at this; omega
        go_wp2_with (go_at_call 19; refine (awake_any _).mono ?_; rintro e w3 ⟨rfl, E3⟩)
        go_ret
        exact ⟨rfl, E02.comp E3.old⟩
      by_cases q : u.why = 4
      · have b6 : (t.why == 4) = false := by simpa using p
        have b7 : (u.why == 4) = true := by simpa using q
        clear p q g2
        go_enter Try.func10, Try.ntmps10
        go_wp2_with fail
        refine (h1 _ (by repeat (first | with_reducible exact Ext.refl _ | with_reducible refine Ext.alloc ?_ _ | with_reducible refine Below.drew ?_))).mono ?_
        rintro e w1 ⟨v1, rfl, A1, E1⟩
        obtain ⟨b1, b2, b3, l1, l2, l3, rfl, A2, A3, A4⟩ := id A1
        clear h1
        have q0 := box_at (v := .slice a1 s.store.length k1) E1.old 0 rfl
        have q1 := box_at (v := .slice a2 s.tape.length k2) E1.old 1 rfl
        have q2 := box_at (v := .int .i64 s.taken) E1.old 2 rfl
        have q3 := box_at (v := .slice a3 s.printed.length k3) E1.old 3 rfl
        have q4 := box_at (v := .int .i64 s.time) E1.old 4 rfl
        have q5 := box_at (v := .int .i64 s.at_) E1.old 5 rfl
        have q6 := box_at (v := .int .i64 s.done) E1.old 6 rfl
        have q7 := box_at (v := .int .i64 s.why) E1.old 7 rfl
        have r0 := box_at2 (v := .int .u16 x) E1 0 rfl
        have r1 := box_at2 (v := .int .u16 y) E1 1 rfl
        have hz0 : w.heap.size < w1.heap.size := by have := E1.size; simp at this; omega
        have hz1 : w.heap.size + 1 < w1.heap.size := by have := E1.size; simp at this; omega
        go_wp2_with fail
        refine (g1 _ _ ⟨a1, a2, a3, k1, k2, k3, rfl, i1.ext (by repeat (first | with_reducible exact E1.old.old | with_reducible refine Ext.alloc ?_ _ | with_reducible refine Below.drew ?_)), i2.ext (by repeat (first | with_reducible exact E1.old.old | with_reducible refine Ext.alloc ?_ _ | with_reducible refine Below.drew ?_)), i3.ext (by repeat (first | with_reducible exact E1.old.old | with_reducible refine Ext.alloc ?_ _ | with_reducible refine Below.drew ?_))⟩).mono ?_
        rintro e w2 ⟨v2, rfl, B1, E2⟩
        clear g1
        obtain ⟨c1, c2, c3, m1, m2, m3, rfl, B2, B3, B4⟩ := id B1
        have p0 := box_at (v := .slice b1 t.store.length l1) E2.old 0 rfl
        have p1 := box_at (v := .slice b2 t.tape.length l2) E2.old 1 rfl
        have p2 := box_at (v := .int .i64 t.taken) E2.old 2 rfl
        have p3 := box_at (v := .slice b3 t.printed.length l3) E2.old 3 rfl
        have p4 := box_at (v := .int .i64 t.time) E2.old 4 rfl
        have p5 := box_at (v := .int .i64 t.at_) E2.old 5 rfl
        have p6 := box_at (v := .int .i64 t.done) E2.old 6 rfl
        have p7 := box_at (v := .int .i64 t.why) E2.old 7 rfl
        have hu0 : w1.heap.size < w2.heap.size := by have := E2.size; simp at this; omega
        have hu1 : w1.heap.size + 1 < w2.heap.size := by have := E2.size; simp at this; omega
        clear q0 q1 q2 q3 q4 q5 q6 q7
        clear r0 r1
        have E02 := E1.old.old.comp E2.old.old
        have E12 : Ext ((w.alloc (.cells #[.slice a1 s.store.length k1, .slice a2 s.tape.length k2, .int .i64 s.taken, .slice a3 s.printed.length k3, .int .i64 s.time, .int .i64 s.at_, .int .i64 s.done, .int .i64 s.why] 24)).alloc (.cells #[.int .u16 x, .int .u16 y] 41)) w2 := E1.comp E2.old.old
        have r0 := box_at2 (v := .int .u16 x) E12 0 rfl
        have r1 := box_at2 (v := .int .u16 y) E12 1 rfl
        have hv0 : w.heap.size < w2.heap.size := by have := E12.size; simp at this; omega
        have hv1 : w.heap.size + 1 < w2.heap.size := by have := E12.size; simp at this; omega
        go_wp2_with (go_at_call 19; refine (awake_any _).mono ?_; rintro e w3 ⟨rfl, E3⟩)
        go_ret
        exact ⟨rfl, E02.comp E3.old⟩
      · have b6 : (t.why == 4) = false := by simpa using p
        have b7 : (u.why == 4) = false := by simpa using q
        have hu := HU.out p q
        rw [← hu] at g2
        have HE := Lib.hid hu
        clear p q hu HU
        go_enter Try.func10, Try.ntmps10
        go_wp2_with fail
        refine (h1 _ (by repeat (first | with_reducible exact Ext.refl _ | with_reducible refine Ext.alloc ?_ _ | with_reducible refine Below.drew ?_))).mono ?_
        rintro e w1 ⟨v1, rfl, A1, E1⟩
        rw [← HE.out] at A1
        obtain ⟨b1, b2, b3, l1, l2, l3, rfl, A2, A3, A4⟩ := id A1
        clear h1
        have q0 := box_at (v := .slice a1 s.store.length k1) E1.old 0 rfl
        have q1 := box_at (v := .slice a2 s.tape.length k2) E1.old 1 rfl
        have q2 := box_at (v := .int .i64 s.taken) E1.old 2 rfl
        have q3 := box_at (v := .slice a3 s.printed.length k3) E1.old 3 rfl
        have q4 := box_at (v := .int .i64 s.time) E1.old 4 rfl
        have q5 := box_at (v := .int .i64 s.at_) E1.old 5 rfl
        have q6 := box_at (v := .int .i64 s.done) E1.old 6 rfl
        have q7 := box_at (v := .int .i64 s.why) E1.old 7 rfl
        have r0 := box_at2 (v := .int .u16 x) E1 0 rfl
        have r1 := box_at2 (v := .int .u16 y) E1 1 rfl
        have hz0 : w.heap.size < w1.heap.size := by have := E1.size; simp at this; omega
        have hz1 : w.heap.size + 1 < w1.heap.size := by have := E1.size; simp at this; omega
        go_wp2_with fail
        refine (g1 _ _ ⟨a1, a2, a3, k1, k2, k3, rfl, i1.ext (by repeat (first | with_reducible exact E1.old.old | with_reducible refine Ext.alloc ?_ _ | with_reducible refine Below.drew ?_)), i2.ext (by repeat (first | with_reducible exact E1.old.old | with_reducible refine Ext.alloc ?_ _ | with_reducible refine Below.drew ?_)), i3.ext (by repeat (first | with_reducible exact E1.old.old | with_reducible refine Ext.alloc ?_ _ | with_reducible refine Below.drew ?_))⟩).mono ?_
        rintro e w2 ⟨v2, rfl, B1, E2⟩
        clear g1
        obtain ⟨c1, c2, c3, m1, m2, m3, rfl, B2, B3, B4⟩ := id B1
        have p0 := box_at (v := .slice b1 u.store.length l1) E2.old 0 rfl
        have p1 := box_at (v := .slice b2 u.tape.length l2) E2.old 1 rfl
        have p2 := box_at (v := .int .i64 u.taken) E2.old 2 rfl
        have p3 := box_at (v := .slice b3 u.printed.length l3) E2.old 3 rfl
        have p4 := box_at (v := .int .i64 (u.time - 16 * y)) E2.old 4 rfl
        have p5 := box_at (v := .int .i64 u.at_) E2.old 5 rfl
        have p6 := box_at (v := .int .i64 u.done) E2.old 6 rfl
        have p7 := box_at (v := .int .i64 u.why) E2.old 7 rfl
        have hu0 : w1.heap.size < w2.heap.size := by have := E2.size; simp at this; omega
        have hu1 : w1.heap.size + 1 < w2.heap.size := by have := E2.size; simp at this; omega
        clear q0 q1 q2 q3 q4 q5 q6 q7
        clear r0 r1
        have E02 := E1.old.old.comp E2.old.old
        have E12 : Ext ((w.alloc (.cells #[.slice a1 s.store.length k1, .slice a2 s.tape.length k2, .int .i64 s.taken, .slice a3 s.printed.length k3, .int .i64 s.time, .int .i64 s.at_, .int .i64 s.done, .int .i64 s.why] 24)).alloc (.cells #[.int .u16 x, .int .u16 y] 41)) w2 := E1.comp E2.old.old
        have r0 := box_at2 (v := .int .u16 x) E12 0 rfl
        have r1 := box_at2 (v := .int .u16 y) E12 1 rfl
        have hv0 : w.heap.size < w2.heap.size := by have := E12.size; simp at this; omega
        have hv1 : w.heap.size + 1 < w2.heap.size := by have := E12.size; simp at this; omega
        go_wp2_with fail
        refine (g2 _ _ _ (A1.ext (by repeat (first | with_reducible exact E2.old.old | with_reducible refine Ext.alloc ?_ _ | with_reducible refine Below.drew ?_))) ⟨c1, c2, c3, m1, m2, m3, rfl, B2.ext (by repeat (first | with_reducible exact Ext.refl _ | with_reducible refine Ext.alloc ?_ _ | with_reducible refine Below.drew ?_)), B3.ext (by repeat (first | with_reducible exact Ext.refl _ | with_reducible refine Ext.alloc ?_ _ | with_reducible refine Below.drew ?_)), B4.ext (by repeat (first | with_reducible exact Ext.refl _ | with_reducible refine Ext.alloc ?_ _ | with_reducible refine Below.drew ?_))⟩).mono ?_
        rintro e w3 ⟨rfl, E3⟩
        go_wp2_with (go_at_call 19; refine (awake_any _).mono ?_; rintro e w4 ⟨rfl, E4⟩)
        go_ret
        exact ⟨rfl, E02.comp (E3.old.comp E4)⟩
    · have hl' : 1000000000 < s.time + 16 * y := by omega
      clear hr hv hl
      go_enter Try.func10, Try.ntmps10
      go_wp2_with fail
      refine (h1 _ (by repeat (first | with_reducible exact Ext.refl _ | with_reducible refine Ext.alloc ?_ _ | with_reducible refine Below.drew ?_))).mono ?_
      rintro e w1 ⟨v1, rfl, ⟨b1, b2, b3, l1, l2, l3, rfl, _, _, _⟩, E1⟩
      clear h1
      have q0 := box_at (v := .slice a1 s.store.length k1) E1.old 0 rfl
      have q1 := box_at (v := .slice a2 s.tape.length k2) E1.old 1 rfl
      have q2 := box_at (v := .int .i64 s.taken) E1.old 2 rfl
      have q3 := box_at (v := .slice a3 s.printed.length k3) E1.old 3 rfl
      have q4 := box_at (v := .int .i64 s.time) E1.old 4 rfl
      have q5 := box_at (v := .int .i64 s.at_) E1.old 5 rfl
      have q6 := box_at (v := .int .i64 s.done) E1.old 6 rfl
      have q7 := box_at (v := .int .i64 s.why) E1.old 7 rfl
      have r0 := box_at2 (v := .int .u16 x) E1 0 rfl
      have r1 := box_at2 (v := .int .u16 y) E1 1 rfl
      have hz0 : w.heap.size < w1.heap.size := by have := E1.size; simp at this; omega
      have hz1 : w.heap.size + 1 < w1.heap.size := by have := E1.size; simp at this; omega
      go_wp2_with (go_at_call 19; refine (awake_any _).mono ?_; rintro e w2 ⟨rfl, E2⟩)
      go_ret
      exact ⟨rfl, E1.old.old.comp E2.old⟩
end Go.Proofs.Ytpdkgoeoddeebaa

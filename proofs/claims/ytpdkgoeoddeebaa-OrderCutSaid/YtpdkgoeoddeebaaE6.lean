/- Contract: OrderEnded returns true. -/
import Derived.Test.YtpdkgoeoddeebaaD2
import Derived.Test.YtpdkgoeoddeebaaG1
import Derived.Outline
set_option linter.unusedVariables false
set_option linter.unusedSimpArgs false
namespace Go.Proofs.Ytpdkgoeoddeebaa
open Go.RowKit Go.Q

theorem valid_bd {s : St} (h : Valid s) : StBd s := ⟨by rw [h.len]; decide, Nat.le_trans h.tlen (by decide), Nat.le_trans h.plen (by decide)⟩
/-- what Run returns, in two ways -/
theorem runE_ways (s : St) (n : Nat) (hn : n ≤ 5000) : (∃ er, er ≠ 0 ∧ runE s n = (zst, er)) ∨ (Valid s ∧ runE s n = (runQ n s, 0)) := by
  by_cases h : askedQ s n = 0
  · exact .inr ⟨valid_of_check (asked_ok h).1, by simp [runE, h]⟩
  · exact .inl ⟨_, h, by simp [runE, h]⟩
theorem runE_valid {s : St} (h : Valid s) (n : Nat) (hn : n ≤ 5000) : runE s n = (runQ n s, 0) := by
  have : askedQ s n = 0 := asked_of_valid h (by omega)
  simp [runE, this]

set_option maxRecDepth 100000 in
set_option maxHeartbeats 4000000 in
theorem ended_any (v : Value) (s : St) (x y : Int) (w : World) (h : StAt w v s) (hb : StBd s) (hx : 0 ≤ x ∧ x ≤ 65535) (hy : 0 ≤ y ∧ y ≤ 65535) :
    Calls Try.prog 6 #[v, .agg #[.int .u16 x, .int .u16 y]] w fun e w' => e = .returned (.bool true) ∧ Ext w w' := by
  obtain ⟨x, rfl⟩ := Int.eq_ofNat_of_zero_le hx.1
  obtain ⟨y, rfl⟩ := Int.eq_ofNat_of_zero_le hy.1
  have h1 := fun W (E : Ext w W) => runE_any v s ((x % 5001 : Nat) : Int) W (h.ext E) hb
  have e1 : ((x % 5001 : Nat) : Int) = (x : Int) % 5001 := by omega
  have e2 : ((y % 5001 : Nat) : Int) = (y : Int) % 5001 := by omega
  obtain ⟨a1, a2, a3, k1, k2, k3, rfl, i1, i2, i3⟩ := h
  rcases runE_ways s (x % 5001) (by omega) with ⟨er, he, hr⟩ | ⟨hv, hr⟩
  · rw [hr, e1] at h1
    have he' : (er == 0) = false := by simpa using he
    have he2 : (er != 0) = true := by simpa using he
    clear hr he e1 e2
    go_enter Try.func6, Try.ntmps6
    go_wp2_with fail
    refine (h1 _ (by repeat (first | with_reducible exact Ext.refl _ | with_reducible refine Ext.alloc ?_ _ | with_reducible refine Below.drew ?_))).mono ?_
    rintro e w1 ⟨v1, rfl, ⟨b1, b2, b3, l1, l2, l3, rfl, _, _, _⟩, E1⟩
    clear h1
    go_wp2_with (go_at_call 19; refine (awake_any _).mono ?_; rintro e w2 ⟨rfl, E2⟩)
    go_ret
    exact ⟨rfl, E1.old.old.comp E2.old⟩
  · rw [hr, e1] at h1
    obtain ⟨r1, r2, r3, r4⟩ := runQ_done (x % 5001) s
    have ht := runQ_valid (x % 5001) hv
    have g1 := fun W V (A : StAt W V (runQ (x % 5001) s)) => runE_any V (runQ (x % 5001) s) ((y % 5001 : Nat) : Int) W A (valid_bd ht)
    rw [runE_valid ht (y % 5001) (by omega), e2] at g1
    have g2 := fun W V V' (A : StAt W V (runQ (x % 5001) s)) (B : StAt W V' (runQ (x % 5001) s)) => states_same V V' (runQ (x % 5001) s) W A B (valid_bd ht)
    rw [e1] at r2 r4
    have hdone := hv.done
    have htime := hv.time
    clear hv hr e1 e2
    generalize runQ (x % 5001) s = t at *
    have hl := ht.len
    have htd := ht.done
    have htt := ht.time
    by_cases hy0 : t.why = 0
    · have r5 := r4 hy0
      have b5 : (t.done - s.done == (x : Int) % 5001) = true := by rw [beq_iff_eq]; omega
      have b6 : (t.why == 0) = true := by simpa using hy0
      clear r4 r5 hy0 g1 g2
      go_enter Try.func6, Try.ntmps6
      go_wp2_with fail
      refine (h1 _ (by repeat (first | with_reducible exact Ext.refl _ | with_reducible refine Ext.alloc ?_ _ | with_reducible refine Below.drew ?_))).mono ?_
      rintro e w1 ⟨v1, rfl, ⟨b1, b2, b3, l1, l2, l3, rfl, _, _, _⟩, E1⟩
      clear h1
      have q0 := box_at (v := .slice a1 s.store.length k1) E1.old 0 rfl
      have q1 := box_at (v := .slice a2 s.tape.length k2) E1.old 1 rfl
      have q2 := box_at (v := .int .i64 s.taken) E1.old 2 rfl
      have q3 := box_at (v := .slice a3 s.printed.length k3) E1.old 3 rfl
      have q4 := box_at (v := .int .i64 s.time) E1.old 4 rfl
      have q5 := box_at (v := .int .i64 s.at_) E1.old 5 rfl
      have q6 := box_at (v := .int .i64 s.done) E1.old 6 rfl
      have q7 := box_at (v := .int .i64 s.why) E1.old 7 rfl
      have hz0 : w.heap.size < w1.heap.size := by have := E1.size; simp at this; omega
      have hz1 : w.heap.size + 1 < w1.heap.size := by have := E1.size; simp at this; omega
      go_wp2_with (go_at_call 19; refine (awake_any _).mono ?_; rintro e w2 ⟨rfl, E2⟩)
      go_ret
      exact ⟨rfl, E1.old.old.comp E2.old⟩
    · have b6 : (t.why == 0) = false := by simpa using hy0
      rw [runQ_end hy0] at g1
      clear r4 hy0 hl
      go_enter Try.func6, Try.ntmps6
      go_wp2_with fail
      refine (h1 _ (by repeat (first | with_reducible exact Ext.refl _ | with_reducible refine Ext.alloc ?_ _ | with_reducible refine Below.drew ?_))).mono ?_
      rintro e w1 ⟨v1, rfl, A1, E1⟩
      obtain ⟨b1, b2, b3, l1, l2, l3, rfl, A2, A3, A4⟩ := id A1
      clear h1
      have q0 := box_at (v := .slice a1 s.store.length k1) E1.old 0 rfl
      have q1 := box_at (v := .slice a2 s.tape.length k2) E1.old 1 rfl
      have q2 := box_at (v := .int .i64 s.taken) E1.old 2 rfl
      have q3 := box_at (v := .slice a3 s.printed.length k3) E1.old 3 rfl
      have q4 := box_at (v := .int .i64 s.time) E1.old 4 rfl
      have q5 := box_at (v := .int .i64 s.at_) E1.old 5 rfl
      have q6 := box_at (v := .int .i64 s.done) E1.old 6 rfl
      have q7 := box_at (v := .int .i64 s.why) E1.old 7 rfl
      have r0 := box_at2 (v := .int .u16 x) E1 0 rfl
      have r1 := box_at2 (v := .int .u16 y) E1 1 rfl
      have hz0 : w.heap.size < w1.heap.size := by have := E1.size; simp at this; omega
      have hz1 : w.heap.size + 1 < w1.heap.size := by have := E1.size; simp at this; omega
      go_wp2_with fail
      refine (g1 _ _ (A1.ext (by repeat (first | with_reducible exact Ext.refl _ | with_reducible refine Ext.alloc ?_ _ | with_reducible refine Below.drew ?_)))).mono ?_
      rintro e w2 ⟨v2, rfl, B1, E2⟩
      obtain ⟨c1, c2, c3, m1, m2, m3, rfl, _, _, _⟩ := id B1
      have p0 := box_at (v := .slice b1 t.store.length l1) E2 0 rfl
      have p1 := box_at (v := .slice b2 t.tape.length l2) E2 1 rfl
      have p2 := box_at (v := .int .i64 t.taken) E2 2 rfl
      have p3 := box_at (v := .slice b3 t.printed.length l3) E2 3 rfl
      have p4 := box_at (v := .int .i64 t.time) E2 4 rfl
      have p5 := box_at (v := .int .i64 t.at_) E2 5 rfl
      have p6 := box_at (v := .int .i64 t.done) E2 6 rfl
      have p7 := box_at (v := .int .i64 t.why) E2 7 rfl
      have hu0 : w1.heap.size < w2.heap.size := by have := E2.size; simp at this; omega
      clear q0 q1 q2 q3 q4 q5 q6 q7
      clear r0 r1
      go_wp2_with fail
      refine (g2 _ _ _ (A1.ext (by repeat (first | with_reducible exact E2.old | with_reducible refine Ext.alloc ?_ _ | with_reducible refine Below.drew ?_))) (B1.ext (by repeat (first | with_reducible exact Ext.refl _ | with_reducible refine Ext.alloc ?_ _ | with_reducible refine Below.drew ?_)))).mono ?_
      rintro e w3 ⟨rfl, E3⟩
      go_wp2_with (go_at_call 19; refine (awake_any _).mono ?_; rintro e w4 ⟨rfl, E4⟩)
      go_ret
      refine ⟨rfl, ?_⟩
      refine Ext.comp (by first | with_reducible exact E1 | with_reducible exact E1.old | with_reducible exact E1.old.old | with_reducible exact E1.old.old.old) ?_
      refine Ext.comp (by first | with_reducible exact E2 | with_reducible exact E2.old | with_reducible exact E2.old.old | with_reducible exact E2.old.old.old) ?_
      refine Ext.comp (by first | with_reducible exact E3 | with_reducible exact E3.old | with_reducible exact E3.old.old | with_reducible exact E3.old.old.old) ?_
      exact (by first | with_reducible exact E4 | with_reducible exact E4.old | with_reducible exact E4.old.old | with_reducible exact E4.old.old.old)
end Go.Proofs.Ytpdkgoeoddeebaa

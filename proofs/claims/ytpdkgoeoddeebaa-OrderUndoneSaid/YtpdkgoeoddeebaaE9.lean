/- Contract: OrderUndone returns true. -/
import Derived.Test.YtpdkgoeoddeebaaE8
import Derived.Outline
set_option linter.unusedVariables false
set_option linter.unusedSimpArgs false
namespace Go.Proofs.Ytpdkgoeoddeebaa
open Go.RowKit Go.Q

theorem un_begin {a b : Int} (ha : 0 ≤ a ∧ a ≤ 16777215) (hb : 0 ≤ b ∧ b ≤ 16777215) : beginQ [4260481, 6357634, 2179843, 6357511, a, b, 0, 0] [] 0 = (un a b 0 0 0 0 0, 0) ∧ Valid (un a b 0 0 0 0 0) := by
  have h := begin_valid (st := [4260481, 6357634, 2179843, 6357511, a, b, 0, 0]) (tp := []) (start := 0) (by simp) (by simp) (by
    intro x hx
    simp only [List.mem_cons, List.not_mem_nil, or_false] at hx
    rcases hx with rfl | rfl | rfl | rfl | rfl | rfl | rfl | rfl
    · decide
    · decide
    · decide
    · decide
    · exact ha
    · exact hb
    · decide
    · decide) (by simp) (by decide)
  exact h
theorem un_bad {a b : Int} (h : ¬ ((0 ≤ a ∧ a ≤ 16777215) ∧ (0 ≤ b ∧ b ≤ 16777215))) : beginQ [4260481, 6357634, 2179843, 6357511, a, b, 0, 0] [] 0 = (zst, 7) := by
  unfold beginQ
  rw [if_pos (by simp), if_neg]
  rintro ⟨h1, _⟩
  apply h
  simp [outB] at h1
  omega
theorem un_form {w : World} {v : Value} {x y z t a d wy : Int} (h : StAt w v (un x y z t a d wy)) : ∃ b off c1 d2 c2 d3 c3, v = sv (some ⟨b, off, none⟩) d2 d3 128 c1 0 c2 0 c3 0 t a d wy ∧ b < w.heap.size ∧
    w.cell? ⟨b, off + 4, none⟩ = some (.int .i64 x) ∧ w.cell? ⟨b, off + 5, none⟩ = some (.int .i64 y) ∧ w.cell? ⟨b, off + 6, none⟩ = some (.int .i64 z) ∧ IntsAt w (some ⟨b, off, none⟩) (un x y z t a d wy).store := by
  obtain ⟨a1, a2, a3, k1, k2, k3, rfl, i1, i2, i3⟩ := h
  have hl : (un x y z t a d wy).store.length = 128 := by simp [un]
  obtain ⟨b, off, rfl, hb, hc⟩ := ints_form i1 (by rw [hl]; decide)
  refine ⟨b, off, k1, a2, k2, a3, k3, by rw [hl]; rfl, hb, hc 4 (by rw [hl]; decide), hc 5 (by rw [hl]; decide), hc 6 (by rw [hl]; decide), i1⟩

set_option maxRecDepth 100000 in
set_option maxHeartbeats 4000000 in
theorem undone_law (a b : Int) (w : World) : Calls Try.prog 8 #[.int .i64 a, .int .i64 b] w fun e w' => e = .returned (.bool true) ∧ Ext w w' := by
  have hw1 := fun W => written_any 2 4 5 1 W (by decide)
  have hw2 := fun W => written_any 3 4 5 2 W (by decide)
  have hw3 := fun W => written_any 1 5 6 3 W (by decide)
  have hw4 := fun W => written_any 3 4 4 7 W (by decide)
  rw [show Q.written ⟨2, 4, 5, 1⟩ = 4260481 by decide] at hw1
  rw [show Q.written ⟨3, 4, 5, 2⟩ = 6357634 by decide] at hw2
  rw [show Q.written ⟨1, 5, 6, 3⟩ = 2179843 by decide] at hw3
  rw [show Q.written ⟨3, 4, 4, 7⟩ = 6357511 by decide] at hw4
  have hbg := fun A W (I : IntsAt W A [4260481, 6357634, 2179843, 6357511, a, b, 0, 0]) => begin_any A none 8 0 8 0 [4260481, 6357634, 2179843, 6357511, a, b, 0, 0] [] 0 W rfl rfl (by decide) (by decide) I (.inl rfl)
  by_cases hab : (0 ≤ a ∧ a ≤ 16777215) ∧ (0 ≤ b ∧ b ≤ 16777215)
  · obtain ⟨ha, hb⟩ := hab
    obtain ⟨hq, hv⟩ := un_begin ha hb
    rw [hq] at hbg
    have hr := fun n (hn : n ≤ 5000) W V (A : StAt W V (un a b 0 0 0 0 0)) => runE_any V (un a b 0 0 0 0 0) n W A (valid_bd hv)
    have hq2 : runE (un a b 0 0 0 0 0) 2 = (un a b 0 34 2 2 0, 0) := by
      have := runE_valid hv 2 (by decide)
      rw [un_two a b hb] at this
      exact this
    have hq9 : runE (un a b 0 0 0 0 0) 9 = (un 0 b b 71 7 4 1, 0) := by
      have := runE_valid hv 9 (by decide)
      rw [un_nine a b hb] at this
      exact this
    have r2 := hr 2 (by decide)
    have r9 := hr 9 (by decide)
    rw [hq2] at r2
    rw [hq9] at r9
    have hbb : (b == b) = true := by simp
    clear hq hv hq2 hq9 hr
    go_enter Try.func8, Try.ntmps8
    go_wp2_with fail
    refine (hw1 _).mono ?_
    rintro e v1 ⟨rfl, F1⟩
    go_wp2_with fail
    refine (hw2 _).mono ?_
    rintro e v2 ⟨rfl, F2⟩
    go_wp2_with fail
    refine (hw3 _).mono ?_
    rintro e v3 ⟨rfl, F3⟩
    go_wp2_with fail
    refine (hw4 _).mono ?_
    rintro e w1 ⟨rfl, F4⟩
    go_wp2_with fail
    refine (hbg _ _ (ints_fresh (w := w1) rfl (Ext.refl _))).mono ?_
    rintro e w2 ⟨v2, rfl, A2, E2⟩
    obtain ⟨b1, o1, l1, d2, l2, d3, l3, rfl, hb1, _, _, _, I1⟩ := un_form A2
    clear hw1 hw2 hw3 hw4 hbg
    go_wp2_with fail
    refine (r2 _ _ (A2.ext (by repeat (first | with_reducible exact Ext.refl _ | with_reducible refine Ext.alloc ?_ _ | with_reducible refine Below.drew ?_)))).mono ?_
    rintro e w3 ⟨v3, rfl, A3, E3⟩
    obtain ⟨b4, o4, l4, d5, l5, d6, l6, rfl, hb4, _, _, _, I4⟩ := un_form A3
    have p0 := box_at (v := .slice (some ⟨b1, o1, none⟩) 128 l1) E3 0 rfl
    have p1 := box_at (v := .slice d2 0 l2) E3 1 rfl
    have p2 := box_at (v := .int .i64 0) E3 2 rfl
    have p3 := box_at (v := .slice d3 0 l3) E3 3 rfl
    have p4 := box_at (v := .int .i64 0) E3 4 rfl
    have p5 := box_at (v := .int .i64 0) E3 5 rfl
    have p6 := box_at (v := .int .i64 0) E3 6 rfl
    have p7 := box_at (v := .int .i64 0) E3 7 rfl
    have hy0 : w2.heap.size < w3.heap.size := by have := E3.size; simp at this; omega
    go_wp2_with fail
    refine (r9 _ _ (A2.ext (by repeat (first | with_reducible exact E3.old | with_reducible refine Ext.alloc ?_ _ | with_reducible refine Below.drew ?_)))).mono ?_
    rintro e w4 ⟨v4, rfl, A4, E4⟩
    obtain ⟨b7, o7, l7, d8, l8, d9, l9, rfl, hb7, c4, c5, c6, I7⟩ := un_form A4
    clear p0 p1 p2 p3 p4 p5 p6 p7
    have E34 := Ext.comp E3 E4.old
    have p0 := box_at (v := .slice (some ⟨b1, o1, none⟩) 128 l1) E34 0 rfl
    have q0 := box_at (v := .slice (some ⟨b4, o4, none⟩) 128 l4) E4 0 rfl
    have hx0 : w2.heap.size < w4.heap.size := by have := E34.size; simp at this; omega
    have hz0 : w3.heap.size < w4.heap.size := by have := E4.size; simp at this; omega
    clear hy0 r2 r9
    go_wp2_with fail
    refine (ints_same (some ⟨b1, o1, none⟩) (some ⟨b4, o4, none⟩) 128 l1 l4 _ _ (by simp [un]) (by decide) (IntsAt.ext I1 (by repeat (first | with_reducible exact E34.old | with_reducible refine Ext.alloc ?_ _ | with_reducible refine Below.drew ?_))) (IntsAt.ext I4 (by repeat (first | with_reducible exact E4.old | with_reducible refine Ext.alloc ?_ _ | with_reducible refine Below.drew ?_)))).mono ?_
    rintro e w5 ⟨rfl, E5⟩
    have k0 := box_at (v := .slice (some ⟨b7, o7, none⟩) 128 l7) E5 0 rfl
    have k6 := box_at (v := .int .i64 4) E5 6 rfl
    have k7 := box_at (v := .int .i64 1) E5 7 rfl
    have c4 := (E5.old.cell (p := ⟨b7, o7 + 4, none⟩) hb7).trans c4
    have c5 := (E5.old.cell (p := ⟨b7, o7 + 5, none⟩) hb7).trans c5
    have c6 := (E5.old.cell (p := ⟨b7, o7 + 6, none⟩) hb7).trans c6
    go_wp2_with (go_at_call 19; refine (awake_any _).mono ?_; rintro e w6 ⟨rfl, E6⟩)
    go_ret
    refine ⟨rfl, ?_⟩
    refine Ext.comp (by first | with_reducible exact F1 | with_reducible exact F1.old | with_reducible exact F1.old.old | with_reducible exact F1.old.old.old) ?_
    refine Ext.comp (by first | with_reducible exact F2 | with_reducible exact F2.old | with_reducible exact F2.old.old | with_reducible exact F2.old.old.old) ?_
    refine Ext.comp (by first | with_reducible exact F3 | with_reducible exact F3.old | with_reducible exact F3.old.old | with_reducible exact F3.old.old.old) ?_
    refine Ext.comp (by first | with_reducible exact F4 | with_reducible exact F4.old | with_reducible exact F4.old.old | with_reducible exact F4.old.old.old) ?_
    refine Ext.comp (by first | with_reducible exact E2 | with_reducible exact E2.old | with_reducible exact E2.old.old | with_reducible exact E2.old.old.old) ?_
    refine Ext.comp (by first | with_reducible exact E3 | with_reducible exact E3.old | with_reducible exact E3.old.old | with_reducible exact E3.old.old.old) ?_
    refine Ext.comp (by first | with_reducible exact E4 | with_reducible exact E4.old | with_reducible exact E4.old.old | with_reducible exact E4.old.old.old) ?_
    refine Ext.comp (by first | with_reducible exact E5 | with_reducible exact E5.old | with_reducible exact E5.old.old | with_reducible exact E5.old.old.old) ?_
    exact (by first | with_reducible exact E6 | with_reducible exact E6.old | with_reducible exact E6.old.old | with_reducible exact E6.old.old.old)
  · rw [un_bad hab] at hbg
    have hab2 : wordB a = false ∨ wordB a = true ∧ wordB b = false := by
      cases h1 : wordB a with
      | false => exact .inl rfl
      | true =>
        cases h2 : wordB b with
        | false => exact .inr ⟨rfl, rfl⟩
        | true => exact absurd ⟨wordB_bd h1, wordB_bd h2⟩ hab
    rcases hab2 with h1 | ⟨h1, h2⟩
    all_goals
      go_enter Try.func8, Try.ntmps8
      go_wp2_with fail
      refine (hw1 _).mono ?_
      rintro e v1 ⟨rfl, F1⟩
      go_wp2_with fail
      refine (hw2 _).mono ?_
      rintro e v2 ⟨rfl, F2⟩
      go_wp2_with fail
      refine (hw3 _).mono ?_
      rintro e v3 ⟨rfl, F3⟩
      go_wp2_with fail
      refine (hw4 _).mono ?_
      rintro e w1 ⟨rfl, F4⟩
      go_wp2_with fail
      refine (hbg _ _ (ints_fresh (w := w1) rfl (Ext.refl _))).mono ?_
      rintro e w2 ⟨v2, rfl, ⟨b1, b2, b3, l1, l2, l3, rfl, _, _, _⟩, E2⟩
      go_wp2_with (first | (go_at_call 30; refine (word_any _ _).mono ?_; rintro e w' ⟨rfl, rfl⟩) | (go_at_call 19; refine (awake_any _).mono ?_; rintro e w3 ⟨rfl, E3⟩))
      go_ret
      refine ⟨rfl, ?_⟩
      refine Ext.comp (by first | with_reducible exact F1 | with_reducible exact F1.old | with_reducible exact F1.old.old | with_reducible exact F1.old.old.old) ?_
      refine Ext.comp (by first | with_reducible exact F2 | with_reducible exact F2.old | with_reducible exact F2.old.old | with_reducible exact F2.old.old.old) ?_
      refine Ext.comp (by first | with_reducible exact F3 | with_reducible exact F3.old | with_reducible exact F3.old.old | with_reducible exact F3.old.old.old) ?_
      refine Ext.comp (by first | with_reducible exact F4 | with_reducible exact F4.old | with_reducible exact F4.old.old | with_reducible exact F4.old.old.old) ?_
      refine Ext.comp (by first | with_reducible exact E2 | with_reducible exact E2.old | with_reducible exact E2.old.old | with_reducible exact E2.old.old.old) ?_
      exact (by first | with_reducible exact E3 | with_reducible exact E3.old | with_reducible exact E3.old.old | with_reducible exact E3.old.old.old)
end Go.Proofs.Ytpdkgoeoddeebaa

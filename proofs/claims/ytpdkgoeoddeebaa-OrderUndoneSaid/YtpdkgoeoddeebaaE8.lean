/- Contract: OrderProduct returns true. -/
import Derived.Test.YtpdkgoeoddeebaaE6
import Derived.Test.YtpdkgoeoddeebaaSpec4i
import Derived.Test.YtpdkgoeoddeebaaG2
import Derived.Outline
set_option linter.unusedVariables false
set_option linter.unusedSimpArgs false
namespace Go.Proofs.Ytpdkgoeoddeebaa
open Go.RowKit Go.Q

theorem pm_begin {a b : Int} (ha : 0 ≤ a ∧ a ≤ 16777215) (hb : 0 ≤ b ∧ b ≤ 16777215) : beginQ [8405251, a, b] [] 0 = (pm a b 0 0 0, 0) ∧ Valid (pm a b 0 0 0) := by
  have h := begin_valid (st := [8405251, a, b]) (tp := []) (start := 0) (by simp) (by simp) (by
    intro x hx
    simp only [List.mem_cons, List.not_mem_nil, or_false] at hx
    rcases hx with rfl | rfl | rfl
    · decide
    · exact ha
    · exact hb) (by simp) (by decide)
  exact h
theorem pm_bad {a b : Int} (h : ¬ ((0 ≤ a ∧ a ≤ 16777215) ∧ (0 ≤ b ∧ b ≤ 16777215))) : beginQ [8405251, a, b] [] 0 = (zst, 7) := by
  unfold beginQ
  rw [if_pos (by simp), if_neg]
  rintro ⟨h1, _⟩
  apply h
  simp [outB] at h1
  omega

theorem pm_form {w : World} {v : Value} {x y t a d : Int} (h : StAt w v (pm x y t a d)) : ∃ b off c1 d2 c2 d3 c3, v = sv (some ⟨b, off, none⟩) d2 d3 128 c1 0 c2 0 c3 0 t a d 0 ∧ b < w.heap.size ∧
    w.cell? ⟨b, off + 1, none⟩ = some (.int .i64 x) ∧ w.cell? ⟨b, off + 2, none⟩ = some (.int .i64 y) := by
  obtain ⟨a1, a2, a3, k1, k2, k3, rfl, i1, i2, i3⟩ := h
  have hl : (pm x y t a d).store.length = 128 := by simp [pm]
  obtain ⟨b, off, rfl, hb, hc⟩ := ints_form i1 (by rw [hl]; decide)
  refine ⟨b, off, k1, a2, k2, a3, k3, by rw [hl]; rfl, hb, hc 1 (by rw [hl]; decide), hc 2 (by rw [hl]; decide)⟩

set_option maxRecDepth 100000 in
set_option maxHeartbeats 4000000 in
theorem product_law (a b : Int) (w : World) : Calls Try.prog 9 #[.int .i64 a, .int .i64 b] w fun e w' => e = .returned (.bool true) ∧ Ext w w' := by
  have hw := fun W => written_any 4 1 2 3 W (by decide)
  rw [show Q.written ⟨4, 1, 2, 3⟩ = 8405251 by decide] at hw
  have hbg := fun A W (I : IntsAt W A [8405251, a, b]) => begin_any A none 3 0 3 0 [8405251, a, b] [] 0 W rfl rfl (by decide) (by decide) I (.inl rfl)
  by_cases hab : (0 ≤ a ∧ a ≤ 16777215) ∧ (0 ≤ b ∧ b ≤ 16777215)
  · obtain ⟨ha, hb⟩ := hab
    obtain ⟨hq, hv⟩ := pm_begin ha hb
    rw [hq] at hbg
    have hr := fun W V (A : StAt W V (pm a b 0 0 0)) => runE_any V (pm a b 0 0 0) 1 W A (valid_bd hv)
    have hq2 : runE (pm a b 0 0 0) 1 = (pm a (prod a b) 19 3 1, 0) := by
      have := runE_valid hv 1 (by decide)
      rw [pm0] at this
      exact this
    rw [hq2] at hr
    have s1 := fun W => signedE_any a W
    have s2 := fun W => signedE_any b W
    have s3 := fun W => signedE_any (prod a b) W
    have sq : ∀ {n : Int}, 0 ≤ n ∧ n ≤ 16777215 → signedQ n = (sgn n, 0) := fun {n} h => by unfold signedQ; rw [if_pos (wordB_mk h)]
    rw [sq ha] at s1
    rw [sq hb] at s2
    rw [sq (prod_word a b)] at s3
    have hlaw := prod_law ha hb
    have hx := sgn_bd ha
    have hy := sgn_bd hb
    have hz := sgn_bd (prod_word a b)
    have haa : (a == a) = true := by simp
    have hxy := prod_bd ha hb
    clear hq hv hq2 sq
    generalize prod a b = p at *
    generalize sgn a = x at *
    generalize sgn b = y at *
    generalize sgn p = z at *
    have hfin : (x == -8388608) = true ∧ (y == -8388608) = true ∨ ¬ (x = -8388608 ∧ y = -8388608) ∧ z * 8388608 ≤ x * y ∧ x * y - z * 8388608 < 8388608 := by
      by_cases hc : x = -8388608 ∧ y = -8388608
      · exact .inl ⟨by simpa using hc.1, by simpa using hc.2⟩
      · rcases hlaw with h | h
        · exact absurd h hc
        · exact .inr ⟨hc, h⟩
    clear hlaw
    rcases hfin with ⟨f1, f2⟩ | ⟨hc, f1, f2⟩
    · go_enter Try.func9, Try.ntmps9
      go_wp2_with fail
      refine (hw _).mono ?_
      rintro e w1 ⟨rfl, E1⟩
      go_wp2_with fail
      refine (hbg _ _ (ints_fresh (w := w1) rfl (Ext.refl _))).mono ?_
      rintro e w2 ⟨v2, rfl, A2, E2⟩
      obtain ⟨b1, o1, l1, d2, l2, d3, l3, rfl, _, _, _⟩ := pm_form A2
      go_wp2_with fail
      refine (hr _ _ (A2.ext (by repeat (first | with_reducible exact Ext.refl _ | with_reducible refine Ext.alloc ?_ _ | with_reducible refine Below.drew ?_)))).mono ?_
      rintro e w3 ⟨v3, rfl, A3, E3⟩
      obtain ⟨b4, o4, l4, d5, l5, d6, l6, rfl, hb4, c1, c2⟩ := pm_form A3
      clear hw hbg hr
      go_wp2_with fail
      refine (s1 _).mono ?_
      rintro e w4 ⟨rfl, E4⟩
      go_wp2_with fail
      refine (s2 _).mono ?_
      rintro e w5 ⟨rfl, E5⟩
      have E45 := Ext.comp E4 E5
      have k0 := box_at (v := .slice (some ⟨b4, o4, none⟩) 128 l4) E45 0 rfl
      have k2 := (E45.old.cell (p := ⟨b4, o4 + 2, none⟩) hb4).trans c2
      go_wp2_with fail
      refine (s3 _).mono ?_
      rintro e w6 ⟨rfl, E6⟩
      have E46 := Ext.comp E45 E6
      clear k0 k2 s1 s2 s3
      have k0 := box_at (v := .slice (some ⟨b4, o4, none⟩) 128 l4) E46 0 rfl
      have k1 := (E46.old.cell (p := ⟨b4, o4 + 1, none⟩) hb4).trans c1
      skip
      go_wp2_with (go_at_call 19; refine (awake_any _).mono ?_; rintro e w7 ⟨rfl, E7⟩)
      go_ret
      refine ⟨rfl, ?_⟩
      refine Ext.comp (by first | with_reducible exact E1 | with_reducible exact E1.old | with_reducible exact E1.old.old | with_reducible exact E1.old.old.old) ?_
      refine Ext.comp (by first | with_reducible exact E2 | with_reducible exact E2.old | with_reducible exact E2.old.old | with_reducible exact E2.old.old.old) ?_
      refine Ext.comp (by first | with_reducible exact E3 | with_reducible exact E3.old | with_reducible exact E3.old.old | with_reducible exact E3.old.old.old) ?_
      refine Ext.comp (by first | with_reducible exact E46 | with_reducible exact E46.old | with_reducible exact E46.old.old | with_reducible exact E46.old.old.old) ?_
      exact (by first | with_reducible exact E7 | with_reducible exact E7.old | with_reducible exact E7.old.old | with_reducible exact E7.old.old.old)
    · have hc2 : (x == -8388608) = true ∧ (y == -8388608) = false ∨ (x == -8388608) = false := by
        by_cases hx0 : x = -8388608
        · refine .inl ⟨by simpa using hx0, ?_⟩
          rw [beq_eq_false_iff_ne]
          exact fun c => hc ⟨hx0, c⟩
        · exact .inr (by simpa using hx0)
      clear hc
      rcases hc2 with ⟨g1, g2⟩ | g1
      · go_enter Try.func9, Try.ntmps9
        go_wp2_with fail
        refine (hw _).mono ?_
        rintro e w1 ⟨rfl, E1⟩
        go_wp2_with fail
        refine (hbg _ _ (ints_fresh (w := w1) rfl (Ext.refl _))).mono ?_
        rintro e w2 ⟨v2, rfl, A2, E2⟩
        obtain ⟨b1, o1, l1, d2, l2, d3, l3, rfl, _, _, _⟩ := pm_form A2
        go_wp2_with fail
        refine (hr _ _ (A2.ext (by repeat (first | with_reducible exact Ext.refl _ | with_reducible refine Ext.alloc ?_ _ | with_reducible refine Below.drew ?_)))).mono ?_
        rintro e w3 ⟨v3, rfl, A3, E3⟩
        obtain ⟨b4, o4, l4, d5, l5, d6, l6, rfl, hb4, c1, c2⟩ := pm_form A3
        clear hw hbg hr
        go_wp2_with fail
        refine (s1 _).mono ?_
        rintro e w4 ⟨rfl, E4⟩
        go_wp2_with fail
        refine (s2 _).mono ?_
        rintro e w5 ⟨rfl, E5⟩
        have E45 := Ext.comp E4 E5
        have k0 := box_at (v := .slice (some ⟨b4, o4, none⟩) 128 l4) E45 0 rfl
        have k2 := (E45.old.cell (p := ⟨b4, o4 + 2, none⟩) hb4).trans c2
        go_wp2_with fail
        refine (s3 _).mono ?_
        rintro e w6 ⟨rfl, E6⟩
        have E46 := Ext.comp E45 E6
        clear k0 k2 s1 s2 s3
        have k0 := box_at (v := .slice (some ⟨b4, o4, none⟩) 128 l4) E46 0 rfl
        have k1 := (E46.old.cell (p := ⟨b4, o4 + 1, none⟩) hb4).trans c1
        skip
        go_wp2_with (go_at_call 19; refine (awake_any _).mono ?_; rintro e w7 ⟨rfl, E7⟩)
        go_ret
        refine ⟨rfl, ?_⟩
        refine Ext.comp (by first | with_reducible exact E1 | with_reducible exact E1.old | with_reducible exact E1.old.old | with_reducible exact E1.old.old.old) ?_
        refine Ext.comp (by first | with_reducible exact E2 | with_reducible exact E2.old | with_reducible exact E2.old.old | with_reducible exact E2.old.old.old) ?_
        refine Ext.comp (by first | with_reducible exact E3 | with_reducible exact E3.old | with_reducible exact E3.old.old | with_reducible exact E3.old.old.old) ?_
        refine Ext.comp (by first | with_reducible exact E46 | with_reducible exact E46.old | with_reducible exact E46.old.old | with_reducible exact E46.old.old.old) ?_
        exact (by first | with_reducible exact E7 | with_reducible exact E7.old | with_reducible exact E7.old.old | with_reducible exact E7.old.old.old)
      · go_enter Try.func9, Try.ntmps9
        go_wp2_with fail
        refine (hw _).mono ?_
        rintro e w1 ⟨rfl, E1⟩
        go_wp2_with fail
        refine (hbg _ _ (ints_fresh (w := w1) rfl (Ext.refl _))).mono ?_
        rintro e w2 ⟨v2, rfl, A2, E2⟩
        obtain ⟨b1, o1, l1, d2, l2, d3, l3, rfl, _, _, _⟩ := pm_form A2
        go_wp2_with fail
        refine (hr _ _ (A2.ext (by repeat (first | with_reducible exact Ext.refl _ | with_reducible refine Ext.alloc ?_ _ | with_reducible refine Below.drew ?_)))).mono ?_
        rintro e w3 ⟨v3, rfl, A3, E3⟩
        obtain ⟨b4, o4, l4, d5, l5, d6, l6, rfl, hb4, c1, c2⟩ := pm_form A3
        clear hw hbg hr
        go_wp2_with fail
        refine (s1 _).mono ?_
        rintro e w4 ⟨rfl, E4⟩
        go_wp2_with fail
        refine (s2 _).mono ?_
        rintro e w5 ⟨rfl, E5⟩
        have E45 := Ext.comp E4 E5
        have k0 := box_at (v := .slice (some ⟨b4, o4, none⟩) 128 l4) E45 0 rfl
        have k2 := (E45.old.cell (p := ⟨b4, o4 + 2, none⟩) hb4).trans c2
        go_wp2_with fail
        refine (s3 _).mono ?_
        rintro e w6 ⟨rfl, E6⟩
        have E46 := Ext.comp E45 E6
        clear k0 k2 s1 s2 s3
        have k0 := box_at (v := .slice (some ⟨b4, o4, none⟩) 128 l4) E46 0 rfl
        have k1 := (E46.old.cell (p := ⟨b4, o4 + 1, none⟩) hb4).trans c1
        skip
        go_wp2_with (go_at_call 19; refine (awake_any _).mono ?_; rintro e w7 ⟨rfl, E7⟩)
        go_ret
        refine ⟨rfl, ?_⟩
        refine Ext.comp (by first | with_reducible exact E1 | with_reducible exact E1.old | with_reducible exact E1.old.old | with_reducible exact E1.old.old.old) ?_
        refine Ext.comp (by first | with_reducible exact E2 | with_reducible exact E2.old | with_reducible exact E2.old.old | with_reducible exact E2.old.old.old) ?_
        refine Ext.comp (by first | with_reducible exact E3 | with_reducible exact E3.old | with_reducible exact E3.old.old | with_reducible exact E3.old.old.old) ?_
        refine Ext.comp (by first | with_reducible exact E46 | with_reducible exact E46.old | with_reducible exact E46.old.old | with_reducible exact E46.old.old.old) ?_
        exact (by first | with_reducible exact E7 | with_reducible exact E7.old | with_reducible exact E7.old.old | with_reducible exact E7.old.old.old)
  · rw [pm_bad hab] at hbg
    have hw1 : wordB a = false ∨ wordB a = true ∧ wordB b = false := by
      cases h1 : wordB a with
      | false => exact .inl rfl
      | true =>
        cases h2 : wordB b with
        | false => exact .inr ⟨rfl, rfl⟩
        | true => exact absurd ⟨wordB_bd h1, wordB_bd h2⟩ hab
    rcases hw1 with h1 | ⟨h1, h2⟩
    all_goals
      go_enter Try.func9, Try.ntmps9
      go_wp2_with fail
      refine (hw _).mono ?_
      rintro e w1 ⟨rfl, E1⟩
      go_wp2_with fail
      refine (hbg _ _ (ints_fresh (w := w1) rfl (Ext.refl _))).mono ?_
      rintro e w2 ⟨v2, rfl, ⟨b1, b2, b3, l1, l2, l3, rfl, _, _, _⟩, E2⟩
      go_wp2_with (first | (go_at_call 30; refine (word_any _ _).mono ?_; rintro e w' ⟨rfl, rfl⟩) | (go_at_call 19; refine (awake_any _).mono ?_; rintro e w3 ⟨rfl, E3⟩))
      go_ret
      refine ⟨rfl, ?_⟩
      refine Ext.comp (by first | with_reducible exact E1 | with_reducible exact E1.old | with_reducible exact E1.old.old | with_reducible exact E1.old.old.old) ?_
      refine Ext.comp (by first | with_reducible exact E2 | with_reducible exact E2.old | with_reducible exact E2.old.old | with_reducible exact E2.old.old.old) ?_
      exact (by first | with_reducible exact E3 | with_reducible exact E3.old | with_reducible exact E3.old.old | with_reducible exact E3.old.old.old)
end Go.Proofs.Ytpdkgoeoddeebaa

import Derived.Test.YtcijneecjkpebaaU29
import Derived.Test.YtcijneecjkpebaaUP3
set_option linter.unusedVariables false
set_option linter.unusedSimpArgs false
/- The law LibraryExact: how far a root and a quotient are from the exact one; a greater first argument. -/
namespace Go.Q
theorem num_ok {n : Int} (h : 0 ≤ n ∧ n ≤ 8388607) : numB n = true := by unfold numB; simp; exact h
theorem value_root {n : Int} (h : 0 ≤ n ∧ n ≤ 8388607) : valueE 1 [n] = (valQ 1 [n], 0) := by
  have : askQ 1 [n] = 0 := by unfold askQ takesQ; simp [num_ok h]
  unfold valueE; rw [if_pos this]
theorem value_quot {n d : Int} (h : 0 ≤ n ∧ n ≤ 8388607) (h2 : 0 ≤ d ∧ d ≤ 8388607) : valueE 2 [n, d] = (valQ 2 [n, d], 0) := by
  have : askQ 2 [n, d] = 0 := by unfold askQ takesQ; simp [num_ok h, num_ok h2]
  unfold valueE; rw [if_pos this]
theorem mul_small {a b : Int} (ha : 0 ≤ a ∧ a ≤ 8388608) (hb : 0 ≤ b ∧ b ≤ 8388608) : 0 ≤ a * b ∧ a * b ≤ 70368744177664 := mul23 ha hb
end Go.Q
namespace Go.Proofs.Ytcijneecjkpebaa
open Go.RowKit Go.Q
/-- what is asked of a root and a quotient -/
structure ExQ (n d r q : Int) : Prop where
  bn : 0 ≤ n ∧ n ≤ 8388607
  bd : 0 ≤ d ∧ d ≤ 8388607
  br : 0 ≤ r ∧ r ≤ 8388607
  bq : 0 ≤ q ∧ q ≤ 8388607
  r1 : r * r < 8388608 * (n + 1)
  r2 : r < 8388607 → 8388608 * (n + 1) ≤ (r + 1) * (r + 1)
  q1 : q * d < 8388608 * (n + 1)
  q2 : q < 8388607 → 8388608 * (n + 1) ≤ (q + 1) * d
set_option maxRecDepth 100000 in
set_option maxHeartbeats 8000000 in
theorem exact8_any (k : Int) (a b : Int) (w : World) (ha : 0 ≤ a ∧ a ≤ 4294967295) (hb : 0 ≤ b ∧ b ≤ 4294967295) :
    Calls Try.prog 7 #[.int .i64 k, .int .u32 a, .int .u32 b] w fun e w' => e = .returned (.bool true) ∧ Ext w w' := by
  obtain ⟨n, hn⟩ : ∃ n, a % 8388608 = n := ⟨_, rfl⟩
  obtain ⟨d, hd⟩ : ∃ d, b % 8388608 = d := ⟨_, rfl⟩
  have bn : 0 ≤ n ∧ n ≤ 8388607 := by omega
  have bd : 0 ≤ d ∧ d ≤ 8388607 := by omega
  have h1 := fun W x (h : IntsAt W x [n]) => lb_value 1 x 1 1 [n] W rfl (by decide) h
  have h2 := fun W x (h : IntsAt W x [n, d]) => lb_value 2 x 2 2 [n, d] W rfl (by decide) h
  rw [value_root bn] at h1
  rw [value_quot bn bd] at h2
  have e1 := root_exact bn
  have e2 := quot_exact (d := d) bn
  have s1 := val_spec 1 [n] (show 0 ≤ argQ [n] 0 from bn.1)
  have s2 := val_spec 2 [n, d] (show 0 ≤ argQ [n, d] 0 from bn.1)
  have hv3 := fun (x : Int) W p c2 (h : IntsAt W p [x]) => lb_value k p 1 c2 [x] W rfl (by decide) h
  have hv4 := fun (x y : Int) W p c2 (h : IntsAt W p [x, y]) => lb_value k p 2 c2 [x, y] W rfl (by decide) h
  have HN := Lib.hid hn
  have HD := Lib.hid hd
  obtain ⟨r, hr⟩ : ∃ r, valQ 1 [n] = r := ⟨_, rfl⟩
  obtain ⟨q, hq⟩ : ∃ q, valQ 2 [n, d] = q := ⟨_, rfl⟩
  rw [hr] at h1 e1 s1
  rw [hq] at h2 e2 s2
  have HX := Lib.hid (show ExQ n d r q from ⟨bn, bd, ⟨s1.1, s1.2.1⟩, ⟨s2.1, s2.2.1⟩, e1.1, e1.2, e2.1, e2.2⟩)
  clear e1 e2 s1 s2 hr hq
  have m1 := mul_small (a := r) (b := r) (by have := HX.out.br; omega) (by have := HX.out.br; omega)
  have m2 := mul_small (a := r + 1) (b := r + 1) (by have := HX.out.br; omega) (by have := HX.out.br; omega)
  have m3 := mul_small (a := q) (b := d) (by have := HX.out.bq; omega) (by omega)
  have m4 := mul_small (a := q + 1) (b := d) (by have := HX.out.bq; omega) (by omega)
  have M := Lib.hid (And.intro (And.intro m1 m2) (And.intro m3 m4))
  have bx := HX.out.br
  have bq := HX.out.bq
  have hr0 : ¬ r < 0 := by omega
  have hq0 : ¬ q < 0 := by omega
  have hr1 : ¬ 8388608 ≤ r := by omega
  have hq1 : ¬ 8388608 ≤ q := by omega
  have x1 : ¬ 8388608 * (n + 1) ≤ r * r := by have := HX.out.r1; omega
  have x2 : ¬ 8388608 * (n + 1) ≤ q * d := by have := HX.out.q1; omega
  obtain ⟨i0, hi0, hz0, hz1, hz2⟩ := info_parts Try.infoE
  clear m1 m2 m3 m4
  go_enter Try.func7, Try.ntmps7
  go_upto_region 2 with fail
  rw [HN.out, HD.out]
  go_wp2_with fail
  refine (h1 _ _ (ints_new (zs := [n]) (Ext.refl _))).mono ?_
  rintro e w1 ⟨rfl, E1⟩
  have HE1 := Lib.hid (Ext.comp ((Ext.refl w).alloc _) E1)
  clear h1 E1
  go_wp2_with fail
  refine (h2 _ _ (ints_new (zs := [n, d]) (Ext.refl _))).mono ?_
  rintro e w2 ⟨rfl, E2⟩
  have HE2 := Lib.hid (HE1.out.comp (Ext.comp ((Ext.refl w1).alloc _) E2))
  clear h2 E2
  go_upto_region 7 with fail
  obtain ⟨⟨m1, m2⟩, m3, m4⟩ := M.out
  by_cases hr7 : r < 8388607
  · have y1 : ¬ (r + 1) * (r + 1) < 8388608 * (n + 1) := by have := HX.out.r2 hr7; omega
    by_cases hq7 : q < 8388607
    · have y2 : ¬ (q + 1) * d < 8388608 * (n + 1) := by have := HX.out.q2 hq7; omega
      rcases (show n < d ∨ n = d ∨ d < n by omega) with hnd | hnd | hnd
      · have hnd2 : ¬ d < n := by omega
        go_upto_region 10 with fail
        obtain ⟨X3, hX3⟩ : ∃ X3, (w2.alloc (.cells #[.int .i64 n] 3)).alloc (.cells #[.int .i64 d] 3) = X3 := ⟨_, rfl⟩
        have EX3 : Ext w2 X3 := by rw [← hX3]; exact (by repeat (first | with_reducible exact Ext.refl _ | with_reducible refine Ext.alloc ?_ _ | with_reducible refine Below.drew ?_))
        have r1 : X3.ownsRow w2.heap.size 3 1 (.slice (some ⟨w2.heap.size, 0, none⟩) 1 1) 1 (iv [n]) := by rw [← hX3]; exact own_lit rfl (by decide) ((Ext.refl _).alloc _)
        have r2 : X3.ownsRow w2.heap.size 3 1 (.slice (some ⟨w2.heap.size + 1, 0, none⟩) 1 1) 1 (iv [d]) := by
          rw [← hX3]
          have := own_lit (w := w2.alloc (.cells #[.int .i64 n] 3)) (e := 3) (sz := 1) (n := 1) (vs := #[.int .i64 d]) rfl (by decide) (Ext.refl _)
          rw [World.size_alloc] at this
          exact own_le this (Nat.le_succ _)
        rw [hX3]
        have HR1 := Lib.hid r1
        have HR2 := Lib.hid r2
        have HEX3 := Lib.hid (HE2.out.comp EX3)
        have HS3 := Lib.hid EX3.size
        have HS3b := Lib.hid (show X3.heap.size = w2.heap.size + 2 by rw [← hX3, World.size_alloc, World.size_alloc])
        clear hX3 r1 r2
        have vm0 := value_mono k (a := n) (b := d) [] (by omega) (by omega) (by omega) (by simp)
        have vm1 := value_mono 2 (a := n) (b := d) [n / 2] (by omega) (by omega) (by omega) (by intro z hz; simp at hz; omega)
        have HV0 := Lib.hid vm0
        have HV1 := Lib.hid vm1
        clear vm0 vm1
        by_cases hk2 : k = 2
        · subst hk2
          have hE4 : Ext X3 (X3.alloc (.cells #[.int .i64 (n / 2)] 3)) := (Ext.refl X3).alloc _
          have o1 := own_extX HR1.out hE4
          have o2 := own_extX HR2.out hE4
          have hs4 : w2.heap.size ≤ X3.heap.size := HS3.out
          have HO2 := Lib.hid o2
          have HE4 := Lib.hid hE4
          clear o2 hE4
          go_wp2_with (at_builtin; first | (refine wpList_app2 rfl _ _ 22 rfl 3 i0 (.int .i64 0) 1 8 Try.underlying22 hi0 hz0 hz1 hz2 rfl (by decide) (.slice (some ⟨w2.heap.size, 0, none⟩) 1 1) 1 w2.heap.size (iv [n]) rfl o1 (by rw [World.size_alloc]; omega) (some ⟨X3.heap.size, 0, none⟩) 1 1 (iv [n / 2]) rfl rfl (from_one X3 _ _) (iv_one _) (by unfold maxLen; omega) (by omega) ?_; intro vA WA hoA hgA haA; have hg1 := own_grown HO2.out hgA (by right; simp [Value.ownBlock, Act.eval]); have HGA := Lib.hid hgA; have HOA := Lib.hid hoA; have hsA := hgA.size; have HAA := Lib.hid haA; clear hgA hoA haA) | (refine wpList_app2 rfl _ _ 22 rfl 3 i0 (.int .i64 0) 1 8 Try.underlying22 hi0 hz0 hz1 hz2 rfl (by decide) (.slice (some ⟨w2.heap.size + 1, 0, none⟩) 1 1) 1 w2.heap.size (iv [d]) rfl (own_extX hg1 ((Ext.refl _).alloc _)) (by rw [World.size_alloc]; rw [World.size_alloc] at hsA; omega) (some ⟨WA.heap.size, 0, none⟩) 1 1 (iv [n / 2]) rfl rfl (from_one WA _ _) (iv_one _) (by unfold maxLen; omega) (by omega) ?_; intro vB WB hoB hgB haB))
          have hE5 : Ext WA (WA.alloc (.cells #[.int .i64 (n / 2)] 3)) := (Ext.refl WA).alloc _
          have hna : vA.ownBlock = none ∨ vA.ownBlock ≠ some (w2.heap.size + 1) := by
            right
            have hs3 := HS3b.out
            rcases HAA.out with h | h
            · have h2 : vA.ownBlock = some w2.heap.size := h
              rw [h2]; intro e; injection e with e; omega
            · rw [h, World.size_alloc]; intro e; injection e with e; omega
          have rA := own_grown (own_extX HOA.out hE5) hgB hna
          obtain ⟨aA, cA, rfl⟩ := own_slice rA
          obtain ⟨aB, cB, rfl⟩ := own_slice hoB
          have iA : IntsAt WB aA [n, n / 2] := own_intsL rA
          have iB : IntsAt WB aB [d, n / 2] := own_intsL hoB
          have EWB : Ext w WB := by
            have eA : Ext w WA := own_kp (HEX3.out.comp HE4.out) HGA.out (fun k hk => by have h2 : some w2.heap.size = some k := hk; injection h2 with h2; have := HE2.out.size; omega)
            exact own_kp (eA.comp hE5) hgB (fun k hk => by have h2 : some (w2.heap.size + 1) = some k := hk; injection h2 with h2; have := HE2.out.size; omega)
          have c1 := hv4 n (n / 2) WB aA cA iA
          have c2 := fun W (E : Ext WB W) => hv4 d (n / 2) W aB cB (iB.ext E)
          have HEB := Lib.hid EWB
          have hv := HV1.out
          clear rA iA iB hoB hgB haB hE5 hna EWB hsA hg1 o1 hv3 hv4
          generalize valueE 2 [n, n / 2] = p1 at *
          generalize valueE 2 [d, n / 2] = p2 at *
          refine c1.mono ?_
          rintro e w5 ⟨rfl, E5⟩
          have HE5 := Lib.hid (HEB.out.comp E5)
          have c3 := c2 _ E5
          clear c1 c2 E5
          obtain ⟨v1, ev⟩ := p1
          obtain ⟨v2, ev2⟩ := p2
          obtain ⟨hv1, hv2⟩ := hv
          dsimp only at hv1 hv2 c3
          subst hv1
          have hee : (ev == ev) = true := by simp
          go_wp2_with fail
          refine c3.mono ?_
          rintro e w6 ⟨rfl, E6⟩
          have HE6 := Lib.hid (HE5.out.comp E6)
          clear c3 E6
          go_wp2_with fail
          refine (awake8_any _).mono ?_
          rintro e w7 ⟨rfl, E7⟩
          have HE7 := Lib.hid (HE6.out.comp E7)
          clear E7
          go_wp2_with fail
          go_ret
          exact ⟨rfl, HE7.out⟩
        · have hE4 := Lib.hid HEX3.out
          have hv := HV0.out
          have c1 := hv3 n X3 (some ⟨w2.heap.size, 0, none⟩) 1 (own_intsL HR1.out)
          have c2 := fun W (E : Ext X3 W) => hv3 d W (some ⟨w2.heap.size + 1, 0, none⟩) 1 ((own_intsL HR2.out).ext E)
          clear hv3 hv4
          generalize valueE k [n] = p1 at *
          generalize valueE k [d] = p2 at *
          go_wp2_with fail
          refine c1.mono ?_
          rintro e w5 ⟨rfl, E5⟩
          have HE5 := Lib.hid (hE4.out.comp E5)
          have c3 := c2 _ E5
          clear c1 c2 E5
          obtain ⟨v1, ev⟩ := p1
          obtain ⟨v2, ev2⟩ := p2
          obtain ⟨hv1, hv2⟩ := hv
          dsimp only at hv1 hv2 c3
          subst hv1
          have hee : (ev == ev) = true := by simp
          go_wp2_with fail
          refine c3.mono ?_
          rintro e w6 ⟨rfl, E6⟩
          have HE6 := Lib.hid (HE5.out.comp E6)
          clear c3 E6
          go_wp2_with fail
          refine (awake8_any _).mono ?_
          rintro e w7 ⟨rfl, E7⟩
          have HE7 := Lib.hid (HE6.out.comp E7)
          clear E7
          go_wp2_with fail
          go_ret
          exact ⟨rfl, HE7.out⟩
      · subst hnd
        go_upto_region 10 with fail
        obtain ⟨X3, hX3⟩ : ∃ X3, (w2.alloc (.cells #[.int .i64 n] 3)).alloc (.cells #[.int .i64 n] 3) = X3 := ⟨_, rfl⟩
        have EX3 : Ext w2 X3 := by rw [← hX3]; exact (by repeat (first | with_reducible exact Ext.refl _ | with_reducible refine Ext.alloc ?_ _ | with_reducible refine Below.drew ?_))
        have r1 : X3.ownsRow w2.heap.size 3 1 (.slice (some ⟨w2.heap.size, 0, none⟩) 1 1) 1 (iv [n]) := by rw [← hX3]; exact own_lit rfl (by decide) ((Ext.refl _).alloc _)
        have r2 : X3.ownsRow w2.heap.size 3 1 (.slice (some ⟨w2.heap.size + 1, 0, none⟩) 1 1) 1 (iv [n]) := by
          rw [← hX3]
          have := own_lit (w := w2.alloc (.cells #[.int .i64 n] 3)) (e := 3) (sz := 1) (n := 1) (vs := #[.int .i64 n]) rfl (by decide) (Ext.refl _)
          rw [World.size_alloc] at this
          exact own_le this (Nat.le_succ _)
        rw [hX3]
        have HR1 := Lib.hid r1
        have HR2 := Lib.hid r2
        have HEX3 := Lib.hid (HE2.out.comp EX3)
        have HS3 := Lib.hid EX3.size
        have HS3b := Lib.hid (show X3.heap.size = w2.heap.size + 2 by rw [← hX3, World.size_alloc, World.size_alloc])
        clear hX3 r1 r2
        have vm0 := value_mono k (a := n) (b := n) [] (by omega) (by omega) (by omega) (by simp)
        have vm1 := value_mono 2 (a := n) (b := n) [n / 2] (by omega) (by omega) (by omega) (by intro z hz; simp at hz; omega)
        have HV0 := Lib.hid vm0
        have HV1 := Lib.hid vm1
        clear vm0 vm1
        by_cases hk2 : k = 2
        · subst hk2
          have hE4 : Ext X3 (X3.alloc (.cells #[.int .i64 (n / 2)] 3)) := (Ext.refl X3).alloc _
          have o1 := own_extX HR1.out hE4
          have o2 := own_extX HR2.out hE4
          have hs4 : w2.heap.size ≤ X3.heap.size := HS3.out
          have HO2 := Lib.hid o2
          have HE4 := Lib.hid hE4
          clear o2 hE4
          go_wp2_with (at_builtin; first | (refine wpList_app2 rfl _ _ 22 rfl 3 i0 (.int .i64 0) 1 8 Try.underlying22 hi0 hz0 hz1 hz2 rfl (by decide) (.slice (some ⟨w2.heap.size, 0, none⟩) 1 1) 1 w2.heap.size (iv [n]) rfl o1 (by rw [World.size_alloc]; omega) (some ⟨X3.heap.size, 0, none⟩) 1 1 (iv [n / 2]) rfl rfl (from_one X3 _ _) (iv_one _) (by unfold maxLen; omega) (by omega) ?_; intro vA WA hoA hgA haA; have hg1 := own_grown HO2.out hgA (by right; simp [Value.ownBlock, Act.eval]); have HGA := Lib.hid hgA; have HOA := Lib.hid hoA; have hsA := hgA.size; have HAA := Lib.hid haA; clear hgA hoA haA) | (refine wpList_app2 rfl _ _ 22 rfl 3 i0 (.int .i64 0) 1 8 Try.underlying22 hi0 hz0 hz1 hz2 rfl (by decide) (.slice (some ⟨w2.heap.size + 1, 0, none⟩) 1 1) 1 w2.heap.size (iv [n]) rfl (own_extX hg1 ((Ext.refl _).alloc _)) (by rw [World.size_alloc]; rw [World.size_alloc] at hsA; omega) (some ⟨WA.heap.size, 0, none⟩) 1 1 (iv [n / 2]) rfl rfl (from_one WA _ _) (iv_one _) (by unfold maxLen; omega) (by omega) ?_; intro vB WB hoB hgB haB))
          have hE5 : Ext WA (WA.alloc (.cells #[.int .i64 (n / 2)] 3)) := (Ext.refl WA).alloc _
          have hna : vA.ownBlock = none ∨ vA.ownBlock ≠ some (w2.heap.size + 1) := by
            right
            have hs3 := HS3b.out
            rcases HAA.out with h | h
            · have h2 : vA.ownBlock = some w2.heap.size := h
              rw [h2]; intro e; injection e with e; omega
            · rw [h, World.size_alloc]; intro e; injection e with e; omega
          have rA := own_grown (own_extX HOA.out hE5) hgB hna
          obtain ⟨aA, cA, rfl⟩ := own_slice rA
          obtain ⟨aB, cB, rfl⟩ := own_slice hoB
          have iA : IntsAt WB aA [n, n / 2] := own_intsL rA
          have iB : IntsAt WB aB [n, n / 2] := own_intsL hoB
          have EWB : Ext w WB := by
            have eA : Ext w WA := own_kp (HEX3.out.comp HE4.out) HGA.out (fun k hk => by have h2 : some w2.heap.size = some k := hk; injection h2 with h2; have := HE2.out.size; omega)
            exact own_kp (eA.comp hE5) hgB (fun k hk => by have h2 : some (w2.heap.size + 1) = some k := hk; injection h2 with h2; have := HE2.out.size; omega)
          have c1 := hv4 n (n / 2) WB aA cA iA
          have c2 := fun W (E : Ext WB W) => hv4 n (n / 2) W aB cB (iB.ext E)
          have HEB := Lib.hid EWB
          have hv := HV1.out
          clear rA iA iB hoB hgB haB hE5 hna EWB hsA hg1 o1 hv3 hv4
          generalize valueE 2 [n, n / 2] = p1 at *
          refine c1.mono ?_
          rintro e w5 ⟨rfl, E5⟩
          have HE5 := Lib.hid (HEB.out.comp E5)
          have c3 := c2 _ E5
          clear c1 c2 E5
          obtain ⟨v1, ev⟩ := p1
          have hee : (ev == ev) = true := by simp
          go_wp2_with fail
          refine c3.mono ?_
          rintro e w6 ⟨rfl, E6⟩
          have HE6 := Lib.hid (HE5.out.comp E6)
          clear c3 E6
          go_wp2_with fail
          refine (awake8_any _).mono ?_
          rintro e w7 ⟨rfl, E7⟩
          have HE7 := Lib.hid (HE6.out.comp E7)
          clear E7
          go_wp2_with fail
          go_ret
          exact ⟨rfl, HE7.out⟩
        · have hE4 := Lib.hid HEX3.out
          have hv := HV0.out
          have c1 := hv3 n X3 (some ⟨w2.heap.size, 0, none⟩) 1 (own_intsL HR1.out)
          have c2 := fun W (E : Ext X3 W) => hv3 n W (some ⟨w2.heap.size + 1, 0, none⟩) 1 ((own_intsL HR2.out).ext E)
          clear hv3 hv4
          generalize valueE k [n] = p1 at *
          go_wp2_with fail
          refine c1.mono ?_
          rintro e w5 ⟨rfl, E5⟩
          have HE5 := Lib.hid (hE4.out.comp E5)
          have c3 := c2 _ E5
          clear c1 c2 E5
          obtain ⟨v1, ev⟩ := p1
          have hee : (ev == ev) = true := by simp
          go_wp2_with fail
          refine c3.mono ?_
          rintro e w6 ⟨rfl, E6⟩
          have HE6 := Lib.hid (HE5.out.comp E6)
          clear c3 E6
          go_wp2_with fail
          refine (awake8_any _).mono ?_
          rintro e w7 ⟨rfl, E7⟩
          have HE7 := Lib.hid (HE6.out.comp E7)
          clear E7
          go_wp2_with fail
          go_ret
          exact ⟨rfl, HE7.out⟩
      · have hnd2 : ¬ n < d := by omega
        go_upto_region 10 with fail
        obtain ⟨X3, hX3⟩ : ∃ X3, (w2.alloc (.cells #[.int .i64 d] 3)).alloc (.cells #[.int .i64 n] 3) = X3 := ⟨_, rfl⟩
        have EX3 : Ext w2 X3 := by rw [← hX3]; exact (by repeat (first | with_reducible exact Ext.refl _ | with_reducible refine Ext.alloc ?_ _ | with_reducible refine Below.drew ?_))
        have r1 : X3.ownsRow w2.heap.size 3 1 (.slice (some ⟨w2.heap.size, 0, none⟩) 1 1) 1 (iv [d]) := by rw [← hX3]; exact own_lit rfl (by decide) ((Ext.refl _).alloc _)
        have r2 : X3.ownsRow w2.heap.size 3 1 (.slice (some ⟨w2.heap.size + 1, 0, none⟩) 1 1) 1 (iv [n]) := by
          rw [← hX3]
          have := own_lit (w := w2.alloc (.cells #[.int .i64 d] 3)) (e := 3) (sz := 1) (n := 1) (vs := #[.int .i64 n]) rfl (by decide) (Ext.refl _)
          rw [World.size_alloc] at this
          exact own_le this (Nat.le_succ _)
        rw [hX3]
        have HR1 := Lib.hid r1
        have HR2 := Lib.hid r2
        have HEX3 := Lib.hid (HE2.out.comp EX3)
        have HS3 := Lib.hid EX3.size
        have HS3b := Lib.hid (show X3.heap.size = w2.heap.size + 2 by rw [← hX3, World.size_alloc, World.size_alloc])
        clear hX3 r1 r2
        have vm0 := value_mono k (a := d) (b := n) [] (by omega) (by omega) (by omega) (by simp)
        have vm1 := value_mono 2 (a := d) (b := n) [n / 2] (by omega) (by omega) (by omega) (by intro z hz; simp at hz; omega)
        have HV0 := Lib.hid vm0
        have HV1 := Lib.hid vm1
        clear vm0 vm1
        by_cases hk2 : k = 2
        · subst hk2
          have hE4 : Ext X3 (X3.alloc (.cells #[.int .i64 (n / 2)] 3)) := (Ext.refl X3).alloc _
          have o1 := own_extX HR1.out hE4
          have o2 := own_extX HR2.out hE4
          have hs4 : w2.heap.size ≤ X3.heap.size := HS3.out
          have HO2 := Lib.hid o2
          have HE4 := Lib.hid hE4
          clear o2 hE4
          go_wp2_with (at_builtin; first | (refine wpList_app2 rfl _ _ 22 rfl 3 i0 (.int .i64 0) 1 8 Try.underlying22 hi0 hz0 hz1 hz2 rfl (by decide) (.slice (some ⟨w2.heap.size, 0, none⟩) 1 1) 1 w2.heap.size (iv [d]) rfl o1 (by rw [World.size_alloc]; omega) (some ⟨X3.heap.size, 0, none⟩) 1 1 (iv [n / 2]) rfl rfl (from_one X3 _ _) (iv_one _) (by unfold maxLen; omega) (by omega) ?_; intro vA WA hoA hgA haA; have hg1 := own_grown HO2.out hgA (by right; simp [Value.ownBlock, Act.eval]); have HGA := Lib.hid hgA; have HOA := Lib.hid hoA; have hsA := hgA.size; have HAA := Lib.hid haA; clear hgA hoA haA) | (refine wpList_app2 rfl _ _ 22 rfl 3 i0 (.int .i64 0) 1 8 Try.underlying22 hi0 hz0 hz1 hz2 rfl (by decide) (.slice (some ⟨w2.heap.size + 1, 0, none⟩) 1 1) 1 w2.heap.size (iv [n]) rfl (own_extX hg1 ((Ext.refl _).alloc _)) (by rw [World.size_alloc]; rw [World.size_alloc] at hsA; omega) (some ⟨WA.heap.size, 0, none⟩) 1 1 (iv [n / 2]) rfl rfl (from_one WA _ _) (iv_one _) (by unfold maxLen; omega) (by omega) ?_; intro vB WB hoB hgB haB))
          have hE5 : Ext WA (WA.alloc (.cells #[.int .i64 (n / 2)] 3)) := (Ext.refl WA).alloc _
          have hna : vA.ownBlock = none ∨ vA.ownBlock ≠ some (w2.heap.size + 1) := by
            right
            have hs3 := HS3b.out
            rcases HAA.out with h | h
            · have h2 : vA.ownBlock = some w2.heap.size := h
              rw [h2]; intro e; injection e with e; omega
            · rw [h, World.size_alloc]; intro e; injection e with e; omega
          have rA := own_grown (own_extX HOA.out hE5) hgB hna
          obtain ⟨aA, cA, rfl⟩ := own_slice rA
          obtain ⟨aB, cB, rfl⟩ := own_slice hoB
          have iA : IntsAt WB aA [d, n / 2] := own_intsL rA
          have iB : IntsAt WB aB [n, n / 2] := own_intsL hoB
          have EWB : Ext w WB := by
            have eA : Ext w WA := own_kp (HEX3.out.comp HE4.out) HGA.out (fun k hk => by have h2 : some w2.heap.size = some k := hk; injection h2 with h2; have := HE2.out.size; omega)
            exact own_kp (eA.comp hE5) hgB (fun k hk => by have h2 : some (w2.heap.size + 1) = some k := hk; injection h2 with h2; have := HE2.out.size; omega)
          have c1 := hv4 d (n / 2) WB aA cA iA
          have c2 := fun W (E : Ext WB W) => hv4 n (n / 2) W aB cB (iB.ext E)
          have HEB := Lib.hid EWB
          have hv := HV1.out
          clear rA iA iB hoB hgB haB hE5 hna EWB hsA hg1 o1 hv3 hv4
          generalize valueE 2 [d, n / 2] = p1 at *
          generalize valueE 2 [n, n / 2] = p2 at *
          refine c1.mono ?_
          rintro e w5 ⟨rfl, E5⟩
          have HE5 := Lib.hid (HEB.out.comp E5)
          have c3 := c2 _ E5
          clear c1 c2 E5
          obtain ⟨v1, ev⟩ := p1
          obtain ⟨v2, ev2⟩ := p2
          obtain ⟨hv1, hv2⟩ := hv
          dsimp only at hv1 hv2 c3
          subst hv1
          have hee : (ev == ev) = true := by simp
          go_wp2_with fail
          refine c3.mono ?_
          rintro e w6 ⟨rfl, E6⟩
          have HE6 := Lib.hid (HE5.out.comp E6)
          clear c3 E6
          go_wp2_with fail
          refine (awake8_any _).mono ?_
          rintro e w7 ⟨rfl, E7⟩
          have HE7 := Lib.hid (HE6.out.comp E7)
          clear E7
          go_wp2_with fail
          go_ret
          exact ⟨rfl, HE7.out⟩
        · have hE4 := Lib.hid HEX3.out
          have hv := HV0.out
          have c1 := hv3 d X3 (some ⟨w2.heap.size, 0, none⟩) 1 (own_intsL HR1.out)
          have c2 := fun W (E : Ext X3 W) => hv3 n W (some ⟨w2.heap.size + 1, 0, none⟩) 1 ((own_intsL HR2.out).ext E)
          clear hv3 hv4
          generalize valueE k [d] = p1 at *
          generalize valueE k [n] = p2 at *
          go_wp2_with fail
          refine c1.mono ?_
          rintro e w5 ⟨rfl, E5⟩
          have HE5 := Lib.hid (hE4.out.comp E5)
          have c3 := c2 _ E5
          clear c1 c2 E5
          obtain ⟨v1, ev⟩ := p1
          obtain ⟨v2, ev2⟩ := p2
          obtain ⟨hv1, hv2⟩ := hv
          dsimp only at hv1 hv2 c3
          subst hv1
          have hee : (ev == ev) = true := by simp
          go_wp2_with fail
          refine c3.mono ?_
          rintro e w6 ⟨rfl, E6⟩
          have HE6 := Lib.hid (HE5.out.comp E6)
          clear c3 E6
          go_wp2_with fail
          refine (awake8_any _).mono ?_
          rintro e w7 ⟨rfl, E7⟩
          have HE7 := Lib.hid (HE6.out.comp E7)
          clear E7
          go_wp2_with fail
          go_ret
          exact ⟨rfl, HE7.out⟩
    · skip
      rcases (show n < d ∨ n = d ∨ d < n by omega) with hnd | hnd | hnd
      · have hnd2 : ¬ d < n := by omega
        go_upto_region 10 with fail
        obtain ⟨X3, hX3⟩ : ∃ X3, (w2.alloc (.cells #[.int .i64 n] 3)).alloc (.cells #[.int .i64 d] 3) = X3 := ⟨_, rfl⟩
        have EX3 : Ext w2 X3 := by rw [← hX3]; exact (by repeat (first | with_reducible exact Ext.refl _ | with_reducible refine Ext.alloc ?_ _ | with_reducible refine Below.drew ?_))
        have r1 : X3.ownsRow w2.heap.size 3 1 (.slice (some ⟨w2.heap.size, 0, none⟩) 1 1) 1 (iv [n]) := by rw [← hX3]; exact own_lit rfl (by decide) ((Ext.refl _).alloc _)
        have r2 : X3.ownsRow w2.heap.size 3 1 (.slice (some ⟨w2.heap.size + 1, 0, none⟩) 1 1) 1 (iv [d]) := by
          rw [← hX3]
          have := own_lit (w := w2.alloc (.cells #[.int .i64 n] 3)) (e := 3) (sz := 1) (n := 1) (vs := #[.int .i64 d]) rfl (by decide) (Ext.refl _)
          rw [World.size_alloc] at this
          exact own_le this (Nat.le_succ _)
        rw [hX3]
        have HR1 := Lib.hid r1
        have HR2 := Lib.hid r2
        have HEX3 := Lib.hid (HE2.out.comp EX3)
        have HS3 := Lib.hid EX3.size
        have HS3b := Lib.hid (show X3.heap.size = w2.heap.size + 2 by rw [← hX3, World.size_alloc, World.size_alloc])
        clear hX3 r1 r2
        have vm0 := value_mono k (a := n) (b := d) [] (by omega) (by omega) (by omega) (by simp)
        have vm1 := value_mono 2 (a := n) (b := d) [n / 2] (by omega) (by omega) (by omega) (by intro z hz; simp at hz; omega)
        have HV0 := Lib.hid vm0
        have HV1 := Lib.hid vm1
        clear vm0 vm1
        by_cases hk2 : k = 2
        · subst hk2
          have hE4 : Ext X3 (X3.alloc (.cells #[.int .i64 (n / 2)] 3)) := (Ext.refl X3).alloc _
          have o1 := own_extX HR1.out hE4
          have o2 := own_extX HR2.out hE4
          have hs4 : w2.heap.size ≤ X3.heap.size := HS3.out
          have HO2 := Lib.hid o2
          have HE4 := Lib.hid hE4
          clear o2 hE4
          go_wp2_with (at_builtin; first | (refine wpList_app2 rfl _ _ 22 rfl 3 i0 (.int .i64 0) 1 8 Try.underlying22 hi0 hz0 hz1 hz2 rfl (by decide) (.slice (some ⟨w2.heap.size, 0, none⟩) 1 1) 1 w2.heap.size (iv [n]) rfl o1 (by rw [World.size_alloc]; omega) (some ⟨X3.heap.size, 0, none⟩) 1 1 (iv [n / 2]) rfl rfl (from_one X3 _ _) (iv_one _) (by unfold maxLen; omega) (by omega) ?_; intro vA WA hoA hgA haA; have hg1 := own_grown HO2.out hgA (by right; simp [Value.ownBlock, Act.eval]); have HGA := Lib.hid hgA; have HOA := Lib.hid hoA; have hsA := hgA.size; have HAA := Lib.hid haA; clear hgA hoA haA) | (refine wpList_app2 rfl _ _ 22 rfl 3 i0 (.int .i64 0) 1 8 Try.underlying22 hi0 hz0 hz1 hz2 rfl (by decide) (.slice (some ⟨w2.heap.size + 1, 0, none⟩) 1 1) 1 w2.heap.size (iv [d]) rfl (own_extX hg1 ((Ext.refl _).alloc _)) (by rw [World.size_alloc]; rw [World.size_alloc] at hsA; omega) (some ⟨WA.heap.size, 0, none⟩) 1 1 (iv [n / 2]) rfl rfl (from_one WA _ _) (iv_one _) (by unfold maxLen; omega) (by omega) ?_; intro vB WB hoB hgB haB))
          have hE5 : Ext WA (WA.alloc (.cells #[.int .i64 (n / 2)] 3)) := (Ext.refl WA).alloc _
          have hna : vA.ownBlock = none ∨ vA.ownBlock ≠ some (w2.heap.size + 1) := by
            right
            have hs3 := HS3b.out
            rcases HAA.out with h | h
            · have h2 : vA.ownBlock = some w2.heap.size := h
              rw [h2]; intro e; injection e with e; omega
            · rw [h, World.size_alloc]; intro e; injection e with e; omega
          have rA := own_grown (own_extX HOA.out hE5) hgB hna
          obtain ⟨aA, cA, rfl⟩ := own_slice rA
          obtain ⟨aB, cB, rfl⟩ := own_slice hoB
          have iA : IntsAt WB aA [n, n / 2] := own_intsL rA
          have iB : IntsAt WB aB [d, n / 2] := own_intsL hoB
          have EWB : Ext w WB := by
            have eA : Ext w WA := own_kp (HEX3.out.comp HE4.out) HGA.out (fun k hk => by have h2 : some w2.heap.size = some k := hk; injection h2 with h2; have := HE2.out.size; omega)
            exact own_kp (eA.comp hE5) hgB (fun k hk => by have h2 : some (w2.heap.size + 1) = some k := hk; injection h2 with h2; have := HE2.out.size; omega)
          have c1 := hv4 n (n / 2) WB aA cA iA
          have c2 := fun W (E : Ext WB W) => hv4 d (n / 2) W aB cB (iB.ext E)
          have HEB := Lib.hid EWB
          have hv := HV1.out
          clear rA iA iB hoB hgB haB hE5 hna EWB hsA hg1 o1 hv3 hv4
          generalize valueE 2 [n, n / 2] = p1 at *
          generalize valueE 2 [d, n / 2] = p2 at *
          refine c1.mono ?_
          rintro e w5 ⟨rfl, E5⟩
          have HE5 := Lib.hid (HEB.out.comp E5)
          have c3 := c2 _ E5
          clear c1 c2 E5
          obtain ⟨v1, ev⟩ := p1
          obtain ⟨v2, ev2⟩ := p2
          obtain ⟨hv1, hv2⟩ := hv
          dsimp only at hv1 hv2 c3
          subst hv1
          have hee : (ev == ev) = true := by simp
          go_wp2_with fail
          refine c3.mono ?_
          rintro e w6 ⟨rfl, E6⟩
          have HE6 := Lib.hid (HE5.out.comp E6)
          clear c3 E6
          go_wp2_with fail
          refine (awake8_any _).mono ?_
          rintro e w7 ⟨rfl, E7⟩
          have HE7 := Lib.hid (HE6.out.comp E7)
          clear E7
          go_wp2_with fail
          go_ret
          exact ⟨rfl, HE7.out⟩
        · have hE4 := Lib.hid HEX3.out
          have hv := HV0.out
          have c1 := hv3 n X3 (some ⟨w2.heap.size, 0, none⟩) 1 (own_intsL HR1.out)
          have c2 := fun W (E : Ext X3 W) => hv3 d W (some ⟨w2.heap.size + 1, 0, none⟩) 1 ((own_intsL HR2.out).ext E)
          clear hv3 hv4
          generalize valueE k [n] = p1 at *
          generalize valueE k [d] = p2 at *
          go_wp2_with fail
          refine c1.mono ?_
          rintro e w5 ⟨rfl, E5⟩
          have HE5 := Lib.hid (hE4.out.comp E5)
          have c3 := c2 _ E5
          clear c1 c2 E5
          obtain ⟨v1, ev⟩ := p1
          obtain ⟨v2, ev2⟩ := p2
          obtain ⟨hv1, hv2⟩ := hv
          dsimp only at hv1 hv2 c3
          subst hv1
          have hee : (ev == ev) = true := by simp
          go_wp2_with fail
          refine c3.mono ?_
          rintro e w6 ⟨rfl, E6⟩
          have HE6 := Lib.hid (HE5.out.comp E6)
          clear c3 E6
          go_wp2_with fail
          refine (awake8_any _).mono ?_
          rintro e w7 ⟨rfl, E7⟩
          have HE7 := Lib.hid (HE6.out.comp E7)
          clear E7
          go_wp2_with fail
          go_ret
          exact ⟨rfl, HE7.out⟩
      · subst hnd
        go_upto_region 10 with fail
        obtain ⟨X3, hX3⟩ : ∃ X3, (w2.alloc (.cells #[.int .i64 n] 3)).alloc (.cells #[.int .i64 n] 3) = X3 := ⟨_, rfl⟩
        have EX3 : Ext w2 X3 := by rw [← hX3]; exact (by repeat (first | with_reducible exact Ext.refl _ | with_reducible refine Ext.alloc ?_ _ | with_reducible refine Below.drew ?_))
        have r1 : X3.ownsRow w2.heap.size 3 1 (.slice (some ⟨w2.heap.size, 0, none⟩) 1 1) 1 (iv [n]) := by rw [← hX3]; exact own_lit rfl (by decide) ((Ext.refl _).alloc _)
        have r2 : X3.ownsRow w2.heap.size 3 1 (.slice (some ⟨w2.heap.size + 1, 0, none⟩) 1 1) 1 (iv [n]) := by
          rw [← hX3]
          have := own_lit (w := w2.alloc (.cells #[.int .i64 n] 3)) (e := 3) (sz := 1) (n := 1) (vs := #[.int .i64 n]) rfl (by decide) (Ext.refl _)
          rw [World.size_alloc] at this
          exact own_le this (Nat.le_succ _)
        rw [hX3]
        have HR1 := Lib.hid r1
        have HR2 := Lib.hid r2
        have HEX3 := Lib.hid (HE2.out.comp EX3)
        have HS3 := Lib.hid EX3.size
        have HS3b := Lib.hid (show X3.heap.size = w2.heap.size + 2 by rw [← hX3, World.size_alloc, World.size_alloc])
        clear hX3 r1 r2
        have vm0 := value_mono k (a := n) (b := n) [] (by omega) (by omega) (by omega) (by simp)
        have vm1 := value_mono 2 (a := n) (b := n) [n / 2] (by omega) (by omega) (by omega) (by intro z hz; simp at hz; omega)
        have HV0 := Lib.hid vm0
        have HV1 := Lib.hid vm1
        clear vm0 vm1
        by_cases hk2 : k = 2
        · subst hk2
          have hE4 : Ext X3 (X3.alloc (.cells #[.int .i64 (n / 2)] 3)) := (Ext.refl X3).alloc _
          have o1 := own_extX HR1.out hE4
          have o2 := own_extX HR2.out hE4
          have hs4 : w2.heap.size ≤ X3.heap.size := HS3.out
          have HO2 := Lib.hid o2
          have HE4 := Lib.hid hE4
          clear o2 hE4
          go_wp2_with (at_builtin; first | (refine wpList_app2 rfl _ _ 22 rfl 3 i0 (.int .i64 0) 1 8 Try.underlying22 hi0 hz0 hz1 hz2 rfl (by decide) (.slice (some ⟨w2.heap.size, 0, none⟩) 1 1) 1 w2.heap.size (iv [n]) rfl o1 (by rw [World.size_alloc]; omega) (some ⟨X3.heap.size, 0, none⟩) 1 1 (iv [n / 2]) rfl rfl (from_one X3 _ _) (iv_one _) (by unfold maxLen; omega) (by omega) ?_; intro vA WA hoA hgA haA; have hg1 := own_grown HO2.out hgA (by right; simp [Value.ownBlock, Act.eval]); have HGA := Lib.hid hgA; have HOA := Lib.hid hoA; have hsA := hgA.size; have HAA := Lib.hid haA; clear hgA hoA haA) | (refine wpList_app2 rfl _ _ 22 rfl 3 i0 (.int .i64 0) 1 8 Try.underlying22 hi0 hz0 hz1 hz2 rfl (by decide) (.slice (some ⟨w2.heap.size + 1, 0, none⟩) 1 1) 1 w2.heap.size (iv [n]) rfl (own_extX hg1 ((Ext.refl _).alloc _)) (by rw [World.size_alloc]; rw [World.size_alloc] at hsA; omega) (some ⟨WA.heap.size, 0, none⟩) 1 1 (iv [n / 2]) rfl rfl (from_one WA _ _) (iv_one _) (by unfold maxLen; omega) (by omega) ?_; intro vB WB hoB hgB haB))
          have hE5 : Ext WA (WA.alloc (.cells #[.int .i64 (n / 2)] 3)) := (Ext.refl WA).alloc _
          have hna : vA.ownBlock = none ∨ vA.ownBlock ≠ some (w2.heap.size + 1) := by
            right
            have hs3 := HS3b.out
            rcases HAA.out with h | h
            · have h2 : vA.ownBlock = some w2.heap.size := h
              rw [h2]; intro e; injection e with e; omega
            · rw [h, World.size_alloc]; intro e; injection e with e; omega
          have rA := own_grown (own_extX HOA.out hE5) hgB hna
          obtain ⟨aA, cA, rfl⟩ := own_slice rA
          obtain ⟨aB, cB, rfl⟩ := own_slice hoB
          have iA : IntsAt WB aA [n, n / 2] := own_intsL rA
          have iB : IntsAt WB aB [n, n / 2] := own_intsL hoB
          have EWB : Ext w WB := by
            have eA : Ext w WA := own_kp (HEX3.out.comp HE4.out) HGA.out (fun k hk => by have h2 : some w2.heap.size = some k := hk; injection h2 with h2; have := HE2.out.size; omega)
            exact own_kp (eA.comp hE5) hgB (fun k hk => by have h2 : some (w2.heap.size + 1) = some k := hk; injection h2 with h2; have := HE2.out.size; omega)
          have c1 := hv4 n (n / 2) WB aA cA iA
          have c2 := fun W (E : Ext WB W) => hv4 n (n / 2) W aB cB (iB.ext E)
          have HEB := Lib.hid EWB
          have hv := HV1.out
          clear rA iA iB hoB hgB haB hE5 hna EWB hsA hg1 o1 hv3 hv4
          generalize valueE 2 [n, n / 2] = p1 at *
          refine c1.mono ?_
          rintro e w5 ⟨rfl, E5⟩
          have HE5 := Lib.hid (HEB.out.comp E5)
          have c3 := c2 _ E5
          clear c1 c2 E5
          obtain ⟨v1, ev⟩ := p1
          have hee : (ev == ev) = true := by simp
          go_wp2_with fail
          refine c3.mono ?_
          rintro e w6 ⟨rfl, E6⟩
          have HE6 := Lib.hid (HE5.out.comp E6)
          clear c3 E6
          go_wp2_with fail
          refine (awake8_any _).mono ?_
          rintro e w7 ⟨rfl, E7⟩
          have HE7 := Lib.hid (HE6.out.comp E7)
          clear E7
          go_wp2_with fail
          go_ret
          exact ⟨rfl, HE7.out⟩
        · have hE4 := Lib.hid HEX3.out
          have hv := HV0.out
          have c1 := hv3 n X3 (some ⟨w2.heap.size, 0, none⟩) 1 (own_intsL HR1.out)
          have c2 := fun W (E : Ext X3 W) => hv3 n W (some ⟨w2.heap.size + 1, 0, none⟩) 1 ((own_intsL HR2.out).ext E)
          clear hv3 hv4
          generalize valueE k [n] = p1 at *
          go_wp2_with fail
          refine c1.mono ?_
          rintro e w5 ⟨rfl, E5⟩
          have HE5 := Lib.hid (hE4.out.comp E5)
          have c3 := c2 _ E5
          clear c1 c2 E5
          obtain ⟨v1, ev⟩ := p1
          have hee : (ev == ev) = true := by simp
          go_wp2_with fail
          refine c3.mono ?_
          rintro e w6 ⟨rfl, E6⟩
          have HE6 := Lib.hid (HE5.out.comp E6)
          clear c3 E6
          go_wp2_with fail
          refine (awake8_any _).mono ?_
          rintro e w7 ⟨rfl, E7⟩
          have HE7 := Lib.hid (HE6.out.comp E7)
          clear E7
          go_wp2_with fail
          go_ret
          exact ⟨rfl, HE7.out⟩
      · have hnd2 : ¬ n < d := by omega
        go_upto_region 10 with fail
        obtain ⟨X3, hX3⟩ : ∃ X3, (w2.alloc (.cells #[.int .i64 d] 3)).alloc (.cells #[.int .i64 n] 3) = X3 := ⟨_, rfl⟩
        have EX3 : Ext w2 X3 := by rw [← hX3]; exact (by repeat (first | with_reducible exact Ext.refl _ | with_reducible refine Ext.alloc ?_ _ | with_reducible refine Below.drew ?_))
        have r1 : X3.ownsRow w2.heap.size 3 1 (.slice (some ⟨w2.heap.size, 0, none⟩) 1 1) 1 (iv [d]) := by rw [← hX3]; exact own_lit rfl (by decide) ((Ext.refl _).alloc _)
        have r2 : X3.ownsRow w2.heap.size 3 1 (.slice (some ⟨w2.heap.size + 1, 0, none⟩) 1 1) 1 (iv [n]) := by
          rw [← hX3]
          have := own_lit (w := w2.alloc (.cells #[.int .i64 d] 3)) (e := 3) (sz := 1) (n := 1) (vs := #[.int .i64 n]) rfl (by decide) (Ext.refl _)
          rw [World.size_alloc] at this
          exact own_le this (Nat.le_succ _)
        rw [hX3]
        have HR1 := Lib.hid r1
        have HR2 := Lib.hid r2
        have HEX3 := Lib.hid (HE2.out.comp EX3)
        have HS3 := Lib.hid EX3.size
        have HS3b := Lib.hid (show X3.heap.size = w2.heap.size + 2 by rw [← hX3, World.size_alloc, World.size_alloc])
        clear hX3 r1 r2
        have vm0 := value_mono k (a := d) (b := n) [] (by omega) (by omega) (by omega) (by simp)
        have vm1 := value_mono 2 (a := d) (b := n) [n / 2] (by omega) (by omega) (by omega) (by intro z hz; simp at hz; omega)
        have HV0 := Lib.hid vm0
        have HV1 := Lib.hid vm1
        clear vm0 vm1
        by_cases hk2 : k = 2
        · subst hk2
          have hE4 : Ext X3 (X3.alloc (.cells #[.int .i64 (n / 2)] 3)) := (Ext.refl X3).alloc _
          have o1 := own_extX HR1.out hE4
          have o2 := own_extX HR2.out hE4
          have hs4 : w2.heap.size ≤ X3.heap.size := HS3.out
          have HO2 := Lib.hid o2
          have HE4 := Lib.hid hE4
          clear o2 hE4
          go_wp2_with (at_builtin; first | (refine wpList_app2 rfl _ _ 22 rfl 3 i0 (.int .i64 0) 1 8 Try.underlying22 hi0 hz0 hz1 hz2 rfl (by decide) (.slice (some ⟨w2.heap.size, 0, none⟩) 1 1) 1 w2.heap.size (iv [d]) rfl o1 (by rw [World.size_alloc]; omega) (some ⟨X3.heap.size, 0, none⟩) 1 1 (iv [n / 2]) rfl rfl (from_one X3 _ _) (iv_one _) (by unfold maxLen; omega) (by omega) ?_; intro vA WA hoA hgA haA; have hg1 := own_grown HO2.out hgA (by right; simp [Value.ownBlock, Act.eval]); have HGA := Lib.hid hgA; have HOA := Lib.hid hoA; have hsA := hgA.size; have HAA := Lib.hid haA; clear hgA hoA haA) | (refine wpList_app2 rfl _ _ 22 rfl 3 i0 (.int .i64 0) 1 8 Try.underlying22 hi0 hz0 hz1 hz2 rfl (by decide) (.slice (some ⟨w2.heap.size + 1, 0, none⟩) 1 1) 1 w2.heap.size (iv [n]) rfl (own_extX hg1 ((Ext.refl _).alloc _)) (by rw [World.size_alloc]; rw [World.size_alloc] at hsA; omega) (some ⟨WA.heap.size, 0, none⟩) 1 1 (iv [n / 2]) rfl rfl (from_one WA _ _) (iv_one _) (by unfold maxLen; omega) (by omega) ?_; intro vB WB hoB hgB haB))
          have hE5 : Ext WA (WA.alloc (.cells #[.int .i64 (n / 2)] 3)) := (Ext.refl WA).alloc _
          have hna : vA.ownBlock = none ∨ vA.ownBlock ≠ some (w2.heap.size + 1) := by
            right
            have hs3 := HS3b.out
            rcases HAA.out with h | h
            · have h2 : vA.ownBlock = some w2.heap.size := h
              rw [h2]; intro e; injection e with e; omega
            · rw [h, World.size_alloc]; intro e; injection e with e; omega
          have rA := own_grown (own_extX HOA.out hE5) hgB hna
          obtain ⟨aA, cA, rfl⟩ := own_slice rA
          obtain ⟨aB, cB, rfl⟩ := own_slice hoB
          have iA : IntsAt WB aA [d, n / 2] := own_intsL rA
          have iB : IntsAt WB aB [n, n / 2] := own_intsL hoB
          have EWB : Ext w WB := by
            have eA : Ext w WA := own_kp (HEX3.out.comp HE4.out) HGA.out (fun k hk => by have h2 : some w2.heap.size = some k := hk; injection h2 with h2; have := HE2.out.size; omega)
            exact own_kp (eA.comp hE5) hgB (fun k hk => by have h2 : some (w2.heap.size + 1) = some k := hk; injection h2 with h2; have := HE2.out.size; omega)
          have c1 := hv4 d (n / 2) WB aA cA iA
          have c2 := fun W (E : Ext WB W) => hv4 n (n / 2) W aB cB (iB.ext E)
          have HEB := Lib.hid EWB
          have hv := HV1.out
          clear rA iA iB hoB hgB haB hE5 hna EWB hsA hg1 o1 hv3 hv4
          generalize valueE 2 [d, n / 2] = p1 at *
          generalize valueE 2 [n, n / 2] = p2 at *
          refine c1.mono ?_
          rintro e w5 ⟨rfl, E5⟩
          have HE5 := Lib.hid (HEB.out.comp E5)
          have c3 := c2 _ E5
          clear c1 c2 E5
          obtain ⟨v1, ev⟩ := p1
          obtain ⟨v2, ev2⟩ := p2
          obtain ⟨hv1, hv2⟩ := hv
          dsimp only at hv1 hv2 c3
          subst hv1
          have hee : (ev == ev) = true := by simp
          go_wp2_with fail
          refine c3.mono ?_
          rintro e w6 ⟨rfl, E6⟩
          have HE6 := Lib.hid (HE5.out.comp E6)
          clear c3 E6
          go_wp2_with fail
          refine (awake8_any _).mono ?_
          rintro e w7 ⟨rfl, E7⟩
          have HE7 := Lib.hid (HE6.out.comp E7)
          clear E7
          go_wp2_with fail
          go_ret
          exact ⟨rfl, HE7.out⟩
        · have hE4 := Lib.hid HEX3.out
          have hv := HV0.out
          have c1 := hv3 d X3 (some ⟨w2.heap.size, 0, none⟩) 1 (own_intsL HR1.out)
          have c2 := fun W (E : Ext X3 W) => hv3 n W (some ⟨w2.heap.size + 1, 0, none⟩) 1 ((own_intsL HR2.out).ext E)
          clear hv3 hv4
          generalize valueE k [d] = p1 at *
          generalize valueE k [n] = p2 at *
          go_wp2_with fail
          refine c1.mono ?_
          rintro e w5 ⟨rfl, E5⟩
          have HE5 := Lib.hid (hE4.out.comp E5)
          have c3 := c2 _ E5
          clear c1 c2 E5
          obtain ⟨v1, ev⟩ := p1
          obtain ⟨v2, ev2⟩ := p2
          obtain ⟨hv1, hv2⟩ := hv
          dsimp only at hv1 hv2 c3
          subst hv1
          have hee : (ev == ev) = true := by simp
          go_wp2_with fail
          refine c3.mono ?_
          rintro e w6 ⟨rfl, E6⟩
          have HE6 := Lib.hid (HE5.out.comp E6)
          clear c3 E6
          go_wp2_with fail
          refine (awake8_any _).mono ?_
          rintro e w7 ⟨rfl, E7⟩
          have HE7 := Lib.hid (HE6.out.comp E7)
          clear E7
          go_wp2_with fail
          go_ret
          exact ⟨rfl, HE7.out⟩
  · by_cases hq7 : q < 8388607
    · have y2 : ¬ (q + 1) * d < 8388608 * (n + 1) := by have := HX.out.q2 hq7; omega
      rcases (show n < d ∨ n = d ∨ d < n by omega) with hnd | hnd | hnd
      · have hnd2 : ¬ d < n := by omega
        go_upto_region 10 with fail
        obtain ⟨X3, hX3⟩ : ∃ X3, (w2.alloc (.cells #[.int .i64 n] 3)).alloc (.cells #[.int .i64 d] 3) = X3 := ⟨_, rfl⟩
        have EX3 : Ext w2 X3 := by rw [← hX3]; exact (by repeat (first | with_reducible exact Ext.refl _ | with_reducible refine Ext.alloc ?_ _ | with_reducible refine Below.drew ?_))
        have r1 : X3.ownsRow w2.heap.size 3 1 (.slice (some ⟨w2.heap.size, 0, none⟩) 1 1) 1 (iv [n]) := by rw [← hX3]; exact own_lit rfl (by decide) ((Ext.refl _).alloc _)
        have r2 : X3.ownsRow w2.heap.size 3 1 (.slice (some ⟨w2.heap.size + 1, 0, none⟩) 1 1) 1 (iv [d]) := by
          rw [← hX3]
          have := own_lit (w := w2.alloc (.cells #[.int .i64 n] 3)) (e := 3) (sz := 1) (n := 1) (vs := #[.int .i64 d]) rfl (by decide) (Ext.refl _)
          rw [World.size_alloc] at this
          exact own_le this (Nat.le_succ _)
        rw [hX3]
        have HR1 := Lib.hid r1
        have HR2 := Lib.hid r2
        have HEX3 := Lib.hid (HE2.out.comp EX3)
        have HS3 := Lib.hid EX3.size
        have HS3b := Lib.hid (show X3.heap.size = w2.heap.size + 2 by rw [← hX3, World.size_alloc, World.size_alloc])
        clear hX3 r1 r2
        have vm0 := value_mono k (a := n) (b := d) [] (by omega) (by omega) (by omega) (by simp)
        have vm1 := value_mono 2 (a := n) (b := d) [n / 2] (by omega) (by omega) (by omega) (by intro z hz; simp at hz; omega)
        have HV0 := Lib.hid vm0
        have HV1 := Lib.hid vm1
        clear vm0 vm1
        by_cases hk2 : k = 2
        · subst hk2
          have hE4 : Ext X3 (X3.alloc (.cells #[.int .i64 (n / 2)] 3)) := (Ext.refl X3).alloc _
          have o1 := own_extX HR1.out hE4
          have o2 := own_extX HR2.out hE4
          have hs4 : w2.heap.size ≤ X3.heap.size := HS3.out
          have HO2 := Lib.hid o2
          have HE4 := Lib.hid hE4
          clear o2 hE4
          go_wp2_with (at_builtin; first | (refine wpList_app2 rfl _ _ 22 rfl 3 i0 (.int .i64 0) 1 8 Try.underlying22 hi0 hz0 hz1 hz2 rfl (by decide) (.slice (some ⟨w2.heap.size, 0, none⟩) 1 1) 1 w2.heap.size (iv [n]) rfl o1 (by rw [World.size_alloc]; omega) (some ⟨X3.heap.size, 0, none⟩) 1 1 (iv [n / 2]) rfl rfl (from_one X3 _ _) (iv_one _) (by unfold maxLen; omega) (by omega) ?_; intro vA WA hoA hgA haA; have hg1 := own_grown HO2.out hgA (by right; simp [Value.ownBlock, Act.eval]); have HGA := Lib.hid hgA; have HOA := Lib.hid hoA; have hsA := hgA.size; have HAA := Lib.hid haA; clear hgA hoA haA) | (refine wpList_app2 rfl _ _ 22 rfl 3 i0 (.int .i64 0) 1 8 Try.underlying22 hi0 hz0 hz1 hz2 rfl (by decide) (.slice (some ⟨w2.heap.size + 1, 0, none⟩) 1 1) 1 w2.heap.size (iv [d]) rfl (own_extX hg1 ((Ext.refl _).alloc _)) (by rw [World.size_alloc]; rw [World.size_alloc] at hsA; omega) (some ⟨WA.heap.size, 0, none⟩) 1 1 (iv [n / 2]) rfl rfl (from_one WA _ _) (iv_one _) (by unfold maxLen; omega) (by omega) ?_; intro vB WB hoB hgB haB))
          have hE5 : Ext WA (WA.alloc (.cells #[.int .i64 (n / 2)] 3)) := (Ext.refl WA).alloc _
          have hna : vA.ownBlock = none ∨ vA.ownBlock ≠ some (w2.heap.size + 1) := by
            right
            have hs3 := HS3b.out
            rcases HAA.out with h | h
            · have h2 : vA.ownBlock = some w2.heap.size := h
              rw [h2]; intro e; injection e with e; omega
            · rw [h, World.size_alloc]; intro e; injection e with e; omega
          have rA := own_grown (own_extX HOA.out hE5) hgB hna
          obtain ⟨aA, cA, rfl⟩ := own_slice rA
          obtain ⟨aB, cB, rfl⟩ := own_slice hoB
          have iA : IntsAt WB aA [n, n / 2] := own_intsL rA
          have iB : IntsAt WB aB [d, n / 2] := own_intsL hoB
          have EWB : Ext w WB := by
            have eA : Ext w WA := own_kp (HEX3.out.comp HE4.out) HGA.out (fun k hk => by have h2 : some w2.heap.size = some k := hk; injection h2 with h2; have := HE2.out.size; omega)
            exact own_kp (eA.comp hE5) hgB (fun k hk => by have h2 : some (w2.heap.size + 1) = some k := hk; injection h2 with h2; have := HE2.out.size; omega)
          have c1 := hv4 n (n / 2) WB aA cA iA
          have c2 := fun W (E : Ext WB W) => hv4 d (n / 2) W aB cB (iB.ext E)
          have HEB := Lib.hid EWB
          have hv := HV1.out
          clear rA iA iB hoB hgB haB hE5 hna EWB hsA hg1 o1 hv3 hv4
          generalize valueE 2 [n, n / 2] = p1 at *
          generalize valueE 2 [d, n / 2] = p2 at *
          refine c1.mono ?_
          rintro e w5 ⟨rfl, E5⟩
          have HE5 := Lib.hid (HEB.out.comp E5)
          have c3 := c2 _ E5
          clear c1 c2 E5
          obtain ⟨v1, ev⟩ := p1
          obtain ⟨v2, ev2⟩ := p2
          obtain ⟨hv1, hv2⟩ := hv
          dsimp only at hv1 hv2 c3
          subst hv1
          have hee : (ev == ev) = true := by simp
          go_wp2_with fail
          refine c3.mono ?_
          rintro e w6 ⟨rfl, E6⟩
          have HE6 := Lib.hid (HE5.out.comp E6)
          clear c3 E6
          go_wp2_with fail
          refine (awake8_any _).mono ?_
          rintro e w7 ⟨rfl, E7⟩
          have HE7 := Lib.hid (HE6.out.comp E7)
          clear E7
          go_wp2_with fail
          go_ret
          exact ⟨rfl, HE7.out⟩
        · have hE4 := Lib.hid HEX3.out
          have hv := HV0.out
          have c1 := hv3 n X3 (some ⟨w2.heap.size, 0, none⟩) 1 (own_intsL HR1.out)
          have c2 := fun W (E : Ext X3 W) => hv3 d W (some ⟨w2.heap.size + 1, 0, none⟩) 1 ((own_intsL HR2.out).ext E)
          clear hv3 hv4
          generalize valueE k [n] = p1 at *
          generalize valueE k [d] = p2 at *
          go_wp2_with fail
          refine c1.mono ?_
          rintro e w5 ⟨rfl, E5⟩
          have HE5 := Lib.hid (hE4.out.comp E5)
          have c3 := c2 _ E5
          clear c1 c2 E5
          obtain ⟨v1, ev⟩ := p1
          obtain ⟨v2, ev2⟩ := p2
          obtain ⟨hv1, hv2⟩ := hv
          dsimp only at hv1 hv2 c3
          subst hv1
          have hee : (ev == ev) = true := by simp
          go_wp2_with fail
          refine c3.mono ?_
          rintro e w6 ⟨rfl, E6⟩
          have HE6 := Lib.hid (HE5.out.comp E6)
          clear c3 E6
          go_wp2_with fail
          refine (awake8_any _).mono ?_
          rintro e w7 ⟨rfl, E7⟩
          have HE7 := Lib.hid (HE6.out.comp E7)
          clear E7
          go_wp2_with fail
          go_ret
          exact ⟨rfl, HE7.out⟩
      · subst hnd
        go_upto_region 10 with fail
        obtain ⟨X3, hX3⟩ : ∃ X3, (w2.alloc (.cells #[.int .i64 n] 3)).alloc (.cells #[.int .i64 n] 3) = X3 := ⟨_, rfl⟩
        have EX3 : Ext w2 X3 := by rw [← hX3]; exact (by repeat (first | with_reducible exact Ext.refl _ | with_reducible refine Ext.alloc ?_ _ | with_reducible refine Below.drew ?_))
        have r1 : X3.ownsRow w2.heap.size 3 1 (.slice (some ⟨w2.heap.size, 0, none⟩) 1 1) 1 (iv [n]) := by rw [← hX3]; exact own_lit rfl (by decide) ((Ext.refl _).alloc _)
        have r2 : X3.ownsRow w2.heap.size 3 1 (.slice (some ⟨w2.heap.size + 1, 0, none⟩) 1 1) 1 (iv [n]) := by
          rw [← hX3]
          have := own_lit (w := w2.alloc (.cells #[.int .i64 n] 3)) (e := 3) (sz := 1) (n := 1) (vs := #[.int .i64 n]) rfl (by decide) (Ext.refl _)
          rw [World.size_alloc] at this
          exact own_le this (Nat.le_succ _)
        rw [hX3]
        have HR1 := Lib.hid r1
        have HR2 := Lib.hid r2
        have HEX3 := Lib.hid (HE2.out.comp EX3)
        have HS3 := Lib.hid EX3.size
        have HS3b := Lib.hid (show X3.heap.size = w2.heap.size + 2 by rw [← hX3, World.size_alloc, World.size_alloc])
        clear hX3 r1 r2
        have vm0 := value_mono k (a := n) (b := n) [] (by omega) (by omega) (by omega) (by simp)
        have vm1 := value_mono 2 (a := n) (b := n) [n / 2] (by omega) (by omega) (by omega) (by intro z hz; simp at hz; omega)
        have HV0 := Lib.hid vm0
        have HV1 := Lib.hid vm1
        clear vm0 vm1
        by_cases hk2 : k = 2
        · subst hk2
          have hE4 : Ext X3 (X3.alloc (.cells #[.int .i64 (n / 2)] 3)) := (Ext.refl X3).alloc _
          have o1 := own_extX HR1.out hE4
          have o2 := own_extX HR2.out hE4
          have hs4 : w2.heap.size ≤ X3.heap.size := HS3.out
          have HO2 := Lib.hid o2
          have HE4 := Lib.hid hE4
          clear o2 hE4
          go_wp2_with (at_builtin; first | (refine wpList_app2 rfl _ _ 22 rfl 3 i0 (.int .i64 0) 1 8 Try.underlying22 hi0 hz0 hz1 hz2 rfl (by decide) (.slice (some ⟨w2.heap.size, 0, none⟩) 1 1) 1 w2.heap.size (iv [n]) rfl o1 (by rw [World.size_alloc]; omega) (some ⟨X3.heap.size, 0, none⟩) 1 1 (iv [n / 2]) rfl rfl (from_one X3 _ _) (iv_one _) (by unfold maxLen; omega) (by omega) ?_; intro vA WA hoA hgA haA; have hg1 := own_grown HO2.out hgA (by right; simp [Value.ownBlock, Act.eval]); have HGA := Lib.hid hgA; have HOA := Lib.hid hoA; have hsA := hgA.size; have HAA := Lib.hid haA; clear hgA hoA haA) | (refine wpList_app2 rfl _ _ 22 rfl 3 i0 (.int .i64 0) 1 8 Try.underlying22 hi0 hz0 hz1 hz2 rfl (by decide) (.slice (some ⟨w2.heap.size + 1, 0, none⟩) 1 1) 1 w2.heap.size (iv [n]) rfl (own_extX hg1 ((Ext.refl _).alloc _)) (by rw [World.size_alloc]; rw [World.size_alloc] at hsA; omega) (some ⟨WA.heap.size, 0, none⟩) 1 1 (iv [n / 2]) rfl rfl (from_one WA _ _) (iv_one _) (by unfold maxLen; omega) (by omega) ?_; intro vB WB hoB hgB haB))
          have hE5 : Ext WA (WA.alloc (.cells #[.int .i64 (n / 2)] 3)) := (Ext.refl WA).alloc _
          have hna : vA.ownBlock = none ∨ vA.ownBlock ≠ some (w2.heap.size + 1) := by
            right
            have hs3 := HS3b.out
            rcases HAA.out with h | h
            · have h2 : vA.ownBlock = some w2.heap.size := h
              rw [h2]; intro e; injection e with e; omega
            · rw [h, World.size_alloc]; intro e; injection e with e; omega
          have rA := own_grown (own_extX HOA.out hE5) hgB hna
          obtain ⟨aA, cA, rfl⟩ := own_slice rA
          obtain ⟨aB, cB, rfl⟩ := own_slice hoB
          have iA : IntsAt WB aA [n, n / 2] := own_intsL rA
          have iB : IntsAt WB aB [n, n / 2] := own_intsL hoB
          have EWB : Ext w WB := by
            have eA : Ext w WA := own_kp (HEX3.out.comp HE4.out) HGA.out (fun k hk => by have h2 : some w2.heap.size = some k := hk; injection h2 with h2; have := HE2.out.size; omega)
            exact own_kp (eA.comp hE5) hgB (fun k hk => by have h2 : some (w2.heap.size + 1) = some k := hk; injection h2 with h2; have := HE2.out.size; omega)
          have c1 := hv4 n (n / 2) WB aA cA iA
          have c2 := fun W (E : Ext WB W) => hv4 n (n / 2) W aB cB (iB.ext E)
          have HEB := Lib.hid EWB
          have hv := HV1.out
          clear rA iA iB hoB hgB haB hE5 hna EWB hsA hg1 o1 hv3 hv4
          generalize valueE 2 [n, n / 2] = p1 at *
          refine c1.mono ?_
          rintro e w5 ⟨rfl, E5⟩
          have HE5 := Lib.hid (HEB.out.comp E5)
          have c3 := c2 _ E5
          clear c1 c2 E5
          obtain ⟨v1, ev⟩ := p1
          have hee : (ev == ev) = true := by simp
          go_wp2_with fail
          refine c3.mono ?_
          rintro e w6 ⟨rfl, E6⟩
          have HE6 := Lib.hid (HE5.out.comp E6)
          clear c3 E6
          go_wp2_with fail
          refine (awake8_any _).mono ?_
          rintro e w7 ⟨rfl, E7⟩
          have HE7 := Lib.hid (HE6.out.comp E7)
          clear E7
          go_wp2_with fail
          go_ret
          exact ⟨rfl, HE7.out⟩
        · have hE4 := Lib.hid HEX3.out
          have hv := HV0.out
          have c1 := hv3 n X3 (some ⟨w2.heap.size, 0, none⟩) 1 (own_intsL HR1.out)
          have c2 := fun W (E : Ext X3 W) => hv3 n W (some ⟨w2.heap.size + 1, 0, none⟩) 1 ((own_intsL HR2.out).ext E)
          clear hv3 hv4
          generalize valueE k [n] = p1 at *
          go_wp2_with fail
          refine c1.mono ?_
          rintro e w5 ⟨rfl, E5⟩
          have HE5 := Lib.hid (hE4.out.comp E5)
          have c3 := c2 _ E5
          clear c1 c2 E5
          obtain ⟨v1, ev⟩ := p1
          have hee : (ev == ev) = true := by simp
          go_wp2_with fail
          refine c3.mono ?_
          rintro e w6 ⟨rfl, E6⟩
          have HE6 := Lib.hid (HE5.out.comp E6)
          clear c3 E6
          go_wp2_with fail
          refine (awake8_any _).mono ?_
          rintro e w7 ⟨rfl, E7⟩
          have HE7 := Lib.hid (HE6.out.comp E7)
          clear E7
          go_wp2_with fail
          go_ret
          exact ⟨rfl, HE7.out⟩
      · have hnd2 : ¬ n < d := by omega
        go_upto_region 10 with fail
        obtain ⟨X3, hX3⟩ : ∃ X3, (w2.alloc (.cells #[.int .i64 d] 3)).alloc (.cells #[.int .i64 n] 3) = X3 := ⟨_, rfl⟩
        have EX3 : Ext w2 X3 := by rw [← hX3]; exact (by repeat (first | with_reducible exact Ext.refl _ | with_reducible refine Ext.alloc ?_ _ | with_reducible refine Below.drew ?_))
        have r1 : X3.ownsRow w2.heap.size 3 1 (.slice (some ⟨w2.heap.size, 0, none⟩) 1 1) 1 (iv [d]) := by rw [← hX3]; exact own_lit rfl (by decide) ((Ext.refl _).alloc _)
        have r2 : X3.ownsRow w2.heap.size 3 1 (.slice (some ⟨w2.heap.size + 1, 0, none⟩) 1 1) 1 (iv [n]) := by
          rw [← hX3]
          have := own_lit (w := w2.alloc (.cells #[.int .i64 d] 3)) (e := 3) (sz := 1) (n := 1) (vs := #[.int .i64 n]) rfl (by decide) (Ext.refl _)
          rw [World.size_alloc] at this
          exact own_le this (Nat.le_succ _)
        rw [hX3]
        have HR1 := Lib.hid r1
        have HR2 := Lib.hid r2
        have HEX3 := Lib.hid (HE2.out.comp EX3)
        have HS3 := Lib.hid EX3.size
        have HS3b := Lib.hid (show X3.heap.size = w2.heap.size + 2 by rw [← hX3, World.size_alloc, World.size_alloc])
        clear hX3 r1 r2
        have vm0 := value_mono k (a := d) (b := n) [] (by omega) (by omega) (by omega) (by simp)
        have vm1 := value_mono 2 (a := d) (b := n) [n / 2] (by omega) (by omega) (by omega) (by intro z hz; simp at hz; omega)
        have HV0 := Lib.hid vm0
        have HV1 := Lib.hid vm1
        clear vm0 vm1
        by_cases hk2 : k = 2
        · subst hk2
          have hE4 : Ext X3 (X3.alloc (.cells #[.int .i64 (n / 2)] 3)) := (Ext.refl X3).alloc _
          have o1 := own_extX HR1.out hE4
          have o2 := own_extX HR2.out hE4
          have hs4 : w2.heap.size ≤ X3.heap.size := HS3.out
          have HO2 := Lib.hid o2
          have HE4 := Lib.hid hE4
          clear o2 hE4
          go_wp2_with (at_builtin; first | (refine wpList_app2 rfl _ _ 22 rfl 3 i0 (.int .i64 0) 1 8 Try.underlying22 hi0 hz0 hz1 hz2 rfl (by decide) (.slice (some ⟨w2.heap.size, 0, none⟩) 1 1) 1 w2.heap.size (iv [d]) rfl o1 (by rw [World.size_alloc]; omega) (some ⟨X3.heap.size, 0, none⟩) 1 1 (iv [n / 2]) rfl rfl (from_one X3 _ _) (iv_one _) (by unfold maxLen; omega) (by omega) ?_; intro vA WA hoA hgA haA; have hg1 := own_grown HO2.out hgA (by right; simp [Value.ownBlock, Act.eval]); have HGA := Lib.hid hgA; have HOA := Lib.hid hoA; have hsA := hgA.size; have HAA := Lib.hid haA; clear hgA hoA haA) | (refine wpList_app2 rfl _ _ 22 rfl 3 i0 (.int .i64 0) 1 8 Try.underlying22 hi0 hz0 hz1 hz2 rfl (by decide) (.slice (some ⟨w2.heap.size + 1, 0, none⟩) 1 1) 1 w2.heap.size (iv [n]) rfl (own_extX hg1 ((Ext.refl _).alloc _)) (by rw [World.size_alloc]; rw [World.size_alloc] at hsA; omega) (some ⟨WA.heap.size, 0, none⟩) 1 1 (iv [n / 2]) rfl rfl (from_one WA _ _) (iv_one _) (by unfold maxLen; omega) (by omega) ?_; intro vB WB hoB hgB haB))
          have hE5 : Ext WA (WA.alloc (.cells #[.int .i64 (n / 2)] 3)) := (Ext.refl WA).alloc _
          have hna : vA.ownBlock = none ∨ vA.ownBlock ≠ some (w2.heap.size + 1) := by
            right
            have hs3 := HS3b.out
            rcases HAA.out with h | h
            · have h2 : vA.ownBlock = some w2.heap.size := h
              rw [h2]; intro e; injection e with e; omega
            · rw [h, World.size_alloc]; intro e; injection e with e; omega
          have rA := own_grown (own_extX HOA.out hE5) hgB hna
          obtain ⟨aA, cA, rfl⟩ := own_slice rA
          obtain ⟨aB, cB, rfl⟩ := own_slice hoB
          have iA : IntsAt WB aA [d, n / 2] := own_intsL rA
          have iB : IntsAt WB aB [n, n / 2] := own_intsL hoB
          have EWB : Ext w WB := by
            have eA : Ext w WA := own_kp (HEX3.out.comp HE4.out) HGA.out (fun k hk => by have h2 : some w2.heap.size = some k := hk; injection h2 with h2; have := HE2.out.size; omega)
            exact own_kp (eA.comp hE5) hgB (fun k hk => by have h2 : some (w2.heap.size + 1) = some k := hk; injection h2 with h2; have := HE2.out.size; omega)
          have c1 := hv4 d (n / 2) WB aA cA iA
          have c2 := fun W (E : Ext WB W) => hv4 n (n / 2) W aB cB (iB.ext E)
          have HEB := Lib.hid EWB
          have hv := HV1.out
          clear rA iA iB hoB hgB haB hE5 hna EWB hsA hg1 o1 hv3 hv4
          generalize valueE 2 [d, n / 2] = p1 at *
          generalize valueE 2 [n, n / 2] = p2 at *
          refine c1.mono ?_
          rintro e w5 ⟨rfl, E5⟩
          have HE5 := Lib.hid (HEB.out.comp E5)
          have c3 := c2 _ E5
          clear c1 c2 E5
          obtain ⟨v1, ev⟩ := p1
          obtain ⟨v2, ev2⟩ := p2
          obtain ⟨hv1, hv2⟩ := hv
          dsimp only at hv1 hv2 c3
          subst hv1
          have hee : (ev == ev) = true := by simp
          go_wp2_with fail
          refine c3.mono ?_
          rintro e w6 ⟨rfl, E6⟩
          have HE6 := Lib.hid (HE5.out.comp E6)
          clear c3 E6
          go_wp2_with fail
          refine (awake8_any _).mono ?_
          rintro e w7 ⟨rfl, E7⟩
          have HE7 := Lib.hid (HE6.out.comp E7)
          clear E7
          go_wp2_with fail
          go_ret
          exact ⟨rfl, HE7.out⟩
        · have hE4 := Lib.hid HEX3.out
          have hv := HV0.out
          have c1 := hv3 d X3 (some ⟨w2.heap.size, 0, none⟩) 1 (own_intsL HR1.out)
          have c2 := fun W (E : Ext X3 W) => hv3 n W (some ⟨w2.heap.size + 1, 0, none⟩) 1 ((own_intsL HR2.out).ext E)
          clear hv3 hv4
          generalize valueE k [d] = p1 at *
          generalize valueE k [n] = p2 at *
          go_wp2_with fail
          refine c1.mono ?_
          rintro e w5 ⟨rfl, E5⟩
          have HE5 := Lib.hid (hE4.out.comp E5)
          have c3 := c2 _ E5
          clear c1 c2 E5
          obtain ⟨v1, ev⟩ := p1
          obtain ⟨v2, ev2⟩ := p2
          obtain ⟨hv1, hv2⟩ := hv
          dsimp only at hv1 hv2 c3
          subst hv1
          have hee : (ev == ev) = true := by simp
          go_wp2_with fail
          refine c3.mono ?_
          rintro e w6 ⟨rfl, E6⟩
          have HE6 := Lib.hid (HE5.out.comp E6)
          clear c3 E6
          go_wp2_with fail
          refine (awake8_any _).mono ?_
          rintro e w7 ⟨rfl, E7⟩
          have HE7 := Lib.hid (HE6.out.comp E7)
          clear E7
          go_wp2_with fail
          go_ret
          exact ⟨rfl, HE7.out⟩
    · skip
      rcases (show n < d ∨ n = d ∨ d < n by omega) with hnd | hnd | hnd
      · have hnd2 : ¬ d < n := by omega
        go_upto_region 10 with fail
        obtain ⟨X3, hX3⟩ : ∃ X3, (w2.alloc (.cells #[.int .i64 n] 3)).alloc (.cells #[.int .i64 d] 3) = X3 := ⟨_, rfl⟩
        have EX3 : Ext w2 X3 := by rw [← hX3]; exact (by repeat (first | with_reducible exact Ext.refl _ | with_reducible refine Ext.alloc ?_ _ | with_reducible refine Below.drew ?_))
        have r1 : X3.ownsRow w2.heap.size 3 1 (.slice (some ⟨w2.heap.size, 0, none⟩) 1 1) 1 (iv [n]) := by rw [← hX3]; exact own_lit rfl (by decide) ((Ext.refl _).alloc _)
        have r2 : X3.ownsRow w2.heap.size 3 1 (.slice (some ⟨w2.heap.size + 1, 0, none⟩) 1 1) 1 (iv [d]) := by
          rw [← hX3]
          have := own_lit (w := w2.alloc (.cells #[.int .i64 n] 3)) (e := 3) (sz := 1) (n := 1) (vs := #[.int .i64 d]) rfl (by decide) (Ext.refl _)
          rw [World.size_alloc] at this
          exact own_le this (Nat.le_succ _)
        rw [hX3]
        have HR1 := Lib.hid r1
        have HR2 := Lib.hid r2
        have HEX3 := Lib.hid (HE2.out.comp EX3)
        have HS3 := Lib.hid EX3.size
        have HS3b := Lib.hid (show X3.heap.size = w2.heap.size + 2 by rw [← hX3, World.size_alloc, World.size_alloc])
        clear hX3 r1 r2
        have vm0 := value_mono k (a := n) (b := d) [] (by omega) (by omega) (by omega) (by simp)
        have vm1 := value_mono 2 (a := n) (b := d) [n / 2] (by omega) (by omega) (by omega) (by intro z hz; simp at hz; omega)
        have HV0 := Lib.hid vm0
        have HV1 := Lib.hid vm1
        clear vm0 vm1
        by_cases hk2 : k = 2
        · subst hk2
          have hE4 : Ext X3 (X3.alloc (.cells #[.int .i64 (n / 2)] 3)) := (Ext.refl X3).alloc _
          have o1 := own_extX HR1.out hE4
          have o2 := own_extX HR2.out hE4
          have hs4 : w2.heap.size ≤ X3.heap.size := HS3.out
          have HO2 := Lib.hid o2
          have HE4 := Lib.hid hE4
          clear o2 hE4
          go_wp2_with (at_builtin; first | (refine wpList_app2 rfl _ _ 22 rfl 3 i0 (.int .i64 0) 1 8 Try.underlying22 hi0 hz0 hz1 hz2 rfl (by decide) (.slice (some ⟨w2.heap.size, 0, none⟩) 1 1) 1 w2.heap.size (iv [n]) rfl o1 (by rw [World.size_alloc]; omega) (some ⟨X3.heap.size, 0, none⟩) 1 1 (iv [n / 2]) rfl rfl (from_one X3 _ _) (iv_one _) (by unfold maxLen; omega) (by omega) ?_; intro vA WA hoA hgA haA; have hg1 := own_grown HO2.out hgA (by right; simp [Value.ownBlock, Act.eval]); have HGA := Lib.hid hgA; have HOA := Lib.hid hoA; have hsA := hgA.size; have HAA := Lib.hid haA; clear hgA hoA haA) | (refine wpList_app2 rfl _ _ 22 rfl 3 i0 (.int .i64 0) 1 8 Try.underlying22 hi0 hz0 hz1 hz2 rfl (by decide) (.slice (some ⟨w2.heap.size + 1, 0, none⟩) 1 1) 1 w2.heap.size (iv [d]) rfl (own_extX hg1 ((Ext.refl _).alloc _)) (by rw [World.size_alloc]; rw [World.size_alloc] at hsA; omega) (some ⟨WA.heap.size, 0, none⟩) 1 1 (iv [n / 2]) rfl rfl (from_one WA _ _) (iv_one _) (by unfold maxLen; omega) (by omega) ?_; intro vB WB hoB hgB haB))
          have hE5 : Ext WA (WA.alloc (.cells #[.int .i64 (n / 2)] 3)) := (Ext.refl WA).alloc _
          have hna : vA.ownBlock = none ∨ vA.ownBlock ≠ some (w2.heap.size + 1) := by
            right
            have hs3 := HS3b.out
            rcases HAA.out with h | h
            · have h2 : vA.ownBlock = some w2.heap.size := h
              rw [h2]; intro e; injection e with e; omega
            · rw [h, World.size_alloc]; intro e; injection e with e; omega
          have rA := own_grown (own_extX HOA.out hE5) hgB hna
          obtain ⟨aA, cA, rfl⟩ := own_slice rA
          obtain ⟨aB, cB, rfl⟩ := own_slice hoB
          have iA : IntsAt WB aA [n, n / 2] := own_intsL rA
          have iB : IntsAt WB aB [d, n / 2] := own_intsL hoB
          have EWB : Ext w WB := by
            have eA : Ext w WA := own_kp (HEX3.out.comp HE4.out) HGA.out (fun k hk => by have h2 : some w2.heap.size = some k := hk; injection h2 with h2; have := HE2.out.size; omega)
            exact own_kp (eA.comp hE5) hgB (fun k hk => by have h2 : some (w2.heap.size + 1) = some k := hk; injection h2 with h2; have := HE2.out.size; omega)
          have c1 := hv4 n (n / 2) WB aA cA iA
          have c2 := fun W (E : Ext WB W) => hv4 d (n / 2) W aB cB (iB.ext E)
          have HEB := Lib.hid EWB
          have hv := HV1.out
          clear rA iA iB hoB hgB haB hE5 hna EWB hsA hg1 o1 hv3 hv4
          generalize valueE 2 [n, n / 2] = p1 at *
          generalize valueE 2 [d, n / 2] = p2 at *
          refine c1.mono ?_
          rintro e w5 ⟨rfl, E5⟩
          have HE5 := Lib.hid (HEB.out.comp E5)
          have c3 := c2 _ E5
          clear c1 c2 E5
          obtain ⟨v1, ev⟩ := p1
          obtain ⟨v2, ev2⟩ := p2
          obtain ⟨hv1, hv2⟩ := hv
          dsimp only at hv1 hv2 c3
          subst hv1
          have hee : (ev == ev) = true := by simp
          go_wp2_with fail
          refine c3.mono ?_
          rintro e w6 ⟨rfl, E6⟩
          have HE6 := Lib.hid (HE5.out.comp E6)
          clear c3 E6
          go_wp2_with fail
          refine (awake8_any _).mono ?_
          rintro e w7 ⟨rfl, E7⟩
          have HE7 := Lib.hid (HE6.out.comp E7)
          clear E7
          go_wp2_with fail
          go_ret
          exact ⟨rfl, HE7.out⟩
        · have hE4 := Lib.hid HEX3.out
          have hv := HV0.out
          have c1 := hv3 n X3 (some ⟨w2.heap.size, 0, none⟩) 1 (own_intsL HR1.out)
          have c2 := fun W (E : Ext X3 W) => hv3 d W (some ⟨w2.heap.size + 1, 0, none⟩) 1 ((own_intsL HR2.out).ext E)
          clear hv3 hv4
          generalize valueE k [n] = p1 at *
          generalize valueE k [d] = p2 at *
          go_wp2_with fail
          refine c1.mono ?_
          rintro e w5 ⟨rfl, E5⟩
          have HE5 := Lib.hid (hE4.out.comp E5)
          have c3 := c2 _ E5
          clear c1 c2 E5
          obtain ⟨v1, ev⟩ := p1
          obtain ⟨v2, ev2⟩ := p2
          obtain ⟨hv1, hv2⟩ := hv
          dsimp only at hv1 hv2 c3
          subst hv1
          have hee : (ev == ev) = true := by simp
          go_wp2_with fail
          refine c3.mono ?_
          rintro e w6 ⟨rfl, E6⟩
          have HE6 := Lib.hid (HE5.out.comp E6)
          clear c3 E6
          go_wp2_with fail
          refine (awake8_any _).mono ?_
          rintro e w7 ⟨rfl, E7⟩
          have HE7 := Lib.hid (HE6.out.comp E7)
          clear E7
          go_wp2_with fail
          go_ret
          exact ⟨rfl, HE7.out⟩
      · subst hnd
        go_upto_region 10 with fail
        obtain ⟨X3, hX3⟩ : ∃ X3, (w2.alloc (.cells #[.int .i64 n] 3)).alloc (.cells #[.int .i64 n] 3) = X3 := ⟨_, rfl⟩
        have EX3 : Ext w2 X3 := by rw [← hX3]; exact (by repeat (first | with_reducible exact Ext.refl _ | with_reducible refine Ext.alloc ?_ _ | with_reducible refine Below.drew ?_))
        have r1 : X3.ownsRow w2.heap.size 3 1 (.slice (some ⟨w2.heap.size, 0, none⟩) 1 1) 1 (iv [n]) := by rw [← hX3]; exact own_lit rfl (by decide) ((Ext.refl _).alloc _)
        have r2 : X3.ownsRow w2.heap.size 3 1 (.slice (some ⟨w2.heap.size + 1, 0, none⟩) 1 1) 1 (iv [n]) := by
          rw [← hX3]
          have := own_lit (w := w2.alloc (.cells #[.int .i64 n] 3)) (e := 3) (sz := 1) (n := 1) (vs := #[.int .i64 n]) rfl (by decide) (Ext.refl _)
          rw [World.size_alloc] at this
          exact own_le this (Nat.le_succ _)
        rw [hX3]
        have HR1 := Lib.hid r1
        have HR2 := Lib.hid r2
        have HEX3 := Lib.hid (HE2.out.comp EX3)
        have HS3 := Lib.hid EX3.size
        have HS3b := Lib.hid (show X3.heap.size = w2.heap.size + 2 by rw [← hX3, World.size_alloc, World.size_alloc])
        clear hX3 r1 r2
        have vm0 := value_mono k (a := n) (b := n) [] (by omega) (by omega) (by omega) (by simp)
        have vm1 := value_mono 2 (a := n) (b := n) [n / 2] (by omega) (by omega) (by omega) (by intro z hz; simp at hz; omega)
        have HV0 := Lib.hid vm0
        have HV1 := Lib.hid vm1
        clear vm0 vm1
        by_cases hk2 : k = 2
        · subst hk2
          have hE4 : Ext X3 (X3.alloc (.cells #[.int .i64 (n / 2)] 3)) := (Ext.refl X3).alloc _
          have o1 := own_extX HR1.out hE4
          have o2 := own_extX HR2.out hE4
          have hs4 : w2.heap.size ≤ X3.heap.size := HS3.out
          have HO2 := Lib.hid o2
          have HE4 := Lib.hid hE4
          clear o2 hE4
          go_wp2_with (at_builtin; first | (refine wpList_app2 rfl _ _ 22 rfl 3 i0 (.int .i64 0) 1 8 Try.underlying22 hi0 hz0 hz1 hz2 rfl (by decide) (.slice (some ⟨w2.heap.size, 0, none⟩) 1 1) 1 w2.heap.size (iv [n]) rfl o1 (by rw [World.size_alloc]; omega) (some ⟨X3.heap.size, 0, none⟩) 1 1 (iv [n / 2]) rfl rfl (from_one X3 _ _) (iv_one _) (by unfold maxLen; omega) (by omega) ?_; intro vA WA hoA hgA haA; have hg1 := own_grown HO2.out hgA (by right; simp [Value.ownBlock, Act.eval]); have HGA := Lib.hid hgA; have HOA := Lib.hid hoA; have hsA := hgA.size; have HAA := Lib.hid haA; clear hgA hoA haA) | (refine wpList_app2 rfl _ _ 22 rfl 3 i0 (.int .i64 0) 1 8 Try.underlying22 hi0 hz0 hz1 hz2 rfl (by decide) (.slice (some ⟨w2.heap.size + 1, 0, none⟩) 1 1) 1 w2.heap.size (iv [n]) rfl (own_extX hg1 ((Ext.refl _).alloc _)) (by rw [World.size_alloc]; rw [World.size_alloc] at hsA; omega) (some ⟨WA.heap.size, 0, none⟩) 1 1 (iv [n / 2]) rfl rfl (from_one WA _ _) (iv_one _) (by unfold maxLen; omega) (by omega) ?_; intro vB WB hoB hgB haB))
          have hE5 : Ext WA (WA.alloc (.cells #[.int .i64 (n / 2)] 3)) := (Ext.refl WA).alloc _
          have hna : vA.ownBlock = none ∨ vA.ownBlock ≠ some (w2.heap.size + 1) := by
            right
            have hs3 := HS3b.out
            rcases HAA.out with h | h
            · have h2 : vA.ownBlock = some w2.heap.size := h
              rw [h2]; intro e; injection e with e; omega
            · rw [h, World.size_alloc]; intro e; injection e with e; omega
          have rA := own_grown (own_extX HOA.out hE5) hgB hna
          obtain ⟨aA, cA, rfl⟩ := own_slice rA
          obtain ⟨aB, cB, rfl⟩ := own_slice hoB
          have iA : IntsAt WB aA [n, n / 2] := own_intsL rA
          have iB : IntsAt WB aB [n, n / 2] := own_intsL hoB
          have EWB : Ext w WB := by
            have eA : Ext w WA := own_kp (HEX3.out.comp HE4.out) HGA.out (fun k hk => by have h2 : some w2.heap.size = some k := hk; injection h2 with h2; have := HE2.out.size; omega)
            exact own_kp (eA.comp hE5) hgB (fun k hk => by have h2 : some (w2.heap.size + 1) = some k := hk; injection h2 with h2; have := HE2.out.size; omega)
          have c1 := hv4 n (n / 2) WB aA cA iA
          have c2 := fun W (E : Ext WB W) => hv4 n (n / 2) W aB cB (iB.ext E)
          have HEB := Lib.hid EWB
          have hv := HV1.out
          clear rA iA iB hoB hgB haB hE5 hna EWB hsA hg1 o1 hv3 hv4
          generalize valueE 2 [n, n / 2] = p1 at *
          refine c1.mono ?_
          rintro e w5 ⟨rfl, E5⟩
          have HE5 := Lib.hid (HEB.out.comp E5)
          have c3 := c2 _ E5
          clear c1 c2 E5
          obtain ⟨v1, ev⟩ := p1
          have hee : (ev == ev) = true := by simp
          go_wp2_with fail
          refine c3.mono ?_
          rintro e w6 ⟨rfl, E6⟩
          have HE6 := Lib.hid (HE5.out.comp E6)
          clear c3 E6
          go_wp2_with fail
          refine (awake8_any _).mono ?_
          rintro e w7 ⟨rfl, E7⟩
          have HE7 := Lib.hid (HE6.out.comp E7)
          clear E7
          go_wp2_with fail
          go_ret
          exact ⟨rfl, HE7.out⟩
        · have hE4 := Lib.hid HEX3.out
          have hv := HV0.out
          have c1 := hv3 n X3 (some ⟨w2.heap.size, 0, none⟩) 1 (own_intsL HR1.out)
          have c2 := fun W (E : Ext X3 W) => hv3 n W (some ⟨w2.heap.size + 1, 0, none⟩) 1 ((own_intsL HR2.out).ext E)
          clear hv3 hv4
          generalize valueE k [n] = p1 at *
          go_wp2_with fail
          refine c1.mono ?_
          rintro e w5 ⟨rfl, E5⟩
          have HE5 := Lib.hid (hE4.out.comp E5)
          have c3 := c2 _ E5
          clear c1 c2 E5
          obtain ⟨v1, ev⟩ := p1
          have hee : (ev == ev) = true := by simp
          go_wp2_with fail
          refine c3.mono ?_
          rintro e w6 ⟨rfl, E6⟩
          have HE6 := Lib.hid (HE5.out.comp E6)
          clear c3 E6
          go_wp2_with fail
          refine (awake8_any _).mono ?_
          rintro e w7 ⟨rfl, E7⟩
          have HE7 := Lib.hid (HE6.out.comp E7)
          clear E7
          go_wp2_with fail
          go_ret
          exact ⟨rfl, HE7.out⟩
      · have hnd2 : ¬ n < d := by omega
        go_upto_region 10 with fail
        obtain ⟨X3, hX3⟩ : ∃ X3, (w2.alloc (.cells #[.int .i64 d] 3)).alloc (.cells #[.int .i64 n] 3) = X3 := ⟨_, rfl⟩
        have EX3 : Ext w2 X3 := by rw [← hX3]; exact (by repeat (first | with_reducible exact Ext.refl _ | with_reducible refine Ext.alloc ?_ _ | with_reducible refine Below.drew ?_))
        have r1 : X3.ownsRow w2.heap.size 3 1 (.slice (some ⟨w2.heap.size, 0, none⟩) 1 1) 1 (iv [d]) := by rw [← hX3]; exact own_lit rfl (by decide) ((Ext.refl _).alloc _)
        have r2 : X3.ownsRow w2.heap.size 3 1 (.slice (some ⟨w2.heap.size + 1, 0, none⟩) 1 1) 1 (iv [n]) := by
          rw [← hX3]
          have := own_lit (w := w2.alloc (.cells #[.int .i64 d] 3)) (e := 3) (sz := 1) (n := 1) (vs := #[.int .i64 n]) rfl (by decide) (Ext.refl _)
          rw [World.size_alloc] at this
          exact own_le this (Nat.le_succ _)
        rw [hX3]
        have HR1 := Lib.hid r1
        have HR2 := Lib.hid r2
        have HEX3 := Lib.hid (HE2.out.comp EX3)
        have HS3 := Lib.hid EX3.size
        have HS3b := Lib.hid (show X3.heap.size = w2.heap.size + 2 by rw [← hX3, World.size_alloc, World.size_alloc])
        clear hX3 r1 r2
        have vm0 := value_mono k (a := d) (b := n) [] (by omega) (by omega) (by omega) (by simp)
        have vm1 := value_mono 2 (a := d) (b := n) [n / 2] (by omega) (by omega) (by omega) (by intro z hz; simp at hz; omega)
        have HV0 := Lib.hid vm0
        have HV1 := Lib.hid vm1
        clear vm0 vm1
        by_cases hk2 : k = 2
        · subst hk2
          have hE4 : Ext X3 (X3.alloc (.cells #[.int .i64 (n / 2)] 3)) := (Ext.refl X3).alloc _
          have o1 := own_extX HR1.out hE4
          have o2 := own_extX HR2.out hE4
          have hs4 : w2.heap.size ≤ X3.heap.size := HS3.out
          have HO2 := Lib.hid o2
          have HE4 := Lib.hid hE4
          clear o2 hE4
          go_wp2_with (at_builtin; first | (refine wpList_app2 rfl _ _ 22 rfl 3 i0 (.int .i64 0) 1 8 Try.underlying22 hi0 hz0 hz1 hz2 rfl (by decide) (.slice (some ⟨w2.heap.size, 0, none⟩) 1 1) 1 w2.heap.size (iv [d]) rfl o1 (by rw [World.size_alloc]; omega) (some ⟨X3.heap.size, 0, none⟩) 1 1 (iv [n / 2]) rfl rfl (from_one X3 _ _) (iv_one _) (by unfold maxLen; omega) (by omega) ?_; intro vA WA hoA hgA haA; have hg1 := own_grown HO2.out hgA (by right; simp [Value.ownBlock, Act.eval]); have HGA := Lib.hid hgA; have HOA := Lib.hid hoA; have hsA := hgA.size; have HAA := Lib.hid haA; clear hgA hoA haA) | (refine wpList_app2 rfl _ _ 22 rfl 3 i0 (.int .i64 0) 1 8 Try.underlying22 hi0 hz0 hz1 hz2 rfl (by decide) (.slice (some ⟨w2.heap.size + 1, 0, none⟩) 1 1) 1 w2.heap.size (iv [n]) rfl (own_extX hg1 ((Ext.refl _).alloc _)) (by rw [World.size_alloc]; rw [World.size_alloc] at hsA; omega) (some ⟨WA.heap.size, 0, none⟩) 1 1 (iv [n / 2]) rfl rfl (from_one WA _ _) (iv_one _) (by unfold maxLen; omega) (by omega) ?_; intro vB WB hoB hgB haB))
          have hE5 : Ext WA (WA.alloc (.cells #[.int .i64 (n / 2)] 3)) := (Ext.refl WA).alloc _
          have hna : vA.ownBlock = none ∨ vA.ownBlock ≠ some (w2.heap.size + 1) := by
            right
            have hs3 := HS3b.out
            rcases HAA.out with h | h
            · have h2 : vA.ownBlock = some w2.heap.size := h
              rw [h2]; intro e; injection e with e; omega
            · rw [h, World.size_alloc]; intro e; injection e with e; omega
          have rA := own_grown (own_extX HOA.out hE5) hgB hna
          obtain ⟨aA, cA, rfl⟩ := own_slice rA
          obtain ⟨aB, cB, rfl⟩ := own_slice hoB
          have iA : IntsAt WB aA [d, n / 2] := own_intsL rA
          have iB : IntsAt WB aB [n, n / 2] := own_intsL hoB
          have EWB : Ext w WB := by
            have eA : Ext w WA := own_kp (HEX3.out.comp HE4.out) HGA.out (fun k hk => by have h2 : some w2.heap.size = some k := hk; injection h2 with h2; have := HE2.out.size; omega)
            exact own_kp (eA.comp hE5) hgB (fun k hk => by have h2 : some (w2.heap.size + 1) = some k := hk; injection h2 with h2; have := HE2.out.size; omega)
          have c1 := hv4 d (n / 2) WB aA cA iA
          have c2 := fun W (E : Ext WB W) => hv4 n (n / 2) W aB cB (iB.ext E)
          have HEB := Lib.hid EWB
          have hv := HV1.out
          clear rA iA iB hoB hgB haB hE5 hna EWB hsA hg1 o1 hv3 hv4
          generalize valueE 2 [d, n / 2] = p1 at *
          generalize valueE 2 [n, n / 2] = p2 at *
          refine c1.mono ?_
          rintro e w5 ⟨rfl, E5⟩
          have HE5 := Lib.hid (HEB.out.comp E5)
          have c3 := c2 _ E5
          clear c1 c2 E5
          obtain ⟨v1, ev⟩ := p1
          obtain ⟨v2, ev2⟩ := p2
          obtain ⟨hv1, hv2⟩ := hv
          dsimp only at hv1 hv2 c3
          subst hv1
          have hee : (ev == ev) = true := by simp
          go_wp2_with fail
          refine c3.mono ?_
          rintro e w6 ⟨rfl, E6⟩
          have HE6 := Lib.hid (HE5.out.comp E6)
          clear c3 E6
          go_wp2_with fail
          refine (awake8_any _).mono ?_
          rintro e w7 ⟨rfl, E7⟩
          have HE7 := Lib.hid (HE6.out.comp E7)
          clear E7
          go_wp2_with fail
          go_ret
          exact ⟨rfl, HE7.out⟩
        · have hE4 := Lib.hid HEX3.out
          have hv := HV0.out
          have c1 := hv3 d X3 (some ⟨w2.heap.size, 0, none⟩) 1 (own_intsL HR1.out)
          have c2 := fun W (E : Ext X3 W) => hv3 n W (some ⟨w2.heap.size + 1, 0, none⟩) 1 ((own_intsL HR2.out).ext E)
          clear hv3 hv4
          generalize valueE k [d] = p1 at *
          generalize valueE k [n] = p2 at *
          go_wp2_with fail
          refine c1.mono ?_
          rintro e w5 ⟨rfl, E5⟩
          have HE5 := Lib.hid (hE4.out.comp E5)
          have c3 := c2 _ E5
          clear c1 c2 E5
          obtain ⟨v1, ev⟩ := p1
          obtain ⟨v2, ev2⟩ := p2
          obtain ⟨hv1, hv2⟩ := hv
          dsimp only at hv1 hv2 c3
          subst hv1
          have hee : (ev == ev) = true := by simp
          go_wp2_with fail
          refine c3.mono ?_
          rintro e w6 ⟨rfl, E6⟩
          have HE6 := Lib.hid (HE5.out.comp E6)
          clear c3 E6
          go_wp2_with fail
          refine (awake8_any _).mono ?_
          rintro e w7 ⟨rfl, E7⟩
          have HE7 := Lib.hid (HE6.out.comp E7)
          clear E7
          go_wp2_with fail
          go_ret
          exact ⟨rfl, HE7.out⟩
end Go.Proofs.Ytcijneecjkpebaa

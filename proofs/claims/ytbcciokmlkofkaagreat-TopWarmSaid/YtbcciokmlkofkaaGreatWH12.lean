import Derived.Test.YtbcciokmlkofkaaGreatWH5
import Derived.Test.YtbcciokmlkofkaaGreatWSpec4d
set_option linter.unusedVariables false
set_option linter.unusedSimpArgs false
/- Contracts of layer 1: the error of a span, and of an oven. -/
namespace Go.Proofs.YtbcciokmlkofkaaGreat
open Go.RowKit Go.Q Go.Shelf
set_option maxHeartbeats 1000000 in
theorem odd_any1 (lo hi : Int) (w : World) :
    Calls Tryz.prog 51 #[.agg #[.int .i64 lo, .int .i64 hi]] w fun e w' => e = .returned (.int .i64 (spanX ⟨lo, hi⟩)) ∧ Ext w w' := by
  have hs1 := fun W => strange_anyL lo W
  have hs2 := fun W => strange_anyL hi W
  unfold spanX
  dsimp only
  cases h1 : tempB lo with
  | false =>
    rw [if_pos (.inl rfl)]
    rw [h1] at hs1
    clear h1
    go_enter Tryz.func51, Tryz.ntmps51
    go_wp2_with fail
    refine (hs1 _).mono ?_
    rintro e w1 ⟨rfl, rfl⟩
    go_wp2
    go_ret
    exact ⟨rfl, (Ext.refl w).alloc _⟩
  | true =>
    rw [h1] at hs1
    clear h1
    cases h2 : tempB hi with
    | false =>
      rw [if_pos (.inr rfl)]
      rw [h2] at hs2
      clear h2
      go_enter Tryz.func51, Tryz.ntmps51
      go_wp2_with fail
      refine (hs1 _).mono ?_
      rintro e w1 ⟨rfl, rfl⟩
      go_wp2_with fail
      refine (hs2 _).mono ?_
      rintro e w1 ⟨rfl, rfl⟩
      go_wp2
      go_ret
      exact ⟨rfl, (Ext.refl w).alloc _⟩
    | true =>
      rw [if_neg (by simp)]
      rw [h2] at hs2
      clear h2
      by_cases h3 : hi < lo
      · rw [if_pos h3]
        go_enter Tryz.func51, Tryz.ntmps51
        go_wp2_with fail
        refine (hs1 _).mono ?_
        rintro e w1 ⟨rfl, rfl⟩
        go_wp2_with fail
        refine (hs2 _).mono ?_
        rintro e w1 ⟨rfl, rfl⟩
        go_wp2
        go_ret
        exact ⟨rfl, (Ext.refl w).alloc _⟩
      · rw [if_neg h3]
        go_enter Tryz.func51, Tryz.ntmps51
        go_wp2_with fail
        refine (hs1 _).mono ?_
        rintro e w1 ⟨rfl, rfl⟩
        go_wp2_with fail
        refine (hs2 _).mono ?_
        rintro e w1 ⟨rfl, rfl⟩
        go_wp2
        go_ret
        exact ⟨rfl, (Ext.refl w).alloc _⟩
theorem suspect1_any (n : Int) (w : World) :
    Calls Tryz.prog 50 #[.int .i64 n] w fun e w' => e = .returned (.bool (!warmB n)) ∧ w = w' := by
  go_enter Tryz.func50, Tryz.ntmps50
  go_wp2_with (go_at_call 49; refine (lout_any _ _ _ _).mono ?_; rintro e w' ⟨rfl, rfl⟩)
  go_ret
  exact ⟨rfl, rfl⟩
theorem ovenX_a {o : Ov} {t : Sp} {m : Int} (h : tempB o.low = false ∨ tempB o.high = false ∨ ([o.warm.lo, o.warm.hi, o.cool.lo, o.cool.hi].any fun n => !warmB n) = true) : ovenX o t m = 7 := by
  unfold ovenX
  rw [if_pos]
  rcases h with h | h | h
  · exact .inl h
  · exact .inr (.inl h)
  · simp only [List.any_cons, List.any_nil, Bool.or_false, Bool.or_eq_true, Bool.not_eq_true'] at h
    rcases h with h | h | h | h <;> simp [h]
theorem ovenX_b {o : Ov} {t : Sp} {m : Int} (h1 : tempB o.low = true) (h2 : tempB o.high = true) (h3 : ([o.warm.lo, o.warm.hi, o.cool.lo, o.cool.hi].any fun n => !warmB n) = false) :
    ovenX o t m = if o.high < o.low ∨ o.warm.hi < o.warm.lo ∨ o.cool.hi < o.cool.lo then 2 else if spanX t ≠ 0 then spanX t else if inB m 0 200 = false then 7 else 0 := by
  unfold ovenX
  rw [if_neg]
  simp only [List.any_cons, List.any_nil, Bool.or_false, Bool.or_eq_false_iff, Bool.not_eq_false'] at h3
  obtain ⟨a, b, c, d⟩ := h3
  simp [h1, h2, a, b, c, d]
set_option maxRecDepth 100000 in
set_option maxHeartbeats 4000000 in
theorem suspect_any (o : Ov) (t : Sp) (m : Int) (w : World) :
    Calls Tryz.prog 16 #[.agg #[.int .i64 o.low, .int .i64 o.high, .int .i64 o.warm.lo, .int .i64 o.warm.hi, .int .i64 o.cool.lo, .int .i64 o.cool.hi], .agg #[.int .i64 t.lo, .int .i64 t.hi], .int .i64 m] w fun e w' => e = .returned (.int .i64 (ovenX o t m)) ∧ Ext w w' := by
  have hs1 := fun W => strange_anyL o.low W
  have hs2 := fun W => strange_anyL o.high W
  have ho := fun W => odd_any1 t.lo t.hi W
  have hm := fun W => lout_any m 0 200 W
  have hcn := contains_any 50 #[] (fun n => !warmB n) (some ⟨w.heap.size + 2, 0, none⟩) 4 4 [o.warm.lo, o.warm.hi, o.cool.lo, o.cool.hi] (((w.alloc (.cells #[.int .i64 o.low, .int .i64 o.high, .int .i64 o.warm.lo, .int .i64 o.warm.hi, .int .i64 o.cool.lo, .int .i64 o.cool.hi] 30)).alloc (.cells #[.int .i64 t.lo, .int .i64 t.hi] 28)).alloc (.cells #[.int .i64 o.warm.lo, .int .i64 o.warm.hi, .int .i64 o.cool.lo, .int .i64 o.cool.hi] 3))
    (fun args w => enters_of Tryz.func50 (by kernel_rfl) rfl args w) (fun W' x E' => (suspect1_any x W').mono fun _ _ he => ⟨he.1, by rw [← he.2]; exact E'⟩) rfl (by decide)
    (.inr ⟨_, 0, rfl, by simp, fun i hi => by
      have e := heap_alloc_new ((w.alloc (.cells #[.int .i64 o.low, .int .i64 o.high, .int .i64 o.warm.lo, .int .i64 o.warm.hi, .int .i64 o.cool.lo, .int .i64 o.cool.hi] 30)).alloc (.cells #[.int .i64 t.lo, .int .i64 t.hi] 28)) (.cells #[.int .i64 o.warm.lo, .int .i64 o.warm.hi, .int .i64 o.cool.lo, .int .i64 o.cool.hi] 3)
      rw [World.size_alloc, World.size_alloc] at e
      rw [Nat.zero_add]
      have hi4 : i < 4 := hi
      simp only [World.cell?, e]
      match i, hi4 with
      | 0, _ => rfl
      | 1, _ => rfl
      | 2, _ => rfl
      | 3, _ => rfl⟩)
  cases h1 : tempB o.low with
  | false =>
    rw [ovenX_a (.inl h1)]
    rw [h1] at hs1
    clear h1 hs2 ho hm hcn
    go_enter Tryz.func16, Tryz.ntmps16
    go_wp2_with fail
    refine (hs1 _).mono ?_
    rintro e w1 ⟨rfl, rfl⟩
    go_wp2
    go_ret
    exact ⟨rfl, (by repeat (first | with_reducible exact Ext.refl _ | with_reducible refine Ext.alloc ?_ _ | with_reducible refine Below.drew ?_))⟩
  | true =>
    rw [h1] at hs1
    cases h2 : tempB o.high with
    | false =>
      rw [ovenX_a (.inr (.inl h2))]
      rw [h2] at hs2
      clear h1 h2 ho hm hcn
      go_enter Tryz.func16, Tryz.ntmps16
      go_wp2_with fail
      refine (hs1 _).mono ?_
      rintro e w1 ⟨rfl, rfl⟩
      go_wp2_with fail
      refine (hs2 _).mono ?_
      rintro e w1 ⟨rfl, rfl⟩
      go_wp2
      go_ret
      exact ⟨rfl, (by repeat (first | with_reducible exact Ext.refl _ | with_reducible refine Ext.alloc ?_ _ | with_reducible refine Below.drew ?_))⟩
    | true =>
      rw [h2] at hs2
      cases h3 : ([o.warm.lo, o.warm.hi, o.cool.lo, o.cool.hi].any fun n => !warmB n) with
      | true =>
        rw [ovenX_a (.inr (.inr h3))]
        rw [h3] at hcn
        clear h1 h2 h3 ho hm
        go_enter Tryz.func16, Tryz.ntmps16
        go_wp2_with fail
        refine (hs1 _).mono ?_
        rintro e w1 ⟨rfl, rfl⟩
        go_wp2_with fail
        refine (hs2 _).mono ?_
        rintro e w1 ⟨rfl, rfl⟩
        go_wp2_with fail
        refine (hcn).mono ?_
        rintro e w2 ⟨rfl, E2⟩
        go_wp2
        go_ret
        exact ⟨rfl, E2.old.old.old⟩
      | false =>
        rw [ovenX_b h1 h2 h3]
        rw [h3] at hcn
        clear h1 h2 h3
        obtain ⟨R, hR⟩ : ∃ R, (if o.high < o.low ∨ o.warm.hi < o.warm.lo ∨ o.cool.hi < o.cool.lo then 2 else if spanX t ≠ 0 then spanX t else if inB m 0 200 = false then 7 else 0) = R := ⟨_, rfl⟩
        rw [hR]
        have HR := Lib.hid hR
        clear hR
        go_enter Tryz.func16, Tryz.ntmps16
        go_wp2_with fail
        refine (hs1 _).mono ?_
        rintro e w1 ⟨rfl, rfl⟩
        go_wp2_with fail
        refine (hs2 _).mono ?_
        rintro e w1 ⟨rfl, rfl⟩
        go_wp2_with fail
        refine (hcn).mono ?_
        rintro e w2 ⟨rfl, E2⟩
        have E2a := E2.old.old
        have o0 := box_at (v := .int .i64 o.low) E2a 0 rfl
        have o1 := box_at (v := .int .i64 o.high) E2a 1 rfl
        have o2 := box_at (v := .int .i64 o.warm.lo) E2a 2 rfl
        have o3 := box_at (v := .int .i64 o.warm.hi) E2a 3 rfl
        have o4 := box_at (v := .int .i64 o.cool.lo) E2a 4 rfl
        have o5 := box_at (v := .int .i64 o.cool.hi) E2a 5 rfl
        have t0 := box_at2 (v := .int .i64 t.lo) E2.old 0 rfl
        have t1 := box_at2 (v := .int .i64 t.hi) E2.old 1 rfl
        clear hs1 hs2 hcn
        by_cases ha : o.high < o.low
        · go_wp2
          go_ret
          exact ⟨ret_int (by rw [← HR.out, if_pos (.inl ha)]), E2a.old⟩
        by_cases hb : o.warm.hi < o.warm.lo
        · go_wp2
          go_ret
          exact ⟨ret_int (by rw [← HR.out, if_pos (.inr (.inl hb))]), E2a.old⟩
        by_cases hc : o.cool.hi < o.cool.lo
        · go_wp2
          go_ret
          exact ⟨ret_int (by rw [← HR.out, if_pos (.inr (.inr hc))]), E2a.old⟩
        have hn : ¬ (o.high < o.low ∨ o.warm.hi < o.warm.lo ∨ o.cool.hi < o.cool.lo) := by omega
        have HN := Lib.hid hn
        clear hn
        rw [show (⟨t.lo, t.hi⟩ : Sp) = t from rfl] at ho
        obtain ⟨x, hx⟩ : ∃ x, spanX t = x := ⟨_, rfl⟩
        rw [hx] at ho
        have HX := Lib.hid hx
        clear hx
        go_wp2_with fail
        refine (ho _).mono ?_
        rintro e w3 ⟨rfl, E3⟩
        by_cases hx0 : x = 0
        · subst hx0
          cases hmm : inB m 0 200 with
          | false =>
            rw [hmm] at hm
            have HMM := Lib.hid hmm
            clear hmm
            go_wp2_with fail
            refine (hm _).mono ?_
            rintro e w4 ⟨rfl, rfl⟩
            go_wp2
            go_ret
            exact ⟨ret_int (by rw [← HR.out, if_neg HN.out, HX.out, if_neg (by simp), if_pos HMM.out]), E2a.old.comp E3⟩
          | true =>
            rw [hmm] at hm
            have HMM := Lib.hid hmm
            clear hmm
            go_wp2_with fail
            refine (hm _).mono ?_
            rintro e w4 ⟨rfl, rfl⟩
            go_wp2
            go_ret
            exact ⟨ret_int (by rw [← HR.out, if_neg HN.out, HX.out, if_neg (by simp), if_neg (by rw [HMM.out]; simp)]), E2a.old.comp E3⟩
        · have hxb : (x != 0) = true := by simpa using hx0
          have H0 := Lib.hid hx0
          clear hx0
          go_wp2
          go_ret
          exact ⟨ret_int (by rw [← HR.out, if_neg HN.out, HX.out, if_pos H0.out]), E2a.old.comp E3⟩
end Go.Proofs.YtbcciokmlkofkaaGreat

/- Contract: the reference's Begin. -/
import Derived.Test.YtjfggepgjpdebaaG1
import Derived.Test.YtjfggepgjpdebaaOwn

import Derived.Outline
set_option linter.unusedVariables false
set_option linter.unusedSimpArgs false
namespace Go.Proofs.Ytjfggepgjpdebaa
open Go.RowKit Go.Q

theorem odd_out (xs : List Int) : decide (0 ≤ idxQ badW xs) = outB 16777215 xs := by
  rw [idxQ_nonneg]
  unfold outB
  congr 1
  funext n
  unfold badW wordB inB
  by_cases h0 : 0 ≤ n <;> by_cases h1 : n ≤ 16777215 <;> simp [h0, h1] <;> omega
set_option maxRecDepth 100000 in
set_option maxHeartbeats 4000000 in
theorem rbegin_bad (a1 a2 : Option Addr) (n1 n2 c1 c2 : Nat) (st tp : List Int) (start : Int) (w : World) (l1 : st.length = n1) (l2 : tp.length = n2) (b1 : n1 ≤ 9223372036854775807) (b2 : n2 ≤ 9223372036854775807)
    (i1 : IntsAt w a1 st) (i2 : IntsAt w a2 tp) (he : (beginQ st tp start).2 ≠ 0) :
    Calls Try.prog 18 #[.slice a1 n1 c1, .slice a2 n2 c2, .int .i64 start] w (StRes (beginQ st tp start) w) := by
  have hfin : ∀ (er : Int) (W : World), Ext w W → StRes (zst, er) w (.returned (.tuple #[.agg #[.slice none 0 0, .slice none 0 0, .int .i64 0, .slice none 0 0, .int .i64 0, .int .i64 0, .int .i64 0, .int .i64 0], .int .i64 er])) W :=
    fun er W hE => ⟨_, rfl, ⟨none, none, none, 0, 0, 0, rfl, .inl rfl, .inl rfl, .inl rfl⟩, hE⟩
  have ho1 := fun W (E : Ext w W) => odd_any a1 n1 c1 st W l1 b1 (i1.ext E)
  have ho2 := fun W (E : Ext w W) => odd_any a2 n2 c2 tp W l2 b2 (i2.ext E)
  have q1 := odd_out st
  have q2 := odd_out tp
  have r1 := idxQ_lt badW st
  have r2 := idxQ_lt badW tp
  clear i1 i2
  have hq : beginQ st tp start = if n1 ≤ 128 ∧ n2 ≤ 200 then (if outB 16777215 st = false ∧ outB 16777215 tp = false ∧ addrB start = true then beginQ st tp start else (zst, 7)) else (zst, 3) := by
    subst l1; subst l2
    by_cases h1 : st.length ≤ 128 ∧ tp.length ≤ 200
    · by_cases h2 : outB 16777215 st = false ∧ outB 16777215 tp = false ∧ addrB start = true
      · rw [if_pos h1, if_pos h2]
      · rw [if_pos h1, if_neg h2]; unfold beginQ; rw [if_pos h1, if_neg h2]
    · rw [if_neg h1]; unfold beginQ; rw [if_neg h1]
  generalize idxQ badW st = x1 at *
  generalize idxQ badW tp = x2 at *
  by_cases h1 : n1 ≤ 128
  · by_cases h2 : n2 ≤ 200
    · cases e1 : outB 16777215 st with
      | true =>
        rw [if_pos ⟨h1, h2⟩, if_neg (fun c => by rw [e1] at c; exact absurd c.1 (by decide))] at hq
        rw [hq]
        have y1 : 0 ≤ x1 := of_decide_eq_true (q1.trans e1)
        clear hq he l1 l2 q1 q2 e1
        go_enter Try.func18, Try.ntmps18
        go_wp2_with fail
        refine (ho1 _ (by repeat (first | with_reducible exact Ext.refl _ | with_reducible refine Ext.alloc ?_ _ | with_reducible refine Below.drew ?_))).mono ?_
        rintro e w1 ⟨rfl, rfl⟩
        go_wp2_with fail
        refine bodyPost_ret (v := .tuple #[.agg #[.slice none 0 0, .slice none 0 0, .int .i64 0, .slice none 0 0, .int .i64 0, .int .i64 0, .int .i64 0, .int .i64 0], .int .i64 7]) (by simp [results, Try.results18, go_sem]) rfl ?_
        exact hfin 7 _ (Ext.alloc (Ext.refl w) _)
      | false =>
        have y1 : ¬ 0 ≤ x1 := of_decide_eq_false (q1.trans e1)
        cases e2 : outB 16777215 tp with
        | true =>
          rw [if_pos ⟨h1, h2⟩, if_neg (fun c => by rw [e2] at c; exact absurd c.2.1 (by decide))] at hq
          rw [hq]
          have y2 : 0 ≤ x2 := of_decide_eq_true (q2.trans e2)
          clear hq he l1 l2 q1 q2 e1 e2
          go_enter Try.func18, Try.ntmps18
          go_wp2_with fail
          refine (ho1 _ (by repeat (first | with_reducible exact Ext.refl _ | with_reducible refine Ext.alloc ?_ _ | with_reducible refine Below.drew ?_))).mono ?_
          rintro e w1 ⟨rfl, rfl⟩
          go_wp2_with fail
          refine (ho2 _ (by repeat (first | with_reducible exact Ext.refl _ | with_reducible refine Ext.alloc ?_ _ | with_reducible refine Below.drew ?_))).mono ?_
          rintro e w2 ⟨rfl, rfl⟩
          go_wp2_with fail
          refine bodyPost_ret (v := .tuple #[.agg #[.slice none 0 0, .slice none 0 0, .int .i64 0, .slice none 0 0, .int .i64 0, .int .i64 0, .int .i64 0, .int .i64 0], .int .i64 7]) (by simp [results, Try.results18, go_sem]) rfl ?_
          exact hfin 7 _ (Ext.alloc (Ext.refl w) _)
        | false =>
          have y2 : ¬ 0 ≤ x2 := of_decide_eq_false (q2.trans e2)
          cases e3 : addrB start with
          | true => exact absurd (by unfold beginQ; rw [l1, l2, if_pos ⟨h1, h2⟩, if_pos ⟨e1, e2, e3⟩]) he
          | false =>
            rw [if_pos ⟨h1, h2⟩, if_neg (fun c => by rw [e3] at c; exact absurd c.2.2 (by decide))] at hq
            rw [hq]
            clear hq he l1 l2 q1 q2 e1 e2
            go_enter Try.func18, Try.ntmps18
            go_wp2_with fail
            refine (ho1 _ (by repeat (first | with_reducible exact Ext.refl _ | with_reducible refine Ext.alloc ?_ _ | with_reducible refine Below.drew ?_))).mono ?_
            rintro e w1 ⟨rfl, rfl⟩
            go_wp2_with fail
            refine (ho2 _ (by repeat (first | with_reducible exact Ext.refl _ | with_reducible refine Ext.alloc ?_ _ | with_reducible refine Below.drew ?_))).mono ?_
            rintro e w2 ⟨rfl, rfl⟩
            go_wp2_with (go_at_call 54; refine (address_any _ _).mono ?_; rintro e w3 ⟨rfl, rfl⟩)
            refine bodyPost_ret (v := .tuple #[.agg #[.slice none 0 0, .slice none 0 0, .int .i64 0, .slice none 0 0, .int .i64 0, .int .i64 0, .int .i64 0, .int .i64 0], .int .i64 7]) (by simp [results, Try.results18, go_sem]) rfl ?_
            exact hfin 7 _ (Ext.alloc (Ext.refl w) _)
    · rw [if_neg (fun c => h2 c.2)] at hq
      rw [hq]
      clear hq he l1 l2 ho1 ho2 q1 q2 r1 r2
      go_enter Try.func18, Try.ntmps18
      go_wp2_with fail
      refine bodyPost_ret (v := .tuple #[.agg #[.slice none 0 0, .slice none 0 0, .int .i64 0, .slice none 0 0, .int .i64 0, .int .i64 0, .int .i64 0, .int .i64 0], .int .i64 3]) (by simp [results, Try.results18, go_sem]) rfl ?_
      exact hfin 3 _ (Ext.alloc (Ext.refl w) _)
  · rw [if_neg (fun c => h1 c.1)] at hq
    rw [hq]
    clear hq he l1 l2 ho1 ho2 q1 q2 r1 r2
    go_enter Try.func18, Try.ntmps18
    go_wp2_with fail
    refine bodyPost_ret (v := .tuple #[.agg #[.slice none 0 0, .slice none 0 0, .int .i64 0, .slice none 0 0, .int .i64 0, .int .i64 0, .int .i64 0, .int .i64 0], .int .i64 3]) (by simp [results, Try.results18, go_sem]) rfl ?_
    exact hfin 3 _ (Ext.alloc (Ext.refl w) _)
end Go.Proofs.Ytjfggepgjpdebaa

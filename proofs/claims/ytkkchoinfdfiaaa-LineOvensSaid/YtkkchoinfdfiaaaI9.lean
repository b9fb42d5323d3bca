/- Contract of layer 1's reference: the error of an oven. -/
import Derived.Test.YtkkchoinfdfiaaaN9
import Derived.Test.YtkkchoinfdfiaaaI8a
set_option linter.unusedVariables false
set_option linter.unusedSimpArgs false
namespace Go.Proofs.Ytkkchoinfdfiaaa
open Go.RowKit Go.Q Go.Shelf Go.Maps

set_option maxRecDepth 100000 in
set_option maxHeartbeats 4000000 in
theorem roven_any (o : Ov) (temp : Sp) (minutes : Int) (w : World) :
    Calls Try.prog 74 #[.agg #[.int .i64 o.low, .int .i64 o.high, .int .i64 o.warm.lo, .int .i64 o.warm.hi, .int .i64 o.cool.lo, .int .i64 o.cool.hi], .agg #[.int .i64 temp.lo, .int .i64 temp.hi], .int .i64 minutes] w fun e w' => e = .returned (.int .i64 (ovenX o temp minutes)) ∧ Ext w w' := by
  have hs0 : ∀ W : World, Calls Try.prog 46 #[.int .i64 o.low] W fun e w' => e = .returned (.bool (tempB o.low)) ∧ W = w' := fun W => rtemp_any o.low W
  have hs1 : ∀ W : World, Calls Try.prog 46 #[.int .i64 o.high] W fun e w' => e = .returned (.bool (tempB o.high)) ∧ W = w' := fun W => rtemp_any o.high W
  have hs2 : ∀ W : World, Calls Try.prog 54 #[.int .i64 o.warm.lo, .int .i64 0, .int .i64 100] W fun e w' => e = .returned (.bool (warmB o.warm.lo)) ∧ W = w' := fun W => rin_any o.warm.lo 0 100 W
  have hs3 : ∀ W : World, Calls Try.prog 54 #[.int .i64 o.warm.hi, .int .i64 0, .int .i64 100] W fun e w' => e = .returned (.bool (warmB o.warm.hi)) ∧ W = w' := fun W => rin_any o.warm.hi 0 100 W
  have hs4 : ∀ W : World, Calls Try.prog 54 #[.int .i64 o.cool.lo, .int .i64 0, .int .i64 100] W fun e w' => e = .returned (.bool (warmB o.cool.lo)) ∧ W = w' := fun W => rin_any o.cool.lo 0 100 W
  have hs5 : ∀ W : World, Calls Try.prog 54 #[.int .i64 o.cool.hi, .int .i64 0, .int .i64 100] W fun e w' => e = .returned (.bool (warmB o.cool.hi)) ∧ W = w' := fun W => rin_any o.cool.hi 0 100 W
  cases h0 : tempB o.low with
  | false =>
    have hX : ovenX o temp minutes = 7 := by unfold ovenX; rw [if_pos (by simp [h0])]
    rw [hX]
    rw [h0] at hs0
    clear hX h0
    go_enter Try.func74, Try.ntmps74
    go_wp2_with fail
    refine (hs0 _).mono ?_
    rintro e w1 ⟨rfl, rfl⟩
    go_wp2
    go_ret
    exact ⟨rfl, ((Ext.refl w).alloc _).alloc _⟩
  | true =>
  rw [h0] at hs0
  cases h1 : tempB o.high with
  | false =>
    have hX : ovenX o temp minutes = 7 := by unfold ovenX; rw [if_pos (by simp [h1])]
    rw [hX]
    rw [h1] at hs1
    clear hX h1
    go_enter Try.func74, Try.ntmps74
    go_wp2_with fail
    refine (hs0 _).mono ?_
    rintro e w1 ⟨rfl, rfl⟩
    go_wp2_with fail
    refine (hs1 _).mono ?_
    rintro e w2 ⟨rfl, rfl⟩
    go_wp2
    go_ret
    exact ⟨rfl, ((Ext.refl w).alloc _).alloc _⟩
  | true =>
  rw [h1] at hs1
  cases h2 : warmB o.warm.lo with
  | false =>
    have hX : ovenX o temp minutes = 7 := by unfold ovenX; rw [if_pos (by simp [h2])]
    rw [hX]
    rw [h2] at hs2
    clear hX h2
    go_enter Try.func74, Try.ntmps74
    go_wp2_with fail
    refine (hs0 _).mono ?_
    rintro e w1 ⟨rfl, rfl⟩
    go_wp2_with fail
    refine (hs1 _).mono ?_
    rintro e w2 ⟨rfl, rfl⟩
    go_wp2_with fail
    refine (hs2 _).mono ?_
    rintro e w3 ⟨rfl, rfl⟩
    go_wp2
    go_ret
    exact ⟨rfl, ((Ext.refl w).alloc _).alloc _⟩
  | true =>
  rw [h2] at hs2
  cases h3 : warmB o.warm.hi with
  | false =>
    have hX : ovenX o temp minutes = 7 := by unfold ovenX; rw [if_pos (by simp [h3])]
    rw [hX]
    rw [h3] at hs3
    clear hX h3
    go_enter Try.func74, Try.ntmps74
    go_wp2_with fail
    refine (hs0 _).mono ?_
    rintro e w1 ⟨rfl, rfl⟩
    go_wp2_with fail
    refine (hs1 _).mono ?_
    rintro e w2 ⟨rfl, rfl⟩
    go_wp2_with fail
    refine (hs2 _).mono ?_
    rintro e w3 ⟨rfl, rfl⟩
    go_wp2_with fail
    refine (hs3 _).mono ?_
    rintro e w4 ⟨rfl, rfl⟩
    go_wp2
    go_ret
    exact ⟨rfl, ((Ext.refl w).alloc _).alloc _⟩
  | true =>
  rw [h3] at hs3
  cases h4 : warmB o.cool.lo with
  | false =>
    have hX : ovenX o temp minutes = 7 := by unfold ovenX; rw [if_pos (by simp [h4])]
    rw [hX]
    rw [h4] at hs4
    clear hX h4
    go_enter Try.func74, Try.ntmps74
    go_wp2_with fail
    refine (hs0 _).mono ?_
    rintro e w1 ⟨rfl, rfl⟩
    go_wp2_with fail
    refine (hs1 _).mono ?_
    rintro e w2 ⟨rfl, rfl⟩
    go_wp2_with fail
    refine (hs2 _).mono ?_
    rintro e w3 ⟨rfl, rfl⟩
    go_wp2_with fail
    refine (hs3 _).mono ?_
    rintro e w4 ⟨rfl, rfl⟩
    go_wp2_with fail
    refine (hs4 _).mono ?_
    rintro e w5 ⟨rfl, rfl⟩
    go_wp2
    go_ret
    exact ⟨rfl, ((Ext.refl w).alloc _).alloc _⟩
  | true =>
  rw [h4] at hs4
  cases h5 : warmB o.cool.hi with
  | false =>
    have hX : ovenX o temp minutes = 7 := by unfold ovenX; rw [if_pos (by simp [h5])]
    rw [hX]
    rw [h5] at hs5
    clear hX h5
    go_enter Try.func74, Try.ntmps74
    go_wp2_with fail
    refine (hs0 _).mono ?_
    rintro e w1 ⟨rfl, rfl⟩
    go_wp2_with fail
    refine (hs1 _).mono ?_
    rintro e w2 ⟨rfl, rfl⟩
    go_wp2_with fail
    refine (hs2 _).mono ?_
    rintro e w3 ⟨rfl, rfl⟩
    go_wp2_with fail
    refine (hs3 _).mono ?_
    rintro e w4 ⟨rfl, rfl⟩
    go_wp2_with fail
    refine (hs4 _).mono ?_
    rintro e w5 ⟨rfl, rfl⟩
    go_wp2_with fail
    refine (hs5 _).mono ?_
    rintro e w6 ⟨rfl, rfl⟩
    go_wp2
    go_ret
    exact ⟨rfl, ((Ext.refl w).alloc _).alloc _⟩
  | true =>
  rw [h5] at hs5
  have hU : ovenX o temp minutes = (if o.high < o.low ∨ o.warm.hi < o.warm.lo ∨ o.cool.hi < o.cool.lo then 2 else if spanX temp ≠ 0 then spanX temp else if inB minutes 0 200 = false then 7 else 0) := by
    unfold ovenX; rw [if_neg (by simp [h0, h1, h2, h3, h4, h5])]
  clear h0 h1 h2 h3 h4 h5
  rw [hU]
  clear hU
  by_cases a0 : o.high < o.low
  · rw [if_pos (by simp [a0])]
    go_enter Try.func74, Try.ntmps74
    go_wp2_with fail
    refine (hs0 _).mono ?_
    rintro e w1 ⟨rfl, rfl⟩
    go_wp2_with fail
    refine (hs1 _).mono ?_
    rintro e w2 ⟨rfl, rfl⟩
    go_wp2_with fail
    refine (hs2 _).mono ?_
    rintro e w3 ⟨rfl, rfl⟩
    go_wp2_with fail
    refine (hs3 _).mono ?_
    rintro e w4 ⟨rfl, rfl⟩
    go_wp2_with fail
    refine (hs4 _).mono ?_
    rintro e w5 ⟨rfl, rfl⟩
    go_wp2_with fail
    refine (hs5 _).mono ?_
    rintro e w6 ⟨rfl, rfl⟩
    go_wp2
    go_ret
    exact ⟨rfl, ((Ext.refl w).alloc _).alloc _⟩
  · skip
    by_cases a1 : o.warm.hi < o.warm.lo
    · rw [if_pos (by simp [a1])]
      go_enter Try.func74, Try.ntmps74
      go_wp2_with fail
      refine (hs0 _).mono ?_
      rintro e w1 ⟨rfl, rfl⟩
      go_wp2_with fail
      refine (hs1 _).mono ?_
      rintro e w2 ⟨rfl, rfl⟩
      go_wp2_with fail
      refine (hs2 _).mono ?_
      rintro e w3 ⟨rfl, rfl⟩
      go_wp2_with fail
      refine (hs3 _).mono ?_
      rintro e w4 ⟨rfl, rfl⟩
      go_wp2_with fail
      refine (hs4 _).mono ?_
      rintro e w5 ⟨rfl, rfl⟩
      go_wp2_with fail
      refine (hs5 _).mono ?_
      rintro e w6 ⟨rfl, rfl⟩
      go_wp2
      go_ret
      exact ⟨rfl, ((Ext.refl w).alloc _).alloc _⟩
    · skip
      by_cases a2 : o.cool.hi < o.cool.lo
      · rw [if_pos (by simp [a2])]
        go_enter Try.func74, Try.ntmps74
        go_wp2_with fail
        refine (hs0 _).mono ?_
        rintro e w1 ⟨rfl, rfl⟩
        go_wp2_with fail
        refine (hs1 _).mono ?_
        rintro e w2 ⟨rfl, rfl⟩
        go_wp2_with fail
        refine (hs2 _).mono ?_
        rintro e w3 ⟨rfl, rfl⟩
        go_wp2_with fail
        refine (hs3 _).mono ?_
        rintro e w4 ⟨rfl, rfl⟩
        go_wp2_with fail
        refine (hs4 _).mono ?_
        rintro e w5 ⟨rfl, rfl⟩
        go_wp2_with fail
        refine (hs5 _).mono ?_
        rintro e w6 ⟨rfl, rfl⟩
        go_wp2
        go_ret
        exact ⟨rfl, ((Ext.refl w).alloc _).alloc _⟩
      · skip
        rw [if_neg (by omega)]
        have hsp := fun W => rspan_any temp.lo temp.hi W
        rw [show (⟨temp.lo, temp.hi⟩ : Sp) = temp from rfl] at hsp
        by_cases hy : spanX temp = 0
        · rw [if_neg (by omega)]
          rw [hy] at hsp
          have hin := fun W => rin_any minutes 0 200 W
          cases hm : inB minutes 0 200 with
          | false =>
            rw [if_pos rfl]
            rw [hm] at hin
            clear hm hy
            go_enter Try.func74, Try.ntmps74
            go_wp2_with fail
            refine (hs0 _).mono ?_
            rintro e w1 ⟨rfl, rfl⟩
            go_wp2_with fail
            refine (hs1 _).mono ?_
            rintro e w2 ⟨rfl, rfl⟩
            go_wp2_with fail
            refine (hs2 _).mono ?_
            rintro e w3 ⟨rfl, rfl⟩
            go_wp2_with fail
            refine (hs3 _).mono ?_
            rintro e w4 ⟨rfl, rfl⟩
            go_wp2_with fail
            refine (hs4 _).mono ?_
            rintro e w5 ⟨rfl, rfl⟩
            go_wp2_with fail
            refine (hs5 _).mono ?_
            rintro e w6 ⟨rfl, rfl⟩
            go_wp2_with fail
            refine (hsp _).mono ?_
            rintro e w7 ⟨rfl, E7⟩
            go_wp2_with fail
            refine (hin _).mono ?_
            rintro e w8 ⟨rfl, rfl⟩
            go_wp2
            go_ret
            exact ⟨rfl, E7.old.old⟩
          | true =>
            rw [if_neg (by simp)]
            rw [hm] at hin
            clear hm hy
            go_enter Try.func74, Try.ntmps74
            go_wp2_with fail
            refine (hs0 _).mono ?_
            rintro e w1 ⟨rfl, rfl⟩
            go_wp2_with fail
            refine (hs1 _).mono ?_
            rintro e w2 ⟨rfl, rfl⟩
            go_wp2_with fail
            refine (hs2 _).mono ?_
            rintro e w3 ⟨rfl, rfl⟩
            go_wp2_with fail
            refine (hs3 _).mono ?_
            rintro e w4 ⟨rfl, rfl⟩
            go_wp2_with fail
            refine (hs4 _).mono ?_
            rintro e w5 ⟨rfl, rfl⟩
            go_wp2_with fail
            refine (hs5 _).mono ?_
            rintro e w6 ⟨rfl, rfl⟩
            go_wp2_with fail
            refine (hsp _).mono ?_
            rintro e w7 ⟨rfl, E7⟩
            go_wp2_with fail
            refine (hin _).mono ?_
            rintro e w8 ⟨rfl, rfl⟩
            go_wp2
            go_ret
            exact ⟨rfl, E7.old.old⟩
        · rw [if_pos hy]
          obtain ⟨y, hyy⟩ : ∃ y, spanX temp = y := ⟨_, rfl⟩
          rw [hyy] at hsp hy ⊢
          have hyb : (y == 0) = false := by simpa using hy
          clear hyy hy
          go_enter Try.func74, Try.ntmps74
          go_wp2_with fail
          refine (hs0 _).mono ?_
          rintro e w1 ⟨rfl, rfl⟩
          go_wp2_with fail
          refine (hs1 _).mono ?_
          rintro e w2 ⟨rfl, rfl⟩
          go_wp2_with fail
          refine (hs2 _).mono ?_
          rintro e w3 ⟨rfl, rfl⟩
          go_wp2_with fail
          refine (hs3 _).mono ?_
          rintro e w4 ⟨rfl, rfl⟩
          go_wp2_with fail
          refine (hs4 _).mono ?_
          rintro e w5 ⟨rfl, rfl⟩
          go_wp2_with fail
          refine (hs5 _).mono ?_
          rintro e w6 ⟨rfl, rfl⟩
          go_wp2_with fail
          refine (hsp _).mono ?_
          rintro e w7 ⟨rfl, E7⟩
          go_wp2
          go_ret
          exact ⟨rfl, E7.old.old⟩
end Go.Proofs.Ytkkchoinfdfiaaa

import Derived.Test.YtcijneecjkpebaaU25
import Derived.Test.YtcijneecjkpebaaU26
import Derived.Test.YtcijneecjkpebaaU27
import Derived.Test.YtcijneecjkpebaaU6
set_option linter.unusedVariables false
set_option linter.unusedSimpArgs false
/- Layer 8: library.Code, any kind. -/
namespace Go.Proofs.Ytcijneecjkpebaa
open Go.RowKit Go.Q
theorem rt_no (w : World) : RtAt w noRt ⟨none, 0, none, 0, none, 0⟩ := ⟨.inl rfl, .inl rfl, .inl rfl⟩
set_option maxRecDepth 100000 in
set_option maxHeartbeats 4000000 in
theorem lb_code (k : Int) (w : World) : Calls Try.prog 15 #[.int .i64 k] w (CodeRes (codeE k).1 (codeE k).2 w) := by
  by_cases h1 : k = 1
  · subst h1; exact lb_code1 w
  by_cases h2 : k = 2
  · subst h2; exact lb_code2 w
  by_cases h3 : k = 3
  · subst h3; exact lb_code3 w
  have HE := Lib.hid (show codeE k = (noRt, 2) by unfold codeE; rw [if_neg (by omega)])
  go_enter Try.func15, Try.ntmps15
  go_upto_region 3 with fail
  have hrb := Blk.nw w #[.slice none 0 0, .slice none 0 0, .int .i64 0, .int .i64 0, .int .i64 0, .slice none 0 0] 24
  have HE0 := Lib.hid (show Ext w (w.alloc (.cells #[.slice none 0 0, .slice none 0 0, .int .i64 0, .int .i64 0, .int .i64 0, .slice none 0 0] 24)) from (Ext.refl w).alloc _)
  obtain ⟨B, hB⟩ : ∃ B, w.heap.size = B := ⟨_, rfl⟩
  have HB := Lib.hid hB
  generalize w.alloc (.cells #[.slice none 0 0, .slice none 0 0, .int .i64 0, .int .i64 0, .int .i64 0, .slice none 0 0] 24) = X at *
  rw [hB] at hrb ⊢
  have r0 := Blk.c hrb 0 (v := .slice none 0 0) rfl
  have r1 := Blk.c hrb 1 (v := .slice none 0 0) rfl
  have r2 := Blk.c hrb 2 (v := .int .i64 0) rfl
  have r3 := Blk.c hrb 3 (v := .int .i64 0) rfl
  have r4 := Blk.c hrb 4 (v := .int .i64 0) rfl
  have r5 := Blk.c hrb 5 (v := .slice none 0 0) rfl
  have g0 := Blk.f hrb 0
  have g1 := Blk.f hrb 1
  have g2 := Blk.f hrb 2
  have g3 := Blk.f hrb 3
  have g4 := Blk.f hrb 4
  have g5 := Blk.f hrb 5
  have hwb := hrb.lt
  clear hrb hB
  go_wp2_with fail
  refine bodyPost_ret (v := .tuple #[.agg #[.slice none 0 0, .slice none 0 0, .int .i64 0, .int .i64 0, .int .i64 0, .slice none 0 0], .int .i64 2]) (by simp [results, Try.results15, go_sem, r0, r1, r2, r3, r4, r5]) rfl ?_
  exact ⟨⟨none, 0, none, 0, none, 0⟩, by rw [HE.out]; rfl, by rw [HE.out]; exact rt_no _, ext_set6 HE0.out (Nat.le_of_eq HB.out) _ _ _ _ _ _⟩
end Go.Proofs.Ytcijneecjkpebaa
/- Layer 8: Value, Accept. -/
namespace Go.Proofs.Ytcijneecjkpebaa
open Go.RowKit Go.Q
set_option maxHeartbeats 2000000 in
theorem lb_value (k : Int) (a : Option Addr) (n c : Nat) (xs : List Int) (w : World) (hn : xs.length = n) (hb : n ≤ 9223372036854775807) (hI : IntsAt w a xs) :
    Calls Try.prog 18 #[.int .i64 k, .slice a n c] w fun e w' => e = .returned (.tuple #[.int .i64 (valueE k xs).1, .int .i64 (valueE k xs).2]) ∧ Ext w w' := by
  have hk := fun W (E : Ext w W) => lb_ask k a n c xs W hn hb (hI.ext E)
  by_cases h0 : askQ k xs = 0
  · have e1 : valueE k xs = (valQ k xs, 0) := by unfold valueE; rw [if_pos h0]
    obtain ⟨g1, g2, g3⟩ := ask_ok h0
    have hT : takesQ k ≠ 0 := by rcases g1 with rfl | rfl | rfl <;> decide
    have hx : xs ≠ [] := by
      intro e
      subst e
      simp at g2
      omega
    obtain ⟨b, off, rfl, hbl, hc⟩ : ∃ b off, a = some ⟨b, off, none⟩ ∧ b < w.heap.size ∧ ∀ i, i < xs.length → w.cell? ⟨b, off + i, none⟩ = some (.int .i64 (xs[i]?.getD 0)) := by
      rcases hI with h | h
      · exact absurd h hx
      · exact h
    have hgr := fun (X : World) (kb ab : Nat) (E : Ext w X) (h1 : ∀ W, Ext X W → W.cell? ⟨kb, 1, none⟩ = some (.func (.func (kindF k)) #[] #[])) (h2 : ∀ W, Ext X W → W.cell? ⟨ab, 0, none⟩ = some (.slice (some ⟨b, off, none⟩) n c)) =>
      lb_greatest 52 #[.pointer (some ⟨kb, 0, none⟩), .pointer (some ⟨ab, 0, none⟩)] (fitsP k xs) X (enters_of Try.func52 (by kernel_rfl) rfl) (fun W x E' x0 x1 => (lb_value1 k x b off c n kb ab xs W h0 ⟨x0, x1⟩ hn (fun i hi => cell_later (E.comp E') (hc i hi)) (h1 W E') (h2 W E')).mono fun _ _ he => ⟨he.1, E'.comp he.2⟩)
    rw [h0, kindV1 hT] at hk
    rw [e1]
    dsimp only
    have HV := Lib.hid (show greatN (fitsP k xs) 23 0 = valQ k xs from rfl)
    generalize takesQ k = T at *
    generalize kindF k = gF at *
    clear e1 h0 g1 g2 g3 hT hx hI hn
    go_enter Try.func18, Try.ntmps18
    go_wp2_with fail
    refine (hk _ (by repeat (first | with_reducible exact Ext.refl _ |  (with_reducible refine Ext.alloc ?_ _) | (with_reducible refine Below.drew ?_) | (with_reducible refine below_drewN ?_ _) | (with_reducible refine ext_put ?_ _ ?_; rotate_left; (first | with_reducible exact Nat.le_refl _ | with_reducible exact Nat.le_succ _ | omega | (dsimp only; omega)))))).mono ?_
    rintro e w1 ⟨rfl, E1⟩
    have B0 := Blk.of E1
    have E0 : Ext w w1 := E1.old
    have hz := E0.size
    have p0 := Blk.c B0 0 (v := .slice (some ⟨b, off, none⟩) n c) rfl
    go_wp2_with fail
    have B2 := B0.al (.cells #[.int .i64 T, .func (.func gF) #[] #[]] 99)
    have B3 := Blk.nw w1 #[.int .i64 T, .func (.func gF) #[] #[]] 99
    refine (hgr _ w1.heap.size w.heap.size (by repeat (first | with_reducible exact Ext.refl _ | with_reducible exact E0 | with_reducible exact E0.old | with_reducible exact E0.old.old | with_reducible exact E0.old.old.old | (with_reducible refine Ext.alloc ?_ _) | (with_reducible refine Below.drew ?_) | (with_reducible refine below_drewN ?_ _) | (with_reducible refine ext_put ?_ _ ?_; rotate_left; (first | with_reducible exact Nat.le_refl _ | with_reducible exact Nat.le_succ _ | omega | (dsimp only; omega))))) (fun W E => (B3.ex E).c 1 rfl) (fun W E => (B2.ex E).c 0 rfl)).mono ?_
    rintro e w2 ⟨rfl, E2⟩
    rw [HV.out]
    go_wp2
    go_ret2
    exact ⟨rfl, E0.comp E2.old⟩
  · have e1 : valueE k xs = (0, askQ k xs) := by unfold valueE; rw [if_neg h0]
    rw [e1]
    dsimp only
    have hzb : (askQ k xs != 0) = true := by simpa using h0
    have hV : kindV k = .nilFunc ∨ ∃ g, kindV k = .func (.func g) #[] #[] := by
      unfold kindV
      split
      · exact .inl rfl
      · exact .inr ⟨_, rfl⟩
    generalize askQ k xs = R at *
    generalize takesQ k = T at *
    generalize kindV k = V at *
    clear e1 h0 hI hn
    rcases hV with rfl | ⟨g, rfl⟩
    all_goals
      go_enter Try.func18, Try.ntmps18
      go_wp2_with fail
      refine (hk _ (by repeat (first | with_reducible exact Ext.refl _ |  (with_reducible refine Ext.alloc ?_ _) | (with_reducible refine Below.drew ?_) | (with_reducible refine below_drewN ?_ _) | (with_reducible refine ext_put ?_ _ ?_; rotate_left; (first | with_reducible exact Nat.le_refl _ | with_reducible exact Nat.le_succ _ | omega | (dsimp only; omega)))))).mono ?_
      rintro e w1 ⟨rfl, E1⟩
      have E0 : Ext w w1 := E1.old
      go_wp2_with fail
      go_ret2
      exact ⟨rfl, (by repeat (first | with_reducible exact Ext.refl _ | with_reducible exact E0 | with_reducible exact E0.old | with_reducible exact E0.old.old | with_reducible exact E0.old.old.old | (with_reducible refine Ext.alloc ?_ _) | (with_reducible refine Below.drew ?_) | (with_reducible refine below_drewN ?_ _) | (with_reducible refine ext_put ?_ _ ?_; rotate_left; (first | with_reducible exact Nat.le_refl _ | with_reducible exact Nat.le_succ _ | omega | (dsimp only; omega)))))⟩
set_option maxHeartbeats 1000000 in
theorem lb_accept (k : Int) (a : Option Addr) (n c : Nat) (xs : List Int) (y : Int) (w : World) (hn : xs.length = n) (hb : n ≤ 9223372036854775807) (hI : IntsAt w a xs) :
    Calls Try.prog 20 #[.int .i64 k, .slice a n c, .int .i64 y] w fun e w' => e = .returned (.tuple #[.bool (acceptE k xs y).1, .int .i64 (acceptE k xs y).2]) ∧ Ext w w' := by
  have hk := lb_value k a n c xs w hn hb hI
  have e2 : (acceptE k xs y).2 = (valueE k xs).2 := by unfold acceptE valueE; split <;> simp_all
  have e1 : (acceptE k xs y).1 = (((valueE k xs).2 == 0) && ((valueE k xs).1 == y)) := by
    unfold acceptE valueE
    split
    · rename_i h; simp [h]; rfl
    · rename_i h; simp [h]
  rw [e1, e2]
  generalize valueE k xs = v at *
  obtain ⟨v1, v2⟩ := v
  dsimp only at *
  clear e1 e2 hI hn
  by_cases h0 : v2 = 0
  · subst h0
    cases hy : (v1 == y) with
    | true =>
      go_enter Try.func20, Try.ntmps20
      go_wp2_with fail
      refine (hk).mono ?_
      rintro e w1 ⟨rfl, E1⟩
      go_wp2
      go_ret2
      exact ⟨rfl, E1⟩
    | false =>
      go_enter Try.func20, Try.ntmps20
      go_wp2_with fail
      refine (hk).mono ?_
      rintro e w1 ⟨rfl, E1⟩
      go_wp2
      go_ret2
      exact ⟨rfl, E1⟩
  · have hb0 : (v2 == 0) = false := by simpa using h0
    rw [hb0, Bool.false_and]
    clear h0
    go_enter Try.func20, Try.ntmps20
    go_wp2_with fail
    refine (hk).mono ?_
    rintro e w1 ⟨rfl, E1⟩
    go_wp2
    go_ret2
    exact ⟨rfl, E1⟩
end Go.Proofs.Ytcijneecjkpebaa

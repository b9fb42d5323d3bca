import Derived.Test.YtbcciokmlkofkaaGreatWH8
import Derived.Test.YtbcciokmlkofkaaGreatWSpec4d
set_option linter.unusedVariables false
set_option linter.unusedSimpArgs false
/- Contract of layer 1: Pass. -/
namespace Go.Proofs.YtbcciokmlkofkaaGreat
open Go.RowKit Go.Q Go.Shelf
/-- what Pass hands back -/
def PassRes (r : List Int × Int × Int) (w : World) (e : Ending) (w' : World) : Prop :=
  ∃ a c, e = .returned (.tuple #[.slice a r.1.length c, .int .i64 r.2.1, .int .i64 r.2.2]) ∧ IntsAt w' a r.1 ∧ Ext w w'
theorem pass_err {x : Int} {w W : World} (h : Ext w W) : PassRes ([], 0, x) w (.returned (.tuple #[.slice none 0 0, .int .i64 0, .int .i64 x])) W := ⟨none, 0, rfl, .inl rfl, h⟩
set_option maxRecDepth 100000 in
set_option maxHeartbeats 4000000 in
theorem pass_bad (l : Ln) (a1 a2 : Option Addr) (n1 n2 c1 c2 : Nat) (ws ts : List Int) (w : World) (l1 : ws.length = n1) (l2 : ts.length = n2) (b1 : n1 ≤ 9223372036854775807) (b2 : n2 ≤ 9223372036854775807)
    (i1 : IntsAt w a1 ws) (i2 : IntsAt w a2 ts) (hx : passX l ws ts ≠ 0) :
    Calls Tryz.prog 8 #[.agg #[.int .i64 l.words, .int .i64 l.bits, .int .i64 l.period, .int .i64 l.delay, .int .i64 l.slope, .int .i64 l.window], .slice a1 n1 c1, .slice a2 n2 c2] w (PassRes (passE l ws ts) w) := by
  have hE : passE l ws ts = ([], 0, passX l ws ts) := by unfold passE; rw [if_neg hx]
  rw [hE]
  have hck := fun W => check_anyL l W
  cases ho : okL l with
  | false =>
    have e1 : passX l ws ts = 7 := by unfold passX; rw [if_pos ho]
    rw [e1]
    rw [checkL_no ho] at hck
    clear hE hx e1 ho i1 i2
    go_enter Tryz.func8, Tryz.ntmps8
    go_wp2_with fail
    refine (hck _).mono ?_
    rintro e w1 ⟨rfl, E1⟩
    have z0 := box_at2 (v := .int .i64 0) E1 0 rfl
    have f0 := box_free2 E1 0
    go_wp2
    exact bodyPost_ret (v := .tuple #[.slice none 0 0, .int .i64 0, .int .i64 7]) (by simp [results, Tryz.results8, go_sem, z0, f0]) rfl (pass_err (E1.old.old.setCell (p := ⟨w.heap.size + 1, 0, none⟩) (Nat.le_succ _) _))
  | true =>
    rw [checkL_of ho] at hck
    have hok := okL_ok ho
    have htk := fun W (E : Ext w W) => tcheck_any l a1 n1 c1 ws W hok l1 b1 (i1.ext E)
    by_cases hwe : wordsE l ws = 0
    · rw [hwe] at htk
      by_cases h60 : 60 < n2
      · have e1 : passX l ws ts = 3 := by unfold passX; rw [ho, if_neg (by simp), if_neg (by rw [hwe]; simp), if_pos (by omega)]
        rw [e1]
        clear hE hx e1 ho i1 i2 hwe
        go_enter Tryz.func8, Tryz.ntmps8
        go_wp2_with fail
        refine (hck _).mono ?_
        rintro e w1 ⟨rfl, E1⟩
        have c0 := box_at (v := .int .i64 l.words) E1.old 0 rfl
        have c1 := box_at (v := .int .i64 l.bits) E1.old 1 rfl
        have c2 := box_at (v := .int .i64 l.period) E1.old 2 rfl
        have c3 := box_at (v := .int .i64 l.delay) E1.old 3 rfl
        have c4 := box_at (v := .int .i64 l.slope) E1.old 4 rfl
        have c5 := box_at (v := .int .i64 l.window) E1.old 5 rfl
        have z0 := box_at2 (v := .int .i64 0) E1 0 rfl
        have f0 := box_free2 E1 0
        go_wp2_with fail
        refine (htk _ (by repeat (first | with_reducible exact E1.old.old | with_reducible refine Ext.alloc ?_ _ | with_reducible refine Below.drew ?_))).mono ?_
        rintro e w2 ⟨rfl, E2⟩
        have q0 := box_at2 (v := .int .i64 0) (E1.comp E2.old) 0 rfl
        have g0 := box_free2 (E1.comp E2.old) 0
        have E3 := E1.old.old.comp E2.old
        go_wp2
        exact bodyPost_ret (v := .tuple #[.slice none 0 0, .int .i64 0, .int .i64 3]) (by simp [results, Tryz.results8, go_sem, q0, g0]) rfl (pass_err (E3.setCell (p := ⟨w.heap.size + 1, 0, none⟩) (Nat.le_succ _) _))
      · have hst : ts.any (fun t => !tempB t) = true := by
          cases h : ts.any (fun t => !tempB t) with
          | true => rfl
          | false =>
            refine absurd ?_ hx
            unfold passX
            rw [ho, if_neg (by simp), if_neg (by rw [hwe]; simp), if_neg (by omega), if_neg (by rw [h]; simp)]
        have e1 : passX l ws ts = 7 := by unfold passX; rw [ho, if_neg (by simp), if_neg (by rw [hwe]; simp), if_neg (by omega), if_pos hst]
        rw [e1]
        have hcn := fun W (E : Ext w W) => contains_any 39 #[] (fun t => !tempB t) a2 n2 c2 ts W (fun args w => enters_of Tryz.func39 (by kernel_rfl) rfl args w)
          (fun W' x E' => (strange_anyL x W').mono fun _ _ he => ⟨he.1, by rw [← he.2]; exact E'⟩) l2 b2 (i2.ext E)
        rw [hst] at hcn
        clear hE hx e1 ho i1 i2 hwe hst
        go_enter Tryz.func8, Tryz.ntmps8
        go_wp2_with fail
        refine (hck _).mono ?_
        rintro e w1 ⟨rfl, E1⟩
        have c0 := box_at (v := .int .i64 l.words) E1.old 0 rfl
        have c1 := box_at (v := .int .i64 l.bits) E1.old 1 rfl
        have c2 := box_at (v := .int .i64 l.period) E1.old 2 rfl
        have c3 := box_at (v := .int .i64 l.delay) E1.old 3 rfl
        have c4 := box_at (v := .int .i64 l.slope) E1.old 4 rfl
        have c5 := box_at (v := .int .i64 l.window) E1.old 5 rfl
        have z0 := box_at2 (v := .int .i64 0) E1 0 rfl
        have f0 := box_free2 E1 0
        go_wp2_with fail
        refine (htk _ (by repeat (first | with_reducible exact E1.old.old | with_reducible refine Ext.alloc ?_ _ | with_reducible refine Below.drew ?_))).mono ?_
        rintro e w2 ⟨rfl, E2⟩
        have E3 := E1.old.old.comp E2.old
        go_wp2_with fail
        refine (hcn _ (by first | exact E3 | exact E3.alloc _)).mono ?_
        rintro e w3 ⟨rfl, E4⟩
        have q0 := box_at2 (v := .int .i64 0) ((E1.comp E2.old).comp E4) 0 rfl
        have g0 := box_free2 ((E1.comp E2.old).comp E4) 0
        replace E3 := E3.comp E4
        go_wp2
        exact bodyPost_ret (v := .tuple #[.slice none 0 0, .int .i64 0, .int .i64 7]) (by simp [results, Tryz.results8, go_sem, q0, g0]) rfl (pass_err (E3.setCell (p := ⟨w.heap.size + 1, 0, none⟩) (Nat.le_succ _) _))
    · have e1 : passX l ws ts = wordsE l ws := by unfold passX; rw [ho, if_neg (by simp), if_pos hwe]
      rw [e1]
      generalize wordsE l ws = x at *
      have hx0 : (x != 0) = true := by simpa using hwe
      clear hE hx e1 ho i1 i2 hwe
      go_enter Tryz.func8, Tryz.ntmps8
      go_wp2_with fail
      refine (hck _).mono ?_
      rintro e w1 ⟨rfl, E1⟩
      have c0 := box_at (v := .int .i64 l.words) E1.old 0 rfl
      have c1 := box_at (v := .int .i64 l.bits) E1.old 1 rfl
      have c2 := box_at (v := .int .i64 l.period) E1.old 2 rfl
      have c3 := box_at (v := .int .i64 l.delay) E1.old 3 rfl
      have c4 := box_at (v := .int .i64 l.slope) E1.old 4 rfl
      have c5 := box_at (v := .int .i64 l.window) E1.old 5 rfl
      have z0 := box_at2 (v := .int .i64 0) E1 0 rfl
      have f0 := box_free2 E1 0
      go_wp2_with fail
      refine (htk _ (by repeat (first | with_reducible exact E1.old.old | with_reducible refine Ext.alloc ?_ _ | with_reducible refine Below.drew ?_))).mono ?_
      rintro e w2 ⟨rfl, E2⟩
      have q0 := box_at2 (v := .int .i64 0) (E1.comp E2.old) 0 rfl
      have g0 := box_free2 (E1.comp E2.old) 0
      have E3 := E1.old.old.comp E2.old
      go_wp2
      exact bodyPost_ret (v := .tuple #[.slice none 0 0, .int .i64 0, .int .i64 x]) (by simp [results, Tryz.results8, go_sem, q0, g0]) rfl (pass_err (E3.setCell (p := ⟨w.heap.size + 1, 0, none⟩) (Nat.le_succ _) _))
end Go.Proofs.YtbcciokmlkofkaaGreat

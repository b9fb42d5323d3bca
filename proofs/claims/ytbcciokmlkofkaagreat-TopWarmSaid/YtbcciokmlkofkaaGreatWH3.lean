import Derived.Test.YtbcciokmlkofkaaGreatRows
import Derived.Deep.RegionHeld3
import Derived.Deep.DeepCutAuto
import Derived.Outline
import Derived.Test.YtbcciokmlkofkaaGreatWH0
set_option linter.unusedVariables false
set_option linter.unusedSimpArgs false
/- Contracts of layer 1: out, strange, Check, beats, shift, turn, safe, Shift. -/
namespace Go.Proofs.YtbcciokmlkofkaaGreat
open Go.RowKit Go.Q
set_option maxHeartbeats 400000 in
theorem lout_any (n l h : Int) (w : World) :
    Calls Tryz.prog 49 #[.int .i64 n, .int .i64 l, .int .i64 h] w fun e w' => e = .returned (.bool (!inB n l h)) ∧ w = w' := by
  by_cases h1 : n < l
  · go_enter Tryz.func49, Tryz.ntmps49
    go_wp2
    go_ret
    exact ⟨ret_bool (by unfold inB; rw [decide_eq_false (by omega : ¬ l ≤ n)]; rfl), rfl⟩
  · go_enter Tryz.func49, Tryz.ntmps49
    go_wp2
    go_ret
    exact ⟨ret_bool (by
      unfold inB
      rw [decide_eq_true (by omega : l ≤ n), Bool.true_and, ← decide_not]
      exact decide_eq_decide.2 (by omega)), rfl⟩
set_option maxHeartbeats 400000 in
theorem strange_anyL (n : Int) (w : World) :
    Calls Tryz.prog 39 #[.int .i64 n] w fun e w' => e = .returned (.bool (!tempB n)) ∧ w = w' := by
  go_enter Tryz.func39, Tryz.ntmps39
  go_wp2_with (go_at_call 49; refine (lout_any _ _ _ _).mono ?_; rintro e w' ⟨rfl, rfl⟩)
  go_ret
  exact ⟨rfl, rfl⟩
theorem inB_half {p : Int} (h : inB p 2 100000 = true) : 0 ≤ p - 1 ∧ 2 ≤ p ∧ p ≤ 100000 := by have := inB_bd h; omega
set_option maxHeartbeats 1000000 in
theorem check_anyL (l : Ln) (w : World) :
    Calls Tryz.prog 15 #[.agg #[.int .i64 l.words, .int .i64 l.bits, .int .i64 l.period, .int .i64 l.delay, .int .i64 l.slope, .int .i64 l.window]] w fun e w' => e = .returned (.int .i64 (checkL l)) ∧ Ext w w' := by
  obtain ⟨a, b, c, d, s, x⟩ := l
  have key : ∀ r : Int, r = checkL ⟨a, b, c, d, s, x⟩ → ∀ W, Ext w W → (Ending.returned (.int .i64 r) = .returned (.int .i64 (checkL ⟨a, b, c, d, s, x⟩)) ∧ Ext w W) := fun r h W e => ⟨by rw [h], e⟩
  unfold checkL okL at key
  dsimp only at key ⊢
  have fin : ∀ r : Int, r = checkL ⟨a, b, c, d, s, x⟩ → r = checkL ⟨a, b, c, d, s, x⟩ := fun _ h => h
  cases h1 : inB a 1 64 with
  | false =>
    go_enter Tryz.func15, Tryz.ntmps15
    go_wp2_with fail
    refine (lout_any _ _ _ _).mono ?_
    rintro e w' ⟨rfl, rfl⟩
    rw [h1]
    go_wp2
    go_ret
    exact ⟨ret_int (by unfold checkL okL; simp [h1]), (Ext.refl w).alloc _⟩
  | true =>
  cases h2 : inB b 1 40 with
  | false =>
    go_enter Tryz.func15, Tryz.ntmps15
    go_wp2_with fail
    refine (lout_any _ _ _ _).mono ?_
    rintro e w' ⟨rfl, rfl⟩
    rw [h1]
    go_wp2_with fail
    refine (lout_any _ _ _ _).mono ?_
    rintro e w' ⟨rfl, rfl⟩
    rw [h2]
    go_wp2
    go_ret
    exact ⟨ret_int (by unfold checkL okL; simp [h1, h2]), (Ext.refl w).alloc _⟩
  | true =>
  cases h3 : inB c 2 100000 with
  | false =>
    go_enter Tryz.func15, Tryz.ntmps15
    go_wp2_with fail
    refine (lout_any _ _ _ _).mono ?_
    rintro e w' ⟨rfl, rfl⟩
    rw [h1]
    go_wp2_with fail
    refine (lout_any _ _ _ _).mono ?_
    rintro e w' ⟨rfl, rfl⟩
    rw [h2]
    go_wp2_with fail
    refine (lout_any _ _ _ _).mono ?_
    rintro e w' ⟨rfl, rfl⟩
    rw [h3]
    go_wp2
    go_ret
    exact ⟨ret_int (by unfold checkL okL; simp [h1, h2, h3]), (Ext.refl w).alloc _⟩
  | true =>
  obtain ⟨c0, c1, c2⟩ := inB_half h3
  cases h4 : inB d 0 1000000000 with
  | false =>
    go_enter Tryz.func15, Tryz.ntmps15
    go_wp2_with fail
    refine (lout_any _ _ _ _).mono ?_
    rintro e w' ⟨rfl, rfl⟩
    rw [h1]
    go_wp2_with fail
    refine (lout_any _ _ _ _).mono ?_
    rintro e w' ⟨rfl, rfl⟩
    rw [h2]
    go_wp2_with fail
    refine (lout_any _ _ _ _).mono ?_
    rintro e w' ⟨rfl, rfl⟩
    rw [h3]
    go_wp2_with fail
    refine (lout_any _ _ _ _).mono ?_
    rintro e w' ⟨rfl, rfl⟩
    rw [h4]
    go_wp2
    go_ret
    exact ⟨ret_int (by unfold checkL okL; simp [h1, h2, h3, h4]), (Ext.refl w).alloc _⟩
  | true =>
  cases h5 : inB s (-100000) 100000 with
  | false =>
    go_enter Tryz.func15, Tryz.ntmps15
    go_wp2_with fail
    refine (lout_any _ _ _ _).mono ?_
    rintro e w' ⟨rfl, rfl⟩
    rw [h1]
    go_wp2_with fail
    refine (lout_any _ _ _ _).mono ?_
    rintro e w' ⟨rfl, rfl⟩
    rw [h2]
    go_wp2_with fail
    refine (lout_any _ _ _ _).mono ?_
    rintro e w' ⟨rfl, rfl⟩
    rw [h3]
    go_wp2_with fail
    refine (lout_any _ _ _ _).mono ?_
    rintro e w' ⟨rfl, rfl⟩
    rw [h4]
    go_wp2_with fail
    refine (lout_any _ _ _ _).mono ?_
    rintro e w' ⟨rfl, rfl⟩
    rw [h5]
    go_wp2
    go_ret
    exact ⟨ret_int (by unfold checkL okL; simp [h1, h2, h3, h4, h5]), (Ext.refl w).alloc _⟩
  | true =>
    go_enter Tryz.func15, Tryz.ntmps15
    go_wp2_with fail
    refine (lout_any _ _ _ _).mono ?_
    rintro e w' ⟨rfl, rfl⟩
    rw [h1]
    go_wp2_with fail
    refine (lout_any _ _ _ _).mono ?_
    rintro e w' ⟨rfl, rfl⟩
    rw [h2]
    go_wp2_with fail
    refine (lout_any _ _ _ _).mono ?_
    rintro e w' ⟨rfl, rfl⟩
    rw [h3]
    go_wp2_with fail
    refine (lout_any _ _ _ _).mono ?_
    rintro e w' ⟨rfl, rfl⟩
    rw [h4]
    go_wp2_with fail
    refine (lout_any _ _ _ _).mono ?_
    rintro e w' ⟨rfl, rfl⟩
    rw [h5]
    go_wp2_with fail
    refine (lout_any _ _ _ _).mono ?_
    rintro e w' ⟨rfl, rfl⟩
    cases h6 : inB x 0 ((c - 1) / 2) with
    | false =>
      go_wp2
      go_ret
      exact ⟨ret_int (by unfold checkL okL; simp [h1, h2, h3, h4, h5, h6]), (Ext.refl w).alloc _⟩
    | true =>
      go_wp2
      go_ret
      exact ⟨ret_int (by unfold checkL okL; simp [h1, h2, h3, h4, h5, h6]), (Ext.refl w).alloc _⟩
set_option maxHeartbeats 400000 in
theorem beats_any (l : Ln) (w : World) (h : OkL l) :
    Calls Tryz.prog 73 #[.agg #[.int .i64 l.words, .int .i64 l.bits, .int .i64 l.period, .int .i64 l.delay, .int .i64 l.slope, .int .i64 l.window]] w fun e w' => e = .returned (.int .i64 (beatsL l)) ∧ Ext w w' := by
  have hb := h.beats
  unfold beatsL at hb ⊢
  go_enter Tryz.func73, Tryz.ntmps73
  go_wp2
  go_ret
  exact ⟨rfl, (Ext.refl w).alloc _⟩
theorem six_later {w W W' : World} {b : Nat} {v0 v1 v2 v3 v4 v5 : Value} (h : Ext w W ∧ W.cell? ⟨b, 0, none⟩ = some v0 ∧ W.cell? ⟨b, 1, none⟩ = some v1 ∧ W.cell? ⟨b, 2, none⟩ = some v2 ∧ W.cell? ⟨b, 3, none⟩ = some v3 ∧ W.cell? ⟨b, 4, none⟩ = some v4 ∧ W.cell? ⟨b, 5, none⟩ = some v5) (e : Ext W W') :
    Ext w W' ∧ W'.cell? ⟨b, 0, none⟩ = some v0 ∧ W'.cell? ⟨b, 1, none⟩ = some v1 ∧ W'.cell? ⟨b, 2, none⟩ = some v2 ∧ W'.cell? ⟨b, 3, none⟩ = some v3 ∧ W'.cell? ⟨b, 4, none⟩ = some v4 ∧ W'.cell? ⟨b, 5, none⟩ = some v5 :=
  ⟨Ext.comp h.1 e, cell_later e h.2.1, cell_later e h.2.2.1, cell_later e h.2.2.2.1, cell_later e h.2.2.2.2.1, cell_later e h.2.2.2.2.2.1, cell_later e h.2.2.2.2.2.2⟩
theorem six_new {w : World} {v0 v1 v2 v3 v4 v5 : Value} {T : TypeId} : Ext w (w.alloc (.cells #[v0, v1, v2, v3, v4, v5] T)) ∧ (w.alloc (.cells #[v0, v1, v2, v3, v4, v5] T)).cell? ⟨w.heap.size, 0, none⟩ = some v0 ∧ (w.alloc (.cells #[v0, v1, v2, v3, v4, v5] T)).cell? ⟨w.heap.size, 1, none⟩ = some v1 ∧ (w.alloc (.cells #[v0, v1, v2, v3, v4, v5] T)).cell? ⟨w.heap.size, 2, none⟩ = some v2 ∧ (w.alloc (.cells #[v0, v1, v2, v3, v4, v5] T)).cell? ⟨w.heap.size, 3, none⟩ = some v3 ∧ (w.alloc (.cells #[v0, v1, v2, v3, v4, v5] T)).cell? ⟨w.heap.size, 4, none⟩ = some v4 ∧ (w.alloc (.cells #[v0, v1, v2, v3, v4, v5] T)).cell? ⟨w.heap.size, 5, none⟩ = some v5 :=
  ⟨(Ext.refl w).alloc _, box_at (Ext.refl _) 0 rfl, box_at (Ext.refl _) 1 rfl, box_at (Ext.refl _) 2 rfl, box_at (Ext.refl _) 3 rfl, box_at (Ext.refl _) 4 rfl, box_at (Ext.refl _) 5 rfl⟩
set_option maxHeartbeats 1000000 in
theorem turn_any (l : Ln) (n : Int) (w : World) (h : OkL l) (hn : -1000000000000 ≤ n ∧ n ≤ 1000000000000) :
    Calls Tryz.prog 57 #[.agg #[.int .i64 l.words, .int .i64 l.bits, .int .i64 l.period, .int .i64 l.delay, .int .i64 l.slope, .int .i64 l.window], .int .i64 n] w fun e w' => e = .returned (.int .i64 (turnL l n)) ∧ Ext w w' := by
  have hb := h.beats
  have hcall := fun W => beats_any l W h
  have ht := turn_of_tmod (a := n) (b := beatsL l) (by omega)
  have t1 := Int.lt_tmod_of_pos n (show 0 < beatsL l by omega)
  have t2 := Int.tmod_lt_of_pos n (show 0 < beatsL l by omega)
  unfold turnL
  rw [← ht]
  clear ht h
  generalize hB : beatsL l = B at *
  clear hB
  have hne : (B == 0) = false := by simp; omega
  have hne2 : ¬ B = 0 := by omega
  obtain ⟨hb0, hb1⟩ := hb
  obtain ⟨hn0, hn1⟩ := hn
  generalize hT : n.tmod B = T at *
  have w1 : IntKind.i64.wrap T = T := IntWalk.i64_in _ (by omega)
  have w2 : IntKind.i64.wrap (T + B) = T + B := IntWalk.i64_in _ (by omega)
  have w3 : IntKind.i64.wrap ((T + B).tmod B) = (T + B).tmod B := by
    have := Int.lt_tmod_of_pos (T + B) (show 0 < B by omega)
    have := Int.tmod_lt_of_pos (T + B) (show 0 < B by omega)
    exact IntWalk.i64_in _ (by omega)
  go_enter Tryz.func57, Tryz.ntmps57
  go_wp2
  have hS := six_new (w := w) (v0 := .int .i64 l.words) (v1 := .int .i64 l.bits) (v2 := .int .i64 l.period) (v3 := .int .i64 l.delay) (v4 := .int .i64 l.slope) (v5 := .int .i64 l.window) (T := 57)
  generalize World.alloc w _ = W at hS ⊢
  obtain ⟨hE, c0, c1, c2, c3, c4, c5⟩ := hS
  go_region_held3 (fun w' => Ext w w' ∧ w'.cell? ⟨w.heap.size, 0, none⟩ = some (.int .i64 l.words) ∧ w'.cell? ⟨w.heap.size, 1, none⟩ = some (.int .i64 l.bits) ∧ w'.cell? ⟨w.heap.size, 2, none⟩ = some (.int .i64 l.period) ∧ w'.cell? ⟨w.heap.size, 3, none⟩ = some (.int .i64 l.delay) ∧ w'.cell? ⟨w.heap.size, 4, none⟩ = some (.int .i64 l.slope) ∧ w'.cell? ⟨w.heap.size, 5, none⟩ = some (.int .i64 l.window))
    (first | exact ⟨hE.drew, c0, c1, c2, c3, c4, c5⟩ | exact six_later ⟨hE.drew, c0, c1, c2, c3, c4, c5⟩ hb' | exact six_later (by assumption) hb')
    (first | (go_at_call 73; refine (hcall _).mono ?_; rintro e w' ⟨rfl, hb'⟩))
  all_goals
    have hh := ‹Ext w _ ∧ _ ∧ _ ∧ _ ∧ _ ∧ _ ∧ _›
    go_wp2
    go_ret
    exact ⟨rfl, hh.1⟩
set_option maxHeartbeats 2000000 in
theorem shift_any (l : Ln) (t : Int) (w : World) (h : OkL l) (ht : -100000 ≤ t ∧ t ≤ 100000) :
    Calls Tryz.prog 56 #[.agg #[.int .i64 l.words, .int .i64 l.bits, .int .i64 l.period, .int .i64 l.delay, .int .i64 l.slope, .int .i64 l.window], .int .i64 t] w fun e w' => e = .returned (.tuple #[.int .i64 (shiftV l t).1, .bool (shiftV l t).2]) ∧ Ext w w' := by
  obtain ⟨A, hAd⟩ : ∃ A, lateL l t = A := ⟨_, rfl⟩
  have hcall := fun W => beats_any l W h
  have hb := h.beats
  have hl := h.late ht
  have hs := h.slopeT ht
  have hsp := h.span
  have hd := h.delay
  have hp := h.period
  have hwn := h.window
  have HVH := Lib.hid (show ∀ (s : Int) (b : Bool), (if lostL l t = true then (0, true) else (byL l t, false)) = (s, b) → ∀ W, Ext w W → (Ending.returned (.tuple #[.int .i64 s, .bool b]) = .returned (.tuple #[.int .i64 (shiftV l t).1, .bool (shiftV l t).2]) ∧ Ext w W) by
    intro s b e W E
    unfold shiftV
    rw [e]
    exact ⟨rfl, E⟩)
  have hLo : lostL l t = decide (2 * l.window < A % l.period) := by rw [← hAd]; rfl
  have hBy : byL l t = A / l.period := by rw [← hAd]; rfl
  have HLo := Lib.hid hLo
  have HBy := Lib.hid hBy
  clear hLo hBy
  rw [hAd] at hl
  have hAx : l.delay + l.slope * t - beatsL l * l.period + l.window = A := hAd
  have HF := Lib.hid (floor_of_tdiv (a := A) (b := l.period) (by omega))
  have HE := Lib.hid (Int.mul_tdiv_add_tmod A l.period)
  have m1 := Int.lt_tmod_of_pos A (show 0 < l.period by omega)
  have m2 := Int.tmod_lt_of_pos A (show 0 < l.period by omega)
  have HM := Lib.hid (Int.emod_add_mul_ediv A l.period)
  have w1 : IntKind.i64.wrap (l.slope * t) = l.slope * t := IntWalk.i64_in _ (by omega)
  have w2 : IntKind.i64.wrap (l.delay + l.slope * t) = l.delay + l.slope * t := IntWalk.i64_in _ (by omega)
  have w3 : IntKind.i64.wrap (beatsL l * l.period) = beatsL l * l.period := IntWalk.i64_in _ (by omega)
  have w4 : IntKind.i64.wrap (l.delay + l.slope * t - beatsL l * l.period) = l.delay + l.slope * t - beatsL l * l.period := IntWalk.i64_in _ (by omega)
  have w5 : IntKind.i64.wrap (l.delay + l.slope * t - beatsL l * l.period + l.window) = l.delay + l.slope * t - beatsL l * l.period + l.window := IntWalk.i64_in _ (by omega)
  have HA := Lib.hid hAx
  clear hAx hAd
  go_enter Tryz.func56, Tryz.ntmps56
  go_wp2
  have hS := six_new (w := w) (v0 := .int .i64 l.words) (v1 := .int .i64 l.bits) (v2 := .int .i64 l.period) (v3 := .int .i64 l.delay) (v4 := .int .i64 l.slope) (v5 := .int .i64 l.window) (T := 57)
  generalize World.alloc w _ = W at hS ⊢
  obtain ⟨hE, c0, c1, c2, c3, c4, c5⟩ := hS
  go_region_held3 (fun w' => Ext w w' ∧ w'.cell? ⟨w.heap.size, 0, none⟩ = some (.int .i64 l.words) ∧ w'.cell? ⟨w.heap.size, 1, none⟩ = some (.int .i64 l.bits) ∧ w'.cell? ⟨w.heap.size, 2, none⟩ = some (.int .i64 l.period) ∧ w'.cell? ⟨w.heap.size, 3, none⟩ = some (.int .i64 l.delay) ∧ w'.cell? ⟨w.heap.size, 4, none⟩ = some (.int .i64 l.slope) ∧ w'.cell? ⟨w.heap.size, 5, none⟩ = some (.int .i64 l.window))
    (first | exact ⟨hE.drew, c0, c1, c2, c3, c4, c5⟩ | exact six_later ⟨hE.drew, c0, c1, c2, c3, c4, c5⟩ hb' | exact six_later (by assumption) hb')
    (first | (go_at_call 73; refine (hcall _).mono ?_; rintro e w' ⟨rfl, hb'⟩))
  all_goals
    obtain ⟨E1, -, -, q2, -, -, q5⟩ := ‹Ext w _ ∧ _ ∧ _ ∧ _ ∧ _ ∧ _ ∧ _›
    clear c0 c1 c2 c3 c4 c5 hE hcall w1 w2 w3 w4 w5 hs hsp hd ht hb
    rw [HA.out]
    clear HA
    obtain ⟨hw0, hw1⟩ := hwn
    obtain ⟨hp0, hp1⟩ := hp
    have f0 : -11000000000 ≤ A / l.period := Int.le_ediv_of_mul_le (by omega) (by omega)
    have f1 : A / l.period ≤ 12000000000 := by
      have := Int.ediv_lt_of_lt_mul (a := A) (b := 12000000001) (c := l.period) (by omega) (by omega)
      omega
    obtain ⟨hl0, hl1⟩ := hl
    have hne : (l.period == 0) = false := by simp; omega
    have e1 := HE.out
    have hm := HM.out
    have hf := HF.out
    have hLo := HLo.out
    have hBy := HBy.out
    clear HE HM HF HLo HBy
    by_cases hneg : A.tmod l.period < 0
    · rw [if_pos hneg] at hf
      generalize hQ : A / l.period = Q at *
      generalize hR : A % l.period = R at *
      obtain rfl : Q = A.tdiv l.period - 1 := hf.symm
      have g1 : (A.tdiv l.period - 1) * l.period = A.tdiv l.period * l.period - l.period := by rw [Int.sub_mul]; omega
      have g2 : l.period * (A.tdiv l.period - 1) = A.tdiv l.period * l.period - l.period := by rw [Int.mul_sub, Int.mul_comm]; omega
      have g3 : l.period * A.tdiv l.period = A.tdiv l.period * l.period := Int.mul_comm _ _
      have b1 : (A.tdiv l.period - 1) * l.period ≤ A - R := by omega
      have b2 : A - R ≤ (A.tdiv l.period - 1) * l.period := by omega
      have b3 : 0 ≤ R ∧ R ≤ l.period := by omega
      obtain ⟨b3, b4⟩ := b3
      clear g1 g2 g3 hf hm hQ hR e1
      by_cases hlost : 2 * l.window < R
      · have hk : 2 * l.window < A - (A.tdiv l.period - 1) * l.period := by omega
        have hd1 : lostL l t = true := by rw [hLo]; exact decide_eq_true hlost
        have HD := Lib.hid hd1
        have HBY := Lib.hid hBy
        clear hLo hBy hd1
        go_wp2
        go_ret2
        exact HVH.out _ _ (by rw [if_pos HD.out]) _ E1
      · have hk : ¬ 2 * l.window < A - (A.tdiv l.period - 1) * l.period := by omega
        have hd1 : lostL l t = false := by rw [hLo]; exact decide_eq_false hlost
        have HD := Lib.hid hd1
        have HBY := Lib.hid hBy
        clear hLo hBy hd1
        go_wp2
        go_ret2
        exact HVH.out _ _ (by rw [HD.out, HBY.out]; rfl) _ E1
    · rw [if_neg hneg] at hf
      generalize hQ : A / l.period = Q at *
      generalize hR : A % l.period = R at *
      obtain rfl : Q = A.tdiv l.period := hf.symm
      have g3 : l.period * A.tdiv l.period = A.tdiv l.period * l.period := Int.mul_comm _ _
      have b1 : A.tdiv l.period * l.period ≤ A - R := by omega
      have b2 : A - R ≤ A.tdiv l.period * l.period := by omega
      have b3 : 0 ≤ R ∧ R ≤ l.period := by omega
      obtain ⟨b3, b4⟩ := b3
      clear g3 hf hm hQ hR e1
      by_cases hlost : 2 * l.window < R
      · have hk : 2 * l.window < A - A.tdiv l.period * l.period := by omega
        have hd1 : lostL l t = true := by rw [hLo]; exact decide_eq_true hlost
        have HD := Lib.hid hd1
        have HBY := Lib.hid hBy
        clear hLo hBy hd1
        go_wp2
        go_ret2
        exact HVH.out _ _ (by rw [if_pos HD.out]) _ E1
      · have hk : ¬ 2 * l.window < A - A.tdiv l.period * l.period := by omega
        have hd1 : lostL l t = false := by rw [hLo]; exact decide_eq_false hlost
        have HD := Lib.hid hd1
        have HBY := Lib.hid hBy
        clear hLo hBy hd1
        go_wp2
        go_ret2
        exact HVH.out _ _ (by rw [HD.out, HBY.out]; rfl) _ E1
end Go.Proofs.YtbcciokmlkofkaaGreat
/- Contracts of layer 1: safe, Shift, Next. -/
namespace Go.Proofs.YtbcciokmlkofkaaGreat
open Go.RowKit Go.Q
theorem tempB_bd {t : Int} (h : tempB t = true) : -500 ≤ t ∧ t ≤ 1000 := inB_bd h
theorem checkL_of {l : Ln} (h : okL l = true) : checkL l = 0 := by unfold checkL; rw [if_pos h]
theorem checkL_no {l : Ln} (h : okL l = false) : checkL l = 7 := by unfold checkL; rw [h]; rfl
set_option maxHeartbeats 1000000 in
theorem safe_any (l : Ln) (t : Int) (w : World) (h : OkL l) (ht : -100000 ≤ t ∧ t ≤ 100000) :
    Calls Tryz.prog 21 #[.agg #[.int .i64 l.words, .int .i64 l.bits, .int .i64 l.period, .int .i64 l.delay, .int .i64 l.slope, .int .i64 l.window], .int .i64 t] w fun e w' => e = .returned (.bool (safeL l t)) ∧ Ext w w' := by
  have hcall := fun W => shift_any l t W h ht
  cases hl : lostL l t with
  | true =>
    have e1 : shiftV l t = (0, true) := by unfold shiftV; rw [hl]; rfl
    have e2 : safeL l t = false := by unfold safeL; rw [hl]; simp
    rw [e1] at hcall
    rw [e2]
    clear e1 e2 hl
    dsimp only at hcall
    go_enter Tryz.func21, Tryz.ntmps21
    go_wp2_with fail
    refine (hcall _).mono ?_
    rintro e w1 ⟨rfl, E1⟩
    go_wp2
    go_ret
    exact ⟨rfl, E1.old⟩
  | false =>
    have e1 : shiftV l t = (byL l t, false) := by unfold shiftV; rw [hl]; rfl
    rw [e1] at hcall
    dsimp only at hcall
    cases hb : (byL l t == 0) with
    | false =>
      have e2 : safeL l t = false := by unfold safeL; rw [hb]; rfl
      rw [e2]
      clear e1 e2 hl
      go_enter Tryz.func21, Tryz.ntmps21
      go_wp2_with fail
      refine (hcall _).mono ?_
      rintro e w1 ⟨rfl, E1⟩
      go_wp2
      go_ret
      exact ⟨rfl, E1.old⟩
    | true =>
      have e2 : safeL l t = tempB t := by unfold safeL; rw [hl, hb]; rfl
      have e3 : byL l t = 0 := by simpa using hb
      rw [e3] at hcall
      rw [e2]
      clear e1 e2 e3 hl hb
      go_enter Tryz.func21, Tryz.ntmps21
      go_wp2_with fail
      refine (hcall _).mono ?_
      rintro e w1 ⟨rfl, E1⟩
      go_wp2_with fail
      refine (strange_anyL _ _).mono ?_
      rintro e w2 ⟨rfl, rfl⟩
      go_wp2
      go_ret
      exact ⟨ret_bool (by cases tempB t <;> rfl), E1.old⟩
set_option maxHeartbeats 1000000 in
theorem Shift_any (l : Ln) (t : Int) (w : World) :
    Calls Tryz.prog 22 #[.agg #[.int .i64 l.words, .int .i64 l.bits, .int .i64 l.period, .int .i64 l.delay, .int .i64 l.slope, .int .i64 l.window], .int .i64 t] w fun e w' => e = .returned (.tuple #[.int .i64 (shiftE l t).1, .bool (shiftE l t).2.1, .int .i64 (shiftE l t).2.2]) ∧ Ext w w' := by
  have hck := fun W => check_anyL l W
  cases ho : okL l with
  | false =>
    have e1 : shiftE l t = (0, false, 7) := by unfold shiftE; rw [if_neg (by rw [ho]; simp)]
    rw [e1]
    rw [checkL_no ho] at hck
    clear e1 ho
    dsimp only
    go_enter Tryz.func22, Tryz.ntmps22
    go_wp2_with fail
    refine (hck _).mono ?_
    rintro e w1 ⟨rfl, E1⟩
    go_wp2
    go_ret3
    exact ⟨rfl, E1.old⟩
  | true =>
    rw [checkL_of ho] at hck
    have hok := okL_ok ho
    cases ht : tempB t with
    | false =>
      have e1 : shiftE l t = (0, false, 7) := by unfold shiftE; rw [if_neg (by rw [ht]; simp)]
      have hst := fun W => strange_anyL t W
      rw [ht] at hst
      rw [e1]
      clear e1 ho ht
      dsimp only
      go_enter Tryz.func22, Tryz.ntmps22
      go_wp2_with fail
      refine (hck _).mono ?_
      rintro e w1 ⟨rfl, E1⟩
      go_wp2_with fail
      refine (hst _).mono ?_
      rintro e w2 ⟨rfl, rfl⟩
      go_wp2
      go_ret3
      exact ⟨rfl, E1.old⟩
    | true =>
      have hst := fun W => strange_anyL t W
      rw [ht] at hst
      have hb := tempB_bd ht
      have hsh := fun W => shift_any l t W hok (by omega)
      have e1 : shiftE l t = ((shiftV l t).1, (shiftV l t).2, 0) := by unfold shiftE; rw [if_pos ⟨ho, ht⟩]
      rw [e1]
      clear e1 ho ht hb
      dsimp only
      generalize (shiftV l t).1 = s at *
      generalize (shiftV l t).2 = b at *
      go_enter Tryz.func22, Tryz.ntmps22
      go_wp2_with fail
      refine (hck _).mono ?_
      rintro e w1 ⟨rfl, E1⟩
      have c0 := box_at (v := .int .i64 l.words) E1 0 rfl
      have c1 := box_at (v := .int .i64 l.bits) E1 1 rfl
      have c2 := box_at (v := .int .i64 l.period) E1 2 rfl
      have c3 := box_at (v := .int .i64 l.delay) E1 3 rfl
      have c4 := box_at (v := .int .i64 l.slope) E1 4 rfl
      have c5 := box_at (v := .int .i64 l.window) E1 5 rfl
      go_wp2_with fail
      refine (hst _).mono ?_
      rintro e w2 ⟨rfl, rfl⟩
      go_wp2_with fail
      refine (hsh _).mono ?_
      rintro e w3 ⟨rfl, E3⟩
      go_wp2
      go_ret3
      exact ⟨rfl, E1.old.comp E3⟩
theorem nextE_of {l : Ln} {a b : Int} (h1 : okL l = true) (h2 : inB a 0 (l.words - 1) = true) (h3 : inB b 0 1000000000 = true) : nextE l a b = (b + 1 + turnL l (a * l.bits - b - 1), 0) := by unfold nextE; rw [if_pos ⟨h1, h2, h3⟩]
set_option maxHeartbeats 1000000 in
theorem Next_any (l : Ln) (a b : Int) (w : World) :
    Calls Tryz.prog 26 #[.agg #[.int .i64 l.words, .int .i64 l.bits, .int .i64 l.period, .int .i64 l.delay, .int .i64 l.slope, .int .i64 l.window], .int .i64 a, .int .i64 b] w fun e w' => e = .returned (.tuple #[.int .i64 (nextE l a b).1, .int .i64 (nextE l a b).2]) ∧ Ext w w' := by
  have hck := fun W => check_anyL l W
  cases ho : okL l with
  | false =>
    have e1 : nextE l a b = (0, 7) := by unfold nextE; rw [if_neg (by rw [ho]; simp)]
    rw [e1]
    rw [checkL_no ho] at hck
    clear e1 ho
    dsimp only
    go_enter Tryz.func26, Tryz.ntmps26
    go_wp2_with fail
    refine (hck _).mono ?_
    rintro e w1 ⟨rfl, E1⟩
    go_wp2
    go_ret2
    exact ⟨rfl, E1.old⟩
  | true =>
    rw [checkL_of ho] at hck
    have hok := okL_ok ho
    have hwb := hok.words
    have hbb := hok.bits
    cases h1 : inB a 0 (l.words - 1) with
    | false =>
      have e1 : nextE l a b = (0, 7) := by unfold nextE; rw [if_neg (by rw [h1]; simp)]
      have ho1 := fun W => lout_any a 0 (l.words - 1) W
      rw [h1] at ho1
      rw [e1]
      clear e1 ho h1
      dsimp only
      go_enter Tryz.func26, Tryz.ntmps26
      go_wp2_with fail
      refine (hck _).mono ?_
      rintro e w1 ⟨rfl, E1⟩
      have c0 := box_at (v := .int .i64 l.words) E1 0 rfl
      have c1 := box_at (v := .int .i64 l.bits) E1 1 rfl
      have c2 := box_at (v := .int .i64 l.period) E1 2 rfl
      have c3 := box_at (v := .int .i64 l.delay) E1 3 rfl
      have c4 := box_at (v := .int .i64 l.slope) E1 4 rfl
      have c5 := box_at (v := .int .i64 l.window) E1 5 rfl
      go_wp2_with fail
      refine (ho1 _).mono ?_
      rintro e w2 ⟨rfl, rfl⟩
      go_wp2
      go_ret2
      exact ⟨rfl, E1.old⟩
    | true =>
      have ho1 := fun W => lout_any a 0 (l.words - 1) W
      rw [h1] at ho1
      cases h2 : inB b 0 1000000000 with
      | false =>
        have e1 : nextE l a b = (0, 7) := by unfold nextE; rw [if_neg (by rw [h2]; simp)]
        have ho2 := fun W => lout_any b 0 1000000000 W
        rw [h2] at ho2
        rw [e1]
        clear e1 ho h1 h2
        dsimp only
        go_enter Tryz.func26, Tryz.ntmps26
        go_wp2_with fail
        refine (hck _).mono ?_
        rintro e w1 ⟨rfl, E1⟩
        have c0 := box_at (v := .int .i64 l.words) E1 0 rfl
        have c1 := box_at (v := .int .i64 l.bits) E1 1 rfl
        have c2 := box_at (v := .int .i64 l.period) E1 2 rfl
        have c3 := box_at (v := .int .i64 l.delay) E1 3 rfl
        have c4 := box_at (v := .int .i64 l.slope) E1 4 rfl
        have c5 := box_at (v := .int .i64 l.window) E1 5 rfl
        go_wp2_with fail
        refine (ho1 _).mono ?_
        rintro e w2 ⟨rfl, rfl⟩
        go_wp2_with fail
        refine (ho2 _).mono ?_
        rintro e w3 ⟨rfl, rfl⟩
        go_wp2
        go_ret2
        exact ⟨rfl, E1.old⟩
      | true =>
        have ho2 := fun W => lout_any b 0 1000000000 W
        rw [h2] at ho2
        rw [nextE_of ho h1 h2]
        have ha := inB_bd h1
        have hb := inB_bd h2
        have hm := mul_bd (a := a) (b := l.bits) ha.1 (show a ≤ 63 by omega) (by omega) hbb.2
        have htn := fun W => turn_any l (a * l.bits - b - 1) W hok (by omega)
        have htb := hok.turn (a * l.bits - b - 1)
        have hbe := hok.beats
        obtain ⟨hm0, hm1⟩ := hm
        obtain ⟨hb0, hb1⟩ := hb
        obtain ⟨hwb0, hwb1⟩ := hwb
        have w1 : IntKind.i64.wrap (a * l.bits) = a * l.bits := IntWalk.i64_in _ (by omega)
        have w2 : IntKind.i64.wrap (a * l.bits - b) = a * l.bits - b := IntWalk.i64_in _ (by omega)
        have w3 : IntKind.i64.wrap (a * l.bits - b - 1) = a * l.bits - b - 1 := IntWalk.i64_in _ (by omega)
        have w4 : IntKind.i64.wrap (b + 1) = b + 1 := IntWalk.i64_in _ (by omega)
        have w5 : IntKind.i64.wrap (b + 1 + turnL l (a * l.bits - b - 1)) = b + 1 + turnL l (a * l.bits - b - 1) := IntWalk.i64_in _ (by omega)
        clear ho h1 h2 ha hbb hok htb hbe
        dsimp only
        generalize turnL l (a * l.bits - b - 1) = r at *
        go_enter Tryz.func26, Tryz.ntmps26
        go_wp2_with fail
        refine (hck _).mono ?_
        rintro e w1 ⟨rfl, E1⟩
        have c0 := box_at (v := .int .i64 l.words) E1 0 rfl
        have c1 := box_at (v := .int .i64 l.bits) E1 1 rfl
        have c2 := box_at (v := .int .i64 l.period) E1 2 rfl
        have c3 := box_at (v := .int .i64 l.delay) E1 3 rfl
        have c4 := box_at (v := .int .i64 l.slope) E1 4 rfl
        have c5 := box_at (v := .int .i64 l.window) E1 5 rfl
        go_wp2_with fail
        refine (ho1 _).mono ?_
        rintro e w2 ⟨rfl, rfl⟩
        go_wp2_with fail
        refine (ho2 _).mono ?_
        rintro e w3 ⟨rfl, rfl⟩
        clear hck ho1 ho2
        have d0 := fun ob => box_at (v := .int .i64 l.words) (Ext.alloc E1 ob) 0 rfl
        have d1 := fun ob => box_at (v := .int .i64 l.bits) (Ext.alloc E1 ob) 1 rfl
        have d2 := fun ob => box_at (v := .int .i64 l.period) (Ext.alloc E1 ob) 2 rfl
        have d3 := fun ob => box_at (v := .int .i64 l.delay) (Ext.alloc E1 ob) 3 rfl
        have d4 := fun ob => box_at (v := .int .i64 l.slope) (Ext.alloc E1 ob) 4 rfl
        have d5 := fun ob => box_at (v := .int .i64 l.window) (Ext.alloc E1 ob) 5 rfl
        go_wp2_with fail
        refine (htn _).mono ?_
        rintro e w4 ⟨rfl, E4⟩
        go_wp2
        go_ret2
        exact ⟨rfl, E1.old.comp E4.old⟩
end Go.Proofs.YtbcciokmlkofkaaGreat

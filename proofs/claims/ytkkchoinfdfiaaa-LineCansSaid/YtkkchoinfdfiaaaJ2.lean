/- The laws LineShifts, LineBeats: their walks. -/
import Derived.Test.YtkkchoinfdfiaaaI3
import Derived.Test.YtkkchoinfdfiaaaJ1
set_option linter.unusedVariables false
set_option linter.unusedSimpArgs false
namespace Go.Q
theorem emod_back {a b c : Int} (hb : 0 < b) (h0 : 0 ≤ c) (h1 : c < b) (h : ∃ q, a = c + b * q) : a % b = c := by
  obtain ⟨q, rfl⟩ := h
  rw [Int.add_mul_emod_self_left, Int.emod_eq_of_lt h0 h1]
theorem OkL.place {l : Ln} (h : OkL l) {a : Int} (ha : 0 ≤ a ∧ a ≤ l.words - 1) : 0 ≤ a * l.bits ∧ a * l.bits + l.bits ≤ beatsL l := by
  have hb := h.bits
  have h1 := mul_bd (a := a) (b := l.bits) ha.1 ha.2 (by omega) (Int.le_refl _)
  have h2 : (l.words - 1) * l.bits = l.words * l.bits - l.bits := by rw [Int.sub_mul]; omega
  unfold beatsL
  omega
/-- the beat in which a word comes next -/
theorem next_at {l : Ln} (h : OkL l) {a b : Int} (ha : 0 ≤ a ∧ a ≤ l.words - 1) : b < b + 1 + turnL l (a * l.bits - b - 1) ∧ b + 1 + turnL l (a * l.bits - b - 1) ≤ b + beatsL l ∧ ∃ q, b + 1 + turnL l (a * l.bits - b - 1) = a * l.bits + beatsL l * q := by
  have ht := h.turn (a * l.bits - b - 1)
  refine ⟨by omega, by omega, -((a * l.bits - b - 1) / beatsL l), ?_⟩
  have e := Int.emod_add_mul_ediv (a * l.bits - b - 1) (beatsL l)
  unfold turnL
  rw [Int.mul_neg]
  omega
theorem next_word {l : Ln} (h : OkL l) {a n q : Int} (ha : 0 ≤ a ∧ a ≤ l.words - 1) (hn : n = a * l.bits + beatsL l * q) : turnL l ((a + 1) % l.words * l.bits - n - 1) = l.bits - 1 := by
  have hb := h.bits
  have hB := h.beats
  have hp := h.place ha
  unfold turnL
  refine emod_back (by omega) (by omega) (by omega) ?_
  have hw := h.words
  by_cases e : a + 1 = l.words
  · rw [e, Int.emod_self]
    refine ⟨-q - 1, ?_⟩
    have e1 : a * l.bits = beatsL l - l.bits := by unfold beatsL; rw [← e, Int.add_mul]; omega
    rw [hn, e1, Int.mul_sub, Int.mul_neg]
    omega
  · rw [Int.emod_eq_of_lt (by omega) (by omega)]
    refine ⟨-q, ?_⟩
    rw [hn, Int.add_mul, Int.mul_neg]
    omega
theorem next_same {l : Ln} (h : OkL l) {a n q : Int} (hn : n = a * l.bits + beatsL l * q) : turnL l (a * l.bits - n - 1) = beatsL l - 1 := by
  have hB := h.beats
  unfold turnL
  refine emod_back (by omega) (by omega) (by omega) ⟨-q - 1, ?_⟩
  rw [hn, Int.mul_sub, Int.mul_neg]
  omega
end Go.Q
namespace Go.Proofs.Ytkkchoinfdfiaaa
open Go.RowKit Go.Q Go.Shelf

set_option maxHeartbeats 2000000 in
theorem beats_law (l : Ln) (a b : Int) (w : World) : Calls Try.prog 11 #[.agg #[.int .i64 l.words, .int .i64 l.bits, .int .i64 l.period, .int .i64 l.delay, .int .i64 l.slope, .int .i64 l.window], .int .i64 a, .int .i64 b] w fun e w' => e = .returned (.bool true) ∧ Ext w w' := by
  have h1 := fun W => Next_any l a b W
  by_cases hc : okL l = true ∧ inB a 0 (l.words - 1) = true ∧ inB b 0 1000000000 = true
  · obtain ⟨ho, ha, hb⟩ := hc
    have hok := okL_ok ho
    have hab := inB_bd ha
    have hbb := inB_bd hb
    have hpl := hok.place hab
    have hB := hok.beats
    have hbt := hok.bits
    have hwd := hok.words
    obtain ⟨n1, n2, q, nq⟩ := next_at hok (b := b) hab
    rw [nextE_of ho ha hb] at h1
    obtain ⟨n, hn⟩ : ∃ n, b + 1 + turnL l (a * l.bits - b - 1) = n := ⟨_, rfl⟩
    rw [hn] at h1 n1 n2 nq
    have hmod : n % (l.words * l.bits) = a * l.bits := emod_back (by unfold beatsL at hB; omega) (by omega) (by unfold beatsL at *; omega) ⟨q, nq⟩
    have hmb : (n % (l.words * l.bits) != a * l.bits) = false := by rw [hmod]; simp
    have h2 := fun W => Next_any l ((a + 1) % l.words) n W
    have h3 := fun W => Next_any l a n W
    have hw1 : inB ((a + 1) % l.words) 0 (l.words - 1) = true := by
      have e1 := Int.emod_nonneg (a + 1) (show l.words ≠ 0 by omega)
      have e2 := Int.emod_lt_of_pos (a + 1) (show 0 < l.words by omega)
      unfold inB
      simp
      omega
    by_cases hbig : n ≤ 1000000000
    · have hnb : inB n 0 1000000000 = true := by unfold inB; simp; omega
      rw [nextE_of ho hw1 hnb, next_word hok hab nq] at h2
      rw [nextE_of ho ha hnb, next_same hok nq] at h3
      dsimp only at h1 h2 h3
      have hm0 := Int.emod_nonneg (a + 1) (show l.words ≠ 0 by omega)
      clear hw1 hnb hmod hn nq ho ha hb hok
      unfold beatsL at *
      obtain ⟨B, hBe⟩ : ∃ B, l.words * l.bits = B := ⟨_, rfl⟩
      obtain ⟨p, hpe⟩ : ∃ p, a * l.bits = p := ⟨_, rfl⟩
      rw [hBe] at hB n2 hpl hmb h3
      rw [hpe] at hpl hmb
      have e2 : n + 1 + (l.bits - 1) = n + l.bits := by omega
      have e3 : n + 1 + (B - 1) = n + B := by omega
      rw [e2] at h2
      rw [e3] at h3
      obtain ⟨hab0, hab1⟩ := hab
      obtain ⟨hbb0, hbb1⟩ := hbb
      obtain ⟨hB0, hB1⟩ := hB
      obtain ⟨hpl0, hpl1⟩ := hpl
      obtain ⟨hbt0, hbt1⟩ := hbt
      obtain ⟨hwd0, hwd1⟩ := hwd
      have w1 : IntKind.i64.wrap (n + l.bits - n) = l.bits := by rw [show n + l.bits - n = l.bits by omega]; exact IntWalk.i64_in _ (by omega)
      have w2 : IntKind.i64.wrap (n + B - n) = B := by rw [show n + B - n = B by omega]; exact IntWalk.i64_in _ (by omega)
      have d1 : decide (n ≤ b) = false := decide_eq_false (by omega)
      have w3 : IntKind.i64.wrap (n - b) = n - b := IntWalk.i64_in _ (by omega)
      have d2 : decide (B < n - b) = false := decide_eq_false (by omega)
      have w4 : IntKind.i64.wrap p = p := IntWalk.i64_in _ (by omega)
      have htm : n.tmod B = p := by rw [Int.tmod_eq_emod_of_nonneg (by omega)]; simpa using hmb
      have hem : n % B = p := by simpa using hmb
      have w5 : IntKind.i64.wrap (a + 1) = a + 1 := IntWalk.i64_in _ (by omega)
      have hat : (a + 1).tmod l.words = (a + 1) % l.words := Int.tmod_eq_emod_of_nonneg (by omega)
      have hwne : (l.words == 0) = false := by simp; omega
      have hwne2 : ¬ l.words = 0 := by omega
      have hmx := Int.emod_lt_of_pos (a + 1) (show 0 < l.words by omega)
      have w6 : IntKind.i64.wrap ((a + 1) % l.words) = (a + 1) % l.words := IntWalk.i64_in _ (by omega)
      have hBne : (B == 0) = false := by simp; omega
      have d3 : decide (1000000000 < n) = false := decide_eq_false (by omega)
      clear e2 e3 hmb
      go_enter Try.func11, Try.ntmps11
      go_wp2_with fail
      refine (h1 _).mono ?_
      rintro e w1 ⟨rfl, E1⟩
      have c0 := box_at (v := .int .i64 l.words) E1 0 rfl
      have c1 := box_at (v := .int .i64 l.bits) E1 1 rfl
      have c2 := box_at (v := .int .i64 l.period) E1 2 rfl
      have c3 := box_at (v := .int .i64 l.delay) E1 3 rfl
      have c4 := box_at (v := .int .i64 l.slope) E1 4 rfl
      have c5 := box_at (v := .int .i64 l.window) E1 5 rfl
      have E1o := E1.old
      go_wp2_with fail
      go_quiet (fail)
      go_wp2_with fail
      clear d1 d2 d3 w3 w4 htm hem
      have hE := below_drewN E1o nq
      go_region_held3 (fun w' => Ext w w' ∧ w'.cell? ⟨w.heap.size, 0, none⟩ = some (.int .i64 l.words) ∧ w'.cell? ⟨w.heap.size, 1, none⟩ = some (.int .i64 l.bits) ∧ w'.cell? ⟨w.heap.size, 2, none⟩ = some (.int .i64 l.period) ∧ w'.cell? ⟨w.heap.size, 3, none⟩ = some (.int .i64 l.delay) ∧ w'.cell? ⟨w.heap.size, 4, none⟩ = some (.int .i64 l.slope) ∧ w'.cell? ⟨w.heap.size, 5, none⟩ = some (.int .i64 l.window))
        (first | exact ⟨hE.drew, c0, c1, c2, c3, c4, c5⟩ | exact six_later hHeld hb' | exact six_later (by assumption) hb')
        (first | (go_at_call 28; refine (h2 _).mono ?_; rintro e w' ⟨rfl, hb'⟩))
      all_goals
        obtain ⟨E3, f0, f1, f2, f3, f4, f5⟩ := ‹Ext w _ ∧ _ ∧ _ ∧ _ ∧ _ ∧ _ ∧ _›
        clear c0 c1 c2 c3 c4 c5 hE E1 E1o h1 h2 hat w5
        go_wp2_with fail
        refine (h3 _).mono ?_
        rintro e w6 ⟨rfl, E6⟩
        have g1 := cell_laterA f1 E6
        go_wp2_with fail
        refine (awake_any _).mono ?_
        rintro e w7 ⟨rfl, E7⟩
        go_wp2
        go_ret
        exact ⟨rfl, (E3.comp E6).comp E7⟩
    · have d3 : decide (1000000000 < n) = true := decide_eq_true (by omega)
      dsimp only at h1
      clear hw1 hn nq ho ha hb hok h2 h3
      unfold beatsL at *
      obtain ⟨B, hBe⟩ : ∃ B, l.words * l.bits = B := ⟨_, rfl⟩
      obtain ⟨p, hpe⟩ : ∃ p, a * l.bits = p := ⟨_, rfl⟩
      rw [hBe] at hB n2 hpl hmb hmod
      rw [hpe] at hpl hmb hmod
      obtain ⟨hab0, hab1⟩ := hab
      obtain ⟨hbb0, hbb1⟩ := hbb
      obtain ⟨hB0, hB1⟩ := hB
      obtain ⟨hpl0, hpl1⟩ := hpl
      obtain ⟨hbt0, hbt1⟩ := hbt
      have d1 : decide (n ≤ b) = false := decide_eq_false (by omega)
      have w3 : IntKind.i64.wrap (n - b) = n - b := IntWalk.i64_in _ (by omega)
      have d2 : decide (B < n - b) = false := decide_eq_false (by omega)
      have w4 : IntKind.i64.wrap p = p := IntWalk.i64_in _ (by omega)
      have htm : n.tmod B = p := by rw [Int.tmod_eq_emod_of_nonneg (by omega)]; exact hmod
      have hBne : (B == 0) = false := by simp; omega
      clear hmb
      go_enter Try.func11, Try.ntmps11
      go_wp2_with fail
      refine (h1 _).mono ?_
      rintro e w1 ⟨rfl, E1⟩
      have c0 := box_at (v := .int .i64 l.words) E1 0 rfl
      have c1 := box_at (v := .int .i64 l.bits) E1 1 rfl
      have c2 := box_at (v := .int .i64 l.period) E1 2 rfl
      have c3 := box_at (v := .int .i64 l.delay) E1 3 rfl
      have c4 := box_at (v := .int .i64 l.slope) E1 4 rfl
      have c5 := box_at (v := .int .i64 l.window) E1 5 rfl
      have E1o := E1.old
      go_wp2_with fail
      go_quiet (fail)
      go_wp2_with fail
      refine (awake_any _).mono ?_
      rintro e w7 ⟨rfl, E7⟩
      go_wp2
      go_ret
      exact ⟨rfl, Ext.comp (below_drewN E1o _) E7⟩
  · have e1 : nextE l a b = (0, 7) := by unfold nextE; rw [if_neg hc]
    rw [e1] at h1
    clear hc e1
    go_enter Try.func11, Try.ntmps11
    go_wp2_with fail
    refine (h1 _).mono ?_
    rintro e w1 ⟨rfl, E1⟩
    have E1o := E1.old
    go_wp2_with fail
    refine (awake_any _).mono ?_
    rintro e w7 ⟨rfl, E7⟩
    go_wp2
    go_ret
    exact ⟨rfl, E1o.comp E7⟩
set_option maxHeartbeats 2000000 in
theorem shifts_law (l : Ln) (t : Int) (w : World) : Calls Try.prog 12 #[.agg #[.int .i64 l.words, .int .i64 l.bits, .int .i64 l.period, .int .i64 l.delay, .int .i64 l.slope, .int .i64 l.window], .int .i64 t] w fun e w' => e = .returned (.bool true) ∧ Ext w w' := by
  have h1 := fun W => Shift_any l t W
  have h2 := fun W => rShift_any l t W
  have h3 := fun W => check_any l W
  have h4 := fun W => rcheck_any l W
  have h5 := fun W => Safe_any l W
  have h6 := fun W => rSafe_any l W
  generalize (shiftE l t).1 = x at *
  generalize (shiftE l t).2.1 = y at *
  generalize (shiftE l t).2.2 = z at *
  generalize checkL l = u at *
  generalize (safeE l).1.lo = s at *
  generalize (safeE l).1.hi = r at *
  generalize (safeE l).2 = q at *
  go_enter Try.func12, Try.ntmps12
  go_wp2_with fail
  refine (h1 _).mono ?_
  rintro e w1 ⟨rfl, E1⟩
  have E1o := E1.old
  have c0 := box_at (v := .int .i64 l.words) E1 0 rfl
  have c1 := box_at (v := .int .i64 l.bits) E1 1 rfl
  have c2 := box_at (v := .int .i64 l.period) E1 2 rfl
  have c3 := box_at (v := .int .i64 l.delay) E1 3 rfl
  have c4 := box_at (v := .int .i64 l.slope) E1 4 rfl
  have c5 := box_at (v := .int .i64 l.window) E1 5 rfl
  go_wp2_with fail
  refine (h2 _).mono ?_
  rintro e w2 ⟨rfl, E2⟩
  have E12 := E1.comp E2
  clear c0 c1 c2 c3 c4 c5
  have c0 := box_at (v := .int .i64 l.words) E12 0 rfl
  have c1 := box_at (v := .int .i64 l.bits) E12 1 rfl
  have c2 := box_at (v := .int .i64 l.period) E12 2 rfl
  have c3 := box_at (v := .int .i64 l.delay) E12 3 rfl
  have c4 := box_at (v := .int .i64 l.slope) E12 4 rfl
  have c5 := box_at (v := .int .i64 l.window) E12 5 rfl
  go_wp2_with fail
  have hE := E1o.comp E2
  clear E1 E12 E1o E2
  go_region_held3 (fun w' => Ext w w' ∧ w'.cell? ⟨w.heap.size, 0, none⟩ = some (.int .i64 l.words) ∧ w'.cell? ⟨w.heap.size, 1, none⟩ = some (.int .i64 l.bits) ∧ w'.cell? ⟨w.heap.size, 2, none⟩ = some (.int .i64 l.period) ∧ w'.cell? ⟨w.heap.size, 3, none⟩ = some (.int .i64 l.delay) ∧ w'.cell? ⟨w.heap.size, 4, none⟩ = some (.int .i64 l.slope) ∧ w'.cell? ⟨w.heap.size, 5, none⟩ = some (.int .i64 l.window))
    (first | exact ⟨hE.drew, c0, c1, c2, c3, c4, c5⟩ | exact six_later hHeld hb' | exact six_later (by assumption) hb')
    (first | (go_at_call 38; refine (h3 _).mono ?_; rintro e w' ⟨rfl, hb'⟩) | (go_at_call 39; refine (h4 _).mono ?_; rintro e w' ⟨rfl, hb'⟩))
  all_goals
    obtain ⟨E3, d0, d1, d2, d3, d4, d5⟩ := ‹Ext w _ ∧ _ ∧ _ ∧ _ ∧ _ ∧ _ ∧ _›
    clear c0 c1 c2 c3 c4 c5 hE h1 h2 h3 h4
    go_wp2_with fail
    refine (h5 _).mono ?_
    rintro e w6 ⟨rfl, E6⟩
    clear h5
    have hlt : w.heap.size < w6.heap.size := World.block_lt_of_cell? _ _ (cell_laterA d0 E6)
    have q0 := fun ob => (((Ext.refl w6).alloc ob).cell (p := ⟨w.heap.size, 0, none⟩) hlt).trans (cell_laterA d0 E6)
    have q1 := fun ob => (((Ext.refl w6).alloc ob).cell (p := ⟨w.heap.size, 1, none⟩) hlt).trans (cell_laterA d1 E6)
    have q2 := fun ob => (((Ext.refl w6).alloc ob).cell (p := ⟨w.heap.size, 2, none⟩) hlt).trans (cell_laterA d2 E6)
    have q3 := fun ob => (((Ext.refl w6).alloc ob).cell (p := ⟨w.heap.size, 3, none⟩) hlt).trans (cell_laterA d3 E6)
    have q4 := fun ob => (((Ext.refl w6).alloc ob).cell (p := ⟨w.heap.size, 4, none⟩) hlt).trans (cell_laterA d4 E6)
    have q5 := fun ob => (((Ext.refl w6).alloc ob).cell (p := ⟨w.heap.size, 5, none⟩) hlt).trans (cell_laterA d5 E6)
    go_wp2_with fail
    refine (h6 _).mono ?_
    rintro e w8 ⟨rfl, E8⟩
    have y0 := fun ob => box_at (v := .int .i64 s) (Ext.alloc E8 ob) 0 rfl
    have y1 := fun ob => box_at (v := .int .i64 r) (Ext.alloc E8 ob) 1 rfl
    go_wp2_with fail
    refine (awake_any _).mono ?_
    rintro e w9 ⟨rfl, E9⟩
    go_wp2
    go_ret
    exact ⟨rfl, (E3.comp E6).comp (E8.old.comp E9.old)⟩
end Go.Proofs.Ytkkchoinfdfiaaa

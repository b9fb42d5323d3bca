/- The law LineKnown: its calls, and its walk. -/
import Derived.Test.YtkkchoinfdfiaaaN7
import Derived.Test.YtkkchoinfdfiaaaJ9
set_option linter.unusedVariables false
set_option linter.unusedSimpArgs false
namespace Go.Proofs.Ytkkchoinfdfiaaa
open Go.RowKit Go.Q Go.Shelf Go.Maps

theorem kn_shift3 (W : World) : Calls Try.prog 30 #[.agg #[.int .i64 4, .int .i64 8, .int .i64 10, .int .i64 320, .int .i64 1, .int .i64 3], .int .i64 3] W fun e w' => e = .returned (.tuple #[.int .i64 0, .bool false, .int .i64 0]) ∧ Ext W w' := by
  have h := Shift_any exL 3 W
  rw [ex_shift3] at h
  exact h
theorem kn_shift5 (W : World) : Calls Try.prog 30 #[.agg #[.int .i64 4, .int .i64 8, .int .i64 10, .int .i64 320, .int .i64 1, .int .i64 3], .int .i64 5] W fun e w' => e = .returned (.tuple #[.int .i64 0, .bool true, .int .i64 0]) ∧ Ext W w' := by
  have h := Shift_any exL 5 W
  rw [ex_shift5] at h
  exact h
theorem kn_safe (W : World) : Calls Try.prog 40 #[.agg #[.int .i64 4, .int .i64 8, .int .i64 10, .int .i64 320, .int .i64 1, .int .i64 3]] W fun e w' => e = .returned (.tuple #[.agg #[.int .i64 (-3), .int .i64 3], .int .i64 0]) ∧ Ext W w' := by
  have h := Safe_any exL W
  rw [ex_safe] at h
  exact h
theorem kn_pass (W : World) (a1 a2 : Option Addr) (c1 c2 : Nat) (i1 : IntsAt W a1 [1, 128, 0, 255]) (i2 : IntsAt W a2 [8, -8]) : Calls Try.prog 23 #[.agg #[.int .i64 4, .int .i64 8, .int .i64 10, .int .i64 320, .int .i64 1, .int .i64 3], .slice a1 4 c1, .slice a2 2 c2] W fun e w' => ∃ a c, e = .returned (.tuple #[.slice a 4 c, .int .i64 (-1), .int .i64 0]) ∧ IntsAt w' a [1, 128, 0, 255] ∧ Ext W w' := by
  have h := Pass_any exL a1 a2 4 2 c1 c2 _ _ W rfl rfl (by decide) (by decide) i1 i2
  rw [ex_pass] at h
  exact h
theorem kn_pass2 (W : World) (a1 a2 : Option Addr) (c1 c2 : Nat) (i1 : IntsAt W a1 [1, 128, 0, 255]) (i2 : IntsAt W a2 [2, 5, 8]) : Calls Try.prog 23 #[.agg #[.int .i64 4, .int .i64 8, .int .i64 10, .int .i64 320, .int .i64 1, .int .i64 3], .slice a1 4 c1, .slice a2 3 c2] W fun e w' => ∃ a c, e = .returned (.tuple #[.slice a 4 c, .int .i64 1, .int .i64 0]) ∧ IntsAt w' a [0, 0, 0, 0] ∧ Ext W w' := by
  have h := Pass_any exL a1 a2 4 3 c1 c2 _ _ W rfl rfl (by decide) (by decide) i1 i2
  rw [ex_pass2] at h
  exact h
theorem kn_can (W : World) (a : Option Addr) (c : Nat) (i : SpansAt W a [⟨0, 3⟩, ⟨7, 8⟩]) : Calls Try.prog 26 #[.agg #[.int .i64 4, .int .i64 8, .int .i64 10, .int .i64 320, .int .i64 1, .int .i64 3], .slice a 2 c] W fun e w' => ∃ a c, e = .returned (.tuple #[.agg #[.slice a 1 c, .bool false], .int .i64 0]) ∧ IntsAt w' a [1] ∧ Ext W w' := by
  have h := Can_any exL a 2 c _ W rfl (by decide) i
  rw [ex_can] at h
  exact h
theorem kn_next (W : World) : Calls Try.prog 28 #[.agg #[.int .i64 4, .int .i64 8, .int .i64 10, .int .i64 320, .int .i64 1, .int .i64 3], .int .i64 2, .int .i64 15] W fun e w' => e = .returned (.tuple #[.int .i64 16, .int .i64 0]) ∧ Ext W w' := by
  have h := Next_any exL 2 15 W
  rw [ex_next] at h
  exact h
theorem kn_oven (W : World) : Calls Try.prog 42 #[.agg #[.int .i64 20, .int .i64 30, .int .i64 2, .int .i64 4, .int .i64 1, .int .i64 3], .agg #[.int .i64 25, .int .i64 25], .bool false, .int .i64 200] W fun e w' => e = .returned (.tuple #[.agg #[.int .i64 17, .int .i64 34], .int .i64 0]) ∧ Ext W w' := by
  have h := Oven_any exO ⟨25, 25⟩ false 200 W
  rw [ex_oven] at h
  exact h
theorem kn_keepsA (W : World) : Calls Try.prog 44 #[.agg #[.int .i64 4, .int .i64 8, .int .i64 10, .int .i64 320, .int .i64 1, .int .i64 3], .agg #[.int .i64 (-2), .int .i64 0, .int .i64 1, .int .i64 1, .int .i64 1, .int .i64 1], .agg #[.int .i64 0, .int .i64 0], .bool false, .int .i64 200] W fun e w' => e = .returned (.tuple #[.int .i64 (-1), .int .i64 0]) ∧ Ext W w' := by
  have h := Keeps_any exL exA ⟨0, 0⟩ false 200 W
  rw [ex_keepsA] at h
  exact h
theorem kn_keepsB (W : World) : Calls Try.prog 44 #[.agg #[.int .i64 4, .int .i64 8, .int .i64 10, .int .i64 320, .int .i64 1, .int .i64 3], .agg #[.int .i64 (-2), .int .i64 0, .int .i64 1, .int .i64 1, .int .i64 2, .int .i64 2], .agg #[.int .i64 0, .int .i64 0], .bool false, .int .i64 200] W fun e w' => e = .returned (.tuple #[.int .i64 2, .int .i64 0]) ∧ Ext W w' := by
  have h := Keeps_any exL exB ⟨0, 0⟩ false 200 W
  rw [ex_keepsB] at h
  exact h
theorem ints4 {w : World} (a b c d : Int) : IntsAt (w.alloc (.cells #[.int .i64 a, .int .i64 b, .int .i64 c, .int .i64 d] 3)) (some ⟨w.heap.size, 0, none⟩) [a, b, c, d] :=
  .inr ⟨_, 0, rfl, by simp, fun i hi => by
    have hi4 : i < 4 := hi
    rw [Nat.zero_add]
    match i, hi4 with
    | 0, _ => exact box_at (Ext.refl _) 0 rfl
    | 1, _ => exact box_at (Ext.refl _) 1 rfl
    | 2, _ => exact box_at (Ext.refl _) 2 rfl
    | 3, _ => exact box_at (Ext.refl _) 3 rfl⟩
theorem four_later {w X W : World} {p1 p2 p3 p4 : Addr} {v1 v2 v3 v4 : Value} (h : Ext w X ∧ X.cell? p1 = some v1 ∧ X.cell? p2 = some v2 ∧ X.cell? p3 = some v3 ∧ X.cell? p4 = some v4) (E : Ext X W) : Ext w W ∧ W.cell? p1 = some v1 ∧ W.cell? p2 = some v2 ∧ W.cell? p3 = some v3 ∧ W.cell? p4 = some v4 :=
  ⟨h.1.comp E, cell_laterA h.2.1 E, cell_laterA h.2.2.1 E, cell_laterA h.2.2.2.1 E, cell_laterA h.2.2.2.2 E⟩
theorem two_laterC {w X W : World} {p1 p2 : Addr} {v1 v2 : Value} (h : Ext w X ∧ X.cell? p1 = some v1 ∧ X.cell? p2 = some v2) (E : Ext X W) : Ext w W ∧ W.cell? p1 = some v1 ∧ W.cell? p2 = some v2 := ⟨h.1.comp E, cell_laterA h.2.1 E, cell_laterA h.2.2 E⟩
theorem makeI4 (W : World) (n : Nat) (hn : n ≤ 2600) : (Instr.makeSlice 26 (.int .i64 n) (.int .i64 n)).run Try.prog W = .ok (.slice (some ⟨W.heap.size, 0, none⟩) n n) (W.alloc (.cells (Array.replicate n (.int .i64 0)) 3)) := by
  obtain ⟨i0, hi, hz0, hz1, hz2⟩ := info_parts Try.infoE
  have := run_makeSlice (P := Try.prog) W 26 3 i0 (.int .i64 0) Try.underlying26 hi hz0 .i64 .i64 n n (by omega) (by omega) (by rw [hz1]; omega) (by rw [hz2]; omega) (by omega)
  rw [hz1] at this
  rw [this]
  have e : madeCells (Value.int .i64 0).cells (((n : Int)).toNat * 1) = Array.replicate n (.int .i64 0) := by
    rw [Int.toNat_natCast, Nat.mul_one, show (Value.int .i64 0).cells = #[.int .i64 0] from rfl]
    apply Array.ext
    · simp [madeCells]
    · intro i h1 h2
      simp [madeCells, Nat.mod_one]
  rw [e, Int.toNat_natCast]
theorem make4 (W : World) : (Instr.makeSlice 26 (.int .i64 4) (.int .i64 4)).run Try.prog W = .ok (.slice (some ⟨W.heap.size, 0, none⟩) 4 4) (W.alloc (.cells #[.int .i64 0, .int .i64 0, .int .i64 0, .int .i64 0] 3)) := makeI4 W 4 (by decide)
theorem spans2 {w : World} (a b c d : Int) : SpansAt (w.alloc (.cells #[.int .i64 a, .int .i64 b, .int .i64 c, .int .i64 d] 49)) (some ⟨w.heap.size, 0, none⟩) [⟨a, b⟩, ⟨c, d⟩] :=
  .inr ⟨_, 0, rfl, by simp, fun i hi => by
    have hi4 : i < 2 := hi
    match i, hi4 with
    | 0, _ => exact ⟨box_at (Ext.refl _) 0 rfl, box_at (Ext.refl _) 1 rfl⟩
    | 1, _ => exact ⟨box_at (Ext.refl _) 2 rfl, box_at (Ext.refl _) 3 rfl⟩⟩
theorem ints1 {w : World} (a : Int) : IntsAt (w.alloc (.cells #[.int .i64 a] 3)) (some ⟨w.heap.size, 0, none⟩) [a] :=
  .inr ⟨_, 0, rfl, by simp, fun i hi => by
    have hi4 : i < 1 := hi
    rw [Nat.zero_add]
    match i, hi4 with
    | 0, _ => exact box_at (Ext.refl _) 0 rfl⟩
theorem ints3 {w : World} (a b c : Int) : IntsAt (w.alloc (.cells #[.int .i64 a, .int .i64 b, .int .i64 c] 3)) (some ⟨w.heap.size, 0, none⟩) [a, b, c] :=
  .inr ⟨_, 0, rfl, by simp, fun i hi => by
    have hi4 : i < 3 := hi
    rw [Nat.zero_add]
    match i, hi4 with
    | 0, _ => exact box_at (Ext.refl _) 0 rfl
    | 1, _ => exact box_at (Ext.refl _) 1 rfl
    | 2, _ => exact box_at (Ext.refl _) 2 rfl⟩
theorem ints2 {w : World} (a b : Int) : IntsAt (w.alloc (.cells #[.int .i64 a, .int .i64 b] 3)) (some ⟨w.heap.size, 0, none⟩) [a, b] :=
  .inr ⟨_, 0, rfl, by simp, fun i hi => by
    have hi4 : i < 2 := hi
    rw [Nat.zero_add]
    match i, hi4 with
    | 0, _ => exact box_at (Ext.refl _) 0 rfl
    | 1, _ => exact box_at (Ext.refl _) 1 rfl⟩
set_option maxRecDepth 100000 in
set_option maxHeartbeats 4000000 in
theorem known_law (w : World) : Calls Try.prog 16 #[] w fun e w' => e = .returned (.bool true) ∧ Ext w w' := by
  go_enter Try.func16, Try.ntmps16
  go_wp2_with fail
  have I0 := ints4 (w := w) 1 128 0 255
  have E0 : Ext w (w.alloc (.cells #[.int .i64 1, .int .i64 128, .int .i64 0, .int .i64 255] 3)) := (Ext.refl w).alloc _
  generalize w.alloc (.cells #[.int .i64 1, .int .i64 128, .int .i64 0, .int .i64 255] 3) = W0 at *
  refine (lawline_any _).mono ?_
  rintro e w1 ⟨rfl, E1⟩
  replace E0 := E0.comp E1
  replace I0 := I0.ext E1
  go_wp2_with fail
  refine (kn_shift3 _).mono ?_
  rintro e w2 ⟨rfl, E2⟩
  replace E0 := E0.comp E2
  replace I0 := I0.ext E2
  go_wp2_with fail
  refine (lawline_any _).mono ?_
  rintro e w3 ⟨rfl, E3⟩
  replace E0 := E0.comp E3
  replace I0 := I0.ext E3
  go_wp2_with fail
  refine (kn_shift5 _).mono ?_
  rintro e w4 ⟨rfl, E4⟩
  replace E0 := E0.comp E4
  replace I0 := I0.ext E4
  go_wp2_with fail
  refine (lawline_any _).mono ?_
  rintro e w5 ⟨rfl, E5⟩
  replace E0 := E0.comp E5
  replace I0 := I0.ext E5
  go_wp2_with fail
  refine (kn_safe _).mono ?_
  rintro e w6 ⟨rfl, E6⟩
  replace E0 := E0.comp E6
  replace I0 := I0.ext E6
  go_wp2_with fail
  have bS : (w6.alloc (.cells #[.int .i64 (-3), .int .i64 3] 49)).heap[w6.heap.size]? = some (.cells #[.int .i64 (-3), .int .i64 3] 49 (0, 0)) := heap_alloc_new w6 _
  have X6 : Ext w6 (w6.alloc (.cells #[.int .i64 (-3), .int .i64 3] 49)) := (Ext.refl w6).alloc _
  replace E0 := E0.comp X6
  replace I0 := I0.ext X6
  obtain ⟨Bs, hBs⟩ : ∃ Bs, w6.heap.size = Bs := ⟨_, rfl⟩
  rw [hBs] at bS ⊢
  generalize w6.alloc (.cells #[.int .i64 (-3), .int .i64 3] 49) = W6 at *
  clear E1 E2 E3 E4 E5 E6 X6 hBs
  refine (lawline_any _).mono ?_
  rintro e w7 ⟨rfl, E7⟩
  replace E0 := E0.comp E7
  replace I0 := I0.ext E7
  replace bS := (E7.block _ (Array.getElem?_eq_some_iff.1 bS).1).trans bS
  go_wp2_with fail
  have X7 : Ext w7 (w7.alloc (.cells #[.int .i64 8, .int .i64 (-8)] 3)) := (Ext.refl w7).alloc _
  refine (kn_pass _ _ _ _ _ (I0.ext X7) (ints2 8 (-8))).mono ?_
  rintro e w8 ⟨aA, cA, rfl, IA, E8⟩
  have E78 := X7.comp E8
  replace E0 := E0.comp E78
  replace I0 := I0.ext E78
  replace bS := (E78.block _ (Array.getElem?_eq_some_iff.1 bS).1).trans bS
  clear E7 X7 E8 E78
  go_wp2_with fail
  refine (lawline_any _).mono ?_
  rintro e w9 ⟨rfl, E9⟩
  replace E0 := E0.comp E9
  replace I0 := I0.ext E9
  replace IA := IA.ext E9
  replace bS := (E9.block _ (Array.getElem?_eq_some_iff.1 bS).1).trans bS
  go_wp2_with fail
  have X9 : Ext w9 (w9.alloc (.cells #[.int .i64 2, .int .i64 5, .int .i64 8] 3)) := (Ext.refl w9).alloc _
  refine (kn_pass2 _ _ _ _ _ (I0.ext X9) (ints3 2 5 8)).mono ?_
  rintro e w10 ⟨aB, cB, rfl, IB, E10⟩
  have E910 := X9.comp E10
  replace E0 := E0.comp E910
  replace I0 := I0.ext E910
  replace IA := IA.ext E910
  replace bS := (E910.block _ (Array.getElem?_eq_some_iff.1 bS).1).trans bS
  clear E9 X9 E10 E910
  go_wp2_with fail
  refine (lawline_any _).mono ?_
  rintro e w11 ⟨rfl, E11⟩
  replace E0 := E0.comp E11
  replace I0 := I0.ext E11
  replace IA := IA.ext E11
  replace IB := IB.ext E11
  replace bS := (E11.block _ (Array.getElem?_eq_some_iff.1 bS).1).trans bS
  clear E11
  go_wp2_with fail
  refine (lawspan_any _ _ _).mono ?_
  rintro e w12 ⟨rfl, E12⟩
  replace E0 := E0.comp E12
  replace I0 := I0.ext E12
  replace IA := IA.ext E12
  replace IB := IB.ext E12
  replace bS := (E12.block _ (Array.getElem?_eq_some_iff.1 bS).1).trans bS
  clear E12
  go_wp2_with fail
  refine (lawspan_any _ _ _).mono ?_
  rintro e w13 ⟨rfl, E13⟩
  replace E0 := E0.comp E13
  replace I0 := I0.ext E13
  replace IA := IA.ext E13
  replace IB := IB.ext E13
  replace bS := (E13.block _ (Array.getElem?_eq_some_iff.1 bS).1).trans bS
  clear E13
  go_wp2_with fail
  have X13 : Ext w13 (w13.alloc (.cells #[.int .i64 0, .int .i64 3, .int .i64 7, .int .i64 8] 49)) := (Ext.refl w13).alloc _
  refine (kn_can _ _ _ (spans2 0 3 7 8)).mono ?_
  rintro e w14 ⟨aC, cC, rfl, IC, E14⟩
  have E15 := X13.comp E14
  replace E0 := E0.comp E15
  replace I0 := I0.ext E15
  replace IA := IA.ext E15
  replace IB := IB.ext E15
  replace bS := (E15.block _ (Array.getElem?_eq_some_iff.1 bS).1).trans bS
  clear E14 E15 X13
  go_wp2_with fail
  have bC : (w14.alloc (.cells #[.slice aC 1 cC, .bool false] 34)).heap[w14.heap.size]? = some (.cells #[.slice aC 1 cC, .bool false] 34 (0, 0)) := heap_alloc_new w14 _
  have X14 : Ext w14 (w14.alloc (.cells #[.slice aC 1 cC, .bool false] 34)) := (Ext.refl w14).alloc _
  replace E0 := E0.comp X14
  replace I0 := I0.ext X14
  replace IA := IA.ext X14
  replace IB := IB.ext X14
  replace IC := IC.ext X14
  replace bS := (X14.block _ (Array.getElem?_eq_some_iff.1 bS).1).trans bS
  obtain ⟨Bc, hBc⟩ : ∃ Bc, w14.heap.size = Bc := ⟨_, rfl⟩
  rw [hBc] at bC ⊢
  generalize w14.alloc (.cells #[.slice aC 1 cC, .bool false] 34) = Y at *
  clear X14 hBc
  obtain ⟨B0, hB0⟩ : ∃ B0, w.heap.size = B0 := ⟨_, rfl⟩
  rw [hB0] at I0 ⊢
  have s0 := blk_cell bS 0 (v := .int .i64 (-3)) rfl
  have s1 := blk_cell bS 1 (v := .int .i64 3) rfl
  have c0 := blk_cell bC 0 (v := .slice aC 1 cC) rfl
  have c1 := blk_cell bC 1 (v := .bool false) rfl
  have hi1 : ∀ W, Ext Y W → Calls Try.prog 25 #[.slice aA 4 cA, .slice (some ⟨B0, 0, none⟩) 4 4] W fun e w' => e = .returned (.bool true) ∧ Ext W w' := fun W E =>
    ints_any aA _ 4 4 cA 4 [1, 128, 0, 255] [1, 128, 0, 255] _ rfl rfl (by decide) (by decide) (IA.ext E) (I0.ext E)
  have hi2 : ∀ W0 W : World, Ext Y W → Ext (W0.alloc (.cells #[.int .i64 0, .int .i64 0, .int .i64 0, .int .i64 0] 3)) W → Calls Try.prog 25 #[.slice aB 4 cB, .slice (some ⟨W0.heap.size, 0, none⟩) 4 4] W fun e w' => e = .returned (.bool true) ∧ Ext W w' := fun W0 W E F =>
    ints_any aB _ 4 4 cB 4 [0, 0, 0, 0] [0, 0, 0, 0] _ rfl rfl (by decide) (by decide) (IB.ext E) ((ints4 0 0 0 0).ext F)
  have hi3 : ∀ W0 W : World, Ext Y W → Ext (W0.alloc (.cells #[.int .i64 1] 3)) W → Calls Try.prog 25 #[.slice aC 1 cC, .slice (some ⟨W0.heap.size, 0, none⟩) 1 1] W fun e w' => e = .returned (.bool true) ∧ Ext W w' := fun W0 W E F =>
    ints_any aC _ 1 1 cC 1 [1] [1] _ rfl rfl (by decide) (by decide) (IC.ext E) ((ints1 1).ext F)
  have hmk := make4
  clear IA IB IC I0 bS bC
  (try go_wp2_with fail)
  (try simp only [List.append])
  go_region_held3 (fun w' => Ext Y w' ∧ w'.cell? ⟨Bs, 0, none⟩ = some (.int .i64 (-3)) ∧ w'.cell? ⟨Bs, 1, none⟩ = some (.int .i64 3) ∧ w'.cell? ⟨Bc, 0, none⟩ = some (.slice aC 1 cC) ∧ w'.cell? ⟨Bc, 1, none⟩ = some (.bool false))
    (first | assumption | exact ⟨(Ext.refl Y).drew, s0, s1, c0, c1⟩ | exact four_later (by assumption) ((Ext.refl _).alloc _) | exact four_later (by assumption) hb')
    (first
      | (go_at_call_of 25 (Value.slice aA 4 cA); refine (hi1 _ ?a1).mono ?_; (first | exact awS_ext (by assumption) | exact (Ext.refl _).drew); rintro e w' ⟨rfl, hb'⟩)
      | (go_at_call_of 25 (Value.slice aB 4 cB); refine (hi2 _ _ ?b1 ?b2).mono ?_; (first | exact awS_ext (by assumption) | exact (Ext.refl _).drew); (first | exact Ext.refl _ | exact (Ext.refl _).drew); rintro e w' ⟨rfl, hb'⟩)
      | (go_at_call_of 25 (Value.slice aC 1 cC); refine (hi3 _ _ ?d1 ?d2).mono ?_; (first | exact awS_ext (by assumption) | exact (Ext.refl _).drew); (first | exact Ext.refl _ | exact (Ext.refl _).drew); rintro e w' ⟨rfl, hb'⟩)
      | (go_at_call 36; refine (lawspan_any _ _ _).mono ?_; rintro e w' ⟨rfl, hb'⟩))
  all_goals
    have hh := ‹Ext Y _ ∧ _ ∧ _ ∧ _ ∧ _›
    replace E0 := E0.comp hh.1
    clear hh
    (try go_wp2_with fail)
  clear hi1 hi2 hi3 hmk s0 s1 c0 c1
  refine (lawline_any _).mono ?_
  rintro e w15 ⟨rfl, E15⟩
  replace E0 := E0.comp E15
  clear E15
  go_wp2_with fail
  refine (kn_next _).mono ?_
  rintro e w16 ⟨rfl, E16⟩
  replace E0 := E0.comp E16
  clear E16
  go_wp2_with fail
  refine (lawoven_any _).mono ?_
  rintro e w17 ⟨rfl, E17⟩
  replace E0 := E0.comp E17
  clear E17
  go_wp2_with fail
  refine (lawspan_any _ _ _).mono ?_
  rintro e w18 ⟨rfl, E18⟩
  replace E0 := E0.comp E18
  clear E18
  go_wp2_with fail
  refine (kn_oven _).mono ?_
  rintro e w19 ⟨rfl, E19⟩
  replace E0 := E0.comp E19
  clear E19
  go_wp2_with fail
  have bO : (w19.alloc (.cells #[.int .i64 17, .int .i64 34] 49)).heap[w19.heap.size]? = some (.cells #[.int .i64 17, .int .i64 34] 49 (0, 0)) := heap_alloc_new w19 _
  have X19 : Ext w19 (w19.alloc (.cells #[.int .i64 17, .int .i64 34] 49)) := (Ext.refl w19).alloc _
  replace E0 := E0.comp X19
  obtain ⟨Bo, hBo⟩ : ∃ Bo, w19.heap.size = Bo := ⟨_, rfl⟩
  rw [hBo] at bO ⊢
  generalize w19.alloc (.cells #[.int .i64 17, .int .i64 34] 49) = Y9 at *
  clear X19 hBo
  refine (lawspan_any _ _ _).mono ?_
  rintro e w20 ⟨rfl, E20⟩
  replace E0 := E0.comp E20
  replace bO := (E20.block _ (Array.getElem?_eq_some_iff.1 bO).1).trans bO
  clear E20
  go_wp2_with fail
  refine (lawspan_any _ _ _).mono ?_
  rintro e w21 ⟨rfl, E21⟩
  replace E0 := E0.comp E21
  replace bO := (E21.block _ (Array.getElem?_eq_some_iff.1 bO).1).trans bO
  clear E21
  go_wp2_with fail
  have bX : (w21.alloc (.cells #[.int .i64 (-2), .int .i64 0, .int .i64 1, .int .i64 1, .int .i64 1, .int .i64 1] 57)).heap[w21.heap.size]? = some (.cells #[.int .i64 (-2), .int .i64 0, .int .i64 1, .int .i64 1, .int .i64 1, .int .i64 1] 57 (0, 0)) := heap_alloc_new w21 _
  have X21 : Ext w21 (w21.alloc (.cells #[.int .i64 (-2), .int .i64 0, .int .i64 1, .int .i64 1, .int .i64 1, .int .i64 1] 57)) := (Ext.refl w21).alloc _
  have hwx : w.heap.size ≤ w21.heap.size := E0.size
  replace E0 := E0.comp X21
  have hne : Bo < w21.heap.size := (Array.getElem?_eq_some_iff.1 bO).1
  replace bO := (X21.block _ (Array.getElem?_eq_some_iff.1 bO).1).trans bO
  obtain ⟨Bx, hBx⟩ : ∃ Bx, w21.heap.size = Bx := ⟨_, rfl⟩
  rw [hBx] at bX hne hwx ⊢
  generalize w21.alloc (.cells #[.int .i64 (-2), .int .i64 0, .int .i64 1, .int .i64 1, .int .i64 1, .int .i64 1] 57) = Z at *
  clear X21 hBx
  have x0 := blk_cell bX 0 (v := .int .i64 (-2)) rfl
  have x1 := blk_cell bX 1 (v := .int .i64 0) rfl
  have x2 := blk_cell bX 2 (v := .int .i64 1) rfl
  have x3 := blk_cell bX 3 (v := .int .i64 1) rfl
  have x4 := blk_cell bX 4 (v := .int .i64 1) rfl
  have x5 := blk_cell bX 5 (v := .int .i64 1) rfl
  go_region_held3 (fun w' => Ext Z w' ∧ w'.cell? ⟨Bx, 0, none⟩ = some (.int .i64 (-2)) ∧ w'.cell? ⟨Bx, 1, none⟩ = some (.int .i64 0) ∧ w'.cell? ⟨Bx, 2, none⟩ = some (.int .i64 1) ∧ w'.cell? ⟨Bx, 3, none⟩ = some (.int .i64 1) ∧ w'.cell? ⟨Bx, 4, none⟩ = some (.int .i64 1) ∧ w'.cell? ⟨Bx, 5, none⟩ = some (.int .i64 1))
    (first | exact ⟨(Ext.refl Z).drew, x0, x1, x2, x3, x4, x5⟩ | exact six_later ⟨(Ext.refl Z).drew, x0, x1, x2, x3, x4, x5⟩ hb' | exact six_later (by assumption) hb')
    (first
      | (go_at_call 47; refine (lawline_any _).mono ?_; rintro e w' ⟨rfl, hb'⟩)
      | (go_at_call 36; refine (lawspan_any _ _ _).mono ?_; rintro e w' ⟨rfl, hb'⟩)
      | (go_at_call 44; refine (kn_keepsA _).mono ?_; rintro e w' ⟨rfl, hb'⟩))
  all_goals
    have EZ := (‹Ext Z _ ∧ _ ∧ _ ∧ _ ∧ _ ∧ _ ∧ _›).1
    replace E0 := E0.comp EZ
    replace bO := (EZ.block _ (Array.getElem?_eq_some_iff.1 bO).1).trans bO
    replace bX := (EZ.block _ (Array.getElem?_eq_some_iff.1 bX).1).trans bX
    clear EZ
    (try go_wp2_with fail)
  clear x0 x1 x2 x3 x4 x5
  have xf4 := fun W (E : Ext _ W) => blk_free ((E.block _ (Array.getElem?_eq_some_iff.1 bX).1).trans bX) 4
  have xf5 := fun W (E : Ext _ W) => blk_free ((E.block _ (Array.getElem?_eq_some_iff.1 bX).1).trans bX) 5
  refine (lawspan_any _ _ _).mono ?_
  rintro e w23 ⟨rfl, E23⟩
  replace xf4 := xf4 w23 E23
  replace xf5 := xf5 w23 E23
  replace E0 := E0.comp E23
  replace bO := (E23.block _ (Array.getElem?_eq_some_iff.1 bO).1).trans bO
  replace bX := (E23.block _ (Array.getElem?_eq_some_iff.1 bX).1).trans bX
  clear E23
  have c4 := blk_cell bX 4 (v := .int .i64 1) rfl
  have c5 := blk_cell bX 5 (v := .int .i64 1) rfl
  go_wp2_with fail
  clear c4 c5 xf4 xf5
  have d1 := heap_setCell_same w23 Bx 4 _ _ (.int .i64 2) bX
  have d2 := heap_setCell_same _ Bx 5 _ _ (.int .i64 2) d1
  have bX2 : ((w23.setCell ⟨Bx, 4, none⟩ (.int .i64 2)).setCell ⟨Bx, 5, none⟩ (.int .i64 2)).heap[Bx]? = some (.cells #[.int .i64 (-2), .int .i64 0, .int .i64 1, .int .i64 1, .int .i64 2, .int .i64 2] 57 (0, 0)) := by simpa using d2
  have bO2 := (Below.heap_setCell (w23.setCell ⟨Bx, 4, none⟩ (.int .i64 2)) ⟨Bx, 5, none⟩ (.int .i64 2) Bo (by show Bo ≠ Bx; omega)).trans ((Below.heap_setCell w23 ⟨Bx, 4, none⟩ (.int .i64 2) Bo (by show Bo ≠ Bx; omega)).trans bO)
  replace E0 : Ext w ((w23.setCell ⟨Bx, 4, none⟩ (.int .i64 2)).setCell ⟨Bx, 5, none⟩ (.int .i64 2)) := (E0.setCell (p := ⟨Bx, 4, none⟩) hwx (.int .i64 2)).setCell (p := ⟨Bx, 5, none⟩) hwx (.int .i64 2)
  clear d1 d2 bX bO
  generalize (w23.setCell ⟨Bx, 4, none⟩ (.int .i64 2)).setCell ⟨Bx, 5, none⟩ (.int .i64 2) = Z2 at *
  have x0 := blk_cell bX2 0 (v := .int .i64 (-2)) rfl
  have x1 := blk_cell bX2 1 (v := .int .i64 0) rfl
  have x2 := blk_cell bX2 2 (v := .int .i64 1) rfl
  have x3 := blk_cell bX2 3 (v := .int .i64 1) rfl
  have x4 := blk_cell bX2 4 (v := .int .i64 2) rfl
  have x5 := blk_cell bX2 5 (v := .int .i64 2) rfl
  go_region_held3 (fun w' => Ext Z2 w' ∧ w'.cell? ⟨Bx, 0, none⟩ = some (.int .i64 (-2)) ∧ w'.cell? ⟨Bx, 1, none⟩ = some (.int .i64 0) ∧ w'.cell? ⟨Bx, 2, none⟩ = some (.int .i64 1) ∧ w'.cell? ⟨Bx, 3, none⟩ = some (.int .i64 1) ∧ w'.cell? ⟨Bx, 4, none⟩ = some (.int .i64 2) ∧ w'.cell? ⟨Bx, 5, none⟩ = some (.int .i64 2))
    (first | exact ⟨(Ext.refl Z2).drew, x0, x1, x2, x3, x4, x5⟩ | exact six_later ⟨(Ext.refl Z2).drew, x0, x1, x2, x3, x4, x5⟩ hb' | exact six_later (by assumption) hb')
    (first
      | (go_at_call 47; refine (lawline_any _).mono ?_; rintro e w' ⟨rfl, hb'⟩)
      | (go_at_call 36; refine (lawspan_any _ _ _).mono ?_; rintro e w' ⟨rfl, hb'⟩)
      | (go_at_call 44; refine (kn_keepsB _).mono ?_; rintro e w' ⟨rfl, hb'⟩))
  all_goals
    have EZ := (‹Ext Z2 _ ∧ _ ∧ _ ∧ _ ∧ _ ∧ _ ∧ _›).1
    replace E0 := E0.comp EZ
    replace bO2 := (EZ.block _ (Array.getElem?_eq_some_iff.1 bO2).1).trans bO2
    clear EZ
  clear x0 x1 x2 x3 x4 x5 bX2
  have o0 := blk_cell bO2 0 (v := .int .i64 17) rfl
  have o1 := blk_cell bO2 1 (v := .int .i64 34) rfl
  (try go_wp2_with fail)
  (try simp only [List.append])
  go_region_held3 (fun w' => Ext w w' ∧ w'.cell? ⟨Bo, 0, none⟩ = some (.int .i64 17) ∧ w'.cell? ⟨Bo, 1, none⟩ = some (.int .i64 34))
    (first | exact ⟨E0.drew, o0, o1⟩ | exact two_laterC ⟨E0.drew, o0, o1⟩ hb' | exact two_laterC (by assumption) hb')
    (first
      | (go_at_call 36; refine (lawspan_any _ _ _).mono ?_; rintro e w' ⟨rfl, hb'⟩)
      | (go_at_call 22; refine (awake_any _).mono ?_; rintro e w' ⟨rfl, hb'⟩))
  all_goals
    have hh := ‹Ext w _ ∧ _ ∧ _›
    clear o0 o1
    go_wp2
    go_ret
    exact ⟨rfl, hh.1⟩
end Go.Proofs.Ytkkchoinfdfiaaa

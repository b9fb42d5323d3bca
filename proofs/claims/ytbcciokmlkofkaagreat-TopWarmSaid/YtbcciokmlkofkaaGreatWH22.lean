import Derived.Deep.RegionHeld3
import Derived.Laws.IdiomStrings
import Derived.Test.YtbcciokmlkofkaaGreatWH21
set_option linter.unusedVariables false
set_option linter.unusedSimpArgs false
/- Contract of layer 1: Awake returns true. -/
namespace Go.Proofs.YtbcciokmlkofkaaGreat
open Go.RowKit Go.Q Go.Shelf Go.Maps
theorem ints_freshL {w W : World} {xs : List Int} {t : TypeId} {l : Array Value} (hl : l = (iv xs).toArray) (E : Ext (w.alloc (.cells l t)) W) : IntsAt W (some ⟨w.heap.size, 0, none⟩) xs := by
  subst hl
  refine .inr ⟨_, 0, rfl, Nat.lt_of_lt_of_le (by simp) E.size, fun i hi => ?_⟩
  rw [Nat.zero_add]
  exact box_at E i (by rw [List.getElem?_toArray]; exact iv_get _ i hi)
theorem awShift1_any (w : World) : Calls Tryz.prog 22 #[.agg #[.int .i64 4, .int .i64 8, .int .i64 10, .int .i64 320, .int .i64 1, .int .i64 3], .int .i64 (-8)] w fun e w' => e = .returned (.tuple #[.int .i64 (-1), .bool false, .int .i64 0]) ∧ Ext w w' := by
  have h := Shift_any lnA (-8) w
  rw [awShift1] at h
  exact h
theorem awShift2_any (w : World) : Calls Tryz.prog 22 #[.agg #[.int .i64 4, .int .i64 8, .int .i64 10, .int .i64 320, .int .i64 1, .int .i64 3], .int .i64 1001] w fun e w' => e = .returned (.tuple #[.int .i64 0, .bool false, .int .i64 7]) ∧ Ext w w' := by
  have h := Shift_any lnA 1001 w
  rw [awShift2] at h
  exact h
theorem awPass_any (a1 a2 : Option Addr) (c1 c2 : Nat) (w : World) (i1 : IntsAt w a1 [1, 128, 0, 255]) (i2 : IntsAt w a2 [8]) : Calls Tryz.prog 8 #[.agg #[.int .i64 4, .int .i64 8, .int .i64 10, .int .i64 320, .int .i64 1, .int .i64 3], .slice a1 4 c1, .slice a2 1 c2] w fun e w' => ∃ a c, e = .returned (.tuple #[.slice a 4 c, .int .i64 (-1), .int .i64 0]) ∧ IntsAt w' a [3, 0, 1, 254] ∧ Ext w w' := by
  have h := Pass_any lnA a1 a2 4 1 c1 c2 [1, 128, 0, 255] [8] w rfl rfl (by decide) (by decide) i1 i2
  rw [awPass] at h
  exact h
theorem awCan_any (a : Option Addr) (c : Nat) (w : World) (i : SpansAt w a [⟨0, 8⟩]) : Calls Tryz.prog 24 #[.agg #[.int .i64 4, .int .i64 8, .int .i64 10, .int .i64 320, .int .i64 1, .int .i64 3], .slice a 1 c] w fun e w' => ∃ a c, e = .returned (.tuple #[.agg #[.slice a 2 c, .bool true], .int .i64 0]) ∧ IntsAt w' a [0, 1] ∧ Ext w w' := by
  have h := Can_any lnA a 1 c [⟨0, 8⟩] w rfl (by decide) i
  rw [awCan] at h
  exact h
theorem awNext_any (w : World) : Calls Tryz.prog 26 #[.agg #[.int .i64 4, .int .i64 8, .int .i64 10, .int .i64 320, .int .i64 1, .int .i64 3], .int .i64 2, .int .i64 16] w fun e w' => e = .returned (.tuple #[.int .i64 48, .int .i64 0]) ∧ Ext w w' := by
  have h := Next_any lnA 2 16 w
  rw [awNext] at h
  exact h
theorem awOven_any (w : World) : Calls Tryz.prog 27 #[.agg #[.int .i64 20, .int .i64 30, .int .i64 2, .int .i64 4, .int .i64 1, .int .i64 3], .agg #[.int .i64 25, .int .i64 25], .bool false, .int .i64 3] w fun e w' => e = .returned (.tuple #[.agg #[.int .i64 17, .int .i64 25], .int .i64 0]) ∧ Ext w w' := by
  have h := Oven_any ovA ⟨25, 25⟩ false 3 w
  rw [awOven] at h
  exact h
theorem awWrite_any (a : Option Addr) (c : Nat) (w : World) (i : IntsAt w a [1, 128, 0, 255]) : Calls Tryz.prog 29 #[.agg #[.int .i64 4, .int .i64 8, .int .i64 10, .int .i64 320, .int .i64 1, .int .i64 3], .slice a 4 c] w fun e w' => ∃ b k, e = .returned (.tuple #[.slice (some ⟨b, 0, none⟩) 9 k, .int .i64 0]) ∧ b < w'.heap.size ∧ (∀ i, i < 9 → w'.cell? ⟨b, i, none⟩ = some (.int .u8 (([77, 76, 4, 8, 1, 128, 0, 255, 219] : List Int)[i]?.getD 0))) ∧ Ext w w' := by
  have h := Write_good lnA a 4 c [1, 128, 0, 255] w awOk rfl i awWords
  rw [awFile] at h
  refine Go.Calls.mono h ?_
  rintro e w' ⟨v, rfl, ho, E⟩
  obtain ⟨b, k, rfl⟩ := ownsRow_succ ho
  rcases own_bytes ho with h | ⟨b', off, ha, hb, hc⟩
  · cases h
  · cases ha
    exact ⟨b, k, rfl, hb, fun i hi => by have := hc i hi; rwa [Nat.zero_add] at this, E⟩
theorem awName1 (w : World) : Calls Tryz.prog 31 #[.string ⟨#[97, 95, 49]⟩] w fun e w' => e = .returned (.bool true) ∧ Ext w w' := by
  have h := name_any ⟨#[97, 95, 49]⟩ w (by decide)
  rw [show nameB (bytesS ⟨#[97, 95, 49]⟩) = true by decide] at h
  exact h
theorem awName2 (w : World) : Calls Tryz.prog 31 #[.string ⟨#[97, 95]⟩] w fun e w' => e = .returned (.bool false) ∧ Ext w w' := by
  have h := name_any ⟨#[97, 95]⟩ w (by decide)
  rw [show nameB (bytesS ⟨#[97, 95]⟩) = false by decide] at h
  exact h
theorem cell_laterA {X W : World} {p : Addr} {v : Value} (h : X.cell? p = some v) (E : Ext X W) : W.cell? p = some v := (Below.cell E (World.block_lt_of_cell? X p h)).trans h
theorem awS_later {w X W : World} {p0 p1 p2 p3 q0 q1 q2 q3 q4 q5 q6 q7 q8 : Addr} {v0 v1 v2 v3 u0 u1 u2 u3 u4 u5 u6 u7 u8 : Value}
    (h : Ext w X ∧ X.cell? p0 = some v0 ∧ X.cell? p1 = some v1 ∧ X.cell? p2 = some v2 ∧ X.cell? p3 = some v3 ∧ X.cell? q0 = some u0 ∧ X.cell? q1 = some u1 ∧ X.cell? q2 = some u2 ∧ X.cell? q3 = some u3 ∧ X.cell? q4 = some u4 ∧ X.cell? q5 = some u5 ∧ X.cell? q6 = some u6 ∧ X.cell? q7 = some u7 ∧ X.cell? q8 = some u8) (E : Ext X W) :
    Ext w W ∧ W.cell? p0 = some v0 ∧ W.cell? p1 = some v1 ∧ W.cell? p2 = some v2 ∧ W.cell? p3 = some v3 ∧ W.cell? q0 = some u0 ∧ W.cell? q1 = some u1 ∧ W.cell? q2 = some u2 ∧ W.cell? q3 = some u3 ∧ W.cell? q4 = some u4 ∧ W.cell? q5 = some u5 ∧ W.cell? q6 = some u6 ∧ W.cell? q7 = some u7 ∧ W.cell? q8 = some u8 := by
  obtain ⟨h, a, b, c, d, e, f, g, i, j, k, l, m, n⟩ := h
  exact ⟨h.comp E, cell_laterA a E, cell_laterA b E, cell_laterA c E, cell_laterA d E, cell_laterA e E, cell_laterA f E, cell_laterA g E, cell_laterA i E, cell_laterA j E, cell_laterA k E, cell_laterA l E, cell_laterA m E, cell_laterA n E⟩
theorem awS_ext {w X : World} {p : Prop} (h : Ext w X ∧ p) : Ext w X := h.1
theorem awConv (b c : Nat) (W : World) (h0 : W.cell? ⟨b, 0, none⟩ = some (.int .u8 77)) (h1 : W.cell? ⟨b, 1, none⟩ = some (.int .u8 76)) (h2 : W.cell? ⟨b, 2, none⟩ = some (.int .u8 4)) (h3 : W.cell? ⟨b, 3, none⟩ = some (.int .u8 8)) (h4 : W.cell? ⟨b, 4, none⟩ = some (.int .u8 1)) (h5 : W.cell? ⟨b, 5, none⟩ = some (.int .u8 128)) (h6 : W.cell? ⟨b, 6, none⟩ = some (.int .u8 0)) (h7 : W.cell? ⟨b, 7, none⟩ = some (.int .u8 255)) (h8 : W.cell? ⟨b, 8, none⟩ = some (.int .u8 219)) : (convert 31 9 (.slice (some ⟨b, 0, none⟩) 9 c)).run Tryz.prog W = .ok (.string ⟨#[77, 76, 4, 8, 1, 128, 0, 255, 219]⟩) W := by
  refine run_convert_bytes_back W _ _ 5 ⟨b, 0, none⟩ c [77, 76, 4, 8, 1, 128, 0, 255, 219] Tryz.underlying31 Tryz.underlying5 Tryz.underlying9 (fun j hj => ?_)
  have hj' : j < 9 := hj
  match j, hj' with
  | 0, _ => exact h0
  | 1, _ => exact h1
  | 2, _ => exact h2
  | 3, _ => exact h3
  | 4, _ => exact h4
  | 5, _ => exact h5
  | 6, _ => exact h6
  | 7, _ => exact h7
  | 8, _ => exact h8
set_option maxRecDepth 100000 in
set_option maxHeartbeats 4000000 in
theorem awake_anyL (w : World) : Calls Tryz.prog 6 #[] w fun e w' => e = .returned (.bool true) ∧ Ext w w' := by
  go_enter Tryz.func6, Tryz.ntmps6
  go_wp2_with fail
  refine (lawline_any _).mono ?_
  rintro e w1 ⟨rfl, E1⟩
  go_wp2_with fail
  refine (awShift1_any _).mono ?_
  rintro e w2 ⟨rfl, E2⟩
  have E02 := E1.comp E2
  clear E1 E2
  go_wp2_with fail
  refine (lawline_any _).mono ?_
  rintro e w3 ⟨rfl, E3⟩
  go_wp2_with fail
  have i1 : IntsAt ((w3.alloc (.cells #[.int .i64 1, .int .i64 128, .int .i64 0, .int .i64 255] 3)).alloc (.cells #[.int .i64 8] 3)) (some ⟨w3.heap.size, 0, none⟩) [1, 128, 0, 255] := ints_freshL (w := w3) rfl ((Ext.refl _).alloc _)
  have i2 : IntsAt ((w3.alloc (.cells #[.int .i64 1, .int .i64 128, .int .i64 0, .int .i64 255] 3)).alloc (.cells #[.int .i64 8] 3)) (some ⟨w3.heap.size + 1, 0, none⟩) [8] := by
    have := ints_freshL (w := w3.alloc (.cells #[.int .i64 1, .int .i64 128, .int .i64 0, .int .i64 255] 3)) (xs := [8]) (t := 3) rfl (Ext.refl _)
    rw [World.size_alloc] at this
    exact this
  refine (awPass_any _ _ _ _ _ i1 i2).mono ?_
  rintro e w4 ⟨ap, cp, rfl, IP, E4⟩
  have E04 : Ext w w4 := E02.comp (E3.comp E4.old.old)
  clear i1 i2 E02 E3 E4
  go_wp2_with fail
  refine (lawline_any _).mono ?_
  rintro e w5 ⟨rfl, E5⟩
  go_wp2_with fail
  refine (lawspan_any _ _ _).mono ?_
  rintro e w6 ⟨rfl, E6⟩
  go_wp2_with fail
  have i1 : SpansAt (w6.alloc (.cells #[.int .i64 0, .int .i64 8] 28)) (some ⟨w6.heap.size, 0, none⟩) [⟨0, 8⟩] := by
    refine .inr ⟨_, 0, rfl, by simp, fun i hi => ?_⟩
    obtain rfl : i = 0 := by simpa using hi
    exact ⟨by simp, by simp⟩
  refine (awCan_any _ _ _ i1).mono ?_
  rintro e w7 ⟨ac, cc, rfl, IC, E7⟩
  have E47 : Ext w4 w7 := E5.comp (E6.comp E7.old)
  clear i1 E5 E6 E7
  go_wp2_with fail
  refine (lawline_any _).mono ?_
  rintro e w8 ⟨rfl, E8⟩
  go_wp2_with fail
  refine (awNext_any _).mono ?_
  rintro e w9 ⟨rfl, E9⟩
  go_wp2_with fail
  refine (lawoven_any _).mono ?_
  rintro e w10 ⟨rfl, E10⟩
  go_wp2_with fail
  refine (lawspan_any _ _ _).mono ?_
  rintro e w11 ⟨rfl, E11⟩
  go_wp2_with fail
  refine (awOven_any _).mono ?_
  rintro e w12 ⟨rfl, E12⟩
  have EC := E8.comp (E9.comp (E10.comp (E11.comp E12)))
  clear E8 E9 E10 E11 E12
  go_wp2_with fail
  refine (lawline_any _).mono ?_
  rintro e w13 ⟨rfl, EO⟩
  go_wp2_with fail
  refine (awWrite_any _ _ _ (ints_freshL (w := w13) rfl (Ext.refl _))).mono ?_
  rintro e w14 ⟨b, kb, rfl, hb, hbc, E14⟩
  go_wp2_with fail
  refine (lawline_any _).mono ?_
  rintro e w15 ⟨rfl, E15⟩
  go_wp2_with fail
  refine (awShift2_any _).mono ?_
  rintro e w16 ⟨rfl, E16⟩
  have EO' := EO.comp (E14.old.comp (E15.comp E16))
  have EC' := EC.comp EO'.old
  have EB := E15.comp E16
  have IP' : IntsAt w16 ap [3, 0, 1, 254] := IP.ext (E47.comp EC'.old)
  have IC' : IntsAt w16 ac [0, 1] := IC.ext EC'.old
  have hbc' : ∀ i, i < 9 → w16.cell? ⟨b, i, none⟩ = some (.int .u8 (([77, 76, 4, 8, 1, 128, 0, 255, 219] : List Int)[i]?.getD 0)) := fun i hi => (EB.cell (p := ⟨b, i, none⟩) hb).trans (hbc i hi)
  have hbs : b < w16.heap.size := Nat.lt_of_lt_of_le hb EB.size
  have EW := E04.comp (E47.comp EC'.old)
  have c0 := box_at (v := .slice ac 2 cc) EC' 0 rfl
  have c1 := box_at (v := .bool true) EC' 1 rfl
  have o0 := box_at (v := .int .i64 17) EO' 0 rfl
  have o1 := box_at (v := .int .i64 25) EO' 1 rfl
  have k0 : w16.cell? ⟨b, 0, none⟩ = some (.int .u8 77) := hbc' 0 (by decide)
  have k1 : w16.cell? ⟨b, 1, none⟩ = some (.int .u8 76) := hbc' 1 (by decide)
  have k2 : w16.cell? ⟨b, 2, none⟩ = some (.int .u8 4) := hbc' 2 (by decide)
  have k3 : w16.cell? ⟨b, 3, none⟩ = some (.int .u8 8) := hbc' 3 (by decide)
  have k4 : w16.cell? ⟨b, 4, none⟩ = some (.int .u8 1) := hbc' 4 (by decide)
  have k5 : w16.cell? ⟨b, 5, none⟩ = some (.int .u8 128) := hbc' 5 (by decide)
  have k6 : w16.cell? ⟨b, 6, none⟩ = some (.int .u8 0) := hbc' 6 (by decide)
  have k7 : w16.cell? ⟨b, 7, none⟩ = some (.int .u8 255) := hbc' 7 (by decide)
  have k8 : w16.cell? ⟨b, 8, none⟩ = some (.int .u8 219) := hbc' 8 (by decide)
  have hi1 : ∀ W0 W, Ext w16 W0 → Ext (W0.alloc (.cells #[.int .i64 3, .int .i64 0, .int .i64 1, .int .i64 254] 3)) W → Calls Tryz.prog 30 #[.slice ap 4 cp, .slice (some ⟨W0.heap.size, 0, none⟩) 4 4] W fun e w' => e = .returned (.bool true) ∧ Ext W w' := fun W0 W E F =>
    ints_anyL ap _ 4 4 cp 4 [3, 0, 1, 254] [3, 0, 1, 254] _ rfl rfl (by decide) (by decide) (IP'.ext (E.comp F.old)) (ints_freshL (w := W0) rfl F)
  have hi2 : ∀ W0 W, Ext w16 W0 → Ext (W0.alloc (.cells #[.int .i64 0, .int .i64 1] 3)) W → Calls Tryz.prog 30 #[.slice ac 2 cc, .slice (some ⟨W0.heap.size, 0, none⟩) 2 2] W fun e w' => e = .returned (.bool true) ∧ Ext W w' := fun W0 W E F =>
    ints_anyL ac _ 2 2 cc 2 [0, 1] [0, 1] _ rfl rfl (by decide) (by decide) (IC'.ext (E.comp F.old)) (ints_freshL (w := W0) rfl F)
  clear IP' IC'
  have hcv := fun W => awConv b kb W
  have hcn := fun (W : World) => awConv W.heap.size 9 (W.alloc (.cells #[.int .u8 77, .int .u8 76, .int .u8 4, .int .u8 8, .int .u8 1, .int .u8 128, .int .u8 0, .int .u8 255, .int .u8 219] 5)) (by simp) (by simp) (by simp) (by simp) (by simp) (by simp) (by simp) (by simp) (by simp)
  clear EO EC E14 E15 E16 hb hbc hbc' EB IP IC E04 E47 EO' EC'
  go_wp2_with fail
  simp only [List.append]
  refine wp_region_noPanic ?_
  refine wp_region_held_drew (S := (fun w' => Ext w16 w' ∧ w'.cell? ⟨w7.heap.size, 0, none⟩ = some (.slice ac 2 cc) ∧ w'.cell? ⟨w7.heap.size, 1, none⟩ = some (.bool true) ∧ w'.cell? ⟨w12.heap.size, 0, none⟩ = some (.int .i64 17) ∧ w'.cell? ⟨w12.heap.size, 1, none⟩ = some (.int .i64 25) ∧ w'.cell? ⟨b, 0, none⟩ = some (.int .u8 77) ∧ w'.cell? ⟨b, 1, none⟩ = some (.int .u8 76) ∧ w'.cell? ⟨b, 2, none⟩ = some (.int .u8 4) ∧ w'.cell? ⟨b, 3, none⟩ = some (.int .u8 8) ∧ w'.cell? ⟨b, 4, none⟩ = some (.int .u8 1) ∧ w'.cell? ⟨b, 5, none⟩ = some (.int .u8 128) ∧ w'.cell? ⟨b, 6, none⟩ = some (.int .u8 0) ∧ w'.cell? ⟨b, 7, none⟩ = some (.int .u8 255) ∧ w'.cell? ⟨b, 8, none⟩ = some (.int .u8 219))) (by kernel_rfl) ?_ (fun hHeld => ?_)
  · exact ⟨(Ext.refl w16).drew, c0, c1, o0, o1, k0, k1, k2, k3, k4, k5, k6, k7, k8⟩
  refine wpAnyH_take (i := 0) (oi := ⟨_, _, _, _, _, _⟩) (v := ?_) rfl (by kernel_rfl) (by kernel_rfl) (by kernel_rfl) (fun _ _ _ h => h) (Or.inl ⟨by rfl, ?_⟩) hHeld ?_
  rotate_left
  · intro w hSw
    (try dsimp only at hSw)
    go_simp
    (try with_reducible rfl)
  (try simp only [Act.put, List.setIfInBounds_toArray, List.set_cons_zero, List.set_cons_succ])
  refine wpAnyH_take (i := 1) (oi := ⟨_, _, _, _, _, _⟩) (v := ?_) rfl (by kernel_rfl) (by kernel_rfl) (by kernel_rfl) (fun _ _ _ h => h) (Or.inl ⟨by rfl, ?_⟩) hHeld ?_
  rotate_left
  · intro w hSw
    (try dsimp only at hSw)
    go_simp
    (try with_reducible rfl)
  (try simp only [Act.put, List.setIfInBounds_toArray, List.set_cons_zero, List.set_cons_succ])
  refine wpAnyH_take (i := 2) (oi := ⟨_, _, _, _, _, _⟩) (v := ?_) rfl (by kernel_rfl) (by kernel_rfl) (by kernel_rfl) (fun _ _ _ h => h) (Or.inl ⟨by rfl, ?_⟩) hHeld ?_
  rotate_left
  · intro w hSw
    (try dsimp only at hSw)
    go_simp
    (try with_reducible rfl)
  (try simp only [Act.put, List.setIfInBounds_toArray, List.set_cons_zero, List.set_cons_succ])
  refine wpAnyH_take (i := 3) (oi := ⟨_, _, _, _, _, _⟩) (v := ?_) rfl (by kernel_rfl) (by kernel_rfl) (by kernel_rfl) (fun _ _ _ h => h) (Or.inl ⟨by rfl, ?_⟩) hHeld ?_
  rotate_left
  · intro w hSw
    (try dsimp only at hSw)
    go_simp
    (try with_reducible rfl)
  (try simp only [Act.put, List.setIfInBounds_toArray, List.set_cons_zero, List.set_cons_succ])
  refine wpAnyH_take (i := 4) (oi := ⟨_, _, _, _, _, _⟩) (v := ?_) rfl (by kernel_rfl) (by kernel_rfl) (by kernel_rfl) (fun _ _ _ h => h) (Or.inl ⟨by rfl, ?_⟩) hHeld ?_
  rotate_left
  · intro w hSw
    (try dsimp only at hSw)
    go_simp
    (try with_reducible rfl)
  (try simp only [Act.put, List.setIfInBounds_toArray, List.set_cons_zero, List.set_cons_succ])
  refine wpAnyH_take (i := 5) (oi := ⟨_, _, _, _, _, _⟩) (v := ?_) rfl (by kernel_rfl) (by kernel_rfl) (by kernel_rfl) (fun _ _ _ h => h) (Or.inl ⟨by rfl, ?_⟩) hHeld ?_
  rotate_left
  · intro w hSw
    (try dsimp only at hSw)
    go_simp
    (try with_reducible rfl)
  (try simp only [Act.put, List.setIfInBounds_toArray, List.set_cons_zero, List.set_cons_succ])
  refine wpAnyH_take (i := 6) (oi := ⟨_, _, _, _, _, _⟩) (v := ?_) rfl (by kernel_rfl) (by kernel_rfl) (by kernel_rfl) (fun _ _ _ h => h) (Or.inl ⟨by rfl, ?_⟩) hHeld ?_
  rotate_left
  · intro w hSw
    (try dsimp only at hSw)
    go_simp
    (try with_reducible rfl)
  (try simp only [Act.put, List.setIfInBounds_toArray, List.set_cons_zero, List.set_cons_succ])
  refine wpAnyH_take (i := 7) (oi := ⟨_, _, _, _, _, _⟩) (v := ?_) rfl (by kernel_rfl) (by kernel_rfl) (by kernel_rfl) (fun _ _ _ h => h) (Or.inl ⟨by rfl, ?_⟩) hHeld ?_
  rotate_left
  · intro w hSw
    (try dsimp only at hSw)
    go_simp
    (try with_reducible rfl)
  (try simp only [Act.put, List.setIfInBounds_toArray, List.set_cons_zero, List.set_cons_succ])
  refine wpAnyH_take (i := 8) (oi := ⟨_, _, _, _, _, _⟩) (v := ?_) rfl (by kernel_rfl) (by kernel_rfl) (by kernel_rfl) (fun _ _ _ h => h) (Or.inl ⟨by rfl, ?_⟩) hHeld ?_
  rotate_left
  · intro w hSw
    (try dsimp only at hSw)
    go_simp
    (try with_reducible rfl)
  (try simp only [Act.put, List.setIfInBounds_toArray, List.set_cons_zero, List.set_cons_succ])
  refine wpAnyH_take (i := 9) (oi := ⟨_, _, _, _, _, _⟩) (v := ?_) rfl (by kernel_rfl) (by kernel_rfl) (by kernel_rfl) (fun _ _ _ h => h) (Or.inl ⟨by rfl, ?_⟩) hHeld ?_
  rotate_left
  · intro w hSw
    (try dsimp only at hSw)
    go_simp
    (try with_reducible rfl)
  (try simp only [Act.put, List.setIfInBounds_toArray, List.set_cons_zero, List.set_cons_succ])
  refine wpAnyH_take (i := 10) (oi := ⟨_, _, _, _, _, _⟩) (v := ?_) rfl (by kernel_rfl) (by kernel_rfl) (by kernel_rfl) (fun _ _ _ h => h) (Or.inl ⟨by rfl, ?_⟩) hHeld ?_
  rotate_left
  · intro w hSw
    (try dsimp only at hSw)
    go_simp
    (try with_reducible rfl)
  (try simp only [Act.put, List.setIfInBounds_toArray, List.set_cons_zero, List.set_cons_succ])
  refine wpAnyH_take (i := 11) (oi := ⟨_, _, _, _, _, _⟩) (v := ?_) rfl (by kernel_rfl) (by kernel_rfl) (by kernel_rfl) (fun _ _ _ h => h) (Or.inl ⟨by rfl, ?_⟩) hHeld ?_
  rotate_left
  · intro w hSw
    (try dsimp only at hSw)
    go_simp
    (try with_reducible rfl)
  (try simp only [Act.put, List.setIfInBounds_toArray, List.set_cons_zero, List.set_cons_succ])
  refine wpAnyH_take (i := 12) (oi := ⟨_, _, _, _, _, _⟩) (v := ?_) rfl (by kernel_rfl) (by kernel_rfl) (by kernel_rfl) (fun _ _ _ h => h) (Or.inl ⟨by rfl, ?_⟩) hHeld ?_
  rotate_left
  · intro w hSw
    (try dsimp only at hSw)
    go_simp
    (try with_reducible rfl)
  (try simp only [Act.put, List.setIfInBounds_toArray, List.set_cons_zero, List.set_cons_succ])
  refine wpAnyH_take (i := 13) (oi := ⟨_, _, _, _, _, _⟩) (v := ?_) rfl (by kernel_rfl) (by kernel_rfl) (by kernel_rfl) (fun _ _ _ h => h) (Or.inl ⟨by rfl, ?_⟩) hHeld ?_
  rotate_left
  · intro w hSw
    (try dsimp only at hSw)
    go_simp
    (try with_reducible rfl)
  (try simp only [Act.put, List.setIfInBounds_toArray, List.set_cons_zero, List.set_cons_succ])
  refine wpAnyH_take (i := 14) (oi := ⟨_, _, _, _, _, _⟩) (v := ?_) rfl (by kernel_rfl) (by kernel_rfl) (by kernel_rfl) (fun _ _ _ h => h) (Or.inl ⟨by rfl, ?_⟩) hHeld ?_
  rotate_left
  · intro w hSw
    (try dsimp only at hSw)
    go_simp
    (try with_reducible rfl)
  (try simp only [Act.put, List.setIfInBounds_toArray, List.set_cons_zero, List.set_cons_succ])
  refine wpAnyH_take (i := 15) (oi := ⟨_, _, _, _, _, _⟩) (v := ?_) rfl (by kernel_rfl) (by kernel_rfl) (by kernel_rfl) (fun _ _ _ h => h) (Or.inl ⟨by rfl, ?_⟩) hHeld ?_
  rotate_left
  · intro w hSw
    (try dsimp only at hSw)
    go_simp
    (try with_reducible rfl)
  (try simp only [Act.put, List.setIfInBounds_toArray, List.set_cons_zero, List.set_cons_succ])
  refine wpAnyH_take (i := 16) (oi := ⟨_, _, _, _, _, _⟩) (v := ?_) rfl (by kernel_rfl) (by kernel_rfl) (by kernel_rfl) (fun _ _ _ h => h) (Or.inl ⟨by rfl, ?_⟩) hHeld ?_
  rotate_left
  · intro w hSw
    (try dsimp only at hSw)
    go_simp
    (try with_reducible rfl)
  (try simp only [Act.put, List.setIfInBounds_toArray, List.set_cons_zero, List.set_cons_succ])
  refine wpAnyH_take (i := 17) (oi := ⟨_, _, _, _, _, _⟩) (v := ?_) rfl (by kernel_rfl) (by kernel_rfl) (by kernel_rfl) (fun _ _ _ h => h) (Or.inl ⟨by rfl, ?_⟩) hHeld ?_
  rotate_left
  · intro w hSw
    (try dsimp only at hSw)
    go_simp
    (try with_reducible rfl)
  (try simp only [Act.put, List.setIfInBounds_toArray, List.set_cons_zero, List.set_cons_succ])
  refine wpAnyH_take (i := 18) (oi := ⟨_, _, _, _, _, _⟩) (v := ?_) rfl (by kernel_rfl) (by kernel_rfl) (by kernel_rfl) (fun _ _ _ h => h) (Or.inl ⟨by rfl, ?_⟩) hHeld ?_
  rotate_left
  · intro w hSw
    (try dsimp only at hSw)
    go_simp
    (try with_reducible rfl)
  (try simp only [Act.put, List.setIfInBounds_toArray, List.set_cons_zero, List.set_cons_succ])
  refine wpAnyH_take (i := 19) (oi := ⟨_, _, _, _, _, _⟩) (v := ?_) rfl (by kernel_rfl) (by kernel_rfl) (by kernel_rfl) (fun _ _ _ h => h) (Or.inl ⟨by rfl, ?_⟩) hHeld ?_
  rotate_left
  · intro w hSw
    (try dsimp only at hSw)
    go_simp
    (try with_reducible rfl)
  (try simp only [Act.put, List.setIfInBounds_toArray, List.set_cons_zero, List.set_cons_succ])
  refine wpAnyH_take (i := 20) (oi := ⟨_, _, _, _, _, _⟩) (v := ?_) rfl (by kernel_rfl) (by kernel_rfl) (by kernel_rfl) (fun _ _ _ h => h) (Or.inl ⟨by rfl, ?_⟩) hHeld ?_
  rotate_left
  · intro w hSw
    (try dsimp only at hSw)
    go_simp
    (try with_reducible rfl)
  (try simp only [Act.put, List.setIfInBounds_toArray, List.set_cons_zero, List.set_cons_succ])
  refine wpAnyH_take (i := 21) (oi := ⟨_, _, _, _, _, _⟩) (v := ?_) rfl (by kernel_rfl) (by kernel_rfl) (by kernel_rfl) (fun _ _ _ h => h) (Or.inl ⟨by rfl, ?_⟩) hHeld ?_
  rotate_left
  · intro w hSw
    (try dsimp only at hSw)
    go_simp
    (try with_reducible rfl)
  (try simp only [Act.put, List.setIfInBounds_toArray, List.set_cons_zero, List.set_cons_succ])
  refine wpAnyH_take (i := 22) (oi := ⟨_, _, _, _, _, _⟩) (v := ?_) rfl (by kernel_rfl) (by kernel_rfl) (by kernel_rfl) (fun _ _ _ h => h) (Or.inl ⟨by rfl, ?_⟩) hHeld ?_
  rotate_left
  · intro w hSw
    (try dsimp only at hSw)
    go_simp
    (try with_reducible rfl)
  (try simp only [Act.put, List.setIfInBounds_toArray, List.set_cons_zero, List.set_cons_succ])
  refine wpAnyH_take (i := 23) (oi := ⟨_, _, _, _, _, _⟩) (v := ?_) rfl (by kernel_rfl) (by kernel_rfl) (by kernel_rfl) (fun _ _ _ h => h) (Or.inl ⟨by rfl, ?_⟩) hHeld ?_
  rotate_left
  · intro w hSw
    (try dsimp only at hSw)
    go_simp
    (try with_reducible rfl)
  (try simp only [Act.put, List.setIfInBounds_toArray, List.set_cons_zero, List.set_cons_succ])
  refine wpAnyH_take (i := 24) (oi := ⟨_, _, _, _, _, _⟩) (v := ?_) rfl (by kernel_rfl) (by kernel_rfl) (by kernel_rfl) (fun _ _ _ h => h) (Or.inl ⟨by rfl, ?_⟩) hHeld ?_
  rotate_left
  · intro w hSw
    (try dsimp only at hSw)
    go_simp
    (try with_reducible rfl)
  (try simp only [Act.put, List.setIfInBounds_toArray, List.set_cons_zero, List.set_cons_succ])
  refine wpAnyH_take (i := 25) (oi := ⟨_, _, _, _, _, _⟩) (v := ?_) rfl (by kernel_rfl) (by kernel_rfl) (by kernel_rfl) (fun _ _ _ h => h) (Or.inl ⟨by rfl, ?_⟩) hHeld ?_
  rotate_left
  · intro w hSw
    (try dsimp only at hSw)
    go_simp
    (try with_reducible rfl)
  (try simp only [Act.put, List.setIfInBounds_toArray, List.set_cons_zero, List.set_cons_succ])
  refine wpAnyH_take (i := 26) (oi := ⟨_, _, _, _, _, _⟩) (v := ?_) rfl (by kernel_rfl) (by kernel_rfl) (by kernel_rfl) (fun _ _ _ h => h) (Or.inl ⟨by rfl, ?_⟩) hHeld ?_
  rotate_left
  · intro w hSw
    (try dsimp only at hSw)
    go_simp
    (try with_reducible rfl)
  (try simp only [Act.put, List.setIfInBounds_toArray, List.set_cons_zero, List.set_cons_succ])
  refine wpAnyH_take (i := 27) (oi := ⟨_, _, _, _, _, _⟩) (v := ?_) rfl (by kernel_rfl) (by kernel_rfl) (by kernel_rfl) (fun _ _ _ h => h) (Or.inl ⟨by rfl, ?_⟩) hHeld ?_
  rotate_left
  · intro w hSw
    (try dsimp only at hSw)
    go_simp
    (try with_reducible rfl)
  (try simp only [Act.put, List.setIfInBounds_toArray, List.set_cons_zero, List.set_cons_succ])
  refine wpAnyH_take (i := 28) (oi := ⟨_, _, _, _, _, _⟩) (v := ?_) rfl (by kernel_rfl) (by kernel_rfl) (by kernel_rfl) (fun _ _ _ h => h) (Or.inl ⟨by rfl, ?_⟩) hHeld ?_
  rotate_left
  · intro w hSw
    (try dsimp only at hSw)
    go_simp
    (try with_reducible rfl)
  (try simp only [Act.put, List.setIfInBounds_toArray, List.set_cons_zero, List.set_cons_succ])
  refine wpAnyH_take (i := 29) (oi := ⟨_, _, _, _, _, _⟩) (v := ?_) rfl (by kernel_rfl) (by kernel_rfl) (by kernel_rfl) (fun _ _ _ h => h) (Or.inl ⟨by rfl, ?_⟩) hHeld ?_
  rotate_left
  · intro w hSw
    (try dsimp only at hSw)
    go_simp
    (try with_reducible rfl)
  (try simp only [Act.put, List.setIfInBounds_toArray, List.set_cons_zero, List.set_cons_succ])
  refine wpAnyH_take (i := 30) (oi := ⟨_, _, _, _, _, _⟩) (v := ?_) rfl (by kernel_rfl) (by kernel_rfl) (by kernel_rfl) (fun _ _ _ h => h) (Or.inl ⟨by rfl, ?_⟩) hHeld ?_
  rotate_left
  · intro w hSw
    (try dsimp only at hSw)
    go_simp
    (try with_reducible rfl)
  (try simp only [Act.put, List.setIfInBounds_toArray, List.set_cons_zero, List.set_cons_succ])
  refine wpAnyH_take (i := 31) (oi := ⟨_, _, _, _, _, _⟩) (v := ?_) rfl (by kernel_rfl) (by kernel_rfl) (by kernel_rfl) (fun _ _ _ h => h) (Or.inl ⟨by rfl, ?_⟩) hHeld ?_
  rotate_left
  · intro w hSw
    (try dsimp only at hSw)
    go_simp
    (try with_reducible rfl)
  (try simp only [Act.put, List.setIfInBounds_toArray, List.set_cons_zero, List.set_cons_succ])
  refine wpAnyH_take (i := 32) (oi := ⟨_, _, _, _, _, _⟩) (v := ?_) rfl (by kernel_rfl) (by kernel_rfl) (by kernel_rfl) (fun _ _ _ h => h) (Or.inl ⟨by rfl, ?_⟩) hHeld ?_
  rotate_left
  · intro w hSw
    (try dsimp only at hSw)
    go_simp
    (try with_reducible rfl)
  (try simp only [Act.put, List.setIfInBounds_toArray, List.set_cons_zero, List.set_cons_succ])
  refine wpAnyH_take (i := 33) (oi := ⟨_, _, _, _, _, _⟩) (v := ?_) rfl (by kernel_rfl) (by kernel_rfl) (by kernel_rfl) (fun _ _ _ h => h) (Or.inl ⟨by rfl, ?_⟩) hHeld ?_
  rotate_left
  · intro w hSw
    (try dsimp only at hSw)
    go_simp
    (try with_reducible rfl)
  (try simp only [Act.put, List.setIfInBounds_toArray, List.set_cons_zero, List.set_cons_succ])
  refine wpAnyH_take (i := 34) (oi := ⟨_, _, _, _, _, _⟩) (v := ?_) rfl (by kernel_rfl) (by kernel_rfl) (by kernel_rfl) (fun _ _ _ h => h) (Or.inl ⟨by rfl, ?_⟩) hHeld ?_
  rotate_left
  · intro w hSw
    (try dsimp only at hSw)
    go_simp
    (try with_reducible rfl)
  (try simp only [Act.put, List.setIfInBounds_toArray, List.set_cons_zero, List.set_cons_succ])
  refine wpAnyH_take (i := 35) (oi := ⟨_, _, _, _, _, _⟩) (v := ?_) rfl (by kernel_rfl) (by kernel_rfl) (by kernel_rfl) (fun _ _ _ h => h) (Or.inl ⟨by rfl, ?_⟩) hHeld ?_
  rotate_left
  · intro w hSw
    (try dsimp only at hSw)
    go_simp
    (try with_reducible rfl)
  (try simp only [Act.put, List.setIfInBounds_toArray, List.set_cons_zero, List.set_cons_succ])
  refine wpAnyH_ready (rs := [36]) (by kernel_rfl) (by simp) ?_
  refine AllReadyH.cons (o := ⟨_, _, _, _, _, _⟩) rfl (fun K hK => ?_) AllReadyH.nil
  go_simp
  refine hK.out _ _ ?_ (fun hNew => ?_)
  · exact awS_later hHeld ((Ext.refl _).alloc _)
  clear hK K
  replace hHeld := hNew
  clear hNew
  (try simp only [Act.put, List.setIfInBounds_toArray, List.set_cons_zero, List.set_cons_succ])
  refine wpAnyH_ready (rs := [37]) (by kernel_rfl) (by simp) ?_
  refine AllReadyH.cons (o := ⟨_, _, _, _, _, _⟩) rfl (fun K hK => ?_) AllReadyH.nil
  (try go_simp)
  go_at_call 30
  refine (hi1 w16 _ (Ext.refl _) (Ext.refl _).drew).mono ?_
  rintro e x1 ⟨rfl, hb'⟩
  refine hK.out _ _ ?_ (fun hNew => ?_)
  · exact awS_later hHeld hb'
  clear hK K
  replace hHeld := hNew
  clear hNew
  (try simp only [Act.put, List.setIfInBounds_toArray, List.set_cons_zero, List.set_cons_succ])
  refine wpAnyH_take (i := 38) (oi := ⟨_, _, _, _, _, _⟩) (v := ?_) rfl (by kernel_rfl) (by kernel_rfl) (by kernel_rfl) (fun _ _ _ h => h) (Or.inl ⟨by rfl, ?_⟩) hHeld ?_
  rotate_left
  · intro w hSw
    (try dsimp only at hSw)
    go_simp
    (try with_reducible rfl)
  (try simp only [Act.put, List.setIfInBounds_toArray, List.set_cons_zero, List.set_cons_succ])
  refine wpAnyH_take (i := 39) (oi := ⟨_, _, _, _, _, _⟩) (v := ?_) rfl (by kernel_rfl) (by kernel_rfl) (by kernel_rfl) (fun _ _ _ h => h) (Or.inl ⟨by rfl, ?_⟩) hHeld ?_
  rotate_left
  · intro w hSw
    (try dsimp only at hSw)
    go_simp
    (try with_reducible rfl)
  (try simp only [Act.put, List.setIfInBounds_toArray, List.set_cons_zero, List.set_cons_succ])
  refine wpAnyH_take (i := 40) (oi := ⟨_, _, _, _, _, _⟩) (v := ?_) rfl (by kernel_rfl) (by kernel_rfl) (by kernel_rfl) (fun _ _ _ h => h) (Or.inl ⟨by rfl, ?_⟩) hHeld ?_
  rotate_left
  · intro w hSw
    (try dsimp only at hSw)
    go_simp
    (try with_reducible rfl)
  (try simp only [Act.put, List.setIfInBounds_toArray, List.set_cons_zero, List.set_cons_succ])
  refine wpAnyH_take (i := 41) (oi := ⟨_, _, _, _, _, _⟩) (v := ?_) rfl (by kernel_rfl) (by kernel_rfl) (by kernel_rfl) (fun _ _ _ h => h) (Or.inl ⟨by rfl, ?_⟩) hHeld ?_
  rotate_left
  · intro w hSw
    (try dsimp only at hSw)
    go_simp
    (try with_reducible rfl)
  (try simp only [Act.put, List.setIfInBounds_toArray, List.set_cons_zero, List.set_cons_succ])
  refine wpAnyH_take (i := 42) (oi := ⟨_, _, _, _, _, _⟩) (v := ?_) rfl (by kernel_rfl) (by kernel_rfl) (by kernel_rfl) (fun _ _ _ h => h) (Or.inl ⟨by rfl, ?_⟩) hHeld ?_
  rotate_left
  · intro w hSw
    (try dsimp only at hSw)
    go_simp
    (try with_reducible rfl)
  (try simp only [Act.put, List.setIfInBounds_toArray, List.set_cons_zero, List.set_cons_succ])
  refine wpAnyH_take (i := 43) (oi := ⟨_, _, _, _, _, _⟩) (v := ?_) rfl (by kernel_rfl) (by kernel_rfl) (by kernel_rfl) (fun _ _ _ h => h) (Or.inl ⟨by rfl, ?_⟩) hHeld ?_
  rotate_left
  · intro w hSw
    (try dsimp only at hSw)
    go_simp
    (try with_reducible rfl)
  (try simp only [Act.put, List.setIfInBounds_toArray, List.set_cons_zero, List.set_cons_succ])
  refine wpAnyH_take (i := 44) (oi := ⟨_, _, _, _, _, _⟩) (v := ?_) rfl (by kernel_rfl) (by kernel_rfl) (by kernel_rfl) (fun _ _ _ h => h) (Or.inl ⟨by rfl, ?_⟩) hHeld ?_
  rotate_left
  · intro w hSw
    (try dsimp only at hSw)
    go_simp
    (try with_reducible rfl)
  (try simp only [Act.put, List.setIfInBounds_toArray, List.set_cons_zero, List.set_cons_succ])
  refine wpAnyH_take (i := 45) (oi := ⟨_, _, _, _, _, _⟩) (v := ?_) rfl (by kernel_rfl) (by kernel_rfl) (by kernel_rfl) (fun _ _ _ h => h) (Or.inl ⟨by rfl, ?_⟩) hHeld ?_
  rotate_left
  · intro w hSw
    (try dsimp only at hSw)
    go_simp
    (try with_reducible rfl)
  (try simp only [Act.put, List.setIfInBounds_toArray, List.set_cons_zero, List.set_cons_succ])
  refine wpAnyH_ready (rs := [46]) (by kernel_rfl) (by simp) ?_
  refine AllReadyH.cons (o := ⟨_, _, _, _, _, _⟩) rfl (fun K hK => ?_) AllReadyH.nil
  go_simp
  refine hK.out _ _ ?_ (fun hNew => ?_)
  · exact awS_later hHeld ((Ext.refl _).alloc _)
  clear hK K
  have hHeldO := hHeld
  replace hHeld := hNew
  clear hNew
  (try simp only [Act.put, List.setIfInBounds_toArray, List.set_cons_zero, List.set_cons_succ])
  refine wpAnyH_ready (rs := [47]) (by kernel_rfl) (by simp) ?_
  refine AllReadyH.cons (o := ⟨_, _, _, _, _, _⟩) rfl (fun K hK => ?_) AllReadyH.nil
  (try go_simp)
  go_at_call 30
  refine (hi2 _ _ (awS_ext hHeldO) (Ext.refl _)).mono ?_
  rintro e x2 ⟨rfl, hb'⟩
  refine hK.out _ _ ?_ (fun hNew => ?_)
  · exact awS_later hHeld hb'
  clear hK K
  replace hHeld := hNew
  clear hNew
  (try simp only [Act.put, List.setIfInBounds_toArray, List.set_cons_zero, List.set_cons_succ])
  refine wpAnyH_take (i := 48) (oi := ⟨_, _, _, _, _, _⟩) (v := ?_) rfl (by kernel_rfl) (by kernel_rfl) (by kernel_rfl) (fun _ _ _ h => h) (Or.inl ⟨by rfl, ?_⟩) hHeld ?_
  rotate_left
  · intro w hSw
    (try dsimp only at hSw)
    go_simp
    (try with_reducible rfl)
  (try simp only [Act.put, List.setIfInBounds_toArray, List.set_cons_zero, List.set_cons_succ])
  refine wpAnyH_take (i := 49) (oi := ⟨_, _, _, _, _, _⟩) (v := ?_) rfl (by kernel_rfl) (by kernel_rfl) (by kernel_rfl) (fun _ _ _ h => h) (Or.inl ⟨by rfl, ?_⟩) hHeld ?_
  rotate_left
  · intro w hSw
    (try dsimp only at hSw)
    go_simp
    (try with_reducible rfl)
  (try simp only [Act.put, List.setIfInBounds_toArray, List.set_cons_zero, List.set_cons_succ])
  refine wpAnyH_take (i := 50) (oi := ⟨_, _, _, _, _, _⟩) (v := ?_) rfl (by kernel_rfl) (by kernel_rfl) (by kernel_rfl) (fun _ _ _ h => h) (Or.inl ⟨by rfl, ?_⟩) hHeld ?_
  rotate_left
  · intro w hSw
    (try dsimp only at hSw)
    go_simp
    (try with_reducible rfl)
  (try simp only [Act.put, List.setIfInBounds_toArray, List.set_cons_zero, List.set_cons_succ])
  refine wpAnyH_take (i := 51) (oi := ⟨_, _, _, _, _, _⟩) (v := ?_) rfl (by kernel_rfl) (by kernel_rfl) (by kernel_rfl) (fun _ _ _ h => h) (Or.inl ⟨by rfl, ?_⟩) hHeld ?_
  rotate_left
  · intro w hSw
    (try dsimp only at hSw)
    go_simp
    (try with_reducible rfl)
  (try simp only [Act.put, List.setIfInBounds_toArray, List.set_cons_zero, List.set_cons_succ])
  refine wpAnyH_take (i := 52) (oi := ⟨_, _, _, _, _, _⟩) (v := ?_) rfl (by kernel_rfl) (by kernel_rfl) (by kernel_rfl) (fun _ _ _ h => h) (Or.inl ⟨by rfl, ?_⟩) hHeld ?_
  rotate_left
  · intro w hSw
    (try dsimp only at hSw)
    go_simp
    (try with_reducible rfl)
  (try simp only [Act.put, List.setIfInBounds_toArray, List.set_cons_zero, List.set_cons_succ])
  refine wpAnyH_take (i := 53) (oi := ⟨_, _, _, _, _, _⟩) (v := ?_) rfl (by kernel_rfl) (by kernel_rfl) (by kernel_rfl) (fun _ _ _ h => h) (Or.inl ⟨by rfl, ?_⟩) hHeld ?_
  rotate_left
  · intro w hSw
    (try dsimp only at hSw)
    go_simp
    (try with_reducible rfl)
  (try simp only [Act.put, List.setIfInBounds_toArray, List.set_cons_zero, List.set_cons_succ])
  refine wpAnyH_take (i := 54) (oi := ⟨_, _, _, _, _, _⟩) (v := ?_) rfl (by kernel_rfl) (by kernel_rfl) (by kernel_rfl) (fun _ _ _ h => h) (Or.inl ⟨by rfl, ?_⟩) hHeld ?_
  rotate_left
  · intro w hSw
    (try dsimp only at hSw)
    go_simp
    (try with_reducible rfl)
  (try simp only [Act.put, List.setIfInBounds_toArray, List.set_cons_zero, List.set_cons_succ])
  refine wpAnyH_take (i := 55) (oi := ⟨_, _, _, _, _, _⟩) (v := ?_) rfl (by kernel_rfl) (by kernel_rfl) (by kernel_rfl) (fun _ _ _ h => h) (Or.inl ⟨by rfl, ?_⟩) hHeld ?_
  rotate_left
  · intro w hSw
    (try dsimp only at hSw)
    go_simp
    (try with_reducible rfl)
  (try simp only [Act.put, List.setIfInBounds_toArray, List.set_cons_zero, List.set_cons_succ])
  refine wpAnyH_take (i := 56) (oi := ⟨_, _, _, _, _, _⟩) (v := ?_) rfl (by kernel_rfl) (by kernel_rfl) (by kernel_rfl) (fun _ _ _ h => h) (Or.inl ⟨by rfl, ?_⟩) hHeld ?_
  rotate_left
  · intro w hSw
    (try dsimp only at hSw)
    go_simp
    (try with_reducible rfl)
  (try simp only [Act.put, List.setIfInBounds_toArray, List.set_cons_zero, List.set_cons_succ])
  refine wpAnyH_take (i := 57) (oi := ⟨_, _, _, _, _, _⟩) (v := ?_) rfl (by kernel_rfl) (by kernel_rfl) (by kernel_rfl) (fun _ _ _ h => h) (Or.inl ⟨by rfl, ?_⟩) hHeld ?_
  rotate_left
  · intro w hSw
    (try dsimp only at hSw)
    go_simp
    (try with_reducible rfl)
  (try simp only [Act.put, List.setIfInBounds_toArray, List.set_cons_zero, List.set_cons_succ])
  refine wpAnyH_take (i := 58) (oi := ⟨_, _, _, _, _, _⟩) (v := ?_) rfl (by kernel_rfl) (by kernel_rfl) (by kernel_rfl) (fun _ _ _ h => h) (Or.inl ⟨by rfl, ?_⟩) hHeld ?_
  rotate_left
  · intro w hSw
    (try dsimp only at hSw)
    go_simp
    (try with_reducible rfl)
  (try simp only [Act.put, List.setIfInBounds_toArray, List.set_cons_zero, List.set_cons_succ])
  refine wpAnyH_ready (rs := [59]) (by kernel_rfl) (by simp) ?_
  refine AllReadyH.cons (o := ⟨_, _, _, _, _, _⟩) rfl (fun K hK => ?_) AllReadyH.nil
  (try go_simp)
  go_at_call 25
  refine (lawspan_any _ _ _).mono ?_
  rintro e x3 ⟨rfl, hb'⟩
  refine hK.out _ _ ?_ (fun hNew => ?_)
  · exact awS_later hHeld hb'
  clear hK K
  replace hHeld := hNew
  clear hNew
  (try simp only [Act.put, List.setIfInBounds_toArray, List.set_cons_zero, List.set_cons_succ])
  refine wpAnyH_take (i := 60) (oi := ⟨_, _, _, _, _, _⟩) (v := ?_) rfl (by kernel_rfl) (by kernel_rfl) (by kernel_rfl) (fun _ _ _ h => h) (Or.inl ⟨by rfl, ?_⟩) hHeld ?_
  rotate_left
  · intro w hSw
    (try dsimp only at hSw)
    go_simp
    (try with_reducible rfl)
  (try simp only [Act.put, List.setIfInBounds_toArray, List.set_cons_zero, List.set_cons_succ])
  refine wpAnyH_take (i := 61) (oi := ⟨_, _, _, _, _, _⟩) (v := ?_) rfl (by kernel_rfl) (by kernel_rfl) (by kernel_rfl) (fun _ _ _ h => h) (Or.inl ⟨by rfl, ?_⟩) hHeld ?_
  rotate_left
  · intro w hSw
    (try dsimp only at hSw)
    go_simp
    (try with_reducible rfl)
  (try simp only [Act.put, List.setIfInBounds_toArray, List.set_cons_zero, List.set_cons_succ])
  refine wpAnyH_take (i := 62) (oi := ⟨_, _, _, _, _, _⟩) (v := ?_) rfl (by kernel_rfl) (by kernel_rfl) (by kernel_rfl) (fun _ _ _ h => h) (Or.inl ⟨by rfl, ?_⟩) hHeld ?_
  rotate_left
  · intro w hSw
    (try dsimp only at hSw)
    go_simp
    (try with_reducible rfl)
  (try simp only [Act.put, List.setIfInBounds_toArray, List.set_cons_zero, List.set_cons_succ])
  refine wpAnyH_take (i := 63) (oi := ⟨_, _, _, _, _, _⟩) (v := ?_) rfl (by kernel_rfl) (by kernel_rfl) (by kernel_rfl) (fun _ _ _ h => h) (Or.inl ⟨by rfl, ?_⟩) hHeld ?_
  rotate_left
  · intro w hSw
    (try dsimp only at hSw)
    go_simp
    (try with_reducible rfl)
  (try simp only [Act.put, List.setIfInBounds_toArray, List.set_cons_zero, List.set_cons_succ])
  refine wpAnyH_take (i := 64) (oi := ⟨_, _, _, _, _, _⟩) (v := ?_) rfl (by kernel_rfl) (by kernel_rfl) (by kernel_rfl) (fun _ _ _ h => h) (Or.inl ⟨by rfl, ?_⟩) hHeld ?_
  rotate_left
  · intro w hSw
    (try dsimp only at hSw)
    go_simp
    (try with_reducible rfl)
  (try simp only [Act.put, List.setIfInBounds_toArray, List.set_cons_zero, List.set_cons_succ])
  refine wpAnyH_ready (rs := [65]) (by kernel_rfl) (by simp) ?_
  refine AllReadyH.cons (o := ⟨_, _, _, _, _, _⟩) rfl (fun K hK => ?_) AllReadyH.nil
  go_simp
  refine hK.out _ _ ?_ (fun hNew => ?_)
  · exact awS_later hHeld ((Ext.refl _).alloc _)
  clear hK K
  replace hHeld := hNew
  clear hNew
  (try simp only [Act.put, List.setIfInBounds_toArray, List.set_cons_zero, List.set_cons_succ])
  refine wpAnyH_ready (rs := [66]) (by kernel_rfl) (by simp) ?_
  refine AllReadyH.cons (o := ⟨_, _, _, _, _, _⟩) rfl (fun K hK => ?_) AllReadyH.nil
  go_simp
  refine hK.out _ _ ?_ (fun hNew => ?_)
  · exact hHeld
  clear hK K
  replace hHeld := hNew
  clear hNew
  (try simp only [Act.put, List.setIfInBounds_toArray, List.set_cons_zero, List.set_cons_succ])
  refine wpAnyH_take (i := 67) (oi := ⟨_, _, _, _, _, _⟩) (v := ?_) rfl (by kernel_rfl) (by kernel_rfl) (by kernel_rfl) (fun _ _ _ h => h) (Or.inl ⟨by rfl, ?_⟩) hHeld ?_
  rotate_left
  · intro w hSw
    (try dsimp only at hSw)
    go_simp
    (try with_reducible rfl)
  (try simp only [Act.put, List.setIfInBounds_toArray, List.set_cons_zero, List.set_cons_succ])
  refine wpAnyH_take (i := 68) (oi := ⟨_, _, _, _, _, _⟩) (v := ?_) rfl (by kernel_rfl) (by kernel_rfl) (by kernel_rfl) (fun _ _ _ h => h) (Or.inl ⟨by rfl, ?_⟩) hHeld ?_
  rotate_left
  · intro w hSw
    (try dsimp only at hSw)
    go_simp
    (try with_reducible rfl)
  (try simp only [Act.put, List.setIfInBounds_toArray, List.set_cons_zero, List.set_cons_succ])
  refine wpAnyH_take (i := 69) (oi := ⟨_, _, _, _, _, _⟩) (v := ?_) rfl (by kernel_rfl) (by kernel_rfl) (by kernel_rfl) (fun _ _ _ h => h) (Or.inl ⟨by rfl, ?_⟩) hHeld ?_
  rotate_left
  · intro w hSw
    (try dsimp only at hSw)
    go_simp
    (try with_reducible rfl)
  (try simp only [Act.put, List.setIfInBounds_toArray, List.set_cons_zero, List.set_cons_succ])
  refine wpAnyH_ready (rs := [70]) (by kernel_rfl) (by simp) ?_
  refine AllReadyH.cons (o := ⟨_, _, _, _, _, _⟩) rfl (fun K hK => ?_) AllReadyH.nil
  (try go_simp)
  go_at_call 31
  refine (awName1 _).mono ?_
  rintro e x4 ⟨rfl, hb'⟩
  refine hK.out _ _ ?_ (fun hNew => ?_)
  · exact awS_later hHeld hb'
  clear hK K
  replace hHeld := hNew
  clear hNew
  (try simp only [Act.put, List.setIfInBounds_toArray, List.set_cons_zero, List.set_cons_succ])
  refine wpAnyH_take (i := 71) (oi := ⟨_, _, _, _, _, _⟩) (v := ?_) rfl (by kernel_rfl) (by kernel_rfl) (by kernel_rfl) (fun _ _ _ h => h) (Or.inl ⟨by rfl, ?_⟩) hHeld ?_
  rotate_left
  · intro w hSw
    (try dsimp only at hSw)
    go_simp
    (try with_reducible rfl)
  (try simp only [Act.put, List.setIfInBounds_toArray, List.set_cons_zero, List.set_cons_succ])
  refine wpAnyH_take (i := 72) (oi := ⟨_, _, _, _, _, _⟩) (v := ?_) rfl (by kernel_rfl) (by kernel_rfl) (by kernel_rfl) (fun _ _ _ h => h) (Or.inl ⟨by rfl, ?_⟩) hHeld ?_
  rotate_left
  · intro w hSw
    (try dsimp only at hSw)
    go_simp
    (try with_reducible rfl)
  (try simp only [Act.put, List.setIfInBounds_toArray, List.set_cons_zero, List.set_cons_succ])
  refine wpAnyH_ready (rs := [73]) (by kernel_rfl) (by simp) ?_
  refine AllReadyH.cons (o := ⟨_, _, _, _, _, _⟩) rfl (fun K hK => ?_) AllReadyH.nil
  (try go_simp)
  go_at_call 31
  refine (awName2 _).mono ?_
  rintro e x5 ⟨rfl, hb'⟩
  refine hK.out _ _ ?_ (fun hNew => ?_)
  · exact awS_later hHeld hb'
  clear hK K
  replace hHeld := hNew
  clear hNew
  (try simp only [Act.put, List.setIfInBounds_toArray, List.set_cons_zero, List.set_cons_succ])
  refine wpAnyH_take (i := 74) (oi := ⟨_, _, _, _, _, _⟩) (v := ?_) rfl (by kernel_rfl) (by kernel_rfl) (by kernel_rfl) (fun _ _ _ h => h) (Or.inl ⟨by rfl, ?_⟩) hHeld ?_
  rotate_left
  · intro w hSw
    (try dsimp only at hSw)
    go_simp
    (try with_reducible rfl)
  (try simp only [Act.put, List.setIfInBounds_toArray, List.set_cons_zero, List.set_cons_succ])
  refine wpAnyH_take (i := 75) (oi := ⟨_, _, _, _, _, _⟩) (v := ?_) rfl (by kernel_rfl) (by kernel_rfl) (by kernel_rfl) (fun _ _ _ h => h) (Or.inl ⟨by rfl, ?_⟩) hHeld ?_
  rotate_left
  · intro w hSw
    (try dsimp only at hSw)
    go_simp
    (try with_reducible rfl)
  (try simp only [Act.put, List.setIfInBounds_toArray, List.set_cons_zero, List.set_cons_succ])
  refine wpAnyH_take (i := 76) (oi := ⟨_, _, _, _, _, _⟩) (v := ?_) rfl (by kernel_rfl) (by kernel_rfl) (by kernel_rfl) (fun _ _ _ h => h) (Or.inl ⟨by rfl, ?_⟩) hHeld ?_
  rotate_left
  · intro w hSw
    (try dsimp only at hSw)
    go_simp
    (try with_reducible rfl)
  (try simp only [Act.put, List.setIfInBounds_toArray, List.set_cons_zero, List.set_cons_succ])
  refine wpAnyH_done (by kernel_rfl) ?_ _
  refine NoPanic.normal ?_
  have hh := hHeld
  have hE := EW.comp hh.1
  clear hh
  go_wp2
  refine bodyPost_ret (v := .bool true) (by simp [results, Tryz.results6, go_sem]) rfl ⟨rfl, hE⟩
end Go.Proofs.YtbcciokmlkofkaaGreat

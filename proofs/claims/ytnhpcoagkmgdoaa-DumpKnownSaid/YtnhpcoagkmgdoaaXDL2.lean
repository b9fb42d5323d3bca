import Derived.Deep.DeepCutAuto
import Derived.Test.YtnhpcoagkmgdoaaXDL1
import Derived.Test.YtnhpcoagkmgdoaaX13
import Derived.Test.YtnhpcoagkmgdoaaX31
import Derived.Test.YtnhpcoagkmgdoaaX20
set_option linter.unusedVariables false
set_option linter.unusedSimpArgs false
/- The law DumpKnown. -/
namespace Go.Q
open Go.RowKit
def lossKn : List Loss := [⟨3, 13, 0⟩]
theorem kn_punch : (punchE []).2 = 0 ∧ (punchE []).1.length = 65 ∧ ∀ r ∈ (punchE []).1, r = 64 := by decide +kernel
end Go.Q
namespace Go.Proofs.Ytnhpcoagkmgdoaa
open Go.RowKit Go.Q Go.Shelf Go.Maps
set_option maxHeartbeats 4000000
set_option maxRecDepth 100000
theorem kn_guard : (guardE st0 lossKn 100).2.2 = 0 ∧ (guardE st0 lossKn 100).1.printed = [7] ∧ (guardE st0 lossKn 100).2.1 = 13 := by decide +kernel
theorem vals_lossKn {w : World} {a : Option Addr} {x y z : Int} (h : ValsAt w a [.int .i64 x, .int .i64 y, .int .i64 z]) : LossAt w a [⟨x, y, z⟩] := by
 rcases h with h | ⟨b, off, ha, hb, hc⟩
 ·cases h
 ·refine .inr ⟨b, off, ha, hb, fun i hi => ?_⟩
  obtain rfl : i = 0 := by simpa using hi
  exact ⟨hc 0 (by simp), hc 1 (by simp), hc 2 (by simp)⟩
theorem lossB_any (w : World) : Calls Try.prog 28 #[.int .i64 13] w fun e w' => ∃ a c, e = .returned (.slice a 1 c) ∧ LossAt w' a lossKn ∧ Ext w w' :=
 (loss10_any 13 w).mono fun e w' ⟨a, c, h1, h2, h3, h4⟩ => ⟨a, c, h1, vals_lossKn h3, h4⟩
theorem knG (v : Value) (la : Option Addr) (lc : Nat) (W : World) (hS : StAt W v st0) (hL : LossAt W la lossKn) : Calls Try.prog 27 #[v, .slice la 1 lc, .int .i64 100] W fun e W' => ∃ a1 a2 a3 n1 n2 c1 c2 c3 m2 m4 m5 m6 m7, e = .returned (.tuple #[.agg #[.slice a1 n1 c1, .slice a2 n2 c2, .int .i64 m2, .slice a3 1 c3, .int .i64 m4, .int .i64 m5, .int .i64 m6, .int .i64 m7], .int .i64 13, .int .i64 0]) ∧ IntsAt W' a3 [7] ∧ Ext W W' := by
 have h := guard_any v st0 lossKn la 1 lc 100 W hS ⟨by decide +kernel, by decide +kernel, by decide +kernel⟩ rfl hL (by decide)
 have hx := kn_guard
 obtain ⟨⟨t, n, e⟩, hp⟩ : ∃ p, guardE st0 lossKn 100 = p := ⟨_, rfl⟩
 rw [hp] at h hx
 obtain ⟨rfl, hd, rfl⟩ := hx
 refine h.mono ?_
 rintro e W' ⟨v', rfl, ⟨a1, a2, a3, k1, k2, k3, rfl, _, _, h3⟩, hE⟩
 dsimp only at hd h3 ⊢
 rw [hd] at h3 ⊢
 exact ⟨_, _, _, _, _, _, _, _, _, _, _, _, _, rfl, h3, hE⟩
theorem knP (W : World) : Calls Try.prog 15 #[.slice none 0 0] W fun e W' => ∃ a c tp, e = .returned (.tuple #[.slice a 65 c, .int .i64 0]) ∧ (tp : List Nat).length = 65 ∧ BytesAt W' a (natI tp) ∧ (∀ r ∈ tp, r = 64) ∧ Ext W W' := by
 have h := lpunch_of ltape_any none 0 0 [] W rfl (by decide) (.inl rfl)
 have hx := kn_punch
 obtain ⟨⟨tp, er⟩, hp⟩ : ∃ p, punchE [] = p := ⟨_, rfl⟩
 rw [hp] at h hx
 dsimp only at hx
 obtain ⟨rfl, hl, h64⟩ := hx
 refine h.mono ?_
 rintro e W' ⟨a', c', rfl, _, hB, hE⟩
 dsimp only at hB ⊢
 exact ⟨a', c', tp, by rw [hl], hl, hB, h64, hE⟩
theorem dumpKnown_of {s : St} (haw : ∀ w, Calls Try.prog 20 #[] w fun e w' => e = .returned (.bool true) ∧ Ext w w') (hP : ∀ W, Calls Try.prog 26 #[] W (RetSt s W))
  (hL : ∀ w, Calls Try.prog 28 #[.int .i64 13] w fun e w' => ∃ a c, e = .returned (.slice a 1 c) ∧ LossAt w' a lossKn ∧ Ext w w')
  (hG : ∀ (v : Value) (la : Option Addr) (lc : Nat) (W : World), StAt W v s → LossAt W la lossKn → Calls Try.prog 27 #[v, .slice la 1 lc, .int .i64 100] W fun e W' => ∃ a1 a2 a3 n1 n2 c1 c2 c3 m2 m4 m5 m6 m7, e = .returned (.tuple #[.agg #[.slice a1 n1 c1, .slice a2 n2 c2, .int .i64 m2, .slice a3 1 c3, .int .i64 m4, .int .i64 m5, .int .i64 m6, .int .i64 m7], .int .i64 13, .int .i64 0]) ∧ IntsAt W' a3 [7] ∧ Ext W W') (w : World) :
  Calls Try.prog 5 #[] w fun e w' => e = .returned (.bool true) ∧ Ext w w' := by
 go_enter Try.func5, Try.ntmps5
 go_wp2_with fail
 refine (hP _).mono ?_
 rintro e w1 ⟨vp, rfl, ⟨p1, p2, p3, k1, k2, k3, rfl, I1, I2, I3⟩, E1⟩
 go_wp2_with fail
 refine (knP _).mono ?_
 rintro e X ⟨ba, bc, tp, rfl, hl, HB, h64, E2⟩
 have gbox : X.heap[w1.heap.size]? = some (.cells #[.slice p1 s.store.length k1, .slice p2 s.tape.length k2, .int .i64 s.taken, .slice p3 s.printed.length k3, .int .i64 s.time, .int .i64 s.at_, .int .i64 s.done, .int .i64 s.why] 33 (0, 0)) := (E2.block w1.heap.size (by simp)).trans (heap_alloc_new w1 _)
 have HS := Lib.hid (fun Y (E : Ext X Y) => (show StAt Y (sv p1 p2 p3 s.store.length k1 s.tape.length k2 s.printed.length k3 s.taken s.time s.at_ s.done s.why) s from (show StAt w1 _ s from ⟨p1, p2, p3, k1, k2, k3, rfl, I1, I2, I3⟩).ext (E2.old.comp E)))
 have HQ := Lib.hid (fun Y (E : Ext X Y) => have gb := (E.block w1.heap.size (lt_of_block gbox)).trans gbox; And.intro (blk_cell gb 0 rfl) (And.intro (blk_cell gb 1 rfl) (And.intro (blk_cell gb 2 rfl) (And.intro (blk_cell gb 3 rfl) (And.intro (blk_cell gb 4 rfl) (And.intro (blk_cell gb 5 rfl) (And.intro (blk_cell gb 6 rfl) (blk_cell gb 7 rfl))))))))
 have HE := Lib.hid (E1.comp E2.old)
 have HB := Lib.hid HB
 have H64 := Lib.hid h64
 have HL := Lib.hid hl
 clear I1 I2 I3 gbox E1 E2 h64 hl
 go_upto_region 3 with fail
 go_cut [4, 5, 6] (fun x18 x19 x20 wx => x19 = .int .i64 13 ∧ x20 = .int .i64 0 ∧ ∃ (D : Nat) (g3 : Option Addr) (d3 : Nat), x18 = .pointer (some ⟨D, 0, none⟩) ∧ D < wx.heap.size ∧ wx.cell? ⟨D, 3, none⟩ = some (.slice g3 1 d3) ∧ IntsAt wx g3 [7] ∧ Ext X wx)
 case first =>
  refine wp_region_Z (fun _ => false) (fun Y => Ext X Y) (by kernel_rfl) (Ext.refl X).drew fun hSX => ?_
  refine tk 0 ⟨_, _, _, _, _, _⟩ ?_ rfl (by kernel_rfl) (fun _ _ _ h => h) (Or.inl ⟨by rfl, ?_⟩) hSX ?_
  rotate_left
  ·intro wX hS
   obtain ⟨q0, q1, q2, q3, q4, q5, q6, q7⟩ := HQ.out wX hS
   go_simp
   (try with_reducible rfl)
  (try simp only [Act.put, List.setIfInBounds_toArray, List.set_cons_zero, List.set_cons_succ])
  refine wpAnyZ_two (i := 1) (j := 7) (oi := ⟨_, _, _, _, _, _⟩) (oj := ⟨_, _, _, _, _, _⟩) (by kernel_rfl) rfl rfl (fun K hK => ?_) (fun K hK => ?_)
  ·go_simp
   go_at_call 28
   refine (hL _).mono ?_
   rintro e ya ⟨la, lc, rfl, HL, Fyaa⟩
   have Fya : Ext X ya := Ext.comp hSX Fyaa
   refine hK _ _ (.inr Fya) (fun _ => ?_)
   clear hK
   (try simp only [Act.put, List.setIfInBounds_toArray, List.set_cons_zero, List.set_cons_succ])
   refine wpAnyZ_two (i := 2) (j := 7) (oi := ⟨_, _, _, _, _, _⟩) (oj := ⟨_, _, _, _, _, _⟩) (by kernel_rfl) rfl rfl (fun K hK => ?_) (fun K hK => ?_)
   ·go_simp
    go_at_call 27
    refine (hG _ _ _ _ (HS.out _ Fya) HL).mono ?_
    rintro e yb ⟨g1, g2, g3, n1, n2, d1, d2, d3, m2, m4, m5, m6, m7, rfl, i3, Fyba⟩
    have Fyb : Ext X yb := Ext.comp Fya Fyba
    refine hK _ _ (.inr Fyb) (fun _ => ?_)
    clear hK
    (try simp only [Act.put, List.setIfInBounds_toArray, List.set_cons_zero, List.set_cons_succ])
    refine tk 3 ⟨_, _, _, _, _, _⟩ ?_ rfl (by kernel_rfl) (fun _ _ _ h => h) (Or.inl ⟨by rfl, ?_⟩) Fyb ?_
    rotate_left
    ·intro wX hS
     go_simp
     (try with_reducible rfl)
    (try simp only [Act.put, List.setIfInBounds_toArray, List.set_cons_zero, List.set_cons_succ])
    refine tk 4 ⟨_, _, _, _, _, _⟩ ?_ rfl (by kernel_rfl) (fun _ _ _ h => h) (Or.inl ⟨by rfl, ?_⟩) Fyb ?_
    rotate_left
    ·intro wX hS
     go_simp
     (try with_reducible rfl)
    (try simp only [Act.put, List.setIfInBounds_toArray, List.set_cons_zero, List.set_cons_succ])
    refine tk 5 ⟨_, _, _, _, _, _⟩ ?_ rfl (by kernel_rfl) (fun _ _ _ h => h) (Or.inl ⟨by rfl, ?_⟩) Fyb ?_
    rotate_left
    ·intro wX hS
     go_simp
     (try with_reducible rfl)
    (try simp only [Act.put, List.setIfInBounds_toArray, List.set_cons_zero, List.set_cons_succ])
    refine tk 6 ⟨_, _, _, _, _, _⟩ ?_ rfl (by kernel_rfl) (fun _ _ _ h => h) (Or.inl ⟨by rfl, ?_⟩) Fyb ?_
    rotate_left
    ·intro wX hS
     go_simp
     (try with_reducible rfl)
    (try simp only [Act.put, List.setIfInBounds_toArray, List.set_cons_zero, List.set_cons_succ])
    refine wpAnyZ_one (i := 7) (o := ⟨_, _, _, _, _, _⟩) (by kernel_rfl) rfl (fun K hK => ?_)
    go_simp
    have FR := Ext.alloc (Ext.refl yb) (.cells #[.slice none 0 0, .slice none 0 0, .int .i64 0, .slice none 0 0, .int .i64 0, .int .i64 0, .int .i64 0, .int .i64 0] 33)
    have gA : (yb.alloc (.cells #[.slice none 0 0, .slice none 0 0, .int .i64 0, .slice none 0 0, .int .i64 0, .int .i64 0, .int .i64 0, .int .i64 0] 33)).heap[yb.heap.size]? = _ := heap_alloc_new yb (.cells #[.slice none 0 0, .slice none 0 0, .int .i64 0, .slice none 0 0, .int .i64 0, .int .i64 0, .int .i64 0, .int .i64 0] 33)
    have Fyc : Ext X ((yb.alloc (.cells #[.slice none 0 0, .slice none 0 0, .int .i64 0, .slice none 0 0, .int .i64 0, .int .i64 0, .int .i64 0, .int .i64 0] 33))) := Ext.alloc Fyb _
    have hDs0 : X.heap.size ≤ yb.heap.size := (Fyb).size
    refine hK _ _ (.inr Fyc) (fun _ => ?_)
    clear hK
    (try simp only [Act.put, List.setIfInBounds_toArray, List.set_cons_zero, List.set_cons_succ])
    obtain ⟨D, hD⟩ : ∃ D, yb.heap.size = D := ⟨_, rfl⟩
    obtain ⟨yc, hyc⟩ : ∃ yc, (yb.alloc (.cells #[.slice none 0 0, .slice none 0 0, .int .i64 0, .slice none 0 0, .int .i64 0, .int .i64 0, .int .i64 0, .int .i64 0] 33)) = yc := ⟨_, rfl⟩
    rw [hD, hyc] at gA
    rw [hyc] at Fyc
    have hDs : X.heap.size ≤ D := by omega
    clear hDs0
    rw [hD, hyc]
    rw [hyc] at FR
    have z0 := blk_cell gA 0 (v := .slice none 0 0) rfl
    have z1 := blk_cell gA 1 (v := .slice none 0 0) rfl
    have z2 := blk_cell gA 2 (v := .int .i64 0) rfl
    have z3 := blk_cell gA 3 (v := .slice none 0 0) rfl
    have z4 := blk_cell gA 4 (v := .int .i64 0) rfl
    have z5 := blk_cell gA 5 (v := .int .i64 0) rfl
    have z6 := blk_cell gA 6 (v := .int .i64 0) rfl
    have z7 := blk_cell gA 7 (v := .int .i64 0) rfl
    have zf0 := blk_free gA 0
    have zf1 := blk_free gA 1
    have zf2 := blk_free gA 2
    have zf3 := blk_free gA 3
    have zf4 := blk_free gA 4
    have zf5 := blk_free gA 5
    have zf6 := blk_free gA 6
    have zf7 := blk_free gA 7
    refine wpAnyZ_one (i := 8) (o := ⟨_, _, _, _, _, _⟩) (by kernel_rfl) rfl (fun K hK => ?_)
    go_simp
    have ES := ext_set8 Fyc hDs (.slice g1 n1 d1) (.slice g2 n2 d2) (.int .i64 m2) (.slice g3 1 d3) (.int .i64 m4) (.int .i64 m5) (.int .i64 m6) (.int .i64 m7)
    have KS := s8_kp (M := fun q => q = D) (w := yc) (b := D) (n0 := .slice g1 n1 d1) (n1 := .slice g2 n2 d2) (n2 := .int .i64 m2) (n3 := .slice g3 1 d3) (n4 := .int .i64 m4) (n5 := .int .i64 m5) (n6 := .int .i64 m6) (n7 := .int .i64 m7) rfl
    unfold S8 at KS
    have g2 := cells_set (cells_set (cells_set (cells_set (cells_set (cells_set (cells_set (cells_set gA 0 (.slice g1 n1 d1)) 1 (.slice g2 n2 d2)) 2 (.int .i64 m2)) 3 (.slice g3 1 d3)) 4 (.int .i64 m4)) 5 (.int .i64 m5)) 6 (.int .i64 m6)) 7 (.int .i64 m7)
    (try simp at g2)
    have j0 := ints_keepZ (i3.ext FR) (ints_farZ (i3.ext FR) gA zeros8 (.inr ⟨0, by decide, by decide⟩)) KS
    refine hK _ _ (.inr ES) (fun _ => ?_)
    clear hK
    (try simp only [Act.put, List.setIfInBounds_toArray, List.set_cons_zero, List.set_cons_succ])
    refine tk 9 ⟨_, _, _, _, _, _⟩ ?_ rfl (by kernel_rfl) (fun _ _ _ h => h) (Or.inl ⟨by rfl, ?_⟩) ES ?_
    rotate_left
    ·intro wX hS
     go_simp
     (try with_reducible rfl)
    (try simp only [Act.put, List.setIfInBounds_toArray, List.set_cons_zero, List.set_cons_succ])
    refine tk 10 ⟨_, _, _, _, _, _⟩ ?_ rfl (by kernel_rfl) (fun _ _ _ h => h) (Or.inl ⟨by rfl, ?_⟩) ES ?_
    rotate_left
    ·intro wX hS
     go_simp
     (try with_reducible rfl)
    (try simp only [Act.put, List.setIfInBounds_toArray, List.set_cons_zero, List.set_cons_succ])
    refine wpAnyZ_done (by kernel_rfl) ?_ _
    go_wp2_with fail
    go_meet
    exact ⟨rfl, rfl, D, g3, d3, rfl, lt_of_block g2, blk_cell g2 3 rfl, j0, ES⟩
   ·go_simp
    have HL2 := HL.ext (Ext.alloc (Ext.refl ya) (.cells #[.slice none 0 0, .slice none 0 0, .int .i64 0, .slice none 0 0, .int .i64 0, .int .i64 0, .int .i64 0, .int .i64 0] 33))
    have gA : (ya.alloc (.cells #[.slice none 0 0, .slice none 0 0, .int .i64 0, .slice none 0 0, .int .i64 0, .int .i64 0, .int .i64 0, .int .i64 0] 33)).heap[ya.heap.size]? = _ := heap_alloc_new ya (.cells #[.slice none 0 0, .slice none 0 0, .int .i64 0, .slice none 0 0, .int .i64 0, .int .i64 0, .int .i64 0, .int .i64 0] 33)
    have Fyb : Ext X ((ya.alloc (.cells #[.slice none 0 0, .slice none 0 0, .int .i64 0, .slice none 0 0, .int .i64 0, .int .i64 0, .int .i64 0, .int .i64 0] 33))) := Ext.alloc Fya _
    have hDs0 : X.heap.size ≤ ya.heap.size := (Fya).size
    refine hK _ _ (.inr Fyb) (fun _ => ?_)
    clear hK
    (try simp only [Act.put, List.setIfInBounds_toArray, List.set_cons_zero, List.set_cons_succ])
    obtain ⟨D, hD⟩ : ∃ D, ya.heap.size = D := ⟨_, rfl⟩
    obtain ⟨yb, hyb⟩ : ∃ yb, (ya.alloc (.cells #[.slice none 0 0, .slice none 0 0, .int .i64 0, .slice none 0 0, .int .i64 0, .int .i64 0, .int .i64 0, .int .i64 0] 33)) = yb := ⟨_, rfl⟩
    rw [hD, hyb] at gA
    rw [hyb] at Fyb
    have hDs : X.heap.size ≤ D := by omega
    clear hDs0
    rw [hD, hyb]
    rw [hyb] at HL2
    refine wpAnyZ_one (i := 2) (o := ⟨_, _, _, _, _, _⟩) (by kernel_rfl) rfl (fun K hK => ?_)
    go_simp
    go_at_call 27
    refine (hG _ _ _ _ (HS.out _ Fyb) HL2).mono ?_
    rintro e yc ⟨g1, g2, g3, n1, n2, d1, d2, d3, m2, m4, m5, m6, m7, rfl, i3, Fyca⟩
    have Fyc : Ext X yc := Ext.comp Fyb Fyca
    refine hK _ _ (.inr Fyc) (fun _ => ?_)
    clear hK
    (try simp only [Act.put, List.setIfInBounds_toArray, List.set_cons_zero, List.set_cons_succ])
    refine tk 3 ⟨_, _, _, _, _, _⟩ ?_ rfl (by kernel_rfl) (fun _ _ _ h => h) (Or.inl ⟨by rfl, ?_⟩) Fyc ?_
    rotate_left
    ·intro wX hS
     go_simp
     (try with_reducible rfl)
    (try simp only [Act.put, List.setIfInBounds_toArray, List.set_cons_zero, List.set_cons_succ])
    refine tk 4 ⟨_, _, _, _, _, _⟩ ?_ rfl (by kernel_rfl) (fun _ _ _ h => h) (Or.inl ⟨by rfl, ?_⟩) Fyc ?_
    rotate_left
    ·intro wX hS
     go_simp
     (try with_reducible rfl)
    (try simp only [Act.put, List.setIfInBounds_toArray, List.set_cons_zero, List.set_cons_succ])
    refine tk 5 ⟨_, _, _, _, _, _⟩ ?_ rfl (by kernel_rfl) (fun _ _ _ h => h) (Or.inl ⟨by rfl, ?_⟩) Fyc ?_
    rotate_left
    ·intro wX hS
     go_simp
     (try with_reducible rfl)
    (try simp only [Act.put, List.setIfInBounds_toArray, List.set_cons_zero, List.set_cons_succ])
    refine tk 6 ⟨_, _, _, _, _, _⟩ ?_ rfl (by kernel_rfl) (fun _ _ _ h => h) (Or.inl ⟨by rfl, ?_⟩) Fyc ?_
    rotate_left
    ·intro wX hS
     go_simp
     (try with_reducible rfl)
    (try simp only [Act.put, List.setIfInBounds_toArray, List.set_cons_zero, List.set_cons_succ])
    have gA := ((Fyca).block D (lt_of_block gA)).trans gA
    have FR := Ext.refl yc
    have z0 := blk_cell gA 0 (v := .slice none 0 0) rfl
    have z1 := blk_cell gA 1 (v := .slice none 0 0) rfl
    have z2 := blk_cell gA 2 (v := .int .i64 0) rfl
    have z3 := blk_cell gA 3 (v := .slice none 0 0) rfl
    have z4 := blk_cell gA 4 (v := .int .i64 0) rfl
    have z5 := blk_cell gA 5 (v := .int .i64 0) rfl
    have z6 := blk_cell gA 6 (v := .int .i64 0) rfl
    have z7 := blk_cell gA 7 (v := .int .i64 0) rfl
    have zf0 := blk_free gA 0
    have zf1 := blk_free gA 1
    have zf2 := blk_free gA 2
    have zf3 := blk_free gA 3
    have zf4 := blk_free gA 4
    have zf5 := blk_free gA 5
    have zf6 := blk_free gA 6
    have zf7 := blk_free gA 7
    refine wpAnyZ_one (i := 8) (o := ⟨_, _, _, _, _, _⟩) (by kernel_rfl) rfl (fun K hK => ?_)
    go_simp
    have ES := ext_set8 Fyc hDs (.slice g1 n1 d1) (.slice g2 n2 d2) (.int .i64 m2) (.slice g3 1 d3) (.int .i64 m4) (.int .i64 m5) (.int .i64 m6) (.int .i64 m7)
    have KS := s8_kp (M := fun q => q = D) (w := yc) (b := D) (n0 := .slice g1 n1 d1) (n1 := .slice g2 n2 d2) (n2 := .int .i64 m2) (n3 := .slice g3 1 d3) (n4 := .int .i64 m4) (n5 := .int .i64 m5) (n6 := .int .i64 m6) (n7 := .int .i64 m7) rfl
    unfold S8 at KS
    have g2 := cells_set (cells_set (cells_set (cells_set (cells_set (cells_set (cells_set (cells_set gA 0 (.slice g1 n1 d1)) 1 (.slice g2 n2 d2)) 2 (.int .i64 m2)) 3 (.slice g3 1 d3)) 4 (.int .i64 m4)) 5 (.int .i64 m5)) 6 (.int .i64 m6)) 7 (.int .i64 m7)
    (try simp at g2)
    have j0 := ints_keepZ (i3.ext FR) (ints_farZ (i3.ext FR) gA zeros8 (.inr ⟨0, by decide, by decide⟩)) KS
    refine hK _ _ (.inr ES) (fun _ => ?_)
    clear hK
    (try simp only [Act.put, List.setIfInBounds_toArray, List.set_cons_zero, List.set_cons_succ])
    refine tk 9 ⟨_, _, _, _, _, _⟩ ?_ rfl (by kernel_rfl) (fun _ _ _ h => h) (Or.inl ⟨by rfl, ?_⟩) ES ?_
    rotate_left
    ·intro wX hS
     go_simp
     (try with_reducible rfl)
    (try simp only [Act.put, List.setIfInBounds_toArray, List.set_cons_zero, List.set_cons_succ])
    refine tk 10 ⟨_, _, _, _, _, _⟩ ?_ rfl (by kernel_rfl) (fun _ _ _ h => h) (Or.inl ⟨by rfl, ?_⟩) ES ?_
    rotate_left
    ·intro wX hS
     go_simp
     (try with_reducible rfl)
    (try simp only [Act.put, List.setIfInBounds_toArray, List.set_cons_zero, List.set_cons_succ])
    refine wpAnyZ_done (by kernel_rfl) ?_ _
    go_wp2_with fail
    go_meet
    exact ⟨rfl, rfl, D, g3, d3, rfl, lt_of_block g2, blk_cell g2 3 rfl, j0, ES⟩
  ·go_simp
   have gA : (X.alloc (.cells #[.slice none 0 0, .slice none 0 0, .int .i64 0, .slice none 0 0, .int .i64 0, .int .i64 0, .int .i64 0, .int .i64 0] 33)).drew.heap[X.heap.size]? = _ := heap_alloc_new X (.cells #[.slice none 0 0, .slice none 0 0, .int .i64 0, .slice none 0 0, .int .i64 0, .int .i64 0, .int .i64 0, .int .i64 0] 33)
   have Fyn : Ext X ((X.alloc (.cells #[.slice none 0 0, .slice none 0 0, .int .i64 0, .slice none 0 0, .int .i64 0, .int .i64 0, .int .i64 0, .int .i64 0] 33)).drew) := (Ext.alloc (Ext.refl X) _).drew
   have hDs0 : X.heap.size ≤ X.heap.size := ((Ext.refl X)).size
   refine hK _ _ (.inr Fyn) (fun _ => ?_)
   clear hK
   (try simp only [Act.put, List.setIfInBounds_toArray, List.set_cons_zero, List.set_cons_succ])
   obtain ⟨D, hD⟩ : ∃ D, X.heap.size = D := ⟨_, rfl⟩
   obtain ⟨yn, hyn⟩ : ∃ yn, (X.alloc (.cells #[.slice none 0 0, .slice none 0 0, .int .i64 0, .slice none 0 0, .int .i64 0, .int .i64 0, .int .i64 0, .int .i64 0] 33)).drew = yn := ⟨_, rfl⟩
   rw [hD, hyn] at gA
   rw [hyn] at Fyn
   have hDs : X.heap.size ≤ D := by omega
   clear hDs0
   rw [hD, hyn]
   refine wpAnyZ_one (i := 1) (o := ⟨_, _, _, _, _, _⟩) (by kernel_rfl) rfl (fun K hK => ?_)
   go_simp
   go_at_call 28
   refine (hL _).mono ?_
   rintro e ya ⟨la, lc, rfl, HL, Fyaa⟩
   have Fya : Ext X ya := Ext.comp Fyn Fyaa
   refine hK _ _ (.inr Fya) (fun _ => ?_)
   clear hK
   (try simp only [Act.put, List.setIfInBounds_toArray, List.set_cons_zero, List.set_cons_succ])
   have gA := ((Fyaa).block D (lt_of_block gA)).trans gA
   refine wpAnyZ_one (i := 2) (o := ⟨_, _, _, _, _, _⟩) (by kernel_rfl) rfl (fun K hK => ?_)
   go_simp
   go_at_call 27
   refine (hG _ _ _ _ (HS.out _ Fya) HL).mono ?_
   rintro e yb ⟨g1, g2, g3, n1, n2, d1, d2, d3, m2, m4, m5, m6, m7, rfl, i3, Fyba⟩
   have Fyb : Ext X yb := Ext.comp Fya Fyba
   refine hK _ _ (.inr Fyb) (fun _ => ?_)
   clear hK
   (try simp only [Act.put, List.setIfInBounds_toArray, List.set_cons_zero, List.set_cons_succ])
   refine tk 3 ⟨_, _, _, _, _, _⟩ ?_ rfl (by kernel_rfl) (fun _ _ _ h => h) (Or.inl ⟨by rfl, ?_⟩) Fyb ?_
   rotate_left
   ·intro wX hS
    go_simp
    (try with_reducible rfl)
   (try simp only [Act.put, List.setIfInBounds_toArray, List.set_cons_zero, List.set_cons_succ])
   refine tk 4 ⟨_, _, _, _, _, _⟩ ?_ rfl (by kernel_rfl) (fun _ _ _ h => h) (Or.inl ⟨by rfl, ?_⟩) Fyb ?_
   rotate_left
   ·intro wX hS
    go_simp
    (try with_reducible rfl)
   (try simp only [Act.put, List.setIfInBounds_toArray, List.set_cons_zero, List.set_cons_succ])
   refine tk 5 ⟨_, _, _, _, _, _⟩ ?_ rfl (by kernel_rfl) (fun _ _ _ h => h) (Or.inl ⟨by rfl, ?_⟩) Fyb ?_
   rotate_left
   ·intro wX hS
    go_simp
    (try with_reducible rfl)
   (try simp only [Act.put, List.setIfInBounds_toArray, List.set_cons_zero, List.set_cons_succ])
   refine tk 6 ⟨_, _, _, _, _, _⟩ ?_ rfl (by kernel_rfl) (fun _ _ _ h => h) (Or.inl ⟨by rfl, ?_⟩) Fyb ?_
   rotate_left
   ·intro wX hS
    go_simp
    (try with_reducible rfl)
   (try simp only [Act.put, List.setIfInBounds_toArray, List.set_cons_zero, List.set_cons_succ])
   have gA := ((Fyba).block D (lt_of_block gA)).trans gA
   have FR := Ext.refl yb
   have z0 := blk_cell gA 0 (v := .slice none 0 0) rfl
   have z1 := blk_cell gA 1 (v := .slice none 0 0) rfl
   have z2 := blk_cell gA 2 (v := .int .i64 0) rfl
   have z3 := blk_cell gA 3 (v := .slice none 0 0) rfl
   have z4 := blk_cell gA 4 (v := .int .i64 0) rfl
   have z5 := blk_cell gA 5 (v := .int .i64 0) rfl
   have z6 := blk_cell gA 6 (v := .int .i64 0) rfl
   have z7 := blk_cell gA 7 (v := .int .i64 0) rfl
   have zf0 := blk_free gA 0
   have zf1 := blk_free gA 1
   have zf2 := blk_free gA 2
   have zf3 := blk_free gA 3
   have zf4 := blk_free gA 4
   have zf5 := blk_free gA 5
   have zf6 := blk_free gA 6
   have zf7 := blk_free gA 7
   refine wpAnyZ_one (i := 8) (o := ⟨_, _, _, _, _, _⟩) (by kernel_rfl) rfl (fun K hK => ?_)
   go_simp
   have ES := ext_set8 Fyb hDs (.slice g1 n1 d1) (.slice g2 n2 d2) (.int .i64 m2) (.slice g3 1 d3) (.int .i64 m4) (.int .i64 m5) (.int .i64 m6) (.int .i64 m7)
   have KS := s8_kp (M := fun q => q = D) (w := yb) (b := D) (n0 := .slice g1 n1 d1) (n1 := .slice g2 n2 d2) (n2 := .int .i64 m2) (n3 := .slice g3 1 d3) (n4 := .int .i64 m4) (n5 := .int .i64 m5) (n6 := .int .i64 m6) (n7 := .int .i64 m7) rfl
   unfold S8 at KS
   have g2 := cells_set (cells_set (cells_set (cells_set (cells_set (cells_set (cells_set (cells_set gA 0 (.slice g1 n1 d1)) 1 (.slice g2 n2 d2)) 2 (.int .i64 m2)) 3 (.slice g3 1 d3)) 4 (.int .i64 m4)) 5 (.int .i64 m5)) 6 (.int .i64 m6)) 7 (.int .i64 m7)
   (try simp at g2)
   have j0 := ints_keepZ (i3.ext FR) (ints_farZ (i3.ext FR) gA zeros8 (.inr ⟨0, by decide, by decide⟩)) KS
   refine hK _ _ (.inr ES) (fun _ => ?_)
   clear hK
   (try simp only [Act.put, List.setIfInBounds_toArray, List.set_cons_zero, List.set_cons_succ])
   refine tk 9 ⟨_, _, _, _, _, _⟩ ?_ rfl (by kernel_rfl) (fun _ _ _ h => h) (Or.inl ⟨by rfl, ?_⟩) ES ?_
   rotate_left
   ·intro wX hS
    go_simp
    (try with_reducible rfl)
   (try simp only [Act.put, List.setIfInBounds_toArray, List.set_cons_zero, List.set_cons_succ])
   refine tk 10 ⟨_, _, _, _, _, _⟩ ?_ rfl (by kernel_rfl) (fun _ _ _ h => h) (Or.inl ⟨by rfl, ?_⟩) ES ?_
   rotate_left
   ·intro wX hS
    go_simp
    (try with_reducible rfl)
   (try simp only [Act.put, List.setIfInBounds_toArray, List.set_cons_zero, List.set_cons_succ])
   refine wpAnyZ_done (by kernel_rfl) ?_ _
   go_wp2_with fail
   go_meet
   exact ⟨rfl, rfl, D, g3, d3, rfl, lt_of_block g2, blk_cell g2 3 rfl, j0, ES⟩
 case rest =>
  obtain ⟨rfl, rfl, D3, pz, dz, rfl, hD3, hc3, hi3, FC⟩ := hcut
  obtain ⟨X1, rfl⟩ : ∃ q : World, q = wc := ⟨_, rfl⟩
  go_wp2_with fail
  refine (ints_same _ _ 1 _ _ [7] _ rfl (by decide) (hi3.ext ((Ext.refl _).alloc _)) (ints_fresh rfl (Ext.refl _))).mono ?_
  rintro e X2 ⟨rfl, G2⟩
  have HB2 := HB.out.ext (FC.comp G2.old)
  have HE2 := Lib.hid (HE.out.comp (FC.comp G2.old))
  obtain ⟨b, off, rfl, hb, hc⟩ : ∃ b off, ba = some ⟨b, off, none⟩ ∧ b < X2.heap.size ∧ ∀ i, i < 65 → X2.cell? ⟨b, off + i, none⟩ = some (.int .u8 64) := by
   rcases HB2 with h | ⟨b, off, ha, hb, hc⟩
   ·have := natI_length tp; rw [h, HL.out] at this; exact absurd this (by decide)
   ·refine ⟨b, off, ha, hb, fun i hi => ?_⟩
    rw [hc i (by rw [natI_length, HL.out]; exact hi), natI_get]
    have : tp[i]?.getD 0 = 64 := by
     rw [List.getElem?_eq_getElem (by rw [HL.out]; exact hi)]
     exact H64.out _ (List.getElem_mem _)
    rw [this]
    rfl
  have HC := Lib.hid hc
  clear hc HB2 G2 FC hc3 hi3 hD3 HS HQ
  go_wp2_with fail
  go_loopw [7] (fun s7 wr => ∃ i : Nat, i ≤ 65 ∧ s7 = .int .i64 (i : Int) ∧ wr = X2) (fun s7 _ => 65 - (Go.RowKit.intOf s7).toNat)
  case atStart => exact ⟨0, Nat.zero_le _, rfl, rfl⟩
  case round =>
   obtain ⟨i, hi, rfl, rfl⟩ := hrel
   by_cases hlt : i < 65
   ·have hltz : (i : Int) < 65 := by omega
    have hx := HC.out i hlt
    go_wp2
    go_roundw
    case rel => exact ⟨i + 1, by omega, by go_num, (by first | rfl | trivial)⟩
    case measure => simp [Go.RowKit.intOf]; omega
   ·have hltz : ¬ (i : Int) < 65 := by omega
    go_wp2_with fail
    refine (haw _).mono ?_
    rintro e w7 ⟨rfl, E7⟩
    go_wp2_with fail
    go_ret
    exact ⟨rfl, HE2.out.comp E7⟩
theorem dumpKnown_any (haw : ∀ w, Calls Try.prog 20 #[] w fun e w' => e = .returned (.bool true) ∧ Ext w w') (w : World) : Calls Try.prog 5 #[] w fun e w' => e = .returned (.bool true) ∧ Ext w w' :=
 dumpKnown_of haw program_any lossB_any knG w
end Go.Proofs.Ytnhpcoagkmgdoaa

import Derived.RegionTactic
import Derived.Deep.RegionLaw
import Derived.Deep.RegionHeld3
import Derived.Deep.DeepCutAuto
import Derived.BigRegion
import Derived.Test.YtnhpcoagkmgdoaaX21
import Derived.Test.YtnhpcoagkmgdoaaX20
import Derived.Test.YtnhpcoagkmgdoaaX18
import Derived.Test.YtnhpcoagkmgdoaaX4
set_option linter.unusedVariables false
set_option linter.unusedSimpArgs false
/- Layer 10: a copy of the state. -/
namespace Go.Proofs.Ytnhpcoagkmgdoaa
open Go.RowKit Go.Q Go.Shelf Go.Maps
set_option maxHeartbeats 4000000
set_option maxRecDepth 100000
theorem IntsT.kp {M : Nat → Prop} {W W' : World} {a : Option Addr} {xs : List Int} (h : IntsT W a xs) (K : KpM M W W') (hM : ∀ b cs fr, W.heap[b]? = some (.cells cs 3 fr) → ¬ M b) : IntsT W' a xs :=
 h.imp id fun ⟨b, off, cs, fr, ha, hb, hc⟩ => ⟨b, off, cs, fr, ha, (K.block b (lt_of_block hb) (hM b cs fr hb)).trans hb, fun i hi => (K.cell (lt_of_block hb) (hM b cs fr hb)).trans (hc i hi)⟩
theorem state_any (m mb : Nat) (L : List Loss) (x : Lm) (W : World) {ex : Nat → Prop} (h : LinAt W m mb L x ex) (hv : Valid x.s) :
  Calls Try.prog 66 #[.pointer (some ⟨m, 0, none⟩)] W fun e W' => ∃ v, e = .returned v ∧ StAtT W' v x.s ∧ Ext W W' := by
 obtain ⟨a1, a2, a3, c1, c2, c3, hB, i1, i2, i3, hM⟩ := h
 have EW := fun ob => (Ext.refl W).alloc ob
 have b0 := fun ob => (hB.ext (EW ob)).c0
 have b1 := fun ob => (hB.ext (EW ob)).c1
 have b2 := fun ob => (hB.ext (EW ob)).c2
 have b3 := fun ob => (hB.ext (EW ob)).c3
 have b4 := fun ob => (hB.ext (EW ob)).c4
 have b5 := fun ob => (hB.ext (EW ob)).c5
 have b6 := fun ob => (hB.ext (EW ob)).c6
 have b7 := fun ob => (hB.ext (EW ob)).c7
 have hc1 := fun X (E : Ext W X) => clone_any a1 x.s.store.length c1 x.s.store X rfl (by rw [hv.len]; omega) (i1.at_.ext E)
 have hc2 := fun X (E : Ext W X) => clone_any a2 x.s.tape.length c2 x.s.tape X rfl (by have := hv.tlen; omega) (i2.at_.ext E)
 have hc3 := fun X (E : Ext W X) => clone_any a3 x.s.printed.length c3 x.s.printed X rfl (by have := hv.plen; omega) (i3.at_.ext E)
 clear EW
 go_enter Try.func66, Try.ntmps66
 go_wp2
 have E0 : Ext W ((W.alloc (.cells #[.slice none 0 0, .slice none 0 0, .int .i64 0, .slice none 0 0, .int .i64 0, .int .i64 0, .int .i64 0, .int .i64 0] 33)).alloc (.cells #[.slice a1 x.s.store.length c1, .slice a2 x.s.tape.length c2, .int .i64 x.s.taken, .slice a3 x.s.printed.length c3, .int .i64 x.s.time, .int .i64 x.s.at_, .int .i64 x.s.done, .int .i64 x.s.why] 33)) := ((Ext.refl W).alloc _).alloc _
 have hR : ((W.alloc (.cells #[.slice none 0 0, .slice none 0 0, .int .i64 0, .slice none 0 0, .int .i64 0, .int .i64 0, .int .i64 0, .int .i64 0] 33)).alloc (.cells #[.slice a1 x.s.store.length c1, .slice a2 x.s.tape.length c2, .int .i64 x.s.taken, .slice a3 x.s.printed.length c3, .int .i64 x.s.time, .int .i64 x.s.at_, .int .i64 x.s.done, .int .i64 x.s.why] 33)).heap[W.heap.size]? = some (.cells #[.slice none 0 0, .slice none 0 0, .int .i64 0, .slice none 0 0, .int .i64 0, .int .i64 0, .int .i64 0, .int .i64 0] 33 (0, 0)) :=
  (((Ext.refl _).alloc _).block W.heap.size (by simp)).trans (heap_alloc_new W _)
 have hD : ((W.alloc (.cells #[.slice none 0 0, .slice none 0 0, .int .i64 0, .slice none 0 0, .int .i64 0, .int .i64 0, .int .i64 0, .int .i64 0] 33)).alloc (.cells #[.slice a1 x.s.store.length c1, .slice a2 x.s.tape.length c2, .int .i64 x.s.taken, .slice a3 x.s.printed.length c3, .int .i64 x.s.time, .int .i64 x.s.at_, .int .i64 x.s.done, .int .i64 x.s.why] 33)).heap[W.heap.size + 1]? = some (.cells #[.slice a1 x.s.store.length c1, .slice a2 x.s.tape.length c2, .int .i64 x.s.taken, .slice a3 x.s.printed.length c3, .int .i64 x.s.time, .int .i64 x.s.at_, .int .i64 x.s.done, .int .i64 x.s.why] 33 (0, 0)) := by
  have e := heap_alloc_new (W.alloc (.cells #[.slice none 0 0, .slice none 0 0, .int .i64 0, .slice none 0 0, .int .i64 0, .int .i64 0, .int .i64 0, .int .i64 0] 33)) (.cells #[.slice a1 x.s.store.length c1, .slice a2 x.s.tape.length c2, .int .i64 x.s.taken, .slice a3 x.s.printed.length c3, .int .i64 x.s.time, .int .i64 x.s.at_, .int .i64 x.s.done, .int .i64 x.s.why] 33)
  rw [World.size_alloc] at e
  exact e
 obtain ⟨X, hX⟩ : ∃ X, ((W.alloc (.cells #[.slice none 0 0, .slice none 0 0, .int .i64 0, .slice none 0 0, .int .i64 0, .int .i64 0, .int .i64 0, .int .i64 0] 33)).alloc (.cells #[.slice a1 x.s.store.length c1, .slice a2 x.s.tape.length c2, .int .i64 x.s.taken, .slice a3 x.s.printed.length c3, .int .i64 x.s.time, .int .i64 x.s.at_, .int .i64 x.s.done, .int .i64 x.s.why] 33)) = X := ⟨_, rfl⟩
 rw [hX] at E0 hR hD ⊢
 obtain ⟨R, hRn⟩ : ∃ R, W.heap.size = R := ⟨_, rfl⟩
 obtain ⟨D, hDn⟩ : ∃ D, R + 1 = D := ⟨_, rfl⟩
 rw [hRn] at hR hD ⊢
 rw [hDn] at hD ⊢
 have hRD : R ≠ D := by omega
 have hWR : W.heap.size ≤ R := by omega
 have hWD : W.heap.size ≤ D := by omega
 clear b0 b1 b2 b3 b4 b5 b6 b7 hX hRn
 have HS : ∀ Y : World, Ext X Y → Y.cell? ⟨D, 0, none⟩ = some (.slice a1 x.s.store.length c1) ∧ Y.cell? ⟨D, 1, none⟩ = some (.slice a2 x.s.tape.length c2) ∧ Y.cell? ⟨D, 3, none⟩ = some (.slice a3 x.s.printed.length c3) := fun Y E => by
  have h := (E.block D (lt_of_block hD)).trans hD
  exact ⟨blk_cell h 0 rfl, blk_cell h 1 rfl, blk_cell h 3 rfl⟩
 have EX : Ext X X.drew := (Ext.refl X).drew
 refine wp_region_Z (fun i => decide (9 ≤ i)) (fun Y => Ext X Y) (by kernel_rfl) EX fun hSX => ?_
 refine wpAnyZ_take (i := 0) (oi := ⟨_, _, _, _, _, _⟩) (v := ?_) rfl (by kernel_rfl) (by kernel_rfl) (by kernel_rfl) (by kernel_rfl) (fun _ _ _ h => h) (Or.inl ⟨by rfl, ?_⟩) hSX ?_
 rotate_left
 ·intro wX hS
  obtain ⟨q0, q1, q2⟩ := HS wX hS
  go_simp
  (try with_reducible rfl)
 (try simp only [Act.put, List.setIfInBounds_toArray, List.set_cons_zero, List.set_cons_succ])
 refine wpAnyZ_take (i := 1) (oi := ⟨_, _, _, _, _, _⟩) (v := ?_) rfl (by kernel_rfl) (by kernel_rfl) (by kernel_rfl) (by kernel_rfl) (fun _ _ _ h => h) (Or.inl ⟨by rfl, ?_⟩) hSX ?_
 rotate_left
 ·intro wX hS
  obtain ⟨q0, q1, q2⟩ := HS wX hS
  go_simp
  (try with_reducible rfl)
 (try simp only [Act.put, List.setIfInBounds_toArray, List.set_cons_zero, List.set_cons_succ])
 refine wpAnyZ_take (i := 3) (oi := ⟨_, _, _, _, _, _⟩) (v := ?_) rfl (by kernel_rfl) (by kernel_rfl) (by kernel_rfl) (by kernel_rfl) (fun _ _ _ h => h) (Or.inl ⟨by rfl, ?_⟩) hSX ?_
 rotate_left
 ·intro wX hS
  obtain ⟨q0, q1, q2⟩ := HS wX hS
  go_simp
  (try with_reducible rfl)
 (try simp only [Act.put, List.setIfInBounds_toArray, List.set_cons_zero, List.set_cons_succ])
 refine wpAnyZ_take (i := 4) (oi := ⟨_, _, _, _, _, _⟩) (v := ?_) rfl (by kernel_rfl) (by kernel_rfl) (by kernel_rfl) (by kernel_rfl) (fun _ _ _ h => h) (Or.inl ⟨by rfl, ?_⟩) hSX ?_
 rotate_left
 ·intro wX hS
  obtain ⟨q0, q1, q2⟩ := HS wX hS
  go_simp
  (try with_reducible rfl)
 (try simp only [Act.put, List.setIfInBounds_toArray, List.set_cons_zero, List.set_cons_succ])
 refine wpAnyZ_take (i := 6) (oi := ⟨_, _, _, _, _, _⟩) (v := ?_) rfl (by kernel_rfl) (by kernel_rfl) (by kernel_rfl) (by kernel_rfl) (fun _ _ _ h => h) (Or.inl ⟨by rfl, ?_⟩) hSX ?_
 rotate_left
 ·intro wX hS
  obtain ⟨q0, q1, q2⟩ := HS wX hS
  go_simp
  (try with_reducible rfl)
 (try simp only [Act.put, List.setIfInBounds_toArray, List.set_cons_zero, List.set_cons_succ])
 refine wpAnyZ_take (i := 7) (oi := ⟨_, _, _, _, _, _⟩) (v := ?_) rfl (by kernel_rfl) (by kernel_rfl) (by kernel_rfl) (by kernel_rfl) (fun _ _ _ h => h) (Or.inl ⟨by rfl, ?_⟩) hSX ?_
 rotate_left
 ·intro wX hS
  obtain ⟨q0, q1, q2⟩ := HS wX hS
  go_simp
  (try with_reducible rfl)
 (try simp only [Act.put, List.setIfInBounds_toArray, List.set_cons_zero, List.set_cons_succ])
 refine wpAnyZ_one (i := 2) (o := ⟨_, _, _, _, _, _⟩) (by kernel_rfl) rfl (fun K hK => ?_)
 go_simp
 go_at_call 96
 refine (hc1 _ (E0.comp EX)).mono ?_
 rintro e y1 ⟨p1, d1, rfl, O1, E1⟩
 have EX1 := EX.comp E1
 refine hK _ _ (.inr EX1) (fun _ => ?_)
 clear hK
 (try simp only [Act.put, List.setIfInBounds_toArray, List.set_cons_zero, List.set_cons_succ])
 refine wpAnyZ_takeP (i := 9) (oi := ⟨_, _, _, _, _, _⟩) (v := ?_) rfl (by kernel_rfl) (by kernel_rfl) (by kernel_rfl) (by kernel_rfl) (fun _ _ _ h => h) (Or.inl ⟨by rfl, ?_⟩) ?_
 rotate_left
 ·intro wX _
  go_simp
  (try with_reducible rfl)
 (try simp only [Act.put, List.setIfInBounds_toArray, List.set_cons_zero, List.set_cons_succ])
 refine wpAnyZ_one (i := 5) (o := ⟨_, _, _, _, _, _⟩) (by kernel_rfl) rfl (fun K hK => ?_)
 go_simp
 go_at_call 96
 refine (hc2 _ (E0.comp EX1)).mono ?_
 rintro e y2 ⟨p2, d2, rfl, O2, E2⟩
 have EX2 := EX1.comp E2
 refine hK _ _ (.inr EX2) (fun _ => ?_)
 clear hK
 (try simp only [Act.put, List.setIfInBounds_toArray, List.set_cons_zero, List.set_cons_succ])
 refine wpAnyZ_one (i := 8) (o := ⟨_, _, _, _, _, _⟩) (by kernel_rfl) rfl (fun K hK => ?_)
 go_simp
 go_at_call 96
 refine (hc3 _ (E0.comp EX2)).mono ?_
 rintro e y3 ⟨p3, d3, rfl, O3, E3⟩
 have EX3 := EX2.comp E3
 refine hK _ _ (.inr EX3) (fun _ => ?_)
 clear hK
 (try simp only [Act.put, List.setIfInBounds_toArray, List.set_cons_zero, List.set_cons_succ])
 have g0 := (EX3.block D (lt_of_block hD)).trans hD
 have EW3 := E0.comp EX3
 have hRy := (EX3.block R (lt_of_block hR)).trans hR
 have o1 := own_intsT O1
 have o2 := own_intsT O2
 have o3 := own_intsT O3
 clear HS hc1 hc2 hc3 EX
 have f0 := blk_free g0 0
 have e0 := blk_cell g0 0 rfl
 have g1 := cells_set g0 0 (.slice p1 x.s.store.length d1)
 refine wpAnyZ_one (i := 10) (o := ⟨_, _, _, _, _, _⟩) (by kernel_rfl) rfl (fun K hK => ?_)
 go_simp
 refine hK _ _ (.inl rfl) (fun _ => ?_)
 clear hK
 (try simp only [Act.put, List.setIfInBounds_toArray, List.set_cons_zero, List.set_cons_succ])
 refine wpAnyZ_takeP (i := 11) (oi := ⟨_, _, _, _, _, _⟩) (v := ?_) rfl (by kernel_rfl) (by kernel_rfl) (by kernel_rfl) (by kernel_rfl) (fun _ _ _ h => h) (Or.inl ⟨by rfl, ?_⟩) ?_
 rotate_left
 ·intro wX _
  go_simp
  (try with_reducible rfl)
 (try simp only [Act.put, List.setIfInBounds_toArray, List.set_cons_zero, List.set_cons_succ])
 have f1 := blk_free g1 1
 have e1 := blk_cell g1 1 rfl
 have g2 := cells_set g1 1 (.slice p2 x.s.tape.length d2)
 refine wpAnyZ_one (i := 12) (o := ⟨_, _, _, _, _, _⟩) (by kernel_rfl) rfl (fun K hK => ?_)
 go_simp
 refine hK _ _ (.inl rfl) (fun _ => ?_)
 clear hK
 (try simp only [Act.put, List.setIfInBounds_toArray, List.set_cons_zero, List.set_cons_succ])
 refine wpAnyZ_takeP (i := 13) (oi := ⟨_, _, _, _, _, _⟩) (v := ?_) rfl (by kernel_rfl) (by kernel_rfl) (by kernel_rfl) (by kernel_rfl) (fun _ _ _ h => h) (Or.inl ⟨by rfl, ?_⟩) ?_
 rotate_left
 ·intro wX _
  go_simp
  (try with_reducible rfl)
 (try simp only [Act.put, List.setIfInBounds_toArray, List.set_cons_zero, List.set_cons_succ])
 have f2 := blk_free g2 3
 have e2 := blk_cell g2 3 rfl
 have g3 := cells_set g2 3 (.slice p3 x.s.printed.length d3)
 refine wpAnyZ_one (i := 14) (o := ⟨_, _, _, _, _, _⟩) (by kernel_rfl) rfl (fun K hK => ?_)
 go_simp
 refine hK _ _ (.inl rfl) (fun _ => ?_)
 clear hK
 (try simp only [Act.put, List.setIfInBounds_toArray, List.set_cons_zero, List.set_cons_succ])
 refine wpAnyZ_done (by kernel_rfl) ?_ _
 have KV : KpM (fun q => q = D) y3 (((y3.setCell ⟨D, 0, none⟩ (.slice p1 x.s.store.length d1)).setCell ⟨D, 1, none⟩ (.slice p2 x.s.tape.length d2)).setCell ⟨D, 3, none⟩ (.slice p3 x.s.printed.length d3)) :=
  ((kpm_set (M := fun q => q = D) _ D 0 _ rfl).trans (kpm_set (M := fun q => q = D) _ D 1 _ rfl)).trans (kpm_set (M := fun q => q = D) _ D 3 _ rfl)
 generalize ((y3.setCell ⟨D, 0, none⟩ (.slice p1 x.s.store.length d1)).setCell ⟨D, 1, none⟩ (.slice p2 x.s.tape.length d2)).setCell ⟨D, 3, none⟩ (.slice p3 x.s.printed.length d3) = V at *
 have gV : V.heap[D]? = some (.cells #[.slice p1 x.s.store.length d1, .slice p2 x.s.tape.length d2, .int .i64 x.s.taken, .slice p3 x.s.printed.length d3, .int .i64 x.s.time, .int .i64 x.s.at_, .int .i64 x.s.done, .int .i64 x.s.why] 33 (0, 0)) := by simpa using g3
 have hRV := (KV.block R (lt_of_block hRy) hRD).trans hRy
 have hno : ∀ b cs fr, y3.heap[b]? = some (.cells cs 3 fr) → ¬ b = D := fun b cs fr hb e => by
  rw [e, g0] at hb
  cases hb
 have I1 := Lib.hid (((o1.ext E2).ext E3).kp KV hno)
 have I2 := Lib.hid ((o2.ext E3).kp KV hno)
 have I3 := Lib.hid (o3.kp KV hno)
 have EV : Ext W V := EW3.below5 KV (fun b hb => by rw [hb]; exact hWD)
 clear f0 f1 f2 e0 e1 e2 g0 g1 g2 g3 hRy O1 O2 O3 o1 o2 o3 KV hno EX1 EX2 EX3 EW3 E1 E2 E3 hD hR E0 hSX
 have c0 := cell_of_cells gV 0 (v := .slice p1 x.s.store.length d1) rfl
 have c1 := cell_of_cells gV 1 (v := .slice p2 x.s.tape.length d2) rfl
 have c2 := cell_of_cells gV 2 (v := .int .i64 x.s.taken) rfl
 have c3 := cell_of_cells gV 3 (v := .slice p3 x.s.printed.length d3) rfl
 have c4 := cell_of_cells gV 4 (v := .int .i64 x.s.time) rfl
 have c5 := cell_of_cells gV 5 (v := .int .i64 x.s.at_) rfl
 have c6 := cell_of_cells gV 6 (v := .int .i64 x.s.done) rfl
 have c7 := cell_of_cells gV 7 (v := .int .i64 x.s.why) rfl
 have q0 := cell_of_cells hRV 0 (v := .slice none 0 0) rfl
 have q1 := cell_of_cells hRV 1 (v := .slice none 0 0) rfl
 have q2 := cell_of_cells hRV 2 (v := .int .i64 0) rfl
 have q3 := cell_of_cells hRV 3 (v := .slice none 0 0) rfl
 have q4 := cell_of_cells hRV 4 (v := .int .i64 0) rfl
 have q5 := cell_of_cells hRV 5 (v := .int .i64 0) rfl
 have q6 := cell_of_cells hRV 6 (v := .int .i64 0) rfl
 have q7 := cell_of_cells hRV 7 (v := .int .i64 0) rfl
 have f0 := free_of_cells hRV 0
 have f1 := free_of_cells hRV 1
 have f2 := free_of_cells hRV 2
 have f3 := free_of_cells hRV 3
 have f4 := free_of_cells hRV 4
 have f5 := free_of_cells hRV 5
 have f6 := free_of_cells hRV 6
 have f7 := free_of_cells hRV 7
 go_wp2
 refine bodyPost_ret (v := .agg #[.slice p1 x.s.store.length d1, .slice p2 x.s.tape.length d2, .int .i64 x.s.taken, .slice p3 x.s.printed.length d3, .int .i64 x.s.time, .int .i64 x.s.at_, .int .i64 x.s.done, .int .i64 x.s.why]) (by simp [results, Try.results66, go_sem, q0, q1, q2, q3, q4, q5, q6, q7]) rfl ?_
 have hb := hRV
 have KR := s8_kp (M := fun q => q = R) (w := V) (b := R) (n0 := .slice p1 x.s.store.length d1) (n1 := .slice p2 x.s.tape.length d2) (n2 := .int .i64 x.s.taken) (n3 := .slice p3 x.s.printed.length d3) (n4 := .int .i64 x.s.time) (n5 := .int .i64 x.s.at_) (n6 := .int .i64 x.s.done) (n7 := .int .i64 x.s.why) rfl
 have hnR : ∀ b cs fr, V.heap[b]? = some (.cells cs 3 fr) → ¬ b = R := fun b cs fr hb e => by
  rw [e, hRV] at hb
  cases hb
 exact ⟨_, rfl, ⟨p1, p2, p3, d1, d2, d3, rfl, I1.out.kp KR hnR, I2.out.kp KR hnR, I3.out.kp KR hnR⟩, EV.below5 KR (fun b hb => by rw [hb]; exact hWR)⟩
end Go.Proofs.Ytnhpcoagkmgdoaa
/- Layer 10: what looks at words; what catches a word that is noticed. -/
namespace Go.Proofs.Ytnhpcoagkmgdoaa
open Go.RowKit Go.Q Go.Shelf Go.Maps
set_option maxHeartbeats 4000000
set_option maxRecDepth 100000
def lostP (x : Int) : List PanicEntry := [{ v := .iface 158 (.int .i64 x), recovered := false }]
theorem shut_any (m : Nat) (a : Int) (w : World) : Calls Try.prog 139 #[.agg #[], .pointer (some ⟨m, 0, none⟩), .int .i64 a] w fun e w' => e = .returned (.tuple #[]) ∧ Ext w w' := by
 go_enter Try.func139, Try.ntmps139
 go_wp2
 go_end0
 exact ⟨rfl, (by repeat (first | with_reducible exact Ext.refl w | with_reducible refine Ext.alloc ?_ _ | with_reducible refine Below.drew ?_))⟩
theorem sharp_ok (m mb p : Nat) (L : List Loss) (x : Lm) (w : World) {ex : Nat → Prop} (h : LinAt w m mb L x ex) (hp : p < 128) (hb : x.bad[p]?.getD false = false) :
  Calls Try.prog 138 #[.agg #[], .pointer (some ⟨m, 0, none⟩), .int .i64 (p : Int)] w fun e w' => e = .returned (.tuple #[]) ∧ Ext w w' := by
 obtain ⟨a1, a2, a3, c1, c2, c3, hB, _⟩ := h
 have hc := fun ob => (hB.ext ((Ext.refl w).alloc ob)).cb p hp
 rw [hb] at hc
 have hpz : (0 : Int) ≤ (p : Int) := by omega
 have hpn : (p : Int) < 128 := by omega
 go_enter Try.func138, Try.ntmps138
 go_wp2
 go_end0
 exact ⟨rfl, (by repeat (first | with_reducible exact Ext.refl w | with_reducible refine Ext.alloc ?_ _ | with_reducible refine Below.drew ?_))⟩
theorem sharp_bad (m mb p : Nat) (L : List Loss) (x : Lm) (w : World) {ex : Nat → Prop} (h : LinAt w m mb L x ex) (hp : p < 128) (hb : x.bad[p]?.getD false = true) :
  Calls Try.prog 138 #[.agg #[], .pointer (some ⟨m, 0, none⟩), .int .i64 (p : Int)] w fun e w' => e = .panicked (lostP p) ∧ Ext w w' := by
 obtain ⟨a1, a2, a3, c1, c2, c3, hB, _⟩ := h
 have hc := fun ob => (hB.ext ((Ext.refl w).alloc ob)).cb p hp
 rw [hb] at hc
 have hpz : (0 : Int) ≤ (p : Int) := by omega
 have hpn : (p : Int) < 128 := by omega
 go_enter Try.func138, Try.ntmps138
 go_wp2
 exact ⟨rfl, rfl, (by repeat (first | with_reducible exact Ext.refl w | with_reducible refine Ext.alloc ?_ _ | with_reducible refine Below.drew ?_))⟩
theorem assertLost (v : Value) (xT : TypeId) (w : World) : (Instr.typeAssert (.iface 158 v) xT 158 false).run Try.prog w = .ok v w := by
 simp [Instr.typeAssert, run_underlying Try.underlying158, go_sem, Result.andThen]
theorem step_idle (b0 : Nat) (w : World) (n : Nat) :
  CallsDIn Fence.wide n Try.prog 99 #[.pointer (some ⟨b0, 0, none⟩)] .returning w fun e u' w' => e = .returned (.tuple #[]) ∧ u' = .returning ∧ w' = w := by
 refine callsDIn_of_wpSIn Try.func99 rfl trivial fun c₀ cs hu => ?_
 apply wpSIn_seq
 apply wpSIn_region
 simp [wpOpsSIn, go_sem, recoverD, hu, Try.ntmps99, Exit.thenS]
 apply wpSIn_seq
 apply wpSIn_region
 simp [wpOpsSIn, go_sem, Exit.thenS, Array.replicate]
 refine wpSIn_cond (t := false) (by simp [Act.eval, Array.replicate]) ?_
 simp only [Bool.false_eq_true, if_false]
 refine wpSIn_of_wpIn rfl (wpIn_skip ?_)
 cases c₀
 simp_all [bodyPostS, results, Try.results99]
theorem step_caught (b0 : Nat) (x : Int) (u : Value) (w : World) (n : Nat) (h0 : w.heap[b0]? = some (.cells #[u] 3 (0, 0))) :
  CallsDIn Fence.wide n Try.prog 99 #[.pointer (some ⟨b0, 0, none⟩)] (.panicking (lostP x)) w fun e u' w' => e = .returned (.tuple #[]) ∧ settle u' = .returning ∧ w'.heap[b0]? = some (.cells #[.int .i64 x] 3 (0, 0)) ∧ KpM (fun q => q = b0) w w' := by
 refine callsDIn_of_wpSIn Try.func99 rfl trivial fun c₀ cs hu => ?_
 apply wpSIn_seq
 apply wpSIn_region
 simp [wpOpsSIn, go_sem, recoverD, hu, Try.ntmps99, Exit.thenS, lostP]
 apply wpSIn_seq
 apply wpSIn_region
 simp [wpOpsSIn, go_sem, Exit.thenS, Array.replicate]
 refine wpSIn_cond (t := true) (by simp [Act.eval, Array.replicate]) ?_
 simp only [if_true]
 refine wpSIn_of_wpIn rfl ?_
 clear hu
 refine wpIn_wide.2 ?_
 have hta := assertLost
 have c0 := cell_of_cells h0 0 (v := u) rfl
 have f0 := free_of_cells h0 0
 go_wp2
 have e := cells_set h0 0 (.int .i64 x)
 have k := kpm_set (M := fun q => q = b0) w b0 0 (.int .i64 x) rfl
 clear h0 c0 f0 hta
 generalize w.setCell ⟨b0, 0, none⟩ (.int .i64 x) = W at *
 simp [bodyPostS, results, Try.results99, settle, k]
 simpa using e
end Go.Proofs.Ytnhpcoagkmgdoaa
/- Layer 4's open and Run again: the lists that Run returns lie in new blocks. -/
namespace Go.Proofs.Ytnhpcoagkmgdoaa
open Go.RowKit Go.Q
/-- open has made a machine -/
def OpenResN (s : St) (w : World) (e : Ending) (w' : World) : Prop :=
 ∃ m g1 c1 tv pv, e = .returned (.tuple #[.pointer (some ⟨m, 0, none⟩), .int .i64 0]) ∧ Mac w' w.heap.size m g1 c1 tv pv s ⟨0, 0, 0, 0⟩ ∧ Ext w w' ∧ (∀ b, tv.ownBlock = some b → w.heap.size ≤ b)
/-- the copy of the state, with slices of the call's own -/
def BoxResN (s : St) (w : World) (wx : World) : Prop :=
 ∃ g1 cs tv pv, wx.heap[w.heap.size]? = some (.cells #[.slice (some ⟨g1, 0, none⟩) 128 cs, tv, .int .i64 s.taken, pv, .int .i64 s.time, .int .i64 s.at_, .int .i64 s.done, .int .i64 s.why] 33 (0, 0)) ∧
  Parts wx w.heap.size w.heap.size g1 cs tv pv s ∧ Ext w wx ∧ (∀ b, tv.ownBlock = some b → w.heap.size ≤ b)
theorem box_resN {w W0 ws wt wp W : World} {a1 a2 a3 as_ at_ ap : Option Addr} {c1 c2 c3 cs ct cp ns nt np n2 n3 : Nat} {s : St}
  (E0 : Ext (w.alloc (.cells #[.slice a1 128 c1, .slice a2 n2 c2, .int .i64 s.taken, .slice a3 n3 c3, .int .i64 s.time, .int .i64 s.at_, .int .i64 s.done, .int .i64 s.why] 33)) W0)
  (hs : ws.ownsRow ns 3 1 (.slice as_ 128 cs) 128 (iv s.store)) (ht : wt.ownsRow nt 3 1 (.slice at_ n2 ct) n2 (iv s.tape)) (hp : wp.ownsRow np 3 1 (.slice ap n3 cp) n3 (iv s.printed))
  (hl : s.store.length = 128 ∧ s.tape.length = n2 ∧ s.printed.length = n3) (EW : Ext W0 W)
  (es : Ext ws W) (et : Ext wt W) (ep : Ext wp W) (ls : w.heap.size < ns) (lt : w.heap.size < nt) (lp : w.heap.size < np)
  (d1 : ws.heap.size ≤ nt ∨ wt.heap.size ≤ ns) (d2 : ws.heap.size ≤ np ∨ wp.heap.size ≤ ns) (d3 : wt.heap.size ≤ np ∨ wp.heap.size ≤ nt) :
  BoxResN s w (((W.setCell ⟨w.heap.size, 0, none⟩ (.slice as_ 128 cs)).setCell ⟨w.heap.size, 1, none⟩ (.slice at_ n2 ct)).setCell ⟨w.heap.size, 3, none⟩ (.slice ap n3 cp)) := by
 obtain ⟨hl1, rfl, rfl⟩ := hl
 obtain ⟨g1, rfl, hP⟩ := parts_of (nb := w.heap.size) (B := w.heap.size) hs ht hp es et ep ⟨ls, by omega⟩ ⟨lt, by omega⟩ ⟨lp, by omega⟩ hl1 d1 d2 d3
 have hB : W.heap[w.heap.size]? = _ := ((E0.comp EW).block w.heap.size (by simp)).trans (show (w.heap.push _)[w.heap.size]? = _ by simp; rfl)
 refine ⟨g1, cs, _, _, cells_set (cells_set (cells_set hB 0 _) 1 _) 3 _, ((hP.set 0 _).set 1 _).set 3 _, ?_, fun b hb => by have := (own_at ht hb).1; omega⟩
 exact (((E0.old.comp EW).setCell (p := ⟨w.heap.size, 0, none⟩) (Nat.le_refl _) _).setCell (p := ⟨w.heap.size, 1, none⟩) (Nat.le_refl _) _).setCell (p := ⟨w.heap.size, 3, none⟩) (Nat.le_refl _) _
set_option maxHeartbeats 4000000 in
set_option maxRecDepth 100000 in
theorem open_okN (a1 a2 a3 : Option Addr) (n2 n3 c1 c2 c3 : Nat) (s : St) (most : Int) (w : World) (l1 : s.store.length = 128) (l2 : s.tape.length = n2) (l3 : s.printed.length = n3) (b2 : n2 ≤ 200) (b3 : n3 ≤ 200)
  (i1 : IntsAt w a1 s.store) (i2 : IntsAt w a2 s.tape) (i3 : IntsAt w a3 s.printed) (hz : checkQ s = (0, 0, 0)) (hm : inB most 0 5000 = true) :
  Calls Try.prog 69 #[sv a1 a2 a3 128 c1 n2 c2 n3 c3 s.taken s.time s.at_ s.done s.why, .int .i64 most] w (OpenResN s w) := by
 have hc := fun W (E : Ext w W) => check_any (sv a1 a2 a3 128 c1 n2 c2 n3 c3 s.taken s.time s.at_ s.done s.why) s W ⟨a1, a2, a3, c1, c2, c3, by rw [l1, l2, l3], i1.ext E, i2.ext E, i3.ext E⟩ ⟨by omega, by omega, by omega⟩
 rw [hz] at hc
 have hcs' := fun W (E : Ext w W) => clone_any a1 128 c1 s.store W l1 (by decide) (i1.ext E)
 have hct' := fun W (E : Ext w W) => clone_any a2 n2 c2 s.tape W l2 (by omega) (i2.ext E)
 have hcp' := fun W (E : Ext w W) => clone_any a3 n3 c3 s.printed W l3 (by omega) (i3.ext E)
 have Hl := Lib.hid (And.intro l1 (And.intro l2 l3))
 clear i1 i2 i3 l1 l2 l3 hz
 go_enter Try.func69, Try.ntmps69
 go_wp2_with fail
 refine (hc _ (by exact (Ext.refl w).alloc _)).mono ?_
 rintro e w1 ⟨rfl, hb1⟩
 unfold v3
 go_wp2_with fail
 refine (out_one _ most _ _ (by simp) (by simp)).mono ?_
 rintro e W0 ⟨rfl, hb2⟩
 have E0 := hb1.comp hb2.old
 clear hc hb1 hb2
 have hcs := fun W (E : Ext W0 W) => hcs' W (E0.old.comp E)
 have hct := fun W (E : Ext W0 W) => hct' W (E0.old.comp E)
 have hcp := fun W (E : Ext W0 W) => hcp' W (E0.old.comp E)
 clear hcs' hct' hcp'
 have p0 := box_at (v := .slice a1 128 c1) E0 0 rfl
 have p1 := box_at (v := .slice a2 n2 c2) E0 1 rfl
 have p3 := box_at (v := .slice a3 n3 c3) E0 3 rfl
 have z0 : w.heap.size < W0.heap.size := by have := E0.size; simp at this; omega
 go_upto_region 6 with fail
 go_cut [] (fun wx => BoxResN s w wx)
 case first =>
  go_region_law (first | (go_simp; go_at_call_of 96 (Value.slice a1 128 c1); refine (hcs _ (by first | exact EBt | exact EBp | exact (Ext.refl W0).drew)).mono ?_; rintro e ws ⟨aas, ccs, rfl, hos, hbs⟩; have EBs : Ext W0 ws := (by first | exact Ext.comp EBt hbs | exact Ext.comp EBp hbs | exact Ext.comp (Ext.refl W0).drew hbs); have sc0 := box_at (v := .slice a1 128 c1) (E0.comp EBs) 0 rfl; have sf0 := box_free (E0.comp EBs) 0; have sc1 := box_at (v := .slice a2 n2 c2) (E0.comp EBs) 1 rfl; have sf1 := box_free (E0.comp EBs) 1; have sc3 := box_at (v := .slice a3 n3 c3) (E0.comp EBs) 3 rfl; have sf3 := box_free (E0.comp EBs) 3) | (go_simp; go_at_call_of 96 (Value.slice a2 n2 c2); refine (hct _ (by first | exact EBs | exact EBp | exact (Ext.refl W0).drew)).mono ?_; rintro e wt ⟨aat, cct, rfl, hot, hbt⟩; have EBt : Ext W0 wt := (by first | exact Ext.comp EBs hbt | exact Ext.comp EBp hbt | exact Ext.comp (Ext.refl W0).drew hbt); have tc0 := box_at (v := .slice a1 128 c1) (E0.comp EBt) 0 rfl; have tf0 := box_free (E0.comp EBt) 0; have tc1 := box_at (v := .slice a2 n2 c2) (E0.comp EBt) 1 rfl; have tf1 := box_free (E0.comp EBt) 1; have tc3 := box_at (v := .slice a3 n3 c3) (E0.comp EBt) 3 rfl; have tf3 := box_free (E0.comp EBt) 3) | (go_simp; go_at_call_of 96 (Value.slice a3 n3 c3); refine (hcp _ (by first | exact EBs | exact EBt | exact (Ext.refl W0).drew)).mono ?_; rintro e wp ⟨aap, ccp, rfl, hop, hbp⟩; have EBp : Ext W0 wp := (by first | exact Ext.comp EBs hbp | exact Ext.comp EBt hbp | exact Ext.comp (Ext.refl W0).drew hbp); have pc0 := box_at (v := .slice a1 128 c1) (E0.comp EBp) 0 rfl; have pf0 := box_free (E0.comp EBp) 0; have pc1 := box_at (v := .slice a2 n2 c2) (E0.comp EBp) 1 rfl; have pf1 := box_free (E0.comp EBp) 1; have pc3 := box_at (v := .slice a3 n3 c3) (E0.comp EBp) 3 rfl; have pf3 := box_free (E0.comp EBp) 3))
  all_goals
   go_wp2_with fail
   go_meet
   exact box_resN E0 hos hot hop Hl.out (by first | exact EBs | exact EBt | exact EBp) (by first | exact Ext.refl _ | exact hbs | exact hbt | exact hbp | exact hbs.comp hbt | exact hbs.comp hbp | exact hbt.comp hbs | exact hbt.comp hbp | exact hbp.comp hbs | exact hbp.comp hbt) (by first | exact Ext.refl _ | exact hbs | exact hbt | exact hbp | exact hbs.comp hbt | exact hbs.comp hbp | exact hbt.comp hbs | exact hbt.comp hbp | exact hbp.comp hbs | exact hbp.comp hbt) (by first | exact Ext.refl _ | exact hbs | exact hbt | exact hbp | exact hbs.comp hbt | exact hbs.comp hbp | exact hbt.comp hbs | exact hbt.comp hbp | exact hbp.comp hbs | exact hbp.comp hbt) (by first | exact z0 | exact Nat.lt_of_lt_of_le z0 EBs.size | exact Nat.lt_of_lt_of_le z0 EBt.size | exact Nat.lt_of_lt_of_le z0 EBp.size) (by first | exact z0 | exact Nat.lt_of_lt_of_le z0 EBs.size | exact Nat.lt_of_lt_of_le z0 EBt.size | exact Nat.lt_of_lt_of_le z0 EBp.size) (by first | exact z0 | exact Nat.lt_of_lt_of_le z0 EBs.size | exact Nat.lt_of_lt_of_le z0 EBt.size | exact Nat.lt_of_lt_of_le z0 EBp.size) (by first | exact .inl (Nat.le_refl _) | exact .inr (Nat.le_refl _) | exact .inl hbs.size | exact .inl hbt.size | exact .inl hbp.size | exact .inr hbs.size | exact .inr hbt.size | exact .inr hbp.size) (by first | exact .inl (Nat.le_refl _) | exact .inr (Nat.le_refl _) | exact .inl hbs.size | exact .inl hbt.size | exact .inl hbp.size | exact .inr hbs.size | exact .inr hbt.size | exact .inr hbp.size) (by first | exact .inl (Nat.le_refl _) | exact .inr (Nat.le_refl _) | exact .inl hbs.size | exact .inl hbt.size | exact .inl hbp.size | exact .inr hbs.size | exact .inr hbt.size | exact .inr hbp.size)
 case rest =>
  obtain ⟨g1, cs, tv, pv, hB, hP, hE, hN⟩ := hcut
  have HN := Lib.hid hN
  clear hN
  have k0 := cell_of_cells hB 0 (v := .slice (some ⟨g1, 0, none⟩) 128 cs) rfl
  have k1 := cell_of_cells hB 1 (v := tv) rfl
  have k2 := cell_of_cells hB 2 (v := .int .i64 s.taken) rfl
  have k3 := cell_of_cells hB 3 (v := pv) rfl
  have k4 := cell_of_cells hB 4 (v := .int .i64 s.time) rfl
  have k5 := cell_of_cells hB 5 (v := .int .i64 s.at_) rfl
  have k6 := cell_of_cells hB 6 (v := .int .i64 s.done) rfl
  have k7 := cell_of_cells hB 7 (v := .int .i64 s.why) rfl
  have hM := hP.mac hE.size ⟨0, 0, 0, 0⟩
  have hE2 : Ext w _ := hE.alloc (.cells (mcells g1 cs tv pv s ⟨0, 0, 0, 0⟩) 124)
  have HM := Lib.hid hM
  clear hM hB hP
  obtain ⟨at2, ct2, rfl⟩ : ∃ a c, tv = .slice a s.tape.length c := by
   obtain ⟨a, c, h, _⟩ := HM.out.tp
   exact ⟨a, c, h⟩
  obtain ⟨ap2, cp2, rfl⟩ : ∃ a c, pv = .slice a s.printed.length c := own_form HM.out.prow
  go_wp2_with fail
  go_ret2
  exact ⟨_, _, _, _, _, rfl, HM.out, hE2, HN.out⟩
/-- a state whose lists lie in new blocks -/
def StAtN (nb : Nat) (w : World) (v : Value) (s : St) : Prop := ∃ a1 a2 a3 c1 c2 c3, v = sv a1 a2 a3 s.store.length c1 s.tape.length c2 s.printed.length c3 s.taken s.time s.at_ s.done s.why ∧ IntsF (fun q => q < nb) w a1 s.store ∧ IntsF (fun q => q < nb) w a2 s.tape ∧ IntsF (fun q => q < nb) w a3 s.printed
def StResN (p : St × Int) (w : World) (e : Ending) (w' : World) : Prop := ∃ v, e = .returned (.tuple #[v, .int .i64 p.2]) ∧ StAtN w.heap.size w' v p.1 ∧ Ext w w'
set_option maxHeartbeats 4000000 in
set_option maxRecDepth 100000 in
theorem run_goodN (v : Value) (s : St) (most : Int) (w : World) (h : StAt w v s) (hb : StBd s) (he : askedQ s most = 0) :
  Calls Try.prog 31 #[v, .int .i64 most] w (StResN (runE s most) w) := by
 have e1 : runE s most = (runQ most.toNat s, 0) := by simp [runE, he]
 rw [e1]
 obtain ⟨z1, z2⟩ := asked_ok he
 have hv := valid_of_check z1
 have z3 := check_zero z1
 obtain ⟨p0, p1⟩ := inB_bd z2
 obtain ⟨a1, a2, a3, k1, k2, k3, rfl, i1, i2, i3⟩ := h
 rw [hv.len]
 have ho := fun W (E : Ext w W) => open_okN a1 a2 a3 _ _ k1 k2 k3 s most W hv.len rfl rfl hv.tlen hv.plen (i1.ext E) (i2.ext E) (i3.ext E) z3 z2
 clear i1 i2 i3 z1 z2 z3 he e1 hb
 obtain ⟨n, rfl⟩ := Int.eq_ofNat_of_zero_le p0
 have hn : n ≤ 5000 := by omega
 have HV := Lib.hid hv
 clear hv p0 p1
 have en : ((n : Int)).toNat = n := rfl
 rw [en]
 clear en
 go_enter Try.func31, Try.ntmps31
 go_wp2_with fail
 refine (ho _ (by exact ((Ext.refl w).alloc _).alloc _)).mono ?_
 rintro e w3 ⟨m, g1, c1, tv, pv, rfl, M, hb3, htv⟩
 clear ho
 have HTV := Lib.hid htv
 clear htv
 go_wp2_with fail
 refine (run_any w3 (w.heap.size + 2) n 71 #[] (fun _ _ => True) M HV.out hn (by simp) (enters_of Try.func71 (by kernel_rfl) rfl) keepM_tell trivial).mono ?_
 rintro e w4 ⟨rfl, ⟨pv4, o4, M4⟩, _, hB4⟩
 have hb4 : Ext ((w.alloc _).alloc _) w4 := hb3.trans (by simpa using hB4)
 have q0 := box_at2 (v := .slice none 0 0) hb4 0 rfl
 have q1 := box_at2 (v := .slice none 0 0) hb4 1 rfl
 have q2 := box_at2 (v := .int .i64 0) hb4 2 rfl
 have q3 := box_at2 (v := .slice none 0 0) hb4 3 rfl
 have q4 := box_at2 (v := .int .i64 0) hb4 4 rfl
 have q5 := box_at2 (v := .int .i64 0) hb4 5 rfl
 have q6 := box_at2 (v := .int .i64 0) hb4 6 rfl
 have q7 := box_at2 (v := .int .i64 0) hb4 7 rfl
 have f0 := box_free2 hb4 0
 have f1 := box_free2 hb4 1
 have f2 := box_free2 hb4 2
 have f3 := box_free2 hb4 3
 have f4 := box_free2 hb4 4
 have f5 := box_free2 hb4 5
 have f6 := box_free2 hb4 6
 have f7 := box_free2 hb4 7
 obtain ⟨b2, bt, b3, bp, rfl, rfl, _, _, _⟩ := M4.reads
 have M5 := M4.keep (keep8 (blk2 hb4) (by decide) (by decide) (.slice (some ⟨g1, 0, none⟩) 128 c1) (.slice b2 (runQ n s).tape.length bt) (.int .i64 (runQ n s).taken) (.slice b3 (runQ n s).printed.length bp) (.int .i64 (runQ n s).time) (.int .i64 (runQ n s).at_) (.int .i64 (runQ n s).done) (.int .i64 (runQ n s).why))
 have HM5 := Lib.hid M5
 clear M5
 have r0 := M4.c 0 (v := .slice (some ⟨g1, 0, none⟩) 128 c1) rfl
 have r1 := M4.c 1 (v := .slice b2 (runQ n s).tape.length bt) rfl
 have r2 := M4.c 2 (v := .int .i64 (runQ n s).taken) rfl
 have r3 := M4.c 3 (v := .slice b3 (runQ n s).printed.length bp) rfl
 have r4 := M4.c 4 (v := .int .i64 (runQ n s).time) rfl
 have r5 := M4.c 5 (v := .int .i64 (runQ n s).at_) rfl
 have r6 := M4.c 6 (v := .int .i64 (runQ n s).done) rfl
 have r7 := M4.c 7 (v := .int .i64 (runQ n s).why) rfl
 have hlen := Lib.hid M4.len
 clear M M4 hB4 hb3
 go_wp2_with fail
 refine bodyPost_ret (v := .tuple #[.agg #[.slice (some ⟨g1, 0, none⟩) 128 c1, .slice b2 (runQ n s).tape.length bt, .int .i64 (runQ n s).taken, .slice b3 (runQ n s).printed.length bp, .int .i64 (runQ n s).time, .int .i64 (runQ n s).at_, .int .i64 (runQ n s).done, .int .i64 (runQ n s).why], .int .i64 0]) (by simp [results, Try.results31, go_sem, q0, q1, q2, q3, q4, q5, q6, q7]) rfl ?_
 have hM := HM5.out
 obtain ⟨d2, dt, d3, dp, x1, x2, I1, I2, I3⟩ := hM.readsT
 obtain ⟨rfl, -, rfl⟩ := Value.slice.inj x1
 obtain ⟨rfl, -, rfl⟩ := Value.slice.inj x2
 have hsz : ((w.alloc (.cells #[.slice a1 128 k1, .slice a2 s.tape.length k2, .int .i64 s.taken, .slice a3 s.printed.length k3, .int .i64 s.time, .int .i64 s.at_, .int .i64 s.done, .int .i64 s.why] 33))).heap.size = w.heap.size + 1 := by simp
 have hlo := hM.low
 have hpr := hM.prow
 refine ⟨_, rfl, ⟨some ⟨g1, 0, none⟩, b2, b3, c1, bt, bp, by rw [hlen.out], ?_, ?_, ?_⟩, ext_set8 (Ext.old (Ext.old hb4)) (by omega) _ _ _ _ _ _ _ _⟩
 ·exact (I1.at_).imp id fun ⟨b, off, ha, hb, hc⟩ => ⟨b, off, ha, by cases ha; simp at hlo; omega, hb, hc⟩
 ·exact (I2.at_).imp id fun ⟨b, off, ha, hb, hc⟩ => ⟨b, off, ha, by have := HTV.out b (by rw [ha]; rfl); simp at this; omega, hb, hc⟩
 ·exact (I3.at_).imp id fun ⟨b, off, ha, hb, hc⟩ => ⟨b, off, ha, by have := (own_at hpr (b := b) (by rw [ha]; rfl)).1; simp at this; omega, hb, hc⟩
theorem runE_anyN (v : Value) (s : St) (most : Int) (w : World) (h : StAt w v s) (hb : StBd s) (he : askedQ s most = 0) : Calls Try.prog 31 #[v, .int .i64 most] w (StResN (runE s most) w) := run_goodN v s most w h hb he
end Go.Proofs.Ytnhpcoagkmgdoaa
/- Layer 4's Run once more: what it has printed has the room that its length says. -/
namespace Go.Proofs.Ytnhpcoagkmgdoaa
open Go.RowKit Go.Q
def StResP (p : St × Int) (w : World) (e : Ending) (w' : World) : Prop := ∃ a1 a2 a3 c1 c2 c3, e = .returned (.tuple #[sv a1 a2 a3 p.1.store.length c1 p.1.tape.length c2 p.1.printed.length c3 p.1.taken p.1.time p.1.at_ p.1.done p.1.why, .int .i64 p.2]) ∧
 IntsF (fun q => q < w.heap.size) w' a1 p.1.store ∧ IntsF (fun q => q < w.heap.size) w' a2 p.1.tape ∧ IntsF (fun q => q < w.heap.size) w' a3 p.1.printed ∧ (p.1.printed.length ≤ c3 ∧ c3 ≤ 9223372036854775807) ∧ Ext w w'
theorem capP {w : World} {B t sz m n c : Nat} {a : Option Addr} {xs : List Value} (h : w.ownsRow B t sz (.slice a m c) n xs) : m ≤ c ∧ c ≤ 9223372036854775807 := by
 rcases h.2 with ⟨h1, h2⟩ | ⟨g, cap, cur, h1, h2, h3, h4, h5, h6⟩
 ·obtain ⟨-, h8, h9⟩ := Value.slice.inj h1
  omega
 ·obtain ⟨-, rfl, rfl⟩ := Value.slice.inj h1
  unfold maxLen at h5
  omega
set_option maxHeartbeats 4000000 in
set_option maxRecDepth 100000 in
theorem run_goodP (v : Value) (s : St) (most : Int) (w : World) (h : StAt w v s) (hb : StBd s) (he : askedQ s most = 0) :
  Calls Try.prog 31 #[v, .int .i64 most] w (StResP (runE s most) w) := by
 have e1 : runE s most = (runQ most.toNat s, 0) := by simp [runE, he]
 rw [e1]
 obtain ⟨z1, z2⟩ := asked_ok he
 have hv := valid_of_check z1
 have z3 := check_zero z1
 obtain ⟨p0, p1⟩ := inB_bd z2
 obtain ⟨a1, a2, a3, k1, k2, k3, rfl, i1, i2, i3⟩ := h
 rw [hv.len]
 have ho := fun W (E : Ext w W) => open_okN a1 a2 a3 _ _ k1 k2 k3 s most W hv.len rfl rfl hv.tlen hv.plen (i1.ext E) (i2.ext E) (i3.ext E) z3 z2
 clear i1 i2 i3 z1 z2 z3 he e1 hb
 obtain ⟨n, rfl⟩ := Int.eq_ofNat_of_zero_le p0
 have hn : n ≤ 5000 := by omega
 have HV := Lib.hid hv
 clear hv p0 p1
 have en : ((n : Int)).toNat = n := rfl
 rw [en]
 clear en
 go_enter Try.func31, Try.ntmps31
 go_wp2_with fail
 refine (ho _ (by exact ((Ext.refl w).alloc _).alloc _)).mono ?_
 rintro e w3 ⟨m, g1, c1, tv, pv, rfl, M, hb3, htv⟩
 clear ho
 have HTV := Lib.hid htv
 clear htv
 go_wp2_with fail
 refine (run_any w3 (w.heap.size + 2) n 71 #[] (fun _ _ => True) M HV.out hn (by simp) (enters_of Try.func71 (by kernel_rfl) rfl) keepM_tell trivial).mono ?_
 rintro e w4 ⟨rfl, ⟨pv4, o4, M4⟩, _, hB4⟩
 have hb4 : Ext ((w.alloc _).alloc _) w4 := hb3.trans (by simpa using hB4)
 have q0 := box_at2 (v := .slice none 0 0) hb4 0 rfl
 have q1 := box_at2 (v := .slice none 0 0) hb4 1 rfl
 have q2 := box_at2 (v := .int .i64 0) hb4 2 rfl
 have q3 := box_at2 (v := .slice none 0 0) hb4 3 rfl
 have q4 := box_at2 (v := .int .i64 0) hb4 4 rfl
 have q5 := box_at2 (v := .int .i64 0) hb4 5 rfl
 have q6 := box_at2 (v := .int .i64 0) hb4 6 rfl
 have q7 := box_at2 (v := .int .i64 0) hb4 7 rfl
 have f0 := box_free2 hb4 0
 have f1 := box_free2 hb4 1
 have f2 := box_free2 hb4 2
 have f3 := box_free2 hb4 3
 have f4 := box_free2 hb4 4
 have f5 := box_free2 hb4 5
 have f6 := box_free2 hb4 6
 have f7 := box_free2 hb4 7
 obtain ⟨b2, bt, b3, bp, rfl, rfl, _, _, _⟩ := M4.reads
 have M5 := M4.keep (keep8 (blk2 hb4) (by decide) (by decide) (.slice (some ⟨g1, 0, none⟩) 128 c1) (.slice b2 (runQ n s).tape.length bt) (.int .i64 (runQ n s).taken) (.slice b3 (runQ n s).printed.length bp) (.int .i64 (runQ n s).time) (.int .i64 (runQ n s).at_) (.int .i64 (runQ n s).done) (.int .i64 (runQ n s).why))
 have HM5 := Lib.hid M5
 clear M5
 have r0 := M4.c 0 (v := .slice (some ⟨g1, 0, none⟩) 128 c1) rfl
 have r1 := M4.c 1 (v := .slice b2 (runQ n s).tape.length bt) rfl
 have r2 := M4.c 2 (v := .int .i64 (runQ n s).taken) rfl
 have r3 := M4.c 3 (v := .slice b3 (runQ n s).printed.length bp) rfl
 have r4 := M4.c 4 (v := .int .i64 (runQ n s).time) rfl
 have r5 := M4.c 5 (v := .int .i64 (runQ n s).at_) rfl
 have r6 := M4.c 6 (v := .int .i64 (runQ n s).done) rfl
 have r7 := M4.c 7 (v := .int .i64 (runQ n s).why) rfl
 have hlen := Lib.hid M4.len
 clear M M4 hB4 hb3
 go_wp2_with fail
 refine bodyPost_ret (v := .tuple #[.agg #[.slice (some ⟨g1, 0, none⟩) 128 c1, .slice b2 (runQ n s).tape.length bt, .int .i64 (runQ n s).taken, .slice b3 (runQ n s).printed.length bp, .int .i64 (runQ n s).time, .int .i64 (runQ n s).at_, .int .i64 (runQ n s).done, .int .i64 (runQ n s).why], .int .i64 0]) (by simp [results, Try.results31, go_sem, q0, q1, q2, q3, q4, q5, q6, q7]) rfl ?_
 have hM := HM5.out
 obtain ⟨d2, dt, d3, dp, x1, x2, I1, I2, I3⟩ := hM.readsT
 obtain ⟨rfl, -, rfl⟩ := Value.slice.inj x1
 obtain ⟨rfl, -, rfl⟩ := Value.slice.inj x2
 have hsz : ((w.alloc (.cells #[.slice a1 128 k1, .slice a2 s.tape.length k2, .int .i64 s.taken, .slice a3 s.printed.length k3, .int .i64 s.time, .int .i64 s.at_, .int .i64 s.done, .int .i64 s.why] 33))).heap.size = w.heap.size + 1 := by simp
 have hlo := hM.low
 have hpr := hM.prow
 refine ⟨some ⟨g1, 0, none⟩, b2, b3, c1, bt, bp, by rw [hlen.out], ?_, ?_, ?_, capP hpr, ext_set8 (Ext.old (Ext.old hb4)) (by omega) _ _ _ _ _ _ _ _⟩
 ·exact (I1.at_).imp id fun ⟨b, off, ha, hb, hc⟩ => ⟨b, off, ha, by cases ha; simp at hlo; omega, hb, hc⟩
 ·exact (I2.at_).imp id fun ⟨b, off, ha, hb, hc⟩ => ⟨b, off, ha, by have := HTV.out b (by rw [ha]; rfl); simp at this; omega, hb, hc⟩
 ·exact (I3.at_).imp id fun ⟨b, off, ha, hb, hc⟩ => ⟨b, off, ha, by have := (own_at hpr (b := b) (by rw [ha]; rfl)).1; simp at this; omega, hb, hc⟩
theorem runE_anyP (v : Value) (s : St) (most : Int) (w : World) (h : StAt w v s) (hb : StBd s) (he : askedQ s most = 0) : Calls Try.prog 31 #[v, .int .i64 most] w (StResP (runE s most) w) := run_goodP v s most w h hb he
end Go.Proofs.Ytnhpcoagkmgdoaa
/- A piece of code whose panic is caught: what the panic's post may read of the frame. -/
namespace Go.Q
open Go Go.RowKit
/-- a panic's post reads one slot of the frame, and the calls that are put off -/
def PQ (Q : Exit → Act → World → Prop) (t : Nat) (p : Value) (ds : List Deferred) (F : List PanicEntry → World → Prop) : Exit → Act → World → Prop
 | .normal, a, w => Q .normal a w
 | .panic c, a, w => a.tmps.getD t undef = p ∧ a.defers = ds ∧ F c w
 | _, _, _ => False
section
variable {Q : Exit → Act → World → Prop} {t : Nat} {p : Value} {ds : List Deferred} {F : List PanicEntry → World → Prop}
theorem pq_normal (a : Act) (w : World) : PQ Q t p ds F .normal a w = Q .normal a w := rfl
theorem pq_put {d : Nat} (hd : d ≠ t) {v : Value} (c : List PanicEntry) (a : Act) (w : World) (h : PQ Q t p ds F (.panic c) (a.put (some d) v) w) : PQ Q t p ds F (.panic c) a w := by
 obtain ⟨h1, h2, h3⟩ := h
 refine ⟨?_, h2, h3⟩
 rw [← h1]
 show a.tmps.getD t undef = (a.tmps.setIfInBounds d v).getD t undef
 rw [Array.getD_eq_getD_getElem?, Array.getD_eq_getD_getElem?, Array.getElem?_setIfInBounds_ne hd]
theorem wp_of_PQ {P : Program} {c : Code} {a : Act} {w : World} (t : Nat) (p : Value) (ds : List Deferred) (F : List PanicEntry → World → Prop) (h : c.wp P (PQ Q t p ds F) a w) (hF : ∀ c a w, a.tmps.getD t undef = p → a.defers = ds → F c w → Q (.panic c) a w) : c.wp P Q a w :=
 wpIn_wide.1 (wpIn_mono (Q := PQ Q t p ds F) ((wpIn_wide (n := 9)).2 h) fun e a' w' hq => by
  cases e with
  | normal => exact hq
  | panic c => exact hF c a' w' hq.1 hq.2.1 hq.2.2
  | _ => exact hq.elim)
end
end Go.Q

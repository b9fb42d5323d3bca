import Derived.RegionTactic
import Derived.Deep.RegionLaw
import Derived.Maps.OwnIn
import Derived.Test.YtnhpcoagkmgdoaaGreatX17
import Derived.Test.YtnhpcoagkmgdoaaGreatX19
set_option linter.unusedVariables false
set_option linter.unusedSimpArgs false
/- Layer 10: a copy of the state. -/
namespace Go.Proofs.YtnhpcoagkmgdoaaGreat
open Go.RowKit Go.Q Go.Shelf Go.Maps
set_option maxHeartbeats 4000000
set_option maxRecDepth 100000
theorem IntsT.kp {M : Nat → Prop} {W W' : World} {a : Option Addr} {xs : List Int} (h : IntsT W a xs) (K : KpM M W W') (hM : ∀ b cs fr, W.heap[b]? = some (.cells cs 3 fr) → ¬ M b) : IntsT W' a xs :=
 h.imp id fun ⟨b, off, cs, fr, ha, hb, hc⟩ => ⟨b, off, cs, fr, ha, (K.block b (lt_of_block hb) (hM b cs fr hb)).trans hb, fun i hi => (K.cell (lt_of_block hb) (hM b cs fr hb)).trans (hc i hi)⟩
theorem state_any (m mb : Nat) (L : List Loss) (x : Lm) (W : World) {ex : Nat → Prop} (h : LinAt W m mb L x ex) (hv : Valid x.s) :
  Calls Tryz.prog 22 #[.pointer (some ⟨m, 0, none⟩)] W fun e W' => ∃ v, e = .returned v ∧ StAtT W' v x.s ∧ Ext W W' := by
 obtain ⟨a1, a2, a3, c1, c2, c3, hB, i1, i2, i3, hM⟩ := h
 have EW := fun ob => (Ext.refl W).alloc ob
 have b0 := fun ob => (hB.ext (EW ob)).c0
 have b1 := fun ob => (hB.ext (EW ob)).c1
 have b2 := fun ob => (hB.ext (EW ob)).c2
 have b3 := fun ob => (hB.ext (EW ob)).c3
 have b4 := fun ob => (hB.ext (EW ob)).c4
 have b5 := fun ob => (hB.ext (EW ob)).c5
 have b6 := fun ob => (hB.ext (EW ob)).c6
 have b7 := fun ob => (hB.ext (EW ob)).c7
 have hc1 := fun X (E : Ext W X) => clone_any a1 x.s.store.length c1 x.s.store X rfl (by rw [hv.len]; omega) (i1.at_.ext E)
 have hc2 := fun X (E : Ext W X) => clone_any a2 x.s.tape.length c2 x.s.tape X rfl (by have := hv.tlen; omega) (i2.at_.ext E)
 have hc3 := fun X (E : Ext W X) => clone_any a3 x.s.printed.length c3 x.s.printed X rfl (by have := hv.plen; omega) (i3.at_.ext E)
 clear EW
 go_enter Tryz.func22, Tryz.ntmps22
 go_wp2
 have E0 : Ext W ((W.alloc (.cells #[.slice none 0 0, .slice none 0 0, .int .i64 0, .slice none 0 0, .int .i64 0, .int .i64 0, .int .i64 0, .int .i64 0] 24)).alloc (.cells #[.slice a1 x.s.store.length c1, .slice a2 x.s.tape.length c2, .int .i64 x.s.taken, .slice a3 x.s.printed.length c3, .int .i64 x.s.time, .int .i64 x.s.at_, .int .i64 x.s.done, .int .i64 x.s.why] 24)) := ((Ext.refl W).alloc _).alloc _
 have hR : ((W.alloc (.cells #[.slice none 0 0, .slice none 0 0, .int .i64 0, .slice none 0 0, .int .i64 0, .int .i64 0, .int .i64 0, .int .i64 0] 24)).alloc (.cells #[.slice a1 x.s.store.length c1, .slice a2 x.s.tape.length c2, .int .i64 x.s.taken, .slice a3 x.s.printed.length c3, .int .i64 x.s.time, .int .i64 x.s.at_, .int .i64 x.s.done, .int .i64 x.s.why] 24)).heap[W.heap.size]? = some (.cells #[.slice none 0 0, .slice none 0 0, .int .i64 0, .slice none 0 0, .int .i64 0, .int .i64 0, .int .i64 0, .int .i64 0] 24 (0, 0)) :=
  (((Ext.refl _).alloc _).block W.heap.size (by simp)).trans (heap_alloc_new W _)
 have hD : ((W.alloc (.cells #[.slice none 0 0, .slice none 0 0, .int .i64 0, .slice none 0 0, .int .i64 0, .int .i64 0, .int .i64 0, .int .i64 0] 24)).alloc (.cells #[.slice a1 x.s.store.length c1, .slice a2 x.s.tape.length c2, .int .i64 x.s.taken, .slice a3 x.s.printed.length c3, .int .i64 x.s.time, .int .i64 x.s.at_, .int .i64 x.s.done, .int .i64 x.s.why] 24)).heap[W.heap.size + 1]? = some (.cells #[.slice a1 x.s.store.length c1, .slice a2 x.s.tape.length c2, .int .i64 x.s.taken, .slice a3 x.s.printed.length c3, .int .i64 x.s.time, .int .i64 x.s.at_, .int .i64 x.s.done, .int .i64 x.s.why] 24 (0, 0)) := by
  have e := heap_alloc_new (W.alloc (.cells #[.slice none 0 0, .slice none 0 0, .int .i64 0, .slice none 0 0, .int .i64 0, .int .i64 0, .int .i64 0, .int .i64 0] 24)) (.cells #[.slice a1 x.s.store.length c1, .slice a2 x.s.tape.length c2, .int .i64 x.s.taken, .slice a3 x.s.printed.length c3, .int .i64 x.s.time, .int .i64 x.s.at_, .int .i64 x.s.done, .int .i64 x.s.why] 24)
  rw [World.size_alloc] at e
  exact e
 obtain ⟨X, hX⟩ : ∃ X, ((W.alloc (.cells #[.slice none 0 0, .slice none 0 0, .int .i64 0, .slice none 0 0, .int .i64 0, .int .i64 0, .int .i64 0, .int .i64 0] 24)).alloc (.cells #[.slice a1 x.s.store.length c1, .slice a2 x.s.tape.length c2, .int .i64 x.s.taken, .slice a3 x.s.printed.length c3, .int .i64 x.s.time, .int .i64 x.s.at_, .int .i64 x.s.done, .int .i64 x.s.why] 24)) = X := ⟨_, rfl⟩
 rw [hX] at E0 hR hD ⊢
 obtain ⟨R, hRn⟩ : ∃ R, W.heap.size = R := ⟨_, rfl⟩
 obtain ⟨D, hDn⟩ : ∃ D, R + 1 = D := ⟨_, rfl⟩
 rw [hRn] at hR hD ⊢
 rw [hDn] at hD ⊢
 have hRD : R ≠ D := by omega
 have hWR : W.heap.size ≤ R := by omega
 have hWD : W.heap.size ≤ D := by omega
 clear b0 b1 b2 b3 b4 b5 b6 b7 hX hRn
 have HS : ∀ Y : World, Ext X Y → Y.cell? ⟨D, 0, none⟩ = some (.slice a1 x.s.store.length c1) ∧ Y.cell? ⟨D, 1, none⟩ = some (.slice a2 x.s.tape.length c2) ∧ Y.cell? ⟨D, 3, none⟩ = some (.slice a3 x.s.printed.length c3) := fun Y E => by
  have h := (E.block D (lt_of_block hD)).trans hD
  exact ⟨blk_cell h 0 rfl, blk_cell h 1 rfl, blk_cell h 3 rfl⟩
 have EX : Ext X X.drew := (Ext.refl X).drew
 refine wp_region_Z (fun i => decide (9 ≤ i)) (fun Y => Ext X Y) (by kernel_rfl) EX fun hSX => ?_
 refine wpAnyZ_take (i := 0) (oi := ⟨_, _, _, _, _, _⟩) (v := ?_) rfl (by kernel_rfl) (by kernel_rfl) (by kernel_rfl) (by kernel_rfl) (fun _ _ _ h => h) (Or.inl ⟨by rfl, ?_⟩) hSX ?_
 rotate_left
 ·intro wX hS
  obtain ⟨q0, q1, q2⟩ := HS wX hS
  go_simp
  (try with_reducible rfl)
 (try simp only [Act.put, List.setIfInBounds_toArray, List.set_cons_zero, List.set_cons_succ])
 refine wpAnyZ_take (i := 1) (oi := ⟨_, _, _, _, _, _⟩) (v := ?_) rfl (by kernel_rfl) (by kernel_rfl) (by kernel_rfl) (by kernel_rfl) (fun _ _ _ h => h) (Or.inl ⟨by rfl, ?_⟩) hSX ?_
 rotate_left
 ·intro wX hS
  obtain ⟨q0, q1, q2⟩ := HS wX hS
  go_simp
  (try with_reducible rfl)
 (try simp only [Act.put, List.setIfInBounds_toArray, List.set_cons_zero, List.set_cons_succ])
 refine wpAnyZ_take (i := 3) (oi := ⟨_, _, _, _, _, _⟩) (v := ?_) rfl (by kernel_rfl) (by kernel_rfl) (by kernel_rfl) (by kernel_rfl) (fun _ _ _ h => h) (Or.inl ⟨by rfl, ?_⟩) hSX ?_
 rotate_left
 ·intro wX hS
  obtain ⟨q0, q1, q2⟩ := HS wX hS
  go_simp
  (try with_reducible rfl)
 (try simp only [Act.put, List.setIfInBounds_toArray, List.set_cons_zero, List.set_cons_succ])
 refine wpAnyZ_take (i := 4) (oi := ⟨_, _, _, _, _, _⟩) (v := ?_) rfl (by kernel_rfl) (by kernel_rfl) (by kernel_rfl) (by kernel_rfl) (fun _ _ _ h => h) (Or.inl ⟨by rfl, ?_⟩) hSX ?_
 rotate_left
 ·intro wX hS
  obtain ⟨q0, q1, q2⟩ := HS wX hS
  go_simp
  (try with_reducible rfl)
 (try simp only [Act.put, List.setIfInBounds_toArray, List.set_cons_zero, List.set_cons_succ])
 refine wpAnyZ_take (i := 6) (oi := ⟨_, _, _, _, _, _⟩) (v := ?_) rfl (by kernel_rfl) (by kernel_rfl) (by kernel_rfl) (by kernel_rfl) (fun _ _ _ h => h) (Or.inl ⟨by rfl, ?_⟩) hSX ?_
 rotate_left
 ·intro wX hS
  obtain ⟨q0, q1, q2⟩ := HS wX hS
  go_simp
  (try with_reducible rfl)
 (try simp only [Act.put, List.setIfInBounds_toArray, List.set_cons_zero, List.set_cons_succ])
 refine wpAnyZ_take (i := 7) (oi := ⟨_, _, _, _, _, _⟩) (v := ?_) rfl (by kernel_rfl) (by kernel_rfl) (by kernel_rfl) (by kernel_rfl) (fun _ _ _ h => h) (Or.inl ⟨by rfl, ?_⟩) hSX ?_
 rotate_left
 ·intro wX hS
  obtain ⟨q0, q1, q2⟩ := HS wX hS
  go_simp
  (try with_reducible rfl)
 (try simp only [Act.put, List.setIfInBounds_toArray, List.set_cons_zero, List.set_cons_succ])
 refine wpAnyZ_one (i := 2) (o := ⟨_, _, _, _, _, _⟩) (by kernel_rfl) rfl (fun K hK => ?_)
 go_simp
 go_at_call 48
 refine (hc1 _ (E0.comp EX)).mono ?_
 rintro e y1 ⟨p1, d1, rfl, O1, E1⟩
 have EX1 := EX.comp E1
 refine hK _ _ (.inr EX1) (fun _ => ?_)
 clear hK
 (try simp only [Act.put, List.setIfInBounds_toArray, List.set_cons_zero, List.set_cons_succ])
 refine wpAnyZ_takeP (i := 9) (oi := ⟨_, _, _, _, _, _⟩) (v := ?_) rfl (by kernel_rfl) (by kernel_rfl) (by kernel_rfl) (by kernel_rfl) (fun _ _ _ h => h) (Or.inl ⟨by rfl, ?_⟩) ?_
 rotate_left
 ·intro wX _
  go_simp
  (try with_reducible rfl)
 (try simp only [Act.put, List.setIfInBounds_toArray, List.set_cons_zero, List.set_cons_succ])
 refine wpAnyZ_one (i := 5) (o := ⟨_, _, _, _, _, _⟩) (by kernel_rfl) rfl (fun K hK => ?_)
 go_simp
 go_at_call 48
 refine (hc2 _ (E0.comp EX1)).mono ?_
 rintro e y2 ⟨p2, d2, rfl, O2, E2⟩
 have EX2 := EX1.comp E2
 refine hK _ _ (.inr EX2) (fun _ => ?_)
 clear hK
 (try simp only [Act.put, List.setIfInBounds_toArray, List.set_cons_zero, List.set_cons_succ])
 refine wpAnyZ_one (i := 8) (o := ⟨_, _, _, _, _, _⟩) (by kernel_rfl) rfl (fun K hK => ?_)
 go_simp
 go_at_call 48
 refine (hc3 _ (E0.comp EX2)).mono ?_
 rintro e y3 ⟨p3, d3, rfl, O3, E3⟩
 have EX3 := EX2.comp E3
 refine hK _ _ (.inr EX3) (fun _ => ?_)
 clear hK
 (try simp only [Act.put, List.setIfInBounds_toArray, List.set_cons_zero, List.set_cons_succ])
 have g0 := (EX3.block D (lt_of_block hD)).trans hD
 have EW3 := E0.comp EX3
 have hRy := (EX3.block R (lt_of_block hR)).trans hR
 have o1 := own_intsT O1
 have o2 := own_intsT O2
 have o3 := own_intsT O3
 clear HS hc1 hc2 hc3 EX
 have f0 := blk_free g0 0
 have e0 := blk_cell g0 0 rfl
 have g1 := cells_set g0 0 (.slice p1 x.s.store.length d1)
 refine wpAnyZ_one (i := 10) (o := ⟨_, _, _, _, _, _⟩) (by kernel_rfl) rfl (fun K hK => ?_)
 go_simp
 refine hK _ _ (.inl rfl) (fun _ => ?_)
 clear hK
 (try simp only [Act.put, List.setIfInBounds_toArray, List.set_cons_zero, List.set_cons_succ])
 refine wpAnyZ_takeP (i := 11) (oi := ⟨_, _, _, _, _, _⟩) (v := ?_) rfl (by kernel_rfl) (by kernel_rfl) (by kernel_rfl) (by kernel_rfl) (fun _ _ _ h => h) (Or.inl ⟨by rfl, ?_⟩) ?_
 rotate_left
 ·intro wX _
  go_simp
  (try with_reducible rfl)
 (try simp only [Act.put, List.setIfInBounds_toArray, List.set_cons_zero, List.set_cons_succ])
 have f1 := blk_free g1 1
 have e1 := blk_cell g1 1 rfl
 have g2 := cells_set g1 1 (.slice p2 x.s.tape.length d2)
 refine wpAnyZ_one (i := 12) (o := ⟨_, _, _, _, _, _⟩) (by kernel_rfl) rfl (fun K hK => ?_)
 go_simp
 refine hK _ _ (.inl rfl) (fun _ => ?_)
 clear hK
 (try simp only [Act.put, List.setIfInBounds_toArray, List.set_cons_zero, List.set_cons_succ])
 refine wpAnyZ_takeP (i := 13) (oi := ⟨_, _, _, _, _, _⟩) (v := ?_) rfl (by kernel_rfl) (by kernel_rfl) (by kernel_rfl) (by kernel_rfl) (fun _ _ _ h => h) (Or.inl ⟨by rfl, ?_⟩) ?_
 rotate_left
 ·intro wX _
  go_simp
  (try with_reducible rfl)
 (try simp only [Act.put, List.setIfInBounds_toArray, List.set_cons_zero, List.set_cons_succ])
 have f2 := blk_free g2 3
 have e2 := blk_cell g2 3 rfl
 have g3 := cells_set g2 3 (.slice p3 x.s.printed.length d3)
 refine wpAnyZ_one (i := 14) (o := ⟨_, _, _, _, _, _⟩) (by kernel_rfl) rfl (fun K hK => ?_)
 go_simp
 refine hK _ _ (.inl rfl) (fun _ => ?_)
 clear hK
 (try simp only [Act.put, List.setIfInBounds_toArray, List.set_cons_zero, List.set_cons_succ])
 refine wpAnyZ_done (by kernel_rfl) ?_ _
 have KV : KpM (fun q => q = D) y3 (((y3.setCell ⟨D, 0, none⟩ (.slice p1 x.s.store.length d1)).setCell ⟨D, 1, none⟩ (.slice p2 x.s.tape.length d2)).setCell ⟨D, 3, none⟩ (.slice p3 x.s.printed.length d3)) :=
  ((kpm_set (M := fun q => q = D) _ D 0 _ rfl).trans (kpm_set (M := fun q => q = D) _ D 1 _ rfl)).trans (kpm_set (M := fun q => q = D) _ D 3 _ rfl)
 generalize ((y3.setCell ⟨D, 0, none⟩ (.slice p1 x.s.store.length d1)).setCell ⟨D, 1, none⟩ (.slice p2 x.s.tape.length d2)).setCell ⟨D, 3, none⟩ (.slice p3 x.s.printed.length d3) = V at *
 have gV : V.heap[D]? = some (.cells #[.slice p1 x.s.store.length d1, .slice p2 x.s.tape.length d2, .int .i64 x.s.taken, .slice p3 x.s.printed.length d3, .int .i64 x.s.time, .int .i64 x.s.at_, .int .i64 x.s.done, .int .i64 x.s.why] 24 (0, 0)) := by simpa using g3
 have hRV := (KV.block R (lt_of_block hRy) hRD).trans hRy
 have hno : ∀ b cs fr, y3.heap[b]? = some (.cells cs 3 fr) → ¬ b = D := fun b cs fr hb e => by
  rw [e, g0] at hb
  cases hb
 have I1 := Lib.hid (((o1.ext E2).ext E3).kp KV hno)
 have I2 := Lib.hid ((o2.ext E3).kp KV hno)
 have I3 := Lib.hid (o3.kp KV hno)
 have EV : Ext W V := EW3.below5 KV (fun b hb => by rw [hb]; exact hWD)
 clear f0 f1 f2 e0 e1 e2 g0 g1 g2 g3 hRy O1 O2 O3 o1 o2 o3 KV hno EX1 EX2 EX3 EW3 E1 E2 E3 hD hR E0 hSX
 have c0 := cell_of_cells gV 0 (v := .slice p1 x.s.store.length d1) rfl
 have c1 := cell_of_cells gV 1 (v := .slice p2 x.s.tape.length d2) rfl
 have c2 := cell_of_cells gV 2 (v := .int .i64 x.s.taken) rfl
 have c3 := cell_of_cells gV 3 (v := .slice p3 x.s.printed.length d3) rfl
 have c4 := cell_of_cells gV 4 (v := .int .i64 x.s.time) rfl
 have c5 := cell_of_cells gV 5 (v := .int .i64 x.s.at_) rfl
 have c6 := cell_of_cells gV 6 (v := .int .i64 x.s.done) rfl
 have c7 := cell_of_cells gV 7 (v := .int .i64 x.s.why) rfl
 have q0 := cell_of_cells hRV 0 (v := .slice none 0 0) rfl
 have q1 := cell_of_cells hRV 1 (v := .slice none 0 0) rfl
 have q2 := cell_of_cells hRV 2 (v := .int .i64 0) rfl
 have q3 := cell_of_cells hRV 3 (v := .slice none 0 0) rfl
 have q4 := cell_of_cells hRV 4 (v := .int .i64 0) rfl
 have q5 := cell_of_cells hRV 5 (v := .int .i64 0) rfl
 have q6 := cell_of_cells hRV 6 (v := .int .i64 0) rfl
 have q7 := cell_of_cells hRV 7 (v := .int .i64 0) rfl
 have f0 := free_of_cells hRV 0
 have f1 := free_of_cells hRV 1
 have f2 := free_of_cells hRV 2
 have f3 := free_of_cells hRV 3
 have f4 := free_of_cells hRV 4
 have f5 := free_of_cells hRV 5
 have f6 := free_of_cells hRV 6
 have f7 := free_of_cells hRV 7
 go_wp2
 refine bodyPost_ret (v := .agg #[.slice p1 x.s.store.length d1, .slice p2 x.s.tape.length d2, .int .i64 x.s.taken, .slice p3 x.s.printed.length d3, .int .i64 x.s.time, .int .i64 x.s.at_, .int .i64 x.s.done, .int .i64 x.s.why]) (by simp [results, Tryz.results22, go_sem, q0, q1, q2, q3, q4, q5, q6, q7]) rfl ?_
 have hb := hRV
 have KR := s8_kp (M := fun q => q = R) (w := V) (b := R) (n0 := .slice p1 x.s.store.length d1) (n1 := .slice p2 x.s.tape.length d2) (n2 := .int .i64 x.s.taken) (n3 := .slice p3 x.s.printed.length d3) (n4 := .int .i64 x.s.time) (n5 := .int .i64 x.s.at_) (n6 := .int .i64 x.s.done) (n7 := .int .i64 x.s.why) rfl
 have hnR : ∀ b cs fr, V.heap[b]? = some (.cells cs 3 fr) → ¬ b = R := fun b cs fr hb e => by
  rw [e, hRV] at hb
  cases hb
 exact ⟨_, rfl, ⟨p1, p2, p3, d1, d2, d3, rfl, I1.out.kp KR hnR, I2.out.kp KR hnR, I3.out.kp KR hnR⟩, EV.below5 KR (fun b hb => by rw [hb]; exact hWR)⟩
end Go.Proofs.YtnhpcoagkmgdoaaGreat
/- Layer 10: what the program's open holds: a map of rows of its own. -/
namespace Go.Proofs.YtnhpcoagkmgdoaaGreat
open Go.RowKit Go.Q Go.Shelf Go.Maps
set_option maxHeartbeats 4000000
set_option maxRecDepth 100000
def lv (y : Loss) : List Value := [.int .i64 y.after, .int .i64 y.addr, .int .i64 y.bit]
def lvs (L : List Loss) : List Value := L.flatMap lv
theorem lvs_get : ∀ (L : List Loss) (i : Nat), i < L.length → (lvs L)[i * 3]? = some (.int .i64 (L[i]?.getD ⟨0, 0, 0⟩).after) ∧ (lvs L)[i * 3 + 1]? = some (.int .i64 (L[i]?.getD ⟨0, 0, 0⟩).addr) ∧ (lvs L)[i * 3 + 2]? = some (.int .i64 (L[i]?.getD ⟨0, 0, 0⟩).bit)
  | [], i, h => by simp at h
  | y :: L, 0, _ => ⟨rfl, rfl, rfl⟩
  | y :: L, i + 1, h => by
    have := lvs_get L i (by simpa using h)
    have e : lvs (y :: L) = lv y ++ lvs L := by unfold lvs; rw [List.flatMap_cons]
    rw [e]
    have e3 : ∀ j, (lv y ++ lvs L)[(i + 1) * 3 + j]? = (lvs L)[i * 3 + j]? := fun j => by
      rw [List.getElem?_append_right (by show 3 ≤ _; omega)]
      congr 1
      show (i + 1) * 3 + j - 3 = _
      omega
    exact ⟨(e3 0).trans this.1, (e3 1).trans this.2.1, (e3 2).trans this.2.2⟩
theorem lvs_snoc (L : List Loss) (y : Loss) : lvs (L ++ [y]) = lvs L ++ lv y := by
  unfold lvs
  rw [List.flatMap_append]
  simp
theorem own_ltz {w : World} {nb n : Nat} {v : Value} {xs : List Value} {t : TypeId} {z b : Nat} (h : w.ownsRow nb t z v n xs) (hb : v.ownBlock = some b) : nb ≤ b ∧ b < w.heap.size ∧ ∃ cs, w.heap[b]? = some (.cells cs t (0, 0)) := by
  rcases h.2 with ⟨rfl, _⟩ | ⟨g, cap, cur, rfl, hg, hh, _⟩
  · cases hb
  · obtain rfl : g = b := by simpa [Value.ownBlock] using hb
    exact ⟨hg, lt_of_block hh, cur, hh⟩
theorem own_kpz {M : Nat → Prop} {w w' : World} {nb n : Nat} {v : Value} {xs : List Value} {t : TypeId} {z : Nat} (h : w.ownsRow nb t z v n xs) (K : KpM M w w') (hM : ∀ b, v.ownBlock = some b → ¬ M b) : w'.ownsRow nb t z v n xs := by
  refine ⟨h.1, ?_⟩
  rcases h.2 with h2 | ⟨g, cap, cur, rfl, hg, hh, r⟩
  · exact .inl h2
  · exact .inr ⟨g, cap, cur, rfl, hg, (K.block g (lt_of_block hh) (hM g rfl)).trans hh, r⟩
theorem own_loss {w : World} {nb : Nat} {v : Value} {L : List Loss} (h : w.ownsRow nb 91 3 v L.length (lvs L)) : LossT w v L := by
  rcases h.2 with ⟨e, h2⟩ | ⟨g, cap, cur, e, hg, hh, h1, _, h3, h4⟩
  · exact ⟨none, 0, by rw [h2]; exact e, .inl (List.eq_nil_of_length_eq_zero h2)⟩
  · refine ⟨_, _, e, .inr ⟨g, 0, cur, _, rfl, hh, fun i hi => ?_⟩⟩
    have hg := lvs_get L i hi
    rw [← h4] at hg
    have hc : ∀ j (v : Value), (cur.toList.take (L.length * 3))[j]? = some v → w.cell? ⟨g, j, none⟩ = some v := fun j v hj => by
      rw [List.getElem?_take] at hj
      split at hj
      · exact blk_cell hh j (by simpa using hj)
      · cases hj
    rw [Nat.zero_add]
    exact ⟨hc _ _ hg.1, hc _ _ hg.2.1, hc _ _ hg.2.2⟩
/-- block mb is a map of rows, each its own -/
def MapO (w : World) (nb mb : Nat) (g : Int → List Loss) : Prop := ∃ f : I64 → Option Value, MapF encI w mb f ∧
  (∀ x, w.ownsRow nb 91 3 ((f x).getD (.slice none 0 0)) (g x.1).length (lvs (g x.1))) ∧
  ∀ x y b, x ≠ y → ((f x).getD (.slice none 0 0)).ownBlock = some b → ((f y).getD (.slice none 0 0)).ownBlock ≠ some b
theorem MapO.toL {w : World} {nb mb : Nat} {g : Int → List Loss} (h : MapO w nb mb g) : MapL w mb g := by
  obtain ⟨f, h1, h2, _⟩ := h
  exact ⟨f, h1, fun x => own_loss (h2 x)⟩
/-- a row longer by one -/
theorem map_add {w w1 w2 : World} {nb mb : Nat} {g g2 : Int → List Loss} {f : I64 → Option Value} {k : I64} {v' : Value} (h1 : MapF encI w mb f)
    (h2 : ∀ x, w.ownsRow nb 91 3 ((f x).getD (.slice none 0 0)) (g x.1).length (lvs (g x.1))) (h3 : ∀ x y b, x ≠ y → ((f x).getD (.slice none 0 0)).ownBlock = some b → ((f y).getD (.slice none 0 0)).ownBlock ≠ some b)
    (ho : w1.ownsRow nb 91 3 v' (g2 k.1).length (lvs (g2 k.1))) (G1 : w.grownBy w1 ((f k).getD (.slice none 0 0)).ownBlock) (hv : v'.ownBlock = ((f k).getD (.slice none 0 0)).ownBlock ∨ v'.ownBlock = some w.heap.size)
    (F2 : MapF encI w2 mb (putF f k v')) (G2 : w1.grownBy w2 (some mb)) (hg : ∀ d, d ≠ k.1 → g2 d = g d) : MapO w2 nb mb g2 := by
  have hmw := h1.lt
  obtain ⟨es, kk, hmb⟩ := map_block h1
  have hmr : ∀ x, ((f x).getD (.slice none 0 0)).ownBlock ≠ some mb := fun x e => by
    obtain ⟨_, _, cs, hc⟩ := own_ltz (h2 x) e
    rw [hmb] at hc
    cases hc
  have hmv : v'.ownBlock ≠ some mb := by
    rcases hv with e | e
    · rw [e]; exact hmr k
    · rw [e]; intro h; injection h with h; omega
  have K2 := kp_grown G2
  refine ⟨_, F2, fun x => ?_, fun x y b hxy hx => ?_⟩
  · unfold putF
    by_cases e : x = k
    · subst e
      rw [if_pos rfl]
      exact own_kpz ho K2 fun b hb he => hmv ((show v'.ownBlock = some b from hb).trans (by rw [he]))
    · rw [if_neg e, hg x.1 (fun h => e (I64.same h))]
      have hx := h2 x
      have hx1 : w1.ownsRow nb 91 3 ((f x).getD (.slice none 0 0)) (g x.1).length (lvs (g x.1)) := by
        refine own_kpz (M := fun q => ((f k).getD (.slice none 0 0)).ownBlock = some q) hx ⟨G1.size, fun b hb hn => G1.block b hb (fun e => hn e.symm), G1.os, G1.tape, G1.output⟩ fun b hb => h3 x k b e hb
      exact own_kpz hx1 K2 fun b hb he => hmr x (by rw [hb, he])
  · unfold putF at hx ⊢
    by_cases e : x = k
    · subst e
      rw [if_pos rfl] at hx
      rw [if_neg (fun e => hxy e.symm)]
      rcases hv with e2 | e2
      · exact h3 x y b hxy (e2.symm.trans hx)
      · intro h
        have := (own_ltz (h2 y) h).2.1
        have h4 := hx.symm.trans e2
        injection h4 with h4
        omega
    · rw [if_neg e] at hx
      by_cases e3 : y = k
      · subst e3
        rw [if_pos rfl]
        intro h
        rcases hv with e2 | e2
        · exact h3 x y b hxy hx (e2.symm.trans h)
        · have := (own_ltz (h2 x) hx).2.1
          have h4 := h.symm.trans e2
          injection h4 with h4
          omega
      · rw [if_neg e3]
        exact h3 x y b hxy hx
section
variable {P : Program} {w : World}
/-- an append whose row is its own: in what block it lies then -/
theorem wp_app_at {o : Oper} {act : Act} {K : Act → World → Prop} {Q : Exit → Act → World → Prop} (s x : Operand) (t : TypeId)
    (ho : o.op = .call { callee := .builtin .append, args := #[s, x], argTypes := #[t, t] })
    (e : TypeId) (i : TypeInfo) (z : Value) (sz bytes : Nat) (ht : P.underlying t = some (.slice e)) (hi : P.info? e = some i) (hz : i.zero = some z) (hs : i.size = sz) (hb : i.bytes = bytes) (hzs : z.cells.size = sz) (hsz : 0 < sz)
    (v : Value) (n B : Nat) (xs : List Value) (he : act.eval s = v) (hown : w.ownsRow B e sz v n xs) (hB1 : B ≤ w.heap.size)
    (ad : Addr) (m c : Nat) (news : List Value) (hx : act.eval x = .slice (some ad) m c) (hl : news.length = m * sz) (hnews : ∀ j u, news[j]? = some u → w.cell? (ad.add j) = some u) (h1 : ∀ u ∈ news, u.oneCell' = true) (h63 : n + m ≤ maxLen) (hbytes : (n + m) * bytes ≤ 140737488355328)
    (h : ∀ (v' : Value) (w' : World), w'.ownsRow B e sz v' (n + m) (xs ++ news) → w.grownBy w' v.ownBlock → (v'.ownBlock = v.ownBlock ∨ v'.ownBlock = some w.heap.size) → K (act.put o.dst v') w') : o.wp P act w K Q := by
  obtain ⟨v', w', hr, h2, h3, _, h5⟩ := run_append_own_at (P := P) w B t o.type e i z sz bytes ht hi hz hs hb hzs hsz v n xs hown ad m c news hl hnews h1 h63 hbytes hB1
  have hk := h v' w' h2 h3 h5
  unfold Oper.wp execOp
  simp only [ho, resolve, invoke, builtin, Sem.run_bind, Sem.run_pure, Result.andThen_ok, List.map_toArray, List.map_cons, List.map_nil, he, hx, hr]
  exact hk
/-- m[k] = v, as one operation -/
theorem wp_putF {k : TypeId} {α : Type} [DecidableEq α] {enc : α → Value} {f : α → Option Value} {o : Oper} {a : Act} {K : Act → World → Prop} {Q : Exit → Act → World → Prop} (m x v : Operand) (t : TypeId) (hop : o.op = Op.mapUpdate t m x v) (e : TypeId) (KE : KeyEnc P k enc) (ht : P.underlying t = some (.map k e)) (b : Nat)
    (hm : a.eval m = .map (some b)) (hown : MapF enc w b f) (key : α) (val : Value) (hx : a.eval x = enc key) (hv : a.eval v = val)
    (hK : ∀ w', MapF enc w' b (putF f key val) → w.grownBy w' (some b) → w'.heap.size = w.heap.size → K (a.put o.dst undef) w') : o.wp P a w K Q := by
  obtain ⟨w', hrun, r1, r2, r3⟩ := hown.update KE ht key val
  unfold Oper.wp
  simp [execOp, hop, hm, hx, hv, hrun, Result.andThen]
  exact hK w' r1 r2 r3
end
theorem zero_size : Tryz.zeroCells76.size = 137 := by kernel_rfl
theorem zero_bad : (List.range 128).map (fun i => Tryz.zeroCells76[8 + i]?) = (List.range 128).map (fun _ => some (.bool false)) := by kernel_rfl
theorem zero_bool (i : Nat) (hi : i < 128) : Tryz.zeroCells76[8 + i]? = some (.bool false) := by
  have h := congrArg (fun l => l[i]?) zero_bad
  simp only [List.getElem?_map, List.getElem?_range hi, Option.map_some] at h
  exact Option.some.inj h
theorem line_new {W : World} {m mb : Nat} {a1 a2 a3 : Option Addr} {n1 n2 n3 c1 c2 c3 : Nat} {tk tm at_ dn wy : Int} (h : W.heap[m]? = some (.cells (((((((((Tryz.zeroCells76.setIfInBounds 0 (.slice a1 n1 c1)).setIfInBounds 1 (.slice a2 n2 c2)).setIfInBounds 2 (.int .i64 tk)).setIfInBounds 3 (.slice a3 n3 c3)).setIfInBounds 4 (.int .i64 tm)).setIfInBounds 5 (.int .i64 at_)).setIfInBounds 6 (.int .i64 dn)).setIfInBounds 7 (.int .i64 wy)).setIfInBounds 136 (.map (some mb))) 76 (0, 0))) :
    LnB W m mb (.slice a1 n1 c1) (.slice a2 n2 c2) (.int .i64 tk) (.slice a3 n3 c3) (.int .i64 tm) (.int .i64 at_) (.int .i64 dn) (.int .i64 wy) (List.replicate 128 false) := by
  have hz := zero_size
  refine ⟨⟨_, h, by simp [hz], ?_, ?_, ?_, ?_, ?_, ?_, ?_, ?_, fun i hi => ?_, ?_⟩, by simp⟩
  all_goals first
    | (repeat rw [Array.getElem?_setIfInBounds_ne (by omega)]
       first
         | (rw [Array.getElem?_setIfInBounds_self_of_lt (by simp [hz])]; done)
         | (rw [zero_bool i hi, List.getElem?_replicate, if_pos hi]; rfl))
end Go.Proofs.YtnhpcoagkmgdoaaGreat

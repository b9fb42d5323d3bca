import Derived.Deep.DeepCutAuto
import Derived.RegionTactic
import Derived.Deep.RegionLaw
import Derived.Test.YtnhpcoagkmgdoaaXFrame10
import Derived.Test.YtnhpcoagkmgdoaaXFacts10
import Derived.Test.YtnhpcoagkmgdoaaXDL13
set_option linter.unusedVariables false
set_option linter.unusedSimpArgs false
/- The law DumpRestarted. -/
namespace Go.Q
open Go.RowKit
theorem asked_small (s : St) {m : Int} (h : 0 ≤ m ∧ m ≤ 5000) : askedQ s m = (checkQ s).2.2 := by
  unfold askedQ
  split
  · rfl
  · rename_i hc
    have : inB m 0 5000 = true := by unfold inB; rw [decide_eq_true h.1, decide_eq_true h.2]; rfl
    rw [if_pos this]
    exact (Classical.not_not.1 hc).symm
theorem run_small (s : St) {m : Nat} (h : m ≤ 5000) : ((checkQ s).2.2 ≠ 0 ∧ runE s (m : Int) = (zst, (checkQ s).2.2) ∧ dumpE s = ([], (checkQ s).2.2)) ∨ (Valid s ∧ askedQ s (m : Int) = 0 ∧ runE s (m : Int) = (runQ m s, 0) ∧ dumpE s = (tapeW (wordsS s), 0)) := by
  have ha := asked_small s (m := (m : Int)) ⟨by omega, by omega⟩
  unfold runE dumpE
  rw [ha]
  by_cases hc : (checkQ s).2.2 = 0
  · exact .inr ⟨valid_of_check hc, hc, by rw [if_pos hc, Int.toNat_natCast], by rw [if_pos hc]⟩
  · exact .inl ⟨hc, by rw [if_neg hc], by rw [if_neg hc]⟩
end Go.Q
namespace Go.Proofs.Ytnhpcoagkmgdoaa
open Go.RowKit Go.Q Go.Shelf Go.Maps Go.Joins
set_option maxHeartbeats 4000000
set_option maxRecDepth 100000
end Go.Proofs.Ytnhpcoagkmgdoaa
/- The law DumpNone, for any state and losses. -/
namespace Go.Q
open Go.RowKit
theorem guardX_nil {s : St} {m : Nat} (hm : m ≤ 5000) (h : (checkQ s).2.2 = 0) : guardX s [] (m : Int) = 0 := by
  unfold guardX
  rw [if_neg (by rw [h]; decide), if_neg (by decide)]
  have : inB (m : Int) 0 5000 = true := by unfold inB; rw [decide_eq_true (show (0 : Int) ≤ m by omega), decide_eq_true (show (m : Int) ≤ 5000 by omega)]; rfl
  rw [if_pos this]
end Go.Q
namespace Go.Proofs.Ytnhpcoagkmgdoaa
open Go.RowKit Go.Q Go.Shelf Go.Maps Go.Joins
set_option maxHeartbeats 4000000
set_option maxRecDepth 100000
end Go.Proofs.Ytnhpcoagkmgdoaa
/- Layer 10: a copy of the state, whose store is a row of its own. -/
namespace Go.Proofs.Ytnhpcoagkmgdoaa
open Go.RowKit Go.Q Go.Shelf Go.Maps Go.Joins
set_option maxHeartbeats 4000000
set_option maxRecDepth 100000
theorem own_kpI {M : Nat → Prop} {w w' : World} {B t sz n : Nat} {v : Value} {xs : List Value} (h : w.ownsRow B t sz v n xs) (K : KpM M w w') (hM : ∀ b, v.ownBlock = some b → ¬ M b) : w'.ownsRow B t sz v n xs := by
  refine ⟨h.1, ?_⟩
  rcases h.2 with h2 | ⟨g, cap, cur, rfl, hb, hg, r⟩
  · exact .inl h2
  · exact .inr ⟨g, cap, cur, rfl, hb, (K.block g (lt_of_block hg) (hM g rfl)).trans hg, r⟩
theorem own_lo {w : World} {B n c : Nat} {a : Option Addr} {m : Nat} {xs : List Value} (h : w.ownsRow B 3 1 (.slice a m c) n xs) : ∀ b, a.map (·.block) = some b → B ≤ b ∧ b < w.heap.size := by
  intro b hb
  rcases h.2 with ⟨h1, _⟩ | ⟨g, cap, cur, h1, hB, hg, _⟩
  · obtain ⟨rfl, -, -⟩ := Value.slice.inj h1
    cases hb
  · obtain ⟨rfl, -, -⟩ := Value.slice.inj h1
    cases hb
    exact ⟨hB, lt_of_block hg⟩
theorem own_extI {w w' : World} {B t sz n : Nat} {v : Value} {xs : List Value} (h : w.ownsRow B t sz v n xs) (E : Ext w w') : w'.ownsRow B t sz v n xs := by
  refine ⟨h.1, ?_⟩
  rcases h.2 with h2 | ⟨g, cap, cur, rfl, hb, hg, r⟩
  · exact .inl h2
  · exact .inr ⟨g, cap, cur, rfl, hb, (E.block g (lt_of_block hg)).trans hg, r⟩
theorem own_weak {w : World} {B B' t sz n : Nat} {v : Value} {xs : List Value} (h : w.ownsRow B' t sz v n xs) (hB : ∀ b, v.ownBlock = some b → B ≤ b) : w.ownsRow B t sz v n xs := by
  refine ⟨h.1, ?_⟩
  rcases h.2 with h2 | ⟨g, cap, cur, rfl, hb, r⟩
  · exact .inl h2
  · exact .inr ⟨g, cap, cur, rfl, hB g rfl, r⟩
def StOwn (s : St) (W : World) (e : Ending) (W' : World) : Prop := ∃ g d1 p2 d2 p3 d3, e = .returned (sv (some ⟨g, 0, none⟩) p2 p3 s.store.length d1 s.tape.length d2 s.printed.length d3 s.taken s.time s.at_ s.done s.why) ∧ W.heap.size ≤ g ∧
  W'.ownsRow W.heap.size 3 1 (.slice (some ⟨g, 0, none⟩) s.store.length d1) s.store.length (iv s.store) ∧ IntsAt W' p2 s.tape ∧ (∀ b, p2.map (·.block) = some b → b ≠ g ∧ W.heap.size ≤ b) ∧ IntsAt W' p3 s.printed ∧ (∀ b, p3.map (·.block) = some b → b ≠ g ∧ W.heap.size ≤ b) ∧ Ext W W'
theorem state_own (m mb : Nat) (L : List Loss) (x : Lm) (W : World) {ex : Nat → Prop} (h : LinAt W m mb L x ex) (hv : Valid x.s) :
    Calls Try.prog 66 #[.pointer (some ⟨m, 0, none⟩)] W (StOwn x.s W) := by
  obtain ⟨a1, a2, a3, c1, c2, c3, hB, i1, i2, i3, hM⟩ := h
  have EW := fun ob => (Ext.refl W).alloc ob
  have b0 := fun ob => (hB.ext (EW ob)).c0
  have b1 := fun ob => (hB.ext (EW ob)).c1
  have b2 := fun ob => (hB.ext (EW ob)).c2
  have b3 := fun ob => (hB.ext (EW ob)).c3
  have b4 := fun ob => (hB.ext (EW ob)).c4
  have b5 := fun ob => (hB.ext (EW ob)).c5
  have b6 := fun ob => (hB.ext (EW ob)).c6
  have b7 := fun ob => (hB.ext (EW ob)).c7
  have Hlen := Lib.hid hv.len
  have hc1 := fun X (E : Ext W X) => clone_any a1 x.s.store.length c1 x.s.store X rfl (by rw [hv.len]; omega) (i1.at_.ext E)
  have hc2 := fun X (E : Ext W X) => clone_any a2 x.s.tape.length c2 x.s.tape X rfl (by have := hv.tlen; omega) (i2.at_.ext E)
  have hc3 := fun X (E : Ext W X) => clone_any a3 x.s.printed.length c3 x.s.printed X rfl (by have := hv.plen; omega) (i3.at_.ext E)
  clear EW
  go_enter Try.func66, Try.ntmps66
  go_wp2
  have E0 : Ext W ((W.alloc (.cells #[.slice none 0 0, .slice none 0 0, .int .i64 0, .slice none 0 0, .int .i64 0, .int .i64 0, .int .i64 0, .int .i64 0] 33)).alloc (.cells #[.slice a1 x.s.store.length c1, .slice a2 x.s.tape.length c2, .int .i64 x.s.taken, .slice a3 x.s.printed.length c3, .int .i64 x.s.time, .int .i64 x.s.at_, .int .i64 x.s.done, .int .i64 x.s.why] 33)) := ((Ext.refl W).alloc _).alloc _
  have hR : ((W.alloc (.cells #[.slice none 0 0, .slice none 0 0, .int .i64 0, .slice none 0 0, .int .i64 0, .int .i64 0, .int .i64 0, .int .i64 0] 33)).alloc (.cells #[.slice a1 x.s.store.length c1, .slice a2 x.s.tape.length c2, .int .i64 x.s.taken, .slice a3 x.s.printed.length c3, .int .i64 x.s.time, .int .i64 x.s.at_, .int .i64 x.s.done, .int .i64 x.s.why] 33)).heap[W.heap.size]? = some (.cells #[.slice none 0 0, .slice none 0 0, .int .i64 0, .slice none 0 0, .int .i64 0, .int .i64 0, .int .i64 0, .int .i64 0] 33 (0, 0)) :=
    (((Ext.refl _).alloc _).block W.heap.size (by simp)).trans (heap_alloc_new W _)
  have hD : ((W.alloc (.cells #[.slice none 0 0, .slice none 0 0, .int .i64 0, .slice none 0 0, .int .i64 0, .int .i64 0, .int .i64 0, .int .i64 0] 33)).alloc (.cells #[.slice a1 x.s.store.length c1, .slice a2 x.s.tape.length c2, .int .i64 x.s.taken, .slice a3 x.s.printed.length c3, .int .i64 x.s.time, .int .i64 x.s.at_, .int .i64 x.s.done, .int .i64 x.s.why] 33)).heap[W.heap.size + 1]? = some (.cells #[.slice a1 x.s.store.length c1, .slice a2 x.s.tape.length c2, .int .i64 x.s.taken, .slice a3 x.s.printed.length c3, .int .i64 x.s.time, .int .i64 x.s.at_, .int .i64 x.s.done, .int .i64 x.s.why] 33 (0, 0)) := by
    have e := heap_alloc_new (W.alloc (.cells #[.slice none 0 0, .slice none 0 0, .int .i64 0, .slice none 0 0, .int .i64 0, .int .i64 0, .int .i64 0, .int .i64 0] 33)) (.cells #[.slice a1 x.s.store.length c1, .slice a2 x.s.tape.length c2, .int .i64 x.s.taken, .slice a3 x.s.printed.length c3, .int .i64 x.s.time, .int .i64 x.s.at_, .int .i64 x.s.done, .int .i64 x.s.why] 33)
    rw [World.size_alloc] at e
    exact e
  obtain ⟨X, hX⟩ : ∃ X, ((W.alloc (.cells #[.slice none 0 0, .slice none 0 0, .int .i64 0, .slice none 0 0, .int .i64 0, .int .i64 0, .int .i64 0, .int .i64 0] 33)).alloc (.cells #[.slice a1 x.s.store.length c1, .slice a2 x.s.tape.length c2, .int .i64 x.s.taken, .slice a3 x.s.printed.length c3, .int .i64 x.s.time, .int .i64 x.s.at_, .int .i64 x.s.done, .int .i64 x.s.why] 33)) = X := ⟨_, rfl⟩
  rw [hX] at E0 hR hD ⊢
  obtain ⟨R, hRn⟩ : ∃ R, W.heap.size = R := ⟨_, rfl⟩
  obtain ⟨D, hDn⟩ : ∃ D, R + 1 = D := ⟨_, rfl⟩
  rw [hRn] at hR hD ⊢
  rw [hDn] at hD ⊢
  have hRD : R ≠ D := by omega
  have hWR : W.heap.size ≤ R := by omega
  have hWD : W.heap.size ≤ D := by omega
  clear b0 b1 b2 b3 b4 b5 b6 b7 hX hRn
  have HS : ∀ Y : World, Ext X Y → Y.cell? ⟨D, 0, none⟩ = some (.slice a1 x.s.store.length c1) ∧ Y.cell? ⟨D, 1, none⟩ = some (.slice a2 x.s.tape.length c2) ∧ Y.cell? ⟨D, 3, none⟩ = some (.slice a3 x.s.printed.length c3) := fun Y E => by
    have h := (E.block D (lt_of_block hD)).trans hD
    exact ⟨blk_cell h 0 rfl, blk_cell h 1 rfl, blk_cell h 3 rfl⟩
  have EX : Ext X X.drew := (Ext.refl X).drew
  refine wp_region_Z (fun i => decide (9 ≤ i)) (fun Y => Ext X Y) (by kernel_rfl) EX fun hSX => ?_
  refine wpAnyZ_take (i := 0) (oi := ⟨_, _, _, _, _, _⟩) (v := ?_) rfl (by kernel_rfl) (by kernel_rfl) (by kernel_rfl) (by kernel_rfl) (fun _ _ _ h => h) (Or.inl ⟨by rfl, ?_⟩) hSX ?_
  rotate_left
  · intro wX hS
    obtain ⟨q0, q1, q2⟩ := HS wX hS
    go_simp
    (try with_reducible rfl)
  (try simp only [Act.put, List.setIfInBounds_toArray, List.set_cons_zero, List.set_cons_succ])
  refine wpAnyZ_take (i := 1) (oi := ⟨_, _, _, _, _, _⟩) (v := ?_) rfl (by kernel_rfl) (by kernel_rfl) (by kernel_rfl) (by kernel_rfl) (fun _ _ _ h => h) (Or.inl ⟨by rfl, ?_⟩) hSX ?_
  rotate_left
  · intro wX hS
    obtain ⟨q0, q1, q2⟩ := HS wX hS
    go_simp
    (try with_reducible rfl)
  (try simp only [Act.put, List.setIfInBounds_toArray, List.set_cons_zero, List.set_cons_succ])
  refine wpAnyZ_take (i := 3) (oi := ⟨_, _, _, _, _, _⟩) (v := ?_) rfl (by kernel_rfl) (by kernel_rfl) (by kernel_rfl) (by kernel_rfl) (fun _ _ _ h => h) (Or.inl ⟨by rfl, ?_⟩) hSX ?_
  rotate_left
  · intro wX hS
    obtain ⟨q0, q1, q2⟩ := HS wX hS
    go_simp
    (try with_reducible rfl)
  (try simp only [Act.put, List.setIfInBounds_toArray, List.set_cons_zero, List.set_cons_succ])
  refine wpAnyZ_take (i := 4) (oi := ⟨_, _, _, _, _, _⟩) (v := ?_) rfl (by kernel_rfl) (by kernel_rfl) (by kernel_rfl) (by kernel_rfl) (fun _ _ _ h => h) (Or.inl ⟨by rfl, ?_⟩) hSX ?_
  rotate_left
  · intro wX hS
    obtain ⟨q0, q1, q2⟩ := HS wX hS
    go_simp
    (try with_reducible rfl)
  (try simp only [Act.put, List.setIfInBounds_toArray, List.set_cons_zero, List.set_cons_succ])
  refine wpAnyZ_take (i := 6) (oi := ⟨_, _, _, _, _, _⟩) (v := ?_) rfl (by kernel_rfl) (by kernel_rfl) (by kernel_rfl) (by kernel_rfl) (fun _ _ _ h => h) (Or.inl ⟨by rfl, ?_⟩) hSX ?_
  rotate_left
  · intro wX hS
    obtain ⟨q0, q1, q2⟩ := HS wX hS
    go_simp
    (try with_reducible rfl)
  (try simp only [Act.put, List.setIfInBounds_toArray, List.set_cons_zero, List.set_cons_succ])
  refine wpAnyZ_take (i := 7) (oi := ⟨_, _, _, _, _, _⟩) (v := ?_) rfl (by kernel_rfl) (by kernel_rfl) (by kernel_rfl) (by kernel_rfl) (fun _ _ _ h => h) (Or.inl ⟨by rfl, ?_⟩) hSX ?_
  rotate_left
  · intro wX hS
    obtain ⟨q0, q1, q2⟩ := HS wX hS
    go_simp
    (try with_reducible rfl)
  (try simp only [Act.put, List.setIfInBounds_toArray, List.set_cons_zero, List.set_cons_succ])
  refine wpAnyZ_one (i := 2) (o := ⟨_, _, _, _, _, _⟩) (by kernel_rfl) rfl (fun K hK => ?_)
  go_simp
  go_at_call 96
  refine (hc1 _ (E0.comp EX)).mono ?_
  rintro e y1 ⟨p1, d1, rfl, O1, E1⟩
  have EX1 := EX.comp E1
  refine hK _ _ (.inr EX1) (fun _ => ?_)
  clear hK
  (try simp only [Act.put, List.setIfInBounds_toArray, List.set_cons_zero, List.set_cons_succ])
  refine wpAnyZ_takeP (i := 9) (oi := ⟨_, _, _, _, _, _⟩) (v := ?_) rfl (by kernel_rfl) (by kernel_rfl) (by kernel_rfl) (by kernel_rfl) (fun _ _ _ h => h) (Or.inl ⟨by rfl, ?_⟩) ?_
  rotate_left
  · intro wX _
    go_simp
    (try with_reducible rfl)
  (try simp only [Act.put, List.setIfInBounds_toArray, List.set_cons_zero, List.set_cons_succ])
  refine wpAnyZ_one (i := 5) (o := ⟨_, _, _, _, _, _⟩) (by kernel_rfl) rfl (fun K hK => ?_)
  go_simp
  go_at_call 96
  refine (hc2 _ (E0.comp EX1)).mono ?_
  rintro e y2 ⟨p2, d2, rfl, O2, E2⟩
  have EX2 := EX1.comp E2
  refine hK _ _ (.inr EX2) (fun _ => ?_)
  clear hK
  (try simp only [Act.put, List.setIfInBounds_toArray, List.set_cons_zero, List.set_cons_succ])
  refine wpAnyZ_one (i := 8) (o := ⟨_, _, _, _, _, _⟩) (by kernel_rfl) rfl (fun K hK => ?_)
  go_simp
  go_at_call 96
  refine (hc3 _ (E0.comp EX2)).mono ?_
  rintro e y3 ⟨p3, d3, rfl, O3, E3⟩
  have EX3 := EX2.comp E3
  refine hK _ _ (.inr EX3) (fun _ => ?_)
  clear hK
  (try simp only [Act.put, List.setIfInBounds_toArray, List.set_cons_zero, List.set_cons_succ])
  have g0 := (EX3.block D (lt_of_block hD)).trans hD
  have EW3 := E0.comp EX3
  have hRy := (EX3.block R (lt_of_block hR)).trans hR
  clear HS hc1 hc2 hc3 EX
  have f0 := blk_free g0 0
  have e0 := blk_cell g0 0 rfl
  have g1 := cells_set g0 0 (.slice p1 x.s.store.length d1)
  refine wpAnyZ_one (i := 10) (o := ⟨_, _, _, _, _, _⟩) (by kernel_rfl) rfl (fun K hK => ?_)
  go_simp
  refine hK _ _ (.inl rfl) (fun _ => ?_)
  clear hK
  (try simp only [Act.put, List.setIfInBounds_toArray, List.set_cons_zero, List.set_cons_succ])
  refine wpAnyZ_takeP (i := 11) (oi := ⟨_, _, _, _, _, _⟩) (v := ?_) rfl (by kernel_rfl) (by kernel_rfl) (by kernel_rfl) (by kernel_rfl) (fun _ _ _ h => h) (Or.inl ⟨by rfl, ?_⟩) ?_
  rotate_left
  · intro wX _
    go_simp
    (try with_reducible rfl)
  (try simp only [Act.put, List.setIfInBounds_toArray, List.set_cons_zero, List.set_cons_succ])
  have f1 := blk_free g1 1
  have e1 := blk_cell g1 1 rfl
  have g2 := cells_set g1 1 (.slice p2 x.s.tape.length d2)
  refine wpAnyZ_one (i := 12) (o := ⟨_, _, _, _, _, _⟩) (by kernel_rfl) rfl (fun K hK => ?_)
  go_simp
  refine hK _ _ (.inl rfl) (fun _ => ?_)
  clear hK
  (try simp only [Act.put, List.setIfInBounds_toArray, List.set_cons_zero, List.set_cons_succ])
  refine wpAnyZ_takeP (i := 13) (oi := ⟨_, _, _, _, _, _⟩) (v := ?_) rfl (by kernel_rfl) (by kernel_rfl) (by kernel_rfl) (by kernel_rfl) (fun _ _ _ h => h) (Or.inl ⟨by rfl, ?_⟩) ?_
  rotate_left
  · intro wX _
    go_simp
    (try with_reducible rfl)
  (try simp only [Act.put, List.setIfInBounds_toArray, List.set_cons_zero, List.set_cons_succ])
  have f2 := blk_free g2 3
  have e2 := blk_cell g2 3 rfl
  have g3 := cells_set g2 3 (.slice p3 x.s.printed.length d3)
  refine wpAnyZ_one (i := 14) (o := ⟨_, _, _, _, _, _⟩) (by kernel_rfl) rfl (fun K hK => ?_)
  go_simp
  refine hK _ _ (.inl rfl) (fun _ => ?_)
  clear hK
  (try simp only [Act.put, List.setIfInBounds_toArray, List.set_cons_zero, List.set_cons_succ])
  refine wpAnyZ_done (by kernel_rfl) ?_ _
  have KV : KpM (fun q => q = D) y3 (((y3.setCell ⟨D, 0, none⟩ (.slice p1 x.s.store.length d1)).setCell ⟨D, 1, none⟩ (.slice p2 x.s.tape.length d2)).setCell ⟨D, 3, none⟩ (.slice p3 x.s.printed.length d3)) :=
    ((kpm_set (M := fun q => q = D) _ D 0 _ rfl).trans (kpm_set (M := fun q => q = D) _ D 1 _ rfl)).trans (kpm_set (M := fun q => q = D) _ D 3 _ rfl)
  generalize ((y3.setCell ⟨D, 0, none⟩ (.slice p1 x.s.store.length d1)).setCell ⟨D, 1, none⟩ (.slice p2 x.s.tape.length d2)).setCell ⟨D, 3, none⟩ (.slice p3 x.s.printed.length d3) = V at *
  have gV : V.heap[D]? = some (.cells #[.slice p1 x.s.store.length d1, .slice p2 x.s.tape.length d2, .int .i64 x.s.taken, .slice p3 x.s.printed.length d3, .int .i64 x.s.time, .int .i64 x.s.at_, .int .i64 x.s.done, .int .i64 x.s.why] 33 (0, 0)) := by simpa using g3
  have hRV := (KV.block R (lt_of_block hRy) hRD).trans hRy
  have hDX : D < X.heap.size := lt_of_block hD
  have z1 := EX1.size
  have z2 := EX2.size
  have z3 := E2.size
  have z4 := E3.size
  have n1 := own_lo O1
  have n2 := own_lo O2
  have n3 := own_lo O3
  have n0 : X.drew.heap.size = X.heap.size := rfl
  have P1 := Lib.hid (own_kpI (own_extI (own_extI O1 E2) E3) KV (fun b hb e => by have := own_at O1 hb; omega))
  have P2 := Lib.hid (ints_kp ((own_ints O2).ext E3) KV (fun b hb e => by have := n2 b hb; omega))
  have P3 := Lib.hid (ints_kp (own_ints O3) KV (fun b hb e => by have := n3 b hb; omega))
  have hRX : R < X.heap.size := lt_of_block hR
  have PN : Hid (∀ b, p1.map (·.block) = some b → W.heap.size ≤ b ∧ b ≠ R) := Lib.hid (fun b hb => by have := n1 b hb; omega)
  have PM : Hid (∀ b b', p1.map (·.block) = some b → (p2.map (·.block) = some b' ∨ p3.map (·.block) = some b') → b' ≠ b ∧ b' ≠ R ∧ W.heap.size ≤ b') := Lib.hid (fun b b' hb hb' => by
    have h1 := n1 b hb
    rcases hb' with hb' | hb'
    · have := n2 b' hb'; omega
    · have := n3 b' hb'; omega)
  have EV : Ext W V := EW3.below5 KV (fun b hb => by rw [hb]; exact hWD)
  clear f0 f1 f2 e0 e1 e2 g0 g1 g2 g3 hRy O1 O2 O3 KV n1 n2 n3 n0 z1 z2 z3 z4 hDX hRX EX1 EX2 EX3 EW3 E1 E2 E3 hD hR E0 hSX
  have c0 := cell_of_cells gV 0 (v := .slice p1 x.s.store.length d1) rfl
  have c1 := cell_of_cells gV 1 (v := .slice p2 x.s.tape.length d2) rfl
  have c2 := cell_of_cells gV 2 (v := .int .i64 x.s.taken) rfl
  have c3 := cell_of_cells gV 3 (v := .slice p3 x.s.printed.length d3) rfl
  have c4 := cell_of_cells gV 4 (v := .int .i64 x.s.time) rfl
  have c5 := cell_of_cells gV 5 (v := .int .i64 x.s.at_) rfl
  have c6 := cell_of_cells gV 6 (v := .int .i64 x.s.done) rfl
  have c7 := cell_of_cells gV 7 (v := .int .i64 x.s.why) rfl
  have q0 := cell_of_cells hRV 0 (v := .slice none 0 0) rfl
  have q1 := cell_of_cells hRV 1 (v := .slice none 0 0) rfl
  have q2 := cell_of_cells hRV 2 (v := .int .i64 0) rfl
  have q3 := cell_of_cells hRV 3 (v := .slice none 0 0) rfl
  have q4 := cell_of_cells hRV 4 (v := .int .i64 0) rfl
  have q5 := cell_of_cells hRV 5 (v := .int .i64 0) rfl
  have q6 := cell_of_cells hRV 6 (v := .int .i64 0) rfl
  have q7 := cell_of_cells hRV 7 (v := .int .i64 0) rfl
  have f0 := free_of_cells hRV 0
  have f1 := free_of_cells hRV 1
  have f2 := free_of_cells hRV 2
  have f3 := free_of_cells hRV 3
  have f4 := free_of_cells hRV 4
  have f5 := free_of_cells hRV 5
  have f6 := free_of_cells hRV 6
  have f7 := free_of_cells hRV 7
  go_wp2
  refine bodyPost_ret (v := .agg #[.slice p1 x.s.store.length d1, .slice p2 x.s.tape.length d2, .int .i64 x.s.taken, .slice p3 x.s.printed.length d3, .int .i64 x.s.time, .int .i64 x.s.at_, .int .i64 x.s.done, .int .i64 x.s.why]) (by simp [results, Try.results66, go_sem, q0, q1, q2, q3, q4, q5, q6, q7]) rfl ?_
  have hb := hRV
  have KR := s8_kp (M := fun q => q = R) (w := V) (b := R) (n0 := .slice p1 x.s.store.length d1) (n1 := .slice p2 x.s.tape.length d2) (n2 := .int .i64 x.s.taken) (n3 := .slice p3 x.s.printed.length d3) (n4 := .int .i64 x.s.time) (n5 := .int .i64 x.s.at_) (n6 := .int .i64 x.s.done) (n7 := .int .i64 x.s.why) rfl
  obtain ⟨g, cap, hp⟩ := ownsRow_form P1.out (by rw [Hlen.out]; decide)
  obtain ⟨rfl, -, rfl⟩ := Value.slice.inj hp
  obtain ⟨pn1, pn2⟩ := PN.out g rfl
  have O := own_weak (own_kpI P1.out KR (fun b hb e => by cases hb; exact pn2 e)) (B := W.heap.size) (fun b hb => by cases hb; exact pn1)
  exact ⟨g, _, p2, d2, p3, d3, rfl, pn1, O, ints_kp P2.out KR (fun b hb e => (PM.out g b rfl (.inl hb)).2.1 e), fun b hb => ⟨(PM.out g b rfl (.inl hb)).1, (PM.out g b rfl (.inl hb)).2.2⟩, ints_kp P3.out KR (fun b hb e => (PM.out g b rfl (.inr hb)).2.1 e), fun b hb => ⟨(PM.out g b rfl (.inr hb)).1, (PM.out g b rfl (.inr hb)).2.2⟩, EV.below5 KR (fun b hb => by rw [hb]; exact hWR)⟩
end Go.Proofs.Ytnhpcoagkmgdoaa
/- Layer 10's program: Block. -/
namespace Go.Q
open Go.RowKit
def blockE (s : St) (a : Int) : St × Int := if guardX s [] 0 ≠ 0 then (zst, guardX s [] 0) else if inB a 0 127 = true then (blockQ a s, 0) else (zst, 7)
end Go.Q
namespace Go.Proofs.Ytnhpcoagkmgdoaa
open Go.RowKit Go.Q Go.Shelf Go.Maps Go.Joins
set_option maxHeartbeats 4000000
set_option maxRecDepth 100000
theorem own_setI {X : World} {g n c B : Nat} {xs : List Int} (h : X.ownsRow B 3 1 (.slice (some ⟨g, 0, none⟩) n c) n (iv xs)) (j : Nat) (v : Int) : (X.setCell ⟨g, j, none⟩ (.int .i64 v)).ownsRow B 3 1 (.slice (some ⟨g, 0, none⟩) n c) n (iv (xs.set j v)) := by
  obtain ⟨k1, _⟩ := h.stored j (.int .i64 v)
  unfold iv at k1 ⊢
  rw [List.map_set]
  exact k1
theorem own_cellI {X : World} {g n c B : Nat} {xs : List Int} (h : X.ownsRow B 3 1 (.slice (some ⟨g, 0, none⟩) n c) n (iv xs)) (j : Nat) (hj : j < xs.length) : X.cell? ⟨g, j, none⟩ = some (.int .i64 (xs[j]?.getD 0)) := by
  rcases own_ints h with e | ⟨b, off, ha, _, hc⟩
  · rw [e] at hj; exact absurd hj (Nat.not_lt_zero _)
  · cases ha
    have := hc j hj
    rwa [Nat.zero_add] at this
theorem block_any (v : Value) (s : St) (a : Int) (w : World) (h : StAt w v s) (hb : StBd s) :
    Calls Try.prog 38 #[v, .int .i64 a] w (StRes (blockE s a) w) := by
  obtain ⟨a1, a2, a3, k1, k2, k3, rfl, i1, i2, i3⟩ := h
  have hs : StAt w (sv a1 a2 a3 s.store.length k1 s.tape.length k2 s.printed.length k3 s.taken s.time s.at_ s.done s.why) s := ⟨a1, a2, a3, k1, k2, k3, rfl, i1, i2, i3⟩
  have ho := fun W (E : Ext w W) => open_any _ s [] none 0 0 0 W (hs.ext E) hb rfl (.inl rfl) (by simp)
  clear hs hb i1 i2 i3
  have E0 : Ext w ((w.alloc (.cells #[.slice a1 s.store.length k1, .slice a2 s.tape.length k2, .int .i64 s.taken, .slice a3 s.printed.length k3, .int .i64 s.time, .int .i64 s.at_, .int .i64 s.done, .int .i64 s.why] 33)).alloc (.cells #[.slice none 0 0, .slice none 0 0, .int .i64 0, .slice none 0 0, .int .i64 0, .int .i64 0, .int .i64 0, .int .i64 0] 33)) := ((Ext.refl w).alloc _).alloc _
  have hR : ((w.alloc (.cells #[.slice a1 s.store.length k1, .slice a2 s.tape.length k2, .int .i64 s.taken, .slice a3 s.printed.length k3, .int .i64 s.time, .int .i64 s.at_, .int .i64 s.done, .int .i64 s.why] 33)).alloc (.cells #[.slice none 0 0, .slice none 0 0, .int .i64 0, .slice none 0 0, .int .i64 0, .int .i64 0, .int .i64 0, .int .i64 0] 33)).heap[w.heap.size + 1]? = some (.cells #[.slice none 0 0, .slice none 0 0, .int .i64 0, .slice none 0 0, .int .i64 0, .int .i64 0, .int .i64 0, .int .i64 0] 33 (0, 0)) := by
    have e := heap_alloc_new (w.alloc (.cells #[.slice a1 s.store.length k1, .slice a2 s.tape.length k2, .int .i64 s.taken, .slice a3 s.printed.length k3, .int .i64 s.time, .int .i64 s.at_, .int .i64 s.done, .int .i64 s.why] 33)) (.cells #[.slice none 0 0, .slice none 0 0, .int .i64 0, .slice none 0 0, .int .i64 0, .int .i64 0, .int .i64 0, .int .i64 0] 33)
    rw [World.size_alloc] at e
    exact e
  have hP := (Below.heap_alloc (w.alloc (.cells #[.slice a1 s.store.length k1, .slice a2 s.tape.length k2, .int .i64 s.taken, .slice a3 s.printed.length k3, .int .i64 s.time, .int .i64 s.at_, .int .i64 s.done, .int .i64 s.why] 33)) (.cells #[.slice none 0 0, .slice none 0 0, .int .i64 0, .slice none 0 0, .int .i64 0, .int .i64 0, .int .i64 0, .int .i64 0] 33) _ (lt_of_block (heap_alloc_new w (.cells #[.slice a1 s.store.length k1, .slice a2 s.tape.length k2, .int .i64 s.taken, .slice a3 s.printed.length k3, .int .i64 s.time, .int .i64 s.at_, .int .i64 s.done, .int .i64 s.why] 33)))).trans (heap_alloc_new w (.cells #[.slice a1 s.store.length k1, .slice a2 s.tape.length k2, .int .i64 s.taken, .slice a3 s.printed.length k3, .int .i64 s.time, .int .i64 s.at_, .int .i64 s.done, .int .i64 s.why] 33))
  obtain ⟨er, her⟩ : ∃ er, guardX s [] 0 = er := ⟨_, rfl⟩
  have HER := Lib.hid her
  clear her
  go_enter Try.func38, Try.ntmps38
  have q0 := blk_cell hP 0 (v := .slice a1 s.store.length k1) rfl
  have q1 := blk_cell hP 1 (v := .slice a2 s.tape.length k2) rfl
  have q2 := blk_cell hP 2 (v := .int .i64 s.taken) rfl
  have q3 := blk_cell hP 3 (v := .slice a3 s.printed.length k3) rfl
  have q4 := blk_cell hP 4 (v := .int .i64 s.time) rfl
  have q5 := blk_cell hP 5 (v := .int .i64 s.at_) rfl
  have q6 := blk_cell hP 6 (v := .int .i64 s.done) rfl
  have q7 := blk_cell hP 7 (v := .int .i64 s.why) rfl
  go_wp2_with fail
  refine (ho _ E0).mono ?_
  rintro e w1 (⟨hx, m, mb, rfl, hm, hmb, hL, E1⟩ | ⟨hx, rfl, E1⟩)
  · clear ho q0 q1 q2 q3 q4 q5 q6 q7
    have HX := Lib.hid hx
    have hR1 := (E1.block _ (lt_of_block hR)).trans hR
    have hP1 := (E1.block _ (lt_of_block hP)).trans hP
    have hsz1 : w.heap.size + 2 ≤ w1.heap.size := by have := E1.size; simp at this; omega
    clear hm hmb hx
    cases hA : inB a 0 127 with
    | false =>
      have HVe : Hid (blockE s a = (zst, 7)) := Lib.hid (by unfold blockE; rw [if_neg (by rw [HX.out]; decide), hA]; rfl)
      have q0 := blk_cell hR1 0 (v := .slice none 0 0) rfl
      have q1 := blk_cell hR1 1 (v := .slice none 0 0) rfl
      have q2 := blk_cell hR1 2 (v := .int .i64 0) rfl
      have q3 := blk_cell hR1 3 (v := .slice none 0 0) rfl
      have q4 := blk_cell hR1 4 (v := .int .i64 0) rfl
      have q5 := blk_cell hR1 5 (v := .int .i64 0) rfl
      have q6 := blk_cell hR1 6 (v := .int .i64 0) rfl
      have q7 := blk_cell hR1 7 (v := .int .i64 0) rfl
      have f0 := blk_free hR1 0
      have f1 := blk_free hR1 1
      have f2 := blk_free hR1 2
      have f3 := blk_free hR1 3
      have f4 := blk_free hR1 4
      have f5 := blk_free hR1 5
      have f6 := blk_free hR1 6
      have f7 := blk_free hR1 7
      clear hL
      go_wp2_with (go_at_call 42; refine (out10_any _ _ _ _).mono ?_; rintro e w2 ⟨rfl, rfl⟩; obtain ⟨w1, rfl⟩ : ∃ q, q = w2 := ⟨_, rfl⟩; (try simp only [hA, Bool.not_true, Bool.not_false]))
      refine bodyPost_ret (v := .tuple #[.agg #[.slice none 0 0, .slice none 0 0, .int .i64 0, .slice none 0 0, .int .i64 0, .int .i64 0, .int .i64 0, .int .i64 0], .int .i64 7]) (by simp [results, Try.results38, go_sem, q0, q1, q2, q3, q4, q5, q6, q7]) rfl ?_
      have KR := s8_kp (M := fun q => q = w.heap.size + 1) (w := w1) (b := w.heap.size + 1) (n0 := .slice none 0 0) (n1 := .slice none 0 0) (n2 := .int .i64 0) (n3 := .slice none 0 0) (n4 := .int .i64 0) (n5 := .int .i64 0) (n6 := .int .i64 0) (n7 := .int .i64 0) rfl
      rw [HVe.out]
      exact ⟨_, rfl, zst_at _, (E0.comp E1).below5 KR (fun b hb => by omega)⟩
    | true =>
      have hv := (guard_valid HX.out).1
      have HVe : Hid (blockE s a = (blockQ a s, 0)) := Lib.hid (by unfold blockE; rw [if_neg (by rw [HX.out]; decide), hA, if_pos rfl])
      have hab := inB_bd hA
      have hso := state_own m mb [] (beginL s) w1 hL hv
      obtain ⟨p, rfl⟩ := Int.eq_ofNat_of_zero_le hab.1
      have hp : p < 128 := by omega
      have hlen := hv.len
      have HVL := Lib.hid hlen
      clear hab hL hv hlen
      go_wp2_with (go_at_call 42; refine (out10_any _ _ _ _).mono ?_; rintro e w2 ⟨rfl, rfl⟩; obtain ⟨w1, rfl⟩ : ∃ q, q = w2 := ⟨_, rfl⟩; (try simp only [hA, Bool.not_true, Bool.not_false]))
      refine hso.mono ?_
      rintro e w2 ⟨g, d1, p2, d2, p3, d3, rfl, hg1, O1, I2, N2, I3, N3, E2⟩
      clear hso
      change Ext w1 w2 at E2
      have hP2 := (E2.block _ (lt_of_block hP1)).trans hP1
      have hR2 := (E2.block _ (lt_of_block hR1)).trans hR1
      obtain ⟨t, ht⟩ : ∃ t, (beginL s).s = t := ⟨_, rfl⟩
      have hts : t = s := ht.symm
      rw [ht] at O1 I2 I3 ⊢
      subst hts
      have KP := s8_kp (M := fun q => q = w.heap.size) (w := w2) (b := w.heap.size) (n0 := .slice (some ⟨g, 0, none⟩) t.store.length d1) (n1 := .slice p2 t.tape.length d2) (n2 := .int .i64 t.taken) (n3 := .slice p3 t.printed.length d3) (n4 := .int .i64 t.time) (n5 := .int .i64 t.at_) (n6 := .int .i64 t.done) (n7 := .int .i64 t.why) rfl
      unfold S8 at KP
      have g9 := cells_set (cells_set (cells_set (cells_set (cells_set (cells_set (cells_set (cells_set hP2 0 (.slice (some ⟨g, 0, none⟩) t.store.length d1)) 1 (.slice p2 t.tape.length d2)) 2 (.int .i64 t.taken)) 3 (.slice p3 t.printed.length d3)) 4 (.int .i64 t.time)) 5 (.int .i64 t.at_)) 6 (.int .i64 t.done)) 7 (.int .i64 t.why)
      (try simp at g9)
      have O2 := own_kpI O1 KP (fun b hb e => by obtain rfl : g = b := Option.some.inj hb; omega)
      have I2' := ints_kp I2 KP (fun b hb e => by have := (N2 b hb).2; omega)
      have I3' := ints_kp I3 KP (fun b hb e => by have := (N3 b hb).2; omega)
      have hR3 := (KP.block (w.heap.size + 1) (lt_of_block hR2) (by omega)).trans hR2
      have E3 : Ext w _ := ((E0.comp E1).comp E2).below5 KP (fun b hb => by omega)
      have q0 := blk_cell hP2 0 (v := .slice a1 t.store.length k1) rfl
      have q1 := blk_cell hP2 1 (v := .slice a2 t.tape.length k2) rfl
      have q2 := blk_cell hP2 2 (v := .int .i64 t.taken) rfl
      have q3 := blk_cell hP2 3 (v := .slice a3 t.printed.length k3) rfl
      have q4 := blk_cell hP2 4 (v := .int .i64 t.time) rfl
      have q5 := blk_cell hP2 5 (v := .int .i64 t.at_) rfl
      have q6 := blk_cell hP2 6 (v := .int .i64 t.done) rfl
      have q7 := blk_cell hP2 7 (v := .int .i64 t.why) rfl
      have f0 := blk_free hP2 0
      have f1 := blk_free hP2 1
      have f2 := blk_free hP2 2
      have f3 := blk_free hP2 3
      have f4 := blk_free hP2 4
      have f5 := blk_free hP2 5
      have f6 := blk_free hP2 6
      have f7 := blk_free hP2 7
      go_upto_region 7 with fail
      generalize ((((((((w2.setCell ⟨w.heap.size, 0, none⟩ (.slice (some ⟨g, 0, none⟩) t.store.length d1)).setCell ⟨w.heap.size, 1, none⟩ (.slice p2 t.tape.length d2)).setCell ⟨w.heap.size, 2, none⟩ (.int .i64 t.taken)).setCell ⟨w.heap.size, 3, none⟩ (.slice p3 t.printed.length d3)).setCell ⟨w.heap.size, 4, none⟩ (.int .i64 t.time)).setCell ⟨w.heap.size, 5, none⟩ (.int .i64 t.at_)).setCell ⟨w.heap.size, 6, none⟩ (.int .i64 t.done)).setCell ⟨w.heap.size, 7, none⟩ (.int .i64 t.why)) = V at g9 O2 I2' I3' hR3 E3 KP ⊢
      clear q0 q1 q2 q3 q4 q5 q6 q7 f0 f1 f2 f3 f4 f5 f6 f7 O1 I2 I3 hP2 hR2 hP1 hR1 hP hR KP
      have c0 := own_cellI O2 p (by rw [HVL.out]; exact hp)
      have ff := O2.frozenAt p
      have q0 := blk_cell g9 0 (v := .slice (some ⟨g, 0, none⟩) t.store.length d1) rfl
      have hp0 : (0 : Int) ≤ (p : Int) := by omega
      have hp1 : (p : Int) < (t.store.length : Int) := by rw [HVL.out]; omega
      have O3 := own_setI O2 p 0
      have KG : KpM (fun q => q = g) V (V.setCell ⟨g, p, none⟩ (.int .i64 0)) := kpm_set (M := fun q => q = g) V g p (.int .i64 0) rfl
      have J2 := ints_kp I2' KG (fun b hb => (N2 b hb).1)
      have J3 := ints_kp I3' KG (fun b hb => (N3 b hb).1)
      have g10 := (KG.block w.heap.size (lt_of_block g9) (by omega)).trans g9
      have hR4 := (KG.block (w.heap.size + 1) (lt_of_block hR3) (by omega)).trans hR3
      have E4 : Ext w _ := E3.below5 KG (fun b hb => by omega)
      go_upto_region 8 with fail
      generalize V.setCell ⟨g, p, none⟩ (.int .i64 0) = V2 at g10 O3 J2 J3 hR4 E4 ⊢
      clear c0 ff q0 O2 I2' I3' g9 hR3 KG E3
      have q0 := blk_cell g10 0 (v := .slice (some ⟨g, 0, none⟩) t.store.length d1) rfl
      have q1 := blk_cell g10 1 (v := .slice p2 t.tape.length d2) rfl
      have q2 := blk_cell g10 2 (v := .int .i64 t.taken) rfl
      have q3 := blk_cell g10 3 (v := .slice p3 t.printed.length d3) rfl
      have q4 := blk_cell g10 4 (v := .int .i64 t.time) rfl
      have q5 := blk_cell g10 5 (v := .int .i64 t.at_) rfl
      have q6 := blk_cell g10 6 (v := .int .i64 t.done) rfl
      have q7 := blk_cell g10 7 (v := .int .i64 t.why) rfl
      have r0 := blk_cell hR4 0 (v := .slice none 0 0) rfl
      have r1 := blk_cell hR4 1 (v := .slice none 0 0) rfl
      have r2 := blk_cell hR4 2 (v := .int .i64 0) rfl
      have r3 := blk_cell hR4 3 (v := .slice none 0 0) rfl
      have r4 := blk_cell hR4 4 (v := .int .i64 0) rfl
      have r5 := blk_cell hR4 5 (v := .int .i64 0) rfl
      have r6 := blk_cell hR4 6 (v := .int .i64 0) rfl
      have r7 := blk_cell hR4 7 (v := .int .i64 0) rfl
      have f0 := blk_free hR4 0
      have f1 := blk_free hR4 1
      have f2 := blk_free hR4 2
      have f3 := blk_free hR4 3
      have f4 := blk_free hR4 4
      have f5 := blk_free hR4 5
      have f6 := blk_free hR4 6
      have f7 := blk_free hR4 7
      go_wp2_with fail
      refine bodyPost_ret (v := .tuple #[sv (some ⟨g, 0, none⟩) p2 p3 t.store.length d1 t.tape.length d2 t.printed.length d3 t.taken t.time t.at_ t.done t.why, .int .i64 0]) (by simp [results, Try.results38, go_sem, r0, r1, r2, r3, r4, r5, r6, r7]) rfl ?_
      have KR := s8_kp (M := fun q => q = w.heap.size + 1) (w := V2) (b := w.heap.size + 1) (n0 := .slice (some ⟨g, 0, none⟩) t.store.length d1) (n1 := .slice p2 t.tape.length d2) (n2 := .int .i64 t.taken) (n3 := .slice p3 t.printed.length d3) (n4 := .int .i64 t.time) (n5 := .int .i64 t.at_) (n6 := .int .i64 t.done) (n7 := .int .i64 t.why) rfl
      rw [HVe.out]
      have O4 := own_ints (own_kpI O3 KR (fun b hb e => by obtain rfl : g = b := Option.some.inj hb; omega))
      refine ⟨_, rfl, ⟨some ⟨g, 0, none⟩, p2, p3, d1, d2, d3, ?_, ?_, ints_kp J2 KR (fun b hb e => by have := (N2 b hb).2; omega), ints_kp J3 KR (fun b hb e => by have := (N3 b hb).2; omega)⟩, E4.below5 KR (fun b hb => by omega)⟩
      · show _ = sv _ _ _ (t.store.set (p : Int).toNat 0).length _ _ _ _ _ _ _ _ _ _
        rw [List.length_set]
        rfl
      · exact O4
  · have hne : er ≠ 0 := by rw [← HER.out]; exact hx
    have HVe : Hid (blockE s a = (zst, er)) := Lib.hid (by unfold blockE; rw [if_pos hx, HER.out])
    rw [HER.out]
    have e1 : (er != 0) = true := by simpa using hne
    have hR1 := (E1.block _ (lt_of_block hR)).trans hR
    clear ho q0 q1 q2 q3 q4 q5 q6 q7 hx hne
    have q0 := blk_cell hR1 0 (v := .slice none 0 0) rfl
    have q1 := blk_cell hR1 1 (v := .slice none 0 0) rfl
    have q2 := blk_cell hR1 2 (v := .int .i64 0) rfl
    have q3 := blk_cell hR1 3 (v := .slice none 0 0) rfl
    have q4 := blk_cell hR1 4 (v := .int .i64 0) rfl
    have q5 := blk_cell hR1 5 (v := .int .i64 0) rfl
    have q6 := blk_cell hR1 6 (v := .int .i64 0) rfl
    have q7 := blk_cell hR1 7 (v := .int .i64 0) rfl
    have f0 := blk_free hR1 0
    have f1 := blk_free hR1 1
    have f2 := blk_free hR1 2
    have f3 := blk_free hR1 3
    have f4 := blk_free hR1 4
    have f5 := blk_free hR1 5
    have f6 := blk_free hR1 6
    have f7 := blk_free hR1 7
    go_wp2_with fail
    refine bodyPost_ret (v := .tuple #[.agg #[.slice none 0 0, .slice none 0 0, .int .i64 0, .slice none 0 0, .int .i64 0, .int .i64 0, .int .i64 0, .int .i64 0], .int .i64 er]) (by simp [results, Try.results38, go_sem, q0, q1, q2, q3, q4, q5, q6, q7]) rfl ?_
    have KR := s8_kp (M := fun q => q = w.heap.size + 1) (w := w1) (b := w.heap.size + 1) (n0 := .slice none 0 0) (n1 := .slice none 0 0) (n2 := .int .i64 0) (n3 := .slice none 0 0) (n4 := .int .i64 0) (n5 := .int .i64 0) (n6 := .int .i64 0) (n7 := .int .i64 0) rfl
    rw [HVe.out]
    exact ⟨_, rfl, zst_at _, (E0.comp E1).below5 KR (fun b hb => by omega)⟩
end Go.Proofs.Ytnhpcoagkmgdoaa
/- Layer 10's reference: Reads. -/
namespace Go.Proofs.Ytnhpcoagkmgdoaa
open Go.RowKit Go.Q Go.Shelf Go.Maps Go.Joins
set_option maxHeartbeats 4000000
set_option maxRecDepth 100000
def ReadsRes (s : St) (w : World) (e : Ending) (w' : World) : Prop := ∃ a c, e = .returned (.tuple #[.slice a (readsQ s).length c, .int .i64 (writesQ s)]) ∧ IntsAt w' a (readsQ s) ∧ Ext w w'
theorem rreads_any (v : Value) (s : St) (w : World) (h : StAt w v s) (hv : Valid s) : Calls Try.prog 37 #[v] w (ReadsRes s w) := by
  obtain ⟨a1, a2, a3, k1, k2, k3, rfl, i1, i2, i3⟩ := h
  obtain ⟨p, hp⟩ := Int.eq_ofNat_of_zero_le hv.at_.1
  have hp1 := hv.at_.2
  have HA : Hid (s.at_ = (p : Int)) := Lib.hid hp
  have hp128 : p < 128 := by omega
  have hbd := wordAt_bd hv s.at_
  obtain ⟨wa, hwa⟩ : ∃ wa, wordAt s s.at_ = wa := ⟨_, rfl⟩
  rw [hwa] at hbd
  have hob := ordB_decode hbd.1 hbd.2
  obtain ⟨op, fm, tm, nx, ho⟩ : ∃ op fm tm nx, decodeQ wa = ⟨op, fm, tm, nx⟩ := ⟨_, _, _, _, rfl⟩
  have HO : Hid (ordAt s = ⟨op, fm, tm, nx⟩) := Lib.hid (by unfold ordAt; rw [hwa, ho])
  rw [ho] at hob
  simp only [ordB, addrB, inB, Bool.and_eq_true, decide_eq_true_eq] at hob
  obtain ⟨⟨⟨⟨ho0, ho7⟩, -, -⟩, -, -⟩, -, -⟩ := hob
  have hop : op = 0 ∨ op = 1 ∨ op = 2 ∨ op = 3 ∨ op = 4 ∨ op = 5 ∨ op = 6 ∨ op = 7 := by omega
  have hdec : ∀ W, Calls Try.prog 75 #[.int .i64 wa] W fun e w' => e = .returned (.tuple #[.agg #[.int .i64 op, .int .i64 fm, .int .i64 tm, .int .i64 nx], .int .i64 0]) ∧ Ext W w' := fun W => by
    have h := rdecodeE_any wa W
    have e : decQ wa = (⟨op, fm, tm, nx⟩, 0) := by
      unfold decQ
      rw [if_pos (by unfold wordB inB; simp; exact hbd), ho]
    rw [e] at h
    exact h
  have hl128 := hv.len
  obtain ⟨g, off, rfl, hgl, hgc⟩ : ∃ g off, a1 = some ⟨g, off, none⟩ ∧ g < w.heap.size ∧ ∀ i, i < s.store.length → w.cell? ⟨g, off + i, none⟩ = some (.int .i64 (s.store[i]?.getD 0)) := by
    rcases i1 with h | ⟨g, off, h1, h2, h3⟩
    · rw [h] at hl128; simp at hl128
    · exact ⟨g, off, h1, h2, h3⟩
  have hwp : w.cell? ⟨g, off + p, none⟩ = some (.int .i64 wa) := by
    have h := hgc p (by omega)
    have e := hwa
    unfold wordAt at e
    rw [HA.out, Int.toNat_natCast] at e
    rw [e] at h
    exact h
  have hwq := fun ob => (((Ext.refl w).alloc ob).cell (p := ⟨g, off + p, none⟩) hgl).trans hwp
  have hp0 : (0 : Int) ≤ (p : Int) := by omega
  have hpl : (p : Int) < (s.store.length : Int) := by rw [hl128]; omega
  obtain ⟨i0, hi0, hz0, hz1, hz2⟩ := info_parts Try.infoE
  clear hv i1 i2 i3 hbd ho hp1 ho0 ho7 hgc hwp hl128 hwa
  go_enter Try.func37, Try.ntmps37
  rw [hp]
  go_wp2_with fail
  refine (hdec _).mono ?_
  rintro e w1 ⟨rfl, E1⟩
  have g1 := (E1.block w.heap.size (by simp)).trans (heap_alloc_new w _)
  clear hdec hwq
  go_upto_region 2 with fail
  have g4 := heap_alloc_new w1 (.cells #[.int .i64 op, .int .i64 fm, .int .i64 tm, .int .i64 nx] 119)
  have EX0 := Ext.alloc (Ext.refl w1) (.cells #[.int .i64 op, .int .i64 fm, .int .i64 tm, .int .i64 nx] 119)
  obtain ⟨X, hX⟩ : ∃ X, w1.alloc (.cells #[.int .i64 op, .int .i64 fm, .int .i64 tm, .int .i64 nx] 119) = X := ⟨_, rfl⟩
  rw [hX] at g4 EX0 ⊢
  obtain ⟨t4, ht4⟩ : ∃ t4, w1.heap.size = t4 := ⟨_, rfl⟩
  rw [ht4] at g4 ⊢
  have HEX : Hid (Ext w X) := Lib.hid (E1.old.comp EX0)
  have gx := (EX0.block w.heap.size (lt_of_block g1)).trans g1
  have HT := Lib.hid (fun W (E : Ext X W) => have gb := (E.block t4 (lt_of_block g4)).trans g4; And.intro (blk_cell gb 0 (v := .int .i64 op) rfl) (And.intro (blk_cell gb 1 (v := .int .i64 fm) rfl) (blk_cell gb 2 (v := .int .i64 tm) rfl)))
  have q5 := blk_cell gx 5 (v := .int .i64 (p : Int)) rfl
  clear hX ht4 g1 E1 EX0 g4 gx
  go_upto_region 3 with fail
  have own1 : (X.alloc (.cells #[.int .i64 (p : Int)] 3)).ownsRow X.heap.size 3 1 (.slice (some ⟨X.heap.size, 0, none⟩) 1 1) 1 (iv [(p : Int)]) := World.ownsRow_lit X #[.int .i64 (p : Int)] 1 (Nat.le_refl _) (by unfold maxLen; decide) rfl
  have EY := Ext.alloc (Ext.refl X) (.cells #[.int .i64 (p : Int)] 3)
  obtain ⟨Y, hY⟩ : ∃ Y, X.alloc (.cells #[.int .i64 (p : Int)] 3) = Y := ⟨_, rfl⟩
  rw [hY] at own1 EY ⊢
  clear hY q5
  rcases hop with rfl | rfl | rfl | rfl | rfl | rfl | rfl | rfl
  · have HL : Hid (readsQ s = [(p : Int)] ∧ writesQ s = -1) := Lib.hid (by unfold readsQ writesQ; rw [HO.out, HA.out]; constructor <;> simp)
    obtain ⟨t0, t1, t2⟩ := HT.out Y (EY)
    go_wp2_with fail
    refine (rin10_any 0 1 5 _).mono ?_
    rintro e yy ⟨rfl, hyy⟩
    rw [hyy]
    rw [show inB 0 1 5 = false by decide]
    clear hyy
    go_wp2_with fail
    refine (rin10_any 0 2 4 _).mono ?_
    rintro e yy ⟨rfl, hyy⟩
    rw [hyy]
    rw [show inB 0 2 4 = false by decide]
    clear hyy
    go_wp2_with fail
    refine (rin10_any 0 1 4 _).mono ?_
    rintro e yy ⟨rfl, hyy⟩
    rw [hyy]
    rw [show inB 0 1 4 = false by decide]
    clear hyy
    go_wp2
    refine bodyPost_ret (v := .tuple #[.slice (some ⟨X.heap.size, 0, none⟩) 1 1, .int .i64 (-1)]) (by simp [results, Try.results37, go_sem]) rfl ?_
    unfold ReadsRes
    rw [HL.out.1, HL.out.2]
    exact ⟨_, _, rfl, own_ints (xs := [(p : Int)]) own1, HEX.out.comp (EY)⟩
  · have HL : Hid (readsQ s = [(p : Int), fm] ∧ writesQ s = tm) := Lib.hid (by unfold readsQ writesQ; rw [HO.out, HA.out]; constructor <;> simp)
    obtain ⟨t0, t1, t2⟩ := HT.out Y (EY)
    go_wp2_with fail
    refine (rin10_any 1 1 5 _).mono ?_
    rintro e yy ⟨rfl, hyy⟩
    rw [hyy]
    rw [show inB 1 1 5 = true by decide]
    clear hyy
    have oa := own_extX own1 ((Ext.refl Y).alloc (.cells #[.int .i64 fm] 3))
    have hws := (EY).size
    go_upto_region 5 with (at_builtin; refine wpList_append_own_at _ rfl _ _ 22 rfl X.heap.size 3 i0 (.int .i64 0) 1 8 Try.underlying22 hi0 hz0 hz1 hz2 rfl (by decide) _ _ _ rfl oa ⟨Y.heap.size, 0, none⟩ 1 1 [.int .i64 fm] rfl rfl (cell_one_new _ _ _) (by simp [Value.oneCell']) (by unfold maxLen; decide) (by decide) (by simp at hws ⊢; omega) ?_; intro v' ww1 hown hgrow hnil hat)
    have e1 : Ext X ww1 := (Ext.alloc (EY) _).grown hgrow (by simp at hws ⊢; omega) (fun q e => (oa.lt q e).1)
    have own2 := hown
    obtain ⟨g1, c1, rfl⟩ := ownsRow_form own2 (by decide)
    clear hown hgrow hnil hat oa hws
    (try go_frame)
    clear t0 t1 t2
    obtain ⟨t0, t1, t2⟩ := HT.out ww1 (e1)
    go_wp2_with fail
    refine (rin10_any 1 2 4 _).mono ?_
    rintro e yy ⟨rfl, hyy⟩
    rw [hyy]
    rw [show inB 1 2 4 = false by decide]
    clear hyy
    go_wp2_with fail
    refine (rin10_any 1 1 4 _).mono ?_
    rintro e yy ⟨rfl, hyy⟩
    rw [hyy]
    rw [show inB 1 1 4 = true by decide]
    clear hyy
    go_wp2
    refine bodyPost_ret (v := .tuple #[.slice (some ⟨g1, 0, none⟩) 2 c1, .int .i64 tm]) (by simp [results, Try.results37, go_sem]) rfl ?_
    unfold ReadsRes
    rw [HL.out.1, HL.out.2]
    exact ⟨_, _, rfl, own_ints (xs := [(p : Int), fm]) own2, HEX.out.comp (e1)⟩
  · have HL : Hid (readsQ s = [(p : Int), fm, tm] ∧ writesQ s = tm) := Lib.hid (by unfold readsQ writesQ; rw [HO.out, HA.out]; constructor <;> simp)
    obtain ⟨t0, t1, t2⟩ := HT.out Y (EY)
    go_wp2_with fail
    refine (rin10_any 2 1 5 _).mono ?_
    rintro e yy ⟨rfl, hyy⟩
    rw [hyy]
    rw [show inB 2 1 5 = true by decide]
    clear hyy
    have oa := own_extX own1 ((Ext.refl Y).alloc (.cells #[.int .i64 fm] 3))
    have hws := (EY).size
    go_upto_region 5 with (at_builtin; refine wpList_append_own_at _ rfl _ _ 22 rfl X.heap.size 3 i0 (.int .i64 0) 1 8 Try.underlying22 hi0 hz0 hz1 hz2 rfl (by decide) _ _ _ rfl oa ⟨Y.heap.size, 0, none⟩ 1 1 [.int .i64 fm] rfl rfl (cell_one_new _ _ _) (by simp [Value.oneCell']) (by unfold maxLen; decide) (by decide) (by simp at hws ⊢; omega) ?_; intro v' ww1 hown hgrow hnil hat)
    have e1 : Ext X ww1 := (Ext.alloc (EY) _).grown hgrow (by simp at hws ⊢; omega) (fun q e => (oa.lt q e).1)
    have own2 := hown
    obtain ⟨g1, c1, rfl⟩ := ownsRow_form own2 (by decide)
    clear hown hgrow hnil hat oa hws
    (try go_frame)
    clear t0 t1 t2
    obtain ⟨t0, t1, t2⟩ := HT.out ww1 (e1)
    go_wp2_with fail
    refine (rin10_any 2 2 4 _).mono ?_
    rintro e yy ⟨rfl, hyy⟩
    rw [hyy]
    rw [show inB 2 2 4 = true by decide]
    clear hyy
    have oa := own_extX own2 ((Ext.refl ww1).alloc (.cells #[.int .i64 tm] 3))
    have hws := (e1).size
    go_upto_region 7 with (at_builtin; refine wpList_append_own_at _ rfl _ _ 22 rfl X.heap.size 3 i0 (.int .i64 0) 1 8 Try.underlying22 hi0 hz0 hz1 hz2 rfl (by decide) _ _ _ rfl oa ⟨ww1.heap.size, 0, none⟩ 1 1 [.int .i64 tm] rfl rfl (cell_one_new _ _ _) (by simp [Value.oneCell']) (by unfold maxLen; decide) (by decide) (by simp at hws ⊢; omega) ?_; intro v' ww2 hown hgrow hnil hat)
    have e2 : Ext X ww2 := (Ext.alloc (e1) _).grown hgrow (by simp at hws ⊢; omega) (fun q e => (oa.lt q e).1)
    have own3 := hown
    obtain ⟨g2, c2, rfl⟩ := ownsRow_form own3 (by decide)
    clear hown hgrow hnil hat oa hws
    (try go_frame)
    clear t0 t1 t2
    obtain ⟨t0, t1, t2⟩ := HT.out ww2 (e2)
    go_wp2_with fail
    refine (rin10_any 2 1 4 _).mono ?_
    rintro e yy ⟨rfl, hyy⟩
    rw [hyy]
    rw [show inB 2 1 4 = true by decide]
    clear hyy
    go_wp2
    refine bodyPost_ret (v := .tuple #[.slice (some ⟨g2, 0, none⟩) 3 c2, .int .i64 tm]) (by simp [results, Try.results37, go_sem]) rfl ?_
    unfold ReadsRes
    rw [HL.out.1, HL.out.2]
    exact ⟨_, _, rfl, own_ints (xs := [(p : Int), fm, tm]) own3, HEX.out.comp (e2)⟩
  · have HL : Hid (readsQ s = [(p : Int), fm, tm] ∧ writesQ s = tm) := Lib.hid (by unfold readsQ writesQ; rw [HO.out, HA.out]; constructor <;> simp)
    obtain ⟨t0, t1, t2⟩ := HT.out Y (EY)
    go_wp2_with fail
    refine (rin10_any 3 1 5 _).mono ?_
    rintro e yy ⟨rfl, hyy⟩
    rw [hyy]
    rw [show inB 3 1 5 = true by decide]
    clear hyy
    have oa := own_extX own1 ((Ext.refl Y).alloc (.cells #[.int .i64 fm] 3))
    have hws := (EY).size
    go_upto_region 5 with (at_builtin; refine wpList_append_own_at _ rfl _ _ 22 rfl X.heap.size 3 i0 (.int .i64 0) 1 8 Try.underlying22 hi0 hz0 hz1 hz2 rfl (by decide) _ _ _ rfl oa ⟨Y.heap.size, 0, none⟩ 1 1 [.int .i64 fm] rfl rfl (cell_one_new _ _ _) (by simp [Value.oneCell']) (by unfold maxLen; decide) (by decide) (by simp at hws ⊢; omega) ?_; intro v' ww1 hown hgrow hnil hat)
    have e1 : Ext X ww1 := (Ext.alloc (EY) _).grown hgrow (by simp at hws ⊢; omega) (fun q e => (oa.lt q e).1)
    have own2 := hown
    obtain ⟨g1, c1, rfl⟩ := ownsRow_form own2 (by decide)
    clear hown hgrow hnil hat oa hws
    (try go_frame)
    clear t0 t1 t2
    obtain ⟨t0, t1, t2⟩ := HT.out ww1 (e1)
    go_wp2_with fail
    refine (rin10_any 3 2 4 _).mono ?_
    rintro e yy ⟨rfl, hyy⟩
    rw [hyy]
    rw [show inB 3 2 4 = true by decide]
    clear hyy
    have oa := own_extX own2 ((Ext.refl ww1).alloc (.cells #[.int .i64 tm] 3))
    have hws := (e1).size
    go_upto_region 7 with (at_builtin; refine wpList_append_own_at _ rfl _ _ 22 rfl X.heap.size 3 i0 (.int .i64 0) 1 8 Try.underlying22 hi0 hz0 hz1 hz2 rfl (by decide) _ _ _ rfl oa ⟨ww1.heap.size, 0, none⟩ 1 1 [.int .i64 tm] rfl rfl (cell_one_new _ _ _) (by simp [Value.oneCell']) (by unfold maxLen; decide) (by decide) (by simp at hws ⊢; omega) ?_; intro v' ww2 hown hgrow hnil hat)
    have e2 : Ext X ww2 := (Ext.alloc (e1) _).grown hgrow (by simp at hws ⊢; omega) (fun q e => (oa.lt q e).1)
    have own3 := hown
    obtain ⟨g2, c2, rfl⟩ := ownsRow_form own3 (by decide)
    clear hown hgrow hnil hat oa hws
    (try go_frame)
    clear t0 t1 t2
    obtain ⟨t0, t1, t2⟩ := HT.out ww2 (e2)
    go_wp2_with fail
    refine (rin10_any 3 1 4 _).mono ?_
    rintro e yy ⟨rfl, hyy⟩
    rw [hyy]
    rw [show inB 3 1 4 = true by decide]
    clear hyy
    go_wp2
    refine bodyPost_ret (v := .tuple #[.slice (some ⟨g2, 0, none⟩) 3 c2, .int .i64 tm]) (by simp [results, Try.results37, go_sem]) rfl ?_
    unfold ReadsRes
    rw [HL.out.1, HL.out.2]
    exact ⟨_, _, rfl, own_ints (xs := [(p : Int), fm, tm]) own3, HEX.out.comp (e2)⟩
  · have HL : Hid (readsQ s = [(p : Int), fm, tm] ∧ writesQ s = tm) := Lib.hid (by unfold readsQ writesQ; rw [HO.out, HA.out]; constructor <;> simp)
    obtain ⟨t0, t1, t2⟩ := HT.out Y (EY)
    go_wp2_with fail
    refine (rin10_any 4 1 5 _).mono ?_
    rintro e yy ⟨rfl, hyy⟩
    rw [hyy]
    rw [show inB 4 1 5 = true by decide]
    clear hyy
    have oa := own_extX own1 ((Ext.refl Y).alloc (.cells #[.int .i64 fm] 3))
    have hws := (EY).size
    go_upto_region 5 with (at_builtin; refine wpList_append_own_at _ rfl _ _ 22 rfl X.heap.size 3 i0 (.int .i64 0) 1 8 Try.underlying22 hi0 hz0 hz1 hz2 rfl (by decide) _ _ _ rfl oa ⟨Y.heap.size, 0, none⟩ 1 1 [.int .i64 fm] rfl rfl (cell_one_new _ _ _) (by simp [Value.oneCell']) (by unfold maxLen; decide) (by decide) (by simp at hws ⊢; omega) ?_; intro v' ww1 hown hgrow hnil hat)
    have e1 : Ext X ww1 := (Ext.alloc (EY) _).grown hgrow (by simp at hws ⊢; omega) (fun q e => (oa.lt q e).1)
    have own2 := hown
    obtain ⟨g1, c1, rfl⟩ := ownsRow_form own2 (by decide)
    clear hown hgrow hnil hat oa hws
    (try go_frame)
    clear t0 t1 t2
    obtain ⟨t0, t1, t2⟩ := HT.out ww1 (e1)
    go_wp2_with fail
    refine (rin10_any 4 2 4 _).mono ?_
    rintro e yy ⟨rfl, hyy⟩
    rw [hyy]
    rw [show inB 4 2 4 = true by decide]
    clear hyy
    have oa := own_extX own2 ((Ext.refl ww1).alloc (.cells #[.int .i64 tm] 3))
    have hws := (e1).size
    go_upto_region 7 with (at_builtin; refine wpList_append_own_at _ rfl _ _ 22 rfl X.heap.size 3 i0 (.int .i64 0) 1 8 Try.underlying22 hi0 hz0 hz1 hz2 rfl (by decide) _ _ _ rfl oa ⟨ww1.heap.size, 0, none⟩ 1 1 [.int .i64 tm] rfl rfl (cell_one_new _ _ _) (by simp [Value.oneCell']) (by unfold maxLen; decide) (by decide) (by simp at hws ⊢; omega) ?_; intro v' ww2 hown hgrow hnil hat)
    have e2 : Ext X ww2 := (Ext.alloc (e1) _).grown hgrow (by simp at hws ⊢; omega) (fun q e => (oa.lt q e).1)
    have own3 := hown
    obtain ⟨g2, c2, rfl⟩ := ownsRow_form own3 (by decide)
    clear hown hgrow hnil hat oa hws
    (try go_frame)
    clear t0 t1 t2
    obtain ⟨t0, t1, t2⟩ := HT.out ww2 (e2)
    go_wp2_with fail
    refine (rin10_any 4 1 4 _).mono ?_
    rintro e yy ⟨rfl, hyy⟩
    rw [hyy]
    rw [show inB 4 1 4 = true by decide]
    clear hyy
    go_wp2
    refine bodyPost_ret (v := .tuple #[.slice (some ⟨g2, 0, none⟩) 3 c2, .int .i64 tm]) (by simp [results, Try.results37, go_sem]) rfl ?_
    unfold ReadsRes
    rw [HL.out.1, HL.out.2]
    exact ⟨_, _, rfl, own_ints (xs := [(p : Int), fm, tm]) own3, HEX.out.comp (e2)⟩
  · have HL : Hid (readsQ s = [(p : Int), fm] ∧ writesQ s = -1) := Lib.hid (by unfold readsQ writesQ; rw [HO.out, HA.out]; constructor <;> simp)
    obtain ⟨t0, t1, t2⟩ := HT.out Y (EY)
    go_wp2_with fail
    refine (rin10_any 5 1 5 _).mono ?_
    rintro e yy ⟨rfl, hyy⟩
    rw [hyy]
    rw [show inB 5 1 5 = true by decide]
    clear hyy
    have oa := own_extX own1 ((Ext.refl Y).alloc (.cells #[.int .i64 fm] 3))
    have hws := (EY).size
    go_upto_region 5 with (at_builtin; refine wpList_append_own_at _ rfl _ _ 22 rfl X.heap.size 3 i0 (.int .i64 0) 1 8 Try.underlying22 hi0 hz0 hz1 hz2 rfl (by decide) _ _ _ rfl oa ⟨Y.heap.size, 0, none⟩ 1 1 [.int .i64 fm] rfl rfl (cell_one_new _ _ _) (by simp [Value.oneCell']) (by unfold maxLen; decide) (by decide) (by simp at hws ⊢; omega) ?_; intro v' ww1 hown hgrow hnil hat)
    have e1 : Ext X ww1 := (Ext.alloc (EY) _).grown hgrow (by simp at hws ⊢; omega) (fun q e => (oa.lt q e).1)
    have own2 := hown
    obtain ⟨g1, c1, rfl⟩ := ownsRow_form own2 (by decide)
    clear hown hgrow hnil hat oa hws
    (try go_frame)
    clear t0 t1 t2
    obtain ⟨t0, t1, t2⟩ := HT.out ww1 (e1)
    go_wp2_with fail
    refine (rin10_any 5 2 4 _).mono ?_
    rintro e yy ⟨rfl, hyy⟩
    rw [hyy]
    rw [show inB 5 2 4 = false by decide]
    clear hyy
    go_wp2_with fail
    refine (rin10_any 5 1 4 _).mono ?_
    rintro e yy ⟨rfl, hyy⟩
    rw [hyy]
    rw [show inB 5 1 4 = false by decide]
    clear hyy
    go_wp2
    refine bodyPost_ret (v := .tuple #[.slice (some ⟨g1, 0, none⟩) 2 c1, .int .i64 (-1)]) (by simp [results, Try.results37, go_sem]) rfl ?_
    unfold ReadsRes
    rw [HL.out.1, HL.out.2]
    exact ⟨_, _, rfl, own_ints (xs := [(p : Int), fm]) own2, HEX.out.comp (e1)⟩
  · have HL : Hid (readsQ s = [(p : Int)] ∧ writesQ s = tm) := Lib.hid (by unfold readsQ writesQ; rw [HO.out, HA.out]; constructor <;> simp)
    obtain ⟨t0, t1, t2⟩ := HT.out Y (EY)
    go_wp2_with fail
    refine (rin10_any 6 1 5 _).mono ?_
    rintro e yy ⟨rfl, hyy⟩
    rw [hyy]
    rw [show inB 6 1 5 = false by decide]
    clear hyy
    go_wp2_with fail
    refine (rin10_any 6 2 4 _).mono ?_
    rintro e yy ⟨rfl, hyy⟩
    rw [hyy]
    rw [show inB 6 2 4 = false by decide]
    clear hyy
    go_wp2_with fail
    refine (rin10_any 6 1 4 _).mono ?_
    rintro e yy ⟨rfl, hyy⟩
    rw [hyy]
    rw [show inB 6 1 4 = false by decide]
    clear hyy
    go_wp2
    refine bodyPost_ret (v := .tuple #[.slice (some ⟨X.heap.size, 0, none⟩) 1 1, .int .i64 tm]) (by simp [results, Try.results37, go_sem]) rfl ?_
    unfold ReadsRes
    rw [HL.out.1, HL.out.2]
    exact ⟨_, _, rfl, own_ints (xs := [(p : Int)]) own1, HEX.out.comp (EY)⟩
  · have HL : Hid (readsQ s = [(p : Int), fm] ∧ writesQ s = -1) := Lib.hid (by unfold readsQ writesQ; rw [HO.out, HA.out]; constructor <;> simp)
    obtain ⟨t0, t1, t2⟩ := HT.out Y (EY)
    go_wp2_with fail
    refine (rin10_any 7 1 5 _).mono ?_
    rintro e yy ⟨rfl, hyy⟩
    rw [hyy]
    rw [show inB 7 1 5 = false by decide]
    clear hyy
    have oa := own_extX own1 ((Ext.refl Y).alloc (.cells #[.int .i64 fm] 3))
    have hws := (EY).size
    go_upto_region 5 with (at_builtin; refine wpList_append_own_at _ rfl _ _ 22 rfl X.heap.size 3 i0 (.int .i64 0) 1 8 Try.underlying22 hi0 hz0 hz1 hz2 rfl (by decide) _ _ _ rfl oa ⟨Y.heap.size, 0, none⟩ 1 1 [.int .i64 fm] rfl rfl (cell_one_new _ _ _) (by simp [Value.oneCell']) (by unfold maxLen; decide) (by decide) (by simp at hws ⊢; omega) ?_; intro v' ww1 hown hgrow hnil hat)
    have e1 : Ext X ww1 := (Ext.alloc (EY) _).grown hgrow (by simp at hws ⊢; omega) (fun q e => (oa.lt q e).1)
    have own2 := hown
    obtain ⟨g1, c1, rfl⟩ := ownsRow_form own2 (by decide)
    clear hown hgrow hnil hat oa hws
    (try go_frame)
    clear t0 t1 t2
    obtain ⟨t0, t1, t2⟩ := HT.out ww1 (e1)
    go_wp2_with fail
    refine (rin10_any 7 2 4 _).mono ?_
    rintro e yy ⟨rfl, hyy⟩
    rw [hyy]
    rw [show inB 7 2 4 = false by decide]
    clear hyy
    go_wp2_with fail
    refine (rin10_any 7 1 4 _).mono ?_
    rintro e yy ⟨rfl, hyy⟩
    rw [hyy]
    rw [show inB 7 1 4 = false by decide]
    clear hyy
    go_wp2
    refine bodyPost_ret (v := .tuple #[.slice (some ⟨g1, 0, none⟩) 2 c1, .int .i64 (-1)]) (by simp [results, Try.results37, go_sem]) rfl ?_
    unfold ReadsRes
    rw [HL.out.1, HL.out.2]
    exact ⟨_, _, rfl, own_ints (xs := [(p : Int), fm]) own2, HEX.out.comp (e1)⟩
end Go.Proofs.Ytnhpcoagkmgdoaa
/- Layer 10 in plain Lean: what DumpBlocked asks of a run. -/
namespace Go.Q
open Go.RowKit
theorem run_back {s : St} {k j : Nat} (hy : (runQ k s).why = 0) (hj : j ≤ k) : (runQ j s).why = 0 := by
  obtain ⟨d, rfl⟩ : ∃ d, k = j + d := ⟨k - j, by omega⟩
  rcases Decidable.em ((runQ j s).why = 0) with e | e
  · exact e
  · rw [runQ_add, runQ_end e] at hy; exact absurd hy e
theorem run_done {s : St} {k : Nat} (hy : (runQ k s).why = 0) : ∀ j : Nat, j ≤ k → (runQ j s).done = s.done + (j : Int)
  | 0, _ => by show s.done = s.done + ((0 : Nat) : Int); omega
  | j + 1, hj => by
    have ih := run_done hy j (by omega)
    have h1 := run_back hy hj
    have h0 := run_back hy (show j ≤ k by omega)
    rw [runQ_add j 1] at h1 ⊢
    rcases step_done (runQ j s) h0 with h | ⟨_, h⟩
    · rw [h, ih]; omega
    · exact absurd h1 h
theorem block_valid {s : St} {a : Int} (h : Valid s) : Valid (blockQ a s) :=
  { h with
    len := by show (s.store.set a.toNat 0).length = 128; rw [List.length_set]; exact h.len
    ws := fun x hx => by
      rcases List.mem_or_eq_of_mem_set hx with hx | rfl
      · exact h.ws x hx
      · exact ⟨by decide, by decide⟩ }
end Go.Q
/- The law DumpBlocked. -/
namespace Go.Proofs.Ytnhpcoagkmgdoaa
open Go.RowKit Go.Q
theorem until_ways (s : St) {p m : Nat} (hp : p < 128) (hm : m ≤ 5000) : (∃ er, er ≠ 0 ∧ untilE s (p : Int) (m : Int) = (zst, false, er)) ∨
    (Valid s ∧ untilE s (p : Int) (m : Int) = (runQ m s, false, 0)) ∨
    (Valid s ∧ ∃ k, 1 ≤ k ∧ k ≤ m ∧ untilE s (p : Int) (m : Int) = (runQ k s, true, 0) ∧ (runQ k s).at_ = (p : Int) ∧ (runQ k s).why = 0 ∧ ∀ j, 1 ≤ j → j < k → (runQ j s).at_ ≠ (p : Int)) := by
  by_cases hx : guardX s [] (m : Int) = 0
  · obtain ⟨hv, -, -, -⟩ := guard_valid hx
    have hi : inB (p : Int) 0 127 = true := by unfold inB; rw [decide_eq_true (show (0 : Int) ≤ p by omega), decide_eq_true (show (p : Int) ≤ 127 by omega)]; rfl
    have he : untilE s (p : Int) (m : Int) = ((untilN (p : Int) m s).1, (untilN (p : Int) m s).2, 0) := by unfold untilE; rw [if_neg (by rw [hx]; decide), if_pos hi, Int.toNat_natCast]
    obtain ⟨h1, h2⟩ := until_law (p : Int) m s
    cases hf : (untilN (p : Int) m s).2 with
    | false => exact .inr (.inl ⟨hv, by rw [he, h1 hf, hf]⟩)
    | true =>
      obtain ⟨k, k1, k2, k3, k4, k5, k6⟩ := h2 hf
      exact .inr (.inr ⟨hv, k, k1, k2, by rw [he, k3, hf], k4, k5, k6⟩)
  · exact .inl ⟨_, hx, by unfold untilE; rw [if_pos hx]⟩
theorem block_fine {s : St} {p : Nat} (h : Valid s) (hp : p < 128) : blockE s (p : Int) = (blockQ (p : Int) s, 0) := by
  have hc : (checkQ s).2.2 = 0 := by have := asked_of_valid h (most := 0) ⟨by omega, by omega⟩; rw [asked_small s ⟨by omega, by omega⟩] at this; exact this
  have hg := guardX_nil (m := 0) (by decide) hc
  have hg0 : guardX s [] 0 = 0 := hg
  have hi : inB (p : Int) 0 127 = true := by unfold inB; rw [decide_eq_true (show (0 : Int) ≤ p by omega), decide_eq_true (show (p : Int) ≤ 127 by omega)]; rfl
  unfold blockE
  rw [if_neg (by rw [hg0]; decide), if_pos hi]
end Go.Proofs.Ytnhpcoagkmgdoaa
namespace Go.Proofs.Ytnhpcoagkmgdoaa
open Go.RowKit Go.Q Go.Shelf Go.Maps Go.Joins
set_option maxHeartbeats 8000000
set_option maxRecDepth 100000
theorem reads_three (s : St) : (readsQ s).length ≤ 3 := by
  unfold readsQ
  rw [List.length_cons, List.length_append]
  split <;> split <;> simp
/-- the words that an order reads or writes are others -/
def OtherW (p : Nat) (s : St) : Prop := (∀ b ∈ readsQ s, b ≠ (p : Int)) ∧ writesQ s ≠ (p : Int)
/-- a state lies in a box -/
def BoxS (Y : World) (yb : Nat) (s : St) : Prop := ∃ b1 b2 b3 l1 l2 l3, Y.heap[yb]? = some (.cells #[.slice b1 s.store.length l1, .slice b2 s.tape.length l2, .int .i64 s.taken, .slice b3 s.printed.length l3, .int .i64 s.time, .int .i64 s.at_, .int .i64 s.done, .int .i64 s.why] 33 (0, 0)) ∧ StAt Y (sv b1 b2 b3 s.store.length l1 s.tape.length l2 s.printed.length l3 s.taken s.time s.at_ s.done s.why) s
theorem dumpBlocked_any (haw : AwakeT) (v : Value) (s : St) (m0 m1 : Nat) (w : World) (hS : StAt w v s) (hb : StBd s) (h0 : m0 < 256) (h1 : m1 < 256) :
    Calls Try.prog 13 #[v, .agg #[.int .u8 (m0 : Int), .int .u8 (m1 : Int)]] w fun e w' => e = .returned (.bool true) ∧ Ext w w' := by
  obtain ⟨a1, a2, a3, k1, k2, k3, rfl, i1, i2, i3⟩ := hS
  have HS := Lib.hid (fun Y (E : Ext w Y) => show StAt Y (sv a1 a2 a3 s.store.length k1 s.tape.length k2 s.printed.length k3 s.taken s.time s.at_ s.done s.why) s from (show StAt w _ s from ⟨a1, a2, a3, k1, k2, k3, rfl, i1, i2, i3⟩).ext E)
  clear i1 i2 i3
  have g3 := heap_alloc_new w (.cells #[.slice a1 s.store.length k1, .slice a2 s.tape.length k2, .int .i64 s.taken, .slice a3 s.printed.length k3, .int .i64 s.time, .int .i64 s.at_, .int .i64 s.done, .int .i64 s.why] 33)
  have g4 := heap_alloc_new (w.alloc (.cells #[.slice a1 s.store.length k1, .slice a2 s.tape.length k2, .int .i64 s.taken, .slice a3 s.printed.length k3, .int .i64 s.time, .int .i64 s.at_, .int .i64 s.done, .int .i64 s.why] 33)) (.cells #[.int .u8 (m0 : Int), .int .u8 (m1 : Int)] 48)
  rw [World.size_alloc] at g4
  have E0 : Ext w ((w.alloc (.cells #[.slice a1 s.store.length k1, .slice a2 s.tape.length k2, .int .i64 s.taken, .slice a3 s.printed.length k3, .int .i64 s.time, .int .i64 s.at_, .int .i64 s.done, .int .i64 s.why] 33)).alloc (.cells #[.int .u8 (m0 : Int), .int .u8 (m1 : Int)] 48)) := ((Ext.refl w).alloc _).alloc _
  have g3 := (Below.heap_alloc (w.alloc (.cells #[.slice a1 s.store.length k1, .slice a2 s.tape.length k2, .int .i64 s.taken, .slice a3 s.printed.length k3, .int .i64 s.time, .int .i64 s.at_, .int .i64 s.done, .int .i64 s.why] 33)) (.cells #[.int .u8 (m0 : Int), .int .u8 (m1 : Int)] 48) _ (lt_of_block g3)).trans g3
  have v0 : IntKind.i64.wrap (m0 : Int) = (m0 : Int) := IntWalk.i64_in _ (by omega)
  have v1 : IntKind.i64.wrap (m1 : Int) = (m1 : Int) := IntWalk.i64_in _ (by omega)
  obtain ⟨p, hp⟩ : ∃ p, m0 % 128 = p := ⟨_, rfl⟩
  have hp128 : p < 128 := by omega
  have t1 : Int.tmod (m0 : Int) 128 = (p : Int) := by rw [Int.tmod_eq_emod_of_nonneg (by omega)]; omega
  have t2 : (m0 : Int) % 128 = (p : Int) := by omega
  have hut := fun W (E : Ext w W) => until_any _ s (p : Int) (m1 : Int) W (HS.out W E) hb
  have HG4 := Lib.hid (fun Y E => ((show Ext ((w.alloc (.cells #[.slice a1 s.store.length k1, .slice a2 s.tape.length k2, .int .i64 s.taken, .slice a3 s.printed.length k3, .int .i64 s.time, .int .i64 s.at_, .int .i64 s.done, .int .i64 s.why] 33)).alloc (.cells #[.int .u8 (m0 : Int), .int .u8 (m1 : Int)] 48)) Y from E).block (w.heap.size + 1) (lt_of_block g4)).trans g4)
  have HG3 := Lib.hid (fun Y E => ((show Ext ((w.alloc (.cells #[.slice a1 s.store.length k1, .slice a2 s.tape.length k2, .int .i64 s.taken, .slice a3 s.printed.length k3, .int .i64 s.time, .int .i64 s.at_, .int .i64 s.done, .int .i64 s.why] 33)).alloc (.cells #[.int .u8 (m0 : Int), .int .u8 (m1 : Int)] 48)) Y from E).block w.heap.size (lt_of_block g3)).trans g3)
  have HB := Lib.hid hb
  have hun := until_ways s hp128 (m := m1) (by omega)
  clear hp hb
  rcases hun with ⟨er, hne, hu⟩ | ⟨hv, hu⟩ | ⟨hv, k, hk1, hkm, hu, hat, hwy, hoth⟩
  · rw [hu] at hut
    have e1 : (er != 0) = true := by simpa using hne
    clear hu hne
    go_enter Try.func13, Try.ntmps13
    have q0 := blk_cell g3 0 (v := .slice a1 s.store.length k1) rfl
    have q1 := blk_cell g3 1 (v := .slice a2 s.tape.length k2) rfl
    have q2 := blk_cell g3 2 (v := .int .i64 s.taken) rfl
    have q3 := blk_cell g3 3 (v := .slice a3 s.printed.length k3) rfl
    have q4 := blk_cell g3 4 (v := .int .i64 s.time) rfl
    have q5 := blk_cell g3 5 (v := .int .i64 s.at_) rfl
    have q6 := blk_cell g3 6 (v := .int .i64 s.done) rfl
    have q7 := blk_cell g3 7 (v := .int .i64 s.why) rfl
    have r0 := blk_cell g4 0 (v := .int .u8 (m0 : Int)) rfl
    have r1 := blk_cell g4 1 (v := .int .u8 (m1 : Int)) rfl
    go_wp2_with fail
    refine (hut _ E0).mono ?_
    rintro e w1 ⟨v', rfl, ⟨b1, b2, b3, l1, l2, l3, rfl, -⟩, E1⟩
    simp only [zst, List.length_nil]
    clear q0 q1 q2 q3 q4 q5 q6 q7 r0 r1 hut
    go_wp2_with fail
    refine (haw _).mono ?_
    rintro e w7 ⟨rfl, E7⟩
    go_wp2_with fail
    go_ret
    exact ⟨rfl, (E0.comp E1).comp E7.old⟩
  · rw [hu] at hut
    have hr : runE s (m1 : Int) = (runQ m1 s, 0) := by
      rcases run_small s (m := m1) (by omega) with ⟨hc, _, _⟩ | ⟨_, _, h, _⟩
      · exact absurd (by have := asked_of_valid hv (most := 0) ⟨by omega, by omega⟩; rw [asked_small s ⟨by omega, by omega⟩] at this; exact this) hc
      · exact h
    have hrn := fun W (E : Ext w W) => runE_any _ s (m1 : Int) W (HS.out W E) HB.out
    rw [hr] at hrn
    have HBT := Lib.hid (valid_bd (runQ_valid m1 hv))
    obtain ⟨t, ht⟩ : ∃ t, runQ m1 s = t := ⟨_, rfl⟩
    rw [ht] at hut hrn HBT
    clear hu hr ht hv
    go_enter Try.func13, Try.ntmps13
    have q0 := blk_cell g3 0 (v := .slice a1 s.store.length k1) rfl
    have q1 := blk_cell g3 1 (v := .slice a2 s.tape.length k2) rfl
    have q2 := blk_cell g3 2 (v := .int .i64 s.taken) rfl
    have q3 := blk_cell g3 3 (v := .slice a3 s.printed.length k3) rfl
    have q4 := blk_cell g3 4 (v := .int .i64 s.time) rfl
    have q5 := blk_cell g3 5 (v := .int .i64 s.at_) rfl
    have q6 := blk_cell g3 6 (v := .int .i64 s.done) rfl
    have q7 := blk_cell g3 7 (v := .int .i64 s.why) rfl
    have r0 := blk_cell g4 0 (v := .int .u8 (m0 : Int)) rfl
    have r1 := blk_cell g4 1 (v := .int .u8 (m1 : Int)) rfl
    go_wp2_with fail
    refine (hut _ E0).mono ?_
    rintro e w1 ⟨v', rfl, ⟨b1, b2, b3, l1, l2, l3, rfl, j1, j2, j3⟩, E1⟩
    dsimp only at j1 j2 j3 ⊢
    clear q0 q1 q2 q3 q4 q5 q6 q7 r0 r1 hut g3 g4
    have gt := heap_alloc_new w1 (.cells #[.slice b1 t.store.length l1, .slice b2 t.tape.length l2, .int .i64 t.taken, .slice b3 t.printed.length l3, .int .i64 t.time, .int .i64 t.at_, .int .i64 t.done, .int .i64 t.why] 33)
    have ET := (Ext.refl w1).alloc (.cells #[.slice b1 t.store.length l1, .slice b2 t.tape.length l2, .int .i64 t.taken, .slice b3 t.printed.length l3, .int .i64 t.time, .int .i64 t.at_, .int .i64 t.done, .int .i64 t.why] 33)
    have HT := Lib.hid (show StAt w1 (sv b1 b2 b3 t.store.length l1 t.tape.length l2 t.printed.length l3 t.taken t.time t.at_ t.done t.why) t from ⟨b1, b2, b3, l1, l2, l3, rfl, j1, j2, j3⟩)
    clear j1 j2 j3
    go_upto_region 6 with fail
    obtain ⟨X1, hX1⟩ : ∃ X1, w1.alloc (.cells #[.slice b1 t.store.length l1, .slice b2 t.tape.length l2, .int .i64 t.taken, .slice b3 t.printed.length l3, .int .i64 t.time, .int .i64 t.at_, .int .i64 t.done, .int .i64 t.why] 33) = X1 := ⟨_, rfl⟩
    rw [hX1] at gt ET ⊢
    obtain ⟨tb, htb⟩ : ∃ tb, w1.heap.size = tb := ⟨_, rfl⟩
    rw [htb] at gt ⊢
    clear hX1 htb
    have g3 := HG3.out X1 (E1.comp ET)
    have g4 := HG4.out X1 (E1.comp ET)
    have q0 := blk_cell g3 0 (v := .slice a1 s.store.length k1) rfl
    have q1 := blk_cell g3 1 (v := .slice a2 s.tape.length k2) rfl
    have q2 := blk_cell g3 2 (v := .int .i64 s.taken) rfl
    have q3 := blk_cell g3 3 (v := .slice a3 s.printed.length k3) rfl
    have q4 := blk_cell g3 4 (v := .int .i64 s.time) rfl
    have q5 := blk_cell g3 5 (v := .int .i64 s.at_) rfl
    have q6 := blk_cell g3 6 (v := .int .i64 s.done) rfl
    have q7 := blk_cell g3 7 (v := .int .i64 s.why) rfl
    have r1 := blk_cell g4 1 (v := .int .u8 (m1 : Int)) rfl
    go_wp2_with fail
    refine (hrn _ (E0.comp (E1.comp ET))).mono ?_
    rintro e X2 ⟨v', rfl, ⟨f1, f2, f3, n1, n2, n3, rfl, j1, j2, j3⟩, E2⟩
    dsimp only at j1 j2 j3 ⊢
    clear q0 q1 q2 q3 q4 q5 q6 q7 r1 hrn g3 g4
    have gu := heap_alloc_new X2 (.cells #[.slice f1 t.store.length n1, .slice f2 t.tape.length n2, .int .i64 t.taken, .slice f3 t.printed.length n3, .int .i64 t.time, .int .i64 t.at_, .int .i64 t.done, .int .i64 t.why] 33)
    have EU := (Ext.refl X2).alloc (.cells #[.slice f1 t.store.length n1, .slice f2 t.tape.length n2, .int .i64 t.taken, .slice f3 t.printed.length n3, .int .i64 t.time, .int .i64 t.at_, .int .i64 t.done, .int .i64 t.why] 33)
    have HU := Lib.hid (show StAt X2 (sv f1 f2 f3 t.store.length n1 t.tape.length n2 t.printed.length n3 t.taken t.time t.at_ t.done t.why) t from ⟨f1, f2, f3, n1, n2, n3, rfl, j1, j2, j3⟩)
    clear j1 j2 j3
    go_upto_region 7 with fail
    obtain ⟨X3, hX3⟩ : ∃ X3, X2.alloc (.cells #[.slice f1 t.store.length n1, .slice f2 t.tape.length n2, .int .i64 t.taken, .slice f3 t.printed.length n3, .int .i64 t.time, .int .i64 t.at_, .int .i64 t.done, .int .i64 t.why] 33) = X3 := ⟨_, rfl⟩
    rw [hX3] at gu EU ⊢
    obtain ⟨ub, hub⟩ : ∃ ub, X2.heap.size = ub := ⟨_, rfl⟩
    rw [hub] at gu ⊢
    clear hX3 hub
    have gt4 := ((E2.comp EU).block tb (lt_of_block gt)).trans gt
    have q0 := blk_cell gt4 0 (v := .slice b1 t.store.length l1) rfl
    have q1 := blk_cell gt4 1 (v := .slice b2 t.tape.length l2) rfl
    have q2 := blk_cell gt4 2 (v := .int .i64 t.taken) rfl
    have q3 := blk_cell gt4 3 (v := .slice b3 t.printed.length l3) rfl
    have q4 := blk_cell gt4 4 (v := .int .i64 t.time) rfl
    have q5 := blk_cell gt4 5 (v := .int .i64 t.at_) rfl
    have q6 := blk_cell gt4 6 (v := .int .i64 t.done) rfl
    have q7 := blk_cell gt4 7 (v := .int .i64 t.why) rfl
    have r0 := blk_cell gu 0 (v := .slice f1 t.store.length n1) rfl
    have r1 := blk_cell gu 1 (v := .slice f2 t.tape.length n2) rfl
    have r2 := blk_cell gu 2 (v := .int .i64 t.taken) rfl
    have r3 := blk_cell gu 3 (v := .slice f3 t.printed.length n3) rfl
    have r4 := blk_cell gu 4 (v := .int .i64 t.time) rfl
    have r5 := blk_cell gu 5 (v := .int .i64 t.at_) rfl
    have r6 := blk_cell gu 6 (v := .int .i64 t.done) rfl
    have r7 := blk_cell gu 7 (v := .int .i64 t.why) rfl
    go_wp2_with fail
    refine (states_same _ _ t _ (HT.out.ext (ET.comp (E2.comp EU))) (HU.out.ext EU) HBT.out).mono ?_
    rintro e X5 ⟨rfl, E5⟩
    clear q0 q1 q2 q3 q4 q5 q6 q7 r0 r1 r2 r3 r4 r5 r6 r7
    go_wp2_with fail
    refine (haw _).mono ?_
    rintro e X6 ⟨rfl, E6⟩
    go_wp2_with fail
    go_ret
    exact ⟨rfl, E0.comp (E1.comp (ET.comp (E2.comp (EU.comp (E5.comp E6)))))⟩
  · rw [hu] at hut
    have HV := Lib.hid hv
    have hdn := run_done hwy
    have hvt := runQ_valid k hv
    have HBL := Lib.hid (fun h => Go.Q.blocked hv (a := (p : Int)) ⟨by omega, by omega⟩ hkm hat hwy h)
    have HDN := Lib.hid hdn
    have HWY := Lib.hid (fun j (hj : j ≤ k) => run_back hwy hj)
    have HOT := Lib.hid hoth
    have hdt := hdn k (Nat.le_refl k)
    obtain ⟨t, ht⟩ : ∃ t, runQ k s = t := ⟨_, rfl⟩
    rw [ht] at hut hvt hat hwy hdt HBL
    have HTE := Lib.hid ht
    have HVT := Lib.hid hvt
    have hsb := hv.done
    have hst := hvt.done
    have htt := hvt.time
    have e1 : (t.at_ != (p : Int)) = false := by rw [hat]; simp
    have e2 : (t.why != 0) = false := by rw [hwy]; simp
    have d1 : ¬ t.done ≤ s.done := by omega
    have d1b : decide (t.done ≤ s.done) = false := decide_eq_false (by omega)
    have d2 : ¬ (m1 : Int) < (k : Int) := by omega
    have d2n : ¬ m1 < k := by omega
    have d2b : decide (m1 < k) = false := decide_eq_false (by omega)
    have u1 : IntKind.i64.wrap (t.done - s.done) = (k : Int) := by rw [hdt, show s.done + (k : Int) - s.done = (k : Int) by omega]; exact IntWalk.i64_in _ (by omega)
    have HD := Lib.hid (And.intro hdt (And.intro hsb (And.intro hst htt)))
    have HK := Lib.hid (And.intro hk1 hkm)
    clear hu hv hdn hvt hat hwy hoth hdt ht hsb hst htt hk1 hkm
    go_enter Try.func13, Try.ntmps13
    have q0 := blk_cell g3 0 (v := .slice a1 s.store.length k1) rfl
    have q1 := blk_cell g3 1 (v := .slice a2 s.tape.length k2) rfl
    have q2 := blk_cell g3 2 (v := .int .i64 s.taken) rfl
    have q3 := blk_cell g3 3 (v := .slice a3 s.printed.length k3) rfl
    have q4 := blk_cell g3 4 (v := .int .i64 s.time) rfl
    have q5 := blk_cell g3 5 (v := .int .i64 s.at_) rfl
    have q6 := blk_cell g3 6 (v := .int .i64 s.done) rfl
    have q7 := blk_cell g3 7 (v := .int .i64 s.why) rfl
    have r0 := blk_cell g4 0 (v := .int .u8 (m0 : Int)) rfl
    have r1 := blk_cell g4 1 (v := .int .u8 (m1 : Int)) rfl
    go_wp2_with fail
    refine (hut _ E0).mono ?_
    rintro e w1 ⟨v', rfl, ⟨b1, b2, b3, l1, l2, l3, rfl, j1, j2, j3⟩, E1⟩
    dsimp only at j1 j2 j3 ⊢
    clear q0 q1 q2 q3 q4 q5 q6 q7 r0 r1 hut g3 g4
    have gt := heap_alloc_new w1 (.cells #[.slice b1 t.store.length l1, .slice b2 t.tape.length l2, .int .i64 t.taken, .slice b3 t.printed.length l3, .int .i64 t.time, .int .i64 t.at_, .int .i64 t.done, .int .i64 t.why] 33)
    have ET := (Ext.refl w1).alloc (.cells #[.slice b1 t.store.length l1, .slice b2 t.tape.length l2, .int .i64 t.taken, .slice b3 t.printed.length l3, .int .i64 t.time, .int .i64 t.at_, .int .i64 t.done, .int .i64 t.why] 33)
    have HT := Lib.hid (show StAt w1 (sv b1 b2 b3 t.store.length l1 t.tape.length l2 t.printed.length l3 t.taken t.time t.at_ t.done t.why) t from ⟨b1, b2, b3, l1, l2, l3, rfl, j1, j2, j3⟩)
    clear j1 j2 j3
    go_upto_region 8 with fail
    obtain ⟨X1, hX1⟩ : ∃ X1, w1.alloc (.cells #[.slice b1 t.store.length l1, .slice b2 t.tape.length l2, .int .i64 t.taken, .slice b3 t.printed.length l3, .int .i64 t.time, .int .i64 t.at_, .int .i64 t.done, .int .i64 t.why] 33) = X1 := ⟨_, rfl⟩
    rw [hX1] at gt ET ⊢
    obtain ⟨tb, htb⟩ : ∃ tb, w1.heap.size = tb := ⟨_, rfl⟩
    rw [htb] at gt ⊢
    clear hX1 htb
    have g3 := HG3.out X1 (E1.comp ET)
    have g4 := HG4.out X1 (E1.comp ET)
    have q0 := blk_cell g3 0 (v := .slice a1 s.store.length k1) rfl
    have q1 := blk_cell g3 1 (v := .slice a2 s.tape.length k2) rfl
    have q2 := blk_cell g3 2 (v := .int .i64 s.taken) rfl
    have q3 := blk_cell g3 3 (v := .slice a3 s.printed.length k3) rfl
    have q4 := blk_cell g3 4 (v := .int .i64 s.time) rfl
    have q5 := blk_cell g3 5 (v := .int .i64 s.at_) rfl
    have q6 := blk_cell g3 6 (v := .int .i64 s.done) rfl
    have q7 := blk_cell g3 7 (v := .int .i64 s.why) rfl
    have x0 := blk_cell gt 0 (v := .slice b1 t.store.length l1) rfl
    have x1 := blk_cell gt 1 (v := .slice b2 t.tape.length l2) rfl
    have x2 := blk_cell gt 2 (v := .int .i64 t.taken) rfl
    have x3 := blk_cell gt 3 (v := .slice b3 t.printed.length l3) rfl
    have x4 := blk_cell gt 4 (v := .int .i64 t.time) rfl
    have x5 := blk_cell gt 5 (v := .int .i64 t.at_) rfl
    have x6 := blk_cell gt 6 (v := .int .i64 t.done) rfl
    have x7 := blk_cell gt 7 (v := .int .i64 t.why) rfl
    have r1 := blk_cell g4 1 (v := .int .u8 (m1 : Int)) rfl
    have EY0 := Ext.alloc (Ext.refl X1) (.cells #[.slice a1 s.store.length k1, .slice a2 s.tape.length k2, .int .i64 s.taken, .slice a3 s.printed.length k3, .int .i64 s.time, .int .i64 s.at_, .int .i64 s.done, .int .i64 s.why] 33)
    have gy := heap_alloc_new X1 (.cells #[.slice a1 s.store.length k1, .slice a2 s.tape.length k2, .int .i64 s.taken, .slice a3 s.printed.length k3, .int .i64 s.time, .int .i64 s.at_, .int .i64 s.done, .int .i64 s.why] 33)
    go_upto_region 11 with fail
    obtain ⟨yb, hyb⟩ : ∃ yb, X1.heap.size = yb := ⟨_, rfl⟩
    obtain ⟨Y0, hY0⟩ : ∃ Y0, X1.alloc (.cells #[.slice a1 s.store.length k1, .slice a2 s.tape.length k2, .int .i64 s.taken, .slice a3 s.printed.length k3, .int .i64 s.time, .int .i64 s.at_, .int .i64 s.done, .int .i64 s.why] 33) = Y0 := ⟨_, rfl⟩
    rw [hY0, hyb] at gy
    rw [hY0] at EY0
    rw [hY0, hyb]
    have HYB := Lib.hid (show X1.heap.size ≤ yb by omega)
    have HE1 := Lib.hid (E1.comp ET)
    have HGT := Lib.hid (fun Y (E : Ext X1 Y) => (E.block tb (lt_of_block gt)).trans gt)
    have HT1 := Lib.hid (HT.out.ext ET)
    have hb0 : BoxS Y0 yb s := ⟨a1, a2, a3, k1, k2, k3, gy, HS.out Y0 (E0.comp ((E1.comp ET).comp EY0))⟩
    have HE0 := Lib.hid E0
    clear q0 q1 q2 q3 q4 q5 q6 q7 x0 x1 x2 x3 x4 x5 x6 x7 r1 g3 g4 hY0 hyb gy e1 e2 d1 d2 d1b d2b d2n u1 t1 t2 v0 HT ET E1 E0 gt
    go_loopg [] k (fun gg Y => ∃ j : Nat, k - j ≤ gg ∧ Hid (j ≤ k) ∧ BoxS Y yb (runQ j s) ∧ Hid (∀ i, i < j → OtherW p (runQ i s)) ∧ Ext X1 Y)
    case atStart => exact ⟨0, Nat.le_refl _, Lib.hid (Nat.zero_le _), hb0, Lib.hid (fun i hi => absurd hi (Nat.not_lt_zero _)), EY0⟩
    case round =>
      clear hb0 EY0
      obtain ⟨j, hgg, HJK, ⟨y1, y2, y3, o1, o2, o3, hg, hst⟩, HOW, EX⟩ := hrel
      obtain ⟨Y, hY⟩ : ∃ Y : World, wr = Y := ⟨_, rfl⟩
      rw [hY] at hg hst EX ⊢
      clear hY
      have gt := HGT.out Y EX
      have hjd := HDN.out j HJK.out
      by_cases hjk : j < k
      · have hvc : Valid (runQ j s) := runQ_valid j HV.out
        have hjy := HWY.out j HJK.out
        have hd1 := HDN.out (j + 1) hjk
        have hy1 := HWY.out (j + 1) hjk
        have ho1 := HOT.out (j + 1) (by omega)
        have hte := fun (h : j + 1 = k) => (show runQ (j + 1) s = t by rw [h]; exact HTE.out)
        rw [runQ_add j 1] at hd1 hy1 ho1 hte
        have HNX := Lib.hid (runQ_add j 1 s)
        obtain ⟨c, hc⟩ : ∃ c, runQ j s = c := ⟨_, rfl⟩
        rw [hc] at hg hst hjd hvc hjy hd1 hy1 ho1 hte HNX
        have hzv : Valid (runQ 1 c) := runQ_valid 1 hvc
        have hask := asked_valid hvc
        have hrun : runE c 1 = (runQ 1 c, 0) := by unfold runE; rw [if_pos hask]; rfl
        obtain ⟨z, hz⟩ : ∃ z, runQ 1 c = z := ⟨_, rfl⟩
        rw [hz] at hd1 hy1 ho1 hte HNX hzv hrun
        have HC := Lib.hid hc
        have HST := Lib.hid hst
        have HVC := Lib.hid hvc
        have HASK := Lib.hid hask
        have HRUN := Lib.hid hrun
        have HO1 := Lib.hid (And.intro ho1 hte)
        have dl : c.done < t.done := by have := HD.out.1; omega
        have u2 : IntKind.i64.wrap (c.done + 1) = z.done := by
          rw [show c.done + 1 = z.done by omega]
          have := hzv.done; have := hzv.time
          exact IntWalk.i64_in _ (by omega)
        have HZD := Lib.hid (And.intro hd1 (And.intro hzv hjd))
        have HTD := Lib.hid HD.out.1
        clear hst hc hz hvc hask hrun ho1 hte hd1 hy1 hjy hjd hzv
        have q0 := blk_cell hg 0 (v := .slice y1 c.store.length o1) rfl
        have q1 := blk_cell hg 1 (v := .slice y2 c.tape.length o2) rfl
        have q2 := blk_cell hg 2 (v := .int .i64 c.taken) rfl
        have q3 := blk_cell hg 3 (v := .slice y3 c.printed.length o3) rfl
        have q4 := blk_cell hg 4 (v := .int .i64 c.time) rfl
        have q5 := blk_cell hg 5 (v := .int .i64 c.at_) rfl
        have q6 := blk_cell hg 6 (v := .int .i64 c.done) rfl
        have q7 := blk_cell hg 7 (v := .int .i64 c.why) rfl
        have x6 := blk_cell gt 6 (v := .int .i64 t.done) rfl
        go_wp2_with fail
        refine (rreads_any _ c _ HST.out HVC.out).mono ?_
        rintro e Y1 ⟨ra, rc, rfl, hI, E1⟩
        clear q0 q1 q2 q3 q4 q5 q6 q7 x6
        obtain ⟨rl, hrl⟩ : ∃ rl, readsQ c = rl := ⟨_, rfl⟩
        obtain ⟨wq, hwq⟩ : ∃ wq, writesQ c = wq := ⟨_, rfl⟩
        have HRL := Lib.hid (And.intro hrl hwq)
        have hr3 := reads_three c
        rw [hrl] at hI hr3 ⊢
        rw [hwq]
        obtain ⟨rn, hrn⟩ : ∃ rn, rl.length = rn := ⟨_, rfl⟩
        rw [hrn] at hr3 ⊢
        have HRN := Lib.hid hrn
        have HI := Lib.hid hI
        have HG := Lib.hid hg
        have HEX := Lib.hid EX
        have HE1b := Lib.hid E1
        clear hrl hwq hrn hI hg EX E1 gt
        go_wp2
        go_loopw [14] (fun s14 wr2 => ∃ i : Nat, i ≤ rn ∧ s14 = .int .i64 (i : Int) ∧ Hid (∀ q, q < i → rl[q]?.getD 0 ≠ (p : Int)) ∧ wr2 = Y1) (fun s14 _ => rn - (Go.RowKit.intOf s14).toNat)
        case atStart => exact ⟨0, Nat.zero_le _, rfl, Lib.hid (fun q hq => absurd hq (Nat.not_lt_zero _)), rfl⟩
        case round =>
          obtain ⟨i, hi, rfl, HA, rfl⟩ := hrel
          by_cases hlt : i < rn
          · have hltz : (i : Int) < (rn : Int) := by omega
            have hi0 : (0 : Int) ≤ (i : Int) := by omega
            obtain ⟨rb, ro, rfl, hc⟩ : ∃ b off, ra = some ⟨b, off, none⟩ ∧ wr.cell? ⟨b, off + i, none⟩ = some (.int .i64 (rl[i]?.getD 0)) := by
              rcases HI.out with h | ⟨b, off, ha, _, hc⟩
              · rw [h] at HRN; have := HRN.out; simp at this; omega
              · exact ⟨b, off, ha, hc i (by rw [HRN.out]; exact hlt)⟩
            obtain ⟨x, hx⟩ : ∃ x, rl[i]?.getD 0 = x := ⟨_, rfl⟩
            rw [hx] at hc
            have HX := Lib.hid hx
            clear hx
            by_cases hxp : x = (p : Int)
            · have e1 : (x == (p : Int)) = true := by simpa using hxp
              clear hxp
              go_wp2_with fail
              refine (haw _).mono ?_
              rintro e w7 ⟨rfl, E7⟩
              go_wp2_with fail
              go_ret
              exact ⟨rfl, HE0.out.comp (HE1.out.comp (HEX.out.comp (HE1b.out.comp E7)))⟩
            · have e1 : (x == (p : Int)) = false := by simpa using hxp
              have HA2 : Hid (∀ q, q < i + 1 → rl[q]?.getD 0 ≠ (p : Int)) := Lib.hid (fun q hq => by
                by_cases h : q = i
                · rw [h, HX.out]; exact hxp
                · exact HA.out q (by omega))
              clear hxp HA
              go_wp2
              go_roundw
              case rel => exact ⟨i + 1, by omega, by go_num, HA2, (by first | rfl | trivial)⟩
              case measure => simp [Go.RowKit.intOf]; omega
          · obtain rfl : i = rn := by omega
            have hltz : ¬ (i : Int) < (i : Int) := by omega
            have HRR : Hid (∀ b ∈ readsQ c, b ≠ (p : Int)) := Lib.hid (fun b hb => by
              rw [HRL.out.1] at hb
              obtain ⟨q, hq, rfl⟩ := List.mem_iff_getElem.1 hb
              have := HA.out q (by rw [← HRN.out]; exact hq)
              rwa [List.getElem?_eq_getElem hq] at this)
            by_cases hwp : wq = (p : Int)
            · have e1 : (wq == (p : Int)) = true := by simpa using hwp
              clear hwp
              go_wp2_with fail
              refine (haw _).mono ?_
              rintro e w7 ⟨rfl, E7⟩
              go_wp2_with fail
              go_ret
              exact ⟨rfl, HE0.out.comp (HE1.out.comp (HEX.out.comp (HE1b.out.comp E7)))⟩
            · have e1 : (wq == (p : Int)) = false := by simpa using hwp
              have HOW2 : Hid (∀ i, i < j + 1 → OtherW p (runQ i s)) := Lib.hid (fun q hq => by
                by_cases h : q = j
                · rw [h, HC.out]; exact ⟨HRR.out, by rw [HRL.out.2]; exact hwp⟩
                · exact HOW.out q (by omega))
              clear hwp HOW HRR HA
              have hg1 := (HE1b.out.block yb (lt_of_block HG.out)).trans HG.out
              have gt1 := HGT.out wr (HEX.out.comp HE1b.out)
              have hrn2 := runE_anyN _ c 1 wr (HST.out.ext HE1b.out) (valid_bd HVC.out) HASK.out
              rw [HRUN.out] at hrn2
              have q0 := blk_cell hg1 0 (v := .slice y1 c.store.length o1) rfl
              have q1 := blk_cell hg1 1 (v := .slice y2 c.tape.length o2) rfl
              have q2 := blk_cell hg1 2 (v := .int .i64 c.taken) rfl
              have q3 := blk_cell hg1 3 (v := .slice y3 c.printed.length o3) rfl
              have q4 := blk_cell hg1 4 (v := .int .i64 c.time) rfl
              have q5 := blk_cell hg1 5 (v := .int .i64 c.at_) rfl
              have q6 := blk_cell hg1 6 (v := .int .i64 c.done) rfl
              have q7 := blk_cell hg1 7 (v := .int .i64 c.why) rfl
              go_wp2_with fail
              refine hrn2.mono ?_
              rintro e Y2 ⟨v', rfl, ⟨c1, c2, c3, n1, n2, n3, rfl, j1, j2, j3⟩, E2⟩
              dsimp only at j1 j2 j3 ⊢
              clear q0 q1 q2 q3 q4 q5 q6 q7 hrn2
              have gz := heap_alloc_new Y2 (.cells #[.slice c1 z.store.length n1, .slice c2 z.tape.length n2, .int .i64 z.taken, .slice c3 z.printed.length n3, .int .i64 z.time, .int .i64 z.at_, .int .i64 z.done, .int .i64 z.why] 33)
              have EZ := Ext.alloc (Ext.refl Y2) (.cells #[.slice c1 z.store.length n1, .slice c2 z.tape.length n2, .int .i64 z.taken, .slice c3 z.printed.length n3, .int .i64 z.time, .int .i64 z.at_, .int .i64 z.done, .int .i64 z.why] 33)
              have hg2 := ((E2.comp EZ).block yb (lt_of_block hg1)).trans hg1
              have gt2 := ((E2.comp EZ).block tb (lt_of_block gt1)).trans gt1
              have hyl : yb < wr.heap.size := lt_of_block hg1
              go_upto_region 21 with fail
              obtain ⟨Y3, hY3⟩ : ∃ Y3, Y2.alloc (.cells #[.slice c1 z.store.length n1, .slice c2 z.tape.length n2, .int .i64 z.taken, .slice c3 z.printed.length n3, .int .i64 z.time, .int .i64 z.at_, .int .i64 z.done, .int .i64 z.why] 33) = Y3 := ⟨_, rfl⟩
              rw [hY3] at gz EZ hg2 gt2 ⊢
              obtain ⟨zb, hzb⟩ : ∃ zb, Y2.heap.size = zb := ⟨_, rfl⟩
              rw [hzb] at gz ⊢
              have HZB := Lib.hid hzb
              clear hY3 hzb
              have q0 := blk_cell hg2 0 (v := .slice y1 c.store.length o1) rfl
              have q1 := blk_cell hg2 1 (v := .slice y2 c.tape.length o2) rfl
              have q2 := blk_cell hg2 2 (v := .int .i64 c.taken) rfl
              have q3 := blk_cell hg2 3 (v := .slice y3 c.printed.length o3) rfl
              have q4 := blk_cell hg2 4 (v := .int .i64 c.time) rfl
              have q5 := blk_cell hg2 5 (v := .int .i64 c.at_) rfl
              have q6 := blk_cell hg2 6 (v := .int .i64 c.done) rfl
              have q7 := blk_cell hg2 7 (v := .int .i64 c.why) rfl
              have r0 := blk_cell gz 0 (v := .slice c1 z.store.length n1) rfl
              have r1 := blk_cell gz 1 (v := .slice c2 z.tape.length n2) rfl
              have r2 := blk_cell gz 2 (v := .int .i64 z.taken) rfl
              have r3 := blk_cell gz 3 (v := .slice c3 z.printed.length n3) rfl
              have r4 := blk_cell gz 4 (v := .int .i64 z.time) rfl
              have r5 := blk_cell gz 5 (v := .int .i64 z.at_) rfl
              have r6 := blk_cell gz 6 (v := .int .i64 z.done) rfl
              have r7 := blk_cell gz 7 (v := .int .i64 z.why) rfl
              have x6 := blk_cell gt2 6 (v := .int .i64 t.done) rfl
              have hcase : ((z.at_ == (p : Int)) = true ∧ ¬ z.done < t.done) ∨ (z.at_ == (p : Int)) = false := by
                by_cases h : j + 1 = k
                · rw [HO1.out.2 h] at *
                  cases hz : (t.at_ == (p : Int)) with
                  | true => exact .inl ⟨rfl, by omega⟩
                  | false => exact .inr rfl
                · exact .inr (by simpa using HO1.out.1 (by omega))
              have HCS := Lib.hid hcase
              clear hcase
              rcases HCS.out with ⟨ez, dz⟩ | ez
              all_goals
                clear HCS
                go_upto_region 23 with fail
                have KV := s8_kp (M := fun q => q = yb) (w := Y3) (b := yb) (n0 := .slice c1 z.store.length n1) (n1 := .slice c2 z.tape.length n2) (n2 := .int .i64 z.taken) (n3 := .slice c3 z.printed.length n3) (n4 := .int .i64 z.time) (n5 := .int .i64 z.at_) (n6 := .int .i64 z.done) (n7 := .int .i64 z.why) rfl
                unfold S8 at KV
                have g9 := cells_set (cells_set (cells_set (cells_set (cells_set (cells_set (cells_set (cells_set hg2 0 (.slice c1 z.store.length n1)) 1 (.slice c2 z.tape.length n2)) 2 (.int .i64 z.taken)) 3 (.slice c3 z.printed.length n3)) 4 (.int .i64 z.time)) 5 (.int .i64 z.at_)) 6 (.int .i64 z.done)) 7 (.int .i64 z.why)
                (try simp at g9)
                have z1 := ((j1.ext EZ).kp KV (fun q h => by omega)).at_
                have z2 := ((j2.ext EZ).kp KV (fun q h => by omega)).at_
                have z3 := ((j3.ext EZ).kp KV (fun q h => by omega)).at_
                have EV : Ext X1 _ := Ext.below5 ((HEX.out.comp HE1b.out).comp (E2.comp EZ)) KV (fun q h => by have := HYB.out; omega)
                have fr0 := blk_free hg2 0
                have fr1 := blk_free hg2 1
                have fr2 := blk_free hg2 2
                have fr3 := blk_free hg2 3
                have fr4 := blk_free hg2 4
                have fr5 := blk_free hg2 5
                have fr6 := blk_free hg2 6
                have fr7 := blk_free hg2 7
                go_wp2
                generalize ((((((((Y3.setCell ⟨yb, 0, none⟩ (.slice c1 z.store.length n1)).setCell ⟨yb, 1, none⟩ (.slice c2 z.tape.length n2)).setCell ⟨yb, 2, none⟩ (.int .i64 z.taken)).setCell ⟨yb, 3, none⟩ (.slice c3 z.printed.length n3)).setCell ⟨yb, 4, none⟩ (.int .i64 z.time)).setCell ⟨yb, 5, none⟩ (.int .i64 z.at_)).setCell ⟨yb, 6, none⟩ (.int .i64 z.done)).setCell ⟨yb, 7, none⟩ (.int .i64 z.why)) = V at KV g9 z1 z2 z3 EV ⊢
                go_roundg (k - (j + 1))
                case measure => omega
                case rel => exact ⟨j + 1, Nat.le_refl _, Lib.hid hjk, by rw [HNX.out]; exact ⟨c1, c2, c3, n1, n2, n3, g9, ⟨c1, c2, c3, n1, n2, n3, rfl, z1, z2, z3⟩⟩, HOW2, EV⟩
      · have hjk2 : j = k := by have := HJK.out; omega
        have hct : runQ j s = t := by rw [hjk2]; exact HTE.out
        have hfin := HBL.out (fun i hi => HOW.out i (by omega))
        rw [hct] at hg hst hjd
        have dl : ¬ t.done < t.done := by omega
        have HST := Lib.hid hst
        have HFI := Lib.hid hfin
        have HE0X := Lib.hid (HE1.out.comp EX)
        have g3 := HG3.out Y (HE1.out.comp EX)
        have hbs := block_any _ s (p : Int) Y (HS.out Y (HE0.out.comp HE0X.out)) HB.out
        rw [block_fine HV.out hp128] at hbs
        have hbt := fun W (E : Ext X1 W) => block_any _ t (p : Int) W (HT1.out.ext E) (valid_bd HVT.out)
        rw [block_fine HVT.out hp128] at hbt
        have hq0 := HG3.out Y (HE1.out.comp EX)
        obtain ⟨bs, hbse⟩ : ∃ bs, blockQ (p : Int) s = bs := ⟨_, rfl⟩
        obtain ⟨bt, hbte⟩ : ∃ bt, blockQ (p : Int) t = bt := ⟨_, rfl⟩
        have hvbs : Valid bs := by rw [← hbse]; exact block_valid HV.out
        have hvbt : Valid bt := by rw [← hbte]; exact block_valid HVT.out
        rw [hbse] at hbs
        rw [hbte] at hbt
        rw [hbse, hbte] at HFI
        obtain ⟨c', hc'⟩ : ∃ c', ({ bt with why := 1 } : St) = c' := ⟨_, rfl⟩
        have hbdc : StBd c' := by rw [← hc']; have h := valid_bd hvbt; exact ⟨h.1, h.2.1, h.2.2⟩
        rw [hc'] at HFI
        have HCE := Lib.hid hc'
        have HBC := Lib.hid hbdc
        have HBS := Lib.hid hvbs
        have hrun : runE bs ((m1 + 1 : Nat) : Int) = (c', 0) := by
          rcases run_small bs (m := m1 + 1) (by omega) with ⟨hc, _, _⟩ | ⟨_, _, h, _⟩
          · exact absurd (by have := asked_of_valid hvbs (most := 0) ⟨by omega, by omega⟩; rw [asked_small bs ⟨by omega, by omega⟩] at this; exact this) hc
          · rw [h, HFI.out]
        have HRUN := Lib.hid hrun
        have u3 : IntKind.i64.wrap ((m1 : Int) + 1) = ((m1 + 1 : Nat) : Int) := by rw [show (m1 : Int) + 1 = ((m1 + 1 : Nat) : Int) by omega]; exact IntWalk.i64_in _ (by omega)
        obtain ⟨m2, hm2⟩ : ∃ m2, m1 + 1 = m2 := ⟨_, rfl⟩
        rw [hm2] at u3 HRUN
        have HG := Lib.hid hg
        have HEX := Lib.hid EX
        have w6 := blk_cell hg 6 (v := .int .i64 t.done) rfl
        have x6 := blk_cell gt 6 (v := .int .i64 t.done) rfl
        have q0 := blk_cell hq0 0 (v := .slice a1 s.store.length k1) rfl
        have q1 := blk_cell hq0 1 (v := .slice a2 s.tape.length k2) rfl
        have q2 := blk_cell hq0 2 (v := .int .i64 s.taken) rfl
        have q3 := blk_cell hq0 3 (v := .slice a3 s.printed.length k3) rfl
        have q4 := blk_cell hq0 4 (v := .int .i64 s.time) rfl
        have q5 := blk_cell hq0 5 (v := .int .i64 s.at_) rfl
        have q6 := blk_cell hq0 6 (v := .int .i64 s.done) rfl
        have q7 := blk_cell hq0 7 (v := .int .i64 s.why) rfl
        clear hjk2 hct hfin hst hjk hjd HJK HOW hgg hbse hbte hvbs hvbt hc' hbdc hrun hm2 EX hg gt g3 hq0
        go_wp2_with fail
        refine hbs.mono ?_
        rintro e Z1 ⟨v', rfl, ⟨c1, c2, c3, n1, n2, n3, rfl, j1, j2, j3⟩, F1⟩
        dsimp only at j1 j2 j3 ⊢
        clear q0 q1 q2 q3 q4 q5 q6 q7 x6 w6 hbs dl
        have gb := heap_alloc_new Z1 (.cells #[.slice c1 bs.store.length n1, .slice c2 bs.tape.length n2, .int .i64 bs.taken, .slice c3 bs.printed.length n3, .int .i64 bs.time, .int .i64 bs.at_, .int .i64 bs.done, .int .i64 bs.why] 33)
        have EB := Ext.alloc (Ext.refl Z1) (.cells #[.slice c1 bs.store.length n1, .slice c2 bs.tape.length n2, .int .i64 bs.taken, .slice c3 bs.printed.length n3, .int .i64 bs.time, .int .i64 bs.at_, .int .i64 bs.done, .int .i64 bs.why] 33)
        have HBB := Lib.hid (show StAt Z1 (sv c1 c2 c3 bs.store.length n1 bs.tape.length n2 bs.printed.length n3 bs.taken bs.time bs.at_ bs.done bs.why) bs from ⟨c1, c2, c3, n1, n2, n3, rfl, j1, j2, j3⟩)
        clear j1 j2 j3
        go_upto_region 25 with fail
        obtain ⟨Z2, hZ2⟩ : ∃ Z2, Z1.alloc (.cells #[.slice c1 bs.store.length n1, .slice c2 bs.tape.length n2, .int .i64 bs.taken, .slice c3 bs.printed.length n3, .int .i64 bs.time, .int .i64 bs.at_, .int .i64 bs.done, .int .i64 bs.why] 33) = Z2 := ⟨_, rfl⟩
        rw [hZ2] at gb EB ⊢
        obtain ⟨bb, hbb⟩ : ∃ bb, Z1.heap.size = bb := ⟨_, rfl⟩
        rw [hbb] at gb ⊢
        clear hZ2 hbb
        have g4 := HG4.out Z2 (HE1.out.comp (HEX.out.comp (F1.comp EB)))
        have r1 := blk_cell g4 1 (v := .int .u8 (m1 : Int)) rfl
        have q0 := blk_cell gb 0 (v := .slice c1 bs.store.length n1) rfl
        have q1 := blk_cell gb 1 (v := .slice c2 bs.tape.length n2) rfl
        have q2 := blk_cell gb 2 (v := .int .i64 bs.taken) rfl
        have q3 := blk_cell gb 3 (v := .slice c3 bs.printed.length n3) rfl
        have q4 := blk_cell gb 4 (v := .int .i64 bs.time) rfl
        have q5 := blk_cell gb 5 (v := .int .i64 bs.at_) rfl
        have q6 := blk_cell gb 6 (v := .int .i64 bs.done) rfl
        have q7 := blk_cell gb 7 (v := .int .i64 bs.why) rfl
        have hrn := runE_any _ bs (m2 : Int) Z2 (HBB.out.ext EB) (valid_bd HBS.out)
        rw [HRUN.out] at hrn
        go_wp2_with fail
        refine hrn.mono ?_
        rintro e Z3 ⟨v', rfl, ⟨d1, d2, d3, r1', r2, r3, rfl, j1, j2, j3⟩, F3⟩
        dsimp only at j1 j2 j3 ⊢
        obtain ⟨i1, hi1⟩ : ∃ i1, r1' = i1 := ⟨_, rfl⟩
        obtain ⟨i2, hi2⟩ : ∃ i2, r2 = i2 := ⟨_, rfl⟩
        obtain ⟨i3, hi3⟩ : ∃ i3, r3 = i3 := ⟨_, rfl⟩
        rw [hi1, hi2, hi3]
        clear q0 q1 q2 q3 q4 q5 q6 q7 r1 hrn g4 hi1 hi2 hi3
        have gu := heap_alloc_new Z3 (.cells #[.slice d1 c'.store.length i1, .slice d2 c'.tape.length i2, .int .i64 c'.taken, .slice d3 c'.printed.length i3, .int .i64 c'.time, .int .i64 c'.at_, .int .i64 c'.done, .int .i64 c'.why] 33)
        have EU := Ext.alloc (Ext.refl Z3) (.cells #[.slice d1 c'.store.length i1, .slice d2 c'.tape.length i2, .int .i64 c'.taken, .slice d3 c'.printed.length i3, .int .i64 c'.time, .int .i64 c'.at_, .int .i64 c'.done, .int .i64 c'.why] 33)
        have HUU := Lib.hid (show StAt Z3 (sv d1 d2 d3 c'.store.length i1 c'.tape.length i2 c'.printed.length i3 c'.taken c'.time c'.at_ c'.done c'.why) c' from ⟨d1, d2, d3, i1, i2, i3, rfl, j1, j2, j3⟩)
        clear j1 j2 j3
        go_upto_region 26 with fail
        obtain ⟨Z4, hZ4⟩ : ∃ Z4, Z3.alloc (.cells #[.slice d1 c'.store.length i1, .slice d2 c'.tape.length i2, .int .i64 c'.taken, .slice d3 c'.printed.length i3, .int .i64 c'.time, .int .i64 c'.at_, .int .i64 c'.done, .int .i64 c'.why] 33) = Z4 := ⟨_, rfl⟩
        rw [hZ4] at gu EU ⊢
        obtain ⟨ub, hub⟩ : ∃ ub, Z3.heap.size = ub := ⟨_, rfl⟩
        rw [hub] at gu ⊢
        clear hZ4 hub
        have FY4 : Ext Y Z4 := F1.comp (EB.comp (F3.comp EU))
        have gt4 := HGT.out Z4 (HEX.out.comp FY4)
        have q0 := blk_cell gt4 0 (v := .slice b1 t.store.length l1) rfl
        have q1 := blk_cell gt4 1 (v := .slice b2 t.tape.length l2) rfl
        have q2 := blk_cell gt4 2 (v := .int .i64 t.taken) rfl
        have q3 := blk_cell gt4 3 (v := .slice b3 t.printed.length l3) rfl
        have q4 := blk_cell gt4 4 (v := .int .i64 t.time) rfl
        have q5 := blk_cell gt4 5 (v := .int .i64 t.at_) rfl
        have q6 := blk_cell gt4 6 (v := .int .i64 t.done) rfl
        have q7 := blk_cell gt4 7 (v := .int .i64 t.why) rfl
        have hbt4 := hbt Z4 (HEX.out.comp FY4)
        go_wp2_with fail
        refine hbt4.mono ?_
        rintro e Z5 ⟨v', rfl, ⟨f1, f2, f3, s1, s2, s3, rfl, j1, j2, j3⟩, F5⟩
        dsimp only at j1 j2 j3 ⊢
        clear q0 q1 q2 q3 q4 q5 q6 q7 hbt hbt4 gt4
        have gw := heap_alloc_new Z5 (.cells #[.slice f1 bt.store.length s1, .slice f2 bt.tape.length s2, .int .i64 bt.taken, .slice f3 bt.printed.length s3, .int .i64 bt.time, .int .i64 bt.at_, .int .i64 bt.done, .int .i64 bt.why] 33)
        have EW := Ext.alloc (Ext.refl Z5) (.cells #[.slice f1 bt.store.length s1, .slice f2 bt.tape.length s2, .int .i64 bt.taken, .slice f3 bt.printed.length s3, .int .i64 bt.time, .int .i64 bt.at_, .int .i64 bt.done, .int .i64 bt.why] 33)
        go_upto_region 27 with fail
        obtain ⟨Z6, hZ6⟩ : ∃ Z6, Z5.alloc (.cells #[.slice f1 bt.store.length s1, .slice f2 bt.tape.length s2, .int .i64 bt.taken, .slice f3 bt.printed.length s3, .int .i64 bt.time, .int .i64 bt.at_, .int .i64 bt.done, .int .i64 bt.why] 33) = Z6 := ⟨_, rfl⟩
        rw [hZ6] at gw EW ⊢
        obtain ⟨wb, hwb⟩ : ∃ wb, Z5.heap.size = wb := ⟨_, rfl⟩
        have HWB := Lib.hid hwb
        rw [hwb] at gw ⊢
        clear hZ6 hwb
        have q7 := blk_cell gw 7 (v := .int .i64 bt.why) rfl
        have f7 := blk_free gw 7
        have gw2 := cells_set gw 7 (.int .i64 1)
        (try simp at gw2)
        have EW2 : Ext Z5 (Z6.setCell ⟨wb, 7, none⟩ (.int .i64 1)) := EW.setCell (p := ⟨wb, 7, none⟩) (by rw [← HWB.out]; exact Nat.le_refl _) _
        go_upto_region 28 with fail
        generalize Z6.setCell ⟨wb, 7, none⟩ (.int .i64 1) = V at gw2 EW2 ⊢
        clear q7 f7 gw EW
        have HWW : Hid (StAt V (sv f1 f2 f3 bt.store.length s1 bt.tape.length s2 bt.printed.length s3 bt.taken bt.time bt.at_ bt.done 1) c') := Lib.hid (by
          rw [← HCE.out]
          exact ⟨f1, f2, f3, s1, s2, s3, rfl, j1.ext EW2, j2.ext EW2, j3.ext EW2⟩)
        clear j1 j2 j3
        have gu2 := ((F5.comp EW2).block ub (lt_of_block gu)).trans gu
        have q0 := blk_cell gu2 0 (v := .slice d1 c'.store.length i1) rfl
        have q1 := blk_cell gu2 1 (v := .slice d2 c'.tape.length i2) rfl
        have q2 := blk_cell gu2 2 (v := .int .i64 c'.taken) rfl
        have q3 := blk_cell gu2 3 (v := .slice d3 c'.printed.length i3) rfl
        have q4 := blk_cell gu2 4 (v := .int .i64 c'.time) rfl
        have q5 := blk_cell gu2 5 (v := .int .i64 c'.at_) rfl
        have q6 := blk_cell gu2 6 (v := .int .i64 c'.done) rfl
        have q7 := blk_cell gu2 7 (v := .int .i64 c'.why) rfl
        have r0 := blk_cell gw2 0 (v := .slice f1 bt.store.length s1) rfl
        have r1 := blk_cell gw2 1 (v := .slice f2 bt.tape.length s2) rfl
        have r2 := blk_cell gw2 2 (v := .int .i64 bt.taken) rfl
        have r3 := blk_cell gw2 3 (v := .slice f3 bt.printed.length s3) rfl
        have r4 := blk_cell gw2 4 (v := .int .i64 bt.time) rfl
        have r5 := blk_cell gw2 5 (v := .int .i64 bt.at_) rfl
        have r6 := blk_cell gw2 6 (v := .int .i64 bt.done) rfl
        have r7 := blk_cell gw2 7 (v := .int .i64 1) rfl
        go_wp2_with fail
        refine (states_same _ _ c' _ (HUU.out.ext (EU.comp (F5.comp EW2))) HWW.out HBC.out).mono ?_
        rintro e V1 ⟨rfl, G1⟩
        clear q0 q1 q2 q3 q4 q5 q6 q7 r0 r1 r2 r3 r4 r5 r6 r7
        have FYV : Ext Y V1 := FY4.comp ((F5.comp EW2).comp G1)
        have gt5 := HGT.out V1 (HEX.out.comp FYV)
        have hg5 := (FYV.block yb (lt_of_block HG.out)).trans HG.out
        have q0 := blk_cell gt5 0 (v := .slice b1 t.store.length l1) rfl
        have q1 := blk_cell gt5 1 (v := .slice b2 t.tape.length l2) rfl
        have q2 := blk_cell gt5 2 (v := .int .i64 t.taken) rfl
        have q3 := blk_cell gt5 3 (v := .slice b3 t.printed.length l3) rfl
        have q4 := blk_cell gt5 4 (v := .int .i64 t.time) rfl
        have q5 := blk_cell gt5 5 (v := .int .i64 t.at_) rfl
        have q6 := blk_cell gt5 6 (v := .int .i64 t.done) rfl
        have q7 := blk_cell gt5 7 (v := .int .i64 t.why) rfl
        have r0 := blk_cell hg5 0 (v := .slice y1 t.store.length o1) rfl
        have r1 := blk_cell hg5 1 (v := .slice y2 t.tape.length o2) rfl
        have r2 := blk_cell hg5 2 (v := .int .i64 t.taken) rfl
        have r3 := blk_cell hg5 3 (v := .slice y3 t.printed.length o3) rfl
        have r4 := blk_cell hg5 4 (v := .int .i64 t.time) rfl
        have r5 := blk_cell hg5 5 (v := .int .i64 t.at_) rfl
        have r6 := blk_cell hg5 6 (v := .int .i64 t.done) rfl
        have r7 := blk_cell hg5 7 (v := .int .i64 t.why) rfl
        go_wp2_with fail
        refine (states_same _ _ t _ (HT1.out.ext (HEX.out.comp FYV)) (HST.out.ext FYV) (valid_bd HVT.out)).mono ?_
        rintro e V2 ⟨rfl, G2⟩
        clear q0 q1 q2 q3 q4 q5 q6 q7 r0 r1 r2 r3 r4 r5 r6 r7
        go_wp2_with fail
        refine (haw _).mono ?_
        rintro e V3 ⟨rfl, G3⟩
        go_wp2_with fail
        go_ret
        exact ⟨rfl, HE0.out.comp ((HE1.out.comp HEX.out).comp (FYV.comp (G2.comp G3)))⟩
end Go.Proofs.Ytnhpcoagkmgdoaa
/- The statement DumpBlocked: the row, from the contract of the law's function. -/
namespace Go.Proofs.Ytnhpcoagkmgdoaa.dumpBlocked
open Go.ChangeShapes Go.WideShapes Go.ChangeAt Go.RowKit Go.Joins Go.Deep Go.Q
set_option linter.unusedVariables false
set_option maxRecDepth 100000 in
theorem lifted (os : Os) (started : os.Started) (H : Type) (enc : TypeId × Value → H) :
    ReturnsInHanded {} Try.checked os 13 .any (Rows.dumpBlockedSpec.pre6 enc Try.prog Try.f13 Rows.dumpBlockedRow.domain false) (Rows.dumpBlockedSpec.post enc Try.prog Try.f13 false true false false) := by
  refine returnsInHanded_of_change (C := Try.checked) rowOwn started (by kernel_rfl) Try.func13
    (ChangeSpec.witness6 (enc := enc) (C := Try.checked) false ⟨#[], #[.agg #[.slice none 0 0, .slice none 0 0, .int .i64 0, .slice none 0 0, .int .i64 0, .int .i64 0, .int .i64 0, .int .i64 0], .agg #[.int .u8 0, .int .u8 0]], []⟩ 8 (by kernel_rfl) (by kernel_rfl) (by kernel_rfl) (by kernel_rfl)) ?_
  intro W base args ds gs before hval0 hW hcnd _
  have hval : ∀ (j : Nat) t v, Try.f13.params[j]? = some t → args[j]? = some v → Value.okWide Try.prog W .any base t v := hval0
  have hW' := hW
  obtain ⟨p, q, hA0, hV, rfl, hfz, hnd⟩ := hW
  have hA : DataW.TrodAll enc Try.prog W 0 (fun _ => true) true Try.f13.params.toList args.toList ds p := hA0
  rw [Try.params13] at hA hval
  obtain ⟨v0, vs0, d0, ds0, p0, q0, hargs, rfl, rfl, h0, r0⟩ := trodAll_cons hA
  obtain ⟨v1, vs1, d1, ds1, p1, q1, rfl, rfl, rfl, h1, r1⟩ := trodAll_cons r0
  obtain ⟨rfl, rfl, rfl⟩ := trodAll_nil r1
  obtain rfl : args = #[v0, v1] := by cases args; simp_all
  obtain ⟨rfl, rfl⟩ := trodVars_none hV
  have k0 := h0
  have lt0 : ∀ x ∈ p0, x.block < W.heap.size := by obtain ⟨m, hm⟩ := k0; exact DataW.trod_lt m _ _ _ hm
  obtain ⟨s0, A0, B0⟩ := state_of_trod (hval 0 33 v0 rfl rfl) h0
  have k1 := h1
  have lt1 : ∀ x ∈ p1, x.block < W.heap.size := by obtain ⟨m, hm⟩ := k1; exact DataW.trod_lt m _ _ _ hm
  obtain ⟨m1, n1, rfl, B1, D1⟩ := duo_of_trod (hval 1 48 v1 rfl rfl) h1
  clear hA0 hval0
  refine (dumpBlocked_any awakeT _ s0 m1 n1 W A0 B0 B1 D1).mono fun e W' ⟨he, bel⟩ => ?_
  subst he
  exact ⟨_, rfl, _, _, _, [], _, [], hW', trodAll_mk1 (shut_bool Try.underlying4 _), (trodAll_cons_mk (Below.trod rowLaid (by kernel_rfl) (of_decide_eq_true (by kernel_rfl)) k0 bel lt0) (trodAll_cons_mk (Below.trod rowLaid (by kernel_rfl) (of_decide_eq_true (by kernel_rfl)) k1 bel lt1) trodAll_mk0)), rfl, bel.frame _, fun h => by cases h⟩
theorem closed : joinedFacts Try.pinned.checked.prog 13 Try.f13 Rows.dumpBlockedSpec Rows.dumpBlockedRow = true := by
  have hm : (Try.pinned.checked.prog.make == some Rows.dumpBlockedRow.make) = true := factMake
  unfold joinedFacts
  rw [factEnter, factLifted, hm]
  exact of_decide_eq_true (by kernel_rfl)
theorem over : Rows.dumpBlockedRow.holds Try.pinned (OpenSpec.ofChange Rows.dumpBlockedSpec) :=
  OpenClaim.holds_of_wide 13 Try.f13 rfl rfl rfl rfl rfl rfl rfl ⟨rfl, rfl, rfl, rfl, rfl⟩ rfl rfl rfl rfl rfl (by kernel_rfl) Try.func13 closed
    (of_decide_eq_true (by kernel_rfl)) (by unfold Func.isWrapper; first | (rw [if_pos (by decide +kernel)]; kernel_rfl) | (rw [if_neg (by decide +kernel)]; exact ⟨rfl, rfl⟩))
    (fun os started H enc _ => lifted os started H enc)
theorem proved : Rows.DumpBlockedSaid := over
#print axioms proved
end Go.Proofs.Ytnhpcoagkmgdoaa.dumpBlocked

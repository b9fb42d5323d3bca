import Derived.Deep.DeepCutAuto
import Derived.Test.YtnhpcoagkmgdoaaXDL4
import Derived.Test.YtnhpcoagkmgdoaaX32
import Derived.Test.YtnhpcoagkmgdoaaX5
set_option linter.unusedVariables false
set_option linter.unusedSimpArgs false
/- The law DumpNoticed. -/
namespace Go.Q
open Go.RowKit
theorem two_out {ws : List Int} {k r p r2 p2 : Nat} (hk : k < manyB ws) (hr : r < 65) (hr2 : r2 < 65) :
  ((tapeW ws).set (65 * k + r) ((tapeW ws)[65 * k + r]?.getD 0 ^^^ 2 ^ p)).set (65 * k + r2) (((tapeW ws).set (65 * k + r) ((tapeW ws)[65 * k + r]?.getD 0 ^^^ 2 ^ p))[65 * k + r2]?.getD 0 ^^^ 2 ^ p2) = twoT ws k r p r2 p2 := by
 have hg : ∀ j, j < manyB ws → (tapeB ws j).length = 65 := fun j hj => (tapeB_good hj).len
 have hg2 : ∀ j, j < manyB ws → ((fun j => if j = k then (tapeB ws k).set r ((tapeB ws k)[r]?.getD 0 ^^^ 2 ^ p) else tapeB ws j) j).length = 65 := by
  intro j hj
  dsimp only
  split
  ·rw [List.length_set]; exact hg k hk
  ·exact hg j hj
 rw [tape_blocks ws, flat_get2 hg hk hr, flat_set (by decide) hg hk hr, flat_get2 hg2 hk hr2, flat_set (by decide) hg2 hk hr2]
 unfold twoT
 refine flatMap_congr2 fun j hj => ?_
 (try dsimp only)
 by_cases hjk : j = k
 ·subst hjk
  rw [if_pos rfl, if_pos rfl, if_pos rfl]
  rfl
 ·rw [if_neg hjk, if_neg hjk, if_neg hjk]
end Go.Q
namespace Go.Proofs.Ytnhpcoagkmgdoaa
open Go.RowKit Go.Q Go.Shelf Go.Maps Go.Joins
set_option maxHeartbeats 4000000
set_option maxRecDepth 100000
theorem dumpNoticed_any (haw : AwakeT) (a : Option Addr) (n c bk x0 x1 x2 x3 : Nat) (ws : List Int) (w : World) (hn : ws.length = n) (hnb : n ≤ 9223372036854775807) (hI : IntsAt w a ws) (hb : bk < 256) (h0 : x0 < 256) (h1 : x1 < 256) (h2 : x2 < 256) (h3 : x3 < 256) :
  Calls Try.prog 7 #[.slice a n c, .int .u8 (bk : Int), .agg #[.int .u8 (x0 : Int), .int .u8 (x1 : Int), .int .u8 (x2 : Int), .int .u8 (x3 : Int)]] w fun e w' => e = .returned (.bool true) ∧ Ext w w' := by
 have p1 := fun W (E : Ext w W) => lpunch_of ltape_any a n c ws W hn hnb (hI.ext E)
 have E0 : Ext w (w.alloc (.cells #[.int .u8 (x0 : Int), .int .u8 (x1 : Int), .int .u8 (x2 : Int), .int .u8 (x3 : Int)] 49)) := (Ext.refl w).alloc _
 have hbx := heap_alloc_new w (.cells #[.int .u8 (x0 : Int), .int .u8 (x1 : Int), .int .u8 (x2 : Int), .int .u8 (x3 : Int)] 49)
 rcases punch_ways ws with ⟨er, hne, hp⟩ | ⟨hp, hw, hl⟩
 ·have e1 : (er != 0) = true := by simpa using hne
  rw [hp] at p1
  clear hp hne hbx
  go_enter Try.func7, Try.ntmps7
  go_wp2_with fail
  refine (p1 _ E0).mono ?_
  rintro e w1 ⟨a1, c1, rfl, hc1, B1, E1⟩
  dsimp only at hc1 B1 ⊢
  simp only [List.length_nil]
  go_wp2_with fail
  refine (haw _).mono ?_
  rintro e w7 ⟨rfl, E7⟩
  go_wp2_with fail
  go_ret
  exact ⟨rfl, E0.comp (E1.comp E7)⟩
 ·rw [hp] at p1
  have hbd := manyB_bd hl
  have htl := tape_len65 ws
  have hlt := tape_lt128 ws
  obtain ⟨m, hm⟩ : ∃ m, manyB ws = m := ⟨_, rfl⟩
  obtain ⟨k, hk⟩ : ∃ k, bk % m = k := ⟨_, rfl⟩
  have hkm : k < manyB ws := by rw [hm, ← hk]; exact Nat.mod_lt _ (by omega)
  obtain ⟨r, hr⟩ : ∃ r, x0 % 65 = r := ⟨_, rfl⟩
  obtain ⟨p, hpp⟩ : ∃ p, x1 % 7 = p := ⟨_, rfl⟩
  obtain ⟨r2, hr2⟩ : ∃ r2, x2 % 65 = r2 := ⟨_, rfl⟩
  obtain ⟨p2, hp2⟩ : ∃ p2, x3 % 7 = p2 := ⟨_, rfl⟩
  have hr65 : r < 65 := by omega
  have hp7 : p < 7 := by omega
  have hr265 : r2 < 65 := by omega
  have hp27 : p2 < 7 := by omega
  have htw := two_out (p := p) (p2 := p2) hkm hr65 hr265
  have HTW := Lib.hid (fun hne => read_two hl hkm hr65 hp7 hr265 hp27 hne)
  rw [← htw] at HTW
  rw [hm] at hbd htl hkm
  obtain ⟨tp, htp⟩ : ∃ tp, tapeW ws = tp := ⟨_, rfl⟩
  rw [htp] at p1 HTW htl hlt
  obtain ⟨nb, hnb2⟩ : ∃ nb, 65 * m = nb := ⟨_, rfl⟩
  rw [hnb2] at htl
  obtain ⟨z, hz⟩ : ∃ z, 65 * k = z := ⟨_, rfl⟩
  rw [hz] at HTW
  have hz65 : z + 65 ≤ nb := by omega
  have hnb24 : nb ≤ 2340 := by omega
  have u1 : Int.tdiv (nb : Int) 65 = (m : Int) := by rw [Int.tdiv_eq_ediv_of_nonneg (by omega)]; omega
  have u2 : (nb : Int) / 65 = (m : Int) := by omega
  have u3 : Int.tmod (bk : Int) (m : Int) = (k : Int) := by rw [Int.tmod_eq_emod_of_nonneg (by omega), ← hk]; exact (Int.natCast_emod bk m).symm
  have u4 : (bk : Int) % (m : Int) = (k : Int) := by rw [← hk]; exact (Int.natCast_emod bk m).symm
  have u5 : ((m : Int) == 0) = false := by simp; omega
  have u6 : IntKind.i64.wrap (bk : Int) = (bk : Int) := IntWalk.i64_in _ (by omega)
  have u7 : IntKind.i64.wrap (k : Int) = (k : Int) := IntWalk.i64_in _ (by omega)
  have u8' : ¬ (nb : Int) < 65 := by omega
  have v0 : IntKind.i64.wrap (x0 : Int) = (x0 : Int) := IntWalk.i64_in _ (by omega)
  have v1 : IntKind.i64.wrap (x1 : Int) = (x1 : Int) := IntWalk.i64_in _ (by omega)
  have v2 : IntKind.i64.wrap (x2 : Int) = (x2 : Int) := IntWalk.i64_in _ (by omega)
  have v3 : IntKind.i64.wrap (x3 : Int) = (x3 : Int) := IntWalk.i64_in _ (by omega)
  have t0 : Int.tmod (x0 : Int) 65 = (r : Int) := by rw [Int.tmod_eq_emod_of_nonneg (by omega)]; omega
  have t1 : Int.tmod (x1 : Int) 7 = (p : Int) := by rw [Int.tmod_eq_emod_of_nonneg (by omega)]; omega
  have t2 : Int.tmod (x2 : Int) 65 = (r2 : Int) := by rw [Int.tmod_eq_emod_of_nonneg (by omega)]; omega
  have t3 : Int.tmod (x3 : Int) 7 = (p2 : Int) := by rw [Int.tmod_eq_emod_of_nonneg (by omega)]; omega
  have s0 : (x0 : Int) % 65 = (r : Int) := by omega
  have s1 : (x1 : Int) % 7 = (p : Int) := by omega
  have s2 : (x2 : Int) % 65 = (r2 : Int) := by omega
  have s3 : (x3 : Int) % 7 = (p2 : Int) := by omega
  have HKM := Lib.hid (And.intro hkm (And.intro hz hnb2))
  have HLT := Lib.hid hlt
  have HTL := Lib.hid htl
  clear hp hw hl htw hm hk hr hpp hr2 hp2 htp hkm hnb2 hz hI hlt hn
  go_enter Try.func7, Try.ntmps7
  go_wp2_with fail
  refine (p1 _ E0).mono ?_
  rintro e X ⟨a1, c1, rfl, hc1, B1, E1⟩
  dsimp only at hc1 B1 ⊢
  rw [htl] at hc1 ⊢
  have hbx2 := (E1.block w.heap.size (by simp)).trans hbx
  have HQ := Lib.hid (fun Y (E : Ext X Y) => have gb := (E.block w.heap.size (lt_of_block hbx2)).trans hbx2; And.intro (blk_cell gb 0 rfl) (And.intro (blk_cell gb 1 rfl) (And.intro (blk_cell gb 2 rfl) (blk_cell gb 3 rfl))))
  have HE := Lib.hid (E0.comp E1)
  have HB := Lib.hid B1
  clear hbx hbx2 E0 E1 B1 p1 htl
  go_upto_region 5 with fail
  refine wp_region_Z (fun _ => false) (fun Y => Ext X Y) (by kernel_rfl) (Ext.refl X).drew fun hSX => ?_
  refine tk 0 ⟨_, _, _, _, _, _⟩ ?_ rfl (by kernel_rfl) (fun _ _ _ h => h) (Or.inl ⟨by rfl, ?_⟩) hSX ?_
  rotate_left
  ·intro wX hS
   obtain ⟨q0, q1, q2, q3⟩ := HQ.out wX hS
   go_simp
   (try with_reducible rfl)
  (try simp only [Act.put, List.setIfInBounds_toArray, List.set_cons_zero, List.set_cons_succ])
  refine tk 1 ⟨_, _, _, _, _, _⟩ ?_ rfl (by kernel_rfl) (fun _ _ _ h => h) (Or.inl ⟨by rfl, ?_⟩) hSX ?_
  rotate_left
  ·intro wX hS
   obtain ⟨q0, q1, q2, q3⟩ := HQ.out wX hS
   go_simp
   (try with_reducible rfl)
  (try simp only [Act.put, List.setIfInBounds_toArray, List.set_cons_zero, List.set_cons_succ])
  refine tk 2 ⟨_, _, _, _, _, _⟩ ?_ rfl (by kernel_rfl) (fun _ _ _ h => h) (Or.inl ⟨by rfl, ?_⟩) hSX ?_
  rotate_left
  ·intro wX hS
   obtain ⟨q0, q1, q2, q3⟩ := HQ.out wX hS
   go_simp
   (try with_reducible rfl)
  (try simp only [Act.put, List.setIfInBounds_toArray, List.set_cons_zero, List.set_cons_succ])
  refine tk 3 ⟨_, _, _, _, _, _⟩ ?_ rfl (by kernel_rfl) (fun _ _ _ h => h) (Or.inl ⟨by rfl, ?_⟩) hSX ?_
  rotate_left
  ·intro wX hS
   obtain ⟨q0, q1, q2, q3⟩ := HQ.out wX hS
   go_simp
   (try with_reducible rfl)
  (try simp only [Act.put, List.setIfInBounds_toArray, List.set_cons_zero, List.set_cons_succ])
  refine tk 4 ⟨_, _, _, _, _, _⟩ ?_ rfl (by kernel_rfl) (fun _ _ _ h => h) (Or.inl ⟨by rfl, ?_⟩) hSX ?_
  rotate_left
  ·intro wX hS
   obtain ⟨q0, q1, q2, q3⟩ := HQ.out wX hS
   go_simp
   (try with_reducible rfl)
  (try simp only [Act.put, List.setIfInBounds_toArray, List.set_cons_zero, List.set_cons_succ])
  refine tk 5 ⟨_, _, _, _, _, _⟩ ?_ rfl (by kernel_rfl) (fun _ _ _ h => h) (Or.inl ⟨by rfl, ?_⟩) hSX ?_
  rotate_left
  ·intro wX hS
   obtain ⟨q0, q1, q2, q3⟩ := HQ.out wX hS
   go_simp
   (try with_reducible rfl)
  (try simp only [Act.put, List.setIfInBounds_toArray, List.set_cons_zero, List.set_cons_succ])
  refine tk 6 ⟨_, _, _, _, _, _⟩ ?_ rfl (by kernel_rfl) (fun _ _ _ h => h) (Or.inl ⟨by rfl, ?_⟩) hSX ?_
  rotate_left
  ·intro wX hS
   obtain ⟨q0, q1, q2, q3⟩ := HQ.out wX hS
   go_simp
   (try with_reducible rfl)
  (try simp only [Act.put, List.setIfInBounds_toArray, List.set_cons_zero, List.set_cons_succ])
  refine tk 7 ⟨_, _, _, _, _, _⟩ ?_ rfl (by kernel_rfl) (fun _ _ _ h => h) (Or.inl ⟨by rfl, ?_⟩) hSX ?_
  rotate_left
  ·intro wX hS
   obtain ⟨q0, q1, q2, q3⟩ := HQ.out wX hS
   go_simp
   (try with_reducible rfl)
  (try simp only [Act.put, List.setIfInBounds_toArray, List.set_cons_zero, List.set_cons_succ])
  refine tk 8 ⟨_, _, _, _, _, _⟩ ?_ rfl (by kernel_rfl) (fun _ _ _ h => h) (Or.inl ⟨by rfl, ?_⟩) hSX ?_
  rotate_left
  ·intro wX hS
   obtain ⟨q0, q1, q2, q3⟩ := HQ.out wX hS
   go_simp
   (try with_reducible rfl)
  (try simp only [Act.put, List.setIfInBounds_toArray, List.set_cons_zero, List.set_cons_succ])
  refine tk 9 ⟨_, _, _, _, _, _⟩ ?_ rfl (by kernel_rfl) (fun _ _ _ h => h) (Or.inl ⟨by rfl, ?_⟩) hSX ?_
  rotate_left
  ·intro wX hS
   obtain ⟨q0, q1, q2, q3⟩ := HQ.out wX hS
   go_simp
   (try with_reducible rfl)
  (try simp only [Act.put, List.setIfInBounds_toArray, List.set_cons_zero, List.set_cons_succ])
  refine tk 10 ⟨_, _, _, _, _, _⟩ ?_ rfl (by kernel_rfl) (fun _ _ _ h => h) (Or.inl ⟨by rfl, ?_⟩) hSX ?_
  rotate_left
  ·intro wX hS
   obtain ⟨q0, q1, q2, q3⟩ := HQ.out wX hS
   go_simp
   (try with_reducible rfl)
  (try simp only [Act.put, List.setIfInBounds_toArray, List.set_cons_zero, List.set_cons_succ])
  refine tk 11 ⟨_, _, _, _, _, _⟩ ?_ rfl (by kernel_rfl) (fun _ _ _ h => h) (Or.inl ⟨by rfl, ?_⟩) hSX ?_
  rotate_left
  ·intro wX hS
   obtain ⟨q0, q1, q2, q3⟩ := HQ.out wX hS
   go_simp
   (try with_reducible rfl)
  (try simp only [Act.put, List.setIfInBounds_toArray, List.set_cons_zero, List.set_cons_succ])
  refine wpAnyZ_done (by kernel_rfl) ?_ _
  obtain ⟨X1, hX1⟩ : ∃ X1, X.drew = X1 := ⟨_, rfl⟩
  have FX1 : Ext X X1 := by rw [← hX1]; exact (Ext.refl X).drew
  rw [hX1]
  clear hX1 t0 t2 hSX
  go_upto_region 6 with fail
  refine wp_region_Z (fun _ => false) (fun Y => Ext X1 Y) (by kernel_rfl) (Ext.refl X1).drew fun hSX => ?_
  refine tk 0 ⟨_, _, _, _, _, _⟩ ?_ rfl (by kernel_rfl) (fun _ _ _ h => h) (Or.inl ⟨by rfl, ?_⟩) hSX ?_
  rotate_left
  ·intro wX hS
   obtain ⟨q0, q1, q2, q3⟩ := HQ.out wX (FX1.comp hS)
   go_simp
   (try with_reducible rfl)
  (try simp only [Act.put, List.setIfInBounds_toArray, List.set_cons_zero, List.set_cons_succ])
  refine tk 1 ⟨_, _, _, _, _, _⟩ ?_ rfl (by kernel_rfl) (fun _ _ _ h => h) (Or.inl ⟨by rfl, ?_⟩) hSX ?_
  rotate_left
  ·intro wX hS
   obtain ⟨q0, q1, q2, q3⟩ := HQ.out wX (FX1.comp hS)
   go_simp
   (try with_reducible rfl)
  (try simp only [Act.put, List.setIfInBounds_toArray, List.set_cons_zero, List.set_cons_succ])
  refine tk 2 ⟨_, _, _, _, _, _⟩ ?_ rfl (by kernel_rfl) (fun _ _ _ h => h) (Or.inl ⟨by rfl, ?_⟩) hSX ?_
  rotate_left
  ·intro wX hS
   obtain ⟨q0, q1, q2, q3⟩ := HQ.out wX (FX1.comp hS)
   go_simp
   (try with_reducible rfl)
  (try simp only [Act.put, List.setIfInBounds_toArray, List.set_cons_zero, List.set_cons_succ])
  refine tk 3 ⟨_, _, _, _, _, _⟩ ?_ rfl (by kernel_rfl) (fun _ _ _ h => h) (Or.inl ⟨by rfl, ?_⟩) hSX ?_
  rotate_left
  ·intro wX hS
   obtain ⟨q0, q1, q2, q3⟩ := HQ.out wX (FX1.comp hS)
   go_simp
   (try with_reducible rfl)
  (try simp only [Act.put, List.setIfInBounds_toArray, List.set_cons_zero, List.set_cons_succ])
  refine tk 4 ⟨_, _, _, _, _, _⟩ ?_ rfl (by kernel_rfl) (fun _ _ _ h => h) (Or.inl ⟨by rfl, ?_⟩) hSX ?_
  rotate_left
  ·intro wX hS
   obtain ⟨q0, q1, q2, q3⟩ := HQ.out wX (FX1.comp hS)
   go_simp
   (try with_reducible rfl)
  (try simp only [Act.put, List.setIfInBounds_toArray, List.set_cons_zero, List.set_cons_succ])
  refine tk 5 ⟨_, _, _, _, _, _⟩ ?_ rfl (by kernel_rfl) (fun _ _ _ h => h) (Or.inl ⟨by rfl, ?_⟩) hSX ?_
  rotate_left
  ·intro wX hS
   obtain ⟨q0, q1, q2, q3⟩ := HQ.out wX (FX1.comp hS)
   go_simp
   (try with_reducible rfl)
  (try simp only [Act.put, List.setIfInBounds_toArray, List.set_cons_zero, List.set_cons_succ])
  refine tk 6 ⟨_, _, _, _, _, _⟩ ?_ rfl (by kernel_rfl) (fun _ _ _ h => h) (Or.inl ⟨by rfl, ?_⟩) hSX ?_
  rotate_left
  ·intro wX hS
   obtain ⟨q0, q1, q2, q3⟩ := HQ.out wX (FX1.comp hS)
   go_simp
   (try with_reducible rfl)
  (try simp only [Act.put, List.setIfInBounds_toArray, List.set_cons_zero, List.set_cons_succ])
  refine tk 7 ⟨_, _, _, _, _, _⟩ ?_ rfl (by kernel_rfl) (fun _ _ _ h => h) (Or.inl ⟨by rfl, ?_⟩) hSX ?_
  rotate_left
  ·intro wX hS
   obtain ⟨q0, q1, q2, q3⟩ := HQ.out wX (FX1.comp hS)
   go_simp
   (try with_reducible rfl)
  (try simp only [Act.put, List.setIfInBounds_toArray, List.set_cons_zero, List.set_cons_succ])
  refine tk 8 ⟨_, _, _, _, _, _⟩ ?_ rfl (by kernel_rfl) (fun _ _ _ h => h) (Or.inl ⟨by rfl, ?_⟩) hSX ?_
  rotate_left
  ·intro wX hS
   obtain ⟨q0, q1, q2, q3⟩ := HQ.out wX (FX1.comp hS)
   go_simp
   (try with_reducible rfl)
  (try simp only [Act.put, List.setIfInBounds_toArray, List.set_cons_zero, List.set_cons_succ])
  refine tk 9 ⟨_, _, _, _, _, _⟩ ?_ rfl (by kernel_rfl) (fun _ _ _ h => h) (Or.inl ⟨by rfl, ?_⟩) hSX ?_
  rotate_left
  ·intro wX hS
   obtain ⟨q0, q1, q2, q3⟩ := HQ.out wX (FX1.comp hS)
   go_simp
   (try with_reducible rfl)
  (try simp only [Act.put, List.setIfInBounds_toArray, List.set_cons_zero, List.set_cons_succ])
  refine tk 10 ⟨_, _, _, _, _, _⟩ ?_ rfl (by kernel_rfl) (fun _ _ _ h => h) (Or.inl ⟨by rfl, ?_⟩) hSX ?_
  rotate_left
  ·intro wX hS
   obtain ⟨q0, q1, q2, q3⟩ := HQ.out wX (FX1.comp hS)
   go_simp
   (try with_reducible rfl)
  (try simp only [Act.put, List.setIfInBounds_toArray, List.set_cons_zero, List.set_cons_succ])
  refine tk 11 ⟨_, _, _, _, _, _⟩ ?_ rfl (by kernel_rfl) (fun _ _ _ h => h) (Or.inl ⟨by rfl, ?_⟩) hSX ?_
  rotate_left
  ·intro wX hS
   obtain ⟨q0, q1, q2, q3⟩ := HQ.out wX (FX1.comp hS)
   go_simp
   (try with_reducible rfl)
  (try simp only [Act.put, List.setIfInBounds_toArray, List.set_cons_zero, List.set_cons_succ])
  refine wpAnyZ_done (by kernel_rfl) ?_ _
  obtain ⟨X2, hX2⟩ : ∃ X2, X1.drew = X2 := ⟨_, rfl⟩
  have FX2 : Ext X X2 := by rw [← hX2]; exact FX1.comp (Ext.refl X1).drew
  rw [hX2]
  clear hX2 FX1 t1 t3 hSX HQ s0 s1 s2 s3 v0 v1 v2 v3 u1 u2 u3 u4 u5 u6
  by_cases hsame : r = r2 ∧ p = p2
  ·have e1 : ((r : Int) == (r2 : Int)) = true := by simp; omega
   have e2 : ((p : Int) == (p2 : Int)) = true := by simp; omega
   clear hsame
   go_wp2_with fail
   refine (haw _).mono ?_
   rintro e w7 ⟨rfl, E7⟩
   go_wp2_with fail
   go_ret
   exact ⟨rfl, HE.out.comp (FX2.comp E7)⟩
  ·replace HTW := Lib.hid (HTW.out hsame)
   have HR : Hid (((r : Int) == (r2 : Int)) = false ∨ (((r : Int) == (r2 : Int)) = true ∧ ((p : Int) == (p2 : Int)) = false)) := Lib.hid (by
    by_cases h : r = r2
    ·refine .inr ⟨by simp; omega, ?_⟩
     have : p ≠ p2 := fun e => hsame ⟨h, e⟩
     simp; omega
    ·exact .inl (by simp; omega))
   clear hsame
   obtain ⟨i1, hi1, hy0, hy1, hy2⟩ := info_parts Try.infoU
   have z1 : (k : Int) * 65 = (z : Int) := by have := HKM.out; omega
   have z2 : IntKind.i64.wrap (65 * (k : Int)) = (z : Int) := by rw [show 65 * (k : Int) = (z : Int) by omega]; exact IntWalk.i64_in _ (by omega)
   have z3 : IntKind.i64.wrap ((k : Int) * 65) = (z : Int) := by rw [z1]; exact IntWalk.i64_in _ (by omega)
   obtain ⟨q, hq⟩ : ∃ q, z + r = q := ⟨_, rfl⟩
   obtain ⟨q2, hq2⟩ : ∃ q2, z + r2 = q2 := ⟨_, rfl⟩
   have z4 : IntKind.i64.wrap ((z : Int) + (r : Int)) = (q : Int) := by rw [show (z : Int) + (r : Int) = (q : Int) by omega]; exact IntWalk.i64_in _ (by omega)
   have z5 : IntKind.i64.wrap ((z : Int) + (r2 : Int)) = (q2 : Int) := by rw [show (z : Int) + (r2 : Int) = (q2 : Int) by omega]; exact IntWalk.i64_in _ (by omega)
   have hq0 : (0 : Int) ≤ (q : Int) := by omega
   have hq1 : (q : Int) < (nb : Int) := by omega
   have hq20 : (0 : Int) ≤ (q2 : Int) := by omega
   have hq21 : (q2 : Int) < (nb : Int) := by omega
   rw [hq, hq2] at HTW
   have hxl : (natI tp).length = nb := by rw [natI_length]; exact HTL.out
   have hy128 := get_lt HLT.out (by decide) q
   obtain ⟨y, hye⟩ : ∃ y, tp[q]?.getD 0 = y := ⟨_, rfl⟩
   rw [hye] at hy128 HTW
   have HYE := Lib.hid hye
   have hfl := fun W => rflip_any y p W hy128 hp7
   have hP128 : y ^^^ 2 ^ p < 128 := by
    have : y ^^^ 2 ^ p < 2 ^ 7 := Nat.xor_lt_two_pow hy128 (Nat.pow_lt_pow_right (by decide) hp7)
    exact this
   obtain ⟨P, hP⟩ : ∃ P, y ^^^ 2 ^ p = P := ⟨_, rfl⟩
   rw [hP] at hfl HTW hP128
   have hlt1 : ∀ r ∈ tp.set q P, r < 128 := fun r hr => by
    rcases List.mem_or_eq_of_mem_set hr with h | rfl
    ·exact HLT.out r h
    ·exact hP128
   have hy2128 := get_lt hlt1 (by decide) q2
   obtain ⟨y2, hye2⟩ : ∃ y2, (tp.set q P)[q2]?.getD 0 = y2 := ⟨_, rfl⟩
   rw [hye2] at hy2128 HTW
   have HYE2 := Lib.hid hye2
   have hfl2 := fun W => rflip_any y2 p2 W hy2128 hp27
   have hP2128 : y2 ^^^ 2 ^ p2 < 128 := by
    have : y2 ^^^ 2 ^ p2 < 2 ^ 7 := Nat.xor_lt_two_pow hy2128 (Nat.pow_lt_pow_right (by decide) hp27)
    exact this
   obtain ⟨P2, hP2⟩ : ∃ P2, y2 ^^^ 2 ^ p2 = P2 := ⟨_, rfl⟩
   rw [hP2] at hfl2 HTW hP2128
   have HLT2 := Lib.hid (show ∀ r ∈ (tp.set q P).set q2 P2, r < 256 from fun r hr => by
    rcases List.mem_or_eq_of_mem_set hr with h | rfl
    ·exact Nat.lt_trans (hlt1 r h) (by decide)
    ·exact Nat.lt_trans hP2128 (by decide))
   clear hye hP hye2 hP2 hq hq2 hlt1 z1 HLT hP128 hP2128 hy128 hy2128
   have hcz : (k : Int) = (k : Int) := rfl
   rcases HR.out with e1 | ⟨e1, e2⟩
   all_goals
    clear HR
    go_wp2_with (at_builtin; refine wpList_app (w0 := X2) rfl _ _ 23 rfl 5 i1 (.int .u8 0) 1 1 Try.underlying23 hi1 hy0 hy1 hy2 rfl (by decide) _ 0 X2.heap.size [] rfl (own_empty (Ext.refl _)) ((Ext.refl X2).alloc _) (Nat.le_refl _) (by simp) _ nb c1 (ub (natI tp)) rfl ?c1 ?c2 (ub_one _) (by unfold maxLen; omega) (by omega) ?_)
    case c1 => rw [ub_length, hxl]
    case c2 => exact from_bytes ((HB.out.ext FX2).ext ((Ext.refl X2).alloc _))
    intro a2 c2 X3 hown1 hE1 _
    replace hown1 : X3.ownsRow X2.heap.size 5 1 (.slice a2 nb c2) nb (ub (natI tp)) := by simpa using hown1
    obtain ⟨g, sc, hg⟩ := ownsRow_form hown1 (by omega)
    obtain ⟨rfl, -, rfl⟩ := Value.slice.inj hg
    clear hg
    have hcap := own_cap hown1
    have hgl := hown1.lt g rfl
    have cc := own_cellU hown1 q (by omega)
    rw [natI_get, HYE.out] at cc
    have ff := hown1.frozenAt q
    have hown2 := own_setU hown1 q (P : Int)
    have EX3 : Ext X2 (X3.setCell ⟨g, q, none⟩ (.int .u8 (P : Int))) := hE1.setCell (p := ⟨g, q, none⟩) hgl.1 _
    rw [← natI_set] at hown2
    have hol2 : (natI (tp.set q P)).length = nb := by rw [natI_length, List.length_set]; exact HTL.out
    (try go_frame)
    go_upto_region 11 with (go_at_call 30; refine (hfl _).mono ?_; rintro e y1 ⟨rfl, rfl⟩)
    obtain ⟨X4, hX4⟩ : ∃ X4, y1.setCell ⟨g, q, none⟩ (.int .u8 (P : Int)) = X4 := ⟨_, rfl⟩
    rw [hX4] at hown2 EX3 ⊢
    have hgl4 := hown2.lt g rfl
    have cc2 := own_cellU hown2 q2 (by omega)
    rw [natI_get, HYE2.out] at cc2
    have ff2 := hown2.frozenAt q2
    have hown3 := own_setU hown2 q2 (P2 : Int)
    have EX4 : Ext X2 (X4.setCell ⟨g, q2, none⟩ (.int .u8 (P2 : Int))) := EX3.setCell (p := ⟨g, q2, none⟩) hgl.1 _
    rw [← natI_set] at hown3
    clear hX4 cc ff hown1 hown2 EX3 hE1
    go_upto_region 12 with (go_at_call 30; refine (hfl2 _).mono ?_; rintro e y2 ⟨rfl, rfl⟩)
    obtain ⟨X5, hX5⟩ : ∃ X5, y2.setCell ⟨g, q2, none⟩ (.int .u8 (P2 : Int)) = X5 := ⟨_, rfl⟩
    rw [hX5] at hown3 EX4 ⊢
    have hB5 := own_bytes hown3
    clear hX5 cc2 ff2 hown3 hfl hfl2
    have hrd := lread_any (some ⟨g, 0, none⟩) nb c2 _ X5 (by rw [List.length_set, List.length_set]; exact HTL.out) hcap hB5 HLT2.out
    rw [HTW.out] at hrd
    go_wp2_with fail
    refine hrd.mono ?_
    rintro e X6 ⟨a5, c5, a6, c6, rfl, _, _, _, _, E6⟩
    dsimp only
    simp only [List.length_nil]
    go_wp2_with fail
    refine (haw _).mono ?_
    rintro e w8 ⟨rfl, E8⟩
    go_wp2_with fail
    go_ret
    exact ⟨rfl, HE.out.comp (FX2.comp (EX4.comp (E6.comp E8)))⟩
end Go.Proofs.Ytnhpcoagkmgdoaa

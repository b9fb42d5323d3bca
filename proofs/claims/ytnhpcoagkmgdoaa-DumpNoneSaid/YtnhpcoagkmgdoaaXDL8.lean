import Derived.Deep.DeepCutAuto
import Derived.Test.YtnhpcoagkmgdoaaXDL4
import Derived.Test.YtnhpcoagkmgdoaaXFrame10
import Derived.Test.YtnhpcoagkmgdoaaX6
import Derived.Test.YtnhpcoagkmgdoaaX20
set_option linter.unusedVariables false
set_option linter.unusedSimpArgs false
/- The laws' helpers apart and begins. -/
namespace Go.Proofs.Ytnhpcoagkmgdoaa
open Go.RowKit Go.Q Go.Shelf Go.Maps Go.Joins
set_option maxHeartbeats 4000000
set_option maxRecDepth 100000
def ApRes (L : List Loss) (w : World) (e : Ending) (w' : World) : Prop := ∃ b, e = .returned (.bool b) ∧ (b = true → apartL L) ∧ Ext w w'
theorem apart_any (a : Option Addr) (n c : Nat) (L : List Loss) (w : World) (hn : L.length = n) (hnb : n ≤ 9223372036854775807) (hI : LossAt w a L) :
  Calls Try.prog 32 #[.slice a n c] w (ApRes L w) := by
 have HI := Lib.hid hI
 have HN := Lib.hid hn
 clear hI hn
 go_enter Try.func32, Try.ntmps32
 go_wp2
 go_loopw [3] (fun s3 wr => ∃ i : Nat, i ≤ n ∧ s3 = .int .i64 (i : Int) ∧ Hid (∀ q, q < i → ∀ p, p < q → (L[p]?.getD ⟨0, 0, 0⟩).addr ≠ (L[q]?.getD ⟨0, 0, 0⟩).addr) ∧ Ext w wr) (fun s3 _ => n - (Go.RowKit.intOf s3).toNat)
 case atStart => exact ⟨0, Nat.zero_le _, rfl, Lib.hid (fun q hq => absurd hq (Nat.not_lt_zero _)), Ext.refl _⟩
 case round =>
  obtain ⟨i, hi, rfl, HA, EX⟩ := hrel
  by_cases hlt : i < n
  ·have hltz : (i : Int) < (n : Int) := by omega
   have hi0 : (0 : Int) ≤ (i : Int) := by omega
   obtain ⟨b, off, rfl, hb, hc⟩ : ∃ b off, a = some ⟨b, off, none⟩ ∧ b < w.heap.size ∧ ∀ i, i < n → w.cell? ⟨b, off + i * 3 + 1, none⟩ = some (.int .i64 (L[i]?.getD ⟨0, 0, 0⟩).addr) := by
    rcases HI.out with h | ⟨b, off, ha, hb, hc⟩
    ·rw [h] at HN; have := HN.out; simp at this; omega
    ·exact ⟨b, off, ha, hb, fun i hi => (hc i (by rw [HN.out]; exact hi)).2.1⟩
   have HC := Lib.hid (And.intro hb hc)
   have HLT := Lib.hid hlt
   obtain ⟨X, hX⟩ : ∃ X, wr = X := ⟨_, rfl⟩
   rw [hX] at EX ⊢
   clear hc hX hlt
   go_wp2
   go_loopw [4] (fun s4 wq => ∃ k : Nat, k ≤ i ∧ s4 = .int .i64 (k : Int) ∧ Hid (∀ p, p < k → (L[p]?.getD ⟨0, 0, 0⟩).addr ≠ (L[i]?.getD ⟨0, 0, 0⟩).addr) ∧ Ext w wq) (fun s4 _ => i - (Go.RowKit.intOf s4).toNat)
   case atStart => exact ⟨0, Nat.zero_le _, rfl, Lib.hid (fun q hq => absurd hq (Nat.not_lt_zero _)), EX⟩
   case round =>
    obtain ⟨k, hk, rfl, HB, EY⟩ := hrel
    by_cases hkl : k < i
    ·have hklz : (k : Int) < (i : Int) := by omega
     have hk0 : (0 : Int) ≤ (k : Int) := by omega
     have hkn : (k : Int) < (n : Int) := by have := HLT.out; omega
     obtain ⟨x, hx⟩ : ∃ x, (L[i]?.getD ⟨0, 0, 0⟩).addr = x := ⟨_, rfl⟩
     obtain ⟨y, hy⟩ : ∃ y, (L[k]?.getD ⟨0, 0, 0⟩).addr = y := ⟨_, rfl⟩
     have c1 := HC.out.2 i HLT.out
     have c2 := HC.out.2 k (by have := HLT.out; omega)
     rw [hx] at c1
     rw [hy] at c2
     have HQ := Lib.hid (fun Y (E : Ext wr Y) => And.intro (((EY.comp E).cell (p := ⟨b, off + i * 3 + 1, none⟩) HC.out.1).trans c1) (((EY.comp E).cell (p := ⟨b, off + k * 3 + 1, none⟩) HC.out.1).trans c2))
     have HX := Lib.hid hx
     have HY := Lib.hid hy
     clear c1 c2 hx hy
     by_cases hxy : x = y
     ·have e1 : (x == y) = true := by simpa using hxy
      clear hxy
      go_upto_region 7 with fail
      refine wp_region_Z (fun _ => false) (fun Y => Ext wr Y) (by kernel_rfl) (Ext.refl wr).drew fun hSX => ?_
      refine tk 0 ⟨_, _, _, _, _, _⟩ ?_ rfl (by kernel_rfl) (fun _ _ _ h => h) (Or.inl ⟨by rfl, ?_⟩) hSX ?_
      rotate_left
      ·intro wX hS
       obtain ⟨q0, q1⟩ := HQ.out wX hS
       go_simp
       (try with_reducible rfl)
      (try simp only [Act.put, List.setIfInBounds_toArray, List.set_cons_zero, List.set_cons_succ])
      refine tk 1 ⟨_, _, _, _, _, _⟩ ?_ rfl (by kernel_rfl) (fun _ _ _ h => h) (Or.inl ⟨by rfl, ?_⟩) hSX ?_
      rotate_left
      ·intro wX hS
       obtain ⟨q0, q1⟩ := HQ.out wX hS
       go_simp
       (try with_reducible rfl)
      (try simp only [Act.put, List.setIfInBounds_toArray, List.set_cons_zero, List.set_cons_succ])
      refine tk 2 ⟨_, _, _, _, _, _⟩ ?_ rfl (by kernel_rfl) (fun _ _ _ h => h) (Or.inl ⟨by rfl, ?_⟩) hSX ?_
      rotate_left
      ·intro wX hS
       obtain ⟨q0, q1⟩ := HQ.out wX hS
       go_simp
       (try with_reducible rfl)
      (try simp only [Act.put, List.setIfInBounds_toArray, List.set_cons_zero, List.set_cons_succ])
      refine tk 3 ⟨_, _, _, _, _, _⟩ ?_ rfl (by kernel_rfl) (fun _ _ _ h => h) (Or.inl ⟨by rfl, ?_⟩) hSX ?_
      rotate_left
      ·intro wX hS
       obtain ⟨q0, q1⟩ := HQ.out wX hS
       go_simp
       (try with_reducible rfl)
      (try simp only [Act.put, List.setIfInBounds_toArray, List.set_cons_zero, List.set_cons_succ])
      refine tk 4 ⟨_, _, _, _, _, _⟩ ?_ rfl (by kernel_rfl) (fun _ _ _ h => h) (Or.inl ⟨by rfl, ?_⟩) hSX ?_
      rotate_left
      ·intro wX hS
       obtain ⟨q0, q1⟩ := HQ.out wX hS
       go_simp
       (try with_reducible rfl)
      (try simp only [Act.put, List.setIfInBounds_toArray, List.set_cons_zero, List.set_cons_succ])
      refine tk 5 ⟨_, _, _, _, _, _⟩ ?_ rfl (by kernel_rfl) (fun _ _ _ h => h) (Or.inl ⟨by rfl, ?_⟩) hSX ?_
      rotate_left
      ·intro wX hS
       obtain ⟨q0, q1⟩ := HQ.out wX hS
       go_simp
       (try with_reducible rfl)
      (try simp only [Act.put, List.setIfInBounds_toArray, List.set_cons_zero, List.set_cons_succ])
      refine tk 6 ⟨_, _, _, _, _, _⟩ ?_ rfl (by kernel_rfl) (fun _ _ _ h => h) (Or.inl ⟨by rfl, ?_⟩) hSX ?_
      rotate_left
      ·intro wX hS
       obtain ⟨q0, q1⟩ := HQ.out wX hS
       go_simp
       (try with_reducible rfl)
      (try simp only [Act.put, List.setIfInBounds_toArray, List.set_cons_zero, List.set_cons_succ])
      refine tk 7 ⟨_, _, _, _, _, _⟩ ?_ rfl (by kernel_rfl) (fun _ _ _ h => h) (Or.inl ⟨by rfl, ?_⟩) hSX ?_
      rotate_left
      ·intro wX hS
       obtain ⟨q0, q1⟩ := HQ.out wX hS
       go_simp
       (try with_reducible rfl)
      (try simp only [Act.put, List.setIfInBounds_toArray, List.set_cons_zero, List.set_cons_succ])
      refine tk 8 ⟨_, _, _, _, _, _⟩ ?_ rfl (by kernel_rfl) (fun _ _ _ h => h) (Or.inl ⟨by rfl, ?_⟩) hSX ?_
      rotate_left
      ·intro wX hS
       obtain ⟨q0, q1⟩ := HQ.out wX hS
       go_simp
       (try with_reducible rfl)
      (try simp only [Act.put, List.setIfInBounds_toArray, List.set_cons_zero, List.set_cons_succ])
      refine tk 9 ⟨_, _, _, _, _, _⟩ ?_ rfl (by kernel_rfl) (fun _ _ _ h => h) (Or.inl ⟨by rfl, ?_⟩) hSX ?_
      rotate_left
      ·intro wX hS
       obtain ⟨q0, q1⟩ := HQ.out wX hS
       go_simp
       (try with_reducible rfl)
      (try simp only [Act.put, List.setIfInBounds_toArray, List.set_cons_zero, List.set_cons_succ])
      refine tk 10 ⟨_, _, _, _, _, _⟩ ?_ rfl (by kernel_rfl) (fun _ _ _ h => h) (Or.inl ⟨by rfl, ?_⟩) hSX ?_
      rotate_left
      ·intro wX hS
       obtain ⟨q0, q1⟩ := HQ.out wX hS
       go_simp
       (try with_reducible rfl)
      (try simp only [Act.put, List.setIfInBounds_toArray, List.set_cons_zero, List.set_cons_succ])
      refine wpAnyZ_done (by kernel_rfl) ?_ _
      go_wp2
      exact bodyPost_ret (v := .bool false) (by simp [results, Try.results32, go_sem]) rfl ⟨false, rfl, (fun h => by cases h), EY.drew⟩
     ·have e1 : (x == y) = false := by simpa using hxy
      have HB2 : Hid (∀ p, p < k + 1 → (L[p]?.getD ⟨0, 0, 0⟩).addr ≠ (L[i]?.getD ⟨0, 0, 0⟩).addr) := Lib.hid (fun p hp => by
       by_cases h : p = k
       ·rw [h, HX.out, HY.out]; exact fun e => hxy e.symm
       ·exact HB.out p (by omega))
      clear hxy HB
      go_upto_region 7 with fail
      refine wp_region_Z (fun _ => false) (fun Y => Ext wr Y) (by kernel_rfl) (Ext.refl wr).drew fun hSX => ?_
      refine tk 0 ⟨_, _, _, _, _, _⟩ ?_ rfl (by kernel_rfl) (fun _ _ _ h => h) (Or.inl ⟨by rfl, ?_⟩) hSX ?_
      rotate_left
      ·intro wX hS
       obtain ⟨q0, q1⟩ := HQ.out wX hS
       go_simp
       (try with_reducible rfl)
      (try simp only [Act.put, List.setIfInBounds_toArray, List.set_cons_zero, List.set_cons_succ])
      refine tk 1 ⟨_, _, _, _, _, _⟩ ?_ rfl (by kernel_rfl) (fun _ _ _ h => h) (Or.inl ⟨by rfl, ?_⟩) hSX ?_
      rotate_left
      ·intro wX hS
       obtain ⟨q0, q1⟩ := HQ.out wX hS
       go_simp
       (try with_reducible rfl)
      (try simp only [Act.put, List.setIfInBounds_toArray, List.set_cons_zero, List.set_cons_succ])
      refine tk 2 ⟨_, _, _, _, _, _⟩ ?_ rfl (by kernel_rfl) (fun _ _ _ h => h) (Or.inl ⟨by rfl, ?_⟩) hSX ?_
      rotate_left
      ·intro wX hS
       obtain ⟨q0, q1⟩ := HQ.out wX hS
       go_simp
       (try with_reducible rfl)
      (try simp only [Act.put, List.setIfInBounds_toArray, List.set_cons_zero, List.set_cons_succ])
      refine tk 3 ⟨_, _, _, _, _, _⟩ ?_ rfl (by kernel_rfl) (fun _ _ _ h => h) (Or.inl ⟨by rfl, ?_⟩) hSX ?_
      rotate_left
      ·intro wX hS
       obtain ⟨q0, q1⟩ := HQ.out wX hS
       go_simp
       (try with_reducible rfl)
      (try simp only [Act.put, List.setIfInBounds_toArray, List.set_cons_zero, List.set_cons_succ])
      refine tk 4 ⟨_, _, _, _, _, _⟩ ?_ rfl (by kernel_rfl) (fun _ _ _ h => h) (Or.inl ⟨by rfl, ?_⟩) hSX ?_
      rotate_left
      ·intro wX hS
       obtain ⟨q0, q1⟩ := HQ.out wX hS
       go_simp
       (try with_reducible rfl)
      (try simp only [Act.put, List.setIfInBounds_toArray, List.set_cons_zero, List.set_cons_succ])
      refine tk 5 ⟨_, _, _, _, _, _⟩ ?_ rfl (by kernel_rfl) (fun _ _ _ h => h) (Or.inl ⟨by rfl, ?_⟩) hSX ?_
      rotate_left
      ·intro wX hS
       obtain ⟨q0, q1⟩ := HQ.out wX hS
       go_simp
       (try with_reducible rfl)
      (try simp only [Act.put, List.setIfInBounds_toArray, List.set_cons_zero, List.set_cons_succ])
      refine tk 6 ⟨_, _, _, _, _, _⟩ ?_ rfl (by kernel_rfl) (fun _ _ _ h => h) (Or.inl ⟨by rfl, ?_⟩) hSX ?_
      rotate_left
      ·intro wX hS
       obtain ⟨q0, q1⟩ := HQ.out wX hS
       go_simp
       (try with_reducible rfl)
      (try simp only [Act.put, List.setIfInBounds_toArray, List.set_cons_zero, List.set_cons_succ])
      refine tk 7 ⟨_, _, _, _, _, _⟩ ?_ rfl (by kernel_rfl) (fun _ _ _ h => h) (Or.inl ⟨by rfl, ?_⟩) hSX ?_
      rotate_left
      ·intro wX hS
       obtain ⟨q0, q1⟩ := HQ.out wX hS
       go_simp
       (try with_reducible rfl)
      (try simp only [Act.put, List.setIfInBounds_toArray, List.set_cons_zero, List.set_cons_succ])
      refine tk 8 ⟨_, _, _, _, _, _⟩ ?_ rfl (by kernel_rfl) (fun _ _ _ h => h) (Or.inl ⟨by rfl, ?_⟩) hSX ?_
      rotate_left
      ·intro wX hS
       obtain ⟨q0, q1⟩ := HQ.out wX hS
       go_simp
       (try with_reducible rfl)
      (try simp only [Act.put, List.setIfInBounds_toArray, List.set_cons_zero, List.set_cons_succ])
      refine tk 9 ⟨_, _, _, _, _, _⟩ ?_ rfl (by kernel_rfl) (fun _ _ _ h => h) (Or.inl ⟨by rfl, ?_⟩) hSX ?_
      rotate_left
      ·intro wX hS
       obtain ⟨q0, q1⟩ := HQ.out wX hS
       go_simp
       (try with_reducible rfl)
      (try simp only [Act.put, List.setIfInBounds_toArray, List.set_cons_zero, List.set_cons_succ])
      refine tk 10 ⟨_, _, _, _, _, _⟩ ?_ rfl (by kernel_rfl) (fun _ _ _ h => h) (Or.inl ⟨by rfl, ?_⟩) hSX ?_
      rotate_left
      ·intro wX hS
       obtain ⟨q0, q1⟩ := HQ.out wX hS
       go_simp
       (try with_reducible rfl)
      (try simp only [Act.put, List.setIfInBounds_toArray, List.set_cons_zero, List.set_cons_succ])
      refine wpAnyZ_done (by kernel_rfl) ?_ _
      go_wp2
      go_roundw
      case rel => exact ⟨k + 1, by omega, by go_num, HB2, EY.drew⟩
      case measure => simp [Go.RowKit.intOf]; omega
    ·obtain rfl : k = i := by omega
     have hklz : ¬ (k : Int) < (k : Int) := by omega
     have HA2 : Hid (∀ q, q < k + 1 → ∀ p, p < q → (L[p]?.getD ⟨0, 0, 0⟩).addr ≠ (L[q]?.getD ⟨0, 0, 0⟩).addr) := Lib.hid (fun q hq p hp => by
      by_cases h : q = k
      ·subst h; exact HB.out p hp
      ·exact HA.out q (by omega) p hp)
     have hlt := HLT.out
     go_wp2
     go_roundw
     case rel => exact ⟨k + 1, by omega, by go_num, HA2, EY⟩
     case measure => simp [Go.RowKit.intOf]; omega
  ·obtain rfl : i = n := by omega
   have hltz : ¬ (i : Int) < (i : Int) := by omega
   go_wp2
   refine bodyPost_ret (v := .bool true) (by simp [results, Try.results32, go_sem]) rfl ⟨true, rfl, (fun _ => ?_), EX⟩
   unfold apartL
   rw [List.pairwise_iff_getElem]
   intro p q hp hq hpq
   have h := HA.out q (by rw [← HN.out]; exact hq) p hpq
   rw [List.getElem?_eq_getElem hp, List.getElem?_eq_getElem hq] at h
   exact h
theorem slice_head (W : World) (a : Option Addr) (n k1 hi : Nat) (h3 : hi ≤ k1) : (Instr.slice 22 (.slice a n k1) none (some (.int .i64 (hi : Int))) none).run Try.prog W = .ok (.slice a hi k1) W := by
 have h := run_slice_h (P := Try.prog) (w := W) 22 a n k1 (by rw [Try.underlying22]; kernel_rfl) .i64 (hi : Int) (by omega) (by omega)
 rw [h]
 have e : (sizeOf (Try.prog.elem 22)).run Try.prog W = .ok 1 W := by
  rw [show Try.prog.elem 22 = 3 by kernel_rfl]
  obtain ⟨i0, hi, _, hz1, _⟩ := info_parts Try.infoE
  simp [sizeOf, typeInfo, hi, hz1, go_sem]
 rw [e]
 show Result.ok (sliced _ _ _ _ 1) W = _
 unfold sliced
 cases a with
 | none => simp
 | some a => simp [Addr.add]
theorem begins_any (a b : Option Addr) (n m c d : Nat) (xs ys : List Int) (w : World) (hn : xs.length = n) (hm : ys.length = m) (hnm : n ≤ m) (hd : m ≤ d ∧ d ≤ 9223372036854775807) (hI : IntsAt w a xs) (hJ : IntsAt w b ys) (ht : ys.take xs.length = xs) :
  Calls Try.prog 33 #[.slice a n c, .slice b m d] w fun e w' => e = .returned (.bool true) ∧ Ext w w' := by
 have hle : (n : Int) ≤ (m : Int) := by omega
 have hJ2 : ∀ W : World, Ext w W → IntsAt W b xs := fun W E => by
  rcases hJ.ext E with h | ⟨b', off, ha, hb, hc⟩
  ·subst h
   rw [List.take_nil] at ht
   exact .inl ht.symm
  ·refine .inr ⟨b', off, ha, hb, fun i hi => ?_⟩
   rw [hc i (by omega), ← ht, List.getElem?_take, if_pos hi]
 have is := fun W (E : Ext w W) => ints_same a b n c d xs W hn (by omega) (hI.ext E) (hJ2 W E)
 have hsl := fun W => slice_head W b m d n (by omega)
 clear hI hJ hJ2 ht hn hm
 go_enter Try.func33, Try.ntmps33
 go_wp2_with fail
 refine (is _ (Ext.refl _)).mono ?_
 rintro e w1 ⟨rfl, E1⟩
 go_wp2_with fail
 go_ret
 exact ⟨rfl, E1⟩
end Go.Proofs.Ytnhpcoagkmgdoaa

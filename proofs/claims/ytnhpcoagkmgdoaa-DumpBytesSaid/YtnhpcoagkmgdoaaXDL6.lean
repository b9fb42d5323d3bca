import Derived.Deep.DeepCutAuto
import Derived.Test.YtnhpcoagkmgdoaaXDL4
import Derived.Test.YtnhpcoagkmgdoaaX5
set_option linter.unusedVariables false
set_option linter.unusedSimpArgs false
/- The law DumpBytes. -/
namespace Go.Q
open Go.RowKit
theorem read_ways (rs : List Nat) : (∃ x er, er ≠ 0 ∧ readE rs = ([], [], x, er)) ∨ (ReadOk rs ∧ ∃ ws, readE rs = (ws, mendedN rs (rs.length / 65), 0, 0) ∧ punchE ws = (rightN rs (rs.length / 65), 0)) := by
 by_cases h : readX rs = 0
 ·have ho := readX_ok h
  refine .inr ⟨ho, (bodyR rs).take (manyR rs).toNat, by unfold readE; rw [if_pos h], ?_⟩
  rw [← ho.right]
  refine punch_good ?_ ?_
  ·rw [List.length_take]; have := ho.many; omega
  ·intro x hx
   exact wordsN_ok rs _ x (List.mem_of_mem_drop (List.mem_of_mem_take hx))
 ·left
  unfold readE
  rw [if_neg h]
  split
  ·exact ⟨_, 200, by decide, rfl⟩
  ·exact ⟨_, _, h, rfl⟩
/-- the three ways in which a row can be told of -/
theorem bytes_step {rs : List Nat} (ho : ReadOk rs) {i : Nat} (hi : i < rs.length) :
  (∃ k, marksK (mendedN rs (rs.length / 65)) i = k ∧ marksK (mendedN rs (rs.length / 65)) ((i + 1 : Nat) : Int) = k + 1 ∧ k < (mendedN rs (rs.length / 65)).length ∧ (mendedN rs (rs.length / 65))[k]?.getD 0 = (i : Int) ∧ (rightN rs (rs.length / 65))[i]?.getD 0 ≠ rs[i]?.getD 0) ∨
  (∃ k, marksK (mendedN rs (rs.length / 65)) i = k ∧ marksK (mendedN rs (rs.length / 65)) ((i + 1 : Nat) : Int) = k ∧ (k < (mendedN rs (rs.length / 65)).length → (mendedN rs (rs.length / 65))[k]?.getD 0 ≠ (i : Int)) ∧ (rightN rs (rs.length / 65))[i]?.getD 0 = rs[i]?.getD 0) := by
 have hs := (mended_sorted (rs := rs) (rs.length / 65) fun j hj => ⟨ho.fine j hj, blk_len ho.blocks.1 hj⟩).1
 have hb := bytes_rows ho hi
 have h1 := marks_at hs (i : Int)
 have h2 := marks_succ hs (i : Int)
 by_cases hm : (i : Int) ∈ mendedN rs (rs.length / 65)
 ·refine .inl ⟨_, rfl, by rw [show ((i + 1 : Nat) : Int) = (i : Int) + 1 by omega, h2, if_pos hm], ?_, ?_, hb.2 hm⟩
  ·have := h1.2 hm
   exact (List.getElem?_eq_some_iff.1 this).1
  ·rw [h1.2 hm]; rfl
 ·refine .inr ⟨_, rfl, by rw [show ((i + 1 : Nat) : Int) = (i : Int) + 1 by omega, h2, if_neg hm, Nat.add_zero], fun hk e => hm (h1.1 ?_), ?_⟩
  ·rw [List.getElem?_eq_getElem hk] at e ⊢
   exact congrArg some e
  ·exact Classical.byContradiction fun e => hm (hb.1 e)
theorem bytes_ends {rs : List Nat} (ho : ReadOk rs) : marksK (mendedN rs (rs.length / 65)) (rs.length : Int) = (mendedN rs (rs.length / 65)).length ∧ marksK (mendedN rs (rs.length / 65)) 0 = 0 := by
 have hs := (mended_sorted (rs := rs) (rs.length / 65) fun j hj => ⟨ho.fine j hj, blk_len ho.blocks.1 hj⟩).2
 refine ⟨marks_all fun x hx => ?_, marks_none fun x hx => (hs x hx).1⟩
 have := (hs x hx).2
 have h2 := ho.blocks.1
 omega
end Go.Q
namespace Go.Proofs.Ytnhpcoagkmgdoaa
open Go.RowKit Go.Q Go.Shelf Go.Maps Go.Joins
set_option maxHeartbeats 4000000
set_option maxRecDepth 100000
theorem dumpBytes_any (haw : AwakeT) (b : Option Addr) (n d : Nat) (rs : List Nat) (w : World) (hn : rs.length = n) (hd : n ≤ d ∧ d ≤ 9223372036854775807) (hB : BytesAt w b (natI rs)) (h256 : ∀ r ∈ rs, r < 256) :
  Calls Try.prog 8 #[.slice b n d] w fun e w' => e = .returned (.bool true) ∧ Ext w w' := by
 have r1 := fun W (E : Ext w W) => lread_any b n d rs W hn hd (hB.ext E) h256
 rcases read_ways rs with ⟨x, er, hne, hr⟩ | ⟨ho, ws, hr, hp⟩
 ·have e1 : (er != 0) = true := by simpa using hne
  rw [hr] at r1
  clear hr hne hB
  go_enter Try.func8, Try.ntmps8
  go_wp2_with fail
  refine (r1 _ (Ext.refl _)).mono ?_
  rintro e w1 ⟨a1, c1, a2, c2, rfl, _, _, _, _, E1⟩
  dsimp only
  simp only [List.length_nil]
  go_wp2_with fail
  refine (haw _).mono ?_
  rintro e w7 ⟨rfl, E7⟩
  go_wp2_with fail
  go_ret
  exact ⟨rfl, E1.comp E7⟩
 ·rw [hr] at r1
  have p1 := fun W a c (hI : IntsAt W a ws) (hb : ws.length ≤ 9223372036854775807) => lpunch_of ltape_any a _ c ws W rfl hb hI
  rw [hp] at p1
  have hst := fun i hi => bytes_step ho (i := i) hi
  have hen := bytes_ends ho
  have hrl := right_len ho
  obtain ⟨M, hM⟩ : ∃ M, mendedN rs (rs.length / 65) = M := ⟨_, rfl⟩
  obtain ⟨R, hR⟩ : ∃ R, rightN rs (rs.length / 65) = R := ⟨_, rfl⟩
  rw [hM] at r1 hst hen
  rw [hR] at p1 hst hrl
  rw [hn] at hst hen hrl
  have HST := Lib.hid hst
  have HEN := Lib.hid hen
  have HN := Lib.hid hn
  have HRL := Lib.hid hrl
  have n24 : n ≤ 2400 := by have := ho.len; omega
  clear hr hp ho hM hR hst hen hn hrl h256
  go_enter Try.func8, Try.ntmps8
  go_wp2_with fail
  refine (r1 _ (Ext.refl _)).mono ?_
  rintro e w1 ⟨a1, c1, a2, c2, rfl, hc1, hc2, I1, I2, E1⟩
  dsimp only at hc1 hc2 I1 I2 ⊢
  have p2 := p1 w1 a1 c1 I1 (by omega)
  obtain ⟨wn, hwn⟩ : ∃ wn, ws.length = wn := ⟨_, rfl⟩
  obtain ⟨mn, hmn⟩ : ∃ mn, M.length = mn := ⟨_, rfl⟩
  rw [hwn] at p2
  rw [hwn, hmn]
  have HMN := Lib.hid hmn
  rw [hmn] at HEN HST hc2
  clear p1 r1 I1 hc1 hwn hmn
  go_wp2_with fail
  refine p2.mono ?_
  rintro e w2 ⟨a3, c3, rfl, hc3, B3, E2⟩
  dsimp only at hc3 B3 ⊢
  rw [HRL.out] at hc3 ⊢
  have HE := Lib.hid (E1.comp E2)
  have HB := Lib.hid (hB.ext (E1.comp E2))
  have HB3 := Lib.hid B3
  have HI2 := Lib.hid (I2.ext E2)
  clear p2 B3 I2 E1 E2 hB
  go_wp2
  go_loopw [8, 9] (fun s8 s9 wr => ∃ i : Nat, i ≤ n ∧ s8 = .int .i64 ((marksK M (i : Int) : Nat) : Int) ∧ s9 = .int .i64 (i : Int) ∧ Ext w2 wr) (fun _ s9 _ => n - (Go.RowKit.intOf s9).toNat)
  case atStart => exact ⟨0, Nat.zero_le _, by rw [show ((0 : Nat) : Int) = 0 from rfl, HEN.out.2]; rfl, rfl, Ext.refl _⟩
  case round =>
   obtain ⟨i, hi, rfl, rfl, EX⟩ := hrel
   by_cases hlt : i < n
   ·have hltz : (i : Int) < (n : Int) := by omega
    have hi0 : (0 : Int) ≤ (i : Int) := by omega
    obtain ⟨bb, bo, rfl, hbb, hbc⟩ : ∃ b' off, b = some ⟨b', off, none⟩ ∧ b' < w2.heap.size ∧ w2.cell? ⟨b', off + i, none⟩ = some (.int .u8 ((rs[i]?.getD 0 : Nat) : Int)) := by
     rcases HB.out with h | ⟨b', off, ha, hb, hc⟩
     ·have := natI_length rs; rw [h, HN.out] at this; simp at this; omega
     ·exact ⟨b', off, ha, hb, by rw [hc i (by rw [natI_length, HN.out]; exact hlt), natI_get]⟩
    obtain ⟨cb, co, rfl, hcb, hcc⟩ : ∃ b' off, a3 = some ⟨b', off, none⟩ ∧ b' < w2.heap.size ∧ w2.cell? ⟨b', off + i, none⟩ = some (.int .u8 ((R[i]?.getD 0 : Nat) : Int)) := by
     rcases HB3.out with h | ⟨b', off, ha, hb, hc⟩
     ·have := natI_length R; rw [h, HRL.out] at this; simp at this; omega
     ·exact ⟨b', off, ha, hb, by rw [hc i (by rw [natI_length, HRL.out]; exact hlt), natI_get]⟩
    have HQ0 := Lib.hid (fun Y (E : Ext w2 Y) => And.intro ((E.cell (p := ⟨bb, bo + i, none⟩) hbb).trans hbc) ((E.cell (p := ⟨cb, co + i, none⟩) hcb).trans hcc))
    have HQ := Lib.hid (fun Y (E : Ext wr Y) => HQ0.out Y (EX.comp E))
    clear HQ0 hbc hcc
    rcases HST.out i hlt with ⟨k, hk, hk1, hkl, hke, hne⟩ | ⟨k, hk, hk1, hke, heq⟩
    ·obtain ⟨mb, mo, rfl, hmc⟩ : ∃ b' off, a2 = some ⟨b', off, none⟩ ∧ wr.cell? ⟨b', off + k, none⟩ = some (.int .i64 (i : Int)) := by
      rcases HI2.out with h | ⟨b', off, ha, hb, hc⟩
      ·rw [h] at HMN; have := HMN.out; simp at this; omega
      ·exact ⟨b', off, ha, ((EX.cell (p := ⟨b', off + k, none⟩) hb).trans (hc k (by rw [HMN.out]; exact hkl))).trans (by rw [hke])⟩
     have HK := Lib.hid (show Hid True from Lib.hid trivial)
     obtain ⟨x, hx⟩ : ∃ x, rs[i]?.getD 0 = x := ⟨_, rfl⟩
     obtain ⟨y, hy⟩ : ∃ y, R[i]?.getD 0 = y := ⟨_, rfl⟩
     rw [hx, hy] at HQ hne
     have t1 : ((y : Int) != (x : Int)) = true := by simp; omega
     have kz : (k : Int) < (mn : Int) := by omega
     have k0 : (0 : Int) ≤ (k : Int) := by omega
     have ii : ((i : Int) == (i : Int)) = true := by simp
     have HK1 := Lib.hid hk1
     rw [hk]
     clear hx hy hne hke hk hk1
     go_upto_region 14 with fail
     refine wp_region_Z (fun _ => false) (fun Y => Ext wr Y) (by kernel_rfl) (Ext.refl wr).drew fun hSX => ?_
     refine tk 0 ⟨_, _, _, _, _, _⟩ ?_ rfl (by kernel_rfl) (fun _ _ _ h => h) (Or.inl ⟨by rfl, ?_⟩) hSX ?_
     rotate_left
     ·intro wX hS
      obtain ⟨q0, q1⟩ := HQ.out wX hS
      go_simp
      (try with_reducible rfl)
     (try simp only [Act.put, List.setIfInBounds_toArray, List.set_cons_zero, List.set_cons_succ])
     refine tk 1 ⟨_, _, _, _, _, _⟩ ?_ rfl (by kernel_rfl) (fun _ _ _ h => h) (Or.inl ⟨by rfl, ?_⟩) hSX ?_
     rotate_left
     ·intro wX hS
      obtain ⟨q0, q1⟩ := HQ.out wX hS
      go_simp
      (try with_reducible rfl)
     (try simp only [Act.put, List.setIfInBounds_toArray, List.set_cons_zero, List.set_cons_succ])
     refine tk 2 ⟨_, _, _, _, _, _⟩ ?_ rfl (by kernel_rfl) (fun _ _ _ h => h) (Or.inl ⟨by rfl, ?_⟩) hSX ?_
     rotate_left
     ·intro wX hS
      obtain ⟨q0, q1⟩ := HQ.out wX hS
      go_simp
      (try with_reducible rfl)
     (try simp only [Act.put, List.setIfInBounds_toArray, List.set_cons_zero, List.set_cons_succ])
     refine tk 3 ⟨_, _, _, _, _, _⟩ ?_ rfl (by kernel_rfl) (fun _ _ _ h => h) (Or.inl ⟨by rfl, ?_⟩) hSX ?_
     rotate_left
     ·intro wX hS
      obtain ⟨q0, q1⟩ := HQ.out wX hS
      go_simp
      (try with_reducible rfl)
     (try simp only [Act.put, List.setIfInBounds_toArray, List.set_cons_zero, List.set_cons_succ])
     refine tk 4 ⟨_, _, _, _, _, _⟩ ?_ rfl (by kernel_rfl) (fun _ _ _ h => h) (Or.inl ⟨by rfl, ?_⟩) hSX ?_
     rotate_left
     ·intro wX hS
      obtain ⟨q0, q1⟩ := HQ.out wX hS
      go_simp
      (try with_reducible rfl)
     (try simp only [Act.put, List.setIfInBounds_toArray, List.set_cons_zero, List.set_cons_succ])
     refine tk 5 ⟨_, _, _, _, _, _⟩ ?_ rfl (by kernel_rfl) (fun _ _ _ h => h) (Or.inl ⟨by rfl, ?_⟩) hSX ?_
     rotate_left
     ·intro wX hS
      obtain ⟨q0, q1⟩ := HQ.out wX hS
      go_simp
      (try with_reducible rfl)
     (try simp only [Act.put, List.setIfInBounds_toArray, List.set_cons_zero, List.set_cons_succ])
     refine tk 6 ⟨_, _, _, _, _, _⟩ ?_ rfl (by kernel_rfl) (fun _ _ _ h => h) (Or.inl ⟨by rfl, ?_⟩) hSX ?_
     rotate_left
     ·intro wX hS
      obtain ⟨q0, q1⟩ := HQ.out wX hS
      go_simp
      (try with_reducible rfl)
     (try simp only [Act.put, List.setIfInBounds_toArray, List.set_cons_zero, List.set_cons_succ])
     refine tk 7 ⟨_, _, _, _, _, _⟩ ?_ rfl (by kernel_rfl) (fun _ _ _ h => h) (Or.inl ⟨by rfl, ?_⟩) hSX ?_
     rotate_left
     ·intro wX hS
      obtain ⟨q0, q1⟩ := HQ.out wX hS
      go_simp
      (try with_reducible rfl)
     (try simp only [Act.put, List.setIfInBounds_toArray, List.set_cons_zero, List.set_cons_succ])
     refine tk 8 ⟨_, _, _, _, _, _⟩ ?_ rfl (by kernel_rfl) (fun _ _ _ h => h) (Or.inl ⟨by rfl, ?_⟩) hSX ?_
     rotate_left
     ·intro wX hS
      obtain ⟨q0, q1⟩ := HQ.out wX hS
      go_simp
      (try with_reducible rfl)
     (try simp only [Act.put, List.setIfInBounds_toArray, List.set_cons_zero, List.set_cons_succ])
     refine tk 9 ⟨_, _, _, _, _, _⟩ ?_ rfl (by kernel_rfl) (fun _ _ _ h => h) (Or.inl ⟨by rfl, ?_⟩) hSX ?_
     rotate_left
     ·intro wX hS
      obtain ⟨q0, q1⟩ := HQ.out wX hS
      go_simp
      (try with_reducible rfl)
     (try simp only [Act.put, List.setIfInBounds_toArray, List.set_cons_zero, List.set_cons_succ])
     refine tk 10 ⟨_, _, _, _, _, _⟩ ?_ rfl (by kernel_rfl) (fun _ _ _ h => h) (Or.inl ⟨by rfl, ?_⟩) hSX ?_
     rotate_left
     ·intro wX hS
      obtain ⟨q0, q1⟩ := HQ.out wX hS
      go_simp
      (try with_reducible rfl)
     (try simp only [Act.put, List.setIfInBounds_toArray, List.set_cons_zero, List.set_cons_succ])
     refine wpAnyZ_done (by kernel_rfl) ?_ _
     go_wp2
     go_roundw
     case rel => exact ⟨i + 1, by omega, by rw [HK1.out]; go_num, by go_num, EX.drew⟩
     case measure => simp [Go.RowKit.intOf]; omega
    ·obtain ⟨x, hx⟩ : ∃ x, rs[i]?.getD 0 = x := ⟨_, rfl⟩
     obtain ⟨y, hy⟩ : ∃ y, R[i]?.getD 0 = y := ⟨_, rfl⟩
     rw [hx, hy] at HQ heq
     subst heq
     have t1 : ((y : Int) != (y : Int)) = false := by simp
     have k0 : (0 : Int) ≤ (k : Int) := by omega
     have HK1 := Lib.hid hk1
     rw [hk]
     by_cases hkl : k < mn
     ·have hke := hke hkl
      obtain ⟨z, hz⟩ : ∃ z, M[k]?.getD 0 = z := ⟨_, rfl⟩
      rw [hz] at hke
      obtain ⟨mb, mo, rfl, hmc⟩ : ∃ b' off, a2 = some ⟨b', off, none⟩ ∧ wr.cell? ⟨b', off + k, none⟩ = some (.int .i64 z) := by
       rcases HI2.out with h | ⟨b', off, ha, hb, hc⟩
       ·rw [h] at HMN; have := HMN.out; simp at this; omega
       ·exact ⟨b', off, ha, ((EX.cell (p := ⟨b', off + k, none⟩) hb).trans (hc k (by rw [HMN.out]; exact hkl))).trans (by rw [hz])⟩
      have t2 : (z == (i : Int)) = false := by simpa using hke
      have kz : (k : Int) < (mn : Int) := by omega
      clear hz hke hx hy hk hk1
      go_upto_region 14 with fail
      refine wp_region_Z (fun _ => false) (fun Y => Ext wr Y) (by kernel_rfl) (Ext.refl wr).drew fun hSX => ?_
      refine tk 0 ⟨_, _, _, _, _, _⟩ ?_ rfl (by kernel_rfl) (fun _ _ _ h => h) (Or.inl ⟨by rfl, ?_⟩) hSX ?_
      rotate_left
      ·intro wX hS
       obtain ⟨q0, q1⟩ := HQ.out wX hS
       go_simp
       (try with_reducible rfl)
      (try simp only [Act.put, List.setIfInBounds_toArray, List.set_cons_zero, List.set_cons_succ])
      refine tk 1 ⟨_, _, _, _, _, _⟩ ?_ rfl (by kernel_rfl) (fun _ _ _ h => h) (Or.inl ⟨by rfl, ?_⟩) hSX ?_
      rotate_left
      ·intro wX hS
       obtain ⟨q0, q1⟩ := HQ.out wX hS
       go_simp
       (try with_reducible rfl)
      (try simp only [Act.put, List.setIfInBounds_toArray, List.set_cons_zero, List.set_cons_succ])
      refine tk 2 ⟨_, _, _, _, _, _⟩ ?_ rfl (by kernel_rfl) (fun _ _ _ h => h) (Or.inl ⟨by rfl, ?_⟩) hSX ?_
      rotate_left
      ·intro wX hS
       obtain ⟨q0, q1⟩ := HQ.out wX hS
       go_simp
       (try with_reducible rfl)
      (try simp only [Act.put, List.setIfInBounds_toArray, List.set_cons_zero, List.set_cons_succ])
      refine tk 3 ⟨_, _, _, _, _, _⟩ ?_ rfl (by kernel_rfl) (fun _ _ _ h => h) (Or.inl ⟨by rfl, ?_⟩) hSX ?_
      rotate_left
      ·intro wX hS
       obtain ⟨q0, q1⟩ := HQ.out wX hS
       go_simp
       (try with_reducible rfl)
      (try simp only [Act.put, List.setIfInBounds_toArray, List.set_cons_zero, List.set_cons_succ])
      refine tk 4 ⟨_, _, _, _, _, _⟩ ?_ rfl (by kernel_rfl) (fun _ _ _ h => h) (Or.inl ⟨by rfl, ?_⟩) hSX ?_
      rotate_left
      ·intro wX hS
       obtain ⟨q0, q1⟩ := HQ.out wX hS
       go_simp
       (try with_reducible rfl)
      (try simp only [Act.put, List.setIfInBounds_toArray, List.set_cons_zero, List.set_cons_succ])
      refine tk 5 ⟨_, _, _, _, _, _⟩ ?_ rfl (by kernel_rfl) (fun _ _ _ h => h) (Or.inl ⟨by rfl, ?_⟩) hSX ?_
      rotate_left
      ·intro wX hS
       obtain ⟨q0, q1⟩ := HQ.out wX hS
       go_simp
       (try with_reducible rfl)
      (try simp only [Act.put, List.setIfInBounds_toArray, List.set_cons_zero, List.set_cons_succ])
      refine tk 6 ⟨_, _, _, _, _, _⟩ ?_ rfl (by kernel_rfl) (fun _ _ _ h => h) (Or.inl ⟨by rfl, ?_⟩) hSX ?_
      rotate_left
      ·intro wX hS
       obtain ⟨q0, q1⟩ := HQ.out wX hS
       go_simp
       (try with_reducible rfl)
      (try simp only [Act.put, List.setIfInBounds_toArray, List.set_cons_zero, List.set_cons_succ])
      refine tk 7 ⟨_, _, _, _, _, _⟩ ?_ rfl (by kernel_rfl) (fun _ _ _ h => h) (Or.inl ⟨by rfl, ?_⟩) hSX ?_
      rotate_left
      ·intro wX hS
       obtain ⟨q0, q1⟩ := HQ.out wX hS
       go_simp
       (try with_reducible rfl)
      (try simp only [Act.put, List.setIfInBounds_toArray, List.set_cons_zero, List.set_cons_succ])
      refine tk 8 ⟨_, _, _, _, _, _⟩ ?_ rfl (by kernel_rfl) (fun _ _ _ h => h) (Or.inl ⟨by rfl, ?_⟩) hSX ?_
      rotate_left
      ·intro wX hS
       obtain ⟨q0, q1⟩ := HQ.out wX hS
       go_simp
       (try with_reducible rfl)
      (try simp only [Act.put, List.setIfInBounds_toArray, List.set_cons_zero, List.set_cons_succ])
      refine tk 9 ⟨_, _, _, _, _, _⟩ ?_ rfl (by kernel_rfl) (fun _ _ _ h => h) (Or.inl ⟨by rfl, ?_⟩) hSX ?_
      rotate_left
      ·intro wX hS
       obtain ⟨q0, q1⟩ := HQ.out wX hS
       go_simp
       (try with_reducible rfl)
      (try simp only [Act.put, List.setIfInBounds_toArray, List.set_cons_zero, List.set_cons_succ])
      refine tk 10 ⟨_, _, _, _, _, _⟩ ?_ rfl (by kernel_rfl) (fun _ _ _ h => h) (Or.inl ⟨by rfl, ?_⟩) hSX ?_
      rotate_left
      ·intro wX hS
       obtain ⟨q0, q1⟩ := HQ.out wX hS
       go_simp
       (try with_reducible rfl)
      (try simp only [Act.put, List.setIfInBounds_toArray, List.set_cons_zero, List.set_cons_succ])
      refine wpAnyZ_done (by kernel_rfl) ?_ _
      go_wp2
      go_roundw
      case rel => exact ⟨i + 1, by omega, by rw [HK1.out], by go_num, EX.drew⟩
      case measure => simp [Go.RowKit.intOf]; omega
     ·have kz : ¬ (k : Int) < (mn : Int) := by omega
      clear hke hx hy hk hk1
      go_upto_region 14 with fail
      refine wp_region_Z (fun _ => false) (fun Y => Ext wr Y) (by kernel_rfl) (Ext.refl wr).drew fun hSX => ?_
      refine tk 0 ⟨_, _, _, _, _, _⟩ ?_ rfl (by kernel_rfl) (fun _ _ _ h => h) (Or.inl ⟨by rfl, ?_⟩) hSX ?_
      rotate_left
      ·intro wX hS
       obtain ⟨q0, q1⟩ := HQ.out wX hS
       go_simp
       (try with_reducible rfl)
      (try simp only [Act.put, List.setIfInBounds_toArray, List.set_cons_zero, List.set_cons_succ])
      refine tk 1 ⟨_, _, _, _, _, _⟩ ?_ rfl (by kernel_rfl) (fun _ _ _ h => h) (Or.inl ⟨by rfl, ?_⟩) hSX ?_
      rotate_left
      ·intro wX hS
       obtain ⟨q0, q1⟩ := HQ.out wX hS
       go_simp
       (try with_reducible rfl)
      (try simp only [Act.put, List.setIfInBounds_toArray, List.set_cons_zero, List.set_cons_succ])
      refine tk 2 ⟨_, _, _, _, _, _⟩ ?_ rfl (by kernel_rfl) (fun _ _ _ h => h) (Or.inl ⟨by rfl, ?_⟩) hSX ?_
      rotate_left
      ·intro wX hS
       obtain ⟨q0, q1⟩ := HQ.out wX hS
       go_simp
       (try with_reducible rfl)
      (try simp only [Act.put, List.setIfInBounds_toArray, List.set_cons_zero, List.set_cons_succ])
      refine tk 3 ⟨_, _, _, _, _, _⟩ ?_ rfl (by kernel_rfl) (fun _ _ _ h => h) (Or.inl ⟨by rfl, ?_⟩) hSX ?_
      rotate_left
      ·intro wX hS
       obtain ⟨q0, q1⟩ := HQ.out wX hS
       go_simp
       (try with_reducible rfl)
      (try simp only [Act.put, List.setIfInBounds_toArray, List.set_cons_zero, List.set_cons_succ])
      refine tk 4 ⟨_, _, _, _, _, _⟩ ?_ rfl (by kernel_rfl) (fun _ _ _ h => h) (Or.inl ⟨by rfl, ?_⟩) hSX ?_
      rotate_left
      ·intro wX hS
       obtain ⟨q0, q1⟩ := HQ.out wX hS
       go_simp
       (try with_reducible rfl)
      (try simp only [Act.put, List.setIfInBounds_toArray, List.set_cons_zero, List.set_cons_succ])
      refine tk 5 ⟨_, _, _, _, _, _⟩ ?_ rfl (by kernel_rfl) (fun _ _ _ h => h) (Or.inl ⟨by rfl, ?_⟩) hSX ?_
      rotate_left
      ·intro wX hS
       obtain ⟨q0, q1⟩ := HQ.out wX hS
       go_simp
       (try with_reducible rfl)
      (try simp only [Act.put, List.setIfInBounds_toArray, List.set_cons_zero, List.set_cons_succ])
      refine tk 6 ⟨_, _, _, _, _, _⟩ ?_ rfl (by kernel_rfl) (fun _ _ _ h => h) (Or.inl ⟨by rfl, ?_⟩) hSX ?_
      rotate_left
      ·intro wX hS
       obtain ⟨q0, q1⟩ := HQ.out wX hS
       go_simp
       (try with_reducible rfl)
      (try simp only [Act.put, List.setIfInBounds_toArray, List.set_cons_zero, List.set_cons_succ])
      refine tk 7 ⟨_, _, _, _, _, _⟩ ?_ rfl (by kernel_rfl) (fun _ _ _ h => h) (Or.inl ⟨by rfl, ?_⟩) hSX ?_
      rotate_left
      ·intro wX hS
       obtain ⟨q0, q1⟩ := HQ.out wX hS
       go_simp
       (try with_reducible rfl)
      (try simp only [Act.put, List.setIfInBounds_toArray, List.set_cons_zero, List.set_cons_succ])
      refine tk 8 ⟨_, _, _, _, _, _⟩ ?_ rfl (by kernel_rfl) (fun _ _ _ h => h) (Or.inl ⟨by rfl, ?_⟩) hSX ?_
      rotate_left
      ·intro wX hS
       obtain ⟨q0, q1⟩ := HQ.out wX hS
       go_simp
       (try with_reducible rfl)
      (try simp only [Act.put, List.setIfInBounds_toArray, List.set_cons_zero, List.set_cons_succ])
      refine tk 9 ⟨_, _, _, _, _, _⟩ ?_ rfl (by kernel_rfl) (fun _ _ _ h => h) (Or.inl ⟨by rfl, ?_⟩) hSX ?_
      rotate_left
      ·intro wX hS
       obtain ⟨q0, q1⟩ := HQ.out wX hS
       go_simp
       (try with_reducible rfl)
      (try simp only [Act.put, List.setIfInBounds_toArray, List.set_cons_zero, List.set_cons_succ])
      refine tk 10 ⟨_, _, _, _, _, _⟩ ?_ rfl (by kernel_rfl) (fun _ _ _ h => h) (Or.inl ⟨by rfl, ?_⟩) hSX ?_
      rotate_left
      ·intro wX hS
       obtain ⟨q0, q1⟩ := HQ.out wX hS
       go_simp
       (try with_reducible rfl)
      (try simp only [Act.put, List.setIfInBounds_toArray, List.set_cons_zero, List.set_cons_succ])
      refine wpAnyZ_done (by kernel_rfl) ?_ _
      go_wp2
      go_roundw
      case rel => exact ⟨i + 1, by omega, by rw [HK1.out], by go_num, EX.drew⟩
      case measure => simp [Go.RowKit.intOf]; omega
   ·obtain rfl : i = n := by omega
    have hltz : ¬ (i : Int) < (i : Int) := by omega
    rw [HEN.out.1]
    go_wp2_with fail
    refine (haw _).mono ?_
    rintro e w7 ⟨rfl, E7⟩
    go_wp2_with fail
    go_ret
    exact ⟨rfl, HE.out.comp (EX.comp E7)⟩
end Go.Proofs.Ytnhpcoagkmgdoaa

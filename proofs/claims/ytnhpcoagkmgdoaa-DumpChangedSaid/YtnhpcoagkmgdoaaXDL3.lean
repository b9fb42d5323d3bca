import Derived.Test.YtnhpcoagkmgdoaaX10
import Derived.Test.YtnhpcoagkmgdoaaXFrame10
import Derived.Test.YtnhpcoagkmgdoaaX12
import Derived.Test.YtnhpcoagkmgdoaaX20
set_option linter.unusedVariables false
set_option linter.unusedSimpArgs false
/- Layer 10's law: wrong, a tape with wrong holes. -/
namespace Go.Q
theorem wrong_stay {rs : List Nat} {x : List (Nat × Nat)} (h : x.length = 0) : ∀ i, outK rs (wrongF x) i = rs ∧ atK (wrongF x) i = []
 | 0 => ⟨rfl, rfl⟩
 | i + 1 => by
  have e := wrong_nil h i
  rw [outK_none e, atK_succ]
  have e2 : rowsAt (wrongF x) i = [] := by unfold rowsAt; rw [e]
  rw [e2, List.append_nil]
  exact wrong_stay h i
end Go.Q
namespace Go.Proofs.Ytnhpcoagkmgdoaa
open Go.RowKit Go.Q Go.Shelf Go.Maps Go.Joins
set_option maxHeartbeats 4000000
set_option maxRecDepth 100000
def WrongRes (n : Nat) (out : List Nat) (at_ : List Int) (w : World) (e : Ending) (w' : World) : Prop :=
 ∃ oa oc ma mc, e = .returned (.tuple #[.slice oa n oc, .slice ma at_.length mc]) ∧ (n ≤ oc ∧ oc ≤ 9223372036854775807) ∧ BytesAt w' oa (natI out) ∧ IntsAt w' ma at_ ∧ Ext w w'
theorem wrong_any (a xa : Option Addr) (n c xc m : Nat) (rs : List Nat) (x : List (Nat × Nat)) (w : World) (hn : rs.length = n) (hm : n = 65 * m) (hm0 : 0 < m) (hm36 : m ≤ 36) (hc : n ≤ c ∧ c ≤ 9223372036854775807) (hB : BytesAt w a (natI rs)) (hr : ∀ r ∈ rs, r < 128)
  (hX : PairsAt w xa x) (h256 : Pairs256 x) (hxl : x.length ≤ 9223372036854775807) :
  Calls Try.prog 29 #[.slice a n c, .slice xa x.length xc] w (WrongRes n (outK rs (wrongF x) m) (atK (wrongF x) m) w) := by
 have hok := wrong_ok x
 obtain ⟨f, hf⟩ : ∃ f, wrongF x = f := ⟨_, rfl⟩
 have HN := Lib.hid hn
 have HM := Lib.hid hm
 have HX := Lib.hid hX
 have H256 := Lib.hid h256
 have HR := Lib.hid hr
 have HOK := Lib.hid (show holesOk f by rw [← hf]; exact hok)
 have HST := Lib.hid (fun (h : x.length = 0) i => show outK rs f i = rs ∧ atK f i = [] by rw [← hf]; exact wrong_stay h i)
 have HNO := Lib.hid (fun (i : Nat) (h0 : x.length ≠ 0) (a b : Nat) (h : x[i % x.length]?.getD (0, 0) = (a, b)) (h7 : b % 8 = 7) => show f i = none by rw [← hf]; exact wrong_no h0 h h7)
 have HYE := Lib.hid (fun (i : Nat) (h0 : x.length ≠ 0) (a b : Nat) (h : x[i % x.length]?.getD (0, 0) = (a, b)) (h7 : ¬ b % 8 = 7) => show f i = some (a % 65, b % 8) by rw [← hf]; exact wrong_yes h0 h h7)
 rw [hf]
 clear hf hok hn hX h256 hr
 obtain ⟨xn, hxn⟩ : ∃ xn, x.length = xn := ⟨_, rfl⟩
 rw [hxn] at hxl HST HNO HYE ⊢
 have HXN := Lib.hid hxn
 clear hxn
 have u1 : Int.tdiv (n : Int) 65 = (m : Int) := by rw [Int.tdiv_eq_ediv_of_nonneg (by omega)]; omega
 have u2 : (n : Int) / 65 = (m : Int) := by omega
 clear hm
 obtain ⟨i0, hi0, hz0, hz1, hz2⟩ := info_parts Try.infoE
 obtain ⟨i1, hi1, hy0, hy1, hy2⟩ := info_parts Try.infoU
 go_enter Try.func29, Try.ntmps29
 go_wp2_with (at_builtin; refine wpList_app (w0 := w) rfl _ _ 23 rfl 5 i1 (.int .u8 0) 1 1 Try.underlying23 hi1 hy0 hy1 hy2 rfl (by decide) _ 0 w.heap.size [] rfl (own_empty (Ext.refl _)) ((Ext.refl w).alloc _) (Nat.le_refl _) (by simp) _ n c (ub (natI rs)) rfl ?c1 ?c2 (ub_one _) (by unfold maxLen; have := HM.out; omega) (by omega) ?_)
 case c1 => rw [ub_length, natI_length, HN.out, Nat.mul_one]
 case c2 => exact from_bytes (hB.ext ((Ext.refl w).alloc _))
 intro a1 c1 w1 hown1 hE1 _
 replace hown1 : w1.ownsRow w.heap.size 5 1 (.slice a1 n c1) n (ub (natI rs)) := by simpa using hown1
 obtain ⟨g, sc, hg⟩ := ownsRow_form hown1 (by have := HM.out; omega)
 obtain ⟨rfl, -, rfl⟩ := Value.slice.inj hg
 clear hg
 have HCAP := Lib.hid (own_cap hown1)
 have hR0 : R3 w.heap.size 5 3 w1 (.slice (some ⟨g, 0, none⟩) n c1) (.slice none 0 0) (.slice none 0 0) (natI (outK rs f 0)) (atK f 0) [] := by
  refine ⟨?_, World.ownsRow_nil _ _ _ _, World.ownsRow_nil _ _ _ _, ?_, ?_, .inl rfl⟩
  ·rw [natI_length, show outK rs f 0 = rs from rfl, HN.out]; exact hown1
  ·exact Ap2.symm (.inl rfl)
  ·exact Ap2.symm (.inl rfl)
 clear hown1 hB
 (try go_frame)
 go_wp2
 go_loopw [7, 8] (fun s7 s8 X => ∃ i : Nat, i ≤ m ∧ s8 = .int .i64 (i : Int) ∧ (∃ (ma : Option Addr) (mc : Nat), s7 = .slice ma (atK f i).length mc) ∧ R3 w.heap.size 5 3 X (.slice (some ⟨g, 0, none⟩) n c1) s7 (.slice none 0 0) (natI (outK rs f i)) (atK f i) [] ∧ Ext w X) (fun _ s8 _ => m - (Go.RowKit.intOf s8).toNat)
 case atStart => exact ⟨0, Nat.zero_le _, rfl, ⟨none, 0, rfl⟩, hR0, hE1⟩
 case round =>
  clear hR0 hE1
  obtain ⟨i, hi, rfl, ⟨ma, mc, rfl⟩, hR, EX⟩ := hrel
  obtain ⟨X, rfl⟩ : ∃ X : World, X = wr := ⟨_, rfl⟩
  by_cases hgo : i < m ∧ xn ≠ 0
  ·obtain ⟨hlt, hx0⟩ := hgo
   have hltz : (i : Int) < (m : Int) := by omega
   have hxpz : (0 : Int) < (xn : Int) := by omega
   have hxz : ((xn : Int) == 0) = false := by simp; omega
   have hno := HNO.out i hx0
   have hye := HYE.out i hx0
   obtain ⟨j, hj⟩ : ∃ j, i % xn = j := ⟨_, rfl⟩
   have hjx : j < xn := by rw [← hj]; exact Nat.mod_lt _ (by omega)
   rw [hj] at hno hye
   have v1 : Int.tmod (i : Int) (xn : Int) = (j : Int) := by rw [Int.tmod_eq_emod_of_nonneg (by omega), ← hj]; exact (Int.natCast_emod i xn).symm
   have v2 : (i : Int) % (xn : Int) = (j : Int) := by rw [← hj]; exact (Int.natCast_emod i xn).symm
   have hj0 : (0 : Int) ≤ (j : Int) := by omega
   have hj1 : (j : Int) < (xn : Int) := by omega
   obtain ⟨xb, xo, rfl, hxb, hxc⟩ : ∃ b off, xa = some ⟨b, off, none⟩ ∧ b < w.heap.size ∧ ∀ i, i < xn → w.cell? ⟨b, off + i * 2, none⟩ = some (.int .u8 ((x[i]?.getD (0, 0)).1 : Int)) ∧ w.cell? ⟨b, off + i * 2 + 1, none⟩ = some (.int .u8 ((x[i]?.getD (0, 0)).2 : Int)) := by
    rcases HX.out with h | ⟨b, off, ha, hb, hc⟩
    ·have := HXN.out; rw [h] at this; exact absurd this.symm hx0
    ·exact ⟨b, off, ha, hb, fun i hi => hc i (by rw [HXN.out]; exact hi)⟩
   obtain ⟨xc0, xc1⟩ := hxc j hjx
   have hb256 := H256.out j (by rw [HXN.out]; exact hjx)
   obtain ⟨⟨ya, yb⟩, hy⟩ : ∃ y, x[j]?.getD (0, 0) = y := ⟨_, rfl⟩
   rw [hy] at xc0 xc1 hb256 hno hye
   dsimp only at xc0 xc1 hb256
   have xc0 := (EX.cell (p := ⟨xb, xo + j * 2, none⟩) hxb).trans xc0
   have xc1 := (EX.cell (p := ⟨xb, xo + j * 2 + 1, none⟩) hxb).trans xc1
   replace hno := hno ya yb rfl
   replace hye := hye ya yb rfl
   obtain ⟨q, hq⟩ : ∃ q, yb % 8 = q := ⟨_, rfl⟩
   obtain ⟨r, hr⟩ : ∃ r, ya % 65 = r := ⟨_, rfl⟩
   rw [hq, hr] at hye
   rw [hq] at hno
   have hq8 : q < 8 := by omega
   have hr65 : r < 65 := by omega
   have s1 : Int.tmod (yb : Int) 8 = (q : Int) := by rw [Int.tmod_eq_emod_of_nonneg (by omega)]; omega
   have s2 : (yb : Int) % 8 = (q : Int) := by omega
   have s3 : Int.tmod (ya : Int) 65 = (r : Int) := by rw [Int.tmod_eq_emod_of_nonneg (by omega)]; omega
   have s4 : (ya : Int) % 65 = (r : Int) := by omega
   have wq : IntKind.u8.wrap (q : Int) = (q : Int) := IntWalk.u8_in _ (by omega)
   have wa : IntKind.i64.wrap (ya : Int) = (ya : Int) := IntWalk.i64_in _ (by omega)
   have wb : IntKind.i64.wrap (yb : Int) = (yb : Int) := IntWalk.i64_in _ (by omega)
   clear hxc hj hq hr HX
   by_cases h7 : q = 7
   ·have h7z : ((q : Int) == 7) = true := by simp; omega
    have hfi := hno h7
    have HO := Lib.hid (outK_none (rs := rs) hfi)
    have HA := Lib.hid (show atK f (i + 1) = atK f i by rw [atK_succ]; unfold rowsAt; rw [hfi, List.append_nil])
    have hR2 := hR.ext ((Ext.refl X).alloc (.cells #[.int .u8 (ya : Int), .int .u8 (yb : Int)] 48))
    clear hno hye h7
    go_wp2
    go_roundw
    case rel => exact ⟨i + 1, hlt, by go_num, ⟨ma, mc, by rw [HA.out]⟩, by rw [HO.out, HA.out]; exact hR2, EX.alloc _⟩
    case measure => simp [Go.RowKit.intOf]; omega
   ·have h7z : ((q : Int) == 7) = false := by simp; omega
    have hfi := hye h7
    have HO := Lib.hid (outK_some (rs := rs) hfi)
    have HA := Lib.hid (show atK f (i + 1) = atK f i ++ [((65 * i : Nat) : Int) + (r : Int)] by rw [atK_succ]; unfold rowsAt; rw [hfi])
    have hq7 : q < 7 := by omega
    obtain ⟨z, hz⟩ : ∃ z, 65 * i = z := ⟨_, rfl⟩
    rw [hz] at HO HA
    have hnk := HM.out
    have hzn : z + 65 ≤ n := by omega
    have hn24 : n ≤ 2400 := by omega
    have z1 : (i : Int) * 65 = (z : Int) := by omega
    have z2 : IntKind.i64.wrap (65 * (i : Int)) = (z : Int) := by rw [show 65 * (i : Int) = (z : Int) by omega]; exact IntWalk.i64_in _ (by omega)
    have z3 : IntKind.i64.wrap ((i : Int) * 65) = (z : Int) := by rw [z1]; exact IntWalk.i64_in _ (by omega)
    obtain ⟨p, hp⟩ : ∃ p, z + r = p := ⟨_, rfl⟩
    have z4 : IntKind.i64.wrap ((z : Int) + (r : Int)) = (p : Int) := by rw [show (z : Int) + (r : Int) = (p : Int) by omega]; exact IntWalk.i64_in _ (by omega)
    have hp0 : (0 : Int) ≤ (p : Int) := by omega
    have hp1 : (p : Int) < (n : Int) := by omega
    rw [hp] at HO
    have HZP := Lib.hid (show (z : Int) + (r : Int) = (p : Int) by omega)
    rw [HZP.out] at HA
    clear hz hp hnk hno hye h7
    have hR2 := hR.ext ((Ext.refl X).alloc (.cells #[.int .u8 (ya : Int), .int .u8 (yb : Int)] 48))
    have EX2 := EX.alloc (.cells #[.int .u8 (ya : Int), .int .u8 (yb : Int)] 48)
    have hol : (natI (outK rs f i)).length = n := by rw [natI_length, outK_len, HN.out]
    have hbx := heap_alloc_new X (.cells #[.int .u8 (ya : Int), .int .u8 (yb : Int)] 48)
    go_upto_region 9 with fail
    obtain ⟨t9, ht9⟩ : ∃ t9, X.heap.size = t9 := ⟨_, rfl⟩
    obtain ⟨X9, hX9⟩ : ∃ X9, X.alloc (.cells #[.int .u8 (ya : Int), .int .u8 (yb : Int)] 48) = X9 := ⟨_, rfl⟩
    rw [hX9] at hR2 EX2 hbx ⊢
    rw [ht9] at hbx ⊢
    have hx := R3.cell7 hR2 hol (j := p) (by omega)
    rw [natI_get] at hx
    have hy128 := get_lt (outK_lt HOK.out HR.out i) (by decide) p
    obtain ⟨y, hye⟩ : ∃ y, (outK rs f i)[p]?.getD 0 = y := ⟨_, rfl⟩
    rw [hye] at hx hy128 HO
    have hown7 := hR2.r7
    rw [hol] at hown7
    have hfz := hown7.frozenAt p
    have hgb := (hown7.lt g rfl)
    have hfl := fun W => rflip_any y q W hy128 hq7
    obtain ⟨P, hP⟩ : ∃ P, y ^^^ 2 ^ q = P := ⟨_, rfl⟩
    rw [hP] at hfl HO
    have HQ := Lib.hid (fun Y (E : Ext X9 Y) => And.intro ((E.cell (p := ⟨g, p, none⟩) hgb.2).trans hx) (blk_cell ((E.block t9 (lt_of_block hbx)).trans hbx) 1 rfl))
    have HF := Lib.hid (fun Y (E : Ext X9 Y) => (own_extX hown7 E).frozenAt p)
    have HR2 := Lib.hid (fun Y (E : Ext X9 Y) => by have h := (hR2.ext E).set7 hol p (P : Int); rw [← natI_set, ← HO.out] at h; exact h)
    have hml := atK_len f i
    obtain ⟨n8, hn8⟩ : ∃ n8, (atK f i).length = n8 := ⟨_, rfl⟩
    have HN8 := Lib.hid hn8
    rw [hn8] at HR2 hml ⊢
    have HG := Lib.hid hgb
    clear hye hP hown7 hn8 hx hfz hgb hR hR2 hbx hol xc0 xc1 EX z1 z2 z3 z4 hX9 ht9
    go_cut [9] (fun x9 wx => wx = X9.drew.setCell ⟨g, p, none⟩ (.int .u8 (P : Int)))
    case first =>
     refine wp_region_Z (fun i => i == 12) (fun Y => Ext X9 Y) (by kernel_rfl) (Ext.refl X9).drew fun hSX => ?_
     refine tk 0 ⟨_, _, _, _, _, _⟩ ?_ rfl (by kernel_rfl) (fun _ _ _ h => h) (Or.inl ⟨by rfl, ?_⟩) hSX ?_
     rotate_left
     ·intro wX hS
      obtain ⟨q0, q1⟩ := HQ.out wX hS
      go_simp
      (try with_reducible rfl)
     (try simp only [Act.put, List.setIfInBounds_toArray, List.set_cons_zero, List.set_cons_succ])
     refine tk 1 ⟨_, _, _, _, _, _⟩ ?_ rfl (by kernel_rfl) (fun _ _ _ h => h) (Or.inl ⟨by rfl, ?_⟩) hSX ?_
     rotate_left
     ·intro wX hS
      obtain ⟨q0, q1⟩ := HQ.out wX hS
      go_simp
      (try with_reducible rfl)
     (try simp only [Act.put, List.setIfInBounds_toArray, List.set_cons_zero, List.set_cons_succ])
     refine tk 2 ⟨_, _, _, _, _, _⟩ ?_ rfl (by kernel_rfl) (fun _ _ _ h => h) (Or.inl ⟨by rfl, ?_⟩) hSX ?_
     rotate_left
     ·intro wX hS
      obtain ⟨q0, q1⟩ := HQ.out wX hS
      go_simp
      (try with_reducible rfl)
     (try simp only [Act.put, List.setIfInBounds_toArray, List.set_cons_zero, List.set_cons_succ])
     refine tk 3 ⟨_, _, _, _, _, _⟩ ?_ rfl (by kernel_rfl) (fun _ _ _ h => h) (Or.inl ⟨by rfl, ?_⟩) hSX ?_
     rotate_left
     ·intro wX hS
      obtain ⟨q0, q1⟩ := HQ.out wX hS
      go_simp
      (try with_reducible rfl)
     (try simp only [Act.put, List.setIfInBounds_toArray, List.set_cons_zero, List.set_cons_succ])
     refine tk 4 ⟨_, _, _, _, _, _⟩ ?_ rfl (by kernel_rfl) (fun _ _ _ h => h) (Or.inl ⟨by rfl, ?_⟩) hSX ?_
     rotate_left
     ·intro wX hS
      obtain ⟨q0, q1⟩ := HQ.out wX hS
      go_simp
      (try with_reducible rfl)
     (try simp only [Act.put, List.setIfInBounds_toArray, List.set_cons_zero, List.set_cons_succ])
     refine tk 5 ⟨_, _, _, _, _, _⟩ ?_ rfl (by kernel_rfl) (fun _ _ _ h => h) (Or.inl ⟨by rfl, ?_⟩) hSX ?_
     rotate_left
     ·intro wX hS
      obtain ⟨q0, q1⟩ := HQ.out wX hS
      go_simp
      (try with_reducible rfl)
     (try simp only [Act.put, List.setIfInBounds_toArray, List.set_cons_zero, List.set_cons_succ])
     refine tk 6 ⟨_, _, _, _, _, _⟩ ?_ rfl (by kernel_rfl) (fun _ _ _ h => h) (Or.inl ⟨by rfl, ?_⟩) hSX ?_
     rotate_left
     ·intro wX hS
      obtain ⟨q0, q1⟩ := HQ.out wX hS
      go_simp
      (try with_reducible rfl)
     (try simp only [Act.put, List.setIfInBounds_toArray, List.set_cons_zero, List.set_cons_succ])
     refine tk 7 ⟨_, _, _, _, _, _⟩ ?_ rfl (by kernel_rfl) (fun _ _ _ h => h) (Or.inl ⟨by rfl, ?_⟩) hSX ?_
     rotate_left
     ·intro wX hS
      obtain ⟨q0, q1⟩ := HQ.out wX hS
      go_simp
      (try with_reducible rfl)
     (try simp only [Act.put, List.setIfInBounds_toArray, List.set_cons_zero, List.set_cons_succ])
     refine tk 8 ⟨_, _, _, _, _, _⟩ ?_ rfl (by kernel_rfl) (fun _ _ _ h => h) (Or.inl ⟨by rfl, ?_⟩) hSX ?_
     rotate_left
     ·intro wX hS
      obtain ⟨q0, q1⟩ := HQ.out wX hS
      go_simp
      (try with_reducible rfl)
     (try simp only [Act.put, List.setIfInBounds_toArray, List.set_cons_zero, List.set_cons_succ])
     refine tk 9 ⟨_, _, _, _, _, _⟩ ?_ rfl (by kernel_rfl) (fun _ _ _ h => h) (Or.inl ⟨by rfl, ?_⟩) hSX ?_
     rotate_left
     ·intro wX hS
      obtain ⟨q0, q1⟩ := HQ.out wX hS
      go_simp
      (try with_reducible rfl)
     (try simp only [Act.put, List.setIfInBounds_toArray, List.set_cons_zero, List.set_cons_succ])
     refine wpAnyZ_one (i := 10) (o := ⟨_, _, _, _, _, _⟩) (by kernel_rfl) rfl (fun K hK => ?_)
     go_simp
     go_at_call 30
     refine (hfl _).mono ?_
     rintro e y1 ⟨rfl, rfl⟩
     refine hK _ _ (.inr hSX) (fun _ => ?_)
     clear hK
     (try simp only [Act.put, List.setIfInBounds_toArray, List.set_cons_zero, List.set_cons_succ])
     refine tk 11 ⟨_, _, _, _, _, _⟩ ?_ rfl (by kernel_rfl) (fun _ _ _ h => h) (Or.inl ⟨by rfl, ?_⟩) hSX ?_
     rotate_left
     ·intro wX hS
      obtain ⟨q0, q1⟩ := HQ.out wX hS
      go_simp
      (try with_reducible rfl)
     (try simp only [Act.put, List.setIfInBounds_toArray, List.set_cons_zero, List.set_cons_succ])
     have hc1 := (HQ.out _ hSX).1
     have hfz1 := HF.out _ hSX
     refine wpAnyZ_one (i := 12) (o := ⟨_, _, _, _, _, _⟩) (by kernel_rfl) rfl (fun K hK => ?_)
     go_simp
     refine hK _ _ (.inl rfl) (fun _ => ?_)
     clear hK
     (try simp only [Act.put, List.setIfInBounds_toArray, List.set_cons_zero, List.set_cons_succ])
     refine wpAnyZ_done (by kernel_rfl) ?_ _
     go_wp2_with fail
     go_meet
     rfl
    case rest =>
     obtain rfl := hcut
     have hS := HR2.out _ (Ext.refl X9).drew
     have hES : Ext w (X9.drew.setCell ⟨g, p, none⟩ (.int .u8 (P : Int))) := (EX2.comp (Ext.refl X9).drew).setCell (p := ⟨g, p, none⟩) HG.out.1 _
     obtain ⟨w9, hw9⟩ : ∃ w9, X9.drew.setCell ⟨g, p, none⟩ (.int .u8 (P : Int)) = w9 := ⟨_, rfl⟩
     rw [hw9] at hS hES ⊢
     clear hw9 HR2 HQ HF EX2 HG
     have hRA := hS.ext ((Ext.refl _).alloc (.cells #[.int .i64 (p : Int)] 3))
     have hown := hRA.r8
     rw [HN8.out] at hown
     have hWs := hES.size
     have hn8b : n8 ≤ 36 := by omega
     go_wp2_with (at_builtin; refine wpList_append_own_at _ rfl _ _ 22 rfl w.heap.size 3 i0 (.int .i64 0) 1 8 Try.underlying22 hi0 hz0 hz1 hz2 rfl (by decide) _ _ _ rfl hown ⟨w9.heap.size, 0, none⟩ 1 1 [.int .i64 (p : Int)] rfl rfl (cell_one_new _ _ _) (by simp [Value.oneCell']) (by unfold maxLen; omega) (by omega) (by simp at hWs ⊢; omega) ?_; intro v' w7 hown' hgrow hnil hat)
     rw [← HN8.out] at hown'
     have hR3 := hRA.app8 hown' hgrow hat
     have EX3 : Ext w w7 := (hES.alloc _).grown hgrow (by simp at hWs ⊢; omega) (fun q e => (hown.lt q e).1)
     obtain ⟨ma3, mc3, rfl⟩ := own_formU hown'
     rw [← HA.out] at hR3
     obtain ⟨n3, hn3⟩ : ∃ n3, (atK f i).length + 1 = n3 := ⟨_, rfl⟩
     (try rw [hn3] at hR3)
     have HM3 := Lib.hid (show n3 = (atK f (i + 1)).length by rw [HA.out, List.length_append]; exact hn3.symm)
     (try rw [← HN8.out, hn3])
     (try rw [hn3])
     clear hown hown' hgrow hnil hat hRA hS hES
     (try go_frame)
     go_wp2
     go_roundw
     case rel => exact ⟨i + 1, hlt, by go_num, ⟨ma3, mc3, by rw [HM3.out]⟩, hR3, EX3⟩
     case measure => simp [Go.RowKit.intOf]; omega
  ·have hend : outK rs f i = outK rs f m ∧ atK f i = atK f m := by
    by_cases h : i < m
    ·have hz : xn = 0 := by omega
     have h1 := HST.out hz i
     have h2 := HST.out hz m
     rw [h1.1, h1.2, h2.1, h2.2]; exact ⟨rfl, rfl⟩
    ·obtain rfl : i = m := by omega
     exact ⟨rfl, rfl⟩
   have hfin : WrongRes n (outK rs f m) (atK f m) w (.returned (.tuple #[.slice (some ⟨g, 0, none⟩) n c1, .slice ma (atK f m).length mc])) X := by
    have h7 := hR.r7
    have h8 := hR.r8
    rw [natI_length, outK_len, HN.out] at h7
    rw [hend.1] at h7
    rw [hend.2] at h8
    exact ⟨_, c1, ma, mc, rfl, HCAP.out, own_bytes h7, own_ints h8, EX⟩
   rw [hend.2]
   have HFIN := Lib.hid hfin
   by_cases h : i < m
   ·have hltz : (i : Int) < (m : Int) := by omega
    have hz : xn = 0 := by omega
    have hxpz : ¬ (0 : Int) < (xn : Int) := by omega
    clear hgo hz h hR hend hfin
    go_wp2
    exact bodyPost_ret (v := .tuple #[.slice (some ⟨g, 0, none⟩) n c1, .slice ma (atK f m).length mc]) (by simp [results, Try.results29, go_sem]) rfl HFIN.out
   ·have hltz : ¬ (i : Int) < (m : Int) := by omega
    clear hgo h hR hend hfin
    go_wp2
    exact bodyPost_ret (v := .tuple #[.slice (some ⟨g, 0, none⟩) n c1, .slice ma (atK f m).length mc]) (by simp [results, Try.results29, go_sem]) rfl HFIN.out
end Go.Proofs.Ytnhpcoagkmgdoaa

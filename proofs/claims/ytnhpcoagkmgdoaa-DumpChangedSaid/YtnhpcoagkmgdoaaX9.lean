import Derived.Deep.QuietTactic
import Derived.BigQuiet
import Derived.BigFrameIn
import Derived.Test.YtnhpcoagkmgdoaaX8
import Derived.Test.YtnhpcoagkmgdoaaX5
import Derived.Test.YtnhpcoagkmgdoaaX7
set_option linter.unusedVariables false
set_option linter.unusedSimpArgs false
/- Layer 10's reference: the rows of a block. -/
namespace Go.Q
open Go.RowKit
/-- how many of the first rows have a hole in a place -/
def cntK (rs : List Nat) (k : Nat) : Nat → Nat
 | 0 => 0
 | i + 1 => cntK rs k i + rs[i]?.getD 0 / 2 ^ k % 2
theorem cntK_le (rs : List Nat) (k : Nat) : ∀ i, cntK rs k i ≤ i
 | 0 => Nat.le_refl _
 | i + 1 => by have := cntK_le rs k i; unfold cntK; omega
theorem bit_xor (a b k : Nat) : (a ^^^ b) / 2 ^ k % 2 = (a / 2 ^ k % 2 + b / 2 ^ k % 2) % 2 := by
 rw [bit_test, bit_test, bit_test, Nat.testBit_xor]
 cases a.testBit k <;> cases b.testBit k <;> rfl
theorem cntK_par (rs : List Nat) (k : Nat) : ∀ i, i ≤ rs.length → cntK rs k i % 2 = xorL (rs.take i) / 2 ^ k % 2
 | 0, _ => by
  show 0 % 2 = 0 / 2 ^ k % 2
  rw [Nat.zero_div]
 | i + 1, h => by
  have ih := cntK_par rs k i (by omega)
  rw [xorL_take (by omega), bit_xor, ← ih]
  show (cntK rs k i + rs[i]?.getD 0 / 2 ^ k % 2) % 2 = _
  omega
/-- the bits below one, and the next one -/
theorem low_succ (x k : Nat) : x % 2 ^ (k + 1) = x % 2 ^ k + x / 2 ^ k % 2 * 2 ^ k := by
 rw [Nat.pow_succ, Nat.mod_mul, Nat.mul_comm (2 ^ k)]
theorem rows_snoc (ws : List Int) {i : Nat} (hi : i < ws.length) : (ws.take (i + 1)).flatMap rowsW = (ws.take i).flatMap rowsW ++ rowsW (ws[i]?.getD 0) := by
 rw [List.take_add_one, List.flatMap_append, List.getElem?_eq_getElem hi]
 show _ ++ [ws[i]].flatMap rowsW = _
 rw [List.flatMap_cons, List.flatMap_nil, List.append_nil]
 rfl
theorem rowsW_take (x : Int) : ∀ {j : Nat}, j < 4 → (rowsW x).take (j + 1) = (rowsW x).take j ++ [rowW x j]
 | 0, _ => rfl
 | 1, _ => rfl
 | 2, _ => rfl
 | 3, _ => rfl
 | j + 4, h => absurd h (by omega)
theorem rowW_odd (x : Int) (j : Nat) : rowW x j = oddR (x.toNat / 64 ^ j % 64) := by unfold rowW; rw [← oddR_mod]
theorem rows_lt {rs : List Nat} (h : ∀ r ∈ rs, ∃ n, r = oddR n) : ∀ r ∈ rs, r < 256 := fun r hr => by
 obtain ⟨n, rfl⟩ := h r hr
 have := oddR_lt n
 omega
theorem rowsW_odd (ws : List Int) : ∀ r ∈ ws.flatMap rowsW, ∃ n, r = oddR n := fun r hr => by
 rw [List.mem_flatMap] at hr
 obtain ⟨x, _, hx⟩ := hr
 unfold rowsW at hx
 simp only [List.mem_cons, List.not_mem_nil, or_false] at hx
 rcases hx with h | h | h | h <;> exact ⟨_, h⟩
theorem flat4_length : ∀ ws : List Int, (ws.flatMap rowsW).length = 4 * ws.length
 | [] => rfl
 | w :: ws => by
  rw [List.flatMap_cons, List.length_append, flat4_length ws, List.length_cons]
  show 4 + 4 * ws.length = _
  omega
end Go.Q
namespace Go.Proofs.Ytnhpcoagkmgdoaa
open Go.RowKit Go.Q
theorem own_extD {w w' : World} {B t sz n : Nat} {v : Value} {xs : List Value} (h : w.ownsRow B t sz v n xs) (E : Ext w w') : w'.ownsRow B t sz v n xs :=
 h.kept (row := none) ⟨E.os, E.tape, E.output, E.size, fun k hk _ => E.block k hk⟩ (by cases v.ownBlock <;> simp)
set_option maxRecDepth 100000 in
set_option maxHeartbeats 8000000 in
theorem rblock_any (a : Option Addr) (n c : Nat) (ws : List Int) (w : World) (hn : ws.length = n) (hn16 : n ≤ 16) (hI : IntsAt w a ws) (hw : ∀ x ∈ ws, 0 ≤ x ∧ x ≤ 16777215) :
  Calls Try.prog 85 #[.slice a n c] w fun e w' => ∃ v, e = .returned v ∧ w'.ownsRow w.heap.size 5 1 v (blockW ws).length (ub (natI (blockW ws))) ∧ Ext w w' := by
 have HN := Lib.hid hn
 have HW := Lib.hid hw
 have HI := Lib.hid hI
 clear hn hw hI
 go_enter Try.func85, Try.ntmps85
 go_wp2
 go_loopw [3, 4] (fun s3 s4 X => ∃ i : Nat, i ≤ n ∧ s4 = .int .i64 (i : Int) ∧ X.ownsRow w.heap.size 5 1 s3 (4 * i) (ub (natI ((ws.take i).flatMap rowsW))) ∧ Ext w X) (fun _ s4 _ => n - (Go.RowKit.intOf s4).toNat)
 case atStart => exact ⟨0, Nat.zero_le _, rfl, World.ownsRow_nil _ _ _ _, Ext.refl w⟩
 case round =>
  obtain ⟨i, hi, rfl, hown, EX⟩ := hrel
  obtain ⟨X, rfl⟩ : ∃ X : World, X = wr := ⟨_, rfl⟩
  by_cases hlt : i < n
  ·have hltz : (i : Int) < (n : Int) := by omega
   obtain ⟨b, off, rfl, hb, hc⟩ : ∃ b off, a = some ⟨b, off, none⟩ ∧ b < w.heap.size ∧ ∀ j, j < ws.length → w.cell? ⟨b, off + j, none⟩ = some (.int .i64 (ws[j]?.getD 0)) := HI.out.elim (fun h => by have := HN.out; rw [h] at this; simp at this; omega) id
   have hx := (EX.cell (p := ⟨b, off + i, none⟩) hb).trans (hc i (by rw [HN.out]; exact hlt))
   obtain ⟨x, hxe⟩ : ∃ x, ws[i]?.getD 0 = x := ⟨_, rfl⟩
   have hxb : 0 ≤ x ∧ x ≤ 16777215 := by rw [← hxe, List.getElem?_eq_getElem (by rw [HN.out]; exact hlt)]; exact HW.out _ (List.getElem_mem _)
   have HR := Lib.hid (rows_snoc ws (i := i) (by rw [HN.out]; exact hlt))
   rw [hxe] at hx HR
   obtain ⟨xn, rfl⟩ := Int.eq_ofNat_of_zero_le hxb.1
   obtain ⟨pre, hpre⟩ : ∃ pre, (ws.take i).flatMap rowsW = pre := ⟨_, rfl⟩
   rw [hpre] at hown HR
   have HPL := Lib.hid (show pre.length = 4 * i by rw [← hpre, flat4_length, List.length_take, HN.out]; omega)
   clear hc hxe hpre hb
   go_wp2
   go_loopw [3, 5, 6] (fun s3 s5 s6 Y => ∃ j : Nat, j ≤ 4 ∧ s6 = .int .i64 (j : Int) ∧ s5 = .int .i64 ((xn / 64 ^ j : Nat) : Int) ∧ Y.ownsRow w.heap.size 5 1 s3 (4 * i + j) (ub (natI (pre ++ (rowsW (xn : Int)).take j))) ∧ Ext w Y) (fun _ _ s6 _ => 4 - (Go.RowKit.intOf s6).toNat)
   case atStart => exact ⟨0, by omega, rfl, by simp, by simpa using hown, EX⟩
   case round =>
    clear hown EX hx
    obtain ⟨j, hj, rfl, rfl, hown, EY⟩ := hrel
    obtain ⟨Y, rfl⟩ : ∃ Y : World, Y = wr := ⟨_, rfl⟩
    by_cases hj4 : j < 4
    ·have hjz : (j : Int) < 4 := by omega
     have hle : xn / 64 ^ j ≤ xn := Nat.div_le_self _ _
     have HD := Lib.hid (show xn / 64 ^ (j + 1) = xn / 64 ^ j / 64 by rw [Nat.pow_succ, Nat.div_div_eq_div_mul])
     have HT := Lib.hid (rowsW_take (xn : Int) hj4)
     have HO := Lib.hid (rowW_odd (xn : Int) j)
     rw [Int.toNat_natCast] at HO
     obtain ⟨y, hy⟩ : ∃ y, xn / 64 ^ j = y := ⟨_, rfl⟩
     rw [hy] at hle HD HO ⊢
     obtain ⟨r, hr⟩ : ∃ r, y % 64 = r := ⟨_, rfl⟩
     have hr64 : r < 64 := by rw [← hr]; exact Nat.mod_lt _ (by decide)
     rw [hr] at HO
     obtain ⟨q, hq⟩ : ∃ q, y / 64 = q := ⟨_, rfl⟩
     rw [hq] at HD
     have hro := fun W => rodd_any r W hr64
     obtain ⟨o, ho⟩ : ∃ o, oddR r = o := ⟨_, rfl⟩
     rw [ho] at hro HO
     have t1 : Int.tmod (y : Int) 64 = (r : Int) := by rw [Int.tmod_eq_emod_of_nonneg (by omega)]; omega
     have t2 : (y : Int) % 64 = (r : Int) := by omega
     have t3 : Int.tdiv (y : Int) 64 = (q : Int) := by rw [Int.tdiv_eq_ediv_of_nonneg (by omega)]; omega
     have t4 : (y : Int) / 64 = (q : Int) := by omega
     have w1 : IntKind.i64.wrap (r : Int) = (r : Int) := IntWalk.i64_in _ (by omega)
     have w2 : IntKind.u8.wrap (r : Int) = (r : Int) := IntWalk.u8_in _ (by omega)
     have w3 : IntKind.i64.wrap (q : Int) = (q : Int) := IntWalk.i64_in _ (by omega)
     clear hy hr hq ho
     obtain ⟨i0, hi0, hz0, hz1, hz2⟩ := info_parts Try.infoU
     have hYs := EY.size
     go_wp2_with fail
     refine (hro _).mono ?_
     rintro e w' ⟨rfl, rfl⟩
     go_wp2_with (at_builtin; refine wpList_append_own _ rfl _ _ 23 rfl w.heap.size 5 i0 (.int .u8 0) 1 1 Try.underlying23 hi0 hz0 hz1 hz2 rfl (by decide) _ _ _ rfl (hown.alloc _) ⟨w'.heap.size, 0, none⟩ 1 1 [.int .u8 (o : Int)] rfl rfl (cell_one_new _ _ _) (by simp [Value.oneCell']) (by unfold maxLen; omega) (by omega) (by simp; omega) ?_; intro v' w7 hown' hgrow hnil)
     have E7 : Ext w w7 := (EY.alloc _).grown hgrow (by simp; omega) (fun q e => (hown.lt q e).1)
     have hown7 : w7.ownsRow w.heap.size 5 1 v' (4 * i + (j + 1)) (ub (natI (pre ++ (rowsW (xn : Int)).take (j + 1)))) := by
      rw [HT.out, HO.out, ← List.append_assoc, natI_append]
      unfold ub at hown' ⊢
      rw [List.map_append]
      exact hown'
     clear hown hown' hgrow hnil EY
     (try go_frame)
     go_wp2
     go_roundw
     case rel => exact ⟨j + 1, by omega, by go_num, by rw [HD.out], hown7, E7⟩
     case measure => simp [Go.RowKit.intOf]; omega
    ·have hjz : ¬ (j : Int) < 4 := by omega
     obtain rfl : j = 4 := by omega
     obtain ⟨va, vc, rfl⟩ := own_formU hown
     have hown8 : Y.ownsRow w.heap.size 5 1 (.slice va (4 * i + 4) vc) (4 * (i + 1)) (ub (natI ((ws.take (i + 1)).flatMap rowsW))) := by
      rw [HR.out]
      exact hown
     go_wp2
     go_roundw
     case rel => exact ⟨i + 1, by omega, by go_num, hown8, EY⟩
     case measure => simp [Go.RowKit.intOf]; omega
  ·have hltz : ¬ (i : Int) < (n : Int) := by omega
   obtain rfl : i = n := by omega
   rw [List.take_of_length_le (by rw [HN.out]; exact Nat.le_refl _)] at hown
   have HB := Lib.hid (show blockW ws = ws.flatMap rowsW ++ [oddR (xorL (ws.flatMap rowsW) % 64)] from rfl)
   have hlt := rows_lt (rowsW_odd ws)
   have HRL := Lib.hid (show (ws.flatMap rowsW).length = 4 * i by rw [flat4_length, HN.out])
   obtain ⟨rs, hrs⟩ : ∃ rs, ws.flatMap rowsW = rs := ⟨_, rfl⟩
   rw [hrs] at hown HB hlt HRL
   have hx256 := xorL_lt hlt
   have HPAR := Lib.hid (fun k => (cntK_par rs k (4 * i) (by rw [HRL.out]; exact Nat.le_refl _)).trans (by rw [List.take_of_length_le (by rw [HRL.out]; exact Nat.le_refl _)]))
   have HLT := Lib.hid hlt
   clear hlt hrs
   obtain ⟨va, vc, rfl⟩ := own_formU hown
   have HC := Lib.hid (show ∀ q, q < 4 * i → ∃ b off, va = some ⟨b, off, none⟩ ∧ X.cell? ⟨b, off + q, none⟩ = some (.int .u8 ((rs[q]?.getD 0 : Nat) : Int)) from fun q hq => by
    rcases own_bytes hown with e | ⟨b, off, ha, hb, hc⟩
    ·have := natI_length rs; rw [e] at this; have := HRL.out; simp at *; omega
    ·have := hc q (by rw [natI_length, HRL.out]; exact hq)
     rw [natI_get] at this
     exact ⟨b, off, ha, this⟩)
   have HOW := Lib.hid hown
   have HEX := Lib.hid EX
   clear hown EX
   obtain ⟨L, hL⟩ : ∃ L, 4 * i = L := ⟨_, rfl⟩
   rw [hL] at HC HRL HPAR HOW ⊢
   have hL64 : L ≤ 64 := by omega
   go_wp2
   go_loopw [7, 8] (fun s7 s8 wr => ∃ k : Nat, k ≤ 6 ∧ s8 = .int .i64 (k : Int) ∧ s7 = .int .i64 ((xorL rs % 2 ^ k : Nat) : Int) ∧ wr = X) (fun _ s8 _ => 6 - (Go.RowKit.intOf s8).toNat)
   case atStart => exact ⟨0, by omega, rfl, by rw [Nat.pow_zero, Nat.mod_one]; rfl, rfl⟩
   case round =>
    obtain ⟨k, hk, rfl, rfl, rfl⟩ := hrel
    by_cases hk6 : k < 6
    ·have hkz : (k : Int) < 6 := by omega
     have HS := Lib.hid (low_succ (xorL rs) k)
     have HP2 := Lib.hid (HPAR.out k)
     have hlow : xorL rs % 2 ^ k < 256 := Nat.lt_of_le_of_lt (Nat.mod_le _ _) hx256
     have hbt := fun (q : Nat) W => rbit_any (rs[q]?.getD 0) k W (by have := get_lt HLT.out (by decide) q; omega) (by omega)
     have HBT := Lib.hid hbt
     have hpw := fun W => rpower10_any k W (by omega)
     have hP32 : 2 ^ k ≤ 32 := by
      have : 2 ^ k ≤ 2 ^ 5 := Nat.pow_le_pow_right (by decide) (by omega)
      exact this
     obtain ⟨lw, hlw⟩ : ∃ lw, xorL rs % 2 ^ k = lw := ⟨_, rfl⟩
     rw [hlw] at hlow HS ⊢
     obtain ⟨P, hP⟩ : ∃ P, 2 ^ k = P := ⟨_, rfl⟩
     rw [hP] at hpw hP32 HS HP2
     clear hbt hlw
     go_wp2
     go_loopw [9, 10] (fun s9 s10 wr2 => ∃ q : Nat, q ≤ L ∧ s10 = .int .i64 (q : Int) ∧ s9 = .int .i64 ((cntK rs k q : Nat) : Int) ∧ wr2 = wr) (fun _ s10 _ => L - (Go.RowKit.intOf s10).toNat)
     case atStart => exact ⟨0, by omega, rfl, rfl, rfl⟩
     case round =>
      obtain ⟨q, hq, rfl, rfl, rfl⟩ := hrel
      have hcl := cntK_le rs k q
      by_cases hqL : q < L
      ·have hqz : (q : Int) < (L : Int) := by omega
       obtain ⟨b, off, rfl, hc⟩ := HC.out q hqL
       have hy := get_lt HLT.out (by decide) q
       have hbq := HBT.out q
       have HCS := Lib.hid (show cntK rs k (q + 1) = cntK rs k q + rs[q]?.getD 0 / 2 ^ k % 2 from rfl)
       obtain ⟨y, hye⟩ : ∃ y, rs[q]?.getD 0 = y := ⟨_, rfl⟩
       rw [hye] at hy hbq hc HCS
       obtain ⟨z, hz⟩ : ∃ z, y / 2 ^ k % 2 = z := ⟨_, rfl⟩
       have hz2 : z ≤ 1 := by have := Nat.mod_two_eq_zero_or_one (y / 2 ^ k); omega
       rw [hz] at hbq HCS
       obtain ⟨ct, hct⟩ : ∃ ct, cntK rs k q = ct := ⟨_, rfl⟩
       rw [hct] at hcl HCS ⊢
       have w1 : IntKind.i64.wrap (y : Int) = (y : Int) := IntWalk.i64_in _ (by omega)
       clear hye hz hct
       go_wp2_with fail
       refine (hbq _).mono ?_
       rintro e w' ⟨rfl, rfl⟩
       go_wp2
       go_roundw
       case rel => exact ⟨q + 1, by omega, by go_num, by rw [HCS.out]; go_num, (by first | rfl | trivial)⟩
       case measure => simp [Go.RowKit.intOf]; omega
      ·have hqz : ¬ (q : Int) < (L : Int) := by omega
       obtain rfl : q = L := by omega
       obtain ⟨ct, hct⟩ : ∃ ct, cntK rs k q = ct := ⟨_, rfl⟩
       rw [hct] at hcl HP2 ⊢
       obtain ⟨pp, hpp⟩ : ∃ pp, ct % 2 = pp := ⟨_, rfl⟩
       have hpp2 : pp ≤ 1 := by have := Nat.mod_two_eq_zero_or_one ct; omega
       rw [hpp] at HP2
       have hpo := HP2.out
       rw [← hpo] at HS
       obtain ⟨z, hz⟩ : ∃ z, pp * P = z := ⟨_, rfl⟩
       have hz32 : z ≤ 32 := by rw [← hz]; exact Nat.le_trans (Nat.mul_le_mul_right P hpp2) (by omega)
       rw [hz] at HS
       have t1 : Int.tmod (ct : Int) 2 = (pp : Int) := by rw [Int.tmod_eq_emod_of_nonneg (by omega)]; omega
       have t2 : (ct : Int) % 2 = (pp : Int) := by omega
       have t3 : (pp : Int) * (P : Int) = (z : Int) := by rw [← hz]; exact (Int.natCast_mul pp P).symm
       have t4 : IntKind.i64.wrap ((pp : Int) * (P : Int)) = (z : Int) := by rw [t3]; exact IntWalk.i64_in _ (by omega)
       clear hct hpp hpo hz HP2
       go_wp2_with fail
       refine (hpw _).mono ?_
       rintro e w' ⟨rfl, rfl⟩
       go_wp2
       go_roundw
       case rel => exact ⟨k + 1, by omega, by go_num, by rw [HS.out]; go_num, (by first | rfl | trivial)⟩
       case measure => simp [Go.RowKit.intOf]; omega
    ·have hkz : ¬ (k : Int) < 6 := by omega
     obtain rfl : k = 6 := by omega
     obtain ⟨r, hr⟩ : ∃ r, xorL rs % 2 ^ 6 = r := ⟨_, rfl⟩
     have hr64 : r < 64 := by rw [← hr]; exact Nat.mod_lt _ (by decide)
     rw [hr]
     have hro := fun W => rodd_any r W hr64
     obtain ⟨o, ho⟩ : ∃ o, oddR r = o := ⟨_, rfl⟩
     have HB2 := Lib.hid (show blockW ws = rs ++ [o] by rw [HB.out, show xorL rs % 64 = r from hr, ho])
     rw [ho] at hro
     have w2 : IntKind.u8.wrap (r : Int) = (r : Int) := IntWalk.u8_in _ (by omega)
     have hown := HOW.out
     have EX := HEX.out
     have hXs := EX.size
     clear hr ho
     obtain ⟨i0, hi0, hz0, hz1, hz2⟩ := info_parts Try.infoU
     go_wp2_with fail
     refine (hro _).mono ?_
     rintro e w' ⟨rfl, rfl⟩
     go_wp2_with (at_builtin; refine wpList_append_own _ rfl _ _ 23 rfl w.heap.size 5 i0 (.int .u8 0) 1 1 Try.underlying23 hi0 hz0 hz1 hz2 rfl (by decide) _ _ _ rfl (hown.alloc _) ⟨w'.heap.size, 0, none⟩ 1 1 [.int .u8 (o : Int)] rfl rfl (cell_one_new _ _ _) (by simp [Value.oneCell']) (by unfold maxLen; omega) (by omega) (by simp; omega) ?_; intro v' w7 hown' hgrow hnil)
     have E7 : Ext w w7 := (EX.alloc _).grown hgrow (by simp; omega) (fun q e => (hown.lt q e).1)
     have hown7 : w7.ownsRow w.heap.size 5 1 v' (blockW ws).length (ub (natI (blockW ws))) := by
      rw [HB2.out, natI_append, List.length_append, HRL.out]
      unfold ub at hown' ⊢
      rw [List.map_append]
      exact hown'
     clear hown hown' hgrow hnil EX
     (try go_frame)
     go_wp2
     exact bodyPost_ret (v := v') (by simp [results, Try.results85, go_sem]) rfl ⟨v', rfl, hown7, E7⟩
end Go.Proofs.Ytnhpcoagkmgdoaa
/- Layer 10's reference: the tape of words. -/
namespace Go.Q
open Go.RowKit
def lenV : Value → Nat
 | .slice _ n _ => n
 | _ => 0
theorem tape_snoc (ws : List Int) (i : Nat) : (List.range (i + 1)).flatMap (tapeB ws) = (List.range i).flatMap (tapeB ws) ++ tapeB ws i := by
 rw [List.range_succ, List.flatMap_append, List.flatMap_cons, List.flatMap_nil, List.append_nil]
theorem tape_part_len {ws : List Int} {i : Nat} (hi : i ≤ manyB ws) : ((List.range i).flatMap (tapeB ws)).length = 65 * i := flat_len2 i fun j hj => (tapeB_good (by omega)).len
end Go.Q
namespace Go.Proofs.Ytnhpcoagkmgdoaa
open Go.RowKit Go.Q Go.Joins
theorem slice_ints (W : World) (g n k1 lo hi : Nat) (h1 : lo < k1) (h2 : lo ≤ hi) (h3 : hi ≤ k1) : (Instr.slice 22 (.slice (some ⟨g, 0, none⟩) n k1) (some (.int .i64 (lo : Int))) (some (.int .i64 (hi : Int))) none).run Try.prog W = .ok (.slice (some ⟨g, lo, none⟩) (hi - lo) (k1 - lo)) W := by
 have h := run_slice_lh (P := Try.prog) (w := W) 22 (some ⟨g, 0, none⟩) n k1 (by rw [Try.underlying22]; kernel_rfl) .i64 .i64 (lo : Int) (hi : Int) (by omega) (by omega) (by omega)
 rw [h]
 have e : (sizeOf (Try.prog.elem 22)).run Try.prog W = .ok 1 W := by
  rw [show Try.prog.elem 22 = 3 by kernel_rfl]
  obtain ⟨i0, hi, _, hz1, _⟩ := info_parts Try.infoE
  simp [sizeOf, typeInfo, hi, hz1, go_sem]
 rw [e]
 show Result.ok (sliced _ _ _ _ 1) W = _
 unfold sliced
 rw [if_neg (by omega)]
 simp [Addr.add]
 exact fun h => h.symm
theorem slice_intsAt (W : World) (g n k1 lo hi : Nat) (h1 : lo < k1) (h2 : lo ≤ hi) (h3 : hi ≤ k1) : (Instr.sliceAt 22 (.slice (some ⟨g, 0, none⟩) n k1) (some (.int .i64 (lo : Int))) (some (.int .i64 (hi : Int))) none).run Try.prog W = .ok (.slice (some ⟨g, lo, none⟩) (hi - lo) (k1 - lo)) W := by
 refine Eq.trans (run_sliceAt_slice (P := Try.prog) (w := W) 22 _ _ _ _ (by rw [Try.underlying22]; kernel_rfl)) ?_
 exact slice_ints W g n k1 lo hi h1 h2 h3
theorem sub_ints {W : World} {g lo : Nat} {xs : List Int} (h : IntsAt W (some ⟨g, 0, none⟩) xs) (hl : lo + 16 ≤ xs.length) : IntsAt W (some ⟨g, lo, none⟩) ((xs.drop lo).take 16) := by
 rcases h with e | ⟨b, off, ha, hb, hc⟩
 ·rw [e] at hl; simp at hl
 ·simp only [Option.some.injEq, Addr.mk.injEq, and_true] at ha
  obtain ⟨rfl, rfl⟩ := ha
  refine .inr ⟨g, lo, rfl, hb, fun i hi => ?_⟩
  rw [List.length_take, List.length_drop] at hi
  have := hc (lo + i) (by omega)
  rw [Nat.zero_add] at this
  rw [this, List.getElem?_take, if_pos (by omega), List.getElem?_drop]
set_option maxRecDepth 100000 in
set_option maxHeartbeats 8000000 in
theorem rtape_any (a : Option Addr) (n c : Nat) (ws : List Int) (w : World) (hn : ws.length = n) (hn560 : n ≤ 560) (hI : IntsAt w a ws) (hw : wordOk ws) :
  Calls Try.prog 45 #[.slice a n c] w fun e w' => ∃ v, e = .returned v ∧ w'.ownsRow w.heap.size 5 1 v (tapeW ws).length (ub (natI (tapeW ws))) ∧ Ext w w' := by
 have hpm := pad_mod ws
 have hpl := pad_len ws
 rw [hn] at hpl
 obtain ⟨pad, hpad⟩ : ∃ pad, (16 - (n + 1) % 16) % 16 = pad := ⟨_, rfl⟩
 have hpad16 : pad < 16 := by omega
 have hpz : (n + 1 + pad) % 16 = 0 := by omega
 have hpn : ∀ i, i < pad → (n + 1 + i) % 16 ≠ 0 := fun i hi => by omega
 have HPW := Lib.hid (show padW ws = ((n : Int) :: ws) ++ List.replicate pad 0 by unfold padW; rw [hn, hpad])
 have hN : (padW ws).length = n + 1 + pad := by rw [HPW.out, List.length_append, List.length_cons, List.length_replicate, hn]
 have HPN := Lib.hid hpn
 have HWB := Lib.hid (pad_ok hw (by omega))
 have HTB := Lib.hid (tape_blocks ws)
 have hmb : 16 * manyB ws = n + 1 + pad := by unfold manyB; omega
 obtain ⟨nb, hnb⟩ : ∃ nb, manyB ws = nb := ⟨_, rfl⟩
 rw [hnb] at hmb
 have HNB := Lib.hid hnb
 have HN := Lib.hid hn
 have HNL := Lib.hid hN
 clear hn hpm hpl hpad hpn hw hN hnb
 obtain ⟨i0, hi0, hz0, hz1, hz2⟩ := info_parts Try.infoE
 go_enter Try.func45, Try.ntmps45
 go_wp2_with (at_builtin; refine wpList_app (w0 := w) rfl _ _ 22 rfl 3 i0 (.int .i64 0) 1 8 Try.underlying22 hi0 hz0 hz1 hz2 rfl (by decide) _ 1 w.heap.size (iv [(n : Int)]) rfl (World.ownsRow_lit w #[.int .i64 (n : Int)] 1 (Nat.le_refl _) (by unfold maxLen; decide) rfl) ((Ext.refl w).alloc _) (Nat.le_refl _) (by simp) a n c (iv ws) rfl ?c1 ?c2 (iv_one _) (by unfold maxLen; omega) (by omega) ?_)
 case c1 => rw [iv_length, HN.out, Nat.mul_one]
 case c2 => exact from_ints (hI.ext ((Ext.refl w).alloc _))
 intro a1 c1 w1 hown1 hE1 _
 rw [iv_app] at hown1
 rw [show 1 + n = n + 1 by omega] at hown1 ⊢
 (try go_frame)
 go_wp2
 go_loopw [3] (fun s3 X => ∃ i : Nat, i ≤ pad ∧ (∃ (sa : Option Addr) (sc : Nat), s3 = .slice sa (n + 1 + i) sc ∧ X.ownsRow w.heap.size 3 1 (.slice sa (n + 1 + i) sc) (n + 1 + i) (iv (((n : Int) :: ws) ++ List.replicate i 0))) ∧ Ext w X) (fun s3 _ => n + 1 + pad - lenV s3)
 case atStart => exact ⟨0, by omega, ⟨a1, c1, rfl, by simpa using hown1⟩, hE1⟩
 case round =>
  clear hown1 hE1
  obtain ⟨i, hi, ⟨sa, sc, rfl, hown⟩, EX⟩ := hrel
  obtain ⟨X, rfl⟩ : ∃ X : World, X = wr := ⟨_, rfl⟩
  by_cases hlt : i < pad
  ·have hnz := HPN.out i hlt
   obtain ⟨m, hm⟩ : ∃ m, n + 1 + i = m := ⟨_, rfl⟩
   rw [hm] at hown hnz ⊢
   obtain ⟨r, hr⟩ : ∃ r, m % 16 = r := ⟨_, rfl⟩
   have t1 : Int.tmod (m : Int) 16 = (r : Int) := by rw [Int.tmod_eq_emod_of_nonneg (by omega)]; omega
   have t2 : (m : Int) % 16 = (r : Int) := by omega
   have t3 : (0 : Int) < (r : Int) := by omega
   have hXs := EX.size
   have HMM := Lib.hid hm
   clear hr hnz
   go_wp2_with (at_builtin; refine wpList_append_own _ rfl _ _ 22 rfl w.heap.size 3 i0 (.int .i64 0) 1 8 Try.underlying22 hi0 hz0 hz1 hz2 rfl (by decide) _ _ _ rfl (hown.alloc _) ⟨X.heap.size, 0, none⟩ 1 1 [.int .i64 0] rfl rfl (cell_one_new _ _ _) (by simp [Value.oneCell']) (by unfold maxLen; omega) (by omega) (by simp; omega) ?_; intro v' w7 hown' hgrow hnil)
   have E7 : Ext w w7 := (EX.alloc _).grown hgrow (by simp; omega) (fun q e => (hown.lt q e).1)
   obtain ⟨a7, c7, rfl⟩ := own_formU hown'
   have hown7 : w7.ownsRow w.heap.size 3 1 (.slice a7 (m + 1) c7) (m + 1) (iv (((n : Int) :: ws) ++ List.replicate (i + 1) 0)) := by
    rw [List.replicate_succ', ← List.append_assoc]
    unfold iv at hown' ⊢
    rw [List.map_append]
    exact hown'
   clear hown hown' hgrow hnil EX
   (try go_frame)
   go_wp2
   go_roundw
   case rel => exact ⟨i + 1, by omega, ⟨a7, c7, by rw [← HMM.out]; rfl, by rw [show n + 1 + (i + 1) = m + 1 by have := HMM.out; omega]; exact hown7⟩, E7⟩
   case measure => simp [lenV]; omega
  ·obtain rfl : i = pad := by omega
   rw [← HPW.out] at hown
   obtain ⟨N, hNN⟩ : ∃ N, n + 1 + i = N := ⟨_, rfl⟩
   rw [hNN] at hown hpz hmb ⊢
   have HNL2 := Lib.hid (show (padW ws).length = N by rw [HNL.out]; exact hNN)
   obtain ⟨g, sc2, hg⟩ := ownsRow_form hown (by omega)
   obtain ⟨rfl, -, -⟩ := Value.slice.inj hg
   clear hg
   obtain ⟨hcap, hcap2⟩ := own_cap hown
   have t1 : Int.tmod (N : Int) 16 = 0 := by rw [Int.tmod_eq_emod_of_nonneg (by omega)]; omega
   have t2 : (N : Int) % 16 = 0 := by omega
   have hN576 : N ≤ 576 := by omega
   have HNN := Lib.hid hNN
   clear hNN hpz
   go_wp2
   go_loopw [4, 5] (fun s4 s5 Y => ∃ k : Nat, k ≤ nb ∧ (∃ z : Nat, z = 16 * k ∧ s5 = .int .i64 (z : Int)) ∧ Y.ownsRow X.heap.size 5 1 s4 (65 * k) (ub (natI ((List.range k).flatMap (tapeB ws)))) ∧ Ext X Y) (fun _ s5 _ => N - (Go.RowKit.intOf s5).toNat)
   case atStart => exact ⟨0, Nat.zero_le _, ⟨0, rfl, rfl⟩, World.ownsRow_nil _ _ _ _, Ext.refl X⟩
   case round =>
    obtain ⟨k, hk, ⟨z, hz, rfl⟩, hout, EY⟩ := hrel
    obtain ⟨Y, rfl⟩ : ∃ Y : World, Y = wr := ⟨_, rfl⟩
    obtain ⟨oa, oc, rfl⟩ := own_formU hout
    by_cases hkn : k < nb
    ·have hzN : z + 16 ≤ N := by omega
     have hltz : (z : Int) < (N : Int) := by omega
     obtain ⟨ho, hho⟩ : ∃ ho, z + 16 = ho := ⟨_, rfl⟩
     have hsub : ho - z = 16 := by omega
     have hsl := fun W => slice_ints W g N sc z ho (by omega) (by omega) (by omega)
     have hsl2 := fun W => slice_intsAt W g N sc z ho (by omega) (by omega) (by omega)
     rw [hsub] at hsl hsl2
     have w1 : IntKind.i64.wrap ((z : Int) + 16) = (ho : Int) := by rw [show (z : Int) + 16 = (ho : Int) by omega]; exact IntWalk.i64_in _ (by omega)
     have hallY := own_ints (own_extD hown EY)
     have hblk := rblock_any (some ⟨g, z, none⟩) 16 (sc - z) (((padW ws).drop z).take 16) Y (by rw [List.length_take, List.length_drop, HNL2.out]; omega) (by decide) (sub_ints hallY (by rw [HNL2.out]; exact hzN)) (fun x hx => HWB.out x (List.mem_of_mem_drop (List.mem_of_mem_take hx)))
     rw [show ((padW ws).drop z).take 16 = ((padW ws).drop (16 * k)).take 16 by rw [hz]] at hblk
     rw [show blockW (((padW ws).drop (16 * k)).take 16) = tapeB ws k from rfl, show (tapeB ws k).length = 65 from (tapeB_good (by rw [HNB.out]; exact hkn)).len] at hblk
     have HS := Lib.hid (tape_snoc ws k)
     have HZ := Lib.hid hz
     have m8 : (0 : Int) ≤ (z : Int) := by omega
     have m9 : (z : Int) ≤ (ho : Int) := by omega
     have m10 : (ho : Int) ≤ (sc : Int) := by omega
     have m11 : ¬ sc = z := by omega
     have hXY := EY.size
     clear hz hho hallY
     obtain ⟨i1, hi1, hy0, hy1, hy2⟩ := info_parts Try.infoU
     go_wp2_with fail
     refine hblk.mono ?_
     rintro e w8 ⟨v8, rfl, hrow, E8⟩
     obtain ⟨a8, c8, rfl⟩ := own_formU hrow
     have hout8 := own_extD hout E8
     have h8s := E8.size
     go_wp2_with (at_builtin; refine wpList_app (w0 := X) rfl _ _ 23 rfl 5 i1 (.int .u8 0) 1 1 Try.underlying23 hi1 hy0 hy1 hy2 rfl (by decide) _ (65 * k) X.heap.size (ub (natI ((List.range k).flatMap (tapeB ws)))) rfl hout8 (EY.comp E8) (Nat.le_refl _) (by omega) a8 65 c8 (ub (natI (tapeB ws k))) rfl ?d1 ?d2 (ub_one _) (by unfold maxLen; omega) (by omega) ?_)
     case d1 => rw [ub_length, natI_length, (tapeB_good (by rw [HNB.out]; exact hkn)).len]
     case d2 => exact from_bytes (own_bytes hrow)
     intro a9 c9 w9 hown9 hE9 _
     have hown10 : w9.ownsRow X.heap.size 5 1 (.slice a9 (65 * k + 65) c9) (65 * (k + 1)) (ub (natI ((List.range (k + 1)).flatMap (tapeB ws)))) := by
      rw [HS.out, natI_append]
      unfold ub at hown9 ⊢
      rw [List.map_append]
      exact hown9
     clear hown9 hout hout8 hrow E8 EY hblk hsl hsl2
     (try go_frame)
     go_wp2
     go_roundw
     case rel => exact ⟨k + 1, by omega, ⟨ho, by have := HZ.out; omega, rfl⟩, hown10, hE9⟩
     case measure => simp [Go.RowKit.intOf]; omega
    ·have hltz : ¬ (z : Int) < (N : Int) := by omega
     obtain rfl : k = nb := by omega
     have hfin : Y.ownsRow w.heap.size 5 1 (.slice oa (65 * k) oc) (tapeW ws).length (ub (natI (tapeW ws))) := by
      rw [HTB.out, HNB.out, tape_part_len (by rw [HNB.out]; exact Nat.le_refl _)]
      exact ownsRow_le hout EX.size
     go_wp2
     exact bodyPost_ret (v := .slice oa (65 * k) oc) (by simp [results, Try.results45, go_sem]) rfl ⟨_, rfl, hfin, EX.comp EY⟩
end Go.Proofs.Ytnhpcoagkmgdoaa
/- Layer 10's reference: Punch. -/
namespace Go.Q
open Go.RowKit
/-- rows and an error's code are returned -/
def RowsRes (r : List Nat × Int) (w : World) (e : Ending) (w' : World) : Prop := ∃ a c, e = .returned (.tuple #[.slice a r.1.length c, .int .i64 r.2]) ∧ (r.1.length ≤ c ∧ c ≤ 9223372036854775807) ∧ BytesAt w' a (natI r.1) ∧ Ext w w'
theorem rows_none {x : Int} {w W : World} (E : Ext w W) : RowsRes ([], x) w (.returned (.tuple #[.slice none 0 0, .int .i64 x])) W := ⟨none, 0, rfl, ⟨Nat.le_refl _, by decide⟩, .inl rfl, E⟩
theorem punch_long {ws : List Int} (h : 560 < ws.length) : punchE ws = ([], 3) := by
 have e : punchX ws = 3 := by unfold punchX; rw [if_pos h]
 unfold punchE
 rw [e, if_neg (by decide)]
theorem punch_bad {ws : List Int} (h : ws.length ≤ 560) {k : Nat} (hk : k < ws.length) (hb : wordB (ws[k]?.getD 0) = false) : punchE ws = ([], 7) := by
 have e : punchX ws = 7 := by
  unfold punchX
  rw [if_neg (by omega), if_pos]
  rw [List.any_eq_true]
  rw [List.getElem?_eq_getElem hk, Option.getD_some] at hb
  exact ⟨_, List.getElem_mem hk, by unfold badW; rw [hb]; rfl⟩
 unfold punchE
 rw [e, if_neg (by decide)]
theorem punch_good {ws : List Int} (h : ws.length ≤ 560) (hw : wordOk ws) : punchE ws = (tapeW ws, 0) := by
 have e : punchX ws = 0 := by
  unfold punchX
  rw [if_neg (by omega), if_neg]
  rw [Bool.not_eq_true, List.any_eq_false]
  intro x hx
  have := hw x hx
  have hb : wordB x = true := by unfold wordB inB; rw [decide_eq_true this.1, decide_eq_true this.2]; rfl
  unfold badW
  rw [hb]
  simp
 unfold punchE
 rw [if_pos e]
end Go.Q
namespace Go.Proofs.Ytnhpcoagkmgdoaa
open Go.RowKit Go.Q Go.Joins
set_option maxRecDepth 100000 in
set_option maxHeartbeats 4000000 in
theorem rpunch_any (a : Option Addr) (n c : Nat) (ws : List Int) (w : World) (hn : ws.length = n) (hbig : n ≤ 9223372036854775807) (hI : IntsAt w a ws) :
  Calls Try.prog 16 #[.slice a n c] w (RowsRes (punchE ws) w) := by
 by_cases hl : n ≤ 560
 ·have d1 : decide (560 < (n : Int)) = false := decide_eq_false (by omega)
  obtain ⟨r, hr⟩ : ∃ r, punchE ws = r := ⟨_, rfl⟩
  have HR := Lib.hid hr
  rw [hr]
  have HN := Lib.hid hn
  have HI := Lib.hid hI
  clear hr hn hI
  go_enter Try.func16, Try.ntmps16
  go_wp2
  go_loopw [4] (fun s4 wr => ∃ k : Nat, k ≤ n ∧ s4 = .int .i64 (k : Int) ∧ Aside (∀ j, j < k → wordB (ws[j]?.getD 0) = true) ∧ wr = w) (fun s4 _ => n - (Go.RowKit.intOf s4).toNat)
  case atStart => exact ⟨0, Nat.zero_le _, rfl, (fun j hj => absurd hj (Nat.not_lt_zero _)), rfl⟩
  case round =>
   obtain ⟨k, hk, rfl, HA, rfl⟩ := hrel
   by_cases hlt : k < n
   ·have hltz : (k : Int) < (n : Int) := by omega
    obtain ⟨b, off, rfl, hb, hc⟩ : ∃ b off, a = some ⟨b, off, none⟩ ∧ b < wr.heap.size ∧ ∀ j, j < ws.length → wr.cell? ⟨b, off + j, none⟩ = some (.int .i64 (ws[j]?.getD 0)) := HI.out.elim (fun h => by have := HN.out; rw [h] at this; simp at this; omega) id
    have hx := hc k (by rw [HN.out]; exact hlt)
    have hwd := fun W => word_any (ws[k]?.getD 0) W
    obtain ⟨x, hxe⟩ : ∃ x, ws[k]?.getD 0 = x := ⟨_, rfl⟩
    rw [hxe] at hx hwd
    have HX := Lib.hid hxe
    clear hc hxe
    cases hw : wordB x with
    | true =>
     rw [hw] at hwd
     have HA2 : Aside (∀ j, j < k + 1 → wordB (ws[j]?.getD 0) = true) := (show Aside _ from fun j hj => by
      by_cases e : j = k
      ·rw [e, HX.out]; exact hw
      ·exact HA.out j (by omega))
     clear hw HA
     go_wp2_with fail
     refine (hwd _).mono ?_
     rintro e w' ⟨rfl, rfl⟩
     go_wp2
     go_roundw
     case rel => exact ⟨k + 1, by omega, by go_num, HA2, (by first | rfl | trivial)⟩
     case measure => simp [Go.RowKit.intOf]; omega
    | false =>
     rw [hw] at hwd
     obtain rfl : ([], 7) = r := by rw [← HR.out]; exact (punch_bad (by rw [HN.out]; exact hl) (k := k) (by rw [HN.out]; exact hlt) (by rw [HX.out]; exact hw)).symm
     clear hw HA
     go_wp2_with fail
     refine (hwd _).mono ?_
     rintro e w' ⟨rfl, rfl⟩
     go_wp2
     exact bodyPost_ret (v := .tuple #[.slice none 0 0, .int .i64 7]) (by simp [results, Try.results16, go_sem]) rfl (rows_none (Ext.refl _))
   ·have hltz : ¬ (k : Int) < (n : Int) := by omega
    obtain rfl : k = n := by omega
    have hok : wordOk ws := fun x hx => by
     obtain ⟨i, hi, rfl⟩ := List.mem_iff_getElem.1 hx
     have := HA.out i (by rw [HN.out] at hi; exact hi)
     rw [List.getElem?_eq_getElem hi] at this
     exact wordB_bd this
    obtain rfl : (tapeW ws, 0) = r := by rw [← HR.out]; exact (punch_good (by rw [HN.out]; exact hl) hok).symm
    have htp := rtape_any a k c ws wr HN.out hl HI.out hok
    clear HA hok
    go_wp2_with fail
    refine htp.mono ?_
    rintro e w' ⟨v, rfl, hown, E'⟩
    obtain ⟨a8, c8, rfl⟩ := own_formU hown
    go_wp2
    exact bodyPost_ret (v := .tuple #[.slice a8 (tapeW ws).length c8, .int .i64 0]) (by simp [results, Try.results16, go_sem]) rfl ⟨a8, c8, rfl, own_cap hown, own_bytes hown, E'⟩
 ·have d1 : decide (560 < (n : Int)) = true := decide_eq_true (by omega)
  rw [punch_long (by rw [hn]; omega)]
  go_enter Try.func16, Try.ntmps16
  go_wp2
  exact bodyPost_ret (v := .tuple #[.slice none 0 0, .int .i64 3]) (by simp [results, Try.results16, go_sem]) rfl (rows_none (Ext.refl _))
end Go.Proofs.Ytnhpcoagkmgdoaa
/- Layer 10's program: slices.Chunk of ints. -/
namespace Go.Proofs.Ytnhpcoagkmgdoaa
open Go.RowKit Go.Q Go.Shelf Go.Joins
attribute [local go_sem] Oper.semAt_some
theorem size_int (W : World) : (sizeOf (Try.prog.elem 22)).run Try.prog W = .ok 1 W := by
 rw [show Try.prog.elem 22 = 3 by kernel_rfl]
 obtain ⟨i0, hi, _, hz1, _⟩ := info_parts Try.infoE
 simp [sizeOf, typeInfo, hi, hz1, go_sem]
theorem slice_from (W : World) (g n k1 lo : Nat) (h1 : lo < k1) (h2 : lo ≤ n) : (Instr.slice 22 (.slice (some ⟨g, 0, none⟩) n k1) (some (.int .i64 (lo : Int))) none none).run Try.prog W = .ok (.slice (some ⟨g, lo, none⟩) (n - lo) (k1 - lo)) W := by
 have h := run_slice_l (P := Try.prog) (w := W) 22 (some ⟨g, 0, none⟩) n k1 (by rw [Try.underlying22]; kernel_rfl) .i64 (lo : Int) (by omega) (by omega)
 rw [h, size_int]
 show Result.ok (sliced _ _ _ _ 1) W = _
 unfold sliced
 rw [if_neg (by omega)]
 simp [Addr.add]
 exact fun h => h.symm
theorem slice_three (W : World) (g n k1 lo hi : Nat) (h1 : lo < hi) (h3 : hi ≤ k1) : (Instr.slice 22 (.slice (some ⟨g, 0, none⟩) n k1) (some (.int .i64 (lo : Int))) (some (.int .i64 (hi : Int))) (some (.int .i64 (hi : Int)))).run Try.prog W = .ok (.slice (some ⟨g, lo, none⟩) (hi - lo) (hi - lo)) W := by
 have h := run_slice_lhm (P := Try.prog) (w := W) 22 (some ⟨g, 0, none⟩) n k1 (by rw [Try.underlying22]; kernel_rfl) .i64 .i64 .i64 (lo : Int) (hi : Int) (hi : Int) (by omega) (by omega) (by omega) (by omega)
 rw [h, size_int]
 show Result.ok (sliced _ _ _ _ 1) W = _
 unfold sliced
 rw [if_neg (by omega)]
 simp [Addr.add]
 exact fun h => h.symm
theorem at_slice {W W' : World} {v r : Value} {lo hi mx : Option Value} (h : (Instr.slice 22 v lo hi mx).run Try.prog W = .ok r W') : (Instr.sliceAt 22 v lo hi mx).run Try.prog W = .ok r W' :=
 Eq.trans (run_sliceAt_slice (P := Try.prog) (w := W) 22 _ _ _ _ (by rw [Try.underlying22]; kernel_rfl)) h
set_option maxRecDepth 100000 in
theorem chunkI_any (a : Option Addr) (k c s : Nat) (w : World) (hs : 1 ≤ s) :
  Calls Try.prog 80 #[.slice a k c, .int .i64 s] w fun e w' => e = .returned (.func (.func 104) #[] #[.pointer (some ⟨w.heap.size, 0, none⟩), .pointer (some ⟨w.heap.size + 1, 0, none⟩)]) ∧ (w.alloc (.cells #[.slice a k c] 22)).alloc (.cells #[.int .i64 s] 3) = w' := by
 have h1 : ¬ (s : Int) < 1 := by omega
 go_enter Try.func80, Try.ntmps80
 go_wp2
 go_ret
 exact ⟨rfl, rfl⟩
set_option maxRecDepth 100000 in
set_option maxHeartbeats 4000000 in
theorem chunkI_in (n : Nat) (hn : 1 ≤ n) (l Bs Bc b c nb N : Nat) (hNb : 16 * nb = N) (hcap : N ≤ c) (hc63 : c ≤ 9223372036854775807) (hN : N ≤ 576) (M : Nat → Prop) (hMs : ¬ M Bs) (hMc : ¬ M Bc) (JJ : Nat → World → Prop) (W : World)
  (hJd : ∀ k W m, JJ k W → JJ k (W.drewN m))
  (hY : ∀ k W, JJ k W → k < nb → YieldAt Fence.wide (n - 1) Try.prog l #[.slice (some ⟨b, 16 * k, none⟩) 16 16] W fun e W' => e = .returned (.bool true) ∧ JJ (k + 1) W' ∧ KpM M W W')
  (hB : W.cell? ⟨Bs, 0, none⟩ = some (.slice (some ⟨b, 0, none⟩) N c)) (hC : W.cell? ⟨Bc, 0, none⟩ = some (.int .i64 16)) (hBs : Bs < W.heap.size) (hBc : Bc < W.heap.size) (h0 : JJ 0 W) :
  CallsIn Fence.wide n Try.prog 104 #[.func (.yield l) #[] #[], .pointer (some ⟨Bs, 0, none⟩), .pointer (some ⟨Bc, 0, none⟩)] W fun e W' => (∃ v, e = .returned v) ∧ JJ nb W' := by
 refine callsIn_of_wp Try.func104 rfl trivial ?_ rfl
 simp only [Try.ntmps104, List.size_toArray, List.length_cons, List.length_nil, Nat.reduceAdd, Nat.reduceSub, Array.replicate_succ, Array.replicate_zero, List.push_toArray, List.append_toArray, List.nil_append, List.cons_append]
 gi_wp2
 gi_loopw [4] (fun i wr => ∃ k : Nat, k ≤ nb ∧ (∃ z : Nat, z = 16 * k ∧ i = .int .i64 (z : Int)) ∧ JJ k wr ∧ KpM M W wr) (fun i _ => N - (intOf i).toNat)
 case atStart => exact ⟨0, by omega, ⟨0, rfl, rfl⟩, h0, KpM.refl _ _⟩
 case round =>
  obtain ⟨k, hk, ⟨z, hz, rfl⟩, hJs, hnx⟩ := hrel
  have hcs := (hnx.cell (o := 0) hBs hMs).trans hB
  have hcc := (hnx.cell (o := 0) hBc hMc).trans hC
  by_cases hlt : k < nb
  ·have hltz : (z : Int) < (N : Int) := by omega
   obtain ⟨R, hR⟩ : ∃ R, N - z = R := ⟨_, rfl⟩
   have hR16 : 16 ≤ R := by omega
   obtain ⟨ho, hho⟩ : ∃ ho, z + 16 = ho := ⟨_, rfl⟩
   have hs1 := fun W => slice_from W b N c z (by omega) (by omega)
   rw [hR] at hs1
   have hs1' := fun W => at_slice (hs1 W)
   have hs2 := fun W => slice_three W b N c z ho (by omega) (by omega)
   rw [show ho - z = 16 by omega] at hs2
   have hs2' := fun W => at_slice (hs2 W)
   have hmin : min (16 : Int) (R : Int) = 16 := by omega
   have w1 : IntKind.i64.wrap ((z : Int) + 16) = (ho : Int) := by rw [show (z : Int) + 16 = (ho : Int) by omega]; exact IntWalk.i64_in _ (by omega)
   have m8 : (0 : Int) ≤ (z : Int) := by omega
   have m9 : (z : Int) ≤ (ho : Int) := by omega
   have m10 : (ho : Int) ≤ (c : Int) := by omega
   have HZN := Lib.hid (show z < N by omega)
   have HZ := Lib.hid hz
   have HHO := Lib.hid hho
   have hz16 : 16 * k = z := hz.symm
   have hYk := hY k
   rw [hz16] at hYk
   have HYK := Lib.hid hYk
   have HNB := Lib.hid hNb
   clear hR hho hz hz16 hYk hNb
   gi_wp2
   refine wpIn_wide.2 ?_
   go_quiet (fail)
   obtain ⟨fn, tmps, assign, body, hy, hRd⟩ := HYK.out (wr.drewN nq) (hJd _ _ _ hJs) hlt
   gi_wp2
   refine hRd.mono ?_
   rintro e W3 ⟨rfl, hJ3, hk3⟩
   have hcc3 := hk3.cell (o := 0) (show Bc < (wr.drewN nq).heap.size from Nat.lt_of_lt_of_le hBc hnx.size) hMc
   rw [World.cell?_drewN, hcc] at hcc3
   gi_wp2
   go_roundw
   case rel => exact ⟨k + 1, by omega, ⟨ho, by have := HZ.out; have := HHO.out; omega, by go_num⟩, hJ3, (hnx.trans (KpM.of_ext (ext_drewN (Ext.refl wr) nq))).trans hk3⟩
   case measure =>
    have := HZN.out
    have := HHO.out
    simp [intOf]
    omega
  ·have hltz : ¬ (z : Int) < (N : Int) := by omega
   obtain rfl : k = nb := by omega
   gi_wp2
   go_end0
   exact ⟨⟨_, rfl⟩, hJs⟩
end Go.Proofs.Ytnhpcoagkmgdoaa

import Derived.Test.YtnhpcoagkmgdoaaX9
import Derived.Test.YtnhpcoagkmgdoaaX5
set_option linter.unusedVariables false
set_option linter.unusedSimpArgs false
/- Layer 10's reference: Flipped, mend. -/
namespace Go.Q
open Go.RowKit
theorem flip_all : ∀ r : Fin 128, ∀ k : Fin 7, (if r.1 / 2 ^ k.1 % 2 = 1 then r.1 - 2 ^ k.1 else r.1 + 2 ^ k.1) = r.1 ^^^ 2 ^ k.1 ∧ (r.1 / 2 ^ k.1 % 2 = 1 → 2 ^ k.1 ≤ r.1) ∧ (¬ r.1 / 2 ^ k.1 % 2 = 1 → r.1 + 2 ^ k.1 ≤ 127) ∧ 2 ^ k.1 ≤ 64 := by decide +kernel
/-- the places in which an odd number of rows has a hole -/
def plcX (x : Nat) : List Nat := (List.range 6).filter fun k => x / 2 ^ k % 2 == 1
/-- what the reference's mend returns -/
def rmendB (b : List Nat) : Int × Int × Bool :=
 match evs b, plcX (chk b) with
 | [], [] => (-1, 0, true)
 | [r], [] => ((r : Int), 6, true)
 | [r], [k] => ((r : Int), (k : Int), true)
 | _, _ => (0, 0, false)
def evsK (b : List Nat) (i : Nat) : List Nat := (List.range i).filter fun i => !oddP (b[i]?.getD 0)
theorem evsK_succ (b : List Nat) (i : Nat) : evsK b (i + 1) = if oddP (b[i]?.getD 0) = true then evsK b i else evsK b i ++ [i] := by
 unfold evsK
 rw [List.range_succ, List.filter_append]
 cases h : oddP (b[i]?.getD 0) <;> simp [h]
theorem evsK_le (b : List Nat) (i : Nat) : (evsK b i).length ≤ i := by
 have := List.length_filter_le (fun i => !oddP (b[i]?.getD 0)) (List.range i)
 rw [List.length_range] at this
 exact this
def plcK (x : Nat) (k : Nat) : List Nat := (List.range k).filter fun k => x / 2 ^ k % 2 == 1
theorem plcK_succ (x k : Nat) : plcK x (k + 1) = if x / 2 ^ k % 2 = 1 then plcK x k ++ [k] else plcK x k := by
 unfold plcK
 rw [List.range_succ, List.filter_append]
 by_cases h : x / 2 ^ k % 2 = 1
 ·simp [h]
 ·have : (x / 2 ^ k % 2 == 1) = false := by simpa using h
  simp [this, h]
theorem plcK_le (x k : Nat) : (plcK x k).length ≤ k := by
 have := List.length_filter_le (fun k => x / 2 ^ k % 2 == 1) (List.range k)
 rw [List.length_range] at this
 exact this
theorem low_bit (x : Nat) {k : Nat} (hk : k < 6) : x % 64 / 2 ^ k % 2 = x / 2 ^ k % 2 := by
 rw [bit_test, bit_test, show (64 : Nat) = 2 ^ 6 from rfl, Nat.testBit_mod_two_pow, decide_eq_true hk, Bool.true_and]
theorem plc_chk (b : List Nat) : plcK (xorL b) 6 = plcX (chk b) := by
 unfold plcK plcX
 refine List.filter_congr fun k hk => ?_
 rw [chk_xorL, low_bit _ (List.mem_range.1 hk)]
end Go.Q
namespace Go.Proofs.Ytnhpcoagkmgdoaa
open Go.RowKit Go.Q
theorem rflip_any (r k : Nat) (w : World) (hr : r < 128) (hk : k < 7) : Calls Try.prog 30 #[.int .u8 r, .int .i64 k] w fun e w' => e = .returned (.int .u8 ((r ^^^ 2 ^ k : Nat) : Int)) ∧ w' = w := by
 have hb := fun W => rbit_any r k W (by omega) (by omega)
 have hp := fun W => rpower10_any k W (by omega)
 obtain ⟨h1, h2, h3, h4⟩ := flip_all ⟨r, hr⟩ ⟨k, hk⟩
 dsimp only at h1 h2 h3 h4
 rw [← h1]
 obtain ⟨P, hP⟩ : ∃ P, 2 ^ k = P := ⟨_, rfl⟩
 rw [hP] at hp h1 h2 h3 h4 hb ⊢
 obtain ⟨t, ht⟩ : ∃ t, r / P % 2 = t := ⟨_, rfl⟩
 rw [ht] at h1 h2 h3 hb ⊢
 have ht2 : t ≤ 1 := by have := Nat.mod_two_eq_zero_or_one (r / P); omega
 have w1 : IntKind.i64.wrap (r : Int) = (r : Int) := IntWalk.i64_in _ (by omega)
 have w2 : IntKind.u8.wrap (P : Int) = (P : Int) := IntWalk.u8_in _ (by omega)
 clear hP ht h1
 by_cases hc : t = 1
 ·have h5 := h2 hc
  subst hc
  obtain ⟨v, hv⟩ : ∃ v, r - P = v := ⟨_, rfl⟩
  rw [if_pos rfl, hv]
  have w3 : IntKind.u8.wrap ((r : Int) - (P : Int)) = (v : Int) := by rw [show (r : Int) - (P : Int) = (v : Int) by omega]; exact IntWalk.u8_in _ (by omega)
  clear hv h2 h3
  go_enter Try.func30, Try.ntmps30
  go_wp2_with fail
  refine (hb _).mono ?_
  rintro e w' ⟨rfl, rfl⟩
  go_wp2_with fail
  refine (hp _).mono ?_
  rintro e w'' ⟨rfl, rfl⟩
  go_wp2
  go_ret
  exact ⟨rfl, rfl⟩
 ·have h5 := h3 hc
  obtain rfl : t = 0 := by omega
  obtain ⟨v, hv⟩ : ∃ v, r + P = v := ⟨_, rfl⟩
  rw [if_neg (by omega), hv]
  have w3 : IntKind.u8.wrap ((r : Int) + (P : Int)) = (v : Int) := by rw [show (r : Int) + (P : Int) = (v : Int) by omega]; exact IntWalk.u8_in _ (by omega)
  clear hv h2 h3
  go_enter Try.func30, Try.ntmps30
  go_wp2_with fail
  refine (hb _).mono ?_
  rintro e w' ⟨rfl, rfl⟩
  go_wp2_with fail
  refine (hp _).mono ?_
  rintro e w'' ⟨rfl, rfl⟩
  go_wp2
  go_ret
  exact ⟨rfl, rfl⟩
set_option maxRecDepth 100000 in
set_option maxHeartbeats 8000000 in
theorem rmend_any (a : Option Addr) (n c : Nat) (b : List Nat) (w : World) (hn : b.length = n) (hn65 : n ≤ 65) (hr : ∀ r ∈ b, r < 128) (hI : BytesAt w a (natI b)) :
  Calls Try.prog 53 #[.slice a n c] w fun e w' => e = .returned (.tuple #[.int .i64 (rmendB b).1, .int .i64 (rmendB b).2.1, .bool (rmendB b).2.2]) ∧ Ext w w' := by
 have hcell : ∀ i, i < n → ∃ q off, a = some ⟨q, off, none⟩ ∧ q < w.heap.size ∧ w.cell? ⟨q, off + i, none⟩ = some (.int .u8 ((b[i]?.getD 0 : Nat) : Int)) := by
  intro i hi
  rcases hI with e | ⟨q, off, ha, hq, hc⟩
  ·have := natI_length b; rw [e] at this; simp at this; omega
  ·have := hc i (by rw [natI_length]; omega)
   rw [natI_get] at this
   exact ⟨q, off, ha, hq, this⟩
 have HC := Lib.hid hcell
 have HN := Lib.hid hn
 have HR := Lib.hid hr
 have HEV := Lib.hid (show evs b = evsK b n by unfold evs evsK; rw [hn])
 have HPL := Lib.hid (plc_chk b)
 have HPAR := Lib.hid (fun k => (cntK_par b k n (by rw [hn]; exact Nat.le_refl _)).trans (by rw [List.take_of_length_le (by rw [hn]; exact Nat.le_refl _)]))
 obtain ⟨v, hv⟩ : ∃ v, rmendB b = v := ⟨_, rfl⟩
 rw [hv]
 have HV := Lib.hid hv
 clear hn hr hI hcell hv
 obtain ⟨i0, hi0, hz0, hz1, hz2⟩ := info_parts Try.infoE
 go_enter Try.func53, Try.ntmps53
 go_wp2
 go_loopw [5, 7] (fun s5 s7 X => ∃ i : Nat, i ≤ n ∧ s7 = .int .i64 (i : Int) ∧ (∃ (sa : Option Addr) (sc : Nat), s5 = .slice sa (evsK b i).length sc ∧ X.ownsRow w.heap.size 3 1 (.slice sa (evsK b i).length sc) (evsK b i).length (iv (natI (evsK b i)))) ∧ Ext w X) (fun _ s7 _ => n - (Go.RowKit.intOf s7).toNat)
 case atStart => exact ⟨0, Nat.zero_le _, rfl, ⟨none, 0, rfl, World.ownsRow_nil _ _ _ _⟩, Ext.refl w⟩
 case round =>
  obtain ⟨i, hi, rfl, ⟨sa, sc, rfl, hown⟩, EX⟩ := hrel
  obtain ⟨X, rfl⟩ : ∃ X : World, X = wr := ⟨_, rfl⟩
  have hel := evsK_le b i
  by_cases hlt : i < n
  ·have hltz : (i : Int) < (n : Int) := by omega
   obtain ⟨q, off, rfl, hq, hc⟩ := HC.out i hlt
   have hx := (EX.cell (p := ⟨q, off + i, none⟩) hq).trans hc
   have hy := get_lt HR.out (by decide) i
   have HS := Lib.hid (evsK_succ b i)
   obtain ⟨y, hye⟩ : ∃ y, b[i]?.getD 0 = y := ⟨_, rfl⟩
   rw [hye] at hx hy HS
   have hho := fun W => rholes_any y W (by omega)
   have hop : oddP y = (onesN y 7 % 2 == 1) := rfl
   obtain ⟨ct, hct⟩ : ∃ ct, onesN y 7 = ct := ⟨_, rfl⟩
   rw [hct] at hho hop
   obtain ⟨es, hes⟩ : ∃ es, evsK b i = es := ⟨_, rfl⟩
   rw [hes] at hel hown HS ⊢
   obtain ⟨pp, hpp⟩ : ∃ pp, ct % 2 = pp := ⟨_, rfl⟩
   rw [hpp] at hop
   have t1 : Int.tmod (ct : Int) 2 = (pp : Int) := by rw [Int.tmod_eq_emod_of_nonneg (by omega)]; omega
   have t2 : (ct : Int) % 2 = (pp : Int) := by omega
   have hpp2 : pp ≤ 1 := by have := Nat.mod_two_eq_zero_or_one ct; omega
   clear hc hye hct hes hpp
   by_cases h0 : pp = 0
   ·subst h0
    rw [hop] at HS
    have hEsz := EX.size
    obtain ⟨L, hL⟩ : ∃ L, es.length = L := ⟨_, rfl⟩
    rw [hL] at hel hown ⊢
    have HL := Lib.hid hL
    clear hop hL
    go_wp2_with fail
    refine (hho _).mono ?_
    rintro e w' ⟨rfl, rfl⟩
    go_wp2_with (at_builtin; refine wpList_append_own _ rfl _ _ 22 rfl w.heap.size 3 i0 (.int .i64 0) 1 8 Try.underlying22 hi0 hz0 hz1 hz2 rfl (by decide) _ _ _ rfl (hown.alloc _) ⟨w'.heap.size, 0, none⟩ 1 1 [.int .i64 (i : Int)] rfl rfl (cell_one_new _ _ _) (by simp [Value.oneCell']) (by unfold maxLen; omega) (by omega) (by simp; omega) ?_; intro v' w7 hown' hgrow hnil)
    have E7 : Ext w w7 := (EX.alloc _).grown hgrow (by simp; omega) (fun q e => (hown.lt q e).1)
    obtain ⟨a7, c7, rfl⟩ := own_formU hown'
    have HS2 := Lib.hid (show evsK b (i + 1) = es ++ [i] by rw [HS.out]; rfl)
    have hown7 : w7.ownsRow w.heap.size 3 1 (.slice a7 (L + 1) c7) (L + 1) (iv (natI (evsK b (i + 1)))) := by
     rw [HS2.out, natI_append]
     unfold iv at hown' ⊢
     rw [List.map_append]
     exact hown'
    have HL2 := Lib.hid (show (evsK b (i + 1)).length = L + 1 by rw [HS2.out, List.length_append, HL.out]; rfl)
    clear hown hown' hgrow hnil EX
    (try go_frame)
    go_wp2
    go_roundw
    case rel => exact ⟨i + 1, by omega, by go_num, ⟨a7, c7, by rw [HL2.out], by rw [HL2.out]; exact hown7⟩, E7⟩
    case measure => simp [Go.RowKit.intOf]; omega
   ·obtain rfl : pp = 1 := by omega
    rw [hop] at HS
    have HS2 := Lib.hid (show evsK b (i + 1) = es by rw [HS.out]; rfl)
    clear hop
    go_wp2_with fail
    refine (hho _).mono ?_
    rintro e w' ⟨rfl, rfl⟩
    go_wp2
    go_roundw
    case rel => exact ⟨i + 1, by omega, by go_num, ⟨sa, sc, by rw [HS2.out], by rw [HS2.out]; exact hown⟩, EX⟩
    case measure => simp [Go.RowKit.intOf]; omega
  ·have hltz : ¬ (i : Int) < (n : Int) := by omega
   obtain rfl : i = n := by omega
   rw [← HEV.out] at hown hel ⊢
   have EW := EX
   obtain ⟨es, hes⟩ : ∃ es, evs b = es := ⟨_, rfl⟩
   rw [hes] at hown hel ⊢
   have HES := Lib.hid hes
   have HOW := Lib.hid hown
   have HEX := Lib.hid EX
   clear hes hown EX
   go_wp2
   go_loopw [6, 8] (fun s6 s8 Y => ∃ k : Nat, k ≤ 6 ∧ s8 = .int .i64 (k : Int) ∧ (∃ (pa : Option Addr) (pc : Nat), s6 = .slice pa (plcK (xorL b) k).length pc ∧ Y.ownsRow X.heap.size 3 1 (.slice pa (plcK (xorL b) k).length pc) (plcK (xorL b) k).length (iv (natI (plcK (xorL b) k)))) ∧ Ext X Y) (fun _ s8 _ => 6 - (Go.RowKit.intOf s8).toNat)
   case atStart => exact ⟨0, by omega, rfl, ⟨none, 0, rfl, World.ownsRow_nil _ _ _ _⟩, Ext.refl X⟩
   case round =>
    obtain ⟨k, hk, rfl, ⟨pa, pc, rfl, hown⟩, EY⟩ := hrel
    obtain ⟨Y, rfl⟩ : ∃ Y : World, Y = wr := ⟨_, rfl⟩
    have hpl := plcK_le (xorL b) k
    have HCY := Lib.hid (fun q (hq : q < i) => (show ∃ g off, a = some ⟨g, off, none⟩ ∧ Y.cell? ⟨g, off + q, none⟩ = some (.int .u8 ((b[q]?.getD 0 : Nat) : Int)) from by
     obtain ⟨g, off, ha, hg, hc⟩ := HC.out q hq
     exact ⟨g, off, ha, ((EW.comp EY).cell (p := ⟨g, off + q, none⟩) hg).trans hc⟩))
    by_cases hk6 : k < 6
    ·have hkz : (k : Int) < 6 := by omega
     have HS := Lib.hid (plcK_succ (xorL b) k)
     have HP2 := Lib.hid (HPAR.out k)
     have HBT := Lib.hid (fun (q : Nat) W => rbit_any (b[q]?.getD 0) k W (by have := get_lt HR.out (by decide) q; omega) (by omega))
     obtain ⟨ps, hps⟩ : ∃ ps, plcK (xorL b) k = ps := ⟨_, rfl⟩
     rw [hps] at hpl hown HS ⊢
     obtain ⟨Q, hQ⟩ : ∃ Q, ps.length = Q := ⟨_, rfl⟩
     rw [hQ] at hpl hown ⊢
     have HQ := Lib.hid hQ
     have HOY := Lib.hid hown
     clear hps hQ hown
     go_wp2
     go_loopw [9, 10] (fun s9 s10 wr2 => ∃ q : Nat, q ≤ i ∧ s10 = .int .i64 (q : Int) ∧ s9 = .int .i64 ((cntK b k q : Nat) : Int) ∧ wr2 = Y) (fun _ s10 _ => i - (Go.RowKit.intOf s10).toNat)
     case atStart => exact ⟨0, by omega, rfl, rfl, rfl⟩
     case round =>
      obtain ⟨q, hq, rfl, rfl, rfl⟩ := hrel
      have hcl := cntK_le b k q
      by_cases hqL : q < i
      ·have hqz : (q : Int) < (i : Int) := by omega
       obtain ⟨g, off, rfl, hc⟩ := HCY.out q hqL
       have hy := get_lt HR.out (by decide) q
       have hbq := HBT.out q
       have HCS := Lib.hid (show cntK b k (q + 1) = cntK b k q + b[q]?.getD 0 / 2 ^ k % 2 from rfl)
       obtain ⟨y, hye⟩ : ∃ y, b[q]?.getD 0 = y := ⟨_, rfl⟩
       rw [hye] at hy hbq hc HCS
       obtain ⟨z, hz⟩ : ∃ z, y / 2 ^ k % 2 = z := ⟨_, rfl⟩
       have hz2 : z ≤ 1 := by have := Nat.mod_two_eq_zero_or_one (y / 2 ^ k); omega
       rw [hz] at hbq HCS
       obtain ⟨ct, hct⟩ : ∃ ct, cntK b k q = ct := ⟨_, rfl⟩
       rw [hct] at hcl HCS ⊢
       have w1 : IntKind.i64.wrap (y : Int) = (y : Int) := IntWalk.i64_in _ (by omega)
       clear hye hz hct
       go_wp2_with fail
       refine (hbq _).mono ?_
       rintro e w' ⟨rfl, rfl⟩
       go_wp2
       go_roundw
       case rel => exact ⟨q + 1, by omega, by go_num, by rw [HCS.out]; go_num, (by first | rfl | trivial)⟩
       case measure => simp [Go.RowKit.intOf]; omega
      ·have hqz : ¬ (q : Int) < (i : Int) := by omega
       obtain rfl : q = i := by omega
       obtain ⟨ct, hct⟩ : ∃ ct, cntK b k q = ct := ⟨_, rfl⟩
       rw [hct] at hcl HP2 ⊢
       obtain ⟨pp, hpp⟩ : ∃ pp, ct % 2 = pp := ⟨_, rfl⟩
       have hpp2 : pp ≤ 1 := by have := Nat.mod_two_eq_zero_or_one ct; omega
       rw [hpp] at HP2
       have hpo := HP2.out
       rw [← hpo] at HS
       have t1 : Int.tmod (ct : Int) 2 = (pp : Int) := by rw [Int.tmod_eq_emod_of_nonneg (by omega)]; omega
       have t2 : (ct : Int) % 2 = (pp : Int) := by omega
       clear hct hpp hpo HP2
       by_cases h1 : pp = 1
       ·subst h1
        have hown := HOY.out
        have HS2 := Lib.hid (show plcK (xorL b) (k + 1) = ps ++ [k] by rw [HS.out]; rfl)
        have hYs := EY.size
        go_wp2_with (at_builtin; refine wpList_append_own _ rfl _ _ 22 rfl X.heap.size 3 i0 (.int .i64 0) 1 8 Try.underlying22 hi0 hz0 hz1 hz2 rfl (by decide) _ _ _ rfl (hown.alloc _) ⟨wr.heap.size, 0, none⟩ 1 1 [.int .i64 (k : Int)] rfl rfl (cell_one_new _ _ _) (by simp [Value.oneCell']) (by unfold maxLen; omega) (by omega) (by simp; omega) ?_; intro v' w7 hown' hgrow hnil)
        have E7 : Ext X w7 := (EY.alloc _).grown hgrow (by simp; omega) (fun q e => (hown.lt q e).1)
        obtain ⟨a7, c7, rfl⟩ := own_formU hown'
        have hown7 : w7.ownsRow X.heap.size 3 1 (.slice a7 (Q + 1) c7) (Q + 1) (iv (natI (plcK (xorL b) (k + 1)))) := by
         rw [HS2.out, natI_append]
         unfold iv at hown' ⊢
         rw [List.map_append]
         exact hown'
        have HL2 := Lib.hid (show (plcK (xorL b) (k + 1)).length = Q + 1 by rw [HS2.out, List.length_append, HQ.out]; rfl)
        clear hown hown' hgrow hnil EY
        (try go_frame)
        go_wp2
        go_roundw
        case rel => exact ⟨k + 1, by omega, by go_num, ⟨a7, c7, by rw [HL2.out], by rw [HL2.out]; exact hown7⟩, E7⟩
        case measure => simp [Go.RowKit.intOf]; omega
       ·obtain rfl : pp = 0 := by omega
        have HS2 := Lib.hid (show plcK (xorL b) (k + 1) = ps by rw [HS.out]; rfl)
        go_wp2
        go_roundw
        case rel => exact ⟨k + 1, by omega, by go_num, ⟨pa, pc, by rw [HS2.out, HQ.out], by rw [HS2.out, HQ.out]; exact HOY.out⟩, EY⟩
        case measure => simp [Go.RowKit.intOf]; omega
    ·have hkz : ¬ (k : Int) < 6 := by omega
     obtain rfl : k = 6 := by omega
     rw [HPL.out] at hown hpl ⊢
     obtain ⟨ps, hps⟩ : ∃ ps, plcX (chk b) = ps := ⟨_, rfl⟩
     rw [hps] at hown hpl ⊢
     have HPS := Lib.hid hps
     have hrow := own_extD HOW.out EY
     clear hps
     have hEsz := EY.size
     obtain ⟨L, hL⟩ : ∃ L, es.length = L := ⟨_, rfl⟩
     obtain ⟨Q, hQ⟩ : ∃ Q, ps.length = Q := ⟨_, rfl⟩
     rw [hL] at hrow ⊢
     rw [hQ] at hown ⊢
     by_cases hL0 : L = 0
     ·obtain rfl : es = [] := List.eq_nil_of_length_eq_zero (by omega)
      subst hL0
      by_cases hQ0 : Q = 0
      ·obtain rfl : ps = [] := List.eq_nil_of_length_eq_zero (by omega)
       subst hQ0
       obtain rfl : (-1, 0, true) = v := by rw [← HV.out]; unfold rmendB; rw [HES.out, HPS.out]
       clear hL hQ
       go_wp2
       exact bodyPost_ret (v := .tuple #[.int .i64 (-1), .int .i64 0, .bool true]) (by simp [results, Try.results53, go_sem]) rfl ⟨rfl, EW.comp EY⟩
      ·have hQz : ((Q : Int) == 0) = false := by simp; omega
       obtain ⟨p0, ps2, rfl⟩ : ∃ p0 ps2, ps = p0 :: ps2 := by cases ps with | nil => exact absurd hQ.symm hQ0 | cons x y => exact ⟨x, y, rfl⟩
       obtain rfl : (0, 0, false) = v := by rw [← HV.out]; unfold rmendB; rw [HES.out, HPS.out]
       clear hL hQ
       go_wp2
       exact bodyPost_ret (v := .tuple #[.int .i64 0, .int .i64 0, .bool false]) (by simp [results, Try.results53, go_sem]) rfl ⟨rfl, EW.comp EY⟩
     ·have hLz : ((L : Int) == 0) = false := by simp; omega
      obtain ⟨r0, es2, rfl⟩ : ∃ r0 es2, es = r0 :: es2 := by cases es with | nil => exact absurd hL.symm hL0 | cons x y => exact ⟨x, y, rfl⟩
      by_cases hL1 : L = 1
      ·have hL1z : ((L : Int) != 1) = false := by simp; omega
       obtain rfl : es2 = [] := List.eq_nil_of_length_eq_zero (by rw [List.length_cons] at hL; omega)
       obtain ⟨g, sc2, hg⟩ := Go.Joins.ownsRow_form hrow (by omega)
       obtain ⟨rfl, -, -⟩ := Value.slice.inj hg
       have hr0 := hrow.cellAt 0 (by omega)
       rw [show (iv (natI [r0]))[0]? = some (.int .i64 (r0 : Int)) from rfl] at hr0
       have hLp : (0 : Int) < (L : Int) := by omega
       by_cases hQ0 : Q = 0
       ·obtain rfl : ps = [] := List.eq_nil_of_length_eq_zero (by omega)
        subst hQ0
        obtain rfl : ((r0 : Int), 6, true) = v := by rw [← HV.out]; unfold rmendB; rw [HES.out, HPS.out]
        clear hL hQ hg
        go_wp2
        exact bodyPost_ret (v := .tuple #[.int .i64 (r0 : Int), .int .i64 6, .bool true]) (by simp [results, Try.results53, go_sem]) rfl ⟨rfl, EW.comp EY⟩
       ·have hQz : ((Q : Int) == 0) = false := by simp; omega
        obtain ⟨p0, ps2, rfl⟩ : ∃ p0 ps2, ps = p0 :: ps2 := by cases ps with | nil => exact absurd hQ.symm hQ0 | cons x y => exact ⟨x, y, rfl⟩
        by_cases hQ1 : Q = 1
        ·have hQ1z : decide (1 < (Q : Int)) = false := decide_eq_false (by omega)
         obtain rfl : ps2 = [] := List.eq_nil_of_length_eq_zero (by rw [List.length_cons] at hQ; omega)
         obtain ⟨g2, sc3, hg2⟩ := Go.Joins.ownsRow_form hown (by omega)
         obtain ⟨rfl, -, -⟩ := Value.slice.inj hg2
         have hp0 := hown.cellAt 0 (by omega)
         rw [show (iv (natI [p0]))[0]? = some (.int .i64 (p0 : Int)) from rfl] at hp0
         have hQp : (0 : Int) < (Q : Int) := by omega
         obtain rfl : ((r0 : Int), (p0 : Int), true) = v := by rw [← HV.out]; unfold rmendB; rw [HES.out, HPS.out]
         clear hL hQ hg hg2
         go_wp2_with fail
         go_quiet (fail)
         go_wp2
         exact bodyPost_ret (v := .tuple #[.int .i64 (r0 : Int), .int .i64 (p0 : Int), .bool true]) (by simp [results, Try.results53, go_sem]) rfl ⟨rfl, EW.comp (ext_drewN EY _)⟩
        ·have hQ1z : decide (1 < (Q : Int)) = true := decide_eq_true (by omega)
         obtain ⟨p1, ps3, rfl⟩ : ∃ p1 ps3, ps2 = p1 :: ps3 := by cases ps2 with | nil => exact absurd (by rw [← hQ]; rfl) hQ1 | cons x y => exact ⟨x, y, rfl⟩
         obtain rfl : (0, 0, false) = v := by rw [← HV.out]; unfold rmendB; rw [HES.out, HPS.out]
         clear hL hQ hg
         go_wp2
         exact bodyPost_ret (v := .tuple #[.int .i64 0, .int .i64 0, .bool false]) (by simp [results, Try.results53, go_sem]) rfl ⟨rfl, EW.comp EY⟩
      ·have hL1z : ((L : Int) != 1) = true := by simp; omega
       obtain ⟨r1, es3, rfl⟩ : ∃ r1 es3, es2 = r1 :: es3 := by cases es2 with | nil => exact absurd (by rw [← hL]; rfl) hL1 | cons x y => exact ⟨x, y, rfl⟩
       obtain rfl : (0, 0, false) = v := by rw [← HV.out]; unfold rmendB; rw [HES.out, HPS.out]
       clear hL hQ
       go_wp2
       exact bodyPost_ret (v := .tuple #[.int .i64 0, .int .i64 0, .bool false]) (by simp [results, Try.results53, go_sem]) rfl ⟨rfl, EW.comp EY⟩
end Go.Proofs.Ytnhpcoagkmgdoaa
/- Layer 10 in plain Lean: the reference's mend is the program's. -/
namespace Go.Q
theorem plc_facts : ∀ x : Fin 64, (plcX x.1 = [] → x.1 = 0) ∧ (∀ k : Fin 6, plcX x.1 = [k.1] → x.1 = 2 ^ k.1 ∧ ¬ 1 < onesN x.1 6) ∧ (2 ≤ (plcX x.1).length → 1 < onesN x.1 6) ∧ (∀ k ∈ plcX x.1, k < 6) := by decide +kernel
theorem chk_lt (b : List Nat) : chk b < 64 := Nat.mod_lt _ (by decide)
theorem ones_zero6 : onesN 0 6 = 0 := by decide
theorem plc_zero : plcX 0 = [] := by decide
theorem rmend_eq (b : List Nat) : (rmendB b).2.2 = (mendB b).2.1 ∧ ((mendB b).2.1 = true → (rmendB b).1 = (mendB b).1 ∧ (((mendB b).1 = -1 ∧ (mendB b).2.2 = b) ∨ ∃ r k : Nat, r < b.length ∧ k < 7 ∧ (rmendB b).1 = (r : Int) ∧ (rmendB b).2.1 = (k : Int) ∧ (mendB b).2.2 = b.set r (b[r]?.getD 0 ^^^ 2 ^ k))) := by
 obtain ⟨p1, p2, p3, p4⟩ := plc_facts ⟨chk b, chk_lt b⟩
 dsimp only at p1 p2 p3 p4
 have hz : chk b = 0 → plcX (chk b) = [] := fun e => by rw [e]; exact plc_zero
 have hm : ∀ r, r ∈ evs b → r < b.length := fun r hr => by
  unfold evs at hr
  rw [List.mem_filter] at hr
  exact List.mem_range.1 hr.1
 unfold rmendB mendB
 generalize plcX (chk b) = ps at *
 generalize evs b = es at *
 match es, ps, hm with
 | [], [], _ => exact ⟨by rw [p1 rfl]; rfl, fun _ => ⟨rfl, .inl ⟨rfl, rfl⟩⟩⟩
 | [], k :: ps, _ =>
  have hne : (chk b == 0) = false := by
   cases e : chk b == 0 with
   | false => rfl
   | true => have := hz (by simpa using e); simp at this
  dsimp only
  rw [hne]
  exact ⟨rfl, fun h => by cases h⟩
 | [r], [], hm =>
  have h0 := p1 rfl
  dsimp only
  rw [if_neg (by rw [h0, ones_zero6]; decide)]
  refine ⟨rfl, fun _ => ⟨rfl, .inr ⟨r, 6, hm r (List.mem_singleton.2 rfl), by decide, rfl, rfl, ?_⟩⟩⟩
  unfold turnM
  rw [if_pos h0]
 | [r], [k], hm =>
  have hk := p4 k (List.mem_singleton.2 rfl)
  obtain ⟨h1, h2⟩ := p2 ⟨k, hk⟩ rfl
  dsimp only at h1
  have hne : chk b ≠ 0 := fun e => by have := hz e; simp at this
  dsimp only
  rw [if_neg h2]
  refine ⟨rfl, fun _ => ⟨rfl, .inr ⟨r, k, hm r (List.mem_singleton.2 rfl), by omega, rfl, rfl, ?_⟩⟩⟩
  unfold turnM
  rw [if_neg hne, h1]
 | [r], k :: k2 :: ps, _ =>
  have h1 := p3 (by simp)
  dsimp only
  rw [if_pos h1]
  exact ⟨rfl, fun h => by cases h⟩
 | _ :: _ :: _, ps, _ =>
  refine ⟨?_, fun h => by cases h⟩
  match ps with
  | [] => rfl
  | [_] => rfl
  | _ :: _ :: _ => rfl
end Go.Q
/- Layer 10 in plain Lean: what Read's loops hold. -/
namespace Go.Q
/-- the rows, of which the first i blocks are mended -/
def rk (rs : List Nat) (i : Nat) : List Nat := rightN rs i ++ rs.drop (65 * i)
theorem range_flat {α : Type} (g : Nat → List α) (i : Nat) : (List.range (i + 1)).flatMap g = (List.range i).flatMap g ++ g i := by
 rw [List.range_succ, List.flatMap_append, List.flatMap_cons, List.flatMap_nil, List.append_nil]
theorem right_succ (rs : List Nat) (i : Nat) : rightN rs (i + 1) = rightN rs i ++ (mendB (blk rs i)).2.2 := range_flat _ i
theorem mended_succ (rs : List Nat) (i : Nat) : mendedN rs (i + 1) = mendedN rs i ++ (if 0 ≤ (mendB (blk rs i)).1 then [((65 * i : Nat) : Int) + (mendB (blk rs i)).1] else []) := range_flat _ i
theorem words_succ (rs : List Nat) (i : Nat) : wordsN10 rs (i + 1) = wordsN10 rs i ++ wordsB (mendB (blk rs i)).2.2 := range_flat _ i
theorem mendB_len (b : List Nat) : (mendB b).2.2.length = b.length := by
 unfold mendB
 split
 ·rfl
 ·split
  ·rfl
  ·exact List.length_set ..
 ·rfl
theorem blkLen {rs : List Nat} {m i : Nat} (h : rs.length = 65 * m) (hi : i < m) : (blk rs i).length = 65 := by
 unfold blk
 rw [List.length_take, List.length_drop]
 omega
theorem rightN_len {rs : List Nat} {m i : Nat} (h : rs.length = 65 * m) (hi : i ≤ m) : (rightN rs i).length = 65 * i := flat_len2 i fun j hj => by rw [mendB_len]; exact blkLen h (by omega)
theorem wordsB_len (b : List Nat) : (wordsB b).length = 16 := by simp [wordsB]
theorem wordsN10_len (rs : List Nat) (i : Nat) : (wordsN10 rs i).length = 16 * i := flat_len2 i fun j _ => wordsB_len _
theorem mendedN_len (rs : List Nat) : ∀ i, (mendedN rs i).length ≤ i
 | 0 => Nat.le_refl _
 | i + 1 => by
  have := mendedN_len rs i
  rw [mended_succ, List.length_append]
  split <;> simp <;> omega
theorem drop_blk {rs : List Nat} (i : Nat) : rs.drop (65 * i) = blk rs i ++ rs.drop (65 * (i + 1)) := by
 unfold blk
 rw [show 65 * (i + 1) = 65 * i + 65 by omega, ← List.drop_drop, List.take_append_drop]
theorem rk_zero (rs : List Nat) : rk rs 0 = rs := rfl
theorem rk_end {rs : List Nat} {m : Nat} (h : rs.length = 65 * m) : rk rs m = rightN rs m := by
 unfold rk
 rw [List.drop_of_length_le (by omega), List.append_nil]
theorem rk_len {rs : List Nat} {m i : Nat} (h : rs.length = 65 * m) (hi : i ≤ m) : (rk rs i).length = 65 * m := by
 unfold rk
 rw [List.length_append, rightN_len h hi, List.length_drop]
 omega
theorem rk_same {rs : List Nat} {i : Nat} (hb : (mendB (blk rs i)).2.2 = blk rs i) : rk rs (i + 1) = rk rs i := by
 unfold rk
 rw [right_succ, hb, List.append_assoc, ← drop_blk]
theorem rk_set {rs : List Nat} {m i r v : Nat} (h : rs.length = 65 * m) (hi : i < m) (hr : r < 65) (hb : (mendB (blk rs i)).2.2 = (blk rs i).set r v) : rk rs (i + 1) = (rk rs i).set (65 * i + r) v := by
 have h1 := rightN_len h (Nat.le_of_lt hi)
 have h2 := blkLen h hi
 unfold rk
 rw [right_succ, hb, List.append_assoc, drop_blk i, List.set_append_right _ _ (by omega), h1, show 65 * i + r - 65 * i = r by omega, List.set_append_left _ _ (by omega)]
theorem rk_old {rs : List Nat} {m i r : Nat} (h : rs.length = 65 * m) (hi : i < m) (hr : r < 65) : (rk rs i)[65 * i + r]?.getD 0 = (blk rs i)[r]?.getD 0 := by
 have h1 := rightN_len h (Nat.le_of_lt hi)
 have h2 := blkLen h hi
 unfold rk
 rw [drop_blk i, List.getElem?_append_right (by omega), h1, show 65 * i + r - 65 * i = r by omega, List.getElem?_append_left (by omega)]
theorem rk_new {rs : List Nat} {m i r : Nat} (h : rs.length = 65 * m) (hi : i < m) (hr : r < 65) : (rk rs (i + 1))[65 * i + r]?.getD 0 = (mendB (blk rs i)).2.2[r]?.getD 0 := by
 have h1 := rightN_len h (Nat.le_of_lt hi)
 have h2 := blkLen h hi
 have h3 := mendB_len (blk rs i)
 unfold rk
 rw [right_succ, List.append_assoc, List.getElem?_append_right (by omega), h1, show 65 * i + r - 65 * i = r by omega, List.getElem?_append_left (by omega)]
theorem mendB_bad {b : List Nat} (h : (mendB b).2.1 = false) : (mendB b).2.2 = b := by
 unfold mendB at h ⊢
 generalize evs b = es at h ⊢
 match es, h with
 | [], _ => rfl
 | [r], h =>
  dsimp only at h ⊢
  by_cases hc : 1 < onesN (chk b) 6
  ·rw [if_pos hc]
  ·rw [if_neg hc] at h; cases h
 | _ :: _ :: _, _ => rfl
theorem mendB_lt {b : List Nat} (h : ∀ r ∈ b, r < 128) : ∀ r ∈ (mendB b).2.2, r < 128 := by
 obtain ⟨_, h2⟩ := rmend_eq b
 cases hm : (mendB b).2.1 with
 | true =>
  rcases (h2 hm).2 with ⟨_, e⟩ | ⟨r, k, hr, hk, _, _, e⟩
  ·rw [e]; exact h
  ·rw [e]
   intro x hx
   rcases List.mem_or_eq_of_mem_set hx with hx | rfl
   ·exact h x hx
   ·have h3 : b[r]?.getD 0 < 2 ^ 7 := get_lt h (by decide) r
    have h4 : 2 ^ k < 2 ^ 7 := Nat.pow_lt_pow_right (by decide) hk
    exact Nat.xor_lt_two_pow h3 h4
 | false =>
  rw [mendB_bad hm]; exact h
theorem blk_lt {rs : List Nat} (h : ∀ r ∈ rs, r < 128) (i : Nat) : ∀ r ∈ blk rs i, r < 128 := fun r hr => h r (List.mem_of_mem_drop (List.mem_of_mem_take hr))
theorem rk_lt {rs : List Nat} (h : ∀ r ∈ rs, r < 128) : ∀ i, ∀ r ∈ rk rs i, r < 128 := fun i r hr => by
 unfold rk at hr
 rcases List.mem_append.1 hr with hr | hr
 ·unfold rightN at hr
  rw [List.mem_flatMap] at hr
  obtain ⟨j, _, hr⟩ := hr
  exact mendB_lt (blk_lt h j) r hr
 ·exact h r (List.mem_of_mem_drop hr)
/-- four rows from above, m of them read -/
def hw (b : List Nat) (k : Nat) : Nat → Nat
 | 0 => 0
 | m + 1 => 64 * hw b k m + b[4 * k + (3 - m)]?.getD 0 % 64
theorem hw_bd (b : List Nat) (k : Nat) : ∀ m, m ≤ 4 → hw b k m < 64 ^ m
 | 0, _ => (show (0 : Nat) < 64 ^ 0 by decide)
 | m + 1, h => by
  have := hw_bd b k m (by omega)
  have h2 : b[4 * k + (3 - m)]?.getD 0 % 64 < 64 := Nat.mod_lt _ (by decide)
  show 64 * hw b k m + b[4 * k + (3 - m)]?.getD 0 % 64 < 64 ^ (m + 1)
  rw [Nat.pow_succ]
  omega
theorem hw_le (b : List Nat) (k m : Nat) (h : m ≤ 4) : hw b k m < 16777216 := by
 have h1 := hw_bd b k m h
 have : (64 : Nat) ^ m ≤ 64 ^ 4 := Nat.pow_le_pow_right (by decide) h
 have h3 : (64 : Nat) ^ 4 = 16777216 := by decide
 omega
theorem hw_word (b : List Nat) (k : Nat) : ((hw b k 4 : Nat) : Int) = wordR b k := by
 have e : hw b k 4 = 64 * (64 * (64 * (64 * 0 + b[4 * k + 3]?.getD 0 % 64) + b[4 * k + 2]?.getD 0 % 64) + b[4 * k + 1]?.getD 0 % 64) + b[4 * k]?.getD 0 % 64 := rfl
 unfold wordR
 rw [e]
 omega
theorem wordsB_take (b : List Nat) {k : Nat} (hk : k < 16) : (wordsB b).take (k + 1) = (wordsB b).take k ++ [wordR b k] := by
 rw [List.take_add_one]
 congr 1
 simp [wordsB, hk]
theorem first_some {rs : List Nat} {m k : Nat} (h : rs.length = 65 * m) (hk : k < m) (ho : ∀ j, j < k → fineB rs j = true) (hb : fineB rs k = false) : firstBad rs = some k := by
 unfold firstBad
 rw [show rs.length / 65 = m by omega, List.find?_range_eq_some]
 refine ⟨by rw [hb]; rfl, by simpa using hk, fun j hj => by rw [ho j hj]; rfl⟩
theorem first_none {rs : List Nat} {m : Nat} (h : rs.length = 65 * m) (ho : ∀ j, j < m → fineB rs j = true) : firstBad rs = none := by
 unfold firstBad
 rw [show rs.length / 65 = m by omega, List.find?_range_eq_none]
 intro j hj
 rw [ho j hj]; rfl
theorem read_long {rs : List Nat} (h : 2400 < rs.length) : readE rs = ([], [], 0, 3) := by
 have e : readX rs = 3 := by unfold readX; rw [if_pos h]
 unfold readE
 rw [e, if_neg (by decide), if_neg (by decide)]
theorem read_six {rs : List Nat} (e : readX rs = 6) : readE rs = ([], [], 0, 6) := by
 unfold readE
 rw [e, if_neg (by decide), if_neg (by decide)]
theorem read_size {rs : List Nat} (h : rs.length ≤ 2400) (h2 : rs.length = 0 ∨ rs.length % 65 ≠ 0) : readE rs = ([], [], 0, 6) := read_six (by
 unfold readX
 rw [if_neg (by omega), if_pos (by rcases h2 with h2 | h2 <;> simp [h2])])
theorem read_high {rs : List Nat} (h : rs.length ≤ 2400) {k : Nat} (hk : k < rs.length) (h2 : 128 ≤ rs[k]?.getD 0) : readE rs = ([], [], 0, 6) := read_six (by
 unfold readX
 rw [if_neg (by omega), if_pos]
 refine .inr (.inr (List.any_eq_true.2 ?_))
 rw [List.getElem?_eq_getElem hk, Option.getD_some] at h2
 exact ⟨_, List.getElem_mem hk, decide_eq_true (by omega)⟩)
theorem all_low {rs : List Nat} (h : ∀ r ∈ rs, r < 128) : (rs.any fun r => decide (127 < r)) = false := by
 rw [List.any_eq_false]
 intro r hr
 have := h r hr
 simp; omega
theorem readX_mid {rs : List Nat} {m : Nat} (h : rs.length ≤ 2400) (hm : rs.length = 65 * m) (h0 : 0 < m) (hr : ∀ r ∈ rs, r < 128) : readX rs = match firstBad rs with
  | some _ => 200
  | none => if 560 < manyR rs ∨ ((bodyR rs).length : Int) < manyR rs then 6 else if tapeW ((bodyR rs).take (manyR rs).toNat) = rightN rs (rs.length / 65) then 0 else 6 := by
 have hn : ¬ (rs.length = 0 ∨ rs.length % 65 ≠ 0 ∨ rs.any (fun r => decide (127 < r)) = true) := by
  rw [all_low hr]
  intro hh
  rcases hh with hh | hh | hh
  ·omega
  ·omega
  ·cases hh
 unfold readX
 rw [if_neg (by omega), if_neg hn]
 cases firstBad rs <;> rfl
theorem read_fails {rs : List Nat} {m k : Nat} (h : rs.length ≤ 2400) (hm : rs.length = 65 * m) (hr : ∀ r ∈ rs, r < 128) (hk : k < m) (ho : ∀ j, j < k → fineB rs j = true) (hb : fineB rs k = false) : readE rs = ([], [], (k : Int), 200) := by
 have e := readX_mid h hm (by omega) hr
 have e2 := first_some hm hk ho hb
 rw [e2] at e
 dsimp only at e
 unfold readE
 rw [e, if_neg (by decide), if_pos rfl, e2]
 rfl
theorem read_many {rs : List Nat} {m : Nat} (h : rs.length ≤ 2400) (hm : rs.length = 65 * m) (h0 : 0 < m) (hr : ∀ r ∈ rs, r < 128) (ho : ∀ j, j < m → fineB rs j = true) (hx : 560 < manyR rs ∨ ((bodyR rs).length : Int) < manyR rs) : readE rs = ([], [], 0, 6) := by
 have e := readX_mid h hm h0 hr
 rw [first_none hm ho] at e
 dsimp only at e
 rw [if_pos hx] at e
 exact read_six e
theorem read_other {rs : List Nat} {m : Nat} (h : rs.length ≤ 2400) (hm : rs.length = 65 * m) (h0 : 0 < m) (hr : ∀ r ∈ rs, r < 128) (ho : ∀ j, j < m → fineB rs j = true) (hx : ¬ (560 < manyR rs ∨ ((bodyR rs).length : Int) < manyR rs)) (ht : tapeW ((bodyR rs).take (manyR rs).toNat) ≠ rightN rs m) : readE rs = ([], [], 0, 6) := by
 have e := readX_mid h hm h0 hr
 rw [first_none hm ho] at e
 dsimp only at e
 rw [if_neg hx, show rs.length / 65 = m by omega, if_neg ht] at e
 exact read_six e
theorem read_fine {rs : List Nat} {m : Nat} (h : rs.length ≤ 2400) (hm : rs.length = 65 * m) (h0 : 0 < m) (hr : ∀ r ∈ rs, r < 128) (ho : ∀ j, j < m → fineB rs j = true) (hx : ¬ (560 < manyR rs ∨ ((bodyR rs).length : Int) < manyR rs)) (ht : tapeW ((bodyR rs).take (manyR rs).toNat) = rightN rs m) : readE rs = ((bodyR rs).take (manyR rs).toNat, mendedN rs m, 0, 0) := by
 have e := readX_mid h hm h0 hr
 rw [first_none hm ho] at e
 dsimp only at e
 rw [if_neg hx, show rs.length / 65 = m by omega, if_pos ht] at e
 unfold readE
 rw [if_pos e, show rs.length / 65 = m by omega]
theorem body_eq {rs : List Nat} {m : Nat} (hm : rs.length = 65 * m) : bodyR rs = (wordsN10 rs m).drop 1 ∧ manyR rs = (wordsN10 rs m)[0]?.getD 0 := by
 unfold bodyR manyR
 rw [show rs.length / 65 = m by omega]
 exact ⟨rfl, rfl⟩
end Go.Q
/- Layer 10's laws, in plain Lean: a tape with wrong holes, as the laws make it. -/
namespace Go.Q
open Go.RowKit
/-- the hole of block i that two numbers give, by turns -/
def wrongF (x : List (Nat × Nat)) (i : Nat) : Option (Nat × Nat) :=
 if x.length = 0 then none else if (x[i % x.length]?.getD (0, 0)).2 % 8 = 7 then none else some ((x[i % x.length]?.getD (0, 0)).1 % 65, (x[i % x.length]?.getD (0, 0)).2 % 8)
theorem wrong_ok (x : List (Nat × Nat)) : holesOk (wrongF x) := by
 intro i r p h
 unfold wrongF at h
 split at h
 ·cases h
 ·split at h
  ·cases h
  ·rename_i h1 h2
   cases h
   exact ⟨Nat.mod_lt _ (by decide), by omega⟩
theorem wrong_nil {x : List (Nat × Nat)} (h : x.length = 0) (i : Nat) : wrongF x i = none := by unfold wrongF; rw [if_pos h]
theorem wrong_no {x : List (Nat × Nat)} {i : Nat} (h0 : x.length ≠ 0) {a b : Nat} (h : x[i % x.length]?.getD (0, 0) = (a, b)) (h7 : b % 8 = 7) : wrongF x i = none := by unfold wrongF; rw [if_neg h0, h, if_pos h7]
theorem wrong_yes {x : List (Nat × Nat)} {i : Nat} (h0 : x.length ≠ 0) {a b : Nat} (h : x[i % x.length]?.getD (0, 0) = (a, b)) (h7 : ¬ b % 8 = 7) : wrongF x i = some (a % 65, b % 8) := by unfold wrongF; rw [if_neg h0, h, if_neg h7]
/-- the tape after i blocks -/
def outK (rs : List Nat) (f : Nat → Option (Nat × Nat)) : Nat → List Nat
 | 0 => rs
 | i + 1 => match f i with
  | none => outK rs f i
  | some (r, p) => (outK rs f i).set (65 * i + r) ((outK rs f i)[65 * i + r]?.getD 0 ^^^ 2 ^ p)
def atK (f : Nat → Option (Nat × Nat)) (i : Nat) : List Int := (List.range i).flatMap (rowsAt f)
theorem atK_succ (f : Nat → Option (Nat × Nat)) (i : Nat) : atK f (i + 1) = atK f i ++ rowsAt f i := range_flat _ i
theorem atK_len (f : Nat → Option (Nat × Nat)) : ∀ i, (atK f i).length ≤ i
 | 0 => by simp [atK]
 | i + 1 => by
  rw [atK_succ, List.length_append]
  have := atK_len f i
  have h2 : (rowsAt f i).length ≤ 1 := by unfold rowsAt; split <;> simp
  omega
theorem outK_len (rs : List Nat) (f : Nat → Option (Nat × Nat)) : ∀ i, (outK rs f i).length = rs.length
 | 0 => rfl
 | i + 1 => by
  have h := outK_len rs f i
  unfold outK
  split
  ·exact h
  ·rw [List.length_set]; exact h
theorem outK_none {rs : List Nat} {f : Nat → Option (Nat × Nat)} {i : Nat} (h : f i = none) : outK rs f (i + 1) = outK rs f i := by
 show (match f i with | none => outK rs f i | some (r, p) => (outK rs f i).set (65 * i + r) ((outK rs f i)[65 * i + r]?.getD 0 ^^^ 2 ^ p)) = _
 rw [h]
theorem outK_some {rs : List Nat} {f : Nat → Option (Nat × Nat)} {i r p : Nat} (h : f i = some (r, p)) : outK rs f (i + 1) = (outK rs f i).set (65 * i + r) ((outK rs f i)[65 * i + r]?.getD 0 ^^^ 2 ^ p) := by
 show (match f i with | none => outK rs f i | some (r, p) => (outK rs f i).set (65 * i + r) ((outK rs f i)[65 * i + r]?.getD 0 ^^^ 2 ^ p)) = _
 rw [h]
theorem outK_lt {rs : List Nat} {f : Nat → Option (Nat × Nat)} (hf : holesOk f) (hr : ∀ r ∈ rs, r < 128) : ∀ i, ∀ r ∈ outK rs f i, r < 128
 | 0 => hr
 | i + 1 => by
  have h := outK_lt hf hr i
  cases e : f i with
  | none => rw [outK_none e]; exact h
  | some q =>
   obtain ⟨r, p⟩ := q
   rw [outK_some e]
   intro x hx
   rcases List.mem_or_eq_of_mem_set hx with hx | rfl
   ·exact h x hx
   ·have h3 : (outK rs f i)[65 * i + r]?.getD 0 < 2 ^ 7 := by
     cases e2 : (outK rs f i)[65 * i + r]? with
     | none => exact Nat.pos_of_ne_zero (by decide)
     | some y => exact h y (List.mem_of_getElem? e2)
    exact Nat.xor_lt_two_pow h3 (Nat.pow_lt_pow_right (by decide) (hf i r p e).2)
theorem flat_len3 {α : Type} {g : Nat → List α} {n m : Nat} (hg : ∀ i, i < m → (g i).length = n) : ((List.range m).flatMap g).length = n * m := flat_len2 m hg
theorem flat_set {g : Nat → List Nat} {n m i r v : Nat} (hn : 0 < n) (hg : ∀ j, j < m → (g j).length = n) (hi : i < m) (hr : r < n) :
  ((List.range m).flatMap g).set (n * i + r) v = (List.range m).flatMap fun j => if j = i then (g i).set r v else g j := by
 have hg2 : ∀ j, j < m → (if j = i then (g i).set r v else g j).length = n := by
  intro j hj
  split
  ·rw [List.length_set]; exact hg i hi
  ·exact hg j hj
 refine List.ext_getElem? fun q => ?_
 by_cases hq : q < n * m
 ·have hd : q = n * (q / n) + q % n := (Nat.div_add_mod q n).symm
  have hdm : q / n < m := Nat.div_lt_of_lt_mul hq
  have hmn : q % n < n := Nat.mod_lt _ hn
  obtain ⟨j, hj⟩ : ∃ j, q / n = j := ⟨_, rfl⟩
  obtain ⟨t, ht⟩ : ∃ t, q % n = t := ⟨_, rfl⟩
  rw [hj, ht] at hd
  rw [hj] at hdm
  rw [ht] at hmn
  subst hd
  rw [flat_get2 hg2 hdm hmn, List.getElem?_set]
  by_cases hji : j = i
  ·subst hji
   rw [if_pos rfl, List.getElem?_set, hg j hdm, flat_len3 hg]
   by_cases hrt : r = t
   ·subst hrt; rw [if_pos rfl, if_pos rfl, if_pos hq, if_pos hr]
   ·rw [if_neg (by omega), if_neg hrt, flat_get2 hg hdm hmn]
  ·rw [if_neg hji, if_neg, flat_get2 hg hdm hmn]
   intro e
   have h1 : (n * i + r) / n = (n * j + t) / n := by rw [e]
   rw [Nat.mul_add_div hn, Nat.mul_add_div hn, Nat.div_eq_of_lt hr, Nat.div_eq_of_lt hmn] at h1
   omega
 ·rw [List.getElem?_eq_none (by rw [List.length_set, flat_len3 hg]; omega), List.getElem?_eq_none (by rw [flat_len3 hg2]; omega)]
theorem outK_flat {g : Nat → List Nat} {f : Nat → Option (Nat × Nat)} {m : Nat} (hg : ∀ i, i < m → (g i).length = 65) (hf : holesOk f) : ∀ i, i ≤ m → outK ((List.range m).flatMap g) f i = (List.range m).flatMap fun j => if j < i then spoilB g f j else g j
 | 0, _ => by
  refine flatMap_congr2 fun j _ => ?_
  rw [if_neg (Nat.not_lt_zero j)]
 | i + 1, h => by
  have ih := outK_flat hg hf i (by omega)
  have hG : ∀ j, j < m → ((fun j => if j < i then spoilB g f j else g j) j).length = 65 := by
   intro j hj
   dsimp only
   split
   ·unfold spoilB; split
    ·exact hg j hj
    ·rw [flipB_len]; exact hg j hj
   ·exact hg j hj
  cases e : f i with
  | none =>
   rw [outK_none e, ih]
   refine flatMap_congr2 fun j hj => ?_
   by_cases hji : j = i
   ·subst hji; rw [if_neg (Nat.lt_irrefl _), if_pos (Nat.lt_succ_self _)]; unfold spoilB; rw [e]
   ·by_cases h1 : j < i
    ·rw [if_pos h1, if_pos (by omega)]
    ·rw [if_neg h1, if_neg (by omega)]
  | some q =>
   obtain ⟨r, p⟩ := q
   have hr := (hf i r p e).1
   rw [outK_some e, ih, flat_get2 hG (by omega) hr, flat_set (by decide) hG (by omega) hr]
   refine flatMap_congr2 fun j hj => ?_
   (try dsimp only)
   rw [if_neg (Nat.lt_irrefl i)]
   by_cases hji : j = i
   ·subst hji; rw [if_pos rfl, if_pos (Nat.lt_succ_self _)]; unfold spoilB; rw [e]; rfl
   ·rw [if_neg hji]
    by_cases h1 : j < i
    ·rw [if_pos h1, if_pos (by omega)]
    ·rw [if_neg h1, if_neg (by omega)]
theorem out_spoil (ws : List Int) {f : Nat → Option (Nat × Nat)} (hf : holesOk f) : outK (tapeW ws) f (manyB ws) = spoilT ws f := by
 rw [tape_blocks ws, outK_flat (fun i hi => (tapeB_good hi).len) hf _ (Nat.le_refl _)]
 refine flatMap_congr2 fun j hj => ?_
 rw [if_pos hj]
theorem at_mended (ws : List Int) (f : Nat → Option (Nat × Nat)) : atK f (manyB ws) = mendedT ws f := rfl
theorem tape_len65 (ws : List Int) : (tapeW ws).length = 65 * manyB ws := by
 rw [tape_blocks ws]
 exact flat_len3 fun i hi => (tapeB_good hi).len
end Go.Q

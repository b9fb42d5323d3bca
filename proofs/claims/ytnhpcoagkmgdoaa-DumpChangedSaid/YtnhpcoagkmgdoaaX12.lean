import Derived.StillTailTactics
import Derived.Test.YtnhpcoagkmgdoaaX11
import Derived.Test.YtnhpcoagkmgdoaaX9
import Derived.Test.YtnhpcoagkmgdoaaX0
set_option linter.unusedVariables false
set_option linter.unusedSimpArgs false
/- Layer 10's reference: Read. -/
namespace Go.Q
open Go.RowKit
/-- words, mended rows, a block and an error's code are returned -/
def ReadRes10 (r : List Int × List Int × Int × Int) (w : World) (e : Ending) (w' : World) : Prop := ∃ a c ma mc, e = .returned (.tuple #[.slice a r.1.length c, .slice ma r.2.1.length mc, .int .i64 r.2.2.1, .int .i64 r.2.2.2]) ∧ (r.1.length ≤ c ∧ c ≤ 9223372036854775807) ∧ (r.2.1.length ≤ mc ∧ mc ≤ 9223372036854775807) ∧ IntsAt w' a r.1 ∧ IntsAt w' ma r.2.1 ∧ Ext w w'
theorem read_none {x y : Int} {w W : World} (E : Ext w W) : ReadRes10 ([], [], x, y) w (.returned (.tuple #[.slice none 0 0, .slice none 0 0, .int .i64 x, .int .i64 y])) W := ⟨none, 0, none, 0, rfl, ⟨Nat.le_refl _, by decide⟩, ⟨Nat.le_refl _, by decide⟩, .inl rfl, .inl rfl, E⟩
theorem natI_set (rs : List Nat) (i v : Nat) : natI (rs.set i v) = (natI rs).set i (v : Int) := by unfold natI; rw [List.map_set]
theorem tape_lt {ws : List Int} (h : wordOk ws) : ∀ r ∈ tapeW ws, r < 256 := fun r hr => by
 rw [tape_blocks, List.mem_flatMap] at hr
 obtain ⟨i, hi, hr⟩ := hr
 exact Nat.lt_trans ((tapeB_good (List.mem_range.1 hi)).lt r hr) (by decide)
end Go.Q
namespace Go.Proofs.Ytnhpcoagkmgdoaa
open Go.RowKit Go.Q Go.Joins
set_option maxRecDepth 100000 in
set_option maxHeartbeats 8000000 in
theorem rread_any (a : Option Addr) (n c : Nat) (rs : List Nat) (w : World) (hn : rs.length = n) (hbig : n ≤ c ∧ c ≤ 9223372036854775807) (hI : BytesAt w a (natI rs)) (h256 : ∀ r ∈ rs, r < 256) :
  Calls Try.prog 18 #[.slice a n c] w (ReadRes10 (readE rs) w) := by
 obtain ⟨v, hv⟩ : ∃ v, readE rs = v := ⟨_, rfl⟩
 rw [hv]
 have HV := Lib.hid hv
 have HN := Lib.hid hn
 have HI := Lib.hid hI
 have H256 := Lib.hid h256
 clear hv hn hI h256
 by_cases hl : n ≤ 2400
 ·have d1 : decide (2400 < (n : Int)) = false := decide_eq_false (by omega)
  by_cases hz : n = 0 ∨ n % 65 ≠ 0
  ·obtain rfl : ([], [], 0, 6) = v := by rw [← HV.out]; exact (read_size (by rw [HN.out]; exact hl) (by rw [HN.out]; exact hz)).symm
   by_cases h0 : n = 0
   ·subst h0
    go_enter Try.func18, Try.ntmps18
    go_wp2
    exact bodyPost_ret (v := .tuple #[.slice none 0 0, .slice none 0 0, .int .i64 0, .int .i64 6]) (by simp [results, Try.results18, go_sem]) rfl (read_none (Ext.refl _))
   ·obtain ⟨q, hq⟩ : ∃ q, n % 65 = q := ⟨_, rfl⟩
    have hqp : 0 < q := by omega
    have t1 : Int.tmod (n : Int) 65 = (q : Int) := by rw [Int.tmod_eq_emod_of_nonneg (by omega)]; omega
    have t2 : (n : Int) % 65 = (q : Int) := by omega
    have t3 : decide (0 < (q : Int)) = true := decide_eq_true (by omega)
    have t4 : ((n : Int) == 0) = false := by simp; omega
    clear hz hq
    go_enter Try.func18, Try.ntmps18
    go_wp2
    exact bodyPost_ret (v := .tuple #[.slice none 0 0, .slice none 0 0, .int .i64 0, .int .i64 6]) (by simp [results, Try.results18, go_sem]) rfl (read_none (Ext.refl _))
  ·have h0 : n ≠ 0 := fun e => hz (.inl e)
   have t1 : Int.tmod (n : Int) 65 = 0 := by rw [Int.tmod_eq_emod_of_nonneg (by omega)]; omega
   have t2 : (n : Int) % 65 = 0 := by omega
   have t4 : ((n : Int) == 0) = false := by simp; omega
   obtain ⟨m, hm⟩ : ∃ m, n = 65 * m := ⟨n / 65, by omega⟩
   have hm0 : 0 < m := by omega
   have hm36 : m ≤ 36 := by omega
   have HM := Lib.hid hm
   clear hz hm
   obtain ⟨b, off, rfl, hb, hc⟩ : ∃ b off, a = some ⟨b, off, none⟩ ∧ b < w.heap.size ∧ ∀ j, j < n → w.cell? ⟨b, off + j, none⟩ = some (.int .u8 ((rs[j]?.getD 0 : Nat) : Int)) := by
    rcases HI.out with h | ⟨b, off, ha, hb, hc⟩
    ·have := natI_length rs; rw [h, HN.out] at this; exact absurd this.symm h0
    ·refine ⟨b, off, ha, hb, fun j hj => ?_⟩
     rw [hc j (by rw [natI_length, HN.out]; exact hj), natI_get]
   have HC := Lib.hid hc
   clear hc
   go_enter Try.func18, Try.ntmps18
   go_wp2
   go_loopw [6] (fun s6 wr => ∃ k : Nat, k ≤ n ∧ s6 = .int .i64 (k : Int) ∧ Aside (∀ j, j < k → rs[j]?.getD 0 < 128) ∧ wr = w) (fun s6 _ => n - (Go.RowKit.intOf s6).toNat)
   case atStart => exact ⟨0, Nat.zero_le _, rfl, (fun j hj => absurd hj (Nat.not_lt_zero _)), rfl⟩
   case round =>
    obtain ⟨k, hk, rfl, HA, rfl⟩ := hrel
    by_cases hlt : k < n
    ·have hltz : (k : Int) < (n : Int) := by omega
     have hx := HC.out k hlt
     obtain ⟨x, hxe⟩ : ∃ x, rs[k]?.getD 0 = x := ⟨_, rfl⟩
     rw [hxe] at hx
     have HX := Lib.hid hxe
     clear hxe
     by_cases hw : x < 128
     ·have hwz : decide ((128 : Int) ≤ (x : Int)) = false := decide_eq_false (by omega)
      have HA2 : Aside (∀ j, j < k + 1 → rs[j]?.getD 0 < 128) := (show Aside _ from fun j hj => by
       by_cases e : j = k
       ·rw [e, HX.out]; exact hw
       ·exact HA.out j (by omega))
      clear HA
      go_wp2
      go_roundw
      case rel => exact ⟨k + 1, by omega, by go_num, HA2, (by first | rfl | trivial)⟩
      case measure => simp [Go.RowKit.intOf]; omega
     ·have hwz : decide ((128 : Int) ≤ (x : Int)) = true := decide_eq_true (by omega)
      obtain rfl : ([], [], 0, 6) = v := by rw [← HV.out]; exact (read_high (by rw [HN.out]; exact hl) (by rw [HN.out]; exact hlt) (by rw [HX.out]; omega)).symm
      clear HA
      go_wp2
      exact bodyPost_ret (v := .tuple #[.slice none 0 0, .slice none 0 0, .int .i64 0, .int .i64 6]) (by simp [results, Try.results18, go_sem]) rfl (read_none (Ext.refl _))
    ·have hltz : ¬ (k : Int) < (n : Int) := by omega
     obtain rfl : k = n := by omega
     obtain ⟨W0, rfl⟩ : ∃ W0 : World, W0 = wr := ⟨_, rfl⟩
     have HLO := Lib.hid (show ∀ r ∈ rs, r < 128 from fun r hr => by
      obtain ⟨i, hi, rfl⟩ := List.mem_iff_getElem.1 hr
      have := HA.out i (by rw [HN.out] at hi; exact hi)
      rwa [List.getElem?_eq_getElem hi] at this)
     clear HA
     obtain ⟨i0, hi0, hz0, hz1, hz2⟩ := info_parts Try.infoE
     obtain ⟨i1, hi1, hy0, hy1, hy2⟩ := info_parts Try.infoU
     go_wp2_with (at_builtin; refine wpList_app (w0 := W0) rfl _ _ 23 rfl 5 i1 (.int .u8 0) 1 1 Try.underlying23 hi1 hy0 hy1 hy2 rfl (by decide) _ 0 W0.heap.size [] rfl (own_empty (Ext.refl _)) ((Ext.refl W0).alloc _) (Nat.le_refl _) (by simp) _ k c (ub (natI rs)) rfl ?c1 ?c2 (ub_one _) (by unfold maxLen; omega) (by omega) ?_)
     case c1 => rw [ub_length, natI_length, HN.out]
     case c2 => exact from_bytes (HI.out.ext ((Ext.refl W0).alloc _))
     intro a1 c1 w1 hown1 hE1 _
     replace hown1 : w1.ownsRow W0.heap.size 5 1 (.slice a1 k c1) k (ub (natI rs)) := by simpa using hown1
     obtain ⟨g, sc, hg⟩ := ownsRow_form hown1 (by omega)
     obtain ⟨rfl, -, rfl⟩ := Value.slice.inj hg
     clear hg
     obtain ⟨hcap, hcap2⟩ := own_cap hown1
     have hR0 : R3 W0.heap.size 5 3 w1 (.slice (some ⟨g, 0, none⟩) k c1) (.slice none 0 0) (.slice none 0 0) (natI (rk rs 0)) (mendedN rs 0) (wordsN10 rs 0) := by
      refine ⟨?_, World.ownsRow_nil _ _ _ _, World.ownsRow_nil _ _ _ _, ?_, ?_, .inl rfl⟩
      ·rw [natI_length, rk_zero, HN.out]; exact hown1
      ·exact Ap2.symm (.inl rfl)
      ·exact Ap2.symm (.inl rfl)
     clear hown1
     (try go_frame)
     go_wp2
     go_loopw [8, 9, 10] (fun s8 s9 s10 X => ∃ i : Nat, i ≤ m ∧ (∃ z : Nat, z = 65 * i ∧ s10 = .int .i64 (z : Int)) ∧ (∃ (ma : Option Addr) (mc : Nat), s8 = .slice ma (mendedN rs i).length mc) ∧ (∃ (aa : Option Addr) (ac : Nat), s9 = .slice aa (wordsN10 rs i).length ac) ∧ R3 W0.heap.size 5 3 X (.slice (some ⟨g, 0, none⟩) k c1) s8 s9 (natI (rk rs i)) (mendedN rs i) (wordsN10 rs i) ∧ Aside (∀ j, j < i → fineB rs j = true) ∧ Ext W0 X) (fun _ _ s10 _ => k - (Go.RowKit.intOf s10).toNat)
     case atStart => exact ⟨0, Nat.zero_le _, ⟨0, rfl, rfl⟩, ⟨none, 0, rfl⟩, ⟨none, 0, rfl⟩, hR0, (fun j hj => absurd hj (Nat.not_lt_zero _)), hE1⟩
     case round =>
      clear hR0 hE1
      obtain ⟨i, hi, ⟨z, hz, rfl⟩, ⟨ma, mc, rfl⟩, ⟨aa, ac, rfl⟩, hR, HF, EX⟩ := hrel
      obtain ⟨X, rfl⟩ : ∃ X : World, X = wr := ⟨_, rfl⟩
      by_cases hlt : i < m
      ·have hkm := HM.out
       have hltz : (z : Int) < (k : Int) := by omega
       obtain ⟨ho, hho⟩ : ∃ ho, z + 65 = ho := ⟨_, rfl⟩
       have hsub : ho - z = 65 := by omega
       have hsl := fun W => slice_u8s W b off k c z ho (by omega) (by omega) (by omega)
       have hsl2 := fun W => slice_u8sAt W b off k c z ho (by omega) (by omega) (by omega)
       rw [hsub] at hsl hsl2
       have w1 : IntKind.i64.wrap ((z : Int) + 65) = (ho : Int) := by rw [show (z : Int) + 65 = (ho : Int) by omega]; exact IntWalk.i64_in _ (by omega)
       have hmd := rmend_any (some ⟨b, off + z, none⟩) 65 (c - z) (blk rs i) X (blkLen (HN.out.trans HM.out) hlt) (Nat.le_refl _) (blk_lt HLO.out i) (by rw [hz]; exact sub_u8s (HI.out.ext EX) (by rw [HN.out]; omega))
       obtain ⟨hme, hmf⟩ := rmend_eq (blk rs i)
       obtain ⟨q, hq⟩ : ∃ q, rmendB (blk rs i) = q := ⟨_, rfl⟩
       rw [hq] at hmd hme hmf
       obtain ⟨q1, q2, q3⟩ := q
       dsimp only at hmd hme hmf
       have HQ := Lib.hid hme
       have HQ2 := Lib.hid hmf
       have HZ := Lib.hid hz
       have m8 : (0 : Int) ≤ (z : Int) := by omega
       have m9 : (z : Int) ≤ (ho : Int) := by omega
       have m10 : (ho : Int) ≤ (c : Int) := by omega
       have m11 : ¬ c = z := by omega
       clear hz hho hme hmf hq hkm
       go_wp2_with fail
       refine hmd.mono ?_
       rintro e w8 ⟨rfl, E8⟩
       have hR8 := hR.ext E8
       have EX8 := EX.comp E8
       cases q3 with
       | false =>
        have t5 : Int.tdiv (z : Int) 65 = (i : Int) := by rw [Int.tdiv_eq_ediv_of_nonneg (by omega)]; have := HZ.out; omega
        have t6 : (z : Int) / 65 = (i : Int) := by have := HZ.out; omega
        obtain rfl : ([], [], (i : Int), 200) = v := by rw [← HV.out]; exact (read_fails (by rw [HN.out]; exact hl) (HN.out.trans HM.out) HLO.out hlt HF.out HQ.out.symm).symm
        clear hR hR8 EX hsl hsl2 w1
        go_wp2
        exact bodyPost_ret (v := .tuple #[.slice none 0 0, .slice none 0 0, .int .i64 (i : Int), .int .i64 200]) (by simp [results, Try.results18, go_sem]) rfl (read_none EX8)
       | true =>
        obtain ⟨hq1, hcase⟩ := HQ2.out HQ.out.symm
        have HMS := Lib.hid (mended_succ rs i)
        have HF2 : Aside (∀ j, j < i + 1 → fineB rs j = true) := (show Aside _ from fun j hj => by
         by_cases e : j = i
         ·rw [e]; exact HQ.out.symm
         ·exact HF.out j (by omega))
        clear HF HQ HQ2
        rw [← hq1] at HMS hcase
        rcases hcase with ⟨e1, e2⟩ | ⟨r, kk, hr65, hk7, er, ek, eb⟩
        ·have hRS := Lib.hid (rk_same e2)
         obtain rfl : q1 = -1 := e1
         rw [if_neg (by decide), List.append_nil] at HMS
         clear hq1
         obtain ⟨ma3, hma3⟩ : ∃ ma3, ma = ma3 := ⟨_, rfl⟩
         obtain ⟨mc3, hmc3⟩ : ∃ mc3, mc = mc3 := ⟨_, rfl⟩
         obtain ⟨n3, hn3⟩ : ∃ n3, (mendedN rs i).length = n3 := ⟨_, rfl⟩
         rw [hma3, hmc3, hn3] at hR8 ⊢
         have HM3 := Lib.hid (show n3 = (mendedN rs (i + 1)).length by rw [HMS.out]; exact hn3.symm)
         have hR3 : R3 W0.heap.size 5 3 w8 (.slice (some ⟨g, 0, none⟩) k c1) (.slice ma3 n3 mc3) (.slice aa (wordsN10 rs i).length ac) (natI (rk rs (i + 1))) (mendedN rs (i + 1)) (wordsN10 rs i) := by rw [hRS.out, HMS.out]; exact hR8
         have EX3 := EX8
         clear hma3 hmc3 hn3 hR8 EX8 e2
         go_wp2
         have hmbl : (mendB (blk rs i)).2.2.length = 65 := by rw [mendB_len]; exact blkLen (HN.out.trans HM.out) hlt
         have HMB := Lib.hid (fun j (hj : j < 65) => rk_new (HN.out.trans HM.out) hlt hj)
         have HML := Lib.hid (mendB_lt (blk_lt HLO.out i))
         have HWS := Lib.hid (words_succ rs i)
         have HRL := Lib.hid (show (rk rs (i + 1)).length = k by rw [rk_len (HN.out.trans HM.out) (by omega), HM.out])
         obtain ⟨mb, hmb⟩ : ∃ mb, (mendB (blk rs i)).2.2 = mb := ⟨_, rfl⟩
         rw [hmb] at HMB HML HWS
         have HAL := Lib.hid (wordsN10_len rs i)
         have HZK := Lib.hid HM.out
         have HR3 := Lib.hid hR3
         have HE3 := Lib.hid EX3
         have HLT := Lib.hid hlt
         clear hmb hR hR3 EX3 EX hsl hsl2 w1
         go_loopw [9, 14] (fun s9 s14 Y => ∃ j : Nat, j ≤ 16 ∧ s14 = .int .i64 (j : Int) ∧ (∃ (ya : Option Addr) (yc N : Nat), N = (wordsN10 rs i ++ (wordsB mb).take j).length ∧ s9 = .slice ya N yc) ∧ R3 W0.heap.size 5 3 Y (.slice (some ⟨g, 0, none⟩) k c1) (.slice ma3 n3 mc3) s9 (natI (rk rs (i + 1))) (mendedN rs (i + 1)) (wordsN10 rs i ++ (wordsB mb).take j) ∧ Ext W0 Y) (fun _ s14 _ => 16 - (Go.RowKit.intOf s14).toNat)
         case atStart => exact ⟨0, by omega, rfl, ⟨aa, ac, _, by rw [List.take_zero, List.append_nil], rfl⟩, by rw [List.take_zero, List.append_nil]; exact HR3.out, HE3.out⟩
         case round =>
          obtain ⟨j, hj, rfl, ⟨ya, yc, N, hN9, rfl⟩, hRY, EY⟩ := hrel
          obtain ⟨Y, rfl⟩ : ∃ Y : World, Y = wr := ⟨_, rfl⟩
          by_cases hj16 : j < 16
          ·have hjz : (j : Int) < 16 := by omega
           have HRY := Lib.hid hRY
           have HEY := Lib.hid EY
           have HN9 := Lib.hid hN9
           have HCE := Lib.hid (fun q (hq : q < 65) => show Y.cell? ⟨g, z + q, none⟩ = some (.int .u8 ((mb[q]?.getD 0 : Nat) : Int)) by
            have := R3.cell7 hRY (by rw [natI_length]; exact HRL.out) (j := z + q) (by rw [natI_length, HRL.out, HZK.out, HZ.out]; have := HLT.out; omega)
            rw [this, natI_get, HZ.out, HMB.out q hq])
           clear hRY EY hN9
           go_wp2
           go_loopw [15, 16] (fun s15 s16 wr2 => ∃ t : Nat, t ≤ 4 ∧ s15 = .int .i64 ((hw mb j t : Nat) : Int) ∧ (∃ y : Int, y = 3 - (t : Int) ∧ s16 = .int .i64 y) ∧ wr2 = Y) (fun _ s16 _ => (Go.RowKit.intOf s16 + 1).toNat)
           case atStart => exact ⟨0, by omega, rfl, ⟨3, by omega, rfl⟩, rfl⟩
           case round =>
            obtain ⟨t, ht, rfl, ⟨y, hy, rfl⟩, rfl⟩ := hrel
            have hH := hw_le mb j t ht
            by_cases ht4 : t < 4
            ·obtain ⟨p, rfl⟩ : ∃ p : Nat, y = p := ⟨3 - t, by omega⟩
             have hp3 : 3 - t = p := by omega
             have HHS := Lib.hid (show hw mb j (t + 1) = 64 * hw mb j t + mb[4 * j + (3 - t)]?.getD 0 % 64 from rfl)
             rw [hp3] at HHS
             have hx := HCE.out (4 * j + p) (by omega)
             have hxl := get_lt HML.out (by decide) (4 * j + p)
             obtain ⟨x, hxe⟩ : ∃ x, mb[4 * j + p]?.getD 0 = x := ⟨_, rfl⟩
             rw [hxe] at hx hxl HHS
             obtain ⟨H, hHe⟩ : ∃ H, hw mb j t = H := ⟨_, rfl⟩
             rw [hHe] at hH HHS ⊢
             obtain ⟨x6, hx6⟩ : ∃ x6, x % 64 = x6 := ⟨_, rfl⟩
             rw [hx6] at HHS
             have t1 : Int.tmod (x : Int) 64 = (x6 : Int) := by rw [Int.tmod_eq_emod_of_nonneg (by omega)]; omega
             have t2 : (x : Int) % 64 = (x6 : Int) := by omega
             have hx63 : x6 < 64 := by omega
             have wa : IntKind.i64.wrap (x : Int) = (x : Int) := IntWalk.i64_in _ (by omega)
             have wb : IntKind.i64.wrap (4 * (j : Int)) = 4 * (j : Int) := IntWalk.i64_in _ (by omega)
             have hzk : z + 65 ≤ k := by have := HZK.out; have := HZ.out; have := HLT.out; omega
             have hk24 : k ≤ 2400 := hl
             have wc : IntKind.i64.wrap ((z : Int) + 4 * (j : Int)) = (z : Int) + 4 * (j : Int) := IntWalk.i64_in _ (by omega)
             have wd : IntKind.i64.wrap ((z : Int) + 4 * (j : Int) + (p : Int)) = (z : Int) + 4 * (j : Int) + (p : Int) := IntWalk.i64_in _ (by omega)
             have we : IntKind.i64.wrap (64 * (H : Int)) = 64 * (H : Int) := IntWalk.i64_in _ (by omega)
             have wf : IntKind.i64.wrap (64 * (H : Int) + (x6 : Int)) = 64 * (H : Int) + (x6 : Int) := IntWalk.i64_in _ (by omega)
             have hi0 : (0 : Int) ≤ (z : Int) + 4 * (j : Int) + (p : Int) := by omega
             have hi1 : (z : Int) + 4 * (j : Int) + (p : Int) < (k : Int) := by omega
             have tq : ((z : Int) + 4 * (j : Int) + (p : Int)).toNat = z + (4 * j + p) := by omega
             have hp0 : (0 : Int) ≤ (p : Int) := by omega
             have HYY := Lib.hid hy
             clear hxe hHe hx6 hp3 hy
             go_wp2
             go_roundw
             case rel => exact ⟨t + 1, by omega, by rw [HHS.out]; go_num, ⟨(p : Int) - 1, by have := HYY.out; omega, rfl⟩, (by first | rfl | trivial)⟩
             case measure => simp [Go.RowKit.intOf]
            ·obtain rfl : t = 4 := by omega
             obtain rfl : y = -1 := by omega
             rw [hw_word]
             have HST := Lib.hid (wordsB_take mb hj16)
             obtain ⟨wd, hwd⟩ : ∃ wd, wordR mb j = wd := ⟨_, rfl⟩
             rw [hwd] at HST ⊢
             have hRA := HRY.out.ext ((Ext.refl wr).alloc (.cells #[.int .i64 wd] 3))
             have hN9 := HN9.out
             have hNl : N = 16 * i + j := by rw [hN9, List.length_append, HAL.out, List.length_take, wordsB_len]; omega
             have hNb : N ≤ 1000 := by have := HLT.out; omega
             have hown := hRA.r9
             rw [← hN9] at hown
             have hWs := HEY.out.size
             clear hwd hH hy hNl
             go_wp2_with (at_builtin; refine wpList_append_own_at _ rfl _ _ 22 rfl W0.heap.size 3 i0 (.int .i64 0) 1 8 Try.underlying22 hi0 hz0 hz1 hz2 rfl (by decide) _ _ _ rfl hown ⟨wr.heap.size, 0, none⟩ 1 1 [.int .i64 wd] rfl rfl (cell_one_new _ _ _) (by simp [Value.oneCell']) (by unfold maxLen; omega) (by omega) (by simp; omega) ?_; intro v' w7 hown' hgrow hnil hat)
             rw [hN9] at hown'
             have hR7 := hRA.app9 hown' hgrow hat
             have E7 : Ext W0 w7 := (HEY.out.alloc _).grown hgrow (by simp; omega) (fun q e => (hown.lt q e).1)
             obtain ⟨a7, c7, rfl⟩ := own_formU hown'
             rw [List.append_assoc, ← HST.out] at hR7
             clear hown hown' hgrow hnil hat hRA
             (try go_frame)
             go_wp2
             go_roundw
             case rel => exact ⟨j + 1, by omega, by go_num, ⟨a7, c7, _, by rw [HST.out, ← List.append_assoc]; simp only [List.length_append, List.length_cons, List.length_nil], rfl⟩, hR7, E7⟩
             case measure => simp [Go.RowKit.intOf]; omega
          ·obtain rfl : j = 16 := by omega
           have hjz : ¬ ((16 : Nat) : Int) < 16 := by omega
           rw [List.take_of_length_le (by rw [wordsB_len]; exact Nat.le_refl _), ← HWS.out] at hRY hN9
           have hw65 : IntKind.i64.wrap ((z : Int) + 65) = ((z + 65 : Nat) : Int) := by rw [show (z : Int) + 65 = ((z + 65 : Nat) : Int) by omega]; exact IntWalk.i64_in _ (by have := HZK.out; have := HZ.out; have := HLT.out; omega)
           go_wp2
           go_roundw
           case rel => exact ⟨i + 1, HLT.out, ⟨z + 65, by have := HZ.out; omega, by go_num⟩, ⟨ma3, mc3, by rw [HM3.out]⟩, ⟨ya, yc, by rw [← hN9]⟩, hRY, HF2, EY⟩
           case measure => simp [Go.RowKit.intOf]; have := HZK.out; have := HZ.out; have := HLT.out; omega
        ·have hRS := Lib.hid (rk_set (HN.out.trans HM.out) hlt (by rw [blkLen (HN.out.trans HM.out) hlt] at hr65; exact hr65) eb)
         have hr65 : r < 65 := by rw [blkLen (HN.out.trans HM.out) hlt] at hr65; exact hr65
         have hy128 := get_lt (blk_lt HLO.out i) (by decide) r
         have hzk : z + 65 ≤ k := by have := HZ.out; have := HM.out; omega
         have hx := R3.cell7 hR8 (by rw [natI_length, rk_len (HN.out.trans HM.out) (by omega)]; exact HM.out.symm) (j := z + r) (by rw [natI_length, rk_len (HN.out.trans HM.out) (by omega), ← HM.out]; omega)
         have hold := rk_old (HN.out.trans HM.out) hlt hr65
         rw [← HZ.out] at hold
         rw [natI_get, hold] at hx
         obtain ⟨y, hye⟩ : ∃ y, (blk rs i)[r]?.getD 0 = y := ⟨_, rfl⟩
         rw [hye] at hx hy128 hRS
         have hlen7 : (natI (rk rs i)).length = k := by rw [natI_length, rk_len (HN.out.trans HM.out) (by omega)]; exact HM.out.symm
         have hown7 := hR8.r7
         rw [hlen7] at hown7
         have hfz := hown7.frozenAt (z + r)
         have hgb := (hown7.lt g rfl)
         have hfl := fun W => rflip_any y kk W hy128 hk7
         obtain ⟨P, hP⟩ : ∃ P, y ^^^ 2 ^ kk = P := ⟨_, rfl⟩
         rw [hP] at hfl hRS
         rw [← HZ.out] at hRS
         have hS := hR8.set7 hlen7 (z + r) (P : Int)
         rw [← natI_set, ← hRS.out] at hS
         have hES : Ext W0 (w8.setCell ⟨g, z + r, none⟩ (.int .u8 (P : Int))) := EX8.setCell (p := ⟨g, z + r, none⟩) hgb.1 _
         rw [er, if_pos (by omega)] at HMS
         obtain rfl : q1 = (r : Int) := er
         obtain rfl : q2 = (kk : Int) := ek
         have hrz : (0 : Int) ≤ (r : Int) := by omega
         have wzr : IntKind.i64.wrap ((z : Int) + (r : Int)) = (z : Int) + (r : Int) := IntWalk.i64_in _ (by have : k ≤ 2400 := hl; omega)
         have hj0 : (0 : Int) ≤ (z : Int) + (r : Int) := by omega
         have hj1 : (z : Int) + (r : Int) < (k : Int) := by omega
         have tq : ((z : Int) + (r : Int)).toNat = z + r := by omega
         have hml := mendedN_len rs i
         obtain ⟨n8, hn8⟩ : ∃ n8, (mendedN rs i).length = n8 := ⟨_, rfl⟩
         have HN8 := Lib.hid hn8
         rw [hn8] at hS hR8 hml ⊢
         clear hye hP hown7 eb hold hn8 hq1
         go_wp2_with fail
         refine (hfl _).mono ?_
         rintro e w9 ⟨rfl, rfl⟩
         have hRA := hS.ext ((Ext.refl _).alloc (.cells #[.int .i64 ((z : Int) + (r : Int))] 3))
         have hown := hRA.r8
         rw [HN8.out] at hown
         have hWs := hES.size
         have hn8b : n8 ≤ 36 := by omega
         have hcn := cell_one_new (w9.setCell ⟨g, z + r, none⟩ (.int .u8 (P : Int))) (.int .i64 ((z : Int) + (r : Int))) 3
         rw [World.size_setCell] at hcn
         go_wp2_with (at_builtin; refine wpList_append_own_at _ rfl _ _ 22 rfl W0.heap.size 3 i0 (.int .i64 0) 1 8 Try.underlying22 hi0 hz0 hz1 hz2 rfl (by decide) _ _ _ rfl hown ⟨w9.heap.size, 0, none⟩ 1 1 [.int .i64 ((z : Int) + (r : Int))] rfl rfl hcn (by simp [Value.oneCell']) (by unfold maxLen; omega) (by omega) (by simp at hWs ⊢; omega) ?_; intro v' w7 hown' hgrow hnil hat)
         rw [← HN8.out] at hown'
         rw [← HZ.out] at HMS
         have hR3 := hRA.app8 hown' hgrow hat
         have EX3 : Ext W0 w7 := (hES.alloc _).grown hgrow (by simp at hWs ⊢; omega) (fun q e => (hown.lt q e).1)
         obtain ⟨ma3, mc3, rfl⟩ := own_formU hown'
         rw [← HMS.out] at hR3
         obtain ⟨n3, hn3⟩ : ∃ n3, (mendedN rs i).length + 1 = n3 := ⟨_, rfl⟩
         (try rw [hn3] at hR3)
         have HM3 := Lib.hid (show n3 = (mendedN rs (i + 1)).length by rw [HMS.out, List.length_append]; exact hn3.symm)
         rw [← HN8.out, hn3]
         clear hown hown' hgrow hnil hat hRA hS hES hfl hx hfz hgb hR8 EX8 hRS wzr hj0 hj1 tq
         (try go_frame)
         go_wp2
         have hmbl : (mendB (blk rs i)).2.2.length = 65 := by rw [mendB_len]; exact blkLen (HN.out.trans HM.out) hlt
         have HMB := Lib.hid (fun j (hj : j < 65) => rk_new (HN.out.trans HM.out) hlt hj)
         have HML := Lib.hid (mendB_lt (blk_lt HLO.out i))
         have HWS := Lib.hid (words_succ rs i)
         have HRL := Lib.hid (show (rk rs (i + 1)).length = k by rw [rk_len (HN.out.trans HM.out) (by omega), HM.out])
         obtain ⟨mb, hmb⟩ : ∃ mb, (mendB (blk rs i)).2.2 = mb := ⟨_, rfl⟩
         rw [hmb] at HMB HML HWS
         have HAL := Lib.hid (wordsN10_len rs i)
         have HZK := Lib.hid HM.out
         have HR3 := Lib.hid hR3
         have HE3 := Lib.hid EX3
         have HLT := Lib.hid hlt
         clear hmb hR hR3 EX3 EX hsl hsl2 w1
         go_loopw [9, 14] (fun s9 s14 Y => ∃ j : Nat, j ≤ 16 ∧ s14 = .int .i64 (j : Int) ∧ (∃ (ya : Option Addr) (yc N : Nat), N = (wordsN10 rs i ++ (wordsB mb).take j).length ∧ s9 = .slice ya N yc) ∧ R3 W0.heap.size 5 3 Y (.slice (some ⟨g, 0, none⟩) k c1) (.slice ma3 n3 mc3) s9 (natI (rk rs (i + 1))) (mendedN rs (i + 1)) (wordsN10 rs i ++ (wordsB mb).take j) ∧ Ext W0 Y) (fun _ s14 _ => 16 - (Go.RowKit.intOf s14).toNat)
         case atStart => exact ⟨0, by omega, rfl, ⟨aa, ac, _, by rw [List.take_zero, List.append_nil], rfl⟩, by rw [List.take_zero, List.append_nil]; exact HR3.out, HE3.out⟩
         case round =>
          obtain ⟨j, hj, rfl, ⟨ya, yc, N, hN9, rfl⟩, hRY, EY⟩ := hrel
          obtain ⟨Y, rfl⟩ : ∃ Y : World, Y = wr := ⟨_, rfl⟩
          by_cases hj16 : j < 16
          ·have hjz : (j : Int) < 16 := by omega
           have HRY := Lib.hid hRY
           have HEY := Lib.hid EY
           have HN9 := Lib.hid hN9
           have HCE := Lib.hid (fun q (hq : q < 65) => show Y.cell? ⟨g, z + q, none⟩ = some (.int .u8 ((mb[q]?.getD 0 : Nat) : Int)) by
            have := R3.cell7 hRY (by rw [natI_length]; exact HRL.out) (j := z + q) (by rw [natI_length, HRL.out, HZK.out, HZ.out]; have := HLT.out; omega)
            rw [this, natI_get, HZ.out, HMB.out q hq])
           clear hRY EY hN9
           go_wp2
           go_loopw [15, 16] (fun s15 s16 wr2 => ∃ t : Nat, t ≤ 4 ∧ s15 = .int .i64 ((hw mb j t : Nat) : Int) ∧ (∃ y : Int, y = 3 - (t : Int) ∧ s16 = .int .i64 y) ∧ wr2 = Y) (fun _ s16 _ => (Go.RowKit.intOf s16 + 1).toNat)
           case atStart => exact ⟨0, by omega, rfl, ⟨3, by omega, rfl⟩, rfl⟩
           case round =>
            obtain ⟨t, ht, rfl, ⟨y, hy, rfl⟩, rfl⟩ := hrel
            have hH := hw_le mb j t ht
            by_cases ht4 : t < 4
            ·obtain ⟨p, rfl⟩ : ∃ p : Nat, y = p := ⟨3 - t, by omega⟩
             have hp3 : 3 - t = p := by omega
             have HHS := Lib.hid (show hw mb j (t + 1) = 64 * hw mb j t + mb[4 * j + (3 - t)]?.getD 0 % 64 from rfl)
             rw [hp3] at HHS
             have hx := HCE.out (4 * j + p) (by omega)
             have hxl := get_lt HML.out (by decide) (4 * j + p)
             obtain ⟨x, hxe⟩ : ∃ x, mb[4 * j + p]?.getD 0 = x := ⟨_, rfl⟩
             rw [hxe] at hx hxl HHS
             obtain ⟨H, hHe⟩ : ∃ H, hw mb j t = H := ⟨_, rfl⟩
             rw [hHe] at hH HHS ⊢
             obtain ⟨x6, hx6⟩ : ∃ x6, x % 64 = x6 := ⟨_, rfl⟩
             rw [hx6] at HHS
             have t1 : Int.tmod (x : Int) 64 = (x6 : Int) := by rw [Int.tmod_eq_emod_of_nonneg (by omega)]; omega
             have t2 : (x : Int) % 64 = (x6 : Int) := by omega
             have hx63 : x6 < 64 := by omega
             have wa : IntKind.i64.wrap (x : Int) = (x : Int) := IntWalk.i64_in _ (by omega)
             have wb : IntKind.i64.wrap (4 * (j : Int)) = 4 * (j : Int) := IntWalk.i64_in _ (by omega)
             have hzk : z + 65 ≤ k := by have := HZK.out; have := HZ.out; have := HLT.out; omega
             have hk24 : k ≤ 2400 := hl
             have wc : IntKind.i64.wrap ((z : Int) + 4 * (j : Int)) = (z : Int) + 4 * (j : Int) := IntWalk.i64_in _ (by omega)
             have wd : IntKind.i64.wrap ((z : Int) + 4 * (j : Int) + (p : Int)) = (z : Int) + 4 * (j : Int) + (p : Int) := IntWalk.i64_in _ (by omega)
             have we : IntKind.i64.wrap (64 * (H : Int)) = 64 * (H : Int) := IntWalk.i64_in _ (by omega)
             have wf : IntKind.i64.wrap (64 * (H : Int) + (x6 : Int)) = 64 * (H : Int) + (x6 : Int) := IntWalk.i64_in _ (by omega)
             have hi0 : (0 : Int) ≤ (z : Int) + 4 * (j : Int) + (p : Int) := by omega
             have hi1 : (z : Int) + 4 * (j : Int) + (p : Int) < (k : Int) := by omega
             have tq : ((z : Int) + 4 * (j : Int) + (p : Int)).toNat = z + (4 * j + p) := by omega
             have hp0 : (0 : Int) ≤ (p : Int) := by omega
             have HYY := Lib.hid hy
             clear hxe hHe hx6 hp3 hy
             go_wp2
             go_roundw
             case rel => exact ⟨t + 1, by omega, by rw [HHS.out]; go_num, ⟨(p : Int) - 1, by have := HYY.out; omega, rfl⟩, (by first | rfl | trivial)⟩
             case measure => simp [Go.RowKit.intOf]
            ·obtain rfl : t = 4 := by omega
             obtain rfl : y = -1 := by omega
             rw [hw_word]
             have HST := Lib.hid (wordsB_take mb hj16)
             obtain ⟨wd, hwd⟩ : ∃ wd, wordR mb j = wd := ⟨_, rfl⟩
             rw [hwd] at HST ⊢
             have hRA := HRY.out.ext ((Ext.refl wr).alloc (.cells #[.int .i64 wd] 3))
             have hN9 := HN9.out
             have hNl : N = 16 * i + j := by rw [hN9, List.length_append, HAL.out, List.length_take, wordsB_len]; omega
             have hNb : N ≤ 1000 := by have := HLT.out; omega
             have hown := hRA.r9
             rw [← hN9] at hown
             have hWs := HEY.out.size
             clear hwd hH hy hNl
             go_wp2_with (at_builtin; refine wpList_append_own_at _ rfl _ _ 22 rfl W0.heap.size 3 i0 (.int .i64 0) 1 8 Try.underlying22 hi0 hz0 hz1 hz2 rfl (by decide) _ _ _ rfl hown ⟨wr.heap.size, 0, none⟩ 1 1 [.int .i64 wd] rfl rfl (cell_one_new _ _ _) (by simp [Value.oneCell']) (by unfold maxLen; omega) (by omega) (by simp; omega) ?_; intro v' w7 hown' hgrow hnil hat)
             rw [hN9] at hown'
             have hR7 := hRA.app9 hown' hgrow hat
             have E7 : Ext W0 w7 := (HEY.out.alloc _).grown hgrow (by simp; omega) (fun q e => (hown.lt q e).1)
             obtain ⟨a7, c7, rfl⟩ := own_formU hown'
             rw [List.append_assoc, ← HST.out] at hR7
             clear hown hown' hgrow hnil hat hRA
             (try go_frame)
             go_wp2
             go_roundw
             case rel => exact ⟨j + 1, by omega, by go_num, ⟨a7, c7, _, by rw [HST.out, ← List.append_assoc]; simp only [List.length_append, List.length_cons, List.length_nil], rfl⟩, hR7, E7⟩
             case measure => simp [Go.RowKit.intOf]; omega
          ·obtain rfl : j = 16 := by omega
           have hjz : ¬ ((16 : Nat) : Int) < 16 := by omega
           rw [List.take_of_length_le (by rw [wordsB_len]; exact Nat.le_refl _), ← HWS.out] at hRY hN9
           have hw65 : IntKind.i64.wrap ((z : Int) + 65) = ((z + 65 : Nat) : Int) := by rw [show (z : Int) + 65 = ((z + 65 : Nat) : Int) by omega]; exact IntWalk.i64_in _ (by have := HZK.out; have := HZ.out; have := HLT.out; omega)
           go_wp2
           go_roundw
           case rel => exact ⟨i + 1, HLT.out, ⟨z + 65, by have := HZ.out; omega, by go_num⟩, ⟨ma3, mc3, by rw [HM3.out]⟩, ⟨ya, yc, by rw [← hN9]⟩, hRY, HF2, EY⟩
           case measure => simp [Go.RowKit.intOf]; have := HZK.out; have := HZ.out; have := HLT.out; omega
      ·obtain rfl : i = m := by omega
       have hkz := HM.out
       have hltz : ¬ (z : Int) < (k : Int) := by omega
       rw [rk_end (HN.out.trans HM.out)] at hR
       obtain ⟨hB1, hB2⟩ := body_eq (HN.out.trans HM.out)
       have hmany := manyR_bd rs
       obtain ⟨M, hM⟩ : ∃ M : Nat, manyR rs = M := Int.eq_ofNat_of_zero_le hmany.1
       rw [hM] at hmany hB2
       have HMANY := Lib.hid hM
       have hall := hR.r9
       have hNl := wordsN10_len rs i
       have HRT := Lib.hid (show ∀ r ∈ rightN rs i, r < 128 by rw [← rk_end (HN.out.trans HM.out)]; exact rk_lt HLO.out i)
       have HWO := Lib.hid (wordsN_ok rs i)
       obtain ⟨A, hA⟩ : ∃ A, wordsN10 rs i = A := ⟨_, rfl⟩
       rw [hA] at hall hNl hB1 hB2 hR HWO
       try rw [hA]
       obtain ⟨N, hNe⟩ : ∃ N, A.length = N := ⟨_, rfl⟩
       have hall0 := hall
       rw [hNe] at hall0 hNl
       try rw [hNe]
       have hN0 : 16 ≤ N := by omega
       have hN1 : N ≤ 576 := by omega
       rw [hNe] at hall
       obtain ⟨g9, ac9, hg9⟩ := ownsRow_form hall (by omega)
       obtain ⟨rfl, -, rfl⟩ := Value.slice.inj hg9
       obtain ⟨hca, hca2⟩ := own_cap hall
       have hx0 := hall.cellAt 0 (by omega)
       rw [iv_get A 0 (by omega), ← hB2] at hx0
       have HB1 := Lib.hid hB1
       have HNE := Lib.hid hNe
       have hbl : (bodyR rs).length = N - 1 := by rw [hB1, List.length_drop, hNe]
       have HBL := Lib.hid hbl
       have hNp : (0 : Int) < (N : Int) := by omega
       have HR := Lib.hid hR
       have HEX := Lib.hid EX
       have HMM := Lib.hid hm0
       clear hM hA hg9 hbl hNe hB1 hB2 hNl hkz hz
       by_cases hb1 : 560 < M
       ·have d5 : decide (560 < (M : Int)) = true := decide_eq_true (by omega)
        obtain rfl : ([], [], 0, 6) = v := by rw [← HV.out]; exact (read_many (by rw [HN.out]; exact hl) (HN.out.trans HM.out) hm0 HLO.out HF.out (.inl (by rw [HMANY.out]; omega))).symm
        clear hR hall EX
        go_wp2
        exact bodyPost_ret (v := .tuple #[.slice none 0 0, .slice none 0 0, .int .i64 0, .int .i64 6]) (by simp [results, Try.results18, go_sem]) rfl (read_none HEX.out)
       ·have d5 : decide (560 < (M : Int)) = false := decide_eq_false (by omega)
        by_cases hb2 : N ≤ M
        ·have d6 : decide ((N : Int) ≤ (M : Int)) = true := decide_eq_true (by omega)
         obtain rfl : ([], [], 0, 6) = v := by rw [← HV.out]; exact (read_many (by rw [HN.out]; exact hl) (HN.out.trans HM.out) hm0 HLO.out HF.out (.inr (by rw [HMANY.out, HBL.out]; omega))).symm
         clear hR hall EX
         go_wp2
         exact bodyPost_ret (v := .tuple #[.slice none 0 0, .slice none 0 0, .int .i64 0, .int .i64 6]) (by simp [results, Try.results18, go_sem]) rfl (read_none HEX.out)
        ·have d6 : decide ((N : Int) ≤ (M : Int)) = false := decide_eq_false (by omega)
         have HX := Lib.hid (show ¬ (560 < manyR rs ∨ ((bodyR rs).length : Int) < manyR rs) by rw [HMANY.out, HBL.out]; omega)
         have HTN := Lib.hid (show (manyR rs).toNat = M by rw [HMANY.out]; rfl)
         obtain ⟨M1, hM1⟩ : ∃ M1, M + 1 = M1 := ⟨_, rfl⟩
         have hs1 := fun W => slice_ints W g9 N ac 1 M1 (by omega) (by omega) (by omega)
         have hs2 := fun W => slice_intsAt W g9 N ac 1 M1 (by omega) (by omega) (by omega)
         rw [show M1 - 1 = M by omega] at hs1 hs2
         have wm : IntKind.i64.wrap ((M : Int) + 1) = (M1 : Int) := by rw [show (M : Int) + 1 = (M1 : Int) by omega]; exact IntWalk.i64_in _ (by omega)
         obtain ⟨ws, hws⟩ : ∃ ws, (bodyR rs).take M = ws := ⟨_, rfl⟩
         have HWS := Lib.hid hws
         have hwl : ws.length = M := by rw [← hws, List.length_take, HBL.out]; omega
         have hIw : ∀ W, Ext X W → IntsAt W (some ⟨g9, 1, none⟩) ws := fun W E => by
          have := sub_intsN (lo := 1) (k := M) (own_ints (own_extX hall E)) (by rw [HNE.out]; omega)
          rw [← HB1.out, hws] at this
          exact this
         have hwo : wordOk ws := fun x hx => HWO.out x (by rw [← hws, HB1.out] at hx; exact List.mem_of_mem_drop (List.mem_of_mem_take hx))
         have htp := fun W (E : Ext X W) => rtape_any (some ⟨g9, 1, none⟩) M (ac - 1) ws W hwl (by omega) (hIw W E) hwo
         have hcr := fun W (E : Ext X W) => conv_own (own_extX hR.r7 E) (natI_bd (fun r hr => Nat.lt_trans (HRT.out r hr) (by decide)))
         have htl : (tapeW ws).length = (natI (tapeW ws)).length := (natI_length _).symm
         have hm1a : M1 ≤ ac := by omega
         have hm1b : ¬ (M1 : Int) < 1 := by omega
         have hm1c : (1 : Int) ≤ (M1 : Int) := by omega
         have hm1d : ¬ ac = 1 := by omega
         have hm1e : (M1 : Int) ≤ (ac : Int) := by omega
         have hm1f : 1 < ac := by omega
         have hm1g : M1 - 1 = M := by omega
         clear hws hR hM1
         go_wp2_with fail
         have hcr0 := hcr X.drew (Ext.refl X).drew
         have hcr1 := hcr X (Ext.refl X)
         go_region_with (first
          | (go_at_call 45; refine (htp _ ((Ext.refl X).drew)).mono ?_; rintro e w' ⟨v8, rfl, hO, E'⟩; obtain ⟨af, cf, rfl⟩ := own_formU hO; have hby : Ext X w' := Ext.comp (Ext.refl X).drew E'; rw [htl] at hO; have hcf := conv_own hO (natI_bd (tape_lt hwo)); rw [← htl] at hO; have hcg := hcr w' hby))
         all_goals
          by_cases hsm : tapeW ws = rightN rs i
          ·have hsb : (!((strU (natI (tapeW ws))).toList == (strU (natI (rightN rs i))).toList)) = false := by rw [hsm]; simp only [beq_self_eq_true, Bool.not_true]
           obtain rfl : (ws, mendedN rs i, 0, 0) = v := by
            rw [← HV.out, read_fine (by rw [HN.out]; exact hl) (HN.out.trans HM.out) HMM.out HLO.out HF.out HX.out (by rw [HTN.out, HWS.out]; exact hsm), HTN.out, HWS.out]
           clear hs1 hs2 htp hcr hcf hcg hall hcr0 hcr1
           rw [hsb]
           go_wp2_with (at_builtin; refine wpList_app (w0 := _) rfl _ _ 22 rfl 3 i0 (.int .i64 0) 1 8 Try.underlying22 hi0 hz0 hz1 hz2 rfl (by decide) _ 0 _ [] rfl (own_empty (Ext.refl _)) ((Ext.refl _).alloc _) (Nat.le_refl _) (by simp) (some ⟨g9, 1, none⟩) M (ac - 1) (iv ws) rfl ?c1 ?c2 (iv_one _) (by unfold maxLen; omega) (by omega) ?_)
           case c1 => rw [iv_length, hwl, Nat.mul_one]
           case c2 => exact from_ints (hIw _ (by first | exact hby.alloc _ | exact hby.drew.alloc _ | exact (below_drewN hby _).alloc _))
           intro a5 c5 w5 hown5 hE5 _
           have hE6 : Ext X w5 := (by first | exact hby.comp hE5 | exact hby.drew.comp hE5 | exact (below_drewN hby _).comp hE5)
           (try simp only [List.nil_append, Nat.zero_add] at hown5)
           have hcap5 := own_cap hown5
           have hcap8 := own_cap HR.out.r8
           have hI5 := own_ints hown5
           have hI8 := own_ints (own_extX HR.out.r8 hE6)
           clear hown5 hE5
           (try go_frame)
           go_wp2
           exact bodyPost_ret (v := .tuple #[.slice a5 M c5, .slice ma (mendedN rs i).length mc, .int .i64 0, .int .i64 0]) (by simp [results, Try.results18, go_sem]) rfl ⟨a5, c5, ma, mc, by rw [← hwl], by rw [← hwl] at hcap5; exact hcap5, hcap8, hI5, hI8, HEX.out.comp hE6⟩
          ·have hsb : (!((strU (natI (tapeW ws))).toList == (strU (natI (rightN rs i))).toList)) = true := by simpa only [Bool.not_eq_true', beq_eq_false_iff_ne, ne_eq] using fun e => hsm (natI_inj (strU_inj (natI_bd (tape_lt hwo)) (natI_bd (fun r hr => Nat.lt_trans (HRT.out r hr) (by decide))) (toList_inj e)))
           obtain rfl : ([], [], 0, 6) = v := by rw [← HV.out]; exact (read_other (by rw [HN.out]; exact hl) (HN.out.trans HM.out) HMM.out HLO.out HF.out HX.out (by rw [HTN.out, HWS.out]; exact hsm)).symm
           clear hs1 hs2 htp hcr hcf hcg hall hcr0 hcr1
           rw [hsb]
           go_wp2
           exact bodyPost_ret (v := .tuple #[.slice none 0 0, .slice none 0 0, .int .i64 0, .int .i64 6]) (by simp [results, Try.results18, go_sem]) rfl (read_none (HEX.out.comp hby))
 ·have d1 : decide (2400 < (n : Int)) = true := decide_eq_true (by omega)
  obtain rfl : ([], [], 0, 3) = v := by rw [← HV.out]; exact (read_long (by rw [HN.out]; omega)).symm
  go_enter Try.func18, Try.ntmps18
  go_wp2
  exact bodyPost_ret (v := .tuple #[.slice none 0 0, .slice none 0 0, .int .i64 0, .int .i64 3]) (by simp [results, Try.results18, go_sem]) rfl (read_none (Ext.refl _))
end Go.Proofs.Ytnhpcoagkmgdoaa
/- Layer 10's program: Punch, over its tape. -/
namespace Go.Proofs.Ytnhpcoagkmgdoaa
open Go.RowKit Go.Q Go.Joins
theorem punch1_any (n : Int) (w : World) : Calls Try.prog 41 #[.int .i64 n] w fun e w' => e = .returned (.bool (badW n)) ∧ w' = w := by
 have ho := fun W => out10_any n 0 16777215 W
 have hb : badW n = !inB n 0 16777215 := rfl
 rw [hb]
 obtain ⟨t, ht⟩ : ∃ t, (!inB n 0 16777215) = t := ⟨_, rfl⟩
 rw [ht] at ho ⊢
 clear hb ht
 go_enter Try.func41, Try.ntmps41
 go_wp2_with fail
 refine (ho _).mono ?_
 rintro e w' ⟨rfl, rfl⟩
 go_wp2
 go_ret
 exact ⟨rfl, rfl⟩
set_option maxRecDepth 100000 in
set_option maxHeartbeats 4000000 in
/-- Punch, once its tape has a contract -/
theorem lpunch_of (HT : ∀ (a : Option Addr) (n c : Nat) (ws : List Int) (w : World), ws.length = n → n ≤ 560 → IntsAt w a ws → wordOk ws →
  Calls Try.prog 43 #[.slice a n c] w fun e w' => ∃ v, e = .returned v ∧ w'.ownsRow w.heap.size 5 1 v (tapeW ws).length (ub (natI (tapeW ws))) ∧ Ext w w')
  (a : Option Addr) (n c : Nat) (ws : List Int) (w : World) (hn : ws.length = n) (hbig : n ≤ 9223372036854775807) (hI : IntsAt w a ws) :
  Calls Try.prog 15 #[.slice a n c] w (RowsRes (punchE ws) w) := by
 by_cases hl : n ≤ 560
 ·have d1 : decide (560 < (n : Int)) = false := decide_eq_false (by omega)
  have hcn := contains_any 41 #[] badW a n c ws w (enters_of Try.func41 (by kernel_rfl) rfl) (fun W x hb => (punch1_any x W).mono fun e w' ⟨h1, h2⟩ => ⟨h1, by rw [h2]; exact hb⟩) hn hbig hI
  have HT2 := Lib.hid HT
  cases hany : ws.any badW with
  | true =>
   rw [hany] at hcn
   have e : punchE ws = ([], 7) := by
    have e : punchX ws = 7 := by unfold punchX; rw [if_neg (by omega), if_pos hany]
    unfold punchE
    rw [e, if_neg (by decide)]
   rw [e]
   clear hany e HT
   go_enter Try.func15, Try.ntmps15
   go_wp2_with fail
   refine hcn.mono ?_
   rintro e w' ⟨rfl, E'⟩
   go_wp2
   exact bodyPost_ret (v := .tuple #[.slice none 0 0, .int .i64 7]) (by simp [results, Try.results15, go_sem]) rfl (rows_none E')
  | false =>
   rw [hany] at hcn
   have hok : wordOk ws := fun x hx => by
    have := List.any_eq_false.1 hany x hx
    have hb : wordB x = true := by
     cases e : wordB x with
     | true => rfl
     | false => exact absurd (show badW x = true by unfold badW; rw [e]; rfl) this
    exact wordB_bd hb
   rw [punch_good (by rw [hn]; exact hl) hok]
   have htp := fun W (E : Ext w W) => HT a n c ws W hn hl (hI.ext E) hok
   clear hany HT
   go_enter Try.func15, Try.ntmps15
   go_wp2_with fail
   refine hcn.mono ?_
   rintro e w' ⟨rfl, E'⟩
   have ht2 := htp w' E'
   clear htp hcn
   go_wp2_with fail
   refine ht2.mono ?_
   rintro e w8 ⟨v, rfl, hown, E8⟩
   obtain ⟨a8, c8, rfl⟩ := own_formU hown
   go_wp2
   exact bodyPost_ret (v := .tuple #[.slice a8 (tapeW ws).length c8, .int .i64 0]) (by simp [results, Try.results15, go_sem]) rfl ⟨a8, c8, rfl, own_cap hown, own_bytes hown, E'.comp E8⟩
 ·have d1 : decide (560 < (n : Int)) = true := decide_eq_true (by omega)
  rw [punch_long (by rw [hn]; omega)]
  clear HT
  go_enter Try.func15, Try.ntmps15
  go_wp2
  exact bodyPost_ret (v := .tuple #[.slice none 0 0, .int .i64 3]) (by simp [results, Try.results15, go_sem]) rfl (rows_none (Ext.refl _))
end Go.Proofs.Ytnhpcoagkmgdoaa

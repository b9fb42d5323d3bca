/- Contract of layer 1's reference: Keeps. -/
import Derived.Test.YtkkchoinfdfiaaaI12
set_option linter.unusedVariables false
set_option linter.unusedSimpArgs false
namespace Go.Proofs.Ytkkchoinfdfiaaa
open Go.RowKit Go.Q Go.Shelf Go.Maps

theorem unsafe_at {l : Ln} {o : Ov} {temp : Sp} {heats : Bool} {m i : Nat} (hi : i < (listO o temp heats m).length) {s : Int × Bool} (hs : (listO o temp heats m)[i]?.getD (0, false) = s) (hu : safeL l s.1 = false) : unsafeO l o temp heats m = true := by
  rw [unsafe_list, List.any_eq_true]
  rw [List.getElem?_eq_getElem hi] at hs
  refine ⟨s, by rw [← hs]; exact List.getElem_mem _, by rw [hu]; rfl⟩
theorem unsafe_none {l : Ln} {o : Ov} {temp : Sp} {heats : Bool} {m : Nat} (h : ∀ i, i < (listO o temp heats m).length → safeL l ((listO o temp heats m)[i]?.getD (0, false)).1 = true) : unsafeO l o temp heats m = false := by
  rw [unsafe_list, List.any_eq_false]
  intro s hs
  obtain ⟨i, hi, rfl⟩ := List.mem_iff_getElem.1 hs
  have := h i hi
  rw [List.getElem?_eq_getElem hi] at this
  simpa using this
set_option maxRecDepth 100000 in
set_option maxHeartbeats 8000000 in
theorem rKeeps_any (l : Ln) (o : Ov) (temp : Sp) (heats : Bool) (minutes : Int) (w : World) :
    Calls Try.prog 45 #[.agg #[.int .i64 l.words, .int .i64 l.bits, .int .i64 l.period, .int .i64 l.delay, .int .i64 l.slope, .int .i64 l.window], .agg #[.int .i64 o.low, .int .i64 o.high, .int .i64 o.warm.lo, .int .i64 o.warm.hi, .int .i64 o.cool.lo, .int .i64 o.cool.hi], .agg #[.int .i64 temp.lo, .int .i64 temp.hi], .bool heats, .int .i64 minutes] w fun e w' => e = .returned (.tuple #[.int .i64 (keepsE l o temp heats minutes).1, .int .i64 (keepsE l o temp heats minutes).2]) ∧ Ext w w' := by
  have hck := fun W => rcheck_any l W
  have hox := fun W => roven_any o temp minutes W
  cases hol : okL l with
  | false =>
    have hE : keepsE l o temp heats minutes = (0, 7) := by unfold keepsE; rw [checkL_no hol]; rfl
    rw [hE]
    rw [checkL_no hol] at hck
    clear hE hol
    dsimp only
    go_enter Try.func45, Try.ntmps45
    go_wp2_with fail
    refine (hck _).mono ?_
    rintro e w1 ⟨rfl, E1⟩
    go_wp2
    go_ret2
    exact ⟨rfl, E1.old.old.old⟩
  | true =>
    rw [checkL_of hol] at hck
    have hok := okL_ok hol
    by_cases hx : ovenX o temp minutes = 0
    · have hE : keepsE l o temp heats minutes = (kpF (unsafeO l o temp heats) minutes.toNat, 0) := by unfold keepsE; rw [checkL_of hol, if_neg (by simp), if_neg (by omega)]
      rw [hE]
      rw [hx] at hox
      obtain ⟨ho, hsp, hm0, hm1⟩ := okO_of hx
      obtain ⟨t0, t1, t2⟩ := spanX_bd hsp
      have hbg := fun W => rbegin_any temp heats W t0 t2
      rw [stL_all o, show (temp.hi - temp.lo + 1).toNat = (listO o temp heats 0).length by rw [← stL_all, stL_length]] at hbg
      obtain ⟨N, hN⟩ : ∃ N : Nat, minutes = N := Int.eq_ofNat_of_zero_le hm0
      subst hN
      have HO := Lib.hid ho
      have HOK := Lib.hid hok
      have HLB := Lib.hid (fun m => listO_bd ho (temp := temp) (heats := heats) ⟨t0, t2⟩ m)
      have HLL := Lib.hid (fun m => listO_len ho (temp := temp) (heats := heats) ⟨t0, t2⟩ m)
      rw [Int.toNat_natCast]
      dsimp only
      clear hE hx ho hsp hol hok
      go_enter Try.func45, Try.ntmps45
      go_wp2_with fail
      refine (hck _).mono ?_
      rintro e w1 ⟨rfl, E1⟩
      obtain ⟨b0, b1, b2⟩ := three_boxes E1
      have E1w := E1.old.old.old
      clear E1 hck
      have o0 := blk_cell b1 0 (v := .int .i64 o.low) rfl
      have o1 := blk_cell b1 1 (v := .int .i64 o.high) rfl
      have o2 := blk_cell b1 2 (v := .int .i64 o.warm.lo) rfl
      have o3 := blk_cell b1 3 (v := .int .i64 o.warm.hi) rfl
      have o4 := blk_cell b1 4 (v := .int .i64 o.cool.lo) rfl
      have o5 := blk_cell b1 5 (v := .int .i64 o.cool.hi) rfl
      have u0 := blk_cell b2 0 (v := .int .i64 temp.lo) rfl
      have u1 := blk_cell b2 1 (v := .int .i64 temp.hi) rfl
      go_wp2_with fail
      refine (hox _).mono ?_
      rintro e w2 ⟨rfl, E2⟩
      replace b0 := (E2.block _ (Array.getElem?_eq_some_iff.1 b0).1).trans b0
      replace b1 := (E2.block _ (Array.getElem?_eq_some_iff.1 b1).1).trans b1
      replace b2 := (E2.block _ (Array.getElem?_eq_some_iff.1 b2).1).trans b2
      have E2w := E1w.comp E2
      clear E2 E1w hox o0 o1 o2 o3 o4 o5 u0 u1
      have u0 := blk_cell b2 0 (v := .int .i64 temp.lo) rfl
      have u1 := blk_cell b2 1 (v := .int .i64 temp.hi) rfl
      go_wp2_with fail
      refine (hbg _).mono ?_
      rintro e w3 ⟨la, lc, rfl, hL, E3⟩
      have HB0 := Lib.hid ((E3.block _ (Array.getElem?_eq_some_iff.1 b0).1).trans b0)
      have HB1 := Lib.hid ((E3.block _ (Array.getElem?_eq_some_iff.1 b1).1).trans b1)
      have E3w := E2w.comp E3
      clear E3 E2w hbg b0 b1 b2 u0 u1
      go_wp2_with fail
      go_loopw [13, 14] (fun s13 s14 Z => ∃ (m : Nat) (a : Option Addr) (c : Nat), m ≤ N + 1 ∧ s14 = .int .i64 m ∧ s13 = .slice a (listO o temp heats m).length c ∧ StsT Z a (listO o temp heats m) ∧ Aside (∀ j, j < m → unsafeO l o temp heats j = false) ∧ Ext w3 Z) (fun _ s14 _ => N + 1 - (Go.RowKit.intOf s14).toNat)
      case atStart => exact ⟨0, la, lc, Nat.zero_le _, rfl, rfl, hL, (fun j hj => absurd hj (Nat.not_lt_zero _)), Ext.refl _⟩
      case round =>
        clear hL
        obtain ⟨m, a, c, hm, rfl, rfl, hL, HU, EZ⟩ := hrel
        obtain ⟨Z, rfl⟩ : ∃ Z : World, Z = wr := ⟨_, rfl⟩
        by_cases hlt : m < N + 1
        · have hltz : (m : Int) ≤ (N : Int) := by omega
          obtain ⟨os, hos⟩ : ∃ os, listO o temp heats m = os := ⟨_, rfl⟩
          have HOB := Lib.hid (HLB.out m)
          have HOL := HLL.out m
          have HUA := Lib.hid (fun (i : Nat) (s : Int × Bool) => unsafe_at (l := l) (o := o) (temp := temp) (heats := heats) (m := m) (i := i) (s := s))
          have HUN := Lib.hid (unsafe_none (l := l) (o := o) (temp := temp) (heats := heats) (m := m))
          rw [hos] at hL HOB HOL HUA HUN ⊢
          have HOS := Lib.hid hos
          obtain ⟨K, hK⟩ : ∃ K, os.length = K := ⟨_, rfl⟩
          have HK := Lib.hid hK
          rw [hK] at HOL HUA HUN ⊢
          clear hos hK
          go_wp2_with fail
          go_loopw [15] (fun s15 Q => ∃ i : Nat, i ≤ K ∧ s15 = .int .i64 i ∧ Aside (∀ j, j < i → safeL l (os[j]?.getD (0, false)).1 = true) ∧ Ext Z Q) (fun s15 _ => K - (Go.RowKit.intOf s15).toNat)
          case atStart => exact ⟨0, Nat.zero_le _, rfl, (fun j hj => absurd hj (Nat.not_lt_zero _)), Ext.refl _⟩
          case round =>
            obtain ⟨i, hi', rfl, HS, EQ⟩ := hrel
            obtain ⟨Q, rfl⟩ : ∃ Q : World, Q = wr := ⟨_, rfl⟩
            have E3Q := EZ.comp EQ
            by_cases hlt2 : i < K
            · have hltz2 : (i : Int) < (K : Int) := by omega
              rcases id hL with e | ⟨b, off, cs, rfl, hbl, hc⟩
              · exfalso
                have := HK.out
                rw [e] at this; simp at this; omega
              have x0 := cell_laterA (hc i (by rw [HK.out]; exact hlt2)).1 EQ
              obtain ⟨s, hs⟩ : ∃ s, os[i]?.getD (0, false) = s := ⟨_, rfl⟩
              have hsb : -600 ≤ s.1 ∧ s.1 ≤ 1100 := HOB.out s (by rw [← hs, List.getElem?_eq_getElem (by rw [HK.out]; exact hlt2)]; exact List.getElem_mem _)
              have HUS := Lib.hid (HUA.out i s hlt2 hs)
              have HSE := Lib.hid hs
              rw [hs] at x0
              obtain ⟨s1, s2⟩ := s
              dsimp only at x0 hsb HUS
              have hsf := fun W => rsafe_any l s1 W HOK.out (by omega)
              have hb0 := (E3Q.block _ (Array.getElem?_eq_some_iff.1 HB0.out).1).trans HB0.out
              have c0 := blk_cell hb0 0 (v := .int .i64 l.words) rfl
              have c1 := blk_cell hb0 1 (v := .int .i64 l.bits) rfl
              have c2 := blk_cell hb0 2 (v := .int .i64 l.period) rfl
              have c3 := blk_cell hb0 3 (v := .int .i64 l.delay) rfl
              have c4 := blk_cell hb0 4 (v := .int .i64 l.slope) rfl
              have c5 := blk_cell hb0 5 (v := .int .i64 l.window) rfl
              have hQ := Ext.refl Q
              clear hs hb0 hc hbl
              cases hsa : safeL l s1 with
              | true =>
                rw [hsa] at hsf
                have HS2 : Aside (∀ j, j < i + 1 → safeL l (os[j]?.getD (0, false)).1 = true) := (show Aside _ from fun j hj => by
                  by_cases e : j = i
                  · rw [e, HSE.out]; exact hsa
                  · exact HS.out j (by omega))
                clear hsa HS
                go_wp2_with fail
                go_region_held3 (fun w' => Ext Q w' ∧ w'.cell? ⟨w.heap.size, 0, none⟩ = some (.int .i64 l.words) ∧ w'.cell? ⟨w.heap.size, 1, none⟩ = some (.int .i64 l.bits) ∧ w'.cell? ⟨w.heap.size, 2, none⟩ = some (.int .i64 l.period) ∧ w'.cell? ⟨w.heap.size, 3, none⟩ = some (.int .i64 l.delay) ∧ w'.cell? ⟨w.heap.size, 4, none⟩ = some (.int .i64 l.slope) ∧ w'.cell? ⟨w.heap.size, 5, none⟩ = some (.int .i64 l.window) ∧ w'.cell? ⟨b, off + i * 2, none⟩ = some (.int .i64 s1))
                  (first | exact ⟨hQ.drew, c0, c1, c2, c3, c4, c5, x0⟩ | exact seven_later2 hHeld hb' | exact seven_later2 (by assumption) hb')
                  (first | (go_at_call 70; refine (hsf _).mono ?_; rintro e w' ⟨rfl, hb'⟩))
                all_goals
                  have EH := (‹Ext Q _ ∧ _ ∧ _ ∧ _ ∧ _ ∧ _ ∧ _ ∧ _›).1
                  clear c0 c1 c2 c3 c4 c5 x0 hQ
                  go_wp2
                  go_roundw
                  case rel => exact ⟨i + 1, by omega, by go_num, HS2, EQ.comp EH⟩
                  case measure => simp [Go.RowKit.intOf]; omega
              | false =>
                rw [hsa] at hsf
                have HF := Lib.hid (show kpF (unsafeO l o temp heats) N = m from kpF_some (by omega) (HUS.out hsa) HU.out)
                clear hsa HS HU
                go_wp2_with fail
                go_region_held3 (fun w' => Ext Q w' ∧ w'.cell? ⟨w.heap.size, 0, none⟩ = some (.int .i64 l.words) ∧ w'.cell? ⟨w.heap.size, 1, none⟩ = some (.int .i64 l.bits) ∧ w'.cell? ⟨w.heap.size, 2, none⟩ = some (.int .i64 l.period) ∧ w'.cell? ⟨w.heap.size, 3, none⟩ = some (.int .i64 l.delay) ∧ w'.cell? ⟨w.heap.size, 4, none⟩ = some (.int .i64 l.slope) ∧ w'.cell? ⟨w.heap.size, 5, none⟩ = some (.int .i64 l.window) ∧ w'.cell? ⟨b, off + i * 2, none⟩ = some (.int .i64 s1))
                  (first | exact ⟨hQ.drew, c0, c1, c2, c3, c4, c5, x0⟩ | exact seven_later2 hHeld hb' | exact seven_later2 (by assumption) hb')
                  (first | (go_at_call 70; refine (hsf _).mono ?_; rintro e w' ⟨rfl, hb'⟩))
                all_goals
                  have EH := (‹Ext Q _ ∧ _ ∧ _ ∧ _ ∧ _ ∧ _ ∧ _ ∧ _›).1
                  clear c0 c1 c2 c3 c4 c5 x0 hQ
                  go_wp2
                  exact bodyPost_ret (v := .tuple #[.int .i64 m, .int .i64 0]) (by simp [results, Try.results45, go_sem]) rfl ⟨by rw [HF.out], E3w.comp (E3Q.comp EH)⟩
            · have hltz2 : ¬ (i : Int) < (K : Int) := by omega
              obtain rfl : i = K := by omega
              have HU2 : Aside (∀ j, j < m + 1 → unsafeO l o temp heats j = false) := (show Aside _ from fun j hj => by
                by_cases e : j = m
                · rw [e]; exact HUN.out HS.out
                · exact HU.out j (by omega))
              have b1 := (E3Q.block _ (Array.getElem?_eq_some_iff.1 HB1.out).1).trans HB1.out
              have o0 := blk_cell b1 0 (v := .int .i64 o.low) rfl
              have o1 := blk_cell b1 1 (v := .int .i64 o.high) rfl
              have o2 := blk_cell b1 2 (v := .int .i64 o.warm.lo) rfl
              have o3 := blk_cell b1 3 (v := .int .i64 o.warm.hi) rfl
              have o4 := blk_cell b1 4 (v := .int .i64 o.cool.lo) rfl
              have o5 := blk_cell b1 5 (v := .int .i64 o.cool.hi) rfl
              have hmi := fun W (E : Ext Z W) => rminute_any o HO.out a i c os W HK.out HOL (StsT.plain (StsT.ext hL E)) HOB.out
              rw [← HOS.out, minL_listO] at hmi
              clear HU HS b1
              go_wp2_with fail
              refine (hmi _ EQ).mono ?_
              rintro e w5 ⟨ra, rc, rfl, rL, E5⟩
              clear hmi o0 o1 o2 o3 o4 o5
              go_wp2
              go_roundw
              case rel => exact ⟨m + 1, ra, rc, by omega, by go_num, rfl, rL, HU2, E3Q.comp E5⟩
              case measure => simp [Go.RowKit.intOf]; omega
        · have hltz : ¬ (m : Int) ≤ (N : Int) := by omega
          have HF := Lib.hid (show kpF (unsafeO l o temp heats) N = -1 from kpF_none (fun j hj => HU.out j (by omega)))
          go_wp2
          exact bodyPost_ret (v := .tuple #[.int .i64 (-1), .int .i64 0]) (by simp [results, Try.results45, go_sem]) rfl ⟨by rw [HF.out], E3w.comp EZ⟩
    · have hE : keepsE l o temp heats minutes = (0, ovenX o temp minutes) := by unfold keepsE; rw [checkL_of hol, if_neg (by simp), if_pos hx]
      rw [hE]
      obtain ⟨y, hy⟩ : ∃ y, ovenX o temp minutes = y := ⟨_, rfl⟩
      rw [hy] at hox hx ⊢
      have hyb : (y == 0) = false := by simpa using hx
      have hyb2 : (y != 0) = true := by simpa using hx
      clear hE hy hx hol hok
      dsimp only
      go_enter Try.func45, Try.ntmps45
      go_wp2_with fail
      refine (hck _).mono ?_
      rintro e w1 ⟨rfl, E1⟩
      obtain ⟨b0, b1, b2⟩ := three_boxes E1
      have o0 := blk_cell b1 0 (v := .int .i64 o.low) rfl
      have o1 := blk_cell b1 1 (v := .int .i64 o.high) rfl
      have o2 := blk_cell b1 2 (v := .int .i64 o.warm.lo) rfl
      have o3 := blk_cell b1 3 (v := .int .i64 o.warm.hi) rfl
      have o4 := blk_cell b1 4 (v := .int .i64 o.cool.lo) rfl
      have o5 := blk_cell b1 5 (v := .int .i64 o.cool.hi) rfl
      have u0 := blk_cell b2 0 (v := .int .i64 temp.lo) rfl
      have u1 := blk_cell b2 1 (v := .int .i64 temp.hi) rfl
      go_wp2_with fail
      refine (hox _).mono ?_
      rintro e w2 ⟨rfl, E2⟩
      go_wp2
      go_ret2
      exact ⟨rfl, E1.old.old.old.comp E2⟩
end Go.Proofs.Ytkkchoinfdfiaaa

/- Contracts of layer 1's reference: Oven. -/
import Derived.Test.YtkkchoinfdfiaaaI11
import Derived.StillTailTactics
set_option linter.unusedVariables false
set_option linter.unusedSimpArgs false
namespace Go.Q
open Go.RowKit
def mnT (a : Int) (os : List (Int × Bool)) (i : Nat) : Int := (os.take i).foldl (fun a s => min a s.1) a
def mxT (a : Int) (os : List (Int × Bool)) (i : Nat) : Int := (os.take i).foldl (fun a s => max a s.1) a
theorem mnT_succ {a : Int} {os : List (Int × Bool)} {i : Nat} {s : Int × Bool} (h : os.take (i + 1) = os.take i ++ [s]) : mnT a os (i + 1) = min (mnT a os i) s.1 := by unfold mnT; rw [h, List.foldl_append]; rfl
theorem mxT_succ {a : Int} {os : List (Int × Bool)} {i : Nat} {s : Int × Bool} (h : os.take (i + 1) = os.take i ++ [s]) : mxT a os (i + 1) = max (mxT a os i) s.1 := by unfold mxT; rw [h, List.foldl_append]; rfl
theorem minL_listO (o : Ov) (temp : Sp) (heats : Bool) (m : Nat) : minL o (listO o temp heats m) = listO o temp heats (m + 1) := rfl
theorem unsafe_list (l : Ln) (o : Ov) (temp : Sp) (heats : Bool) (m : Nat) : unsafeO l o temp heats m = (listO o temp heats m).any fun s => !safeL l s.1 := by
  unfold unsafeO
  rw [Bool.eq_iff_iff, List.any_eq_true, List.any_eq_true]
  constructor
  · rintro ⟨s, hs, h⟩; exact ⟨s, (mem_listO o temp heats m s).2 hs, h⟩
  · rintro ⟨s, hs, h⟩; exact ⟨s, (mem_listO o temp heats m s).1 hs, h⟩
end Go.Q
namespace Go.Proofs.Ytkkchoinfdfiaaa
open Go.RowKit Go.Q Go.Shelf Go.Maps

theorem fold_min_mem {l1 l2 : List (Int × Bool)} (h : ∀ s, s ∈ l1 ↔ s ∈ l2) (a : Int) : l1.foldl (fun a s => min a s.1) a = l2.foldl (fun a s => min a s.1) a := by
  obtain ⟨a1, a2, a3⟩ := fold_min (fun s : Int × Bool => s.1) l1 a
  obtain ⟨b1, b2, b3⟩ := fold_min (fun s : Int × Bool => s.1) l2 a
  generalize l1.foldl (fun a s => min a s.1) a = x at *
  generalize l2.foldl (fun a s => min a s.1) a = y at *
  refine Int.le_antisymm ?_ ?_
  · rcases b3 with rfl | ⟨s, hs, rfl⟩
    · exact a1
    · exact a2 s ((h s).2 hs)
  · rcases a3 with rfl | ⟨s, hs, rfl⟩
    · exact b1
    · exact b2 s ((h s).1 hs)
theorem fold_max_mem {l1 l2 : List (Int × Bool)} (h : ∀ s, s ∈ l1 ↔ s ∈ l2) (a : Int) : l1.foldl (fun a s => max a s.1) a = l2.foldl (fun a s => max a s.1) a := by
  obtain ⟨a1, a2, a3⟩ := fold_max (fun s : Int × Bool => s.1) l1 a
  obtain ⟨b1, b2, b3⟩ := fold_max (fun s : Int × Bool => s.1) l2 a
  generalize l1.foldl (fun a s => max a s.1) a = x at *
  generalize l2.foldl (fun a s => max a s.1) a = y at *
  refine Int.le_antisymm ?_ ?_
  · rcases a3 with rfl | ⟨s, hs, rfl⟩
    · exact b1
    · exact b2 s ((h s).1 hs)
  · rcases b3 with rfl | ⟨s, hs, rfl⟩
    · exact a1
    · exact a2 s ((h s).2 hs)
theorem mnT_all (o : Ov) (temp : Sp) (heats : Bool) (m : Nat) : mnT (loO o temp heats m) (listO o temp heats (m + 1)) (listO o temp heats (m + 1)).length = loO o temp heats (m + 1) := by
  unfold mnT
  rw [List.take_length]
  exact fold_min_mem (mem_listO o temp heats (m + 1)) _
theorem mxT_all (o : Ov) (temp : Sp) (heats : Bool) (m : Nat) : mxT (hiO o temp heats m) (listO o temp heats (m + 1)) (listO o temp heats (m + 1)).length = hiO o temp heats (m + 1) := by
  unfold mxT
  rw [List.take_length]
  exact fold_max_mem (mem_listO o temp heats (m + 1)) _
theorem two_later0 {w X W : World} {p0 p1 : Addr} {v0 v1 : Value} (h : Ext w X ∧ X.cell? p0 = some v0 ∧ X.cell? p1 = some v1) (E : Ext X W) : Ext w W ∧ W.cell? p0 = some v0 ∧ W.cell? p1 = some v1 :=
  ⟨h.1.comp E, cell_laterA h.2.1 E, cell_laterA h.2.2 E⟩
theorem set_ext2 {w W : World} {b : Nat} (E : Ext w W) (hb : w.heap.size ≤ b) (x y : Value) : Ext w ((W.setCell ⟨b, 0, none⟩ x).setCell ⟨b, 1, none⟩ y) := (E.setCell (p := ⟨b, 0, none⟩) hb x).setCell (p := ⟨b, 1, none⟩) hb y
theorem three_boxes {w w1 : World} {c0 c1 c2 : Array Value} {k0 k1 k2 : TypeId} (E : Ext (((w.alloc (.cells c0 k0)).alloc (.cells c1 k1)).alloc (.cells c2 k2)) w1) :
    w1.heap[w.heap.size]? = some (.cells c0 k0 (0, 0)) ∧ w1.heap[w.heap.size + 1]? = some (.cells c1 k1 (0, 0)) ∧ w1.heap[w.heap.size + 1 + 1]? = some (.cells c2 k2 (0, 0)) := by
  have e1 := heap_alloc_new w (.cells c0 k0)
  have e2 := heap_alloc_new (w.alloc (.cells c0 k0)) (.cells c1 k1)
  have e3 := heap_alloc_new ((w.alloc (.cells c0 k0)).alloc (.cells c1 k1)) (.cells c2 k2)
  simp only [World.size_alloc] at e2 e3
  have X2 := E.old
  have X1 := X2.old
  exact ⟨(X1.block _ (by simp)).trans e1, (X2.block _ (by simp)).trans e2, (E.block _ (by simp)).trans e3⟩
theorem StsT.put {W : World} {a : Option Addr} {os : List (Int × Bool)} (h : StsT W a os) {b o : Nat} {v : Value} {cs : Array Value} (hb : W.heap[b]? = some (.cells cs 49 (0, 0))) : StsT (W.setCell ⟨b, o, none⟩ v) a os :=
  StsT.same h (fun g cs' hg => Below.heap_setCell _ _ _ _ (by
    show g ≠ b
    intro e
    rw [e, hb] at hg
    simp at hg))
set_option maxRecDepth 100000 in
set_option maxHeartbeats 8000000 in
theorem rOven_any (o : Ov) (temp : Sp) (heats : Bool) (minutes : Int) (w : World) :
    Calls Try.prog 43 #[.agg #[.int .i64 o.low, .int .i64 o.high, .int .i64 o.warm.lo, .int .i64 o.warm.hi, .int .i64 o.cool.lo, .int .i64 o.cool.hi], .agg #[.int .i64 temp.lo, .int .i64 temp.hi], .bool heats, .int .i64 minutes] w (OvenRes (ovenE o temp heats minutes) w) := by
  have hox := fun W => roven_any o temp minutes W
  by_cases hx : ovenX o temp minutes = 0
  · have hE : ovenE o temp heats minutes = (⟨loO o temp heats minutes.toNat, hiO o temp heats minutes.toNat⟩, 0) := by unfold ovenE; rw [if_pos hx]
    rw [hE]
    rw [hx] at hox
    obtain ⟨ho, hsp, hm0, hm1⟩ := okO_of hx
    obtain ⟨t0, t1, t2⟩ := spanX_bd hsp
    have hbg := fun W => rbegin_any temp heats W t0 t2
    rw [stL_all o, show (temp.hi - temp.lo + 1).toNat = (listO o temp heats 0).length by rw [← stL_all, stL_length]] at hbg
    obtain ⟨N, hN⟩ : ∃ N : Nat, minutes = N := Int.eq_ofNat_of_zero_le hm0
    subst hN
    have HO := Lib.hid ho
    have HLB := Lib.hid (fun m => listO_bd ho (temp := temp) (heats := heats) ⟨t0, t2⟩ m)
    have HLL := Lib.hid (fun m => listO_len ho (temp := temp) (heats := heats) ⟨t0, t2⟩ m)
    rw [Int.toNat_natCast]
    clear hE hx ho hsp
    go_enter Try.func43, Try.ntmps43
    go_wp2_with fail
    refine (hox _).mono ?_
    rintro e w1 ⟨rfl, E1⟩
    obtain ⟨b0, b1, b2⟩ := three_boxes E1
    have hwS : w.heap.size + 1 + 1 < w1.heap.size := (Array.getElem?_eq_some_iff.1 b2).1
    have E1w := E1.old.old.old
    have y0 := blk_cell b1 0 (v := .int .i64 temp.lo) rfl
    have y1 := blk_cell b1 1 (v := .int .i64 temp.hi) rfl
    clear hox E1
    go_wp2_with fail
    go_region_held3 (fun w' => Ext w1 w' ∧ w'.cell? ⟨w.heap.size + 1, 0, none⟩ = some (.int .i64 temp.lo) ∧ w'.cell? ⟨w.heap.size + 1, 1, none⟩ = some (.int .i64 temp.hi))
      (first | exact ⟨(Ext.refl w1).drew, y0, y1⟩ | exact two_later0 ⟨Ext.refl w1, y0, y1⟩ hbx | exact two_later0 ⟨Ext.refl w1, y0, y1⟩ (Ext.alloc hbx _) | exact two_later0 ⟨Ext.refl w1, y0, y1⟩ (Ext.alloc (Ext.refl w1).drew _) | exact two_later0 ⟨Ext.refl w1, y0, y1⟩ (set_ext2 hbx (Nat.le_refl _) _ _))
      (first | (go_at_call 75; refine (hbg _).mono ?_; rintro e w' ⟨la, lc, rfl, hL, hb'⟩; first | (have hbx : Ext w1 w' := Ext.comp ((Ext.refl w1).drew) hb') | ((have hbx : Ext w1 w' := Ext.comp (Ext.alloc ((Ext.refl w1).drew) _) hb'); (have q0 : w'.cell? ⟨w1.heap.size, 0, none⟩ = some (.int .i64 0) := box_at (w := w1.drew) hb' 0 rfl); (have q1 : w'.cell? ⟨w1.heap.size, 1, none⟩ = some (.int .i64 0) := box_at (w := w1.drew) hb' 1 rfl); (have g0 : w'.frozen? ⟨w1.heap.size, 0, none⟩ = false := box_free (w := w1.drew) hb' 0); (have g1 : w'.frozen? ⟨w1.heap.size, 1, none⟩ = false := box_free (w := w1.drew) hb' 1))))
    all_goals
      first
        | (have hb0 : w'.heap[w1.heap.size]? = some (.cells #[.int .i64 0, .int .i64 0] 49 (0, 0)) := (hb'.block _ (by simp)).trans (heap_alloc_new w1.drew _)
           have hb2 := heap_setCell_same _ w1.heap.size 1 _ _ (.int .i64 temp.hi) (heap_setCell_same w' w1.heap.size 0 _ _ (.int .i64 temp.lo) hb0)
           have hbb : ((w'.setCell ⟨w1.heap.size, 0, none⟩ (.int .i64 temp.lo)).setCell ⟨w1.heap.size, 1, none⟩ (.int .i64 temp.hi)).heap[w1.heap.size]? = some (.cells #[.int .i64 temp.lo, .int .i64 temp.hi] 49 (0, 0)) := by simpa using hb2
           have EY : Ext w1 ((w'.setCell ⟨w1.heap.size, 0, none⟩ (.int .i64 temp.lo)).setCell ⟨w1.heap.size, 1, none⟩ (.int .i64 temp.hi)) := set_ext2 hbx (Nat.le_refl _) _ _
           have hL2 : StsT ((w'.setCell ⟨w1.heap.size, 0, none⟩ (.int .i64 temp.lo)).setCell ⟨w1.heap.size, 1, none⟩ (.int .i64 temp.hi)) la (listO o temp heats 0) := StsT.put (StsT.put hL hb0) (heap_setCell_same w' w1.heap.size 0 _ _ (.int .i64 temp.lo) hb0)
           obtain ⟨bb, hbe⟩ : ∃ bb, w1.heap.size = bb := ⟨_, rfl⟩
           have hbX : w1.heap.size ≤ bb := by omega
           rw [hbe] at hbb EY hL2 ⊢
           clear hbx hb' hb0 hb2 q0 q1 g0 g1 hbe hL
           generalize (w'.setCell ⟨bb, 0, none⟩ (.int .i64 temp.lo)).setCell ⟨bb, 1, none⟩ (.int .i64 temp.hi) = Y at *
           skip)
        | (have hbb : (w'.alloc (.cells #[.int .i64 temp.lo, .int .i64 temp.hi] 49)).heap[w'.heap.size]? = some (.cells #[.int .i64 temp.lo, .int .i64 temp.hi] 49 (0, 0)) := heap_alloc_new w' _
           have EY : Ext w1 (w'.alloc (.cells #[.int .i64 temp.lo, .int .i64 temp.hi] 49)) := Ext.alloc hbx _
           have hbX : w1.heap.size ≤ w'.heap.size := hbx.size
           have hL2 := StsT.ext hL ((Ext.refl w').alloc (.cells #[.int .i64 temp.lo, .int .i64 temp.hi] 49))
           clear hbx hb' hL
           generalize w'.alloc (.cells #[.int .i64 temp.lo, .int .i64 temp.hi] 49) = Y at *
           generalize w'.heap.size = bb at *
           skip)
      clear y0 y1
      have HB0 := Lib.hid b0
      have HB2 := Lib.hid b2
      clear b0 b1 b2
      (try go_frame)
      go_wp2_with fail
      go_loopw [12, 13] (fun s12 s13 Z => ∃ (m : Nat) (a : Option Addr) (c : Nat), m ≤ N ∧ s13 = .int .i64 m ∧ s12 = .slice a (listO o temp heats m).length c ∧ StsT Z a (listO o temp heats m) ∧ Z.heap[bb]? = some (.cells #[.int .i64 (loO o temp heats m), .int .i64 (hiO o temp heats m)] 49 (0, 0)) ∧ Ext w1 Z) (fun _ s13 _ => N - (Go.RowKit.intOf s13).toNat)
      case atStart => exact ⟨0, la, lc, Nat.zero_le _, rfl, rfl, hL2, hbb, EY⟩
      case round =>
        clear hL2 hbb EY
        obtain ⟨m, a, c, hm, rfl, rfl, hL, hbb, EZ⟩ := hrel
        obtain ⟨Z, rfl⟩ : ∃ Z : World, Z = wr := ⟨_, rfl⟩
        by_cases hlt : m < N
        · have hltz : (m : Int) < (N : Int) := by omega
          have hb0 := (EZ.block _ (Array.getElem?_eq_some_iff.1 HB0.out).1).trans HB0.out
          have o0 := blk_cell hb0 0 (v := .int .i64 o.low) rfl
          have o1 := blk_cell hb0 1 (v := .int .i64 o.high) rfl
          have o2 := blk_cell hb0 2 (v := .int .i64 o.warm.lo) rfl
          have o3 := blk_cell hb0 3 (v := .int .i64 o.warm.hi) rfl
          have o4 := blk_cell hb0 4 (v := .int .i64 o.cool.lo) rfl
          have o5 := blk_cell hb0 5 (v := .int .i64 o.cool.hi) rfl
          have hmi := fun W (E : Ext Z W) => rminute_any o HO.out a _ c _ W rfl (HLL.out m) (StsT.plain (StsT.ext hL E)) (HLB.out m)
          rw [minL_listO] at hmi
          clear hb0
          go_wp2_with fail
          refine (hmi _ (Ext.refl _)).mono ?_
          rintro e w5 ⟨ra, rc, rfl, rL, E5⟩
          have hbb5 := (E5.block _ (Array.getElem?_eq_some_iff.1 hbb).1).trans hbb
          have EZ5 := EZ.comp E5
          clear hmi o0 o1 o2 o3 o4 o5 hbb EZ E5 hL
          go_wp2_with fail
          obtain ⟨os, hos⟩ : ∃ os, listO o temp heats (m + 1) = os := ⟨_, rfl⟩
          have HMN := Lib.hid (mnT_all o temp heats m)
          have HMX := Lib.hid (mxT_all o temp heats m)
          have HOB := Lib.hid (HLB.out (m + 1))
          have HOL := HLL.out (m + 1)
          rw [hos] at rL HMN HMX HOB HOL ⊢
          obtain ⟨lo, hlo⟩ : ∃ x, loO o temp heats m = x := ⟨_, rfl⟩
          obtain ⟨hi, hhi⟩ : ∃ x, hiO o temp heats m = x := ⟨_, rfl⟩
          rw [hlo] at hbb5 HMN
          rw [hhi] at hbb5 HMX
          have HOS := Lib.hid hos
          obtain ⟨K, hK⟩ : ∃ K, os.length = K := ⟨_, rfl⟩
          have HK := Lib.hid hK
          rw [hK] at HMN HMX HOL ⊢
          clear hos hlo hhi hK
          go_loopw [14] (fun s14 Q => ∃ i : Nat, i ≤ K ∧ s14 = .int .i64 i ∧ StsT Q ra os ∧ Q.heap[bb]? = some (.cells #[.int .i64 (mnT lo os i), .int .i64 (mxT hi os i)] 49 (0, 0)) ∧ Ext w1 Q) (fun s14 _ => K - (Go.RowKit.intOf s14).toNat)
          case atStart => exact ⟨0, Nat.zero_le _, rfl, rL, hbb5, EZ5⟩
          case round =>
            clear rL hbb5 EZ5
            obtain ⟨i, hi', rfl, rL, hbb, EQ⟩ := hrel
            obtain ⟨Q, rfl⟩ : ∃ Q : World, Q = wr := ⟨_, rfl⟩
            by_cases hlt2 : i < K
            · have hltz2 : (i : Int) < (K : Int) := by omega
              rcases id rL with e | ⟨b, off, cs, rfl, hbl, hc⟩
              · exfalso
                have := HK.out
                rw [e] at this; simp at this; omega
              have x0 := (hc i (by rw [HK.out]; exact hlt2)).1
              obtain ⟨s, hs⟩ : ∃ s, os[i]?.getD (0, false) = s := ⟨_, rfl⟩
              rw [hs] at x0
              have hT := take_snoc (by rw [HK.out]; exact hlt2) (0, false) hs
              have HN1 := Lib.hid (mnT_succ (a := lo) hT)
              have HX1 := Lib.hid (mxT_succ (a := hi) hT)
              obtain ⟨s1, s2⟩ := s
              dsimp only at x0 HN1 HX1
              obtain ⟨mn, hmn⟩ : ∃ x, mnT lo os i = x := ⟨_, rfl⟩
              obtain ⟨mx, hmx⟩ : ∃ x, mxT hi os i = x := ⟨_, rfl⟩
              rw [hmn] at hbb HN1
              rw [hmx] at hbb HX1
              have p0 := blk_cell hbb 0 (v := .int .i64 mn) rfl
              have p1 := blk_cell hbb 1 (v := .int .i64 mx) rfl
              have f0 := blk_free hbb 0
              have f1 := blk_free hbb 1
              clear hs hT hmn hmx hc hbl
              go_wp2_with fail
              go_still_tail 17, (by kernel_rfl)
              change wpList _ _ _ _ _ Q.drew
              have EQd : Ext Q Q.drew := (Ext.refl Q).drew
              have p0 := cell_laterA p0 EQd
              have p1 := cell_laterA p1 EQd
              have f0 : Q.drew.frozen? ⟨bb, 0, none⟩ = false := f0
              have f1 : Q.drew.frozen? ⟨bb, 1, none⟩ = false := f1
              have hbbd : Q.drew.heap[bb]? = some (.cells #[.int .i64 mn, .int .i64 mx] 49 (0, 0)) := hbb
              have rLd := StsT.ext rL EQd
              replace EQ := EQ.comp EQd
              clear rL hbb EQd
              generalize Q.drew = Q2 at *
              have d1 := heap_setCell_same Q2 bb 0 _ _ (.int .i64 (min mn s1)) hbbd
              have d2 := heap_setCell_same _ bb 1 _ _ (.int .i64 (max mx s1)) d1
              have rL2 := StsT.put (o := 1) (v := .int .i64 (max mx s1)) (StsT.put (o := 0) (v := .int .i64 (min mn s1)) rLd hbbd) d1
              have d3 : ((Q2.setCell ⟨bb, 0, none⟩ (.int .i64 (min mn s1))).setCell ⟨bb, 1, none⟩ (.int .i64 (max mx s1))).heap[bb]? = some (.cells #[.int .i64 (min mn s1), .int .i64 (max mx s1)] 49 (0, 0)) := by simpa using d2
              have EQ3 := set_ext2 EQ hbX (.int .i64 (min mn s1)) (.int .i64 (max mx s1))
              clear d1 d2 rLd hbbd EQ
              go_wp2
              go_roundw
              case rel => exact ⟨i + 1, by omega, by go_num, rL2, by rw [HN1.out, HX1.out]; exact d3, EQ3⟩
              case measure => simp [Go.RowKit.intOf]; omega
            · have hltz2 : ¬ (i : Int) < (K : Int) := by omega
              obtain rfl : i = K := by omega
              rw [HMN.out, HMX.out] at hbb
              go_wp2
              go_roundw
              case rel => exact ⟨m + 1, ra, rc, by omega, by go_num, by rw [HOS.out, HK.out], by rw [HOS.out]; exact rL, hbb, EQ⟩
              case measure => simp [Go.RowKit.intOf]; omega
        · have hltz : ¬ (m : Int) < (N : Int) := by omega
          obtain rfl : m = N := by omega
          have hb2 := (EZ.block _ (Array.getElem?_eq_some_iff.1 HB2.out).1).trans HB2.out
          have y0 := blk_cell hb2 0 (v := .int .i64 0) rfl
          have y1 := blk_cell hb2 1 (v := .int .i64 0) rfl
          have f0 := blk_free hb2 0
          have f1 := blk_free hb2 1
          have p0 := blk_cell hbb 0 (v := .int .i64 (loO o temp heats m)) rfl
          have p1 := blk_cell hbb 1 (v := .int .i64 (hiO o temp heats m)) rfl
          have hEw := E1w.comp EZ
          clear hb2 hbb hL
          go_wp2
          refine bodyPost_ret (v := .tuple #[.agg #[.int .i64 (loO o temp heats m), .int .i64 (hiO o temp heats m)], .int .i64 0]) (by simp [results, Try.results43, go_sem, y0, y1, f0, f1]) rfl ⟨rfl, ?_⟩
          exact set_ext2 hEw (by omega) _ _
  · have hE : ovenE o temp heats minutes = (⟨0, 0⟩, ovenX o temp minutes) := by unfold ovenE; rw [if_neg hx]
    rw [hE]
    obtain ⟨y, hy⟩ : ∃ y, ovenX o temp minutes = y := ⟨_, rfl⟩
    rw [hy] at hox hx ⊢
    have hyb : (y == 0) = false := by simpa using hx
    have hyb2 : (y != 0) = true := by simpa using hx
    clear hE hy hx
    go_enter Try.func43, Try.ntmps43
    go_wp2_with fail
    refine (hox _).mono ?_
    rintro e w1 ⟨rfl, E1⟩
    obtain ⟨b0, b1, b2⟩ := three_boxes E1
    have y0 := blk_cell b2 0 (v := .int .i64 0) rfl
    have y1 := blk_cell b2 1 (v := .int .i64 0) rfl
    have f0 := blk_free b2 0
    have f1 := blk_free b2 1
    go_wp2
    refine bodyPost_ret (v := .tuple #[.agg #[.int .i64 0, .int .i64 0], .int .i64 y]) (by simp [results, Try.results43, go_sem, y0, y1, f0, f1]) rfl ⟨rfl, ?_⟩
    exact set_ext2 E1.old.old.old (by omega) _ _
end Go.Proofs.Ytkkchoinfdfiaaa

import Derived.Laws.BytesString
import Derived.Test.YtbcciokmlkofkaaGreatWH20
import Derived.Test.YtbcciokmlkofkaaGreatWH23
set_option linter.unusedVariables false
set_option linter.unusedSimpArgs false
/- Contracts of layer 1: the reference's Ints; calls of Awake. -/
namespace Go.Proofs.YtbcciokmlkofkaaGreat
open Go.RowKit Go.Q Go.Shelf Go.Maps
theorem ints_eqL {xs ys : List Int} (hl : xs.length = ys.length) (h : ∀ j, j < xs.length → xs[j]?.getD 0 = ys[j]?.getD 0) : xs = ys := by
  apply List.ext_getElem hl
  intro i h1 h2
  have := h i h1
  rw [List.getElem?_eq_getElem h1, List.getElem?_eq_getElem h2] at this
  simpa using this
set_option maxHeartbeats 1000000 in
theorem ints_anyL (a b : Option Addr) (n m c d : Nat) (xs ys : List Int) (w : World) (hn : xs.length = n) (hm : ys.length = m) (b1 : n ≤ 9223372036854775807) (b2 : m ≤ 9223372036854775807) (hI : IntsAt w a xs) (hJ : IntsAt w b ys) :
    Calls Tryz.prog 30 #[.slice a n c, .slice b m d] w fun e w' => e = .returned (.bool (decide (xs = ys))) ∧ Ext w w' := by
  by_cases hnm : n = m
  · subst hnm
    by_cases h0 : n = 0
    · subst h0
      have e1 : xs = [] := List.eq_nil_of_length_eq_zero hn
      have e2 : ys = [] := List.eq_nil_of_length_eq_zero hm
      subst e1; subst e2
      clear hI hJ hn hm
      go_enter Tryz.func30, Tryz.ntmps30
      go_wp2
      go_loop [5] (fun s => s = .int .i64 0) (fun _ => 0)
      case atStart => exact rfl
      case round =>
        obtain rfl := hrel
        go_wp2
        go_ret
        exact ⟨rfl, Ext.refl _⟩
    · rcases hI with e | ⟨ba, oa, rfl, _, hc⟩
      · subst e; exact absurd hn.symm h0
      rcases hJ with e | ⟨bb, ob, rfl, _, hd⟩
      · subst e; exact absurd hm.symm h0
      have hne : ((n : Int) != (n : Int)) = false := by simp
      have Hn := Lib.hid hn
      have Hm := Lib.hid hm
      rw [hn] at hc
      rw [hm] at hd
      clear hn hm h0
      go_enter Tryz.func30, Tryz.ntmps30
      go_wp2
      go_loopw [5] (fun s wr => ∃ k : Nat, k ≤ n ∧ s = .int .i64 k ∧ Aside (Ext w wr) ∧ Aside (∀ j, j < k → xs[j]?.getD 0 = ys[j]?.getD 0)) (fun s _ => n - (Go.RowKit.intOf s).toNat)
      case atStart => exact ⟨0, Nat.zero_le _, rfl, Ext.refl w, fun j hj => absurd hj (Nat.not_lt_zero _)⟩
      case round =>
        obtain ⟨k, hk, rfl, EW, A⟩ := hrel
        by_cases hlt : k < n
        · have hltz : (k : Int) < (n : Int) := by omega
          have p := cell_later EW.out (hc k hlt)
          have q := cell_later EW.out (hd k hlt)
          have hk0 : (0 : Int) ≤ (k : Int) := by omega
          clear hc hd
          generalize hx : xs[k]?.getD 0 = x at p
          generalize hy : ys[k]?.getD 0 = y at q
          have Hx := Lib.hid hx
          have Hy := Lib.hid hy
          clear hx hy
          cases hq : x == y with
          | true =>
            have hq' : (x != y) = false := by rw [bne, hq]; rfl
            have Hq := Lib.hid hq
            clear hq
            go_wp2
            go_quiet (fail)
            go_wp2
            go_roundw
            case rel =>
              refine ⟨k + 1, by omega, by go_num, below_drewN EW.out _, (show Aside _ from fun j hj => ?_)⟩
              by_cases e : j = k
              · subst e
                rw [Hx.out, Hy.out]; simpa using Hq.out
              · exact A.out j (by omega)
            case measure => simp [Go.RowKit.intOf]; omega
          | false =>
            have hq' : (x != y) = true := by rw [bne, hq]; rfl
            have Hq := Lib.hid hq
            clear hq
            go_wp2
            go_quiet (fail)
            go_wp2
            go_ret
            refine ⟨ret_bool ?_, below_drewN EW.out _⟩
            symm; rw [decide_eq_false_iff_not]
            intro e
            have : x = y := by rw [← Hx.out, ← Hy.out, e]
            have := Hq.out
            simp_all
        · have hltz : ¬ (k : Int) < (n : Int) := by omega
          go_wp2
          go_ret
          refine ⟨ret_bool ?_, EW.out⟩
          symm; rw [decide_eq_true_iff]
          exact ints_eqL (by rw [Hn.out, Hm.out]) (fun j hj => A.out j (by have := Hn.out; omega))
  · have hne : ((n : Int) != (m : Int)) = true := by rw [bne_iff_ne]; omega
    have e : decide (xs = ys) = false := by rw [decide_eq_false_iff_not]; intro e; subst e; omega
    rw [e]
    clear hnm hn hm e hI hJ
    go_enter Tryz.func30, Tryz.ntmps30
    go_wp2
    go_ret
    exact ⟨rfl, Ext.refl _⟩
theorem lawspan_any (lo hi : Int) (w : World) : Calls Tryz.prog 25 #[.int .i64 lo, .int .i64 hi] w fun e w' => e = .returned (.agg #[.int .i64 lo, .int .i64 hi]) ∧ Ext w w' := by
  go_enter Tryz.func25, Tryz.ntmps25
  go_wp2
  refine bodyPost_ret (v := .agg #[.int .i64 lo, .int .i64 hi]) (by simp [results, Tryz.results25, go_sem]) rfl ⟨rfl, (Ext.refl w).alloc _⟩
theorem lawline_any (w : World) : Calls Tryz.prog 23 #[] w fun e w' => e = .returned (.agg #[.int .i64 4, .int .i64 8, .int .i64 10, .int .i64 320, .int .i64 1, .int .i64 3]) ∧ Ext w w' := by
  go_enter Tryz.func23, Tryz.ntmps23
  go_wp2
  refine bodyPost_ret (v := .agg #[.int .i64 4, .int .i64 8, .int .i64 10, .int .i64 320, .int .i64 1, .int .i64 3]) (by simp [results, Tryz.results23, go_sem]) rfl ⟨rfl, (Ext.refl w).alloc _⟩
theorem lawoven_any (w : World) : Calls Tryz.prog 28 #[] w fun e w' => e = .returned (.agg #[.int .i64 20, .int .i64 30, .int .i64 2, .int .i64 4, .int .i64 1, .int .i64 3]) ∧ Ext w w' := by
  go_enter Tryz.func28, Tryz.ntmps28
  go_wp2_with fail
  refine (lawspan_any _ _ _).mono ?_
  rintro e w1 ⟨rfl, E1⟩
  go_wp2_with fail
  refine (lawspan_any _ _ _).mono ?_
  rintro e w2 ⟨rfl, E2⟩
  have E12 := E1.comp E2
  have q0 := box_at (v := .int .i64 0) E12 0 rfl
  have q1 := box_at (v := .int .i64 0) E12 1 rfl
  have q2 := box_at (v := .int .i64 0) E12 2 rfl
  have q3 := box_at (v := .int .i64 0) E12 3 rfl
  have q4 := box_at (v := .int .i64 0) E12 4 rfl
  have q5 := box_at (v := .int .i64 0) E12 5 rfl
  have f0 := box_free E12 0
  have f1 := box_free E12 1
  have f2 := box_free E12 2
  have f3 := box_free E12 3
  have f4 := box_free E12 4
  have f5 := box_free E12 5
  go_wp2_with fail
  refine bodyPost_ret (v := .agg #[.int .i64 20, .int .i64 30, .int .i64 2, .int .i64 4, .int .i64 1, .int .i64 3]) (by simp [results, Tryz.results28, go_sem, q0, q1, q2, q3, q4, q5, f0, f1, f2, f3, f4, f5]) rfl ⟨rfl, ?_⟩
  have h0 : w.heap.size ≤ w.heap.size := Nat.le_refl _
  exact (((((E12.old.setCell (p := ⟨w.heap.size, 0, none⟩) h0 _).setCell (p := ⟨w.heap.size, 1, none⟩) h0 _).setCell (p := ⟨w.heap.size, 2, none⟩) h0 _).setCell (p := ⟨w.heap.size, 3, none⟩) h0 _).setCell (p := ⟨w.heap.size, 4, none⟩) h0 _).setCell (p := ⟨w.heap.size, 5, none⟩) h0 _
def lnA : Ln := ⟨4, 8, 10, 320, 1, 3⟩
def ovA : Ov := ⟨20, 30, ⟨2, 4⟩, ⟨1, 3⟩⟩
theorem awShift1 : shiftE lnA (-8) = (-1, false, 0) := by kernel_rfl
theorem awShift2 : shiftE lnA 1001 = (0, false, 7) := by kernel_rfl
theorem awPass : passE lnA [1, 128, 0, 255] [8] = ([3, 0, 1, 254], -1, 0) := by kernel_rfl
theorem awCan : canE lnA [⟨0, 8⟩] = ([0, 1], true, 0) := by kernel_rfl
theorem awNext : nextE lnA 2 16 = (48, 0) := by kernel_rfl
theorem awOven : ovenE ovA ⟨25, 25⟩ false 3 = (⟨17, 25⟩, 0) := by kernel_rfl
theorem awFile : fileF lnA [1, 128, 0, 255] = [77, 76, 4, 8, 1, 128, 0, 255, 219] := by kernel_rfl
theorem awWords : wordsE lnA [1, 128, 0, 255] = 0 := by kernel_rfl
theorem awOk : okL lnA = true := by kernel_rfl
end Go.Proofs.YtbcciokmlkofkaaGreat

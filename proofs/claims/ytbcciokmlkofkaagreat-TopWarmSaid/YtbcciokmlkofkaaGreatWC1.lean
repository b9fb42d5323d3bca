import Derived.Test.YtbcciokmlkofkaaGreatWB5
set_option linter.unusedVariables false
set_option linter.unusedSimpArgs false
/- Contracts: the reference's Ints; the program's Begin. -/
namespace Go.Proofs.YtbcciokmlkofkaaGreat
open Go.RowKit Go.Q
theorem ints_eq {xs ys : List Int} (hl : xs.length = ys.length) (h : ∀ j, j < xs.length → xs[j]?.getD 0 = ys[j]?.getD 0) : xs = ys := by
  apply List.ext_getElem hl
  intro i h1 h2
  have := h i h1
  rw [List.getElem?_eq_getElem h1, List.getElem?_eq_getElem h2] at this
  simpa using this
set_option maxHeartbeats 1000000 in
theorem ints_any (a b : Option Addr) (n m c d : Nat) (xs ys : List Int) (w : World) (hn : xs.length = n) (hm : ys.length = m) (b1 : n ≤ 9223372036854775807) (b2 : m ≤ 9223372036854775807) (hI : IntsAt w a xs) (hJ : IntsAt w b ys) :
    Calls Tryz.prog 37 #[.slice a n c, .slice b m d] w fun e w' => e = .returned (.bool (decide (xs = ys))) ∧ Ext w w' := by
  by_cases hnm : n = m
  · subst hnm
    by_cases h0 : n = 0
    · subst h0
      have e1 : xs = [] := List.eq_nil_of_length_eq_zero hn
      have e2 : ys = [] := List.eq_nil_of_length_eq_zero hm
      subst e1; subst e2
      clear hI hJ hn hm
      go_enter Tryz.func37, Tryz.ntmps37
      go_wp2
      go_loop [5] (fun s => s = .int .i64 0) (fun _ => 0)
      case atStart => exact rfl
      case round =>
        obtain rfl := hrel
        go_wp2
        go_ret
        exact ⟨rfl, Ext.refl _⟩
    · rcases hI with e | ⟨ba, oa, rfl, _, hc⟩
      · subst e; exact absurd hn.symm h0
      rcases hJ with e | ⟨bb, ob, rfl, _, hd⟩
      · subst e; exact absurd hm.symm h0
      have hne : ((n : Int) != (n : Int)) = false := by simp
      have Hn := Lib.hid hn
      have Hm := Lib.hid hm
      rw [hn] at hc
      rw [hm] at hd
      clear hn hm h0
      go_enter Tryz.func37, Tryz.ntmps37
      go_wp2
      go_loopw [5] (fun s wr => ∃ k : Nat, k ≤ n ∧ s = .int .i64 k ∧ Aside (Ext w wr) ∧ Aside (∀ j, j < k → xs[j]?.getD 0 = ys[j]?.getD 0)) (fun s _ => n - (intOf s).toNat)
      case atStart => exact ⟨0, Nat.zero_le _, rfl, Ext.refl w, fun j hj => absurd hj (Nat.not_lt_zero _)⟩
      case round =>
        obtain ⟨k, hk, rfl, EW, A⟩ := hrel
        by_cases hlt : k < n
        · have hltz : (k : Int) < (n : Int) := by omega
          have p := cell_later EW.out (hc k hlt)
          have q := cell_later EW.out (hd k hlt)
          have hk0 : (0 : Int) ≤ (k : Int) := by omega
          clear hc hd
          generalize hx : xs[k]?.getD 0 = x at p
          generalize hy : ys[k]?.getD 0 = y at q
          have Hx := Lib.hid hx
          have Hy := Lib.hid hy
          clear hx hy
          cases hq : x == y with
          | true =>
            have hq' : (x != y) = false := by rw [bne, hq]; rfl
            have Hq := Lib.hid hq
            clear hq
            go_wp2
            go_quiet (fail)
            go_wp2
            go_roundw
            case rel =>
              refine ⟨k + 1, by omega, by go_num, below_drewN EW.out _, (show Aside _ from fun j hj => ?_)⟩
              by_cases e : j = k
              · subst e
                rw [Hx.out, Hy.out]; simpa using Hq.out
              · exact A.out j (by omega)
            case measure => simp [intOf]; omega
          | false =>
            have hq' : (x != y) = true := by rw [bne, hq]; rfl
            have Hq := Lib.hid hq
            clear hq
            go_wp2
            go_quiet (fail)
            go_wp2
            go_ret
            refine ⟨ret_bool ?_, below_drewN EW.out _⟩
            symm; rw [decide_eq_false_iff_not]
            intro e
            have : x = y := by rw [← Hx.out, ← Hy.out, e]
            have := Hq.out
            simp_all
        · have hltz : ¬ (k : Int) < (n : Int) := by omega
          go_wp2
          go_ret
          refine ⟨ret_bool ?_, EW.out⟩
          symm; rw [decide_eq_true_iff]
          exact ints_eq (by rw [Hn.out, Hm.out]) (fun j hj => A.out j (by have := Hn.out; omega))
  · have hne : ((n : Int) != (m : Int)) = true := by rw [bne_iff_ne]; omega
    have e : decide (xs = ys) = false := by rw [decide_eq_false_iff_not]; intro e; subst e; omega
    rw [e]
    clear hnm hn hm e hI hJ
    go_enter Tryz.func37, Tryz.ntmps37
    go_wp2
    go_ret
    exact ⟨rfl, Ext.refl _⟩
end Go.Proofs.YtbcciokmlkofkaaGreat

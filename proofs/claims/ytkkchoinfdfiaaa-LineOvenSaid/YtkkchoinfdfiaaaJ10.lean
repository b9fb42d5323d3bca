/- The law LineOven: its walk. Printed by gen_j10.py. -/
import Derived.Test.YtkkchoinfdfiaaaN6
import Derived.Test.YtkkchoinfdfiaaaH22
import Derived.Test.YtkkchoinfdfiaaaJ9
set_option linter.unusedVariables false
set_option linter.unusedSimpArgs false
namespace Go.Proofs.Ytkkchoinfdfiaaa
open Go.RowKit Go.Q Go.Shelf Go.Maps

theorem four_later {w X W : World} {p1 p2 p3 p4 : Addr} {v1 v2 v3 v4 : Value} (h : Ext w X ∧ X.cell? p1 = some v1 ∧ X.cell? p2 = some v2 ∧ X.cell? p3 = some v3 ∧ X.cell? p4 = some v4) (E : Ext X W) : Ext w W ∧ W.cell? p1 = some v1 ∧ W.cell? p2 = some v2 ∧ W.cell? p3 = some v3 ∧ W.cell? p4 = some v4 :=
  ⟨h.1.comp E, cell_laterA h.2.1 E, cell_laterA h.2.2.1 E, cell_laterA h.2.2.2.1 E, cell_laterA h.2.2.2.2 E⟩
theorem heats_ways (o : Ov) (t : Int) (h : Bool) : (t < o.low ∧ heatsO o t h = true) ∨ (¬ t < o.low ∧ t ≤ o.high ∧ h = true ∧ heatsO o t h = true) ∨ (¬ t < o.low ∧ t ≤ o.high ∧ h = false ∧ heatsO o t h = false) ∨ (¬ t < o.low ∧ ¬ t ≤ o.high ∧ heatsO o t h = false) := by
  unfold heatsO
  by_cases h1 : t < o.low
  · simp [h1]
  · by_cases h2 : t ≤ o.high
    · cases h <;> simp [h1, h2]
    · simp [h1, h2]
theorem two_boxes {w w1 : World} {c0 c1 : Array Value} {k0 k1 : TypeId} (E : Ext ((w.alloc (.cells c0 k0)).alloc (.cells c1 k1)) w1) :
    w1.heap[w.heap.size]? = some (.cells c0 k0 (0, 0)) ∧ w1.heap[w.heap.size + 1]? = some (.cells c1 k1 (0, 0)) := by
  have e1 := heap_alloc_new w (.cells c0 k0)
  have e2 := heap_alloc_new (w.alloc (.cells c0 k0)) (.cells c1 k1)
  simp only [World.size_alloc] at e2
  exact ⟨(E.old.block _ (by simp)).trans e1, (E.block _ (by simp)).trans e2⟩
set_option maxHeartbeats 1000000 in
theorem among2_any (s : Sp) (n : Int) (w : World) (h0 : -500 ≤ s.lo) (h1 : s.lo ≤ s.hi) (h2 : s.hi ≤ 1000) (hn : 0 ≤ n ∧ n ≤ 255) : Calls Try.prog 35 #[.agg #[.int .i64 s.lo, .int .i64 s.hi], .int .u8 n] w fun e w' => e = .returned (.int .i64 (amongO s n)) ∧ Ext w w' := by
  have m1 := mulO (a := s.hi - s.lo) (b := n) (by omega) (by omega) hn.1 hn.2
  obtain ⟨hn0, hn1⟩ := hn
  unfold amongO
  have w1 : IntKind.i64.wrap (s.hi - s.lo) = s.hi - s.lo := IntWalk.i64_in _ (by omega)
  have w2 : IntKind.i64.wrap ((s.hi - s.lo) * n) = (s.hi - s.lo) * n := IntWalk.i64_in _ (by omega)
  have t1 : ((s.hi - s.lo) * n).tdiv 255 = (s.hi - s.lo) * n / 255 := Int.tdiv_eq_ediv_of_nonneg (by omega)
  have w3 : IntKind.i64.wrap n = n := IntWalk.i64_in _ (by omega)
  have w4 : IntKind.i64.wrap ((s.hi - s.lo) * n / 255) = (s.hi - s.lo) * n / 255 := IntWalk.i64_in _ (by omega)
  have w5 : IntKind.i64.wrap (s.lo + (s.hi - s.lo) * n / 255) = s.lo + (s.hi - s.lo) * n / 255 := IntWalk.i64_in _ (by omega)
  go_enter Try.func35, Try.ntmps35
  go_wp2
  go_ret
  exact ⟨rfl, (Ext.refl w).alloc _⟩
set_option maxRecDepth 100000 in
set_option maxHeartbeats 4000000 in
theorem oven_law (l : Ln) (x : Htd) (hx : HtdBd x) (a : Option Addr) (n c : Nat) (xs : List Int) (w : World) (hl : xs.length = n) (hbig : n ≤ 9223372036854775807) (hI : BytesAt w a xs) (hxs : ∀ x ∈ xs, 0 ≤ x ∧ x ≤ 255) :
    Calls Try.prog 17 #[.agg #[.int .i64 l.words, .int .i64 l.bits, .int .i64 l.period, .int .i64 l.delay, .int .i64 l.slope, .int .i64 l.window], .agg #[.int .i64 x.oven.low, .int .i64 x.oven.high, .int .i64 x.oven.warm.lo, .int .i64 x.oven.warm.hi, .int .i64 x.oven.cool.lo, .int .i64 x.oven.cool.hi, .int .i64 x.temp.lo, .int .i64 x.temp.hi, .bool x.heats, .int .i64 x.minutes], .slice a n c] w fun e w' => e = .returned (.bool true) ∧ Ext w w' := by
  obtain ⟨o, temp, heats, minutes⟩ := x
  have ho1 := fun W => Oven_any o temp heats minutes W
  have hk1 := fun W => Keeps_any l o temp heats minutes W
  have hs1 := fun W => Safe_any l W
  unfold OvenRes at ho1
  by_cases hox : ovenX o temp minutes = 0
  · have e1 : ovenE o temp heats minutes = (⟨loO o temp heats minutes.toNat, hiO o temp heats minutes.toNat⟩, 0) := by unfold ovenE; rw [if_pos hox]
    rw [e1] at ho1
    dsimp only at ho1
    clear e1
    obtain ⟨ho, hsp, hm0, hm1⟩ := okO_of hox
    obtain ⟨t0, t1, t2⟩ := spanX_bd hsp
    obtain ⟨M, rfl⟩ : ∃ M : Nat, minutes = (M : Int) := ⟨minutes.toNat, by omega⟩
    rw [show ((M : Int).toNat) = M by simp] at ho1
    have H1 : ∀ m, m ≤ M → ∀ s ∈ statesO o temp heats m, loO o temp heats M ≤ s.1 ∧ s.1 ≤ hiO o temp heats M := fun m hm s hs => ⟨loO_state M m hm s hs, hiO_state M m hm s hs⟩
    have H2 : -1 ≤ (keepsE l o temp heats (M : Int)).1 ∧ (keepsE l o temp heats (M : Int)).1 ≤ M := by
      unfold keepsE
      split
      · exact ⟨by show (-1 : Int) ≤ 0; omega, by show (0 : Int) ≤ M; omega⟩
      · rw [if_neg (by omega)]
        have := kpF_bd (unsafeO l o temp heats) M
        show -1 ≤ kpF (unsafeO l o temp heats) ((M : Int).toNat) ∧ kpF (unsafeO l o temp heats) ((M : Int).toNat) ≤ M
        rw [show ((M : Int).toNat) = M by simp]
        omega
    have H3 : (keepsE l o temp heats (M : Int)).2 = 0 → ∀ m, m ≤ M → ((keepsE l o temp heats (M : Int)).1 < 0 ∨ (m : Int) < (keepsE l o temp heats (M : Int)).1) → ∀ s ∈ statesO o temp heats m, (safeE l).2 = 0 ∧ (safeE l).1.lo ≤ s.1 ∧ s.1 ≤ (safeE l).1.hi := by
      intro h0 m hm hk s hs
      have hcl : checkL l = 0 := by
        by_cases h : checkL l = 0
        · exact h
        · have e : keepsE l o temp heats (M : Int) = (0, checkL l) := by unfold keepsE; rw [if_pos h]
          rw [e] at h0
          exact absurd h0 h
      have e2 : keepsE l o temp heats (M : Int) = (kpF (unsafeO l o temp heats) M, 0) := by unfold keepsE; rw [if_neg (by omega), if_neg (by omega)]; simp
      rw [e2] at hk
      have ho2 : okL l = true := by
        unfold checkL at hcl
        split at hcl
        · assumption
        · omega
      obtain ⟨t, b⟩ := s
      exact safe_in ho2 (unsafe_no (kpF_before hm hk) hs)
    generalize loO o temp heats M = lo at *
    generalize hiO o temp heats M = hi at *
    generalize keepsE l o temp heats (M : Int) = ke at *
    generalize safeE l = se at *
    obtain ⟨k, f⟩ := ke
    obtain ⟨⟨slo, shi⟩, g⟩ := se
    dsimp only at ho1 hk1 hs1 H2 H3
    cases xs with
    | nil =>
      obtain rfl : n = 0 := hl.symm
      clear H1 H2 H3 hI hxs
      go_enter Try.func17, Try.ntmps17
      go_wp2_with fail
      refine (ho1 _).mono ?_
      rintro e w1 ⟨rfl, E1⟩
      obtain ⟨b0, b1⟩ := two_boxes E1
      have EW := E1.old.old
      have l0 := fun ob => blk_cell (alloc_blk b0 ob) 0 (v := .int .i64 l.words) rfl
      have l1 := fun ob => blk_cell (alloc_blk b0 ob) 1 (v := .int .i64 l.bits) rfl
      have l2 := fun ob => blk_cell (alloc_blk b0 ob) 2 (v := .int .i64 l.period) rfl
      have l3 := fun ob => blk_cell (alloc_blk b0 ob) 3 (v := .int .i64 l.delay) rfl
      have l4 := fun ob => blk_cell (alloc_blk b0 ob) 4 (v := .int .i64 l.slope) rfl
      have l5 := fun ob => blk_cell (alloc_blk b0 ob) 5 (v := .int .i64 l.window) rfl
      have x0 := fun ob => blk_cell (alloc_blk b1 ob) 0 (v := .int .i64 o.low) rfl
      have x1 := fun ob => blk_cell (alloc_blk b1 ob) 1 (v := .int .i64 o.high) rfl
      have x2 := fun ob => blk_cell (alloc_blk b1 ob) 2 (v := .int .i64 o.warm.lo) rfl
      have x3 := fun ob => blk_cell (alloc_blk b1 ob) 3 (v := .int .i64 o.warm.hi) rfl
      have x4 := fun ob => blk_cell (alloc_blk b1 ob) 4 (v := .int .i64 o.cool.lo) rfl
      have x5 := fun ob => blk_cell (alloc_blk b1 ob) 5 (v := .int .i64 o.cool.hi) rfl
      have x6 := fun ob => blk_cell (alloc_blk b1 ob) 6 (v := .int .i64 temp.lo) rfl
      have x7 := fun ob => blk_cell (alloc_blk b1 ob) 7 (v := .int .i64 temp.hi) rfl
      have x8 := fun ob => blk_cell (alloc_blk b1 ob) 8 (v := .bool heats) rfl
      have x9 := fun ob => blk_cell (alloc_blk b1 ob) 9 (v := .int .i64 M) rfl
      have HB := Lib.hid (And.intro b0 b1)
      clear E1 ho1 b0 b1
      go_wp2_with fail
      refine (hk1 _).mono ?_
      rintro e w2 ⟨rfl, E2⟩
      have EW2 := EW.comp E2.old
      have b0 := (E2.block _ (Array.getElem?_eq_some_iff.1 (alloc_blk HB.out.1 (.cells #[.int .i64 lo, .int .i64 hi] 49))).1).trans (alloc_blk HB.out.1 _)
      have b1 := (E2.block _ (Array.getElem?_eq_some_iff.1 (alloc_blk HB.out.2 (.cells #[.int .i64 lo, .int .i64 hi] 49))).1).trans (alloc_blk HB.out.2 _)
      have b3 : w2.heap[w1.heap.size]? = some (.cells #[.int .i64 lo, .int .i64 hi] 49 (0, 0)) := (E2.block w1.heap.size (by simp)).trans (heap_alloc_new w1 _)
      clear hk1 HB E2 EW l0 l1 l2 l3 l4 l5 x0 x1 x2 x3 x4 x5 x6 x7 x8 x9
      have l0 := blk_cell b0 0 (v := .int .i64 l.words) rfl
      have l1 := blk_cell b0 1 (v := .int .i64 l.bits) rfl
      have l2 := blk_cell b0 2 (v := .int .i64 l.period) rfl
      have l3 := blk_cell b0 3 (v := .int .i64 l.delay) rfl
      have l4 := blk_cell b0 4 (v := .int .i64 l.slope) rfl
      have l5 := blk_cell b0 5 (v := .int .i64 l.window) rfl
      go_wp2_with fail
      refine (hs1 _).mono ?_
      rintro e w3 ⟨rfl, E3⟩
      have EW3 := EW2.comp E3
      have d1 := (E3.block _ (Array.getElem?_eq_some_iff.1 b1).1).trans b1
      have d3 := (E3.block _ (Array.getElem?_eq_some_iff.1 b3).1).trans b3
      clear EW2 E3 b0 b1 b3 hs1 l0 l1 l2 l3 l4 l5
      clear d1 d3
      go_wp2_with fail
      refine (awake_any _).mono ?_
      rintro e w4 ⟨rfl, E4⟩
      go_wp2
      go_ret
      exact ⟨rfl, EW3.comp E4.old⟩
    | cons x0 xs' =>
      have h0n : 0 < n := by rw [← hl]; simp
      have HH := Lib.hid (And.intro H1 (And.intro H2 H3))
      generalize hxx : x0 :: xs' = xs at *
      have hI : ∃ b off, a = some ⟨b, off, none⟩ ∧ b < w.heap.size ∧ ∀ i, i < xs.length → w.cell? ⟨b, off + i, none⟩ = some (.int .u8 (xs[i]?.getD 0)) := hI.elim (fun h => by rw [h] at hl; simp at hl; omega) id
      clear hxx H1 H2 H3
      go_enter Try.func17, Try.ntmps17
      go_wp2_with fail
      refine (ho1 _).mono ?_
      rintro e w1 ⟨rfl, E1⟩
      obtain ⟨b0, b1⟩ := two_boxes E1
      have EW := E1.old.old
      have l0 := fun ob => blk_cell (alloc_blk b0 ob) 0 (v := .int .i64 l.words) rfl
      have l1 := fun ob => blk_cell (alloc_blk b0 ob) 1 (v := .int .i64 l.bits) rfl
      have l2 := fun ob => blk_cell (alloc_blk b0 ob) 2 (v := .int .i64 l.period) rfl
      have l3 := fun ob => blk_cell (alloc_blk b0 ob) 3 (v := .int .i64 l.delay) rfl
      have l4 := fun ob => blk_cell (alloc_blk b0 ob) 4 (v := .int .i64 l.slope) rfl
      have l5 := fun ob => blk_cell (alloc_blk b0 ob) 5 (v := .int .i64 l.window) rfl
      have x0 := fun ob => blk_cell (alloc_blk b1 ob) 0 (v := .int .i64 o.low) rfl
      have x1 := fun ob => blk_cell (alloc_blk b1 ob) 1 (v := .int .i64 o.high) rfl
      have x2 := fun ob => blk_cell (alloc_blk b1 ob) 2 (v := .int .i64 o.warm.lo) rfl
      have x3 := fun ob => blk_cell (alloc_blk b1 ob) 3 (v := .int .i64 o.warm.hi) rfl
      have x4 := fun ob => blk_cell (alloc_blk b1 ob) 4 (v := .int .i64 o.cool.lo) rfl
      have x5 := fun ob => blk_cell (alloc_blk b1 ob) 5 (v := .int .i64 o.cool.hi) rfl
      have x6 := fun ob => blk_cell (alloc_blk b1 ob) 6 (v := .int .i64 temp.lo) rfl
      have x7 := fun ob => blk_cell (alloc_blk b1 ob) 7 (v := .int .i64 temp.hi) rfl
      have x8 := fun ob => blk_cell (alloc_blk b1 ob) 8 (v := .bool heats) rfl
      have x9 := fun ob => blk_cell (alloc_blk b1 ob) 9 (v := .int .i64 M) rfl
      have HB := Lib.hid (And.intro b0 b1)
      clear E1 ho1 b0 b1
      go_wp2_with fail
      refine (hk1 _).mono ?_
      rintro e w2 ⟨rfl, E2⟩
      have EW2 := EW.comp E2.old
      have b0 := (E2.block _ (Array.getElem?_eq_some_iff.1 (alloc_blk HB.out.1 (.cells #[.int .i64 lo, .int .i64 hi] 49))).1).trans (alloc_blk HB.out.1 _)
      have b1 := (E2.block _ (Array.getElem?_eq_some_iff.1 (alloc_blk HB.out.2 (.cells #[.int .i64 lo, .int .i64 hi] 49))).1).trans (alloc_blk HB.out.2 _)
      have b3 : w2.heap[w1.heap.size]? = some (.cells #[.int .i64 lo, .int .i64 hi] 49 (0, 0)) := (E2.block w1.heap.size (by simp)).trans (heap_alloc_new w1 _)
      clear hk1 HB E2 EW l0 l1 l2 l3 l4 l5 x0 x1 x2 x3 x4 x5 x6 x7 x8 x9
      have l0 := blk_cell b0 0 (v := .int .i64 l.words) rfl
      have l1 := blk_cell b0 1 (v := .int .i64 l.bits) rfl
      have l2 := blk_cell b0 2 (v := .int .i64 l.period) rfl
      have l3 := blk_cell b0 3 (v := .int .i64 l.delay) rfl
      have l4 := blk_cell b0 4 (v := .int .i64 l.slope) rfl
      have l5 := blk_cell b0 5 (v := .int .i64 l.window) rfl
      go_wp2_with fail
      refine (hs1 _).mono ?_
      rintro e w3 ⟨rfl, E3⟩
      have EW3 := EW2.comp E3
      have d1 := (E3.block _ (Array.getElem?_eq_some_iff.1 b1).1).trans b1
      have d3 := (E3.block _ (Array.getElem?_eq_some_iff.1 b3).1).trans b3
      clear EW2 E3 b0 b1 b3 hs1 l0 l1 l2 l3 l4 l5
      have x0 := fun ob => blk_cell (alloc_blk d1 ob) 0 (v := .int .i64 o.low) rfl
      have x1 := fun ob => blk_cell (alloc_blk d1 ob) 1 (v := .int .i64 o.high) rfl
      have x2 := fun ob => blk_cell (alloc_blk d1 ob) 2 (v := .int .i64 o.warm.lo) rfl
      have x3 := fun ob => blk_cell (alloc_blk d1 ob) 3 (v := .int .i64 o.warm.hi) rfl
      have x4 := fun ob => blk_cell (alloc_blk d1 ob) 4 (v := .int .i64 o.cool.lo) rfl
      have x5 := fun ob => blk_cell (alloc_blk d1 ob) 5 (v := .int .i64 o.cool.hi) rfl
      have x6 := fun ob => blk_cell (alloc_blk d1 ob) 6 (v := .int .i64 temp.lo) rfl
      have x7 := fun ob => blk_cell (alloc_blk d1 ob) 7 (v := .int .i64 temp.hi) rfl
      have x8 := fun ob => blk_cell (alloc_blk d1 ob) 8 (v := .bool heats) rfl
      have x9 := fun ob => blk_cell (alloc_blk d1 ob) 9 (v := .int .i64 M) rfl
      obtain ⟨b, off, rfl, hb, hc⟩ := hI
      have h0z : (0 : Int) < (n : Int) := by omega
      have hc3 : ∀ i, i < xs.length → w3.cell? ⟨b, off + i, none⟩ = some (.int .u8 (xs[i]?.getD 0)) := fun i hi => (EW3.cell (p := ⟨b, off + i, none⟩) hb).trans (hc i hi)
      have hb3 : b < w3.heap.size := by have := EW3.size; omega
      clear hc hb
      go_wp2_with fail
      have dS : (w3.alloc (.cells #[.int .i64 slo, .int .i64 shi] 49)).heap[w3.heap.size]? = some (.cells #[.int .i64 slo, .int .i64 shi] 49 (0, 0)) := heap_alloc_new w3 _
      have EY : Ext w (w3.alloc (.cells #[.int .i64 slo, .int .i64 shi] 49)) := EW3.alloc _
      have dx := alloc_blk d1 (.cells #[.int .i64 slo, .int .i64 shi] 49)
      have ds := alloc_blk d3 (.cells #[.int .i64 slo, .int .i64 shi] 49)
      have hcY : ∀ i, i < xs.length → (w3.alloc (.cells #[.int .i64 slo, .int .i64 shi] 49)).cell? ⟨b, off + i, none⟩ = some (.int .u8 (xs[i]?.getD 0)) := fun i hi => (((Ext.refl w3).alloc _).cell (p := ⟨b, off + i, none⟩) hb3).trans (hc3 i hi)
      have hbY : b < (w3.alloc (.cells #[.int .i64 slo, .int .i64 shi] 49)).heap.size := by simp; omega
      clear hc3 hb3 d1 d3 x0 x1 x2 x3 x4 x5 x6 x7 x8 x9
      obtain ⟨Bs, hBs⟩ : ∃ Bs, w1.heap.size = Bs := ⟨_, rfl⟩
      obtain ⟨Bf, hBf⟩ : ∃ Bf, w3.heap.size = Bf := ⟨_, rfl⟩
      rw [hBs] at ds ⊢
      rw [hBf] at dS ⊢
      generalize w3.alloc (.cells #[.int .i64 slo, .int .i64 shi] 49) = Y at dx ds dS hcY hbY EY ⊢
      clear EW3 hBs hBf
      have y6 := blk_cell dx 6 (v := .int .i64 temp.lo) rfl
      have y7 := blk_cell dx 7 (v := .int .i64 temp.hi) rfl
      have y8 := blk_cell dx 8 (v := .bool heats) rfl
      obtain ⟨z0, hz0⟩ : ∃ z0, xs[0]?.getD 0 = z0 := ⟨_, rfl⟩
      have yb := hcY 0 (by omega)
      rw [hz0, Nat.add_zero] at yb
      have hzb : 0 ≤ z0 ∧ z0 ≤ 255 := by rw [← hz0]; exact hxs _ (by rw [List.getElem?_eq_getElem (by omega)]; exact List.getElem_mem _)
      have ham := fun W => among2_any temp z0 W t0 t1 t2 hzb
      have HX := Lib.hid hxs
      have HC := Lib.hid hcY
      have HDX := Lib.hid (And.intro dx (And.intro ds dS))
      have HEY := Lib.hid EY
      clear hxs hcY dx ds dS EY
      go_region_held3 (fun w' => Ext Y w' ∧ w'.cell? ⟨w.heap.size + 1, 6, none⟩ = some (.int .i64 temp.lo) ∧ w'.cell? ⟨w.heap.size + 1, 7, none⟩ = some (.int .i64 temp.hi) ∧ w'.cell? ⟨w.heap.size + 1, 8, none⟩ = some (.bool heats) ∧ w'.cell? ⟨b, off, none⟩ = some (.int .u8 z0))
        (first | exact ⟨(Ext.refl Y).drew, y6, y7, y8, yb⟩ | exact four_later ⟨(Ext.refl Y).drew, y6, y7, y8, yb⟩ hb' | exact four_later (by assumption) hb')
        (first | (go_at_call 35; refine (ham _).mono ?_; rintro e w' ⟨rfl, hb'⟩))
      have EW' := (‹Ext Y _ ∧ _ ∧ _ ∧ _ ∧ _›).1
      go_wp2
      go_loopw [13, 14, 15] (fun s13 s14 s15 X => ∃ (m : Nat) (t : Int) (h : Bool), m ≤ M + 1 ∧ s13 = .int .i64 t ∧ s14 = .bool h ∧ s15 = .int .i64 (m : Int) ∧ Aside ((t, h) ∈ statesO o temp heats m) ∧ Ext Y X) (fun _ _ s15 _ => (M + 1 : Int).toNat - (Go.RowKit.intOf s15).toNat)
      case atStart => exact ⟨0, amongO temp z0, heats, by omega, rfl, rfl, rfl, states_zero.2 ⟨amongO_in t1 (by omega) hzb, rfl⟩, EW'⟩
      case round =>
        clear ham yb y6 y7 y8 hz0 EW'
        obtain ⟨m, t, h, hm, rfl, rfl, rfl, HS, EX⟩ := hrel
        obtain ⟨X, rfl⟩ : ∃ X : World, X = wr := ⟨_, rfl⟩
        have hin := HS.out
        have bx := (EX.block _ (Array.getElem?_eq_some_iff.1 HDX.out.1).1).trans HDX.out.1
        have bs := (EX.block _ (Array.getElem?_eq_some_iff.1 HDX.out.2.1).1).trans HDX.out.2.1
        have bf := (EX.block _ (Array.getElem?_eq_some_iff.1 HDX.out.2.2).1).trans HDX.out.2.2
        have x0 := blk_cell bx 0 (v := .int .i64 o.low) rfl
        have x1 := blk_cell bx 1 (v := .int .i64 o.high) rfl
        have x2 := blk_cell bx 2 (v := .int .i64 o.warm.lo) rfl
        have x3 := blk_cell bx 3 (v := .int .i64 o.warm.hi) rfl
        have x4 := blk_cell bx 4 (v := .int .i64 o.cool.lo) rfl
        have x5 := blk_cell bx 5 (v := .int .i64 o.cool.hi) rfl
        have x6 := blk_cell bx 6 (v := .int .i64 temp.lo) rfl
        have x7 := blk_cell bx 7 (v := .int .i64 temp.hi) rfl
        have x8 := blk_cell bx 8 (v := .bool heats) rfl
        have x9 := blk_cell bx 9 (v := .int .i64 M) rfl
        have s0 := blk_cell bs 0 (v := .int .i64 lo) rfl
        have s1 := blk_cell bs 1 (v := .int .i64 hi) rfl
        have r0 := blk_cell bf 0 (v := .int .i64 slo) rfl
        have r1 := blk_cell bf 1 (v := .int .i64 shi) rfl
        by_cases hmM : m ≤ M
        · have hmz : (m : Int) ≤ (M : Int) := by omega
          obtain ⟨g1, g2⟩ := HH.out.1 m hmM _ hin
          have n1 : ¬ t < lo := by dsimp only at g1; omega
          have n2 : ¬ hi < t := by dsimp only at g2; omega
          by_cases hf : f = 0
          · by_cases hk : k < 0
            · obtain ⟨g3, g4, g5⟩ := HH.out.2.2 hf m hmM (.inl hk) _ hin
              dsimp only at g4 g5
              subst hf
              subst g3
              have n3 : ¬ t < slo := by omega
              have n4 : ¬ shi < t := by omega
              rcases heats_ways o t h with ⟨h1, hheat⟩ | ⟨h1, h2, rfl, hheat⟩ | ⟨h1, h2, rfl, hheat⟩ | ⟨h1, h2, hheat⟩
              · obtain ⟨xp, hxp⟩ : ∃ xp, xs[(m + 1) % n]?.getD 0 = xp := ⟨_, rfl⟩
                have hpn : (m + 1) % n < n := Nat.mod_lt _ h0n
                have hq0 : (0 : Int) ≤ ((m : Int) + 1) % (n : Int) := Int.emod_nonneg _ (by omega)
                have hq1 : ((m : Int) + 1) % (n : Int) < (n : Int) := Int.emod_lt_of_pos _ h0z
                have yp : X.cell? ⟨b, off + (m + 1) % n, none⟩ = some (.int .u8 xp) := by rw [← hxp]; exact (EX.cell (p := ⟨b, off + (m + 1) % n, none⟩) hbY).trans (HC.out _ (by omega))
                have hxb : 0 ≤ xp ∧ xp ≤ 255 := by rw [← hxp]; exact HX.out _ (by rw [List.getElem?_eq_getElem (by omega)]; exact List.getElem_mem _)
                obtain ⟨a1, a2, a3, a4, a5⟩ := ho
                have hav := amongO_in (s := o.warm) (n := xp) a4.2.1 (by omega) hxb
                have hst := state_next hin (n := amongO o.warm xp) (by rw [hheat]; simpa using hav)
                rw [hheat] at hst
                have hbd := statesO_bd ⟨a1, a2, a3, a4, a5⟩ (by omega) _ _ hin
                dsimp only at hbd
                have wr : IntKind.i64.wrap (t + amongO o.warm xp) = t + amongO o.warm xp := IntWalk.i64_in _ (by omega)
                have ham := fun W => among2_any o.warm xp W (by omega) (by omega) (by omega) hxb
                have HST := Lib.hid hst
                have HHE := Lib.hid hheat
                clear hst hheat hxp hin hav hbd hxb g1 g2 bx bs bf
                go_wp2_with fail
                refine (ham _).mono ?_
                rintro e w5 ⟨rfl, E5⟩
                go_wp2
                go_roundw
                case rel => exact ⟨m + 1, t + amongO o.warm xp, true, by omega, rfl, rfl, by go_num, HST.out, EX.comp E5⟩
                case measure => simp [Go.RowKit.intOf]; omega
              · obtain ⟨xp, hxp⟩ : ∃ xp, xs[(m + 1) % n]?.getD 0 = xp := ⟨_, rfl⟩
                have hpn : (m + 1) % n < n := Nat.mod_lt _ h0n
                have hq0 : (0 : Int) ≤ ((m : Int) + 1) % (n : Int) := Int.emod_nonneg _ (by omega)
                have hq1 : ((m : Int) + 1) % (n : Int) < (n : Int) := Int.emod_lt_of_pos _ h0z
                have yp : X.cell? ⟨b, off + (m + 1) % n, none⟩ = some (.int .u8 xp) := by rw [← hxp]; exact (EX.cell (p := ⟨b, off + (m + 1) % n, none⟩) hbY).trans (HC.out _ (by omega))
                have hxb : 0 ≤ xp ∧ xp ≤ 255 := by rw [← hxp]; exact HX.out _ (by rw [List.getElem?_eq_getElem (by omega)]; exact List.getElem_mem _)
                obtain ⟨a1, a2, a3, a4, a5⟩ := ho
                have hav := amongO_in (s := o.warm) (n := xp) a4.2.1 (by omega) hxb
                have hst := state_next hin (n := amongO o.warm xp) (by rw [hheat]; simpa using hav)
                rw [hheat] at hst
                have hbd := statesO_bd ⟨a1, a2, a3, a4, a5⟩ (by omega) _ _ hin
                dsimp only at hbd
                have wr : IntKind.i64.wrap (t + amongO o.warm xp) = t + amongO o.warm xp := IntWalk.i64_in _ (by omega)
                have ham := fun W => among2_any o.warm xp W (by omega) (by omega) (by omega) hxb
                have HST := Lib.hid hst
                have HHE := Lib.hid hheat
                clear hst hheat hxp hin hav hbd hxb g1 g2 bx bs bf
                go_wp2_with fail
                refine (ham _).mono ?_
                rintro e w5 ⟨rfl, E5⟩
                go_wp2
                go_roundw
                case rel => exact ⟨m + 1, t + amongO o.warm xp, true, by omega, rfl, rfl, by go_num, HST.out, EX.comp E5⟩
                case measure => simp [Go.RowKit.intOf]; omega
              · obtain ⟨xp, hxp⟩ : ∃ xp, xs[(m + 1) % n]?.getD 0 = xp := ⟨_, rfl⟩
                have hpn : (m + 1) % n < n := Nat.mod_lt _ h0n
                have hq0 : (0 : Int) ≤ ((m : Int) + 1) % (n : Int) := Int.emod_nonneg _ (by omega)
                have hq1 : ((m : Int) + 1) % (n : Int) < (n : Int) := Int.emod_lt_of_pos _ h0z
                have yp : X.cell? ⟨b, off + (m + 1) % n, none⟩ = some (.int .u8 xp) := by rw [← hxp]; exact (EX.cell (p := ⟨b, off + (m + 1) % n, none⟩) hbY).trans (HC.out _ (by omega))
                have hxb : 0 ≤ xp ∧ xp ≤ 255 := by rw [← hxp]; exact HX.out _ (by rw [List.getElem?_eq_getElem (by omega)]; exact List.getElem_mem _)
                obtain ⟨a1, a2, a3, a4, a5⟩ := ho
                have hav := amongO_in (s := o.cool) (n := xp) a5.2.1 (by omega) hxb
                have hst := state_next hin (n := amongO o.cool xp) (by rw [hheat]; simpa using hav)
                rw [hheat] at hst
                have hbd := statesO_bd ⟨a1, a2, a3, a4, a5⟩ (by omega) _ _ hin
                dsimp only at hbd
                have wr : IntKind.i64.wrap (t - amongO o.cool xp) = t - amongO o.cool xp := IntWalk.i64_in _ (by omega)
                have ham := fun W => among2_any o.cool xp W (by omega) (by omega) (by omega) hxb
                have HST := Lib.hid hst
                have HHE := Lib.hid hheat
                clear hst hheat hxp hin hav hbd hxb g1 g2 bx bs bf
                go_wp2_with fail
                refine (ham _).mono ?_
                rintro e w5 ⟨rfl, E5⟩
                go_wp2
                go_roundw
                case rel => exact ⟨m + 1, t - amongO o.cool xp, false, by omega, rfl, rfl, by go_num, HST.out, EX.comp E5⟩
                case measure => simp [Go.RowKit.intOf]; omega
              · obtain ⟨xp, hxp⟩ : ∃ xp, xs[(m + 1) % n]?.getD 0 = xp := ⟨_, rfl⟩
                have hpn : (m + 1) % n < n := Nat.mod_lt _ h0n
                have hq0 : (0 : Int) ≤ ((m : Int) + 1) % (n : Int) := Int.emod_nonneg _ (by omega)
                have hq1 : ((m : Int) + 1) % (n : Int) < (n : Int) := Int.emod_lt_of_pos _ h0z
                have yp : X.cell? ⟨b, off + (m + 1) % n, none⟩ = some (.int .u8 xp) := by rw [← hxp]; exact (EX.cell (p := ⟨b, off + (m + 1) % n, none⟩) hbY).trans (HC.out _ (by omega))
                have hxb : 0 ≤ xp ∧ xp ≤ 255 := by rw [← hxp]; exact HX.out _ (by rw [List.getElem?_eq_getElem (by omega)]; exact List.getElem_mem _)
                obtain ⟨a1, a2, a3, a4, a5⟩ := ho
                have hav := amongO_in (s := o.cool) (n := xp) a5.2.1 (by omega) hxb
                have hst := state_next hin (n := amongO o.cool xp) (by rw [hheat]; simpa using hav)
                rw [hheat] at hst
                have hbd := statesO_bd ⟨a1, a2, a3, a4, a5⟩ (by omega) _ _ hin
                dsimp only at hbd
                have wr : IntKind.i64.wrap (t - amongO o.cool xp) = t - amongO o.cool xp := IntWalk.i64_in _ (by omega)
                have ham := fun W => among2_any o.cool xp W (by omega) (by omega) (by omega) hxb
                have HST := Lib.hid hst
                have HHE := Lib.hid hheat
                clear hst hheat hxp hin hav hbd hxb g1 g2 bx bs bf
                go_wp2_with fail
                refine (ham _).mono ?_
                rintro e w5 ⟨rfl, E5⟩
                go_wp2
                go_roundw
                case rel => exact ⟨m + 1, t - amongO o.cool xp, false, by omega, rfl, rfl, by go_num, HST.out, EX.comp E5⟩
                case measure => simp [Go.RowKit.intOf]; omega
            · by_cases hmk : (m : Int) < k
              · obtain ⟨g3, g4, g5⟩ := HH.out.2.2 hf m hmM (.inr hmk) _ hin
                dsimp only at g4 g5
                subst hf
                subst g3
                have n3 : ¬ t < slo := by omega
                have n4 : ¬ shi < t := by omega
                rcases heats_ways o t h with ⟨h1, hheat⟩ | ⟨h1, h2, rfl, hheat⟩ | ⟨h1, h2, rfl, hheat⟩ | ⟨h1, h2, hheat⟩
                · obtain ⟨xp, hxp⟩ : ∃ xp, xs[(m + 1) % n]?.getD 0 = xp := ⟨_, rfl⟩
                  have hpn : (m + 1) % n < n := Nat.mod_lt _ h0n
                  have hq0 : (0 : Int) ≤ ((m : Int) + 1) % (n : Int) := Int.emod_nonneg _ (by omega)
                  have hq1 : ((m : Int) + 1) % (n : Int) < (n : Int) := Int.emod_lt_of_pos _ h0z
                  have yp : X.cell? ⟨b, off + (m + 1) % n, none⟩ = some (.int .u8 xp) := by rw [← hxp]; exact (EX.cell (p := ⟨b, off + (m + 1) % n, none⟩) hbY).trans (HC.out _ (by omega))
                  have hxb : 0 ≤ xp ∧ xp ≤ 255 := by rw [← hxp]; exact HX.out _ (by rw [List.getElem?_eq_getElem (by omega)]; exact List.getElem_mem _)
                  obtain ⟨a1, a2, a3, a4, a5⟩ := ho
                  have hav := amongO_in (s := o.warm) (n := xp) a4.2.1 (by omega) hxb
                  have hst := state_next hin (n := amongO o.warm xp) (by rw [hheat]; simpa using hav)
                  rw [hheat] at hst
                  have hbd := statesO_bd ⟨a1, a2, a3, a4, a5⟩ (by omega) _ _ hin
                  dsimp only at hbd
                  have wr : IntKind.i64.wrap (t + amongO o.warm xp) = t + amongO o.warm xp := IntWalk.i64_in _ (by omega)
                  have ham := fun W => among2_any o.warm xp W (by omega) (by omega) (by omega) hxb
                  have HST := Lib.hid hst
                  have HHE := Lib.hid hheat
                  clear hst hheat hxp hin hav hbd hxb g1 g2 bx bs bf
                  go_wp2_with fail
                  refine (ham _).mono ?_
                  rintro e w5 ⟨rfl, E5⟩
                  go_wp2
                  go_roundw
                  case rel => exact ⟨m + 1, t + amongO o.warm xp, true, by omega, rfl, rfl, by go_num, HST.out, EX.comp E5⟩
                  case measure => simp [Go.RowKit.intOf]; omega
                · obtain ⟨xp, hxp⟩ : ∃ xp, xs[(m + 1) % n]?.getD 0 = xp := ⟨_, rfl⟩
                  have hpn : (m + 1) % n < n := Nat.mod_lt _ h0n
                  have hq0 : (0 : Int) ≤ ((m : Int) + 1) % (n : Int) := Int.emod_nonneg _ (by omega)
                  have hq1 : ((m : Int) + 1) % (n : Int) < (n : Int) := Int.emod_lt_of_pos _ h0z
                  have yp : X.cell? ⟨b, off + (m + 1) % n, none⟩ = some (.int .u8 xp) := by rw [← hxp]; exact (EX.cell (p := ⟨b, off + (m + 1) % n, none⟩) hbY).trans (HC.out _ (by omega))
                  have hxb : 0 ≤ xp ∧ xp ≤ 255 := by rw [← hxp]; exact HX.out _ (by rw [List.getElem?_eq_getElem (by omega)]; exact List.getElem_mem _)
                  obtain ⟨a1, a2, a3, a4, a5⟩ := ho
                  have hav := amongO_in (s := o.warm) (n := xp) a4.2.1 (by omega) hxb
                  have hst := state_next hin (n := amongO o.warm xp) (by rw [hheat]; simpa using hav)
                  rw [hheat] at hst
                  have hbd := statesO_bd ⟨a1, a2, a3, a4, a5⟩ (by omega) _ _ hin
                  dsimp only at hbd
                  have wr : IntKind.i64.wrap (t + amongO o.warm xp) = t + amongO o.warm xp := IntWalk.i64_in _ (by omega)
                  have ham := fun W => among2_any o.warm xp W (by omega) (by omega) (by omega) hxb
                  have HST := Lib.hid hst
                  have HHE := Lib.hid hheat
                  clear hst hheat hxp hin hav hbd hxb g1 g2 bx bs bf
                  go_wp2_with fail
                  refine (ham _).mono ?_
                  rintro e w5 ⟨rfl, E5⟩
                  go_wp2
                  go_roundw
                  case rel => exact ⟨m + 1, t + amongO o.warm xp, true, by omega, rfl, rfl, by go_num, HST.out, EX.comp E5⟩
                  case measure => simp [Go.RowKit.intOf]; omega
                · obtain ⟨xp, hxp⟩ : ∃ xp, xs[(m + 1) % n]?.getD 0 = xp := ⟨_, rfl⟩
                  have hpn : (m + 1) % n < n := Nat.mod_lt _ h0n
                  have hq0 : (0 : Int) ≤ ((m : Int) + 1) % (n : Int) := Int.emod_nonneg _ (by omega)
                  have hq1 : ((m : Int) + 1) % (n : Int) < (n : Int) := Int.emod_lt_of_pos _ h0z
                  have yp : X.cell? ⟨b, off + (m + 1) % n, none⟩ = some (.int .u8 xp) := by rw [← hxp]; exact (EX.cell (p := ⟨b, off + (m + 1) % n, none⟩) hbY).trans (HC.out _ (by omega))
                  have hxb : 0 ≤ xp ∧ xp ≤ 255 := by rw [← hxp]; exact HX.out _ (by rw [List.getElem?_eq_getElem (by omega)]; exact List.getElem_mem _)
                  obtain ⟨a1, a2, a3, a4, a5⟩ := ho
                  have hav := amongO_in (s := o.cool) (n := xp) a5.2.1 (by omega) hxb
                  have hst := state_next hin (n := amongO o.cool xp) (by rw [hheat]; simpa using hav)
                  rw [hheat] at hst
                  have hbd := statesO_bd ⟨a1, a2, a3, a4, a5⟩ (by omega) _ _ hin
                  dsimp only at hbd
                  have wr : IntKind.i64.wrap (t - amongO o.cool xp) = t - amongO o.cool xp := IntWalk.i64_in _ (by omega)
                  have ham := fun W => among2_any o.cool xp W (by omega) (by omega) (by omega) hxb
                  have HST := Lib.hid hst
                  have HHE := Lib.hid hheat
                  clear hst hheat hxp hin hav hbd hxb g1 g2 bx bs bf
                  go_wp2_with fail
                  refine (ham _).mono ?_
                  rintro e w5 ⟨rfl, E5⟩
                  go_wp2
                  go_roundw
                  case rel => exact ⟨m + 1, t - amongO o.cool xp, false, by omega, rfl, rfl, by go_num, HST.out, EX.comp E5⟩
                  case measure => simp [Go.RowKit.intOf]; omega
                · obtain ⟨xp, hxp⟩ : ∃ xp, xs[(m + 1) % n]?.getD 0 = xp := ⟨_, rfl⟩
                  have hpn : (m + 1) % n < n := Nat.mod_lt _ h0n
                  have hq0 : (0 : Int) ≤ ((m : Int) + 1) % (n : Int) := Int.emod_nonneg _ (by omega)
                  have hq1 : ((m : Int) + 1) % (n : Int) < (n : Int) := Int.emod_lt_of_pos _ h0z
                  have yp : X.cell? ⟨b, off + (m + 1) % n, none⟩ = some (.int .u8 xp) := by rw [← hxp]; exact (EX.cell (p := ⟨b, off + (m + 1) % n, none⟩) hbY).trans (HC.out _ (by omega))
                  have hxb : 0 ≤ xp ∧ xp ≤ 255 := by rw [← hxp]; exact HX.out _ (by rw [List.getElem?_eq_getElem (by omega)]; exact List.getElem_mem _)
                  obtain ⟨a1, a2, a3, a4, a5⟩ := ho
                  have hav := amongO_in (s := o.cool) (n := xp) a5.2.1 (by omega) hxb
                  have hst := state_next hin (n := amongO o.cool xp) (by rw [hheat]; simpa using hav)
                  rw [hheat] at hst
                  have hbd := statesO_bd ⟨a1, a2, a3, a4, a5⟩ (by omega) _ _ hin
                  dsimp only at hbd
                  have wr : IntKind.i64.wrap (t - amongO o.cool xp) = t - amongO o.cool xp := IntWalk.i64_in _ (by omega)
                  have ham := fun W => among2_any o.cool xp W (by omega) (by omega) (by omega) hxb
                  have HST := Lib.hid hst
                  have HHE := Lib.hid hheat
                  clear hst hheat hxp hin hav hbd hxb g1 g2 bx bs bf
                  go_wp2_with fail
                  refine (ham _).mono ?_
                  rintro e w5 ⟨rfl, E5⟩
                  go_wp2
                  go_roundw
                  case rel => exact ⟨m + 1, t - amongO o.cool xp, false, by omega, rfl, rfl, by go_num, HST.out, EX.comp E5⟩
                  case measure => simp [Go.RowKit.intOf]; omega
              · subst hf
                rcases heats_ways o t h with ⟨h1, hheat⟩ | ⟨h1, h2, rfl, hheat⟩ | ⟨h1, h2, rfl, hheat⟩ | ⟨h1, h2, hheat⟩
                · obtain ⟨xp, hxp⟩ : ∃ xp, xs[(m + 1) % n]?.getD 0 = xp := ⟨_, rfl⟩
                  have hpn : (m + 1) % n < n := Nat.mod_lt _ h0n
                  have hq0 : (0 : Int) ≤ ((m : Int) + 1) % (n : Int) := Int.emod_nonneg _ (by omega)
                  have hq1 : ((m : Int) + 1) % (n : Int) < (n : Int) := Int.emod_lt_of_pos _ h0z
                  have yp : X.cell? ⟨b, off + (m + 1) % n, none⟩ = some (.int .u8 xp) := by rw [← hxp]; exact (EX.cell (p := ⟨b, off + (m + 1) % n, none⟩) hbY).trans (HC.out _ (by omega))
                  have hxb : 0 ≤ xp ∧ xp ≤ 255 := by rw [← hxp]; exact HX.out _ (by rw [List.getElem?_eq_getElem (by omega)]; exact List.getElem_mem _)
                  obtain ⟨a1, a2, a3, a4, a5⟩ := ho
                  have hav := amongO_in (s := o.warm) (n := xp) a4.2.1 (by omega) hxb
                  have hst := state_next hin (n := amongO o.warm xp) (by rw [hheat]; simpa using hav)
                  rw [hheat] at hst
                  have hbd := statesO_bd ⟨a1, a2, a3, a4, a5⟩ (by omega) _ _ hin
                  dsimp only at hbd
                  have wr : IntKind.i64.wrap (t + amongO o.warm xp) = t + amongO o.warm xp := IntWalk.i64_in _ (by omega)
                  have ham := fun W => among2_any o.warm xp W (by omega) (by omega) (by omega) hxb
                  have HST := Lib.hid hst
                  have HHE := Lib.hid hheat
                  clear hst hheat hxp hin hav hbd hxb g1 g2 bx bs bf
                  go_wp2_with fail
                  refine (ham _).mono ?_
                  rintro e w5 ⟨rfl, E5⟩
                  go_wp2
                  go_roundw
                  case rel => exact ⟨m + 1, t + amongO o.warm xp, true, by omega, rfl, rfl, by go_num, HST.out, EX.comp E5⟩
                  case measure => simp [Go.RowKit.intOf]; omega
                · obtain ⟨xp, hxp⟩ : ∃ xp, xs[(m + 1) % n]?.getD 0 = xp := ⟨_, rfl⟩
                  have hpn : (m + 1) % n < n := Nat.mod_lt _ h0n
                  have hq0 : (0 : Int) ≤ ((m : Int) + 1) % (n : Int) := Int.emod_nonneg _ (by omega)
                  have hq1 : ((m : Int) + 1) % (n : Int) < (n : Int) := Int.emod_lt_of_pos _ h0z
                  have yp : X.cell? ⟨b, off + (m + 1) % n, none⟩ = some (.int .u8 xp) := by rw [← hxp]; exact (EX.cell (p := ⟨b, off + (m + 1) % n, none⟩) hbY).trans (HC.out _ (by omega))
                  have hxb : 0 ≤ xp ∧ xp ≤ 255 := by rw [← hxp]; exact HX.out _ (by rw [List.getElem?_eq_getElem (by omega)]; exact List.getElem_mem _)
                  obtain ⟨a1, a2, a3, a4, a5⟩ := ho
                  have hav := amongO_in (s := o.warm) (n := xp) a4.2.1 (by omega) hxb
                  have hst := state_next hin (n := amongO o.warm xp) (by rw [hheat]; simpa using hav)
                  rw [hheat] at hst
                  have hbd := statesO_bd ⟨a1, a2, a3, a4, a5⟩ (by omega) _ _ hin
                  dsimp only at hbd
                  have wr : IntKind.i64.wrap (t + amongO o.warm xp) = t + amongO o.warm xp := IntWalk.i64_in _ (by omega)
                  have ham := fun W => among2_any o.warm xp W (by omega) (by omega) (by omega) hxb
                  have HST := Lib.hid hst
                  have HHE := Lib.hid hheat
                  clear hst hheat hxp hin hav hbd hxb g1 g2 bx bs bf
                  go_wp2_with fail
                  refine (ham _).mono ?_
                  rintro e w5 ⟨rfl, E5⟩
                  go_wp2
                  go_roundw
                  case rel => exact ⟨m + 1, t + amongO o.warm xp, true, by omega, rfl, rfl, by go_num, HST.out, EX.comp E5⟩
                  case measure => simp [Go.RowKit.intOf]; omega
                · obtain ⟨xp, hxp⟩ : ∃ xp, xs[(m + 1) % n]?.getD 0 = xp := ⟨_, rfl⟩
                  have hpn : (m + 1) % n < n := Nat.mod_lt _ h0n
                  have hq0 : (0 : Int) ≤ ((m : Int) + 1) % (n : Int) := Int.emod_nonneg _ (by omega)
                  have hq1 : ((m : Int) + 1) % (n : Int) < (n : Int) := Int.emod_lt_of_pos _ h0z
                  have yp : X.cell? ⟨b, off + (m + 1) % n, none⟩ = some (.int .u8 xp) := by rw [← hxp]; exact (EX.cell (p := ⟨b, off + (m + 1) % n, none⟩) hbY).trans (HC.out _ (by omega))
                  have hxb : 0 ≤ xp ∧ xp ≤ 255 := by rw [← hxp]; exact HX.out _ (by rw [List.getElem?_eq_getElem (by omega)]; exact List.getElem_mem _)
                  obtain ⟨a1, a2, a3, a4, a5⟩ := ho
                  have hav := amongO_in (s := o.cool) (n := xp) a5.2.1 (by omega) hxb
                  have hst := state_next hin (n := amongO o.cool xp) (by rw [hheat]; simpa using hav)
                  rw [hheat] at hst
                  have hbd := statesO_bd ⟨a1, a2, a3, a4, a5⟩ (by omega) _ _ hin
                  dsimp only at hbd
                  have wr : IntKind.i64.wrap (t - amongO o.cool xp) = t - amongO o.cool xp := IntWalk.i64_in _ (by omega)
                  have ham := fun W => among2_any o.cool xp W (by omega) (by omega) (by omega) hxb
                  have HST := Lib.hid hst
                  have HHE := Lib.hid hheat
                  clear hst hheat hxp hin hav hbd hxb g1 g2 bx bs bf
                  go_wp2_with fail
                  refine (ham _).mono ?_
                  rintro e w5 ⟨rfl, E5⟩
                  go_wp2
                  go_roundw
                  case rel => exact ⟨m + 1, t - amongO o.cool xp, false, by omega, rfl, rfl, by go_num, HST.out, EX.comp E5⟩
                  case measure => simp [Go.RowKit.intOf]; omega
                · obtain ⟨xp, hxp⟩ : ∃ xp, xs[(m + 1) % n]?.getD 0 = xp := ⟨_, rfl⟩
                  have hpn : (m + 1) % n < n := Nat.mod_lt _ h0n
                  have hq0 : (0 : Int) ≤ ((m : Int) + 1) % (n : Int) := Int.emod_nonneg _ (by omega)
                  have hq1 : ((m : Int) + 1) % (n : Int) < (n : Int) := Int.emod_lt_of_pos _ h0z
                  have yp : X.cell? ⟨b, off + (m + 1) % n, none⟩ = some (.int .u8 xp) := by rw [← hxp]; exact (EX.cell (p := ⟨b, off + (m + 1) % n, none⟩) hbY).trans (HC.out _ (by omega))
                  have hxb : 0 ≤ xp ∧ xp ≤ 255 := by rw [← hxp]; exact HX.out _ (by rw [List.getElem?_eq_getElem (by omega)]; exact List.getElem_mem _)
                  obtain ⟨a1, a2, a3, a4, a5⟩ := ho
                  have hav := amongO_in (s := o.cool) (n := xp) a5.2.1 (by omega) hxb
                  have hst := state_next hin (n := amongO o.cool xp) (by rw [hheat]; simpa using hav)
                  rw [hheat] at hst
                  have hbd := statesO_bd ⟨a1, a2, a3, a4, a5⟩ (by omega) _ _ hin
                  dsimp only at hbd
                  have wr : IntKind.i64.wrap (t - amongO o.cool xp) = t - amongO o.cool xp := IntWalk.i64_in _ (by omega)
                  have ham := fun W => among2_any o.cool xp W (by omega) (by omega) (by omega) hxb
                  have HST := Lib.hid hst
                  have HHE := Lib.hid hheat
                  clear hst hheat hxp hin hav hbd hxb g1 g2 bx bs bf
                  go_wp2_with fail
                  refine (ham _).mono ?_
                  rintro e w5 ⟨rfl, E5⟩
                  go_wp2
                  go_roundw
                  case rel => exact ⟨m + 1, t - amongO o.cool xp, false, by omega, rfl, rfl, by go_num, HST.out, EX.comp E5⟩
                  case measure => simp [Go.RowKit.intOf]; omega
          · have hfb : (f == 0) = false := by simp [hf]
            rcases heats_ways o t h with ⟨h1, hheat⟩ | ⟨h1, h2, rfl, hheat⟩ | ⟨h1, h2, rfl, hheat⟩ | ⟨h1, h2, hheat⟩
            · obtain ⟨xp, hxp⟩ : ∃ xp, xs[(m + 1) % n]?.getD 0 = xp := ⟨_, rfl⟩
              have hpn : (m + 1) % n < n := Nat.mod_lt _ h0n
              have hq0 : (0 : Int) ≤ ((m : Int) + 1) % (n : Int) := Int.emod_nonneg _ (by omega)
              have hq1 : ((m : Int) + 1) % (n : Int) < (n : Int) := Int.emod_lt_of_pos _ h0z
              have yp : X.cell? ⟨b, off + (m + 1) % n, none⟩ = some (.int .u8 xp) := by rw [← hxp]; exact (EX.cell (p := ⟨b, off + (m + 1) % n, none⟩) hbY).trans (HC.out _ (by omega))
              have hxb : 0 ≤ xp ∧ xp ≤ 255 := by rw [← hxp]; exact HX.out _ (by rw [List.getElem?_eq_getElem (by omega)]; exact List.getElem_mem _)
              obtain ⟨a1, a2, a3, a4, a5⟩ := ho
              have hav := amongO_in (s := o.warm) (n := xp) a4.2.1 (by omega) hxb
              have hst := state_next hin (n := amongO o.warm xp) (by rw [hheat]; simpa using hav)
              rw [hheat] at hst
              have hbd := statesO_bd ⟨a1, a2, a3, a4, a5⟩ (by omega) _ _ hin
              dsimp only at hbd
              have wr : IntKind.i64.wrap (t + amongO o.warm xp) = t + amongO o.warm xp := IntWalk.i64_in _ (by omega)
              have ham := fun W => among2_any o.warm xp W (by omega) (by omega) (by omega) hxb
              have HST := Lib.hid hst
              have HHE := Lib.hid hheat
              clear hst hheat hxp hin hav hbd hxb g1 g2 bx bs bf
              go_wp2_with fail
              refine (ham _).mono ?_
              rintro e w5 ⟨rfl, E5⟩
              go_wp2
              go_roundw
              case rel => exact ⟨m + 1, t + amongO o.warm xp, true, by omega, rfl, rfl, by go_num, HST.out, EX.comp E5⟩
              case measure => simp [Go.RowKit.intOf]; omega
            · obtain ⟨xp, hxp⟩ : ∃ xp, xs[(m + 1) % n]?.getD 0 = xp := ⟨_, rfl⟩
              have hpn : (m + 1) % n < n := Nat.mod_lt _ h0n
              have hq0 : (0 : Int) ≤ ((m : Int) + 1) % (n : Int) := Int.emod_nonneg _ (by omega)
              have hq1 : ((m : Int) + 1) % (n : Int) < (n : Int) := Int.emod_lt_of_pos _ h0z
              have yp : X.cell? ⟨b, off + (m + 1) % n, none⟩ = some (.int .u8 xp) := by rw [← hxp]; exact (EX.cell (p := ⟨b, off + (m + 1) % n, none⟩) hbY).trans (HC.out _ (by omega))
              have hxb : 0 ≤ xp ∧ xp ≤ 255 := by rw [← hxp]; exact HX.out _ (by rw [List.getElem?_eq_getElem (by omega)]; exact List.getElem_mem _)
              obtain ⟨a1, a2, a3, a4, a5⟩ := ho
              have hav := amongO_in (s := o.warm) (n := xp) a4.2.1 (by omega) hxb
              have hst := state_next hin (n := amongO o.warm xp) (by rw [hheat]; simpa using hav)
              rw [hheat] at hst
              have hbd := statesO_bd ⟨a1, a2, a3, a4, a5⟩ (by omega) _ _ hin
              dsimp only at hbd
              have wr : IntKind.i64.wrap (t + amongO o.warm xp) = t + amongO o.warm xp := IntWalk.i64_in _ (by omega)
              have ham := fun W => among2_any o.warm xp W (by omega) (by omega) (by omega) hxb
              have HST := Lib.hid hst
              have HHE := Lib.hid hheat
              clear hst hheat hxp hin hav hbd hxb g1 g2 bx bs bf
              go_wp2_with fail
              refine (ham _).mono ?_
              rintro e w5 ⟨rfl, E5⟩
              go_wp2
              go_roundw
              case rel => exact ⟨m + 1, t + amongO o.warm xp, true, by omega, rfl, rfl, by go_num, HST.out, EX.comp E5⟩
              case measure => simp [Go.RowKit.intOf]; omega
            · obtain ⟨xp, hxp⟩ : ∃ xp, xs[(m + 1) % n]?.getD 0 = xp := ⟨_, rfl⟩
              have hpn : (m + 1) % n < n := Nat.mod_lt _ h0n
              have hq0 : (0 : Int) ≤ ((m : Int) + 1) % (n : Int) := Int.emod_nonneg _ (by omega)
              have hq1 : ((m : Int) + 1) % (n : Int) < (n : Int) := Int.emod_lt_of_pos _ h0z
              have yp : X.cell? ⟨b, off + (m + 1) % n, none⟩ = some (.int .u8 xp) := by rw [← hxp]; exact (EX.cell (p := ⟨b, off + (m + 1) % n, none⟩) hbY).trans (HC.out _ (by omega))
              have hxb : 0 ≤ xp ∧ xp ≤ 255 := by rw [← hxp]; exact HX.out _ (by rw [List.getElem?_eq_getElem (by omega)]; exact List.getElem_mem _)
              obtain ⟨a1, a2, a3, a4, a5⟩ := ho
              have hav := amongO_in (s := o.cool) (n := xp) a5.2.1 (by omega) hxb
              have hst := state_next hin (n := amongO o.cool xp) (by rw [hheat]; simpa using hav)
              rw [hheat] at hst
              have hbd := statesO_bd ⟨a1, a2, a3, a4, a5⟩ (by omega) _ _ hin
              dsimp only at hbd
              have wr : IntKind.i64.wrap (t - amongO o.cool xp) = t - amongO o.cool xp := IntWalk.i64_in _ (by omega)
              have ham := fun W => among2_any o.cool xp W (by omega) (by omega) (by omega) hxb
              have HST := Lib.hid hst
              have HHE := Lib.hid hheat
              clear hst hheat hxp hin hav hbd hxb g1 g2 bx bs bf
              go_wp2_with fail
              refine (ham _).mono ?_
              rintro e w5 ⟨rfl, E5⟩
              go_wp2
              go_roundw
              case rel => exact ⟨m + 1, t - amongO o.cool xp, false, by omega, rfl, rfl, by go_num, HST.out, EX.comp E5⟩
              case measure => simp [Go.RowKit.intOf]; omega
            · obtain ⟨xp, hxp⟩ : ∃ xp, xs[(m + 1) % n]?.getD 0 = xp := ⟨_, rfl⟩
              have hpn : (m + 1) % n < n := Nat.mod_lt _ h0n
              have hq0 : (0 : Int) ≤ ((m : Int) + 1) % (n : Int) := Int.emod_nonneg _ (by omega)
              have hq1 : ((m : Int) + 1) % (n : Int) < (n : Int) := Int.emod_lt_of_pos _ h0z
              have yp : X.cell? ⟨b, off + (m + 1) % n, none⟩ = some (.int .u8 xp) := by rw [← hxp]; exact (EX.cell (p := ⟨b, off + (m + 1) % n, none⟩) hbY).trans (HC.out _ (by omega))
              have hxb : 0 ≤ xp ∧ xp ≤ 255 := by rw [← hxp]; exact HX.out _ (by rw [List.getElem?_eq_getElem (by omega)]; exact List.getElem_mem _)
              obtain ⟨a1, a2, a3, a4, a5⟩ := ho
              have hav := amongO_in (s := o.cool) (n := xp) a5.2.1 (by omega) hxb
              have hst := state_next hin (n := amongO o.cool xp) (by rw [hheat]; simpa using hav)
              rw [hheat] at hst
              have hbd := statesO_bd ⟨a1, a2, a3, a4, a5⟩ (by omega) _ _ hin
              dsimp only at hbd
              have wr : IntKind.i64.wrap (t - amongO o.cool xp) = t - amongO o.cool xp := IntWalk.i64_in _ (by omega)
              have ham := fun W => among2_any o.cool xp W (by omega) (by omega) (by omega) hxb
              have HST := Lib.hid hst
              have HHE := Lib.hid hheat
              clear hst hheat hxp hin hav hbd hxb g1 g2 bx bs bf
              go_wp2_with fail
              refine (ham _).mono ?_
              rintro e w5 ⟨rfl, E5⟩
              go_wp2
              go_roundw
              case rel => exact ⟨m + 1, t - amongO o.cool xp, false, by omega, rfl, rfl, by go_num, HST.out, EX.comp E5⟩
              case measure => simp [Go.RowKit.intOf]; omega
        · have hmz : ¬ (m : Int) ≤ (M : Int) := by omega
          obtain ⟨k1, k2⟩ := HH.out.2.1
          go_wp2_with fail
          refine (awake_any _).mono ?_
          rintro e w5 ⟨rfl, E5⟩
          go_wp2
          go_ret
          exact ⟨rfl, (HEY.out.comp EX).comp E5⟩
  · have e1 : ovenE o temp heats minutes = (⟨0, 0⟩, ovenX o temp minutes) := by unfold ovenE; rw [if_neg hox]
    have e2 : (keepsE l o temp heats minutes).2 ≠ 0 := by
      unfold keepsE
      split
      · assumption
      · exact hox
    rw [e1] at ho1
    dsimp only at ho1
    generalize hv : ovenX o temp minutes = v at *
    generalize keepsE l o temp heats minutes = kk at *
    generalize safeE l = se at *
    have hkb : (kk.2 != 0) = true := by rw [bne_iff_ne]; exact e2
    clear e1 hv hI hxs
    go_enter Try.func17, Try.ntmps17
    go_wp2_with fail
    refine (ho1 _).mono ?_
    rintro e w1 ⟨rfl, E1⟩
    obtain ⟨b0, b1⟩ := two_boxes E1
    have EW := E1.old.old
    have l0 := fun ob => blk_cell (alloc_blk b0 ob) 0 (v := .int .i64 l.words) rfl
    have l1 := fun ob => blk_cell (alloc_blk b0 ob) 1 (v := .int .i64 l.bits) rfl
    have l2 := fun ob => blk_cell (alloc_blk b0 ob) 2 (v := .int .i64 l.period) rfl
    have l3 := fun ob => blk_cell (alloc_blk b0 ob) 3 (v := .int .i64 l.delay) rfl
    have l4 := fun ob => blk_cell (alloc_blk b0 ob) 4 (v := .int .i64 l.slope) rfl
    have l5 := fun ob => blk_cell (alloc_blk b0 ob) 5 (v := .int .i64 l.window) rfl
    have x0 := fun ob => blk_cell (alloc_blk b1 ob) 0 (v := .int .i64 o.low) rfl
    have x1 := fun ob => blk_cell (alloc_blk b1 ob) 1 (v := .int .i64 o.high) rfl
    have x2 := fun ob => blk_cell (alloc_blk b1 ob) 2 (v := .int .i64 o.warm.lo) rfl
    have x3 := fun ob => blk_cell (alloc_blk b1 ob) 3 (v := .int .i64 o.warm.hi) rfl
    have x4 := fun ob => blk_cell (alloc_blk b1 ob) 4 (v := .int .i64 o.cool.lo) rfl
    have x5 := fun ob => blk_cell (alloc_blk b1 ob) 5 (v := .int .i64 o.cool.hi) rfl
    have x6 := fun ob => blk_cell (alloc_blk b1 ob) 6 (v := .int .i64 temp.lo) rfl
    have x7 := fun ob => blk_cell (alloc_blk b1 ob) 7 (v := .int .i64 temp.hi) rfl
    have x8 := fun ob => blk_cell (alloc_blk b1 ob) 8 (v := .bool heats) rfl
    have x9 := fun ob => blk_cell (alloc_blk b1 ob) 9 (v := .int .i64 minutes) rfl
    have HB := Lib.hid (And.intro b0 b1)
    clear E1 ho1 b0 b1
    go_wp2_with fail
    refine (hk1 _).mono ?_
    rintro e w2 ⟨rfl, E2⟩
    have EW2 := EW.comp E2.old
    have b0 := (E2.block _ (Array.getElem?_eq_some_iff.1 (alloc_blk HB.out.1 (.cells #[.int .i64 0, .int .i64 0] 49))).1).trans (alloc_blk HB.out.1 _)
    have b1 := (E2.block _ (Array.getElem?_eq_some_iff.1 (alloc_blk HB.out.2 (.cells #[.int .i64 0, .int .i64 0] 49))).1).trans (alloc_blk HB.out.2 _)
    have b3 : w2.heap[w1.heap.size]? = some (.cells #[.int .i64 0, .int .i64 0] 49 (0, 0)) := (E2.block w1.heap.size (by simp)).trans (heap_alloc_new w1 _)
    clear hk1 HB E2 EW l0 l1 l2 l3 l4 l5 x0 x1 x2 x3 x4 x5 x6 x7 x8 x9
    have l0 := blk_cell b0 0 (v := .int .i64 l.words) rfl
    have l1 := blk_cell b0 1 (v := .int .i64 l.bits) rfl
    have l2 := blk_cell b0 2 (v := .int .i64 l.period) rfl
    have l3 := blk_cell b0 3 (v := .int .i64 l.delay) rfl
    have l4 := blk_cell b0 4 (v := .int .i64 l.slope) rfl
    have l5 := blk_cell b0 5 (v := .int .i64 l.window) rfl
    go_wp2_with fail
    refine (hs1 _).mono ?_
    rintro e w3 ⟨rfl, E3⟩
    have EW3 := EW2.comp E3
    have d1 := (E3.block _ (Array.getElem?_eq_some_iff.1 b1).1).trans b1
    have d3 := (E3.block _ (Array.getElem?_eq_some_iff.1 b3).1).trans b3
    clear EW2 E3 b0 b1 b3 hs1 l0 l1 l2 l3 l4 l5
    have s0 := fun ob => blk_cell (alloc_blk d3 ob) 0 (v := .int .i64 0) rfl
    have s1 := fun ob => blk_cell (alloc_blk d3 ob) 1 (v := .int .i64 0) rfl
    clear d1 d3
    go_wp2_with fail
    refine (awake_any _).mono ?_
    rintro e w4 ⟨rfl, E4⟩
    go_wp2
    go_ret
    exact ⟨rfl, EW3.comp E4.old⟩
end Go.Proofs.Ytkkchoinfdfiaaa

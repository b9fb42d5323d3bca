import Derived.Sort.OwnSortedInts
import Derived.Test.YtbcciokmlkofkaaGreatWH13
import Derived.Test.YtbcciokmlkofkaaGreatWH10
import Derived.Test.YtbcciokmlkofkaaGreatWShelf
set_option linter.unusedVariables false
set_option linter.unusedSimpArgs false
/- Contract of layer 1: Can where it succeeds. -/
namespace Go.Proofs.YtbcciokmlkofkaaGreat
open Go.RowKit Go.Q Go.Shelf Go.Maps
theorem sort_eq {xs ys : List Int} (hn : xs.Nodup) (h : ∀ z, z ∈ xs ↔ z ∈ ys) (hs : ys.Pairwise (· < ·)) : xs.mergeSort (fun x y => decide (x ≤ y)) = ys := by
  have hy : ys.Nodup := hs.imp (fun h e => by omega)
  have hp : xs.Perm ys := (List.perm_ext_iff_of_nodup hn hy).2 h
  refine List.Perm.eq_of_pairwise (le := fun a b => decide (a ≤ b) = true) (fun a b _ _ h1 h2 => ?_) (List.pairwise_mergeSort (fun a b c h1 h2 => ?_) (fun a b => ?_) xs) (hs.imp (fun h => ?_)) ((List.mergeSort_perm _ _).trans hp)
  · simp at h1 h2; omega
  · simp at h1 h2 ⊢; omega
  · simp; omega
  · simp; omega
theorem shiftsC_sorted (l : Ln) (ss : List Sp) : (shiftsC l ss).Pairwise (· < ·) := by
  unfold shiftsC beatsN fstN
  refine List.Pairwise.filter _ (List.pairwise_map.2 ?_)
  exact (List.pairwise_lt_range (n := (beatsL l).toNat)).imp (fun h => by exact_mod_cast h)
theorem can_fin {l : Ln} {ss : List Sp} {w w9 : World} {B b c : Nat} {a : Option Addr} {v0 v1 : Value} {L : Bool} (ho : w9.ownsRow B 3 1 (.slice a (shiftsC l ss).length c) (shiftsC l ss).length (iv (shiftsC l ss))) (E : Ext w w9) (hb : w.heap.size ≤ b) (hB : b < B) :
    CanRes (shiftsC l ss, L, 0) w (.returned (.tuple #[.agg #[.slice a (shiftsC l ss).length c, .bool L], .int .i64 0])) ((w9.setCell ⟨b, 0, none⟩ v0).setCell ⟨b, 1, none⟩ v1) := by
  refine ⟨a, c, rfl, ?_, (E.setCell (p := ⟨b, 0, none⟩) hb _).setCell (p := ⟨b, 1, none⟩) hb _⟩
  rcases own_ints2 ho with h | ⟨g, off, ha, h2, hg, hc⟩
  · exact .inl h
  · refine .inr ⟨g, off, ha, by simpa using hg, fun i hi => ?_⟩
    have e : ((w9.setCell ⟨b, 0, none⟩ v0).setCell ⟨b, 1, none⟩ v1).heap[g]? = w9.heap[g]? := (Below.heap_setCell _ _ _ _ (by show g ≠ b; omega)).trans (Below.heap_setCell _ _ _ _ (by show g ≠ b; omega))
    rw [World.cell?_of_block (w := w9) e]
    exact hc i hi
theorem sort_any (w : World) (B : Nat) (v : Value) (xs : List Int) (h : w.ownsRow B 3 1 v xs.length (iv xs)) (hl : xs.length < 4611686018427387904) :
    Calls Tryz.prog 58 #[v] w fun e w' => e = .returned (.tuple #[]) ∧ w'.ownsRow B 3 1 v xs.length (iv (xs.mergeSort fun x y => decide (x ≤ y))) ∧ w.grownBy w' v.ownBlock := by
  rcases h.2 with ⟨h1, h2⟩ | ⟨g, cap, cur, h1, h2, h3, h4, h5, h6, h7⟩
  · obtain rfl : xs = [] := List.eq_nil_of_length_eq_zero h2
    subst h1
    refine (Tryz.slices_Sort_int_none none 0 w).mono ?_
    rintro e w' ⟨rfl, rfl⟩
    exact ⟨rfl, by simpa [iv] using h, ⟨rfl, rfl, rfl, Nat.le_refl _, fun _ _ _ => rfl⟩⟩
  · subst h1
    refine (Tryz.slices_Sort_int g 0 cap xs w (Go.holds_of_blockI h3 (by simpa [iv] using h7)) (Array.getElem?_eq_some_iff.1 h3).1 hl).mono ?_
    rintro e w' ⟨rfl, n, os, rfl⟩
    refine ⟨rfl, ?_, ?_⟩
    · have := Go.ownsRow_sortedI (ss := xs) (ts := xs.mergeSort fun x y => decide (x ≤ y)) (n := n) (os := os) (by simp) h2 h3 h4 h5 h6
      simpa [iv] using this
    · exact Go.grownBy_sortedI _
attribute [local go_sem] encI
theorem spanX_bd {s : Sp} (h : spanX s = 0) : -500 ≤ s.lo ∧ s.lo ≤ s.hi ∧ s.hi ≤ 1000 := by
  unfold spanX at h
  split at h
  · omega
  · rename_i h1
    split at h
    · omega
    · simp only [not_or, Bool.not_eq_false] at h1
      have a := tempB_bd h1.1
      have b := tempB_bd h1.2
      omega
/-- what Can has in memory beside its maps -/
structure CanW (l : Ln) (w wr : World) (Bt : Nat) (lost : Bool) : Prop where
  ext : Ext w wr
  box : wr.heap[w.heap.size + 1]? = some (.cells #[.slice none 0 0, .bool lost] 63 (0, 0))
  tank : wr.heap[Bt]? = some (.cells #[.int .i64 l.words, .int .i64 l.bits, .int .i64 l.period, .int .i64 l.delay, .int .i64 l.slope, .int .i64 l.window] 57 (0, 0))
  lt : w.heap.size + 1 < Bt
theorem CanW.later {l : Ln} {w wr wn : World} {Bt : Nat} {lost : Bool} (h : CanW l w wr Bt lost) (E : Ext wr wn) : CanW l w wn Bt lost :=
  ⟨h.ext.comp E, (E.block _ (Array.getElem?_eq_some_iff.1 h.box).1).trans h.box, (E.block _ (Array.getElem?_eq_some_iff.1 h.tank).1).trans h.tank, h.lt⟩
theorem CanW.grown {l : Ln} {w wr wn : World} {Bt b : Nat} {lost : Bool} (h : CanW l w wr Bt lost) (g : wr.grownBy wn (some b)) (hb : Bt < b) : CanW l w wn Bt lost :=
  have hl := h.lt
  ⟨h.ext.grown g h.ext.size (fun k e => by cases e; omega), (g.block _ (Array.getElem?_eq_some_iff.1 h.box).1 (fun e => by cases e; omega)).trans h.box, (g.block _ (Array.getElem?_eq_some_iff.1 h.tank).1 (fun e => by cases e; omega)).trans h.tank, hl⟩
theorem CanW.lose {l : Ln} {w wr : World} {Bt : Nat} {lost : Bool} (h : CanW l w wr Bt lost) : CanW l w (wr.setCell ⟨w.heap.size + 1, 1, none⟩ (.bool true)) Bt true := by
  have hl := h.lt
  refine ⟨h.ext.setCell (p := ⟨w.heap.size + 1, 1, none⟩) (Nat.le_succ _) _, ?_, (Below.heap_setCell _ _ _ _ (by show Bt ≠ w.heap.size + 1; omega)).trans h.tank, hl⟩
  exact heap_setCell_same wr (w.heap.size + 1) 1 _ _ (.bool true) h.box
theorem MapP.put {w : World} {b : Nat} {p : Int → Prop} (h : MapP w b p) {c o : Nat} (hc : b ≠ c) (v : Value) : MapP (w.setCell ⟨c, o, none⟩ v) b p := h.same (Below.heap_setCell _ _ _ _ hc)
theorem any_lost {l : Ln} {f : Nat → Int} {i : Nat} {x : Int} (h : lostL l (f i) = true) : ((fstN f (i + 1)).any fun t => !lostL l t && (turnL l (byL l t) == x)) = ((fstN f i).any fun t => !lostL l t && (turnL l (byL l t) == x)) := by
  rw [fstN_succ, List.any_append]; simp [h]
theorem any_late {l : Ln} {f : Nat → Int} {i : Nat} {x : Int} (h : lostL l (f i) = false) : ((fstN f (i + 1)).any fun t => !lostL l t && (turnL l (byL l t) == x)) = (((fstN f i).any fun t => !lostL l t && (turnL l (byL l t) == x)) || (turnL l (byL l (f i)) == x)) := by
  rw [fstN_succ, List.any_append]; simp [h]
theorem any_lostB {l : Ln} {f : Nat → Int} {i : Nat} : (fstN f (i + 1)).any (lostL l) = ((fstN f i).any (lostL l) || lostL l (f i)) := by
  rw [fstN_succ, List.any_append]; simp
theorem next_iff {l : Ln} (hl : OkL l) {s : Sp} {ss : List Sp} {f1 f0 : I64 → Option Value} (h1 : ∀ x, (f1 x).isSome = true ↔ oneC l s x.1 = true) (h0 : ∀ x, (f0 x).isSome = true ↔ canC l ss x.1 = true) (x : Int) :
    (∃ b n : I64, (f1 b).isSome = true ∧ (f0 n).isSome = true ∧ turnL l (n.1 + b.1) = x) ↔ nextC l s (canC l ss) x = true := by
  have hb := hl.beats
  unfold nextC
  rw [List.any_eq_true]
  constructor
  · rintro ⟨b, n, hb1, hn1, e⟩
    have h3 := (h0 n).1 hn1
    have h4 := (h1 b).1 hb1
    refine ⟨n.1, mem_beatsN.2 (canC_in hl h3), ?_⟩
    rw [h3, Bool.true_and, List.any_eq_true]
    exact ⟨b.1, mem_beatsN.2 (oneC_in hl h4), by rw [h4, e]; simp⟩
  · rintro ⟨n, hn, h⟩
    rw [Bool.and_eq_true, List.any_eq_true] at h
    obtain ⟨h3, b, hbm, h4⟩ := h
    rw [Bool.and_eq_true, beq_iff_eq] at h4
    have n1 := mem_beatsN.1 hn
    have b1 := mem_beatsN.1 hbm
    exact ⟨⟨b, by omega⟩, ⟨n, by omega⟩, (h1 _).2 h4.1, (h0 _).2 h3, h4.2⟩
theorem MapP.keep {w w' : World} {b b' : Nat} {p : Int → Prop} (h : MapP w b p) (g : w.grownBy w' (some b')) (hne : b ≠ b') : MapP w' b p := h.same (g.block b h.lt (fun e => hne (by cases e; rfl)))
set_option maxRecDepth 100000 in
set_option maxHeartbeats 16000000 in
theorem can_good (l : Ln) (a2 : Option Addr) (n2 c2 : Nat) (ss : List Sp) (w : World) (l2 : ss.length = n2) (i2 : SpansAt w a2 ss) (hx : canX l ss = 0) :
    Calls Tryz.prog 24 #[.agg #[.int .i64 l.words, .int .i64 l.bits, .int .i64 l.period, .int .i64 l.delay, .int .i64 l.slope, .int .i64 l.window], .slice a2 n2 c2] w (CanRes (canE l ss) w) := by
  have hE : canE l ss = (shiftsC l ss, ss.any (lostC l), 0) := by unfold canE; rw [if_pos hx]
  rw [hE]
  have hck := fun W => check_anyL l W
  cases ho : okL l with
  | false => unfold canX at hx; rw [if_pos ho] at hx; omega
  | true =>
  rw [checkL_of ho] at hck
  have hok := okL_ok ho
  have h60 : n2 ≤ 60 := by
    unfold canX at hx
    rw [ho, if_neg (by simp)] at hx
    split at hx <;> rename_i h <;> omega
  have hsp : ∀ s ∈ ss, spanX s = 0 := by
    unfold canX at hx
    rw [ho, if_neg (by simp), if_neg (by omega)] at hx
    exact spansX_all ss hx
  have hcell : ∀ W, Ext w W → ∀ k, k < n2 → ∃ b off, a2 = some ⟨b, off, none⟩ ∧ W.cell? ⟨b, off + k * 2, none⟩ = some (.int .i64 (ss[k]?.getD ⟨0, 0⟩).lo) ∧ W.cell? ⟨b, off + k * 2 + 1, none⟩ = some (.int .i64 (ss[k]?.getD ⟨0, 0⟩).hi) ∧ spanX (ss[k]?.getD ⟨0, 0⟩) = 0 := by
    intro W E k hk
    rcases i2 with e | ⟨b, off, ha, hb, hc⟩
    · rw [e] at l2; simp at l2; omega
    · refine ⟨b, off, ha, (E.cell (p := ⟨b, off + k * 2, none⟩) hb).trans (hc k (by omega)).1, (E.cell (p := ⟨b, off + k * 2 + 1, none⟩) hb).trans (hc k (by omega)).2, ?_⟩
      rw [List.getElem?_eq_getElem (by omega)]
      exact hsp _ (List.getElem_mem _)
  have HC := Lib.hid hcell
  have HL := Lib.hid l2
  clear hE hx ho i2 l2 hsp hcell
  go_enter Tryz.func24, Tryz.ntmps24
  go_wp2_with fail
  refine (hck _).mono ?_
  rintro e w1 ⟨rfl, E1⟩
  have HE1 := Lib.hid E1
  have E1o : Ext w w1 := E1.old.old
  clear E1 hck
  go_wp2
  go_loopw [32] (fun s32 wr => ∃ k : Nat, k ≤ n2 ∧ s32 = .int .i64 k ∧ Ext w1 wr) (fun s32 _ => n2 - (intOf s32).toNat)
  case atStart => exact ⟨0, Nat.zero_le _, rfl, Ext.refl _⟩
  case round =>
    obtain ⟨k, hk, rfl, E⟩ := hrel
    obtain ⟨wa, rfl⟩ : ∃ wa : World, wa = wr := ⟨_, rfl⟩
    by_cases hlt : k < n2
    · have hltz : (k : Int) < (n2 : Int) := by omega
      obtain ⟨b, off, rfl, x0, x1, hz⟩ := HC.out wa (E1o.comp E) k hlt
      obtain ⟨s, hs⟩ : ∃ s, ss[k]?.getD ⟨0, 0⟩ = s := ⟨_, rfl⟩
      rw [hs] at x0 x1 hz
      have hod := fun W => odd_any1 s.lo s.hi W
      rw [show (⟨s.lo, s.hi⟩ : Sp) = s from rfl, hz] at hod
      clear hs hz
      go_wp2_with fail
      refine (hod _).mono ?_
      rintro e w2 ⟨rfl, E2⟩
      go_wp2
      go_roundw
      case rel => exact ⟨k + 1, by omega, by go_num, E.comp E2.old⟩
      case measure => simp [intOf]; omega
    · have hltz : ¬ (k : Int) < (n2 : Int) := by omega
      have EB := HE1.out.comp E
      have c0 := box_at (v := .int .i64 l.words) EB.old 0 rfl
      have c1 := box_at (v := .int .i64 l.bits) EB.old 1 rfl
      have c2 := box_at (v := .int .i64 l.period) EB.old 2 rfl
      have c3 := box_at (v := .int .i64 l.delay) EB.old 3 rfl
      have c4 := box_at (v := .int .i64 l.slope) EB.old 4 rfl
      have c5 := box_at (v := .int .i64 l.window) EB.old 5 rfl
      have hbx : wa.heap[w.heap.size + 1]? = some (.cells #[.slice none 0 0, .bool false] 63 (0, 0)) := by
        have e := heap_alloc_new (w.alloc (.cells #[.int .i64 l.words, .int .i64 l.bits, .int .i64 l.period, .int .i64 l.delay, .int .i64 l.slope, .int .i64 l.window] 26)) (.cells #[.slice none 0 0, .bool false] 63)
        rw [World.size_alloc] at e
        exact (EB.block _ (by simp)).trans e
      have Eo := E1o.comp E
      have hmm := @run_makeMap Tryz.prog
      have hm0 : MapF encI ((wa.alloc (.cells #[.int .i64 l.words, .int .i64 l.bits, .int .i64 l.period, .int .i64 l.delay, .int .i64 l.slope, .int .i64 l.window] 57)).alloc (.map #[] 0)) (wa.heap.size + 1) (fun _ => none) := by
        have e := MapF.made (enc := encI) (wa.alloc (.cells #[.int .i64 l.words, .int .i64 l.bits, .int .i64 l.period, .int .i64 l.delay, .int .i64 l.slope, .int .i64 l.window] 57))
        rw [World.size_alloc] at e
        exact e
      go_wp2_with (refine wpList_insF _ rfl _ _ _ 116 rfl 3 keyI Tryz.underlying116 _ rfl hm0 (⟨0, by decide⟩ : I64) (.int .i64 1) rfl rfl ?_; intro w3 hm3 hg3 hs3)
      have CW0 : CanW l w w3 wa.heap.size ([].any (lostC l)) := by
        have h0 : CanW l w (wa.alloc (.cells #[.int .i64 l.words, .int .i64 l.bits, .int .i64 l.period, .int .i64 l.delay, .int .i64 l.slope, .int .i64 l.window] 57)) wa.heap.size false :=
          ⟨Eo.alloc _, (((Ext.refl wa).alloc _).block _ (Array.getElem?_eq_some_iff.1 hbx).1).trans hbx, heap_alloc_new wa _, by have := EB.size; simp at this; omega⟩
        exact (h0.later ((Ext.refl _).alloc _)).grown hg3 (Nat.lt_succ_self _)
      have MP0 : MapP w3 (wa.heap.size + 1) (fun x => canC l [] x = true) := by
        refine ⟨_, hm3, fun x => ?_⟩
        rw [putF_isSome]
        simp [canC]
      clear hm3 hg3 hs3 hm0 c0 c1 c2 c3 c4 c5 hbx EB
      obtain ⟨Bt, hBt⟩ : ∃ Bt, wa.heap.size = Bt := ⟨_, rfl⟩
      have hb0 : Bt < wa.heap.size + 1 := by omega
      obtain ⟨b00, hb00⟩ : ∃ b00, wa.heap.size + 1 = b00 := ⟨_, rfl⟩
      rw [hb00] at hb0 MP0 ⊢
      rw [hBt] at CW0 ⊢
      clear hb00 hBt E Eo E1o HE1
      go_loopw [9, 49] (fun s9 s49 W => ∃ (k b0 : Nat), k ≤ n2 ∧ s9 = .map (some b0) ∧ s49 = .int .i64 k ∧ Bt < b0 ∧ MapP W b0 (fun x => canC l (ss.take k) x = true) ∧ CanW l w W Bt ((ss.take k).any (lostC l))) (fun _ s49 _ => n2 - (intOf s49).toNat)
      case atStart => exact ⟨0, b00, Nat.zero_le _, rfl, rfl, hb0, by simpa using MP0, by simpa using CW0⟩
      case round =>
        clear MP0 CW0 hb0
        obtain ⟨k', b0, hk', rfl, rfl, hb0, MP, CW⟩ := hrel
        obtain ⟨W, rfl⟩ : ∃ W : World, W = wr := ⟨_, rfl⟩
        by_cases hlt' : k' < n2
        · have hltz' : (k' : Int) < (n2 : Int) := by omega
          obtain ⟨b, off, rfl, x0, x1, hz⟩ := HC.out W CW.ext k' hlt'
          obtain ⟨s, hs⟩ : ∃ s, ss[k']?.getD ⟨0, 0⟩ = s := ⟨_, rfl⟩
          rw [hs] at x0 x1 hz
          have hsn : ss.take (k' + 1) = ss.take k' ++ [s] := by
            have hk1 : k' < ss.length := by rw [HL.out]; exact hlt'
            rw [List.take_succ_eq_append_getElem hk1, ← hs, List.getElem?_eq_getElem hk1]; rfl
          have HSN := Lib.hid hsn
          obtain ⟨s0, s1, s2⟩ := spanX_bd hz
          clear hs hz hsn
          go_wp2_with fail
          have w1a : Ext W (W.alloc (.cells #[.int .i64 s.lo, .int .i64 s.hi] 28)) := (Ext.refl W).alloc _
          have EE : Ext W (((W.alloc (.cells #[.int .i64 s.lo, .int .i64 s.hi] 28)).alloc (.map #[] 0)).alloc (.map #[] 0)) := ((w1a.alloc _).alloc _)
          have CW1 := CW.later EE
          have MP1 := MP.ext EE
          have M1 : MapP (((W.alloc (.cells #[.int .i64 s.lo, .int .i64 s.hi] 28)).alloc (.map #[] 0)).alloc (.map #[] 0)) (W.heap.size + 1) (fun _ => False) := by
            have e := (MapP.made (W.alloc (.cells #[.int .i64 s.lo, .int .i64 s.hi] 28))).ext ((Ext.refl _).alloc (.map #[] 0))
            rw [World.size_alloc] at e
            exact e
          have M2 : MapP (((W.alloc (.cells #[.int .i64 s.lo, .int .i64 s.hi] 28)).alloc (.map #[] 0)).alloc (.map #[] 0)) (W.heap.size + 2) (fun _ => False) := by
            have e := MapP.made ((W.alloc (.cells #[.int .i64 s.lo, .int .i64 s.hi] 28)).alloc (.map #[] 0))
            rw [World.size_alloc, World.size_alloc] at e
            exact e
          have SB : (((W.alloc (.cells #[.int .i64 s.lo, .int .i64 s.hi] 28)).alloc (.map #[] 0)).alloc (.map #[] 0)).heap[W.heap.size]? = some (.cells #[.int .i64 s.lo, .int .i64 s.hi] 28 (0, 0)) :=
            (((Ext.refl (W.alloc (.cells #[.int .i64 s.lo, .int .i64 s.hi] 28))).alloc (.map #[] 0)).alloc (.map #[] 0)).block W.heap.size (by simp) |>.trans (heap_alloc_new W _)
          have hb0W := MP.lt
          have HWW := Lib.hid (show w.heap.size + 1 < Bt ∧ Bt < W.heap.size from ⟨CW.lt, (Array.getElem?_eq_some_iff.1 CW.tank).1⟩)
          clear x0 x1 MP CW w1a EE
          generalize ((W.alloc (.cells #[.int .i64 s.lo, .int .i64 s.hi] 28)).alloc (.map #[] 0)).alloc (.map #[] 0) = X0 at *
          go_loopw [14] (fun s14 X => ∃ i : Nat, i ≤ (s.hi - s.lo + 1).toNat ∧ s14 = .int .i64 (s.lo + (i : Int)) ∧ MapP X b0 (fun x => canC l (ss.take k') x = true) ∧ MapP X (W.heap.size + 1) (fun x => ((fstN (fun j : Nat => s.lo + (j : Int)) i).any fun t => !lostL l t && (turnL l (byL l t) == x)) = true) ∧ MapP X (W.heap.size + 2) (fun _ => False) ∧
            X.heap[W.heap.size]? = some (.cells #[.int .i64 s.lo, .int .i64 s.hi] 28 (0, 0)) ∧ CanW l w X Bt ((ss.take k').any (lostC l) || (fstN (fun j : Nat => s.lo + (j : Int)) i).any (lostL l))) (fun s14 _ => (s.hi + 1 - intOf s14).toNat)
          case atStart => exact ⟨0, Nat.zero_le _, by simp, MP1, M1.congr (fun x => by simp [fstN]), M2, SB, by simpa [fstN] using CW1⟩
          case round =>
            clear MP1 M1 M2 SB CW1
            obtain ⟨i, hi, rfl, MP, M1, M2, SB, CW⟩ := hrel
            obtain ⟨X, rfl⟩ : ∃ X : World, X = wr := ⟨_, rfl⟩
            have p0 := blk_cell SB 0 (v := .int .i64 s.lo) rfl
            have p1 := blk_cell SB 1 (v := .int .i64 s.hi) rfl
            have t0 := blk_cell CW.tank 0 (v := .int .i64 l.words) rfl
            have t1 := blk_cell CW.tank 1 (v := .int .i64 l.bits) rfl
            have t2 := blk_cell CW.tank 2 (v := .int .i64 l.period) rfl
            have t3 := blk_cell CW.tank 3 (v := .int .i64 l.delay) rfl
            have t4 := blk_cell CW.tank 4 (v := .int .i64 l.slope) rfl
            have t5 := blk_cell CW.tank 5 (v := .int .i64 l.window) rfl
            by_cases hle : s.lo + (i : Int) ≤ s.hi
            · have hsh := fun V => shift_any l (s.lo + (i : Int)) V hok (by omega)
              cases hlo : lostL l (s.lo + (i : Int)) with
              | true =>
                have e1 : shiftV l (s.lo + (i : Int)) = (0, true) := by unfold shiftV; rw [hlo]; rfl
                rw [e1] at hsh
                dsimp only at hsh
                have HLO := Lib.hid hlo
                clear e1 hlo
                go_wp2_with fail
                refine (hsh _).mono ?_
                rintro e w4 ⟨rfl, E4⟩
                have CW4 := CW.later E4
                have f1 := blk_free CW4.box 1
                have g1 := blk_cell CW4.box 1 rfl
                have CW5 := CW4.lose
                have hX := E4.size
                have hb2 : b0 ≠ w.heap.size + 1 := by have := CW4.lt; omega
                have hb3 : W.heap.size + 1 ≠ w.heap.size + 1 := by have := CW4.ext.size; have := HWW.out; omega
                have hb4 : W.heap.size + 2 ≠ w.heap.size + 1 := by have := HWW.out; omega
                have hb5 : W.heap.size ≠ w.heap.size + 1 := by have := HWW.out; omega
                have M0' := (MP.ext E4).put hb2 (o := 1) (.bool true)
                have M1' := ((M1.ext E4).put hb3 (o := 1) (.bool true)).congr (fun x => by rw [← any_lost (i := i) (f := fun j : Nat => s.lo + (j : Int)) HLO.out])
                have M2' := (M2.ext E4).put hb4 (o := 1) (.bool true)
                have SB' := (Below.heap_setCell w4 ⟨w.heap.size + 1, 1, none⟩ (.bool true) _ hb5).trans ((E4.block _ (Array.getElem?_eq_some_iff.1 SB).1).trans SB)
                have CW6 : CanW l w (w4.setCell ⟨w.heap.size + 1, 1, none⟩ (.bool true)) Bt ((ss.take k').any (lostC l) || (fstN (fun j : Nat => s.lo + (j : Int)) (i + 1)).any (lostL l)) := by
                  rw [any_lostB, HLO.out, Bool.or_true, Bool.or_true]
                  exact CW5
                clear CW5 CW4 CW MP M1 M2 SB hb2 hb3 hb4 hb5 hX
                go_wp2
                go_roundw
                case rel => exact ⟨i + 1, by omega, by go_num, M0', M1', M2', SB', CW6⟩
                case measure => simp [intOf]; omega
              | false =>
                have e1 : shiftV l (s.lo + (i : Int)) = (byL l (s.lo + (i : Int)), false) := by unfold shiftV; rw [hlo]; rfl
                rw [e1] at hsh
                dsimp only at hsh
                have HLO := Lib.hid hlo
                have htr := fun V => turn_any l (byL l (s.lo + (i : Int))) V hok (hok.by_bd (by omega))
                have hrb := hok.turn (byL l (s.lo + (i : Int)))
                have hbe := hok.beats
                obtain ⟨by', hby⟩ : ∃ y, byL l (s.lo + (i : Int)) = y := ⟨_, rfl⟩
                obtain ⟨r, hr⟩ : ∃ y, turnL l (byL l (s.lo + (i : Int))) = y := ⟨_, rfl⟩
                rw [hr] at hrb htr
                rw [hby] at hsh htr
                have HR := Lib.hid hr
                have hrI : -9223372036854775808 ≤ r ∧ r ≤ 9223372036854775807 := by omega
                clear e1 hlo hr hby hrb hbe
                go_wp2_with fail
                refine (hsh _).mono ?_
                rintro e w4 ⟨rfl, E4⟩
                have CW4 := CW.later E4
                have q0 := blk_cell CW4.tank 0 (v := .int .i64 l.words) rfl
                have q1 := blk_cell CW4.tank 1 (v := .int .i64 l.bits) rfl
                have q2 := blk_cell CW4.tank 2 (v := .int .i64 l.period) rfl
                have q3 := blk_cell CW4.tank 3 (v := .int .i64 l.delay) rfl
                have q4 := blk_cell CW4.tank 4 (v := .int .i64 l.slope) rfl
                have q5 := blk_cell CW4.tank 5 (v := .int .i64 l.window) rfl
                clear t0 t1 t2 t3 t4 t5
                go_wp2_with fail
                refine (htr _).mono ?_
                rintro e w5 ⟨rfl, E5⟩
                have E45 := E4.comp E5
                obtain ⟨f1, hf1, hfe⟩ := M1.ext E45
                have HFE := Lib.hid hfe
                clear hfe
                go_wp2_with (at_mapUpdate; refine wpList_putF _ rfl _ _ _ 116 rfl 3 keyI Tryz.underlying116 (W.heap.size + 1) rfl hf1 (⟨r, hrI⟩ : I64) (.int .i64 (s.lo + (i : Int))) rfl rfl ?_; intro w6 hm6 hg6 hs6; clear hs6)
                have CW6 := (CW.later E45).grown hg6 (by have := HWW.out; omega)
                have M0' := (MP.ext E45).keep hg6 (by omega)
                have M2' := (M2.ext E45).keep hg6 (by omega)
                have SB' := (hg6.block W.heap.size (Nat.lt_of_lt_of_le (Array.getElem?_eq_some_iff.1 SB).1 E45.size) (fun e => by have := Option.some.inj e; omega)).trans ((E45.block _ (Array.getElem?_eq_some_iff.1 SB).1).trans SB)
                have M1' : MapP w6 (W.heap.size + 1) (fun x => ((fstN (fun j : Nat => s.lo + (j : Int)) (i + 1)).any fun t => !lostL l t && (turnL l (byL l t) == x)) = true) := by
                  refine ⟨_, hm6, fun x => ?_⟩
                  rw [putF_isSome, HFE.out]
                  dsimp only
                  rw [any_late (i := i) (f := fun j : Nat => s.lo + (j : Int)) HLO.out, Bool.or_eq_true, beq_iff_eq, HR.out]
                  exact or_congr Iff.rfl ⟨fun h => h.symm, fun h => h.symm⟩
                have CW7 : CanW l w w6 Bt ((ss.take k').any (lostC l) || (fstN (fun j : Nat => s.lo + (j : Int)) (i + 1)).any (lostL l)) := by
                  rw [any_lostB, HLO.out, Bool.or_false]
                  exact CW6
                clear CW6 CW4 CW MP M1 M2 SB hf1 hm6 hg6 E4 E5 E45
                go_wp2
                go_roundw
                case rel => exact ⟨i + 1, by omega, by go_num, M0', M1', M2', SB', CW7⟩
                case measure => simp [intOf]; omega
            · obtain rfl : i = (s.hi - s.lo + 1).toNat := by omega
              have M1o : MapP X (W.heap.size + 1) (fun x => oneC l s x = true) := M1
              have CWo : CanW l w X Bt ((ss.take (k' + 1)).any (lostC l)) := by
                rw [HSN.out, List.any_append, List.any_cons, List.any_nil, Bool.or_false]
                exact CW
              obtain ⟨f1, hf1, hfe1⟩ := M1o
              have HF1 := Lib.hid hfe1
              have hXs : W.heap.size + 2 < X.heap.size := M2.lt
              clear CW M1 SB t0 t1 t2 t3 t4 t5 hfe1 hi
              go_wp2_with (at_range; refine wpList_rangeF _ rfl _ 116 rfl 3 keyI Tryz.underlying116 (W.heap.size + 1) rfl hf1 ?_; intro w7 cnt hrg E7 hs7; clear hs7)
              have MP7 := MP.ext E7
              have M27 := M2.ext E7
              have CW7 := CWo.later E7
              clear MP M2 CWo hf1 p0 p1
              (try go_frame)
              go_loopw [17] (fun _ Y => ∃ (left : I64 → Prop) (cnt : Nat), RngF encI Y (W.heap.size + 1) X.heap.size f1 left cnt ∧ MapP Y b0 (fun x => canC l (ss.take k') x = true) ∧ MapP Y (W.heap.size + 2) (fun x => ∃ b n : I64, ((f1 b).isSome = true ∧ ¬ left b) ∧ canC l (ss.take k') n.1 = true ∧ turnL l (n.1 + b.1) = x) ∧ CanW l w Y Bt ((ss.take (k' + 1)).any (lostC l))) (fun _ Y => Y.rangeLeft (W.heap.size + 1) X.heap.size)
              case atStart => exact ⟨_, _, hrg, MP7, M27.congr (fun x => ⟨False.elim, fun ⟨b, n, h, _⟩ => absurd h.1 h.2⟩), CW7⟩
              case round =>
                clear hrg MP7 M27 CW7 E7
                obtain ⟨left, cnt, hrg, MP, M2, CW⟩ := hrel
                obtain ⟨Y, rfl⟩ : ∃ Y : World, Y = wr := ⟨_, rfl⟩
                go_wp2_with (at_next; refine wpList_nextF _ rfl _ rfl keyI (W.heap.size + 1) X.heap.size left cnt rfl hrg ?_ ?_)
                · intro _ hl0
                  have M2' : MapP Y (W.heap.size + 2) (fun x => canC l (ss.take (k' + 1)) x = true) := by
                    obtain ⟨f0, hf0, hfe0⟩ := MP
                    refine M2.congr (fun x => ?_)
                    rw [HSN.out, canC_snoc, ← next_iff hok HF1.out hfe0]
                    constructor
                    · rintro ⟨b, n, h1, h2, h3⟩
                      exact ⟨b, n, h1.1, (hfe0 n).2 h2, h3⟩
                    · rintro ⟨b, n, h1, h2, h3⟩
                      exact ⟨b, n, ⟨h1, hl0 b⟩, (hfe0 n).1 h2, h3⟩
                  have hlt2 : Bt < W.heap.size + 2 := by have := HWW.out; omega
                  clear M2 MP hrg hl0
                  go_wp2
                  go_roundw
                  case rel => exact ⟨k' + 1, W.heap.size + 2, by omega, rfl, by go_num, hlt2, M2', CW⟩
                  case measure => simp [intOf]; omega
                · intro x v w8 cnt' hlx hfx hrg8 hlt8 hg8 hs8 hen
                  clear hs8
                  have MP8 := MP.keep hg8 (by omega)
                  have M28 := M2.keep hg8 (by omega)
                  have CW8 := CW.grown hg8 (by have := HWW.out; omega)
                  have hxb := oneC_in hok ((HF1.out x).1 (by rw [hfx]; rfl))
                  have hbe := hok.beats
                  obtain ⟨f0, hf0, hfe0⟩ := MP8
                  have HF0 := Lib.hid hfe0
                  have HLX := Lib.hid hlx
                  have HFX := Lib.hid hfx
                  have HRL := Lib.hid (And.intro hrg.left_eq hlt8)
                  clear MP M2 CW hrg hfe0 hlx hfx hlt8
                  have hb0s := hf0.lt
                  have hrs8 := hrg8.lt
                  go_wp2_with (at_range; refine wpList_rangeF _ rfl _ 116 rfl 3 keyI Tryz.underlying116 b0 rfl hf0 ?_; intro w9 cnt2 hrg2 E9 hs9; clear hs9)
                  have M29 := M28.ext E9
                  have CW9 := CW8.later E9
                  have hrg19 := hrg8.ext E9
                  clear M28 CW8 hrg8 hf0 hg8
                  go_loopw [18] (fun _ Z => ∃ (left2 : I64 → Prop) (cnt2 : Nat), RngF encI Z b0 w8.heap.size f0 left2 cnt2 ∧ RngF encI Z (W.heap.size + 1) X.heap.size f1 (fun y => left y ∧ y ≠ x) cnt' ∧
                    MapP Z (W.heap.size + 2) (fun z => (∃ b n : I64, ((f1 b).isSome = true ∧ ¬ left b) ∧ canC l (ss.take k') n.1 = true ∧ turnL l (n.1 + b.1) = z) ∨ ∃ n : I64, ((f0 n).isSome = true ∧ ¬ left2 n) ∧ turnL l (n.1 + x.1) = z) ∧ CanW l w Z Bt ((ss.take (k' + 1)).any (lostC l))) (fun _ Z => Z.rangeLeft b0 w8.heap.size)
                  case atStart => exact ⟨_, _, hrg2, hrg19, M29.congr (fun z => ⟨Or.inl, fun h => h.elim id (fun ⟨n, h, _⟩ => absurd h.1 h.2)⟩), CW9⟩
                  case round =>
                    clear hrg2 hrg19 M29 CW9 E9
                    obtain ⟨left2, cnt2, hrg2, hrg1, M2, CW⟩ := hrel
                    obtain ⟨Z, rfl⟩ : ∃ Z : World, Z = wr := ⟨_, rfl⟩
                    go_wp2_with (at_next; refine wpList_nextF _ rfl _ rfl keyI b0 w8.heap.size left2 cnt2 rfl hrg2 ?_ ?_)
                    · intro _ hl2
                      have M2' : MapP Z (W.heap.size + 2) (fun z => ∃ b n : I64, ((f1 b).isSome = true ∧ ¬ (left b ∧ b ≠ x)) ∧ canC l (ss.take k') n.1 = true ∧ turnL l (n.1 + b.1) = z) := by
                        refine M2.congr (fun z => ?_)
                        constructor
                        · rintro (⟨b, n, h1, h2, h3⟩ | ⟨n, h1, h2⟩)
                          · exact ⟨b, n, ⟨h1.1, fun h => h1.2 h.1⟩, h2, h3⟩
                          · exact ⟨x, n, ⟨by rw [HFX.out]; rfl, fun h => h.2 rfl⟩, (HF0.out n).1 h1.1, h2⟩
                        · rintro ⟨b, n, h1, h2, h3⟩
                          by_cases hbx : b = x
                          · subst hbx
                            exact .inr ⟨n, ⟨(HF0.out n).2 h2, hl2 n⟩, h3⟩
                          · exact .inl ⟨b, n, ⟨h1.1, fun h => h1.2 ⟨h, hbx⟩⟩, h2, h3⟩
                      have M0' : MapP Z b0 (fun x => canC l (ss.take k') x = true) := ⟨f0, hrg2.map, HF0.out⟩
                      have hm := hrg1.left_eq
                      have HM := Lib.hid hm
                      clear M2 hl2 hrg2 hm
                      go_wp2
                      go_roundw
                      case rel => exact ⟨_, _, hrg1, M0', M2', CW⟩
                      case measure => rw [HM.out, HRL.out.1]; exact HRL.out.2
                    · intro y v2 w10 cnt3 hly hfy hrg10 hlt10 hg10 hs10 hen2
                      clear hs10
                      have hrg1' := hrg1.grown hg10 (fun e => by have := Option.some.inj e; omega) (fun e => by have := Option.some.inj e; omega)
                      have M2' := M2.keep hg10 (by omega)
                      have CW' := CW.grown hg10 (by have := HWW.out; omega)
                      have hyb := canC_in hok ((HF0.out y).1 (by rw [hfy]; rfl))
                      have htr := fun V => turn_any l (y.1 + x.1) V hok (by omega)
                      have hrb := hok.turn (y.1 + x.1)
                      obtain ⟨r, hr⟩ : ∃ z, turnL l (y.1 + x.1) = z := ⟨_, rfl⟩
                      rw [hr] at hrb htr
                      have HR := Lib.hid hr
                      have hrI : -9223372036854775808 ≤ r ∧ r ≤ 9223372036854775807 := by omega
                      have HLY := Lib.hid hly
                      have HFY := Lib.hid hfy
                      have HRL2 := Lib.hid (And.intro hrg2.left_eq hlt10)
                      have q0 := blk_cell CW'.tank 0 (v := .int .i64 l.words) rfl
                      have q1 := blk_cell CW'.tank 1 (v := .int .i64 l.bits) rfl
                      have q2 := blk_cell CW'.tank 2 (v := .int .i64 l.period) rfl
                      have q3 := blk_cell CW'.tank 3 (v := .int .i64 l.delay) rfl
                      have q4 := blk_cell CW'.tank 4 (v := .int .i64 l.slope) rfl
                      have q5 := blk_cell CW'.tank 5 (v := .int .i64 l.window) rfl
                      clear M2 CW hrg1 hrg2 hr hly hfy hlt10
                      go_wp2_with fail
                      refine (htr _).mono ?_
                      rintro e w11 ⟨rfl, E11⟩
                      have hrg1'' := hrg1'.ext E11
                      have hrg2'' := hrg10.ext E11
                      have CW'' := CW'.later E11
                      obtain ⟨f2, hf2, hfe2⟩ := M2'.ext E11
                      have HF2 := Lib.hid hfe2
                      clear hfe2 M2' CW' hrg1' hrg10 q0 q1 q2 q3 q4 q5 hg10
                      go_wp2_with (at_mapUpdate; refine wpList_putF _ rfl _ _ _ 116 rfl 3 keyI Tryz.underlying116 (W.heap.size + 2) rfl hf2 (⟨r, hrI⟩ : I64) (.int .i64 x.1) rfl rfl ?_; intro w12 hm12 hg12 hs12; clear hs12)
                      go_frame
                      have CW3 := CW''.grown hg12 (by have := HWW.out; omega)
                      have hrg13 := hrg1''.grown hg12 (fun e => by have := Option.some.inj e; omega) (fun e => by have := Option.some.inj e; omega)
                      have hrg23 := hrg2''.grown hg12 (fun e => by have := Option.some.inj e; omega) (fun e => by have := Option.some.inj e; omega)
                      have M3 : MapP w12 (W.heap.size + 2) (fun z => (∃ b n : I64, ((f1 b).isSome = true ∧ ¬ left b) ∧ canC l (ss.take k') n.1 = true ∧ turnL l (n.1 + b.1) = z) ∨ ∃ n : I64, ((f0 n).isSome = true ∧ ¬ (left2 n ∧ n ≠ y)) ∧ turnL l (n.1 + x.1) = z) := by
                        refine ⟨_, hm12, fun z => ?_⟩
                        rw [putF_isSome, HF2.out]
                        constructor
                        · rintro ((h | ⟨n, h1, h2⟩) | h)
                          · exact .inl h
                          · exact .inr ⟨n, ⟨h1.1, fun h => h1.2 h.1⟩, h2⟩
                          · exact .inr ⟨y, ⟨by rw [HFY.out]; rfl, fun h => h.2 rfl⟩, by rw [HR.out, h]⟩
                        · rintro (h | ⟨n, h1, h2⟩)
                          · exact .inl (.inl h)
                          · by_cases hny : n = y
                            · subst hny
                              exact .inr (by rw [← h2, HR.out])
                            · exact .inl (.inr ⟨n, ⟨h1.1, fun h => h1.2 ⟨h, hny⟩⟩, h2⟩)
                      have HM := Lib.hid hrg23.left_eq
                      clear hf2 hm12 CW'' hrg1'' hrg2'' hg12
                      go_wp2
                      go_roundw
                      case rel => exact ⟨_, _, hrg23, hrg13, M3, CW3⟩
                      case measure => rw [HM.out, HRL2.out.1]; exact HRL2.out.2
        · have hltz' : ¬ (k' : Int) < (n2 : Int) := by omega
          obtain rfl : k' = n2 := by omega
          rw [show ss.take k' = ss from List.take_of_length_le (by rw [HL.out]; exact Nat.le_refl _)] at MP CW
          obtain ⟨f0, hf0, hfe0⟩ := MP
          have HF0 := Lib.hid hfe0
          obtain ⟨i0, hi, hz0, hz1, hz2⟩ := info_parts Tryz.infoE
          have HBB := Lib.hid (show w.heap.size + 1 < b0 by have := CW.lt; omega)
          have hWB : w.heap.size + 1 < W.heap.size := (Array.getElem?_eq_some_iff.1 CW.box).1
          have hb0W := hf0.lt
          clear hfe0
          obtain ⟨L, hL⟩ : ∃ L, ss.any (lostC l) = L := ⟨_, rfl⟩
          rw [hL] at CW
          have HLL := Lib.hid hL
          clear hL
          go_wp2_with (at_range; refine wpList_rangeF _ rfl _ 116 rfl 3 keyI Tryz.underlying116 b0 rfl hf0 ?_; intro w7 cnt hrg E7 hs7; clear hs7)
          have CW7 := CW.later E7
          have hW7 : W.heap.size < w7.heap.size := hrg.lt
          clear CW hf0
          (try go_frame)
          go_loopw [19] (fun _ Z => ∃ (left : I64 → Prop) (cnt : Nat) (sv : Value) (xs : List Int), RngF encI Z b0 W.heap.size f0 left cnt ∧ Z.heap[w.heap.size + 1]? = some (.cells #[sv, .bool L] 63 (0, 0)) ∧ Z.ownsRow (W.heap.size + 1) 3 1 sv xs.length (iv xs) ∧ Aside (xs.Nodup ∧ ∀ z : Int, z ∈ xs ↔ ∃ y : I64, y.1 = z ∧ (f0 y).isSome = true ∧ ¬ left y) ∧ Ext w Z ∧ W.heap.size + 1 ≤ Z.heap.size) (fun _ Z => Z.rangeLeft b0 W.heap.size)
          case atStart => exact ⟨_, _, _, [], hrg, CW7.box, World.ownsRow_nil _ _ _ _, ⟨List.nodup_nil, fun z => ⟨fun h => (by simp at h), fun ⟨y, _, h1, h2⟩ => absurd h1 h2⟩⟩, CW7.ext, hW7⟩
          case round =>
            clear hrg CW7 E7 hW7
            obtain ⟨left, cnt, sv, xs, hrg, hbx, hown, HXS, EZ, hZs⟩ := hrel
            obtain ⟨Z, rfl⟩ : ∃ Z : World, Z = wr := ⟨_, rfl⟩
            have hxl : xs.length ≤ 2560 := by
              have h1 : ∀ z ∈ xs, z ∈ beatsN l := fun z hz => by
                obtain ⟨y, rfl, h2, _⟩ := (HXS.out.2 z).1 hz
                exact mem_beatsN.2 (canC_in hok ((HF0.out y).1 h2))
              have h2 := List.Nodup.length_le_of_subset HXS.out.1 h1
              have h3 := hok.beats
              unfold beatsN at h2
              rw [fstN_length] at h2
              omega
            have z0 := blk_cell hbx 0 (v := sv) rfl
            have z1 := blk_cell hbx 1 (v := .bool L) rfl
            go_wp2_with (at_next; refine wpList_nextF _ rfl _ rfl keyI b0 W.heap.size left cnt rfl hrg ?_ ?_)
            · intro _ hl0
              have hall : ∀ z : Int, z ∈ xs ↔ z ∈ shiftsC l ss := by
                intro z
                rw [HXS.out.2 z]
                unfold shiftsC
                rw [List.mem_filter]
                constructor
                · rintro ⟨y, rfl, h1, _⟩
                  exact ⟨mem_beatsN.2 (canC_in hok ((HF0.out y).1 h1)), (HF0.out y).1 h1⟩
                · rintro ⟨h1, h2⟩
                  have h3 := mem_beatsN.1 h1
                  have h4 := hok.beats
                  exact ⟨⟨z, by omega⟩, rfl, (HF0.out _).2 h2, hl0 _⟩
              have hso := sort_any Z (W.heap.size + 1) sv xs hown (by omega)
              rw [sort_eq HXS.out.1 hall (shiftsC_sorted l ss)] at hso
              have HLEN := Lib.hid (show xs.length = (shiftsC l ss).length by
                have := sort_eq HXS.out.1 hall (shiftsC_sorted l ss)
                rw [← this]; simp)
              have hvb := hown.lt
              obtain ⟨av, cv, rfl⟩ := own_form hown
              have HV := Lib.hid hvb
              clear hall hrg hl0 hown hvb HXS
              go_wp2_with fail
              refine hso.mono ?_
              rintro e w9 ⟨rfl, ho9, hg9⟩
              have hbx9 : w9.heap[w.heap.size + 1]? = some (.cells #[.slice av xs.length cv, .bool L] 63 (0, 0)) :=
                (hg9.block _ (Array.getElem?_eq_some_iff.1 hbx).1 (fun e => by have := (HV.out _ e.symm).1; omega)).trans hbx
              have E9 : Ext w w9 := EZ.grown hg9 EZ.size (fun q e => by have := (HV.out _ e).1; omega)
              have y0 := blk_cell hbx9 0 (v := .slice av xs.length cv) rfl
              have y1 := blk_cell hbx9 1 (v := .bool L) rfl
              have e0 := blk_free hbx9 0
              have e1 := blk_free hbx9 1
              clear hso hg9 hbx hbx9 z0 z1 EZ
              go_wp2
              refine bodyPost_ret (v := .tuple #[.agg #[.slice av xs.length cv, .bool L], .int .i64 0]) (by simp [results, Tryz.results24, go_sem, y0, y1, e0, e1]) rfl ?_
              rw [HLEN.out, HLL.out] at *
              exact can_fin ho9 E9 (Nat.le_succ _) (by omega)
            · intro y v w8 cnt' hly hfy hrg8 hlt8 hg8 hs8 hen
              clear hs8
              have hown8 := hown.kept hg8 (by
                by_cases h : sv.ownBlock = none
                · exact .inl h
                · refine .inr (fun e => ?_)
                  have := (hown.lt _ e).1
                  omega)
              have hbx8 := (hg8.block _ (Array.getElem?_eq_some_iff.1 hbx).1 (fun e => by have := Option.some.inj e; omega)).trans hbx
              have E8 : Ext w w8 := EZ.grown hg8 EZ.size (fun q e => by have := Option.some.inj e; omega)
              have hZ8 : W.heap.size + 1 ≤ w8.heap.size := Nat.le_trans hZs hg8.size
              have hLT := Lib.hid (And.intro hrg.left_eq hlt8)
              have HLY := Lib.hid hly
              have HFY := Lib.hid hfy
              have a0 := fun ob => (((Ext.refl w8).alloc ob).cell (p := ⟨w.heap.size + 1, 0, none⟩) (Array.getElem?_eq_some_iff.1 hbx8).1).trans (blk_cell hbx8 0 (v := sv) rfl)
              have a1 := blk_cell hbx8 0 (v := sv) rfl
              have hbk : ∀ (o : Obj) (V : World), (w8.alloc o).grownBy V sv.ownBlock → V.heap[w.heap.size + 1]? = some (.cells #[sv, .bool L] 63 (0, 0)) := fun o V g =>
                (g.block _ (by have := (Array.getElem?_eq_some_iff.1 hbx8).1; simp; omega) (fun e => by have := (hown8.lt _ e.symm).1; omega)).trans ((((Ext.refl w8).alloc o).block _ (Array.getElem?_eq_some_iff.1 hbx8).1).trans hbx8)
              have HBK := Lib.hid hbk
              have HBX := Lib.hid hbx8
              clear hown hbx EZ hZs hrg hg8 hly hfy hlt8 z0 z1 hbk hbx8
              go_wp2_with (at_builtin; refine wpList_append_own _ rfl _ _ 22 rfl (W.heap.size + 1) 3 i0 (.int .i64 0) 1 8 Tryz.underlying22 hi hz0 hz1 hz2 rfl (by decide) _ _ _ rfl (hown8.alloc _) ⟨w8.heap.size, 0, none⟩ 1 1 [.int .i64 y.1] rfl rfl (cell_one_new _ _ _) (by simp [Value.oneCell']) (by unfold maxLen; omega) (by omega) (by simp; omega) ?_; intro sv' w10 hown' hgrow hnil; obtain ⟨g', cap', rfl⟩ := ownsRow_succ hown'; have fr0 := blk_free (HBK.out _ _ hgrow) 0; have cr0 := blk_cell (HBK.out _ _ hgrow) 0 (v := sv) rfl)
              have hob := fun q (e : sv.ownBlock = some q) => (hown8.lt q e)
              have hlr := hrg8.lt
              have r1 := ((hrg8.ext ((Ext.refl w8).alloc _)).grown hgrow (fun e => by have := (hob _ e.symm).1; omega) (fun e => by have := (hob _ e.symm).1; omega))
              have r2 : RngF encI (w10.setCell ⟨w.heap.size + 1, 0, none⟩ (.slice (some ⟨g', 0, none⟩) (xs.length + 1) cap')) b0 W.heap.size f0 (fun z => left z ∧ z ≠ y) cnt' := r1.same (Below.heap_setCell _ _ _ _ (by show b0 ≠ w.heap.size + 1; have := HBB.out; omega)) (Below.heap_setCell _ _ _ _ (by show W.heap.size ≠ w.heap.size + 1; omega))
              have b2 : (w10.setCell ⟨w.heap.size + 1, 0, none⟩ (.slice (some ⟨g', 0, none⟩) (xs.length + 1) cap')).heap[w.heap.size + 1]? = some (.cells #[.slice (some ⟨g', 0, none⟩) (xs.length + 1) cap', .bool L] 63 (0, 0)) := heap_setCell_same w10 (w.heap.size + 1) 0 _ _ _ (HBK.out _ _ hgrow)
              have o2 : (w10.setCell ⟨w.heap.size + 1, 0, none⟩ (.slice (some ⟨g', 0, none⟩) (xs.length + 1) cap')).ownsRow (W.heap.size + 1) 3 1 (.slice (some ⟨g', 0, none⟩) (xs ++ [y.1]).length cap') (xs ++ [y.1]).length (iv (xs ++ [y.1])) := by
                rw [List.length_append, List.length_singleton, ← iv_app]
                refine World.ownsRow.kept hown' (grownBy_setCell' w10 (w.heap.size + 1) _) (.inr (fun e => ?_))
                have := (hown'.lt _ e).1
                omega
              have a2 : Aside ((xs ++ [y.1]).Nodup ∧ ∀ z : Int, z ∈ xs ++ [y.1] ↔ ∃ u : I64, u.1 = z ∧ (f0 u).isSome = true ∧ ¬ (left u ∧ u ≠ y)) := by
                refine ⟨List.nodup_append.2 ⟨HXS.out.1, by simp, fun a ha b hb e => ?_⟩, fun z => ?_⟩
                · obtain ⟨u, h1, _, h3⟩ := (HXS.out.2 a).1 ha
                  have : u = y := I64.same (by rw [h1, e]; simpa using hb)
                  exact h3 (by rw [this]; exact HLY.out)
                · rw [List.mem_append, List.mem_singleton, HXS.out.2 z]
                  constructor
                  · rintro (⟨u, h1, h2, h3⟩ | h)
                    · exact ⟨u, h1, h2, fun h => h3 h.1⟩
                    · exact ⟨y, h.symm, by rw [HFY.out]; rfl, fun h => h.2 rfl⟩
                  · rintro ⟨u, h1, h2, h3⟩
                    by_cases huy : u = y
                    · exact .inr (by rw [← h1, huy])
                    · exact .inl ⟨u, h1, h2, fun h => h3 ⟨h, huy⟩⟩
              have e2 : Ext w (w10.setCell ⟨w.heap.size + 1, 0, none⟩ (.slice (some ⟨g', 0, none⟩) (xs.length + 1) cap')) := ((E8.alloc _).grown hgrow (Nat.le_trans E8.size (by simp)) (fun q e => by have := (hob q e).1; omega)).setCell (p := ⟨w.heap.size + 1, 0, none⟩) (Nat.le_succ _) _
              have s2 : W.heap.size + 1 ≤ (w10.setCell ⟨w.heap.size + 1, 0, none⟩ (.slice (some ⟨g', 0, none⟩) (xs.length + 1) cap')).heap.size := by
                have h1 := hgrow.size
                simp at h1 ⊢
                omega
              have HM := Lib.hid r2.left_eq
              go_roundw
              case rel => exact ⟨_, _, _, xs ++ [y.1], r2, by simpa using b2, by simpa using o2, a2, e2, s2⟩
              case measure => rw [HM.out, hLT.out.1]; exact hLT.out.2
theorem Can_any (l : Ln) (a2 : Option Addr) (n2 c2 : Nat) (ss : List Sp) (w : World) (l2 : ss.length = n2) (b2 : n2 ≤ 9223372036854775807) (i2 : SpansAt w a2 ss) :
    Calls Tryz.prog 24 #[.agg #[.int .i64 l.words, .int .i64 l.bits, .int .i64 l.period, .int .i64 l.delay, .int .i64 l.slope, .int .i64 l.window], .slice a2 n2 c2] w (CanRes (canE l ss) w) := by
  by_cases hx : canX l ss = 0
  · exact can_good l a2 n2 c2 ss w l2 i2 hx
  · exact can_bad l a2 n2 c2 ss w l2 b2 i2 hx
end Go.Proofs.YtbcciokmlkofkaaGreat

import Derived.RangeFuncNested
import Derived.RangeFuncBound
import Derived.RangeFuncCalls
import Derived.RangeFuncLeaves
import Derived.Shelf.Abstract
import Derived.Shelf.RegionOpen
import Derived.OwnWalkIn
import Derived.TacticsInMore
import Derived.LoopNIn
import Derived.LoopIn
import Derived.Test.YtbcciokmlkofkaaGreatWH3
import Derived.Test.YtbcciokmlkofkaaGreatWA1
import Derived.Test.YtbcciokmlkofkaaGreatWOwn
set_option linter.unusedVariables false
set_option linter.unusedSimpArgs false
/- Contracts of layer 1: the error of words; pulses. -/
namespace Go.Q
theorem i64_and_1 (n : Int) : bits .and .i64 n 1 = n % 2 := by have := i64_mask n 1 1 (by decide) (by decide); simpa using this
end Go.Q
namespace Go.Proofs.YtbcciokmlkofkaaGreat
open Go.RowKit Go.Q Go.Shelf
theorem two_bd {k : Nat} (h : k ≤ 40) : (1 : Int) ≤ 2 ^ k ∧ (2 : Int) ^ k ≤ 1099511627776 := by
  have h1 : (2 : Int) ^ k ≤ 2 ^ 40 := by exact_mod_cast Nat.pow_le_pow_right (by decide) h
  have h2 : (0 : Int) < 2 ^ k := Int.pow_pos (by decide)
  have e : (2 : Int) ^ 40 = 1099511627776 := by decide
  omega
set_option maxHeartbeats 1000000 in
theorem tcheck1_any (l : Ln) (n : Int) (b : Nat) (w : World) (h : OkL l) (hc : w.cell? ⟨b, 1, none⟩ = some (.int .i64 l.bits)) :
    Calls Tryz.prog 67 #[.int .i64 n, .pointer (some ⟨b, 0, none⟩)] w fun e w' => e = .returned (.bool (!inB n 0 (2 ^ l.bits.toNat - 1))) ∧ w = w' := by
  have hb := h.bits
  have h2 := two_bd (k := l.bits.toNat) (by omega)
  obtain ⟨hb0, hb1⟩ := hb
  obtain ⟨h20, h21⟩ := h2
  go_enter Tryz.func67, Tryz.ntmps67
  have w1 : IntKind.i64.wrap (2 ^ l.bits.toNat) = 2 ^ l.bits.toNat := IntWalk.i64_in _ (by omega)
  have w2 : IntKind.i64.wrap (2 ^ l.bits.toNat - 1) = 2 ^ l.bits.toNat - 1 := IntWalk.i64_in _ (by omega)
  go_wp2_with fail
  refine (lout_any _ _ _ _).mono ?_
  rintro e w' ⟨rfl, rfl⟩
  go_wp2
  go_ret
  exact ⟨rfl, rfl⟩
theorem wordsE_len {l : Ln} {ws : List Int} (h : (ws.length : Int) ≠ l.words) : wordsE l ws = 3 := by unfold wordsE; rw [if_pos h]
theorem wordsE_eq {l : Ln} {ws : List Int} (h : (ws.length : Int) = l.words) : wordsE l ws = if ws.any (fun n => !inB n 0 (2 ^ l.bits.toNat - 1)) = true then 7 else 0 := by unfold wordsE; rw [if_neg (by omega)]
set_option maxHeartbeats 1000000 in
theorem tcheck_any (l : Ln) (a : Option Addr) (n c : Nat) (ws : List Int) (w : World) (h : OkL l) (hn : ws.length = n) (hbig : n ≤ 9223372036854775807) (hI : IntsAt w a ws) :
    Calls Tryz.prog 38 #[.agg #[.int .i64 l.words, .int .i64 l.bits, .int .i64 l.period, .int .i64 l.delay, .int .i64 l.slope, .int .i64 l.window], .slice a n c] w fun e w' => e = .returned (.int .i64 (wordsE l ws)) ∧ Ext w w' := by
  by_cases hl : (n : Int) = l.words
  · have hcb := contains_any 67 #[.pointer (some ⟨w.heap.size, 0, none⟩)] (fun n => !inB n 0 (2 ^ l.bits.toNat - 1)) a n c ws (w.alloc (.cells #[.int .i64 l.words, .int .i64 l.bits, .int .i64 l.period, .int .i64 l.delay, .int .i64 l.slope, .int .i64 l.window] 57)) (fun args w => enters_of Tryz.func67 (by kernel_rfl) rfl args w)
      (fun W x E => (tcheck1_any l x w.heap.size W h (box_at E 1 rfl)).mono fun _ _ he => ⟨he.1, by rw [← he.2]; exact E⟩) hn hbig (hI.ext ((Ext.refl w).alloc _))
    rw [wordsE_eq (by omega)]
    clear hI
    have hlb : ((n : Int) != l.words) = false := by simp [hl]
    cases hany : ws.any (fun n => !inB n 0 (2 ^ l.bits.toNat - 1)) with
    | true =>
      rw [hany] at hcb
      have HL := Lib.hid hl
      clear hl hn hany
      go_enter Tryz.func38, Tryz.ntmps38
      go_wp2_with (go_at_call 19; refine hcb.mono ?_; rintro e w1 ⟨rfl, E1⟩)
      go_ret
      exact ⟨rfl, E1.old⟩
    | false =>
      rw [hany] at hcb
      have HL := Lib.hid hl
      clear hl hn hany
      go_enter Tryz.func38, Tryz.ntmps38
      go_wp2_with (go_at_call 19; refine hcb.mono ?_; rintro e w1 ⟨rfl, E1⟩)
      go_ret
      exact ⟨rfl, E1.old⟩
  · rw [wordsE_len (by omega)]
    have hlb : ((n : Int) != l.words) = true := by simp [hl]
    clear hI hn
    go_enter Tryz.func38, Tryz.ntmps38
    go_wp2
    go_ret
    exact ⟨rfl, (Ext.refl w).alloc _⟩
def bvL (l : List Bool) : List Value := l.map Value.bool
theorem bvL_length (l : List Bool) : (bvL l).length = l.length := by simp [bvL]
theorem bvL_get (l : List Bool) (i : Nat) (h : i < l.length) : (bvL l)[i]? = some (.bool (l[i]?.getD false)) := by simp [bvL, h]
theorem bvL_one (l : List Bool) : ∀ u ∈ bvL l, u.oneCell' = true := by
  intro u hu
  unfold bvL at hu
  obtain ⟨x, _, rfl⟩ := List.mem_map.1 hu
  rfl
theorem bvL_app (xs ys : List Bool) : bvL xs ++ bvL ys = bvL (xs ++ ys) := by unfold bvL; rw [List.map_append]
theorem Tryz.infoBl : (Tryz.prog.info? 4).map (fun i => (i.zero, i.size, i.bytes)) = some (some (.bool false), 1, 1) := by kernel_rfl
/-- a slice of the call's own that holds the pulses xs -/
def OwnPs (xs : List Bool) (w : World) (e : Ending) (w' : World) : Prop :=
  ∃ a c, e = .returned (.slice a xs.length c) ∧ w'.ownsRow w.heap.size 4 1 (.slice a xs.length c) xs.length (bvL xs) ∧ Ext w w'
theorem own_low {w : World} {B B' t sz n : Nat} {v : Value} {xs : List Value} (h : w.ownsRow B t sz v n xs) (hB : B' ≤ B) : w.ownsRow B' t sz v n xs := by
  refine ⟨h.1, h.2.imp id ?_⟩
  rintro ⟨g, cap, cur, h1, h2, h3⟩
  exact ⟨g, cap, cur, h1, Nat.le_trans hB h2, h3⟩
attribute [local go_sem] i64_and_1
theorem pulses_step (bits : Nat) (ws : List Int) (k : Nat) (x : Int) (hk : k < ws.length) (hx : ws[k]?.getD 0 = x) : pulsesN bits (ws.take k) ++ pulse1 bits x = pulsesN bits (ws.take (k + 1)) := by
  rw [← pulsesN_snoc, ← hx, List.take_succ_eq_append_getElem hk, List.getElem?_eq_getElem hk]; rfl
set_option maxHeartbeats 2000000 in
theorem pulses_any (l : Ln) (a : Option Addr) (n c : Nat) (ws : List Int) (w : World) (h : OkL l) (hn : ws.length = n) (hbig : n ≤ 64) (hI : IntsAt w a ws) (hw : ∀ x ∈ ws, 0 ≤ x ∧ x < 2 ^ l.bits.toNat) :
    Calls Tryz.prog 40 #[.agg #[.int .i64 l.words, .int .i64 l.bits, .int .i64 l.period, .int .i64 l.delay, .int .i64 l.slope, .int .i64 l.window], .slice a n c] w (OwnPs (pulsesN l.bits.toNat ws) w) := by
  obtain ⟨i0, hi, hz0, hz1, hz2⟩ := info_parts Tryz.infoBl
  obtain ⟨bb, hbb⟩ : ∃ bb : Nat, l.bits = bb := ⟨l.bits.toNat, by have := h.bits; omega⟩
  have hbt := h.bits
  rw [hbb] at hbt hw ⊢
  rw [Int.toNat_natCast] at hw ⊢
  have hw2 : ∀ k, k < ws.length → 0 ≤ ws[k]?.getD 0 ∧ ws[k]?.getD 0 ≤ 1099511627776 := fun k hk => by
    have h1 := hw ws[k] (List.getElem_mem hk)
    have h2 := two_bd (k := bb) (by omega)
    rw [List.getElem?_eq_getElem hk]
    show 0 ≤ ws[k] ∧ ws[k] ≤ _
    omega
  have hbm : bb ≤ 40 := by omega
  have hpl : ∀ k, k ≤ n → (pulsesN bb (ws.take k)).length = k * bb := fun k hk => by rw [pulsesN_length, List.length_take, hn, Nat.min_eq_left hk]
  have hkb : ∀ k j, k ≤ n → j ≤ bb → k * bb + j ≤ 2600 := fun k j hk hj => by
    have : k * bb ≤ 64 * 40 := Nat.mul_le_mul (by omega) hbm
    omega
  have HPL := Lib.hid hpl
  have HKB := Lib.hid hkb
  have HW := Lib.hid hw2
  clear hpl hkb hw2 hw hbb hbt
  rcases hI with rfl | ⟨b, off, rfl, hb, hc⟩
  · obtain rfl : n = 0 := hn.symm
    go_enter Tryz.func40, Tryz.ntmps40
    go_wp2
    go_loopw [4, 10] (fun v s10 wr => v = .slice none 0 0 ∧ s10 = .int .i64 0 ∧ Ext w wr) (fun _ _ _ => 0)
    case atStart => exact ⟨rfl, rfl, (Ext.refl w).alloc _⟩
    case round =>
      obtain ⟨rfl, rfl, E⟩ := hrel
      go_wp2
      go_ret
      exact ⟨none, 0, rfl, World.ownsRow_nil _ _ _ _, E⟩
  · have hcell : ∀ (W : World) (k : Nat), Ext w W → k < n → W.cell? ⟨b, off + k, none⟩ = some (.int .i64 (ws[k]?.getD 0)) := fun W k E hk => (E.cell (p := ⟨b, off + k, none⟩) hb).trans (hc k (by omega))
    have HC := Lib.hid hcell
    have HN := Lib.hid hn
    clear hcell hc hn
    go_enter Tryz.func40, Tryz.ntmps40
    go_wp2
    have hS := six_new (w := w) (v0 := .int .i64 l.words) (v1 := .int .i64 bb) (v2 := .int .i64 l.period) (v3 := .int .i64 l.delay) (v4 := .int .i64 l.slope) (v5 := .int .i64 l.window) (T := 57)
    have hsz : (w.alloc (.cells #[.int .i64 l.words, .int .i64 bb, .int .i64 l.period, .int .i64 l.delay, .int .i64 l.slope, .int .i64 l.window] 57)).heap.size = w.heap.size + 1 := by simp
    generalize World.alloc w _ = W0 at hS hsz ⊢
    obtain ⟨hE, -, c1, -, -, -, -⟩ := hS
    have HS := Lib.hid hsz
    clear hsz
    have HC1 := Lib.hid (fun (W : World) (E : Ext W0 W) => cell_later E c1)
    clear c1
    go_loopw [4, 10] (fun v s10 wr => ∃ k : Nat, k ≤ n ∧ s10 = .int .i64 k ∧ wr.ownsRow W0.heap.size 4 1 v (k * bb) (bvL (pulsesN bb (ws.take k))) ∧ Ext W0 wr) (fun _ s10 _ => n - (intOf s10).toNat)
    case atStart => exact ⟨0, Nat.zero_le _, rfl, by simpa [pulsesN, bvL] using World.ownsRow_nil W0 W0.heap.size 4 1, Ext.refl _⟩
    case round =>
      obtain ⟨k, hk, rfl, hown, E⟩ := hrel
      by_cases hlt : k < n
      · have hltz : (k : Int) < (n : Int) := by omega
        have hx := HC.out wr k (hE.comp E) hlt
        have hxb := HW.out k (by rw [HN.out]; exact hlt)
        obtain ⟨x, hxe⟩ : ∃ x, ws[k]?.getD 0 = x := ⟨_, rfl⟩
        rw [hxe] at hx hxb
        have HX := Lib.hid hxe
        clear hxe
        have c1 := HC1.out wr E
        obtain ⟨hx0, hx1⟩ := hxb
        go_wp2
        obtain ⟨wo, rfl⟩ : ∃ wo : World, wo = wr := ⟨_, rfl⟩
        go_loopw [4, 17] (fun v s17 wr => ∃ j : Nat, j ≤ bb ∧ s17 = .int .i64 j ∧ wr.ownsRow W0.heap.size 4 1 v (k * bb + j) (bvL (pulsesN bb (ws.take k) ++ fstN (bitN x) j)) ∧ Ext W0 wr) (fun _ s17 _ => bb - (intOf s17).toNat)
        case atStart => exact ⟨0, Nat.zero_le _, rfl, by simpa [fstN] using hown, E⟩
        case round =>
          obtain ⟨j, hj, rfl, hown2, E2⟩ := hrel
          by_cases hjl : j < bb
          · have hjz : (j : Int) < (bb : Int) := by omega
            have hkj := HKB.out k (j + 1) (by omega) (by omega)
            have hs0 := E2.size
            go_wp2_with (at_builtin; refine wpList_append_own _ rfl _ _ 89 rfl W0.heap.size 4 i0 (.bool false) 1 1 Tryz.underlying89 hi hz0 hz1 hz2 rfl (by decide) _ _ _ rfl (hown2.alloc _) ⟨wr.heap.size, 0, none⟩ 1 1 [.bool (bitN x j)] rfl rfl (cell_one_new _ _ _) (by simp [Value.oneCell']) (by unfold maxLen; omega) (by omega) (by simp; omega) ?_; intro v' w1 hown' hgrow hnil)
            have E3 : Ext W0 w1 := (E2.alloc _).grown hgrow (by simp; omega) (fun q e => (hown2.lt q e).1)
            have hown3 : w1.ownsRow W0.heap.size 4 1 v' (k * bb + (j + 1)) (bvL (pulsesN bb (ws.take k) ++ fstN (bitN x) (j + 1))) := by
              rw [fstN_succ, ← List.append_assoc, ← bvL_app]
              exact hown'
            clear hown' hgrow hnil
            go_roundw
            case rel => exact ⟨j + 1, by omega, by go_num, hown3, E3⟩
            case measure => simp [intOf]; omega
          · have hjz : ¬ (j : Int) < (bb : Int) := by omega
            obtain rfl : j = bb := by omega
            have hown3 : wr.ownsRow W0.heap.size 4 1 u4 ((k + 1) * j) (bvL (pulsesN j (ws.take (k + 1)))) := by
              rw [← pulses_step j ws k x (by rw [HN.out]; exact hlt) HX.out, Nat.add_mul, Nat.one_mul]
              exact hown2
            go_wp2
            go_roundw
            case rel => exact ⟨k + 1, by omega, by go_num, hown3, E2⟩
            case measure => simp [intOf]; omega
      · have hltz : ¬ (k : Int) < (n : Int) := by omega
        obtain rfl : k = n := by omega
        rw [show ws.take k = ws from List.take_of_length_le (by rw [HN.out]; exact Nat.le_refl _)] at hown
        have hl := HPL.out k (Nat.le_refl _)
        rw [show ws.take k = ws from List.take_of_length_le (by rw [HN.out]; exact Nat.le_refl _)] at hl
        rw [← hl] at hown
        obtain ⟨a', c', rfl⟩ := own_form hown
        have hE1 := hE.comp E
        have hown1 := own_low hown (show w.heap.size ≤ W0.heap.size by rw [HS.out]; omega)
        have HL := Lib.hid hl
        clear hl
        go_wp2
        go_ret
        exact ⟨a', c', rfl, hown1, hE1⟩
end Go.Proofs.YtbcciokmlkofkaaGreat

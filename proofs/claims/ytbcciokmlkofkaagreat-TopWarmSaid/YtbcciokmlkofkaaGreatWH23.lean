import Derived.Laws.IdiomStrings
import Derived.Deep.LoopGhost
import Derived.Test.YtbcciokmlkofkaaGreatWH13
import Derived.Test.YtbcciokmlkofkaaGreatWH3
import Derived.Test.YtbcciokmlkofkaaGreatWH20
set_option linter.unusedVariables false
set_option linter.unusedSimpArgs false
/- Contracts of layer 1's reference: in, Temp. -/
namespace Go.Proofs.YtbcciokmlkofkaaGreat
open Go.RowKit Go.Q Go.Shelf
end Go.Proofs.YtbcciokmlkofkaaGreat
/- Contract of layer 1: Name. -/
namespace Go.Proofs.YtbcciokmlkofkaaGreat
open Go.RowKit Go.Q
theorem name_all {s : List Int} (h1 : inB s.length 1 20 = true) (h2 : ((s[s.length - 1]?.getD 0) == 95) = false) (h3 : ∀ i, i < s.length → nameC i (s[i]?.getD 0) = true) : nameB s = true := by
  unfold nameB
  rw [h1, h2, Bool.not_false, Bool.true_and, Bool.true_and, List.all_eq_true]
  intro i hi
  exact h3 i (List.mem_range.1 hi)
theorem name_no {s : List Int} {i : Nat} (hi : i < s.length) (h : nameC i (s[i]?.getD 0) = false) : nameB s = false := by
  unfold nameB
  have : ((List.range s.length).all fun i => nameC i (s[i]?.getD 0)) = false := by
    rw [List.all_eq_false]
    exact ⟨i, List.mem_range.2 hi, by rw [h]; simp⟩
  rw [this, Bool.and_false]
set_option maxHeartbeats 4000000 in
theorem name_any (s : ByteArray) (w : World) (hs : s.size ≤ 9223372036854775807) :
    Calls Tryz.prog 31 #[.string s] w fun e w' => e = .returned (.bool (nameB (bytesS s))) ∧ Ext w w' := by
  have ho := fun W => lout_any (s.size : Int) 1 20 W
  cases h1 : inB (s.size : Int) 1 20 with
  | false =>
    have e1 : nameB (bytesS s) = false := by unfold nameB; rw [bytesS_length, h1]; rfl
    rw [h1] at ho
    rw [e1]
    clear e1 h1
    go_enter Tryz.func31, Tryz.ntmps31
    go_wp2_with fail
    refine (ho _).mono ?_
    rintro e w1 ⟨rfl, rfl⟩
    go_wp2
    go_ret
    exact ⟨rfl, Ext.refl _⟩
  | true =>
    rw [h1] at ho
    have hb := inB_bd h1
    have hl0 : s.size - 1 < s.size := by omega
    have hlast := bytesS_get s (s.size - 1) hl0
    cases h2 : ((bytesS s)[s.size - 1]?.getD 0 == 95) with
    | true =>
      have e1 : nameB (bytesS s) = false := by unfold nameB; rw [bytesS_length, h2]; simp
      rw [e1]
      have h3 : ((s[s.size - 1].toNat : Int) == 95) = true := by rw [← hlast]; exact h2
      have HL := Lib.hid hlast
      have HB := Lib.hid hb
      clear e1 h1 h2 hlast
      go_enter Tryz.func31, Tryz.ntmps31
      go_wp2_with fail
      refine (ho _).mono ?_
      rintro e w1 ⟨rfl, rfl⟩
      go_wp2
      go_ret
      exact ⟨rfl, Ext.refl _⟩
    | false =>
      have h3 : ((s[s.size - 1].toNat : Int) == 95) = false := by rw [← hlast]; exact h2
      have H1 := Lib.hid h1
      have H2 := Lib.hid h2
      have HB := Lib.hid hb
      clear h1 h2 hlast
      have kc := fun W => run_bytes_of_string (P := Tryz.prog) W 9 31 5 s Tryz.underlying9 Tryz.underlying31 Tryz.underlying5
      go_enter Tryz.func31, Tryz.ntmps31
      go_wp2_with fail
      refine (ho _).mono ?_
      rintro e w1 ⟨rfl, rfl⟩
      go_wp2
      have hcells : ∀ i, i < s.size → ((w.alloc (.cells (bytesRow s (grownCap w s.size 0 5)) 5 ((bytesRow s (grownCap w s.size 0 5)).size, (bytesRow s (grownCap w s.size 0 5)).size + 1))).drew).cell? ⟨w.heap.size, i, none⟩ = some (.int .u8 ((bytesS s)[i]?.getD 0)) := by
        intro i hi
        rw [World.cell?_drew, bytesS_get s i hi]
        have hc : (bytesRow s (grownCap w s.size 0 5))[i]? = some (.int .u8 (s[i].toNat : Int)) := by
          unfold bytesRow
          rw [Array.getElem?_append_left (by simpa using hi)]
          simp [hi]
          rfl
        have e : (w.alloc (.cells (bytesRow s (grownCap w s.size 0 5)) 5 ((bytesRow s (grownCap w s.size 0 5)).size, (bytesRow s (grownCap w s.size 0 5)).size + 1))).heap[w.heap.size]? = some (.cells (bytesRow s (grownCap w s.size 0 5)) 5 ((bytesRow s (grownCap w s.size 0 5)).size, (bytesRow s (grownCap w s.size 0 5)).size + 1)) := heap_alloc_new w _
        simp only [World.cell?, e]
        simpa using hc
      have hE : Ext w ((w.alloc (.cells (bytesRow s (grownCap w s.size 0 5)) 5 ((bytesRow s (grownCap w s.size 0 5)).size, (bytesRow s (grownCap w s.size 0 5)).size + 1))).drew) := ((Ext.refl w).alloc _).drew
      generalize World.drew _ = W at hcells hE ⊢
      have HC := Lib.hid hcells
      clear hcells kc
      go_loop [19] (fun s19 => ∃ k : Nat, k ≤ s.size ∧ s19 = .int .i64 k ∧ Aside (∀ i, i < k → nameC i ((bytesS s)[i]?.getD 0) = true)) (fun s19 => s.size - (intOf s19).toNat)
      case atStart => exact ⟨0, Nat.zero_le _, rfl, fun i hi => absurd hi (Nat.not_lt_zero _)⟩
      case round =>
        obtain ⟨k, hk, rfl, HA⟩ := hrel
        by_cases hlt : k < s.size
        · have hltz : (k : Int) < (s.size : Int) := by omega
          have hcx := HC.out k hlt
          have hyes : nameC k ((bytesS s)[k]?.getD 0) = true → ∃ u : Nat, u ≤ s.size ∧ Value.int .i64 ((k : Int) + 1) = .int .i64 u ∧ Aside (∀ i, i < u → nameC i ((bytesS s)[i]?.getD 0) = true) := by
            intro h
            refine ⟨k + 1, by omega, by go_num, (show Aside _ from fun i hi => ?_)⟩
            by_cases e : i = k
            · rw [e]; exact h
            · exact HA.out i (by omega)
          have hno : nameC k ((bytesS s)[k]?.getD 0) = false → nameB (bytesS s) = false := name_no (by rw [bytesS_length]; exact hlt)
          have HY := Lib.hid hyes
          have HN := Lib.hid hno
          clear hyes hno
          obtain ⟨c, hc⟩ : ∃ c, (bytesS s)[k]?.getD 0 = c := ⟨_, rfl⟩
          rw [hc] at hcx HY HN
          clear hc
          by_cases h97 : 97 ≤ c ∧ c ≤ 122
          · obtain ⟨h97a, h97b⟩ := h97
            go_wp2
            go_round
            case rel => exact HY.out (by unfold nameC; simp [h97a, h97b])
            case measure => simp [intOf]; omega
          · by_cases hk0 : 0 < k
            · have hk0z : (0 : Int) < (k : Int) := by omega
              cases h95 : (c == 95) with
              | true =>
                have e95 : c = 95 := by simpa using h95
                subst e95
                clear h95
                go_wp2
                go_round
                case rel => exact HY.out (by unfold nameC; simp [hk0])
                case measure => simp [intOf]; omega
              | false =>
                by_cases h48 : 48 ≤ c ∧ c ≤ 57
                · obtain ⟨h48a, h48b⟩ := h48
                  have : ¬ 97 ≤ c := by omega
                  go_wp2
                  go_round
                  case rel => exact HY.out (by unfold nameC; simp [hk0, h48a, h48b])
                  case measure => simp [intOf]; omega
                · have hn : nameC k c = false := by
                    unfold nameC
                    rw [h95]
                    simp
                    omega
                  have HNN := Lib.hid (HN.out hn)
                  clear hn HN HY
                  by_cases a97 : 97 ≤ c
                  · have b122 : ¬ c ≤ 122 := by omega
                    have a48 : 48 ≤ c := by omega
                    have b57 : ¬ c ≤ 57 := by omega
                    go_wp2
                    go_ret
                    exact ⟨by rw [HNN.out]; rfl, hE⟩
                  · by_cases a48 : 48 ≤ c
                    · have b57 : ¬ c ≤ 57 := by omega
                      go_wp2
                      go_ret
                      exact ⟨by rw [HNN.out]; rfl, hE⟩
                    · go_wp2
                      go_ret
                      exact ⟨by rw [HNN.out]; rfl, hE⟩
            · have hk0z : ¬ (0 : Int) < (k : Int) := by omega
              have hn : nameC k c = false := by
                unfold nameC
                simp [hk0]
                omega
              have HNN := Lib.hid (HN.out hn)
              clear hn HN HY
              by_cases a97 : 97 ≤ c
              · have b122 : ¬ c ≤ 122 := by omega
                go_wp2
                go_ret
                exact ⟨by rw [HNN.out]; rfl, hE⟩
              · go_wp2
                go_ret
                exact ⟨by rw [HNN.out]; rfl, hE⟩
        · have hltz : ¬ (k : Int) < (s.size : Int) := by omega
          have e := Lib.hid (name_all (s := bytesS s) (by rw [bytesS_length]; exact H1.out) (by rw [bytesS_length]; exact H2.out) (fun i hi => HA.out i (by rw [bytesS_length] at hi; omega)))
          go_wp2
          go_ret
          exact ⟨by rw [e.out]; rfl, hE⟩
end Go.Proofs.YtbcciokmlkofkaaGreat
/- Contracts of layer 1's reference: Check, Name, Next. -/
namespace Go.Proofs.YtbcciokmlkofkaaGreat
open Go.RowKit Go.Q Go.Shelf
theorem next_hit {l : Ln} (h : OkL l) {a b : Int} (ha : 0 ≤ a ∧ a ≤ l.words - 1) (hb : 0 ≤ b) {k : Int} (hk : 0 ≤ k) (hr : k ≤ turnL l (a * l.bits - b - 1)) :
    ((b + 1 + k) % (l.words * l.bits) != a * l.bits) = decide (k < turnL l (a * l.bits - b - 1)) := by
  have hB := h.beats
  have hbt := h.bits
  have h1 := mul_bd (a := a) (b := l.bits) ha.1 ha.2 (by omega) (Int.le_refl _)
  have h2 : (l.words - 1) * l.bits = l.words * l.bits - l.bits := by rw [Int.sub_mul]; omega
  unfold turnL at *
  unfold beatsL at *
  rw [h2] at h1
  generalize l.words * l.bits = B at *
  generalize a * l.bits = c at *
  have e1 := Int.emod_add_mul_ediv (c - b - 1) B
  have e2 := Int.emod_nonneg (c - b - 1) (show B ≠ 0 by omega)
  have e3 := Int.emod_lt_of_pos (c - b - 1) (show 0 < B by omega)
  generalize (c - b - 1) / B = q at *
  generalize (c - b - 1) % B = r at *
  have e4 : b + 1 + k = (c + (k - r)) + B * (-q) := by rw [Int.mul_neg]; omega
  rw [e4, Int.add_mul_emod_self_left]
  by_cases hkr : k < r
  · rw [decide_eq_true hkr, bne_iff_ne]
    intro e
    by_cases hn : 0 ≤ c + (k - r)
    · rw [Int.emod_eq_of_lt hn (by omega)] at e; omega
    · have e5 : c + (k - r) = (c + (k - r) + B) + B * (-1) := by omega
      rw [e5, Int.add_mul_emod_self_left, Int.emod_eq_of_lt (by omega) (by omega)] at e
      omega
  · rw [decide_eq_false hkr, bne_eq_false_iff_eq]
    obtain rfl : k = r := by omega
    rw [show c + (k - k) = c by omega, Int.emod_eq_of_lt (by omega) (by omega)]
end Go.Proofs.YtbcciokmlkofkaaGreat
/- Contracts of layer 1's reference: shift, Shift, safe. -/
namespace Go.Q
/-- division that rounds to zero is near the floor -/
theorem near_by {a b w : Int} (hb : 2 ≤ b) (hw0 : 0 ≤ w) (hw1 : w ≤ (b - 1) / 2) : a.tdiv b - 1 ≤ (a + w) / b ∧ (a + w) / b ≤ a.tdiv b + 1 := by
  have h := floor_of_tdiv (a := a) (b := b) (by omega)
  have e1 := Int.emod_add_mul_ediv a b
  have e2 := Int.emod_nonneg a (show b ≠ 0 by omega)
  have e3 := Int.emod_lt_of_pos a (show 0 < b by omega)
  have e4 : a / b ≤ (a + w) / b := Int.ediv_le_ediv (by omega) (by omega)
  have e5 : (a + w) / b ≤ a / b + 1 := by
    have : (a + w) / b ≤ (a + b) / b := Int.ediv_le_ediv (by omega) (by omega)
    rw [show a + b = a + b * 1 by omega, Int.add_mul_ediv_left _ _ (by omega)] at this
    exact this
  by_cases hneg : a.tmod b < 0
  · rw [if_pos hneg] at h
    omega
  · rw [if_neg hneg] at h
    omega
/-- pulses that are late by s beats come within the window -/
theorem hit_shift {l : Ln} (h : OkL l) (t s : Int) : inB (l.delay + l.slope * t - l.words * l.bits * l.period - s * l.period) (-l.window) l.window = (!lostL l t && (s == byL l t)) := by
  have hp := h.period
  have hw := h.window
  have e : l.delay + l.slope * t - l.words * l.bits * l.period - s * l.period = lateL l t - l.window - s * l.period := by unfold lateL beatsL; omega
  rw [e]
  unfold lostL byL
  have e1 := Int.emod_add_mul_ediv (lateL l t) l.period
  have e2 := Int.emod_nonneg (lateL l t) (show l.period ≠ 0 by omega)
  have e3 := Int.emod_lt_of_pos (lateL l t) (show 0 < l.period by omega)
  rw [Int.mul_comm l.period] at e1
  generalize lateL l t = A at *
  generalize hq : A / l.period = q at *
  generalize A % l.period = r at *
  unfold inB
  by_cases hs : s = q
  · subst hs
    rw [beq_self_eq_true, Bool.and_true]
    by_cases hr : 2 * l.window < r
    · rw [decide_eq_true hr, decide_eq_false (show ¬ A - l.window - s * l.period ≤ l.window by omega), Bool.and_false]; rfl
    · rw [decide_eq_false hr, decide_eq_true (show A - l.window - s * l.period ≤ l.window by omega), decide_eq_true (show -l.window ≤ A - l.window - s * l.period by omega)]; rfl
  · have hne : (s == q) = false := by simpa using hs
    rw [hne, Bool.and_false]
    rcases Int.lt_or_gt_of_ne hs with h1 | h1
    · have h2 : (q - s) * l.period ≥ 1 * l.period := Int.mul_le_mul_of_nonneg_right (by omega) (by omega)
      rw [Int.sub_mul] at h2
      rw [decide_eq_false (show ¬ A - l.window - s * l.period ≤ l.window by omega), Bool.and_false]
    · have h2 : (s - q) * l.period ≥ 1 * l.period := Int.mul_le_mul_of_nonneg_right (by omega) (by omega)
      rw [Int.sub_mul] at h2
      rw [decide_eq_false (show ¬ -l.window ≤ A - l.window - s * l.period by omega), Bool.false_and]
theorem near_shift {l : Ln} (h : OkL l) (t : Int) : (l.delay + l.slope * t - l.words * l.bits * l.period).tdiv l.period - 1 ≤ byL l t ∧ byL l t ≤ (l.delay + l.slope * t - l.words * l.bits * l.period).tdiv l.period + 1 := by
  have hp := h.period
  have hw := h.window
  have := near_by (a := l.delay + l.slope * t - l.words * l.bits * l.period) (b := l.period) (w := l.window) (by omega) hw.1 hw.2
  unfold byL lateL beatsL
  exact this
end Go.Q
namespace Go.Proofs.YtbcciokmlkofkaaGreat
open Go.RowKit Go.Q Go.Shelf
end Go.Proofs.YtbcciokmlkofkaaGreat
/- Contracts of layer 1: Safe; the reference's Safe. -/
namespace Go.Q
/-- the safe ones of the first k temperatures -/
def safeK (l : Ln) (k : Nat) : List Int := (fstN (fun i => (-500 : Int) + (i : Int)) k).filter (safeL l)
theorem safeK_yes {l : Ln} {k : Nat} {t : Int} (h : (-500 : Int) + (k : Int) = t) (hs : safeL l t = true) : safeK l (k + 1) = safeK l k ++ [t] := by
  unfold safeK; rw [fstN_succ, List.filter_append, h]; simp [hs]
theorem safeK_no {l : Ln} {k : Nat} {t : Int} (h : (-500 : Int) + (k : Int) = t) (hs : safeL l t = false) : safeK l (k + 1) = safeK l k := by
  unfold safeK; rw [fstN_succ, List.filter_append, h]; simp [hs]
theorem safeK_len (l : Ln) (k : Nat) : (safeK l k).length ≤ k := by
  unfold safeK
  exact Nat.le_trans (List.length_filter_le _ _) (by rw [fstN_length]; exact Nat.le_refl _)
theorem safeK_bd {l : Ln} {k : Nat} {t : Int} (h : t ∈ safeK l k) : -500 ≤ t ∧ t < -500 + (k : Int) := by
  unfold safeK fstN at h
  obtain ⟨i, hi, rfl⟩ := List.mem_map.1 (List.mem_filter.1 h).1
  rw [List.mem_range] at hi
  omega
def loK (l : Ln) (k : Nat) : Int := (safeK l k).foldl min 1001
def hiK (l : Ln) (k : Nat) : Int := (safeK l k).foldl max (-501)
/-- what Safe returns -/
def safeE (l : Ln) : Sp × Int := if okL l = true then (if safeK l 1501 = [] then (⟨0, 0⟩, 9) else (⟨loK l 1501, hiK l 1501⟩, 0)) else (⟨0, 0⟩, 7)
end Go.Q
namespace Go.Proofs.YtbcciokmlkofkaaGreat
open Go.RowKit Go.Q Go.Shelf Go.Maps
theorem own_ext {w w' : World} {B t sz n : Nat} {v : Value} {xs : List Value} (h : w.ownsRow B t sz v n xs) (E : Ext w w') : w'.ownsRow B t sz v n xs :=
  h.kept (row := none) ⟨E.os, E.tape, E.output, E.size, fun k hk _ => E.block k hk⟩ (by cases v.ownBlock <;> simp)
theorem set2x {W : World} {b : Nat} {T : TypeId} {x y : Value} (h : W.heap[b]? = some (.cells #[x, y] T (0, 0))) (u v : Value) : ((W.setCell ⟨b, 0, none⟩ u).setCell ⟨b, 1, none⟩ v).heap[b]? = some (.cells #[u, v] T (0, 0)) := by
  have h1 : (W.setCell ⟨b, 0, none⟩ u).heap[b]? = some (.cells #[u, y] T (0, 0)) := by simpa using heap_setCell_same W b 0 _ _ u h
  simpa using heap_setCell_same (W.setCell ⟨b, 0, none⟩ u) b 1 _ _ v h1
theorem loK_yes {l : Ln} {k : Nat} {t : Int} (h : (-500 : Int) + (k : Int) = t) (hs : safeL l t = true) : loK l (k + 1) = min (loK l k) t := by
  unfold loK; rw [safeK_yes h hs, List.foldl_append]; rfl
theorem hiK_lt (l : Ln) (k : Nat) : hiK l k < -500 + (k : Int) := by
  have h := (fold_max (fun x : Int => x) (safeK l k) (-501)).2.2
  have e : hiK l k = (safeK l k).foldl (fun a s => max a s) (-501) := rfl
  rw [e]
  rcases h with h | ⟨s, hs, h⟩
  · rw [h]; omega
  · rw [h]; exact (safeK_bd hs).2
theorem hiK_yes {l : Ln} {k : Nat} {t : Int} (h : (-500 : Int) + (k : Int) = t) (hs : safeL l t = true) : hiK l (k + 1) = t := by
  have hl := hiK_lt l k
  unfold hiK at *
  rw [safeK_yes h hs, List.foldl_append]
  show max ((safeK l k).foldl max (-501)) t = t
  omega
theorem loK_bd (l : Ln) (k : Nat) : loK l k ≤ 1001 ∧ -501 ≤ hiK l k := ⟨(fold_min (fun x : Int => x) (safeK l k) 1001).1, (fold_max (fun x : Int => x) (safeK l k) (-501)).1⟩
theorem lohi_no {l : Ln} {k : Nat} (h : safeK l k = []) : hiK l k < loK l k := by unfold hiK loK; rw [h]; decide
theorem lohi_yes {l : Ln} {k : Nat} (h : safeK l k ≠ []) : loK l k ≤ hiK l k := by
  obtain ⟨x, hx⟩ := List.exists_mem_of_ne_nil _ h
  have h1 := (fold_min (fun x : Int => x) (safeK l k) 1001).2.1 x hx
  have h2 := (fold_max (fun x : Int => x) (safeK l k) (-501)).2.1 x hx
  exact Int.le_trans h1 h2
theorem minOf_from {x : Int} {ys : List Int} (h : x ≤ 1001) : (x :: ys).foldl min 1001 = Lib.minOf (x :: ys) := by
  show ys.foldl min (min 1001 x) = ys.foldl min (min x x)
  rw [Int.min_eq_right h, Int.min_self]
theorem maxOf_from {x : Int} {ys : List Int} (h : -501 ≤ x) : (x :: ys).foldl max (-501) = Lib.maxOf (x :: ys) := by
  show ys.foldl max (max (-501) x) = ys.foldl max (max x x)
  rw [Int.max_eq_right h, Int.max_self]
end Go.Proofs.YtbcciokmlkofkaaGreat

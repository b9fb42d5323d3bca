/- Contracts of layer 1's reference: Power, Words. -/
import Derived.Test.YtkkchoinfdfiaaaI1
import Derived.Test.YtkkchoinfdfiaaaH22
import Derived.Deep.RegionHeld3
set_option linter.unusedVariables false
set_option linter.unusedSimpArgs false
namespace Go.Q
theorem two_le {k : Nat} (h : k ≤ 40) : (1 : Int) ≤ 2 ^ k ∧ (2 : Int) ^ k ≤ 1099511627776 := by
  have h1 : (2 : Int) ^ k ≤ 2 ^ 40 := by exact_mod_cast Nat.pow_le_pow_right (by decide : 0 < 2) h
  have h2 : (0 : Int) < 2 ^ k := Int.pow_pos (by decide)
  have e : (2 : Int) ^ 40 = 1099511627776 := by decide
  omega
end Go.Q
namespace Go.Proofs.Ytkkchoinfdfiaaa
open Go.RowKit Go.Q Go.Shelf Go.Maps

set_option maxHeartbeats 1000000 in
theorem rpower_any (n : Nat) (w : World) (hn : n ≤ 40) : Calls Try.prog 88 #[.int .i64 n] w fun e w' => e = .returned (.int .i64 (2 ^ n)) ∧ w' = w := by
  go_enter Try.func88, Try.ntmps88
  go_wp2
  go_loopw [3, 4] (fun s2 s3 wr => ∃ k : Nat, k ≤ n ∧ s3 = .int .i64 k ∧ s2 = .int .i64 (2 ^ k) ∧ wr = w) (fun _ s3 _ => n - (Go.RowKit.intOf s3).toNat)
  case atStart => exact ⟨0, Nat.zero_le _, rfl, rfl, rfl⟩
  case round =>
    obtain ⟨k, hk, rfl, rfl, rfl⟩ := hrel
    by_cases hlt : k < n
    · have hltz : (k : Int) < (n : Int) := by omega
      have hb := two_le (k := k) (by omega)
      have HP := Lib.hid (show (2 : Int) ^ (k + 1) = 2 * 2 ^ k by rw [Int.pow_succ]; omega)
      obtain ⟨x, hx⟩ : ∃ x, (2 : Int) ^ k = x := ⟨_, rfl⟩
      rw [hx] at hb HP ⊢
      obtain ⟨hb0, hb1⟩ := hb
      clear hx
      go_wp2
      go_roundw
      case rel => exact ⟨k + 1, by omega, by go_num, by rw [HP.out], (by first | rfl | trivial)⟩
      case measure => simp [Go.RowKit.intOf]; omega
    · have hltz : ¬ (k : Int) < (n : Int) := by omega
      obtain rfl : k = n := by omega
      go_wp2
      exact bodyPost_ret (v := .int .i64 (2 ^ k)) (by simp [results, Try.results88, go_sem]) rfl ⟨rfl, rfl⟩
theorem wordsE_bad {l : Ln} {ws : List Int} (hl : (ws.length : Int) = l.words) {k : Nat} (hk : k < ws.length) (h : inB (ws[k]?.getD 0) 0 (2 ^ l.bits.toNat - 1) = false) : wordsE l ws = 7 := by
  rw [wordsE_eq hl, if_pos]
  rw [List.any_eq_true]
  rw [List.getElem?_eq_getElem hk] at h
  exact ⟨_, List.getElem_mem hk, by rw [show (some ws[k]).getD 0 = ws[k] from rfl] at h; rw [h]; rfl⟩
theorem wordsE_all {l : Ln} {ws : List Int} (hl : (ws.length : Int) = l.words) (h : ∀ k, k < ws.length → inB (ws[k]?.getD 0) 0 (2 ^ l.bits.toNat - 1) = true) : wordsE l ws = 0 := by
  rw [wordsE_eq hl, if_neg]
  rw [Bool.not_eq_true, List.any_eq_false]
  intro x hx
  obtain ⟨i, hi, rfl⟩ := List.mem_iff_getElem.1 hx
  have := h i hi
  rw [List.getElem?_eq_getElem hi, show (some ws[i]).getD 0 = ws[i] from rfl] at this
  rw [this]
  simp
set_option maxHeartbeats 2000000 in
theorem rwords_any (l : Ln) (a : Option Addr) (n c : Nat) (ws : List Int) (w : World) (h : OkL l) (hn : ws.length = n) (hbig : n ≤ 9223372036854775807) (hI : IntsAt w a ws) :
    Calls Try.prog 61 #[.agg #[.int .i64 l.words, .int .i64 l.bits, .int .i64 l.period, .int .i64 l.delay, .int .i64 l.slope, .int .i64 l.window], .slice a n c] w fun e w' => e = .returned (.int .i64 (wordsE l ws)) ∧ Ext w w' := by
  have hb := h.bits
  by_cases hl : (n : Int) = l.words
  · have hlb : ((n : Int) != l.words) = false := by simp [hl]
    have hnw : n ≤ 64 := by have := h.words; omega
    obtain ⟨bb, hbb⟩ : ∃ bb : Nat, l.bits = bb := Int.eq_ofNat_of_zero_le (by omega)
    have hpw := fun W => rpower_any bb W (by omega)
    rw [← hbb] at hpw
    have h2 := two_le (k := bb) (by omega)
    have HL := Lib.hid (show (ws.length : Int) = l.words by omega)
    have HN := Lib.hid hn
    have HBB := Lib.hid (show l.bits.toNat = bb by omega)
    obtain ⟨P, hP⟩ : ∃ P : Int, (2 : Int) ^ bb = P := ⟨_, rfl⟩
    rw [hP] at hpw h2
    have HP := Lib.hid hP
    obtain ⟨h20, h21⟩ := h2
    have w1 : IntKind.i64.wrap (P - 1) = P - 1 := IntWalk.i64_in _ (by omega)
    clear hl hn hbb hP hb
    go_enter Try.func61, Try.ntmps61
    go_wp2
    have HE := Lib.hid (show Ext w (w.alloc (.cells #[.int .i64 l.words, .int .i64 l.bits, .int .i64 l.period, .int .i64 l.delay, .int .i64 l.slope, .int .i64 l.window] 25)) from (Ext.refl w).alloc _)
    have HB := Lib.hid (box_at (v := .int .i64 l.bits) (Ext.refl (w.alloc (.cells #[.int .i64 l.words, .int .i64 l.bits, .int .i64 l.period, .int .i64 l.delay, .int .i64 l.slope, .int .i64 l.window] 25))) 1 rfl)
    generalize w.alloc (.cells #[.int .i64 l.words, .int .i64 l.bits, .int .i64 l.period, .int .i64 l.delay, .int .i64 l.slope, .int .i64 l.window] 25) = W at HE HB ⊢
    go_loopw [5] (fun s5 wr => ∃ k : Nat, k ≤ n ∧ s5 = .int .i64 k ∧ Aside (∀ j, j < k → inB (ws[j]?.getD 0) 0 (P - 1) = true) ∧ Ext W wr) (fun s5 _ => n - (Go.RowKit.intOf s5).toNat)
    case atStart => exact ⟨0, Nat.zero_le _, rfl, (fun j hj => absurd hj (Nat.not_lt_zero _)), Ext.refl _⟩
    case round =>
      obtain ⟨k, hk, rfl, HA, hEw⟩ := hrel
      by_cases hlt : k < n
      · have hltz : (k : Int) < (n : Int) := by omega
        rcases hI with e | ⟨b, off, rfl, hbl, hc⟩
        · have := HN.out
          rw [e] at this; simp at this; omega
        have hx := ((HE.out.comp hEw).cell (p := ⟨b, off + k, none⟩) hbl).trans (hc k (by rw [HN.out]; exact hlt))
        have hbc := cell_laterA HB.out hEw
        have hin := fun W => rin_any (ws[k]?.getD 0) 0 (P - 1) W
        obtain ⟨x, hxe⟩ : ∃ x, ws[k]?.getD 0 = x := ⟨_, rfl⟩
        rw [hxe] at hx hin
        have HXE := Lib.hid hxe
        clear hxe hc
        cases hi : inB x 0 (P - 1) with
        | true =>
          rw [hi] at hin
          have HA2 : Aside (∀ j, j < k + 1 → inB (ws[j]?.getD 0) 0 (P - 1) = true) := (show Aside _ from fun j hj => by
            by_cases e : j = k
            · rw [e, HXE.out]; exact hi
            · exact HA.out j (by omega))
          clear hi HA
          go_wp2_with fail
          go_region_held3 (fun w' => Ext W w' ∧ w'.cell? ⟨w.heap.size, 1, none⟩ = some (.int .i64 l.bits) ∧ w'.cell? ⟨b, off + k, none⟩ = some (.int .i64 x))
            (first | assumption | exact ⟨hEw.drew, hbc, hx⟩)
            (first | (go_at_call 88; refine (hpw _).mono ?_; rintro e w' ⟨rfl, rfl⟩) | (go_at_call 54; refine (hin _).mono ?_; rintro e w' ⟨rfl, rfl⟩))
          all_goals
            have hh := ‹Ext W _ ∧ _ ∧ _›
            have hE5 := hh.1
            clear hh hEw hbc hx
            go_wp2
            go_roundw
            case rel => exact ⟨k + 1, by omega, by go_num, HA2, hE5⟩
            case measure => simp [Go.RowKit.intOf]; omega
        | false =>
          rw [hi] at hin
          have HF := Lib.hid (show wordsE l ws = 7 from wordsE_bad HL.out (k := k) (by rw [HN.out]; exact hlt) (by rw [HBB.out, HP.out, HXE.out]; exact hi))
          clear hi HA
          go_wp2_with fail
          go_region_held3 (fun w' => Ext W w' ∧ w'.cell? ⟨w.heap.size, 1, none⟩ = some (.int .i64 l.bits) ∧ w'.cell? ⟨b, off + k, none⟩ = some (.int .i64 x))
            (first | assumption | exact ⟨hEw.drew, hbc, hx⟩)
            (first | (go_at_call 88; refine (hpw _).mono ?_; rintro e w' ⟨rfl, rfl⟩) | (go_at_call 54; refine (hin _).mono ?_; rintro e w' ⟨rfl, rfl⟩))
          all_goals
            have hh := ‹Ext W _ ∧ _ ∧ _›
            have hE5 := hh.1
            clear hh hEw hbc hx
            go_wp2
            refine bodyPost_ret (v := .int .i64 7) (by simp [results, Try.results61, go_sem]) rfl ⟨by rw [HF.out], HE.out.comp hE5⟩
      · have hltz : ¬ (k : Int) < (n : Int) := by omega
        obtain rfl : k = n := by omega
        have HF := Lib.hid (show wordsE l ws = 0 from wordsE_all HL.out (fun j hj => by rw [HBB.out, HP.out]; exact HA.out j (by rw [HN.out] at hj; exact hj)))
        go_wp2
        refine bodyPost_ret (v := .int .i64 0) (by simp [results, Try.results61, go_sem]) rfl ⟨by rw [HF.out], HE.out.comp hEw⟩
  · rw [wordsE_len (by omega)]
    have hlb : ((n : Int) != l.words) = true := by simp [hl]
    clear hI hn
    go_enter Try.func61, Try.ntmps61
    go_wp2
    go_ret
    exact ⟨rfl, (Ext.refl w).alloc _⟩
end Go.Proofs.Ytkkchoinfdfiaaa

import Derived.Test.YtbcciokmlkofkaaGreatWH5
set_option linter.unusedVariables false
set_option linter.unusedSimpArgs false
/- Contracts of layer 1: the words of pulses. -/
namespace Go.Proofs.YtbcciokmlkofkaaGreat
open Go.RowKit Go.Q Go.Shelf
/-- the pulses ps lie from a on -/
def PulsesAt (w : World) (a : Option Addr) (ps : List Bool) : Prop :=
  ps = [] ∨ ∃ b off, a = some ⟨b, off, none⟩ ∧ b < w.heap.size ∧ ∀ i, i < ps.length → w.cell? ⟨b, off + i, none⟩ = some (.bool (ps[i]?.getD false))
theorem PulsesAt.ext {w w' : World} {a : Option Addr} {ps : List Bool} (h : PulsesAt w a ps) (E : Ext w w') : PulsesAt w' a ps :=
  h.imp id fun ⟨b, off, ha, hb, hc⟩ => ⟨b, off, ha, Nat.lt_of_lt_of_le hb E.size, fun i hi => (E.cell (p := ⟨b, off + i, none⟩) hb).trans (hc i hi)⟩
theorem OwnPs.at_ {w : World} {B n c : Nat} {a : Option Addr} {ps : List Bool} (h : w.ownsRow B 4 1 (.slice a n c) n (bvL ps)) : PulsesAt w a ps := by
  rcases h.2 with ⟨h1, h2⟩ | ⟨g, cap, cur, h1, h2, h3, h4, h5, h6, h7⟩
  · left
    have h0 := h.1
    rw [bvL_length, h2] at h0
    simpa using h0
  · obtain ⟨rfl, -, -⟩ := Value.slice.inj h1
    refine .inr ⟨g, 0, rfl, (Array.getElem?_eq_some_iff.1 h3).1, fun i hi => ?_⟩
    have := World.ownsRow.cells h (g := g) rfl i (.bool (ps[i]?.getD false)) (bvL_get ps i hi)
    rw [Addr.add_lit] at this
    exact this
theorem words_step (bits : Nat) (ps : List Bool) (k : Nat) (x : Int) (h : wordN bits ps k = x) : wordsN bits k ps ++ [x] = wordsN bits (k + 1) ps := by
  unfold wordsN
  rw [fstN_succ, h]
theorem i64_or_low {n : Int} {j : Nat} (h0 : 0 ≤ n) (h1 : n < 2 ^ j) (hj : j ≤ 40) : bits .or .i64 n (2 ^ j) = n + 2 ^ j := by
  have h2 := two_bd hj
  have e := bits_join .i64 62 (by decide) (fun n h0 h1 => by rw [IntKind.wrap_i64]; omega) j (2 ^ j) n (by omega) (by simp) (by omega) h0 h1 (by omega)
  have hc : bits .or .i64 n (2 ^ j) = bits .or .i64 (2 ^ j) n := by
    show IntKind.i64.wrap ((BitVec.ofInt 64 n ||| BitVec.ofInt 64 (2 ^ j)).toNat : Nat) = IntKind.i64.wrap ((BitVec.ofInt 64 (2 ^ j) ||| BitVec.ofInt 64 n).toNat : Nat)
    rw [BitVec.or_comm]
  rw [hc, e, Int.add_comm]
set_option maxRecDepth 100000 in
set_option maxHeartbeats 2000000 in
theorem words_any (l : Ln) (a : Option Addr) (n c : Nat) (ps : List Bool) (w : World) (h : OkL l) (hn : ps.length = n) (hnb : (n : Int) = beatsL l) (hI : PulsesAt w a ps) (hc1 : n ≤ c) (hc2 : c ≤ 9223372036854775807) :
    Calls Tryz.prog 42 #[.agg #[.int .i64 l.words, .int .i64 l.bits, .int .i64 l.period, .int .i64 l.delay, .int .i64 l.slope, .int .i64 l.window], .slice a n c] w (OwnRes l.words.toNat (wordsN l.bits.toNat l.words.toNat ps) w) := by
  obtain ⟨i0, hi, hz0, hz1, hz2⟩ := info_parts Tryz.infoE
  obtain ⟨bb, hbb⟩ : ∃ bb : Nat, l.bits = bb := ⟨l.bits.toNat, by have := h.bits; omega⟩
  obtain ⟨ww, hww⟩ : ∃ ww : Nat, l.words = ww := ⟨l.words.toNat, by have := h.words; omega⟩
  have hbt := h.bits
  have hwt := h.words
  unfold beatsL at hnb
  rw [hbb] at hbt hnb ⊢
  rw [hww] at hwt hnb ⊢
  rw [Int.toNat_natCast, Int.toNat_natCast]
  obtain rfl : n = ww * bb := by exact_mod_cast hnb
  clear hnb hbb hww
  have hkb : ∀ k, k < ww → k * bb + bb ≤ ww * bb := fun k hk => by
    have : (k + 1) * bb ≤ ww * bb := Nat.mul_le_mul_right _ hk
    rw [Nat.add_mul] at this; omega
  have hwb : ww * bb ≤ 2560 := Nat.mul_le_mul (by omega : ww ≤ 64) (by omega : bb ≤ 40)
  rcases hI with rfl | ⟨b, off, rfl, hb, hc⟩
  · exfalso
    have : 1 * 1 ≤ ww * bb := Nat.mul_le_mul (by omega) (by omega)
    simp at hn
    omega
  · have hcell : ∀ (W : World) (i : Nat), Ext w W → i < ww * bb → W.cell? ⟨b, off + i, none⟩ = some (.bool (ps[i]?.getD false)) := fun W i E hi => (E.cell (p := ⟨b, off + i, none⟩) hb).trans (hc i (by omega))
    have HC := Lib.hid hcell
    have HN := Lib.hid hn
    have HK := Lib.hid hkb
    clear hcell hc hn hkb
    go_enter Tryz.func42, Tryz.ntmps42
    go_wp2
    have hS := six_new (w := w) (v0 := .int .i64 ww) (v1 := .int .i64 bb) (v2 := .int .i64 l.period) (v3 := .int .i64 l.delay) (v4 := .int .i64 l.slope) (v5 := .int .i64 l.window) (T := 57)
    have hsz : (w.alloc (.cells #[.int .i64 ww, .int .i64 bb, .int .i64 l.period, .int .i64 l.delay, .int .i64 l.slope, .int .i64 l.window] 57)).heap.size = w.heap.size + 1 := by simp
    generalize World.alloc w _ = W0 at hS hsz ⊢
    obtain ⟨hE, -, c1, -, -, -, -⟩ := hS
    have HS := Lib.hid hsz
    clear hsz
    have HC1 := Lib.hid (fun (W : World) (E : Ext W0 W) => cell_later E c1)
    clear c1
    go_loopw [4, 12] (fun v s12 wr => ∃ k : Nat, k ≤ ww ∧ s12 = .int .i64 k ∧ wr.ownsRow W0.heap.size 3 1 v k (iv (wordsN bb k ps)) ∧ Ext W0 wr) (fun _ s12 _ => ww - (intOf s12).toNat)
    case atStart => exact ⟨0, Nat.zero_le _, rfl, by simpa [wordsN, fstN, iv] using World.ownsRow_nil W0 W0.heap.size 3 1, Ext.refl _⟩
    case round =>
      obtain ⟨k, hk, rfl, hown, E⟩ := hrel
      by_cases hlt : k < ww
      · have hltz : (k : Int) < (ww : Int) := by omega
        have c1 := HC1.out wr E
        have hk1 := HK.out k hlt
        have m1 : (k : Int) * bb = ((k * bb : Nat) : Int) := by push_cast; rfl
        have m2 : ((k : Int) + 1) * bb = ((k * bb + bb : Nat) : Int) := by push_cast; rw [Int.add_mul]; omega
        have hM : Hid _ := Lib.hid (And.intro m1 m2)
        have p0 : (0 : Int) ≤ (k : Int) * bb := by rw [m1]; omega
        have p1 : (k : Int) * bb ≤ ((k : Int) + 1) * bb := by rw [m1, m2]; omega
        have p2 : ((k : Int) + 1) * bb ≤ 2560 := by rw [m2]; omega
        have p3 : ((k : Int) + 1) * bb ≤ (c : Int) := by rw [m2]; omega
        clear m1 m2
        have hne : ¬ (k + 1) * bb = k * bb := by rw [Nat.add_mul]; omega
        have hsub : (k + 1) * bb - k * bb = bb := by rw [Nat.add_mul]; omega
        clear hne
        go_wp2
        clear hsub c1
        have HP := Lib.hid (And.intro p0 (And.intro p1 (And.intro p2 p3)))
        clear p0 p1 p2 p3
        go_loop [6, 35] (fun s6 s35 => ∃ j : Nat, j ≤ bb ∧ s35 = .int .i64 j ∧ s6 = .int .i64 (sumB (fun i => ps[k * bb + i]?.getD false) j)) (fun _ s35 => bb - (intOf s35).toNat)
        case atStart => exact ⟨0, Nat.zero_le _, rfl, rfl⟩
        case round =>
          obtain ⟨j, hj, rfl, rfl⟩ := hrel
          obtain ⟨y, hy⟩ : ∃ y, sumB (fun i => ps[k * bb + i]?.getD false) j = y := ⟨_, rfl⟩
          have hyb := sumB_bd (fun i => ps[k * bb + i]?.getD false) j
          have hys : sumB (fun i => ps[k * bb + i]?.getD false) (j + 1) = y + (if ps[k * bb + j]?.getD false = true then 2 ^ j else 0) := by rw [← hy]; rfl
          rw [hy] at hyb ⊢
          have HY := Lib.hid hys
          have HY0 := Lib.hid hy
          clear hys hy
          by_cases hjl : j < bb
          · have hjz : (j : Int) < (bb : Int) := by omega
            have hcj := HC.out wr (k * bb + j) (hE.comp E) (by omega)
            rw [← Nat.add_assoc] at hcj
            have h2 := two_bd (k := j) (by omega)
            obtain ⟨h20, h21⟩ := h2
            obtain ⟨hy0, hy1⟩ := hyb
            have hor := i64_or_low hy0 hy1 (by omega : j ≤ 40)
            have hw1 : IntKind.i64.wrap (2 ^ j) = 2 ^ j := IntWalk.i64_in _ (by omega)
            cases hv : ps[k * bb + j]?.getD false with
            | true =>
              rw [hv] at hcj
              have HV := Lib.hid hv
              clear hv
              go_wp2
              go_round
              case rel => exact ⟨j + 1, by omega, by go_num, by rw [HY.out, HV.out]; rfl⟩
              case measure => simp [intOf]; omega
            | false =>
              rw [hv] at hcj
              have HV := Lib.hid hv
              clear hv
              go_wp2
              go_round
              case rel => exact ⟨j + 1, by omega, by go_num, by rw [HY.out, HV.out]; simp⟩
              case measure => simp [intOf]; omega
          · have hjz : ¬ (j : Int) < (bb : Int) := by omega
            obtain rfl : j = bb := by omega
            have hs0 := E.size
            clear HP
            go_wp2_with (at_builtin; refine wpList_append_own _ rfl _ _ 22 rfl W0.heap.size 3 i0 (.int .i64 0) 1 8 Tryz.underlying22 hi hz0 hz1 hz2 rfl (by decide) _ _ _ rfl (hown.alloc _) ⟨wr.heap.size, 0, none⟩ 1 1 [.int .i64 y] rfl rfl (cell_one_new _ _ _) (by simp [Value.oneCell']) (by unfold maxLen; omega) (by omega) (by simp; omega) ?_; intro v' w1 hown' hgrow hnil)
            have E3 : Ext W0 w1 := (E.alloc _).grown hgrow (by simp; omega) (fun q e => (hown.lt q e).1)
            have hown3 : w1.ownsRow W0.heap.size 3 1 v' (k + 1) (iv (wordsN j (k + 1) ps)) := by
              rw [← words_step j ps k y HY0.out, ← iv_app]
              exact hown'
            clear hown' hgrow hnil
            go_roundw
            case rel => exact ⟨k + 1, by omega, by go_num, hown3, E3⟩
            case measure => simp [intOf]; omega
      · have hltz : ¬ (k : Int) < (ww : Int) := by omega
        obtain rfl : k = ww := by omega
        obtain ⟨a', c', rfl⟩ := own_form hown
        have hE1 := hE.comp E
        have hown1 := own_low hown (show w.heap.size ≤ W0.heap.size by rw [HS.out]; omega)
        go_wp2
        go_ret
        exact ⟨a', c', rfl, hown1, hE1⟩
end Go.Proofs.YtbcciokmlkofkaaGreat

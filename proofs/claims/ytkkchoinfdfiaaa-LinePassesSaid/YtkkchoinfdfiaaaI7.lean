/- Contract of layer 1's reference: Pass. -/
import Derived.Test.YtkkchoinfdfiaaaI6
import Derived.Test.YtkkchoinfdfiaaaJ5
set_option linter.unusedVariables false
set_option linter.unusedSimpArgs false
namespace Go.Q
/-- the error of a round's arguments before the temperatures are looked at -/
def passY (l : Ln) (ws ts : List Int) : Int := if okL l = false then 7 else if wordsE l ws ≠ 0 then wordsE l ws else if 60 < ts.length then 3 else 0
theorem passX_Y {l : Ln} {ws ts : List Int} (h : passY l ws ts ≠ 0) : passX l ws ts = passY l ws ts := by
  unfold passX passY at *
  repeat' split
  all_goals first | rfl | simp_all
theorem passX_Z {l : Ln} {ws ts : List Int} (h : passY l ws ts = 0) : passX l ws ts = if ts.any (fun t => !tempB t) = true then 7 else 0 := by
  unfold passX passY at *
  by_cases h1 : okL l = false
  · rw [if_pos h1] at h; omega
  · rw [if_neg h1] at h ⊢
    by_cases h2 : wordsE l ws ≠ 0
    · rw [if_pos h2] at h; omega
    · rw [if_neg h2] at h ⊢
      by_cases h3 : 60 < ts.length
      · rw [if_pos h3] at h; omega
      · rw [if_neg h3]
theorem passY_ok {l : Ln} {ws ts : List Int} (h : passY l ws ts = 0) : okL l = true ∧ wordsE l ws = 0 ∧ ts.length ≤ 60 := by
  unfold passY at h
  by_cases h1 : okL l = false
  · rw [if_pos h1] at h; omega
  · rw [if_neg h1] at h
    by_cases h2 : wordsE l ws ≠ 0
    · rw [if_pos h2] at h; omega
    · rw [if_neg h2] at h
      by_cases h3 : 60 < ts.length
      · rw [if_pos h3] at h; omega
      · exact ⟨by simpa using h1, by omega, by omega⟩
theorem atL_snoc (l : Ln) (ts : List Int) (t : Int) : atL l (ts ++ [t]) = if 0 ≤ atL l ts then atL l ts else if lostL l t = true then (ts.length : Int) else -1 := idxQ_snoc _ _ _
theorem shiftV_rot {l : Ln} (h : OkL l) {ps : List Bool} (hp : (ps.length : Int) = beatsL l) {t : Int} (ht : lostL l t = false) : roundP l ps t = rotP false ps (shiftV l t).1 := by
  rw [roundP_rot h hp ht]
  unfold shiftV
  rw [ht]
  rfl
end Go.Q
namespace Go.Proofs.Ytkkchoinfdfiaaa
open Go.RowKit Go.Q Go.Shelf Go.Maps

set_option maxRecDepth 100000 in
set_option maxHeartbeats 4000000 in
theorem rpass_early (l : Ln) (a1 a2 : Option Addr) (n1 n2 c1 c2 : Nat) (ws ts : List Int) (w : World) (l1 : ws.length = n1) (l2 : ts.length = n2) (b1 : n1 ≤ 9223372036854775807) (b2 : n2 ≤ 9223372036854775807)
    (i1 : IntsAt w a1 ws) (i2 : IntsAt w a2 ts) (hy : passY l ws ts ≠ 0) :
    Calls Try.prog 24 #[.agg #[.int .i64 l.words, .int .i64 l.bits, .int .i64 l.period, .int .i64 l.delay, .int .i64 l.slope, .int .i64 l.window], .slice a1 n1 c1, .slice a2 n2 c2] w (PassRes (passE l ws ts) w) := by
  have hE : passE l ws ts = ([], 0, passY l ws ts) := by unfold passE; rw [if_neg (by rw [passX_Y hy]; exact hy), passX_Y hy]
  rw [hE]
  have hck := fun W => rcheck_any l W
  by_cases h1 : okL l = false
  · have e : passY l ws ts = 7 := by unfold passY; rw [if_pos h1]
    rw [e]
    rw [checkL_no h1] at hck
    clear hE hy e h1 i1 i2
    go_enter Try.func24, Try.ntmps24
    go_wp2_with fail
    refine (hck _).mono ?_
    rintro e w1 ⟨rfl, E1⟩
    go_wp2_with fail
    go_loopw [9, 10] (fun s9 s10 wr => s9 = .int .i64 7 ∧ s10 = .int .i64 0 ∧ Ext w wr) (fun _ _ _ => 0)
    case atStart => exact ⟨rfl, rfl, E1.old⟩
    case round =>
      obtain ⟨rfl, rfl, EW⟩ := hrel
      by_cases h0 : 0 < n2
      · have h0z : (0 : Int) < (n2 : Int) := by omega
        go_wp2
        refine bodyPost_ret (v := .tuple #[.slice none 0 0, .int .i64 0, .int .i64 7]) (by simp [results, Try.results24, go_sem]) rfl (pass_err EW)
      · have h0z : ¬ (0 : Int) < (n2 : Int) := by omega
        go_wp2
        refine bodyPost_ret (v := .tuple #[.slice none 0 0, .int .i64 0, .int .i64 7]) (by simp [results, Try.results24, go_sem]) rfl (pass_err EW)
  · have h1' : okL l = true := by simpa using h1
    have hok := okL_ok h1'
    rw [checkL_of h1'] at hck
    have hwd := fun W (E : Ext w W) => rwords_any l a1 n1 c1 ws W hok l1 b1 (i1.ext E)
    by_cases h2 : wordsE l ws = 0
    · have h3 : 60 < n2 := by
        unfold passY at hy
        rw [if_neg h1, if_neg (by simp [h2])] at hy
        split at hy
        · omega
        · omega
      have e : passY l ws ts = 3 := by unfold passY; rw [if_neg h1, if_neg (by simp [h2]), if_pos (by omega)]
      rw [e]
      rw [h2] at hwd
      have d1 : decide (60 < (n2 : Int)) = true := decide_eq_true (by omega)
      clear hE hy e h1 h1' hok i1 i2 h2
      go_enter Try.func24, Try.ntmps24
      go_wp2_with fail
      refine (hck _).mono ?_
      rintro e w1 ⟨rfl, E1⟩
      have c0 := box_at (v := .int .i64 l.words) E1 0 rfl
      have c1 := box_at (v := .int .i64 l.bits) E1 1 rfl
      have c2 := box_at (v := .int .i64 l.period) E1 2 rfl
      have c3 := box_at (v := .int .i64 l.delay) E1 3 rfl
      have c4 := box_at (v := .int .i64 l.slope) E1 4 rfl
      have c5 := box_at (v := .int .i64 l.window) E1 5 rfl
      go_wp2_with fail
      refine (hwd _ E1.old).mono ?_
      rintro e w2 ⟨rfl, E2⟩
      have E12 := E1.old.comp E2
      go_wp2_with fail
      go_loopw [9, 10] (fun s9 s10 wr => s9 = .int .i64 3 ∧ s10 = .int .i64 0 ∧ Ext w wr) (fun _ _ _ => 0)
      case atStart => exact ⟨rfl, rfl, E12⟩
      case round =>
        obtain ⟨rfl, rfl, EW⟩ := hrel
        by_cases h0 : 0 < n2
        · have h0z : (0 : Int) < (n2 : Int) := by omega
          go_wp2
          refine bodyPost_ret (v := .tuple #[.slice none 0 0, .int .i64 0, .int .i64 3]) (by simp [results, Try.results24, go_sem]) rfl (pass_err EW)
        · have h0z : ¬ (0 : Int) < (n2 : Int) := by omega
          go_wp2
          refine bodyPost_ret (v := .tuple #[.slice none 0 0, .int .i64 0, .int .i64 3]) (by simp [results, Try.results24, go_sem]) rfl (pass_err EW)
    · have e : passY l ws ts = wordsE l ws := by unfold passY; rw [if_neg h1, if_pos h2]
      rw [e]
      obtain ⟨y, hye⟩ : ∃ y, wordsE l ws = y := ⟨_, rfl⟩
      rw [hye] at hwd h2 ⊢
      have hyb : (y == 0) = false := by simpa using h2
      have hyb2 : (y != 0) = true := by simpa using h2
      clear hE hy e h1 h1' hok i1 i2 h2 hye
      go_enter Try.func24, Try.ntmps24
      go_wp2_with fail
      refine (hck _).mono ?_
      rintro e w1 ⟨rfl, E1⟩
      have c0 := box_at (v := .int .i64 l.words) E1 0 rfl
      have c1 := box_at (v := .int .i64 l.bits) E1 1 rfl
      have c2 := box_at (v := .int .i64 l.period) E1 2 rfl
      have c3 := box_at (v := .int .i64 l.delay) E1 3 rfl
      have c4 := box_at (v := .int .i64 l.slope) E1 4 rfl
      have c5 := box_at (v := .int .i64 l.window) E1 5 rfl
      go_wp2_with fail
      refine (hwd _ E1.old).mono ?_
      rintro e w2 ⟨rfl, E2⟩
      have E12 := E1.old.comp E2
      go_wp2_with fail
      go_loopw [9, 10] (fun s9 s10 wr => s9 = .int .i64 y ∧ s10 = .int .i64 0 ∧ Ext w wr) (fun _ _ _ => 0)
      case atStart => exact ⟨rfl, rfl, E12⟩
      case round =>
        obtain ⟨rfl, rfl, EW⟩ := hrel
        by_cases h0 : 0 < n2
        · have h0z : (0 : Int) < (n2 : Int) := by omega
          go_wp2
          refine bodyPost_ret (v := .tuple #[.slice none 0 0, .int .i64 0, .int .i64 y]) (by simp [results, Try.results24, go_sem]) rfl (pass_err EW)
        · have h0z : ¬ (0 : Int) < (n2 : Int) := by omega
          go_wp2
          refine bodyPost_ret (v := .tuple #[.slice none 0 0, .int .i64 0, .int .i64 y]) (by simp [results, Try.results24, go_sem]) rfl (pass_err EW)
set_option maxRecDepth 100000 in
set_option maxHeartbeats 8000000 in
theorem rpass_main (l : Ln) (a1 a2 : Option Addr) (n1 n2 c1 c2 : Nat) (ws ts : List Int) (w : World) (l1 : ws.length = n1) (l2 : ts.length = n2) (b1 : n1 ≤ 9223372036854775807) (b2 : n2 ≤ 9223372036854775807)
    (i1 : IntsAt w a1 ws) (i2 : IntsAt w a2 ts) (hy : passY l ws ts = 0) :
    Calls Try.prog 24 #[.agg #[.int .i64 l.words, .int .i64 l.bits, .int .i64 l.period, .int .i64 l.delay, .int .i64 l.slope, .int .i64 l.window], .slice a1 n1 c1, .slice a2 n2 c2] w (PassRes (passE l ws ts) w) := by
  obtain ⟨h1, h2, h3⟩ := passY_ok hy
  have hck := fun W => rcheck_any l W
  rw [checkL_of h1] at hck
  have hok := okL_ok h1
  have hwd := fun W (E : Ext w W) => rwords_any l a1 n1 c1 ws W hok l1 b1 (i1.ext E)
  rw [h2] at hwd
  have d1 : decide (60 < (n2 : Int)) = false := decide_eq_false (by omega)
  have hn260 : n2 ≤ 60 := by omega
  have hcell : ∀ W, Ext w W → ∀ k, k < n2 → ∃ b off, a2 = some ⟨b, off, none⟩ ∧ W.cell? ⟨b, off + k, none⟩ = some (.int .i64 (ts[k]?.getD 0)) := by
    intro W E k hk
    rcases i2 with e | ⟨b, off, ha, hb, hc⟩
    · rw [e] at l2; simp at l2; omega
    · exact ⟨b, off, ha, (E.cell (p := ⟨b, off + k, none⟩) hb).trans (hc k (by omega))⟩
  have HC := Lib.hid hcell
  have HXZ := Lib.hid (passX_Z hy)
  have H1 := Lib.hid h1
  have HOK := Lib.hid hok
  have H2 := Lib.hid h2
  have L1 := Lib.hid l1
  have L2 := Lib.hid l2
  have I1 := Lib.hid i1
  clear hcell hy h1 hok h2 h3 i1 i2 l1 l2 b1 b2
  go_enter Try.func24, Try.ntmps24
  go_wp2_with fail
  refine (hck _).mono ?_
  rintro e w1 ⟨rfl, E1⟩
  have c0 := box_at (v := .int .i64 l.words) E1 0 rfl
  have c1 := box_at (v := .int .i64 l.bits) E1 1 rfl
  have c2 := box_at (v := .int .i64 l.period) E1 2 rfl
  have c3 := box_at (v := .int .i64 l.delay) E1 3 rfl
  have c4 := box_at (v := .int .i64 l.slope) E1 4 rfl
  have c5 := box_at (v := .int .i64 l.window) E1 5 rfl
  go_wp2_with fail
  refine (hwd _ E1.old).mono ?_
  rintro e w2 ⟨rfl, E2⟩
  have E12 := E1.comp E2
  clear c0 c1 c2 c3 c4 c5 E1 E2 hck hwd
  go_wp2_with fail
  go_loopw [9, 10] (fun s9 s10 wr => ∃ k : Nat, k ≤ n2 ∧ s10 = .int .i64 k ∧ s9 = .int .i64 (if (ts.take k).any (fun t => !tempB t) = true then 7 else 0) ∧ Ext w2 wr) (fun _ s10 _ => n2 - (Go.RowKit.intOf s10).toNat)
  case atStart => exact ⟨0, Nat.zero_le _, rfl, by simp, Ext.refl _⟩
  case round =>
    obtain ⟨k, hk, rfl, rfl, EW⟩ := hrel
    have hwEW := E12.old.comp EW
    cases hf : (ts.take k).any (fun t => !tempB t) with
    | true =>
      rw [if_pos rfl]
      have HF := Lib.hid (show passE l ws ts = ([], 0, 7) by
        have hx : ts.any (fun t => !tempB t) = true := by
          obtain ⟨x, hx1, hx2⟩ := List.any_eq_true.1 hf
          exact List.any_eq_true.2 ⟨x, List.mem_of_mem_take hx1, hx2⟩
        have := HXZ.out
        rw [if_pos hx] at this
        unfold passE
        rw [this]
        rfl)
      clear hf
      by_cases hlt : k < n2
      · have hltz : (k : Int) < (n2 : Int) := by omega
        go_wp2
        refine bodyPost_ret (v := .tuple #[.slice none 0 0, .int .i64 0, .int .i64 7]) (by simp [results, Try.results24, go_sem]) rfl (by rw [HF.out]; exact pass_err hwEW)
      · have hltz : ¬ (k : Int) < (n2 : Int) := by omega
        go_wp2
        refine bodyPost_ret (v := .tuple #[.slice none 0 0, .int .i64 0, .int .i64 7]) (by simp [results, Try.results24, go_sem]) rfl (by rw [HF.out]; exact pass_err hwEW)
    | false =>
      rw [if_neg (by simp)]
      by_cases hlt : k < n2
      · have hltz : (k : Int) < (n2 : Int) := by omega
        obtain ⟨b, off, rfl, hc⟩ := HC.out wr hwEW k hlt
        obtain ⟨t, ht⟩ : ∃ t, ts[k]?.getD 0 = t := ⟨_, rfl⟩
        rw [ht] at hc
        have HS := Lib.hid (show ts.take (k + 1) = ts.take k ++ [t] from take_snoc (by rw [L2.out]; exact hlt) 0 ht)
        have hte := fun W => rtemp_any t W
        cases htb : tempB t with
        | true =>
          rw [htb] at hte
          have HF := Lib.hid (show (ts.take (k + 1)).any (fun t => !tempB t) = false by rw [HS.out, List.any_append, hf]; simp [htb])
          clear hf htb ht
          go_wp2_with fail
          refine (hte _).mono ?_
          rintro e w5 ⟨rfl, rfl⟩
          go_wp2
          go_roundw
          case rel => exact ⟨k + 1, by omega, by go_num, by rw [HF.out]; rfl, EW⟩
          case measure => simp [Go.RowKit.intOf]; omega
        | false =>
          rw [htb] at hte
          have HF := Lib.hid (show (ts.take (k + 1)).any (fun t => !tempB t) = true by rw [HS.out, List.any_append, hf]; simp [htb])
          clear hf htb ht
          go_wp2_with fail
          refine (hte _).mono ?_
          rintro e w5 ⟨rfl, rfl⟩
          go_wp2
          go_roundw
          case rel => exact ⟨k + 1, by omega, by go_num, by rw [HF.out]; rfl, EW⟩
          case measure => simp [Go.RowKit.intOf]; omega
      · have hltz : ¬ (k : Int) < (n2 : Int) := by omega
        have hkn : k = n2 := by omega
        rw [show ts.take k = ts from List.take_of_length_le (by rw [L2.out]; omega)] at hf
        have HPE := Lib.hid (show passE l ws ts = (passW l ws ts, atL l ts, 0) by
          have := HXZ.out
          rw [hf] at this
          unfold passE
          rw [this]
          rfl)
        have hts : ∀ t ∈ ts, tempB t = true := by
          intro t ht
          have := List.any_eq_false.1 hf t ht
          simpa using this
        have HTS := Lib.hid hts
        have hbt := HOK.out.bits
        have hwds := HOK.out.words
        have hwb := words_bd HOK.out H2.out
        have hn1 : n1 ≤ 64 := by have := L1.out; omega
        obtain ⟨bb, hbb⟩ : ∃ bb : Nat, l.bits = bb := Int.eq_ofNat_of_zero_le (by omega)
        have hbt40 : bb ≤ 40 := by omega
        have hbt1 : 1 ≤ bb := by omega
        have hpu := fun W (E : Ext w W) => rpulses_any bb a1 n1 c1 ws W hbt40 L1.out hn1 (I1.out.ext E) (fun x hx => by have := bits40 (bits := l.bits.toNat) (by omega) (hwb.2 x hx); omega)
        have hplen : (pulsesN bb ws).length = n1 * bb := by rw [pulsesN_length, L1.out]
        have hlm : n1 * bb ≤ 2560 := by have := Nat.mul_le_mul hn1 hbt40; omega
        have hPB : ((n1 * bb : Nat) : Int) = beatsL l := by unfold beatsL; rw [Int.natCast_mul, hbb, ← L1.out, hwb.1]
        obtain ⟨N, hN⟩ : ∃ N, n1 * bb = N := ⟨_, rfl⟩
        have hjo := fun W (b : Option Addr) (d : Nat) (ps : List Bool) (hp : ps.length = N) (j : IntsAt W b (b2is ps)) => rjoined_any bb n1 b N d ps W hbt1 hbt40 hn1 hp hN.symm j
        rw [hN] at hpu hplen hlm hPB
        obtain ⟨ps, hps⟩ : ∃ ps, pulsesN bb ws = ps := ⟨_, rfl⟩
        rw [hps] at hpu hplen
        have hmk : ∀ W, (Instr.makeSlice 26 (.int .i64 N) (.int .i64 N)).run Try.prog W = .ok (.slice (some ⟨W.heap.size, 0, none⟩) N N) (W.alloc (.cells (Array.replicate N (.int .i64 0)) 3)) := fun W => makeI W N (by omega)
        have HPS := Lib.hid (show passW l ws ts = wordsN bb n1 (roundsP l ps ts) by
          unfold passW
          rw [show l.bits.toNat = bb by omega, show l.words.toNat = n1 by have := L1.out; omega, hps])
        have HPB := Lib.hid hPB
        have HPL := Lib.hid hplen
        rw [← hbb] at hpu hjo
        have E2 := E12.comp EW
        have y0 := box_at (v := .int .i64 l.words) E2 0 rfl
        have y1 := box_at (v := .int .i64 l.bits) E2 1 rfl
        have y2 := box_at (v := .int .i64 l.period) E2 2 rfl
        have y3 := box_at (v := .int .i64 l.delay) E2 3 rfl
        have y4 := box_at (v := .int .i64 l.slope) E2 4 rfl
        have y5 := box_at (v := .int .i64 l.window) E2 5 rfl
        have HY := Lib.hid E2
        clear hf hts hbt hwds hwb hbb hps hN hPB hplen
        go_wp2_with fail
        refine (hpu _ hwEW).mono ?_
        rintro e w5 ⟨pa, pc, rfl, pown, E5⟩
        have pI := own_ints pown
        have hE5 := hwEW.comp E5
        have HY5 := Lib.hid (E2.comp E5)
        clear pown E5 E2 EW hwEW y0 y1 y2 y3 y4 y5 hpu
        go_wp2_with fail
        go_loopw [11, 12, 13] (fun s11 s12 s13 wr => ∃ (k : Nat) (pa : Option Addr) (pc : Nat), k ≤ n2 ∧ s13 = .int .i64 k ∧ s11 = .slice pa N pc ∧ s12 = .int .i64 (atL l (ts.take k)) ∧ IntsAt wr pa (b2is (roundsP l ps (ts.take k))) ∧ Ext w5 wr) (fun _ _ s13 _ => n2 - (Go.RowKit.intOf s13).toNat)
        case atStart => exact ⟨0, pa, pc, Nat.zero_le _, rfl, rfl, rfl, pI, Ext.refl _⟩
        case round =>
          clear pI
          obtain ⟨k, qa, qc, hk, rfl, rfl, rfl, qI, EX⟩ := hrel
          obtain ⟨X, rfl⟩ : ∃ X : World, X = wr := ⟨_, rfl⟩
          have HYX := HY5.out.comp EX
          have c0 := box_at (v := .int .i64 l.words) HYX 0 rfl
          have c1 := box_at (v := .int .i64 l.bits) HYX 1 rfl
          have c2 := box_at (v := .int .i64 l.period) HYX 2 rfl
          have c3 := box_at (v := .int .i64 l.delay) HYX 3 rfl
          have c4 := box_at (v := .int .i64 l.slope) HYX 4 rfl
          have c5 := box_at (v := .int .i64 l.window) HYX 5 rfl
          have hwX := hE5.comp EX
          by_cases hlt2 : k < n2
          · have hltz2 : (k : Int) < (n2 : Int) := by omega
            obtain ⟨b, off, rfl, hc⟩ := HC.out X hwX k hlt2
            obtain ⟨t, ht⟩ : ∃ t, ts[k]?.getD 0 = t := ⟨_, rfl⟩
            rw [ht] at hc
            have htb : tempB t = true := by
              rw [← ht, List.getElem?_eq_getElem (by rw [L2.out]; exact hlt2)]
              exact HTS.out _ (List.getElem_mem _)
            have hsb := shiftV_bd HOK.out htb
            have hsh := fun W => rshift_any l t W HOK.out (by have := tempB_bd htb; omega)
            have HS := Lib.hid (show ts.take (k + 1) = ts.take k ++ [t] from take_snoc (by rw [L2.out]; exact hlt2) 0 ht)
            have hat := Lib.hid (atL_snoc l (ts.take k) t)
            have hlk := Lib.hid (show (ts.take k).length = k by rw [List.length_take, L2.out]; omega)
            clear ht htb
            cases hlo : lostL l t with
            | true =>
              have e1 : shiftV l t = (0, true) := by unfold shiftV; rw [hlo]; rfl
              rw [e1] at hsh
              dsimp only [Bool.not_true] at hsh
              rw [hlo] at hat
              have hla := fun W (E : Ext X W) => rlate_any qa N qc (b2is (roundsP l ps (ts.take k))) 0 W (by rw [b2is_length, roundsP_length, HPL.out]) (by omega) (qI.ext E) (by omega)
              have HR := Lib.hid (show b2is (roundsP l ps (ts.take (k + 1))) = List.replicate N 0 by
                rw [HS.out, roundsP_snoc]
                unfold roundP
                rw [hlo, if_pos rfl, roundsP_length, HPL.out]
                unfold b2is
                rw [List.map_replicate]
                rfl)
              clear e1 hsb hlo
              obtain ⟨at_, hate⟩ : ∃ x, atL l (ts.take k) = x := ⟨_, rfl⟩
              rw [hate]
              have HATE := Lib.hid hate
              clear hate
              go_wp2_with fail
              have hXX := Ext.refl X
              go_region_held3 (fun w' => Ext X w' ∧ w'.cell? ⟨w.heap.size, 0, none⟩ = some (.int .i64 l.words) ∧ w'.cell? ⟨w.heap.size, 1, none⟩ = some (.int .i64 l.bits) ∧ w'.cell? ⟨w.heap.size, 2, none⟩ = some (.int .i64 l.period) ∧ w'.cell? ⟨w.heap.size, 3, none⟩ = some (.int .i64 l.delay) ∧ w'.cell? ⟨w.heap.size, 4, none⟩ = some (.int .i64 l.slope) ∧ w'.cell? ⟨w.heap.size, 5, none⟩ = some (.int .i64 l.window) ∧ w'.cell? ⟨b, off + k, none⟩ = some (.int .i64 t))
                (first | exact ⟨hXX.drew, c0, c1, c2, c3, c4, c5, hc⟩ | exact seven_later hHeld hb' | exact seven_later (by assumption) hb')
                (first | (go_at_call 62; refine (hsh _).mono ?_; rintro e w' ⟨rfl, hb'⟩))
              all_goals
                have hh := ‹Ext X _ ∧ _ ∧ _ ∧ _ ∧ _ ∧ _ ∧ _ ∧ _›
                have E6 := hh.1
                clear c0 c1 c2 c3 c4 c5 hc hXX hh
                go_wp2_with fail
                refine (hla _ E6).mono ?_
                rintro e w8 ⟨ra, rc, rfl, rI, E8⟩
                clear rI qI hla
                by_cases hneg : at_ < 0
                · have d3 : decide (at_ < 0) = true := decide_eq_true (hneg)
                  have HA := Lib.hid (show atL l (ts.take (k + 1)) = (k : Int) by
                  rw [HS.out, hat.out, HATE.out, if_neg (by omega)]
                  (first | rw [if_pos trivial, hlk.out] | rw [if_pos rfl, hlk.out]))
                  go_wp2
                  have hIn : IntsAt (w8.alloc (.cells (Array.replicate N (Value.int .i64 0)) 3)) (some ⟨w8.heap.size, 0, none⟩) (b2is (roundsP l ps (ts.take (k + 1)))) := ints_fresh (w := w8) (by rw [HR.out, iv_rep]) (Ext.refl _)
                  go_roundw
                  case rel => exact ⟨k + 1, some ⟨w8.heap.size, 0, none⟩, N, by omega, by go_num, rfl, by rw [HA.out], hIn, (EX.comp (E6.comp E8)).alloc _⟩
                  case measure => simp [Go.RowKit.intOf]; omega
                · have d3 : decide (at_ < 0) = false := decide_eq_false (by omega)
                  have HA := Lib.hid (show atL l (ts.take (k + 1)) = at_ by rw [HS.out, hat.out, HATE.out, if_pos (by omega)])
                  go_wp2
                  have hIn : IntsAt (w8.alloc (.cells (Array.replicate N (Value.int .i64 0)) 3)) (some ⟨w8.heap.size, 0, none⟩) (b2is (roundsP l ps (ts.take (k + 1)))) := ints_fresh (w := w8) (by rw [HR.out, iv_rep]) (Ext.refl _)
                  go_roundw
                  case rel => exact ⟨k + 1, some ⟨w8.heap.size, 0, none⟩, N, by omega, by go_num, rfl, by rw [HA.out], hIn, (EX.comp (E6.comp E8)).alloc _⟩
                  case measure => simp [Go.RowKit.intOf]; omega
            | false =>
              have e1 : shiftV l t = (byL l t, false) := by unfold shiftV; rw [hlo]; rfl
              rw [e1] at hsh hsb
              dsimp only [Bool.not_false] at hsh hsb
              rw [hlo] at hat
              have hla := fun W (E : Ext X W) => rlate_any qa N qc (b2is (roundsP l ps (ts.take k))) (byL l t) W (by rw [b2is_length, roundsP_length, HPL.out]) (by omega) (qI.ext E) (by omega)
              have hro : rotP 0 (b2is (roundsP l ps (ts.take k))) (byL l t) = b2is (rotP false (roundsP l ps (ts.take k)) (byL l t)) := rotP_map b2i false _ _
              have HR := Lib.hid (show roundsP l ps (ts.take (k + 1)) = rotP false (roundsP l ps (ts.take k)) (byL l t) by
                rw [HS.out, roundsP_snoc, roundP_rot HOK.out (by rw [roundsP_length, HPL.out]; exact HPB.out) hlo])
              rw [hro, ← HR.out] at hla
              have HA := Lib.hid (show atL l (ts.take (k + 1)) = atL l (ts.take k) by
                rw [HS.out, hat.out]
                have := (idxQ_lt (lostL l) (ts.take k)).1
                split
                · rfl
                · rw [if_neg (by simp)]
                  unfold atL
                  unfold atL at *
                  omega)
              obtain ⟨s, hs⟩ : ∃ s, byL l t = s := ⟨_, rfl⟩
              rw [hs] at hsh hla
              clear hs e1 hsb hro
              go_wp2_with fail
              have hXX := Ext.refl X
              go_region_held3 (fun w' => Ext X w' ∧ w'.cell? ⟨w.heap.size, 0, none⟩ = some (.int .i64 l.words) ∧ w'.cell? ⟨w.heap.size, 1, none⟩ = some (.int .i64 l.bits) ∧ w'.cell? ⟨w.heap.size, 2, none⟩ = some (.int .i64 l.period) ∧ w'.cell? ⟨w.heap.size, 3, none⟩ = some (.int .i64 l.delay) ∧ w'.cell? ⟨w.heap.size, 4, none⟩ = some (.int .i64 l.slope) ∧ w'.cell? ⟨w.heap.size, 5, none⟩ = some (.int .i64 l.window) ∧ w'.cell? ⟨b, off + k, none⟩ = some (.int .i64 t))
                (first | exact ⟨hXX.drew, c0, c1, c2, c3, c4, c5, hc⟩ | exact seven_later hHeld hb' | exact seven_later (by assumption) hb')
                (first | (go_at_call 62; refine (hsh _).mono ?_; rintro e w' ⟨rfl, hb'⟩))
              all_goals
                have hh := ‹Ext X _ ∧ _ ∧ _ ∧ _ ∧ _ ∧ _ ∧ _ ∧ _›
                have E6 := hh.1
                clear c0 c1 c2 c3 c4 c5 hc hXX hh
                go_wp2_with fail
                refine (hla _ E6).mono ?_
                rintro e w8 ⟨ra, rc, rfl, rI, E8⟩
                clear qI hla
                go_wp2
                go_roundw
                case rel => exact ⟨k + 1, ra, rc, by omega, by go_num, rfl, by rw [HA.out], rI, EX.comp (E6.comp E8)⟩
                case measure => simp [Go.RowKit.intOf]; omega
          · have hltz2 : ¬ (k : Int) < (n2 : Int) := by omega
            rw [show ts.take k = ts from List.take_of_length_le (by rw [L2.out]; omega)] at qI ⊢
            have hj := fun W (E : Ext X W) => hjo W qa qc (roundsP l ps ts) (by rw [roundsP_length, HPL.out]) (qI.ext E)
            rw [← HPS.out] at hj
            have hvl : (passW l ws ts).length = n1 := by rw [HPS.out]; unfold wordsN; rw [fstN_length]
            obtain ⟨V, hV⟩ : ∃ V, passW l ws ts = V := ⟨_, rfl⟩
            obtain ⟨at_, hat⟩ : ∃ x, atL l ts = x := ⟨_, rfl⟩
            have HE := Lib.hid (show passE l ws ts = (V, at_, 0) by rw [HPE.out, hV, hat])
            rw [hV] at hj hvl
            rw [hat]
            have HVL := Lib.hid hvl
            clear hV hat hjo qI hvl
            go_wp2_with fail
            refine (hj _ (Ext.refl _)).mono ?_
            rintro e w8 ⟨ra, rc, rfl, rI, E8⟩
            go_wp2
            refine bodyPost_ret (v := .tuple #[.slice ra n1 rc, .int .i64 at_, .int .i64 0]) (by simp [results, Try.results24, go_sem]) rfl ?_
            rw [HE.out]
            exact ⟨ra, rc, by rw [show ((V, at_, (0 : Int)) : List Int × Int × Int).1.length = n1 from HVL.out], rI, hwX.comp E8⟩
theorem rpass_any (l : Ln) (a1 a2 : Option Addr) (n1 n2 c1 c2 : Nat) (ws ts : List Int) (w : World) (l1 : ws.length = n1) (l2 : ts.length = n2) (b1 : n1 ≤ 9223372036854775807) (b2 : n2 ≤ 9223372036854775807)
    (i1 : IntsAt w a1 ws) (i2 : IntsAt w a2 ts) :
    Calls Try.prog 24 #[.agg #[.int .i64 l.words, .int .i64 l.bits, .int .i64 l.period, .int .i64 l.delay, .int .i64 l.slope, .int .i64 l.window], .slice a1 n1 c1, .slice a2 n2 c2] w (PassRes (passE l ws ts) w) := by
  by_cases h : passY l ws ts = 0
  · exact rpass_main l a1 a2 n1 n2 c1 c2 ws ts w l1 l2 b1 b2 i1 i2 h
  · exact rpass_early l a1 a2 n1 n2 c1 c2 ws ts w l1 l2 b1 b2 i1 i2 h
end Go.Proofs.Ytkkchoinfdfiaaa

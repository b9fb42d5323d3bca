/- The law LineBack: its walk. -/
import Derived.Test.YtkkchoinfdfiaaaJ2
import Derived.Test.YtkkchoinfdfiaaaN1
set_option linter.unusedVariables false
set_option linter.unusedSimpArgs false
namespace Go.Q
theorem replicate_any {α : Type} (p : α → Bool) (x : α) (n : Nat) (h : 0 < n) : (List.replicate n x).any p = p x := by
  cases n with
  | zero => omega
  | succ n =>
    rw [List.replicate_succ, List.any_cons]
    cases hp : p x with
    | true => rfl
    | false =>
      rw [Bool.false_or, List.any_eq_false]
      intro y hy
      rw [List.eq_of_mem_replicate hy, hp]
      simp
theorem sumL_replicate (l : Ln) (t : Int) : ∀ n : Nat, sumL l (List.replicate n t) = n * byL l t
  | 0 => by simp [sumL]
  | n + 1 => by
    rw [List.replicate_succ', sumL_snoc, sumL_replicate l t n, Int.natCast_add, Int.add_mul]
    omega
/-- as many rounds as there are beats -/
theorem back_same {l : Ln} (h : OkL l) {ws : List Int} {t : Int} (hw : wordsE l ws = 0) (ht : lostL l t = false) : passW l ws (List.replicate (beatsL l).toNat t) = ws := by
  have hb := h.beats
  rw [pass_rot h hw (by rw [replicate_any _ _ _ (by omega)]; exact ht), sumL_replicate, rotP_whole _ _ (by
    rw [pulses_len h hw, Int.toNat_of_nonneg (by omega)]
    exact Int.mul_emod_right _ _), words_same h hw]
theorem back_at {l : Ln} {t : Int} {n : Nat} (hn : 0 < n) : atL l (List.replicate n t) = if lostL l t = true then 0 else -1 := by
  cases ht : lostL l t with
  | true =>
    unfold atL
    rw [idxQ_hit (lostL l) _ 0 (by rw [List.length_replicate]; exact hn) (by rw [List.getElem?_replicate, if_pos hn]; exact ht) (fun j hj => absurd hj (Nat.not_lt_zero _))]
    rfl
  | false => rw [atL_none (by rw [replicate_any _ _ _ hn]; exact ht)]; rfl
theorem rep_snoc {k : Nat} {t : Int} : List.replicate (k + 1) t = List.replicate k t ++ [t] := List.replicate_succ'
end Go.Q
namespace Go.Proofs.Ytkkchoinfdfiaaa
open Go.RowKit Go.Q Go.Shelf Go.Maps

set_option maxRecDepth 100000 in
set_option maxHeartbeats 4000000 in
theorem back_law (l : Ln) (a : Option Addr) (n c : Nat) (ws : List Int) (t : Int) (w : World) (hn : ws.length = n) (hbig : n ≤ 9223372036854775807) (hI : IntsAt w a ws) :
    Calls Try.prog 8 #[.agg #[.int .i64 l.words, .int .i64 l.bits, .int .i64 l.period, .int .i64 l.delay, .int .i64 l.slope, .int .i64 l.window], .slice a n c, .int .i64 t] w fun e w' => e = .returned (.bool true) ∧ Ext w w' := by
  have h1 := fun W => Shift_any l t W
  by_cases hc : okL l = true ∧ tempB t = true
  · obtain ⟨ho, ht⟩ := hc
    have hok := okL_ok ho
    have hB := hok.beats
    have e1 : shiftE l t = ((shiftV l t).1, (shiftV l t).2, 0) := by unfold shiftE; rw [if_pos ⟨ho, ht⟩]
    rw [e1] at h1
    dsimp only at h1
    have e2 : (shiftV l t).2 = lostL l t := by unfold shiftV; cases lostL l t <;> rfl
    rw [e2] at h1
    generalize (shiftV l t).1 = s at h1
    have hB' := hB
    unfold beatsL at hB'
    obtain ⟨hB0, hB1⟩ := hB'
    have hBe : l.words * l.bits = beatsL l := rfl
    obtain ⟨B, hBn⟩ : ∃ B : Nat, beatsL l = B := Int.eq_ofNat_of_zero_le (by omega)
    rw [hBe, hBn] at hB0 hB1
    have w1 : IntKind.i64.wrap (l.words * l.bits) = B := by rw [hBe, hBn]; exact IntWalk.i64_in _ (by omega)
    by_cases h60 : (B : Int) ≤ 60
    · have d1 : decide (60 < (B : Int)) = false := decide_eq_false (by omega)
      go_enter Try.func8, Try.ntmps8
      go_wp2_with fail
      refine (h1 _).mono ?_
      rintro e w1 ⟨rfl, E1⟩
      have c0 := box_at (v := .int .i64 l.words) E1 0 rfl
      have c1 := box_at (v := .int .i64 l.bits) E1 1 rfl
      have c2 := box_at (v := .int .i64 l.period) E1 2 rfl
      have c3 := box_at (v := .int .i64 l.delay) E1 3 rfl
      have c4 := box_at (v := .int .i64 l.slope) E1 4 rfl
      have c5 := box_at (v := .int .i64 l.window) E1 5 rfl
      go_wp2_with fail
      have HE1 := Lib.hid E1
      have hE1 : Ext w w1 := E1.old
      clear c0 c1 c2 c3 c4 c5 E1 h1
      obtain ⟨i0, hi, hz0, hz1, hz2⟩ := info_parts Try.infoE
      go_loopw [10, 11] (fun s10 s11 wr => ∃ k : Nat, k ≤ B ∧ s11 = .int .i64 k ∧ wr.ownsRow w1.heap.size 3 1 s10 k (iv (List.replicate k t)) ∧ Ext w1 wr) (fun _ s11 _ => B - (Go.RowKit.intOf s11).toNat)
      case atStart => exact ⟨0, Nat.zero_le _, rfl, World.ownsRow_nil _ _ _ _, Ext.refl _⟩
      case round =>
        obtain ⟨k, hk, rfl, hown, EW⟩ := hrel
        obtain ⟨X, rfl⟩ : ∃ X : World, X = wr := ⟨_, rfl⟩
        have E2 := HE1.out.comp EW
        have c0 := box_at (v := .int .i64 l.words) E2 0 rfl
        have c1 := box_at (v := .int .i64 l.bits) E2 1 rfl
        have c2 := box_at (v := .int .i64 l.period) E2 2 rfl
        have c3 := box_at (v := .int .i64 l.delay) E2 3 rfl
        have c4 := box_at (v := .int .i64 l.slope) E2 4 rfl
        have c5 := box_at (v := .int .i64 l.window) E2 5 rfl
        have hsz := EW.size
        by_cases hlt : k < B
        · have hltz : (k : Int) < (B : Int) := by omega
          go_wp2_with (at_builtin; refine wpList_append_own _ rfl _ _ 26 rfl w1.heap.size 3 i0 (.int .i64 0) 1 8 Try.underlying26 hi hz0 hz1 hz2 rfl (by decide) _ _ _ rfl (hown.alloc _) ⟨X.heap.size, 0, none⟩ 1 1 [.int .i64 t] rfl rfl (cell_one_new _ _ _) (by simp [Value.oneCell']) (by unfold maxLen; omega) (by omega) (by simp; omega) ?_; intro v' w3 hown' hgrow hnil; clear hnil)
          have E4 : Ext w1 w3 := (EW.alloc _).grown hgrow (by simp; omega) (fun q e => (hown.lt q e).1)
          have hown3 : w3.ownsRow w1.heap.size 3 1 v' (k + 1) (iv (List.replicate (k + 1) t)) := by
            rw [rep_snoc]
            unfold iv at hown' ⊢
            rw [List.map_append]
            exact hown'
          clear hown hown' hgrow EW E2 c0 c1 c2 c3 c4 c5
          (try go_frame)
          go_wp2
          go_roundw
          case rel => exact ⟨k + 1, by omega, by go_num, hown3, E4⟩
          case measure => simp [Go.RowKit.intOf]; omega
        · obtain rfl : k = B := by omega
          have hltz : ¬ (k : Int) < (k : Int) := by omega
          obtain ⟨av, cv, rfl⟩ := own_form hown
          have hI2 := own_ints hown
          have hWX := hE1.comp EW
          have hps := fun W (E : Ext X W) => Pass_any l a av n k c cv ws (List.replicate k t) W hn List.length_replicate hbig (by omega) (hI.ext (hWX.comp E)) (hI2.ext E)
          have hdec : passX l ws (List.replicate k t) = 0 ∨ passX l ws (List.replicate k t) ≠ 0 := Decidable.em _
          rcases hdec with hx | hx
          · have e3 : passE l ws (List.replicate k t) = (passW l ws (List.replicate k t), atL l (List.replicate k t), 0) := by unfold passE; rw [if_pos hx]
            have hwe : wordsE l ws = 0 := by
              unfold passX at hx
              rw [ho, if_neg (by simp)] at hx
              split at hx
              · omega
              · omega
            rw [e3, back_at (by omega)] at hps
            cases hlo : lostL l t with
            | true =>
              rw [hlo, if_pos rfl] at hps
              obtain ⟨P, hP⟩ : ∃ P, passW l ws (List.replicate k t) = P := ⟨_, rfl⟩
              rw [hP] at hps
              clear e3 hx hwe hP hown hI2 EW E2 hlo
              go_wp2_with fail
              refine (hps _ (Ext.refl _)).mono ?_
              rintro e w5 ⟨a5, c5, rfl, hI5, E5⟩
              go_wp2_with fail
              refine (awake_any _).mono ?_
              rintro e w6 ⟨rfl, E6⟩
              go_wp2
              go_ret
              exact ⟨rfl, hWX.comp (E5.comp E6)⟩
            | false =>
              rw [hlo, if_neg (by simp)] at hps
              have hsame := back_same hok hwe hlo
              rw [hBn, Int.toNat_natCast] at hsame
              rw [hsame] at hps
              have hin := fun (a5 : Option Addr) (c5 : Nat) W (j5 : IntsAt W a5 ws) (E : Ext X W) => ints_any a5 a n n c5 c ws ws W hn hn hbig hbig j5 (hI.ext (hWX.comp E))
              rw [show decide (ws = ws) = true from decide_eq_true rfl] at hin
              have HNN := Lib.hid hn
              clear e3 hx hwe hown hI2 EW E2 hlo hsame
              go_wp2_with fail
              refine (hps _ (Ext.refl _)).mono ?_
              rintro e w5 ⟨a5, c5, rfl, hI5, E5⟩
              rw [show ((ws, (-1 : Int), (0 : Int)) : List Int × Int × Int).1.length = n from HNN.out]
              go_wp2_with fail
              refine (hin _ _ _ hI5 E5).mono ?_
              rintro e w6 ⟨rfl, E6⟩
              go_wp2_with fail
              refine (awake_any _).mono ?_
              rintro e w7 ⟨rfl, E7⟩
              go_wp2
              go_ret
              exact ⟨rfl, hWX.comp (E5.comp (E6.comp E7))⟩
          · have e3 : passE l ws (List.replicate k t) = ([], 0, passX l ws (List.replicate k t)) := by unfold passE; rw [if_neg hx]
            rw [e3] at hps
            have hxb : (passX l ws (List.replicate k t) != 0) = true := by simpa using hx
            obtain ⟨y, hy⟩ : ∃ y, passX l ws (List.replicate k t) = y := ⟨_, rfl⟩
            rw [hy] at hps hxb
            clear e3 hx hy hown hI2 EW E2
            go_wp2_with fail
            refine (hps _ (Ext.refl _)).mono ?_
            rintro e w5 ⟨a5, c5, rfl, hI5, E5⟩
            go_wp2_with fail
            refine (awake_any _).mono ?_
            rintro e w6 ⟨rfl, E6⟩
            go_wp2
            go_ret
            exact ⟨rfl, hWX.comp (E5.comp E6)⟩
    · have d1 : decide (60 < (B : Int)) = true := decide_eq_true (by omega)
      go_enter Try.func8, Try.ntmps8
      go_wp2_with fail
      refine (h1 _).mono ?_
      rintro e w1 ⟨rfl, E1⟩
      have c0 := box_at (v := .int .i64 l.words) E1 0 rfl
      have c1 := box_at (v := .int .i64 l.bits) E1 1 rfl
      have c2 := box_at (v := .int .i64 l.period) E1 2 rfl
      have c3 := box_at (v := .int .i64 l.delay) E1 3 rfl
      have c4 := box_at (v := .int .i64 l.slope) E1 4 rfl
      have c5 := box_at (v := .int .i64 l.window) E1 5 rfl
      go_wp2_with fail
      refine (awake_any _).mono ?_
      rintro e w7 ⟨rfl, E7⟩
      go_wp2
      go_ret
      exact ⟨rfl, E1.old.comp E7⟩
  · have e1 : shiftE l t = (0, false, 7) := by unfold shiftE; rw [if_neg hc]
    rw [e1] at h1
    clear hc e1
    go_enter Try.func8, Try.ntmps8
    go_wp2_with fail
    refine (h1 _).mono ?_
    rintro e w1 ⟨rfl, E1⟩
    go_wp2_with fail
    refine (awake_any _).mono ?_
    rintro e w7 ⟨rfl, E7⟩
    go_wp2
    go_ret
    exact ⟨rfl, E1.old.comp E7⟩
end Go.Proofs.Ytkkchoinfdfiaaa

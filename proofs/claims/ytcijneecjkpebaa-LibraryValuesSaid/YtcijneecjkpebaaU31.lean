import Derived.Test.YtcijneecjkpebaaU7
import Derived.Test.YtcijneecjkpebaaU22
import Derived.Test.YtcijneecjkpebaaU23
import Derived.Test.YtcijneecjkpebaaU30
import Derived.Test.YtcijneecjkpebaaU28
set_option linter.unusedVariables false
set_option linter.unusedSimpArgs false
/- Layer 8's reference: asked, Value, Accept. -/
namespace Go.Q
theorem takes_kind (k : Int) : (takesQ k = 0 ↔ inB k 1 3 = false) ∧ (inB k 1 3 = true → takesQ k = if k = 2 then 2 else 1) := by
  unfold takesQ inB
  constructor
  · constructor
    · intro h
      split at h
      · omega
      split at h
      · omega
      split at h
      · omega
      rename_i h1 h2 h3
      have : ¬ (1 ≤ k ∧ k ≤ 3) := by omega
      simpa [← Bool.decide_and] using this
    · intro h
      rw [← Bool.decide_and, decide_eq_false_iff_not] at h
      rw [if_neg (by omega), if_neg (by omega), if_neg (by omega)]
  · intro h
    rw [← Bool.decide_and, decide_eq_true_eq] at h
    by_cases h1 : k = 1
    · subst h1; rfl
    · by_cases h2 : k = 2
      · subst h2; rfl
      · have : k = 3 := by omega
        subst this; rfl
end Go.Q
namespace Go.Proofs.Ytcijneecjkpebaa
open Go.RowKit Go.Q
set_option maxHeartbeats 1000000 in
theorem rb_asked (k : Int) (a : Option Addr) (n c : Nat) (xs : List Int) (w : World) (hn : xs.length = n) (hb : n ≤ 9223372036854775807) (hI : IntsAt w a xs) :
    Calls Try.prog 53 #[.int .i64 k, .slice a n c] w fun e w' => e = .returned (.int .i64 (askQ k xs)) ∧ Ext w w' := by
  have hK := fun W => rb_kind k W
  have hTk := fun W => rb_takes k W
  have HA := Lib.hid (show askQ k xs = if takesQ k = 0 then 2 else if (xs.length : Int) ≠ takesQ k then 3 else if xs.any (fun n => !numB n) = true then 7 else 0 from rfl)
  obtain ⟨R, hR⟩ : ∃ R, askQ k xs = R := ⟨_, rfl⟩
  rw [hR] at HA ⊢
  clear hR
  cases hk : inB k 1 3 with
  | false =>
    have h0 := (takes_kind k).1.2 hk
    have HR := Lib.hid (show R = 2 by rw [HA.out, if_pos h0])
    rw [hk] at hK
    clear hk h0 hI hn HA
    go_enter Try.func53, Try.ntmps53
    go_wp2_with fail
    refine (hK _).mono ?_
    rintro e w1 ⟨rfl, rfl⟩
    go_wp2
    go_ret
    exact ⟨ret_int HR.out.symm, Ext.refl _⟩
  | true =>
    have h0 : takesQ k ≠ 0 := fun e => by have := (takes_kind k).1.1 e; rw [hk] at this; cases this
    have hT := (takes_kind k).2 hk
    rw [← hT] at hTk
    rw [hk] at hK
    generalize takesQ k = T at *
    by_cases h1 : (xs.length : Int) ≠ T
    · have HR := Lib.hid (show R = 3 by rw [HA.out, if_neg h0, if_pos h1])
      have hnb : ((n : Int) != T) = true := by rw [← hn]; simpa using h1
      clear hk h0 hI hn HA h1 hT
      go_enter Try.func53, Try.ntmps53
      go_wp2_with fail
      refine (hK _).mono ?_
      rintro e w1 ⟨rfl, rfl⟩
      go_wp2_with fail
      refine (hTk _).mono ?_
      rintro e w1 ⟨rfl, rfl⟩
      go_wp2
      go_ret
      exact ⟨ret_int HR.out.symm, Ext.refl _⟩
    · have HR := Lib.hid (show R = if xs.any (fun n => !numB n) = true then 7 else 0 by rw [HA.out, if_neg h0, if_neg h1])
      have hnb : ((n : Int) != T) = false := by rw [← hn]; simpa using h1
      clear hk h0 HA h1 hT
      have hcell : ∀ W, Ext w W → ∀ j, j < n → ∃ bb off, a = some ⟨bb, off, none⟩ ∧ W.cell? ⟨bb, off + j, none⟩ = some (.int .i64 (xs[j]?.getD 0)) := by
        intro W E j hj
        rcases hI with h | ⟨bb, off, ha, hbl, hc⟩
        · rw [h] at hn; simp at hn; omega
        · exact ⟨bb, off, ha, cell_later E (hc j (by omega))⟩
      have HC := Lib.hid hcell
      have HN := Lib.hid hn
      clear hcell hn hI
      go_enter Try.func53, Try.ntmps53
      go_wp2_with fail
      refine (hK _).mono ?_
      rintro e w1 ⟨rfl, rfl⟩
      go_wp2_with fail
      refine (hTk _).mono ?_
      rintro e w1 ⟨rfl, rfl⟩
      go_wp2
      go_loopw [5] (fun s wr => ∃ j : Nat, j ≤ n ∧ s = .int .i64 (j : Int) ∧ Aside (Ext w wr) ∧ Aside (∀ i, i < j → numB (xs[i]?.getD 0) = true)) (fun s _ => n - (intOf s).toNat)
      case atStart => exact ⟨0, Nat.zero_le _, rfl, Ext.refl w, fun j hj => absurd hj (Nat.not_lt_zero _)⟩
      case round =>
        obtain ⟨j, hj, rfl, EW, HP⟩ := hrel
        by_cases hlt : j < n
        · have hltz : (j : Int) < (n : Int) := by omega
          obtain ⟨bb, off, rfl, hc⟩ := HC.out wr EW.out j hlt
          obtain ⟨x, hx⟩ : ∃ x, xs[j]?.getD 0 = x := ⟨_, rfl⟩
          rw [hx] at hc
          have HX := Lib.hid hx
          clear hx
          cases hq : numB x with
          | true =>
            have hN := fun W => rb_number x W
            rw [hq] at hN
            have HQ := Lib.hid hq
            clear hq
            go_wp2_with fail
            refine (hN _).mono ?_
            rintro e w1 ⟨rfl, rfl⟩
            go_wp2_with fail
            go_roundw
            case rel =>
              refine ⟨j + 1, by omega, by go_num, EW, (show Aside _ from fun i hi => ?_)⟩
              by_cases e : i = j
              · subst e; rw [HX.out]; exact HQ.out
              · exact HP.out i (by omega)
            case measure => simp [intOf]; omega
          | false =>
            have hN := fun W => rb_number x W
            rw [hq] at hN
            have HQ := Lib.hid hq
            clear hq
            go_wp2_with fail
            refine (hN _).mono ?_
            rintro e w1 ⟨rfl, rfl⟩
            go_wp2_with fail
            go_ret
            refine ⟨ret_int ?_, EW.out⟩
            rw [HR.out, if_pos]
            rw [List.any_eq_true]
            have hl : j < xs.length := by rw [HN.out]; exact hlt
            refine ⟨xs[j], List.getElem_mem _, ?_⟩
            have := HX.out
            rw [List.getElem?_eq_getElem hl] at this
            have h2 : xs[j] = x := this
            rw [h2, HQ.out]; rfl
        · have hltz : ¬ (j : Int) < (n : Int) := by omega
          go_wp2_with fail
          go_ret
          refine ⟨ret_int ?_, EW.out⟩
          rw [HR.out, if_neg]
          rw [List.any_eq_true]
          rintro ⟨y, hy, h2⟩
          obtain ⟨i, hi, rfl⟩ := List.mem_iff_getElem.1 hy
          have := HP.out i (by have := HN.out; omega)
          rw [List.getElem?_eq_getElem hi] at this
          have h3 : numB xs[i] = true := this
          rw [h3] at h2
          cases h2
theorem ints_b {w : World} {a : Option Addr} {k : Int} {xs : List Int} (h0 : askQ k xs = 0) (hI : IntsAt w a xs) : ∃ b off, a = some ⟨b, off, none⟩ ∧ b < w.heap.size ∧ ∀ i, i < xs.length → w.cell? ⟨b, off + i, none⟩ = some (.int .i64 (xs[i]?.getD 0)) := by
  obtain ⟨g1, g2, g3⟩ := ask_ok h0
  have hT : takesQ k ≠ 0 := by rcases g1 with rfl | rfl | rfl <;> decide
  rcases hI with h | h
  · rw [h] at g2; simp at g2; omega
  · exact h
set_option maxHeartbeats 1000000 in
theorem rb_value (k : Int) (a : Option Addr) (n c : Nat) (xs : List Int) (w : World) (hn : xs.length = n) (hb : n ≤ 9223372036854775807) (hI : IntsAt w a xs) :
    Calls Try.prog 19 #[.int .i64 k, .slice a n c] w fun e w' => e = .returned (.tuple #[.int .i64 (valueE k xs).1, .int .i64 (valueE k xs).2]) ∧ Ext w w' := by
  have hk := rb_asked k a n c xs w hn hb hI
  by_cases h0 : askQ k xs = 0
  · have e1 : valueE k xs = (valQ k xs, 0) := by unfold valueE; rw [if_pos h0]
    obtain ⟨b, off, rfl, hbl, hc⟩ := ints_b h0 hI
    have hto := fun (W : World) (E : Ext w W) => rb_to k b off c n xs W h0 hn (Nat.lt_of_lt_of_le hbl E.size) (fun i hi => cell_later E (hc i hi))
    rw [h0] at hk
    rw [e1]
    dsimp only
    clear e1 h0 hc hI hn
    go_enter Try.func19, Try.ntmps19
    go_wp2_with fail
    refine (hk).mono ?_
    rintro e w1 ⟨rfl, E1⟩
    go_wp2_with fail
    refine (hto _ E1).mono ?_
    rintro e w2 ⟨rfl, E2⟩
    go_wp2
    go_ret2
    exact ⟨rfl, E1.comp E2⟩
  · have e1 : valueE k xs = (0, askQ k xs) := by unfold valueE; rw [if_neg h0]
    have h0b : (askQ k xs != 0) = true := by simpa using h0
    rw [e1]
    dsimp only
    generalize askQ k xs = R at *
    clear e1 h0 hI hn
    go_enter Try.func19, Try.ntmps19
    go_wp2_with fail
    refine (hk).mono ?_
    rintro e w1 ⟨rfl, E1⟩
    go_wp2
    go_ret2
    exact ⟨rfl, E1⟩
set_option maxHeartbeats 1000000 in
theorem rb_accept (k : Int) (a : Option Addr) (n c : Nat) (xs : List Int) (y : Int) (w : World) (hn : xs.length = n) (hb : n ≤ 9223372036854775807) (hI : IntsAt w a xs) :
    Calls Try.prog 21 #[.int .i64 k, .slice a n c, .int .i64 y] w fun e w' => e = .returned (.tuple #[.bool (acceptE k xs y).1, .int .i64 (acceptE k xs y).2]) ∧ Ext w w' := by
  have hk := rb_asked k a n c xs w hn hb hI
  by_cases h0 : askQ k xs = 0
  · have e1 : acceptE k xs y = (fitsQ k xs y, 0) := by unfold acceptE; rw [fits_val h0, h0]; rfl
    obtain ⟨b, off, rfl, hbl, hc⟩ := ints_b h0 hI
    have hto := fun (W : World) (E : Ext w W) => rb_fits k y b off c n xs W h0 hn (fun i hi => cell_later E (hc i hi))
    rw [h0] at hk
    rw [e1]
    dsimp only
    generalize fitsQ k xs y = r at *
    clear e1 h0 hc hI hn
    go_enter Try.func21, Try.ntmps21
    go_wp2_with fail
    refine (hk).mono ?_
    rintro e w1 ⟨rfl, E1⟩
    go_wp2_with fail
    refine (hto _ E1).mono ?_
    rintro e w2 ⟨rfl, E2⟩
    go_wp2
    go_ret2
    exact ⟨rfl, E1.comp E2⟩
  · have e1 : acceptE k xs y = (false, askQ k xs) := by unfold acceptE; rw [decide_eq_false h0]; rfl
    have h0b : (askQ k xs != 0) = true := by simpa using h0
    rw [e1]
    dsimp only
    generalize askQ k xs = R at *
    clear e1 h0 hI hn
    go_enter Try.func21, Try.ntmps21
    go_wp2_with fail
    refine (hk).mono ?_
    rintro e w1 ⟨rfl, E1⟩
    go_wp2
    go_ret2
    exact ⟨rfl, E1⟩
end Go.Proofs.Ytcijneecjkpebaa
/- Layer 8's reference: Code, any kind. -/
namespace Go.Proofs.Ytcijneecjkpebaa
open Go.RowKit Go.Q
theorem lt_of_ints {w : World} {a : Option Addr} {xs : List Int} {b : Nat} {cs : Array Value} {T : TypeId} (h : IntsAt w a xs) (hb : Blk w b cs T) (hT : ∀ g off, a = some ⟨g, off, none⟩ → g ≠ b) (z0 z1 z2 z3 z4 z5 : Value) : IntsAt ((((((w.setCell ⟨b, 0, none⟩ z0).setCell ⟨b, 1, none⟩ z1).setCell ⟨b, 2, none⟩ z2).setCell ⟨b, 3, none⟩ z3).setCell ⟨b, 4, none⟩ z4).setCell ⟨b, 5, none⟩ z5) a xs := by
  rcases h with h | ⟨g, off, ha, hl, hc⟩
  · exact .inl h
  · have hn := hT g off ha
    refine .inr ⟨g, off, ha, by simpa using hl, fun i hi => ?_⟩
    have hK : KpM (fun k => k = b) w ((((((w.setCell ⟨b, 0, none⟩ z0).setCell ⟨b, 1, none⟩ z1).setCell ⟨b, 2, none⟩ z2).setCell ⟨b, 3, none⟩ z3).setCell ⟨b, 4, none⟩ z4).setCell ⟨b, 5, none⟩ z5) :=
      (((((KpM.set (M := fun k => k = b) (p := ⟨b, 0, none⟩) rfl z0).trans (KpM.set (M := fun k => k = b) (p := ⟨b, 1, none⟩) rfl z1)).trans (KpM.set (M := fun k => k = b) (p := ⟨b, 2, none⟩) rfl z2)).trans (KpM.set (M := fun k => k = b) (p := ⟨b, 3, none⟩) rfl z3)).trans (KpM.set (M := fun k => k = b) (p := ⟨b, 4, none⟩) rfl z4)).trans (KpM.set (M := fun k => k = b) (p := ⟨b, 5, none⟩) rfl z5)
    exact (hK.cell hl hn).trans (hc i hi)
/-- a list that does not begin with 0 lies in no routine's zero -/
def nz (xs : List Int) : Bool := match xs with | [] => false | x :: _ => x != 0
theorem far_zero {w : World} {a : Option Addr} {xs : List Int} {b : Nat} {T : TypeId} (h : IntsAt w a xs) (hb : Blk w b #[.slice none 0 0, .slice none 0 0, .int .i64 0, .int .i64 0, .int .i64 0, .slice none 0 0] T) (hz : nz xs = true) : ∀ g off, a = some ⟨g, off, none⟩ → g ≠ b := by
  intro g off ha e
  subst e
  rcases h with h | ⟨g2, off2, ha2, hl, hc⟩
  · rw [h] at hz; cases hz
  · rw [ha2] at ha
    injection ha with ha
    injection ha with h1 h2 _
    subst h1 h2
    cases xs with
    | nil => cases hz
    | cons x r =>
      have hx : x ≠ 0 := by simpa [nz] using hz
      have h0 := hc 0 (by simp)
      rw [Nat.add_zero] at h0
      have h3 : (.int .i64 x : Value) = .slice none 0 0 ∨ (.int .i64 x : Value) = .int .i64 0 := by
        rcases Nat.lt_or_ge off2 6 with ho | ho
        · rcases (show off2 = 0 ∨ off2 = 1 ∨ off2 = 2 ∨ off2 = 3 ∨ off2 = 4 ∨ off2 = 5 by omega) with rfl | rfl | rfl | rfl | rfl | rfl
          · rw [hb.c 0 rfl] at h0; exact .inl (Option.some.inj h0).symm
          · rw [hb.c 1 rfl] at h0; exact .inl (Option.some.inj h0).symm
          · rw [hb.c 2 rfl] at h0; exact .inr (Option.some.inj h0).symm
          · rw [hb.c 3 rfl] at h0; exact .inr (Option.some.inj h0).symm
          · rw [hb.c 4 rfl] at h0; exact .inr (Option.some.inj h0).symm
          · rw [hb.c 5 rfl] at h0; exact .inl (Option.some.inj h0).symm
        · exfalso
          unfold Blk at hb
          simp [World.cell?, hb] at h0
          rw [List.getElem?_eq_none (by simpa using ho)] at h0
          cases h0
      rcases h3 with h3 | h3
      · cases h3
      · injection h3 with _ h3
        exact hx h3
theorem rt_set6 {w : World} {c : Rt} {l : Lo} {b : Nat} {T : TypeId} (h : RtAt w c l) (hb : Blk w b #[.slice none 0 0, .slice none 0 0, .int .i64 0, .int .i64 0, .int .i64 0, .slice none 0 0] T) (hz : (nz c.words && nz c.masks && nz c.args) = true) (z0 z1 z2 z3 z4 z5 : Value) : RtAt ((((((w.setCell ⟨b, 0, none⟩ z0).setCell ⟨b, 1, none⟩ z1).setCell ⟨b, 2, none⟩ z2).setCell ⟨b, 3, none⟩ z3).setCell ⟨b, 4, none⟩ z4).setCell ⟨b, 5, none⟩ z5) c l := by
  simp only [Bool.and_eq_true] at hz
  exact ⟨lt_of_ints h.i1 hb (far_zero h.i1 hb hz.1.1) _ _ _ _ _ _, lt_of_ints h.i2 hb (far_zero h.i2 hb hz.1.2) _ _ _ _ _ _, lt_of_ints h.i3 hb (far_zero h.i3 hb hz.2) _ _ _ _ _ _⟩
theorem code_of_made (k : Int) (m : ∀ W : World, Calls Try.prog 49 #[.int .i64 k] W (MadeRes (codeQ k) W)) (hk : inB k 1 3 = true) (hz : (nz (codeQ k).words && nz (codeQ k).masks && nz (codeQ k).args) = true) (w : World) : Calls Try.prog 16 #[.int .i64 k] w (CodeRes (codeQ k) 0 w) := by
  have h := fun W => rb_kind k W
  rw [hk] at h
  obtain ⟨C, hC⟩ : ∃ C, codeQ k = C := ⟨_, rfl⟩
  rw [hC] at m hz ⊢
  have HZ := Lib.hid hz
  clear hC hk hz
  go_enter Try.func16, Try.ntmps16
  go_upto_region 1 with fail
  have hrb := Blk.nw w #[.slice none 0 0, .slice none 0 0, .int .i64 0, .int .i64 0, .int .i64 0, .slice none 0 0] 24
  have E0 : Ext w (w.alloc (.cells #[.slice none 0 0, .slice none 0 0, .int .i64 0, .int .i64 0, .int .i64 0, .slice none 0 0] 24)) := (Ext.refl w).alloc _
  generalize w.alloc (.cells #[.slice none 0 0, .slice none 0 0, .int .i64 0, .int .i64 0, .int .i64 0, .slice none 0 0] 24) = X at hrb E0 ⊢
  obtain ⟨B, hB⟩ : ∃ B, w.heap.size = B := ⟨_, rfl⟩
  have HB := Lib.hid hB
  rw [hB] at hrb ⊢
  have HRB := Lib.hid hrb
  have HE0 := Lib.hid E0
  clear hB E0 hrb
  go_wp2_with fail
  refine (h _).mono ?_
  rintro e w1 ⟨rfl, rfl⟩
  obtain ⟨n1, hn1⟩ : ∃ n1, C.words.length = n1 := ⟨_, rfl⟩
  obtain ⟨n2, hn2⟩ : ∃ n2, C.masks.length = n2 := ⟨_, rfl⟩
  obtain ⟨n3, hn3⟩ : ∃ n3, C.args.length = n3 := ⟨_, rfl⟩
  unfold MadeRes at m
  rw [hn1, hn2, hn3] at m
  have HN := Lib.hid (And.intro hn1 (And.intro hn2 hn3))
  clear hn1 hn2 hn3
  go_wp2_with fail
  refine (m _).mono ?_
  rintro e w2 ⟨l, rfl, hr, E⟩
  have HR := Lib.hid hr
  have hrb := HRB.out.ex E
  have r0 := Blk.c hrb 0 (v := .slice none 0 0) rfl
  have r1 := Blk.c hrb 1 (v := .slice none 0 0) rfl
  have r2 := Blk.c hrb 2 (v := .int .i64 0) rfl
  have r3 := Blk.c hrb 3 (v := .int .i64 0) rfl
  have r4 := Blk.c hrb 4 (v := .int .i64 0) rfl
  have r5 := Blk.c hrb 5 (v := .slice none 0 0) rfl
  have g0 := Blk.f hrb 0
  have g1 := Blk.f hrb 1
  have g2 := Blk.f hrb 2
  have g3 := Blk.f hrb 3
  have g4 := Blk.f hrb 4
  have g5 := Blk.f hrb 5
  have hwb := hrb.lt
  have HE := Lib.hid E
  have HRB2 := Lib.hid hrb
  clear hr E m h hrb
  go_wp2_with fail
  have hf := blk_set6 (z0 := .slice l.a1 n1 l.c1) (z1 := .slice l.a2 n2 l.c2) (z2 := .int .i64 C.entry) (z3 := .int .i64 C.exit) (z4 := .int .i64 C.result) (z5 := .slice l.a3 n3 l.c3) HRB2.out
  have s0 := Blk.c hf 0 (v := .slice l.a1 n1 l.c1) rfl
  have s1 := Blk.c hf 1 (v := .slice l.a2 n2 l.c2) rfl
  have s2 := Blk.c hf 2 (v := .int .i64 C.entry) rfl
  have s3 := Blk.c hf 3 (v := .int .i64 C.exit) rfl
  have s4 := Blk.c hf 4 (v := .int .i64 C.result) rfl
  have s5 := Blk.c hf 5 (v := .slice l.a3 n3 l.c3) rfl
  refine bodyPost_ret (v := .tuple #[.agg #[.slice l.a1 n1 l.c1, .slice l.a2 n2 l.c2, .int .i64 C.entry, .int .i64 C.exit, .int .i64 C.result, .slice l.a3 n3 l.c3], .int .i64 0]) (by simp [results, Try.results16, go_sem, s0, s1, s2, s3, s4, s5]) rfl ?_
  exact ⟨l, by rw [HN.out.1, HN.out.2.1, HN.out.2.2], rt_set6 HR.out HRB2.out HZ.out _ _ _ _ _ _, ext_set6 (HE0.out.comp HE.out) (Nat.le_of_eq HB.out) _ _ _ _ _ _⟩
theorem rb_code (k : Int) (w : World) : Calls Try.prog 16 #[.int .i64 k] w (CodeRes (codeE k).1 (codeE k).2 w) := by
  by_cases h1 : k = 1
  · subst h1; exact code_of_made 1 (fun W => rb_made1 W) (by decide) (by decide +kernel) w
  by_cases h2 : k = 2
  · subst h2; exact code_of_made 2 (fun W => rb_made2 W) (by decide) (by decide +kernel) w
  by_cases h3 : k = 3
  · subst h3; exact code_of_made 3 (fun W => rb_made3 W) (by decide) (by decide +kernel) w
  have HE := Lib.hid (show codeE k = (noRt, 2) by unfold codeE; rw [if_neg (by omega)])
  have h := fun W => rb_kind k W
  have hk : inB k 1 3 = false := by unfold inB; simp; omega
  rw [hk] at h
  clear hk h1 h2 h3
  go_enter Try.func16, Try.ntmps16
  go_upto_region 1 with fail
  have hrb := Blk.nw w #[.slice none 0 0, .slice none 0 0, .int .i64 0, .int .i64 0, .int .i64 0, .slice none 0 0] 24
  have E0 : Ext w (w.alloc (.cells #[.slice none 0 0, .slice none 0 0, .int .i64 0, .int .i64 0, .int .i64 0, .slice none 0 0] 24)) := (Ext.refl w).alloc _
  generalize w.alloc (.cells #[.slice none 0 0, .slice none 0 0, .int .i64 0, .int .i64 0, .int .i64 0, .slice none 0 0] 24) = X at hrb E0 ⊢
  obtain ⟨B, hB⟩ : ∃ B, w.heap.size = B := ⟨_, rfl⟩
  have HB := Lib.hid hB
  rw [hB] at hrb ⊢
  have HRB := Lib.hid hrb
  have HE0 := Lib.hid E0
  clear hB E0 hrb
  go_wp2_with fail
  refine (h _).mono ?_
  rintro e w1 ⟨rfl, rfl⟩
  have hrb := HRB.out
  have r0 := Blk.c hrb 0 (v := .slice none 0 0) rfl
  have r1 := Blk.c hrb 1 (v := .slice none 0 0) rfl
  have r2 := Blk.c hrb 2 (v := .int .i64 0) rfl
  have r3 := Blk.c hrb 3 (v := .int .i64 0) rfl
  have r4 := Blk.c hrb 4 (v := .int .i64 0) rfl
  have r5 := Blk.c hrb 5 (v := .slice none 0 0) rfl
  have g0 := Blk.f hrb 0
  have g1 := Blk.f hrb 1
  have g2 := Blk.f hrb 2
  have g3 := Blk.f hrb 3
  have g4 := Blk.f hrb 4
  have g5 := Blk.f hrb 5
  have hwb := hrb.lt
  clear hrb h
  go_wp2_with fail
  have hf := blk_set6 (z0 := .slice none 0 0) (z1 := .slice none 0 0) (z2 := .int .i64 0) (z3 := .int .i64 0) (z4 := .int .i64 0) (z5 := .slice none 0 0) HRB.out
  have s0 := Blk.c hf 0 (v := .slice none 0 0) rfl
  have s1 := Blk.c hf 1 (v := .slice none 0 0) rfl
  have s2 := Blk.c hf 2 (v := .int .i64 0) rfl
  have s3 := Blk.c hf 3 (v := .int .i64 0) rfl
  have s4 := Blk.c hf 4 (v := .int .i64 0) rfl
  have s5 := Blk.c hf 5 (v := .slice none 0 0) rfl
  refine bodyPost_ret (v := .tuple #[.agg #[.slice none 0 0, .slice none 0 0, .int .i64 0, .int .i64 0, .int .i64 0, .slice none 0 0], .int .i64 2]) (by simp [results, Try.results16, go_sem, s0, s1, s2, s3, s4, s5]) rfl ?_
  exact ⟨⟨none, 0, none, 0, none, 0⟩, by rw [HE.out]; rfl, by rw [HE.out]; exact rt_no _, ext_set6 HE0.out (Nat.le_of_eq HB.out) _ _ _ _ _ _⟩
theorem codeE_bd (k : Int) : RtBd (codeE k).1 := by
  unfold codeE
  split
  · rename_i h
    rcases h with rfl | rfl | rfl <;> exact ⟨by decide +kernel, by decide +kernel, by decide +kernel⟩
  · exact ⟨by decide, by decide, by decide⟩
end Go.Proofs.Ytcijneecjkpebaa

/- Contracts of layer 1's reference: Check, Name, Next. -/
import Derived.Test.YtkkchoinfdfiaaaH23
import Derived.Test.YtkkchoinfdfiaaaH11
set_option linter.unusedVariables false
set_option linter.unusedSimpArgs false
namespace Go.Proofs.Ytkkchoinfdfiaaa
open Go.RowKit Go.Q Go.Shelf

set_option maxHeartbeats 1000000 in
theorem rcheck_any (l : Ln) (w : World) :
    Calls Try.prog 39 #[.agg #[.int .i64 l.words, .int .i64 l.bits, .int .i64 l.period, .int .i64 l.delay, .int .i64 l.slope, .int .i64 l.window]] w fun e w' => e = .returned (.int .i64 (checkL l)) ∧ Ext w w' := by
  obtain ⟨a, b, c, d, s, x⟩ := l
  have key : ∀ r : Int, r = checkL ⟨a, b, c, d, s, x⟩ → ∀ W, Ext w W → (Ending.returned (.int .i64 r) = .returned (.int .i64 (checkL ⟨a, b, c, d, s, x⟩)) ∧ Ext w W) := fun r h W e => ⟨by rw [h], e⟩
  unfold checkL okL at key
  dsimp only at key ⊢
  have fin : ∀ r : Int, r = checkL ⟨a, b, c, d, s, x⟩ → r = checkL ⟨a, b, c, d, s, x⟩ := fun _ h => h
  cases h1 : inB a 1 64 with
  | false =>
    go_enter Try.func39, Try.ntmps39
    go_wp2_with fail
    refine (rin_any _ _ _ _).mono ?_
    rintro e w' ⟨rfl, rfl⟩
    rw [h1]
    go_wp2
    go_ret
    exact ⟨ret_int (by unfold checkL okL; simp [h1]), (Ext.refl w).alloc _⟩
  | true =>
  cases h2 : inB b 1 40 with
  | false =>
    go_enter Try.func39, Try.ntmps39
    go_wp2_with fail
    refine (rin_any _ _ _ _).mono ?_
    rintro e w' ⟨rfl, rfl⟩
    rw [h1]
    go_wp2_with fail
    refine (rin_any _ _ _ _).mono ?_
    rintro e w' ⟨rfl, rfl⟩
    rw [h2]
    go_wp2
    go_ret
    exact ⟨ret_int (by unfold checkL okL; simp [h1, h2]), (Ext.refl w).alloc _⟩
  | true =>
  cases h3 : inB c 2 100000 with
  | false =>
    go_enter Try.func39, Try.ntmps39
    go_wp2_with fail
    refine (rin_any _ _ _ _).mono ?_
    rintro e w' ⟨rfl, rfl⟩
    rw [h1]
    go_wp2_with fail
    refine (rin_any _ _ _ _).mono ?_
    rintro e w' ⟨rfl, rfl⟩
    rw [h2]
    go_wp2_with fail
    refine (rin_any _ _ _ _).mono ?_
    rintro e w' ⟨rfl, rfl⟩
    rw [h3]
    go_wp2
    go_ret
    exact ⟨ret_int (by unfold checkL okL; simp [h1, h2, h3]), (Ext.refl w).alloc _⟩
  | true =>
  obtain ⟨c0, c1, c2⟩ := inB_half h3
  cases h4 : inB d 0 1000000000 with
  | false =>
    go_enter Try.func39, Try.ntmps39
    go_wp2_with fail
    refine (rin_any _ _ _ _).mono ?_
    rintro e w' ⟨rfl, rfl⟩
    rw [h1]
    go_wp2_with fail
    refine (rin_any _ _ _ _).mono ?_
    rintro e w' ⟨rfl, rfl⟩
    rw [h2]
    go_wp2_with fail
    refine (rin_any _ _ _ _).mono ?_
    rintro e w' ⟨rfl, rfl⟩
    rw [h3]
    go_wp2_with fail
    refine (rin_any _ _ _ _).mono ?_
    rintro e w' ⟨rfl, rfl⟩
    rw [h4]
    go_wp2
    go_ret
    exact ⟨ret_int (by unfold checkL okL; simp [h1, h2, h3, h4]), (Ext.refl w).alloc _⟩
  | true =>
  cases h5 : inB s (-100000) 100000 with
  | false =>
    go_enter Try.func39, Try.ntmps39
    go_wp2_with fail
    refine (rin_any _ _ _ _).mono ?_
    rintro e w' ⟨rfl, rfl⟩
    rw [h1]
    go_wp2_with fail
    refine (rin_any _ _ _ _).mono ?_
    rintro e w' ⟨rfl, rfl⟩
    rw [h2]
    go_wp2_with fail
    refine (rin_any _ _ _ _).mono ?_
    rintro e w' ⟨rfl, rfl⟩
    rw [h3]
    go_wp2_with fail
    refine (rin_any _ _ _ _).mono ?_
    rintro e w' ⟨rfl, rfl⟩
    rw [h4]
    go_wp2_with fail
    refine (rin_any _ _ _ _).mono ?_
    rintro e w' ⟨rfl, rfl⟩
    rw [h5]
    go_wp2
    go_ret
    exact ⟨ret_int (by unfold checkL okL; simp [h1, h2, h3, h4, h5]), (Ext.refl w).alloc _⟩
  | true =>
    go_enter Try.func39, Try.ntmps39
    go_wp2_with fail
    refine (rin_any _ _ _ _).mono ?_
    rintro e w' ⟨rfl, rfl⟩
    rw [h1]
    go_wp2_with fail
    refine (rin_any _ _ _ _).mono ?_
    rintro e w' ⟨rfl, rfl⟩
    rw [h2]
    go_wp2_with fail
    refine (rin_any _ _ _ _).mono ?_
    rintro e w' ⟨rfl, rfl⟩
    rw [h3]
    go_wp2_with fail
    refine (rin_any _ _ _ _).mono ?_
    rintro e w' ⟨rfl, rfl⟩
    rw [h4]
    go_wp2_with fail
    refine (rin_any _ _ _ _).mono ?_
    rintro e w' ⟨rfl, rfl⟩
    rw [h5]
    go_wp2_with fail
    refine (rin_any _ _ _ _).mono ?_
    rintro e w' ⟨rfl, rfl⟩
    cases h6 : inB x 0 ((c - 1) / 2) with
    | false =>
      go_wp2
      go_ret
      exact ⟨ret_int (by unfold checkL okL; simp [h1, h2, h3, h4, h5, h6]), (Ext.refl w).alloc _⟩
    | true =>
      go_wp2
      go_ret
      exact ⟨ret_int (by unfold checkL okL; simp [h1, h2, h3, h4, h5, h6]), (Ext.refl w).alloc _⟩
theorem next_hit {l : Ln} (h : OkL l) {a b : Int} (ha : 0 ≤ a ∧ a ≤ l.words - 1) (hb : 0 ≤ b) {k : Int} (hk : 0 ≤ k) (hr : k ≤ turnL l (a * l.bits - b - 1)) :
    ((b + 1 + k) % (l.words * l.bits) != a * l.bits) = decide (k < turnL l (a * l.bits - b - 1)) := by
  have hB := h.beats
  have hbt := h.bits
  have h1 := mul_bd (a := a) (b := l.bits) ha.1 ha.2 (by omega) (Int.le_refl _)
  have h2 : (l.words - 1) * l.bits = l.words * l.bits - l.bits := by rw [Int.sub_mul]; omega
  unfold turnL at *
  unfold beatsL at *
  rw [h2] at h1
  generalize l.words * l.bits = B at *
  generalize a * l.bits = c at *
  have e1 := Int.emod_add_mul_ediv (c - b - 1) B
  have e2 := Int.emod_nonneg (c - b - 1) (show B ≠ 0 by omega)
  have e3 := Int.emod_lt_of_pos (c - b - 1) (show 0 < B by omega)
  generalize (c - b - 1) / B = q at *
  generalize (c - b - 1) % B = r at *
  have e4 : b + 1 + k = (c + (k - r)) + B * (-q) := by rw [Int.mul_neg]; omega
  rw [e4, Int.add_mul_emod_self_left]
  by_cases hkr : k < r
  · rw [decide_eq_true hkr, bne_iff_ne]
    intro e
    by_cases hn : 0 ≤ c + (k - r)
    · rw [Int.emod_eq_of_lt hn (by omega)] at e; omega
    · have e5 : c + (k - r) = (c + (k - r) + B) + B * (-1) := by omega
      rw [e5, Int.add_mul_emod_self_left, Int.emod_eq_of_lt (by omega) (by omega)] at e
      omega
  · rw [decide_eq_false hkr, bne_eq_false_iff_eq]
    obtain rfl : k = r := by omega
    rw [show c + (k - k) = c by omega, Int.emod_eq_of_lt (by omega) (by omega)]
set_option maxHeartbeats 1000000 in
theorem rNext_any (l : Ln) (a b : Int) (w : World) :
    Calls Try.prog 29 #[.agg #[.int .i64 l.words, .int .i64 l.bits, .int .i64 l.period, .int .i64 l.delay, .int .i64 l.slope, .int .i64 l.window], .int .i64 a, .int .i64 b] w fun e w' => e = .returned (.tuple #[.int .i64 (nextE l a b).1, .int .i64 (nextE l a b).2]) ∧ Ext w w' := by
  have hck := fun W => rcheck_any l W
  cases ho : okL l with
  | false =>
    have e1 : nextE l a b = (0, 7) := by unfold nextE; rw [if_neg (by rw [ho]; simp)]
    rw [e1]
    rw [checkL_no ho] at hck
    clear e1 ho
    dsimp only
    go_enter Try.func29, Try.ntmps29
    go_wp2_with fail
    refine (hck _).mono ?_
    rintro e w1 ⟨rfl, E1⟩
    go_wp2
    go_ret2
    exact ⟨rfl, E1.old⟩
  | true =>
    rw [checkL_of ho] at hck
    have hok := okL_ok ho
    have hwb := hok.words
    have hbb := hok.bits
    cases h1 : inB a 0 (l.words - 1) with
    | false =>
      have e1 : nextE l a b = (0, 7) := by unfold nextE; rw [if_neg (by rw [h1]; simp)]
      have ho1 := fun W => rin_any a 0 (l.words - 1) W
      rw [h1] at ho1
      rw [e1]
      clear e1 ho h1
      dsimp only
      go_enter Try.func29, Try.ntmps29
      go_wp2_with fail
      refine (hck _).mono ?_
      rintro e w1 ⟨rfl, E1⟩
      have c0 := box_at (v := .int .i64 l.words) E1 0 rfl
      have c1 := box_at (v := .int .i64 l.bits) E1 1 rfl
      have c2 := box_at (v := .int .i64 l.period) E1 2 rfl
      have c3 := box_at (v := .int .i64 l.delay) E1 3 rfl
      have c4 := box_at (v := .int .i64 l.slope) E1 4 rfl
      have c5 := box_at (v := .int .i64 l.window) E1 5 rfl
      go_wp2_with fail
      refine (ho1 _).mono ?_
      rintro e w2 ⟨rfl, rfl⟩
      go_wp2
      go_ret2
      exact ⟨rfl, E1.old⟩
    | true =>
      have ho1 := fun W => rin_any a 0 (l.words - 1) W
      rw [h1] at ho1
      cases h2 : inB b 0 1000000000 with
      | false =>
        have e1 : nextE l a b = (0, 7) := by unfold nextE; rw [if_neg (by rw [h2]; simp)]
        have ho2 := fun W => rin_any b 0 1000000000 W
        rw [h2] at ho2
        rw [e1]
        clear e1 ho h1 h2
        dsimp only
        go_enter Try.func29, Try.ntmps29
        go_wp2_with fail
        refine (hck _).mono ?_
        rintro e w1 ⟨rfl, E1⟩
        have c0 := box_at (v := .int .i64 l.words) E1 0 rfl
        have c1 := box_at (v := .int .i64 l.bits) E1 1 rfl
        have c2 := box_at (v := .int .i64 l.period) E1 2 rfl
        have c3 := box_at (v := .int .i64 l.delay) E1 3 rfl
        have c4 := box_at (v := .int .i64 l.slope) E1 4 rfl
        have c5 := box_at (v := .int .i64 l.window) E1 5 rfl
        go_wp2_with fail
        refine (ho1 _).mono ?_
        rintro e w2 ⟨rfl, rfl⟩
        go_wp2_with fail
        refine (ho2 _).mono ?_
        rintro e w3 ⟨rfl, rfl⟩
        go_wp2
        go_ret2
        exact ⟨rfl, E1.old⟩
      | true =>
        have ho2 := fun W => rin_any b 0 1000000000 W
        rw [h2] at ho2
        rw [nextE_of ho h1 h2]
        have ha := inB_bd h1
        have hb := inB_bd h2
        have hhit := fun k => next_hit hok ha hb.1 (k := k)
        have hm := mul_bd (a := a) (b := l.bits) ha.1 (show a ≤ 63 by omega) (by omega) hbb.2
        have htb := hok.turn (a * l.bits - b - 1)
        have hbe := hok.beats
        unfold beatsL at hbe htb
        obtain ⟨hm0, hm1⟩ := hm
        obtain ⟨hb0, hb1⟩ := hb
        obtain ⟨hwb0, hwb1⟩ := hwb
        obtain ⟨hbe0, hbe1⟩ := hbe
        have w1 : IntKind.i64.wrap (a * l.bits) = a * l.bits := IntWalk.i64_in _ (by omega)
        have w2 : IntKind.i64.wrap (l.words * l.bits) = l.words * l.bits := IntWalk.i64_in _ (by omega)
        have w4 : IntKind.i64.wrap (b + 1) = b + 1 := IntWalk.i64_in _ (by omega)
        have hne : ¬ l.words * l.bits = 0 := by omega
        clear ho h1 h2 ha hok
        dsimp only
        obtain ⟨r, hr⟩ : ∃ r : Nat, turnL l (a * l.bits - b - 1) = r := Int.eq_ofNat_of_zero_le htb.1
        rw [hr] at htb ⊢
        simp only [hr] at hhit
        obtain ⟨htb0, htb1⟩ := htb
        have HH := Lib.hid hhit
        clear hhit hr
        go_enter Try.func29, Try.ntmps29
        go_wp2_with fail
        refine (hck _).mono ?_
        rintro e w1 ⟨rfl, E1⟩
        have c0 := box_at (v := .int .i64 l.words) E1 0 rfl
        have c1 := box_at (v := .int .i64 l.bits) E1 1 rfl
        have c2 := box_at (v := .int .i64 l.period) E1 2 rfl
        have c3 := box_at (v := .int .i64 l.delay) E1 3 rfl
        have c4 := box_at (v := .int .i64 l.slope) E1 4 rfl
        have c5 := box_at (v := .int .i64 l.window) E1 5 rfl
        go_wp2_with fail
        refine (ho1 _).mono ?_
        rintro e w2 ⟨rfl, rfl⟩
        go_wp2_with fail
        refine (ho2 _).mono ?_
        rintro e w3 ⟨rfl, rfl⟩
        clear hck ho1 ho2
        go_wp2
        have HE := Lib.hid E1.old
        have HE1 := Lib.hid E1
        clear c0 c1 c2 c3 c4 c5 E1
        go_loopw [9] (fun s9 wr => ∃ k : Nat, k ≤ r ∧ s9 = .int .i64 (b + 1 + (k : Int)) ∧ Ext w1 wr) (fun s9 _ => (b + 1 + (r : Int) - intOf s9).toNat)
        case atStart => exact ⟨0, Nat.zero_le _, by simp, Ext.refl _⟩
        case round =>
          obtain ⟨k, hk, rfl, EW⟩ := hrel
          have E2 := HE1.out.comp EW
          have c0 := box_at (v := .int .i64 l.words) E2 0 rfl
          have c1 := box_at (v := .int .i64 l.bits) E2 1 rfl
          have c2 := box_at (v := .int .i64 l.period) E2 2 rfl
          have c3 := box_at (v := .int .i64 l.delay) E2 3 rfl
          have c4 := box_at (v := .int .i64 l.slope) E2 4 rfl
          have c5 := box_at (v := .int .i64 l.window) E2 5 rfl
          have hx := HH.out (k : Int) (by omega) (by omega)
          by_cases hlt : k < r
          · rw [decide_eq_true (by omega)] at hx
            go_wp2
            go_quiet (fail)
            go_wp2
            go_roundw
            case rel => exact ⟨k + 1, by omega, by go_num, below_drewN EW _⟩
            case measure => simp [intOf]; omega
          · have HKR := Lib.hid (show k = r by omega)
            rw [decide_eq_false (by omega)] at hx
            go_wp2
            go_quiet (fail)
            go_wp2
            refine bodyPost_ret (v := .tuple #[.int .i64 (b + 1 + (k : Int)), .int .i64 0]) (by simp [results, Try.results29, go_sem]) rfl ⟨by rw [HKR.out], HE.out.comp (below_drewN EW _)⟩
set_option maxHeartbeats 4000000 in
theorem rName_any (s : ByteArray) (w : World) (hs : s.size ≤ 9223372036854775807) :
    Calls Try.prog 21 #[.string s] w fun e w' => e = .returned (.bool (nameB (bytesS s))) ∧ Ext w w' := by
  have ho := fun W => rin_any (s.size : Int) 1 20 W
  cases h1 : inB (s.size : Int) 1 20 with
  | false =>
    have e1 : nameB (bytesS s) = false := by unfold nameB; rw [bytesS_length, h1]; rfl
    rw [h1] at ho
    rw [e1]
    clear e1 h1
    go_enter Try.func21, Try.ntmps21
    go_wp2_with fail
    refine (ho _).mono ?_
    rintro e w1 ⟨rfl, rfl⟩
    go_wp2
    go_ret
    exact ⟨rfl, Ext.refl _⟩
  | true =>
    rw [h1] at ho
    have hb := inB_bd h1
    have hl0 : s.size - 1 < s.size := by omega
    have hlast := bytesS_get s (s.size - 1) hl0
    cases h2 : ((bytesS s)[s.size - 1]?.getD 0 == 95) with
    | true =>
      have e1 : nameB (bytesS s) = false := by unfold nameB; rw [bytesS_length, h2]; simp
      rw [e1]
      have h3 : ((s[s.size - 1].toNat : Int) == 95) = true := by rw [← hlast]; exact h2
      have HL := Lib.hid hlast
      have HB := Lib.hid hb
      clear e1 h1 h2 hlast
      go_enter Try.func21, Try.ntmps21
      go_wp2_with fail
      refine (ho _).mono ?_
      rintro e w1 ⟨rfl, rfl⟩
      go_wp2
      go_ret
      exact ⟨rfl, Ext.refl _⟩
    | false =>
      have h3 : ((s[s.size - 1].toNat : Int) == 95) = false := by rw [← hlast]; exact h2
      have H1 := Lib.hid h1
      have H2 := Lib.hid h2
      have HB := Lib.hid hb
      clear h1 h2 hlast
      go_enter Try.func21, Try.ntmps21
      go_wp2_with fail
      refine (ho _).mono ?_
      rintro e w1 ⟨rfl, rfl⟩
      go_wp2
      have HL0 := Lib.hid hl0
      clear h3 hl0
      go_loopw [3] (fun s2 wr => ∃ k : Nat, k ≤ s.size ∧ s2 = .int .i64 k ∧ Aside (∀ i, i < k → nameC i ((bytesS s)[i]?.getD 0) = true) ∧ Ext w wr) (fun s2 _ => s.size - (intOf s2).toNat)
      case atStart => exact ⟨0, Nat.zero_le _, rfl, (fun i hi => absurd hi (Nat.not_lt_zero _)), Ext.refl _⟩
      case round =>
        obtain ⟨k, hk, rfl, HA, EW⟩ := hrel
        by_cases hlt : k < s.size
        · have hltz : (k : Int) < (s.size : Int) := by omega
          have hcx := bytesS_get s k hlt
          have hyes : nameC k ((bytesS s)[k]?.getD 0) = true → ∃ u : Nat, u ≤ s.size ∧ Value.int .i64 ((k : Int) + 1) = .int .i64 u ∧ Aside (∀ i, i < u → nameC i ((bytesS s)[i]?.getD 0) = true) := by
            intro h
            refine ⟨k + 1, by omega, by go_num, (show Aside _ from fun i hi => ?_)⟩
            by_cases e : i = k
            · rw [e]; exact h
            · exact HA.out i (by omega)
          have hno : nameC k ((bytesS s)[k]?.getD 0) = false → nameB (bytesS s) = false := name_no (by rw [bytesS_length]; exact hlt)
          rw [hcx] at hyes hno
          have HY := Lib.hid hyes
          have HN := Lib.hid hno
          have hfin : nameC k (s[k].toNat : Int) = true → ∀ nq, ∃ u : Nat, u ≤ s.size ∧ Value.int .i64 ((k : Int) + 1) = .int .i64 u ∧ Aside (∀ i, i < u → nameC i ((bytesS s)[i]?.getD 0) = true) ∧ Ext w (wr.drewN nq) := fun h nq => by
            obtain ⟨u, h1, h2, h3⟩ := HY.out h
            exact ⟨u, h1, h2, h3, below_drewN EW _⟩
          have HF := Lib.hid hfin
          clear hyes hno hcx hfin HY
          by_cases h97 : 97 ≤ (s[k].toNat : Int) ∧ (s[k].toNat : Int) ≤ 122
          · obtain ⟨h97a, h97b⟩ := h97
            have dh97a := decide_eq_true h97a
            have dh97b := decide_eq_true h97b
            by_cases b48 : 48 ≤ (s[k].toNat : Int)
            · have db48 := decide_eq_true b48
              have b57 : ¬ (s[k].toNat : Int) ≤ 57 := by omega
              have db57 : decide ((s[k].toNat : Int) ≤ 57) = false := decide_eq_false b57
              have b95 : ((s[k].toNat : Int) == 95) = false := by simp; omega
              go_wp2
              go_quiet (fail)
              go_wp2
              go_roundw
              case rel => exact HF.out (by unfold nameC; simp [h97a, h97b]) _
              case measure => simp [intOf]; omega
            · omega
          · by_cases hk0 : 0 < k
            · have hk0z : ((k : Int) == 0) = false := by simp; omega
              cases h95 : ((s[k].toNat : Int) == 95) with
              | true =>
                have e95 : (s[k].toNat : Int) = 95 := by simpa using h95
                have a97 : ¬ 97 ≤ (s[k].toNat : Int) := by omega
                have da97 : decide (97 ≤ (s[k].toNat : Int)) = false := decide_eq_false a97
                have a48 : 48 ≤ (s[k].toNat : Int) := by omega
                have da48 : decide (48 ≤ (s[k].toNat : Int)) = true := decide_eq_true a48
                have a57 : ¬ (s[k].toNat : Int) ≤ 57 := by omega
                have da57 : decide ((s[k].toNat : Int) ≤ 57) = false := decide_eq_false a57
                have hN : nameC k (s[k].toNat : Int) = true := by unfold nameC; simp [hk0, e95]
                have HNN := Lib.hid hN
                clear e95 hN HN
                go_wp2
                go_quiet (fail)
                go_wp2
                go_roundw
                case rel => exact HF.out HNN.out _
                case measure => simp [intOf]; omega
              | false =>
                by_cases h48 : 48 ≤ (s[k].toNat : Int) ∧ (s[k].toNat : Int) ≤ 57
                · obtain ⟨h48a, h48b⟩ := h48
                  have dh48a := decide_eq_true h48a
                  have dh48b := decide_eq_true h48b
                  have a97 : ¬ 97 ≤ (s[k].toNat : Int) := by omega
                  have da97 : decide (97 ≤ (s[k].toNat : Int)) = false := decide_eq_false a97
                  go_wp2
                  go_quiet (fail)
                  go_wp2
                  go_roundw
                  case rel => exact HF.out (by unfold nameC; simp [hk0, h48a, h48b]) _
                  case measure => simp [intOf]; omega
                · have hn : nameC k (s[k].toNat : Int) = false := by
                    unfold nameC
                    rw [h95]
                    simp
                    omega
                  have HNN := Lib.hid (HN.out hn)
                  clear hn HN HF
                  by_cases a97 : 97 ≤ (s[k].toNat : Int)
                  · have b122 : ¬ (s[k].toNat : Int) ≤ 122 := by omega
                    have da97 := decide_eq_true a97
                    have db122 : decide ((s[k].toNat : Int) ≤ 122) = false := decide_eq_false b122
                    have a48 : 48 ≤ (s[k].toNat : Int) := by omega
                    have da48 : decide (48 ≤ (s[k].toNat : Int)) = true := decide_eq_true a48
                    have b57 : ¬ (s[k].toNat : Int) ≤ 57 := by omega
                    have db57 : decide ((s[k].toNat : Int) ≤ 57) = false := decide_eq_false b57
                    go_wp2
                    go_quiet (fail)
                    go_wp2
                    go_ret
                    exact ⟨by rw [HNN.out]; rfl, below_drewN EW _⟩
                  · by_cases a48 : 48 ≤ (s[k].toNat : Int)
                    · have b57 : ¬ (s[k].toNat : Int) ≤ 57 := by omega
                      have da48 := decide_eq_true a48
                      have da97 := decide_eq_false a97
                      have db57 : decide ((s[k].toNat : Int) ≤ 57) = false := decide_eq_false b57
                      go_wp2
                      go_quiet (fail)
                      go_wp2
                      go_ret
                      exact ⟨by rw [HNN.out]; rfl, below_drewN EW _⟩
                    · have _t : True := trivial
                      have da48 := decide_eq_false a48
                      have da97 := decide_eq_false a97
                      go_wp2
                      go_quiet (fail)
                      go_wp2
                      go_ret
                      exact ⟨by rw [HNN.out]; rfl, below_drewN EW _⟩
            · have hkz : ((k : Int) == 0) = true := by simp; omega
              have hn : nameC k (s[k].toNat : Int) = false := by
                unfold nameC
                simp [hk0]
                omega
              have HNN := Lib.hid (HN.out hn)
              clear hn HN HF
              cases h95 : ((s[k].toNat : Int) == 95) with
              | true =>
                have e95 : (s[k].toNat : Int) = 95 := by simpa using h95
                have a97 : ¬ 97 ≤ (s[k].toNat : Int) := by omega
                have da97 := decide_eq_false a97
                have a48 : 48 ≤ (s[k].toNat : Int) := by omega
                have da48 := decide_eq_true a48
                have b57 : ¬ (s[k].toNat : Int) ≤ 57 := by omega
                have db57 := decide_eq_false b57
                clear e95
                go_wp2
                go_quiet (fail)
                go_wp2
                go_ret
                exact ⟨by rw [HNN.out]; rfl, below_drewN EW _⟩
              | false =>
                by_cases c97 : 97 ≤ (s[k].toNat : Int)
                · have c122 : ¬ (s[k].toNat : Int) ≤ 122 := by omega
                  have a97 : 97 ≤ (s[k].toNat : Int) := by omega
                  have da97 := decide_eq_true a97
                  have b122 : ¬ (s[k].toNat : Int) ≤ 122 := by omega
                  have db122 := decide_eq_false b122
                  have a48 : 48 ≤ (s[k].toNat : Int) := by omega
                  have da48 := decide_eq_true a48
                  have b57 : ¬ (s[k].toNat : Int) ≤ 57 := by omega
                  have db57 := decide_eq_false b57
                  go_wp2
                  go_quiet (fail)
                  go_wp2
                  go_ret
                  exact ⟨by rw [HNN.out]; rfl, below_drewN EW _⟩
                · by_cases c48 : 48 ≤ (s[k].toNat : Int)
                  · by_cases c57 : (s[k].toNat : Int) ≤ 57
                    · have _t : True := trivial
                      have a97 : ¬ 97 ≤ (s[k].toNat : Int) := by omega
                      have da97 := decide_eq_false a97
                      have a48 : 48 ≤ (s[k].toNat : Int) := by omega
                      have da48 := decide_eq_true a48
                      have b57 : (s[k].toNat : Int) ≤ 57 := by omega
                      have db57 := decide_eq_true b57
                      go_wp2
                      go_quiet (fail)
                      go_wp2
                      go_ret
                      exact ⟨by rw [HNN.out]; rfl, below_drewN EW _⟩
                    · have _t : True := trivial
                      have a97 : ¬ 97 ≤ (s[k].toNat : Int) := by omega
                      have da97 := decide_eq_false a97
                      have a48 : 48 ≤ (s[k].toNat : Int) := by omega
                      have da48 := decide_eq_true a48
                      have b57 : ¬ (s[k].toNat : Int) ≤ 57 := by omega
                      have db57 := decide_eq_false b57
                      go_wp2
                      go_quiet (fail)
                      go_wp2
                      go_ret
                      exact ⟨by rw [HNN.out]; rfl, below_drewN EW _⟩
                  · have _t : True := trivial
                    have a97 : ¬ 97 ≤ (s[k].toNat : Int) := by omega
                    have da97 := decide_eq_false a97
                    have a48 : ¬ 48 ≤ (s[k].toNat : Int) := by omega
                    have da48 := decide_eq_false a48
                    go_wp2
                    go_quiet (fail)
                    go_wp2
                    go_ret
                    exact ⟨by rw [HNN.out]; rfl, below_drewN EW _⟩
        · have hltz : ¬ (k : Int) < (s.size : Int) := by omega
          have e := Lib.hid (name_all (s := bytesS s) (by rw [bytesS_length]; exact H1.out) (by rw [bytesS_length]; exact H2.out) (fun i hi => HA.out i (by rw [bytesS_length] at hi; omega)))
          go_wp2
          go_ret
          exact ⟨by rw [e.out]; rfl, EW⟩
end Go.Proofs.Ytkkchoinfdfiaaa

import Derived.Test.YtcijneecjkpebaaU6
import Derived.Test.YtcijneecjkpebaaU5
set_option linter.unusedVariables false
set_option linter.unusedSimpArgs false
/- Layer 8's reference: Value, Accept. -/
namespace Go.Proofs.Ytcijneecjkpebaa
open Go.RowKit Go.Q
set_option maxHeartbeats 400000 in
theorem rb_in (n l h : Int) (w : World) :
    Calls Try.prog 71 #[.int .i64 n, .int .i64 l, .int .i64 h] w fun e w' => e = .returned (.bool (inB n l h)) ∧ w = w' := by
  by_cases h1 : l ≤ n
  · go_enter Try.func71, Try.ntmps71
    go_wp2
    go_ret
    exact ⟨ret_bool (by simp [inB, h1]), rfl⟩
  · go_enter Try.func71, Try.ntmps71
    go_wp2
    go_ret
    exact ⟨ret_bool (by rw [inB, decide_eq_false (by omega)]; rfl), rfl⟩
theorem rb_number (n : Int) (w : World) :
    Calls Try.prog 102 #[.int .i64 n] w fun e w' => e = .returned (.bool (numB n)) ∧ w = w' := by
  go_enter Try.func102, Try.ntmps102
  go_wp2_with fail
  refine (rb_in _ _ _ _).mono ?_
  rintro e w1 ⟨rfl, rfl⟩
  go_wp2
  go_ret
  exact ⟨rfl, rfl⟩
theorem rb_kind (n : Int) (w : World) :
    Calls Try.prog 48 #[.int .i64 n] w fun e w' => e = .returned (.bool (inB n 1 3)) ∧ w = w' := by
  go_enter Try.func48, Try.ntmps48
  go_wp2_with fail
  refine (rb_in _ _ _ _).mono ?_
  rintro e w1 ⟨rfl, rfl⟩
  go_wp2
  go_ret
  exact ⟨rfl, rfl⟩
theorem rb_takes (n : Int) (w : World) :
    Calls Try.prog 42 #[.int .i64 n] w fun e w' => e = .returned (.int .i64 (if n = 2 then 2 else 1)) ∧ w = w' := by
  by_cases h : n = 2
  · subst h
    go_enter Try.func42, Try.ntmps42
    go_wp2
    go_ret
    exact ⟨rfl, rfl⟩
  · rw [if_neg h]
    have hb : (n == 2) = false := by simpa using h
    clear h
    go_enter Try.func42, Try.ntmps42
    go_wp2
    go_ret
    exact ⟨rfl, rfl⟩
set_option maxHeartbeats 400000 in
theorem rb_test (k t : Int) (b off c n : Nat) (xs : List Int) (w : World) (hk : askQ k xs = 0) (ht : 0 ≤ t ∧ t ≤ 8388608) (hn : xs.length = n) (hc : ∀ i, i < xs.length → w.cell? ⟨b, off + i, none⟩ = some (.int .i64 (xs[i]?.getD 0))) :
    Calls Try.prog 103 #[.int .i64 k, .slice (some ⟨b, off, none⟩) n c, .int .i64 t] w fun e w' => e = .returned (.int .i64 (testQ k xs t)) ∧ w = w' := by
  obtain ⟨h1, h2, h3⟩ := ask_ok hk
  have hb := arg_bd h3 1
  have mt := mul23 ht ht
  have ms := mul23 (mulQ_bd ht ht) ht
  unfold testQ
  rcases h1 with rfl | rfl | rfl
  · rw [if_neg (by decide), if_neg (by decide)]
    unfold mulQ
    clear hc hk h3 h2 ms
    obtain ⟨m0, m1⟩ := mt
    go_enter Try.func103, Try.ntmps103
    go_wp2
    go_ret
    exact ⟨rfl, rfl⟩
  · rw [if_pos rfl]
    have h2n : xs.length = 2 := by
      have : takesQ 2 = 2 := by decide
      omega
    obtain rfl : n = 2 := by omega
    have c1 : w.cell? ⟨b, off + 1, none⟩ = some (.int .i64 (argQ xs 1)) := hc 1 (by omega)
    have mq := mul23 ht (show 0 ≤ argQ xs 1 ∧ argQ xs 1 ≤ 8388608 by omega)
    generalize argQ xs 1 = y at *
    unfold mulQ
    clear hc hk h3 h2 ms mt hn h2n
    obtain ⟨m0, m1⟩ := mq
    go_enter Try.func103, Try.ntmps103
    go_wp2
    go_ret
    exact ⟨rfl, rfl⟩
  · rw [if_neg (by decide), if_pos rfl]
    unfold mulQ at ms ⊢
    clear hc hk h3 h2
    obtain ⟨m0, m1⟩ := mt
    obtain ⟨s0, s1⟩ := ms
    go_enter Try.func103, Try.ntmps103
    go_wp2
    go_ret
    exact ⟨rfl, rfl⟩
set_option maxHeartbeats 1000000 in
theorem rb_to (k : Int) (b off c n : Nat) (xs : List Int) (w : World) (hk : askQ k xs = 0) (hn : xs.length = n) (hbl : b < w.heap.size) (hc : ∀ i, i < xs.length → w.cell? ⟨b, off + i, none⟩ = some (.int .i64 (xs[i]?.getD 0))) :
    Calls Try.prog 54 #[.int .i64 k, .slice (some ⟨b, off, none⟩) n c] w fun e w' => e = .returned (.int .i64 (valQ k xs)) ∧ Ext w w' := by
  have hT : ∀ (W : World) (t : Int), Ext w W → 0 ≤ t → t ≤ 8388608 → ∀ m, Calls Try.prog 103 #[.int .i64 k, .slice (some ⟨b, off, none⟩) n c, .int .i64 t] (W.drewN m) fun e w' => e = .returned (.int .i64 (testQ k xs t)) ∧ w' = W.drewN m := fun W t E t0 t1 m => (rb_test k t b off c n xs (W.drewN m) hk ⟨t0, t1⟩ hn (fun i hi => cell_later (below_drewN E _) (hc i hi))).mono fun _ _ h => ⟨h.1, h.2.symm⟩
  have hn0 : 0 < n := by
    obtain ⟨g1, g2, -⟩ := ask_ok hk
    rcases g1 with rfl | rfl | rfl <;> (unfold takesQ at g2; simp at g2; omega)
  have c0 : w.cell? ⟨b, off, none⟩ = some (.int .i64 (argQ xs 0)) := hc 0 (by omega)
  have hf : ∀ t, fitsP k xs t = decide (testQ k xs t ≤ argQ xs 0) := fun _ => rfl
  have hG : greatN (fitsP k xs) 23 0 = valQ k xs := rfl
  generalize valQ k xs = R at *
  generalize argQ xs 0 = z at *
  generalize fitsP k xs = p at *
  generalize testQ k xs = tq at *
  have HG := Lib.hid hG
  have HF := Lib.hid hf
  clear hG hf hc hn hk
  go_enter Try.func54, Try.ntmps54
  go_wp2
  go_loopg [5, 6] 23 (fun gg s5 s6 wr => ∃ (m : Nat) (t h : Int), m ≤ gg ∧ m ≤ 23 ∧ s5 = .int .i64 t ∧ s6 = .int .i64 h ∧ Aside (h = t + (2 : Int) ^ m) ∧ 0 ≤ t ∧ t + 1 ≤ h ∧ h ≤ 8388608 ∧ Aside (greatN p m t = R) ∧ Aside (Ext w wr))
  case atStart => exact ⟨23, 0, 8388608, by omega, by omega, rfl, rfl, (show _ = _ by decide), by omega, by omega, by omega, HG.out, Ext.refl w⟩
  case round =>
    obtain ⟨m, t, h, hm1, hm2, rfl, rfl, hs, ht0, ht1, hh, hG, EW⟩ := hrel
    rcases m with _ | m
    · have hs0 : ¬ t + 1 < h := by have := hs.out; rw [Int.pow_zero] at this; omega
      have HT := Lib.hid (show t = R from hG.out)
      clear hs hG
      go_wp2
      go_ret
      exact ⟨ret_int HT.out, EW.out⟩
    · have hp2 := pow23 (show m ≤ 23 by omega)
      obtain ⟨s, hs2⟩ : ∃ s, s = (2 : Int) ^ m := ⟨_, rfl⟩
      have hhs : h = t + 2 * s := by have := hs.out; rw [Int.pow_succ] at this; omega
      have hb1 : 1 ≤ s := by omega
      obtain ⟨u, hu⟩ : ∃ u, u = (t + h) / 2 := ⟨_, rfl⟩
      have hus : u = t + s := by omega
      have hG2 : greatN p m (if p u = true then u else t) = R := by rw [hus, hs2]; exact hG.out
      have u1 : t < u := by omega
      have u2 : u < h := by omega
      have hlt : t + 1 < h := by omega
      have hc := hT wr u EW.out (by omega) (by omega)
      have hw : (t + h) / 2 = u := hu.symm
      have HS := Lib.hid (show u = t + (2 : Int) ^ m ∧ h = u + (2 : Int) ^ m by omega)
      have c1 : wr.cell? ⟨b, off, none⟩ = some (.int .i64 z) := cell_later EW.out c0
      have HG2 := Lib.hid hG2
      have hfu := HF.out u
      clear hs hG hp2 hs2 hhs hb1 hus hu hG2 hT
      have b1 : 0 ≤ u := by omega
      have b2 : u ≤ 8388608 := by omega
      generalize tq u = y at *
      cases hq : decide (y ≤ z) with
      | true =>
        rw [hq] at hfu
        rw [hfu] at HG2
        have HG3 := Lib.hid (show greatN p m u = R from HG2.out)
        clear HG2 hfu
        go_wp2
        go_quiet ((go_at_call 103; exact Calls.quiet_of_same (hc _)))
        go_wp2
        go_roundg m
        case measure => omega
        case rel => exact ⟨m, u, h, by omega, by omega, by rw [hw], rfl, HS.out.2, by omega, by omega, by omega, HG3.out, below_drewN EW.out _⟩
      | false =>
        rw [hq] at hfu
        rw [hfu] at HG2
        have HG3 := Lib.hid (show greatN p m t = R from HG2.out)
        clear HG2 hfu
        go_wp2
        go_quiet ((go_at_call 103; exact Calls.quiet_of_same (hc _)))
        go_wp2
        go_roundg m
        case measure => omega
        case rel => exact ⟨m, t, u, by omega, by omega, rfl, by rw [hw], HS.out.1, by omega, by omega, by omega, HG3.out, below_drewN EW.out _⟩
set_option maxHeartbeats 1000000 in
theorem rb_fits (k t : Int) (b off c n : Nat) (xs : List Int) (w : World) (hk : askQ k xs = 0) (hn : xs.length = n) (hc : ∀ i, i < xs.length → w.cell? ⟨b, off + i, none⟩ = some (.int .i64 (xs[i]?.getD 0))) :
    Calls Try.prog 55 #[.int .i64 k, .slice (some ⟨b, off, none⟩) n c, .int .i64 t] w fun e w' => e = .returned (.bool (fitsQ k xs t)) ∧ Ext w w' := by
  have hT : ∀ t : Int, 0 ≤ t → t ≤ 8388608 → ∀ m, Calls Try.prog 103 #[.int .i64 k, .slice (some ⟨b, off, none⟩) n c, .int .i64 t] (w.drewN m) fun e w' => e = .returned (.int .i64 (testQ k xs t)) ∧ w' = w.drewN m := fun t t0 t1 m => (rb_test k t b off c n xs (w.drewN m) hk ⟨t0, t1⟩ hn (fun i hi => cell_later (below_drewN (Ext.refl _) _) (hc i hi))).mono fun _ _ h => ⟨h.1, h.2.symm⟩
  have hN : ∀ m, Calls Try.prog 102 #[.int .i64 t] (w.drewN m) fun e w' => e = .returned (.bool (numB t)) ∧ w' = w.drewN m := fun m => (rb_number t (w.drewN m)).mono fun _ _ h => ⟨h.1, h.2.symm⟩
  have hn0 : 0 < n := by
    obtain ⟨g1, g2, -⟩ := ask_ok hk
    rcases g1 with rfl | rfl | rfl <;> (unfold takesQ at g2; simp at g2; omega)
  have c0 : w.cell? ⟨b, off, none⟩ = some (.int .i64 (argQ xs 0)) := hc 0 (by omega)
  have e : fitsQ k xs t = (numB t && decide (testQ k xs t ≤ argQ xs 0) && (decide (t = 8388607) || !decide (testQ k xs (t + 1) ≤ argQ xs 0))) := rfl
  rw [e]
  cases hnb : numB t with
  | false =>
    rw [hnb] at hN
    clear e hT hk hn hc
    go_enter Try.func55, Try.ntmps55
    go_wp2
    go_quiet ((go_at_call 102; exact Calls.quiet_of_same (hN _)))
    go_wp2
    go_ret
    exact ⟨rfl, below_drewN (Ext.refl _) _⟩
  | true =>
    rw [hnb] at hN
    obtain ⟨t0, t1⟩ := numB_bd hnb
    have h1 := hT t t0 (by omega)
    have h2 := hT (t + 1) (by omega) (by omega)
    generalize testQ k xs t = y1 at *
    generalize testQ k xs (t + 1) = y2 at *
    generalize argQ xs 0 = z at *
    clear e hT hk hn hc
    have w1 : IntKind.i64.wrap (t + 1) = t + 1 := IntWalk.i64_in _ (by omega)
    cases hq1 : decide (y1 ≤ z) with
    | false =>
      clear h2
      go_enter Try.func55, Try.ntmps55
      go_wp2
      go_quiet ((first | (go_at_call 102; exact Calls.quiet_of_same (hN _)) | (go_at_call 103; exact Calls.quiet_of_same (h1 _))))
      go_wp2
      go_ret
      exact ⟨rfl, below_drewN (Ext.refl _) _⟩
    | true =>
      by_cases h7 : t = 8388607
      · subst h7
        clear h2
        go_enter Try.func55, Try.ntmps55
        go_wp2
        go_quiet ((first | (go_at_call 102; exact Calls.quiet_of_same (hN _)) | (go_at_call 103; exact Calls.quiet_of_same (h1 _))))
        go_wp2
        go_ret
        exact ⟨rfl, below_drewN (Ext.refl _) _⟩
      · have h7b : (t == 8388607) = false := by simpa using h7
        have h7d : decide (t = 8388607) = false := by simpa using h7
        rw [h7d]
        clear h7 h7d
        have HY : ∀ x : Bool, x = (!decide (y2 ≤ z)) → (Ending.returned (.bool x) = .returned (.bool (true && true && (false || !decide (y2 ≤ z))))) := fun x hx => by rw [hx]; rfl
        cases hq2 : decide (y2 ≤ z) with
        | true =>
          have hq3 : decide (z < y2) = false := by simp at hq2 ⊢; omega
          go_enter Try.func55, Try.ntmps55
          go_wp2
          go_quiet ((first | (go_at_call 102; exact Calls.quiet_of_same (hN _)) | (go_at_call 103; with_reducible exact Calls.quiet_of_same (h1 _)) | (go_at_call 103; with_reducible exact Calls.quiet_of_same (h2 _))))
          go_wp2
          go_ret
          exact ⟨rfl, below_drewN (Ext.refl _) _⟩
        | false =>
          have hq3 : decide (z < y2) = true := by simp at hq2 ⊢; omega
          go_enter Try.func55, Try.ntmps55
          go_wp2
          go_quiet ((first | (go_at_call 102; exact Calls.quiet_of_same (hN _)) | (go_at_call 103; with_reducible exact Calls.quiet_of_same (h1 _)) | (go_at_call 103; with_reducible exact Calls.quiet_of_same (h2 _))))
          go_wp2
          go_ret
          exact ⟨rfl, below_drewN (Ext.refl _) _⟩
end Go.Proofs.Ytcijneecjkpebaa
/- Layer 8's reference: the error of a routine. -/
namespace Go.Q
theorem all_of_get {p : Int → Bool} {xs : List Int} (h : ∀ i, i < xs.length → p (xs[i]?.getD 0) = true) : xs.all p = true := by
  rw [List.all_eq_true]
  intro x hx
  obtain ⟨i, hi, rfl⟩ := List.mem_iff_getElem.1 hx
  have := h i hi
  rwa [List.getElem?_eq_getElem hi] at this
theorem all_not_get {p : Int → Bool} {xs : List Int} {i : Nat} (hi : i < xs.length) (h : p (xs[i]?.getD 0) = false) : xs.all p = false := by
  rw [List.all_eq_false]
  refine ⟨xs[i], List.getElem_mem _, ?_⟩
  rw [List.getElem?_eq_getElem hi] at h
  have h2 : p xs[i] = false := h
  rw [h2]; simp
end Go.Q
namespace Go.Proofs.Ytcijneecjkpebaa
open Go.RowKit Go.Q
set_option maxRecDepth 100000 in
set_option maxHeartbeats 4000000 in
theorem rb_routine (c : Rt) (l : Lo) (w : World) (h : RtAt w c l) (hb : RtBd c) :
    Calls Try.prog 61 #[.agg #[.slice l.a1 c.words.length l.c1, .slice l.a2 c.masks.length l.c2, .int .i64 c.entry, .int .i64 c.exit, .int .i64 c.result, .slice l.a3 c.args.length l.c3]] w fun e w' => e = .returned (.int .i64 (checkR c)) ∧ Ext w w' := by
  obtain ⟨ws, ms, en, ex, re, ar⟩ := c
  obtain ⟨a1, c1, a2, c2, a3, c3⟩ := l
  obtain ⟨i1, i2, i3⟩ := h
  obtain ⟨b1, b2, b3⟩ := hb
  dsimp only at *
  have HA := Lib.hid (show checkR ⟨ws, ms, en, ex, re, ar⟩ = if inB ws.length 1 40 = false ∨ ms.length ≠ ws.length ∨ inB ar.length 1 2 = false then 3
    else if ws.all wordB = false ∨ ms.all maskB = false then 7
    else if ([en, ex, re] ++ ar).all (fun p => inB p 0 ((ws.length : Int) - 1)) = false then 4 else 0 from rfl)
  obtain ⟨R, hR⟩ : ∃ R, checkR ⟨ws, ms, en, ex, re, ar⟩ = R := ⟨_, rfl⟩
  rw [hR] at HA ⊢
  have hO1 := fun W => rb_in (ws.length : Int) 1 40 W
  have hO2 := fun W => rb_in (ar.length : Int) 1 2 W
  obtain ⟨nw, hnw⟩ : ∃ nw, ws.length = nw := ⟨_, rfl⟩
  obtain ⟨nm, hnm⟩ : ∃ nm, ms.length = nm := ⟨_, rfl⟩
  obtain ⟨na, hna⟩ : ∃ na, ar.length = na := ⟨_, rfl⟩
  rw [hnw] at HA hO1 b1 ⊢
  rw [hnm] at HA b2 ⊢
  rw [hna] at HA hO2 b3 ⊢
  have HNA := Lib.hid hna
  have HNW := Lib.hid hnw
  have HNM := Lib.hid hnm
  clear hR hnw hnm hna
  cases h1 : inB (nw : Int) 1 40 with
  | false =>
    have HR := Lib.hid (show R = 3 by rw [HA.out, if_pos (.inl h1)])
    rw [h1] at hO1
    clear i1 i2 i3 hO2 HA h1
    go_enter Try.func61, Try.ntmps61
    go_wp2_with fail
    refine (hO1 _).mono ?_
    rintro e w1 ⟨rfl, rfl⟩
    go_wp2
    go_ret
    exact ⟨ret_int HR.out.symm, (by repeat (first | with_reducible exact Ext.refl _ |  (with_reducible refine Ext.alloc ?_ _) | (with_reducible refine Below.drew ?_) | (with_reducible refine below_drewN ?_ _) | (with_reducible refine ext_put ?_ _ ?_; rotate_left; (first | with_reducible exact Nat.le_refl _ | with_reducible exact Nat.le_succ _ | omega | (dsimp only; omega)))))⟩
  | true =>
  have hnw40 := inB_bd h1
  rw [h1] at hO1
  by_cases h2 : nm ≠ nw
  · have HR := Lib.hid (show R = 3 by rw [HA.out, if_pos (.inr (.inl h2))])
    have h2b : ((nm : Int) != (nw : Int)) = true := by simp; omega
    clear i1 i2 i3 hO2 HA h1 h2
    go_enter Try.func61, Try.ntmps61
    go_wp2_with fail
    refine (hO1 _).mono ?_
    rintro e w1 ⟨rfl, rfl⟩
    go_wp2
    go_ret
    exact ⟨ret_int HR.out.symm, (by repeat (first | with_reducible exact Ext.refl _ |  (with_reducible refine Ext.alloc ?_ _) | (with_reducible refine Below.drew ?_) | (with_reducible refine below_drewN ?_ _) | (with_reducible refine ext_put ?_ _ ?_; rotate_left; (first | with_reducible exact Nat.le_refl _ | with_reducible exact Nat.le_succ _ | omega | (dsimp only; omega)))))⟩
  obtain rfl : nm = nw := by omega
  have h2b : ((nm : Int) != (nm : Int)) = false := by simp
  cases h3 : inB (na : Int) 1 2 with
  | false =>
    have HR := Lib.hid (show R = 3 by rw [HA.out, if_pos (.inr (.inr h3))])
    rw [h3] at hO2
    clear i1 i2 i3 HA h1 h2 h3
    go_enter Try.func61, Try.ntmps61
    go_wp2_with fail
    refine (hO1 _).mono ?_
    rintro e w1 ⟨rfl, rfl⟩
    go_wp2_with fail
    refine (hO2 _).mono ?_
    rintro e w1 ⟨rfl, rfl⟩
    go_wp2
    go_ret
    exact ⟨ret_int HR.out.symm, (by repeat (first | with_reducible exact Ext.refl _ |  (with_reducible refine Ext.alloc ?_ _) | (with_reducible refine Below.drew ?_) | (with_reducible refine below_drewN ?_ _) | (with_reducible refine ext_put ?_ _ ?_; rotate_left; (first | with_reducible exact Nat.le_refl _ | with_reducible exact Nat.le_succ _ | omega | (dsimp only; omega)))))⟩
  | true =>
  have hna2 := inB_bd h3
  rw [h3] at hO2
  replace HA := Lib.hid (show R = if ws.all wordB = false ∨ ms.all maskB = false then 7
    else if ([en, ex, re] ++ ar).all (fun p => inB p 0 ((nm : Int) - 1)) = false then 4 else 0 by rw [HA.out, if_neg (by rw [h1, h3]; simp)])
  clear h1 h2 h3
  obtain ⟨bw, ow, rfl, hbw, hcw⟩ : ∃ b off, a1 = some ⟨b, off, none⟩ ∧ b < w.heap.size ∧ ∀ i, i < ws.length → w.cell? ⟨b, off + i, none⟩ = some (.int .i64 (ws[i]?.getD 0)) := by
    rcases i1 with h | h
    · have := HNW.out; rw [h] at this; simp at this; omega
    · exact h
  obtain ⟨bm, om, rfl, hbm, hcm⟩ : ∃ b off, a2 = some ⟨b, off, none⟩ ∧ b < w.heap.size ∧ ∀ i, i < ms.length → w.cell? ⟨b, off + i, none⟩ = some (.int .i64 (ms[i]?.getD 0)) := by
    rcases i2 with h | h
    · have := HNM.out; rw [h] at this; simp at this; omega
    · exact h
  have HCW := Lib.hid hcw
  have HCM := Lib.hid hcm
  clear hcw hcm
  go_enter Try.func61, Try.ntmps61
  go_wp2_with fail
  refine (hO1 _).mono ?_
  rintro e w1 ⟨rfl, rfl⟩
  go_wp2_with fail
  refine (hO2 _).mono ?_
  rintro e w1 ⟨rfl, rfl⟩
  clear hO1 hO2
  go_upto_region 3 with fail
  obtain ⟨X, hX⟩ : ∃ X, w.alloc (.cells #[.slice (some ⟨bw, ow, none⟩) nm c1, .slice (some ⟨bm, om, none⟩) nm c2, .int .i64 en, .int .i64 ex, .int .i64 re, .slice a3 na c3] 24) = X := ⟨_, rfl⟩
  have E0 : Ext w X := by rw [← hX]; exact (Ext.refl w).alloc _
  have B0 : Blk X w.heap.size #[.slice (some ⟨bw, ow, none⟩) nm c1, .slice (some ⟨bm, om, none⟩) nm c2, .int .i64 en, .int .i64 ex, .int .i64 re, .slice a3 na c3] 24 := by rw [← hX]; exact Blk.nw w _ _
  rw [hX]
  clear hX
  have p0 := Blk.c B0 0 (v := .slice (some ⟨bw, ow, none⟩) nm c1) rfl
  have p1 := Blk.c B0 1 (v := .slice (some ⟨bm, om, none⟩) nm c2) rfl
  have p2 := Blk.c B0 2 (v := .int .i64 en) rfl
  have p3 := Blk.c B0 3 (v := .int .i64 ex) rfl
  have p4 := Blk.c B0 4 (v := .int .i64 re) rfl
  have p5 := Blk.c B0 5 (v := .slice a3 na c3) rfl
  go_wp2
  go_loop [3] (fun s => ∃ j : Nat, j ≤ nm ∧ s = .int .i64 (j : Int) ∧ Aside (∀ i, i < j → wordB (ws[i]?.getD 0) = true ∧ maskB (ms[i]?.getD 0) = true)) (fun s => nm - (intOf s).toNat)
  case atStart => exact ⟨0, Nat.zero_le _, rfl, fun j hj => absurd hj (Nat.not_lt_zero _)⟩
  case round =>
    obtain ⟨j, hj, rfl, HP⟩ := hrel
    by_cases hlt : j < nm
    · have hltz : (j : Int) < (nm : Int) := by omega
      have q1 := cell_later E0 (HCW.out j (by rw [HNW.out]; exact hlt))
      have q2 := cell_later E0 (HCM.out j (by rw [HNM.out]; exact hlt))
      have HWJ := Lib.hid (show ∀ i, i < j + 1 → i ≠ j → i < j from fun i h1 h2 => by omega)
      obtain ⟨x, hx⟩ : ∃ x, ws[j]?.getD 0 = x := ⟨_, rfl⟩
      obtain ⟨y, hy⟩ : ∃ y, ms[j]?.getD 0 = y := ⟨_, rfl⟩
      rw [hx] at q1
      rw [hy] at q2
      have HX := Lib.hid hx
      have HY := Lib.hid hy
      clear hx hy
      have hw1 := fun W => word_any x W
      have hm1 := fun W => rb_in y 0 7 W
      cases hq : wordB x with
      | false =>
        rw [hq] at hw1
        have HR := Lib.hid (show R = 7 by rw [HA.out, if_pos (.inl (all_not_get (by rw [HNW.out]; exact hlt) (by rw [HX.out]; exact hq)))])
        clear hq hm1
        go_wp2_with fail
        refine (hw1 _).mono ?_
        rintro e w1 ⟨rfl, rfl⟩
        go_wp2
        go_ret
        exact ⟨ret_int HR.out.symm, E0⟩
      | true =>
        rw [hq] at hw1
        have HQ := Lib.hid hq
        clear hq
        cases hq2 : inB y 0 7 with
        | false =>
          rw [hq2] at hm1
          have HR := Lib.hid (show R = 7 by rw [HA.out, if_pos (.inr (all_not_get (by rw [HNM.out]; exact hlt) (by rw [HY.out]; exact hq2)))])
          clear hq2
          go_wp2_with fail
          refine (hw1 _).mono ?_
          rintro e w1 ⟨rfl, rfl⟩
          go_wp2_with fail
          refine (hm1 _).mono ?_
          rintro e w1 ⟨rfl, rfl⟩
          go_wp2
          go_ret
          exact ⟨ret_int HR.out.symm, E0⟩
        | true =>
          rw [hq2] at hm1
          have HQ2 := Lib.hid hq2
          clear hq2
          go_wp2_with fail
          refine (hw1 _).mono ?_
          rintro e w1 ⟨rfl, rfl⟩
          go_wp2_with fail
          refine (hm1 _).mono ?_
          rintro e w1 ⟨rfl, rfl⟩
          go_wp2
          go_round
          case rel =>
            refine ⟨j + 1, by omega, by go_num, (show Aside _ from fun i hi => ?_)⟩
            by_cases e : i = j
            · subst e; rw [HX.out, HY.out]; exact ⟨HQ.out, HQ2.out⟩
            · exact HP.out i (by omega)
          case measure => simp [intOf]; omega
    · have hltz : ¬ (j : Int) < (nm : Int) := by omega
      obtain rfl : nm = j := by omega
      replace HA := Lib.hid (show R = if ([en, ex, re] ++ ar).all (fun p => inB p 0 ((nm : Int) - 1)) = false then 4 else 0 by
        rw [HA.out, if_neg]
        rw [all_of_get (fun i hi => (HP.out i (by rw [← HNW.out]; exact hi)).1), all_of_get (fun i hi => (HP.out i (by rw [← HNM.out]; exact hi)).2)]
        simp)
      clear HP hlt
      obtain ⟨i0, hi0, hz0, hz1, hz2⟩ := info_parts Try.infoE
      have hlt0 := B0.lt
      have hown := own_lit (w := X) (e := 3) (sz := 1) (n := 3) (vs := #[.int .i64 en, .int .i64 ex, .int .i64 re]) rfl (by decide) (Ext.refl _)
      have hfw := from_ints (i3.ext (E0.alloc (.cells #[.int .i64 en, .int .i64 ex, .int .i64 re] 3)))
      have hlen : (iv ar).length = na * 1 := by rw [iv_length, HNA.out]; omega
      go_wp2_with (at_builtin; refine wpList_app (w0 := X) rfl _ _ 22 rfl 3 i0 (.int .i64 0) 1 8 Try.underlying22 hi0 hz0 hz1 hz2 rfl (by decide) _ 3 X.heap.size [.int .i64 en, .int .i64 ex, .int .i64 re] rfl hown ((Ext.refl _).alloc _) (Nat.le_refl _) (by rw [World.size_alloc]; omega) a3 na c3 (iv ar) rfl hlen hfw (iv_one ar) (by unfold maxLen; omega) (by omega) ?_; intro a5 c5 w5 ho5 hE5 _)
      have hI5 : IntsAt w5 a5 ([en, ex, re] ++ ar) := own_intsL (xs := [en, ex, re] ++ ar) ho5
      obtain ⟨ys, hys⟩ : ∃ ys, [en, ex, re] ++ ar = ys := ⟨_, rfl⟩
      have hyl : ys.length = 3 + na := by rw [← hys, List.length_append, HNA.out]; rfl
      rw [hys] at HA hI5
      obtain ⟨b5, o5, rfl, hb5, hc5⟩ : ∃ b off, a5 = some ⟨b, off, none⟩ ∧ b < w5.heap.size ∧ ∀ i, i < ys.length → w5.cell? ⟨b, off + i, none⟩ = some (.int .i64 (ys[i]?.getD 0)) := by
        rcases hI5 with h | h
        · rw [h] at hyl; simp at hyl; omega
        · exact h
      have HC5 := Lib.hid hc5
      have HYL := Lib.hid hyl
      have EB := E0.comp hE5
      have B5 := B0.ex hE5
      clear hown hfw hlen ho5 hc5 hys hyl p0 p1 p2 p3 p4 p5 hI5
      go_loopw [5] (fun s wr => ∃ j : Nat, j ≤ 3 + na ∧ s = .int .i64 (j : Int) ∧ Aside (Ext w5 wr) ∧ Aside (∀ i, i < j → inB (ys[i]?.getD 0) 0 ((nm : Int) - 1) = true)) (fun s _ => 3 + na - (intOf s).toNat)
      case atStart => exact ⟨0, Nat.zero_le _, rfl, Ext.refl _, fun j hj => absurd hj (Nat.not_lt_zero _)⟩
      case round =>
        obtain ⟨j, hj, rfl, EW, HP⟩ := hrel
        have BW := B5.ex EW.out
        have p0 := BW.c 0 (v := .slice (some ⟨bw, ow, none⟩) nm c1) rfl
        by_cases hlt : j < 3 + na
        · have hltz : (j : Int) < ((3 + na : Nat) : Int) := by omega
          have hj0 : (0 : Int) ≤ (j : Int) := by omega
          have q1 := cell_later EW.out (HC5.out j (by rw [HYL.out]; exact hlt))
          obtain ⟨x, hx⟩ : ∃ x, ys[j]?.getD 0 = x := ⟨_, rfl⟩
          rw [hx] at q1
          have HX := Lib.hid hx
          clear hx
          have hcall : ∀ m, Calls Try.prog 71 #[.int .i64 x, .int .i64 0, .int .i64 ((nm : Int) - 1)] (wr.drewN m) fun e w' => e = .returned (.bool (inB x 0 ((nm : Int) - 1))) ∧ w' = wr.drewN m := fun m => (rb_in x 0 ((nm : Int) - 1) (wr.drewN m)).mono fun _ _ h => ⟨h.1, h.2.symm⟩
          have hwr : IntKind.i64.wrap ((nm : Int) - 1) = (nm : Int) - 1 := IntWalk.i64_in _ (by omega)
          cases hq : inB x 0 ((nm : Int) - 1) with
          | false =>
            rw [hq] at hcall
            have HR := Lib.hid (show R = 4 by rw [HA.out, if_pos (all_not_get (by rw [HYL.out]; exact hlt) (by rw [HX.out]; exact hq))])
            clear hq
            go_wp2_with fail
            go_quiet ((go_at_call 71; exact Calls.quiet_of_same (hcall _)))
            go_wp2_with fail
            go_ret
            exact ⟨ret_int HR.out.symm, EB.comp (below_drewN EW.out _)⟩
          | true =>
            rw [hq] at hcall
            have HQ := Lib.hid hq
            clear hq
            go_wp2_with fail
            go_quiet ((go_at_call 71; exact Calls.quiet_of_same (hcall _)))
            go_wp2_with fail
            go_roundw
            case rel =>
              refine ⟨j + 1, by omega, by go_num, below_drewN EW.out _, (show Aside _ from fun i hi => ?_)⟩
              by_cases e : i = j
              · subst e; rw [HX.out]; exact HQ.out
              · exact HP.out i (by omega)
            case measure => simp [intOf]; omega
        · have hltz : ¬ (j : Int) < ((3 + na : Nat) : Int) := by omega
          have HR := Lib.hid (show R = 0 by rw [HA.out, if_neg (by rw [all_of_get (fun i hi => HP.out i (by rw [HYL.out] at hi; omega))]; simp)])
          go_wp2_with fail
          go_ret
          exact ⟨ret_int HR.out.symm, EB.comp EW.out⟩
end Go.Proofs.Ytcijneecjkpebaa
/- Layer 8: Place; the reference's moved, placed, Place. -/
namespace Go.Proofs.Ytcijneecjkpebaa
open Go.RowKit Go.Q
/-- a list of the call's own, and an error -/
def IntsRes (p : List Int × Int) (w : World) (e : Ending) (w' : World) : Prop := ∃ a c, e = .returned (.tuple #[.slice a p.1.length c, .int .i64 p.2]) ∧ w'.ownsRow w.heap.size 3 1 (.slice a p.1.length c) p.1.length (iv p.1) ∧ Ext w w'
set_option maxRecDepth 100000 in
set_option maxHeartbeats 4000000 in
theorem lb_Place (c : Rt) (l : Lo) (base : Int) (w : World) (h : RtAt w c l) (hb : RtBd c) :
    Calls Try.prog 23 #[.agg #[.slice l.a1 c.words.length l.c1, .slice l.a2 c.masks.length l.c2, .int .i64 c.entry, .int .i64 c.exit, .int .i64 c.result, .slice l.a3 c.args.length l.c3], .int .i64 base] w (IntsRes (placeE c base) w) := by
  have hck := fun W (E : Ext w W) => lb_check c l W (h.ext E) hb
  have HE := Lib.hid (show placeE c base = if checkR c ≠ 0 then ([], checkR c) else if inB base 0 127 = false then ([], 7) else if 128 < base + c.words.length then ([], 3) else (placeL c base, 0) from rfl)
  have hpl := fun W (E : Ext w W) h0 hbs => lb_place c l base W (h.ext E) h0 hbs
  have hwl : checkR c = 0 → c.words.length ≤ 40 := fun h0 => by
    unfold checkR at h0
    split at h0
    · omega
    · rename_i hx
      have : inB c.words.length 1 40 = true := by cases hh : inB c.words.length 1 40 with
        | true => rfl
        | false => exact absurd (.inl hh) hx
      have := inB_bd this
      omega
  have HPL := Lib.hid (show (placeL c base).length = c.words.length from placeN_length _ _ _ _)
  have ho := fun W => lb_out base 0 127 W
  obtain ⟨R, hR⟩ : ∃ R, placeE c base = R := ⟨_, rfl⟩
  rw [hR] at HE ⊢
  obtain ⟨r, hr⟩ : ∃ r, checkR c = r := ⟨_, rfl⟩
  rw [hr] at HE hck hpl hwl
  clear hR hr h hb
  by_cases h0 : r = 0
  · subst h0
    have hw40 := hwl rfl
    cases h1 : inB base 0 127 with
    | false =>
      have HR := Lib.hid (show R = ([], 7) by rw [HE.out, if_neg (by simp), if_pos h1])
      rw [h1] at ho
      clear HE h1 hpl hwl
      go_enter Try.func23, Try.ntmps23
      go_wp2_with fail
      refine (hck _ (by repeat (first | with_reducible exact Ext.refl _ |  (with_reducible refine Ext.alloc ?_ _) | (with_reducible refine Below.drew ?_) | (with_reducible refine below_drewN ?_ _) | (with_reducible refine ext_put ?_ _ ?_; rotate_left; (first | with_reducible exact Nat.le_refl _ | with_reducible exact Nat.le_succ _ | omega | (dsimp only; omega)))))).mono ?_
      rintro e w1 ⟨rfl, E1⟩
      go_wp2_with fail
      refine (ho _).mono ?_
      rintro e w1 ⟨rfl, rfl⟩
      go_wp2_with fail
      go_ret2
      exact ⟨none, 0, by rw [HR.out]; rfl, by rw [HR.out]; exact World.ownsRow_nil _ _ _ _, E1.old⟩
    | true =>
      have hbs := inB_bd h1
      rw [h1] at ho
      by_cases h2 : 128 < base + c.words.length
      · have HR := Lib.hid (show R = ([], 3) by rw [HE.out, if_neg (by simp), if_neg (by rw [h1]; simp), if_pos h2])
        clear HE h1 hpl hwl
        go_enter Try.func23, Try.ntmps23
        go_wp2_with fail
        refine (hck _ (by repeat (first | with_reducible exact Ext.refl _ |  (with_reducible refine Ext.alloc ?_ _) | (with_reducible refine Below.drew ?_) | (with_reducible refine below_drewN ?_ _) | (with_reducible refine ext_put ?_ _ ?_; rotate_left; (first | with_reducible exact Nat.le_refl _ | with_reducible exact Nat.le_succ _ | omega | (dsimp only; omega)))))).mono ?_
        rintro e w1 ⟨rfl, E1⟩
        go_wp2_with fail
        refine (ho _).mono ?_
        rintro e w1 ⟨rfl, rfl⟩
        have p0 := Blk.c (Blk.of E1) 0 (v := .slice l.a1 c.words.length l.c1) rfl
        go_wp2_with fail
        go_ret2
        exact ⟨none, 0, by rw [HR.out]; rfl, by rw [HR.out]; exact World.ownsRow_nil _ _ _ _, E1.old⟩
      · have HR := Lib.hid (show R = (placeL c base, 0) by rw [HE.out, if_neg (by simp), if_neg (by rw [h1]; simp), if_neg h2])
        have hP := fun W (E : Ext w W) => hpl W E rfl hbs
        unfold OwnRes at hP
        clear HE h1 hpl hwl
        go_enter Try.func23, Try.ntmps23
        go_wp2_with fail
        refine (hck _ (by repeat (first | with_reducible exact Ext.refl _ |  (with_reducible refine Ext.alloc ?_ _) | (with_reducible refine Below.drew ?_) | (with_reducible refine below_drewN ?_ _) | (with_reducible refine ext_put ?_ _ ?_; rotate_left; (first | with_reducible exact Nat.le_refl _ | with_reducible exact Nat.le_succ _ | omega | (dsimp only; omega)))))).mono ?_
        rintro e w1 ⟨rfl, E1⟩
        go_wp2_with fail
        refine (ho _).mono ?_
        rintro e w1 ⟨rfl, rfl⟩
        have p0 := Blk.c (Blk.of E1) 0 (v := .slice l.a1 c.words.length l.c1) rfl
        have p1 := Blk.c (Blk.of E1) 1 (v := .slice l.a2 c.masks.length l.c2) rfl
        have p2 := Blk.c (Blk.of E1) 2 (v := .int .i64 c.entry) rfl
        have p3 := Blk.c (Blk.of E1) 3 (v := .int .i64 c.exit) rfl
        have p4 := Blk.c (Blk.of E1) 4 (v := .int .i64 c.result) rfl
        have p5 := Blk.c (Blk.of E1) 5 (v := .slice l.a3 c.args.length l.c3) rfl
        go_wp2_with fail
        refine (hP _ E1.old).mono ?_
        rintro e w2 ⟨a', c', rfl, hown, E2⟩
        have hs := E1.old.size
        go_wp2_with fail
        go_ret2
        exact ⟨a', c', by rw [HR.out]; dsimp only; rw [HPL.out]; rfl, by rw [HR.out]; dsimp only; rw [HPL.out]; exact own_le hown hs, E1.old.comp E2⟩
  · have HR := Lib.hid (show R = ([], r) by rw [HE.out, if_pos h0])
    have h0b : (r != 0) = true := by simpa using h0
    clear HE h0 hpl hwl
    go_enter Try.func23, Try.ntmps23
    go_wp2_with fail
    refine (hck _ (by repeat (first | with_reducible exact Ext.refl _ |  (with_reducible refine Ext.alloc ?_ _) | (with_reducible refine Below.drew ?_) | (with_reducible refine below_drewN ?_ _) | (with_reducible refine ext_put ?_ _ ?_; rotate_left; (first | with_reducible exact Nat.le_refl _ | with_reducible exact Nat.le_succ _ | omega | (dsimp only; omega)))))).mono ?_
    rintro e w1 ⟨rfl, E1⟩
    go_wp2_with fail
    go_ret2
    exact ⟨none, 0, by rw [HR.out]; rfl, by rw [HR.out]; exact World.ownsRow_nil _ _ _ _, E1.old⟩
set_option maxHeartbeats 400000 in
theorem rb_moved (n m b base : Int) (w : World) (hm : maskB m = true) (hb : b = 1 ∨ b = 2 ∨ b = 4) (hn : addrB n = true) (hbs : 0 ≤ base ∧ base ≤ 127) :
    Calls Try.prog 112 #[.int .i64 n, .int .i64 m, .int .i64 b, .int .i64 base] w fun e w' => e = .returned (.int .i64 (movedQ n m b base)) ∧ w' = w := by
  obtain ⟨n0, n1⟩ := inB_bd (show inB n 0 127 = true from hn)
  obtain ⟨m0, m1⟩ := inB_bd (show inB m 0 7 = true from hm)
  obtain ⟨b0, b1⟩ := hbs
  unfold movedQ
  have hd : 0 ≤ m / b := Int.ediv_nonneg m0 (by omega)
  have h1b : 1 ≤ b := by omega
  by_cases h : m / b % 2 = 1
  · rw [if_pos h]
    have hq : (m / b % 2 == 1) = true := by simpa using h
    clear h hb hm hn
    go_enter Try.func112, Try.ntmps112
    go_wp2
    go_ret
    exact ⟨rfl, rfl⟩
  · rw [if_neg h]
    have hq : (m / b % 2 == 1) = false := by simpa using h
    clear h hb hm hn
    go_enter Try.func112, Try.ntmps112
    go_wp2
    go_ret
    exact ⟨rfl, rfl⟩
theorem from_one (w : World) (z : Int) (t : TypeId) : From (w.alloc (.cells #[.int .i64 z] t)) (some ⟨w.heap.size, 0, none⟩) (iv [z]) := by
  refine .inr ⟨_, rfl, fun i u hu => ?_⟩
  have hn := Blk.nw w #[.int .i64 z] t
  rw [Addr.add_lit]
  simp only [Nat.zero_add]
  exact hn.c i (by rw [← hu]; simp [iv])
theorem rb_order (a b c d : Int) (w : World) (h : ordB ⟨a, b, c, d⟩ = true) :
    Calls Try.prog 74 #[.int .i64 a, .int .i64 b, .int .i64 c, .int .i64 d] w fun e w' => e = .returned (.int .i64 (Q.written ⟨a, b, c, d⟩)) ∧ Ext w w' := by
  have hw := fun W => written_any a b c d W h
  go_enter Try.func74, Try.ntmps74
  go_wp2_with fail
  refine (hw _).mono ?_
  rintro e w1 ⟨rfl, E1⟩
  go_wp2
  go_ret
  exact ⟨rfl, E1⟩
theorem rb_dec {n : Int} (h : wordB n = true) (w : World) :
    Calls Try.prog 111 #[.int .i64 n] w fun e w' => e = .returned (.tuple #[.agg #[.int .i64 (decodeQ n).op, .int .i64 (decodeQ n).frm, .int .i64 (decodeQ n).to, .int .i64 (decodeQ n).nxt], .int .i64 0]) ∧ Ext w w' := by
  have hd := rdecodeE_any n w
  have hdq : decQ n = (decodeQ n, 0) := by unfold decQ; rw [if_pos h]
  rw [hdq] at hd
  unfold ovE at hd
  exact hd
set_option maxRecDepth 100000 in
set_option maxHeartbeats 4000000 in
theorem rb_placed (c : Rt) (l : Lo) (base : Int) (w : World) (h : RtAt w c l) (hck : checkR c = 0) (hbs : 0 ≤ base ∧ base ≤ 127) :
    Calls Try.prog 63 #[.agg #[.slice l.a1 c.words.length l.c1, .slice l.a2 c.masks.length l.c2, .int .i64 c.entry, .int .i64 c.exit, .int .i64 c.result, .slice l.a3 c.args.length l.c3], .int .i64 base] w (OwnRes c.words.length (placeL c base) w) := by
  have hwl : 1 ≤ c.words.length ∧ c.words.length ≤ 40 := by
    unfold checkR at hck
    split at hck
    · omega
    · rename_i hx
      have : inB c.words.length 1 40 = true := by cases hh : inB c.words.length 1 40 with
        | true => rfl
        | false => exact absurd (.inl hh) hx
      have := inB_bd this
      omega
  obtain ⟨hml, hwa, hma⟩ := check_parts hck
  have HPL := Lib.hid (show placeL c base = placeN base c.words c.masks c.words.length from rfl)
  obtain ⟨ws, ms, en, ex, re, ar⟩ := c
  obtain ⟨a1, c1, a2, c2, a3, c3⟩ := l
  obtain ⟨i1, i2, i3⟩ := h
  dsimp only at *
  obtain ⟨bw, ow, rfl, hbw, hcw⟩ : ∃ b off, a1 = some ⟨b, off, none⟩ ∧ b < w.heap.size ∧ ∀ i, i < ws.length → w.cell? ⟨b, off + i, none⟩ = some (.int .i64 (ws[i]?.getD 0)) := by
    rcases i1 with h | h
    · rw [h] at hwl; simp at hwl
    · exact h
  obtain ⟨bm, om, rfl, hbm, hcm⟩ : ∃ b off, a2 = some ⟨b, off, none⟩ ∧ b < w.heap.size ∧ ∀ i, i < ms.length → w.cell? ⟨b, off + i, none⟩ = some (.int .i64 (ms[i]?.getD 0)) := by
    rcases i2 with h | h
    · rw [h] at hml; simp at hml; omega
    · exact h
  obtain ⟨R, hR⟩ : ∃ R, placeL ⟨ws, ms, en, ex, re, ar⟩ base = R := ⟨_, rfl⟩
  rw [hR] at HPL ⊢
  obtain ⟨n, hn⟩ : ∃ n, ws.length = n := ⟨_, rfl⟩
  rw [hn] at hcw hwl hml HPL ⊢
  rw [hml] at hcm ⊢
  have HCW := Lib.hid hcw
  have HCM := Lib.hid hcm
  have HWA := Lib.hid (show ∀ i, i < n → wordB (ws[i]?.getD 0) = true from fun i hi => getD_all hwa (by omega))
  have HMA := Lib.hid (show ∀ i, i < n → maskB (ms[i]?.getD 0) = true from fun i hi => getD_all hma (by omega))
  have hse := placeN_succ base ws ms
  have HZ := Lib.hid (show placeN base ws ms 0 = [] from rfl)
  obtain ⟨pl, hpl⟩ : ∃ pl, placeN base ws ms = pl := ⟨_, rfl⟩
  rw [hpl] at HPL hse HZ
  have HSE := Lib.hid hse
  have HBS := Lib.hid hbs
  obtain ⟨w0, w40⟩ := hwl
  clear hcw hcm hck hwa hma hR hn hml i1 i2 i3 hse hpl hbs
  obtain ⟨i0, hi0, hz0, hz1, hz2⟩ := info_parts Try.infoE
  go_enter Try.func63, Try.ntmps63
  go_upto_region 1 with fail
  obtain ⟨X, hX⟩ : ∃ X, w.alloc (.cells #[.slice (some ⟨bw, ow, none⟩) n c1, .slice (some ⟨bm, om, none⟩) n c2, .int .i64 en, .int .i64 ex, .int .i64 re, .slice a3 ar.length c3] 24) = X := ⟨_, rfl⟩
  have E0 : Ext w X := by rw [← hX]; exact (Ext.refl w).alloc _
  have B0 : Blk X w.heap.size #[.slice (some ⟨bw, ow, none⟩) n c1, .slice (some ⟨bm, om, none⟩) n c2, .int .i64 en, .int .i64 ex, .int .i64 re, .slice a3 ar.length c3] 24 := by rw [← hX]; exact Blk.nw w _ _
  rw [hX]
  clear hX
  go_wp2
  go_loopw [5, 6] (fun s5 s6 wr => ∃ j : Nat, j ≤ n ∧ s6 = .int .i64 (j : Int) ∧ Aside (Ext X wr) ∧ Aside (wr.ownsRow X.heap.size 3 1 s5 j (iv (pl j)))) (fun _ s _ => n - (intOf s).toNat)
  case atStart => exact ⟨0, Nat.zero_le _, rfl, Ext.refl _, (show World.ownsRow _ _ _ _ _ _ _ by rw [HZ.out]; exact World.ownsRow_nil _ _ _ _)⟩
  case round =>
    obtain ⟨j, hj, rfl, EW, HO⟩ := hrel
    have BW := B0.ex EW.out
    have p0 := BW.c 0 (v := .slice (some ⟨bw, ow, none⟩) n c1) rfl
    by_cases hlt : j < n
    · have hltz : (j : Int) < (n : Int) := by omega
      have q1 := cell_later (E0.comp EW.out) (HCW.out j hlt)
      have q2 := fun W (E : Ext wr W) => cell_later (E0.comp (EW.out.comp E)) (HCM.out j hlt)
      have hx1 := HWA.out j hlt
      have hy1 := HMA.out j hlt
      have hpj := HSE.out j
      obtain ⟨x, hx⟩ : ∃ x, ws[j]?.getD 0 = x := ⟨_, rfl⟩
      obtain ⟨y, hy⟩ : ∃ y, ms[j]?.getD 0 = y := ⟨_, rfl⟩
      rw [hx] at q1 hx1 hpj
      simp only [hy] at q2
      rw [hy] at hy1 hpj
      have HPJ := Lib.hid hpj
      clear hpj hx hy
      have hdec := fun W => rb_dec hx1 W
      obtain ⟨o1, o2, o3, o4⟩ := ord_parts (decode_ord hx1)
      have hpo := placed_ord (m := y) (base := base) hx1
      have henc := fun W => rb_order _ _ _ _ W hpo
      have ha1 := fun W => rb_moved (decodeQ x).frm y 1 base W hy1 (.inl rfl) o2 HBS.out
      have ha2 := fun W => rb_moved (decodeQ x).to y 2 base W hy1 (.inr (.inl rfl)) o3 HBS.out
      have ha3 := fun W => rb_moved (decodeQ x).nxt y 4 base W hy1 (.inr (.inr rfl)) o4 HBS.out
      have HPW := Lib.hid (show placeW base x y = Q.written ⟨(decodeQ x).op, movedQ (decodeQ x).frm y 1 base, movedQ (decodeQ x).to y 2 base, movedQ (decodeQ x).nxt y 4 base⟩ from rfl)
      generalize Q.written ⟨(decodeQ x).op, movedQ (decodeQ x).frm y 1 base, movedQ (decodeQ x).to y 2 base, movedQ (decodeQ x).nxt y 4 base⟩ = z at *
      generalize movedQ (decodeQ x).frm y 1 base = m1 at *
      generalize movedQ (decodeQ x).to y 2 base = m2 at *
      generalize movedQ (decodeQ x).nxt y 4 base = m3 at *
      generalize (decodeQ x).op = op at *
      generalize (decodeQ x).frm = fm at *
      generalize (decodeQ x).to = tm at *
      generalize (decodeQ x).nxt = nx at *
      clear hx1 hy1 o1 o2 o3 o4 hpo
      go_wp2_with fail
      refine (hdec _).mono ?_
      rintro e w1 ⟨rfl, E1⟩
      have B1 := (BW.ex E1).al (.cells #[.int .i64 op, .int .i64 fm, .int .i64 tm, .int .i64 nx] 107)
      have p1 := B1.c 1 (v := .slice (some ⟨bm, om, none⟩) n c2) rfl
      have hlt0 := (BW.ex E1).lt
      have hwob : wr.heap.size ≤ w1.heap.size := E1.size
      have q3 := q2 (w1.alloc (.cells #[.int .i64 op, .int .i64 fm, .int .i64 tm, .int .i64 nx] 107)) (E1.alloc _)
      have BO := Blk.nw w1 #[.int .i64 op, .int .i64 fm, .int .i64 tm, .int .i64 nx] 107
      have EY : Ext wr (w1.alloc (.cells #[.int .i64 op, .int .i64 fm, .int .i64 tm, .int .i64 nx] 107)) := E1.alloc _
      go_upto_region 6 with fail
      generalize hY : w1.alloc (.cells #[.int .i64 op, .int .i64 fm, .int .i64 tm, .int .i64 nx] 107) = Y at *
      generalize hob : w1.heap.size = ob at *
      clear hY hob q1 q2 hdec
      go_wp2_with fail
      have EYd : Ext wr Y.drew := EY.drew
      have hobs := BO.lt
      have hof : ∀ g, u5.ownBlock = some g → g < wr.heap.size := fun g hg => (HO.out.lt g hg).2
      have HOF := Lib.hid (show some ob ≠ u5.ownBlock from fun e => by have := hof ob e.symm; omega)
      clear hof
      have r0 := Blk.c BO 0 (v := .int .i64 op) rfl
      have r1 := Blk.c BO 1 (v := .int .i64 fm) rfl
      have r2 := Blk.c BO 2 (v := .int .i64 tm) rfl
      have r3 := Blk.c BO 3 (v := .int .i64 nx) rfl
      go_region_held3 (fun w' => w'.cell? ⟨ob, 0, none⟩ = some (.int .i64 op) ∧ w'.cell? ⟨ob, 1, none⟩ = some (.int .i64 fm) ∧ w'.cell? ⟨ob, 2, none⟩ = some (.int .i64 tm) ∧ w'.cell? ⟨ob, 3, none⟩ = some (.int .i64 nx))
        (first | exact ⟨r0, r1, r2, r3⟩ | with_reducible exact KG | with_reducible exact KA | with_reducible exact KC)
        (first
          | (go_at_call 112; with_reducible refine (ha1 _).mono ?_; rintro e w1 ⟨rfl, rfl⟩)
          | (go_at_call 112; with_reducible refine (ha2 _).mono ?_; rintro e w1 ⟨rfl, rfl⟩)
          | (go_at_call 112; with_reducible refine (ha3 _).mono ?_; rintro e w1 ⟨rfl, rfl⟩)
          | (go_at_call 74; with_reducible refine (henc _).mono ?_; rintro e w' ⟨rfl, E5⟩
             have KC : w'.cell? ⟨ob, 0, none⟩ = some (.int .i64 op) ∧ w'.cell? ⟨ob, 1, none⟩ = some (.int .i64 fm) ∧ w'.cell? ⟨ob, 2, none⟩ = some (.int .i64 tm) ∧ w'.cell? ⟨ob, 3, none⟩ = some (.int .i64 nx) := ⟨cell_later E5 r0, cell_later E5 r1, cell_later E5 r2, cell_later E5 r3⟩
             have KA : (w'.alloc (.cells #[.int .i64 z] 3)).cell? ⟨ob, 0, none⟩ = some (.int .i64 op) ∧ (w'.alloc (.cells #[.int .i64 z] 3)).cell? ⟨ob, 1, none⟩ = some (.int .i64 fm) ∧ (w'.alloc (.cells #[.int .i64 z] 3)).cell? ⟨ob, 2, none⟩ = some (.int .i64 tm) ∧ (w'.alloc (.cells #[.int .i64 z] 3)).cell? ⟨ob, 3, none⟩ = some (.int .i64 nx) := ⟨cell_later (E5.alloc _) r0, cell_later (E5.alloc _) r1, cell_later (E5.alloc _) r2, cell_later (E5.alloc _) r3⟩
             have hxs := EW.out.size
             have hs5 := (EYd.comp E5).size
             have hown := own_extX HO.out ((EYd.comp E5).alloc (.cells #[.int .i64 z] 3))
             have hEx : Ext X (w'.alloc (.cells #[.int .i64 z] 3)) := (EW.out.comp (EYd.comp E5)).alloc _
             have hfr := from_one w' z 3)
          | (refine step_app (w0 := X) (by rfl) _ _ _ (by rfl) 3 i0 (.int .i64 0) 1 8 Try.underlying22 hi0 hz0 hz1 hz2 rfl (by omega) _ j X.heap.size (iv (pl j)) (by rfl) hown hEx (Nat.le_refl _) (by rw [World.size_alloc]; omega) (some ⟨w'.heap.size, 0, none⟩) 1 1 (iv [z]) (by rfl) rfl hfr (iv_one [z]) (by unfold maxLen; omega) (by omega) ?_
             intro a5 c5 w5 ho5 hE5 hg5
             have KG := And.intro (hg5.cell KA.1 HOF.out) (And.intro (hg5.cell KA.2.1 HOF.out) (And.intro (hg5.cell KA.2.2.1 HOF.out) (hg5.cell KA.2.2.2 HOF.out)))))
      go_wp2_with fail
      go_roundw
      case rel =>
        refine ⟨j + 1, by omega, by go_num, hE5, (show World.ownsRow _ _ _ _ _ _ _ from ?_)⟩
        rw [HPJ.out, ← iv_app, HPW.out]
        exact ho5
      case measure => simp [intOf]; omega
    · have hltz : ¬ (j : Int) < (n : Int) := by omega
      obtain rfl : n = j := by omega
      obtain ⟨a', c', rfl⟩ := own_slice HO.out
      go_wp2_with fail
      go_ret
      exact ⟨a', c', rfl, by rw [HPL.out]; exact own_le HO.out E0.size, E0.comp EW.out⟩
end Go.Proofs.Ytcijneecjkpebaa

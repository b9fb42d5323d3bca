/- The law LineSafe: its walk, where the temperature is safe (printed by gen_j4.py). -/
import Derived.Test.YtkkchoinfdfiaaaJ3
import Derived.Test.YtkkchoinfdfiaaaN2
set_option linter.unusedVariables false
set_option linter.unusedSimpArgs false
namespace Go.Proofs.Ytkkchoinfdfiaaa
open Go.RowKit Go.Q Go.Shelf Go.Maps

theorem makeI (W : World) (n : Nat) (hn : n ≤ 2600) : (Instr.makeSlice 26 (.int .i64 n) (.int .i64 n)).run Try.prog W = .ok (.slice (some ⟨W.heap.size, 0, none⟩) n n) (W.alloc (.cells (Array.replicate n (.int .i64 0)) 3)) := by
  obtain ⟨i0, hi, hz0, hz1, hz2⟩ := info_parts Try.infoE
  have := run_makeSlice (P := Try.prog) W 26 3 i0 (.int .i64 0) Try.underlying26 hi hz0 .i64 .i64 n n (by omega) (by omega) (by rw [hz1]; omega) (by rw [hz2]; omega) (by omega)
  rw [hz1] at this
  rw [this]
  have e : madeCells (Value.int .i64 0).cells (((n : Int)).toNat * 1) = Array.replicate n (.int .i64 0) := by
    rw [Int.toNat_natCast, Nat.mul_one, show (Value.int .i64 0).cells = #[.int .i64 0] from rfl]
    apply Array.ext
    · simp [madeCells]
    · intro i h1 h2
      simp [madeCells, Nat.mod_one]
  rw [e, Int.toNat_natCast]
theorem oneA {n : Nat} (h : 1 ≤ n) : (Array.replicate n (Value.int .i64 0)).setIfInBounds 0 (.int .i64 1) = (iv (oneW n)).toArray := by
  obtain ⟨m, rfl⟩ : ∃ m, n = m + 1 := ⟨n - 1, by omega⟩
  apply Array.ext'
  simp [oneW, iv, List.replicate_succ]
theorem made_cell (W : World) {n i : Nat} (h : i < n) : (W.alloc (.cells (Array.replicate n (Value.int .i64 0)) 3)).cell? ⟨W.heap.size, i, none⟩ = some (.int .i64 0) ∧ (W.alloc (.cells (Array.replicate n (Value.int .i64 0)) 3)).frozen? ⟨W.heap.size, i, none⟩ = false :=
  ⟨box_at (Ext.refl _) i (by simp [h]), box_free (Ext.refl _) i⟩
set_option maxRecDepth 100000 in
set_option maxHeartbeats 8000000 in
theorem safelaw_bad (l : Ln) (a : Option Addr) (n c : Nat) (t : Int) (w : World) (ho : okL l = false) :
    Calls Try.prog 14 #[.agg #[.int .i64 l.words, .int .i64 l.bits, .int .i64 l.period, .int .i64 l.delay, .int .i64 l.slope, .int .i64 l.window], .slice a n c, .int .i64 t] w fun e w' => e = .returned (.bool true) ∧ Ext w w' := by
  have h1 := fun W => Safe_any l W
  rw [show safeE l = (⟨0, 0⟩, 7) by unfold safeE; rw [ho]; rfl] at h1
  go_enter Try.func14, Try.ntmps14
  go_wp2_with fail
  refine (h1 _).mono ?_
  rintro e w1 ⟨rfl, E1⟩
  go_wp2_with fail
  refine (awake_any _).mono ?_
  rintro e w2 ⟨rfl, E2⟩
  go_wp2
  go_ret
  exact ⟨rfl, E1.old.comp E2.old⟩
set_option maxRecDepth 100000 in
set_option maxHeartbeats 8000000 in
theorem safelaw_cold (l : Ln) (a : Option Addr) (n c : Nat) (t : Int) (w : World) (ho : okL l = true) (ht : tempB t = false) :
    Calls Try.prog 14 #[.agg #[.int .i64 l.words, .int .i64 l.bits, .int .i64 l.period, .int .i64 l.delay, .int .i64 l.slope, .int .i64 l.window], .slice a n c, .int .i64 t] w fun e w' => e = .returned (.bool true) ∧ Ext w w' := by
  have h1 := fun W => Safe_any l W
  have hte := fun W => rtemp_any t W
  rw [ht] at hte
  have h9 : (safeE l).2 = 0 ∨ (safeE l).2 = 9 := by
    unfold safeE
    rw [if_pos ho]
    split
    · exact .inr rfl
    · exact .inl rfl
  generalize (safeE l).1.lo = lo at *
  generalize (safeE l).1.hi = hi at *
  rcases h9 with h9 | h9
  · rw [h9] at h1
    go_enter Try.func14, Try.ntmps14
    go_wp2_with fail
    refine (h1 _).mono ?_
    rintro e w1 ⟨rfl, E1⟩
    go_wp2_with fail
    refine (hte _).mono ?_
    rintro e w2 ⟨rfl, rfl⟩
    go_wp2_with fail
    refine (awake_any _).mono ?_
    rintro e w3 ⟨rfl, E3⟩
    go_wp2
    go_ret
    exact ⟨rfl, E1.old.comp E3.old⟩
  · rw [h9] at h1
    go_enter Try.func14, Try.ntmps14
    go_wp2_with fail
    refine (h1 _).mono ?_
    rintro e w1 ⟨rfl, E1⟩
    go_wp2_with fail
    refine (hte _).mono ?_
    rintro e w2 ⟨rfl, rfl⟩
    go_wp2_with fail
    refine (awake_any _).mono ?_
    rintro e w3 ⟨rfl, E3⟩
    go_wp2
    go_ret
    exact ⟨rfl, E1.old.comp E3.old⟩
set_option maxRecDepth 100000 in
set_option maxHeartbeats 8000000 in
theorem safelaw_in (l : Ln) (a : Option Addr) (n c : Nat) (ws : List Int) (t : Int) (w : World) (hn : ws.length = n) (hbig : n ≤ 9223372036854775807) (hI : IntsAt w a ws) (ho : okL l = true) (ht : tempB t = true) (hs : safeK l 1501 ≠ []) (hin : safeL l t = true) :
    Calls Try.prog 14 #[.agg #[.int .i64 l.words, .int .i64 l.bits, .int .i64 l.period, .int .i64 l.delay, .int .i64 l.slope, .int .i64 l.window], .slice a n c, .int .i64 t] w fun e w' => e = .returned (.bool true) ∧ Ext w w' := by
  have h1 := fun W => Safe_any l W
  have hok := okL_ok ho
  rw [show safeE l = (⟨loK l 1501, hiK l 1501⟩, 0) by unfold safeE; rw [if_pos ho, if_neg hs]] at h1
  have hsp := safe_span hok hs t
  obtain ⟨lo, hlo⟩ : ∃ lo, loK l 1501 = lo := ⟨_, rfl⟩
  obtain ⟨hi, hhi⟩ : ∃ hi, hiK l 1501 = hi := ⟨_, rfl⟩
  rw [hlo, hhi] at h1 hsp
  dsimp only at h1
  have hte := fun W => rtemp_any t W
  rw [ht] at hte
  have hsh := fun W => Shift_any l t W
  rw [show shiftE l t = ((shiftV l t).1, (shiftV l t).2, 0) by unfold shiftE; rw [if_pos ⟨ho, ht⟩]] at hsh
  dsimp only at hsh
  have hB := hok.beats
  have hwd := hok.words
  have hbt := hok.bits
  have hps := fun W (b : Nat) (c2 : Nat) (E : Ext w W) (j2 : IntsAt W (some ⟨b, 0, none⟩) [t]) => Pass_any l a (some ⟨b, 0, none⟩) n 1 c c2 ws [t] W hn rfl hbig (by decide) (hI.ext E) j2
  obtain ⟨nw, hnw⟩ : ∃ nw : Nat, l.words = nw := Int.eq_ofNat_of_zero_le (by omega)
  have hpo := fun W (a1 : Option Addr) (c1 b c2 : Nat) (j1 : IntsAt W a1 (oneW nw)) (j2 : IntsAt W (some ⟨b, 0, none⟩) [t]) => Pass_any l a1 (some ⟨b, 0, none⟩) nw 1 c1 c2 (oneW nw) [t] W (oneW_len (by omega)) rfl (by omega) (by decide) j1 j2
  have hx1 : passX l (oneW nw) [t] = 0 := by
    have := oneW_ok hok
    rw [hnw, Int.toNat_natCast] at this
    unfold passX
    rw [ho, this]
    simp [ht]
  rw [show passE l (oneW nw) [t] = (passW l (oneW nw) [t], atL l [t], 0) by unfold passE; rw [if_pos hx1], at_one] at hpo
  have hplen : (passW l (oneW nw) [t]).length = nw := by unfold passW wordsN; rw [fstN_length, hnw]; rfl
  have hin1 := fun W (a1 a2 : Option Addr) (c1 c2 : Nat) (j1 : IntsAt W a1 (passW l (oneW nw) [t])) (j2 : IntsAt W a2 (oneW nw)) => ints_any a1 a2 nw nw c1 c2 (passW l (oneW nw) [t]) (oneW nw) W hplen (oneW_len (by omega)) (by omega) (by omega) j1 j2
  have hlt := hsp.2 hin
  obtain ⟨hlt1, hlt2⟩ := hlt
  have d1 : decide (lo ≤ t) = true := decide_eq_true hlt1
  have d2 : decide (t ≤ hi) = true := decide_eq_true hlt2
  clear hlo hhi hsp hs
  have hlo : lostL l t = false := by
    unfold safeL at hin
    simp only [Bool.and_eq_true, Bool.not_eq_true'] at hin
    exact hin.1.2
  have hby : byL l t = 0 := by
    unfold safeL at hin
    simp only [Bool.and_eq_true, beq_iff_eq] at hin
    exact hin.1.1
  rw [show shiftV l t = (0, false) by unfold shiftV; rw [hlo, hby]; rfl] at hsh
  rw [hlo, if_neg (by simp)] at hpo
  have hone : passW l (oneW nw) [t] = oneW nw := by
    have := (one_same hok hlo).2 (by rw [hby]; simp)
    rw [hnw, Int.toNat_natCast] at this
    exact this
  rw [hone] at hpo hin1
  rw [show decide (oneW nw = oneW nw) = true from decide_eq_true rfl] at hin1
  have HPL := Lib.hid (show (oneW nw).length = nw from oneW_len (by omega))
  have hmk : ∀ W, (Instr.makeSlice 26 (.int .i64 l.words) (.int .i64 l.words)).run Try.prog W = .ok (.slice (some ⟨W.heap.size, 0, none⟩) nw nw) (W.alloc (.cells (Array.replicate nw (.int .i64 0)) 3)) := fun W => by rw [hnw]; exact makeI W nw (by omega)
  have hmc := fun W => (made_cell W (n := nw) (i := 0) (by omega)).1
  have hmf := fun W => (made_cell W (n := nw) (i := 0) (by omega)).2
  have hnw1 : (0 : Int) < (nw : Int) := by omega
  have HNW := Lib.hid hnw
  have HNN := Lib.hid hn
  have hBx := hB
  unfold beatsL at hBx
  obtain ⟨hBx0, hBx1⟩ := hBx
  have wB : IntKind.i64.wrap (l.words * l.bits) = l.words * l.bits := IntWalk.i64_in _ (by omega)
  have hBne : (l.words * l.bits == 0) = false := by simp; omega
  have hBne2 : ¬ l.words * l.bits = 0 := by omega
  have hnw0 : 1 ≤ nw ∧ nw ≤ 64 := by omega
  have HO := Lib.hid ho
  have HOK := Lib.hid hok
  have HLO := Lib.hid hlo
  have HBY := Lib.hid hby
  have HBIG := Lib.hid hbig
  clear hnw hx1 hplen hone hlo hby hin hn hbig hlt1 hlt2 hok
  go_enter Try.func14, Try.ntmps14
  go_wp2_with fail
  refine (h1 _).mono ?_
  rintro e w1 ⟨rfl, E1⟩
  have c0 := fun ob => box_at (v := .int .i64 l.words) (Ext.alloc E1 ob) 0 rfl
  have c1 := fun ob => box_at (v := .int .i64 l.bits) (Ext.alloc E1 ob) 1 rfl
  have c2 := fun ob => box_at (v := .int .i64 l.period) (Ext.alloc E1 ob) 2 rfl
  have c3 := fun ob => box_at (v := .int .i64 l.delay) (Ext.alloc E1 ob) 3 rfl
  have c4 := fun ob => box_at (v := .int .i64 l.slope) (Ext.alloc E1 ob) 4 rfl
  have c5 := fun ob => box_at (v := .int .i64 l.window) (Ext.alloc E1 ob) 5 rfl
  go_wp2_with fail
  refine (hte _).mono ?_
  rintro e w2 ⟨rfl, rfl⟩
  have q0 := fun ob ob2 => box_at (v := .int .i64 l.words) ((E1.alloc ob).alloc ob2) 0 rfl
  have q1 := fun ob ob2 => box_at (v := .int .i64 l.bits) ((E1.alloc ob).alloc ob2) 1 rfl
  have q2 := fun ob ob2 => box_at (v := .int .i64 l.period) ((E1.alloc ob).alloc ob2) 2 rfl
  have q3 := fun ob ob2 => box_at (v := .int .i64 l.delay) ((E1.alloc ob).alloc ob2) 3 rfl
  have q4 := fun ob ob2 => box_at (v := .int .i64 l.slope) ((E1.alloc ob).alloc ob2) 4 rfl
  have q5 := fun ob ob2 => box_at (v := .int .i64 l.window) ((E1.alloc ob).alloc ob2) 5 rfl
  go_wp2_with fail
  have hw2 : Ext w ((w1.alloc (.cells #[.int .i64 lo, .int .i64 hi] 49)).alloc (.cells #[.int .i64 t] 3)) := (E1.old.alloc _).alloc _
  have j2 : IntsAt ((w1.alloc (.cells #[.int .i64 lo, .int .i64 hi] 49)).alloc (.cells #[.int .i64 t] 3)) (some ⟨w1.heap.size + 1, 0, none⟩) [t] := by
    have := ints_fresh (w := w1.alloc (.cells #[.int .i64 lo, .int .i64 hi] 49)) (xs := [t]) (t := 3) rfl (Ext.refl _)
    rw [World.size_alloc] at this
    exact this
  have hE2 : Ext (w.alloc (.cells #[.int .i64 l.words, .int .i64 l.bits, .int .i64 l.period, .int .i64 l.delay, .int .i64 l.slope, .int .i64 l.window] 25)) ((w1.alloc (.cells #[.int .i64 lo, .int .i64 hi] 49)).alloc (.cells #[.int .i64 t] 3)) := (E1.alloc _).alloc _
  clear q0 q1 q2 q3 q4 q5 c0 c1 c2 c3 c4 c5 h1 hte
  refine (hps _ _ _ hw2 j2).mono ?_
  rintro e w3 ⟨a3, k3, rfl, hI3, E3⟩
  have hE3 := hE2.comp E3
  have hIw := hI.ext (hw2.comp E3)
  clear hw2 j2 hE2 E1 E3 hps
  have c0 := fun ob => box_at (v := .int .i64 l.words) (Ext.alloc hE3 ob) 0 rfl
  have c1 := fun ob => box_at (v := .int .i64 l.bits) (Ext.alloc hE3 ob) 1 rfl
  have c2 := fun ob => box_at (v := .int .i64 l.period) (Ext.alloc hE3 ob) 2 rfl
  have c3 := fun ob => box_at (v := .int .i64 l.delay) (Ext.alloc hE3 ob) 3 rfl
  have c4 := fun ob => box_at (v := .int .i64 l.slope) (Ext.alloc hE3 ob) 4 rfl
  have c5 := fun ob => box_at (v := .int .i64 l.window) (Ext.alloc hE3 ob) 5 rfl
  have d0 := box_at (v := .int .i64 l.words) hE3 0 rfl
  by_cases hx : passX l ws [t] = 0
  · have hwe : wordsE l ws = 0 := by
      unfold passX at hx
      rw [HO.out, if_neg (by simp)] at hx
      split at hx
      · omega
      · omega
    have hpw := pass_one_in HOK.out hwe HLO.out HBY.out
    have e3 : passE l ws [t] = (ws, -1, 0) := by unfold passE; rw [if_pos hx, hpw, at_one, HLO.out]; rfl
    rw [e3, show ((ws, (-1 : Int), (0 : Int)) : List Int × Int × Int).1.length = n from HNN.out]
    have hin0 := ints_any a3 a n n k3 c ws ws w3 HNN.out HNN.out HBIG.out HBIG.out (by rw [e3] at hI3; exact hI3) hIw
    rw [show decide (ws = ws) = true from decide_eq_true rfl] at hin0
    clear e3 hx hwe hpw hI3 hIw
    go_wp2_with fail
    refine hin0.mono ?_
    rintro e w4 ⟨rfl, E4⟩
    replace hE3 := hE3.comp E4
    clear c0 c1 c2 c3 c4 c5 d0 hin0
    obtain ⟨w3, rfl⟩ : ∃ w3 : World, w3 = w4 := ⟨_, rfl⟩
    have c0 := fun ob => box_at (v := .int .i64 l.words) (Ext.alloc hE3 ob) 0 rfl
    have c1 := fun ob => box_at (v := .int .i64 l.bits) (Ext.alloc hE3 ob) 1 rfl
    have c2 := fun ob => box_at (v := .int .i64 l.period) (Ext.alloc hE3 ob) 2 rfl
    have c3 := fun ob => box_at (v := .int .i64 l.delay) (Ext.alloc hE3 ob) 3 rfl
    have c4 := fun ob => box_at (v := .int .i64 l.slope) (Ext.alloc hE3 ob) 4 rfl
    have c5 := fun ob => box_at (v := .int .i64 l.window) (Ext.alloc hE3 ob) 5 rfl
    have d0 := box_at (v := .int .i64 l.words) hE3 0 rfl
    go_wp2_with fail
    have hA := Lib.hid (oneA (n := nw) (by omega))
    have j1 : IntsAt ((w3.alloc (.cells ((Array.replicate nw (Value.int .i64 0)).setIfInBounds 0 (.int .i64 1)) 3)).alloc (.cells #[.int .i64 t] 3)) (some ⟨w3.heap.size, 0, none⟩) (oneW nw) := ints_fresh (w := w3) hA.out ((Ext.refl _).alloc _)
    have j2 : IntsAt ((w3.alloc (.cells ((Array.replicate nw (Value.int .i64 0)).setIfInBounds 0 (.int .i64 1)) 3)).alloc (.cells #[.int .i64 t] 3)) (some ⟨w3.heap.size + 1, 0, none⟩) [t] := by
      have := ints_fresh (w := w3.alloc (.cells ((Array.replicate nw (Value.int .i64 0)).setIfInBounds 0 (.int .i64 1)) 3)) (xs := [t]) (t := 3) rfl (Ext.refl _)
      rw [World.size_alloc] at this
      exact this
    refine (hpo _ _ _ _ _ j1 j2).mono ?_
    rintro e w5 ⟨a5, k5, rfl, hI5, E5⟩
    rw [show ((oneW nw, (-1 : Int), (0 : Int)) : List Int × Int × Int).1.length = nw from HPL.out]
    have j5 := j1.ext E5
    have hE5 := hE3.comp E5.old.old
    clear j1 j2 E5 hE3 c0 c1 c2 c3 c4 c5 d0 hA hpo hmk hmc hmf
    have c0 := box_at (v := .int .i64 l.words) hE5 0 rfl
    have c1 := box_at (v := .int .i64 l.bits) hE5 1 rfl
    have c2 := box_at (v := .int .i64 l.period) hE5 2 rfl
    have c3 := box_at (v := .int .i64 l.delay) hE5 3 rfl
    have c4 := box_at (v := .int .i64 l.slope) hE5 4 rfl
    have c5 := box_at (v := .int .i64 l.window) hE5 5 rfl
    go_wp2_with fail
    refine (hsh _).mono ?_
    rintro e w6 ⟨rfl, E6⟩
    have hI6 := hI5.ext E6
    have j6 := j5.ext E6
    have hE6 := hE5.comp E6
    clear hI5 j5 hE5 E6 c0 c1 c2 c3 c4 c5 hsh
    go_wp2_with fail
    refine (hin1 _ _ _ _ _ hI6 j6).mono ?_
    rintro e w7 ⟨rfl, E7⟩
    go_wp2_with fail
    refine (awake_any _).mono ?_
    rintro e w8 ⟨rfl, E8⟩
    go_wp2
    go_ret
    exact ⟨rfl, hE6.old.comp (E7.comp E8)⟩
  · have e3 : passE l ws [t] = ([], 0, passX l ws [t]) := by unfold passE; rw [if_neg hx]
    rw [e3]
    have hxb : (passX l ws [t] == 0) = false := by simpa using hx
    obtain ⟨y, hy⟩ : ∃ y, passX l ws [t] = y := ⟨_, rfl⟩
    rw [hy] at hxb ⊢
    clear e3 hx hy hI3 hIw
    go_wp2_with fail
    have hA := Lib.hid (oneA (n := nw) (by omega))
    have j1 : IntsAt ((w3.alloc (.cells ((Array.replicate nw (Value.int .i64 0)).setIfInBounds 0 (.int .i64 1)) 3)).alloc (.cells #[.int .i64 t] 3)) (some ⟨w3.heap.size, 0, none⟩) (oneW nw) := ints_fresh (w := w3) hA.out ((Ext.refl _).alloc _)
    have j2 : IntsAt ((w3.alloc (.cells ((Array.replicate nw (Value.int .i64 0)).setIfInBounds 0 (.int .i64 1)) 3)).alloc (.cells #[.int .i64 t] 3)) (some ⟨w3.heap.size + 1, 0, none⟩) [t] := by
      have := ints_fresh (w := w3.alloc (.cells ((Array.replicate nw (Value.int .i64 0)).setIfInBounds 0 (.int .i64 1)) 3)) (xs := [t]) (t := 3) rfl (Ext.refl _)
      rw [World.size_alloc] at this
      exact this
    refine (hpo _ _ _ _ _ j1 j2).mono ?_
    rintro e w5 ⟨a5, k5, rfl, hI5, E5⟩
    rw [show ((oneW nw, (-1 : Int), (0 : Int)) : List Int × Int × Int).1.length = nw from HPL.out]
    have j5 := j1.ext E5
    have hE5 := hE3.comp E5.old.old
    clear j1 j2 E5 hE3 c0 c1 c2 c3 c4 c5 d0 hA hpo hmk hmc hmf
    have c0 := box_at (v := .int .i64 l.words) hE5 0 rfl
    have c1 := box_at (v := .int .i64 l.bits) hE5 1 rfl
    have c2 := box_at (v := .int .i64 l.period) hE5 2 rfl
    have c3 := box_at (v := .int .i64 l.delay) hE5 3 rfl
    have c4 := box_at (v := .int .i64 l.slope) hE5 4 rfl
    have c5 := box_at (v := .int .i64 l.window) hE5 5 rfl
    go_wp2_with fail
    refine (hsh _).mono ?_
    rintro e w6 ⟨rfl, E6⟩
    have hI6 := hI5.ext E6
    have j6 := j5.ext E6
    have hE6 := hE5.comp E6
    clear hI5 j5 hE5 E6 c0 c1 c2 c3 c4 c5 hsh
    go_wp2_with fail
    refine (hin1 _ _ _ _ _ hI6 j6).mono ?_
    rintro e w7 ⟨rfl, E7⟩
    go_wp2_with fail
    refine (awake_any _).mono ?_
    rintro e w8 ⟨rfl, E8⟩
    go_wp2
    go_ret
    exact ⟨rfl, hE6.old.comp (E7.comp E8)⟩
end Go.Proofs.Ytkkchoinfdfiaaa

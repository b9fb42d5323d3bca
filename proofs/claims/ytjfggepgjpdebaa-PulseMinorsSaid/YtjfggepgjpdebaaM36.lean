import Derived.Test.YtjfggepgjpdebaaM33
import Derived.Test.YtjfggepgjpdebaaM34
import Derived.Test.YtjfggepgjpdebaaM35
import Derived.Test.YtjfggepgjpdebaaM27
set_option linter.unusedVariables false
set_option linter.unusedSimpArgs false
/- Contract: the reference of layer 5: Minor, where no word is replaced. -/
namespace Go.Proofs.Ytjfggepgjpdebaa
open Go.RowKit Go.Q
theorem ints_form5 {w : World} {a : Option Addr} {xs : List Int} (h : IntsAt w a xs) (h0 : 0 < xs.length) : ∃ b off, a = some ⟨b, off, none⟩ ∧ b < w.heap.size ∧ ∀ i, i < xs.length → w.cell? ⟨b, off + i, none⟩ = some (.int .i64 (xs[i]?.getD 0)) := by
  rcases h with h | h
  · subst h; simp at h0
  · exact h
/-- the call returned the state t; its store and its printed list are the old ones, or new ones -/
def MinRes (a1 a2 a3 : Option Addr) (n2 c2 : Nat) (xs ys : List Int) (w : World) (t : Pu) (e : Ending) (w' : World) : Prop :=
  ∃ b1 d1 b3 d3, e = .returned (psv b1 a2 b3 t.store.length d1 n2 c2 t.printed.length d3 t) ∧ Row w.heap.size a1 xs w' b1 t.store ∧ Row w.heap.size a3 ys w' b3 t.printed ∧ Ext w w'
theorem adrP_bd {s : Pu} (hv : ValidP s) : 0 ≤ adrP s ∧ adrP s ≤ 127 := by
  have := hv.frm
  have := hv.at_
  unfold adrP
  repeat' split
  all_goals omega
theorem came_store (s : Pu) (x : Int) : (cameP s x).store = s.store := by
  unfold cameP fetchP fromP toP countP finishP
  repeat' split
  all_goals rfl
theorem end_store (c : Bool) (s : Pu) (x : Int) : (endP c x s).store = s.store := by
  unfold endP tickP
  repeat' split
  all_goals first | rfl | exact came_store s x
theorem end_word {s : Pu} (c : Bool) (x y : Int) (h : c = true → x = y) : endP c x s = endP c y s := by
  cases c with
  | true => rw [h rfl]
  | false =>
    unfold endP
    by_cases h3 : s.phase = 3
    · simp [h3, cameP]
    · simp [h3]
theorem wordP_adr {s : Pu} (hv : ValidP s) (h : comesP s = true) : wordP s = s.store[(adrP s).toNat]?.getD 0 := by
  have h3 : ¬ s.phase = 3 := fun c => by
    have := (addrP_bd hv).2.2.2 c
    unfold comesP at h
    rw [this] at h
    simp at h
  unfold wordP
  rw [if_pos h, (comes_adr hv h3).2.1]
theorem wr_repl {s : Pu} (hv : ValidP s) : wrB s = (comesP s && replP s) := by
  by_cases h3 : s.phase = 3
  · have : comesP s = false := by
      unfold comesP
      rw [(addrP_bd hv).2.2.2 h3]; rfl
    rw [this]
    unfold wrB
    simp [h3]
  · rw [(comes_adr hv h3).1]
    unfold wrB replP
    by_cases h0 : s.phase = 0
    · simp [h0]
    · by_cases h1 : s.phase = 1
      · simp [h1]
      · have : adrP s = (ordP s).to := by unfold adrP; rw [if_neg h0, if_neg h1]
        rw [this]
set_option maxRecDepth 100000 in
set_option maxHeartbeats 8000000 in
theorem rminor_rest (a1 a2 a3 : Option Addr) (c1 c2 c3 : Nat) (s : Pu) (w : World) (hv : ValidP s) (i1 : IntsAt w a1 s.store) (i2 : IntsAt w a2 s.tape) (i3 : IntsAt w a3 s.printed) (hr : s.why ≠ 0 ∨ s.clock = 1000000000) :
    Calls Try.prog 68 #[psv a1 a2 a3 128 c1 s.tape.length c2 s.printed.length c3 s] w (MinRes a1 a2 a3 s.tape.length c2 s.store s.printed w (minorP s)) := by
  have hvl := hv.len
  by_cases hy : s.why = 0
  · have hc : s.clock = 1000000000 := hr.resolve_left (fun c => c hy)
    have e : minorP s = { s with why := 4 } := by unfold minorP; rw [if_neg (by omega), if_pos hc]
    have b0 : (s.why != 0) = false := by simpa using hy
    have b1 : (s.clock == 1000000000) = true := by simpa using hc
    rw [e]
    have HL := Lib.hid hvl
    clear hr hy hc e hv i1 i2 i3 hvl
    go_enter Try.func68, Try.ntmps68
    go_wp2_with fail
    refine bodyPost_ret (v := psv a1 a2 a3 128 c1 s.tape.length c2 s.printed.length c3 { s with why := 4 }) (by simp [results, Try.results68, go_sem]) rfl ⟨a1, c1, a3, c3, ?_, .inl ⟨rfl, rfl⟩, .inl ⟨rfl, rfl⟩, ?_⟩
    · rw [HL.out]
    · have hrf := Ext.refl w
      exact (by repeat (first | with_reducible exact Ext.refl _ | with_reducible exact hrf | with_reducible exact hrf.old | with_reducible exact hrf.old.old | with_reducible exact hrf.old.old.old | (with_reducible refine Ext.alloc ?_ _) | (with_reducible refine Below.drew ?_) | (with_reducible refine below_drewN ?_ _) | (with_reducible refine ext_put ?_ _ ?_; rotate_left; (first | with_reducible exact Nat.le_refl _ | with_reducible exact Nat.le_succ _ | omega | (dsimp only; omega)))))
  · have e : minorP s = s := by unfold minorP; rw [if_pos hy]
    have b0 : (s.why != 0) = true := by simpa using hy
    rw [e]
    have HL := Lib.hid hvl
    clear hr hy e hv i1 i2 i3 hvl
    go_enter Try.func68, Try.ntmps68
    go_wp2_with fail
    refine bodyPost_ret (v := psv a1 a2 a3 128 c1 s.tape.length c2 s.printed.length c3 s) (by simp [results, Try.results68, go_sem]) rfl ⟨a1, c1, a3, c3, ?_, .inl ⟨rfl, rfl⟩, .inl ⟨rfl, rfl⟩, ?_⟩
    · rw [HL.out]
    · have hrf := Ext.refl w
      exact (by repeat (first | with_reducible exact Ext.refl _ | with_reducible exact hrf | with_reducible exact hrf.old | with_reducible exact hrf.old.old | with_reducible exact hrf.old.old.old | (with_reducible refine Ext.alloc ?_ _) | (with_reducible refine Below.drew ?_) | (with_reducible refine below_drewN ?_ _) | (with_reducible refine ext_put ?_ _ ?_; rotate_left; (first | with_reducible exact Nat.le_refl _ | with_reducible exact Nat.le_succ _ | omega | (dsimp only; omega)))))
set_option maxRecDepth 100000 in
set_option maxHeartbeats 16000000 in
theorem rminor_wait (a1 a2 a3 : Option Addr) (c1 c2 c3 : Nat) (s : Pu) (w : World) (hv : ValidP s) (i1 : IntsAt w a1 s.store) (i2 : IntsAt w a2 s.tape) (i3 : IntsAt w a3 s.printed) (hy : s.why = 0) (hc : s.clock ≠ 1000000000) (hw : wrB s = false) (h3 : ¬ s.phase = 3) :
    Calls Try.prog 68 #[psv a1 a2 a3 128 c1 s.tape.length c2 s.printed.length c3 s] w (MinRes a1 a2 a3 s.tape.length c2 s.store s.printed w (minorP s)) := by
  have hvl := hv.len
  have had' := adrP_bd hv
  obtain ⟨b, off, rfl, hbl, hcl⟩ := ints_form5 i1 (by rw [hvl]; decide)
  have hdd := fun W => rdec_ord hv.order W
  have had := fun W => raddress_any (some ⟨b, off, none⟩) a2 a3 128 c1 s.tape.length c2 s.printed.length c3 s W hv.order
  have hwr := fun W => rwrites_any (some ⟨b, off, none⟩) a2 a3 128 c1 s.tape.length c2 s.printed.length c3 s W hv.order hv.clock hv.frm.2.2.1
  have hcell : w.cell? ⟨b, off + (adrP s).toNat, none⟩ = some (.int .i64 (s.store[(adrP s).toNat]?.getD 0)) := hcl _ (by omega)
  have hxb := hv.word (adrP s).toNat (by omega)
  have by_ : (s.why != 0) = false := by simpa using hy
  have bc_ : (s.clock == 1000000000) = false := by simpa using hc
  have e : minorP s = endP (comesP s) (s.store[(adrP s).toNat]?.getD 0) s := by
    have e1 : storeP s = s := by unfold storeP; rw [if_neg (by rw [← wr_repl hv, hw]; decide)]
    have e2 : multsP s = s := by unfold multsP; rw [if_neg h3]
    unfold minorP
    rw [if_neg (by omega), if_neg hc, e1, e2]
    exact end_word _ _ _ (fun h => wordP_adr hv h)
  have hT : (minorP s).store = s.store := by rw [e]; exact end_store _ _ _
  have hB : ∀ W, Ext w W → Calls Try.prog 103 #[psv (some ⟨b, off, none⟩) a2 a3 128 c1 s.tape.length c2 s.printed.length c3 s, .int .i64 (s.store[(adrP s).toNat]?.getD 0)] W (Beh (some ⟨b, off, none⟩) a2 a3 128 c1 s.tape.length c2 s.printed W (minorP s)) := fun W E => by
    rw [e]
    exact rbehind_any (some ⟨b, off, none⟩) a2 a3 128 c1 c2 c3 s _ W hv hy hc hxb (i3.ext E)
  rw [hw] at hwr
  have b3 : (s.phase == 3) = false := by simpa using h3
  have HS := Lib.hid hT
  have HL1 : Hid ((minorP s).store.length = 128) := Lib.hid (by rw [hT, hvl])
  obtain ⟨ad0, ad1⟩ := had'
  clear hT e hv hy hc hw h3 i2 i1 i3 hxb hvl hcl
  generalize hn2 : s.tape.length = n2 at *
  generalize hn3 : s.printed.length = n3 at *
  clear hn2 hn3
  generalize s.store[(adrP s).toNat]?.getD 0 = x at *
  generalize adrP s = ad at *
  generalize minorP s = T at *
  generalize (s.phase != 3) = ph at *
  generalize decodeQ s.order = o at *
  obtain ⟨op, fr, tt, nx⟩ := o
  have HC := Lib.hid hcell
  clear hcell
  go_enter Try.func68, Try.ntmps68
  go_wp2_with fail
  refine (hdd _).mono ?_
  rintro e w1 ⟨rfl, E1⟩
  have P1 := Blk.of E1.old
  have R1 := Blk.of E1
  rw [World.size_alloc] at R1
  have F1 : Ext w w1 := E1.old.old
  have u0 := Blk.c P1 0 (v := .slice (some ⟨b, off, none⟩) 128 c1) rfl
  have u1 := Blk.c P1 1 (v := .slice a2 n2 c2) rfl
  have u2 := Blk.c P1 2 (v := .int .i64 s.taken) rfl
  have u3 := Blk.c P1 3 (v := .slice a3 n3 c3) rfl
  have u4 := Blk.c P1 4 (v := .int .i64 s.clock) rfl
  have u5 := Blk.c P1 5 (v := .int .i64 s.at_) rfl
  have u6 := Blk.c P1 6 (v := .int .i64 s.phase) rfl
  have u7 := Blk.c P1 7 (v := .int .i64 s.order) rfl
  have u8 := Blk.c P1 8 (v := .int .i64 s.operand) rfl
  have u9 := Blk.c P1 9 (v := .int .i64 s.other) rfl
  have u10 := Blk.c P1 10 (v := .int .i64 s.product) rfl
  have u11 := Blk.c P1 11 (v := .int .i64 s.count) rfl
  have u12 := Blk.c P1 12 (v := .int .i64 s.done) rfl
  have u13 := Blk.c P1 13 (v := .int .i64 s.why) rfl
  have g0 := Blk.f P1 0
  have g1 := Blk.f P1 1
  have g2 := Blk.f P1 2
  have g3 := Blk.f P1 3
  have g4 := Blk.f P1 4
  have g5 := Blk.f P1 5
  have g6 := Blk.f P1 6
  have g7 := Blk.f P1 7
  have g8 := Blk.f P1 8
  have g9 := Blk.f P1 9
  have g10 := Blk.f P1 10
  have g11 := Blk.f P1 11
  have g12 := Blk.f P1 12
  have g13 := Blk.f P1 13
  have q0 := Blk.c R1 0 (v := .slice none 0 0) rfl
  have q1 := Blk.c R1 1 (v := .slice none 0 0) rfl
  have q2 := Blk.c R1 2 (v := .int .i64 0) rfl
  have q3 := Blk.c R1 3 (v := .slice none 0 0) rfl
  have q4 := Blk.c R1 4 (v := .int .i64 0) rfl
  have q5 := Blk.c R1 5 (v := .int .i64 0) rfl
  have q6 := Blk.c R1 6 (v := .int .i64 0) rfl
  have q7 := Blk.c R1 7 (v := .int .i64 0) rfl
  have q8 := Blk.c R1 8 (v := .int .i64 0) rfl
  have q9 := Blk.c R1 9 (v := .int .i64 0) rfl
  have q10 := Blk.c R1 10 (v := .int .i64 0) rfl
  have q11 := Blk.c R1 11 (v := .int .i64 0) rfl
  have q12 := Blk.c R1 12 (v := .int .i64 0) rfl
  have q13 := Blk.c R1 13 (v := .int .i64 0) rfl
  have f0 := Blk.f R1 0
  have f1 := Blk.f R1 1
  have f2 := Blk.f R1 2
  have f3 := Blk.f R1 3
  have f4 := Blk.f R1 4
  have f5 := Blk.f R1 5
  have f6 := Blk.f R1 6
  have f7 := Blk.f R1 7
  have f8 := Blk.f R1 8
  have f9 := Blk.f R1 9
  have f10 := Blk.f R1 10
  have f11 := Blk.f R1 11
  have f12 := Blk.f R1 12
  have f13 := Blk.f R1 13
  have hz : w.heap.size + 1 < w1.heap.size := R1.lt
  have hz0 : w.heap.size < w1.heap.size := P1.lt
  go_wp2_with fail
  refine (had _).mono ?_
  rintro e w2 ⟨rfl, E2⟩
  have F2 : Ext w w2 := Ext.comp (by repeat (first | with_reducible exact Ext.refl _ | with_reducible exact F1 | with_reducible exact F1.old | with_reducible exact F1.old.old | with_reducible exact F1.old.old.old | (with_reducible refine Ext.alloc ?_ _) | (with_reducible refine Below.drew ?_) | (with_reducible refine below_drewN ?_ _) | (with_reducible refine ext_put ?_ _ ?_; rotate_left; (first | with_reducible exact Nat.le_refl _ | with_reducible exact Nat.le_succ _ | omega | (dsimp only; omega))))) E2
  have P2 := Blk.go P1 (by intro hblk; repeat (first | with_reducible exact hblk | with_reducible refine Blk.al ?_ _ | with_reducible refine Blk.dr ?_ | (with_reducible refine Blk.ot ?_ ?_; rotate_left; (first | omega | (dsimp only; omega))))) E2
  have R2 := Blk.go R1 (by intro hblk; repeat (first | with_reducible exact hblk | with_reducible refine Blk.al ?_ _ | with_reducible refine Blk.dr ?_ | (with_reducible refine Blk.ot ?_ ?_; rotate_left; (first | omega | (dsimp only; omega))))) E2
  clear u0 u1 u2 u3 u4 u5 u6 u7 u8 u9 u10 u11 u12 u13 g0 g1 g2 g3 g4 g5 g6 g7 g8 g9 g10 g11 g12 g13 q0 q1 q2 q3 q4 q5 q6 q7 q8 q9 q10 q11 q12 q13 f0 f1 f2 f3 f4 f5 f6 f7 f8 f9 f10 f11 f12 f13 hz hz0
  have u0 := Blk.c P2 0 (v := .slice (some ⟨b, off, none⟩) 128 c1) rfl
  have u1 := Blk.c P2 1 (v := .slice a2 n2 c2) rfl
  have u2 := Blk.c P2 2 (v := .int .i64 s.taken) rfl
  have u3 := Blk.c P2 3 (v := .slice a3 n3 c3) rfl
  have u4 := Blk.c P2 4 (v := .int .i64 s.clock) rfl
  have u5 := Blk.c P2 5 (v := .int .i64 s.at_) rfl
  have u6 := Blk.c P2 6 (v := .int .i64 s.phase) rfl
  have u7 := Blk.c P2 7 (v := .int .i64 s.order) rfl
  have u8 := Blk.c P2 8 (v := .int .i64 s.operand) rfl
  have u9 := Blk.c P2 9 (v := .int .i64 s.other) rfl
  have u10 := Blk.c P2 10 (v := .int .i64 s.product) rfl
  have u11 := Blk.c P2 11 (v := .int .i64 s.count) rfl
  have u12 := Blk.c P2 12 (v := .int .i64 s.done) rfl
  have u13 := Blk.c P2 13 (v := .int .i64 s.why) rfl
  have g0 := Blk.f P2 0
  have g1 := Blk.f P2 1
  have g2 := Blk.f P2 2
  have g3 := Blk.f P2 3
  have g4 := Blk.f P2 4
  have g5 := Blk.f P2 5
  have g6 := Blk.f P2 6
  have g7 := Blk.f P2 7
  have g8 := Blk.f P2 8
  have g9 := Blk.f P2 9
  have g10 := Blk.f P2 10
  have g11 := Blk.f P2 11
  have g12 := Blk.f P2 12
  have g13 := Blk.f P2 13
  have q0 := Blk.c R2 0 (v := .slice none 0 0) rfl
  have q1 := Blk.c R2 1 (v := .slice none 0 0) rfl
  have q2 := Blk.c R2 2 (v := .int .i64 0) rfl
  have q3 := Blk.c R2 3 (v := .slice none 0 0) rfl
  have q4 := Blk.c R2 4 (v := .int .i64 0) rfl
  have q5 := Blk.c R2 5 (v := .int .i64 0) rfl
  have q6 := Blk.c R2 6 (v := .int .i64 0) rfl
  have q7 := Blk.c R2 7 (v := .int .i64 0) rfl
  have q8 := Blk.c R2 8 (v := .int .i64 0) rfl
  have q9 := Blk.c R2 9 (v := .int .i64 0) rfl
  have q10 := Blk.c R2 10 (v := .int .i64 0) rfl
  have q11 := Blk.c R2 11 (v := .int .i64 0) rfl
  have q12 := Blk.c R2 12 (v := .int .i64 0) rfl
  have q13 := Blk.c R2 13 (v := .int .i64 0) rfl
  have f0 := Blk.f R2 0
  have f1 := Blk.f R2 1
  have f2 := Blk.f R2 2
  have f3 := Blk.f R2 3
  have f4 := Blk.f R2 4
  have f5 := Blk.f R2 5
  have f6 := Blk.f R2 6
  have f7 := Blk.f R2 7
  have f8 := Blk.f R2 8
  have f9 := Blk.f R2 9
  have f10 := Blk.f R2 10
  have f11 := Blk.f R2 11
  have f12 := Blk.f R2 12
  have f13 := Blk.f R2 13
  have hz : w.heap.size + 1 < w2.heap.size := R2.lt
  have hz0 : w.heap.size < w2.heap.size := P2.lt
  have hcell2 := (F2.cell (p := ⟨b, off + ad.toNat, none⟩) hbl).trans HC.out
  have hbz : b < w2.heap.size := Nat.lt_of_lt_of_le hbl F2.size
  go_wp2_with fail
  refine (hwr _).mono ?_
  rintro e w3 ⟨rfl, E3⟩
  have F3 : Ext w w3 := Ext.comp (by repeat (first | with_reducible exact Ext.refl _ | with_reducible exact F2 | with_reducible exact F2.old | with_reducible exact F2.old.old | with_reducible exact F2.old.old.old | (with_reducible refine Ext.alloc ?_ _) | (with_reducible refine Below.drew ?_) | (with_reducible refine below_drewN ?_ _) | (with_reducible refine ext_put ?_ _ ?_; rotate_left; (first | with_reducible exact Nat.le_refl _ | with_reducible exact Nat.le_succ _ | omega | (dsimp only; omega))))) E3
  have P3 := Blk.go P2 (by intro hblk; repeat (first | with_reducible exact hblk | with_reducible refine Blk.al ?_ _ | with_reducible refine Blk.dr ?_ | (with_reducible refine Blk.ot ?_ ?_; rotate_left; (first | omega | (dsimp only; omega))))) E3
  have R3 := Blk.go R2 (by intro hblk; repeat (first | with_reducible exact hblk | with_reducible refine Blk.al ?_ _ | with_reducible refine Blk.dr ?_ | (with_reducible refine Blk.ot ?_ ?_; rotate_left; (first | omega | (dsimp only; omega))))) E3
  clear u0 u1 u2 u3 u4 u5 u6 u7 u8 u9 u10 u11 u12 u13 g0 g1 g2 g3 g4 g5 g6 g7 g8 g9 g10 g11 g12 g13 q0 q1 q2 q3 q4 q5 q6 q7 q8 q9 q10 q11 q12 q13 f0 f1 f2 f3 f4 f5 f6 f7 f8 f9 f10 f11 f12 f13 hz hz0
  have u0 := Blk.c P3 0 (v := .slice (some ⟨b, off, none⟩) 128 c1) rfl
  have u1 := Blk.c P3 1 (v := .slice a2 n2 c2) rfl
  have u2 := Blk.c P3 2 (v := .int .i64 s.taken) rfl
  have u3 := Blk.c P3 3 (v := .slice a3 n3 c3) rfl
  have u4 := Blk.c P3 4 (v := .int .i64 s.clock) rfl
  have u5 := Blk.c P3 5 (v := .int .i64 s.at_) rfl
  have u6 := Blk.c P3 6 (v := .int .i64 s.phase) rfl
  have u7 := Blk.c P3 7 (v := .int .i64 s.order) rfl
  have u8 := Blk.c P3 8 (v := .int .i64 s.operand) rfl
  have u9 := Blk.c P3 9 (v := .int .i64 s.other) rfl
  have u10 := Blk.c P3 10 (v := .int .i64 s.product) rfl
  have u11 := Blk.c P3 11 (v := .int .i64 s.count) rfl
  have u12 := Blk.c P3 12 (v := .int .i64 s.done) rfl
  have u13 := Blk.c P3 13 (v := .int .i64 s.why) rfl
  have g0 := Blk.f P3 0
  have g1 := Blk.f P3 1
  have g2 := Blk.f P3 2
  have g3 := Blk.f P3 3
  have g4 := Blk.f P3 4
  have g5 := Blk.f P3 5
  have g6 := Blk.f P3 6
  have g7 := Blk.f P3 7
  have g8 := Blk.f P3 8
  have g9 := Blk.f P3 9
  have g10 := Blk.f P3 10
  have g11 := Blk.f P3 11
  have g12 := Blk.f P3 12
  have g13 := Blk.f P3 13
  have q0 := Blk.c R3 0 (v := .slice none 0 0) rfl
  have q1 := Blk.c R3 1 (v := .slice none 0 0) rfl
  have q2 := Blk.c R3 2 (v := .int .i64 0) rfl
  have q3 := Blk.c R3 3 (v := .slice none 0 0) rfl
  have q4 := Blk.c R3 4 (v := .int .i64 0) rfl
  have q5 := Blk.c R3 5 (v := .int .i64 0) rfl
  have q6 := Blk.c R3 6 (v := .int .i64 0) rfl
  have q7 := Blk.c R3 7 (v := .int .i64 0) rfl
  have q8 := Blk.c R3 8 (v := .int .i64 0) rfl
  have q9 := Blk.c R3 9 (v := .int .i64 0) rfl
  have q10 := Blk.c R3 10 (v := .int .i64 0) rfl
  have q11 := Blk.c R3 11 (v := .int .i64 0) rfl
  have q12 := Blk.c R3 12 (v := .int .i64 0) rfl
  have q13 := Blk.c R3 13 (v := .int .i64 0) rfl
  have f0 := Blk.f R3 0
  have f1 := Blk.f R3 1
  have f2 := Blk.f R3 2
  have f3 := Blk.f R3 3
  have f4 := Blk.f R3 4
  have f5 := Blk.f R3 5
  have f6 := Blk.f R3 6
  have f7 := Blk.f R3 7
  have f8 := Blk.f R3 8
  have f9 := Blk.f R3 9
  have f10 := Blk.f R3 10
  have f11 := Blk.f R3 11
  have f12 := Blk.f R3 12
  have f13 := Blk.f R3 13
  have hz : w.heap.size + 1 < w3.heap.size := R3.lt
  have hz0 : w.heap.size < w3.heap.size := P3.lt
  go_wp2_with fail
  refine (hB _ (by repeat (first | with_reducible exact Ext.refl _ | with_reducible exact F3 | with_reducible exact F3.old | with_reducible exact F3.old.old | with_reducible exact F3.old.old.old | (with_reducible refine Ext.alloc ?_ _) | (with_reducible refine Below.drew ?_) | (with_reducible refine below_drewN ?_ _) | (with_reducible refine ext_put ?_ _ ?_; rotate_left; (first | with_reducible exact Nat.le_refl _ | with_reducible exact Nat.le_succ _ | omega | (dsimp only; omega)))))).mono ?_
  rintro e w4 ⟨b3, d3, rfl, I4, E4⟩
  have F4 : Ext w w4 := Ext.comp (by repeat (first | with_reducible exact Ext.refl _ | with_reducible exact F3 | with_reducible exact F3.old | with_reducible exact F3.old.old | with_reducible exact F3.old.old.old | (with_reducible refine Ext.alloc ?_ _) | (with_reducible refine Below.drew ?_) | (with_reducible refine below_drewN ?_ _) | (with_reducible refine ext_put ?_ _ ?_; rotate_left; (first | with_reducible exact Nat.le_refl _ | with_reducible exact Nat.le_succ _ | omega | (dsimp only; omega))))) E4
  have P4 := Blk.go P3 (by intro hblk; repeat (first | with_reducible exact hblk | with_reducible refine Blk.al ?_ _ | with_reducible refine Blk.dr ?_ | (with_reducible refine Blk.ot ?_ ?_; rotate_left; (first | omega | (dsimp only; omega))))) E4
  have R4 := Blk.go R3 (by intro hblk; repeat (first | with_reducible exact hblk | with_reducible refine Blk.al ?_ _ | with_reducible refine Blk.dr ?_ | (with_reducible refine Blk.ot ?_ ?_; rotate_left; (first | omega | (dsimp only; omega))))) E4
  clear u0 u1 u2 u3 u4 u5 u6 u7 u8 u9 u10 u11 u12 u13 g0 g1 g2 g3 g4 g5 g6 g7 g8 g9 g10 g11 g12 g13 q0 q1 q2 q3 q4 q5 q6 q7 q8 q9 q10 q11 q12 q13 f0 f1 f2 f3 f4 f5 f6 f7 f8 f9 f10 f11 f12 f13 hz hz0
  have u0 := Blk.c P4 0 (v := .slice (some ⟨b, off, none⟩) 128 c1) rfl
  have u1 := Blk.c P4 1 (v := .slice a2 n2 c2) rfl
  have u2 := Blk.c P4 2 (v := .int .i64 s.taken) rfl
  have u3 := Blk.c P4 3 (v := .slice a3 n3 c3) rfl
  have u4 := Blk.c P4 4 (v := .int .i64 s.clock) rfl
  have u5 := Blk.c P4 5 (v := .int .i64 s.at_) rfl
  have u6 := Blk.c P4 6 (v := .int .i64 s.phase) rfl
  have u7 := Blk.c P4 7 (v := .int .i64 s.order) rfl
  have u8 := Blk.c P4 8 (v := .int .i64 s.operand) rfl
  have u9 := Blk.c P4 9 (v := .int .i64 s.other) rfl
  have u10 := Blk.c P4 10 (v := .int .i64 s.product) rfl
  have u11 := Blk.c P4 11 (v := .int .i64 s.count) rfl
  have u12 := Blk.c P4 12 (v := .int .i64 s.done) rfl
  have u13 := Blk.c P4 13 (v := .int .i64 s.why) rfl
  have g0 := Blk.f P4 0
  have g1 := Blk.f P4 1
  have g2 := Blk.f P4 2
  have g3 := Blk.f P4 3
  have g4 := Blk.f P4 4
  have g5 := Blk.f P4 5
  have g6 := Blk.f P4 6
  have g7 := Blk.f P4 7
  have g8 := Blk.f P4 8
  have g9 := Blk.f P4 9
  have g10 := Blk.f P4 10
  have g11 := Blk.f P4 11
  have g12 := Blk.f P4 12
  have g13 := Blk.f P4 13
  have q0 := Blk.c R4 0 (v := .slice none 0 0) rfl
  have q1 := Blk.c R4 1 (v := .slice none 0 0) rfl
  have q2 := Blk.c R4 2 (v := .int .i64 0) rfl
  have q3 := Blk.c R4 3 (v := .slice none 0 0) rfl
  have q4 := Blk.c R4 4 (v := .int .i64 0) rfl
  have q5 := Blk.c R4 5 (v := .int .i64 0) rfl
  have q6 := Blk.c R4 6 (v := .int .i64 0) rfl
  have q7 := Blk.c R4 7 (v := .int .i64 0) rfl
  have q8 := Blk.c R4 8 (v := .int .i64 0) rfl
  have q9 := Blk.c R4 9 (v := .int .i64 0) rfl
  have q10 := Blk.c R4 10 (v := .int .i64 0) rfl
  have q11 := Blk.c R4 11 (v := .int .i64 0) rfl
  have q12 := Blk.c R4 12 (v := .int .i64 0) rfl
  have q13 := Blk.c R4 13 (v := .int .i64 0) rfl
  have f0 := Blk.f R4 0
  have f1 := Blk.f R4 1
  have f2 := Blk.f R4 2
  have f3 := Blk.f R4 3
  have f4 := Blk.f R4 4
  have f5 := Blk.f R4 5
  have f6 := Blk.f R4 6
  have f7 := Blk.f R4 7
  have f8 := Blk.f R4 8
  have f9 := Blk.f R4 9
  have f10 := Blk.f R4 10
  have f11 := Blk.f R4 11
  have f12 := Blk.f R4 12
  have f13 := Blk.f R4 13
  have hz : w.heap.size + 1 < w4.heap.size := R4.lt
  have hz0 : w.heap.size < w4.heap.size := P4.lt
  have hrl := R3.lt
  have J4 := Row.mono (C := w.heap.size + 2) I4 (by first | omega | (simp; omega))
  clear hrl
  go_wp2_with fail
  refine bodyPost_ret (v := psv (some ⟨b, off, none⟩) a2 b3 128 c1 n2 c2 T.printed.length d3 T) (by simp [results, Try.results68, go_sem, hz, hz0, q0, q1, q2, q3, q4, q5, q6, q7, q8, q9, q10, q11, q12, q13]) rfl ⟨(some ⟨b, off, none⟩), c1, b3, d3, ?_, .inl ⟨rfl, HS.out⟩, ?_, ?_⟩
  · rw [HL1.out]
  · refine Row.mono (B := w.heap.size + 2) ?_ (by omega)
    exact (by repeat (first | with_reducible exact J4 | with_reducible refine Row.drew ?_ | (with_reducible refine Row.put ?_ ?_ _; rotate_left; (first | omega | (dsimp only; omega)))))
  · exact (by repeat (first | with_reducible exact Ext.refl _ | with_reducible exact F4 | with_reducible exact F4.old | with_reducible exact F4.old.old | with_reducible exact F4.old.old.old | (with_reducible refine Ext.alloc ?_ _) | (with_reducible refine Below.drew ?_) | (with_reducible refine below_drewN ?_ _) | (with_reducible refine ext_put ?_ _ ?_; rotate_left; (first | with_reducible exact Nat.le_refl _ | with_reducible exact Nat.le_succ _ | omega | (dsimp only; omega)))))
set_option maxRecDepth 100000 in
set_option maxHeartbeats 16000000 in
theorem rminor_count (a1 a2 a3 : Option Addr) (c1 c2 c3 : Nat) (s : Pu) (w : World) (hv : ValidP s) (i1 : IntsAt w a1 s.store) (i2 : IntsAt w a2 s.tape) (i3 : IntsAt w a3 s.printed) (hy : s.why = 0) (hc : s.clock ≠ 1000000000) (h3 : s.phase = 3) :
    Calls Try.prog 68 #[psv a1 a2 a3 128 c1 s.tape.length c2 s.printed.length c3 s] w (MinRes a1 a2 a3 s.tape.length c2 s.store s.printed w (minorP s)) := by
  have hvl := hv.len
  have had' := adrP_bd hv
  obtain ⟨b, off, rfl, hbl, hcl⟩ := ints_form5 i1 (by rw [hvl]; decide)
  have hdd := fun W => rdec_ord hv.order W
  have had := fun W => raddress_any (some ⟨b, off, none⟩) a2 a3 128 c1 s.tape.length c2 s.printed.length c3 s W hv.order
  have hwr := fun W => rwrites_any (some ⟨b, off, none⟩) a2 a3 128 c1 s.tape.length c2 s.printed.length c3 s W hv.order hv.clock hv.frm.2.2.1
  have hcell : w.cell? ⟨b, off + (adrP s).toNat, none⟩ = some (.int .i64 (s.store[(adrP s).toNat]?.getD 0)) := hcl _ (by omega)
  have hxb := hv.word (adrP s).toNat (by omega)
  have by_ : (s.why != 0) = false := by simpa using hy
  have bc_ : (s.clock == 1000000000) = false := by simpa using hc
  have hcm : comesP s = false := by
    unfold comesP
    rw [(addrP_bd hv).2.2.2 h3]; rfl
  have hw : wrB s = false := by rw [wr_repl hv, hcm]; rfl
  have hct : 1 ≤ s.count ∧ s.count ≤ 12 := ⟨hv.cnt.1 h3, hv.count.2⟩
  have e0 : multsP s = multP (multP s (24 - 2 * s.count).toNat) ((24 - 2 * s.count).toNat + 1) := by unfold multsP; rw [if_pos h3]
  have e : minorP s = endP (comesP (multsP s)) (s.store[(adrP s).toNat]?.getD 0) (multsP s) := by
    have e1 : storeP s = s := by unfold storeP; rw [if_neg (by rw [← wr_repl hv, hw]; decide)]
    have e3 : comesP (multsP s) = false := by rw [e0]; exact hcm
    unfold minorP
    rw [if_neg (by omega), if_neg hc, e1, hcm, e3]
    exact end_word _ _ _ (fun h => by cases h)
  have hT : (minorP s).store = s.store := by rw [e, end_store, e0]; rfl
  have hVm := multsP_valid hv
  have hB : ∀ W, Ext w W → Calls Try.prog 103 #[psv (some ⟨b, off, none⟩) a2 a3 128 c1 s.tape.length c2 s.printed.length c3 (multP (multP s (24 - 2 * s.count).toNat) ((24 - 2 * s.count).toNat + 1)), .int .i64 (s.store[(adrP s).toNat]?.getD 0)] W (Beh (some ⟨b, off, none⟩) a2 a3 128 c1 s.tape.length c2 s.printed W (minorP s)) := fun W E => by
    rw [e]
    rw [e0] at hVm ⊢
    exact rbehind_any (some ⟨b, off, none⟩) a2 a3 128 c1 c2 c3 (multP (multP s (24 - 2 * s.count).toNat) ((24 - 2 * s.count).toNat + 1)) _ W hVm hy hc hxb (i3.ext E)
  have hm1 := fun W => rmultF_any (some ⟨b, off, none⟩) a2 a3 128 c1 s.tape.length c2 s.printed.length c3 s W hct hv.other hv.operand hv.product
  have hm2 := fun W => rmultT_any (some ⟨b, off, none⟩) a2 a3 128 c1 s.tape.length c2 s.printed.length c3 (multP s (24 - 2 * s.count).toNat) W hct hv.other hv.operand (multP_valid hv _).product
  have hm2' : ∀ W, Calls Try.prog 102 #[psv (some ⟨b, off, none⟩) a2 a3 128 c1 s.tape.length c2 s.printed.length c3 (multP s (24 - 2 * s.count).toNat), .bool true] W fun e w' => e = .returned (psv (some ⟨b, off, none⟩) a2 a3 128 c1 s.tape.length c2 s.printed.length c3 (multP (multP s (24 - 2 * s.count).toNat) ((24 - 2 * s.count).toNat + 1))) ∧ Ext W w' := hm2
  rw [hw] at hwr
  have b3 : (s.phase == 3) = true := by simpa using h3
  have HS := Lib.hid hT
  have HL1 : Hid ((minorP s).store.length = 128) := Lib.hid (by rw [hT, hvl])
  obtain ⟨ad0, ad1⟩ := had'
  clear hT e e0 hv hy hc hw h3 i2 i1 i3 hxb hvl hcl hVm hcm hct hm2
  generalize hn2 : s.tape.length = n2 at *
  generalize hn3 : s.printed.length = n3 at *
  clear hn2 hn3
  generalize s.store[(adrP s).toNat]?.getD 0 = x at *
  generalize adrP s = ad at *
  generalize minorP s = T at *
  generalize (s.phase != 3) = ph at *
  generalize decodeQ s.order = o at *
  generalize (multP (multP s (24 - 2 * s.count).toNat) ((24 - 2 * s.count).toNat + 1)) = S2 at *
  generalize multP s (24 - 2 * s.count).toNat = S1 at *
  obtain ⟨op, fr, tt, nx⟩ := o
  have HC := Lib.hid hcell
  clear hcell
  go_enter Try.func68, Try.ntmps68
  go_wp2_with fail
  refine (hdd _).mono ?_
  rintro e w1 ⟨rfl, E1⟩
  have P1 := Blk.of E1.old
  have R1 := Blk.of E1
  rw [World.size_alloc] at R1
  have F1 : Ext w w1 := E1.old.old
  have u0 := Blk.c P1 0 (v := .slice (some ⟨b, off, none⟩) 128 c1) rfl
  have u1 := Blk.c P1 1 (v := .slice a2 n2 c2) rfl
  have u2 := Blk.c P1 2 (v := .int .i64 s.taken) rfl
  have u3 := Blk.c P1 3 (v := .slice a3 n3 c3) rfl
  have u4 := Blk.c P1 4 (v := .int .i64 s.clock) rfl
  have u5 := Blk.c P1 5 (v := .int .i64 s.at_) rfl
  have u6 := Blk.c P1 6 (v := .int .i64 s.phase) rfl
  have u7 := Blk.c P1 7 (v := .int .i64 s.order) rfl
  have u8 := Blk.c P1 8 (v := .int .i64 s.operand) rfl
  have u9 := Blk.c P1 9 (v := .int .i64 s.other) rfl
  have u10 := Blk.c P1 10 (v := .int .i64 s.product) rfl
  have u11 := Blk.c P1 11 (v := .int .i64 s.count) rfl
  have u12 := Blk.c P1 12 (v := .int .i64 s.done) rfl
  have u13 := Blk.c P1 13 (v := .int .i64 s.why) rfl
  have g0 := Blk.f P1 0
  have g1 := Blk.f P1 1
  have g2 := Blk.f P1 2
  have g3 := Blk.f P1 3
  have g4 := Blk.f P1 4
  have g5 := Blk.f P1 5
  have g6 := Blk.f P1 6
  have g7 := Blk.f P1 7
  have g8 := Blk.f P1 8
  have g9 := Blk.f P1 9
  have g10 := Blk.f P1 10
  have g11 := Blk.f P1 11
  have g12 := Blk.f P1 12
  have g13 := Blk.f P1 13
  have q0 := Blk.c R1 0 (v := .slice none 0 0) rfl
  have q1 := Blk.c R1 1 (v := .slice none 0 0) rfl
  have q2 := Blk.c R1 2 (v := .int .i64 0) rfl
  have q3 := Blk.c R1 3 (v := .slice none 0 0) rfl
  have q4 := Blk.c R1 4 (v := .int .i64 0) rfl
  have q5 := Blk.c R1 5 (v := .int .i64 0) rfl
  have q6 := Blk.c R1 6 (v := .int .i64 0) rfl
  have q7 := Blk.c R1 7 (v := .int .i64 0) rfl
  have q8 := Blk.c R1 8 (v := .int .i64 0) rfl
  have q9 := Blk.c R1 9 (v := .int .i64 0) rfl
  have q10 := Blk.c R1 10 (v := .int .i64 0) rfl
  have q11 := Blk.c R1 11 (v := .int .i64 0) rfl
  have q12 := Blk.c R1 12 (v := .int .i64 0) rfl
  have q13 := Blk.c R1 13 (v := .int .i64 0) rfl
  have f0 := Blk.f R1 0
  have f1 := Blk.f R1 1
  have f2 := Blk.f R1 2
  have f3 := Blk.f R1 3
  have f4 := Blk.f R1 4
  have f5 := Blk.f R1 5
  have f6 := Blk.f R1 6
  have f7 := Blk.f R1 7
  have f8 := Blk.f R1 8
  have f9 := Blk.f R1 9
  have f10 := Blk.f R1 10
  have f11 := Blk.f R1 11
  have f12 := Blk.f R1 12
  have f13 := Blk.f R1 13
  have hz : w.heap.size + 1 < w1.heap.size := R1.lt
  have hz0 : w.heap.size < w1.heap.size := P1.lt
  go_wp2_with fail
  refine (had _).mono ?_
  rintro e w2 ⟨rfl, E2⟩
  have F2 : Ext w w2 := Ext.comp (by repeat (first | with_reducible exact Ext.refl _ | with_reducible exact F1 | with_reducible exact F1.old | with_reducible exact F1.old.old | with_reducible exact F1.old.old.old | (with_reducible refine Ext.alloc ?_ _) | (with_reducible refine Below.drew ?_) | (with_reducible refine below_drewN ?_ _) | (with_reducible refine ext_put ?_ _ ?_; rotate_left; (first | with_reducible exact Nat.le_refl _ | with_reducible exact Nat.le_succ _ | omega | (dsimp only; omega))))) E2
  have P2 := Blk.go P1 (by intro hblk; repeat (first | with_reducible exact hblk | with_reducible refine Blk.al ?_ _ | with_reducible refine Blk.dr ?_ | (with_reducible refine Blk.ot ?_ ?_; rotate_left; (first | omega | (dsimp only; omega))))) E2
  have R2 := Blk.go R1 (by intro hblk; repeat (first | with_reducible exact hblk | with_reducible refine Blk.al ?_ _ | with_reducible refine Blk.dr ?_ | (with_reducible refine Blk.ot ?_ ?_; rotate_left; (first | omega | (dsimp only; omega))))) E2
  clear u0 u1 u2 u3 u4 u5 u6 u7 u8 u9 u10 u11 u12 u13 g0 g1 g2 g3 g4 g5 g6 g7 g8 g9 g10 g11 g12 g13 q0 q1 q2 q3 q4 q5 q6 q7 q8 q9 q10 q11 q12 q13 f0 f1 f2 f3 f4 f5 f6 f7 f8 f9 f10 f11 f12 f13 hz hz0
  have u0 := Blk.c P2 0 (v := .slice (some ⟨b, off, none⟩) 128 c1) rfl
  have u1 := Blk.c P2 1 (v := .slice a2 n2 c2) rfl
  have u2 := Blk.c P2 2 (v := .int .i64 s.taken) rfl
  have u3 := Blk.c P2 3 (v := .slice a3 n3 c3) rfl
  have u4 := Blk.c P2 4 (v := .int .i64 s.clock) rfl
  have u5 := Blk.c P2 5 (v := .int .i64 s.at_) rfl
  have u6 := Blk.c P2 6 (v := .int .i64 s.phase) rfl
  have u7 := Blk.c P2 7 (v := .int .i64 s.order) rfl
  have u8 := Blk.c P2 8 (v := .int .i64 s.operand) rfl
  have u9 := Blk.c P2 9 (v := .int .i64 s.other) rfl
  have u10 := Blk.c P2 10 (v := .int .i64 s.product) rfl
  have u11 := Blk.c P2 11 (v := .int .i64 s.count) rfl
  have u12 := Blk.c P2 12 (v := .int .i64 s.done) rfl
  have u13 := Blk.c P2 13 (v := .int .i64 s.why) rfl
  have g0 := Blk.f P2 0
  have g1 := Blk.f P2 1
  have g2 := Blk.f P2 2
  have g3 := Blk.f P2 3
  have g4 := Blk.f P2 4
  have g5 := Blk.f P2 5
  have g6 := Blk.f P2 6
  have g7 := Blk.f P2 7
  have g8 := Blk.f P2 8
  have g9 := Blk.f P2 9
  have g10 := Blk.f P2 10
  have g11 := Blk.f P2 11
  have g12 := Blk.f P2 12
  have g13 := Blk.f P2 13
  have q0 := Blk.c R2 0 (v := .slice none 0 0) rfl
  have q1 := Blk.c R2 1 (v := .slice none 0 0) rfl
  have q2 := Blk.c R2 2 (v := .int .i64 0) rfl
  have q3 := Blk.c R2 3 (v := .slice none 0 0) rfl
  have q4 := Blk.c R2 4 (v := .int .i64 0) rfl
  have q5 := Blk.c R2 5 (v := .int .i64 0) rfl
  have q6 := Blk.c R2 6 (v := .int .i64 0) rfl
  have q7 := Blk.c R2 7 (v := .int .i64 0) rfl
  have q8 := Blk.c R2 8 (v := .int .i64 0) rfl
  have q9 := Blk.c R2 9 (v := .int .i64 0) rfl
  have q10 := Blk.c R2 10 (v := .int .i64 0) rfl
  have q11 := Blk.c R2 11 (v := .int .i64 0) rfl
  have q12 := Blk.c R2 12 (v := .int .i64 0) rfl
  have q13 := Blk.c R2 13 (v := .int .i64 0) rfl
  have f0 := Blk.f R2 0
  have f1 := Blk.f R2 1
  have f2 := Blk.f R2 2
  have f3 := Blk.f R2 3
  have f4 := Blk.f R2 4
  have f5 := Blk.f R2 5
  have f6 := Blk.f R2 6
  have f7 := Blk.f R2 7
  have f8 := Blk.f R2 8
  have f9 := Blk.f R2 9
  have f10 := Blk.f R2 10
  have f11 := Blk.f R2 11
  have f12 := Blk.f R2 12
  have f13 := Blk.f R2 13
  have hz : w.heap.size + 1 < w2.heap.size := R2.lt
  have hz0 : w.heap.size < w2.heap.size := P2.lt
  have hcell2 := (F2.cell (p := ⟨b, off + ad.toNat, none⟩) hbl).trans HC.out
  have hbz : b < w2.heap.size := Nat.lt_of_lt_of_le hbl F2.size
  go_wp2_with fail
  refine (hwr _).mono ?_
  rintro e w3 ⟨rfl, E3⟩
  have F3 : Ext w w3 := Ext.comp (by repeat (first | with_reducible exact Ext.refl _ | with_reducible exact F2 | with_reducible exact F2.old | with_reducible exact F2.old.old | with_reducible exact F2.old.old.old | (with_reducible refine Ext.alloc ?_ _) | (with_reducible refine Below.drew ?_) | (with_reducible refine below_drewN ?_ _) | (with_reducible refine ext_put ?_ _ ?_; rotate_left; (first | with_reducible exact Nat.le_refl _ | with_reducible exact Nat.le_succ _ | omega | (dsimp only; omega))))) E3
  have P3 := Blk.go P2 (by intro hblk; repeat (first | with_reducible exact hblk | with_reducible refine Blk.al ?_ _ | with_reducible refine Blk.dr ?_ | (with_reducible refine Blk.ot ?_ ?_; rotate_left; (first | omega | (dsimp only; omega))))) E3
  have R3 := Blk.go R2 (by intro hblk; repeat (first | with_reducible exact hblk | with_reducible refine Blk.al ?_ _ | with_reducible refine Blk.dr ?_ | (with_reducible refine Blk.ot ?_ ?_; rotate_left; (first | omega | (dsimp only; omega))))) E3
  clear u0 u1 u2 u3 u4 u5 u6 u7 u8 u9 u10 u11 u12 u13 g0 g1 g2 g3 g4 g5 g6 g7 g8 g9 g10 g11 g12 g13 q0 q1 q2 q3 q4 q5 q6 q7 q8 q9 q10 q11 q12 q13 f0 f1 f2 f3 f4 f5 f6 f7 f8 f9 f10 f11 f12 f13 hz hz0
  have u0 := Blk.c P3 0 (v := .slice (some ⟨b, off, none⟩) 128 c1) rfl
  have u1 := Blk.c P3 1 (v := .slice a2 n2 c2) rfl
  have u2 := Blk.c P3 2 (v := .int .i64 s.taken) rfl
  have u3 := Blk.c P3 3 (v := .slice a3 n3 c3) rfl
  have u4 := Blk.c P3 4 (v := .int .i64 s.clock) rfl
  have u5 := Blk.c P3 5 (v := .int .i64 s.at_) rfl
  have u6 := Blk.c P3 6 (v := .int .i64 s.phase) rfl
  have u7 := Blk.c P3 7 (v := .int .i64 s.order) rfl
  have u8 := Blk.c P3 8 (v := .int .i64 s.operand) rfl
  have u9 := Blk.c P3 9 (v := .int .i64 s.other) rfl
  have u10 := Blk.c P3 10 (v := .int .i64 s.product) rfl
  have u11 := Blk.c P3 11 (v := .int .i64 s.count) rfl
  have u12 := Blk.c P3 12 (v := .int .i64 s.done) rfl
  have u13 := Blk.c P3 13 (v := .int .i64 s.why) rfl
  have g0 := Blk.f P3 0
  have g1 := Blk.f P3 1
  have g2 := Blk.f P3 2
  have g3 := Blk.f P3 3
  have g4 := Blk.f P3 4
  have g5 := Blk.f P3 5
  have g6 := Blk.f P3 6
  have g7 := Blk.f P3 7
  have g8 := Blk.f P3 8
  have g9 := Blk.f P3 9
  have g10 := Blk.f P3 10
  have g11 := Blk.f P3 11
  have g12 := Blk.f P3 12
  have g13 := Blk.f P3 13
  have q0 := Blk.c R3 0 (v := .slice none 0 0) rfl
  have q1 := Blk.c R3 1 (v := .slice none 0 0) rfl
  have q2 := Blk.c R3 2 (v := .int .i64 0) rfl
  have q3 := Blk.c R3 3 (v := .slice none 0 0) rfl
  have q4 := Blk.c R3 4 (v := .int .i64 0) rfl
  have q5 := Blk.c R3 5 (v := .int .i64 0) rfl
  have q6 := Blk.c R3 6 (v := .int .i64 0) rfl
  have q7 := Blk.c R3 7 (v := .int .i64 0) rfl
  have q8 := Blk.c R3 8 (v := .int .i64 0) rfl
  have q9 := Blk.c R3 9 (v := .int .i64 0) rfl
  have q10 := Blk.c R3 10 (v := .int .i64 0) rfl
  have q11 := Blk.c R3 11 (v := .int .i64 0) rfl
  have q12 := Blk.c R3 12 (v := .int .i64 0) rfl
  have q13 := Blk.c R3 13 (v := .int .i64 0) rfl
  have f0 := Blk.f R3 0
  have f1 := Blk.f R3 1
  have f2 := Blk.f R3 2
  have f3 := Blk.f R3 3
  have f4 := Blk.f R3 4
  have f5 := Blk.f R3 5
  have f6 := Blk.f R3 6
  have f7 := Blk.f R3 7
  have f8 := Blk.f R3 8
  have f9 := Blk.f R3 9
  have f10 := Blk.f R3 10
  have f11 := Blk.f R3 11
  have f12 := Blk.f R3 12
  have f13 := Blk.f R3 13
  have hz : w.heap.size + 1 < w3.heap.size := R3.lt
  have hz0 : w.heap.size < w3.heap.size := P3.lt
  go_wp2_with fail
  refine (hm1 _).mono ?_
  rintro e w4 ⟨rfl, E4⟩
  have F4 : Ext w w4 := Ext.comp (by repeat (first | with_reducible exact Ext.refl _ | with_reducible exact F3 | with_reducible exact F3.old | with_reducible exact F3.old.old | with_reducible exact F3.old.old.old | (with_reducible refine Ext.alloc ?_ _) | (with_reducible refine Below.drew ?_) | (with_reducible refine below_drewN ?_ _) | (with_reducible refine ext_put ?_ _ ?_; rotate_left; (first | with_reducible exact Nat.le_refl _ | with_reducible exact Nat.le_succ _ | omega | (dsimp only; omega))))) E4
  have P4 := Blk.go P3 (by intro hblk; repeat (first | with_reducible exact hblk | with_reducible refine Blk.al ?_ _ | with_reducible refine Blk.dr ?_ | (with_reducible refine Blk.ot ?_ ?_; rotate_left; (first | omega | (dsimp only; omega))))) E4
  have R4 := Blk.go R3 (by intro hblk; repeat (first | with_reducible exact hblk | with_reducible refine Blk.al ?_ _ | with_reducible refine Blk.dr ?_ | (with_reducible refine Blk.ot ?_ ?_; rotate_left; (first | omega | (dsimp only; omega))))) E4
  clear u0 u1 u2 u3 u4 u5 u6 u7 u8 u9 u10 u11 u12 u13 g0 g1 g2 g3 g4 g5 g6 g7 g8 g9 g10 g11 g12 g13 q0 q1 q2 q3 q4 q5 q6 q7 q8 q9 q10 q11 q12 q13 f0 f1 f2 f3 f4 f5 f6 f7 f8 f9 f10 f11 f12 f13 hz hz0
  have u0 := Blk.c P4 0 (v := .slice (some ⟨b, off, none⟩) 128 c1) rfl
  have u1 := Blk.c P4 1 (v := .slice a2 n2 c2) rfl
  have u2 := Blk.c P4 2 (v := .int .i64 s.taken) rfl
  have u3 := Blk.c P4 3 (v := .slice a3 n3 c3) rfl
  have u4 := Blk.c P4 4 (v := .int .i64 s.clock) rfl
  have u5 := Blk.c P4 5 (v := .int .i64 s.at_) rfl
  have u6 := Blk.c P4 6 (v := .int .i64 s.phase) rfl
  have u7 := Blk.c P4 7 (v := .int .i64 s.order) rfl
  have u8 := Blk.c P4 8 (v := .int .i64 s.operand) rfl
  have u9 := Blk.c P4 9 (v := .int .i64 s.other) rfl
  have u10 := Blk.c P4 10 (v := .int .i64 s.product) rfl
  have u11 := Blk.c P4 11 (v := .int .i64 s.count) rfl
  have u12 := Blk.c P4 12 (v := .int .i64 s.done) rfl
  have u13 := Blk.c P4 13 (v := .int .i64 s.why) rfl
  have g0 := Blk.f P4 0
  have g1 := Blk.f P4 1
  have g2 := Blk.f P4 2
  have g3 := Blk.f P4 3
  have g4 := Blk.f P4 4
  have g5 := Blk.f P4 5
  have g6 := Blk.f P4 6
  have g7 := Blk.f P4 7
  have g8 := Blk.f P4 8
  have g9 := Blk.f P4 9
  have g10 := Blk.f P4 10
  have g11 := Blk.f P4 11
  have g12 := Blk.f P4 12
  have g13 := Blk.f P4 13
  have q0 := Blk.c R4 0 (v := .slice none 0 0) rfl
  have q1 := Blk.c R4 1 (v := .slice none 0 0) rfl
  have q2 := Blk.c R4 2 (v := .int .i64 0) rfl
  have q3 := Blk.c R4 3 (v := .slice none 0 0) rfl
  have q4 := Blk.c R4 4 (v := .int .i64 0) rfl
  have q5 := Blk.c R4 5 (v := .int .i64 0) rfl
  have q6 := Blk.c R4 6 (v := .int .i64 0) rfl
  have q7 := Blk.c R4 7 (v := .int .i64 0) rfl
  have q8 := Blk.c R4 8 (v := .int .i64 0) rfl
  have q9 := Blk.c R4 9 (v := .int .i64 0) rfl
  have q10 := Blk.c R4 10 (v := .int .i64 0) rfl
  have q11 := Blk.c R4 11 (v := .int .i64 0) rfl
  have q12 := Blk.c R4 12 (v := .int .i64 0) rfl
  have q13 := Blk.c R4 13 (v := .int .i64 0) rfl
  have f0 := Blk.f R4 0
  have f1 := Blk.f R4 1
  have f2 := Blk.f R4 2
  have f3 := Blk.f R4 3
  have f4 := Blk.f R4 4
  have f5 := Blk.f R4 5
  have f6 := Blk.f R4 6
  have f7 := Blk.f R4 7
  have f8 := Blk.f R4 8
  have f9 := Blk.f R4 9
  have f10 := Blk.f R4 10
  have f11 := Blk.f R4 11
  have f12 := Blk.f R4 12
  have f13 := Blk.f R4 13
  have hz : w.heap.size + 1 < w4.heap.size := R4.lt
  have hz0 : w.heap.size < w4.heap.size := P4.lt
  go_wp2_with fail
  refine (hm2' _).mono ?_
  rintro e w5 ⟨rfl, E5⟩
  have F5 : Ext w w5 := Ext.comp (by repeat (first | with_reducible exact Ext.refl _ | with_reducible exact F4 | with_reducible exact F4.old | with_reducible exact F4.old.old | with_reducible exact F4.old.old.old | (with_reducible refine Ext.alloc ?_ _) | (with_reducible refine Below.drew ?_) | (with_reducible refine below_drewN ?_ _) | (with_reducible refine ext_put ?_ _ ?_; rotate_left; (first | with_reducible exact Nat.le_refl _ | with_reducible exact Nat.le_succ _ | omega | (dsimp only; omega))))) E5
  have P5 := Blk.go P4 (by intro hblk; repeat (first | with_reducible exact hblk | with_reducible refine Blk.al ?_ _ | with_reducible refine Blk.dr ?_ | (with_reducible refine Blk.ot ?_ ?_; rotate_left; (first | omega | (dsimp only; omega))))) E5
  have R5 := Blk.go R4 (by intro hblk; repeat (first | with_reducible exact hblk | with_reducible refine Blk.al ?_ _ | with_reducible refine Blk.dr ?_ | (with_reducible refine Blk.ot ?_ ?_; rotate_left; (first | omega | (dsimp only; omega))))) E5
  clear u0 u1 u2 u3 u4 u5 u6 u7 u8 u9 u10 u11 u12 u13 g0 g1 g2 g3 g4 g5 g6 g7 g8 g9 g10 g11 g12 g13 q0 q1 q2 q3 q4 q5 q6 q7 q8 q9 q10 q11 q12 q13 f0 f1 f2 f3 f4 f5 f6 f7 f8 f9 f10 f11 f12 f13 hz hz0
  have u0 := Blk.c P5 0 (v := .slice (some ⟨b, off, none⟩) 128 c1) rfl
  have u1 := Blk.c P5 1 (v := .slice a2 n2 c2) rfl
  have u2 := Blk.c P5 2 (v := .int .i64 s.taken) rfl
  have u3 := Blk.c P5 3 (v := .slice a3 n3 c3) rfl
  have u4 := Blk.c P5 4 (v := .int .i64 s.clock) rfl
  have u5 := Blk.c P5 5 (v := .int .i64 s.at_) rfl
  have u6 := Blk.c P5 6 (v := .int .i64 s.phase) rfl
  have u7 := Blk.c P5 7 (v := .int .i64 s.order) rfl
  have u8 := Blk.c P5 8 (v := .int .i64 s.operand) rfl
  have u9 := Blk.c P5 9 (v := .int .i64 s.other) rfl
  have u10 := Blk.c P5 10 (v := .int .i64 s.product) rfl
  have u11 := Blk.c P5 11 (v := .int .i64 s.count) rfl
  have u12 := Blk.c P5 12 (v := .int .i64 s.done) rfl
  have u13 := Blk.c P5 13 (v := .int .i64 s.why) rfl
  have g0 := Blk.f P5 0
  have g1 := Blk.f P5 1
  have g2 := Blk.f P5 2
  have g3 := Blk.f P5 3
  have g4 := Blk.f P5 4
  have g5 := Blk.f P5 5
  have g6 := Blk.f P5 6
  have g7 := Blk.f P5 7
  have g8 := Blk.f P5 8
  have g9 := Blk.f P5 9
  have g10 := Blk.f P5 10
  have g11 := Blk.f P5 11
  have g12 := Blk.f P5 12
  have g13 := Blk.f P5 13
  have q0 := Blk.c R5 0 (v := .slice none 0 0) rfl
  have q1 := Blk.c R5 1 (v := .slice none 0 0) rfl
  have q2 := Blk.c R5 2 (v := .int .i64 0) rfl
  have q3 := Blk.c R5 3 (v := .slice none 0 0) rfl
  have q4 := Blk.c R5 4 (v := .int .i64 0) rfl
  have q5 := Blk.c R5 5 (v := .int .i64 0) rfl
  have q6 := Blk.c R5 6 (v := .int .i64 0) rfl
  have q7 := Blk.c R5 7 (v := .int .i64 0) rfl
  have q8 := Blk.c R5 8 (v := .int .i64 0) rfl
  have q9 := Blk.c R5 9 (v := .int .i64 0) rfl
  have q10 := Blk.c R5 10 (v := .int .i64 0) rfl
  have q11 := Blk.c R5 11 (v := .int .i64 0) rfl
  have q12 := Blk.c R5 12 (v := .int .i64 0) rfl
  have q13 := Blk.c R5 13 (v := .int .i64 0) rfl
  have f0 := Blk.f R5 0
  have f1 := Blk.f R5 1
  have f2 := Blk.f R5 2
  have f3 := Blk.f R5 3
  have f4 := Blk.f R5 4
  have f5 := Blk.f R5 5
  have f6 := Blk.f R5 6
  have f7 := Blk.f R5 7
  have f8 := Blk.f R5 8
  have f9 := Blk.f R5 9
  have f10 := Blk.f R5 10
  have f11 := Blk.f R5 11
  have f12 := Blk.f R5 12
  have f13 := Blk.f R5 13
  have hz : w.heap.size + 1 < w5.heap.size := R5.lt
  have hz0 : w.heap.size < w5.heap.size := P5.lt
  go_upto_region 14 with fail
  obtain ⟨w6, hw6⟩ : ∃ w6 : World, w6 = ((((((((((((((w5.setCell ⟨w.heap.size, 0, none⟩ (.slice (some ⟨b, off, none⟩) 128 c1)).setCell ⟨w.heap.size, 1, none⟩ (.slice a2 n2 c2)).setCell ⟨w.heap.size, 2, none⟩ (.int .i64 S2.taken)).setCell ⟨w.heap.size, 3, none⟩ (.slice a3 n3 c3)).setCell ⟨w.heap.size, 4, none⟩ (.int .i64 S2.clock)).setCell ⟨w.heap.size, 5, none⟩ (.int .i64 S2.at_)).setCell ⟨w.heap.size, 6, none⟩ (.int .i64 S2.phase)).setCell ⟨w.heap.size, 7, none⟩ (.int .i64 S2.order)).setCell ⟨w.heap.size, 8, none⟩ (.int .i64 S2.operand)).setCell ⟨w.heap.size, 9, none⟩ (.int .i64 S2.other)).setCell ⟨w.heap.size, 10, none⟩ (.int .i64 S2.product)).setCell ⟨w.heap.size, 11, none⟩ (.int .i64 S2.count)).setCell ⟨w.heap.size, 12, none⟩ (.int .i64 S2.done)).setCell ⟨w.heap.size, 13, none⟩ (.int .i64 S2.why)) := ⟨_, rfl⟩
  have F6 : Ext w w6 := by rw [hw6]; exact (by repeat (first | with_reducible exact Ext.refl _ | with_reducible exact F5 | with_reducible exact F5.old | with_reducible exact F5.old.old | with_reducible exact F5.old.old.old | (with_reducible refine Ext.alloc ?_ _) | (with_reducible refine Below.drew ?_) | (with_reducible refine below_drewN ?_ _) | (with_reducible refine ext_put ?_ _ ?_; rotate_left; (first | with_reducible exact Nat.le_refl _ | with_reducible exact Nat.le_succ _ | omega | (dsimp only; omega)))))
  have P6 : Blk w6 w.heap.size #[.slice (some ⟨b, off, none⟩) 128 c1, .slice a2 n2 c2, .int .i64 S2.taken, .slice a3 n3 c3, .int .i64 S2.clock, .int .i64 S2.at_, .int .i64 S2.phase, .int .i64 S2.order, .int .i64 S2.operand, .int .i64 S2.other, .int .i64 S2.product, .int .i64 S2.count, .int .i64 S2.done, .int .i64 S2.why] 41 := by rw [hw6]; exact P5.st14 _ _ _ _ _ _ _ _ _ _ _ _ _ _
  have R6 := R5.nm14 hw6 (by omega)
  have hzw6 : w6.heap.size = w5.heap.size := by rw [hw6]; simp only [World.size_setCell]
  rw [← hw6]
  clear hw6
  clear hzw6
  clear u0 u1 u2 u3 u4 u5 u6 u7 u8 u9 u10 u11 u12 u13 g0 g1 g2 g3 g4 g5 g6 g7 g8 g9 g10 g11 g12 g13 q0 q1 q2 q3 q4 q5 q6 q7 q8 q9 q10 q11 q12 q13 f0 f1 f2 f3 f4 f5 f6 f7 f8 f9 f10 f11 f12 f13 hz hz0
  have u0 := Blk.c P6 0 (v := .slice (some ⟨b, off, none⟩) 128 c1) rfl
  have u1 := Blk.c P6 1 (v := .slice a2 n2 c2) rfl
  have u2 := Blk.c P6 2 (v := .int .i64 S2.taken) rfl
  have u3 := Blk.c P6 3 (v := .slice a3 n3 c3) rfl
  have u4 := Blk.c P6 4 (v := .int .i64 S2.clock) rfl
  have u5 := Blk.c P6 5 (v := .int .i64 S2.at_) rfl
  have u6 := Blk.c P6 6 (v := .int .i64 S2.phase) rfl
  have u7 := Blk.c P6 7 (v := .int .i64 S2.order) rfl
  have u8 := Blk.c P6 8 (v := .int .i64 S2.operand) rfl
  have u9 := Blk.c P6 9 (v := .int .i64 S2.other) rfl
  have u10 := Blk.c P6 10 (v := .int .i64 S2.product) rfl
  have u11 := Blk.c P6 11 (v := .int .i64 S2.count) rfl
  have u12 := Blk.c P6 12 (v := .int .i64 S2.done) rfl
  have u13 := Blk.c P6 13 (v := .int .i64 S2.why) rfl
  have g0 := Blk.f P6 0
  have g1 := Blk.f P6 1
  have g2 := Blk.f P6 2
  have g3 := Blk.f P6 3
  have g4 := Blk.f P6 4
  have g5 := Blk.f P6 5
  have g6 := Blk.f P6 6
  have g7 := Blk.f P6 7
  have g8 := Blk.f P6 8
  have g9 := Blk.f P6 9
  have g10 := Blk.f P6 10
  have g11 := Blk.f P6 11
  have g12 := Blk.f P6 12
  have g13 := Blk.f P6 13
  have q0 := Blk.c R6 0 (v := .slice none 0 0) rfl
  have q1 := Blk.c R6 1 (v := .slice none 0 0) rfl
  have q2 := Blk.c R6 2 (v := .int .i64 0) rfl
  have q3 := Blk.c R6 3 (v := .slice none 0 0) rfl
  have q4 := Blk.c R6 4 (v := .int .i64 0) rfl
  have q5 := Blk.c R6 5 (v := .int .i64 0) rfl
  have q6 := Blk.c R6 6 (v := .int .i64 0) rfl
  have q7 := Blk.c R6 7 (v := .int .i64 0) rfl
  have q8 := Blk.c R6 8 (v := .int .i64 0) rfl
  have q9 := Blk.c R6 9 (v := .int .i64 0) rfl
  have q10 := Blk.c R6 10 (v := .int .i64 0) rfl
  have q11 := Blk.c R6 11 (v := .int .i64 0) rfl
  have q12 := Blk.c R6 12 (v := .int .i64 0) rfl
  have q13 := Blk.c R6 13 (v := .int .i64 0) rfl
  have f0 := Blk.f R6 0
  have f1 := Blk.f R6 1
  have f2 := Blk.f R6 2
  have f3 := Blk.f R6 3
  have f4 := Blk.f R6 4
  have f5 := Blk.f R6 5
  have f6 := Blk.f R6 6
  have f7 := Blk.f R6 7
  have f8 := Blk.f R6 8
  have f9 := Blk.f R6 9
  have f10 := Blk.f R6 10
  have f11 := Blk.f R6 11
  have f12 := Blk.f R6 12
  have f13 := Blk.f R6 13
  have hz : w.heap.size + 1 < w6.heap.size := R6.lt
  have hz0 : w.heap.size < w6.heap.size := P6.lt
  go_wp2_with fail
  refine (hB _ (by repeat (first | with_reducible exact Ext.refl _ | with_reducible exact F6 | with_reducible exact F6.old | with_reducible exact F6.old.old | with_reducible exact F6.old.old.old | (with_reducible refine Ext.alloc ?_ _) | (with_reducible refine Below.drew ?_) | (with_reducible refine below_drewN ?_ _) | (with_reducible refine ext_put ?_ _ ?_; rotate_left; (first | with_reducible exact Nat.le_refl _ | with_reducible exact Nat.le_succ _ | omega | (dsimp only; omega)))))).mono ?_
  rintro e w7 ⟨b3, d3, rfl, I7, E7⟩
  have F7 : Ext w w7 := Ext.comp (by repeat (first | with_reducible exact Ext.refl _ | with_reducible exact F6 | with_reducible exact F6.old | with_reducible exact F6.old.old | with_reducible exact F6.old.old.old | (with_reducible refine Ext.alloc ?_ _) | (with_reducible refine Below.drew ?_) | (with_reducible refine below_drewN ?_ _) | (with_reducible refine ext_put ?_ _ ?_; rotate_left; (first | with_reducible exact Nat.le_refl _ | with_reducible exact Nat.le_succ _ | omega | (dsimp only; omega))))) E7
  have P7 := Blk.go P6 (by intro hblk; repeat (first | with_reducible exact hblk | with_reducible refine Blk.al ?_ _ | with_reducible refine Blk.dr ?_ | (with_reducible refine Blk.ot ?_ ?_; rotate_left; (first | omega | (dsimp only; omega))))) E7
  have R7 := Blk.go R6 (by intro hblk; repeat (first | with_reducible exact hblk | with_reducible refine Blk.al ?_ _ | with_reducible refine Blk.dr ?_ | (with_reducible refine Blk.ot ?_ ?_; rotate_left; (first | omega | (dsimp only; omega))))) E7
  clear u0 u1 u2 u3 u4 u5 u6 u7 u8 u9 u10 u11 u12 u13 g0 g1 g2 g3 g4 g5 g6 g7 g8 g9 g10 g11 g12 g13 q0 q1 q2 q3 q4 q5 q6 q7 q8 q9 q10 q11 q12 q13 f0 f1 f2 f3 f4 f5 f6 f7 f8 f9 f10 f11 f12 f13 hz hz0
  have u0 := Blk.c P7 0 (v := .slice (some ⟨b, off, none⟩) 128 c1) rfl
  have u1 := Blk.c P7 1 (v := .slice a2 n2 c2) rfl
  have u2 := Blk.c P7 2 (v := .int .i64 S2.taken) rfl
  have u3 := Blk.c P7 3 (v := .slice a3 n3 c3) rfl
  have u4 := Blk.c P7 4 (v := .int .i64 S2.clock) rfl
  have u5 := Blk.c P7 5 (v := .int .i64 S2.at_) rfl
  have u6 := Blk.c P7 6 (v := .int .i64 S2.phase) rfl
  have u7 := Blk.c P7 7 (v := .int .i64 S2.order) rfl
  have u8 := Blk.c P7 8 (v := .int .i64 S2.operand) rfl
  have u9 := Blk.c P7 9 (v := .int .i64 S2.other) rfl
  have u10 := Blk.c P7 10 (v := .int .i64 S2.product) rfl
  have u11 := Blk.c P7 11 (v := .int .i64 S2.count) rfl
  have u12 := Blk.c P7 12 (v := .int .i64 S2.done) rfl
  have u13 := Blk.c P7 13 (v := .int .i64 S2.why) rfl
  have g0 := Blk.f P7 0
  have g1 := Blk.f P7 1
  have g2 := Blk.f P7 2
  have g3 := Blk.f P7 3
  have g4 := Blk.f P7 4
  have g5 := Blk.f P7 5
  have g6 := Blk.f P7 6
  have g7 := Blk.f P7 7
  have g8 := Blk.f P7 8
  have g9 := Blk.f P7 9
  have g10 := Blk.f P7 10
  have g11 := Blk.f P7 11
  have g12 := Blk.f P7 12
  have g13 := Blk.f P7 13
  have q0 := Blk.c R7 0 (v := .slice none 0 0) rfl
  have q1 := Blk.c R7 1 (v := .slice none 0 0) rfl
  have q2 := Blk.c R7 2 (v := .int .i64 0) rfl
  have q3 := Blk.c R7 3 (v := .slice none 0 0) rfl
  have q4 := Blk.c R7 4 (v := .int .i64 0) rfl
  have q5 := Blk.c R7 5 (v := .int .i64 0) rfl
  have q6 := Blk.c R7 6 (v := .int .i64 0) rfl
  have q7 := Blk.c R7 7 (v := .int .i64 0) rfl
  have q8 := Blk.c R7 8 (v := .int .i64 0) rfl
  have q9 := Blk.c R7 9 (v := .int .i64 0) rfl
  have q10 := Blk.c R7 10 (v := .int .i64 0) rfl
  have q11 := Blk.c R7 11 (v := .int .i64 0) rfl
  have q12 := Blk.c R7 12 (v := .int .i64 0) rfl
  have q13 := Blk.c R7 13 (v := .int .i64 0) rfl
  have f0 := Blk.f R7 0
  have f1 := Blk.f R7 1
  have f2 := Blk.f R7 2
  have f3 := Blk.f R7 3
  have f4 := Blk.f R7 4
  have f5 := Blk.f R7 5
  have f6 := Blk.f R7 6
  have f7 := Blk.f R7 7
  have f8 := Blk.f R7 8
  have f9 := Blk.f R7 9
  have f10 := Blk.f R7 10
  have f11 := Blk.f R7 11
  have f12 := Blk.f R7 12
  have f13 := Blk.f R7 13
  have hz : w.heap.size + 1 < w7.heap.size := R7.lt
  have hz0 : w.heap.size < w7.heap.size := P7.lt
  have hrl := R6.lt
  have J7 := Row.mono (C := w.heap.size + 2) I7 (by first | omega | (simp; omega))
  clear hrl
  go_wp2_with fail
  refine bodyPost_ret (v := psv (some ⟨b, off, none⟩) a2 b3 128 c1 n2 c2 T.printed.length d3 T) (by simp [results, Try.results68, go_sem, hz, hz0, q0, q1, q2, q3, q4, q5, q6, q7, q8, q9, q10, q11, q12, q13]) rfl ⟨(some ⟨b, off, none⟩), c1, b3, d3, ?_, .inl ⟨rfl, HS.out⟩, ?_, ?_⟩
  · rw [HL1.out]
  · refine Row.mono (B := w.heap.size + 2) ?_ (by omega)
    exact (by repeat (first | with_reducible exact J7 | with_reducible refine Row.drew ?_ | (with_reducible refine Row.put ?_ ?_ _; rotate_left; (first | omega | (dsimp only; omega)))))
  · exact (by repeat (first | with_reducible exact Ext.refl _ | with_reducible exact F7 | with_reducible exact F7.old | with_reducible exact F7.old.old | with_reducible exact F7.old.old.old | (with_reducible refine Ext.alloc ?_ _) | (with_reducible refine Below.drew ?_) | (with_reducible refine below_drewN ?_ _) | (with_reducible refine ext_put ?_ _ ?_; rotate_left; (first | with_reducible exact Nat.le_refl _ | with_reducible exact Nat.le_succ _ | omega | (dsimp only; omega)))))
end Go.Proofs.Ytjfggepgjpdebaa

import Derived.Deep.MidRow
import Derived.Test.YtnhpcoagkmgdoaaX21
import Derived.Test.YtnhpcoagkmgdoaaX27
set_option linter.unusedVariables false
set_option linter.unusedSimpArgs false
/- Layer 10: is any word bad. -/
namespace Go.Proofs.Ytnhpcoagkmgdoaa
open Go.RowKit Go.Q Go.Shelf Go.Maps
set_option maxHeartbeats 4000000
set_option maxRecDepth 100000
theorem some_of {bad : List Bool} {k : Nat} (h : bad[k]?.getD false = true) : someB bad = true := by
 unfold someB
 rw [List.any_eq_true]
 rcases Nat.lt_or_ge k bad.length with hl | hl
 ·rw [List.getElem?_eq_getElem hl] at h
  exact ⟨_, List.getElem_mem hl, h⟩
 ·rw [List.getElem?_eq_none hl] at h
  cases h
theorem some_no {bad : List Bool} (h : ∀ k, k < bad.length → bad[k]?.getD false = false) : someB bad = false := by
 unfold someB
 rw [List.any_eq_false]
 intro x hx
 obtain ⟨k, hk, rfl⟩ := List.getElem_of_mem hx
 have := h k hk
 rw [List.getElem?_eq_getElem hk] at this
 simpa using this
theorem index_bad (m : Nat) (bad : List Bool) (w : World) (hl : bad.length = 128) (hc : ∀ i, i < 128 → w.cell? ⟨m, 8 + i, none⟩ = some (.bool (bad[i]?.getD false))) :
  Calls Try.prog 98 #[.slice (some ⟨m, 8, none⟩) 128 128, .bool true] w fun e w' => ∃ r : Int, e = .returned (.int .i64 r) ∧ w' = w ∧ (someB bad = true → 0 ≤ r) ∧ (someB bad = false → r = -1) := by
 have HC := Lib.hid hc
 have HL := Lib.hid hl
 clear hc hl
 go_enter Try.func98, Try.ntmps98
 go_wp2
 go_loopw [8] (fun s8 X => ∃ k : Nat, k ≤ 128 ∧ s8 = .int .i64 (k : Int) ∧ X = w ∧ Hid (∀ j, j < k → bad[j]?.getD false = false)) (fun s8 _ => 128 - (Go.RowKit.intOf s8).toNat)
 case atStart => exact ⟨0, by omega, rfl, rfl, Lib.hid fun j hj => absurd hj (Nat.not_lt_zero _)⟩
 case round =>
  obtain ⟨k, hk, rfl, rfl, HP⟩ := hrel
  by_cases hlt : k < 128
  ·have hltz : (k : Int) < 128 := by omega
   have hkz : (0 : Int) ≤ (k : Int) := by omega
   have l0 := HC.out k hlt
   cases hb : bad[k]?.getD false with
   | true =>
    rw [hb] at l0
    have HS := Lib.hid (some_of hb)
    clear hb
    go_wp2
    refine bodyPost_ret (v := .int .i64 (k : Int)) (by simp [results, Try.results98, go_sem]) rfl ⟨_, rfl, rfl, fun _ => hkz, fun h => ?_⟩
    rw [HS.out] at h
    cases h
   | false =>
    rw [hb] at l0
    have HN : Hid (∀ j, j < k + 1 → bad[j]?.getD false = false) := Lib.hid fun j hj => by
     by_cases e : j = k
     ·subst e; exact hb
     ·exact HP.out j (by omega)
    clear hb
    go_wp2
    go_roundw
    case rel => exact ⟨k + 1, by omega, by go_num, trivial, HN⟩
    case measure => simp [Go.RowKit.intOf]; omega
  ·have hltz : ¬ (k : Int) < 128 := by omega
   have HN := Lib.hid (some_no (bad := bad) fun j hj => HP.out j (by have := HL.out; omega))
   go_wp2
   refine bodyPost_ret (v := .int .i64 (-1)) (by simp [results, Try.results98, go_sem]) rfl ⟨_, rfl, rfl, fun h => ?_, fun _ => rfl⟩
   rw [HN.out] at h
   cases h
theorem contains_bad (m : Nat) (bad : List Bool) (w : World) (hl : bad.length = 128) (hc : ∀ i, i < 128 → w.cell? ⟨m, 8 + i, none⟩ = some (.bool (bad[i]?.getD false))) :
  Calls Try.prog 73 #[.slice (some ⟨m, 8, none⟩) 128 128, .bool true] w fun e w' => e = .returned (.bool (someB bad)) ∧ w' = w := by
 have hi := fun (_ : True) => index_bad m bad w hl hc
 clear hl hc
 cases hs : someB bad with
 | true =>
  rw [hs] at hi
  have HI := Lib.hid hi
  clear hi hs
  go_enter Try.func73, Try.ntmps73
  go_wp2_with fail
  refine (HI.out trivial).mono ?_
  rintro e w' ⟨r, rfl, rfl, h1, _⟩
  have hr : 0 ≤ r := h1 trivial
  clear h1
  go_wp2
  exact bodyPost_ret (v := .bool true) (by simp [results, Try.results73, go_sem, hr]) rfl ⟨rfl, rfl⟩
 | false =>
  rw [hs] at hi
  have HI := Lib.hid hi
  clear hi hs
  go_enter Try.func73, Try.ntmps73
  go_wp2_with fail
  refine (HI.out trivial).mono ?_
  rintro e w' ⟨r, rfl, rfl, _, h1⟩
  obtain rfl : r = -1 := h1 trivial
  clear h1
  go_wp2
  exact bodyPost_ret (v := .bool false) (by simp [results, Try.results73, go_sem]) rfl ⟨rfl, rfl⟩
end Go.Proofs.Ytnhpcoagkmgdoaa
/- Layer 10: a line goes back to a state. -/
namespace Go.Proofs.Ytnhpcoagkmgdoaa
open Go.RowKit Go.Q Go.Shelf Go.Maps
set_option maxRecDepth 100000
theorem zero_arr : Try.zeroCells125 = (List.replicate 128 (.bool false)).toArray := by kernel_rfl
section
variable {m mb : Nat} {v0 v1 v2 v3 v4 v5 v6 v7 : Value}
theorem ln_zeros : ∀ (n o : Nat) (W : World) (bad : List Bool), LnB W m mb v0 v1 v2 v3 v4 v5 v6 v7 bad → o + n ≤ 128 → ∃ bad', LnB (W.setCells m (8 + o) (List.replicate n (.bool false))) m mb v0 v1 v2 v3 v4 v5 v6 v7 bad' ∧
  ∀ i, i < 128 → (o ≤ i ∧ i < o + n → bad'[i]?.getD false = false) ∧ (i < o → bad'[i]?.getD false = bad[i]?.getD false)
 | 0, o, W, bad, h, _ => ⟨bad, h, fun i _ => ⟨fun h => by omega, fun _ => rfl⟩⟩
 | n + 1, o, W, bad, h, ho => by
  have h1 := h.setb o (by omega) false
  obtain ⟨bad', h2, h3⟩ := ln_zeros n (o + 1) _ _ h1 (by omega)
  refine ⟨bad', h2, fun i hi => ⟨fun hh => ?_, fun hh => ?_⟩⟩
  ·by_cases e : i = o
   ·subst e
    rw [(h3 i hi).2 (by omega), List.getElem?_set_self (by rw [h.len]; exact hi)]
    rfl
   ·exact (h3 i hi).1 (by omega)
  ·rw [(h3 i hi).2 (by omega), List.getElem?_set_ne (by omega)]
theorem ln_zero {W : World} {bad : List Bool} (h : LnB W m mb v0 v1 v2 v3 v4 v5 v6 v7 bad) : LnB (W.setCells m 8 (List.replicate 128 (.bool false))) m mb v0 v1 v2 v3 v4 v5 v6 v7 zerosB := by
 obtain ⟨bad', h1, h2⟩ := ln_zeros 128 0 W bad h (by omega)
 have e : bad' = zerosB := by
  unfold zerosB
  apply List.ext_getElem?
  intro i
  have hl := h1.len
  by_cases hi : i < 128
  ·have h3 := (h2 i hi).1 ⟨by omega, by omega⟩
   rw [List.getElem?_eq_getElem (by omega)] at h3 ⊢
   rw [List.getElem?_replicate, if_pos hi]
   exact congrArg some h3
  ·rw [List.getElem?_eq_none (by omega), List.getElem?_eq_none (by simp; omega)]
 rw [← e]
 exact h1
theorem kp_zeros : ∀ (vs : List Value) (o : Nat) (W : World), KpM (fun q => q = m) W (W.setCells m o vs)
 | [], _, W => KpM.refl _ W
 | v :: r, o, W => (kpm_set (M := fun q => q = m) W m o v rfl).trans (kp_zeros r (o + 1) _)
end
/-- the state to which Recover goes back -/
def LstAt (m mb : Nat) (X : World) (D : Nat) (t : St) : Prop := ∃ b1 b2 b3 e1 e2 e3, X.heap[D]? = some (.cells #[.slice b1 t.store.length e1, .slice b2 t.tape.length e2, .int .i64 t.taken, .slice b3 t.printed.length e3, .int .i64 t.time, .int .i64 t.at_, .int .i64 t.done, .int .i64 t.why] 33 (0, 0)) ∧
 IntsF (LX m mb (fun q => q = D)) X b1 t.store ∧ IntsF (LX m mb (fun q => q = D)) X b2 t.tape ∧ IntsF (LX m mb (fun q => q = D)) X b3 t.printed
theorem lst_far {m mb D : Nat} {X : World} {t : St} {L : List Loss} {z : Lm} {ex : Nat → Prop} (h : LstAt m mb X D t) (hz : LinAt X m mb L z ex) : ¬ LM m mb D := by
 obtain ⟨_, _, _, _, _, _, hD, _⟩ := h
 obtain ⟨a1, a2, a3, c1, c2, c3, hB, _, _, _, hM⟩ := hz
 obtain ⟨cs, h1, _⟩ := hB.blk
 obtain ⟨f, h2, _⟩ := hM
 obtain ⟨es, kk, h3⟩ := map_block h2
 rintro (rfl | rfl)
 ·rw [h1] at hD; cases hD
 ·rw [h3] at hD; cases hD
theorem LstAt.kp {m mb D : Nat} {X Y : World} {t : St} (h : LstAt m mb X D t) (hn : ¬ LM m mb D) (K : KpM (LM m mb) X Y) : LstAt m mb Y D t := by
 obtain ⟨b1, b2, b3, e1, e2, e3, hD, i1, i2, i3⟩ := h
 exact ⟨b1, b2, b3, e1, e2, e3, (K.block D (lt_of_block hD) hn).trans hD, i1.kp K (fun _ _ h => .inl h), i2.kp K (fun _ _ h => .inl h), i3.kp K (fun _ _ h => .inl h)⟩
/-- back to a state -/
theorem lin_back {Y V : World} {m mb : Nat} {L : List Loss} {z : Lm} {t : St} {b1 b2 b3 : Option Addr} {e1 e2 e3 : Nat} {ex : Nat → Prop} (hz : LinAt Y m mb L z ex) (i1 : IntsF (LX m mb ex) Y b1 t.store) (i2 : IntsF (LX m mb ex) Y b2 t.tape) (i3 : IntsF (LX m mb ex) Y b3 t.printed)
  (hV : V = (S8 Y m (.slice b1 t.store.length e1) (.slice b2 t.tape.length e2) (.int .i64 t.taken) (.slice b3 t.printed.length e3) (.int .i64 t.time) (.int .i64 t.at_) (.int .i64 t.done) (.int .i64 t.why)).setCells m 8 (List.replicate 128 (.bool false))) :
  LinAt V m mb L ⟨t, zerosB, z.gone⟩ ex ∧ KpM (LM m mb) Y V := by
 obtain ⟨a1, a2, a3, c1, c2, c3, hB, _, _, _, hM⟩ := hz
 have h8 := hB.set8 (.slice b1 t.store.length e1) (.slice b2 t.tape.length e2) (.int .i64 t.taken) (.slice b3 t.printed.length e3) (.int .i64 t.time) (.int .i64 t.at_) (.int .i64 t.done) (.int .i64 t.why)
 have K := (s8_kp (M := fun q => q = m) (w := Y) (b := m) (n0 := .slice b1 t.store.length e1) (n1 := .slice b2 t.tape.length e2) (n2 := .int .i64 t.taken) (n3 := .slice b3 t.printed.length e3) (n4 := .int .i64 t.time) (n5 := .int .i64 t.at_) (n6 := .int .i64 t.done) (n7 := .int .i64 t.why) rfl).trans (kp_zeros (m := m) (List.replicate 128 (.bool false)) 8 _)
 have h9 := ln_zero h8
 rw [← hV] at h9 K
 have hfar := lin_far hB hM
 have hne := lin_ne hB hM
 exact ⟨⟨b1, b2, b3, e1, e2, e3, h9, i1.kp K (fun b _ h => .inl (.inl h)), i2.kp K (fun b _ h => .inl (.inl h)), i3.kp K (fun b _ h => .inl (.inl h)), hM.kp K hne (fun b cs fr hb e => hfar.2 b cs fr hb (.inl e))⟩, K.mono fun q h => .inl h⟩
end Go.Proofs.Ytnhpcoagkmgdoaa

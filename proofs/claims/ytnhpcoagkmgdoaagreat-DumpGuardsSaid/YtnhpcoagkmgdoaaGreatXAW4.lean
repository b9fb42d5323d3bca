import Derived.Test.YtnhpcoagkmgdoaaGreatXAW3
set_option linter.unusedVariables false
set_option linter.unusedSimpArgs false
/- Layer 10's law: Awake returns true. -/
namespace Go.Q
open Go.RowKit
theorem rec_same {L : List Loss} {s0 : St} {every most : Int} : ∀ (n m : Nat) (r : Rm) (x y : St × Nat), recIter L s0 every most n r = some x → recIter L s0 every most m r = some y → x = y
 | 0, _, _, _, _, h, _ => by cases h
 | _ + 1, 0, _, _, _, _, h => by cases h
 | n + 1, m + 1, r, x, y, h1, h2 => by
  unfold recIter at h1 h2
  cases e : recNext L s0 every most r with
  | inl r2 => rw [e] at h1 h2; exact rec_same n m r2 x y h1 h2
  | inr z => rw [e] at h1 h2; cases h1; cases h2; rfl
end Go.Q
namespace Go.Proofs.YtnhpcoagkmgdoaaGreat
open Go.RowKit Go.Q Go.Shelf Go.Maps
set_option maxHeartbeats 4000000
set_option maxRecDepth 100000
theorem st0_bd : StBd st0 := ⟨by decide +kernel, by decide +kernel, by decide +kernel⟩
theorem lossA_bd : ∀ y ∈ lossA, -9223372036854775808 ≤ y.after ∧ y.after ≤ 9223372036854775807 := by decide
theorem rows_lt256 : (∀ r ∈ (tapeW [63]).set 4 126, r < 256) ∧ ∀ r ∈ ((tapeW [63]).set 9 65).set 4 125, r < 256 := ⟨by decide +kernel, by decide +kernel⟩
theorem dump_valid : Valid st0 := by
 have h : guardX st0 lossA 100 = 0 := aw_guardX.1
 exact (guard_valid h).1
theorem dump_lt : ∀ r ∈ (dumpE st0).1, r < 256 := by decide +kernel
theorem awk : AwK st0 (tapeW [63]) where
 bd := st0_bd
 len := tape63_len
 lt := tape63_lt
 prog := program_any
 punch := fun a c W hI => by
  have h := lpunch_any a 1 c [63] W rfl (by decide) hI
  rw [punch63] at h
  refine h.mono ?_
  rintro e W' ⟨a', c', rfl, _, hB, hE⟩
  exact ⟨a', c', by rw [tape63_len], hB, hE⟩
 rows := fun W => (rows10_any W).mono fun e W' h => h
 read1 := fun a c W hc hB => by
  have h := lreadN_any a 65 c ((tapeW [63]).set 4 126) W (by rw [List.length_set, tape63_len]) hc hB rows_lt256.1
  rw [aw_read1] at h
  refine h.mono ?_
  rintro e W' ⟨a', c', ma, mc, rfl, _, _, h1, h2, h3, h4⟩
  exact ⟨a', c', ma, mc, _, rfl, h1, h2, h3, h4.1, h4.2⟩
 read2 := fun a c W hc hB => by
  have h := lreadN_any a 65 c (((tapeW [63]).set 9 65).set 4 125) W (by rw [List.length_set, List.length_set, tape63_len]) hc hB rows_lt256.2
  refine h.mono ?_
  rintro e W' ⟨a', c', ma, mc, rfl, _, _, _, _, h3, _⟩
  rw [aw_read2.1, aw_read2.2]
  exact ⟨a', _, c', ma, _, mc, rfl, h3⟩
 guard := fun v la lc W hS hL => by
  have h := guard_any v st0 lossA la 1 lc 100 W hS st0_bd rfl hL lossA_bd
  have hx := aw_guard
  obtain ⟨⟨t, n, e⟩, hp⟩ : ∃ p, guardE st0 lossA 100 = p := ⟨_, rfl⟩
  rw [hp] at h hx
  obtain ⟨rfl, hd, rfl⟩ := hx
  refine h.mono ?_
  rintro e W' ⟨v', rfl, ⟨a1, a2, a3, k1, k2, k3, rfl, _⟩, hE⟩
  dsimp only at hd ⊢
  rw [hd]
  exact ⟨_, _, _, _, _, _, _, _, _, _, _, _, _, rfl, hE⟩
 blind := fun v la lc W hS hL => by
  have h := blind_any v st0 lossA la 1 lc 100 W hS st0_bd rfl hL lossA_bd
  have hx := aw_blind
  obtain ⟨⟨t, e⟩, hp⟩ : ∃ p, blindE st0 lossA 100 = p := ⟨_, rfl⟩
  rw [hp] at h hx
  obtain ⟨rfl, hd⟩ := hx
  refine h.mono ?_
  rintro e W' ⟨v', rfl, ⟨a1, a2, a3, k1, k2, k3, rfl, _, _, h3⟩, hE⟩
  dsimp only at hd h3 ⊢
  rw [hd] at h3 ⊢
  exact ⟨_, _, _, _, _, _, _, _, _, _, _, _, _, rfl, h3, hE⟩
 recover := fun v la lc W hS hL => by
  have h := recover_any v st0 lossA la 1 lc 4 100 W hS st0_bd rfl hL lossA_bd
  refine h.mono ?_
  rintro e W' ⟨p, hr, v', rfl, ⟨a1, a2, a3, k1, k2, k3, rfl, _, _, h3⟩, hE⟩
  rcases hr with ⟨hx, _⟩ | ⟨_, hx, _⟩ | ⟨_, _, x, ⟨n, hn⟩, rfl⟩
  ·exact absurd aw_guardX.1 hx
  ·rw [aw_guardX.2] at hx; cases hx
  ·have hx := aw_rec
   obtain ⟨o, ho⟩ : ∃ o, recIter lossA st0 4 100 200 (beginR st0) = o := ⟨_, rfl⟩
   rw [ho] at hx
   cases o with
   | none => cases hx
   | some y =>
    obtain rfl := rec_same _ _ _ _ _ hn ho
    obtain ⟨t, b⟩ := x
    simp only [Option.map_some, Option.some.injEq, Prod.mk.injEq] at hx
    obtain ⟨hd, rfl⟩ := hx
    dsimp only at hd h3 ⊢
    rw [hd] at h3 ⊢
    exact ⟨_, _, _, _, _, _, _, _, _, _, _, _, _, rfl, h3, hE⟩
 dump := fun v W hS => by
  have h := ldump_any v st0 W hS st0_bd
  have h0 := aw_dump
  have hr := aw_back.1
  have hback : (restartE (dumpE st0).1).1 = st0 := by
   have hb := aw_back.2
   obtain ⟨t, ht⟩ : ∃ t, (restartE (dumpE st0).1).1 = t := ⟨_, rfl⟩
   rw [ht] at hb ⊢
   obtain ⟨s1, s2, s3, s4, s5, s6, s7, s8⟩ := t
   obtain ⟨h1, h2, h3, h4, h5, h6, h7, h8⟩ := hb
   dsimp only at h1 h2 h3 h4 h5 h6 h7 h8
   rw [h1, h2, h3, h4, h5, h6, h7, h8]
  have hlt := dump_lt
  obtain ⟨⟨rs, er⟩, hp⟩ : ∃ p, dumpE st0 = p := ⟨_, rfl⟩
  rw [hp] at h h0 hr hback hlt
  dsimp only at h0 hr hback hlt
  subst h0
  refine h.mono ?_
  rintro e W' ⟨a, c, rfl, hc, hB, hE⟩
  dsimp only at hc hB ⊢
  refine ⟨rs, a, rs.length, c, rfl, rfl, hc, hB, hE, fun W2 h2 => ?_⟩
  have h3 := lrestart_any a rs.length c rs W2 rfl hc h2 hlt
  refine h3.mono ?_
  rintro e W3 ⟨v', rfl, hS', hE'⟩
  rw [hback] at hS'
  rw [hr]
  exact ⟨v', rfl, hS', hE'⟩
 until_ := fun v W hS => by
  have h := until_any v st0 10 100 W hS st0_bd
  have hx := aw_until
  obtain ⟨⟨t, f, e⟩, hp⟩ : ∃ p, untilE st0 10 100 = p := ⟨_, rfl⟩
  rw [hp] at h hx
  obtain ⟨rfl, hd, rfl⟩ := hx
  refine h.mono ?_
  rintro e W' ⟨v', rfl, ⟨a1, a2, a3, k1, k2, k3, rfl, _⟩, hE⟩
  dsimp only at hd ⊢
  rw [hd]
  exact ⟨_, _, _, _, _, _, _, _, _, _, _, _, _, rfl, hE⟩
theorem awake10_any (w : World) : Calls Tryz.prog 11 #[] w fun e w' => e = .returned (.bool true) ∧ Ext w w' := awake10_of awk w
end Go.Proofs.YtnhpcoagkmgdoaaGreat

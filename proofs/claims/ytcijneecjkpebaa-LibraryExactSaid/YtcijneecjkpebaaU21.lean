import Derived.Test.YtcijneecjkpebaaU20
set_option linter.unusedVariables false
set_option linter.unusedSimpArgs false
/- Layer 8: Build, whatever it is given. -/
namespace Go.Proofs.Ytcijneecjkpebaa
open Go.RowKit Go.Q
theorem lb_build (inp : Int) (a : Option Addr) (n c : Nat) (cat : List En) (L : Nat → Lo) (a2 : Option Addr) (k c2 : Nat) (cs : List Cl) (A : Nat → Option Addr) (C : Nat → Nat) (w : World) (H : BIn w a n c cat L a2 k c2 cs A C) :
    Calls Try.prog 26 #[.slice a n c, .int .i64 inp, .slice a2 k c2] w (BldRes (buildE cat inp cs) w) := by
  by_cases h1 : soundE cat = 0
  · cases h2 : inB inp 0 6 with
    | false =>
      have he : buildE cat inp cs = (0, [], 7) := by unfold buildE; rw [if_neg (by simp [h1]), if_pos h2]
      rw [he]
      exact bld_e2 H h1 h2
    | true =>
      by_cases h3 : 5 < cs.length
      · have he : buildE cat inp cs = (0, [], 3) := by unfold buildE; rw [if_neg (by simp [h1]), if_neg (by simp [h2]), if_pos h3]
        rw [he]
        exact bld_e3 H h1 h2 h3
      · by_cases h4 : callsE cat inp cs = 0
        · have hi := inB_bd h2
          obtain ⟨m, rfl⟩ : ∃ m : Nat, inp = (m : Int) := ⟨inp.toNat, by omega⟩
          exact bld_good m H ⟨h1, by omega, by omega, h4⟩
        · have he : buildE cat inp cs = (0, [], callsE cat inp cs) := by unfold buildE; rw [if_neg (by simp [h1]), if_neg (by simp [h2]), if_neg h3, if_pos h4]
          rw [he]
          exact bld_e4 H h1 h2 (by omega) h4
  · have he : buildE cat inp cs = (0, [], soundE cat) := by unfold buildE; rw [if_pos h1]
    rw [he]
    exact bld_e1 H h1
end Go.Proofs.Ytcijneecjkpebaa
/- Layer 8's reference: the routine of a kind (shared part). -/
namespace Go.Proofs.Ytcijneecjkpebaa
open Go.RowKit Go.Q
/-- what Made returns -/
def MadeRes (c : Rt) (w : World) (e : Ending) (w' : World) : Prop :=
  ∃ l : Lo, e = .returned (.agg #[.slice l.a1 c.words.length l.c1, .slice l.a2 c.masks.length l.c2, .int .i64 c.entry, .int .i64 c.exit, .int .i64 c.result, .slice l.a3 c.args.length l.c3]) ∧ RtAt w' c l ∧ Ext w w'
/-- a routine that grows in a box -/
structure Md (W : World) (B b : Nat) (ws ms ar : List Int) (ex re : Int) (v1 v2 v3 : Value) : Prop where
  blk : Blk W b #[v1, v2, .int .i64 0, .int .i64 ex, .int .i64 re, v3] 24
  r1 : W.ownsRow B 3 1 v1 ws.length (iv ws)
  r2 : W.ownsRow B 3 1 v2 ms.length (iv ms)
  r3 : W.ownsRow B 3 1 v3 ar.length (iv ar)
  n1 : v1.ownBlock ≠ some b
  n2 : v2.ownBlock ≠ some b
  n3 : v3.ownBlock ≠ some b
  a12 : Ap2 v1 v2
  a13 : Ap2 v1 v3
  a23 : Ap2 v2 v3
theorem Md.ext {W W' : World} {B b : Nat} {ws ms ar : List Int} {ex re : Int} {v1 v2 v3 : Value} (h : Md W B b ws ms ar ex re v1 v2 v3) (E : Ext W W') : Md W' B b ws ms ar ex re v1 v2 v3 :=
  ⟨h.blk.ex E, own_extX h.r1 E, own_extX h.r2 E, own_extX h.r3 E, h.n1, h.n2, h.n3, h.a12, h.a13, h.a23⟩
section
variable {w w1 WA' WA WB' WB : World} {B b : Nat} {ws ms ar : List Int} {ex re : Int} {v1 v2 v3 vA vB : Value}
theorem Md.app1 {ns : List Int} {m : Nat} (H : Md w1 B b ws ms ar ex re v1 v2 v3) (hm : ns.length = m) (hb : B ≤ b) (E : Ext w w1) (hwB : w.heap.size ≤ B)
    (EA : Ext w1 WA') (hoA : WA.ownsRow B 3 1 vA (ws.length + m) (iv ws ++ iv ns)) (hgA : WA'.grownBy WA v1.ownBlock) (haA : vA.ownBlock = v1.ownBlock ∨ vA.ownBlock = some WA'.heap.size) :
    Md (WA.setCell ⟨b, 0, none⟩ vA) B b (ws ++ ns) ms ar ex re vA v2 v3 ∧ Ext w (WA.setCell ⟨b, 0, none⟩ vA) := by
  have sA := EA.size
  have sA2 := hgA.size
  have hbl := H.blk.lt
  have l2 : ∀ k, v2.ownBlock = some k → k < w1.heap.size := fun k hk => (H.r2.lt k hk).2
  have l3 : ∀ k, v3.ownBlock = some k → k < w1.heap.size := fun k hk => (H.r3.lt k hk).2
  have nA : vA.ownBlock ≠ some b := by
    rcases haA with h | h <;> rw [h]
    · exact H.n1
    · intro e; injection e; omega
  have ap : ∀ u : Value, (∀ k, u.ownBlock = some k → k < w1.heap.size) → Ap2 v1 u → Ap2 vA u := fun u hu h => by
    unfold Ap2 at *
    rcases haA with e | e <;> rw [e]
    · exact h
    · refine .inr fun q => ?_
      have := hu _ q.symm
      omega
  have b0 : Blk WA b #[v1, v2, .int .i64 0, .int .i64 ex, .int .i64 re, v3] 24 := (hgA.block b (by omega) (fun e => H.n1 e.symm)).trans (H.blk.ex EA)
  have r2 := own_grown (own_extX H.r2 EA) hgA H.a12.symm
  have r3 := own_grown (own_extX H.r3 EA) hgA H.a13.symm
  refine ⟨⟨by simpa using b0.st 0 vA, ?_, own_set (p := ⟨b, 0, none⟩) r2 H.n2 _, own_set (p := ⟨b, 0, none⟩) r3 H.n3 _, nA, H.n2, H.n3, ap v2 l2 H.a12, ap v3 l3 H.a13, H.a23⟩, ?_⟩
  · rw [List.length_append, hm, ← iv_app]
    exact own_set (p := ⟨b, 0, none⟩) hoA nA _
  · exact ext_put (own_kp (E.comp EA) hgA fun k hk => by have := (H.r1.lt k hk).1; omega) _ (by dsimp only; omega)
theorem Md.app2 {ns : List Int} {m : Nat} (H : Md w1 B b ws ms ar ex re v1 v2 v3) (hm : ns.length = m) (hb : B ≤ b) (E : Ext w w1) (hwB : w.heap.size ≤ B)
    (EA : Ext w1 WA') (hoA : WA.ownsRow B 3 1 vA (ms.length + m) (iv ms ++ iv ns)) (hgA : WA'.grownBy WA v2.ownBlock) (haA : vA.ownBlock = v2.ownBlock ∨ vA.ownBlock = some WA'.heap.size) :
    Md (WA.setCell ⟨b, 1, none⟩ vA) B b ws (ms ++ ns) ar ex re v1 vA v3 ∧ Ext w (WA.setCell ⟨b, 1, none⟩ vA) := by
  have sA := EA.size
  have sA2 := hgA.size
  have hbl := H.blk.lt
  have l1 : ∀ k, v1.ownBlock = some k → k < w1.heap.size := fun k hk => (H.r1.lt k hk).2
  have l3 : ∀ k, v3.ownBlock = some k → k < w1.heap.size := fun k hk => (H.r3.lt k hk).2
  have nA : vA.ownBlock ≠ some b := by
    rcases haA with h | h <;> rw [h]
    · exact H.n2
    · intro e; injection e; omega
  have ap : ∀ u : Value, (∀ k, u.ownBlock = some k → k < w1.heap.size) → Ap2 v2 u → Ap2 vA u := fun u hu h => by
    unfold Ap2 at *
    rcases haA with e | e <;> rw [e]
    · exact h
    · refine .inr fun q => ?_
      have := hu _ q.symm
      omega
  have b0 : Blk WA b #[v1, v2, .int .i64 0, .int .i64 ex, .int .i64 re, v3] 24 := (hgA.block b (by omega) (fun e => H.n2 e.symm)).trans (H.blk.ex EA)
  have r1 := own_grown (own_extX H.r1 EA) hgA H.a12
  have r3 := own_grown (own_extX H.r3 EA) hgA H.a23.symm
  refine ⟨⟨by simpa using b0.st 1 vA, own_set (p := ⟨b, 1, none⟩) r1 H.n1 _, ?_, own_set (p := ⟨b, 1, none⟩) r3 H.n3 _, H.n1, nA, H.n3, (ap v1 l1 H.a12.symm).symm, H.a13, ap v3 l3 H.a23⟩, ?_⟩
  · rw [List.length_append, hm, ← iv_app]
    exact own_set (p := ⟨b, 1, none⟩) hoA nA _
  · exact ext_put (own_kp (E.comp EA) hgA fun k hk => by have := (H.r2.lt k hk).1; omega) _ (by dsimp only; omega)
/-- both rows by one word -/
theorem Md.fin {z mk : Int} (H : Md w1 B b ws ms ar ex re v1 v2 v3) (hb : B ≤ b) (E0 : Ext w w1) (hwB : w.heap.size ≤ B)
    (EA : Ext w1 WA') (hoA : WA.ownsRow B 3 1 vA (ws.length + 1) (iv ws ++ iv [z])) (hgA : WA'.grownBy WA v1.ownBlock) (haA : vA.ownBlock = v1.ownBlock ∨ vA.ownBlock = some WA'.heap.size)
    (EB : Ext WA WB') (hoB : WB.ownsRow B 3 1 vB (ms.length + 1) (iv ms ++ iv [mk])) (hgB : WB'.grownBy WB v2.ownBlock) (haB : vB.ownBlock = v2.ownBlock ∨ vB.ownBlock = some WB'.heap.size) :
    Md ((WB.setCell ⟨b, 0, none⟩ vA).setCell ⟨b, 1, none⟩ vB) B b (ws ++ [z]) (ms ++ [mk]) ar ex re vA vB v3 ∧ Ext w ((WB.setCell ⟨b, 0, none⟩ vA).setCell ⟨b, 1, none⟩ vB) := by
  have s0 := E0.size
  have sA := EA.size
  have sA2 := hgA.size
  have sB := EB.size
  have hbl := H.blk.lt
  have l2 : ∀ k, v2.ownBlock = some k → k < w1.heap.size := fun k hk => (H.r2.lt k hk).2
  have l3 : ∀ k, v3.ownBlock = some k → k < w1.heap.size := fun k hk => (H.r3.lt k hk).2
  have nA : vA.ownBlock ≠ some b := by
    rcases haA with h | h <;> rw [h]
    · exact H.n1
    · intro e; injection e; omega
  have nB : vB.ownBlock ≠ some b := by
    rcases haB with h | h <;> rw [h]
    · exact H.n2
    · intro e; injection e; omega
  have nA2 : vA.ownBlock = none ∨ vA.ownBlock ≠ v2.ownBlock := by
    rcases haA with h | h <;> rw [h]
    · exact H.a12
    · refine .inr fun e => ?_
      have := l2 _ e.symm
      omega
  have ap3 : ∀ u : Value, (∀ k, u.ownBlock = some k → k < w1.heap.size) → Ap2 v1 u → Ap2 vA u := fun u hu h => by
    unfold Ap2 at *
    rcases haA with e | e <;> rw [e]
    · exact h
    · refine .inr fun q => ?_
      have := hu _ q.symm
      omega
  have ap4 : ∀ u : Value, (∀ k, u.ownBlock = some k → k < WB'.heap.size) → Ap2 v2 u → Ap2 vB u := fun u hu h => by
    unfold Ap2 at *
    rcases haB with e | e <;> rw [e]
    · exact h
    · refine .inr fun q => ?_
      have := hu _ q.symm
      omega
  have lA : ∀ k, vA.ownBlock = some k → k < WB'.heap.size := fun k hk => by have := (hoA.lt k hk).2; omega
  have b0 : Blk WA b #[v1, v2, .int .i64 0, .int .i64 ex, .int .i64 re, v3] 24 := (hgA.block b (by omega) (fun e => H.n1 e.symm)).trans (H.blk.ex EA)
  have b1 : Blk WB b #[v1, v2, .int .i64 0, .int .i64 ex, .int .i64 re, v3] 24 := (hgB.block b (by omega) (fun e => H.n2 e.symm)).trans (b0.ex EB)
  have b2 := (b1.st 0 vA).st 1 vB
  have rA := own_grown (own_extX hoA EB) hgB nA2
  have r3 := own_grown (own_extX (own_grown (own_extX H.r3 EA) hgA H.a13.symm) EB) hgB H.a23.symm
  refine ⟨⟨by simpa using b2, ?_, ?_, ?_, nA, nB, H.n3, ?_, ap3 v3 l3 H.a13, ap4 v3 (fun k hk => by have := l3 k hk; omega) H.a23⟩, ?_⟩
  · rw [List.length_append, ← iv_app]
    exact own_set (p := ⟨b, 1, none⟩) (own_set (p := ⟨b, 0, none⟩) rA nA vA) nA vB
  · rw [List.length_append, ← iv_app]
    exact own_set (p := ⟨b, 1, none⟩) (own_set (p := ⟨b, 0, none⟩) hoB nB vA) nB vB
  · exact own_set (p := ⟨b, 1, none⟩) (own_set (p := ⟨b, 0, none⟩) r3 H.n3 vA) H.n3 vB
  · exact (ap4 vA lA (Ap2.symm (show Ap2 vA v2 from nA2))).symm
  · exact ext_put (ext_put (own_kp ((own_kp (E0.comp EA) hgA fun k hk => by have := (H.r1.lt k hk).1; omega).comp EB) hgB fun k hk => by have := (H.r2.lt k hk).1; omega) _ (by dsimp only; omega)) _ (by dsimp only; omega)
theorem Md.keepA (H : Md w1 B b ws ms ar ex re v1 v2 v3) (E : Ext w1 WA') (hg : WA'.grownBy WA v1.ownBlock) :
    w1.heap.size ≤ WA.heap.size ∧ (∀ W, Ext WA W → W.ownsRow B 3 1 v2 ms.length (iv ms)) ∧ Blk WA b #[v1, v2, .int .i64 0, .int .i64 ex, .int .i64 re, v3] 24 :=
  ⟨Nat.le_trans E.size hg.size, fun _ E2 => own_extX (own_grown (own_extX H.r2 E) hg H.a12.symm) E2, (hg.block b (Nat.lt_of_lt_of_le H.blk.lt E.size) (fun e => H.n1 e.symm)).trans (H.blk.ex E)⟩
theorem Md.keepB (H : Md w1 B b ws ms ar ex re v1 v2 v3) (hb : Blk WA b #[v1, v2, .int .i64 0, .int .i64 ex, .int .i64 re, v3] 24) (E : Ext WA WB') (hg : WB'.grownBy WB v2.ownBlock) :
    WB.cell? ⟨b, 0, none⟩ = some v1 ∧ WB.cell? ⟨b, 1, none⟩ = some v2 ∧ WB.frozen? ⟨b, 0, none⟩ = false ∧ WB.frozen? ⟨b, 1, none⟩ = false := by
  have h : Blk WB b #[v1, v2, .int .i64 0, .int .i64 ex, .int .i64 re, v3] 24 := (hg.block b (Nat.lt_of_lt_of_le hb.lt E.size) (fun e => H.n2 e.symm)).trans (hb.ex E)
  exact ⟨h.c 0 rfl, h.c 1 rfl, h.f 0, h.f 1⟩
end
end Go.Proofs.Ytcijneecjkpebaa

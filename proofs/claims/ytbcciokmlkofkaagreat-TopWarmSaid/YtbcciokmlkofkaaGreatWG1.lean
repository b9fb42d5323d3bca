import Derived.Test.YtbcciokmlkofkaaGreatWC2
import Derived.Test.YtbcciokmlkofkaaGreatWSpec4g
set_option linter.unusedVariables false
set_option linter.unusedSimpArgs false
/- Contracts: the reference's Ints and States at equal lists and states; asked; Product. -/
namespace Go.Proofs.YtbcciokmlkofkaaGreat
open Go.RowKit Go.Q
theorem ints_same (a b : Option Addr) (n c d : Nat) (xs : List Int) (w : World) (hn : xs.length = n) (b1 : n ≤ 9223372036854775807) (hI : IntsAt w a xs) (hJ : IntsAt w b xs) :
    Calls Tryz.prog 37 #[.slice a n c, .slice b n d] w fun e w' => e = .returned (.bool true) ∧ Ext w w' :=
  (ints_any a b n n c d xs xs w hn hn b1 b1 hI hJ).mono fun e w' ⟨h1, h2⟩ => ⟨by simpa using h1, h2⟩
set_option maxRecDepth 100000 in
set_option maxHeartbeats 4000000 in
theorem states_same (va vb : Value) (s : St) (w : World) (ha : StAt w va s) (hb : StAt w vb s) (hB : StBd s) :
    Calls Tryz.prog 11 #[va, vb] w fun e w' => e = .returned (.bool true) ∧ Ext w w' := by
  obtain ⟨a1, a2, a3, k1, k2, k3, rfl, i1, i2, i3⟩ := ha
  obtain ⟨b1, b2, b3, l1, l2, l3, rfl, j1, j2, j3⟩ := hb
  have h1 := fun W (E : Ext w W) => ints_same a1 b1 s.store.length k1 l1 s.store W rfl hB.1 (i1.ext E) (j1.ext E)
  have h2 := fun W (E : Ext w W) => ints_same a2 b2 s.tape.length k2 l2 s.tape W rfl hB.2.1 (i2.ext E) (j2.ext E)
  have h3 := fun W (E : Ext w W) => ints_same a3 b3 s.printed.length k3 l3 s.printed W rfl hB.2.2 (i3.ext E) (j3.ext E)
  go_enter Tryz.func11, Tryz.ntmps11
  go_wp2_with fail
  refine (h1 _ (((Ext.refl w).alloc _).alloc _)).mono ?_
  rintro e w1 ⟨rfl, E1⟩
  have q0 := box_at (v := .slice a1 s.store.length k1) E1.old 0 rfl
  have q1 := box_at (v := .slice a2 s.tape.length k2) E1.old 1 rfl
  have q2 := box_at (v := .int .i64 s.taken) E1.old 2 rfl
  have q3 := box_at (v := .slice a3 s.printed.length k3) E1.old 3 rfl
  have q4 := box_at (v := .int .i64 s.time) E1.old 4 rfl
  have q5 := box_at (v := .int .i64 s.at_) E1.old 5 rfl
  have q6 := box_at (v := .int .i64 s.done) E1.old 6 rfl
  have q7 := box_at (v := .int .i64 s.why) E1.old 7 rfl
  have r0 := box_at2 (v := .slice b1 s.store.length l1) E1 0 rfl
  have r1 := box_at2 (v := .slice b2 s.tape.length l2) E1 1 rfl
  have r2 := box_at2 (v := .int .i64 s.taken) E1 2 rfl
  have r3 := box_at2 (v := .slice b3 s.printed.length l3) E1 3 rfl
  have r4 := box_at2 (v := .int .i64 s.time) E1 4 rfl
  have r5 := box_at2 (v := .int .i64 s.at_) E1 5 rfl
  have r6 := box_at2 (v := .int .i64 s.done) E1 6 rfl
  have r7 := box_at2 (v := .int .i64 s.why) E1 7 rfl
  go_wp2_with fail
  refine (h2 _ E1.old.old).mono ?_
  rintro e w2 ⟨rfl, F2⟩
  have E2 := Ext.comp E1 F2
  clear q0 q1 q2 q3 q4 q5 q6 q7
  clear r0 r1 r2 r3 r4 r5 r6 r7
  have q0 := box_at (v := .slice a1 s.store.length k1) E2.old 0 rfl
  have q1 := box_at (v := .slice a2 s.tape.length k2) E2.old 1 rfl
  have q2 := box_at (v := .int .i64 s.taken) E2.old 2 rfl
  have q3 := box_at (v := .slice a3 s.printed.length k3) E2.old 3 rfl
  have q4 := box_at (v := .int .i64 s.time) E2.old 4 rfl
  have q5 := box_at (v := .int .i64 s.at_) E2.old 5 rfl
  have q6 := box_at (v := .int .i64 s.done) E2.old 6 rfl
  have q7 := box_at (v := .int .i64 s.why) E2.old 7 rfl
  have r0 := box_at2 (v := .slice b1 s.store.length l1) E2 0 rfl
  have r1 := box_at2 (v := .slice b2 s.tape.length l2) E2 1 rfl
  have r2 := box_at2 (v := .int .i64 s.taken) E2 2 rfl
  have r3 := box_at2 (v := .slice b3 s.printed.length l3) E2 3 rfl
  have r4 := box_at2 (v := .int .i64 s.time) E2 4 rfl
  have r5 := box_at2 (v := .int .i64 s.at_) E2 5 rfl
  have r6 := box_at2 (v := .int .i64 s.done) E2 6 rfl
  have r7 := box_at2 (v := .int .i64 s.why) E2 7 rfl
  go_wp2_with fail
  refine (h3 _ E2.old.old).mono ?_
  rintro e w3 ⟨rfl, F3⟩
  have E3 := Ext.comp E2 F3
  clear q0 q1 q2 q3 q4 q5 q6 q7
  clear r0 r1 r2 r3 r4 r5 r6 r7
  have q0 := box_at (v := .slice a1 s.store.length k1) E3.old 0 rfl
  have q1 := box_at (v := .slice a2 s.tape.length k2) E3.old 1 rfl
  have q2 := box_at (v := .int .i64 s.taken) E3.old 2 rfl
  have q3 := box_at (v := .slice a3 s.printed.length k3) E3.old 3 rfl
  have q4 := box_at (v := .int .i64 s.time) E3.old 4 rfl
  have q5 := box_at (v := .int .i64 s.at_) E3.old 5 rfl
  have q6 := box_at (v := .int .i64 s.done) E3.old 6 rfl
  have q7 := box_at (v := .int .i64 s.why) E3.old 7 rfl
  have r0 := box_at2 (v := .slice b1 s.store.length l1) E3 0 rfl
  have r1 := box_at2 (v := .slice b2 s.tape.length l2) E3 1 rfl
  have r2 := box_at2 (v := .int .i64 s.taken) E3 2 rfl
  have r3 := box_at2 (v := .slice b3 s.printed.length l3) E3 3 rfl
  have r4 := box_at2 (v := .int .i64 s.time) E3 4 rfl
  have r5 := box_at2 (v := .int .i64 s.at_) E3 5 rfl
  have r6 := box_at2 (v := .int .i64 s.done) E3 6 rfl
  have r7 := box_at2 (v := .int .i64 s.why) E3 7 rfl
  go_wp2_with fail
  go_ret
  exact ⟨rfl, E3.old.old⟩
end Go.Proofs.YtbcciokmlkofkaaGreat

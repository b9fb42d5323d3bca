/- Contract: PulseCut returns true. -/
import Derived.Test.YtjfggepgjpdebaaML0
import Derived.Test.YtjfggepgjpdebaaQ23
import Derived.BigFrame
import Derived.Outline
set_option linter.unusedVariables false
set_option linter.unusedSimpArgs false
namespace Go.Proofs.Ytjfggepgjpdebaa
open Go.RowKit Go.Q

def PuZ2 (er : Int) (w : World) (e : Ending) (w' : World) : Prop := ∃ u1 u2 u3 p1 p2 p3, e = .returned (.tuple #[.agg #[.slice u1 0 p1, .slice u2 0 p2, .int .i64 0, .slice u3 0 p3, .int .i64 0, .int .i64 0, .int .i64 0, .int .i64 0, .int .i64 0, .int .i64 0, .int .i64 0, .int .i64 0, .int .i64 0, .int .i64 0], .int .i64 er]) ∧ Ext w w'
theorem PuZ2.of {er : Int} {w w' : World} {e : Ending} (h : PuRes (zpu, er) w e w') : PuZ2 er w e w' := by
  obtain ⟨v, rfl, ⟨a1, a2, a3, c1, c2, c3, rfl, _⟩, hE⟩ := h
  exact ⟨a1, a2, a3, c1, c2, c3, rfl, hE⟩
/-- a state was returned; its cells are left open -/
def PuV (s : Pu) (w : World) (e : Ending) (w' : World) : Prop := ∃ y0a y0n y0c y1a y1n y1c y2 y3a y3n y3c y4 y5 y6 y7 y8 y9 y10 y11 y12 y13, e = .returned (.tuple #[.agg #[.slice y0a y0n y0c, .slice y1a y1n y1c, .int .i64 y2, .slice y3a y3n y3c, .int .i64 y4, .int .i64 y5, .int .i64 y6, .int .i64 y7, .int .i64 y8, .int .i64 y9, .int .i64 y10, .int .i64 y11, .int .i64 y12, .int .i64 y13], .int .i64 0]) ∧ PuAt w' (.agg #[.slice y0a y0n y0c, .slice y1a y1n y1c, .int .i64 y2, .slice y3a y3n y3c, .int .i64 y4, .int .i64 y5, .int .i64 y6, .int .i64 y7, .int .i64 y8, .int .i64 y9, .int .i64 y10, .int .i64 y11, .int .i64 y12, .int .i64 y13]) s ∧ Ext w w'
theorem PuV.of {s : Pu} {w w' : World} {e : Ending} (h : PuRes (s, 0) w e w') : PuV s w e w' := by
  obtain ⟨v, rfl, ⟨a1, a2, a3, c1, c2, c3, rfl, i⟩, hE⟩ := h
  exact ⟨_, _, _, _, _, _, _, _, _, _, _, _, _, _, _, _, _, _, _, _, rfl, ⟨a1, a2, a3, c1, c2, c3, rfl, i⟩, hE⟩
def PbV (b : PuB) (w : World) (e : Ending) (w' : World) : Prop := ∃ y0a y0n y0c y1a y1n y1c y2a y2n y2c y3 y4a y4n y4c y5 y6 y7 y8 y9 y10 y11 y12 y13 y14 y15 y16 y17, e = .returned (.tuple #[.agg #[.slice y0a y0n y0c, .slice y1a y1n y1c, .slice y2a y2n y2c, .int .i64 y3, .slice y4a y4n y4c, .int .i64 y5, .int .i64 y6, .int .i64 y7, .int .i64 y8, .int .i64 y9, .int .i64 y10, .int .i64 y11, .int .i64 y12, .int .i64 y13, .int .i64 y14, .int .i64 y15, .int .i64 y16, .int .i64 y17], .int .i64 0]) ∧ PbAt w' (.agg #[.slice y0a y0n y0c, .slice y1a y1n y1c, .slice y2a y2n y2c, .int .i64 y3, .slice y4a y4n y4c, .int .i64 y5, .int .i64 y6, .int .i64 y7, .int .i64 y8, .int .i64 y9, .int .i64 y10, .int .i64 y11, .int .i64 y12, .int .i64 y13, .int .i64 y14, .int .i64 y15, .int .i64 y16, .int .i64 y17]) b ∧ Ext w w'
theorem PbV.of {b : PuB} {w w' : World} {e : Ending} (h : PbRes (b, 0) w e w') : PbV b w e w' := by
  obtain ⟨v, rfl, ⟨aL, a1, a2, a3, cL, c1, c2, c3, rfl, i⟩, hE⟩ := h
  exact ⟨_, _, _, _, _, _, _, _, _, _, _, _, _, _, _, _, _, _, _, _, _, _, _, _, _, _, rfl, ⟨aL, a1, a2, a3, cL, c1, c2, c3, rfl, i⟩, hE⟩
set_option maxRecDepth 100000 in
set_option maxHeartbeats 8000000 in
theorem cut_bad (a1 a2 a3 : Option Addr) (n1 c1 n2 c2 n3 c3 : Nat) (s : Pu) (x0 x1 x2 x3 er : Int) (w : World) (h0 : 0 ≤ x0 ∧ x0 ≤ 255) (her : (er != 0) = true)
    (h1 : ∀ W, Ext w W → Calls Try.prog 25 #[psv a1 a2 a3 n1 c1 n2 c2 n3 c3 s, .int .i64 x0] W (PuZ2 er W)) :
    Calls Try.prog 10 #[psv a1 a2 a3 n1 c1 n2 c2 n3 c3 s, .agg #[.int .u8 x0, .int .u8 x1, .int .u8 x2, .int .u8 x3]] w fun e w' => e = .returned (.bool true) ∧ Ext w w' := by
  go_enter Try.func10, Try.ntmps10
  go_wp2_with fail
  refine (h1 _ (((Ext.refl w).alloc _).alloc _)).mono ?_
  rintro e w1 ⟨u1, u2, u3, p1, p2, p3, rfl, E1⟩
  have Y0_1 : Ext w w1 := E1.old.old
  have Bs_1 := Blk.of E1.old
  have Bx_1 := Blk.of E1
  rw [World.size_alloc] at Bx_1
  clear E1
  go_wp2_with (go_at_call 30; refine (awake5_any _).mono ?_; rintro e w2 ⟨rfl, E2⟩)
  have Y1_2 : Ext w1 w2 := E2.old
  have Y0_2 : Ext w w2 := Y0_1.comp Y1_2
  have Bs_2 := Blk.ex (Blk.al Bs_1 (.cells #[.slice u1 0 p1, .slice u2 0 p2, .int .i64 0, .slice u3 0 p3, .int .i64 0, .int .i64 0, .int .i64 0, .int .i64 0, .int .i64 0, .int .i64 0, .int .i64 0, .int .i64 0, .int .i64 0, .int .i64 0] 41)) E2
  have Bx_2 := Blk.ex (Blk.al Bx_1 (.cells #[.slice u1 0 p1, .slice u2 0 p2, .int .i64 0, .slice u3 0 p3, .int .i64 0, .int .i64 0, .int .i64 0, .int .i64 0, .int .i64 0, .int .i64 0, .int .i64 0, .int .i64 0, .int .i64 0, .int .i64 0] 41)) E2
  have Ba_2 := Blk.of E2
  clear Bs_1 Bx_1 Y0_1
  clear E2
  go_ret
  exact ⟨rfl, Y0_2⟩
set_option maxRecDepth 100000 in
set_option maxHeartbeats 8000000 in
theorem cut_good (a1 a2 a3 : Option Addr) (n1 c1 n2 c2 n3 c3 : Nat) (s A B : Pu) (b P Q : PuB) (x0 x1 x2 x3 : Int) (w : World) (h0 : 0 ≤ x0 ∧ x0 ≤ 255) (h1 : 0 ≤ x1 ∧ x1 ≤ 255) (h2 : 0 ≤ x2 ∧ x2 ≤ 255) (h3 : 0 ≤ x3 ∧ x3 ≤ 255)
    (g1 : ∀ W, Ext w W → Calls Try.prog 25 #[psv a1 a2 a3 n1 c1 n2 c2 n3 c3 s, .int .i64 x0] W (PuV A W))
    (g2 : ∀ W v, PuAt W v A → Calls Try.prog 25 #[v, .int .i64 x1] W (PuV B W))
    (g3 : ∀ W, Ext w W → Calls Try.prog 25 #[psv a1 a2 a3 n1 c1 n2 c2 n3 c3 s, .int .i64 (x0 + x1)] W (PuV B W))
    (g4 : ∀ W, Ext w W → Calls Try.prog 31 #[psv a1 a2 a3 n1 c1 n2 c2 n3 c3 s] W (PbV b W))
    (g5 : ∀ W v, PbAt W v b → Calls Try.prog 36 #[v, .int .i64 x2] W (PbV P W))
    (g6 : ∀ W v, PbAt W v P → Calls Try.prog 36 #[v, .int .i64 x3] W (PbV Q W))
    (g7 : ∀ W v, PbAt W v b → Calls Try.prog 36 #[v, .int .i64 (x2 + x3)] W (PbV Q W))
    (hps : ∀ W va vb, PuAt W va B → PuAt W vb B → Calls Try.prog 27 #[va, vb] W fun e w2 => e = .returned (.bool true) ∧ Ext W w2)
    (hpq : ∀ W va vb, PbAt W va Q → PbAt W vb Q → Calls Try.prog 33 #[va, vb] W fun e w2 => e = .returned (.bool true) ∧ Ext W w2) :
    Calls Try.prog 10 #[psv a1 a2 a3 n1 c1 n2 c2 n3 c3 s, .agg #[.int .u8 x0, .int .u8 x1, .int .u8 x2, .int .u8 x3]] w fun e w' => e = .returned (.bool true) ∧ Ext w w' := by
  go_enter Try.func10, Try.ntmps10
  go_wp2_with fail
  refine (g1 _ (((Ext.refl w).alloc _).alloc _)).mono ?_
  rintro e w1 ⟨i0a, i0n, i0c, i1a, i1n, i1c, i2, i3a, i3n, i3c, i4, i5, i6, i7, i8, i9, i10, i11, i12, i13, rfl, Ai, E1⟩
  have Y0_1 : Ext w w1 := E1.old.old
  have Bs_1 := Blk.of E1.old
  have Bx_1 := Blk.of E1
  rw [World.size_alloc] at Bx_1
  have q1x1 := fun ob => Blk.c (Blk.al Bx_1 ob) 1 (v := .int .u8 x1) rfl
  clear E1
  as_aux_lemma =>
  go_wp2_with fail
  refine (g2 _ _ (Ai.ext ((Ext.refl w1).alloc _))).mono ?_
  rintro e w2 ⟨j0a, j0n, j0c, j1a, j1n, j1c, j2, j3a, j3n, j3c, j4, j5, j6, j7, j8, j9, j10, j11, j12, j13, rfl, Aj, E2⟩
  clear q1x1
  have Y1_2 : Ext w1 w2 := E2.old
  have Y0_2 : Ext w w2 := Y0_1.comp Y1_2
  have Bs_2 := Blk.ex (Blk.al Bs_1 (.cells #[.slice i0a i0n i0c, .slice i1a i1n i1c, .int .i64 i2, .slice i3a i3n i3c, .int .i64 i4, .int .i64 i5, .int .i64 i6, .int .i64 i7, .int .i64 i8, .int .i64 i9, .int .i64 i10, .int .i64 i11, .int .i64 i12, .int .i64 i13] 41)) E2
  have Bx_2 := Blk.ex (Blk.al Bx_1 (.cells #[.slice i0a i0n i0c, .slice i1a i1n i1c, .int .i64 i2, .slice i3a i3n i3c, .int .i64 i4, .int .i64 i5, .int .i64 i6, .int .i64 i7, .int .i64 i8, .int .i64 i9, .int .i64 i10, .int .i64 i11, .int .i64 i12, .int .i64 i13] 41)) E2
  have Ba_2 := Blk.of E2
  clear Bs_1 Bx_1 Y0_1
  have q2s0 := fun ob => Blk.c (Blk.al Bs_2 ob) 0 (v := .slice a1 n1 c1) rfl
  have q2s1 := fun ob => Blk.c (Blk.al Bs_2 ob) 1 (v := .slice a2 n2 c2) rfl
  have q2s2 := fun ob => Blk.c (Blk.al Bs_2 ob) 2 (v := .int .i64 s.taken) rfl
  have q2s3 := fun ob => Blk.c (Blk.al Bs_2 ob) 3 (v := .slice a3 n3 c3) rfl
  have q2s4 := fun ob => Blk.c (Blk.al Bs_2 ob) 4 (v := .int .i64 s.clock) rfl
  have q2s5 := fun ob => Blk.c (Blk.al Bs_2 ob) 5 (v := .int .i64 s.at_) rfl
  have q2s6 := fun ob => Blk.c (Blk.al Bs_2 ob) 6 (v := .int .i64 s.phase) rfl
  have q2s7 := fun ob => Blk.c (Blk.al Bs_2 ob) 7 (v := .int .i64 s.order) rfl
  have q2s8 := fun ob => Blk.c (Blk.al Bs_2 ob) 8 (v := .int .i64 s.operand) rfl
  have q2s9 := fun ob => Blk.c (Blk.al Bs_2 ob) 9 (v := .int .i64 s.other) rfl
  have q2s10 := fun ob => Blk.c (Blk.al Bs_2 ob) 10 (v := .int .i64 s.product) rfl
  have q2s11 := fun ob => Blk.c (Blk.al Bs_2 ob) 11 (v := .int .i64 s.count) rfl
  have q2s12 := fun ob => Blk.c (Blk.al Bs_2 ob) 12 (v := .int .i64 s.done) rfl
  have q2s13 := fun ob => Blk.c (Blk.al Bs_2 ob) 13 (v := .int .i64 s.why) rfl
  have q2x0 := fun ob => Blk.c (Blk.al Bx_2 ob) 0 (v := .int .u8 x0) rfl
  have q2x1 := fun ob => Blk.c (Blk.al Bx_2 ob) 1 (v := .int .u8 x1) rfl
  clear E2
  as_aux_lemma =>
  go_wp2_with fail
  refine (g3 _ (Y0_2.alloc _)).mono ?_
  rintro e w3 ⟨l0a, l0n, l0c, l1a, l1n, l1c, l2, l3a, l3n, l3c, l4, l5, l6, l7, l8, l9, l10, l11, l12, l13, rfl, Al, E3⟩
  clear q2s0 q2s1 q2s2 q2s3 q2s4 q2s5 q2s6 q2s7 q2s8 q2s9 q2s10 q2s11 q2s12 q2s13 q2x0 q2x1
  have Y2_3 : Ext w2 w3 := E3.old
  have Y0_3 : Ext w w3 := Y0_2.comp Y2_3
  have Y1_3 : Ext w1 w3 := Y1_2.comp Y2_3
  have Bs_3 := Blk.ex (Blk.al Bs_2 (.cells #[.slice j0a j0n j0c, .slice j1a j1n j1c, .int .i64 j2, .slice j3a j3n j3c, .int .i64 j4, .int .i64 j5, .int .i64 j6, .int .i64 j7, .int .i64 j8, .int .i64 j9, .int .i64 j10, .int .i64 j11, .int .i64 j12, .int .i64 j13] 41)) E3
  have Bx_3 := Blk.ex (Blk.al Bx_2 (.cells #[.slice j0a j0n j0c, .slice j1a j1n j1c, .int .i64 j2, .slice j3a j3n j3c, .int .i64 j4, .int .i64 j5, .int .i64 j6, .int .i64 j7, .int .i64 j8, .int .i64 j9, .int .i64 j10, .int .i64 j11, .int .i64 j12, .int .i64 j13] 41)) E3
  have Ba_3 := Blk.ex (Blk.al Ba_2 (.cells #[.slice j0a j0n j0c, .slice j1a j1n j1c, .int .i64 j2, .slice j3a j3n j3c, .int .i64 j4, .int .i64 j5, .int .i64 j6, .int .i64 j7, .int .i64 j8, .int .i64 j9, .int .i64 j10, .int .i64 j11, .int .i64 j12, .int .i64 j13] 41)) E3
  have Bb_3 := Blk.of E3
  clear Bs_2 Bx_2 Ba_2 Y0_2 Y1_2
  have q3b0 := fun ob => Blk.c (Blk.al Bb_3 ob) 0 (v := .slice j0a j0n j0c) rfl
  have q3b1 := fun ob => Blk.c (Blk.al Bb_3 ob) 1 (v := .slice j1a j1n j1c) rfl
  have q3b2 := fun ob => Blk.c (Blk.al Bb_3 ob) 2 (v := .int .i64 j2) rfl
  have q3b3 := fun ob => Blk.c (Blk.al Bb_3 ob) 3 (v := .slice j3a j3n j3c) rfl
  have q3b4 := fun ob => Blk.c (Blk.al Bb_3 ob) 4 (v := .int .i64 j4) rfl
  have q3b5 := fun ob => Blk.c (Blk.al Bb_3 ob) 5 (v := .int .i64 j5) rfl
  have q3b6 := fun ob => Blk.c (Blk.al Bb_3 ob) 6 (v := .int .i64 j6) rfl
  have q3b7 := fun ob => Blk.c (Blk.al Bb_3 ob) 7 (v := .int .i64 j7) rfl
  have q3b8 := fun ob => Blk.c (Blk.al Bb_3 ob) 8 (v := .int .i64 j8) rfl
  have q3b9 := fun ob => Blk.c (Blk.al Bb_3 ob) 9 (v := .int .i64 j9) rfl
  have q3b10 := fun ob => Blk.c (Blk.al Bb_3 ob) 10 (v := .int .i64 j10) rfl
  have q3b11 := fun ob => Blk.c (Blk.al Bb_3 ob) 11 (v := .int .i64 j11) rfl
  have q3b12 := fun ob => Blk.c (Blk.al Bb_3 ob) 12 (v := .int .i64 j12) rfl
  have q3b13 := fun ob => Blk.c (Blk.al Bb_3 ob) 13 (v := .int .i64 j13) rfl
  clear E3
  as_aux_lemma =>
  go_wp2_with fail
  refine (hps _ _ _ (Aj.ext (Y2_3.alloc _)) (Al.ext ((Ext.refl w3).alloc _))).mono ?_
  rintro e w4 ⟨rfl, E4⟩
  clear q3b0 q3b1 q3b2 q3b3 q3b4 q3b5 q3b6 q3b7 q3b8 q3b9 q3b10 q3b11 q3b12 q3b13
  have Y3_4 : Ext w3 w4 := E4.old
  have Y0_4 : Ext w w4 := Y0_3.comp Y3_4
  have Y1_4 : Ext w1 w4 := Y1_3.comp Y3_4
  have Y2_4 : Ext w2 w4 := Y2_3.comp Y3_4
  have Bs_4 := Blk.ex (Blk.al Bs_3 (.cells #[.slice l0a l0n l0c, .slice l1a l1n l1c, .int .i64 l2, .slice l3a l3n l3c, .int .i64 l4, .int .i64 l5, .int .i64 l6, .int .i64 l7, .int .i64 l8, .int .i64 l9, .int .i64 l10, .int .i64 l11, .int .i64 l12, .int .i64 l13] 41)) E4
  have Bx_4 := Blk.ex (Blk.al Bx_3 (.cells #[.slice l0a l0n l0c, .slice l1a l1n l1c, .int .i64 l2, .slice l3a l3n l3c, .int .i64 l4, .int .i64 l5, .int .i64 l6, .int .i64 l7, .int .i64 l8, .int .i64 l9, .int .i64 l10, .int .i64 l11, .int .i64 l12, .int .i64 l13] 41)) E4
  have Ba_4 := Blk.ex (Blk.al Ba_3 (.cells #[.slice l0a l0n l0c, .slice l1a l1n l1c, .int .i64 l2, .slice l3a l3n l3c, .int .i64 l4, .int .i64 l5, .int .i64 l6, .int .i64 l7, .int .i64 l8, .int .i64 l9, .int .i64 l10, .int .i64 l11, .int .i64 l12, .int .i64 l13] 41)) E4
  have Bb_4 := Blk.ex (Blk.al Bb_3 (.cells #[.slice l0a l0n l0c, .slice l1a l1n l1c, .int .i64 l2, .slice l3a l3n l3c, .int .i64 l4, .int .i64 l5, .int .i64 l6, .int .i64 l7, .int .i64 l8, .int .i64 l9, .int .i64 l10, .int .i64 l11, .int .i64 l12, .int .i64 l13] 41)) E4
  have Bc_4 := Blk.of E4
  clear Bs_3 Bx_3 Ba_3 Bb_3 Y0_3 Y1_3 Y2_3
  have q4s0 := Blk.c Bs_4 0 (v := .slice a1 n1 c1) rfl
  have q4s1 := Blk.c Bs_4 1 (v := .slice a2 n2 c2) rfl
  have q4s2 := Blk.c Bs_4 2 (v := .int .i64 s.taken) rfl
  have q4s3 := Blk.c Bs_4 3 (v := .slice a3 n3 c3) rfl
  have q4s4 := Blk.c Bs_4 4 (v := .int .i64 s.clock) rfl
  have q4s5 := Blk.c Bs_4 5 (v := .int .i64 s.at_) rfl
  have q4s6 := Blk.c Bs_4 6 (v := .int .i64 s.phase) rfl
  have q4s7 := Blk.c Bs_4 7 (v := .int .i64 s.order) rfl
  have q4s8 := Blk.c Bs_4 8 (v := .int .i64 s.operand) rfl
  have q4s9 := Blk.c Bs_4 9 (v := .int .i64 s.other) rfl
  have q4s10 := Blk.c Bs_4 10 (v := .int .i64 s.product) rfl
  have q4s11 := Blk.c Bs_4 11 (v := .int .i64 s.count) rfl
  have q4s12 := Blk.c Bs_4 12 (v := .int .i64 s.done) rfl
  have q4s13 := Blk.c Bs_4 13 (v := .int .i64 s.why) rfl
  clear E4
  clear Ba_4 Bb_4 Bc_4
  as_aux_lemma =>
  go_wp2_with fail
  refine (g4 _ Y0_4).mono ?_
  rintro e w5 ⟨m0a, m0n, m0c, m1a, m1n, m1c, m2a, m2n, m2c, m3, m4a, m4n, m4c, m5, m6, m7, m8, m9, m10, m11, m12, m13, m14, m15, m16, m17, rfl, Am, E5⟩
  clear q4s0 q4s1 q4s2 q4s3 q4s4 q4s5 q4s6 q4s7 q4s8 q4s9 q4s10 q4s11 q4s12 q4s13
  have Y4_5 : Ext w4 w5 := E5
  have Y0_5 : Ext w w5 := Y0_4.comp Y4_5
  have Y1_5 : Ext w1 w5 := Y1_4.comp Y4_5
  have Y2_5 : Ext w2 w5 := Y2_4.comp Y4_5
  have Y3_5 : Ext w3 w5 := Y3_4.comp Y4_5
  have Bs_5 := Blk.ex Bs_4 E5
  have Bx_5 := Blk.ex Bx_4 E5
  clear Bs_4 Bx_4 Y0_4 Y1_4 Y2_4 Y3_4
  have q5x2 := fun ob => Blk.c (Blk.al Bx_5 ob) 2 (v := .int .u8 x2) rfl
  clear E5
  as_aux_lemma =>
  have HM5d := Lib.hid (Blk.range (L := [.slice m0a m0n m0c, .slice m1a m1n m1c, .slice m2a m2n m2c, .int .i64 m3, .slice m4a m4n m4c, .int .i64 m5, .int .i64 m6, .int .i64 m7, .int .i64 m8, .int .i64 m9, .int .i64 m10, .int .i64 m11, .int .i64 m12, .int .i64 m13, .int .i64 m14, .int .i64 m15, .int .i64 m16, .int .i64 m17]) (Blk.nw w5 #[.slice m0a m0n m0c, .slice m1a m1n m1c, .slice m2a m2n m2c, .int .i64 m3, .slice m4a m4n m4c, .int .i64 m5, .int .i64 m6, .int .i64 m7, .int .i64 m8, .int .i64 m9, .int .i64 m10, .int .i64 m11, .int .i64 m12, .int .i64 m13, .int .i64 m14, .int .i64 m15, .int .i64 m16, .int .i64 m17] 50))
  go_wp2_with (first | (refine wpList_load_mid rfl 50 (.tmp 10) rfl (w5.heap.size) 0 rfl [.slice m0a m0n m0c, .slice m1a m1n m1c, .slice m2a m2n m2c, .int .i64 m3, .slice m4a m4n m4c, .int .i64 m5, .int .i64 m6, .int .i64 m7, .int .i64 m8, .int .i64 m9, .int .i64 m10, .int .i64 m11, .int .i64 m12, .int .i64 m13, .int .i64 m14, .int .i64 m15, .int .i64 m16, .int .i64 m17] _ HM5d.out Try.underlying50 rfl (by kernel_rfl) ?_))
  refine (g5 _ _ (Am.ext ((Ext.refl w5).alloc _))).mono ?_
  rintro e w6 ⟨r0a, r0n, r0c, r1a, r1n, r1c, r2a, r2n, r2c, r3, r4a, r4n, r4c, r5, r6, r7, r8, r9, r10, r11, r12, r13, r14, r15, r16, r17, rfl, Ar, E6⟩
  clear q5x2 HM5d
  have Y5_6 : Ext w5 w6 := E6.old
  have Y0_6 : Ext w w6 := Y0_5.comp Y5_6
  have Y1_6 : Ext w1 w6 := Y1_5.comp Y5_6
  have Y2_6 : Ext w2 w6 := Y2_5.comp Y5_6
  have Y3_6 : Ext w3 w6 := Y3_5.comp Y5_6
  have Y4_6 : Ext w4 w6 := Y4_5.comp Y5_6
  have Bs_6 := Blk.ex (Blk.al Bs_5 (.cells #[.slice m0a m0n m0c, .slice m1a m1n m1c, .slice m2a m2n m2c, .int .i64 m3, .slice m4a m4n m4c, .int .i64 m5, .int .i64 m6, .int .i64 m7, .int .i64 m8, .int .i64 m9, .int .i64 m10, .int .i64 m11, .int .i64 m12, .int .i64 m13, .int .i64 m14, .int .i64 m15, .int .i64 m16, .int .i64 m17] 50)) E6
  have Bx_6 := Blk.ex (Blk.al Bx_5 (.cells #[.slice m0a m0n m0c, .slice m1a m1n m1c, .slice m2a m2n m2c, .int .i64 m3, .slice m4a m4n m4c, .int .i64 m5, .int .i64 m6, .int .i64 m7, .int .i64 m8, .int .i64 m9, .int .i64 m10, .int .i64 m11, .int .i64 m12, .int .i64 m13, .int .i64 m14, .int .i64 m15, .int .i64 m16, .int .i64 m17] 50)) E6
  have Bd_6 := Blk.of E6
  clear Bs_5 Bx_5 Y0_5 Y1_5 Y2_5 Y3_5 Y4_5
  have q6x3 := fun ob => Blk.c (Blk.al Bx_6 ob) 3 (v := .int .u8 x3) rfl
  clear E6
  as_aux_lemma =>
  have HM6p := Lib.hid (Blk.range (L := [.slice r0a r0n r0c, .slice r1a r1n r1c, .slice r2a r2n r2c, .int .i64 r3, .slice r4a r4n r4c, .int .i64 r5, .int .i64 r6, .int .i64 r7, .int .i64 r8, .int .i64 r9, .int .i64 r10, .int .i64 r11, .int .i64 r12, .int .i64 r13, .int .i64 r14, .int .i64 r15, .int .i64 r16, .int .i64 r17]) (Blk.nw w6 #[.slice r0a r0n r0c, .slice r1a r1n r1c, .slice r2a r2n r2c, .int .i64 r3, .slice r4a r4n r4c, .int .i64 r5, .int .i64 r6, .int .i64 r7, .int .i64 r8, .int .i64 r9, .int .i64 r10, .int .i64 r11, .int .i64 r12, .int .i64 r13, .int .i64 r14, .int .i64 r15, .int .i64 r16, .int .i64 r17] 50))
  go_wp2_with (first | (refine wpList_load_mid rfl 50 (.tmp 11) rfl (w6.heap.size) 0 rfl [.slice r0a r0n r0c, .slice r1a r1n r1c, .slice r2a r2n r2c, .int .i64 r3, .slice r4a r4n r4c, .int .i64 r5, .int .i64 r6, .int .i64 r7, .int .i64 r8, .int .i64 r9, .int .i64 r10, .int .i64 r11, .int .i64 r12, .int .i64 r13, .int .i64 r14, .int .i64 r15, .int .i64 r16, .int .i64 r17] _ HM6p.out Try.underlying50 rfl (by kernel_rfl) ?_))
  refine (g6 _ _ (Ar.ext ((Ext.refl w6).alloc _))).mono ?_
  rintro e w7 ⟨t0a, t0n, t0c, t1a, t1n, t1c, t2a, t2n, t2c, t3, t4a, t4n, t4c, t5, t6, t7, t8, t9, t10, t11, t12, t13, t14, t15, t16, t17, rfl, At, E7⟩
  clear q6x3 HM6p
  have Y6_7 : Ext w6 w7 := E7.old
  have Y0_7 : Ext w w7 := Y0_6.comp Y6_7
  have Y1_7 : Ext w1 w7 := Y1_6.comp Y6_7
  have Y2_7 : Ext w2 w7 := Y2_6.comp Y6_7
  have Y3_7 : Ext w3 w7 := Y3_6.comp Y6_7
  have Y4_7 : Ext w4 w7 := Y4_6.comp Y6_7
  have Y5_7 : Ext w5 w7 := Y5_6.comp Y6_7
  have Bs_7 := Blk.ex (Blk.al Bs_6 (.cells #[.slice r0a r0n r0c, .slice r1a r1n r1c, .slice r2a r2n r2c, .int .i64 r3, .slice r4a r4n r4c, .int .i64 r5, .int .i64 r6, .int .i64 r7, .int .i64 r8, .int .i64 r9, .int .i64 r10, .int .i64 r11, .int .i64 r12, .int .i64 r13, .int .i64 r14, .int .i64 r15, .int .i64 r16, .int .i64 r17] 50)) E7
  have Bx_7 := Blk.ex (Blk.al Bx_6 (.cells #[.slice r0a r0n r0c, .slice r1a r1n r1c, .slice r2a r2n r2c, .int .i64 r3, .slice r4a r4n r4c, .int .i64 r5, .int .i64 r6, .int .i64 r7, .int .i64 r8, .int .i64 r9, .int .i64 r10, .int .i64 r11, .int .i64 r12, .int .i64 r13, .int .i64 r14, .int .i64 r15, .int .i64 r16, .int .i64 r17] 50)) E7
  have Bd_7 := Blk.ex (Blk.al Bd_6 (.cells #[.slice r0a r0n r0c, .slice r1a r1n r1c, .slice r2a r2n r2c, .int .i64 r3, .slice r4a r4n r4c, .int .i64 r5, .int .i64 r6, .int .i64 r7, .int .i64 r8, .int .i64 r9, .int .i64 r10, .int .i64 r11, .int .i64 r12, .int .i64 r13, .int .i64 r14, .int .i64 r15, .int .i64 r16, .int .i64 r17] 50)) E7
  have Bp_7 := Blk.of E7
  clear Bs_6 Bx_6 Bd_6 Y0_6 Y1_6 Y2_6 Y3_6 Y4_6 Y5_6
  have q7x2 := fun ob => Blk.c (Blk.al Bx_7 ob) 2 (v := .int .u8 x2) rfl
  have q7x3 := fun ob => Blk.c (Blk.al Bx_7 ob) 3 (v := .int .u8 x3) rfl
  clear E7
  as_aux_lemma =>
  have HM7d := Lib.hid (Blk.range (L := [.slice m0a m0n m0c, .slice m1a m1n m1c, .slice m2a m2n m2c, .int .i64 m3, .slice m4a m4n m4c, .int .i64 m5, .int .i64 m6, .int .i64 m7, .int .i64 m8, .int .i64 m9, .int .i64 m10, .int .i64 m11, .int .i64 m12, .int .i64 m13, .int .i64 m14, .int .i64 m15, .int .i64 m16, .int .i64 m17]) (Blk.al (Bd_7) (.cells #[.slice t0a t0n t0c, .slice t1a t1n t1c, .slice t2a t2n t2c, .int .i64 t3, .slice t4a t4n t4c, .int .i64 t5, .int .i64 t6, .int .i64 t7, .int .i64 t8, .int .i64 t9, .int .i64 t10, .int .i64 t11, .int .i64 t12, .int .i64 t13, .int .i64 t14, .int .i64 t15, .int .i64 t16, .int .i64 t17] 50)))
  go_wp2_with (first | (refine wpList_load_mid rfl 50 (.tmp 10) rfl (w5.heap.size) 0 rfl [.slice m0a m0n m0c, .slice m1a m1n m1c, .slice m2a m2n m2c, .int .i64 m3, .slice m4a m4n m4c, .int .i64 m5, .int .i64 m6, .int .i64 m7, .int .i64 m8, .int .i64 m9, .int .i64 m10, .int .i64 m11, .int .i64 m12, .int .i64 m13, .int .i64 m14, .int .i64 m15, .int .i64 m16, .int .i64 m17] _ HM7d.out Try.underlying50 rfl (by kernel_rfl) ?_))
  refine (g7 _ _ (Am.ext (Y5_7.alloc _))).mono ?_
  rintro e w8 ⟨v0a, v0n, v0c, v1a, v1n, v1c, v2a, v2n, v2c, v3, v4a, v4n, v4c, v5, v6, v7, v8, v9, v10, v11, v12, v13, v14, v15, v16, v17, rfl, Av, E8⟩
  clear q7x2 q7x3 HM7d
  have Y7_8 : Ext w7 w8 := E8.old
  have Y0_8 : Ext w w8 := Y0_7.comp Y7_8
  have Y1_8 : Ext w1 w8 := Y1_7.comp Y7_8
  have Y2_8 : Ext w2 w8 := Y2_7.comp Y7_8
  have Y3_8 : Ext w3 w8 := Y3_7.comp Y7_8
  have Y4_8 : Ext w4 w8 := Y4_7.comp Y7_8
  have Y5_8 : Ext w5 w8 := Y5_7.comp Y7_8
  have Y6_8 : Ext w6 w8 := Y6_7.comp Y7_8
  have Bs_8 := Blk.ex (Blk.al Bs_7 (.cells #[.slice t0a t0n t0c, .slice t1a t1n t1c, .slice t2a t2n t2c, .int .i64 t3, .slice t4a t4n t4c, .int .i64 t5, .int .i64 t6, .int .i64 t7, .int .i64 t8, .int .i64 t9, .int .i64 t10, .int .i64 t11, .int .i64 t12, .int .i64 t13, .int .i64 t14, .int .i64 t15, .int .i64 t16, .int .i64 t17] 50)) E8
  have Bx_8 := Blk.ex (Blk.al Bx_7 (.cells #[.slice t0a t0n t0c, .slice t1a t1n t1c, .slice t2a t2n t2c, .int .i64 t3, .slice t4a t4n t4c, .int .i64 t5, .int .i64 t6, .int .i64 t7, .int .i64 t8, .int .i64 t9, .int .i64 t10, .int .i64 t11, .int .i64 t12, .int .i64 t13, .int .i64 t14, .int .i64 t15, .int .i64 t16, .int .i64 t17] 50)) E8
  have Bd_8 := Blk.ex (Blk.al Bd_7 (.cells #[.slice t0a t0n t0c, .slice t1a t1n t1c, .slice t2a t2n t2c, .int .i64 t3, .slice t4a t4n t4c, .int .i64 t5, .int .i64 t6, .int .i64 t7, .int .i64 t8, .int .i64 t9, .int .i64 t10, .int .i64 t11, .int .i64 t12, .int .i64 t13, .int .i64 t14, .int .i64 t15, .int .i64 t16, .int .i64 t17] 50)) E8
  have Bp_8 := Blk.ex (Blk.al Bp_7 (.cells #[.slice t0a t0n t0c, .slice t1a t1n t1c, .slice t2a t2n t2c, .int .i64 t3, .slice t4a t4n t4c, .int .i64 t5, .int .i64 t6, .int .i64 t7, .int .i64 t8, .int .i64 t9, .int .i64 t10, .int .i64 t11, .int .i64 t12, .int .i64 t13, .int .i64 t14, .int .i64 t15, .int .i64 t16, .int .i64 t17] 50)) E8
  have Bq_8 := Blk.of E8
  clear Bs_7 Bx_7 Bd_7 Bp_7 Y0_7 Y1_7 Y2_7 Y3_7 Y4_7 Y5_7 Y6_7
  clear E8
  clear Bs_8 Bx_8 Bd_8 Bp_8
  as_aux_lemma =>
  have HM8q := Lib.hid (Blk.range (L := [.slice t0a t0n t0c, .slice t1a t1n t1c, .slice t2a t2n t2c, .int .i64 t3, .slice t4a t4n t4c, .int .i64 t5, .int .i64 t6, .int .i64 t7, .int .i64 t8, .int .i64 t9, .int .i64 t10, .int .i64 t11, .int .i64 t12, .int .i64 t13, .int .i64 t14, .int .i64 t15, .int .i64 t16, .int .i64 t17]) (Blk.al (Bq_8) (.cells #[.slice v0a v0n v0c, .slice v1a v1n v1c, .slice v2a v2n v2c, .int .i64 v3, .slice v4a v4n v4c, .int .i64 v5, .int .i64 v6, .int .i64 v7, .int .i64 v8, .int .i64 v9, .int .i64 v10, .int .i64 v11, .int .i64 v12, .int .i64 v13, .int .i64 v14, .int .i64 v15, .int .i64 v16, .int .i64 v17] 50)))
  have HM8r := Lib.hid (Blk.range (L := [.slice v0a v0n v0c, .slice v1a v1n v1c, .slice v2a v2n v2c, .int .i64 v3, .slice v4a v4n v4c, .int .i64 v5, .int .i64 v6, .int .i64 v7, .int .i64 v8, .int .i64 v9, .int .i64 v10, .int .i64 v11, .int .i64 v12, .int .i64 v13, .int .i64 v14, .int .i64 v15, .int .i64 v16, .int .i64 v17]) (Blk.nw w8 #[.slice v0a v0n v0c, .slice v1a v1n v1c, .slice v2a v2n v2c, .int .i64 v3, .slice v4a v4n v4c, .int .i64 v5, .int .i64 v6, .int .i64 v7, .int .i64 v8, .int .i64 v9, .int .i64 v10, .int .i64 v11, .int .i64 v12, .int .i64 v13, .int .i64 v14, .int .i64 v15, .int .i64 v16, .int .i64 v17] 50))
  go_wp2_with (first | (refine wpList_load_midG (by kernel_rfl) 50 (.tmp 12) rfl (w7.heap.size) 0 rfl [.slice t0a t0n t0c, .slice t1a t1n t1c, .slice t2a t2n t2c, .int .i64 t3, .slice t4a t4n t4c, .int .i64 t5, .int .i64 t6, .int .i64 t7, .int .i64 t8, .int .i64 t9, .int .i64 t10, .int .i64 t11, .int .i64 t12, .int .i64 t13, .int .i64 t14, .int .i64 t15, .int .i64 t16, .int .i64 t17] _ HM8q.out Try.underlying50 rfl (by kernel_rfl) ?_) | (refine wpList_load_midG (by kernel_rfl) 50 (.tmp 13) rfl (w8.heap.size) 0 rfl [.slice v0a v0n v0c, .slice v1a v1n v1c, .slice v2a v2n v2c, .int .i64 v3, .slice v4a v4n v4c, .int .i64 v5, .int .i64 v6, .int .i64 v7, .int .i64 v8, .int .i64 v9, .int .i64 v10, .int .i64 v11, .int .i64 v12, .int .i64 v13, .int .i64 v14, .int .i64 v15, .int .i64 v16, .int .i64 v17] _ HM8r.out Try.underlying50 rfl (by kernel_rfl) ?_))
  refine (hpq _ _ _ (At.ext (Y7_8.alloc _)) (Av.ext ((Ext.refl w8).alloc _))).mono ?_
  rintro e w9 ⟨rfl, E9⟩
  clear HM8q HM8r
  have Y8_9 : Ext w8 w9 := E9.old
  have Y0_9 : Ext w w9 := Y0_8.comp Y8_9
  have Y1_9 : Ext w1 w9 := Y1_8.comp Y8_9
  have Y2_9 : Ext w2 w9 := Y2_8.comp Y8_9
  have Y3_9 : Ext w3 w9 := Y3_8.comp Y8_9
  have Y4_9 : Ext w4 w9 := Y4_8.comp Y8_9
  have Y5_9 : Ext w5 w9 := Y5_8.comp Y8_9
  have Y6_9 : Ext w6 w9 := Y6_8.comp Y8_9
  have Y7_9 : Ext w7 w9 := Y7_8.comp Y8_9
  have Bq_9 := Blk.ex (Blk.al Bq_8 (.cells #[.slice v0a v0n v0c, .slice v1a v1n v1c, .slice v2a v2n v2c, .int .i64 v3, .slice v4a v4n v4c, .int .i64 v5, .int .i64 v6, .int .i64 v7, .int .i64 v8, .int .i64 v9, .int .i64 v10, .int .i64 v11, .int .i64 v12, .int .i64 v13, .int .i64 v14, .int .i64 v15, .int .i64 v16, .int .i64 v17] 50)) E9
  have Br_9 := Blk.of E9
  clear Bq_8 Y0_8 Y1_8 Y2_8 Y3_8 Y4_8 Y5_8 Y6_8 Y7_8
  clear E9
  go_wp2_with (go_at_call 30; refine (awake5_any _).mono ?_; rintro e w10 ⟨rfl, E10⟩)
  have Y9_10 : Ext w9 w10 := E10
  have Y0_10 : Ext w w10 := Y0_9.comp Y9_10
  have Y1_10 : Ext w1 w10 := Y1_9.comp Y9_10
  have Y2_10 : Ext w2 w10 := Y2_9.comp Y9_10
  have Y3_10 : Ext w3 w10 := Y3_9.comp Y9_10
  have Y4_10 : Ext w4 w10 := Y4_9.comp Y9_10
  have Y5_10 : Ext w5 w10 := Y5_9.comp Y9_10
  have Y6_10 : Ext w6 w10 := Y6_9.comp Y9_10
  have Y7_10 : Ext w7 w10 := Y7_9.comp Y9_10
  have Y8_10 : Ext w8 w10 := Y8_9.comp Y9_10
  have Bq_10 := Blk.ex Bq_9 E10
  have Br_10 := Blk.ex Br_9 E10
  clear Bq_9 Br_9 Y0_9 Y1_9 Y2_9 Y3_9 Y4_9 Y5_9 Y6_9 Y7_9 Y8_9
  clear E10
  go_ret
  exact ⟨rfl, Y0_10⟩
theorem cut_law (v : Value) (s : Pu) (x0 x1 x2 x3 : Int) (w : World) (h : PuAt w v s) (hb : PuBd s) (h0 : 0 ≤ x0 ∧ x0 ≤ 255) (h1 : 0 ≤ x1 ∧ x1 ≤ 255) (h2 : 0 ≤ x2 ∧ x2 ≤ 255) (h3 : 0 ≤ x3 ∧ x3 ≤ 255) :
    Calls Try.prog 10 #[v, .agg #[.int .u8 x0, .int .u8 x1, .int .u8 x2, .int .u8 x3]] w fun e w' => e = .returned (.bool true) ∧ Ext w w' := by
  have g := fun (n : Int) W (E : Ext w W) => minors_any v s n W (h.ext E) hb
  have gb := fun W (E : Ext w W) => pbits_any v s W (h.ext E) hb
  obtain ⟨a1, a2, a3, c1, c2, c3, rfl, _, _, _⟩ := id h
  by_cases hc : (checkP s).2.2 = 0
  · have hv := valid_check hc
    have e1 : bitsE s = (bitsP s, 0) := by unfold bitsE; rw [if_neg (by rw [hc]; decide)]
    rw [e1] at gb
    have hB := bits_valid hv
    have hvA := minorsP_valid x0.toNat hv
    have hvB := minorsP_valid x1.toNat hvA
    have hvP := beatsP_valid x2.toNat hB
    have hvQ := beatsP_valid x3.toNat hvP
    have bt : ∀ {b : PuB} {n : Int}, ValidB b → 0 ≤ n → n ≤ 60000 → beatsE b n = (beatsP n.toNat b, 0) := fun hb h0 h1 => by
      unfold beatsE; rw [stateE_valid hb, if_neg (by decide), if_pos (inB_mk h0 h1)]
    have k1 := g x0
    rw [minorsE_valid hv (by omega)] at k1
    have k2 := fun W v (A : PuAt W v (minorsP x0.toNat s)) => minors_any v _ x1 W A (validP_bd hvA)
    rw [minorsE_valid hvA (by omega)] at k2
    have k3 := g (x0 + x1)
    rw [minorsE_valid hv (by omega), show (x0 + x1).toNat = x0.toNat + x1.toNat by omega, minorsP_add] at k3
    have k5 := fun W v (A : PbAt W v (bitsP s)) => beats_ok v _ x2 W A hB
    rw [bt hB (by omega) (by omega)] at k5
    have k6 := fun W v (A : PbAt W v (beatsP x2.toNat (bitsP s))) => beats_ok v _ x3 W A hvP
    rw [bt hvP (by omega) (by omega)] at k6
    have k7 := fun W v (A : PbAt W v (bitsP s)) => beats_ok v _ (x2 + x3) W A hB
    rw [bt hB (by omega) (by omega), show (x2 + x3).toNat = x2.toNat + x3.toNat by omega, beatsP_add] at k7
    have hbq : PuBd (beatsP x3.toNat (beatsP x2.toNat (bitsP s))).now := ⟨by rw [hvQ.nostore]; decide, Nat.le_trans hvQ.st.tlen (by decide), Nat.le_trans hvQ.st.plen (by decide)⟩
    exact cut_good a1 a2 a3 _ c1 _ c2 _ c3 s _ _ (bitsP s) _ _ x0 x1 x2 x3 w h0 h1 h2 h3 (fun W E => (k1 W E).mono fun _ _ r => PuV.of r) (fun W v A => (k2 W v A).mono fun _ _ r => PuV.of r) (fun W E => (k3 W E).mono fun _ _ r => PuV.of r)
      (fun W E => (gb W E).mono fun _ _ r => PbV.of r) (fun W v A => (k5 W v A).mono fun _ _ r => PbV.of r) (fun W v A => (k6 W v A).mono fun _ _ r => PbV.of r) (fun W v A => (k7 W v A).mono fun _ _ r => PbV.of r)
      (fun W va vb A B => pstates_same va vb _ W A B (validP_bd hvB)) (fun W va vb A B => pulses_same va vb _ W A B (by rw [hvQ.lines]; decide) hbq)
  · have e2 : minorsE s x0 = (zpu, (checkP s).2.2) := by unfold minorsE; rw [if_pos hc]
    have k1 := g x0
    rw [e2] at k1
    exact cut_bad a1 a2 a3 _ c1 _ c2 _ c3 s x0 x1 x2 x3 (checkP s).2.2 w h0 (by simpa using hc) (fun W E => (k1 W E).mono fun _ _ r => PuZ2.of r)
end Go.Proofs.Ytjfggepgjpdebaa

import Derived.Deep.MidRow
import Derived.Test.YtjfggepgjpdebaaM20
set_option linter.unusedVariables false
set_option linter.unusedSimpArgs false
/- Contract: law05's Awake returns true. -/
namespace Go.Proofs.Ytjfggepgjpdebaa
open Go.RowKit Go.Q
theorem nz_tA : ((bitsP (minorsP 1 sA)).now.tape = [] ∨ ∃ i, i < (bitsP (minorsP 1 sA)).now.tape.length ∧ (bitsP (minorsP 1 sA)).now.tape[i]?.getD 0 ≠ 0) ∧ (bitsP (minorsP 1 sA)).now.printed = [] := ⟨.inr ⟨0, by decide +kernel, by decide +kernel⟩, by decide +kernel⟩
set_option maxRecDepth 100000 in
set_option maxHeartbeats 8000000 in
theorem awake5_any (w : World) : Calls Try.prog 30 #[] w fun e w' => e = .returned (.bool true) ∧ Ext w w' := by
  go_enter Try.func30, Try.ntmps30
  go_wp2_with fail
  refine (program_any _).mono ?_
  rintro e w1 ⟨vp1, rfl, S1, E1⟩
  go_wp2_with fail
  refine (begun_any _ _ _ S1 aw_q0 nz_st0).mono ?_
  rintro e w2 ⟨vb1, rfl, P2, E2⟩
  go_wp2_with fail
  refine (awA_any _ _ P2).mono ?_
  rintro e w3 ⟨bA, oA, kA1, dA2, nA2, kA2, dA3, nA3, kA3, A2, A5, A8, A9, A10, A11, A12, A13, rfl, PA, E3⟩
  have X3 : Ext w w3 := E1.comp (E2.comp E3)
  clear E1 E2 E3 S1 P2
  go_wp2_with fail
  refine (program_any _).mono ?_
  rintro e w4 ⟨vp2, rfl, S4, E4⟩
  go_wp2_with fail
  refine (begun_any _ _ _ S4 aw_q0 nz_st0).mono ?_
  rintro e w5 ⟨vb2, rfl, P5, E5⟩
  go_wp2_with fail
  refine (awB_any _ _ P5).mono ?_
  rintro e w6 ⟨bB, oB, kB1, dB2, nB2, kB2, dB3, nB3, kB3, B2, B6, B7, B8, B9, B10, B11, B13, rfl, PB, hbB, cB, E6⟩
  have X6 := E4.comp (E5.comp E6)
  clear E4 E5 E6 S4 P5
  go_wp2_with fail
  refine (awO_any _ _ (PB.ext (by repeat (first | with_reducible exact Ext.refl _ | with_reducible refine Ext.alloc ?_ _ | with_reducible refine Below.drew ?_)))).mono ?_
  rintro e w7 ⟨dS1, dS2, dS3, nS1, kS1, nS2, kS2, nS3, kS3, S2, S5, S6, S7, rfl, E7⟩
  have A7 := ((Blk.of X6).al (.cells #[.slice (some ⟨bB, oB, none⟩) 128 kB1, .slice dB2 nB2 kB2, .int .i64 B2, .slice dB3 nB3 kB3, .int .i64 6, .int .i64 8, .int .i64 B6, .int .i64 B7, .int .i64 B8, .int .i64 B9, .int .i64 B10, .int .i64 B11, .int .i64 1, .int .i64 B13] 41)).ex E7
  have B7 := Blk.of E7
  have Y7 := X6.old.comp E7.old
  have q0 := fun ob => Blk.c (A7.al ob) 0 (v := .slice (some ⟨bA, oA, none⟩) 128 kA1) rfl
  have q1 := fun ob => Blk.c (A7.al ob) 1 (v := .slice dA2 nA2 kA2) rfl
  have q2 := fun ob => Blk.c (A7.al ob) 2 (v := .int .i64 A2) rfl
  have q3 := fun ob => Blk.c (A7.al ob) 3 (v := .slice dA3 nA3 kA3) rfl
  have q4 := fun ob => Blk.c (A7.al ob) 4 (v := .int .i64 1) rfl
  have q5 := fun ob => Blk.c (A7.al ob) 5 (v := .int .i64 A5) rfl
  have q6 := fun ob => Blk.c (A7.al ob) 6 (v := .int .i64 2) rfl
  have q7 := fun ob => Blk.c (A7.al ob) 7 (v := .int .i64 12583560) rfl
  have q8 := fun ob => Blk.c (A7.al ob) 8 (v := .int .i64 A8) rfl
  have q9 := fun ob => Blk.c (A7.al ob) 9 (v := .int .i64 A9) rfl
  have q10 := fun ob => Blk.c (A7.al ob) 10 (v := .int .i64 A10) rfl
  have q11 := fun ob => Blk.c (A7.al ob) 11 (v := .int .i64 A11) rfl
  have q12 := fun ob => Blk.c (A7.al ob) 12 (v := .int .i64 A12) rfl
  have q13 := fun ob => Blk.c (A7.al ob) 13 (v := .int .i64 A13) rfl
  go_wp2_with fail
  refine (awU_any _ _ (PA.ext (by repeat (first | with_reducible exact Y7 | with_reducible refine Ext.alloc ?_ _ | with_reducible refine Below.drew ?_)))).mono ?_
  rintro e w8 ⟨rfl, E8⟩
  clear q0 q1 q2 q3 q4 q5 q6 q7 q8 q9 q10 q11 q12 q13
  go_wp2_with fail
  refine (product5_any _).mono ?_
  rintro e w9 ⟨vp3, rfl, S9, E9⟩
  go_wp2_with fail
  refine (begun_any _ _ _ S9 aw_q1 nz_pr0).mono ?_
  rintro e w10 ⟨vb3, rfl, P10, E10⟩
  go_wp2_with fail
  refine (awM_any _ _ P10).mono ?_
  rintro e w11 ⟨bM, oM, kM1, dM2, nM2, kM2, dM3, nM3, kM3, M2, M4, M5, M7, M8, M9, M10, M11, M12, M13, rfl, PM, hbM, cM, E11⟩
  have X11 := E8.comp (E9.comp (E10.comp E11))
  clear E8 E9 E10 E11 S9 P10
  go_wp2_with fail
  refine (program_any _).mono ?_
  rintro e w12 ⟨vp4, rfl, S12, E12⟩
  go_wp2_with fail
  refine (begun_any _ _ _ S12 aw_q0 nz_st0).mono ?_
  rintro e w13 ⟨vb4, rfl, P13, E13⟩
  go_wp2_with fail
  refine (awZ_any _ _ P13).mono ?_
  rintro e w14 ⟨aL, cL, a1, c1, a2, c2, a3, c3, rfl, PZ, E14⟩
  have X14 := E12.comp (E13.comp E14)
  clear E12 E13 E14 S12 P13
  have HZ := Lib.hid (Blk.range (L := [.slice aL 8 cL, .slice a1 0 c1, .slice a2 3 c2, .int .i64 0, .slice a3 0 c3, .int .i64 0, .int .i64 0, .int .i64 0, .int .i64 0, .int .i64 0, .int .i64 0, .int .i64 0, .int .i64 0, .int .i64 0, .int .i64 0, .int .i64 0, .int .i64 0, .int .i64 0]) (Blk.nw w14 #[.slice aL 8 cL, .slice a1 0 c1, .slice a2 3 c2, .int .i64 0, .slice a3 0 c3, .int .i64 0, .int .i64 0, .int .i64 0, .int .i64 0, .int .i64 0, .int .i64 0, .int .i64 0, .int .i64 0, .int .i64 0, .int .i64 0, .int .i64 0, .int .i64 0, .int .i64 0] 50))
  go_wp2_with (first | (refine wpList_load_mid rfl 50 (.tmp 11) rfl w14.heap.size 0 rfl [.slice aL 8 cL, .slice a1 0 c1, .slice a2 3 c2, .int .i64 0, .slice a3 0 c3, .int .i64 0, .int .i64 0, .int .i64 0, .int .i64 0, .int .i64 0, .int .i64 0, .int .i64 0, .int .i64 0, .int .i64 0, .int .i64 0, .int .i64 0, .int .i64 0, .int .i64 0] _ HZ.out Try.underlying50 rfl (by kernel_rfl) ?_) | (go_at_call 36; refine (awBeats_any _ _ (PZ.ext (by repeat (first | with_reducible exact Ext.refl _ | with_reducible refine Ext.alloc ?_ _ | with_reducible refine Below.drew ?_)))).mono ?_; rintro e w15 ⟨pL, qL, rL, p1, q1, r1, p2, q2, r2, y3, p3, q3, r3, y5, y6, y7, y8, y9, y10, y11, y12, y13, y14, y15, y16, y17, rfl, PP, E15⟩; have rb15 := Blk.of E15; have HT := Lib.hid (Blk.there rb15); have HRB := Lib.hid (And.intro rb15 (And.intro PP E15)); clear rb15 PP E15) | (refine wpList_store_mid rfl 50 (.tmp 11) (.tmp 55) rfl w14.heap.size 0 [.slice pL qL rL, .slice p1 q1 r1, .slice p2 q2 r2, .int .i64 y3, .slice p3 q3 r3, .int .i64 y5, .int .i64 y6, .int .i64 y7, .int .i64 y8, .int .i64 y9, .int .i64 y10, .int .i64 y11, .int .i64 y12, .int .i64 y13, .int .i64 y14, .int .i64 y15, .int .i64 y16, .int .i64 y17].toArray rfl rfl HT.out (by kernel_rfl) (by simp [Value.oneCell']) ?_; obtain ⟨W15, hW15⟩ : ∃ W15 : World, W15 = w15.setCells w14.heap.size 0 [.slice pL qL rL, .slice p1 q1 r1, .slice p2 q2 r2, .int .i64 y3, .slice p3 q3 r3, .int .i64 y5, .int .i64 y6, .int .i64 y7, .int .i64 y8, .int .i64 y9, .int .i64 y10, .int .i64 y11, .int .i64 y12, .int .i64 y13, .int .i64 y14, .int .i64 y15, .int .i64 y16, .int .i64 y17] := ⟨_, rfl⟩; have HP2 := Lib.hid (hW15 ▸ World.rangeAt_setCells_same w15 w14.heap.size 0 [.slice pL qL rL, .slice p1 q1 r1, .slice p2 q2 r2, .int .i64 y3, .slice p3 q3 r3, .int .i64 y5, .int .i64 y6, .int .i64 y7, .int .i64 y8, .int .i64 y9, .int .i64 y10, .int .i64 y11, .int .i64 y12, .int .i64 y13, .int .i64 y14, .int .i64 y15, .int .i64 y16, .int .i64 y17] HT.out : W15.rangeAt w14.heap.size 0 [.slice pL qL rL, .slice p1 q1 r1, .slice p2 q2 r2, .int .i64 y3, .slice p3 q3 r3, .int .i64 y5, .int .i64 y6, .int .i64 y7, .int .i64 y8, .int .i64 y9, .int .i64 y10, .int .i64 y11, .int .i64 y12, .int .i64 y13, .int .i64 y14, .int .i64 y15, .int .i64 y16, .int .i64 y17]); rw [← hW15]; have HW15 := Lib.hid hW15; clear hW15; (try dsimp only)) | (refine wpList_load_mid rfl 50 (.tmp 11) rfl w14.heap.size 0 rfl [.slice pL qL rL, .slice p1 q1 r1, .slice p2 q2 r2, .int .i64 y3, .slice p3 q3 r3, .int .i64 y5, .int .i64 y6, .int .i64 y7, .int .i64 y8, .int .i64 y9, .int .i64 y10, .int .i64 y11, .int .i64 y12, .int .i64 y13, .int .i64 y14, .int .i64 y15, .int .i64 y16, .int .i64 y17] _ HP2.out Try.underlying50 rfl (by kernel_rfl) ?_))
  have ho := OnlyB.sets [.slice pL qL rL, .slice p1 q1 r1, .slice p2 q2 r2, .int .i64 y3, .slice p3 q3 r3, .int .i64 y5, .int .i64 y6, .int .i64 y7, .int .i64 y8, .int .i64 y9, .int .i64 y10, .int .i64 y11, .int .i64 y12, .int .i64 y13, .int .i64 y14, .int .i64 y15, .int .i64 y16, .int .i64 y17] 0 _ (OnlyB.refl w14.heap.size w15)
  have hvA := bits_valid (minorsP_valid 1 val_A)
  rw [← HW15.out] at ho
  have PP2 := pb_keep HRB.out.1 HRB.out.2.1 hvA.lines hvA.len hvA.nostore nz_tA.1 (.inl nz_tA.2) ho.size (fun k hk hne => ho.block k hk (fun e => hne (by cases e; rfl)))
  have X15 : Ext w14 W15 := ho.ext HRB.out.2.2.old (Nat.le_refl _)
  clear ho hvA
  refine (awWords_any _ _ PP2).mono ?_
  rintro e w16 ⟨dW1, nW1, kW1, dW2, nW2, kW2, W2, dW3, nW3, kW3, W4, W5, W6, W7, W8, W9, W10, W11, W12, W13, rfl, PW, E16⟩
  have X16 := X15.comp E16
  clear X15 PP2 E16 HP2 HW15 HZ HT HRB PZ
  have A16 := ((((A7.al (.cells #[.slice dS1 nS1 kS1, .slice dS2 nS2 kS2, .int .i64 S2, .slice dS3 nS3 kS3, .int .i64 8, .int .i64 S5, .int .i64 S6, .int .i64 S7] 24)).ex X11).al (.cells #[.slice (some ⟨bM, oM, none⟩) 128 kM1, .slice dM2 nM2 kM2, .int .i64 M2, .slice dM3 nM3 kM3, .int .i64 M4, .int .i64 M5, .int .i64 0, .int .i64 M7, .int .i64 M8, .int .i64 M9, .int .i64 M10, .int .i64 M11, .int .i64 M12, .int .i64 M13] 41)).ex X14).ex X16
  have B16 := ((((B7.al (.cells #[.slice dS1 nS1 kS1, .slice dS2 nS2 kS2, .int .i64 S2, .slice dS3 nS3 kS3, .int .i64 8, .int .i64 S5, .int .i64 S6, .int .i64 S7] 24)).ex X11).al (.cells #[.slice (some ⟨bM, oM, none⟩) 128 kM1, .slice dM2 nM2 kM2, .int .i64 M2, .slice dM3 nM3 kM3, .int .i64 M4, .int .i64 M5, .int .i64 0, .int .i64 M7, .int .i64 M8, .int .i64 M9, .int .i64 M10, .int .i64 M11, .int .i64 M12, .int .i64 M13] 41)).ex X14).ex X16
  have S16 := (((Blk.of X11).al (.cells #[.slice (some ⟨bM, oM, none⟩) 128 kM1, .slice dM2 nM2 kM2, .int .i64 M2, .slice dM3 nM3 kM3, .int .i64 M4, .int .i64 M5, .int .i64 0, .int .i64 M7, .int .i64 M8, .int .i64 M9, .int .i64 M10, .int .i64 M11, .int .i64 M12, .int .i64 M13] 41)).ex X14).ex X16
  have M16 := (Blk.of X14).ex X16
  have Y11 : Ext w11 w16 := X14.old.comp X16
  have Y7b : Ext w7 w16 := X11.old.comp Y11
  have Y16 : Ext w3 w16 := Y7.comp Y7b
  have Z16 : Ext w6 w16 := E7.old.comp Y7b
  clear A7 B7 X11 X14 X16 X6 Y7 E7 Y7b
  have q0 := fun ob => Blk.c (A16.al ob) 0 (v := .slice (some ⟨bA, oA, none⟩) 128 kA1) rfl
  have q1 := fun ob => Blk.c (A16.al ob) 1 (v := .slice dA2 nA2 kA2) rfl
  have q2 := fun ob => Blk.c (A16.al ob) 2 (v := .int .i64 A2) rfl
  have q3 := fun ob => Blk.c (A16.al ob) 3 (v := .slice dA3 nA3 kA3) rfl
  have q4 := fun ob => Blk.c (A16.al ob) 4 (v := .int .i64 1) rfl
  have q5 := fun ob => Blk.c (A16.al ob) 5 (v := .int .i64 A5) rfl
  have q6 := fun ob => Blk.c (A16.al ob) 6 (v := .int .i64 2) rfl
  have q7 := fun ob => Blk.c (A16.al ob) 7 (v := .int .i64 12583560) rfl
  have q8 := fun ob => Blk.c (A16.al ob) 8 (v := .int .i64 A8) rfl
  have q9 := fun ob => Blk.c (A16.al ob) 9 (v := .int .i64 A9) rfl
  have q10 := fun ob => Blk.c (A16.al ob) 10 (v := .int .i64 A10) rfl
  have q11 := fun ob => Blk.c (A16.al ob) 11 (v := .int .i64 A11) rfl
  have q12 := fun ob => Blk.c (A16.al ob) 12 (v := .int .i64 A12) rfl
  have q13 := fun ob => Blk.c (A16.al ob) 13 (v := .int .i64 A13) rfl
  go_wp2_with fail
  refine (awN_any _ _ (PA.ext (by repeat (first | with_reducible exact Y16 | with_reducible refine Ext.alloc ?_ _ | with_reducible refine Below.drew ?_)))).mono ?_
  rintro e w17 ⟨dN1, dN2, dN3, nN1, kN1, nN2, kN2, nN3, kN3, N2, N4, N5, N6, N7, rfl, E17⟩
  clear q0 q1 q2 q3 q4 q5 q6 q7 q8 q9 q10 q11 q12 q13
  have A17 := (A16.al (.cells #[.slice dW1 nW1 kW1, .slice dW2 nW2 kW2, .int .i64 W2, .slice dW3 nW3 kW3, .int .i64 W4, .int .i64 W5, .int .i64 W6, .int .i64 W7, .int .i64 W8, .int .i64 W9, .int .i64 W10, .int .i64 W11, .int .i64 W12, .int .i64 W13] 41)).ex E17
  have B17 := (B16.al (.cells #[.slice dW1 nW1 kW1, .slice dW2 nW2 kW2, .int .i64 W2, .slice dW3 nW3 kW3, .int .i64 W4, .int .i64 W5, .int .i64 W6, .int .i64 W7, .int .i64 W8, .int .i64 W9, .int .i64 W10, .int .i64 W11, .int .i64 W12, .int .i64 W13] 41)).ex E17
  have S17 := (S16.al (.cells #[.slice dW1 nW1 kW1, .slice dW2 nW2 kW2, .int .i64 W2, .slice dW3 nW3 kW3, .int .i64 W4, .int .i64 W5, .int .i64 W6, .int .i64 W7, .int .i64 W8, .int .i64 W9, .int .i64 W10, .int .i64 W11, .int .i64 W12, .int .i64 W13] 41)).ex E17
  have M17 := (M16.al (.cells #[.slice dW1 nW1 kW1, .slice dW2 nW2 kW2, .int .i64 W2, .slice dW3 nW3 kW3, .int .i64 W4, .int .i64 W5, .int .i64 W6, .int .i64 W7, .int .i64 W8, .int .i64 W9, .int .i64 W10, .int .i64 W11, .int .i64 W12, .int .i64 W13] 41)).ex E17
  have W17 := Blk.of E17
  have Y17 : Ext w3 w17 := Y16.comp E17.old
  have cB17 := fun ob => (((Z16.comp E17.old).alloc ob).cell (p := ⟨bB, oB + 5, none⟩) hbB).trans cB
  have cM17 := fun ob => (((Y11.comp E17.old).alloc ob).cell (p := ⟨bM, oM + 2, none⟩) hbM).trans cM
  have q0 := fun ob => Blk.c (A17.al ob) 0 (v := .slice (some ⟨bA, oA, none⟩) 128 kA1) rfl
  have q1 := fun ob => Blk.c (A17.al ob) 1 (v := .slice dA2 nA2 kA2) rfl
  have q2 := fun ob => Blk.c (A17.al ob) 2 (v := .int .i64 A2) rfl
  have q3 := fun ob => Blk.c (A17.al ob) 3 (v := .slice dA3 nA3 kA3) rfl
  have q4 := fun ob => Blk.c (A17.al ob) 4 (v := .int .i64 1) rfl
  have q5 := fun ob => Blk.c (A17.al ob) 5 (v := .int .i64 A5) rfl
  have q6 := fun ob => Blk.c (A17.al ob) 6 (v := .int .i64 2) rfl
  have q7 := fun ob => Blk.c (A17.al ob) 7 (v := .int .i64 12583560) rfl
  have q8 := fun ob => Blk.c (A17.al ob) 8 (v := .int .i64 A8) rfl
  have q9 := fun ob => Blk.c (A17.al ob) 9 (v := .int .i64 A9) rfl
  have q10 := fun ob => Blk.c (A17.al ob) 10 (v := .int .i64 A10) rfl
  have q11 := fun ob => Blk.c (A17.al ob) 11 (v := .int .i64 A11) rfl
  have q12 := fun ob => Blk.c (A17.al ob) 12 (v := .int .i64 A12) rfl
  have q13 := fun ob => Blk.c (A17.al ob) 13 (v := .int .i64 A13) rfl
  have r0 := fun ob => Blk.c (B17.al ob) 0 (v := .slice (some ⟨bB, oB, none⟩) 128 kB1) rfl
  have r4 := fun ob => Blk.c (B17.al ob) 4 (v := .int .i64 6) rfl
  have r5 := fun ob => Blk.c (B17.al ob) 5 (v := .int .i64 8) rfl
  have r12 := fun ob => Blk.c (B17.al ob) 12 (v := .int .i64 1) rfl
  have s4 := fun ob => Blk.c (S17.al ob) 4 (v := .int .i64 8) rfl
  have t0 := fun ob => Blk.c (M17.al ob) 0 (v := .slice (some ⟨bM, oM, none⟩) 128 kM1) rfl
  have t6 := fun ob => Blk.c (M17.al ob) 6 (v := .int .i64 0) rfl
  have u0 := fun ob => Blk.c (W17.al ob) 0 (v := .slice dW1 nW1 kW1) rfl
  have u1 := fun ob => Blk.c (W17.al ob) 1 (v := .slice dW2 nW2 kW2) rfl
  have u2 := fun ob => Blk.c (W17.al ob) 2 (v := .int .i64 W2) rfl
  have u3 := fun ob => Blk.c (W17.al ob) 3 (v := .slice dW3 nW3 kW3) rfl
  have u4 := fun ob => Blk.c (W17.al ob) 4 (v := .int .i64 W4) rfl
  have u5 := fun ob => Blk.c (W17.al ob) 5 (v := .int .i64 W5) rfl
  have u6 := fun ob => Blk.c (W17.al ob) 6 (v := .int .i64 W6) rfl
  have u7 := fun ob => Blk.c (W17.al ob) 7 (v := .int .i64 W7) rfl
  have u8 := fun ob => Blk.c (W17.al ob) 8 (v := .int .i64 W8) rfl
  have u9 := fun ob => Blk.c (W17.al ob) 9 (v := .int .i64 W9) rfl
  have u10 := fun ob => Blk.c (W17.al ob) 10 (v := .int .i64 W10) rfl
  have u11 := fun ob => Blk.c (W17.al ob) 11 (v := .int .i64 W11) rfl
  have u12 := fun ob => Blk.c (W17.al ob) 12 (v := .int .i64 W12) rfl
  have u13 := fun ob => Blk.c (W17.al ob) 13 (v := .int .i64 W13) rfl
  have HY := Lib.hid (And.intro Y17 (And.intro (PW.ext E17.old) (PA.ext Y17)))
  clear A16 B16 S16 M16 A17 B17 S17 M17 W17 Y11 Y16 Z16 E17 Y17 cB cM PW PA PB PM hbB hbM
  as_aux_lemma =>
  go_wp2_with (go_at_call 27; refine (pstates_same _ _ (minorsP 1 sA) _ (HY.out.2.1.ext (by repeat (first | with_reducible exact Ext.refl _ | with_reducible refine Ext.alloc ?_ _ | with_reducible refine Below.drew ?_))) (HY.out.2.2.ext (by repeat (first | with_reducible exact Ext.refl _ | with_reducible refine Ext.alloc ?_ _ | with_reducible refine Below.drew ?_))) (validP_bd (minorsP_valid 1 val_A))).mono ?_; rintro e w18 ⟨rfl, E18⟩)
  go_ret
  exact ⟨rfl, (X3.comp HY.out.1).comp E18.old⟩
end Go.Proofs.Ytjfggepgjpdebaa

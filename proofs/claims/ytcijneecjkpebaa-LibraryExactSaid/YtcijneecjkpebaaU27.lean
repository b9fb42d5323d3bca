import Derived.Test.YtcijneecjkpebaaU12
set_option linter.unusedVariables false
set_option linter.unusedSimpArgs false
/- Layer 8: Code. -/
namespace Go.Proofs.Ytcijneecjkpebaa
open Go.RowKit Go.Q Go.Maps
set_option maxRecDepth 100000 in
set_option maxHeartbeats 8000000 in
theorem lb_code3 (w : World) : Calls Try.prog 15 #[.int .i64 3] w (CodeRes (codeQ 3) 0 w) := by
  have hmm := @run_makeMap Try.prog
  go_enter Try.func15, Try.ntmps15
  go_upto_region 10 with fail
  obtain ⟨X, hX⟩ : ∃ X, (((w.alloc (.cells #[.slice none 0 0, .slice none 0 0, .int .i64 0, .int .i64 0, .int .i64 0, .slice none 0 0] 24)).alloc (.map #[] 0)).alloc (.cells #[.slice none 0 0, .slice none 0 0, .int .i64 0, .int .i64 15, .int .i64 0, .slice none 0 0, .map (some (w.heap.size + 1))] 91)) = X := ⟨_, rfl⟩
  have E0 : Ext w X := by rw [← hX]; exact (by repeat (first | with_reducible exact Ext.refl _ | with_reducible refine Ext.alloc ?_ _ | with_reducible refine Below.drew ?_))
  have hm0 : MapF encK X (w.heap.size + 1) (assocF []) := by
    rw [← hX]
    have h := MapF.made (enc := encK) (w.alloc (.cells #[.slice none 0 0, .slice none 0 0, .int .i64 0, .int .i64 0, .int .i64 0, .slice none 0 0] 24))
    simp only [World.size_alloc] at h
    exact (h.congr fun _ => rfl).ext ((Ext.refl _).alloc _)
  have hb0 : Blk X (w.heap.size + 1 + 1) #[.slice none 0 0, .slice none 0 0, .int .i64 0, .int .i64 15, .int .i64 0, .slice none 0 0, .map (some ((w.heap.size + 1)))] 91 := by
    rw [← hX]
    have h := Blk.nw ((w.alloc (.cells #[.slice none 0 0, .slice none 0 0, .int .i64 0, .int .i64 0, .int .i64 0, .slice none 0 0] 24)).alloc (.map #[] 0)) #[.slice none 0 0, .slice none 0 0, .int .i64 0, .int .i64 15, .int .i64 0, .slice none 0 0, .map (some ((w.heap.size + 1)))] 91
    simp only [World.size_alloc] at h
    exact h
  have hr0 : Blk X w.heap.size #[.slice none 0 0, .slice none 0 0, .int .i64 0, .int .i64 0, .int .i64 0, .slice none 0 0] 24 := by
    rw [← hX]
    exact Blk.of (by repeat (first | with_reducible exact Ext.refl _ | with_reducible refine Ext.alloc ?_ _ | with_reducible refine Below.drew ?_))
  have hmw : w.heap.size < w.heap.size + 1 := by omega
  rw [hX]
  clear hX hmm
  generalize hbx : w.heap.size + 1 + 1 = b at *
  generalize hmbx : w.heap.size + 1 = mb at *
  have hC0 : BdC X mb b [] [] [] 15 0 mb [] := ⟨_, _, _, ⟨hb0, World.ownsRow_nil _ _ _ _, World.ownsRow_nil _ _ _ _, World.ownsRow_nil _ _ _ _, by simp [Value.ownBlock], by simp [Value.ownBlock], by simp [Value.ownBlock], .inl rfl, .inl rfl, .inl rfl⟩, hm0, by omega, Nat.le_refl _⟩
  have hmX : mb ≤ X.heap.size := Nat.le_of_lt hm0.lt
  have HB0 := Lib.hid (Below.refl mb X)
  have HC0 := Lib.hid hC0
  have HE0 := Lib.hid E0
  have HR0 := Lib.hid hr0
  clear hm0 hb0 hC0 E0 hr0 hbx hmbx
  go_wp2_with fail
  have hcl1 := lb_cell mb b [] [] [] 15 0 mb [] (some ⟨X.heap.size, 0, none⟩) 3 3 [sHalf, sOne, sFirst] (X.alloc (.cells #[.string { data := #[104, 97, 108, 102] }, .string { data := #[111, 110, 101] }, .string { data := #[102, 105, 114, 115, 116] }] 9)) (bdc_ext HC0.out ((Ext.refl _).alloc _)) rfl (by decide) (by decide) (by decide) (by decide +kernel) (strs_new X [sHalf, sOne, sFirst])
  refine hcl1.mono ?_
  rintro e w1 ⟨rfl, hC, hK⟩
  clear hcl1
  have HB1 := Lib.hid (show Below mb X w1 from (HB0.out.trans ((Ext.refl X).alloc (.cells #[.string { data := #[104, 97, 108, 102] }, .string { data := #[111, 110, 101] }, .string { data := #[102, 105, 114, 115, 116] }] 9) |>.mono (Nat.le_trans hmX HB0.out.size))).trans (hK.below (Below.refl mb _) (Nat.le_trans (Nat.le_trans hmX HB0.out.size) (ext_size ((Ext.refl X).alloc _))) fun k hk => by omega))
  have HC1 := Lib.hid hC
  clear hC hK
  go_wp2_with fail
  have hcl2 := lb_cell mb b [] [] [] 15 0 mb (addN 15 [] [sHalf, sOne, sFirst]) none 0 0 [] w1 HC1.out rfl (by decide) (by decide) (by decide) (by decide +kernel) (.inl rfl)
  refine hcl2.mono ?_
  rintro e w2 ⟨rfl, hC, hK⟩
  clear hcl2
  have HB2 := Lib.hid (show Below mb X w2 from HB1.out.trans (hK.below (Below.refl mb _) (Nat.le_trans hmX HB1.out.size) fun k hk => by omega))
  have HC2 := Lib.hid hC
  clear hC hK
  go_wp2_with fail
  have hcl3 := lb_cell mb b [] [] [] 15 0 mb (addN 15 (addN 15 [] [sHalf, sOne, sFirst]) []) (some ⟨w2.heap.size, 0, none⟩) 4 4 [sResult, sTry, sStep, sTest] (w2.alloc (.cells #[.string { data := #[114, 101, 115, 117, 108, 116] }, .string { data := #[116, 114, 121] }, .string { data := #[115, 116, 101, 112] }, .string { data := #[116, 101, 115, 116] }] 9)) (bdc_ext HC2.out ((Ext.refl _).alloc _)) rfl (by decide) (by decide) (by decide) (by decide +kernel) (strs_new w2 [sResult, sTry, sStep, sTest])
  refine hcl3.mono ?_
  rintro e w3 ⟨rfl, hC, hK⟩
  clear hcl3
  have HB3 := Lib.hid (show Below mb X w3 from (HB2.out.trans ((Ext.refl w2).alloc (.cells #[.string { data := #[114, 101, 115, 117, 108, 116] }, .string { data := #[116, 114, 121] }, .string { data := #[115, 116, 101, 112] }, .string { data := #[116, 101, 115, 116] }] 9) |>.mono (Nat.le_trans hmX HB2.out.size))).trans (hK.below (Below.refl mb _) (Nat.le_trans (Nat.le_trans hmX HB2.out.size) (ext_size ((Ext.refl w2).alloc _))) fun k hk => by omega))
  have HC3 := Lib.hid hC
  clear hC hK
  have hL : (addN 15 (addN 15 (addN 15 [] [sHalf, sOne, sFirst]) []) [sResult, sTry, sStep, sTest]) = [(sHalf, 16), (sOne, 17), (sFirst, 18), (sResult, 19), (sTry, 20), (sStep, 21), (sTest, 22)] := by rfl
  rw [hL] at HC3
  clear hL
  go_wp2_with fail
  have hcl4 := lb_emit mb b [] [] [] 15 0 mb [(sHalf, 16), (sOne, 17), (sFirst, 18), (sResult, 19), (sTry, 20), (sStep, 21), (sTest, 22)] 1 16 21 1 sHalf sStep w3 HC3.out (by decide) (by decide) (by kernel_rfl) (by kernel_rfl) (by decide)
  refine hcl4.mono ?_
  rintro e w4 ⟨rfl, hC, hK⟩
  clear hcl4
  have HB4 := Lib.hid (HB3.out.trans hK)
  have HC4 := Lib.hid (show BdC w4 mb b [Q.written ⟨1, 16, 21, 1⟩] [7] [] 15 0 mb [(sHalf, 16), (sOne, 17), (sFirst, 18), (sResult, 19), (sTry, 20), (sStep, 21), (sTest, 22)] from hC)
  clear hC hK HB3 HC3
  go_wp2_with fail
  have hcl5 := lb_emit mb b [Q.written ⟨1, 16, 21, 1⟩] [7] [] 15 0 mb [(sHalf, 16), (sOne, 17), (sFirst, 18), (sResult, 19), (sTry, 20), (sStep, 21), (sTest, 22)] 3 19 19 2 sResult sResult w4 HC4.out (by decide) (by decide) (by kernel_rfl) (by kernel_rfl) (by decide)
  refine hcl5.mono ?_
  rintro e w5 ⟨rfl, hC, hK⟩
  clear hcl5
  have HB5 := Lib.hid (HB4.out.trans hK)
  have HC5 := Lib.hid (show BdC w5 mb b [Q.written ⟨1, 16, 21, 1⟩, Q.written ⟨3, 19, 19, 2⟩] [7, 7] [] 15 0 mb [(sHalf, 16), (sOne, 17), (sFirst, 18), (sResult, 19), (sTry, 20), (sStep, 21), (sTest, 22)] from hC)
  clear hC hK HB4 HC4
  go_wp2_with fail
  have hcl6 := lb_emit mb b [Q.written ⟨1, 16, 21, 1⟩, Q.written ⟨3, 19, 19, 2⟩] [7, 7] [] 15 0 mb [(sHalf, 16), (sOne, 17), (sFirst, 18), (sResult, 19), (sTry, 20), (sStep, 21), (sTest, 22)] 1 19 20 3 sResult sTry w5 HC5.out (by decide) (by decide) (by kernel_rfl) (by kernel_rfl) (by decide)
  refine hcl6.mono ?_
  rintro e w6 ⟨rfl, hC, hK⟩
  clear hcl6
  have HB6 := Lib.hid (HB5.out.trans hK)
  have HC6 := Lib.hid (show BdC w6 mb b [Q.written ⟨1, 16, 21, 1⟩, Q.written ⟨3, 19, 19, 2⟩, Q.written ⟨1, 19, 20, 3⟩] [7, 7, 7] [] 15 0 mb [(sHalf, 16), (sOne, 17), (sFirst, 18), (sResult, 19), (sTry, 20), (sStep, 21), (sTest, 22)] from hC)
  clear hC hK HB5 HC5
  go_wp2_with fail
  have hcl7 := lb_emit mb b [Q.written ⟨1, 16, 21, 1⟩, Q.written ⟨3, 19, 19, 2⟩, Q.written ⟨1, 19, 20, 3⟩] [7, 7, 7] [] 15 0 mb [(sHalf, 16), (sOne, 17), (sFirst, 18), (sResult, 19), (sTry, 20), (sStep, 21), (sTest, 22)] 2 21 20 4 sStep sTry w6 HC6.out (by decide) (by decide) (by kernel_rfl) (by kernel_rfl) (by decide)
  refine hcl7.mono ?_
  rintro e w7 ⟨rfl, hC, hK⟩
  clear hcl7
  have HB7 := Lib.hid (HB6.out.trans hK)
  have HC7 := Lib.hid (show BdC w7 mb b [Q.written ⟨1, 16, 21, 1⟩, Q.written ⟨3, 19, 19, 2⟩, Q.written ⟨1, 19, 20, 3⟩, Q.written ⟨2, 21, 20, 4⟩] [7, 7, 7, 7] [] 15 0 mb [(sHalf, 16), (sOne, 17), (sFirst, 18), (sResult, 19), (sTry, 20), (sStep, 21), (sTest, 22)] from hC)
  clear hC hK HB6 HC6
  go_wp2_with fail
  have hcl8 := lb_emit mb b [Q.written ⟨1, 16, 21, 1⟩, Q.written ⟨3, 19, 19, 2⟩, Q.written ⟨1, 19, 20, 3⟩, Q.written ⟨2, 21, 20, 4⟩] [7, 7, 7, 7] [] 15 0 mb [(sHalf, 16), (sOne, 17), (sFirst, 18), (sResult, 19), (sTry, 20), (sStep, 21), (sTest, 22)] 1 20 22 5 sTry sTest w7 HC7.out (by decide) (by decide) (by kernel_rfl) (by kernel_rfl) (by decide)
  refine hcl8.mono ?_
  rintro e w8 ⟨rfl, hC, hK⟩
  clear hcl8
  have HB8 := Lib.hid (HB7.out.trans hK)
  have HC8 := Lib.hid (show BdC w8 mb b [Q.written ⟨1, 16, 21, 1⟩, Q.written ⟨3, 19, 19, 2⟩, Q.written ⟨1, 19, 20, 3⟩, Q.written ⟨2, 21, 20, 4⟩, Q.written ⟨1, 20, 22, 5⟩] [7, 7, 7, 7, 7] [] 15 0 mb [(sHalf, 16), (sOne, 17), (sFirst, 18), (sResult, 19), (sTry, 20), (sStep, 21), (sTest, 22)] from hC)
  clear hC hK HB7 HC7
  go_wp2_with fail
  have hcl9 := lb_emit mb b [Q.written ⟨1, 16, 21, 1⟩, Q.written ⟨3, 19, 19, 2⟩, Q.written ⟨1, 19, 20, 3⟩, Q.written ⟨2, 21, 20, 4⟩, Q.written ⟨1, 20, 22, 5⟩] [7, 7, 7, 7, 7] [] 15 0 mb [(sHalf, 16), (sOne, 17), (sFirst, 18), (sResult, 19), (sTry, 20), (sStep, 21), (sTest, 22)] 4 20 22 6 sTry sTest w8 HC8.out (by decide) (by decide) (by kernel_rfl) (by kernel_rfl) (by decide)
  refine hcl9.mono ?_
  rintro e w9 ⟨rfl, hC, hK⟩
  clear hcl9
  have HB9 := Lib.hid (HB8.out.trans hK)
  have HC9 := Lib.hid (show BdC w9 mb b [Q.written ⟨1, 16, 21, 1⟩, Q.written ⟨3, 19, 19, 2⟩, Q.written ⟨1, 19, 20, 3⟩, Q.written ⟨2, 21, 20, 4⟩, Q.written ⟨1, 20, 22, 5⟩, Q.written ⟨4, 20, 22, 6⟩] [7, 7, 7, 7, 7, 7] [] 15 0 mb [(sHalf, 16), (sOne, 17), (sFirst, 18), (sResult, 19), (sTry, 20), (sStep, 21), (sTest, 22)] from hC)
  clear hC hK HB8 HC8
  go_wp2_with fail
  have hcl10 := lb_emit mb b [Q.written ⟨1, 16, 21, 1⟩, Q.written ⟨3, 19, 19, 2⟩, Q.written ⟨1, 19, 20, 3⟩, Q.written ⟨2, 21, 20, 4⟩, Q.written ⟨1, 20, 22, 5⟩, Q.written ⟨4, 20, 22, 6⟩] [7, 7, 7, 7, 7, 7] [] 15 0 mb [(sHalf, 16), (sOne, 17), (sFirst, 18), (sResult, 19), (sTry, 20), (sStep, 21), (sTest, 22)] 4 20 22 7 sTry sTest w9 HC9.out (by decide) (by decide) (by kernel_rfl) (by kernel_rfl) (by decide)
  refine hcl10.mono ?_
  rintro e w10 ⟨rfl, hC, hK⟩
  clear hcl10
  have HB10 := Lib.hid (HB9.out.trans hK)
  have HC10 := Lib.hid (show BdC w10 mb b [Q.written ⟨1, 16, 21, 1⟩, Q.written ⟨3, 19, 19, 2⟩, Q.written ⟨1, 19, 20, 3⟩, Q.written ⟨2, 21, 20, 4⟩, Q.written ⟨1, 20, 22, 5⟩, Q.written ⟨4, 20, 22, 6⟩, Q.written ⟨4, 20, 22, 7⟩] [7, 7, 7, 7, 7, 7, 7] [] 15 0 mb [(sHalf, 16), (sOne, 17), (sFirst, 18), (sResult, 19), (sTry, 20), (sStep, 21), (sTest, 22)] from hC)
  clear hC hK HB9 HC9
  go_wp2_with fail
  have hcl11 := lb_emit mb b [Q.written ⟨1, 16, 21, 1⟩, Q.written ⟨3, 19, 19, 2⟩, Q.written ⟨1, 19, 20, 3⟩, Q.written ⟨2, 21, 20, 4⟩, Q.written ⟨1, 20, 22, 5⟩, Q.written ⟨4, 20, 22, 6⟩, Q.written ⟨4, 20, 22, 7⟩] [7, 7, 7, 7, 7, 7, 7] [] 15 0 mb [(sHalf, 16), (sOne, 17), (sFirst, 18), (sResult, 19), (sTry, 20), (sStep, 21), (sTest, 22)] 3 18 22 8 sFirst sTest w10 HC10.out (by decide) (by decide) (by kernel_rfl) (by kernel_rfl) (by decide)
  refine hcl11.mono ?_
  rintro e w11 ⟨rfl, hC, hK⟩
  clear hcl11
  have HB11 := Lib.hid (HB10.out.trans hK)
  have HC11 := Lib.hid (show BdC w11 mb b [Q.written ⟨1, 16, 21, 1⟩, Q.written ⟨3, 19, 19, 2⟩, Q.written ⟨1, 19, 20, 3⟩, Q.written ⟨2, 21, 20, 4⟩, Q.written ⟨1, 20, 22, 5⟩, Q.written ⟨4, 20, 22, 6⟩, Q.written ⟨4, 20, 22, 7⟩, Q.written ⟨3, 18, 22, 8⟩] [7, 7, 7, 7, 7, 7, 7, 7] [] 15 0 mb [(sHalf, 16), (sOne, 17), (sFirst, 18), (sResult, 19), (sTry, 20), (sStep, 21), (sTest, 22)] from hC)
  clear hC hK HB10 HC10
  go_wp2_with fail
  have hcl12 := lb_emit mb b [Q.written ⟨1, 16, 21, 1⟩, Q.written ⟨3, 19, 19, 2⟩, Q.written ⟨1, 19, 20, 3⟩, Q.written ⟨2, 21, 20, 4⟩, Q.written ⟨1, 20, 22, 5⟩, Q.written ⟨4, 20, 22, 6⟩, Q.written ⟨4, 20, 22, 7⟩, Q.written ⟨3, 18, 22, 8⟩] [7, 7, 7, 7, 7, 7, 7, 7] [] 15 0 mb [(sHalf, 16), (sOne, 17), (sFirst, 18), (sResult, 19), (sTry, 20), (sStep, 21), (sTest, 22)] 3 17 22 9 sOne sTest w11 HC11.out (by decide) (by decide) (by kernel_rfl) (by kernel_rfl) (by decide)
  refine hcl12.mono ?_
  rintro e w12 ⟨rfl, hC, hK⟩
  clear hcl12
  have HB12 := Lib.hid (HB11.out.trans hK)
  have HC12 := Lib.hid (show BdC w12 mb b [Q.written ⟨1, 16, 21, 1⟩, Q.written ⟨3, 19, 19, 2⟩, Q.written ⟨1, 19, 20, 3⟩, Q.written ⟨2, 21, 20, 4⟩, Q.written ⟨1, 20, 22, 5⟩, Q.written ⟨4, 20, 22, 6⟩, Q.written ⟨4, 20, 22, 7⟩, Q.written ⟨3, 18, 22, 8⟩, Q.written ⟨3, 17, 22, 9⟩] [7, 7, 7, 7, 7, 7, 7, 7, 7] [] 15 0 mb [(sHalf, 16), (sOne, 17), (sFirst, 18), (sResult, 19), (sTry, 20), (sStep, 21), (sTest, 22)] from hC)
  clear hC hK HB11 HC11
  go_wp2_with fail
  have hcl13 := lb_jump mb b [Q.written ⟨1, 16, 21, 1⟩, Q.written ⟨3, 19, 19, 2⟩, Q.written ⟨1, 19, 20, 3⟩, Q.written ⟨2, 21, 20, 4⟩, Q.written ⟨1, 20, 22, 5⟩, Q.written ⟨4, 20, 22, 6⟩, Q.written ⟨4, 20, 22, 7⟩, Q.written ⟨3, 18, 22, 8⟩, Q.written ⟨3, 17, 22, 9⟩] [7, 7, 7, 7, 7, 7, 7, 7, 7] [] 15 0 mb [(sHalf, 16), (sOne, 17), (sFirst, 18), (sResult, 19), (sTry, 20), (sStep, 21), (sTest, 22)] 22 10 11 sTest w12 HC12.out (by decide) (by decide) (by kernel_rfl) (by decide)
  refine hcl13.mono ?_
  rintro e w13 ⟨rfl, hC, hK⟩
  clear hcl13
  have HB13 := Lib.hid (HB12.out.trans hK)
  have HC13 := Lib.hid (show BdC w13 mb b [Q.written ⟨1, 16, 21, 1⟩, Q.written ⟨3, 19, 19, 2⟩, Q.written ⟨1, 19, 20, 3⟩, Q.written ⟨2, 21, 20, 4⟩, Q.written ⟨1, 20, 22, 5⟩, Q.written ⟨4, 20, 22, 6⟩, Q.written ⟨4, 20, 22, 7⟩, Q.written ⟨3, 18, 22, 8⟩, Q.written ⟨3, 17, 22, 9⟩, Q.written ⟨5, 22, 10, 11⟩] [7, 7, 7, 7, 7, 7, 7, 7, 7, 7] [] 15 0 mb [(sHalf, 16), (sOne, 17), (sFirst, 18), (sResult, 19), (sTry, 20), (sStep, 21), (sTest, 22)] from hC)
  clear hC hK HB12 HC12
  go_wp2_with fail
  have hcl14 := lb_emit mb b [Q.written ⟨1, 16, 21, 1⟩, Q.written ⟨3, 19, 19, 2⟩, Q.written ⟨1, 19, 20, 3⟩, Q.written ⟨2, 21, 20, 4⟩, Q.written ⟨1, 20, 22, 5⟩, Q.written ⟨4, 20, 22, 6⟩, Q.written ⟨4, 20, 22, 7⟩, Q.written ⟨3, 18, 22, 8⟩, Q.written ⟨3, 17, 22, 9⟩, Q.written ⟨5, 22, 10, 11⟩] [7, 7, 7, 7, 7, 7, 7, 7, 7, 7] [] 15 0 mb [(sHalf, 16), (sOne, 17), (sFirst, 18), (sResult, 19), (sTry, 20), (sStep, 21), (sTest, 22)] 1 20 19 11 sTry sResult w13 HC13.out (by decide) (by decide) (by kernel_rfl) (by kernel_rfl) (by decide)
  refine hcl14.mono ?_
  rintro e w14 ⟨rfl, hC, hK⟩
  clear hcl14
  have HB14 := Lib.hid (HB13.out.trans hK)
  have HC14 := Lib.hid (show BdC w14 mb b [Q.written ⟨1, 16, 21, 1⟩, Q.written ⟨3, 19, 19, 2⟩, Q.written ⟨1, 19, 20, 3⟩, Q.written ⟨2, 21, 20, 4⟩, Q.written ⟨1, 20, 22, 5⟩, Q.written ⟨4, 20, 22, 6⟩, Q.written ⟨4, 20, 22, 7⟩, Q.written ⟨3, 18, 22, 8⟩, Q.written ⟨3, 17, 22, 9⟩, Q.written ⟨5, 22, 10, 11⟩, Q.written ⟨1, 20, 19, 11⟩] [7, 7, 7, 7, 7, 7, 7, 7, 7, 7, 7] [] 15 0 mb [(sHalf, 16), (sOne, 17), (sFirst, 18), (sResult, 19), (sTry, 20), (sStep, 21), (sTest, 22)] from hC)
  clear hC hK HB13 HC13
  go_wp2_with fail
  have hcl15 := lb_emit mb b [Q.written ⟨1, 16, 21, 1⟩, Q.written ⟨3, 19, 19, 2⟩, Q.written ⟨1, 19, 20, 3⟩, Q.written ⟨2, 21, 20, 4⟩, Q.written ⟨1, 20, 22, 5⟩, Q.written ⟨4, 20, 22, 6⟩, Q.written ⟨4, 20, 22, 7⟩, Q.written ⟨3, 18, 22, 8⟩, Q.written ⟨3, 17, 22, 9⟩, Q.written ⟨5, 22, 10, 11⟩, Q.written ⟨1, 20, 19, 11⟩] [7, 7, 7, 7, 7, 7, 7, 7, 7, 7, 7] [] 15 0 mb [(sHalf, 16), (sOne, 17), (sFirst, 18), (sResult, 19), (sTry, 20), (sStep, 21), (sTest, 22)] 4 16 21 12 sHalf sStep w14 HC14.out (by decide) (by decide) (by kernel_rfl) (by kernel_rfl) (by decide)
  refine hcl15.mono ?_
  rintro e w15 ⟨rfl, hC, hK⟩
  clear hcl15
  have HB15 := Lib.hid (HB14.out.trans hK)
  have HC15 := Lib.hid (show BdC w15 mb b [Q.written ⟨1, 16, 21, 1⟩, Q.written ⟨3, 19, 19, 2⟩, Q.written ⟨1, 19, 20, 3⟩, Q.written ⟨2, 21, 20, 4⟩, Q.written ⟨1, 20, 22, 5⟩, Q.written ⟨4, 20, 22, 6⟩, Q.written ⟨4, 20, 22, 7⟩, Q.written ⟨3, 18, 22, 8⟩, Q.written ⟨3, 17, 22, 9⟩, Q.written ⟨5, 22, 10, 11⟩, Q.written ⟨1, 20, 19, 11⟩, Q.written ⟨4, 16, 21, 12⟩] [7, 7, 7, 7, 7, 7, 7, 7, 7, 7, 7, 7] [] 15 0 mb [(sHalf, 16), (sOne, 17), (sFirst, 18), (sResult, 19), (sTry, 20), (sStep, 21), (sTest, 22)] from hC)
  clear hC hK HB14 HC14
  go_wp2_with fail
  have hcl16 := lb_emit mb b [Q.written ⟨1, 16, 21, 1⟩, Q.written ⟨3, 19, 19, 2⟩, Q.written ⟨1, 19, 20, 3⟩, Q.written ⟨2, 21, 20, 4⟩, Q.written ⟨1, 20, 22, 5⟩, Q.written ⟨4, 20, 22, 6⟩, Q.written ⟨4, 20, 22, 7⟩, Q.written ⟨3, 18, 22, 8⟩, Q.written ⟨3, 17, 22, 9⟩, Q.written ⟨5, 22, 10, 11⟩, Q.written ⟨1, 20, 19, 11⟩, Q.written ⟨4, 16, 21, 12⟩] [7, 7, 7, 7, 7, 7, 7, 7, 7, 7, 7, 7] [] 15 0 mb [(sHalf, 16), (sOne, 17), (sFirst, 18), (sResult, 19), (sTry, 20), (sStep, 21), (sTest, 22)] 1 21 22 13 sStep sTest w15 HC15.out (by decide) (by decide) (by kernel_rfl) (by kernel_rfl) (by decide)
  refine hcl16.mono ?_
  rintro e w16 ⟨rfl, hC, hK⟩
  clear hcl16
  have HB16 := Lib.hid (HB15.out.trans hK)
  have HC16 := Lib.hid (show BdC w16 mb b [Q.written ⟨1, 16, 21, 1⟩, Q.written ⟨3, 19, 19, 2⟩, Q.written ⟨1, 19, 20, 3⟩, Q.written ⟨2, 21, 20, 4⟩, Q.written ⟨1, 20, 22, 5⟩, Q.written ⟨4, 20, 22, 6⟩, Q.written ⟨4, 20, 22, 7⟩, Q.written ⟨3, 18, 22, 8⟩, Q.written ⟨3, 17, 22, 9⟩, Q.written ⟨5, 22, 10, 11⟩, Q.written ⟨1, 20, 19, 11⟩, Q.written ⟨4, 16, 21, 12⟩, Q.written ⟨1, 21, 22, 13⟩] [7, 7, 7, 7, 7, 7, 7, 7, 7, 7, 7, 7, 7] [] 15 0 mb [(sHalf, 16), (sOne, 17), (sFirst, 18), (sResult, 19), (sTry, 20), (sStep, 21), (sTest, 22)] from hC)
  clear hC hK HB15 HC15
  go_wp2_with fail
  have hcl17 := lb_emit mb b [Q.written ⟨1, 16, 21, 1⟩, Q.written ⟨3, 19, 19, 2⟩, Q.written ⟨1, 19, 20, 3⟩, Q.written ⟨2, 21, 20, 4⟩, Q.written ⟨1, 20, 22, 5⟩, Q.written ⟨4, 20, 22, 6⟩, Q.written ⟨4, 20, 22, 7⟩, Q.written ⟨3, 18, 22, 8⟩, Q.written ⟨3, 17, 22, 9⟩, Q.written ⟨5, 22, 10, 11⟩, Q.written ⟨1, 20, 19, 11⟩, Q.written ⟨4, 16, 21, 12⟩, Q.written ⟨1, 21, 22, 13⟩] [7, 7, 7, 7, 7, 7, 7, 7, 7, 7, 7, 7, 7] [] 15 0 mb [(sHalf, 16), (sOne, 17), (sFirst, 18), (sResult, 19), (sTry, 20), (sStep, 21), (sTest, 22)] 3 17 22 14 sOne sTest w16 HC16.out (by decide) (by decide) (by kernel_rfl) (by kernel_rfl) (by decide)
  refine hcl17.mono ?_
  rintro e w17 ⟨rfl, hC, hK⟩
  clear hcl17
  have HB17 := Lib.hid (HB16.out.trans hK)
  have HC17 := Lib.hid (show BdC w17 mb b [Q.written ⟨1, 16, 21, 1⟩, Q.written ⟨3, 19, 19, 2⟩, Q.written ⟨1, 19, 20, 3⟩, Q.written ⟨2, 21, 20, 4⟩, Q.written ⟨1, 20, 22, 5⟩, Q.written ⟨4, 20, 22, 6⟩, Q.written ⟨4, 20, 22, 7⟩, Q.written ⟨3, 18, 22, 8⟩, Q.written ⟨3, 17, 22, 9⟩, Q.written ⟨5, 22, 10, 11⟩, Q.written ⟨1, 20, 19, 11⟩, Q.written ⟨4, 16, 21, 12⟩, Q.written ⟨1, 21, 22, 13⟩, Q.written ⟨3, 17, 22, 14⟩] [7, 7, 7, 7, 7, 7, 7, 7, 7, 7, 7, 7, 7, 7] [] 15 0 mb [(sHalf, 16), (sOne, 17), (sFirst, 18), (sResult, 19), (sTry, 20), (sStep, 21), (sTest, 22)] from hC)
  clear hC hK HB16 HC16
  obtain ⟨v1, v2, v3, hH, hmF, hbB, hmbB⟩ := HC17.out
  have q3 := hH.blk.c 3 (v := .int .i64 15) rfl
  clear hH hmF hbB hmbB
  go_wp2_with fail
  have hcl18 := lb_jump mb b [Q.written ⟨1, 16, 21, 1⟩, Q.written ⟨3, 19, 19, 2⟩, Q.written ⟨1, 19, 20, 3⟩, Q.written ⟨2, 21, 20, 4⟩, Q.written ⟨1, 20, 22, 5⟩, Q.written ⟨4, 20, 22, 6⟩, Q.written ⟨4, 20, 22, 7⟩, Q.written ⟨3, 18, 22, 8⟩, Q.written ⟨3, 17, 22, 9⟩, Q.written ⟨5, 22, 10, 11⟩, Q.written ⟨1, 20, 19, 11⟩, Q.written ⟨4, 16, 21, 12⟩, Q.written ⟨1, 21, 22, 13⟩, Q.written ⟨3, 17, 22, 14⟩] [7, 7, 7, 7, 7, 7, 7, 7, 7, 7, 7, 7, 7, 7] [] 15 0 mb [(sHalf, 16), (sOne, 17), (sFirst, 18), (sResult, 19), (sTry, 20), (sStep, 21), (sTest, 22)] 22 15 2 sTest w17 HC17.out (by decide) (by decide) (by kernel_rfl) (by decide)
  refine hcl18.mono ?_
  rintro e w18 ⟨rfl, hC, hK⟩
  clear hcl18
  have HB18 := Lib.hid (HB17.out.trans hK)
  have HC18 := Lib.hid (show BdC w18 mb b [Q.written ⟨1, 16, 21, 1⟩, Q.written ⟨3, 19, 19, 2⟩, Q.written ⟨1, 19, 20, 3⟩, Q.written ⟨2, 21, 20, 4⟩, Q.written ⟨1, 20, 22, 5⟩, Q.written ⟨4, 20, 22, 6⟩, Q.written ⟨4, 20, 22, 7⟩, Q.written ⟨3, 18, 22, 8⟩, Q.written ⟨3, 17, 22, 9⟩, Q.written ⟨5, 22, 10, 11⟩, Q.written ⟨1, 20, 19, 11⟩, Q.written ⟨4, 16, 21, 12⟩, Q.written ⟨1, 21, 22, 13⟩, Q.written ⟨3, 17, 22, 14⟩, Q.written ⟨5, 22, 15, 2⟩] [7, 7, 7, 7, 7, 7, 7, 7, 7, 7, 7, 7, 7, 7, 7] [] 15 0 mb [(sHalf, 16), (sOne, 17), (sFirst, 18), (sResult, 19), (sTry, 20), (sStep, 21), (sTest, 22)] from hC)
  clear hC hK HB17 HC17
  clear q3
  obtain ⟨v1, v2, v3, hH, hmF, hbB, hmbB⟩ := HC18.out
  obtain ⟨es, kk, hes, hesz⟩ := map_size hmF (by decide +kernel)
  have hln := len_str (W := w18) hes (show es.size = 7 from hesz)
  have q6 := hH.blk.c 6 (v := .map (some mb)) rfl
  have hmk : ∀ w, (Instr.makeSlice 22 (.int .i64 8) (.int .i64 8)).run Try.prog w = .ok (.slice (some ⟨w.heap.size, 0, none⟩) 8 8) (w.alloc (.cells #[.int .i64 0, .int .i64 0, .int .i64 0, .int .i64 0, .int .i64 0, .int .i64 0, .int .i64 0, .int .i64 0] 3)) := fun w => by kernel_rfl
  have HH := Lib.hid hH
  have HMF := Lib.hid hmF
  have HBB := Lib.hid (And.intro hbB hmbB)
  clear hH hmF hbB hmbB hes hesz
  go_upto_region 30 with fail
  refine wp_region_P (fun _ => false) (fun V => Blk V b #[v1, v2, .int .i64 0, .int .i64 15, .int .i64 0, v3, .map (some mb)] 91 ∧ MapF encK V mb (assocF [(sHalf, 16), (sOne, 17), (sFirst, 18), (sResult, 19), (sTry, 20), (sStep, 21), (sTest, 22)])) (by kernel_rfl) ⟨(HH.out.blk.al _).dr, (HMF.out.alloc _).same rfl⟩ fun hSX => ?_
  have EY : Ext w18 (w18.alloc (.cells #[.int .i64 0, .int .i64 0, .int .i64 0, .int .i64 0, .int .i64 0, .int .i64 0, .int .i64 0, .int .i64 0] 3)).drew := ((Ext.refl _).alloc _).drew
  have hcY : Blk (w18.alloc (.cells #[.int .i64 0, .int .i64 0, .int .i64 0, .int .i64 0, .int .i64 0, .int .i64 0, .int .i64 0, .int .i64 0] 3)).drew w18.heap.size #[.int .i64 0, .int .i64 0, .int .i64 0, .int .i64 0, .int .i64 0, .int .i64 0, .int .i64 0, .int .i64 0] 3 := (Blk.nw w18 _ _).dr
  generalize (w18.alloc (.cells #[.int .i64 0, .int .i64 0, .int .i64 0, .int .i64 0, .int .i64 0, .int .i64 0, .int .i64 0, .int .i64 0] 3)).drew = Y at *
  have hbc : b < w18.heap.size := HH.out.blk.lt
  have hmc : mb < w18.heap.size := HMF.out.lt
  have hw1 : IntKind.i64.wrap (1 : Int) = 1 := rfl
  have hw2 : IntKind.i64.wrap (2 : Int) = 2 := rfl
  clear q6 hln hmk
  obtain ⟨cb, hcb⟩ : ∃ cb, w18.heap.size = cb := ⟨_, rfl⟩
  rw [hcb] at hcY hbc hmc ⊢
  have HCB := Lib.hid hcb
  clear hcb
  refine tkPP 0 ⟨_, _, _, _, _, _⟩ ?_ rfl (by kernel_rfl) (fun _ _ _ h => h) (Or.inl ⟨by rfl, ?_⟩) ?_
  rotate_left
  · intro wX _
    go_simp
    (try with_reducible rfl)
  (try simp only [Act.put, List.setIfInBounds_toArray, List.set_cons_succ, List.set_cons_zero])
  refine tkPP 1 ⟨_, _, _, _, _, _⟩ ?_ rfl (by kernel_rfl) (fun _ _ _ h => h) (Or.inl ⟨by rfl, ?_⟩) ?_
  rotate_left
  · intro wX _
    go_simp
    (try with_reducible rfl)
  (try simp only [Act.put, List.setIfInBounds_toArray, List.set_cons_succ, List.set_cons_zero])
  refine tkPP 2 ⟨_, _, _, _, _, _⟩ ?_ rfl (by kernel_rfl) (fun _ _ _ h => h) (Or.inl ⟨by rfl, ?_⟩) ?_
  rotate_left
  · intro wX _
    go_simp
    (try with_reducible rfl)
  (try simp only [Act.put, List.setIfInBounds_toArray, List.set_cons_succ, List.set_cons_zero])
  refine tkPP 3 ⟨_, _, _, _, _, _⟩ ?_ rfl (by kernel_rfl) (fun _ _ _ h => h) (Or.inl ⟨by rfl, ?_⟩) ?_
  rotate_left
  · intro wX _
    go_simp
    (try with_reducible rfl)
  (try simp only [Act.put, List.setIfInBounds_toArray, List.set_cons_succ, List.set_cons_zero])
  refine tkP 4 ⟨_, _, _, _, _, _⟩ ?_ rfl (by kernel_rfl) (fun _ _ _ h => h) (Or.inl ⟨by rfl, ?_⟩) hSX ?_
  rotate_left
  · intro wX hS
    have hq := Blk.c hS.1 6 (v := .map (some mb)) rfl
    go_simp
    (try with_reducible rfl)
  (try simp only [Act.put, List.setIfInBounds_toArray, List.set_cons_succ, List.set_cons_zero])
  refine tkP 5 ⟨_, _, _, _, _, _⟩ ?_ rfl (by kernel_rfl) (fun _ _ _ h => h) (Or.inl ⟨by rfl, ?_⟩) hSX ?_
  rotate_left
  · intro wX hS
    have hq : (Instr.lookup 89 (.map (some mb)) (.string { data := #[104, 97, 108, 102] }) false).run Try.prog wX = .ok (.int .i64 (15 + 1)) wX := look_str (s := sHalf) hS.2 (by kernel_rfl)
    go_simp
    (try with_reducible rfl)
  (try simp only [Act.put, List.setIfInBounds_toArray, List.set_cons_succ, List.set_cons_zero])
  refine tkPP 6 ⟨_, _, _, _, _, _⟩ ?_ rfl (by kernel_rfl) (fun _ _ _ h => h) (Or.inl ⟨by rfl, ?_⟩) ?_
  rotate_left
  · intro wX _
    go_simp
    (try with_reducible rfl)
  (try simp only [Act.put, List.setIfInBounds_toArray, List.set_cons_succ, List.set_cons_zero])
  refine tkPP 7 ⟨_, _, _, _, _, _⟩ ?_ rfl (by kernel_rfl) (fun _ _ _ h => h) (Or.inl ⟨by rfl, ?_⟩) ?_
  rotate_left
  · intro wX _
    go_simp
    (try with_reducible rfl)
  (try simp only [Act.put, List.setIfInBounds_toArray, List.set_cons_succ, List.set_cons_zero])
  refine tkPP 8 ⟨_, _, _, _, _, _⟩ ?_ rfl (by kernel_rfl) (fun _ _ _ h => h) (Or.inl ⟨by rfl, ?_⟩) ?_
  rotate_left
  · intro wX _
    go_simp
    (try with_reducible rfl)
  (try simp only [Act.put, List.setIfInBounds_toArray, List.set_cons_succ, List.set_cons_zero])
  refine tkPP 9 ⟨_, _, _, _, _, _⟩ ?_ rfl (by kernel_rfl) (fun _ _ _ h => h) (Or.inl ⟨by rfl, ?_⟩) ?_
  rotate_left
  · intro wX _
    go_simp
    (try with_reducible rfl)
  (try simp only [Act.put, List.setIfInBounds_toArray, List.set_cons_succ, List.set_cons_zero])
  refine tkP 10 ⟨_, _, _, _, _, _⟩ ?_ rfl (by kernel_rfl) (fun _ _ _ h => h) (Or.inl ⟨by rfl, ?_⟩) hSX ?_
  rotate_left
  · intro wX hS
    have hq := Blk.c hS.1 3 (v := .int .i64 15) rfl
    go_simp
    (try with_reducible rfl)
  (try simp only [Act.put, List.setIfInBounds_toArray, List.set_cons_succ, List.set_cons_zero])
  refine tkPP 11 ⟨_, _, _, _, _, _⟩ ?_ rfl (by kernel_rfl) (fun _ _ _ h => h) (Or.inl ⟨by rfl, ?_⟩) ?_
  rotate_left
  · intro wX _
    go_simp
    (try with_reducible rfl)
  (try simp only [Act.put, List.setIfInBounds_toArray, List.set_cons_succ, List.set_cons_zero])
  refine tkPP 12 ⟨_, _, _, _, _, _⟩ ?_ rfl (by kernel_rfl) (fun _ _ _ h => h) (Or.inl ⟨by rfl, ?_⟩) ?_
  rotate_left
  · intro wX _
    go_simp
    (try with_reducible rfl)
  (try simp only [Act.put, List.setIfInBounds_toArray, List.set_cons_succ, List.set_cons_zero])
  refine tkPP 13 ⟨_, _, _, _, _, _⟩ ?_ rfl (by kernel_rfl) (fun _ _ _ h => h) (Or.inl ⟨by rfl, ?_⟩) ?_
  rotate_left
  · intro wX _
    go_simp
    (try with_reducible rfl)
  (try simp only [Act.put, List.setIfInBounds_toArray, List.set_cons_succ, List.set_cons_zero])
  refine tkPP 14 ⟨_, _, _, _, _, _⟩ ?_ rfl (by kernel_rfl) (fun _ _ _ h => h) (Or.inl ⟨by rfl, ?_⟩) ?_
  rotate_left
  · intro wX _
    go_simp
    (try with_reducible rfl)
  (try simp only [Act.put, List.setIfInBounds_toArray, List.set_cons_succ, List.set_cons_zero])
  refine tkPP 15 ⟨_, _, _, _, _, _⟩ ?_ rfl (by kernel_rfl) (fun _ _ _ h => h) (Or.inl ⟨by rfl, ?_⟩) ?_
  rotate_left
  · intro wX _
    go_simp
    (try with_reducible rfl)
  (try simp only [Act.put, List.setIfInBounds_toArray, List.set_cons_succ, List.set_cons_zero])
  refine tkP 16 ⟨_, _, _, _, _, _⟩ ?_ rfl (by kernel_rfl) (fun _ _ _ h => h) (Or.inl ⟨by rfl, ?_⟩) hSX ?_
  rotate_left
  · intro wX hS
    have hq := Blk.c hS.1 6 (v := .map (some mb)) rfl
    go_simp
    (try with_reducible rfl)
  (try simp only [Act.put, List.setIfInBounds_toArray, List.set_cons_succ, List.set_cons_zero])
  refine tkP 17 ⟨_, _, _, _, _, _⟩ ?_ rfl (by kernel_rfl) (fun _ _ _ h => h) (Or.inl ⟨by rfl, ?_⟩) hSX ?_
  rotate_left
  · intro wX hS
    have hq : (Instr.lookup 89 (.map (some mb)) (.string { data := #[111, 110, 101] }) false).run Try.prog wX = .ok (.int .i64 (15 + 2)) wX := look_str (s := sOne) hS.2 (by kernel_rfl)
    go_simp
    (try with_reducible rfl)
  (try simp only [Act.put, List.setIfInBounds_toArray, List.set_cons_succ, List.set_cons_zero])
  refine tkPP 18 ⟨_, _, _, _, _, _⟩ ?_ rfl (by kernel_rfl) (fun _ _ _ h => h) (Or.inl ⟨by rfl, ?_⟩) ?_
  rotate_left
  · intro wX _
    go_simp
    (try with_reducible rfl)
  (try simp only [Act.put, List.setIfInBounds_toArray, List.set_cons_succ, List.set_cons_zero])
  refine tkPP 19 ⟨_, _, _, _, _, _⟩ ?_ rfl (by kernel_rfl) (fun _ _ _ h => h) (Or.inl ⟨by rfl, ?_⟩) ?_
  rotate_left
  · intro wX _
    go_simp
    (try with_reducible rfl)
  (try simp only [Act.put, List.setIfInBounds_toArray, List.set_cons_succ, List.set_cons_zero])
  refine tkPP 20 ⟨_, _, _, _, _, _⟩ ?_ rfl (by kernel_rfl) (fun _ _ _ h => h) (Or.inl ⟨by rfl, ?_⟩) ?_
  rotate_left
  · intro wX _
    go_simp
    (try with_reducible rfl)
  (try simp only [Act.put, List.setIfInBounds_toArray, List.set_cons_succ, List.set_cons_zero])
  refine tkPP 21 ⟨_, _, _, _, _, _⟩ ?_ rfl (by kernel_rfl) (fun _ _ _ h => h) (Or.inl ⟨by rfl, ?_⟩) ?_
  rotate_left
  · intro wX _
    go_simp
    (try with_reducible rfl)
  (try simp only [Act.put, List.setIfInBounds_toArray, List.set_cons_succ, List.set_cons_zero])
  refine tkP 22 ⟨_, _, _, _, _, _⟩ ?_ rfl (by kernel_rfl) (fun _ _ _ h => h) (Or.inl ⟨by rfl, ?_⟩) hSX ?_
  rotate_left
  · intro wX hS
    have hq := Blk.c hS.1 3 (v := .int .i64 15) rfl
    go_simp
    (try with_reducible rfl)
  (try simp only [Act.put, List.setIfInBounds_toArray, List.set_cons_succ, List.set_cons_zero])
  refine tkPP 23 ⟨_, _, _, _, _, _⟩ ?_ rfl (by kernel_rfl) (fun _ _ _ h => h) (Or.inl ⟨by rfl, ?_⟩) ?_
  rotate_left
  · intro wX _
    go_simp
    (try with_reducible rfl)
  (try simp only [Act.put, List.setIfInBounds_toArray, List.set_cons_succ, List.set_cons_zero])
  refine tkPP 24 ⟨_, _, _, _, _, _⟩ ?_ rfl (by kernel_rfl) (fun _ _ _ h => h) (Or.inl ⟨by rfl, ?_⟩) ?_
  rotate_left
  · intro wX _
    go_simp
    (try with_reducible rfl)
  (try simp only [Act.put, List.setIfInBounds_toArray, List.set_cons_succ, List.set_cons_zero])
  have p1 := hcY.c 1 (v := .int .i64 0) rfl
  have p2 := hcY.c 2 (v := .int .i64 0) rfl
  have f1 := hcY.f 1
  have f2 := hcY.f 2
  have nb : b ≠ cb := by omega
  have nm : cb ≠ mb := by omega
  refine wpAnyP_one (i := 25) (o := ⟨_, _, _, _, _, _⟩) (by kernel_rfl) rfl ?_ <;> intro K hK
  go_simp
  refine hK _ _ (.inr fun h => ⟨h.1.ot nb, h.2.setCell nm _⟩) ?_
  clear hK
  refine wpAnyP_one (i := 26) (o := ⟨_, _, _, _, _, _⟩) (by kernel_rfl) rfl ?_ <;> intro K hK
  go_simp
  refine hK _ _ (.inr fun h => h) ?_
  clear hK
  refine wpAnyP_one (i := 27) (o := ⟨_, _, _, _, _, _⟩) (by kernel_rfl) rfl ?_ <;> intro K hK
  go_simp
  refine hK _ _ (.inr fun h => ⟨h.1.ot nb, h.2.setCell nm _⟩) ?_
  clear hK
  refine wpAnyP_done (by kernel_rfl) ?_ _
  have hc2 : Blk ((Y.setCell ⟨cb, 1, none⟩ (.int .i64 4194304)).setCell ⟨cb, 2, none⟩ (.int .i64 1)) cb #[.int .i64 0, .int .i64 4194304, .int .i64 1, .int .i64 0, .int .i64 0, .int .i64 0, .int .i64 0, .int .i64 0] 3 := (hcY.st 1 _).st 2 _
  have KY : KpM (fun k => k = cb) w18 ((Y.setCell ⟨cb, 1, none⟩ (.int .i64 4194304)).setCell ⟨cb, 2, none⟩ (.int .i64 1)) := ((KpM.of_ext EY).trans (KpM.set (M := fun k => k = cb) (p := ⟨cb, 1, none⟩) rfl _)).trans (KpM.set (M := fun k => k = cb) (p := ⟨cb, 2, none⟩) rfl _)
  have HH2 := Lib.hid (HH.out.kpm KY fun k hk e => by have := HCB.out; omega)
  have HM2 := Lib.hid (hSX.2.setCell (p := ⟨cb, 1, none⟩) nm (.int .i64 4194304) |>.setCell (p := ⟨cb, 2, none⟩) nm (.int .i64 1))
  have hmbX : mb ≤ w18.heap.size := Nat.le_trans hmX HB18.out.size
  have HB2 := Lib.hid (show Below mb X _ from HB18.out.trans (KY.below (Below.refl mb _) hmbX fun k hk => by have := HCB.out; omega))
  have hcz := hc2.lt
  generalize ((Y.setCell ⟨cb, 1, none⟩ (.int .i64 4194304)).setCell ⟨cb, 2, none⟩ (.int .i64 1)) = V at *
  clear hSX EY hcY KY p1 p2 f1 f2 hw1 hw2
  go_upto_region 31 with fail
  obtain ⟨wl, hwl⟩ : ∃ wl, [Q.written ⟨1, 16, 21, 1⟩, Q.written ⟨3, 19, 19, 2⟩, Q.written ⟨1, 19, 20, 3⟩, Q.written ⟨2, 21, 20, 4⟩, Q.written ⟨1, 20, 22, 5⟩, Q.written ⟨4, 20, 22, 6⟩, Q.written ⟨4, 20, 22, 7⟩, Q.written ⟨3, 18, 22, 8⟩, Q.written ⟨3, 17, 22, 9⟩, Q.written ⟨5, 22, 10, 11⟩, Q.written ⟨1, 20, 19, 11⟩, Q.written ⟨4, 16, 21, 12⟩, Q.written ⟨1, 21, 22, 13⟩, Q.written ⟨3, 17, 22, 14⟩, Q.written ⟨5, 22, 15, 2⟩] = wl := ⟨_, rfl⟩
  obtain ⟨ml, hml⟩ : ∃ ml : List Int, [7, 7, 7, 7, 7, 7, 7, 7, 7, 7, 7, 7, 7, 7, 7] = ml := ⟨_, rfl⟩
  have hl1 : wl.length = 15 := by rw [← hwl]; rfl
  have hl2 : ml.length = 15 := by rw [← hml]; rfl
  have H := HH2.out
  rw [hwl, hml] at H
  have HWL := Lib.hid hwl
  have HML := Lib.hid hml
  clear hwl hml
  have hr1 := H.r1
  have hr2 := H.r2
  obtain ⟨x1, c1, e1⟩ := own_slice H.r1
  obtain ⟨g2, c2, e2⟩ := ownsRow_succ (k := 14) (by have := H.r2; rw [hl2] at this; exact this)
  simp only [Nat.reduceAdd] at e2
  subst e1
  subst e2
  rw [hl1] at H hr1
  rw [hl2] at hr2
  obtain ⟨i0, hi0, hz0, hz1, hz2⟩ := info_parts Try.infoE
  have hblkV := H.blk
  have hBV : mb ≤ V.heap.size := Nat.le_trans hmX HB2.out.size
  have hcells : ∀ W, Ext V W → From W (some ⟨cb, 0, none⟩) (iv (codeC 3)) := fun W E => .inr ⟨_, rfl, fun i u hu => by
    rw [Addr.add_lit, Nat.zero_add]
    exact (hc2.ex E).c i (by rw [← hu]; simp [codeC, iv, List.replicate])⟩
  have HCE := Lib.hid hcells
  have HH3 := Lib.hid H
  have HN := Lib.hid (And.intro H.n1 H.n2)
  clear H hcells HH2
  refine wp_region_P (fun i => i == 20 || i == 24) (fun U => Blk U b #[.slice x1 15 c1, .slice (some ⟨g2, 0, none⟩) 15 c2, .int .i64 0, .int .i64 15, .int .i64 0, v3, .map (some mb)] 91) (by kernel_rfl) hblkV.dr fun hSX => ?_
  have hE : Ext V V.drew := (Ext.refl V).drew
  generalize V.drew = Z at *
  refine tkPP 0 ⟨_, _, _, _, _, _⟩ ?_ rfl (by kernel_rfl) (fun _ _ _ h => h) (Or.inl ⟨by rfl, ?_⟩) ?_
  rotate_left
  · intro wX _
    go_simp
    (try with_reducible rfl)
  (try simp only [Act.put, List.setIfInBounds_toArray, List.set_cons_succ, List.set_cons_zero])
  refine tkPP 1 ⟨_, _, _, _, _, _⟩ ?_ rfl (by kernel_rfl) (fun _ _ _ h => h) (Or.inl ⟨by rfl, ?_⟩) ?_
  rotate_left
  · intro wX _
    go_simp
    (try with_reducible rfl)
  (try simp only [Act.put, List.setIfInBounds_toArray, List.set_cons_succ, List.set_cons_zero])
  refine tkPP 2 ⟨_, _, _, _, _, _⟩ ?_ rfl (by kernel_rfl) (fun _ _ _ h => h) (Or.inl ⟨by rfl, ?_⟩) ?_
  rotate_left
  · intro wX _
    go_simp
    (try with_reducible rfl)
  (try simp only [Act.put, List.setIfInBounds_toArray, List.set_cons_succ, List.set_cons_zero])
  refine tkPP 3 ⟨_, _, _, _, _, _⟩ ?_ rfl (by kernel_rfl) (fun _ _ _ h => h) (Or.inl ⟨by rfl, ?_⟩) ?_
  rotate_left
  · intro wX _
    go_simp
    (try with_reducible rfl)
  (try simp only [Act.put, List.setIfInBounds_toArray, List.set_cons_succ, List.set_cons_zero])
  refine tkPP 4 ⟨_, _, _, _, _, _⟩ ?_ rfl (by kernel_rfl) (fun _ _ _ h => h) (Or.inl ⟨by rfl, ?_⟩) ?_
  rotate_left
  · intro wX _
    go_simp
    (try with_reducible rfl)
  (try simp only [Act.put, List.setIfInBounds_toArray, List.set_cons_succ, List.set_cons_zero])
  refine tkPP 5 ⟨_, _, _, _, _, _⟩ ?_ rfl (by kernel_rfl) (fun _ _ _ h => h) (Or.inl ⟨by rfl, ?_⟩) ?_
  rotate_left
  · intro wX _
    go_simp
    (try with_reducible rfl)
  (try simp only [Act.put, List.setIfInBounds_toArray, List.set_cons_succ, List.set_cons_zero])
  refine tkP 6 ⟨_, _, _, _, _, _⟩ ?_ rfl (by kernel_rfl) (fun _ _ _ h => h) (Or.inl ⟨by rfl, ?_⟩) hSX ?_
  rotate_left
  · intro wX hS
    have hq := Blk.c hS 0 (v := .slice x1 15 c1) rfl
    go_simp
    (try with_reducible rfl)
  (try simp only [Act.put, List.setIfInBounds_toArray, List.set_cons_succ, List.set_cons_zero])
  refine tkPP 7 ⟨_, _, _, _, _, _⟩ ?_ rfl (by kernel_rfl) (fun _ _ _ h => h) (Or.inl ⟨by rfl, ?_⟩) ?_
  rotate_left
  · intro wX _
    go_simp
    (try with_reducible rfl)
  (try simp only [Act.put, List.setIfInBounds_toArray, List.set_cons_succ, List.set_cons_zero])
  refine tkPP 9 ⟨_, _, _, _, _, _⟩ ?_ rfl (by kernel_rfl) (fun _ _ _ h => h) (Or.inl ⟨by rfl, ?_⟩) ?_
  rotate_left
  · intro wX _
    go_simp
    (try with_reducible rfl)
  (try simp only [Act.put, List.setIfInBounds_toArray, List.set_cons_succ, List.set_cons_zero])
  refine tkPP 10 ⟨_, _, _, _, _, _⟩ ?_ rfl (by kernel_rfl) (fun _ _ _ h => h) (Or.inl ⟨by rfl, ?_⟩) ?_
  rotate_left
  · intro wX _
    go_simp
    (try with_reducible rfl)
  (try simp only [Act.put, List.setIfInBounds_toArray, List.set_cons_succ, List.set_cons_zero])
  refine tkPP 11 ⟨_, _, _, _, _, _⟩ ?_ rfl (by kernel_rfl) (fun _ _ _ h => h) (Or.inl ⟨by rfl, ?_⟩) ?_
  rotate_left
  · intro wX _
    go_simp
    (try with_reducible rfl)
  (try simp only [Act.put, List.setIfInBounds_toArray, List.set_cons_succ, List.set_cons_zero])
  refine tkPP 12 ⟨_, _, _, _, _, _⟩ ?_ rfl (by kernel_rfl) (fun _ _ _ h => h) (Or.inl ⟨by rfl, ?_⟩) ?_
  rotate_left
  · intro wX _
    go_simp
    (try with_reducible rfl)
  (try simp only [Act.put, List.setIfInBounds_toArray, List.set_cons_succ, List.set_cons_zero])
  refine tkP 13 ⟨_, _, _, _, _, _⟩ ?_ rfl (by kernel_rfl) (fun _ _ _ h => h) (Or.inl ⟨by rfl, ?_⟩) hSX ?_
  rotate_left
  · intro wX hS
    have hq := Blk.c hS 1 (v := .slice (some ⟨g2, 0, none⟩) 15 c2) rfl
    go_simp
    (try with_reducible rfl)
  (try simp only [Act.put, List.setIfInBounds_toArray, List.set_cons_succ, List.set_cons_zero])
  refine tkPP 14 ⟨_, _, _, _, _, _⟩ ?_ rfl (by kernel_rfl) (fun _ _ _ h => h) (Or.inl ⟨by rfl, ?_⟩) ?_
  rotate_left
  · intro wX _
    go_simp
    (try with_reducible rfl)
  (try simp only [Act.put, List.setIfInBounds_toArray, List.set_cons_succ, List.set_cons_zero])
  refine tkPP 15 ⟨_, _, _, _, _, _⟩ ?_ rfl (by kernel_rfl) (fun _ _ _ h => h) (Or.inl ⟨by rfl, ?_⟩) ?_
  rotate_left
  · intro wX _
    go_simp
    (try with_reducible rfl)
  (try simp only [Act.put, List.setIfInBounds_toArray, List.set_cons_succ, List.set_cons_zero])
  refine wpAnyP_one (i := 8) (o := ⟨_, _, _, _, _, _⟩) (by kernel_rfl) rfl ?_ <;> intro K hK
  refine step_app2 (by rfl) _ _ _ (by rfl) 3 i0 (.int .i64 0) 1 8 Try.underlying22 hi0 hz0 hz1 hz2 rfl (by omega) (.slice x1 15 c1) 15 mb (iv wl) (by rfl) (own_extX hr1 hE) (Nat.le_trans hBV (ext_size hE)) (some ⟨cb, 0, none⟩) 8 8 (iv (codeC 3)) (by rfl) rfl (HCE.out _ hE) (iv_one _) (by unfold maxLen; omega) (by omega) ?_
  intro vA WA hoA hgA haA
  obtain ⟨yA, dA, rfl⟩ := own_slice hoA
  have KA := keepA HH3.out hE hgA
  refine hK _ _ (.inr fun h => (hgA.block b h.lt (fun e => HN.out.1 e.symm)).trans h) ?_
  clear hK
  refine wpAnyP_one (i := 16) (o := ⟨_, _, _, _, _, _⟩) (by kernel_rfl) rfl ?_ <;> intro K hK
  refine step_made (by rfl) _ _ (by rfl) mb (g := g2) (n := 15) (cap := c2) (xs := ml) (by rfl) (by have h := KA.2.1 WA (Ext.refl _); rw [hl2] at h; exact h) 8 (by rfl) (by omega) (by omega) (by omega) (Nat.le_trans hBV KA.1) ?_
  intro g' c' WB hoB hgB haB
  obtain ⟨k0, k1, k2, k3⟩ := keepB HH3.out KA.2.2 (Ext.refl WA) hgB
  have FIN := put_finL (w := V) (zs := codeC 3) (ks := List.replicate 8 0) HH3.out (Ext.refl V) hE (by rw [hl1]; exact hoA) hgA haA (Ext.refl WA) (by rw [hl2]; exact hoB) hgB (haB.imp (fun e => by rw [e]; rfl) (fun e => by rw [e]; rfl))
  refine hK _ _ (.inr fun h => (hgB.block b h.lt (fun e => HN.out.2 e.symm)).trans h) ?_
  clear hK
  clear KA hoA hgA haA hoB hgB haB hSX hE hblkV
  refine wpAnyP_one (i := 17) (o := ⟨_, _, _, _, _, _⟩) (by kernel_rfl) rfl ?_ <;> intro K hK
  go_simp
  refine hK _ _ (.inr fun h => h) ?_
  clear hK
  refine wpAnyP_one (i := 18) (o := ⟨_, _, _, _, _, _⟩) (by kernel_rfl) rfl ?_ <;> intro K hK
  go_simp
  refine hK _ _ (.inr fun h => h) ?_
  clear hK
  refine wpAnyP_one (i := 19) (o := ⟨_, _, _, _, _, _⟩) (by kernel_rfl) rfl ?_ <;> intro K hK
  go_simp
  refine hK _ _ (.inr fun h => h) ?_
  clear hK
  refine wpAnyP_one (i := 20) (o := ⟨_, _, _, _, _, _⟩) (by kernel_rfl) rfl ?_ <;> intro K hK
  go_simp
  refine hK _ _ (.inl rfl) ?_
  clear hK
  refine wpAnyP_one (i := 21) (o := ⟨_, _, _, _, _, _⟩) (by kernel_rfl) rfl ?_ <;> intro K hK
  go_simp
  refine hK _ _ (.inr fun h => h) ?_
  clear hK
  refine wpAnyP_one (i := 22) (o := ⟨_, _, _, _, _, _⟩) (by kernel_rfl) rfl ?_ <;> intro K hK
  go_simp
  refine hK _ _ (.inr fun h => h) ?_
  clear hK
  refine wpAnyP_one (i := 23) (o := ⟨_, _, _, _, _, _⟩) (by kernel_rfl) rfl ?_ <;> intro K hK
  go_simp
  refine hK _ _ (.inr fun h => h) ?_
  clear hK
  refine wpAnyP_one (i := 24) (o := ⟨_, _, _, _, _, _⟩) (by kernel_rfl) rfl ?_ <;> intro K hK
  go_simp
  refine hK _ _ (.inl rfl) ?_
  clear hK
  refine wpAnyP_done (by kernel_rfl) ?_ _
  clear k0 k1 k2 k3 hr1 hr2 HCE hi0 hz0 hz1 hz2
  generalize ((WB.setCell ⟨b, 0, none⟩ (.slice yA (15 + 8) dA)).setCell ⟨b, 1, none⟩ (.slice (some ⟨g', 0, none⟩) (15 + 8) c')) = V2 at *
  obtain ⟨u1, u2, H4, K4, _, _⟩ := FIN
  have hm4 : MapF encK V2 mb (assocF [(sHalf, 16), (sOne, 17), (sFirst, 18), (sResult, 19), (sTry, 20), (sStep, 21), (sTest, 22)]) := HM2.out.same (K4.block mb HM2.out.lt (bdm_map HH3.out HM2.out))
  have HB3 := Lib.hid (show Below mb X V2 from HB2.out.trans (K4.below (Below.refl mb _) hBV (bdm_ge HH3.out HBB.out.1)))
  have q4 := H4.blk.c 4 (v := .int .i64 0) rfl
  have f4 := H4.blk.f 4
  have q6 := H4.blk.c 6 (v := .map (some mb)) rfl
  have hlk : (Instr.lookup 89 (.map (some mb)) (.string { data := #[114, 101, 115, 117, 108, 116] }) false).run Try.prog V2 = .ok (.int .i64 19) V2 := look_str (s := sResult) hm4 (by kernel_rfl)
  have nbm := blk_map H4.blk hm4
  have HH4 := Lib.hid H4
  have HM4 := Lib.hid hm4
  clear H4 hm4 K4 HH3 HN HM2 HB2 hBV
  go_upto_region 33 with fail
  have H5 := HH4.out.re 19
  have hm5 := HM4.out.setCell (p := ⟨b, 4, none⟩) nbm (.int .i64 19)
  have HB5 := Lib.hid (show Below mb X (V2.setCell ⟨b, 4, none⟩ (.int .i64 19)) from HB3.out.setCell (p := ⟨b, 4, none⟩) HBB.out.1 _)
  generalize V2.setCell ⟨b, 4, none⟩ (.int .i64 19) = V3 at *
  clear q4 f4 q6 hlk HH4 HM4 HB3
  have hmX3 : mb ≤ V3.heap.size := Nat.le_trans hmX HB5.out.size
  obtain ⟨iS, his, hs0, hs1, hs2⟩ := info_parts Try.infoStr
  have hown := own_lit (w := V3) (e := 9) (sz := 1) (n := 1) (vs := #[.string { data := #[102, 105, 114, 115, 116] }]) rfl (by decide) (Ext.refl _)
  have hfr : From (V3.alloc (.cells #[.string { data := #[102, 105, 114, 115, 116] }] 9)) none [] := .inl rfl
  go_wp2_with (at_builtin; refine wpList_app2 rfl _ _ 87 rfl 9 iS (.string { data := #[] }) 1 16 Try.underlying87 his hs0 hs1 hs2 rfl (by decide) (.slice (some ⟨V3.heap.size, 0, none⟩) 1 1) 1 V3.heap.size [.string { data := #[102, 105, 114, 115, 116] }] rfl hown (by rw [World.size_alloc]; omega) none 0 0 [] rfl rfl hfr (by intro u hu; cases hu) (by decide) (by decide) ?_; intro vS WS hoS hgS _; obtain ⟨gs, capS, curS, rfl, hbS, hgeS, hcS⟩ := own_blk (k := 0) hoS)
  have K6 : KpM (fun k => k = V3.heap.size) V3 WS := (KpM.of_ext ((Ext.refl V3).alloc _)).trans (KpM.grown hgS fun k hk => by injection hk with hk; exact hk.symm)
  have H6 := H5.kpm K6 fun k hk e => by omega
  have hm6 := hm5.same (K6.block mb hm5.lt (by have := hm5.lt; omega))
  have HB6 : Below mb X WS := HB5.out.trans (K6.below (Below.refl mb _) hmX3 fun k hk => by omega)
  have HCS := Lib.hid hcS
  clear K6 H5 hm5 hown hfr hoS hgS his hs0 hs1 hs2 hcS hgeS
  go_loopw [158] (fun s wr => ∃ (j : Nat) (v3' : Value), j ≤ 1 ∧ s = .int .i64 (j : Int) ∧ Aside (Bd wr mb b (wl ++ codeC 3) (ml ++ List.replicate 8 0) (([18] : List Int).take j) 15 19 u1 u2 v3' (.map (some mb))) ∧ Aside (MapF encK wr mb (assocF [(sHalf, 16), (sOne, 17), (sFirst, 18), (sResult, 19), (sTry, 20), (sStep, 21), (sTest, 22)])) ∧ Aside (Blk wr gs curS 9) ∧ Aside (Below mb X wr)) (fun s _ => 1 - (intOf s).toNat)
  case atStart => exact ⟨0, v3, by omega, rfl, H6, hm6, hbS, HB6⟩
  case round =>
    obtain ⟨j, v3', hj, rfl, HA1, HA2, HA3, HA4⟩ := hrel
    clear H6 hm6 hbS HB6 HB5
    by_cases hlt : j < 1
    · have hltz : (j : Int) < 1 := by omega
      obtain ⟨s, p, hs1, hp1, hlk1⟩ : ∃ (s : SK) (p : Int), ([Value.string { data := #[102, 105, 114, 115, 116] }] ++ [])[j]? = some (.string s.val) ∧ (([18] : List Int) : List Int)[j]? = some p ∧ assocF [(sHalf, 16), (sOne, 17), (sFirst, 18), (sResult, 19), (sTry, 20), (sStep, 21), (sTest, 22)] s = some (.int .i64 p) := by
        match j, hlt with
        | 0, _ => exact ⟨sFirst, 18, rfl, rfl, by kernel_rfl⟩
      obtain ⟨x3, c3, rfl⟩ := own_slice HA1.out.r3
      have hsc : wr.cell? ⟨gs, j, none⟩ = some (.string s.val) := HA3.out.c j (HCS.out j _ hs1)
      have htk := take_get hp1
      have hn3 : (([18] : List Int).take j : List Int).length ≤ 2 := by rw [List.length_take]; simp; omega
      have hH := HA1.out
      have hblk := hH.blk
      have hbr := hH.r3
      have n3 := hH.n3
      have hrm := row_map hbr HA2.out
      have hBr : mb ≤ wr.heap.size := Nat.le_trans hmX HA4.out.size
      obtain ⟨ag, hag⟩ : ∃ ag : List Int, ([18] : List Int).take j = ag := ⟨_, rfl⟩
      rw [hag] at hH hblk hbr n3 hn3 htk hrm
      have HTK := Lib.hid htk
      have HHJ := Lib.hid hH
      have HN3 := Lib.hid n3
      have HRM := Lib.hid hrm
      obtain ⟨i0, hi0, hz0, hz1, hz2⟩ := info_parts Try.infoE
      clear htk hH n3 hrm hp1 hs1 hag HA1
      go_upto_region 36 with fail
      refine wp_region_P (fun i => i == 17) (fun U => Blk U b #[u1, u2, .int .i64 0, .int .i64 15, .int .i64 19, .slice x3 ag.length c3, .map (some mb)] 91 ∧ MapF encK U mb (assocF [(sHalf, 16), (sOne, 17), (sFirst, 18), (sResult, 19), (sTry, 20), (sStep, 21), (sTest, 22)])) (by kernel_rfl) ⟨hblk.dr, HA2.out.same rfl⟩ fun hSX => ?_
      have hE : Ext wr wr.drew := (Ext.refl wr).drew
      clear hsc hblk
      generalize wr.drew = Z at *
      refine tkPP 0 ⟨_, _, _, _, _, _⟩ ?_ rfl (by kernel_rfl) (fun _ _ _ h => h) (Or.inl ⟨by rfl, ?_⟩) ?_
      rotate_left
      · intro wX _
        go_simp
        (try with_reducible rfl)
      (try simp only [Act.put, List.setIfInBounds_toArray, List.set_cons_succ, List.set_cons_zero])
      refine tkPP 1 ⟨_, _, _, _, _, _⟩ ?_ rfl (by kernel_rfl) (fun _ _ _ h => h) (Or.inl ⟨by rfl, ?_⟩) ?_
      rotate_left
      · intro wX _
        go_simp
        (try with_reducible rfl)
      (try simp only [Act.put, List.setIfInBounds_toArray, List.set_cons_succ, List.set_cons_zero])
      refine tkPP 2 ⟨_, _, _, _, _, _⟩ ?_ rfl (by kernel_rfl) (fun _ _ _ h => h) (Or.inl ⟨by rfl, ?_⟩) ?_
      rotate_left
      · intro wX _
        go_simp
        (try with_reducible rfl)
      (try simp only [Act.put, List.setIfInBounds_toArray, List.set_cons_succ, List.set_cons_zero])
      refine tkPP 3 ⟨_, _, _, _, _, _⟩ ?_ rfl (by kernel_rfl) (fun _ _ _ h => h) (Or.inl ⟨by rfl, ?_⟩) ?_
      rotate_left
      · intro wX _
        go_simp
        (try with_reducible rfl)
      (try simp only [Act.put, List.setIfInBounds_toArray, List.set_cons_succ, List.set_cons_zero])
      refine tkPP 4 ⟨_, _, _, _, _, _⟩ ?_ rfl (by kernel_rfl) (fun _ _ _ h => h) (Or.inl ⟨by rfl, ?_⟩) ?_
      rotate_left
      · intro wX _
        go_simp
        (try with_reducible rfl)
      (try simp only [Act.put, List.setIfInBounds_toArray, List.set_cons_succ, List.set_cons_zero])
      refine tkP 5 ⟨_, _, _, _, _, _⟩ ?_ rfl (by kernel_rfl) (fun _ _ _ h => h) (Or.inl ⟨by rfl, ?_⟩) hSX ?_
      rotate_left
      · intro wX hS
        have hq := Blk.c hS.1 5 (v := .slice x3 ag.length c3) rfl
        go_simp
        (try with_reducible rfl)
      (try simp only [Act.put, List.setIfInBounds_toArray, List.set_cons_succ, List.set_cons_zero])
      refine tkPP 6 ⟨_, _, _, _, _, _⟩ ?_ rfl (by kernel_rfl) (fun _ _ _ h => h) (Or.inl ⟨by rfl, ?_⟩) ?_
      rotate_left
      · intro wX _
        go_simp
        (try with_reducible rfl)
      (try simp only [Act.put, List.setIfInBounds_toArray, List.set_cons_succ, List.set_cons_zero])
      refine tkPP 7 ⟨_, _, _, _, _, _⟩ ?_ rfl (by kernel_rfl) (fun _ _ _ h => h) (Or.inl ⟨by rfl, ?_⟩) ?_
      rotate_left
      · intro wX _
        go_simp
        (try with_reducible rfl)
      (try simp only [Act.put, List.setIfInBounds_toArray, List.set_cons_succ, List.set_cons_zero])
      refine tkPP 8 ⟨_, _, _, _, _, _⟩ ?_ rfl (by kernel_rfl) (fun _ _ _ h => h) (Or.inl ⟨by rfl, ?_⟩) ?_
      rotate_left
      · intro wX _
        go_simp
        (try with_reducible rfl)
      (try simp only [Act.put, List.setIfInBounds_toArray, List.set_cons_succ, List.set_cons_zero])
      refine tkP 9 ⟨_, _, _, _, _, _⟩ ?_ rfl (by kernel_rfl) (fun _ _ _ h => h) (Or.inl ⟨by rfl, ?_⟩) hSX ?_
      rotate_left
      · intro wX hS
        have hq := Blk.c hS.1 6 (v := .map (some mb)) rfl
        go_simp
        (try with_reducible rfl)
      (try simp only [Act.put, List.setIfInBounds_toArray, List.set_cons_succ, List.set_cons_zero])
      refine tkPP 10 ⟨_, _, _, _, _, _⟩ ?_ rfl (by kernel_rfl) (fun _ _ _ h => h) (Or.inl ⟨by rfl, ?_⟩) ?_
      rotate_left
      · intro wX _
        go_simp
        (try with_reducible rfl)
      (try simp only [Act.put, List.setIfInBounds_toArray, List.set_cons_succ, List.set_cons_zero])
      refine tkP 11 ⟨_, _, _, _, _, _⟩ ?_ rfl (by kernel_rfl) (fun _ _ _ h => h) (Or.inl ⟨by rfl, ?_⟩) hSX ?_
      rotate_left
      · intro wX hS
        have hq := look_str hS.2 hlk1
        go_simp
        (try with_reducible rfl)
      (try simp only [Act.put, List.setIfInBounds_toArray, List.set_cons_succ, List.set_cons_zero])
      refine wpAnyP_one (i := 12) (o := ⟨_, _, _, _, _, _⟩) (by kernel_rfl) rfl ?_ <;> intro K hK
      go_simp
      refine hK _ _ (.inr fun h => ⟨h.1.al _, h.2.alloc _⟩) ?_
      clear hK
      refine wpAnyP_one (i := 13) (o := ⟨_, _, _, _, _, _⟩) (by kernel_rfl) rfl ?_ <;> intro K hK
      have hE2 : Ext wr (Z.alloc (.cells #[.int .i64 p] 3)) := hE.alloc _
      refine step_app2 (by rfl) _ _ _ (by rfl) 3 i0 (.int .i64 0) 1 8 Try.underlying22 hi0 hz0 hz1 hz2 rfl (by omega) (.slice x3 ag.length c3) ag.length mb (iv ag) (by rfl) (own_extX hbr hE2) (Nat.le_trans hBr (ext_size hE2)) (some ⟨Z.heap.size, 0, none⟩) 1 1 (iv [p]) (by rfl) rfl (from_oneN (w := Z) rfl (Ext.refl _)) (iv_one [p]) (by unfold maxLen; omega) (by omega) ?_
      intro vC WC hoC hgC haC
      obtain ⟨yC, dC, rfl⟩ := own_slice hoC
      obtain ⟨HF, KF⟩ := arg_fin HHJ.out hE2 hoC hgC haC
      have hb5 : Blk WC b #[u1, u2, .int .i64 0, .int .i64 15, .int .i64 19, .slice x3 ag.length c3, .map (some mb)] 91 := (hgC.block b (Nat.lt_of_lt_of_le HHJ.out.blk.lt hE2.size) (fun e => HN3.out e.symm)).trans (HHJ.out.blk.ex hE2)
      have q5 := hb5.c 5 (v := .slice x3 ag.length c3) rfl
      have f5 := hb5.f 5
      refine hK _ _ (.inr fun h => ⟨(hgC.block b h.1.lt (fun e => HN3.out e.symm)).trans h.1, h.2.grown hgC (fun e => HRM.out e.symm)⟩) ?_
      clear hK
      refine wpAnyP_one (i := 14) (o := ⟨_, _, _, _, _, _⟩) (by kernel_rfl) rfl ?_ <;> intro K hK
      go_simp
      refine hK _ _ (.inr fun h => h) ?_
      clear hK
      refine wpAnyP_one (i := 15) (o := ⟨_, _, _, _, _, _⟩) (by kernel_rfl) rfl ?_ <;> intro K hK
      go_simp
      refine hK _ _ (.inr fun h => h) ?_
      clear hK
      refine wpAnyP_one (i := 16) (o := ⟨_, _, _, _, _, _⟩) (by kernel_rfl) rfl ?_ <;> intro K hK
      go_simp
      refine hK _ _ (.inr fun h => h) ?_
      clear hK
      refine wpAnyP_one (i := 17) (o := ⟨_, _, _, _, _, _⟩) (by kernel_rfl) rfl ?_ <;> intro K hK
      go_simp
      refine hK _ _ (.inl rfl) ?_
      clear hK
      refine wpAnyP_done (by kernel_rfl) ?_ _
      have HFm := HA2.out.same (KF.block mb HA2.out.lt (bdm_map HHJ.out HA2.out))
      have HFs := HA3.out.kpm KF (bdm_blk HHJ.out HA3.out (by decide) (by decide))
      have HFb : Below mb X _ := HA4.out.trans (KF.below (Below.refl mb _) hBr (bdm_ge HHJ.out HBB.out.1))
      rw [← HTK.out] at HF
      generalize WC.setCell ⟨b, 5, none⟩ (.slice yC (ag.length + 1) dC) = U at *
      clear hSX hE hE2 hoC hgC haC hb5 q5 f5 KF hbr
      go_wp2_with fail
      go_roundw
      case rel => exact ⟨j + 1, _, by omega, by go_num, HF, HFm, HFs, HFb⟩
      case measure => simp [intOf]; omega
    · have hltz : ¬ (j : Int) < 1 := by omega
      obtain rfl : j = 1 := by omega
      have hH := HA1.out
      obtain ⟨x3, c3, rfl⟩ := own_slice hH.r3
      obtain ⟨y1, d1, rfl⟩ := own_slice hH.r1
      obtain ⟨y2, d2, rfl⟩ := own_slice hH.r2
      have hrb : Blk wr w.heap.size #[.slice none 0 0, .slice none 0 0, .int .i64 0, .int .i64 0, .int .i64 0, .slice none 0 0] 24 := (HA4.out.block _ hmw).trans HR0.out
      have r0 := Blk.c hrb 0 (v := .slice none 0 0) rfl
      have r1 := Blk.c hrb 1 (v := .slice none 0 0) rfl
      have r2 := Blk.c hrb 2 (v := .int .i64 0) rfl
      have r3 := Blk.c hrb 3 (v := .int .i64 0) rfl
      have r4 := Blk.c hrb 4 (v := .int .i64 0) rfl
      have r5 := Blk.c hrb 5 (v := .slice none 0 0) rfl
      have g0 := Blk.f hrb 0
      have g1 := Blk.f hrb 1
      have g2 := Blk.f hrb 2
      have g3 := Blk.f hrb 3
      have g4 := Blk.f hrb 4
      have g5 := Blk.f hrb 5
      have hbb := hH.blk
      have q0 := Blk.c hbb 0 (v := .slice y1 (wl ++ codeC 3).length d1) rfl
      have q1 := Blk.c hbb 1 (v := .slice y2 (ml ++ List.replicate 8 0).length d2) rfl
      have q2 := Blk.c hbb 2 (v := .int .i64 0) rfl
      have q3 := Blk.c hbb 3 (v := .int .i64 15) rfl
      have q4 := Blk.c hbb 4 (v := .int .i64 19) rfl
      have q5 := Blk.c hbb 5 (v := .slice x3 (([18] : List Int).take 1 : List Int).length c3) rfl
      have hcq : codeQ 3 = ⟨wl ++ codeC 3, ml ++ List.replicate 8 0, 0, 15, 19, ([18] : List Int).take 1⟩ := by
        rw [← HWL.out, ← HML.out]
        rfl
      have HCQ := Lib.hid hcq
      have HHF := Lib.hid hH
      have hwb := hrb.lt
      have HEF := Lib.hid (show Ext w wr from HE0.out.trans (HA4.out.mono (Nat.le_of_lt hmw)))
      have HMW := Lib.hid hmw
      clear hcq hH HA1 HA2 HA3 HCS hrb hbb
      obtain ⟨lw, hlw⟩ : ∃ lw, (wl ++ codeC 3).length = lw := ⟨_, rfl⟩
      obtain ⟨lm, hlm⟩ : ∃ lm, (ml ++ List.replicate 8 0 : List Int).length = lm := ⟨_, rfl⟩
      obtain ⟨la, hla⟩ : ∃ la, (([18] : List Int).take 1 : List Int).length = la := ⟨_, rfl⟩
      rw [hlw] at q0
      rw [hlm] at q1
      rw [hla] at q5
      have HLW := Lib.hid hlw
      have HLM := Lib.hid hlm
      have HLA := Lib.hid hla
      clear hlw hlm hla
      go_wp2_with fail
      refine bodyPost_ret (v := .tuple #[.agg #[.slice y1 lw d1, .slice y2 lm d2, .int .i64 0, .int .i64 15, .int .i64 19, .slice x3 la c3], .int .i64 0]) (by simp [results, Try.results15, go_sem, r0, r1, r2, r3, r4, r5]) rfl ?_
      unfold CodeRes
      rw [HCQ.out]
      have hF := HHF.out
      exact ⟨⟨y1, d1, y2, d2, x3, c3⟩, by dsimp only; rw [HLW.out, HLM.out, HLA.out], ⟨own_intsL (own_set6 hF.r1 HMW.out _ _ _ _ _ _), own_intsL (own_set6 hF.r2 HMW.out _ _ _ _ _ _), own_intsL (own_set6 hF.r3 HMW.out _ _ _ _ _ _)⟩, ext_set6 HEF.out (Nat.le_refl _) _ _ _ _ _ _⟩
end Go.Proofs.Ytcijneecjkpebaa

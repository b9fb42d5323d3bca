import Derived.Test.YtcijneecjkpebaaU21
set_option linter.unusedVariables false
set_option linter.unusedSimpArgs false
/- Layer 8's reference: the routine of kind 2. -/
namespace Go.Proofs.Ytcijneecjkpebaa
open Go.RowKit Go.Q
set_option maxRecDepth 100000 in
set_option maxHeartbeats 8000000 in
theorem rb_made2 (w : World) : Calls Try.prog 49 #[.int .i64 2] w (MadeRes (codeQ 2) w) := by
  obtain ⟨i0, hi0, hz0, hz1, hz2⟩ := info_parts Try.infoE
  obtain ⟨CR, hCR⟩ : ∃ CR, codeQ 2 = CR := ⟨_, rfl⟩
  rw [hCR]
  have HCR := Lib.hid hCR
  clear hCR
  go_enter Try.func49, Try.ntmps49
  go_upto_region 14 with fail
  obtain ⟨X0, hX0⟩ : ∃ X0, w.alloc (.cells #[.slice none 0 0, .slice none 0 0, .int .i64 0, .int .i64 0, .int .i64 0, .slice none 0 0] 24) = X0 := ⟨_, rfl⟩
  have hres : Blk X0 w.heap.size #[.slice none 0 0, .slice none 0 0, .int .i64 0, .int .i64 0, .int .i64 0, .slice none 0 0] 24 := by rw [← hX0]; exact Blk.nw _ _ _
  have E0 : Ext w X0 := by rw [← hX0]; exact (Ext.refl w).alloc _
  have hsz0 : X0.heap.size = w.heap.size + 1 := by rw [← hX0, World.size_alloc]
  rw [hX0, show w.heap.size + 1 = X0.heap.size from hsz0.symm]
  clear hX0
  obtain ⟨X1, hX1⟩ : ∃ X1, (X0.alloc (.cells #[.int .i64 17] 3)).alloc (.cells #[.slice none 0 0, .slice none 0 0, .int .i64 0, .int .i64 14, .int .i64 19, .slice (some ⟨X0.heap.size, 0, none⟩) 1 1] 24) = X1 := ⟨_, rfl⟩
  have hc1 : Blk X1 (X0.heap.size + 1) #[.slice none 0 0, .slice none 0 0, .int .i64 0, .int .i64 14, .int .i64 19, .slice (some ⟨X0.heap.size, 0, none⟩) 1 1] 24 := by
    rw [← hX1]
    have := Blk.nw (X0.alloc (.cells #[.int .i64 17] 3)) #[.slice none 0 0, .slice none 0 0, .int .i64 0, .int .i64 14, .int .i64 19, .slice (some ⟨X0.heap.size, 0, none⟩) 1 1] 24
    rw [World.size_alloc] at this
    exact this
  have hr3 : X1.ownsRow X0.heap.size 3 1 (.slice (some ⟨X0.heap.size, 0, none⟩) 1 1) 1 (iv [17]) := by
    rw [← hX1]
    exact own_lit rfl (by decide) ((Ext.refl _).alloc _)
  have E1 : Ext X0 X1 := by rw [← hX1]; exact (by repeat (first | with_reducible exact Ext.refl _ | with_reducible refine Ext.alloc ?_ _ | with_reducible refine Below.drew ?_))
  rw [hX1]
  clear hX1
  obtain ⟨bp, hbp⟩ : ∃ bp, w.heap.size = bp := ⟨_, rfl⟩
  rw [hbp] at hres hsz0 ⊢
  obtain ⟨B, hB⟩ : ∃ B, X0.heap.size = B := ⟨_, rfl⟩
  rw [hB] at hc1 hr3 hsz0 ⊢
  have hM1 : Md X1 B (B + 1) [] [] [17] 14 19 (.slice none 0 0) (.slice none 0 0) (.slice (some ⟨B, 0, none⟩) 1 1) := ⟨hc1, World.ownsRow_nil _ _ _ _, World.ownsRow_nil _ _ _ _, hr3, by simp [Value.ownBlock], by simp [Value.ownBlock], by simp [Value.ownBlock], .inl rfl, .inl rfl, .inl rfl⟩
  have HB := Lib.hid hB
  have HBP := Lib.hid hbp
  have HRS := Lib.hid (hres.ex E1)
  have hEw := E0.comp E1
  have hf5 := hc1.f 5
  have hc5 := hc1.c 5 (v := .slice (some ⟨B, 0, none⟩) 1 1) rfl
  have hlc := hc1.lt
  have hbB : bp < B := by omega
  clear hc1 hr3 E0 E1 hres hB hbp hsz0
  go_upto_region 16 with fail
  obtain ⟨X2, hX2⟩ : ∃ X2, (X1.setCell ⟨B + 1, 5, none⟩ (.slice (some ⟨X1.heap.size, 0, none⟩) 2 2)).alloc (.cells #[.int .i64 17, .int .i64 18] 3) = X2 := ⟨_, rfl⟩
  have hB1 : B ≤ X1.heap.size := by omega
  have hr3 : X2.ownsRow B 3 1 (.slice (some ⟨X1.heap.size, 0, none⟩) 2 2) 2 (iv [17, 18]) := by
    rw [← hX2]
    have := own_lit (w := X1.setCell ⟨B + 1, 5, none⟩ (.slice (some ⟨X1.heap.size, 0, none⟩) 2 2)) (e := 3) (sz := 1) (n := 2) (vs := #[.int .i64 17, .int .i64 18]) rfl (by decide) (Ext.refl _)
    rw [World.size_setCell] at this
    exact own_le this hB1
  have hn3 : (Value.slice (some ⟨X1.heap.size, 0, none⟩) 2 2).ownBlock ≠ some (B + 1) := fun e => by
    have e2 : X1.heap.size = B + 1 := by simpa [Value.ownBlock] using e
    omega
  have hM2 : Md X2 B (B + 1) [] [] [17, 18] 14 19 (.slice none 0 0) (.slice none 0 0) (.slice (some ⟨X1.heap.size, 0, none⟩) 2 2) := by
    rw [← hX2]
    exact ⟨(by simpa using hM1.blk.st 5 (.slice (some ⟨X1.heap.size, 0, none⟩) 2 2) : Blk (X1.setCell ⟨B + 1, 5, none⟩ (.slice (some ⟨X1.heap.size, 0, none⟩) 2 2)) (B + 1) _ _).al _, World.ownsRow_nil _ _ _ _, World.ownsRow_nil _ _ _ _, by rw [hX2]; exact hr3, by simp [Value.ownBlock], by simp [Value.ownBlock], hn3, .inl rfl, .inl rfl, .inl rfl⟩
  have hE2 : Ext w X2 := by rw [← hX2]; exact (ext_put hEw _ (by have := HBP.out; dsimp only; omega)).alloc _
  have HRS2 := Lib.hid (show Blk X2 bp #[.slice none 0 0, .slice none 0 0, .int .i64 0, .int .i64 0, .int .i64 0, .slice none 0 0] 24 by rw [← hX2]; exact (HRS.out.ot (by omega)).al _)
  have hlc2 : B + 1 < X2.heap.size := hM2.blk.lt
  rw [hX2]
  have HM := Lib.hid hM2
  have HE := Lib.hid hE2
  clear hX2 hM1 hEw hf5 hc5 hM2 hE2 hr3 hn3 hlc HRS
  have HRS := Lib.hid HRS2.out
  have hlc := hlc2
  obtain ⟨ba, hba⟩ : ∃ ba, X1.heap.size = ba := ⟨_, rfl⟩
  rw [hba] at HM
  clear hlc2 HRS2 hba hB1
  have HX := Lib.hid (Ext.refl X2)
  have hw0 := HM.out.blk.lt
  go_upto_region 17 with (go_at_call 74; refine (rb_order _ _ _ _ _ (by decide)).mono ?_; rintro e W ⟨rfl, EW⟩; replace HX := Lib.hid (Ext.comp HX.out EW); clear EW; have kc := HM.out.blk.ex HX.out; have k0 := kc.c 0 (v := .slice none 0 0) rfl; have f0 := kc.f 0; have hl := kc.lt; clear kc)
  obtain ⟨W6, rfl⟩ : ∃ W6 : World, W6 = W := ⟨_, rfl⟩
  obtain ⟨V, hV⟩ : ∃ V, (W6.setCell ⟨B + 1, 0, none⟩ (.slice (some ⟨W6.heap.size, 0, none⟩) 6 6)).alloc (.cells #[.int .i64 (Q.written ⟨1, 15, 21, 1⟩), .int .i64 (Q.written ⟨3, 19, 19, 2⟩), .int .i64 (Q.written ⟨1, 19, 20, 3⟩), .int .i64 (Q.written ⟨2, 21, 20, 4⟩), .int .i64 (Q.written ⟨1, 20, 22, 5⟩), .int .i64 (Q.written ⟨4, 18, 22, 6⟩)] 3) = V := ⟨_, rfl⟩
  have hM6 := HM.out.ext HX.out
  have hE6 := HE.out.comp HX.out
  have hBW : B ≤ W6.heap.size := by have := hM6.blk.lt; omega
  have hn1 : (Value.slice (some ⟨W6.heap.size, 0, none⟩) 6 6).ownBlock ≠ some (B + 1) := fun e => by
    have e2 : W6.heap.size = B + 1 := by simpa [Value.ownBlock] using e
    omega
  have hr1 : V.ownsRow B 3 1 (.slice (some ⟨W6.heap.size, 0, none⟩) 6 6) 6 (iv [Q.written ⟨1, 15, 21, 1⟩, Q.written ⟨3, 19, 19, 2⟩, Q.written ⟨1, 19, 20, 3⟩, Q.written ⟨2, 21, 20, 4⟩, Q.written ⟨1, 20, 22, 5⟩, Q.written ⟨4, 18, 22, 6⟩]) := by
    rw [← hV]
    have := own_lit (w := W6.setCell ⟨B + 1, 0, none⟩ (.slice (some ⟨W6.heap.size, 0, none⟩) 6 6)) (e := 3) (sz := 1) (n := 6) (vs := #[.int .i64 (Q.written ⟨1, 15, 21, 1⟩), .int .i64 (Q.written ⟨3, 19, 19, 2⟩), .int .i64 (Q.written ⟨1, 19, 20, 3⟩), .int .i64 (Q.written ⟨2, 21, 20, 4⟩), .int .i64 (Q.written ⟨1, 20, 22, 5⟩), .int .i64 (Q.written ⟨4, 18, 22, 6⟩)]) rfl (by decide) (Ext.refl _)
    rw [World.size_setCell] at this
    exact own_le this hBW
  have hl3 : (Value.slice (some ⟨ba, 0, none⟩) 2 2).ownBlock = some ba := rfl
  have hb3 : ba < W6.heap.size := (hM6.r3.lt _ hl3).2
  have hMV : Md V B (B + 1) [Q.written ⟨1, 15, 21, 1⟩, Q.written ⟨3, 19, 19, 2⟩, Q.written ⟨1, 19, 20, 3⟩, Q.written ⟨2, 21, 20, 4⟩, Q.written ⟨1, 20, 22, 5⟩, Q.written ⟨4, 18, 22, 6⟩] [] [17, 18] 14 19 (.slice (some ⟨W6.heap.size, 0, none⟩) 6 6) (.slice none 0 0) (Value.slice (some ⟨ba, 0, none⟩) 2 2) := by
    refine ⟨?_, hr1, World.ownsRow_nil _ _ _ _, ?_, hn1, by simp [Value.ownBlock], hM6.n3, Ap2.symm (.inl rfl), .inr (fun e => ?_), .inl rfl⟩
    · rw [← hV]
      exact (by simpa using hM6.blk.st 0 (.slice (some ⟨W6.heap.size, 0, none⟩) 6 6) : Blk (W6.setCell ⟨B + 1, 0, none⟩ (.slice (some ⟨W6.heap.size, 0, none⟩) 6 6)) (B + 1) _ _).al _
    · rw [← hV]
      exact own_extX (own_set (p := ⟨B + 1, 0, none⟩) hM6.r3 hM6.n3 _) ((Ext.refl _).alloc _)
    · have e2 : W6.heap.size = ba := by simpa [Value.ownBlock] using e
      omega
  have hEV : Ext w V := by rw [← hV]; exact (ext_put hE6 _ (by have := HBP.out; dsimp only; omega)).alloc _
  have hRV : Blk V bp #[.slice none 0 0, .slice none 0 0, .int .i64 0, .int .i64 0, .int .i64 0, .slice none 0 0] 24 := by rw [← hV]; exact ((HRS.out.ex HX.out).ot (by omega)).al _
  rw [hV]
  have HMV := Lib.hid hMV
  have HEV := Lib.hid hEV
  have HRV := Lib.hid hRV
  clear hV hM6 hE6 hr1 hn1 hMV hEV hRV k0 f0 hl hl3 hb3 HM HE HRS HX
  obtain ⟨v1, hv1⟩ : ∃ v1, Value.slice (some ⟨W6.heap.size, 0, none⟩) 6 6 = v1 := ⟨_, rfl⟩
  rw [hv1] at HMV
  clear hv1
  obtain ⟨y1, d1, rfl⟩ := own_slice HMV.out.r1
  have hr1 := HMV.out.r1
  have hblk := HMV.out.blk
  have HX := Lib.hid (Ext.refl V).drew
  go_upto_region 19 with fail
  refine wp_region_P (fun i => i == 45) (fun W => Blk W (B + 1) #[.slice y1 6 d1, .slice none 0 0, .int .i64 0, .int .i64 14, .int .i64 19, (Value.slice (some ⟨ba, 0, none⟩) 2 2)] 24) (by kernel_rfl) hblk.dr fun hSX => ?_
  have hsB : B + 1 < V.drew.heap.size := hblk.lt
  generalize V.drew = Y at *
  have hw7 : IntKind.i64.wrap (7 : Int) = 7 := rfl
  have hw8 : IntKind.i64.wrap (8 : Int) = 8 := rfl
  have hw9 : IntKind.i64.wrap (9 : Int) = 9 := rfl
  have hw10 : IntKind.i64.wrap (10 : Int) = 10 := rfl
  have hw11 : IntKind.i64.wrap (11 : Int) = 11 := rfl
  have hw12 : IntKind.i64.wrap (12 : Int) = 12 := rfl
  have hw13 : IntKind.i64.wrap (13 : Int) = 13 := rfl
  have hw14 : IntKind.i64.wrap (14 : Int) = 14 := rfl
  refine tkPP 0 ⟨_, _, _, _, _, _⟩ ?_ rfl (by kernel_rfl) (fun _ _ _ h => h) (Or.inl ⟨by rfl, ?_⟩) ?_
  rotate_left
  · intro wX _
    go_simp
    (try with_reducible rfl)
  (try simp only [Act.put, List.setIfInBounds_toArray, List.set_cons_succ, List.set_cons_zero])
  refine tkP 1 ⟨_, _, _, _, _, _⟩ ?_ rfl (by kernel_rfl) (fun _ _ _ h => h) (Or.inl ⟨by rfl, ?_⟩) hSX ?_
  rotate_left
  · intro wX hS
    have hq := Blk.c hS 0 (v := .slice y1 6 d1) rfl
    go_simp
    (try with_reducible rfl)
  (try simp only [Act.put, List.setIfInBounds_toArray, List.set_cons_succ, List.set_cons_zero])
  refine tkPP 2 ⟨_, _, _, _, _, _⟩ ?_ rfl (by kernel_rfl) (fun _ _ _ h => h) (Or.inl ⟨by rfl, ?_⟩) ?_
  rotate_left
  · intro wX _
    go_simp
    (try with_reducible rfl)
  (try simp only [Act.put, List.setIfInBounds_toArray, List.set_cons_succ, List.set_cons_zero])
  refine tkPP 3 ⟨_, _, _, _, _, _⟩ ?_ rfl (by kernel_rfl) (fun _ _ _ h => h) (Or.inl ⟨by rfl, ?_⟩) ?_
  rotate_left
  · intro wX _
    go_simp
    (try with_reducible rfl)
  (try simp only [Act.put, List.setIfInBounds_toArray, List.set_cons_succ, List.set_cons_zero])
  refine tkPP 4 ⟨_, _, _, _, _, _⟩ ?_ rfl (by kernel_rfl) (fun _ _ _ h => h) (Or.inl ⟨by rfl, ?_⟩) ?_
  rotate_left
  · intro wX _
    go_simp
    (try with_reducible rfl)
  (try simp only [Act.put, List.setIfInBounds_toArray, List.set_cons_succ, List.set_cons_zero])
  refine tkPP 5 ⟨_, _, _, _, _, _⟩ ?_ rfl (by kernel_rfl) (fun _ _ _ h => h) (Or.inl ⟨by rfl, ?_⟩) ?_
  rotate_left
  · intro wX _
    go_simp
    (try with_reducible rfl)
  (try simp only [Act.put, List.setIfInBounds_toArray, List.set_cons_succ, List.set_cons_zero])
  refine tkPP 7 ⟨_, _, _, _, _, _⟩ ?_ rfl (by kernel_rfl) (fun _ _ _ h => h) (Or.inl ⟨by rfl, ?_⟩) ?_
  rotate_left
  · intro wX _
    go_simp
    (try with_reducible rfl)
  (try simp only [Act.put, List.setIfInBounds_toArray, List.set_cons_succ, List.set_cons_zero])
  refine tkPP 8 ⟨_, _, _, _, _, _⟩ ?_ rfl (by kernel_rfl) (fun _ _ _ h => h) (Or.inl ⟨by rfl, ?_⟩) ?_
  rotate_left
  · intro wX _
    go_simp
    (try with_reducible rfl)
  (try simp only [Act.put, List.setIfInBounds_toArray, List.set_cons_succ, List.set_cons_zero])
  refine tkPP 9 ⟨_, _, _, _, _, _⟩ ?_ rfl (by kernel_rfl) (fun _ _ _ h => h) (Or.inl ⟨by rfl, ?_⟩) ?_
  rotate_left
  · intro wX _
    go_simp
    (try with_reducible rfl)
  (try simp only [Act.put, List.setIfInBounds_toArray, List.set_cons_succ, List.set_cons_zero])
  refine tkPP 10 ⟨_, _, _, _, _, _⟩ ?_ rfl (by kernel_rfl) (fun _ _ _ h => h) (Or.inl ⟨by rfl, ?_⟩) ?_
  rotate_left
  · intro wX _
    go_simp
    (try with_reducible rfl)
  (try simp only [Act.put, List.setIfInBounds_toArray, List.set_cons_succ, List.set_cons_zero])
  refine tkPP 12 ⟨_, _, _, _, _, _⟩ ?_ rfl (by kernel_rfl) (fun _ _ _ h => h) (Or.inl ⟨by rfl, ?_⟩) ?_
  rotate_left
  · intro wX _
    go_simp
    (try with_reducible rfl)
  (try simp only [Act.put, List.setIfInBounds_toArray, List.set_cons_succ, List.set_cons_zero])
  refine tkPP 13 ⟨_, _, _, _, _, _⟩ ?_ rfl (by kernel_rfl) (fun _ _ _ h => h) (Or.inl ⟨by rfl, ?_⟩) ?_
  rotate_left
  · intro wX _
    go_simp
    (try with_reducible rfl)
  (try simp only [Act.put, List.setIfInBounds_toArray, List.set_cons_succ, List.set_cons_zero])
  refine tkPP 14 ⟨_, _, _, _, _, _⟩ ?_ rfl (by kernel_rfl) (fun _ _ _ h => h) (Or.inl ⟨by rfl, ?_⟩) ?_
  rotate_left
  · intro wX _
    go_simp
    (try with_reducible rfl)
  (try simp only [Act.put, List.setIfInBounds_toArray, List.set_cons_succ, List.set_cons_zero])
  refine tkPP 15 ⟨_, _, _, _, _, _⟩ ?_ rfl (by kernel_rfl) (fun _ _ _ h => h) (Or.inl ⟨by rfl, ?_⟩) ?_
  rotate_left
  · intro wX _
    go_simp
    (try with_reducible rfl)
  (try simp only [Act.put, List.setIfInBounds_toArray, List.set_cons_succ, List.set_cons_zero])
  refine tkPP 16 ⟨_, _, _, _, _, _⟩ ?_ rfl (by kernel_rfl) (fun _ _ _ h => h) (Or.inl ⟨by rfl, ?_⟩) ?_
  rotate_left
  · intro wX _
    go_simp
    (try with_reducible rfl)
  (try simp only [Act.put, List.setIfInBounds_toArray, List.set_cons_succ, List.set_cons_zero])
  refine tkPP 18 ⟨_, _, _, _, _, _⟩ ?_ rfl (by kernel_rfl) (fun _ _ _ h => h) (Or.inl ⟨by rfl, ?_⟩) ?_
  rotate_left
  · intro wX _
    go_simp
    (try with_reducible rfl)
  (try simp only [Act.put, List.setIfInBounds_toArray, List.set_cons_succ, List.set_cons_zero])
  refine tkPP 19 ⟨_, _, _, _, _, _⟩ ?_ rfl (by kernel_rfl) (fun _ _ _ h => h) (Or.inl ⟨by rfl, ?_⟩) ?_
  rotate_left
  · intro wX _
    go_simp
    (try with_reducible rfl)
  (try simp only [Act.put, List.setIfInBounds_toArray, List.set_cons_succ, List.set_cons_zero])
  refine tkPP 20 ⟨_, _, _, _, _, _⟩ ?_ rfl (by kernel_rfl) (fun _ _ _ h => h) (Or.inl ⟨by rfl, ?_⟩) ?_
  rotate_left
  · intro wX _
    go_simp
    (try with_reducible rfl)
  (try simp only [Act.put, List.setIfInBounds_toArray, List.set_cons_succ, List.set_cons_zero])
  refine tkPP 21 ⟨_, _, _, _, _, _⟩ ?_ rfl (by kernel_rfl) (fun _ _ _ h => h) (Or.inl ⟨by rfl, ?_⟩) ?_
  rotate_left
  · intro wX _
    go_simp
    (try with_reducible rfl)
  (try simp only [Act.put, List.setIfInBounds_toArray, List.set_cons_succ, List.set_cons_zero])
  refine tkPP 23 ⟨_, _, _, _, _, _⟩ ?_ rfl (by kernel_rfl) (fun _ _ _ h => h) (Or.inl ⟨by rfl, ?_⟩) ?_
  rotate_left
  · intro wX _
    go_simp
    (try with_reducible rfl)
  (try simp only [Act.put, List.setIfInBounds_toArray, List.set_cons_succ, List.set_cons_zero])
  refine tkPP 24 ⟨_, _, _, _, _, _⟩ ?_ rfl (by kernel_rfl) (fun _ _ _ h => h) (Or.inl ⟨by rfl, ?_⟩) ?_
  rotate_left
  · intro wX _
    go_simp
    (try with_reducible rfl)
  (try simp only [Act.put, List.setIfInBounds_toArray, List.set_cons_succ, List.set_cons_zero])
  refine tkPP 25 ⟨_, _, _, _, _, _⟩ ?_ rfl (by kernel_rfl) (fun _ _ _ h => h) (Or.inl ⟨by rfl, ?_⟩) ?_
  rotate_left
  · intro wX _
    go_simp
    (try with_reducible rfl)
  (try simp only [Act.put, List.setIfInBounds_toArray, List.set_cons_succ, List.set_cons_zero])
  refine tkPP 26 ⟨_, _, _, _, _, _⟩ ?_ rfl (by kernel_rfl) (fun _ _ _ h => h) (Or.inl ⟨by rfl, ?_⟩) ?_
  rotate_left
  · intro wX _
    go_simp
    (try with_reducible rfl)
  (try simp only [Act.put, List.setIfInBounds_toArray, List.set_cons_succ, List.set_cons_zero])
  refine tkPP 28 ⟨_, _, _, _, _, _⟩ ?_ rfl (by kernel_rfl) (fun _ _ _ h => h) (Or.inl ⟨by rfl, ?_⟩) ?_
  rotate_left
  · intro wX _
    go_simp
    (try with_reducible rfl)
  (try simp only [Act.put, List.setIfInBounds_toArray, List.set_cons_succ, List.set_cons_zero])
  refine tkPP 29 ⟨_, _, _, _, _, _⟩ ?_ rfl (by kernel_rfl) (fun _ _ _ h => h) (Or.inl ⟨by rfl, ?_⟩) ?_
  rotate_left
  · intro wX _
    go_simp
    (try with_reducible rfl)
  (try simp only [Act.put, List.setIfInBounds_toArray, List.set_cons_succ, List.set_cons_zero])
  refine tkPP 30 ⟨_, _, _, _, _, _⟩ ?_ rfl (by kernel_rfl) (fun _ _ _ h => h) (Or.inl ⟨by rfl, ?_⟩) ?_
  rotate_left
  · intro wX _
    go_simp
    (try with_reducible rfl)
  (try simp only [Act.put, List.setIfInBounds_toArray, List.set_cons_succ, List.set_cons_zero])
  refine tkPP 31 ⟨_, _, _, _, _, _⟩ ?_ rfl (by kernel_rfl) (fun _ _ _ h => h) (Or.inl ⟨by rfl, ?_⟩) ?_
  rotate_left
  · intro wX _
    go_simp
    (try with_reducible rfl)
  (try simp only [Act.put, List.setIfInBounds_toArray, List.set_cons_succ, List.set_cons_zero])
  refine tkPP 33 ⟨_, _, _, _, _, _⟩ ?_ rfl (by kernel_rfl) (fun _ _ _ h => h) (Or.inl ⟨by rfl, ?_⟩) ?_
  rotate_left
  · intro wX _
    go_simp
    (try with_reducible rfl)
  (try simp only [Act.put, List.setIfInBounds_toArray, List.set_cons_succ, List.set_cons_zero])
  refine tkPP 34 ⟨_, _, _, _, _, _⟩ ?_ rfl (by kernel_rfl) (fun _ _ _ h => h) (Or.inl ⟨by rfl, ?_⟩) ?_
  rotate_left
  · intro wX _
    go_simp
    (try with_reducible rfl)
  (try simp only [Act.put, List.setIfInBounds_toArray, List.set_cons_succ, List.set_cons_zero])
  refine tkPP 35 ⟨_, _, _, _, _, _⟩ ?_ rfl (by kernel_rfl) (fun _ _ _ h => h) (Or.inl ⟨by rfl, ?_⟩) ?_
  rotate_left
  · intro wX _
    go_simp
    (try with_reducible rfl)
  (try simp only [Act.put, List.setIfInBounds_toArray, List.set_cons_succ, List.set_cons_zero])
  refine tkPP 36 ⟨_, _, _, _, _, _⟩ ?_ rfl (by kernel_rfl) (fun _ _ _ h => h) (Or.inl ⟨by rfl, ?_⟩) ?_
  rotate_left
  · intro wX _
    go_simp
    (try with_reducible rfl)
  (try simp only [Act.put, List.setIfInBounds_toArray, List.set_cons_succ, List.set_cons_zero])
  refine tkPP 38 ⟨_, _, _, _, _, _⟩ ?_ rfl (by kernel_rfl) (fun _ _ _ h => h) (Or.inl ⟨by rfl, ?_⟩) ?_
  rotate_left
  · intro wX _
    go_simp
    (try with_reducible rfl)
  (try simp only [Act.put, List.setIfInBounds_toArray, List.set_cons_succ, List.set_cons_zero])
  refine tkPP 39 ⟨_, _, _, _, _, _⟩ ?_ rfl (by kernel_rfl) (fun _ _ _ h => h) (Or.inl ⟨by rfl, ?_⟩) ?_
  rotate_left
  · intro wX _
    go_simp
    (try with_reducible rfl)
  (try simp only [Act.put, List.setIfInBounds_toArray, List.set_cons_succ, List.set_cons_zero])
  refine tkPP 40 ⟨_, _, _, _, _, _⟩ ?_ rfl (by kernel_rfl) (fun _ _ _ h => h) (Or.inl ⟨by rfl, ?_⟩) ?_
  rotate_left
  · intro wX _
    go_simp
    (try with_reducible rfl)
  (try simp only [Act.put, List.setIfInBounds_toArray, List.set_cons_succ, List.set_cons_zero])
  clear hSX hw7 hw8 hw9 hw10 hw11 hw12 hw13 hw14
  refine wpAnyP_one (i := 6) (o := ⟨_, _, _, _, _, _⟩) (by kernel_rfl) rfl ?_ <;> intro K hK
  go_simp
  go_at_call 74
  refine (rb_order _ _ _ _ _ (by decide)).mono ?_
  rintro e W ⟨rfl, EW⟩
  refine hK _ _ (.inr fun h => h.ex EW) ?_
  clear hK
  replace HX := Lib.hid (Ext.comp HX.out EW)
  clear EW
  refine wpAnyP_one (i := 11) (o := ⟨_, _, _, _, _, _⟩) (by kernel_rfl) rfl ?_ <;> intro K hK
  go_simp
  go_at_call 74
  refine (rb_order _ _ _ _ _ (by decide)).mono ?_
  rintro e W ⟨rfl, EW⟩
  refine hK _ _ (.inr fun h => h.ex EW) ?_
  clear hK
  replace HX := Lib.hid (Ext.comp HX.out EW)
  clear EW
  refine wpAnyP_one (i := 17) (o := ⟨_, _, _, _, _, _⟩) (by kernel_rfl) rfl ?_ <;> intro K hK
  go_simp
  go_at_call 74
  refine (rb_order _ _ _ _ _ (by decide)).mono ?_
  rintro e W ⟨rfl, EW⟩
  refine hK _ _ (.inr fun h => h.ex EW) ?_
  clear hK
  replace HX := Lib.hid (Ext.comp HX.out EW)
  clear EW
  refine wpAnyP_one (i := 22) (o := ⟨_, _, _, _, _, _⟩) (by kernel_rfl) rfl ?_ <;> intro K hK
  go_simp
  go_at_call 74
  refine (rb_order _ _ _ _ _ (by decide)).mono ?_
  rintro e W ⟨rfl, EW⟩
  refine hK _ _ (.inr fun h => h.ex EW) ?_
  clear hK
  replace HX := Lib.hid (Ext.comp HX.out EW)
  clear EW
  refine wpAnyP_one (i := 27) (o := ⟨_, _, _, _, _, _⟩) (by kernel_rfl) rfl ?_ <;> intro K hK
  go_simp
  go_at_call 74
  refine (rb_order _ _ _ _ _ (by decide)).mono ?_
  rintro e W ⟨rfl, EW⟩
  refine hK _ _ (.inr fun h => h.ex EW) ?_
  clear hK
  replace HX := Lib.hid (Ext.comp HX.out EW)
  clear EW
  refine wpAnyP_one (i := 32) (o := ⟨_, _, _, _, _, _⟩) (by kernel_rfl) rfl ?_ <;> intro K hK
  go_simp
  go_at_call 74
  refine (rb_order _ _ _ _ _ (by decide)).mono ?_
  rintro e W ⟨rfl, EW⟩
  refine hK _ _ (.inr fun h => h.ex EW) ?_
  clear hK
  replace HX := Lib.hid (Ext.comp HX.out EW)
  clear EW
  refine wpAnyP_one (i := 37) (o := ⟨_, _, _, _, _, _⟩) (by kernel_rfl) rfl ?_ <;> intro K hK
  go_simp
  go_at_call 74
  refine (rb_order _ _ _ _ _ (by decide)).mono ?_
  rintro e W ⟨rfl, EW⟩
  refine hK _ _ (.inr fun h => h.ex EW) ?_
  clear hK
  replace HX := Lib.hid (Ext.comp HX.out EW)
  clear EW
  refine wpAnyP_one (i := 41) (o := ⟨_, _, _, _, _, _⟩) (by kernel_rfl) rfl ?_ <;> intro K hK
  go_simp
  go_at_call 74
  refine (rb_order _ _ _ _ _ (by decide)).mono ?_
  rintro e W ⟨rfl, EW⟩
  refine hK _ _ (.inr fun h => h.ex EW) ?_
  clear hK
  replace HX := Lib.hid (Ext.comp HX.out EW)
  clear EW
  obtain ⟨W7, rfl⟩ : ∃ W7 : World, W7 = W := ⟨_, rfl⟩
  refine wpAnyP_one (i := 42) (o := ⟨_, _, _, _, _, _⟩) (by kernel_rfl) rfl ?_ <;> intro K hK
  go_simp
  refine hK _ _ (.inr fun h => h.al _) ?_
  clear hK
  have EV7 : Ext V (W7.alloc (.cells #[.int .i64 (Q.written ⟨3, 17, 22, 7⟩), .int .i64 (Q.written ⟨3, 16, 22, 8⟩), .int .i64 (Q.written ⟨5, 22, 9, 10⟩), .int .i64 (Q.written ⟨1, 20, 19, 10⟩), .int .i64 (Q.written ⟨4, 15, 21, 11⟩), .int .i64 (Q.written ⟨1, 21, 22, 12⟩), .int .i64 (Q.written ⟨3, 16, 22, 13⟩), .int .i64 (Q.written ⟨5, 22, 14, 2⟩)] 3)) := HX.out.alloc _
  have hfr7 : From (W7.alloc (.cells #[.int .i64 (Q.written ⟨3, 17, 22, 7⟩), .int .i64 (Q.written ⟨3, 16, 22, 8⟩), .int .i64 (Q.written ⟨5, 22, 9, 10⟩), .int .i64 (Q.written ⟨1, 20, 19, 10⟩), .int .i64 (Q.written ⟨4, 15, 21, 11⟩), .int .i64 (Q.written ⟨1, 21, 22, 12⟩), .int .i64 (Q.written ⟨3, 16, 22, 13⟩), .int .i64 (Q.written ⟨5, 22, 14, 2⟩)] 3)) (some ⟨W7.heap.size, 0, none⟩) (iv [Q.written ⟨3, 17, 22, 7⟩, Q.written ⟨3, 16, 22, 8⟩, Q.written ⟨5, 22, 9, 10⟩, Q.written ⟨1, 20, 19, 10⟩, Q.written ⟨4, 15, 21, 11⟩, Q.written ⟨1, 21, 22, 12⟩, Q.written ⟨3, 16, 22, 13⟩, Q.written ⟨5, 22, 14, 2⟩]) := from_lit (zs := [Q.written ⟨3, 17, 22, 7⟩, Q.written ⟨3, 16, 22, 8⟩, Q.written ⟨5, 22, 9, 10⟩, Q.written ⟨1, 20, 19, 10⟩, Q.written ⟨4, 15, 21, 11⟩, Q.written ⟨1, 21, 22, 12⟩, Q.written ⟨3, 16, 22, 13⟩, Q.written ⟨5, 22, 14, 2⟩])
  generalize W7.alloc (.cells #[.int .i64 (Q.written ⟨3, 17, 22, 7⟩), .int .i64 (Q.written ⟨3, 16, 22, 8⟩), .int .i64 (Q.written ⟨5, 22, 9, 10⟩), .int .i64 (Q.written ⟨1, 20, 19, 10⟩), .int .i64 (Q.written ⟨4, 15, 21, 11⟩), .int .i64 (Q.written ⟨1, 21, 22, 12⟩), .int .i64 (Q.written ⟨3, 16, 22, 13⟩), .int .i64 (Q.written ⟨5, 22, 14, 2⟩)] 3) = W8 at EV7 hfr7 ⊢
  have hBs : B ≤ W8.heap.size := by have := EV7.size; have := hblk.lt; omega
  refine wpAnyP_one (i := 43) (o := ⟨_, _, _, _, _, _⟩) (by kernel_rfl) rfl ?_ <;> intro K hK
  refine step_app2 (by rfl) _ _ _ (by rfl) 3 i0 (.int .i64 0) 1 8 Try.underlying22 hi0 hz0 hz1 hz2 rfl (by omega) (.slice y1 6 d1) 6 B (iv [Q.written ⟨1, 15, 21, 1⟩, Q.written ⟨3, 19, 19, 2⟩, Q.written ⟨1, 19, 20, 3⟩, Q.written ⟨2, 21, 20, 4⟩, Q.written ⟨1, 20, 22, 5⟩, Q.written ⟨4, 18, 22, 6⟩]) (by rfl) (own_extX hr1 EV7) hBs (some ⟨W7.heap.size, 0, none⟩) 8 8 (iv [Q.written ⟨3, 17, 22, 7⟩, Q.written ⟨3, 16, 22, 8⟩, Q.written ⟨5, 22, 9, 10⟩, Q.written ⟨1, 20, 19, 10⟩, Q.written ⟨4, 15, 21, 11⟩, Q.written ⟨1, 21, 22, 12⟩, Q.written ⟨3, 16, 22, 13⟩, Q.written ⟨5, 22, 14, 2⟩]) (by rfl) rfl hfr7 (iv_one [Q.written ⟨3, 17, 22, 7⟩, Q.written ⟨3, 16, 22, 8⟩, Q.written ⟨5, 22, 9, 10⟩, Q.written ⟨1, 20, 19, 10⟩, Q.written ⟨4, 15, 21, 11⟩, Q.written ⟨1, 21, 22, 12⟩, Q.written ⟨3, 16, 22, 13⟩, Q.written ⟨5, 22, 14, 2⟩]) (by unfold maxLen; omega) (by omega) ?_
  intro vA WA hoA hgA haA
  obtain ⟨yA, dA, rfl⟩ := own_slice hoA
  refine hK _ _ (.inr fun h => (hgA.block _ h.lt (fun e => HMV.out.n1 e.symm)).trans h) ?_
  clear hK
  have hAA := Md.app1 HMV.out (ns := [Q.written ⟨3, 17, 22, 7⟩, Q.written ⟨3, 16, 22, 8⟩, Q.written ⟨5, 22, 9, 10⟩, Q.written ⟨1, 20, 19, 10⟩, Q.written ⟨4, 15, 21, 11⟩, Q.written ⟨1, 21, 22, 12⟩, Q.written ⟨3, 16, 22, 13⟩, Q.written ⟨5, 22, 14, 2⟩]) rfl (Nat.le_succ B) HEV.out (by have := HBP.out; omega) EV7 hoA hgA haA
  have hbA : Blk WA (B + 1) _ _ := (hgA.block _ (Nat.lt_of_lt_of_le hblk.lt EV7.size) (fun e => HMV.out.n1 e.symm)).trans (hblk.ex EV7)
  have kA := hbA.c 0 rfl
  have fA := hbA.f 0
  have hRA : Blk (WA.setCell ⟨B + 1, 0, none⟩ (.slice yA (6 + 8) dA)) bp #[.slice none 0 0, .slice none 0 0, .int .i64 0, .int .i64 0, .int .i64 0, .slice none 0 0] 24 := Blk.ot ((hgA.block _ (Nat.lt_of_lt_of_le HRV.out.lt EV7.size) (fun e => by have := (HMV.out.r1.lt _ e.symm).1; omega)).trans (HRV.out.ex EV7)) (by omega)
  have HMA := Lib.hid hAA.1
  have HEA := Lib.hid hAA.2
  have HRA := Lib.hid hRA
  have hlA := hbA.lt
  clear hAA hbA hRA hoA hgA haA EV7 hfr7 hr1 hblk HX HMV HEV HRV
  refine tkPP 44 ⟨_, _, _, _, _, _⟩ ?_ rfl (by kernel_rfl) (fun _ _ _ h => h) (Or.inl ⟨by rfl, ?_⟩) ?_
  rotate_left
  · intro wX _
    go_simp
    (try with_reducible rfl)
  (try simp only [Act.put, List.setIfInBounds_toArray, List.set_cons_succ, List.set_cons_zero])
  refine wpAnyP_one (i := 45) (o := ⟨_, _, _, _, _, _⟩) (by kernel_rfl) rfl ?_ <;> intro K hK
  go_simp
  refine hK _ _ (.inl rfl) ?_
  clear hK
  refine wpAnyP_done (by kernel_rfl) ?_ _
  have HMV := Lib.hid HMA.out
  have HEV := Lib.hid HEA.out
  have HRV := Lib.hid HRA.out
  obtain ⟨V3, hV3⟩ : ∃ V3, WA.setCell ⟨B + 1, 0, none⟩ (.slice yA (6 + 8) dA) = V3 := ⟨_, rfl⟩
  rw [hV3] at HMV HEV HRV ⊢
  simp only [List.cons_append, List.nil_append] at HMV
  clear hV3 HMA HEA HRA kA fA hlA
  obtain ⟨wl, hwl⟩ : ∃ wl : List Int, [Q.written ⟨1, 15, 21, 1⟩, Q.written ⟨3, 19, 19, 2⟩, Q.written ⟨1, 19, 20, 3⟩, Q.written ⟨2, 21, 20, 4⟩, Q.written ⟨1, 20, 22, 5⟩, Q.written ⟨4, 18, 22, 6⟩, Q.written ⟨3, 17, 22, 7⟩, Q.written ⟨3, 16, 22, 8⟩, Q.written ⟨5, 22, 9, 10⟩, Q.written ⟨1, 20, 19, 10⟩, Q.written ⟨4, 15, 21, 11⟩, Q.written ⟨1, 21, 22, 12⟩, Q.written ⟨3, 16, 22, 13⟩, Q.written ⟨5, 22, 14, 2⟩] = wl := ⟨_, rfl⟩
  have hwll : wl.length = 14 := by rw [← hwl]; rfl
  obtain ⟨v1, hv1⟩ : ∃ v1, Value.slice yA (6 + 8) dA = v1 := ⟨_, rfl⟩
  have hm := HMV.out
  rw [hwl, hv1] at hm
  have HM := Lib.hid hm
  have HWL := Lib.hid hwl
  have HWLL := Lib.hid hwll
  clear hwl hwll hv1 hm HMV
  have hbB2 : w.heap.size = bp := HBP.out
  have hwB : w.heap.size ≤ B := by omega
  clear hbB2
  go_wp2_with fail
  go_loopw [15] (fun s15 wr => ∃ j : Nat, j ≤ 14 ∧ s15 = .int .i64 (j : Int) ∧ Aside (∃ u2, Md wr B (B + 1) wl (List.replicate j 7) [17, 18] 14 19 v1 u2 (Value.slice (some ⟨ba, 0, none⟩) 2 2)) ∧ Aside (Ext w wr) ∧ Aside (Blk wr bp #[.slice none 0 0, .slice none 0 0, .int .i64 0, .int .i64 0, .int .i64 0, .slice none 0 0] 24)) (fun s _ => 14 - (intOf s).toNat)
  case atStart => exact ⟨0, Nat.zero_le _, rfl, ⟨_, HM.out⟩, HEV.out, HRV.out⟩
  case round =>
    obtain ⟨j, hj, rfl, hMd, hEx, hRx⟩ := hrel
    obtain ⟨u2, hmd⟩ := hMd.out
    by_cases hlt : j < 14
    · have hltz : (j : Int) < 14 := by omega
      obtain ⟨y2, d2, rfl⟩ := own_slice hmd.r2
      rw [List.length_replicate] at hmd
      have k1 := hmd.blk.c 1 (v := .slice y2 j d2) rfl
      have hl := hmd.blk.lt
      have HMd := Lib.hid hmd
      have hro := hmd.r2
      rw [List.length_replicate] at hro
      have hRo := own_extX hro ((Ext.refl wr).alloc (.cells #[.int .i64 7] 3))
      have hBr : B ≤ wr.heap.size := by omega
      clear hMd hmd hro
      go_wp2_with (at_builtin; refine wpList_app2 rfl _ _ 22 rfl 3 i0 (.int .i64 0) 1 8 Try.underlying22 hi0 hz0 hz1 hz2 rfl (by decide) _ j B (iv (List.replicate j 7)) rfl hRo (by rw [World.size_alloc]; omega) (some ⟨wr.heap.size, 0, none⟩) 1 1 (iv [7]) rfl rfl (from_one wr _ _) (iv_one _) (by unfold maxLen; omega) (by omega) ?_; intro vA WA hoA hgA haA; obtain ⟨yA, dA, rfl⟩ := own_slice hoA; have hbA : Blk WA (B + 1) _ _ := (hgA.block _ (by rw [World.size_alloc]; omega) (fun e => HMd.out.n2 e.symm)).trans (HMd.out.blk.al _); have kA := hbA.c 1 rfl; have fA := hbA.f 1; have hlA := hbA.lt; have hRA : Blk WA bp _ _ := (hgA.block _ (by rw [World.size_alloc]; have := hRx.out.lt; omega) (fun e => by have := (HMd.out.r2.lt _ e.symm).1; omega)).trans (hRx.out.al _); have HRA := Lib.hid (hRA.ot (m := B + 1) (i := 1) (v := .slice yA (j + 1) dA) (by omega)); have HAA := Lib.hid (Md.app2 HMd.out (ns := [7]) rfl (Nat.le_succ B) hEx.out hwB ((Ext.refl wr).alloc (.cells #[.int .i64 7] 3)) (by rw [List.length_replicate]; exact hoA) hgA haA); clear hbA hRA hoA hgA haA)
      go_roundw
      case rel => exact ⟨j + 1, by omega, by go_num, ⟨_, by rw [List.replicate_succ']; exact HAA.out.1⟩, HAA.out.2, HRA.out⟩
      case measure => simp [intOf]; omega
    · have hltz : ¬ (j : Int) < 14 := by omega
      obtain rfl : j = 14 := by omega
      obtain ⟨w4, rfl⟩ : ∃ w4 : World, w4 = wr := ⟨_, rfl⟩
      obtain ⟨ml, hml⟩ : ∃ ml : List Int, List.replicate 14 7 = ml := ⟨_, rfl⟩
      have hmll : ml.length = 14 := by rw [← hml, List.length_replicate]
      rw [hml] at hmd
      have HM4 := Lib.hid hmd
      have HE4 := Lib.hid hEx.out
      have HR4 := Lib.hid hRx.out
      have HML := Lib.hid hml
      have HMLL := Lib.hid hmll
      clear hMd hEx hRx hmd hml hmll
      go_wp2_with fail
      go_loopw [16] (fun s16 wr => ∃ t : Nat, t ≤ 9 ∧ s16 = .int .i64 (14 + (t : Int)) ∧ Aside (∃ u1 u2, Md wr B (B + 1) (wl ++ (codeC 2).take t) (ml ++ List.replicate t 0) [17, 18] 14 19 u1 u2 (Value.slice (some ⟨ba, 0, none⟩) 2 2)) ∧ Aside (Ext w wr) ∧ Aside (Blk wr bp #[.slice none 0 0, .slice none 0 0, .int .i64 0, .int .i64 0, .int .i64 0, .slice none 0 0] 24)) (fun s _ => 23 - (intOf s).toNat)
      case atStart => exact ⟨0, Nat.zero_le _, rfl, ⟨_, _, by simpa using HM4.out⟩, HE4.out, HR4.out⟩
      case round =>
        obtain ⟨t, ht, rfl, hMd, hEx, hRx⟩ := hrel
        obtain ⟨wo, rfl⟩ : ∃ wo : World, wo = wr := ⟨_, rfl⟩
        obtain ⟨u1, u2, hmd⟩ := hMd.out
        by_cases hlt2 : t < 9
        · have hltz2 : (14 + (t : Int)) ≤ 22 := by omega
          obtain ⟨z, hz⟩ : ∃ z, (codeC 2)[t]? = some z := ⟨_, List.getElem?_eq_getElem (by show t < 9; exact hlt2)⟩
          have htk : (codeC 2).take (t + 1) = (codeC 2).take t ++ [z] := take_get hz
          have HTK := Lib.hid htk
          have hll1 : (wl ++ (codeC 2).take t).length ≤ 60 := by
            rw [List.length_append, HWLL.out, List.length_take]
            have : (codeC 2).length = 9 := rfl
            omega
          have hll2 : (ml ++ List.replicate t 0 : List Int).length ≤ 60 := by rw [List.length_append, HMLL.out, List.length_replicate]; omega
          obtain ⟨wz, hwz⟩ : ∃ wz, wl ++ (codeC 2).take t = wz := ⟨_, rfl⟩
          obtain ⟨mz, hmz⟩ : ∃ mz, ml ++ List.replicate t 0 = mz := ⟨_, rfl⟩
          rw [hwz, hmz] at hmd
          rw [hwz] at hll1
          rw [hmz] at hll2
          have HWZ := Lib.hid hwz
          have HMZ := Lib.hid hmz
          obtain ⟨y1, d1, rfl⟩ := own_slice hmd.r1
          obtain ⟨y2, d2, rfl⟩ := own_slice hmd.r2
          have hblk := hmd.blk
          have HH := Lib.hid hmd
          have hBo : B ≤ wo.heap.size := by have := hblk.lt; omega
          have O1 := Lib.hid (show ∀ W, Ext wo W → W.ownsRow B 3 1 (.slice y1 wz.length d1) wz.length (iv wz) from fun W E => own_extX HH.out.r1 E)
          have HL1 := Lib.hid (show ∀ k, (Value.slice y1 wz.length d1).ownBlock = some k → k < wo.heap.size from fun k hk => (HH.out.r1.lt k hk).2)
          have HN := Lib.hid (And.intro hmd.n1 hmd.n2)
          have HEX := Lib.hid hEx.out
          have HRO := Lib.hid hRx.out
          have hbpl := hRx.out.lt
          have hRW := fun k (hk : (Value.slice y1 wz.length d1).ownBlock = some k) => (HH.out.r1.lt k hk).1
          have hRW2 := fun k (hk : (Value.slice y2 mz.length d2).ownBlock = some k) => (HH.out.r2.lt k hk).1
          have HRW := Lib.hid (And.intro hRW hRW2)
          clear hMd hmd hwz hmz htk hEx hRx hRW hRW2
          by_cases h1 : t = 1
          · have hzz : z = 4194304 := by subst h1; exact (Option.some.inj hz).symm
            have e1 : ((14 : Int) + (t : Int)) = 15 := by omega
            have HZ := Lib.hid hzz
            clear hz h1
            clear HZ
            subst hzz
            go_upto_region 32 with fail
            have hE : Ext wo wo.drew := (Ext.refl wo).drew
            refine wp_region_P (fun i => i == 10 || i == 12) (fun W => Blk W (B + 1) #[.slice y1 wz.length d1, .slice y2 mz.length d2, .int .i64 0, .int .i64 14, .int .i64 19, (Value.slice (some ⟨ba, 0, none⟩) 2 2)] 24) (by kernel_rfl) hblk.dr fun hSX => ?_
            generalize wo.drew = Y at *
            refine tkPP 0 ⟨_, _, _, _, _, _⟩ ?_ rfl (by kernel_rfl) (fun _ _ _ h => h) (Or.inl ⟨by rfl, ?_⟩) ?_
            rotate_left
            · intro wX _
              go_simp
              (try with_reducible rfl)
            (try simp only [Act.put, List.setIfInBounds_toArray, List.set_cons_succ, List.set_cons_zero])
            refine tkP 1 ⟨_, _, _, _, _, _⟩ ?_ rfl (by kernel_rfl) (fun _ _ _ h => h) (Or.inl ⟨by rfl, ?_⟩) hSX ?_
            rotate_left
            · intro wX hS
              have hq := Blk.c hS 0 (v := .slice y1 wz.length d1) rfl
              go_simp
              (try with_reducible rfl)
            (try simp only [Act.put, List.setIfInBounds_toArray, List.set_cons_succ, List.set_cons_zero])
            refine tkPP 2 ⟨_, _, _, _, _, _⟩ ?_ rfl (by kernel_rfl) (fun _ _ _ h => h) (Or.inl ⟨by rfl, ?_⟩) ?_
            rotate_left
            · intro wX _
              go_simp
              (try with_reducible rfl)
            (try simp only [Act.put, List.setIfInBounds_toArray, List.set_cons_succ, List.set_cons_zero])
            refine tkPP 5 ⟨_, _, _, _, _, _⟩ ?_ rfl (by kernel_rfl) (fun _ _ _ h => h) (Or.inl ⟨by rfl, ?_⟩) ?_
            rotate_left
            · intro wX _
              go_simp
              (try with_reducible rfl)
            (try simp only [Act.put, List.setIfInBounds_toArray, List.set_cons_succ, List.set_cons_zero])
            refine tkP 6 ⟨_, _, _, _, _, _⟩ ?_ rfl (by kernel_rfl) (fun _ _ _ h => h) (Or.inl ⟨by rfl, ?_⟩) hSX ?_
            rotate_left
            · intro wX hS
              have hq := Blk.c hS 1 (v := .slice y2 mz.length d2) rfl
              go_simp
              (try with_reducible rfl)
            (try simp only [Act.put, List.setIfInBounds_toArray, List.set_cons_succ, List.set_cons_zero])
            refine wpAnyP_two (i := 3) (j := 7) (oi := ⟨_, _, _, _, _, _⟩) (oj := ⟨_, _, _, _, _, _⟩) (by kernel_rfl) rfl rfl ?_ ?_ <;> intro K hK
            · skip
              go_simp
              refine hK _ _ (.inr fun h => h.al _) ?_
              clear hK
              refine wpAnyP_two (i := 4) (j := 7) (oi := ⟨_, _, _, _, _, _⟩) (oj := ⟨_, _, _, _, _, _⟩) (by kernel_rfl) rfl rfl ?_ ?_ <;> intro K hK
              · skip
                refine step_app2 (by rfl) _ _ _ (by rfl) 3 i0 (.int .i64 0) 1 8 Try.underlying22 hi0 hz0 hz1 hz2 rfl (by omega) (.slice y1 wz.length d1) wz.length B (iv wz) (by rfl) (O1.out _ (by repeat (first | with_reducible exact hE | with_reducible exact Ext.refl _ | with_reducible refine Ext.alloc ?_ _))) (Nat.le_trans hBo (ext_size (by repeat (first | with_reducible exact hE | with_reducible exact Ext.refl _ | with_reducible refine Ext.alloc ?_ _)))) (some ⟨Y.heap.size, 0, none⟩) 1 1 (iv [4194304]) (by rfl) rfl (from_oneN (w := Y) rfl (by repeat (first | with_reducible exact hE | with_reducible exact Ext.refl _ | with_reducible refine Ext.alloc ?_ _))) (iv_one [4194304]) (by unfold maxLen; omega) (by omega) ?_
                intro vA WA hoA hgA haA
                obtain ⟨yA, dA, rfl⟩ := own_slice hoA
                have EA : Ext wo _ := ext_at hgA (by repeat (first | with_reducible exact hE | with_reducible exact Ext.refl _ | with_reducible refine Ext.alloc ?_ _))
                have KA := Md.keepA HH.out EA hgA
                refine hK _ _ (.inr fun h => (hgA.block _ h.lt (fun e => HN.out.1 e.symm)).trans h) ?_
                clear hK
                refine tkPP 9 ⟨_, _, _, _, _, _⟩ ?_ rfl (by kernel_rfl) (fun _ _ _ h => h) (Or.inl ⟨by rfl, ?_⟩) ?_
                rotate_left
                · intro wX _
                  go_simp
                  (try with_reducible rfl)
                (try simp only [Act.put, List.setIfInBounds_toArray, List.set_cons_succ, List.set_cons_zero])
                refine wpAnyP_one (i := 7) (o := ⟨_, _, _, _, _, _⟩) (by kernel_rfl) rfl ?_ <;> intro K hK
                go_simp
                refine hK _ _ (.inr fun h => h.al _) ?_
                clear hK
                refine wpAnyP_one (i := 8) (o := ⟨_, _, _, _, _, _⟩) (by kernel_rfl) rfl ?_ <;> intro K hK
                refine step_app2 (by rfl) _ _ _ (by rfl) 3 i0 (.int .i64 0) 1 8 Try.underlying22 hi0 hz0 hz1 hz2 rfl (by omega) (.slice y2 mz.length d2) mz.length B (iv mz) (by rfl) (KA.2.1 _ (by repeat (first | with_reducible exact hE | with_reducible exact Ext.refl _ | with_reducible refine Ext.alloc ?_ _))) (Nat.le_trans hBo (Nat.le_trans KA.1 (ext_size (by repeat (first | with_reducible exact hE | with_reducible exact Ext.refl _ | with_reducible refine Ext.alloc ?_ _))))) (some ⟨WA.heap.size, 0, none⟩) 1 1 (iv [0]) (by rfl) rfl (from_oneN (w := WA) rfl (by repeat (first | with_reducible exact hE | with_reducible exact Ext.refl _ | with_reducible refine Ext.alloc ?_ _))) (iv_one [0]) (by unfold maxLen; omega) (by omega) ?_
                intro vB WB hoB hgB haB
                obtain ⟨yB, dB, rfl⟩ := own_slice hoB
                have EB : Ext WA _ := ext_at hgB (by repeat (first | with_reducible exact hE | with_reducible exact Ext.refl _ | with_reducible refine Ext.alloc ?_ _))
                obtain ⟨g0, g1, g2, g3⟩ := Md.keepB HH.out KA.2.2 EB hgB
                have FIN := Md.fin HH.out (Nat.le_succ B) HEX.out hwB EA hoA hgA haA EB hoB hgB haB
                have hRA : Blk WA bp #[.slice none 0 0, .slice none 0 0, .int .i64 0, .int .i64 0, .int .i64 0, .slice none 0 0] 24 := (hgA.block _ (Nat.lt_of_lt_of_le hbpl EA.size) (fun e => by have := HRW.out.1 _ e.symm; omega)).trans (HRO.out.ex EA)
                have hRB : Blk WB bp #[.slice none 0 0, .slice none 0 0, .int .i64 0, .int .i64 0, .int .i64 0, .slice none 0 0] 24 := (hgB.block _ (Nat.lt_of_lt_of_le hRA.lt EB.size) (fun e => by have := HRW.out.2 _ e.symm; omega)).trans (hRA.ex EB)
                have HRF := Lib.hid ((hRB.ot (m := B + 1) (i := 0) (v := .slice yA (wz.length + 1) dA) (by omega)).ot (m := B + 1) (i := 1) (v := .slice yB (mz.length + 1) dB) (by omega))
                have hlB := hRB.lt
                have hlb1 : B + 1 < WB.heap.size := by have := hblk.lt; have := EA.size; have := EB.size; have := hgA.size; have := hgB.size; omega
                refine hK _ _ (.inr fun h => (hgB.block _ h.lt (fun e => HN.out.2 e.symm)).trans h) ?_
                clear hK
                have HFIN := Lib.hid FIN
                clear FIN KA EA EB hoA hgA haA hoB hgB haB hSX hblk hE hRA hRB
                refine wpAnyP_one (i := 10) (o := ⟨_, _, _, _, _, _⟩) (by kernel_rfl) rfl ?_ <;> intro K hK
                go_simp
                refine hK _ _ (.inl rfl) ?_
                clear hK
                refine wpAnyP_one (i := 11) (o := ⟨_, _, _, _, _, _⟩) (by kernel_rfl) rfl ?_ <;> intro K hK
                go_simp
                refine hK _ _ (.inr fun h => h) ?_
                clear hK
                refine wpAnyP_one (i := 12) (o := ⟨_, _, _, _, _, _⟩) (by kernel_rfl) rfl ?_ <;> intro K hK
                go_simp
                refine hK _ _ (.inl rfl) ?_
                clear hK
                refine wpAnyP_done (by kernel_rfl) ?_ _
                go_wp2_with fail
                go_roundw
                case rel => exact ⟨t + 1, by omega, congrArg (Value.int .i64) (by push_cast; omega), ⟨_, _, by rw [HTK.out, List.replicate_succ', ← List.append_assoc, ← List.append_assoc, HWZ.out, HMZ.out]; exact HFIN.out.1⟩, HFIN.out.2, HRF.out⟩
                case measure => simp [intOf]; omega
              · skip
                go_simp
                refine hK _ _ (.inr fun h => h.al _) ?_
                clear hK
                refine wpAnyP_one (i := 4) (o := ⟨_, _, _, _, _, _⟩) (by kernel_rfl) rfl ?_ <;> intro K hK
                refine step_app2 (by rfl) _ _ _ (by rfl) 3 i0 (.int .i64 0) 1 8 Try.underlying22 hi0 hz0 hz1 hz2 rfl (by omega) (.slice y1 wz.length d1) wz.length B (iv wz) (by rfl) (O1.out _ (by repeat (first | with_reducible exact hE | with_reducible exact Ext.refl _ | with_reducible refine Ext.alloc ?_ _))) (Nat.le_trans hBo (ext_size (by repeat (first | with_reducible exact hE | with_reducible exact Ext.refl _ | with_reducible refine Ext.alloc ?_ _)))) (some ⟨Y.heap.size, 0, none⟩) 1 1 (iv [4194304]) (by rfl) rfl (from_oneN (w := Y) rfl (by repeat (first | with_reducible exact hE | with_reducible exact Ext.refl _ | with_reducible refine Ext.alloc ?_ _))) (iv_one [4194304]) (by unfold maxLen; omega) (by omega) ?_
                intro vA WA hoA hgA haA
                obtain ⟨yA, dA, rfl⟩ := own_slice hoA
                have EA : Ext wo _ := ext_at hgA (by repeat (first | with_reducible exact hE | with_reducible exact Ext.refl _ | with_reducible refine Ext.alloc ?_ _))
                have KA := Md.keepA HH.out EA hgA
                refine hK _ _ (.inr fun h => (hgA.block _ h.lt (fun e => HN.out.1 e.symm)).trans h) ?_
                clear hK
                refine tkPP 9 ⟨_, _, _, _, _, _⟩ ?_ rfl (by kernel_rfl) (fun _ _ _ h => h) (Or.inl ⟨by rfl, ?_⟩) ?_
                rotate_left
                · intro wX _
                  go_simp
                  (try with_reducible rfl)
                (try simp only [Act.put, List.setIfInBounds_toArray, List.set_cons_succ, List.set_cons_zero])
                refine wpAnyP_one (i := 8) (o := ⟨_, _, _, _, _, _⟩) (by kernel_rfl) rfl ?_ <;> intro K hK
                refine step_app2 (by rfl) _ _ _ (by rfl) 3 i0 (.int .i64 0) 1 8 Try.underlying22 hi0 hz0 hz1 hz2 rfl (by omega) (.slice y2 mz.length d2) mz.length B (iv mz) (by rfl) (KA.2.1 _ (by repeat (first | with_reducible exact hE | with_reducible exact Ext.refl _ | with_reducible refine Ext.alloc ?_ _))) (Nat.le_trans hBo (Nat.le_trans KA.1 (ext_size (by repeat (first | with_reducible exact hE | with_reducible exact Ext.refl _ | with_reducible refine Ext.alloc ?_ _))))) (some ⟨Y.heap.size + 1, 0, none⟩) 1 1 (iv [0]) (by rfl) rfl (from_kept (from_oneN (w := Y.alloc (.cells #[.int .i64 4194304] 3)) (World.size_alloc _ _) (by repeat (first | with_reducible exact hE | with_reducible exact Ext.refl _ | with_reducible refine Ext.alloc ?_ _))) hgA (fun e => by have := HL1.out _ e.symm; have := hE.size; omega)) (iv_one [0]) (by unfold maxLen; omega) (by omega) ?_
                intro vB WB hoB hgB haB
                obtain ⟨yB, dB, rfl⟩ := own_slice hoB
                have EB : Ext WA _ := ext_at hgB (by repeat (first | with_reducible exact hE | with_reducible exact Ext.refl _ | with_reducible refine Ext.alloc ?_ _))
                obtain ⟨g0, g1, g2, g3⟩ := Md.keepB HH.out KA.2.2 EB hgB
                have FIN := Md.fin HH.out (Nat.le_succ B) HEX.out hwB EA hoA hgA haA EB hoB hgB haB
                have hRA : Blk WA bp #[.slice none 0 0, .slice none 0 0, .int .i64 0, .int .i64 0, .int .i64 0, .slice none 0 0] 24 := (hgA.block _ (Nat.lt_of_lt_of_le hbpl EA.size) (fun e => by have := HRW.out.1 _ e.symm; omega)).trans (HRO.out.ex EA)
                have hRB : Blk WB bp #[.slice none 0 0, .slice none 0 0, .int .i64 0, .int .i64 0, .int .i64 0, .slice none 0 0] 24 := (hgB.block _ (Nat.lt_of_lt_of_le hRA.lt EB.size) (fun e => by have := HRW.out.2 _ e.symm; omega)).trans (hRA.ex EB)
                have HRF := Lib.hid ((hRB.ot (m := B + 1) (i := 0) (v := .slice yA (wz.length + 1) dA) (by omega)).ot (m := B + 1) (i := 1) (v := .slice yB (mz.length + 1) dB) (by omega))
                have hlB := hRB.lt
                have hlb1 : B + 1 < WB.heap.size := by have := hblk.lt; have := EA.size; have := EB.size; have := hgA.size; have := hgB.size; omega
                refine hK _ _ (.inr fun h => (hgB.block _ h.lt (fun e => HN.out.2 e.symm)).trans h) ?_
                clear hK
                have HFIN := Lib.hid FIN
                clear FIN KA EA EB hoA hgA haA hoB hgB haB hSX hblk hE hRA hRB
                refine wpAnyP_one (i := 10) (o := ⟨_, _, _, _, _, _⟩) (by kernel_rfl) rfl ?_ <;> intro K hK
                go_simp
                refine hK _ _ (.inl rfl) ?_
                clear hK
                refine wpAnyP_one (i := 11) (o := ⟨_, _, _, _, _, _⟩) (by kernel_rfl) rfl ?_ <;> intro K hK
                go_simp
                refine hK _ _ (.inr fun h => h) ?_
                clear hK
                refine wpAnyP_one (i := 12) (o := ⟨_, _, _, _, _, _⟩) (by kernel_rfl) rfl ?_ <;> intro K hK
                go_simp
                refine hK _ _ (.inl rfl) ?_
                clear hK
                refine wpAnyP_done (by kernel_rfl) ?_ _
                go_wp2_with fail
                go_roundw
                case rel => exact ⟨t + 1, by omega, congrArg (Value.int .i64) (by push_cast; omega), ⟨_, _, by rw [HTK.out, List.replicate_succ', ← List.append_assoc, ← List.append_assoc, HWZ.out, HMZ.out]; exact HFIN.out.1⟩, HFIN.out.2, HRF.out⟩
                case measure => simp [intOf]; omega
            · skip
              go_simp
              refine hK _ _ (.inr fun h => h.al _) ?_
              clear hK
              refine wpAnyP_one (i := 3) (o := ⟨_, _, _, _, _, _⟩) (by kernel_rfl) rfl ?_ <;> intro K hK
              go_simp
              refine hK _ _ (.inr fun h => h.al _) ?_
              clear hK
              refine wpAnyP_one (i := 4) (o := ⟨_, _, _, _, _, _⟩) (by kernel_rfl) rfl ?_ <;> intro K hK
              refine step_app2 (by rfl) _ _ _ (by rfl) 3 i0 (.int .i64 0) 1 8 Try.underlying22 hi0 hz0 hz1 hz2 rfl (by omega) (.slice y1 wz.length d1) wz.length B (iv wz) (by rfl) (O1.out _ (by repeat (first | with_reducible exact hE | with_reducible exact Ext.refl _ | with_reducible refine Ext.alloc ?_ _))) (Nat.le_trans hBo (ext_size (by repeat (first | with_reducible exact hE | with_reducible exact Ext.refl _ | with_reducible refine Ext.alloc ?_ _)))) (some ⟨Y.heap.size + 1, 0, none⟩) 1 1 (iv [4194304]) (by rfl) rfl (from_oneN (w := Y.alloc (.cells #[.int .i64 0] 3)) (World.size_alloc _ _) (by repeat (first | with_reducible exact hE | with_reducible exact Ext.refl _ | with_reducible refine Ext.alloc ?_ _))) (iv_one [4194304]) (by unfold maxLen; omega) (by omega) ?_
              intro vA WA hoA hgA haA
              obtain ⟨yA, dA, rfl⟩ := own_slice hoA
              have EA : Ext wo _ := ext_at hgA (by repeat (first | with_reducible exact hE | with_reducible exact Ext.refl _ | with_reducible refine Ext.alloc ?_ _))
              have KA := Md.keepA HH.out EA hgA
              refine hK _ _ (.inr fun h => (hgA.block _ h.lt (fun e => HN.out.1 e.symm)).trans h) ?_
              clear hK
              refine tkPP 9 ⟨_, _, _, _, _, _⟩ ?_ rfl (by kernel_rfl) (fun _ _ _ h => h) (Or.inl ⟨by rfl, ?_⟩) ?_
              rotate_left
              · intro wX _
                go_simp
                (try with_reducible rfl)
              (try simp only [Act.put, List.setIfInBounds_toArray, List.set_cons_succ, List.set_cons_zero])
              refine wpAnyP_one (i := 8) (o := ⟨_, _, _, _, _, _⟩) (by kernel_rfl) rfl ?_ <;> intro K hK
              refine step_app2 (by rfl) _ _ _ (by rfl) 3 i0 (.int .i64 0) 1 8 Try.underlying22 hi0 hz0 hz1 hz2 rfl (by omega) (.slice y2 mz.length d2) mz.length B (iv mz) (by rfl) (KA.2.1 _ (by repeat (first | with_reducible exact hE | with_reducible exact Ext.refl _ | with_reducible refine Ext.alloc ?_ _))) (Nat.le_trans hBo (Nat.le_trans KA.1 (ext_size (by repeat (first | with_reducible exact hE | with_reducible exact Ext.refl _ | with_reducible refine Ext.alloc ?_ _))))) (some ⟨Y.heap.size, 0, none⟩) 1 1 (iv [0]) (by rfl) rfl (from_kept (from_oneN (w := Y) rfl (by repeat (first | with_reducible exact hE | with_reducible exact Ext.refl _ | with_reducible refine Ext.alloc ?_ _))) hgA (fun e => by have := HL1.out _ e.symm; have := hE.size; omega)) (iv_one [0]) (by unfold maxLen; omega) (by omega) ?_
              intro vB WB hoB hgB haB
              obtain ⟨yB, dB, rfl⟩ := own_slice hoB
              have EB : Ext WA _ := ext_at hgB (by repeat (first | with_reducible exact hE | with_reducible exact Ext.refl _ | with_reducible refine Ext.alloc ?_ _))
              obtain ⟨g0, g1, g2, g3⟩ := Md.keepB HH.out KA.2.2 EB hgB
              have FIN := Md.fin HH.out (Nat.le_succ B) HEX.out hwB EA hoA hgA haA EB hoB hgB haB
              have hRA : Blk WA bp #[.slice none 0 0, .slice none 0 0, .int .i64 0, .int .i64 0, .int .i64 0, .slice none 0 0] 24 := (hgA.block _ (Nat.lt_of_lt_of_le hbpl EA.size) (fun e => by have := HRW.out.1 _ e.symm; omega)).trans (HRO.out.ex EA)
              have hRB : Blk WB bp #[.slice none 0 0, .slice none 0 0, .int .i64 0, .int .i64 0, .int .i64 0, .slice none 0 0] 24 := (hgB.block _ (Nat.lt_of_lt_of_le hRA.lt EB.size) (fun e => by have := HRW.out.2 _ e.symm; omega)).trans (hRA.ex EB)
              have HRF := Lib.hid ((hRB.ot (m := B + 1) (i := 0) (v := .slice yA (wz.length + 1) dA) (by omega)).ot (m := B + 1) (i := 1) (v := .slice yB (mz.length + 1) dB) (by omega))
              have hlB := hRB.lt
              have hlb1 : B + 1 < WB.heap.size := by have := hblk.lt; have := EA.size; have := EB.size; have := hgA.size; have := hgB.size; omega
              refine hK _ _ (.inr fun h => (hgB.block _ h.lt (fun e => HN.out.2 e.symm)).trans h) ?_
              clear hK
              have HFIN := Lib.hid FIN
              clear FIN KA EA EB hoA hgA haA hoB hgB haB hSX hblk hE hRA hRB
              refine wpAnyP_one (i := 10) (o := ⟨_, _, _, _, _, _⟩) (by kernel_rfl) rfl ?_ <;> intro K hK
              go_simp
              refine hK _ _ (.inl rfl) ?_
              clear hK
              refine wpAnyP_one (i := 11) (o := ⟨_, _, _, _, _, _⟩) (by kernel_rfl) rfl ?_ <;> intro K hK
              go_simp
              refine hK _ _ (.inr fun h => h) ?_
              clear hK
              refine wpAnyP_one (i := 12) (o := ⟨_, _, _, _, _, _⟩) (by kernel_rfl) rfl ?_ <;> intro K hK
              go_simp
              refine hK _ _ (.inl rfl) ?_
              clear hK
              refine wpAnyP_done (by kernel_rfl) ?_ _
              go_wp2_with fail
              go_roundw
              case rel => exact ⟨t + 1, by omega, congrArg (Value.int .i64) (by push_cast; omega), ⟨_, _, by rw [HTK.out, List.replicate_succ', ← List.append_assoc, ← List.append_assoc, HWZ.out, HMZ.out]; exact HFIN.out.1⟩, HFIN.out.2, HRF.out⟩
              case measure => simp [intOf]; omega
          · by_cases h2 : t = 2
            · have hzz : z = 1 := by subst h2; exact (Option.some.inj hz).symm
              have e2 : ((14 : Int) + (t : Int)) = 16 := by omega
              have HZ := Lib.hid hzz
              clear hz h1 h2
              clear HZ
              subst hzz
              go_upto_region 32 with fail
              have hE : Ext wo wo.drew := (Ext.refl wo).drew
              refine wp_region_P (fun i => i == 10 || i == 12) (fun W => Blk W (B + 1) #[.slice y1 wz.length d1, .slice y2 mz.length d2, .int .i64 0, .int .i64 14, .int .i64 19, (Value.slice (some ⟨ba, 0, none⟩) 2 2)] 24) (by kernel_rfl) hblk.dr fun hSX => ?_
              generalize wo.drew = Y at *
              refine tkPP 0 ⟨_, _, _, _, _, _⟩ ?_ rfl (by kernel_rfl) (fun _ _ _ h => h) (Or.inl ⟨by rfl, ?_⟩) ?_
              rotate_left
              · intro wX _
                go_simp
                (try with_reducible rfl)
              (try simp only [Act.put, List.setIfInBounds_toArray, List.set_cons_succ, List.set_cons_zero])
              refine tkP 1 ⟨_, _, _, _, _, _⟩ ?_ rfl (by kernel_rfl) (fun _ _ _ h => h) (Or.inl ⟨by rfl, ?_⟩) hSX ?_
              rotate_left
              · intro wX hS
                have hq := Blk.c hS 0 (v := .slice y1 wz.length d1) rfl
                go_simp
                (try with_reducible rfl)
              (try simp only [Act.put, List.setIfInBounds_toArray, List.set_cons_succ, List.set_cons_zero])
              refine tkPP 2 ⟨_, _, _, _, _, _⟩ ?_ rfl (by kernel_rfl) (fun _ _ _ h => h) (Or.inl ⟨by rfl, ?_⟩) ?_
              rotate_left
              · intro wX _
                go_simp
                (try with_reducible rfl)
              (try simp only [Act.put, List.setIfInBounds_toArray, List.set_cons_succ, List.set_cons_zero])
              refine tkPP 5 ⟨_, _, _, _, _, _⟩ ?_ rfl (by kernel_rfl) (fun _ _ _ h => h) (Or.inl ⟨by rfl, ?_⟩) ?_
              rotate_left
              · intro wX _
                go_simp
                (try with_reducible rfl)
              (try simp only [Act.put, List.setIfInBounds_toArray, List.set_cons_succ, List.set_cons_zero])
              refine tkP 6 ⟨_, _, _, _, _, _⟩ ?_ rfl (by kernel_rfl) (fun _ _ _ h => h) (Or.inl ⟨by rfl, ?_⟩) hSX ?_
              rotate_left
              · intro wX hS
                have hq := Blk.c hS 1 (v := .slice y2 mz.length d2) rfl
                go_simp
                (try with_reducible rfl)
              (try simp only [Act.put, List.setIfInBounds_toArray, List.set_cons_succ, List.set_cons_zero])
              refine wpAnyP_two (i := 3) (j := 7) (oi := ⟨_, _, _, _, _, _⟩) (oj := ⟨_, _, _, _, _, _⟩) (by kernel_rfl) rfl rfl ?_ ?_ <;> intro K hK
              · skip
                go_simp
                refine hK _ _ (.inr fun h => h.al _) ?_
                clear hK
                refine wpAnyP_two (i := 4) (j := 7) (oi := ⟨_, _, _, _, _, _⟩) (oj := ⟨_, _, _, _, _, _⟩) (by kernel_rfl) rfl rfl ?_ ?_ <;> intro K hK
                · skip
                  refine step_app2 (by rfl) _ _ _ (by rfl) 3 i0 (.int .i64 0) 1 8 Try.underlying22 hi0 hz0 hz1 hz2 rfl (by omega) (.slice y1 wz.length d1) wz.length B (iv wz) (by rfl) (O1.out _ (by repeat (first | with_reducible exact hE | with_reducible exact Ext.refl _ | with_reducible refine Ext.alloc ?_ _))) (Nat.le_trans hBo (ext_size (by repeat (first | with_reducible exact hE | with_reducible exact Ext.refl _ | with_reducible refine Ext.alloc ?_ _)))) (some ⟨Y.heap.size, 0, none⟩) 1 1 (iv [1]) (by rfl) rfl (from_oneN (w := Y) rfl (by repeat (first | with_reducible exact hE | with_reducible exact Ext.refl _ | with_reducible refine Ext.alloc ?_ _))) (iv_one [1]) (by unfold maxLen; omega) (by omega) ?_
                  intro vA WA hoA hgA haA
                  obtain ⟨yA, dA, rfl⟩ := own_slice hoA
                  have EA : Ext wo _ := ext_at hgA (by repeat (first | with_reducible exact hE | with_reducible exact Ext.refl _ | with_reducible refine Ext.alloc ?_ _))
                  have KA := Md.keepA HH.out EA hgA
                  refine hK _ _ (.inr fun h => (hgA.block _ h.lt (fun e => HN.out.1 e.symm)).trans h) ?_
                  clear hK
                  refine tkPP 9 ⟨_, _, _, _, _, _⟩ ?_ rfl (by kernel_rfl) (fun _ _ _ h => h) (Or.inl ⟨by rfl, ?_⟩) ?_
                  rotate_left
                  · intro wX _
                    go_simp
                    (try with_reducible rfl)
                  (try simp only [Act.put, List.setIfInBounds_toArray, List.set_cons_succ, List.set_cons_zero])
                  refine wpAnyP_one (i := 7) (o := ⟨_, _, _, _, _, _⟩) (by kernel_rfl) rfl ?_ <;> intro K hK
                  go_simp
                  refine hK _ _ (.inr fun h => h.al _) ?_
                  clear hK
                  refine wpAnyP_one (i := 8) (o := ⟨_, _, _, _, _, _⟩) (by kernel_rfl) rfl ?_ <;> intro K hK
                  refine step_app2 (by rfl) _ _ _ (by rfl) 3 i0 (.int .i64 0) 1 8 Try.underlying22 hi0 hz0 hz1 hz2 rfl (by omega) (.slice y2 mz.length d2) mz.length B (iv mz) (by rfl) (KA.2.1 _ (by repeat (first | with_reducible exact hE | with_reducible exact Ext.refl _ | with_reducible refine Ext.alloc ?_ _))) (Nat.le_trans hBo (Nat.le_trans KA.1 (ext_size (by repeat (first | with_reducible exact hE | with_reducible exact Ext.refl _ | with_reducible refine Ext.alloc ?_ _))))) (some ⟨WA.heap.size, 0, none⟩) 1 1 (iv [0]) (by rfl) rfl (from_oneN (w := WA) rfl (by repeat (first | with_reducible exact hE | with_reducible exact Ext.refl _ | with_reducible refine Ext.alloc ?_ _))) (iv_one [0]) (by unfold maxLen; omega) (by omega) ?_
                  intro vB WB hoB hgB haB
                  obtain ⟨yB, dB, rfl⟩ := own_slice hoB
                  have EB : Ext WA _ := ext_at hgB (by repeat (first | with_reducible exact hE | with_reducible exact Ext.refl _ | with_reducible refine Ext.alloc ?_ _))
                  obtain ⟨g0, g1, g2, g3⟩ := Md.keepB HH.out KA.2.2 EB hgB
                  have FIN := Md.fin HH.out (Nat.le_succ B) HEX.out hwB EA hoA hgA haA EB hoB hgB haB
                  have hRA : Blk WA bp #[.slice none 0 0, .slice none 0 0, .int .i64 0, .int .i64 0, .int .i64 0, .slice none 0 0] 24 := (hgA.block _ (Nat.lt_of_lt_of_le hbpl EA.size) (fun e => by have := HRW.out.1 _ e.symm; omega)).trans (HRO.out.ex EA)
                  have hRB : Blk WB bp #[.slice none 0 0, .slice none 0 0, .int .i64 0, .int .i64 0, .int .i64 0, .slice none 0 0] 24 := (hgB.block _ (Nat.lt_of_lt_of_le hRA.lt EB.size) (fun e => by have := HRW.out.2 _ e.symm; omega)).trans (hRA.ex EB)
                  have HRF := Lib.hid ((hRB.ot (m := B + 1) (i := 0) (v := .slice yA (wz.length + 1) dA) (by omega)).ot (m := B + 1) (i := 1) (v := .slice yB (mz.length + 1) dB) (by omega))
                  have hlB := hRB.lt
                  have hlb1 : B + 1 < WB.heap.size := by have := hblk.lt; have := EA.size; have := EB.size; have := hgA.size; have := hgB.size; omega
                  refine hK _ _ (.inr fun h => (hgB.block _ h.lt (fun e => HN.out.2 e.symm)).trans h) ?_
                  clear hK
                  have HFIN := Lib.hid FIN
                  clear FIN KA EA EB hoA hgA haA hoB hgB haB hSX hblk hE hRA hRB
                  refine wpAnyP_one (i := 10) (o := ⟨_, _, _, _, _, _⟩) (by kernel_rfl) rfl ?_ <;> intro K hK
                  go_simp
                  refine hK _ _ (.inl rfl) ?_
                  clear hK
                  refine wpAnyP_one (i := 11) (o := ⟨_, _, _, _, _, _⟩) (by kernel_rfl) rfl ?_ <;> intro K hK
                  go_simp
                  refine hK _ _ (.inr fun h => h) ?_
                  clear hK
                  refine wpAnyP_one (i := 12) (o := ⟨_, _, _, _, _, _⟩) (by kernel_rfl) rfl ?_ <;> intro K hK
                  go_simp
                  refine hK _ _ (.inl rfl) ?_
                  clear hK
                  refine wpAnyP_done (by kernel_rfl) ?_ _
                  go_wp2_with fail
                  go_roundw
                  case rel => exact ⟨t + 1, by omega, congrArg (Value.int .i64) (by push_cast; omega), ⟨_, _, by rw [HTK.out, List.replicate_succ', ← List.append_assoc, ← List.append_assoc, HWZ.out, HMZ.out]; exact HFIN.out.1⟩, HFIN.out.2, HRF.out⟩
                  case measure => simp [intOf]; omega
                · skip
                  go_simp
                  refine hK _ _ (.inr fun h => h.al _) ?_
                  clear hK
                  refine wpAnyP_one (i := 4) (o := ⟨_, _, _, _, _, _⟩) (by kernel_rfl) rfl ?_ <;> intro K hK
                  refine step_app2 (by rfl) _ _ _ (by rfl) 3 i0 (.int .i64 0) 1 8 Try.underlying22 hi0 hz0 hz1 hz2 rfl (by omega) (.slice y1 wz.length d1) wz.length B (iv wz) (by rfl) (O1.out _ (by repeat (first | with_reducible exact hE | with_reducible exact Ext.refl _ | with_reducible refine Ext.alloc ?_ _))) (Nat.le_trans hBo (ext_size (by repeat (first | with_reducible exact hE | with_reducible exact Ext.refl _ | with_reducible refine Ext.alloc ?_ _)))) (some ⟨Y.heap.size, 0, none⟩) 1 1 (iv [1]) (by rfl) rfl (from_oneN (w := Y) rfl (by repeat (first | with_reducible exact hE | with_reducible exact Ext.refl _ | with_reducible refine Ext.alloc ?_ _))) (iv_one [1]) (by unfold maxLen; omega) (by omega) ?_
                  intro vA WA hoA hgA haA
                  obtain ⟨yA, dA, rfl⟩ := own_slice hoA
                  have EA : Ext wo _ := ext_at hgA (by repeat (first | with_reducible exact hE | with_reducible exact Ext.refl _ | with_reducible refine Ext.alloc ?_ _))
                  have KA := Md.keepA HH.out EA hgA
                  refine hK _ _ (.inr fun h => (hgA.block _ h.lt (fun e => HN.out.1 e.symm)).trans h) ?_
                  clear hK
                  refine tkPP 9 ⟨_, _, _, _, _, _⟩ ?_ rfl (by kernel_rfl) (fun _ _ _ h => h) (Or.inl ⟨by rfl, ?_⟩) ?_
                  rotate_left
                  · intro wX _
                    go_simp
                    (try with_reducible rfl)
                  (try simp only [Act.put, List.setIfInBounds_toArray, List.set_cons_succ, List.set_cons_zero])
                  refine wpAnyP_one (i := 8) (o := ⟨_, _, _, _, _, _⟩) (by kernel_rfl) rfl ?_ <;> intro K hK
                  refine step_app2 (by rfl) _ _ _ (by rfl) 3 i0 (.int .i64 0) 1 8 Try.underlying22 hi0 hz0 hz1 hz2 rfl (by omega) (.slice y2 mz.length d2) mz.length B (iv mz) (by rfl) (KA.2.1 _ (by repeat (first | with_reducible exact hE | with_reducible exact Ext.refl _ | with_reducible refine Ext.alloc ?_ _))) (Nat.le_trans hBo (Nat.le_trans KA.1 (ext_size (by repeat (first | with_reducible exact hE | with_reducible exact Ext.refl _ | with_reducible refine Ext.alloc ?_ _))))) (some ⟨Y.heap.size + 1, 0, none⟩) 1 1 (iv [0]) (by rfl) rfl (from_kept (from_oneN (w := Y.alloc (.cells #[.int .i64 1] 3)) (World.size_alloc _ _) (by repeat (first | with_reducible exact hE | with_reducible exact Ext.refl _ | with_reducible refine Ext.alloc ?_ _))) hgA (fun e => by have := HL1.out _ e.symm; have := hE.size; omega)) (iv_one [0]) (by unfold maxLen; omega) (by omega) ?_
                  intro vB WB hoB hgB haB
                  obtain ⟨yB, dB, rfl⟩ := own_slice hoB
                  have EB : Ext WA _ := ext_at hgB (by repeat (first | with_reducible exact hE | with_reducible exact Ext.refl _ | with_reducible refine Ext.alloc ?_ _))
                  obtain ⟨g0, g1, g2, g3⟩ := Md.keepB HH.out KA.2.2 EB hgB
                  have FIN := Md.fin HH.out (Nat.le_succ B) HEX.out hwB EA hoA hgA haA EB hoB hgB haB
                  have hRA : Blk WA bp #[.slice none 0 0, .slice none 0 0, .int .i64 0, .int .i64 0, .int .i64 0, .slice none 0 0] 24 := (hgA.block _ (Nat.lt_of_lt_of_le hbpl EA.size) (fun e => by have := HRW.out.1 _ e.symm; omega)).trans (HRO.out.ex EA)
                  have hRB : Blk WB bp #[.slice none 0 0, .slice none 0 0, .int .i64 0, .int .i64 0, .int .i64 0, .slice none 0 0] 24 := (hgB.block _ (Nat.lt_of_lt_of_le hRA.lt EB.size) (fun e => by have := HRW.out.2 _ e.symm; omega)).trans (hRA.ex EB)
                  have HRF := Lib.hid ((hRB.ot (m := B + 1) (i := 0) (v := .slice yA (wz.length + 1) dA) (by omega)).ot (m := B + 1) (i := 1) (v := .slice yB (mz.length + 1) dB) (by omega))
                  have hlB := hRB.lt
                  have hlb1 : B + 1 < WB.heap.size := by have := hblk.lt; have := EA.size; have := EB.size; have := hgA.size; have := hgB.size; omega
                  refine hK _ _ (.inr fun h => (hgB.block _ h.lt (fun e => HN.out.2 e.symm)).trans h) ?_
                  clear hK
                  have HFIN := Lib.hid FIN
                  clear FIN KA EA EB hoA hgA haA hoB hgB haB hSX hblk hE hRA hRB
                  refine wpAnyP_one (i := 10) (o := ⟨_, _, _, _, _, _⟩) (by kernel_rfl) rfl ?_ <;> intro K hK
                  go_simp
                  refine hK _ _ (.inl rfl) ?_
                  clear hK
                  refine wpAnyP_one (i := 11) (o := ⟨_, _, _, _, _, _⟩) (by kernel_rfl) rfl ?_ <;> intro K hK
                  go_simp
                  refine hK _ _ (.inr fun h => h) ?_
                  clear hK
                  refine wpAnyP_one (i := 12) (o := ⟨_, _, _, _, _, _⟩) (by kernel_rfl) rfl ?_ <;> intro K hK
                  go_simp
                  refine hK _ _ (.inl rfl) ?_
                  clear hK
                  refine wpAnyP_done (by kernel_rfl) ?_ _
                  go_wp2_with fail
                  go_roundw
                  case rel => exact ⟨t + 1, by omega, congrArg (Value.int .i64) (by push_cast; omega), ⟨_, _, by rw [HTK.out, List.replicate_succ', ← List.append_assoc, ← List.append_assoc, HWZ.out, HMZ.out]; exact HFIN.out.1⟩, HFIN.out.2, HRF.out⟩
                  case measure => simp [intOf]; omega
              · skip
                go_simp
                refine hK _ _ (.inr fun h => h.al _) ?_
                clear hK
                refine wpAnyP_one (i := 3) (o := ⟨_, _, _, _, _, _⟩) (by kernel_rfl) rfl ?_ <;> intro K hK
                go_simp
                refine hK _ _ (.inr fun h => h.al _) ?_
                clear hK
                refine wpAnyP_one (i := 4) (o := ⟨_, _, _, _, _, _⟩) (by kernel_rfl) rfl ?_ <;> intro K hK
                refine step_app2 (by rfl) _ _ _ (by rfl) 3 i0 (.int .i64 0) 1 8 Try.underlying22 hi0 hz0 hz1 hz2 rfl (by omega) (.slice y1 wz.length d1) wz.length B (iv wz) (by rfl) (O1.out _ (by repeat (first | with_reducible exact hE | with_reducible exact Ext.refl _ | with_reducible refine Ext.alloc ?_ _))) (Nat.le_trans hBo (ext_size (by repeat (first | with_reducible exact hE | with_reducible exact Ext.refl _ | with_reducible refine Ext.alloc ?_ _)))) (some ⟨Y.heap.size + 1, 0, none⟩) 1 1 (iv [1]) (by rfl) rfl (from_oneN (w := Y.alloc (.cells #[.int .i64 0] 3)) (World.size_alloc _ _) (by repeat (first | with_reducible exact hE | with_reducible exact Ext.refl _ | with_reducible refine Ext.alloc ?_ _))) (iv_one [1]) (by unfold maxLen; omega) (by omega) ?_
                intro vA WA hoA hgA haA
                obtain ⟨yA, dA, rfl⟩ := own_slice hoA
                have EA : Ext wo _ := ext_at hgA (by repeat (first | with_reducible exact hE | with_reducible exact Ext.refl _ | with_reducible refine Ext.alloc ?_ _))
                have KA := Md.keepA HH.out EA hgA
                refine hK _ _ (.inr fun h => (hgA.block _ h.lt (fun e => HN.out.1 e.symm)).trans h) ?_
                clear hK
                refine tkPP 9 ⟨_, _, _, _, _, _⟩ ?_ rfl (by kernel_rfl) (fun _ _ _ h => h) (Or.inl ⟨by rfl, ?_⟩) ?_
                rotate_left
                · intro wX _
                  go_simp
                  (try with_reducible rfl)
                (try simp only [Act.put, List.setIfInBounds_toArray, List.set_cons_succ, List.set_cons_zero])
                refine wpAnyP_one (i := 8) (o := ⟨_, _, _, _, _, _⟩) (by kernel_rfl) rfl ?_ <;> intro K hK
                refine step_app2 (by rfl) _ _ _ (by rfl) 3 i0 (.int .i64 0) 1 8 Try.underlying22 hi0 hz0 hz1 hz2 rfl (by omega) (.slice y2 mz.length d2) mz.length B (iv mz) (by rfl) (KA.2.1 _ (by repeat (first | with_reducible exact hE | with_reducible exact Ext.refl _ | with_reducible refine Ext.alloc ?_ _))) (Nat.le_trans hBo (Nat.le_trans KA.1 (ext_size (by repeat (first | with_reducible exact hE | with_reducible exact Ext.refl _ | with_reducible refine Ext.alloc ?_ _))))) (some ⟨Y.heap.size, 0, none⟩) 1 1 (iv [0]) (by rfl) rfl (from_kept (from_oneN (w := Y) rfl (by repeat (first | with_reducible exact hE | with_reducible exact Ext.refl _ | with_reducible refine Ext.alloc ?_ _))) hgA (fun e => by have := HL1.out _ e.symm; have := hE.size; omega)) (iv_one [0]) (by unfold maxLen; omega) (by omega) ?_
                intro vB WB hoB hgB haB
                obtain ⟨yB, dB, rfl⟩ := own_slice hoB
                have EB : Ext WA _ := ext_at hgB (by repeat (first | with_reducible exact hE | with_reducible exact Ext.refl _ | with_reducible refine Ext.alloc ?_ _))
                obtain ⟨g0, g1, g2, g3⟩ := Md.keepB HH.out KA.2.2 EB hgB
                have FIN := Md.fin HH.out (Nat.le_succ B) HEX.out hwB EA hoA hgA haA EB hoB hgB haB
                have hRA : Blk WA bp #[.slice none 0 0, .slice none 0 0, .int .i64 0, .int .i64 0, .int .i64 0, .slice none 0 0] 24 := (hgA.block _ (Nat.lt_of_lt_of_le hbpl EA.size) (fun e => by have := HRW.out.1 _ e.symm; omega)).trans (HRO.out.ex EA)
                have hRB : Blk WB bp #[.slice none 0 0, .slice none 0 0, .int .i64 0, .int .i64 0, .int .i64 0, .slice none 0 0] 24 := (hgB.block _ (Nat.lt_of_lt_of_le hRA.lt EB.size) (fun e => by have := HRW.out.2 _ e.symm; omega)).trans (hRA.ex EB)
                have HRF := Lib.hid ((hRB.ot (m := B + 1) (i := 0) (v := .slice yA (wz.length + 1) dA) (by omega)).ot (m := B + 1) (i := 1) (v := .slice yB (mz.length + 1) dB) (by omega))
                have hlB := hRB.lt
                have hlb1 : B + 1 < WB.heap.size := by have := hblk.lt; have := EA.size; have := EB.size; have := hgA.size; have := hgB.size; omega
                refine hK _ _ (.inr fun h => (hgB.block _ h.lt (fun e => HN.out.2 e.symm)).trans h) ?_
                clear hK
                have HFIN := Lib.hid FIN
                clear FIN KA EA EB hoA hgA haA hoB hgB haB hSX hblk hE hRA hRB
                refine wpAnyP_one (i := 10) (o := ⟨_, _, _, _, _, _⟩) (by kernel_rfl) rfl ?_ <;> intro K hK
                go_simp
                refine hK _ _ (.inl rfl) ?_
                clear hK
                refine wpAnyP_one (i := 11) (o := ⟨_, _, _, _, _, _⟩) (by kernel_rfl) rfl ?_ <;> intro K hK
                go_simp
                refine hK _ _ (.inr fun h => h) ?_
                clear hK
                refine wpAnyP_one (i := 12) (o := ⟨_, _, _, _, _, _⟩) (by kernel_rfl) rfl ?_ <;> intro K hK
                go_simp
                refine hK _ _ (.inl rfl) ?_
                clear hK
                refine wpAnyP_done (by kernel_rfl) ?_ _
                go_wp2_with fail
                go_roundw
                case rel => exact ⟨t + 1, by omega, congrArg (Value.int .i64) (by push_cast; omega), ⟨_, _, by rw [HTK.out, List.replicate_succ', ← List.append_assoc, ← List.append_assoc, HWZ.out, HMZ.out]; exact HFIN.out.1⟩, HFIN.out.2, HRF.out⟩
                case measure => simp [intOf]; omega
            · have hzz : z = 0 := by
                have h4 : ∀ i : Fin 9, i.1 ≠ 1 → i.1 ≠ 2 → (codeC 2)[i.1]? = some 0 := by decide
                have h5 := h4 ⟨t, hlt2⟩ h1 h2
                rw [hz] at h5
                exact Option.some.inj h5
              have e1 : (((14 : Int) + (t : Int)) == 15) = false := by simp; omega
              have e2 : (((14 : Int) + (t : Int)) == 16) = false := by simp; omega
              have e3 : ¬ (t : Int) = 1 := by omega
              have e4 : ¬ (t : Int) = 2 := by omega
              have HZ := Lib.hid hzz
              clear hz 
              clear HZ
              subst hzz
              go_upto_region 32 with fail
              have hE : Ext wo wo.drew := (Ext.refl wo).drew
              refine wp_region_P (fun i => i == 10 || i == 12) (fun W => Blk W (B + 1) #[.slice y1 wz.length d1, .slice y2 mz.length d2, .int .i64 0, .int .i64 14, .int .i64 19, (Value.slice (some ⟨ba, 0, none⟩) 2 2)] 24) (by kernel_rfl) hblk.dr fun hSX => ?_
              generalize wo.drew = Y at *
              refine tkPP 0 ⟨_, _, _, _, _, _⟩ ?_ rfl (by kernel_rfl) (fun _ _ _ h => h) (Or.inl ⟨by rfl, ?_⟩) ?_
              rotate_left
              · intro wX _
                go_simp
                (try with_reducible rfl)
              (try simp only [Act.put, List.setIfInBounds_toArray, List.set_cons_succ, List.set_cons_zero])
              refine tkP 1 ⟨_, _, _, _, _, _⟩ ?_ rfl (by kernel_rfl) (fun _ _ _ h => h) (Or.inl ⟨by rfl, ?_⟩) hSX ?_
              rotate_left
              · intro wX hS
                have hq := Blk.c hS 0 (v := .slice y1 wz.length d1) rfl
                go_simp
                (try with_reducible rfl)
              (try simp only [Act.put, List.setIfInBounds_toArray, List.set_cons_succ, List.set_cons_zero])
              refine tkPP 2 ⟨_, _, _, _, _, _⟩ ?_ rfl (by kernel_rfl) (fun _ _ _ h => h) (Or.inl ⟨by rfl, ?_⟩) ?_
              rotate_left
              · intro wX _
                go_simp
                (try with_reducible rfl)
              (try simp only [Act.put, List.setIfInBounds_toArray, List.set_cons_succ, List.set_cons_zero])
              refine tkPP 5 ⟨_, _, _, _, _, _⟩ ?_ rfl (by kernel_rfl) (fun _ _ _ h => h) (Or.inl ⟨by rfl, ?_⟩) ?_
              rotate_left
              · intro wX _
                go_simp
                (try with_reducible rfl)
              (try simp only [Act.put, List.setIfInBounds_toArray, List.set_cons_succ, List.set_cons_zero])
              refine tkP 6 ⟨_, _, _, _, _, _⟩ ?_ rfl (by kernel_rfl) (fun _ _ _ h => h) (Or.inl ⟨by rfl, ?_⟩) hSX ?_
              rotate_left
              · intro wX hS
                have hq := Blk.c hS 1 (v := .slice y2 mz.length d2) rfl
                go_simp
                (try with_reducible rfl)
              (try simp only [Act.put, List.setIfInBounds_toArray, List.set_cons_succ, List.set_cons_zero])
              refine wpAnyP_two (i := 3) (j := 7) (oi := ⟨_, _, _, _, _, _⟩) (oj := ⟨_, _, _, _, _, _⟩) (by kernel_rfl) rfl rfl ?_ ?_ <;> intro K hK
              · skip
                go_simp
                refine hK _ _ (.inr fun h => h.al _) ?_
                clear hK
                refine wpAnyP_two (i := 4) (j := 7) (oi := ⟨_, _, _, _, _, _⟩) (oj := ⟨_, _, _, _, _, _⟩) (by kernel_rfl) rfl rfl ?_ ?_ <;> intro K hK
                · skip
                  refine step_app2 (by rfl) _ _ _ (by rfl) 3 i0 (.int .i64 0) 1 8 Try.underlying22 hi0 hz0 hz1 hz2 rfl (by omega) (.slice y1 wz.length d1) wz.length B (iv wz) (by rfl) (O1.out _ (by repeat (first | with_reducible exact hE | with_reducible exact Ext.refl _ | with_reducible refine Ext.alloc ?_ _))) (Nat.le_trans hBo (ext_size (by repeat (first | with_reducible exact hE | with_reducible exact Ext.refl _ | with_reducible refine Ext.alloc ?_ _)))) (some ⟨Y.heap.size, 0, none⟩) 1 1 (iv [0]) (by rfl) rfl (from_oneN (w := Y) rfl (by repeat (first | with_reducible exact hE | with_reducible exact Ext.refl _ | with_reducible refine Ext.alloc ?_ _))) (iv_one [0]) (by unfold maxLen; omega) (by omega) ?_
                  intro vA WA hoA hgA haA
                  obtain ⟨yA, dA, rfl⟩ := own_slice hoA
                  have EA : Ext wo _ := ext_at hgA (by repeat (first | with_reducible exact hE | with_reducible exact Ext.refl _ | with_reducible refine Ext.alloc ?_ _))
                  have KA := Md.keepA HH.out EA hgA
                  refine hK _ _ (.inr fun h => (hgA.block _ h.lt (fun e => HN.out.1 e.symm)).trans h) ?_
                  clear hK
                  refine tkPP 9 ⟨_, _, _, _, _, _⟩ ?_ rfl (by kernel_rfl) (fun _ _ _ h => h) (Or.inl ⟨by rfl, ?_⟩) ?_
                  rotate_left
                  · intro wX _
                    go_simp
                    (try with_reducible rfl)
                  (try simp only [Act.put, List.setIfInBounds_toArray, List.set_cons_succ, List.set_cons_zero])
                  refine wpAnyP_one (i := 7) (o := ⟨_, _, _, _, _, _⟩) (by kernel_rfl) rfl ?_ <;> intro K hK
                  go_simp
                  refine hK _ _ (.inr fun h => h.al _) ?_
                  clear hK
                  refine wpAnyP_one (i := 8) (o := ⟨_, _, _, _, _, _⟩) (by kernel_rfl) rfl ?_ <;> intro K hK
                  refine step_app2 (by rfl) _ _ _ (by rfl) 3 i0 (.int .i64 0) 1 8 Try.underlying22 hi0 hz0 hz1 hz2 rfl (by omega) (.slice y2 mz.length d2) mz.length B (iv mz) (by rfl) (KA.2.1 _ (by repeat (first | with_reducible exact hE | with_reducible exact Ext.refl _ | with_reducible refine Ext.alloc ?_ _))) (Nat.le_trans hBo (Nat.le_trans KA.1 (ext_size (by repeat (first | with_reducible exact hE | with_reducible exact Ext.refl _ | with_reducible refine Ext.alloc ?_ _))))) (some ⟨WA.heap.size, 0, none⟩) 1 1 (iv [0]) (by rfl) rfl (from_oneN (w := WA) rfl (by repeat (first | with_reducible exact hE | with_reducible exact Ext.refl _ | with_reducible refine Ext.alloc ?_ _))) (iv_one [0]) (by unfold maxLen; omega) (by omega) ?_
                  intro vB WB hoB hgB haB
                  obtain ⟨yB, dB, rfl⟩ := own_slice hoB
                  have EB : Ext WA _ := ext_at hgB (by repeat (first | with_reducible exact hE | with_reducible exact Ext.refl _ | with_reducible refine Ext.alloc ?_ _))
                  obtain ⟨g0, g1, g2, g3⟩ := Md.keepB HH.out KA.2.2 EB hgB
                  have FIN := Md.fin HH.out (Nat.le_succ B) HEX.out hwB EA hoA hgA haA EB hoB hgB haB
                  have hRA : Blk WA bp #[.slice none 0 0, .slice none 0 0, .int .i64 0, .int .i64 0, .int .i64 0, .slice none 0 0] 24 := (hgA.block _ (Nat.lt_of_lt_of_le hbpl EA.size) (fun e => by have := HRW.out.1 _ e.symm; omega)).trans (HRO.out.ex EA)
                  have hRB : Blk WB bp #[.slice none 0 0, .slice none 0 0, .int .i64 0, .int .i64 0, .int .i64 0, .slice none 0 0] 24 := (hgB.block _ (Nat.lt_of_lt_of_le hRA.lt EB.size) (fun e => by have := HRW.out.2 _ e.symm; omega)).trans (hRA.ex EB)
                  have HRF := Lib.hid ((hRB.ot (m := B + 1) (i := 0) (v := .slice yA (wz.length + 1) dA) (by omega)).ot (m := B + 1) (i := 1) (v := .slice yB (mz.length + 1) dB) (by omega))
                  have hlB := hRB.lt
                  have hlb1 : B + 1 < WB.heap.size := by have := hblk.lt; have := EA.size; have := EB.size; have := hgA.size; have := hgB.size; omega
                  refine hK _ _ (.inr fun h => (hgB.block _ h.lt (fun e => HN.out.2 e.symm)).trans h) ?_
                  clear hK
                  have HFIN := Lib.hid FIN
                  clear FIN KA EA EB hoA hgA haA hoB hgB haB hSX hblk hE hRA hRB
                  refine wpAnyP_one (i := 10) (o := ⟨_, _, _, _, _, _⟩) (by kernel_rfl) rfl ?_ <;> intro K hK
                  go_simp
                  refine hK _ _ (.inl rfl) ?_
                  clear hK
                  refine wpAnyP_one (i := 11) (o := ⟨_, _, _, _, _, _⟩) (by kernel_rfl) rfl ?_ <;> intro K hK
                  go_simp
                  refine hK _ _ (.inr fun h => h) ?_
                  clear hK
                  refine wpAnyP_one (i := 12) (o := ⟨_, _, _, _, _, _⟩) (by kernel_rfl) rfl ?_ <;> intro K hK
                  go_simp
                  refine hK _ _ (.inl rfl) ?_
                  clear hK
                  refine wpAnyP_done (by kernel_rfl) ?_ _
                  go_wp2_with fail
                  go_roundw
                  case rel => exact ⟨t + 1, by omega, congrArg (Value.int .i64) (by push_cast; omega), ⟨_, _, by rw [HTK.out, List.replicate_succ', ← List.append_assoc, ← List.append_assoc, HWZ.out, HMZ.out]; exact HFIN.out.1⟩, HFIN.out.2, HRF.out⟩
                  case measure => simp [intOf]; omega
                · skip
                  go_simp
                  refine hK _ _ (.inr fun h => h.al _) ?_
                  clear hK
                  refine wpAnyP_one (i := 4) (o := ⟨_, _, _, _, _, _⟩) (by kernel_rfl) rfl ?_ <;> intro K hK
                  refine step_app2 (by rfl) _ _ _ (by rfl) 3 i0 (.int .i64 0) 1 8 Try.underlying22 hi0 hz0 hz1 hz2 rfl (by omega) (.slice y1 wz.length d1) wz.length B (iv wz) (by rfl) (O1.out _ (by repeat (first | with_reducible exact hE | with_reducible exact Ext.refl _ | with_reducible refine Ext.alloc ?_ _))) (Nat.le_trans hBo (ext_size (by repeat (first | with_reducible exact hE | with_reducible exact Ext.refl _ | with_reducible refine Ext.alloc ?_ _)))) (some ⟨Y.heap.size, 0, none⟩) 1 1 (iv [0]) (by rfl) rfl (from_oneN (w := Y) rfl (by repeat (first | with_reducible exact hE | with_reducible exact Ext.refl _ | with_reducible refine Ext.alloc ?_ _))) (iv_one [0]) (by unfold maxLen; omega) (by omega) ?_
                  intro vA WA hoA hgA haA
                  obtain ⟨yA, dA, rfl⟩ := own_slice hoA
                  have EA : Ext wo _ := ext_at hgA (by repeat (first | with_reducible exact hE | with_reducible exact Ext.refl _ | with_reducible refine Ext.alloc ?_ _))
                  have KA := Md.keepA HH.out EA hgA
                  refine hK _ _ (.inr fun h => (hgA.block _ h.lt (fun e => HN.out.1 e.symm)).trans h) ?_
                  clear hK
                  refine tkPP 9 ⟨_, _, _, _, _, _⟩ ?_ rfl (by kernel_rfl) (fun _ _ _ h => h) (Or.inl ⟨by rfl, ?_⟩) ?_
                  rotate_left
                  · intro wX _
                    go_simp
                    (try with_reducible rfl)
                  (try simp only [Act.put, List.setIfInBounds_toArray, List.set_cons_succ, List.set_cons_zero])
                  refine wpAnyP_one (i := 8) (o := ⟨_, _, _, _, _, _⟩) (by kernel_rfl) rfl ?_ <;> intro K hK
                  refine step_app2 (by rfl) _ _ _ (by rfl) 3 i0 (.int .i64 0) 1 8 Try.underlying22 hi0 hz0 hz1 hz2 rfl (by omega) (.slice y2 mz.length d2) mz.length B (iv mz) (by rfl) (KA.2.1 _ (by repeat (first | with_reducible exact hE | with_reducible exact Ext.refl _ | with_reducible refine Ext.alloc ?_ _))) (Nat.le_trans hBo (Nat.le_trans KA.1 (ext_size (by repeat (first | with_reducible exact hE | with_reducible exact Ext.refl _ | with_reducible refine Ext.alloc ?_ _))))) (some ⟨Y.heap.size + 1, 0, none⟩) 1 1 (iv [0]) (by rfl) rfl (from_kept (from_oneN (w := Y.alloc (.cells #[.int .i64 0] 3)) (World.size_alloc _ _) (by repeat (first | with_reducible exact hE | with_reducible exact Ext.refl _ | with_reducible refine Ext.alloc ?_ _))) hgA (fun e => by have := HL1.out _ e.symm; have := hE.size; omega)) (iv_one [0]) (by unfold maxLen; omega) (by omega) ?_
                  intro vB WB hoB hgB haB
                  obtain ⟨yB, dB, rfl⟩ := own_slice hoB
                  have EB : Ext WA _ := ext_at hgB (by repeat (first | with_reducible exact hE | with_reducible exact Ext.refl _ | with_reducible refine Ext.alloc ?_ _))
                  obtain ⟨g0, g1, g2, g3⟩ := Md.keepB HH.out KA.2.2 EB hgB
                  have FIN := Md.fin HH.out (Nat.le_succ B) HEX.out hwB EA hoA hgA haA EB hoB hgB haB
                  have hRA : Blk WA bp #[.slice none 0 0, .slice none 0 0, .int .i64 0, .int .i64 0, .int .i64 0, .slice none 0 0] 24 := (hgA.block _ (Nat.lt_of_lt_of_le hbpl EA.size) (fun e => by have := HRW.out.1 _ e.symm; omega)).trans (HRO.out.ex EA)
                  have hRB : Blk WB bp #[.slice none 0 0, .slice none 0 0, .int .i64 0, .int .i64 0, .int .i64 0, .slice none 0 0] 24 := (hgB.block _ (Nat.lt_of_lt_of_le hRA.lt EB.size) (fun e => by have := HRW.out.2 _ e.symm; omega)).trans (hRA.ex EB)
                  have HRF := Lib.hid ((hRB.ot (m := B + 1) (i := 0) (v := .slice yA (wz.length + 1) dA) (by omega)).ot (m := B + 1) (i := 1) (v := .slice yB (mz.length + 1) dB) (by omega))
                  have hlB := hRB.lt
                  have hlb1 : B + 1 < WB.heap.size := by have := hblk.lt; have := EA.size; have := EB.size; have := hgA.size; have := hgB.size; omega
                  refine hK _ _ (.inr fun h => (hgB.block _ h.lt (fun e => HN.out.2 e.symm)).trans h) ?_
                  clear hK
                  have HFIN := Lib.hid FIN
                  clear FIN KA EA EB hoA hgA haA hoB hgB haB hSX hblk hE hRA hRB
                  refine wpAnyP_one (i := 10) (o := ⟨_, _, _, _, _, _⟩) (by kernel_rfl) rfl ?_ <;> intro K hK
                  go_simp
                  refine hK _ _ (.inl rfl) ?_
                  clear hK
                  refine wpAnyP_one (i := 11) (o := ⟨_, _, _, _, _, _⟩) (by kernel_rfl) rfl ?_ <;> intro K hK
                  go_simp
                  refine hK _ _ (.inr fun h => h) ?_
                  clear hK
                  refine wpAnyP_one (i := 12) (o := ⟨_, _, _, _, _, _⟩) (by kernel_rfl) rfl ?_ <;> intro K hK
                  go_simp
                  refine hK _ _ (.inl rfl) ?_
                  clear hK
                  refine wpAnyP_done (by kernel_rfl) ?_ _
                  go_wp2_with fail
                  go_roundw
                  case rel => exact ⟨t + 1, by omega, congrArg (Value.int .i64) (by push_cast; omega), ⟨_, _, by rw [HTK.out, List.replicate_succ', ← List.append_assoc, ← List.append_assoc, HWZ.out, HMZ.out]; exact HFIN.out.1⟩, HFIN.out.2, HRF.out⟩
                  case measure => simp [intOf]; omega
              · skip
                go_simp
                refine hK _ _ (.inr fun h => h.al _) ?_
                clear hK
                refine wpAnyP_one (i := 3) (o := ⟨_, _, _, _, _, _⟩) (by kernel_rfl) rfl ?_ <;> intro K hK
                go_simp
                refine hK _ _ (.inr fun h => h.al _) ?_
                clear hK
                refine wpAnyP_one (i := 4) (o := ⟨_, _, _, _, _, _⟩) (by kernel_rfl) rfl ?_ <;> intro K hK
                refine step_app2 (by rfl) _ _ _ (by rfl) 3 i0 (.int .i64 0) 1 8 Try.underlying22 hi0 hz0 hz1 hz2 rfl (by omega) (.slice y1 wz.length d1) wz.length B (iv wz) (by rfl) (O1.out _ (by repeat (first | with_reducible exact hE | with_reducible exact Ext.refl _ | with_reducible refine Ext.alloc ?_ _))) (Nat.le_trans hBo (ext_size (by repeat (first | with_reducible exact hE | with_reducible exact Ext.refl _ | with_reducible refine Ext.alloc ?_ _)))) (some ⟨Y.heap.size + 1, 0, none⟩) 1 1 (iv [0]) (by rfl) rfl (from_oneN (w := Y.alloc (.cells #[.int .i64 0] 3)) (World.size_alloc _ _) (by repeat (first | with_reducible exact hE | with_reducible exact Ext.refl _ | with_reducible refine Ext.alloc ?_ _))) (iv_one [0]) (by unfold maxLen; omega) (by omega) ?_
                intro vA WA hoA hgA haA
                obtain ⟨yA, dA, rfl⟩ := own_slice hoA
                have EA : Ext wo _ := ext_at hgA (by repeat (first | with_reducible exact hE | with_reducible exact Ext.refl _ | with_reducible refine Ext.alloc ?_ _))
                have KA := Md.keepA HH.out EA hgA
                refine hK _ _ (.inr fun h => (hgA.block _ h.lt (fun e => HN.out.1 e.symm)).trans h) ?_
                clear hK
                refine tkPP 9 ⟨_, _, _, _, _, _⟩ ?_ rfl (by kernel_rfl) (fun _ _ _ h => h) (Or.inl ⟨by rfl, ?_⟩) ?_
                rotate_left
                · intro wX _
                  go_simp
                  (try with_reducible rfl)
                (try simp only [Act.put, List.setIfInBounds_toArray, List.set_cons_succ, List.set_cons_zero])
                refine wpAnyP_one (i := 8) (o := ⟨_, _, _, _, _, _⟩) (by kernel_rfl) rfl ?_ <;> intro K hK
                refine step_app2 (by rfl) _ _ _ (by rfl) 3 i0 (.int .i64 0) 1 8 Try.underlying22 hi0 hz0 hz1 hz2 rfl (by omega) (.slice y2 mz.length d2) mz.length B (iv mz) (by rfl) (KA.2.1 _ (by repeat (first | with_reducible exact hE | with_reducible exact Ext.refl _ | with_reducible refine Ext.alloc ?_ _))) (Nat.le_trans hBo (Nat.le_trans KA.1 (ext_size (by repeat (first | with_reducible exact hE | with_reducible exact Ext.refl _ | with_reducible refine Ext.alloc ?_ _))))) (some ⟨Y.heap.size, 0, none⟩) 1 1 (iv [0]) (by rfl) rfl (from_kept (from_oneN (w := Y) rfl (by repeat (first | with_reducible exact hE | with_reducible exact Ext.refl _ | with_reducible refine Ext.alloc ?_ _))) hgA (fun e => by have := HL1.out _ e.symm; have := hE.size; omega)) (iv_one [0]) (by unfold maxLen; omega) (by omega) ?_
                intro vB WB hoB hgB haB
                obtain ⟨yB, dB, rfl⟩ := own_slice hoB
                have EB : Ext WA _ := ext_at hgB (by repeat (first | with_reducible exact hE | with_reducible exact Ext.refl _ | with_reducible refine Ext.alloc ?_ _))
                obtain ⟨g0, g1, g2, g3⟩ := Md.keepB HH.out KA.2.2 EB hgB
                have FIN := Md.fin HH.out (Nat.le_succ B) HEX.out hwB EA hoA hgA haA EB hoB hgB haB
                have hRA : Blk WA bp #[.slice none 0 0, .slice none 0 0, .int .i64 0, .int .i64 0, .int .i64 0, .slice none 0 0] 24 := (hgA.block _ (Nat.lt_of_lt_of_le hbpl EA.size) (fun e => by have := HRW.out.1 _ e.symm; omega)).trans (HRO.out.ex EA)
                have hRB : Blk WB bp #[.slice none 0 0, .slice none 0 0, .int .i64 0, .int .i64 0, .int .i64 0, .slice none 0 0] 24 := (hgB.block _ (Nat.lt_of_lt_of_le hRA.lt EB.size) (fun e => by have := HRW.out.2 _ e.symm; omega)).trans (hRA.ex EB)
                have HRF := Lib.hid ((hRB.ot (m := B + 1) (i := 0) (v := .slice yA (wz.length + 1) dA) (by omega)).ot (m := B + 1) (i := 1) (v := .slice yB (mz.length + 1) dB) (by omega))
                have hlB := hRB.lt
                have hlb1 : B + 1 < WB.heap.size := by have := hblk.lt; have := EA.size; have := EB.size; have := hgA.size; have := hgB.size; omega
                refine hK _ _ (.inr fun h => (hgB.block _ h.lt (fun e => HN.out.2 e.symm)).trans h) ?_
                clear hK
                have HFIN := Lib.hid FIN
                clear FIN KA EA EB hoA hgA haA hoB hgB haB hSX hblk hE hRA hRB
                refine wpAnyP_one (i := 10) (o := ⟨_, _, _, _, _, _⟩) (by kernel_rfl) rfl ?_ <;> intro K hK
                go_simp
                refine hK _ _ (.inl rfl) ?_
                clear hK
                refine wpAnyP_one (i := 11) (o := ⟨_, _, _, _, _, _⟩) (by kernel_rfl) rfl ?_ <;> intro K hK
                go_simp
                refine hK _ _ (.inr fun h => h) ?_
                clear hK
                refine wpAnyP_one (i := 12) (o := ⟨_, _, _, _, _, _⟩) (by kernel_rfl) rfl ?_ <;> intro K hK
                go_simp
                refine hK _ _ (.inl rfl) ?_
                clear hK
                refine wpAnyP_done (by kernel_rfl) ?_ _
                go_wp2_with fail
                go_roundw
                case rel => exact ⟨t + 1, by omega, congrArg (Value.int .i64) (by push_cast; omega), ⟨_, _, by rw [HTK.out, List.replicate_succ', ← List.append_assoc, ← List.append_assoc, HWZ.out, HMZ.out]; exact HFIN.out.1⟩, HFIN.out.2, HRF.out⟩
                case measure => simp [intOf]; omega
        · have hltz2 : ¬ (14 + (t : Int)) ≤ 22 := by omega
          obtain rfl : t = 9 := by omega
          obtain ⟨y1, d1, rfl⟩ := own_slice hmd.r1
          obtain ⟨y2, d2, rfl⟩ := own_slice hmd.r2
          have hrb := hRx.out
          have r0 := Blk.c hrb 0 (v := .slice none 0 0) rfl
          have r1 := Blk.c hrb 1 (v := .slice none 0 0) rfl
          have r2 := Blk.c hrb 2 (v := .int .i64 0) rfl
          have r3 := Blk.c hrb 3 (v := .int .i64 0) rfl
          have r4 := Blk.c hrb 4 (v := .int .i64 0) rfl
          have r5 := Blk.c hrb 5 (v := .slice none 0 0) rfl
          have g0 := Blk.f hrb 0
          have g1 := Blk.f hrb 1
          have g2 := Blk.f hrb 2
          have g3 := Blk.f hrb 3
          have g4 := Blk.f hrb 4
          have g5 := Blk.f hrb 5
          have hwb := hrb.lt
          have hbb := hmd.blk
          have hll := hbb.lt
          have hcq : CR = ⟨wl ++ (codeC 2).take 9, ml ++ List.replicate 9 0, 0, 14, 19, [17, 18]⟩ := by
            rw [← HCR.out, ← HWL.out, ← HML.out]
            kernel_rfl
          have HCQ := Lib.hid hcq
          have HF := Lib.hid hmd
          have HEF := Lib.hid hEx.out
          obtain ⟨lw, hlw⟩ : ∃ lw, (wl ++ (codeC 2).take 9).length = lw := ⟨_, rfl⟩
          obtain ⟨lm, hlm⟩ : ∃ lm, (ml ++ List.replicate 9 0 : List Int).length = lm := ⟨_, rfl⟩
          have q0 := Blk.c hbb 0 (v := .slice y1 (wl ++ (codeC 2).take 9).length d1) rfl
          have q1 := Blk.c hbb 1 (v := .slice y2 (ml ++ List.replicate 9 0 : List Int).length d2) rfl
          have q2 := Blk.c hbb 2 (v := .int .i64 0) rfl
          have q3 := Blk.c hbb 3 (v := .int .i64 14) rfl
          have q4 := Blk.c hbb 4 (v := .int .i64 19) rfl
          have q5 := Blk.c hbb 5 (v := (Value.slice (some ⟨ba, 0, none⟩) 2 2)) rfl
          rw [hlw] at q0
          rw [hlm] at q1
          have HLW := Lib.hid hlw
          have HLM := Lib.hid hlm
          clear hMd hmd hEx hRx hrb hbb hcq hlw hlm
          go_wp2_with fail
          refine bodyPost_ret (v := .agg #[.slice y1 lw d1, .slice y2 lm d2, .int .i64 0, .int .i64 14, .int .i64 19, (Value.slice (some ⟨ba, 0, none⟩) 2 2)]) (by simp [results, Try.results49, go_sem, r0, r1, r2, r3, r4, r5]) rfl ?_
          unfold MadeRes
          rw [HCQ.out]
          have hF := HF.out
          have hbB3 : bp < B := hbB
          exact ⟨⟨y1, d1, y2, d2, some ⟨ba, 0, none⟩, 2⟩, by dsimp only; rw [HLW.out, HLM.out]; rfl, ⟨own_intsL (own_set6 hF.r1 hbB3 _ _ _ _ _ _), own_intsL (own_set6 hF.r2 hbB3 _ _ _ _ _ _), own_intsL (own_set6 hF.r3 hbB3 _ _ _ _ _ _)⟩, ext_set6 HEF.out (by have := HBP.out; omega) _ _ _ _ _ _⟩
end Go.Proofs.Ytcijneecjkpebaa

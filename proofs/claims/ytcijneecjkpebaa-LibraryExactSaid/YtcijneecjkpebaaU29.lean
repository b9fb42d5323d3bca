import Derived.Test.YtcijneecjkpebaaU24
import Derived.Test.YtcijneecjkpebaaU28
set_option linter.unusedVariables false
set_option linter.unusedSimpArgs false
/- Layer 8: Awake is true. -/
namespace Go.Proofs.Ytcijneecjkpebaa
open Go.RowKit Go.Q
theorem catC_bd : ∀ x ∈ catC, EnBd x := by
  intro x hx
  simp only [catC, List.mem_cons, List.not_mem_nil, or_false] at hx
  have h1 := code_len
  rcases hx with rfl | rfl
  · exact ⟨by decide, ⟨by decide +kernel, by decide +kernel, by decide +kernel⟩⟩
  · exact ⟨by decide, ⟨by decide +kernel, by decide +kernel, by decide +kernel⟩⟩
theorem aw_c (w : World) : Calls Try.prog 15 #[.int .i64 1] w fun e w' => ∃ l : Lo, e = .returned (.tuple #[.agg #[.slice l.a1 22 l.c1, .slice l.a2 22 l.c2, .int .i64 0, .int .i64 14, .int .i64 18, .slice l.a3 1 l.c3], .int .i64 0]) ∧ RtAt w' (codeQ 1) l ∧ Ext w w' := by
  have h := lb_code 1 w
  obtain ⟨a1, a2, a3, a4, a5, a6⟩ := aw_code
  refine h.mono ?_
  rintro e w' ⟨l, he, hr, E⟩
  have e1 : (codeE 1).1 = codeQ 1 := rfl
  have e2 : (codeE 1).2 = 0 := rfl
  rw [e1] at he hr
  rw [e2, a1, a2, a3, a4, a5, a6] at he
  exact ⟨l, he, hr, E⟩
theorem aw_p (l : Lo) (w : World) (h : RtAt w (codeQ 1) l) : Calls Try.prog 23 #[.agg #[.slice l.a1 22 l.c1, .slice l.a2 22 l.c2, .int .i64 0, .int .i64 14, .int .i64 18, .slice l.a3 1 l.c3], .int .i64 107] w fun e w' => ∃ v, e = .returned (.tuple #[v, .int .i64 3]) ∧ Ext w w' := by
  have hp := lb_Place (codeQ 1) l 107 w h ⟨by decide +kernel, by decide +kernel, by decide +kernel⟩
  obtain ⟨a1, a2, a3, a4, a5, a6⟩ := aw_code
  rw [aw_place] at hp
  rw [a1, a2, a3, a4, a5, a6] at hp
  refine hp.mono ?_
  rintro e w' ⟨a, c, he, _, E⟩
  exact ⟨_, he, E⟩
theorem aw_b (a : Option Addr) (L : Nat → Lo) (a2 : Option Addr) (p : Option Addr) (pc : Nat) (w : World) (h : CatAt w a catC L) (hb : ClAt w a2 [⟨nmRoot, [0], 2⟩] (fun _ => p) (fun _ => pc)) :
    Calls Try.prog 26 #[.slice a 2 2, .int .i64 2, .slice a2 1 1] w fun e w' => ∃ g c, e = .returned (.tuple #[.agg #[.slice (some ⟨g, 0, none⟩) 33 c, .int .i64 0, .int .i64 7], .int .i64 0]) ∧ w'.cell? ⟨g, 3, none⟩ = some (.int .i64 (Q.written ⟨1, 7, 25, 11⟩)) ∧ g < w'.heap.size ∧ Ext w w' := by
  have hB := lb_build 2 a 2 2 catC L a2 1 1 [⟨nmRoot, [0], 2⟩] (fun _ => p) (fun _ => pc) w ⟨rfl, Nat.le_refl _, by decide, h, catC_bd, rfl, by decide, hb, by intro x hx; simp at hx; subst hx; decide⟩
  obtain ⟨b1, b2, b3, b4⟩ := aw_build
  obtain ⟨R, hR⟩ : ∃ R, buildE catC 2 [⟨nmRoot, [0], 2⟩] = R := ⟨_, rfl⟩
  rw [hR] at hB b1 b2 b3 b4
  refine hB.mono ?_
  rintro e w' ⟨a, c, he, ho, E⟩
  rw [b1, b2, b4] at he
  rw [b2] at ho
  rcases ho.2 with ⟨h1, h2⟩ | ⟨g, cap, cur, h1, hbg, hg, _⟩
  · exact absurd h2 (by decide)
  · obtain ⟨rfl, -, -⟩ := Value.slice.inj h1
    refine ⟨g, c, he, ?_, lt_of_block hg, E⟩
    have := World.ownsRow.cells ho (g := g) rfl 3 (.int .i64 (Q.written ⟨1, 7, 25, 11⟩)) (by rw [iv_get _ _ (by omega), b3]; rfl)
    rw [Addr.add_lit, Nat.zero_add] at this
    exact this
theorem aw_t (a : Option Addr) (L : Nat → Lo) (w : World) (h : CatAt w a catC L) :
    Calls Try.prog 35 #[.slice a 1 2] w fun e w' => ∃ g c, e = .returned (.tuple #[.slice (some ⟨g, 0, none⟩) 58 c, .int .i64 0]) ∧ w'.cell? ⟨g, 1, none⟩ = some (.int .i64 4) ∧ w'.cell? ⟨g, 2, none⟩ = some (.int .i64 114) ∧ g < w'.heap.size ∧ Ext w w' := by
  have hB := lb_punch a 1 2 (catC.take 1) L w rfl (by decide) (by decide) (h.take 1) (fun x hx => catC_bd x (List.mem_of_mem_take hx))
  obtain ⟨b1, b2, b3, b4⟩ := aw_punch
  obtain ⟨R, hR⟩ : ∃ R, punchE (catC.take 1) = R := ⟨_, rfl⟩
  rw [hR] at hB b1 b2 b3 b4
  refine hB.mono ?_
  rintro e w' ⟨a, c, he, ho, E⟩
  rw [b1, b4] at he
  rw [b1] at ho
  rcases ho.2 with ⟨h1, h2⟩ | ⟨g, cap, cur, h1, hbg, hg, _⟩
  · exact absurd h2 (by decide)
  · obtain ⟨rfl, -, -⟩ := Value.slice.inj h1
    have k1 := World.ownsRow.cells ho (g := g) rfl 1 (.int .i64 4) (by rw [iv_get _ _ (by omega), b2]; rfl)
    have k2 := World.ownsRow.cells ho (g := g) rfl 2 (.int .i64 114) (by rw [iv_get _ _ (by omega), b3]; rfl)
    rw [Addr.add_lit, Nat.zero_add] at k1 k2
    exact ⟨g, c, he, k1, k2, lt_of_block hg, E⟩
theorem aw_d (a b : Option Addr) (L G : Nat → Lo) (w : World) (h : CatAt w a catC L) (h2 : CatAt w b catC G) :
    Calls Try.prog 32 #[.slice a 2 2, .slice b 2 2] w fun e w' => ∃ v c, e = .returned (.tuple #[.slice v 0 c, .int .i64 0]) ∧ Ext w w' := by
  have hB := lb_diff a b 2 2 2 2 catC catC L G w rfl rfl (Nat.le_refl _) (Nat.le_refl _) (by decide) (by decide) h h2 catC_bd catC_bd
  obtain ⟨b1, b2⟩ := aw_diff
  obtain ⟨R, hR⟩ : ∃ R, diffE catC catC = R := ⟨_, rfl⟩
  rw [hR] at hB b1 b2
  refine hB.mono ?_
  rintro e w' ⟨a, c, he, ho, E⟩
  rw [b1, b2] at he
  exact ⟨a, c, he, E⟩
set_option maxRecDepth 100000 in
set_option maxHeartbeats 8000000 in
theorem awake8_any (w : World) : Calls Try.prog 22 #[] w fun e w' => e = .returned (.bool true) ∧ Ext w w' := by
  have hv := fun W a (h : IntsAt W a [2097152]) => lb_value 1 a 1 1 [2097152] W rfl (by decide) h
  have hac := fun W a (h : IntsAt W a [2097152]) => lb_accept 1 a 1 1 [2097152] 4194303 W rfl (by decide) h
  rw [aw_value] at hv
  rw [aw_accept] at hac
  have hsl := slice_toE
  go_enter Try.func22, Try.ntmps22
  go_wp2_with fail
  refine (aw_c _).mono ?_
  rintro e w1 ⟨l, rfl, hr, E1⟩
  have HR := Lib.hid hr
  have HE1 := Lib.hid E1
  have hai := hr.i3
  rw [aw_code.2.2.2.2.2] at hai
  have HAI := Lib.hid hai
  clear hr E1 hai
  go_upto_region 2 with fail
  have hbx := Blk.nw w1 #[.slice l.a1 22 l.c1, .slice l.a2 22 l.c2, .int .i64 0, .int .i64 14, .int .i64 18, .slice l.a3 1 l.c3] 24
  have EX1 : Ext w1 (w1.alloc (.cells #[.slice l.a1 22 l.c1, .slice l.a2 22 l.c2, .int .i64 0, .int .i64 14, .int .i64 18, .slice l.a3 1 l.c3] 24)) := (Ext.refl w1).alloc _
  generalize w1.alloc (.cells #[.slice l.a1 22 l.c1, .slice l.a2 22 l.c2, .int .i64 0, .int .i64 14, .int .i64 18, .slice l.a3 1 l.c3] 24) = X1 at hbx EX1 ⊢
  obtain ⟨b1, hb1⟩ : ∃ b1, w1.heap.size = b1 := ⟨_, rfl⟩
  rw [hb1] at hbx ⊢
  have HBX := Lib.hid hbx
  have HX1 := Lib.hid (HE1.out.comp EX1)
  have HR1 := Lib.hid (HR.out.ext EX1)
  have EX1' := Lib.hid EX1
  clear hbx EX1 hb1
  go_wp2_with fail
  refine (hv _ _ (ints_new (zs := [2097152]) (Ext.refl _))).mono ?_
  rintro e w2 ⟨rfl, E2⟩
  have HE2 := Lib.hid (Ext.comp ((Ext.refl X1).alloc _) E2)
  clear hv E2
  go_wp2_with fail
  refine (hac _ _ (ints_new (zs := [2097152]) (Ext.refl _))).mono ?_
  rintro e w3 ⟨rfl, E3⟩
  have HE3 := Lib.hid (HE2.out.comp (Ext.comp ((Ext.refl w2).alloc _) E3))
  clear hac E3
  go_wp2_with fail
  refine (law_catalogue _).mono ?_
  rintro e w4 ⟨c4, L4, rfl, hc4, E4⟩
  have HE4 := Lib.hid (HE3.out.comp E4)
  have HC4 := Lib.hid hc4
  clear E4 hc4
  go_wp2_with fail
  have hcl : ClAt ((w4.alloc (.cells #[.int .i64 0] 3)).alloc (.cells #[.string nmRoot, .slice (some ⟨w4.heap.size, 0, none⟩) 1 1, .int .i64 2] 78)) (some ⟨w4.heap.size + 1, 0, none⟩) [⟨nmRoot, [0], 2⟩] (fun _ => some ⟨w4.heap.size, 0, none⟩) (fun _ => 1) := by
    have hb := Blk.nw (w4.alloc (.cells #[.int .i64 0] 3)) #[.string nmRoot, .slice (some ⟨w4.heap.size, 0, none⟩) 1 1, .int .i64 2] 78
    rw [World.size_alloc] at hb
    refine .inr ⟨_, 0, rfl, hb.lt, fun i x hx => ?_⟩
    have hi : i = 0 := by
      rcases Nat.lt_or_ge i 1 with h | h
      · omega
      · rw [List.getElem?_eq_none (by exact h)] at hx; cases hx
    subst hi
    cases hx
    refine ⟨fun j v hv => ?_, ints_new (zs := [0]) ((Ext.refl _).alloc _)⟩
    rw [Nat.zero_mul, Nat.zero_add]
    exact hb.c j (by rw [List.getElem?_toArray]; exact hv)
  have hbc := HC4.out.ext (((Ext.refl w4).alloc (.cells #[.int .i64 0] 3)).comp ((Ext.refl _).alloc (.cells #[.string nmRoot, .slice (some ⟨w4.heap.size, 0, none⟩) 1 1, .int .i64 2] 78)))
  refine (aw_b _ _ _ _ _ _ hbc hcl).mono ?_
  rintro e w5 ⟨g5, c5, rfl, hg5, hl5, E5⟩
  have HE5 := Lib.hid (HE4.out.comp ((((Ext.refl w4).alloc (.cells #[.int .i64 0] 3)).comp ((Ext.refl _).alloc (.cells #[.string nmRoot, .slice (some ⟨w4.heap.size, 0, none⟩) 1 1, .int .i64 2] 78))).comp E5))
  have HG5 := Lib.hid (And.intro hg5 hl5)
  clear hbc hcl hg5 hl5 E5
  go_upto_region 5 with fail
  have hb7 := Blk.nw w5 #[.slice (some ⟨g5, 0, none⟩) 33 c5, .int .i64 0, .int .i64 7] 42
  have EX7 : Ext w5 (w5.alloc (.cells #[.slice (some ⟨g5, 0, none⟩) 33 c5, .int .i64 0, .int .i64 7] 42)) := (Ext.refl w5).alloc _
  generalize w5.alloc (.cells #[.slice (some ⟨g5, 0, none⟩) 33 c5, .int .i64 0, .int .i64 7] 42) = X7 at hb7 EX7 ⊢
  obtain ⟨b7, hb7e⟩ : ∃ b7, w5.heap.size = b7 := ⟨_, rfl⟩
  rw [hb7e] at hb7 ⊢
  have HB7 := Lib.hid hb7
  have HE7 := Lib.hid (HE5.out.comp EX7)
  have HX7 := Lib.hid EX7
  clear hb7 EX7 hb7e
  go_wp2_with fail
  refine (law_catalogue _).mono ?_
  rintro e w8 ⟨c8, L8, rfl, hc8, E8⟩
  have HC8 := Lib.hid hc8
  have H78 := Lib.hid E8
  clear E8 hc8
  go_wp2_with fail
  refine (aw_t _ _ _ HC8.out).mono ?_
  rintro e w9 ⟨g9, c9, rfl, hg1, hg2, hgl, E9⟩
  have H79 := Lib.hid (H78.out.comp E9)
  have HG9 := Lib.hid (And.intro hg1 (And.intro hg2 hgl))
  clear hg1 hg2 hgl E9
  go_wp2_with fail
  refine (law_catalogue _).mono ?_
  rintro e w10 ⟨c10, L10, rfl, hc10, E10⟩
  have HC10 := Lib.hid hc10
  have H910 := Lib.hid E10
  clear E10 hc10
  go_wp2_with fail
  refine (law_catalogue _).mono ?_
  rintro e w11 ⟨c11, L11, rfl, hc11, E11⟩
  have HC11 := Lib.hid hc11
  have H1011 := Lib.hid E11
  clear E11 hc11
  go_wp2_with fail
  refine (aw_d _ _ _ _ _ (HC10.out.ext H1011.out) HC11.out).mono ?_
  rintro e w12 ⟨v12, c12, rfl, E12⟩
  have H912 := Lib.hid ((H910.out.comp H1011.out).comp E12)
  have H712 := Lib.hid (H79.out.comp H912.out)
  have HE12 := Lib.hid (HE7.out.comp H712.out)
  clear E12
  have hbx12 := HBX.out.ex HE12.out
  have q0 := Blk.c hbx12 0 (v := .slice l.a1 22 l.c1) rfl
  have q1 := Blk.c hbx12 1 (v := .slice l.a2 22 l.c2) rfl
  have q2 := Blk.c hbx12 2 (v := .int .i64 0) rfl
  have q3 := Blk.c hbx12 3 (v := .int .i64 14) rfl
  have q4 := Blk.c hbx12 4 (v := .int .i64 18) rfl
  have q5 := Blk.c hbx12 5 (v := .slice l.a3 1 l.c3) rfl
  have hqx := hbx12.lt
  clear hbx12
  go_wp2_with fail
  refine (aw_p l _ (HR1.out.ext HE12.out)).mono ?_
  rintro e w13 ⟨v13, rfl, E13⟩
  have HE13 := Lib.hid (HE12.out.comp E13)
  have H713 := Lib.hid (H712.out.comp E13)
  have H913 := Lib.hid (H912.out.comp E13)
  clear E13 q0 q1 q2 q3 q4 q5 hqx
  have HB1 := Lib.hid (show ∀ W, Ext w13 W → Blk W b1 #[.slice l.a1 22 l.c1, .slice l.a2 22 l.c2, .int .i64 0, .int .i64 14, .int .i64 18, .slice l.a3 1 l.c3] 24 from fun W E => (HBX.out.ex HE13.out).ex E)
  have HB7b := Lib.hid (show ∀ W, Ext w13 W → Blk W b7 #[.slice (some ⟨g5, 0, none⟩) 33 c5, .int .i64 0, .int .i64 7] 42 from fun W E => (HB7.out.ex H713.out).ex E)
  have HC5 := Lib.hid (show ∀ W, Ext w13 W → W.cell? ⟨g5, 3, none⟩ = some (.int .i64 (Q.written ⟨1, 7, 25, 11⟩)) from fun W E => (((HX7.out.comp H713.out).comp E).cell (p := ⟨g5, 3, none⟩) HG5.out.2).trans HG5.out.1)
  have HC91 := Lib.hid (show ∀ W, Ext w13 W → W.cell? ⟨g9, 1, none⟩ = some (.int .i64 4) from fun W E => ((H913.out.comp E).cell (p := ⟨g9, 1, none⟩) HG9.out.2.2).trans HG9.out.1)
  have HC92 := Lib.hid (show ∀ W, Ext w13 W → W.cell? ⟨g9, 2, none⟩ = some (.int .i64 114) from fun W E => ((H913.out.comp E).cell (p := ⟨g9, 2, none⟩) HG9.out.2.2).trans HG9.out.2.1)
  have HAI13 := Lib.hid (show ∀ W, Ext w13 W → IntsAt W l.a3 [17] from fun W E => HAI.out.ext ((EX1'.out.comp HE13.out).comp E))
  go_upto_region 8 with fail
  try simp only [List.append_eq, List.cons_append, List.nil_append]
  refine wp_region_P (fun _ => false) (fun W => Ext w13 W) (by kernel_rfl) (Ext.refl w13).drew fun hSX => ?_
  generalize w13.drew = Y at *
  refine tkPP 0 ⟨_, _, _, _, _, _⟩ ?_ rfl (by kernel_rfl) (fun _ _ _ h => h) (Or.inl ⟨by rfl, ?_⟩) ?_
  rotate_left
  · intro wX _
    go_simp
    (try with_reducible rfl)
  (try simp only [Act.put, List.setIfInBounds_toArray, List.set_cons_succ, List.set_cons_zero])
  refine tkPP 1 ⟨_, _, _, _, _, _⟩ ?_ rfl (by kernel_rfl) (fun _ _ _ h => h) (Or.inl ⟨by rfl, ?_⟩) ?_
  rotate_left
  · intro wX _
    go_simp
    (try with_reducible rfl)
  (try simp only [Act.put, List.setIfInBounds_toArray, List.set_cons_succ, List.set_cons_zero])
  refine tkPP 2 ⟨_, _, _, _, _, _⟩ ?_ rfl (by kernel_rfl) (fun _ _ _ h => h) (Or.inl ⟨by rfl, ?_⟩) ?_
  rotate_left
  · intro wX _
    go_simp
    (try with_reducible rfl)
  (try simp only [Act.put, List.setIfInBounds_toArray, List.set_cons_succ, List.set_cons_zero])
  refine tkPP 3 ⟨_, _, _, _, _, _⟩ ?_ rfl (by kernel_rfl) (fun _ _ _ h => h) (Or.inl ⟨by rfl, ?_⟩) ?_
  rotate_left
  · intro wX _
    go_simp
    (try with_reducible rfl)
  (try simp only [Act.put, List.setIfInBounds_toArray, List.set_cons_succ, List.set_cons_zero])
  refine tkPP 4 ⟨_, _, _, _, _, _⟩ ?_ rfl (by kernel_rfl) (fun _ _ _ h => h) (Or.inl ⟨by rfl, ?_⟩) ?_
  rotate_left
  · intro wX _
    go_simp
    (try with_reducible rfl)
  (try simp only [Act.put, List.setIfInBounds_toArray, List.set_cons_succ, List.set_cons_zero])
  refine tkPP 5 ⟨_, _, _, _, _, _⟩ ?_ rfl (by kernel_rfl) (fun _ _ _ h => h) (Or.inl ⟨by rfl, ?_⟩) ?_
  rotate_left
  · intro wX _
    go_simp
    (try with_reducible rfl)
  (try simp only [Act.put, List.setIfInBounds_toArray, List.set_cons_succ, List.set_cons_zero])
  refine tkPP 6 ⟨_, _, _, _, _, _⟩ ?_ rfl (by kernel_rfl) (fun _ _ _ h => h) (Or.inl ⟨by rfl, ?_⟩) ?_
  rotate_left
  · intro wX _
    go_simp
    (try with_reducible rfl)
  (try simp only [Act.put, List.setIfInBounds_toArray, List.set_cons_succ, List.set_cons_zero])
  refine tkPP 7 ⟨_, _, _, _, _, _⟩ ?_ rfl (by kernel_rfl) (fun _ _ _ h => h) (Or.inl ⟨by rfl, ?_⟩) ?_
  rotate_left
  · intro wX _
    go_simp
    (try with_reducible rfl)
  (try simp only [Act.put, List.setIfInBounds_toArray, List.set_cons_succ, List.set_cons_zero])
  refine tkPP 8 ⟨_, _, _, _, _, _⟩ ?_ rfl (by kernel_rfl) (fun _ _ _ h => h) (Or.inl ⟨by rfl, ?_⟩) ?_
  rotate_left
  · intro wX _
    go_simp
    (try with_reducible rfl)
  (try simp only [Act.put, List.setIfInBounds_toArray, List.set_cons_succ, List.set_cons_zero])
  refine tkPP 9 ⟨_, _, _, _, _, _⟩ ?_ rfl (by kernel_rfl) (fun _ _ _ h => h) (Or.inl ⟨by rfl, ?_⟩) ?_
  rotate_left
  · intro wX _
    go_simp
    (try with_reducible rfl)
  (try simp only [Act.put, List.setIfInBounds_toArray, List.set_cons_succ, List.set_cons_zero])
  refine tkPP 10 ⟨_, _, _, _, _, _⟩ ?_ rfl (by kernel_rfl) (fun _ _ _ h => h) (Or.inl ⟨by rfl, ?_⟩) ?_
  rotate_left
  · intro wX _
    go_simp
    (try with_reducible rfl)
  (try simp only [Act.put, List.setIfInBounds_toArray, List.set_cons_succ, List.set_cons_zero])
  refine tkPP 11 ⟨_, _, _, _, _, _⟩ ?_ rfl (by kernel_rfl) (fun _ _ _ h => h) (Or.inl ⟨by rfl, ?_⟩) ?_
  rotate_left
  · intro wX _
    go_simp
    (try with_reducible rfl)
  (try simp only [Act.put, List.setIfInBounds_toArray, List.set_cons_succ, List.set_cons_zero])
  refine tkPP 12 ⟨_, _, _, _, _, _⟩ ?_ rfl (by kernel_rfl) (fun _ _ _ h => h) (Or.inl ⟨by rfl, ?_⟩) ?_
  rotate_left
  · intro wX _
    go_simp
    (try with_reducible rfl)
  (try simp only [Act.put, List.setIfInBounds_toArray, List.set_cons_succ, List.set_cons_zero])
  refine tkPP 13 ⟨_, _, _, _, _, _⟩ ?_ rfl (by kernel_rfl) (fun _ _ _ h => h) (Or.inl ⟨by rfl, ?_⟩) ?_
  rotate_left
  · intro wX _
    go_simp
    (try with_reducible rfl)
  (try simp only [Act.put, List.setIfInBounds_toArray, List.set_cons_succ, List.set_cons_zero])
  refine tkPP 14 ⟨_, _, _, _, _, _⟩ ?_ rfl (by kernel_rfl) (fun _ _ _ h => h) (Or.inl ⟨by rfl, ?_⟩) ?_
  rotate_left
  · intro wX _
    go_simp
    (try with_reducible rfl)
  (try simp only [Act.put, List.setIfInBounds_toArray, List.set_cons_succ, List.set_cons_zero])
  refine tkPP 15 ⟨_, _, _, _, _, _⟩ ?_ rfl (by kernel_rfl) (fun _ _ _ h => h) (Or.inl ⟨by rfl, ?_⟩) ?_
  rotate_left
  · intro wX _
    go_simp
    (try with_reducible rfl)
  (try simp only [Act.put, List.setIfInBounds_toArray, List.set_cons_succ, List.set_cons_zero])
  refine tkPP 16 ⟨_, _, _, _, _, _⟩ ?_ rfl (by kernel_rfl) (fun _ _ _ h => h) (Or.inl ⟨by rfl, ?_⟩) ?_
  rotate_left
  · intro wX _
    go_simp
    (try with_reducible rfl)
  (try simp only [Act.put, List.setIfInBounds_toArray, List.set_cons_succ, List.set_cons_zero])
  refine tkPP 17 ⟨_, _, _, _, _, _⟩ ?_ rfl (by kernel_rfl) (fun _ _ _ h => h) (Or.inl ⟨by rfl, ?_⟩) ?_
  rotate_left
  · intro wX _
    go_simp
    (try with_reducible rfl)
  (try simp only [Act.put, List.setIfInBounds_toArray, List.set_cons_succ, List.set_cons_zero])
  refine tkPP 18 ⟨_, _, _, _, _, _⟩ ?_ rfl (by kernel_rfl) (fun _ _ _ h => h) (Or.inl ⟨by rfl, ?_⟩) ?_
  rotate_left
  · intro wX _
    go_simp
    (try with_reducible rfl)
  (try simp only [Act.put, List.setIfInBounds_toArray, List.set_cons_succ, List.set_cons_zero])
  refine tkPP 19 ⟨_, _, _, _, _, _⟩ ?_ rfl (by kernel_rfl) (fun _ _ _ h => h) (Or.inl ⟨by rfl, ?_⟩) ?_
  rotate_left
  · intro wX _
    go_simp
    (try with_reducible rfl)
  (try simp only [Act.put, List.setIfInBounds_toArray, List.set_cons_succ, List.set_cons_zero])
  as_aux_lemma =>
  refine tkPP 20 ⟨_, _, _, _, _, _⟩ ?_ rfl (by kernel_rfl) (fun _ _ _ h => h) (Or.inl ⟨by rfl, ?_⟩) ?_
  rotate_left
  · intro wX _
    go_simp
    (try with_reducible rfl)
  (try simp only [Act.put, List.setIfInBounds_toArray, List.set_cons_succ, List.set_cons_zero])
  refine tkPP 21 ⟨_, _, _, _, _, _⟩ ?_ rfl (by kernel_rfl) (fun _ _ _ h => h) (Or.inl ⟨by rfl, ?_⟩) ?_
  rotate_left
  · intro wX _
    go_simp
    (try with_reducible rfl)
  (try simp only [Act.put, List.setIfInBounds_toArray, List.set_cons_succ, List.set_cons_zero])
  refine tkPP 22 ⟨_, _, _, _, _, _⟩ ?_ rfl (by kernel_rfl) (fun _ _ _ h => h) (Or.inl ⟨by rfl, ?_⟩) ?_
  rotate_left
  · intro wX _
    go_simp
    (try with_reducible rfl)
  (try simp only [Act.put, List.setIfInBounds_toArray, List.set_cons_succ, List.set_cons_zero])
  refine tkPP 23 ⟨_, _, _, _, _, _⟩ ?_ rfl (by kernel_rfl) (fun _ _ _ h => h) (Or.inl ⟨by rfl, ?_⟩) ?_
  rotate_left
  · intro wX _
    go_simp
    (try with_reducible rfl)
  (try simp only [Act.put, List.setIfInBounds_toArray, List.set_cons_succ, List.set_cons_zero])
  refine tkPP 24 ⟨_, _, _, _, _, _⟩ ?_ rfl (by kernel_rfl) (fun _ _ _ h => h) (Or.inl ⟨by rfl, ?_⟩) ?_
  rotate_left
  · intro wX _
    go_simp
    (try with_reducible rfl)
  (try simp only [Act.put, List.setIfInBounds_toArray, List.set_cons_succ, List.set_cons_zero])
  refine tkPP 25 ⟨_, _, _, _, _, _⟩ ?_ rfl (by kernel_rfl) (fun _ _ _ h => h) (Or.inl ⟨by rfl, ?_⟩) ?_
  rotate_left
  · intro wX _
    go_simp
    (try with_reducible rfl)
  (try simp only [Act.put, List.setIfInBounds_toArray, List.set_cons_succ, List.set_cons_zero])
  refine tkPP 26 ⟨_, _, _, _, _, _⟩ ?_ rfl (by kernel_rfl) (fun _ _ _ h => h) (Or.inl ⟨by rfl, ?_⟩) ?_
  rotate_left
  · intro wX _
    go_simp
    (try with_reducible rfl)
  (try simp only [Act.put, List.setIfInBounds_toArray, List.set_cons_succ, List.set_cons_zero])
  refine tkPP 27 ⟨_, _, _, _, _, _⟩ ?_ rfl (by kernel_rfl) (fun _ _ _ h => h) (Or.inl ⟨by rfl, ?_⟩) ?_
  rotate_left
  · intro wX _
    go_simp
    (try with_reducible rfl)
  (try simp only [Act.put, List.setIfInBounds_toArray, List.set_cons_succ, List.set_cons_zero])
  refine tkPP 28 ⟨_, _, _, _, _, _⟩ ?_ rfl (by kernel_rfl) (fun _ _ _ h => h) (Or.inl ⟨by rfl, ?_⟩) ?_
  rotate_left
  · intro wX _
    go_simp
    (try with_reducible rfl)
  (try simp only [Act.put, List.setIfInBounds_toArray, List.set_cons_succ, List.set_cons_zero])
  refine tkPP 29 ⟨_, _, _, _, _, _⟩ ?_ rfl (by kernel_rfl) (fun _ _ _ h => h) (Or.inl ⟨by rfl, ?_⟩) ?_
  rotate_left
  · intro wX _
    go_simp
    (try with_reducible rfl)
  (try simp only [Act.put, List.setIfInBounds_toArray, List.set_cons_succ, List.set_cons_zero])
  refine tkPP 30 ⟨_, _, _, _, _, _⟩ ?_ rfl (by kernel_rfl) (fun _ _ _ h => h) (Or.inl ⟨by rfl, ?_⟩) ?_
  rotate_left
  · intro wX _
    go_simp
    (try with_reducible rfl)
  (try simp only [Act.put, List.setIfInBounds_toArray, List.set_cons_succ, List.set_cons_zero])
  refine tkPP 31 ⟨_, _, _, _, _, _⟩ ?_ rfl (by kernel_rfl) (fun _ _ _ h => h) (Or.inl ⟨by rfl, ?_⟩) ?_
  rotate_left
  · intro wX _
    go_simp
    (try with_reducible rfl)
  (try simp only [Act.put, List.setIfInBounds_toArray, List.set_cons_succ, List.set_cons_zero])
  refine tkPP 32 ⟨_, _, _, _, _, _⟩ ?_ rfl (by kernel_rfl) (fun _ _ _ h => h) (Or.inl ⟨by rfl, ?_⟩) ?_
  rotate_left
  · intro wX _
    go_simp
    (try with_reducible rfl)
  (try simp only [Act.put, List.setIfInBounds_toArray, List.set_cons_succ, List.set_cons_zero])
  refine tkPP 33 ⟨_, _, _, _, _, _⟩ ?_ rfl (by kernel_rfl) (fun _ _ _ h => h) (Or.inl ⟨by rfl, ?_⟩) ?_
  rotate_left
  · intro wX _
    go_simp
    (try with_reducible rfl)
  (try simp only [Act.put, List.setIfInBounds_toArray, List.set_cons_succ, List.set_cons_zero])
  refine tkPP 34 ⟨_, _, _, _, _, _⟩ ?_ rfl (by kernel_rfl) (fun _ _ _ h => h) (Or.inl ⟨by rfl, ?_⟩) ?_
  rotate_left
  · intro wX _
    go_simp
    (try with_reducible rfl)
  (try simp only [Act.put, List.setIfInBounds_toArray, List.set_cons_succ, List.set_cons_zero])
  refine tkPP 35 ⟨_, _, _, _, _, _⟩ ?_ rfl (by kernel_rfl) (fun _ _ _ h => h) (Or.inl ⟨by rfl, ?_⟩) ?_
  rotate_left
  · intro wX _
    go_simp
    (try with_reducible rfl)
  (try simp only [Act.put, List.setIfInBounds_toArray, List.set_cons_succ, List.set_cons_zero])
  refine tkPP 36 ⟨_, _, _, _, _, _⟩ ?_ rfl (by kernel_rfl) (fun _ _ _ h => h) (Or.inl ⟨by rfl, ?_⟩) ?_
  rotate_left
  · intro wX _
    go_simp
    (try with_reducible rfl)
  (try simp only [Act.put, List.setIfInBounds_toArray, List.set_cons_succ, List.set_cons_zero])
  refine tkP 37 ⟨_, _, _, _, _, _⟩ ?_ rfl (by kernel_rfl) (fun _ _ _ h => h) (Or.inl ⟨by rfl, ?_⟩) hSX ?_
  rotate_left
  · intro wX hS
    have q := (HB1.out wX hS).c 0 rfl
    go_simp
    (try with_reducible rfl)
  (try simp only [Act.put, List.setIfInBounds_toArray, List.set_cons_succ, List.set_cons_zero])
  refine tkPP 38 ⟨_, _, _, _, _, _⟩ ?_ rfl (by kernel_rfl) (fun _ _ _ h => h) (Or.inl ⟨by rfl, ?_⟩) ?_
  rotate_left
  · intro wX _
    go_simp
    (try with_reducible rfl)
  (try simp only [Act.put, List.setIfInBounds_toArray, List.set_cons_succ, List.set_cons_zero])
  refine tkPP 39 ⟨_, _, _, _, _, _⟩ ?_ rfl (by kernel_rfl) (fun _ _ _ h => h) (Or.inl ⟨by rfl, ?_⟩) ?_
  rotate_left
  · intro wX _
    go_simp
    (try with_reducible rfl)
  (try simp only [Act.put, List.setIfInBounds_toArray, List.set_cons_succ, List.set_cons_zero])
  as_aux_lemma =>
  refine tkPP 40 ⟨_, _, _, _, _, _⟩ ?_ rfl (by kernel_rfl) (fun _ _ _ h => h) (Or.inl ⟨by rfl, ?_⟩) ?_
  rotate_left
  · intro wX _
    go_simp
    (try with_reducible rfl)
  (try simp only [Act.put, List.setIfInBounds_toArray, List.set_cons_succ, List.set_cons_zero])
  refine tkPP 41 ⟨_, _, _, _, _, _⟩ ?_ rfl (by kernel_rfl) (fun _ _ _ h => h) (Or.inl ⟨by rfl, ?_⟩) ?_
  rotate_left
  · intro wX _
    go_simp
    (try with_reducible rfl)
  (try simp only [Act.put, List.setIfInBounds_toArray, List.set_cons_succ, List.set_cons_zero])
  refine tkPP 42 ⟨_, _, _, _, _, _⟩ ?_ rfl (by kernel_rfl) (fun _ _ _ h => h) (Or.inl ⟨by rfl, ?_⟩) ?_
  rotate_left
  · intro wX _
    go_simp
    (try with_reducible rfl)
  (try simp only [Act.put, List.setIfInBounds_toArray, List.set_cons_succ, List.set_cons_zero])
  refine tkP 43 ⟨_, _, _, _, _, _⟩ ?_ rfl (by kernel_rfl) (fun _ _ _ h => h) (Or.inl ⟨by rfl, ?_⟩) hSX ?_
  rotate_left
  · intro wX hS
    have q := (HB1.out wX hS).c 3 rfl
    go_simp
    (try with_reducible rfl)
  (try simp only [Act.put, List.setIfInBounds_toArray, List.set_cons_succ, List.set_cons_zero])
  refine tkPP 44 ⟨_, _, _, _, _, _⟩ ?_ rfl (by kernel_rfl) (fun _ _ _ h => h) (Or.inl ⟨by rfl, ?_⟩) ?_
  rotate_left
  · intro wX _
    go_simp
    (try with_reducible rfl)
  (try simp only [Act.put, List.setIfInBounds_toArray, List.set_cons_succ, List.set_cons_zero])
  refine tkPP 45 ⟨_, _, _, _, _, _⟩ ?_ rfl (by kernel_rfl) (fun _ _ _ h => h) (Or.inl ⟨by rfl, ?_⟩) ?_
  rotate_left
  · intro wX _
    go_simp
    (try with_reducible rfl)
  (try simp only [Act.put, List.setIfInBounds_toArray, List.set_cons_succ, List.set_cons_zero])
  refine tkPP 46 ⟨_, _, _, _, _, _⟩ ?_ rfl (by kernel_rfl) (fun _ _ _ h => h) (Or.inl ⟨by rfl, ?_⟩) ?_
  rotate_left
  · intro wX _
    go_simp
    (try with_reducible rfl)
  (try simp only [Act.put, List.setIfInBounds_toArray, List.set_cons_succ, List.set_cons_zero])
  refine tkPP 47 ⟨_, _, _, _, _, _⟩ ?_ rfl (by kernel_rfl) (fun _ _ _ h => h) (Or.inl ⟨by rfl, ?_⟩) ?_
  rotate_left
  · intro wX _
    go_simp
    (try with_reducible rfl)
  (try simp only [Act.put, List.setIfInBounds_toArray, List.set_cons_succ, List.set_cons_zero])
  refine tkP 48 ⟨_, _, _, _, _, _⟩ ?_ rfl (by kernel_rfl) (fun _ _ _ h => h) (Or.inl ⟨by rfl, ?_⟩) hSX ?_
  rotate_left
  · intro wX hS
    have q := (HB1.out wX hS).c 4 rfl
    go_simp
    (try with_reducible rfl)
  (try simp only [Act.put, List.setIfInBounds_toArray, List.set_cons_succ, List.set_cons_zero])
  refine tkPP 49 ⟨_, _, _, _, _, _⟩ ?_ rfl (by kernel_rfl) (fun _ _ _ h => h) (Or.inl ⟨by rfl, ?_⟩) ?_
  rotate_left
  · intro wX _
    go_simp
    (try with_reducible rfl)
  (try simp only [Act.put, List.setIfInBounds_toArray, List.set_cons_succ, List.set_cons_zero])
  refine tkPP 50 ⟨_, _, _, _, _, _⟩ ?_ rfl (by kernel_rfl) (fun _ _ _ h => h) (Or.inl ⟨by rfl, ?_⟩) ?_
  rotate_left
  · intro wX _
    go_simp
    (try with_reducible rfl)
  (try simp only [Act.put, List.setIfInBounds_toArray, List.set_cons_succ, List.set_cons_zero])
  refine tkPP 51 ⟨_, _, _, _, _, _⟩ ?_ rfl (by kernel_rfl) (fun _ _ _ h => h) (Or.inl ⟨by rfl, ?_⟩) ?_
  rotate_left
  · intro wX _
    go_simp
    (try with_reducible rfl)
  (try simp only [Act.put, List.setIfInBounds_toArray, List.set_cons_succ, List.set_cons_zero])
  refine tkPP 52 ⟨_, _, _, _, _, _⟩ ?_ rfl (by kernel_rfl) (fun _ _ _ h => h) (Or.inl ⟨by rfl, ?_⟩) ?_
  rotate_left
  · intro wX _
    go_simp
    (try with_reducible rfl)
  (try simp only [Act.put, List.setIfInBounds_toArray, List.set_cons_succ, List.set_cons_zero])
  refine tkP 53 ⟨_, _, _, _, _, _⟩ ?_ rfl (by kernel_rfl) (fun _ _ _ h => h) (Or.inl ⟨by rfl, ?_⟩) hSX ?_
  rotate_left
  · intro wX hS
    have q := (HB1.out wX hS).c 5 rfl
    go_simp
    (try with_reducible rfl)
  (try simp only [Act.put, List.setIfInBounds_toArray, List.set_cons_succ, List.set_cons_zero])
  refine wpAnyP_one (i := 54) (o := ⟨_, _, _, _, _, _⟩) (by kernel_rfl) rfl ?_ <;> intro K hK
  go_simp
  refine hK _ _ (.inr fun h => h.alloc _) ?_
  clear hK
  have hin := ints_any l.a3 (some ⟨Y.heap.size, 0, none⟩) 1 1 l.c3 1 [17] [17] (Y.alloc (.cells #[.int .i64 17] 3)) rfl rfl (by decide) (by decide) (HAI13.out _ (hSX.alloc _)) (ints_new (zs := [17]) (Ext.refl _))
  rw [decide_eq_true rfl] at hin
  have hSX2 : Ext w13 (Y.alloc (.cells #[.int .i64 17] 3)) := hSX.alloc _
  obtain ⟨n17, hn17⟩ : ∃ n17, Y.heap.size = n17 := ⟨_, rfl⟩
  rw [hn17] at hin ⊢
  generalize Y.alloc (.cells #[.int .i64 17] 3) = Z at hin hSX2 ⊢
  replace hSX := hSX2
  clear hSX2 hn17
  as_aux_lemma =>
  refine wpAnyP_one (i := 55) (o := ⟨_, _, _, _, _, _⟩) (by kernel_rfl) rfl ?_ <;> intro K hK
  go_simp
  go_at_call 25
  refine hin.mono ?_
  rintro e w14 ⟨rfl, E14⟩
  refine hK _ _ (.inr fun h => Ext.comp h E14) ?_
  clear hK hin
  replace hSX := Ext.comp hSX E14
  clear E14
  (try simp only [Act.put, List.setIfInBounds_toArray, List.set_cons_succ, List.set_cons_zero])
  refine tkPP 56 ⟨_, _, _, _, _, _⟩ ?_ rfl (by kernel_rfl) (fun _ _ _ h => h) (Or.inl ⟨by rfl, ?_⟩) ?_
  rotate_left
  · intro wX _
    go_simp
    (try with_reducible rfl)
  (try simp only [Act.put, List.setIfInBounds_toArray, List.set_cons_succ, List.set_cons_zero])
  refine tkPP 57 ⟨_, _, _, _, _, _⟩ ?_ rfl (by kernel_rfl) (fun _ _ _ h => h) (Or.inl ⟨by rfl, ?_⟩) ?_
  rotate_left
  · intro wX _
    go_simp
    (try with_reducible rfl)
  (try simp only [Act.put, List.setIfInBounds_toArray, List.set_cons_succ, List.set_cons_zero])
  refine tkPP 58 ⟨_, _, _, _, _, _⟩ ?_ rfl (by kernel_rfl) (fun _ _ _ h => h) (Or.inl ⟨by rfl, ?_⟩) ?_
  rotate_left
  · intro wX _
    go_simp
    (try with_reducible rfl)
  (try simp only [Act.put, List.setIfInBounds_toArray, List.set_cons_succ, List.set_cons_zero])
  refine tkPP 59 ⟨_, _, _, _, _, _⟩ ?_ rfl (by kernel_rfl) (fun _ _ _ h => h) (Or.inl ⟨by rfl, ?_⟩) ?_
  rotate_left
  · intro wX _
    go_simp
    (try with_reducible rfl)
  (try simp only [Act.put, List.setIfInBounds_toArray, List.set_cons_succ, List.set_cons_zero])
  refine tkPP 60 ⟨_, _, _, _, _, _⟩ ?_ rfl (by kernel_rfl) (fun _ _ _ h => h) (Or.inl ⟨by rfl, ?_⟩) ?_
  rotate_left
  · intro wX _
    go_simp
    (try with_reducible rfl)
  (try simp only [Act.put, List.setIfInBounds_toArray, List.set_cons_succ, List.set_cons_zero])
  refine tkPP 61 ⟨_, _, _, _, _, _⟩ ?_ rfl (by kernel_rfl) (fun _ _ _ h => h) (Or.inl ⟨by rfl, ?_⟩) ?_
  rotate_left
  · intro wX _
    go_simp
    (try with_reducible rfl)
  (try simp only [Act.put, List.setIfInBounds_toArray, List.set_cons_succ, List.set_cons_zero])
  refine tkPP 62 ⟨_, _, _, _, _, _⟩ ?_ rfl (by kernel_rfl) (fun _ _ _ h => h) (Or.inl ⟨by rfl, ?_⟩) ?_
  rotate_left
  · intro wX _
    go_simp
    (try with_reducible rfl)
  (try simp only [Act.put, List.setIfInBounds_toArray, List.set_cons_succ, List.set_cons_zero])
  refine tkP 63 ⟨_, _, _, _, _, _⟩ ?_ rfl (by kernel_rfl) (fun _ _ _ h => h) (Or.inl ⟨by rfl, ?_⟩) hSX ?_
  rotate_left
  · intro wX hS
    have q := (HB7b.out wX hS).c 2 rfl
    go_simp
    (try with_reducible rfl)
  (try simp only [Act.put, List.setIfInBounds_toArray, List.set_cons_succ, List.set_cons_zero])
  refine tkPP 64 ⟨_, _, _, _, _, _⟩ ?_ rfl (by kernel_rfl) (fun _ _ _ h => h) (Or.inl ⟨by rfl, ?_⟩) ?_
  rotate_left
  · intro wX _
    go_simp
    (try with_reducible rfl)
  (try simp only [Act.put, List.setIfInBounds_toArray, List.set_cons_succ, List.set_cons_zero])
  refine tkPP 65 ⟨_, _, _, _, _, _⟩ ?_ rfl (by kernel_rfl) (fun _ _ _ h => h) (Or.inl ⟨by rfl, ?_⟩) ?_
  rotate_left
  · intro wX _
    go_simp
    (try with_reducible rfl)
  (try simp only [Act.put, List.setIfInBounds_toArray, List.set_cons_succ, List.set_cons_zero])
  refine tkPP 66 ⟨_, _, _, _, _, _⟩ ?_ rfl (by kernel_rfl) (fun _ _ _ h => h) (Or.inl ⟨by rfl, ?_⟩) ?_
  rotate_left
  · intro wX _
    go_simp
    (try with_reducible rfl)
  (try simp only [Act.put, List.setIfInBounds_toArray, List.set_cons_succ, List.set_cons_zero])
  refine tkPP 67 ⟨_, _, _, _, _, _⟩ ?_ rfl (by kernel_rfl) (fun _ _ _ h => h) (Or.inl ⟨by rfl, ?_⟩) ?_
  rotate_left
  · intro wX _
    go_simp
    (try with_reducible rfl)
  (try simp only [Act.put, List.setIfInBounds_toArray, List.set_cons_succ, List.set_cons_zero])
  refine tkP 68 ⟨_, _, _, _, _, _⟩ ?_ rfl (by kernel_rfl) (fun _ _ _ h => h) (Or.inl ⟨by rfl, ?_⟩) hSX ?_
  rotate_left
  · intro wX hS
    have q := (HB7b.out wX hS).c 0 rfl
    go_simp
    (try with_reducible rfl)
  (try simp only [Act.put, List.setIfInBounds_toArray, List.set_cons_succ, List.set_cons_zero])
  refine tkPP 69 ⟨_, _, _, _, _, _⟩ ?_ rfl (by kernel_rfl) (fun _ _ _ h => h) (Or.inl ⟨by rfl, ?_⟩) ?_
  rotate_left
  · intro wX _
    go_simp
    (try with_reducible rfl)
  (try simp only [Act.put, List.setIfInBounds_toArray, List.set_cons_succ, List.set_cons_zero])
  as_aux_lemma =>
  refine tkPP 70 ⟨_, _, _, _, _, _⟩ ?_ rfl (by kernel_rfl) (fun _ _ _ h => h) (Or.inl ⟨by rfl, ?_⟩) ?_
  rotate_left
  · intro wX _
    go_simp
    (try with_reducible rfl)
  (try simp only [Act.put, List.setIfInBounds_toArray, List.set_cons_succ, List.set_cons_zero])
  refine tkPP 71 ⟨_, _, _, _, _, _⟩ ?_ rfl (by kernel_rfl) (fun _ _ _ h => h) (Or.inl ⟨by rfl, ?_⟩) ?_
  rotate_left
  · intro wX _
    go_simp
    (try with_reducible rfl)
  (try simp only [Act.put, List.setIfInBounds_toArray, List.set_cons_succ, List.set_cons_zero])
  refine tkPP 72 ⟨_, _, _, _, _, _⟩ ?_ rfl (by kernel_rfl) (fun _ _ _ h => h) (Or.inl ⟨by rfl, ?_⟩) ?_
  rotate_left
  · intro wX _
    go_simp
    (try with_reducible rfl)
  (try simp only [Act.put, List.setIfInBounds_toArray, List.set_cons_succ, List.set_cons_zero])
  refine tkPP 73 ⟨_, _, _, _, _, _⟩ ?_ rfl (by kernel_rfl) (fun _ _ _ h => h) (Or.inl ⟨by rfl, ?_⟩) ?_
  rotate_left
  · intro wX _
    go_simp
    (try with_reducible rfl)
  (try simp only [Act.put, List.setIfInBounds_toArray, List.set_cons_succ, List.set_cons_zero])
  refine tkP 74 ⟨_, _, _, _, _, _⟩ ?_ rfl (by kernel_rfl) (fun _ _ _ h => h) (Or.inl ⟨by rfl, ?_⟩) hSX ?_
  rotate_left
  · intro wX hS
    have q := (HB7b.out wX hS).c 0 rfl
    go_simp
    (try with_reducible rfl)
  (try simp only [Act.put, List.setIfInBounds_toArray, List.set_cons_succ, List.set_cons_zero])
  refine tkPP 75 ⟨_, _, _, _, _, _⟩ ?_ rfl (by kernel_rfl) (fun _ _ _ h => h) (Or.inl ⟨by rfl, ?_⟩) ?_
  rotate_left
  · intro wX _
    go_simp
    (try with_reducible rfl)
  (try simp only [Act.put, List.setIfInBounds_toArray, List.set_cons_succ, List.set_cons_zero])
  refine tkP 76 ⟨_, _, _, _, _, _⟩ ?_ rfl (by kernel_rfl) (fun _ _ _ h => h) (Or.inl ⟨by rfl, ?_⟩) hSX ?_
  rotate_left
  · intro wX hS
    have q := HC5.out wX hS
    go_simp
    (try with_reducible rfl)
  (try simp only [Act.put, List.setIfInBounds_toArray, List.set_cons_succ, List.set_cons_zero])
  refine tkPP 77 ⟨_, _, _, _, _, _⟩ ?_ rfl (by kernel_rfl) (fun _ _ _ h => h) (Or.inl ⟨by rfl, ?_⟩) ?_
  rotate_left
  · intro wX _
    go_simp
    (try with_reducible rfl)
  (try simp only [Act.put, List.setIfInBounds_toArray, List.set_cons_succ, List.set_cons_zero])
  refine wpAnyP_one (i := 78) (o := ⟨_, _, _, _, _, _⟩) (by kernel_rfl) rfl ?_ <;> intro K hK
  go_simp
  go_at_call 57
  refine (written_any 1 7 25 11 _ (by decide)).mono ?_
  rintro e w15 ⟨rfl, E15⟩
  refine hK _ _ (.inr fun h => Ext.comp h E15) ?_
  clear hK
  replace hSX := Ext.comp hSX E15
  clear E15
  (try simp only [Act.put, List.setIfInBounds_toArray, List.set_cons_succ, List.set_cons_zero])
  refine tkPP 79 ⟨_, _, _, _, _, _⟩ ?_ rfl (by kernel_rfl) (fun _ _ _ h => h) (Or.inl ⟨by rfl, ?_⟩) ?_
  rotate_left
  · intro wX _
    go_simp
    (try with_reducible rfl)
  (try simp only [Act.put, List.setIfInBounds_toArray, List.set_cons_succ, List.set_cons_zero])
  refine tkPP 80 ⟨_, _, _, _, _, _⟩ ?_ rfl (by kernel_rfl) (fun _ _ _ h => h) (Or.inl ⟨by rfl, ?_⟩) ?_
  rotate_left
  · intro wX _
    go_simp
    (try with_reducible rfl)
  (try simp only [Act.put, List.setIfInBounds_toArray, List.set_cons_succ, List.set_cons_zero])
  refine tkPP 81 ⟨_, _, _, _, _, _⟩ ?_ rfl (by kernel_rfl) (fun _ _ _ h => h) (Or.inl ⟨by rfl, ?_⟩) ?_
  rotate_left
  · intro wX _
    go_simp
    (try with_reducible rfl)
  (try simp only [Act.put, List.setIfInBounds_toArray, List.set_cons_succ, List.set_cons_zero])
  refine tkPP 82 ⟨_, _, _, _, _, _⟩ ?_ rfl (by kernel_rfl) (fun _ _ _ h => h) (Or.inl ⟨by rfl, ?_⟩) ?_
  rotate_left
  · intro wX _
    go_simp
    (try with_reducible rfl)
  (try simp only [Act.put, List.setIfInBounds_toArray, List.set_cons_succ, List.set_cons_zero])
  refine tkPP 83 ⟨_, _, _, _, _, _⟩ ?_ rfl (by kernel_rfl) (fun _ _ _ h => h) (Or.inl ⟨by rfl, ?_⟩) ?_
  rotate_left
  · intro wX _
    go_simp
    (try with_reducible rfl)
  (try simp only [Act.put, List.setIfInBounds_toArray, List.set_cons_succ, List.set_cons_zero])
  refine tkPP 84 ⟨_, _, _, _, _, _⟩ ?_ rfl (by kernel_rfl) (fun _ _ _ h => h) (Or.inl ⟨by rfl, ?_⟩) ?_
  rotate_left
  · intro wX _
    go_simp
    (try with_reducible rfl)
  (try simp only [Act.put, List.setIfInBounds_toArray, List.set_cons_succ, List.set_cons_zero])
  as_aux_lemma =>
  refine tkPP 85 ⟨_, _, _, _, _, _⟩ ?_ rfl (by kernel_rfl) (fun _ _ _ h => h) (Or.inl ⟨by rfl, ?_⟩) ?_
  rotate_left
  · intro wX _
    go_simp
    (try with_reducible rfl)
  (try simp only [Act.put, List.setIfInBounds_toArray, List.set_cons_succ, List.set_cons_zero])
  refine tkPP 86 ⟨_, _, _, _, _, _⟩ ?_ rfl (by kernel_rfl) (fun _ _ _ h => h) (Or.inl ⟨by rfl, ?_⟩) ?_
  rotate_left
  · intro wX _
    go_simp
    (try with_reducible rfl)
  (try simp only [Act.put, List.setIfInBounds_toArray, List.set_cons_succ, List.set_cons_zero])
  refine tkPP 87 ⟨_, _, _, _, _, _⟩ ?_ rfl (by kernel_rfl) (fun _ _ _ h => h) (Or.inl ⟨by rfl, ?_⟩) ?_
  rotate_left
  · intro wX _
    go_simp
    (try with_reducible rfl)
  (try simp only [Act.put, List.setIfInBounds_toArray, List.set_cons_succ, List.set_cons_zero])
  refine tkPP 88 ⟨_, _, _, _, _, _⟩ ?_ rfl (by kernel_rfl) (fun _ _ _ h => h) (Or.inl ⟨by rfl, ?_⟩) ?_
  rotate_left
  · intro wX _
    go_simp
    (try with_reducible rfl)
  (try simp only [Act.put, List.setIfInBounds_toArray, List.set_cons_succ, List.set_cons_zero])
  refine tkP 89 ⟨_, _, _, _, _, _⟩ ?_ rfl (by kernel_rfl) (fun _ _ _ h => h) (Or.inl ⟨by rfl, ?_⟩) hSX ?_
  rotate_left
  · intro wX hS
    have q := HC91.out wX hS
    go_simp
    (try with_reducible rfl)
  (try simp only [Act.put, List.setIfInBounds_toArray, List.set_cons_succ, List.set_cons_zero])
  refine tkPP 90 ⟨_, _, _, _, _, _⟩ ?_ rfl (by kernel_rfl) (fun _ _ _ h => h) (Or.inl ⟨by rfl, ?_⟩) ?_
  rotate_left
  · intro wX _
    go_simp
    (try with_reducible rfl)
  (try simp only [Act.put, List.setIfInBounds_toArray, List.set_cons_succ, List.set_cons_zero])
  refine tkPP 91 ⟨_, _, _, _, _, _⟩ ?_ rfl (by kernel_rfl) (fun _ _ _ h => h) (Or.inl ⟨by rfl, ?_⟩) ?_
  rotate_left
  · intro wX _
    go_simp
    (try with_reducible rfl)
  (try simp only [Act.put, List.setIfInBounds_toArray, List.set_cons_succ, List.set_cons_zero])
  refine tkPP 92 ⟨_, _, _, _, _, _⟩ ?_ rfl (by kernel_rfl) (fun _ _ _ h => h) (Or.inl ⟨by rfl, ?_⟩) ?_
  rotate_left
  · intro wX _
    go_simp
    (try with_reducible rfl)
  (try simp only [Act.put, List.setIfInBounds_toArray, List.set_cons_succ, List.set_cons_zero])
  refine tkPP 93 ⟨_, _, _, _, _, _⟩ ?_ rfl (by kernel_rfl) (fun _ _ _ h => h) (Or.inl ⟨by rfl, ?_⟩) ?_
  rotate_left
  · intro wX _
    go_simp
    (try with_reducible rfl)
  (try simp only [Act.put, List.setIfInBounds_toArray, List.set_cons_succ, List.set_cons_zero])
  refine tkPP 94 ⟨_, _, _, _, _, _⟩ ?_ rfl (by kernel_rfl) (fun _ _ _ h => h) (Or.inl ⟨by rfl, ?_⟩) ?_
  rotate_left
  · intro wX _
    go_simp
    (try with_reducible rfl)
  (try simp only [Act.put, List.setIfInBounds_toArray, List.set_cons_succ, List.set_cons_zero])
  refine tkP 95 ⟨_, _, _, _, _, _⟩ ?_ rfl (by kernel_rfl) (fun _ _ _ h => h) (Or.inl ⟨by rfl, ?_⟩) hSX ?_
  rotate_left
  · intro wX hS
    have q := HC92.out wX hS
    go_simp
    (try with_reducible rfl)
  (try simp only [Act.put, List.setIfInBounds_toArray, List.set_cons_succ, List.set_cons_zero])
  refine tkPP 96 ⟨_, _, _, _, _, _⟩ ?_ rfl (by kernel_rfl) (fun _ _ _ h => h) (Or.inl ⟨by rfl, ?_⟩) ?_
  rotate_left
  · intro wX _
    go_simp
    (try with_reducible rfl)
  (try simp only [Act.put, List.setIfInBounds_toArray, List.set_cons_succ, List.set_cons_zero])
  refine tkPP 97 ⟨_, _, _, _, _, _⟩ ?_ rfl (by kernel_rfl) (fun _ _ _ h => h) (Or.inl ⟨by rfl, ?_⟩) ?_
  rotate_left
  · intro wX _
    go_simp
    (try with_reducible rfl)
  (try simp only [Act.put, List.setIfInBounds_toArray, List.set_cons_succ, List.set_cons_zero])
  refine tkPP 98 ⟨_, _, _, _, _, _⟩ ?_ rfl (by kernel_rfl) (fun _ _ _ h => h) (Or.inl ⟨by rfl, ?_⟩) ?_
  rotate_left
  · intro wX _
    go_simp
    (try with_reducible rfl)
  (try simp only [Act.put, List.setIfInBounds_toArray, List.set_cons_succ, List.set_cons_zero])
  refine wpAnyP_done (by kernel_rfl) ?_ _
  have HFIN := Lib.hid ((HX1.out.comp HE13.out).comp hSX)
  go_wp2_with fail
  go_ret
  exact ⟨rfl, HFIN.out⟩
end Go.Proofs.Ytcijneecjkpebaa

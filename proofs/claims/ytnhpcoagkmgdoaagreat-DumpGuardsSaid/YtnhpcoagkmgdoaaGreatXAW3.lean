import Derived.Deep.DeepCutAuto
import Derived.BigFrame
import Derived.Test.YtnhpcoagkmgdoaaGreatX27
import Derived.Test.YtnhpcoagkmgdoaaGreatXDL1
import Derived.Test.YtnhpcoagkmgdoaaGreatX28
import Derived.Test.YtnhpcoagkmgdoaaGreatX19
set_option linter.unusedVariables false
set_option linter.unusedSimpArgs false
/- Layer 10's law: Awake. -/
namespace Go.Proofs.YtnhpcoagkmgdoaaGreat
open Go.RowKit Go.Q Go.Shelf Go.Maps Go.Joins
set_option maxHeartbeats 4000000
set_option maxRecDepth 100000
theorem lpunch_any (a : Option Addr) (n c : Nat) (ws : List Int) (w : World) (hn : ws.length = n) (hbig : n ≤ 9223372036854775807) (hI : IntsAt w a ws) :
  Calls Tryz.prog 30 #[.slice a n c] w (RowsRes (punchE ws) w) := lpunch_of ltape_any a n c ws w hn hbig hI
theorem punch63 : punchE [63] = (tapeW [63], 0) := by decide +kernel
theorem tape63_len : (tapeW [63]).length = 65 := by decide +kernel
theorem tape63_lt : ∀ r ∈ tapeW [63], r < 128 := by decide +kernel
theorem vals_loss {w : World} {a : Option Addr} {x y z : Int} (h : ValsAt w a [.int .i64 x, .int .i64 y, .int .i64 z]) : LossAt w a [⟨x, y, z⟩] := by
 rcases h with h | ⟨b, off, ha, hb, hc⟩
 ·cases h
 ·refine .inr ⟨b, off, ha, hb, fun i hi => ?_⟩
  obtain rfl : i = 0 := by simpa using hi
  exact ⟨hc 0 (by simp), hc 1 (by simp), hc 2 (by simp)⟩
theorem loss_any (w : World) : Calls Tryz.prog 33 #[.int .i64 14] w fun e w' => ∃ a c, e = .returned (.slice a 1 c) ∧ LossAt w' a lossA ∧ Ext w w' :=
 (loss10_any 14 w).mono fun e w' ⟨a, c, h1, h2, h3, h4⟩ => ⟨a, c, h1, vals_loss h3, h4⟩
/-- what Awake is told by its calls -/
structure AwK (s : St) (tp : List Nat) : Prop where
 bd : StBd s
 len : tp.length = 65
 lt : ∀ r ∈ tp, r < 128
 prog : ∀ W, Calls Tryz.prog 29 #[] W (RetSt s W)
 punch : ∀ a c W, IntsAt W a [63] → Calls Tryz.prog 30 #[.slice a 1 c] W fun e W' => ∃ a c, e = .returned (.tuple #[.slice a 65 c, .int .i64 0]) ∧ BytesAt W' a (natI tp) ∧ Ext W W'
 rows : ∀ W, Calls Tryz.prog 31 #[] W fun e W' => ∃ a c, e = .returned (.slice a 65 c) ∧ W'.ownsRow W.heap.size 5 1 (.slice a 65 c) 65 (ub (natI tp)) ∧ Ext W W'
 read1 : ∀ a c W, 65 ≤ c ∧ c ≤ 9223372036854775807 → BytesAt W a (natI (tp.set 4 126)) → Calls Tryz.prog 32 #[.slice a 65 c] W fun e W' => ∃ a c ma mc k, e = .returned (.tuple #[.slice a 1 c, .slice ma 1 mc, .int .i64 k, .int .i64 0]) ∧ IntsAt W' a [63] ∧ IntsAt W' ma [4] ∧ Ext W W' ∧ (∀ b, a.map (·.block) = some b → W.heap.size ≤ b) ∧ (∀ b, ma.map (·.block) = some b → W.heap.size ≤ b)
 read2 : ∀ a c W, 65 ≤ c ∧ c ≤ 9223372036854775807 → BytesAt W a (natI ((tp.set 9 65).set 4 125)) → Calls Tryz.prog 32 #[.slice a 65 c] W fun e W' => ∃ a n c ma mn mc, e = .returned (.tuple #[.slice a n c, .slice ma mn mc, .int .i64 0, .int .i64 200]) ∧ Ext W W'
 guard : ∀ v la lc W, StAt W v s → LossAt W la lossA → Calls Tryz.prog 6 #[v, .slice la 1 lc, .int .i64 100] W fun e W' => ∃ a1 a2 a3 n1 n2 n3 c1 c2 c3 m2 m4 m5 m7, e = .returned (.tuple #[.agg #[.slice a1 n1 c1, .slice a2 n2 c2, .int .i64 m2, .slice a3 n3 c3, .int .i64 m4, .int .i64 m5, .int .i64 5, .int .i64 m7], .int .i64 14, .int .i64 0]) ∧ Ext W W'
 blind : ∀ v la lc W, StAt W v s → LossAt W la lossA → Calls Tryz.prog 9 #[v, .slice la 1 lc, .int .i64 100] W fun e W' => ∃ a1 a2 a3 n1 n2 c1 c2 c3 m2 m4 m5 m6 m7, e = .returned (.tuple #[.agg #[.slice a1 n1 c1, .slice a2 n2 c2, .int .i64 m2, .slice a3 1 c3, .int .i64 m4, .int .i64 m5, .int .i64 m6, .int .i64 m7], .int .i64 0]) ∧ IntsAt W' a3 [6] ∧ Ext W W'
 recover : ∀ v la lc W, StAt W v s → LossAt W la lossA → Calls Tryz.prog 12 #[v, .slice la 1 lc, .int .i64 4, .int .i64 100] W fun e W' => ∃ a1 a2 a3 n1 n2 c1 c2 c3 m2 m4 m5 m6 m7, e = .returned (.tuple #[.agg #[.slice a1 n1 c1, .slice a2 n2 c2, .int .i64 m2, .slice a3 1 c3, .int .i64 m4, .int .i64 m5, .int .i64 m6, .int .i64 m7], .int .i64 1, .int .i64 0]) ∧ IntsAt W' a3 [7] ∧ Ext W W'
 dump : ∀ v W, StAt W v s → Calls Tryz.prog 34 #[v] W fun e W' => ∃ rs : List Nat, ∃ a n c, e = .returned (.tuple #[.slice a n c, .int .i64 0]) ∧ rs.length = n ∧ (n ≤ c ∧ c ≤ 9223372036854775807) ∧ BytesAt W' a (natI rs) ∧ Ext W W' ∧
  ∀ W2, BytesAt W2 a (natI rs) → Calls Tryz.prog 35 #[.slice a n c] W2 fun e W3 => ∃ v, e = .returned (.tuple #[v, .int .i64 0]) ∧ StAt W3 v s ∧ Ext W2 W3
 until_ : ∀ v W, StAt W v s → Calls Tryz.prog 16 #[v, .int .i64 10, .int .i64 100] W fun e W' => ∃ a1 a2 a3 n1 n2 n3 c1 c2 c3 m2 m5 m6 m7, e = .returned (.tuple #[.agg #[.slice a1 n1 c1, .slice a2 n2 c2, .int .i64 m2, .slice a3 n3 c3, .int .i64 26, .int .i64 m5, .int .i64 m6, .int .i64 m7], .bool true, .int .i64 0]) ∧ Ext W W'
theorem natI_bd {tp : List Nat} (h : ∀ r ∈ tp, r < 128) : ∀ x ∈ natI tp, 0 ≤ x ∧ x ≤ 255 := by
 intro x hx
 obtain ⟨r, hr, rfl⟩ := List.mem_map.1 hx
 have := h r hr
 omega
theorem awake10_of {s : St} {tp : List Nat} (AK : AwK s tp) (w : World) : Calls Tryz.prog 11 #[] w fun e w' => e = .returned (.bool true) ∧ Ext w w' := by
 have hlen := AK.len
 have hxl : (natI tp).length = 65 := by rw [natI_length]; exact hlen
 have hbd := natI_bd AK.lt
 go_enter Tryz.func11, Tryz.ntmps11
 go_wp2_with fail
 refine (AK.prog _).mono ?_
 rintro e w1 ⟨vp, rfl, ⟨p1, p2, p3, k1, k2, k3, rfl, I1, I2, I3⟩, E1⟩
 go_wp2_with fail
 have i63 : IntsAt ((w1.alloc (.cells #[.slice p1 s.store.length k1, .slice p2 s.tape.length k2, .int .i64 s.taken, .slice p3 s.printed.length k3, .int .i64 s.time, .int .i64 s.at_, .int .i64 s.done, .int .i64 s.why] 24)).alloc (.cells #[.int .i64 63] 3)) (some ⟨w1.heap.size + 1, 0, none⟩) [63] := by
  have := ints_fresh (w := w1.alloc (.cells #[.slice p1 s.store.length k1, .slice p2 s.tape.length k2, .int .i64 s.taken, .slice p3 s.printed.length k3, .int .i64 s.time, .int .i64 s.at_, .int .i64 s.done, .int .i64 s.why] 24)) (xs := [63]) (t := 3) rfl (Ext.refl _)
  rw [World.size_alloc] at this
  exact this
 refine (AK.punch _ _ _ i63).mono ?_
 rintro e w2 ⟨ba, bc, rfl, HB, E2⟩
 have gbox : w2.heap[w1.heap.size]? = some (.cells #[.slice p1 s.store.length k1, .slice p2 s.tape.length k2, .int .i64 s.taken, .slice p3 s.printed.length k3, .int .i64 s.time, .int .i64 s.at_, .int .i64 s.done, .int .i64 s.why] 24 (0, 0)) := (E2.old.block w1.heap.size (by simp)).trans (heap_alloc_new w1 _)
 have E12 : Ext w1 w2 := E2.old.old
 clear i63
 go_wp2_with fail
 refine (AK.rows _).mono ?_
 rintro e w3 ⟨ra, rc, rfl, HO, E3⟩
 have hcap := own_cap HO
 obtain ⟨g, sc, hg⟩ := ownsRow_form HO (by omega)
 obtain ⟨rfl, -, rfl⟩ := Value.slice.inj hg
 clear hg
 have hgl := HO.lt g rfl
 have hc4 := own_cellU HO 4 (by omega)
 have hf4 := HO.frozenAt 4
 go_wp2_with fail
 have HO1 := own_setU HO 4 126
 have EX1 : Ext w2 (w3.setCell ⟨g, 4, none⟩ (.int .u8 126)) := E3.setCell (p := ⟨g, 4, none⟩) hgl.1 _
 obtain ⟨w4, hw4⟩ : ∃ w4, w3.setCell ⟨g, 4, none⟩ (.int .u8 126) = w4 := ⟨_, rfl⟩
 rw [hw4] at HO1 EX1 ⊢
 have hsz4 : w4.heap.size = w3.heap.size := by rw [← hw4]; simp
 clear hw4 hc4 hf4 HO
 have hB1 := own_bytes HO1
 rw [show (natI tp).set 4 126 = natI (tp.set 4 126) from (natI_set tp 4 126).symm] at hB1
 refine (AK.read1 _ _ _ hcap hB1).mono ?_
 rintro e w5 ⟨ia, ic, ma, mc, k, rfl, R1, R2, E5, N1, N2⟩
 have HO5 := own_extX HO1 E5
 have hc9 := own_cellU HO5 9 (by rw [List.length_set]; omega)
 have hf9 := HO5.frozenAt 9
 have HO6 := own_setU HO5 9 65
 have hc4 := own_cellU HO6 4 (by rw [List.length_set, List.length_set]; omega)
 have hf4 := HO6.frozenAt 4
 have HO7 := own_setU HO6 4 125
 clear HO1 HO5 HO6 hB1
 go_wp2_with fail
 have EX2 : Ext w2 ((w5.setCell ⟨g, 9, none⟩ (.int .u8 65)).setCell ⟨g, 4, none⟩ (.int .u8 125)) := ((EX1.comp E5).setCell (p := ⟨g, 9, none⟩) hgl.1 _).setCell (p := ⟨g, 4, none⟩) hgl.1 _
 have K2 : KpM (fun q => q = g) w5 ((w5.setCell ⟨g, 9, none⟩ (.int .u8 65)).setCell ⟨g, 4, none⟩ (.int .u8 125)) := (kpm_set (M := fun q => q = g) w5 g 9 (.int .u8 65) rfl).trans (kpm_set (M := fun q => q = g) _ g 4 (.int .u8 125) rfl)
 obtain ⟨w6, hw6⟩ : ∃ w6, (w5.setCell ⟨g, 9, none⟩ (.int .u8 65)).setCell ⟨g, 4, none⟩ (.int .u8 125) = w6 := ⟨_, rfl⟩
 rw [hw6] at HO7 EX2 K2 ⊢
 clear hw6 hc4 hf4 hc9 hf9
 have R1 := ints_kp R1 K2 (fun b q => by have := N1 b q; omega)
 have R2 := ints_kp R2 K2 (fun b q => by have := N2 b q; omega)
 have hB7 := own_bytes HO7
 have e7 : (((natI tp).set 4 126).set 9 65).set 4 125 = natI ((tp.set 9 65).set 4 125) := by
  rw [natI_set, natI_set, List.set_comm _ _ (show (4 : Nat) ≠ 9 by decide), List.set_set]
  rfl
 rw [e7] at hB7
 refine (AK.read2 _ _ _ hcap hB7).mono ?_
 rintro e X ⟨xa, xn, xc, xma, xmn, xmc, rfl, E7⟩
 have E2X : Ext w2 X := EX2.comp E7
 have HS := Lib.hid (fun Y (E : Ext X Y) => (show StAt Y (sv p1 p2 p3 s.store.length k1 s.tape.length k2 s.printed.length k3 s.taken s.time s.at_ s.done s.why) s from (show StAt w1 _ s from ⟨p1, p2, p3, k1, k2, k3, rfl, I1, I2, I3⟩).ext (E12.comp (E2X.comp E))))
 have HQ := Lib.hid (fun Y (E : Ext X Y) => have gb := ((E2X.comp E).block w1.heap.size (lt_of_block gbox)).trans gbox; And.intro (blk_cell gb 0 rfl) (And.intro (blk_cell gb 1 rfl) (And.intro (blk_cell gb 2 rfl) (And.intro (blk_cell gb 3 rfl) (And.intro (blk_cell gb 4 rfl) (And.intro (blk_cell gb 5 rfl) (And.intro (blk_cell gb 6 rfl) (blk_cell gb 7 rfl))))))))
 have HB := Lib.hid (HB.ext E2X)
 have HR := Lib.hid (And.intro (R1.ext E7) (R2.ext E7))
 have HE := Lib.hid (E1.comp (E12.comp E2X))
 clear R1 R2 E7 EX1 EX2 E2 E3 E5 K2 N1 N2 HO7 hB7 e7 hgl hcap I1 I2 I3 gbox E2X E12 E1 hsz4
 go_upto_region 8 with fail
 go_cut [13, 14, 15] (fun x13 x14 x15 wx => x14 = .int .i64 14 ∧ x15 = .int .i64 0 ∧ ∃ D : Nat, x13 = .pointer (some ⟨D, 0, none⟩) ∧ D < wx.heap.size ∧ wx.cell? ⟨D, 6, none⟩ = some (.int .i64 5) ∧ Ext X wx)
 case first =>
  refine wp_region_Z (fun _ => false) (fun Y => Ext X Y) (by kernel_rfl) (Ext.refl X).drew fun hSX => ?_
  refine tk 0 ⟨_, _, _, _, _, _⟩ ?_ rfl (by kernel_rfl) (fun _ _ _ h => h) (Or.inl ⟨by rfl, ?_⟩) hSX ?_
  rotate_left
  ·intro wX hS
   obtain ⟨q0, q1, q2, q3, q4, q5, q6, q7⟩ := HQ.out wX hS
   go_simp
   (try with_reducible rfl)
  (try simp only [Act.put, List.setIfInBounds_toArray, List.set_cons_zero, List.set_cons_succ])
  refine wpAnyZ_two (i := 1) (j := 7) (oi := ⟨_, _, _, _, _, _⟩) (oj := ⟨_, _, _, _, _, _⟩) (by kernel_rfl) rfl rfl (fun K hK => ?_) (fun K hK => ?_)
  ·go_simp
   go_at_call 33
   refine (loss_any _).mono ?_
   rintro e ya ⟨la, lc, rfl, HL, Fyaa⟩
   have Fya : Ext X ya := Ext.comp hSX Fyaa
   refine hK _ _ (.inr Fya) (fun _ => ?_)
   clear hK
   (try simp only [Act.put, List.setIfInBounds_toArray, List.set_cons_zero, List.set_cons_succ])
   refine wpAnyZ_two (i := 2) (j := 7) (oi := ⟨_, _, _, _, _, _⟩) (oj := ⟨_, _, _, _, _, _⟩) (by kernel_rfl) rfl rfl (fun K hK => ?_) (fun K hK => ?_)
   ·go_simp
    go_at_call 6
    refine (AK.guard _ _ _ _ (HS.out _ Fya) HL).mono ?_
    rintro e yb ⟨g1, g2, g3, n1, n2, n3, d1, d2, d3, m2, m4, m5, m7, rfl, Fyba⟩
    have Fyb : Ext X yb := Ext.comp Fya Fyba
    refine hK _ _ (.inr Fyb) (fun _ => ?_)
    clear hK
    (try simp only [Act.put, List.setIfInBounds_toArray, List.set_cons_zero, List.set_cons_succ])
    refine tk 3 ⟨_, _, _, _, _, _⟩ ?_ rfl (by kernel_rfl) (fun _ _ _ h => h) (Or.inl ⟨by rfl, ?_⟩) Fyb ?_
    rotate_left
    ·intro wX hS
     go_simp
     (try with_reducible rfl)
    (try simp only [Act.put, List.setIfInBounds_toArray, List.set_cons_zero, List.set_cons_succ])
    refine tk 4 ⟨_, _, _, _, _, _⟩ ?_ rfl (by kernel_rfl) (fun _ _ _ h => h) (Or.inl ⟨by rfl, ?_⟩) Fyb ?_
    rotate_left
    ·intro wX hS
     go_simp
     (try with_reducible rfl)
    (try simp only [Act.put, List.setIfInBounds_toArray, List.set_cons_zero, List.set_cons_succ])
    refine tk 5 ⟨_, _, _, _, _, _⟩ ?_ rfl (by kernel_rfl) (fun _ _ _ h => h) (Or.inl ⟨by rfl, ?_⟩) Fyb ?_
    rotate_left
    ·intro wX hS
     go_simp
     (try with_reducible rfl)
    (try simp only [Act.put, List.setIfInBounds_toArray, List.set_cons_zero, List.set_cons_succ])
    refine tk 6 ⟨_, _, _, _, _, _⟩ ?_ rfl (by kernel_rfl) (fun _ _ _ h => h) (Or.inl ⟨by rfl, ?_⟩) Fyb ?_
    rotate_left
    ·intro wX hS
     go_simp
     (try with_reducible rfl)
    (try simp only [Act.put, List.setIfInBounds_toArray, List.set_cons_zero, List.set_cons_succ])
    refine wpAnyZ_one (i := 7) (o := ⟨_, _, _, _, _, _⟩) (by kernel_rfl) rfl (fun K hK => ?_)
    go_simp
    have FR := Ext.alloc (Ext.refl yb) (.cells #[.slice none 0 0, .slice none 0 0, .int .i64 0, .slice none 0 0, .int .i64 0, .int .i64 0, .int .i64 0, .int .i64 0] 24)
    have gA : (yb.alloc (.cells #[.slice none 0 0, .slice none 0 0, .int .i64 0, .slice none 0 0, .int .i64 0, .int .i64 0, .int .i64 0, .int .i64 0] 24)).heap[yb.heap.size]? = _ := heap_alloc_new yb (.cells #[.slice none 0 0, .slice none 0 0, .int .i64 0, .slice none 0 0, .int .i64 0, .int .i64 0, .int .i64 0, .int .i64 0] 24)
    have Fyc : Ext X ((yb.alloc (.cells #[.slice none 0 0, .slice none 0 0, .int .i64 0, .slice none 0 0, .int .i64 0, .int .i64 0, .int .i64 0, .int .i64 0] 24))) := Ext.alloc Fyb _
    have hDs0 : X.heap.size ≤ yb.heap.size := (Fyb).size
    refine hK _ _ (.inr Fyc) (fun _ => ?_)
    clear hK
    (try simp only [Act.put, List.setIfInBounds_toArray, List.set_cons_zero, List.set_cons_succ])
    obtain ⟨D, hD⟩ : ∃ D, yb.heap.size = D := ⟨_, rfl⟩
    obtain ⟨yc, hyc⟩ : ∃ yc, (yb.alloc (.cells #[.slice none 0 0, .slice none 0 0, .int .i64 0, .slice none 0 0, .int .i64 0, .int .i64 0, .int .i64 0, .int .i64 0] 24)) = yc := ⟨_, rfl⟩
    rw [hD, hyc] at gA
    rw [hyc] at Fyc
    have hDs : X.heap.size ≤ D := by omega
    clear hDs0
    rw [hD, hyc]
    rw [hyc] at FR
    have z0 := blk_cell gA 0 (v := .slice none 0 0) rfl
    have z1 := blk_cell gA 1 (v := .slice none 0 0) rfl
    have z2 := blk_cell gA 2 (v := .int .i64 0) rfl
    have z3 := blk_cell gA 3 (v := .slice none 0 0) rfl
    have z4 := blk_cell gA 4 (v := .int .i64 0) rfl
    have z5 := blk_cell gA 5 (v := .int .i64 0) rfl
    have z6 := blk_cell gA 6 (v := .int .i64 0) rfl
    have z7 := blk_cell gA 7 (v := .int .i64 0) rfl
    have zf0 := blk_free gA 0
    have zf1 := blk_free gA 1
    have zf2 := blk_free gA 2
    have zf3 := blk_free gA 3
    have zf4 := blk_free gA 4
    have zf5 := blk_free gA 5
    have zf6 := blk_free gA 6
    have zf7 := blk_free gA 7
    refine wpAnyZ_one (i := 8) (o := ⟨_, _, _, _, _, _⟩) (by kernel_rfl) rfl (fun K hK => ?_)
    go_simp
    have ES := ext_set8 Fyc hDs (.slice g1 n1 d1) (.slice g2 n2 d2) (.int .i64 m2) (.slice g3 n3 d3) (.int .i64 m4) (.int .i64 m5) (.int .i64 5) (.int .i64 m7)
    have KS := s8_kp (M := fun q => q = D) (w := yc) (b := D) (n0 := .slice g1 n1 d1) (n1 := .slice g2 n2 d2) (n2 := .int .i64 m2) (n3 := .slice g3 n3 d3) (n4 := .int .i64 m4) (n5 := .int .i64 m5) (n6 := .int .i64 5) (n7 := .int .i64 m7) rfl
    unfold S8 at KS
    have g2 := cells_set (cells_set (cells_set (cells_set (cells_set (cells_set (cells_set (cells_set gA 0 (.slice g1 n1 d1)) 1 (.slice g2 n2 d2)) 2 (.int .i64 m2)) 3 (.slice g3 n3 d3)) 4 (.int .i64 m4)) 5 (.int .i64 m5)) 6 (.int .i64 5)) 7 (.int .i64 m7)
    (try simp at g2)
    refine hK _ _ (.inr ES) (fun _ => ?_)
    clear hK
    (try simp only [Act.put, List.setIfInBounds_toArray, List.set_cons_zero, List.set_cons_succ])
    refine tk 9 ⟨_, _, _, _, _, _⟩ ?_ rfl (by kernel_rfl) (fun _ _ _ h => h) (Or.inl ⟨by rfl, ?_⟩) ES ?_
    rotate_left
    ·intro wX hS
     go_simp
     (try with_reducible rfl)
    (try simp only [Act.put, List.setIfInBounds_toArray, List.set_cons_zero, List.set_cons_succ])
    refine tk 10 ⟨_, _, _, _, _, _⟩ ?_ rfl (by kernel_rfl) (fun _ _ _ h => h) (Or.inl ⟨by rfl, ?_⟩) ES ?_
    rotate_left
    ·intro wX hS
     go_simp
     (try with_reducible rfl)
    (try simp only [Act.put, List.setIfInBounds_toArray, List.set_cons_zero, List.set_cons_succ])
    refine wpAnyZ_done (by kernel_rfl) ?_ _
    go_wp2_with fail
    go_meet
    exact ⟨rfl, rfl, D, rfl, lt_of_block g2, blk_cell g2 6 rfl, ES⟩
   ·go_simp
    have HL2 := HL.ext (Ext.alloc (Ext.refl ya) (.cells #[.slice none 0 0, .slice none 0 0, .int .i64 0, .slice none 0 0, .int .i64 0, .int .i64 0, .int .i64 0, .int .i64 0] 24))
    have gA : (ya.alloc (.cells #[.slice none 0 0, .slice none 0 0, .int .i64 0, .slice none 0 0, .int .i64 0, .int .i64 0, .int .i64 0, .int .i64 0] 24)).heap[ya.heap.size]? = _ := heap_alloc_new ya (.cells #[.slice none 0 0, .slice none 0 0, .int .i64 0, .slice none 0 0, .int .i64 0, .int .i64 0, .int .i64 0, .int .i64 0] 24)
    have Fyb : Ext X ((ya.alloc (.cells #[.slice none 0 0, .slice none 0 0, .int .i64 0, .slice none 0 0, .int .i64 0, .int .i64 0, .int .i64 0, .int .i64 0] 24))) := Ext.alloc Fya _
    have hDs0 : X.heap.size ≤ ya.heap.size := (Fya).size
    refine hK _ _ (.inr Fyb) (fun _ => ?_)
    clear hK
    (try simp only [Act.put, List.setIfInBounds_toArray, List.set_cons_zero, List.set_cons_succ])
    obtain ⟨D, hD⟩ : ∃ D, ya.heap.size = D := ⟨_, rfl⟩
    obtain ⟨yb, hyb⟩ : ∃ yb, (ya.alloc (.cells #[.slice none 0 0, .slice none 0 0, .int .i64 0, .slice none 0 0, .int .i64 0, .int .i64 0, .int .i64 0, .int .i64 0] 24)) = yb := ⟨_, rfl⟩
    rw [hD, hyb] at gA
    rw [hyb] at Fyb
    have hDs : X.heap.size ≤ D := by omega
    clear hDs0
    rw [hD, hyb]
    rw [hyb] at HL2
    refine wpAnyZ_one (i := 2) (o := ⟨_, _, _, _, _, _⟩) (by kernel_rfl) rfl (fun K hK => ?_)
    go_simp
    go_at_call 6
    refine (AK.guard _ _ _ _ (HS.out _ Fyb) HL2).mono ?_
    rintro e yc ⟨g1, g2, g3, n1, n2, n3, d1, d2, d3, m2, m4, m5, m7, rfl, Fyca⟩
    have Fyc : Ext X yc := Ext.comp Fyb Fyca
    refine hK _ _ (.inr Fyc) (fun _ => ?_)
    clear hK
    (try simp only [Act.put, List.setIfInBounds_toArray, List.set_cons_zero, List.set_cons_succ])
    refine tk 3 ⟨_, _, _, _, _, _⟩ ?_ rfl (by kernel_rfl) (fun _ _ _ h => h) (Or.inl ⟨by rfl, ?_⟩) Fyc ?_
    rotate_left
    ·intro wX hS
     go_simp
     (try with_reducible rfl)
    (try simp only [Act.put, List.setIfInBounds_toArray, List.set_cons_zero, List.set_cons_succ])
    refine tk 4 ⟨_, _, _, _, _, _⟩ ?_ rfl (by kernel_rfl) (fun _ _ _ h => h) (Or.inl ⟨by rfl, ?_⟩) Fyc ?_
    rotate_left
    ·intro wX hS
     go_simp
     (try with_reducible rfl)
    (try simp only [Act.put, List.setIfInBounds_toArray, List.set_cons_zero, List.set_cons_succ])
    refine tk 5 ⟨_, _, _, _, _, _⟩ ?_ rfl (by kernel_rfl) (fun _ _ _ h => h) (Or.inl ⟨by rfl, ?_⟩) Fyc ?_
    rotate_left
    ·intro wX hS
     go_simp
     (try with_reducible rfl)
    (try simp only [Act.put, List.setIfInBounds_toArray, List.set_cons_zero, List.set_cons_succ])
    refine tk 6 ⟨_, _, _, _, _, _⟩ ?_ rfl (by kernel_rfl) (fun _ _ _ h => h) (Or.inl ⟨by rfl, ?_⟩) Fyc ?_
    rotate_left
    ·intro wX hS
     go_simp
     (try with_reducible rfl)
    (try simp only [Act.put, List.setIfInBounds_toArray, List.set_cons_zero, List.set_cons_succ])
    have gA := ((Fyca).block D (lt_of_block gA)).trans gA
    have FR := Ext.refl yc
    have z0 := blk_cell gA 0 (v := .slice none 0 0) rfl
    have z1 := blk_cell gA 1 (v := .slice none 0 0) rfl
    have z2 := blk_cell gA 2 (v := .int .i64 0) rfl
    have z3 := blk_cell gA 3 (v := .slice none 0 0) rfl
    have z4 := blk_cell gA 4 (v := .int .i64 0) rfl
    have z5 := blk_cell gA 5 (v := .int .i64 0) rfl
    have z6 := blk_cell gA 6 (v := .int .i64 0) rfl
    have z7 := blk_cell gA 7 (v := .int .i64 0) rfl
    have zf0 := blk_free gA 0
    have zf1 := blk_free gA 1
    have zf2 := blk_free gA 2
    have zf3 := blk_free gA 3
    have zf4 := blk_free gA 4
    have zf5 := blk_free gA 5
    have zf6 := blk_free gA 6
    have zf7 := blk_free gA 7
    refine wpAnyZ_one (i := 8) (o := ⟨_, _, _, _, _, _⟩) (by kernel_rfl) rfl (fun K hK => ?_)
    go_simp
    have ES := ext_set8 Fyc hDs (.slice g1 n1 d1) (.slice g2 n2 d2) (.int .i64 m2) (.slice g3 n3 d3) (.int .i64 m4) (.int .i64 m5) (.int .i64 5) (.int .i64 m7)
    have KS := s8_kp (M := fun q => q = D) (w := yc) (b := D) (n0 := .slice g1 n1 d1) (n1 := .slice g2 n2 d2) (n2 := .int .i64 m2) (n3 := .slice g3 n3 d3) (n4 := .int .i64 m4) (n5 := .int .i64 m5) (n6 := .int .i64 5) (n7 := .int .i64 m7) rfl
    unfold S8 at KS
    have g2 := cells_set (cells_set (cells_set (cells_set (cells_set (cells_set (cells_set (cells_set gA 0 (.slice g1 n1 d1)) 1 (.slice g2 n2 d2)) 2 (.int .i64 m2)) 3 (.slice g3 n3 d3)) 4 (.int .i64 m4)) 5 (.int .i64 m5)) 6 (.int .i64 5)) 7 (.int .i64 m7)
    (try simp at g2)
    refine hK _ _ (.inr ES) (fun _ => ?_)
    clear hK
    (try simp only [Act.put, List.setIfInBounds_toArray, List.set_cons_zero, List.set_cons_succ])
    refine tk 9 ⟨_, _, _, _, _, _⟩ ?_ rfl (by kernel_rfl) (fun _ _ _ h => h) (Or.inl ⟨by rfl, ?_⟩) ES ?_
    rotate_left
    ·intro wX hS
     go_simp
     (try with_reducible rfl)
    (try simp only [Act.put, List.setIfInBounds_toArray, List.set_cons_zero, List.set_cons_succ])
    refine tk 10 ⟨_, _, _, _, _, _⟩ ?_ rfl (by kernel_rfl) (fun _ _ _ h => h) (Or.inl ⟨by rfl, ?_⟩) ES ?_
    rotate_left
    ·intro wX hS
     go_simp
     (try with_reducible rfl)
    (try simp only [Act.put, List.setIfInBounds_toArray, List.set_cons_zero, List.set_cons_succ])
    refine wpAnyZ_done (by kernel_rfl) ?_ _
    go_wp2_with fail
    go_meet
    exact ⟨rfl, rfl, D, rfl, lt_of_block g2, blk_cell g2 6 rfl, ES⟩
  ·go_simp
   have gA : (X.alloc (.cells #[.slice none 0 0, .slice none 0 0, .int .i64 0, .slice none 0 0, .int .i64 0, .int .i64 0, .int .i64 0, .int .i64 0] 24)).drew.heap[X.heap.size]? = _ := heap_alloc_new X (.cells #[.slice none 0 0, .slice none 0 0, .int .i64 0, .slice none 0 0, .int .i64 0, .int .i64 0, .int .i64 0, .int .i64 0] 24)
   have Fyn : Ext X ((X.alloc (.cells #[.slice none 0 0, .slice none 0 0, .int .i64 0, .slice none 0 0, .int .i64 0, .int .i64 0, .int .i64 0, .int .i64 0] 24)).drew) := (Ext.alloc (Ext.refl X) _).drew
   have hDs0 : X.heap.size ≤ X.heap.size := ((Ext.refl X)).size
   refine hK _ _ (.inr Fyn) (fun _ => ?_)
   clear hK
   (try simp only [Act.put, List.setIfInBounds_toArray, List.set_cons_zero, List.set_cons_succ])
   obtain ⟨D, hD⟩ : ∃ D, X.heap.size = D := ⟨_, rfl⟩
   obtain ⟨yn, hyn⟩ : ∃ yn, (X.alloc (.cells #[.slice none 0 0, .slice none 0 0, .int .i64 0, .slice none 0 0, .int .i64 0, .int .i64 0, .int .i64 0, .int .i64 0] 24)).drew = yn := ⟨_, rfl⟩
   rw [hD, hyn] at gA
   rw [hyn] at Fyn
   have hDs : X.heap.size ≤ D := by omega
   clear hDs0
   rw [hD, hyn]
   refine wpAnyZ_one (i := 1) (o := ⟨_, _, _, _, _, _⟩) (by kernel_rfl) rfl (fun K hK => ?_)
   go_simp
   go_at_call 33
   refine (loss_any _).mono ?_
   rintro e ya ⟨la, lc, rfl, HL, Fyaa⟩
   have Fya : Ext X ya := Ext.comp Fyn Fyaa
   refine hK _ _ (.inr Fya) (fun _ => ?_)
   clear hK
   (try simp only [Act.put, List.setIfInBounds_toArray, List.set_cons_zero, List.set_cons_succ])
   have gA := ((Fyaa).block D (lt_of_block gA)).trans gA
   refine wpAnyZ_one (i := 2) (o := ⟨_, _, _, _, _, _⟩) (by kernel_rfl) rfl (fun K hK => ?_)
   go_simp
   go_at_call 6
   refine (AK.guard _ _ _ _ (HS.out _ Fya) HL).mono ?_
   rintro e yb ⟨g1, g2, g3, n1, n2, n3, d1, d2, d3, m2, m4, m5, m7, rfl, Fyba⟩
   have Fyb : Ext X yb := Ext.comp Fya Fyba
   refine hK _ _ (.inr Fyb) (fun _ => ?_)
   clear hK
   (try simp only [Act.put, List.setIfInBounds_toArray, List.set_cons_zero, List.set_cons_succ])
   refine tk 3 ⟨_, _, _, _, _, _⟩ ?_ rfl (by kernel_rfl) (fun _ _ _ h => h) (Or.inl ⟨by rfl, ?_⟩) Fyb ?_
   rotate_left
   ·intro wX hS
    go_simp
    (try with_reducible rfl)
   (try simp only [Act.put, List.setIfInBounds_toArray, List.set_cons_zero, List.set_cons_succ])
   refine tk 4 ⟨_, _, _, _, _, _⟩ ?_ rfl (by kernel_rfl) (fun _ _ _ h => h) (Or.inl ⟨by rfl, ?_⟩) Fyb ?_
   rotate_left
   ·intro wX hS
    go_simp
    (try with_reducible rfl)
   (try simp only [Act.put, List.setIfInBounds_toArray, List.set_cons_zero, List.set_cons_succ])
   refine tk 5 ⟨_, _, _, _, _, _⟩ ?_ rfl (by kernel_rfl) (fun _ _ _ h => h) (Or.inl ⟨by rfl, ?_⟩) Fyb ?_
   rotate_left
   ·intro wX hS
    go_simp
    (try with_reducible rfl)
   (try simp only [Act.put, List.setIfInBounds_toArray, List.set_cons_zero, List.set_cons_succ])
   refine tk 6 ⟨_, _, _, _, _, _⟩ ?_ rfl (by kernel_rfl) (fun _ _ _ h => h) (Or.inl ⟨by rfl, ?_⟩) Fyb ?_
   rotate_left
   ·intro wX hS
    go_simp
    (try with_reducible rfl)
   (try simp only [Act.put, List.setIfInBounds_toArray, List.set_cons_zero, List.set_cons_succ])
   have gA := ((Fyba).block D (lt_of_block gA)).trans gA
   have FR := Ext.refl yb
   have z0 := blk_cell gA 0 (v := .slice none 0 0) rfl
   have z1 := blk_cell gA 1 (v := .slice none 0 0) rfl
   have z2 := blk_cell gA 2 (v := .int .i64 0) rfl
   have z3 := blk_cell gA 3 (v := .slice none 0 0) rfl
   have z4 := blk_cell gA 4 (v := .int .i64 0) rfl
   have z5 := blk_cell gA 5 (v := .int .i64 0) rfl
   have z6 := blk_cell gA 6 (v := .int .i64 0) rfl
   have z7 := blk_cell gA 7 (v := .int .i64 0) rfl
   have zf0 := blk_free gA 0
   have zf1 := blk_free gA 1
   have zf2 := blk_free gA 2
   have zf3 := blk_free gA 3
   have zf4 := blk_free gA 4
   have zf5 := blk_free gA 5
   have zf6 := blk_free gA 6
   have zf7 := blk_free gA 7
   refine wpAnyZ_one (i := 8) (o := ⟨_, _, _, _, _, _⟩) (by kernel_rfl) rfl (fun K hK => ?_)
   go_simp
   have ES := ext_set8 Fyb hDs (.slice g1 n1 d1) (.slice g2 n2 d2) (.int .i64 m2) (.slice g3 n3 d3) (.int .i64 m4) (.int .i64 m5) (.int .i64 5) (.int .i64 m7)
   have KS := s8_kp (M := fun q => q = D) (w := yb) (b := D) (n0 := .slice g1 n1 d1) (n1 := .slice g2 n2 d2) (n2 := .int .i64 m2) (n3 := .slice g3 n3 d3) (n4 := .int .i64 m4) (n5 := .int .i64 m5) (n6 := .int .i64 5) (n7 := .int .i64 m7) rfl
   unfold S8 at KS
   have g2 := cells_set (cells_set (cells_set (cells_set (cells_set (cells_set (cells_set (cells_set gA 0 (.slice g1 n1 d1)) 1 (.slice g2 n2 d2)) 2 (.int .i64 m2)) 3 (.slice g3 n3 d3)) 4 (.int .i64 m4)) 5 (.int .i64 m5)) 6 (.int .i64 5)) 7 (.int .i64 m7)
   (try simp at g2)
   refine hK _ _ (.inr ES) (fun _ => ?_)
   clear hK
   (try simp only [Act.put, List.setIfInBounds_toArray, List.set_cons_zero, List.set_cons_succ])
   refine tk 9 ⟨_, _, _, _, _, _⟩ ?_ rfl (by kernel_rfl) (fun _ _ _ h => h) (Or.inl ⟨by rfl, ?_⟩) ES ?_
   rotate_left
   ·intro wX hS
    go_simp
    (try with_reducible rfl)
   (try simp only [Act.put, List.setIfInBounds_toArray, List.set_cons_zero, List.set_cons_succ])
   refine tk 10 ⟨_, _, _, _, _, _⟩ ?_ rfl (by kernel_rfl) (fun _ _ _ h => h) (Or.inl ⟨by rfl, ?_⟩) ES ?_
   rotate_left
   ·intro wX hS
    go_simp
    (try with_reducible rfl)
   (try simp only [Act.put, List.setIfInBounds_toArray, List.set_cons_zero, List.set_cons_succ])
   refine wpAnyZ_done (by kernel_rfl) ?_ _
   go_wp2_with fail
   go_meet
   exact ⟨rfl, rfl, D, rfl, lt_of_block g2, blk_cell g2 6 rfl, ES⟩
 case rest =>
  obtain ⟨rfl, rfl, D1, rfl, hD1, hc1, FC1⟩ := hcut
  obtain ⟨X1, rfl⟩ : ∃ q : World, q = wc := ⟨_, rfl⟩
  have HS1 := Lib.hid (fun Y (E : Ext X1 Y) => HS.out Y (FC1.comp E))
  have HQ1 := Lib.hid (fun Y (E : Ext X1 Y) => HQ.out Y (FC1.comp E))
  have HC1 := Lib.hid (And.intro hD1 hc1)
  clear hD1 hc1
  go_upto_region 9 with fail
  go_cut [16, 17] (fun x16 x17 wx => x17 = .int .i64 0 ∧ ∃ (D : Nat) (g3 : Option Addr) (d3 : Nat), x16 = .pointer (some ⟨D, 0, none⟩) ∧ D < wx.heap.size ∧ wx.cell? ⟨D, 3, none⟩ = some (.slice g3 1 d3) ∧ IntsAt wx g3 [6] ∧ Ext X1 wx)
  case first =>
   refine wp_region_Z (fun _ => false) (fun Y => Ext X1 Y) (by kernel_rfl) (Ext.refl X1).drew fun hSX => ?_
   refine tk 0 ⟨_, _, _, _, _, _⟩ ?_ rfl (by kernel_rfl) (fun _ _ _ h => h) (Or.inl ⟨by rfl, ?_⟩) hSX ?_
   rotate_left
   ·intro wX hS
    obtain ⟨q0, q1, q2, q3, q4, q5, q6, q7⟩ := HQ1.out wX hS
    go_simp
    (try with_reducible rfl)
   (try simp only [Act.put, List.setIfInBounds_toArray, List.set_cons_zero, List.set_cons_succ])
   refine wpAnyZ_two (i := 1) (j := 6) (oi := ⟨_, _, _, _, _, _⟩) (oj := ⟨_, _, _, _, _, _⟩) (by kernel_rfl) rfl rfl (fun K hK => ?_) (fun K hK => ?_)
   ·go_simp
    go_at_call 33
    refine (loss_any _).mono ?_
    rintro e ya ⟨la, lc, rfl, HL, Fyaa⟩
    have Fya : Ext X1 ya := Ext.comp hSX Fyaa
    refine hK _ _ (.inr Fya) (fun _ => ?_)
    clear hK
    (try simp only [Act.put, List.setIfInBounds_toArray, List.set_cons_zero, List.set_cons_succ])
    refine wpAnyZ_two (i := 2) (j := 6) (oi := ⟨_, _, _, _, _, _⟩) (oj := ⟨_, _, _, _, _, _⟩) (by kernel_rfl) rfl rfl (fun K hK => ?_) (fun K hK => ?_)
    ·go_simp
     go_at_call 9
     refine (AK.blind _ _ _ _ (HS1.out _ Fya) HL).mono ?_
     rintro e yb ⟨g1, g2, g3, n1, n2, d1, d2, d3, m2, m4, m5, m6, m7, rfl, i3, Fyba⟩
     have Fyb : Ext X1 yb := Ext.comp Fya Fyba
     refine hK _ _ (.inr Fyb) (fun _ => ?_)
     clear hK
     (try simp only [Act.put, List.setIfInBounds_toArray, List.set_cons_zero, List.set_cons_succ])
     refine tk 3 ⟨_, _, _, _, _, _⟩ ?_ rfl (by kernel_rfl) (fun _ _ _ h => h) (Or.inl ⟨by rfl, ?_⟩) Fyb ?_
     rotate_left
     ·intro wX hS
      go_simp
      (try with_reducible rfl)
     (try simp only [Act.put, List.setIfInBounds_toArray, List.set_cons_zero, List.set_cons_succ])
     refine tk 4 ⟨_, _, _, _, _, _⟩ ?_ rfl (by kernel_rfl) (fun _ _ _ h => h) (Or.inl ⟨by rfl, ?_⟩) Fyb ?_
     rotate_left
     ·intro wX hS
      go_simp
      (try with_reducible rfl)
     (try simp only [Act.put, List.setIfInBounds_toArray, List.set_cons_zero, List.set_cons_succ])
     refine tk 5 ⟨_, _, _, _, _, _⟩ ?_ rfl (by kernel_rfl) (fun _ _ _ h => h) (Or.inl ⟨by rfl, ?_⟩) Fyb ?_
     rotate_left
     ·intro wX hS
      go_simp
      (try with_reducible rfl)
     (try simp only [Act.put, List.setIfInBounds_toArray, List.set_cons_zero, List.set_cons_succ])
     refine wpAnyZ_one (i := 6) (o := ⟨_, _, _, _, _, _⟩) (by kernel_rfl) rfl (fun K hK => ?_)
     go_simp
     have FR := Ext.alloc (Ext.refl yb) (.cells #[.slice none 0 0, .slice none 0 0, .int .i64 0, .slice none 0 0, .int .i64 0, .int .i64 0, .int .i64 0, .int .i64 0] 24)
     have gA : (yb.alloc (.cells #[.slice none 0 0, .slice none 0 0, .int .i64 0, .slice none 0 0, .int .i64 0, .int .i64 0, .int .i64 0, .int .i64 0] 24)).heap[yb.heap.size]? = _ := heap_alloc_new yb (.cells #[.slice none 0 0, .slice none 0 0, .int .i64 0, .slice none 0 0, .int .i64 0, .int .i64 0, .int .i64 0, .int .i64 0] 24)
     have Fyc : Ext X1 ((yb.alloc (.cells #[.slice none 0 0, .slice none 0 0, .int .i64 0, .slice none 0 0, .int .i64 0, .int .i64 0, .int .i64 0, .int .i64 0] 24))) := Ext.alloc Fyb _
     have hDs0 : X1.heap.size ≤ yb.heap.size := (Fyb).size
     refine hK _ _ (.inr Fyc) (fun _ => ?_)
     clear hK
     (try simp only [Act.put, List.setIfInBounds_toArray, List.set_cons_zero, List.set_cons_succ])
     obtain ⟨D, hD⟩ : ∃ D, yb.heap.size = D := ⟨_, rfl⟩
     obtain ⟨yc, hyc⟩ : ∃ yc, (yb.alloc (.cells #[.slice none 0 0, .slice none 0 0, .int .i64 0, .slice none 0 0, .int .i64 0, .int .i64 0, .int .i64 0, .int .i64 0] 24)) = yc := ⟨_, rfl⟩
     rw [hD, hyc] at gA
     rw [hyc] at Fyc
     have hDs : X1.heap.size ≤ D := by omega
     clear hDs0
     rw [hD, hyc]
     rw [hyc] at FR
     have z0 := blk_cell gA 0 (v := .slice none 0 0) rfl
     have z1 := blk_cell gA 1 (v := .slice none 0 0) rfl
     have z2 := blk_cell gA 2 (v := .int .i64 0) rfl
     have z3 := blk_cell gA 3 (v := .slice none 0 0) rfl
     have z4 := blk_cell gA 4 (v := .int .i64 0) rfl
     have z5 := blk_cell gA 5 (v := .int .i64 0) rfl
     have z6 := blk_cell gA 6 (v := .int .i64 0) rfl
     have z7 := blk_cell gA 7 (v := .int .i64 0) rfl
     have zf0 := blk_free gA 0
     have zf1 := blk_free gA 1
     have zf2 := blk_free gA 2
     have zf3 := blk_free gA 3
     have zf4 := blk_free gA 4
     have zf5 := blk_free gA 5
     have zf6 := blk_free gA 6
     have zf7 := blk_free gA 7
     refine wpAnyZ_one (i := 7) (o := ⟨_, _, _, _, _, _⟩) (by kernel_rfl) rfl (fun K hK => ?_)
     go_simp
     have ES := ext_set8 Fyc hDs (.slice g1 n1 d1) (.slice g2 n2 d2) (.int .i64 m2) (.slice g3 1 d3) (.int .i64 m4) (.int .i64 m5) (.int .i64 m6) (.int .i64 m7)
     have KS := s8_kp (M := fun q => q = D) (w := yc) (b := D) (n0 := .slice g1 n1 d1) (n1 := .slice g2 n2 d2) (n2 := .int .i64 m2) (n3 := .slice g3 1 d3) (n4 := .int .i64 m4) (n5 := .int .i64 m5) (n6 := .int .i64 m6) (n7 := .int .i64 m7) rfl
     unfold S8 at KS
     have g2 := cells_set (cells_set (cells_set (cells_set (cells_set (cells_set (cells_set (cells_set gA 0 (.slice g1 n1 d1)) 1 (.slice g2 n2 d2)) 2 (.int .i64 m2)) 3 (.slice g3 1 d3)) 4 (.int .i64 m4)) 5 (.int .i64 m5)) 6 (.int .i64 m6)) 7 (.int .i64 m7)
     (try simp at g2)
     have j0 := ints_keepZ (i3.ext FR) (ints_farZ (i3.ext FR) gA zeros8 (.inr ⟨0, by decide, by decide⟩)) KS
     refine hK _ _ (.inr ES) (fun _ => ?_)
     clear hK
     (try simp only [Act.put, List.setIfInBounds_toArray, List.set_cons_zero, List.set_cons_succ])
     refine tk 8 ⟨_, _, _, _, _, _⟩ ?_ rfl (by kernel_rfl) (fun _ _ _ h => h) (Or.inl ⟨by rfl, ?_⟩) ES ?_
     rotate_left
     ·intro wX hS
      go_simp
      (try with_reducible rfl)
     (try simp only [Act.put, List.setIfInBounds_toArray, List.set_cons_zero, List.set_cons_succ])
     refine wpAnyZ_done (by kernel_rfl) ?_ _
     go_wp2_with fail
     go_meet
     exact ⟨rfl, D, g3, d3, rfl, lt_of_block g2, blk_cell g2 3 rfl, j0, ES⟩
    ·go_simp
     have HL2 := HL.ext (Ext.alloc (Ext.refl ya) (.cells #[.slice none 0 0, .slice none 0 0, .int .i64 0, .slice none 0 0, .int .i64 0, .int .i64 0, .int .i64 0, .int .i64 0] 24))
     have gA : (ya.alloc (.cells #[.slice none 0 0, .slice none 0 0, .int .i64 0, .slice none 0 0, .int .i64 0, .int .i64 0, .int .i64 0, .int .i64 0] 24)).heap[ya.heap.size]? = _ := heap_alloc_new ya (.cells #[.slice none 0 0, .slice none 0 0, .int .i64 0, .slice none 0 0, .int .i64 0, .int .i64 0, .int .i64 0, .int .i64 0] 24)
     have Fyb : Ext X1 ((ya.alloc (.cells #[.slice none 0 0, .slice none 0 0, .int .i64 0, .slice none 0 0, .int .i64 0, .int .i64 0, .int .i64 0, .int .i64 0] 24))) := Ext.alloc Fya _
     have hDs0 : X1.heap.size ≤ ya.heap.size := (Fya).size
     refine hK _ _ (.inr Fyb) (fun _ => ?_)
     clear hK
     (try simp only [Act.put, List.setIfInBounds_toArray, List.set_cons_zero, List.set_cons_succ])
     obtain ⟨D, hD⟩ : ∃ D, ya.heap.size = D := ⟨_, rfl⟩
     obtain ⟨yb, hyb⟩ : ∃ yb, (ya.alloc (.cells #[.slice none 0 0, .slice none 0 0, .int .i64 0, .slice none 0 0, .int .i64 0, .int .i64 0, .int .i64 0, .int .i64 0] 24)) = yb := ⟨_, rfl⟩
     rw [hD, hyb] at gA
     rw [hyb] at Fyb
     have hDs : X1.heap.size ≤ D := by omega
     clear hDs0
     rw [hD, hyb]
     rw [hyb] at HL2
     refine wpAnyZ_one (i := 2) (o := ⟨_, _, _, _, _, _⟩) (by kernel_rfl) rfl (fun K hK => ?_)
     go_simp
     go_at_call 9
     refine (AK.blind _ _ _ _ (HS1.out _ Fyb) HL2).mono ?_
     rintro e yc ⟨g1, g2, g3, n1, n2, d1, d2, d3, m2, m4, m5, m6, m7, rfl, i3, Fyca⟩
     have Fyc : Ext X1 yc := Ext.comp Fyb Fyca
     refine hK _ _ (.inr Fyc) (fun _ => ?_)
     clear hK
     (try simp only [Act.put, List.setIfInBounds_toArray, List.set_cons_zero, List.set_cons_succ])
     refine tk 3 ⟨_, _, _, _, _, _⟩ ?_ rfl (by kernel_rfl) (fun _ _ _ h => h) (Or.inl ⟨by rfl, ?_⟩) Fyc ?_
     rotate_left
     ·intro wX hS
      go_simp
      (try with_reducible rfl)
     (try simp only [Act.put, List.setIfInBounds_toArray, List.set_cons_zero, List.set_cons_succ])
     refine tk 4 ⟨_, _, _, _, _, _⟩ ?_ rfl (by kernel_rfl) (fun _ _ _ h => h) (Or.inl ⟨by rfl, ?_⟩) Fyc ?_
     rotate_left
     ·intro wX hS
      go_simp
      (try with_reducible rfl)
     (try simp only [Act.put, List.setIfInBounds_toArray, List.set_cons_zero, List.set_cons_succ])
     refine tk 5 ⟨_, _, _, _, _, _⟩ ?_ rfl (by kernel_rfl) (fun _ _ _ h => h) (Or.inl ⟨by rfl, ?_⟩) Fyc ?_
     rotate_left
     ·intro wX hS
      go_simp
      (try with_reducible rfl)
     (try simp only [Act.put, List.setIfInBounds_toArray, List.set_cons_zero, List.set_cons_succ])
     have gA := ((Fyca).block D (lt_of_block gA)).trans gA
     have FR := Ext.refl yc
     have z0 := blk_cell gA 0 (v := .slice none 0 0) rfl
     have z1 := blk_cell gA 1 (v := .slice none 0 0) rfl
     have z2 := blk_cell gA 2 (v := .int .i64 0) rfl
     have z3 := blk_cell gA 3 (v := .slice none 0 0) rfl
     have z4 := blk_cell gA 4 (v := .int .i64 0) rfl
     have z5 := blk_cell gA 5 (v := .int .i64 0) rfl
     have z6 := blk_cell gA 6 (v := .int .i64 0) rfl
     have z7 := blk_cell gA 7 (v := .int .i64 0) rfl
     have zf0 := blk_free gA 0
     have zf1 := blk_free gA 1
     have zf2 := blk_free gA 2
     have zf3 := blk_free gA 3
     have zf4 := blk_free gA 4
     have zf5 := blk_free gA 5
     have zf6 := blk_free gA 6
     have zf7 := blk_free gA 7
     refine wpAnyZ_one (i := 7) (o := ⟨_, _, _, _, _, _⟩) (by kernel_rfl) rfl (fun K hK => ?_)
     go_simp
     have ES := ext_set8 Fyc hDs (.slice g1 n1 d1) (.slice g2 n2 d2) (.int .i64 m2) (.slice g3 1 d3) (.int .i64 m4) (.int .i64 m5) (.int .i64 m6) (.int .i64 m7)
     have KS := s8_kp (M := fun q => q = D) (w := yc) (b := D) (n0 := .slice g1 n1 d1) (n1 := .slice g2 n2 d2) (n2 := .int .i64 m2) (n3 := .slice g3 1 d3) (n4 := .int .i64 m4) (n5 := .int .i64 m5) (n6 := .int .i64 m6) (n7 := .int .i64 m7) rfl
     unfold S8 at KS
     have g2 := cells_set (cells_set (cells_set (cells_set (cells_set (cells_set (cells_set (cells_set gA 0 (.slice g1 n1 d1)) 1 (.slice g2 n2 d2)) 2 (.int .i64 m2)) 3 (.slice g3 1 d3)) 4 (.int .i64 m4)) 5 (.int .i64 m5)) 6 (.int .i64 m6)) 7 (.int .i64 m7)
     (try simp at g2)
     have j0 := ints_keepZ (i3.ext FR) (ints_farZ (i3.ext FR) gA zeros8 (.inr ⟨0, by decide, by decide⟩)) KS
     refine hK _ _ (.inr ES) (fun _ => ?_)
     clear hK
     (try simp only [Act.put, List.setIfInBounds_toArray, List.set_cons_zero, List.set_cons_succ])
     refine tk 8 ⟨_, _, _, _, _, _⟩ ?_ rfl (by kernel_rfl) (fun _ _ _ h => h) (Or.inl ⟨by rfl, ?_⟩) ES ?_
     rotate_left
     ·intro wX hS
      go_simp
      (try with_reducible rfl)
     (try simp only [Act.put, List.setIfInBounds_toArray, List.set_cons_zero, List.set_cons_succ])
     refine wpAnyZ_done (by kernel_rfl) ?_ _
     go_wp2_with fail
     go_meet
     exact ⟨rfl, D, g3, d3, rfl, lt_of_block g2, blk_cell g2 3 rfl, j0, ES⟩
   ·go_simp
    have gA : (X1.alloc (.cells #[.slice none 0 0, .slice none 0 0, .int .i64 0, .slice none 0 0, .int .i64 0, .int .i64 0, .int .i64 0, .int .i64 0] 24)).drew.heap[X1.heap.size]? = _ := heap_alloc_new X1 (.cells #[.slice none 0 0, .slice none 0 0, .int .i64 0, .slice none 0 0, .int .i64 0, .int .i64 0, .int .i64 0, .int .i64 0] 24)
    have Fyn : Ext X1 ((X1.alloc (.cells #[.slice none 0 0, .slice none 0 0, .int .i64 0, .slice none 0 0, .int .i64 0, .int .i64 0, .int .i64 0, .int .i64 0] 24)).drew) := (Ext.alloc (Ext.refl X1) _).drew
    have hDs0 : X1.heap.size ≤ X1.heap.size := ((Ext.refl X1)).size
    refine hK _ _ (.inr Fyn) (fun _ => ?_)
    clear hK
    (try simp only [Act.put, List.setIfInBounds_toArray, List.set_cons_zero, List.set_cons_succ])
    obtain ⟨D, hD⟩ : ∃ D, X1.heap.size = D := ⟨_, rfl⟩
    obtain ⟨yn, hyn⟩ : ∃ yn, (X1.alloc (.cells #[.slice none 0 0, .slice none 0 0, .int .i64 0, .slice none 0 0, .int .i64 0, .int .i64 0, .int .i64 0, .int .i64 0] 24)).drew = yn := ⟨_, rfl⟩
    rw [hD, hyn] at gA
    rw [hyn] at Fyn
    have hDs : X1.heap.size ≤ D := by omega
    clear hDs0
    rw [hD, hyn]
    refine wpAnyZ_one (i := 1) (o := ⟨_, _, _, _, _, _⟩) (by kernel_rfl) rfl (fun K hK => ?_)
    go_simp
    go_at_call 33
    refine (loss_any _).mono ?_
    rintro e ya ⟨la, lc, rfl, HL, Fyaa⟩
    have Fya : Ext X1 ya := Ext.comp Fyn Fyaa
    refine hK _ _ (.inr Fya) (fun _ => ?_)
    clear hK
    (try simp only [Act.put, List.setIfInBounds_toArray, List.set_cons_zero, List.set_cons_succ])
    have gA := ((Fyaa).block D (lt_of_block gA)).trans gA
    refine wpAnyZ_one (i := 2) (o := ⟨_, _, _, _, _, _⟩) (by kernel_rfl) rfl (fun K hK => ?_)
    go_simp
    go_at_call 9
    refine (AK.blind _ _ _ _ (HS1.out _ Fya) HL).mono ?_
    rintro e yb ⟨g1, g2, g3, n1, n2, d1, d2, d3, m2, m4, m5, m6, m7, rfl, i3, Fyba⟩
    have Fyb : Ext X1 yb := Ext.comp Fya Fyba
    refine hK _ _ (.inr Fyb) (fun _ => ?_)
    clear hK
    (try simp only [Act.put, List.setIfInBounds_toArray, List.set_cons_zero, List.set_cons_succ])
    refine tk 3 ⟨_, _, _, _, _, _⟩ ?_ rfl (by kernel_rfl) (fun _ _ _ h => h) (Or.inl ⟨by rfl, ?_⟩) Fyb ?_
    rotate_left
    ·intro wX hS
     go_simp
     (try with_reducible rfl)
    (try simp only [Act.put, List.setIfInBounds_toArray, List.set_cons_zero, List.set_cons_succ])
    refine tk 4 ⟨_, _, _, _, _, _⟩ ?_ rfl (by kernel_rfl) (fun _ _ _ h => h) (Or.inl ⟨by rfl, ?_⟩) Fyb ?_
    rotate_left
    ·intro wX hS
     go_simp
     (try with_reducible rfl)
    (try simp only [Act.put, List.setIfInBounds_toArray, List.set_cons_zero, List.set_cons_succ])
    refine tk 5 ⟨_, _, _, _, _, _⟩ ?_ rfl (by kernel_rfl) (fun _ _ _ h => h) (Or.inl ⟨by rfl, ?_⟩) Fyb ?_
    rotate_left
    ·intro wX hS
     go_simp
     (try with_reducible rfl)
    (try simp only [Act.put, List.setIfInBounds_toArray, List.set_cons_zero, List.set_cons_succ])
    have gA := ((Fyba).block D (lt_of_block gA)).trans gA
    have FR := Ext.refl yb
    have z0 := blk_cell gA 0 (v := .slice none 0 0) rfl
    have z1 := blk_cell gA 1 (v := .slice none 0 0) rfl
    have z2 := blk_cell gA 2 (v := .int .i64 0) rfl
    have z3 := blk_cell gA 3 (v := .slice none 0 0) rfl
    have z4 := blk_cell gA 4 (v := .int .i64 0) rfl
    have z5 := blk_cell gA 5 (v := .int .i64 0) rfl
    have z6 := blk_cell gA 6 (v := .int .i64 0) rfl
    have z7 := blk_cell gA 7 (v := .int .i64 0) rfl
    have zf0 := blk_free gA 0
    have zf1 := blk_free gA 1
    have zf2 := blk_free gA 2
    have zf3 := blk_free gA 3
    have zf4 := blk_free gA 4
    have zf5 := blk_free gA 5
    have zf6 := blk_free gA 6
    have zf7 := blk_free gA 7
    refine wpAnyZ_one (i := 7) (o := ⟨_, _, _, _, _, _⟩) (by kernel_rfl) rfl (fun K hK => ?_)
    go_simp
    have ES := ext_set8 Fyb hDs (.slice g1 n1 d1) (.slice g2 n2 d2) (.int .i64 m2) (.slice g3 1 d3) (.int .i64 m4) (.int .i64 m5) (.int .i64 m6) (.int .i64 m7)
    have KS := s8_kp (M := fun q => q = D) (w := yb) (b := D) (n0 := .slice g1 n1 d1) (n1 := .slice g2 n2 d2) (n2 := .int .i64 m2) (n3 := .slice g3 1 d3) (n4 := .int .i64 m4) (n5 := .int .i64 m5) (n6 := .int .i64 m6) (n7 := .int .i64 m7) rfl
    unfold S8 at KS
    have g2 := cells_set (cells_set (cells_set (cells_set (cells_set (cells_set (cells_set (cells_set gA 0 (.slice g1 n1 d1)) 1 (.slice g2 n2 d2)) 2 (.int .i64 m2)) 3 (.slice g3 1 d3)) 4 (.int .i64 m4)) 5 (.int .i64 m5)) 6 (.int .i64 m6)) 7 (.int .i64 m7)
    (try simp at g2)
    have j0 := ints_keepZ (i3.ext FR) (ints_farZ (i3.ext FR) gA zeros8 (.inr ⟨0, by decide, by decide⟩)) KS
    refine hK _ _ (.inr ES) (fun _ => ?_)
    clear hK
    (try simp only [Act.put, List.setIfInBounds_toArray, List.set_cons_zero, List.set_cons_succ])
    refine tk 8 ⟨_, _, _, _, _, _⟩ ?_ rfl (by kernel_rfl) (fun _ _ _ h => h) (Or.inl ⟨by rfl, ?_⟩) ES ?_
    rotate_left
    ·intro wX hS
     go_simp
     (try with_reducible rfl)
    (try simp only [Act.put, List.setIfInBounds_toArray, List.set_cons_zero, List.set_cons_succ])
    refine wpAnyZ_done (by kernel_rfl) ?_ _
    go_wp2_with fail
    go_meet
    exact ⟨rfl, D, g3, d3, rfl, lt_of_block g2, blk_cell g2 3 rfl, j0, ES⟩
  case rest =>
   obtain ⟨rfl, D2, pb, db, rfl, hD2, hc2, hi2, FC2⟩ := hcut
   obtain ⟨X2, rfl⟩ : ∃ q : World, q = wc := ⟨_, rfl⟩
   have HS2 := Lib.hid (fun Y (E : Ext X2 Y) => HS1.out Y (FC2.comp E))
   have HQ2 := Lib.hid (fun Y (E : Ext X2 Y) => HQ1.out Y (FC2.comp E))
   have HC2 := Lib.hid (And.intro hD2 (And.intro hc2 hi2))
   clear hD2 hc2 hi2
   go_upto_region 10 with fail
   go_cut [18, 19, 20] (fun x18 x19 x20 wx => x19 = .int .i64 1 ∧ x20 = .int .i64 0 ∧ ∃ (D : Nat) (g3 : Option Addr) (d3 : Nat), x18 = .pointer (some ⟨D, 0, none⟩) ∧ D < wx.heap.size ∧ wx.cell? ⟨D, 3, none⟩ = some (.slice g3 1 d3) ∧ IntsAt wx g3 [7] ∧ Ext X2 wx)
   case first =>
    refine wp_region_Z (fun _ => false) (fun Y => Ext X2 Y) (by kernel_rfl) (Ext.refl X2).drew fun hSX => ?_
    refine tk 0 ⟨_, _, _, _, _, _⟩ ?_ rfl (by kernel_rfl) (fun _ _ _ h => h) (Or.inl ⟨by rfl, ?_⟩) hSX ?_
    rotate_left
    ·intro wX hS
     obtain ⟨q0, q1, q2, q3, q4, q5, q6, q7⟩ := HQ2.out wX hS
     go_simp
     (try with_reducible rfl)
    (try simp only [Act.put, List.setIfInBounds_toArray, List.set_cons_zero, List.set_cons_succ])
    refine wpAnyZ_two (i := 1) (j := 7) (oi := ⟨_, _, _, _, _, _⟩) (oj := ⟨_, _, _, _, _, _⟩) (by kernel_rfl) rfl rfl (fun K hK => ?_) (fun K hK => ?_)
    ·go_simp
     go_at_call 33
     refine (loss_any _).mono ?_
     rintro e ya ⟨la, lc, rfl, HL, Fyaa⟩
     have Fya : Ext X2 ya := Ext.comp hSX Fyaa
     refine hK _ _ (.inr Fya) (fun _ => ?_)
     clear hK
     (try simp only [Act.put, List.setIfInBounds_toArray, List.set_cons_zero, List.set_cons_succ])
     refine wpAnyZ_two (i := 2) (j := 7) (oi := ⟨_, _, _, _, _, _⟩) (oj := ⟨_, _, _, _, _, _⟩) (by kernel_rfl) rfl rfl (fun K hK => ?_) (fun K hK => ?_)
     ·go_simp
      go_at_call 12
      refine (AK.recover _ _ _ _ (HS2.out _ Fya) HL).mono ?_
      rintro e yb ⟨g1, g2, g3, n1, n2, d1, d2, d3, m2, m4, m5, m6, m7, rfl, i3, Fyba⟩
      have Fyb : Ext X2 yb := Ext.comp Fya Fyba
      refine hK _ _ (.inr Fyb) (fun _ => ?_)
      clear hK
      (try simp only [Act.put, List.setIfInBounds_toArray, List.set_cons_zero, List.set_cons_succ])
      refine tk 3 ⟨_, _, _, _, _, _⟩ ?_ rfl (by kernel_rfl) (fun _ _ _ h => h) (Or.inl ⟨by rfl, ?_⟩) Fyb ?_
      rotate_left
      ·intro wX hS
       go_simp
       (try with_reducible rfl)
      (try simp only [Act.put, List.setIfInBounds_toArray, List.set_cons_zero, List.set_cons_succ])
      refine tk 4 ⟨_, _, _, _, _, _⟩ ?_ rfl (by kernel_rfl) (fun _ _ _ h => h) (Or.inl ⟨by rfl, ?_⟩) Fyb ?_
      rotate_left
      ·intro wX hS
       go_simp
       (try with_reducible rfl)
      (try simp only [Act.put, List.setIfInBounds_toArray, List.set_cons_zero, List.set_cons_succ])
      refine tk 5 ⟨_, _, _, _, _, _⟩ ?_ rfl (by kernel_rfl) (fun _ _ _ h => h) (Or.inl ⟨by rfl, ?_⟩) Fyb ?_
      rotate_left
      ·intro wX hS
       go_simp
       (try with_reducible rfl)
      (try simp only [Act.put, List.setIfInBounds_toArray, List.set_cons_zero, List.set_cons_succ])
      refine tk 6 ⟨_, _, _, _, _, _⟩ ?_ rfl (by kernel_rfl) (fun _ _ _ h => h) (Or.inl ⟨by rfl, ?_⟩) Fyb ?_
      rotate_left
      ·intro wX hS
       go_simp
       (try with_reducible rfl)
      (try simp only [Act.put, List.setIfInBounds_toArray, List.set_cons_zero, List.set_cons_succ])
      refine wpAnyZ_one (i := 7) (o := ⟨_, _, _, _, _, _⟩) (by kernel_rfl) rfl (fun K hK => ?_)
      go_simp
      have FR := Ext.alloc (Ext.refl yb) (.cells #[.slice none 0 0, .slice none 0 0, .int .i64 0, .slice none 0 0, .int .i64 0, .int .i64 0, .int .i64 0, .int .i64 0] 24)
      have gA : (yb.alloc (.cells #[.slice none 0 0, .slice none 0 0, .int .i64 0, .slice none 0 0, .int .i64 0, .int .i64 0, .int .i64 0, .int .i64 0] 24)).heap[yb.heap.size]? = _ := heap_alloc_new yb (.cells #[.slice none 0 0, .slice none 0 0, .int .i64 0, .slice none 0 0, .int .i64 0, .int .i64 0, .int .i64 0, .int .i64 0] 24)
      have Fyc : Ext X2 ((yb.alloc (.cells #[.slice none 0 0, .slice none 0 0, .int .i64 0, .slice none 0 0, .int .i64 0, .int .i64 0, .int .i64 0, .int .i64 0] 24))) := Ext.alloc Fyb _
      have hDs0 : X2.heap.size ≤ yb.heap.size := (Fyb).size
      refine hK _ _ (.inr Fyc) (fun _ => ?_)
      clear hK
      (try simp only [Act.put, List.setIfInBounds_toArray, List.set_cons_zero, List.set_cons_succ])
      obtain ⟨D, hD⟩ : ∃ D, yb.heap.size = D := ⟨_, rfl⟩
      obtain ⟨yc, hyc⟩ : ∃ yc, (yb.alloc (.cells #[.slice none 0 0, .slice none 0 0, .int .i64 0, .slice none 0 0, .int .i64 0, .int .i64 0, .int .i64 0, .int .i64 0] 24)) = yc := ⟨_, rfl⟩
      rw [hD, hyc] at gA
      rw [hyc] at Fyc
      have hDs : X2.heap.size ≤ D := by omega
      clear hDs0
      rw [hD, hyc]
      rw [hyc] at FR
      have z0 := blk_cell gA 0 (v := .slice none 0 0) rfl
      have z1 := blk_cell gA 1 (v := .slice none 0 0) rfl
      have z2 := blk_cell gA 2 (v := .int .i64 0) rfl
      have z3 := blk_cell gA 3 (v := .slice none 0 0) rfl
      have z4 := blk_cell gA 4 (v := .int .i64 0) rfl
      have z5 := blk_cell gA 5 (v := .int .i64 0) rfl
      have z6 := blk_cell gA 6 (v := .int .i64 0) rfl
      have z7 := blk_cell gA 7 (v := .int .i64 0) rfl
      have zf0 := blk_free gA 0
      have zf1 := blk_free gA 1
      have zf2 := blk_free gA 2
      have zf3 := blk_free gA 3
      have zf4 := blk_free gA 4
      have zf5 := blk_free gA 5
      have zf6 := blk_free gA 6
      have zf7 := blk_free gA 7
      refine wpAnyZ_one (i := 8) (o := ⟨_, _, _, _, _, _⟩) (by kernel_rfl) rfl (fun K hK => ?_)
      go_simp
      have ES := ext_set8 Fyc hDs (.slice g1 n1 d1) (.slice g2 n2 d2) (.int .i64 m2) (.slice g3 1 d3) (.int .i64 m4) (.int .i64 m5) (.int .i64 m6) (.int .i64 m7)
      have KS := s8_kp (M := fun q => q = D) (w := yc) (b := D) (n0 := .slice g1 n1 d1) (n1 := .slice g2 n2 d2) (n2 := .int .i64 m2) (n3 := .slice g3 1 d3) (n4 := .int .i64 m4) (n5 := .int .i64 m5) (n6 := .int .i64 m6) (n7 := .int .i64 m7) rfl
      unfold S8 at KS
      have g2 := cells_set (cells_set (cells_set (cells_set (cells_set (cells_set (cells_set (cells_set gA 0 (.slice g1 n1 d1)) 1 (.slice g2 n2 d2)) 2 (.int .i64 m2)) 3 (.slice g3 1 d3)) 4 (.int .i64 m4)) 5 (.int .i64 m5)) 6 (.int .i64 m6)) 7 (.int .i64 m7)
      (try simp at g2)
      have j0 := ints_keepZ (i3.ext FR) (ints_farZ (i3.ext FR) gA zeros8 (.inr ⟨0, by decide, by decide⟩)) KS
      refine hK _ _ (.inr ES) (fun _ => ?_)
      clear hK
      (try simp only [Act.put, List.setIfInBounds_toArray, List.set_cons_zero, List.set_cons_succ])
      refine tk 9 ⟨_, _, _, _, _, _⟩ ?_ rfl (by kernel_rfl) (fun _ _ _ h => h) (Or.inl ⟨by rfl, ?_⟩) ES ?_
      rotate_left
      ·intro wX hS
       go_simp
       (try with_reducible rfl)
      (try simp only [Act.put, List.setIfInBounds_toArray, List.set_cons_zero, List.set_cons_succ])
      refine tk 10 ⟨_, _, _, _, _, _⟩ ?_ rfl (by kernel_rfl) (fun _ _ _ h => h) (Or.inl ⟨by rfl, ?_⟩) ES ?_
      rotate_left
      ·intro wX hS
       go_simp
       (try with_reducible rfl)
      (try simp only [Act.put, List.setIfInBounds_toArray, List.set_cons_zero, List.set_cons_succ])
      refine wpAnyZ_done (by kernel_rfl) ?_ _
      go_wp2_with fail
      go_meet
      exact ⟨rfl, rfl, D, g3, d3, rfl, lt_of_block g2, blk_cell g2 3 rfl, j0, ES⟩
     ·go_simp
      have HL2 := HL.ext (Ext.alloc (Ext.refl ya) (.cells #[.slice none 0 0, .slice none 0 0, .int .i64 0, .slice none 0 0, .int .i64 0, .int .i64 0, .int .i64 0, .int .i64 0] 24))
      have gA : (ya.alloc (.cells #[.slice none 0 0, .slice none 0 0, .int .i64 0, .slice none 0 0, .int .i64 0, .int .i64 0, .int .i64 0, .int .i64 0] 24)).heap[ya.heap.size]? = _ := heap_alloc_new ya (.cells #[.slice none 0 0, .slice none 0 0, .int .i64 0, .slice none 0 0, .int .i64 0, .int .i64 0, .int .i64 0, .int .i64 0] 24)
      have Fyb : Ext X2 ((ya.alloc (.cells #[.slice none 0 0, .slice none 0 0, .int .i64 0, .slice none 0 0, .int .i64 0, .int .i64 0, .int .i64 0, .int .i64 0] 24))) := Ext.alloc Fya _
      have hDs0 : X2.heap.size ≤ ya.heap.size := (Fya).size
      refine hK _ _ (.inr Fyb) (fun _ => ?_)
      clear hK
      (try simp only [Act.put, List.setIfInBounds_toArray, List.set_cons_zero, List.set_cons_succ])
      obtain ⟨D, hD⟩ : ∃ D, ya.heap.size = D := ⟨_, rfl⟩
      obtain ⟨yb, hyb⟩ : ∃ yb, (ya.alloc (.cells #[.slice none 0 0, .slice none 0 0, .int .i64 0, .slice none 0 0, .int .i64 0, .int .i64 0, .int .i64 0, .int .i64 0] 24)) = yb := ⟨_, rfl⟩
      rw [hD, hyb] at gA
      rw [hyb] at Fyb
      have hDs : X2.heap.size ≤ D := by omega
      clear hDs0
      rw [hD, hyb]
      rw [hyb] at HL2
      refine wpAnyZ_one (i := 2) (o := ⟨_, _, _, _, _, _⟩) (by kernel_rfl) rfl (fun K hK => ?_)
      go_simp
      go_at_call 12
      refine (AK.recover _ _ _ _ (HS2.out _ Fyb) HL2).mono ?_
      rintro e yc ⟨g1, g2, g3, n1, n2, d1, d2, d3, m2, m4, m5, m6, m7, rfl, i3, Fyca⟩
      have Fyc : Ext X2 yc := Ext.comp Fyb Fyca
      refine hK _ _ (.inr Fyc) (fun _ => ?_)
      clear hK
      (try simp only [Act.put, List.setIfInBounds_toArray, List.set_cons_zero, List.set_cons_succ])
      refine tk 3 ⟨_, _, _, _, _, _⟩ ?_ rfl (by kernel_rfl) (fun _ _ _ h => h) (Or.inl ⟨by rfl, ?_⟩) Fyc ?_
      rotate_left
      ·intro wX hS
       go_simp
       (try with_reducible rfl)
      (try simp only [Act.put, List.setIfInBounds_toArray, List.set_cons_zero, List.set_cons_succ])
      refine tk 4 ⟨_, _, _, _, _, _⟩ ?_ rfl (by kernel_rfl) (fun _ _ _ h => h) (Or.inl ⟨by rfl, ?_⟩) Fyc ?_
      rotate_left
      ·intro wX hS
       go_simp
       (try with_reducible rfl)
      (try simp only [Act.put, List.setIfInBounds_toArray, List.set_cons_zero, List.set_cons_succ])
      refine tk 5 ⟨_, _, _, _, _, _⟩ ?_ rfl (by kernel_rfl) (fun _ _ _ h => h) (Or.inl ⟨by rfl, ?_⟩) Fyc ?_
      rotate_left
      ·intro wX hS
       go_simp
       (try with_reducible rfl)
      (try simp only [Act.put, List.setIfInBounds_toArray, List.set_cons_zero, List.set_cons_succ])
      refine tk 6 ⟨_, _, _, _, _, _⟩ ?_ rfl (by kernel_rfl) (fun _ _ _ h => h) (Or.inl ⟨by rfl, ?_⟩) Fyc ?_
      rotate_left
      ·intro wX hS
       go_simp
       (try with_reducible rfl)
      (try simp only [Act.put, List.setIfInBounds_toArray, List.set_cons_zero, List.set_cons_succ])
      have gA := ((Fyca).block D (lt_of_block gA)).trans gA
      have FR := Ext.refl yc
      have z0 := blk_cell gA 0 (v := .slice none 0 0) rfl
      have z1 := blk_cell gA 1 (v := .slice none 0 0) rfl
      have z2 := blk_cell gA 2 (v := .int .i64 0) rfl
      have z3 := blk_cell gA 3 (v := .slice none 0 0) rfl
      have z4 := blk_cell gA 4 (v := .int .i64 0) rfl
      have z5 := blk_cell gA 5 (v := .int .i64 0) rfl
      have z6 := blk_cell gA 6 (v := .int .i64 0) rfl
      have z7 := blk_cell gA 7 (v := .int .i64 0) rfl
      have zf0 := blk_free gA 0
      have zf1 := blk_free gA 1
      have zf2 := blk_free gA 2
      have zf3 := blk_free gA 3
      have zf4 := blk_free gA 4
      have zf5 := blk_free gA 5
      have zf6 := blk_free gA 6
      have zf7 := blk_free gA 7
      refine wpAnyZ_one (i := 8) (o := ⟨_, _, _, _, _, _⟩) (by kernel_rfl) rfl (fun K hK => ?_)
      go_simp
      have ES := ext_set8 Fyc hDs (.slice g1 n1 d1) (.slice g2 n2 d2) (.int .i64 m2) (.slice g3 1 d3) (.int .i64 m4) (.int .i64 m5) (.int .i64 m6) (.int .i64 m7)
      have KS := s8_kp (M := fun q => q = D) (w := yc) (b := D) (n0 := .slice g1 n1 d1) (n1 := .slice g2 n2 d2) (n2 := .int .i64 m2) (n3 := .slice g3 1 d3) (n4 := .int .i64 m4) (n5 := .int .i64 m5) (n6 := .int .i64 m6) (n7 := .int .i64 m7) rfl
      unfold S8 at KS
      have g2 := cells_set (cells_set (cells_set (cells_set (cells_set (cells_set (cells_set (cells_set gA 0 (.slice g1 n1 d1)) 1 (.slice g2 n2 d2)) 2 (.int .i64 m2)) 3 (.slice g3 1 d3)) 4 (.int .i64 m4)) 5 (.int .i64 m5)) 6 (.int .i64 m6)) 7 (.int .i64 m7)
      (try simp at g2)
      have j0 := ints_keepZ (i3.ext FR) (ints_farZ (i3.ext FR) gA zeros8 (.inr ⟨0, by decide, by decide⟩)) KS
      refine hK _ _ (.inr ES) (fun _ => ?_)
      clear hK
      (try simp only [Act.put, List.setIfInBounds_toArray, List.set_cons_zero, List.set_cons_succ])
      refine tk 9 ⟨_, _, _, _, _, _⟩ ?_ rfl (by kernel_rfl) (fun _ _ _ h => h) (Or.inl ⟨by rfl, ?_⟩) ES ?_
      rotate_left
      ·intro wX hS
       go_simp
       (try with_reducible rfl)
      (try simp only [Act.put, List.setIfInBounds_toArray, List.set_cons_zero, List.set_cons_succ])
      refine tk 10 ⟨_, _, _, _, _, _⟩ ?_ rfl (by kernel_rfl) (fun _ _ _ h => h) (Or.inl ⟨by rfl, ?_⟩) ES ?_
      rotate_left
      ·intro wX hS
       go_simp
       (try with_reducible rfl)
      (try simp only [Act.put, List.setIfInBounds_toArray, List.set_cons_zero, List.set_cons_succ])
      refine wpAnyZ_done (by kernel_rfl) ?_ _
      go_wp2_with fail
      go_meet
      exact ⟨rfl, rfl, D, g3, d3, rfl, lt_of_block g2, blk_cell g2 3 rfl, j0, ES⟩
    ·go_simp
     have gA : (X2.alloc (.cells #[.slice none 0 0, .slice none 0 0, .int .i64 0, .slice none 0 0, .int .i64 0, .int .i64 0, .int .i64 0, .int .i64 0] 24)).drew.heap[X2.heap.size]? = _ := heap_alloc_new X2 (.cells #[.slice none 0 0, .slice none 0 0, .int .i64 0, .slice none 0 0, .int .i64 0, .int .i64 0, .int .i64 0, .int .i64 0] 24)
     have Fyn : Ext X2 ((X2.alloc (.cells #[.slice none 0 0, .slice none 0 0, .int .i64 0, .slice none 0 0, .int .i64 0, .int .i64 0, .int .i64 0, .int .i64 0] 24)).drew) := (Ext.alloc (Ext.refl X2) _).drew
     have hDs0 : X2.heap.size ≤ X2.heap.size := ((Ext.refl X2)).size
     refine hK _ _ (.inr Fyn) (fun _ => ?_)
     clear hK
     (try simp only [Act.put, List.setIfInBounds_toArray, List.set_cons_zero, List.set_cons_succ])
     obtain ⟨D, hD⟩ : ∃ D, X2.heap.size = D := ⟨_, rfl⟩
     obtain ⟨yn, hyn⟩ : ∃ yn, (X2.alloc (.cells #[.slice none 0 0, .slice none 0 0, .int .i64 0, .slice none 0 0, .int .i64 0, .int .i64 0, .int .i64 0, .int .i64 0] 24)).drew = yn := ⟨_, rfl⟩
     rw [hD, hyn] at gA
     rw [hyn] at Fyn
     have hDs : X2.heap.size ≤ D := by omega
     clear hDs0
     rw [hD, hyn]
     refine wpAnyZ_one (i := 1) (o := ⟨_, _, _, _, _, _⟩) (by kernel_rfl) rfl (fun K hK => ?_)
     go_simp
     go_at_call 33
     refine (loss_any _).mono ?_
     rintro e ya ⟨la, lc, rfl, HL, Fyaa⟩
     have Fya : Ext X2 ya := Ext.comp Fyn Fyaa
     refine hK _ _ (.inr Fya) (fun _ => ?_)
     clear hK
     (try simp only [Act.put, List.setIfInBounds_toArray, List.set_cons_zero, List.set_cons_succ])
     have gA := ((Fyaa).block D (lt_of_block gA)).trans gA
     refine wpAnyZ_one (i := 2) (o := ⟨_, _, _, _, _, _⟩) (by kernel_rfl) rfl (fun K hK => ?_)
     go_simp
     go_at_call 12
     refine (AK.recover _ _ _ _ (HS2.out _ Fya) HL).mono ?_
     rintro e yb ⟨g1, g2, g3, n1, n2, d1, d2, d3, m2, m4, m5, m6, m7, rfl, i3, Fyba⟩
     have Fyb : Ext X2 yb := Ext.comp Fya Fyba
     refine hK _ _ (.inr Fyb) (fun _ => ?_)
     clear hK
     (try simp only [Act.put, List.setIfInBounds_toArray, List.set_cons_zero, List.set_cons_succ])
     refine tk 3 ⟨_, _, _, _, _, _⟩ ?_ rfl (by kernel_rfl) (fun _ _ _ h => h) (Or.inl ⟨by rfl, ?_⟩) Fyb ?_
     rotate_left
     ·intro wX hS
      go_simp
      (try with_reducible rfl)
     (try simp only [Act.put, List.setIfInBounds_toArray, List.set_cons_zero, List.set_cons_succ])
     refine tk 4 ⟨_, _, _, _, _, _⟩ ?_ rfl (by kernel_rfl) (fun _ _ _ h => h) (Or.inl ⟨by rfl, ?_⟩) Fyb ?_
     rotate_left
     ·intro wX hS
      go_simp
      (try with_reducible rfl)
     (try simp only [Act.put, List.setIfInBounds_toArray, List.set_cons_zero, List.set_cons_succ])
     refine tk 5 ⟨_, _, _, _, _, _⟩ ?_ rfl (by kernel_rfl) (fun _ _ _ h => h) (Or.inl ⟨by rfl, ?_⟩) Fyb ?_
     rotate_left
     ·intro wX hS
      go_simp
      (try with_reducible rfl)
     (try simp only [Act.put, List.setIfInBounds_toArray, List.set_cons_zero, List.set_cons_succ])
     refine tk 6 ⟨_, _, _, _, _, _⟩ ?_ rfl (by kernel_rfl) (fun _ _ _ h => h) (Or.inl ⟨by rfl, ?_⟩) Fyb ?_
     rotate_left
     ·intro wX hS
      go_simp
      (try with_reducible rfl)
     (try simp only [Act.put, List.setIfInBounds_toArray, List.set_cons_zero, List.set_cons_succ])
     have gA := ((Fyba).block D (lt_of_block gA)).trans gA
     have FR := Ext.refl yb
     have z0 := blk_cell gA 0 (v := .slice none 0 0) rfl
     have z1 := blk_cell gA 1 (v := .slice none 0 0) rfl
     have z2 := blk_cell gA 2 (v := .int .i64 0) rfl
     have z3 := blk_cell gA 3 (v := .slice none 0 0) rfl
     have z4 := blk_cell gA 4 (v := .int .i64 0) rfl
     have z5 := blk_cell gA 5 (v := .int .i64 0) rfl
     have z6 := blk_cell gA 6 (v := .int .i64 0) rfl
     have z7 := blk_cell gA 7 (v := .int .i64 0) rfl
     have zf0 := blk_free gA 0
     have zf1 := blk_free gA 1
     have zf2 := blk_free gA 2
     have zf3 := blk_free gA 3
     have zf4 := blk_free gA 4
     have zf5 := blk_free gA 5
     have zf6 := blk_free gA 6
     have zf7 := blk_free gA 7
     refine wpAnyZ_one (i := 8) (o := ⟨_, _, _, _, _, _⟩) (by kernel_rfl) rfl (fun K hK => ?_)
     go_simp
     have ES := ext_set8 Fyb hDs (.slice g1 n1 d1) (.slice g2 n2 d2) (.int .i64 m2) (.slice g3 1 d3) (.int .i64 m4) (.int .i64 m5) (.int .i64 m6) (.int .i64 m7)
     have KS := s8_kp (M := fun q => q = D) (w := yb) (b := D) (n0 := .slice g1 n1 d1) (n1 := .slice g2 n2 d2) (n2 := .int .i64 m2) (n3 := .slice g3 1 d3) (n4 := .int .i64 m4) (n5 := .int .i64 m5) (n6 := .int .i64 m6) (n7 := .int .i64 m7) rfl
     unfold S8 at KS
     have g2 := cells_set (cells_set (cells_set (cells_set (cells_set (cells_set (cells_set (cells_set gA 0 (.slice g1 n1 d1)) 1 (.slice g2 n2 d2)) 2 (.int .i64 m2)) 3 (.slice g3 1 d3)) 4 (.int .i64 m4)) 5 (.int .i64 m5)) 6 (.int .i64 m6)) 7 (.int .i64 m7)
     (try simp at g2)
     have j0 := ints_keepZ (i3.ext FR) (ints_farZ (i3.ext FR) gA zeros8 (.inr ⟨0, by decide, by decide⟩)) KS
     refine hK _ _ (.inr ES) (fun _ => ?_)
     clear hK
     (try simp only [Act.put, List.setIfInBounds_toArray, List.set_cons_zero, List.set_cons_succ])
     refine tk 9 ⟨_, _, _, _, _, _⟩ ?_ rfl (by kernel_rfl) (fun _ _ _ h => h) (Or.inl ⟨by rfl, ?_⟩) ES ?_
     rotate_left
     ·intro wX hS
      go_simp
      (try with_reducible rfl)
     (try simp only [Act.put, List.setIfInBounds_toArray, List.set_cons_zero, List.set_cons_succ])
     refine tk 10 ⟨_, _, _, _, _, _⟩ ?_ rfl (by kernel_rfl) (fun _ _ _ h => h) (Or.inl ⟨by rfl, ?_⟩) ES ?_
     rotate_left
     ·intro wX hS
      go_simp
      (try with_reducible rfl)
     (try simp only [Act.put, List.setIfInBounds_toArray, List.set_cons_zero, List.set_cons_succ])
     refine wpAnyZ_done (by kernel_rfl) ?_ _
     go_wp2_with fail
     go_meet
     exact ⟨rfl, rfl, D, g3, d3, rfl, lt_of_block g2, blk_cell g2 3 rfl, j0, ES⟩
   case rest =>
    obtain ⟨rfl, rfl, D3, pz, dz, rfl, hD3, hc3, hi3, FC3⟩ := hcut
    obtain ⟨X3, rfl⟩ : ∃ q : World, q = wc := ⟨_, rfl⟩
    have HS3 := Lib.hid (fun Y (E : Ext X3 Y) => HS2.out Y (FC3.comp E))
    have HQ3 := Lib.hid (fun Y (E : Ext X3 Y) => HQ2.out Y (FC3.comp E))
    have HC3 := Lib.hid (And.intro hD3 (And.intro hc3 hi3))
    clear hD3 hc3 hi3
    have FX3 : Hid (Ext X X3) := Lib.hid (FC1.comp (FC2.comp FC3))
    clear FC1
    obtain ⟨q0, q1, q2, q3, q4, q5, q6, q7⟩ := HQ3.out X3 (Ext.refl X3)
    go_wp2_with fail
    refine (AK.dump _ _ (HS3.out X3 (Ext.refl X3))).mono ?_
    rintro e Y1 ⟨rs, da, dn, dc, rfl, hdn, hdc, hdb, G1, hre⟩
    clear q0 q1 q2 q3 q4 q5 q6 q7
    go_wp2_with fail
    refine (hre _ hdb).mono ?_
    rintro e Y2 ⟨vt, rfl, ⟨t1, t2, t3, l1, l2, l3, rfl, J1, J2, J3⟩, G2⟩
    clear hre hdb
    have GT := fun ob => (Ext.refl Y2).alloc ob
    have G3 : Ext X3 Y2 := G1.comp G2
    have HQA := fun ob => HQ3.out _ (G3.alloc ob)
    have q0 := fun ob => (HQA ob).1
    have q1 := fun ob => (HQA ob).2.1
    have q2 := fun ob => (HQA ob).2.2.1
    have q3 := fun ob => (HQA ob).2.2.2.1
    have q4 := fun ob => (HQA ob).2.2.2.2.1
    have q5 := fun ob => (HQA ob).2.2.2.2.2.1
    have q6 := fun ob => (HQA ob).2.2.2.2.2.2.1
    have q7 := fun ob => (HQA ob).2.2.2.2.2.2.2
    go_wp2_with fail
    refine (AK.until_ _ _ (HS3.out _ (G3.alloc _))).mono ?_
    rintro e Y3 ⟨u1, u2, u3, un1, un2, un3, uc1, uc2, uc3, um2, um5, um6, um7, rfl, G4⟩
    clear q0 q1 q2 q3 q4 q5 q6 q7 HQA
    have BT := (G4.block Y2.heap.size (by simp)).trans (heap_alloc_new Y2 _)
    have G34 : Ext X3 Y3 := G3.comp G4.old
    have HT := Lib.hid (And.intro BT (show StAt Y3 (sv t1 t2 t3 s.store.length l1 s.tape.length l2 s.printed.length l3 s.taken s.time s.at_ s.done s.why) s from ⟨t1, t2, t3, l1, l2, l3, rfl, J1.ext G4.old, J2.ext G4.old, J3.ext G4.old⟩))
    clear BT J1 J2 J3 G4
    go_upto_region 14 with fail
    obtain ⟨XE, hXE⟩ : ∃ XE, Y3.alloc (.cells #[.slice u1 un1 uc1, .slice u2 un2 uc2, .int .i64 um2, .slice u3 un3 uc3, .int .i64 26, .int .i64 um5, .int .i64 um6, .int .i64 um7] 24) = XE := ⟨_, rfl⟩
    have UB := heap_alloc_new Y3 (.cells #[.slice u1 un1 uc1, .slice u2 un2 uc2, .int .i64 um2, .slice u3 un3 uc3, .int .i64 26, .int .i64 um5, .int .i64 um6, .int .i64 um7] 24)
    have EE := Ext.alloc (Ext.refl Y3) (.cells #[.slice u1 un1 uc1, .slice u2 un2 uc2, .int .i64 um2, .slice u3 un3 uc3, .int .i64 26, .int .i64 um5, .int .i64 um6, .int .i64 um7] 24)
    rw [hXE] at UB EE
    obtain ⟨uD, huD⟩ : ∃ uD, Y3.heap.size = uD := ⟨_, rfl⟩
    rw [huD] at UB
    rw [hXE, huD]
    have G3E : Ext X3 XE := G34.comp EE
    have GXE : Ext X XE := FX3.out.comp G3E
    obtain ⟨tD, htD⟩ : ∃ tD, Y2.heap.size = tD := ⟨_, rfl⟩
    rw [htD] at HT ⊢
    have hcv0 := fun Y (E : Ext XE Y) => conv_rows (c := bc) (HB.out.ext (GXE.comp E)) hlen hbd
    obtain ⟨SU, hSU⟩ : ∃ SU, strU (natI tp) = SU := ⟨_, rfl⟩
    rw [hSU] at hcv0
    have HCV := Lib.hid hcv0
    have HSU := Lib.hid hSU
    clear hcv0 hSU
    have HRX := Lib.hid (And.intro (HR.out.1.ext GXE) (HR.out.2.ext GXE))
    have HIX := Lib.hid (And.intro (HC2.out.2.2.ext (FC3.comp G3E)) (HC3.out.2.2.ext G3E))
    have HCX := Lib.hid (And.intro (fun Y (E : Ext XE Y) => ((FC2.comp (FC3.comp (G3E.comp E))).cell (p := ⟨D1, 6, none⟩) HC1.out.1).trans HC1.out.2) (And.intro (fun Y (E : Ext XE Y) => ((FC3.comp (G3E.comp E)).cell (p := ⟨D2, 3, none⟩) HC2.out.1).trans HC2.out.2.1) (And.intro (fun Y (E : Ext XE Y) => ((G3E.comp E).cell (p := ⟨D3, 3, none⟩) HC3.out.1).trans HC3.out.2.1) (fun Y (E : Ext XE Y) => blk_cell ((E.block uD (lt_of_block UB)).trans UB) 4 (v := .int .i64 26) rfl))))
    have HQX := Lib.hid (fun Y (E : Ext XE Y) => HQ3.out Y (G3E.comp E))
    have HTX := Lib.hid (fun Y (E : Ext XE Y) => have gb := ((EE.comp E).block tD (lt_of_block HT.out.1)).trans HT.out.1; And.intro (blk_cell gb 0 (v := .slice t1 s.store.length l1) rfl) (And.intro (blk_cell gb 1 (v := .slice t2 s.tape.length l2) rfl) (And.intro (blk_cell gb 2 (v := .int .i64 s.taken) rfl) (And.intro (blk_cell gb 3 (v := .slice t3 s.printed.length l3) rfl) (And.intro (blk_cell gb 4 (v := .int .i64 s.time) rfl) (And.intro (blk_cell gb 5 (v := .int .i64 s.at_) rfl) (And.intro (blk_cell gb 6 (v := .int .i64 s.done) rfl) (blk_cell gb 7 (v := .int .i64 s.why) rfl))))))))
    have HSX := Lib.hid (And.intro (fun Y (E : Ext XE Y) => HS3.out Y (G3E.comp E)) (fun Y (E : Ext XE Y) => HT.out.2.ext (EE.comp E)))
    have HEX := Lib.hid (HE.out.comp GXE)
    clear HS HS1 HS2 HS3 HQ HQ1 HQ2 HQ3 HB HR HC1 HC2 HC3 HE FX3 HT FC2 FC3 G1 G2 G3 G34 G3E GXE EE UB hXE huD htD GT
    simp only [List.append]
    refine wp_region_Z (fun _ => false) (fun Y => Ext XE Y) (by kernel_rfl) (Ext.refl XE).drew fun hSX => ?_
    as_aux_lemma =>
    refine tk 0 ⟨_, _, _, _, _, _⟩ ?_ rfl (by kernel_rfl) (fun _ _ _ h => h) (Or.inl ⟨by rfl, ?_⟩) hSX ?_
    rotate_left
    ·intro wX hS
     go_simp
     (try with_reducible rfl)
    (try simp only [Act.put, List.setIfInBounds_toArray, List.set_cons_zero, List.set_cons_succ])
    refine tk 1 ⟨_, _, _, _, _, _⟩ ?_ rfl (by kernel_rfl) (fun _ _ _ h => h) (Or.inl ⟨by rfl, ?_⟩) hSX ?_
    rotate_left
    ·intro wX hS
     go_simp
     (try with_reducible rfl)
    (try simp only [Act.put, List.setIfInBounds_toArray, List.set_cons_zero, List.set_cons_succ])
    refine tk 2 ⟨_, _, _, _, _, _⟩ ?_ rfl (by kernel_rfl) (fun _ _ _ h => h) (Or.inl ⟨by rfl, ?_⟩) hSX ?_
    rotate_left
    ·intro wX hS
     go_simp
     (try with_reducible rfl)
    (try simp only [Act.put, List.setIfInBounds_toArray, List.set_cons_zero, List.set_cons_succ])
    refine tk 3 ⟨_, _, _, _, _, _⟩ ?_ rfl (by kernel_rfl) (fun _ _ _ h => h) (Or.inl ⟨by rfl, ?_⟩) hSX ?_
    rotate_left
    ·intro wX hS
     go_simp
     (try with_reducible rfl)
    (try simp only [Act.put, List.setIfInBounds_toArray, List.set_cons_zero, List.set_cons_succ])
    refine tk 4 ⟨_, _, _, _, _, _⟩ ?_ rfl (by kernel_rfl) (fun _ _ _ h => h) (Or.inl ⟨by rfl, ?_⟩) hSX ?_
    rotate_left
    ·intro wX hS
     go_simp
     (try with_reducible rfl)
    (try simp only [Act.put, List.setIfInBounds_toArray, List.set_cons_zero, List.set_cons_succ])
    refine tk 5 ⟨_, _, _, _, _, _⟩ ?_ rfl (by kernel_rfl) (fun _ _ _ h => h) (Or.inl ⟨by rfl, ?_⟩) hSX ?_
    rotate_left
    ·intro wX hS
     go_simp
     (try with_reducible rfl)
    (try simp only [Act.put, List.setIfInBounds_toArray, List.set_cons_zero, List.set_cons_succ])
    refine tk 6 ⟨_, _, _, _, _, _⟩ ?_ rfl (by kernel_rfl) (fun _ _ _ h => h) (Or.inl ⟨by rfl, ?_⟩) hSX ?_
    rotate_left
    ·intro wX hS
     go_simp
     (try with_reducible rfl)
    (try simp only [Act.put, List.setIfInBounds_toArray, List.set_cons_zero, List.set_cons_succ])
    refine tk 7 ⟨_, _, _, _, _, _⟩ ?_ rfl (by kernel_rfl) (fun _ _ _ h => h) (Or.inl ⟨by rfl, ?_⟩) hSX ?_
    rotate_left
    ·intro wX hS
     go_simp
     (try with_reducible rfl)
    (try simp only [Act.put, List.setIfInBounds_toArray, List.set_cons_zero, List.set_cons_succ])
    refine tk 8 ⟨_, _, _, _, _, _⟩ ?_ rfl (by kernel_rfl) (fun _ _ _ h => h) (Or.inl ⟨by rfl, ?_⟩) hSX ?_
    rotate_left
    ·intro wX hS
     go_simp
     (try with_reducible rfl)
    (try simp only [Act.put, List.setIfInBounds_toArray, List.set_cons_zero, List.set_cons_succ])
    refine tk 9 ⟨_, _, _, _, _, _⟩ ?_ rfl (by kernel_rfl) (fun _ _ _ h => h) (Or.inl ⟨by rfl, ?_⟩) hSX ?_
    rotate_left
    ·intro wX hS
     go_simp
     (try with_reducible rfl)
    (try simp only [Act.put, List.setIfInBounds_toArray, List.set_cons_zero, List.set_cons_succ])
    refine tk 10 ⟨_, _, _, _, _, _⟩ ?_ rfl (by kernel_rfl) (fun _ _ _ h => h) (Or.inl ⟨by rfl, ?_⟩) hSX ?_
    rotate_left
    ·intro wX hS
     go_simp
     (try with_reducible rfl)
    (try simp only [Act.put, List.setIfInBounds_toArray, List.set_cons_zero, List.set_cons_succ])
    refine tk 11 ⟨_, _, _, _, _, _⟩ ?_ rfl (by kernel_rfl) (fun _ _ _ h => h) (Or.inl ⟨by rfl, ?_⟩) hSX ?_
    rotate_left
    ·intro wX hS
     go_simp
     (try with_reducible rfl)
    (try simp only [Act.put, List.setIfInBounds_toArray, List.set_cons_zero, List.set_cons_succ])
    refine tk 12 ⟨_, _, _, _, _, _⟩ ?_ rfl (by kernel_rfl) (fun _ _ _ h => h) (Or.inl ⟨by rfl, ?_⟩) hSX ?_
    rotate_left
    ·intro wX hS
     go_simp
     (try with_reducible rfl)
    (try simp only [Act.put, List.setIfInBounds_toArray, List.set_cons_zero, List.set_cons_succ])
    refine tk 13 ⟨_, _, _, _, _, _⟩ ?_ rfl (by kernel_rfl) (fun _ _ _ h => h) (Or.inl ⟨by rfl, ?_⟩) hSX ?_
    rotate_left
    ·intro wX hS
     go_simp
     (try with_reducible rfl)
    (try simp only [Act.put, List.setIfInBounds_toArray, List.set_cons_zero, List.set_cons_succ])
    refine tk 14 ⟨_, _, _, _, _, _⟩ ?_ rfl (by kernel_rfl) (fun _ _ _ h => h) (Or.inl ⟨by rfl, ?_⟩) hSX ?_
    rotate_left
    ·intro wX hS
     go_simp
     (try with_reducible rfl)
    (try simp only [Act.put, List.setIfInBounds_toArray, List.set_cons_zero, List.set_cons_succ])
    refine tk 15 ⟨_, _, _, _, _, _⟩ ?_ rfl (by kernel_rfl) (fun _ _ _ h => h) (Or.inl ⟨by rfl, ?_⟩) hSX ?_
    rotate_left
    ·intro wX hS
     go_simp
     (try with_reducible rfl)
    (try simp only [Act.put, List.setIfInBounds_toArray, List.set_cons_zero, List.set_cons_succ])
    refine tk 16 ⟨_, _, _, _, _, _⟩ ?_ rfl (by kernel_rfl) (fun _ _ _ h => h) (Or.inl ⟨by rfl, ?_⟩) hSX ?_
    rotate_left
    ·intro wX hS
     go_simp
     (try with_reducible rfl)
    (try simp only [Act.put, List.setIfInBounds_toArray, List.set_cons_zero, List.set_cons_succ])
    refine tk 17 ⟨_, _, _, _, _, _⟩ ?_ rfl (by kernel_rfl) (fun _ _ _ h => h) (Or.inl ⟨by rfl, ?_⟩) hSX ?_
    rotate_left
    ·intro wX hS
     go_simp
     (try with_reducible rfl)
    (try simp only [Act.put, List.setIfInBounds_toArray, List.set_cons_zero, List.set_cons_succ])
    as_aux_lemma =>
    refine tk 18 ⟨_, _, _, _, _, _⟩ ?_ rfl (by kernel_rfl) (fun _ _ _ h => h) (Or.inl ⟨by rfl, ?_⟩) hSX ?_
    rotate_left
    ·intro wX hS
     go_simp
     (try with_reducible rfl)
    (try simp only [Act.put, List.setIfInBounds_toArray, List.set_cons_zero, List.set_cons_succ])
    refine tk 19 ⟨_, _, _, _, _, _⟩ ?_ rfl (by kernel_rfl) (fun _ _ _ h => h) (Or.inl ⟨by rfl, ?_⟩) hSX ?_
    rotate_left
    ·intro wX hS
     go_simp
     (try with_reducible rfl)
    (try simp only [Act.put, List.setIfInBounds_toArray, List.set_cons_zero, List.set_cons_succ])
    refine tk 20 ⟨_, _, _, _, _, _⟩ ?_ rfl (by kernel_rfl) (fun _ _ _ h => h) (Or.inl ⟨by rfl, ?_⟩) hSX ?_
    rotate_left
    ·intro wX hS
     go_simp
     (try with_reducible rfl)
    (try simp only [Act.put, List.setIfInBounds_toArray, List.set_cons_zero, List.set_cons_succ])
    refine tk 21 ⟨_, _, _, _, _, _⟩ ?_ rfl (by kernel_rfl) (fun _ _ _ h => h) (Or.inl ⟨by rfl, ?_⟩) hSX ?_
    rotate_left
    ·intro wX hS
     go_simp
     (try with_reducible rfl)
    (try simp only [Act.put, List.setIfInBounds_toArray, List.set_cons_zero, List.set_cons_succ])
    refine tk 22 ⟨_, _, _, _, _, _⟩ ?_ rfl (by kernel_rfl) (fun _ _ _ h => h) (Or.inl ⟨by rfl, ?_⟩) hSX ?_
    rotate_left
    ·intro wX hS
     go_simp
     (try with_reducible rfl)
    (try simp only [Act.put, List.setIfInBounds_toArray, List.set_cons_zero, List.set_cons_succ])
    refine tk 23 ⟨_, _, _, _, _, _⟩ ?_ rfl (by kernel_rfl) (fun _ _ _ h => h) (Or.inl ⟨by rfl, ?_⟩) hSX ?_
    rotate_left
    ·intro wX hS
     go_simp
     (try with_reducible rfl)
    (try simp only [Act.put, List.setIfInBounds_toArray, List.set_cons_zero, List.set_cons_succ])
    refine tk 24 ⟨_, _, _, _, _, _⟩ ?_ rfl (by kernel_rfl) (fun _ _ _ h => h) (Or.inl ⟨by rfl, ?_⟩) hSX ?_
    rotate_left
    ·intro wX hS
     go_simp
     (try with_reducible rfl)
    (try simp only [Act.put, List.setIfInBounds_toArray, List.set_cons_zero, List.set_cons_succ])
    refine tk 25 ⟨_, _, _, _, _, _⟩ ?_ rfl (by kernel_rfl) (fun _ _ _ h => h) (Or.inl ⟨by rfl, ?_⟩) hSX ?_
    rotate_left
    ·intro wX hS
     go_simp
     (try with_reducible rfl)
    (try simp only [Act.put, List.setIfInBounds_toArray, List.set_cons_zero, List.set_cons_succ])
    refine tk 26 ⟨_, _, _, _, _, _⟩ ?_ rfl (by kernel_rfl) (fun _ _ _ h => h) (Or.inl ⟨by rfl, ?_⟩) hSX ?_
    rotate_left
    ·intro wX hS
     go_simp
     (try with_reducible rfl)
    (try simp only [Act.put, List.setIfInBounds_toArray, List.set_cons_zero, List.set_cons_succ])
    refine tk 27 ⟨_, _, _, _, _, _⟩ ?_ rfl (by kernel_rfl) (fun _ _ _ h => h) (Or.inl ⟨by rfl, ?_⟩) hSX ?_
    rotate_left
    ·intro wX hS
     go_simp
     (try with_reducible rfl)
    (try simp only [Act.put, List.setIfInBounds_toArray, List.set_cons_zero, List.set_cons_succ])
    refine tk 28 ⟨_, _, _, _, _, _⟩ ?_ rfl (by kernel_rfl) (fun _ _ _ h => h) (Or.inl ⟨by rfl, ?_⟩) hSX ?_
    rotate_left
    ·intro wX hS
     go_simp
     (try with_reducible rfl)
    (try simp only [Act.put, List.setIfInBounds_toArray, List.set_cons_zero, List.set_cons_succ])
    refine tk 29 ⟨_, _, _, _, _, _⟩ ?_ rfl (by kernel_rfl) (fun _ _ _ h => h) (Or.inl ⟨by rfl, ?_⟩) hSX ?_
    rotate_left
    ·intro wX hS
     go_simp
     (try with_reducible rfl)
    (try simp only [Act.put, List.setIfInBounds_toArray, List.set_cons_zero, List.set_cons_succ])
    refine tk 30 ⟨_, _, _, _, _, _⟩ ?_ rfl (by kernel_rfl) (fun _ _ _ h => h) (Or.inl ⟨by rfl, ?_⟩) hSX ?_
    rotate_left
    ·intro wX hS
     go_simp
     (try with_reducible rfl)
    (try simp only [Act.put, List.setIfInBounds_toArray, List.set_cons_zero, List.set_cons_succ])
    refine tk 31 ⟨_, _, _, _, _, _⟩ ?_ rfl (by kernel_rfl) (fun _ _ _ h => h) (Or.inl ⟨by rfl, ?_⟩) hSX ?_
    rotate_left
    ·intro wX hS
     go_simp
     (try with_reducible rfl)
    (try simp only [Act.put, List.setIfInBounds_toArray, List.set_cons_zero, List.set_cons_succ])
    refine tk 32 ⟨_, _, _, _, _, _⟩ ?_ rfl (by kernel_rfl) (fun _ _ _ h => h) (Or.inl ⟨by rfl, ?_⟩) hSX ?_
    rotate_left
    ·intro wX hS
     go_simp
     (try with_reducible rfl)
    (try simp only [Act.put, List.setIfInBounds_toArray, List.set_cons_zero, List.set_cons_succ])
    refine tk 33 ⟨_, _, _, _, _, _⟩ ?_ rfl (by kernel_rfl) (fun _ _ _ h => h) (Or.inl ⟨by rfl, ?_⟩) hSX ?_
    rotate_left
    ·intro wX hS
     go_simp
     (try with_reducible rfl)
    (try simp only [Act.put, List.setIfInBounds_toArray, List.set_cons_zero, List.set_cons_succ])
    refine tk 34 ⟨_, _, _, _, _, _⟩ ?_ rfl (by kernel_rfl) (fun _ _ _ h => h) (Or.inl ⟨by rfl, ?_⟩) hSX ?_
    rotate_left
    ·intro wX hS
     go_simp
     (try with_reducible rfl)
    (try simp only [Act.put, List.setIfInBounds_toArray, List.set_cons_zero, List.set_cons_succ])
    refine tk 35 ⟨_, _, _, _, _, _⟩ ?_ rfl (by kernel_rfl) (fun _ _ _ h => h) (Or.inl ⟨by rfl, ?_⟩) hSX ?_
    rotate_left
    ·intro wX hS
     go_simp
     (try with_reducible rfl)
    (try simp only [Act.put, List.setIfInBounds_toArray, List.set_cons_zero, List.set_cons_succ])
    refine tk 36 ⟨_, _, _, _, _, _⟩ ?_ rfl (by kernel_rfl) (fun _ _ _ h => h) (Or.inl ⟨by rfl, ?_⟩) hSX ?_
    rotate_left
    ·intro wX hS
     have cv := HCV.out wX hS
     go_simp
     (try with_reducible rfl)
    (try simp only [Act.put, List.setIfInBounds_toArray, List.set_cons_zero, List.set_cons_succ])
    as_aux_lemma =>
    refine wpAnyZ_one (i := 37) (o := ⟨_, _, _, _, _, _⟩) (by kernel_rfl) rfl (fun K hK => ?_)
    go_simp
    go_at_call 31
    refine (AK.rows _).mono ?_
    rintro e y1 ⟨ra2, rc2, rfl, HO2, Fy1⟩
    have hNew := hSX.comp Fy1
    refine hK _ _ (.inr hNew) (fun _ => ?_)
    clear hK K
    replace hSX := hNew
    clear hNew
    (try simp only [Act.put, List.setIfInBounds_toArray, List.set_cons_zero, List.set_cons_succ])
    have cv2 := conv_own (n := 65) (by rw [hxl]; exact HO2) hbd
    rw [HSU.out] at cv2
    refine wpAnyZ_one (i := 38) (o := ⟨_, _, _, _, _, _⟩) (by kernel_rfl) rfl (fun K hK => ?_)
    go_simp
    have hNew := hSX
    refine hK _ _ (.inr hNew) (fun _ => ?_)
    clear hK K
    replace hSX := hNew
    clear hNew
    (try simp only [Act.put, List.setIfInBounds_toArray, List.set_cons_zero, List.set_cons_succ])
    refine tk 39 ⟨_, _, _, _, _, _⟩ ?_ rfl (by kernel_rfl) (fun _ _ _ h => h) (Or.inl ⟨by rfl, ?_⟩) hSX ?_
    rotate_left
    ·intro wX hS
     go_simp
     (try with_reducible rfl)
    (try simp only [Act.put, List.setIfInBounds_toArray, List.set_cons_zero, List.set_cons_succ])
    refine tk 40 ⟨_, _, _, _, _, _⟩ ?_ rfl (by kernel_rfl) (fun _ _ _ h => h) (Or.inl ⟨by rfl, ?_⟩) hSX ?_
    rotate_left
    ·intro wX hS
     go_simp
     (try with_reducible rfl)
    (try simp only [Act.put, List.setIfInBounds_toArray, List.set_cons_zero, List.set_cons_succ])
    refine tk 41 ⟨_, _, _, _, _, _⟩ ?_ rfl (by kernel_rfl) (fun _ _ _ h => h) (Or.inl ⟨by rfl, ?_⟩) hSX ?_
    rotate_left
    ·intro wX hS
     go_simp
     (try with_reducible rfl)
    (try simp only [Act.put, List.setIfInBounds_toArray, List.set_cons_zero, List.set_cons_succ])
    refine tk 42 ⟨_, _, _, _, _, _⟩ ?_ rfl (by kernel_rfl) (fun _ _ _ h => h) (Or.inl ⟨by rfl, ?_⟩) hSX ?_
    rotate_left
    ·intro wX hS
     go_simp
     (try with_reducible rfl)
    (try simp only [Act.put, List.setIfInBounds_toArray, List.set_cons_zero, List.set_cons_succ])
    refine wpAnyZ_one (i := 43) (o := ⟨_, _, _, _, _, _⟩) (by kernel_rfl) rfl (fun K hK => ?_)
    go_simp
    have hNew := Ext.alloc hSX (.cells #[.int .i64 63] 3)
    refine hK _ _ (.inr hNew) (fun _ => ?_)
    clear hK K
    replace hSX := hNew
    clear hNew
    (try simp only [Act.put, List.setIfInBounds_toArray, List.set_cons_zero, List.set_cons_succ])
    refine wpAnyZ_one (i := 44) (o := ⟨_, _, _, _, _, _⟩) (by kernel_rfl) rfl (fun K hK => ?_)
    go_simp
    go_at_call 28
    refine (ints_same _ _ 1 _ _ [63] _ rfl (by decide) (HRX.out.1.ext hSX) (ints_fresh rfl (Ext.refl _))).mono ?_
    rintro e y2 ⟨rfl, Fy2⟩
    have hNew := hSX.comp Fy2
    refine hK _ _ (.inr hNew) (fun _ => ?_)
    clear hK K
    replace hSX := hNew
    clear hNew
    (try simp only [Act.put, List.setIfInBounds_toArray, List.set_cons_zero, List.set_cons_succ])
    as_aux_lemma =>
    refine tk 45 ⟨_, _, _, _, _, _⟩ ?_ rfl (by kernel_rfl) (fun _ _ _ h => h) (Or.inl ⟨by rfl, ?_⟩) hSX ?_
    rotate_left
    ·intro wX hS
     go_simp
     (try with_reducible rfl)
    (try simp only [Act.put, List.setIfInBounds_toArray, List.set_cons_zero, List.set_cons_succ])
    refine tk 46 ⟨_, _, _, _, _, _⟩ ?_ rfl (by kernel_rfl) (fun _ _ _ h => h) (Or.inl ⟨by rfl, ?_⟩) hSX ?_
    rotate_left
    ·intro wX hS
     go_simp
     (try with_reducible rfl)
    (try simp only [Act.put, List.setIfInBounds_toArray, List.set_cons_zero, List.set_cons_succ])
    refine tk 47 ⟨_, _, _, _, _, _⟩ ?_ rfl (by kernel_rfl) (fun _ _ _ h => h) (Or.inl ⟨by rfl, ?_⟩) hSX ?_
    rotate_left
    ·intro wX hS
     go_simp
     (try with_reducible rfl)
    (try simp only [Act.put, List.setIfInBounds_toArray, List.set_cons_zero, List.set_cons_succ])
    refine wpAnyZ_one (i := 48) (o := ⟨_, _, _, _, _, _⟩) (by kernel_rfl) rfl (fun K hK => ?_)
    go_simp
    have hNew := Ext.alloc hSX (.cells #[.int .i64 4] 3)
    refine hK _ _ (.inr hNew) (fun _ => ?_)
    clear hK K
    replace hSX := hNew
    clear hNew
    (try simp only [Act.put, List.setIfInBounds_toArray, List.set_cons_zero, List.set_cons_succ])
    refine wpAnyZ_one (i := 49) (o := ⟨_, _, _, _, _, _⟩) (by kernel_rfl) rfl (fun K hK => ?_)
    go_simp
    go_at_call 28
    refine (ints_same _ _ 1 _ _ [4] _ rfl (by decide) (HRX.out.2.ext hSX) (ints_fresh rfl (Ext.refl _))).mono ?_
    rintro e y3 ⟨rfl, Fy3⟩
    have hNew := hSX.comp Fy3
    refine hK _ _ (.inr hNew) (fun _ => ?_)
    clear hK K
    replace hSX := hNew
    clear hNew
    (try simp only [Act.put, List.setIfInBounds_toArray, List.set_cons_zero, List.set_cons_succ])
    refine tk 50 ⟨_, _, _, _, _, _⟩ ?_ rfl (by kernel_rfl) (fun _ _ _ h => h) (Or.inl ⟨by rfl, ?_⟩) hSX ?_
    rotate_left
    ·intro wX hS
     go_simp
     (try with_reducible rfl)
    (try simp only [Act.put, List.setIfInBounds_toArray, List.set_cons_zero, List.set_cons_succ])
    refine tk 51 ⟨_, _, _, _, _, _⟩ ?_ rfl (by kernel_rfl) (fun _ _ _ h => h) (Or.inl ⟨by rfl, ?_⟩) hSX ?_
    rotate_left
    ·intro wX hS
     go_simp
     (try with_reducible rfl)
    (try simp only [Act.put, List.setIfInBounds_toArray, List.set_cons_zero, List.set_cons_succ])
    refine tk 52 ⟨_, _, _, _, _, _⟩ ?_ rfl (by kernel_rfl) (fun _ _ _ h => h) (Or.inl ⟨by rfl, ?_⟩) hSX ?_
    rotate_left
    ·intro wX hS
     go_simp
     (try with_reducible rfl)
    (try simp only [Act.put, List.setIfInBounds_toArray, List.set_cons_zero, List.set_cons_succ])
    refine tk 53 ⟨_, _, _, _, _, _⟩ ?_ rfl (by kernel_rfl) (fun _ _ _ h => h) (Or.inl ⟨by rfl, ?_⟩) hSX ?_
    rotate_left
    ·intro wX hS
     go_simp
     (try with_reducible rfl)
    (try simp only [Act.put, List.setIfInBounds_toArray, List.set_cons_zero, List.set_cons_succ])
    refine tk 54 ⟨_, _, _, _, _, _⟩ ?_ rfl (by kernel_rfl) (fun _ _ _ h => h) (Or.inl ⟨by rfl, ?_⟩) hSX ?_
    rotate_left
    ·intro wX hS
     go_simp
     (try with_reducible rfl)
    (try simp only [Act.put, List.setIfInBounds_toArray, List.set_cons_zero, List.set_cons_succ])
    refine tk 55 ⟨_, _, _, _, _, _⟩ ?_ rfl (by kernel_rfl) (fun _ _ _ h => h) (Or.inl ⟨by rfl, ?_⟩) hSX ?_
    rotate_left
    ·intro wX hS
     go_simp
     (try with_reducible rfl)
    (try simp only [Act.put, List.setIfInBounds_toArray, List.set_cons_zero, List.set_cons_succ])
    refine tk 56 ⟨_, _, _, _, _, _⟩ ?_ rfl (by kernel_rfl) (fun _ _ _ h => h) (Or.inl ⟨by rfl, ?_⟩) hSX ?_
    rotate_left
    ·intro wX hS
     go_simp
     (try with_reducible rfl)
    (try simp only [Act.put, List.setIfInBounds_toArray, List.set_cons_zero, List.set_cons_succ])
    as_aux_lemma =>
    refine tk 57 ⟨_, _, _, _, _, _⟩ ?_ rfl (by kernel_rfl) (fun _ _ _ h => h) (Or.inl ⟨by rfl, ?_⟩) hSX ?_
    rotate_left
    ·intro wX hS
     have c1 := HCX.out.1 wX hS
     go_simp
     (try with_reducible rfl)
    (try simp only [Act.put, List.setIfInBounds_toArray, List.set_cons_zero, List.set_cons_succ])
    refine tk 58 ⟨_, _, _, _, _, _⟩ ?_ rfl (by kernel_rfl) (fun _ _ _ h => h) (Or.inl ⟨by rfl, ?_⟩) hSX ?_
    rotate_left
    ·intro wX hS
     go_simp
     (try with_reducible rfl)
    (try simp only [Act.put, List.setIfInBounds_toArray, List.set_cons_zero, List.set_cons_succ])
    refine tk 59 ⟨_, _, _, _, _, _⟩ ?_ rfl (by kernel_rfl) (fun _ _ _ h => h) (Or.inl ⟨by rfl, ?_⟩) hSX ?_
    rotate_left
    ·intro wX hS
     go_simp
     (try with_reducible rfl)
    (try simp only [Act.put, List.setIfInBounds_toArray, List.set_cons_zero, List.set_cons_succ])
    refine tk 60 ⟨_, _, _, _, _, _⟩ ?_ rfl (by kernel_rfl) (fun _ _ _ h => h) (Or.inl ⟨by rfl, ?_⟩) hSX ?_
    rotate_left
    ·intro wX hS
     go_simp
     (try with_reducible rfl)
    (try simp only [Act.put, List.setIfInBounds_toArray, List.set_cons_zero, List.set_cons_succ])
    refine tk 61 ⟨_, _, _, _, _, _⟩ ?_ rfl (by kernel_rfl) (fun _ _ _ h => h) (Or.inl ⟨by rfl, ?_⟩) hSX ?_
    rotate_left
    ·intro wX hS
     go_simp
     (try with_reducible rfl)
    (try simp only [Act.put, List.setIfInBounds_toArray, List.set_cons_zero, List.set_cons_succ])
    refine tk 62 ⟨_, _, _, _, _, _⟩ ?_ rfl (by kernel_rfl) (fun _ _ _ h => h) (Or.inl ⟨by rfl, ?_⟩) hSX ?_
    rotate_left
    ·intro wX hS
     go_simp
     (try with_reducible rfl)
    (try simp only [Act.put, List.setIfInBounds_toArray, List.set_cons_zero, List.set_cons_succ])
    refine tk 63 ⟨_, _, _, _, _, _⟩ ?_ rfl (by kernel_rfl) (fun _ _ _ h => h) (Or.inl ⟨by rfl, ?_⟩) hSX ?_
    rotate_left
    ·intro wX hS
     go_simp
     (try with_reducible rfl)
    (try simp only [Act.put, List.setIfInBounds_toArray, List.set_cons_zero, List.set_cons_succ])
    refine tk 64 ⟨_, _, _, _, _, _⟩ ?_ rfl (by kernel_rfl) (fun _ _ _ h => h) (Or.inl ⟨by rfl, ?_⟩) hSX ?_
    rotate_left
    ·intro wX hS
     go_simp
     (try with_reducible rfl)
    (try simp only [Act.put, List.setIfInBounds_toArray, List.set_cons_zero, List.set_cons_succ])
    refine tk 65 ⟨_, _, _, _, _, _⟩ ?_ rfl (by kernel_rfl) (fun _ _ _ h => h) (Or.inl ⟨by rfl, ?_⟩) hSX ?_
    rotate_left
    ·intro wX hS
     go_simp
     (try with_reducible rfl)
    (try simp only [Act.put, List.setIfInBounds_toArray, List.set_cons_zero, List.set_cons_succ])
    refine tk 66 ⟨_, _, _, _, _, _⟩ ?_ rfl (by kernel_rfl) (fun _ _ _ h => h) (Or.inl ⟨by rfl, ?_⟩) hSX ?_
    rotate_left
    ·intro wX hS
     have c2 := HCX.out.2.1 wX hS
     go_simp
     (try with_reducible rfl)
    (try simp only [Act.put, List.setIfInBounds_toArray, List.set_cons_zero, List.set_cons_succ])
    as_aux_lemma =>
    refine wpAnyZ_one (i := 67) (o := ⟨_, _, _, _, _, _⟩) (by kernel_rfl) rfl (fun K hK => ?_)
    go_simp
    have hNew := Ext.alloc hSX (.cells #[.int .i64 6] 3)
    refine hK _ _ (.inr hNew) (fun _ => ?_)
    clear hK K
    replace hSX := hNew
    clear hNew
    (try simp only [Act.put, List.setIfInBounds_toArray, List.set_cons_zero, List.set_cons_succ])
    refine wpAnyZ_one (i := 68) (o := ⟨_, _, _, _, _, _⟩) (by kernel_rfl) rfl (fun K hK => ?_)
    go_simp
    go_at_call 28
    refine (ints_same _ _ 1 _ _ [6] _ rfl (by decide) (HIX.out.1.ext hSX) (ints_fresh rfl (Ext.refl _))).mono ?_
    rintro e y4 ⟨rfl, Fy4⟩
    have hNew := hSX.comp Fy4
    refine hK _ _ (.inr hNew) (fun _ => ?_)
    clear hK K
    replace hSX := hNew
    clear hNew
    (try simp only [Act.put, List.setIfInBounds_toArray, List.set_cons_zero, List.set_cons_succ])
    refine tk 69 ⟨_, _, _, _, _, _⟩ ?_ rfl (by kernel_rfl) (fun _ _ _ h => h) (Or.inl ⟨by rfl, ?_⟩) hSX ?_
    rotate_left
    ·intro wX hS
     go_simp
     (try with_reducible rfl)
    (try simp only [Act.put, List.setIfInBounds_toArray, List.set_cons_zero, List.set_cons_succ])
    refine tk 70 ⟨_, _, _, _, _, _⟩ ?_ rfl (by kernel_rfl) (fun _ _ _ h => h) (Or.inl ⟨by rfl, ?_⟩) hSX ?_
    rotate_left
    ·intro wX hS
     go_simp
     (try with_reducible rfl)
    (try simp only [Act.put, List.setIfInBounds_toArray, List.set_cons_zero, List.set_cons_succ])
    refine tk 71 ⟨_, _, _, _, _, _⟩ ?_ rfl (by kernel_rfl) (fun _ _ _ h => h) (Or.inl ⟨by rfl, ?_⟩) hSX ?_
    rotate_left
    ·intro wX hS
     go_simp
     (try with_reducible rfl)
    (try simp only [Act.put, List.setIfInBounds_toArray, List.set_cons_zero, List.set_cons_succ])
    refine tk 72 ⟨_, _, _, _, _, _⟩ ?_ rfl (by kernel_rfl) (fun _ _ _ h => h) (Or.inl ⟨by rfl, ?_⟩) hSX ?_
    rotate_left
    ·intro wX hS
     have c3 := HCX.out.2.2.1 wX hS
     go_simp
     (try with_reducible rfl)
    (try simp only [Act.put, List.setIfInBounds_toArray, List.set_cons_zero, List.set_cons_succ])
    as_aux_lemma =>
    refine wpAnyZ_one (i := 73) (o := ⟨_, _, _, _, _, _⟩) (by kernel_rfl) rfl (fun K hK => ?_)
    go_simp
    have hNew := Ext.alloc hSX (.cells #[.int .i64 7] 3)
    refine hK _ _ (.inr hNew) (fun _ => ?_)
    clear hK K
    replace hSX := hNew
    clear hNew
    (try simp only [Act.put, List.setIfInBounds_toArray, List.set_cons_zero, List.set_cons_succ])
    refine wpAnyZ_one (i := 74) (o := ⟨_, _, _, _, _, _⟩) (by kernel_rfl) rfl (fun K hK => ?_)
    go_simp
    go_at_call 28
    refine (ints_same _ _ 1 _ _ [7] _ rfl (by decide) (HIX.out.2.ext hSX) (ints_fresh rfl (Ext.refl _))).mono ?_
    rintro e y5 ⟨rfl, Fy5⟩
    have hNew := hSX.comp Fy5
    refine hK _ _ (.inr hNew) (fun _ => ?_)
    clear hK K
    replace hSX := hNew
    clear hNew
    (try simp only [Act.put, List.setIfInBounds_toArray, List.set_cons_zero, List.set_cons_succ])
    refine tk 75 ⟨_, _, _, _, _, _⟩ ?_ rfl (by kernel_rfl) (fun _ _ _ h => h) (Or.inl ⟨by rfl, ?_⟩) hSX ?_
    rotate_left
    ·intro wX hS
     go_simp
     (try with_reducible rfl)
    (try simp only [Act.put, List.setIfInBounds_toArray, List.set_cons_zero, List.set_cons_succ])
    refine tk 76 ⟨_, _, _, _, _, _⟩ ?_ rfl (by kernel_rfl) (fun _ _ _ h => h) (Or.inl ⟨by rfl, ?_⟩) hSX ?_
    rotate_left
    ·intro wX hS
     go_simp
     (try with_reducible rfl)
    (try simp only [Act.put, List.setIfInBounds_toArray, List.set_cons_zero, List.set_cons_succ])
    refine tk 77 ⟨_, _, _, _, _, _⟩ ?_ rfl (by kernel_rfl) (fun _ _ _ h => h) (Or.inl ⟨by rfl, ?_⟩) hSX ?_
    rotate_left
    ·intro wX hS
     go_simp
     (try with_reducible rfl)
    (try simp only [Act.put, List.setIfInBounds_toArray, List.set_cons_zero, List.set_cons_succ])
    refine tk 78 ⟨_, _, _, _, _, _⟩ ?_ rfl (by kernel_rfl) (fun _ _ _ h => h) (Or.inl ⟨by rfl, ?_⟩) hSX ?_
    rotate_left
    ·intro wX hS
     go_simp
     (try with_reducible rfl)
    (try simp only [Act.put, List.setIfInBounds_toArray, List.set_cons_zero, List.set_cons_succ])
    refine tk 79 ⟨_, _, _, _, _, _⟩ ?_ rfl (by kernel_rfl) (fun _ _ _ h => h) (Or.inl ⟨by rfl, ?_⟩) hSX ?_
    rotate_left
    ·intro wX hS
     go_simp
     (try with_reducible rfl)
    (try simp only [Act.put, List.setIfInBounds_toArray, List.set_cons_zero, List.set_cons_succ])
    refine tk 80 ⟨_, _, _, _, _, _⟩ ?_ rfl (by kernel_rfl) (fun _ _ _ h => h) (Or.inl ⟨by rfl, ?_⟩) hSX ?_
    rotate_left
    ·intro wX hS
     go_simp
     (try with_reducible rfl)
    (try simp only [Act.put, List.setIfInBounds_toArray, List.set_cons_zero, List.set_cons_succ])
    as_aux_lemma =>
    refine tk 81 ⟨_, _, _, _, _, _⟩ ?_ rfl (by kernel_rfl) (fun _ _ _ h => h) (Or.inl ⟨by rfl, ?_⟩) hSX ?_
    rotate_left
    ·intro wX hS
     obtain ⟨q0, q1, q2, q3, q4, q5, q6, q7⟩ := HQX.out wX hS
     go_simp
     (try with_reducible rfl)
    (try simp only [Act.put, List.setIfInBounds_toArray, List.set_cons_zero, List.set_cons_succ])
    refine tk 82 ⟨_, _, _, _, _, _⟩ ?_ rfl (by kernel_rfl) (fun _ _ _ h => h) (Or.inl ⟨by rfl, ?_⟩) hSX ?_
    rotate_left
    ·intro wX hS
     obtain ⟨q0, q1, q2, q3, q4, q5, q6, q7⟩ := HTX.out wX hS
     go_simp
     (try with_reducible rfl)
    (try simp only [Act.put, List.setIfInBounds_toArray, List.set_cons_zero, List.set_cons_succ])
    refine wpAnyZ_one (i := 83) (o := ⟨_, _, _, _, _, _⟩) (by kernel_rfl) rfl (fun K hK => ?_)
    go_simp
    go_at_call 8
    refine (states_same _ _ s _ (HSX.out.1 _ hSX) (HSX.out.2 _ hSX) AK.bd).mono ?_
    rintro e y6 ⟨rfl, Fy6⟩
    have hNew := hSX.comp Fy6
    refine hK _ _ (.inr hNew) (fun _ => ?_)
    clear hK K
    replace hSX := hNew
    clear hNew
    (try simp only [Act.put, List.setIfInBounds_toArray, List.set_cons_zero, List.set_cons_succ])
    as_aux_lemma =>
    refine tk 84 ⟨_, _, _, _, _, _⟩ ?_ rfl (by kernel_rfl) (fun _ _ _ h => h) (Or.inl ⟨by rfl, ?_⟩) hSX ?_
    rotate_left
    ·intro wX hS
     go_simp
     (try with_reducible rfl)
    (try simp only [Act.put, List.setIfInBounds_toArray, List.set_cons_zero, List.set_cons_succ])
    refine tk 85 ⟨_, _, _, _, _, _⟩ ?_ rfl (by kernel_rfl) (fun _ _ _ h => h) (Or.inl ⟨by rfl, ?_⟩) hSX ?_
    rotate_left
    ·intro wX hS
     go_simp
     (try with_reducible rfl)
    (try simp only [Act.put, List.setIfInBounds_toArray, List.set_cons_zero, List.set_cons_succ])
    refine tk 86 ⟨_, _, _, _, _, _⟩ ?_ rfl (by kernel_rfl) (fun _ _ _ h => h) (Or.inl ⟨by rfl, ?_⟩) hSX ?_
    rotate_left
    ·intro wX hS
     go_simp
     (try with_reducible rfl)
    (try simp only [Act.put, List.setIfInBounds_toArray, List.set_cons_zero, List.set_cons_succ])
    refine tk 87 ⟨_, _, _, _, _, _⟩ ?_ rfl (by kernel_rfl) (fun _ _ _ h => h) (Or.inl ⟨by rfl, ?_⟩) hSX ?_
    rotate_left
    ·intro wX hS
     have c4 := HCX.out.2.2.2 wX hS
     go_simp
     (try with_reducible rfl)
    (try simp only [Act.put, List.setIfInBounds_toArray, List.set_cons_zero, List.set_cons_succ])
    refine tk 88 ⟨_, _, _, _, _, _⟩ ?_ rfl (by kernel_rfl) (fun _ _ _ h => h) (Or.inl ⟨by rfl, ?_⟩) hSX ?_
    rotate_left
    ·intro wX hS
     go_simp
     (try with_reducible rfl)
    (try simp only [Act.put, List.setIfInBounds_toArray, List.set_cons_zero, List.set_cons_succ])
    refine tk 89 ⟨_, _, _, _, _, _⟩ ?_ rfl (by kernel_rfl) (fun _ _ _ h => h) (Or.inl ⟨by rfl, ?_⟩) hSX ?_
    rotate_left
    ·intro wX hS
     go_simp
     (try with_reducible rfl)
    (try simp only [Act.put, List.setIfInBounds_toArray, List.set_cons_zero, List.set_cons_succ])
    refine tk 90 ⟨_, _, _, _, _, _⟩ ?_ rfl (by kernel_rfl) (fun _ _ _ h => h) (Or.inl ⟨by rfl, ?_⟩) hSX ?_
    rotate_left
    ·intro wX hS
     go_simp
     (try with_reducible rfl)
    (try simp only [Act.put, List.setIfInBounds_toArray, List.set_cons_zero, List.set_cons_succ])
    refine tk 91 ⟨_, _, _, _, _, _⟩ ?_ rfl (by kernel_rfl) (fun _ _ _ h => h) (Or.inl ⟨by rfl, ?_⟩) hSX ?_
    rotate_left
    ·intro wX hS
     go_simp
     (try with_reducible rfl)
    (try simp only [Act.put, List.setIfInBounds_toArray, List.set_cons_zero, List.set_cons_succ])
    refine tk 92 ⟨_, _, _, _, _, _⟩ ?_ rfl (by kernel_rfl) (fun _ _ _ h => h) (Or.inl ⟨by rfl, ?_⟩) hSX ?_
    rotate_left
    ·intro wX hS
     go_simp
     (try with_reducible rfl)
    (try simp only [Act.put, List.setIfInBounds_toArray, List.set_cons_zero, List.set_cons_succ])
    refine tk 93 ⟨_, _, _, _, _, _⟩ ?_ rfl (by kernel_rfl) (fun _ _ _ h => h) (Or.inl ⟨by rfl, ?_⟩) hSX ?_
    rotate_left
    ·intro wX hS
     go_simp
     (try with_reducible rfl)
    (try simp only [Act.put, List.setIfInBounds_toArray, List.set_cons_zero, List.set_cons_succ])
    refine wpAnyZ_done (by kernel_rfl) ?_ _
    go_wp2_with fail
    go_ret
    exact ⟨rfl, HEX.out.comp hSX⟩
end Go.Proofs.YtnhpcoagkmgdoaaGreat

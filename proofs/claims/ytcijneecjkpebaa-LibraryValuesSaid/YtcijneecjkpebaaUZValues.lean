import Derived.Test.YtcijneecjkpebaaU29
import Derived.Test.YtcijneecjkpebaaU31
import Derived.Test.YtcijneecjkpebaaUFrame8b
import Derived.Test.YtcijneecjkpebaaUFacts10
set_option linter.unusedVariables false
set_option linter.unusedSimpArgs false
/- The law LibraryValues: Code, Value and Accept are those of the reference. -/
namespace Go.Proofs.Ytcijneecjkpebaa
open Go.RowKit Go.Q
set_option maxRecDepth 100000 in
set_option maxHeartbeats 4000000 in
theorem values8_any (k : Int) (a : Option Addr) (n c : Nat) (xs : List Int) (y : Int) (w : World) (hn : xs.length = n) (hb : n ≤ 9223372036854775807) (hI : IntsAt w a xs) :
    Calls Try.prog 3 #[.int .i64 k, .slice a n c, .int .i64 y] w fun e w' => e = .returned (.bool true) ∧ Ext w w' := by
  have hc1 := fun W => lb_code k W
  have hc2 := fun W => rb_code k W
  have hv1 := fun W (E : Ext w W) => lb_value k a n c xs W hn hb (hI.ext E)
  have hv2 := fun W (E : Ext w W) => rb_value k a n c xs W hn hb (hI.ext E)
  have ha1 := fun W (E : Ext w W) => lb_accept k a n c xs y W hn hb (hI.ext E)
  have ha2 := fun W (E : Ext w W) => rb_accept k a n c xs y W hn hb (hI.ext E)
  have hbd := codeE_bd k
  obtain ⟨C, hC⟩ : ∃ C, (codeE k).1 = C := ⟨_, rfl⟩
  obtain ⟨ec, hec⟩ : ∃ ec, (codeE k).2 = ec := ⟨_, rfl⟩
  obtain ⟨v, hv⟩ : ∃ v, (valueE k xs).1 = v := ⟨_, rfl⟩
  obtain ⟨ev, hev⟩ : ∃ ev, (valueE k xs).2 = ev := ⟨_, rfl⟩
  obtain ⟨u, hu⟩ : ∃ u, (acceptE k xs y).1 = u := ⟨_, rfl⟩
  obtain ⟨eu, heu⟩ : ∃ eu, (acceptE k xs y).2 = eu := ⟨_, rfl⟩
  rw [hC] at hc1 hc2 hbd
  rw [hec] at hc1 hc2
  rw [hv, hev] at hv1 hv2
  rw [hu, heu] at ha1 ha2
  have hcc := fun l m W (h1 : RtAt W C l) (h2 : RtAt W C m) => rb_codes C l m W h1 h2 hbd
  clear hC hec hv hev hu heu hbd hn hb hI
  obtain ⟨n1, hn1⟩ : ∃ n1, C.words.length = n1 := ⟨_, rfl⟩
  obtain ⟨n2, hn2⟩ : ∃ n2, C.masks.length = n2 := ⟨_, rfl⟩
  obtain ⟨n3, hn3⟩ : ∃ n3, C.args.length = n3 := ⟨_, rfl⟩
  unfold CodeRes at hc1 hc2
  rw [hn1, hn2, hn3] at hc1 hc2 hcc
  clear hn1 hn2 hn3
  go_enter Try.func3, Try.ntmps3
  go_wp2_with fail
  refine (hc1 _).mono ?_
  rintro e w1 ⟨l, rfl, hr1, E1⟩
  have HR1 := Lib.hid hr1
  have HE1 := Lib.hid E1
  clear hc1 hr1 E1
  go_upto_region 2 with fail
  have hbx := Blk.nw w1 #[.slice l.a1 n1 l.c1, .slice l.a2 n2 l.c2, .int .i64 C.entry, .int .i64 C.exit, .int .i64 C.result, .slice l.a3 n3 l.c3] 24
  have EX1 : Ext w1 (w1.alloc (.cells #[.slice l.a1 n1 l.c1, .slice l.a2 n2 l.c2, .int .i64 C.entry, .int .i64 C.exit, .int .i64 C.result, .slice l.a3 n3 l.c3] 24)) := (Ext.refl w1).alloc _
  generalize w1.alloc (.cells #[.slice l.a1 n1 l.c1, .slice l.a2 n2 l.c2, .int .i64 C.entry, .int .i64 C.exit, .int .i64 C.result, .slice l.a3 n3 l.c3] 24) = X1 at hbx EX1 ⊢
  obtain ⟨b1, hb1⟩ : ∃ b1, w1.heap.size = b1 := ⟨_, rfl⟩
  rw [hb1] at hbx ⊢
  have HBX := Lib.hid hbx
  have HX1 := Lib.hid EX1
  clear hbx EX1 hb1
  go_wp2_with fail
  refine (hc2 _).mono ?_
  rintro e w2 ⟨m, rfl, hr2, E2⟩
  have HR2 := Lib.hid hr2
  have HE2 := Lib.hid E2
  clear hc2 hr2 E2
  go_upto_region 3 with fail
  have hby := Blk.nw w2 #[.slice m.a1 n1 m.c1, .slice m.a2 n2 m.c2, .int .i64 C.entry, .int .i64 C.exit, .int .i64 C.result, .slice m.a3 n3 m.c3] 24
  have EX2 : Ext w2 (w2.alloc (.cells #[.slice m.a1 n1 m.c1, .slice m.a2 n2 m.c2, .int .i64 C.entry, .int .i64 C.exit, .int .i64 C.result, .slice m.a3 n3 m.c3] 24)) := (Ext.refl w2).alloc _
  generalize w2.alloc (.cells #[.slice m.a1 n1 m.c1, .slice m.a2 n2 m.c2, .int .i64 C.entry, .int .i64 C.exit, .int .i64 C.result, .slice m.a3 n3 m.c3] 24) = X2 at hby EX2 ⊢
  obtain ⟨b2, hb2⟩ : ∃ b2, w2.heap.size = b2 := ⟨_, rfl⟩
  rw [hb2] at hby ⊢
  have HX2 := Lib.hid (HE2.out.comp EX2)
  have hbx2 := HBX.out.ex HX2.out
  have q0 := Blk.c hbx2 0 (v := .slice l.a1 n1 l.c1) rfl
  have q1 := Blk.c hbx2 1 (v := .slice l.a2 n2 l.c2) rfl
  have q2 := Blk.c hbx2 2 (v := .int .i64 C.entry) rfl
  have q3 := Blk.c hbx2 3 (v := .int .i64 C.exit) rfl
  have q4 := Blk.c hbx2 4 (v := .int .i64 C.result) rfl
  have q5 := Blk.c hbx2 5 (v := .slice l.a3 n3 l.c3) rfl
  have t0 := Blk.c hby 0 (v := .slice m.a1 n1 m.c1) rfl
  have t1 := Blk.c hby 1 (v := .slice m.a2 n2 m.c2) rfl
  have t2 := Blk.c hby 2 (v := .int .i64 C.entry) rfl
  have t3 := Blk.c hby 3 (v := .int .i64 C.exit) rfl
  have t4 := Blk.c hby 4 (v := .int .i64 C.result) rfl
  have t5 := Blk.c hby 5 (v := .slice m.a3 n3 m.c3) rfl
  have hl1 := hbx2.lt
  have hl2 := hby.lt
  have hcc2 := hcc l m X2 (HR1.out.ext (HX1.out.comp HX2.out)) (HR2.out.ext EX2)
  have HE3 := Lib.hid ((HE1.out.comp HX1.out).comp HX2.out)
  clear hbx2 hby EX2 hb2 hcc
  have hne : (ec != ec) = false := by simp
  have hne2 : (ev != ev) = false := by simp
  have hne3 : (v != v) = false := by simp
  go_wp2_with (go_at_call 17; refine hcc2.mono ?_; rintro e w4 ⟨rfl, E4⟩; have HE4 := Lib.hid (HE3.out.comp E4); clear E4)
  refine (hv1 _ HE4.out).mono ?_
  rintro e w5 ⟨rfl, E5⟩
  have HE5 := Lib.hid (HE4.out.comp E5)
  clear hv1 E5 q0 q1 q2 q3 q4 q5 t0 t1 t2 t3 t4 t5 hcc2
  go_wp2_with fail
  refine (hv2 _ HE5.out).mono ?_
  rintro e w6 ⟨rfl, E6⟩
  have HE6 := Lib.hid (HE5.out.comp E6)
  clear hv2 E6
  go_wp2_with fail
  refine (ha1 _ HE6.out).mono ?_
  rintro e w7 ⟨rfl, E7⟩
  have HE7 := Lib.hid (HE6.out.comp E7)
  clear ha1 E7
  go_wp2_with fail
  refine (ha2 _ HE7.out).mono ?_
  rintro e w8 ⟨rfl, E8⟩
  have HE8 := Lib.hid (HE7.out.comp E8)
  clear ha2 E8
  go_wp2_with fail
  refine (awake8_any _).mono ?_
  rintro e w9 ⟨rfl, E9⟩
  have HE9 := Lib.hid (HE8.out.comp E9)
  clear E9
  go_wp2_with fail
  go_ret
  exact ⟨rfl, HE9.out⟩
end Go.Proofs.Ytcijneecjkpebaa
/- The statement LibraryValues: the row, from the contract of the law's function. -/
namespace Go.Proofs.Ytcijneecjkpebaa.libraryValues
open Go.ChangeShapes Go.WideShapes Go.ChangeAt Go.RowKit Go.Joins Go.Deep Go.Q
set_option linter.unusedVariables false
set_option maxRecDepth 100000 in
theorem lifted (os : Os) (started : os.Started) (H : Type) (enc : TypeId × Value → H) :
    ReturnsInHanded {} Try.checked os 3 .any (Rows.libraryValuesSpec.pre6 enc Try.prog Try.f3 Rows.libraryValuesRow.domain false) (Rows.libraryValuesSpec.post enc Try.prog Try.f3 false true false false) := by
  refine returnsInHanded_of_change (C := Try.checked) rowOwn started (by kernel_rfl) Try.func3
    (ChangeSpec.witness6 (enc := enc) (C := Try.checked) false ⟨#[], #[.int .i64 0, .slice none 0 0, .int .i64 0], []⟩ 8 (by kernel_rfl) (by kernel_rfl) (by kernel_rfl) (by kernel_rfl)) ?_
  intro W base args ds gs before hval0 hW hcnd _
  have hval : ∀ (j : Nat) t v, Try.f3.params[j]? = some t → args[j]? = some v → Value.okWide Try.prog W .any base t v := hval0
  have hW' := hW
  obtain ⟨p, q, hA0, hV, rfl, hfz, hnd⟩ := hW
  have hA : DataW.TrodAll enc Try.prog W 0 (fun _ => true) true Try.f3.params.toList args.toList ds p := hA0
  rw [Try.params3] at hA hval
  obtain ⟨v0, vs0, d0, ds0, p0, q0, hargs, rfl, rfl, h0, r0⟩ := trodAll_cons hA
  obtain ⟨v1, vs1, d1, ds1, p1, q1, rfl, rfl, rfl, h1, r1⟩ := trodAll_cons r0
  obtain ⟨v2, vs2, d2, ds2, p2, q2, rfl, rfl, rfl, h2, r2⟩ := trodAll_cons r1
  obtain ⟨rfl, rfl, rfl⟩ := trodAll_nil r2
  obtain rfl : args = #[v0, v1, v2] := by cases args; simp_all
  obtain ⟨rfl, rfl⟩ := trodVars_none hV
  obtain ⟨a0, rfl, rfl, rfl, w0⟩ := open_int Try.underlying3 (hval 0 3 v0 rfl rfl) h0
  have k1 := h1
  have lt1 : ∀ x ∈ p1, x.block < W.heap.size := by obtain ⟨m, hm⟩ := k1; exact DataW.trod_lt m _ _ _ hm
  obtain ⟨x1, y1, z1, rfl⟩ := okWide_slice Try.underlying22 (hval 1 22 v1 rfl rfl)
  obtain ⟨fu1, hf1⟩ := h1
  obtain ⟨a1, c1, l1, ev1, B1, I1⟩ := ints_of_trod (v := .slice x1 y1 z1) (by simpa [Value.cells] using hf1)
  rw [ev1] at k1 hW' ⊢
  obtain ⟨a2, rfl, rfl, rfl, w2⟩ := open_int Try.underlying3 (hval 2 3 v2 rfl rfl) h2
  clear hA0 hval0
  refine (values8_any a0 a1 _ c1 l1 a2 W rfl B1 I1).mono fun e W' ⟨he, bel⟩ => ?_
  subst he
  exact ⟨_, rfl, _, _, _, [], _, [], hW', trodAll_mk1 (shut_bool Try.underlying4 _), (trodAll_cons_mk (shut_int Try.underlying3 w0) (trodAll_cons_mk (Below.trod rowLaid (by kernel_rfl) (of_decide_eq_true (by kernel_rfl)) k1 bel lt1) (trodAll_cons_mk (shut_int Try.underlying3 w2) trodAll_mk0))), rfl, bel.frame _, fun h => by cases h⟩
theorem closed : joinedFacts Try.pinned.checked.prog 3 Try.f3 Rows.libraryValuesSpec Rows.libraryValuesRow = true := by
  have hm : (Try.pinned.checked.prog.make == some Rows.libraryValuesRow.make) = true := factMake
  unfold joinedFacts
  rw [factEnter, factLifted, hm]
  exact of_decide_eq_true (by kernel_rfl)
theorem over : Rows.libraryValuesRow.holds Try.pinned (OpenSpec.ofChange Rows.libraryValuesSpec) :=
  OpenClaim.holds_of_wide 3 Try.f3 rfl rfl rfl rfl rfl rfl rfl ⟨rfl, rfl, rfl, rfl, rfl⟩ rfl rfl rfl rfl rfl (by kernel_rfl) Try.func3 closed
    (of_decide_eq_true (by kernel_rfl)) (by unfold Func.isWrapper; first | (rw [if_pos (by decide +kernel)]; kernel_rfl) | (rw [if_neg (by decide +kernel)]; exact ⟨rfl, rfl⟩))
    (fun os started H enc _ => lifted os started H enc)
theorem proved : Rows.LibraryValuesSaid := over
#print axioms proved
end Go.Proofs.Ytcijneecjkpebaa.libraryValues

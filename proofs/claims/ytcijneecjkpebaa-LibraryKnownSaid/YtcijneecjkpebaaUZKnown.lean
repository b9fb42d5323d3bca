import Derived.Test.YtcijneecjkpebaaU29
import Derived.Test.YtcijneecjkpebaaUFrame8
import Derived.Test.YtcijneecjkpebaaUFacts10
set_option linter.unusedVariables false
set_option linter.unusedSimpArgs false
/- The law LibraryKnown: the examples. -/
namespace Go.Q
theorem kn1 : valueE 2 [2097152, 4194304] = (4194305, 0) := by decide +kernel
theorem kn2 : valueE 2 [0, 0] = (8388607, 0) := by decide +kernel
theorem kn3 : valueE 1 [0] = (2896, 0) := by decide +kernel
end Go.Q
namespace Go.Proofs.Ytcijneecjkpebaa
open Go.RowKit Go.Q
set_option maxRecDepth 100000 in
set_option maxHeartbeats 4000000 in
theorem known8_any (w : World) : Calls Try.prog 6 #[] w fun e w' => e = .returned (.bool true) ∧ Ext w w' := by
  have h1 := fun W a (h : IntsAt W a [2097152, 4194304]) => lb_value 2 a 2 2 [2097152, 4194304] W rfl (by decide) h
  have h2 := fun W a (h : IntsAt W a [0, 0]) => lb_value 2 a 2 2 [0, 0] W rfl (by decide) h
  have h3 := fun W a (h : IntsAt W a [0]) => lb_value 1 a 1 1 [0] W rfl (by decide) h
  rw [kn1] at h1
  rw [kn2] at h2
  rw [kn3] at h3
  go_enter Try.func6, Try.ntmps6
  go_wp2_with fail
  refine (h1 _ _ (ints_new (zs := [2097152, 4194304]) (Ext.refl _))).mono ?_
  rintro e w1 ⟨rfl, E1⟩
  have HE1 := Lib.hid (Ext.comp ((Ext.refl w).alloc _) E1)
  clear h1 E1
  go_wp2_with fail
  refine (h2 _ _ (ints_new (zs := [0, 0]) (Ext.refl _))).mono ?_
  rintro e w2 ⟨rfl, E2⟩
  have HE2 := Lib.hid (HE1.out.comp (Ext.comp ((Ext.refl w1).alloc _) E2))
  clear h2 E2
  go_wp2_with fail
  refine (h3 _ _ (ints_new (zs := [0]) (Ext.refl _))).mono ?_
  rintro e w3 ⟨rfl, E3⟩
  have HE3 := Lib.hid (HE2.out.comp (Ext.comp ((Ext.refl w2).alloc _) E3))
  clear h3 E3
  go_wp2_with fail
  refine (awake8_any _).mono ?_
  rintro e w4 ⟨rfl, E4⟩
  have HE4 := Lib.hid (HE3.out.comp E4)
  clear E4
  go_wp2_with fail
  go_ret
  exact ⟨rfl, HE4.out⟩
end Go.Proofs.Ytcijneecjkpebaa
/- The statement LibraryKnown: the row, from the contract of the law's function. -/
namespace Go.Proofs.Ytcijneecjkpebaa.libraryKnown
open Go.ChangeShapes Go.WideShapes Go.ChangeAt Go.RowKit Go.Joins Go.Deep Go.Q
set_option linter.unusedVariables false
set_option maxRecDepth 100000 in
theorem lifted (os : Os) (started : os.Started) (H : Type) (enc : TypeId × Value → H) :
    ReturnsInHanded {} Try.checked os 6 .any (Rows.libraryKnownSpec.pre6 enc Try.prog Try.f6 Rows.libraryKnownRow.domain false) (Rows.libraryKnownSpec.post enc Try.prog Try.f6 false true false false) := by
  refine returnsInHanded_of_change (C := Try.checked) rowOwn started (by kernel_rfl) Try.func6
    (ChangeSpec.witness6 (enc := enc) (C := Try.checked) false ⟨#[], #[], []⟩ 8 (by kernel_rfl) (by kernel_rfl) (by kernel_rfl) (by kernel_rfl)) ?_
  intro W base args ds gs before hval0 hW hcnd _
  have hval : ∀ (j : Nat) t v, Try.f6.params[j]? = some t → args[j]? = some v → Value.okWide Try.prog W .any base t v := hval0
  have hW' := hW
  obtain ⟨p, q, hA0, hV, rfl, hfz, hnd⟩ := hW
  have hA : DataW.TrodAll enc Try.prog W 0 (fun _ => true) true Try.f6.params.toList args.toList ds p := hA0
  rw [Try.params6] at hA hval
  obtain ⟨rfl, rfl, rfl⟩ := trodAll_none hA
  obtain ⟨rfl, rfl⟩ := trodVars_none hV
  clear hA0 hval0
  refine (known8_any W).mono fun e W' ⟨he, bel⟩ => ?_
  subst he
  exact ⟨_, rfl, _, _, _, [], _, [], hW', trodAll_mk1 (shut_bool Try.underlying4 _), rfl, rfl, bel.frame _, fun h => by cases h⟩
theorem closed : joinedFacts Try.pinned.checked.prog 6 Try.f6 Rows.libraryKnownSpec Rows.libraryKnownRow = true := by
  have hm : (Try.pinned.checked.prog.make == some Rows.libraryKnownRow.make) = true := factMake
  unfold joinedFacts
  rw [factEnter, factLifted, hm]
  exact of_decide_eq_true (by kernel_rfl)
theorem over : Rows.libraryKnownRow.holds Try.pinned (OpenSpec.ofChange Rows.libraryKnownSpec) :=
  OpenClaim.holds_of_wide 6 Try.f6 rfl rfl rfl rfl rfl rfl rfl ⟨rfl, rfl, rfl, rfl, rfl⟩ rfl rfl rfl rfl rfl (by kernel_rfl) Try.func6 closed
    (of_decide_eq_true (by kernel_rfl)) (by unfold Func.isWrapper; first | (rw [if_pos (by decide +kernel)]; kernel_rfl) | (rw [if_neg (by decide +kernel)]; exact ⟨rfl, rfl⟩))
    (fun os started H enc _ => lifted os started H enc)
theorem proved : Rows.LibraryKnownSaid := over
#print axioms proved
end Go.Proofs.Ytcijneecjkpebaa.libraryKnown

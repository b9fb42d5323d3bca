import Derived.Test.YtnhpcoagkmgdoaaXFrame10
import Derived.Test.YtnhpcoagkmgdoaaXFacts10
import Derived.Test.YtnhpcoagkmgdoaaXDL13
import Derived.Test.YtnhpcoagkmgdoaaXDL7
set_option linter.unusedVariables false
set_option linter.unusedSimpArgs false
/- The statement DumpRestarted: the row, from the contract of the law's function. -/
namespace Go.Proofs.Ytnhpcoagkmgdoaa.dumpRestarted
open Go.ChangeShapes Go.WideShapes Go.ChangeAt Go.RowKit Go.Joins Go.Deep Go.Q
set_option linter.unusedVariables false
set_option maxRecDepth 100000 in
theorem lifted (os : Os) (started : os.Started) (H : Type) (enc : TypeId × Value → H) :
  ReturnsInHanded {} Try.checked os 9 .any (Rows.dumpRestartedSpec.pre6 enc Try.prog Try.f9 Rows.dumpRestartedRow.domain false) (Rows.dumpRestartedSpec.post enc Try.prog Try.f9 false true false false) := by
 refine returnsInHanded_of_change (C := Try.checked) rowOwn started (by kernel_rfl) Try.func9
  (ChangeSpec.witness6 (enc := enc) (C := Try.checked) false ⟨#[], #[.agg #[.slice none 0 0, .slice none 0 0, .int .i64 0, .slice none 0 0, .int .i64 0, .int .i64 0, .int .i64 0, .int .i64 0], .agg #[.int .u8 0, .int .u8 0], .slice none 0 0], []⟩ 8 (by kernel_rfl) (by kernel_rfl) (by kernel_rfl) (by kernel_rfl)) ?_
 intro W base args ds gs before hval0 hW hcnd _
 have hval : ∀ (j : Nat) t v, Try.f9.params[j]? = some t → args[j]? = some v → Value.okWide Try.prog W .any base t v := hval0
 have hW' := hW
 obtain ⟨p, q, hA0, hV, rfl, hfz, hnd⟩ := hW
 have hA : DataW.TrodAll enc Try.prog W 0 (fun _ => true) true Try.f9.params.toList args.toList ds p := hA0
 rw [Try.params9] at hA hval
 obtain ⟨v0, vs0, d0, ds0, p0, q0, hargs, rfl, rfl, h0, r0⟩ := trodAll_cons hA
 obtain ⟨v1, vs1, d1, ds1, p1, q1, rfl, rfl, rfl, h1, r1⟩ := trodAll_cons r0
 obtain ⟨v2, vs2, d2, ds2, p2, q2, rfl, rfl, rfl, h2, r2⟩ := trodAll_cons r1
 obtain ⟨rfl, rfl, rfl⟩ := trodAll_nil r2
 obtain rfl : args = #[v0, v1, v2] := by cases args; simp_all
 obtain ⟨rfl, rfl⟩ := trodVars_none hV
 have k0 := h0
 have lt0 : ∀ x ∈ p0, x.block < W.heap.size := by obtain ⟨m, hm⟩ := k0; exact DataW.trod_lt m _ _ _ hm
 obtain ⟨s0, A0, B0⟩ := state_of_trod (hval 0 33 v0 rfl rfl) h0
 have k1 := h1
 have lt1 : ∀ x ∈ p1, x.block < W.heap.size := by obtain ⟨m, hm⟩ := k1; exact DataW.trod_lt m _ _ _ hm
 obtain ⟨m1, n1, rfl, B1, D1⟩ := duo_of_trod (hval 1 48 v1 rfl rfl) h1
 have k2 := h2
 have lt2 : ∀ x ∈ p2, x.block < W.heap.size := by obtain ⟨m, hm⟩ := k2; exact DataW.trod_lt m _ _ _ hm
 obtain ⟨x2, y2, z2, rfl⟩ := okWide_slice Try.underlying44 (hval 2 44 v2 rfl rfl)
 obtain ⟨fu2, hf2⟩ := h2
 obtain ⟨a2, c2, l2, ev2, L2, P2, Q2⟩ := pairs_of_trod (v := .slice x2 y2 z2) (by simpa [Value.cells] using hf2)
 rw [ev2] at k2 hW' ⊢
 clear hA0 hval0
 refine (dumpRestarted_any awakeT _ s0 m1 n1 a2 c2 l2 W A0 B0 B1 D1 P2 Q2 L2).mono fun e W' ⟨he, bel⟩ => ?_
 subst he
 exact ⟨_, rfl, _, _, _, [], _, [], hW', trodAll_mk1 (shut_bool Try.underlying4 _), (trodAll_cons_mk (Below.trod rowLaid (by kernel_rfl) (of_decide_eq_true (by kernel_rfl)) k0 bel lt0) (trodAll_cons_mk (Below.trod rowLaid (by kernel_rfl) (of_decide_eq_true (by kernel_rfl)) k1 bel lt1) (trodAll_cons_mk (Below.trod rowLaid (by kernel_rfl) (of_decide_eq_true (by kernel_rfl)) k2 bel lt2) trodAll_mk0))), rfl, bel.frame _, fun h => by cases h⟩
theorem closed : joinedFacts Try.pinned.checked.prog 9 Try.f9 Rows.dumpRestartedSpec Rows.dumpRestartedRow = true := by
 have hm : (Try.pinned.checked.prog.make == some Rows.dumpRestartedRow.make) = true := factMake
 unfold joinedFacts
 rw [factEnter, factLifted, hm]
 exact of_decide_eq_true (by kernel_rfl)
theorem over : Rows.dumpRestartedRow.holds Try.pinned (OpenSpec.ofChange Rows.dumpRestartedSpec) :=
 OpenClaim.holds_of_wide 9 Try.f9 rfl rfl rfl rfl rfl rfl rfl ⟨rfl, rfl, rfl, rfl, rfl⟩ rfl rfl rfl rfl rfl (by kernel_rfl) Try.func9 closed
  (of_decide_eq_true (by kernel_rfl)) (by unfold Func.isWrapper; first | (rw [if_pos (by decide +kernel)]; kernel_rfl) | (rw [if_neg (by decide +kernel)]; exact ⟨rfl, rfl⟩))
  (fun os started H enc _ => lifted os started H enc)
theorem proved : Rows.DumpRestartedSaid := over
#print axioms proved
end Go.Proofs.Ytnhpcoagkmgdoaa.dumpRestarted

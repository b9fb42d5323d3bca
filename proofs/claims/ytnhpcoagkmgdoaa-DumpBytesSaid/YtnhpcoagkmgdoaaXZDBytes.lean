import Derived.Test.YtnhpcoagkmgdoaaXFrame10
import Derived.Test.YtnhpcoagkmgdoaaXFacts10
import Derived.Test.YtnhpcoagkmgdoaaXDL13
import Derived.Test.YtnhpcoagkmgdoaaXDL6
set_option linter.unusedVariables false
set_option linter.unusedSimpArgs false
/- The statement DumpBytes: the row, from the contract of the law's function. -/
namespace Go.Proofs.Ytnhpcoagkmgdoaa.dumpBytes
open Go.ChangeShapes Go.WideShapes Go.ChangeAt Go.RowKit Go.Joins Go.Deep Go.Q
set_option linter.unusedVariables false
set_option maxRecDepth 100000 in
theorem lifted (os : Os) (started : os.Started) (H : Type) (enc : TypeId × Value → H) :
  ReturnsInHanded {} Try.checked os 8 .any (Rows.dumpBytesSpec.pre6 enc Try.prog Try.f8 Rows.dumpBytesRow.domain false) (Rows.dumpBytesSpec.post enc Try.prog Try.f8 false true false false) := by
 refine returnsInHanded_of_change (C := Try.checked) rowOwn started (by kernel_rfl) Try.func8
  (ChangeSpec.witness6 (enc := enc) (C := Try.checked) false ⟨#[], #[.slice none 0 0], []⟩ 8 (by kernel_rfl) (by kernel_rfl) (by kernel_rfl) (by kernel_rfl)) ?_
 intro W base args ds gs before hval0 hW hcnd _
 have hval : ∀ (j : Nat) t v, Try.f8.params[j]? = some t → args[j]? = some v → Value.okWide Try.prog W .any base t v := hval0
 have hW' := hW
 obtain ⟨p, q, hA0, hV, rfl, hfz, hnd⟩ := hW
 have hA : DataW.TrodAll enc Try.prog W 0 (fun _ => true) true Try.f8.params.toList args.toList ds p := hA0
 rw [Try.params8] at hA hval
 obtain ⟨v0, vs0, d0, ds0, p0, q0, hargs, rfl, rfl, h0, r0⟩ := trodAll_cons hA
 obtain ⟨rfl, rfl, rfl⟩ := trodAll_nil r0
 obtain rfl : args = #[v0] := by cases args; simp_all
 obtain ⟨rfl, rfl⟩ := trodVars_none hV
 have k0 := h0
 have lt0 : ∀ x ∈ p0, x.block < W.heap.size := by obtain ⟨m, hm⟩ := k0; exact DataW.trod_lt m _ _ _ hm
 obtain ⟨x0, y0, z0, rfl⟩ := okWide_slice Try.underlying23 (hval 0 23 v0 rfl rfl)
 obtain ⟨fu0, hf0⟩ := h0
 obtain ⟨a0, c0, l0, ev0, C0, B0, H0⟩ := rows_of_trod (v := .slice x0 y0 z0) (by simpa [Value.cells] using hf0)
 rw [ev0] at k0 hW' ⊢
 clear hA0 hval0
 refine (dumpBytes_any awakeT a0 _ c0 l0 W rfl C0 B0 H0).mono fun e W' ⟨he, bel⟩ => ?_
 subst he
 exact ⟨_, rfl, _, _, _, [], _, [], hW', trodAll_mk1 (shut_bool Try.underlying4 _), (trodAll_cons_mk (Below.trod rowLaid (by kernel_rfl) (of_decide_eq_true (by kernel_rfl)) k0 bel lt0) trodAll_mk0), rfl, bel.frame _, fun h => by cases h⟩
theorem closed : joinedFacts Try.pinned.checked.prog 8 Try.f8 Rows.dumpBytesSpec Rows.dumpBytesRow = true := by
 have hm : (Try.pinned.checked.prog.make == some Rows.dumpBytesRow.make) = true := factMake
 unfold joinedFacts
 rw [factEnter, factLifted, hm]
 exact of_decide_eq_true (by kernel_rfl)
theorem over : Rows.dumpBytesRow.holds Try.pinned (OpenSpec.ofChange Rows.dumpBytesSpec) :=
 OpenClaim.holds_of_wide 8 Try.f8 rfl rfl rfl rfl rfl rfl rfl ⟨rfl, rfl, rfl, rfl, rfl⟩ rfl rfl rfl rfl rfl (by kernel_rfl) Try.func8 closed
  (of_decide_eq_true (by kernel_rfl)) (by unfold Func.isWrapper; first | (rw [if_pos (by decide +kernel)]; kernel_rfl) | (rw [if_neg (by decide +kernel)]; exact ⟨rfl, rfl⟩))
  (fun os started H enc _ => lifted os started H enc)
theorem proved : Rows.DumpBytesSaid := over
#print axioms proved
end Go.Proofs.Ytnhpcoagkmgdoaa.dumpBytes

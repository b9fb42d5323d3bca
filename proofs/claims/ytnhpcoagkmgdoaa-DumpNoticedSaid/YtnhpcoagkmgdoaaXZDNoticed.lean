import Derived.Test.YtnhpcoagkmgdoaaXFrame10
import Derived.Test.YtnhpcoagkmgdoaaXFacts10
import Derived.Test.YtnhpcoagkmgdoaaXDL13
import Derived.Test.YtnhpcoagkmgdoaaXDL5
set_option linter.unusedVariables false
set_option linter.unusedSimpArgs false
/- The statement DumpNoticed: the row, from the contract of the law's function. -/
namespace Go.Proofs.Ytnhpcoagkmgdoaa.dumpNoticed
open Go.ChangeShapes Go.WideShapes Go.ChangeAt Go.RowKit Go.Joins Go.Deep Go.Q
set_option linter.unusedVariables false
set_option maxRecDepth 100000 in
theorem lifted (os : Os) (started : os.Started) (H : Type) (enc : TypeId × Value → H) :
  ReturnsInHanded {} Try.checked os 7 .any (Rows.dumpNoticedSpec.pre6 enc Try.prog Try.f7 Rows.dumpNoticedRow.domain false) (Rows.dumpNoticedSpec.post enc Try.prog Try.f7 false true false false) := by
 refine returnsInHanded_of_change (C := Try.checked) rowOwn started (by kernel_rfl) Try.func7
  (ChangeSpec.witness6 (enc := enc) (C := Try.checked) false ⟨#[], #[.slice none 0 0, .int .u8 0, .agg #[.int .u8 0, .int .u8 0, .int .u8 0, .int .u8 0]], []⟩ 8 (by kernel_rfl) (by kernel_rfl) (by kernel_rfl) (by kernel_rfl)) ?_
 intro W base args ds gs before hval0 hW hcnd _
 have hval : ∀ (j : Nat) t v, Try.f7.params[j]? = some t → args[j]? = some v → Value.okWide Try.prog W .any base t v := hval0
 have hW' := hW
 obtain ⟨p, q, hA0, hV, rfl, hfz, hnd⟩ := hW
 have hA : DataW.TrodAll enc Try.prog W 0 (fun _ => true) true Try.f7.params.toList args.toList ds p := hA0
 rw [Try.params7] at hA hval
 obtain ⟨v0, vs0, d0, ds0, p0, q0, hargs, rfl, rfl, h0, r0⟩ := trodAll_cons hA
 obtain ⟨v1, vs1, d1, ds1, p1, q1, rfl, rfl, rfl, h1, r1⟩ := trodAll_cons r0
 obtain ⟨v2, vs2, d2, ds2, p2, q2, rfl, rfl, rfl, h2, r2⟩ := trodAll_cons r1
 obtain ⟨rfl, rfl, rfl⟩ := trodAll_nil r2
 obtain rfl : args = #[v0, v1, v2] := by cases args; simp_all
 obtain ⟨rfl, rfl⟩ := trodVars_none hV
 have k0 := h0
 have lt0 : ∀ x ∈ p0, x.block < W.heap.size := by obtain ⟨m, hm⟩ := k0; exact DataW.trod_lt m _ _ _ hm
 obtain ⟨x0, y0, z0, rfl⟩ := okWide_slice Try.underlying22 (hval 0 22 v0 rfl rfl)
 obtain ⟨fu0, hf0⟩ := h0
 obtain ⟨a0, c0, l0, ev0, B0, I0⟩ := ints_of_trod (v := .slice x0 y0 z0) (by simpa [Value.cells] using hf0)
 rw [ev0] at k0 hW' ⊢
 obtain ⟨u1, rfl, rfl, rfl, w1⟩ := open_int Try.underlying5 (hval 1 5 v1 rfl rfl) h1
 have bu1 := u8_bd w1
 obtain ⟨m1, rfl⟩ := Int.eq_ofNat_of_zero_le bu1.1
 have B1 : m1 < 256 := by omega
 have k2 := h2
 have lt2 : ∀ x ∈ p2, x.block < W.heap.size := by obtain ⟨m, hm⟩ := k2; exact DataW.trod_lt m _ _ _ hm
 obtain ⟨a2, b2, c2, e2, rfl, A2, B2, C2, E2⟩ := quad_of_trod (hval 2 49 v2 rfl rfl) h2
 clear hA0 hval0
 refine (dumpNoticed_any awakeT a0 _ c0 m1 a2 b2 c2 e2 l0 W rfl B0 I0 B1 A2 B2 C2 E2).mono fun e W' ⟨he, bel⟩ => ?_
 subst he
 exact ⟨_, rfl, _, _, _, [], _, [], hW', trodAll_mk1 (shut_bool Try.underlying4 _), (trodAll_cons_mk (Below.trod rowLaid (by kernel_rfl) (of_decide_eq_true (by kernel_rfl)) k0 bel lt0) (trodAll_cons_mk (shut_int Try.underlying5 w1) (trodAll_cons_mk (Below.trod rowLaid (by kernel_rfl) (of_decide_eq_true (by kernel_rfl)) k2 bel lt2) trodAll_mk0))), rfl, bel.frame _, fun h => by cases h⟩
theorem closed : joinedFacts Try.pinned.checked.prog 7 Try.f7 Rows.dumpNoticedSpec Rows.dumpNoticedRow = true := by
 have hm : (Try.pinned.checked.prog.make == some Rows.dumpNoticedRow.make) = true := factMake
 unfold joinedFacts
 rw [factEnter, factLifted, hm]
 exact of_decide_eq_true (by kernel_rfl)
theorem over : Rows.dumpNoticedRow.holds Try.pinned (OpenSpec.ofChange Rows.dumpNoticedSpec) :=
 OpenClaim.holds_of_wide 7 Try.f7 rfl rfl rfl rfl rfl rfl rfl ⟨rfl, rfl, rfl, rfl, rfl⟩ rfl rfl rfl rfl rfl (by kernel_rfl) Try.func7 closed
  (of_decide_eq_true (by kernel_rfl)) (by unfold Func.isWrapper; first | (rw [if_pos (by decide +kernel)]; kernel_rfl) | (rw [if_neg (by decide +kernel)]; exact ⟨rfl, rfl⟩))
  (fun os started H enc _ => lifted os started H enc)
theorem proved : Rows.DumpNoticedSaid := over
#print axioms proved
end Go.Proofs.Ytnhpcoagkmgdoaa.dumpNoticed

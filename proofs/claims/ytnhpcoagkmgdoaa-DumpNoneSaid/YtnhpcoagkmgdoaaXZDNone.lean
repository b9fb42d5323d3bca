import Derived.SizedLaws
import Derived.Test.YtnhpcoagkmgdoaaXFrame10
import Derived.Test.YtnhpcoagkmgdoaaXFacts10
import Derived.Test.YtnhpcoagkmgdoaaXDL13
import Derived.Test.YtnhpcoagkmgdoaaXDL12
set_option linter.unusedVariables false
set_option linter.unusedSimpArgs false
/- The statement DumpNone: the row, from the contract of the law's function. -/
namespace Go.Proofs.Ytnhpcoagkmgdoaa.dumpNone
open Go.ChangeShapes Go.WideShapes Go.ChangeAt Go.RowKit Go.Joins Go.Deep Go.Q
set_option linter.unusedVariables false
set_option maxRecDepth 100000 in
theorem lifted (os : Os) (started : os.Started) (H : Type) (enc : TypeId × Value → H) :
  ReturnsInHanded {} Try.checked os 12 .any (Rows.dumpNoneSpec.pre6 enc Try.prog Try.f12 Rows.dumpNoneRow.domain false) (Rows.dumpNoneSpec.post enc Try.prog Try.f12 false true false false) := by
 refine returnsInHanded_of_change_sized (C := Try.checked) rowOwn started (by kernel_rfl) Try.func12
  (ChangeSpec.witness6 (enc := enc) (C := Try.checked) false ⟨#[], #[.agg #[.slice none 0 0, .slice none 0 0, .int .i64 0, .slice none 0 0, .int .i64 0, .int .i64 0, .int .i64 0, .int .i64 0], .slice none 0 0, .int .u8 0], []⟩ 8 (by kernel_rfl) (by kernel_rfl) (by kernel_rfl) (by kernel_rfl)) ?_
 intro W base args ds gs before hval0 hW hcnd hsz _
 have hval : ∀ (j : Nat) t v, Try.f12.params[j]? = some t → args[j]? = some v → Value.okWide Try.prog W .any base t v := hval0
 have hW' := hW
 obtain ⟨p, q, hA0, hV, rfl, hfz, hnd⟩ := hW
 have hA : DataW.TrodAll enc Try.prog W 0 (fun _ => true) true Try.f12.params.toList args.toList ds p := hA0
 rw [Try.params12] at hA hval
 obtain ⟨v0, vs0, d0, ds0, p0, q0, hargs, rfl, rfl, h0, r0⟩ := trodAll_cons hA
 obtain ⟨v1, vs1, d1, ds1, p1, q1, rfl, rfl, rfl, h1, r1⟩ := trodAll_cons r0
 obtain ⟨v2, vs2, d2, ds2, p2, q2, rfl, rfl, rfl, h2, r2⟩ := trodAll_cons r1
 obtain ⟨rfl, rfl, rfl⟩ := trodAll_nil r2
 obtain rfl : args = #[v0, v1, v2] := by cases args; simp_all
 obtain ⟨rfl, rfl⟩ := trodVars_none hV
 have k0 := h0
 have lt0 : ∀ x ∈ p0, x.block < W.heap.size := by obtain ⟨m, hm⟩ := k0; exact DataW.trod_lt m _ _ _ hm
 obtain ⟨s0, A0, B0⟩ := state_of_trod (hval 0 33 v0 rfl rfl) h0
 have k1 := h1
 have lt1 : ∀ x ∈ p1, x.block < W.heap.size := by obtain ⟨m, hm⟩ := k1; exact DataW.trod_lt m _ _ _ hm
 obtain ⟨x1, y1, z1, rfl⟩ := okWide_slice Try.underlying42 (hval 1 42 v1 rfl rfl)
 obtain ⟨fu1, hf1⟩ := h1
 obtain ⟨a1, c1, l1, ev1, L1, I1, H1⟩ := losses_of_trod (v := .slice x1 y1 z1) (by simpa [Value.cells] using hf1)
 have W1 : l1.length * 24 ≤ 140737488351232 := by
  obtain ⟨-, hy, -⟩ := Value.slice.inj ev1
  rcases losses_data (by simpa [Value.cells] using hf1) with h | ⟨es, sp, hd, hes⟩
  ·omega
  ·have := sized_slice hsz (j := 1) rfl (by rw [← hd]; rfl) Try.underlying42
   rw [show Try.checked.prog.bytesOf 61 = 24 by kernel_rfl, hes, hy] at this
   unfold reachBytes at this
   omega
 rw [ev1] at k1 hW' ⊢
 obtain ⟨u2, rfl, rfl, rfl, w2⟩ := open_int Try.underlying5 (hval 2 5 v2 rfl rfl) h2
 have bu2 := u8_bd w2
 obtain ⟨m2, rfl⟩ := Int.eq_ofNat_of_zero_le bu2.1
 have B2 : m2 < 256 := by omega
 clear hA0 hval0
 refine (dumpNone_any awakeT _ s0 a1 _ c1 m2 l1 W A0 B0 rfl W1 I1 H1 B2).mono fun e W' ⟨he, bel⟩ => ?_
 subst he
 exact ⟨_, rfl, _, _, _, [], _, [], hW', trodAll_mk1 (shut_bool Try.underlying4 _), (trodAll_cons_mk (Below.trod rowLaid (by kernel_rfl) (of_decide_eq_true (by kernel_rfl)) k0 bel lt0) (trodAll_cons_mk (Below.trod rowLaid (by kernel_rfl) (of_decide_eq_true (by kernel_rfl)) k1 bel lt1) (trodAll_cons_mk (shut_int Try.underlying5 w2) trodAll_mk0))), rfl, bel.frame _, fun h => by cases h⟩
theorem closed : joinedFacts Try.pinned.checked.prog 12 Try.f12 Rows.dumpNoneSpec Rows.dumpNoneRow = true := by
 have hm : (Try.pinned.checked.prog.make == some Rows.dumpNoneRow.make) = true := factMake
 unfold joinedFacts
 rw [factEnter, factLifted, hm]
 exact of_decide_eq_true (by kernel_rfl)
theorem over : Rows.dumpNoneRow.holds Try.pinned (OpenSpec.ofChange Rows.dumpNoneSpec) :=
 OpenClaim.holds_of_wide 12 Try.f12 rfl rfl rfl rfl rfl rfl rfl ⟨rfl, rfl, rfl, rfl, rfl⟩ rfl rfl rfl rfl rfl (by kernel_rfl) Try.func12 closed
  (of_decide_eq_true (by kernel_rfl)) (by unfold Func.isWrapper; first | (rw [if_pos (by decide +kernel)]; kernel_rfl) | (rw [if_neg (by decide +kernel)]; exact ⟨rfl, rfl⟩))
  (fun os started H enc _ => lifted os started H enc)
theorem proved : Rows.DumpNoneSaid := over
#print axioms proved
end Go.Proofs.Ytnhpcoagkmgdoaa.dumpNone

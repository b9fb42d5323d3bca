import Derived.Test.YtcijneecjkpebaaU17
import Derived.Test.YtcijneecjkpebaaU11
import Derived.Test.YtcijneecjkpebaaU5
import Derived.Test.YtcijneecjkpebaaUP1
import Derived.Test.YtcijneecjkpebaaU22
import Derived.Test.YtcijneecjkpebaaU23
set_option linter.unusedVariables false
set_option linter.unusedSimpArgs false
/- Layer 8 in plain Lean: the examples' own values. -/
namespace Go.Q
def nmRoot : ByteArray := ⟨#[114, 111, 111, 116]⟩
def nmQuot : ByteArray := ⟨#[113, 117, 111, 116]⟩
/-- the catalogue of the examples -/
def catC : List En := [⟨nmRoot, 1, codeQ 1⟩, ⟨nmQuot, 3, codeQ 2⟩]
theorem aw_value : valueE 1 [2097152] = (4194304, 0) := by decide +kernel
theorem aw_accept : acceptE 1 [2097152] 4194303 = (false, 0) := by decide +kernel
theorem aw_place : placeE (codeQ 1) 107 = ([], 3) := by decide +kernel
theorem aw_sound : soundE catC = 0 := by decide +kernel
theorem aw_build : (buildE catC 2 [⟨nmRoot, [0], 2⟩]).1 = 7 ∧ (buildE catC 2 [⟨nmRoot, [0], 2⟩]).2.1.length = 33 ∧ (buildE catC 2 [⟨nmRoot, [0], 2⟩]).2.1[3]? = some (written ⟨1, 7, 25, 11⟩) ∧ (buildE catC 2 [⟨nmRoot, [0], 2⟩]).2.2 = 0 := by decide +kernel
theorem aw_punch : (punchE (catC.take 1)).1.length = 58 ∧ (punchE (catC.take 1)).1[1]? = some 4 ∧ (punchE (catC.take 1)).1[2]? = some 114 ∧ (punchE (catC.take 1)).2 = 0 := by decide +kernel
theorem aw_diff : (diffE catC catC).1.length = 0 ∧ (diffE catC catC).2 = 0 := by decide +kernel
theorem aw_code : (codeQ 1).words.length = 22 ∧ (codeQ 1).masks.length = 22 ∧ (codeQ 1).entry = 0 ∧ (codeQ 1).exit = 14 ∧ (codeQ 1).result = 18 ∧ (codeQ 1).args = [17] := by decide +kernel
end Go.Q
/- Layer 8: the catalogue of the examples. -/
namespace Go.Proofs.Ytcijneecjkpebaa
open Go.RowKit Go.Q
/-- what Catalogue returns -/
def CatRes (w : World) (e : Ending) (w' : World) : Prop := ∃ a L, e = .returned (.slice a 2 2) ∧ CatAt w' a catC L ∧ Ext w w'
set_option maxRecDepth 100000 in
set_option maxHeartbeats 4000000 in
theorem law_catalogue (w : World) : Calls Try.prog 56 #[] w (CatRes w) := by
  have m1 := fun W => rb_made1 W
  have m2 := fun W => rb_made2 W
  have hcc : catC = [⟨nmRoot, 1, codeQ 1⟩, ⟨nmQuot, 3, codeQ 2⟩] := rfl
  obtain ⟨C, hC⟩ : ∃ C, catC = C := ⟨_, rfl⟩
  unfold CatRes
  rw [hC] at hcc ⊢
  obtain ⟨k1, hk1⟩ : ∃ k1, codeQ 1 = k1 := ⟨_, rfl⟩
  obtain ⟨k2, hk2⟩ : ∃ k2, codeQ 2 = k2 := ⟨_, rfl⟩
  rw [hk1] at m1 hcc
  rw [hk2] at m2 hcc
  have HCC := Lib.hid hcc
  clear hC hk1 hk2 hcc
  go_enter Try.func56, Try.ntmps56
  go_wp2_with fail
  refine (m1 _).mono ?_
  rintro e w1 ⟨l1, rfl, hr1, E1⟩
  have HR1 := Lib.hid hr1
  have HE1 := Lib.hid E1
  clear m1 hr1 E1
  go_wp2_with fail
  refine (m2 _).mono ?_
  rintro e w2 ⟨l2, rfl, hr2, E2⟩
  have HR2 := Lib.hid hr2
  have HE2 := Lib.hid E2
  clear m2 hr2 E2
  go_wp2_with fail
  go_ret
  have hb := Blk.nw w2 (ecs ⟨nmRoot, 1, k1⟩ l1 ++ ecs ⟨nmQuot, 3, k2⟩ l2).toArray 63
  have EX : Ext w2 (w2.alloc (.cells (ecs ⟨nmRoot, 1, k1⟩ l1 ++ ecs ⟨nmQuot, 3, k2⟩ l2).toArray 63)) := (Ext.refl w2).alloc _
  refine ⟨some ⟨w2.heap.size, 0, none⟩, fun i => if i = 0 then l1 else l2, rfl, ?_, (HE1.out.comp HE2.out).comp EX⟩
  rw [HCC.out]
  refine .inr ⟨_, 0, rfl, hb.lt, fun i x hx => ?_⟩
  have hi : i < 2 := by
    rcases Nat.lt_or_ge i 2 with h | h
    · exact h
    · rw [List.getElem?_eq_none (by exact h)] at hx; cases hx
  rcases (show i = 0 ∨ i = 1 by omega) with rfl | rfl <;> cases hx
  · refine ⟨fun j v hv => hb.c _ ?_, HR1.out.ext (HE2.out.comp EX)⟩
    rw [List.getElem?_toArray, Nat.zero_mul, Nat.zero_add, List.getElem?_append_left]
    · exact hv
    · rcases Nat.lt_or_ge j 8 with h | h
      · exact h
      · rw [List.getElem?_eq_none (by exact h)] at hv; cases hv
  · refine ⟨fun j v hv => hb.c _ ?_, HR2.out.ext EX⟩
    rw [List.getElem?_toArray, Nat.one_mul, Nat.zero_add, List.getElem?_append_right (by show 8 ≤ _; omega), show (ecs ⟨nmRoot, 1, k1⟩ l1).length = 8 from rfl, Nat.add_sub_cancel_left]
    exact hv
end Go.Proofs.Ytcijneecjkpebaa

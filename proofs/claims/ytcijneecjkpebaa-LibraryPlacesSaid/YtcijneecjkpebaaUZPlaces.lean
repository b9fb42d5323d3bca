import Derived.Test.YtcijneecjkpebaaU29
import Derived.Test.YtcijneecjkpebaaU32
import Derived.Test.YtcijneecjkpebaaUFrame8b
import Derived.Test.YtcijneecjkpebaaUFacts10
set_option linter.unusedVariables false
set_option linter.unusedSimpArgs false
/- The law LibraryPlaces: Place is that of the reference. -/
namespace Go.Proofs.Ytcijneecjkpebaa
open Go.RowKit Go.Q
set_option maxRecDepth 100000 in
set_option maxHeartbeats 4000000 in
theorem places8_any (c : Rt) (l : Lo) (base : Int) (w : World) (h : RtAt w c l) (hb : RtBd c) :
    Calls Try.prog 4 #[.agg #[.slice l.a1 c.words.length l.c1, .slice l.a2 c.masks.length l.c2, .int .i64 c.entry, .int .i64 c.exit, .int .i64 c.result, .slice l.a3 c.args.length l.c3], .int .i64 base] w fun e w' => e = .returned (.bool true) ∧ Ext w w' := by
  have hp1 := fun W (E : Ext w W) => lb_Place c l base W (h.ext E) hb
  have hp2 := fun W (E : Ext w W) => rb_Place c l base W (h.ext E) hb
  have hpl : (placeE c base).1.length ≤ 9223372036854775807 := by
    have hb1 := hb.b1
    unfold placeE
    split
    · simp
    split
    · simp
    split
    · simp
    · unfold placeL; rw [placeN_length]; exact hb1
  obtain ⟨p, hp⟩ : ∃ p, placeE c base = p := ⟨_, rfl⟩
  rw [hp] at hp1 hp2 hpl
  obtain ⟨xs, er⟩ := p
  unfold IntsRes at hp1 hp2
  dsimp only at hp1 hp2 hpl
  obtain ⟨n1, hn1⟩ : ∃ n1, c.words.length = n1 := ⟨_, rfl⟩
  obtain ⟨n2, hn2⟩ : ∃ n2, c.masks.length = n2 := ⟨_, rfl⟩
  obtain ⟨n3, hn3⟩ : ∃ n3, c.args.length = n3 := ⟨_, rfl⟩
  obtain ⟨nx, hnx⟩ : ∃ nx, xs.length = nx := ⟨_, rfl⟩
  rw [hn1, hn2, hn3, hnx] at hp1 hp2
  rw [hn1, hn2, hn3]
  rw [hnx] at hpl
  have HNX := Lib.hid hnx
  clear hp hn1 hn2 hn3 hnx h hb
  go_enter Try.func4, Try.ntmps4
  go_upto_region 1 with fail
  have hbx := Blk.nw w #[.slice l.a1 n1 l.c1, .slice l.a2 n2 l.c2, .int .i64 c.entry, .int .i64 c.exit, .int .i64 c.result, .slice l.a3 n3 l.c3] 24
  have EX1 : Ext w (w.alloc (.cells #[.slice l.a1 n1 l.c1, .slice l.a2 n2 l.c2, .int .i64 c.entry, .int .i64 c.exit, .int .i64 c.result, .slice l.a3 n3 l.c3] 24)) := (Ext.refl w).alloc _
  generalize w.alloc (.cells #[.slice l.a1 n1 l.c1, .slice l.a2 n2 l.c2, .int .i64 c.entry, .int .i64 c.exit, .int .i64 c.result, .slice l.a3 n3 l.c3] 24) = X1 at hbx EX1 ⊢
  obtain ⟨b1, hb1⟩ : ∃ b1, w.heap.size = b1 := ⟨_, rfl⟩
  rw [hb1] at hbx ⊢
  have q0 := Blk.c hbx 0 (v := .slice l.a1 n1 l.c1) rfl
  have q1 := Blk.c hbx 1 (v := .slice l.a2 n2 l.c2) rfl
  have q2 := Blk.c hbx 2 (v := .int .i64 c.entry) rfl
  have q3 := Blk.c hbx 3 (v := .int .i64 c.exit) rfl
  have q4 := Blk.c hbx 4 (v := .int .i64 c.result) rfl
  have q5 := Blk.c hbx 5 (v := .slice l.a3 n3 l.c3) rfl
  have hl1 := hbx.lt
  have HBX := Lib.hid hbx
  have HX1 := Lib.hid EX1
  have HB1 := Lib.hid hb1
  clear hbx EX1 hb1
  go_wp2_with fail
  refine (hp1 _ HX1.out).mono ?_
  rintro e w2 ⟨a2, c2, rfl, ho2, E2⟩
  have HO2 := Lib.hid ho2
  have HE2 := Lib.hid (HX1.out.comp E2)
  have hbx2 := HBX.out.ex E2
  clear hp1 ho2 E2 q0 q1 q2 q3 q4 q5
  have q0 := Blk.c hbx2 0 (v := .slice l.a1 n1 l.c1) rfl
  have q1 := Blk.c hbx2 1 (v := .slice l.a2 n2 l.c2) rfl
  have q2 := Blk.c hbx2 2 (v := .int .i64 c.entry) rfl
  have q3 := Blk.c hbx2 3 (v := .int .i64 c.exit) rfl
  have q4 := Blk.c hbx2 4 (v := .int .i64 c.result) rfl
  have q5 := Blk.c hbx2 5 (v := .slice l.a3 n3 l.c3) rfl
  have hl2 := hbx2.lt
  clear hbx2
  go_wp2_with fail
  refine (hp2 _ HE2.out).mono ?_
  rintro e w3 ⟨a3, c3, rfl, ho3, E3⟩
  have hin := ints_any a2 a3 nx nx c2 c3 xs xs w3 HNX.out HNX.out hpl hpl ((own_intsL HO2.out).ext E3) (own_intsL ho3)
  rw [decide_eq_true rfl] at hin
  have HE3 := Lib.hid (HE2.out.comp E3)
  have hne : (er == er) = true := by simp
  clear hp2 ho3 E3 q0 q1 q2 q3 q4 q5
  go_wp2_with fail
  refine hin.mono ?_
  rintro e w4 ⟨rfl, E4⟩
  have HE4 := Lib.hid (HE3.out.comp E4)
  clear hin E4
  go_wp2_with fail
  refine (awake8_any _).mono ?_
  rintro e w5 ⟨rfl, E5⟩
  have HE5 := Lib.hid (HE4.out.comp E5)
  clear E5
  go_wp2_with fail
  go_ret
  exact ⟨rfl, HE5.out⟩
end Go.Proofs.Ytcijneecjkpebaa
/- The statement LibraryPlaces: the row, from the contract of the law's function. -/
namespace Go.Proofs.Ytcijneecjkpebaa.libraryPlaces
open Go.ChangeShapes Go.WideShapes Go.ChangeAt Go.RowKit Go.Joins Go.Deep Go.Q
set_option linter.unusedVariables false
set_option maxRecDepth 100000 in
theorem lifted (os : Os) (started : os.Started) (H : Type) (enc : TypeId × Value → H) :
    ReturnsInHanded {} Try.checked os 4 .any (Rows.libraryPlacesSpec.pre6 enc Try.prog Try.f4 Rows.libraryPlacesRow.domain false) (Rows.libraryPlacesSpec.post enc Try.prog Try.f4 false true false false) := by
  refine returnsInHanded_of_change (C := Try.checked) rowOwn started (by kernel_rfl) Try.func4
    (ChangeSpec.witness6 (enc := enc) (C := Try.checked) false ⟨#[], #[.agg #[.slice none 0 0, .slice none 0 0, .int .i64 0, .int .i64 0, .int .i64 0, .slice none 0 0], .int .i64 0], []⟩ 8 (by kernel_rfl) (by kernel_rfl) (by kernel_rfl) (by kernel_rfl)) ?_
  intro W base args ds gs before hval0 hW hcnd _
  have hval : ∀ (j : Nat) t v, Try.f4.params[j]? = some t → args[j]? = some v → Value.okWide Try.prog W .any base t v := hval0
  have hW' := hW
  obtain ⟨p, q, hA0, hV, rfl, hfz, hnd⟩ := hW
  have hA : DataW.TrodAll enc Try.prog W 0 (fun _ => true) true Try.f4.params.toList args.toList ds p := hA0
  rw [Try.params4] at hA hval
  obtain ⟨v0, vs0, d0, ds0, p0, q0, hargs, rfl, rfl, h0, r0⟩ := trodAll_cons hA
  obtain ⟨v1, vs1, d1, ds1, p1, q1, rfl, rfl, rfl, h1, r1⟩ := trodAll_cons r0
  obtain ⟨rfl, rfl, rfl⟩ := trodAll_nil r1
  obtain rfl : args = #[v0, v1] := by cases args; simp_all
  obtain ⟨rfl, rfl⟩ := trodVars_none hV
  have k0 := h0
  have lt0 : ∀ x ∈ p0, x.block < W.heap.size := by obtain ⟨m, hm⟩ := k0; exact DataW.trod_lt m _ _ _ hm
  obtain ⟨c0, l0, rfl, A0, B0⟩ := code_of_trod (hval 0 24 v0 rfl rfl) h0
  obtain ⟨a1, rfl, rfl, rfl, w1⟩ := open_int Try.underlying3 (hval 1 3 v1 rfl rfl) h1
  clear hA0 hval0
  refine (places8_any c0 l0 a1 W A0 B0).mono fun e W' ⟨he, bel⟩ => ?_
  subst he
  exact ⟨_, rfl, _, _, _, [], _, [], hW', trodAll_mk1 (shut_bool Try.underlying4 _), (trodAll_cons_mk (Below.trod rowLaid (by kernel_rfl) (of_decide_eq_true (by kernel_rfl)) k0 bel lt0) (trodAll_cons_mk (shut_int Try.underlying3 w1) trodAll_mk0)), rfl, bel.frame _, fun h => by cases h⟩
theorem closed : joinedFacts Try.pinned.checked.prog 4 Try.f4 Rows.libraryPlacesSpec Rows.libraryPlacesRow = true := by
  have hm : (Try.pinned.checked.prog.make == some Rows.libraryPlacesRow.make) = true := factMake
  unfold joinedFacts
  rw [factEnter, factLifted, hm]
  exact of_decide_eq_true (by kernel_rfl)
theorem over : Rows.libraryPlacesRow.holds Try.pinned (OpenSpec.ofChange Rows.libraryPlacesSpec) :=
  OpenClaim.holds_of_wide 4 Try.f4 rfl rfl rfl rfl rfl rfl rfl ⟨rfl, rfl, rfl, rfl, rfl⟩ rfl rfl rfl rfl rfl (by kernel_rfl) Try.func4 closed
    (of_decide_eq_true (by kernel_rfl)) (by unfold Func.isWrapper; first | (rw [if_pos (by decide +kernel)]; kernel_rfl) | (rw [if_neg (by decide +kernel)]; exact ⟨rfl, rfl⟩))
    (fun os started H enc _ => lifted os started H enc)
theorem proved : Rows.LibraryPlacesSaid := over
#print axioms proved
end Go.Proofs.Ytcijneecjkpebaa.libraryPlaces

import Derived.Test.YtbcciokmlkofkaaGreatWB6
import Derived.Test.YtbcciokmlkofkaaGreatWC2
set_option linter.unusedVariables false
set_option linter.unusedSimpArgs false
/- Contract: Awake returns true. -/
namespace Go.Proofs.YtbcciokmlkofkaaGreat
open Go.RowKit Go.Q
def storeQ : List Int := [12583560, 0, 0, 0, 0, 0, 0, 0, 10569226, 0, 4278016, 0, 14909453, 0, 0]
def st0 : St := (beginQ storeQ [3, 4, 16777215] 0).1
theorem aw_begin : (beginQ storeQ [3, 4, 16777215] 0).2 = 0 := by decide +kernel
theorem aw_len : st0.store.length = 128 ∧ st0.tape.length = 3 ∧ st0.printed.length = 0 := by decide +kernel
theorem aw_run : (runE st0 100).2 = 0 ∧ (runE st0 100).1.store.length = 128 ∧ (runE st0 100).1.store[14]?.getD 0 = 7 ∧ (runE st0 100).1.store[5]?.getD 0 = 16777215 ∧ (runE st0 100).1.printed = [7] ∧
    (runE st0 100).1.done = 9 ∧ (runE st0 100).1.at_ = 13 ∧ (runE st0 100).1.time = 141 ∧ (runE st0 100).1.why = 1 := by decide +kernel
theorem aw_trace : (traceE st0 3).2 = 0 ∧ (traceE st0 3).1.length = 3 ∧ (scs (traceE st0 3).1).length = 21 := by decide +kernel
theorem aw_untils : (traceE st0 3).1.map Stp.until_ = [8, 26, 48] := by decide +kernel
theorem aw_words : signedQ 8388608 = (-8388608, 0) ∧ signedQ 16777216 = (0, 7) := by decide +kernel
theorem aw_dec : (decQ 10569226).2 = 0 ∧ (decQ 10569226).1.op = 5 ∧ (decQ 10569226).1.frm = 5 ∧ (decQ 10569226).1.to = 12 ∧ (decQ 10569226).1.nxt = 10 := by decide +kernel
theorem scs_three {l : List Stp} (hl : l.length = 3) (hu : l.map Stp.until_ = [8, 26, 48]) : (scs l)[6]? = some (.int .i64 8) ∧ (scs l)[13]? = some (.int .i64 26) ∧ (scs l)[20]? = some (.int .i64 48) := by
  match l, hl with
  | [x, y, z], _ =>
    simp only [List.map_cons, List.map_nil, List.cons.injEq, and_true] at hu
    obtain ⟨h1, h2, h3⟩ := hu
    simp [scs, sc, h1, h2, h3]
/-- what Awake is told of the run -/
def AwRun (w : World) (e : Ending) (w' : World) : Prop :=
  ∃ b off c1 d2 c2 n2 d3 c3 tk, e = .returned (.tuple #[sv (some ⟨b, off, none⟩) d2 d3 128 c1 n2 c2 1 c3 tk 141 13 9 1, .int .i64 0]) ∧ b < w'.heap.size ∧ w'.cell? ⟨b, off + 14, none⟩ = some (.int .i64 7) ∧ w'.cell? ⟨b, off + 5, none⟩ = some (.int .i64 16777215) ∧
    IntsAt w' d3 [7] ∧ Ext w w'
theorem awRun_any (v : Value) (w : World) (h : StAt w v st0) : Calls Tryz.prog 10 #[v, .int .i64 100] w (AwRun w) := by
  obtain ⟨f0, f1, f2, f3, f4, f5, f6, f7, f8⟩ := aw_run
  refine (runE_any v st0 100 w h (by obtain ⟨l1, l2, l3⟩ := aw_len; exact ⟨by omega, by omega, by omega⟩)).mono ?_
  rintro e w' ⟨v', rfl, ⟨a1, a2, a3, k1, k2, k3, rfl, I1, I2, I3⟩, hE⟩
  rcases I1 with e | ⟨b, off, rfl, hb, hc⟩
  · rw [e] at f1; cases f1
  refine ⟨b, off, k1, a2, k2, (runE st0 100).1.tape.length, a3, k3, (runE st0 100).1.taken, ?_, hb, ?_, ?_, ?_, hE⟩
  · rw [f0, f1, f4, f5, f6, f7, f8]; rfl
  · have := hc 14 (by rw [f1]; decide); rw [f2] at this; exact this
  · have := hc 5 (by rw [f1]; decide); rw [f3] at this; exact this
  · rw [f4] at I3; exact I3
def AwTrace (w : World) (e : Ending) (w' : World) : Prop :=
  ∃ b off c, e = .returned (.tuple #[.slice (some ⟨b, off, none⟩) 3 c, .int .i64 0]) ∧ b < w'.heap.size ∧ w'.cell? ⟨b, off + 6, none⟩ = some (.int .i64 8) ∧ w'.cell? ⟨b, off + 13, none⟩ = some (.int .i64 26) ∧ w'.cell? ⟨b, off + 20, none⟩ = some (.int .i64 48) ∧ Ext w w'
theorem awTrace_any (v : Value) (w : World) (h : StAt w v st0) : Calls Tryz.prog 34 #[v, .int .i64 3] w (AwTrace w) := by
  obtain ⟨f0, f1, f2⟩ := aw_trace
  obtain ⟨u1, u2, u3⟩ := scs_three f1 aw_untils
  refine (traceE_any v st0 3 w h (by obtain ⟨l1, l2, l3⟩ := aw_len; exact ⟨by omega, by omega, by omega⟩)).mono ?_
  rintro e w' ⟨a, c, rfl, I1, hE⟩
  rcases I1 with e | ⟨b, off, rfl, hb, hc⟩
  · rw [e] at f1; cases f1
  exact ⟨b, off, c, by rw [f0, f1], hb, hc 6 _ u1, hc 13 _ u2, hc 20 _ u3, hE⟩
theorem store_any (w : World) : Calls Tryz.prog 33 #[] w fun e w' => e = .returned (.slice (some ⟨w.heap.size, 0, none⟩) 15 15) ∧ w.alloc (.cells (iv storeQ).toArray 3) = w' := by
  go_enter Tryz.func33, Tryz.ntmps33
  go_wp2
  go_ret
  exact ⟨rfl, rfl⟩
end Go.Proofs.YtbcciokmlkofkaaGreat
/- Contract: Awake returns true. -/
namespace Go.Proofs.YtbcciokmlkofkaaGreat
open Go.RowKit Go.Q
/-- Begin on the words of the example: its state in the sv form -/
def AwBegin (w : World) (e : Ending) (w' : World) : Prop :=
  ∃ a1 a2 a3 c1 c2 c3 tk tm at_ dn wy, e = .returned (.tuple #[sv a1 a2 a3 128 c1 3 c2 0 c3 tk tm at_ dn wy, .int .i64 0]) ∧ StAt w' (sv a1 a2 a3 128 c1 3 c2 0 c3 tk tm at_ dn wy) st0 ∧ Ext w w'
theorem awBegin_any (a1 a2 : Option Addr) (c1 c2 : Nat) (w : World) (i1 : IntsAt w a1 storeQ) (i2 : IntsAt w a2 [3, 4, 16777215]) :
    Calls Tryz.prog 32 #[.slice a1 15 c1, .slice a2 3 c2, .int .i64 0] w (AwBegin w) := by
  refine (begin_any a1 a2 15 3 c1 c2 storeQ [3, 4, 16777215] 0 w (by decide) (by decide) (by decide) (by decide) i1 i2).mono ?_
  rintro e w' ⟨v', rfl, hS, hE⟩
  rw [aw_begin]
  have hS' : StAt w' v' st0 := hS
  obtain ⟨a1, a2, a3, k1, k2, k3, rfl, I1, I2, I3⟩ := hS
  obtain ⟨l1, l2, l3⟩ := aw_len
  change StAt w' (sv a1 a2 a3 st0.store.length k1 st0.tape.length k2 st0.printed.length k3 st0.taken st0.time st0.at_ st0.done st0.why) st0 at hS'
  refine ⟨a1, a2, a3, k1, k2, k3, st0.taken, st0.time, st0.at_, st0.done, st0.why, ?_, ?_, hE⟩
  · show _ = Ending.returned (.tuple #[sv a1 a2 a3 128 k1 3 k2 0 k3 st0.taken st0.time st0.at_ st0.done st0.why, .int .i64 0])
    rw [← l1, ← l2, ← l3]; rfl
  · rw [l1, l2, l3] at hS'; exact hS'
theorem ints_fresh {w W : World} {xs : List Int} {t : TypeId} {l : Array Value} (hl : l = (iv xs).toArray) (E : Ext (w.alloc (.cells l t)) W) : IntsAt W (some ⟨w.heap.size, 0, none⟩) xs := by
  subst hl
  refine .inr ⟨_, 0, rfl, Nat.lt_of_lt_of_le (by simp) E.size, fun i hi => ?_⟩
  rw [Nat.zero_add]
  exact box_at E i (by rw [List.getElem?_toArray]; exact iv_get _ i hi)
set_option maxRecDepth 100000 in
set_option maxHeartbeats 4000000 in
theorem awake_any (w : World) : Calls Tryz.prog 7 #[] w fun e w' => e = .returned (.bool true) ∧ Ext w w' := by
  go_enter Tryz.func7, Tryz.ntmps7
  go_wp2_with (go_at_call 33; refine (store_any _).mono ?_; rintro e w1 ⟨rfl, rfl⟩)
  go_wp2_with fail
  have hs1 : IntsAt ((w.alloc (.cells (iv storeQ).toArray 3)).alloc (.cells #[.int .i64 3, .int .i64 4, .int .i64 16777215] 3)) (some ⟨w.heap.size, 0, none⟩) storeQ := by
    exact ints_fresh (w := w) rfl ((Ext.refl _).alloc _)
  have hs2 : IntsAt ((w.alloc (.cells (iv storeQ).toArray 3)).alloc (.cells #[.int .i64 3, .int .i64 4, .int .i64 16777215] 3)) (some ⟨w.heap.size + 1, 0, none⟩) [3, 4, 16777215] := by
    have := ints_fresh (w := w.alloc (.cells (iv storeQ).toArray 3)) (xs := [3, 4, 16777215]) (t := 3) rfl (Ext.refl _)
    rw [World.size_alloc] at this
    exact this
  refine (awBegin_any _ _ _ _ _ hs1 hs2).mono ?_
  rintro e w1 ⟨a1, a2, a3, c1, c2, c3, tk, tm, at_, dn, wy, rfl, S1, E1⟩
  clear hs1 hs2
  have E01 : Ext w w1 := Ext.old (Ext.old E1)
  clear E1
  go_wp2_with fail
  refine (awRun_any _ _ (S1.ext ((Ext.refl w1).alloc _))).mono ?_
  rintro e w2 ⟨b2, o2, r1, d2, r2, n2, d3, r3, tk2, rfl, hb2, t14, t5, P2, E2⟩
  have q0 := fun ob => box_at (v := .slice a1 128 c1) (E2.alloc ob) 0 rfl
  have qf0 := fun ob => box_free (E2.alloc ob) 0
  have q1 := fun ob => box_at (v := .slice a2 3 c2) (E2.alloc ob) 1 rfl
  have qf1 := fun ob => box_free (E2.alloc ob) 1
  have q2 := fun ob => box_at (v := .int .i64 tk) (E2.alloc ob) 2 rfl
  have qf2 := fun ob => box_free (E2.alloc ob) 2
  have q3 := fun ob => box_at (v := .slice a3 0 c3) (E2.alloc ob) 3 rfl
  have qf3 := fun ob => box_free (E2.alloc ob) 3
  have q4 := fun ob => box_at (v := .int .i64 tm) (E2.alloc ob) 4 rfl
  have qf4 := fun ob => box_free (E2.alloc ob) 4
  have q5 := fun ob => box_at (v := .int .i64 at_) (E2.alloc ob) 5 rfl
  have qf5 := fun ob => box_free (E2.alloc ob) 5
  have q6 := fun ob => box_at (v := .int .i64 dn) (E2.alloc ob) 6 rfl
  have qf6 := fun ob => box_free (E2.alloc ob) 6
  have q7 := fun ob => box_at (v := .int .i64 wy) (E2.alloc ob) 7 rfl
  have qf7 := fun ob => box_free (E2.alloc ob) 7
  go_wp2_with fail
  refine (awTrace_any _ _ (S1.ext ((Ext.old E2).alloc _))).mono ?_
  rintro e w3 ⟨b3, o3, r4, rfl, hb3, u6, u13, u20, E3⟩
  clear q0 q1 q2 q3 q4 q5 q6 q7 qf0 qf1 qf2 qf3 qf4 qf5 qf6 qf7
  obtain ⟨g1, g2⟩ := aw_words
  obtain ⟨g3, g4, g5, g6, g7⟩ := aw_dec
  go_wp2_with fail
  refine (signedE_any _ _).mono ?_
  rw [g1]
  rintro e w4 ⟨rfl, E4⟩
  go_wp2_with fail
  refine (decodeE_any _ _).mono ?_
  unfold ovE
  rw [g3, g4, g5, g6, g7]
  rintro e w5 ⟨rfl, E5⟩
  go_wp2_with fail
  refine (signedE_any _ _).mono ?_
  rw [g2]
  rintro e w6 ⟨rfl, E6⟩
  have X4 : Ext w3 w6 := E4.comp (E5.comp E6.old)
  have X3 := E3.comp X4
  have X5 := E6
  have k0 := box_at (v := .slice (some ⟨b2, o2, none⟩) 128 r1) X3 0 rfl
  have k1 := box_at (v := .slice d2 n2 r2) X3 1 rfl
  have k2 := box_at (v := .int .i64 tk2) X3 2 rfl
  have k3 := box_at (v := .slice d3 1 r3) X3 3 rfl
  have k4 := box_at (v := .int .i64 141) X3 4 rfl
  have k5 := box_at (v := .int .i64 13) X3 5 rfl
  have k6 := box_at (v := .int .i64 9) X3 6 rfl
  have k7 := box_at (v := .int .i64 1) X3 7 rfl
  have m0 := box_at (v := .int .i64 5) X5 0 rfl
  have m1 := box_at (v := .int .i64 5) X5 1 rfl
  have m2 := box_at (v := .int .i64 12) X5 2 rfl
  have m3 := box_at (v := .int .i64 10) X5 3 rfl
  have t14a := ((Ext.comp E3.old X4).cell (p := ⟨b2, o2 + 14, none⟩) hb2).trans t14
  have t5a := ((Ext.comp E3.old X4).cell (p := ⟨b2, o2 + 5, none⟩) hb2).trans t5
  have u6a := (X4.cell (p := ⟨b3, o3 + 6, none⟩) hb3).trans u6
  have u13a := (X4.cell (p := ⟨b3, o3 + 13, none⟩) hb3).trans u13
  have u20a := (X4.cell (p := ⟨b3, o3 + 20, none⟩) hb3).trans u20
  have P6 : IntsAt w6 d3 [7] := P2.ext (E3.old.comp X4)
  go_wp2_with fail
  refine (ints_any d3 (some ⟨w6.heap.size, 0, none⟩) 1 1 r3 1 [7] [7] _ rfl rfl (by decide) (by decide) (P6.ext ((Ext.refl w6).alloc _)) (ints_fresh (w := w6) rfl (Ext.refl _))).mono ?_
  rintro e w7 ⟨rfl, E7⟩
  have d7 : decide (([7] : List Int) = [7]) = true := by decide
  rw [d7]
  have Y4 := X4.comp E7.old
  have Y3 := X3.comp E7.old
  clear k0 k1 k2 k3 k4 k5 k6 k7 m0 m1 m2 m3 t14a t5a u6a u13a u20a
  have k0b := box_at (v := .slice (some ⟨b2, o2, none⟩) 128 r1) Y3 0 rfl
  have k1b := box_at (v := .slice d2 n2 r2) Y3 1 rfl
  have k2b := box_at (v := .int .i64 tk2) Y3 2 rfl
  have k3b := box_at (v := .slice d3 1 r3) Y3 3 rfl
  have k4b := box_at (v := .int .i64 141) Y3 4 rfl
  have k5b := box_at (v := .int .i64 13) Y3 5 rfl
  have k6b := box_at (v := .int .i64 9) Y3 6 rfl
  have k7b := box_at (v := .int .i64 1) Y3 7 rfl
  have u6b := (Y4.cell (p := ⟨b3, o3 + 6, none⟩) hb3).trans u6
  have u13b := (Y4.cell (p := ⟨b3, o3 + 13, none⟩) hb3).trans u13
  have u20b := (Y4.cell (p := ⟨b3, o3 + 20, none⟩) hb3).trans u20
  go_wp2_with fail
  refine bodyPost_ret (v := .bool true) (by simp [results, Tryz.results7, go_sem]) rfl ⟨rfl, ?_⟩
  exact E01.comp ((E2.old).comp (E3.old.comp Y4))
end Go.Proofs.YtbcciokmlkofkaaGreat

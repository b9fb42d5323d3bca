/- Contract: Awake returns true. -/
import Derived.Test.YtjfggepgjpdebaaB8
import Derived.Test.YtjfggepgjpdebaaC3
set_option linter.unusedVariables false
set_option linter.unusedSimpArgs false
namespace Go.Proofs.Ytjfggepgjpdebaa
open Go.RowKit Go.Q

def storeQ : List Int := [12583560, 0, 0, 0, 0, 0, 0, 0, 10569226, 0, 4278016, 0, 14909453, 0, 0]
def st0 : St := (beginQ storeQ [3, 4, 16777215] 0).1
theorem aw_begin : (beginQ storeQ [3, 4, 16777215] 0).2 = 0 := by decide +kernel
theorem aw_len : st0.store.length = 128 ∧ st0.tape.length = 3 ∧ st0.printed.length = 0 := by decide +kernel
theorem aw_run : (runE st0 100).2 = 0 ∧ (runE st0 100).1.store.length = 128 ∧ (runE st0 100).1.store[14]?.getD 0 = 7 ∧ (runE st0 100).1.store[5]?.getD 0 = 16777215 ∧ (runE st0 100).1.printed = [7] ∧
    (runE st0 100).1.done = 9 ∧ (runE st0 100).1.at_ = 13 ∧ (runE st0 100).1.time = 141 ∧ (runE st0 100).1.why = 1 := by decide +kernel
theorem aw_trace : (traceE st0 3).2 = 0 ∧ (traceE st0 3).1.length = 3 ∧ (scs (traceE st0 3).1).length = 21 := by decide +kernel
theorem aw_untils : (traceE st0 3).1.map Stp.until_ = [8, 26, 48] := by decide +kernel
theorem aw_words : signedQ 8388608 = (-8388608, 0) ∧ signedQ 16777216 = (0, 7) := by decide +kernel
theorem aw_dec : (decQ 10569226).2 = 0 ∧ (decQ 10569226).1.op = 5 ∧ (decQ 10569226).1.frm = 5 ∧ (decQ 10569226).1.to = 12 ∧ (decQ 10569226).1.nxt = 10 := by decide +kernel
theorem scs_three {l : List Stp} (hl : l.length = 3) (hu : l.map Stp.until_ = [8, 26, 48]) : (scs l)[6]? = some (.int .i64 8) ∧ (scs l)[13]? = some (.int .i64 26) ∧ (scs l)[20]? = some (.int .i64 48) := by
  match l, hl with
  | [x, y, z], _ =>
    simp only [List.map_cons, List.map_nil, List.cons.injEq, and_true] at hu
    obtain ⟨h1, h2, h3⟩ := hu
    simp [scs, sc, h1, h2, h3]

/-- what Awake is told of the run -/
def AwRun (w : World) (e : Ending) (w' : World) : Prop :=
  ∃ b off c1 d2 c2 n2 d3 c3 tk, e = .returned (.tuple #[sv (some ⟨b, off, none⟩) d2 d3 128 c1 n2 c2 1 c3 tk 141 13 9 1, .int .i64 0]) ∧ b < w'.heap.size ∧ w'.cell? ⟨b, off + 14, none⟩ = some (.int .i64 7) ∧ w'.cell? ⟨b, off + 5, none⟩ = some (.int .i64 16777215) ∧
    IntsAt w' d3 [7] ∧ Ext w w'
theorem awRun_any (v : Value) (w : World) (h : StAt w v st0) : Calls Try.prog 22 #[v, .int .i64 100] w (AwRun w) := by
  obtain ⟨f0, f1, f2, f3, f4, f5, f6, f7, f8⟩ := aw_run
  refine (runE_any v st0 100 w h (by obtain ⟨l1, l2, l3⟩ := aw_len; exact ⟨by omega, by omega, by omega⟩)).mono ?_
  rintro e w' ⟨v', rfl, ⟨a1, a2, a3, k1, k2, k3, rfl, I1, I2, I3⟩, hE⟩
  rcases I1 with e | ⟨b, off, rfl, hb, hc⟩
  · rw [e] at f1; cases f1
  refine ⟨b, off, k1, a2, k2, (runE st0 100).1.tape.length, a3, k3, (runE st0 100).1.taken, ?_, hb, ?_, ?_, ?_, hE⟩
  · rw [f0, f1, f4, f5, f6, f7, f8]; rfl
  · have := hc 14 (by rw [f1]; decide); rw [f2] at this; exact this
  · have := hc 5 (by rw [f1]; decide); rw [f3] at this; exact this
  · rw [f4] at I3; exact I3
def AwTrace (w : World) (e : Ending) (w' : World) : Prop :=
  ∃ b off c, e = .returned (.tuple #[.slice (some ⟨b, off, none⟩) 3 c, .int .i64 0]) ∧ b < w'.heap.size ∧ w'.cell? ⟨b, off + 6, none⟩ = some (.int .i64 8) ∧ w'.cell? ⟨b, off + 13, none⟩ = some (.int .i64 26) ∧ w'.cell? ⟨b, off + 20, none⟩ = some (.int .i64 48) ∧ Ext w w'
theorem awTrace_any (v : Value) (w : World) (h : StAt w v st0) : Calls Try.prog 56 #[v, .int .i64 3] w (AwTrace w) := by
  obtain ⟨f0, f1, f2⟩ := aw_trace
  obtain ⟨u1, u2, u3⟩ := scs_three f1 aw_untils
  refine (traceE_any v st0 3 w h (by obtain ⟨l1, l2, l3⟩ := aw_len; exact ⟨by omega, by omega, by omega⟩)).mono ?_
  rintro e w' ⟨a, c, rfl, I1, hE⟩
  rcases I1 with e | ⟨b, off, rfl, hb, hc⟩
  · rw [e] at f1; cases f1
  exact ⟨b, off, c, by rw [f0, f1], hb, hc 6 _ u1, hc 13 _ u2, hc 20 _ u3, hE⟩
theorem store_any (w : World) : Calls Try.prog 21 #[] w fun e w' => e = .returned (.slice (some ⟨w.heap.size, 0, none⟩) 15 15) ∧ w.alloc (.cells (iv storeQ).toArray 3) = w' := by
  go_enter Try.func21, Try.ntmps21
  go_wp2
  go_ret
  exact ⟨rfl, rfl⟩
end Go.Proofs.Ytjfggepgjpdebaa

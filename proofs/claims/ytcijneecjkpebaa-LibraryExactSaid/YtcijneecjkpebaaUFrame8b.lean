import Derived.Test.YtcijneecjkpebaaUFrame8
set_option linter.unusedVariables false
set_option linter.unusedSimpArgs false
/- What an argument of the rows of layer 8 holds: a routine. -/
namespace Go.Proofs.Ytcijneecjkpebaa
open Go.ChangeShapes Go.WideShapes Go.ChangeAt Go.RowKit Go.Joins Go.Deep Go.Q
set_option linter.unusedVariables false
theorem cellsCode : Try.prog.cellsOf 24 = 6 := by kernel_rfl
section
variable {H : Type} {enc : TypeId × Value → H} {w : World} {base : Nat} {spare : Nat → Bool} {held : Bool}
theorem open_agg6 {P : Program} {r : Reach} {b0 : Nat} {t : TypeId} {f0 f1 f2 f3 f4 f5 : Field} {v : Value} {d : DataW H} {p : List MemPlace} (hs : P.underlying t = some (.struct #[f0, f1, f2, f3, f4, f5])) (hone : oneCellFields P #[f0, f1, f2, f3, f4, f5] = true) (hC : P.cellsOf t = 6)
    (hv : Value.okWide P w r b0 t v) (h : DataW.Trod enc P w base spare held t v d p) :
    ∃ (v0 v1 v2 v3 v4 v5 : Value) (y0 y1 y2 y3 y4 y5 : DataW H × List MemPlace) (n : Nat), v = .agg #[v0, v1, v2, v3, v4, v5] ∧
      DataW.trod enc P w base spare held n f0.type [v0] = some y0 ∧ DataW.trod enc P w base spare held n f1.type [v1] = some y1 ∧ DataW.trod enc P w base spare held n f2.type [v2] = some y2 ∧ DataW.trod enc P w base spare held n f3.type [v3] = some y3 ∧ DataW.trod enc P w base spare held n f4.type [v4] = some y4 ∧ DataW.trod enc P w base spare held n f5.type [v5] = some y5 := by
  obtain ⟨cs, rfl, hsz⟩ := okWide_struct hs hv
  obtain ⟨l⟩ := cs
  match l, hsz.trans hC with
  | [c0, c1, c2, c3, c4, c5], _ =>
    obtain ⟨fuel, hf⟩ := h
    obtain ⟨xs, n, _, hx, _, hlen, hg⟩ := DataW.trod_struct hs hf
    obtain ⟨o0, k0⟩ := hone_of hone 0 f0 rfl
    obtain ⟨o1, k1⟩ := hone_of hone 1 f1 rfl
    obtain ⟨o2, k2⟩ := hone_of hone 2 f2 rfl
    obtain ⟨o3, k3⟩ := hone_of hone 3 f3 rfl
    obtain ⟨o4, k4⟩ := hone_of hone 4 f4 rfl
    obtain ⟨o5, k5⟩ := hone_of hone 5 f5 rfl
    match xs, hlen with
    | [y0, y1, y2, y3, y4, y5], _ =>
      exact ⟨c0, c1, c2, c3, c4, c5, y0, y1, y2, y3, y4, y5, n, rfl, by simpa [Value.cells, o0, k0] using hg 0 f0 rfl, by simpa [Value.cells, o1, k1] using hg 1 f1 rfl, by simpa [Value.cells, o2, k2] using hg 2 f2 rfl, by simpa [Value.cells, o3, k3] using hg 3 f3 rfl, by simpa [Value.cells, o4, k4] using hg 4 f4 rfl, by simpa [Value.cells, o5, k5] using hg 5 f5 rfl⟩
set_option maxRecDepth 100000 in
/-- a routine that came in -/
theorem code_of_trod {r : Reach} {b0 : Nat} {v : Value} {d : DataW H} {p : List MemPlace} (hv : Value.okWide Try.prog w r b0 24 v) (h : DataW.Trod enc Try.prog w base spare held 24 v d p) :
    ∃ (c : Rt) (l : Lo), v = .agg #[.slice l.a1 c.words.length l.c1, .slice l.a2 c.masks.length l.c2, .int .i64 c.entry, .int .i64 c.exit, .int .i64 c.result, .slice l.a3 c.args.length l.c3] ∧ RtAt w c l ∧ RtBd c := by
  obtain ⟨c0, c1, c2, c3, c4, c5, y0, y1, y2, y3, y4, y5, m, hv0, hy0, hy1, hy2, hy3, hy4, hy5⟩ := open_agg6 Try.underlying24 (by kernel_rfl) cellsCode hv h
  obtain ⟨a1, k1, s1, e0, b1, i1⟩ := ints_of_trod hy0
  obtain ⟨a2, k2, s2, e1, b2, i2⟩ := ints_of_trod hy1
  obtain ⟨en, e2, _, _⟩ := DataW.trod_int Try.underlying3 hy2
  obtain ⟨ex, e3, _, _⟩ := DataW.trod_int Try.underlying3 hy3
  obtain ⟨re, e4, _, _⟩ := DataW.trod_int Try.underlying3 hy4
  obtain ⟨a3, k3, s3, e5, b3, i3⟩ := ints_of_trod hy5
  simp only [List.cons.injEq, and_true] at e2 e3 e4
  subst e0 e1 e2 e3 e4 e5 hv0
  exact ⟨⟨s1, s2, en, ex, re, s3⟩, ⟨a1, k1, a2, k2, a3, k3⟩, rfl, ⟨i1, i2, i3⟩, ⟨b1, b2, b3⟩⟩
end
end Go.Proofs.Ytcijneecjkpebaa

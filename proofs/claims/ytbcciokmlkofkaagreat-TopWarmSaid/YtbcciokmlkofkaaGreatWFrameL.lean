import Derived.Test.YtbcciokmlkofkaaGreatRows
import Derived.WalkKit
import Derived.ProofKit
import Derived.OpenShut
import Derived.ShutString
import Derived.ChangeOld
import Derived.Below
import Derived.Lib.SmallJoins
import Derived.Test.YtbcciokmlkofkaaGreatWH20
set_option linter.unusedVariables false
set_option linter.unusedSimpArgs false
/- What an argument of the rows of layer 1 holds: a line, spans, bytes, an oven with its temperatures. -/
namespace Go.Proofs.YtbcciokmlkofkaaGreat
open Go.ChangeShapes Go.WideShapes Go.ChangeAt Go.RowKit Go.Joins Go.Deep Go.Q
set_option linter.unusedVariables false
theorem rowOwnL : ownKnob Tryz.prog.godebug = none := by kernel_rfl
theorem rowLaidL : laidOutB Tryz.prog = true := by kernel_rfl
theorem cellsLine : Tryz.prog.cellsOf 26 = 6 := by kernel_rfl
theorem cellsSpan : Tryz.prog.cellsOf 28 = 2 := by kernel_rfl
theorem cellsOven : Tryz.prog.cellsOf 30 = 6 := by kernel_rfl
theorem cellsInt1 : Tryz.prog.cellsOf 3 = 1 := by kernel_rfl
theorem cellsBytes : Tryz.prog.cellsOf 31 = 1 := by kernel_rfl
theorem cellsBool1 : Tryz.prog.cellsOf 4 = 1 := by kernel_rfl
section
variable {H : Type} {enc : TypeId × Value → H} {w : World} {base : Nat} {spare : Nat → Bool} {held : Bool}
theorem ints_of_trodL {n : Nat} {v : Value} {y : DataW H × List MemPlace} (h : DataW.trod enc Tryz.prog w base spare held n 22 [v] = some y) :
    ∃ a c xs, v = .slice a (xs : List Int).length c ∧ xs.length ≤ 9223372036854775807 ∧ IntsAt w a xs := by
  rcases open_ints Tryz.underlying22 Tryz.underlying3 (by kernel_rfl) h with ⟨hcs, _⟩ | ⟨x, l, c, zs, hcs, _, hl, hm, hz, _, hcell, _⟩
  · exact ⟨none, 0, [], List.cons.inj hcs |>.1, by simp, .inl rfl⟩
  · have hlz : l ≤ zs.length := by rw [hz]; split <;> omega
    have hm' : c ≤ 9223372036854775807 := Nat.le_trans hm (by decide)
    have hlen : (zs.take l).length = l := by simp [hlz]
    refine ⟨some x, c, zs.take l, by rw [hlen]; exact List.cons.inj hcs |>.1, by rw [hlen]; omega, ?_⟩
    by_cases h0 : l = 0
    · exact .inl (by simp [h0])
    obtain ⟨b, off, rfl, hc⟩ := ints_at hcell (by omega)
    refine .inr ⟨b, off, rfl, World.block_lt_of_cell? _ _ (hc 0 (by omega)), fun i hi => ?_⟩
    rw [hlen] at hi
    have e : (zs.take l)[i]?.getD 0 = zs.getD i 0 := by simp [List.getElem?_take, hi, List.getD]
    rw [e]
    exact hc i (by omega)
/-- numbers that a byte can be -/
def OkU (xs : List Int) : Prop := ∀ x ∈ xs, 0 ≤ x ∧ x ≤ 255
theorem u8_wf {a : Int} (h : (Lit.int .u8 a).wf = true) : 0 ≤ a ∧ a ≤ 255 := by
  simp [Lit.wf, IntKind.min, IntKind.max, IntKind.signed, IntKind.bits] at h
  omega
theorem u16_wf {a : Int} (h : (Lit.int .u16 a).wf = true) : 0 ≤ a ∧ a ≤ 65535 := by
  simp [Lit.wf, IntKind.min, IntKind.max, IntKind.signed, IntKind.bits] at h
  omega
theorem i64_wf {a : Int} (h : (Lit.int .i64 a).wf = true) : -9223372036854775808 ≤ a ∧ a ≤ 9223372036854775807 := by
  simp [Lit.wf, IntKind.min, IntKind.max, IntKind.signed, IntKind.bits] at h
  omega
theorem bytes_of_trod {n : Nat} {v : Value} {y : DataW H × List MemPlace} (h : DataW.trod enc Tryz.prog w base spare held n 31 [v] = some y) :
    ∃ a c xs, v = .slice a (xs : List Int).length c ∧ xs.length ≤ 9223372036854775807 ∧ BytesAt w a xs ∧ OkU xs := by
  rcases open_ints Tryz.underlying31 Tryz.underlying5 (by kernel_rfl) h with ⟨hcs, _⟩ | ⟨x, l, c, zs, hcs, _, hl, hm, hz, _, hcell, hwf⟩
  · exact ⟨none, 0, [], List.cons.inj hcs |>.1, by simp, .inl rfl, by intro x hx; simp at hx⟩
  · have hlz : l ≤ zs.length := by rw [hz]; split <;> omega
    have hm' : c ≤ 9223372036854775807 := Nat.le_trans hm (by decide)
    have hlen : (zs.take l).length = l := by simp [hlz]
    refine ⟨some x, c, zs.take l, by rw [hlen]; exact List.cons.inj hcs |>.1, by rw [hlen]; omega, ?_, fun x hx => u8_wf (hwf x (List.mem_of_mem_take hx))⟩
    by_cases h0 : l = 0
    · exact .inl (by simp [h0])
    obtain ⟨b, off, rfl, hc⟩ := ints_at hcell (by omega)
    refine .inr ⟨b, off, rfl, World.block_lt_of_cell? _ _ (hc 0 (by omega)), fun i hi => ?_⟩
    rw [hlen] at hi
    have e : (zs.take l)[i]?.getD 0 = zs.getD i 0 := by simp [List.getElem?_take, hi, List.getD]
    rw [e]
    exact hc i (by omega)
theorem int_cell {n : Nat} {t : TypeId} {k : IntKind} {v : Value} {y : DataW H × List MemPlace} (ht : Tryz.prog.underlying t = some (.int k)) (h : DataW.trod enc Tryz.prog w base spare held n t [v] = some y) : ∃ x, v = .int k x ∧ (Lit.int k x).wf = true := by
  obtain ⟨x, e, _, hw⟩ := DataW.trod_int ht h
  exact ⟨x, List.cons.inj e |>.1, hw⟩
set_option maxRecDepth 100000 in
/-- the cells of a line that came in -/
theorem line_of_cells {fuel : Nat} {cs : List Value} {y : DataW H × List MemPlace} (h : DataW.trod enc Tryz.prog w base spare held fuel 26 cs = some y) :
    ∃ l : Ln, cs = [.int .i64 l.words, .int .i64 l.bits, .int .i64 l.period, .int .i64 l.delay, .int .i64 l.slope, .int .i64 l.window] := by
  obtain ⟨xs, n, _, _, hl, hlen, hg⟩ := DataW.trod_struct Tryz.underlying26 h
  rw [cellsLine] at hl
  match cs, hl with
  | [c0, c1, c2, c3, c4, c5], _ =>
    match xs, hlen with
    | [y0, y1, y2, y3, y4, y5], _ =>
      have h0 : DataW.trod enc Tryz.prog w base spare held n 3 (List.take (Tryz.prog.cellsOf 3) (List.drop 0 [c0, c1, c2, c3, c4, c5])) = some y0 := hg 0 _ rfl
      have h1 : DataW.trod enc Tryz.prog w base spare held n 3 (List.take (Tryz.prog.cellsOf 3) (List.drop 1 [c0, c1, c2, c3, c4, c5])) = some y1 := hg 1 _ rfl
      have h2 : DataW.trod enc Tryz.prog w base spare held n 3 (List.take (Tryz.prog.cellsOf 3) (List.drop 2 [c0, c1, c2, c3, c4, c5])) = some y2 := hg 2 _ rfl
      have h3 : DataW.trod enc Tryz.prog w base spare held n 3 (List.take (Tryz.prog.cellsOf 3) (List.drop 3 [c0, c1, c2, c3, c4, c5])) = some y3 := hg 3 _ rfl
      have h4 : DataW.trod enc Tryz.prog w base spare held n 3 (List.take (Tryz.prog.cellsOf 3) (List.drop 4 [c0, c1, c2, c3, c4, c5])) = some y4 := hg 4 _ rfl
      have h5 : DataW.trod enc Tryz.prog w base spare held n 3 (List.take (Tryz.prog.cellsOf 3) (List.drop 5 [c0, c1, c2, c3, c4, c5])) = some y5 := hg 5 _ rfl
      rw [cellsInt1] at h0 h1 h2 h3 h4 h5
      obtain ⟨x0, rfl, _⟩ := int_cell Tryz.underlying3 (v := c0) h0
      obtain ⟨x1, rfl, _⟩ := int_cell Tryz.underlying3 (v := c1) h1
      obtain ⟨x2, rfl, _⟩ := int_cell Tryz.underlying3 (v := c2) h2
      obtain ⟨x3, rfl, _⟩ := int_cell Tryz.underlying3 (v := c3) h3
      obtain ⟨x4, rfl, _⟩ := int_cell Tryz.underlying3 (v := c4) h4
      obtain ⟨x5, rfl, _⟩ := int_cell Tryz.underlying3 (v := c5) h5
      exact ⟨⟨x0, x1, x2, x3, x4, x5⟩, rfl⟩
set_option maxRecDepth 100000 in
/-- a line that came in -/
theorem line_of_trod {r : Reach} {b0 : Nat} {v : Value} {d : DataW H} {p : List MemPlace} (hv : Value.okWide Tryz.prog w r b0 26 v) (h : DataW.Trod enc Tryz.prog w base spare held 26 v d p) :
    ∃ l : Ln, v = .agg #[.int .i64 l.words, .int .i64 l.bits, .int .i64 l.period, .int .i64 l.delay, .int .i64 l.slope, .int .i64 l.window] := by
  obtain ⟨cs, rfl, _⟩ := okWide_struct Tryz.underlying26 hv
  obtain ⟨l⟩ := cs
  obtain ⟨fuel, hf⟩ := h
  obtain ⟨x, hx⟩ := line_of_cells (cs := l) (by simpa [Value.cells] using hf)
  subst hx
  exact ⟨x, rfl⟩
set_option maxRecDepth 100000 in
/-- the cells of a span that came in -/
theorem span_of_cells {fuel : Nat} {cs : List Value} {y : DataW H × List MemPlace} (h : DataW.trod enc Tryz.prog w base spare held fuel 28 cs = some y) :
    ∃ s : Sp, cs = [.int .i64 s.lo, .int .i64 s.hi] ∧ (-9223372036854775808 ≤ s.lo ∧ s.lo ≤ 9223372036854775807) ∧ -9223372036854775808 ≤ s.hi ∧ s.hi ≤ 9223372036854775807 := by
  obtain ⟨xs, n, _, _, hl, hlen, hg⟩ := DataW.trod_struct Tryz.underlying28 h
  rw [cellsSpan] at hl
  match cs, hl with
  | [c0, c1], _ =>
    match xs, hlen with
    | [y0, y1], _ =>
      have h0 : DataW.trod enc Tryz.prog w base spare held n 3 (List.take (Tryz.prog.cellsOf 3) (List.drop 0 [c0, c1])) = some y0 := hg 0 _ rfl
      have h1 : DataW.trod enc Tryz.prog w base spare held n 3 (List.take (Tryz.prog.cellsOf 3) (List.drop 1 [c0, c1])) = some y1 := hg 1 _ rfl
      rw [cellsInt1] at h0 h1
      obtain ⟨x0, rfl, w0⟩ := int_cell Tryz.underlying3 (v := c0) h0
      obtain ⟨x1, rfl, w1⟩ := int_cell Tryz.underlying3 (v := c1) h1
      exact ⟨⟨x0, x1⟩, rfl, i64_wf w0, i64_wf w1⟩
/-- two cells in a row -/
theorem cells_two {a : Addr} {c : List Value} (h : w.cells? base a 2 = some c) : ∃ c0 c1, c = [c0, c1] ∧ w.cell? a = some c0 ∧ w.cell? (a.add 1) = some c1 := by
  unfold World.cells? at h
  split at h
  · have e0 : a.add 0 = a := by simp [Addr.add]
    simp only [List.range_succ, List.range_zero, List.nil_append, List.cons_append, List.mapM_cons, List.mapM_nil, e0] at h
    cases h1 : w.cell? a with
    | none => simp [h1] at h
    | some c0 =>
      cases h2 : w.cell? (a.add 1) with
      | none => simp [h1, h2] at h
      | some c1 =>
        simp [h1, h2] at h
        exact ⟨c0, c1, h.symm, rfl, rfl⟩
  · cases h
/-- spans that came in -/
theorem spans_of_trod {n : Nat} {v : Value} {y : DataW H × List MemPlace} (h : DataW.trod enc Tryz.prog w base spare held n 67 [v] = some y) :
    ∃ a c ss, v = .slice a (ss : List Sp).length c ∧ ss.length ≤ 9223372036854775807 ∧ SpansAt w a ss := by
  rcases DataW.trod_slice Tryz.underlying67 h with ⟨hcs, _⟩ | ⟨a, len, cap, elems, rest, m, _, hcs, _, _, hl, hm, hlen, hel, _⟩
  · exact ⟨none, 0, [], List.cons.inj hcs |>.1, by simp, .inl rfl⟩
  · have hm' : cap ≤ 9223372036854775807 := Nat.le_trans hm (by decide)
    rw [cellsSpan] at hel
    have each : ∀ i, i < len → ∃ s : Sp, w.cell? (a.add (i * 2)) = some (.int .i64 s.lo) ∧ w.cell? ((a.add (i * 2)).add 1) = some (.int .i64 s.hi) := by
      intro i hi
      have hx := hel i hi
      rw [List.getElem?_eq_getElem (by omega), Option.bind_eq_some_iff] at hx
      obtain ⟨cs, h1, h2⟩ := hx
      obtain ⟨s, rfl, _⟩ := span_of_cells h2
      obtain ⟨c0, c1, e, g0, g1⟩ := cells_two h1
      simp only [List.cons.injEq, and_true] at e
      obtain ⟨e0, e1⟩ := e
      rw [← e0] at g0
      rw [← e1] at g1
      exact ⟨s, g0, g1⟩
    obtain ⟨f, hf⟩ : ∃ f : Nat → Sp, ∀ i, i < len → w.cell? (a.add (i * 2)) = some (.int .i64 (f i).lo) ∧ w.cell? ((a.add (i * 2)).add 1) = some (.int .i64 (f i).hi) :=
      ⟨fun i => if h : i < len then Classical.choose (each i h) else ⟨0, 0⟩, fun i hi => by simp only [hi, dif_pos]; exact Classical.choose_spec (each i hi)⟩
    refine ⟨some a, cap, fstN f len, by rw [fstN_length]; exact List.cons.inj hcs |>.1, by rw [fstN_length]; omega, ?_⟩
    by_cases h0 : len = 0
    · exact .inl (by rw [h0]; rfl)
    obtain ⟨b, off, spot⟩ := a
    have hsp : spot = none := by simpa [Addr.add] using World.cell?_spot (hf 0 (by omega)).1
    subst hsp
    have hg : ∀ i, i < len → w.cell? ⟨b, off + i * 2, none⟩ = some (.int .i64 (f i).lo) ∧ w.cell? ⟨b, off + i * 2 + 1, none⟩ = some (.int .i64 (f i).hi) := fun i hi => by
      have := hf i hi
      rw [Addr.add_lit, Addr.add_lit] at this
      exact this
    refine .inr ⟨b, off, rfl, World.block_lt_of_cell? _ _ (hg 0 (by omega)).1, fun i hi => ?_⟩
    rw [fstN_length] at hi
    rw [fstN_get f hi]
    exact hg i hi
set_option maxRecDepth 100000 in
/-- the cells of an oven that came in -/
theorem oven_of_cells {fuel : Nat} {cs : List Value} {y : DataW H × List MemPlace} (h : DataW.trod enc Tryz.prog w base spare held fuel 30 cs = some y) :
    ∃ o : Ov, cs = [.int .i64 o.low, .int .i64 o.high, .int .i64 o.warm.lo, .int .i64 o.warm.hi, .int .i64 o.cool.lo, .int .i64 o.cool.hi] := by
  obtain ⟨xs, n, _, _, hl, hlen, hg⟩ := DataW.trod_struct Tryz.underlying30 h
  rw [cellsOven] at hl
  match cs, hl with
  | [c0, c1, c2, c3, c4, c5], _ =>
    match xs, hlen with
    | [y0, y1, y2, y3], _ =>
      have h0 : DataW.trod enc Tryz.prog w base spare held n 3 (List.take (Tryz.prog.cellsOf 3) (List.drop 0 [c0, c1, c2, c3, c4, c5])) = some y0 := hg 0 _ rfl
      have h1 : DataW.trod enc Tryz.prog w base spare held n 3 (List.take (Tryz.prog.cellsOf 3) (List.drop 1 [c0, c1, c2, c3, c4, c5])) = some y1 := hg 1 _ rfl
      have h2 : DataW.trod enc Tryz.prog w base spare held n 28 (List.take (Tryz.prog.cellsOf 28) (List.drop 2 [c0, c1, c2, c3, c4, c5])) = some y2 := hg 2 _ rfl
      have h3 : DataW.trod enc Tryz.prog w base spare held n 28 (List.take (Tryz.prog.cellsOf 28) (List.drop 4 [c0, c1, c2, c3, c4, c5])) = some y3 := hg 3 _ rfl
      rw [cellsInt1] at h0 h1
      rw [cellsSpan] at h2 h3
      obtain ⟨x0, rfl, _⟩ := int_cell Tryz.underlying3 (v := c0) h0
      obtain ⟨x1, rfl, _⟩ := int_cell Tryz.underlying3 (v := c1) h1
      obtain ⟨s2, e2, _⟩ := span_of_cells (cs := [c2, c3]) h2
      obtain ⟨s3, e3, _⟩ := span_of_cells (cs := [c4, c5]) h3
      simp only [List.cons.injEq, and_true] at e2 e3
      obtain ⟨rfl, rfl⟩ := e2
      obtain ⟨rfl, rfl⟩ := e3
      exact ⟨⟨x0, x1, s2, s3⟩, rfl⟩
/-- an oven, a span of temperatures, whether it heats, minutes -/
structure Htd where
  oven : Ov
  temp : Sp
  heats : Bool
  minutes : Int
/-- the ends of a span, and minutes, are numbers of 64 bits -/
def HtdBd (x : Htd) : Prop := (-9223372036854775808 ≤ x.temp.lo ∧ x.temp.lo ≤ 9223372036854775807) ∧ (-9223372036854775808 ≤ x.temp.hi ∧ x.temp.hi ≤ 9223372036854775807) ∧ -9223372036854775808 ≤ x.minutes ∧ x.minutes ≤ 9223372036854775807
/-- an array of integers that came in -/
theorem arr_of_trodL {P : Program} {r : Reach} {b0 n : Nat} {t e : TypeId} {k : IntKind} {v : Value} {d : DataW H} {p : List MemPlace} (ht : P.underlying t = some (.array n e)) (he : P.underlying e = some (.int k)) (h1 : P.cellsOf e = 1) (hC : P.cellsOf t = n)
    (hv : Value.okWide P w r b0 t v) (h : DataW.Trod enc P w base spare held t v d p) : ∃ xs : List Int, xs.length = n ∧ v = .agg (xs.map (Value.int k)).toArray ∧ ∀ x ∈ xs, (Lit.int k x).wf = true := by
  simp only [Value.okWide, ht] at hv
  obtain ⟨cs, rfl, h2, _⟩ := hv
  obtain ⟨fuel, hf⟩ := h
  obtain ⟨xs, m, _, _, _, hlen, hg⟩ := DataW.trod_array ht hf
  have hcs : cs.size = n := h2.trans hC
  have key : ∀ i, i < n → ∃ z, cs[i]? = some (.int k z) ∧ (Lit.int k z).wf = true := by
    intro i hi
    have hx := hg i hi
    rw [List.getElem?_eq_getElem (by omega : i < xs.length)] at hx
    obtain ⟨z, ez, _, hw⟩ := DataW.trod_int he hx
    refine ⟨z, ?_, hw⟩
    rw [h1, Nat.mul_one] at ez
    have e1 : ((Value.agg cs).cells.toList.drop i).head? = some (.int k z) := by
      have : (((Value.agg cs).cells.toList.drop i).take 1).head? = some (.int k z) := by rw [ez]; rfl
      simpa [List.head?_take] using this
    simpa [Value.cells, List.head?_drop] using e1
  refine ⟨cs.toList.map Go.RowKit.intOf, by simpa using hcs, ?_, ?_⟩
  · congr 1
    refine Array.ext' ?_
    simp only [List.map_map]
    refine List.ext_getElem? fun i => ?_
    by_cases hi : i < n
    · obtain ⟨z, hz, _⟩ := key i hi
      simp [hz, Go.RowKit.intOf]
    · simp [Array.getElem?_eq_none (by omega : cs.size ≤ i)]
  · intro x hx
    obtain ⟨v, hv, rfl⟩ := List.mem_map.1 hx
    obtain ⟨i, hi, rfl⟩ := List.mem_iff_getElem.1 hv
    obtain ⟨z, hz, hw⟩ := key i (by simpa [hcs] using hi)
    have : cs.toList[i] = .int k z := by
      have hz' : cs.toList[i]? = some (.int k z) := by simpa using hz
      rw [List.getElem?_eq_getElem hi] at hz'
      exact Option.some.inj hz'
    rw [this]
    exact hw
theorem arr3_of_trodL {P : Program} {r : Reach} {b0 : Nat} {t e : TypeId} {k : IntKind} {v : Value} {d : DataW H} {p : List MemPlace} (ht : P.underlying t = some (.array 3 e)) (he : P.underlying e = some (.int k)) (h1 : P.cellsOf e = 1) (hC : P.cellsOf t = 3)
    (hv : Value.okWide P w r b0 t v) (h : DataW.Trod enc P w base spare held t v d p) : ∃ a b c : Int, v = .agg #[.int k a, .int k b, .int k c] ∧ (Lit.int k a).wf = true ∧ (Lit.int k b).wf = true ∧ (Lit.int k c).wf = true := by
  obtain ⟨xs, hl, rfl, hw⟩ := arr_of_trodL ht he h1 hC hv h
  match xs, hl with
  | [a, b, c], _ => exact ⟨a, b, c, rfl, hw a (by simp), hw b (by simp), hw c (by simp)⟩
end
end Go.Proofs.YtbcciokmlkofkaaGreat

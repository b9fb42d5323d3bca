import Derived.Test.YtbcciokmlkofkaaGreatRows
import Derived.WalkKit
import Derived.ProofKit
import Derived.OpenShut
import Derived.ShutString
import Derived.ChangeOld
import Derived.Below
import Derived.Lib.SmallJoins
import Derived.Test.YtbcciokmlkofkaaGreatWD1
import Derived.Test.YtbcciokmlkofkaaGreatWFrameL
set_option linter.unusedVariables false
set_option linter.unusedSimpArgs false
/- What an argument of the rows holds: a slice of ints, a state. -/
namespace Go.Proofs.YtbcciokmlkofkaaGreat
open Go.ChangeShapes Go.WideShapes Go.ChangeAt Go.RowKit Go.Joins Go.Deep Go.Q
set_option linter.unusedVariables false
theorem rowOwn : ownKnob Tryz.prog.godebug = none := by kernel_rfl
theorem rowLaid : laidOutB Tryz.prog = true := by kernel_rfl
theorem cellsOrd : Tryz.prog.cellsOf 83 = 4 := by kernel_rfl
theorem cellsState : Tryz.prog.cellsOf 24 = 8 := by kernel_rfl
section
variable {H : Type} {enc : TypeId × Value → H} {w : World} {base : Nat} {spare : Nat → Bool} {held : Bool}
theorem ints_of_trod {n : Nat} {v : Value} {y : DataW H × List MemPlace} (h : DataW.trod enc Tryz.prog w base spare held n 22 [v] = some y) :
    ∃ a c xs, v = .slice a (xs : List Int).length c ∧ xs.length ≤ 9223372036854775807 ∧ IntsAt w a xs := by
  rcases open_ints Tryz.underlying22 Tryz.underlying3 (by kernel_rfl) h with ⟨hcs, _⟩ | ⟨x, l, c, zs, hcs, _, hl, hm, hz, _, hcell, _⟩
  · exact ⟨none, 0, [], List.cons.inj hcs |>.1, by simp, .inl rfl⟩
  · have hlz : l ≤ zs.length := by rw [hz]; split <;> omega
    have hm' : c ≤ 9223372036854775807 := Nat.le_trans hm (by decide)
    have hlen : (zs.take l).length = l := by simp [hlz]
    refine ⟨some x, c, zs.take l, by rw [hlen]; exact List.cons.inj hcs |>.1, by rw [hlen]; omega, ?_⟩
    by_cases h0 : l = 0
    · exact .inl (by simp [h0])
    obtain ⟨b, off, rfl, hc⟩ := ints_at hcell (by omega)
    refine .inr ⟨b, off, rfl, World.block_lt_of_cell? _ _ (hc 0 (by omega)), fun i hi => ?_⟩
    rw [hlen] at hi
    have e : (zs.take l)[i]?.getD 0 = zs.getD i 0 := by simp [List.getElem?_take, hi, List.getD]
    rw [e]
    exact hc i (by omega)
theorem open_agg8 {P : Program} {r : Reach} {b0 : Nat} {t : TypeId} {f0 f1 f2 f3 f4 f5 f6 f7 : Field} {v : Value} {d : DataW H} {p : List MemPlace} (hs : P.underlying t = some (.struct #[f0, f1, f2, f3, f4, f5, f6, f7])) (hone : oneCellFields P #[f0, f1, f2, f3, f4, f5, f6, f7] = true) (hC : P.cellsOf t = 8)
    (hv : Value.okWide P w r b0 t v) (h : DataW.Trod enc P w base spare held t v d p) :
    ∃ (v0 v1 v2 v3 v4 v5 v6 v7 : Value) (y0 y1 y2 y3 y4 y5 y6 y7 : DataW H × List MemPlace) (n : Nat), v = .agg #[v0, v1, v2, v3, v4, v5, v6, v7] ∧
      DataW.trod enc P w base spare held n f0.type [v0] = some y0 ∧ DataW.trod enc P w base spare held n f1.type [v1] = some y1 ∧ DataW.trod enc P w base spare held n f2.type [v2] = some y2 ∧ DataW.trod enc P w base spare held n f3.type [v3] = some y3 ∧ DataW.trod enc P w base spare held n f4.type [v4] = some y4 ∧ DataW.trod enc P w base spare held n f5.type [v5] = some y5 ∧ DataW.trod enc P w base spare held n f6.type [v6] = some y6 ∧ DataW.trod enc P w base spare held n f7.type [v7] = some y7 := by
  obtain ⟨cs, rfl, hsz⟩ := okWide_struct hs hv
  obtain ⟨l⟩ := cs
  match l, hsz.trans hC with
  | [c0, c1, c2, c3, c4, c5, c6, c7], _ =>
    obtain ⟨fuel, hf⟩ := h
    obtain ⟨xs, n, _, hx, _, hlen, hg⟩ := DataW.trod_struct hs hf
    obtain ⟨o0, k0⟩ := hone_of hone 0 f0 rfl
    obtain ⟨o1, k1⟩ := hone_of hone 1 f1 rfl
    obtain ⟨o2, k2⟩ := hone_of hone 2 f2 rfl
    obtain ⟨o3, k3⟩ := hone_of hone 3 f3 rfl
    obtain ⟨o4, k4⟩ := hone_of hone 4 f4 rfl
    obtain ⟨o5, k5⟩ := hone_of hone 5 f5 rfl
    obtain ⟨o6, k6⟩ := hone_of hone 6 f6 rfl
    obtain ⟨o7, k7⟩ := hone_of hone 7 f7 rfl
    match xs, hlen with
    | [y0, y1, y2, y3, y4, y5, y6, y7], _ =>
      exact ⟨c0, c1, c2, c3, c4, c5, c6, c7, y0, y1, y2, y3, y4, y5, y6, y7, n, rfl, by simpa [Value.cells, o0, k0] using hg 0 f0 rfl, by simpa [Value.cells, o1, k1] using hg 1 f1 rfl, by simpa [Value.cells, o2, k2] using hg 2 f2 rfl, by simpa [Value.cells, o3, k3] using hg 3 f3 rfl, by simpa [Value.cells, o4, k4] using hg 4 f4 rfl, by simpa [Value.cells, o5, k5] using hg 5 f5 rfl, by simpa [Value.cells, o6, k6] using hg 6 f6 rfl, by simpa [Value.cells, o7, k7] using hg 7 f7 rfl⟩
/-- an array of integers that came in -/
theorem arr_of_trod {P : Program} {r : Reach} {b0 n : Nat} {t e : TypeId} {k : IntKind} {v : Value} {d : DataW H} {p : List MemPlace} (ht : P.underlying t = some (.array n e)) (he : P.underlying e = some (.int k)) (h1 : P.cellsOf e = 1) (hC : P.cellsOf t = n)
    (hv : Value.okWide P w r b0 t v) (h : DataW.Trod enc P w base spare held t v d p) : ∃ xs : List Int, xs.length = n ∧ v = .agg (xs.map (Value.int k)).toArray ∧ ∀ x ∈ xs, (Lit.int k x).wf = true := by
  simp only [Value.okWide, ht] at hv
  obtain ⟨cs, rfl, h2, _⟩ := hv
  obtain ⟨fuel, hf⟩ := h
  obtain ⟨xs, m, _, _, _, hlen, hg⟩ := DataW.trod_array ht hf
  have hcs : cs.size = n := h2.trans hC
  have key : ∀ i, i < n → ∃ z, cs[i]? = some (.int k z) ∧ (Lit.int k z).wf = true := by
    intro i hi
    have hx := hg i hi
    rw [List.getElem?_eq_getElem (by omega : i < xs.length)] at hx
    obtain ⟨z, ez, _, hw⟩ := DataW.trod_int he hx
    refine ⟨z, ?_, hw⟩
    rw [h1, Nat.mul_one] at ez
    have e1 : ((Value.agg cs).cells.toList.drop i).head? = some (.int k z) := by
      have : (((Value.agg cs).cells.toList.drop i).take 1).head? = some (.int k z) := by rw [ez]; rfl
      simpa [List.head?_take] using this
    simpa [Value.cells, List.head?_drop] using e1
  refine ⟨cs.toList.map intOf, by simpa using hcs, ?_, ?_⟩
  · congr 1
    refine Array.ext' ?_
    simp only [List.map_map]
    refine List.ext_getElem? fun i => ?_
    by_cases hi : i < n
    · obtain ⟨z, hz, _⟩ := key i hi
      simp [hz, intOf]
    · simp [Array.getElem?_eq_none (by omega : cs.size ≤ i)]
  · intro x hx
    obtain ⟨v, hv, rfl⟩ := List.mem_map.1 hx
    obtain ⟨i, hi, rfl⟩ := List.mem_iff_getElem.1 hv
    obtain ⟨z, hz, hw⟩ := key i (by simpa [hcs] using hi)
    have : cs.toList[i] = .int k z := by
      have hz' : cs.toList[i]? = some (.int k z) := by simpa using hz
      rw [List.getElem?_eq_getElem hi] at hz'
      exact Option.some.inj hz'
    rw [this]
    exact hw
theorem arr2_of_trod {P : Program} {r : Reach} {b0 : Nat} {t e : TypeId} {k : IntKind} {v : Value} {d : DataW H} {p : List MemPlace} (ht : P.underlying t = some (.array 2 e)) (he : P.underlying e = some (.int k)) (h1 : P.cellsOf e = 1) (hC : P.cellsOf t = 2)
    (hv : Value.okWide P w r b0 t v) (h : DataW.Trod enc P w base spare held t v d p) : ∃ a b : Int, v = .agg #[.int k a, .int k b] ∧ (Lit.int k a).wf = true ∧ (Lit.int k b).wf = true := by
  obtain ⟨xs, hl, rfl, hw⟩ := arr_of_trod ht he h1 hC hv h
  match xs, hl with
  | [a, b], _ => exact ⟨a, b, rfl, hw a (by simp), hw b (by simp)⟩
theorem arr3_of_trod {P : Program} {r : Reach} {b0 : Nat} {t e : TypeId} {k : IntKind} {v : Value} {d : DataW H} {p : List MemPlace} (ht : P.underlying t = some (.array 3 e)) (he : P.underlying e = some (.int k)) (h1 : P.cellsOf e = 1) (hC : P.cellsOf t = 3)
    (hv : Value.okWide P w r b0 t v) (h : DataW.Trod enc P w base spare held t v d p) : ∃ a b c : Int, v = .agg #[.int k a, .int k b, .int k c] ∧ (Lit.int k a).wf = true ∧ (Lit.int k b).wf = true ∧ (Lit.int k c).wf = true := by
  obtain ⟨xs, hl, rfl, hw⟩ := arr_of_trod ht he h1 hC hv h
  match xs, hl with
  | [a, b, c], _ => exact ⟨a, b, c, rfl, hw a (by simp), hw b (by simp), hw c (by simp)⟩
theorem u16_bd {a : Int} (h : (Lit.int .u16 a).wf = true) : 0 ≤ a ∧ a ≤ 65535 := by
  simp [Lit.wf, IntKind.min, IntKind.max, IntKind.signed, IntKind.bits] at h
  omega
theorem u8_bd {a : Int} (h : (Lit.int .u8 a).wf = true) : 0 ≤ a ∧ a ≤ 255 := by
  simp [Lit.wf, IntKind.min, IntKind.max, IntKind.signed, IntKind.bits] at h
  omega
set_option maxRecDepth 100000 in
/-- an order that came in -/
theorem ord_of_trod {r : Reach} {b0 : Nat} {v : Value} {d : DataW H} {p : List MemPlace} (hv : Value.okWide Tryz.prog w r b0 83 v) (h : DataW.Trod enc Tryz.prog w base spare held 83 v d p) :
    ∃ a b c e : Int, v = .agg #[.int .i64 a, .int .i64 b, .int .i64 c, .int .i64 e] := by
  obtain ⟨c0, c1, c2, c3, y0, y1, y2, y3, m, hv0, _, _, hy0, hy1, hy2, hy3⟩ := open_agg4 Tryz.underlying83 (by kernel_rfl) cellsOrd hv h
  obtain ⟨a, e0, _, _⟩ := DataW.trod_int Tryz.underlying3 hy0
  obtain ⟨b, e1, _, _⟩ := DataW.trod_int Tryz.underlying3 hy1
  obtain ⟨c, e2, _, _⟩ := DataW.trod_int Tryz.underlying3 hy2
  obtain ⟨e, e3, _, _⟩ := DataW.trod_int Tryz.underlying3 hy3
  simp only [List.cons.injEq, and_true] at e0 e1 e2 e3
  subst e0 e1 e2 e3 hv0
  exact ⟨a, b, c, e, rfl⟩
set_option maxRecDepth 100000 in
/-- a state that came in -/
theorem state_of_trod {r : Reach} {b0 : Nat} {v : Value} {d : DataW H} {p : List MemPlace} (hv : Value.okWide Tryz.prog w r b0 24 v) (h : DataW.Trod enc Tryz.prog w base spare held 24 v d p) :
    ∃ s, StAt w v s ∧ StBd s := by
  obtain ⟨c0, c1, c2, c3, c4, c5, c6, c7, y0, y1, y2, y3, y4, y5, y6, y7, m, hv0, hy0, hy1, hy2, hy3, hy4, hy5, hy6, hy7⟩ := open_agg8 Tryz.underlying24 (by kernel_rfl) cellsState hv h
  obtain ⟨a1, k1, s1, e0, b1, i1⟩ := ints_of_trod hy0
  obtain ⟨a2, k2, s2, e1, b2, i2⟩ := ints_of_trod hy1
  obtain ⟨tk, e2, _, _⟩ := DataW.trod_int Tryz.underlying3 hy2
  obtain ⟨a3, k3, s3, e3, b3, i3⟩ := ints_of_trod hy3
  obtain ⟨tm, e4, _, _⟩ := DataW.trod_int Tryz.underlying3 hy4
  obtain ⟨at_, e5, _, _⟩ := DataW.trod_int Tryz.underlying3 hy5
  obtain ⟨dn, e6, _, _⟩ := DataW.trod_int Tryz.underlying3 hy6
  obtain ⟨wy, e7, _, _⟩ := DataW.trod_int Tryz.underlying3 hy7
  simp only [List.cons.injEq, and_true] at e2 e4 e5 e6 e7
  subst e0 e1 e2 e3 e4 e5 e6 e7 hv0
  exact ⟨⟨s1, s2, tk, s3, tm, at_, dn, wy⟩, ⟨a1, a2, a3, k1, k2, k3, rfl, i1, i2, i3⟩, b1, b2, b3⟩
end
end Go.Proofs.YtbcciokmlkofkaaGreat
/- What an argument of the row of TopWarm holds: a line, an oven with its temperatures, bytes. -/
namespace Go.Proofs.YtbcciokmlkofkaaGreat
open Go.ChangeShapes Go.WideShapes Go.ChangeAt Go.RowKit Go.Joins Go.Deep Go.Q
set_option linter.unusedVariables false
theorem cellsWarm : Tryz.prog.cellsOf 33 = 16 := by kernel_rfl
section
variable {H : Type} {enc : TypeId × Value → H} {w : World} {base : Nat} {spare : Nat → Bool} {held : Bool}
set_option maxRecDepth 100000 in
theorem warm_of_trod {r : Reach} {b0 : Nat} {v : Value} {d : DataW H} {p : List MemPlace} (hv : Value.okWide Tryz.prog w r b0 33 v) (h : DataW.Trod enc Tryz.prog w base spare held 33 v d p) :
    ∃ (l : Ln) (o : Ov) (temp : Sp) (heats : Bool) (a : Option Addr) (c : Nat) (xs : List Int), v = .agg #[.int .i64 l.words, .int .i64 l.bits, .int .i64 l.period, .int .i64 l.delay, .int .i64 l.slope, .int .i64 l.window, .int .i64 o.low, .int .i64 o.high, .int .i64 o.warm.lo, .int .i64 o.warm.hi, .int .i64 o.cool.lo, .int .i64 o.cool.hi, .int .i64 temp.lo, .int .i64 temp.hi, .bool heats, .slice a xs.length c] ∧ xs.length ≤ 9223372036854775807 ∧ BytesAt w a xs ∧ OkU xs := by
  obtain ⟨cs, rfl, hsz⟩ := okWide_struct Tryz.underlying33 hv
  obtain ⟨l⟩ := cs
  obtain ⟨fuel, hf⟩ := h
  obtain ⟨xs, n, _, _, _, hlen, hg⟩ := DataW.trod_struct Tryz.underlying33 hf
  match l, hsz.trans cellsWarm with
  | [c0, c1, c2, c3, c4, c5, c6, c7, c8, c9, c10, c11, c12, c13, c14, c15], _ =>
    match xs, hlen with
    | [y0, y1, y2, y3, y4], _ =>
      have h0 : DataW.trod enc Tryz.prog w base spare held n 26 (List.take (Tryz.prog.cellsOf 26) (List.drop 0 [c0, c1, c2, c3, c4, c5, c6, c7, c8, c9, c10, c11, c12, c13, c14, c15])) = some y0 := hg 0 _ rfl
      have h1 : DataW.trod enc Tryz.prog w base spare held n 30 (List.take (Tryz.prog.cellsOf 30) (List.drop 6 [c0, c1, c2, c3, c4, c5, c6, c7, c8, c9, c10, c11, c12, c13, c14, c15])) = some y1 := hg 1 _ rfl
      have h2 : DataW.trod enc Tryz.prog w base spare held n 28 (List.take (Tryz.prog.cellsOf 28) (List.drop 12 [c0, c1, c2, c3, c4, c5, c6, c7, c8, c9, c10, c11, c12, c13, c14, c15])) = some y2 := hg 2 _ rfl
      have h3 : DataW.trod enc Tryz.prog w base spare held n 4 (List.take (Tryz.prog.cellsOf 4) (List.drop 14 [c0, c1, c2, c3, c4, c5, c6, c7, c8, c9, c10, c11, c12, c13, c14, c15])) = some y3 := hg 3 _ rfl
      have h4 : DataW.trod enc Tryz.prog w base spare held n 31 (List.take (Tryz.prog.cellsOf 31) (List.drop 15 [c0, c1, c2, c3, c4, c5, c6, c7, c8, c9, c10, c11, c12, c13, c14, c15])) = some y4 := hg 4 _ rfl
      rw [cellsLine] at h0
      rw [cellsOven] at h1
      rw [cellsSpan] at h2
      rw [cellsBool1] at h3
      rw [cellsBytes] at h4
      obtain ⟨ln, e0⟩ := line_of_cells (cs := [c0, c1, c2, c3, c4, c5]) h0
      obtain ⟨o, e1⟩ := oven_of_cells (cs := [c6, c7, c8, c9, c10, c11]) h1
      obtain ⟨s, e2, _, _⟩ := span_of_cells (cs := [c12, c13]) h2
      obtain ⟨hb, e3, _⟩ := DataW.trod_bool (cs := [c14]) Tryz.underlying4 h3
      obtain ⟨a, c, bs, rfl, hbs⟩ := bytes_of_trod (v := c15) h4
      simp only [List.cons.injEq, and_true] at e0 e1 e2 e3
      obtain ⟨rfl, rfl, rfl, rfl, rfl, rfl⟩ := e0
      obtain ⟨rfl, rfl, rfl, rfl, rfl, rfl⟩ := e1
      obtain ⟨rfl, rfl⟩ := e2
      subst e3
      exact ⟨ln, o, s, hb, a, c, bs, rfl, hbs⟩
theorem ints_of_trod2 {n : Nat} {v : Value} {y : DataW H × List MemPlace} (h : DataW.trod enc Tryz.prog w base spare held n 22 [v] = some y) :
    ∃ a c xs, v = .slice a (xs : List Int).length c ∧ (xs.length ≤ c ∧ c ≤ 9223372036854775807) ∧ IntsAt w a xs := by
  rcases open_ints Tryz.underlying22 Tryz.underlying3 (by kernel_rfl) h with ⟨hcs, _⟩ | ⟨x, l, c, zs, hcs, _, hl, hm, hz, _, hcell, _⟩
  · exact ⟨none, 0, [], List.cons.inj hcs |>.1, ⟨by simp, by decide⟩, .inl rfl⟩
  · have hlz : l ≤ zs.length := by rw [hz]; split <;> omega
    have hm' : c ≤ 9223372036854775807 := Nat.le_trans hm (by decide)
    have hlen : (zs.take l).length = l := by simp [hlz]
    refine ⟨some x, c, zs.take l, by rw [hlen]; exact List.cons.inj hcs |>.1, ⟨by rw [hlen]; omega, hm'⟩, ?_⟩
    by_cases h0 : l = 0
    · exact .inl (by simp [h0])
    obtain ⟨b, off, rfl, hc⟩ := ints_at hcell (by omega)
    refine .inr ⟨b, off, rfl, World.block_lt_of_cell? _ _ (hc 0 (by omega)), fun i hi => ?_⟩
    rw [hlen] at hi
    have e : (zs.take l)[i]?.getD 0 = zs.getD i 0 := by simp [List.getElem?_take, hi, List.getD]
    rw [e]
    exact hc i (by omega)
set_option maxRecDepth 100000 in
theorem state_of_trod2 {r : Reach} {b0 : Nat} {v : Value} {d : DataW H} {p : List MemPlace} (hv : Value.okWide Tryz.prog w r b0 24 v) (h : DataW.Trod enc Tryz.prog w base spare held 24 v d p) :
    ∃ (s : St) (a1 a2 a3 : Option Addr) (k1 k2 k3 : Nat), v = sv a1 a2 a3 s.store.length k1 s.tape.length k2 s.printed.length k3 s.taken s.time s.at_ s.done s.why ∧ (s.store.length ≤ k1 ∧ k1 ≤ 9223372036854775807) ∧ (IntsAt w a1 s.store ∧ IntsAt w a2 s.tape ∧ IntsAt w a3 s.printed) ∧ StBd s := by
  obtain ⟨c0, c1, c2, c3, c4, c5, c6, c7, y0, y1, y2, y3, y4, y5, y6, y7, m, hv0, hy0, hy1, hy2, hy3, hy4, hy5, hy6, hy7⟩ := open_agg8 Tryz.underlying24 (by kernel_rfl) cellsState hv h
  obtain ⟨a1, k1, s1, e0, b1, i1⟩ := ints_of_trod2 hy0
  obtain ⟨a2, k2, s2, e1, b2, i2⟩ := ints_of_trod hy1
  obtain ⟨tk, e2, _, _⟩ := DataW.trod_int Tryz.underlying3 hy2
  obtain ⟨a3, k3, s3, e3, b3, i3⟩ := ints_of_trod hy3
  obtain ⟨tm, e4, _, _⟩ := DataW.trod_int Tryz.underlying3 hy4
  obtain ⟨at_, e5, _, _⟩ := DataW.trod_int Tryz.underlying3 hy5
  obtain ⟨dn, e6, _, _⟩ := DataW.trod_int Tryz.underlying3 hy6
  obtain ⟨wy, e7, _, _⟩ := DataW.trod_int Tryz.underlying3 hy7
  simp only [List.cons.injEq, and_true] at e2 e4 e5 e6 e7
  subst e0 e1 e2 e3 e4 e5 e6 e7 hv0
  exact ⟨⟨s1, s2, tk, s3, tm, at_, dn, wy⟩, a1, a2, a3, k1, k2, k3, rfl, b1, ⟨i1, i2, i3⟩, Nat.le_trans b1.1 b1.2, b2, b3⟩
end
end Go.Proofs.YtbcciokmlkofkaaGreat
/- Facts on the whole program that every row of the layer asks: each by the kernel, once. -/
namespace Go.Proofs.YtbcciokmlkofkaaGreat
open Go
theorem factKeys : Tryz.pinned.checked.prog.plainKeys = false := by kernel_rfl
theorem factHeard : Tryz.pinned.checked.prog.stopsHeard = true := by kernel_rfl
theorem factEnter : Tryz.pinned.checked.prog.mayEnter = true := by kernel_rfl
theorem factLifted : Tryz.pinned.checked.prog.liftsFinal = false := by kernel_rfl
theorem factMake : (Tryz.pinned.checked.prog.make == some Make.cut) = true := by kernel_rfl
end Go.Proofs.YtbcciokmlkofkaaGreat

import Derived.Test.YtnhpcoagkmgdoaaRows
import Derived.WalkKit
import Derived.ProofKit
import Derived.OpenShut
import Derived.ShutString
import Derived.ChangeOld
import Derived.Below
import Derived.Lib.SmallJoins
import Derived.Test.YtnhpcoagkmgdoaaShelf
import Derived.Test.YtnhpcoagkmgdoaaX4
import Derived.Test.YtnhpcoagkmgdoaaX5
set_option linter.unusedVariables false
set_option linter.unusedSimpArgs false
/- append(s, make([]T, m)...): the append of so many zeros, to a row owned. -/
namespace Go.Q
open Go.RowKit
theorem zeroCells_one (z : Value) (m : Nat) : Builtin.zeroCells #[z] m = (List.replicate m z).toArray := by
 apply Array.ext
 ·simp [Builtin.zeroCells]
 ·intro i h1 h2
  simp [Builtin.zeroCells, Nat.mod_one]
/-- no zeros -/
theorem run_app_none {P : Program} {w : World} (base : Nat) (t ti ty e : TypeId) (i : TypeInfo) (ht : P.underlying t = some (.slice e)) (hti : P.underlying ti = some (.int .i64)) (hi : P.info? e = some i) {g n cap : Nat} {xs : List Value} (hown : w.ownsRow base e 1 (.slice (some ⟨g, 0, none⟩) n cap) n xs) :
  (Builtin.append_ #[t, ti] ty #[.slice (some ⟨g, 0, none⟩) n cap, .int .i64 0]).run P w = .ok (.slice (some ⟨g, 0, none⟩) n cap) w := by
 have hw : IntKind.i64.wrap (0 : Int) = 0 := rfl
 rcases hown.2 with ⟨h1, _⟩ | ⟨g0, cap0, cur, h1, hbg, hg, hnc, hcm, hcs, htake⟩
 ·simp at h1
 ·simp only [Value.slice.injEq, Option.some.injEq, Addr.mk.injEq, and_true, true_and] at h1
  obtain ⟨rfl, rfl⟩ := h1
  simp [Builtin.append_, run_underlying ht, run_underlying hti, sizeOf, typeInfo, hi, hw, hnc, Addr.add_lit, storeCells, asInt, asIntOf]
section
variable {P : Program} {w : World} (base : Nat) (t ti ty e : TypeId) (i : TypeInfo) (zv : Value) (ht : P.underlying t = some (.slice e)) (hti : P.underlying ti = some (.int .i64)) (hi : P.info? e = some i) (hz : i.zero = some zv) (hsz : i.size = 1) (hzc : zv.cells = #[zv]) (h1z : zv.oneCell' = true) (hib : i.bytes ≤ 8)
include ht hti hi hz hsz hzc h1z hib
theorem run_app_zeros {g n cap : Nat} {xs : List Value} (hown : w.ownsRow base e 1 (.slice (some ⟨g, 0, none⟩) n cap) n xs) (m : Nat) (hm : 0 < m) (hm2 : m ≤ 1000) (hb : (n + m) * i.bytes ≤ 140737488355328) (h63 : n + m ≤ maxLen) (hbase : base ≤ w.heap.size) :
  ∃ g' c' w', (Builtin.append_ #[t, ti] ty #[.slice (some ⟨g, 0, none⟩) n cap, .int .i64 m]).run P w = .ok (.slice (some ⟨g', 0, none⟩) (n + m) c') w' ∧ w'.ownsRow base e 1 (.slice (some ⟨g', 0, none⟩) (n + m) c') (n + m) (xs ++ List.replicate m zv) ∧ w.grownBy w' (some g) := by
 have hsmall : n + m ≤ 9223372036854775807 := by unfold maxLen at h63; omega
 have hw : IntKind.i64.wrap (m : Int) = (m : Int) := IntWalk.i64_in _ (by omega)
 have hneg : ¬ (m : Int) < 0 := by omega
 have h48a : ¬ (281474976710656 : Int) < (m : Int) * (i.bytes : Int) := by
  have h2 : ((m * i.bytes : Nat) : Int) ≤ ((8000 : Nat) : Int) := Int.ofNat_le.2 (Nat.mul_le_mul hm2 hib)
  rw [Int.natCast_mul] at h2
  omega
 have hm0 : m ≠ 0 := by omega
 have hlx : xs.length = n := by have := hown.1; rw [Nat.mul_one] at this; exact this
 have hzs : zv.cells.size = 1 := by rw [hzc]; rfl
 have hlen : (xs ++ List.replicate m zv).length = (n + m) * 1 := by rw [List.length_append, List.length_replicate, hlx, Nat.mul_one]
 rcases hown.2 with ⟨h1, _⟩ | ⟨g0, cap0, cur, h1, hbg, hg, hnc, hcm, hcs, htake⟩
 ·simp at h1
 ·simp only [Value.slice.injEq, Option.some.injEq, Addr.mk.injEq, and_true, true_and] at h1
  obtain ⟨rfl, rfl⟩ := h1
  by_cases hroom : n + m ≤ cap
  ·have hfit : n * 1 + (List.replicate m zv).length ≤ cur.size := by rw [List.length_replicate, hcs]; omega
   have hst := run_storeCells_at P g (n * 1) e (List.replicate m zv) 0 cur w hg (by simpa using hfit) (fun u hu => by rw [(List.mem_replicate.1 hu).2]; exact h1z)
   simp only [Nat.add_zero, Nat.mul_one, List.length_replicate] at hst
   obtain ⟨R, hR⟩ : ∃ R : Array Value, (cur.toList.take n ++ List.replicate m zv ++ cur.toList.drop (n + m)).toArray = R := ⟨_, rfl⟩
   rw [hR] at hst
   refine ⟨g, cap, w.setRow g R, ?_, ⟨hlen, .inr ⟨g, cap, R, rfl, hbg, setRow_heap w g cur R e _ hg, hroom, hcm, ?_, ?_⟩⟩, ⟨rfl, rfl, rfl, by simp, fun k _ hk => setRow_other w g k _ (fun e => hk (by simp [e]))⟩⟩
   ·simp [Builtin.append_, run_underlying ht, run_underlying hti, sizeOf, typeInfo, zeroValue, hi, hz, hsz, hw, hneg, h48a, hm0, hroom, hzc, zeroCells_one, Addr.add_lit, hst, asInt, asIntOf]
   ·rw [← hR]
    simp only [List.size_toArray, List.length_append, List.length_take, List.length_drop, List.length_replicate, Array.length_toList]
    rw [Nat.mul_one] at hcs ⊢
    omega
   ·rw [← hR, ← hlen]
    rw [Nat.mul_one] at htake
    show List.take _ (cur.toList.take n ++ List.replicate m zv ++ cur.toList.drop (n + m)) = _
    rw [htake]
    exact List.take_left
  ·have holds : ∀ j u, xs[j]? = some u → w.cell? ((⟨g, 0, none⟩ : Addr).add j) = some u := hown.cells (g := g) rfl
   have hge := grownCap_ge w (n + m) cap e
   have hcm2 : grownCap w (n + m) cap e ≤ maxLen := grownCap_le_maxLen w (n + m) cap e h63
   have h63' : ¬ (9223372036854775807 < ((n : Int) + (m : Int))) := by omega
   have h48' : ¬ (281474976710656 < Builtin.nextslicecap (n + m) cap * i.bytes) := by
    have := growslice_fits (old := cap) (need := n + m) (bytes := i.bytes) (by omega) hb
    omega
   have hfo := run_firstCells_some (P := P) w.drew i.size n ⟨g, 0, none⟩ n cap xs (by rw [hsz, Nat.mul_one]; exact hlx) (by simpa using holds)
   rw [hsz] at hfo
   refine ⟨w.heap.size, grownCap w (n + m) cap e, w.drew.alloc (.cells ((xs ++ List.replicate m zv ++ List.replicate (grownCap w (n + m) cap e - (n + m)) zv).toArray) e), ?_, ⟨hlen, .inr ⟨w.heap.size, _, _, rfl, hbase, heap_alloc_new w.drew _, hge, hcm2, ?_, ?_⟩⟩, ⟨rfl, rfl, rfl, by simp, fun k hk _ => heap_alloc_old w.drew _ hk⟩⟩
   ·simp [Builtin.append_, run_underlying ht, run_underlying hti, sizeOf, typeInfo, zeroValue, hi, hz, hsz, hw, hneg, h48a, hm0, hroom, hzc, zeroCells_one, hfo, h63', h48', Question.forced, newRow, grownCap, asInt, asIntOf]
    congr 2
    apply Array.ext'
    simp
   ·rw [Nat.mul_one]
    simp only [List.size_toArray, List.length_append, List.length_replicate, hlx]
    omega
   ·show List.take _ (xs ++ List.replicate m zv ++ List.replicate _ zv) = _
    rw [← hlen]
    exact List.take_left
/-- so many zeros, none or more -/
theorem run_app_made {w0 : World} {g n cap : Nat} {xs : List Value} (hown : w.ownsRow base e 1 (.slice (some ⟨g, 0, none⟩) n cap) n xs) (hE : Ext w0 w) (m : Nat) (hm2 : m ≤ 1000) (hb : (n + m) * i.bytes ≤ 140737488355328) (h63 : n + m ≤ maxLen) (hb0 : w0.heap.size ≤ base) (hbase : base ≤ w.heap.size) :
  ∃ g' c' w', (Builtin.append_ #[t, ti] ty #[.slice (some ⟨g, 0, none⟩) n cap, .int .i64 m]).run P w = .ok (.slice (some ⟨g', 0, none⟩) (n + m) c') w' ∧ w'.ownsRow base e 1 (.slice (some ⟨g', 0, none⟩) (n + m) c') (n + m) (xs ++ List.replicate m zv) ∧ Ext w0 w' := by
 rcases Nat.eq_zero_or_pos m with rfl | hm
 ·exact ⟨g, cap, w, run_app_none base t ti ty e i ht hti hi hown, by simpa using hown, hE⟩
 ·obtain ⟨g', c', w', h1, h2, h3⟩ := run_app_zeros base t ti ty e i zv ht hti hi hz hsz hzc h1z hib hown m hm hm2 hb h63 hbase
  exact ⟨g', c', w', h1, h2, hE.grown h3 (Nat.le_trans hb0 hbase) (fun k hk => Nat.le_trans hb0 ((hown.lt k (by rw [← hk]; rfl)).1))⟩
theorem wpList_app_made {w0 : World} {ops : Array Oper} {rest : List Oper} {o : Oper} {act : Act} {Q : Exit → Act → World → Prop} (hgd : o.guard = none) (s x : Operand)
  (ho : o.op = .call { callee := .builtin .append, args := #[s, x], argTypes := #[t, ti] }) {g n cap : Nat} {xs : List Value} (he : act.eval s = .slice (some ⟨g, 0, none⟩) n cap) (hown : w.ownsRow base e 1 (.slice (some ⟨g, 0, none⟩) n cap) n xs) (hE : Ext w0 w) (m : Nat) (hx : act.eval x = .int .i64 m) (hm2 : m ≤ 1000) (hb : (n + m) * i.bytes ≤ 140737488355328) (h63 : n + m ≤ maxLen) (hb0 : w0.heap.size ≤ base) (hbase : base ≤ w.heap.size)
  (h : ∀ (g' c' : Nat) (w' : World), w'.ownsRow base e 1 (.slice (some ⟨g', 0, none⟩) (n + m) c') (n + m) (xs ++ List.replicate m zv) → Ext w0 w' → wpList P ops Q rest (act.put o.dst (.slice (some ⟨g', 0, none⟩) (n + m) c')) w') : wpList P ops Q (o :: rest) act w := by
 refine wpList_plain hgd fun K hK => ?_
 obtain ⟨g', c', w', hr, h2, h3⟩ := run_app_made base t ti o.type e i zv ht hti hi hz hsz hzc h1z hib hown hE m hm2 hb h63 hb0 hbase
 have hk := hK _ _ (h g' c' w' h2 h3)
 unfold Oper.wp execOp
 simp only [ho, resolve, invoke, builtin, Sem.run_bind, Sem.run_pure, Result.andThen_ok, List.map_toArray, List.map_cons, List.map_nil, he, hx, hr]
 exact hk
end
end Go.Q
/- What an argument of the rows holds: a slice of ints, a state. -/
namespace Go.Proofs.Ytnhpcoagkmgdoaa
open Go.ChangeShapes Go.WideShapes Go.ChangeAt Go.RowKit Go.Joins Go.Deep Go.Q
set_option linter.unusedVariables false
theorem rowOwn : ownKnob Try.prog.godebug = none := by kernel_rfl
theorem rowLaid : laidOutB Try.prog = true := by kernel_rfl
theorem cellsOrd : Try.prog.cellsOf 119 = 4 := by kernel_rfl
theorem cellsState : Try.prog.cellsOf 33 = 8 := by kernel_rfl
section
variable {H : Type} {enc : TypeId × Value → H} {w : World} {base : Nat} {spare : Nat → Bool} {held : Bool}
theorem ints_of_trod {n : Nat} {v : Value} {y : DataW H × List MemPlace} (h : DataW.trod enc Try.prog w base spare held n 22 [v] = some y) :
  ∃ a c xs, v = .slice a (xs : List Int).length c ∧ xs.length ≤ 9223372036854775807 ∧ IntsAt w a xs := by
 rcases open_ints Try.underlying22 Try.underlying3 (by kernel_rfl) h with ⟨hcs, _⟩ | ⟨x, l, c, zs, hcs, _, hl, hm, hz, _, hcell, _⟩
 ·exact ⟨none, 0, [], List.cons.inj hcs |>.1, by simp, .inl rfl⟩
 ·have hlz : l ≤ zs.length := by rw [hz]; split <;> omega
  have hm' : c ≤ 9223372036854775807 := Nat.le_trans hm (by decide)
  have hlen : (zs.take l).length = l := by simp [hlz]
  refine ⟨some x, c, zs.take l, by rw [hlen]; exact List.cons.inj hcs |>.1, by rw [hlen]; omega, ?_⟩
  by_cases h0 : l = 0
  ·exact .inl (by simp [h0])
  obtain ⟨b, off, rfl, hc⟩ := ints_at hcell (by omega)
  refine .inr ⟨b, off, rfl, World.block_lt_of_cell? _ _ (hc 0 (by omega)), fun i hi => ?_⟩
  rw [hlen] at hi
  have e : (zs.take l)[i]?.getD 0 = zs.getD i 0 := by simp [List.getElem?_take, hi, List.getD]
  rw [e]
  exact hc i (by omega)
theorem open_agg8 {P : Program} {r : Reach} {b0 : Nat} {t : TypeId} {f0 f1 f2 f3 f4 f5 f6 f7 : Field} {v : Value} {d : DataW H} {p : List MemPlace} (hs : P.underlying t = some (.struct #[f0, f1, f2, f3, f4, f5, f6, f7])) (hone : oneCellFields P #[f0, f1, f2, f3, f4, f5, f6, f7] = true) (hC : P.cellsOf t = 8)
  (hv : Value.okWide P w r b0 t v) (h : DataW.Trod enc P w base spare held t v d p) :
  ∃ (v0 v1 v2 v3 v4 v5 v6 v7 : Value) (y0 y1 y2 y3 y4 y5 y6 y7 : DataW H × List MemPlace) (n : Nat), v = .agg #[v0, v1, v2, v3, v4, v5, v6, v7] ∧
   DataW.trod enc P w base spare held n f0.type [v0] = some y0 ∧ DataW.trod enc P w base spare held n f1.type [v1] = some y1 ∧ DataW.trod enc P w base spare held n f2.type [v2] = some y2 ∧ DataW.trod enc P w base spare held n f3.type [v3] = some y3 ∧ DataW.trod enc P w base spare held n f4.type [v4] = some y4 ∧ DataW.trod enc P w base spare held n f5.type [v5] = some y5 ∧ DataW.trod enc P w base spare held n f6.type [v6] = some y6 ∧ DataW.trod enc P w base spare held n f7.type [v7] = some y7 := by
 obtain ⟨cs, rfl, hsz⟩ := okWide_struct hs hv
 obtain ⟨l⟩ := cs
 match l, hsz.trans hC with
 | [c0, c1, c2, c3, c4, c5, c6, c7], _ =>
  obtain ⟨fuel, hf⟩ := h
  obtain ⟨xs, n, _, hx, _, hlen, hg⟩ := DataW.trod_struct hs hf
  obtain ⟨o0, k0⟩ := hone_of hone 0 f0 rfl
  obtain ⟨o1, k1⟩ := hone_of hone 1 f1 rfl
  obtain ⟨o2, k2⟩ := hone_of hone 2 f2 rfl
  obtain ⟨o3, k3⟩ := hone_of hone 3 f3 rfl
  obtain ⟨o4, k4⟩ := hone_of hone 4 f4 rfl
  obtain ⟨o5, k5⟩ := hone_of hone 5 f5 rfl
  obtain ⟨o6, k6⟩ := hone_of hone 6 f6 rfl
  obtain ⟨o7, k7⟩ := hone_of hone 7 f7 rfl
  match xs, hlen with
  | [y0, y1, y2, y3, y4, y5, y6, y7], _ =>
   exact ⟨c0, c1, c2, c3, c4, c5, c6, c7, y0, y1, y2, y3, y4, y5, y6, y7, n, rfl, by simpa [Value.cells, o0, k0] using hg 0 f0 rfl, by simpa [Value.cells, o1, k1] using hg 1 f1 rfl, by simpa [Value.cells, o2, k2] using hg 2 f2 rfl, by simpa [Value.cells, o3, k3] using hg 3 f3 rfl, by simpa [Value.cells, o4, k4] using hg 4 f4 rfl, by simpa [Value.cells, o5, k5] using hg 5 f5 rfl, by simpa [Value.cells, o6, k6] using hg 6 f6 rfl, by simpa [Value.cells, o7, k7] using hg 7 f7 rfl⟩
/-- an array of integers that came in -/
theorem arr_of_trod {P : Program} {r : Reach} {b0 n : Nat} {t e : TypeId} {k : IntKind} {v : Value} {d : DataW H} {p : List MemPlace} (ht : P.underlying t = some (.array n e)) (he : P.underlying e = some (.int k)) (h1 : P.cellsOf e = 1) (hC : P.cellsOf t = n)
  (hv : Value.okWide P w r b0 t v) (h : DataW.Trod enc P w base spare held t v d p) : ∃ xs : List Int, xs.length = n ∧ v = .agg (xs.map (Value.int k)).toArray ∧ ∀ x ∈ xs, (Lit.int k x).wf = true := by
 simp only [Value.okWide, ht] at hv
 obtain ⟨cs, rfl, h2, _⟩ := hv
 obtain ⟨fuel, hf⟩ := h
 obtain ⟨xs, m, _, _, _, hlen, hg⟩ := DataW.trod_array ht hf
 have hcs : cs.size = n := h2.trans hC
 have key : ∀ i, i < n → ∃ z, cs[i]? = some (.int k z) ∧ (Lit.int k z).wf = true := by
  intro i hi
  have hx := hg i hi
  rw [List.getElem?_eq_getElem (by omega : i < xs.length)] at hx
  obtain ⟨z, ez, _, hw⟩ := DataW.trod_int he hx
  refine ⟨z, ?_, hw⟩
  rw [h1, Nat.mul_one] at ez
  have e1 : ((Value.agg cs).cells.toList.drop i).head? = some (.int k z) := by
   have : (((Value.agg cs).cells.toList.drop i).take 1).head? = some (.int k z) := by rw [ez]; rfl
   simpa [List.head?_take] using this
  simpa [Value.cells, List.head?_drop] using e1
 refine ⟨cs.toList.map intOf, by simpa using hcs, ?_, ?_⟩
 ·congr 1
  refine Array.ext' ?_
  simp only [List.map_map]
  refine List.ext_getElem? fun i => ?_
  by_cases hi : i < n
  ·obtain ⟨z, hz, _⟩ := key i hi
   simp [hz, intOf]
  ·simp [Array.getElem?_eq_none (by omega : cs.size ≤ i)]
 ·intro x hx
  obtain ⟨v, hv, rfl⟩ := List.mem_map.1 hx
  obtain ⟨i, hi, rfl⟩ := List.mem_iff_getElem.1 hv
  obtain ⟨z, hz, hw⟩ := key i (by simpa [hcs] using hi)
  have : cs.toList[i] = .int k z := by
   have hz' : cs.toList[i]? = some (.int k z) := by simpa using hz
   rw [List.getElem?_eq_getElem hi] at hz'
   exact Option.some.inj hz'
  rw [this]
  exact hw
theorem arr2_of_trod {P : Program} {r : Reach} {b0 : Nat} {t e : TypeId} {k : IntKind} {v : Value} {d : DataW H} {p : List MemPlace} (ht : P.underlying t = some (.array 2 e)) (he : P.underlying e = some (.int k)) (h1 : P.cellsOf e = 1) (hC : P.cellsOf t = 2)
  (hv : Value.okWide P w r b0 t v) (h : DataW.Trod enc P w base spare held t v d p) : ∃ a b : Int, v = .agg #[.int k a, .int k b] ∧ (Lit.int k a).wf = true ∧ (Lit.int k b).wf = true := by
 obtain ⟨xs, hl, rfl, hw⟩ := arr_of_trod ht he h1 hC hv h
 match xs, hl with
 | [a, b], _ => exact ⟨a, b, rfl, hw a (by simp), hw b (by simp)⟩
theorem arr3_of_trod {P : Program} {r : Reach} {b0 : Nat} {t e : TypeId} {k : IntKind} {v : Value} {d : DataW H} {p : List MemPlace} (ht : P.underlying t = some (.array 3 e)) (he : P.underlying e = some (.int k)) (h1 : P.cellsOf e = 1) (hC : P.cellsOf t = 3)
  (hv : Value.okWide P w r b0 t v) (h : DataW.Trod enc P w base spare held t v d p) : ∃ a b c : Int, v = .agg #[.int k a, .int k b, .int k c] ∧ (Lit.int k a).wf = true ∧ (Lit.int k b).wf = true ∧ (Lit.int k c).wf = true := by
 obtain ⟨xs, hl, rfl, hw⟩ := arr_of_trod ht he h1 hC hv h
 match xs, hl with
 | [a, b, c], _ => exact ⟨a, b, c, rfl, hw a (by simp), hw b (by simp), hw c (by simp)⟩
theorem u16_bd {a : Int} (h : (Lit.int .u16 a).wf = true) : 0 ≤ a ∧ a ≤ 65535 := by
 simp [Lit.wf, IntKind.min, IntKind.max, IntKind.signed, IntKind.bits] at h
 omega
theorem u8_bd {a : Int} (h : (Lit.int .u8 a).wf = true) : 0 ≤ a ∧ a ≤ 255 := by
 simp [Lit.wf, IntKind.min, IntKind.max, IntKind.signed, IntKind.bits] at h
 omega
set_option maxRecDepth 100000 in
/-- an order that came in -/
theorem ord_of_trod {r : Reach} {b0 : Nat} {v : Value} {d : DataW H} {p : List MemPlace} (hv : Value.okWide Try.prog w r b0 119 v) (h : DataW.Trod enc Try.prog w base spare held 119 v d p) :
  ∃ a b c e : Int, v = .agg #[.int .i64 a, .int .i64 b, .int .i64 c, .int .i64 e] := by
 obtain ⟨c0, c1, c2, c3, y0, y1, y2, y3, m, hv0, _, _, hy0, hy1, hy2, hy3⟩ := open_agg4 Try.underlying119 (by kernel_rfl) cellsOrd hv h
 obtain ⟨a, e0, _, _⟩ := DataW.trod_int Try.underlying3 hy0
 obtain ⟨b, e1, _, _⟩ := DataW.trod_int Try.underlying3 hy1
 obtain ⟨c, e2, _, _⟩ := DataW.trod_int Try.underlying3 hy2
 obtain ⟨e, e3, _, _⟩ := DataW.trod_int Try.underlying3 hy3
 simp only [List.cons.injEq, and_true] at e0 e1 e2 e3
 subst e0 e1 e2 e3 hv0
 exact ⟨a, b, c, e, rfl⟩
set_option maxRecDepth 100000 in
/-- a state that came in -/
theorem state_of_trod {r : Reach} {b0 : Nat} {v : Value} {d : DataW H} {p : List MemPlace} (hv : Value.okWide Try.prog w r b0 33 v) (h : DataW.Trod enc Try.prog w base spare held 33 v d p) :
  ∃ s, StAt w v s ∧ StBd s := by
 obtain ⟨c0, c1, c2, c3, c4, c5, c6, c7, y0, y1, y2, y3, y4, y5, y6, y7, m, hv0, hy0, hy1, hy2, hy3, hy4, hy5, hy6, hy7⟩ := open_agg8 Try.underlying33 (by kernel_rfl) cellsState hv h
 obtain ⟨a1, k1, s1, e0, b1, i1⟩ := ints_of_trod hy0
 obtain ⟨a2, k2, s2, e1, b2, i2⟩ := ints_of_trod hy1
 obtain ⟨tk, e2, _, _⟩ := DataW.trod_int Try.underlying3 hy2
 obtain ⟨a3, k3, s3, e3, b3, i3⟩ := ints_of_trod hy3
 obtain ⟨tm, e4, _, _⟩ := DataW.trod_int Try.underlying3 hy4
 obtain ⟨at_, e5, _, _⟩ := DataW.trod_int Try.underlying3 hy5
 obtain ⟨dn, e6, _, _⟩ := DataW.trod_int Try.underlying3 hy6
 obtain ⟨wy, e7, _, _⟩ := DataW.trod_int Try.underlying3 hy7
 simp only [List.cons.injEq, and_true] at e2 e4 e5 e6 e7
 subst e0 e1 e2 e3 e4 e5 e6 e7 hv0
 exact ⟨⟨s1, s2, tk, s3, tm, at_, dn, wy⟩, ⟨a1, a2, a3, k1, k2, k3, rfl, i1, i2, i3⟩, b1, b2, b3⟩
end
end Go.Proofs.Ytnhpcoagkmgdoaa
/- Layer 10's program: out, odd, check. -/
namespace Go.Q
open Go.RowKit
theorem u8_nat {a : Nat} (h : a < 256) : (BitVec.ofInt 8 (a : Int)).toNat = a := by
 rw [BitVec.toNat_ofInt]
 have e : (a : Int) % ((2 ^ 8 : Nat) : Int) = (a : Int) := Int.emod_eq_of_lt (by omega) (by show (a : Int) < 256; omega)
 rw [e]
 exact Int.toNat_natCast a
theorem u8_xor {a b : Nat} (ha : a < 256) (hb : b < 256) : bits .xor .u8 (a : Int) (b : Int) = ((a ^^^ b : Nat) : Int) := by
 show IntKind.u8.wrap (((BitVec.ofInt 8 (a : Int) ^^^ BitVec.ofInt 8 (b : Int)).toNat : Nat) : Int) = _
 have := Nat.xor_lt_two_pow (n := 8) ha hb
 rw [BitVec.toNat_xor, u8_nat ha, u8_nat hb, IntKind.wrap_u8]
 omega
theorem u8_and63 {a : Nat} (ha : a < 256) : bits .and .u8 (a : Int) 63 = ((a % 64 : Nat) : Int) := by
 show IntKind.u8.wrap (((BitVec.ofInt 8 (a : Int) &&& BitVec.ofInt 8 63).toNat : Nat) : Int) = _
 have e : (a &&& 63) = a % 64 := Nat.and_two_pow_sub_one_eq_mod a 6
 rw [BitVec.toNat_and, u8_nat ha, show (BitVec.ofInt 8 63).toNat = 63 from rfl, e, IntKind.wrap_u8]
 omega
theorem or64 : ∀ a : Fin 64, a.1 ||| 64 = a.1 + 64 := by decide
theorem u8_or64 {a : Nat} (ha : a < 64) : bits .or .u8 (a : Int) 64 = ((a + 64 : Nat) : Int) := by
 show IntKind.u8.wrap (((BitVec.ofInt 8 (a : Int) ||| BitVec.ofInt 8 64).toNat : Nat) : Int) = _
 rw [BitVec.toNat_or, u8_nat (by omega), show (BitVec.ofInt 8 64).toNat = 64 from rfl, or64 ⟨a, ha⟩, IntKind.wrap_u8]
 show ((a + 64 : Nat) : Int) % 256 = _
 omega
theorem i64_and63 {n : Int} (h : 0 ≤ n) : bits .and .i64 n 63 = ((n.toNat % 64 : Nat) : Int) := by
 rw [i64_mask n 63 6 (by decide) (by decide)]
 show n % 64 = _
 omega
theorem ones_odd : ∀ r : Fin 128, Go.Lib.onesCount r.1 % 2 = if oddP r.1 = true then 1 else 0 := by decide +kernel
end Go.Q
namespace Go.Proofs.Ytnhpcoagkmgdoaa
open Go.RowKit Go.Q
theorem out10_any (n lo hi : Int) (w : World) : Calls Try.prog 42 #[.int .i64 n, .int .i64 lo, .int .i64 hi] w fun e w' => e = .returned (.bool (!inB n lo hi)) ∧ w' = w := by
 by_cases h1 : n < lo
 ·have e : inB n lo hi = false := by unfold inB; rw [decide_eq_false (by omega)]; rfl
  rw [e]
  go_enter Try.func42, Try.ntmps42
  go_wp2
  go_ret
  exact ⟨rfl, rfl⟩
 ·by_cases h2 : hi < n
  ·have e : inB n lo hi = false := by unfold inB; rw [decide_eq_false (show ¬ n ≤ hi by omega)]; simp
   rw [e]
   go_enter Try.func42, Try.ntmps42
   go_wp2
   go_ret
   exact ⟨rfl, rfl⟩
  ·have e : inB n lo hi = true := by unfold inB; rw [decide_eq_true (show lo ≤ n by omega), decide_eq_true (show n ≤ hi by omega)]; rfl
   rw [e]
   go_enter Try.func42, Try.ntmps42
   go_wp2
   go_ret
   exact ⟨rfl, rfl⟩
theorem odd_int_any (n : Int) (w : World) (h0 : 0 ≤ n) : Calls Try.prog 81 #[.int .i64 n] w fun e w' => e = .returned (.int .u8 (oddR n.toNat : Nat)) ∧ w' = w := by
 have a1 := i64_and63 h0
 obtain ⟨x, hx⟩ : ∃ x, n.toNat % 64 = x := ⟨_, rfl⟩
 have hx64 : x < 64 := by rw [← hx]; exact Nat.mod_lt _ (by decide)
 have hoc := fun W => Try.bits_OnesCount8 (x : Int) W (by omega) (by omega)
 rw [Int.toNat_natCast] at hoc
 have hodd := ones_odd ⟨x, by omega⟩
 dsimp only at hodd
 obtain ⟨c, hc⟩ : ∃ c, Go.Lib.onesCount x = c := ⟨_, rfl⟩
 rw [hc] at hoc hodd
 have hw8 : IntKind.u8.wrap (x : Int) = (x : Int) := IntWalk.u8_in _ (by omega)
 have ho := Go.Q.u8_or64 hx64
 rw [hx] at a1
 unfold oddR
 rw [hx]
 cases hp : oddP x with
 | true =>
  rw [hp] at hodd
  have c1 : ((c : Int) % 2 == 0) = false := by have : c % 2 = 1 := hodd; simp; omega
  clear hodd hp hc hx
  go_enter Try.func81, Try.ntmps81
  go_wp2_with fail
  refine (hoc _).mono ?_
  rintro e w' ⟨rfl, rfl⟩
  go_wp2
  go_ret
  exact ⟨rfl, rfl⟩
 | false =>
  rw [hp] at hodd
  have c1 : ((c : Int) % 2 == 0) = true := by have : c % 2 = 0 := hodd; simp; omega
  clear hodd hp hc hx
  go_enter Try.func81, Try.ntmps81
  go_wp2_with fail
  refine (hoc _).mono ?_
  rintro e w' ⟨rfl, rfl⟩
  go_wp2
  go_ret
  exact ⟨rfl, rfl⟩
end Go.Proofs.Ytnhpcoagkmgdoaa
/- Layer 10's reference: in, bit, power, Holes, odd. -/
namespace Go.Q
open Go.RowKit
theorem bit_test (n k : Nat) : n / 2 ^ k % 2 = if n.testBit k = true then 1 else 0 := by
 rw [Nat.testBit_eq_decide_div_mod_eq]
 have := Nat.mod_two_eq_zero_or_one (n / 2 ^ k)
 by_cases h : n / 2 ^ k % 2 = 1
 ·rw [h]; simp
 ·rw [if_neg (by simpa using h)]; omega
theorem onesN_succ (n k : Nat) : onesN n (k + 1) = onesN n k + n / 2 ^ k % 2 := by
 rw [bit_test]
 rfl
theorem onesN_le (n : Nat) : ∀ k, onesN n k ≤ k
 | 0 => Nat.le_refl _
 | k + 1 => by have := onesN_le n k; rw [onesN_succ]; omega
end Go.Q
namespace Go.Proofs.Ytnhpcoagkmgdoaa
open Go.RowKit Go.Q
theorem rin10_any (n lo hi : Int) (w : World) : Calls Try.prog 76 #[.int .i64 n, .int .i64 lo, .int .i64 hi] w fun e w' => e = .returned (.bool (inB n lo hi)) ∧ w' = w := by
 by_cases h1 : lo ≤ n
 ·by_cases h2 : n ≤ hi
  ·have e : inB n lo hi = true := by unfold inB; rw [decide_eq_true h1, decide_eq_true h2]; rfl
   rw [e]
   go_enter Try.func76, Try.ntmps76
   go_wp2
   go_ret
   exact ⟨rfl, rfl⟩
  ·have e : inB n lo hi = false := by unfold inB; rw [decide_eq_false h2]; simp
   rw [e]
   go_enter Try.func76, Try.ntmps76
   go_wp2
   go_ret
   exact ⟨rfl, rfl⟩
 ·have e : inB n lo hi = false := by unfold inB; rw [decide_eq_false h1]; rfl
  rw [e]
  go_enter Try.func76, Try.ntmps76
  go_wp2
  go_ret
  exact ⟨rfl, rfl⟩
set_option maxHeartbeats 1000000 in
theorem rbit_any (n k : Nat) (w : World) (hn : n ≤ 9223372036854775807) (hk : k ≤ 64) : Calls Try.prog 67 #[.int .i64 n, .int .i64 k] w fun e w' => e = .returned (.int .i64 ((n / 2 ^ k % 2 : Nat) : Int)) ∧ w' = w := by
 obtain ⟨v, hv⟩ : ∃ v, n / 2 ^ k % 2 = v := ⟨_, rfl⟩
 rw [hv]
 have HV := Lib.hid hv
 clear hv
 go_enter Try.func67, Try.ntmps67
 go_wp2
 go_loopw [0, 5] (fun s0 s3 wr => ∃ i : Nat, i ≤ k ∧ s3 = .int .i64 (i : Int) ∧ s0 = .int .i64 ((n / 2 ^ i : Nat) : Int) ∧ wr = w) (fun _ s3 _ => k - (Go.RowKit.intOf s3).toNat)
 case atStart => exact ⟨0, Nat.zero_le _, rfl, by simp, rfl⟩
 case round =>
  obtain ⟨i, hi, rfl, rfl, rfl⟩ := hrel
  have hle : n / 2 ^ i ≤ n := Nat.div_le_self _ _
  by_cases hlt : i < k
  ·have hltz : (i : Int) < (k : Int) := by omega
   have HP := Lib.hid (show n / 2 ^ (i + 1) = n / 2 ^ i / 2 by rw [Nat.pow_succ, Nat.div_div_eq_div_mul])
   obtain ⟨x, hx⟩ : ∃ x, n / 2 ^ i = x := ⟨_, rfl⟩
   rw [hx] at hle HP ⊢
   obtain ⟨y, hy⟩ : ∃ y, x / 2 = y := ⟨_, rfl⟩
   rw [hy] at HP
   have t1 : Int.tdiv (x : Int) 2 = (y : Int) := by rw [Int.tdiv_eq_ediv_of_nonneg (by omega)]; omega
   have t2 : (x : Int) / 2 = (y : Int) := by omega
   have t3 : IntKind.i64.wrap (y : Int) = (y : Int) := IntWalk.i64_in _ (by omega)
   clear hx hy
   go_wp2
   go_roundw
   case rel => exact ⟨i + 1, by omega, by go_num, by rw [HP.out], (by first | rfl | trivial)⟩
   case measure => simp [Go.RowKit.intOf]; omega
  ·have hltz : ¬ (i : Int) < (k : Int) := by omega
   obtain rfl : i = k := by omega
   obtain ⟨x, hx⟩ : ∃ x, n / 2 ^ i = x := ⟨_, rfl⟩
   rw [hx] at hle ⊢
   obtain ⟨y, hy⟩ : ∃ y, x % 2 = y := ⟨_, rfl⟩
   obtain rfl : y = v := by rw [← HV.out, hx]; exact hy.symm
   have t1 : Int.tmod (x : Int) 2 = (y : Int) := by rw [Int.tmod_eq_emod_of_nonneg (by omega)]; omega
   have t2 : (x : Int) % 2 = (y : Int) := by omega
   clear hx hy
   go_wp2
   exact bodyPost_ret (v := .int .i64 (y : Int)) (by simp [results, Try.results67, go_sem]) rfl ⟨rfl, rfl⟩
set_option maxHeartbeats 1000000 in
theorem rpower10_any (n : Nat) (w : World) (hn : n ≤ 40) : Calls Try.prog 68 #[.int .i64 n] w fun e w' => e = .returned (.int .i64 ((2 ^ n : Nat) : Int)) ∧ w' = w := by
 go_enter Try.func68, Try.ntmps68
 go_wp2
 go_loopw [3, 4] (fun s2 s3 wr => ∃ k : Nat, k ≤ n ∧ s3 = .int .i64 (k : Int) ∧ s2 = .int .i64 ((2 ^ k : Nat) : Int) ∧ wr = w) (fun _ s3 _ => n - (Go.RowKit.intOf s3).toNat)
 case atStart => exact ⟨0, Nat.zero_le _, rfl, rfl, rfl⟩
 case round =>
  obtain ⟨k, hk, rfl, rfl, rfl⟩ := hrel
  have hb : 2 ^ k ≤ 2 ^ 40 := Nat.pow_le_pow_right (by decide) (by omega)
  rw [show 2 ^ 40 = 1099511627776 from rfl] at hb
  by_cases hlt : k < n
  ·have hltz : (k : Int) < (n : Int) := by omega
   have HP := Lib.hid (show 2 ^ (k + 1) = 2 * 2 ^ k by rw [Nat.pow_succ]; omega)
   obtain ⟨x, hx⟩ : ∃ x, 2 ^ k = x := ⟨_, rfl⟩
   rw [hx] at hb HP ⊢
   clear hx
   go_wp2
   go_roundw
   case rel => exact ⟨k + 1, by omega, by go_num, by rw [HP.out]; go_num, (by first | rfl | trivial)⟩
   case measure => simp [Go.RowKit.intOf]; omega
  ·have hltz : ¬ (k : Int) < (n : Int) := by omega
   obtain rfl : k = n := by omega
   obtain ⟨x, hx⟩ : ∃ x, 2 ^ k = x := ⟨_, rfl⟩
   rw [hx]
   go_wp2
   exact bodyPost_ret (v := .int .i64 (x : Int)) (by simp [results, Try.results68, go_sem]) rfl ⟨rfl, rfl⟩
set_option maxHeartbeats 1000000 in
theorem rholes_any (r : Nat) (w : World) (hr : r ≤ 255) : Calls Try.prog 90 #[.int .u8 r] w fun e w' => e = .returned (.int .i64 (onesN r 7 : Nat)) ∧ w' = w := by
 have hbt := fun k W (hk : k ≤ 64) => rbit_any r k W (by omega) hk
 have hwr : IntKind.i64.wrap (r : Int) = (r : Int) := IntWalk.i64_in _ (by omega)
 go_enter Try.func90, Try.ntmps90
 go_wp2
 go_loopw [3, 4] (fun s2 s3 wr => ∃ k : Nat, k ≤ 7 ∧ s3 = .int .i64 (k : Int) ∧ s2 = .int .i64 (onesN r k : Nat) ∧ wr = w) (fun _ s3 _ => 7 - (Go.RowKit.intOf s3).toNat)
 case atStart => exact ⟨0, Nat.zero_le _, rfl, rfl, rfl⟩
 case round =>
  obtain ⟨k, hk, rfl, rfl, rfl⟩ := hrel
  have hb := onesN_le r k
  by_cases hlt : k < 7
  ·have hltz : (k : Int) < 7 := by omega
   have HP := Lib.hid (onesN_succ r k)
   have hbk := fun W => hbt k W (by omega)
   obtain ⟨x, hx⟩ : ∃ x, onesN r k = x := ⟨_, rfl⟩
   obtain ⟨y, hy⟩ : ∃ y, r / 2 ^ k % 2 = y := ⟨_, rfl⟩
   have hy2 : y ≤ 1 := by have := Nat.mod_two_eq_zero_or_one (r / 2 ^ k); omega
   rw [hx] at hb HP ⊢
   rw [hy] at HP hbk
   clear hx hy
   go_wp2_with fail
   refine (hbk _).mono ?_
   rintro e w' ⟨rfl, rfl⟩
   go_wp2
   go_roundw
   case rel => exact ⟨k + 1, by omega, by go_num, by rw [HP.out]; go_num, (by first | rfl | trivial)⟩
   case measure => simp [Go.RowKit.intOf]; omega
  ·have hltz : ¬ (k : Int) < 7 := by omega
   obtain rfl : k = 7 := by omega
   obtain ⟨x, hx⟩ : ∃ x, onesN r 7 = x := ⟨_, rfl⟩
   rw [hx]
   go_wp2
   exact bodyPost_ret (v := .int .i64 (x : Int)) (by simp [results, Try.results90, go_sem]) rfl ⟨rfl, rfl⟩
theorem rodd_any (r : Nat) (w : World) (hr : r < 64) : Calls Try.prog 105 #[.int .u8 r] w fun e w' => e = .returned (.int .u8 (oddR r : Nat)) ∧ w' = w := by
 have hh := fun W => rholes_any r W (by omega)
 have hm : r % 64 = r := Nat.mod_eq_of_lt hr
 unfold oddR
 rw [hm]
 obtain ⟨c, hc⟩ : ∃ c, onesN r 7 = c := ⟨_, rfl⟩
 have hp : oddP r = (c % 2 == 1) := by unfold oddP; rw [hc]
 rw [hc] at hh
 have hw8 : IntKind.u8.wrap ((r : Int) + 64) = ((r + 64 : Nat) : Int) := by rw [IntWalk.u8_in _ (by omega)]; rfl
 by_cases h1 : c % 2 = 1
 ·rw [hp, h1]
  have c1 : ((c : Int) % 2 == 0) = false := by simp; omega
  clear hp hc hm
  go_enter Try.func105, Try.ntmps105
  go_wp2_with fail
  refine (hh _).mono ?_
  rintro e w' ⟨rfl, rfl⟩
  go_wp2
  go_ret
  exact ⟨rfl, rfl⟩
 ·have h0 : c % 2 = 0 := by omega
  rw [hp, h0]
  have c1 : ((c : Int) % 2 == 0) = true := by simp; omega
  clear hp hc hm
  go_enter Try.func105, Try.ntmps105
  go_wp2_with fail
  refine (hh _).mono ?_
  rintro e w' ⟨rfl, rfl⟩
  go_wp2
  go_ret
  exact ⟨rfl, rfl⟩
end Go.Proofs.Ytnhpcoagkmgdoaa
/- Layer 10's program: odd of a byte, check. -/
namespace Go.Q
open Go.RowKit
/-- rows as the bytes that they are -/
def natI (rs : List Nat) : List Int := rs.map fun (n : Nat) => (n : Int)
theorem natI_length (rs : List Nat) : (natI rs).length = rs.length := List.length_map ..
theorem natI_get (rs : List Nat) (i : Nat) : (natI rs)[i]?.getD 0 = ((rs[i]?.getD 0 : Nat) : Int) := by
 unfold natI
 rw [List.getElem?_map]
 cases rs[i]? <;> rfl
theorem natI_append (a b : List Nat) : natI (a ++ b) = natI a ++ natI b := List.map_append ..
theorem natI_bd {rs : List Nat} (h : ∀ r ∈ rs, r < 256) : ∀ x ∈ natI rs, 0 ≤ x ∧ x ≤ 255 := by
 intro x hx
 unfold natI at hx
 rw [List.mem_map] at hx
 obtain ⟨r, hr, rfl⟩ := hx
 have := h r hr
 omega
theorem natI_inj : ∀ {a b : List Nat}, natI a = natI b → a = b
 | [], [], _ => rfl
 | [], _ :: _, h => by simp [natI] at h
 | _ :: _, [], h => by simp [natI] at h
 | x :: a, y :: b, h => by
  unfold natI at h
  rw [List.map_cons, List.map_cons] at h
  obtain ⟨h1, h2⟩ := List.cons.inj h
  rw [natI_inj (a := a) (b := b) h2, Int.ofNat_inj.1 h1]
theorem get_lt {rs : List Nat} {m : Nat} (h : ∀ r ∈ rs, r < m) (hm : 0 < m) (i : Nat) : rs[i]?.getD 0 < m := by
 by_cases hi : i < rs.length
 ·rw [List.getElem?_eq_getElem hi]; exact h _ (List.getElem_mem hi)
 ·rw [List.getElem?_eq_none (by omega)]; exact hm
theorem xorL_lt : ∀ {rs : List Nat}, (∀ r ∈ rs, r < 256) → xorL rs < 256
 | [], _ => by decide
 | r :: rs, h => by
  rw [xorL_cons]
  exact Nat.xor_lt_two_pow (n := 8) (h r (List.mem_cons_self ..)) (xorL_lt fun z hz => h z (List.mem_cons_of_mem _ hz))
theorem xorL_take {rs : List Nat} {i : Nat} (hi : i < rs.length) : xorL (rs.take (i + 1)) = xorL (rs.take i) ^^^ rs[i]?.getD 0 := by
 rw [List.take_add_one, xorL_append, List.getElem?_eq_getElem hi]
 congr 1
 show xorL [rs[i]] = rs[i]
 rw [xorL_cons]
 exact Nat.xor_zero _
end Go.Q
namespace Go.Proofs.Ytnhpcoagkmgdoaa
open Go.RowKit Go.Q
theorem odd_byte_any (x : Nat) (w : World) (h : x < 64) : Calls Try.prog 82 #[.int .u8 x] w fun e w' => e = .returned (.int .u8 (oddR x : Nat)) ∧ w' = w := by
 have a1 := Go.Q.u8_and63 (a := x) (by omega)
 rw [Nat.mod_eq_of_lt h] at a1
 have hoc := fun W => Try.bits_OnesCount8 (x : Int) W (by omega) (by omega)
 rw [Int.toNat_natCast] at hoc
 have hodd := ones_odd ⟨x, by omega⟩
 dsimp only at hodd
 obtain ⟨c, hc⟩ : ∃ c, Go.Lib.onesCount x = c := ⟨_, rfl⟩
 rw [hc] at hoc hodd
 have ho := Go.Q.u8_or64 h
 unfold oddR
 rw [Nat.mod_eq_of_lt h]
 cases hp : oddP x with
 | true =>
  rw [hp] at hodd
  have c1 : ((c : Int) % 2 == 0) = false := by have : c % 2 = 1 := hodd; simp; omega
  clear hodd hp hc
  go_enter Try.func82, Try.ntmps82
  go_wp2_with fail
  refine (hoc _).mono ?_
  rintro e w' ⟨rfl, rfl⟩
  go_wp2
  go_ret
  exact ⟨rfl, rfl⟩
 | false =>
  rw [hp] at hodd
  have c1 : ((c : Int) % 2 == 0) = true := by have : c % 2 = 0 := hodd; simp; omega
  clear hodd hp hc
  go_enter Try.func82, Try.ntmps82
  go_wp2_with fail
  refine (hoc _).mono ?_
  rintro e w' ⟨rfl, rfl⟩
  go_wp2
  go_ret
  exact ⟨rfl, rfl⟩
set_option maxHeartbeats 1000000 in
theorem check10_any (a : Option Addr) (n c : Nat) (rs : List Nat) (w : World) (hn : rs.length = n) (hbig : n ≤ 9223372036854775807) (hr : ∀ r ∈ rs, r < 256) (hI : BytesAt w a (natI rs)) :
  Calls Try.prog 83 #[.slice a n c] w fun e w' => e = .returned (.int .u8 (chk rs : Nat)) ∧ w' = w := by
 have hcell : ∀ i, i < n → ∃ b off, a = some ⟨b, off, none⟩ ∧ w.cell? ⟨b, off + i, none⟩ = some (.int .u8 ((rs[i]?.getD 0 : Nat) : Int)) := by
  intro i hi
  rcases hI with e | ⟨b, off, ha, hb, hc⟩
  ·have := natI_length rs; rw [e] at this; simp at this; omega
  ·have := hc i (by rw [natI_length]; omega)
   rw [natI_get] at this
   exact ⟨b, off, ha, this⟩
 have HN := Lib.hid hn
 have HR := Lib.hid hr
 have HC := Lib.hid hcell
 obtain ⟨v, hv⟩ : ∃ v, chk rs = v := ⟨_, rfl⟩
 rw [hv]
 have HV := Lib.hid hv
 clear hn hr hI hcell hv
 go_enter Try.func83, Try.ntmps83
 go_wp2
 go_loopw [2, 7] (fun s2 s7 wr => ∃ i : Nat, i ≤ n ∧ s7 = .int .i64 (i : Int) ∧ s2 = .int .u8 (xorL (rs.take i) : Nat) ∧ wr = w) (fun _ s7 _ => n - (Go.RowKit.intOf s7).toNat)
 case atStart => exact ⟨0, Nat.zero_le _, rfl, rfl, rfl⟩
 case round =>
  obtain ⟨i, hi, rfl, rfl, rfl⟩ := hrel
  have hx := xorL_lt (rs := rs.take i) fun r hr => HR.out r (List.mem_of_mem_take hr)
  by_cases hlt : i < n
  ·have hltz : (i : Int) < (n : Int) := by omega
   obtain ⟨b, off, rfl, hc⟩ := HC.out i hlt
   have HX := Lib.hid (xorL_take (rs := rs) (i := i) (by rw [HN.out]; exact hlt))
   have hy := get_lt HR.out (by decide) i
   obtain ⟨x, hxe⟩ : ∃ x, xorL (rs.take i) = x := ⟨_, rfl⟩
   obtain ⟨y, hye⟩ : ∃ y, rs[i]?.getD 0 = y := ⟨_, rfl⟩
   rw [hxe] at hx HX ⊢
   rw [hye] at hy HX hc
   have hxy := Go.Q.u8_xor hx hy
   obtain ⟨z, hz⟩ : ∃ z, x ^^^ y = z := ⟨_, rfl⟩
   rw [hz] at hxy HX
   clear hxe hye hz
   go_wp2
   go_roundw
   case rel => exact ⟨i + 1, by omega, by go_num, by rw [HX.out], (by first | rfl | trivial)⟩
   case measure => simp [Go.RowKit.intOf]; omega
  ·have hltz : ¬ (i : Int) < (n : Int) := by omega
   obtain rfl : i = n := by omega
   obtain ⟨x, hxe⟩ : ∃ x, xorL (rs.take i) = x := ⟨_, rfl⟩
   rw [hxe] at hx ⊢
   have ha := Go.Q.u8_and63 hx
   obtain ⟨y, hye⟩ : ∃ y, x % 64 = y := ⟨_, rfl⟩
   rw [hye] at ha
   obtain rfl : y = v := by
    rw [← HV.out, chk_xorL, ← hye, ← hxe, List.take_of_length_le (by rw [HN.out]; exact Nat.le_refl _)]
   clear hxe hye
   go_wp2
   exact bodyPost_ret (v := .int .u8 (y : Int)) (by simp [results, Try.results83, go_sem]) rfl ⟨rfl, rfl⟩
end Go.Proofs.Ytnhpcoagkmgdoaa

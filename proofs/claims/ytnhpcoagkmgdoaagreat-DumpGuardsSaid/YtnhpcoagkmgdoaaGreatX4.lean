import Derived.Deep.AppendLies
import Derived.Laws.CopyOwn
import Derived.Test.YtnhpcoagkmgdoaaGreatRows
import Derived.WalkKit
import Derived.ProofKit
import Derived.OpenShut
import Derived.ShutString
import Derived.ChangeOld
import Derived.Below
import Derived.Lib.SmallJoins
import Derived.Test.YtnhpcoagkmgdoaaGreatX3
set_option linter.unusedVariables false
set_option linter.unusedSimpArgs false
/- Contract: the program's Run. -/
namespace Go.Proofs.YtnhpcoagkmgdoaaGreat
open Go.RowKit Go.Q
variable {nb m g1 c1 n0 : Nat} {tv pv : Value} {s : St} {o : Ord}
/-- the call returned a state and an error's code -/
def StRes (p : St × Int) (w : World) (e : Ending) (w' : World) : Prop := ∃ v, e = .returned (.tuple #[v, .int .i64 p.2]) ∧ StAt w' v p.1 ∧ Ext w w'
theorem Mac.reads {w : World} (h : Mac w nb m g1 c1 tv pv s o) : ∃ a2 ct a3 cp, tv = .slice a2 s.tape.length ct ∧ pv = .slice a3 s.printed.length cp ∧ IntsAt w (some ⟨g1, 0, none⟩) s.store ∧ IntsAt w a2 s.tape ∧ IntsAt w a3 s.printed := by
 obtain ⟨a2, ct, hv, ht⟩ := h.tp
 obtain ⟨a3, cp, hp⟩ := own_form h.prow
 refine ⟨a2, ct, a3, cp, hv, hp, .inr ⟨g1, 0, rfl, h.ltg, fun i hi => by rw [Nat.zero_add]; exact h.wc i (by rw [← h.len]; exact hi)⟩, ?_, ?_⟩
 ·rcases ht with e | ⟨b, off, ha, ⟨cu, hcu⟩, _, _, _, hc⟩
  ·exact .inl e
  ·exact .inr ⟨b, off, ha, lt_of_block hcu, hc⟩
 ·have := h.prow
  rw [hp] at this
  exact own_ints this
theorem keepM_tell : Tell Tryz.prog 97 #[] nb m g1 c1 n0 (fun _ _ => True) where
 keep := fun _ _ _ _ _ _ _ _ _ _ => trivial
 tell := fun x l W _ hn _ => by
  go_enter Tryz.func97, Tryz.ntmps97
  go_wp2
  go_end0
  exact ⟨rfl, trivial, KeepT.of_ext ((Ext.refl W).alloc _), (Below.refl n0 W).alloc hn _⟩
theorem blk2 {w w1 : World} {o : Obj} {vs : Array Value} {T : TypeId} (h : Ext ((w.alloc o).alloc (.cells vs T)) w1) : w1.heap[w.heap.size + 1]? = some (.cells vs T (0, 0)) := by
 refine (h.block (w.heap.size + 1) (by simp)).trans ?_
 have e := heap_alloc_new (w.alloc o) (.cells vs T)
 rw [World.size_alloc] at e
 exact e
theorem keep8 {w : World} {b : Nat} {cs : Array Value} {T : TypeId} (hb : w.heap[b]? = some (.cells cs T (0, 0))) (h1 : T ≠ 3) (h2 : T ≠ 159) (v0 v1 v2 v3 v4 v5 v6 v7 : Value) :
  KeepT w ((((((((w.setCell ⟨b, 0, none⟩ v0).setCell ⟨b, 1, none⟩ v1).setCell ⟨b, 2, none⟩ v2).setCell ⟨b, 3, none⟩ v3).setCell ⟨b, 4, none⟩ v4).setCell ⟨b, 5, none⟩ v5).setCell ⟨b, 6, none⟩ v6).setCell ⟨b, 7, none⟩ v7) := by
 have b1 := cells_set hb 0 v0
 have b2 := cells_set b1 1 v1
 have b3 := cells_set b2 2 v2
 have b4 := cells_set b3 3 v3
 have b5 := cells_set b4 4 v4
 have b6 := cells_set b5 5 v5
 have b7 := cells_set b6 6 v6
 exact (((((((KeepT.set hb h1 h2 0 v0).trans (KeepT.set b1 h1 h2 1 v1)).trans (KeepT.set b2 h1 h2 2 v2)).trans (KeepT.set b3 h1 h2 3 v3)).trans (KeepT.set b4 h1 h2 4 v4)).trans (KeepT.set b5 h1 h2 5 v5)).trans (KeepT.set b6 h1 h2 6 v6)).trans (KeepT.set b7 h1 h2 7 v7)
end Go.Proofs.YtnhpcoagkmgdoaaGreat
/- Contract: the program's Trace. -/
namespace Go.Proofs.YtnhpcoagkmgdoaaGreat
open Go.RowKit Go.Q
variable {nb m g1 c1 n0 : Nat} {tv pv : Value} {s : St} {o : Ord}
end Go.Proofs.YtnhpcoagkmgdoaaGreat
/- Contracts: the reference's Ints; the program's Begin. -/
namespace Go.Proofs.YtnhpcoagkmgdoaaGreat
open Go.RowKit Go.Q
theorem ints_eq {xs ys : List Int} (hl : xs.length = ys.length) (h : ∀ j, j < xs.length → xs[j]?.getD 0 = ys[j]?.getD 0) : xs = ys := by
 apply List.ext_getElem hl
 intro i h1 h2
 have := h i h1
 rw [List.getElem?_eq_getElem h1, List.getElem?_eq_getElem h2] at this
 simpa using this
set_option maxHeartbeats 1000000 in
theorem ints_any (a b : Option Addr) (n m c d : Nat) (xs ys : List Int) (w : World) (hn : xs.length = n) (hm : ys.length = m) (b1 : n ≤ 9223372036854775807) (b2 : m ≤ 9223372036854775807) (hI : IntsAt w a xs) (hJ : IntsAt w b ys) :
  Calls Tryz.prog 28 #[.slice a n c, .slice b m d] w fun e w' => e = .returned (.bool (decide (xs = ys))) ∧ Ext w w' := by
 by_cases hnm : n = m
 ·subst hnm
  by_cases h0 : n = 0
  ·subst h0
   have e1 : xs = [] := List.eq_nil_of_length_eq_zero hn
   have e2 : ys = [] := List.eq_nil_of_length_eq_zero hm
   subst e1; subst e2
   clear hI hJ hn hm
   go_enter Tryz.func28, Tryz.ntmps28
   go_wp2
   go_loop [5] (fun s => s = .int .i64 0) (fun _ => 0)
   case atStart => exact rfl
   case round =>
    obtain rfl := hrel
    go_wp2
    go_ret
    exact ⟨rfl, Ext.refl _⟩
  ·rcases hI with e | ⟨ba, oa, rfl, _, hc⟩
   ·subst e; exact absurd hn.symm h0
   rcases hJ with e | ⟨bb, ob, rfl, _, hd⟩
   ·subst e; exact absurd hm.symm h0
   have hne : ((n : Int) != (n : Int)) = false := by simp
   have Hn := Lib.hid hn
   have Hm := Lib.hid hm
   rw [hn] at hc
   rw [hm] at hd
   clear hn hm h0
   go_enter Tryz.func28, Tryz.ntmps28
   go_wp2
   go_loopw [5] (fun s wr => ∃ k : Nat, k ≤ n ∧ s = .int .i64 k ∧ Aside (Ext w wr) ∧ Aside (∀ j, j < k → xs[j]?.getD 0 = ys[j]?.getD 0)) (fun s _ => n - (intOf s).toNat)
   case atStart => exact ⟨0, Nat.zero_le _, rfl, Ext.refl w, fun j hj => absurd hj (Nat.not_lt_zero _)⟩
   case round =>
    obtain ⟨k, hk, rfl, EW, A⟩ := hrel
    by_cases hlt : k < n
    ·have hltz : (k : Int) < (n : Int) := by omega
     have p := cell_later EW.out (hc k hlt)
     have q := cell_later EW.out (hd k hlt)
     have hk0 : (0 : Int) ≤ (k : Int) := by omega
     clear hc hd
     generalize hx : xs[k]?.getD 0 = x at p
     generalize hy : ys[k]?.getD 0 = y at q
     have Hx := Lib.hid hx
     have Hy := Lib.hid hy
     clear hx hy
     cases hq : x == y with
     | true =>
      have hq' : (x != y) = false := by rw [bne, hq]; rfl
      have Hq := Lib.hid hq
      clear hq
      go_wp2
      go_quiet (fail)
      go_wp2
      go_roundw
      case rel =>
       refine ⟨k + 1, by omega, by go_num, below_drewN EW.out _, (show Aside _ from fun j hj => ?_)⟩
       by_cases e : j = k
       ·subst e
        rw [Hx.out, Hy.out]; simpa using Hq.out
       ·exact A.out j (by omega)
      case measure => simp [intOf]; omega
     | false =>
      have hq' : (x != y) = true := by rw [bne, hq]; rfl
      have Hq := Lib.hid hq
      clear hq
      go_wp2
      go_quiet (fail)
      go_wp2
      go_ret
      refine ⟨ret_bool ?_, below_drewN EW.out _⟩
      symm; rw [decide_eq_false_iff_not]
      intro e
      have : x = y := by rw [← Hx.out, ← Hy.out, e]
      have := Hq.out
      simp_all
    ·have hltz : ¬ (k : Int) < (n : Int) := by omega
     go_wp2
     go_ret
     refine ⟨ret_bool ?_, EW.out⟩
     symm; rw [decide_eq_true_iff]
     exact ints_eq (by rw [Hn.out, Hm.out]) (fun j hj => A.out j (by have := Hn.out; omega))
 ·have hne : ((n : Int) != (m : Int)) = true := by rw [bne_iff_ne]; omega
  have e : decide (xs = ys) = false := by rw [decide_eq_false_iff_not]; intro e; subst e; omega
  rw [e]
  clear hnm hn hm e hI hJ
  go_enter Tryz.func28, Tryz.ntmps28
  go_wp2
  go_ret
  exact ⟨rfl, Ext.refl _⟩
end Go.Proofs.YtnhpcoagkmgdoaaGreat
/- Contract: the program's Begin. -/
namespace Go.Proofs.YtnhpcoagkmgdoaaGreat
open Go.RowKit Go.Q
/-- what Begin returns -/
def beginQ (st tp : List Int) (start : Int) : St × Int :=
 if st.length ≤ 128 ∧ tp.length ≤ 200 then
  (if outB 16777215 st = false ∧ outB 16777215 tp = false ∧ addrB start = true then (⟨st ++ List.replicate (128 - st.length) 0, tp, 0, [], start % 16, start, 0, 0⟩, 0) else (zst, 7))
 else (zst, 3)
def zz : Array Value := Array.replicate 128 (.int .i64 0)
theorem zz_list : zz.toList = iv (List.replicate 128 0) := by unfold zz iv; rw [Array.toList_replicate, List.map_replicate]
theorem made_rep (v : Value) (n : Nat) : madeCells #[v] n = Array.replicate n v := by
 apply Array.ext
 ·simp [madeCells]
 ·intro i h1 h2
  simp [madeCells, Nat.mod_one]
theorem zz_made : madeCells #[Value.int .i64 0] 128 = zz := made_rep _ _
theorem make128 (W : World) : (Instr.makeSlice 22 (.int .i64 128) (.int .i64 128)).run Tryz.prog W = .ok (.slice (some ⟨W.heap.size, 0, none⟩) 128 128) (W.alloc (.cells zz 3)) := by
 obtain ⟨i0, hi, hz0, hz1, hz2⟩ := info_parts Tryz.infoE
 have := run_makeSlice (P := Tryz.prog) W 22 3 i0 (.int .i64 0) Tryz.underlying22 hi hz0 .i64 .i64 128 128 (by decide) (by decide) (by rw [hz1]; decide) (by rw [hz2]; decide) (by decide)
 rw [hz1] at this
 rw [this, ← zz_made]
 rfl
end Go.Proofs.YtnhpcoagkmgdoaaGreat
/- Contract: the program's Begin, where it succeeds. -/
namespace Go.Proofs.YtnhpcoagkmgdoaaGreat
open Go.RowKit Go.Q
theorem other8 (W : World) (b k : Nat) (hk : k ≠ b) (v0 v1 v2 v3 v4 v5 v6 v7 : Value) : ((((((((W.setCell ⟨b, 0, none⟩ v0).setCell ⟨b, 1, none⟩ v1).setCell ⟨b, 2, none⟩ v2).setCell ⟨b, 3, none⟩ v3).setCell ⟨b, 4, none⟩ v4).setCell ⟨b, 5, none⟩ v5).setCell ⟨b, 6, none⟩ v6).setCell ⟨b, 7, none⟩ v7).heap[k]? = W.heap[k]? :=
 (Below.heap_setCell _ _ _ _ hk).trans ((Below.heap_setCell _ _ _ _ hk).trans ((Below.heap_setCell _ _ _ _ hk).trans ((Below.heap_setCell _ _ _ _ hk).trans ((Below.heap_setCell _ _ _ _ hk).trans ((Below.heap_setCell _ _ _ _ hk).trans ((Below.heap_setCell _ _ _ _ hk).trans (Below.heap_setCell _ _ _ _ hk)))))))
theorem cells8 {W : World} {b : Nat} {u0 u1 u2 u3 u4 u5 u6 u7 : Value} {T : TypeId} (h : W.heap[b]? = some (.cells #[u0, u1, u2, u3, u4, u5, u6, u7] T (0, 0))) (v0 v1 v2 v3 v4 v5 v6 v7 : Value) :
  ((((((((W.setCell ⟨b, 0, none⟩ v0).setCell ⟨b, 1, none⟩ v1).setCell ⟨b, 2, none⟩ v2).setCell ⟨b, 3, none⟩ v3).setCell ⟨b, 4, none⟩ v4).setCell ⟨b, 5, none⟩ v5).setCell ⟨b, 6, none⟩ v6).setCell ⟨b, 7, none⟩ v7).heap[b]? = some (.cells #[v0, v1, v2, v3, v4, v5, v6, v7] T (0, 0)) :=
 (cells_set (cells_set (cells_set (cells_set (cells_set (cells_set (cells_set (cells_set h 0 v0) 1 v1) 2 v2) 3 v3) 4 v4) 5 v5) 6 v6) 7 v7).trans (by simp)
end Go.Proofs.YtnhpcoagkmgdoaaGreat
/- Contract: Awake returns true. -/
namespace Go.Proofs.YtnhpcoagkmgdoaaGreat
open Go.RowKit Go.Q
def storeQ : List Int := [12583560, 0, 0, 0, 0, 0, 0, 0, 10569226, 0, 4278016, 0, 14909453, 0, 0]
def st0 : St := (beginQ storeQ [3, 4, 16777215] 0).1
theorem aw_begin : (beginQ storeQ [3, 4, 16777215] 0).2 = 0 := by decide +kernel
theorem store_any (w : World) : Calls Tryz.prog 54 #[] w fun e w' => e = .returned (.slice (some ⟨w.heap.size, 0, none⟩) 15 15) ∧ w.alloc (.cells (iv storeQ).toArray 3) = w' := by
 go_enter Tryz.func54, Tryz.ntmps54
 go_wp2
 go_ret
 exact ⟨rfl, rfl⟩
end Go.Proofs.YtnhpcoagkmgdoaaGreat
/- Contract: Awake returns true. -/
namespace Go.Proofs.YtnhpcoagkmgdoaaGreat
open Go.RowKit Go.Q
theorem ints_fresh {w W : World} {xs : List Int} {t : TypeId} {l : Array Value} (hl : l = (iv xs).toArray) (E : Ext (w.alloc (.cells l t)) W) : IntsAt W (some ⟨w.heap.size, 0, none⟩) xs := by
 subst hl
 refine .inr ⟨_, 0, rfl, Nat.lt_of_lt_of_le (by simp) E.size, fun i hi => ?_⟩
 rw [Nat.zero_add]
 exact box_at E i (by rw [List.getElem?_toArray]; exact iv_get _ i hi)
end Go.Proofs.YtnhpcoagkmgdoaaGreat
/- What an argument of the rows holds: a slice of ints, a state. -/
namespace Go.Proofs.YtnhpcoagkmgdoaaGreat
open Go.ChangeShapes Go.WideShapes Go.ChangeAt Go.RowKit Go.Joins Go.Deep Go.Q
set_option linter.unusedVariables false
theorem rowOwn : ownKnob Tryz.prog.godebug = none := by kernel_rfl
theorem rowLaid : laidOutB Tryz.prog = true := by kernel_rfl
theorem cellsState : Tryz.prog.cellsOf 24 = 8 := by kernel_rfl
section
variable {H : Type} {enc : TypeId × Value → H} {w : World} {base : Nat} {spare : Nat → Bool} {held : Bool}
theorem ints_of_trod {n : Nat} {v : Value} {y : DataW H × List MemPlace} (h : DataW.trod enc Tryz.prog w base spare held n 22 [v] = some y) :
  ∃ a c xs, v = .slice a (xs : List Int).length c ∧ xs.length ≤ 9223372036854775807 ∧ IntsAt w a xs := by
 rcases open_ints Tryz.underlying22 Tryz.underlying3 (by kernel_rfl) h with ⟨hcs, _⟩ | ⟨x, l, c, zs, hcs, _, hl, hm, hz, _, hcell, _⟩
 ·exact ⟨none, 0, [], List.cons.inj hcs |>.1, by simp, .inl rfl⟩
 ·have hlz : l ≤ zs.length := by rw [hz]; split <;> omega
  have hm' : c ≤ 9223372036854775807 := Nat.le_trans hm (by decide)
  have hlen : (zs.take l).length = l := by simp [hlz]
  refine ⟨some x, c, zs.take l, by rw [hlen]; exact List.cons.inj hcs |>.1, by rw [hlen]; omega, ?_⟩
  by_cases h0 : l = 0
  ·exact .inl (by simp [h0])
  obtain ⟨b, off, rfl, hc⟩ := ints_at hcell (by omega)
  refine .inr ⟨b, off, rfl, World.block_lt_of_cell? _ _ (hc 0 (by omega)), fun i hi => ?_⟩
  rw [hlen] at hi
  have e : (zs.take l)[i]?.getD 0 = zs.getD i 0 := by simp [List.getElem?_take, hi, List.getD]
  rw [e]
  exact hc i (by omega)
theorem open_agg8 {P : Program} {r : Reach} {b0 : Nat} {t : TypeId} {f0 f1 f2 f3 f4 f5 f6 f7 : Field} {v : Value} {d : DataW H} {p : List MemPlace} (hs : P.underlying t = some (.struct #[f0, f1, f2, f3, f4, f5, f6, f7])) (hone : oneCellFields P #[f0, f1, f2, f3, f4, f5, f6, f7] = true) (hC : P.cellsOf t = 8)
  (hv : Value.okWide P w r b0 t v) (h : DataW.Trod enc P w base spare held t v d p) :
  ∃ (v0 v1 v2 v3 v4 v5 v6 v7 : Value) (y0 y1 y2 y3 y4 y5 y6 y7 : DataW H × List MemPlace) (n : Nat), v = .agg #[v0, v1, v2, v3, v4, v5, v6, v7] ∧
   DataW.trod enc P w base spare held n f0.type [v0] = some y0 ∧ DataW.trod enc P w base spare held n f1.type [v1] = some y1 ∧ DataW.trod enc P w base spare held n f2.type [v2] = some y2 ∧ DataW.trod enc P w base spare held n f3.type [v3] = some y3 ∧ DataW.trod enc P w base spare held n f4.type [v4] = some y4 ∧ DataW.trod enc P w base spare held n f5.type [v5] = some y5 ∧ DataW.trod enc P w base spare held n f6.type [v6] = some y6 ∧ DataW.trod enc P w base spare held n f7.type [v7] = some y7 := by
 obtain ⟨cs, rfl, hsz⟩ := okWide_struct hs hv
 obtain ⟨l⟩ := cs
 match l, hsz.trans hC with
 | [c0, c1, c2, c3, c4, c5, c6, c7], _ =>
  obtain ⟨fuel, hf⟩ := h
  obtain ⟨xs, n, _, hx, _, hlen, hg⟩ := DataW.trod_struct hs hf
  obtain ⟨o0, k0⟩ := hone_of hone 0 f0 rfl
  obtain ⟨o1, k1⟩ := hone_of hone 1 f1 rfl
  obtain ⟨o2, k2⟩ := hone_of hone 2 f2 rfl
  obtain ⟨o3, k3⟩ := hone_of hone 3 f3 rfl
  obtain ⟨o4, k4⟩ := hone_of hone 4 f4 rfl
  obtain ⟨o5, k5⟩ := hone_of hone 5 f5 rfl
  obtain ⟨o6, k6⟩ := hone_of hone 6 f6 rfl
  obtain ⟨o7, k7⟩ := hone_of hone 7 f7 rfl
  match xs, hlen with
  | [y0, y1, y2, y3, y4, y5, y6, y7], _ =>
   exact ⟨c0, c1, c2, c3, c4, c5, c6, c7, y0, y1, y2, y3, y4, y5, y6, y7, n, rfl, by simpa [Value.cells, o0, k0] using hg 0 f0 rfl, by simpa [Value.cells, o1, k1] using hg 1 f1 rfl, by simpa [Value.cells, o2, k2] using hg 2 f2 rfl, by simpa [Value.cells, o3, k3] using hg 3 f3 rfl, by simpa [Value.cells, o4, k4] using hg 4 f4 rfl, by simpa [Value.cells, o5, k5] using hg 5 f5 rfl, by simpa [Value.cells, o6, k6] using hg 6 f6 rfl, by simpa [Value.cells, o7, k7] using hg 7 f7 rfl⟩
/-- an array of integers that came in -/
theorem arr_of_trod {P : Program} {r : Reach} {b0 n : Nat} {t e : TypeId} {k : IntKind} {v : Value} {d : DataW H} {p : List MemPlace} (ht : P.underlying t = some (.array n e)) (he : P.underlying e = some (.int k)) (h1 : P.cellsOf e = 1) (hC : P.cellsOf t = n)
  (hv : Value.okWide P w r b0 t v) (h : DataW.Trod enc P w base spare held t v d p) : ∃ xs : List Int, xs.length = n ∧ v = .agg (xs.map (Value.int k)).toArray ∧ ∀ x ∈ xs, (Lit.int k x).wf = true := by
 simp only [Value.okWide, ht] at hv
 obtain ⟨cs, rfl, h2, _⟩ := hv
 obtain ⟨fuel, hf⟩ := h
 obtain ⟨xs, m, _, _, _, hlen, hg⟩ := DataW.trod_array ht hf
 have hcs : cs.size = n := h2.trans hC
 have key : ∀ i, i < n → ∃ z, cs[i]? = some (.int k z) ∧ (Lit.int k z).wf = true := by
  intro i hi
  have hx := hg i hi
  rw [List.getElem?_eq_getElem (by omega : i < xs.length)] at hx
  obtain ⟨z, ez, _, hw⟩ := DataW.trod_int he hx
  refine ⟨z, ?_, hw⟩
  rw [h1, Nat.mul_one] at ez
  have e1 : ((Value.agg cs).cells.toList.drop i).head? = some (.int k z) := by
   have : (((Value.agg cs).cells.toList.drop i).take 1).head? = some (.int k z) := by rw [ez]; rfl
   simpa [List.head?_take] using this
  simpa [Value.cells, List.head?_drop] using e1
 refine ⟨cs.toList.map intOf, by simpa using hcs, ?_, ?_⟩
 ·congr 1
  refine Array.ext' ?_
  simp only [List.map_map]
  refine List.ext_getElem? fun i => ?_
  by_cases hi : i < n
  ·obtain ⟨z, hz, _⟩ := key i hi
   simp [hz, intOf]
  ·simp [Array.getElem?_eq_none (by omega : cs.size ≤ i)]
 ·intro x hx
  obtain ⟨v, hv, rfl⟩ := List.mem_map.1 hx
  obtain ⟨i, hi, rfl⟩ := List.mem_iff_getElem.1 hv
  obtain ⟨z, hz, hw⟩ := key i (by simpa [hcs] using hi)
  have : cs.toList[i] = .int k z := by
   have hz' : cs.toList[i]? = some (.int k z) := by simpa using hz
   rw [List.getElem?_eq_getElem hi] at hz'
   exact Option.some.inj hz'
  rw [this]
  exact hw
theorem arr2_of_trod {P : Program} {r : Reach} {b0 : Nat} {t e : TypeId} {k : IntKind} {v : Value} {d : DataW H} {p : List MemPlace} (ht : P.underlying t = some (.array 2 e)) (he : P.underlying e = some (.int k)) (h1 : P.cellsOf e = 1) (hC : P.cellsOf t = 2)
  (hv : Value.okWide P w r b0 t v) (h : DataW.Trod enc P w base spare held t v d p) : ∃ a b : Int, v = .agg #[.int k a, .int k b] ∧ (Lit.int k a).wf = true ∧ (Lit.int k b).wf = true := by
 obtain ⟨xs, hl, rfl, hw⟩ := arr_of_trod ht he h1 hC hv h
 match xs, hl with
 | [a, b], _ => exact ⟨a, b, rfl, hw a (by simp), hw b (by simp)⟩
theorem u8_bd {a : Int} (h : (Lit.int .u8 a).wf = true) : 0 ≤ a ∧ a ≤ 255 := by
 simp [Lit.wf, IntKind.min, IntKind.max, IntKind.signed, IntKind.bits] at h
 omega
set_option maxRecDepth 100000 in
/-- a state that came in -/
theorem state_of_trod {r : Reach} {b0 : Nat} {v : Value} {d : DataW H} {p : List MemPlace} (hv : Value.okWide Tryz.prog w r b0 24 v) (h : DataW.Trod enc Tryz.prog w base spare held 24 v d p) :
  ∃ s, StAt w v s ∧ StBd s := by
 obtain ⟨c0, c1, c2, c3, c4, c5, c6, c7, y0, y1, y2, y3, y4, y5, y6, y7, m, hv0, hy0, hy1, hy2, hy3, hy4, hy5, hy6, hy7⟩ := open_agg8 Tryz.underlying24 (by kernel_rfl) cellsState hv h
 obtain ⟨a1, k1, s1, e0, b1, i1⟩ := ints_of_trod hy0
 obtain ⟨a2, k2, s2, e1, b2, i2⟩ := ints_of_trod hy1
 obtain ⟨tk, e2, _, _⟩ := DataW.trod_int Tryz.underlying3 hy2
 obtain ⟨a3, k3, s3, e3, b3, i3⟩ := ints_of_trod hy3
 obtain ⟨tm, e4, _, _⟩ := DataW.trod_int Tryz.underlying3 hy4
 obtain ⟨at_, e5, _, _⟩ := DataW.trod_int Tryz.underlying3 hy5
 obtain ⟨dn, e6, _, _⟩ := DataW.trod_int Tryz.underlying3 hy6
 obtain ⟨wy, e7, _, _⟩ := DataW.trod_int Tryz.underlying3 hy7
 simp only [List.cons.injEq, and_true] at e2 e4 e5 e6 e7
 subst e0 e1 e2 e3 e4 e5 e6 e7 hv0
 exact ⟨⟨s1, s2, tk, s3, tm, at_, dn, wy⟩, ⟨a1, a2, a3, k1, k2, k3, rfl, i1, i2, i3⟩, b1, b2, b3⟩
end
end Go.Proofs.YtnhpcoagkmgdoaaGreat

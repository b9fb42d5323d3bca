import Derived.Deep.RegionHeld3
import Derived.Deep.DeepCutAuto
import Derived.Deep.RegionLaw
import Derived.BigRegion
import Derived.ScopeJumps
import Derived.Shelf.Abstract
import Derived.Deep.LoopGhost
import Derived.Deep.AppendLies
import Derived.Laws.CopyOwn
import Derived.Test.YtjfggepgjpdebaaRows
import Derived.WalkKit
import Derived.ProofKit
import Derived.OpenShut
import Derived.ShutString
import Derived.ChangeOld
import Derived.Below
import Derived.Lib.SmallJoins
import Derived.Test.YtjfggepgjpdebaaM0
set_option linter.unusedVariables false
set_option linter.unusedSimpArgs false
/- Contract: open: it makes the machine of a state. -/
namespace Go.Proofs.Ytjfggepgjpdebaa
open Go.RowKit Go.Q
/-- a machine's parts, its own block apart -/
structure Parts (w : World) (nb B g1 c1 : Nat) (tv pv : Value) (s : St) : Prop where
  low : nb ≤ g1 ∧ g1 ≠ B
  st : ∃ cur, w.heap[g1]? = some (.cells cur 3 (0, 0)) ∧ cur.toList.take 128 = iv s.store
  len : s.store.length = 128
  tp : ∃ a2 c2, tv = .slice a2 s.tape.length c2 ∧ (s.tape = [] ∨ ∃ b off, a2 = some ⟨b, off, none⟩ ∧ (∃ cur, w.heap[b]? = some (.cells cur 3 (0, 0))) ∧ b ≠ B ∧ b ≠ g1 ∧ pv.ownBlock ≠ some b ∧ ∀ i, i < s.tape.length → w.cell? ⟨b, off + i, none⟩ = some (.int .i64 (s.tape[i]?.getD 0)))
  prow : w.ownsRow nb 3 1 pv s.printed.length (iv s.printed)
  pB : pv.ownBlock ≠ some B
  pg : pv.ownBlock ≠ some g1
theorem own_at {w : World} {nb t n : Nat} {v : Value} {xs : List Value} (h : w.ownsRow nb t 1 v n xs) {b : Nat} (hb : v.ownBlock = some b) : nb ≤ b ∧ b < w.heap.size := by
  refine ⟨?_, own_lt h hb⟩
  rcases h.2 with ⟨rfl, _⟩ | ⟨g, cap, cur, rfl, hg, _⟩
  · cases hb
  · obtain rfl : g = b := by simpa [Value.ownBlock] using hb
    exact hg
/-- an owned row reads as a list -/
theorem own_reads {w : World} {nb t n : Nat} {a : Option Addr} {c : Nat} {xs : List Int} (h : w.ownsRow nb t 1 (.slice a n c) n (iv xs)) :
    xs = [] ∨ ∃ g, a = some ⟨g, 0, none⟩ ∧ (∃ cur, w.heap[g]? = some (.cells cur t (0, 0))) ∧ ∀ i, i < xs.length → w.cell? ⟨g, 0 + i, none⟩ = some (.int .i64 (xs[i]?.getD 0)) := by
  have hl := h.1
  rw [iv_length, Nat.mul_one] at hl
  rcases h.2 with ⟨_, h2⟩ | ⟨g, cap, cur, hv, hg, hh, hnc, hcm, hcs, ht⟩
  · exact .inl (List.eq_nil_of_length_eq_zero (by omega))
  · refine .inr ⟨g, by simpa using (Value.slice.inj hv).1, ⟨cur, hh⟩, fun i hi => ?_⟩
    rw [Nat.zero_add]
    refine cell_of_cells hh i ?_
    have e := iv_get xs i hi
    rw [← ht, List.getElem?_take, if_pos (by omega)] at e
    simpa using e
theorem own_ints {w : World} {nb t n : Nat} {a : Option Addr} {c : Nat} {xs : List Int} (h : w.ownsRow nb t 1 (.slice a n c) n (iv xs)) : IntsAt w a xs := by
  rcases own_reads h with e | ⟨g, ha, hg, hc⟩
  · exact .inl e
  · exact .inr ⟨g, 0, ha, by obtain ⟨cu, hcu⟩ := hg; exact lt_of_block hcu, hc⟩
/-- three slices made one behind the other are a machine's parts -/
theorem parts_of {ws wt wp W : World} {nb B : Nat} {as_ at_ ap : Option Addr} {cs ct cp ns nt np : Nat} {s : St}
    (hs : ws.ownsRow ns 3 1 (.slice as_ 128 cs) 128 (iv s.store)) (ht : wt.ownsRow nt 3 1 (.slice at_ s.tape.length ct) s.tape.length (iv s.tape)) (hp : wp.ownsRow np 3 1 (.slice ap s.printed.length cp) s.printed.length (iv s.printed))
    (es : Ext ws W) (et : Ext wt W) (ep : Ext wp W) (ls : B < ns ∧ nb ≤ ns) (lt : B < nt ∧ nb ≤ nt) (lp : B < np ∧ nb ≤ np) (hl : s.store.length = 128)
    (d1 : ws.heap.size ≤ nt ∨ wt.heap.size ≤ ns) (d2 : ws.heap.size ≤ np ∨ wp.heap.size ≤ ns) (d3 : wt.heap.size ≤ np ∨ wp.heap.size ≤ nt) :
    ∃ g1, as_ = some ⟨g1, 0, none⟩ ∧ Parts W nb B g1 cs (.slice at_ s.tape.length ct) (.slice ap s.printed.length cp) s := by
  rcases hs.2 with ⟨_, h2⟩ | ⟨g1, cap, cur, hv, hg, hh, hnc, hcm, hcs, htk⟩
  · cases h2
  have ha : as_ = some ⟨g1, 0, none⟩ := (Value.slice.inj hv).1
  have gb := lt_of_block hh
  refine ⟨g1, ha, ⟨by omega, by omega⟩, ⟨cur, (es.block g1 gb).trans hh, by simpa using htk⟩, hl, ?_, ?_, ?_, ?_⟩
  · refine ⟨at_, ct, rfl, ?_⟩
    rcases own_reads ht with e | ⟨g2, ha2, ⟨cu, hcu⟩, hc⟩
    · exact .inl e
    · have hg2 := lt_of_block hcu
      have hb2 := own_at ht (b := g2) (by rw [ha2]; rfl)
      refine .inr ⟨g2, 0, ha2, ⟨cu, (et.block g2 hg2).trans hcu⟩, by omega, by omega, fun e => ?_, fun i hi => (et.cell (p := ⟨g2, 0 + i, none⟩) hg2).trans (hc i hi)⟩
      have hb3 := own_at hp e
      omega
  · have := own_later hp (w' := W) (fun b hb => ep.block b (own_at hp hb).2)
    refine ⟨this.1, ?_⟩
    rcases this.2 with h | ⟨g, cap, cur, h1, h2, h3⟩
    · exact .inl h
    · exact .inr ⟨g, cap, cur, h1, by omega, h3⟩
  · intro e
    have := own_at hp e
    omega
  · intro e
    have := own_at hp e
    omega
theorem Parts.set {w : World} {nb B g1 c1 : Nat} {tv pv : Value} {s : St} (h : Parts w nb B g1 c1 tv pv s) (i : Nat) (v : Value) : Parts (w.setCell ⟨B, i, none⟩ v) nb B g1 c1 tv pv s where
  low := h.low
  st := by obtain ⟨cur, hg, ht⟩ := h.st; exact ⟨cur, (Below.heap_setCell _ _ _ _ h.low.2).trans hg, ht⟩
  len := h.len
  tp := by
    obtain ⟨a2, c2, hv, ht⟩ := h.tp
    refine ⟨a2, c2, hv, ?_⟩
    rcases ht with ht | ⟨b, off, ha, ⟨cu, hcu⟩, h1, h2, h3, hc⟩
    · exact .inl ht
    · exact .inr ⟨b, off, ha, ⟨cu, (Below.heap_setCell _ _ _ _ h1).trans hcu⟩, h1, h2, h3, fun i hi => (World.cell?_of_block (w := w) (Below.heap_setCell _ _ _ _ h1)).trans (hc i hi)⟩
  prow := own_later h.prow (fun b e => Below.heap_setCell _ _ _ _ (fun e' => h.pB (by rw [e]; exact congrArg some e')))
  pB := h.pB
  pg := h.pg
end Go.Proofs.Ytjfggepgjpdebaa
/- Layer 4 in plain Lean, on: a run, and its trace. -/
namespace Go.Q
theorem set_all {xs : List Int} {P : Int → Prop} (h : ∀ x ∈ xs, P x) (i : Nat) {v : Int} (hv : P v) : ∀ x ∈ xs.set i v, P x := by
  intro x hx
  rcases List.mem_or_eq_of_mem_set hx with h1 | h1
  · exact h x h1
  · exact h1 ▸ hv
end Go.Q
/- Contract: machine.run, whatever it tells. -/
namespace Go.Proofs.Ytjfggepgjpdebaa
open Go.RowKit Go.Q
variable {nb m g1 c1 : Nat} {tv pv : Value} {s : St} {o : Ord}
end Go.Proofs.Ytjfggepgjpdebaa
/- Layer 4 in plain Lean, on: what Run, Trace and Begin return. -/
namespace Go.Q
open Go.RowKit
def zst : St := ⟨[], [], 0, [], 0, 0, 0, 0⟩
/-- cells of the block laid second -/
theorem box_at2 {w w1 : World} {o : Obj} {vs : Array Value} {T : TypeId} (h : Ext ((w.alloc o).alloc (.cells vs T)) w1) (i : Nat) {v : Value} (hv : vs[i]? = some v) : w1.cell? ⟨w.heap.size + 1, i, none⟩ = some v := by
  have := box_at h i hv
  simpa using this
theorem box_free2 {w w1 : World} {o : Obj} {vs : Array Value} {T : TypeId} (h : Ext ((w.alloc o).alloc (.cells vs T)) w1) (i : Nat) : w1.frozen? ⟨w.heap.size + 1, i, none⟩ = false := by
  have := box_free h i
  simpa using this
theorem ext_set8 {w w1 : World} {n : Nat} (h : Ext w w1) (hn : w.heap.size ≤ n) (a b c d e f g k : Value) : Ext w ((((((((w1.setCell ⟨n, 0, none⟩ a).setCell ⟨n, 1, none⟩ b).setCell ⟨n, 2, none⟩ c).setCell ⟨n, 3, none⟩ d).setCell ⟨n, 4, none⟩ e).setCell ⟨n, 5, none⟩ f).setCell ⟨n, 6, none⟩ g).setCell ⟨n, 7, none⟩ k) :=
  (((((((h.setCell (p := ⟨n, 0, none⟩) hn a).setCell (p := ⟨n, 1, none⟩) hn b).setCell (p := ⟨n, 2, none⟩) hn c).setCell (p := ⟨n, 3, none⟩) hn d).setCell (p := ⟨n, 4, none⟩) hn e).setCell (p := ⟨n, 5, none⟩) hn f).setCell (p := ⟨n, 6, none⟩) hn g).setCell (p := ⟨n, 7, none⟩) hn k
end Go.Q
/- Contract: the program's Run. -/
namespace Go.Proofs.Ytjfggepgjpdebaa
open Go.RowKit Go.Q
variable {nb m g1 c1 n0 : Nat} {tv pv : Value} {s : St} {o : Ord}
/-- the call returned a state and an error's code -/
def StRes (p : St × Int) (w : World) (e : Ending) (w' : World) : Prop := ∃ v, e = .returned (.tuple #[v, .int .i64 p.2]) ∧ StAt w' v p.1 ∧ Ext w w'
end Go.Proofs.Ytjfggepgjpdebaa
/- Contract: the program's Trace. -/
namespace Go.Proofs.Ytjfggepgjpdebaa
open Go.RowKit Go.Q
variable {nb m g1 c1 n0 : Nat} {tv pv : Value} {s : St} {o : Ord}
end Go.Proofs.Ytjfggepgjpdebaa
/- Contracts: the reference's Ints; the program's Begin. -/
namespace Go.Proofs.Ytjfggepgjpdebaa
open Go.RowKit Go.Q
theorem ints_eq {xs ys : List Int} (hl : xs.length = ys.length) (h : ∀ j, j < xs.length → xs[j]?.getD 0 = ys[j]?.getD 0) : xs = ys := by
  apply List.ext_getElem hl
  intro i h1 h2
  have := h i h1
  rw [List.getElem?_eq_getElem h1, List.getElem?_eq_getElem h2] at this
  simpa using this
set_option maxHeartbeats 1000000 in
theorem ints_any (a b : Option Addr) (n m c d : Nat) (xs ys : List Int) (w : World) (hn : xs.length = n) (hm : ys.length = m) (b1 : n ≤ 9223372036854775807) (b2 : m ≤ 9223372036854775807) (hI : IntsAt w a xs) (hJ : IntsAt w b ys) :
    Calls Try.prog 55 #[.slice a n c, .slice b m d] w fun e w' => e = .returned (.bool (decide (xs = ys))) ∧ Ext w w' := by
  by_cases hnm : n = m
  · subst hnm
    by_cases h0 : n = 0
    · subst h0
      have e1 : xs = [] := List.eq_nil_of_length_eq_zero hn
      have e2 : ys = [] := List.eq_nil_of_length_eq_zero hm
      subst e1; subst e2
      clear hI hJ hn hm
      go_enter Try.func55, Try.ntmps55
      go_wp2
      go_loop [5] (fun s => s = .int .i64 0) (fun _ => 0)
      case atStart => exact rfl
      case round =>
        obtain rfl := hrel
        go_wp2
        go_ret
        exact ⟨rfl, Ext.refl _⟩
    · rcases hI with e | ⟨ba, oa, rfl, _, hc⟩
      · subst e; exact absurd hn.symm h0
      rcases hJ with e | ⟨bb, ob, rfl, _, hd⟩
      · subst e; exact absurd hm.symm h0
      have hne : ((n : Int) != (n : Int)) = false := by simp
      have Hn := Lib.hid hn
      have Hm := Lib.hid hm
      rw [hn] at hc
      rw [hm] at hd
      clear hn hm h0
      go_enter Try.func55, Try.ntmps55
      go_wp2
      go_loopw [5] (fun s wr => ∃ k : Nat, k ≤ n ∧ s = .int .i64 k ∧ Aside (Ext w wr) ∧ Aside (∀ j, j < k → xs[j]?.getD 0 = ys[j]?.getD 0)) (fun s _ => n - (intOf s).toNat)
      case atStart => exact ⟨0, Nat.zero_le _, rfl, Ext.refl w, fun j hj => absurd hj (Nat.not_lt_zero _)⟩
      case round =>
        obtain ⟨k, hk, rfl, EW, A⟩ := hrel
        by_cases hlt : k < n
        · have hltz : (k : Int) < (n : Int) := by omega
          have p := cell_later EW.out (hc k hlt)
          have q := cell_later EW.out (hd k hlt)
          have hk0 : (0 : Int) ≤ (k : Int) := by omega
          clear hc hd
          generalize hx : xs[k]?.getD 0 = x at p
          generalize hy : ys[k]?.getD 0 = y at q
          have Hx := Lib.hid hx
          have Hy := Lib.hid hy
          clear hx hy
          cases hq : x == y with
          | true =>
            have hq' : (x != y) = false := by rw [bne, hq]; rfl
            have Hq := Lib.hid hq
            clear hq
            go_wp2
            go_quiet (fail)
            go_wp2
            go_roundw
            case rel =>
              refine ⟨k + 1, by omega, by go_num, below_drewN EW.out _, (show Aside _ from fun j hj => ?_)⟩
              by_cases e : j = k
              · subst e
                rw [Hx.out, Hy.out]; simpa using Hq.out
              · exact A.out j (by omega)
            case measure => simp [intOf]; omega
          | false =>
            have hq' : (x != y) = true := by rw [bne, hq]; rfl
            have Hq := Lib.hid hq
            clear hq
            go_wp2
            go_quiet (fail)
            go_wp2
            go_ret
            refine ⟨ret_bool ?_, below_drewN EW.out _⟩
            symm; rw [decide_eq_false_iff_not]
            intro e
            have : x = y := by rw [← Hx.out, ← Hy.out, e]
            have := Hq.out
            simp_all
        · have hltz : ¬ (k : Int) < (n : Int) := by omega
          go_wp2
          go_ret
          refine ⟨ret_bool ?_, EW.out⟩
          symm; rw [decide_eq_true_iff]
          exact ints_eq (by rw [Hn.out, Hm.out]) (fun j hj => A.out j (by have := Hn.out; omega))
  · have hne : ((n : Int) != (m : Int)) = true := by rw [bne_iff_ne]; omega
    have e : decide (xs = ys) = false := by rw [decide_eq_false_iff_not]; intro e; subst e; omega
    rw [e]
    clear hnm hn hm e hI hJ
    go_enter Try.func55, Try.ntmps55
    go_wp2
    go_ret
    exact ⟨rfl, Ext.refl _⟩
end Go.Proofs.Ytjfggepgjpdebaa
/- Contract: the program's Begin. -/
namespace Go.Proofs.Ytjfggepgjpdebaa
open Go.RowKit Go.Q
/-- what Begin returns -/
def beginQ (st tp : List Int) (start : Int) : St × Int :=
  if st.length ≤ 128 ∧ tp.length ≤ 200 then
    (if outB 16777215 st = false ∧ outB 16777215 tp = false ∧ addrB start = true then (⟨st ++ List.replicate (128 - st.length) 0, tp, 0, [], start % 16, start, 0, 0⟩, 0) else (zst, 7))
  else (zst, 3)
def zz : Array Value := Array.replicate 128 (.int .i64 0)
theorem zz_list : zz.toList = iv (List.replicate 128 0) := by unfold zz iv; rw [Array.toList_replicate, List.map_replicate]
theorem made_rep (v : Value) (n : Nat) : madeCells #[v] n = Array.replicate n v := by
  apply Array.ext
  · simp [madeCells]
  · intro i h1 h2
    simp [madeCells, Nat.mod_one]
theorem zz_made : madeCells #[Value.int .i64 0] 128 = zz := made_rep _ _
theorem make128 (W : World) : (Instr.makeSlice 22 (.int .i64 128) (.int .i64 128)).run Try.prog W = .ok (.slice (some ⟨W.heap.size, 0, none⟩) 128 128) (W.alloc (.cells zz 3)) := by
  obtain ⟨i0, hi, hz0, hz1, hz2⟩ := info_parts Try.infoE
  have := run_makeSlice (P := Try.prog) W 22 3 i0 (.int .i64 0) Try.underlying22 hi hz0 .i64 .i64 128 128 (by decide) (by decide) (by rw [hz1]; decide) (by rw [hz2]; decide) (by decide)
  rw [hz1] at this
  rw [this, ← zz_made]
  rfl
end Go.Proofs.Ytjfggepgjpdebaa
/- Contract: the program's Begin, where it succeeds. -/
namespace Go.Proofs.Ytjfggepgjpdebaa
open Go.RowKit Go.Q
theorem other8 (W : World) (b k : Nat) (hk : k ≠ b) (v0 v1 v2 v3 v4 v5 v6 v7 : Value) : ((((((((W.setCell ⟨b, 0, none⟩ v0).setCell ⟨b, 1, none⟩ v1).setCell ⟨b, 2, none⟩ v2).setCell ⟨b, 3, none⟩ v3).setCell ⟨b, 4, none⟩ v4).setCell ⟨b, 5, none⟩ v5).setCell ⟨b, 6, none⟩ v6).setCell ⟨b, 7, none⟩ v7).heap[k]? = W.heap[k]? :=
  (Below.heap_setCell _ _ _ _ hk).trans ((Below.heap_setCell _ _ _ _ hk).trans ((Below.heap_setCell _ _ _ _ hk).trans ((Below.heap_setCell _ _ _ _ hk).trans ((Below.heap_setCell _ _ _ _ hk).trans ((Below.heap_setCell _ _ _ _ hk).trans ((Below.heap_setCell _ _ _ _ hk).trans (Below.heap_setCell _ _ _ _ hk)))))))
theorem cells8 {W : World} {b : Nat} {u0 u1 u2 u3 u4 u5 u6 u7 : Value} {T : TypeId} (h : W.heap[b]? = some (.cells #[u0, u1, u2, u3, u4, u5, u6, u7] T (0, 0))) (v0 v1 v2 v3 v4 v5 v6 v7 : Value) :
    ((((((((W.setCell ⟨b, 0, none⟩ v0).setCell ⟨b, 1, none⟩ v1).setCell ⟨b, 2, none⟩ v2).setCell ⟨b, 3, none⟩ v3).setCell ⟨b, 4, none⟩ v4).setCell ⟨b, 5, none⟩ v5).setCell ⟨b, 6, none⟩ v6).setCell ⟨b, 7, none⟩ v7).heap[b]? = some (.cells #[v0, v1, v2, v3, v4, v5, v6, v7] T (0, 0)) :=
  (cells_set (cells_set (cells_set (cells_set (cells_set (cells_set (cells_set (cells_set h 0 v0) 1 v1) 2 v2) 3 v3) 4 v4) 5 v5) 6 v6) 7 v7).trans (by simp)
end Go.Proofs.Ytjfggepgjpdebaa
/- Contract: Awake returns true. -/
namespace Go.Proofs.Ytjfggepgjpdebaa
open Go.RowKit Go.Q
def storeQ : List Int := [12583560, 0, 0, 0, 0, 0, 0, 0, 10569226, 0, 4278016, 0, 14909453, 0, 0]
def st0 : St := (beginQ storeQ [3, 4, 16777215] 0).1
theorem aw_begin : (beginQ storeQ [3, 4, 16777215] 0).2 = 0 := by decide +kernel
theorem store_any (w : World) : Calls Try.prog 21 #[] w fun e w' => e = .returned (.slice (some ⟨w.heap.size, 0, none⟩) 15 15) ∧ w.alloc (.cells (iv storeQ).toArray 3) = w' := by
  go_enter Try.func21, Try.ntmps21
  go_wp2
  go_ret
  exact ⟨rfl, rfl⟩
end Go.Proofs.Ytjfggepgjpdebaa
/- Contract: Awake returns true. -/
namespace Go.Proofs.Ytjfggepgjpdebaa
open Go.RowKit Go.Q
theorem ints_fresh {w W : World} {xs : List Int} {t : TypeId} {l : Array Value} (hl : l = (iv xs).toArray) (E : Ext (w.alloc (.cells l t)) W) : IntsAt W (some ⟨w.heap.size, 0, none⟩) xs := by
  subst hl
  refine .inr ⟨_, 0, rfl, Nat.lt_of_lt_of_le (by simp) E.size, fun i hi => ?_⟩
  rw [Nat.zero_add]
  exact box_at E i (by rw [List.getElem?_toArray]; exact iv_get _ i hi)
end Go.Proofs.Ytjfggepgjpdebaa
/- What an argument of the rows holds: a slice of ints, a state. -/
namespace Go.Proofs.Ytjfggepgjpdebaa
open Go.ChangeShapes Go.WideShapes Go.ChangeAt Go.RowKit Go.Joins Go.Deep Go.Q
set_option linter.unusedVariables false
theorem rowOwn : ownKnob Try.prog.godebug = none := by kernel_rfl
theorem rowLaid : laidOutB Try.prog = true := by kernel_rfl
theorem cellsState : Try.prog.cellsOf 24 = 8 := by kernel_rfl
section
variable {H : Type} {enc : TypeId × Value → H} {w : World} {base : Nat} {spare : Nat → Bool} {held : Bool}
theorem ints_of_trod {n : Nat} {v : Value} {y : DataW H × List MemPlace} (h : DataW.trod enc Try.prog w base spare held n 22 [v] = some y) :
    ∃ a c xs, v = .slice a (xs : List Int).length c ∧ xs.length ≤ 9223372036854775807 ∧ IntsAt w a xs := by
  rcases open_ints Try.underlying22 Try.underlying3 (by kernel_rfl) h with ⟨hcs, _⟩ | ⟨x, l, c, zs, hcs, _, hl, hm, hz, _, hcell, _⟩
  · exact ⟨none, 0, [], List.cons.inj hcs |>.1, by simp, .inl rfl⟩
  · have hlz : l ≤ zs.length := by rw [hz]; split <;> omega
    have hm' : c ≤ 9223372036854775807 := Nat.le_trans hm (by decide)
    have hlen : (zs.take l).length = l := by simp [hlz]
    refine ⟨some x, c, zs.take l, by rw [hlen]; exact List.cons.inj hcs |>.1, by rw [hlen]; omega, ?_⟩
    by_cases h0 : l = 0
    · exact .inl (by simp [h0])
    obtain ⟨b, off, rfl, hc⟩ := ints_at hcell (by omega)
    refine .inr ⟨b, off, rfl, World.block_lt_of_cell? _ _ (hc 0 (by omega)), fun i hi => ?_⟩
    rw [hlen] at hi
    have e : (zs.take l)[i]?.getD 0 = zs.getD i 0 := by simp [List.getElem?_take, hi, List.getD]
    rw [e]
    exact hc i (by omega)
theorem open_agg8 {P : Program} {r : Reach} {b0 : Nat} {t : TypeId} {f0 f1 f2 f3 f4 f5 f6 f7 : Field} {v : Value} {d : DataW H} {p : List MemPlace} (hs : P.underlying t = some (.struct #[f0, f1, f2, f3, f4, f5, f6, f7])) (hone : oneCellFields P #[f0, f1, f2, f3, f4, f5, f6, f7] = true) (hC : P.cellsOf t = 8)
    (hv : Value.okWide P w r b0 t v) (h : DataW.Trod enc P w base spare held t v d p) :
    ∃ (v0 v1 v2 v3 v4 v5 v6 v7 : Value) (y0 y1 y2 y3 y4 y5 y6 y7 : DataW H × List MemPlace) (n : Nat), v = .agg #[v0, v1, v2, v3, v4, v5, v6, v7] ∧
      DataW.trod enc P w base spare held n f0.type [v0] = some y0 ∧ DataW.trod enc P w base spare held n f1.type [v1] = some y1 ∧ DataW.trod enc P w base spare held n f2.type [v2] = some y2 ∧ DataW.trod enc P w base spare held n f3.type [v3] = some y3 ∧ DataW.trod enc P w base spare held n f4.type [v4] = some y4 ∧ DataW.trod enc P w base spare held n f5.type [v5] = some y5 ∧ DataW.trod enc P w base spare held n f6.type [v6] = some y6 ∧ DataW.trod enc P w base spare held n f7.type [v7] = some y7 := by
  obtain ⟨cs, rfl, hsz⟩ := okWide_struct hs hv
  obtain ⟨l⟩ := cs
  match l, hsz.trans hC with
  | [c0, c1, c2, c3, c4, c5, c6, c7], _ =>
    obtain ⟨fuel, hf⟩ := h
    obtain ⟨xs, n, _, hx, _, hlen, hg⟩ := DataW.trod_struct hs hf
    obtain ⟨o0, k0⟩ := hone_of hone 0 f0 rfl
    obtain ⟨o1, k1⟩ := hone_of hone 1 f1 rfl
    obtain ⟨o2, k2⟩ := hone_of hone 2 f2 rfl
    obtain ⟨o3, k3⟩ := hone_of hone 3 f3 rfl
    obtain ⟨o4, k4⟩ := hone_of hone 4 f4 rfl
    obtain ⟨o5, k5⟩ := hone_of hone 5 f5 rfl
    obtain ⟨o6, k6⟩ := hone_of hone 6 f6 rfl
    obtain ⟨o7, k7⟩ := hone_of hone 7 f7 rfl
    match xs, hlen with
    | [y0, y1, y2, y3, y4, y5, y6, y7], _ =>
      exact ⟨c0, c1, c2, c3, c4, c5, c6, c7, y0, y1, y2, y3, y4, y5, y6, y7, n, rfl, by simpa [Value.cells, o0, k0] using hg 0 f0 rfl, by simpa [Value.cells, o1, k1] using hg 1 f1 rfl, by simpa [Value.cells, o2, k2] using hg 2 f2 rfl, by simpa [Value.cells, o3, k3] using hg 3 f3 rfl, by simpa [Value.cells, o4, k4] using hg 4 f4 rfl, by simpa [Value.cells, o5, k5] using hg 5 f5 rfl, by simpa [Value.cells, o6, k6] using hg 6 f6 rfl, by simpa [Value.cells, o7, k7] using hg 7 f7 rfl⟩
/-- an array of integers that came in -/
theorem arr_of_trod {P : Program} {r : Reach} {b0 n : Nat} {t e : TypeId} {k : IntKind} {v : Value} {d : DataW H} {p : List MemPlace} (ht : P.underlying t = some (.array n e)) (he : P.underlying e = some (.int k)) (h1 : P.cellsOf e = 1) (hC : P.cellsOf t = n)
    (hv : Value.okWide P w r b0 t v) (h : DataW.Trod enc P w base spare held t v d p) : ∃ xs : List Int, xs.length = n ∧ v = .agg (xs.map (Value.int k)).toArray ∧ ∀ x ∈ xs, (Lit.int k x).wf = true := by
  simp only [Value.okWide, ht] at hv
  obtain ⟨cs, rfl, h2, _⟩ := hv
  obtain ⟨fuel, hf⟩ := h
  obtain ⟨xs, m, _, _, _, hlen, hg⟩ := DataW.trod_array ht hf
  have hcs : cs.size = n := h2.trans hC
  have key : ∀ i, i < n → ∃ z, cs[i]? = some (.int k z) ∧ (Lit.int k z).wf = true := by
    intro i hi
    have hx := hg i hi
    rw [List.getElem?_eq_getElem (by omega : i < xs.length)] at hx
    obtain ⟨z, ez, _, hw⟩ := DataW.trod_int he hx
    refine ⟨z, ?_, hw⟩
    rw [h1, Nat.mul_one] at ez
    have e1 : ((Value.agg cs).cells.toList.drop i).head? = some (.int k z) := by
      have : (((Value.agg cs).cells.toList.drop i).take 1).head? = some (.int k z) := by rw [ez]; rfl
      simpa [List.head?_take] using this
    simpa [Value.cells, List.head?_drop] using e1
  refine ⟨cs.toList.map intOf, by simpa using hcs, ?_, ?_⟩
  · congr 1
    refine Array.ext' ?_
    simp only [List.map_map]
    refine List.ext_getElem? fun i => ?_
    by_cases hi : i < n
    · obtain ⟨z, hz, _⟩ := key i hi
      simp [hz, intOf]
    · simp [Array.getElem?_eq_none (by omega : cs.size ≤ i)]
  · intro x hx
    obtain ⟨v, hv, rfl⟩ := List.mem_map.1 hx
    obtain ⟨i, hi, rfl⟩ := List.mem_iff_getElem.1 hv
    obtain ⟨z, hz, hw⟩ := key i (by simpa [hcs] using hi)
    have : cs.toList[i] = .int k z := by
      have hz' : cs.toList[i]? = some (.int k z) := by simpa using hz
      rw [List.getElem?_eq_getElem hi] at hz'
      exact Option.some.inj hz'
    rw [this]
    exact hw
theorem arr2_of_trod {P : Program} {r : Reach} {b0 : Nat} {t e : TypeId} {k : IntKind} {v : Value} {d : DataW H} {p : List MemPlace} (ht : P.underlying t = some (.array 2 e)) (he : P.underlying e = some (.int k)) (h1 : P.cellsOf e = 1) (hC : P.cellsOf t = 2)
    (hv : Value.okWide P w r b0 t v) (h : DataW.Trod enc P w base spare held t v d p) : ∃ a b : Int, v = .agg #[.int k a, .int k b] ∧ (Lit.int k a).wf = true ∧ (Lit.int k b).wf = true := by
  obtain ⟨xs, hl, rfl, hw⟩ := arr_of_trod ht he h1 hC hv h
  match xs, hl with
  | [a, b], _ => exact ⟨a, b, rfl, hw a (by simp), hw b (by simp)⟩
set_option maxRecDepth 100000 in
/-- a state that came in -/
theorem state_of_trod {r : Reach} {b0 : Nat} {v : Value} {d : DataW H} {p : List MemPlace} (hv : Value.okWide Try.prog w r b0 24 v) (h : DataW.Trod enc Try.prog w base spare held 24 v d p) :
    ∃ s, StAt w v s ∧ StBd s := by
  obtain ⟨c0, c1, c2, c3, c4, c5, c6, c7, y0, y1, y2, y3, y4, y5, y6, y7, m, hv0, hy0, hy1, hy2, hy3, hy4, hy5, hy6, hy7⟩ := open_agg8 Try.underlying24 (by kernel_rfl) cellsState hv h
  obtain ⟨a1, k1, s1, e0, b1, i1⟩ := ints_of_trod hy0
  obtain ⟨a2, k2, s2, e1, b2, i2⟩ := ints_of_trod hy1
  obtain ⟨tk, e2, _, _⟩ := DataW.trod_int Try.underlying3 hy2
  obtain ⟨a3, k3, s3, e3, b3, i3⟩ := ints_of_trod hy3
  obtain ⟨tm, e4, _, _⟩ := DataW.trod_int Try.underlying3 hy4
  obtain ⟨at_, e5, _, _⟩ := DataW.trod_int Try.underlying3 hy5
  obtain ⟨dn, e6, _, _⟩ := DataW.trod_int Try.underlying3 hy6
  obtain ⟨wy, e7, _, _⟩ := DataW.trod_int Try.underlying3 hy7
  simp only [List.cons.injEq, and_true] at e2 e4 e5 e6 e7
  subst e0 e1 e2 e3 e4 e5 e6 e7 hv0
  exact ⟨⟨s1, s2, tk, s3, tm, at_, dn, wy⟩, ⟨a1, a2, a3, k1, k2, k3, rfl, i1, i2, i3⟩, b1, b2, b3⟩
end
end Go.Proofs.Ytjfggepgjpdebaa
/- Layer 5 (pulse) in plain Lean: the check of a state, and a minor cycle. -/
namespace Go.Q
/-- the machine between two minor cycles -/
structure Pu where
  store : List Int
  tape : List Int
  taken : Int
  printed : List Int
  clock : Int
  at_ : Int
  phase : Int
  order : Int
  operand : Int
  other : Int
  product : Int
  count : Int
  done : Int
  why : Int
def ordP (s : Pu) : Ord := decodeQ s.order
def base4 (s : Pu) : St := ⟨s.store, s.tape, 0, s.printed, 0, 0, 0, 0⟩
def worksB (op : Int) : Bool := inB op 1 4
def fieldsP (s : Pu) : Bool :=
  inB s.taken 0 s.tape.length && inB s.clock 0 1000000000 && inB s.at_ 0 127 && inB s.phase 0 4 && wordB s.order && wordB s.operand && wordB s.other &&
    inB s.product (-140737488355328) 140737488355327 && inB s.done 0 s.clock && inB s.why 0 4 && inB s.count 0 12
/-- the order belongs to the phase -/
def fitsB (s : Pu) : Bool :=
  if s.phase = 1 then worksB (ordP s).op || decide ((ordP s).op = 5) || (decide ((ordP s).op = 7) && decide (s.printed.length < 200))
  else if s.phase = 2 then worksB (ordP s).op || (decide ((ordP s).op = 6) && decide (s.taken < s.tape.length))
  else if s.phase = 3 ∨ s.phase = 4 then decide ((ordP s).op = 4)
  else true
def cntB (s : Pu) : Bool := decide (s.phase = 3) == decide (0 < s.count)
/-- what Check returns -/
def checkP (s : Pu) : Int × Int × Int :=
  if (checkQ (base4 s)).2.2 ≠ 0 then checkQ (base4 s)
  else if fieldsP s = false then (5, 0, 7)
  else if cntB s = false ∨ fitsB s = false then (6, 0, 2)
  else (0, 0, 0)
/-- the address for which the machine waits -/
def addrP (s : Pu) : Int := if s.phase = 0 then s.at_ else if s.phase = 1 then (ordP s).frm else if s.phase = 3 then -1 else (ordP s).to
def comesP (s : Pu) : Bool := decide (0 ≤ addrP s) && decide ((addrP s - s.clock) % 16 = 0)
def replP (s : Pu) : Bool := decide (s.phase = 4) || (decide (s.phase = 2) && decide ((ordP s).op ≠ 4))
/-- the word by which one is replaced -/
def resP (s : Pu) (w : Int) : Int :=
  (if s.phase = 4 then s.product / 8388608
   else if (ordP s).op = 2 then w + s.operand
   else if (ordP s).op = 3 then w - s.operand
   else if (ordP s).op = 6 then s.tape[s.taken.toNat]?.getD 0
   else s.operand) % 16777216
def bitQ (w : Int) (k : Nat) : Int := w / 2 ^ k % 2
def addend (o p : Int) (k : Nat) : Int := if k = 23 then -(sgn o * bitQ p k * 2 ^ k) else sgn o * bitQ p k * 2 ^ k
/-- one more bit of the operand -/
def multP (s : Pu) (k : Nat) : Pu := { s with product := (s.product + addend s.other s.operand k + 140737488355328) % 281474976710656 - 140737488355328 }
def finishP (s : Pu) : Pu := { s with at_ := (ordP s).nxt, done := s.done + 1, phase := 0 }
def whyP (s : Pu) (o : Ord) : Int :=
  if o.op = 0 then 1 else if o.op = 6 ∧ s.taken = s.tape.length then 2 else if o.op = 7 ∧ s.printed.length = 200 then 3 else 0
def fetchP (s : Pu) (w : Int) : Pu :=
  if whyP s (decodeQ w) ≠ 0 then { s with why := whyP s (decodeQ w) }
  else { s with order := w, phase := if (decodeQ w).op = 6 then 2 else 1 }
def fromP (s : Pu) (w : Int) : Pu :=
  if (ordP s).op = 7 then finishP { s with operand := w, printed := s.printed ++ [w] }
  else if (ordP s).op = 5 then { finishP { s with operand := w } with at_ := if sgn w < 0 then (ordP s).to else (ordP s).nxt }
  else { s with operand := w, phase := 2 }
def toP (s : Pu) (w : Int) : Pu :=
  if (ordP s).op = 4 then { s with other := w, product := 0, count := 12, phase := 3 }
  else if (ordP s).op = 6 then finishP { s with taken := s.taken + 1 }
  else finishP s
def countP (s : Pu) : Pu := { s with count := s.count - 1, phase := if s.count - 1 = 0 then 4 else s.phase }
/-- what a word that has come by brings -/
def cameP (s : Pu) (w : Int) : Pu :=
  if s.phase = 0 then fetchP s w else if s.phase = 1 then fromP s w else if s.phase = 2 then toP s w else if s.phase = 3 then countP s else finishP s
def tickP (s : Pu) : Pu := if s.why = 0 then { s with clock := s.clock + 1 } else s
/-- the end of a minor cycle -/
def endP (came : Bool) (w : Int) (s : Pu) : Pu := tickP (if came = true ∨ s.phase = 3 then cameP s w else s)
def storeP (s : Pu) : Pu := if (comesP s && replP s) = true then { s with store := s.store.set (addrP s).toNat (resP s (s.store[(addrP s).toNat]?.getD 0)) } else s
def multsP (s : Pu) : Pu := if s.phase = 3 then multP (multP s (24 - 2 * s.count).toNat) ((24 - 2 * s.count).toNat + 1) else s
def wordP (s : Pu) : Int := if comesP s = true then s.store[(addrP s).toNat]?.getD 0 else 0
/-- a minor cycle -/
def minorP (s : Pu) : Pu :=
  if s.why ≠ 0 then s
  else if s.clock = 1000000000 then { s with why := 4 }
  else endP (comesP s) (wordP s) (multsP (storeP s))
def minorsP : Nat → Pu → Pu
  | 0, s => s
  | n + 1, s => minorsP n (minorP s)
theorem minorsP_snoc' : ∀ (n : Nat) (s : Pu), minorsP (n + 1) s = minorP (minorsP n s)
  | 0, _ => rfl
  | n + 1, s => minorsP_snoc' n (minorP s)
theorem minorsP_add (m : Nat) : ∀ (n : Nat) (s : Pu), minorsP (n + m) s = minorsP m (minorsP n s)
  | 0, s => by rw [Nat.zero_add]; rfl
  | n + 1, s => by rw [show n + 1 + m = (n + m) + 1 by omega]; exact minorsP_add m n (minorP s)
/-- a valid state -/
structure ValidP (s : Pu) : Prop where
  len : s.store.length = 128
  tlen : s.tape.length ≤ 200
  plen : s.printed.length ≤ 200
  ws : ∀ x ∈ s.store, 0 ≤ x ∧ x ≤ 16777215
  wt : ∀ x ∈ s.tape, 0 ≤ x ∧ x ≤ 16777215
  wp : ∀ x ∈ s.printed, 0 ≤ x ∧ x ≤ 16777215
  taken : 0 ≤ s.taken ∧ s.taken ≤ s.tape.length
  clock : 0 ≤ s.clock ∧ s.clock ≤ 1000000000
  at_ : 0 ≤ s.at_ ∧ s.at_ ≤ 127
  phase : 0 ≤ s.phase ∧ s.phase ≤ 4
  order : 0 ≤ s.order ∧ s.order ≤ 16777215
  operand : 0 ≤ s.operand ∧ s.operand ≤ 16777215
  other : 0 ≤ s.other ∧ s.other ≤ 16777215
  product : -140737488355328 ≤ s.product ∧ s.product ≤ 140737488355327
  done : 0 ≤ s.done ∧ s.done ≤ s.clock
  why : 0 ≤ s.why ∧ s.why ≤ 4
  count : 0 ≤ s.count ∧ s.count ≤ 12
  cnt : s.phase = 3 ↔ 0 < s.count
  fits : fitsB s = true
theorem valid_check {s : Pu} (h : (checkP s).2.2 = 0) : ValidP s := by
  unfold checkP at h
  split at h
  · rename_i hq; exact absurd h hq
  split at h
  · simp at h
  split at h
  · simp at h
  rename_i h1 h2 h3
  have V := valid_of_check (s := base4 s) (by simpa using h1)
  have h2' : fieldsP s = true := by simpa using h2
  simp only [fieldsP, wordB, Bool.and_eq_true] at h2'
  obtain ⟨⟨⟨⟨⟨⟨⟨⟨⟨⟨a1, a2⟩, a3⟩, a4⟩, a5⟩, a6⟩, a7⟩, a8⟩, a9⟩, a10⟩, a11⟩ := h2'
  have h4 : ¬ cntB s = false := fun e => h3 (.inl e)
  have h5 : ¬ fitsB s = false := fun e => h3 (.inr e)
  refine ⟨V.len, V.tlen, V.plen, V.ws, V.wt, V.wp, inB_bd a1, inB_bd a2, inB_bd a3, inB_bd a4, inB_bd a5, inB_bd a6, inB_bd a7, inB_bd a8, inB_bd a9, inB_bd a10, inB_bd a11, ?_, by simpa using h5⟩
  have h4' : cntB s = true := by simpa using h4
  unfold cntB at h4'
  have := of_decide_eq_true (p := decide (s.phase = 3) = decide (0 < s.count)) (by simpa using h4')
  rw [decide_eq_decide] at this
  exact this
theorem ValidP.ord {s : Pu} (h : ValidP s) : ordB (ordP s) = true := ordB_decode h.order.1 h.order.2
theorem ValidP.frm {s : Pu} (h : ValidP s) : (0 ≤ (ordP s).op ∧ (ordP s).op ≤ 7) ∧ (0 ≤ (ordP s).frm ∧ (ordP s).frm ≤ 127) ∧ (0 ≤ (ordP s).to ∧ (ordP s).to ≤ 127) ∧ 0 ≤ (ordP s).nxt ∧ (ordP s).nxt ≤ 127 := by
  have ho := h.ord
  simp only [ordB, addrB, Bool.and_eq_true] at ho
  exact ⟨inB_bd ho.1.1.1, inB_bd ho.1.1.2, inB_bd ho.1.2, inB_bd ho.2⟩
theorem addrP_bd {s : Pu} (h : ValidP s) : -1 ≤ addrP s ∧ addrP s ≤ 127 ∧ (addrP s = -1 ↔ s.phase = 3) := by
  have := h.frm
  have := h.at_
  unfold addrP
  repeat' split
  all_goals omega
end Go.Q
/- Layer 5 in plain Lean, on: a valid state stays valid; how long a phase takes. -/
namespace Go.Q
theorem bitQ_bd (w : Int) (k : Nat) : 0 ≤ bitQ w k ∧ bitQ w k ≤ 1 := by unfold bitQ; omega
theorem sgn_bd' {n : Int} (h : 0 ≤ n ∧ n ≤ 16777215) : -8388608 ≤ sgn n ∧ sgn n ≤ 8388607 := by unfold sgn; split <;> omega
theorem resP_bd (s : Pu) (w : Int) : 0 ≤ resP s w ∧ resP s w ≤ 16777215 := by unfold resP; omega
theorem ValidP.word {s : Pu} (h : ValidP s) (i : Nat) (hi : i < 128) : 0 ≤ s.store[i]?.getD 0 ∧ s.store[i]?.getD 0 ≤ 16777215 := mem_get (by rw [h.len]; exact hi) h.ws
theorem wordP_bd {s : Pu} (h : ValidP s) : 0 ≤ wordP s ∧ wordP s ≤ 16777215 := by
  unfold wordP
  have := addrP_bd h
  split
  · rename_i hc
    unfold comesP at hc
    simp only [Bool.and_eq_true, decide_eq_true_eq] at hc
    exact h.word _ (by omega)
  · omega
theorem storeP_valid {s : Pu} (h : ValidP s) : ValidP (storeP s) := by
  unfold storeP
  split
  · exact { h with len := by simpa using h.len, ws := set_all h.ws _ (resP_bd s _) }
  · exact h
theorem multP_valid {s : Pu} (h : ValidP s) (k : Nat) : ValidP (multP s k) := by
  have hp : -140737488355328 ≤ (s.product + addend s.other s.operand k + 140737488355328) % 281474976710656 - 140737488355328 ∧ (s.product + addend s.other s.operand k + 140737488355328) % 281474976710656 - 140737488355328 ≤ 140737488355327 := by
    generalize s.product + addend s.other s.operand k + 140737488355328 = x
    omega
  exact { h with product := hp, fits := h.fits }
theorem multsP_valid {s : Pu} (h : ValidP s) : ValidP (multsP s) := by
  unfold multsP
  split
  · exact multP_valid (multP_valid h _) _
  · exact h
theorem whyP_bd (s : Pu) (o : Ord) : 0 ≤ whyP s o ∧ whyP s o ≤ 3 := by
  unfold whyP
  repeat' split
  all_goals omega
theorem fits0 {s : Pu} (h : s.phase = 0) : fitsB s = true := by
  unfold fitsB
  rw [if_neg (by omega), if_neg (by omega), if_neg (by omega)]
theorem fits_of {s : Pu} (h : ValidP s) : (s.phase = 1 → ((1 ≤ (ordP s).op ∧ (ordP s).op ≤ 4) ∨ (ordP s).op = 5 ∨ ((ordP s).op = 7 ∧ s.printed.length < 200))) ∧
    (s.phase = 2 → ((1 ≤ (ordP s).op ∧ (ordP s).op ≤ 4) ∨ ((ordP s).op = 6 ∧ s.taken < s.tape.length))) ∧ (s.phase = 3 ∨ s.phase = 4 → (ordP s).op = 4) := by
  have hf := h.fits
  unfold fitsB worksB inB at hf
  refine ⟨fun e => ?_, fun e => ?_, fun e => ?_⟩
  · rw [if_pos e] at hf
    simp only [Bool.or_eq_true, Bool.and_eq_true, decide_eq_true_eq] at hf
    omega
  · rw [if_neg (by omega), if_pos e] at hf
    simp only [Bool.or_eq_true, Bool.and_eq_true, decide_eq_true_eq] at hf
    omega
  · rw [if_neg (by omega), if_neg (by omega), if_pos e] at hf
    simpa using hf
theorem fits_mk {s : Pu} (h1 : s.phase = 1 → ((1 ≤ (ordP s).op ∧ (ordP s).op ≤ 4) ∨ (ordP s).op = 5 ∨ ((ordP s).op = 7 ∧ s.printed.length < 200)))
    (h2 : s.phase = 2 → ((1 ≤ (ordP s).op ∧ (ordP s).op ≤ 4) ∨ ((ordP s).op = 6 ∧ s.taken < s.tape.length))) (h3 : s.phase = 3 ∨ s.phase = 4 → (ordP s).op = 4) : fitsB s = true := by
  unfold fitsB worksB inB
  split
  · rename_i e
    have := h1 e
    simp only [Bool.or_eq_true, Bool.and_eq_true, decide_eq_true_eq]
    omega
  split
  · rename_i e
    have := h2 e
    simp only [Bool.or_eq_true, Bool.and_eq_true, decide_eq_true_eq]
    omega
  split
  · rename_i e
    simpa using h3 e
  · rfl
/-- what a word brings, the clock not yet turned: the state is valid at the next clock, or it has ended and is as it was -/
theorem came_valid {s : Pu} (h : ValidP s) (hy : s.why = 0) (hc : s.clock ≠ 1000000000) {w : Int} (hw : 0 ≤ w ∧ w ≤ 16777215) : ValidP (tickP (cameP s w)) := by
  have hcl := h.clock
  have hd := h.done
  have hcl1 : 0 ≤ s.clock + 1 ∧ s.clock + 1 ≤ 1000000000 := by omega
  have hd0 : 0 ≤ s.done ∧ s.done ≤ s.clock + 1 := by omega
  have hd1 : 0 ≤ s.done + 1 ∧ s.done + 1 ≤ s.clock + 1 := by omega
  obtain ⟨f1, f2, f3⟩ := fits_of h
  obtain ⟨⟨p0, p1⟩, ⟨a0, a1⟩, ⟨b0, b1⟩, n0, n1⟩ := h.frm
  have hcn := h.cnt
  have hct := h.count
  have hw4 := whyP_bd s (decodeQ w)
  unfold cameP
  split
  · unfold fetchP
    split
    · rename_i e0 hne
      have e : tickP { s with why := whyP s (decodeQ w) } = { s with why := whyP s (decodeQ w) } := by unfold tickP; rw [if_neg hne]
      rw [e]
      exact { h with why := by show 0 ≤ whyP s (decodeQ w) ∧ whyP s (decodeQ w) ≤ 4; omega, fits := h.fits }
    · rename_i e0 hne
      have hne' : whyP s (decodeQ w) = 0 := by omega
      have e : ∀ x y : Int, tickP { s with order := x, phase := y } = { s with order := x, phase := y, clock := s.clock + 1 } := fun x y => by unfold tickP; rw [if_pos hy]
      rw [e]
      have hob := ordB_decode hw.1 hw.2
      simp only [ordB, addrB, Bool.and_eq_true] at hob
      have ho := inB_bd hob.1.1.1
      have hr0 : s.count = 0 := by have := h.cnt; omega
      have hpl := h.plen
      have htk := h.taken
      unfold whyP at hne'
      refine { h with order := hw, phase := ?_, clock := hcl1, done := hd0, cnt := ?_, fits := fits_mk ?_ ?_ ?_ }
      · show 0 ≤ (if (decodeQ w).op = 6 then (2 : Int) else 1) ∧ (if (decodeQ w).op = 6 then (2 : Int) else 1) ≤ 4
        split <;> omega
      · show (if (decodeQ w).op = 6 then (2 : Int) else 1) = 3 ↔ 0 < s.count
        split <;> omega
      · show (if (decodeQ w).op = 6 then (2 : Int) else 1) = 1 → ((1 ≤ (decodeQ w).op ∧ (decodeQ w).op ≤ 4) ∨ (decodeQ w).op = 5 ∨ ((decodeQ w).op = 7 ∧ s.printed.length < 200))
        split at hne'
        · omega
        split at hne'
        · omega
        split at hne'
        · omega
        split <;> omega
      · show (if (decodeQ w).op = 6 then (2 : Int) else 1) = 2 → ((1 ≤ (decodeQ w).op ∧ (decodeQ w).op ≤ 4) ∨ ((decodeQ w).op = 6 ∧ s.taken < s.tape.length))
        split at hne'
        · omega
        split at hne'
        · omega
        split at hne'
        · omega
        split <;> omega
      · show (if (decodeQ w).op = 6 then (2 : Int) else 1) = 3 ∨ (if (decodeQ w).op = 6 then (2 : Int) else 1) = 4 → (decodeQ w).op = 4
        split <;> omega
  split
  · rename_i e1
    have hr0 : s.count = 0 := by omega
    unfold fromP
    split
    · rename_i e7
      show ValidP (tickP _)
      unfold finishP tickP
      rw [if_pos hy]
      refine { h with operand := hw, plen := ?_, wp := ?_, at_ := ⟨n0, n1⟩, phase := (by decide : (0 : Int) ≤ 0 ∧ (0 : Int) ≤ 4), clock := hcl1, done := hd1, cnt := by show (0 : Int) = 3 ↔ 0 < s.count; omega, fits := fits0 rfl }
      · have := f1 e1
        show (s.printed ++ [w]).length ≤ 200
        simp only [List.length_append, List.length_cons, List.length_nil]
        omega
      · intro x hx
        rcases List.mem_append.1 hx with h1 | h1
        · exact h.wp x h1
        · simp only [List.mem_singleton] at h1; exact h1 ▸ hw
    split
    · rename_i e7 e5
      unfold finishP tickP
      rw [if_pos hy]
      exact { h with operand := hw, at_ := by show 0 ≤ (if sgn w < 0 then (ordP s).to else (ordP s).nxt) ∧ (if sgn w < 0 then (ordP s).to else (ordP s).nxt) ≤ 127; split <;> omega, phase := (by decide : (0 : Int) ≤ 0 ∧ (0 : Int) ≤ 4), clock := hcl1, done := hd1, cnt := by show (0 : Int) = 3 ↔ 0 < s.count; omega, fits := fits0 rfl }
    · rename_i e7 e5
      unfold tickP
      rw [if_pos hy]
      have := f1 e1
      exact { h with operand := hw, phase := (by decide : (0 : Int) ≤ 2 ∧ (2 : Int) ≤ 4), clock := hcl1, done := hd0, cnt := by show (2 : Int) = 3 ↔ 0 < s.count; omega, fits := fits_mk (fun e => absurd (show (2 : Int) = 1 from e) (by decide)) (fun _ => .inl (by show 1 ≤ (ordP s).op ∧ (ordP s).op ≤ 4; omega)) (fun e => absurd (show (2 : Int) = 3 ∨ (2 : Int) = 4 from e) (by decide)) }
  split
  · rename_i e2
    have hr0 : s.count = 0 := by omega
    unfold toP
    split
    · rename_i e4
      unfold tickP
      rw [if_pos hy]
      exact { h with other := hw, product := (by decide : (-140737488355328 : Int) ≤ 0 ∧ (0 : Int) ≤ 140737488355327), count := (by decide : (0 : Int) ≤ 12 ∧ (12 : Int) ≤ 12), phase := (by decide : (0 : Int) ≤ 3 ∧ (3 : Int) ≤ 4), clock := hcl1, done := hd0, cnt := by show (3 : Int) = 3 ↔ (0 : Int) < 12; decide, fits := fits_mk (fun e => absurd (show (3 : Int) = 1 from e) (by decide)) (fun e => absurd (show (3 : Int) = 2 from e) (by decide)) (fun _ => e4) }
    split
    · rename_i e4 e6
      unfold finishP tickP
      rw [if_pos hy]
      have := f2 e2
      have ht := h.taken
      exact { h with taken := (show 0 ≤ s.taken + 1 ∧ s.taken + 1 ≤ s.tape.length by omega), at_ := ⟨n0, n1⟩, phase := (by decide : (0 : Int) ≤ 0 ∧ (0 : Int) ≤ 4), clock := hcl1, done := hd1, cnt := by show (0 : Int) = 3 ↔ 0 < s.count; omega, fits := fits0 rfl }
    · unfold finishP tickP
      rw [if_pos hy]
      exact { h with at_ := ⟨n0, n1⟩, phase := (by decide : (0 : Int) ≤ 0 ∧ (0 : Int) ≤ 4), clock := hcl1, done := hd1, cnt := by show (0 : Int) = 3 ↔ 0 < s.count; omega, fits := fits0 rfl }
  split
  · rename_i e3
    unfold countP tickP
    rw [if_pos hy]
    have h4 := f3 (.inl e3)
    refine { h with count := by show 0 ≤ s.count - 1 ∧ s.count - 1 ≤ 12; omega, phase := by show 0 ≤ (if s.count - 1 = 0 then (4 : Int) else s.phase) ∧ (if s.count - 1 = 0 then (4 : Int) else s.phase) ≤ 4; split <;> omega, clock := hcl1, done := hd0, cnt := by show (if s.count - 1 = 0 then (4 : Int) else s.phase) = 3 ↔ 0 < s.count - 1; split <;> omega, fits := fits_mk ?_ ?_ (fun _ => h4) }
    · show (if s.count - 1 = 0 then (4 : Int) else s.phase) = 1 → _
      split
      · intro e; omega
      · intro e; omega
    · show (if s.count - 1 = 0 then (4 : Int) else s.phase) = 2 → _
      split
      · intro e; omega
      · intro e; omega
  · rename_i e0 e1 e2 e3
    have hr0 : s.count = 0 := by omega
    unfold finishP tickP
    rw [if_pos hy]
    exact { h with at_ := ⟨n0, n1⟩, phase := (by decide : (0 : Int) ≤ 0 ∧ (0 : Int) ≤ 4), clock := hcl1, done := hd1, cnt := by show (0 : Int) = 3 ↔ 0 < s.count; omega, fits := fits0 rfl }
theorem endP_valid {s : Pu} (h : ValidP s) (hy : s.why = 0) (hc : s.clock ≠ 1000000000) (came : Bool) {w : Int} (hw : 0 ≤ w ∧ w ≤ 16777215) : ValidP (endP came w s) := by
  unfold endP
  split
  · exact came_valid h hy hc hw
  · unfold tickP
    rw [if_pos hy]
    have hcl := h.clock
    have hd := h.done
    have hcl1 : 0 ≤ s.clock + 1 ∧ s.clock + 1 ≤ 1000000000 := by omega
    have hd0 : 0 ≤ s.done ∧ s.done ≤ s.clock + 1 := by omega
    exact { h with clock := hcl1, done := hd0, fits := h.fits }
theorem storeP_same (s : Pu) : (storeP s).why = s.why ∧ (storeP s).clock = s.clock ∧ (storeP s).phase = s.phase ∧ (storeP s).count = s.count ∧ (storeP s).order = s.order ∧ (storeP s).at_ = s.at_ := by
  unfold storeP; split <;> exact ⟨rfl, rfl, rfl, rfl, rfl, rfl⟩
theorem multsP_same (s : Pu) : (multsP s).why = s.why ∧ (multsP s).clock = s.clock ∧ (multsP s).phase = s.phase ∧ (multsP s).count = s.count ∧ (multsP s).order = s.order ∧ (multsP s).at_ = s.at_ := by
  unfold multsP; split <;> exact ⟨rfl, rfl, rfl, rfl, rfl, rfl⟩
theorem minorP_valid {s : Pu} (h : ValidP s) : ValidP (minorP s) := by
  unfold minorP
  split
  · exact h
  split
  · exact { h with why := (by decide : (0 : Int) ≤ 4 ∧ (4 : Int) ≤ 4), fits := h.fits }
  · rename_i hy hc
    have hy' : s.why = 0 := by omega
    have e1 := storeP_same s
    have e2 := multsP_same (storeP s)
    exact endP_valid (multsP_valid (storeP_valid h)) (by rw [e2.1, e1.1]; exact hy') (by rw [e2.2.1, e1.2.1]; exact hc) _ (wordP_bd h)
theorem minorsP_valid : ∀ (n : Nat) {s : Pu}, ValidP s → ValidP (minorsP n s)
  | 0, _, h => h
  | n + 1, _, h => minorsP_valid n (minorP_valid h)
theorem minorsP_stop {s : Pu} (h : s.why ≠ 0) : ∀ n, minorsP n s = s
  | 0 => rfl
  | n + 1 => by
    show minorsP n (minorP s) = s
    have e : minorP s = s := by unfold minorP; rw [if_pos h]
    rw [e]; exact minorsP_stop h n
/-- the minor cycles that the phase takes yet, but for the last one -/
def distP (s : Pu) : Nat := if s.phase = 3 then (s.count - 1).toNat else ((addrP s - s.clock) % 16).toNat
/-- what Until returns -/
def untilP (s : Pu) : Nat := min (distP s + 1) ((1000000000 - s.clock).toNat + 1)
theorem untilP_bd {s : Pu} (h : ValidP s) : 1 ≤ untilP s ∧ untilP s ≤ 16 := by
  have := h.count
  have := h.clock
  unfold untilP distP
  split <;> omega
/-- the state while it waits -/
def waitP (s : Pu) : Pu := if s.phase = 3 then { multsP s with count := s.count - 1, clock := s.clock + 1 } else { s with clock := s.clock + 1 }
theorem wait_law {s : Pu} (h : ValidP s) (hy : s.why = 0) (hu : 1 < untilP s) : minorP s = waitP s ∧ (waitP s).phase = s.phase ∧ (waitP s).why = 0 ∧ untilP (waitP s) + 1 = untilP s := by
  have hc := h.clock
  have hct := h.count
  have hb := addrP_bd h
  have hcn := h.cnt
  have hcl : s.clock ≠ 1000000000 := by
    intro e
    have : untilP s = 1 := by unfold untilP; omega
    omega
  by_cases h3 : s.phase = 3
  · have hcm : comesP s = false := by
      unfold comesP
      have : ¬ 0 ≤ addrP s := by omega
      simp [this]
    have hst : storeP s = s := by unfold storeP; rw [hcm]; simp
    have hc2 : ¬ s.count - 1 = 0 := by
      unfold untilP distP at hu
      rw [if_pos h3] at hu
      omega
    have e1 := multsP_same s
    refine ⟨?_, ?_, ?_, ?_⟩
    · unfold minorP waitP
      rw [if_neg (by omega), if_neg hcl, if_pos h3, hst]
      unfold endP
      rw [if_pos (.inr (by rw [e1.2.2.1]; exact h3))]
      unfold cameP
      rw [e1.2.2.1, if_neg (by omega), if_neg (by omega), if_neg (by omega), if_pos h3]
      unfold countP tickP
      rw [if_pos (by show (multsP s).why = 0; rw [e1.1]; exact hy)]
      rw [e1.2.2.2.1, if_neg hc2, e1.2.1]
    · unfold waitP; rw [if_pos h3]; exact e1.2.2.1
    · unfold waitP; rw [if_pos h3]; exact e1.1.trans hy
    · unfold untilP distP waitP
      rw [if_pos h3]
      unfold untilP distP at hu
      rw [if_pos h3] at hu
      rw [if_pos (by exact e1.2.2.1.trans h3)]
      show min ((s.count - 1 - 1).toNat + 1) ((1000000000 - (s.clock + 1)).toNat + 1) + 1 = _
      rw [if_pos h3]
      omega
  · unfold untilP distP at hu
    rw [if_neg h3] at hu
    have hcm : comesP s = false := by
      unfold comesP
      have : ¬ (addrP s - s.clock) % 16 = 0 := by omega
      simp [this]
    have hst : storeP s = s := by unfold storeP; rw [hcm]; simp
    have hmu : multsP s = s := by unfold multsP; rw [if_neg h3]
    refine ⟨?_, ?_, ?_, ?_⟩
    · unfold minorP waitP
      rw [if_neg (by omega), if_neg hcl, if_neg h3, hst, hmu, hcm]
      unfold endP
      rw [if_neg (by simp [h3])]
      unfold tickP
      rw [if_pos hy]
    · unfold waitP; rw [if_neg h3]
    · unfold waitP; rw [if_neg h3]; exact hy
    · unfold untilP distP waitP
      rw [if_neg h3]
      have ea : addrP { s with clock := s.clock + 1 } = addrP s := rfl
      rw [if_neg (by exact h3), ea, if_neg h3]
      show min (((addrP s - (s.clock + 1)) % 16).toNat + 1) ((1000000000 - (s.clock + 1)).toNat + 1) + 1 = _
      omega
theorem last_law {s : Pu} (h : ValidP s) (hy : s.why = 0) (hu : untilP s = 1) : (minorP s).phase ≠ s.phase ∨ (minorP s).why ≠ 0 := by
  have hc := h.clock
  have hct := h.count
  have hb := addrP_bd h
  have hcn := h.cnt
  have hph := h.phase
  obtain ⟨f1, f2, f3⟩ := fits_of h
  by_cases hcl : s.clock = 1000000000
  · right
    unfold minorP
    rw [if_neg (by omega), if_pos hcl]
    show (4 : Int) ≠ 0
    decide
  unfold untilP distP at hu
  have e1 := storeP_same s
  have e2 := multsP_same (storeP s)
  have ephase : (multsP (storeP s)).phase = s.phase := by rw [e2.2.2.1, e1.2.2.1]
  have ecount : (multsP (storeP s)).count = s.count := by rw [e2.2.2.2.1, e1.2.2.2.1]
  have eord : ordP (multsP (storeP s)) = ordP s := by unfold ordP; rw [e2.2.2.2.2.1, e1.2.2.2.2.1]
  have tick : ∀ t : Pu, (tickP t).phase = t.phase ∧ (tickP t).why = t.why := fun t => by unfold tickP; split <;> exact ⟨rfl, rfl⟩
  unfold minorP
  rw [if_neg (by omega), if_neg hcl]
  unfold endP
  generalize wordP s = w
  generalize hS : multsP (storeP s) = t at *
  have hcame : comesP s = true ∨ t.phase = 3 := by
    by_cases h3 : s.phase = 3
    · right; omega
    · left
      rw [if_neg h3] at hu
      unfold comesP
      have a : 0 ≤ addrP s := by omega
      have b : (addrP s - s.clock) % 16 = 0 := by omega
      simp [a, b]
  rw [if_pos hcame, (tick _).1, (tick _).2]
  unfold cameP
  split
  · unfold fetchP
    split
    · right; assumption
    · left
      show (if (decodeQ w).op = 6 then (2 : Int) else 1) ≠ s.phase
      split <;> omega
  split
  · left
    unfold fromP
    split
    · show (0 : Int) ≠ s.phase; omega
    split
    · show (0 : Int) ≠ s.phase; omega
    · show (2 : Int) ≠ s.phase; omega
  split
  · left
    unfold toP
    split
    · show (3 : Int) ≠ s.phase; omega
    split
    · show (0 : Int) ≠ s.phase; omega
    · show (0 : Int) ≠ s.phase; omega
  split
  · rename_i e3
    left
    have h3 : s.phase = 3 := by omega
    rw [if_pos h3] at hu
    have : t.count - 1 = 0 := by omega
    unfold countP
    show (if t.count - 1 = 0 then (4 : Int) else t.phase) ≠ s.phase
    rw [if_pos this]; omega
  · left
    show (0 : Int) ≠ s.phase; omega
/-- the phase in the minor cycles before the last one -/
theorem until_law : ∀ (k : Nat) {s : Pu}, ValidP s → s.why = 0 → k < untilP s → (minorsP k s).phase = s.phase ∧ (minorsP k s).why = 0 ∧ untilP (minorsP k s) + k = untilP s ∧ (minorsP k s).clock = s.clock + k
  | 0, s, _, hy, _ => ⟨rfl, hy, by show untilP s + 0 = _; omega, by show s.clock = _; omega⟩
  | k + 1, s, h, hy, hk => by
    obtain ⟨w1, w2, w3, w4⟩ := wait_law h hy (by omega)
    have hv := minorP_valid h
    have hcw : (waitP s).clock = s.clock + 1 := by unfold waitP; split <;> rfl
    rw [w1] at hv
    show (minorsP k (minorP s)).phase = s.phase ∧ _ ∧ untilP (minorsP k (minorP s)) + (k + 1) = _ ∧ (minorsP k (minorP s)).clock = _
    rw [show minorsP (k + 1) s = minorsP k (minorP s) from rfl, w1]
    obtain ⟨r1, r2, r3, r4⟩ := until_law k hv w3 (by omega)
    exact ⟨r1.trans w2, r2, by omega, by rw [r4, hcw]; omega⟩
theorem until_end {s : Pu} (h : ValidP s) (hy : s.why = 0) : (minorsP (untilP s) s).phase ≠ s.phase ∨ (minorsP (untilP s) s).why ≠ 0 := by
  have hb := untilP_bd h
  obtain ⟨r1, r2, r3, _⟩ := until_law (untilP s - 1) h hy (by omega)
  have e : minorsP (untilP s) s = minorP (minorsP (untilP s - 1) s) := by
    rw [← minorsP_snoc' (untilP s - 1) s, show untilP s - 1 + 1 = untilP s by omega]
  rw [e, ← r1]
  exact last_law (minorsP_valid _ h) r2 (by omega)
end Go.Q
/- Layer 5 in plain Lean, on: pulses: a state of pulses, a beat. -/
namespace Go.Q
/-- the machine between two beats; the words of `now` are not looked at -/
structure PuB where
  lines : List (List Bool)
  now : Pu
  beat : Int
  carry : Int
  sum : Int
/-- the word whose bits are f 0, f 1, .. (n of them) -/
def wordOf (f : Nat → Bool) : Nat → Int
  | 0 => 0
  | n + 1 => wordOf f n + (if f n then 2 ^ n else 0)
theorem two_pow_cast (n : Nat) : ((2 ^ n : Nat) : Int) = 2 ^ n := by simp
theorem wordOf_bd (f : Nat → Bool) : ∀ n, 0 ≤ wordOf f n ∧ wordOf f n < 2 ^ n
  | 0 => by simp [wordOf]
  | n + 1 => by
    have h := wordOf_bd f n
    have h2 := Nat.two_pow_pos n
    have e := two_pow_cast n
    have e2 : (2 : Int) ^ (n + 1) = 2 * 2 ^ n := by rw [Int.pow_succ]; omega
    unfold wordOf
    rw [e2]
    split <;> omega
theorem emod_two {x m : Int} (hm : 0 < m) : x % (m * 2) = x % m + m * (x / m % 2) := by
  have h1 := Int.emod_add_mul_ediv x m
  have h2 := Int.emod_add_mul_ediv (x / m) 2
  have h3 : x = (x % m + m * (x / m % 2)) + (m * 2) * (x / m / 2) := by
    have h4 : m * (x / m) = m * (x / m % 2) + m * 2 * (x / m / 2) := by
      rw [Int.mul_assoc, ← Int.mul_add, h2]
    omega
  have r0 := Int.emod_nonneg x (show m ≠ 0 by omega)
  have r1 := Int.emod_lt_of_pos x hm
  have hb : x / m % 2 = 0 ∨ x / m % 2 = 1 := by omega
  have h5 : x % (m * 2) = ((x % m + m * (x / m % 2)) + (m * 2) * (x / m / 2)) % (m * 2) := congrArg (· % (m * 2)) h3
  rw [h5, Int.add_mul_emod_self_left]
  rcases hb with hb | hb
  · rw [hb]; exact Int.emod_eq_of_lt (by omega) (by omega)
  · rw [hb]; exact Int.emod_eq_of_lt (by omega) (by omega)
theorem wordOf_bits {x : Int} (hx : 0 ≤ x) : ∀ n : Nat, wordOf (fun k => decide (bitQ x k = 1)) n = x % 2 ^ n
  | 0 => by simp [wordOf]
  | n + 1 => by
    have h2 := Nat.two_pow_pos n
    have e := two_pow_cast n
    unfold wordOf
    rw [wordOf_bits hx n]
    have e2 : (2 : Int) ^ (n + 1) = 2 ^ n * 2 := by rw [Int.pow_succ]
    have hb := bitQ_bd x n
    have h3 : x / 2 ^ n % 2 = bitQ x n := rfl
    have h4 : x % (2 ^ n * 2) = x % 2 ^ n + 2 ^ n * (x / 2 ^ n % 2) := emod_two (by omega)
    rw [e2, h4, h3]
    by_cases hq : bitQ x n = 1
    · simp [hq]
    · have : bitQ x n = 0 := by omega
      simp [this]
/-- the pulses of a line of a store -/
def lineB (st : List Int) (l : Nat) : List Bool := (List.range 384).map fun i => decide (bitQ (st[l * 16 + i / 24]?.getD 0) (i % 24) = 1)
def bitsP (s : Pu) : PuB := ⟨(List.range 8).map (lineB s.store), { s with store := [] }, 0, 0, 0⟩
/-- the words of a line -/
def wordsL (l : List Bool) : List Int := (List.range 16).map fun p => wordOf (fun k => l[p * 24 + k]?.getD false) 24
def storeB (ls : List (List Bool)) : List Int := ls.flatMap wordsL
/-- the state of words that pulses are -/
def stP (b : PuB) : Pu := { b.now with store := storeB b.lines }
def longB (b : PuB) : Bool := decide (b.lines.length = 8) && decide (b.now.store.length = 0) && b.lines.all fun l => decide (l.length = 384)
def rangeB (b : PuB) : Bool := inB b.beat 0 23 && inB b.carry 0 1 && !(decide (b.beat = 0) && decide (0 < b.carry)) && inB b.sum 0 (2 ^ b.beat.toNat - 1)
/-- the error of a state of pulses -/
def stateE (b : PuB) : Int := if longB b = false then 3 else if (checkP (stP b)).2.2 ≠ 0 then (checkP (stP b)).2.2 else if rangeB b = false then 7 else 0
def bitsE (s : Pu) : PuB × Int := if (checkP s).2.2 ≠ 0 then (⟨[], ⟨[], [], 0, [], 0, 0, 0, 0, 0, 0, 0, 0, 0, 0⟩, 0, 0, 0⟩, (checkP s).2.2) else (bitsP s, 0)
def wordsE (b : PuB) : Pu × Int := if stateE b ≠ 0 then (⟨[], [], 0, [], 0, 0, 0, 0, 0, 0, 0, 0, 0, 0⟩, stateE b) else if b.beat ≠ 0 then (⟨[], [], 0, [], 0, 0, 0, 0, 0, 0, 0, 0, 0, 0⟩, 9) else (stP b, 0)
/-- the address whose pulses go by -/
def adrB (s : Pu) : Nat := (if s.phase = 0 then s.at_ else if s.phase = 1 then (ordP s).frm else (ordP s).to).toNat
def pulseAt (b : PuB) (l i : Nat) : Bool := (b.lines[l]?.getD [])[i]?.getD false
def putB (ls : List (List Bool)) (l i : Nat) (x : Bool) : List (List Bool) := ls.set l ((ls[l]?.getD []).set i x)
def b2i (x : Bool) : Int := if x then 1 else 0
/-- what a pulse becomes, and the carry, where the word at To is replaced -/
def replB (b : PuB) (x y : Int) : Int × Int :=
  if b.now.phase = 2 ∧ (ordP b.now).op = 2 then ((x + y + b.carry) % 2, (x + y + b.carry) / 2)
  else if b.now.phase = 2 ∧ (ordP b.now).op = 3 then ((x + (1 - y) + (if b.beat = 0 then 1 else b.carry)) % 2, (x + (1 - y) + (if b.beat = 0 then 1 else b.carry)) / 2)
  else (bitQ (resP b.now 0) b.beat.toNat, b.carry)
/-- the pulses of a beat -/
def pulsesB (b : PuB) : PuB :=
  let a := adrB b.now
  let i := a % 16 * 24 + b.beat.toNat
  let x := b2i (pulseAt b (a / 16) i)
  if comesP b.now = true then
    if replP b.now = true then { b with lines := putB b.lines (a / 16) i (decide ((replB b x (bitQ b.now.operand b.beat.toNat)).1 = 1)), carry := (replB b x (bitQ b.now.operand b.beat.toNat)).2 }
    else { b with sum := b.sum + x * 2 ^ b.beat.toNat }
  else b
def multB (b : PuB) : PuB :=
  if b.now.phase = 3 ∧ b.beat % 12 = 11 then { b with now := multP b.now ((24 - 2 * b.now.count).toNat + (b.beat / 12).toNat) } else b
def stepB (b : PuB) : PuB := if b.beat + 1 = 24 then { b with now := endP (comesP b.now) b.sum b.now, beat := 0, carry := 0, sum := 0 } else { b with beat := b.beat + 1 }
/-- a beat -/
def beatP (b : PuB) : PuB :=
  if b.now.why ≠ 0 then b
  else if b.now.clock = 1000000000 then { b with now := { b.now with why := 4 } }
  else stepB (multB (pulsesB b))
def beatsP : Nat → PuB → PuB
  | 0, b => b
  | n + 1, b => beatsP n (beatP b)
theorem beatsP_snoc : ∀ (n : Nat) (b : PuB), beatsP (n + 1) b = beatP (beatsP n b)
  | 0, _ => rfl
  | n + 1, b => beatsP_snoc n (beatP b)
theorem beatsP_add (m : Nat) : ∀ (n : Nat) (b : PuB), beatsP (n + m) b = beatsP m (beatsP n b)
  | 0, b => by rw [Nat.zero_add]; rfl
  | n + 1, b => by rw [show n + 1 + m = (n + m) + 1 by omega]; exact beatsP_add m n (beatP b)
end Go.Q
/- Layer 5 in plain Lean, on: the words of the pulses of a state are the state. -/
namespace Go.Q
theorem wordOf_congr {f g : Nat → Bool} : ∀ (n : Nat), (∀ k, k < n → f k = g k) → wordOf f n = wordOf g n
  | 0, _ => rfl
  | n + 1, h => by
    unfold wordOf
    rw [wordOf_congr n (fun k hk => h k (by omega)), h n (by omega)]
theorem lineB_get (st : List Int) (l : Nat) {i : Nat} (hi : i < 384) : (lineB st l)[i]?.getD false = decide (bitQ (st[l * 16 + i / 24]?.getD 0) (i % 24) = 1) := by
  unfold lineB
  rw [List.getElem?_map, List.getElem?_range hi]
  rfl
theorem lineB_length (st : List Int) (l : Nat) : (lineB st l).length = 384 := by unfold lineB; rw [List.length_map, List.length_range]
theorem wordsL_lineB {st : List Int} (hw : ∀ x ∈ st, 0 ≤ x ∧ x ≤ 16777215) (l : Nat) : wordsL (lineB st l) = (List.range 16).map fun p => st[l * 16 + p]?.getD 0 := by
  unfold wordsL
  refine List.map_congr_left fun p hp => ?_
  have hp16 : p < 16 := List.mem_range.1 hp
  have hx : 0 ≤ st[l * 16 + p]?.getD 0 ∧ st[l * 16 + p]?.getD 0 ≤ 16777215 := by
    cases h : st[l * 16 + p]? with
    | none => simp
    | some x => exact hw x (List.mem_of_getElem? h)
  rw [wordOf_congr (g := fun k => decide (bitQ (st[l * 16 + p]?.getD 0) k = 1)) 24 (fun k hk => by
    rw [lineB_get st l (by omega)]
    rw [show (p * 24 + k) / 24 = p by omega, show (p * 24 + k) % 24 = k by omega]), wordOf_bits hx.1 24]
  have : (2 : Int) ^ 24 = 16777216 := by decide
  omega
theorem flat128 (g : Nat → Int) : ((List.range 8).flatMap fun l => (List.range 16).map fun p => g (l * 16 + p)) = (List.range 128).map g := by rfl
theorem range_get {st : List Int} (hl : st.length = 128) : ((List.range 128).map fun i => st[i]?.getD 0) = st := by
  refine List.ext_getElem (by simp [hl]) fun i h1 h2 => ?_
  simp [List.getElem?_eq_getElem h2]
theorem storeB_bits {s : Pu} (hl : s.store.length = 128) (hw : ∀ x ∈ s.store, 0 ≤ x ∧ x ≤ 16777215) : storeB (bitsP s).lines = s.store := by
  have e : storeB (bitsP s).lines = (List.range 8).flatMap fun l => wordsL (lineB s.store l) := by
    unfold storeB bitsP
    rw [List.flatMap_map]
  rw [e]
  have e2 : (fun l => wordsL (lineB s.store l)) = fun l => (List.range 16).map fun p => s.store[l * 16 + p]?.getD 0 := by
    funext l
    exact wordsL_lineB hw l
  rw [e2, flat128 (fun i => s.store[i]?.getD 0), range_get hl]
theorem stP_bits {s : Pu} (hv : ValidP s) : stP (bitsP s) = s := by
  have h := storeB_bits hv.len hv.ws
  unfold stP
  rw [h]
  rfl
theorem longB_bits (s : Pu) : longB (bitsP s) = true := by
  unfold longB bitsP
  simp [lineB_length]
theorem stateE_bits {s : Pu} (h : (checkP s).2.2 = 0) : stateE (bitsP s) = 0 := by
  have hv := valid_check h
  unfold stateE
  rw [longB_bits, stP_bits hv, if_neg (by decide), if_neg (by omega)]
  have : rangeB (bitsP s) = true := by rfl
  rw [this]
  rfl
/-- Words of Bits of a state is the state -/
theorem words_bits {s : Pu} (h : (checkP s).2.2 = 0) : wordsE (bitsP s) = (s, 0) := by
  unfold wordsE
  rw [stateE_bits h, if_neg (by decide), if_neg (by show ¬ (0 : Int) ≠ 0; decide), stP_bits (valid_check h)]
/-- what a valid state of pulses is -/
structure ValidB (b : PuB) : Prop where
  lines : b.lines.length = 8
  nostore : b.now.store = []
  len : ∀ l ∈ b.lines, l.length = 384
  st : ValidP (stP b)
  beat : 0 ≤ b.beat ∧ b.beat ≤ 23
  carry : 0 ≤ b.carry ∧ b.carry ≤ 1
  carry0 : b.beat = 0 → b.carry = 0
  sum : 0 ≤ b.sum ∧ b.sum < 2 ^ b.beat.toNat
theorem valid_state {b : PuB} (h : stateE b = 0) : ValidB b := by
  unfold stateE at h
  split at h
  · simp at h
  split at h
  · rename_i h2; exact absurd h h2
  split at h
  · simp at h
  rename_i h1 h2 h3
  have h1' : longB b = true := by simpa using h1
  have h3' : rangeB b = true := by simpa using h3
  unfold longB at h1'
  simp only [Bool.and_eq_true, decide_eq_true_eq, List.all_eq_true] at h1'
  unfold rangeB at h3'
  simp only [Bool.and_eq_true, Bool.not_eq_true', Bool.and_eq_false_iff, decide_eq_false_iff_not] at h3'
  obtain ⟨⟨⟨r1, r2⟩, r3⟩, r4⟩ := h3'
  have b1 := inB_bd r1
  have b2 := inB_bd r2
  have b4 := inB_bd r4
  refine ⟨h1'.1.1, List.length_eq_zero_iff.1 h1'.1.2, h1'.2, valid_check (by simpa using h2), b1, b2, fun e => ?_, by omega⟩
  rcases r3 with r3 | r3
  · exact absurd e r3
  · omega
end Go.Q
/- Layer 5 in plain Lean, on: the words of lines, one by one; a word from its highest bit on. -/
namespace Go.Q
theorem wordsL_length (l : List Bool) : (wordsL l).length = 16 := by unfold wordsL; rw [List.length_map, List.length_range]
theorem wordsL_get (l : List Bool) {p : Nat} (hp : p < 16) : (wordsL l)[p]?.getD 0 = wordOf (fun k => l[p * 24 + k]?.getD false) 24 := by
  unfold wordsL
  rw [List.getElem?_map, List.getElem?_range hp]
  rfl
theorem storeB_length : ∀ ls : List (List Bool), (storeB ls).length = 16 * ls.length
  | [] => rfl
  | l :: ls => by
    have := storeB_length ls
    unfold storeB at *
    rw [List.flatMap_cons, List.length_append, wordsL_length, this, List.length_cons]
    omega
theorem storeB_get : ∀ (ls : List (List Bool)) (l p : Nat), l < ls.length → p < 16 → (storeB ls)[16 * l + p]?.getD 0 = wordOf (fun k => (ls[l]?.getD [])[p * 24 + k]?.getD false) 24
  | [], l, p, h, _ => by simp at h
  | x :: ls, 0, p, _, hp => by
    unfold storeB
    rw [List.flatMap_cons, List.getElem?_append_left (by rw [wordsL_length]; omega), Nat.mul_zero, Nat.zero_add, wordsL_get x hp]
    rfl
  | x :: ls, l + 1, p, h, hp => by
    have ih := storeB_get ls l p (by simpa using h) hp
    have e : storeB (x :: ls) = wordsL x ++ storeB ls := by unfold storeB; rw [List.flatMap_cons]
    rw [e, List.getElem?_append_right (by rw [wordsL_length]; omega), wordsL_length, show 16 * (l + 1) + p - 16 = 16 * l + p by omega, ih]
    rfl
/-- the n highest bits of 24, as a number -/
def upOf (f : Nat → Bool) : Nat → Int
  | 0 => 0
  | n + 1 => 2 * upOf f n + (if f (23 - n) then 1 else 0)
theorem upOf_split (f : Nat → Bool) : ∀ n, n ≤ 24 → wordOf f 24 = wordOf f (24 - n) + 2 ^ (24 - n) * upOf f n
  | 0, _ => by simp [upOf]
  | n + 1, h => by
    have ih := upOf_split f n (by omega)
    have e : 24 - n = (24 - (n + 1)) + 1 := by omega
    rw [ih, e]
    have e2 : (2 : Int) ^ (24 - (n + 1) + 1) = 2 ^ (24 - (n + 1)) * 2 := by rw [Int.pow_succ]
    have e3 : 23 - n = 24 - (n + 1) := by omega
    rw [e2, show upOf f (n + 1) = 2 * upOf f n + (if f (23 - n) then 1 else 0) from rfl, e3]
    show wordOf f (24 - (n + 1)) + (if f (24 - (n + 1)) then 2 ^ (24 - (n + 1)) else 0) + _ = _
    generalize (2 : Int) ^ (24 - (n + 1)) = y
    generalize upOf f n = x
    rw [Int.mul_add, ← Int.mul_assoc]
    split <;> omega
theorem upOf_all (f : Nat → Bool) : upOf f 24 = wordOf f 24 := by
  have h := upOf_split f 24 (Nat.le_refl _)
  rw [h]
  simp [wordOf]
end Go.Q
/- Layer 5 in plain Lean, on: a word that is replaced bit by bit; adding bit by bit. -/
namespace Go.Q
/-- j low bits of r, and the others of x -/
def mixQ (r x : Int) (j : Nat) : Int := r % 2 ^ j + 2 ^ j * (x / 2 ^ j)
theorem mixQ_zero (r x : Int) : mixQ r x 0 = x := by simp [mixQ, Int.emod_one]
theorem low_bit {r : Int} {j k : Nat} (h : k < j) : bitQ (r % 2 ^ j) k = bitQ r k := by
  have e := two_pow_cast k
  have h2 := Nat.two_pow_pos k
  have hj : (2 : Int) ^ j = 2 ^ k * (2 * 2 ^ (j - k - 1)) := by
    rw [show 2 * (2 : Int) ^ (j - k - 1) = 2 ^ (j - k - 1 + 1) by rw [Int.pow_succ]; omega, ← Int.pow_add]
    congr 1; omega
  have h3 : r = r % 2 ^ j + 2 ^ k * (2 * (2 ^ (j - k - 1) * (r / 2 ^ j))) := by
    have := Int.emod_add_mul_ediv r (2 ^ j)
    have h4 : (2 : Int) ^ k * (2 * (2 ^ (j - k - 1) * (r / 2 ^ j))) = 2 ^ j * (r / 2 ^ j) := by rw [hj]; simp only [Int.mul_assoc]
    rw [h4]; omega
  have h5 : bitQ r k = bitQ (r % 2 ^ j + 2 ^ k * (2 * (2 ^ (j - k - 1) * (r / 2 ^ j)))) k := congrArg (bitQ · k) h3
  rw [h5]
  unfold bitQ
  rw [Int.add_mul_ediv_left _ _ (by omega)]
  omega
theorem high_bit {r x : Int} {j k : Nat} (h : j ≤ k) : bitQ (mixQ r x j) k = bitQ x k := by
  have e := two_pow_cast j
  have h2 := Nat.two_pow_pos j
  have e2 : (2 : Int) ^ k = 2 ^ j * 2 ^ (k - j) := by rw [← Int.pow_add]; congr 1; omega
  have h3 : mixQ r x j / 2 ^ j = x / 2 ^ j := by
    unfold mixQ
    rw [Int.add_mul_ediv_left _ _ (by omega), Int.ediv_eq_zero_of_lt (Int.emod_nonneg _ (by omega)) (Int.emod_lt_of_pos _ (by omega)), Int.zero_add]
  unfold bitQ
  have hk := Nat.two_pow_pos (k - j)
  have ek := two_pow_cast (k - j)
  rw [e2, ← Int.ediv_ediv_of_nonneg (by omega), ← Int.ediv_ediv_of_nonneg (by omega), h3]
theorem mixQ_bit {r x : Int} {j k : Nat} : bitQ (mixQ r x j) k = if k < j then bitQ r k else bitQ x k := by
  split
  · rename_i h
    have h1 := low_bit (r := mixQ r x j) h
    have h2 : mixQ r x j % 2 ^ j = r % 2 ^ j := by
      unfold mixQ
      rw [Int.add_mul_emod_self_left, Int.emod_emod]
    rw [← h1, h2, low_bit h]
  · rename_i h
    exact high_bit (by omega)
theorem mixQ_all {r x : Int} {n : Nat} (hr : 0 ≤ r ∧ r < 2 ^ n) (hx : 0 ≤ x ∧ x < 2 ^ n) : mixQ r x n = r := by
  unfold mixQ
  rw [Int.ediv_eq_zero_of_lt hx.1 hx.2, Int.emod_eq_of_lt hr.1 hr.2, Int.mul_zero, Int.add_zero]
/-- one bit more of a sum: the bit, and the carry -/
theorem add_step (x y c : Int) (j : Nat) (hc : c = (x % 2 ^ j + y % 2 ^ j) / 2 ^ j) :
    (bitQ x j + bitQ y j + c) % 2 = bitQ (x + y) j ∧ (bitQ x j + bitQ y j + c) / 2 = (x % 2 ^ (j + 1) + y % 2 ^ (j + 1)) / 2 ^ (j + 1) := by
  have h2 := Nat.two_pow_pos j
  have e := two_pow_cast j
  have ex : x % 2 ^ (j + 1) = x % 2 ^ j + 2 ^ j * bitQ x j := by rw [Int.pow_succ]; exact emod_two (by omega)
  have ey : y % 2 ^ (j + 1) = y % 2 ^ j + 2 ^ j * bitQ y j := by rw [Int.pow_succ]; exact emod_two (by omega)
  have h3 : x % 2 ^ (j + 1) + y % 2 ^ (j + 1) = (x % 2 ^ j + y % 2 ^ j) + 2 ^ j * (bitQ x j + bitQ y j) := by rw [ex, ey, Int.mul_add]; omega
  have h4 : (x % 2 ^ (j + 1) + y % 2 ^ (j + 1)) / 2 ^ (j + 1) = (c + (bitQ x j + bitQ y j)) / 2 := by
    rw [h3, Int.pow_succ, ← Int.ediv_ediv_of_nonneg (by omega), Int.add_mul_ediv_left _ _ (by omega), ← hc]
  refine ⟨?_, by rw [h4]; congr 1; omega⟩
  have hx := Int.emod_add_mul_ediv x (2 ^ j)
  have hy := Int.emod_add_mul_ediv y (2 ^ j)
  have h5 : x + y = (x % 2 ^ j + y % 2 ^ j) + 2 ^ j * (x / 2 ^ j + y / 2 ^ j) := by rw [Int.mul_add]; omega
  have h6 : (x + y) / 2 ^ j = c + (x / 2 ^ j + y / 2 ^ j) := by
    have : (x + y) / 2 ^ j = ((x % 2 ^ j + y % 2 ^ j) + 2 ^ j * (x / 2 ^ j + y / 2 ^ j)) / 2 ^ j := congrArg (· / 2 ^ j) h5
    rw [this, Int.add_mul_ediv_left _ _ (by omega), ← hc]
  unfold bitQ
  rw [h6]
  omega
end Go.Q
/- Layer 5 in plain Lean, on: the pulses of a store of which one word is another one, bit by bit. -/
namespace Go.Q
/-- what is taken in bit by bit -/
theorem sum_step (x : Int) (j : Nat) : x % 2 ^ (j + 1) = x % 2 ^ j + bitQ x j * 2 ^ j := by
  have h2 := Nat.two_pow_pos j
  have e := two_pow_cast j
  rw [Int.pow_succ, emod_two (by omega), Int.mul_comm (bitQ x j)]
  rfl
/-- a difference is a sum with the complement and a carry of 1 -/
theorem sub_bit {y : Int} (j : Nat) (hj : j ≤ 23) : 1 - bitQ y j = bitQ (16777215 - y % 16777216) j := by
  have e := two_pow_cast j
  have h2 := Nat.two_pow_pos j
  have hb : bitQ (y % 16777216) j = bitQ y j := by
    have := low_bit (r := y) (j := 24) (k := j) (by omega)
    rw [show (2 : Int) ^ 24 = 16777216 by decide] at this
    exact this
  obtain ⟨z, hz⟩ : ∃ z, z = y % 16777216 := ⟨_, rfl⟩
  rw [← hb, ← hz]
  have hz0 : 0 ≤ z ∧ z < 16777216 := by omega
  have hp : (2 : Int) ^ j * (2 * 2 ^ (23 - j)) = 16777216 := by
    rw [show 2 * (2 : Int) ^ (23 - j) = 2 ^ (23 - j + 1) by rw [Int.pow_succ]; omega, ← Int.pow_add, show j + (23 - j + 1) = 24 by omega]
    decide
  unfold bitQ
  have h3 : (16777215 - z) / 2 ^ j = 2 * 2 ^ (23 - j) - 1 - z / 2 ^ j := by
    have hz1 := Int.emod_add_mul_ediv z (2 ^ j)
    have hm0 := Int.emod_nonneg z (show (2 : Int) ^ j ≠ 0 by omega)
    have hm1 := Int.emod_lt_of_pos z (show (0 : Int) < 2 ^ j by omega)
    have h4 : 16777215 - z = (2 ^ j - 1 - z % 2 ^ j) + 2 ^ j * (2 * 2 ^ (23 - j) - 1 - z / 2 ^ j) := by
      rw [Int.mul_sub, Int.mul_sub, hp]; omega
    rw [h4, Int.add_mul_ediv_left _ _ (by omega), Int.ediv_eq_zero_of_lt (by omega) (by omega), Int.zero_add]
  rw [h3]
  omega
end Go.Q
/- Layer 5 in plain Lean, on: the pulses of lines, of which one is another one. -/
namespace Go.Q
/-- one word of the store is set: one line's pulses turn -/
theorem lineB_set (st : List Int) (a : Nat) (v : Int) (l : Nat) (ha : a < st.length) {i : Nat} (hi : i < 384) :
    (lineB (st.set a v) l)[i]?.getD false = if l * 16 + i / 24 = a then decide (bitQ v (i % 24) = 1) else (lineB st l)[i]?.getD false := by
  rw [lineB_get _ _ hi, lineB_get _ _ hi, List.getElem?_set]
  by_cases h : l * 16 + i / 24 = a
  · rw [if_pos h.symm, if_pos h, if_pos ha]; rfl
  · rw [if_neg (fun c => h c.symm), if_neg h]
theorem lineB_ext {st : List Int} {l : Nat} {x : List Bool} (hx : x.length = 384) (h : ∀ i, i < 384 → (lineB st l)[i]?.getD false = x[i]?.getD false) : lineB st l = x := by
  refine List.ext_getElem (by rw [lineB_length, hx]) fun i h1 h2 => ?_
  have := h i (by rw [← hx]; exact h2)
  rw [List.getElem?_eq_getElem h1, List.getElem?_eq_getElem h2] at this
  simpa using this
/-- the word at a has its bit j set to that of r: one pulse of one line is put -/
theorem lines_put {st : List Int} (hl : st.length = 128) (a j : Nat) (ha : a < 128) (hj : j < 24) (v v' : Int) (hv : ∀ k, k < 24 → k ≠ j → bitQ v' k = bitQ v k) :
    putB ((List.range 8).map (lineB (st.set a v))) (a / 16) (a % 16 * 24 + j) (decide (bitQ v' j = 1)) = (List.range 8).map (lineB (st.set a v')) := by
  unfold putB
  have h8 : a / 16 < 8 := by omega
  have hg : ((List.range 8).map (lineB (st.set a v)))[a / 16]?.getD [] = lineB (st.set a v) (a / 16) := by
    rw [List.getElem?_map, List.getElem?_range h8]; rfl
  rw [hg]
  refine List.ext_getElem (by simp) fun l h1 h2 => ?_
  have hl8 : l < 8 := by simpa using h2
  rw [List.getElem_set]
  simp only [List.getElem_map, List.getElem_range]
  by_cases hla : a / 16 = l
  · rw [if_pos hla]
    symm
    subst hla
    refine lineB_ext (by rw [List.length_set, lineB_length]) fun i hi => ?_
    rw [lineB_set st a v' _ (by omega) hi, List.getElem?_set, lineB_length]
    by_cases hij : a % 16 * 24 + j = i
    · rw [if_pos hij, if_pos (by omega), if_pos (by omega)]
      subst hij
      rw [show (a % 16 * 24 + j) % 24 = j by omega]
      rfl
    · rw [if_neg hij]
      rw [lineB_set st a v _ (by omega) hi]
      by_cases hia : a / 16 * 16 + i / 24 = a
      · rw [if_pos hia, if_pos hia, hv (i % 24) (by omega) (by omega)]
      · rw [if_neg hia, if_neg hia]
  · rw [if_neg hla]
    refine lineB_ext (lineB_length _ _) fun i hi => ?_
    rw [lineB_set st a v _ (by omega) hi, lineB_set st a v' _ (by omega) hi, if_neg (by omega), if_neg (by omega)]
end Go.Q
/- Layer 4 in plain Lean: a run that has ended stays; runs one after the other are one run; what a run leaves. -/
namespace Go.Q
theorem idxQ_none {p : Int → Bool} {xs : List Int} (h : ∀ x ∈ xs, p x = false) : ¬ 0 ≤ idxQ p xs := by
  have e := idxQ_nonneg p xs
  have : xs.any p = false := List.any_eq_false.2 (fun x hx => by simp [h x hx])
  rw [this] at e
  exact of_decide_eq_false e
theorem check_of_valid {s : St} (h : Valid s) : checkQ s = (0, 0, 0) := by
  have bw : ∀ {xs : List Int}, (∀ x ∈ xs, 0 ≤ x ∧ x ≤ 16777215) → ¬ 0 ≤ idxQ badW xs := fun hx => idxQ_none (fun x hm => by
    have := hx x hm
    simp only [badW, wordB, inB, Bool.not_eq_false', Bool.and_eq_true, decide_eq_true_eq]
    exact this)
  have hl : lensB s = true := by
    simp only [lensB, Bool.and_eq_true, beq_iff_eq, decide_eq_true_eq]
    exact ⟨⟨h.len, h.tlen⟩, h.plen⟩
  have hf : fieldsB s = true := by
    simp only [fieldsB, addrB, inB, Bool.and_eq_true, decide_eq_true_eq]
    exact ⟨⟨⟨⟨h.taken, h.time⟩, h.at_⟩, h.done⟩, h.why⟩
  unfold checkQ
  rw [if_neg (by simp [hl]), if_neg (bw h.ws), if_neg (bw h.wt), if_neg (bw h.wp), if_neg (by simp [hf]), if_neg (by simpa using h.place)]
end Go.Q
/- Layer 5 in plain Lean, on: a valid state is accepted; a valid state of pulses stays valid in a beat. -/
namespace Go.Q
theorem inB_ofBd {n lo hi : Int} (h : lo ≤ n ∧ n ≤ hi) : inB n lo hi = true := by simpa [inB] using h
theorem checkP_valid {s : Pu} (h : ValidP s) : checkP s = (0, 0, 0) := by
  have hV : Valid (base4 s) := ⟨h.len, h.tlen, h.plen, h.ws, h.wt, h.wp, by show (0 : Int) ≤ 0 ∧ (0 : Int) ≤ (s.tape.length : Int); omega, (by decide : (0 : Int) ≤ 0 ∧ (0 : Int) ≤ 1000000000), (by decide : (0 : Int) ≤ 0 ∧ (0 : Int) ≤ 127), (by decide : (0 : Int) ≤ 0 ∧ (0 : Int) ≤ 0), (by decide : (0 : Int) ≤ 0 ∧ (0 : Int) ≤ 4), rfl⟩
  have hc := check_of_valid hV
  have hf : fieldsP s = true := by
    simp only [fieldsP, wordB, Bool.and_eq_true]
    exact ⟨⟨⟨⟨⟨⟨⟨⟨⟨⟨inB_ofBd h.taken, inB_ofBd h.clock⟩, inB_ofBd h.at_⟩, inB_ofBd h.phase⟩, inB_ofBd h.order⟩, inB_ofBd h.operand⟩, inB_ofBd h.other⟩, inB_ofBd h.product⟩, inB_ofBd h.done⟩, inB_ofBd h.why⟩, inB_ofBd h.count⟩
  have hn : cntB s = true := by
    have := h.cnt
    unfold cntB
    rw [beq_iff_eq, decide_eq_decide]
    exact this
  unfold checkP
  rw [hc, if_neg (by decide), if_neg (by rw [hf]; decide), if_neg (by rw [hn, h.fits]; simp)]
theorem fetch_store (s : Pu) (w : Int) (st : List Int) : fetchP { s with store := st } w = { fetchP s w with store := st } := by
  unfold fetchP
  have e : whyP { s with store := st } (decodeQ w) = whyP s (decodeQ w) := rfl
  rw [e]
  split <;> rfl
theorem from_store (s : Pu) (w : Int) (st : List Int) : fromP { s with store := st } w = { fromP s w with store := st } := by
  unfold fromP
  have e : ordP { s with store := st } = ordP s := rfl
  rw [e]
  split
  · rfl
  split <;> rfl
theorem to_store (s : Pu) (w : Int) (st : List Int) : toP { s with store := st } w = { toP s w with store := st } := by
  unfold toP
  have e : ordP { s with store := st } = ordP s := rfl
  rw [e]
  split
  · rfl
  split <;> rfl
theorem came_st (s : Pu) (w : Int) (st : List Int) : cameP { s with store := st } w = { cameP s w with store := st } := by
  unfold cameP
  show (if s.phase = 0 then _ else if s.phase = 1 then _ else if s.phase = 2 then _ else if s.phase = 3 then _ else _) = _
  split
  · exact fetch_store s w st
  split
  · exact from_store s w st
  split
  · exact to_store s w st
  split <;> rfl
theorem tick_store (s : Pu) (st : List Int) : tickP { s with store := st } = { tickP s with store := st } := by
  unfold tickP
  show (if s.why = 0 then _ else _) = _
  split <;> rfl
theorem end_st (c : Bool) (w : Int) (s : Pu) (st : List Int) : endP c w { s with store := st } = { endP c w s with store := st } := by
  unfold endP
  show tickP (if c = true ∨ s.phase = 3 then _ else _) = _
  split
  · rw [came_st, tick_store]
  · rw [tick_store]
theorem end_st_same (c : Bool) (w : Int) (s : Pu) : (endP c w s).store = s.store := by
  have h := end_st c w s s.store
  have e : { s with store := s.store } = s := rfl
  rw [e] at h
  rw [h]
theorem ValidP.restore {s : Pu} (h : ValidP s) {st : List Int} (hl : st.length = 128) (hw : ∀ x ∈ st, 0 ≤ x ∧ x ≤ 16777215) : ValidP { s with store := st } :=
  { h with len := hl, ws := hw, fits := h.fits }
theorem storeB_bd (ls : List (List Bool)) : ∀ x ∈ storeB ls, 0 ≤ x ∧ x ≤ 16777215 := by
  intro x hx
  unfold storeB at hx
  obtain ⟨l, _, h2⟩ := List.mem_flatMap.1 hx
  unfold wordsL at h2
  obtain ⟨p, _, rfl⟩ := List.mem_map.1 h2
  have h := wordOf_bd (fun k => l[p * 24 + k]?.getD false) 24
  rw [show (2 : Int) ^ 24 = 16777216 by decide] at h
  omega
theorem putB_length (ls : List (List Bool)) (l i : Nat) (x : Bool) : (putB ls l i x).length = ls.length := by simp [putB]
theorem putB_len {ls : List (List Bool)} (h : ∀ l ∈ ls, l.length = 384) {l : Nat} (hl : l < ls.length) (i : Nat) (x : Bool) : ∀ m ∈ putB ls l i x, m.length = 384 := by
  intro m hm
  unfold putB at hm
  rcases List.mem_or_eq_of_mem_set hm with h1 | rfl
  · exact h m h1
  · rw [List.length_set, List.getElem?_eq_getElem hl]
    exact h _ (List.getElem_mem hl)
theorem b2i_bd (x : Bool) : 0 ≤ b2i x ∧ b2i x ≤ 1 := by cases x <;> decide
theorem replB_bd {b : PuB} {x y : Int} (hx : 0 ≤ x ∧ x ≤ 1) (hy : 0 ≤ y ∧ y ≤ 1) (hc : 0 ≤ b.carry ∧ b.carry ≤ 1) : (0 ≤ (replB b x y).1 ∧ (replB b x y).1 ≤ 1) ∧ 0 ≤ (replB b x y).2 ∧ (replB b x y).2 ≤ 1 := by
  unfold replB
  split
  · show (0 ≤ (x + y + b.carry) % 2 ∧ (x + y + b.carry) % 2 ≤ 1) ∧ 0 ≤ (x + y + b.carry) / 2 ∧ (x + y + b.carry) / 2 ≤ 1
    omega
  split
  · show (0 ≤ (x + (1 - y) + (if b.beat = 0 then 1 else b.carry)) % 2 ∧ (x + (1 - y) + (if b.beat = 0 then 1 else b.carry)) % 2 ≤ 1) ∧ 0 ≤ (x + (1 - y) + (if b.beat = 0 then 1 else b.carry)) / 2 ∧ (x + (1 - y) + (if b.beat = 0 then 1 else b.carry)) / 2 ≤ 1
    split <;> omega
  · exact ⟨bitQ_bd _ _, hc⟩
theorem adrB_of {s : Pu} (hc : comesP s = true) : (adrB s : Int) = addrP s := by
  unfold comesP at hc
  simp only [Bool.and_eq_true, decide_eq_true_eq] at hc
  have h := hc.1
  unfold adrB
  unfold addrP at h ⊢
  by_cases h0 : s.phase = 0
  · rw [if_pos h0] at h ⊢; rw [if_pos h0]; omega
  · rw [if_neg h0] at h ⊢; rw [if_neg h0]
    by_cases h1 : s.phase = 1
    · rw [if_pos h1] at h ⊢; rw [if_pos h1]; omega
    · rw [if_neg h1] at h ⊢; rw [if_neg h1]
      by_cases h3 : s.phase = 3
      · rw [if_pos h3] at h; omega
      · rw [if_neg h3] at h ⊢; omega
/-- what a beat leaves of its pulses -/
theorem pulsesB_law {b : PuB} (h : ValidB b) : (pulsesB b).now = b.now ∧ (pulsesB b).beat = b.beat ∧ (pulsesB b).lines.length = 8 ∧ (∀ l ∈ (pulsesB b).lines, l.length = 384) ∧ (0 ≤ (pulsesB b).carry ∧ (pulsesB b).carry ≤ 1) ∧ 0 ≤ (pulsesB b).sum ∧ (pulsesB b).sum < 2 ^ (b.beat.toNat + 1) := by
  have hs := h.sum
  have h2 := Nat.two_pow_pos b.beat.toNat
  have e := two_pow_cast b.beat.toNat
  have e2 : (2 : Int) ^ (b.beat.toNat + 1) = 2 * 2 ^ b.beat.toNat := by rw [Int.pow_succ]; omega
  unfold pulsesB
  dsimp only
  split
  · rename_i hc
    have ha := adrB_of hc
    have hb := addrP_bd h.st
    have hb' : addrP (stP b) = addrP b.now := rfl
    rw [hb'] at hb
    have hx := b2i_bd (pulseAt b (adrB b.now / 16) (adrB b.now % 16 * 24 + b.beat.toNat))
    split
    · have hr := replB_bd hx (bitQ_bd b.now.operand b.beat.toNat) h.carry
      exact ⟨rfl, rfl, by rw [putB_length]; exact h.lines, putB_len h.len (by rw [h.lines]; omega) _ _, hr.2, hs.1, by rw [e2]; show b.sum < _; omega⟩
    · refine ⟨rfl, rfl, h.lines, h.len, h.carry, ?_⟩
      show 0 ≤ b.sum + b2i (pulseAt b (adrB b.now / 16) (adrB b.now % 16 * 24 + b.beat.toNat)) * 2 ^ b.beat.toNat ∧ b.sum + b2i (pulseAt b (adrB b.now / 16) (adrB b.now % 16 * 24 + b.beat.toNat)) * 2 ^ b.beat.toNat < 2 ^ (b.beat.toNat + 1)
      rw [e2]
      generalize b2i (pulseAt b (adrB b.now / 16) (adrB b.now % 16 * 24 + b.beat.toNat)) = x at *
      have : x = 0 ∨ x = 1 := by omega
      rcases this with rfl | rfl <;> omega
  · exact ⟨rfl, rfl, h.lines, h.len, h.carry, hs.1, by rw [e2]; omega⟩
theorem multB_same (b : PuB) : (multB b).lines = b.lines ∧ (multB b).beat = b.beat ∧ (multB b).carry = b.carry ∧ (multB b).sum = b.sum ∧ (multB b).now.why = b.now.why ∧ (multB b).now.clock = b.now.clock ∧ (multB b).now.store = b.now.store := by
  unfold multB
  split <;> exact ⟨rfl, rfl, rfl, rfl, rfl, rfl, rfl⟩
theorem multB_valid {b : PuB} {st : List Int} (h : ValidP { b.now with store := st }) : ValidP { (multB b).now with store := st } := by
  unfold multB
  split
  · exact multP_valid h _
  · exact h
theorem beatP_valid {b : PuB} (h : ValidB b) : ValidB (beatP b) := by
  unfold beatP
  split
  · exact h
  split
  · exact { h with st := { h.st with why := (by decide : (0 : Int) ≤ 4 ∧ (4 : Int) ≤ 4), fits := h.st.fits } }
  rename_i hy hc
  have hy' : b.now.why = 0 := by omega
  obtain ⟨p1, p2, p3, p4, p5, p6, p7⟩ := pulsesB_law h
  obtain ⟨m1, m2, m3, m4, m5, m6, m7⟩ := multB_same (pulsesB b)
  have hbt := h.beat
  have hst : ∀ ls : List (List Bool), ls.length = 8 → ValidP { (multB (pulsesB b)).now with store := storeB ls } := fun ls hls => by
    refine multB_valid ?_
    rw [p1]
    exact (h.st.restore (st := storeB ls) (by rw [storeB_length, hls]) (storeB_bd ls))
  have hno : (multB (pulsesB b)).now.store = [] := by rw [m7, p1]; exact h.nostore
  unfold stepB
  split
  · rename_i h24
    have h23 : b.beat = 23 := by rw [m2, p2] at h24; omega
    refine ⟨by rw [← m1] at p3; exact p3, ?_, by rw [← m1] at p4; exact p4, ?_, (by decide : (0 : Int) ≤ 0 ∧ (0 : Int) ≤ 23), (by decide : (0 : Int) ≤ 0 ∧ (0 : Int) ≤ 1), fun _ => rfl, (by decide : (0 : Int) ≤ 0 ∧ (0 : Int) < 2 ^ ((0 : Int)).toNat)⟩
    · show (endP _ _ _).store = []
      rw [end_st_same]; exact hno
    · show ValidP { endP (comesP (multB (pulsesB b)).now) (multB (pulsesB b)).sum (multB (pulsesB b)).now with store := storeB (multB (pulsesB b)).lines }
      rw [← end_st]
      rw [h23] at p7
      have e : (2 : Int) ^ ((23 : Int).toNat + 1) = 16777216 := by decide
      rw [e] at p7
      refine endP_valid (hst _ (by rw [m1]; exact p3)) ?_ ?_ _ (by rw [m4]; omega)
      · show (multB (pulsesB b)).now.why = 0
        rw [m5, p1]; exact hy'
      · show (multB (pulsesB b)).now.clock ≠ 1000000000
        rw [m6, p1]; exact hc
  · rename_i h24
    rw [m2, p2] at h24
    refine ⟨by rw [← m1] at p3; exact p3, hno, by rw [← m1] at p4; exact p4, hst _ (by rw [m1]; exact p3), ?_, ?_, ?_, ?_⟩
    · show 0 ≤ (multB (pulsesB b)).beat + 1 ∧ (multB (pulsesB b)).beat + 1 ≤ 23
      rw [m2, p2]; omega
    · show 0 ≤ (multB (pulsesB b)).carry ∧ (multB (pulsesB b)).carry ≤ 1
      rw [m3]; exact p5
    · show (multB (pulsesB b)).beat + 1 = 0 → _
      rw [m2, p2]; omega
    · show 0 ≤ (multB (pulsesB b)).sum ∧ (multB (pulsesB b)).sum < 2 ^ ((multB (pulsesB b)).beat + 1).toNat
      rw [m4, m2, p2, show (b.beat + 1).toNat = b.beat.toNat + 1 by omega]
      exact ⟨p6, p7⟩
theorem beatsP_valid : ∀ (n : Nat) {b : PuB}, ValidB b → ValidB (beatsP n b)
  | 0, _, h => h
  | n + 1, _, h => beatsP_valid n (beatP_valid h)
theorem stateE_valid {b : PuB} (h : ValidB b) : stateE b = 0 := by
  have hl : longB b = true := by
    unfold longB
    simp only [Bool.and_eq_true, decide_eq_true_eq, List.all_eq_true]
    exact ⟨⟨h.lines, by rw [h.nostore]; rfl⟩, h.len⟩
  have hr : rangeB b = true := by
    unfold rangeB
    simp only [Bool.and_eq_true, Bool.not_eq_true', Bool.and_eq_false_iff, decide_eq_false_iff_not]
    have h1 := h.carry
    have h2 := h.carry0
    have h3 := h.sum
    exact ⟨⟨⟨inB_ofBd h.beat, inB_ofBd h.carry⟩, by omega⟩, inB_ofBd (by omega)⟩
  unfold stateE
  rw [if_neg (by rw [hl]; decide), checkP_valid h.st, if_neg (by decide), if_neg (by rw [hr]; decide)]
theorem bits_valid {s : Pu} (h : ValidP s) : ValidB (bitsP s) := by
  refine valid_state (stateE_bits ?_)
  rw [checkP_valid h]
end Go.Q
/- Layer 5 in plain Lean, on: 24 beats are a minor cycle. -/
namespace Go.Q
/-- one bit more of a sum with a carry from the start: the bit, and the carry -/
theorem add_stepc (x y ci c : Int) (j : Nat) (hc : c = (x % 2 ^ j + y % 2 ^ j + ci) / 2 ^ j) :
    (bitQ x j + bitQ y j + c) % 2 = bitQ (x + y + ci) j ∧ (bitQ x j + bitQ y j + c) / 2 = (x % 2 ^ (j + 1) + y % 2 ^ (j + 1) + ci) / 2 ^ (j + 1) := by
  have h2 := Nat.two_pow_pos j
  have e := two_pow_cast j
  have ex : x % 2 ^ (j + 1) = x % 2 ^ j + 2 ^ j * bitQ x j := by rw [Int.pow_succ]; exact emod_two (by omega)
  have ey : y % 2 ^ (j + 1) = y % 2 ^ j + 2 ^ j * bitQ y j := by rw [Int.pow_succ]; exact emod_two (by omega)
  have h3 : x % 2 ^ (j + 1) + y % 2 ^ (j + 1) + ci = (x % 2 ^ j + y % 2 ^ j + ci) + 2 ^ j * (bitQ x j + bitQ y j) := by rw [ex, ey, Int.mul_add]; omega
  have h4 : (x % 2 ^ (j + 1) + y % 2 ^ (j + 1) + ci) / 2 ^ (j + 1) = (c + (bitQ x j + bitQ y j)) / 2 := by
    rw [h3, Int.pow_succ, ← Int.ediv_ediv_of_nonneg (by omega), Int.add_mul_ediv_left _ _ (by omega), ← hc]
  refine ⟨?_, by rw [h4]; congr 1; omega⟩
  have hx := Int.emod_add_mul_ediv x (2 ^ j)
  have hy := Int.emod_add_mul_ediv y (2 ^ j)
  have h5 : x + y + ci = (x % 2 ^ j + y % 2 ^ j + ci) + 2 ^ j * (x / 2 ^ j + y / 2 ^ j) := by rw [Int.mul_add]; omega
  have h6 : (x + y + ci) / 2 ^ j = c + (x / 2 ^ j + y / 2 ^ j) := by
    have : (x + y + ci) / 2 ^ j = ((x % 2 ^ j + y % 2 ^ j + ci) + 2 ^ j * (x / 2 ^ j + y / 2 ^ j)) / 2 ^ j := congrArg (· / 2 ^ j) h5
    rw [this, Int.add_mul_ediv_left _ _ (by omega), ← hc]
  unfold bitQ
  rw [h6]
  omega
def rrP (s : Pu) : Bool := comesP s && replP s
/-- the word at the address for which the machine waits -/
def wrd (s : Pu) : Int := s.store[(addrP s).toNat]?.getD 0
/-- the machine after j beats of a minor cycle -/
def midL (s : Pu) (j : Nat) : List (List Bool) :=
  if rrP s = true then (List.range 8).map (lineB (s.store.set (addrP s).toNat (mixQ (resP s (wrd s)) (wrd s) j))) else (List.range 8).map (lineB s.store)
def midC (s : Pu) (j : Nat) : Int :=
  if rrP s = true ∧ s.phase = 2 ∧ (ordP s).op = 2 then (wrd s % 2 ^ j + s.operand % 2 ^ j) / 2 ^ j
  else if rrP s = true ∧ s.phase = 2 ∧ (ordP s).op = 3 ∧ j ≠ 0 then (wrd s % 2 ^ j + (16777215 - s.operand) % 2 ^ j + 1) / 2 ^ j
  else 0
def midS (s : Pu) (j : Nat) : Int := if comesP s = true ∧ replP s = false then wrd s % 2 ^ j else 0
def midN (s : Pu) (j : Nat) : Pu := if s.phase = 3 ∧ 12 ≤ j then multP s (24 - 2 * s.count).toNat else s
def midB (s : Pu) (j : Nat) : PuB := ⟨midL s j, { midN s j with store := [] }, j, midC s j, midS s j⟩
theorem comes_phase {s : Pu} (h : ValidP s) (hc : comesP s = true) : s.phase ≠ 3 ∧ (addrP s).toNat < 128 ∧ 0 ≤ addrP s := by
  have hb := addrP_bd h
  unfold comesP at hc
  simp only [Bool.and_eq_true, decide_eq_true_eq] at hc
  omega
theorem line_pulse {st : List Int} {a j : Nat} (ha : a < 128) (hj : j < 24) : (((List.range 8).map (lineB st))[a / 16]?.getD [])[a % 16 * 24 + j]?.getD false = decide (bitQ (st[a]?.getD 0) j = 1) := by
  rw [List.getElem?_map, List.getElem?_range (by omega)]
  show (lineB st (a / 16))[a % 16 * 24 + j]?.getD false = _
  rw [lineB_get _ _ (by omega), show a / 16 * 16 + (a % 16 * 24 + j) / 24 = a by omega, show (a % 16 * 24 + j) % 24 = j by omega]
theorem b2i_bit (x : Int) (j : Nat) : b2i (decide (bitQ x j = 1)) = bitQ x j := by
  have := bitQ_bd x j
  unfold b2i
  by_cases h : bitQ x j = 1
  · rw [h]; rfl
  · have : bitQ x j = 0 := by omega
    rw [this]; rfl
theorem bitQ_mod {x : Int} {j : Nat} (hj : j < 24) : bitQ (x % 16777216) j = bitQ x j := by
  have := low_bit (r := x) (j := 24) (k := j) hj
  rwa [show (2 : Int) ^ 24 = 16777216 by decide] at this
theorem repl_law {s : Pu} (h : ValidP s) (hr : rrP s = true) {j : Nat} (hj : j < 24) {ls : List (List Bool)} {sm : Int} :
    replB ⟨ls, { s with store := [] }, j, midC s j, sm⟩ (bitQ (wrd s) j) (bitQ s.operand j) = (bitQ (resP s (wrd s)) j, midC s (j + 1)) := by
  have hop := h.operand
  have hrr := hr
  unfold rrP at hrr
  rw [Bool.and_eq_true] at hrr
  have hrep := hrr.2
  unfold replP at hrep
  simp only [Bool.or_eq_true, Bool.and_eq_true, decide_eq_true_eq] at hrep
  unfold replB
  show (if s.phase = 2 ∧ (ordP s).op = 2 then _ else if s.phase = 2 ∧ (ordP s).op = 3 then _ else _) = _
  by_cases h2 : s.phase = 2 ∧ (ordP s).op = 2
  · rw [if_pos h2]
    have hm : ∀ j, midC s j = (wrd s % 2 ^ j + s.operand % 2 ^ j) / 2 ^ j := fun j => by unfold midC; rw [if_pos ⟨hr, h2⟩]
    have hs := add_step (wrd s) s.operand (midC s j) j (hm j)
    have hres : resP s (wrd s) = (wrd s + s.operand) % 16777216 := by
      unfold resP; rw [if_neg (by omega), if_pos h2.2]
    rw [hres, bitQ_mod hj, hm (j + 1), ← hs.1, ← hs.2]
  rw [if_neg h2]
  by_cases h3 : s.phase = 2 ∧ (ordP s).op = 3
  · rw [if_pos h3]
    have hc : (if (j : Int) = 0 then 1 else midC s j) = (wrd s % 2 ^ j + (16777215 - s.operand) % 2 ^ j + 1) / 2 ^ j := by
      by_cases hj0 : j = 0
      · subst hj0; simp [Int.emod_one]
      · rw [if_neg (by omega)]
        unfold midC
        rw [if_neg (fun c => h2 c.2), if_pos ⟨hr, h3.1, h3.2, hj0⟩]
    have hm : midC s (j + 1) = (wrd s % 2 ^ (j + 1) + (16777215 - s.operand) % 2 ^ (j + 1) + 1) / 2 ^ (j + 1) := by
      unfold midC
      rw [if_neg (fun c => h2 c.2), if_pos ⟨hr, h3.1, h3.2, by omega⟩]
    have hs := add_stepc (wrd s) (16777215 - s.operand) 1 _ j hc
    have hy : 1 - bitQ s.operand j = bitQ (16777215 - s.operand) j := by
      have := sub_bit (y := s.operand) j (by omega)
      rwa [show s.operand % 16777216 = s.operand by omega] at this
    have hres : resP s (wrd s) = (wrd s - s.operand) % 16777216 := by
      unfold resP; rw [if_neg (by omega), if_neg (by omega), if_pos h3.2]
    have hb : bitQ (wrd s + (16777215 - s.operand) + 1) j = bitQ (resP s (wrd s)) j := by
      rw [hres, ← bitQ_mod (x := wrd s + (16777215 - s.operand) + 1) hj]
      congr 1
      omega
    show ((bitQ (wrd s) j + (1 - bitQ s.operand j) + (if (j : Int) = 0 then 1 else midC s j)) % 2, (bitQ (wrd s) j + (1 - bitQ s.operand j) + (if (j : Int) = 0 then 1 else midC s j)) / 2) = _
    rw [hy, hm, ← hs.2, ← hb, ← hs.1]
  rw [if_neg h3]
  have hm : ∀ j, midC s j = 0 := fun j => by unfold midC; rw [if_neg (fun c => h2 c.2), if_neg (fun c => h3 ⟨c.2.1, c.2.2.1⟩)]
  rw [hm, hm]
  have hres : resP s (wrd s) = resP s 0 := by
    unfold resP
    by_cases h4 : s.phase = 4
    · rw [if_pos h4, if_pos h4]
    · have n2 : ¬ (ordP s).op = 2 := fun c => h2 ⟨by omega, c⟩
      have n3 : ¬ (ordP s).op = 3 := fun c => h3 ⟨by omega, c⟩
      simp only [if_neg h4, if_neg n2, if_neg n3]
  rw [hres]
  show (bitQ (resP s 0) (j : Int).toNat, (0 : Int)) = _
  rw [Int.toNat_natCast]
theorem mid_pulses {s : Pu} (h : ValidP s) {j : Nat} (hj : j < 24) : pulsesB (midB s j) = { midB s j with lines := midL s (j + 1), carry := midC s (j + 1), sum := midS s (j + 1) } := by
  by_cases hc : comesP s = true
  · obtain ⟨hp3, ha, ha0⟩ := comes_phase h hc
    have hN : midN s j = s := by unfold midN; rw [if_neg (fun c => hp3 c.1)]
    have hadr : adrB s = (addrP s).toNat := by have := adrB_of hc; omega
    have hx := h.word _ ha
    unfold midB
    rw [hN]
    unfold pulsesB
    have e1 : comesP { s with store := [] } = comesP s := rfl
    have e2 : replP { s with store := [] } = replP s := rfl
    have e3 : adrB { s with store := [] } = (addrP s).toNat := hadr
    dsimp only
    rw [e1, if_pos hc, e2, e3, Int.toNat_natCast]
    have hl := h.len
    by_cases hr : replP s = true
    · have hrr : rrP s = true := by unfold rrP; rw [hc, hr]; rfl
      have hL : ∀ j, midL s j = (List.range 8).map (lineB (s.store.set (addrP s).toNat (mixQ (resP s (wrd s)) (wrd s) j))) := fun j => by unfold midL; rw [if_pos hrr]
      have hS : ∀ j, midS s j = 0 := fun j => by unfold midS; rw [if_neg (fun c => by rw [hr] at c; exact absurd c.2 (by decide))]
      have hpu : b2i (pulseAt ⟨midL s j, { s with store := [] }, j, midC s j, midS s j⟩ ((addrP s).toNat / 16) ((addrP s).toNat % 16 * 24 + j)) = bitQ (wrd s) j := by
        unfold pulseAt
        show b2i (((midL s j)[(addrP s).toNat / 16]?.getD [])[(addrP s).toNat % 16 * 24 + j]?.getD false) = _
        rw [hL j, line_pulse ha hj, b2i_bit, List.getElem?_set_self (by omega)]
        show bitQ (mixQ (resP s (wrd s)) (wrd s) j) j = _
        rw [mixQ_bit, if_neg (by omega)]
      rw [if_pos hr, hpu, repl_law h hrr hj]
      dsimp only
      have hput := lines_put hl (addrP s).toNat j ha hj (mixQ (resP s (wrd s)) (wrd s) j) (mixQ (resP s (wrd s)) (wrd s) (j + 1)) (fun k hk hkj => by
        rw [mixQ_bit, mixQ_bit]
        by_cases hlt : k < j
        · rw [if_pos hlt, if_pos (by omega)]
        · rw [if_neg hlt, if_neg (by omega)])
      rw [mixQ_bit, if_pos (by omega), ← hL j, ← hL (j + 1)] at hput
      rw [hput, hS, hS]
    · have hr' : replP s = false := by simpa using hr
      have hrr : rrP s = false := by unfold rrP; rw [hr']; simp
      have hL : ∀ j, midL s j = (List.range 8).map (lineB s.store) := fun j => by unfold midL; rw [if_neg (by rw [hrr]; decide)]
      have hC : ∀ j, midC s j = 0 := fun j => by unfold midC; rw [if_neg (by rw [hrr]; exact fun c => absurd c.1 (by decide)), if_neg (by rw [hrr]; exact fun c => absurd c.1 (by decide))]
      have hS : ∀ j, midS s j = wrd s % 2 ^ j := fun j => by unfold midS; rw [if_pos ⟨hc, hr'⟩]
      have hpu : b2i (pulseAt ⟨midL s j, { s with store := [] }, j, midC s j, midS s j⟩ ((addrP s).toNat / 16) ((addrP s).toNat % 16 * 24 + j)) = bitQ (wrd s) j := by
        unfold pulseAt
        show b2i (((midL s j)[(addrP s).toNat / 16]?.getD [])[(addrP s).toNat % 16 * 24 + j]?.getD false) = _
        rw [hL j, line_pulse ha hj, b2i_bit]
        rfl
      rw [if_neg hr, hpu, hS (j + 1), sum_step, ← hS j, hL (j + 1), ← hL j, hC (j + 1), ← hC j]
  · have hc' : comesP s = false := by simpa using hc
    have hrr : rrP s = false := by unfold rrP; rw [hc']; rfl
    have e1 : comesP (midB s j).now = false := by
      have : comesP (midB s j).now = comesP s := by
        unfold midB midN
        split <;> rfl
      rw [this]; exact hc'
    have hL : ∀ j, midL s j = (List.range 8).map (lineB s.store) := fun j => by unfold midL; rw [if_neg (by rw [hrr]; decide)]
    have hC : ∀ j, midC s j = 0 := fun j => by unfold midC; rw [if_neg (by rw [hrr]; exact fun c => absurd c.1 (by decide)), if_neg (by rw [hrr]; exact fun c => absurd c.1 (by decide))]
    have hS : ∀ j, midS s j = 0 := fun j => by unfold midS; rw [if_neg (fun c => hc c.1)]
    unfold pulsesB
    dsimp only
    rw [e1, if_neg (by decide)]
    unfold midB
    rw [hL, hL, hC, hC, hS, hS]
theorem mults_store (s : Pu) (st : List Int) : multsP { s with store := st } = { multsP s with store := st } := by
  unfold multsP
  show (if s.phase = 3 then _ else _) = _
  split <;> rfl
theorem mid_mult {s : Pu} {j : Nat} (hj : j < 23) (ls : List (List Bool)) (c sm : Int) : multB ⟨ls, { midN s j with store := [] }, j, c, sm⟩ = ⟨ls, { midN s (j + 1) with store := [] }, j, c, sm⟩ := by
  unfold multB
  dsimp only
  have hph : (midN s j).phase = s.phase := by unfold midN; split <;> rfl
  by_cases h3 : s.phase = 3
  · by_cases h11 : j = 11
    · subst h11
      have e : midN s 11 = s := by unfold midN; rw [if_neg (by omega)]
      have e2 : midN s (11 + 1) = multP s (24 - 2 * s.count).toNat := by unfold midN; rw [if_pos ⟨h3, by omega⟩]
      rw [e, e2, if_pos ⟨h3, by decide⟩]
      rfl
    · rw [if_neg (fun c => by omega)]
      have : midN s (j + 1) = midN s j := by
        unfold midN
        by_cases h12 : 12 ≤ j
        · rw [if_pos ⟨h3, by omega⟩, if_pos ⟨h3, h12⟩]
        · rw [if_neg (by omega), if_neg (by omega)]
      rw [this]
  · rw [if_neg (fun c => h3 (hph ▸ c.1))]
    have : midN s (j + 1) = midN s j := by unfold midN; rw [if_neg (fun c => h3 c.1), if_neg (fun c => h3 c.1)]
    rw [this]
theorem last_mult (s : Pu) (ls : List (List Bool)) (c sm : Int) : multB ⟨ls, { midN s 23 with store := [] }, ((23 : Nat) : Int), c, sm⟩ = ⟨ls, { multsP s with store := [] }, ((23 : Nat) : Int), c, sm⟩ := by
  unfold multB
  dsimp only
  have hph : (midN s 23).phase = s.phase := by unfold midN; split <;> rfl
  by_cases h3 : s.phase = 3
  · have e : midN s 23 = multP s (24 - 2 * s.count).toNat := by unfold midN; rw [if_pos ⟨h3, by omega⟩]
    have e2 : multsP s = multP (multP s (24 - 2 * s.count).toNat) ((24 - 2 * s.count).toNat + 1) := by unfold multsP; rw [if_pos h3]
    rw [e, e2, if_pos ⟨h3, by decide⟩]
    rfl
  · rw [if_neg (fun c => h3 (hph ▸ c.1))]
    have e : midN s 23 = s := by unfold midN; rw [if_neg (fun c => h3 c.1)]
    have e2 : multsP s = s := by unfold multsP; rw [if_neg h3]
    rw [e, e2]
theorem midN_same (s : Pu) (j : Nat) : (midN s j).why = s.why ∧ (midN s j).clock = s.clock := by unfold midN; split <;> exact ⟨rfl, rfl⟩
theorem mid_step {s : Pu} (h : ValidP s) (hy : s.why = 0) (hcl : s.clock ≠ 1000000000) {j : Nat} (hj : j < 23) : beatP (midB s j) = midB s (j + 1) := by
  have hm := midN_same s j
  unfold beatP
  rw [if_neg (by show ¬ (midN s j).why ≠ 0; rw [hm.1]; omega), if_neg (by show ¬ (midN s j).clock = 1000000000; rw [hm.2]; exact hcl), mid_pulses h (by omega)]
  show stepB (multB ⟨midL s (j + 1), { midN s j with store := [] }, j, midC s (j + 1), midS s (j + 1)⟩) = _
  rw [mid_mult hj]
  unfold stepB
  dsimp only
  rw [if_neg (by omega)]
  unfold midB
  rw [show ((j + 1 : Nat) : Int) = (j : Int) + 1 by omega]
theorem mid_zero {s : Pu} (_h : ValidP s) : midB s 0 = bitsP s := by
  have hN : midN s 0 = s := by unfold midN; rw [if_neg (by omega)]
  have hL : midL s 0 = (List.range 8).map (lineB s.store) := by
    unfold midL
    split
    · rw [mixQ_zero]
      congr 2
      unfold wrd
      refine List.ext_getElem? fun i => ?_
      rw [List.getElem?_set]
      split
      · rename_i e
        subst e
        split
        · rename_i hi
          rw [List.getElem?_eq_getElem hi]; rfl
        · rename_i hi
          rw [List.getElem?_eq_none (by omega)]
      · rfl
    · rfl
  have hC : midC s 0 = 0 := by
    unfold midC
    split
    · simp [Int.emod_one]
    · rw [if_neg (by omega)]
  have hS : midS s 0 = 0 := by unfold midS; split <;> simp [Int.emod_one]
  unfold midB bitsP
  rw [hN, hL, hC, hS]
  rfl
theorem end_wd {t : Pu} (hr : replP t = true) (c : Bool) (w w' : Int) : endP c w t = endP c w' t := by
  unfold replP at hr
  simp only [Bool.or_eq_true, Bool.and_eq_true, decide_eq_true_eq] at hr
  have e : cameP t w = cameP t w' := by
    unfold cameP
    rcases hr with h4 | ⟨h2, hop⟩
    · have a0 : ¬ t.phase = 0 := by omega
      have a1 : ¬ t.phase = 1 := by omega
      have a2 : ¬ t.phase = 2 := by omega
      have a3 : ¬ t.phase = 3 := by omega
      simp only [if_neg a0, if_neg a1, if_neg a2, if_neg a3]
    · have a0 : ¬ t.phase = 0 := by omega
      have a1 : ¬ t.phase = 1 := by omega
      simp only [if_neg a0, if_neg a1, if_pos h2]
      unfold toP
      simp only [if_neg hop]
  unfold endP
  rw [e]
theorem mid_last {s : Pu} (h : ValidP s) (hy : s.why = 0) (hcl : s.clock ≠ 1000000000) : beatP (midB s 23) = bitsP (minorP s) := by
  have hm := midN_same s 23
  have hpow : (2 : Int) ^ 24 = 16777216 := by decide
  unfold beatP
  rw [if_neg (by show ¬ (midN s 23).why ≠ 0; rw [hm.1]; omega), if_neg (by show ¬ (midN s 23).clock = 1000000000; rw [hm.2]; exact hcl), mid_pulses h (by omega)]
  show stepB (multB ⟨midL s 24, { midN s 23 with store := [] }, ((23 : Nat) : Int), midC s 24, midS s 24⟩) = _
  rw [last_mult]
  unfold stepB
  dsimp only
  rw [if_pos (by decide)]
  have hcm : comesP { multsP s with store := [] } = comesP s := by unfold multsP; split <;> rfl
  have hrm : replP (multsP s) = replP s := by unfold multsP; split <;> rfl
  have hmin : minorP s = endP (comesP s) (wordP s) (multsP (storeP s)) := by unfold minorP; rw [if_neg (by omega), if_neg hcl]
  have hst : storeP s = { s with store := (storeP s).store } := by unfold storeP; split <;> rfl
  have hms : multsP (storeP s) = { multsP s with store := (storeP s).store } := by rw [hst, mults_store]
  have hL : midL s 24 = (List.range 8).map (lineB (storeP s).store) := by
    unfold midL storeP
    show (if (comesP s && replP s) = true then _ else _) = _
    by_cases hrr : (comesP s && replP s) = true
    · rw [if_pos hrr, if_pos hrr]
      rw [Bool.and_eq_true] at hrr
      obtain ⟨_, ha, _⟩ := comes_phase h hrr.1
      have hx := h.word _ ha
      have hr := resP_bd s (wrd s)
      rw [mixQ_all (n := 24) (by omega) (by unfold wrd; omega)]
      rfl
    · rw [if_neg hrr, if_neg hrr]
  have hend : endP (comesP s) (midS s 24) (multsP s) = endP (comesP s) (wordP s) (multsP s) := by
    by_cases hc : comesP s = true
    · obtain ⟨_, ha, _⟩ := comes_phase h hc
      have hx := h.word _ ha
      by_cases hr : replP s = true
      · exact end_wd (by rw [hrm]; exact hr) _ _ _
      · have hS : midS s 24 = wordP s := by
          unfold midS wordP
          rw [if_pos ⟨hc, by simpa using hr⟩, if_pos hc, hpow]
          unfold wrd
          omega
        rw [hS]
    · have hS : midS s 24 = wordP s := by
        unfold midS wordP
        rw [if_neg (fun c => hc c.1), if_neg hc]
      rw [hS]
  have eL : endP (comesP s) (midS s 24) { multsP s with store := [] } = { endP (comesP s) (wordP s) (multsP s) with store := [] } := (end_st _ _ (multsP s) []).trans (by rw [hend])
  have eR : minorP s = { endP (comesP s) (wordP s) (multsP s) with store := (storeP s).store } := by rw [hmin, hms]; exact end_st _ _ (multsP s) _
  rw [hcm]
  show (⟨midL s 24, endP (comesP s) (midS s 24) { multsP s with store := [] }, 0, 0, 0⟩ : PuB) = bitsP (minorP s)
  rw [eL, eR, hL]
  rfl
theorem beats_still {b : PuB} (h : b.now.why ≠ 0) : ∀ n, beatsP n b = b
  | 0 => rfl
  | n + 1 => by
    show beatsP n (beatP b) = b
    have e : beatP b = b := by unfold beatP; rw [if_pos h]
    rw [e]; exact beats_still h n
theorem beats_minor {s : Pu} (h : ValidP s) : beatsP 24 (bitsP s) = bitsP (minorP s) := by
  by_cases hy : s.why ≠ 0
  · have e : minorP s = s := by unfold minorP; rw [if_pos hy]
    rw [e]
    exact beats_still hy 24
  by_cases hcl : s.clock = 1000000000
  · have e : minorP s = { s with why := 4 } := by unfold minorP; rw [if_neg hy, if_pos hcl]
    have e2 : beatP (bitsP s) = bitsP { s with why := 4 } := by
      unfold beatP
      rw [if_neg (by exact hy), if_pos (by exact hcl)]
      rfl
    show beatsP 23 (beatP (bitsP s)) = _
    rw [e, e2]
    exact beats_still (by show (4 : Int) ≠ 0; decide) 23
  have hy' : s.why = 0 := by omega
  have hj : ∀ j : Nat, j ≤ 23 → beatsP j (bitsP s) = midB s j := by
    intro j
    induction j with
    | zero => intro _; exact (mid_zero h).symm
    | succ j ih =>
      intro hj
      rw [beatsP_snoc, ih (by omega)]
      exact mid_step h hy' hcl (by omega)
  rw [beatsP_snoc, hj 23 (by omega)]
  exact mid_last h hy' hcl
/-- 24 times as many beats are the minor cycles -/
theorem beats_minors : ∀ (n : Nat) {s : Pu}, ValidP s → beatsP (24 * n) (bitsP s) = bitsP (minorsP n s)
  | 0, _, _ => rfl
  | n + 1, s, h => by
    rw [show 24 * (n + 1) = 24 + 24 * n by omega, beatsP_add, beats_minor h]
    exact beats_minors n (minorP_valid h)
end Go.Q

import Derived.StillTailTactics
import Derived.Deep.RegionLaw
import Derived.Deep.AppendLies
import Derived.BigRegion
import Derived.Deep.RegionHeld3
import Derived.Deep.DeepCutAuto
import Derived.Test.YtnhpcoagkmgdoaaGreatX1
set_option linter.unusedVariables false
set_option linter.unusedSimpArgs false
/- The machine in memory: what its blocks hold, and what stays of that behind each kind of write. -/
namespace Go.Proofs.YtnhpcoagkmgdoaaGreat
open Go.RowKit Go.Q
def mcells (g1 c1 : Nat) (tv pv : Value) (s : St) (o : Ord) : Array Value :=
 #[.slice (some ⟨g1, 0, none⟩) 128 c1, tv, .int .i64 s.taken, pv, .int .i64 s.time, .int .i64 s.at_, .int .i64 s.done, .int .i64 s.why, .int .i64 o.op, .int .i64 o.frm, .int .i64 o.to, .int .i64 o.nxt]
/-- the machine lies at m: its store in block g1, its tape tv, its paper pv -/
structure Mac (w : World) (nb m g1 c1 : Nat) (tv pv : Value) (s : St) (o : Ord) : Prop where
 low : nb ≤ m ∧ nb ≤ g1 ∧ m ≠ g1
 blk : w.heap[m]? = some (.cells (mcells g1 c1 tv pv s o) 159 (0, 0))
 st : ∃ cur, w.heap[g1]? = some (.cells cur 3 (0, 0)) ∧ cur.toList.take 128 = iv s.store
 len : s.store.length = 128
 tp : ∃ a2 c2, tv = .slice a2 s.tape.length c2 ∧ (s.tape = [] ∨ ∃ b off, a2 = some ⟨b, off, none⟩ ∧ (∃ cur, w.heap[b]? = some (.cells cur 3 (0, 0))) ∧ b ≠ m ∧ b ≠ g1 ∧ pv.ownBlock ≠ some b ∧ ∀ i, i < s.tape.length → w.cell? ⟨b, off + i, none⟩ = some (.int .i64 (s.tape[i]?.getD 0)))
 prow : w.ownsRow nb 3 1 pv s.printed.length (iv s.printed)
 pm : pv.ownBlock ≠ some m
 pg : pv.ownBlock ≠ some g1
theorem cells_set {w : World} {m : Nat} {cs : Array Value} {t : TypeId} (h : w.heap[m]? = some (.cells cs t (0, 0))) (i : Nat) (v : Value) :
  (w.setCell ⟨m, i, none⟩ v).heap[m]? = some (.cells (cs.setIfInBounds i v) t (0, 0)) := by
 have hlt := lt_of_block h
 have h' : w.heap[m] = .cells cs t (0, 0) := by simpa [Array.getElem?_eq_getElem hlt] using h
 show (w.heap.modify m _)[m]? = _
 rw [Array.getElem?_eq_getElem (by simpa using hlt), Array.getElem_modify_self, h']
 rfl
theorem cell_of_cells {w : World} {m : Nat} {cs : Array Value} {t : TypeId} (h : w.heap[m]? = some (.cells cs t (0, 0))) (i : Nat) {v : Value} (hv : cs[i]? = some v) : w.cell? ⟨m, i, none⟩ = some v := by
 simp [World.cell?, h, hv]
theorem free_of_cells {w : World} {m : Nat} {cs : Array Value} {t : TypeId} (h : w.heap[m]? = some (.cells cs t (0, 0))) (i : Nat) : w.frozen? ⟨m, i, none⟩ = false := by
 simp [World.frozen?, h]
variable {w : World} {nb m g1 c1 : Nat} {tv pv : Value} {s : St} {o : Ord}
theorem Mac.c (h : Mac w nb m g1 c1 tv pv s o) (i : Nat) {v : Value} (hv : (mcells g1 c1 tv pv s o)[i]? = some v) : w.cell? ⟨m, i, none⟩ = some v := cell_of_cells h.blk i hv
theorem Mac.f (h : Mac w nb m g1 c1 tv pv s o) (i : Nat) : w.frozen? ⟨m, i, none⟩ = false := free_of_cells h.blk i
theorem Mac.wc (h : Mac w nb m g1 c1 tv pv s o) (i : Nat) (hi : i < 128) : w.cell? ⟨g1, i, none⟩ = some (.int .i64 (s.store[i]?.getD 0)) := by
 obtain ⟨cur, hg, ht⟩ := h.st
 refine cell_of_cells hg i ?_
 have e := iv_get s.store i (by rw [h.len]; exact hi)
 rw [← ht, List.getElem?_take, if_pos hi] at e
 simpa using e
theorem Mac.wf (h : Mac w nb m g1 c1 tv pv s o) (i : Nat) : w.frozen? ⟨g1, i, none⟩ = false := by
 obtain ⟨cur, hg, _⟩ := h.st
 exact free_of_cells hg i
theorem Mac.ltm (h : Mac w nb m g1 c1 tv pv s o) : m < w.heap.size := lt_of_block h.blk
theorem Mac.ltg (h : Mac w nb m g1 c1 tv pv s o) : g1 < w.heap.size := by obtain ⟨cur, hg, _⟩ := h.st; exact lt_of_block hg
theorem own_lt {w : World} {nb t n : Nat} {pv : Value} {xs : List Value} (h : w.ownsRow nb t 1 pv n xs) {b : Nat} (hb : pv.ownBlock = some b) : b < w.heap.size := by
 rcases h.2 with ⟨rfl, _⟩ | ⟨g, cap, cur, rfl, _, hg, _⟩
 ·cases hb
 ·obtain rfl : g = b := by simpa [Value.ownBlock] using hb
  exact lt_of_block hg
theorem own_later {w w' : World} {nb t n : Nat} {pv : Value} {xs : List Value} (h : w.ownsRow nb t 1 pv n xs) (hb : ∀ b, pv.ownBlock = some b → w'.heap[b]? = w.heap[b]?) : w'.ownsRow nb t 1 pv n xs := by
 refine ⟨h.1, ?_⟩
 rcases h.2 with h2 | ⟨g, cap, cur, rfl, hbg, hg, r⟩
 ·exact .inl h2
 ·exact .inr ⟨g, cap, cur, rfl, hbg, (hb g rfl).trans hg, r⟩
/-- nothing of the machine has turned -/
theorem Mac.same {w' : World} (h : Mac w nb m g1 c1 tv pv s o) (hz : w.heap.size ≤ w'.heap.size) (hb : ∀ k, k < w.heap.size → w'.heap[k]? = w.heap[k]?) : Mac w' nb m g1 c1 tv pv s o where
 low := h.low
 blk := (hb _ h.ltm).trans h.blk
 st := by obtain ⟨cur, hg, ht⟩ := h.st; exact ⟨cur, (hb _ h.ltg).trans hg, ht⟩
 len := h.len
 tp := by
  obtain ⟨a2, c2, hv, ht⟩ := h.tp
  refine ⟨a2, c2, hv, ?_⟩
  rcases ht with ht | ⟨b, off, ha, ⟨cu, hcu⟩, h1, h2, h3, hc⟩
  ·exact .inl ht
  ·have hlt := lt_of_block hcu
   exact .inr ⟨b, off, ha, ⟨cu, (hb b hlt).trans hcu⟩, h1, h2, h3, fun i hi => (World.cell?_of_block (w := w) (hb b hlt)).trans (hc i hi)⟩
 prow := own_later h.prow (fun b e => hb b (own_lt h.prow e))
 pm := h.pm
 pg := h.pg
theorem Mac.ext {w' : World} (h : Mac w nb m g1 c1 tv pv s o) (e : Ext w w') : Mac w' nb m g1 c1 tv pv s o := h.same e.size e.block
theorem Mac.drewN (h : Mac w nb m g1 c1 tv pv s o) (n : Nat) : Mac (w.drewN n) nb m g1 c1 tv pv s o := h.same (Nat.le_refl _) (fun _ _ => rfl)
theorem Mac.heapEq {w' : World} (h : Mac w nb m g1 c1 tv pv s o) (e : w'.heap = w.heap) : Mac w' nb m g1 c1 tv pv s o := h.same (by rw [e]; exact Nat.le_refl _) (fun k _ => by rw [e])
/-- one of the machine's own cells is written -/
theorem Mac.setm (h : Mac w nb m g1 c1 tv pv s o) (i : Nat) (v : Value) (s' : St) (o' : Ord) (he : mcells g1 c1 tv pv s' o' = (mcells g1 c1 tv pv s o).setIfInBounds i v)
  (e1 : s'.store = s.store) (e2 : s'.tape = s.tape) (e3 : s'.printed = s.printed) : Mac (w.setCell ⟨m, i, none⟩ v) nb m g1 c1 tv pv s' o' where
 low := h.low
 blk := by rw [he]; exact cells_set h.blk i v
 st := by
  obtain ⟨cur, hg, ht⟩ := h.st
  exact ⟨cur, (Below.heap_setCell _ _ _ _ (fun e => h.low.2.2 e.symm)).trans hg, by rw [e1]; exact ht⟩
 len := by rw [e1]; exact h.len
 tp := by
  obtain ⟨a2, c2, hv, ht⟩ := h.tp
  refine ⟨a2, c2, by rw [e2]; exact hv, ?_⟩
  rw [e2]
  rcases ht with ht | ⟨b, off, ha, ⟨cu, hcu⟩, h1, h2, h3, hc⟩
  ·exact .inl ht
  ·exact .inr ⟨b, off, ha, ⟨cu, (Below.heap_setCell _ _ _ _ h1).trans hcu⟩, h1, h2, h3, fun i hi => (World.cell?_of_block (w := w) (Below.heap_setCell _ _ _ _ h1)).trans (hc i hi)⟩
 prow := by rw [e3]; exact own_later h.prow (fun b e => Below.heap_setCell _ _ _ _ (fun e' => h.pm (by rw [e]; exact congrArg some e')))
 pm := h.pm
 pg := h.pg
/-- a word of the store is written -/
theorem Mac.sets (h : Mac w nb m g1 c1 tv pv s o) (i : Nat) (hi : i < 128) (x : Int) (s' : St) (es : s' = { s with store := s.store.set i x }) : Mac (w.setCell ⟨g1, i, none⟩ (.int .i64 x)) nb m g1 c1 tv pv s' o where
 low := h.low
 blk := by subst es; exact (Below.heap_setCell _ _ _ _ h.low.2.2).trans h.blk
 st := by
  subst es
  obtain ⟨cur, hg, ht⟩ := h.st
  refine ⟨_, cells_set hg i _, ?_⟩
  show ((cur.setIfInBounds i (.int .i64 x)).toList).take 128 = iv (s.store.set i x)
  rw [Array.toList_setIfInBounds, List.take_set, ht]
  simp [iv, List.map_set]
 len := by subst es; simpa using h.len
 tp := by
  subst es
  obtain ⟨a2, c2, hv, ht⟩ := h.tp
  refine ⟨a2, c2, hv, ?_⟩
  rcases ht with ht | ⟨b, off, ha, ⟨cu, hcu⟩, h1, h2, h3, hc⟩
  ·exact .inl ht
  ·exact .inr ⟨b, off, ha, ⟨cu, (Below.heap_setCell _ _ _ _ h2).trans hcu⟩, h1, h2, h3, fun i hi => (World.cell?_of_block (w := w) (Below.heap_setCell _ _ _ _ h2)).trans (hc i hi)⟩
 prow := by subst es; exact own_later h.prow (fun b e => Below.heap_setCell _ _ _ _ (fun e' => h.pg (by rw [e]; exact congrArg some e')))
 pm := h.pm
 pg := h.pg
end Go.Proofs.YtnhpcoagkmgdoaaGreat
/- Contracts: machine.from, to, and what an order does: move, add, sub, mul, read, print. -/
namespace Go.Proofs.YtnhpcoagkmgdoaaGreat
open Go.RowKit Go.Q
variable {nb m g1 c1 : Nat} {tv pv : Value} {s : St} {o : Ord}
set_option maxHeartbeats 1000000 in
theorem from_any (w : World) (h : Mac w nb m g1 c1 tv pv s o) (h0 : 0 ≤ o.frm) (h1 : o.frm ≤ 127) :
    Calls Tryz.prog 106 #[.pointer (some ⟨m, 0, none⟩)] w fun e w' => e = .returned (.pointer (some ⟨g1, o.frm.toNat, none⟩)) ∧ ∃ n, w' = w.drewN n := by
  have q0 := h.c 0 (v := .slice (some ⟨g1, 0, none⟩) 128 c1) rfl
  have q9 := h.c 9 (v := .int .i64 o.frm) rfl
  clear h
  generalize o.frm = f at q9 h0 h1 ⊢
  go_enter Tryz.func106, Tryz.ntmps106
  go_wp2
  go_quiet (fail)
  go_wp2
  go_ret
  exact ⟨rfl, _, rfl⟩
set_option maxHeartbeats 1000000 in
theorem to_any (w : World) (h : Mac w nb m g1 c1 tv pv s o) (h0 : 0 ≤ o.to) (h1 : o.to ≤ 127) :
    Calls Tryz.prog 115 #[.pointer (some ⟨m, 0, none⟩)] w fun e w' => e = .returned (.pointer (some ⟨g1, o.to.toNat, none⟩)) ∧ ∃ n, w' = w.drewN n := by
  have q0 := h.c 0 (v := .slice (some ⟨g1, 0, none⟩) 128 c1) rfl
  have q9 := h.c 10 (v := .int .i64 o.to) rfl
  clear h
  generalize o.to = f at q9 h0 h1 ⊢
  go_enter Tryz.func115, Tryz.ntmps115
  go_wp2
  go_quiet (fail)
  go_wp2
  go_ret
  exact ⟨rfl, _, rfl⟩
/-- the blocks that an order may write -/
def Own3 (m g1 : Nat) (pv : Value) (k : Nat) : Prop := k = m ∨ k = g1 ∨ pv.ownBlock = some k
/-- a method has changed the machine, and nothing else that was there -/
def DoRes (nb m g1 c1 : Nat) (tv pv : Value) (s' : St) (o' : Ord) (w : World) (e : Ending) (w' : World) : Prop :=
  e = .returned (.tuple #[]) ∧ ∃ pv', Mac w' nb m g1 c1 tv pv' s' o' ∧ Chg (Own3 m g1 pv) w w' ∧ (pv'.ownBlock = pv.ownBlock ∨ ∃ k, pv'.ownBlock = some k ∧ w.heap.size ≤ k)
theorem do_store {w : World} (h : Mac w nb m g1 c1 tv pv s o) (n : Nat) (t : Nat) (ht : t < 128) (x : Int) :
    DoRes nb m g1 c1 tv pv { s with store := s.store.set t x } o w (.returned (.tuple #[])) ((w.drewN n).setCell ⟨g1, t, none⟩ (.int .i64 x)) :=
  ⟨rfl, pv, (h.drewN n).sets t ht x _ rfl, (Chg.heapEq rfl rfl rfl rfl : Chg _ w (w.drewN n)).setCell _ (.inr (.inl rfl)) _, .inl rfl⟩
theorem do_read {w : World} (h : Mac w nb m g1 c1 tv pv s o) (n : Nat) (t : Nat) (ht : t < 128) (x : Int) :
    DoRes nb m g1 c1 tv pv { s with store := s.store.set t x, taken := s.taken + 1 } o w (.returned (.tuple #[])) (((w.drewN n).setCell ⟨g1, t, none⟩ (.int .i64 x)).setCell ⟨m, 2, none⟩ (.int .i64 (s.taken + 1))) :=
  ⟨rfl, pv, ((h.drewN n).sets t ht x _ rfl).setm 2 _ _ o rfl rfl rfl rfl, ((Chg.heapEq rfl rfl rfl rfl : Chg _ w (w.drewN n)).setCell _ (.inr (.inl rfl)) _).setCell _ (.inl rfl) _, .inl rfl⟩
theorem own_alloc {w W : World} {nb t n : Nat} {pv : Value} {xs : List Value} (h : w.ownsRow nb t 1 pv n xs) (o : Obj) (e : W.heap = (w.alloc o).heap) : W.ownsRow nb t 1 pv n xs :=
  own_later h (fun b hb => by rw [e]; exact Below.heap_alloc w o b (own_lt h hb))
theorem grown_old {w W w1 : World} {ob : Obj} {row : Option Nat} (eW : W.heap = (w.alloc ob).heap) (hg : W.grownBy w1 row) (k : Nat) (hk : k < w.heap.size) (hr : row ≠ some k) : w1.heap[k]? = w.heap[k]? :=
  (hg.block k (by rw [eW]; show k < (w.alloc ob).heap.size; simp; omega) (fun e => hr e.symm)).trans (by rw [eW]; exact Below.heap_alloc w ob k hk)
theorem do_print {w W w1 : World} (h : Mac w nb m g1 c1 tv pv s o) (ob : Obj) (eW : W.heap = (w.alloc ob).heap) (h1 : W.os = w.os) (h2 : W.tape = w.tape) (h3 : W.output = w.output)
    (hg : W.grownBy w1 pv.ownBlock) (g k cap : Nat) (x : Int) (hk : k = s.printed.length + 1) (hown : w1.ownsRow nb 3 1 (.slice (some ⟨g, 0, none⟩) k cap) k (iv s.printed ++ [.int .i64 x]))
    (hat : pv.ownBlock = some g ∨ g = w.heap.size + 1) :
    DoRes nb m g1 c1 tv pv { s with printed := s.printed ++ [x] } o w (.returned (.tuple #[])) (w1.setCell ⟨m, 3, none⟩ (.slice (some ⟨g, 0, none⟩) k cap)) := by
  have lm := h.ltm
  have lg := h.ltg
  have old := fun i hi hr => grown_old (w := w) eW hg i hi hr
  have gm : g ≠ m := by rcases hat with e | e; · exact fun e' => h.pm (e' ▸ e)
                        · omega
  have gg : g ≠ g1 := by rcases hat with e | e; · exact fun e' => h.pg (e' ▸ e)
                         · omega
  have hz : w.heap.size ≤ w1.heap.size := by have := hg.size; rw [eW] at this; simp at this; omega
  refine ⟨rfl, .slice (some ⟨g, 0, none⟩) k cap, ?_, ?_, ?_⟩
  · refine ⟨h.low, ?_, ?_, h.len, ?_, ?_, fun e => gm (by simpa [Value.ownBlock] using e), fun e => gg (by simpa [Value.ownBlock] using e)⟩
    · exact cells_set ((old m lm h.pm).trans h.blk) 3 _
    · obtain ⟨cur, hc, ht⟩ := h.st
      exact ⟨cur, (Below.heap_setCell _ _ _ _ (fun e => h.low.2.2 e.symm)).trans ((old g1 lg h.pg).trans hc), ht⟩
    · obtain ⟨a2, c2, hv, ht⟩ := h.tp
      refine ⟨a2, c2, hv, ?_⟩
      rcases ht with ht | ⟨b, off, ha, ⟨cu, hcu⟩, i1, i2, i3, hc⟩
      · exact .inl ht
      · have hlt := lt_of_block hcu
        refine .inr ⟨b, off, ha, ⟨cu, (Below.heap_setCell _ _ _ _ i1).trans ((old b hlt i3).trans hcu)⟩, i1, i2, fun e => ?_, fun i hi => ?_⟩
        · have e' : g = b := by simpa [Value.ownBlock] using e
          rcases hat with e2 | e2
          · exact i3 (e' ▸ e2)
          · omega
        · exact (World.cell?_of_block (w := w) ((Below.heap_setCell _ _ _ _ i1).trans (old b hlt i3))).trans (hc i hi)
    · have e : (s.printed ++ [x]).length = k := by simp [hk]
      show World.ownsRow _ nb 3 1 _ (s.printed ++ [x]).length (iv (s.printed ++ [x]))
      rw [e]
      have e2 : iv (s.printed ++ [x]) = iv s.printed ++ [.int .i64 x] := by simp [iv]
      rw [e2]
      exact own_later hown (fun b hb => Below.heap_setCell _ _ _ _ (by have : g = b := by simpa [Value.ownBlock] using hb
                                                                       show b ≠ m
                                                                       omega))
  · refine Chg.setCell ?_ _ (.inl rfl) _
    refine ⟨hg.os.trans h1, hg.tape.trans h2, hg.output.trans h3, hz, fun i hi hs => old i hi (fun e => hs (.inr (.inr e)))⟩
  · rcases hat with e | e
    · exact .inl (by rw [e]; rfl)
    · exact .inr ⟨g, rfl, by omega⟩
set_option maxHeartbeats 1000000 in
theorem move_any (w : World) (h : Mac w nb m g1 c1 tv pv s o) (hf0 : 0 ≤ o.frm) (hf1 : o.frm ≤ 127) (ht0 : 0 ≤ o.to) (ht1 : o.to ≤ 127) :
    Calls Tryz.prog 108 #[.pointer (some ⟨m, 0, none⟩)] w (DoRes nb m g1 c1 tv pv { s with store := s.store.set o.to.toNat (wordAt s o.frm) } o w) := by
  have q1 : w.cell? ⟨g1, o.frm.toNat, none⟩ = some (.int .i64 (wordAt s o.frm)) := h.wc _ (by omega)
  have q2 := h.wc o.to.toNat (by omega)
  have q3 := h.wf o.to.toNat
  go_enter Tryz.func108, Tryz.ntmps108
  go_wp2_with fail
  refine (to_any _ h ht0 ht1).mono ?_
  rintro e w' ⟨rfl, n1, rfl⟩
  go_wp2_with fail
  refine (from_any _ (by exact h.heapEq rfl) hf0 hf1).mono ?_
  rintro e w' ⟨rfl, n2, rfl⟩
  go_wp2
  go_end0
  exact do_store h _ _ (by omega : o.to.toNat < 128) _
set_option maxHeartbeats 2000000 in
theorem add_any (w : World) (h : Mac w nb m g1 c1 tv pv s o) (hf0 : 0 ≤ o.frm) (hf1 : o.frm ≤ 127) (ht0 : 0 ≤ o.to) (ht1 : o.to ≤ 127)
    (ha : 0 ≤ wordAt s o.frm ∧ wordAt s o.frm ≤ 16777215) (hb : 0 ≤ wordAt s o.to ∧ wordAt s o.to ≤ 16777215) :
    Calls Tryz.prog 109 #[.pointer (some ⟨m, 0, none⟩)] w (DoRes nb m g1 c1 tv pv { s with store := s.store.set o.to.toNat ((wordAt s o.to + wordAt s o.frm) % 16777216) } o w) := by
  have q1 : w.cell? ⟨g1, o.frm.toNat, none⟩ = some (.int .i64 (wordAt s o.frm)) := h.wc _ (by omega)
  have q2 : w.cell? ⟨g1, o.to.toNat, none⟩ = some (.int .i64 (wordAt s o.to)) := h.wc _ (by omega)
  have q3 := h.wf o.to.toNat
  have ht : o.to.toNat < 128 := by omega
  obtain ⟨ha0, ha1⟩ := ha
  obtain ⟨hb0, hb1⟩ := hb
  have hw := IntWalk.i64_in (wordAt s o.to + wordAt s o.frm) (by omega)
  go_enter Tryz.func109, Tryz.ntmps109
  go_region_law (first | (go_simp; go_at_call 115; refine (to_any _ (by exact h.heapEq rfl) ht0 ht1).mono ?_; rintro e w' ⟨rfl, n1, rfl⟩) | (go_simp; go_at_call 106; refine (from_any _ (by exact h.heapEq rfl) hf0 hf1).mono ?_; rintro e w' ⟨rfl, n1, rfl⟩))
  all_goals
    go_end0
    exact do_store h _ _ ht _
set_option maxHeartbeats 2000000 in
theorem sub_any (w : World) (h : Mac w nb m g1 c1 tv pv s o) (hf0 : 0 ≤ o.frm) (hf1 : o.frm ≤ 127) (ht0 : 0 ≤ o.to) (ht1 : o.to ≤ 127)
    (ha : 0 ≤ wordAt s o.frm ∧ wordAt s o.frm ≤ 16777215) (hb : 0 ≤ wordAt s o.to ∧ wordAt s o.to ≤ 16777215) :
    Calls Tryz.prog 110 #[.pointer (some ⟨m, 0, none⟩)] w (DoRes nb m g1 c1 tv pv { s with store := s.store.set o.to.toNat ((wordAt s o.to - wordAt s o.frm) % 16777216) } o w) := by
  have q1 : w.cell? ⟨g1, o.frm.toNat, none⟩ = some (.int .i64 (wordAt s o.frm)) := h.wc _ (by omega)
  have q2 : w.cell? ⟨g1, o.to.toNat, none⟩ = some (.int .i64 (wordAt s o.to)) := h.wc _ (by omega)
  have q3 := h.wf o.to.toNat
  have ht : o.to.toNat < 128 := by omega
  obtain ⟨ha0, ha1⟩ := ha
  obtain ⟨hb0, hb1⟩ := hb
  have hw := IntWalk.i64_in (wordAt s o.to - wordAt s o.frm) (by omega)
  go_enter Tryz.func110, Tryz.ntmps110
  go_region_law (first | (go_simp; go_at_call 115; refine (to_any _ (by exact h.heapEq rfl) ht0 ht1).mono ?_; rintro e w' ⟨rfl, n1, rfl⟩) | (go_simp; go_at_call 106; refine (from_any _ (by exact h.heapEq rfl) hf0 hf1).mono ?_; rintro e w' ⟨rfl, n1, rfl⟩))
  all_goals
    go_end0
    exact do_store h _ _ ht _
theorem prod_bd {a b : Int} (ha : 0 ≤ a ∧ a ≤ 16777215) (hb : 0 ≤ b ∧ b ≤ 16777215) : -70368744177664 ≤ sgn a * sgn b ∧ sgn a * sgn b ≤ 70368744177664 := by
  have h1 : -8388608 ≤ sgn a ∧ sgn a ≤ 8388607 := by unfold sgn; split <;> omega
  have h2 : -8388608 ≤ sgn b ∧ sgn b ≤ 8388607 := by unfold sgn; split <;> omega
  have n1 : (sgn a).natAbs ≤ 8388608 := by omega
  have n2 : (sgn b).natAbs ≤ 8388608 := by omega
  have h3 : (sgn a * sgn b).natAbs ≤ 8388608 * 8388608 := by rw [Int.natAbs_mul]; exact Nat.mul_le_mul n1 n2
  omega
set_option maxHeartbeats 2000000 in
theorem mul_any (w : World) (h : Mac w nb m g1 c1 tv pv s o) (hf0 : 0 ≤ o.frm) (hf1 : o.frm ≤ 127) (ht0 : 0 ≤ o.to) (ht1 : o.to ≤ 127)
    (ha : 0 ≤ wordAt s o.frm ∧ wordAt s o.frm ≤ 16777215) (hb : 0 ≤ wordAt s o.to ∧ wordAt s o.to ≤ 16777215) :
    Calls Tryz.prog 111 #[.pointer (some ⟨m, 0, none⟩)] w (DoRes nb m g1 c1 tv pv { s with store := s.store.set o.to.toNat (Q.prod (wordAt s o.frm) (wordAt s o.to)) } o w) := by
  have q1 : w.cell? ⟨g1, o.frm.toNat, none⟩ = some (.int .i64 (wordAt s o.frm)) := h.wc _ (by omega)
  have q2 : w.cell? ⟨g1, o.to.toNat, none⟩ = some (.int .i64 (wordAt s o.to)) := h.wc _ (by omega)
  have q3 := h.wf o.to.toNat
  have ht : o.to.toNat < 128 := by omega
  obtain ⟨p0, p1⟩ := prod_bd ha hb
  have hp : Q.prod (wordAt s o.frm) (wordAt s o.to) = sgn (wordAt s o.frm) * sgn (wordAt s o.to) / 8388608 % 16777216 := rfl
  rw [hp]
  clear hp
  have k1 := fun W => signed_any (wordAt s o.frm) W ha.1 ha.2
  have k2 := fun W => signed_any (wordAt s o.to) W hb.1 hb.2
  generalize sgn (wordAt s o.frm) = x at *
  generalize sgn (wordAt s o.to) = y at *
  go_enter Tryz.func111, Tryz.ntmps111
  go_wp2_with fail
  refine (to_any _ h ht0 ht1).mono ?_
  rintro e w' ⟨rfl, n1, rfl⟩
  go_wp2_with fail
  refine (from_any _ (by exact h.heapEq rfl) hf0 hf1).mono ?_
  rintro e w' ⟨rfl, n2, rfl⟩
  go_wp2_with fail
  refine (k1 _).mono ?_
  rintro e w' ⟨rfl, rfl⟩
  go_wp2_with fail
  refine (to_any _ (by exact h.heapEq rfl) ht0 ht1).mono ?_
  rintro e w' ⟨rfl, n3, rfl⟩
  go_wp2_with fail
  refine (k2 _).mono ?_
  rintro e w' ⟨rfl, rfl⟩
  go_wp2
  go_end0
  exact do_store h _ _ ht _
set_option maxHeartbeats 2000000 in
theorem read_any (w : World) (h : Mac w nb m g1 c1 tv pv s o) (ht0 : 0 ≤ o.to) (ht1 : o.to ≤ 127) (hk0 : 0 ≤ s.taken) (hk1 : s.taken < s.tape.length) (hl : s.tape.length ≤ 200) :
    Calls Tryz.prog 112 #[.pointer (some ⟨m, 0, none⟩)] w (DoRes nb m g1 c1 tv pv { s with store := s.store.set o.to.toNat (s.tape[s.taken.toNat]?.getD 0), taken := s.taken + 1 } o w) := by
  have q2 := h.wc o.to.toNat (by omega)
  have q3 := h.wf o.to.toNat
  have ht : o.to.toNat < 128 := by omega
  have r1 := h.c 1 (v := tv) rfl
  have r2 := h.c 2 (v := .int .i64 s.taken) rfl
  have f2 := h.f 2
  have hm : m ≠ g1 := h.low.2.2
  obtain ⟨a2, c2, htv, hrest⟩ := h.tp
  rcases hrest with he | ⟨b, off, ha2, hlt, hbm, hbg, hbp, hc⟩
  · rw [he] at hk1; simp at hk1; omega
  clear hlt
  have r3 := hc s.taken.toNat (by omega)
  generalize s.tape[s.taken.toNat]?.getD 0 = x at *
  subst ha2
  have e1 : tv = .slice (some ⟨b, off, none⟩) s.tape.length c2 := htv
  rw [e1] at r1
  clear hc htv e1
  go_enter Tryz.func112, Tryz.ntmps112
  go_wp2
  go_region_law (first | (go_simp; go_at_call 115; refine (to_any _ (by exact h.heapEq rfl) ht0 ht1).mono ?_; rintro e w' ⟨rfl, n1, rfl⟩))
  all_goals go_wp2
  all_goals
    go_end0
    exact do_read h _ _ ht _
set_option maxHeartbeats 2000000 in
theorem print_any (w : World) (h : Mac w nb m g1 c1 tv pv s o) (hf0 : 0 ≤ o.frm) (hf1 : o.frm ≤ 127) (hl : s.printed.length < 200) :
    Calls Tryz.prog 113 #[.pointer (some ⟨m, 0, none⟩)] w (DoRes nb m g1 c1 tv pv { s with printed := s.printed ++ [wordAt s o.frm] } o w) := by
  obtain ⟨i0, hi, hz0, hz1, hz2⟩ := info_parts Tryz.infoE
  have q1 : w.cell? ⟨g1, o.frm.toNat, none⟩ = some (.int .i64 (wordAt s o.frm)) := h.wc _ (by omega)
  have r3 := h.c 3 (v := pv) rfl
  have lm := h.ltm
  have r3' : ∀ n ob, ((w.drewN n).alloc ob).cell? ⟨m, 3, none⟩ = some pv := fun n ob => cell_later ((Ext.refl (w.drewN n)).alloc ob) r3
  have hnb := h.low.1
  have hb := h.prow
  generalize wordAt s o.frm = x at *
  go_enter Tryz.func113, Tryz.ntmps113
  go_wp2
  go_region_law (first | (go_simp; go_at_call 106; refine (from_any _ (by exact h.heapEq rfl) hf0 hf1).mono ?_; rintro e w' ⟨rfl, n1, rfl⟩) | (refine step_append_lies _ (by rfl) _ _ _ (by rfl) nb 3 i0 _ 1 8 Tryz.underlying22 hi hz0 hz1 hz2 rfl (by omega) pv s.printed.length (iv s.printed) (by rfl) (by exact own_alloc hb _ rfl) ⟨w.heap.size, 0, none⟩ 1 1 [.int .i64 x] (by rfl) (by rfl) (World.news_of_block (cs := #[.int .i64 x]) (t := 3) (fr := (0, 0)) (heap_alloc_new w _)) (iv_one [x]) (by omega) (by unfold maxLen; omega) (by omega) (by simp; omega) (w.heap.size + 1) (by simp) ?_; intro g cap w2 hown2 hgrow hat hlt; have q3 := cell_of_cells ((grown_old (w := w) (ob := .cells #[.int .i64 x] 3) (by rfl) hgrow m lm h.pm).trans h.blk) 3 (v := pv) rfl; have f3 := free_of_cells ((grown_old (w := w) (ob := .cells #[.int .i64 x] 3) (by rfl) hgrow m lm h.pm).trans h.blk) 3))
  all_goals
    go_end0
    exact do_print h (.cells #[.int .i64 x] 3) (by rfl) (by rfl) (by rfl) (by rfl) hgrow g _ cap x rfl hown2 hat
theorem nop_any (w : World) (h : Mac w nb m g1 c1 tv pv s o) : Calls Tryz.prog 107 #[] w (DoRes nb m g1 c1 tv pv s o w) := by
  go_enter Tryz.func107, Tryz.ntmps107
  go_wp2
  go_end0
  exact ⟨rfl, pv, h, Chg.refl _ _, .inl rfl⟩
end Go.Proofs.YtnhpcoagkmgdoaaGreat
/- Contract: machine.step. -/
namespace Go.Proofs.YtnhpcoagkmgdoaaGreat
open Go.RowKit Go.Q
variable {nb m g1 c1 : Nat} {tv pv : Value} {s : St} {o o' : Ord}
/-- the order is stored into the machine -/
theorem Mac.setOrd {w : World} (h : Mac w nb m g1 c1 tv pv s o) (o' : Ord) :
  Mac ((((w.setCell ⟨m, 8, none⟩ (.int .i64 o'.op)).setCell ⟨m, 9, none⟩ (.int .i64 o'.frm)).setCell ⟨m, 10, none⟩ (.int .i64 o'.to)).setCell ⟨m, 11, none⟩ (.int .i64 o'.nxt)) nb m g1 c1 tv pv s o' :=
 (((h.setm 8 _ s ⟨o'.op, o.frm, o.to, o.nxt⟩ rfl rfl rfl rfl).setm 9 _ s ⟨o'.op, o'.frm, o.to, o.nxt⟩ rfl rfl rfl rfl).setm 10 _ s ⟨o'.op, o'.frm, o'.to, o.nxt⟩ rfl rfl rfl rfl).setm 11 _ s o' rfl rfl rfl rfl
theorem Chg.set4 {S : Nat → Prop} {a w : World} (h : Chg S a w) (m : Nat) (hm : S m) (i j k l : Nat) (x y z u : Value) :
  Chg S a ((((w.setCell ⟨m, i, none⟩ x).setCell ⟨m, j, none⟩ y).setCell ⟨m, k, none⟩ z).setCell ⟨m, l, none⟩ u) :=
 (((h.setCell _ hm _).setCell _ hm _).setCell _ hm _).setCell _ hm _
theorem from_ext (w : World) (h : Mac w nb m g1 c1 tv pv s o) (h0 : 0 ≤ o.frm) (h1 : o.frm ≤ 127) :
  Calls Tryz.prog 106 #[.pointer (some ⟨m, 0, none⟩)] w fun e w' => e = .returned (.pointer (some ⟨g1, o.frm.toNat, none⟩)) ∧ Ext w w' :=
 (from_any w h h0 h1).mono fun e w' ⟨he, n, hn⟩ => ⟨he, by rw [hn]; exact below_drewN (Ext.refl w) n⟩
theorem signed_ext (n : Int) (w : World) (h0 : 0 ≤ n) (h1 : n ≤ 16777215) :
  Calls Tryz.prog 105 #[.int .i64 n] w fun e w' => e = .returned (.int .i64 (sgn n)) ∧ Ext w w' :=
 (signed_any n w h0 h1).mono fun e w' ⟨he, hn⟩ => ⟨he, by rw [← hn]; exact Ext.refl w⟩
theorem stepQ_end {s : St} {k : Int} (h : whyAt s = k) (hk : k ≠ 0) : stepQ s = { s with why := k } := by
 unfold stepQ; rw [h, if_neg hk]
theorem stepQ_go {s : St} (h : whyAt s = 0) : stepQ s = { doQ s (ordAt s) with at_ := whenAt (ordAt s) (negAt s), time := untilAt s, done := s.done + 1 } := by
 unfold stepQ; rw [if_pos h]
/-- the run ends here -/
theorem fin_why {w w2 W : World} (h : Mac w2 nb m g1 c1 tv pv s o) (hc : Chg (Own3 m g1 pv) w w2) (e1 : W.os = w2.os) (e2 : W.tape = w2.tape) (e3 : W.output = w2.output) (e4 : W.heap = w2.heap)
  {k : Int} (hs : stepQ s = { s with why := k }) :
  DoRes nb m g1 c1 tv pv (stepQ s) o w (.returned (.tuple #[])) (W.setCell ⟨m, 7, none⟩ (.int .i64 k)) := by
 rw [hs]
 exact ⟨rfl, pv, (h.heapEq e4).setm 7 _ _ o rfl rfl rfl rfl, (hc.trans (Chg.heapEq e1 e2 e3 e4)).setCell _ (.inl rfl) _, .inl rfl⟩
/-- the order is done -/
theorem fin_do {w w2 W w3 : World} {pv' : Value} {s' : St} {a u d : Int} (h : Mac w3 nb m g1 c1 tv pv' s' o) (hc : Chg (Own3 m g1 pv) w w2) (hc3 : Chg (Own3 m g1 pv) W w3)
  (hp : pv'.ownBlock = pv.ownBlock ∨ ∃ k, pv'.ownBlock = some k ∧ W.heap.size ≤ k) (e1 : W.os = w2.os) (e2 : W.tape = w2.tape) (e3 : W.output = w2.output) (e4 : W.heap = w2.heap)
  (hs : stepQ s = { s' with at_ := a, time := u, done := d }) :
  DoRes nb m g1 c1 tv pv (stepQ s) o w (.returned (.tuple #[])) (((w3.setCell ⟨m, 5, none⟩ (.int .i64 a)).setCell ⟨m, 4, none⟩ (.int .i64 u)).setCell ⟨m, 6, none⟩ (.int .i64 d)) := by
 rw [hs]
 refine ⟨rfl, pv', ((h.setm 5 _ { s' with at_ := a } o rfl rfl rfl rfl).setm 4 _ { s' with at_ := a, time := u } o rfl rfl rfl rfl).setm 6 _ _ o rfl rfl rfl rfl,
  ((((hc.trans (Chg.heapEq e1 e2 e3 e4)).trans hc3).setCell _ (.inl rfl) _).setCell _ (.inl rfl) _).setCell _ (.inl rfl) _, ?_⟩
 rcases hp with hp | ⟨k, hk, hz⟩
 ·exact .inl hp
 ·exact .inr ⟨k, hk, by rw [e4] at hz; have := hc.size; omega⟩
set_option maxHeartbeats 4000000 in
set_option maxRecDepth 100000 in
theorem step_any (w : World) (h : Mac w nb m g1 c1 tv pv s o) (hv : Valid s) (hy : s.why = 0) :
  Calls Tryz.prog 103 #[.pointer (some ⟨m, 0, none⟩)] w (DoRes nb m g1 c1 tv pv (stepQ s) (ordAt s) w) := by
 obtain ⟨⟨at0, at1⟩, ⟨tm0, tm1⟩⟩ := And.intro hv.at_ hv.time
 have at2 : s.at_ < 128 := by omega
 have qa : w.cell? ⟨g1, s.at_.toNat, none⟩ = some (.int .i64 (wordAt s s.at_)) := h.wc _ (by omega)
 have q0 := h.c 0 (v := .slice (some ⟨g1, 0, none⟩) 128 c1) rfl
 have q5 := h.c 5 (v := .int .i64 s.at_) rfl
 have q8 := h.c 8 (v := .int .i64 o.op) rfl
 have q9 := h.c 9 (v := .int .i64 o.frm) rfl
 have q10 := h.c 10 (v := .int .i64 o.to) rfl
 have q11 := h.c 11 (v := .int .i64 o.nxt) rfl
 have f8 := h.f 8
 have f9 := h.f 9
 have f10 := h.f 10
 have f11 := h.f 11
 have hd := fun W => decode_any (wordAt s s.at_) W (hv.word s.at_ at0 at1).1
 have ho : decodeQ (wordAt s s.at_) = ordAt s := rfl
 rw [ho] at hd
 clear ho
 have H := Lib.hid h
 have HV := Lib.hid hv
 clear h
 generalize hx : wordAt s s.at_ = x at qa hd
 clear hx
 have hov := hv.ord
 generalize hoo : ordAt s = o2 at hd hov ⊢
 have Ho := Lib.hid hoo
 clear hoo hv
 go_enter Tryz.func103, Tryz.ntmps103
 go_upto_region 0 with fail
 go_cut [] (fun wx => Mac wx nb m g1 c1 tv pv s o2 ∧ Chg (Own3 m g1 pv) w wx)
 case first =>
  go_region_law (go_simp; go_at_call 94; refine (hd _).mono ?_; rintro e w1 ⟨rfl, hb⟩; have k8 := cell_later hb q8; have k9 := cell_later hb q9; have k10 := cell_later hb q10; have k11 := cell_later hb q11; have l8 := (hb.frozen (p := ⟨m, 8, none⟩) H.out.ltm).trans f8; have l9 := (hb.frozen (p := ⟨m, 9, none⟩) H.out.ltm).trans f9; have l10 := (hb.frozen (p := ⟨m, 10, none⟩) H.out.ltm).trans f10; have l11 := (hb.frozen (p := ⟨m, 11, none⟩) H.out.ltm).trans f11)
  all_goals
   go_wp2_with fail
   go_meet
   exact ⟨(H.out.ext (Ext.comp (Ext.refl w).drew hb)).setOrd o2, Chg.set4 (Chg.of_ext (Ext.comp (Ext.refl w).drew hb)) m (.inl rfl) _ _ _ _ _ _ _ _⟩
 case rest =>
  obtain ⟨M1, C1⟩ := hcut
  obtain ⟨wo, rfl⟩ : ∃ wo : World, wo = wc := ⟨_, rfl⟩
  clear q0 q5 q8 q9 q10 q11 f8 f9 f10 f11 hd qa H
  have hng : negAt s = decide (sgn (wordAt s o2.frm) < 0) := by rw [← Ho.out]; rfl
  obtain ⟨⟨p0, p1⟩, ⟨a0, a1⟩, ⟨b0, b1⟩, d0, d1⟩ := ordB_bd hov
  have hw := HV.out.word o2.frm a0 a1
  have hwh := fun W => when_any o2.op o2.frm o2.to o2.nxt s.time (negAt s) W hov tm0 tm1
  rw [hng] at hwh
  have hsg := fun W => signed_ext (wordAt s o2.frm) W hw.1 hw.2
  have k0 := M1.c 0 (v := .slice (some ⟨g1, 0, none⟩) 128 c1) rfl
  have k4 := M1.c 4 (v := .int .i64 s.time) rfl
  have k8 := M1.c 8 (v := .int .i64 o2.op) rfl
  have k9 := M1.c 9 (v := .int .i64 o2.frm) rfl
  have k10 := M1.c 10 (v := .int .i64 o2.to) rfl
  have k11 := M1.c 11 (v := .int .i64 o2.nxt) rfl
  have kg : wo.cell? ⟨g1, o2.frm.toNat, none⟩ = some (.int .i64 (wordAt s o2.frm)) := M1.wc _ (by omega)
  generalize hsv : sgn (wordAt s o2.frm) = sg at hng hwh hsg
  generalize hwv : wordAt s o2.frm = wa at hw hsg kg
  have Hng := Lib.hid hng
  clear hng hsv hwv
  go_upto_region 1 with fail
  go_cut [2, 3] (fun s2 s3 wx => s2 = .int .i64 (whenAt o2 (decide (sg < 0))) ∧ s3 = .int .i64 (whenUntil o2 s.time (decide (sg < 0))) ∧ Ext wo wx)
  case first =>
   go_region_held3 (fun w' => Ext wo w' ∧ w'.cell? ⟨m, 0, none⟩ = some (.slice (some ⟨g1, 0, none⟩) 128 c1) ∧ w'.cell? ⟨m, 4, none⟩ = some (.int .i64 s.time) ∧ w'.cell? ⟨m, 8, none⟩ = some (.int .i64 o2.op) ∧ w'.cell? ⟨m, 9, none⟩ = some (.int .i64 o2.frm) ∧ w'.cell? ⟨m, 10, none⟩ = some (.int .i64 o2.to) ∧ w'.cell? ⟨m, 11, none⟩ = some (.int .i64 o2.nxt) ∧ w'.cell? ⟨g1, o2.frm.toNat, none⟩ = some (.int .i64 wa))
    (first | exact ⟨(Ext.refl wo).drew, k0, k4, k8, k9, k10, k11, kg⟩ | exact ⟨Ext.comp (Ext.refl wo).drew hb', cell_later hb' k0, cell_later hb' k4, cell_later hb' k8, cell_later hb' k9, cell_later hb' k10, cell_later hb' k11, cell_later hb' kg⟩ | (have hh := ‹Ext wo _ ∧ _ ∧ _›; exact ⟨Ext.comp hh.1 hb', cell_later hb' hh.2.1, cell_later hb' hh.2.2.1, cell_later hb' hh.2.2.2.1, cell_later hb' hh.2.2.2.2.1, cell_later hb' hh.2.2.2.2.2.1, cell_later hb' hh.2.2.2.2.2.2.1, cell_later hb' hh.2.2.2.2.2.2.2⟩))
    (first | (go_at_call 106; refine (from_ext _ (by first | exact M1.ext (‹Ext wo _ ∧ _›).1 | exact M1.ext (Ext.refl wo).drew) a0 a1).mono ?_; rintro e w' ⟨rfl, hb'⟩) | (go_at_call 105; refine (hsg _).mono ?_; rintro e w' ⟨rfl, hb'⟩) | (go_at_call 104; refine (hwh _).mono ?_; rintro e w' ⟨rfl, hb'⟩))
   all_goals
    go_wp2_with fail
    go_meet
    exact ⟨rfl, rfl, (‹Ext wo _ ∧ _›).1⟩
  case rest =>
   obtain ⟨rfl, rfl, E2⟩ := hcut
   obtain ⟨a2, ct, htv, _⟩ := M1.tp
   obtain ⟨a3, cp, hpv⟩ : ∃ a3 cp, pv = .slice a3 s.printed.length cp := by
    rcases M1.prow.2 with ⟨h1, h2⟩ | ⟨g, cap, cur, h1, _⟩
    ·exact ⟨none, 0, by rw [h2]; exact h1⟩
    ·exact ⟨_, _, h1⟩
   have M2 := M1.ext E2
   have C2 : Chg (Own3 m g1 pv) w wc := C1.ext E2
   clear M1 C1 E2 hwh hsg k0 k4 k8 k9 k10 k11 kg
   have k1 := M2.c 1 (v := .slice a2 s.tape.length ct) (by rw [← htv]; rfl)
   have k2 := M2.c 2 (v := .int .i64 s.taken) rfl
   have k3 := M2.c 3 (v := .slice a3 s.printed.length cp) (by rw [← hpv]; rfl)
   have k7 := M2.c 7 (v := .int .i64 0) (by rw [← hy]; rfl)
   have f7 := M2.f 7
   have k8 := M2.c 8 (v := .int .i64 o2.op) rfl
   have hl1 := HV.out.tlen
   have hl2 := HV.out.plen
   have ht1 := HV.out.taken
   have hd1 := HV.out.done
   have hwt := HV.out.word o2.to b0 b1
   have hwf := HV.out.word o2.frm a0 a1
   have hun : untilAt s = whenUntil o2 s.time (decide (sg < 0)) := by rw [← Hng.out, ← Ho.out]; rfl
   have hat : whenAt (ordAt s) (negAt s) = whenAt o2 (decide (sg < 0)) := by rw [← Hng.out, Ho.out]
   generalize whenUntil o2 s.time (decide (sg < 0)) = un at hun ⊢
   generalize whenAt o2 (decide (sg < 0)) = atv at hat ⊢
   have Hun := Lib.hid hun
   have Hat := Lib.hid hat
   have Hy := Lib.hid hy
   clear hun hat htv hpv hy
   obtain hop | hop | hop | hop | hop | hop | hop | hop : o2.op = 0 ∨ o2.op = 1 ∨ o2.op = 2 ∨ o2.op = 3 ∨ o2.op = 4 ∨ o2.op = 5 ∨ o2.op = 6 ∨ o2.op = 7 := by omega
   ·rw [hop] at k8
    have Hop := Lib.hid hop; clear hop
    go_wp2_with fail
    go_end0
    exact fin_why M2 C2 (by rfl) (by rfl) (by rfl) (by rfl) (stepQ_end (by simp [whyAt, Ho.out, Hop.out]) (by decide))
   ·rw [hop] at k8
    by_cases hu : 1000000000 < un
    ·have Hop := Lib.hid hop; clear hop
     go_wp2_with fail
     go_end0
     exact fin_why M2 C2 (by rfl) (by rfl) (by rfl) (by rfl) (stepQ_end (by simp [whyAt, Ho.out, Hop.out, Hun.out, hu]) (by decide))
    ·have Hop := Lib.hid hop; clear hop
     go_wp2_with fail
     refine (move_any _ (by exact M2.heapEq rfl) a0 a1 b0 b1).mono ?_
     rintro e w3 ⟨rfl, pv', M3, C3, hp⟩
     have n4 := M3.c 4 (v := .int .i64 s.time) rfl; have e4 := M3.f 4
     have n5 := M3.c 5 (v := .int .i64 s.at_) rfl; have e5 := M3.f 5
     have n6 := M3.c 6 (v := .int .i64 s.done) rfl; have e6 := M3.f 6
     go_wp2_with fail
     go_end0
     exact fin_do M3 C2 C3 hp (by rfl) (by rfl) (by rfl) (by rfl) (by rw [stepQ_go (by simp [whyAt, Ho.out, Hop.out, Hun.out, hu]), Hat.out, Hun.out, Ho.out]; simp [doQ, Hop.out])
   ·rw [hop] at k8
    by_cases hu : 1000000000 < un
    ·have Hop := Lib.hid hop; clear hop
     go_wp2_with fail
     go_end0
     exact fin_why M2 C2 (by rfl) (by rfl) (by rfl) (by rfl) (stepQ_end (by simp [whyAt, Ho.out, Hop.out, Hun.out, hu]) (by decide))
    ·have Hop := Lib.hid hop; clear hop
     go_wp2_with fail
     refine (add_any _ (by exact M2.heapEq rfl) a0 a1 b0 b1 hwf hwt).mono ?_
     rintro e w3 ⟨rfl, pv', M3, C3, hp⟩
     have n4 := M3.c 4 (v := .int .i64 s.time) rfl; have e4 := M3.f 4
     have n5 := M3.c 5 (v := .int .i64 s.at_) rfl; have e5 := M3.f 5
     have n6 := M3.c 6 (v := .int .i64 s.done) rfl; have e6 := M3.f 6
     go_wp2_with fail
     go_end0
     exact fin_do M3 C2 C3 hp (by rfl) (by rfl) (by rfl) (by rfl) (by rw [stepQ_go (by simp [whyAt, Ho.out, Hop.out, Hun.out, hu]), Hat.out, Hun.out, Ho.out]; simp [doQ, Hop.out])
   ·rw [hop] at k8
    by_cases hu : 1000000000 < un
    ·have Hop := Lib.hid hop; clear hop
     go_wp2_with fail
     go_end0
     exact fin_why M2 C2 (by rfl) (by rfl) (by rfl) (by rfl) (stepQ_end (by simp [whyAt, Ho.out, Hop.out, Hun.out, hu]) (by decide))
    ·have Hop := Lib.hid hop; clear hop
     go_wp2_with fail
     refine (sub_any _ (by exact M2.heapEq rfl) a0 a1 b0 b1 hwf hwt).mono ?_
     rintro e w3 ⟨rfl, pv', M3, C3, hp⟩
     have n4 := M3.c 4 (v := .int .i64 s.time) rfl; have e4 := M3.f 4
     have n5 := M3.c 5 (v := .int .i64 s.at_) rfl; have e5 := M3.f 5
     have n6 := M3.c 6 (v := .int .i64 s.done) rfl; have e6 := M3.f 6
     go_wp2_with fail
     go_end0
     exact fin_do M3 C2 C3 hp (by rfl) (by rfl) (by rfl) (by rfl) (by rw [stepQ_go (by simp [whyAt, Ho.out, Hop.out, Hun.out, hu]), Hat.out, Hun.out, Ho.out]; simp [doQ, Hop.out])
   ·rw [hop] at k8
    by_cases hu : 1000000000 < un
    ·have Hop := Lib.hid hop; clear hop
     go_wp2_with fail
     go_end0
     exact fin_why M2 C2 (by rfl) (by rfl) (by rfl) (by rfl) (stepQ_end (by simp [whyAt, Ho.out, Hop.out, Hun.out, hu]) (by decide))
    ·have Hop := Lib.hid hop; clear hop
     go_wp2_with fail
     refine (mul_any _ (by exact M2.heapEq rfl) a0 a1 b0 b1 hwf hwt).mono ?_
     rintro e w3 ⟨rfl, pv', M3, C3, hp⟩
     have n4 := M3.c 4 (v := .int .i64 s.time) rfl; have e4 := M3.f 4
     have n5 := M3.c 5 (v := .int .i64 s.at_) rfl; have e5 := M3.f 5
     have n6 := M3.c 6 (v := .int .i64 s.done) rfl; have e6 := M3.f 6
     go_wp2_with fail
     go_end0
     exact fin_do M3 C2 C3 hp (by rfl) (by rfl) (by rfl) (by rfl) (by rw [stepQ_go (by simp [whyAt, Ho.out, Hop.out, Hun.out, hu]), Hat.out, Hun.out, Ho.out]; simp [doQ, Hop.out])
   ·rw [hop] at k8
    by_cases hu : 1000000000 < un
    ·have Hop := Lib.hid hop; clear hop
     go_wp2_with fail
     go_end0
     exact fin_why M2 C2 (by rfl) (by rfl) (by rfl) (by rfl) (stepQ_end (by simp [whyAt, Ho.out, Hop.out, Hun.out, hu]) (by decide))
    ·have Hop := Lib.hid hop; clear hop
     go_wp2_with fail
     refine (nop_any _ (by exact M2.heapEq rfl)).mono ?_
     rintro e w3 ⟨rfl, pv', M3, C3, hp⟩
     have n4 := M3.c 4 (v := .int .i64 s.time) rfl; have e4 := M3.f 4
     have n5 := M3.c 5 (v := .int .i64 s.at_) rfl; have e5 := M3.f 5
     have n6 := M3.c 6 (v := .int .i64 s.done) rfl; have e6 := M3.f 6
     go_wp2_with fail
     go_end0
     exact fin_do M3 C2 C3 hp (by rfl) (by rfl) (by rfl) (by rfl) (by rw [stepQ_go (by simp [whyAt, Ho.out, Hop.out, Hun.out, hu]), Hat.out, Hun.out, Ho.out]; simp [doQ, Hop.out])
   ·rw [hop] at k8
    by_cases ht : s.taken = s.tape.length
    ·have htb : (s.taken == (s.tape.length : Int)) = true := by simpa using ht
     have Hop := Lib.hid hop; clear hop
     have Ht := Lib.hid ht; clear ht
     go_wp2_with fail
     go_quiet (fail)
     go_wp2_with fail
     go_end0
     exact fin_why M2 C2 (by rfl) (by rfl) (by rfl) (by rfl) (stepQ_end (by simp [whyAt, Ho.out, Hop.out, Ht.out]) (by decide))
    ·have htb : (s.taken == (s.tape.length : Int)) = false := by simpa using ht
     by_cases hu : 1000000000 < un
     ·have Hop := Lib.hid hop; clear hop
      go_wp2_with fail
      go_quiet (fail)
      go_wp2_with fail
      go_end0
      exact fin_why M2 C2 (by rfl) (by rfl) (by rfl) (by rfl) (stepQ_end (by simp [whyAt, Ho.out, Hop.out, ht, Hun.out, hu]) (by decide))
     ·have Hop := Lib.hid hop; clear hop
      go_wp2_with fail
      go_quiet (fail)
      go_wp2_with fail
      refine (read_any _ (by exact M2.heapEq rfl) b0 b1 ht1.1 (by omega) hl1).mono ?_
      rintro e w3 ⟨rfl, pv', M3, C3, hp⟩
      have n4 := M3.c 4 (v := .int .i64 s.time) rfl; have e4 := M3.f 4
      have n5 := M3.c 5 (v := .int .i64 s.at_) rfl; have e5 := M3.f 5
      have n6 := M3.c 6 (v := .int .i64 s.done) rfl; have e6 := M3.f 6
      go_wp2_with fail
      go_end0
      exact fin_do M3 C2 C3 hp (by rfl) (by rfl) (by rfl) (by rfl) (by rw [stepQ_go (by simp [whyAt, Ho.out, Hop.out, ht, Hun.out, hu]), Hat.out, Hun.out, Ho.out]; simp [doQ, Hop.out])
   ·rw [hop] at k8
    by_cases ht : s.printed.length = 200
    ·have htb : ((s.printed.length : Int) == 200) = true := by rw [beq_iff_eq]; omega
     have Hop := Lib.hid hop; clear hop
     have Ht := Lib.hid ht; clear ht
     go_wp2_with fail
     go_end0
     exact fin_why M2 C2 (by rfl) (by rfl) (by rfl) (by rfl) (stepQ_end (by simp [whyAt, Ho.out, Hop.out, Ht.out]) (by decide))
    ·have htb : ((s.printed.length : Int) == 200) = false := by rw [beq_eq_false_iff_ne]; omega
     by_cases hu : 1000000000 < un
     ·have Hop := Lib.hid hop; clear hop
      go_wp2_with fail
      go_end0
      exact fin_why M2 C2 (by rfl) (by rfl) (by rfl) (by rfl) (stepQ_end (by simp [whyAt, Ho.out, Hop.out, ht, Hun.out, hu]) (by decide))
     ·have Hop := Lib.hid hop; clear hop
      go_wp2_with fail
      refine (print_any _ (by exact M2.heapEq rfl) a0 a1 (by omega)).mono ?_
      rintro e w3 ⟨rfl, pv', M3, C3, hp⟩
      have n4 := M3.c 4 (v := .int .i64 s.time) rfl; have e4 := M3.f 4
      have n5 := M3.c 5 (v := .int .i64 s.at_) rfl; have e5 := M3.f 5
      have n6 := M3.c 6 (v := .int .i64 s.done) rfl; have e6 := M3.f 6
      go_wp2_with fail
      go_end0
      exact fin_do M3 C2 C3 hp (by rfl) (by rfl) (by rfl) (by rfl) (by rw [stepQ_go (by simp [whyAt, Ho.out, Hop.out, ht, Hun.out, hu]), Hat.out, Hun.out, Ho.out]; simp [doQ, Hop.out])
end Go.Proofs.YtnhpcoagkmgdoaaGreat
/- Layer 4 in plain Lean, on: what a checked state is; a run. -/
namespace Go.Q
theorem idxQ_all {p : Int → Bool} {xs : List Int} (h : ¬ 0 ≤ idxQ p xs) : ∀ x ∈ xs, p x = false := by
 have e := idxQ_nonneg p xs
 rw [decide_eq_false h] at e
 intro x hx
 have := List.any_eq_false.1 e.symm x hx
 simpa using this
theorem badW_no {n : Int} (h : badW n = false) : 0 ≤ n ∧ n ≤ 16777215 := wordB_bd (by simpa [badW] using h)
/-- the error of a state and a number of orders -/
def askedQ (s : St) (most : Int) : Int := if (checkQ s).2.2 ≠ 0 then (checkQ s).2.2 else if inB most 0 5000 = true then 0 else 7
theorem valid_of_check {s : St} (h : (checkQ s).2.2 = 0) : Valid s := by
 unfold checkQ at h
 split at h
 ·simp at h
 split at h
 ·simp at h
 split at h
 ·simp at h
 split at h
 ·simp at h
 split at h
 ·simp at h
 split at h
 ·simp at h
 rename_i h1 h2 h3 h4 h5 h6
 have h1' : lensB s = true := by simpa using h1
 have h5' : fieldsB s = true := by simpa using h5
 simp only [lensB, Bool.and_eq_true, beq_iff_eq, decide_eq_true_eq] at h1'
 simp only [fieldsB, Bool.and_eq_true, addrB] at h5'
 obtain ⟨⟨⟨⟨a1, a2⟩, a3⟩, a4⟩, a5⟩ := h5'
 exact ⟨h1'.1.1, h1'.1.2, h1'.2, fun x hx => badW_no (idxQ_all h2 x hx), fun x hx => badW_no (idxQ_all h3 x hx), fun x hx => badW_no (idxQ_all h4 x hx),
  inB_bd a1, inB_bd a2, inB_bd a3, inB_bd a4, inB_bd a5, by simpa using h6⟩
end Go.Q

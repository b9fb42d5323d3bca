import Derived.Test.YtbcciokmlkofkaaGreatWA9
set_option linter.unusedVariables false
set_option linter.unusedSimpArgs false
/- Contracts: slices.Clone, machine.from, machine.to. -/
namespace Go.Proofs.YtbcciokmlkofkaaGreat
open Go.RowKit Go.Q
theorem Tryz.infoE : (Tryz.prog.info? 3).map (fun i => (i.zero, i.size, i.bytes)) = some (some (.int .i64 0), 1, 8) := by kernel_rfl
/-- numbers as values -/
def iv (xs : List Int) : List Value := xs.map (Value.int .i64)
theorem iv_length (xs : List Int) : (iv xs).length = xs.length := by simp [iv]
theorem iv_get (xs : List Int) (i : Nat) (h : i < xs.length) : (iv xs)[i]? = some (.int .i64 (xs[i]?.getD 0)) := by simp [iv, h]
theorem iv_one (xs : List Int) : ∀ u ∈ iv xs, u.oneCell' = true := by
  intro u hu; simp [iv] at hu; obtain ⟨x, _, rfl⟩ := hu; rfl
theorem ownsRow_fresh (w : World) (t : TypeId) : (w.alloc (.cells #[] t)).ownsRow w.heap.size t 1 (.slice (some ⟨w.heap.size, 0, none⟩) 0 0) 0 [] :=
  ⟨rfl, .inr ⟨w.heap.size, 0, #[], rfl, Nat.le_refl _, by show (w.heap.push _)[w.heap.size]? = _; simp, Nat.le_refl _, by simp [maxLen], rfl, rfl⟩⟩
set_option maxHeartbeats 1000000 in
theorem clone_nil (n cap : Nat) (w : World) : Calls Tryz.prog 63 #[.slice none n cap] w fun e w' => e = .returned (.slice none 0 0) ∧ w = w' := by
  have hnil := fun (W : World) => Lib.run_eql_slice_nil (P := Tryz.prog) W 22 3 none n cap 0 0 Tryz.underlying22
  go_enter Tryz.func63, Tryz.ntmps63
  go_wp2
  go_ret
  exact ⟨rfl, rfl⟩
/-- the result is a slice of the call's own that holds xs -/
def OwnRes (n : Nat) (xs : List Int) (w : World) (e : Ending) (w' : World) : Prop :=
  ∃ a c, e = .returned (.slice a n c) ∧ w'.ownsRow w.heap.size 3 1 (.slice a n c) n (iv xs) ∧ Ext w w'
theorem own_form {w : World} {nb t n : Nat} {v : Value} {xs : List Value} (h : w.ownsRow nb t 1 v n xs) : ∃ a c, v = .slice a n c := by
  rcases h.2 with ⟨h1, h2⟩ | ⟨g, cap, cur, h1, _⟩
  · exact ⟨none, 0, by rw [h2]; exact h1⟩
  · exact ⟨_, _, h1⟩
set_option maxHeartbeats 1000000 in
theorem clone_some (ad : Addr) (n cap : Nat) (xs : List Int) (w : World) (hn : xs.length = n) (hbig : n ≤ 17592186044416)
    (hI : ∀ j u, (iv xs)[j]? = some u → w.cell? (ad.add j) = some u) :
    Calls Tryz.prog 63 #[.slice (some ad) n cap] w (OwnRes n xs w) := by
  obtain ⟨i0, hi, hz0, hz1, hz2⟩ := info_parts Tryz.infoE
  have hnil := fun (W : World) => Lib.run_eql_slice_nil (P := Tryz.prog) W 22 3 (some ad) n cap 0 0 Tryz.underlying22
  go_enter Tryz.func63, Tryz.ntmps63
  go_wp2_with (at_builtin; refine wpList_append_own _ rfl _ _ 22 rfl w.heap.size 3 i0 (.int .i64 0) 1 8 Tryz.underlying22 hi hz0 hz1 hz2 rfl (by decide) _ 0 [] rfl (ownsRow_fresh w 3) ad n cap (iv xs) rfl ?c1 ?c2 (iv_one xs) ?c3 ?c4 ?c5 ?_)
  case c1 => simp [iv_length, hn]
  case c2 => exact fun j u hu => cell_later ((Ext.refl w).alloc _) (hI j u hu)
  case c3 => unfold maxLen; omega
  case c4 => omega
  case c5 => simp
  intro v' w1 hown' hgrow _
  have hx : Ext w w1 := ((Ext.refl w).alloc _).grown hgrow (by simp) (fun k e => by simp [Value.ownBlock] at e; omega)
  obtain ⟨a', c', hv'⟩ : ∃ a' c', v' = .slice a' n c' := by
    obtain ⟨a', c', h⟩ := own_form hown'
    exact ⟨a', c', by simpa using h⟩
  rw [hv'] at hown' ⊢
  clear hI hgrow hv'
  go_wp2
  go_ret
  exact ⟨a', c', rfl, by simpa using hown', hx⟩
theorem clone_any (a : Option Addr) (n cap : Nat) (xs : List Int) (w : World) (hn : xs.length = n) (hbig : n ≤ 17592186044416) (hI : IntsAt w a xs) :
    Calls Tryz.prog 63 #[.slice a n cap] w (OwnRes n xs w) := by
  cases a with
  | none =>
    have hx : xs = [] := by
      rcases hI with h | ⟨b, off, h, _⟩
      · exact h
      · cases h
    subst hx
    obtain rfl : n = 0 := hn.symm
    exact (clone_nil 0 cap w).mono fun e w' ⟨h1, h2⟩ => ⟨none, 0, h1, by rw [← h2]; exact World.ownsRow_nil w _ _ _, by rw [← h2]; exact Ext.refl w⟩
  | some ad =>
    refine clone_some ad n cap xs w hn hbig fun j u hu => ?_
    have hj : j < xs.length := by
      rcases Nat.lt_or_ge j xs.length with h | h
      · exact h
      · rw [List.getElem?_eq_none (by simpa [iv_length] using h)] at hu; cases hu
    rcases hI with h | ⟨b, off, h, hb, hc⟩
    · subst h; simp at hj
    · obtain rfl := Option.some.inj h
      rw [iv_get xs j hj] at hu
      obtain rfl := Option.some.inj hu
      rw [Addr.add_lit]
      exact hc j hj
end Go.Proofs.YtbcciokmlkofkaaGreat
/- The machine in memory: what its blocks hold, and what stays of that behind each kind of write. -/
namespace Go.Proofs.YtbcciokmlkofkaaGreat
open Go.RowKit Go.Q
def mcells (g1 c1 : Nat) (tv pv : Value) (s : St) (o : Ord) : Array Value :=
  #[.slice (some ⟨g1, 0, none⟩) 128 c1, tv, .int .i64 s.taken, pv, .int .i64 s.time, .int .i64 s.at_, .int .i64 s.done, .int .i64 s.why, .int .i64 o.op, .int .i64 o.frm, .int .i64 o.to, .int .i64 o.nxt]
/-- the machine lies at m: its store in block g1, its tape tv, its paper pv -/
structure Mac (w : World) (nb m g1 c1 : Nat) (tv pv : Value) (s : St) (o : Ord) : Prop where
  low : nb ≤ m ∧ nb ≤ g1 ∧ m ≠ g1
  blk : w.heap[m]? = some (.cells (mcells g1 c1 tv pv s o) 103 (0, 0))
  st : ∃ cur, w.heap[g1]? = some (.cells cur 3 (0, 0)) ∧ cur.toList.take 128 = iv s.store
  len : s.store.length = 128
  tp : ∃ a2 c2, tv = .slice a2 s.tape.length c2 ∧ (s.tape = [] ∨ ∃ b off, a2 = some ⟨b, off, none⟩ ∧ (∃ cur, w.heap[b]? = some (.cells cur 3 (0, 0))) ∧ b ≠ m ∧ b ≠ g1 ∧ pv.ownBlock ≠ some b ∧ ∀ i, i < s.tape.length → w.cell? ⟨b, off + i, none⟩ = some (.int .i64 (s.tape[i]?.getD 0)))
  prow : w.ownsRow nb 3 1 pv s.printed.length (iv s.printed)
  pm : pv.ownBlock ≠ some m
  pg : pv.ownBlock ≠ some g1
theorem cells_set {w : World} {m : Nat} {cs : Array Value} {t : TypeId} (h : w.heap[m]? = some (.cells cs t (0, 0))) (i : Nat) (v : Value) :
    (w.setCell ⟨m, i, none⟩ v).heap[m]? = some (.cells (cs.setIfInBounds i v) t (0, 0)) := by
  have hlt := lt_of_block h
  have h' : w.heap[m] = .cells cs t (0, 0) := by simpa [Array.getElem?_eq_getElem hlt] using h
  show (w.heap.modify m _)[m]? = _
  rw [Array.getElem?_eq_getElem (by simpa using hlt), Array.getElem_modify_self, h']
  rfl
theorem cell_of_cells {w : World} {m : Nat} {cs : Array Value} {t : TypeId} (h : w.heap[m]? = some (.cells cs t (0, 0))) (i : Nat) {v : Value} (hv : cs[i]? = some v) : w.cell? ⟨m, i, none⟩ = some v := by
  simp [World.cell?, h, hv]
theorem free_of_cells {w : World} {m : Nat} {cs : Array Value} {t : TypeId} (h : w.heap[m]? = some (.cells cs t (0, 0))) (i : Nat) : w.frozen? ⟨m, i, none⟩ = false := by
  simp [World.frozen?, h]
variable {w : World} {nb m g1 c1 : Nat} {tv pv : Value} {s : St} {o : Ord}
theorem Mac.c (h : Mac w nb m g1 c1 tv pv s o) (i : Nat) {v : Value} (hv : (mcells g1 c1 tv pv s o)[i]? = some v) : w.cell? ⟨m, i, none⟩ = some v := cell_of_cells h.blk i hv
theorem Mac.f (h : Mac w nb m g1 c1 tv pv s o) (i : Nat) : w.frozen? ⟨m, i, none⟩ = false := free_of_cells h.blk i
theorem Mac.wc (h : Mac w nb m g1 c1 tv pv s o) (i : Nat) (hi : i < 128) : w.cell? ⟨g1, i, none⟩ = some (.int .i64 (s.store[i]?.getD 0)) := by
  obtain ⟨cur, hg, ht⟩ := h.st
  refine cell_of_cells hg i ?_
  have e := iv_get s.store i (by rw [h.len]; exact hi)
  rw [← ht, List.getElem?_take, if_pos hi] at e
  simpa using e
theorem Mac.wf (h : Mac w nb m g1 c1 tv pv s o) (i : Nat) : w.frozen? ⟨g1, i, none⟩ = false := by
  obtain ⟨cur, hg, _⟩ := h.st
  exact free_of_cells hg i
theorem Mac.ltm (h : Mac w nb m g1 c1 tv pv s o) : m < w.heap.size := lt_of_block h.blk
theorem Mac.ltg (h : Mac w nb m g1 c1 tv pv s o) : g1 < w.heap.size := by obtain ⟨cur, hg, _⟩ := h.st; exact lt_of_block hg
theorem own_lt {w : World} {nb t n : Nat} {pv : Value} {xs : List Value} (h : w.ownsRow nb t 1 pv n xs) {b : Nat} (hb : pv.ownBlock = some b) : b < w.heap.size := by
  rcases h.2 with ⟨rfl, _⟩ | ⟨g, cap, cur, rfl, _, hg, _⟩
  · cases hb
  · obtain rfl : g = b := by simpa [Value.ownBlock] using hb
    exact lt_of_block hg
theorem own_later {w w' : World} {nb t n : Nat} {pv : Value} {xs : List Value} (h : w.ownsRow nb t 1 pv n xs) (hb : ∀ b, pv.ownBlock = some b → w'.heap[b]? = w.heap[b]?) : w'.ownsRow nb t 1 pv n xs := by
  refine ⟨h.1, ?_⟩
  rcases h.2 with h2 | ⟨g, cap, cur, rfl, hbg, hg, r⟩
  · exact .inl h2
  · exact .inr ⟨g, cap, cur, rfl, hbg, (hb g rfl).trans hg, r⟩
/-- nothing of the machine has turned -/
theorem Mac.same {w' : World} (h : Mac w nb m g1 c1 tv pv s o) (hz : w.heap.size ≤ w'.heap.size) (hb : ∀ k, k < w.heap.size → w'.heap[k]? = w.heap[k]?) : Mac w' nb m g1 c1 tv pv s o where
  low := h.low
  blk := (hb _ h.ltm).trans h.blk
  st := by obtain ⟨cur, hg, ht⟩ := h.st; exact ⟨cur, (hb _ h.ltg).trans hg, ht⟩
  len := h.len
  tp := by
    obtain ⟨a2, c2, hv, ht⟩ := h.tp
    refine ⟨a2, c2, hv, ?_⟩
    rcases ht with ht | ⟨b, off, ha, ⟨cu, hcu⟩, h1, h2, h3, hc⟩
    · exact .inl ht
    · have hlt := lt_of_block hcu
      exact .inr ⟨b, off, ha, ⟨cu, (hb b hlt).trans hcu⟩, h1, h2, h3, fun i hi => (World.cell?_of_block (w := w) (hb b hlt)).trans (hc i hi)⟩
  prow := own_later h.prow (fun b e => hb b (own_lt h.prow e))
  pm := h.pm
  pg := h.pg
theorem Mac.ext {w' : World} (h : Mac w nb m g1 c1 tv pv s o) (e : Ext w w') : Mac w' nb m g1 c1 tv pv s o := h.same e.size e.block
theorem Mac.drewN (h : Mac w nb m g1 c1 tv pv s o) (n : Nat) : Mac (w.drewN n) nb m g1 c1 tv pv s o := h.same (Nat.le_refl _) (fun _ _ => rfl)
theorem Mac.heapEq {w' : World} (h : Mac w nb m g1 c1 tv pv s o) (e : w'.heap = w.heap) : Mac w' nb m g1 c1 tv pv s o := h.same (by rw [e]; exact Nat.le_refl _) (fun k _ => by rw [e])
/-- one of the machine's own cells is written -/
theorem Mac.setm (h : Mac w nb m g1 c1 tv pv s o) (i : Nat) (v : Value) (s' : St) (o' : Ord) (he : mcells g1 c1 tv pv s' o' = (mcells g1 c1 tv pv s o).setIfInBounds i v)
    (e1 : s'.store = s.store) (e2 : s'.tape = s.tape) (e3 : s'.printed = s.printed) : Mac (w.setCell ⟨m, i, none⟩ v) nb m g1 c1 tv pv s' o' where
  low := h.low
  blk := by rw [he]; exact cells_set h.blk i v
  st := by
    obtain ⟨cur, hg, ht⟩ := h.st
    exact ⟨cur, (Below.heap_setCell _ _ _ _ (fun e => h.low.2.2 e.symm)).trans hg, by rw [e1]; exact ht⟩
  len := by rw [e1]; exact h.len
  tp := by
    obtain ⟨a2, c2, hv, ht⟩ := h.tp
    refine ⟨a2, c2, by rw [e2]; exact hv, ?_⟩
    rw [e2]
    rcases ht with ht | ⟨b, off, ha, ⟨cu, hcu⟩, h1, h2, h3, hc⟩
    · exact .inl ht
    · exact .inr ⟨b, off, ha, ⟨cu, (Below.heap_setCell _ _ _ _ h1).trans hcu⟩, h1, h2, h3, fun i hi => (World.cell?_of_block (w := w) (Below.heap_setCell _ _ _ _ h1)).trans (hc i hi)⟩
  prow := by rw [e3]; exact own_later h.prow (fun b e => Below.heap_setCell _ _ _ _ (fun e' => h.pm (by rw [e]; exact congrArg some e')))
  pm := h.pm
  pg := h.pg
/-- a word of the store is written -/
theorem Mac.sets (h : Mac w nb m g1 c1 tv pv s o) (i : Nat) (hi : i < 128) (x : Int) (s' : St) (es : s' = { s with store := s.store.set i x }) : Mac (w.setCell ⟨g1, i, none⟩ (.int .i64 x)) nb m g1 c1 tv pv s' o where
  low := h.low
  blk := by subst es; exact (Below.heap_setCell _ _ _ _ h.low.2.2).trans h.blk
  st := by
    subst es
    obtain ⟨cur, hg, ht⟩ := h.st
    refine ⟨_, cells_set hg i _, ?_⟩
    show ((cur.setIfInBounds i (.int .i64 x)).toList).take 128 = iv (s.store.set i x)
    rw [Array.toList_setIfInBounds, List.take_set, ht]
    simp [iv, List.map_set]
  len := by subst es; simpa using h.len
  tp := by
    subst es
    obtain ⟨a2, c2, hv, ht⟩ := h.tp
    refine ⟨a2, c2, hv, ?_⟩
    rcases ht with ht | ⟨b, off, ha, ⟨cu, hcu⟩, h1, h2, h3, hc⟩
    · exact .inl ht
    · exact .inr ⟨b, off, ha, ⟨cu, (Below.heap_setCell _ _ _ _ h2).trans hcu⟩, h1, h2, h3, fun i hi => (World.cell?_of_block (w := w) (Below.heap_setCell _ _ _ _ h2)).trans (hc i hi)⟩
  prow := by subst es; exact own_later h.prow (fun b e => Below.heap_setCell _ _ _ _ (fun e' => h.pg (by rw [e]; exact congrArg some e')))
  pm := h.pm
  pg := h.pg
end Go.Proofs.YtbcciokmlkofkaaGreat

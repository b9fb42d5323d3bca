import Derived.StillTailTactics
import Derived.Deep.RegionLaw
import Derived.Deep.AppendLies
import Derived.BigRegion
import Derived.Test.YtbcciokmlkofkaaGreatWB1
set_option linter.unusedVariables false
set_option linter.unusedSimpArgs false
/- Contracts: machine.from, to, and what an order does: move, add, sub, mul, read, print. -/
namespace Go.Proofs.YtbcciokmlkofkaaGreat
open Go.RowKit Go.Q
variable {nb m g1 c1 : Nat} {tv pv : Value} {s : St} {o : Ord}
set_option maxHeartbeats 1000000 in
theorem from_any (w : World) (h : Mac w nb m g1 c1 tv pv s o) (h0 : 0 ≤ o.frm) (h1 : o.frm ≤ 127) :
    Calls Tryz.prog 82 #[.pointer (some ⟨m, 0, none⟩)] w fun e w' => e = .returned (.pointer (some ⟨g1, o.frm.toNat, none⟩)) ∧ ∃ n, w' = w.drewN n := by
  have q0 := h.c 0 (v := .slice (some ⟨g1, 0, none⟩) 128 c1) rfl
  have q9 := h.c 9 (v := .int .i64 o.frm) rfl
  clear h
  generalize o.frm = f at q9 h0 h1 ⊢
  go_enter Tryz.func82, Tryz.ntmps82
  go_wp2
  go_quiet (fail)
  go_wp2
  go_ret
  exact ⟨rfl, _, rfl⟩
set_option maxHeartbeats 1000000 in
theorem to_any (w : World) (h : Mac w nb m g1 c1 tv pv s o) (h0 : 0 ≤ o.to) (h1 : o.to ≤ 127) :
    Calls Tryz.prog 102 #[.pointer (some ⟨m, 0, none⟩)] w fun e w' => e = .returned (.pointer (some ⟨g1, o.to.toNat, none⟩)) ∧ ∃ n, w' = w.drewN n := by
  have q0 := h.c 0 (v := .slice (some ⟨g1, 0, none⟩) 128 c1) rfl
  have q9 := h.c 10 (v := .int .i64 o.to) rfl
  clear h
  generalize o.to = f at q9 h0 h1 ⊢
  go_enter Tryz.func102, Tryz.ntmps102
  go_wp2
  go_quiet (fail)
  go_wp2
  go_ret
  exact ⟨rfl, _, rfl⟩
/-- the blocks that an order may write -/
def Own3 (m g1 : Nat) (pv : Value) (k : Nat) : Prop := k = m ∨ k = g1 ∨ pv.ownBlock = some k
/-- a method has changed the machine, and nothing else that was there -/
def DoRes (nb m g1 c1 : Nat) (tv pv : Value) (s' : St) (o' : Ord) (w : World) (e : Ending) (w' : World) : Prop :=
  e = .returned (.tuple #[]) ∧ ∃ pv', Mac w' nb m g1 c1 tv pv' s' o' ∧ Chg (Own3 m g1 pv) w w' ∧ (pv'.ownBlock = pv.ownBlock ∨ ∃ k, pv'.ownBlock = some k ∧ w.heap.size ≤ k)
theorem do_store {w : World} (h : Mac w nb m g1 c1 tv pv s o) (n : Nat) (t : Nat) (ht : t < 128) (x : Int) :
    DoRes nb m g1 c1 tv pv { s with store := s.store.set t x } o w (.returned (.tuple #[])) ((w.drewN n).setCell ⟨g1, t, none⟩ (.int .i64 x)) :=
  ⟨rfl, pv, (h.drewN n).sets t ht x _ rfl, (Chg.heapEq rfl rfl rfl rfl : Chg _ w (w.drewN n)).setCell _ (.inr (.inl rfl)) _, .inl rfl⟩
theorem do_read {w : World} (h : Mac w nb m g1 c1 tv pv s o) (n : Nat) (t : Nat) (ht : t < 128) (x : Int) :
    DoRes nb m g1 c1 tv pv { s with store := s.store.set t x, taken := s.taken + 1 } o w (.returned (.tuple #[])) (((w.drewN n).setCell ⟨g1, t, none⟩ (.int .i64 x)).setCell ⟨m, 2, none⟩ (.int .i64 (s.taken + 1))) :=
  ⟨rfl, pv, ((h.drewN n).sets t ht x _ rfl).setm 2 _ _ o rfl rfl rfl rfl, ((Chg.heapEq rfl rfl rfl rfl : Chg _ w (w.drewN n)).setCell _ (.inr (.inl rfl)) _).setCell _ (.inl rfl) _, .inl rfl⟩
theorem own_alloc {w W : World} {nb t n : Nat} {pv : Value} {xs : List Value} (h : w.ownsRow nb t 1 pv n xs) (o : Obj) (e : W.heap = (w.alloc o).heap) : W.ownsRow nb t 1 pv n xs :=
  own_later h (fun b hb => by rw [e]; exact Below.heap_alloc w o b (own_lt h hb))
theorem grown_old {w W w1 : World} {ob : Obj} {row : Option Nat} (eW : W.heap = (w.alloc ob).heap) (hg : W.grownBy w1 row) (k : Nat) (hk : k < w.heap.size) (hr : row ≠ some k) : w1.heap[k]? = w.heap[k]? :=
  (hg.block k (by rw [eW]; show k < (w.alloc ob).heap.size; simp; omega) (fun e => hr e.symm)).trans (by rw [eW]; exact Below.heap_alloc w ob k hk)
theorem do_print {w W w1 : World} (h : Mac w nb m g1 c1 tv pv s o) (ob : Obj) (eW : W.heap = (w.alloc ob).heap) (h1 : W.os = w.os) (h2 : W.tape = w.tape) (h3 : W.output = w.output)
    (hg : W.grownBy w1 pv.ownBlock) (g k cap : Nat) (x : Int) (hk : k = s.printed.length + 1) (hown : w1.ownsRow nb 3 1 (.slice (some ⟨g, 0, none⟩) k cap) k (iv s.printed ++ [.int .i64 x]))
    (hat : pv.ownBlock = some g ∨ g = w.heap.size + 1) :
    DoRes nb m g1 c1 tv pv { s with printed := s.printed ++ [x] } o w (.returned (.tuple #[])) (w1.setCell ⟨m, 3, none⟩ (.slice (some ⟨g, 0, none⟩) k cap)) := by
  have lm := h.ltm
  have lg := h.ltg
  have old := fun i hi hr => grown_old (w := w) eW hg i hi hr
  have gm : g ≠ m := by rcases hat with e | e; · exact fun e' => h.pm (e' ▸ e)
                        · omega
  have gg : g ≠ g1 := by rcases hat with e | e; · exact fun e' => h.pg (e' ▸ e)
                         · omega
  have hz : w.heap.size ≤ w1.heap.size := by have := hg.size; rw [eW] at this; simp at this; omega
  refine ⟨rfl, .slice (some ⟨g, 0, none⟩) k cap, ?_, ?_, ?_⟩
  · refine ⟨h.low, ?_, ?_, h.len, ?_, ?_, fun e => gm (by simpa [Value.ownBlock] using e), fun e => gg (by simpa [Value.ownBlock] using e)⟩
    · exact cells_set ((old m lm h.pm).trans h.blk) 3 _
    · obtain ⟨cur, hc, ht⟩ := h.st
      exact ⟨cur, (Below.heap_setCell _ _ _ _ (fun e => h.low.2.2 e.symm)).trans ((old g1 lg h.pg).trans hc), ht⟩
    · obtain ⟨a2, c2, hv, ht⟩ := h.tp
      refine ⟨a2, c2, hv, ?_⟩
      rcases ht with ht | ⟨b, off, ha, ⟨cu, hcu⟩, i1, i2, i3, hc⟩
      · exact .inl ht
      · have hlt := lt_of_block hcu
        refine .inr ⟨b, off, ha, ⟨cu, (Below.heap_setCell _ _ _ _ i1).trans ((old b hlt i3).trans hcu)⟩, i1, i2, fun e => ?_, fun i hi => ?_⟩
        · have e' : g = b := by simpa [Value.ownBlock] using e
          rcases hat with e2 | e2
          · exact i3 (e' ▸ e2)
          · omega
        · exact (World.cell?_of_block (w := w) ((Below.heap_setCell _ _ _ _ i1).trans (old b hlt i3))).trans (hc i hi)
    · have e : (s.printed ++ [x]).length = k := by simp [hk]
      show World.ownsRow _ nb 3 1 _ (s.printed ++ [x]).length (iv (s.printed ++ [x]))
      rw [e]
      have e2 : iv (s.printed ++ [x]) = iv s.printed ++ [.int .i64 x] := by simp [iv]
      rw [e2]
      exact own_later hown (fun b hb => Below.heap_setCell _ _ _ _ (by have : g = b := by simpa [Value.ownBlock] using hb
                                                                       show b ≠ m
                                                                       omega))
  · refine Chg.setCell ?_ _ (.inl rfl) _
    refine ⟨hg.os.trans h1, hg.tape.trans h2, hg.output.trans h3, hz, fun i hi hs => old i hi (fun e => hs (.inr (.inr e)))⟩
  · rcases hat with e | e
    · exact .inl (by rw [e]; rfl)
    · exact .inr ⟨g, rfl, by omega⟩
set_option maxHeartbeats 1000000 in
theorem move_any (w : World) (h : Mac w nb m g1 c1 tv pv s o) (hf0 : 0 ≤ o.frm) (hf1 : o.frm ≤ 127) (ht0 : 0 ≤ o.to) (ht1 : o.to ≤ 127) :
    Calls Tryz.prog 84 #[.pointer (some ⟨m, 0, none⟩)] w (DoRes nb m g1 c1 tv pv { s with store := s.store.set o.to.toNat (wordAt s o.frm) } o w) := by
  have q1 : w.cell? ⟨g1, o.frm.toNat, none⟩ = some (.int .i64 (wordAt s o.frm)) := h.wc _ (by omega)
  have q2 := h.wc o.to.toNat (by omega)
  have q3 := h.wf o.to.toNat
  go_enter Tryz.func84, Tryz.ntmps84
  go_wp2_with fail
  refine (to_any _ h ht0 ht1).mono ?_
  rintro e w' ⟨rfl, n1, rfl⟩
  go_wp2_with fail
  refine (from_any _ (by exact h.heapEq rfl) hf0 hf1).mono ?_
  rintro e w' ⟨rfl, n2, rfl⟩
  go_wp2
  go_end0
  exact do_store h _ _ (by omega : o.to.toNat < 128) _
set_option maxHeartbeats 2000000 in
theorem add_any (w : World) (h : Mac w nb m g1 c1 tv pv s o) (hf0 : 0 ≤ o.frm) (hf1 : o.frm ≤ 127) (ht0 : 0 ≤ o.to) (ht1 : o.to ≤ 127)
    (ha : 0 ≤ wordAt s o.frm ∧ wordAt s o.frm ≤ 16777215) (hb : 0 ≤ wordAt s o.to ∧ wordAt s o.to ≤ 16777215) :
    Calls Tryz.prog 85 #[.pointer (some ⟨m, 0, none⟩)] w (DoRes nb m g1 c1 tv pv { s with store := s.store.set o.to.toNat ((wordAt s o.to + wordAt s o.frm) % 16777216) } o w) := by
  have q1 : w.cell? ⟨g1, o.frm.toNat, none⟩ = some (.int .i64 (wordAt s o.frm)) := h.wc _ (by omega)
  have q2 : w.cell? ⟨g1, o.to.toNat, none⟩ = some (.int .i64 (wordAt s o.to)) := h.wc _ (by omega)
  have q3 := h.wf o.to.toNat
  have ht : o.to.toNat < 128 := by omega
  obtain ⟨ha0, ha1⟩ := ha
  obtain ⟨hb0, hb1⟩ := hb
  have hw := IntWalk.i64_in (wordAt s o.to + wordAt s o.frm) (by omega)
  go_enter Tryz.func85, Tryz.ntmps85
  go_region_law (first | (go_simp; go_at_call 102; refine (to_any _ (by exact h.heapEq rfl) ht0 ht1).mono ?_; rintro e w' ⟨rfl, n1, rfl⟩) | (go_simp; go_at_call 82; refine (from_any _ (by exact h.heapEq rfl) hf0 hf1).mono ?_; rintro e w' ⟨rfl, n1, rfl⟩))
  all_goals
    go_end0
    exact do_store h _ _ ht _
set_option maxHeartbeats 2000000 in
theorem sub_any (w : World) (h : Mac w nb m g1 c1 tv pv s o) (hf0 : 0 ≤ o.frm) (hf1 : o.frm ≤ 127) (ht0 : 0 ≤ o.to) (ht1 : o.to ≤ 127)
    (ha : 0 ≤ wordAt s o.frm ∧ wordAt s o.frm ≤ 16777215) (hb : 0 ≤ wordAt s o.to ∧ wordAt s o.to ≤ 16777215) :
    Calls Tryz.prog 86 #[.pointer (some ⟨m, 0, none⟩)] w (DoRes nb m g1 c1 tv pv { s with store := s.store.set o.to.toNat ((wordAt s o.to - wordAt s o.frm) % 16777216) } o w) := by
  have q1 : w.cell? ⟨g1, o.frm.toNat, none⟩ = some (.int .i64 (wordAt s o.frm)) := h.wc _ (by omega)
  have q2 : w.cell? ⟨g1, o.to.toNat, none⟩ = some (.int .i64 (wordAt s o.to)) := h.wc _ (by omega)
  have q3 := h.wf o.to.toNat
  have ht : o.to.toNat < 128 := by omega
  obtain ⟨ha0, ha1⟩ := ha
  obtain ⟨hb0, hb1⟩ := hb
  have hw := IntWalk.i64_in (wordAt s o.to - wordAt s o.frm) (by omega)
  go_enter Tryz.func86, Tryz.ntmps86
  go_region_law (first | (go_simp; go_at_call 102; refine (to_any _ (by exact h.heapEq rfl) ht0 ht1).mono ?_; rintro e w' ⟨rfl, n1, rfl⟩) | (go_simp; go_at_call 82; refine (from_any _ (by exact h.heapEq rfl) hf0 hf1).mono ?_; rintro e w' ⟨rfl, n1, rfl⟩))
  all_goals
    go_end0
    exact do_store h _ _ ht _
theorem prod_bd {a b : Int} (ha : 0 ≤ a ∧ a ≤ 16777215) (hb : 0 ≤ b ∧ b ≤ 16777215) : -70368744177664 ≤ sgn a * sgn b ∧ sgn a * sgn b ≤ 70368744177664 := by
  have h1 : -8388608 ≤ sgn a ∧ sgn a ≤ 8388607 := by unfold sgn; split <;> omega
  have h2 : -8388608 ≤ sgn b ∧ sgn b ≤ 8388607 := by unfold sgn; split <;> omega
  have n1 : (sgn a).natAbs ≤ 8388608 := by omega
  have n2 : (sgn b).natAbs ≤ 8388608 := by omega
  have h3 : (sgn a * sgn b).natAbs ≤ 8388608 * 8388608 := by rw [Int.natAbs_mul]; exact Nat.mul_le_mul n1 n2
  omega
set_option maxHeartbeats 2000000 in
theorem mul_any (w : World) (h : Mac w nb m g1 c1 tv pv s o) (hf0 : 0 ≤ o.frm) (hf1 : o.frm ≤ 127) (ht0 : 0 ≤ o.to) (ht1 : o.to ≤ 127)
    (ha : 0 ≤ wordAt s o.frm ∧ wordAt s o.frm ≤ 16777215) (hb : 0 ≤ wordAt s o.to ∧ wordAt s o.to ≤ 16777215) :
    Calls Tryz.prog 87 #[.pointer (some ⟨m, 0, none⟩)] w (DoRes nb m g1 c1 tv pv { s with store := s.store.set o.to.toNat (Q.prod (wordAt s o.frm) (wordAt s o.to)) } o w) := by
  have q1 : w.cell? ⟨g1, o.frm.toNat, none⟩ = some (.int .i64 (wordAt s o.frm)) := h.wc _ (by omega)
  have q2 : w.cell? ⟨g1, o.to.toNat, none⟩ = some (.int .i64 (wordAt s o.to)) := h.wc _ (by omega)
  have q3 := h.wf o.to.toNat
  have ht : o.to.toNat < 128 := by omega
  obtain ⟨p0, p1⟩ := prod_bd ha hb
  have hp : Q.prod (wordAt s o.frm) (wordAt s o.to) = sgn (wordAt s o.frm) * sgn (wordAt s o.to) / 8388608 % 16777216 := rfl
  rw [hp]
  clear hp
  have k1 := fun W => signed_any (wordAt s o.frm) W ha.1 ha.2
  have k2 := fun W => signed_any (wordAt s o.to) W hb.1 hb.2
  generalize sgn (wordAt s o.frm) = x at *
  generalize sgn (wordAt s o.to) = y at *
  go_enter Tryz.func87, Tryz.ntmps87
  go_wp2_with fail
  refine (to_any _ h ht0 ht1).mono ?_
  rintro e w' ⟨rfl, n1, rfl⟩
  go_wp2_with fail
  refine (from_any _ (by exact h.heapEq rfl) hf0 hf1).mono ?_
  rintro e w' ⟨rfl, n2, rfl⟩
  go_wp2_with fail
  refine (k1 _).mono ?_
  rintro e w' ⟨rfl, rfl⟩
  go_wp2_with fail
  refine (to_any _ (by exact h.heapEq rfl) ht0 ht1).mono ?_
  rintro e w' ⟨rfl, n3, rfl⟩
  go_wp2_with fail
  refine (k2 _).mono ?_
  rintro e w' ⟨rfl, rfl⟩
  go_wp2
  go_end0
  exact do_store h _ _ ht _
set_option maxHeartbeats 2000000 in
theorem read_any (w : World) (h : Mac w nb m g1 c1 tv pv s o) (ht0 : 0 ≤ o.to) (ht1 : o.to ≤ 127) (hk0 : 0 ≤ s.taken) (hk1 : s.taken < s.tape.length) (hl : s.tape.length ≤ 200) :
    Calls Tryz.prog 88 #[.pointer (some ⟨m, 0, none⟩)] w (DoRes nb m g1 c1 tv pv { s with store := s.store.set o.to.toNat (s.tape[s.taken.toNat]?.getD 0), taken := s.taken + 1 } o w) := by
  have q2 := h.wc o.to.toNat (by omega)
  have q3 := h.wf o.to.toNat
  have ht : o.to.toNat < 128 := by omega
  have r1 := h.c 1 (v := tv) rfl
  have r2 := h.c 2 (v := .int .i64 s.taken) rfl
  have f2 := h.f 2
  have hm : m ≠ g1 := h.low.2.2
  obtain ⟨a2, c2, htv, hrest⟩ := h.tp
  rcases hrest with he | ⟨b, off, ha2, hlt, hbm, hbg, hbp, hc⟩
  · rw [he] at hk1; simp at hk1; omega
  clear hlt
  have r3 := hc s.taken.toNat (by omega)
  generalize s.tape[s.taken.toNat]?.getD 0 = x at *
  subst ha2
  have e1 : tv = .slice (some ⟨b, off, none⟩) s.tape.length c2 := htv
  rw [e1] at r1
  clear hc htv e1
  go_enter Tryz.func88, Tryz.ntmps88
  go_wp2
  go_region_law (first | (go_simp; go_at_call 102; refine (to_any _ (by exact h.heapEq rfl) ht0 ht1).mono ?_; rintro e w' ⟨rfl, n1, rfl⟩))
  all_goals go_wp2
  all_goals
    go_end0
    exact do_read h _ _ ht _
set_option maxHeartbeats 2000000 in
theorem print_any (w : World) (h : Mac w nb m g1 c1 tv pv s o) (hf0 : 0 ≤ o.frm) (hf1 : o.frm ≤ 127) (hl : s.printed.length < 200) :
    Calls Tryz.prog 89 #[.pointer (some ⟨m, 0, none⟩)] w (DoRes nb m g1 c1 tv pv { s with printed := s.printed ++ [wordAt s o.frm] } o w) := by
  obtain ⟨i0, hi, hz0, hz1, hz2⟩ := info_parts Tryz.infoE
  have q1 : w.cell? ⟨g1, o.frm.toNat, none⟩ = some (.int .i64 (wordAt s o.frm)) := h.wc _ (by omega)
  have r3 := h.c 3 (v := pv) rfl
  have lm := h.ltm
  have r3' : ∀ n ob, ((w.drewN n).alloc ob).cell? ⟨m, 3, none⟩ = some pv := fun n ob => cell_later ((Ext.refl (w.drewN n)).alloc ob) r3
  have hnb := h.low.1
  have hb := h.prow
  generalize wordAt s o.frm = x at *
  go_enter Tryz.func89, Tryz.ntmps89
  go_wp2
  go_region_law (first | (go_simp; go_at_call 82; refine (from_any _ (by exact h.heapEq rfl) hf0 hf1).mono ?_; rintro e w' ⟨rfl, n1, rfl⟩) | (refine step_append_lies _ (by rfl) _ _ _ (by rfl) nb 3 i0 _ 1 8 Tryz.underlying22 hi hz0 hz1 hz2 rfl (by omega) pv s.printed.length (iv s.printed) (by rfl) (by exact own_alloc hb _ rfl) ⟨w.heap.size, 0, none⟩ 1 1 [.int .i64 x] (by rfl) (by rfl) (World.news_of_block (cs := #[.int .i64 x]) (t := 3) (fr := (0, 0)) (heap_alloc_new w _)) (iv_one [x]) (by omega) (by unfold maxLen; omega) (by omega) (by simp; omega) (w.heap.size + 1) (by simp) ?_; intro g cap w2 hown2 hgrow hat hlt; have q3 := cell_of_cells ((grown_old (w := w) (ob := .cells #[.int .i64 x] 3) (by rfl) hgrow m lm h.pm).trans h.blk) 3 (v := pv) rfl; have f3 := free_of_cells ((grown_old (w := w) (ob := .cells #[.int .i64 x] 3) (by rfl) hgrow m lm h.pm).trans h.blk) 3))
  all_goals
    go_end0
    exact do_print h (.cells #[.int .i64 x] 3) (by rfl) (by rfl) (by rfl) (by rfl) hgrow g _ cap x rfl hown2 hat
theorem nop_any (w : World) (h : Mac w nb m g1 c1 tv pv s o) : Calls Tryz.prog 83 #[] w (DoRes nb m g1 c1 tv pv s o w) := by
  go_enter Tryz.func83, Tryz.ntmps83
  go_wp2
  go_end0
  exact ⟨rfl, pv, h, Chg.refl _ _, .inl rfl⟩
end Go.Proofs.YtbcciokmlkofkaaGreat

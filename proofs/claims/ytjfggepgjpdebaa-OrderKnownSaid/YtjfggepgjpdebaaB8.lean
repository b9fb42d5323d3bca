/- Contract: the program's Trace. -/
import Derived.Test.YtjfggepgjpdebaaB7
import Derived.Deep.AppendLies
set_option linter.unusedVariables false
set_option linter.unusedSimpArgs false
namespace Go.Proofs.Ytjfggepgjpdebaa
open Go.RowKit Go.Q
variable {nb m g1 c1 n0 : Nat} {tv pv : Value} {s : St} {o : Ord}

theorem Try.infoS : (Try.prog.info? 85).map (fun i => (i.zero, i.size, i.bytes)) = some (some (.agg #[.int .i64 0, .int .i64 0, .int .i64 0, .int .i64 0, .int .i64 0, .int .i64 0, .int .i64 0]), 7, 56) := by kernel_rfl

/-- the cells of a step -/
def sc (x : Stp) : List Value := [.int .i64 x.at_, .int .i64 x.ord.op, .int .i64 x.ord.frm, .int .i64 x.ord.to, .int .i64 x.ord.nxt, .int .i64 x.time, .int .i64 x.until_]
def scs (l : List Stp) : List Value := l.flatMap sc
/-- the captured list: its box Bl, its row -/
def Tell1 (Bl n0 : Nat) (l : List Stp) (W : World) : Prop :=
  n0 ≤ Bl ∧ ∃ v, W.heap[Bl]? = some (.cells #[v] 80 (0, 0)) ∧ W.ownsRow n0 85 7 v l.length (scs l) ∧ v.ownBlock ≠ some Bl
theorem own7_at {w : World} {nb t n : Nat} {v : Value} {xs : List Value} (h : w.ownsRow nb t 7 v n xs) {b : Nat} (hb : v.ownBlock = some b) : nb ≤ b ∧ ∃ cur, w.heap[b]? = some (.cells cur t (0, 0)) := by
  rcases h.2 with ⟨rfl, _⟩ | ⟨g, cap, cur, rfl, hg, hh, _⟩
  · cases hb
  · obtain rfl : g = b := by simpa [Value.ownBlock] using hb
    exact ⟨hg, cur, hh⟩
theorem own7_later {w w' : World} {nb t n : Nat} {pv : Value} {xs : List Value} (h : w.ownsRow nb t 7 pv n xs) (hb : ∀ b, pv.ownBlock = some b → w'.heap[b]? = w.heap[b]?) : w'.ownsRow nb t 7 pv n xs := by
  refine ⟨h.1, ?_⟩
  rcases h.2 with h2 | ⟨g, cap, cur, rfl, hbg, hg, r⟩
  · exact .inl h2
  · exact .inr ⟨g, cap, cur, rfl, hbg, (hb g rfl).trans hg, r⟩
/-- a block of another type is none of the machine's -/
theorem not_own3 {w : World} (h : Mac w nb m g1 c1 tv pv s o) {b : Nat} {cs : Array Value} {T : TypeId} {fr : Nat × Nat} (hb : w.heap[b]? = some (.cells cs T fr)) (h1 : T ≠ 3) (h2 : T ≠ 92) : ¬ Own3 m g1 pv b := by
  rintro (rfl | rfl | e)
  · have := h.blk.symm.trans hb
    simp only [Option.some.injEq, Obj.cells.injEq] at this
    exact h2 this.2.1.symm
  · obtain ⟨cur, hg, _⟩ := h.st
    have := hg.symm.trans hb
    simp only [Option.some.injEq, Obj.cells.injEq] at this
    exact h1 this.2.1.symm
  · rcases h.prow.2 with ⟨h3, _⟩ | ⟨g, cap, cur, h3, _, hg, _⟩
    · rw [h3] at e; cases e
    · rw [h3] at e
      obtain rfl : g = b := by simpa [Value.ownBlock] using e
      have := hg.symm.trans hb
      simp only [Option.some.injEq, Obj.cells.injEq] at this
      exact h1 this.2.1.symm
theorem tell1_keep {Bl : Nat} {l : List Stp} {W W' : World} (M : Mac W nb m g1 c1 tv pv s o) (C : Chg (Own3 m g1 pv) W W') (h : Tell1 Bl n0 l W) : Tell1 Bl n0 l W' := by
  obtain ⟨hn, v, hb, hr, hd⟩ := h
  refine ⟨hn, v, (C.block Bl (lt_of_block hb) (not_own3 M hb (by decide) (by decide))).trans hb, own7_later hr (fun b e => ?_), hd⟩
  obtain ⟨_, cur, hg⟩ := own7_at hr e
  exact C.block b (lt_of_block hg) (not_own3 M hg (by decide) (by decide))
theorem sc_one (x : Stp) : ∀ u ∈ sc x, u.oneCell' = true := by
  intro u hu
  simp [sc] at hu
  rcases hu with h | h | h | h | h | h | h <;> (rw [h]; rfl)
theorem scs_snoc (l : List Stp) (x : Stp) : scs (l ++ [x]) = scs l ++ sc x := by simp [scs]

set_option maxHeartbeats 2000000 in
theorem trace1_any (Bl : Nat) (x : Stp) (l : List Stp) (W : World) (hl : l.length ≤ 5000) (hn : n0 ≤ W.heap.size) (h : Tell1 Bl n0 l W) :
    Calls Try.prog 88 #[stv x, .pointer (some ⟨Bl, 0, none⟩)] W fun e w' => e = .returned (.tuple #[]) ∧ Tell1 Bl n0 (l ++ [x]) w' ∧ KeepT W w' ∧ Below n0 W w' := by
  obtain ⟨i0, hi, hz0, hz1, hz2⟩ := info_parts Try.infoS
  obtain ⟨hB, v, hb, hr, hd⟩ := h
  have q := cell_of_cells hb 0 (v := v) rfl
  have hlt := lt_of_block hb
  have hsl : (scs l).length = l.length * 7 := hr.1
  have Hb := Lib.hid hb
  have Hd := Lib.hid hd
  have Hs := Lib.hid hsl
  clear hb hd hsl
  go_enter Try.func88, Try.ntmps88
  go_wp2_with (at_builtin; refine wpList_append_lies _ rfl _ _ _ rfl n0 85 i0 _ 7 56 Try.underlying80 hi hz0 hz1 hz2 rfl (by omega) v l.length (scs l) rfl ?o1 ⟨W.heap.size + 1, 0, none⟩ 1 1 (sc x) rfl rfl ?o2 (sc_one x) (by omega) ?o3 ?o4 ?o5 (W.heap.size + 2) ?o6 ?_)
  case o1 => exact own7_later hr (fun b e => (((Ext.refl W).alloc _).alloc _).block b (by obtain ⟨_, cur, hg⟩ := own7_at hr e; exact lt_of_block hg))
  case o2 =>
    refine World.news_of_block (cs := #[.int .i64 x.at_, .int .i64 x.ord.op, .int .i64 x.ord.frm, .int .i64 x.ord.to, .int .i64 x.ord.nxt, .int .i64 x.time, .int .i64 x.until_]) (t := 85) (fr := (0, 0)) ?_
    have e := heap_alloc_new (W.alloc (.cells (sc x).toArray 85)) (.cells (sc x).toArray 85)
    rw [World.size_alloc] at e
    exact e
  case o3 => unfold maxLen; omega
  case o4 => omega
  case o5 => simp; omega
  case o6 => simp
  intro g cap w2 hown hgrow hat hlt2
  have E2 : Ext W ((W.alloc (.cells (sc x).toArray 85)).alloc (.cells (sc x).toArray 85)) := ((Ext.refl W).alloc _).alloc _
  have old : ∀ k, k < W.heap.size → v.ownBlock ≠ some k → w2.heap[k]? = W.heap[k]? := fun k hk hr' =>
    (hgrow.block k (by simp; omega) (fun e => hr' e.symm)).trans (E2.block k hk)
  have b2 := (old Bl hlt Hd.out).trans Hb.out
  have q2 := cell_of_cells b2 0 (v := v) rfl
  have f2 := free_of_cells b2 0
  have HO := Lib.hid hown
  have Hold := Lib.hid old
  have Hb2 := Lib.hid b2
  have hz2' : W.heap.size ≤ w2.heap.size := by have := hgrow.size; simp at this; omega
  have hB2 : Below n0 W w2 := (Below.mono E2 (by omega)).grown hgrow (by simp; omega) (fun k e => (own7_at hr e).1)
  have hrow : ∀ k, v.ownBlock = some k → ∃ cur, W.heap[k]? = some (.cells cur 85 (0, 0)) := fun k e => (own7_at hr e).2
  have HR := Lib.hid hrow
  have Hat := Lib.hid hat
  clear hown old b2 hgrow hrow hat E2 hr q
  go_wp2_with fail
  go_end0
  have hg : g ≠ Bl := by
    rcases Hat.out with e | e
    · exact fun e' => Hd.out (e' ▸ e)
    · omega
  refine ⟨rfl, ⟨hB, .slice (some ⟨g, 0, none⟩) (l.length + 1) cap, cells_set Hb2.out 0 _, ?_, fun e => hg (by simpa [Value.ownBlock] using e)⟩, ⟨by simpa [World.setCell] using hz2', fun k c T fr hk hT => ?_⟩, hB2.setCell (p := ⟨Bl, 0, none⟩) hB _⟩
  · have e : (l ++ [x]).length = l.length + 1 := by simp
    rw [e, scs_snoc]
    exact own7_later HO.out (fun b hb => Below.heap_setCell _ _ _ _ (by
      have : g = b := by simpa [Value.ownBlock] using hb
      show b ≠ Bl
      omega))
  · have h1 : k ≠ Bl := by
      rintro rfl
      have := Hb.out.symm.trans hk
      simp only [Option.some.injEq, Obj.cells.injEq] at this
      rw [← this.2.1] at hT
      exact absurd hT (by decide)
    have h2 : v.ownBlock ≠ some k := by
      intro e
      obtain ⟨cur, hg⟩ := HR.out k e
      have := hg.symm.trans hk
      simp only [Option.some.injEq, Obj.cells.injEq] at this
      rw [← this.2.1] at hT
      exact absurd hT (by decide)
    exact (Below.heap_setCell _ _ _ _ h1).trans (Hold.out k (lt_of_block hk) h2)

theorem tell1 (Bl : Nat) : Tell Try.prog 88 #[.pointer (some ⟨Bl, 0, none⟩)] nb m g1 c1 n0 (Tell1 Bl n0) where
  keep := fun _ _ _ _ _ _ _ M C h => tell1_keep M C h
  tell := fun x l W hl hn h => trace1_any Bl x l W hl hn h
/-- a slice of steps reads as a list -/
def StepsAt (w : World) (a : Option Addr) (l : List Stp) : Prop :=
  l = [] ∨ ∃ b off, a = some ⟨b, off, none⟩ ∧ b < w.heap.size ∧ ∀ k u, (scs l)[k]? = some u → w.cell? ⟨b, off + k, none⟩ = some u
theorem StepsAt.ext {w w' : World} {a : Option Addr} {l : List Stp} (h : StepsAt w a l) (e : Ext w w') : StepsAt w' a l := by
  rcases h with h | ⟨b, off, ha, hb, hc⟩
  · exact .inl h
  · exact .inr ⟨b, off, ha, Nat.lt_of_lt_of_le hb e.size, fun k u hu => (e.cell (p := ⟨b, off + k, none⟩) hb).trans (hc k u hu)⟩
/-- the call returned steps and an error's code -/
def StpRes (p : List Stp × Int) (w : World) (e : Ending) (w' : World) : Prop := ∃ a c, e = .returned (.tuple #[.slice a p.1.length c, .int .i64 p.2]) ∧ StepsAt w' a p.1 ∧ Ext w w'
theorem own7_steps {w : World} {nb t n c : Nat} {a : Option Addr} {l : List Stp} (h : w.ownsRow nb t 7 (.slice a n c) n (scs l)) (hn : n = l.length) : StepsAt w a l := by
  rcases h.2 with ⟨_, h2⟩ | ⟨g, cap, cur, hv, hg, hh, hnc, hcm, hcs, ht⟩
  · exact .inl (List.eq_nil_of_length_eq_zero (by omega))
  · refine .inr ⟨g, 0, (Value.slice.inj hv).1, lt_of_block hh, fun k u hu => ?_⟩
    rw [Nat.zero_add]
    refine cell_of_cells hh k ?_
    rw [← ht, List.getElem?_take] at hu
    split at hu
    · simpa using hu
    · cases hu

set_option maxHeartbeats 4000000 in
set_option maxRecDepth 100000 in
theorem trace_bad (v : Value) (s : St) (most : Int) (w : World) (h : StAt w v s) (hb : StBd s) (he : askedQ s most ≠ 0) :
    Calls Try.prog 56 #[v, .int .i64 most] w (StpRes (traceE s most) w) := by
  have e1 : traceE s most = ([], askedQ s most) := by simp [traceE, he]
  rw [e1]
  have ho := fun W (E : Ext w W) => open_bad v s most W (h.ext E) hb he
  have hne : (askedQ s most != 0) = true := by simpa using he
  obtain ⟨a1, a2, a3, k1, k2, k3, rfl, _, _, _⟩ := h
  clear he e1 hb
  generalize askedQ s most = er at *
  go_enter Try.func56, Try.ntmps56
  go_wp2_with fail
  refine (ho _ (by exact ((Ext.refl w).alloc _).alloc _)).mono ?_
  rintro e w3 ⟨rfl, hb3⟩
  have q0 := box_at2 (v := .slice none 0 0) hb3 0 rfl
  have f0 := box_free2 hb3 0
  go_wp2_with fail
  refine bodyPost_ret (v := .tuple #[.slice none 0 0, .int .i64 er]) (by simp [results, Try.results56, go_sem, q0]) rfl ?_
  exact ⟨none, 0, rfl, .inl rfl, (Ext.old (Ext.old hb3)).setCell (p := ⟨w.heap.size + 1, 0, none⟩) (by simp) _⟩

set_option maxHeartbeats 4000000 in
set_option maxRecDepth 100000 in
theorem trace_good (v : Value) (s : St) (most : Int) (w : World) (h : StAt w v s) (hb : StBd s) (he : askedQ s most = 0) :
    Calls Try.prog 56 #[v, .int .i64 most] w (StpRes (traceE s most) w) := by
  have e1 : traceE s most = (traceQ most.toNat s, 0) := by simp [traceE, he]
  rw [e1]
  obtain ⟨z1, z2⟩ := asked_ok he
  have hv := valid_of_check z1
  have z3 := check_zero z1
  obtain ⟨p0, p1⟩ := inB_bd z2
  obtain ⟨a1, a2, a3, k1, k2, k3, rfl, i1, i2, i3⟩ := h
  rw [hv.len]
  have ho := fun W (E : Ext w W) => open_ok a1 a2 a3 _ _ k1 k2 k3 s most W hv.len rfl rfl hv.tlen hv.plen (i1.ext E) (i2.ext E) (i3.ext E) z3 z2
  clear i1 i2 i3 z1 z2 z3 he e1 hb
  obtain ⟨n, rfl⟩ := Int.eq_ofNat_of_zero_le p0
  have hn : n ≤ 5000 := by omega
  have HV := Lib.hid hv
  clear hv p0 p1
  have en : ((n : Int)).toNat = n := rfl
  rw [en]
  clear en
  go_enter Try.func56, Try.ntmps56
  go_wp2_with fail
  refine (ho _ (by exact ((Ext.refl w).alloc _).alloc _)).mono ?_
  rintro e w3 ⟨m, g1, c1, tv, pv, rfl, M, hb3⟩
  clear ho
  have hT : Tell1 (w.heap.size + 1) (w.heap.size + 1) [] w3 := ⟨Nat.le_refl _, .slice none 0 0, blk2 hb3, World.ownsRow_nil _ _ _ _, by simp [Value.ownBlock]⟩
  go_wp2_with fail
  refine (run_any w3 (w.heap.size + 1) n 88 #[.pointer (some ⟨w.heap.size + 1, 0, none⟩)] (Tell1 (w.heap.size + 1) (w.heap.size + 1)) M HV.out hn (by simp) (enters_of Try.func88 (by kernel_rfl) rfl) (tell1 _) hT).mono ?_
  rintro e w4 ⟨rfl, _, hT4, hB4⟩
  have E4 : Ext w w4 := (Ext.old (Ext.old hb3)).trans (hB4.mono (by omega))
  obtain ⟨_, v4, hB, hr, hd⟩ := hT4
  obtain ⟨a, c, rfl⟩ : ∃ a c, v4 = .slice a (traceQ n s).length c := by
    rcases hr.2 with ⟨h1, h2⟩ | ⟨g, cap, cur, h1, _⟩
    · exact ⟨none, 0, by rw [h2]; exact h1⟩
    · exact ⟨_, _, h1⟩
  have q0 := cell_of_cells hB 0 (v := .slice a (traceQ n s).length c) rfl
  have f0 := free_of_cells hB 0
  have hS : StepsAt (w4.setCell ⟨w.heap.size + 1, 0, none⟩ (.slice a (traceQ n s).length c)) a (traceQ n s) :=
    own7_steps (own7_later hr (fun b e => Below.heap_setCell _ _ _ _ (fun e' => hd (by rw [e]; exact congrArg some e')))) rfl
  clear M hB hr hd hb3 hT hB4
  go_wp2_with fail
  refine bodyPost_ret (v := .tuple #[.slice a (traceQ n s).length c, .int .i64 0]) (by simp [results, Try.results56, go_sem, q0]) rfl ?_
  exact ⟨a, c, rfl, hS, E4.setCell (p := ⟨w.heap.size + 1, 0, none⟩) (by simp) _⟩

theorem traceE_any (v : Value) (s : St) (most : Int) (w : World) (h : StAt w v s) (hb : StBd s) : Calls Try.prog 56 #[v, .int .i64 most] w (StpRes (traceE s most) w) := by
  by_cases he : askedQ s most = 0
  · exact trace_good v s most w h hb he
  · exact trace_bad v s most w h hb he
end Go.Proofs.Ytjfggepgjpdebaa

import Derived.Laws.CopyOwn
import Derived.Test.YtbcciokmlkofkaaGreatWC1
import Derived.Test.YtbcciokmlkofkaaGreatWB6
set_option linter.unusedVariables false
set_option linter.unusedSimpArgs false
/- Contract: the program's Begin. -/
namespace Go.Proofs.YtbcciokmlkofkaaGreat
open Go.RowKit Go.Q
/-- what Begin returns -/
def beginQ (st tp : List Int) (start : Int) : St × Int :=
  if st.length ≤ 128 ∧ tp.length ≤ 200 then
    (if outB 16777215 st = false ∧ outB 16777215 tp = false ∧ addrB start = true then (⟨st ++ List.replicate (128 - st.length) 0, tp, 0, [], start % 16, start, 0, 0⟩, 0) else (zst, 7))
  else (zst, 3)
def zz : Array Value := Array.replicate 128 (.int .i64 0)
theorem zz_list : zz.toList = iv (List.replicate 128 0) := by unfold zz iv; rw [Array.toList_replicate, List.map_replicate]
theorem made_rep (v : Value) (n : Nat) : madeCells #[v] n = Array.replicate n v := by
  apply Array.ext
  · simp [madeCells]
  · intro i h1 h2
    simp [madeCells, Nat.mod_one]
theorem zz_made : madeCells #[Value.int .i64 0] 128 = zz := made_rep _ _
/-- copy into a row of the call's own: nothing but the row's block turns -/
theorem copy_row {P : Program} {w : World} {ops : Array Oper} {rest : List Oper} {o : Oper} {a : Act} {Q : Exit → Act → World → Prop} (hgd : o.guard = none) (d s : Operand) (dT sT : TypeId)
    (ho : o.op = .call { callee := .builtin .copy, args := #[d, s], argTypes := #[dT, sT] }) (elem : TypeId) (hu : P.underlying dT = some (.slice elem)) (hsz : (P.info? elem).map (·.size) = some 1)
    (g dLen dCap : Nat) (sp : Option Addr) (sLen sCap : Nat) (hd : a.eval d = .slice (some ⟨g, 0, none⟩) dLen dCap) (hs : a.eval s = .slice sp sLen sCap)
    (cur : Array Value) (t : TypeId) (hg : w.heap[g]? = some (.cells cur t (0, 0))) (cs : List Value) (hn : cs.length = sLen) (hle : sLen ≤ dLen) (hfit : sLen ≤ cur.size) (h1 : ∀ v ∈ cs, v.oneCell' = true)
    (hsrc : cs = [] ∨ ∃ ad, sp = some ad ∧ ∀ j v, cs[j]? = some v → w.cell? (ad.add j) = some v)
    (h : ∀ w', Hid (w'.heap[g]? = some (.cells (cs ++ cur.toList.drop sLen).toArray t (0, 0))) → Chg (fun k => k = g) w w' → wpList P ops Q rest (a.put o.dst (goInt cs.length)) w') : wpList P ops Q (o :: rest) a w := by
  rcases hsrc with e | ⟨ad, rfl, hc⟩
  · subst e
    obtain rfl : sLen = 0 := hn.symm
    exact wpList_copy_nothing hgd d s dT sT ho elem hu hsz _ sp dLen dCap 0 sCap hd hs (Nat.zero_min _) (h w (show _ = _ by simpa using hg) (Chg.refl _ _))
  · refine wpList_copy_own hgd d s dT sT ho elem hu hsz g 0 dLen dCap ad sLen sCap hd hs cur t hg cs (by rw [hn]; exact (Nat.min_eq_left hle).symm) hc (by omega) h1 ?_
    refine h _ (show _ = _ from ?_) ⟨rfl, rfl, rfl, by simp [World.setRow], fun k _ hk => setRow_other w g k _ hk⟩
    rw [setRow_heap w g cur _ t (0, 0) hg]
    simp [hn]
theorem make128 (W : World) : (Instr.makeSlice 22 (.int .i64 128) (.int .i64 128)).run Tryz.prog W = .ok (.slice (some ⟨W.heap.size, 0, none⟩) 128 128) (W.alloc (.cells zz 3)) := by
  obtain ⟨i0, hi, hz0, hz1, hz2⟩ := info_parts Tryz.infoE
  have := run_makeSlice (P := Tryz.prog) W 22 3 i0 (.int .i64 0) Tryz.underlying22 hi hz0 .i64 .i64 128 128 (by decide) (by decide) (by rw [hz1]; decide) (by rw [hz2]; decide) (by decide)
  rw [hz1] at this
  rw [this, ← zz_made]
  rfl
set_option maxHeartbeats 4000000 in
set_option maxRecDepth 100000 in
theorem begin_bad (a1 a2 : Option Addr) (n1 n2 c1 c2 : Nat) (st tp : List Int) (start : Int) (w : World) (l1 : st.length = n1) (l2 : tp.length = n2) (b1 : n1 ≤ 9223372036854775807) (b2 : n2 ≤ 9223372036854775807)
    (i1 : IntsAt w a1 st) (i2 : IntsAt w a2 tp) (he : (beginQ st tp start).2 ≠ 0) :
    Calls Tryz.prog 32 #[.slice a1 n1 c1, .slice a2 n2 c2, .int .i64 start] w (StRes (beginQ st tp start) w) := by
  have hfin : ∀ (er : Int) (W : World), Ext w W → StRes (zst, er) w (.returned (.tuple #[.agg #[.slice none 0 0, .slice none 0 0, .int .i64 0, .slice none 0 0, .int .i64 0, .int .i64 0, .int .i64 0, .int .i64 0], .int .i64 er])) W :=
    fun er W hE => ⟨_, rfl, ⟨none, none, none, 0, 0, 0, rfl, .inl rfl, .inl rfl, .inl rfl⟩, hE⟩
  have ho1 := fun W (E : Ext w W) => out_any 16777215 a1 n1 c1 st W l1 b1 (i1.ext E)
  have ho2 := fun W (E : Ext w W) => out_any 16777215 a2 n2 c2 tp W l2 b2 (i2.ext E)
  clear i1 i2
  by_cases h1 : n1 ≤ 128
  · by_cases h2 : n2 ≤ 200
    · cases e1 : outB 16777215 st with
      | true =>
        have eq : beginQ st tp start = (zst, 7) := by simp [beginQ, l1, l2, h1, h2, e1]
        rw [eq]
        rw [e1] at ho1
        clear eq he e1 ho2 l1 l2
        go_enter Tryz.func32, Tryz.ntmps32
        go_wp2_with fail
        refine (ho1 _ (by exact (Ext.refl w).alloc _)).mono ?_
        rintro e W1 ⟨rfl, hb1⟩
        have qc0 := box_at (v := .slice none 0 0) (hb1) 0 rfl
        have qf0 := box_free (hb1) 0
        have qc1 := box_at (v := .slice none 0 0) (hb1) 1 rfl
        have qf1 := box_free (hb1) 1
        have qc2 := box_at (v := .int .i64 0) (hb1) 2 rfl
        have qf2 := box_free (hb1) 2
        have qc3 := box_at (v := .slice none 0 0) (hb1) 3 rfl
        have qf3 := box_free (hb1) 3
        have qc4 := box_at (v := .int .i64 0) (hb1) 4 rfl
        have qf4 := box_free (hb1) 4
        have qc5 := box_at (v := .int .i64 0) (hb1) 5 rfl
        have qf5 := box_free (hb1) 5
        have qc6 := box_at (v := .int .i64 0) (hb1) 6 rfl
        have qf6 := box_free (hb1) 6
        have qc7 := box_at (v := .int .i64 0) (hb1) 7 rfl
        have qf7 := box_free (hb1) 7
        go_wp2_with fail
        refine bodyPost_ret (v := .tuple #[.agg #[.slice none 0 0, .slice none 0 0, .int .i64 0, .slice none 0 0, .int .i64 0, .int .i64 0, .int .i64 0, .int .i64 0], .int .i64 7]) (by simp [results, Tryz.results32, go_sem, qc0, qc1, qc2, qc3, qc4, qc5, qc6, qc7]) rfl ?_
        exact hfin 7 _ (ext_set8 (Ext.old (hb1)) (Nat.le_refl _) _ _ _ _ _ _ _ _)
      | false =>
        cases e2 : outB 16777215 tp with
        | true =>
          have eq : beginQ st tp start = (zst, 7) := by simp [beginQ, l1, l2, h1, h2, e1, e2]
          rw [eq]
          rw [e1] at ho1
          rw [e2] at ho2
          clear eq he e1 e2 l1 l2
          go_enter Tryz.func32, Tryz.ntmps32
          go_wp2_with fail
          refine (ho1 _ (by exact (Ext.refl w).alloc _)).mono ?_
          rintro e W1 ⟨rfl, hb1⟩
          go_wp2_with fail
          refine (ho2 _ (by exact hb1.old)).mono ?_
          rintro e W2 ⟨rfl, hb2⟩
          have qc0 := box_at (v := .slice none 0 0) (hb1.comp hb2) 0 rfl
          have qf0 := box_free (hb1.comp hb2) 0
          have qc1 := box_at (v := .slice none 0 0) (hb1.comp hb2) 1 rfl
          have qf1 := box_free (hb1.comp hb2) 1
          have qc2 := box_at (v := .int .i64 0) (hb1.comp hb2) 2 rfl
          have qf2 := box_free (hb1.comp hb2) 2
          have qc3 := box_at (v := .slice none 0 0) (hb1.comp hb2) 3 rfl
          have qf3 := box_free (hb1.comp hb2) 3
          have qc4 := box_at (v := .int .i64 0) (hb1.comp hb2) 4 rfl
          have qf4 := box_free (hb1.comp hb2) 4
          have qc5 := box_at (v := .int .i64 0) (hb1.comp hb2) 5 rfl
          have qf5 := box_free (hb1.comp hb2) 5
          have qc6 := box_at (v := .int .i64 0) (hb1.comp hb2) 6 rfl
          have qf6 := box_free (hb1.comp hb2) 6
          have qc7 := box_at (v := .int .i64 0) (hb1.comp hb2) 7 rfl
          have qf7 := box_free (hb1.comp hb2) 7
          go_wp2_with fail
          refine bodyPost_ret (v := .tuple #[.agg #[.slice none 0 0, .slice none 0 0, .int .i64 0, .slice none 0 0, .int .i64 0, .int .i64 0, .int .i64 0, .int .i64 0], .int .i64 7]) (by simp [results, Tryz.results32, go_sem, qc0, qc1, qc2, qc3, qc4, qc5, qc6, qc7]) rfl ?_
          exact hfin 7 _ (ext_set8 (Ext.old (hb1.comp hb2)) (Nat.le_refl _) _ _ _ _ _ _ _ _)
        | false =>
          have e3 : addrB start = false := by
            cases h : addrB start with
            | false => rfl
            | true => exact absurd (by simp [beginQ, l1, l2, h1, h2, e1, e2, h]) he
          have eq : beginQ st tp start = (zst, 7) := by simp [beginQ, l1, l2, h1, h2, e1, e2, e3]
          have e3' : inB start 0 127 = false := e3
          rw [eq]
          rw [e1] at ho1
          rw [e2] at ho2
          clear eq he e1 e2 l1 l2 e3
          go_enter Tryz.func32, Tryz.ntmps32
          go_wp2_with fail
          refine (ho1 _ (by exact (Ext.refl w).alloc _)).mono ?_
          rintro e W1 ⟨rfl, hb1⟩
          go_wp2_with fail
          refine (ho2 _ (by exact hb1.old)).mono ?_
          rintro e W2 ⟨rfl, hb2⟩
          go_wp2_with fail
          refine (out_one _ start _ _ (by simp) (by simp)).mono ?_
          rintro e W3 ⟨rfl, hb3⟩
          have qc0 := box_at (v := .slice none 0 0) ((hb1.comp hb2).comp hb3.old) 0 rfl
          have qf0 := box_free ((hb1.comp hb2).comp hb3.old) 0
          have qc1 := box_at (v := .slice none 0 0) ((hb1.comp hb2).comp hb3.old) 1 rfl
          have qf1 := box_free ((hb1.comp hb2).comp hb3.old) 1
          have qc2 := box_at (v := .int .i64 0) ((hb1.comp hb2).comp hb3.old) 2 rfl
          have qf2 := box_free ((hb1.comp hb2).comp hb3.old) 2
          have qc3 := box_at (v := .slice none 0 0) ((hb1.comp hb2).comp hb3.old) 3 rfl
          have qf3 := box_free ((hb1.comp hb2).comp hb3.old) 3
          have qc4 := box_at (v := .int .i64 0) ((hb1.comp hb2).comp hb3.old) 4 rfl
          have qf4 := box_free ((hb1.comp hb2).comp hb3.old) 4
          have qc5 := box_at (v := .int .i64 0) ((hb1.comp hb2).comp hb3.old) 5 rfl
          have qf5 := box_free ((hb1.comp hb2).comp hb3.old) 5
          have qc6 := box_at (v := .int .i64 0) ((hb1.comp hb2).comp hb3.old) 6 rfl
          have qf6 := box_free ((hb1.comp hb2).comp hb3.old) 6
          have qc7 := box_at (v := .int .i64 0) ((hb1.comp hb2).comp hb3.old) 7 rfl
          have qf7 := box_free ((hb1.comp hb2).comp hb3.old) 7
          go_wp2_with fail
          refine bodyPost_ret (v := .tuple #[.agg #[.slice none 0 0, .slice none 0 0, .int .i64 0, .slice none 0 0, .int .i64 0, .int .i64 0, .int .i64 0, .int .i64 0], .int .i64 7]) (by simp [results, Tryz.results32, go_sem, qc0, qc1, qc2, qc3, qc4, qc5, qc6, qc7]) rfl ?_
          exact hfin 7 _ (ext_set8 (Ext.old ((hb1.comp hb2).comp hb3.old)) (Nat.le_refl _) _ _ _ _ _ _ _ _)
    · have eq : beginQ st tp start = (zst, 3) := by
        have : ¬ (st.length ≤ 128 ∧ tp.length ≤ 200) := by omega
        simp only [beginQ, if_neg this]
      rw [eq]
      clear eq he ho1 ho2 l1 l2
      go_enter Tryz.func32, Tryz.ntmps32
      go_wp2
      refine bodyPost_ret (v := .tuple #[.agg #[.slice none 0 0, .slice none 0 0, .int .i64 0, .slice none 0 0, .int .i64 0, .int .i64 0, .int .i64 0, .int .i64 0], .int .i64 3]) (by simp [results, Tryz.results32, go_sem]) rfl ?_
      exact hfin 3 _ ((Ext.refl w).alloc _)
  · have eq : beginQ st tp start = (zst, 3) := by
      have : ¬ (st.length ≤ 128 ∧ tp.length ≤ 200) := by omega
      simp only [beginQ, if_neg this]
    rw [eq]
    clear eq he ho1 ho2 l1 l2
    go_enter Tryz.func32, Tryz.ntmps32
    go_wp2
    refine bodyPost_ret (v := .tuple #[.agg #[.slice none 0 0, .slice none 0 0, .int .i64 0, .slice none 0 0, .int .i64 0, .int .i64 0, .int .i64 0, .int .i64 0], .int .i64 3]) (by simp [results, Tryz.results32, go_sem]) rfl ?_
    exact hfin 3 _ ((Ext.refl w).alloc _)
end Go.Proofs.YtbcciokmlkofkaaGreat
/- Contract: the program's Begin, where it succeeds. -/
namespace Go.Proofs.YtbcciokmlkofkaaGreat
open Go.RowKit Go.Q
/-- the state lies in the box -/
def BegRes (n2 : Nat) (tp : List Int) (start : Int) (w wx : World) : Prop :=
  ∃ g a c, wx.heap[w.heap.size]? = some (.cells #[.slice (some ⟨g, 0, none⟩) 128 128, .slice a n2 c, .int .i64 0, .slice none 0 0, .int .i64 (start % 16), .int .i64 start, .int .i64 0, .int .i64 0] 24 (0, 0)) ∧
    wx.heap[g]? = some (.cells zz 3 (0, 0)) ∧ w.heap.size < g ∧ (∃ nn, wx.ownsRow nn 3 1 (.slice a n2 c) n2 (iv tp) ∧ w.heap.size < nn) ∧ (∀ b, a = some ⟨b, 0, none⟩ → b ≠ g) ∧ Ext w wx
theorem other8 (W : World) (b k : Nat) (hk : k ≠ b) (v0 v1 v2 v3 v4 v5 v6 v7 : Value) : ((((((((W.setCell ⟨b, 0, none⟩ v0).setCell ⟨b, 1, none⟩ v1).setCell ⟨b, 2, none⟩ v2).setCell ⟨b, 3, none⟩ v3).setCell ⟨b, 4, none⟩ v4).setCell ⟨b, 5, none⟩ v5).setCell ⟨b, 6, none⟩ v6).setCell ⟨b, 7, none⟩ v7).heap[k]? = W.heap[k]? :=
  (Below.heap_setCell _ _ _ _ hk).trans ((Below.heap_setCell _ _ _ _ hk).trans ((Below.heap_setCell _ _ _ _ hk).trans ((Below.heap_setCell _ _ _ _ hk).trans ((Below.heap_setCell _ _ _ _ hk).trans ((Below.heap_setCell _ _ _ _ hk).trans ((Below.heap_setCell _ _ _ _ hk).trans (Below.heap_setCell _ _ _ _ hk)))))))
theorem cells8 {W : World} {b : Nat} {u0 u1 u2 u3 u4 u5 u6 u7 : Value} {T : TypeId} (h : W.heap[b]? = some (.cells #[u0, u1, u2, u3, u4, u5, u6, u7] T (0, 0))) (v0 v1 v2 v3 v4 v5 v6 v7 : Value) :
    ((((((((W.setCell ⟨b, 0, none⟩ v0).setCell ⟨b, 1, none⟩ v1).setCell ⟨b, 2, none⟩ v2).setCell ⟨b, 3, none⟩ v3).setCell ⟨b, 4, none⟩ v4).setCell ⟨b, 5, none⟩ v5).setCell ⟨b, 6, none⟩ v6).setCell ⟨b, 7, none⟩ v7).heap[b]? = some (.cells #[v0, v1, v2, v3, v4, v5, v6, v7] T (0, 0)) :=
  (cells_set (cells_set (cells_set (cells_set (cells_set (cells_set (cells_set (cells_set h 0 v0) 1 v1) 2 v2) 3 v3) 4 v4) 5 v5) 6 v6) 7 v7).trans (by simp)
theorem beg_res {w W w4 : World} {g n2 nn : Nat} {a : Option Addr} {c : Nat} {tp : List Int} {start : Int}
    (E : Ext (w.alloc (.cells #[.slice none 0 0, .slice none 0 0, .int .i64 0, .slice none 0 0, .int .i64 0, .int .i64 0, .int .i64 0, .int .i64 0] 24)) W)
    (hg : W.heap[g]? = some (.cells zz 3 (0, 0))) (hlt : w.heap.size < g) (ho : w4.ownsRow nn 3 1 (.slice a n2 c) n2 (iv tp)) (hnn : w.heap.size < nn) (E4 : Ext w4 W) (hd : ∀ b, a = some ⟨b, 0, none⟩ → b ≠ g) :
    BegRes n2 tp start w ((((((((W.setCell ⟨w.heap.size, 0, none⟩ (.slice (some ⟨g, 0, none⟩) 128 128)).setCell ⟨w.heap.size, 1, none⟩ (.slice a n2 c)).setCell ⟨w.heap.size, 2, none⟩ (.int .i64 0)).setCell ⟨w.heap.size, 3, none⟩ (.slice none 0 0)).setCell ⟨w.heap.size, 4, none⟩ (.int .i64 (start % 16))).setCell ⟨w.heap.size, 5, none⟩ (.int .i64 start)).setCell ⟨w.heap.size, 6, none⟩ (.int .i64 0)).setCell ⟨w.heap.size, 7, none⟩ (.int .i64 0)) := by
  have hB := (E.block w.heap.size (by simp)).trans (heap_alloc_new w _)
  refine ⟨g, a, c, cells8 hB _ _ _ _ _ _ _ _, (other8 W _ g (by omega) _ _ _ _ _ _ _ _).trans hg, hlt, ⟨nn, own_later ho (fun b hb => ?_), hnn⟩, hd, ext_set8 E.old (Nat.le_refl _) _ _ _ _ _ _ _ _⟩
  have := own_at ho hb
  exact (other8 W _ b (by omega) _ _ _ _ _ _ _ _).trans (E4.block b this.2)
/-- a state came back, and its lists are new -/
def NewRes (p : St × Int) (w : World) (e : Ending) (w' : World) : Prop :=
  ∃ v, e = .returned (.tuple #[v, .int .i64 p.2]) ∧ (∃ a1 a2 a3 c1 c2 c3, v = sv a1 a2 a3 p.1.store.length c1 p.1.tape.length c2 p.1.printed.length c3 p.1.taken p.1.time p.1.at_ p.1.done p.1.why ∧
    IntsAt w' a1 p.1.store ∧ IntsAt w' a2 p.1.tape ∧ IntsAt w' a3 p.1.printed ∧ (∀ b off, a1 = some ⟨b, off, none⟩ ∨ a2 = some ⟨b, off, none⟩ ∨ a3 = some ⟨b, off, none⟩ → w.heap.size ≤ b)) ∧ Ext w w'
theorem NewRes.st {p : St × Int} {w w' : World} {e : Ending} (h : NewRes p w e w') : StRes p w e w' := by
  obtain ⟨v, he, ⟨a1, a2, a3, c1, c2, c3, hv, i1, i2, i3, _⟩, hE⟩ := h
  exact ⟨v, he, ⟨a1, a2, a3, c1, c2, c3, hv, i1, i2, i3⟩, hE⟩
set_option maxHeartbeats 4000000 in
set_option maxRecDepth 100000 in
theorem begin_good' (a1 a2 : Option Addr) (n1 n2 c1 c2 : Nat) (st tp : List Int) (start : Int) (w : World) (l1 : st.length = n1) (l2 : tp.length = n2) (h1 : n1 ≤ 128) (h2 : n2 ≤ 200)
    (i1 : IntsAt w a1 st) (i2 : IntsAt w a2 tp) (e1 : outB 16777215 st = false) (e2 : outB 16777215 tp = false) (e3 : addrB start = true) :
    Calls Tryz.prog 32 #[.slice a1 n1 c1, .slice a2 n2 c2, .int .i64 start] w (NewRes (⟨st ++ List.replicate (128 - st.length) 0, tp, 0, [], start % 16, start, 0, 0⟩, 0) w) := by
  have ho1 := fun W (E : Ext w W) => out_any 16777215 a1 n1 c1 st W l1 (by omega) (i1.ext E)
  have ho2 := fun W (E : Ext w W) => out_any 16777215 a2 n2 c2 tp W l2 (by omega) (i2.ext E)
  have hcl' := fun W (E : Ext w W) => clone_any a2 n2 c2 tp W l2 (by omega) (i2.ext E)
  have Hl1 := Lib.hid l1
  have Hl2 := Lib.hid l2
  rw [e1] at ho1
  rw [e2] at ho2
  have e3' : inB start 0 127 = true := e3
  obtain ⟨s0, s1⟩ := inB_bd e3'
  have hmk := make128
  clear i2 e1 e2 e3 l1 l2
  go_enter Tryz.func32, Tryz.ntmps32
  go_wp2_with fail
  refine (ho1 _ (by exact (Ext.refl w).alloc _)).mono ?_
  rintro e W1 ⟨rfl, hb1⟩
  go_wp2_with fail
  refine (ho2 _ (by exact hb1.old)).mono ?_
  rintro e W2 ⟨rfl, hb2⟩
  go_wp2_with fail
  refine (out_one _ start _ _ (by simp) (by simp)).mono ?_
  rintro e W0 ⟨rfl, hb3⟩
  have E0 := (hb1.comp hb2).comp hb3.old
  have z0 : w.heap.size < W0.heap.size := by have := E0.size; simp at this; omega
  have hcl := fun W (E : Ext W0 W) => hcl' W (E0.old.comp E)
  clear ho1 ho2 hb1 hb2 hb3 hcl'
  go_upto_region 5 with fail
  go_cut [] (fun wx => BegRes n2 tp start w wx)
  case first =>
    have qc0 := box_at (v := .slice none 0 0) (E0) 0 rfl
    have qf0 := box_free (E0) 0
    have qg0 := fun ob => box_at (v := .slice none 0 0) ((E0).alloc ob) 0 rfl
    have qh0 := fun ob => box_free ((E0).alloc ob) 0
    have qc1 := box_at (v := .slice none 0 0) (E0) 1 rfl
    have qf1 := box_free (E0) 1
    have qg1 := fun ob => box_at (v := .slice none 0 0) ((E0).alloc ob) 1 rfl
    have qh1 := fun ob => box_free ((E0).alloc ob) 1
    have qc2 := box_at (v := .int .i64 0) (E0) 2 rfl
    have qf2 := box_free (E0) 2
    have qg2 := fun ob => box_at (v := .int .i64 0) ((E0).alloc ob) 2 rfl
    have qh2 := fun ob => box_free ((E0).alloc ob) 2
    have qc3 := box_at (v := .slice none 0 0) (E0) 3 rfl
    have qf3 := box_free (E0) 3
    have qg3 := fun ob => box_at (v := .slice none 0 0) ((E0).alloc ob) 3 rfl
    have qh3 := fun ob => box_free ((E0).alloc ob) 3
    have qc4 := box_at (v := .int .i64 0) (E0) 4 rfl
    have qf4 := box_free (E0) 4
    have qg4 := fun ob => box_at (v := .int .i64 0) ((E0).alloc ob) 4 rfl
    have qh4 := fun ob => box_free ((E0).alloc ob) 4
    have qc5 := box_at (v := .int .i64 0) (E0) 5 rfl
    have qf5 := box_free (E0) 5
    have qg5 := fun ob => box_at (v := .int .i64 0) ((E0).alloc ob) 5 rfl
    have qh5 := fun ob => box_free ((E0).alloc ob) 5
    have qc6 := box_at (v := .int .i64 0) (E0) 6 rfl
    have qf6 := box_free (E0) 6
    have qg6 := fun ob => box_at (v := .int .i64 0) ((E0).alloc ob) 6 rfl
    have qh6 := fun ob => box_free ((E0).alloc ob) 6
    have qc7 := box_at (v := .int .i64 0) (E0) 7 rfl
    have qf7 := box_free (E0) 7
    have qg7 := fun ob => box_at (v := .int .i64 0) ((E0).alloc ob) 7 rfl
    have qh7 := fun ob => box_free ((E0).alloc ob) 7
    go_region_law (go_simp; go_at_call 63; refine (hcl _ (by first | exact (Ext.refl W0).drew | exact ((Ext.refl W0).alloc _).drew)).mono ?_; rintro e w4 ⟨a4, c4, rfl, ho4, hb4⟩; have E4 : Ext W0 w4 := (by first | exact Ext.comp (Ext.refl W0).drew hb4 | exact Ext.comp ((Ext.refl W0).alloc _).drew hb4); have rc0 := box_at (v := .slice none 0 0) (E0.comp E4) 0 rfl; have rf0 := box_free (E0.comp E4) 0; have rg0 := fun ob => box_at (v := .slice none 0 0) ((E0.comp E4).alloc ob) 0 rfl; have rh0 := fun ob => box_free ((E0.comp E4).alloc ob) 0; have rc1 := box_at (v := .slice none 0 0) (E0.comp E4) 1 rfl; have rf1 := box_free (E0.comp E4) 1; have rg1 := fun ob => box_at (v := .slice none 0 0) ((E0.comp E4).alloc ob) 1 rfl; have rh1 := fun ob => box_free ((E0.comp E4).alloc ob) 1; have rc2 := box_at (v := .int .i64 0) (E0.comp E4) 2 rfl; have rf2 := box_free (E0.comp E4) 2; have rg2 := fun ob => box_at (v := .int .i64 0) ((E0.comp E4).alloc ob) 2 rfl; have rh2 := fun ob => box_free ((E0.comp E4).alloc ob) 2; have rc3 := box_at (v := .slice none 0 0) (E0.comp E4) 3 rfl; have rf3 := box_free (E0.comp E4) 3; have rg3 := fun ob => box_at (v := .slice none 0 0) ((E0.comp E4).alloc ob) 3 rfl; have rh3 := fun ob => box_free ((E0.comp E4).alloc ob) 3; have rc4 := box_at (v := .int .i64 0) (E0.comp E4) 4 rfl; have rf4 := box_free (E0.comp E4) 4; have rg4 := fun ob => box_at (v := .int .i64 0) ((E0.comp E4).alloc ob) 4 rfl; have rh4 := fun ob => box_free ((E0.comp E4).alloc ob) 4; have rc5 := box_at (v := .int .i64 0) (E0.comp E4) 5 rfl; have rf5 := box_free (E0.comp E4) 5; have rg5 := fun ob => box_at (v := .int .i64 0) ((E0.comp E4).alloc ob) 5 rfl; have rh5 := fun ob => box_free ((E0.comp E4).alloc ob) 5; have rc6 := box_at (v := .int .i64 0) (E0.comp E4) 6 rfl; have rf6 := box_free (E0.comp E4) 6; have rg6 := fun ob => box_at (v := .int .i64 0) ((E0.comp E4).alloc ob) 6 rfl; have rh6 := fun ob => box_free ((E0.comp E4).alloc ob) 6; have rc7 := box_at (v := .int .i64 0) (E0.comp E4) 7 rfl; have rf7 := box_free (E0.comp E4) 7; have rg7 := fun ob => box_at (v := .int .i64 0) ((E0.comp E4).alloc ob) 7 rfl; have rh7 := fun ob => box_free ((E0.comp E4).alloc ob) 7)
    all_goals
      go_wp2_with fail
      go_meet
      rw [Int.tmod_eq_emod_of_nonneg s0]
      first
        | have hq : Ext (W0.alloc (.cells zz 3)).drew w4 := by with_reducible exact hb4
          exact beg_res (W := w4) (E0.comp E4) ((hb4.block W0.heap.size (by simp)).trans (heap_alloc_new W0 _)) z0 ho4 (by simp; omega) (Ext.refl _) (fun b hb => by have := (own_at ho4 (b := b) (by rw [hb]; rfl)).1; simp at this; omega)
        | have hq : Ext W0.drew w4 := by with_reducible exact hb4
          exact beg_res (W := w4.alloc (.cells zz 3)) ((E0.comp E4).alloc _) (heap_alloc_new w4 _) (Nat.lt_of_lt_of_le z0 E4.size) ho4 z0 ((Ext.refl w4).alloc _) (fun b hb => by have := (own_at ho4 (b := b) (by rw [hb]; rfl)).2; omega)
  case rest =>
    obtain ⟨g, a, c, hB, hg, hlt, ⟨nn, ho, hnn⟩, hdis, hE⟩ := hcut
    have k0 := cell_of_cells hB 0 (v := .slice (some ⟨g, 0, none⟩) 128 128) rfl
    have hIc := (i1.ext hE)
    have HB := Lib.hid hB
    have HI := Lib.hid i1
    have hs1 : (Tryz.prog.info? 3).map (·.size) = some 1 := by
      obtain ⟨i0, hi, hz0, hz1, hz2⟩ := info_parts Tryz.infoE
      rw [hi]; simp [hz1]
    clear hB i1
    go_wp2_with (refine copy_row (by rfl) (.tmp 39) (.tmp 40) 22 22 (by rfl) 3 Tryz.underlying22 hs1 g 128 128 a1 n1 c1 (by rfl) (by rfl) zz 3 hg (iv st) (by rw [iv_length]; exact Hl1.out) h1 (by rw [show zz.size = 128 from Array.size_replicate]; exact h1) (iv_one st) ?src ?_)
    case src =>
      rcases hIc with e | ⟨b, off, e, hb, hc⟩
      · exact .inl (by rw [e]; rfl)
      · refine .inr ⟨_, e, fun j u hu => ?_⟩
        have hj : j < st.length := by
          rcases Nat.lt_or_ge j st.length with h | h
          · exact h
          · rw [List.getElem?_eq_none (by simpa [iv_length] using h)] at hu; cases hu
        rw [iv_get st j hj] at hu
        obtain rfl := Option.some.inj hu
        rw [Addr.add_lit]
        exact hc j hj
    intro w5 hg5 C5
    have lB := lt_of_block HB.out
    have hB5 := (C5.block w.heap.size lB (by omega)).trans HB.out
    have p0 := cell_of_cells hB5 0 (v := .slice (some ⟨g, 0, none⟩) 128 128) rfl
    have x0 := free_of_cells hB5 0
    have p1 := cell_of_cells hB5 1 (v := .slice a n2 c) rfl
    have x1 := free_of_cells hB5 1
    have p2 := cell_of_cells hB5 2 (v := .int .i64 0) rfl
    have x2 := free_of_cells hB5 2
    have p3 := cell_of_cells hB5 3 (v := .slice none 0 0) rfl
    have x3 := free_of_cells hB5 3
    have p4 := cell_of_cells hB5 4 (v := .int .i64 (start % 16)) rfl
    have x4 := free_of_cells hB5 4
    have p5 := cell_of_cells hB5 5 (v := .int .i64 start) rfl
    have x5 := free_of_cells hB5 5
    have p6 := cell_of_cells hB5 6 (v := .int .i64 0) rfl
    have x6 := free_of_cells hB5 6
    have p7 := cell_of_cells hB5 7 (v := .int .i64 0) rfl
    have x7 := free_of_cells hB5 7
    have e5 : (iv st ++ zz.toList.drop n1) = iv (st ++ List.replicate (128 - st.length) 0) := by
      rw [zz_list]
      unfold iv
      rw [← List.map_drop, List.drop_replicate, ← List.map_append, Hl1.out]
    have HG : Hid (w5.heap[g]? = some (.cells (iv (st ++ List.replicate (128 - st.length) 0)).toArray 3 (0, 0))) := by
      have := hg5.out
      rw [e5] at this
      exact this
    have HO := Lib.hid (And.intro ho (And.intro hdis C5))
    have HE := Lib.hid hE
    clear hB5 e5 hg5 ho hdis C5 hE hg k0 hIc
    go_wp2_with fail
    refine bodyPost_ret (v := .tuple #[.agg #[.slice (some ⟨g, 0, none⟩) 128 128, .slice a n2 c, .int .i64 0, .slice none 0 0, .int .i64 (start % 16), .int .i64 start, .int .i64 0, .int .i64 0], .int .i64 0]) (by simp [results, Tryz.results32, go_sem, p0, p1, p2, p3, p4, p5, p6, p7]) rfl ?_
    obtain ⟨ho, hdis, C5⟩ := HO.out
    have E5 : Ext w w5 := HE.out.trans (C5.below (fun k hk => by omega) HE.out.size)
    have hfull : (st ++ List.replicate (128 - st.length) 0).length = 128 := by
      have := Hl1.out
      rw [List.length_append, List.length_replicate]; omega
    refine ⟨_, rfl, ⟨some ⟨g, 0, none⟩, a, none, 128, c, 0, ?_, .inr ⟨g, 0, rfl, ?_, fun i hi => ?_⟩, ?_, .inl rfl, fun b off hb => ?_⟩, ext_set8 E5 (Nat.le_refl _) _ _ _ _ _ _ _ _⟩
    · show _ = sv _ _ _ (st ++ List.replicate (128 - st.length) 0).length _ tp.length _ ([] : List Int).length _ _ _ _ _ _
      rw [hfull, Hl2.out]
      rfl
    · exact lt_of_block ((other8 w5 w.heap.size g (by omega) _ _ _ _ _ _ _ _).trans HG.out)
    · rw [Nat.zero_add]
      refine cell_of_cells ((other8 w5 w.heap.size g (by omega) _ _ _ _ _ _ _ _).trans HG.out) i ?_
      rw [List.getElem?_toArray]
      exact iv_get _ i hi
    · have hn : tp.length = n2 := Hl2.out
      refine own_ints (nb := nn) (t := 3) (n := n2) (c := c) (own_later ho (fun b hb => ?_))
      have := own_at ho hb
      have hab : a = some ⟨b, 0, none⟩ := by
        rcases ho.2 with ⟨h1, _⟩ | ⟨g', cap', cur', h1, _⟩
        · rw [(Value.slice.inj h1).1] at hb; cases hb
        · have e := (Value.slice.inj h1).1
          rw [e] at hb ⊢
          have : g' = b := by simpa [Value.ownBlock] using hb
          rw [this]
      exact (other8 w5 w.heap.size b (by omega) _ _ _ _ _ _ _ _).trans (C5.block b this.2 (hdis b hab))
    · rcases hb with hb | hb | hb
      · injection hb with hb; injection hb with hb; omega
      · have := own_at ho (b := b) (by rw [hb]; rfl); omega
      · cases hb
theorem begin_good (a1 a2 : Option Addr) (n1 n2 c1 c2 : Nat) (st tp : List Int) (start : Int) (w : World) (l1 : st.length = n1) (l2 : tp.length = n2) (h1 : n1 ≤ 128) (h2 : n2 ≤ 200)
    (i1 : IntsAt w a1 st) (i2 : IntsAt w a2 tp) (e1 : outB 16777215 st = false) (e2 : outB 16777215 tp = false) (e3 : addrB start = true) :
    Calls Tryz.prog 32 #[.slice a1 n1 c1, .slice a2 n2 c2, .int .i64 start] w (StRes (⟨st ++ List.replicate (128 - st.length) 0, tp, 0, [], start % 16, start, 0, 0⟩, 0) w) :=
  (begin_good' a1 a2 n1 n2 c1 c2 st tp start w l1 l2 h1 h2 i1 i2 e1 e2 e3).mono fun _ _ h => h.st
theorem begin_any (a1 a2 : Option Addr) (n1 n2 c1 c2 : Nat) (st tp : List Int) (start : Int) (w : World) (l1 : st.length = n1) (l2 : tp.length = n2) (b1 : n1 ≤ 9223372036854775807) (b2 : n2 ≤ 9223372036854775807)
    (i1 : IntsAt w a1 st) (i2 : IntsAt w a2 tp) :
    Calls Tryz.prog 32 #[.slice a1 n1 c1, .slice a2 n2 c2, .int .i64 start] w (StRes (beginQ st tp start) w) := by
  by_cases h : (beginQ st tp start).2 = 0
  · by_cases h1 : st.length ≤ 128 ∧ tp.length ≤ 200
    · by_cases h2 : outB 16777215 st = false ∧ outB 16777215 tp = false ∧ addrB start = true
      · have e : beginQ st tp start = (⟨st ++ List.replicate (128 - st.length) 0, tp, 0, [], start % 16, start, 0, 0⟩, 0) := by unfold beginQ; rw [if_pos h1, if_pos h2]
        rw [e]
        exact begin_good a1 a2 n1 n2 c1 c2 st tp start w l1 l2 (by omega) (by omega) i1 i2 h2.1 h2.2.1 h2.2.2
      · unfold beginQ at h; rw [if_pos h1, if_neg h2] at h; exact absurd h (by decide)
    · unfold beginQ at h; rw [if_neg h1] at h; exact absurd h (by decide)
  · exact begin_bad a1 a2 n1 n2 c1 c2 st tp start w l1 l2 b1 b2 i1 i2 h
end Go.Proofs.YtbcciokmlkofkaaGreat

/- Contract: the program's Begin. -/
import Derived.Test.YtjfggepgjpdebaaC1
import Derived.Test.YtjfggepgjpdebaaB7
import Derived.Laws.CopyOwn
set_option linter.unusedVariables false
set_option linter.unusedSimpArgs false
namespace Go.Proofs.Ytjfggepgjpdebaa
open Go.RowKit Go.Q

/-- what Begin returns -/
def beginQ (st tp : List Int) (start : Int) : St × Int :=
  if st.length ≤ 128 ∧ tp.length ≤ 200 then
    (if outB 16777215 st = false ∧ outB 16777215 tp = false ∧ addrB start = true then (⟨st ++ List.replicate (128 - st.length) 0, tp, 0, [], start % 16, start, 0, 0⟩, 0) else (zst, 7))
  else (zst, 3)
def zz : Array Value := Array.replicate 128 (.int .i64 0)
theorem zz_list : zz.toList = iv (List.replicate 128 0) := by unfold zz iv; rw [Array.toList_replicate, List.map_replicate]
theorem made_rep (v : Value) (n : Nat) : madeCells #[v] n = Array.replicate n v := by
  apply Array.ext
  · simp [madeCells]
  · intro i h1 h2
    simp [madeCells, Nat.mod_one]
theorem zz_made : madeCells #[Value.int .i64 0] 128 = zz := made_rep _ _
/-- copy into a row of the call's own: nothing but the row's block turns -/
theorem copy_row {P : Program} {w : World} {ops : Array Oper} {rest : List Oper} {o : Oper} {a : Act} {Q : Exit → Act → World → Prop} (hgd : o.guard = none) (d s : Operand) (dT sT : TypeId)
    (ho : o.op = .call { callee := .builtin .copy, args := #[d, s], argTypes := #[dT, sT] }) (elem : TypeId) (hu : P.underlying dT = some (.slice elem)) (hsz : (P.info? elem).map (·.size) = some 1)
    (g dLen dCap : Nat) (sp : Option Addr) (sLen sCap : Nat) (hd : a.eval d = .slice (some ⟨g, 0, none⟩) dLen dCap) (hs : a.eval s = .slice sp sLen sCap)
    (cur : Array Value) (t : TypeId) (hg : w.heap[g]? = some (.cells cur t (0, 0))) (cs : List Value) (hn : cs.length = sLen) (hle : sLen ≤ dLen) (hfit : sLen ≤ cur.size) (h1 : ∀ v ∈ cs, v.oneCell' = true)
    (hsrc : cs = [] ∨ ∃ ad, sp = some ad ∧ ∀ j v, cs[j]? = some v → w.cell? (ad.add j) = some v)
    (h : ∀ w', Hid (w'.heap[g]? = some (.cells (cs ++ cur.toList.drop sLen).toArray t (0, 0))) → Chg (fun k => k = g) w w' → wpList P ops Q rest (a.put o.dst (goInt cs.length)) w') : wpList P ops Q (o :: rest) a w := by
  rcases hsrc with e | ⟨ad, rfl, hc⟩
  · subst e
    obtain rfl : sLen = 0 := hn.symm
    exact wpList_copy_nothing hgd d s dT sT ho elem hu hsz _ sp dLen dCap 0 sCap hd hs (Nat.zero_min _) (h w (show _ = _ by simpa using hg) (Chg.refl _ _))
  · refine wpList_copy_own hgd d s dT sT ho elem hu hsz g 0 dLen dCap ad sLen sCap hd hs cur t hg cs (by rw [hn]; exact (Nat.min_eq_left hle).symm) hc (by omega) h1 ?_
    refine h _ (show _ = _ from ?_) ⟨rfl, rfl, rfl, by simp [World.setRow], fun k _ hk => setRow_other w g k _ hk⟩
    rw [setRow_heap w g cur _ t (0, 0) hg]
    simp [hn]
theorem make128 (W : World) : (Instr.makeSlice 22 (.int .i64 128) (.int .i64 128)).run Try.prog W = .ok (.slice (some ⟨W.heap.size, 0, none⟩) 128 128) (W.alloc (.cells zz 3)) := by
  obtain ⟨i0, hi, hz0, hz1, hz2⟩ := info_parts Try.infoE
  have := run_makeSlice (P := Try.prog) W 22 3 i0 (.int .i64 0) Try.underlying22 hi hz0 .i64 .i64 128 128 (by decide) (by decide) (by rw [hz1]; decide) (by rw [hz2]; decide) (by decide)
  rw [hz1] at this
  rw [this, ← zz_made]
  rfl

set_option maxHeartbeats 4000000 in
set_option maxRecDepth 100000 in
theorem begin_bad (a1 a2 : Option Addr) (n1 n2 c1 c2 : Nat) (st tp : List Int) (start : Int) (w : World) (l1 : st.length = n1) (l2 : tp.length = n2) (b1 : n1 ≤ 9223372036854775807) (b2 : n2 ≤ 9223372036854775807)
    (i1 : IntsAt w a1 st) (i2 : IntsAt w a2 tp) (he : (beginQ st tp start).2 ≠ 0) :
    Calls Try.prog 17 #[.slice a1 n1 c1, .slice a2 n2 c2, .int .i64 start] w (StRes (beginQ st tp start) w) := by
  have hfin : ∀ (er : Int) (W : World), Ext w W → StRes (zst, er) w (.returned (.tuple #[.agg #[.slice none 0 0, .slice none 0 0, .int .i64 0, .slice none 0 0, .int .i64 0, .int .i64 0, .int .i64 0, .int .i64 0], .int .i64 er])) W :=
    fun er W hE => ⟨_, rfl, ⟨none, none, none, 0, 0, 0, rfl, .inl rfl, .inl rfl, .inl rfl⟩, hE⟩
  have ho1 := fun W (E : Ext w W) => out_any 16777215 a1 n1 c1 st W l1 b1 (i1.ext E)
  have ho2 := fun W (E : Ext w W) => out_any 16777215 a2 n2 c2 tp W l2 b2 (i2.ext E)
  clear i1 i2
  by_cases h1 : n1 ≤ 128
  · by_cases h2 : n2 ≤ 200
    · cases e1 : outB 16777215 st with
      | true =>
        have eq : beginQ st tp start = (zst, 7) := by simp [beginQ, l1, l2, h1, h2, e1]
        rw [eq]
        rw [e1] at ho1
        clear eq he e1 ho2 l1 l2
        go_enter Try.func17, Try.ntmps17
        go_wp2_with fail
        refine (ho1 _ (by exact (Ext.refl w).alloc _)).mono ?_
        rintro e W1 ⟨rfl, hb1⟩
        have qc0 := box_at (v := .slice none 0 0) (hb1) 0 rfl
        have qf0 := box_free (hb1) 0
        have qc1 := box_at (v := .slice none 0 0) (hb1) 1 rfl
        have qf1 := box_free (hb1) 1
        have qc2 := box_at (v := .int .i64 0) (hb1) 2 rfl
        have qf2 := box_free (hb1) 2
        have qc3 := box_at (v := .slice none 0 0) (hb1) 3 rfl
        have qf3 := box_free (hb1) 3
        have qc4 := box_at (v := .int .i64 0) (hb1) 4 rfl
        have qf4 := box_free (hb1) 4
        have qc5 := box_at (v := .int .i64 0) (hb1) 5 rfl
        have qf5 := box_free (hb1) 5
        have qc6 := box_at (v := .int .i64 0) (hb1) 6 rfl
        have qf6 := box_free (hb1) 6
        have qc7 := box_at (v := .int .i64 0) (hb1) 7 rfl
        have qf7 := box_free (hb1) 7
        go_wp2_with fail
        refine bodyPost_ret (v := .tuple #[.agg #[.slice none 0 0, .slice none 0 0, .int .i64 0, .slice none 0 0, .int .i64 0, .int .i64 0, .int .i64 0, .int .i64 0], .int .i64 7]) (by simp [results, Try.results17, go_sem, qc0, qc1, qc2, qc3, qc4, qc5, qc6, qc7]) rfl ?_
        exact hfin 7 _ (ext_set8 (Ext.old (hb1)) (Nat.le_refl _) _ _ _ _ _ _ _ _)
      | false =>
        cases e2 : outB 16777215 tp with
        | true =>
          have eq : beginQ st tp start = (zst, 7) := by simp [beginQ, l1, l2, h1, h2, e1, e2]
          rw [eq]
          rw [e1] at ho1
          rw [e2] at ho2
          clear eq he e1 e2 l1 l2
          go_enter Try.func17, Try.ntmps17
          go_wp2_with fail
          refine (ho1 _ (by exact (Ext.refl w).alloc _)).mono ?_
          rintro e W1 ⟨rfl, hb1⟩
          go_wp2_with fail
          refine (ho2 _ (by exact hb1.old)).mono ?_
          rintro e W2 ⟨rfl, hb2⟩
          have qc0 := box_at (v := .slice none 0 0) (hb1.comp hb2) 0 rfl
          have qf0 := box_free (hb1.comp hb2) 0
          have qc1 := box_at (v := .slice none 0 0) (hb1.comp hb2) 1 rfl
          have qf1 := box_free (hb1.comp hb2) 1
          have qc2 := box_at (v := .int .i64 0) (hb1.comp hb2) 2 rfl
          have qf2 := box_free (hb1.comp hb2) 2
          have qc3 := box_at (v := .slice none 0 0) (hb1.comp hb2) 3 rfl
          have qf3 := box_free (hb1.comp hb2) 3
          have qc4 := box_at (v := .int .i64 0) (hb1.comp hb2) 4 rfl
          have qf4 := box_free (hb1.comp hb2) 4
          have qc5 := box_at (v := .int .i64 0) (hb1.comp hb2) 5 rfl
          have qf5 := box_free (hb1.comp hb2) 5
          have qc6 := box_at (v := .int .i64 0) (hb1.comp hb2) 6 rfl
          have qf6 := box_free (hb1.comp hb2) 6
          have qc7 := box_at (v := .int .i64 0) (hb1.comp hb2) 7 rfl
          have qf7 := box_free (hb1.comp hb2) 7
          go_wp2_with fail
          refine bodyPost_ret (v := .tuple #[.agg #[.slice none 0 0, .slice none 0 0, .int .i64 0, .slice none 0 0, .int .i64 0, .int .i64 0, .int .i64 0, .int .i64 0], .int .i64 7]) (by simp [results, Try.results17, go_sem, qc0, qc1, qc2, qc3, qc4, qc5, qc6, qc7]) rfl ?_
          exact hfin 7 _ (ext_set8 (Ext.old (hb1.comp hb2)) (Nat.le_refl _) _ _ _ _ _ _ _ _)
        | false =>
          have e3 : addrB start = false := by
            cases h : addrB start with
            | false => rfl
            | true => exact absurd (by simp [beginQ, l1, l2, h1, h2, e1, e2, h]) he
          have eq : beginQ st tp start = (zst, 7) := by simp [beginQ, l1, l2, h1, h2, e1, e2, e3]
          have e3' : inB start 0 127 = false := e3
          rw [eq]
          rw [e1] at ho1
          rw [e2] at ho2
          clear eq he e1 e2 l1 l2 e3
          go_enter Try.func17, Try.ntmps17
          go_wp2_with fail
          refine (ho1 _ (by exact (Ext.refl w).alloc _)).mono ?_
          rintro e W1 ⟨rfl, hb1⟩
          go_wp2_with fail
          refine (ho2 _ (by exact hb1.old)).mono ?_
          rintro e W2 ⟨rfl, hb2⟩
          go_wp2_with fail
          refine (out_one _ start _ _ (by simp) (by simp)).mono ?_
          rintro e W3 ⟨rfl, hb3⟩
          have qc0 := box_at (v := .slice none 0 0) ((hb1.comp hb2).comp hb3.old) 0 rfl
          have qf0 := box_free ((hb1.comp hb2).comp hb3.old) 0
          have qc1 := box_at (v := .slice none 0 0) ((hb1.comp hb2).comp hb3.old) 1 rfl
          have qf1 := box_free ((hb1.comp hb2).comp hb3.old) 1
          have qc2 := box_at (v := .int .i64 0) ((hb1.comp hb2).comp hb3.old) 2 rfl
          have qf2 := box_free ((hb1.comp hb2).comp hb3.old) 2
          have qc3 := box_at (v := .slice none 0 0) ((hb1.comp hb2).comp hb3.old) 3 rfl
          have qf3 := box_free ((hb1.comp hb2).comp hb3.old) 3
          have qc4 := box_at (v := .int .i64 0) ((hb1.comp hb2).comp hb3.old) 4 rfl
          have qf4 := box_free ((hb1.comp hb2).comp hb3.old) 4
          have qc5 := box_at (v := .int .i64 0) ((hb1.comp hb2).comp hb3.old) 5 rfl
          have qf5 := box_free ((hb1.comp hb2).comp hb3.old) 5
          have qc6 := box_at (v := .int .i64 0) ((hb1.comp hb2).comp hb3.old) 6 rfl
          have qf6 := box_free ((hb1.comp hb2).comp hb3.old) 6
          have qc7 := box_at (v := .int .i64 0) ((hb1.comp hb2).comp hb3.old) 7 rfl
          have qf7 := box_free ((hb1.comp hb2).comp hb3.old) 7
          go_wp2_with fail
          refine bodyPost_ret (v := .tuple #[.agg #[.slice none 0 0, .slice none 0 0, .int .i64 0, .slice none 0 0, .int .i64 0, .int .i64 0, .int .i64 0, .int .i64 0], .int .i64 7]) (by simp [results, Try.results17, go_sem, qc0, qc1, qc2, qc3, qc4, qc5, qc6, qc7]) rfl ?_
          exact hfin 7 _ (ext_set8 (Ext.old ((hb1.comp hb2).comp hb3.old)) (Nat.le_refl _) _ _ _ _ _ _ _ _)
    · have eq : beginQ st tp start = (zst, 3) := by
        have : ¬ (st.length ≤ 128 ∧ tp.length ≤ 200) := by omega
        simp only [beginQ, if_neg this]
      rw [eq]
      clear eq he ho1 ho2 l1 l2
      go_enter Try.func17, Try.ntmps17
      go_wp2
      refine bodyPost_ret (v := .tuple #[.agg #[.slice none 0 0, .slice none 0 0, .int .i64 0, .slice none 0 0, .int .i64 0, .int .i64 0, .int .i64 0, .int .i64 0], .int .i64 3]) (by simp [results, Try.results17, go_sem]) rfl ?_
      exact hfin 3 _ ((Ext.refl w).alloc _)
  · have eq : beginQ st tp start = (zst, 3) := by
      have : ¬ (st.length ≤ 128 ∧ tp.length ≤ 200) := by omega
      simp only [beginQ, if_neg this]
    rw [eq]
    clear eq he ho1 ho2 l1 l2
    go_enter Try.func17, Try.ntmps17
    go_wp2
    refine bodyPost_ret (v := .tuple #[.agg #[.slice none 0 0, .slice none 0 0, .int .i64 0, .slice none 0 0, .int .i64 0, .int .i64 0, .int .i64 0, .int .i64 0], .int .i64 3]) (by simp [results, Try.results17, go_sem]) rfl ?_
    exact hfin 3 _ ((Ext.refl w).alloc _)

end Go.Proofs.Ytjfggepgjpdebaa

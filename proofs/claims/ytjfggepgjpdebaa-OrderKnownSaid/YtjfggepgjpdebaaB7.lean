/- Contract: the program's Run. -/
import Derived.Test.YtjfggepgjpdebaaB6
import Derived.Test.YtjfggepgjpdebaaSpec4e
set_option linter.unusedVariables false
set_option linter.unusedSimpArgs false
namespace Go.Proofs.Ytjfggepgjpdebaa
open Go.RowKit Go.Q
variable {nb m g1 c1 n0 : Nat} {tv pv : Value} {s : St} {o : Ord}

/-- the call returned a state and an error's code -/
def StRes (p : St × Int) (w : World) (e : Ending) (w' : World) : Prop := ∃ v, e = .returned (.tuple #[v, .int .i64 p.2]) ∧ StAt w' v p.1 ∧ Ext w w'

theorem Mac.reads {w : World} (h : Mac w nb m g1 c1 tv pv s o) : ∃ a2 ct a3 cp, tv = .slice a2 s.tape.length ct ∧ pv = .slice a3 s.printed.length cp ∧ IntsAt w (some ⟨g1, 0, none⟩) s.store ∧ IntsAt w a2 s.tape ∧ IntsAt w a3 s.printed := by
  obtain ⟨a2, ct, hv, ht⟩ := h.tp
  obtain ⟨a3, cp, hp⟩ := own_form h.prow
  refine ⟨a2, ct, a3, cp, hv, hp, .inr ⟨g1, 0, rfl, h.ltg, fun i hi => by rw [Nat.zero_add]; exact h.wc i (by rw [← h.len]; exact hi)⟩, ?_, ?_⟩
  · rcases ht with e | ⟨b, off, ha, ⟨cu, hcu⟩, _, _, _, hc⟩
    · exact .inl e
    · exact .inr ⟨b, off, ha, lt_of_block hcu, hc⟩
  · have := h.prow
    rw [hp] at this
    exact own_ints this
theorem keepM_tell : Tell Try.prog 61 #[] nb m g1 c1 n0 (fun _ _ => True) where
  keep := fun _ _ _ _ _ _ _ _ _ _ => trivial
  tell := fun x l W _ hn _ => by
    go_enter Try.func61, Try.ntmps61
    go_wp2
    go_end0
    exact ⟨rfl, trivial, KeepT.of_ext ((Ext.refl W).alloc _), (Below.refl n0 W).alloc hn _⟩
theorem blk2 {w w1 : World} {o : Obj} {vs : Array Value} {T : TypeId} (h : Ext ((w.alloc o).alloc (.cells vs T)) w1) : w1.heap[w.heap.size + 1]? = some (.cells vs T (0, 0)) := by
  refine (h.block (w.heap.size + 1) (by simp)).trans ?_
  have e := heap_alloc_new (w.alloc o) (.cells vs T)
  rw [World.size_alloc] at e
  exact e
theorem keep8 {w : World} {b : Nat} {cs : Array Value} {T : TypeId} (hb : w.heap[b]? = some (.cells cs T (0, 0))) (h1 : T ≠ 3) (h2 : T ≠ 92) (v0 v1 v2 v3 v4 v5 v6 v7 : Value) :
    KeepT w ((((((((w.setCell ⟨b, 0, none⟩ v0).setCell ⟨b, 1, none⟩ v1).setCell ⟨b, 2, none⟩ v2).setCell ⟨b, 3, none⟩ v3).setCell ⟨b, 4, none⟩ v4).setCell ⟨b, 5, none⟩ v5).setCell ⟨b, 6, none⟩ v6).setCell ⟨b, 7, none⟩ v7) := by
  have b1 := cells_set hb 0 v0
  have b2 := cells_set b1 1 v1
  have b3 := cells_set b2 2 v2
  have b4 := cells_set b3 3 v3
  have b5 := cells_set b4 4 v4
  have b6 := cells_set b5 5 v5
  have b7 := cells_set b6 6 v6
  exact (((((((KeepT.set hb h1 h2 0 v0).trans (KeepT.set b1 h1 h2 1 v1)).trans (KeepT.set b2 h1 h2 2 v2)).trans (KeepT.set b3 h1 h2 3 v3)).trans (KeepT.set b4 h1 h2 4 v4)).trans (KeepT.set b5 h1 h2 5 v5)).trans (KeepT.set b6 h1 h2 6 v6)).trans (KeepT.set b7 h1 h2 7 v7)

set_option maxHeartbeats 4000000 in
set_option maxRecDepth 100000 in
theorem run_bad (v : Value) (s : St) (most : Int) (w : World) (h : StAt w v s) (hb : StBd s) (he : askedQ s most ≠ 0) :
    Calls Try.prog 22 #[v, .int .i64 most] w (StRes (runE s most) w) := by
  have e1 : runE s most = (zst, askedQ s most) := by simp [runE, he]
  rw [e1]
  have ho := fun W (E : Ext w W) => open_bad v s most W (h.ext E) hb he
  have hne : (askedQ s most != 0) = true := by simpa using he
  obtain ⟨a1, a2, a3, k1, k2, k3, rfl, _, _, _⟩ := h
  clear he e1 hb
  generalize askedQ s most = er at *
  go_enter Try.func22, Try.ntmps22
  go_wp2_with fail
  refine (ho _ (by exact ((Ext.refl w).alloc _).alloc _)).mono ?_
  rintro e w3 ⟨rfl, hb3⟩
  have q0 := box_at2 (v := .slice none 0 0) hb3 0 rfl
  have q1 := box_at2 (v := .slice none 0 0) hb3 1 rfl
  have q2 := box_at2 (v := .int .i64 0) hb3 2 rfl
  have q3 := box_at2 (v := .slice none 0 0) hb3 3 rfl
  have q4 := box_at2 (v := .int .i64 0) hb3 4 rfl
  have q5 := box_at2 (v := .int .i64 0) hb3 5 rfl
  have q6 := box_at2 (v := .int .i64 0) hb3 6 rfl
  have q7 := box_at2 (v := .int .i64 0) hb3 7 rfl
  have f0 := box_free2 hb3 0
  have f1 := box_free2 hb3 1
  have f2 := box_free2 hb3 2
  have f3 := box_free2 hb3 3
  have f4 := box_free2 hb3 4
  have f5 := box_free2 hb3 5
  have f6 := box_free2 hb3 6
  have f7 := box_free2 hb3 7
  go_wp2_with fail
  refine bodyPost_ret (v := .tuple #[.agg #[.slice none 0 0, .slice none 0 0, .int .i64 0, .slice none 0 0, .int .i64 0, .int .i64 0, .int .i64 0, .int .i64 0], .int .i64 er]) (by simp [results, Try.results22, go_sem, q0, q1, q2, q3, q4, q5, q6, q7]) rfl ?_
  exact ⟨_, rfl, ⟨none, none, none, 0, 0, 0, rfl, .inl rfl, .inl rfl, .inl rfl⟩, ext_set8 (Ext.old (Ext.old hb3)) (by omega) _ _ _ _ _ _ _ _⟩

set_option maxHeartbeats 4000000 in
set_option maxRecDepth 100000 in
theorem run_good (v : Value) (s : St) (most : Int) (w : World) (h : StAt w v s) (hb : StBd s) (he : askedQ s most = 0) :
    Calls Try.prog 22 #[v, .int .i64 most] w (StRes (runE s most) w) := by
  have e1 : runE s most = (runQ most.toNat s, 0) := by simp [runE, he]
  rw [e1]
  obtain ⟨z1, z2⟩ := asked_ok he
  have hv := valid_of_check z1
  have z3 := check_zero z1
  obtain ⟨p0, p1⟩ := inB_bd z2
  obtain ⟨a1, a2, a3, k1, k2, k3, rfl, i1, i2, i3⟩ := h
  rw [hv.len]
  have ho := fun W (E : Ext w W) => open_ok a1 a2 a3 _ _ k1 k2 k3 s most W hv.len rfl rfl hv.tlen hv.plen (i1.ext E) (i2.ext E) (i3.ext E) z3 z2
  clear i1 i2 i3 z1 z2 z3 he e1 hb
  obtain ⟨n, rfl⟩ := Int.eq_ofNat_of_zero_le p0
  have hn : n ≤ 5000 := by omega
  have HV := Lib.hid hv
  clear hv p0 p1
  have en : ((n : Int)).toNat = n := rfl
  rw [en]
  clear en
  go_enter Try.func22, Try.ntmps22
  go_wp2_with fail
  refine (ho _ (by exact ((Ext.refl w).alloc _).alloc _)).mono ?_
  rintro e w3 ⟨m, g1, c1, tv, pv, rfl, M, hb3⟩
  clear ho
  go_wp2_with fail
  refine (run_any w3 (w.heap.size + 2) n 61 #[] (fun _ _ => True) M HV.out hn (by simp) (enters_of Try.func61 (by kernel_rfl) rfl) keepM_tell trivial).mono ?_
  rintro e w4 ⟨rfl, ⟨pv4, o4, M4⟩, _, hB4⟩
  have hb4 : Ext ((w.alloc _).alloc _) w4 := hb3.trans (by simpa using hB4)
  have q0 := box_at2 (v := .slice none 0 0) hb4 0 rfl
  have q1 := box_at2 (v := .slice none 0 0) hb4 1 rfl
  have q2 := box_at2 (v := .int .i64 0) hb4 2 rfl
  have q3 := box_at2 (v := .slice none 0 0) hb4 3 rfl
  have q4 := box_at2 (v := .int .i64 0) hb4 4 rfl
  have q5 := box_at2 (v := .int .i64 0) hb4 5 rfl
  have q6 := box_at2 (v := .int .i64 0) hb4 6 rfl
  have q7 := box_at2 (v := .int .i64 0) hb4 7 rfl
  have f0 := box_free2 hb4 0
  have f1 := box_free2 hb4 1
  have f2 := box_free2 hb4 2
  have f3 := box_free2 hb4 3
  have f4 := box_free2 hb4 4
  have f5 := box_free2 hb4 5
  have f6 := box_free2 hb4 6
  have f7 := box_free2 hb4 7
  obtain ⟨b2, bt, b3, bp, rfl, rfl, _, _, _⟩ := M4.reads
  have M5 := M4.keep (keep8 (blk2 hb4) (by decide) (by decide) (.slice (some ⟨g1, 0, none⟩) 128 c1) (.slice b2 (runQ n s).tape.length bt) (.int .i64 (runQ n s).taken) (.slice b3 (runQ n s).printed.length bp) (.int .i64 (runQ n s).time) (.int .i64 (runQ n s).at_) (.int .i64 (runQ n s).done) (.int .i64 (runQ n s).why))
  have HM5 := Lib.hid M5
  clear M5
  have r0 := M4.c 0 (v := .slice (some ⟨g1, 0, none⟩) 128 c1) rfl
  have r1 := M4.c 1 (v := .slice b2 (runQ n s).tape.length bt) rfl
  have r2 := M4.c 2 (v := .int .i64 (runQ n s).taken) rfl
  have r3 := M4.c 3 (v := .slice b3 (runQ n s).printed.length bp) rfl
  have r4 := M4.c 4 (v := .int .i64 (runQ n s).time) rfl
  have r5 := M4.c 5 (v := .int .i64 (runQ n s).at_) rfl
  have r6 := M4.c 6 (v := .int .i64 (runQ n s).done) rfl
  have r7 := M4.c 7 (v := .int .i64 (runQ n s).why) rfl
  have hlen := Lib.hid M4.len
  clear M M4 hB4 hb3
  go_wp2_with fail
  refine bodyPost_ret (v := .tuple #[.agg #[.slice (some ⟨g1, 0, none⟩) 128 c1, .slice b2 (runQ n s).tape.length bt, .int .i64 (runQ n s).taken, .slice b3 (runQ n s).printed.length bp, .int .i64 (runQ n s).time, .int .i64 (runQ n s).at_, .int .i64 (runQ n s).done, .int .i64 (runQ n s).why], .int .i64 0]) (by simp [results, Try.results22, go_sem, q0, q1, q2, q3, q4, q5, q6, q7]) rfl ?_
  obtain ⟨d2, dt, d3, dp, x1, x2, I1, I2, I3⟩ := HM5.out.reads
  obtain ⟨rfl, -, rfl⟩ := Value.slice.inj x1
  obtain ⟨rfl, -, rfl⟩ := Value.slice.inj x2
  exact ⟨_, rfl, ⟨some ⟨g1, 0, none⟩, b2, b3, c1, bt, bp, by rw [hlen.out], I1, I2, I3⟩, ext_set8 (Ext.old (Ext.old hb4)) (by omega) _ _ _ _ _ _ _ _⟩
theorem runE_any (v : Value) (s : St) (most : Int) (w : World) (h : StAt w v s) (hb : StBd s) : Calls Try.prog 22 #[v, .int .i64 most] w (StRes (runE s most) w) := by
  by_cases he : askedQ s most = 0
  · exact run_good v s most w h hb he
  · exact run_bad v s most w h hb he
end Go.Proofs.Ytjfggepgjpdebaa

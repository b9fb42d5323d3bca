import Derived.Deep.AppendLies
import Derived.Laws.CopyOwn
import Derived.Maps.AppendAt
import Derived.Deep.RegionLaw
import Derived.Laws.OwnMore
import Derived.Laws.Strings
import Derived.Lib.SmallJoins
import Derived.Test.YtnhpcoagkmgdoaaX3
set_option linter.unusedVariables false
set_option linter.unusedSimpArgs false
/- Contract: the program's Run. -/
namespace Go.Proofs.Ytnhpcoagkmgdoaa
open Go.RowKit Go.Q
variable {nb m g1 c1 n0 : Nat} {tv pv : Value} {s : St} {o : Ord}
/-- the call returned a state and an error's code -/
def StRes (p : St × Int) (w : World) (e : Ending) (w' : World) : Prop := ∃ v, e = .returned (.tuple #[v, .int .i64 p.2]) ∧ StAt w' v p.1 ∧ Ext w w'
theorem Mac.reads {w : World} (h : Mac w nb m g1 c1 tv pv s o) : ∃ a2 ct a3 cp, tv = .slice a2 s.tape.length ct ∧ pv = .slice a3 s.printed.length cp ∧ IntsAt w (some ⟨g1, 0, none⟩) s.store ∧ IntsAt w a2 s.tape ∧ IntsAt w a3 s.printed := by
 obtain ⟨a2, ct, hv, ht⟩ := h.tp
 obtain ⟨a3, cp, hp⟩ := own_form h.prow
 refine ⟨a2, ct, a3, cp, hv, hp, .inr ⟨g1, 0, rfl, h.ltg, fun i hi => by rw [Nat.zero_add]; exact h.wc i (by rw [← h.len]; exact hi)⟩, ?_, ?_⟩
 ·rcases ht with e | ⟨b, off, ha, ⟨cu, hcu⟩, _, _, _, hc⟩
  ·exact .inl e
  ·exact .inr ⟨b, off, ha, lt_of_block hcu, hc⟩
 ·have := h.prow
  rw [hp] at this
  exact own_ints this
theorem keepM_tell : Tell Try.prog 71 #[] nb m g1 c1 n0 (fun _ _ => True) where
 keep := fun _ _ _ _ _ _ _ _ _ _ => trivial
 tell := fun x l W _ hn _ => by
  go_enter Try.func71, Try.ntmps71
  go_wp2
  go_end0
  exact ⟨rfl, trivial, KeepT.of_ext ((Ext.refl W).alloc _), (Below.refl n0 W).alloc hn _⟩
theorem blk2 {w w1 : World} {o : Obj} {vs : Array Value} {T : TypeId} (h : Ext ((w.alloc o).alloc (.cells vs T)) w1) : w1.heap[w.heap.size + 1]? = some (.cells vs T (0, 0)) := by
 refine (h.block (w.heap.size + 1) (by simp)).trans ?_
 have e := heap_alloc_new (w.alloc o) (.cells vs T)
 rw [World.size_alloc] at e
 exact e
theorem keep8 {w : World} {b : Nat} {cs : Array Value} {T : TypeId} (hb : w.heap[b]? = some (.cells cs T (0, 0))) (h1 : T ≠ 3) (h2 : T ≠ 124) (v0 v1 v2 v3 v4 v5 v6 v7 : Value) :
  KeepT w ((((((((w.setCell ⟨b, 0, none⟩ v0).setCell ⟨b, 1, none⟩ v1).setCell ⟨b, 2, none⟩ v2).setCell ⟨b, 3, none⟩ v3).setCell ⟨b, 4, none⟩ v4).setCell ⟨b, 5, none⟩ v5).setCell ⟨b, 6, none⟩ v6).setCell ⟨b, 7, none⟩ v7) := by
 have b1 := cells_set hb 0 v0
 have b2 := cells_set b1 1 v1
 have b3 := cells_set b2 2 v2
 have b4 := cells_set b3 3 v3
 have b5 := cells_set b4 4 v4
 have b6 := cells_set b5 5 v5
 have b7 := cells_set b6 6 v6
 exact (((((((KeepT.set hb h1 h2 0 v0).trans (KeepT.set b1 h1 h2 1 v1)).trans (KeepT.set b2 h1 h2 2 v2)).trans (KeepT.set b3 h1 h2 3 v3)).trans (KeepT.set b4 h1 h2 4 v4)).trans (KeepT.set b5 h1 h2 5 v5)).trans (KeepT.set b6 h1 h2 6 v6)).trans (KeepT.set b7 h1 h2 7 v7)
set_option maxHeartbeats 4000000 in
set_option maxRecDepth 100000 in
theorem run_bad (v : Value) (s : St) (most : Int) (w : World) (h : StAt w v s) (hb : StBd s) (he : askedQ s most ≠ 0) :
  Calls Try.prog 31 #[v, .int .i64 most] w (StRes (runE s most) w) := by
 have e1 : runE s most = (zst, askedQ s most) := by simp [runE, he]
 rw [e1]
 have ho := fun W (E : Ext w W) => open_bad v s most W (h.ext E) hb he
 have hne : (askedQ s most != 0) = true := by simpa using he
 obtain ⟨a1, a2, a3, k1, k2, k3, rfl, _, _, _⟩ := h
 clear he e1 hb
 generalize askedQ s most = er at *
 go_enter Try.func31, Try.ntmps31
 go_wp2_with fail
 refine (ho _ (by exact ((Ext.refl w).alloc _).alloc _)).mono ?_
 rintro e w3 ⟨rfl, hb3⟩
 have q0 := box_at2 (v := .slice none 0 0) hb3 0 rfl
 have q1 := box_at2 (v := .slice none 0 0) hb3 1 rfl
 have q2 := box_at2 (v := .int .i64 0) hb3 2 rfl
 have q3 := box_at2 (v := .slice none 0 0) hb3 3 rfl
 have q4 := box_at2 (v := .int .i64 0) hb3 4 rfl
 have q5 := box_at2 (v := .int .i64 0) hb3 5 rfl
 have q6 := box_at2 (v := .int .i64 0) hb3 6 rfl
 have q7 := box_at2 (v := .int .i64 0) hb3 7 rfl
 have f0 := box_free2 hb3 0
 have f1 := box_free2 hb3 1
 have f2 := box_free2 hb3 2
 have f3 := box_free2 hb3 3
 have f4 := box_free2 hb3 4
 have f5 := box_free2 hb3 5
 have f6 := box_free2 hb3 6
 have f7 := box_free2 hb3 7
 go_wp2_with fail
 refine bodyPost_ret (v := .tuple #[.agg #[.slice none 0 0, .slice none 0 0, .int .i64 0, .slice none 0 0, .int .i64 0, .int .i64 0, .int .i64 0, .int .i64 0], .int .i64 er]) (by simp [results, Try.results31, go_sem, q0, q1, q2, q3, q4, q5, q6, q7]) rfl ?_
 exact ⟨_, rfl, ⟨none, none, none, 0, 0, 0, rfl, .inl rfl, .inl rfl, .inl rfl⟩, ext_set8 (Ext.old (Ext.old hb3)) (by omega) _ _ _ _ _ _ _ _⟩
set_option maxHeartbeats 4000000 in
set_option maxRecDepth 100000 in
theorem run_good (v : Value) (s : St) (most : Int) (w : World) (h : StAt w v s) (hb : StBd s) (he : askedQ s most = 0) :
  Calls Try.prog 31 #[v, .int .i64 most] w (StRes (runE s most) w) := by
 have e1 : runE s most = (runQ most.toNat s, 0) := by simp [runE, he]
 rw [e1]
 obtain ⟨z1, z2⟩ := asked_ok he
 have hv := valid_of_check z1
 have z3 := check_zero z1
 obtain ⟨p0, p1⟩ := inB_bd z2
 obtain ⟨a1, a2, a3, k1, k2, k3, rfl, i1, i2, i3⟩ := h
 rw [hv.len]
 have ho := fun W (E : Ext w W) => open_ok a1 a2 a3 _ _ k1 k2 k3 s most W hv.len rfl rfl hv.tlen hv.plen (i1.ext E) (i2.ext E) (i3.ext E) z3 z2
 clear i1 i2 i3 z1 z2 z3 he e1 hb
 obtain ⟨n, rfl⟩ := Int.eq_ofNat_of_zero_le p0
 have hn : n ≤ 5000 := by omega
 have HV := Lib.hid hv
 clear hv p0 p1
 have en : ((n : Int)).toNat = n := rfl
 rw [en]
 clear en
 go_enter Try.func31, Try.ntmps31
 go_wp2_with fail
 refine (ho _ (by exact ((Ext.refl w).alloc _).alloc _)).mono ?_
 rintro e w3 ⟨m, g1, c1, tv, pv, rfl, M, hb3⟩
 clear ho
 go_wp2_with fail
 refine (run_any w3 (w.heap.size + 2) n 71 #[] (fun _ _ => True) M HV.out hn (by simp) (enters_of Try.func71 (by kernel_rfl) rfl) keepM_tell trivial).mono ?_
 rintro e w4 ⟨rfl, ⟨pv4, o4, M4⟩, _, hB4⟩
 have hb4 : Ext ((w.alloc _).alloc _) w4 := hb3.trans (by simpa using hB4)
 have q0 := box_at2 (v := .slice none 0 0) hb4 0 rfl
 have q1 := box_at2 (v := .slice none 0 0) hb4 1 rfl
 have q2 := box_at2 (v := .int .i64 0) hb4 2 rfl
 have q3 := box_at2 (v := .slice none 0 0) hb4 3 rfl
 have q4 := box_at2 (v := .int .i64 0) hb4 4 rfl
 have q5 := box_at2 (v := .int .i64 0) hb4 5 rfl
 have q6 := box_at2 (v := .int .i64 0) hb4 6 rfl
 have q7 := box_at2 (v := .int .i64 0) hb4 7 rfl
 have f0 := box_free2 hb4 0
 have f1 := box_free2 hb4 1
 have f2 := box_free2 hb4 2
 have f3 := box_free2 hb4 3
 have f4 := box_free2 hb4 4
 have f5 := box_free2 hb4 5
 have f6 := box_free2 hb4 6
 have f7 := box_free2 hb4 7
 obtain ⟨b2, bt, b3, bp, rfl, rfl, _, _, _⟩ := M4.reads
 have M5 := M4.keep (keep8 (blk2 hb4) (by decide) (by decide) (.slice (some ⟨g1, 0, none⟩) 128 c1) (.slice b2 (runQ n s).tape.length bt) (.int .i64 (runQ n s).taken) (.slice b3 (runQ n s).printed.length bp) (.int .i64 (runQ n s).time) (.int .i64 (runQ n s).at_) (.int .i64 (runQ n s).done) (.int .i64 (runQ n s).why))
 have HM5 := Lib.hid M5
 clear M5
 have r0 := M4.c 0 (v := .slice (some ⟨g1, 0, none⟩) 128 c1) rfl
 have r1 := M4.c 1 (v := .slice b2 (runQ n s).tape.length bt) rfl
 have r2 := M4.c 2 (v := .int .i64 (runQ n s).taken) rfl
 have r3 := M4.c 3 (v := .slice b3 (runQ n s).printed.length bp) rfl
 have r4 := M4.c 4 (v := .int .i64 (runQ n s).time) rfl
 have r5 := M4.c 5 (v := .int .i64 (runQ n s).at_) rfl
 have r6 := M4.c 6 (v := .int .i64 (runQ n s).done) rfl
 have r7 := M4.c 7 (v := .int .i64 (runQ n s).why) rfl
 have hlen := Lib.hid M4.len
 clear M M4 hB4 hb3
 go_wp2_with fail
 refine bodyPost_ret (v := .tuple #[.agg #[.slice (some ⟨g1, 0, none⟩) 128 c1, .slice b2 (runQ n s).tape.length bt, .int .i64 (runQ n s).taken, .slice b3 (runQ n s).printed.length bp, .int .i64 (runQ n s).time, .int .i64 (runQ n s).at_, .int .i64 (runQ n s).done, .int .i64 (runQ n s).why], .int .i64 0]) (by simp [results, Try.results31, go_sem, q0, q1, q2, q3, q4, q5, q6, q7]) rfl ?_
 obtain ⟨d2, dt, d3, dp, x1, x2, I1, I2, I3⟩ := HM5.out.reads
 obtain ⟨rfl, -, rfl⟩ := Value.slice.inj x1
 obtain ⟨rfl, -, rfl⟩ := Value.slice.inj x2
 exact ⟨_, rfl, ⟨some ⟨g1, 0, none⟩, b2, b3, c1, bt, bp, by rw [hlen.out], I1, I2, I3⟩, ext_set8 (Ext.old (Ext.old hb4)) (by omega) _ _ _ _ _ _ _ _⟩
theorem runE_any (v : Value) (s : St) (most : Int) (w : World) (h : StAt w v s) (hb : StBd s) : Calls Try.prog 31 #[v, .int .i64 most] w (StRes (runE s most) w) := by
 by_cases he : askedQ s most = 0
 ·exact run_good v s most w h hb he
 ·exact run_bad v s most w h hb he
end Go.Proofs.Ytnhpcoagkmgdoaa
/- Contract: the program's Trace. -/
namespace Go.Proofs.Ytnhpcoagkmgdoaa
open Go.RowKit Go.Q
variable {nb m g1 c1 n0 : Nat} {tv pv : Value} {s : St} {o : Ord}
end Go.Proofs.Ytnhpcoagkmgdoaa
/- Contracts: the reference's Ints; the program's Begin. -/
namespace Go.Proofs.Ytnhpcoagkmgdoaa
open Go.RowKit Go.Q
theorem ints_eq {xs ys : List Int} (hl : xs.length = ys.length) (h : ∀ j, j < xs.length → xs[j]?.getD 0 = ys[j]?.getD 0) : xs = ys := by
 apply List.ext_getElem hl
 intro i h1 h2
 have := h i h1
 rw [List.getElem?_eq_getElem h1, List.getElem?_eq_getElem h2] at this
 simpa using this
set_option maxHeartbeats 1000000 in
theorem ints_any (a b : Option Addr) (n m c d : Nat) (xs ys : List Int) (w : World) (hn : xs.length = n) (hm : ys.length = m) (b1 : n ≤ 9223372036854775807) (b2 : m ≤ 9223372036854775807) (hI : IntsAt w a xs) (hJ : IntsAt w b ys) :
  Calls Try.prog 19 #[.slice a n c, .slice b m d] w fun e w' => e = .returned (.bool (decide (xs = ys))) ∧ Ext w w' := by
 by_cases hnm : n = m
 ·subst hnm
  by_cases h0 : n = 0
  ·subst h0
   have e1 : xs = [] := List.eq_nil_of_length_eq_zero hn
   have e2 : ys = [] := List.eq_nil_of_length_eq_zero hm
   subst e1; subst e2
   clear hI hJ hn hm
   go_enter Try.func19, Try.ntmps19
   go_wp2
   go_loop [5] (fun s => s = .int .i64 0) (fun _ => 0)
   case atStart => exact rfl
   case round =>
    obtain rfl := hrel
    go_wp2
    go_ret
    exact ⟨rfl, Ext.refl _⟩
  ·rcases hI with e | ⟨ba, oa, rfl, _, hc⟩
   ·subst e; exact absurd hn.symm h0
   rcases hJ with e | ⟨bb, ob, rfl, _, hd⟩
   ·subst e; exact absurd hm.symm h0
   have hne : ((n : Int) != (n : Int)) = false := by simp
   have Hn := Lib.hid hn
   have Hm := Lib.hid hm
   rw [hn] at hc
   rw [hm] at hd
   clear hn hm h0
   go_enter Try.func19, Try.ntmps19
   go_wp2
   go_loopw [5] (fun s wr => ∃ k : Nat, k ≤ n ∧ s = .int .i64 k ∧ Aside (Ext w wr) ∧ Aside (∀ j, j < k → xs[j]?.getD 0 = ys[j]?.getD 0)) (fun s _ => n - (intOf s).toNat)
   case atStart => exact ⟨0, Nat.zero_le _, rfl, Ext.refl w, fun j hj => absurd hj (Nat.not_lt_zero _)⟩
   case round =>
    obtain ⟨k, hk, rfl, EW, A⟩ := hrel
    by_cases hlt : k < n
    ·have hltz : (k : Int) < (n : Int) := by omega
     have p := cell_later EW.out (hc k hlt)
     have q := cell_later EW.out (hd k hlt)
     have hk0 : (0 : Int) ≤ (k : Int) := by omega
     clear hc hd
     generalize hx : xs[k]?.getD 0 = x at p
     generalize hy : ys[k]?.getD 0 = y at q
     have Hx := Lib.hid hx
     have Hy := Lib.hid hy
     clear hx hy
     cases hq : x == y with
     | true =>
      have hq' : (x != y) = false := by rw [bne, hq]; rfl
      have Hq := Lib.hid hq
      clear hq
      go_wp2
      go_quiet (fail)
      go_wp2
      go_roundw
      case rel =>
       refine ⟨k + 1, by omega, by go_num, below_drewN EW.out _, (show Aside _ from fun j hj => ?_)⟩
       by_cases e : j = k
       ·subst e
        rw [Hx.out, Hy.out]; simpa using Hq.out
       ·exact A.out j (by omega)
      case measure => simp [intOf]; omega
     | false =>
      have hq' : (x != y) = true := by rw [bne, hq]; rfl
      have Hq := Lib.hid hq
      clear hq
      go_wp2
      go_quiet (fail)
      go_wp2
      go_ret
      refine ⟨ret_bool ?_, below_drewN EW.out _⟩
      symm; rw [decide_eq_false_iff_not]
      intro e
      have : x = y := by rw [← Hx.out, ← Hy.out, e]
      have := Hq.out
      simp_all
    ·have hltz : ¬ (k : Int) < (n : Int) := by omega
     go_wp2
     go_ret
     refine ⟨ret_bool ?_, EW.out⟩
     symm; rw [decide_eq_true_iff]
     exact ints_eq (by rw [Hn.out, Hm.out]) (fun j hj => A.out j (by have := Hn.out; omega))
 ·have hne : ((n : Int) != (m : Int)) = true := by rw [bne_iff_ne]; omega
  have e : decide (xs = ys) = false := by rw [decide_eq_false_iff_not]; intro e; subst e; omega
  rw [e]
  clear hnm hn hm e hI hJ
  go_enter Try.func19, Try.ntmps19
  go_wp2
  go_ret
  exact ⟨rfl, Ext.refl _⟩
end Go.Proofs.Ytnhpcoagkmgdoaa
/- Contract: the program's Begin. -/
namespace Go.Proofs.Ytnhpcoagkmgdoaa
open Go.RowKit Go.Q
/-- what Begin returns -/
def beginQ (st tp : List Int) (start : Int) : St × Int :=
 if st.length ≤ 128 ∧ tp.length ≤ 200 then
  (if outB 16777215 st = false ∧ outB 16777215 tp = false ∧ addrB start = true then (⟨st ++ List.replicate (128 - st.length) 0, tp, 0, [], start % 16, start, 0, 0⟩, 0) else (zst, 7))
 else (zst, 3)
def zz : Array Value := Array.replicate 128 (.int .i64 0)
theorem zz_list : zz.toList = iv (List.replicate 128 0) := by unfold zz iv; rw [Array.toList_replicate, List.map_replicate]
theorem made_rep (v : Value) (n : Nat) : madeCells #[v] n = Array.replicate n v := by
 apply Array.ext
 ·simp [madeCells]
 ·intro i h1 h2
  simp [madeCells, Nat.mod_one]
theorem zz_made : madeCells #[Value.int .i64 0] 128 = zz := made_rep _ _
theorem make128 (W : World) : (Instr.makeSlice 22 (.int .i64 128) (.int .i64 128)).run Try.prog W = .ok (.slice (some ⟨W.heap.size, 0, none⟩) 128 128) (W.alloc (.cells zz 3)) := by
 obtain ⟨i0, hi, hz0, hz1, hz2⟩ := info_parts Try.infoE
 have := run_makeSlice (P := Try.prog) W 22 3 i0 (.int .i64 0) Try.underlying22 hi hz0 .i64 .i64 128 128 (by decide) (by decide) (by rw [hz1]; decide) (by rw [hz2]; decide) (by decide)
 rw [hz1] at this
 rw [this, ← zz_made]
 rfl
end Go.Proofs.Ytnhpcoagkmgdoaa
/- Contract: the program's Begin, where it succeeds. -/
namespace Go.Proofs.Ytnhpcoagkmgdoaa
open Go.RowKit Go.Q
theorem other8 (W : World) (b k : Nat) (hk : k ≠ b) (v0 v1 v2 v3 v4 v5 v6 v7 : Value) : ((((((((W.setCell ⟨b, 0, none⟩ v0).setCell ⟨b, 1, none⟩ v1).setCell ⟨b, 2, none⟩ v2).setCell ⟨b, 3, none⟩ v3).setCell ⟨b, 4, none⟩ v4).setCell ⟨b, 5, none⟩ v5).setCell ⟨b, 6, none⟩ v6).setCell ⟨b, 7, none⟩ v7).heap[k]? = W.heap[k]? :=
 (Below.heap_setCell _ _ _ _ hk).trans ((Below.heap_setCell _ _ _ _ hk).trans ((Below.heap_setCell _ _ _ _ hk).trans ((Below.heap_setCell _ _ _ _ hk).trans ((Below.heap_setCell _ _ _ _ hk).trans ((Below.heap_setCell _ _ _ _ hk).trans ((Below.heap_setCell _ _ _ _ hk).trans (Below.heap_setCell _ _ _ _ hk)))))))
theorem cells8 {W : World} {b : Nat} {u0 u1 u2 u3 u4 u5 u6 u7 : Value} {T : TypeId} (h : W.heap[b]? = some (.cells #[u0, u1, u2, u3, u4, u5, u6, u7] T (0, 0))) (v0 v1 v2 v3 v4 v5 v6 v7 : Value) :
  ((((((((W.setCell ⟨b, 0, none⟩ v0).setCell ⟨b, 1, none⟩ v1).setCell ⟨b, 2, none⟩ v2).setCell ⟨b, 3, none⟩ v3).setCell ⟨b, 4, none⟩ v4).setCell ⟨b, 5, none⟩ v5).setCell ⟨b, 6, none⟩ v6).setCell ⟨b, 7, none⟩ v7).heap[b]? = some (.cells #[v0, v1, v2, v3, v4, v5, v6, v7] T (0, 0)) :=
 (cells_set (cells_set (cells_set (cells_set (cells_set (cells_set (cells_set (cells_set h 0 v0) 1 v1) 2 v2) 3 v3) 4 v4) 5 v5) 6 v6) 7 v7).trans (by simp)
end Go.Proofs.Ytnhpcoagkmgdoaa
/- Contract: Awake returns true. -/
namespace Go.Proofs.Ytnhpcoagkmgdoaa
open Go.RowKit Go.Q
def storeQ : List Int := [12583560, 0, 0, 0, 0, 0, 0, 0, 10569226, 0, 4278016, 0, 14909453, 0, 0]
def st0 : St := (beginQ storeQ [3, 4, 16777215] 0).1
theorem aw_begin : (beginQ storeQ [3, 4, 16777215] 0).2 = 0 := by decide +kernel
theorem store_any (w : World) : Calls Try.prog 63 #[] w fun e w' => e = .returned (.slice (some ⟨w.heap.size, 0, none⟩) 15 15) ∧ w.alloc (.cells (iv storeQ).toArray 3) = w' := by
 go_enter Try.func63, Try.ntmps63
 go_wp2
 go_ret
 exact ⟨rfl, rfl⟩
end Go.Proofs.Ytnhpcoagkmgdoaa
/- Contract: Awake returns true. -/
namespace Go.Proofs.Ytnhpcoagkmgdoaa
open Go.RowKit Go.Q
theorem ints_fresh {w W : World} {xs : List Int} {t : TypeId} {l : Array Value} (hl : l = (iv xs).toArray) (E : Ext (w.alloc (.cells l t)) W) : IntsAt W (some ⟨w.heap.size, 0, none⟩) xs := by
 subst hl
 refine .inr ⟨_, 0, rfl, Nat.lt_of_lt_of_le (by simp) E.size, fun i hi => ?_⟩
 rw [Nat.zero_add]
 exact box_at E i (by rw [List.getElem?_toArray]; exact iv_get _ i hi)
end Go.Proofs.Ytnhpcoagkmgdoaa
/- Append to a row of the call's own, the source nil or not, in a plain region and in one that draws; what such a row reads as. -/
namespace Go.Q
open Go.RowKit
/-- the cells news lie from a on; where there are none nothing is asked -/
def From (w : World) (a : Option Addr) (news : List Value) : Prop := news = [] ∨ ∃ ad, a = some ad ∧ ∀ j u, news[j]? = some u → w.cell? (ad.add j) = some u
theorem ext_drewN {a b : World} (h : Ext a b) (n : Nat) : Ext a (b.drewN n) := below_drewN h n
theorem ext_drew {a b : World} (h : Ext a b) : Ext a b.drew := h.drew
theorem run_app_nil {P : Program} {w : World} (t ty e : TypeId) {i : TypeInfo} (ht : P.underlying t = some (.slice e)) (hi : P.info? e = some i) {B sz n : Nat} {v : Value} {xs : List Value}
  (hown : w.ownsRow B e sz v n xs) (c : Nat) : (Builtin.append_ #[t, t] ty #[v, .slice none 0 c]).run P w = .ok v w := by
 rcases hown.2 with ⟨h, _⟩ | ⟨g, cap, cur, h, _, _, hle, _⟩ <;> subst h
 ·simp [Builtin.append_, Builtin.lenOf, Builtin.firstCells, run_underlying ht, sizeOf, typeInfo, hi]
 ·simp [Builtin.append_, Builtin.lenOf, Builtin.firstCells, run_underlying ht, sizeOf, typeInfo, hi, hle, storeCells]
theorem run_app {P : Program} {w0 w : World} (t ty e : TypeId) (i : TypeInfo) (z : Value) (sz bytes : Nat) (ht : P.underlying t = some (.slice e)) (hi : P.info? e = some i) (hz : i.zero = some z) (hs : i.size = sz) (hb : i.bytes = bytes) (hzs : z.cells.size = sz) (hsz : 0 < sz)
  (v : Value) (n B : Nat) (xs : List Value) (hown : w.ownsRow B e sz v n xs) (hE : Ext w0 w) (hB0 : w0.heap.size ≤ B) (hB1 : B ≤ w.heap.size)
  (a : Option Addr) (m c : Nat) (news : List Value) (hl : news.length = m * sz) (hf : From w a news) (h1 : ∀ u ∈ news, u.oneCell' = true) (h63 : n + m ≤ maxLen) (hbytes : (n + m) * bytes ≤ 140737488355328) :
  ∃ (a' : Option Addr) (c' : Nat) (w' : World), (Builtin.append_ #[t, t] ty #[v, .slice a m c]).run P w = .ok (.slice a' (n + m) c') w' ∧ w'.ownsRow B e sz (.slice a' (n + m) c') (n + m) (xs ++ news) ∧ Ext w0 w' ∧ w.grownBy w' v.ownBlock := by
 have hrow : ∀ k, v.ownBlock = some k → w0.heap.size ≤ k := fun k hk => Nat.le_trans hB0 (hown.lt k hk).1
 have fin : ∀ (v' : Value) (w' : World), w'.ownsRow B e sz v' (n + m) (xs ++ news) → ∃ a' c', v' = .slice a' (n + m) c' := by
  intro v' w' h
  rcases h.2 with ⟨h1, h2⟩ | ⟨g, cap, cur, h1, _⟩
  ·exact ⟨none, 0, by rw [h2]; exact h1⟩
  ·exact ⟨_, _, h1⟩
 cases a with
 | none =>
  have hn : news = [] := by
   rcases hf with h | ⟨ad, h, _⟩
   ·exact h
   ·cases h
  subst hn
  have hm : m = 0 := by
   rcases Nat.eq_zero_or_pos m with h | h
   ·exact h
   ·have : 0 < m * sz := Nat.mul_pos h hsz
    simp at hl; omega
  subst hm
  have ho : w.ownsRow B e sz v (n + 0) (xs ++ []) := by simpa using hown
  obtain ⟨a', c', hv⟩ := fin v w ho
  exact ⟨a', c', w, by rw [← hv]; exact run_app_nil t ty e ht hi hown c, by rw [← hv]; exact ho, hE, World.grownBy.refl w _⟩
 | some ad =>
  have hc : ∀ j u, news[j]? = some u → w.cell? (ad.add j) = some u := by
   rcases hf with h | ⟨ad', h, hc⟩
   ·subst h; intro j u hu; simp at hu
   ·cases h; exact hc
  obtain ⟨v', w', hr, h2, h3, _, _⟩ := run_append_own_at (P := P) w B t ty e i z sz bytes ht hi hz hs hb hzs hsz v n xs hown ad m c news hl hc h1 h63 hbytes hB1
  obtain ⟨a', c', hv⟩ := fin v' w' h2
  exact ⟨a', c', w', by rw [hr, hv], by rw [← hv]; exact h2, hE.grown h3 hE.size hrow, h3⟩
section
variable {P : Program} {w0 w : World}
theorem wp_app {o : Oper} {act : Act} {K : Act → World → Prop} {Q : Exit → Act → World → Prop} (s x : Operand) (t : TypeId)
  (ho : o.op = .call { callee := .builtin .append, args := #[s, x], argTypes := #[t, t] })
  (e : TypeId) (i : TypeInfo) (z : Value) (sz bytes : Nat) (ht : P.underlying t = some (.slice e)) (hi : P.info? e = some i) (hz : i.zero = some z) (hs : i.size = sz) (hb : i.bytes = bytes) (hzs : z.cells.size = sz) (hsz : 0 < sz)
  (v : Value) (n B : Nat) (xs : List Value) (he : act.eval s = v) (hown : w.ownsRow B e sz v n xs) (hE : Ext w0 w) (hB0 : w0.heap.size ≤ B) (hB1 : B ≤ w.heap.size)
  (a : Option Addr) (m c : Nat) (news : List Value) (hx : act.eval x = .slice a m c) (hl : news.length = m * sz) (hf : From w a news) (h1 : ∀ u ∈ news, u.oneCell' = true) (h63 : n + m ≤ maxLen) (hbytes : (n + m) * bytes ≤ 140737488355328)
  (h : ∀ (a' : Option Addr) (c' : Nat) (w' : World), w'.ownsRow B e sz (.slice a' (n + m) c') (n + m) (xs ++ news) → Ext w0 w' → w.grownBy w' v.ownBlock → K (act.put o.dst (.slice a' (n + m) c')) w') : o.wp P act w K Q := by
 obtain ⟨a', c', w', hr, h2, h3, h4⟩ := run_app (P := P) t o.type e i z sz bytes ht hi hz hs hb hzs hsz v n B xs hown hE hB0 hB1 a m c news hl hf h1 h63 hbytes
 have hk := h a' c' w' h2 h3 h4
 unfold Oper.wp execOp
 simp only [ho, resolve, invoke, builtin, Sem.run_bind, Sem.run_pure, Result.andThen_ok, List.map_toArray, List.map_cons, List.map_nil, he, hx, hr]
 exact hk
theorem wpList_app {ops : Array Oper} {rest : List Oper} {o : Oper} {act : Act} {Q : Exit → Act → World → Prop} (hgd : o.guard = none) (s x : Operand) (t : TypeId)
  (ho : o.op = .call { callee := .builtin .append, args := #[s, x], argTypes := #[t, t] })
  (e : TypeId) (i : TypeInfo) (z : Value) (sz bytes : Nat) (ht : P.underlying t = some (.slice e)) (hi : P.info? e = some i) (hz : i.zero = some z) (hs : i.size = sz) (hb : i.bytes = bytes) (hzs : z.cells.size = sz) (hsz : 0 < sz)
  (v : Value) (n B : Nat) (xs : List Value) (he : act.eval s = v) (hown : w.ownsRow B e sz v n xs) (hE : Ext w0 w) (hB0 : w0.heap.size ≤ B) (hB1 : B ≤ w.heap.size)
  (a : Option Addr) (m c : Nat) (news : List Value) (hx : act.eval x = .slice a m c) (hl : news.length = m * sz) (hf : From w a news) (h1 : ∀ u ∈ news, u.oneCell' = true) (h63 : n + m ≤ maxLen) (hbytes : (n + m) * bytes ≤ 140737488355328)
  (h : ∀ (a' : Option Addr) (c' : Nat) (w' : World), w'.ownsRow B e sz (.slice a' (n + m) c') (n + m) (xs ++ news) → Ext w0 w' → w.grownBy w' v.ownBlock → wpList P ops Q rest (act.put o.dst (.slice a' (n + m) c')) w') : wpList P ops Q (o :: rest) act w :=
 wpList_plain hgd fun _ hK => wp_app s x t ho e i z sz bytes ht hi hz hs hb hzs hsz v n B xs he hown hE hB0 hB1 a m c news hx hl hf h1 h63 hbytes fun a' c' w' h2 h3 h4 => hK _ _ (h a' c' w' h2 h3 h4)
theorem step_app {ops : Array Oper} {o : Oper} {act : Act} {K : Act → World → Prop} {Q : Exit → Act → World → Prop} {E : Prop} (hgd : o.guard = none) (s x : Operand) (t : TypeId)
  (ho : o.op = .call { callee := .builtin .append, args := #[s, x], argTypes := #[t, t] })
  (e : TypeId) (i : TypeInfo) (z : Value) (sz bytes : Nat) (ht : P.underlying t = some (.slice e)) (hi : P.info? e = some i) (hz : i.zero = some z) (hs : i.size = sz) (hb : i.bytes = bytes) (hzs : z.cells.size = sz) (hsz : 0 < sz)
  (v : Value) (n B : Nat) (xs : List Value) (he : act.eval s = v) (hown : w.ownsRow B e sz v n xs) (hE : Ext w0 w) (hB0 : w0.heap.size ≤ B) (hB1 : B ≤ w.heap.size)
  (a : Option Addr) (m c : Nat) (news : List Value) (hx : act.eval x = .slice a m c) (hl : news.length = m * sz) (hf : From w a news) (h1 : ∀ u ∈ news, u.oneCell' = true) (h63 : n + m ≤ maxLen) (hbytes : (n + m) * bytes ≤ 140737488355328)
  (h : ∀ (a' : Option Addr) (c' : Nat) (w' : World), w'.ownsRow B e sz (.slice a' (n + m) c') (n + m) (xs ++ news) → Ext w0 w' → w.grownBy w' v.ownBlock → K (act.put o.dst (.slice a' (n + m) c')) w') :
  if Region.wanted o (yielded ops act.tmps) = true then Oper.wp P o act w K Q else E := by
 rw [if_pos (by simp [Region.wanted, hgd])]
 exact wp_app s x t ho e i z sz bytes ht hi hz hs hb hzs hsz v n B xs he hown hE hB0 hB1 a m c news hx hl hf h1 h63 hbytes h
end
/-- an empty literal -/
theorem own_empty {w w1 : World} {e : TypeId} {sz : Nat} (hE : Ext (w.alloc (.cells #[] e)) w1) : w1.ownsRow w.heap.size e sz (.slice (some ⟨w.heap.size, 0, none⟩) 0 0) 0 [] :=
 ⟨by simp, .inr ⟨w.heap.size, 0, #[], rfl, Nat.le_refl _, (hE.block w.heap.size (by simp)).trans (heap_alloc_new w _), Nat.le_refl _, Nat.zero_le _, by simp, by simp⟩⟩
theorem own_empty2 {w w1 : World} {e : TypeId} {sz n : Nat} (hn : w.heap.size = n) (hE : Ext (w.alloc (.cells #[] e)) w1) : w1.ownsRow n e sz (.slice (some ⟨n, 0, none⟩) 0 0) 0 [] := by
 subst hn; exact own_empty hE
end Go.Q
namespace Go.Proofs.Ytnhpcoagkmgdoaa
open Go.RowKit Go.Q
theorem from_ints {w : World} {a : Option Addr} {xs : List Int} (h : IntsAt w a xs) : From w a (iv xs) := by
 rcases h with h | ⟨b, off, ha, hb, hc⟩
 ·subst h; exact .inl rfl
 ·refine .inr ⟨_, ha, fun j u hu => ?_⟩
  have hj : j < xs.length := by
   rcases Nat.lt_or_ge j xs.length with h | h
   ·exact h
   ·rw [List.getElem?_eq_none (by simpa [iv_length] using h)] at hu; cases hu
  rw [iv_get xs j hj] at hu
  obtain rfl := Option.some.inj hu
  rw [Addr.add_lit]
  exact hc j hj
theorem iv_set (xs : List Int) (i : Nat) (x : Int) : (iv xs).set i (.int .i64 x) = iv (xs.set i x) := by unfold iv; rw [List.map_set]
theorem iv_app (xs ys : List Int) : iv xs ++ iv ys = iv (xs ++ ys) := by unfold iv; rw [List.map_append]
end Go.Proofs.Ytnhpcoagkmgdoaa
/- Rows of bytes in memory: what a slice of bytes holds, a row owned, a string of bytes (for layers that do not stand on layer 1's texts). -/
namespace Go.Q
open Go.RowKit
def ub (xs : List Int) : List Value := xs.map (Value.int .u8)
def BytesAt (w : World) (a : Option Addr) (xs : List Int) : Prop := xs = [] ∨ ∃ b off, a = some ⟨b, off, none⟩ ∧ b < w.heap.size ∧ ∀ i, i < xs.length → w.cell? ⟨b, off + i, none⟩ = some (.int .u8 (xs[i]?.getD 0))
theorem BytesAt.ext {w w' : World} {a : Option Addr} {xs : List Int} (h : BytesAt w a xs) (E : Ext w w') : BytesAt w' a xs :=
 h.imp id fun ⟨b, off, ha, hb, hc⟩ => ⟨b, off, ha, Nat.lt_of_lt_of_le hb E.size, fun i hi => (E.cell (p := ⟨b, off + i, none⟩) hb).trans (hc i hi)⟩
/-- the string of bytes -/
def strU (xs : List Int) : ByteArray := ⟨(xs.map fun x => UInt8.ofNat x.toNat).toArray⟩
theorem u8_back {x : Int} (h : 0 ≤ x ∧ x ≤ 255) : ((UInt8.ofNat x.toNat).toNat : Int) = x := by
 rw [UInt8.toNat_ofNat']
 omega
theorem map_inj : ∀ {xs ys : List Int}, (∀ x ∈ xs, 0 ≤ x ∧ x ≤ 255) → (∀ x ∈ ys, 0 ≤ x ∧ x ≤ 255) → (xs.map fun x => UInt8.ofNat x.toNat) = (ys.map fun x => UInt8.ofNat x.toNat) → xs = ys
 | [], [], _, _, _ => rfl
 | [], y :: ys, _, _, h => by simp at h
 | x :: xs, [], _, _, h => by simp at h
 | x :: xs, y :: ys, hx, hy, h => by
  rw [List.map_cons, List.map_cons] at h
  obtain ⟨h1, h2⟩ := List.cons.inj h
  have e1 := u8_back (hx x (List.mem_cons_self ..))
  have e2 := u8_back (hy y (List.mem_cons_self ..))
  rw [h1] at e1
  rw [map_inj (fun z hz => hx z (List.mem_cons_of_mem _ hz)) (fun z hz => hy z (List.mem_cons_of_mem _ hz)) h2]
  congr 1
  omega
theorem strU_inj {xs ys : List Int} (hx : ∀ x ∈ xs, 0 ≤ x ∧ x ≤ 255) (hy : ∀ x ∈ ys, 0 ≤ x ∧ x ≤ 255) (h : strU xs = strU ys) : xs = ys := by
 unfold strU at h
 injection h with h1
 exact map_inj hx hy (by simpa using h1)
end Go.Q
namespace Go.Proofs.Ytnhpcoagkmgdoaa
open Go.RowKit Go.Q Go.Joins
theorem own_formU {w : World} {nb t n : Nat} {v : Value} {xs : List Value} (h : w.ownsRow nb t 1 v n xs) : ∃ a c, v = .slice a n c := by
 rcases h.2 with ⟨h1, h2⟩ | ⟨g, cap, cur, h1, _⟩
 ·exact ⟨none, 0, by rw [h2]; exact h1⟩
 ·exact ⟨_, _, h1⟩
theorem ub_get (xs : List Int) (i : Nat) (h : i < xs.length) : (ub xs)[i]? = some (.int .u8 (xs[i]?.getD 0)) := by
 unfold ub
 rw [List.getElem?_map, List.getElem?_eq_getElem h]; rfl
theorem own_bytes {w : World} {B n c : Nat} {a : Option Addr} {xs : List Int} (h : w.ownsRow B 5 1 (.slice a n c) n (ub xs)) : BytesAt w a xs := by
 rcases h.2 with ⟨h1, h2⟩ | ⟨g, cap, cur, h1, h2, h3, h4, h5, h6, h7⟩
 ·left
  have h0 := h.1
  rw [h2] at h0
  simpa [ub] using h0
 ·obtain ⟨rfl, -, -⟩ := Value.slice.inj h1
  refine .inr ⟨g, 0, rfl, (Array.getElem?_eq_some_iff.1 h3).1, fun i hi => ?_⟩
  have := World.ownsRow.cells h (g := g) rfl i (.int .u8 (xs[i]?.getD 0)) (ub_get xs i hi)
  refine Eq.trans (congrArg w.cell? ?_) this
  cases i <;> simp [Addr.add]
theorem Try.infoU : (Try.prog.info? 5).map (fun i => (i.zero, i.size, i.bytes)) = some (some (.int .u8 0), 1, 1) := by kernel_rfl
theorem own_cap {w : World} {B t sz n c : Nat} {a : Option Addr} {xs : List Value} (h : w.ownsRow B t sz (.slice a n c) n xs) : n ≤ c ∧ c ≤ 9223372036854775807 := by
 rcases h.2 with ⟨h1, h2⟩ | ⟨g, cap, cur, h1, h2, h3, h4, h5, h6⟩
 ·obtain ⟨-, h8, h9⟩ := Value.slice.inj h1
  omega
 ·obtain ⟨-, -, rfl⟩ := Value.slice.inj h1
  unfold maxLen at h5
  omega
theorem conv_bytes {W : World} {a : Option Addr} {c : Nat} {xs : List Int} (hI : BytesAt W a xs) (hx : ∀ x ∈ xs, 0 ≤ x ∧ x ≤ 255) : (convert 23 9 (.slice a xs.length c)).run Try.prog W = .ok (.string (strU xs)) W := by
 rcases hI with rfl | ⟨b, off, rfl, hb, hc⟩
 ·have := run_convert_bytes_string (P := Try.prog) W 23 9 5 a 0 c Try.underlying23 Try.underlying5 Try.underlying9
  rw [show ([] : List Int).length = 0 from rfl, this]
  cases a with
  | none => simp [Conv.bytesToString, go_sem, strU]; rfl
  | some a => simpa [strU] using (run_convert_bytes_back (P := Try.prog) W 23 9 5 a c [] Try.underlying23 Try.underlying5 Try.underlying9 (fun j hj => by simp at hj)).symm.trans (this) |>.symm
 ·have := run_convert_bytes_back (P := Try.prog) W 23 9 5 ⟨b, off, none⟩ c (xs.map fun x => UInt8.ofNat x.toNat) Try.underlying23 Try.underlying5 Try.underlying9 (fun j hj => by
   rw [List.length_map] at hj
   rw [Addr.add_lit, hc j hj, List.getElem_map, List.getElem?_eq_getElem hj, u8_back (hx _ (List.getElem_mem hj))]
   rfl)
  rw [List.length_map] at this
  exact this
set_option maxRecDepth 100000 in
theorem conv_own {W : World} {nb n c : Nat} {a : Option Addr} {xs : List Int} (h : W.ownsRow nb 5 1 (.slice a n c) xs.length (ub xs)) (hx : ∀ x ∈ xs, 0 ≤ x ∧ x ≤ 255) : (convert 23 9 (.slice a n c)).run Try.prog W = .ok (.string (strU xs)) W := by
 obtain ⟨a', c', e⟩ := own_formU h
 injection e with e1 e2 e3
 subst e2
 exact conv_bytes (own_bytes h) hx
theorem toList_inj {x y : ByteArray} (h : x.toList = y.toList) : x = y := by
 rw [ByteArray.toList_eq, ByteArray.toList_eq] at h
 obtain ⟨⟨a⟩⟩ := x
 obtain ⟨⟨b⟩⟩ := y
 have h2 : a = b := h
 rw [h2]
theorem ub_length (xs : List Int) : (ub xs).length = xs.length := by simp [ub]
theorem ub_one (xs : List Int) : ∀ u ∈ ub xs, u.oneCell' = true := by
 intro u hu
 simp only [ub, List.mem_map] at hu
 obtain ⟨x, _, rfl⟩ := hu
 rfl
theorem from_bytes {w : World} {a : Option Addr} {xs : List Int} (h : BytesAt w a xs) : From w a (ub xs) := by
 rcases h with h | ⟨b, off, ha, hb, hc⟩
 ·subst h; exact .inl rfl
 ·refine .inr ⟨_, ha, fun j u hu => ?_⟩
  have hj : j < xs.length := by
   rcases Nat.lt_or_ge j xs.length with h | h
   ·exact h
   ·rw [List.getElem?_eq_none (by simpa [ub_length] using h)] at hu; cases hu
  rw [ub_get xs j hj] at hu
  obtain rfl := Option.some.inj hu
  refine Eq.trans (congrArg w.cell? ?_) (hc j hj)
  cases j <;> simp [Addr.add]
end Go.Proofs.Ytnhpcoagkmgdoaa

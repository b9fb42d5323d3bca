/- Contract: OrderStore returns true. -/
import Derived.Test.YtpdkgoeoddeebaaE6
import Derived.Test.YtpdkgoeoddeebaaG5
import Derived.Outline
set_option linter.unusedVariables false
set_option linter.unusedSimpArgs false
namespace Go.Proofs.Ytpdkgoeoddeebaa
open Go.RowKit Go.Q

set_option maxHeartbeats 1000000 in
theorem ints_quiet (a b : Option Addr) (n m c d : Nat) (xs ys : List Int) (w : World) (hn : xs.length = n) (hm : ys.length = m) (b1 : n ≤ 9223372036854775807) (b2 : m ≤ 9223372036854775807) (hI : IntsAt w a xs) (hJ : IntsAt w b ys) :
    Calls Try.prog 28 #[.slice a n c, .slice b m d] w fun e w' => e = .returned (.bool (decide (xs = ys))) ∧ ∃ n, w' = w.drewN n := by
  by_cases hnm : n = m
  · subst hnm
    by_cases h0 : n = 0
    · subst h0
      have e1 : xs = [] := List.eq_nil_of_length_eq_zero hn
      have e2 : ys = [] := List.eq_nil_of_length_eq_zero hm
      subst e1; subst e2
      clear hI hJ hn hm
      go_enter Try.func28, Try.ntmps28
      go_wp2
      go_loop [5] (fun s => s = .int .i64 0) (fun _ => 0)
      case atStart => exact rfl
      case round =>
        obtain rfl := hrel
        go_wp2
        go_ret
        exact ⟨rfl, 0, rfl⟩
    · rcases hI with e | ⟨ba, oa, rfl, _, hc⟩
      · subst e; exact absurd hn.symm h0
      rcases hJ with e | ⟨bb, ob, rfl, _, hd⟩
      · subst e; exact absurd hm.symm h0
      have hne : ((n : Int) != (n : Int)) = false := by simp
      have Hn := Lib.hid hn
      have Hm := Lib.hid hm
      rw [hn] at hc
      rw [hm] at hd
      clear hn hm h0
      go_enter Try.func28, Try.ntmps28
      go_wp2
      go_loopw [5] (fun s wr => ∃ k : Nat, k ≤ n ∧ s = .int .i64 k ∧ (∃ nq, wr = w.drewN nq) ∧ Aside (∀ j, j < k → xs[j]?.getD 0 = ys[j]?.getD 0)) (fun s _ => n - (intOf s).toNat)
      case atStart => exact ⟨0, Nat.zero_le _, rfl, ⟨0, rfl⟩, fun j hj => absurd hj (Nat.not_lt_zero _)⟩
      case round =>
        obtain ⟨k, hk, rfl, ⟨nq, rfl⟩, A⟩ := hrel
        by_cases hlt : k < n
        · have hltz : (k : Int) < (n : Int) := by omega
          have p := hc k hlt
          have q := hd k hlt
          have hk0 : (0 : Int) ≤ (k : Int) := by omega
          clear hc hd
          generalize hx : xs[k]?.getD 0 = x at p
          generalize hy : ys[k]?.getD 0 = y at q
          have Hx := Lib.hid hx
          have Hy := Lib.hid hy
          clear hx hy
          cases hq : x == y with
          | true =>
            have hq' : (x != y) = false := by rw [bne, hq]; rfl
            have Hq := Lib.hid hq
            clear hq
            go_wp2
            go_quiet (fail)
            go_wp2
            go_roundw
            case rel =>
              refine ⟨k + 1, by omega, by go_num, ⟨_, rfl⟩, (show Aside _ from fun j hj => ?_)⟩
              by_cases e : j = k
              · subst e
                rw [Hx.out, Hy.out]; simpa using Hq.out
              · exact A.out j (by omega)
            case measure => simp [intOf]; omega
          | false =>
            have hq' : (x != y) = true := by rw [bne, hq]; rfl
            have Hq := Lib.hid hq
            clear hq
            go_wp2
            go_quiet (fail)
            go_wp2
            go_ret
            refine ⟨ret_bool ?_, _, World.drewN_drewN _ _ _⟩
            symm; rw [decide_eq_false_iff_not]
            intro e
            have : x = y := by rw [← Hx.out, ← Hy.out, e]
            have := Hq.out
            simp_all
        · have hltz : ¬ (k : Int) < (n : Int) := by omega
          go_wp2
          go_ret
          refine ⟨ret_bool ?_, nq, rfl⟩
          symm; rw [decide_eq_true_iff]
          exact ints_eq (by rw [Hn.out, Hm.out]) (fun j hj => A.out j (by have := Hn.out; omega))
  · have hne : ((n : Int) != (m : Int)) = true := by rw [bne_iff_ne]; omega
    have e : decide (xs = ys) = false := by rw [decide_eq_false_iff_not]; intro e; subst e; omega
    rw [e]
    clear hnm hn hm e hI hJ
    go_enter Try.func28, Try.ntmps28
    go_wp2
    go_ret
    exact ⟨rfl, 0, rfl⟩

/-- what one order does, in the law's words -/
structure OneQ (s t : St) (l : List Stp) : Prop where
  tape : t.tape = s.tape
  none_ : l = [] → t.store = s.store ∧ t.printed = s.printed ∧ t.taken = s.taken
  one : ∀ x, l = [x] → (∀ i, i < s.store.length → s.store[i]?.getD 0 ≠ t.store[i]?.getD 0 → x.ord.to = i ∧ x.ord.op ≠ 5 ∧ x.ord.op ≠ 7) ∧
    (x.ord.op = 6 → t.taken = s.taken + 1) ∧ (x.ord.op ≠ 6 → t.taken = s.taken) ∧ (x.ord.op = 7 → ∃ a, t.printed = s.printed ++ [a]) ∧ (x.ord.op ≠ 7 → t.printed = s.printed)
theorem set_other {xs : List Int} {k i : Nat} {v : Int} (h : xs[i]?.getD 0 ≠ (xs.set k v)[i]?.getD 0) : k = i := by
  by_cases e : k = i
  · exact e
  · rw [List.getElem?_set_ne e] at h; exact absurd rfl h
theorem one_law {s : St} (hv : Valid s) : OneQ s (runQ 1 s) (traceQ 1 s) ∧ (traceQ 1 s).length ≤ 1 := by
  refine ⟨?_, traceQ_le 1 s⟩
  by_cases hy : s.why = 0
  · have e1 : runQ 1 s = stepQ s := by simp [runQ, hy]
    by_cases hw : whyAt s = 0
    · have e2 : traceQ 1 s = [⟨s.at_, ordAt s, s.time, untilAt s⟩] := by simp [traceQ, hy, hw]
      have e3 := stepQ_go hw
      rw [e1, e2, e3]
      have ho := ordB_bd (a := (ordAt s).frm) (o := (ordAt s).op) (b := (ordAt s).to) (c := (ordAt s).nxt) hv.ord
      refine ⟨(doQ_same s (ordAt s)).1, (fun c => by cases c), fun x hx => ?_⟩
      cases hx
      dsimp only
      generalize ordAt s = o at *
      obtain ⟨t0, t1⟩ := ho.2.2.1
      have hto : ∀ i : Nat, o.to.toNat = i → o.to = i := fun i e => by omega
      unfold doQ
      dsimp only
      repeat' split
      all_goals refine ⟨fun i hi hne => ?_, fun h => ?_, fun h => ?_, fun h => ?_, fun h => ?_⟩
      all_goals first
        | exact absurd rfl hne
        | (exact ⟨hto _ (set_other hne), by omega, by omega⟩)
        | rfl
        | omega
        | exact ⟨_, rfl⟩
    · have e2 : traceQ 1 s = [] := by simp [traceQ, hy, hw]
      have e3 : stepQ s = { s with why := whyAt s } := stepQ_end rfl hw
      rw [e1, e2, e3]
      exact ⟨rfl, fun _ => ⟨rfl, rfl, rfl⟩, fun x hx => by cases hx⟩
  · have e1 : runQ 1 s = s := by simp [runQ, hy]
    have e2 : traceQ 1 s = [] := by simp [traceQ, hy]
    rw [e1, e2]
    exact ⟨rfl, fun _ => ⟨rfl, rfl, rfl⟩, fun x hx => by cases hx⟩
theorem ints_take {w : World} {a : Option Addr} {xs : List Int} (h : IntsAt w a xs) (k : Nat) : IntsAt w a (xs.take k) := by
  rcases h with h | ⟨b, off, ha, hb, hc⟩
  · subst h; exact .inl (by simp)
  · refine .inr ⟨b, off, ha, hb, fun i hi => ?_⟩
    simp only [List.length_take] at hi
    rw [hc i (by omega), List.getElem?_take, if_pos (by omega)]
theorem OneQ.pre {s t : St} {l : List Stp} (h : OneQ s t l) (hl : l.length ≤ 1) : t.printed.take s.printed.length = s.printed ∧ s.printed.length ≤ t.printed.length := by
  match l, hl with
  | [], _ =>
    obtain ⟨_, e, _⟩ := h.none_ rfl
    rw [e]; simp
  | [x], _ =>
    obtain ⟨_, _, _, h1, h2⟩ := h.one x rfl
    by_cases h7 : x.ord.op = 7
    · obtain ⟨a, e⟩ := h1 h7
      rw [e]; simp
    · rw [h2 h7]; simp
theorem ints_q (a b : Option Addr) (n c d : Nat) (xs : List Int) (w : World) (hn : xs.length = n) (b1 : n ≤ 9223372036854775807) (hI : IntsAt w a xs) (hJ : IntsAt w b xs) :
    Calls Try.prog 28 #[.slice a n c, .slice b n d] w fun e w' => e = .returned (.bool true) ∧ ∃ m, w' = w.drewN m :=
  (ints_quiet a b n n c d xs xs w hn hn b1 b1 hI hJ).mono fun e w' ⟨h1, h2⟩ => ⟨by simpa using h1, h2⟩

/-- the call returned a state, whose paper is no longer than its room -/
def CapRes (p : St × Int) (w : World) (e : Ending) (w' : World) : Prop := ∃ a1 a2 a3 c1 c2 c3, e = .returned (.tuple #[sv a1 a2 a3 p.1.store.length c1 p.1.tape.length c2 p.1.printed.length c3 p.1.taken p.1.time p.1.at_ p.1.done p.1.why, .int .i64 p.2]) ∧
  IntsAt w' a1 p.1.store ∧ IntsAt w' a2 p.1.tape ∧ IntsAt w' a3 p.1.printed ∧ p.1.printed.length ≤ c3 ∧ Ext w w'
theorem own_cap {w : World} {nb t n m c : Nat} {a : Option Addr} {xs : List Value} (h : w.ownsRow nb t 1 (.slice a m c) n xs) : n ≤ c := by
  rcases h.2 with ⟨h1, h2⟩ | ⟨g, cap, cur, h1, _, _, h2, _⟩
  · omega
  · injection h1 with _ _ h3; omega
section
variable {nb m g1 c1 n0 : Nat} {tv pv : Value} {s : St} {o : Ord}
set_option maxHeartbeats 4000000 in
set_option maxRecDepth 100000 in
theorem run_cap (v : Value) (s : St) (most : Int) (w : World) (h : StAt w v s) (hb : StBd s) (he : askedQ s most = 0) :
    Calls Try.prog 23 #[v, .int .i64 most] w (CapRes (runE s most) w) := by
  have e1 : runE s most = (runQ most.toNat s, 0) := by simp [runE, he]
  rw [e1]
  obtain ⟨z1, z2⟩ := asked_ok he
  have hv := valid_of_check z1
  have z3 := check_zero z1
  obtain ⟨p0, p1⟩ := inB_bd z2
  obtain ⟨a1, a2, a3, k1, k2, k3, rfl, i1, i2, i3⟩ := h
  rw [hv.len]
  have ho := fun W (E : Ext w W) => open_ok a1 a2 a3 _ _ k1 k2 k3 s most W hv.len rfl rfl hv.tlen hv.plen (i1.ext E) (i2.ext E) (i3.ext E) z3 z2
  clear i1 i2 i3 z1 z2 z3 he e1 hb
  obtain ⟨n, rfl⟩ := Int.eq_ofNat_of_zero_le p0
  have hn : n ≤ 5000 := by omega
  have HV := Lib.hid hv
  clear hv p0 p1
  have en : ((n : Int)).toNat = n := rfl
  rw [en]
  clear en
  go_enter Try.func23, Try.ntmps23
  go_wp2_with fail
  refine (ho _ (by exact ((Ext.refl w).alloc _).alloc _)).mono ?_
  rintro e w3 ⟨m, g1, c1, tv, pv, rfl, M, hb3⟩
  clear ho
  go_wp2_with fail
  refine (run_any w3 (w.heap.size + 2) n 49 #[] (fun _ _ => True) M HV.out hn (by simp) (enters_of Try.func49 (by kernel_rfl) rfl) keepM_tell trivial).mono ?_
  rintro e w4 ⟨rfl, ⟨pv4, o4, M4⟩, _, hB4⟩
  have hb4 : Ext ((w.alloc _).alloc _) w4 := hb3.trans (by simpa using hB4)
  have q0 := box_at2 (v := .slice none 0 0) hb4 0 rfl
  have q1 := box_at2 (v := .slice none 0 0) hb4 1 rfl
  have q2 := box_at2 (v := .int .i64 0) hb4 2 rfl
  have q3 := box_at2 (v := .slice none 0 0) hb4 3 rfl
  have q4 := box_at2 (v := .int .i64 0) hb4 4 rfl
  have q5 := box_at2 (v := .int .i64 0) hb4 5 rfl
  have q6 := box_at2 (v := .int .i64 0) hb4 6 rfl
  have q7 := box_at2 (v := .int .i64 0) hb4 7 rfl
  have f0 := box_free2 hb4 0
  have f1 := box_free2 hb4 1
  have f2 := box_free2 hb4 2
  have f3 := box_free2 hb4 3
  have f4 := box_free2 hb4 4
  have f5 := box_free2 hb4 5
  have f6 := box_free2 hb4 6
  have f7 := box_free2 hb4 7
  obtain ⟨b2, bt, b3, bp, rfl, rfl, _, _, _⟩ := M4.reads
  have M5 := M4.keep (keep8 (blk2 hb4) (by decide) (by decide) (.slice (some ⟨g1, 0, none⟩) 128 c1) (.slice b2 (runQ n s).tape.length bt) (.int .i64 (runQ n s).taken) (.slice b3 (runQ n s).printed.length bp) (.int .i64 (runQ n s).time) (.int .i64 (runQ n s).at_) (.int .i64 (runQ n s).done) (.int .i64 (runQ n s).why))
  have HM5 := Lib.hid M5
  clear M5
  have r0 := M4.c 0 (v := .slice (some ⟨g1, 0, none⟩) 128 c1) rfl
  have r1 := M4.c 1 (v := .slice b2 (runQ n s).tape.length bt) rfl
  have r2 := M4.c 2 (v := .int .i64 (runQ n s).taken) rfl
  have r3 := M4.c 3 (v := .slice b3 (runQ n s).printed.length bp) rfl
  have r4 := M4.c 4 (v := .int .i64 (runQ n s).time) rfl
  have r5 := M4.c 5 (v := .int .i64 (runQ n s).at_) rfl
  have r6 := M4.c 6 (v := .int .i64 (runQ n s).done) rfl
  have r7 := M4.c 7 (v := .int .i64 (runQ n s).why) rfl
  have hlen := Lib.hid M4.len
  have hcap := Lib.hid (own_cap M4.prow)
  clear M M4 hB4 hb3
  go_wp2_with fail
  refine bodyPost_ret (v := .tuple #[.agg #[.slice (some ⟨g1, 0, none⟩) 128 c1, .slice b2 (runQ n s).tape.length bt, .int .i64 (runQ n s).taken, .slice b3 (runQ n s).printed.length bp, .int .i64 (runQ n s).time, .int .i64 (runQ n s).at_, .int .i64 (runQ n s).done, .int .i64 (runQ n s).why], .int .i64 0]) (by simp [results, Try.results23, go_sem, q0, q1, q2, q3, q4, q5, q6, q7]) rfl ?_
  obtain ⟨d2, dt, d3, dp, x1, x2, I1, I2, I3⟩ := HM5.out.reads
  obtain ⟨rfl, -, rfl⟩ := Value.slice.inj x1
  obtain ⟨rfl, -, rfl⟩ := Value.slice.inj x2
  exact ⟨some ⟨g1, 0, none⟩, b2, b3, c1, bt, bp, by rw [hlen.out], I1, I2, I3, hcap.out, ext_set8 (Ext.old (Ext.old hb4)) (by omega) _ _ _ _ _ _ _ _⟩
end
set_option maxRecDepth 100000 in
set_option maxHeartbeats 4000000 in
theorem store_law (v : Value) (s : St) (w : World) (h : StAt w v s) (hb : StBd s) :
    Calls Try.prog 7 #[v] w fun e w' => e = .returned (.bool true) ∧ Ext w w' := by
  have h1 := fun W (E : Ext w W) => runE_any v s 1 W (h.ext E) hb
  have h3 := fun W (E : Ext w W) => traceE_any v s 1 W (h.ext E) hb
  obtain ⟨a1, a2, a3, k1, k2, k3, rfl, i1, i2, i3⟩ := h
  rcases runE_ways s 1 (by decide) with ⟨er, he, hr⟩ | ⟨hv, hr⟩
  · replace hr : runE s 1 = (zst, er) := hr
    rw [hr] at h1
    have he' : (er != 0) = true := by simpa using he
    clear hr he h3
    go_enter Try.func7, Try.ntmps7
    go_wp2_with fail
    refine (h1 _ (by repeat (first | with_reducible exact Ext.refl _ | with_reducible refine Ext.alloc ?_ _ | with_reducible refine Below.drew ?_))).mono ?_
    rintro e w1 ⟨v1, rfl, ⟨b1, b2, b3, l1, l2, l3, rfl, _, _, _⟩, E1⟩
    go_wp2_with (go_at_call 19; refine (awake_any _).mono ?_; rintro e w2 ⟨rfl, E2⟩)
    go_ret
    exact ⟨rfl, E1.old.comp E2.old⟩
  · replace hr : runE s 1 = (runQ 1 s, 0) := hr
    have ht : traceE s 1 = (traceQ 1 s, 0) := by
      have := asked_of_valid hv (most := 1) (by decide)
      simp [traceE, this]
    have hq1 : askedQ s 1 = 0 := asked_of_valid hv (by decide)
    replace h1 := fun W (E : Ext w W) => run_cap (sv a1 a2 a3 s.store.length k1 s.tape.length k2 s.printed.length k3 s.taken s.time s.at_ s.done s.why) s 1 W ⟨a1, a2, a3, k1, k2, k3, rfl, i1.ext E, i2.ext E, i3.ext E⟩ hb hq1
    rw [hr] at h1
    rw [ht] at h3
    obtain ⟨hone, hll⟩ := one_law hv
    have htv := runQ_valid 1 hv
    generalize runQ 1 s = t at *
    generalize traceQ 1 s = l at *
    obtain ⟨hpre, hpl⟩ := hone.pre hll
    have HSL := Lib.hid hv.len
    have HTL := Lib.hid htv.len
    have HONE := Lib.hid hone
    have HPRE := Lib.hid hpre
    have hdl : ((t.store.length : Int) != (s.store.length : Int)) = false := by rw [hv.len, htv.len]; rfl
    have hpl2 : (s.printed.length : Int) ≤ (t.printed.length : Int) := by omega
    have hll2 : (l.length : Int) ≤ 1 := by omega
    have ts0 : 0 ≤ s.taken ∧ s.taken ≤ 200 := by have h1 := hv.taken; have h2 := hv.tlen; omega
    have tt0 : 0 ≤ t.taken ∧ t.taken ≤ 200 := by have h1 := htv.taken; have h2 := htv.tlen; omega
    have ps0 : (s.printed.length : Int) ≤ 200 := by have h2 := hv.plen; omega
    have pt0 : (t.printed.length : Int) ≤ 200 := by have h2 := htv.plen; omega
    have hbt := valid_bd htv
    have hbs := valid_bd hv
    clear hr ht hone hv htv hq1 hpre
    go_enter Try.func7, Try.ntmps7
    go_wp2_with fail
    refine (h1 _ (by repeat (first | with_reducible exact Ext.refl _ | with_reducible refine Ext.alloc ?_ _ | with_reducible refine Below.drew ?_))).mono ?_
    rintro e w1 ⟨b1, b2, b3, l1, l2, l3, rfl, J1, J2, J3, hcap, E1⟩
    dsimp only at J1 J2 J3 hcap ⊢
    have q0 := box_at (v := .slice a1 s.store.length k1) E1 0 rfl
    have q1 := box_at (v := .slice a2 s.tape.length k2) E1 1 rfl
    have q2 := box_at (v := .int .i64 s.taken) E1 2 rfl
    have q3 := box_at (v := .slice a3 s.printed.length k3) E1 3 rfl
    have q4 := box_at (v := .int .i64 s.time) E1 4 rfl
    have q5 := box_at (v := .int .i64 s.at_) E1 5 rfl
    have q6 := box_at (v := .int .i64 s.done) E1 6 rfl
    have q7 := box_at (v := .int .i64 s.why) E1 7 rfl
    have hz0 : w.heap.size < w1.heap.size := by have := E1.size; simp at this; omega
    go_wp2_with fail
    refine (h3 _ (by repeat (first | with_reducible exact E1.old | with_reducible refine Ext.alloc ?_ _ | with_reducible refine Below.drew ?_))).mono ?_
    rintro e w2 ⟨c1, m1, rfl, I2, E2⟩
    clear q0 q1 q2 q3 q4 q5 q6 q7
    have E12 := Ext.comp E1 E2.old
    have q0 := box_at (v := .slice a1 s.store.length k1) E12 0 rfl
    have q1 := box_at (v := .slice a2 s.tape.length k2) E12 1 rfl
    have q2 := box_at (v := .int .i64 s.taken) E12 2 rfl
    have q3 := box_at (v := .slice a3 s.printed.length k3) E12 3 rfl
    have q4 := box_at (v := .int .i64 s.time) E12 4 rfl
    have q5 := box_at (v := .int .i64 s.at_) E12 5 rfl
    have q6 := box_at (v := .int .i64 s.done) E12 6 rfl
    have q7 := box_at (v := .int .i64 s.why) E12 7 rfl
    have p0 := box_at (v := .slice b1 t.store.length l1) E2 0 rfl
    have p1 := box_at (v := .slice b2 t.tape.length l2) E2 1 rfl
    have p2 := box_at (v := .int .i64 t.taken) E2 2 rfl
    have p3 := box_at (v := .slice b3 t.printed.length l3) E2 3 rfl
    have p4 := box_at (v := .int .i64 t.time) E2 4 rfl
    have p5 := box_at (v := .int .i64 t.at_) E2 5 rfl
    have p6 := box_at (v := .int .i64 t.done) E2 6 rfl
    have p7 := box_at (v := .int .i64 t.why) E2 7 rfl
    have hy0 : w.heap.size < w2.heap.size := by have := E12.size; simp at this; omega
    have hx0 : w1.heap.size < w2.heap.size := by have := E2.size; simp at this; omega
    clear h1 h3 hz0
    have g1 : ∀ n, Calls Try.prog 28 #[.slice b2 t.tape.length l2, .slice a2 s.tape.length k2] (w2.drewN n) fun e w' => e = .returned (.bool true) ∧ ∃ m, w' = w2.drewN m := fun n =>
      (ints_quiet b2 a2 t.tape.length s.tape.length l2 k2 t.tape s.tape (w2.drewN n) rfl rfl hbt.2.1 hbs.2.1 (J2.ext (ext_drewN E2.old n)) (i2.ext (ext_drewN E12.old n))).mono fun e w' ⟨q1, k, q2⟩ => ⟨by rw [q1, HONE.out.tape]; simp, n + k, by rw [q2, World.drewN_drewN]⟩
    have g2 : ∀ n, Calls Try.prog 28 #[.slice b3 s.printed.length l3, .slice a3 s.printed.length k3] (w2.drewN n) fun e w' => e = .returned (.bool true) ∧ ∃ m, w' = w2.drewN m := fun n =>
      (ints_q b3 a3 s.printed.length l3 k3 s.printed (w2.drewN n) rfl hbs.2.2 (by have := ints_take (J3.ext (ext_drewN E2.old n)) s.printed.length; rw [HPRE.out] at this; exact this) (i3.ext (ext_drewN E12.old n))).mono fun e w' ⟨q1, k, q2⟩ => ⟨q1, n + k, by rw [q2, World.drewN_drewN]⟩
    have hcap2 : (s.printed.length : Int) ≤ (l3 : Int) := by omega
    have hcap3 : (0 : Int) ≤ (s.printed.length : Int) := by omega
    have G1 := Lib.hid g1
    have G2 := Lib.hid g2
    clear g1 g2
    go_wp2_with fail
    go_quiet ((first | (go_at_call 28; with_reducible exact G1.out _) | (go_at_call 28; with_reducible exact G2.out _)))
    clear G1 G2 hcap2 hcap3 hcap hx0
    obtain ⟨sb, so, rfl, hsb, hsc⟩ := ints_form i1 (by rw [HSL.out]; decide)
    obtain ⟨tb, to_, rfl, htb, htc⟩ := ints_form J1 (by rw [HTL.out]; decide)
    have hsc2 : ∀ k, k < 128 → w2.cell? ⟨sb, so + k, none⟩ = some (.int .i64 (s.store[k]?.getD 0)) := fun k hk => (E12.old.cell (p := ⟨sb, so + k, none⟩) hsb).trans (hsc k (by rw [HSL.out]; exact hk))
    have htc2 : ∀ k, k < 128 → w2.cell? ⟨tb, to_ + k, none⟩ = some (.int .i64 (t.store[k]?.getD 0)) := fun k hk => (E2.old.cell (p := ⟨tb, to_ + k, none⟩) htb).trans (htc k (by rw [HTL.out]; exact hk))
    have HSC := Lib.hid hsc2
    have HTC := Lib.hid htc2
    have esl : ((s.store.length : Nat) : Int) = 128 := by rw [HSL.out]; rfl
    clear hsc htc hsc2 htc2
    have hpl3 : ¬ t.printed.length < s.printed.length := by omega
    go_wp2_with fail
    go_loopw [6] (fun i wr => ∃ k : Nat, k ≤ 128 ∧ i = .int .i64 k ∧ ∃ n, wr = w2.drewN n) (fun i _ => 128 - (intOf i).toNat)
    case atStart => exact ⟨0, Nat.zero_le _, rfl, _, rfl⟩
    case round =>
      obtain ⟨k, hk, rfl, n, rfl⟩ := hrel
      by_cases hlt : k < 128
      · have hltz : (k : Int) < 128 := by omega
        have hk0 : (0 : Int) ≤ (k : Int) := by omega
        have hkt : (k : Int) < (t.store.length : Int) := by rw [HTL.out]; omega
        have hks : (k : Int) < (s.store.length : Int) := by rw [HSL.out]; omega
        have ck := HSC.out k hlt
        have dk := HTC.out k hlt
        generalize hxv : s.store[k]?.getD 0 = xv at ck
        generalize hyv : t.store[k]?.getD 0 = yv at dk
        by_cases he : xv = yv
        · have hb1 : (xv == yv) = true := by simpa using he
          clear he hxv hyv esl
          go_wp2_with fail
          go_quiet (fail)
          go_wp2_with fail
          go_roundw
          case rel => exact ⟨k + 1, by omega, by go_num, _, rfl⟩
          case measure => simp [intOf]; omega
        · have hb1 : (xv == yv) = false := by simpa using he
          have hne : s.store[k]?.getD 0 ≠ t.store[k]?.getD 0 := by rw [hxv, hyv]; exact he
          clear hxv hyv esl he
          have HNE := Lib.hid hne
          clear hne
          cases l with
          | nil => exact absurd (by rw [(HONE.out.none_ rfl).1]) HNE.out
          | cons x l' =>
            obtain rfl : l' = [] := by
              cases l' with
              | nil => rfl
              | cons _ _ => simp at hll
            obtain ⟨u1, u2, u3⟩ := (HONE.out.one x rfl).1 k (by rw [HSL.out]; exact hlt) HNE.out
            obtain ⟨cb, co, rfl, hcb, hcc⟩ := step_cell I2 (by simp)
            have z1 : w2.cell? ⟨cb, co + 1, none⟩ = some (.int .i64 x.ord.op) := hcc 1 _ rfl
            have z3 : w2.cell? ⟨cb, co + 3, none⟩ = some (.int .i64 x.ord.to) := hcc 3 _ rfl
            have v1 : (x.ord.op == 5) = false := by simpa using u2
            have v2 : (x.ord.op == 7) = false := by simpa using u3
            have v3 : ((k : Int) != (k : Int)) = false := by simp
            rw [u1] at z3
            clear u1 u2 u3 hcc hll hll2
            go_wp2_with fail
            go_quiet (fail)
            go_wp2_with fail
            go_roundw
            case rel => exact ⟨k + 1, by omega, by go_num, _, rfl⟩
            case measure => simp [intOf]; omega
      · have hltz : ¬ (k : Int) < 128 := by omega
        cases l with
        | nil =>
          obtain ⟨o1, o2, o3⟩ := HONE.out.none_ rfl
          have d1 : (t.taken - s.taken == 0) = true := by rw [o3, beq_iff_eq]; omega
          have d2 : ((t.printed.length : Int) - (s.printed.length : Int) == 0) = true := by rw [o2, beq_iff_eq]; omega
          clear o1 o2 o3
          go_wp2_with (go_at_call 19; refine (awake_any _).mono ?_; rintro e w7 ⟨rfl, E7⟩)
          go_ret
          exact ⟨rfl, E12.old.comp ((ext_drewN (Ext.refl w2) n).comp E7)⟩
        | cons x l' =>
          obtain rfl : l' = [] := by
            cases l' with
            | nil => rfl
            | cons _ _ => simp at hll
          obtain ⟨_, r1, r2, r3, r4⟩ := HONE.out.one x rfl
          obtain ⟨cb, co, rfl, hcb, hcc⟩ := step_cell I2 (by simp)
          have z1 : w2.cell? ⟨cb, co + 1, none⟩ = some (.int .i64 x.ord.op) := hcc 1 _ rfl
          clear hcc
          have hs0 := HSL.out
          by_cases p6 : x.ord.op = 6
          · have d1 : (t.taken - s.taken == 1) = true := by rw [r1 p6, beq_iff_eq]; omega
            have d2 : ((t.printed.length : Int) - (s.printed.length : Int) == 0) = true := by rw [r4 (by omega), beq_iff_eq]; omega
            have d3 : (x.ord.op == 6) = true := by simpa using p6
            have d4 : (x.ord.op == 7) = false := by rw [beq_eq_false_iff_ne]; omega
            clear r1 r2 r3 r4 p6 hs0
            go_wp2_with (go_at_call 19; refine (awake_any _).mono ?_; rintro e w7 ⟨rfl, E7⟩)
            go_ret
            exact ⟨rfl, E12.old.comp ((ext_drewN (Ext.refl w2) n).comp E7)⟩
          by_cases p7 : x.ord.op = 7
          · obtain ⟨pa, hpa⟩ := r3 p7
            have d1 : (t.taken - s.taken == 0) = true := by rw [r2 p6, beq_iff_eq]; omega
            have d2 : ((t.printed.length : Int) - (s.printed.length : Int) == 1) = true := by rw [hpa, beq_iff_eq, List.length_append, List.length_singleton]; omega
            have d3 : (x.ord.op == 6) = false := by simpa using p6
            have d4 : (x.ord.op == 7) = true := by simpa using p7
            clear r1 r2 r3 r4 p6 p7 hs0 hpa
            go_wp2_with (go_at_call 19; refine (awake_any _).mono ?_; rintro e w7 ⟨rfl, E7⟩)
            go_ret
            exact ⟨rfl, E12.old.comp ((ext_drewN (Ext.refl w2) n).comp E7)⟩
          · have d1 : (t.taken - s.taken == 0) = true := by rw [r2 p6, beq_iff_eq]; omega
            have d2 : ((t.printed.length : Int) - (s.printed.length : Int) == 0) = true := by rw [r4 p7, beq_iff_eq]; omega
            have d3 : (x.ord.op == 6) = false := by simpa using p6
            have d4 : (x.ord.op == 7) = false := by simpa using p7
            clear r1 r2 r3 r4 p6 p7 hs0
            go_wp2_with (go_at_call 19; refine (awake_any _).mono ?_; rintro e w7 ⟨rfl, E7⟩)
            go_ret
            exact ⟨rfl, E12.old.comp ((ext_drewN (Ext.refl w2) n).comp E7)⟩
end Go.Proofs.Ytpdkgoeoddeebaa

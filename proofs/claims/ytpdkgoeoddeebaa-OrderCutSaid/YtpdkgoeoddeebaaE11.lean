/- Contract: OrderCut returns true. -/
import Derived.Test.YtpdkgoeoddeebaaE6
import Derived.Test.YtpdkgoeoddeebaaG5
import Derived.Test.YtpdkgoeoddeebaaSpec4j
import Derived.Outline
set_option linter.unusedVariables false
set_option linter.unusedSimpArgs false
namespace Go.Proofs.Ytpdkgoeoddeebaa
open Go.RowKit Go.Q

theorem scs_get {l : List Stp} {k : Nat} {x : Stp} (h : l[k]? = some x) (i : Nat) (hi : i < 7) : (scs l)[k * 7 + i]? = (sc x)[i]? := by
  induction l generalizing k with
  | nil => simp at h
  | cons y l ih =>
    cases k with
    | zero =>
      obtain rfl : y = x := by simpa using h
      simp only [scs, List.flatMap_cons, Nat.zero_mul, Nat.zero_add]
      rw [List.getElem?_append_left (by simp [sc]; omega)]
    | succ k =>
      have h2 := ih (k := k) (by simpa using h)
      simp only [scs, List.flatMap_cons]
      rw [List.getElem?_append_right (by simp [sc]; omega)]
      rw [show (k + 1) * 7 + i - (sc y).length = k * 7 + i from by simp [sc]; omega]
      exact h2
theorem whenQ_ok {o : Ord} {t : Int} (h1 : ordB o = true) (h2 : 0 ≤ t ∧ t ≤ 1000000000) (h3 : o.op ≠ 0) (ng : Bool) : whenQ o t ng = (whenAt o ng, whenUntil o t ng, 0) := by
  have h2' : inB t 0 1000000000 = true := by simp only [inB, Bool.and_eq_true, decide_eq_true_eq]; exact h2
  unfold whenQ
  rw [if_pos ⟨h1, h2'⟩, if_neg h3]

set_option maxRecDepth 100000 in
set_option maxHeartbeats 8000000 in
theorem cut_any (v : Value) (s : St) (x y : Int) (w : World) (h : StAt w v s) (hb : StBd s) (hx : 0 ≤ x ∧ x ≤ 65535) (hy : 0 ≤ y ∧ y ≤ 65535) :
    Calls Try.prog 15 #[v, .agg #[.int .u16 x, .int .u16 y]] w fun e w' => e = .returned (.bool true) ∧ Ext w w' := by
  obtain ⟨x, rfl⟩ := Int.eq_ofNat_of_zero_le hx.1
  obtain ⟨y, rfl⟩ := Int.eq_ofNat_of_zero_le hy.1
  have ha : x % 2500 ≤ 5000 := by omega
  have hbb : y % 2500 ≤ 5000 := by omega
  have hab : x % 2500 + y % 2500 ≤ 5000 := by omega
  have h1 := fun W (E : Ext w W) => runE_any v s ((x % 2500 : Nat) : Int) W (h.ext E) hb
  have h3 := fun W (E : Ext w W) => runE_any v s ((x % 2500 + y % 2500 : Nat) : Int) W (h.ext E) hb
  have h4 := fun W (E : Ext w W) => traceE_any v s ((x % 2500 + y % 2500 : Nat) : Int) W (h.ext E) hb
  have e1 : ((x % 2500 : Nat) : Int) = (x : Int) % 2500 := by omega
  have e2 : ((y % 2500 : Nat) : Int) = (y : Int) % 2500 := by omega
  have e3 : ((x % 2500 + y % 2500 : Nat) : Int) = (x : Int) % 2500 + (y : Int) % 2500 := by omega
  obtain ⟨a1, a2, a3, k1, k2, k3, rfl, i1, i2, i3⟩ := h
  rcases runE_ways s (x % 2500) ha with ⟨er, he, hr⟩ | ⟨hv, hr⟩
  · rw [hr, e1] at h1
    have he' : (er == 0) = false := by simpa using he
    have he2 : (er != 0) = true := by simpa using he
    clear hr he e1 e2 e3 h3 h4
    go_enter Try.func15, Try.ntmps15
    go_wp2_with fail
    go_quiet (fail)
    go_wp2_with fail
    refine (h1 _ (by repeat (first | with_reducible exact ext_drewN (Ext.alloc (Ext.alloc (Ext.refl w) _) _) _ | with_reducible refine Ext.alloc ?_ _ | with_reducible refine Below.drew ?_))).mono ?_
    rintro e w1 ⟨v1, rfl, ⟨b1, b2, b3, l1, l2, l3, rfl, _, _, _⟩, E1⟩
    clear h1
    go_wp2_with (go_at_call 19; refine (awake_any _).mono ?_; rintro e w2 ⟨rfl, E2⟩)
    go_ret
    exact ⟨rfl, Ext.comp (ext_drewN (Ext.alloc (Ext.alloc (Ext.refl w) _) _) _) (E1.comp E2.old)⟩
  · rw [hr, e1] at h1
    have hrab : runE s ((x % 2500 + y % 2500 : Nat) : Int) = (runQ (x % 2500 + y % 2500) s, 0) := runE_valid hv _ hab
    have htab : traceE s ((x % 2500 + y % 2500 : Nat) : Int) = (traceQ (x % 2500 + y % 2500) s, 0) := by
      have := asked_of_valid hv (most := ((x % 2500 + y % 2500 : Nat) : Int)) (by omega)
      unfold traceE
      rw [if_pos this, Int.toNat_natCast]
    have ht := runQ_valid (x % 2500) hv
    have g1 := fun W V (A : StAt W V (runQ (x % 2500) s)) => runE_any V (runQ (x % 2500) s) ((y % 2500 : Nat) : Int) W A (valid_bd ht)
    rw [runE_valid ht (y % 2500) hbb, e2, ← runQ_add] at g1
    rw [hrab, e3] at h3
    rw [htab, e3] at h4
    have hvv := runQ_valid (x % 2500 + y % 2500) hv
    have g2 := fun W V V' (A : StAt W V (runQ (x % 2500 + y % 2500) s)) (B : StAt W V' (runQ (x % 2500 + y % 2500) s)) => states_same V V' (runQ (x % 2500 + y % 2500) s) W A B (valid_bd hvv)
    have hlen := traceQ_len (x % 2500 + y % 2500) s
    have hlaw := trace_law s (x % 2500 + y % 2500)
    have hnext := fun k => next_law s (n := x % 2500 + y % 2500) (k := k)
    have hle := traceQ_le (x % 2500 + y % 2500) s
    have HVK : ∀ k, Valid (runQ k s) := fun k => runQ_valid k hv
    have hsd := hv.done
    have hst := hv.time
    have hvd := hvv.done
    have hvt := hvv.time
    clear hr hrab htab hvv
    generalize runQ (x % 2500) s = t at *
    generalize hU : runQ (x % 2500 + y % 2500) s = u at *
    generalize traceQ (x % 2500 + y % 2500) s = l at *
    clear hU e1 e2 e3
    have HLEN := Lib.hid hlen
    have HLAW := Lib.hid hlaw
    have HNEXT := Lib.hid hnext
    have HK := Lib.hid HVK
    have hdl : ((l.length : Int) != u.done - s.done) = false := by rw [hlen, bne_eq_false_iff_eq]
    have hll2 : (l.length : Int) ≤ 5000 := by omega
    clear hlen hlaw hnext HVK ht
    go_enter Try.func15, Try.ntmps15
    go_wp2_with fail
    go_quiet (fail)
    have EB := ext_drewN (Ext.refl ((w.alloc (.cells #[.slice a1 s.store.length k1, .slice a2 s.tape.length k2, .int .i64 s.taken, .slice a3 s.printed.length k3, .int .i64 s.time, .int .i64 s.at_, .int .i64 s.done, .int .i64 s.why] 24)).alloc (.cells #[.int .u16 x, .int .u16 y] 41))) nq
    generalize ((w.alloc (.cells #[.slice a1 s.store.length k1, .slice a2 s.tape.length k2, .int .i64 s.taken, .slice a3 s.printed.length k3, .int .i64 s.time, .int .i64 s.at_, .int .i64 s.done, .int .i64 s.why] 24)).alloc (.cells #[.int .u16 x, .int .u16 y] 41)).drewN nq = w0 at EB ⊢
    have q0 := box_at (v := .slice a1 s.store.length k1) EB.old 0 rfl
    have q1 := box_at (v := .slice a2 s.tape.length k2) EB.old 1 rfl
    have q2 := box_at (v := .int .i64 s.taken) EB.old 2 rfl
    have q3 := box_at (v := .slice a3 s.printed.length k3) EB.old 3 rfl
    have q4 := box_at (v := .int .i64 s.time) EB.old 4 rfl
    have q5 := box_at (v := .int .i64 s.at_) EB.old 5 rfl
    have q6 := box_at (v := .int .i64 s.done) EB.old 6 rfl
    have q7 := box_at (v := .int .i64 s.why) EB.old 7 rfl
    have hz0 : w.heap.size < w0.heap.size := by have := EB.size; simp at this; omega
    go_wp2_with fail
    refine (h1 _ (by repeat (first | with_reducible exact EB.old.old | with_reducible refine Ext.alloc ?_ _ | with_reducible refine Below.drew ?_))).mono ?_
    rintro e w1 ⟨v1, rfl, A1, E1⟩
    obtain ⟨b1, b2, b3, l1, l2, l3, rfl, _, _, _⟩ := id A1
    clear q0 q1 q2 q3 q4 q5 q6 q7
    have EB1 := Ext.comp EB E1
    have q0 := box_at (v := .slice a1 s.store.length k1) EB1.old 0 rfl
    have q1 := box_at (v := .slice a2 s.tape.length k2) EB1.old 1 rfl
    have q2 := box_at (v := .int .i64 s.taken) EB1.old 2 rfl
    have q3 := box_at (v := .slice a3 s.printed.length k3) EB1.old 3 rfl
    have q4 := box_at (v := .int .i64 s.time) EB1.old 4 rfl
    have q5 := box_at (v := .int .i64 s.at_) EB1.old 5 rfl
    have q6 := box_at (v := .int .i64 s.done) EB1.old 6 rfl
    have q7 := box_at (v := .int .i64 s.why) EB1.old 7 rfl
    have hy0 : w.heap.size < w1.heap.size := by have := EB1.size; simp at this; omega
    go_wp2_with fail
    refine (g1 _ _ (A1.ext (by repeat (first | with_reducible exact Ext.refl _ | with_reducible refine Ext.alloc ?_ _ | with_reducible refine Below.drew ?_)))).mono ?_
    rintro e w2 ⟨v2, rfl, A2, E2⟩
    obtain ⟨c1, c2, c3, m1, m2, m3, rfl, _, _, _⟩ := id A2
    clear q0 q1 q2 q3 q4 q5 q6 q7
    have EB2 := Ext.comp EB1 E2.old
    have q0 := box_at (v := .slice a1 s.store.length k1) EB2.old 0 rfl
    have q1 := box_at (v := .slice a2 s.tape.length k2) EB2.old 1 rfl
    have q2 := box_at (v := .int .i64 s.taken) EB2.old 2 rfl
    have q3 := box_at (v := .slice a3 s.printed.length k3) EB2.old 3 rfl
    have q4 := box_at (v := .int .i64 s.time) EB2.old 4 rfl
    have q5 := box_at (v := .int .i64 s.at_) EB2.old 5 rfl
    have q6 := box_at (v := .int .i64 s.done) EB2.old 6 rfl
    have q7 := box_at (v := .int .i64 s.why) EB2.old 7 rfl
    have hx0 : w.heap.size < w2.heap.size := by have := EB2.size; simp at this; omega
    clear h1 g1 hz0 hy0
    go_wp2_with fail
    refine (h3 _ (by repeat (first | with_reducible exact EB2.old.old | with_reducible refine Ext.alloc ?_ _ | with_reducible refine Below.drew ?_))).mono ?_
    rintro e w3 ⟨v3, rfl, A3, E3⟩
    obtain ⟨d1, d2, d3, n1, n2, n3, rfl, _, _, _⟩ := id A3
    clear q0 q1 q2 q3 q4 q5 q6 q7
    have EB3 := Ext.comp EB2 E3.old
    have q0 := box_at (v := .slice a1 s.store.length k1) EB3.old 0 rfl
    have q1 := box_at (v := .slice a2 s.tape.length k2) EB3.old 1 rfl
    have q2 := box_at (v := .int .i64 s.taken) EB3.old 2 rfl
    have q3 := box_at (v := .slice a3 s.printed.length k3) EB3.old 3 rfl
    have q4 := box_at (v := .int .i64 s.time) EB3.old 4 rfl
    have q5 := box_at (v := .int .i64 s.at_) EB3.old 5 rfl
    have q6 := box_at (v := .int .i64 s.done) EB3.old 6 rfl
    have q7 := box_at (v := .int .i64 s.why) EB3.old 7 rfl
    have p0 := box_at (v := .slice c1 u.store.length m1) E3 0 rfl
    have p1 := box_at (v := .slice c2 u.tape.length m2) E3 1 rfl
    have p2 := box_at (v := .int .i64 u.taken) E3 2 rfl
    have p3 := box_at (v := .slice c3 u.printed.length m3) E3 3 rfl
    have p4 := box_at (v := .int .i64 u.time) E3 4 rfl
    have p5 := box_at (v := .int .i64 u.at_) E3 5 rfl
    have p6 := box_at (v := .int .i64 u.done) E3 6 rfl
    have p7 := box_at (v := .int .i64 u.why) E3 7 rfl
    have hz0 : w.heap.size < w3.heap.size := by have := EB3.size; simp at this; omega
    have hu0 : w2.heap.size < w3.heap.size := by have := E3.size; simp at this; omega
    clear h3 hx0
    go_wp2_with fail
    refine (h4 _ (by repeat (first | with_reducible exact EB3.old.old | with_reducible refine Ext.alloc ?_ _ | with_reducible refine Below.drew ?_))).mono ?_
    rintro e w4 ⟨f1, f2, rfl, I4, E4⟩
    clear q0 q1 q2 q3 q4 q5 q6 q7
    clear p0 p1 p2 p3 p4 p5 p6 p7
    have EB4 := Ext.comp EB3 E4.old
    have E34 := Ext.comp E3 E4.old
    have q0 := box_at (v := .slice a1 s.store.length k1) EB4.old 0 rfl
    have q1 := box_at (v := .slice a2 s.tape.length k2) EB4.old 1 rfl
    have q2 := box_at (v := .int .i64 s.taken) EB4.old 2 rfl
    have q3 := box_at (v := .slice a3 s.printed.length k3) EB4.old 3 rfl
    have q4 := box_at (v := .int .i64 s.time) EB4.old 4 rfl
    have q5 := box_at (v := .int .i64 s.at_) EB4.old 5 rfl
    have q6 := box_at (v := .int .i64 s.done) EB4.old 6 rfl
    have q7 := box_at (v := .int .i64 s.why) EB4.old 7 rfl
    have p0 := box_at (v := .slice c1 u.store.length m1) E34 0 rfl
    have p1 := box_at (v := .slice c2 u.tape.length m2) E34 1 rfl
    have p2 := box_at (v := .int .i64 u.taken) E34 2 rfl
    have p3 := box_at (v := .slice c3 u.printed.length m3) E34 3 rfl
    have p4 := box_at (v := .int .i64 u.time) E34 4 rfl
    have p5 := box_at (v := .int .i64 u.at_) E34 5 rfl
    have p6 := box_at (v := .int .i64 u.done) E34 6 rfl
    have p7 := box_at (v := .int .i64 u.why) E34 7 rfl
    have r0 := box_at (v := .slice d1 u.store.length n1) E4 0 rfl
    have r1 := box_at (v := .slice d2 u.tape.length n2) E4 1 rfl
    have r2 := box_at (v := .int .i64 u.taken) E4 2 rfl
    have r3 := box_at (v := .slice d3 u.printed.length n3) E4 3 rfl
    have r4 := box_at (v := .int .i64 u.time) E4 4 rfl
    have r5 := box_at (v := .int .i64 u.at_) E4 5 rfl
    have r6 := box_at (v := .int .i64 u.done) E4 6 rfl
    have r7 := box_at (v := .int .i64 u.why) E4 7 rfl
    clear h4
    go_wp2_with fail
    refine (g2 _ _ _ (A2.ext (by repeat (first | with_reducible exact E34.old | with_reducible refine Ext.alloc ?_ _ | with_reducible refine Below.drew ?_))) (A3.ext (by repeat (first | with_reducible exact E4.old | with_reducible refine Ext.alloc ?_ _ | with_reducible refine Below.drew ?_)))).mono ?_
    rintro e w5 ⟨rfl, E5⟩
    clear q0 q1 q2 q3 q4 q5 q6 q7
    clear p0 p1 p2 p3 p4 p5 p6 p7
    clear r0 r1 r2 r3 r4 r5 r6 r7
    have EB5 := Ext.comp EB4 E5
    have E45 := Ext.comp E4 E5
    have I5 := I4.ext E5
    have q0 := box_at (v := .slice a1 s.store.length k1) EB5.old 0 rfl
    have q1 := box_at (v := .slice a2 s.tape.length k2) EB5.old 1 rfl
    have q2 := box_at (v := .int .i64 s.taken) EB5.old 2 rfl
    have q3 := box_at (v := .slice a3 s.printed.length k3) EB5.old 3 rfl
    have q4 := box_at (v := .int .i64 s.time) EB5.old 4 rfl
    have q5 := box_at (v := .int .i64 s.at_) EB5.old 5 rfl
    have q6 := box_at (v := .int .i64 s.done) EB5.old 6 rfl
    have q7 := box_at (v := .int .i64 s.why) EB5.old 7 rfl
    have r0 := box_at (v := .slice d1 u.store.length n1) E45 0 rfl
    have r1 := box_at (v := .slice d2 u.tape.length n2) E45 1 rfl
    have r2 := box_at (v := .int .i64 u.taken) E45 2 rfl
    have r3 := box_at (v := .slice d3 u.printed.length n3) E45 3 rfl
    have r4 := box_at (v := .int .i64 u.time) E45 4 rfl
    have r5 := box_at (v := .int .i64 u.at_) E45 5 rfl
    have r6 := box_at (v := .int .i64 u.done) E45 6 rfl
    have r7 := box_at (v := .int .i64 u.why) E45 7 rfl
    clear g2
    go_wp2_with fail
    go_quiet (fail)
    go_wp2_with fail
    go_loopw [14, 15, 16] (fun at_ tm i wr => ∃ k : Nat, k ≤ l.length ∧ i = .int .i64 k ∧ at_ = .int .i64 (runQ k s).at_ ∧ tm = .int .i64 (runQ k s).time ∧ Ext w5 wr) (fun _ _ i _ => l.length - (intOf i).toNat)
    case atStart => exact ⟨0, Nat.zero_le _, rfl, rfl, rfl, ext_drewN (Ext.refl w5) _⟩
    case round =>
      obtain ⟨k, hk, rfl, rfl, rfl, E0⟩ := hrel
      clear q0 q1 q2 q3 q4 q5 q6 q7
      clear r0 r1 r2 r3 r4 r5 r6 r7
      have E50 := Ext.comp E45 E0
      have hz9 : w3.heap.size < wr.heap.size := by have := E50.size; simp at this; omega
      have r0 := box_at (v := .slice d1 u.store.length n1) E50 0 rfl
      have r1 := box_at (v := .slice d2 u.tape.length n2) E50 1 rfl
      have r2 := box_at (v := .int .i64 u.taken) E50 2 rfl
      have r3 := box_at (v := .slice d3 u.printed.length n3) E50 3 rfl
      have r4 := box_at (v := .int .i64 u.time) E50 4 rfl
      have r5 := box_at (v := .int .i64 u.at_) E50 5 rfl
      have r6 := box_at (v := .int .i64 u.done) E50 6 rfl
      have r7 := box_at (v := .int .i64 u.why) E50 7 rfl
      by_cases hlt : k < l.length
      · have hltz : (k : Int) < (l.length : Int) := by omega
        have hk0 : (0 : Int) ≤ (k : Int) := by omega
        obtain ⟨hget, hy0, hw0⟩ := HLAW.out.1 k hlt
        obtain ⟨hn1, hn2⟩ := HNEXT.out k hlt
        have vk := HK.out k
        have hop : (ordAt (runQ k s)).op ≠ 0 := fun c => by unfold whyAt at hw0; rw [if_pos c] at hw0; cases hw0
        have hord := vk.ord
        have htm := vk.time
        have hne : l ≠ [] := fun e => by rw [e] at hlt; simp at hlt
        obtain ⟨cb, co, rfl, hcb, hcc⟩ := step_cell I5 hne
        have hcc0 := hcc
        have hu0 : untilAt (runQ k s) = whenUntil (ordAt (runQ k s)) (runQ k s).time (negAt (runQ k s)) := rfl
        have z : ∀ j v, j < 7 → (sc (stpAt k s))[j]? = some v → wr.cell? ⟨cb, co + (k * 7 + j), none⟩ = some v := fun j v hj hv => (E0.cell (p := ⟨cb, co + (k * 7 + j), none⟩) hcb).trans (hcc _ _ ((scs_get hget j hj).trans hv))
        have z0 : wr.cell? ⟨cb, co + k * 7, none⟩ = some (.int .i64 (runQ k s).at_) := z 0 _ (by decide) rfl
        have z1 : wr.cell? ⟨cb, co + k * 7 + 1, none⟩ = some (.int .i64 (ordAt (runQ k s)).op) := z 1 _ (by decide) rfl
        have z2 : wr.cell? ⟨cb, co + k * 7 + 2, none⟩ = some (.int .i64 (ordAt (runQ k s)).frm) := z 2 _ (by decide) rfl
        have z3 : wr.cell? ⟨cb, co + k * 7 + 3, none⟩ = some (.int .i64 (ordAt (runQ k s)).to) := z 3 _ (by decide) rfl
        have z4 : wr.cell? ⟨cb, co + k * 7 + 4, none⟩ = some (.int .i64 (ordAt (runQ k s)).nxt) := z 4 _ (by decide) rfl
        have z5 : wr.cell? ⟨cb, co + k * 7 + 5, none⟩ = some (.int .i64 (runQ k s).time) := z 5 _ (by decide) rfl
        have z6 : wr.cell? ⟨cb, co + k * 7 + 6, none⟩ = some (.int .i64 (untilAt (runQ k s))) := z 6 _ (by decide) rfl
        have hub := until_bd (ordAt (runQ k s)) (runQ k s).time (negAt (runQ k s))
        have hg5 := fun ng W => whenE_any (ordAt (runQ k s)).op (ordAt (runQ k s)).frm (ordAt (runQ k s)).to (ordAt (runQ k s)).nxt (runQ k s).time ng W
        have hq5 := fun ng => whenQ_ok hord htm hop ng
        unfold v3 at hg5
        simp only [hq5] at hg5
        have hTU : (runQ (k + 1) s).time = whenUntil (ordAt (runQ k s)) (runQ k s).time (negAt (runQ k s)) := hn1.trans hu0
        rw [← hn1] at z6
        rw [← hTU] at hub
        clear hn1 hu0 hq5 hop hord hy0 hw0 vk hne hget hcc z
        have hnx : (k + 1 < l.length ∧ wr.cell? ⟨cb, co + (k + 1) * 7, none⟩ = some (.int .i64 (runQ (k + 1) s).at_)) ∨ (k + 1 = l.length ∧ u.at_ = (runQ (k + 1) s).at_) := by
          by_cases hk1 : k + 1 < l.length
          · obtain ⟨hget1, _⟩ := HLAW.out.1 (k + 1) hk1
            exact .inl ⟨hk1, (E0.cell (p := ⟨cb, co + ((k + 1) * 7 + 0), none⟩) hcb).trans (hcc0 _ _ ((scs_get hget1 0 (by decide)).trans rfl))⟩
          · refine .inr ⟨by omega, ?_⟩
            have : k + 1 = l.length := by omega
            rw [this]; exact HLAW.out.2.2.1
        have hcb2 : cb < wr.heap.size := Nat.lt_of_lt_of_le hcb E0.size
        generalize hA2 : (runQ (k + 1) s).at_ = A2 at *
        generalize hT2 : (runQ (k + 1) s).time = T2 at *
        have HA2 := Lib.hid hA2
        have HT2 := Lib.hid hT2
        clear hA2 hT2 hcc0
        generalize ordAt (runQ k s) = o at *
        generalize (runQ k s).at_ = A0 at *
        generalize (runQ k s).time = tm at *
        generalize negAt (runQ k s) = neg at *
        obtain ⟨op, fr, tt, nx⟩ := o
        dsimp only at z1 z2 z3 z4 hg5
        generalize whenAt ⟨op, fr, tt, nx⟩ = N at *
        generalize whenUntil ⟨op, fr, tt, nx⟩ tm = V at *
        have g50 := hg5 false
        have g51 := hg5 true
        obtain ⟨hub1, hub2, _⟩ := hub
        clear hg5 hub2
        have aa : (A2 == A2) = true := by simp
        have ab : (A2 != A2) = false := by simp
        have ac : (T2 != T2) = false := by simp
        have ad : (A0 != A0) = false := by simp
        have ae : (tm != tm) = false := by simp
        cases neg with
        | false =>
          rw [← hn2, ← hTU] at g50
          clear hn2 hTU
          rcases hnx with ⟨hk1, hnx⟩ | ⟨hk1, hnx⟩
          · have hk2 : (k : Int) + 1 < (l.length : Int) := by omega
            go_wp2_with fail
            refine (g50 _).mono ?_
            rintro e w6 ⟨rfl, E6⟩
            have E06 := Ext.comp E0 E6
            have E56 := Ext.comp E50 E6
            have x0 := (E6.cell (p := ⟨cb, co + k * 7, none⟩) hcb2).trans z0
            have x1 := (E6.cell (p := ⟨cb, co + k * 7 + 1, none⟩) hcb2).trans z1
            have x2 := (E6.cell (p := ⟨cb, co + k * 7 + 2, none⟩) hcb2).trans z2
            have x3 := (E6.cell (p := ⟨cb, co + k * 7 + 3, none⟩) hcb2).trans z3
            have x4 := (E6.cell (p := ⟨cb, co + k * 7 + 4, none⟩) hcb2).trans z4
            have x6 := (E6.cell (p := ⟨cb, co + k * 7 + 6, none⟩) hcb2).trans z6
            clear z0 z1 z2 z3 z4 z5 z6
            go_wp2_with fail
            refine (g51 _).mono ?_
            rintro e w7 ⟨rfl, E7⟩
            have E07 := Ext.comp E06 E7
            have E57 := Ext.comp E56 E7
            have hz7 : w3.heap.size < w7.heap.size := by have := E57.size; simp at this; omega
            clear r0 r1 r2 r3 r4 r5 r6 r7
            have r0 := box_at (v := .slice d1 u.store.length n1) E57 0 rfl
            have r1 := box_at (v := .slice d2 u.tape.length n2) E57 1 rfl
            have r2 := box_at (v := .int .i64 u.taken) E57 2 rfl
            have r3 := box_at (v := .slice d3 u.printed.length n3) E57 3 rfl
            have r4 := box_at (v := .int .i64 u.time) E57 4 rfl
            have r5 := box_at (v := .int .i64 u.at_) E57 5 rfl
            have r6 := box_at (v := .int .i64 u.done) E57 6 rfl
            have r7 := box_at (v := .int .i64 u.why) E57 7 rfl
            have x6' := (E7.cell (p := ⟨cb, co + k * 7 + 6, none⟩) (Nat.lt_of_lt_of_le hcb2 E6.size)).trans x6
            have y0 := ((E6.trans (E7.mono E6.size)).cell (p := ⟨cb, co + (k + 1) * 7, none⟩) hcb2).trans hnx
            clear hnx
            clear x0 x1 x2 x3 x4 x6
            go_wp2_with fail
            all_goals
              go_roundw
              case rel => exact ⟨k + 1, by omega, by go_num, by rw [HA2.out], by rw [HT2.out], E07⟩
              case measure => simp [intOf]; omega
          · have hk2 : ((k : Int) + 1 == (l.length : Int)) = true := by rw [beq_iff_eq]; omega
            have hk3 : ¬ ((k : Int) + 1 < (l.length : Int)) := by omega
            have hk4 : (u.at_ != A2) = false := by rw [hnx]; simp
            clear hnx hk1
            go_wp2_with fail
            refine (g50 _).mono ?_
            rintro e w6 ⟨rfl, E6⟩
            have E06 := Ext.comp E0 E6
            have E56 := Ext.comp E50 E6
            have x0 := (E6.cell (p := ⟨cb, co + k * 7, none⟩) hcb2).trans z0
            have x1 := (E6.cell (p := ⟨cb, co + k * 7 + 1, none⟩) hcb2).trans z1
            have x2 := (E6.cell (p := ⟨cb, co + k * 7 + 2, none⟩) hcb2).trans z2
            have x3 := (E6.cell (p := ⟨cb, co + k * 7 + 3, none⟩) hcb2).trans z3
            have x4 := (E6.cell (p := ⟨cb, co + k * 7 + 4, none⟩) hcb2).trans z4
            have x6 := (E6.cell (p := ⟨cb, co + k * 7 + 6, none⟩) hcb2).trans z6
            clear z0 z1 z2 z3 z4 z5 z6
            go_wp2_with fail
            refine (g51 _).mono ?_
            rintro e w7 ⟨rfl, E7⟩
            have E07 := Ext.comp E06 E7
            have E57 := Ext.comp E56 E7
            have hz7 : w3.heap.size < w7.heap.size := by have := E57.size; simp at this; omega
            clear r0 r1 r2 r3 r4 r5 r6 r7
            have r0 := box_at (v := .slice d1 u.store.length n1) E57 0 rfl
            have r1 := box_at (v := .slice d2 u.tape.length n2) E57 1 rfl
            have r2 := box_at (v := .int .i64 u.taken) E57 2 rfl
            have r3 := box_at (v := .slice d3 u.printed.length n3) E57 3 rfl
            have r4 := box_at (v := .int .i64 u.time) E57 4 rfl
            have r5 := box_at (v := .int .i64 u.at_) E57 5 rfl
            have r6 := box_at (v := .int .i64 u.done) E57 6 rfl
            have r7 := box_at (v := .int .i64 u.why) E57 7 rfl
            have x6' := (E7.cell (p := ⟨cb, co + k * 7 + 6, none⟩) (Nat.lt_of_lt_of_le hcb2 E6.size)).trans x6
            clear x0 x1 x2 x3 x4 x6
            go_wp2_with fail
            all_goals
              go_roundw
              case rel => exact ⟨k + 1, by omega, by go_num, by rw [HA2.out], by rw [HT2.out], E07⟩
              case measure => simp [intOf]; omega
        | true =>
          rw [← hn2, ← hTU] at g51
          clear hn2 hTU
          generalize N false = N0 at *
          generalize V false = V0 at *
          cases hv0 : (V0 != T2)
          all_goals
            by_cases hN : N0 = A2
            · subst hN
              rcases hnx with ⟨hk1, hnx⟩ | ⟨hk1, hnx⟩
              · have hk2 : (k : Int) + 1 < (l.length : Int) := by omega
                go_wp2_with fail
                refine (g50 _).mono ?_
                rintro e w6 ⟨rfl, E6⟩
                have E06 := Ext.comp E0 E6
                have E56 := Ext.comp E50 E6
                have x0 := (E6.cell (p := ⟨cb, co + k * 7, none⟩) hcb2).trans z0
                have x1 := (E6.cell (p := ⟨cb, co + k * 7 + 1, none⟩) hcb2).trans z1
                have x2 := (E6.cell (p := ⟨cb, co + k * 7 + 2, none⟩) hcb2).trans z2
                have x3 := (E6.cell (p := ⟨cb, co + k * 7 + 3, none⟩) hcb2).trans z3
                have x4 := (E6.cell (p := ⟨cb, co + k * 7 + 4, none⟩) hcb2).trans z4
                have x6 := (E6.cell (p := ⟨cb, co + k * 7 + 6, none⟩) hcb2).trans z6
                clear z0 z1 z2 z3 z4 z5 z6
                go_wp2_with fail
                refine (g51 _).mono ?_
                rintro e w7 ⟨rfl, E7⟩
                have E07 := Ext.comp E06 E7
                have E57 := Ext.comp E56 E7
                have hz7 : w3.heap.size < w7.heap.size := by have := E57.size; simp at this; omega
                clear r0 r1 r2 r3 r4 r5 r6 r7
                have r0 := box_at (v := .slice d1 u.store.length n1) E57 0 rfl
                have r1 := box_at (v := .slice d2 u.tape.length n2) E57 1 rfl
                have r2 := box_at (v := .int .i64 u.taken) E57 2 rfl
                have r3 := box_at (v := .slice d3 u.printed.length n3) E57 3 rfl
                have r4 := box_at (v := .int .i64 u.time) E57 4 rfl
                have r5 := box_at (v := .int .i64 u.at_) E57 5 rfl
                have r6 := box_at (v := .int .i64 u.done) E57 6 rfl
                have r7 := box_at (v := .int .i64 u.why) E57 7 rfl
                have x6' := (E7.cell (p := ⟨cb, co + k * 7 + 6, none⟩) (Nat.lt_of_lt_of_le hcb2 E6.size)).trans x6
                have y0 := ((E6.trans (E7.mono E6.size)).cell (p := ⟨cb, co + (k + 1) * 7, none⟩) hcb2).trans hnx
                clear hnx
                clear x0 x1 x2 x3 x4 x6
                go_wp2_with fail
                all_goals
                  go_roundw
                  case rel => exact ⟨k + 1, by omega, by go_num, by rw [HA2.out], by rw [HT2.out], E07⟩
                  case measure => simp [intOf]; omega
              · have hk2 : ((k : Int) + 1 == (l.length : Int)) = true := by rw [beq_iff_eq]; omega
                have hk3 : ¬ ((k : Int) + 1 < (l.length : Int)) := by omega
                have hk4 : (u.at_ != N0) = false := by rw [hnx]; simp
                clear hnx hk1
                go_wp2_with fail
                refine (g50 _).mono ?_
                rintro e w6 ⟨rfl, E6⟩
                have E06 := Ext.comp E0 E6
                have E56 := Ext.comp E50 E6
                have x0 := (E6.cell (p := ⟨cb, co + k * 7, none⟩) hcb2).trans z0
                have x1 := (E6.cell (p := ⟨cb, co + k * 7 + 1, none⟩) hcb2).trans z1
                have x2 := (E6.cell (p := ⟨cb, co + k * 7 + 2, none⟩) hcb2).trans z2
                have x3 := (E6.cell (p := ⟨cb, co + k * 7 + 3, none⟩) hcb2).trans z3
                have x4 := (E6.cell (p := ⟨cb, co + k * 7 + 4, none⟩) hcb2).trans z4
                have x6 := (E6.cell (p := ⟨cb, co + k * 7 + 6, none⟩) hcb2).trans z6
                clear z0 z1 z2 z3 z4 z5 z6
                go_wp2_with fail
                refine (g51 _).mono ?_
                rintro e w7 ⟨rfl, E7⟩
                have E07 := Ext.comp E06 E7
                have E57 := Ext.comp E56 E7
                have hz7 : w3.heap.size < w7.heap.size := by have := E57.size; simp at this; omega
                clear r0 r1 r2 r3 r4 r5 r6 r7
                have r0 := box_at (v := .slice d1 u.store.length n1) E57 0 rfl
                have r1 := box_at (v := .slice d2 u.tape.length n2) E57 1 rfl
                have r2 := box_at (v := .int .i64 u.taken) E57 2 rfl
                have r3 := box_at (v := .slice d3 u.printed.length n3) E57 3 rfl
                have r4 := box_at (v := .int .i64 u.time) E57 4 rfl
                have r5 := box_at (v := .int .i64 u.at_) E57 5 rfl
                have r6 := box_at (v := .int .i64 u.done) E57 6 rfl
                have r7 := box_at (v := .int .i64 u.why) E57 7 rfl
                have x6' := (E7.cell (p := ⟨cb, co + k * 7 + 6, none⟩) (Nat.lt_of_lt_of_le hcb2 E6.size)).trans x6
                clear x0 x1 x2 x3 x4 x6
                go_wp2_with fail
                all_goals
                  go_roundw
                  case rel => exact ⟨k + 1, by omega, by go_num, by rw [HA2.out], by rw [HT2.out], E07⟩
                  case measure => simp [intOf]; omega
            · skip
              rcases hnx with ⟨hk1, hnx⟩ | ⟨hk1, hnx⟩
              · have hN1 : (A2 != N0) = true := by rw [bne_iff_ne]; exact fun e => hN e.symm
                clear hN
                have hk2 : (k : Int) + 1 < (l.length : Int) := by omega
                go_wp2_with fail
                refine (g50 _).mono ?_
                rintro e w6 ⟨rfl, E6⟩
                have E06 := Ext.comp E0 E6
                have E56 := Ext.comp E50 E6
                have x0 := (E6.cell (p := ⟨cb, co + k * 7, none⟩) hcb2).trans z0
                have x1 := (E6.cell (p := ⟨cb, co + k * 7 + 1, none⟩) hcb2).trans z1
                have x2 := (E6.cell (p := ⟨cb, co + k * 7 + 2, none⟩) hcb2).trans z2
                have x3 := (E6.cell (p := ⟨cb, co + k * 7 + 3, none⟩) hcb2).trans z3
                have x4 := (E6.cell (p := ⟨cb, co + k * 7 + 4, none⟩) hcb2).trans z4
                have x6 := (E6.cell (p := ⟨cb, co + k * 7 + 6, none⟩) hcb2).trans z6
                clear z0 z1 z2 z3 z4 z5 z6
                go_wp2_with fail
                refine (g51 _).mono ?_
                rintro e w7 ⟨rfl, E7⟩
                have E07 := Ext.comp E06 E7
                have E57 := Ext.comp E56 E7
                have hz7 : w3.heap.size < w7.heap.size := by have := E57.size; simp at this; omega
                clear r0 r1 r2 r3 r4 r5 r6 r7
                have r0 := box_at (v := .slice d1 u.store.length n1) E57 0 rfl
                have r1 := box_at (v := .slice d2 u.tape.length n2) E57 1 rfl
                have r2 := box_at (v := .int .i64 u.taken) E57 2 rfl
                have r3 := box_at (v := .slice d3 u.printed.length n3) E57 3 rfl
                have r4 := box_at (v := .int .i64 u.time) E57 4 rfl
                have r5 := box_at (v := .int .i64 u.at_) E57 5 rfl
                have r6 := box_at (v := .int .i64 u.done) E57 6 rfl
                have r7 := box_at (v := .int .i64 u.why) E57 7 rfl
                have x6' := (E7.cell (p := ⟨cb, co + k * 7 + 6, none⟩) (Nat.lt_of_lt_of_le hcb2 E6.size)).trans x6
                have y0 := ((E6.trans (E7.mono E6.size)).cell (p := ⟨cb, co + (k + 1) * 7, none⟩) hcb2).trans hnx
                clear hnx
                clear x0 x1 x2 x3 x4 x6
                go_wp2_with fail
                all_goals
                  go_roundw
                  case rel => exact ⟨k + 1, by omega, by go_num, by rw [HA2.out], by rw [HT2.out], E07⟩
                  case measure => simp [intOf]; omega
              · have hk2 : ((k : Int) + 1 == (l.length : Int)) = true := by rw [beq_iff_eq]; omega
                have hk3 : ¬ ((k : Int) + 1 < (l.length : Int)) := by omega
                have hk4 : (u.at_ != N0) = true := by rw [hnx, bne_iff_ne]; exact fun e => hN e.symm
                clear hN
                clear hnx hk1
                go_wp2_with fail
                refine (g50 _).mono ?_
                rintro e w6 ⟨rfl, E6⟩
                have E06 := Ext.comp E0 E6
                have E56 := Ext.comp E50 E6
                have x0 := (E6.cell (p := ⟨cb, co + k * 7, none⟩) hcb2).trans z0
                have x1 := (E6.cell (p := ⟨cb, co + k * 7 + 1, none⟩) hcb2).trans z1
                have x2 := (E6.cell (p := ⟨cb, co + k * 7 + 2, none⟩) hcb2).trans z2
                have x3 := (E6.cell (p := ⟨cb, co + k * 7 + 3, none⟩) hcb2).trans z3
                have x4 := (E6.cell (p := ⟨cb, co + k * 7 + 4, none⟩) hcb2).trans z4
                have x6 := (E6.cell (p := ⟨cb, co + k * 7 + 6, none⟩) hcb2).trans z6
                clear z0 z1 z2 z3 z4 z5 z6
                go_wp2_with fail
                refine (g51 _).mono ?_
                rintro e w7 ⟨rfl, E7⟩
                have E07 := Ext.comp E06 E7
                have E57 := Ext.comp E56 E7
                have hz7 : w3.heap.size < w7.heap.size := by have := E57.size; simp at this; omega
                clear r0 r1 r2 r3 r4 r5 r6 r7
                have r0 := box_at (v := .slice d1 u.store.length n1) E57 0 rfl
                have r1 := box_at (v := .slice d2 u.tape.length n2) E57 1 rfl
                have r2 := box_at (v := .int .i64 u.taken) E57 2 rfl
                have r3 := box_at (v := .slice d3 u.printed.length n3) E57 3 rfl
                have r4 := box_at (v := .int .i64 u.time) E57 4 rfl
                have r5 := box_at (v := .int .i64 u.at_) E57 5 rfl
                have r6 := box_at (v := .int .i64 u.done) E57 6 rfl
                have r7 := box_at (v := .int .i64 u.why) E57 7 rfl
                have x6' := (E7.cell (p := ⟨cb, co + k * 7 + 6, none⟩) (Nat.lt_of_lt_of_le hcb2 E6.size)).trans x6
                clear x0 x1 x2 x3 x4 x6
                go_wp2_with fail
                all_goals
                  go_roundw
                  case rel => exact ⟨k + 1, by omega, by go_num, by rw [HA2.out], by rw [HT2.out], E07⟩
                  case measure => simp [intOf]; omega
      · have hltz : ¬ (k : Int) < (l.length : Int) := by omega
        have hkl : k = l.length := by omega
        have ha9 : u.at_ = (runQ k s).at_ := by rw [hkl]; exact HLAW.out.2.2.1
        have ht9 : u.time = (runQ k s).time := by rw [hkl]; exact HLAW.out.2.1
        have b8 : ((runQ k s).at_ == u.at_) = true := by rw [ha9]; simp
        have b9 : ((runQ k s).time == u.time) = true := by rw [ht9]; simp
        clear hkl ha9 ht9
        generalize runQ k s = tk at *
        go_wp2_with (go_at_call 19; refine (awake_any _).mono ?_; rintro e w7 ⟨rfl, E7⟩)
        go_ret
        exact ⟨rfl, EB5.old.old.comp (E0.comp E7)⟩
end Go.Proofs.Ytpdkgoeoddeebaa

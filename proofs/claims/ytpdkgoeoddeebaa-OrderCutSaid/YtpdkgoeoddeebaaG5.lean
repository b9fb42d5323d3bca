/- Contract: the reference's Steps at equal lists; OrderRuns returns true. -/
import Derived.Test.YtpdkgoeoddeebaaG4
import Derived.Test.YtpdkgoeoddeebaaE6
import Derived.Outline
set_option linter.unusedVariables false
set_option linter.unusedSimpArgs false
namespace Go.Proofs.Ytpdkgoeoddeebaa
open Go.RowKit Go.Q

theorem step_cell {w : World} {a : Option Addr} {l : List Stp} (h : StepsAt w a l) (h0 : l ≠ []) : ∃ b off, a = some ⟨b, off, none⟩ ∧ b < w.heap.size ∧ ∀ k u, (scs l)[k]? = some u → w.cell? ⟨b, off + k, none⟩ = some u := by
  rcases h with h | h
  · exact absurd h h0
  · exact h
theorem scs_at (l : List Stp) (k : Nat) (hk : k < l.length) : ∃ x : Stp, ∀ i v, (sc x)[i]? = some v → (scs l)[k * 7 + i]? = some v := by
  induction l generalizing k with
  | nil => simp at hk
  | cons y l ih =>
    cases k with
    | zero => exact ⟨y, fun i v hv => by
        simp only [scs, List.flatMap_cons, Nat.zero_mul, Nat.zero_add]
        rw [List.getElem?_append_left]
        · exact hv
        · rcases Nat.lt_or_ge i (sc y).length with h | h
          · exact h
          · rw [List.getElem?_eq_none h] at hv; cases hv⟩
    | succ k =>
      obtain ⟨x, hx⟩ := ih k (by simpa using hk)
      refine ⟨x, fun i v hv => ?_⟩
      have := hx i v hv
      simp only [scs, List.flatMap_cons]
      rw [List.getElem?_append_right (by simp [sc]; omega)]
      have e : (k + 1) * 7 + i - (sc y).length = k * 7 + i := by simp [sc]; omega
      rw [e]
      exact this

set_option maxRecDepth 100000 in
set_option maxHeartbeats 4000000 in
theorem steps_same (a b : Option Addr) (c d : Nat) (l : List Stp) (w : World) (hl : l.length ≤ 5000) (hI : StepsAt w a l) (hJ : StepsAt w b l) :
    Calls Try.prog 27 #[.slice a l.length c, .slice b l.length d] w fun e w' => e = .returned (.bool true) ∧ Ext w w' := by
  go_enter Try.func27, Try.ntmps27
  go_wp2_with fail
  go_loopw [5] (fun i wr => ∃ k : Nat, k ≤ l.length ∧ i = .int .i64 k ∧ Ext w wr) (fun i _ => l.length - (intOf i).toNat)
  case atStart => exact ⟨0, Nat.zero_le _, rfl, Ext.refl w⟩
  case round =>
    obtain ⟨k, hk, rfl, E0⟩ := hrel
    by_cases hlt : k < l.length
    · have hltz : (k : Int) < (l.length : Int) := by omega
      have hne : l ≠ [] := fun e => by subst e; simp at hlt
      obtain ⟨b1, o1, rfl, hb1, hc1⟩ := step_cell hI hne
      obtain ⟨b2, o2, rfl, hb2, hc2⟩ := step_cell hJ hne
      obtain ⟨x, hx⟩ := scs_at l k hlt
      have c0 : wr.cell? ⟨b1, o1 + k * 7, none⟩ = some (.int .i64 x.at_) := (E0.cell (p := ⟨b1, o1 + (k * 7 + 0), none⟩) hb1).trans (hc1 _ _ (hx 0 _ rfl))
      have c1 : wr.cell? ⟨b1, o1 + k * 7 + 1, none⟩ = some (.int .i64 x.ord.op) := (E0.cell (p := ⟨b1, o1 + (k * 7 + 1), none⟩) hb1).trans (hc1 _ _ (hx 1 _ rfl))
      have c2 : wr.cell? ⟨b1, o1 + k * 7 + 2, none⟩ = some (.int .i64 x.ord.frm) := (E0.cell (p := ⟨b1, o1 + (k * 7 + 2), none⟩) hb1).trans (hc1 _ _ (hx 2 _ rfl))
      have c3 : wr.cell? ⟨b1, o1 + k * 7 + 3, none⟩ = some (.int .i64 x.ord.to) := (E0.cell (p := ⟨b1, o1 + (k * 7 + 3), none⟩) hb1).trans (hc1 _ _ (hx 3 _ rfl))
      have c4 : wr.cell? ⟨b1, o1 + k * 7 + 4, none⟩ = some (.int .i64 x.ord.nxt) := (E0.cell (p := ⟨b1, o1 + (k * 7 + 4), none⟩) hb1).trans (hc1 _ _ (hx 4 _ rfl))
      have c5 : wr.cell? ⟨b1, o1 + k * 7 + 5, none⟩ = some (.int .i64 x.time) := (E0.cell (p := ⟨b1, o1 + (k * 7 + 5), none⟩) hb1).trans (hc1 _ _ (hx 5 _ rfl))
      have c6 : wr.cell? ⟨b1, o1 + k * 7 + 6, none⟩ = some (.int .i64 x.until_) := (E0.cell (p := ⟨b1, o1 + (k * 7 + 6), none⟩) hb1).trans (hc1 _ _ (hx 6 _ rfl))
      have d0 : wr.cell? ⟨b2, o2 + k * 7, none⟩ = some (.int .i64 x.at_) := (E0.cell (p := ⟨b2, o2 + (k * 7 + 0), none⟩) hb2).trans (hc2 _ _ (hx 0 _ rfl))
      have d1 : wr.cell? ⟨b2, o2 + k * 7 + 1, none⟩ = some (.int .i64 x.ord.op) := (E0.cell (p := ⟨b2, o2 + (k * 7 + 1), none⟩) hb2).trans (hc2 _ _ (hx 1 _ rfl))
      have d2 : wr.cell? ⟨b2, o2 + k * 7 + 2, none⟩ = some (.int .i64 x.ord.frm) := (E0.cell (p := ⟨b2, o2 + (k * 7 + 2), none⟩) hb2).trans (hc2 _ _ (hx 2 _ rfl))
      have d3 : wr.cell? ⟨b2, o2 + k * 7 + 3, none⟩ = some (.int .i64 x.ord.to) := (E0.cell (p := ⟨b2, o2 + (k * 7 + 3), none⟩) hb2).trans (hc2 _ _ (hx 3 _ rfl))
      have d4 : wr.cell? ⟨b2, o2 + k * 7 + 4, none⟩ = some (.int .i64 x.ord.nxt) := (E0.cell (p := ⟨b2, o2 + (k * 7 + 4), none⟩) hb2).trans (hc2 _ _ (hx 4 _ rfl))
      have d5 : wr.cell? ⟨b2, o2 + k * 7 + 5, none⟩ = some (.int .i64 x.time) := (E0.cell (p := ⟨b2, o2 + (k * 7 + 5), none⟩) hb2).trans (hc2 _ _ (hx 5 _ rfl))
      have d6 : wr.cell? ⟨b2, o2 + k * 7 + 6, none⟩ = some (.int .i64 x.until_) := (E0.cell (p := ⟨b2, o2 + (k * 7 + 6), none⟩) hb2).trans (hc2 _ _ (hx 6 _ rfl))
      clear hc1 hc2 hx hI hJ
      go_wp2
      go_quiet (fail)
      go_wp2
      go_roundw
      case rel => exact ⟨k + 1, by omega, by go_num, ext_drewN E0 _⟩
      case measure => simp [intOf]; omega
    · have hltz : ¬ (k : Int) < (l.length : Int) := by omega
      go_wp2
      go_ret
      exact ⟨rfl, E0⟩

theorem runE_len (s : St) (most : Int) : (runE s most).1.store.length ≤ 9223372036854775807 ∧ StBd (runE s most).1 := by
  by_cases h : askedQ s most = 0
  · have hv := valid_of_check (asked_ok h).1
    have e : runE s most = (runQ most.toNat s, 0) := by simp [runE, h]
    rw [e]
    have hb := valid_bd (runQ_valid most.toNat hv)
    exact ⟨hb.1, hb⟩
  · have e : runE s most = (zst, askedQ s most) := by simp [runE, h]
    rw [e]
    exact ⟨by simp [zst], by simp [zst], by simp [zst], by simp [zst]⟩
theorem traceE_len (s : St) (most : Int) : (traceE s most).1.length ≤ 5000 := by
  by_cases h : askedQ s most = 0
  · have e : traceE s most = (traceQ most.toNat s, 0) := by simp [traceE, h]
    rw [e]
    have h1 := traceQ_le most.toNat s
    have h2 := inB_bd (asked_ok h).2
    show (traceQ most.toNat s).length ≤ 5000
    omega
  · have e : traceE s most = ([], askedQ s most) := by simp [traceE, h]
    rw [e]; simp

set_option maxRecDepth 100000 in
set_option maxHeartbeats 4000000 in
theorem runs_any (v : Value) (s : St) (most : Int) (w : World) (h : StAt w v s) (hb : StBd s) :
    Calls Try.prog 5 #[v, .int .i64 most] w fun e w' => e = .returned (.bool true) ∧ Ext w w' := by
  have h1 := fun W (E : Ext w W) => runE_any v s most W (h.ext E) hb
  have h2 := fun W (E : Ext w W) => rrun_any v s most W (h.ext E) hb
  have h3 := fun W (E : Ext w W) => traceE_any v s most W (h.ext E) hb
  have h4 := fun W (E : Ext w W) => rtrace_any v s most W (h.ext E) hb
  have b1 := (runE_len s most).2
  have b2 := traceE_len s most
  obtain ⟨a1, a2, a3, k1, k2, k3, rfl, _, _, _⟩ := h
  generalize runE s most = p at *
  generalize traceE s most = q at *
  obtain ⟨t, er⟩ := p
  obtain ⟨l, er2⟩ := q
  dsimp only at b1 b2
  have g1 := fun W V V' (A : StAt W V t) (B : StAt W V' t) => states_same V V' t W A B b1
  have g2 := fun W A B c d (I : StepsAt W A l) (J : StepsAt W B l) => steps_same A B c d l W b2 I J
  have ee : (er == er) = true := by simp
  have ee2 : (er2 == er2) = true := by simp
  have en : (er != er) = false := by simp
  go_enter Try.func5, Try.ntmps5
  go_wp2_with fail
  refine (h1 _ (by repeat (first | with_reducible exact Ext.refl _ | with_reducible refine Ext.alloc ?_ _ | with_reducible refine Below.drew ?_))).mono ?_
  rintro e w1 ⟨v1, rfl, A1, E1⟩
  obtain ⟨c1, c2, c3, m1, m2, m3, rfl, _, _, _⟩ := id A1
  have q0 := box_at (v := .slice a1 s.store.length k1) E1 0 rfl
  have q1 := box_at (v := .slice a2 s.tape.length k2) E1 1 rfl
  have q2 := box_at (v := .int .i64 s.taken) E1 2 rfl
  have q3 := box_at (v := .slice a3 s.printed.length k3) E1 3 rfl
  have q4 := box_at (v := .int .i64 s.time) E1 4 rfl
  have q5 := box_at (v := .int .i64 s.at_) E1 5 rfl
  have q6 := box_at (v := .int .i64 s.done) E1 6 rfl
  have q7 := box_at (v := .int .i64 s.why) E1 7 rfl
  have hz0 : w.heap.size < w1.heap.size := by have := E1.size; simp at this; omega
  go_wp2_with fail
  refine (h2 _ (by repeat (first | with_reducible exact E1.old | with_reducible refine Ext.alloc ?_ _ | with_reducible refine Below.drew ?_))).mono ?_
  rintro e w2 ⟨v2, rfl, A2, E2⟩
  obtain ⟨d1, d2, d3, n1, n2, n3, rfl, _, _, _⟩ := id A2
  clear q0 q1 q2 q3 q4 q5 q6 q7
  have E12 := Ext.comp E1 E2.old
  have q0 := box_at (v := .slice a1 s.store.length k1) E12 0 rfl
  have q1 := box_at (v := .slice a2 s.tape.length k2) E12 1 rfl
  have q2 := box_at (v := .int .i64 s.taken) E12 2 rfl
  have q3 := box_at (v := .slice a3 s.printed.length k3) E12 3 rfl
  have q4 := box_at (v := .int .i64 s.time) E12 4 rfl
  have q5 := box_at (v := .int .i64 s.at_) E12 5 rfl
  have q6 := box_at (v := .int .i64 s.done) E12 6 rfl
  have q7 := box_at (v := .int .i64 s.why) E12 7 rfl
  have hy0 : w.heap.size < w2.heap.size := by have := E12.size; simp at this; omega
  have p0 := box_at (v := .slice c1 t.store.length m1) E2 0 rfl
  have p1 := box_at (v := .slice c2 t.tape.length m2) E2 1 rfl
  have p2 := box_at (v := .int .i64 t.taken) E2 2 rfl
  have p3 := box_at (v := .slice c3 t.printed.length m3) E2 3 rfl
  have p4 := box_at (v := .int .i64 t.time) E2 4 rfl
  have p5 := box_at (v := .int .i64 t.at_) E2 5 rfl
  have p6 := box_at (v := .int .i64 t.done) E2 6 rfl
  have p7 := box_at (v := .int .i64 t.why) E2 7 rfl
  have hx0 : w1.heap.size < w2.heap.size := by have := E2.size; simp at this; omega
  clear h1 h2 hz0
  go_wp2_with fail
  refine (g1 _ _ _ (A1.ext (by repeat (first | with_reducible exact E2.old | with_reducible refine Ext.alloc ?_ _ | with_reducible refine Below.drew ?_))) (A2.ext (by repeat (first | with_reducible exact Ext.refl _ | with_reducible refine Ext.alloc ?_ _ | with_reducible refine Below.drew ?_)))).mono ?_
  rintro e w3 ⟨rfl, E3⟩
  clear q0 q1 q2 q3 q4 q5 q6 q7
  clear p0 p1 p2 p3 p4 p5 p6 p7
  have E13 := Ext.comp E12 E3.old
  have q0 := box_at (v := .slice a1 s.store.length k1) E13 0 rfl
  have q1 := box_at (v := .slice a2 s.tape.length k2) E13 1 rfl
  have q2 := box_at (v := .int .i64 s.taken) E13 2 rfl
  have q3 := box_at (v := .slice a3 s.printed.length k3) E13 3 rfl
  have q4 := box_at (v := .int .i64 s.time) E13 4 rfl
  have q5 := box_at (v := .int .i64 s.at_) E13 5 rfl
  have q6 := box_at (v := .int .i64 s.done) E13 6 rfl
  have q7 := box_at (v := .int .i64 s.why) E13 7 rfl
  have hw0 : w.heap.size < w3.heap.size := by have := E13.size; simp at this; omega
  clear hy0 hx0
  go_wp2_with fail
  refine (h3 _ (by repeat (first | with_reducible exact E13.old | with_reducible refine Ext.alloc ?_ _ | with_reducible refine Below.drew ?_))).mono ?_
  rintro e w4 ⟨b4, c4, rfl, I4, E4⟩
  clear q0 q1 q2 q3 q4 q5 q6 q7
  have E14 := Ext.comp E13 E4
  have q0 := box_at (v := .slice a1 s.store.length k1) E14 0 rfl
  have q1 := box_at (v := .slice a2 s.tape.length k2) E14 1 rfl
  have q2 := box_at (v := .int .i64 s.taken) E14 2 rfl
  have q3 := box_at (v := .slice a3 s.printed.length k3) E14 3 rfl
  have q4 := box_at (v := .int .i64 s.time) E14 4 rfl
  have q5 := box_at (v := .int .i64 s.at_) E14 5 rfl
  have q6 := box_at (v := .int .i64 s.done) E14 6 rfl
  have q7 := box_at (v := .int .i64 s.why) E14 7 rfl
  go_wp2_with fail
  refine (h4 _ (by repeat (first | with_reducible exact E14.old | with_reducible refine Ext.alloc ?_ _ | with_reducible refine Below.drew ?_))).mono ?_
  rintro e w5 ⟨b5, c5, rfl, I5, E5⟩
  go_wp2_with fail
  refine (g2 _ _ _ _ _ (I4.ext E5) I5).mono ?_
  rintro e w6 ⟨rfl, E6⟩
  go_wp2_with (go_at_call 19; refine (awake_any _).mono ?_; rintro e w7 ⟨rfl, E7⟩)
  go_ret
  refine ⟨rfl, ?_⟩
  refine Ext.comp (by first | with_reducible exact E14 | with_reducible exact E14.old | with_reducible exact E14.old.old | with_reducible exact E14.old.old.old) ?_
  refine Ext.comp (by first | with_reducible exact E5 | with_reducible exact E5.old | with_reducible exact E5.old.old | with_reducible exact E5.old.old.old) ?_
  refine Ext.comp (by first | with_reducible exact E6 | with_reducible exact E6.old | with_reducible exact E6.old.old | with_reducible exact E6.old.old.old) ?_
  exact (by first | with_reducible exact E7 | with_reducible exact E7.old | with_reducible exact E7.old.old | with_reducible exact E7.old.old.old)
end Go.Proofs.Ytpdkgoeoddeebaa

/- Contract: OrderBegins returns true. -/
import Derived.Test.YtjfggepgjpdebaaG7
import Derived.Test.YtjfggepgjpdebaaD2
import Derived.Outline
set_option linter.unusedVariables false
set_option linter.unusedSimpArgs false
namespace Go.Proofs.Ytjfggepgjpdebaa
open Go.RowKit Go.Q

theorem begin_bd (st tp : List Int) (start : Int) : StBd (beginQ st tp start).1 := by
  unfold beginQ
  split
  · rename_i h
    split
    · exact ⟨by show (st ++ List.replicate (128 - st.length) 0).length ≤ _; rw [List.length_append, List.length_replicate]; omega, by show tp.length ≤ _; omega, by show (0 : Nat) ≤ _; omega⟩
    · exact ⟨by decide, by decide, by decide⟩
  · exact ⟨by decide, by decide, by decide⟩
set_option maxRecDepth 100000 in
set_option maxHeartbeats 4000000 in
theorem begins_law (a1 a2 : Option Addr) (n1 n2 c1 c2 : Nat) (st tp : List Int) (start : Int) (w : World) (l1 : st.length = n1) (l2 : tp.length = n2) (b1 : n1 ≤ 9223372036854775807) (b2 : n2 ≤ 9223372036854775807)
    (i1 : IntsAt w a1 st) (i2 : IntsAt w a2 tp) :
    Calls Try.prog 3 #[.slice a1 n1 c1, .slice a2 n2 c2, .int .i64 start] w fun e w' => e = .returned (.bool true) ∧ Ext w w' := by
  have h1 := begin_any a1 a2 n1 n2 c1 c2 st tp start w l1 l2 b1 b2 i1 i2
  have h2 := fun W (E : Ext w W) => rbegin_any a1 a2 n1 n2 c1 c2 st tp start W l1 l2 b1 b2 (i1.ext E) (i2.ext E)
  have hb := begin_bd st tp start
  generalize beginQ st tp start = p at *
  obtain ⟨s, er⟩ := p
  have hs := fun W va vb (A : StAt W va s) (B : StAt W vb s) => states_same va vb s W A B hb
  have hee : (er == er) = true := by simp
  clear i1 i2 l1 l2 b1 b2 hb
  go_enter Try.func3, Try.ntmps3
  go_wp2_with fail
  refine (h1).mono ?_
  rintro e w1 ⟨v1, rfl, A1, E1⟩
  obtain ⟨x1, x2, x3, k1, k2, k3, rfl, i1, i2, i3⟩ := id A1
  go_wp2_with fail
  refine (h2 _ (by repeat (first | with_reducible exact E1 | with_reducible refine Ext.alloc ?_ _ | with_reducible refine Below.drew ?_))).mono ?_
  rintro e w2 ⟨v2, rfl, A2, E2⟩
  obtain ⟨y1, y2, y3, m1, m2, m3, rfl, j1, j2, j3⟩ := id A2
  clear i1 i2 i3 j1 j2 j3 h1 h2
  have q0 := box_at (v := .slice x1 s.store.length k1) E2 0 rfl
  have q1 := box_at (v := .slice x2 s.tape.length k2) E2 1 rfl
  have q2 := box_at (v := .int .i64 s.taken) E2 2 rfl
  have q3 := box_at (v := .slice x3 s.printed.length k3) E2 3 rfl
  have q4 := box_at (v := .int .i64 s.time) E2 4 rfl
  have q5 := box_at (v := .int .i64 s.at_) E2 5 rfl
  have q6 := box_at (v := .int .i64 s.done) E2 6 rfl
  have q7 := box_at (v := .int .i64 s.why) E2 7 rfl
  have hz0 : w1.heap.size < w2.heap.size := by have := E2.size; simp at this; omega
  go_wp2_with fail
  refine (hs _ _ _ (A1.ext (by repeat (first | with_reducible exact E2.old | with_reducible refine Ext.alloc ?_ _ | with_reducible refine Below.drew ?_))) (A2.ext (by repeat (first | with_reducible exact Ext.refl _ | with_reducible refine Ext.alloc ?_ _ | with_reducible refine Below.drew ?_)))).mono ?_
  rintro e w3 ⟨rfl, E3⟩
  go_wp2_with (go_at_call 20; refine (awake_any _).mono ?_; rintro e w4 ⟨rfl, E4⟩)
  go_ret
  refine ⟨rfl, ?_⟩
  refine Ext.comp (by first | with_reducible exact E1 | with_reducible exact E1.old | with_reducible exact E1.old.old | with_reducible exact E1.old.old.old) ?_
  refine Ext.comp (by first | with_reducible exact E2 | with_reducible exact E2.old | with_reducible exact E2.old.old | with_reducible exact E2.old.old.old) ?_
  refine Ext.comp (by first | with_reducible exact E3 | with_reducible exact E3.old | with_reducible exact E3.old.old | with_reducible exact E3.old.old.old) ?_
  exact (by first | with_reducible exact E4 | with_reducible exact E4.old | with_reducible exact E4.old.old | with_reducible exact E4.old.old.old)
end Go.Proofs.Ytjfggepgjpdebaa

import Derived.Outline
import Derived.Deep.RegionHeld3
import Derived.Deep.DeepCutAuto
import Derived.StillTailTactics
import Derived.Test.YtnhpcoagkmgdoaaGreatX4
import Derived.Test.YtnhpcoagkmgdoaaGreatX13
import Derived.Test.YtnhpcoagkmgdoaaGreatX5
set_option linter.unusedVariables false
set_option linter.unusedSimpArgs false
/- Contracts: the reference's Ints and States at equal lists and states; asked; Product. -/
namespace Go.Proofs.YtnhpcoagkmgdoaaGreat
open Go.RowKit Go.Q
theorem ints_same (a b : Option Addr) (n c d : Nat) (xs : List Int) (w : World) (hn : xs.length = n) (b1 : n ≤ 9223372036854775807) (hI : IntsAt w a xs) (hJ : IntsAt w b xs) :
  Calls Tryz.prog 28 #[.slice a n c, .slice b n d] w fun e w' => e = .returned (.bool true) ∧ Ext w w' :=
 (ints_any a b n n c d xs xs w hn hn b1 b1 hI hJ).mono fun e w' ⟨h1, h2⟩ => ⟨by simpa using h1, h2⟩
set_option maxRecDepth 100000 in
set_option maxHeartbeats 4000000 in
theorem states_same (va vb : Value) (s : St) (w : World) (ha : StAt w va s) (hb : StAt w vb s) (hB : StBd s) :
  Calls Tryz.prog 8 #[va, vb] w fun e w' => e = .returned (.bool true) ∧ Ext w w' := by
 obtain ⟨a1, a2, a3, k1, k2, k3, rfl, i1, i2, i3⟩ := ha
 obtain ⟨b1, b2, b3, l1, l2, l3, rfl, j1, j2, j3⟩ := hb
 have h1 := fun W (E : Ext w W) => ints_same a1 b1 s.store.length k1 l1 s.store W rfl hB.1 (i1.ext E) (j1.ext E)
 have h2 := fun W (E : Ext w W) => ints_same a2 b2 s.tape.length k2 l2 s.tape W rfl hB.2.1 (i2.ext E) (j2.ext E)
 have h3 := fun W (E : Ext w W) => ints_same a3 b3 s.printed.length k3 l3 s.printed W rfl hB.2.2 (i3.ext E) (j3.ext E)
 go_enter Tryz.func8, Tryz.ntmps8
 go_wp2_with fail
 refine (h1 _ (((Ext.refl w).alloc _).alloc _)).mono ?_
 rintro e w1 ⟨rfl, E1⟩
 have q0 := box_at (v := .slice a1 s.store.length k1) E1.old 0 rfl
 have q1 := box_at (v := .slice a2 s.tape.length k2) E1.old 1 rfl
 have q2 := box_at (v := .int .i64 s.taken) E1.old 2 rfl
 have q3 := box_at (v := .slice a3 s.printed.length k3) E1.old 3 rfl
 have q4 := box_at (v := .int .i64 s.time) E1.old 4 rfl
 have q5 := box_at (v := .int .i64 s.at_) E1.old 5 rfl
 have q6 := box_at (v := .int .i64 s.done) E1.old 6 rfl
 have q7 := box_at (v := .int .i64 s.why) E1.old 7 rfl
 have r0 := box_at2 (v := .slice b1 s.store.length l1) E1 0 rfl
 have r1 := box_at2 (v := .slice b2 s.tape.length l2) E1 1 rfl
 have r2 := box_at2 (v := .int .i64 s.taken) E1 2 rfl
 have r3 := box_at2 (v := .slice b3 s.printed.length l3) E1 3 rfl
 have r4 := box_at2 (v := .int .i64 s.time) E1 4 rfl
 have r5 := box_at2 (v := .int .i64 s.at_) E1 5 rfl
 have r6 := box_at2 (v := .int .i64 s.done) E1 6 rfl
 have r7 := box_at2 (v := .int .i64 s.why) E1 7 rfl
 go_wp2_with fail
 refine (h2 _ E1.old.old).mono ?_
 rintro e w2 ⟨rfl, F2⟩
 have E2 := Ext.comp E1 F2
 clear q0 q1 q2 q3 q4 q5 q6 q7
 clear r0 r1 r2 r3 r4 r5 r6 r7
 have q0 := box_at (v := .slice a1 s.store.length k1) E2.old 0 rfl
 have q1 := box_at (v := .slice a2 s.tape.length k2) E2.old 1 rfl
 have q2 := box_at (v := .int .i64 s.taken) E2.old 2 rfl
 have q3 := box_at (v := .slice a3 s.printed.length k3) E2.old 3 rfl
 have q4 := box_at (v := .int .i64 s.time) E2.old 4 rfl
 have q5 := box_at (v := .int .i64 s.at_) E2.old 5 rfl
 have q6 := box_at (v := .int .i64 s.done) E2.old 6 rfl
 have q7 := box_at (v := .int .i64 s.why) E2.old 7 rfl
 have r0 := box_at2 (v := .slice b1 s.store.length l1) E2 0 rfl
 have r1 := box_at2 (v := .slice b2 s.tape.length l2) E2 1 rfl
 have r2 := box_at2 (v := .int .i64 s.taken) E2 2 rfl
 have r3 := box_at2 (v := .slice b3 s.printed.length l3) E2 3 rfl
 have r4 := box_at2 (v := .int .i64 s.time) E2 4 rfl
 have r5 := box_at2 (v := .int .i64 s.at_) E2 5 rfl
 have r6 := box_at2 (v := .int .i64 s.done) E2 6 rfl
 have r7 := box_at2 (v := .int .i64 s.why) E2 7 rfl
 go_wp2_with fail
 refine (h3 _ E2.old.old).mono ?_
 rintro e w3 ⟨rfl, F3⟩
 have E3 := Ext.comp E2 F3
 clear q0 q1 q2 q3 q4 q5 q6 q7
 clear r0 r1 r2 r3 r4 r5 r6 r7
 have q0 := box_at (v := .slice a1 s.store.length k1) E3.old 0 rfl
 have q1 := box_at (v := .slice a2 s.tape.length k2) E3.old 1 rfl
 have q2 := box_at (v := .int .i64 s.taken) E3.old 2 rfl
 have q3 := box_at (v := .slice a3 s.printed.length k3) E3.old 3 rfl
 have q4 := box_at (v := .int .i64 s.time) E3.old 4 rfl
 have q5 := box_at (v := .int .i64 s.at_) E3.old 5 rfl
 have q6 := box_at (v := .int .i64 s.done) E3.old 6 rfl
 have q7 := box_at (v := .int .i64 s.why) E3.old 7 rfl
 have r0 := box_at2 (v := .slice b1 s.store.length l1) E3 0 rfl
 have r1 := box_at2 (v := .slice b2 s.tape.length l2) E3 1 rfl
 have r2 := box_at2 (v := .int .i64 s.taken) E3 2 rfl
 have r3 := box_at2 (v := .slice b3 s.printed.length l3) E3 3 rfl
 have r4 := box_at2 (v := .int .i64 s.time) E3 4 rfl
 have r5 := box_at2 (v := .int .i64 s.at_) E3 5 rfl
 have r6 := box_at2 (v := .int .i64 s.done) E3 6 rfl
 have r7 := box_at2 (v := .int .i64 s.why) E3 7 rfl
 go_wp2_with fail
 go_ret
 exact ⟨rfl, E3.old.old⟩
set_option maxHeartbeats 1000000 in
theorem product_any (a b : Int) (w : World) (ha : 0 ≤ a ∧ a ≤ 16777215) (hb : 0 ≤ b ∧ b ≤ 16777215) :
  Calls Tryz.prog 83 #[.int .i64 a, .int .i64 b] w fun e w' => e = .returned (.int .i64 (Q.prod a b)) ∧ w = w' := by
 have hp := prod_bd ha hb
 obtain ⟨a0, a1⟩ := ha
 obtain ⟨b0, b1⟩ := hb
 go_enter Tryz.func83, Tryz.ntmps83
 have hQ : Q.prod a b = (sgn a * sgn b) / 8388608 % 16777216 := rfl
 rw [hQ]
 clear hQ
 go_wp2_with (go_at_call 82; refine (sign_any _ _ (by assumption) (by assumption)).mono ?_; rintro e w1 ⟨rfl, rfl⟩)
 all_goals
  go_ret
  refine ⟨ret_int ?_, rfl⟩
  generalize sgn a * sgn b = n at *
  have h1 := Int.mul_tdiv_add_tmod n 8388608
  have h2 := Int.tmod_lt_of_pos n (show (0 : Int) < 8388608 by decide)
  have h3 := Int.lt_tmod_of_pos n (show (0 : Int) < 8388608 by decide)
  generalize n.tdiv 8388608 = q at *
  generalize n.tmod 8388608 = r at *
  first
   | (rw [IntWalk.wrap64_in (q - 1) (by omega), IntWalk.wrap64_in (q - 1 + 16777216) (by omega), Int.tmod_eq_emod_of_nonneg (by omega)]; omega)
   | (rw [IntWalk.wrap64_in (q + 16777216) (by omega), Int.tmod_eq_emod_of_nonneg (by omega)]; omega)
end Go.Proofs.YtnhpcoagkmgdoaaGreat
/- Contract: the reference's Begin. -/
namespace Go.Proofs.YtnhpcoagkmgdoaaGreat
open Go.RowKit Go.Q
theorem odd_out (xs : List Int) : decide (0 ≤ idxQ badW xs) = outB 16777215 xs := by
 rw [idxQ_nonneg]
 unfold outB
 congr 1
 funext n
 unfold badW wordB inB
 by_cases h0 : 0 ≤ n <;> by_cases h1 : n ≤ 16777215 <;> simp [h0, h1] <;> omega
set_option maxRecDepth 100000 in
set_option maxHeartbeats 4000000 in
theorem rbegin_bad (a1 a2 : Option Addr) (n1 n2 c1 c2 : Nat) (st tp : List Int) (start : Int) (w : World) (l1 : st.length = n1) (l2 : tp.length = n2) (b1 : n1 ≤ 9223372036854775807) (b2 : n2 ≤ 9223372036854775807)
  (i1 : IntsAt w a1 st) (i2 : IntsAt w a2 tp) (he : (beginQ st tp start).2 ≠ 0) :
  Calls Tryz.prog 53 #[.slice a1 n1 c1, .slice a2 n2 c2, .int .i64 start] w (StRes (beginQ st tp start) w) := by
 have hfin : ∀ (er : Int) (W : World), Ext w W → StRes (zst, er) w (.returned (.tuple #[.agg #[.slice none 0 0, .slice none 0 0, .int .i64 0, .slice none 0 0, .int .i64 0, .int .i64 0, .int .i64 0, .int .i64 0], .int .i64 er])) W :=
  fun er W hE => ⟨_, rfl, ⟨none, none, none, 0, 0, 0, rfl, .inl rfl, .inl rfl, .inl rfl⟩, hE⟩
 have ho1 := fun W (E : Ext w W) => odd_any a1 n1 c1 st W l1 b1 (i1.ext E)
 have ho2 := fun W (E : Ext w W) => odd_any a2 n2 c2 tp W l2 b2 (i2.ext E)
 have q1 := odd_out st
 have q2 := odd_out tp
 have r1 := idxQ_lt badW st
 have r2 := idxQ_lt badW tp
 clear i1 i2
 have hq : beginQ st tp start = if n1 ≤ 128 ∧ n2 ≤ 200 then (if outB 16777215 st = false ∧ outB 16777215 tp = false ∧ addrB start = true then beginQ st tp start else (zst, 7)) else (zst, 3) := by
  subst l1; subst l2
  by_cases h1 : st.length ≤ 128 ∧ tp.length ≤ 200
  ·by_cases h2 : outB 16777215 st = false ∧ outB 16777215 tp = false ∧ addrB start = true
   ·rw [if_pos h1, if_pos h2]
   ·rw [if_pos h1, if_neg h2]; unfold beginQ; rw [if_pos h1, if_neg h2]
  ·rw [if_neg h1]; unfold beginQ; rw [if_neg h1]
 generalize idxQ badW st = x1 at *
 generalize idxQ badW tp = x2 at *
 by_cases h1 : n1 ≤ 128
 ·by_cases h2 : n2 ≤ 200
  ·cases e1 : outB 16777215 st with
   | true =>
    rw [if_pos ⟨h1, h2⟩, if_neg (fun c => by rw [e1] at c; exact absurd c.1 (by decide))] at hq
    rw [hq]
    have y1 : 0 ≤ x1 := of_decide_eq_true (q1.trans e1)
    clear hq he l1 l2 q1 q2 e1
    go_enter Tryz.func53, Tryz.ntmps53
    go_wp2_with fail
    refine (ho1 _ (by repeat (first | with_reducible exact Ext.refl _ | with_reducible refine Ext.alloc ?_ _ | with_reducible refine Below.drew ?_))).mono ?_
    rintro e w1 ⟨rfl, rfl⟩
    go_wp2_with fail
    refine bodyPost_ret (v := .tuple #[.agg #[.slice none 0 0, .slice none 0 0, .int .i64 0, .slice none 0 0, .int .i64 0, .int .i64 0, .int .i64 0, .int .i64 0], .int .i64 7]) (by simp [results, Tryz.results53, go_sem]) rfl ?_
    exact hfin 7 _ (Ext.alloc (Ext.refl w) _)
   | false =>
    have y1 : ¬ 0 ≤ x1 := of_decide_eq_false (q1.trans e1)
    cases e2 : outB 16777215 tp with
    | true =>
     rw [if_pos ⟨h1, h2⟩, if_neg (fun c => by rw [e2] at c; exact absurd c.2.1 (by decide))] at hq
     rw [hq]
     have y2 : 0 ≤ x2 := of_decide_eq_true (q2.trans e2)
     clear hq he l1 l2 q1 q2 e1 e2
     go_enter Tryz.func53, Tryz.ntmps53
     go_wp2_with fail
     refine (ho1 _ (by repeat (first | with_reducible exact Ext.refl _ | with_reducible refine Ext.alloc ?_ _ | with_reducible refine Below.drew ?_))).mono ?_
     rintro e w1 ⟨rfl, rfl⟩
     go_wp2_with fail
     refine (ho2 _ (by repeat (first | with_reducible exact Ext.refl _ | with_reducible refine Ext.alloc ?_ _ | with_reducible refine Below.drew ?_))).mono ?_
     rintro e w2 ⟨rfl, rfl⟩
     go_wp2_with fail
     refine bodyPost_ret (v := .tuple #[.agg #[.slice none 0 0, .slice none 0 0, .int .i64 0, .slice none 0 0, .int .i64 0, .int .i64 0, .int .i64 0, .int .i64 0], .int .i64 7]) (by simp [results, Tryz.results53, go_sem]) rfl ?_
     exact hfin 7 _ (Ext.alloc (Ext.refl w) _)
    | false =>
     have y2 : ¬ 0 ≤ x2 := of_decide_eq_false (q2.trans e2)
     cases e3 : addrB start with
     | true => exact absurd (by unfold beginQ; rw [l1, l2, if_pos ⟨h1, h2⟩, if_pos ⟨e1, e2, e3⟩]) he
     | false =>
      rw [if_pos ⟨h1, h2⟩, if_neg (fun c => by rw [e3] at c; exact absurd c.2.2 (by decide))] at hq
      rw [hq]
      clear hq he l1 l2 q1 q2 e1 e2
      go_enter Tryz.func53, Tryz.ntmps53
      go_wp2_with fail
      refine (ho1 _ (by repeat (first | with_reducible exact Ext.refl _ | with_reducible refine Ext.alloc ?_ _ | with_reducible refine Below.drew ?_))).mono ?_
      rintro e w1 ⟨rfl, rfl⟩
      go_wp2_with fail
      refine (ho2 _ (by repeat (first | with_reducible exact Ext.refl _ | with_reducible refine Ext.alloc ?_ _ | with_reducible refine Below.drew ?_))).mono ?_
      rintro e w2 ⟨rfl, rfl⟩
      go_wp2_with (go_at_call 46; refine (address_any _ _).mono ?_; rintro e w3 ⟨rfl, rfl⟩)
      refine bodyPost_ret (v := .tuple #[.agg #[.slice none 0 0, .slice none 0 0, .int .i64 0, .slice none 0 0, .int .i64 0, .int .i64 0, .int .i64 0, .int .i64 0], .int .i64 7]) (by simp [results, Tryz.results53, go_sem]) rfl ?_
      exact hfin 7 _ (Ext.alloc (Ext.refl w) _)
  ·rw [if_neg (fun c => h2 c.2)] at hq
   rw [hq]
   clear hq he l1 l2 ho1 ho2 q1 q2 r1 r2
   go_enter Tryz.func53, Tryz.ntmps53
   go_wp2_with fail
   refine bodyPost_ret (v := .tuple #[.agg #[.slice none 0 0, .slice none 0 0, .int .i64 0, .slice none 0 0, .int .i64 0, .int .i64 0, .int .i64 0, .int .i64 0], .int .i64 3]) (by simp [results, Tryz.results53, go_sem]) rfl ?_
   exact hfin 3 _ (Ext.alloc (Ext.refl w) _)
 ·rw [if_neg (fun c => h1 c.1)] at hq
  rw [hq]
  clear hq he l1 l2 ho1 ho2 q1 q2 r1 r2
  go_enter Tryz.func53, Tryz.ntmps53
  go_wp2_with fail
  refine bodyPost_ret (v := .tuple #[.agg #[.slice none 0 0, .slice none 0 0, .int .i64 0, .slice none 0 0, .int .i64 0, .int .i64 0, .int .i64 0, .int .i64 0], .int .i64 3]) (by simp [results, Tryz.results53, go_sem]) rfl ?_
  exact hfin 3 _ (Ext.alloc (Ext.refl w) _)
end Go.Proofs.YtnhpcoagkmgdoaaGreat
/- Contract: the reference's Begin, where it succeeds. -/
namespace Go.Proofs.YtnhpcoagkmgdoaaGreat
open Go.RowKit Go.Q
/-- the row of an append to an empty literal: where it lies -/
theorem run_app5 {P : Program} {w0 w : World} (t ty e : TypeId) (i : TypeInfo) (z : Value) (sz bytes : Nat) (ht : P.underlying t = some (.slice e)) (hi : P.info? e = some i) (hz : i.zero = some z) (hs : i.size = sz) (hb : i.bytes = bytes) (hzs : z.cells.size = sz) (hsz : 0 < sz)
  (v : Value) (n B : Nat) (xs : List Value) (hown : w.ownsRow B e sz v n xs) (hE : Ext w0 w) (hB0 : w0.heap.size ≤ B) (hB1 : B ≤ w.heap.size)
  (a : Option Addr) (m c : Nat) (news : List Value) (hl : news.length = m * sz) (hf : From w a news) (h1 : ∀ u ∈ news, u.oneCell' = true) (h63 : n + m ≤ maxLen) (hbytes : (n + m) * bytes ≤ 140737488355328) :
  ∃ (a' : Option Addr) (c' : Nat) (w' : World), (Builtin.append_ #[t, t] ty #[v, .slice a m c]).run P w = .ok (.slice a' (n + m) c') w' ∧ w'.ownsRow B e sz (.slice a' (n + m) c') (n + m) (xs ++ news) ∧ Ext w0 w' ∧ w.grownBy w' v.ownBlock ∧
   ((Value.slice a' (n + m) c').ownBlock = v.ownBlock ∨ (Value.slice a' (n + m) c').ownBlock = some w.heap.size) := by
 have hrow : ∀ k, v.ownBlock = some k → w0.heap.size ≤ k := fun k hk => Nat.le_trans hB0 (hown.lt k hk).1
 have fin : ∀ (v' : Value) (w' : World), w'.ownsRow B e sz v' (n + m) (xs ++ news) → ∃ a' c', v' = .slice a' (n + m) c' := by
  intro v' w' h
  rcases h.2 with ⟨h1, h2⟩ | ⟨g, cap, cur, h1, _⟩
  ·exact ⟨none, 0, by rw [h2]; exact h1⟩
  ·exact ⟨_, _, h1⟩
 cases a with
 | none =>
  have hn : news = [] := by
   rcases hf with h | ⟨ad, h, _⟩
   ·exact h
   ·cases h
  subst hn
  have hm : m = 0 := by
   rcases Nat.eq_zero_or_pos m with h | h
   ·exact h
   ·have : 0 < m * sz := Nat.mul_pos h hsz
    simp at hl; omega
  subst hm
  have ho : w.ownsRow B e sz v (n + 0) (xs ++ []) := by simpa using hown
  obtain ⟨a', c', hv⟩ := fin v w ho
  exact ⟨a', c', w, by rw [← hv]; exact run_app_nil t ty e ht hi hown c, by rw [← hv]; exact ho, hE, World.grownBy.refl w _, .inl (by rw [← hv])⟩
 | some ad =>
  have hc : ∀ j u, news[j]? = some u → w.cell? (ad.add j) = some u := by
   rcases hf with h | ⟨ad', h, hc⟩
   ·subst h; intro j u hu; simp at hu
   ·cases h; exact hc
  obtain ⟨v', w', hr, h2, h3, _, h5⟩ := run_append_own_at (P := P) w B t ty e i z sz bytes ht hi hz hs hb hzs hsz v n xs hown ad m c news hl hc h1 h63 hbytes hB1
  obtain ⟨a', c', hv⟩ := fin v' w' h2
  exact ⟨a', c', w', by rw [hr, hv], by rw [← hv]; exact h2, hE.grown h3 hE.size hrow, h3, by rw [← hv]; exact h5⟩
theorem step_app5 {P : Program} {w0 w : World} {ops : Array Oper} {o : Oper} {act : Act} {K : Act → World → Prop} {Q : Exit → Act → World → Prop} {E : Prop} (hgd : o.guard = none) (s x : Operand) (t : TypeId)
  (ho : o.op = .call { callee := .builtin .append, args := #[s, x], argTypes := #[t, t] })
  (e : TypeId) (i : TypeInfo) (z : Value) (sz bytes : Nat) (ht : P.underlying t = some (.slice e)) (hi : P.info? e = some i) (hz : i.zero = some z) (hs : i.size = sz) (hb : i.bytes = bytes) (hzs : z.cells.size = sz) (hsz : 0 < sz)
  (v : Value) (n B : Nat) (xs : List Value) (he : act.eval s = v) (hown : w.ownsRow B e sz v n xs) (hE : Ext w0 w) (hB0 : w0.heap.size ≤ B) (hB1 : B ≤ w.heap.size)
  (a : Option Addr) (m c : Nat) (news : List Value) (hx : act.eval x = .slice a m c) (hl : news.length = m * sz) (hf : From w a news) (h1 : ∀ u ∈ news, u.oneCell' = true) (h63 : n + m ≤ maxLen) (hbytes : (n + m) * bytes ≤ 140737488355328)
  (h : ∀ (a' : Option Addr) (c' : Nat) (w' : World), w.ownsRow B e sz v n xs → w'.ownsRow B e sz (.slice a' (n + m) c') (n + m) (xs ++ news) → Ext w0 w' → w.grownBy w' v.ownBlock → ((Value.slice a' (n + m) c').ownBlock = v.ownBlock ∨ (Value.slice a' (n + m) c').ownBlock = some w.heap.size) → K (act.put o.dst (.slice a' (n + m) c')) w') :
  if Region.wanted o (yielded ops act.tmps) = true then Oper.wp P o act w K Q else E := by
 rw [if_pos (by simp [Region.wanted, hgd])]
 obtain ⟨a', c', w', hr, h2, h3, h4, h5⟩ := run_app5 (P := P) t o.type e i z sz bytes ht hi hz hs hb hzs hsz v n B xs hown hE hB0 hB1 a m c news hl hf h1 h63 hbytes
 have hk := h a' c' w' hown h2 h3 h4 h5
 unfold Oper.wp execOp
 simp only [ho, resolve, invoke, builtin, Sem.run_bind, Sem.run_pure, Result.andThen_ok, List.map_toArray, List.map_cons, List.map_nil, he, hx, hr]
 exact hk
/-- an empty literal, its row said from B on -/
theorem own_emptyB {w w1 : World} {e : TypeId} {sz n B : Nat} (hn : w.heap.size = n) (hB : B ≤ n) (hE : Ext (w.alloc (.cells #[] e)) w1) : w1.ownsRow B e sz (.slice (some ⟨n, 0, none⟩) 0 0) 0 [] := by
 subst hn
 exact ⟨by simp, .inr ⟨w.heap.size, 0, #[], rfl, hB, (hE.block w.heap.size (by simp)).trans (heap_alloc_new w _), Nat.le_refl _, Nat.zero_le _, by simp, by simp⟩⟩
theorem far_block {w w' : World} {row : Option Nat} (hg : w.grownBy w' row) {k : Nat} {ob : Obj} (hk : w.heap[k]? = some ob) (hr : row ≠ some k) : w'.heap[k]? = some ob := by
 have hlt : k < w.heap.size := by
  rcases Nat.lt_or_ge k w.heap.size with h | h
  ·exact h
  ·rw [Array.getElem?_eq_none h] at hk; cases hk
 exact (hg.block k hlt (fun e => hr e.symm)).trans hk
/-- the box of Begin's state -/
abbrev bxc : Array Value := #[.slice none 0 0, .slice none 0 0, .int .i64 0, .slice none 0 0, .int .i64 0, .int .i64 0, .int .i64 0, .int .i64 0]
abbrev bx0 : Obj := .cells bxc 24 (0, 0)
theorem heap_new2 {X W : World} {ob : Obj} (E : Ext (X.alloc ob) W) : W.heap[X.heap.size]? = some ob := (E.block _ (by simp)).trans (heap_alloc_new X ob)
/-- a block of another type than the row's stays -/
theorem far_type {w w' : World} {B sz n k : Nat} {e T : TypeId} {v : Value} {xs : List Value} {cs : Array Value} (ho : w.ownsRow B e sz v n xs) (hg : w.grownBy w' v.ownBlock) (hT : T ≠ e) (hk : w.heap[k]? = some (.cells cs T (0, 0))) : w'.heap[k]? = some (.cells cs T (0, 0)) := by
 refine far_block hg hk (fun hr => ?_)
 rcases ho.2 with ⟨h1, _⟩ | ⟨g, cap, cur, h1, _, hh, _⟩
 ·rw [h1] at hr; cases hr
 ·rw [h1] at hr
  obtain rfl : g = k := by simpa [Value.ownBlock] using hr
  rw [hh] at hk
  simp only [Option.some.injEq, Obj.cells.injEq] at hk
  exact hT hk.2.1.symm
theorem heap_old {W : World} {ob ob' : Obj} {k : Nat} (h : W.heap[k]? = some ob) : (W.alloc ob').heap[k]? = some ob := by
 have hlt : k < W.heap.size := by
  rcases Nat.lt_or_ge k W.heap.size with h' | h'
  ·exact h'
  ·rw [Array.getElem?_eq_none h'] at h; cases h
 exact (Below.heap_alloc W ob' k hlt).trans h
def RBeg (n2 : Nat) (tp : List Int) (start : Int) (w : World) (s8 : Value) (wx : World) : Prop :=
 ∃ b g a c, s8 = .pointer (some ⟨b, 0, none⟩) ∧ wx.heap[b]? = some (.cells #[.slice (some ⟨g, 0, none⟩) 128 128, .slice a n2 c, .int .i64 0, .slice none 0 0, .int .i64 (start % 16), .int .i64 start, .int .i64 0, .int .i64 0] 24 (0, 0)) ∧
  wx.heap[g]? = some (.cells zz 3 (0, 0)) ∧ w.heap.size < g ∧ w.heap.size < b ∧ b ≠ g ∧ (∃ nn, wx.ownsRow nn 3 1 (.slice a n2 c) n2 (iv tp) ∧ w.heap.size < nn) ∧ (∀ k, a = some ⟨k, 0, none⟩ → k ≠ g ∧ k ≠ b) ∧ Ext (w.alloc bx0) wx
/-- a row of zeroes that was there before the append -/
theorem zz_far {X W w' : World} {e : Nat} {v : Value} (hg : W.grownBy w' (some e)) (hat : v.ownBlock = some e ∨ v.ownBlock = some W.heap.size) (E : Ext (X.alloc (.cells zz 3)) W) :
  e ≠ X.heap.size → w'.heap[X.heap.size]? = some (.cells zz 3 (0, 0)) ∧ v.ownBlock ≠ some X.heap.size := by
 intro hne
 refine ⟨far_block hg (heap_new2 E) (fun c => hne (Option.some.inj c)), fun c => ?_⟩
 have := E.size
 simp at this
 rcases hat with h | h
 ·rw [c] at h; exact hne (Option.some.inj h).symm
 ·rw [c] at h; have := Option.some.inj h; omega
theorem rb_mk {w w' wx : World} {a' : Option Addr} {c' b g n2 : Nat} {tp : List Int} {start : Int} (hown : w'.ownsRow (w.heap.size + 1) 3 1 (.slice a' (0 + n2) c') (0 + n2) ([] ++ iv tp))
  (HB : wx.heap[b]? = some (.cells #[.slice (some ⟨g, 0, none⟩) 128 128, .slice a' n2 c', .int .i64 0, .slice none 0 0, .int .i64 (start % 16), .int .i64 start, .int .i64 0, .int .i64 0] 24 (0, 0))) (HZ : wx.heap[g]? = some (.cells zz 3 (0, 0))) (hb : w.heap.size < b) (hg : w.heap.size < g)
  (hgn : (Value.slice a' (0 + n2) c').ownBlock ≠ some g) (hbn : (Value.slice a' (0 + n2) c').ownBlock ≠ some b) (hs : ∀ k, k < w'.heap.size → k ≠ b → wx.heap[k]? = w'.heap[k]?) (hE : Ext (w.alloc bx0) wx) :
  RBeg n2 tp start w (.pointer (some ⟨b, 0, none⟩)) wx := by
 rw [Nat.zero_add, List.nil_append] at hown
 rw [Nat.zero_add] at hgn hbn
 refine ⟨b, g, a', c', rfl, HB, HZ, hg, hb, ?_, ⟨w.heap.size + 1, own_later hown (fun k hk => hs k (own_lt hown hk) (fun e => hbn (by rw [hk, e]))), by omega⟩, fun k hk => ⟨fun e => hgn (by rw [hk, ← e]; rfl), fun e => hbn (by rw [hk, ← e]; rfl)⟩, hE⟩
 intro e
 subst e
 rw [HZ] at HB
 simp at HB
theorem row_type {w : World} {B e T n sz k : Nat} {v : Value} {xs : List Value} {cs : Array Value} (ho : w.ownsRow B e sz v n xs) (hT : T ≠ e) (hk : w.heap[k]? = some (.cells cs T (0, 0))) : v.ownBlock ≠ some k := by
 intro hr
 rcases ho.2 with ⟨h1, _⟩ | ⟨g, cap, cur, h1, _, hh, _⟩
 ·rw [h1] at hr; cases hr
 ·rw [h1] at hr
  obtain rfl : g = k := by simpa [Value.ownBlock] using hr
  rw [hh] at hk
  simp only [Option.some.injEq, Obj.cells.injEq] at hk
  exact hT hk.2.1.symm
section
variable {w w' : World} {a' : Option Addr} {c' b g n2 : Nat} {tp : List Int} {start : Int}
theorem ne_new (hown : w'.ownsRow (w.heap.size + 1) 3 1 (.slice a' (0 + n2) c') (0 + n2) ([] ++ iv tp)) {k : Nat} (hk : w'.heap.size ≤ k) : (Value.slice a' (0 + n2) c').ownBlock ≠ some k := fun e => by
 have := own_lt hown e; omega
/-- box and zeroes before the append -/
theorem rb1 (hE : Ext (w.alloc bx0) w') (hown : w'.ownsRow (w.heap.size + 1) 3 1 (.slice a' (0 + n2) c') (0 + n2) ([] ++ iv tp)) (HB : w'.heap[b]? = some (.cells bxc 24 (0, 0))) (hb : w.heap.size < b)
  (HZ : w'.heap[g]? = some (.cells zz 3 (0, 0)) ∧ (Value.slice a' (0 + n2) c').ownBlock ≠ some g) (hg : w.heap.size < g) :
  RBeg n2 tp start w (.pointer (some ⟨b, 0, none⟩)) ((((((((w'.setCell ⟨b, 0, none⟩ (.slice (some ⟨g, 0, none⟩) 128 128)).setCell ⟨b, 1, none⟩ (.slice a' n2 c')).setCell ⟨b, 2, none⟩ (.int .i64 0)).setCell ⟨b, 3, none⟩ (.slice none 0 0)).setCell ⟨b, 4, none⟩ (.int .i64 (start % 16))).setCell ⟨b, 5, none⟩ (.int .i64 start)).setCell ⟨b, 6, none⟩ (.int .i64 0)).setCell ⟨b, 7, none⟩ (.int .i64 0)) := by
 have hbg : g ≠ b := by intro e; subst e; rw [HB] at HZ; simp at HZ
 refine rb_mk hown (cells8 HB _ _ _ _ _ _ _ _) ((other8 w' b g hbg _ _ _ _ _ _ _ _).trans HZ.1) hb hg HZ.2 (row_type hown (by decide) HB) (fun k _ hk => other8 w' b k hk _ _ _ _ _ _ _ _) (ext_set8 hE (by simp; omega) _ _ _ _ _ _ _ _)
/-- the box before it, the zeroes behind it -/
theorem rb2 (hE : Ext (w.alloc bx0) w') (hown : w'.ownsRow (w.heap.size + 1) 3 1 (.slice a' (0 + n2) c') (0 + n2) ([] ++ iv tp)) (HB : w'.heap[b]? = some (.cells bxc 24 (0, 0))) (hb : w.heap.size < b) :
  RBeg n2 tp start w (.pointer (some ⟨b, 0, none⟩)) (((((((((w'.alloc (.cells zz 3)).setCell ⟨b, 0, none⟩ (.slice (some ⟨w'.heap.size, 0, none⟩) 128 128)).setCell ⟨b, 1, none⟩ (.slice a' n2 c')).setCell ⟨b, 2, none⟩ (.int .i64 0)).setCell ⟨b, 3, none⟩ (.slice none 0 0)).setCell ⟨b, 4, none⟩ (.int .i64 (start % 16))).setCell ⟨b, 5, none⟩ (.int .i64 start)).setCell ⟨b, 6, none⟩ (.int .i64 0)).setCell ⟨b, 7, none⟩ (.int .i64 0)) := by
 have hlt := lt_of_block HB
 have HB' := heap_old (ob' := .cells zz 3) HB
 have hz := hE.size
 simp at hz
 refine rb_mk (g := w'.heap.size) hown (cells8 HB' _ _ _ _ _ _ _ _) ((other8 _ b w'.heap.size (by omega) _ _ _ _ _ _ _ _).trans (heap_alloc_new w' _)) hb (by omega) (ne_new hown (Nat.le_refl _)) (row_type hown (by decide) HB) (fun k hk hk' => (other8 _ b k hk' _ _ _ _ _ _ _ _).trans (Below.heap_alloc w' _ k hk)) (ext_set8 (hE.alloc _) (by simp; omega) _ _ _ _ _ _ _ _)
/-- the box behind it -/
theorem rb3 (hE : Ext (w.alloc bx0) w') (hown : w'.ownsRow (w.heap.size + 1) 3 1 (.slice a' (0 + n2) c') (0 + n2) ([] ++ iv tp)) (HZ : w'.heap[g]? = some (.cells zz 3 (0, 0)) ∧ (Value.slice a' (0 + n2) c').ownBlock ≠ some g) (hg : w.heap.size < g) :
  RBeg n2 tp start w (.pointer (some ⟨w'.heap.size, 0, none⟩)) (w'.alloc (.cells #[.slice (some ⟨g, 0, none⟩) 128 128, .slice a' n2 c', .int .i64 0, .slice none 0 0, .int .i64 (start % 16), .int .i64 start, .int .i64 0, .int .i64 0] 24)) := by
 have hz := hE.size
 simp at hz
 exact rb_mk hown (heap_alloc_new w' _) (heap_old HZ.1) (by omega) hg HZ.2 (ne_new hown (Nat.le_refl _)) (fun k hk _ => Below.heap_alloc w' _ k hk) (hE.alloc _)
theorem rb4 (hE : Ext (w.alloc bx0) w') (hown : w'.ownsRow (w.heap.size + 1) 3 1 (.slice a' (0 + n2) c') (0 + n2) ([] ++ iv tp)) :
  RBeg n2 tp start w (.pointer (some ⟨w'.heap.size + 1, 0, none⟩)) ((w'.alloc (.cells zz 3)).alloc (.cells #[.slice (some ⟨w'.heap.size, 0, none⟩) 128 128, .slice a' n2 c', .int .i64 0, .slice none 0 0, .int .i64 (start % 16), .int .i64 start, .int .i64 0, .int .i64 0] 24)) := by
 have hz := hE.size
 simp at hz
 have h2 := heap_alloc_new (w'.alloc (.cells zz 3)) (.cells #[.slice (some ⟨w'.heap.size, 0, none⟩) 128 128, .slice a' n2 c', .int .i64 0, .slice none 0 0, .int .i64 (start % 16), .int .i64 start, .int .i64 0, .int .i64 0] 24)
 rw [World.size_alloc] at h2
 exact rb_mk (g := w'.heap.size) hown h2 (heap_old (heap_alloc_new w' _)) (by omega) (by omega) (ne_new hown (Nat.le_refl _)) (ne_new hown (by omega)) (fun k hk _ => (Below.heap_alloc _ _ k (by simp; omega)).trans (Below.heap_alloc w' _ k hk)) ((hE.alloc _).alloc _)
theorem rb5 (hE : Ext (w.alloc bx0) w') (hown : w'.ownsRow (w.heap.size + 1) 3 1 (.slice a' (0 + n2) c') (0 + n2) ([] ++ iv tp)) :
  RBeg n2 tp start w (.pointer (some ⟨w'.heap.size, 0, none⟩)) ((w'.alloc (.cells #[.slice (some ⟨w'.heap.size + 1, 0, none⟩) 128 128, .slice a' n2 c', .int .i64 0, .slice none 0 0, .int .i64 (start % 16), .int .i64 start, .int .i64 0, .int .i64 0] 24)).alloc (.cells zz 3)) := by
 have hz := hE.size
 simp at hz
 have h2 := heap_alloc_new (w'.alloc (.cells #[.slice (some ⟨w'.heap.size + 1, 0, none⟩) 128 128, .slice a' n2 c', .int .i64 0, .slice none 0 0, .int .i64 (start % 16), .int .i64 start, .int .i64 0, .int .i64 0] 24)) (.cells zz 3)
 rw [World.size_alloc] at h2
 exact rb_mk (g := w'.heap.size + 1) hown (heap_old (heap_alloc_new w' _)) h2 (by omega) (by omega) (ne_new hown (by omega)) (ne_new hown (Nat.le_refl _)) (fun k hk _ => (Below.heap_alloc _ _ k (by simp; omega)).trans (Below.heap_alloc w' _ k hk)) ((hE.alloc _).alloc _)
end
theorem fill_step (st : List Int) (k : Nat) (hk : k < st.length) (h : st.length ≤ 128) :
  (iv (st.take k ++ List.replicate (128 - k) 0)).toArray.setIfInBounds k (.int .i64 (st[k]?.getD 0)) = (iv (st.take (k + 1) ++ List.replicate (128 - (k + 1)) 0)).toArray := by
 have e : 128 - k = (128 - (k + 1)) + 1 := by omega
 have hl : (st.take k).length = k := by simp; omega
 rw [← Array.toArray_toList (xs := Array.setIfInBounds _ _ _), Array.toList_setIfInBounds]
 show (((iv _).set k (Value.int .i64 _))).toArray = _
 rw [iv_set, e, List.replicate_succ]
 congr 2
 rw [List.set_append_right _ _ (by omega), hl, Nat.sub_self, List.set_cons_zero, List.take_succ_eq_append_getElem hk, List.append_assoc, List.getElem?_eq_getElem hk]
 rfl
theorem fill_zero : zz = (iv (List.replicate 128 0)).toArray := by rw [← zz_list]
set_option maxHeartbeats 4000000 in
set_option maxRecDepth 100000 in
theorem rbegin_good (a1 a2 : Option Addr) (n1 n2 c1 c2 : Nat) (st tp : List Int) (start : Int) (w : World) (l1 : st.length = n1) (l2 : tp.length = n2) (h1 : n1 ≤ 128) (h2 : n2 ≤ 200)
  (i1 : IntsAt w a1 st) (i2 : IntsAt w a2 tp) (e1 : outB 16777215 st = false) (e2 : outB 16777215 tp = false) (e3 : addrB start = true) :
  Calls Tryz.prog 53 #[.slice a1 n1 c1, .slice a2 n2 c2, .int .i64 start] w (StRes (⟨st ++ List.replicate (128 - st.length) 0, tp, 0, [], start % 16, start, 0, 0⟩, 0) w) := by
 have ho1 := fun W (E : Ext w W) => odd_any a1 n1 c1 st W l1 (by omega) (i1.ext E)
 have ho2 := fun W (E : Ext w W) => odd_any a2 n2 c2 tp W l2 (by omega) (i2.ext E)
 have q1 := odd_out st
 have q2 := odd_out tp
 have y1 : ¬ 0 ≤ idxQ badW st := of_decide_eq_false (q1.trans e1)
 have y2 : ¬ 0 ≤ idxQ badW tp := of_decide_eq_false (q2.trans e2)
 have r1 := idxQ_lt badW st
 have r2 := idxQ_lt badW tp
 generalize idxQ badW st = x1 at *
 generalize idxQ badW tp = x2 at *
 have Hl1 := Lib.hid l1
 have Hl2 := Lib.hid l2
 have Hi2 := Lib.hid i2
 have Hi1 := Lib.hid i1
 have e3' : inB start 0 127 = true := e3
 obtain ⟨s0, s1⟩ := inB_bd e3'
 have hmk := make128
 obtain ⟨i0, hi, hz0, hz1, hz2⟩ := info_parts Tryz.infoE
 clear i1 i2 e1 e2 l1 l2 q1 q2
 go_enter Tryz.func53, Tryz.ntmps53
 go_wp2_with fail
 refine (ho1 _ (by repeat (first | with_reducible exact Ext.refl _ | with_reducible refine Ext.alloc ?_ _ | with_reducible refine Below.drew ?_))).mono ?_
 rintro e w1 ⟨rfl, rfl⟩
 go_wp2_with fail
 refine (ho2 _ (by repeat (first | with_reducible exact Ext.refl _ | with_reducible refine Ext.alloc ?_ _ | with_reducible refine Below.drew ?_))).mono ?_
 rintro e w2 ⟨rfl, rfl⟩
 clear ho1 ho2
 go_upto_region 5 with (go_at_call 46; refine (address_any _ _).mono ?_; rintro e w3 ⟨rfl, rfl⟩)
 go_cut [8] (fun s8 wx => RBeg n2 tp start w s8 wx)
 case first =>
  have hf2 := fun W (E : Ext w W) => from_ints (Hi2.out.ext E)
  go_region_law (refine step_app5 (w0 := w.alloc bx0) (by rfl) _ _ _ (by rfl) 3 i0 (.int .i64 0) 1 8 Tryz.underlying22 hi hz0 hz1 hz2 rfl (by omega) _ 0 (w.heap.size + 1) [] (by rfl) (by first | exact own_emptyB (by (simp; done)) (by (simp; done)) (Ext.refl _).drew | exact own_emptyB (by (simp; done)) (by (simp; done)) ((Ext.refl _).alloc _).drew | exact own_emptyB (by (simp; done)) (by (simp; done)) (((Ext.refl _).alloc _).alloc _).drew) (by repeat (first | with_reducible exact Ext.refl _ | with_reducible refine Ext.alloc ?_ _ | with_reducible refine Below.drew ?_)) (by simp) (by simp) a2 n2 c2 (iv tp) (by rfl) (by rw [iv_length]; have := Hl2.out; omega) (hf2 _ (by repeat (first | with_reducible exact Ext.refl _ | with_reducible refine Ext.alloc ?_ _ | with_reducible refine Below.drew ?_))) (iv_one tp) (by unfold maxLen; omega) (by omega) ?_; intro a' c' w' hown0 hown hE hgrow hat; (try (have HB := far_type hown0 hgrow (by decide) (heap_new2 (ob := bx0) (Ext.refl _).drew); simp only [World.size_alloc] at HB; have p0 := cell_of_cells HB 0 (v := .slice none 0 0) rfl; have x0 := free_of_cells HB 0; have s0a := fun ob => cell_of_cells (heap_old (ob' := ob) HB) 0 (v := .slice none 0 0) rfl; have t0a := fun ob => free_of_cells (heap_old (ob' := ob) HB) 0; have p1 := cell_of_cells HB 1 (v := .slice none 0 0) rfl; have x1 := free_of_cells HB 1; have s1a := fun ob => cell_of_cells (heap_old (ob' := ob) HB) 1 (v := .slice none 0 0) rfl; have t1a := fun ob => free_of_cells (heap_old (ob' := ob) HB) 1; have p2 := cell_of_cells HB 2 (v := .int .i64 0) rfl; have x2 := free_of_cells HB 2; have s2a := fun ob => cell_of_cells (heap_old (ob' := ob) HB) 2 (v := .int .i64 0) rfl; have t2a := fun ob => free_of_cells (heap_old (ob' := ob) HB) 2; have p3 := cell_of_cells HB 3 (v := .slice none 0 0) rfl; have x3 := free_of_cells HB 3; have s3a := fun ob => cell_of_cells (heap_old (ob' := ob) HB) 3 (v := .slice none 0 0) rfl; have t3a := fun ob => free_of_cells (heap_old (ob' := ob) HB) 3; have p4 := cell_of_cells HB 4 (v := .int .i64 0) rfl; have x4 := free_of_cells HB 4; have s4a := fun ob => cell_of_cells (heap_old (ob' := ob) HB) 4 (v := .int .i64 0) rfl; have t4a := fun ob => free_of_cells (heap_old (ob' := ob) HB) 4; have p5 := cell_of_cells HB 5 (v := .int .i64 0) rfl; have x5 := free_of_cells HB 5; have s5a := fun ob => cell_of_cells (heap_old (ob' := ob) HB) 5 (v := .int .i64 0) rfl; have t5a := fun ob => free_of_cells (heap_old (ob' := ob) HB) 5; have p6 := cell_of_cells HB 6 (v := .int .i64 0) rfl; have x6 := free_of_cells HB 6; have s6a := fun ob => cell_of_cells (heap_old (ob' := ob) HB) 6 (v := .int .i64 0) rfl; have t6a := fun ob => free_of_cells (heap_old (ob' := ob) HB) 6; have p7 := cell_of_cells HB 7 (v := .int .i64 0) rfl; have x7 := free_of_cells HB 7; have s7a := fun ob => cell_of_cells (heap_old (ob' := ob) HB) 7 (v := .int .i64 0) rfl; have t7a := fun ob => free_of_cells (heap_old (ob' := ob) HB) 7)); (try (have HB := far_type hown0 hgrow (by decide) (heap_new2 (ob := bx0) ((Ext.refl _).alloc _).drew); simp only [World.size_alloc] at HB; have p0 := cell_of_cells HB 0 (v := .slice none 0 0) rfl; have x0 := free_of_cells HB 0; have s0a := fun ob => cell_of_cells (heap_old (ob' := ob) HB) 0 (v := .slice none 0 0) rfl; have t0a := fun ob => free_of_cells (heap_old (ob' := ob) HB) 0; have p1 := cell_of_cells HB 1 (v := .slice none 0 0) rfl; have x1 := free_of_cells HB 1; have s1a := fun ob => cell_of_cells (heap_old (ob' := ob) HB) 1 (v := .slice none 0 0) rfl; have t1a := fun ob => free_of_cells (heap_old (ob' := ob) HB) 1; have p2 := cell_of_cells HB 2 (v := .int .i64 0) rfl; have x2 := free_of_cells HB 2; have s2a := fun ob => cell_of_cells (heap_old (ob' := ob) HB) 2 (v := .int .i64 0) rfl; have t2a := fun ob => free_of_cells (heap_old (ob' := ob) HB) 2; have p3 := cell_of_cells HB 3 (v := .slice none 0 0) rfl; have x3 := free_of_cells HB 3; have s3a := fun ob => cell_of_cells (heap_old (ob' := ob) HB) 3 (v := .slice none 0 0) rfl; have t3a := fun ob => free_of_cells (heap_old (ob' := ob) HB) 3; have p4 := cell_of_cells HB 4 (v := .int .i64 0) rfl; have x4 := free_of_cells HB 4; have s4a := fun ob => cell_of_cells (heap_old (ob' := ob) HB) 4 (v := .int .i64 0) rfl; have t4a := fun ob => free_of_cells (heap_old (ob' := ob) HB) 4; have p5 := cell_of_cells HB 5 (v := .int .i64 0) rfl; have x5 := free_of_cells HB 5; have s5a := fun ob => cell_of_cells (heap_old (ob' := ob) HB) 5 (v := .int .i64 0) rfl; have t5a := fun ob => free_of_cells (heap_old (ob' := ob) HB) 5; have p6 := cell_of_cells HB 6 (v := .int .i64 0) rfl; have x6 := free_of_cells HB 6; have s6a := fun ob => cell_of_cells (heap_old (ob' := ob) HB) 6 (v := .int .i64 0) rfl; have t6a := fun ob => free_of_cells (heap_old (ob' := ob) HB) 6; have p7 := cell_of_cells HB 7 (v := .int .i64 0) rfl; have x7 := free_of_cells HB 7; have s7a := fun ob => cell_of_cells (heap_old (ob' := ob) HB) 7 (v := .int .i64 0) rfl; have t7a := fun ob => free_of_cells (heap_old (ob' := ob) HB) 7)); (try (have HB := far_type hown0 hgrow (by decide) (heap_new2 (ob := bx0) (((Ext.refl _).alloc _).alloc _).drew); simp only [World.size_alloc] at HB; have p0 := cell_of_cells HB 0 (v := .slice none 0 0) rfl; have x0 := free_of_cells HB 0; have s0a := fun ob => cell_of_cells (heap_old (ob' := ob) HB) 0 (v := .slice none 0 0) rfl; have t0a := fun ob => free_of_cells (heap_old (ob' := ob) HB) 0; have p1 := cell_of_cells HB 1 (v := .slice none 0 0) rfl; have x1 := free_of_cells HB 1; have s1a := fun ob => cell_of_cells (heap_old (ob' := ob) HB) 1 (v := .slice none 0 0) rfl; have t1a := fun ob => free_of_cells (heap_old (ob' := ob) HB) 1; have p2 := cell_of_cells HB 2 (v := .int .i64 0) rfl; have x2 := free_of_cells HB 2; have s2a := fun ob => cell_of_cells (heap_old (ob' := ob) HB) 2 (v := .int .i64 0) rfl; have t2a := fun ob => free_of_cells (heap_old (ob' := ob) HB) 2; have p3 := cell_of_cells HB 3 (v := .slice none 0 0) rfl; have x3 := free_of_cells HB 3; have s3a := fun ob => cell_of_cells (heap_old (ob' := ob) HB) 3 (v := .slice none 0 0) rfl; have t3a := fun ob => free_of_cells (heap_old (ob' := ob) HB) 3; have p4 := cell_of_cells HB 4 (v := .int .i64 0) rfl; have x4 := free_of_cells HB 4; have s4a := fun ob => cell_of_cells (heap_old (ob' := ob) HB) 4 (v := .int .i64 0) rfl; have t4a := fun ob => free_of_cells (heap_old (ob' := ob) HB) 4; have p5 := cell_of_cells HB 5 (v := .int .i64 0) rfl; have x5 := free_of_cells HB 5; have s5a := fun ob => cell_of_cells (heap_old (ob' := ob) HB) 5 (v := .int .i64 0) rfl; have t5a := fun ob => free_of_cells (heap_old (ob' := ob) HB) 5; have p6 := cell_of_cells HB 6 (v := .int .i64 0) rfl; have x6 := free_of_cells HB 6; have s6a := fun ob => cell_of_cells (heap_old (ob' := ob) HB) 6 (v := .int .i64 0) rfl; have t6a := fun ob => free_of_cells (heap_old (ob' := ob) HB) 6; have p7 := cell_of_cells HB 7 (v := .int .i64 0) rfl; have x7 := free_of_cells HB 7; have s7a := fun ob => cell_of_cells (heap_old (ob' := ob) HB) 7 (v := .int .i64 0) rfl; have t7a := fun ob => free_of_cells (heap_old (ob' := ob) HB) 7)); (try (have HZ := zz_far hgrow hat (Ext.refl _).drew; simp only [World.size_alloc] at HZ; replace HZ := HZ (by omega))); (try (have HZ := zz_far hgrow hat ((Ext.refl _).alloc _).drew; simp only [World.size_alloc] at HZ; replace HZ := HZ (by omega))); (try (have HZ := zz_far hgrow hat (((Ext.refl _).alloc _).alloc _).drew; simp only [World.size_alloc] at HZ; replace HZ := HZ (by omega))); have HE := Lib.hid hE; have HO := Lib.hid hown; clear hE hown hown0 hgrow hat)
  all_goals
   go_wp2_with fail
   go_meet
   rw [Int.tmod_eq_emod_of_nonneg s0]
   first
    | with_reducible exact rb1 HE.out HO.out HB (by omega) HZ (by omega)
    | with_reducible exact rb2 HE.out HO.out HB (by omega)
    | with_reducible exact rb3 HE.out HO.out HZ (by omega)
    | with_reducible exact rb4 HE.out HO.out
    | with_reducible exact rb5 HE.out HO.out
 case rest =>
  obtain ⟨b, g, a, c, rfl, HB, HZ, hg, hb, hbg, ⟨nn, ho, hnn⟩, hdis, hE⟩ := hcut
  have HBB := Lib.hid HB
  have HZZ := Lib.hid HZ
  have HO := Lib.hid (And.intro ho hdis)
  have HE := Lib.hid hE
  clear HB HZ ho hdis hE
  go_wp2_with fail
  go_loopw [9] (fun s9 wr => ∃ k : Nat, k ≤ n1 ∧ s9 = .int .i64 k ∧ Aside (wr.heap[g]? = some (.cells (iv (st.take k ++ List.replicate (128 - k) 0)).toArray 3 (0, 0))) ∧ Aside (Chg (fun j => j = g) wc wr)) (fun s9 _ => n1 - (intOf s9).toNat)
  case atStart => exact ⟨0, Nat.zero_le _, rfl, (show wc.heap[g]? = some (.cells (iv (List.replicate 128 0)).toArray 3 (0, 0)) from by rw [← fill_zero]; exact HZZ.out), Chg.refl _ _⟩
  case round =>
   obtain ⟨k, hk, rfl, HG, HC⟩ := hrel
   have E2 : Ext (w.alloc bx0) wr := HE.out.trans (HC.out.below (n := (w.alloc bx0).heap.size) (fun j hj => by simp; omega) HE.out.size)
   have HB2 : wr.heap[b]? = some (.cells #[.slice (some ⟨g, 0, none⟩) 128 128, .slice a n2 c, .int .i64 0, .slice none 0 0, .int .i64 (start % 16), .int .i64 start, .int .i64 0, .int .i64 0] 24 (0, 0)) :=
    (HC.out.block b (lt_of_block HBB.out) hbg).trans HBB.out
   by_cases hlt : k < n1
   ·have hltz : (k : Int) < (n1 : Int) := by omega
    have hk0 : (0 : Int) ≤ (k : Int) := by omega
    have hk1 : (k : Int) < 128 := by omega
    rcases Hi1.out with e | ⟨b1, off, rfl, hb1, hc1⟩
    ·have := Hl1.out; rw [e] at this; simp at this; omega
    have p0 := cell_of_cells HB2 0 (v := .slice (some ⟨g, 0, none⟩) 128 128) rfl
    have q0 : wr.cell? ⟨b1, off + k, none⟩ = some (.int .i64 (st[k]?.getD 0)) := (E2.old.cell (p := ⟨b1, off + k, none⟩) hb1).trans (hc1 k (by have := Hl1.out; omega))
    have hlen : k < (iv (st.take k ++ List.replicate (128 - k) 0)).length := by have := Hl1.out; rw [iv_length, List.length_append, List.length_take, List.length_replicate]; omega
    have u0 := cell_of_cells HG.out k (v := (iv (st.take k ++ List.replicate (128 - k) 0))[k]) (by rw [List.getElem?_toArray, List.getElem?_eq_getElem hlen])
    have f0 := free_of_cells HG.out k
    have HS := Lib.hid (fill_step st k (by have := Hl1.out; omega) (by have := Hl1.out; omega))
    have HK := Lib.hid (cells_set HG.out k (.int .i64 (st[k]?.getD 0)))
    generalize (iv (st.take k ++ List.replicate (128 - k) 0))[k] = u at u0
    generalize hx : st[k]?.getD 0 = x at q0 HS HK
    clear HB2 hc1 hx hlen
    go_wp2_with fail
    go_region
    go_wp2_with fail
    go_roundw
    case rel =>
     refine ⟨k + 1, by omega, by go_num, ?_, ?_⟩
     ·have e := HK.out
      rw [HS.out] at e
      exact e
     ·exact (HC.out.trans (Chg.heapEq rfl rfl rfl rfl : Chg _ wr wr.drew)).setCell _ rfl _
    case measure => simp [intOf]; omega
   ·have hltz : ¬ (k : Int) < (n1 : Int) := by omega
    obtain rfl : k = n1 := by omega
    have p0 := cell_of_cells HB2 0 (v := .slice (some ⟨g, 0, none⟩) 128 128) rfl
    have p1 := cell_of_cells HB2 1 (v := .slice a n2 c) rfl
    have p2 := cell_of_cells HB2 2 (v := .int .i64 0) rfl
    have p3 := cell_of_cells HB2 3 (v := .slice none 0 0) rfl
    have p4 := cell_of_cells HB2 4 (v := .int .i64 (start % 16)) rfl
    have p5 := cell_of_cells HB2 5 (v := .int .i64 start) rfl
    have p6 := cell_of_cells HB2 6 (v := .int .i64 0) rfl
    have p7 := cell_of_cells HB2 7 (v := .int .i64 0) rfl
    have q0 := box_at (v := .slice none 0 0) E2 0 rfl
    have f0 := box_free E2 0
    have q1 := box_at (v := .slice none 0 0) E2 1 rfl
    have f1 := box_free E2 1
    have q2 := box_at (v := .int .i64 0) E2 2 rfl
    have f2 := box_free E2 2
    have q3 := box_at (v := .slice none 0 0) E2 3 rfl
    have f3 := box_free E2 3
    have q4 := box_at (v := .int .i64 0) E2 4 rfl
    have f4 := box_free E2 4
    have q5 := box_at (v := .int .i64 0) E2 5 rfl
    have f5 := box_free E2 5
    have q6 := box_at (v := .int .i64 0) E2 6 rfl
    have f6 := box_free E2 6
    have q7 := box_at (v := .int .i64 0) E2 7 rfl
    have f7 := box_free E2 7
    have HE2 := Lib.hid E2
    have HB3 := Lib.hid HB2
    clear E2 HB2
    go_wp2_with fail
    refine bodyPost_ret (v := .tuple #[.agg #[.slice (some ⟨g, 0, none⟩) 128 128, .slice a n2 c, .int .i64 0, .slice none 0 0, .int .i64 (start % 16), .int .i64 start, .int .i64 0, .int .i64 0], .int .i64 0]) (by simp [results, Tryz.results53, go_sem, q0, q1, q2, q3, q4, q5, q6, q7]) rfl ?_
    obtain ⟨ho, hdis⟩ := HO.out
    have hfull : (st ++ List.replicate (128 - st.length) 0).length = 128 := by
     have := Hl1.out
     rw [List.length_append, List.length_replicate]; omega
    have hG : wr.heap[g]? = some (.cells (iv (st ++ List.replicate (128 - st.length) 0)).toArray 3 (0, 0)) := by
     have := HG.out
     rw [List.take_of_length_le (by have := Hl1.out; omega)] at this
     rw [Hl1.out]; exact this
    refine ⟨_, rfl, ⟨some ⟨g, 0, none⟩, a, none, 128, c, 0, ?_, .inr ⟨g, 0, rfl, ?_, fun i hi => ?_⟩, ?_, .inl rfl⟩, ext_set8 HE2.out.old (Nat.le_refl _) _ _ _ _ _ _ _ _⟩
    ·show _ = sv _ _ _ (st ++ List.replicate (128 - st.length) 0).length _ tp.length _ ([] : List Int).length _ _ _ _ _ _
     rw [hfull, Hl2.out]
     rfl
    ·exact lt_of_block ((other8 wr w.heap.size g (by omega) _ _ _ _ _ _ _ _).trans hG)
    ·rw [Nat.zero_add]
     refine cell_of_cells ((other8 wr w.heap.size g (by omega) _ _ _ _ _ _ _ _).trans hG) i ?_
     rw [List.getElem?_toArray]
     exact iv_get _ i hi
    ·have hn : tp.length = n2 := Hl2.out
     refine own_ints (nb := nn) (t := 3) (n := n2) (c := c) (own_later ho (fun k hk => ?_))
     have hkk := own_at ho hk
     have hab : a = some ⟨k, 0, none⟩ := by
      rcases ho.2 with ⟨h1, _⟩ | ⟨g', cap', cur', h1, _⟩
      ·rw [(Value.slice.inj h1).1] at hk; cases hk
      ·have e := (Value.slice.inj h1).1
       rw [e] at hk ⊢
       have : g' = k := by simpa [Value.ownBlock] using hk
       rw [this]
     exact (other8 wr w.heap.size k (by omega) _ _ _ _ _ _ _ _).trans (HC.out.block k hkk.2 (hdis k hab).1)
theorem rbegin_any (a1 a2 : Option Addr) (n1 n2 c1 c2 : Nat) (st tp : List Int) (start : Int) (w : World) (l1 : st.length = n1) (l2 : tp.length = n2) (b1 : n1 ≤ 9223372036854775807) (b2 : n2 ≤ 9223372036854775807)
  (i1 : IntsAt w a1 st) (i2 : IntsAt w a2 tp) :
  Calls Tryz.prog 53 #[.slice a1 n1 c1, .slice a2 n2 c2, .int .i64 start] w (StRes (beginQ st tp start) w) := by
 by_cases h : (beginQ st tp start).2 = 0
 ·by_cases h1 : st.length ≤ 128 ∧ tp.length ≤ 200
  ·by_cases h2 : outB 16777215 st = false ∧ outB 16777215 tp = false ∧ addrB start = true
   ·have e : beginQ st tp start = (⟨st ++ List.replicate (128 - st.length) 0, tp, 0, [], start % 16, start, 0, 0⟩, 0) := by unfold beginQ; rw [if_pos h1, if_pos h2]
    rw [e]
    exact rbegin_good a1 a2 n1 n2 c1 c2 st tp start w l1 l2 (by omega) (by omega) i1 i2 h2.1 h2.2.1 h2.2.2
   ·unfold beginQ at h; rw [if_pos h1, if_neg h2] at h; exact absurd h (by decide)
  ·unfold beginQ at h; rw [if_neg h1] at h; exact absurd h (by decide)
 ·exact rbegin_bad a1 a2 n1 n2 c1 c2 st tp start w l1 l2 b1 b2 i1 i2 h
end Go.Proofs.YtnhpcoagkmgdoaaGreat

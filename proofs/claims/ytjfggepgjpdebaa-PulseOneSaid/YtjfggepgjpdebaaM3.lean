import Derived.Deep.DeepCutAuto
import Derived.WalkArith
import Derived.Deep.RegionLaw
import Derived.Laws.EntriesVeiled
import Derived.Test.YtjfggepgjpdebaaM2
set_option linter.unusedVariables false
set_option linter.unusedSimpArgs false
/- Contract: pulse's control: fetch. -/
namespace Go.Proofs.Ytjfggepgjpdebaa
open Go.RowKit Go.Q
variable {nb m g1 c1 : Nat} {tv pv : Value} {s : Pu}
/-- the order is stored into the control -/
theorem Ctl.setOrd {w : World} {s : Pu} {o : Ord} (h : Ctl w nb m g1 c1 tv pv s o) (o' : Ord) :
    Ctl ((((w.setCell ⟨m, 14, none⟩ (.int .i64 o'.op)).setCell ⟨m, 15, none⟩ (.int .i64 o'.frm)).setCell ⟨m, 16, none⟩ (.int .i64 o'.to)).setCell ⟨m, 17, none⟩ (.int .i64 o'.nxt)) nb m g1 c1 tv pv s o' :=
  (((h.setm 14 _ s ⟨o'.op, o.frm, o.to, o.nxt⟩ rfl rfl rfl rfl).setm 15 _ s ⟨o'.op, o'.frm, o.to, o.nxt⟩ rfl rfl rfl rfl).setm 16 _ s ⟨o'.op, o'.frm, o'.to, o.nxt⟩ rfl rfl rfl rfl).setm 17 _ s o' rfl rfl rfl rfl
theorem PRes.ext {s' : Pu} {o' : Ord} {w W W' : World} {e : Ending} (h : PRes nb m g1 c1 tv pv s' o' w e W) (hE : Ext W W') : PRes nb m g1 c1 tv pv s' o' w e W' := by
  obtain ⟨he, pv', hM, hC, hp⟩ := h
  exact ⟨he, pv', hM.ext hE, hC.ext hE, hp⟩
theorem fetch_end {w w1 W : World} (h : Ctl w1 nb m g1 c1 tv pv s (ordP s)) (hE : Ext w w1) (hW : Ext w1 W) {k : Int} :
    PRes nb m g1 c1 tv pv { s with why := k } (ordP s) w (.returned (.tuple #[])) (W.setCell ⟨m, 13, none⟩ (.int .i64 k)) :=
  ⟨rfl, pv, (h.ext hW).setm 13 _ _ _ rfl rfl rfl rfl, (Chg.of_ext (hE.comp hW)).setCell _ (.inl rfl) _, .inl rfl⟩
theorem Chg.set4' {S : Nat → Prop} {a w : World} (h : Chg S a w) (m : Nat) (hm : S m) (i j k l : Nat) (x y z u : Value) :
    Chg S a ((((w.setCell ⟨m, i, none⟩ x).setCell ⟨m, j, none⟩ y).setCell ⟨m, k, none⟩ z).setCell ⟨m, l, none⟩ u) :=
  (((h.setCell _ hm _).setCell _ hm _).setCell _ hm _).setCell _ hm _
theorem fetch_go {w w1 W : World} (h : Ctl w1 nb m g1 c1 tv pv s (ordP s)) (hE : Ext w w1) (hW : Ext w1 W) (x : Int) (o' : Ord) :
    PRes nb m g1 c1 tv pv { s with order := x, phase := 1 } o' w (.returned (.tuple #[])) ((((((W.setCell ⟨m, 7, none⟩ (.int .i64 x)).setCell ⟨m, 14, none⟩ (.int .i64 o'.op)).setCell ⟨m, 15, none⟩ (.int .i64 o'.frm)).setCell ⟨m, 16, none⟩ (.int .i64 o'.to)).setCell ⟨m, 17, none⟩ (.int .i64 o'.nxt)).setCell ⟨m, 6, none⟩ (.int .i64 1)) :=
  ⟨rfl, pv, (((h.ext hW).setm 7 _ { s with order := x } _ rfl rfl rfl rfl).setOrd o').setm 6 _ _ _ rfl rfl rfl rfl, (Chg.set4' ((Chg.of_ext (S := Own3 m g1 pv) (hE.comp hW)).setCell _ (.inl rfl) _) m (Or.inl rfl) _ _ _ _ _ _ _ _).setCell _ (.inl rfl) _, .inl rfl⟩
theorem fetch_go2 {w w1 W : World} (h : Ctl w1 nb m g1 c1 tv pv s (ordP s)) (hE : Ext w w1) (hW : Ext w1 W) (x : Int) (o' : Ord) :
    PRes nb m g1 c1 tv pv { s with order := x, phase := 2 } o' w (.returned (.tuple #[])) (((((((W.setCell ⟨m, 7, none⟩ (.int .i64 x)).setCell ⟨m, 14, none⟩ (.int .i64 o'.op)).setCell ⟨m, 15, none⟩ (.int .i64 o'.frm)).setCell ⟨m, 16, none⟩ (.int .i64 o'.to)).setCell ⟨m, 17, none⟩ (.int .i64 o'.nxt)).setCell ⟨m, 6, none⟩ (.int .i64 1)).setCell ⟨m, 6, none⟩ (.int .i64 2)) := by
  obtain ⟨_, pv', hM, hC, hp⟩ := fetch_go h hE hW x o'
  exact ⟨rfl, pv', hM.setm 6 _ _ _ rfl rfl rfl rfl, hC.setCell _ (.inl rfl) _, hp⟩
set_option maxRecDepth 100000 in
set_option maxHeartbeats 4000000 in
theorem fetch_any (x : Int) (w : World) (h : Ctl w nb m g1 c1 tv pv s (ordP s)) (hv : ValidP s) (hw : 0 ≤ x ∧ x ≤ 16777215) (hy : s.why = 0) :
    Calls Try.prog 125 #[.pointer (some ⟨m, 0, none⟩), .int .i64 x] w (PRes nb m g1 c1 tv pv (fetchP s x) (ordP (fetchP s x)) w) := by
  have hd := fun W => decodeE_any x W
  have ho := ordB_decode hw.1 hw.2
  have hdq : decQ x = (decodeQ x, 0) := by unfold decQ; rw [if_pos (by simp only [wordB, inB, Bool.and_eq_true, decide_eq_true_eq]; exact hw)]
  rw [hdq] at hd
  unfold ovE at hd
  have hpl := hv.plen
  have htl := hv.tlen
  obtain ⟨tk0, tk1⟩ := hv.taken
  obtain ⟨at_, ct, htv, _⟩ := h.tape
  obtain ⟨ap, cp, hpv⟩ := h.paper
  subst htv
  subst hpv
  have H := Lib.hid h
  have lm := h.ltm
  have hw13 : ∀ k : Int, whyP s (decodeQ x) = k → k ≠ 0 → fetchP s x = { s with why := k } ∧ ordP (fetchP s x) = ordP s := by
    intro k hk hn
    have e : fetchP s x = { s with why := k } := by unfold fetchP; rw [hk, if_pos hn]
    exact ⟨e, by rw [e]; rfl⟩
  have hgo : whyP s (decodeQ x) = 0 → fetchP s x = { s with order := x, phase := if (decodeQ x).op = 6 then 2 else 1 } ∧ ordP (fetchP s x) = decodeQ x := by
    intro hk
    have e : fetchP s x = { s with order := x, phase := if (decodeQ x).op = 6 then 2 else 1 } := by unfold fetchP; rw [hk, if_neg (by decide)]
    exact ⟨e, by rw [e]; rfl⟩
  have hwhy : whyP s (decodeQ x) = if (decodeQ x).op = 0 then 1 else if (decodeQ x).op = 6 ∧ s.taken = s.tape.length then 2 else if (decodeQ x).op = 7 ∧ s.printed.length = 200 then 3 else 0 := rfl
  clear hdq h hv
  generalize decodeQ x = o at *
  obtain ⟨op, fr, tt, nx⟩ := o
  dsimp only at hwhy hgo hd
  by_cases h0 : op = 0
  · subst h0
    rw [if_pos rfl] at hwhy
    obtain ⟨e1, e2⟩ := hw13 _ hwhy (by decide)
    rw [e2, e1]
    clear hw13 hgo hwhy e1 e2 ho
    go_enter Try.func125, Try.ntmps125
    go_wp2_with fail
    refine (hd _).mono ?_
    rintro e w1 ⟨rfl, E1⟩
    have M1 := H.out.ext E1
    have lm1 : m < w1.heap.size := Nat.lt_of_lt_of_le lm E1.size
    have q1 := M1.c 1 (v := .slice at_ s.tape.length ct) rfl
    have q2 := M1.c 2 (v := .int .i64 s.taken) rfl
    have q3 := M1.c 3 (v := .slice ap s.printed.length cp) rfl
    have q6 := M1.c 6 (v := .int .i64 s.phase) rfl
    have q7 := M1.c 7 (v := .int .i64 s.order) rfl
    have q13 := M1.c 13 (v := .int .i64 0) (by rw [← hy]; rfl)
    have q14 := M1.c 14 (v := .int .i64 (ordP s).op) rfl
    have q15 := M1.c 15 (v := .int .i64 (ordP s).frm) rfl
    have q16 := M1.c 16 (v := .int .i64 (ordP s).to) rfl
    have q17 := M1.c 17 (v := .int .i64 (ordP s).nxt) rfl
    have f6 := M1.f 6
    have f7 := M1.f 7
    have f13 := M1.f 13
    have f14 := M1.f 14
    have f15 := M1.f 15
    have f16 := M1.f 16
    have f17 := M1.f 17
    have HM := Lib.hid M1
    clear M1
    go_wp2_with fail
    go_end0
    exact (fetch_end HM.out E1 (Ext.refl _)).ext ((Ext.refl _).alloc _)
  · have b0 : (op == 0) = false := by simpa using h0
    rw [if_neg h0] at hwhy
    by_cases h6 : op = 6
    · subst h6
      by_cases ht : s.taken = s.tape.length
      · have bt : (s.taken == (s.tape.length : Int)) = true := by simpa using ht
        rw [if_pos ⟨rfl, ht⟩] at hwhy
        obtain ⟨e1, e2⟩ := hw13 _ hwhy (by decide)
        rw [e2, e1]
        clear hw13 hgo hwhy e1 e2 ho ht h0
        go_enter Try.func125, Try.ntmps125
        go_wp2_with fail
        refine (hd _).mono ?_
        rintro e w1 ⟨rfl, E1⟩
        have M1 := H.out.ext E1
        have lm1 : m < w1.heap.size := Nat.lt_of_lt_of_le lm E1.size
        have q1 := M1.c 1 (v := .slice at_ s.tape.length ct) rfl
        have q2 := M1.c 2 (v := .int .i64 s.taken) rfl
        have q3 := M1.c 3 (v := .slice ap s.printed.length cp) rfl
        have q6 := M1.c 6 (v := .int .i64 s.phase) rfl
        have q7 := M1.c 7 (v := .int .i64 s.order) rfl
        have q13 := M1.c 13 (v := .int .i64 0) (by rw [← hy]; rfl)
        have q14 := M1.c 14 (v := .int .i64 (ordP s).op) rfl
        have q15 := M1.c 15 (v := .int .i64 (ordP s).frm) rfl
        have q16 := M1.c 16 (v := .int .i64 (ordP s).to) rfl
        have q17 := M1.c 17 (v := .int .i64 (ordP s).nxt) rfl
        have f6 := M1.f 6
        have f7 := M1.f 7
        have f13 := M1.f 13
        have f14 := M1.f 14
        have f15 := M1.f 15
        have f16 := M1.f 16
        have f17 := M1.f 17
        have HM := Lib.hid M1
        clear M1
        go_wp2_with fail
        go_quiet (fail)
        go_wp2_with fail
        go_end0
        exact fetch_end HM.out E1 (below_drewN ((Ext.refl w1).alloc _) _)
      · have bt : (s.taken == (s.tape.length : Int)) = false := by simpa using ht
        rw [if_neg (fun c => ht c.2), if_neg (fun c => absurd c.1 (by decide))] at hwhy
        obtain ⟨e1, e2⟩ := hgo hwhy
        rw [if_pos rfl] at e1
        rw [e1] at e2 ⊢
        rw [e2]
        clear hw13 hgo hwhy e1 e2 ho ht h0
        go_enter Try.func125, Try.ntmps125
        go_wp2_with fail
        refine (hd _).mono ?_
        rintro e w1 ⟨rfl, E1⟩
        have M1 := H.out.ext E1
        have lm1 : m < w1.heap.size := Nat.lt_of_lt_of_le lm E1.size
        have q1 := M1.c 1 (v := .slice at_ s.tape.length ct) rfl
        have q2 := M1.c 2 (v := .int .i64 s.taken) rfl
        have q3 := M1.c 3 (v := .slice ap s.printed.length cp) rfl
        have q6 := M1.c 6 (v := .int .i64 s.phase) rfl
        have q7 := M1.c 7 (v := .int .i64 s.order) rfl
        have q13 := M1.c 13 (v := .int .i64 0) (by rw [← hy]; rfl)
        have q14 := M1.c 14 (v := .int .i64 (ordP s).op) rfl
        have q15 := M1.c 15 (v := .int .i64 (ordP s).frm) rfl
        have q16 := M1.c 16 (v := .int .i64 (ordP s).to) rfl
        have q17 := M1.c 17 (v := .int .i64 (ordP s).nxt) rfl
        have f6 := M1.f 6
        have f7 := M1.f 7
        have f13 := M1.f 13
        have f14 := M1.f 14
        have f15 := M1.f 15
        have f16 := M1.f 16
        have f17 := M1.f 17
        have HM := Lib.hid M1
        clear M1
        go_wp2_with fail
        go_quiet (fail)
        go_wp2_with fail
        go_region
        go_wp2_with fail
        go_end0
        exact fetch_go2 HM.out E1 (below_drewN ((Ext.refl w1).alloc _) _) x ⟨6, fr, tt, nx⟩
    · have b6 : (op == 6) = false := by simpa using h6
      rw [if_neg (fun c => h6 c.1)] at hwhy
      by_cases h7 : op = 7
      · subst h7
        by_cases hp : s.printed.length = 200
        · have bp : ((s.printed.length : Int) == 200) = true := by have : (s.printed.length : Int) = 200 := by omega
                                                                   simpa using this
          rw [if_pos ⟨rfl, hp⟩] at hwhy
          obtain ⟨e1, e2⟩ := hw13 _ hwhy (by decide)
          rw [e2, e1]
          clear hw13 hgo hwhy e1 e2 ho hp h0 h6
          go_enter Try.func125, Try.ntmps125
          go_wp2_with fail
          refine (hd _).mono ?_
          rintro e w1 ⟨rfl, E1⟩
          have M1 := H.out.ext E1
          have lm1 : m < w1.heap.size := Nat.lt_of_lt_of_le lm E1.size
          have q1 := M1.c 1 (v := .slice at_ s.tape.length ct) rfl
          have q2 := M1.c 2 (v := .int .i64 s.taken) rfl
          have q3 := M1.c 3 (v := .slice ap s.printed.length cp) rfl
          have q6 := M1.c 6 (v := .int .i64 s.phase) rfl
          have q7 := M1.c 7 (v := .int .i64 s.order) rfl
          have q13 := M1.c 13 (v := .int .i64 0) (by rw [← hy]; rfl)
          have q14 := M1.c 14 (v := .int .i64 (ordP s).op) rfl
          have q15 := M1.c 15 (v := .int .i64 (ordP s).frm) rfl
          have q16 := M1.c 16 (v := .int .i64 (ordP s).to) rfl
          have q17 := M1.c 17 (v := .int .i64 (ordP s).nxt) rfl
          have f6 := M1.f 6
          have f7 := M1.f 7
          have f13 := M1.f 13
          have f14 := M1.f 14
          have f15 := M1.f 15
          have f16 := M1.f 16
          have f17 := M1.f 17
          have HM := Lib.hid M1
          clear M1
          go_wp2_with fail
          go_quiet (fail)
          go_wp2_with fail
          go_end0
          exact fetch_end HM.out E1 (below_drewN ((Ext.refl w1).alloc _) _)
        · have bp : ((s.printed.length : Int) == 200) = false := by have : ¬ (s.printed.length : Int) = 200 := by omega
                                                                    simpa using this
          rw [if_neg (fun c => hp c.2)] at hwhy
          obtain ⟨e1, e2⟩ := hgo hwhy
          rw [if_neg h6] at e1
          rw [e1] at e2 ⊢
          rw [e2]
          clear hw13 hgo hwhy e1 e2 ho hp h0 h6
          go_enter Try.func125, Try.ntmps125
          go_wp2_with fail
          refine (hd _).mono ?_
          rintro e w1 ⟨rfl, E1⟩
          have M1 := H.out.ext E1
          have lm1 : m < w1.heap.size := Nat.lt_of_lt_of_le lm E1.size
          have q1 := M1.c 1 (v := .slice at_ s.tape.length ct) rfl
          have q2 := M1.c 2 (v := .int .i64 s.taken) rfl
          have q3 := M1.c 3 (v := .slice ap s.printed.length cp) rfl
          have q6 := M1.c 6 (v := .int .i64 s.phase) rfl
          have q7 := M1.c 7 (v := .int .i64 s.order) rfl
          have q13 := M1.c 13 (v := .int .i64 0) (by rw [← hy]; rfl)
          have q14 := M1.c 14 (v := .int .i64 (ordP s).op) rfl
          have q15 := M1.c 15 (v := .int .i64 (ordP s).frm) rfl
          have q16 := M1.c 16 (v := .int .i64 (ordP s).to) rfl
          have q17 := M1.c 17 (v := .int .i64 (ordP s).nxt) rfl
          have f6 := M1.f 6
          have f7 := M1.f 7
          have f13 := M1.f 13
          have f14 := M1.f 14
          have f15 := M1.f 15
          have f16 := M1.f 16
          have f17 := M1.f 17
          have HM := Lib.hid M1
          clear M1
          go_wp2_with fail
          go_quiet (fail)
          go_wp2_with fail
          go_region
          go_wp2_with fail
          go_end0
          exact fetch_go HM.out E1 (below_drewN ((Ext.refl w1).alloc _) _) x ⟨7, fr, tt, nx⟩
      · have b7 : (op == 7) = false := by simpa using h7
        rw [if_neg (fun c => h7 c.1)] at hwhy
        obtain ⟨e1, e2⟩ := hgo hwhy
        rw [if_neg h6] at e1
        rw [e1] at e2 ⊢
        rw [e2]
        clear hw13 hgo hwhy e1 e2 ho h0 h6 h7
        go_enter Try.func125, Try.ntmps125
        go_wp2_with fail
        refine (hd _).mono ?_
        rintro e w1 ⟨rfl, E1⟩
        have M1 := H.out.ext E1
        have lm1 : m < w1.heap.size := Nat.lt_of_lt_of_le lm E1.size
        have q1 := M1.c 1 (v := .slice at_ s.tape.length ct) rfl
        have q2 := M1.c 2 (v := .int .i64 s.taken) rfl
        have q3 := M1.c 3 (v := .slice ap s.printed.length cp) rfl
        have q6 := M1.c 6 (v := .int .i64 s.phase) rfl
        have q7 := M1.c 7 (v := .int .i64 s.order) rfl
        have q13 := M1.c 13 (v := .int .i64 0) (by rw [← hy]; rfl)
        have q14 := M1.c 14 (v := .int .i64 (ordP s).op) rfl
        have q15 := M1.c 15 (v := .int .i64 (ordP s).frm) rfl
        have q16 := M1.c 16 (v := .int .i64 (ordP s).to) rfl
        have q17 := M1.c 17 (v := .int .i64 (ordP s).nxt) rfl
        have f6 := M1.f 6
        have f7 := M1.f 7
        have f13 := M1.f 13
        have f14 := M1.f 14
        have f15 := M1.f 15
        have f16 := M1.f 16
        have f17 := M1.f 17
        have HM := Lib.hid M1
        clear M1
        go_wp2_with fail
        go_quiet (fail)
        go_wp2_with fail
        go_region
        go_wp2_with fail
        go_end0
        exact fetch_go HM.out E1 (below_drewN ((Ext.refl w1).alloc _) _) x ⟨op, fr, tt, nx⟩
end Go.Proofs.Ytjfggepgjpdebaa
/- Contracts: pulse's control: result, multiply. -/
namespace Go.Q
theorem i64_and1 (n : Int) : bits .and .i64 n 1 = n % 2 := by have := i64_mask n 1 1 (by decide) (by decide); simpa using this
theorem i64_and48 (n : Int) : bits .and .i64 n 281474976710655 = n % 281474976710656 := i64_mask n 281474976710655 48 (by decide) (by decide)
attribute [go_sem] i64_and1 i64_and48
/-- what a bit of the operand brings -/
def bitIn (o p : Int) (k : Nat) : Int := sgn o * bitQ p k * 2 ^ k
theorem pow_le23 {k : Nat} (h : k ≤ 23) : (1 : Int) ≤ 2 ^ k ∧ (2 : Int) ^ k ≤ 8388608 := by
  have h1 : 2 ^ k ≤ 2 ^ 23 := Nat.pow_le_pow_right (by decide) h
  have h2 := Nat.two_pow_pos k
  have e : ((2 ^ k : Nat) : Int) = 2 ^ k := by simp
  omega
theorem bitIn_bd {o p : Int} {k : Nat} (ho : 0 ≤ o ∧ o ≤ 16777215) (h : k ≤ 23) : (-8388608 ≤ sgn o * bitQ p k ∧ sgn o * bitQ p k ≤ 8388607) ∧ -70368744177664 ≤ bitIn o p k ∧ bitIn o p k ≤ 70368744177664 := by
  have h1 := sgn_bd' ho
  have h2 := bitQ_bd p k
  have h3 := pow_le23 h
  have hb : bitQ p k = 0 ∨ bitQ p k = 1 := by omega
  have hm : -8388608 ≤ sgn o * bitQ p k ∧ sgn o * bitQ p k ≤ 8388607 := by
    rcases hb with e | e <;> rw [e] <;> omega
  refine ⟨hm, ?_⟩
  unfold bitIn
  generalize sgn o * bitQ p k = x at *
  generalize (2 : Int) ^ k = y at *
  rcases Int.le_total 0 x with h | h
  · have := Int.mul_nonneg h (show 0 ≤ y by omega)
    have : x * y ≤ 8388607 * 8388608 := Int.mul_le_mul (by omega) (by omega) (by omega) (by omega)
    omega
  · have := Int.mul_nonpos_of_nonpos_of_nonneg h (show 0 ≤ y by omega)
    have : (-x) * y ≤ 8388608 * 8388608 := Int.mul_le_mul (by omega) (by omega) (by omega) (by omega)
    rw [Int.neg_mul] at this
    omega
end Go.Q
namespace Go.Proofs.Ytjfggepgjpdebaa
open Go.RowKit Go.Q
variable {nb m g1 c1 : Nat} {tv pv : Value} {s : Pu}
set_option maxHeartbeats 4000000 in
theorem result_any (x : Int) (w : World) (h : Ctl w nb m g1 c1 tv pv s (ordP s)) (hv : ValidP s) (hw : 0 ≤ x ∧ x ≤ 16777215) (hr : s.phase = 4 ∨ (ordP s).op = 6 → s.phase = 4 ∨ s.taken < s.tape.length) :
    Calls Try.prog 96 #[.pointer (some ⟨m, 0, none⟩), .int .i64 x] w fun e w' => e = .returned (.int .i64 (resP s x)) ∧ ∃ n, w' = w.drewN n := by
  have q6 := h.c 6 (v := .int .i64 s.phase) rfl
  have q8 := h.c 8 (v := .int .i64 s.operand) rfl
  have q10 := h.c 10 (v := .int .i64 s.product) rfl
  have q14 := h.c 14 (v := .int .i64 (ordP s).op) rfl
  have q2 := h.c 2 (v := .int .i64 s.taken) rfl
  obtain ⟨at_, ct, htv, hI⟩ := h.tape
  subst htv
  have q1 := h.c 1 (v := .slice at_ s.tape.length ct) rfl
  have hop := hv.operand
  have hpr := hv.product
  have htk := hv.taken
  have htl := hv.tlen
  have e : resP s x = (if s.phase = 4 then s.product / 8388608 else if (ordP s).op = 2 then x + s.operand else if (ordP s).op = 3 then x - s.operand else if (ordP s).op = 6 then s.tape[s.taken.toNat]?.getD 0 else s.operand) % 16777216 := rfl
  rw [e]
  obtain ⟨x0, x1⟩ := hw
  obtain ⟨o0, o1⟩ := hop
  obtain ⟨p0, p1⟩ := hpr
  obtain ⟨t0, t1⟩ := htk
  by_cases h4 : s.phase = 4
  · rw [if_pos h4]
    rw [h4] at q6
    clear h hv e h4 hI hr
    go_enter Try.func96, Try.ntmps96
    go_wp2
    go_ret
    exact ⟨rfl, 0, rfl⟩
  · have e4 : (s.phase == 4) = false := by simpa using h4
    rw [if_neg h4]
    generalize (ordP s).op = op at *
    by_cases h6 : op = 6
    · subst h6
      have hlt : s.taken < s.tape.length := (hr (.inr rfl)).resolve_left h4
      rcases hI with e' | ⟨b, off, rfl, hb, hc⟩
      · rw [e'] at hlt; simp at hlt; omega
      have hcell : w.cell? ⟨b, off + s.taken.toNat, none⟩ = some (.int .i64 (s.tape[s.taken.toNat]?.getD 0)) := hc _ (by omega)
      rw [if_neg (by decide), if_neg (by decide), if_pos rfl]
      generalize s.tape[s.taken.toNat]?.getD 0 = y at *
      clear h hv e h4 hc hr
      go_enter Try.func96, Try.ntmps96
      go_wp2
      go_quiet (fail)
      go_wp2
      go_ret
      exact ⟨rfl, _, rfl⟩
    · by_cases h2 : op = 2
      · subst h2
        rw [if_pos rfl]
        clear h hv e h4 hI hr
        go_enter Try.func96, Try.ntmps96
        go_wp2
        go_ret
        exact ⟨rfl, 0, rfl⟩
      · by_cases h3 : op = 3
        · subst h3
          rw [if_neg (by decide), if_pos rfl]
          clear h hv e h4 hI hr
          go_enter Try.func96, Try.ntmps96
          go_wp2
          go_ret
          exact ⟨rfl, 0, rfl⟩
        · have b2 : (op == 2) = false := by simpa using h2
          have b3 : (op == 3) = false := by simpa using h3
          have b6 : (op == 6) = false := by simpa using h6
          rw [if_neg h2, if_neg h3, if_neg h6]
          clear h hv e h4 hI hr h2 h3 h6
          go_enter Try.func96, Try.ntmps96
          go_wp2
          go_ret
          exact ⟨rfl, 0, rfl⟩
set_option maxHeartbeats 4000000 in
theorem mult0_any (w : World) (h : Ctl w nb m g1 c1 tv pv s (ordP s)) (hv : ValidP s) (hc : 1 ≤ s.count) :
    Calls Try.prog 97 #[.pointer (some ⟨m, 0, none⟩), .int .i64 0] w (PRes nb m g1 c1 tv pv (multP s (24 - 2 * s.count).toNat) (ordP s) w) := by
  have q8 := h.c 8 (v := .int .i64 s.operand) rfl
  have q9 := h.c 9 (v := .int .i64 s.other) rfl
  have q10 := h.c 10 (v := .int .i64 s.product) rfl
  have q11 := h.c 11 (v := .int .i64 s.count) rfl
  have f10 := h.f 10
  have hct := hv.count.2
  have hsg : ∀ W, Calls Try.prog 124 #[.int .i64 s.other] W fun e w' => e = .returned (.int .i64 (sgn s.other)) ∧ w' = W := fun W => (psigned_any s.other W hv.other).mono fun e w' h => ⟨h.1, h.2.symm⟩
  obtain ⟨p0, p1⟩ := hv.product
  have hbd := bitIn_bd (p := s.operand) (k := (24 - 2 * s.count).toNat) hv.other (by omega)
  have hm : multP s (24 - 2 * s.count).toNat = { s with product := (s.product + (if (24 - 2 * s.count).toNat = 23 then -(bitIn s.other s.operand (24 - 2 * s.count).toNat) else bitIn s.other s.operand (24 - 2 * s.count).toNat) + 140737488355328) % 281474976710656 - 140737488355328 } := rfl
  rw [hm]
  have H := Lib.hid h
  have hk0 : 0 ≤ 24 - 2 * s.count := by omega
  have hk1 : 24 - 2 * s.count ≤ 23 := by omega
  have hN' : sgn s.other * (s.operand / 2 ^ (24 - 2 * s.count).toNat % 2) * 2 ^ (24 - 2 * s.count).toNat = bitIn s.other s.operand (24 - 2 * s.count).toNat := rfl
  have hb1 : -8388608 ≤ sgn s.other * (s.operand / 2 ^ (24 - 2 * s.count).toNat % 2) ∧ sgn s.other * (s.operand / 2 ^ (24 - 2 * s.count).toNat % 2) ≤ 8388607 := hbd.1
  have hb2 := hbd.2
  clear h hm hbd
  generalize bitIn s.other s.operand (24 - 2 * s.count).toNat = N at *
  by_cases h23 : (24 - 2 * s.count).toNat = 23
  · omega
  · rw [if_neg h23]
    have e23 : (24 - 2 * s.count == 23) = false := by rw [beq_eq_false_iff_ne]; omega
    clear h23
    go_enter Try.func97, Try.ntmps97
    go_upto_region 1 with fail
    generalize hk : 24 - 2 * s.count = k at *
    go_cut [5] (fun s5 wx => s5 = .int .i64 N ∧ ∃ n, wx = w.drewN n)
    case first =>
      have hx1 : IntKind.i64.wrap (sgn s.other * (s.operand / 2 ^ k.toNat % 2)) = sgn s.other * (s.operand / 2 ^ k.toNat % 2) := IntWalk.i64_in _ (by omega)
      have hx2 : IntKind.i64.wrap (sgn s.other * (s.operand / 2 ^ k.toNat % 2) * 2 ^ k.toNat) = N := by rw [hN']; exact IntWalk.i64_in _ (by omega)
      clear hb1 hb2 hN'
      go_quiet ((go_at_call 124; exact Calls.quiet_of_same (hsg _)))
      go_wp2_with fail
      go_meet
      exact ⟨rfl, _, rfl⟩
    case rest =>
      obtain ⟨rfl, n, rfl⟩ := hcut
      have Hk := Lib.hid hk
      clear hN' hb1 hk
      obtain ⟨n0, n1⟩ := hb2
      go_wp2_with fail
      go_end0
      exact ⟨rfl, pv, (H.out.drewN n).setm 10 _ _ _ rfl rfl rfl rfl, (Chg.heapEq rfl rfl rfl rfl : Chg _ w (w.drewN n)).setCell _ (.inl rfl) _, .inl rfl⟩
set_option maxHeartbeats 4000000 in
theorem mult1_any (w : World) (h : Ctl w nb m g1 c1 tv pv s (ordP s)) (hv : ValidP s) (hc : 1 ≤ s.count) :
    Calls Try.prog 97 #[.pointer (some ⟨m, 0, none⟩), .int .i64 1] w (PRes nb m g1 c1 tv pv (multP s (24 - 2 * s.count + 1).toNat) (ordP s) w) := by
  have q8 := h.c 8 (v := .int .i64 s.operand) rfl
  have q9 := h.c 9 (v := .int .i64 s.other) rfl
  have q10 := h.c 10 (v := .int .i64 s.product) rfl
  have q11 := h.c 11 (v := .int .i64 s.count) rfl
  have f10 := h.f 10
  have hct := hv.count.2
  have hsg : ∀ W, Calls Try.prog 124 #[.int .i64 s.other] W fun e w' => e = .returned (.int .i64 (sgn s.other)) ∧ w' = W := fun W => (psigned_any s.other W hv.other).mono fun e w' h => ⟨h.1, h.2.symm⟩
  obtain ⟨p0, p1⟩ := hv.product
  have hbd := bitIn_bd (p := s.operand) (k := (24 - 2 * s.count + 1).toNat) hv.other (by omega)
  have hm : multP s (24 - 2 * s.count + 1).toNat = { s with product := (s.product + (if (24 - 2 * s.count + 1).toNat = 23 then -(bitIn s.other s.operand (24 - 2 * s.count + 1).toNat) else bitIn s.other s.operand (24 - 2 * s.count + 1).toNat) + 140737488355328) % 281474976710656 - 140737488355328 } := rfl
  rw [hm]
  have H := Lib.hid h
  have hk0 : 0 ≤ 24 - 2 * s.count + 1 := by omega
  have hk1 : 24 - 2 * s.count + 1 ≤ 23 := by omega
  have hN' : sgn s.other * (s.operand / 2 ^ (24 - 2 * s.count + 1).toNat % 2) * 2 ^ (24 - 2 * s.count + 1).toNat = bitIn s.other s.operand (24 - 2 * s.count + 1).toNat := rfl
  have hb1 : -8388608 ≤ sgn s.other * (s.operand / 2 ^ (24 - 2 * s.count + 1).toNat % 2) ∧ sgn s.other * (s.operand / 2 ^ (24 - 2 * s.count + 1).toNat % 2) ≤ 8388607 := hbd.1
  have hb2 := hbd.2
  clear h hm hbd
  generalize bitIn s.other s.operand (24 - 2 * s.count + 1).toNat = N at *
  by_cases h23 : (24 - 2 * s.count + 1).toNat = 23
  · rw [if_pos h23]
    have e23 : (24 - 2 * s.count + 1 == 23) = true := by rw [beq_iff_eq]; omega
    clear h23
    go_enter Try.func97, Try.ntmps97
    go_upto_region 1 with fail
    generalize hk : 24 - 2 * s.count + 1 = k at *
    go_cut [5] (fun s5 wx => s5 = .int .i64 N ∧ ∃ n, wx = w.drewN n)
    case first =>
      have hx1 : IntKind.i64.wrap (sgn s.other * (s.operand / 2 ^ k.toNat % 2)) = sgn s.other * (s.operand / 2 ^ k.toNat % 2) := IntWalk.i64_in _ (by omega)
      have hx2 : IntKind.i64.wrap (sgn s.other * (s.operand / 2 ^ k.toNat % 2) * 2 ^ k.toNat) = N := by rw [hN']; exact IntWalk.i64_in _ (by omega)
      clear hb1 hb2 hN'
      go_quiet ((go_at_call 124; exact Calls.quiet_of_same (hsg _)))
      go_wp2_with fail
      go_meet
      exact ⟨rfl, _, rfl⟩
    case rest =>
      obtain ⟨rfl, n, rfl⟩ := hcut
      have Hk := Lib.hid hk
      clear hN' hb1 hk
      obtain ⟨n0, n1⟩ := hb2
      go_wp2_with fail
      go_end0
      exact ⟨rfl, pv, (H.out.drewN n).setm 10 _ _ _ rfl rfl rfl rfl, (Chg.heapEq rfl rfl rfl rfl : Chg _ w (w.drewN n)).setCell _ (.inl rfl) _, .inl rfl⟩
  · rw [if_neg h23]
    have e23 : (24 - 2 * s.count + 1 == 23) = false := by rw [beq_eq_false_iff_ne]; omega
    clear h23
    go_enter Try.func97, Try.ntmps97
    go_upto_region 1 with fail
    generalize hk : 24 - 2 * s.count + 1 = k at *
    go_cut [5] (fun s5 wx => s5 = .int .i64 N ∧ ∃ n, wx = w.drewN n)
    case first =>
      have hx1 : IntKind.i64.wrap (sgn s.other * (s.operand / 2 ^ k.toNat % 2)) = sgn s.other * (s.operand / 2 ^ k.toNat % 2) := IntWalk.i64_in _ (by omega)
      have hx2 : IntKind.i64.wrap (sgn s.other * (s.operand / 2 ^ k.toNat % 2) * 2 ^ k.toNat) = N := by rw [hN']; exact IntWalk.i64_in _ (by omega)
      clear hb1 hb2 hN'
      go_quiet ((go_at_call 124; exact Calls.quiet_of_same (hsg _)))
      go_wp2_with fail
      go_meet
      exact ⟨rfl, _, rfl⟩
    case rest =>
      obtain ⟨rfl, n, rfl⟩ := hcut
      have Hk := Lib.hid hk
      clear hN' hb1 hk
      obtain ⟨n0, n1⟩ := hb2
      go_wp2_with fail
      go_end0
      exact ⟨rfl, pv, (H.out.drewN n).setm 10 _ _ _ rfl rfl rfl rfl, (Chg.heapEq rfl rfl rfl rfl : Chg _ w (w.drewN n)).setCell _ (.inl rfl) _, .inl rfl⟩
end Go.Proofs.Ytjfggepgjpdebaa
/- Contracts: pulse's control: end, minor. -/
namespace Go.Proofs.Ytjfggepgjpdebaa
open Go.RowKit Go.Q
variable {nb m g1 c1 : Nat} {tv pv : Value} {s : Pu}
theorem PRes.pre {s2 : Pu} {o2 : Ord} {w w1 w2 : World} {e : Ending} (hE : Ext w w1) (h : PRes nb m g1 c1 tv pv s2 o2 w1 e w2) : PRes nb m g1 c1 tv pv s2 o2 w e w2 :=
  PRes.after (Chg.of_ext hE) (.inl rfl) h
theorem ordP_to (s : Pu) (x : Int) : ordP (toP s x) = ordP s := by 
  unfold toP
  repeat' split
  all_goals rfl
theorem ordP_from (s : Pu) (x : Int) : ordP (fromP s x) = ordP s := by 
  unfold fromP
  repeat' split
  all_goals rfl
theorem came_same (s : Pu) (x : Int) : (cameP s x).clock = s.clock ∧ (s.phase ≠ 0 → (cameP s x).why = s.why) := by
  unfold cameP
  split
  · unfold fetchP
    split
    · exact ⟨rfl, fun h => absurd (by assumption) h⟩
    · exact ⟨rfl, fun h => absurd (by assumption) h⟩
  split
  · unfold fromP
    repeat' split
    all_goals exact ⟨rfl, fun _ => rfl⟩
  split
  · unfold toP
    repeat' split
    all_goals exact ⟨rfl, fun _ => rfl⟩
  split
  · exact ⟨rfl, fun _ => rfl⟩
  · exact ⟨rfl, fun _ => rfl⟩
/-- the clock has turned -/
theorem PRes.tick {s1 : Pu} {w w2 : World} (h : PRes nb m g1 c1 tv pv s1 (ordP s1) w (.returned (.tuple #[])) w2) (hy : s1.why = 0) :
    PRes nb m g1 c1 tv pv (tickP s1) (ordP (tickP s1)) w (.returned (.tuple #[])) (w2.setCell ⟨m, 4, none⟩ (.int .i64 (s1.clock + 1))) := by
  obtain ⟨he, pv', hM, hC, hp⟩ := h
  have e : tickP s1 = { s1 with clock := s1.clock + 1 } := by unfold tickP; rw [if_pos hy]
  rw [e]
  exact ⟨rfl, pv', hM.setm 4 _ _ _ rfl rfl rfl rfl, hC.setCell _ (.inl rfl) _, hp⟩
set_option maxHeartbeats 4000000 in
theorem end_still (x : Int) (w : World) (h : Ctl w nb m g1 c1 tv pv s (ordP s)) (hv : ValidP s) (hy : s.why = 0) (hp : s.phase ≠ 3) :
    Calls Try.prog 98 #[.pointer (some ⟨m, 0, none⟩), .bool false, .int .i64 x] w (PRes nb m g1 c1 tv pv (endP false x s) (ordP (endP false x s)) w) := by
  have e : endP false x s = tickP s := by unfold endP; rw [if_neg (by simp [hp])]
  rw [e]
  obtain ⟨c0, c1'⟩ := hv.clock
  have b3 : (s.phase == 3) = false := by simpa using hp
  have lm := h.ltm
  have q6 := h.c 6 (v := .int .i64 s.phase) rfl
  have q4 := h.c 4 (v := .int .i64 s.clock) rfl
  have q13 := h.c 13 (v := .int .i64 0) (by rw [← hy]; rfl)
  have f4 := h.f 4
  have H := Lib.hid h
  clear h hv hp e
  have Hy := Lib.hid hy
  clear hy
  go_enter Try.func98, Try.ntmps98
  go_wp2_with fail
  go_end0
  have hr : PRes nb m g1 c1 tv pv s (ordP s) w (.returned (.tuple #[])) w := ⟨rfl, pv, H.out, Chg.refl _ _, .inl rfl⟩
  exact (hr.tick Hy.out).ext ((Ext.refl _).alloc _)
set_option maxHeartbeats 4000000 in
theorem end_0 (x : Int) (w : World) (h : Ctl w nb m g1 c1 tv pv s (ordP s)) (hv : ValidP s) (hy : s.why = 0) (hx : 0 ≤ x ∧ x ≤ 16777215) (hp : s.phase = 0) :
    Calls Try.prog 98 #[.pointer (some ⟨m, 0, none⟩), .bool true, .int .i64 x] w (PRes nb m g1 c1 tv pv (endP true x s) (ordP (endP true x s)) w) := by
  have hcm : cameP s x = fetchP s x := by unfold cameP; rw [if_pos hp]
  have e : endP true x s = tickP (fetchP s x) := by unfold endP; rw [if_pos (.inl rfl), hcm]
  rw [e]
  obtain ⟨cc0, cc1⟩ := hv.clock
  have ho : ordP (fetchP s x) = ordP s ∨ True := .inr trivial
  have hcall := fun W (A : Ctl W nb m g1 c1 tv pv s (ordP s)) => (show Calls Try.prog 125 #[.pointer (some ⟨m, 0, none⟩), .int .i64 x] W (PRes nb m g1 c1 tv pv (fetchP s x) (ordP (fetchP s x)) W) from by
    have hc0 : Calls Try.prog 125 #[.pointer (some ⟨m, 0, none⟩), .int .i64 x] W (PRes nb m g1 c1 tv pv (fetchP s x) (ordP (fetchP s x)) W) := fetch_any x W A hv hx hy
    rw [show ordP (fetchP s x) = ordP (fetchP s x) from rfl]
    exact hc0)
  have hsame := came_same s x
  rw [hcm] at hsame
  obtain ⟨hs1, hs2⟩ := hsame
  have q6 := h.c 6 (v := .int .i64 0) (by rw [← hp]; rfl)
  have lm := h.ltm
  have H := Lib.hid h
  have Hp := Lib.hid hp
  clear h hv e hcm ho hp
  generalize fetchP s x = s1 at *
  have Hs := Lib.hid hs2
  clear hs2
  go_enter Try.func98, Try.ntmps98
  go_wp2_with fail
  refine (hcall _ (by exact H.out.ext ((Ext.refl w).alloc _))).mono ?_
  rintro e w2 ⟨rfl, pv2, M2, C2, hp2⟩
  have HR : Hid (PRes nb m g1 c1 tv pv s1 (ordP s1) w (.returned (.tuple #[])) w2) := Lib.hid (PRes.pre ((Ext.refl w).alloc _) ⟨rfl, pv2, M2, C2, hp2⟩)
  have p13 := M2.c 13 (v := .int .i64 s1.why) rfl
  have p4 := M2.c 4 (v := .int .i64 s1.clock) rfl
  have f4 := M2.f 4
  rw [hs1] at p4
  clear M2 C2 hp2
  by_cases hy1 : s1.why = 0
  · skip
    have Hy := Lib.hid hy1
    rw [hy1] at p13
    clear hy1
    go_wp2_with fail
    go_end0
    have := HR.out.tick Hy.out
    rw [hs1] at this
    exact this
  · skip
    have b13 : (s1.why == 0) = false := by simpa using hy1
    have Hy := Lib.hid hy1
    clear hy1
    go_wp2_with fail
    go_end0
    have e : tickP s1 = s1 := by unfold tickP; rw [if_neg Hy.out]
    rw [e]
    exact HR.out
set_option maxHeartbeats 4000000 in
theorem end_1 (x : Int) (w : World) (h : Ctl w nb m g1 c1 tv pv s (ordP s)) (hv : ValidP s) (hy : s.why = 0) (hx : 0 ≤ x ∧ x ≤ 16777215) (hp : s.phase = 1) :
    Calls Try.prog 98 #[.pointer (some ⟨m, 0, none⟩), .bool true, .int .i64 x] w (PRes nb m g1 c1 tv pv (endP true x s) (ordP (endP true x s)) w) := by
  have hcm : cameP s x = fromP s x := by unfold cameP; rw [if_neg (by omega), if_pos hp]
  have e : endP true x s = tickP (fromP s x) := by unfold endP; rw [if_pos (.inl rfl), hcm]
  rw [e]
  obtain ⟨cc0, cc1⟩ := hv.clock
  have ho : ordP (fromP s x) = ordP s ∨ True := .inr trivial
  have hcall := fun W (A : Ctl W nb m g1 c1 tv pv s (ordP s)) => (show Calls Try.prog 126 #[.pointer (some ⟨m, 0, none⟩), .int .i64 x] W (PRes nb m g1 c1 tv pv (fromP s x) (ordP (fromP s x)) W) from by
    have hc0 : Calls Try.prog 126 #[.pointer (some ⟨m, 0, none⟩), .int .i64 x] W (PRes nb m g1 c1 tv pv (fromP s x) (ordP s) W) := from_any' x W A hv hx hp
    rw [show ordP (fromP s x) = ordP s from ordP_from s x]
    exact hc0)
  have hsame := came_same s x
  rw [hcm] at hsame
  obtain ⟨hs1, hs2⟩ := hsame
  have q6 := h.c 6 (v := .int .i64 1) (by rw [← hp]; rfl)
  have lm := h.ltm
  have H := Lib.hid h
  have Hp := Lib.hid hp
  clear h hv e hcm ho hp
  generalize fromP s x = s1 at *
  have hy1 : s1.why = 0 := (hs2 (by rw [Hp.out]; decide)).trans hy
  clear hs2
  go_enter Try.func98, Try.ntmps98
  go_wp2_with fail
  refine (hcall _ (by exact H.out.ext ((Ext.refl w).alloc _))).mono ?_
  rintro e w2 ⟨rfl, pv2, M2, C2, hp2⟩
  have HR : Hid (PRes nb m g1 c1 tv pv s1 (ordP s1) w (.returned (.tuple #[])) w2) := Lib.hid (PRes.pre ((Ext.refl w).alloc _) ⟨rfl, pv2, M2, C2, hp2⟩)
  have p13 := M2.c 13 (v := .int .i64 s1.why) rfl
  have p4 := M2.c 4 (v := .int .i64 s1.clock) rfl
  have f4 := M2.f 4
  rw [hs1] at p4
  clear M2 C2 hp2
  have Hy := Lib.hid hy1
  rw [hy1] at p13
  clear hy1
  go_wp2_with fail
  go_end0
  have := HR.out.tick Hy.out
  rw [hs1] at this
  exact this
set_option maxHeartbeats 4000000 in
theorem end_2 (x : Int) (w : World) (h : Ctl w nb m g1 c1 tv pv s (ordP s)) (hv : ValidP s) (hy : s.why = 0) (hx : 0 ≤ x ∧ x ≤ 16777215) (hp : s.phase = 2) :
    Calls Try.prog 98 #[.pointer (some ⟨m, 0, none⟩), .bool true, .int .i64 x] w (PRes nb m g1 c1 tv pv (endP true x s) (ordP (endP true x s)) w) := by
  have hcm : cameP s x = toP s x := by unfold cameP; rw [if_neg (by omega), if_neg (by omega), if_pos hp]
  have e : endP true x s = tickP (toP s x) := by unfold endP; rw [if_pos (.inl rfl), hcm]
  rw [e]
  obtain ⟨cc0, cc1⟩ := hv.clock
  have ho : ordP (toP s x) = ordP s ∨ True := .inr trivial
  have hcall := fun W (A : Ctl W nb m g1 c1 tv pv s (ordP s)) => (show Calls Try.prog 127 #[.pointer (some ⟨m, 0, none⟩), .int .i64 x] W (PRes nb m g1 c1 tv pv (toP s x) (ordP (toP s x)) W) from by
    have hc0 : Calls Try.prog 127 #[.pointer (some ⟨m, 0, none⟩), .int .i64 x] W (PRes nb m g1 c1 tv pv (toP s x) (ordP s) W) := to_any' x W A hv
    rw [show ordP (toP s x) = ordP s from ordP_to s x]
    exact hc0)
  have hsame := came_same s x
  rw [hcm] at hsame
  obtain ⟨hs1, hs2⟩ := hsame
  have q6 := h.c 6 (v := .int .i64 2) (by rw [← hp]; rfl)
  have lm := h.ltm
  have H := Lib.hid h
  have Hp := Lib.hid hp
  clear h hv e hcm ho hp
  generalize toP s x = s1 at *
  have hy1 : s1.why = 0 := (hs2 (by rw [Hp.out]; decide)).trans hy
  clear hs2
  go_enter Try.func98, Try.ntmps98
  go_wp2_with fail
  refine (hcall _ (by exact H.out.ext ((Ext.refl w).alloc _))).mono ?_
  rintro e w2 ⟨rfl, pv2, M2, C2, hp2⟩
  have HR : Hid (PRes nb m g1 c1 tv pv s1 (ordP s1) w (.returned (.tuple #[])) w2) := Lib.hid (PRes.pre ((Ext.refl w).alloc _) ⟨rfl, pv2, M2, C2, hp2⟩)
  have p13 := M2.c 13 (v := .int .i64 s1.why) rfl
  have p4 := M2.c 4 (v := .int .i64 s1.clock) rfl
  have f4 := M2.f 4
  rw [hs1] at p4
  clear M2 C2 hp2
  have Hy := Lib.hid hy1
  rw [hy1] at p13
  clear hy1
  go_wp2_with fail
  go_end0
  have := HR.out.tick Hy.out
  rw [hs1] at this
  exact this
set_option maxHeartbeats 4000000 in
theorem end_3 (came : Bool) (x : Int) (w : World) (h : Ctl w nb m g1 c1 tv pv s (ordP s)) (hv : ValidP s) (hy : s.why = 0) (hx : 0 ≤ x ∧ x ≤ 16777215) (hp : s.phase = 3) :
    Calls Try.prog 98 #[.pointer (some ⟨m, 0, none⟩), .bool came, .int .i64 x] w (PRes nb m g1 c1 tv pv (endP came x s) (ordP (endP came x s)) w) := by
  have hcm : cameP s x = countP s := by unfold cameP; rw [if_neg (by omega), if_neg (by omega), if_neg (by omega), if_pos hp]
  have e : endP came x s = tickP (countP s) := by unfold endP; rw [if_pos (.inr hp), hcm]
  rw [e]
  obtain ⟨cc0, cc1⟩ := hv.clock
  have ho : ordP (countP s) = ordP s ∨ True := .inr trivial
  have hcall := fun W (A : Ctl W nb m g1 c1 tv pv s (ordP s)) => (show Calls Try.prog 128 #[.pointer (some ⟨m, 0, none⟩), .int .i64 x] W (PRes nb m g1 c1 tv pv (countP s) (ordP (countP s)) W) from by
    have hc0 : Calls Try.prog 128 #[.pointer (some ⟨m, 0, none⟩), .int .i64 x] W (PRes nb m g1 c1 tv pv (countP s) (ordP s) W) := count_any x W A ⟨by have := hv.cnt; omega, hv.count.2⟩
    rw [show ordP (countP s) = ordP s from rfl]
    exact hc0)
  have hsame := came_same s x
  rw [hcm] at hsame
  obtain ⟨hs1, hs2⟩ := hsame
  have q6 := h.c 6 (v := .int .i64 3) (by rw [← hp]; rfl)
  have lm := h.ltm
  have H := Lib.hid h
  have Hp := Lib.hid hp
  clear h hv e hcm ho hp
  generalize countP s = s1 at *
  have hy1 : s1.why = 0 := (hs2 (by rw [Hp.out]; decide)).trans hy
  clear hs2
  cases came
  all_goals
    go_enter Try.func98, Try.ntmps98
    go_wp2_with fail
    refine (hcall _ (by exact H.out.ext ((Ext.refl w).alloc _))).mono ?_
    rintro e w2 ⟨rfl, pv2, M2, C2, hp2⟩
    have HR : Hid (PRes nb m g1 c1 tv pv s1 (ordP s1) w (.returned (.tuple #[])) w2) := Lib.hid (PRes.pre ((Ext.refl w).alloc _) ⟨rfl, pv2, M2, C2, hp2⟩)
    have p13 := M2.c 13 (v := .int .i64 s1.why) rfl
    have p4 := M2.c 4 (v := .int .i64 s1.clock) rfl
    have f4 := M2.f 4
    rw [hs1] at p4
    clear M2 C2 hp2
    have Hy := Lib.hid hy1
    rw [hy1] at p13
    clear hy1
    go_wp2_with fail
    go_end0
    have := HR.out.tick Hy.out
    rw [hs1] at this
    exact this
set_option maxHeartbeats 4000000 in
theorem end_4 (x : Int) (w : World) (h : Ctl w nb m g1 c1 tv pv s (ordP s)) (hv : ValidP s) (hy : s.why = 0) (hx : 0 ≤ x ∧ x ≤ 16777215) (hp : s.phase = 4) :
    Calls Try.prog 98 #[.pointer (some ⟨m, 0, none⟩), .bool true, .int .i64 x] w (PRes nb m g1 c1 tv pv (endP true x s) (ordP (endP true x s)) w) := by
  have hcm : cameP s x = finishP s := by unfold cameP; rw [if_neg (by omega), if_neg (by omega), if_neg (by omega), if_neg (by omega)]
  have e : endP true x s = tickP (finishP s) := by unfold endP; rw [if_pos (.inl rfl), hcm]
  rw [e]
  obtain ⟨cc0, cc1⟩ := hv.clock
  have ho : ordP (finishP s) = ordP s ∨ True := .inr trivial
  have hcall := fun W (A : Ctl W nb m g1 c1 tv pv s (ordP s)) => (show Calls Try.prog 129 #[.pointer (some ⟨m, 0, none⟩), .int .i64 x] W (PRes nb m g1 c1 tv pv (finishP s) (ordP (finishP s)) W) from by
    have hc0 : Calls Try.prog 129 #[.pointer (some ⟨m, 0, none⟩), .int .i64 x] W (PRes nb m g1 c1 tv pv (finishP s) (ordP s) W) := cwrite_any x W A ⟨hv.done.1, by have := hv.done; have := hv.clock; omega⟩
    rw [show ordP (finishP s) = ordP s from rfl]
    exact hc0)
  have hsame := came_same s x
  rw [hcm] at hsame
  obtain ⟨hs1, hs2⟩ := hsame
  have q6 := h.c 6 (v := .int .i64 4) (by rw [← hp]; rfl)
  have lm := h.ltm
  have H := Lib.hid h
  have Hp := Lib.hid hp
  clear h hv e hcm ho hp
  generalize finishP s = s1 at *
  have hy1 : s1.why = 0 := (hs2 (by rw [Hp.out]; decide)).trans hy
  clear hs2
  go_enter Try.func98, Try.ntmps98
  go_wp2_with fail
  refine (hcall _ (by exact H.out.ext ((Ext.refl w).alloc _))).mono ?_
  rintro e w2 ⟨rfl, pv2, M2, C2, hp2⟩
  have HR : Hid (PRes nb m g1 c1 tv pv s1 (ordP s1) w (.returned (.tuple #[])) w2) := Lib.hid (PRes.pre ((Ext.refl w).alloc _) ⟨rfl, pv2, M2, C2, hp2⟩)
  have p13 := M2.c 13 (v := .int .i64 s1.why) rfl
  have p4 := M2.c 4 (v := .int .i64 s1.clock) rfl
  have f4 := M2.f 4
  rw [hs1] at p4
  clear M2 C2 hp2
  have Hy := Lib.hid hy1
  rw [hy1] at p13
  clear hy1
  go_wp2_with fail
  go_end0
  have := HR.out.tick Hy.out
  rw [hs1] at this
  exact this
theorem end_any (came : Bool) (x : Int) (w : World) (h : Ctl w nb m g1 c1 tv pv s (ordP s)) (hv : ValidP s) (hy : s.why = 0) (hx : 0 ≤ x ∧ x ≤ 16777215) :
    Calls Try.prog 98 #[.pointer (some ⟨m, 0, none⟩), .bool came, .int .i64 x] w (PRes nb m g1 c1 tv pv (endP came x s) (ordP (endP came x s)) w) := by
  by_cases h3 : s.phase = 3
  · exact end_3 came x w h hv hy hx h3
  cases came with
  | false => exact end_still x w h hv hy h3
  | true =>
    have hp := hv.phase
    have hc : s.phase = 0 ∨ s.phase = 1 ∨ s.phase = 2 ∨ s.phase = 4 := by omega
    rcases hc with e | e | e | e
    · exact end_0 x w h hv hy hx e
    · exact end_1 x w h hv hy hx e
    · exact end_2 x w h hv hy hx e
    · exact end_4 x w h hv hy hx e
end Go.Proofs.Ytjfggepgjpdebaa
/- Contract: pulse's control: minor. -/
namespace Go.Proofs.Ytjfggepgjpdebaa
open Go.RowKit Go.Q
variable {nb m g1 c1 : Nat} {tv pv : Value} {s : Pu}
theorem PRes.of_ctl {w : World} (h : Ctl w nb m g1 c1 tv pv s (ordP s)) : PRes nb m g1 c1 tv pv s (ordP s) w (.returned (.tuple #[])) w := ⟨rfl, pv, h, Chg.refl _ _, .inl rfl⟩
set_option maxHeartbeats 1000000 in
theorem minor_rest (w : World) (h : Ctl w nb m g1 c1 tv pv s (ordP s)) (hr : s.why ≠ 0 ∨ s.clock = 1000000000) :
    Calls Try.prog 66 #[.pointer (some ⟨m, 0, none⟩)] w (PRes nb m g1 c1 tv pv (minorP s) (ordP (minorP s)) w) := by
  by_cases hy : s.why = 0
  · have hc : s.clock = 1000000000 := hr.resolve_left (fun c => c hy)
    have e : minorP s = { s with why := 4 } := by unfold minorP; rw [if_neg (by omega), if_pos hc]
    rw [e]
    have h1 := rests_late w h hy hc
    have H := Lib.hid h
    clear h hr hy hc e
    go_enter Try.func66, Try.ntmps66
    go_wp2_with fail
    refine (h1).mono ?_
    rintro e w1 ⟨rfl, rfl⟩
    go_wp2_with fail
    go_end0
    exact ⟨rfl, pv, H.out.setm 13 _ _ _ rfl rfl rfl rfl, (Chg.refl _ w).setCell _ (.inl rfl) _, .inl rfl⟩
  · have e : minorP s = s := by unfold minorP; rw [if_pos hy]
    rw [e]
    have h1 := rests_end w h hy
    have H := Lib.hid h
    clear h hr hy e
    go_enter Try.func66, Try.ntmps66
    go_wp2_with fail
    refine (h1).mono ?_
    rintro e w1 ⟨rfl, rfl⟩
    go_wp2_with fail
    go_end0
    exact PRes.of_ctl H.out
set_option maxHeartbeats 4000000 in
theorem minor_wait (w : World) (h : Ctl w nb m g1 c1 tv pv s (ordP s)) (hv : ValidP s) (hy : s.why = 0) (hc : s.clock ≠ 1000000000) (hcm : comesP s = false) (hp : s.phase ≠ 3) :
    Calls Try.prog 66 #[.pointer (some ⟨m, 0, none⟩)] w (PRes nb m g1 c1 tv pv (minorP s) (ordP (minorP s)) w) := by
  have e : minorP s = endP false 0 s := by
    have e1 : storeP s = s := by unfold storeP; rw [hcm]; simp
    have e2 : multsP s = s := by unfold multsP; rw [if_neg hp]
    have e3 : wordP s = 0 := by unfold wordP; rw [hcm]; simp
    unfold minorP; rw [if_neg (by omega), if_neg hc, e1, e2, e3, hcm]
  rw [e]
  have h1 := rests_go w h hy hc
  have h2 := comes_any w h hv
  have ea : comeA s = -1 := by unfold comeA; rw [hcm]; simp
  rw [ea] at h2
  have h3 := end_any false 0 w h hv hy ⟨by decide, by decide⟩
  have q6 := h.c 6 (v := .int .i64 s.phase) rfl
  have b3 : (s.phase == 3) = false := by simpa using hp
  have H := Lib.hid h
  clear h hv hy hc hcm hp e ea
  generalize endP false 0 s = t at *
  go_enter Try.func66, Try.ntmps66
  go_wp2_with fail
  refine (h1).mono ?_
  rintro e w1 ⟨rfl, rfl⟩
  go_wp2_with fail
  refine (h2).mono ?_
  rintro e w1 ⟨rfl, rfl⟩
  go_wp2_with fail
  refine (h3).mono ?_
  rintro e w1 ⟨rfl, hr⟩
  go_wp2_with fail
  go_end0
  exact ⟨rfl, hr⟩
set_option maxHeartbeats 4000000 in
theorem minor_count (w : World) (h : Ctl w nb m g1 c1 tv pv s (ordP s)) (hv : ValidP s) (hy : s.why = 0) (hc : s.clock ≠ 1000000000) (hp : s.phase = 3) :
    Calls Try.prog 66 #[.pointer (some ⟨m, 0, none⟩)] w (PRes nb m g1 c1 tv pv (minorP s) (ordP (minorP s)) w) := by
  have hb := addrP_bd hv
  have hcm : comesP s = false := by
    unfold comesP
    have : ¬ 0 ≤ addrP s := by omega
    simp [this]
  have hcn : 1 ≤ s.count := by have := hv.cnt; omega
  have hcn2 := hv.count.2
  have hms : multsP s = multP (multP s (24 - 2 * s.count).toNat) (24 - 2 * s.count + 1).toNat := by
    unfold multsP; rw [if_pos hp, show (24 - 2 * s.count + 1).toNat = (24 - 2 * s.count).toNat + 1 by omega]
  have e : minorP s = endP false 0 (multP (multP s (24 - 2 * s.count).toNat) (24 - 2 * s.count + 1).toNat) := by
    have e1 : storeP s = s := by unfold storeP; rw [hcm]; simp
    have e3 : wordP s = 0 := by unfold wordP; rw [hcm]; simp
    unfold minorP; rw [if_neg (by omega), if_neg hc, e1, hms, e3, hcm]
  rw [e]
  have h1 := rests_go w h hy hc
  have h2 := comes_any w h hv
  have ea : comeA s = -1 := by unfold comeA; rw [hcm]; simp
  rw [ea] at h2
  have V1 := multP_valid hv (24 - 2 * s.count).toNat
  have V2 := multP_valid V1 (24 - 2 * s.count + 1).toNat
  have h3 := mult0_any w h hv hcn
  have h4 := fun W pv' (A : Ctl W nb m g1 c1 tv pv' (multP s (24 - 2 * s.count).toNat) (ordP (multP s (24 - 2 * s.count).toNat))) => mult1_any W A V1 hcn
  have h5 := fun W pv' (A : Ctl W nb m g1 c1 tv pv' (multP (multP s (24 - 2 * s.count).toNat) (24 - 2 * s.count + 1).toNat) (ordP (multP (multP s (24 - 2 * s.count).toNat) (24 - 2 * s.count + 1).toNat))) => end_any false 0 W A V2 hy ⟨by decide, by decide⟩
  have h4' : ∀ W pv', Ctl W nb m g1 c1 tv pv' (multP s (24 - 2 * s.count).toNat) (ordP s) → Calls Try.prog 97 #[.pointer (some ⟨m, 0, none⟩), .int .i64 1] W (PRes nb m g1 c1 tv pv' (multP (multP s (24 - 2 * s.count).toNat) (24 - 2 * s.count + 1).toNat) (ordP s) W) := h4
  have h5' : ∀ W pv', Ctl W nb m g1 c1 tv pv' (multP (multP s (24 - 2 * s.count).toNat) (24 - 2 * s.count + 1).toNat) (ordP s) → _ := h5
  have q6 := h.c 6 (v := .int .i64 3) (by rw [← hp]; rfl)
  have H := Lib.hid h
  clear h hv hy hc hcm hp e ea hb hms V1 V2 h4 h5
  generalize multP s (24 - 2 * s.count).toNat = s1 at *
  generalize multP s1 (24 - 2 * s.count + 1).toNat = s2 at *
  generalize endP false 0 s2 = t at *
  clear hcn hcn2
  go_enter Try.func66, Try.ntmps66
  go_wp2_with fail
  refine (h1).mono ?_
  rintro e w1 ⟨rfl, rfl⟩
  go_wp2_with fail
  refine (h2).mono ?_
  rintro e w1 ⟨rfl, rfl⟩
  go_wp2_with fail
  refine (h3).mono ?_
  rintro e w1 ⟨rfl, pv1, M1, C1, p1⟩
  go_wp2_with fail
  refine (h4' _ _ M1).mono ?_
  rintro e w2 ⟨rfl, pv2, M2, C2, p2⟩
  go_wp2_with fail
  refine (h5' _ _ M2).mono ?_
  rintro e w3 ⟨rfl, hr⟩
  go_wp2_with fail
  go_end0
  exact PRes.after C1 p1 (PRes.after C2 p2 ⟨rfl, hr⟩)
end Go.Proofs.Ytjfggepgjpdebaa
/- Contract: pulse's control: minor, whatever the state. -/
namespace Go.Proofs.Ytjfggepgjpdebaa
open Go.RowKit Go.Q
variable {nb m g1 c1 : Nat} {tv pv : Value} {s : Pu}
set_option maxHeartbeats 4000000 in
theorem minor_come (w : World) (h : Ctl w nb m g1 c1 tv pv s (ordP s)) (hv : ValidP s) (hy : s.why = 0) (hc : s.clock ≠ 1000000000) (hcm : comesP s = true) :
    Calls Try.prog 66 #[.pointer (some ⟨m, 0, none⟩)] w (PRes nb m g1 c1 tv pv (minorP s) (ordP (minorP s)) w) := by
  have hb := addrP_bd hv
  have ha : 0 ≤ addrP s := by
    unfold comesP at hcm
    simp only [Bool.and_eq_true, decide_eq_true_eq] at hcm
    exact hcm.1
  have hp : s.phase ≠ 3 := by omega
  have ea : comeA s = addrP s := by unfold comeA; rw [hcm]; simp
  have h1 := rests_go w h hy hc
  have h2 := comes_any w h hv
  rw [ea] at h2
  have h3 := repl_any w h
  have q0 := h.c 0 (v := .slice (some ⟨g1, 0, none⟩) 128 c1) rfl
  have q6 := h.c 6 (v := .int .i64 s.phase) rfl
  have qs : w.cell? ⟨g1, (addrP s).toNat, none⟩ = some (.int .i64 (s.store[(addrP s).toNat]?.getD 0)) := h.wc _ (by omega)
  have fs := h.wf (addrP s).toNat
  have hx := hv.word (addrP s).toNat (by omega)
  have b3 : (s.phase == 3) = false := by simpa using hp
  have ew : wordP s = s.store[(addrP s).toNat]?.getD 0 := by unfold wordP; rw [hcm]; simp
  cases hr : replP s with
  | false =>
    have e : minorP s = endP true (s.store[(addrP s).toNat]?.getD 0) s := by
      have e1 : storeP s = s := by unfold storeP; rw [hr]; simp
      have e2 : multsP s = s := by unfold multsP; rw [if_neg hp]
      unfold minorP; rw [if_neg (by omega), if_neg hc, e1, e2, ew, hcm]
    rw [e]
    rw [hr] at h3
    have h4 := fun W (A : Ctl W nb m g1 c1 tv pv s (ordP s)) => end_any true (s.store[(addrP s).toNat]?.getD 0) W A hv hy hx
    have H := Lib.hid h
    have Hx := Lib.hid hx
    clear h hv hy hc hcm hp e ea ew hr hx
    generalize s.store[(addrP s).toNat]?.getD 0 = x at *
    generalize addrP s = a at *
    generalize endP true x s = t at *
    obtain ⟨hb0, hb1, hb2⟩ := hb
    clear hb2
    go_enter Try.func66, Try.ntmps66
    go_wp2_with fail
    refine (h1).mono ?_
    rintro e w1 ⟨rfl, rfl⟩
    go_wp2_with fail
    refine (h2).mono ?_
    rintro e w1 ⟨rfl, rfl⟩
    go_wp2_with fail
    refine (h3).mono ?_
    rintro e w2 ⟨rfl, n, rfl⟩
    go_wp2_with fail
    refine (h4 _ (H.out.drewN n)).mono ?_
    rintro e w3 ⟨rfl, hr⟩
    go_wp2_with fail
    go_end0
    exact PRes.after (Chg.heapEq rfl rfl rfl rfl : Chg _ w (w.drewN n)) (.inl rfl) ⟨rfl, hr⟩
  | true =>
    have hph : s.phase = 4 ∨ s.phase = 2 ∧ (ordP s).op ≠ 4 := by
      unfold replP at hr
      simp only [Bool.or_eq_true, Bool.and_eq_true, decide_eq_true_eq] at hr
      exact hr
    have hrc : s.phase = 4 ∨ (ordP s).op = 6 → s.phase = 4 ∨ s.taken < s.tape.length := by
      obtain ⟨f1, f2, f3⟩ := fits_of hv
      intro hh
      rcases hph with h4 | ⟨h4, _⟩
      · exact .inl h4
      · rcases hh with h5 | h5
        · exact .inl h5
        · right
          have := f2 h4
          omega
    have es : storeP s = { s with store := s.store.set (addrP s).toNat (resP s (s.store[(addrP s).toNat]?.getD 0)) } := by unfold storeP; rw [hcm, hr]; rfl
    have e : minorP s = endP true (s.store[(addrP s).toNat]?.getD 0) { s with store := s.store.set (addrP s).toNat (resP s (s.store[(addrP s).toNat]?.getD 0)) } := by
      have e2 : multsP (storeP s) = storeP s := by unfold multsP; rw [if_neg (by rw [(storeP_same s).2.2.1]; exact hp)]
      unfold minorP; rw [if_neg (by omega), if_neg hc, e2, ew, hcm, es]
    rw [e]
    rw [hr] at h3
    have V1 := storeP_valid hv
    rw [es] at V1
    have h5 := fun W (A : Ctl W nb m g1 c1 tv pv s (ordP s)) => result_any (s.store[(addrP s).toNat]?.getD 0) W A hv hx hrc
    have h4 : ∀ W, Ctl W nb m g1 c1 tv pv { s with store := s.store.set (addrP s).toNat (resP s (s.store[(addrP s).toNat]?.getD 0)) } (ordP s) → Calls Try.prog 98 #[.pointer (some ⟨m, 0, none⟩), .bool true, .int .i64 (s.store[(addrP s).toNat]?.getD 0)] W _ := fun W A => end_any true (s.store[(addrP s).toNat]?.getD 0) W A V1 hy hx
    have H := Lib.hid h
    have Hx := Lib.hid hx
    clear h hv hy hc hcm hp e ea ew hr hx V1 es hrc hph
    generalize s.store[(addrP s).toNat]?.getD 0 = x at *
    generalize resP s x = r at *
    generalize addrP s = a at *
    generalize endP true x { s with store := s.store.set a.toNat r } = t at *
    obtain ⟨hb0, hb1, hb2⟩ := hb
    clear hb2
    go_enter Try.func66, Try.ntmps66
    go_wp2_with fail
    refine (h1).mono ?_
    rintro e w1 ⟨rfl, rfl⟩
    go_wp2_with fail
    refine (h2).mono ?_
    rintro e w1 ⟨rfl, rfl⟩
    go_wp2_with fail
    refine (h3).mono ?_
    rintro e w2 ⟨rfl, n, rfl⟩
    have hb3 : a < 128 := by omega
    go_upto_region 5 with fail
    go_cut [] (fun wx => ∃ n, wx = (w.drewN n).setCell ⟨g1, a.toNat, none⟩ (.int .i64 r))
    case first =>
      go_region_law (go_simp; go_at_call 96; refine (h5 _ (by exact H.out.heapEq rfl)).mono ?_; rintro e w3 ⟨rfl, n2, rfl⟩)
      all_goals
        go_wp2_with fail
        go_meet
        exact ⟨_, rfl⟩
    case rest =>
      obtain ⟨n2, rfl⟩ := hcut
      have M2 := (H.out.drewN n2).sets a.toNat (by omega) r { s with store := s.store.set a.toNat r } rfl
      have p6 := M2.c 6 (v := .int .i64 s.phase) rfl
      go_wp2_with fail
      refine (h4 _ M2).mono ?_
      rintro e w3 ⟨rfl, hr⟩
      go_wp2_with fail
      go_end0
      exact PRes.after ((Chg.heapEq rfl rfl rfl rfl : Chg _ w (w.drewN n2)).setCell _ (.inr (.inl rfl)) _) (.inl rfl) ⟨rfl, hr⟩
theorem minor_any (w : World) (h : Ctl w nb m g1 c1 tv pv s (ordP s)) (hv : ValidP s) :
    Calls Try.prog 66 #[.pointer (some ⟨m, 0, none⟩)] w (PRes nb m g1 c1 tv pv (minorP s) (ordP (minorP s)) w) := by
  by_cases hr : s.why ≠ 0 ∨ s.clock = 1000000000
  · exact minor_rest w h hr
  · have hy : s.why = 0 := by omega
    have hc : s.clock ≠ 1000000000 := by omega
    cases hcm : comesP s with
    | true => exact minor_come w h hv hy hc hcm
    | false =>
      by_cases hp : s.phase = 3
      · exact minor_count w h hv hy hc hp
      · exact minor_wait w h hv hy hc hcm hp
end Go.Proofs.Ytjfggepgjpdebaa

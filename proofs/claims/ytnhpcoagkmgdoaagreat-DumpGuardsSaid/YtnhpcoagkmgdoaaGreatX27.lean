import Derived.Test.YtnhpcoagkmgdoaaGreatX16
import Derived.Test.YtnhpcoagkmgdoaaGreatX25
import Derived.Test.YtnhpcoagkmgdoaaGreatX4
import Derived.Test.YtnhpcoagkmgdoaaGreatX26
import Derived.Test.YtnhpcoagkmgdoaaGreatX14
import Derived.Test.YtnhpcoagkmgdoaaGreatX18
import Derived.Test.YtnhpcoagkmgdoaaGreatX6
import Derived.Test.YtnhpcoagkmgdoaaGreatX0
set_option linter.unusedVariables false
set_option linter.unusedSimpArgs false
/- Layer 10 in plain Lean: runs without losses; losses of the parity bit alone; an order that is blocked. -/
namespace Go.Q
/-- orders until the next one is at an address -/
def untilN (a : Int) : Nat → St → St × Bool
 | 0, s => (s, false)
 | n + 1, s => if (runQ 1 s).why ≠ 0 then (runQ 1 s, false) else if (runQ 1 s).at_ = a then (runQ 1 s, true) else untilN a n (runQ 1 s)
theorem run_one_end {s : St} (h : (runQ 1 s).why ≠ 0) (n : Nat) : runQ (n + 1) s = runQ 1 s := by
 rw [Nat.add_comm, runQ_add, runQ_end h]
theorem until_law (a : Int) : ∀ (n : Nat) (s : St), ((untilN a n s).2 = false → (untilN a n s).1 = runQ n s) ∧
  ((untilN a n s).2 = true → ∃ k, 1 ≤ k ∧ k ≤ n ∧ (untilN a n s).1 = runQ k s ∧ (runQ k s).at_ = a ∧ (runQ k s).why = 0 ∧ ∀ j, 1 ≤ j → j < k → (runQ j s).at_ ≠ a)
 | 0, s => ⟨fun _ => rfl, fun h => by cases h⟩
 | n + 1, s => by
  by_cases h1 : (runQ 1 s).why ≠ 0
  ·have e : untilN a (n + 1) s = (runQ 1 s, false) := by
    show (if (runQ 1 s).why ≠ 0 then (runQ 1 s, false) else _) = _
    rw [if_pos h1]
   rw [e]
   exact ⟨fun _ => (run_one_end h1 n).symm, fun h => (by cases h)⟩
  ·by_cases h2 : (runQ 1 s).at_ = a
   ·have e : untilN a (n + 1) s = (runQ 1 s, true) := by
     show (if (runQ 1 s).why ≠ 0 then (runQ 1 s, false) else if (runQ 1 s).at_ = a then (runQ 1 s, true) else _) = _
     rw [if_neg h1, if_pos h2]
    rw [e]
    exact ⟨fun h => (by cases h), fun _ => ⟨1, Nat.le_refl _, by omega, rfl, h2, Decidable.not_not.1 h1, fun j hj hj2 => by omega⟩⟩
   ·have e : untilN a (n + 1) s = untilN a n (runQ 1 s) := by
     show (if (runQ 1 s).why ≠ 0 then (runQ 1 s, false) else if (runQ 1 s).at_ = a then (runQ 1 s, true) else _) = _
     rw [if_neg h1, if_neg h2]
    obtain ⟨g1, g2⟩ := until_law a n (runQ 1 s)
    rw [e]
    refine ⟨fun h => by rw [g1 h, Nat.add_comm n 1, runQ_add], fun h => ?_⟩
    obtain ⟨k, k1, k2, k3, k4, k5, k6⟩ := g2 h
    have hk : ∀ j, runQ (j + 1) s = runQ j (runQ 1 s) := fun j => by rw [Nat.add_comm, runQ_add]
    refine ⟨k + 1, by omega, by omega, k3.trans (hk k).symm, (congrArg St.at_ (hk k)).trans k4, (congrArg St.why (hk k)).trans k5, fun j hj hj2 => ?_⟩
    obtain ⟨i, rfl⟩ : ∃ i, j = i + 1 := ⟨j - 1, by omega⟩
    rcases Nat.eq_zero_or_pos i with rfl | hi
    ·exact h2
    ·have := k6 i hi (by omega)
     rw [← hk] at this
     exact this
/-- a state with an order blocked -/
def blockQ (a : Int) (s : St) : St := { s with store := s.store.set a.toNat 0 }
end Go.Q
/- Layer 10: Until. -/
namespace Go.Q
def untilE (s : St) (a most : Int) : St × Bool × Int := if guardX s [] most ≠ 0 then (zst, false, guardX s [] most) else if inB a 0 127 = true then ((untilN a most.toNat s).1, (untilN a most.toNat s).2, 0) else (zst, false, 7)
end Go.Q
namespace Go.Proofs.YtnhpcoagkmgdoaaGreat
open Go.RowKit Go.Q Go.Shelf Go.Maps
set_option maxHeartbeats 4000000
set_option maxRecDepth 100000
def UtRes (p : St × Bool × Int) (w : World) (e : Ending) (w' : World) : Prop := ∃ v, e = .returned (.tuple #[v, .bool p.2.1, .int .i64 p.2.2]) ∧ StAt w' v p.1 ∧ Ext w w'
theorem until_any (v : Value) (s : St) (a most : Int) (w : World) (h : StAt w v s) (hb : StBd s) :
  Calls Tryz.prog 16 #[v, .int .i64 a, .int .i64 most] w (UtRes (untilE s a most) w) := by
 obtain ⟨a1, a2, a3, c1, c2, c3, rfl, i1, i2, i3⟩ := h
 have hs : StAt w (sv a1 a2 a3 s.store.length c1 s.tape.length c2 s.printed.length c3 s.taken s.time s.at_ s.done s.why) s := ⟨a1, a2, a3, c1, c2, c3, rfl, i1, i2, i3⟩
 have ho := fun W (E : Ext w W) => open_any _ s [] none 0 0 most W (hs.ext E) hb rfl (.inl rfl) (by simp)
 clear hs hb i1 i2 i3
 have E0 : Ext w ((w.alloc (.cells #[.slice a1 s.store.length c1, .slice a2 s.tape.length c2, .int .i64 s.taken, .slice a3 s.printed.length c3, .int .i64 s.time, .int .i64 s.at_, .int .i64 s.done, .int .i64 s.why] 24)).alloc (.cells #[.slice none 0 0, .slice none 0 0, .int .i64 0, .slice none 0 0, .int .i64 0, .int .i64 0, .int .i64 0, .int .i64 0] 24)) := ((Ext.refl w).alloc _).alloc _
 have hR : ((w.alloc (.cells #[.slice a1 s.store.length c1, .slice a2 s.tape.length c2, .int .i64 s.taken, .slice a3 s.printed.length c3, .int .i64 s.time, .int .i64 s.at_, .int .i64 s.done, .int .i64 s.why] 24)).alloc (.cells #[.slice none 0 0, .slice none 0 0, .int .i64 0, .slice none 0 0, .int .i64 0, .int .i64 0, .int .i64 0, .int .i64 0] 24)).heap[w.heap.size + 1]? = some (.cells #[.slice none 0 0, .slice none 0 0, .int .i64 0, .slice none 0 0, .int .i64 0, .int .i64 0, .int .i64 0, .int .i64 0] 24 (0, 0)) := by
  have e := heap_alloc_new (w.alloc (.cells #[.slice a1 s.store.length c1, .slice a2 s.tape.length c2, .int .i64 s.taken, .slice a3 s.printed.length c3, .int .i64 s.time, .int .i64 s.at_, .int .i64 s.done, .int .i64 s.why] 24)) (.cells #[.slice none 0 0, .slice none 0 0, .int .i64 0, .slice none 0 0, .int .i64 0, .int .i64 0, .int .i64 0, .int .i64 0] 24)
  rw [World.size_alloc] at e
  exact e
 obtain ⟨er, her⟩ : ∃ er, guardX s [] most = er := ⟨_, rfl⟩
 have HER := Lib.hid her
 clear her
 go_enter Tryz.func16, Tryz.ntmps16
 go_wp2_with fail
 refine (ho _ E0).mono ?_
 rintro e w1 (⟨hx, m, mb, rfl, hm, hmb, hL, E1⟩ | ⟨hx, rfl, E1⟩)
 ·clear ho
  have hsz : w.heap.size + 2 ≤ m ∧ w.heap.size + 2 ≤ mb := by simp at hm hmb; omega
  have HX := Lib.hid hx
  clear hm hmb hx
  cases hA : inB a 0 127 with
  | false =>
   have HVe : Hid (untilE s a most = (zst, false, 7)) := Lib.hid (by unfold untilE; rw [if_neg (by rw [HX.out]; decide), hA]; rfl)
   have hR1 := (E1.block _ (lt_of_block hR)).trans hR
   have q0 := blk_cell hR1 0 (v := .slice none 0 0) rfl
   have q1 := blk_cell hR1 1 (v := .slice none 0 0) rfl
   have q2 := blk_cell hR1 2 (v := .int .i64 0) rfl
   have q3 := blk_cell hR1 3 (v := .slice none 0 0) rfl
   have q4 := blk_cell hR1 4 (v := .int .i64 0) rfl
   have q5 := blk_cell hR1 5 (v := .int .i64 0) rfl
   have q6 := blk_cell hR1 6 (v := .int .i64 0) rfl
   have q7 := blk_cell hR1 7 (v := .int .i64 0) rfl
   have f0 := blk_free hR1 0
   have f1 := blk_free hR1 1
   have f2 := blk_free hR1 2
   have f3 := blk_free hR1 3
   have f4 := blk_free hR1 4
   have f5 := blk_free hR1 5
   have f6 := blk_free hR1 6
   have f7 := blk_free hR1 7
   clear hL
   go_wp2_with (go_at_call 36; refine (out10_any _ _ _ _).mono ?_; rintro e w2 ⟨rfl, rfl⟩; obtain ⟨w1, rfl⟩ : ∃ q, q = w2 := ⟨_, rfl⟩; (try simp only [hA, Bool.not_true, Bool.not_false]))
   refine bodyPost_ret (v := .tuple #[.agg #[.slice none 0 0, .slice none 0 0, .int .i64 0, .slice none 0 0, .int .i64 0, .int .i64 0, .int .i64 0, .int .i64 0], .bool false, .int .i64 7]) (by simp [results, Tryz.results16, go_sem, q0, q1, q2, q3, q4, q5, q6, q7]) rfl ?_
   have KR := s8_kp (M := fun q => q = w.heap.size + 1) (w := w1) (b := w.heap.size + 1) (n0 := .slice none 0 0) (n1 := .slice none 0 0) (n2 := .int .i64 0) (n3 := .slice none 0 0) (n4 := .int .i64 0) (n5 := .int .i64 0) (n6 := .int .i64 0) (n7 := .int .i64 0) rfl
   rw [HVe.out]
   exact ⟨_, rfl, zst_at _, (E0.comp E1).below5 KR (fun b hb => by omega)⟩
  | true =>
   obtain ⟨hv, _, _, n, rfl, hn⟩ := guard_valid HX.out
   obtain ⟨U, hU⟩ : ∃ U, untilN a n s = U := ⟨_, rfl⟩
   have HU0 : Hid (untilN a n (beginL s).s = U) := Lib.hid hU
   have HV : Hid (untilE s a (n : Int) = (U.1, U.2, 0)) := Lib.hid (by unfold untilE; rw [if_neg (by rw [HX.out]; decide), hA, if_pos rfl, Int.toNat_natCast, hU])
   have HF0 := Lib.hid (Fit.begin hv)
   have hL0 := Lib.hid hL
   clear hU hv hL
   go_wp2_with (go_at_call 36; refine (out10_any _ _ _ _).mono ?_; rintro e w2 ⟨rfl, rfl⟩; obtain ⟨w1, rfl⟩ : ∃ q, q = w2 := ⟨_, rfl⟩; (try simp only [hA, Bool.not_true, Bool.not_false]))
   go_loopw [7, 26] (fun s7 s26 Y => s7 = .bool false ∧ ∃ (k : Nat) (zz : Lm), k ≤ n ∧ s26 = .int .i64 (k : Int) ∧ Hid (LinAt Y m mb [] zz) ∧ Hid (Fit zz) ∧ Hid (untilN a (n - k) zz.s = U) ∧ KpM (LM m mb) w1 Y) (fun _ s26 _ => n - (Go.RowKit.intOf s26).toNat)
   case atStart => exact ⟨rfl, 0, beginL s, Nat.zero_le _, rfl, hL0, HF0, HU0, KpM.refl _ _⟩
   case round =>
    clear hL0 HF0 HU0
    obtain ⟨rfl, k, z0, hk, rfl, hz0, HF0, HU0, KY0⟩ := hrel
    obtain ⟨Y0, rfl⟩ : ∃ Y : World, Y = wr := ⟨_, rfl⟩
    by_cases hlt : k < n
    ·have hltz : (k : Int) < (n : Int) := by omega
     have hs := lstep_shut m mb [] z0 Y0 (fun _ h => h.elim) hz0.out HF0.out.v
     have hU1 := HU0.out
     rw [show n - k = (n - (k + 1)) + 1 by omega, untilN] at hU1
     have HU1 := Lib.hid hU1
     clear hU1
     go_wp2_with fail
     refine hs.mono ?_
     rintro e Y ⟨rfl, hzz, K2⟩
     clear hs
     obtain ⟨zz, hzq⟩ : ∃ zz, doL z0 = zz := ⟨_, rfl⟩
     have HFz : Hid (Fit zz) := Lib.hid (by rw [← hzq]; exact HF0.out.do_)
     have hze : Hid (runQ 1 z0.s = zz.s) := Lib.hid (by rw [← hzq]; rfl)
     rw [hzq] at hzz
     rw [hze.out] at HU1
     have KY := KY0.trans K2
     have hz := Lib.hid hzz
     clear hzq
     obtain ⟨b1, b2, b3, e1, e2, e3, hB, _, _, _, _⟩ := hzz
     have c7 := hB.c7
     have c5 := hB.c5
     clear hB
     by_cases hw : zz.s.why = 0
     ·rw [hw] at c7
      have HU2 := HU1.out
      rw [if_neg (by rw [hw]; decide)] at HU2
      by_cases hat : zz.s.at_ = a
      ·rw [hat] at c5
       rw [if_pos hat] at HU2
       have HU := Lib.hid HU2
       clear HU2 hat hw
       have hst := state_any m mb [] zz Y hz.out HFz.out.v
       go_wp2_with fail
       refine hst.mono ?_
       rintro e w3 ⟨v3, rfl, hT, E3⟩
       clear hst
       have EW : Ext w w3 := ((E0.comp E1).below5 KY (by rintro b (h | h) <;> omega)).comp E3
       have hR3 : w3.heap[w.heap.size + 1]? = some (.cells #[.slice none 0 0, .slice none 0 0, .int .i64 0, .slice none 0 0, .int .i64 0, .int .i64 0, .int .i64 0, .int .i64 0] 24 (0, 0)) := by
        have h1 := (E1.block _ (lt_of_block hR)).trans hR
        have h2 := (KY.block _ (lt_of_block h1) (by rintro (h | h) <;> omega)).trans h1
        exact (E3.block _ (lt_of_block h2)).trans h2
       have HT := Lib.hid hT
       obtain ⟨p1, p2, p3, d1, d2, d3, rfl, _, _, _⟩ := hT
       obtain ⟨z, hz2⟩ : ∃ z, zz.s = z := ⟨_, rfl⟩
       rw [hz2] at HT ⊢
       have HZ := Lib.hid hz2
       clear hz2
       have q0 := blk_cell hR3 0 (v := .slice none 0 0) rfl
       have q1 := blk_cell hR3 1 (v := .slice none 0 0) rfl
       have q2 := blk_cell hR3 2 (v := .int .i64 0) rfl
       have q3 := blk_cell hR3 3 (v := .slice none 0 0) rfl
       have q4 := blk_cell hR3 4 (v := .int .i64 0) rfl
       have q5 := blk_cell hR3 5 (v := .int .i64 0) rfl
       have q6 := blk_cell hR3 6 (v := .int .i64 0) rfl
       have q7 := blk_cell hR3 7 (v := .int .i64 0) rfl
       have f0 := blk_free hR3 0
       have f1 := blk_free hR3 1
       have f2 := blk_free hR3 2
       have f3 := blk_free hR3 3
       have f4 := blk_free hR3 4
       have f5 := blk_free hR3 5
       have f6 := blk_free hR3 6
       have f7 := blk_free hR3 7
       go_wp2
       refine bodyPost_ret (v := .tuple #[(.agg #[.slice p1 z.store.length d1, .slice p2 z.tape.length d2, .int .i64 z.taken, .slice p3 z.printed.length d3, .int .i64 z.time, .int .i64 z.at_, .int .i64 z.done, .int .i64 z.why]), .bool true, .int .i64 0]) (by simp [results, Tryz.results16, go_sem, q0, q1, q2, q3, q4, q5, q6, q7]) rfl ?_
       have hfin := stT_set HT.out ⟨_, hR3⟩ (n0 := .slice p1 z.store.length d1) (n1 := .slice p2 z.tape.length d2) (n2 := .int .i64 z.taken) (n3 := .slice p3 z.printed.length d3) (n4 := .int .i64 z.time) (n5 := .int .i64 z.at_) (n6 := .int .i64 z.done) (n7 := .int .i64 z.why)
       have KR := s8_kp (M := fun q => q = w.heap.size + 1) (w := w3) (b := w.heap.size + 1) (n0 := .slice p1 z.store.length d1) (n1 := .slice p2 z.tape.length d2) (n2 := .int .i64 z.taken) (n3 := .slice p3 z.printed.length d3) (n4 := .int .i64 z.time) (n5 := .int .i64 z.at_) (n6 := .int .i64 z.done) (n7 := .int .i64 z.why) rfl
       have hU : U = (z, true) := by rw [← HU.out, ← HZ.out]
       rw [HV.out, hU]
       refine ⟨_, rfl, hfin, EW.below5 KR (fun b hb => by omega)⟩
      ·have hatz : (zz.s.at_ == a) = false := by simpa using hat
       rw [if_neg hat] at HU2
       have HU := Lib.hid HU2
       clear HU2
       go_wp2
       go_roundw
       case rel => exact ⟨rfl, k + 1, zz, by omega, by go_num, hz, HFz, HU, KY⟩
       case measure => simp [Go.RowKit.intOf]; omega
     ·have hwz : (zz.s.why == 0) = false := by simpa using hw
      have HU2 := HU1.out
      rw [if_pos hw] at HU2
      have HU := Lib.hid HU2
      clear HU2
      have hst := state_any m mb [] zz Y hz.out HFz.out.v
      go_wp2_with fail
      refine hst.mono ?_
      rintro e w3 ⟨v3, rfl, hT, E3⟩
      clear hst
      have EW : Ext w w3 := ((E0.comp E1).below5 KY (by rintro b (h | h) <;> omega)).comp E3
      have hR3 : w3.heap[w.heap.size + 1]? = some (.cells #[.slice none 0 0, .slice none 0 0, .int .i64 0, .slice none 0 0, .int .i64 0, .int .i64 0, .int .i64 0, .int .i64 0] 24 (0, 0)) := by
       have h1 := (E1.block _ (lt_of_block hR)).trans hR
       have h2 := (KY.block _ (lt_of_block h1) (by rintro (h | h) <;> omega)).trans h1
       exact (E3.block _ (lt_of_block h2)).trans h2
      have HT := Lib.hid hT
      obtain ⟨p1, p2, p3, d1, d2, d3, rfl, _, _, _⟩ := hT
      obtain ⟨z, hz2⟩ : ∃ z, zz.s = z := ⟨_, rfl⟩
      rw [hz2] at HT ⊢
      have HZ := Lib.hid hz2
      clear hz2
      have q0 := blk_cell hR3 0 (v := .slice none 0 0) rfl
      have q1 := blk_cell hR3 1 (v := .slice none 0 0) rfl
      have q2 := blk_cell hR3 2 (v := .int .i64 0) rfl
      have q3 := blk_cell hR3 3 (v := .slice none 0 0) rfl
      have q4 := blk_cell hR3 4 (v := .int .i64 0) rfl
      have q5 := blk_cell hR3 5 (v := .int .i64 0) rfl
      have q6 := blk_cell hR3 6 (v := .int .i64 0) rfl
      have q7 := blk_cell hR3 7 (v := .int .i64 0) rfl
      have f0 := blk_free hR3 0
      have f1 := blk_free hR3 1
      have f2 := blk_free hR3 2
      have f3 := blk_free hR3 3
      have f4 := blk_free hR3 4
      have f5 := blk_free hR3 5
      have f6 := blk_free hR3 6
      have f7 := blk_free hR3 7
      go_wp2
      refine bodyPost_ret (v := .tuple #[(.agg #[.slice p1 z.store.length d1, .slice p2 z.tape.length d2, .int .i64 z.taken, .slice p3 z.printed.length d3, .int .i64 z.time, .int .i64 z.at_, .int .i64 z.done, .int .i64 z.why]), .bool false, .int .i64 0]) (by simp [results, Tryz.results16, go_sem, q0, q1, q2, q3, q4, q5, q6, q7]) rfl ?_
      have hfin := stT_set HT.out ⟨_, hR3⟩ (n0 := .slice p1 z.store.length d1) (n1 := .slice p2 z.tape.length d2) (n2 := .int .i64 z.taken) (n3 := .slice p3 z.printed.length d3) (n4 := .int .i64 z.time) (n5 := .int .i64 z.at_) (n6 := .int .i64 z.done) (n7 := .int .i64 z.why)
      have KR := s8_kp (M := fun q => q = w.heap.size + 1) (w := w3) (b := w.heap.size + 1) (n0 := .slice p1 z.store.length d1) (n1 := .slice p2 z.tape.length d2) (n2 := .int .i64 z.taken) (n3 := .slice p3 z.printed.length d3) (n4 := .int .i64 z.time) (n5 := .int .i64 z.at_) (n6 := .int .i64 z.done) (n7 := .int .i64 z.why) rfl
      have hU : U = (z, false) := by rw [← HU.out, ← HZ.out]
      rw [HV.out, hU]
      refine ⟨_, rfl, hfin, EW.below5 KR (fun b hb => by omega)⟩
    ·have hltz : ¬ (k : Int) < (n : Int) := by omega
     have HU2 := HU0.out
     rw [show n - k = 0 by omega, untilN] at HU2
     obtain ⟨zz, hzq⟩ : ∃ zz, zz = z0 := ⟨_, rfl⟩
     obtain ⟨Y, hYq⟩ : ∃ Y, Y = Y0 := ⟨_, rfl⟩
     have hz := hz0
     have HFz := HF0
     have KY := KY0
     rw [← hzq] at HU2 HFz hz
     rw [← hYq] at hz KY ⊢
     have HU := Lib.hid HU2
     clear HU2 HU0 hzq hYq KY0 hz0 HF0
     have hst := state_any m mb [] zz Y hz.out HFz.out.v
     go_wp2_with fail
     refine hst.mono ?_
     rintro e w3 ⟨v3, rfl, hT, E3⟩
     clear hst
     have EW : Ext w w3 := ((E0.comp E1).below5 KY (by rintro b (h | h) <;> omega)).comp E3
     have hR3 : w3.heap[w.heap.size + 1]? = some (.cells #[.slice none 0 0, .slice none 0 0, .int .i64 0, .slice none 0 0, .int .i64 0, .int .i64 0, .int .i64 0, .int .i64 0] 24 (0, 0)) := by
      have h1 := (E1.block _ (lt_of_block hR)).trans hR
      have h2 := (KY.block _ (lt_of_block h1) (by rintro (h | h) <;> omega)).trans h1
      exact (E3.block _ (lt_of_block h2)).trans h2
     have HT := Lib.hid hT
     obtain ⟨p1, p2, p3, d1, d2, d3, rfl, _, _, _⟩ := hT
     obtain ⟨z, hz2⟩ : ∃ z, zz.s = z := ⟨_, rfl⟩
     rw [hz2] at HT ⊢
     have HZ := Lib.hid hz2
     clear hz2
     have q0 := blk_cell hR3 0 (v := .slice none 0 0) rfl
     have q1 := blk_cell hR3 1 (v := .slice none 0 0) rfl
     have q2 := blk_cell hR3 2 (v := .int .i64 0) rfl
     have q3 := blk_cell hR3 3 (v := .slice none 0 0) rfl
     have q4 := blk_cell hR3 4 (v := .int .i64 0) rfl
     have q5 := blk_cell hR3 5 (v := .int .i64 0) rfl
     have q6 := blk_cell hR3 6 (v := .int .i64 0) rfl
     have q7 := blk_cell hR3 7 (v := .int .i64 0) rfl
     have f0 := blk_free hR3 0
     have f1 := blk_free hR3 1
     have f2 := blk_free hR3 2
     have f3 := blk_free hR3 3
     have f4 := blk_free hR3 4
     have f5 := blk_free hR3 5
     have f6 := blk_free hR3 6
     have f7 := blk_free hR3 7
     go_wp2
     refine bodyPost_ret (v := .tuple #[(.agg #[.slice p1 z.store.length d1, .slice p2 z.tape.length d2, .int .i64 z.taken, .slice p3 z.printed.length d3, .int .i64 z.time, .int .i64 z.at_, .int .i64 z.done, .int .i64 z.why]), .bool false, .int .i64 0]) (by simp [results, Tryz.results16, go_sem, q0, q1, q2, q3, q4, q5, q6, q7]) rfl ?_
     have hfin := stT_set HT.out ⟨_, hR3⟩ (n0 := .slice p1 z.store.length d1) (n1 := .slice p2 z.tape.length d2) (n2 := .int .i64 z.taken) (n3 := .slice p3 z.printed.length d3) (n4 := .int .i64 z.time) (n5 := .int .i64 z.at_) (n6 := .int .i64 z.done) (n7 := .int .i64 z.why)
     have KR := s8_kp (M := fun q => q = w.heap.size + 1) (w := w3) (b := w.heap.size + 1) (n0 := .slice p1 z.store.length d1) (n1 := .slice p2 z.tape.length d2) (n2 := .int .i64 z.taken) (n3 := .slice p3 z.printed.length d3) (n4 := .int .i64 z.time) (n5 := .int .i64 z.at_) (n6 := .int .i64 z.done) (n7 := .int .i64 z.why) rfl
     have hU : U = (z, false) := by rw [← HU.out, ← HZ.out]
     rw [HV.out, hU]
     refine ⟨_, rfl, hfin, EW.below5 KR (fun b hb => by omega)⟩
 ·clear ho
  have HVe : Hid (untilE s a most = (zst, false, er)) := Lib.hid (by unfold untilE; rw [if_pos hx, HER.out])
  have hR1 := (E1.block _ (lt_of_block hR)).trans hR
  have q0 := blk_cell hR1 0 (v := .slice none 0 0) rfl
  have q1 := blk_cell hR1 1 (v := .slice none 0 0) rfl
  have q2 := blk_cell hR1 2 (v := .int .i64 0) rfl
  have q3 := blk_cell hR1 3 (v := .slice none 0 0) rfl
  have q4 := blk_cell hR1 4 (v := .int .i64 0) rfl
  have q5 := blk_cell hR1 5 (v := .int .i64 0) rfl
  have q6 := blk_cell hR1 6 (v := .int .i64 0) rfl
  have q7 := blk_cell hR1 7 (v := .int .i64 0) rfl
  have f0 := blk_free hR1 0
  have f1 := blk_free hR1 1
  have f2 := blk_free hR1 2
  have f3 := blk_free hR1 3
  have f4 := blk_free hR1 4
  have f5 := blk_free hR1 5
  have f6 := blk_free hR1 6
  have f7 := blk_free hR1 7
  rw [HER.out] at hx
  have hne : (er != 0) = true := by simpa using hx
  rw [HER.out]
  go_wp2
  refine bodyPost_ret (v := .tuple #[.agg #[.slice none 0 0, .slice none 0 0, .int .i64 0, .slice none 0 0, .int .i64 0, .int .i64 0, .int .i64 0, .int .i64 0], .bool false, .int .i64 er]) (by simp [results, Tryz.results16, go_sem, q0, q1, q2, q3, q4, q5, q6, q7]) rfl ?_
  have KR := s8_kp (M := fun q => q = w.heap.size + 1) (w := w1) (b := w.heap.size + 1) (n0 := .slice none 0 0) (n1 := .slice none 0 0) (n2 := .int .i64 0) (n3 := .slice none 0 0) (n4 := .int .i64 0) (n5 := .int .i64 0) (n6 := .int .i64 0) (n7 := .int .i64 0) rfl
  rw [HVe.out]
  exact ⟨_, rfl, zst_at _, (E0.comp E1).below5 KR (fun b hb => by omega)⟩
end Go.Proofs.YtnhpcoagkmgdoaaGreat
/- Layer 10's examples, in plain Lean: what Awake is told. -/
namespace Go.Proofs.YtnhpcoagkmgdoaaGreat
open Go.RowKit Go.Q
def lossA : List Loss := [⟨3, 14, 0⟩]
theorem aw_guard : (guardE st0 lossA 100).2.2 = 0 ∧ (guardE st0 lossA 100).1.done = 5 ∧ (guardE st0 lossA 100).2.1 = 14 := by decide +kernel
theorem aw_blind : (blindE st0 lossA 100).2 = 0 ∧ (blindE st0 lossA 100).1.printed = [6] := by decide +kernel
theorem aw_until : (untilE st0 10 100).2.2 = 0 ∧ (untilE st0 10 100).1.time = 26 ∧ (untilE st0 10 100).2.1 = true := by decide +kernel
theorem aw_guardX : guardX st0 lossA 100 = 0 ∧ inB 4 1 5000 = true := by decide +kernel
theorem aw_rec : (recIter lossA st0 4 100 200 (beginR st0)).map (fun x => (x.1.printed, x.2)) = some ([7], 1) := by decide +kernel
theorem aw_dump : (dumpE st0).2 = 0 := by decide +kernel
theorem aw_back : (restartE (dumpE st0).1).2 = 0 ∧ (restartE (dumpE st0).1).1.store = st0.store ∧ (restartE (dumpE st0).1).1.tape = st0.tape ∧ (restartE (dumpE st0).1).1.printed = st0.printed ∧ (restartE (dumpE st0).1).1.taken = st0.taken ∧ (restartE (dumpE st0).1).1.time = st0.time ∧
  (restartE (dumpE st0).1).1.at_ = st0.at_ ∧ (restartE (dumpE st0).1).1.done = st0.done ∧ (restartE (dumpE st0).1).1.why = st0.why := by decide +kernel
theorem aw_read1 : readE ((tapeW [63]).set 4 126) = ([63], [4], (readE ((tapeW [63]).set 4 126)).2.2.1, 0) := by decide +kernel
theorem aw_read2 : (readE (((tapeW [63]).set 9 65).set 4 125)).2.2.1 = 0 ∧ (readE (((tapeW [63]).set 9 65).set 4 125)).2.2.2 = 200 := by decide +kernel
end Go.Proofs.YtnhpcoagkmgdoaaGreat
/- Layer 10's examples: layer 5's Program. -/
namespace Go.Proofs.YtnhpcoagkmgdoaaGreat
open Go.RowKit Go.Q
theorem ints_farZ {w : World} {b : Nat} {cs : Array Value} {T : TypeId} {a : Option Addr} {xs : List Int} (h : IntsAt w a xs) (hB : w.heap[b]? = some (.cells cs T (0, 0))) (hz : ∀ (i : Nat) (x : Int), cs[i]? = some (Value.int .i64 x) → x = 0) (hx : xs = [] ∨ ∃ i, i < xs.length ∧ xs[i]?.getD 0 ≠ 0) :
  xs = [] ∨ ∀ b' off, a = some ⟨b', off, none⟩ → b' ≠ b := by
 rcases hx with hx | ⟨i, hi, hne⟩
 ·exact .inl hx
 rcases h with h | ⟨b1, off, ha, hb, hc⟩
 ·exact .inl h
 ·refine .inr fun b' off' e eb => ?_
  rw [ha] at e
  cases e
  subst eb
  have h1 := hc i hi
  have h2 : w.heap[b1]? = some (.cells cs T (0, 0)) := hB
  simp only [World.cell?, h2] at h1
  simp at h1
  exact hne (hz _ _ h1)
theorem zeros8 : ∀ (i : Nat) (x : Int), (#[.slice none 0 0, .slice none 0 0, .int .i64 0, .slice none 0 0, .int .i64 0, .int .i64 0, .int .i64 0, .int .i64 0] : Array Value)[i]? = some (Value.int .i64 x) → x = 0 := by
 intro i x h
 have hi : i < 8 := (Array.getElem?_eq_some_iff.1 h).1
 obtain rfl | rfl | rfl | rfl | rfl | rfl | rfl | rfl : i = 0 ∨ i = 1 ∨ i = 2 ∨ i = 3 ∨ i = 4 ∨ i = 5 ∨ i = 6 ∨ i = 7 := by omega
 all_goals simp at h
 all_goals exact h.symm
/-- the call returned a state of layer 4 -/
def RetSt (s : St) (w : World) (e : Ending) (w' : World) : Prop := ∃ v, e = .returned v ∧ StAt w' v s ∧ Ext w w'
/-- no list of the state is all zeros -/
def NzS (s : St) : Prop := (s.store = [] ∨ ∃ i, i < s.store.length ∧ s.store[i]?.getD 0 ≠ 0) ∧ (s.tape = [] ∨ ∃ i, i < s.tape.length ∧ s.tape[i]?.getD 0 ≠ 0) ∧ (s.printed = [] ∨ ∃ i, i < s.printed.length ∧ s.printed[i]?.getD 0 ≠ 0)
theorem nz_st0 : NzS st0 := ⟨.inr ⟨0, by decide +kernel, by decide +kernel⟩, .inr ⟨0, by decide +kernel, by decide +kernel⟩, .inl (by decide +kernel)⟩
theorem ints_keepZ {w Y : World} {b : Nat} {a : Option Addr} {xs : List Int} (h : IntsAt w a xs) (hp : xs = [] ∨ ∀ b' off, a = some ⟨b', off, none⟩ → b' ≠ b) (k : KpM (fun q => q = b) w Y) : IntsAt Y a xs := by
 rcases hp with hp | hp
 ·exact .inl hp
 ·rcases h with h | ⟨q, off, ha, hq, hc⟩
  ·exact .inl h
  ·exact .inr ⟨q, off, ha, Nat.lt_of_lt_of_le hq k.size, fun i hi => (k.cell hq (hp q off ha)).trans (hc i hi)⟩
set_option maxRecDepth 100000 in
set_option maxHeartbeats 4000000 in
theorem program_any (w : World) : Calls Tryz.prog 29 #[] w (RetSt st0 w) := by
 have hnz := nz_st0
 have hbg := fun (a1 a2 : Option Addr) W (i1 : IntsAt W a1 storeQ) (i2 : IntsAt W a2 [3, 4, 16777215]) => rbegin_any a1 a2 15 3 15 3 storeQ [3, 4, 16777215] 0 W (by decide) (by decide) (by decide) (by decide) i1 i2
 have e0 : beginQ storeQ [3, 4, 16777215] 0 = (st0, 0) := Prod.ext rfl aw_begin
 rw [e0] at hbg
 clear e0
 generalize st0 = s at *
 have HN := Lib.hid hnz
 clear hnz
 go_enter Tryz.func29, Tryz.ntmps29
 go_wp2_with (go_at_call 54; refine (store_any _).mono ?_; rintro e w1 ⟨rfl, rfl⟩)
 go_wp2_with fail
 refine (hbg _ _ _ ?i1 ?i2).mono ?_
 case i1 =>
  have := ints_fresh (w := w.alloc (.cells #[.slice none 0 0, .slice none 0 0, .int .i64 0, .slice none 0 0, .int .i64 0, .int .i64 0, .int .i64 0, .int .i64 0] 24)) (xs := storeQ) (t := 3) rfl ((Ext.refl _).alloc (.cells #[.int .i64 3, .int .i64 4, .int .i64 16777215] 3))
  rw [World.size_alloc] at this
  exact this
 case i2 =>
  have := ints_fresh (w := (w.alloc (.cells #[.slice none 0 0, .slice none 0 0, .int .i64 0, .slice none 0 0, .int .i64 0, .int .i64 0, .int .i64 0, .int .i64 0] 24)).alloc (.cells (iv storeQ).toArray 3)) (xs := [3, 4, 16777215]) (t := 3) rfl (Ext.refl _)
  simp only [World.size_alloc] at this
  exact this
 rintro e w1 ⟨v, rfl, ⟨a1, a2, a3, k1, k2, k3, rfl, I1, I2, I3⟩, E1⟩
 have RB0 := heap_alloc_new w (.cells #[.slice none 0 0, .slice none 0 0, .int .i64 0, .slice none 0 0, .int .i64 0, .int .i64 0, .int .i64 0, .int .i64 0] 24)
 have RB := (E1.old.old.block w.heap.size (by simp)).trans RB0
 have F1 : Ext w w1 := E1.old.old.old
 have G1 := ints_farZ I1 RB zeros8 HN.out.1
 have G2 := ints_farZ I2 RB zeros8 HN.out.2.1
 have G3 := ints_farZ I3 RB zeros8 HN.out.2.2
 have HG := Lib.hid (And.intro (And.intro I1 (And.intro I2 I3)) (And.intro G1 (And.intro G2 G3)))
 clear I1 I2 I3 G1 G2 G3 hbg RB0
 have RBo := fun ob => (((Ext.refl w1).alloc ob).block w.heap.size (lt_of_block RB)).trans RB
 have q0 := fun ob => blk_cell (RBo ob) 0 (v := .slice none 0 0) rfl
 have q1 := fun ob => blk_cell (RBo ob) 1 (v := .slice none 0 0) rfl
 have q2 := fun ob => blk_cell (RBo ob) 2 (v := .int .i64 0) rfl
 have q3 := fun ob => blk_cell (RBo ob) 3 (v := .slice none 0 0) rfl
 have q4 := fun ob => blk_cell (RBo ob) 4 (v := .int .i64 0) rfl
 have q5 := fun ob => blk_cell (RBo ob) 5 (v := .int .i64 0) rfl
 have q6 := fun ob => blk_cell (RBo ob) 6 (v := .int .i64 0) rfl
 have q7 := fun ob => blk_cell (RBo ob) 7 (v := .int .i64 0) rfl
 have f0 := fun ob => blk_free (RBo ob) 0
 have f1 := fun ob => blk_free (RBo ob) 1
 have f2 := fun ob => blk_free (RBo ob) 2
 have f3 := fun ob => blk_free (RBo ob) 3
 have f4 := fun ob => blk_free (RBo ob) 4
 have f5 := fun ob => blk_free (RBo ob) 5
 have f6 := fun ob => blk_free (RBo ob) 6
 have f7 := fun ob => blk_free (RBo ob) 7
 have HRB := Lib.hid RBo
 clear RBo
 go_wp2_with fail
 refine bodyPost_ret (v := sv a1 a2 a3 s.store.length k1 s.tape.length k2 s.printed.length k3 s.taken s.time s.at_ s.done s.why) (by simp [results, Tryz.results29, go_sem, q0, q1, q2, q3, q4, q5, q6, q7]) rfl ?_
 obtain ⟨⟨I1, I2, I3⟩, G1, G2, G3⟩ := HG.out
 have KR := s8_kp (M := fun q => q = w.heap.size) (w := w1.alloc (.cells #[.slice a1 s.store.length k1, .slice a2 s.tape.length k2, .int .i64 s.taken, .slice a3 s.printed.length k3, .int .i64 s.time, .int .i64 s.at_, .int .i64 s.done, .int .i64 s.why] 24)) (b := w.heap.size) (n0 := .slice a1 s.store.length k1) (n1 := .slice a2 s.tape.length k2) (n2 := .int .i64 s.taken) (n3 := .slice a3 s.printed.length k3) (n4 := .int .i64 s.time) (n5 := .int .i64 s.at_) (n6 := .int .i64 s.done) (n7 := .int .i64 s.why) rfl
 exact ⟨_, rfl, ⟨a1, a2, a3, k1, k2, k3, rfl, ints_keepZ (I1.ext ((Ext.refl _).alloc _)) G1 KR, ints_keepZ (I2.ext ((Ext.refl _).alloc _)) G2 KR, ints_keepZ (I3.ext ((Ext.refl _).alloc _)) G3 KR⟩, (F1.alloc _).below5 KR (fun b hb => by omega)⟩
end Go.Proofs.YtnhpcoagkmgdoaaGreat
/- Layer 10's program: Punch, over its tape. -/
namespace Go.Proofs.YtnhpcoagkmgdoaaGreat
open Go.RowKit Go.Q Go.Joins
theorem punch1_any (n : Int) (w : World) : Calls Tryz.prog 56 #[.int .i64 n] w fun e w' => e = .returned (.bool (badW n)) ∧ w' = w := by
 have ho := fun W => out10_any n 0 16777215 W
 have hb : badW n = !inB n 0 16777215 := rfl
 rw [hb]
 obtain ⟨t, ht⟩ : ∃ t, (!inB n 0 16777215) = t := ⟨_, rfl⟩
 rw [ht] at ho ⊢
 clear hb ht
 go_enter Tryz.func56, Tryz.ntmps56
 go_wp2_with fail
 refine (ho _).mono ?_
 rintro e w' ⟨rfl, rfl⟩
 go_wp2
 go_ret
 exact ⟨rfl, rfl⟩
set_option maxRecDepth 100000 in
set_option maxHeartbeats 4000000 in
/-- Punch, once its tape has a contract -/
theorem lpunch_of (HT : ∀ (a : Option Addr) (n c : Nat) (ws : List Int) (w : World), ws.length = n → n ≤ 560 → IntsAt w a ws → wordOk ws →
  Calls Tryz.prog 57 #[.slice a n c] w fun e w' => ∃ v, e = .returned v ∧ w'.ownsRow w.heap.size 5 1 v (tapeW ws).length (ub (natI (tapeW ws))) ∧ Ext w w')
  (a : Option Addr) (n c : Nat) (ws : List Int) (w : World) (hn : ws.length = n) (hbig : n ≤ 9223372036854775807) (hI : IntsAt w a ws) :
  Calls Tryz.prog 30 #[.slice a n c] w (RowsRes (punchE ws) w) := by
 by_cases hl : n ≤ 560
 ·have d1 : decide (560 < (n : Int)) = false := decide_eq_false (by omega)
  have hcn := contains_any 56 #[] badW a n c ws w (enters_of Tryz.func56 (by kernel_rfl) rfl) (fun W x hb => (punch1_any x W).mono fun e w' ⟨h1, h2⟩ => ⟨h1, by rw [h2]; exact hb⟩) hn hbig hI
  have HT2 := Lib.hid HT
  cases hany : ws.any badW with
  | true =>
   rw [hany] at hcn
   have e : punchE ws = ([], 7) := by
    have e : punchX ws = 7 := by unfold punchX; rw [if_neg (by omega), if_pos hany]
    unfold punchE
    rw [e, if_neg (by decide)]
   rw [e]
   clear hany e HT
   go_enter Tryz.func30, Tryz.ntmps30
   go_wp2_with fail
   refine hcn.mono ?_
   rintro e w' ⟨rfl, E'⟩
   go_wp2
   exact bodyPost_ret (v := .tuple #[.slice none 0 0, .int .i64 7]) (by simp [results, Tryz.results30, go_sem]) rfl (rows_none E')
  | false =>
   rw [hany] at hcn
   have hok : wordOk ws := fun x hx => by
    have := List.any_eq_false.1 hany x hx
    have hb : wordB x = true := by
     cases e : wordB x with
     | true => rfl
     | false => exact absurd (show badW x = true by unfold badW; rw [e]; rfl) this
    exact wordB_bd hb
   rw [punch_good (by rw [hn]; exact hl) hok]
   have htp := fun W (E : Ext w W) => HT a n c ws W hn hl (hI.ext E) hok
   clear hany HT
   go_enter Tryz.func30, Tryz.ntmps30
   go_wp2_with fail
   refine hcn.mono ?_
   rintro e w' ⟨rfl, E'⟩
   have ht2 := htp w' E'
   clear htp hcn
   go_wp2_with fail
   refine ht2.mono ?_
   rintro e w8 ⟨v, rfl, hown, E8⟩
   obtain ⟨a8, c8, rfl⟩ := own_formU hown
   go_wp2
   exact bodyPost_ret (v := .tuple #[.slice a8 (tapeW ws).length c8, .int .i64 0]) (by simp [results, Tryz.results30, go_sem]) rfl ⟨a8, c8, rfl, own_cap hown, own_bytes hown, E'.comp E8⟩
 ·have d1 : decide (560 < (n : Int)) = true := decide_eq_true (by omega)
  rw [punch_long (by rw [hn]; omega)]
  clear HT
  go_enter Tryz.func30, Tryz.ntmps30
  go_wp2
  exact bodyPost_ret (v := .tuple #[.slice none 0 0, .int .i64 3]) (by simp [results, Tryz.results30, go_sem]) rfl (rows_none (Ext.refl _))
end Go.Proofs.YtnhpcoagkmgdoaaGreat

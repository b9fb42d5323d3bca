import Derived.WalkKit
import Derived.Deep.RegionLaw
import Derived.RangeFuncNested
import Derived.RangeFuncBound
import Derived.RangeFuncCalls
import Derived.RangeFuncLeaves
import Derived.Shelf.Abstract
import Derived.Shelf.RegionOpen
import Derived.OwnWalkIn
import Derived.TacticsInMore
import Derived.LoopNIn
import Derived.LoopIn
import Derived.Laws.CopyOwn
import Derived.Outline
import Derived.Test.YtnhpcoagkmgdoaaX6
import Derived.Test.YtnhpcoagkmgdoaaX5
import Derived.Test.YtnhpcoagkmgdoaaX4
set_option linter.unusedVariables false
set_option linter.unusedSimpArgs false
/- Layer 10 in plain Lean: Recover comes to what a run without losses comes to, and goes back at most as often as there are losses. -/
namespace Go.Q
theorem like_same {m : Lm} {c : St} (h : Like m c) (hb : someB m.bad = false) : m.s = c := by
 have hstore : m.s.store = c.store := by
  refine List.ext_getElem? fun i => ?_
  by_cases hi : i < 128
  ·have h2 : badAt m.bad (i : Int) = false := by
    cases e : badAt m.bad (i : Int) with
    | false => rfl
    | true =>
     have : someB m.bad = true := some_bad.2 ⟨i, by rw [h.blen]; exact hi, by unfold badAt at e; rw [Int.toNat_natCast] at e; exact e⟩
     rw [hb] at this; cases this
   have h3 := h.eq i (by omega) (by omega) h2
   unfold wordAt at h3
   rw [Int.toNat_natCast, List.getElem?_eq_getElem (by rw [h.len]; exact hi), List.getElem?_eq_getElem (by rw [h.clen]; exact hi)] at h3
   rw [List.getElem?_eq_getElem (by rw [h.len]; exact hi), List.getElem?_eq_getElem (by rw [h.clen]; exact hi)]
   exact congrArg some h3
  ·rw [List.getElem?_eq_none (by rw [h.len]; omega), List.getElem?_eq_none (by rw [h.clen]; omega)]
 rw [h.same, hstore]
theorem zeros_at (a : Int) : badAt zerosB a = false := begin_bad ⟨[], [], 0, [], 0, 0, 0, 0⟩ a
theorem last_like {L : List Loss} {c : St} (h : Valid c) (g : Int → Bool) : Like ⟨c, zerosB, g⟩ c ∧ Fresh L ⟨c, zerosB, g⟩ := by
 refine ⟨⟨h.len, h.len, zeros_len, rfl, fun _ _ _ _ => rfl⟩, fun a _ h2 => ?_⟩
 have h3 : badAt zerosB a = true := h2
 rw [zeros_at] at h3
 cases h3
/-- what holds at the head of Recover's loop, if no two losses are at one address -/
structure RLike (L : List Loss) (s0 : St) (most : Int) (r : Rm) : Prop where
 here : ∃ k, k ≤ most.toNat ∧ Like r.m (runQ k s0)
 fresh : Fresh L r.m
 last : ∃ j, j ≤ most.toNat ∧ r.last = runQ j s0
theorem rec_like {L : List Loss} {s0 : St} {every most : Int} {r r2 : Rm} (hs : Valid s0) (hL : ∀ y ∈ L, lossOk y = true) (ha : apartL L) (hi : RInv L s0 most r) (h : RLike L s0 most r) (e : recNext L s0 every most r = .inl r2) : RLike L s0 most r2 := by
 obtain ⟨k, hk, hl⟩ := h.here
 have hv1 := hap_valid (L := L) hi.valid hL
 have h1 := hap_like hL ha hl h.fresh
 have hf1 := hap_fresh hL hl.blen h.fresh
 have hck := runQ_valid k hs
 have hdone : (hapQ L r.m).s.done = (runQ k s0).done := h1.doneS
 have hwhy : (hapQ L r.m).s.why = (runQ k s0).why := h1.whyS
 have roll : ∀ last : St, (∃ j, j ≤ most.toNat ∧ last = runQ j s0) → RLike L s0 most ⟨⟨last, zerosB, (hapQ L r.m).gone⟩, last, r.back + 1⟩ := by
  rintro last ⟨j, hj, rfl⟩
  have := last_like (L := L) (runQ_valid j hs) (hapQ L r.m).gone
  exact ⟨⟨j, hj, this.1⟩, this.2, ⟨j, hj, rfl⟩⟩
 unfold recNext at e
 dsimp only at e
 split at e
 ·obtain rfl := Sum.inl.inj e
  exact roll _ h.last
 ·rename_i h0
  split at e
  ·cases e
  ·rename_i h2
   have hn : (hapQ L r.m).s.done - s0.done ≠ most ∧ (hapQ L r.m).s.why = 0 := by
    unfold endR at h2
    simp only [Bool.or_eq_true, beq_iff_eq, bne_iff_ne, ne_eq, not_or, Decidable.not_not] at h2
    exact h2
   have hlast : ∃ j, j ≤ most.toNat ∧ (if dueR s0 every (hapQ L r.m).s = true then (hapQ L r.m).s else r.last) = runQ j s0 := by
    by_cases hd : dueR s0 every (hapQ L r.m).s = true
    ·rw [if_pos hd]
     refine ⟨k, hk, like_same h1 ?_⟩
     cases hb : someB (hapQ L r.m).bad with
     | false => rfl
     | true => exact absurd (by rw [hd, hb]; simp) h0
    ·rw [if_neg hd]; exact h.last
   generalize (if dueR s0 every (hapQ L r.m).s = true then (hapQ L r.m).s else r.last) = last at *
   split at e
   ·obtain rfl := Sum.inl.inj e
    exact roll last hlast
   ·rename_i h3
    obtain rfl := Sum.inl.inj e
    have hcy : (runQ k s0).why = 0 := hwhy.symm.trans hn.2
    have hk2 := (runQ_done k s0).2.2.2 hcy
    have hd2 := hi.done
    have hd3 : (hapQ L r.m).s.done = r.m.s.done := hap_done L r.m
    refine ⟨⟨k + 1, by omega, ?_⟩, do_fresh h1.blen hv1 hf1, hlast⟩
    show Like (doL (hapQ L r.m)) (runQ (k + 1) s0)
    rw [runQ_add k 1 s0]
    exact step_like h1 hv1 hck hcy (notice_none hv1 h3)
theorem rec_law {L : List Loss} {s0 : St} {every most : Int} {x : St × Nat} (hs : Valid s0) (hL : ∀ y ∈ L, lossOk y = true) (ha : apartL L) (hm : 0 ≤ most) : ∀ (n : Nat) (r : Rm), RInv L s0 most r → RLike L s0 most r → recIter L s0 every most n r = some x → x.1 = runQ most.toNat s0
 | 0, r, _, _, h => by cases h
 | n + 1, r, hi, hl, h => by
  unfold recIter at h
  cases e : recNext L s0 every most r with
  | inl r2 =>
   rw [e] at h
   exact rec_law hs hL ha hm n r2 (rec_inv hL hm hi e).1 (rec_like hs hL ha hi hl e) h
  | inr y =>
   rw [e] at h
   obtain rfl := Option.some.inj h
   obtain ⟨k, hk, hlk⟩ := hl.here
   have h1 := hap_like hL ha hlk hl.fresh
   unfold recNext at e
   dsimp only at e
   split at e
   ·cases e
   ·rename_i h0
    split at e
    ·rename_i h2
     obtain rfl := Sum.inr.inj e
     have hb : someB (hapQ L r.m).bad = false := by
      cases hb : someB (hapQ L r.m).bad with
      | false => rfl
      | true => exact absurd (by rw [h2, hb]; simp) h0
     have h3 := like_same h1 hb
     show (hapQ L r.m).s = _
     rw [h3] at h2 ⊢
     obtain ⟨d, hd⟩ : ∃ d, most.toNat = k + d := ⟨most.toNat - k, by omega⟩
     rw [hd, runQ_add]
     by_cases hy : (runQ k s0).why = 0
     ·have hkd := (runQ_done k s0).2.2.2 hy
      unfold endR at h2
      rw [hy, Bool.or_eq_true, beq_iff_eq] at h2
      have h4 : (runQ k s0).done - s0.done = most := h2.resolve_right (by simp)
      have : d = 0 := by omega
      rw [this]
      rfl
     ·exact (runQ_end hy d).symm
    ·split at e <;> cases e
theorem rec_back {L : List Loss} {s0 : St} {every most : Int} {x : St × Nat} (hL : ∀ y ∈ L, lossOk y = true) (hm : 0 ≤ most) : ∀ (n : Nat) (r : Rm), RInv L s0 most r → recIter L s0 every most n r = some x → x.2 ≤ L.length ∧ Valid x.1
 | 0, r, _, h => by cases h
 | n + 1, r, hi, h => by
  unfold recIter at h
  cases e : recNext L s0 every most r with
  | inl r2 =>
   rw [e] at h
   exact rec_back hL hm n r2 (rec_inv hL hm hi e).1 h
  | inr y =>
   rw [e] at h
   obtain rfl := Option.some.inj h
   have hb := hi.back
   unfold recNext at e
   dsimp only at e
   split at e
   ·cases e
   ·split at e
    ·obtain rfl := Sum.inr.inj e
     exact ⟨by show r.back ≤ L.length; omega, hap_valid hi.valid hL⟩
    ·split at e <;> cases e
/-- what DumpRecovered says -/
theorem recovered {L : List Loss} {s : St} {every most : Int} {x : St × Nat} (hs : Valid s) (hL : ∀ y ∈ L, lossOk y = true) (hm : 0 ≤ most) (h : RecTo L s every most (beginR s) x) : x.2 ≤ L.length ∧ (apartL L → x.1 = runQ most.toNat s) := by
 obtain ⟨n, hn⟩ := h
 refine ⟨(rec_back hL hm n _ (begin_inv hs hm) hn).1, fun ha => ?_⟩
 exact rec_law hs hL ha hm n _ (begin_inv hs hm) ⟨⟨0, Nat.zero_le _, begin_like hs⟩, begin_fresh L s, ⟨0, Nat.zero_le _, rfl⟩⟩ hn
end Go.Q
/- Layer 10 in plain Lean: runs without losses; losses of the parity bit alone; an order that is blocked. -/
namespace Go.Q
def cleanB (b : List Bool) : Prop := ∀ a, badAt b a = false
theorem clean_set {b : List Bool} (h : cleanB b) (i : Nat) : cleanB (b.set i false) := by
 intro a
 unfold badAt
 by_cases e : i = a.toNat
 ·subst e
  by_cases hi : a.toNat < b.length
  ·rw [List.getElem?_set_self hi]; rfl
  ·rw [List.getElem?_eq_none (by rw [List.length_set]; omega)]; rfl
 ·rw [List.getElem?_set_ne e]; exact h a
theorem clean_notice {m : Lm} (h : cleanB m.bad) : noticeQ m = -1 := by
 unfold noticeQ
 have : (readsQ m.s).find? (badAt m.bad) = none := by
  rw [List.find?_eq_none]
  intro a _
  rw [h a]
  simp
 rw [this]
 rfl
theorem clean_do {m : Lm} (h : cleanB m.bad) : cleanB (doL m).bad := by
 unfold doL
 dsimp only
 split
 ·exact clean_set h _
 ·exact h
theorem hap_nil (m : Lm) : (hapQ [] m).s = m.s ∧ (hapQ [] m).bad = m.bad := by
 unfold hapQ dueQ
 constructor <;> (split <;> rfl)
theorem run_succ (n : Nat) (s : St) (h : s.why = 0) : runQ (n + 1) s = runQ n (runQ 1 s) := by rw [Nat.add_comm, runQ_add]
theorem guard_nil : ∀ (n : Nat) (m : Lm), cleanB m.bad → (guardN [] n m).1.s = runQ n m.s ∧ (guardN [] n m).2 = -1
 | 0, m, _ => ⟨rfl, rfl⟩
 | n + 1, m, h => by
  obtain ⟨h1, h2⟩ := hap_nil m
  by_cases hy : m.s.why ≠ 0
  ·have e : guardN [] (n + 1) m = (m, -1) := by
    show (if m.s.why ≠ 0 then (m, -1) else _) = _
    rw [if_pos hy]
   rw [e]
   exact ⟨(runQ_end hy _).symm, rfl⟩
  ·have hc : cleanB (hapQ [] m).bad := by rw [h2]; exact h
   have e : guardN [] (n + 1) m = guardN [] n (doL (hapQ [] m)) := by
    show (if m.s.why ≠ 0 then (m, -1) else if 0 ≤ noticeQ (hapQ [] m) then (hapQ [] m, noticeQ (hapQ [] m)) else _) = _
    rw [if_neg hy, if_neg (by rw [clean_notice hc]; decide)]
   have ih := guard_nil n (doL (hapQ [] m)) (clean_do hc)
   rw [e, ih.1, ih.2, run_succ n m.s (Decidable.not_not.1 hy)]
   refine ⟨?_, rfl⟩
   show runQ n (runQ 1 (hapQ [] m).s) = _
   rw [h1]
theorem begin_clean (s : St) : cleanB (beginL s).bad := begin_bad s
/-- losses that change no word -/
def quietL (L : List Loss) : Prop := ∀ y ∈ L, y.bit = 24
theorem loss_quiet {s : St} {y : Loss} (h : y.bit = 24) : lossS s y = s := by
 have e : s.store.set y.addr.toNat (flipW (wordAt s y.addr) y.bit) = s.store := by
  rw [h]
  have : flipW (wordAt s y.addr) 24 = wordAt s y.addr := by
   unfold flipW
   rw [if_neg (by decide)]
  rw [this]
  unfold wordAt
  by_cases hi : y.addr.toNat < s.store.length
  ·rw [List.getElem?_eq_getElem hi, Option.getD_some, List.set_getElem_self]
  ·exact List.set_eq_of_length_le (by omega)
 unfold lossS
 rw [e]
theorem losses_quiet : ∀ {F : List Loss} (s : St), (∀ y ∈ F, y.bit = 24) → F.foldl lossS s = s
 | [], _, _ => rfl
 | y :: F, s, h => by
  rw [List.foldl_cons, loss_quiet (h y (List.mem_cons_self ..))]
  exact losses_quiet s fun z hz => h z (List.mem_cons_of_mem _ hz)
theorem blind_quiet {L : List Loss} (hL : quietL L) : ∀ (n : Nat) (m : Lm), (blindN L n m).s = runQ n m.s
 | 0, m => rfl
 | n + 1, m => by
  have h1 : (hapQ L m).s = m.s := losses_quiet m.s fun y hy => hL y (due_mem hy).1
  by_cases hy : m.s.why ≠ 0
  ·have e : blindN L (n + 1) m = m := by
    show (if m.s.why ≠ 0 then m else _) = _
    rw [if_pos hy]
   rw [e]
   exact (runQ_end hy _).symm
  ·have e : blindN L (n + 1) m = blindN L n (doL (hapQ L m)) := by
    show (if m.s.why ≠ 0 then m else _) = _
    rw [if_neg hy]
   rw [e, blind_quiet hL n, run_succ n m.s (Decidable.not_not.1 hy)]
   show runQ n (runQ 1 (hapQ L m).s) = _
   rw [h1]
/-- orders until the next one is at an address -/
def untilN (a : Int) : Nat → St → St × Bool
 | 0, s => (s, false)
 | n + 1, s => if (runQ 1 s).why ≠ 0 then (runQ 1 s, false) else if (runQ 1 s).at_ = a then (runQ 1 s, true) else untilN a n (runQ 1 s)
theorem run_one_end {s : St} (h : (runQ 1 s).why ≠ 0) (n : Nat) : runQ (n + 1) s = runQ 1 s := by
 rw [Nat.add_comm, runQ_add, runQ_end h]
theorem until_law (a : Int) : ∀ (n : Nat) (s : St), ((untilN a n s).2 = false → (untilN a n s).1 = runQ n s) ∧
  ((untilN a n s).2 = true → ∃ k, 1 ≤ k ∧ k ≤ n ∧ (untilN a n s).1 = runQ k s ∧ (runQ k s).at_ = a ∧ (runQ k s).why = 0 ∧ ∀ j, 1 ≤ j → j < k → (runQ j s).at_ ≠ a)
 | 0, s => ⟨fun _ => rfl, fun h => by cases h⟩
 | n + 1, s => by
  by_cases h1 : (runQ 1 s).why ≠ 0
  ·have e : untilN a (n + 1) s = (runQ 1 s, false) := by
    show (if (runQ 1 s).why ≠ 0 then (runQ 1 s, false) else _) = _
    rw [if_pos h1]
   rw [e]
   exact ⟨fun _ => (run_one_end h1 n).symm, fun h => (by cases h)⟩
  ·by_cases h2 : (runQ 1 s).at_ = a
   ·have e : untilN a (n + 1) s = (runQ 1 s, true) := by
     show (if (runQ 1 s).why ≠ 0 then (runQ 1 s, false) else if (runQ 1 s).at_ = a then (runQ 1 s, true) else _) = _
     rw [if_neg h1, if_pos h2]
    rw [e]
    exact ⟨fun h => (by cases h), fun _ => ⟨1, Nat.le_refl _, by omega, rfl, h2, Decidable.not_not.1 h1, fun j hj hj2 => by omega⟩⟩
   ·have e : untilN a (n + 1) s = untilN a n (runQ 1 s) := by
     show (if (runQ 1 s).why ≠ 0 then (runQ 1 s, false) else if (runQ 1 s).at_ = a then (runQ 1 s, true) else _) = _
     rw [if_neg h1, if_neg h2]
    obtain ⟨g1, g2⟩ := until_law a n (runQ 1 s)
    rw [e]
    refine ⟨fun h => by rw [g1 h, Nat.add_comm n 1, runQ_add], fun h => ?_⟩
    obtain ⟨k, k1, k2, k3, k4, k5, k6⟩ := g2 h
    have hk : ∀ j, runQ (j + 1) s = runQ j (runQ 1 s) := fun j => by rw [Nat.add_comm, runQ_add]
    refine ⟨k + 1, by omega, by omega, k3.trans (hk k).symm, (congrArg St.at_ (hk k)).trans k4, (congrArg St.why (hk k)).trans k5, fun j hj hj2 => ?_⟩
    obtain ⟨i, rfl⟩ : ∃ i, j = i + 1 := ⟨j - 1, by omega⟩
    rcases Nat.eq_zero_or_pos i with rfl | hi
    ·exact h2
    ·have := k6 i hi (by omega)
     rw [← hk] at this
     exact this
/-- a state with an order blocked -/
def blockQ (a : Int) (s : St) : St := { s with store := s.store.set a.toNat 0 }
theorem block_word {s : St} {a b : Int} (h : b ≠ a) (ha : 0 ≤ a) (hb : 0 ≤ b) : wordAt (blockQ a s) b = wordAt s b := by
 unfold wordAt blockQ
 show (s.store.set a.toNat 0)[b.toNat]?.getD 0 = _
 rw [List.getElem?_set_ne (by omega)]
theorem block_step {a : Int} {c : St} (hc : Valid c) (ha : 0 ≤ a ∧ a ≤ 127) (hy : c.why = 0) (hr : ∀ b ∈ readsQ c, b ≠ a) (hw : writesQ c ≠ a) : runQ 1 (blockQ a c) = blockQ a (runQ 1 c) := by
 have hrd := fun b (hb : b ∈ readsQ c) => block_word (s := c) (hr b hb) ha.1 (reads_bd hc b hb).1
 have hord : ordAt (blockQ a c) = ordAt c := by
  show decodeQ (wordAt (blockQ a c) c.at_) = _
  rw [hrd _ (List.mem_cons_self ..)]
  rfl
 have hob := ord_bd hc.ord
 have h1 : ((1 ≤ (ordAt c).op ∧ (ordAt c).op ≤ 5) ∨ (ordAt c).op = 7) → wordAt (blockQ a c) (ordAt c).frm = wordAt c (ordAt c).frm := fun h => hrd _ (by
  unfold readsQ
  rw [if_pos h]
  simp)
 have h2 : 2 ≤ (ordAt c).op ∧ (ordAt c).op ≤ 4 → wordAt (blockQ a c) (ordAt c).to = wordAt c (ordAt c).to := fun h => hrd _ (by
  unfold readsQ
  rw [if_pos h]
  simp)
 have hwh : whenAt (ordAt c) (negAt (blockQ a c)) = whenAt (ordAt c) (negAt c) ∧ whenUntil (ordAt c) c.time (negAt (blockQ a c)) = whenUntil (ordAt c) c.time (negAt c) := by
  by_cases e : (ordAt c).op = 5
  ·have : negAt (blockQ a c) = negAt c := by
    unfold negAt
    rw [hord, h1 (.inl ⟨by omega, by omega⟩)]
   rw [this]
   exact ⟨rfl, rfl⟩
  ·exact when_other e _
 have hut : untilAt (blockQ a c) = untilAt c := by
  unfold untilAt
  rw [hord]
  exact hwh.2
 have hwy : whyAt (blockQ a c) = whyAt c := by
  unfold whyAt
  rw [hord, hut]
  rfl
 obtain ⟨v, hd1, hd2⟩ := do_like c (c.store.set a.toNat 0) (ordAt c) h1 h2
 have hd3 : doQ (blockQ a c) (ordAt c) = { doQ c (ordAt c) with store := if wrO (ordAt c) then (c.store.set a.toNat 0).set (ordAt c).to.toNat v else c.store.set a.toNat 0 } := hd1
 rw [run_one hy, run_one (c := blockQ a c) hy]
 by_cases h0 : whyAt c = 0
 ·have es : stepQ (blockQ a c) = { doQ (blockQ a c) (ordAt c) with at_ := whenAt (ordAt c) (negAt c), time := untilAt c, done := c.done + 1 } := by
   unfold stepQ
   rw [hwy, if_pos h0, hord, hut, hwh.1]
   rfl
  have ec : stepQ c = { doQ c (ordAt c) with at_ := whenAt (ordAt c) (negAt c), time := untilAt c, done := c.done + 1 } := by
   unfold stepQ
   rw [if_pos h0]
  rw [es, ec, hd3]
  unfold blockQ
  dsimp only
  rw [hd2]
  by_cases hwr : wrO (ordAt c)
  ·have hne : (ordAt c).to ≠ a := by
    intro e
    refine hw ?_
    unfold writesQ
    rw [if_pos (show (1 ≤ (ordAt c).op ∧ (ordAt c).op ≤ 4) ∨ (ordAt c).op = 6 from hwr)]
    exact e
   rw [if_pos hwr, if_pos hwr, List.set_comm _ _ (by omega)]
  ·rw [if_neg hwr, if_neg hwr]
 ·have es : stepQ (blockQ a c) = { blockQ a c with why := whyAt c } := by
   unfold stepQ
   rw [hwy, if_neg h0]
  have ec : stepQ c = { c with why := whyAt c } := by
   unfold stepQ
   rw [if_neg h0]
  rw [es, ec]
  rfl
theorem block_run {a : Int} {s : St} (hs : Valid s) (ha : 0 ≤ a ∧ a ≤ 127) : ∀ k : Nat, (runQ k s).why = 0 → (∀ j, j < k → (∀ b ∈ readsQ (runQ j s), b ≠ a) ∧ writesQ (runQ j s) ≠ a) → runQ k (blockQ a s) = blockQ a (runQ k s)
 | 0, _, _ => rfl
 | k + 1, hy, h => by
  have hyk : (runQ k s).why = 0 := by
   rcases Decidable.em ((runQ k s).why = 0) with e | e
   ·exact e
   ·rw [runQ_add, runQ_end e] at hy; exact absurd hy e
  have ih := block_run hs ha k hyk fun j hj => h j (by omega)
  have hk := h k (by omega)
  rw [runQ_add k 1, runQ_add k 1, ih]
  exact block_step (runQ_valid k hs) ha hyk hk.1 hk.2
theorem block_ends {a : Int} {t : St} (ht : Valid t) (ha : 0 ≤ a ∧ a ≤ 127) (hat : t.at_ = a) : whyAt (blockQ a t) = 1 := by
 have hw : wordAt (blockQ a t) t.at_ = 0 := by
  rw [hat]
  unfold wordAt blockQ
  show (t.store.set a.toNat 0)[a.toNat]?.getD 0 = 0
  rw [List.getElem?_set_self (by rw [ht.len]; omega)]
  rfl
 have ho : (ordAt (blockQ a t)).op = 0 := by
  show (decodeQ (wordAt (blockQ a t) t.at_)).op = 0
  rw [hw]
  decide
 unfold whyAt
 rw [if_pos ho]
/-- what DumpBlocked says -/
theorem blocked {a : Int} {s : St} {k n : Nat} (hs : Valid s) (ha : 0 ≤ a ∧ a ≤ 127) (hk : k ≤ n) (hat : (runQ k s).at_ = a) (hy : (runQ k s).why = 0) (h : ∀ j, j < k → (∀ b ∈ readsQ (runQ j s), b ≠ a) ∧ writesQ (runQ j s) ≠ a) : runQ (n + 1) (blockQ a s) = { blockQ a (runQ k s) with why := 1 } := by
 have h1 := block_run hs ha k hy h
 have h2 : runQ 1 (blockQ a (runQ k s)) = { blockQ a (runQ k s) with why := 1 } := by
  rw [run_one (c := blockQ a (runQ k s)) hy]
  unfold stepQ
  rw [block_ends (runQ_valid k hs) ha hat, if_neg (by decide)]
 obtain ⟨d, hd⟩ : ∃ d, n + 1 = k + (1 + d) := ⟨n - k, by omega⟩
 rw [hd, runQ_add, h1, runQ_add, h2]
 exact runQ_end (by show (1 : Int) ≠ 0; decide) d
end Go.Q
/- Layer 10 in plain Lean: dumps: a state's words; Restart of the dump of a state is the state; what is different in two states. -/
namespace Go.Q
/-- the words of a state -/
def headS (s : St) : List Int := [s.time % 16777216, s.time / 16777216, s.at_, s.done % 16777216, s.done / 16777216, s.why, s.taken, (s.tape.length : Int), (s.printed.length : Int)]
def wordsS (s : St) : List Int := headS s ++ (s.store ++ (s.tape ++ s.printed))
/-- what Dump returns -/
def dumpE (s : St) : List Nat × Int := if (checkQ s).2.2 = 0 then (tapeW (wordsS s), 0) else ([], (checkQ s).2.2)
def wAt (w : List Int) (i : Nat) : Int := w[i]?.getD 0
/-- the state of words -/
def stOf (w : List Int) : St := ⟨(w.drop 9).take 128, (w.drop 137).take (wAt w 7).toNat, wAt w 6, w.drop (137 + (wAt w 7).toNat), wAt w 1 * 16777216 + wAt w 0, wAt w 2, wAt w 4 * 16777216 + wAt w 3, wAt w 5⟩
def formOk (w : List Int) : Bool := decide (137 ≤ w.length) && ((w.length : Int) == 137 + wAt w 7 + wAt w 8) && ((checkQ (stOf w)).2.2 == 0)
/-- what Restart returns -/
def restartE (rs : List Nat) : St × Int := if (readE rs).2.2.2 ≠ 0 then (zst, (readE rs).2.2.2) else if formOk (readE rs).1 = true then (stOf (readE rs).1, 0) else (zst, 6)
theorem wordsS_len (s : St) : (wordsS s).length = 9 + s.store.length + s.tape.length + s.printed.length := by
 unfold wordsS headS
 simp only [List.length_append, List.length_cons, List.length_nil]
 omega
theorem wordsS_ok {s : St} (h : Valid s) : wordOk (wordsS s) ∧ (wordsS s).length ≤ 560 := by
 have h1 := h.tlen
 have h2 := h.plen
 have h3 := h.len
 refine ⟨fun x hx => ?_, by rw [wordsS_len]; omega⟩
 unfold wordsS at hx
 rw [List.mem_append, List.mem_append, List.mem_append] at hx
 rcases hx with hx | hx | hx | hx
 ·have ht := h.time
  have hd := h.done
  have ha := h.at_
  have hw := h.why
  have hk := h.taken
  unfold headS at hx
  simp only [List.mem_cons, List.not_mem_nil, or_false] at hx
  rcases hx with rfl | rfl | rfl | rfl | rfl | rfl | rfl | rfl | rfl <;> omega
 ·exact h.ws x hx
 ·exact h.wt x hx
 ·exact h.wp x hx
theorem stOf_words {s : St} (h : Valid s) : stOf (wordsS s) = s := by
 have h3 := h.len
 have e7 : wAt (wordsS s) 7 = (s.tape.length : Int) := rfl
 have d9 : (wordsS s).drop 9 = s.store ++ (s.tape ++ s.printed) := rfl
 have d137 : (wordsS s).drop 137 = s.tape ++ s.printed := by
  rw [show 137 = 9 + 128 from rfl, ← List.drop_drop, d9, ← h3, List.drop_left]
 have e1 : ((wordsS s).drop 9).take 128 = s.store := by rw [d9, ← h3, List.take_left]
 have e2 : ((wordsS s).drop 137).take (wAt (wordsS s) 7).toNat = s.tape := by rw [d137, e7, Int.toNat_natCast, List.take_left]
 have e3 : (wordsS s).drop (137 + (wAt (wordsS s) 7).toNat) = s.printed := by rw [← List.drop_drop, d137, e7, Int.toNat_natCast, List.drop_left]
 have e4 : wAt (wordsS s) 1 * 16777216 + wAt (wordsS s) 0 = s.time := by
  show s.time / 16777216 * 16777216 + s.time % 16777216 = s.time
  omega
 have e5 : wAt (wordsS s) 4 * 16777216 + wAt (wordsS s) 3 = s.done := by
  show s.done / 16777216 * 16777216 + s.done % 16777216 = s.done
  omega
 unfold stOf
 rw [e1, e2, e3, e4, e5]
 rfl
theorem form_words {s : St} (h : Valid s) : formOk (wordsS s) = true := by
 have h1 := wordsS_len s
 have h3 := h.len
 unfold formOk
 rw [stOf_words h, check_of_valid h, Bool.and_eq_true, Bool.and_eq_true, decide_eq_true_eq, beq_iff_eq]
 refine ⟨⟨by omega, ?_⟩, rfl⟩
 show ((wordsS s).length : Int) = 137 + (s.tape.length : Int) + (s.printed.length : Int)
 omega
/-- Restart of the dump of a state is the state, also with one wrong hole in each block -/
theorem restart_spoil {s : St} (h : Valid s) {f : Nat → Option (Nat × Nat)} (hf : holesOk f) : restartE (spoilT (wordsS s) f) = (s, 0) := by
 obtain ⟨h1, h2⟩ := wordsS_ok h
 unfold restartE
 rw [read_spoil h1 h2 hf, if_neg (fun e => e rfl), if_pos (form_words h), stOf_words h]
/-- the words that are different in two states -/
structure Chd where
 addr : Int
 was : Int
 is_ : Int
def changedN (a b : List Int) (n : Nat) : List Chd := (List.range n).flatMap fun (i : Nat) => if a[i]?.getD 0 = b[i]?.getD 0 then [] else [⟨(i : Int), a[i]?.getD 0, b[i]?.getD 0⟩]
def changesE (a b : St) : List Chd × Int := if (checkQ a).2.2 ≠ 0 then ([], (checkQ a).2.2) else if (checkQ b).2.2 ≠ 0 then ([], (checkQ b).2.2) else (changedN a.store b.store 128, 0)
theorem changed_succ (a b : List Int) (n : Nat) : changedN a b (n + 1) = changedN a b n ++ if a[n]?.getD 0 = b[n]?.getD 0 then [] else [⟨(n : Int), a[n]?.getD 0, b[n]?.getD 0⟩] := by
 unfold changedN
 rw [List.range_succ, List.flatMap_append, List.flatMap_cons, List.flatMap_nil, List.append_nil]
theorem changed_self (a : List Int) : ∀ n, changedN a a n = []
 | 0 => rfl
 | n + 1 => by rw [changed_succ, changed_self a n, if_pos rfl]; rfl
theorem changed_mem {a b : List Int} {n : Nat} {c : Chd} : c ∈ changedN a b n ↔ ∃ i, i < n ∧ a[i]?.getD 0 ≠ b[i]?.getD 0 ∧ c = ⟨(i : Int), a[i]?.getD 0, b[i]?.getD 0⟩ := by
 unfold changedN
 rw [List.mem_flatMap]
 constructor
 ·rintro ⟨i, hi, hc⟩
  by_cases e : a[i]?.getD 0 = b[i]?.getD 0
  ·rw [if_pos e] at hc; simp at hc
  ·rw [if_neg e, List.mem_singleton] at hc
   exact ⟨i, List.mem_range.1 hi, e, hc⟩
 ·rintro ⟨i, hi, e, hc⟩
  exact ⟨i, List.mem_range.2 hi, by rw [if_neg e, List.mem_singleton]; exact hc⟩
theorem changed_sorted (a b : List Int) : ∀ n, (changedN a b n).Pairwise fun x y => x.addr < y.addr
 | 0 => List.Pairwise.nil
 | n + 1 => by
  rw [changed_succ, List.pairwise_append]
  refine ⟨changed_sorted a b n, ?_, ?_⟩
  ·split
   ·exact List.Pairwise.nil
   ·exact List.pairwise_singleton _ _
  ·intro x hx y hy
   obtain ⟨i, hi, _, rfl⟩ := changed_mem.1 hx
   split at hy
   ·simp at hy
   ·rw [List.mem_singleton] at hy
    subst hy
    show (i : Int) < (n : Int)
    omega
/-- the store with the first of the changes -/
def putC (a : List Int) (l : List Chd) : List Int := l.foldl (fun st c => st.set c.addr.toNat c.is_) a
theorem put_changes {a b : List Int} (hl : a.length = b.length) : ∀ n, putC a (changedN a b n) = b.take n ++ a.drop n
 | 0 => by simp [putC, changedN]
 | n + 1 => by
  rw [changed_succ]
  unfold putC
  rw [List.foldl_append]
  have ih := put_changes hl n
  unfold putC at ih
  rw [ih]
  by_cases hn : n < a.length
  ·have hb : n < b.length := by omega
   have hlen : (b.take n).length = n := by rw [List.length_take]; omega
   have ea : a.drop n = a[n] :: a.drop (n + 1) := List.drop_eq_getElem_cons hn
   have eb : b.take (n + 1) = b.take n ++ [b[n]] := by rw [List.take_add_one, List.getElem?_eq_getElem hb]; rfl
   rw [List.getElem?_eq_getElem hn, List.getElem?_eq_getElem hb, Option.getD_some, Option.getD_some]
   by_cases e : a[n] = b[n]
   ·rw [if_pos e, List.foldl_nil, ea, eb, e, List.append_assoc]
    rfl
   ·rw [if_neg e, List.foldl_cons, List.foldl_nil]
    show (b.take n ++ a.drop n).set ((n : Int)).toNat b[n] = _
    rw [Int.toNat_natCast, List.set_append_right _ _ (by omega), hlen, Nat.sub_self, ea, List.set_cons_zero, eb, List.append_assoc]
    rfl
  ·rw [List.getElem?_eq_none (by omega), List.getElem?_eq_none (by omega), if_pos rfl, List.foldl_nil]
   rw [List.take_of_length_le (by omega), List.take_of_length_le (by omega), List.drop_of_length_le (by omega), List.drop_of_length_le (by omega)]
end Go.Q
/- A region that draws its order: what each operation keeps, whatever has come up before it. -/
namespace Go.Q
open Go
section
variable {P : Program} {ops : Array Oper} {Q : Exit → Act → World → Prop} {md : Region.Mode}
end
end Go.Q
/- Ranges over functions: an iterator of our own, the invariant by the number of rounds; what stays when some blocks are turned. (From the texts of layer 1, for layers that do not stand on them.) -/
namespace Go.Q
open Go.RowKit Go.Shelf
/-- all blocks but those of M lie unturned -/
structure KpM (M : Nat → Prop) (W W' : World) : Prop where
 size : W.heap.size ≤ W'.heap.size
 block : ∀ b, b < W.heap.size → ¬ M b → W'.heap[b]? = W.heap[b]?
 os : W'.os = W.os
 tape : W'.tape = W.tape
 output : W'.output = W.output
theorem KpM.refl (M : Nat → Prop) (W : World) : KpM M W W := ⟨Nat.le_refl _, fun _ _ _ => rfl, rfl, rfl, rfl⟩
theorem KpM.trans {M : Nat → Prop} {A B C : World} (h : KpM M A B) (k : KpM M B C) : KpM M A C :=
 ⟨Nat.le_trans h.1 k.1, fun b hb hm => (k.2 b (Nat.lt_of_lt_of_le hb h.1) hm).trans (h.2 b hb hm), k.os.trans h.os, k.tape.trans h.tape, k.output.trans h.output⟩
theorem KpM.of_ext {M : Nat → Prop} {A B : World} (h : Ext A B) : KpM M A B := ⟨h.size, fun b hb _ => h.block b hb, h.os, h.tape, h.output⟩
theorem KpM.cell {M : Nat → Prop} {A B : World} (h : KpM M A B) {b o : Nat} (hb : b < A.heap.size) (hm : ¬ M b) : B.cell? ⟨b, o, none⟩ = A.cell? ⟨b, o, none⟩ := World.cell?_of_block (w := A) (h.2 b hb hm)
theorem KpM.mono {M M' : Nat → Prop} {A B : World} (h : KpM M A B) (hm : ∀ b, M b → M' b) : KpM M' A B := ⟨h.1, fun b hb hn => h.2 b hb (fun hx => hn (hm b hx)), h.os, h.tape, h.output⟩
theorem KpM.below {M : Nat → Prop} {n : Nat} {w A B : World} (k : KpM M A B) (h : Below n w A) (hn : n ≤ w.heap.size) (hM : ∀ b, M b → n ≤ b) : Below n w B :=
 ⟨k.os.trans h.os, k.tape.trans h.tape, k.output.trans h.output, Nat.le_trans h.size k.size, fun b hb => (k.block b (Nat.lt_of_lt_of_le (Nat.lt_of_lt_of_le hb hn) h.size) (fun hm => by have := hM b hm; omega)).trans (h.block b hb)⟩
theorem _root_.Go.Q.Ext.below5 {M : Nat → Prop} {w A B : World} (h : Ext w A) (k : KpM M A B) (hM : ∀ b, M b → w.heap.size ≤ b) : Ext w B := k.below h (Nat.le_refl _) hM
theorem KpM.store {A B : World} (h : Ext A B) (b : Nat) (v : Value) : KpM (fun x => x = b) A (B.setCell ⟨b, 0, none⟩ v) := by
 have k := (Below.refl 0 B).setCell (p := ⟨b, 0, none⟩) (Nat.zero_le _) v
 exact ⟨by simpa using h.size, fun x hx hn => (Below.heap_setCell _ _ _ _ hn).trans (h.block x hx), k.os.trans h.os, k.tape.trans h.tape, k.output.trans h.output⟩
theorem blk_cell {w : World} {m : Nat} {cs : Array Value} {t : TypeId} (h : w.heap[m]? = some (.cells cs t (0, 0))) (i : Nat) {v : Value} (hv : cs[i]? = some v) : w.cell? ⟨m, i, none⟩ = some v := by
 simp [World.cell?, h, hv]
theorem blk_free {w : World} {m : Nat} {cs : Array Value} {t : TypeId} (h : w.heap[m]? = some (.cells cs t (0, 0))) (i : Nat) : w.frozen? ⟨m, i, none⟩ = false := by
 simp [World.frozen?, h]
/-- the turn of block B, that holds no cells -/
def TurnsAt {β : Type} (B : Nat) (J : β → World → Prop) : Prop := ∀ s W o o', J s W → W.heap[B]? = some o → o.isCells = false → J s (W.putObj B o')
/-- how a round ends -/
def JPost (B : Nat) (Kp : World → World → Prop) (J : World → Prop) (W : World) : Exit → Act → World → Prop := fun e _ W' => e = .normal ∧ KeepsFrom B W W' ∧ Kp W W' ∧ J W'
theorem wpIn_rangeFunc_J {α : Type} {P : Program} {n : Nat} {g : Operand} {ps : Array Tmp} {assign body : Code} {Q : Exit → Act → World → Prop} {a : Act} {w : World} {gf : Nat} {lb : Array Value}
  (hg : a.eval g = .func (.func gf) #[] lb) (eg : ∀ args w, (callFunc gf args).run P w = .ok (.enter gf args) w)
  {encs : α → Array Value} (hps : ∀ x, (encs x).size = ps.size) (J : Nat → World → Prop) (X : Nat → α → World → Prop) (N : Nat) (Kp : World → World → Prop)
  (hKt : ∀ {A B C : World}, Kp A B → Kp B C → Kp A C) (hKb : ∀ (W : World) (o o' : Obj), W.heap[w.heap.size + 1]? = some o → o.isCells = false → Kp W (W.putObj (w.heap.size + 1) o'))
  (hJ : TurnsAt (w.heap.size + 1) J) (hX : ∀ k, TurnsAt (w.heap.size + 1) (X k)) (h0 : ∀ W, Ext w W → J 0 W)
  (hcall : ∀ (l : Nat) (JJ : Nat → World → Prop) (W1 : World), Ext w W1 → w.heap.size + 1 < W1.heap.size → (∀ k W, JJ k W → J k W ∧ w.heap.size + 1 < W.heap.size) →
   (∀ k W W', JJ k W → J k W' → W'.heap[w.heap.size]? = W.heap[w.heap.size]? → W'.heap[w.heap.size + 1]? = W.heap[w.heap.size + 1]? → JJ k W') →
   (∀ k x W, JJ k W → k < N → X k x W → YieldAt Fence.wide (n - 1 - 1) P l (encs x) W fun e W' => e = .returned (.bool true) ∧ JJ (k + 1) W' ∧ Kp W W') → JJ 0 W1 →
   CallsIn Fence.wide (n - 1) P gf (#[.func (.yield l) #[] #[]] ++ lb) W1 fun e W' => (∃ v, e = .returned v) ∧ JJ N W')
  (a₁ : α → Act)
  (hassign : ∀ (l : Nat) (x : α) (W : World) (K : Act → World → Prop), K (a₁ x) W →
   assign.wpIn (Fence.wide.inRound l) (n - 1 - 1) P (Exit.then K (fun _ _ _ => False)) { tmps := (ps.zip (encs x)).foldl (fun t (p, v) => t.setIfInBounds p v) a.tmps, defers := [] } W)
  (hbody : ∀ (l k : Nat) (x : α) (W : World), J k W → k < N → X k x W → body.wpIn (Fence.wide.inRound l) (n - 1 - 1) P (JPost w.heap.size Kp (J (k + 1)) W) (a₁ x) W)
  (hdone : ∀ (D : Nat) (W : World), w.heap.size ≤ D → J N W → W.heap[D]? = some (.deferred (some [])) → Q .normal { a with defers := { target := .collected D, args := #[] } :: a.defers } W) :
  (Code.rangeFunc g ps assign body).wpIn Fence.wide n P Q a w := by
 refine wpIn_rangeFunc fun fn hfn => ?_
 obtain ⟨rec, hrec⟩ : ∃ rec : LoopState → Option Code → Loop, rec = fun st pe => { state := st, pending := pe, fn, tmps := a.tmps, params := ps, assign, body, defers := w.heap.size } := ⟨_, rfl⟩
 obtain ⟨W1, hW1⟩ : ∃ W1, (w.alloc (.deferred (some []))).alloc (.loop (rec .ready none)) = W1 := ⟨_, rfl⟩
 have hE1 : Ext w W1 := by rw [← hW1]; exact ((Ext.refl w).alloc _).alloc _
 have hs1 : W1.heap.size = w.heap.size + 2 := by rw [← hW1]; simp
 have hL1 : W1.heap[w.heap.size + 1]? = some (.loop (rec .ready none)) := by
  rw [← hW1]; have := World.alloc_heap_new (w.alloc (.deferred (some []))) (.loop (rec .ready none)); rwa [World.size_alloc] at this
 have hD1 : W1.heap[w.heap.size]? = some (.deferred (some [])) := by
  rw [← hW1]; exact (Below.heap_alloc _ _ _ (by simp)).trans (World.alloc_heap_new w _)
 refine ⟨w.heap.size + 1, [{ target := .collected w.heap.size, args := #[] }], W1, { target := .fn (.func gf) lb, args := #[.func (.yield (w.heap.size + 1)) #[] #[]] }, W1, gf,
  #[.func (.yield (w.heap.size + 1)) #[] #[]] ++ lb, W1, ?_, ?_, fun _ _ => trivial, ?_, fun h => (by cases h), ?_⟩
 ·rw [← hW1, hrec]; exact run_enterLoop_outer _ _ _ _ _
 ·simp only [resolve, hg]
  simp [go_sem]
 ·simp [invoke, go_sem, eg]
 ·refine (hcall (w.heap.size + 1) (fun k W => J k W ∧ W.heap[w.heap.size + 1]? = some (.loop (rec .ready none)) ∧ W.heap[w.heap.size]? = some (.deferred (some []))) W1 hE1 (by omega) (fun _ _ h => ⟨h.1, (Array.getElem?_eq_some_iff.1 h.2.1).1⟩)
   (fun _ _ _ h hj e1 e2 => ⟨hj, e2.trans h.2.1, e1.trans h.2.2⟩) ?_ ⟨h0 _ hE1, hL1, hD1⟩).mono ?_
  ·rintro k x W ⟨hj, hl, hd⟩ hk hx
   have hlt : w.heap.size + 1 < W.heap.size := (Array.getElem?_eq_some_iff.1 hl).1
   have hy := run_yield (P := P) (args := encs x) hl (by rw [hrec]; exact hps x)
   rw [hrec] at hy
   refine ⟨fn, _, assign, body, hy, roundIn_of_wpIn hfn (hassign _ x W _ ?_)⟩
   refine ⟨_, run_beginRound hl (by rw [hrec]), ?_⟩
   have hl2 : (W.putObj (w.heap.size + 1) (.loop { rec .ready none with state := .busy })).heap[w.heap.size + 1]? = some (.loop { rec .ready none with state := .busy }) := World.putObj_heap_same hlt
   have hd2 : (W.putObj (w.heap.size + 1) (.loop { rec .ready none with state := .busy })).heap[w.heap.size]? = some (.deferred (some [])) := (World.putObj_heap_other (by omega)).trans hd
   refine wpIn_mono (hbody _ k x _ (hJ _ _ _ _ hj hl rfl) hk (hX k _ _ _ _ hx hl rfl)) ?_
   rintro e a3 W3 ⟨rfl, hk3, hkp3, hj3⟩
   have hl3 := hk3.same _ _ (by omega) hl2 rfl
   have hd3 := hk3.same _ _ (Nat.le_refl _) hd2 rfl
   have hr := run_endRound (P := P) none hl3
   rw [hrec] at hr hl3 ⊢
   exact ⟨_, _, hr, rfl, ⟨hJ _ _ _ _ hj3 hl3 rfl, World.putObj_heap_same (Array.getElem?_eq_some_iff.1 hl3).1, (World.putObj_heap_other (by omega)).trans hd3⟩,
    hKt (hKb _ _ _ hl rfl) (hKt hkp3 (hKb _ _ _ hl3 rfl))⟩
  ·rintro e W2 ⟨⟨v, rfl⟩, hj, hl, hd⟩
   exact ⟨none, _, by have := run_endLoop (P := P) hl (by rw [hrec]; simp); rw [hrec] at this; exact this, hdone _ _ (Nat.le_refl _) (hJ _ _ _ _ hj hl rfl) ((World.putObj_heap_other (by omega)).trans hd)⟩
/-- a piece of code that ends as usual -/
def NQ (Q : Exit → Act → World → Prop) : Exit → Act → World → Prop
 | .normal, a, w => Q .normal a w
 | _, _, _ => False
theorem wpIn_normal {F : Fence} {n : Nat} {P : Program} {c : Code} {Q : Exit → Act → World → Prop} {a : Act} {w : World} (h : c.wpIn F n P (NQ Q) a w) : c.wpIn F n P Q a w :=
 wpIn_mono h fun e a' w' hq => by
  cases e with
  | normal => exact hq
  | _ => exact hq.elim
theorem KpM.put {M : Nat → Prop} (W : World) (b : Nat) (o' : Obj) (hm : M b) : KpM M W (W.putObj b o') :=
 ⟨by simp, fun x _ hx => World.putObj_heap_other (fun e => hx (by rw [e]; exact hm)), rfl, rfl, rfl⟩
theorem boxed_kp {M : Nat → Prop} {A B : World} {b : Nat} {t : TypeId} {v : Value} (h : Boxed A b t v) (k : KpM M A B) (hm : ¬ M b) : Boxed B b t v := (k.block b h.lt hm).trans h
theorem KpM.set {M : Nat → Prop} (W : World) (b : Nat) (v : Value) (hm : M b) : KpM M W (W.setCell ⟨b, 0, none⟩ v) := (KpM.store (Ext.refl W) b v).mono (fun x h => by rw [h]; exact hm)
end Go.Q

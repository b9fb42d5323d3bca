import Derived.Test.YtnhpcoagkmgdoaaGreatX15
set_option linter.unusedVariables false
set_option linter.unusedSimpArgs false
/- Layer 10 in plain Lean: Guard: what it has printed is the beginning of what is printed without losses. -/
namespace Go.Q
theorem ord_bd {o : Ord} (h : ordB o = true) : (0 ≤ o.frm ∧ o.frm ≤ 127) ∧ 0 ≤ o.to ∧ o.to ≤ 127 := by
 simp only [ordB, addrB, inB, Bool.and_eq_true, decide_eq_true_eq] at h
 omega
theorem reads_bd {s : St} (h : Valid s) : ∀ a ∈ readsQ s, 0 ≤ a ∧ a ≤ 127 := by
 intro a ha
 have ho := ord_bd h.ord
 unfold readsQ at ha
 rw [List.mem_cons, List.mem_append] at ha
 rcases ha with rfl | ha | ha
 ·exact h.at_
 ·split at ha
  ·rw [List.mem_singleton] at ha; subst ha; exact ho.1
  ·simp at ha
 ·split at ha
  ·rw [List.mem_singleton] at ha; subst ha; exact ho.2
  ·simp at ha
theorem notice_some {m : Lm} (hs : Valid m.s) (h : 0 ≤ noticeQ m) : noticeQ m ≤ 127 ∧ badAt m.bad (noticeQ m) = true := by
 unfold noticeQ at *
 cases e : (readsQ m.s).find? (badAt m.bad) with
 | none => rw [e] at h; exact absurd h (by decide)
 | some a => exact ⟨(reads_bd hs a (List.mem_of_find?_eq_some e)).2, List.find?_some e⟩
/-- an order writes -/
def wrO (o : Ord) : Prop := (1 ≤ o.op ∧ o.op ≤ 4) ∨ o.op = 6
instance (o : Ord) : Decidable (wrO o) := by unfold wrO; infer_instance
theorem run_one {c : St} (h : c.why = 0) : runQ 1 c = stepQ c := by
 show (if c.why = 0 then runQ 0 (stepQ c) else c) = _
 rw [if_pos h]
 rfl
end Go.Q
/- Layer 10 in plain Lean: Guard with losses, each at an address of its own, against the run without losses. -/
namespace Go.Q
theorem hap_why (L : List Loss) (m : Lm) : (hapQ L m).s.why = m.s.why := by
 have e := congrArg St.why (hap_same L m)
 exact e
theorem hap_done (L : List Loss) (m : Lm) : (hapQ L m).s.done = m.s.done := by
 have e := congrArg St.done (hap_same L m)
 exact e
theorem do_valid {m : Lm} (h : Valid m.s) : Valid (doL m).s := runQ_valid 1 h
theorem do_blen (m : Lm) : (doL m).bad.length = m.bad.length := by
 unfold doL
 dsimp only
 split
 ·rw [List.length_set]
 ·rfl
end Go.Q
/- Layer 10 in plain Lean: Recover: it ends, and comes to what a run without losses comes to. -/
namespace Go.Q
structure Rm where
 m : Lm
 last : St
 back : Nat
def zerosB : List Bool := List.replicate 128 false
def someB (b : List Bool) : Bool := b.any id
def endR (s0 : St) (most : Int) (s : St) : Bool := (s.done - s0.done == most) || (s.why != 0)
def dueR (s0 : St) (every : Int) (s : St) : Bool := (s.done - s0.done) % every == 0
/-- once round Recover's loop: what goes on, or what it returns -/
def recNext (L : List Loss) (s0 : St) (every most : Int) (r : Rm) : Rm ⊕ (St × Nat) :=
 let m1 := hapQ L r.m
 if ((endR s0 most m1.s || dueR s0 every m1.s) && someB m1.bad) = true then .inl ⟨⟨r.last, zerosB, m1.gone⟩, r.last, r.back + 1⟩
 else if endR s0 most m1.s = true then .inr (m1.s, r.back)
 else
  let last := if dueR s0 every m1.s = true then m1.s else r.last
  if 0 ≤ noticeQ m1 then .inl ⟨⟨last, zerosB, m1.gone⟩, last, r.back + 1⟩ else .inl ⟨doL m1, last, r.back⟩
def recIter (L : List Loss) (s0 : St) (every most : Int) : Nat → Rm → Option (St × Nat)
 | 0, _ => none
 | n + 1, r => match recNext L s0 every most r with | .inr x => some x | .inl r2 => recIter L s0 every most n r2
/-- the loop, begun so, ends with this -/
def RecTo (L : List Loss) (s0 : St) (every most : Int) (r : Rm) (x : St × Nat) : Prop := ∃ n, recIter L s0 every most n r = some x
theorem RecTo.next {L : List Loss} {s0 : St} {every most : Int} {r r2 : Rm} {x : St × Nat} (h : RecTo L s0 every most r x) (e : recNext L s0 every most r = .inl r2) : RecTo L s0 every most r2 x := by
 obtain ⟨n, hn⟩ := h
 cases n with
 | zero => cases hn
 | succ n =>
  unfold recIter at hn
  rw [e] at hn
  exact ⟨n, hn⟩
theorem RecTo.fin {L : List Loss} {s0 : St} {every most : Int} {r : Rm} {x y : St × Nat} (h : RecTo L s0 every most r x) (e : recNext L s0 every most r = .inr y) : x = y := by
 obtain ⟨n, hn⟩ := h
 cases n with
 | zero => cases hn
 | succ n =>
  unfold recIter at hn
  rw [e] at hn
  exact (Option.some.inj hn).symm
theorem RecTo.of_next {L : List Loss} {s0 : St} {every most : Int} {r r2 : Rm} {x : St × Nat} (e : recNext L s0 every most r = .inl r2) (h : RecTo L s0 every most r2 x) : RecTo L s0 every most r x := by
 obtain ⟨n, hn⟩ := h
 exact ⟨n + 1, by unfold recIter; rw [e]; exact hn⟩
theorem RecTo.of_fin {L : List Loss} {s0 : St} {every most : Int} {r : Rm} {x : St × Nat} (e : recNext L s0 every most r = .inr x) : RecTo L s0 every most r x := ⟨1, by unfold recIter; rw [e]⟩
/-- how many losses have not happened -/
def leftL (L : List Loss) (g : Int → Bool) : Nat := (L.filter fun y => !g y.after).length
theorem leftL_le (L : List Loss) (g : Int → Bool) : leftL L g ≤ L.length := List.length_filter_le ..
theorem left_hap (L : List Loss) (m : Lm) : leftL L (hapQ L m).gone + (dueQ L m).length = leftL L m.gone := by
 unfold leftL dueQ
 by_cases hg : m.gone m.s.done = true
 ·rw [if_pos hg]
  show (L.filter fun y => !(y.after == m.s.done || m.gone y.after)).length + 0 = _
  rw [Nat.add_zero]
  congr 1
  refine List.filter_congr fun y _ => ?_
  by_cases e : y.after = m.s.done
  ·rw [e, hg]; simp
  ·have : (y.after == m.s.done) = false := by simpa using e
   rw [this]; rfl
 ·rw [if_neg hg]
  have hg2 : m.gone m.s.done = false := by simpa using hg
  show (L.filter fun y => !(y.after == m.s.done || m.gone y.after)).length + _ = _
  induction L with
  | nil => rfl
  | cons y L ih =>
   rw [List.filter_cons, List.filter_cons, List.filter_cons]
   by_cases e : y.after = m.s.done
   ·rw [e, hg2]
    simp only [beq_self_eq_true, Bool.true_or, Bool.not_true, Bool.false_eq_true, if_false, Bool.not_false, if_true, List.length_cons]
    omega
   ·have : (y.after == m.s.done) = false := by simpa using e
    rw [this]
    simp only [Bool.false_or, Bool.false_eq_true, if_false]
    by_cases e2 : (!m.gone y.after) = true
    ·rw [if_pos e2, if_pos e2, List.length_cons, List.length_cons]; omega
    ·rw [if_neg e2, if_neg e2]; exact ih
def badN (b : List Bool) : Nat := if someB b = true then 1 else 0
theorem badN_le (b : List Bool) : badN b ≤ 1 := by unfold badN; split <;> omega
theorem some_bad {b : List Bool} : someB b = true ↔ ∃ a : Nat, a < b.length ∧ b[a]?.getD false = true := by
 unfold someB
 rw [List.any_eq_true]
 constructor
 ·rintro ⟨x, hx, h⟩
  obtain ⟨i, hi, rfl⟩ := List.mem_iff_getElem.1 hx
  exact ⟨i, hi, by rw [List.getElem?_eq_getElem hi]; exact h⟩
 ·rintro ⟨a, ha, h⟩
  rw [List.getElem?_eq_getElem ha] at h
  exact ⟨b[a], List.getElem_mem ha, h⟩
theorem zeros_none : someB zerosB = false := by
 unfold someB zerosB
 rw [List.any_replicate]
 simp
/-- a word can be bad only if it was, or a loss happens -/
theorem hap_some {L : List Loss} {m : Lm} (hL : ∀ y ∈ L, lossOk y = true) (hb : m.bad.length = 128) : badN (hapQ L m).bad ≤ badN m.bad + (dueQ L m).length := by
 by_cases h : someB (hapQ L m).bad = true
 ·obtain ⟨a, ha, h2⟩ := some_bad.1 h
  have hl : (hapQ L m).bad.length = 128 := (lossesB_length _ _).trans hb
  have h3 : badAt (hapQ L m).bad (a : Int) = true := by unfold badAt; rw [Int.toNat_natCast]; exact h2
  rcases losses_bad (F := dueQ L m) hb (fun y hy => (loss_ok (hL y (due_mem hy).1)).2.1) (Int.natCast_nonneg a) h3 with h4 | ⟨y, hy, _⟩
  ·have : someB m.bad = true := some_bad.2 ⟨a, by omega, by unfold badAt at h4; rw [Int.toNat_natCast] at h4; exact h4⟩
   unfold badN
   rw [if_pos h, if_pos this]
   omega
  ·have : 0 < (dueQ L m).length := List.length_pos_of_mem hy
   have := badN_le (hapQ L m).bad
   omega
 ·unfold badN
  rw [if_neg h]
  omega
theorem do_some {m : Lm} (hb : m.bad.length = 128) : badN (doL m).bad ≤ badN m.bad := by
 unfold doL
 dsimp only
 split
 ·by_cases h : someB (m.bad.set (writesQ m.s).toNat false) = true
  ·obtain ⟨a, ha, h2⟩ := some_bad.1 h
   rw [List.length_set] at ha
   have : someB m.bad = true := some_bad.2 ⟨a, ha, by
    by_cases e : (writesQ m.s).toNat = a
    ·rw [e, List.getElem?_set_self ha] at h2; simp at h2
    ·rw [List.getElem?_set_ne e] at h2; exact h2⟩
   unfold badN
   rw [if_pos h, if_pos this]
   exact Nat.le_refl _
  ·unfold badN
   rw [if_neg h]
   omega
 ·exact Nat.le_refl _
/-- what holds at the head of Recover's loop -/
structure RInv (L : List Loss) (s0 : St) (most : Int) (r : Rm) : Prop where
 valid : Valid r.m.s
 lvalid : Valid r.last
 blen : r.m.bad.length = 128
 done : s0.done ≤ r.m.s.done ∧ r.m.s.done ≤ s0.done + most
 ldone : s0.done ≤ r.last.done ∧ r.last.done ≤ s0.done + most
 back : r.back + leftL L r.m.gone + badN r.m.bad ≤ L.length
def muR (L : List Loss) (s0 : St) (most : Int) (r : Rm) : Nat :=
 (leftL L r.m.gone + badN r.m.bad) * (most.toNat + 2) + (if r.m.s.why = 0 then (most - (r.m.s.done - s0.done)).toNat + 1 else 0)
theorem step_done (s : St) (h : s.why = 0) : (runQ 1 s).done = s.done + 1 ∨ ((runQ 1 s).done = s.done ∧ (runQ 1 s).why ≠ 0) := by
 rw [run_one h]
 unfold stepQ
 split
 ·exact .inl rfl
 ·rename_i h2; exact .inr ⟨rfl, h2⟩
theorem zeros_len : zerosB.length = 128 := List.length_replicate
/-- the loop's invariant holds on, and its measure falls -/
theorem rec_inv {L : List Loss} {s0 : St} {every most : Int} {r r2 : Rm} (hL : ∀ y ∈ L, lossOk y = true) (hm : 0 ≤ most) (h : RInv L s0 most r) (e : recNext L s0 every most r = .inl r2) : RInv L s0 most r2 ∧ muR L s0 most r2 < muR L s0 most r := by
 have hv1 := hap_valid (L := L) h.valid hL
 have hl := left_hap L r.m
 have hbs := hap_some hL h.blen
 have hdone : (hapQ L r.m).s.done = r.m.s.done := hap_done L r.m
 have hwhy : (hapQ L r.m).s.why = r.m.s.why := hap_why L r.m
 have hb1 : (hapQ L r.m).bad.length = 128 := (lossesB_length _ _).trans h.blen
 have hback := h.back
 have hz : badN zerosB = 0 := by unfold badN; rw [zeros_none]; rfl
 have roll : ∀ last : St, Valid last → s0.done ≤ last.done ∧ last.done ≤ s0.done + most → someB (hapQ L r.m).bad = true → RInv L s0 most ⟨⟨last, zerosB, (hapQ L r.m).gone⟩, last, r.back + 1⟩ ∧ muR L s0 most ⟨⟨last, zerosB, (hapQ L r.m).gone⟩, last, r.back + 1⟩ < muR L s0 most r := by
  intro last hlv hld hsb
  have hb2 : badN (hapQ L r.m).bad = 1 := by unfold badN; rw [if_pos hsb]
  refine ⟨⟨hlv, hlv, zeros_len, hld, hld, by show r.back + 1 + leftL L (hapQ L r.m).gone + badN zerosB ≤ L.length; omega⟩, ?_⟩
  unfold muR
  dsimp only
  rw [hz]
  have k1 : leftL L (hapQ L r.m).gone + 0 + 1 ≤ leftL L r.m.gone + badN r.m.bad := by omega
  have k2 := Nat.mul_le_mul_right (most.toNat + 2) k1
  rw [Nat.add_mul (leftL L (hapQ L r.m).gone + 0) 1, Nat.one_mul] at k2
  have k3 : (if last.why = 0 then (most - (last.done - s0.done)).toNat + 1 else 0) ≤ most.toNat + 1 := by split <;> omega
  omega
 unfold recNext at e
 dsimp only at e
 split at e
 ·rename_i h1
  rw [Bool.and_eq_true] at h1
  obtain rfl := Sum.inl.inj e
  exact roll r.last h.lvalid h.ldone h1.2
 ·split at e
  ·cases e
  ·rename_i h1 h2
   have hn : (hapQ L r.m).s.done - s0.done ≠ most ∧ (hapQ L r.m).s.why = 0 := by
    unfold endR at h2
    simp only [Bool.or_eq_true, beq_iff_eq, bne_iff_ne, ne_eq, not_or, Decidable.not_not] at h2
    exact h2
   have hld : Valid (if dueR s0 every (hapQ L r.m).s = true then (hapQ L r.m).s else r.last) ∧ s0.done ≤ (if dueR s0 every (hapQ L r.m).s = true then (hapQ L r.m).s else r.last).done ∧ (if dueR s0 every (hapQ L r.m).s = true then (hapQ L r.m).s else r.last).done ≤ s0.done + most := by
    split
    ·exact ⟨hv1, by rw [hdone]; exact h.done.1, by rw [hdone]; exact h.done.2⟩
    ·exact ⟨h.lvalid, h.ldone⟩
   generalize (if dueR s0 every (hapQ L r.m).s = true then (hapQ L r.m).s else r.last) = last at *
   split at e
   ·rename_i h3
    obtain rfl := Sum.inl.inj e
    refine roll last hld.1 hld.2 ?_
    have := (notice_some hv1 h3)
    exact some_bad.2 ⟨(noticeQ (hapQ L r.m)).toNat, by rw [hb1]; omega, this.2⟩
   ·obtain rfl := Sum.inl.inj e
    have hds := do_some hb1
    have hsd := step_done (hapQ L r.m).s hn.2
    have hd := h.done
    have hw0 : r.m.s.why = 0 := hwhy.symm.trans hn.2
    have hgone : (doL (hapQ L r.m)).gone = (hapQ L r.m).gone := rfl
    have hdd : (doL (hapQ L r.m)).s = runQ 1 (hapQ L r.m).s := rfl
    refine ⟨⟨do_valid hv1, hld.1, (do_blen _).trans hb1, ?_, hld.2, ?_⟩, ?_⟩
    ·show s0.done ≤ (runQ 1 (hapQ L r.m).s).done ∧ (runQ 1 (hapQ L r.m).s).done ≤ s0.done + most
     rcases hsd with h4 | ⟨h4, _⟩ <;> rw [h4, hdone] <;> omega
    ·show r.back + leftL L (doL (hapQ L r.m)).gone + badN (doL (hapQ L r.m)).bad ≤ L.length
     rw [hgone]; omega
    ·unfold muR
     dsimp only
     rw [hgone, hdd, if_pos hw0]
     have k1 : leftL L (hapQ L r.m).gone + badN (doL (hapQ L r.m)).bad ≤ leftL L r.m.gone + badN r.m.bad := by omega
     have k2 := Nat.mul_le_mul_right (most.toNat + 2) k1
     have k3 : (if (runQ 1 (hapQ L r.m).s).why = 0 then (most - ((runQ 1 (hapQ L r.m).s).done - s0.done)).toNat + 1 else 0) < (most - (r.m.s.done - s0.done)).toNat + 1 := by
      rcases hsd with h4 | ⟨h4, h5⟩
      ·split <;> omega
      ·rw [if_neg h5]; omega
     omega
/-- Recover ends -/
theorem rec_ends {L : List Loss} {s0 : St} {every most : Int} (hL : ∀ y ∈ L, lossOk y = true) (hm : 0 ≤ most) : ∀ (k : Nat) (r : Rm), muR L s0 most r < k → RInv L s0 most r → ∃ x, RecTo L s0 every most r x
 | 0, r, h, _ => absurd h (by omega)
 | k + 1, r, h, hi => by
  cases e : recNext L s0 every most r with
  | inr x => exact ⟨x, RecTo.of_fin e⟩
  | inl r2 =>
   obtain ⟨h1, h2⟩ := rec_inv hL hm hi e
   obtain ⟨x, hx⟩ := rec_ends hL hm k r2 (by omega) h1
   exact ⟨x, RecTo.of_next e hx⟩
def beginR (s : St) : Rm := ⟨beginL s, s, 0⟩
theorem begin_inv {L : List Loss} {s : St} {most : Int} (h : Valid s) (hm : 0 ≤ most) : RInv L s most (beginR s) := by
 refine ⟨h, h, List.length_replicate, ⟨Int.le_refl _, by show s.done ≤ s.done + most; omega⟩, ⟨Int.le_refl _, by show s.done ≤ s.done + most; omega⟩, ?_⟩
 have h1 := leftL_le L (beginL s).gone
 have h2 : badN (beginL s).bad = 0 := by
  show badN zerosB = 0
  unfold badN; rw [zeros_none]; rfl
 show 0 + leftL L (beginL s).gone + badN (beginL s).bad ≤ L.length
 omega
end Go.Q
/- Layer 10 in plain Lean: Recover comes to what a run without losses comes to, and goes back at most as often as there are losses. -/
namespace Go.Q
end Go.Q

import Derived.Test.YtnhpcoagkmgdoaaX5
set_option linter.unusedVariables false
set_option linter.unusedSimpArgs false
/- Layer 10 in plain Lean: a machine whose lines lose pulses; what is looked at before each order keeps it like the machine without losses. -/
namespace Go.Q
structure Loss where
 after : Int
 addr : Int
 bit : Int
/-- a machine with losses: its state, which words are bad, after how many orders losses have happened -/
structure Lm where
 s : St
 bad : List Bool
 gone : Int → Bool
def badAt (b : List Bool) (a : Int) : Bool := b[a.toNat]?.getD false
/-- a word with a bit that is the other one -/
def flipW (x k : Int) : Int := if k < 24 then (if x / 2 ^ k.toNat % 2 = 1 then x - 2 ^ k.toNat else x + 2 ^ k.toNat) else x
def lossS (s : St) (y : Loss) : St := { s with store := s.store.set y.addr.toNat (flipW (wordAt s y.addr) y.bit) }
def lossB (b : List Bool) (y : Loss) : List Bool := b.set y.addr.toNat (!badAt b y.addr)
def dueQ (L : List Loss) (m : Lm) : List Loss := if m.gone m.s.done = true then [] else L.filter fun y => y.after == m.s.done
def hapQ (L : List Loss) (m : Lm) : Lm := ⟨(dueQ L m).foldl lossS m.s, (dueQ L m).foldl lossB m.bad, fun d => d == m.s.done || m.gone d⟩
/-- the addresses that the next order reads, its own first; the one that it writes, or -1 -/
def readsQ (s : St) : List Int := s.at_ :: ((if (1 ≤ (ordAt s).op ∧ (ordAt s).op ≤ 5) ∨ (ordAt s).op = 7 then [(ordAt s).frm] else []) ++ (if 2 ≤ (ordAt s).op ∧ (ordAt s).op ≤ 4 then [(ordAt s).to] else []))
def writesQ (s : St) : Int := if (1 ≤ (ordAt s).op ∧ (ordAt s).op ≤ 4) ∨ (ordAt s).op = 6 then (ordAt s).to else -1
def noticeQ (m : Lm) : Int := ((readsQ m.s).find? (badAt m.bad)).getD (-1)
/-- a machine after its next order, or at its end -/
def doL (m : Lm) : Lm := ⟨runQ 1 m.s, if 0 ≤ writesQ m.s ∧ (runQ 1 m.s).why = 0 then m.bad.set (writesQ m.s).toNat false else m.bad, m.gone⟩
def guardN (L : List Loss) : Nat → Lm → Lm × Int
 | 0, m => (m, -1)
 | n + 1, m => if m.s.why ≠ 0 then (m, -1) else if 0 ≤ noticeQ (hapQ L m) then (hapQ L m, noticeQ (hapQ L m)) else guardN L n (doL (hapQ L m))
def blindN (L : List Loss) : Nat → Lm → Lm
 | 0, m => m
 | n + 1, m => if m.s.why ≠ 0 then m else blindN L n (doL (hapQ L m))
def beginL (s : St) : Lm := ⟨s, List.replicate 128 false, fun _ => false⟩
def lossOk (y : Loss) : Bool := inB y.after 0 1000000000 && inB y.addr 0 127 && inB y.bit 0 24
def lossX (L : List Loss) : Int := if 40 < L.length then 3 else if L.any (fun y => !lossOk y) = true then 7 else 0
def guardX (s : St) (L : List Loss) (most : Int) : Int := if (checkQ s).2.2 ≠ 0 then (checkQ s).2.2 else if lossX L ≠ 0 then lossX L else if inB most 0 5000 = true then 0 else 7
/-- what Guard and Blind return -/
def guardE (s : St) (L : List Loss) (most : Int) : St × Int × Int := if guardX s L most = 0 then ((guardN L most.toNat (beginL s)).1.s, (guardN L most.toNat (beginL s)).2, 0) else (zst, 0, guardX s L most)
def blindE (s : St) (L : List Loss) (most : Int) : St × Int := if guardX s L most = 0 then ((blindN L most.toNat (beginL s)).s, 0) else (zst, guardX s L most)
theorem flipW_bd {x k : Int} (h0 : 0 ≤ x) (h1 : x ≤ 16777215) (hk : 0 ≤ k) : 0 ≤ flipW x k ∧ flipW x k ≤ 16777215 := by
 unfold flipW
 split
 ·obtain ⟨n, rfl⟩ := Int.eq_ofNat_of_zero_le hk
  rw [Int.toNat_natCast]
  have hn : n = 0 ∨ n = 1 ∨ n = 2 ∨ n = 3 ∨ n = 4 ∨ n = 5 ∨ n = 6 ∨ n = 7 ∨ n = 8 ∨ n = 9 ∨ n = 10 ∨ n = 11 ∨ n = 12 ∨ n = 13 ∨ n = 14 ∨ n = 15 ∨ n = 16 ∨ n = 17 ∨ n = 18 ∨ n = 19 ∨ n = 20 ∨ n = 21 ∨ n = 22 ∨ n = 23 := by omega
  rcases hn with rfl | rfl | rfl | rfl | rfl | rfl | rfl | rfl | rfl | rfl | rfl | rfl | rfl | rfl | rfl | rfl | rfl | rfl | rfl | rfl | rfl | rfl | rfl | rfl <;> split <;> omega
 ·exact ⟨h0, h1⟩
theorem wordAt_bd {s : St} (h : Valid s) (a : Int) : 0 ≤ wordAt s a ∧ wordAt s a ≤ 16777215 := by
 unfold wordAt
 rcases Nat.lt_or_ge a.toNat s.store.length with h2 | h2
 ·rw [List.getElem?_eq_getElem h2]; exact h.ws _ (List.getElem_mem h2)
 ·rw [List.getElem?_eq_none h2]; simp
theorem lossS_valid {s : St} (h : Valid s) {y : Loss} (hy : 0 ≤ y.bit) : Valid (lossS s y) := by
 have hb := wordAt_bd h y.addr
 refine ⟨by show (s.store.set _ _).length = 128; rw [List.length_set]; exact h.len, h.tlen, h.plen, fun x hx => ?_, h.wt, h.wp, h.taken, h.time, h.at_, h.done, h.why, h.place⟩
 rcases List.mem_or_eq_of_mem_set hx with h2 | rfl
 ·exact h.ws x h2
 ·exact flipW_bd hb.1 hb.2 hy
theorem lossesS_valid : ∀ {F : List Loss} {s : St}, Valid s → (∀ y ∈ F, 0 ≤ y.bit) → Valid (F.foldl lossS s)
 | [], _, h, _ => h
 | y :: F, s, h, hF => by
  rw [List.foldl_cons]
  exact lossesS_valid (lossS_valid h (hF y (List.mem_cons_self ..))) fun z hz => hF z (List.mem_cons_of_mem _ hz)
theorem lossB_length (b : List Bool) (y : Loss) : (lossB b y).length = b.length := List.length_set ..
theorem lossesB_length : ∀ (F : List Loss) (b : List Bool), (F.foldl lossB b).length = b.length
 | [], _ => rfl
 | y :: F, b => by rw [List.foldl_cons, lossesB_length F, lossB_length]
theorem loss_ok {y : Loss} (h : lossOk y = true) : (0 ≤ y.after ∧ y.after ≤ 1000000000) ∧ (0 ≤ y.addr ∧ y.addr ≤ 127) ∧ 0 ≤ y.bit ∧ y.bit ≤ 24 := by
 unfold lossOk inB at h
 simp only [Bool.and_eq_true, decide_eq_true_eq] at h
 omega
theorem losses_ok {L : List Loss} (h : lossX L = 0) : L.length ≤ 40 ∧ ∀ y ∈ L, lossOk y = true := by
 unfold lossX at h
 split at h
 ·omega
 ·rename_i h1
  split at h
  ·omega
  ·rename_i h2
   refine ⟨by omega, fun y hy => ?_⟩
   rw [List.any_eq_true] at h2
   cases hb : lossOk y with
   | true => rfl
   | false => exact absurd ⟨y, hy, by rw [hb]; rfl⟩ h2
theorem due_mem {L : List Loss} {m : Lm} {y : Loss} (h : y ∈ dueQ L m) : y ∈ L ∧ y.after = m.s.done ∧ m.gone m.s.done = false := by
 unfold dueQ at h
 split at h
 ·simp at h
 ·rename_i h1
  rw [List.mem_filter] at h
  exact ⟨h.1, by simpa using h.2, by simpa using h1⟩
theorem hap_valid {L : List Loss} {m : Lm} (h : Valid m.s) (hL : ∀ y ∈ L, lossOk y = true) : Valid (hapQ L m).s :=
 lossesS_valid h fun y hy => (loss_ok (hL y (due_mem hy).1)).2.2.1
theorem loss_same (s : St) (y : Loss) : lossS s y = { s with store := (lossS s y).store } := rfl
theorem losses_same : ∀ (F : List Loss) (s : St), F.foldl lossS s = { s with store := (F.foldl lossS s).store }
 | [], _ => rfl
 | y :: F, s => by
  rw [List.foldl_cons, losses_same F (lossS s y)]
  rfl
theorem hap_same (L : List Loss) (m : Lm) : (hapQ L m).s = { m.s with store := (hapQ L m).s.store } := losses_same _ _
theorem badAt_set {b : List Bool} {a c : Int} {v : Bool} (ha : 0 ≤ a) (hc : 0 ≤ c) (hl : c ≤ 127) (hb : b.length = 128) : badAt (b.set c.toNat v) a = if a = c then v else badAt b a := by
 unfold badAt
 by_cases e : a = c
 ·subst e
  rw [List.getElem?_set_self (by omega), if_pos rfl]
  rfl
 ·rw [List.getElem?_set_ne (by omega), if_neg e]
theorem wordAt_set {s : St} {a c : Int} {v : Int} (ha : 0 ≤ a) (hc : 0 ≤ c) (hl : c ≤ 127) (hs : s.store.length = 128) : wordAt { s with store := s.store.set c.toNat v } a = if a = c then v else wordAt s a := by
 unfold wordAt
 by_cases e : a = c
 ·subst e
  rw [List.getElem?_set_self (by omega), if_pos rfl]
  rfl
 ·rw [List.getElem?_set_ne (by omega), if_neg e]
/-- a machine is like a state without losses: the same, but for words that are bad -/
structure Like (m : Lm) (c : St) : Prop where
 len : m.s.store.length = 128
 clen : c.store.length = 128
 blen : m.bad.length = 128
 same : m.s = { c with store := m.s.store }
 eq : ∀ a, 0 ≤ a → a ≤ 127 → badAt m.bad a = false → wordAt m.s a = wordAt c a
/-- a word is bad only if one of the losses at it has happened -/
def Fresh (L : List Loss) (m : Lm) : Prop := ∀ a, 0 ≤ a → badAt m.bad a = true → ∃ y ∈ L, y.addr = a ∧ m.gone y.after = true
theorem losses_like {c : St} : ∀ {F : List Loss} {m : Lm}, Like m c → (∀ y ∈ F, 0 ≤ y.addr ∧ y.addr ≤ 127) → F.Pairwise (fun x y => x.addr ≠ y.addr) → (∀ y ∈ F, badAt m.bad y.addr = false) → Like ⟨F.foldl lossS m.s, F.foldl lossB m.bad, m.gone⟩ c
 | [], m, h, _, _, _ => h
 | y :: F, m, h, hF, hp, hb => by
  rw [List.foldl_cons, List.foldl_cons]
  rw [List.pairwise_cons] at hp
  obtain ⟨ha0, ha1⟩ := hF y (List.mem_cons_self ..)
  have hby := hb y (List.mem_cons_self ..)
  refine losses_like (m := ⟨lossS m.s y, lossB m.bad y, m.gone⟩) ⟨?_, h.clen, ?_, ?_, ?_⟩ (fun z hz => hF z (List.mem_cons_of_mem _ hz)) hp.2 ?_
  ·show (m.s.store.set _ _).length = 128
   rw [List.length_set]; exact h.len
  ·rw [lossB_length]; exact h.blen
  ·show lossS m.s y = { c with store := (lossS m.s y).store }
   unfold lossS
   rw [h.same]
  ·intro a h0 h1 hg
   have hg2 : badAt (lossB m.bad y) a = false := hg
   unfold lossB at hg2
   rw [badAt_set h0 ha0 ha1 h.blen, hby] at hg2
   by_cases e : a = y.addr
   ·rw [if_pos e] at hg2; simp at hg2
   ·rw [if_neg e] at hg2
    show wordAt (lossS m.s y) a = _
    unfold lossS
    rw [wordAt_set h0 ha0 ha1 h.len, if_neg e]
    exact h.eq a h0 h1 hg2
  ·intro z hz
   show badAt (lossB m.bad y) z.addr = false
   unfold lossB
   rw [badAt_set (hF z (List.mem_cons_of_mem _ hz)).1 ha0 ha1 h.blen, if_neg (fun e => hp.1 z hz e.symm)]
   exact hb z (List.mem_cons_of_mem _ hz)
theorem losses_bad : ∀ {F : List Loss} {b : List Bool} {a : Int}, b.length = 128 → (∀ y ∈ F, 0 ≤ y.addr ∧ y.addr ≤ 127) → 0 ≤ a → badAt (F.foldl lossB b) a = true → badAt b a = true ∨ ∃ y ∈ F, y.addr = a
 | [], b, a, _, _, _, h => .inl h
 | y :: F, b, a, hl, hF, ha, h => by
  rw [List.foldl_cons] at h
  obtain ⟨h0, h1⟩ := hF y (List.mem_cons_self ..)
  rcases losses_bad (by rw [lossB_length]; exact hl) (fun z hz => hF z (List.mem_cons_of_mem _ hz)) ha h with h2 | ⟨z, hz, h2⟩
  ·unfold lossB at h2
   rw [badAt_set ha h0 h1 hl] at h2
   by_cases e : a = y.addr
   ·exact .inr ⟨y, List.mem_cons_self .., e.symm⟩
   ·rw [if_neg e] at h2; exact .inl h2
  ·exact .inr ⟨z, List.mem_cons_of_mem _ hz, h2⟩
def apartL (L : List Loss) : Prop := L.Pairwise fun x y => x.addr ≠ y.addr
theorem apart_one {L : List Loss} (h : apartL L) {x y : Loss} (hx : x ∈ L) (hy : y ∈ L) (e : x.addr = y.addr) : x = y := by
 unfold apartL at h
 induction L with
 | nil => simp at hx
 | cons z L ih =>
  rw [List.pairwise_cons] at h
  rw [List.mem_cons] at hx hy
  rcases hx with rfl | hx <;> rcases hy with rfl | hy
  ·rfl
  ·exact absurd e (h.1 y hy)
  ·exact absurd e.symm (h.1 x hx)
  ·exact ih h.2 hx hy
theorem hap_fresh {L : List Loss} {m : Lm} (hL : ∀ y ∈ L, lossOk y = true) (hb : m.bad.length = 128) (h : Fresh L m) : Fresh L (hapQ L m) := by
 intro a ha h2
 rcases losses_bad hb (fun y hy => (loss_ok (hL y (due_mem hy).1)).2.1) ha h2 with h3 | ⟨y, hy, e⟩
 ·obtain ⟨y, hy, e, hg⟩ := h a ha h3
  exact ⟨y, hy, e, by show (_ || _) = true; rw [hg]; simp⟩
 ·obtain ⟨h4, h5, _⟩ := due_mem hy
  exact ⟨y, h4, e, by show (y.after == m.s.done || _) = true; rw [h5]; simp⟩
theorem hap_like {L : List Loss} {m : Lm} {c : St} (hL : ∀ y ∈ L, lossOk y = true) (ha : apartL L) (h : Like m c) (hf : Fresh L m) : Like (hapQ L m) c := by
 have hd : ∀ y ∈ dueQ L m, badAt m.bad y.addr = false := fun y hy => by
  obtain ⟨h1, h2, h3⟩ := due_mem hy
  cases hb : badAt m.bad y.addr with
  | false => rfl
  | true =>
   obtain ⟨z, hz, e, hg⟩ := hf y.addr (loss_ok (hL y h1)).2.1.1 hb
   rw [apart_one ha hz h1 e, h2, h3] at hg
   cases hg
 have hp : (dueQ L m).Pairwise (fun x y => x.addr ≠ y.addr) := by
  unfold dueQ
  split
  ·exact List.Pairwise.nil
  ·exact List.Pairwise.filter _ ha
 have := losses_like h (fun y hy => (loss_ok (hL y (due_mem hy).1)).2.1) hp hd
 exact ⟨this.len, this.clen, this.blen, this.same, this.eq⟩
end Go.Q
/- Layer 10 in plain Lean: Guard: what it has printed is the beginning of what is printed without losses. -/
namespace Go.Q
theorem ord_bd {o : Ord} (h : ordB o = true) : (0 ≤ o.frm ∧ o.frm ≤ 127) ∧ 0 ≤ o.to ∧ o.to ≤ 127 := by
 simp only [ordB, addrB, inB, Bool.and_eq_true, decide_eq_true_eq] at h
 omega
theorem reads_bd {s : St} (h : Valid s) : ∀ a ∈ readsQ s, 0 ≤ a ∧ a ≤ 127 := by
 intro a ha
 have ho := ord_bd h.ord
 unfold readsQ at ha
 rw [List.mem_cons, List.mem_append] at ha
 rcases ha with rfl | ha | ha
 ·exact h.at_
 ·split at ha
  ·rw [List.mem_singleton] at ha; subst ha; exact ho.1
  ·simp at ha
 ·split at ha
  ·rw [List.mem_singleton] at ha; subst ha; exact ho.2
  ·simp at ha
theorem notice_none {m : Lm} (hs : Valid m.s) (h : ¬ 0 ≤ noticeQ m) : ∀ a ∈ readsQ m.s, badAt m.bad a = false := by
 unfold noticeQ at h
 cases e : (readsQ m.s).find? (badAt m.bad) with
 | none =>
  rw [List.find?_eq_none] at e
  intro a ha
  simpa using e a ha
 | some a =>
  rw [e] at h
  have := reads_bd hs a (List.mem_of_find?_eq_some e)
  exact absurd this.1 h
theorem notice_some {m : Lm} (hs : Valid m.s) (h : 0 ≤ noticeQ m) : noticeQ m ≤ 127 ∧ badAt m.bad (noticeQ m) = true := by
 unfold noticeQ at *
 cases e : (readsQ m.s).find? (badAt m.bad) with
 | none => rw [e] at h; exact absurd h (by decide)
 | some a => exact ⟨(reads_bd hs a (List.mem_of_find?_eq_some e)).2, List.find?_some e⟩
/-- an order writes -/
def wrO (o : Ord) : Prop := (1 ≤ o.op ∧ o.op ≤ 4) ∨ o.op = 6
instance (o : Ord) : Decidable (wrO o) := by unfold wrO; infer_instance
theorem do_like (c : St) (S : List Int) (o : Ord) (h1 : ((1 ≤ o.op ∧ o.op ≤ 5) ∨ o.op = 7) → wordAt { c with store := S } o.frm = wordAt c o.frm) (h2 : 2 ≤ o.op ∧ o.op ≤ 4 → wordAt { c with store := S } o.to = wordAt c o.to) :
  ∃ v, doQ { c with store := S } o = { doQ c o with store := if wrO o then S.set o.to.toNat v else S } ∧ (doQ c o).store = if wrO o then c.store.set o.to.toNat v else c.store := by
 unfold doQ
 by_cases e1 : o.op = 1
 ·have hw : wrO o := .inl ⟨by omega, by omega⟩
  have a := h1 (.inl ⟨by omega, by omega⟩)
  exact ⟨wordAt c o.frm, by simp only [if_pos e1, if_pos hw, a], by simp only [if_pos e1, if_pos hw]⟩
 by_cases e2 : o.op = 2
 ·have hw : wrO o := .inl ⟨by omega, by omega⟩
  have a := h1 (.inl ⟨by omega, by omega⟩)
  have b := h2 ⟨by omega, by omega⟩
  exact ⟨(wordAt c o.to + wordAt c o.frm) % 16777216, by simp only [if_neg e1, if_pos e2, if_pos hw, a, b], by simp only [if_neg e1, if_pos e2, if_pos hw]⟩
 by_cases e3 : o.op = 3
 ·have hw : wrO o := .inl ⟨by omega, by omega⟩
  have a := h1 (.inl ⟨by omega, by omega⟩)
  have b := h2 ⟨by omega, by omega⟩
  exact ⟨(wordAt c o.to - wordAt c o.frm) % 16777216, by simp only [if_neg e1, if_neg e2, if_pos e3, if_pos hw, a, b], by simp only [if_neg e1, if_neg e2, if_pos e3, if_pos hw]⟩
 by_cases e4 : o.op = 4
 ·have hw : wrO o := .inl ⟨by omega, by omega⟩
  have a := h1 (.inl ⟨by omega, by omega⟩)
  have b := h2 ⟨by omega, by omega⟩
  exact ⟨prod (wordAt c o.frm) (wordAt c o.to), by simp only [if_neg e1, if_neg e2, if_neg e3, if_pos e4, if_pos hw, a, b], by simp only [if_neg e1, if_neg e2, if_neg e3, if_pos e4, if_pos hw]⟩
 by_cases e6 : o.op = 6
 ·have hw : wrO o := .inr e6
  exact ⟨c.tape[c.taken.toNat]?.getD 0, by simp only [if_neg e1, if_neg e2, if_neg e3, if_neg e4, if_pos e6, if_pos hw], by simp only [if_neg e1, if_neg e2, if_neg e3, if_neg e4, if_pos e6, if_pos hw]⟩
 have hw : ¬ wrO o := fun h => by rcases h with h | h <;> omega
 by_cases e7 : o.op = 7
 ·have a := h1 (.inr e7)
  exact ⟨0, by simp only [if_neg e1, if_neg e2, if_neg e3, if_neg e4, if_neg e6, if_pos e7, if_neg hw, a], by simp only [if_neg e1, if_neg e2, if_neg e3, if_neg e4, if_neg e6, if_pos e7, if_neg hw]⟩
 ·exact ⟨0, by simp only [if_neg e1, if_neg e2, if_neg e3, if_neg e4, if_neg e6, if_neg e7, if_neg hw], by simp only [if_neg e1, if_neg e2, if_neg e3, if_neg e4, if_neg e6, if_neg e7, if_neg hw]⟩
theorem run_one {c : St} (h : c.why = 0) : runQ 1 c = stepQ c := by
 show (if c.why = 0 then runQ 0 (stepQ c) else c) = _
 rw [if_pos h]
 rfl
theorem when_other {o : Ord} {a b : Bool} (h : o.op ≠ 5) (t : Int) : whenAt o a = whenAt o b ∧ whenUntil o t a = whenUntil o t b := by
 have e : whenAt o a = whenAt o b := by
  unfold whenAt
  rw [if_neg (fun e => h e.1), if_neg (fun e => h e.1)]
 exact ⟨e, by unfold whenUntil; rw [e]⟩
/-- an order whose words are good keeps the machine like the state without losses -/
theorem step_like {m : Lm} {c : St} (h : Like m c) (hv : Valid m.s) (hc : Valid c) (hy : c.why = 0) (hn : ∀ a ∈ readsQ m.s, badAt m.bad a = false) : Like (doL m) (runQ 1 c) := by
 obtain ⟨s, bad, gone⟩ := m
 obtain ⟨hlen, hclen, hblen, hsame, heq⟩ := h
 dsimp only at *
 obtain ⟨S, hS⟩ : ∃ S, s.store = S := ⟨_, rfl⟩
 rw [hS] at hsame
 subst hsame
 clear hS
 have hrd := fun a (ha : a ∈ readsQ { c with store := S }) => heq a (reads_bd hv a ha).1 (reads_bd hv a ha).2 (hn a ha)
 have hord : ordAt { c with store := S } = ordAt c := by
  unfold ordAt
  rw [hrd _ (List.mem_cons_self ..)]
 have hob := ord_bd hc.ord
 have h1 : ((1 ≤ (ordAt c).op ∧ (ordAt c).op ≤ 5) ∨ (ordAt c).op = 7) → wordAt { c with store := S } (ordAt c).frm = wordAt c (ordAt c).frm := fun h => hrd _ (by
  unfold readsQ
  rw [hord, if_pos h]
  simp)
 have h2 : 2 ≤ (ordAt c).op ∧ (ordAt c).op ≤ 4 → wordAt { c with store := S } (ordAt c).to = wordAt c (ordAt c).to := fun h => hrd _ (by
  unfold readsQ
  rw [hord, if_pos h]
  simp)
 have hwh : whenAt (ordAt c) (negAt { c with store := S }) = whenAt (ordAt c) (negAt c) ∧ whenUntil (ordAt c) c.time (negAt { c with store := S }) = whenUntil (ordAt c) c.time (negAt c) := by
  by_cases e : (ordAt c).op = 5
  ·have : negAt { c with store := S } = negAt c := by
    unfold negAt
    rw [hord, h1 (.inl ⟨by omega, by omega⟩)]
   rw [this]
   exact ⟨rfl, rfl⟩
  ·exact when_other e _
 have hut : untilAt { c with store := S } = untilAt c := by
  unfold untilAt
  rw [hord]
  exact hwh.2
 have hwy : whyAt { c with store := S } = whyAt c := by
  unfold whyAt
  rw [hord, hut]
 obtain ⟨v, hd1, hd2⟩ := do_like c S (ordAt c) h1 h2
 have hwr : (0 ≤ writesQ { c with store := S }) ↔ wrO (ordAt c) := by
  unfold writesQ
  rw [hord]
  by_cases e : wrO (ordAt c)
  ·rw [if_pos (show (1 ≤ (ordAt c).op ∧ (ordAt c).op ≤ 4) ∨ (ordAt c).op = 6 from e)]
   exact ⟨fun _ => e, fun _ => hob.2.1⟩
  ·rw [if_neg (show ¬ ((1 ≤ (ordAt c).op ∧ (ordAt c).op ≤ 4) ∨ (ordAt c).op = 6) from e)]
   exact ⟨fun h => absurd h (by decide), fun h => absurd h e⟩
 have hwt : wrO (ordAt c) → writesQ { c with store := S } = (ordAt c).to := fun e => by
  unfold writesQ
  rw [hord]
  exact if_pos e
 have mk : ∀ (X : St) (B : List Bool) (Y : St), runQ 1 { c with store := S } = X → (if 0 ≤ writesQ { c with store := S } ∧ (runQ 1 { c with store := S }).why = 0 then bad.set (writesQ { c with store := S }).toNat false else bad) = B → runQ 1 c = Y → Like ⟨X, B, gone⟩ Y → Like (doL ⟨{ c with store := S }, bad, gone⟩) (runQ 1 c) := by
  intro X B Y h1 h2 h3 h4
  have : doL ⟨{ c with store := S }, bad, gone⟩ = ⟨X, B, gone⟩ := by
   unfold doL
   dsimp only
   rw [h2, h1]
  rw [this, h3]
  exact h4
 by_cases h0 : whyAt c = 0
 ·have es : runQ 1 { c with store := S } = { doQ { c with store := S } (ordAt c) with at_ := whenAt (ordAt c) (negAt c), time := untilAt c, done := c.done + 1 } := by
   rw [run_one (c := { c with store := S }) hy]
   unfold stepQ
   rw [hwy, if_pos h0, hord, hut, hwh.1]
  have ec : runQ 1 c = { doQ c (ordAt c) with at_ := whenAt (ordAt c) (negAt c), time := untilAt c, done := c.done + 1 } := by
   rw [run_one hy]
   unfold stepQ
   rw [if_pos h0]
  rw [hd1] at es
  have hyy : (runQ 1 { c with store := S }).why = 0 := by
   rw [es]
   exact (doQ_same _ _).2.2.2.2.trans hy
  by_cases hw : wrO (ordAt c)
  ·rw [if_pos hw] at hd2 es
   refine mk _ (bad.set (ordAt c).to.toNat false) _ es (by rw [if_pos ⟨hwr.2 hw, hyy⟩, hwt hw]) ec ⟨?_, ?_, ?_, rfl, ?_⟩
   ·show (S.set _ _).length = 128
    rw [List.length_set]; exact hlen
   ·show (doQ c (ordAt c)).store.length = 128
    rw [hd2, List.length_set]; exact hclen
   ·rw [List.length_set]; exact hblen
   ·intro a ha0 ha1 hg
    have hg3 : a = (ordAt c).to ∨ badAt bad a = false := by
     have h : badAt (bad.set (ordAt c).to.toNat false) a = false := hg
     rw [badAt_set ha0 hob.2.1 hob.2.2 hblen] at h
     by_cases e : a = (ordAt c).to
     ·exact .inl e
     ·rw [if_neg e] at h; exact .inr h
    have l1 : (S.set (ordAt c).to.toNat v)[a.toNat]?.getD 0 = if a = (ordAt c).to then v else wordAt { c with store := S } a := wordAt_set (s := { c with store := S }) ha0 hob.2.1 hob.2.2 hlen
    have l2 : (doQ c (ordAt c)).store[a.toNat]?.getD 0 = if a = (ordAt c).to then v else wordAt c a := by
     rw [hd2]
     exact wordAt_set (s := c) ha0 hob.2.1 hob.2.2 hclen
    refine Eq.trans l1 (Eq.trans ?_ l2.symm)
    by_cases e : a = (ordAt c).to
    ·rw [if_pos e, if_pos e]
    ·rw [if_neg e, if_neg e]
     exact heq a ha0 ha1 (hg3.resolve_left e)
  ·rw [if_neg hw] at hd2 es
   refine mk _ bad _ es (by rw [if_neg (fun h => hw (hwr.1 h.1))]) ec ⟨hlen, ?_, hblen, rfl, ?_⟩
   ·show (doQ c (ordAt c)).store.length = 128
    rw [hd2]; exact hclen
   ·intro a ha0 ha1 hg
    have l2 : (doQ c (ordAt c)).store[a.toNat]?.getD 0 = wordAt c a := by
     rw [hd2]
     rfl
    exact (heq a ha0 ha1 hg).trans l2.symm
 ·have es : runQ 1 { c with store := S } = { c with store := S, why := whyAt c } := by
   rw [run_one (c := { c with store := S }) hy]
   unfold stepQ
   rw [hwy, if_neg h0]
  have ec : runQ 1 c = { c with why := whyAt c } := by
   rw [run_one hy]
   unfold stepQ
   rw [if_neg h0]
  exact mk _ bad _ es (by rw [if_neg (fun h => h0 (by have := h.2; rw [es] at this; exact this))]) ec ⟨hlen, hclen, hblen, rfl, heq⟩
end Go.Q
/- Layer 10 in plain Lean: Guard with losses, each at an address of its own, against the run without losses. -/
namespace Go.Q
theorem Like.whyS {m : Lm} {c : St} (h : Like m c) : m.s.why = c.why := by
 have e := congrArg St.why h.same
 exact e
theorem Like.doneS {m : Lm} {c : St} (h : Like m c) : m.s.done = c.done := by
 have e := congrArg St.done h.same
 exact e
theorem hap_why (L : List Loss) (m : Lm) : (hapQ L m).s.why = m.s.why := by
 have e := congrArg St.why (hap_same L m)
 exact e
theorem hap_done (L : List Loss) (m : Lm) : (hapQ L m).s.done = m.s.done := by
 have e := congrArg St.done (hap_same L m)
 exact e
theorem begin_bad (s : St) (a : Int) : badAt (beginL s).bad a = false := by
 show (List.replicate 128 false)[a.toNat]?.getD false = false
 rw [List.getElem?_replicate]
 split <;> rfl
theorem begin_like {s : St} (h : Valid s) : Like (beginL s) s := ⟨h.len, h.len, List.length_replicate, rfl, fun _ _ _ _ => rfl⟩
theorem begin_fresh (L : List Loss) (s : St) : Fresh L (beginL s) := fun a _ h => by rw [begin_bad] at h; cases h
theorem do_valid {m : Lm} (h : Valid m.s) : Valid (doL m).s := runQ_valid 1 h
theorem do_blen (m : Lm) : (doL m).bad.length = m.bad.length := by
 unfold doL
 dsimp only
 split
 ·rw [List.length_set]
 ·rfl
theorem do_fresh {L : List Loss} {m : Lm} (hb : m.bad.length = 128) (hv : Valid m.s) (h : Fresh L m) : Fresh L (doL m) := by
 intro a ha h2
 have h3 : badAt m.bad a = true := by
  unfold doL at h2
  dsimp only at h2
  split at h2
  ·rename_i hw
   have hw1 : writesQ m.s ≤ 127 := by
    have ho := ord_bd hv.ord
    unfold writesQ
    split
    ·exact ho.2.2
    ·decide
   rw [badAt_set ha hw.1 hw1 hb] at h2
   split at h2
   ·cases h2
   ·exact h2
  ·exact h2
 exact h a ha h3
theorem guard_law {L : List Loss} (hL : ∀ y ∈ L, lossOk y = true) (ha : apartL L) : ∀ (n : Nat) {m : Lm} {c : St}, Valid m.s → Valid c → Like m c → Fresh L m →
  ∃ k, k ≤ n ∧ Like (guardN L n m).1 (runQ k c) ∧ ((guardN L n m).2 < 0 → (guardN L n m).2 = -1 ∧ runQ k c = runQ n c) ∧ (0 ≤ (guardN L n m).2 → (guardN L n m).2 ≤ 127 ∧ (guardN L n m).1.s.why = 0)
 | 0, m, c, _, _, h, _ => ⟨0, Nat.le_refl _, h, fun _ => ⟨rfl, rfl⟩, fun h => absurd h (by show ¬ (0 : Int) ≤ -1; decide)⟩
 | n + 1, m, c, hv, hc, h, hf => by
  have hwhy : m.s.why = c.why := h.whyS
  by_cases hy : m.s.why ≠ 0
  ·have e : guardN L (n + 1) m = (m, -1) := by
    show (if m.s.why ≠ 0 then (m, -1) else _) = _
    rw [if_pos hy]
   rw [e]
   exact ⟨0, Nat.zero_le _, h, fun _ => ⟨rfl, (runQ_end (show c.why ≠ 0 by rw [← hwhy]; exact hy) _).symm⟩, fun h => absurd h (by show ¬ (0 : Int) ≤ -1; decide)⟩
  ·have hy0 : m.s.why = 0 := Decidable.not_not.1 hy
   have h1 := hap_like hL ha h hf
   have hf1 := hap_fresh hL h.blen hf
   have hv1 := hap_valid (L := L) hv hL
   have hwhy1 : (hapQ L m).s.why = 0 := (hap_why L m).trans hy0
   by_cases hn : 0 ≤ noticeQ (hapQ L m)
   ·have e : guardN L (n + 1) m = (hapQ L m, noticeQ (hapQ L m)) := by
     show (if m.s.why ≠ 0 then (m, -1) else if 0 ≤ noticeQ (hapQ L m) then (hapQ L m, noticeQ (hapQ L m)) else _) = _
     rw [if_neg hy, if_pos hn]
    rw [e]
    exact ⟨0, Nat.zero_le _, h1, fun h => absurd h (by show ¬ noticeQ (hapQ L m) < 0; omega), fun _ => ⟨(notice_some hv1 hn).1, hwhy1⟩⟩
   ·have e : guardN L (n + 1) m = guardN L n (doL (hapQ L m)) := by
     show (if m.s.why ≠ 0 then (m, -1) else if 0 ≤ noticeQ (hapQ L m) then (hapQ L m, noticeQ (hapQ L m)) else _) = _
     rw [if_neg hy, if_neg hn]
    have hcy : c.why = 0 := hwhy.symm.trans hy0
    have h2 := step_like h1 hv1 hc hcy (notice_none hv1 hn)
    obtain ⟨k, hk, g1, g2, g3⟩ := guard_law hL ha n (do_valid hv1) (runQ_valid 1 hc) h2 (do_fresh h1.blen hv1 hf1)
    rw [e]
    refine ⟨k + 1, by omega, ?_, fun hneg => ?_, g3⟩
    ·rw [Nat.add_comm, runQ_add 1 k c]; exact g1
    ·obtain ⟨g4, g5⟩ := g2 hneg
     refine ⟨g4, ?_⟩
     rw [Nat.add_comm k 1, Nat.add_comm n 1, runQ_add 1 k c, runQ_add 1 n c]
     exact g5
/-- a run goes on: what it has printed stays -/
structure Goes (s t : St) : Prop where
 printed : s.printed.length ≤ t.printed.length ∧ t.printed.take s.printed.length = s.printed
 done : s.done ≤ t.done
 taken : s.taken ≤ t.taken
theorem Goes.refl (s : St) : Goes s s := ⟨⟨Nat.le_refl _, List.take_length⟩, Int.le_refl _, Int.le_refl _⟩
theorem Goes.trans {a b c : St} (h : Goes a b) (k : Goes b c) : Goes a c := by
 refine ⟨⟨Nat.le_trans h.printed.1 k.printed.1, ?_⟩, Int.le_trans h.done k.done, Int.le_trans h.taken k.taken⟩
 have h1 := h.printed.2
 have h2 := k.printed.2
 rw [← h2, List.take_take, Nat.min_eq_left h.printed.1] at h1
 exact h1
theorem doQ_goes (s : St) (o : Ord) : s.printed.length ≤ (doQ s o).printed.length ∧ (doQ s o).printed.take s.printed.length = s.printed ∧ s.taken ≤ (doQ s o).taken := by
 have r : s.printed.length ≤ s.printed.length ∧ s.printed.take s.printed.length = s.printed ∧ s.taken ≤ s.taken := ⟨Nat.le_refl _, List.take_length, Int.le_refl _⟩
 unfold doQ
 dsimp only
 split
 ·exact r
 split
 ·exact r
 split
 ·exact r
 split
 ·exact r
 split
 ·exact ⟨r.1, r.2.1, by show s.taken ≤ s.taken + 1; omega⟩
 split
 ·refine ⟨?_, ?_, r.2.2⟩
  ·show s.printed.length ≤ (s.printed ++ _).length
   rw [List.length_append]; omega
  ·show (s.printed ++ _).take s.printed.length = _
   exact List.take_left ..
 ·exact r
theorem step_goes (s : St) : Goes s (stepQ s) := by
 unfold stepQ
 split
 ·obtain ⟨h1, h2, h3⟩ := doQ_goes s (ordAt s)
  exact ⟨⟨h1, h2⟩, by show s.done ≤ s.done + 1; omega, h3⟩
 ·exact ⟨⟨Nat.le_refl _, List.take_length⟩, Int.le_refl _, Int.le_refl _⟩
theorem run_goesQ : ∀ (n : Nat) (s : St), Goes s (runQ n s)
 | 0, s => Goes.refl s
 | n + 1, s => by
  show Goes s (if s.why = 0 then runQ n (stepQ s) else s)
  split
  ·exact (step_goes s).trans (run_goesQ n _)
  ·exact Goes.refl s
theorem run_goes_to {k n : Nat} (h : k ≤ n) (s : St) : Goes (runQ k s) (runQ n s) := by
 obtain ⟨d, rfl⟩ : ∃ d, n = k + d := ⟨n - k, by omega⟩
 rw [runQ_add]
 exact run_goesQ d _
/-- what DumpGuarded says -/
theorem guarded {L : List Loss} {s : St} (hs : Valid s) (hL : ∀ y ∈ L, lossOk y = true) (ha : apartL L) (n : Nat) :
  Goes (guardN L n (beginL s)).1.s (runQ n s) ∧ (0 ≤ (guardN L n (beginL s)).2 → (guardN L n (beginL s)).2 ≤ 127 ∧ (guardN L n (beginL s)).1.s.why = 0) ∧
  ((guardN L n (beginL s)).2 < 0 → (guardN L n (beginL s)).2 = -1 ∧ { (guardN L n (beginL s)).1.s with store := [] } = { runQ n s with store := ([] : List Int) }) := by
 obtain ⟨k, hk, h1, h2, h3⟩ := guard_law hL ha n hs hs (begin_like hs) (begin_fresh L s)
 have hg := run_goes_to hk s
 have hsame := h1.same
 generalize guardN L n (beginL s) = r at *
 obtain ⟨⟨t, bad, gone⟩, lost⟩ := r
 dsimp only at *
 refine ⟨?_, h3, fun hneg => ?_⟩
 ·rw [hsame]
  exact ⟨hg.printed, hg.done, hg.taken⟩
 ·obtain ⟨h4, h5⟩ := h2 hneg
  refine ⟨h4, ?_⟩
  rw [hsame, h5]
end Go.Q
/- Layer 10 in plain Lean: Recover: it ends, and comes to what a run without losses comes to. -/
namespace Go.Q
structure Rm where
 m : Lm
 last : St
 back : Nat
def zerosB : List Bool := List.replicate 128 false
def someB (b : List Bool) : Bool := b.any id
def endR (s0 : St) (most : Int) (s : St) : Bool := (s.done - s0.done == most) || (s.why != 0)
def dueR (s0 : St) (every : Int) (s : St) : Bool := (s.done - s0.done) % every == 0
/-- once round Recover's loop: what goes on, or what it returns -/
def recNext (L : List Loss) (s0 : St) (every most : Int) (r : Rm) : Rm ⊕ (St × Nat) :=
 let m1 := hapQ L r.m
 if ((endR s0 most m1.s || dueR s0 every m1.s) && someB m1.bad) = true then .inl ⟨⟨r.last, zerosB, m1.gone⟩, r.last, r.back + 1⟩
 else if endR s0 most m1.s = true then .inr (m1.s, r.back)
 else
  let last := if dueR s0 every m1.s = true then m1.s else r.last
  if 0 ≤ noticeQ m1 then .inl ⟨⟨last, zerosB, m1.gone⟩, last, r.back + 1⟩ else .inl ⟨doL m1, last, r.back⟩
def recIter (L : List Loss) (s0 : St) (every most : Int) : Nat → Rm → Option (St × Nat)
 | 0, _ => none
 | n + 1, r => match recNext L s0 every most r with | .inr x => some x | .inl r2 => recIter L s0 every most n r2
/-- the loop, begun so, ends with this -/
def RecTo (L : List Loss) (s0 : St) (every most : Int) (r : Rm) (x : St × Nat) : Prop := ∃ n, recIter L s0 every most n r = some x
theorem RecTo.next {L : List Loss} {s0 : St} {every most : Int} {r r2 : Rm} {x : St × Nat} (h : RecTo L s0 every most r x) (e : recNext L s0 every most r = .inl r2) : RecTo L s0 every most r2 x := by
 obtain ⟨n, hn⟩ := h
 cases n with
 | zero => cases hn
 | succ n =>
  unfold recIter at hn
  rw [e] at hn
  exact ⟨n, hn⟩
theorem RecTo.fin {L : List Loss} {s0 : St} {every most : Int} {r : Rm} {x y : St × Nat} (h : RecTo L s0 every most r x) (e : recNext L s0 every most r = .inr y) : x = y := by
 obtain ⟨n, hn⟩ := h
 cases n with
 | zero => cases hn
 | succ n =>
  unfold recIter at hn
  rw [e] at hn
  exact (Option.some.inj hn).symm
theorem RecTo.of_next {L : List Loss} {s0 : St} {every most : Int} {r r2 : Rm} {x : St × Nat} (e : recNext L s0 every most r = .inl r2) (h : RecTo L s0 every most r2 x) : RecTo L s0 every most r x := by
 obtain ⟨n, hn⟩ := h
 exact ⟨n + 1, by unfold recIter; rw [e]; exact hn⟩
theorem RecTo.of_fin {L : List Loss} {s0 : St} {every most : Int} {r : Rm} {x : St × Nat} (e : recNext L s0 every most r = .inr x) : RecTo L s0 every most r x := ⟨1, by unfold recIter; rw [e]⟩
/-- how many losses have not happened -/
def leftL (L : List Loss) (g : Int → Bool) : Nat := (L.filter fun y => !g y.after).length
theorem leftL_le (L : List Loss) (g : Int → Bool) : leftL L g ≤ L.length := List.length_filter_le ..
theorem left_hap (L : List Loss) (m : Lm) : leftL L (hapQ L m).gone + (dueQ L m).length = leftL L m.gone := by
 unfold leftL dueQ
 by_cases hg : m.gone m.s.done = true
 ·rw [if_pos hg]
  show (L.filter fun y => !(y.after == m.s.done || m.gone y.after)).length + 0 = _
  rw [Nat.add_zero]
  congr 1
  refine List.filter_congr fun y _ => ?_
  by_cases e : y.after = m.s.done
  ·rw [e, hg]; simp
  ·have : (y.after == m.s.done) = false := by simpa using e
   rw [this]; rfl
 ·rw [if_neg hg]
  have hg2 : m.gone m.s.done = false := by simpa using hg
  show (L.filter fun y => !(y.after == m.s.done || m.gone y.after)).length + _ = _
  induction L with
  | nil => rfl
  | cons y L ih =>
   rw [List.filter_cons, List.filter_cons, List.filter_cons]
   by_cases e : y.after = m.s.done
   ·rw [e, hg2]
    simp only [beq_self_eq_true, Bool.true_or, Bool.not_true, Bool.false_eq_true, if_false, Bool.not_false, if_true, List.length_cons]
    omega
   ·have : (y.after == m.s.done) = false := by simpa using e
    rw [this]
    simp only [Bool.false_or, Bool.false_eq_true, if_false]
    by_cases e2 : (!m.gone y.after) = true
    ·rw [if_pos e2, if_pos e2, List.length_cons, List.length_cons]; omega
    ·rw [if_neg e2, if_neg e2]; exact ih
def badN (b : List Bool) : Nat := if someB b = true then 1 else 0
theorem badN_le (b : List Bool) : badN b ≤ 1 := by unfold badN; split <;> omega
theorem some_bad {b : List Bool} : someB b = true ↔ ∃ a : Nat, a < b.length ∧ b[a]?.getD false = true := by
 unfold someB
 rw [List.any_eq_true]
 constructor
 ·rintro ⟨x, hx, h⟩
  obtain ⟨i, hi, rfl⟩ := List.mem_iff_getElem.1 hx
  exact ⟨i, hi, by rw [List.getElem?_eq_getElem hi]; exact h⟩
 ·rintro ⟨a, ha, h⟩
  rw [List.getElem?_eq_getElem ha] at h
  exact ⟨b[a], List.getElem_mem ha, h⟩
theorem zeros_none : someB zerosB = false := by
 unfold someB zerosB
 rw [List.any_replicate]
 simp
/-- a word can be bad only if it was, or a loss happens -/
theorem hap_some {L : List Loss} {m : Lm} (hL : ∀ y ∈ L, lossOk y = true) (hb : m.bad.length = 128) : badN (hapQ L m).bad ≤ badN m.bad + (dueQ L m).length := by
 by_cases h : someB (hapQ L m).bad = true
 ·obtain ⟨a, ha, h2⟩ := some_bad.1 h
  have hl : (hapQ L m).bad.length = 128 := (lossesB_length _ _).trans hb
  have h3 : badAt (hapQ L m).bad (a : Int) = true := by unfold badAt; rw [Int.toNat_natCast]; exact h2
  rcases losses_bad (F := dueQ L m) hb (fun y hy => (loss_ok (hL y (due_mem hy).1)).2.1) (Int.natCast_nonneg a) h3 with h4 | ⟨y, hy, _⟩
  ·have : someB m.bad = true := some_bad.2 ⟨a, by omega, by unfold badAt at h4; rw [Int.toNat_natCast] at h4; exact h4⟩
   unfold badN
   rw [if_pos h, if_pos this]
   omega
  ·have : 0 < (dueQ L m).length := List.length_pos_of_mem hy
   have := badN_le (hapQ L m).bad
   omega
 ·unfold badN
  rw [if_neg h]
  omega
theorem do_some {m : Lm} (hb : m.bad.length = 128) : badN (doL m).bad ≤ badN m.bad := by
 unfold doL
 dsimp only
 split
 ·by_cases h : someB (m.bad.set (writesQ m.s).toNat false) = true
  ·obtain ⟨a, ha, h2⟩ := some_bad.1 h
   rw [List.length_set] at ha
   have : someB m.bad = true := some_bad.2 ⟨a, ha, by
    by_cases e : (writesQ m.s).toNat = a
    ·rw [e, List.getElem?_set_self ha] at h2; simp at h2
    ·rw [List.getElem?_set_ne e] at h2; exact h2⟩
   unfold badN
   rw [if_pos h, if_pos this]
   exact Nat.le_refl _
  ·unfold badN
   rw [if_neg h]
   omega
 ·exact Nat.le_refl _
/-- what holds at the head of Recover's loop -/
structure RInv (L : List Loss) (s0 : St) (most : Int) (r : Rm) : Prop where
 valid : Valid r.m.s
 lvalid : Valid r.last
 blen : r.m.bad.length = 128
 done : s0.done ≤ r.m.s.done ∧ r.m.s.done ≤ s0.done + most
 ldone : s0.done ≤ r.last.done ∧ r.last.done ≤ s0.done + most
 back : r.back + leftL L r.m.gone + badN r.m.bad ≤ L.length
def muR (L : List Loss) (s0 : St) (most : Int) (r : Rm) : Nat :=
 (leftL L r.m.gone + badN r.m.bad) * (most.toNat + 2) + (if r.m.s.why = 0 then (most - (r.m.s.done - s0.done)).toNat + 1 else 0)
theorem step_done (s : St) (h : s.why = 0) : (runQ 1 s).done = s.done + 1 ∨ ((runQ 1 s).done = s.done ∧ (runQ 1 s).why ≠ 0) := by
 rw [run_one h]
 unfold stepQ
 split
 ·exact .inl rfl
 ·rename_i h2; exact .inr ⟨rfl, h2⟩
theorem zeros_len : zerosB.length = 128 := List.length_replicate
/-- the loop's invariant holds on, and its measure falls -/
theorem rec_inv {L : List Loss} {s0 : St} {every most : Int} {r r2 : Rm} (hL : ∀ y ∈ L, lossOk y = true) (hm : 0 ≤ most) (h : RInv L s0 most r) (e : recNext L s0 every most r = .inl r2) : RInv L s0 most r2 ∧ muR L s0 most r2 < muR L s0 most r := by
 have hv1 := hap_valid (L := L) h.valid hL
 have hl := left_hap L r.m
 have hbs := hap_some hL h.blen
 have hdone : (hapQ L r.m).s.done = r.m.s.done := hap_done L r.m
 have hwhy : (hapQ L r.m).s.why = r.m.s.why := hap_why L r.m
 have hb1 : (hapQ L r.m).bad.length = 128 := (lossesB_length _ _).trans h.blen
 have hback := h.back
 have hz : badN zerosB = 0 := by unfold badN; rw [zeros_none]; rfl
 have roll : ∀ last : St, Valid last → s0.done ≤ last.done ∧ last.done ≤ s0.done + most → someB (hapQ L r.m).bad = true → RInv L s0 most ⟨⟨last, zerosB, (hapQ L r.m).gone⟩, last, r.back + 1⟩ ∧ muR L s0 most ⟨⟨last, zerosB, (hapQ L r.m).gone⟩, last, r.back + 1⟩ < muR L s0 most r := by
  intro last hlv hld hsb
  have hb2 : badN (hapQ L r.m).bad = 1 := by unfold badN; rw [if_pos hsb]
  refine ⟨⟨hlv, hlv, zeros_len, hld, hld, by show r.back + 1 + leftL L (hapQ L r.m).gone + badN zerosB ≤ L.length; omega⟩, ?_⟩
  unfold muR
  dsimp only
  rw [hz]
  have k1 : leftL L (hapQ L r.m).gone + 0 + 1 ≤ leftL L r.m.gone + badN r.m.bad := by omega
  have k2 := Nat.mul_le_mul_right (most.toNat + 2) k1
  rw [Nat.add_mul (leftL L (hapQ L r.m).gone + 0) 1, Nat.one_mul] at k2
  have k3 : (if last.why = 0 then (most - (last.done - s0.done)).toNat + 1 else 0) ≤ most.toNat + 1 := by split <;> omega
  omega
 unfold recNext at e
 dsimp only at e
 split at e
 ·rename_i h1
  rw [Bool.and_eq_true] at h1
  obtain rfl := Sum.inl.inj e
  exact roll r.last h.lvalid h.ldone h1.2
 ·split at e
  ·cases e
  ·rename_i h1 h2
   have hn : (hapQ L r.m).s.done - s0.done ≠ most ∧ (hapQ L r.m).s.why = 0 := by
    unfold endR at h2
    simp only [Bool.or_eq_true, beq_iff_eq, bne_iff_ne, ne_eq, not_or, Decidable.not_not] at h2
    exact h2
   have hld : Valid (if dueR s0 every (hapQ L r.m).s = true then (hapQ L r.m).s else r.last) ∧ s0.done ≤ (if dueR s0 every (hapQ L r.m).s = true then (hapQ L r.m).s else r.last).done ∧ (if dueR s0 every (hapQ L r.m).s = true then (hapQ L r.m).s else r.last).done ≤ s0.done + most := by
    split
    ·exact ⟨hv1, by rw [hdone]; exact h.done.1, by rw [hdone]; exact h.done.2⟩
    ·exact ⟨h.lvalid, h.ldone⟩
   generalize (if dueR s0 every (hapQ L r.m).s = true then (hapQ L r.m).s else r.last) = last at *
   split at e
   ·rename_i h3
    obtain rfl := Sum.inl.inj e
    refine roll last hld.1 hld.2 ?_
    have := (notice_some hv1 h3)
    exact some_bad.2 ⟨(noticeQ (hapQ L r.m)).toNat, by rw [hb1]; omega, this.2⟩
   ·obtain rfl := Sum.inl.inj e
    have hds := do_some hb1
    have hsd := step_done (hapQ L r.m).s hn.2
    have hd := h.done
    have hw0 : r.m.s.why = 0 := hwhy.symm.trans hn.2
    have hgone : (doL (hapQ L r.m)).gone = (hapQ L r.m).gone := rfl
    have hdd : (doL (hapQ L r.m)).s = runQ 1 (hapQ L r.m).s := rfl
    refine ⟨⟨do_valid hv1, hld.1, (do_blen _).trans hb1, ?_, hld.2, ?_⟩, ?_⟩
    ·show s0.done ≤ (runQ 1 (hapQ L r.m).s).done ∧ (runQ 1 (hapQ L r.m).s).done ≤ s0.done + most
     rcases hsd with h4 | ⟨h4, _⟩ <;> rw [h4, hdone] <;> omega
    ·show r.back + leftL L (doL (hapQ L r.m)).gone + badN (doL (hapQ L r.m)).bad ≤ L.length
     rw [hgone]; omega
    ·unfold muR
     dsimp only
     rw [hgone, hdd, if_pos hw0]
     have k1 : leftL L (hapQ L r.m).gone + badN (doL (hapQ L r.m)).bad ≤ leftL L r.m.gone + badN r.m.bad := by omega
     have k2 := Nat.mul_le_mul_right (most.toNat + 2) k1
     have k3 : (if (runQ 1 (hapQ L r.m).s).why = 0 then (most - ((runQ 1 (hapQ L r.m).s).done - s0.done)).toNat + 1 else 0) < (most - (r.m.s.done - s0.done)).toNat + 1 := by
      rcases hsd with h4 | ⟨h4, h5⟩
      ·split <;> omega
      ·rw [if_neg h5]; omega
     omega
/-- Recover ends -/
theorem rec_ends {L : List Loss} {s0 : St} {every most : Int} (hL : ∀ y ∈ L, lossOk y = true) (hm : 0 ≤ most) : ∀ (k : Nat) (r : Rm), muR L s0 most r < k → RInv L s0 most r → ∃ x, RecTo L s0 every most r x
 | 0, r, h, _ => absurd h (by omega)
 | k + 1, r, h, hi => by
  cases e : recNext L s0 every most r with
  | inr x => exact ⟨x, RecTo.of_fin e⟩
  | inl r2 =>
   obtain ⟨h1, h2⟩ := rec_inv hL hm hi e
   obtain ⟨x, hx⟩ := rec_ends hL hm k r2 (by omega) h1
   exact ⟨x, RecTo.of_next e hx⟩
def beginR (s : St) : Rm := ⟨beginL s, s, 0⟩
theorem begin_inv {L : List Loss} {s : St} {most : Int} (h : Valid s) (hm : 0 ≤ most) : RInv L s most (beginR s) := by
 refine ⟨h, h, List.length_replicate, ⟨Int.le_refl _, by show s.done ≤ s.done + most; omega⟩, ⟨Int.le_refl _, by show s.done ≤ s.done + most; omega⟩, ?_⟩
 have h1 := leftL_le L (beginL s).gone
 have h2 : badN (beginL s).bad = 0 := by
  show badN zerosB = 0
  unfold badN; rw [zeros_none]; rfl
 show 0 + leftL L (beginL s).gone + badN (beginL s).bad ≤ L.length
 omega
end Go.Q

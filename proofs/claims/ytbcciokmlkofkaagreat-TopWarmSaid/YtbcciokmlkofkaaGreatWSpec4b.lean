import Derived.Test.YtbcciokmlkofkaaGreatWSpec4
import Derived.Test.YtbcciokmlkofkaaGreatWLib
set_option linter.unusedVariables false
set_option linter.unusedSimpArgs false
/- Layer 4 in plain Lean, on: a state's check; an order; a run. -/
namespace Go.Q
/-- the fields that are single numbers lie in their ranges -/
def fieldsB (s : St) : Bool := inB s.taken 0 s.tape.length && inB s.time 0 1000000000 && addrB s.at_ && inB s.done 0 s.time && inB s.why 0 4
def lensB (s : St) : Bool := s.store.length == 128 && decide (s.tape.length ≤ 200) && decide (s.printed.length ≤ 200)
/-- what Check returns -/
def checkQ (s : St) : Int × Int × Int :=
  if lensB s = false then (1, 0, 3)
  else if 0 ≤ idxQ badW s.store then (2, idxQ badW s.store, 7)
  else if 0 ≤ idxQ badW s.tape then (3, idxQ badW s.tape, 7)
  else if 0 ≤ idxQ badW s.printed then (4, idxQ badW s.printed, 7)
  else if fieldsB s = false then (5, 0, 7)
  else if s.time % 16 ≠ s.at_ % 16 then (6, 0, 2)
  else (0, 0, 0)
theorem tmod16_yes {a b : Int} (h : a % 16 = b % 16) : ((a - b).tmod 16 != 0) = false := by
  rw [bne_eq_false_iff_eq]; exact Int.tmod_eq_zero_of_dvd (by omega)
theorem tmod16_no {a b : Int} (h : ¬ a % 16 = b % 16) : ((a - b).tmod 16 != 0) = true := by
  rw [bne_iff_ne]; intro e
  have := Int.dvd_of_tmod_eq_zero e
  omega
end Go.Q
namespace Go.Q
open Go.RowKit
/-- what was there stays, but for the blocks of S -/
structure Chg (S : Nat → Prop) (w w' : World) : Prop where
  os : w'.os = w.os
  tape : w'.tape = w.tape
  output : w'.output = w.output
  size : w.heap.size ≤ w'.heap.size
  block : ∀ k, k < w.heap.size → ¬ S k → w'.heap[k]? = w.heap[k]?
theorem Chg.refl (S : Nat → Prop) (w : World) : Chg S w w := ⟨rfl, rfl, rfl, Nat.le_refl _, fun _ _ _ => rfl⟩
theorem Chg.trans {S : Nat → Prop} {a b c : World} (h : Chg S a b) (k : Chg S b c) : Chg S a c :=
  ⟨k.os.trans h.os, k.tape.trans h.tape, k.output.trans h.output, Nat.le_trans h.size k.size, fun i hi hs => (k.block i (Nat.lt_of_lt_of_le hi h.size) hs).trans (h.block i hi hs)⟩
/-- the later blocks may be others -/
theorem Chg.trans' {S T : Nat → Prop} {a b c : World} (h : Chg S a b) (k : Chg T b c) (hT : ∀ i, i < a.heap.size → T i → S i) : Chg S a c :=
  ⟨k.os.trans h.os, k.tape.trans h.tape, k.output.trans h.output, Nat.le_trans h.size k.size, fun i hi hs => (k.block i (Nat.lt_of_lt_of_le hi h.size) (fun t => hs (hT i hi t))).trans (h.block i hi hs)⟩
theorem Chg.of_ext {S : Nat → Prop} {a b : World} (h : Ext a b) : Chg S a b := ⟨h.os, h.tape, h.output, h.size, fun k hk _ => h.block k hk⟩
theorem Chg.ext {S : Nat → Prop} {a b c : World} (h : Chg S a b) (k : Ext b c) : Chg S a c := h.trans (.of_ext k)
theorem Chg.setCell {S : Nat → Prop} {a w : World} (h : Chg S a w) (p : Addr) (hp : S p.block) (u : Value) : Chg S a (w.setCell p u) :=
  h.trans ⟨rfl, rfl, rfl, by simp [World.setCell], fun k _ hs => Below.heap_setCell _ _ _ _ (fun e => hs (e ▸ hp))⟩
theorem Chg.grown {S : Nat → Prop} {a w w' : World} {row : Option Nat} (h : Chg S a w) (hg : w.grownBy w' row) (hr : ∀ k, row = some k → S k) : Chg S a w' :=
  h.trans ⟨hg.os, hg.tape, hg.output, hg.size, fun k hk hs => hg.block k hk (fun e => hs (hr k e.symm))⟩
theorem Chg.below {S : Nat → Prop} {w w' : World} {n : Nat} (h : Chg S w w') (hS : ∀ k, S k → n ≤ k) (hn : n ≤ w.heap.size) : Below n w w' :=
  ⟨h.os, h.tape, h.output, h.size, fun k hk => h.block k (by omega) (fun s => by have := hS k s; omega)⟩
theorem Chg.heapEq {S : Nat → Prop} {w w' : World} (h1 : w'.os = w.os) (h2 : w'.tape = w.tape) (h3 : w'.output = w.output) (e : w'.heap = w.heap) : Chg S w w' := ⟨h1, h2, h3, by rw [e]; exact Nat.le_refl _, fun k _ _ => by rw [e]⟩
/-- the words that an order comes to -/
def wordAt (s : St) (i : Int) : Int := s.store[i.toNat]?.getD 0
def ordAt (s : St) : Ord := decodeQ (wordAt s s.at_)
def negAt (s : St) : Bool := decide (sgn (wordAt s (ordAt s).frm) < 0)
def untilAt (s : St) : Int := whenUntil (ordAt s) s.time (negAt s)
/-- what an order does to the store, the tape and the paper -/
def doQ (s : St) (o : Ord) : St :=
  let a := wordAt s o.frm
  let b := wordAt s o.to
  if o.op = 1 then { s with store := s.store.set o.to.toNat a }
  else if o.op = 2 then { s with store := s.store.set o.to.toNat ((b + a) % 16777216) }
  else if o.op = 3 then { s with store := s.store.set o.to.toNat ((b - a) % 16777216) }
  else if o.op = 4 then { s with store := s.store.set o.to.toNat (prod a b) }
  else if o.op = 6 then { s with store := s.store.set o.to.toNat (s.tape[s.taken.toNat]?.getD 0), taken := s.taken + 1 }
  else if o.op = 7 then { s with printed := s.printed ++ [a] }
  else s
def whyAt (s : St) : Int :=
  if (ordAt s).op = 0 then 1
  else if (ordAt s).op = 6 ∧ s.taken = s.tape.length then 2
  else if (ordAt s).op = 7 ∧ s.printed.length = 200 then 3
  else if 1000000000 < untilAt s then 4
  else 0
/-- a state that has not ended, after an order, or at its end -/
def stepQ (s : St) : St :=
  if whyAt s = 0 then { doQ s (ordAt s) with at_ := whenAt (ordAt s) (negAt s), time := untilAt s, done := s.done + 1 }
  else { s with why := whyAt s }
/-- a valid state -/
structure Valid (s : St) : Prop where
  len : s.store.length = 128
  tlen : s.tape.length ≤ 200
  plen : s.printed.length ≤ 200
  ws : ∀ x ∈ s.store, 0 ≤ x ∧ x ≤ 16777215
  wt : ∀ x ∈ s.tape, 0 ≤ x ∧ x ≤ 16777215
  wp : ∀ x ∈ s.printed, 0 ≤ x ∧ x ≤ 16777215
  taken : 0 ≤ s.taken ∧ s.taken ≤ s.tape.length
  time : 0 ≤ s.time ∧ s.time ≤ 1000000000
  at_ : 0 ≤ s.at_ ∧ s.at_ ≤ 127
  done : 0 ≤ s.done ∧ s.done ≤ s.time
  why : 0 ≤ s.why ∧ s.why ≤ 4
  place : s.time % 16 = s.at_ % 16
theorem ordB_decode {n : Int} (h0 : 0 ≤ n) (h1 : n ≤ 16777215) : ordB (decodeQ n) = true := by
  simp only [ordB, addrB, inB, decodeQ, Bool.and_eq_true, decide_eq_true_eq]
  refine ⟨⟨⟨⟨?_, ?_⟩, ⟨?_, ?_⟩⟩, ⟨?_, ?_⟩⟩, ⟨?_, ?_⟩⟩ <;> exact decide_eq_true (by omega)
theorem mem_get {xs : List Int} {i : Nat} (h : i < xs.length) {P : Int → Prop} (hp : ∀ x ∈ xs, P x) : P (xs[i]?.getD 0) := by
  rw [List.getElem?_eq_getElem h]
  exact hp _ (List.getElem_mem h)
theorem Valid.word {s : St} (h : Valid s) (i : Int) (h0 : 0 ≤ i) (h1 : i ≤ 127) : 0 ≤ wordAt s i ∧ wordAt s i ≤ 16777215 :=
  mem_get (by have := h.len; omega) h.ws
theorem Valid.ord {s : St} (h : Valid s) : ordB (ordAt s) = true := by
  have := h.word s.at_ h.at_.1 h.at_.2
  exact ordB_decode this.1 this.2
end Go.Q

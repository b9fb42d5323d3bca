import Derived.Maps.OwnIn
import Derived.Laws.IdiomRangeMap
import Derived.OrdersHeld
import Derived.Test.YtnhpcoagkmgdoaaX4
import Derived.Test.YtnhpcoagkmgdoaaX0
import Derived.Test.YtnhpcoagkmgdoaaX13
set_option linter.unusedVariables false
set_option linter.unusedSimpArgs false
/- Layer 4's Run again: the lists that it returns lie in blocks of integers. -/
namespace Go.Proofs.Ytnhpcoagkmgdoaa
open Go.RowKit Go.Q
/-- a list that lies in a block of integers -/
def IntsT (W : World) (a : Option Addr) (xs : List Int) : Prop :=
 xs = [] ∨ ∃ b off cs fr, a = some ⟨b, off, none⟩ ∧ W.heap[b]? = some (.cells cs 3 fr) ∧ ∀ i, i < xs.length → W.cell? ⟨b, off + i, none⟩ = some (.int .i64 (xs[i]?.getD 0))
section
variable {W W' : World} {a : Option Addr} {xs : List Int}
theorem IntsT.at_ (h : IntsT W a xs) : IntsAt W a xs := h.imp id fun ⟨b, off, _, _, ha, hb, hc⟩ => ⟨b, off, ha, lt_of_block hb, hc⟩
theorem IntsT.ext (h : IntsT W a xs) (E : Ext W W') : IntsT W' a xs := h.imp id fun ⟨b, off, cs, fr, ha, hb, hc⟩ => ⟨b, off, cs, fr, ha, (E.block b (lt_of_block hb)).trans hb, fun i hi => (E.cell (p := ⟨b, off + i, none⟩) (lt_of_block hb)).trans (hc i hi)⟩
theorem own_intsT {nb n c : Nat} (h : W.ownsRow nb 3 1 (.slice a n c) n (iv xs)) : IntsT W a xs := by
 have hi := own_ints h
 rcases hi with hi | ⟨b, off, ha, hb, hc⟩
 ·exact .inl hi
 ·have hq : (Value.slice a n c).ownBlock = some b := by rw [ha]; rfl
  rcases h.2 with ⟨e1, _⟩ | ⟨g, cap, cur, e1, _, hg, _⟩
  ·rw [e1] at hq; cases hq
  ·rw [e1] at hq
   obtain rfl : g = b := by simpa [Value.ownBlock] using hq
   exact .inr ⟨g, off, cur, _, ha, hg, hc⟩
end
def StAtT (w : World) (v : Value) (s : St) : Prop := ∃ a1 a2 a3 c1 c2 c3, v = sv a1 a2 a3 s.store.length c1 s.tape.length c2 s.printed.length c3 s.taken s.time s.at_ s.done s.why ∧ IntsT w a1 s.store ∧ IntsT w a2 s.tape ∧ IntsT w a3 s.printed
variable {nb m g1 c1 n0 : Nat} {tv pv : Value} {s : St} {o : Ord}
theorem Mac.readsT {w : World} (h : Mac w nb m g1 c1 tv pv s o) : ∃ a2 ct a3 cp, tv = .slice a2 s.tape.length ct ∧ pv = .slice a3 s.printed.length cp ∧ IntsT w (some ⟨g1, 0, none⟩) s.store ∧ IntsT w a2 s.tape ∧ IntsT w a3 s.printed := by
 obtain ⟨a2, ct, hv, ht⟩ := h.tp
 obtain ⟨a3, cp, hp⟩ := own_form h.prow
 obtain ⟨cur, hcur, _⟩ := h.st
 refine ⟨a2, ct, a3, cp, hv, hp, .inr ⟨g1, 0, cur, _, rfl, hcur, fun i hi => by rw [Nat.zero_add]; exact h.wc i (by rw [← h.len]; exact hi)⟩, ?_, ?_⟩
 ·rcases ht with e | ⟨b, off, ha, ⟨cu, hcu⟩, _, _, _, hc⟩
  ·exact .inl e
  ·exact .inr ⟨b, off, cu, _, ha, hcu, hc⟩
 ·have := h.prow
  rw [hp] at this
  exact own_intsT this
end Go.Proofs.Ytnhpcoagkmgdoaa
/- Maps that the call made: what they hold, key by key; their operations, for the walk. -/
namespace Go.Q
open Go.RowKit Go.ChangeMaps Go.MapKept
open Go.Maps (Keyed)
/-- keys of type k are spelled by enc -/
structure KeyEnc (P : Program) (k : TypeId) {α : Type} (enc : α → Value) : Prop where
 law : Keyed P k
 key : ∀ x, ∃ l, keyOf P k (enc x) = some l
 inj : ∀ x y, enc x = enc y → x = y
section
variable {P : Program} {k : TypeId} {α : Type} {enc : α → Value} {w : World} {b : Nat} {f : α → Option Value}
/-- the entries are those of f -/
structure MHolds (enc : α → Value) (f : α → Option Value) (es : Array MapEntry) (clock : Nat) : Prop where
 st : Stamped es clock
 only : ∀ e ∈ es.toList, ∃ x v, f x = some v ∧ e.key = enc x ∧ e.val = v
 all : ∀ x v, f x = some v → ∃ e ∈ es.toList, e.key = enc x ∧ e.val = v
/-- block b is a map that holds f -/
def MapF (enc : α → Value) (w : World) (b : Nat) (f : α → Option Value) : Prop := ∃ es clock, w.heap[b]? = some (.map es clock) ∧ MHolds enc f es clock
theorem MapF.made (w : World) : MapF enc (w.alloc (.map #[] 0)) w.heap.size (fun _ => none) :=
 ⟨#[], 0, (MapKept.heap_alloc w _).1, stamped_empty 0, by simp, by simp⟩
theorem MapF.lt (h : MapF enc w b f) : b < w.heap.size := by
 obtain ⟨es, clock, hb, _⟩ := h
 exact (Array.getElem?_eq_some_iff.1 hb).1
theorem MapF.same {w' : World} (h : MapF enc w b f) (e : w'.heap[b]? = w.heap[b]?) : MapF enc w' b f := by
 obtain ⟨es, clock, hb, H⟩ := h
 exact ⟨es, clock, e.trans hb, H⟩
theorem MapF.ext {w' : World} (h : MapF enc w b f) (E : Ext w w') : MapF enc w' b f := h.same (E.block b h.lt)
theorem MapF.alloc (h : MapF enc w b f) (o : Obj) : MapF enc (w.alloc o) b f := h.same ((MapKept.heap_alloc w o).2 b h.lt)
theorem MHolds.keys (K : KeyEnc P k enc) {es : Array MapEntry} {clock : Nat} (H : MHolds enc f es clock) : ∀ e ∈ es.toList, ∃ l, keyOf P k e.key = some l := by
 intro e he
 obtain ⟨x, v, _, hk, _⟩ := H.only e he
 rw [hk]; exact K.key x
variable [DecidableEq α]
/-- f, with v at x -/
def putF (f : α → Option Value) (x : α) (v : Value) : α → Option Value := fun y => if y = x then some v else f y
def delF (f : α → Option Value) (x : α) : α → Option Value := fun y => if y = x then none else f y
theorem MapF.update (K : KeyEnc P k enc) {t e : TypeId} (h : MapF enc w b f) (ht : P.underlying t = some (.map k e)) (x : α) (v : Value) :
  ∃ w', (Instr.mapUpdate t (.map (some b)) (enc x) v).run P w = .ok () w' ∧ MapF enc w' b (putF f x v) ∧ w.grownBy w' (some b) ∧ w'.heap.size = w.heap.size := by
 obtain ⟨es, clock, hb, H⟩ := h
 obtain ⟨l, hkey⟩ := K.key x
 have gr : ∀ o, w.grownBy (setBlock w b o) (some b) := fun o => ⟨rfl, rfl, rfl, by simp [setBlock], fun i _ hi => heap_setBlock_other hb _ (fun e => hi (by rw [e]))⟩
 rcases K.law.find w hkey es.toList (H.keys K) with ⟨h1, h2⟩ | ⟨j, e0, h1, h2, h3⟩
 ·refine ⟨setBlock w b (.map (es.push ⟨enc x, v, clock⟩) (clock + 1)), by simp [Instr.mapUpdate, run_underlying ht, MapKept.run_getObj_map hb, K.law.check w false hkey, h1, MapKept.run_setObj_map _ hb, Result.andThen, setBlock],
   ⟨_, _, heap_setBlock_same hb _, stamped_push H.st h2, ?_, ?_⟩, gr _, by simp [setBlock]⟩
  ·intro e he
   simp only [Array.toList_push, List.mem_append, List.mem_singleton] at he
   rcases he with he | rfl
   ·obtain ⟨y, u, hf, hk, hv⟩ := H.only e he
    refine ⟨y, u, ?_, hk, hv⟩
    unfold putF
    rw [if_neg (fun c => h2 e he (by rw [hk, c]))]; exact hf
   ·exact ⟨x, v, by simp [putF], rfl, rfl⟩
  ·intro y u hf
   unfold putF at hf
   split at hf
   ·rename_i c; cases hf; exact ⟨⟨enc x, v, clock⟩, by simp, by rw [c], rfl⟩
   ·obtain ⟨e, he, hk, hv⟩ := H.all y u hf
    exact ⟨e, by simp [he], hk, hv⟩
 ·have hj : es[j]? = some e0 := by simpa using h2
  have hjl : j < es.toList.length := (List.getElem?_eq_some_iff.1 h2).1
  have hkeyf : ∀ e', es[j]? = some e' → ({ e' with key := enc x, val := v } : MapEntry).key = e'.key := fun e' he' => by rw [hj] at he'; cases he'; exact h3.symm
  have hlist : (es.modify j (fun e' => { e' with key := enc x, val := v })).toList = es.toList.set j { e0 with key := enc x, val := v } := by
   rw [Array.toList_modify]
   apply List.ext_getElem?
   intro i
   rw [List.getElem?_modify, List.getElem?_set]
   by_cases hi : j = i
   ·subst hi; rw [if_pos rfl, if_pos hjl, h2]; simp
   ·rw [if_neg hi]; simp [hi]
  have who : ∀ a ∈ es.toList.set j { e0 with key := enc x, val := v }, a = { e0 with key := enc x, val := v } ∨ (a ∈ es.toList ∧ a.key ≠ enc x) := by
   intro a ha
   obtain ⟨i, hi, ex⟩ := List.getElem_of_mem ha
   rw [List.getElem_set] at ex
   split at ex
   ·exact .inl ex.symm
   ·rename_i hne
    have hi' : i < es.toList.length := by simpa using hi
    refine .inr ⟨ex ▸ List.getElem_mem hi', fun c => ?_⟩
    have hp := (stamped_iff es clock).1 H.st |>.2.2
    rw [List.pairwise_iff_getElem] at hp
    have e1 : es.toList[i] = a := ex
    have e2 : es.toList[j] = e0 := (List.getElem?_eq_some_iff.1 h2).2
    rcases Nat.lt_or_gt_of_ne hne with g | g
    ·exact hp j i hjl hi' g (by rw [e1, e2, h3, c])
    ·exact hp i j hi' hjl g (by rw [e1, e2, h3, c])
  refine ⟨setBlock w b (.map (es.modify j (fun e' => { e' with key := enc x, val := v })) clock),
   by simp [Instr.mapUpdate, run_underlying ht, MapKept.run_getObj_map hb, K.law.check w false hkey, h1, hj, h3, K.law.stays w hkey, MapKept.run_setObj_map _ hb, Result.andThen, setBlock],
   ⟨_, _, heap_setBlock_same hb _, stamped_modify H.st _ _ (fun _ _ => rfl) (fun e' _ he' => hkeyf e' he'), ?_, ?_⟩, gr _, by simp [setBlock]⟩
  ·intro e he
   rw [hlist] at he
   rcases who e he with rfl | ⟨he', hne⟩
   ·exact ⟨x, v, by simp [putF], rfl, rfl⟩
   ·obtain ⟨y, u, hf, hk, hv⟩ := H.only e he'
    refine ⟨y, u, ?_, hk, hv⟩
    unfold putF
    rw [if_neg (fun c => hne (by rw [hk, c]))]; exact hf
  ·intro y u hf
   rw [hlist]
   unfold putF at hf
   split at hf
   ·rename_i c; cases hf
    exact ⟨{ e0 with key := enc x, val := v }, List.mem_iff_getElem.2 ⟨j, by simpa using hjl, by simp⟩, by rw [c], rfl⟩
   ·rename_i c
    obtain ⟨e, he, hk, hv⟩ := H.all y u hf
    obtain ⟨i, hi, ei⟩ := List.getElem_of_mem he
    refine ⟨e, List.mem_iff_getElem.2 ⟨i, by simpa using hi, ?_⟩, hk, hv⟩
    rw [List.getElem_set, if_neg]
    ·exact ei
    ·intro cij
     subst cij
     have e2 : es.toList[j] = e0 := (List.getElem?_eq_some_iff.1 h2).2
     rw [ei] at e2
     rw [e2, h3] at hk
     exact c (K.inj _ _ hk).symm
omit [DecidableEq α] in
theorem MapF.look (c : Bool) (K : KeyEnc P k enc) {t e : TypeId} (h : MapF enc w b f) (ht : P.underlying t = some (.map k e)) {z : Value} (hz : (zeroValue e).run P w = .ok z w) (x : α) :
  (Instr.lookup t (.map (some b)) (enc x) c).run P w = .ok (if c then .tuple #[(f x).getD z, .bool (f x).isSome] else (f x).getD z) w := by
 obtain ⟨es, clock, hb, H⟩ := h
 obtain ⟨l, hkey⟩ := K.key x
 rcases K.law.find w hkey es.toList (H.keys K) with ⟨h1, h2⟩ | ⟨j, e0, h1, h2, h3⟩
 ·have hf : f x = none := by
   cases hc : f x with
   | none => rfl
   | some v => obtain ⟨e, he, hk, _⟩ := H.all x v hc; exact absurd hk (h2 e he)
  simp [Instr.lookup, run_underlying ht, MapKept.run_getObj_map hb, K.law.check w _ hkey, h1, hz, Result.andThen, hf]
 ·have hm0 : e0 ∈ es.toList := List.mem_of_getElem? h2
  obtain ⟨y, u, hf, hk, hv⟩ := H.only e0 hm0
  rw [h3] at hk
  have := K.inj _ _ hk
  subst this
  simp [Instr.lookup, run_underlying ht, MapKept.run_getObj_map hb, K.law.check w _ hkey, h1, Result.andThen, hf, hv]
theorem MapF.drop (K : KeyEnc P k enc) {t e ty : TypeId} (h : MapF enc w b f) (ht : P.underlying t = some (.map k e)) (x : α) :
  ∃ w', (Builtin.delete_ #[t, k] ty #[.map (some b), enc x]).run P w = .ok (.tuple #[]) w' ∧ MapF enc w' b (delF f x) ∧ w.grownBy w' (some b) ∧ w'.heap.size = w.heap.size := by
 obtain ⟨es, clock, hb, H⟩ := h
 obtain ⟨l, hkey⟩ := K.key x
 have gr : ∀ o, w.grownBy (setBlock w b o) (some b) := fun o => ⟨rfl, rfl, rfl, by simp [setBlock], fun i _ hi => heap_setBlock_other hb _ (fun e => hi (by rw [e]))⟩
 rcases K.law.find w hkey es.toList (H.keys K) with ⟨h1, h2⟩ | ⟨j, e0, h1, h2, h3⟩
 ·refine ⟨setBlock w b (.map es clock), by simp [Builtin.delete_, run_underlying ht, MapKept.run_getObj_map hb, K.law.check w _ hkey, h1, MapKept.run_setObj_map _ hb, Result.andThen, setBlock],
   ⟨_, _, heap_setBlock_same hb _, H.st, ?_, ?_⟩, gr _, by simp [setBlock]⟩
  ·intro e he
   obtain ⟨y, u, hf, hk, hv⟩ := H.only e he
   refine ⟨y, u, ?_, hk, hv⟩
   unfold delF
   rw [if_neg (fun c => h2 e he (by rw [hk, c]))]; exact hf
  ·intro y u hf
   unfold delF at hf
   split at hf
   ·cases hf
   ·exact H.all y u hf
 ·have hjl : j < es.toList.length := (List.getElem?_eq_some_iff.1 h2).1
  have hjs : j < es.size := by simpa using hjl
  have hsub : (es.eraseIdxIfInBounds j).toList = es.toList.eraseIdx j := by
   unfold Array.eraseIdxIfInBounds
   rw [dif_pos hjs]
   simp
  have hp := (stamped_iff es clock).1 H.st |>.2.2
  rw [List.pairwise_iff_getElem] at hp
  have e2 : es.toList[j] = e0 := (List.getElem?_eq_some_iff.1 h2).2
  refine ⟨setBlock w b (.map (es.eraseIdxIfInBounds j) clock), by simp [Builtin.delete_, run_underlying ht, MapKept.run_getObj_map hb, K.law.check w _ hkey, h1, MapKept.run_setObj_map _ hb, Result.andThen, setBlock],
   ⟨_, _, heap_setBlock_same hb _, stamped_erase H.st j, ?_, ?_⟩, gr _, by simp [setBlock]⟩
  ·intro e he
   rw [hsub] at he
   obtain ⟨i, hne, hi⟩ := List.mem_eraseIdx_iff_getElem?.1 he
   obtain ⟨y, u, hf, hk, hv⟩ := H.only e (List.mem_of_getElem? hi)
   refine ⟨y, u, ?_, hk, hv⟩
   unfold delF
   rw [if_neg (fun c => ?_)]
   ·exact hf
   ·obtain ⟨hil, ei⟩ := List.getElem?_eq_some_iff.1 hi
    rcases Nat.lt_or_gt_of_ne hne with g | g
    ·exact hp i j hil hjl g (by rw [ei, e2, h3, hk, c])
    ·exact hp j i hjl hil g (by rw [ei, e2, h3, hk, c])
  ·intro y u hf
   unfold delF at hf
   split at hf
   ·cases hf
   ·rename_i c
    obtain ⟨e, he, hk, hv⟩ := H.all y u hf
    rw [hsub]
    obtain ⟨i, hi, ei⟩ := List.getElem_of_mem he
    refine ⟨e, List.mem_eraseIdx_iff_getElem?.2 ⟨i, fun cij => ?_, by rw [List.getElem?_eq_getElem hi, ei]⟩, hk, hv⟩
    subst cij
    rw [ei] at e2
    rw [e2, h3] at hk
    exact c (K.inj _ _ hk).symm
end
section
variable {P : Program} {k : TypeId} {α : Type} [DecidableEq α] {enc : α → Value} (w : World) {f : α → Option Value} {ops : Array Oper} {rest : List Oper} {o : Oper} {a : Act} {Q : Exit → Act → World → Prop}
/-- delete(m, k) -/
theorem wpList_delF (hg : o.guard = none) (m x : Operand) (t : TypeId) (hop : o.op = Op.call { callee := Callee.builtin Builtin.delete, args := #[m, x], argTypes := #[t, k] }) (e : TypeId) (K : KeyEnc P k enc) (ht : P.underlying t = some (.map k e)) (b : Nat)
  (hm : a.eval m = .map (some b)) (hown : MapF enc w b f) (key : α) (hx : a.eval x = enc key)
  (hK : ∀ w', MapF enc w' b (delF f key) → w.grownBy w' (some b) → w'.heap.size = w.heap.size → wpList P ops Q rest (a.put o.dst (.tuple #[])) w') :
  wpList P ops Q (o :: rest) a w := by
 refine wpList_plain hg fun K' hK' => ?_
 obtain ⟨w', hrun, r1, r2, r3⟩ := hown.drop (ty := o.type) K ht key
 unfold Oper.wp
 simp [execOp, hop, resolve, invoke, builtin, hm, hx, hrun, Result.andThen]
 exact hK' _ _ (hK w' r1 r2 r3)
omit [DecidableEq α] in
end
section
variable {F : Fence} {nF : Nat} {P : Program} {k : TypeId} {α : Type} [DecidableEq α] {enc : α → Value} (w : World) {f : α → Option Value} {ops : Array Oper} {rest : List Oper} {o : Oper} {a : Act} {Q : Exit → Act → World → Prop}
omit [DecidableEq α] in
end
end Go.Q
/- A region that draws its order: what is read is taken first, by a condition on the world that holds till the last operations (those of Z, which all that are taken go ahead of). -/
namespace Go.Q
open Go Go.RowKit
section
variable {P : Program} {ops : Array Oper} {Q : Exit → Act → World → Prop} {md : Region.Mode} {S : World → Prop} {Z : Nat → Bool}
/-- whatever order is picked; S holds behind each operation but those of Z -/
def wpAnyZ (P : Program) (md : Region.Mode) (ops : Array Oper) (Q : Exit → Act → World → Prop) (Z : Nat → Bool) (S : World → Prop) : Nat → Array Bool → Act → World → Prop
 | 0, listed, a, w => Region.ready md ops listed = [] ∧ Q .normal a w
 | n + 1, listed, a, w => (Region.ready md ops listed = [] → Q .normal a w) ∧ ∀ i ∈ Region.ready md ops listed, wpOp P ops Q i (fun a' w' => (Z i = true ∨ S w') ∧ wpAnyZ P md ops Q Z S n (listed.setIfInBounds i true) a' w') a w
theorem wpAny_of_Z : ∀ (n : Nat) (listed : Array Bool) (a : Act) (w : World), wpAnyZ P md ops Q Z S n listed a w → wpAny P md ops Q n listed a w
 | 0, _, _, _, h => h
 | n + 1, _, _, _, h => ⟨h.1, fun i hi => wpOp_mono (fun _ _ h' => wpAny_of_Z n _ _ _ h'.2) (h.2 i hi)⟩
/-- operation z waits for operation i -/
def waitsFor (md : Region.Mode) (ops : Array Oper) (z i : Nat) : Bool := ((ops[z]?).map fun o => o.after.any fun e => e.on == i && Region.binds md e).getD false
theorem ready_not {listed : Array Bool} {i : Nat} (h : i ∈ Region.ready md ops listed) : listed.getD i true = false := (mem_ready.1 h).1
theorem z_waits {listed : Array Bool} {z i : Nat} (hz : waitsFor md ops z i = true) (h : z ∈ Region.ready md ops listed) (hi : listed.getD i true = false) : False := by
 obtain ⟨_, oz, hoz, hall⟩ := mem_ready.1 h
 unfold waitsFor at hz
 rw [hoz] at hz
 simp only [Option.map_some, Option.getD_some, Array.any_eq_true, Bool.and_eq_true, beq_iff_eq] at hz
 obtain ⟨k, hk, he, hb⟩ := hz
 have := hall _ (Array.getElem_mem hk) hb
 rw [he] at this
 rcases Nat.lt_or_ge i listed.size with h' | h'
 ·simp [h'] at hi this; rw [hi] at this; cases this
 ·simp [Array.getElem?_eq_none h'] at this
def allWait (md : Region.Mode) (ops : Array Oper) (Z : Nat → Bool) (i : Nat) : Bool := (List.range ops.size).all fun z => !Z z || waitsFor md ops z i
theorem Z_waits {listed : Array Bool} {i j : Nat} (hz : allWait md ops Z i = true) (h : j ∈ Region.ready md ops listed) (hj : Z j = true) (hi : listed.getD i true = false) : False := by
 obtain ⟨_, oz, hoz, _⟩ := mem_ready.1 h
 have hl : j < ops.size := (Array.getElem?_eq_some_iff.1 hoz).1
 have := List.all_eq_true.1 hz j (List.mem_range.2 hl)
 rw [hj] at this
 exact z_waits (by simpa using this) h hi
theorem wpAnyZ_first {i : Nat} {oi : Oper} {v : Value} (hi : ops[i]? = some oi) (hsel : ∀ (j : Nat) (o : Oper) cs b, ops[j]? = some o → o.op ≠ .select cs b) (hQ : ∀ c a w, Q (.panic c) (a.put oi.dst v) w → Q (.panic c) a w) (hz : allWait md ops Z i = true) :
  ∀ (n : Nat) (listed : Array Bool) (a : Act) (w : World), (∀ j oj, ops[j]? = some oj → j ≠ i → listed.getD j true = false → (∀ e ∈ oj.after, Region.binds md e = true → e.on ≠ i) → oi.apart ops oj = true) →
   i ∈ Region.ready md ops listed → YieldsIf P ops S oi v a → S w → wpAnyZ P md ops Q Z S n (listed.setIfInBounds i true) (a.put oi.dst v) w → wpAnyZ P md ops Q Z S (n + 1) listed a w
 | n, listed, a, w, hfree, hr, hy, hS, H => by
  refine ⟨fun h => (by rw [h] at hr; cases hr), fun j hj => ?_⟩
  by_cases hji : j = i
  ·subst hji; exact hy.wpOp hi hS ⟨.inr hS, H⟩
  ·have hjr := ready_mono hj hji
   cases n with
   | zero => rw [H.1] at hjr; cases hjr
   | succ n =>
    have h1 := H.2 j hjr
    obtain ⟨hjun, oj, hoj, hall⟩ := mem_ready.1 hj
    have hun := ready_not hr
    have hnot : ∀ e ∈ oj.after, Region.binds md e = true → e.on ≠ i := fun e he hb heq => by
     have h1 := hall e he hb
     rw [heq] at h1
     rcases Nat.lt_or_ge i listed.size with h' | h'
     ·simp [h'] at hun h1; rw [hun] at h1; cases h1
     ·simp [Array.getElem?_eq_none h'] at h1
    have h2 := wpOp_putIf hoj (hfree j oj hoj hji hjun hnot) (fun cs b => hsel i oi cs b hi) (fun cs b => hsel j oj cs b hoj) hQ hy h1
    refine wpOp_mono (fun a' w' h3 => ?_) h2
    have hS' : S w' := h3.2.1.resolve_left fun e => Z_waits hz hj e hun
    refine ⟨.inr hS', wpAnyZ_first hi hsel hQ hz n (listed.setIfInBounds j true) a' w' (fun k ok hk hki hun2 hno => hfree k ok hk hki ?_ hno) (ready_mono hr (Ne.symm hji)) h3.1 hS' ?_⟩
    ·by_cases hjk : j = k
     ·subst hjk; exact hjun
     ·rw [getD_set_ne true hjk] at hun2; exact hun2
    ·rw [Array.setIfInBounds_comm _ _ hji]
     exact h3.2.2
theorem wpAnyZ_take {i : Nat} {oi : Oper} {v : Value} {n : Nat} {listed : Array Bool} {a : Act} {w : World} (hi : ops[i]? = some oi) (hs : Region.noSelect ops = true) (hz : allWait md ops Z i = true) (hf : Region.free md ops listed i = true) (hr : (Region.ready md ops listed).contains i = true)
  (hQ : ∀ c a w, Q (.panic c) (a.put oi.dst v) w → Q (.panic c) a w) (hy : YieldsIf P ops S oi v a) (hS : S w) (h : wpAnyZ P md ops Q Z S n (listed.setIfInBounds i true) (a.put oi.dst v) w) : wpAnyZ P md ops Q Z S (n + 1) listed a w :=
 wpAnyZ_first hi (Region.noSelect_spec hs) hQ hz n listed a w (Region.free_spec hi hf) (by simpa using hr) hy hS h
/-- that operation i may be taken first -/
def tkOk (md : Region.Mode) (ops : Array Oper) (Z : Nat → Bool) (listed : Array Bool) (i : Nat) : Bool := Region.noSelect ops && allWait md ops Z i && Region.free md ops listed i && (Region.ready md ops listed).contains i
theorem tk {n : Nat} {listed : Array Bool} {a : Act} {w : World} (i : Nat) (oi : Oper) (v : Value) (hi : ops[i]? = some oi) (hk : tkOk md ops Z listed i = true) (hQ : ∀ c a w, Q (.panic c) (a.put oi.dst v) w → Q (.panic c) a w) (hy : YieldsIf P ops S oi v a) (hS : S w)
  (h : wpAnyZ P md ops Q Z S n (listed.setIfInBounds i true) (a.put oi.dst v) w) : wpAnyZ P md ops Q Z S (n + 1) listed a w := by
 unfold tkOk at hk
 simp only [Bool.and_eq_true] at hk
 exact wpAnyZ_take hi hk.1.1.1 hk.1.1.2 hk.1.2 hk.2 hQ hy hS h
/-- what reads no world, among the last ones -/
theorem wpAnyZ_firstP {i : Nat} {oi : Oper} {v : Value} (hi : ops[i]? = some oi) (hsel : ∀ (j : Nat) (o : Oper) cs b, ops[j]? = some o → o.op ≠ .select cs b) (hQ : ∀ c a w, Q (.panic c) (a.put oi.dst v) w → Q (.panic c) a w) (hz : Z i = true) :
  ∀ (n : Nat) (listed : Array Bool) (a : Act) (w : World), (∀ j oj, ops[j]? = some oj → j ≠ i → listed.getD j true = false → (∀ e ∈ oj.after, Region.binds md e = true → e.on ≠ i) → oi.apart ops oj = true) →
   i ∈ Region.ready md ops listed → YieldsIf P ops (fun _ => True) oi v a → wpAnyZ P md ops Q Z S n (listed.setIfInBounds i true) (a.put oi.dst v) w → wpAnyZ P md ops Q Z S (n + 1) listed a w
 | n, listed, a, w, hfree, hr, hy, H => by
  refine ⟨fun h => (by rw [h] at hr; cases hr), fun j hj => ?_⟩
  by_cases hji : j = i
  ·subst hji; exact hy.wpOp hi trivial ⟨.inl hz, H⟩
  ·have hjr := ready_mono hj hji
   cases n with
   | zero => rw [H.1] at hjr; cases hjr
   | succ n =>
    have h1 := H.2 j hjr
    obtain ⟨hjun, oj, hoj, hall⟩ := mem_ready.1 hj
    have hun := ready_not hr
    have hnot : ∀ e ∈ oj.after, Region.binds md e = true → e.on ≠ i := fun e he hb heq => by
     have h1 := hall e he hb
     rw [heq] at h1
     rcases Nat.lt_or_ge i listed.size with h' | h'
     ·simp [h'] at hun h1; rw [hun] at h1; cases h1
     ·simp [Array.getElem?_eq_none h'] at h1
    have h2 := wpOp_putIf hoj (hfree j oj hoj hji hjun hnot) (fun cs b => hsel i oi cs b hi) (fun cs b => hsel j oj cs b hoj) hQ hy h1
    refine wpOp_mono (fun a' w' h3 => ?_) h2
    refine ⟨h3.2.1, wpAnyZ_firstP hi hsel hQ hz n (listed.setIfInBounds j true) a' w' (fun k ok hk hki hun2 hno => hfree k ok hk hki ?_ hno) (ready_mono hr (Ne.symm hji)) h3.1 ?_⟩
    ·by_cases hjk : j = k
     ·subst hjk; exact hjun
     ·rw [getD_set_ne true hjk] at hun2; exact hun2
    ·rw [Array.setIfInBounds_comm _ _ hji]
     exact h3.2.2
theorem wpAnyZ_takeP {i : Nat} {oi : Oper} {v : Value} {n : Nat} {listed : Array Bool} {a : Act} {w : World} (hi : ops[i]? = some oi) (hs : Region.noSelect ops = true) (hz : Z i = true) (hf : Region.free md ops listed i = true) (hr : (Region.ready md ops listed).contains i = true)
  (hQ : ∀ c a w, Q (.panic c) (a.put oi.dst v) w → Q (.panic c) a w) (hy : YieldsIf P ops (fun _ => True) oi v a) (h : wpAnyZ P md ops Q Z S n (listed.setIfInBounds i true) (a.put oi.dst v) w) : wpAnyZ P md ops Q Z S (n + 1) listed a w :=
 wpAnyZ_firstP hi (Region.noSelect_spec hs) hQ hz n listed a w (Region.free_spec hi hf) (by simpa using hr) hy h
/-- one operation alone may come up -/
theorem wpAnyZ_one {i : Nat} {o : Oper} {n : Nat} {listed : Array Bool} {a : Act} {w : World} (hr : Region.ready md ops listed = [i]) (ho : ops[i]? = some o)
  (h : ∀ K : Act → World → Prop, (∀ a w, (Z i = true ∨ S w) → (Z i = true ∨ S w → wpAnyZ P md ops Q Z S n (listed.setIfInBounds i true) a w) → K a w) → if Region.wanted o (yielded ops a.tmps) = true then Oper.wp P o a w K Q else K (a.put o.dst undef) w) : wpAnyZ P md ops Q Z S (n + 1) listed a w :=
 ⟨(fun h0 => by rw [hr] at h0; cases h0), fun j hj => by
  rw [hr, List.mem_singleton] at hj
  subst hj
  exact wpOp_step ho (fun K hK => h K fun a w hS hW => hK a w ⟨hS, hW hS⟩)⟩
/-- one of two operations may come up -/
theorem wpAnyZ_two {i j : Nat} {oi oj : Oper} {n : Nat} {listed : Array Bool} {a : Act} {w : World} (hr : Region.ready md ops listed = [i, j]) (hi : ops[i]? = some oi) (hj : ops[j]? = some oj)
  (h1 : ∀ K : Act → World → Prop, (∀ a w, (Z i = true ∨ S w) → (Z i = true ∨ S w → wpAnyZ P md ops Q Z S n (listed.setIfInBounds i true) a w) → K a w) → if Region.wanted oi (yielded ops a.tmps) = true then Oper.wp P oi a w K Q else K (a.put oi.dst undef) w)
  (h2 : ∀ K : Act → World → Prop, (∀ a w, (Z j = true ∨ S w) → (Z j = true ∨ S w → wpAnyZ P md ops Q Z S n (listed.setIfInBounds j true) a w) → K a w) → if Region.wanted oj (yielded ops a.tmps) = true then Oper.wp P oj a w K Q else K (a.put oj.dst undef) w) : wpAnyZ P md ops Q Z S (n + 1) listed a w :=
 ⟨(fun h0 => by rw [hr] at h0; cases h0), fun k hk => by
  rw [hr, List.mem_cons, List.mem_singleton] at hk
  rcases hk with rfl | rfl
  ·exact wpOp_step hi (fun K hK => h1 K fun a w hS hW => hK a w ⟨hS, hW hS⟩)
  ·exact wpOp_step hj (fun K hK => h2 K fun a w hS hW => hK a w ⟨hS, hW hS⟩)⟩
theorem wpAnyZ_done {listed : Array Bool} {a : Act} {w : World} (hr : Region.ready md ops listed = []) (h : Q .normal a w) : ∀ n, wpAnyZ P md ops Q Z S n listed a w
 | 0 => ⟨hr, h⟩
 | _ + 1 => ⟨fun _ => h, by rw [hr]; simp⟩
theorem wp_region_Z (Z : Nat → Bool) (S : World → Prop) {id : Nat} {a : Act} {w : World} (hm : P.follows .mixedOrders = true) (hS : S w.drew) (h : S w.drew → wpAnyZ P .any ops Q Z S ops.size (Array.replicate ops.size false) a w.drew) : (Code.region id ops true).wp P Q a w :=
 wp_region_any hm (wpAny_of_Z _ _ _ _ (h hS))
end
end Go.Q

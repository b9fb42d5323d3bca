import Derived.Maps.OwnIn
import Derived.Laws.IdiomRangeMap
import Derived.Test.YtnhpcoagkmgdoaaGreatX0
import Derived.Test.YtnhpcoagkmgdoaaGreatX4
import Derived.Test.YtnhpcoagkmgdoaaGreatX5
import Derived.Test.YtnhpcoagkmgdoaaGreatX13
set_option linter.unusedVariables false
set_option linter.unusedSimpArgs false
/- Maps that the call made: what they hold, key by key; their operations, for the walk. -/
namespace Go.Q
open Go.RowKit Go.ChangeMaps Go.MapKept
open Go.Maps (Keyed)
/-- keys of type k are spelled by enc -/
structure KeyEnc (P : Program) (k : TypeId) {α : Type} (enc : α → Value) : Prop where
 law : Keyed P k
 key : ∀ x, ∃ l, keyOf P k (enc x) = some l
 inj : ∀ x y, enc x = enc y → x = y
section
variable {P : Program} {k : TypeId} {α : Type} {enc : α → Value} {w : World} {b : Nat} {f : α → Option Value}
/-- the entries are those of f -/
structure MHolds (enc : α → Value) (f : α → Option Value) (es : Array MapEntry) (clock : Nat) : Prop where
 st : Stamped es clock
 only : ∀ e ∈ es.toList, ∃ x v, f x = some v ∧ e.key = enc x ∧ e.val = v
 all : ∀ x v, f x = some v → ∃ e ∈ es.toList, e.key = enc x ∧ e.val = v
/-- block b is a map that holds f -/
def MapF (enc : α → Value) (w : World) (b : Nat) (f : α → Option Value) : Prop := ∃ es clock, w.heap[b]? = some (.map es clock) ∧ MHolds enc f es clock
theorem MapF.made (w : World) : MapF enc (w.alloc (.map #[] 0)) w.heap.size (fun _ => none) :=
 ⟨#[], 0, (MapKept.heap_alloc w _).1, stamped_empty 0, by simp, by simp⟩
theorem MapF.lt (h : MapF enc w b f) : b < w.heap.size := by
 obtain ⟨es, clock, hb, _⟩ := h
 exact (Array.getElem?_eq_some_iff.1 hb).1
theorem MapF.same {w' : World} (h : MapF enc w b f) (e : w'.heap[b]? = w.heap[b]?) : MapF enc w' b f := by
 obtain ⟨es, clock, hb, H⟩ := h
 exact ⟨es, clock, e.trans hb, H⟩
theorem MapF.ext {w' : World} (h : MapF enc w b f) (E : Ext w w') : MapF enc w' b f := h.same (E.block b h.lt)
theorem MapF.alloc (h : MapF enc w b f) (o : Obj) : MapF enc (w.alloc o) b f := h.same ((MapKept.heap_alloc w o).2 b h.lt)
theorem MHolds.keys (K : KeyEnc P k enc) {es : Array MapEntry} {clock : Nat} (H : MHolds enc f es clock) : ∀ e ∈ es.toList, ∃ l, keyOf P k e.key = some l := by
 intro e he
 obtain ⟨x, v, _, hk, _⟩ := H.only e he
 rw [hk]; exact K.key x
variable [DecidableEq α]
/-- f, with v at x -/
def putF (f : α → Option Value) (x : α) (v : Value) : α → Option Value := fun y => if y = x then some v else f y
def delF (f : α → Option Value) (x : α) : α → Option Value := fun y => if y = x then none else f y
theorem MapF.update (K : KeyEnc P k enc) {t e : TypeId} (h : MapF enc w b f) (ht : P.underlying t = some (.map k e)) (x : α) (v : Value) :
  ∃ w', (Instr.mapUpdate t (.map (some b)) (enc x) v).run P w = .ok () w' ∧ MapF enc w' b (putF f x v) ∧ w.grownBy w' (some b) ∧ w'.heap.size = w.heap.size := by
 obtain ⟨es, clock, hb, H⟩ := h
 obtain ⟨l, hkey⟩ := K.key x
 have gr : ∀ o, w.grownBy (setBlock w b o) (some b) := fun o => ⟨rfl, rfl, rfl, by simp [setBlock], fun i _ hi => heap_setBlock_other hb _ (fun e => hi (by rw [e]))⟩
 rcases K.law.find w hkey es.toList (H.keys K) with ⟨h1, h2⟩ | ⟨j, e0, h1, h2, h3⟩
 ·refine ⟨setBlock w b (.map (es.push ⟨enc x, v, clock⟩) (clock + 1)), by simp [Instr.mapUpdate, run_underlying ht, MapKept.run_getObj_map hb, K.law.check w false hkey, h1, MapKept.run_setObj_map _ hb, Result.andThen, setBlock],
   ⟨_, _, heap_setBlock_same hb _, stamped_push H.st h2, ?_, ?_⟩, gr _, by simp [setBlock]⟩
  ·intro e he
   simp only [Array.toList_push, List.mem_append, List.mem_singleton] at he
   rcases he with he | rfl
   ·obtain ⟨y, u, hf, hk, hv⟩ := H.only e he
    refine ⟨y, u, ?_, hk, hv⟩
    unfold putF
    rw [if_neg (fun c => h2 e he (by rw [hk, c]))]; exact hf
   ·exact ⟨x, v, by simp [putF], rfl, rfl⟩
  ·intro y u hf
   unfold putF at hf
   split at hf
   ·rename_i c; cases hf; exact ⟨⟨enc x, v, clock⟩, by simp, by rw [c], rfl⟩
   ·obtain ⟨e, he, hk, hv⟩ := H.all y u hf
    exact ⟨e, by simp [he], hk, hv⟩
 ·have hj : es[j]? = some e0 := by simpa using h2
  have hjl : j < es.toList.length := (List.getElem?_eq_some_iff.1 h2).1
  have hkeyf : ∀ e', es[j]? = some e' → ({ e' with key := enc x, val := v } : MapEntry).key = e'.key := fun e' he' => by rw [hj] at he'; cases he'; exact h3.symm
  have hlist : (es.modify j (fun e' => { e' with key := enc x, val := v })).toList = es.toList.set j { e0 with key := enc x, val := v } := by
   rw [Array.toList_modify]
   apply List.ext_getElem?
   intro i
   rw [List.getElem?_modify, List.getElem?_set]
   by_cases hi : j = i
   ·subst hi; rw [if_pos rfl, if_pos hjl, h2]; simp
   ·rw [if_neg hi]; simp [hi]
  have who : ∀ a ∈ es.toList.set j { e0 with key := enc x, val := v }, a = { e0 with key := enc x, val := v } ∨ (a ∈ es.toList ∧ a.key ≠ enc x) := by
   intro a ha
   obtain ⟨i, hi, ex⟩ := List.getElem_of_mem ha
   rw [List.getElem_set] at ex
   split at ex
   ·exact .inl ex.symm
   ·rename_i hne
    have hi' : i < es.toList.length := by simpa using hi
    refine .inr ⟨ex ▸ List.getElem_mem hi', fun c => ?_⟩
    have hp := (stamped_iff es clock).1 H.st |>.2.2
    rw [List.pairwise_iff_getElem] at hp
    have e1 : es.toList[i] = a := ex
    have e2 : es.toList[j] = e0 := (List.getElem?_eq_some_iff.1 h2).2
    rcases Nat.lt_or_gt_of_ne hne with g | g
    ·exact hp j i hjl hi' g (by rw [e1, e2, h3, c])
    ·exact hp i j hi' hjl g (by rw [e1, e2, h3, c])
  refine ⟨setBlock w b (.map (es.modify j (fun e' => { e' with key := enc x, val := v })) clock),
   by simp [Instr.mapUpdate, run_underlying ht, MapKept.run_getObj_map hb, K.law.check w false hkey, h1, hj, h3, K.law.stays w hkey, MapKept.run_setObj_map _ hb, Result.andThen, setBlock],
   ⟨_, _, heap_setBlock_same hb _, stamped_modify H.st _ _ (fun _ _ => rfl) (fun e' _ he' => hkeyf e' he'), ?_, ?_⟩, gr _, by simp [setBlock]⟩
  ·intro e he
   rw [hlist] at he
   rcases who e he with rfl | ⟨he', hne⟩
   ·exact ⟨x, v, by simp [putF], rfl, rfl⟩
   ·obtain ⟨y, u, hf, hk, hv⟩ := H.only e he'
    refine ⟨y, u, ?_, hk, hv⟩
    unfold putF
    rw [if_neg (fun c => hne (by rw [hk, c]))]; exact hf
  ·intro y u hf
   rw [hlist]
   unfold putF at hf
   split at hf
   ·rename_i c; cases hf
    exact ⟨{ e0 with key := enc x, val := v }, List.mem_iff_getElem.2 ⟨j, by simpa using hjl, by simp⟩, by rw [c], rfl⟩
   ·rename_i c
    obtain ⟨e, he, hk, hv⟩ := H.all y u hf
    obtain ⟨i, hi, ei⟩ := List.getElem_of_mem he
    refine ⟨e, List.mem_iff_getElem.2 ⟨i, by simpa using hi, ?_⟩, hk, hv⟩
    rw [List.getElem_set, if_neg]
    ·exact ei
    ·intro cij
     subst cij
     have e2 : es.toList[j] = e0 := (List.getElem?_eq_some_iff.1 h2).2
     rw [ei] at e2
     rw [e2, h3] at hk
     exact c (K.inj _ _ hk).symm
omit [DecidableEq α] in
theorem MapF.look (c : Bool) (K : KeyEnc P k enc) {t e : TypeId} (h : MapF enc w b f) (ht : P.underlying t = some (.map k e)) {z : Value} (hz : (zeroValue e).run P w = .ok z w) (x : α) :
  (Instr.lookup t (.map (some b)) (enc x) c).run P w = .ok (if c then .tuple #[(f x).getD z, .bool (f x).isSome] else (f x).getD z) w := by
 obtain ⟨es, clock, hb, H⟩ := h
 obtain ⟨l, hkey⟩ := K.key x
 rcases K.law.find w hkey es.toList (H.keys K) with ⟨h1, h2⟩ | ⟨j, e0, h1, h2, h3⟩
 ·have hf : f x = none := by
   cases hc : f x with
   | none => rfl
   | some v => obtain ⟨e, he, hk, _⟩ := H.all x v hc; exact absurd hk (h2 e he)
  simp [Instr.lookup, run_underlying ht, MapKept.run_getObj_map hb, K.law.check w _ hkey, h1, hz, Result.andThen, hf]
 ·have hm0 : e0 ∈ es.toList := List.mem_of_getElem? h2
  obtain ⟨y, u, hf, hk, hv⟩ := H.only e0 hm0
  rw [h3] at hk
  have := K.inj _ _ hk
  subst this
  simp [Instr.lookup, run_underlying ht, MapKept.run_getObj_map hb, K.law.check w _ hkey, h1, Result.andThen, hf, hv]
theorem MapF.drop (K : KeyEnc P k enc) {t e ty : TypeId} (h : MapF enc w b f) (ht : P.underlying t = some (.map k e)) (x : α) :
  ∃ w', (Builtin.delete_ #[t, k] ty #[.map (some b), enc x]).run P w = .ok (.tuple #[]) w' ∧ MapF enc w' b (delF f x) ∧ w.grownBy w' (some b) ∧ w'.heap.size = w.heap.size := by
 obtain ⟨es, clock, hb, H⟩ := h
 obtain ⟨l, hkey⟩ := K.key x
 have gr : ∀ o, w.grownBy (setBlock w b o) (some b) := fun o => ⟨rfl, rfl, rfl, by simp [setBlock], fun i _ hi => heap_setBlock_other hb _ (fun e => hi (by rw [e]))⟩
 rcases K.law.find w hkey es.toList (H.keys K) with ⟨h1, h2⟩ | ⟨j, e0, h1, h2, h3⟩
 ·refine ⟨setBlock w b (.map es clock), by simp [Builtin.delete_, run_underlying ht, MapKept.run_getObj_map hb, K.law.check w _ hkey, h1, MapKept.run_setObj_map _ hb, Result.andThen, setBlock],
   ⟨_, _, heap_setBlock_same hb _, H.st, ?_, ?_⟩, gr _, by simp [setBlock]⟩
  ·intro e he
   obtain ⟨y, u, hf, hk, hv⟩ := H.only e he
   refine ⟨y, u, ?_, hk, hv⟩
   unfold delF
   rw [if_neg (fun c => h2 e he (by rw [hk, c]))]; exact hf
  ·intro y u hf
   unfold delF at hf
   split at hf
   ·cases hf
   ·exact H.all y u hf
 ·have hjl : j < es.toList.length := (List.getElem?_eq_some_iff.1 h2).1
  have hjs : j < es.size := by simpa using hjl
  have hsub : (es.eraseIdxIfInBounds j).toList = es.toList.eraseIdx j := by
   unfold Array.eraseIdxIfInBounds
   rw [dif_pos hjs]
   simp
  have hp := (stamped_iff es clock).1 H.st |>.2.2
  rw [List.pairwise_iff_getElem] at hp
  have e2 : es.toList[j] = e0 := (List.getElem?_eq_some_iff.1 h2).2
  refine ⟨setBlock w b (.map (es.eraseIdxIfInBounds j) clock), by simp [Builtin.delete_, run_underlying ht, MapKept.run_getObj_map hb, K.law.check w _ hkey, h1, MapKept.run_setObj_map _ hb, Result.andThen, setBlock],
   ⟨_, _, heap_setBlock_same hb _, stamped_erase H.st j, ?_, ?_⟩, gr _, by simp [setBlock]⟩
  ·intro e he
   rw [hsub] at he
   obtain ⟨i, hne, hi⟩ := List.mem_eraseIdx_iff_getElem?.1 he
   obtain ⟨y, u, hf, hk, hv⟩ := H.only e (List.mem_of_getElem? hi)
   refine ⟨y, u, ?_, hk, hv⟩
   unfold delF
   rw [if_neg (fun c => ?_)]
   ·exact hf
   ·obtain ⟨hil, ei⟩ := List.getElem?_eq_some_iff.1 hi
    rcases Nat.lt_or_gt_of_ne hne with g | g
    ·exact hp i j hil hjl g (by rw [ei, e2, h3, hk, c])
    ·exact hp j i hjl hil g (by rw [ei, e2, h3, hk, c])
  ·intro y u hf
   unfold delF at hf
   split at hf
   ·cases hf
   ·rename_i c
    obtain ⟨e, he, hk, hv⟩ := H.all y u hf
    rw [hsub]
    obtain ⟨i, hi, ei⟩ := List.getElem_of_mem he
    refine ⟨e, List.mem_eraseIdx_iff_getElem?.2 ⟨i, fun cij => ?_, by rw [List.getElem?_eq_getElem hi, ei]⟩, hk, hv⟩
    subst cij
    rw [ei] at e2
    rw [e2, h3] at hk
    exact c (K.inj _ _ hk).symm
end
section
variable {P : Program} {k : TypeId} {α : Type} [DecidableEq α] {enc : α → Value} (w : World) {f : α → Option Value} {ops : Array Oper} {rest : List Oper} {o : Oper} {a : Act} {Q : Exit → Act → World → Prop}
/-- delete(m, k) -/
theorem wpList_delF (hg : o.guard = none) (m x : Operand) (t : TypeId) (hop : o.op = Op.call { callee := Callee.builtin Builtin.delete, args := #[m, x], argTypes := #[t, k] }) (e : TypeId) (K : KeyEnc P k enc) (ht : P.underlying t = some (.map k e)) (b : Nat)
  (hm : a.eval m = .map (some b)) (hown : MapF enc w b f) (key : α) (hx : a.eval x = enc key)
  (hK : ∀ w', MapF enc w' b (delF f key) → w.grownBy w' (some b) → w'.heap.size = w.heap.size → wpList P ops Q rest (a.put o.dst (.tuple #[])) w') :
  wpList P ops Q (o :: rest) a w := by
 refine wpList_plain hg fun K' hK' => ?_
 obtain ⟨w', hrun, r1, r2, r3⟩ := hown.drop (ty := o.type) K ht key
 unfold Oper.wp
 simp [execOp, hop, resolve, invoke, builtin, hm, hx, hrun, Result.andThen]
 exact hK' _ _ (hK w' r1 r2 r3)
omit [DecidableEq α] in
end
section
variable {F : Fence} {nF : Nat} {P : Program} {k : TypeId} {α : Type} [DecidableEq α] {enc : α → Value} (w : World) {f : α → Option Value} {ops : Array Oper} {rest : List Oper} {o : Oper} {a : Act} {Q : Exit → Act → World → Prop}
omit [DecidableEq α] in
end
end Go.Q
/- Layer 4's Run again: the lists that it returns lie in blocks of integers. -/
namespace Go.Proofs.YtnhpcoagkmgdoaaGreat
open Go.RowKit Go.Q
/-- a list that lies in a block of integers -/
def IntsT (W : World) (a : Option Addr) (xs : List Int) : Prop :=
 xs = [] ∨ ∃ b off cs fr, a = some ⟨b, off, none⟩ ∧ W.heap[b]? = some (.cells cs 3 fr) ∧ ∀ i, i < xs.length → W.cell? ⟨b, off + i, none⟩ = some (.int .i64 (xs[i]?.getD 0))
section
variable {W W' : World} {a : Option Addr} {xs : List Int}
theorem IntsT.at_ (h : IntsT W a xs) : IntsAt W a xs := h.imp id fun ⟨b, off, _, _, ha, hb, hc⟩ => ⟨b, off, ha, lt_of_block hb, hc⟩
theorem IntsT.ext (h : IntsT W a xs) (E : Ext W W') : IntsT W' a xs := h.imp id fun ⟨b, off, cs, fr, ha, hb, hc⟩ => ⟨b, off, cs, fr, ha, (E.block b (lt_of_block hb)).trans hb, fun i hi => (E.cell (p := ⟨b, off + i, none⟩) (lt_of_block hb)).trans (hc i hi)⟩
theorem own_intsT {nb n c : Nat} (h : W.ownsRow nb 3 1 (.slice a n c) n (iv xs)) : IntsT W a xs := by
 have hi := own_ints h
 rcases hi with hi | ⟨b, off, ha, hb, hc⟩
 ·exact .inl hi
 ·have hq : (Value.slice a n c).ownBlock = some b := by rw [ha]; rfl
  rcases h.2 with ⟨e1, _⟩ | ⟨g, cap, cur, e1, _, hg, _⟩
  ·rw [e1] at hq; cases hq
  ·rw [e1] at hq
   obtain rfl : g = b := by simpa [Value.ownBlock] using hq
   exact .inr ⟨g, off, cur, _, ha, hg, hc⟩
end
def StAtT (w : World) (v : Value) (s : St) : Prop := ∃ a1 a2 a3 c1 c2 c3, v = sv a1 a2 a3 s.store.length c1 s.tape.length c2 s.printed.length c3 s.taken s.time s.at_ s.done s.why ∧ IntsT w a1 s.store ∧ IntsT w a2 s.tape ∧ IntsT w a3 s.printed
variable {nb m g1 c1 n0 : Nat} {tv pv : Value} {s : St} {o : Ord}
theorem Mac.readsT {w : World} (h : Mac w nb m g1 c1 tv pv s o) : ∃ a2 ct a3 cp, tv = .slice a2 s.tape.length ct ∧ pv = .slice a3 s.printed.length cp ∧ IntsT w (some ⟨g1, 0, none⟩) s.store ∧ IntsT w a2 s.tape ∧ IntsT w a3 s.printed := by
 obtain ⟨a2, ct, hv, ht⟩ := h.tp
 obtain ⟨a3, cp, hp⟩ := own_form h.prow
 obtain ⟨cur, hcur, _⟩ := h.st
 refine ⟨a2, ct, a3, cp, hv, hp, .inr ⟨g1, 0, cur, _, rfl, hcur, fun i hi => by rw [Nat.zero_add]; exact h.wc i (by rw [← h.len]; exact hi)⟩, ?_, ?_⟩
 ·rcases ht with e | ⟨b, off, ha, ⟨cu, hcu⟩, _, _, _, hc⟩
  ·exact .inl e
  ·exact .inr ⟨b, off, cu, _, ha, hcu, hc⟩
 ·have := h.prow
  rw [hp] at this
  exact own_intsT this
end Go.Proofs.YtnhpcoagkmgdoaaGreat
/- Layer 10 in plain Lean: a machine whose lines lose pulses; what is looked at before each order keeps it like the machine without losses. -/
namespace Go.Q
structure Loss where
 after : Int
 addr : Int
 bit : Int
/-- a machine with losses: its state, which words are bad, after how many orders losses have happened -/
structure Lm where
 s : St
 bad : List Bool
 gone : Int → Bool
def badAt (b : List Bool) (a : Int) : Bool := b[a.toNat]?.getD false
/-- a word with a bit that is the other one -/
def flipW (x k : Int) : Int := if k < 24 then (if x / 2 ^ k.toNat % 2 = 1 then x - 2 ^ k.toNat else x + 2 ^ k.toNat) else x
def lossS (s : St) (y : Loss) : St := { s with store := s.store.set y.addr.toNat (flipW (wordAt s y.addr) y.bit) }
def lossB (b : List Bool) (y : Loss) : List Bool := b.set y.addr.toNat (!badAt b y.addr)
def dueQ (L : List Loss) (m : Lm) : List Loss := if m.gone m.s.done = true then [] else L.filter fun y => y.after == m.s.done
def hapQ (L : List Loss) (m : Lm) : Lm := ⟨(dueQ L m).foldl lossS m.s, (dueQ L m).foldl lossB m.bad, fun d => d == m.s.done || m.gone d⟩
/-- the addresses that the next order reads, its own first; the one that it writes, or -1 -/
def readsQ (s : St) : List Int := s.at_ :: ((if (1 ≤ (ordAt s).op ∧ (ordAt s).op ≤ 5) ∨ (ordAt s).op = 7 then [(ordAt s).frm] else []) ++ (if 2 ≤ (ordAt s).op ∧ (ordAt s).op ≤ 4 then [(ordAt s).to] else []))
def writesQ (s : St) : Int := if (1 ≤ (ordAt s).op ∧ (ordAt s).op ≤ 4) ∨ (ordAt s).op = 6 then (ordAt s).to else -1
def noticeQ (m : Lm) : Int := ((readsQ m.s).find? (badAt m.bad)).getD (-1)
/-- a machine after its next order, or at its end -/
def doL (m : Lm) : Lm := ⟨runQ 1 m.s, if 0 ≤ writesQ m.s ∧ (runQ 1 m.s).why = 0 then m.bad.set (writesQ m.s).toNat false else m.bad, m.gone⟩
def guardN (L : List Loss) : Nat → Lm → Lm × Int
 | 0, m => (m, -1)
 | n + 1, m => if m.s.why ≠ 0 then (m, -1) else if 0 ≤ noticeQ (hapQ L m) then (hapQ L m, noticeQ (hapQ L m)) else guardN L n (doL (hapQ L m))
def blindN (L : List Loss) : Nat → Lm → Lm
 | 0, m => m
 | n + 1, m => if m.s.why ≠ 0 then m else blindN L n (doL (hapQ L m))
def beginL (s : St) : Lm := ⟨s, List.replicate 128 false, fun _ => false⟩
def lossOk (y : Loss) : Bool := inB y.after 0 1000000000 && inB y.addr 0 127 && inB y.bit 0 24
def lossX (L : List Loss) : Int := if 40 < L.length then 3 else if L.any (fun y => !lossOk y) = true then 7 else 0
def guardX (s : St) (L : List Loss) (most : Int) : Int := if (checkQ s).2.2 ≠ 0 then (checkQ s).2.2 else if lossX L ≠ 0 then lossX L else if inB most 0 5000 = true then 0 else 7
/-- what Guard and Blind return -/
def guardE (s : St) (L : List Loss) (most : Int) : St × Int × Int := if guardX s L most = 0 then ((guardN L most.toNat (beginL s)).1.s, (guardN L most.toNat (beginL s)).2, 0) else (zst, 0, guardX s L most)
def blindE (s : St) (L : List Loss) (most : Int) : St × Int := if guardX s L most = 0 then ((blindN L most.toNat (beginL s)).s, 0) else (zst, guardX s L most)
theorem flipW_bd {x k : Int} (h0 : 0 ≤ x) (h1 : x ≤ 16777215) (hk : 0 ≤ k) : 0 ≤ flipW x k ∧ flipW x k ≤ 16777215 := by
 unfold flipW
 split
 ·obtain ⟨n, rfl⟩ := Int.eq_ofNat_of_zero_le hk
  rw [Int.toNat_natCast]
  have hn : n = 0 ∨ n = 1 ∨ n = 2 ∨ n = 3 ∨ n = 4 ∨ n = 5 ∨ n = 6 ∨ n = 7 ∨ n = 8 ∨ n = 9 ∨ n = 10 ∨ n = 11 ∨ n = 12 ∨ n = 13 ∨ n = 14 ∨ n = 15 ∨ n = 16 ∨ n = 17 ∨ n = 18 ∨ n = 19 ∨ n = 20 ∨ n = 21 ∨ n = 22 ∨ n = 23 := by omega
  rcases hn with rfl | rfl | rfl | rfl | rfl | rfl | rfl | rfl | rfl | rfl | rfl | rfl | rfl | rfl | rfl | rfl | rfl | rfl | rfl | rfl | rfl | rfl | rfl | rfl <;> split <;> omega
 ·exact ⟨h0, h1⟩
theorem wordAt_bd {s : St} (h : Valid s) (a : Int) : 0 ≤ wordAt s a ∧ wordAt s a ≤ 16777215 := by
 unfold wordAt
 rcases Nat.lt_or_ge a.toNat s.store.length with h2 | h2
 ·rw [List.getElem?_eq_getElem h2]; exact h.ws _ (List.getElem_mem h2)
 ·rw [List.getElem?_eq_none h2]; simp
theorem lossS_valid {s : St} (h : Valid s) {y : Loss} (hy : 0 ≤ y.bit) : Valid (lossS s y) := by
 have hb := wordAt_bd h y.addr
 refine ⟨by show (s.store.set _ _).length = 128; rw [List.length_set]; exact h.len, h.tlen, h.plen, fun x hx => ?_, h.wt, h.wp, h.taken, h.time, h.at_, h.done, h.why, h.place⟩
 rcases List.mem_or_eq_of_mem_set hx with h2 | rfl
 ·exact h.ws x h2
 ·exact flipW_bd hb.1 hb.2 hy
theorem lossesS_valid : ∀ {F : List Loss} {s : St}, Valid s → (∀ y ∈ F, 0 ≤ y.bit) → Valid (F.foldl lossS s)
 | [], _, h, _ => h
 | y :: F, s, h, hF => by
  rw [List.foldl_cons]
  exact lossesS_valid (lossS_valid h (hF y (List.mem_cons_self ..))) fun z hz => hF z (List.mem_cons_of_mem _ hz)
theorem lossB_length (b : List Bool) (y : Loss) : (lossB b y).length = b.length := List.length_set ..
theorem lossesB_length : ∀ (F : List Loss) (b : List Bool), (F.foldl lossB b).length = b.length
 | [], _ => rfl
 | y :: F, b => by rw [List.foldl_cons, lossesB_length F, lossB_length]
theorem loss_ok {y : Loss} (h : lossOk y = true) : (0 ≤ y.after ∧ y.after ≤ 1000000000) ∧ (0 ≤ y.addr ∧ y.addr ≤ 127) ∧ 0 ≤ y.bit ∧ y.bit ≤ 24 := by
 unfold lossOk inB at h
 simp only [Bool.and_eq_true, decide_eq_true_eq] at h
 omega
theorem losses_ok {L : List Loss} (h : lossX L = 0) : L.length ≤ 40 ∧ ∀ y ∈ L, lossOk y = true := by
 unfold lossX at h
 split at h
 ·omega
 ·rename_i h1
  split at h
  ·omega
  ·rename_i h2
   refine ⟨by omega, fun y hy => ?_⟩
   rw [List.any_eq_true] at h2
   cases hb : lossOk y with
   | true => rfl
   | false => exact absurd ⟨y, hy, by rw [hb]; rfl⟩ h2
theorem due_mem {L : List Loss} {m : Lm} {y : Loss} (h : y ∈ dueQ L m) : y ∈ L ∧ y.after = m.s.done ∧ m.gone m.s.done = false := by
 unfold dueQ at h
 split at h
 ·simp at h
 ·rename_i h1
  rw [List.mem_filter] at h
  exact ⟨h.1, by simpa using h.2, by simpa using h1⟩
theorem hap_valid {L : List Loss} {m : Lm} (h : Valid m.s) (hL : ∀ y ∈ L, lossOk y = true) : Valid (hapQ L m).s :=
 lossesS_valid h fun y hy => (loss_ok (hL y (due_mem hy).1)).2.2.1
theorem losses_same : ∀ (F : List Loss) (s : St), F.foldl lossS s = { s with store := (F.foldl lossS s).store }
 | [], _ => rfl
 | y :: F, s => by
  rw [List.foldl_cons, losses_same F (lossS s y)]
  rfl
theorem hap_same (L : List Loss) (m : Lm) : (hapQ L m).s = { m.s with store := (hapQ L m).s.store } := losses_same _ _
theorem badAt_set {b : List Bool} {a c : Int} {v : Bool} (ha : 0 ≤ a) (hc : 0 ≤ c) (hl : c ≤ 127) (hb : b.length = 128) : badAt (b.set c.toNat v) a = if a = c then v else badAt b a := by
 unfold badAt
 by_cases e : a = c
 ·subst e
  rw [List.getElem?_set_self (by omega), if_pos rfl]
  rfl
 ·rw [List.getElem?_set_ne (by omega), if_neg e]
theorem losses_bad : ∀ {F : List Loss} {b : List Bool} {a : Int}, b.length = 128 → (∀ y ∈ F, 0 ≤ y.addr ∧ y.addr ≤ 127) → 0 ≤ a → badAt (F.foldl lossB b) a = true → badAt b a = true ∨ ∃ y ∈ F, y.addr = a
 | [], b, a, _, _, _, h => .inl h
 | y :: F, b, a, hl, hF, ha, h => by
  rw [List.foldl_cons] at h
  obtain ⟨h0, h1⟩ := hF y (List.mem_cons_self ..)
  rcases losses_bad (by rw [lossB_length]; exact hl) (fun z hz => hF z (List.mem_cons_of_mem _ hz)) ha h with h2 | ⟨z, hz, h2⟩
  ·unfold lossB at h2
   rw [badAt_set ha h0 h1 hl] at h2
   by_cases e : a = y.addr
   ·exact .inr ⟨y, List.mem_cons_self .., e.symm⟩
   ·rw [if_neg e] at h2; exact .inl h2
  ·exact .inr ⟨z, List.mem_cons_of_mem _ hz, h2⟩
end Go.Q

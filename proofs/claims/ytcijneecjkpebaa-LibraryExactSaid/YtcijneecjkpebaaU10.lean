import Derived.Maps.OwnIn
import Derived.Laws.IdiomRangeMap
import Derived.Deep.LoopGhost
import Derived.Laws.Strings
import Derived.Test.YtcijneecjkpebaaU0
import Derived.Test.YtcijneecjkpebaaU3
set_option linter.unusedVariables false
set_option linter.unusedSimpArgs false
/- Maps that the call made: what they hold, key by key; their operations, for the walk. -/
namespace Go.Q
open Go.RowKit Go.ChangeMaps Go.MapKept
open Go.Maps (Keyed)
/-- keys of type k are spelled by enc -/
structure KeyEnc (P : Program) (k : TypeId) {α : Type} (enc : α → Value) : Prop where
  law : Keyed P k
  key : ∀ x, ∃ l, keyOf P k (enc x) = some l
  inj : ∀ x y, enc x = enc y → x = y
section
variable {P : Program} {k : TypeId} {α : Type} {enc : α → Value} {w : World} {b : Nat} {f : α → Option Value}
/-- the entries are those of f -/
structure MHolds (enc : α → Value) (f : α → Option Value) (es : Array MapEntry) (clock : Nat) : Prop where
  st : Stamped es clock
  only : ∀ e ∈ es.toList, ∃ x v, f x = some v ∧ e.key = enc x ∧ e.val = v
  all : ∀ x v, f x = some v → ∃ e ∈ es.toList, e.key = enc x ∧ e.val = v
/-- block b is a map that holds f -/
def MapF (enc : α → Value) (w : World) (b : Nat) (f : α → Option Value) : Prop := ∃ es clock, w.heap[b]? = some (.map es clock) ∧ MHolds enc f es clock
theorem MapF.made (w : World) : MapF enc (w.alloc (.map #[] 0)) w.heap.size (fun _ => none) :=
  ⟨#[], 0, (MapKept.heap_alloc w _).1, stamped_empty 0, by simp, by simp⟩
theorem MapF.lt (h : MapF enc w b f) : b < w.heap.size := by
  obtain ⟨es, clock, hb, _⟩ := h
  exact (Array.getElem?_eq_some_iff.1 hb).1
theorem MapF.same {w' : World} (h : MapF enc w b f) (e : w'.heap[b]? = w.heap[b]?) : MapF enc w' b f := by
  obtain ⟨es, clock, hb, H⟩ := h
  exact ⟨es, clock, e.trans hb, H⟩
theorem MapF.ext {w' : World} (h : MapF enc w b f) (E : Ext w w') : MapF enc w' b f := h.same (E.block b h.lt)
theorem MapF.grown {w' : World} {row : Option Nat} (h : MapF enc w b f) (hg : w.grownBy w' row) (hne : some b ≠ row) : MapF enc w' b f := h.same (hg.block b h.lt hne)
theorem MapF.alloc (h : MapF enc w b f) (o : Obj) : MapF enc (w.alloc o) b f := h.same ((MapKept.heap_alloc w o).2 b h.lt)
theorem MapF.setCell (h : MapF enc w b f) {p : Addr} (hp : p.block ≠ b) (v : Value) : MapF enc (w.setCell p v) b f := h.same (Below.heap_setCell _ _ _ _ (fun e => hp e.symm))
theorem MapF.congr {g : α → Option Value} (h : MapF enc w b f) (e : ∀ x, f x = g x) : MapF enc w b g := by
  have : f = g := funext e
  exact this ▸ h
theorem MHolds.keys (K : KeyEnc P k enc) {es : Array MapEntry} {clock : Nat} (H : MHolds enc f es clock) : ∀ e ∈ es.toList, ∃ l, keyOf P k e.key = some l := by
  intro e he
  obtain ⟨x, v, _, hk, _⟩ := H.only e he
  rw [hk]; exact K.key x
/-- as many entries as there are keys at most -/
theorem MHolds.size_le {es : Array MapEntry} {clock : Nat} (H : MHolds enc f es clock) (L : List α) (hL : ∀ x, (f x).isSome = true → x ∈ L) : es.size ≤ L.length := by
  have hnd : (es.toList.map (·.key)).Nodup := H.st.2.2
  have hsub : ∀ v ∈ es.toList.map (·.key), v ∈ L.map enc := by
    intro v hv
    obtain ⟨e, he, rfl⟩ := List.mem_map.1 hv
    obtain ⟨x, u, hf, hk, _⟩ := H.only e he
    exact List.mem_map.2 ⟨x, hL x (by rw [hf]; rfl), hk.symm⟩
  have := List.Nodup.length_le_of_subset hnd hsub
  simpa using this
variable [DecidableEq α]
/-- f, with v at x -/
def putF (f : α → Option Value) (x : α) (v : Value) : α → Option Value := fun y => if y = x then some v else f y
def delF (f : α → Option Value) (x : α) : α → Option Value := fun y => if y = x then none else f y
theorem MapF.update (K : KeyEnc P k enc) {t e : TypeId} (h : MapF enc w b f) (ht : P.underlying t = some (.map k e)) (x : α) (v : Value) :
    ∃ w', (Instr.mapUpdate t (.map (some b)) (enc x) v).run P w = .ok () w' ∧ MapF enc w' b (putF f x v) ∧ w.grownBy w' (some b) ∧ w'.heap.size = w.heap.size := by
  obtain ⟨es, clock, hb, H⟩ := h
  obtain ⟨l, hkey⟩ := K.key x
  have gr : ∀ o, w.grownBy (setBlock w b o) (some b) := fun o => ⟨rfl, rfl, rfl, by simp [setBlock], fun i _ hi => heap_setBlock_other hb _ (fun e => hi (by rw [e]))⟩
  rcases K.law.find w hkey es.toList (H.keys K) with ⟨h1, h2⟩ | ⟨j, e0, h1, h2, h3⟩
  · refine ⟨setBlock w b (.map (es.push ⟨enc x, v, clock⟩) (clock + 1)), by simp [Instr.mapUpdate, run_underlying ht, MapKept.run_getObj_map hb, K.law.check w false hkey, h1, MapKept.run_setObj_map _ hb, Result.andThen, setBlock],
      ⟨_, _, heap_setBlock_same hb _, stamped_push H.st h2, ?_, ?_⟩, gr _, by simp [setBlock]⟩
    · intro e he
      simp only [Array.toList_push, List.mem_append, List.mem_singleton] at he
      rcases he with he | rfl
      · obtain ⟨y, u, hf, hk, hv⟩ := H.only e he
        refine ⟨y, u, ?_, hk, hv⟩
        unfold putF
        rw [if_neg (fun c => h2 e he (by rw [hk, c]))]; exact hf
      · exact ⟨x, v, by simp [putF], rfl, rfl⟩
    · intro y u hf
      unfold putF at hf
      split at hf
      · rename_i c; cases hf; exact ⟨⟨enc x, v, clock⟩, by simp, by rw [c], rfl⟩
      · obtain ⟨e, he, hk, hv⟩ := H.all y u hf
        exact ⟨e, by simp [he], hk, hv⟩
  · have hj : es[j]? = some e0 := by simpa using h2
    have hjl : j < es.toList.length := (List.getElem?_eq_some_iff.1 h2).1
    have hkeyf : ∀ e', es[j]? = some e' → ({ e' with key := enc x, val := v } : MapEntry).key = e'.key := fun e' he' => by rw [hj] at he'; cases he'; exact h3.symm
    have hlist : (es.modify j (fun e' => { e' with key := enc x, val := v })).toList = es.toList.set j { e0 with key := enc x, val := v } := by
      rw [Array.toList_modify]
      apply List.ext_getElem?
      intro i
      rw [List.getElem?_modify, List.getElem?_set]
      by_cases hi : j = i
      · subst hi; rw [if_pos rfl, if_pos hjl, h2]; simp
      · rw [if_neg hi]; simp [hi]
    have who : ∀ a ∈ es.toList.set j { e0 with key := enc x, val := v }, a = { e0 with key := enc x, val := v } ∨ (a ∈ es.toList ∧ a.key ≠ enc x) := by
      intro a ha
      obtain ⟨i, hi, ex⟩ := List.getElem_of_mem ha
      rw [List.getElem_set] at ex
      split at ex
      · exact .inl ex.symm
      · rename_i hne
        have hi' : i < es.toList.length := by simpa using hi
        refine .inr ⟨ex ▸ List.getElem_mem hi', fun c => ?_⟩
        have hp := (stamped_iff es clock).1 H.st |>.2.2
        rw [List.pairwise_iff_getElem] at hp
        have e1 : es.toList[i] = a := ex
        have e2 : es.toList[j] = e0 := (List.getElem?_eq_some_iff.1 h2).2
        rcases Nat.lt_or_gt_of_ne hne with g | g
        · exact hp j i hjl hi' g (by rw [e1, e2, h3, c])
        · exact hp i j hi' hjl g (by rw [e1, e2, h3, c])
    refine ⟨setBlock w b (.map (es.modify j (fun e' => { e' with key := enc x, val := v })) clock),
      by simp [Instr.mapUpdate, run_underlying ht, MapKept.run_getObj_map hb, K.law.check w false hkey, h1, hj, h3, K.law.stays w hkey, MapKept.run_setObj_map _ hb, Result.andThen, setBlock],
      ⟨_, _, heap_setBlock_same hb _, stamped_modify H.st _ _ (fun _ _ => rfl) (fun e' _ he' => hkeyf e' he'), ?_, ?_⟩, gr _, by simp [setBlock]⟩
    · intro e he
      rw [hlist] at he
      rcases who e he with rfl | ⟨he', hne⟩
      · exact ⟨x, v, by simp [putF], rfl, rfl⟩
      · obtain ⟨y, u, hf, hk, hv⟩ := H.only e he'
        refine ⟨y, u, ?_, hk, hv⟩
        unfold putF
        rw [if_neg (fun c => hne (by rw [hk, c]))]; exact hf
    · intro y u hf
      rw [hlist]
      unfold putF at hf
      split at hf
      · rename_i c; cases hf
        exact ⟨{ e0 with key := enc x, val := v }, List.mem_iff_getElem.2 ⟨j, by simpa using hjl, by simp⟩, by rw [c], rfl⟩
      · rename_i c
        obtain ⟨e, he, hk, hv⟩ := H.all y u hf
        obtain ⟨i, hi, ei⟩ := List.getElem_of_mem he
        refine ⟨e, List.mem_iff_getElem.2 ⟨i, by simpa using hi, ?_⟩, hk, hv⟩
        rw [List.getElem_set, if_neg]
        · exact ei
        · intro cij
          subst cij
          have e2 : es.toList[j] = e0 := (List.getElem?_eq_some_iff.1 h2).2
          rw [ei] at e2
          rw [e2, h3] at hk
          exact c (K.inj _ _ hk).symm
omit [DecidableEq α] in
theorem MapF.look (c : Bool) (K : KeyEnc P k enc) {t e : TypeId} (h : MapF enc w b f) (ht : P.underlying t = some (.map k e)) {z : Value} (hz : (zeroValue e).run P w = .ok z w) (x : α) :
    (Instr.lookup t (.map (some b)) (enc x) c).run P w = .ok (if c then .tuple #[(f x).getD z, .bool (f x).isSome] else (f x).getD z) w := by
  obtain ⟨es, clock, hb, H⟩ := h
  obtain ⟨l, hkey⟩ := K.key x
  rcases K.law.find w hkey es.toList (H.keys K) with ⟨h1, h2⟩ | ⟨j, e0, h1, h2, h3⟩
  · have hf : f x = none := by
      cases hc : f x with
      | none => rfl
      | some v => obtain ⟨e, he, hk, _⟩ := H.all x v hc; exact absurd hk (h2 e he)
    simp [Instr.lookup, run_underlying ht, MapKept.run_getObj_map hb, K.law.check w _ hkey, h1, hz, Result.andThen, hf]
  · have hm0 : e0 ∈ es.toList := List.mem_of_getElem? h2
    obtain ⟨y, u, hf, hk, hv⟩ := H.only e0 hm0
    rw [h3] at hk
    have := K.inj _ _ hk
    subst this
    simp [Instr.lookup, run_underlying ht, MapKept.run_getObj_map hb, K.law.check w _ hkey, h1, Result.andThen, hf, hv]
theorem MapF.drop (K : KeyEnc P k enc) {t e ty : TypeId} (h : MapF enc w b f) (ht : P.underlying t = some (.map k e)) (x : α) :
    ∃ w', (Builtin.delete_ #[t, k] ty #[.map (some b), enc x]).run P w = .ok (.tuple #[]) w' ∧ MapF enc w' b (delF f x) ∧ w.grownBy w' (some b) ∧ w'.heap.size = w.heap.size := by
  obtain ⟨es, clock, hb, H⟩ := h
  obtain ⟨l, hkey⟩ := K.key x
  have gr : ∀ o, w.grownBy (setBlock w b o) (some b) := fun o => ⟨rfl, rfl, rfl, by simp [setBlock], fun i _ hi => heap_setBlock_other hb _ (fun e => hi (by rw [e]))⟩
  rcases K.law.find w hkey es.toList (H.keys K) with ⟨h1, h2⟩ | ⟨j, e0, h1, h2, h3⟩
  · refine ⟨setBlock w b (.map es clock), by simp [Builtin.delete_, run_underlying ht, MapKept.run_getObj_map hb, K.law.check w _ hkey, h1, MapKept.run_setObj_map _ hb, Result.andThen, setBlock],
      ⟨_, _, heap_setBlock_same hb _, H.st, ?_, ?_⟩, gr _, by simp [setBlock]⟩
    · intro e he
      obtain ⟨y, u, hf, hk, hv⟩ := H.only e he
      refine ⟨y, u, ?_, hk, hv⟩
      unfold delF
      rw [if_neg (fun c => h2 e he (by rw [hk, c]))]; exact hf
    · intro y u hf
      unfold delF at hf
      split at hf
      · cases hf
      · exact H.all y u hf
  · have hjl : j < es.toList.length := (List.getElem?_eq_some_iff.1 h2).1
    have hjs : j < es.size := by simpa using hjl
    have hsub : (es.eraseIdxIfInBounds j).toList = es.toList.eraseIdx j := by
      unfold Array.eraseIdxIfInBounds
      rw [dif_pos hjs]
      simp
    have hp := (stamped_iff es clock).1 H.st |>.2.2
    rw [List.pairwise_iff_getElem] at hp
    have e2 : es.toList[j] = e0 := (List.getElem?_eq_some_iff.1 h2).2
    refine ⟨setBlock w b (.map (es.eraseIdxIfInBounds j) clock), by simp [Builtin.delete_, run_underlying ht, MapKept.run_getObj_map hb, K.law.check w _ hkey, h1, MapKept.run_setObj_map _ hb, Result.andThen, setBlock],
      ⟨_, _, heap_setBlock_same hb _, stamped_erase H.st j, ?_, ?_⟩, gr _, by simp [setBlock]⟩
    · intro e he
      rw [hsub] at he
      obtain ⟨i, hne, hi⟩ := List.mem_eraseIdx_iff_getElem?.1 he
      obtain ⟨y, u, hf, hk, hv⟩ := H.only e (List.mem_of_getElem? hi)
      refine ⟨y, u, ?_, hk, hv⟩
      unfold delF
      rw [if_neg (fun c => ?_)]
      · exact hf
      · obtain ⟨hil, ei⟩ := List.getElem?_eq_some_iff.1 hi
        rcases Nat.lt_or_gt_of_ne hne with g | g
        · exact hp i j hil hjl g (by rw [ei, e2, h3, hk, c])
        · exact hp j i hjl hil g (by rw [ei, e2, h3, hk, c])
    · intro y u hf
      unfold delF at hf
      split at hf
      · cases hf
      · rename_i c
        obtain ⟨e, he, hk, hv⟩ := H.all y u hf
        rw [hsub]
        obtain ⟨i, hi, ei⟩ := List.getElem_of_mem he
        refine ⟨e, List.mem_eraseIdx_iff_getElem?.2 ⟨i, fun cij => ?_, by rw [List.getElem?_eq_getElem hi, ei]⟩, hk, hv⟩
        subst cij
        rw [ei] at e2
        rw [e2, h3] at hk
        exact c (K.inj _ _ hk).symm
/-- a range over the map of block b is under way, its iterator is block r; left: the keys that are still to come, cnt of them -/
def RngF (enc : α → Value) (w : World) (b r : Nat) (f : α → Option Value) (left : α → Prop) (cnt : Nat) : Prop :=
  ∃ es clock since seen c0, w.heap[b]? = some (.map es clock) ∧ MHolds enc f es clock ∧ w.heap[r]? = some (.mapIter (some b) since seen c0) ∧ (∀ x ∈ es.toList, x.born < since) ∧ (leftOf es seen).size = cnt ∧
    (∀ e ∈ es.toList, ∀ x, e.key = enc x → (left x ↔ seen.contains e.born = false)) ∧ (∀ x, left x → (f x).isSome = true) ∧ since ≤ c0 ∧ since ≤ clock
omit [DecidableEq α] in
theorem RngF.map {r cnt : Nat} {left : α → Prop} (h : RngF enc w b r f left cnt) : MapF enc w b f := by
  obtain ⟨es, clock, _, _, _, hb, H, _⟩ := h
  exact ⟨es, clock, hb, H⟩
omit [DecidableEq α] in
theorem RngF.lt {r cnt : Nat} {left : α → Prop} (h : RngF enc w b r f left cnt) : r < w.heap.size := by
  obtain ⟨es, clock, since, seen, c0, _, _, hr, _⟩ := h
  exact (Array.getElem?_eq_some_iff.1 hr).1
omit [DecidableEq α] in
theorem RngF.left_eq {r cnt : Nat} {left : α → Prop} (h : RngF enc w b r f left cnt) : w.rangeLeft b r = cnt := by
  obtain ⟨es, clock, since, seen, c0, hb, _, hr, _, hc, _⟩ := h
  simp only [World.rangeLeft, hb, hr]
  exact hc
omit [DecidableEq α] in
theorem RngF.same {w' : World} {r cnt : Nat} {left : α → Prop} (h : RngF enc w b r f left cnt) (e1 : w'.heap[b]? = w.heap[b]?) (e2 : w'.heap[r]? = w.heap[r]?) : RngF enc w' b r f left cnt := by
  obtain ⟨es, clock, since, seen, c0, hb, H, hr, rest⟩ := h
  exact ⟨es, clock, since, seen, c0, e1.trans hb, H, e2.trans hr, rest⟩
omit [DecidableEq α] in
theorem RngF.ext {w' : World} {r cnt : Nat} {left : α → Prop} (h : RngF enc w b r f left cnt) (E : Ext w w') : RngF enc w' b r f left cnt := h.same (E.block b h.map.lt) (E.block r h.lt)
omit [DecidableEq α] in
theorem RngF.grown {w' : World} {row : Option Nat} {r cnt : Nat} {left : α → Prop} (h : RngF enc w b r f left cnt) (hg : w.grownBy w' row) (h1 : some b ≠ row) (h2 : some r ≠ row) : RngF enc w' b r f left cnt :=
  h.same (hg.block b h.map.lt h1) (hg.block r h.lt h2)
omit [DecidableEq α] in
theorem RngF.ne {r cnt : Nat} {left : α → Prop} (h : RngF enc w b r f left cnt) : r ≠ b := by
  obtain ⟨es, clock, since, seen, c0, hb, _, hr, _⟩ := h
  intro e
  rw [e, hb] at hr
  cases hr
omit [DecidableEq α] in
/-- no more than the keys of a list are to come -/
theorem RngF.cnt_le {r cnt : Nat} {left : α → Prop} (h : RngF enc w b r f left cnt) (L : List α) (hL : ∀ x, (f x).isSome = true → x ∈ L) : cnt ≤ L.length := by
  obtain ⟨es, clock, since, seen, c0, _, H, _, _, hc, _⟩ := h
  rw [← hc]
  refine Nat.le_trans ?_ (H.size_le L hL)
  unfold leftOf
  exact Array.size_filter_le
omit [DecidableEq α] in
theorem MapF.range (K : KeyEnc P k enc) {t e : TypeId} (h : MapF enc w b f) (ht : P.underlying t = some (.map k e)) :
    ∃ w' cnt, (Instr.range t (.map (some b))).run P w = .ok (.pointer (some ⟨w.heap.size, 0, none⟩)) w' ∧ RngF enc w' b w.heap.size f (fun x => (f x).isSome = true) cnt ∧ Ext w w' ∧ w'.heap.size = w.heap.size + 1 := by
  have hlt := h.lt
  obtain ⟨es, clock, hb, H⟩ := h
  refine ⟨_, _, run_range_map w t k e b es clock ht hb, ⟨es, clock, clock, #[], clock, ((MapKept.heap_alloc w _).2 b hlt).trans hb, H, (MapKept.heap_alloc w _).1, H.st.1, rfl, ?_, fun _ h => h, Nat.le_refl _, Nat.le_refl _⟩, (Ext.refl w).alloc _, by simp⟩
  intro e he x hk
  obtain ⟨y, v, hf, hk2, _⟩ := H.only e he
  refine ⟨fun _ => by simp, fun _ => ?_⟩
  obtain rfl := K.inj _ _ (hk.symm.trans hk2)
  show (f x).isSome = true
  rw [hf]; rfl
omit [DecidableEq α] in
/-- the step: nothing is left; or some key that is left comes, with what it holds -/
theorem RngF.next (K : KeyEnc P k enc) {r cnt : Nat} {left : α → Prop} (h : RngF enc w b r f left cnt) (ty : TypeId) :
    (cnt = 0 ∧ (∀ x, ¬ left x) ∧ (Instr.next (.pointer (some ⟨r, 0, none⟩)) false ty).run P w = .ok (.tuple #[.bool false]) w) ∨
    ∃ x v w' cnt', left x ∧ f x = some v ∧ (Instr.next (.pointer (some ⟨r, 0, none⟩)) false ty).run P w = .ok (.tuple #[.bool true, enc x, v]) w' ∧ RngF enc w' b r f (fun y => left y ∧ y ≠ x) cnt' ∧ cnt' < cnt ∧
      w.grownBy w' (some r) ∧ w'.heap.size = w.heap.size ∧ (Instr.entry (.pointer (some ⟨r, 0, none⟩))).run P w' = .ok (.tuple #[enc x, v]) w' := by
  have hne := h.ne
  obtain ⟨es, clock, since, seen, c0, hb, H, hr, hold, rfl, hl1, hl2, hsc, hsk⟩ := h
  rcases run_next_at (P := P) w ty r b since c0 seen es clock hr hb hold hsc with ⟨h0, hrun⟩ | ⟨e, he, w1, hal, hrun⟩
  · refine .inl ⟨h0, fun x hx => ?_, hrun⟩
    obtain ⟨v, hv⟩ := Option.isSome_iff_exists.1 (hl2 x hx)
    obtain ⟨e, he, hk, _⟩ := H.all x v hv
    have := (hl1 e he x hk).1 hx
    rw [all_seen es seen h0 e he] at this
    cases this
  · obtain ⟨hem, hes⟩ := mem_left he
    obtain ⟨x, v, hf, hk, hv⟩ := H.only e hem
    have hr1 : w1.heap[r]? = some (.mapIter (some b) since seen c0) := by rcases hal with rfl | rfl <;> exact hr
    have hb1 : w1.heap[b]? = some (.map es clock) := by rcases hal with rfl | rfl <;> exact hb
    have hset := heap_set (o' := .mapIter (some b) since (seen.push e.born) clock) hr1
    have hb' : (setBlock w1 r (.mapIter (some b) since (seen.push e.born) clock)).heap[b]? = some (.map es clock) := (hset.2 b (fun e1 => hne e1.symm)).trans hb1
    have hent := run_entry_at (P := P) _ r b since seen es clock e hset.1 hb' hem ((stamped_iff es clock).1 H.st).2.1
    rw [hk, hv] at hrun hent
    refine .inr ⟨x, v, _, _, (hl1 e hem x hk).2 hes, hf, hrun,
      ⟨es, clock, since, seen.push e.born, clock, hb', H, hset.1, hold, rfl, ?_, fun y hy => hl2 y hy.1, hsk, hsk⟩, left_shrinks es seen e he, ?_, ?_, hent⟩
    · intro e' he' y hky
      rw [contains_push]
      constructor
      · rintro ⟨hy, hyx⟩
        have h1 := (hl1 e' he' y hky).1 hy
        have h2 : (e'.born == e.born) = false := by
          cases hbb : (e'.born == e.born) with
          | false => rfl
          | true =>
            have := born_inj ((stamped_iff es clock).1 H.st).2.1 he' hem (by simpa using hbb)
            rw [this, hk] at hky
            exact absurd (K.inj _ _ hky).symm hyx
        rw [h1, h2]; rfl
      · intro hc
        have h1 : seen.contains e'.born = false := by cases h : seen.contains e'.born <;> simp_all
        refine ⟨(hl1 e' he' y hky).2 h1, fun c => ?_⟩
        subst c
        have hek : e'.key = e.key := hky.trans hk.symm
        have := entry_eq_of_key ((stamped_iff es clock).1 H.st).2.2 he' hem hek
        rw [this] at hc
        simp at hc
    · rcases hal with rfl | rfl <;> exact ⟨rfl, rfl, rfl, by simp [setBlock], fun i _ hi => hset.2 i (fun e1 => hi (by rw [e1]))⟩
    · rcases hal with rfl | rfl <;> simp [setBlock]
end
section
variable {P : Program} {k : TypeId} {α : Type} [DecidableEq α] {enc : α → Value} (w : World) {f : α → Option Value} {ops : Array Oper} {rest : List Oper} {o : Oper} {a : Act} {Q : Exit → Act → World → Prop}
/-- m[k] = v -/
theorem wpList_putF (hg : o.guard = none) (m x v : Operand) (t : TypeId) (hop : o.op = Op.mapUpdate t m x v) (e : TypeId) (K : KeyEnc P k enc) (ht : P.underlying t = some (.map k e)) (b : Nat)
    (hm : a.eval m = .map (some b)) (hown : MapF enc w b f) (key : α) (val : Value) (hx : a.eval x = enc key) (hv : a.eval v = val)
    (hK : ∀ w', MapF enc w' b (putF f key val) → w.grownBy w' (some b) → w'.heap.size = w.heap.size → wpList P ops Q rest (a.put o.dst undef) w') :
    wpList P ops Q (o :: rest) a w := by
  refine wpList_plain hg fun K' hK' => ?_
  obtain ⟨w', hrun, r1, r2, r3⟩ := hown.update K ht key val
  unfold Oper.wp
  simp [execOp, hop, hm, hx, hv, hrun, Result.andThen]
  exact hK' _ _ (hK w' r1 r2 r3)
/-- an entry of a map literal -/
theorem wpList_insF (hg : o.guard = none) (m x v : Operand) (t : TypeId) (hop : o.op = Op.insert t m x v) (e : TypeId) (K : KeyEnc P k enc) (ht : P.underlying t = some (.map k e)) (b : Nat)
    (hm : a.eval m = .map (some b)) (hown : MapF enc w b f) (key : α) (val : Value) (hx : a.eval x = enc key) (hv : a.eval v = val)
    (hK : ∀ w', MapF enc w' b (putF f key val) → w.grownBy w' (some b) → w'.heap.size = w.heap.size → wpList P ops Q rest (a.put o.dst undef) w') :
    wpList P ops Q (o :: rest) a w := by
  refine wpList_plain hg fun K' hK' => ?_
  obtain ⟨w', hrun, r1, r2, r3⟩ := hown.update K ht key val
  unfold Oper.wp
  simp [execOp, hop, hm, hx, hv, hrun, Result.andThen]
  exact hK' _ _ (hK w' r1 r2 r3)
omit [DecidableEq α] in
/-- m[k] -/
theorem wpList_lookF (hg : o.guard = none) (m x : Operand) (t : TypeId) (hop : o.op = Op.lookup t m x false) (e : TypeId) (K : KeyEnc P k enc) (ht : P.underlying t = some (.map k e)) {z : Value} (hz : (zeroValue e).run P w = .ok z w) (b : Nat)
    (hm : a.eval m = .map (some b)) (hown : MapF enc w b f) (key : α) (hx : a.eval x = enc key)
    (hK : wpList P ops Q rest (a.put o.dst ((f key).getD z)) w) :
    wpList P ops Q (o :: rest) a w := by
  refine wpList_plain hg fun K' hK' => ?_
  have hrun := hown.look false K ht hz key
  simp only [Bool.false_eq_true, if_false] at hrun
  unfold Oper.wp
  simp [execOp, hop, hm, hx, hrun, Result.andThen]
  exact hK' _ _ hK
omit [DecidableEq α] in
/-- v, ok := m[k] -/
theorem wpList_lookOkF (hg : o.guard = none) (m x : Operand) (t : TypeId) (hop : o.op = Op.lookup t m x true) (e : TypeId) (K : KeyEnc P k enc) (ht : P.underlying t = some (.map k e)) {z : Value} (hz : (zeroValue e).run P w = .ok z w) (b : Nat)
    (hm : a.eval m = .map (some b)) (hown : MapF enc w b f) (key : α) (hx : a.eval x = enc key)
    (hK : wpList P ops Q rest (a.put o.dst (.tuple #[(f key).getD z, .bool (f key).isSome])) w) :
    wpList P ops Q (o :: rest) a w := by
  refine wpList_plain hg fun K' hK' => ?_
  have hrun := hown.look true K ht hz key
  simp only [if_true] at hrun
  unfold Oper.wp
  simp [execOp, hop, hm, hx, hrun, Result.andThen]
  exact hK' _ _ hK
/-- delete(m, k) -/
theorem wpList_delF (hg : o.guard = none) (m x : Operand) (t : TypeId) (hop : o.op = Op.call { callee := Callee.builtin Builtin.delete, args := #[m, x], argTypes := #[t, k] }) (e : TypeId) (K : KeyEnc P k enc) (ht : P.underlying t = some (.map k e)) (b : Nat)
    (hm : a.eval m = .map (some b)) (hown : MapF enc w b f) (key : α) (hx : a.eval x = enc key)
    (hK : ∀ w', MapF enc w' b (delF f key) → w.grownBy w' (some b) → w'.heap.size = w.heap.size → wpList P ops Q rest (a.put o.dst (.tuple #[])) w') :
    wpList P ops Q (o :: rest) a w := by
  refine wpList_plain hg fun K' hK' => ?_
  obtain ⟨w', hrun, r1, r2, r3⟩ := hown.drop (ty := o.type) K ht key
  unfold Oper.wp
  simp [execOp, hop, resolve, invoke, builtin, hm, hx, hrun, Result.andThen]
  exact hK' _ _ (hK w' r1 r2 r3)
omit [DecidableEq α] in
/-- range m -/
theorem wpList_rangeF (hg : o.guard = none) (m : Operand) (t : TypeId) (hop : o.op = Op.range t m) (e : TypeId) (K : KeyEnc P k enc) (ht : P.underlying t = some (.map k e)) (b : Nat)
    (hm : a.eval m = .map (some b)) (hown : MapF enc w b f)
    (hK : ∀ w' cnt, RngF enc w' b w.heap.size f (fun x => (f x).isSome = true) cnt → Ext w w' → w'.heap.size = w.heap.size + 1 → wpList P ops Q rest (a.put o.dst (.pointer (some ⟨w.heap.size, 0, none⟩))) w') :
    wpList P ops Q (o :: rest) a w := by
  refine wpList_plain hg fun K' hK' => ?_
  obtain ⟨w', cnt, hrun, r1, r2, r3⟩ := hown.range K ht
  unfold Oper.wp
  simp [execOp, hop, hm, hrun, Result.andThen]
  exact hK' _ _ (hK w' cnt r1 r2 r3)
omit [DecidableEq α] in
/-- the step of a range -/
theorem wpList_nextF (hg : o.guard = none) (it : Operand) (hop : o.op = Op.next it false) (K : KeyEnc P k enc) (b r : Nat) (left : α → Prop) (cnt : Nat) (hit : a.eval it = .pointer (some ⟨r, 0, none⟩)) (h : RngF enc w b r f left cnt)
    (hDone : cnt = 0 → (∀ x, ¬ left x) → wpList P ops Q rest (a.put o.dst (.tuple #[.bool false])) w)
    (hMore : ∀ (x : α) (v : Value) (w' : World) (cnt' : Nat), left x → f x = some v → RngF enc w' b r f (fun y => left y ∧ y ≠ x) cnt' → cnt' < cnt → w.grownBy w' (some r) → w'.heap.size = w.heap.size →
      (Instr.entry (.pointer (some ⟨r, 0, none⟩))).run P w' = .ok (.tuple #[enc x, v]) w' → wpList P ops Q rest (a.put o.dst (.tuple #[.bool true, enc x, v])) w') :
    wpList P ops Q (o :: rest) a w := by
  refine wpList_plain hg fun K' hK' => ?_
  unfold Oper.wp
  rcases h.next K o.type with ⟨h0, hl, hrun⟩ | ⟨x, v, w', cnt', hlk, hv, hrun, hrg, hlt, hgr, hsz, hen⟩
  · simp [execOp, hop, hit, hrun, Result.andThen]
    exact hK' _ _ (hDone h0 hl)
  · simp [execOp, hop, hit, hrun, Result.andThen]
    exact hK' _ _ (hMore x v w' cnt' hlk hv hrg hlt hgr hsz hen)
end
section
variable {F : Fence} {nF : Nat} {P : Program} {k : TypeId} {α : Type} [DecidableEq α] {enc : α → Value} (w : World) {f : α → Option Value} {ops : Array Oper} {rest : List Oper} {o : Oper} {a : Act} {Q : Exit → Act → World → Prop}
omit [DecidableEq α] in
theorem wpListIn_rangeF (hg : o.guard = none) (m : Operand) (t : TypeId) (hop : o.op = Op.range t m) (e : TypeId) (K : KeyEnc P k enc) (ht : P.underlying t = some (.map k e)) (b : Nat)
    (hm : a.eval m = .map (some b)) (hown : MapF enc w b f)
    (hK : ∀ w' cnt, RngF enc w' b w.heap.size f (fun x => (f x).isSome = true) cnt → Ext w w' → w'.heap.size = w.heap.size + 1 → wpListIn F nF P ops Q rest (a.put o.dst (.pointer (some ⟨w.heap.size, 0, none⟩))) w') :
    wpListIn F nF P ops Q (o :: rest) a w := by
  refine wpListIn_plain hg fun K' hK' => ?_
  obtain ⟨w', cnt, hrun, r1, r2, r3⟩ := hown.range K ht
  unfold Oper.wpIn
  refine ⟨by simp [Oper.about, hop], ?_⟩
  rw [Oper.semAt_plain F _ _ (by rw [hop]; intro c hc'; cases hc')]
  simp [execOp, hop, hm, hrun, Result.andThen]
  exact hK' _ _ (hK w' cnt r1 r2 r3)
omit [DecidableEq α] in
theorem wpListIn_nextF (hg : o.guard = none) (it : Operand) (hop : o.op = Op.next it false) (K : KeyEnc P k enc) (b r : Nat) (left : α → Prop) (cnt : Nat) (hit : a.eval it = .pointer (some ⟨r, 0, none⟩)) (h : RngF enc w b r f left cnt)
    (hDone : cnt = 0 → (∀ x, ¬ left x) → wpListIn F nF P ops Q rest (a.put o.dst (.tuple #[.bool false])) w)
    (hMore : ∀ (x : α) (v : Value) (w' : World) (cnt' : Nat), left x → f x = some v → RngF enc w' b r f (fun y => left y ∧ y ≠ x) cnt' → cnt' < cnt → w.grownBy w' (some r) → w'.heap.size = w.heap.size →
      (Instr.entry (.pointer (some ⟨r, 0, none⟩))).run P w' = .ok (.tuple #[enc x, v]) w' → wpListIn F nF P ops Q rest (a.put o.dst (.tuple #[.bool true, enc x, v])) w') :
    wpListIn F nF P ops Q (o :: rest) a w := by
  refine wpListIn_plain hg fun K' hK' => ?_
  unfold Oper.wpIn
  refine ⟨by simp [Oper.about, hop], ?_⟩
  rw [Oper.semAt_plain F _ _ (by rw [hop]; intro c hc'; cases hc')]
  rcases h.next K o.type with ⟨h0, hl, hrun⟩ | ⟨x, v, w', cnt', hlk, hv, hrun, hrg, hlt, hgr, hsz, hen⟩
  · simp [execOp, hop, hit, hrun, Result.andThen]
    exact hK' _ _ (hDone h0 hl)
  · simp [execOp, hop, hit, hrun, Result.andThen]
    exact hK' _ _ (hMore x v w' cnt' hlk hv hrg hlt hgr hsz hen)
end
end Go.Q
/- Layer 8: entries by their names. -/
namespace Go.Q
/-- the index of the entry with a name; -1 -/
def idxE (cat : List En) (nm : ByteArray) : Int := match findN cat nm with | some k => (k : Int) | none => -1
theorem idxE_hit {cat : List En} {nm : ByteArray} {k : Nat} (hk : k < cat.length) (h : (cat[k]).name = nm) (hn : ∀ j (hj : j < k), (cat[j]'(by omega)).name ≠ nm) : idxE cat nm = k := by
  have : findN cat nm = some k := by
    unfold findN
    rw [List.findIdx?_eq_some_iff_getElem]
    exact ⟨hk, by simpa using h, fun j hj => by simpa using hn j hj⟩
  unfold idxE
  rw [this]
theorem idxE_miss {cat : List En} {nm : ByteArray} (hn : ∀ j (hj : j < cat.length), (cat[j]).name ≠ nm) : idxE cat nm = -1 := by
  have : findN cat nm = none := by
    unfold findN
    rw [List.findIdx?_eq_none_iff]
    intro x hx
    obtain ⟨i, hi, rfl⟩ := List.mem_iff_getElem.1 hx
    simpa using hn i hi
  unfold idxE
  rw [this]
theorem idxE_bd (cat : List En) (nm : ByteArray) : -1 ≤ idxE cat nm ∧ idxE cat nm < cat.length := by
  unfold idxE
  cases h : findN cat nm with
  | none => dsimp only; omega
  | some k =>
    unfold findN at h
    rw [List.findIdx?_eq_some_iff_getElem] at h
    obtain ⟨hk, _⟩ := h
    dsimp only
    omega
theorem idxE_has (cat : List En) (nm : ByteArray) : decide (0 ≤ idxE cat nm) = hasN cat nm := by
  unfold idxE hasN
  cases h : findN cat nm with
  | none =>
    unfold findN at h
    rw [List.findIdx?_eq_none_iff] at h
    symm
    dsimp only
    rw [show decide ((0 : Int) ≤ -1) = false from by decide, List.any_eq_false]
    intro x hx; simpa using h x hx
  | some k =>
    unfold findN at h
    rw [List.findIdx?_eq_some_iff_getElem] at h
    obtain ⟨hk, hp, _⟩ := h
    symm
    dsimp only
    rw [decide_eq_true (by omega), List.any_eq_true]
    exact ⟨_, List.getElem_mem hk, hp⟩
theorem str_eq (x y : ByteArray) : (x.toList == y.toList) = decide (x = y) := by
  by_cases h : x = y
  · subst h; simp
  · rw [decide_eq_false h]
    cases hq : (x.toList == y.toList) with
    | false => rfl
    | true =>
      exfalso
      have e := beq_iff_eq.1 hq
      rw [ByteArray.toList_eq, ByteArray.toList_eq] at e
      obtain ⟨⟨a⟩⟩ := x
      obtain ⟨⟨b⟩⟩ := y
      have h2 : a = b := e
      exact h (by rw [h2])
end Go.Q
namespace Go.Proofs.Ytcijneecjkpebaa
open Go.RowKit Go.Q
set_option maxHeartbeats 400000 in
theorem lb_entry1 (x : En) (l : Lo) (nm : ByteArray) (b : Nat) (w : World) (h : w.cell? ⟨b, 0, none⟩ = some (.string nm)) (hb : b < w.heap.size) :
    Calls Try.prog 134 #[.agg #[.string x.name, .int .i64 x.ver, .slice l.a1 x.code.words.length l.c1, .slice l.a2 x.code.masks.length l.c2, .int .i64 x.code.entry, .int .i64 x.code.exit, .int .i64 x.code.result, .slice l.a3 x.code.args.length l.c3], .pointer (some ⟨b, 0, none⟩)] w fun e w' => e = .returned (.bool (decide (x.name = nm))) ∧ Ext w w' := by
  rw [← str_eq]
  go_enter Try.func134, Try.ntmps134
  go_wp2
  go_ret
  exact ⟨rfl, (by repeat (first | with_reducible exact Ext.refl _ |  (with_reducible refine Ext.alloc ?_ _) | (with_reducible refine Below.drew ?_) | (with_reducible refine below_drewN ?_ _) | (with_reducible refine ext_put ?_ _ ?_; rotate_left; (first | with_reducible exact Nat.le_refl _ | with_reducible exact Nat.le_succ _ | omega | (dsimp only; omega)))))⟩
set_option maxRecDepth 100000 in
set_option maxHeartbeats 1000000 in
theorem lb_index (nm : ByteArray) (b0 : Nat) (a : Option Addr) (n c : Nat) (cat : List En) (L : Nat → Lo) (w : World) (h : w.cell? ⟨b0, 0, none⟩ = some (.string nm)) (hb0 : b0 < w.heap.size)
    (hn : cat.length = n) (hbig : n ≤ 9223372036854775807) (hI : CatAt w a cat L) :
    Calls Try.prog 147 #[.slice a n c, .func (.func 134) #[] #[.pointer (some ⟨b0, 0, none⟩)]] w fun e w' => e = .returned (.int .i64 (idxE cat nm)) ∧ Ext w w' := by
  have hp := fun x l (W : World) (E : Ext w W) => lb_entry1 x l nm b0 W (cell_later E h) (Nat.lt_of_lt_of_le hb0 E.size)
  rcases hI with rfl | ⟨b, off, rfl, hb, hc⟩
  · obtain rfl : n = 0 := hn.symm
    go_enter Try.func147, Try.ntmps147
    go_wp2
    go_loopg [5, 8] 0 (fun gg _ s8 wr => s8 = .int .i64 0 ∧ Aside (Ext w wr))
    case atStart => exact ⟨rfl, Ext.refl w⟩
    case round =>
      obtain ⟨rfl, BW⟩ := hrel
      go_wp2
      go_ret
      exact ⟨rfl, BW.out⟩
  · subst hn
    have HC := Lib.hid hc
    clear hc h
    go_enter Try.func147, Try.ntmps147
    go_wp2
    go_loopg [5, 8] cat.length (fun gg _ s8 wr => ∃ kk : Nat, kk ≤ cat.length ∧ cat.length - kk ≤ gg ∧ s8 = .int .i64 kk ∧ Aside (Ext w wr) ∧ Aside (∀ j x, j < kk → cat[j]? = some x → x.name ≠ nm))
    case atStart => exact ⟨0, Nat.zero_le _, by omega, rfl, Ext.refl w, fun j x hj => absurd hj (Nat.not_lt_zero _)⟩
    case round =>
      obtain ⟨kk, hkk, hg, rfl, BW, A⟩ := hrel
      by_cases hlt : kk < cat.length
      · have hltz : (kk : Int) < (cat.length : Int) := by omega
        obtain ⟨x, hx⟩ : ∃ x, cat[kk]? = some x := ⟨_, List.getElem?_eq_getElem hlt⟩
        obtain ⟨hcx, _⟩ := HC.out kk x hx
        have hcj := fun j v hv => (BW.out.cell (p := ⟨b, off + kk * 8 + j, none⟩) hb).trans (hcx j v hv)
        have q0 := hcj 0 (.string x.name) rfl
        have q1 := hcj 1 (.int .i64 x.ver) rfl
        have q2 := hcj 2 (.slice (L kk).a1 x.code.words.length (L kk).c1) rfl
        have q3 := hcj 3 (.slice (L kk).a2 x.code.masks.length (L kk).c2) rfl
        have q4 := hcj 4 (.int .i64 x.code.entry) rfl
        have q5 := hcj 5 (.int .i64 x.code.exit) rfl
        have q6 := hcj 6 (.int .i64 x.code.result) rfl
        have q7 := hcj 7 (.slice (L kk).a3 x.code.args.length (L kk).c3) rfl
        rw [Nat.add_zero] at q0
        have hcall := hp x (L kk) wr BW.out
        have HX := Lib.hid hx
        clear hcx hcj hp hx
        cases hq : decide (x.name = nm) with
        | true =>
          rw [hq] at hcall
          have HQ := Lib.hid (of_decide_eq_true hq)
          clear hq
          go_wp2_with (go_at_call 134; refine hcall.mono ?_; rintro e w' ⟨rfl, hb'⟩)
          go_ret
          refine ⟨?_, BW.out.comp hb'⟩
          rw [idxE_hit hlt (by
            have := HX.out
            rw [List.getElem?_eq_getElem hlt] at this
            rw [Option.some.inj this]
            exact HQ.out) (fun j hj => A.out j _ hj (List.getElem?_eq_getElem (by omega)))]
          rfl
        | false =>
          rw [hq] at hcall
          have HQ := Lib.hid (of_decide_eq_false hq)
          clear hq
          go_wp2_with (go_at_call 134; refine hcall.mono ?_; rintro e w' ⟨rfl, hb'⟩)
          go_roundg (cat.length - (kk + 1))
          case measure => omega
          case rel =>
            refine ⟨kk + 1, by omega, by omega, by go_num, BW.out.comp hb', (show Aside _ from fun j y hj hy => ?_)⟩
            by_cases e : j = kk
            · subst e
              rw [HX.out] at hy
              rw [← Option.some.inj hy]
              exact HQ.out
            · exact A.out j y (by omega) hy
      · have hltz : ¬ (kk : Int) < (cat.length : Int) := by omega
        have hkx : kk = cat.length := by omega
        go_wp2
        go_ret
        refine ⟨?_, BW.out⟩
        rw [idxE_miss (fun j hj => A.out j _ (by omega) (List.getElem?_eq_getElem hj))]
        rfl
set_option maxHeartbeats 400000 in
theorem lb_entry (nm : ByteArray) (a : Option Addr) (n c : Nat) (cat : List En) (L : Nat → Lo) (w : World) (hn : cat.length = n) (hbig : n ≤ 9223372036854775807) (hI : CatAt w a cat L) :
    Calls Try.prog 113 #[.slice a n c, .string nm] w fun e w' => e = .returned (.tuple #[.int .i64 (idxE cat nm), .bool (hasN cat nm)]) ∧ Ext w w' := by
  have hi := lb_index nm w.heap.size a n c cat L (w.alloc (.cells #[.string nm] 9)) (by simp [go_sem]) (by simp) hn hbig (hI.ext ((Ext.refl w).alloc _))
  have hf : Calls Try.prog 133 #[.slice a n c, .func (.func 134) #[] #[.pointer (some ⟨w.heap.size, 0, none⟩)]] (w.alloc (.cells #[.string nm] 9)) fun e w' => e = .returned (.tuple #[.int .i64 (idxE cat nm), .bool (hasN cat nm)]) ∧ Ext (w.alloc (.cells #[.string nm] 9)) w' := by
    rw [← idxE_has]
    have hd : ∀ x : Int, Hid (idxE cat nm = x) → True := fun _ _ => trivial
    generalize idxE cat nm = r at *
    clear hI hd
    go_enter Try.func133, Try.ntmps133
    go_wp2_with (go_at_call 147; refine hi.mono ?_; rintro e w' ⟨rfl, hb'⟩)
    go_ret2
    exact ⟨rfl, hb'⟩
  clear hi hI
  go_enter Try.func113, Try.ntmps113
  go_wp2_with fail
  refine (hf).mono ?_
  rintro e w1 ⟨rfl, E1⟩
  go_wp2
  go_ret2
  exact ⟨rfl, E1.old⟩
end Go.Proofs.Ytcijneecjkpebaa

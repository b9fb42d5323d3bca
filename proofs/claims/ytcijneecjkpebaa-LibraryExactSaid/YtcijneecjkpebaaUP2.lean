import Derived.Test.YtcijneecjkpebaaU6
set_option linter.unusedVariables false
set_option linter.unusedSimpArgs false
/- Layer 8 (library) in plain Lean: a catalogue after patches; patches that undo each other. -/
namespace Go.Q
theorem fit_find {cat : List En} {p : Pt} (h : fitE cat p = 0) : ∃ k x, findN cat p.name = some k ∧ cat[k]? = some x ∧ x.name = p.name ∧ (inB p.at_ 0 ((x.code.words.length : Int) - 1) = true ∧ x.ver = p.ver ∧ x.code.w p.at_.toNat = p.old ∧ x.code.m p.at_.toNat = p.oldM ∧ wordB p.new = true ∧ maskB p.newM = true ∧ x.ver ≠ 1000) ∧ putE cat p = cat.set k (x.patch p) := by
  unfold fitE at h
  cases hf : findN cat p.name with
  | none => rw [hf] at h; cases h
  | some k =>
    rw [hf] at h
    dsimp only at h
    cases hx : cat[k]? with
    | none => rw [hx] at h; cases h
    | some x =>
      rw [hx] at h
      dsimp only at h
      have hn : x.name = p.name := by
        unfold findN at hf
        rw [List.findIdx?_eq_some_iff_getElem] at hf
        obtain ⟨hk, hp, -⟩ := hf
        rw [List.getElem?_eq_getElem hk] at hx
        rw [← Option.some.inj hx]
        simpa using hp
      have hput : putE cat p = cat.set k (x.patch p) := by unfold putE; rw [hf]; dsimp only; rw [hx]
      split at h
      · cases h
      split at h
      · cases h
      split at h
      · cases h
      split at h
      · cases h
      rename_i h1 h2 h3 h4
      refine ⟨k, x, rfl, hx, hn, ⟨by simpa using h1, Decidable.byContradiction h2, Decidable.byContradiction fun e => h3 (.inl e), Decidable.byContradiction fun e => h3 (.inr e), ?_, ?_, fun e => h4 (.inr (.inr e))⟩, hput⟩
      · cases e : wordB p.new with
        | true => rfl
        | false => exact absurd (.inl e) h4
      · cases e : maskB p.newM with
        | true => rfl
        | false => exact absurd (.inr (.inl e)) h4
/-- names that differ pairwise -/
def Apart (cat : List En) : Prop := cat.Pairwise fun a b => a.name ≠ b.name
theorem apart_get {cat : List En} (h : Apart cat) {i j : Nat} {x y : En} (hi : cat[i]? = some x) (hj : cat[j]? = some y) (e : x.name = y.name) : i = j := by
  unfold Apart at h
  rw [List.pairwise_iff_getElem] at h
  obtain ⟨hi1, rfl⟩ := List.getElem?_eq_some_iff.1 hi
  obtain ⟨hj1, rfl⟩ := List.getElem?_eq_some_iff.1 hj
  rcases Nat.lt_trichotomy i j with hl | hl | hl
  · exact absurd e (h i j hi1 hj1 hl)
  · exact hl
  · exact absurd e.symm (h j i hj1 hi1 hl)
theorem find_at {cat : List En} (h : Apart cat) {k : Nat} {x : En} (hx : cat[k]? = some x) : findN cat x.name = some k := by
  obtain ⟨hk, rfl⟩ := List.getElem?_eq_some_iff.1 hx
  unfold findN
  rw [List.findIdx?_eq_some_iff_getElem]
  refine ⟨hk, by simp, fun j hj => ?_⟩
  unfold Apart at h
  rw [List.pairwise_iff_getElem] at h
  simpa using h j k (by omega) hk hj
theorem apart_set {cat : List En} (h : Apart cat) {k : Nat} {x y : En} (hx : cat[k]? = some x) (e : y.name = x.name) : Apart (cat.set k y) := by
  unfold Apart at *
  rw [List.pairwise_iff_getElem] at *
  obtain ⟨hk, rfl⟩ := List.getElem?_eq_some_iff.1 hx
  intro i j hi hj hl
  rw [List.length_set] at hi hj
  have := h i j hi hj hl
  rw [List.getElem_set, List.getElem_set]
  split
  · rename_i e1
    subst e1
    rw [if_neg (by omega), e]
    exact this
  · split
    · rename_i e2
      subst e2
      rw [e]; exact this
    · exact this
theorem set_good {cat : List En} (h : ∀ x ∈ cat, Good x) {k : Nat} {y : En} (hy : Good y) : ∀ x ∈ cat.set k y, Good x := by
  intro x hx
  rcases List.mem_or_eq_of_mem_set hx with h1 | rfl
  · exact h x h1
  · exact hy
theorem all_set {l : List Int} {p : Int → Bool} (h : l.all p = true) {v : Int} (hv : p v = true) (k : Nat) : (l.set k v).all p = true := by
  rw [List.all_eq_true] at *
  intro x hx
  rcases List.mem_or_eq_of_mem_set hx with h1 | rfl
  · exact h x h1
  · exact hv
theorem check_set {c : Rt} (h : checkR c = 0) {v u : Int} (hv : wordB v = true) (hu : maskB u = true) (k : Nat) : checkR { c with words := c.words.set k v, masks := c.masks.set k u } = 0 := by
  obtain ⟨h1, h2, h3⟩ := check_parts h
  unfold checkR at h ⊢
  dsimp only
  rw [List.length_set, List.length_set]
  split at h
  · omega
  rename_i g1
  rw [if_neg g1, if_neg (by rw [all_set h2 hv, all_set h3 hu]; simp)]
  split at h
  · omega
  · split at h
    · omega
    · rename_i g2 g3
      rw [if_neg g3]
theorem patch_good {x : En} (h : Good x) {p : Pt} (hv : wordB p.new = true) (hu : maskB p.newM = true) (h1 : x.ver ≠ 1000) : Good (x.patch p) :=
  ⟨h.name, by have := h.ver; show 1 ≤ x.ver + 1 ∧ x.ver + 1 ≤ 1000; omega, check_set h.code hv hu _⟩
/-- how many patches name an entry; what the last one that names a word says -/
def cntN (l : List Pt) (n : ByteArray) : Nat := l.countP fun p => decide (p.name = n)
def lastW (l : List Pt) (n : ByteArray) (w : Nat) (d : Int × Int) : Int × Int := l.foldl (fun d p => if p.name = n ∧ p.at_ = (w : Int) then (p.new, p.newM) else d) d
/-- an entry after patches -/
structure Aft (l : List Pt) (a b : En) : Prop where
  name : b.name = a.name
  ver : b.ver = a.ver + cntN l a.name
  wl : b.code.words.length = a.code.words.length
  ml : b.code.masks.length = a.code.masks.length
  entry : b.code.entry = a.code.entry
  exit : b.code.exit = a.code.exit
  result : b.code.result = a.code.result
  args : b.code.args = a.code.args
  word : ∀ w : Nat, w < a.code.words.length → (b.code.w w, b.code.m w) = lastW l a.name w (a.code.w w, a.code.m w)
theorem just : ∀ (l : List Pt) (i : Nat) (cat after : List En) (at_ : Int), Apart cat → (∀ x ∈ cat, Good x) → patchN i cat l = (after, at_, 0) → Apart after ∧ (∀ x ∈ after, Good x) ∧ after.length = cat.length ∧ ∀ (j : Nat) (a b : En), cat[j]? = some a → after[j]? = some b → Aft l a b
  | [], i, cat, after, at_, hA, hG, h => by
    unfold patchN at h
    obtain rfl : cat = after := (Prod.mk.inj h).1
    refine ⟨hA, hG, rfl, fun j a b ha hb => ?_⟩
    rw [ha] at hb
    obtain rfl := Option.some.inj hb
    exact ⟨rfl, by unfold cntN; simp, rfl, rfl, rfl, rfl, rfl, rfl, fun w _ => rfl⟩
  | p :: l, i, cat, after, at_, hA, hG, h => by
    rw [patchN_cons] at h
    split at h
    · rename_i hf
      obtain ⟨k, x, h1, hx, hn, ⟨c1, c2, c3, c4, c5, c6, c7⟩, hput⟩ := fit_find hf
      have gx : Good x := hG x (List.mem_of_getElem? hx)
      have hA2 : Apart (cat.set k (x.patch p)) := apart_set hA hx rfl
      have hG2 := set_good hG (k := k) (patch_good gx c5 c6 c7)
      rw [hput] at h
      obtain ⟨r1, r2, r3, r4⟩ := just l (i + 1) _ after at_ hA2 hG2 h
      rw [List.length_set] at r3
      refine ⟨r1, r2, r3, fun j a b ha hb => ?_⟩
      by_cases hj : j = k
      · subst hj
        rw [hx] at ha
        obtain rfl := Option.some.inj ha
        have hk : j < cat.length := (List.getElem?_eq_some_iff.1 hx).1
        have q := r4 j (x.patch p) b (by rw [List.getElem?_set_self hk]) hb
        obtain ⟨ml, -, -⟩ := check_parts gx.code
        refine ⟨q.name, ?_, ?_, ?_, q.entry, q.exit, q.result, q.args, fun w hw => ?_⟩
        · rw [q.ver]
          show x.ver + 1 + (cntN l x.name : Int) = x.ver + (cntN (p :: l) x.name : Int)
          unfold cntN
          rw [List.countP_cons_of_pos (by simpa using hn.symm)]
          omega
        · rw [q.wl]; exact List.length_set ..
        · rw [q.ml]; exact List.length_set ..
        · have hw2 : w < (x.patch p).code.words.length := by
            show w < (x.code.words.set _ _).length
            rw [List.length_set]; exact hw
          rw [q.word w hw2]
          unfold lastW
          rw [List.foldl_cons]
          show l.foldl _ ((x.code.words.set p.at_.toNat p.new)[w]?.getD 0, (x.code.masks.set p.at_.toNat p.newM)[w]?.getD 0) = l.foldl _ (if p.name = x.name ∧ p.at_ = (w : Int) then (p.new, p.newM) else (x.code.w w, x.code.m w))
          have hb1 := inB_bd c1
          by_cases he : p.at_ = (w : Int)
          · rw [if_pos ⟨hn.symm, he⟩, he, Int.toNat_natCast, List.getElem?_set_self hw, List.getElem?_set_self (by omega)]
            rfl
          · rw [if_neg (fun e => he e.2), List.getElem?_set_ne (by omega), List.getElem?_set_ne (by omega)]
            rfl
      · have q := r4 j a b (by rw [List.getElem?_set_ne (by omega)]; exact ha) hb
        have hne : p.name ≠ a.name := fun e => hj (apart_get hA ha hx (by rw [hn, e]))
        refine ⟨q.name, ?_, q.wl, q.ml, q.entry, q.exit, q.result, q.args, fun w hw => ?_⟩
        · rw [q.ver]
          unfold cntN
          rw [List.countP_cons_of_neg (by simpa using hne)]
        · rw [q.word w hw]
          unfold lastW
          rw [List.foldl_cons, if_neg (fun e => hne e.1)]
    · rename_i hf
      exact absurd (Prod.mk.inj (Prod.mk.inj h).2).2 hf
end Go.Q

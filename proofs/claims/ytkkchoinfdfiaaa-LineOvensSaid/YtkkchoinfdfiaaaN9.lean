/- Layer 1 in plain Lean: the reference's lists of an oven's states, each state once. -/
import Derived.Test.YtkkchoinfdfiaaaN6
set_option linter.unusedVariables false
set_option linter.unusedSimpArgs false
namespace Go.Q
def addS (os : List (Int × Bool)) (s : Int × Bool) : List (Int × Bool) := if s ∈ os then os else os ++ [s]
def allO (os ls : List (Int × Bool)) : List (Int × Bool) := ls.foldl addS os
theorem allO_snoc (os ls : List (Int × Bool)) (s : Int × Bool) : allO os (ls ++ [s]) = addS (allO os ls) s := by unfold allO; rw [List.foldl_append]; rfl
theorem mem_addS {os : List (Int × Bool)} {s x : Int × Bool} : x ∈ addS os s ↔ x ∈ os ∨ x = s := by
  unfold addS
  split
  · rename_i h
    constructor
    · exact .inl
    · rintro (h' | rfl)
      · exact h'
      · exact h
  · simp
theorem mem_allO {x : Int × Bool} : ∀ {ls os : List (Int × Bool)}, x ∈ allO os ls ↔ x ∈ os ∨ x ∈ ls
  | [], os => by simp [allO]
  | s :: ls, os => by
    show x ∈ allO (addS os s) ls ↔ _
    rw [mem_allO, mem_addS, List.mem_cons, or_assoc]
theorem nodup_addS {os : List (Int × Bool)} {s : Int × Bool} (h : os.Nodup) : (addS os s).Nodup := by
  unfold addS
  split
  · exact h
  · rename_i hn
    rw [List.nodup_append]
    refine ⟨h, by simp, ?_⟩
    intro a ha b hb e
    have : b = s := by simpa using hb
    exact hn (this ▸ e ▸ ha)
theorem nodup_allO : ∀ {ls os : List (Int × Bool)}, os.Nodup → (allO os ls).Nodup
  | [], _, h => h
  | s :: ls, os, h => by
    show (allO (addS os s) ls).Nodup
    exact nodup_allO (nodup_addS h)
def idxO (s : Int × Bool) : Nat := (s.1 + 1200).toNat + (if s.2 = true then 2400 else 0)
/-- all temperatures that are looked at -/
def bdO (s : Int × Bool) : Prop := -1200 ≤ s.1 ∧ s.1 < 1200
theorem idxO_lt {s : Int × Bool} (h : bdO s) : idxO s < 4800 := by
  obtain ⟨h0, h1⟩ := h
  unfold idxO
  split <;> omega
theorem idxO_inj {s x : Int × Bool} (hs : bdO s) (hx : bdO x) (h : idxO s = idxO x) : s = x := by
  obtain ⟨t, a⟩ := s
  obtain ⟨u, b⟩ := x
  obtain ⟨s0, s1⟩ := hs
  obtain ⟨x0, x1⟩ := hx
  dsimp only at s0 s1 x0 x1
  unfold idxO at h
  dsimp only at h
  cases a <;> cases b <;> simp at h ⊢ <;> omega
theorem nodup_len : ∀ (n : Nat) (l : List Nat), l.Nodup → (∀ x ∈ l, x < n) → l.length ≤ n
  | 0, l, _, h => by
    cases l with
    | nil => simp
    | cons x l => exact absurd (h x (List.mem_cons_self ..)) (Nat.not_lt_zero _)
  | n + 1, l, hn, h => by
    have h1 := nodup_len n (l.erase n) (hn.erase n) (fun x hx => by
      have h2 := (hn.mem_erase_iff).1 hx
      have := h x h2.2
      have h3 := h2.1
      omega)
    have h2 := List.length_erase_le (a := n) (l := l)
    have h3 : l.length ≤ (l.erase n).length + 1 := by
      by_cases hm : n ∈ l
      · rw [List.length_erase_of_mem hm]; omega
      · rw [List.erase_of_not_mem hm]; omega
    omega
theorem nodup_map_idx : ∀ {os : List (Int × Bool)}, os.Nodup → (∀ s ∈ os, bdO s) → (os.map idxO).Nodup
  | [], _, _ => by simp
  | s :: os, h, hb => by
    rw [List.map_cons, List.nodup_cons]
    rw [List.nodup_cons] at h
    refine ⟨?_, nodup_map_idx h.2 (fun x hx => hb x (List.mem_cons_of_mem _ hx))⟩
    intro hm
    obtain ⟨x, hx, e⟩ := List.mem_map.1 hm
    have := idxO_inj (hb x (List.mem_cons_of_mem _ hx)) (hb s (List.mem_cons_self ..)) e
    exact h.1 (this ▸ hx)
theorem lenO {os : List (Int × Bool)} (h : os.Nodup) (hb : ∀ s ∈ os, bdO s) : os.length ≤ 4800 := by
  have := nodup_len 4800 (os.map idxO) (nodup_map_idx h hb) (fun x hx => by
    obtain ⟨s, hs, rfl⟩ := List.mem_map.1 hx
    exact idxO_lt (hb s hs))
  rwa [List.length_map] at this
def thereO (os : List (Int × Bool)) (i : Nat) : Bool := os.any fun s => idxO s == i
theorem thereO_yes {os : List (Int × Bool)} {x : Int × Bool} (hb : ∀ s ∈ os, bdO s) (hx : bdO x) (h : thereO os (idxO x) = true) : addS os x = os := by
  obtain ⟨s, hs, e⟩ := List.any_eq_true.1 h
  have e2 : idxO s = idxO x := by simpa using e
  have := idxO_inj (hb s hs) hx e2
  unfold addS
  rw [if_pos (this ▸ hs)]
theorem thereO_no {os : List (Int × Bool)} {x : Int × Bool} (h : thereO os (idxO x) = false) : addS os x = os ++ [x] := by
  unfold addS
  rw [if_neg]
  intro hm
  have := List.any_eq_false.1 h x hm
  simp at this
theorem thereO_put {os : List (Int × Bool)} {x : Int × Bool} (i : Nat) : thereO (os ++ [x]) i = if i = idxO x then true else thereO os i := by
  unfold thereO
  rw [List.any_append]
  split
  · rename_i e; subst e; simp
  · rename_i e
    have : ([x].any fun s => idxO s == i) = false := by simp; omega
    rw [this, Bool.or_false]
def listO (o : Ov) (temp : Sp) (heats : Bool) : Nat → List (Int × Bool)
  | 0 => (tempsS temp).map fun t => (t, heats)
  | m + 1 => allO [] ((listO o temp heats m).flatMap (afterO o))
theorem mem_listO (o : Ov) (temp : Sp) (heats : Bool) : ∀ (m : Nat) (s : Int × Bool), s ∈ listO o temp heats m ↔ s ∈ statesO o temp heats m
  | 0, s => Iff.rfl
  | m + 1, s => by
    unfold listO statesO
    rw [mem_allO]
    constructor
    · rintro (h | h)
      · exact absurd h (List.not_mem_nil)
      · obtain ⟨x, hx, hs⟩ := List.mem_flatMap.1 h
        exact List.mem_flatMap.2 ⟨x, (mem_listO o temp heats m x).1 hx, hs⟩
    · intro h
      obtain ⟨x, hx, hs⟩ := List.mem_flatMap.1 h
      exact .inr (List.mem_flatMap.2 ⟨x, (mem_listO o temp heats m x).2 hx, hs⟩)
theorem afterO_bd {o : Ov} (h : OkO o) {s x : Int × Bool} (hs : -600 ≤ s.1 ∧ s.1 ≤ 1100) (hx : x ∈ afterO o s) : -600 ≤ x.1 ∧ x.1 ≤ 1100 := by
  unfold afterO at hx
  have h3 := h.low; have h4 := h.high; have h5 := h.w0; have h6 := h.c0; have h7 := h.lh
  split at hx
  · rename_i hh
    obtain ⟨n, h8, rfl⟩ := List.mem_map.1 hx
    rw [mem_tempsS] at h8
    unfold heatsO at hh
    simp only [Bool.or_eq_true, Bool.and_eq_true, decide_eq_true_eq] at hh
    dsimp only
    omega
  · rename_i hh
    obtain ⟨n, h8, rfl⟩ := List.mem_map.1 hx
    rw [mem_tempsS] at h8
    unfold heatsO at hh
    simp only [Bool.or_eq_true, Bool.and_eq_true, decide_eq_true_eq] at hh
    dsimp only
    omega
theorem tempsS_length (s : Sp) : (tempsS s).length = (s.hi - s.lo + 1).toNat := fstN_length _ _
theorem listO_bd {o : Ov} (h : OkO o) {temp : Sp} (ht : -500 ≤ temp.lo ∧ temp.hi ≤ 1000) {heats : Bool} (m : Nat) : ∀ s ∈ listO o temp heats m, -600 ≤ s.1 ∧ s.1 ≤ 1100 :=
  fun s hs => statesO_bd h ht m s ((mem_listO o temp heats m s).1 hs)
theorem listO_len {o : Ov} (h : OkO o) {temp : Sp} (ht : -500 ≤ temp.lo ∧ temp.hi ≤ 1000) {heats : Bool} : ∀ m, (listO o temp heats m).length ≤ 4800
  | 0 => by
    unfold listO
    rw [List.length_map, tempsS_length]
    omega
  | m + 1 => by
    unfold listO
    refine lenO (nodup_allO List.nodup_nil) (fun s hs => ?_)
    have := listO_bd h ht (m + 1) s hs
    exact ⟨by omega, by omega⟩
end Go.Q

import Derived.Test.YtcijneecjkpebaaU3
set_option linter.unusedVariables false
set_option linter.unusedSimpArgs false
/- Layer 8 (library) in plain Lean: the tape of a catalogue, punched and read. -/
namespace Go.Q
/-- words and masks, in turn -/
def pairsW : List Int → List Int → List Int
  | w :: ws, m :: ms => w :: m :: pairsW ws ms
  | _, _ => []
def punchR (c : Rt) : List Int := [(c.words.length : Int), c.entry, c.exit, c.result, (c.args.length : Int)] ++ c.args ++ pairsW c.words c.masks
def punchX (x : En) : List Int := (x.name.size : Int) :: bytesS x.name ++ x.ver :: punchR x.code
def punchL (cat : List En) : List Int := (cat.length : Int) :: (cat.map punchX).flatten
def sumT (l : List Int) : Int := l.foldl (fun n w => (n + w) % 16777216) 0
/-- what Punch returns -/
def punchE (cat : List En) : List Int × Int := if soundE cat ≠ 0 then ([], soundE cat) else (punchL cat ++ [sumT (punchL cat)], 0)
/-- reading: a word that is at most a number; some words -/
def nextW (most : Int) : List Int → Option (Int × List Int)
  | [] => none
  | x :: r => if inB x 0 most = true then some (x, r) else none
def someW (most : Int) : Nat → List Int → Option (List Int × List Int)
  | 0, l => some ([], l)
  | n + 1, l => match nextW most l with
    | none => none
    | some (x, r) => match someW most n r with
      | none => none
      | some (xs, r2) => some (x :: xs, r2)
/-- words and masks -/
def pairsR : Nat → List Int → Option (List Int × List Int × List Int)
  | 0, l => some ([], [], l)
  | n + 1, l => match nextW 16777215 l with
    | none => none
    | some (w, r) => match nextW 7 r with
      | none => none
      | some (m, r2) => match pairsR n r2 with
        | none => none
        | some (ws, ms, r3) => some (w :: ws, m :: ms, r3)
/-- a string of small bytes -/
def strB (l : List Int) : ByteArray := ⟨(l.map fun b => UInt8.ofNat b.toNat).toArray⟩
def readR (l : List Int) : Option (Rt × List Int) :=
  match nextW 40 l with
  | none => none
  | some (many, l1) => match nextW many l1 with
    | none => none
    | some (e, l2) => match nextW many l2 with
      | none => none
      | some (x, l3) => match nextW many l3 with
        | none => none
        | some (r, l4) => match nextW 2 l4 with
          | none => none
          | some (na, l5) => match someW many na.toNat l5 with
            | none => none
            | some (aas, l6) => match pairsR many.toNat l6 with
              | none => none
              | some (ws, ms, l7) => some (⟨ws, ms, e, x, r, aas⟩, l7)
def readX (l : List Int) : Option (En × List Int) :=
  match nextW 20 l with
  | none => none
  | some (n, l1) => match someW 127 n.toNat l1 with
    | none => none
    | some (bs, l2) => if nameB bs = false then none else match nextW 1000 l2 with
      | none => none
      | some (v, l3) => match readR l3 with
        | none => none
        | some (c, l4) => some (⟨strB bs, v, c⟩, l4)
def readXs : Nat → List Int → Option (List En × List Int)
  | 0, l => some ([], l)
  | n + 1, l => match readX l with
    | none => none
    | some (x, r) => match readXs n r with
      | none => none
      | some (xs, r2) => some (x :: xs, r2)
/-- the catalogue that a tape without its sum is -/
def parseL (l : List Int) : Option (List En) :=
  match nextW 6 l with
  | none => none
  | some (n, r) => match readXs n.toNat r with
    | none => none
    | some (cat, rest) => if rest = [] ∧ soundE cat = 0 then some cat else none
/-- what Read returns -/
def readT (tape : List Int) : List En × Int :=
  if 800 < tape.length then ([], 3) else if tape = [] then ([], 6)
  else match parseL tape.dropLast with
    | none => ([], 6)
    | some cat => if tape[tape.length - 1]?.getD 0 = sumT tape.dropLast then (cat, 0) else ([], 182)
theorem next_some {most x : Int} {l r : List Int} (h : nextW most l = some (x, r)) : l = x :: r ∧ 0 ≤ x ∧ x ≤ most := by
  cases l with
  | nil => cases h
  | cons y t =>
    have h : (if inB y 0 most = true then some (y, t) else none) = some (x, r) := h
    by_cases hb : inB y 0 most = true
    · rw [if_pos hb] at h
      obtain ⟨rfl, rfl⟩ := Prod.mk.inj (Option.some.inj h)
      exact ⟨rfl, inB_bd hb⟩
    · rw [if_neg hb] at h
      cases h
theorem next_cons {most x : Int} (r : List Int) (h : 0 ≤ x ∧ x ≤ most) : nextW most (x :: r) = some (x, r) := by
  show (if inB x 0 most = true then some (x, r) else none) = some (x, r)
  rw [if_pos (by unfold inB; simp; exact h)]
theorem some_some {most : Int} : ∀ {n : Nat} {l xs r : List Int}, someW most n l = some (xs, r) → l = xs ++ r ∧ xs.length = n ∧ ∀ x ∈ xs, 0 ≤ x ∧ x ≤ most
  | 0, l, xs, r, h => by
    unfold someW at h
    obtain ⟨rfl, rfl⟩ := Prod.mk.inj (Option.some.inj h)
    exact ⟨rfl, rfl, fun x hx => by cases hx⟩
  | n + 1, l, xs, r, h => by
    unfold someW at h
    split at h
    · cases h
    · rename_i x t hx
      split at h
      · cases h
      · rename_i ys t2 hys
        obtain ⟨rfl, rfl⟩ := Prod.mk.inj (Option.some.inj h)
        obtain ⟨rfl, hb⟩ := next_some hx
        obtain ⟨rfl, h2, h3⟩ := some_some hys
        refine ⟨rfl, by rw [List.length_cons, h2], fun z hz => ?_⟩
        rw [List.mem_cons] at hz
        rcases hz with rfl | hz
        · exact hb
        · exact h3 z hz
theorem some_app {most : Int} : ∀ (xs r : List Int), (∀ x ∈ xs, 0 ≤ x ∧ x ≤ most) → someW most xs.length (xs ++ r) = some (xs, r)
  | [], r, _ => rfl
  | x :: xs, r, h => by
    rw [List.cons_append, List.length_cons]
    unfold someW
    rw [next_cons _ (h x (List.mem_cons_self ..))]
    dsimp only
    rw [some_app xs r fun y hy => h y (List.mem_cons_of_mem _ hy)]
theorem pairs_some : ∀ {n : Nat} {l ws ms r : List Int}, pairsR n l = some (ws, ms, r) → l = pairsW ws ms ++ r ∧ ws.length = n ∧ ms.length = n ∧ (∀ x ∈ ws, 0 ≤ x ∧ x ≤ 16777215) ∧ ∀ x ∈ ms, 0 ≤ x ∧ x ≤ 7
  | 0, l, ws, ms, r, h => by
    unfold pairsR at h
    obtain ⟨rfl, h2⟩ := Prod.mk.inj (Option.some.inj h)
    obtain ⟨rfl, rfl⟩ := Prod.mk.inj h2
    exact ⟨rfl, rfl, rfl, (fun x hx => by cases hx), (fun x hx => by cases hx)⟩
  | n + 1, l, ws, ms, r, h => by
    unfold pairsR at h
    split at h
    · cases h
    · rename_i w t hw
      split at h
      · cases h
      · rename_i m t2 hm
        split at h
        · cases h
        · rename_i ws2 ms2 t3 hr
          obtain ⟨rfl, h2⟩ := Prod.mk.inj (Option.some.inj h)
          obtain ⟨rfl, rfl⟩ := Prod.mk.inj h2
          obtain ⟨rfl, hb⟩ := next_some hw
          obtain ⟨rfl, hb2⟩ := next_some hm
          obtain ⟨rfl, e1, e2, e3, e4⟩ := pairs_some hr
          refine ⟨rfl, by rw [List.length_cons, e1], by rw [List.length_cons, e2], fun z hz => ?_, fun z hz => ?_⟩
          · rw [List.mem_cons] at hz
            rcases hz with rfl | hz
            · exact hb
            · exact e3 z hz
          · rw [List.mem_cons] at hz
            rcases hz with rfl | hz
            · exact hb2
            · exact e4 z hz
theorem pairs_app : ∀ (ws ms r : List Int), ms.length = ws.length → (∀ x ∈ ws, 0 ≤ x ∧ x ≤ 16777215) → (∀ x ∈ ms, 0 ≤ x ∧ x ≤ 7) → pairsR ws.length (pairsW ws ms ++ r) = some (ws, ms, r)
  | [], [], r, _, _, _ => rfl
  | [], _ :: _, _, h, _, _ => by cases h
  | _ :: _, [], _, h, _, _ => by cases h
  | w :: ws, m :: ms, r, h, h1, h2 => by
    rw [List.length_cons]
    show pairsR (ws.length + 1) (w :: m :: (pairsW ws ms ++ r)) = _
    unfold pairsR
    rw [next_cons _ (h1 w (List.mem_cons_self ..))]
    dsimp only
    rw [next_cons _ (h2 m (List.mem_cons_self ..))]
    dsimp only
    rw [pairs_app ws ms r (by simpa using h) (fun x hx => h1 x (List.mem_cons_of_mem _ hx)) (fun x hx => h2 x (List.mem_cons_of_mem _ hx))]
theorem str_bytes {l : List Int} (h : ∀ x ∈ l, 0 ≤ x ∧ x ≤ 127) : bytesS (strB l) = l := by
  unfold bytesS strB
  rw [List.toList_toArray, List.map_map]
  have : ∀ x ∈ l, ((fun b : UInt8 => (b.toNat : Int)) ∘ fun b : Int => UInt8.ofNat b.toNat) x = x := fun x hx => by
    have := h x hx
    show ((UInt8.ofNat x.toNat).toNat : Int) = x
    rw [UInt8.toNat_ofNat']
    omega
  rw [List.map_congr_left this]
  exact List.map_id' l
theorem bytes_str (s : ByteArray) : strB (bytesS s) = s := by
  unfold bytesS strB
  rw [List.map_map]
  have : ((fun b : Int => UInt8.ofNat b.toNat) ∘ fun b : UInt8 => (b.toNat : Int)) = id := by
    funext b
    show UInt8.ofNat ((b.toNat : Int)).toNat = b
    rw [Int.toNat_natCast, UInt8.ofNat_toNat]
  rw [this, List.map_id, Array.toArray_toList]
theorem name_small {s : List Int} (h : nameB s = true) : ∀ x ∈ s, 0 ≤ x ∧ x ≤ 127 := by
  unfold nameB at h
  rw [Bool.and_eq_true] at h
  intro x hx
  obtain ⟨i, hi, rfl⟩ := List.getElem_of_mem hx
  have := List.all_eq_true.1 h.2 i (List.mem_range.2 hi)
  rw [List.getElem?_eq_getElem hi, Option.getD_some] at this
  unfold nameC at this
  simp only [Bool.or_eq_true, Bool.and_eq_true, decide_eq_true_eq, beq_iff_eq] at this
  omega
theorem name_len {s : List Int} (h : nameB s = true) : (s.length : Int) ≤ 20 := by
  unfold nameB at h
  rw [Bool.and_eq_true, Bool.and_eq_true] at h
  exact (inB_bd h.1.1).2
/-- what a checked routine's numbers are -/
structure RtOk (c : Rt) : Prop where
  wl : 1 ≤ c.words.length ∧ c.words.length ≤ 40
  ml : c.masks.length = c.words.length
  al : 1 ≤ c.args.length ∧ c.args.length ≤ 2
  w : ∀ x ∈ c.words, 0 ≤ x ∧ x ≤ 16777215
  m : ∀ x ∈ c.masks, 0 ≤ x ∧ x ≤ 7
  pl : ∀ x ∈ [c.entry, c.exit, c.result] ++ c.args, 0 ≤ x ∧ x ≤ (c.words.length : Int) - 1
theorem check_ok {c : Rt} (h : checkR c = 0) : RtOk c := by
  unfold checkR at h
  split at h
  · omega
  rename_i h1
  split at h
  · omega
  rename_i h2
  split at h
  · omega
  rename_i h3
  have e1 : inB c.words.length 1 40 = true := by cases e : inB c.words.length 1 40 with | true => rfl | false => exact absurd (.inl e) h1
  have e2 : c.masks.length = c.words.length := Decidable.byContradiction fun e => h1 (.inr (.inl e))
  have e3 : inB c.args.length 1 2 = true := by cases e : inB c.args.length 1 2 with | true => rfl | false => exact absurd (.inr (.inr e)) h1
  have e4 : c.words.all wordB = true := by cases e : c.words.all wordB with | true => rfl | false => exact absurd (.inl e) h2
  have e5 : c.masks.all maskB = true := by cases e : c.masks.all maskB with | true => rfl | false => exact absurd (.inr e) h2
  have b1 := inB_bd e1
  have b3 := inB_bd e3
  refine ⟨by omega, e2, by omega, fun x hx => wordB_bd (List.all_eq_true.1 e4 x hx), fun x hx => inB_bd (List.all_eq_true.1 e5 x hx), fun x hx => ?_⟩
  have : ([c.entry, c.exit, c.result] ++ c.args).all (fun p => inB p 0 ((c.words.length : Int) - 1)) = true := by simpa using h3
  exact inB_bd (List.all_eq_true.1 this x hx)
theorem readR_some {l r : List Int} {c : Rt} (h : readR l = some (c, r)) : l = punchR c ++ r := by
  unfold readR at h
  split at h
  · cases h
  rename_i many l1 h1
  split at h
  · cases h
  rename_i e l2 h2
  split at h
  · cases h
  rename_i x l3 h3
  split at h
  · cases h
  rename_i rr l4 h4
  split at h
  · cases h
  rename_i na l5 h5
  split at h
  · cases h
  rename_i aas l6 h6
  split at h
  · cases h
  rename_i ws ms l7 h7
  obtain ⟨rfl, rfl⟩ := Prod.mk.inj (Option.some.inj h)
  obtain ⟨rfl, b1⟩ := next_some h1
  obtain ⟨rfl, b2⟩ := next_some h2
  obtain ⟨rfl, b3⟩ := next_some h3
  obtain ⟨rfl, b4⟩ := next_some h4
  obtain ⟨rfl, b5⟩ := next_some h5
  obtain ⟨rfl, b6, -⟩ := some_some h6
  obtain ⟨rfl, b7, -, -, -⟩ := pairs_some h7
  unfold punchR
  dsimp only
  rw [b6, b7, Int.toNat_of_nonneg b1.1, Int.toNat_of_nonneg b5.1]
  simp
theorem readR_app {c : Rt} (h : RtOk c) (r : List Int) : readR (punchR c ++ r) = some (c, r) := by
  obtain ⟨hw, hm, ha, h1, h2, h3⟩ := h
  have be := h3 c.entry (by simp)
  have bx := h3 c.exit (by simp)
  have br := h3 c.result (by simp)
  have bas : ∀ x ∈ c.args, 0 ≤ x ∧ x ≤ (c.words.length : Int) := fun x hx => by have := h3 x (by simp [hx]); omega
  have e : punchR c ++ r = (c.words.length : Int) :: c.entry :: c.exit :: c.result :: (c.args.length : Int) :: (c.args ++ (pairsW c.words c.masks ++ r)) := by unfold punchR; simp
  rw [e]
  unfold readR
  rw [next_cons _ (by omega)]
  dsimp only
  rw [next_cons _ (by omega)]
  dsimp only
  rw [next_cons _ (by omega)]
  dsimp only
  rw [next_cons _ (by omega)]
  dsimp only
  rw [next_cons _ (by omega)]
  dsimp only
  rw [Int.toNat_natCast, some_app _ _ bas]
  dsimp only
  rw [Int.toNat_natCast, pairs_app _ _ _ hm h1 h2]
theorem readX_some {l r : List Int} {x : En} (h : readX l = some (x, r)) : l = punchX x ++ r := by
  unfold readX at h
  split at h
  · cases h
  rename_i n l1 h1
  split at h
  · cases h
  rename_i bs l2 h2
  split at h
  · cases h
  split at h
  · cases h
  rename_i v l3 h3
  split at h
  · cases h
  rename_i c l4 h4
  obtain ⟨rfl, rfl⟩ := Prod.mk.inj (Option.some.inj h)
  obtain ⟨rfl, b1⟩ := next_some h1
  obtain ⟨rfl, b2, b3⟩ := some_some h2
  obtain ⟨rfl, -⟩ := next_some h3
  have e4 := readR_some h4
  rw [e4]
  have hs : bytesS (strB bs) = bs := str_bytes b3
  have hl : (strB bs).size = bs.length := by rw [← bytesS_length, hs]
  unfold punchX
  dsimp only
  rw [hl, hs, b2, Int.toNat_of_nonneg b1.1]
  simp
theorem readX_app {x : En} (h : Good x) (r : List Int) : readX (punchX x ++ r) = some (x, r) := by
  have hb := name_small h.name
  have hl := name_len h.name
  rw [bytesS_length] at hl
  have e : punchX x ++ r = (x.name.size : Int) :: (bytesS x.name ++ (x.ver :: (punchR x.code ++ r))) := by unfold punchX; simp
  rw [e]
  unfold readX
  rw [next_cons _ (by omega)]
  dsimp only
  rw [Int.toNat_natCast, ← bytesS_length, some_app _ _ hb]
  dsimp only
  have hv := h.ver
  rw [if_neg (by rw [h.name]; simp), next_cons _ (by omega)]
  dsimp only
  rw [readR_app (check_ok h.code)]
  dsimp only
  rw [bytes_str]
theorem readXs_some : ∀ {n : Nat} {l r : List Int} {cat : List En}, readXs n l = some (cat, r) → l = (cat.map punchX).flatten ++ r ∧ cat.length = n
  | 0, l, r, cat, h => by
    unfold readXs at h
    obtain ⟨rfl, rfl⟩ := Prod.mk.inj (Option.some.inj h)
    exact ⟨rfl, rfl⟩
  | n + 1, l, r, cat, h => by
    unfold readXs at h
    split at h
    · cases h
    rename_i x t h1
    split at h
    · cases h
    rename_i xs t2 h2
    obtain ⟨rfl, rfl⟩ := Prod.mk.inj (Option.some.inj h)
    have e1 := readX_some h1
    obtain ⟨rfl, e3⟩ := readXs_some h2
    exact ⟨by rw [e1]; simp, by rw [List.length_cons, e3]⟩
theorem readXs_app : ∀ (cat : List En) (r : List Int), (∀ x ∈ cat, Good x) → readXs cat.length ((cat.map punchX).flatten ++ r) = some (cat, r)
  | [], r, _ => rfl
  | x :: cat, r, h => by
    rw [List.map_cons, List.flatten_cons, List.append_assoc, List.length_cons]
    unfold readXs
    rw [readX_app (h x (List.mem_cons_self ..))]
    dsimp only
    rw [readXs_app cat r fun y hy => h y (List.mem_cons_of_mem _ hy)]
theorem parse_punch {cat : List En} (h : soundE cat = 0) : parseL (punchL cat) = some cat := by
  have hs := h
  unfold soundE at hs
  split at hs
  · omega
  have hg := (sound_good hs).1
  unfold parseL punchL
  rw [next_cons _ (by omega)]
  dsimp only
  have := readXs_app cat [] hg
  rw [List.append_nil] at this
  rw [Int.toNat_natCast, this]
  dsimp only
  rw [if_pos ⟨rfl, h⟩]
theorem punch_parse {l : List Int} {cat : List En} (h : parseL l = some cat) : soundE cat = 0 ∧ punchL cat = l := by
  unfold parseL at h
  split at h
  · cases h
  rename_i n r h1
  split at h
  · cases h
  rename_i c rest h2
  split at h
  · rename_i h3
    obtain rfl := Option.some.inj h
    obtain ⟨rfl, b1⟩ := next_some h1
    obtain ⟨rfl, e2⟩ := readXs_some h2
    refine ⟨h3.2, ?_⟩
    unfold punchL
    rw [e2, h3.1, List.append_nil, Int.toNat_of_nonneg b1.1]
  · cases h
/-- Read of what Punch returns -/
theorem read_punchT {cat : List En} {l : List Int} (h : punchE cat = (l, 0)) (hl : l.length ≤ 800) : readT l = (cat, 0) := by
  unfold punchE at h
  split at h
  · rename_i h1; exact absurd (Prod.mk.inj h).2 h1
  rename_i h1
  have hs : soundE cat = 0 := Decidable.byContradiction h1
  obtain rfl := (Prod.mk.inj h).1
  unfold readT
  rw [if_neg (by omega), if_neg (by simp), List.dropLast_concat, parse_punch hs]
  dsimp only
  rw [List.length_append, List.length_singleton, Nat.add_sub_cancel, List.getElem?_append_right (Nat.le_refl _), Nat.sub_self]
  exact if_pos rfl
/-- Punch of what Read returns -/
theorem punch_readT {tape : List Int} {cat : List En} (h : readT tape = (cat, 0)) : punchE cat = (tape, 0) := by
  unfold readT at h
  split at h
  · exact absurd (Prod.mk.inj h).2 (by decide)
  split at h
  · exact absurd (Prod.mk.inj h).2 (by decide)
  rename_i h1 h2
  split at h
  · exact absurd (Prod.mk.inj h).2 (by decide)
  rename_i c hp
  split at h
  · rename_i h3
    obtain rfl := (Prod.mk.inj h).1
    obtain ⟨s, e⟩ := punch_parse hp
    unfold punchE
    rw [if_neg (by rw [s]; simp), e, ← h3]
    have hlen : 0 < tape.length := List.length_pos_iff.2 h2
    congr 1
    rw [List.getElem?_eq_getElem (by omega), Option.getD_some, ← List.getLast_eq_getElem h2]
    exact List.dropLast_concat_getLast h2
  · exact absurd (Prod.mk.inj h).2 (by decide)
end Go.Q
/- Layer 8 (library) in plain Lean: one word of a tape is another one. -/
namespace Go.Q
theorem sumT_from : ∀ (l : List Int) (n : Int), 0 ≤ n → n < 16777216 → l.foldl (fun n w => (n + w) % 16777216) n = (n + l.sum) % 16777216
  | [], n, h0, h1 => by rw [List.foldl_nil, List.sum_nil]; omega
  | x :: l, n, h0, h1 => by
    rw [List.foldl_cons, List.sum_cons, sumT_from l _ (by omega) (by omega)]
    omega
theorem sumT_eq (l : List Int) : sumT l = l.sum % 16777216 := by
  unfold sumT
  rw [sumT_from l 0 (by decide) (by decide)]
  simp
theorem sum_set : ∀ (l : List Int) (k : Nat) (v : Int), k < l.length → (l.set k v).sum = l.sum - l[k]?.getD 0 + v
  | [], k, v, h => absurd h (Nat.not_lt_zero _)
  | x :: l, 0, v, _ => by simp; omega
  | x :: l, k + 1, v, h => by
    have h2 : k < l.length := by simpa using h
    have e : (x :: l)[k + 1]?.getD 0 = l[k]?.getD 0 := by simp
    rw [e, List.set_cons_succ, List.sum_cons, List.sum_cons, sum_set l k v h2]
    omega
/-- what is read without an error -/
theorem read_last {tape : List Int} {c : List En} (h : readT tape = (c, 0)) : ∃ l, tape = l ++ [sumT l] := by
  have h1 := punch_readT h
  unfold punchE at h1
  split at h1
  · rename_i h2; exact absurd (Prod.mk.inj h1).2 h2
  · exact ⟨_, (Prod.mk.inj h1).1.symm⟩
theorem read_empty {tape : List Int} (h : (readT tape).2 ≠ 0) : (readT tape).1 = [] := by
  unfold readT at *
  split
  · rfl
  split
  · rfl
  rename_i h1 h2
  rw [if_neg h1, if_neg h2] at h
  split
  · rfl
  · rename_i cat hp
    rw [hp] at h
    dsimp only at h
    split
    · rename_i h3; rw [if_pos h3] at h; exact absurd rfl h
    · rfl
/-- one word of a tape is another one: an error -/
theorem read_forged {l : List Int} {k : Nat} {x d : Int} (hk : k < (l ++ [sumT l]).length) (hx : (l ++ [sumT l])[k]?.getD 0 = x) (hd : 1 ≤ d ∧ d ≤ 16777215) : (readT ((l ++ [sumT l]).set k ((x + d) % 16777216))).2 ≠ 0 := by
  intro h
  obtain ⟨m, hm⟩ := read_last (c := (readT ((l ++ [sumT l]).set k ((x + d) % 16777216))).1) (Prod.ext rfl h)
  rw [List.length_append, List.length_singleton] at hk
  by_cases e : k < l.length
  · rw [List.set_append_left _ _ e] at hm
    obtain ⟨h1, h2⟩ := List.append_inj' hm rfl
    have h3 : sumT l = sumT m := by simpa using h2
    rw [← h1, sumT_eq, sumT_eq, sum_set l k _ e] at h3
    rw [List.getElem?_append_left e] at hx
    rw [hx] at h3
    omega
  · obtain rfl : k = l.length := by omega
    rw [List.set_append_right _ _ (Nat.le_refl _), Nat.sub_self, List.set_cons_zero] at hm
    obtain ⟨h1, h2⟩ := List.append_inj' hm rfl
    have h3 : (x + d) % 16777216 = sumT m := by simpa using h2
    rw [List.getElem?_append_right (Nat.le_refl _), Nat.sub_self] at hx
    have hx2 : sumT l = x := hx
    rw [← h1, ← hx2] at h3
    rw [sumT_eq] at h3
    omega
theorem pairs_len : ∀ (ws ms : List Int), ms.length = ws.length → (pairsW ws ms).length = 2 * ws.length
  | [], [], _ => rfl
  | [], _ :: _, h => by cases h
  | _ :: _, [], h => by cases h
  | w :: ws, m :: ms, h => by
    show (w :: m :: pairsW ws ms).length = _
    rw [List.length_cons, List.length_cons, List.length_cons, pairs_len ws ms (by simpa using h)]
    omega
theorem punchX_len {x : En} (h : Good x) : (punchX x).length ≤ 109 := by
  have c := check_ok h.code
  have hl := name_len h.name
  have := c.wl
  have := c.al
  unfold punchX punchR
  simp only [List.length_cons, List.length_append, List.length_nil, pairs_len _ _ c.ml]
  omega
theorem flat_len {α : Type} {n : Nat} (f : α → List Int) : ∀ (l : List α), (∀ x ∈ l, (f x).length ≤ n) → ((l.map f).flatten).length ≤ n * l.length
  | [], _ => by simp
  | x :: l, h => by
    rw [List.map_cons, List.flatten_cons, List.length_append, List.length_cons, Nat.mul_add]
    have h1 := h x (List.mem_cons_self ..)
    have h2 := flat_len f l fun y hy => h y (List.mem_cons_of_mem _ hy)
    omega
theorem punch_len {cat : List En} (h : soundE cat = 0) : (punchL cat).length ≤ 655 := by
  unfold soundE at h
  split at h
  · omega
  have := flat_len punchX cat (n := 109) fun x hx => punchX_len ((sound_good h).1 x hx)
  unfold punchL
  rw [List.length_cons]
  omega
end Go.Q

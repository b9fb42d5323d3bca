/- Layer 1 in plain Lean: by how many beats words can be late (Can); the states of an oven. -/
import Derived.Test.YtkkchoinfdfiaaaH1
set_option linter.unusedVariables false
set_option linter.unusedSimpArgs false
namespace Go.Q
/-- the temperatures of a span -/
def tempsS (s : Sp) : List Int := fstN (fun i => s.lo + (i : Int)) (s.hi - s.lo + 1).toNat
theorem mem_tempsS {s : Sp} {t : Int} : t ∈ tempsS s ↔ s.lo ≤ t ∧ t ≤ s.hi := by
  unfold tempsS fstN
  rw [List.mem_map]
  constructor
  · rintro ⟨i, hi, rfl⟩
    rw [List.mem_range] at hi
    omega
  · rintro ⟨h1, h2⟩
    exact ⟨(t - s.lo).toNat, by rw [List.mem_range]; omega, by omega⟩
/-- pulses can be b beats late after a round at a temperature of the span -/
def oneC (l : Ln) (s : Sp) (b : Int) : Bool := (tempsS s).any fun t => !lostL l t && (turnL l (byL l t) == b)
def lostC (l : Ln) (s : Sp) : Bool := (tempsS s).any fun t => lostL l t
def beatsN (l : Ln) : List Int := fstN (fun i => (i : Int)) (beatsL l).toNat
def nextC (l : Ln) (s : Sp) (can : Int → Bool) (x : Int) : Bool := (beatsN l).any fun n => can n && (beatsN l).any fun b => oneC l s b && (turnL l (n + b) == x)
def canC (l : Ln) (ss : List Sp) : Int → Bool := ss.foldl (fun can s => nextC l s can) (fun n => n == 0)
theorem canC_snoc (l : Ln) (ss : List Sp) (s : Sp) : canC l (ss ++ [s]) = nextC l s (canC l ss) := by simp [canC]
def shiftsC (l : Ln) (ss : List Sp) : List Int := (beatsN l).filter (canC l ss)
/-- the error of spans -/
def spansX (ss : List Sp) : Int := match ss with
  | [] => 0
  | s :: ss => if spanX s ≠ 0 then spanX s else spansX ss
def canX (l : Ln) (ss : List Sp) : Int := if okL l = false then 7 else if 60 < ss.length then 3 else spansX ss
/-- what Can returns -/
def canE (l : Ln) (ss : List Sp) : List Int × Bool × Int := if canX l ss = 0 then (shiftsC l ss, ss.any (lostC l), 0) else ([], false, canX l ss)
theorem mem_beatsN {l : Ln} {n : Int} : n ∈ beatsN l ↔ 0 ≤ n ∧ n < beatsL l := by
  unfold beatsN fstN
  rw [List.mem_map]
  constructor
  · rintro ⟨i, hi, rfl⟩
    rw [List.mem_range] at hi
    omega
  · rintro ⟨h1, h2⟩
    exact ⟨n.toNat, by rw [List.mem_range]; omega, by omega⟩
theorem OkL.turn {l : Ln} (h : OkL l) (n : Int) : 0 ≤ turnL l n ∧ turnL l n < beatsL l := by
  have := h.beats
  unfold turnL
  exact ⟨Int.emod_nonneg _ (by omega), Int.emod_lt_of_pos _ (by omega)⟩
theorem canC_in {l : Ln} (h : OkL l) {ss : List Sp} {x : Int} (hx : canC l ss x = true) : 0 ≤ x ∧ x < beatsL l := by
  have hb := h.beats
  rcases List.eq_nil_or_concat ss with rfl | ⟨ss', s, rfl⟩
  · have : x = 0 := by simpa [canC] using hx
    omega
  · rw [List.concat_eq_append, canC_snoc] at hx
    unfold nextC at hx
    obtain ⟨n, _, hn⟩ := List.any_eq_true.1 hx
    rw [Bool.and_eq_true] at hn
    obtain ⟨b, _, hb2⟩ := List.any_eq_true.1 hn.2
    rw [Bool.and_eq_true] at hb2
    have : turnL l (n + b) = x := by simpa using hb2.2
    rw [← this]
    exact h.turn _
theorem oneC_in {l : Ln} (h : OkL l) {s : Sp} {x : Int} (hx : oneC l s x = true) : 0 ≤ x ∧ x < beatsL l := by
  obtain ⟨t, _, ht⟩ := List.any_eq_true.1 hx
  rw [Bool.and_eq_true] at ht
  have : turnL l (byL l t) = x := by simpa using ht.2
  rw [← this]
  exact h.turn _
/-- an oven heats in a minute -/
def heatsO (o : Ov) (t : Int) (h : Bool) : Bool := decide (t < o.low) || (decide (t ≤ o.high) && h)
/-- the states after a minute from a state on -/
def afterO (o : Ov) (s : Int × Bool) : List (Int × Bool) :=
  if heatsO o s.1 s.2 = true then (tempsS o.warm).map fun n => (s.1 + n, true) else (tempsS o.cool).map fun n => (s.1 - n, false)
def statesO (o : Ov) (temp : Sp) (heats : Bool) : Nat → List (Int × Bool)
  | 0 => (tempsS temp).map fun t => (t, heats)
  | m + 1 => (statesO o temp heats m).flatMap (afterO o)
/-- the span of temperatures up to a minute -/
def loO (o : Ov) (temp : Sp) (heats : Bool) : Nat → Int
  | 0 => temp.lo
  | m + 1 => (statesO o temp heats (m + 1)).foldl (fun a s => min a s.1) (loO o temp heats m)
def hiO (o : Ov) (temp : Sp) (heats : Bool) : Nat → Int
  | 0 => temp.hi
  | m + 1 => (statesO o temp heats (m + 1)).foldl (fun a s => max a s.1) (hiO o temp heats m)
def warmB (n : Int) : Bool := inB n 0 100
/-- the error of an oven, of temperatures and of minutes -/
def ovenX (o : Ov) (temp : Sp) (minutes : Int) : Int :=
  if tempB o.low = false ∨ tempB o.high = false ∨ warmB o.warm.lo = false ∨ warmB o.warm.hi = false ∨ warmB o.cool.lo = false ∨ warmB o.cool.hi = false then 7
  else if o.high < o.low ∨ o.warm.hi < o.warm.lo ∨ o.cool.hi < o.cool.lo then 2
  else if spanX temp ≠ 0 then spanX temp else if inB minutes 0 200 = false then 7 else 0
/-- what Oven returns -/
def ovenE (o : Ov) (temp : Sp) (heats : Bool) (minutes : Int) : Sp × Int :=
  if ovenX o temp minutes = 0 then (⟨loO o temp heats minutes.toNat, hiO o temp heats minutes.toNat⟩, 0) else (⟨0, 0⟩, ovenX o temp minutes)
/-- an oven that is valid -/
structure OkO (o : Ov) : Prop where
  low : -500 ≤ o.low ∧ o.low ≤ 1000
  high : -500 ≤ o.high ∧ o.high ≤ 1000
  lh : o.low ≤ o.high
  w0 : 0 ≤ o.warm.lo ∧ o.warm.lo ≤ o.warm.hi ∧ o.warm.hi ≤ 100
  c0 : 0 ≤ o.cool.lo ∧ o.cool.lo ≤ o.cool.hi ∧ o.cool.hi ≤ 100
theorem statesO_bd {o : Ov} (h : OkO o) {temp : Sp} (ht : -500 ≤ temp.lo ∧ temp.hi ≤ 1000) {heats : Bool} : ∀ m, ∀ s ∈ statesO o temp heats m, -600 ≤ s.1 ∧ s.1 ≤ 1100
  | 0, s, hs => by
    obtain ⟨t, h1, rfl⟩ := List.mem_map.1 hs
    rw [mem_tempsS] at h1
    dsimp only
    omega
  | m + 1, s, hs => by
    obtain ⟨s', h1, h2⟩ := List.mem_flatMap.1 hs
    have ih := statesO_bd h ht m s' h1
    unfold afterO at h2
    have h3 := h.low; have h4 := h.high; have h5 := h.w0; have h6 := h.c0; have h7 := h.lh
    split at h2
    · rename_i hh
      obtain ⟨n, h8, rfl⟩ := List.mem_map.1 h2
      rw [mem_tempsS] at h8
      unfold heatsO at hh
      simp only [Bool.or_eq_true, Bool.and_eq_true, decide_eq_true_eq] at hh
      dsimp only
      omega
    · rename_i hh
      obtain ⟨n, h8, rfl⟩ := List.mem_map.1 h2
      rw [mem_tempsS] at h8
      unfold heatsO at hh
      simp only [Bool.or_eq_true, Bool.and_eq_true, decide_eq_true_eq] at hh
      dsimp only
      omega
end Go.Q

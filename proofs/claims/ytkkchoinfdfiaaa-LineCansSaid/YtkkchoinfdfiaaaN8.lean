/- Layer 1 in plain Lean: what the reference's loops over beats come to (Can). -/
import Derived.Test.YtkkchoinfdfiaaaI8
set_option linter.unusedVariables false
set_option linter.unusedSimpArgs false
namespace Go.Q
open Go.RowKit
theorem any_succ (f : Nat → Bool) (k : Nat) : (List.range (k + 1)).any f = ((List.range k).any f || f k) := by
  rw [List.range_succ, List.any_append]; simp
/-- what the first m temperatures of a span give -/
def oneT (l : Ln) (s : Sp) (m : Nat) (b : Int) : Bool := (List.range m).any fun i => !lostL l (s.lo + (i : Int)) && (turnL l (byL l (s.lo + (i : Int))) == b)
def lostT (l : Ln) (s : Sp) (m : Nat) : Bool := (List.range m).any fun i => lostL l (s.lo + (i : Int))
theorem oneT_zero (l : Ln) (s : Sp) (b : Int) : oneT l s 0 b = false := rfl
theorem lostT_zero (l : Ln) (s : Sp) : lostT l s 0 = false := rfl
theorem oneT_succ (l : Ln) (s : Sp) (m : Nat) (b : Int) : oneT l s (m + 1) b = (oneT l s m b || (!lostL l (s.lo + (m : Int)) && (turnL l (byL l (s.lo + (m : Int))) == b))) := any_succ _ _
theorem lostT_succ (l : Ln) (s : Sp) (m : Nat) : lostT l s (m + 1) = (lostT l s m || lostL l (s.lo + (m : Int))) := any_succ _ _
theorem oneT_all (l : Ln) (s : Sp) (b : Int) : oneT l s (s.hi - s.lo + 1).toNat b = oneC l s b := by
  unfold oneT oneC tempsS fstN
  rw [List.any_map]
  rfl
theorem lostT_all (l : Ln) (s : Sp) : lostT l s (s.hi - s.lo + 1).toNat = lostC l s := by
  unfold lostT lostC tempsS fstN
  rw [List.any_map]
  rfl
/-- what the beat n gives, with the first m numbers of one -/
def rowT (can one : Int → Bool) (B : Int) (n m : Nat) (x : Int) : Bool := can n && (List.range m).any fun b => one b && (((n : Int) + (b : Int)) % B == x)
def nextT (can one : Int → Bool) (B : Int) (k : Nat) (x : Int) : Bool := (List.range k).any fun n => rowT can one B n B.toNat x
theorem rowT_zero (can one : Int → Bool) (B : Int) (n : Nat) (x : Int) : rowT can one B n 0 x = false := by unfold rowT; simp
theorem rowT_no {can : Int → Bool} {one : Int → Bool} {B : Int} {n m : Nat} {x : Int} (h : can n = false) : rowT can one B n m x = false := by unfold rowT; rw [h]; rfl
theorem rowT_succ {can one : Int → Bool} {B : Int} {n m : Nat} {x : Int} (h : can n = true) : rowT can one B n (m + 1) x = (rowT can one B n m x || (one m && (((n : Int) + (m : Int)) % B == x))) := by
  unfold rowT; rw [h, any_succ]; rfl
theorem nextT_zero (can one : Int → Bool) (B : Int) (x : Int) : nextT can one B 0 x = false := rfl
theorem nextT_succ (can one : Int → Bool) (B : Int) (k : Nat) (x : Int) : nextT can one B (k + 1) x = (nextT can one B k x || rowT can one B k B.toNat x) := any_succ _ _
theorem nextT_all (l : Ln) (s : Sp) (can : Int → Bool) (x : Int) : nextT can (oneC l s) (beatsL l) (beatsL l).toNat x = nextC l s can x := by
  unfold nextT nextC rowT beatsN fstN
  rw [List.any_map]
  congr 1
  funext n
  simp only [Function.comp]
  rw [List.any_map]
  rfl
/-- the beats of which p holds, so far -/
def pickT (p : Int → Bool) (k : Nat) : List Int := (fstN (fun i => (i : Int)) k).filter p
theorem pickT_succ (p : Int → Bool) (k : Nat) : pickT p (k + 1) = pickT p k ++ (if p k = true then [(k : Int)] else []) := by
  unfold pickT
  rw [fstN_succ, List.filter_append]
  congr 1
  by_cases h : p k = true
  · rw [if_pos h]; simp [h]
  · rw [if_neg h]; simp [h]
theorem pickT_all (l : Ln) (ss : List Sp) : pickT (canC l ss) (beatsL l).toNat = shiftsC l ss := rfl
theorem pickT_length (p : Int → Bool) (k : Nat) : (pickT p k).length ≤ k := by
  unfold pickT
  exact Nat.le_trans (List.length_filter_le _ _) (by rw [fstN_length]; exact Nat.le_refl _)
theorem anyL_snoc (l : Ln) (ss : List Sp) (s : Sp) : (ss ++ [s]).any (lostC l) = (ss.any (lostC l) || lostC l s) := by simp
/-- a row of Bools in memory, that may be written -/
structure KB (W : World) (b : Nat) (f : Nat → Bool) (B : Nat) : Prop where
  lt : b < W.heap.size
  at_ : ∀ i, i < B → W.cell? ⟨b, i, none⟩ = some (.bool (f i))
  free : ∀ i, i < B → W.frozen? ⟨b, i, none⟩ = false
theorem KB.congr {W : World} {b B : Nat} {f g : Nat → Bool} (h : KB W b f B) (e : ∀ i, i < B → f i = g i) : KB W b g B :=
  ⟨h.lt, fun i hi => by rw [← e i hi]; exact h.at_ i hi, h.free⟩
theorem KB.ext {W W' : World} {b B : Nat} {f : Nat → Bool} (h : KB W b f B) (E : Ext W W') : KB W' b f B :=
  ⟨Nat.lt_of_lt_of_le h.lt E.size, fun i hi => (E.cell (p := ⟨b, i, none⟩) h.lt).trans (h.at_ i hi), fun i hi => (E.frozen (p := ⟨b, i, none⟩) h.lt).trans (h.free i hi)⟩
theorem KB.other {W : World} {b B : Nat} {f : Nat → Bool} (h : KB W b f B) {p : Addr} {v : Value} (hp : p.block ≠ b) : KB (W.setCell p v) b f B := by
  have hb : (W.setCell p v).heap[b]? = W.heap[b]? := Below.heap_setCell _ _ _ _ (fun e => hp e.symm)
  refine ⟨by rw [World.size_setCell]; exact h.lt, fun i hi => ?_, fun i hi => ?_⟩
  · have := h.at_ i hi
    simp only [World.cell?] at this ⊢
    rw [hb]; exact this
  · have := h.free i hi
    simp only [World.frozen?] at this ⊢
    rw [hb]; exact this
theorem KB.put {W : World} {b B i : Nat} {f : Nat → Bool} (h : KB W b f B) {v : Bool} (hi : i < B) : KB (W.setCell ⟨b, i, none⟩ (.bool v)) b (fun j => if j = i then v else f j) B := by
  refine ⟨by rw [World.size_setCell]; exact h.lt, fun j hj => ?_, fun j hj => ?_⟩
  · by_cases e : j = i
    · subst e
      rw [if_pos rfl]
      exact World.cell?_setCell_same _ _ _ (h.at_ j hj)
    · rw [if_neg e]
      exact (World.cell?_setCell_other _ _ _ _ (by intro q; injection q with q1 q2; exact e q2.symm)).trans (h.at_ j hj)
  · rw [World.frozen?_setCell]; exact h.free j hj
end Go.Q

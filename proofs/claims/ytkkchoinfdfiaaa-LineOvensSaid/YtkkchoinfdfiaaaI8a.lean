/- Rows of Bools in memory; the reference's Span. -/
import Derived.Test.YtkkchoinfdfiaaaI2
import Derived.Test.YtkkchoinfdfiaaaH14
import Derived.Test.YtkkchoinfdfiaaaH20
import Derived.Test.YtkkchoinfdfiaaaH22
set_option linter.unusedVariables false
set_option linter.unusedSimpArgs false
namespace Go.Q
open Go.RowKit
/-- a row of Bools in memory, that may be written -/
structure KB (W : World) (b : Nat) (f : Nat → Bool) (B : Nat) : Prop where
  lt : b < W.heap.size
  at_ : ∀ i, i < B → W.cell? ⟨b, i, none⟩ = some (.bool (f i))
  free : ∀ i, i < B → W.frozen? ⟨b, i, none⟩ = false
theorem KB.congr {W : World} {b B : Nat} {f g : Nat → Bool} (h : KB W b f B) (e : ∀ i, i < B → f i = g i) : KB W b g B :=
  ⟨h.lt, fun i hi => by rw [← e i hi]; exact h.at_ i hi, h.free⟩
theorem KB.ext {W W' : World} {b B : Nat} {f : Nat → Bool} (h : KB W b f B) (E : Ext W W') : KB W' b f B :=
  ⟨Nat.lt_of_lt_of_le h.lt E.size, fun i hi => (E.cell (p := ⟨b, i, none⟩) h.lt).trans (h.at_ i hi), fun i hi => (E.frozen (p := ⟨b, i, none⟩) h.lt).trans (h.free i hi)⟩
theorem KB.other {W : World} {b B : Nat} {f : Nat → Bool} (h : KB W b f B) {p : Addr} {v : Value} (hp : p.block ≠ b) : KB (W.setCell p v) b f B := by
  have hb : (W.setCell p v).heap[b]? = W.heap[b]? := Below.heap_setCell _ _ _ _ (fun e => hp e.symm)
  refine ⟨by rw [World.size_setCell]; exact h.lt, fun i hi => ?_, fun i hi => ?_⟩
  · have := h.at_ i hi
    simp only [World.cell?] at this ⊢
    rw [hb]; exact this
  · have := h.free i hi
    simp only [World.frozen?] at this ⊢
    rw [hb]; exact this
theorem KB.put {W : World} {b B i : Nat} {f : Nat → Bool} (h : KB W b f B) {v : Bool} (hi : i < B) : KB (W.setCell ⟨b, i, none⟩ (.bool v)) b (fun j => if j = i then v else f j) B := by
  refine ⟨by rw [World.size_setCell]; exact h.lt, fun j hj => ?_, fun j hj => ?_⟩
  · by_cases e : j = i
    · subst e
      rw [if_pos rfl]
      exact World.cell?_setCell_same _ _ _ (h.at_ j hj)
    · rw [if_neg e]
      exact (World.cell?_setCell_other _ _ _ _ (by intro q; injection q with q1 q2; exact e q2.symm)).trans (h.at_ j hj)
  · rw [World.frozen?_setCell]; exact h.free j hj
end Go.Q
namespace Go.Proofs.Ytkkchoinfdfiaaa
open Go.RowKit Go.Q Go.Shelf Go.Maps

theorem KB.same {W W' : World} {b B : Nat} {f : Nat → Bool} (h : KB W b f B) (e : W'.heap[b]? = W.heap[b]?) : KB W' b f B := by
  refine ⟨?_, fun i hi => ?_, fun i hi => ?_⟩
  · have h1 := h.lt
    rw [Array.getElem?_eq_getElem h1] at e
    exact (Array.getElem?_eq_some_iff.1 e).1
  · have := h.at_ i hi
    simp only [World.cell?] at this ⊢
    rw [e]; exact this
  · have := h.free i hi
    simp only [World.frozen?] at this ⊢
    rw [e]; exact this
theorem KB.made {W : World} {cs : Array Value} {T : TypeId} {f : Nat → Bool} {B : Nat} (h : ∀ i, i < B → cs[i]? = some (.bool (f i))) : KB (W.alloc (.cells cs T)) W.heap.size f B :=
  ⟨by simp, fun i hi => box_at (Ext.refl _) i (h i hi), fun i _ => box_free (Ext.refl _) i⟩
theorem KB.fresh {W : World} {T : TypeId} {B : Nat} : KB (W.alloc (.cells (Array.replicate B (.bool false)) T)) W.heap.size (fun _ => false) B :=
  KB.made fun i hi => by simp [hi]
theorem blk_put {W : World} {b c : Nat} {ob : Obj} (h : W.heap[b]? = some ob) {o : Nat} {v : Value} (hc : b ≠ c) : (W.setCell ⟨c, o, none⟩ v).heap[b]? = some ob := (Below.heap_setCell _ _ _ _ hc).trans h
theorem seven_later2 {w X W : World} {p0 p1 p2 p3 p4 p5 p6 : Addr} {v0 v1 v2 v3 v4 v5 v6 : Value} (h : Ext w X ∧ X.cell? p0 = some v0 ∧ X.cell? p1 = some v1 ∧ X.cell? p2 = some v2 ∧ X.cell? p3 = some v3 ∧ X.cell? p4 = some v4 ∧ X.cell? p5 = some v5 ∧ X.cell? p6 = some v6) (E : Ext X W) :
    Ext w W ∧ W.cell? p0 = some v0 ∧ W.cell? p1 = some v1 ∧ W.cell? p2 = some v2 ∧ W.cell? p3 = some v3 ∧ W.cell? p4 = some v4 ∧ W.cell? p5 = some v5 ∧ W.cell? p6 = some v6 := by
  obtain ⟨h, a, b, c, d, e, f, g⟩ := h
  exact ⟨h.comp E, cell_laterA a E, cell_laterA b E, cell_laterA c E, cell_laterA d E, cell_laterA e E, cell_laterA f E, cell_laterA g E⟩
set_option maxHeartbeats 1000000 in
theorem rspan_any (lo hi : Int) (w : World) :
    Calls Try.prog 67 #[.agg #[.int .i64 lo, .int .i64 hi]] w fun e w' => e = .returned (.int .i64 (spanX ⟨lo, hi⟩)) ∧ Ext w w' := by
  have hs1 := fun W => rtemp_any lo W
  have hs2 := fun W => rtemp_any hi W
  unfold spanX
  dsimp only
  cases h1 : tempB lo with
  | false =>
    rw [if_pos (.inl rfl)]
    rw [h1] at hs1
    clear h1
    go_enter Try.func67, Try.ntmps67
    go_wp2_with fail
    refine (hs1 _).mono ?_
    rintro e w1 ⟨rfl, rfl⟩
    go_wp2
    go_ret
    exact ⟨rfl, (Ext.refl w).alloc _⟩
  | true =>
    rw [h1] at hs1
    clear h1
    cases h2 : tempB hi with
    | false =>
      rw [if_pos (.inr rfl)]
      rw [h2] at hs2
      clear h2
      go_enter Try.func67, Try.ntmps67
      go_wp2_with fail
      refine (hs1 _).mono ?_
      rintro e w1 ⟨rfl, rfl⟩
      go_wp2_with fail
      refine (hs2 _).mono ?_
      rintro e w1 ⟨rfl, rfl⟩
      go_wp2
      go_ret
      exact ⟨rfl, (Ext.refl w).alloc _⟩
    | true =>
      rw [if_neg (by simp)]
      rw [h2] at hs2
      clear h2
      by_cases h3 : hi < lo
      · rw [if_pos h3]
        go_enter Try.func67, Try.ntmps67
        go_wp2_with fail
        refine (hs1 _).mono ?_
        rintro e w1 ⟨rfl, rfl⟩
        go_wp2_with fail
        refine (hs2 _).mono ?_
        rintro e w1 ⟨rfl, rfl⟩
        go_wp2
        go_ret
        exact ⟨rfl, (Ext.refl w).alloc _⟩
      · rw [if_neg h3]
        go_enter Try.func67, Try.ntmps67
        go_wp2_with fail
        refine (hs1 _).mono ?_
        rintro e w1 ⟨rfl, rfl⟩
        go_wp2_with fail
        refine (hs2 _).mono ?_
        rintro e w1 ⟨rfl, rfl⟩
        go_wp2
        go_ret
        exact ⟨rfl, (Ext.refl w).alloc _⟩
end Go.Proofs.Ytkkchoinfdfiaaa

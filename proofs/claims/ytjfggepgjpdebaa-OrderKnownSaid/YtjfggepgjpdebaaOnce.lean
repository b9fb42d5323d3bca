/- A range over a function whose body leaves by a return in its first round: one law for the caller, one word for the iterator. -/
import Derived.Test.YtjfggepgjpdebaaLib
import Derived.RangeFuncFrom
import Derived.RangeFuncNested
import Derived.RangeFuncBound
import Derived.RangeFuncCalls
import Derived.RangeFuncLeaves
import Derived.Shelf.Abstract
import Derived.Shelf.RegionOpen
import Derived.OwnWalkIn
import Derived.TacticsInMore
import Derived.LoopNIn
import Derived.LoopIn
set_option linter.unusedVariables false
set_option linter.unusedSimpArgs false
namespace Go.Q
open Go.RowKit Go.Shelf
variable {F : Fence} {n : Nat} {P : Program}

/-- the iterator calls yield once, at some x of S, and goes on no further when the answer is no -/
def OnceSeq {α : Type} (F : Fence) (n : Nat) (P : Program) (g : Nat) (lb : Array Value) (encs : α → Array Value) (S : α → Prop) (w0 : World) : Prop :=
  ∀ (l : Nat) (Jx : α → World → Prop) (W : World), Below w0.heap.size w0 W →
    (∀ x, S x → YieldAt F (n - 1) P l (encs x) W fun e W' => e = .returned (.bool false) ∧ Jx x W') →
    CallsIn F n P g (#[.func (.yield l) #[] #[]] ++ lb) W fun e W' => (∃ v, e = .returned v) ∧ ∃ x, S x ∧ Jx x W'

theorem wpIn_once {α : Type} {g : Operand} {ps : Array Tmp} {assign body : Code} {Q : Exit → Act → World → Prop} {a : Act} {w : World}
    (hro : F.round = none) (h1 : 1 ≤ n) {gf : Nat} {lb : Array Value} (hg : a.eval g = .func (.func gf) #[] lb) (hFg : F.fn gf) (eg : ∀ args w, (callFunc gf args).run P w = .ok (.enter gf args) w)
    {encs : α → Array Value} {S : α → Prop} (hseq : OnceSeq F (n - 1) P gf lb encs S w) (hps : ∀ x, (encs x).size = ps.size)
    (Ix : α → World → Prop) (hIx : ∀ x W l o o', w.heap.size ≤ l → W.heap[l]? = some o → o.isCells = false → Ix x W → Ix x (W.putObj l o'))
    (a₁ : α → Act)
    (hassign : ∀ (l : Nat) (x : α) (W : World) (K : Act → World → Prop), K (a₁ x) W →
      assign.wpIn (F.inRound l) (n - 1 - 1) P (Exit.then K (fun _ _ _ => False)) { tmps := (ps.zip (encs x)).foldl (fun t (p, v) => t.setIfInBounds p v) a.tmps, defers := [] } W)
    (hbody : ∀ (l : Nat) (x : α) (W : World), S x → Ext w W →
      body.wpIn (F.inRound l) (n - 1 - 1) P (fun e _ W' => e = .ret ∧ KeepsOthers W W' ∧ Ix x W') (a₁ x) W)
    (hstop : ∀ (D : Nat) (x : α) (W : World), w.heap.size ≤ D → S x → Ix x W → W.heap[D]? = some (.deferred (some [])) →
      Code.ret.wpIn F n P Q { a with defers := { target := .collected D, args := #[] } :: a.defers } W) :
    (Code.rangeFunc g ps assign body).wpIn F n P Q a w := by
  refine wpIn_rangeFunc fun fn hfn => ?_
  let D := w.heap.size
  let r0 : Loop := { state := .ready, pending := none, fn, tmps := a.tmps, params := ps, assign, body, defers := D }
  let wD := w.alloc (.deferred (some []))
  let W := wD.alloc (.loop r0)
  have sD : wD.heap.size = D + 1 := World.size_alloc _ _
  have sW : W.heap.size = D + 2 := by rw [World.size_alloc, sD]
  have eW : Ext w W := ((Ext.refl w).alloc _).alloc _
  have atL : W.heap[D + 1]? = some (.loop r0) := by have := World.alloc_heap_new wD (.loop r0); rwa [sD] at this
  have atD : W.heap[D]? = some (.deferred (some [])) := (Below.heap_alloc _ _ _ (by omega)).trans (World.alloc_heap_new w _)
  let r1 : Loop := { r0 with state := .busy }
  let r2 : Loop := { r0 with state := .done, pending := some .ret }
  refine ⟨D + 1, [{ target := .collected D, args := #[] }], W, { target := .fn (.func gf) lb, args := #[.func (.yield (D + 1)) #[] #[]] }, W, gf,
    #[.func (.yield (D + 1)) #[] #[]] ++ lb, W, ?_, ?_, ?_, ?_, fun _ => h1, ?_⟩
  · rw [hro]; exact run_enterLoop_outer _ _ _ _ _
  · simp only [resolve, hg]; simp [go_sem]
  · intro f' hf'
    obtain rfl : gf = f' := by simpa [Target.leads] using hf'
    exact hFg
  · simp [invoke, go_sem, eg]
  refine (hseq (D + 1) (fun x V => Ix x V ∧ V.heap[D + 1]? = some (.loop r2) ∧ V.heap[D]? = some (.deferred (some []))) W eW fun x hS => ?_).mono ?_
  · -- the round
    refine ⟨fn, _, assign, body, run_yield (r := r0) atL (hps x), roundIn_of_wpIn hfn (hassign _ x W _ ⟨_, run_beginRound atL rfl, ?_⟩)⟩
    let V := W.putObj (D + 1) (.loop r1)
    have vL : V.heap[D + 1]? = some (.loop r1) := World.putObj_heap_same (by omega)
    have vD : V.heap[D]? = some (.deferred (some [])) := (World.putObj_heap_other (by omega)).trans atD
    have eV : Ext w V := eW.trans (belowK_b (w := w) (Nat.le_refl _) W (D + 1) _ _ (by omega) atL rfl rfl)
    refine wpIn_mono (hbody (D + 1) x V hS eV) ?_
    rintro e a3 V3 ⟨rfl, hk, hi⟩
    have v3 := hk.same _ _ vL rfl
    refine ⟨_, _, run_endRound (some .ret) v3, rfl, hIx _ _ _ _ _ (by omega) v3 rfl hi, World.putObj_heap_same (Array.getElem?_eq_some_iff.1 v3).1, (World.putObj_heap_other (by omega)).trans (hk.same _ _ vD rfl)⟩
  · -- behind the iterator
    rintro e V ⟨⟨v, rfl⟩, x, hS, hi, hL, hD⟩
    exact ⟨some .ret, _, run_endLoop (r := r2) hL (by simp [r2]), hstop D x _ (Nat.le_refl _) hS (hIx _ _ _ _ _ (by omega) hL rfl hi) ((World.putObj_heap_other (by omega)).trans hD)⟩
end Go.Q

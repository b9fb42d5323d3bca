import Derived.Test.YtbcciokmlkofkaaGreatWH7
set_option linter.unusedVariables false
set_option linter.unusedSimpArgs false
/- A range over an iterator of our own, the invariant by the number of rounds; the iterator says in what world it yields what. -/
namespace Go.Q
open Go.RowKit Go.Shelf
/-- the turn of block B, that holds no cells -/
def TurnsAt {β : Type} (B : Nat) (J : β → World → Prop) : Prop := ∀ s W o o', J s W → W.heap[B]? = some o → o.isCells = false → J s (W.putObj B o')
/-- how a round ends -/
def JPost (B : Nat) (Kp : World → World → Prop) (J : World → Prop) (W : World) : Exit → Act → World → Prop := fun e _ W' => e = .normal ∧ KeepsFrom B W W' ∧ Kp W W' ∧ J W'
theorem wpIn_rangeFunc_J {α : Type} {P : Program} {n : Nat} {g : Operand} {ps : Array Tmp} {assign body : Code} {Q : Exit → Act → World → Prop} {a : Act} {w : World} {gf : Nat} {lb : Array Value}
    (hg : a.eval g = .func (.func gf) #[] lb) (eg : ∀ args w, (callFunc gf args).run P w = .ok (.enter gf args) w)
    {encs : α → Array Value} (hps : ∀ x, (encs x).size = ps.size) (J : Nat → World → Prop) (X : Nat → α → World → Prop) (N : Nat) (Kp : World → World → Prop)
    (hKt : ∀ {A B C : World}, Kp A B → Kp B C → Kp A C) (hKb : ∀ (W : World) (o o' : Obj), W.heap[w.heap.size + 1]? = some o → o.isCells = false → Kp W (W.putObj (w.heap.size + 1) o'))
    (hJ : TurnsAt (w.heap.size + 1) J) (hX : ∀ k, TurnsAt (w.heap.size + 1) (X k)) (h0 : ∀ W, Ext w W → J 0 W)
    (hcall : ∀ (l : Nat) (JJ : Nat → World → Prop) (W1 : World), Ext w W1 → w.heap.size + 1 < W1.heap.size → (∀ k W, JJ k W → J k W ∧ w.heap.size + 1 < W.heap.size) →
      (∀ k W W', JJ k W → J k W' → W'.heap[w.heap.size]? = W.heap[w.heap.size]? → W'.heap[w.heap.size + 1]? = W.heap[w.heap.size + 1]? → JJ k W') →
      (∀ k x W, JJ k W → k < N → X k x W → YieldAt Fence.wide (n - 1 - 1) P l (encs x) W fun e W' => e = .returned (.bool true) ∧ JJ (k + 1) W' ∧ Kp W W') → JJ 0 W1 →
      CallsIn Fence.wide (n - 1) P gf (#[.func (.yield l) #[] #[]] ++ lb) W1 fun e W' => (∃ v, e = .returned v) ∧ JJ N W')
    (a₁ : α → Act)
    (hassign : ∀ (l : Nat) (x : α) (W : World) (K : Act → World → Prop), K (a₁ x) W →
      assign.wpIn (Fence.wide.inRound l) (n - 1 - 1) P (Exit.then K (fun _ _ _ => False)) { tmps := (ps.zip (encs x)).foldl (fun t (p, v) => t.setIfInBounds p v) a.tmps, defers := [] } W)
    (hbody : ∀ (l k : Nat) (x : α) (W : World), J k W → k < N → X k x W → body.wpIn (Fence.wide.inRound l) (n - 1 - 1) P (JPost w.heap.size Kp (J (k + 1)) W) (a₁ x) W)
    (hdone : ∀ (D : Nat) (W : World), w.heap.size ≤ D → J N W → W.heap[D]? = some (.deferred (some [])) → Q .normal { a with defers := { target := .collected D, args := #[] } :: a.defers } W) :
    (Code.rangeFunc g ps assign body).wpIn Fence.wide n P Q a w := by
  refine wpIn_rangeFunc fun fn hfn => ?_
  obtain ⟨rec, hrec⟩ : ∃ rec : LoopState → Option Code → Loop, rec = fun st pe => { state := st, pending := pe, fn, tmps := a.tmps, params := ps, assign, body, defers := w.heap.size } := ⟨_, rfl⟩
  obtain ⟨W1, hW1⟩ : ∃ W1, (w.alloc (.deferred (some []))).alloc (.loop (rec .ready none)) = W1 := ⟨_, rfl⟩
  have hE1 : Ext w W1 := by rw [← hW1]; exact ((Ext.refl w).alloc _).alloc _
  have hs1 : W1.heap.size = w.heap.size + 2 := by rw [← hW1]; simp
  have hL1 : W1.heap[w.heap.size + 1]? = some (.loop (rec .ready none)) := by
    rw [← hW1]; have := World.alloc_heap_new (w.alloc (.deferred (some []))) (.loop (rec .ready none)); rwa [World.size_alloc] at this
  have hD1 : W1.heap[w.heap.size]? = some (.deferred (some [])) := by
    rw [← hW1]; exact (Below.heap_alloc _ _ _ (by simp)).trans (World.alloc_heap_new w _)
  refine ⟨w.heap.size + 1, [{ target := .collected w.heap.size, args := #[] }], W1, { target := .fn (.func gf) lb, args := #[.func (.yield (w.heap.size + 1)) #[] #[]] }, W1, gf,
    #[.func (.yield (w.heap.size + 1)) #[] #[]] ++ lb, W1, ?_, ?_, fun _ _ => trivial, ?_, fun h => (by cases h), ?_⟩
  · rw [← hW1, hrec]; exact run_enterLoop_outer _ _ _ _ _
  · simp only [resolve, hg]
    simp [go_sem]
  · simp [invoke, go_sem, eg]
  · refine (hcall (w.heap.size + 1) (fun k W => J k W ∧ W.heap[w.heap.size + 1]? = some (.loop (rec .ready none)) ∧ W.heap[w.heap.size]? = some (.deferred (some []))) W1 hE1 (by omega) (fun _ _ h => ⟨h.1, (Array.getElem?_eq_some_iff.1 h.2.1).1⟩)
      (fun _ _ _ h hj e1 e2 => ⟨hj, e2.trans h.2.1, e1.trans h.2.2⟩) ?_ ⟨h0 _ hE1, hL1, hD1⟩).mono ?_
    · rintro k x W ⟨hj, hl, hd⟩ hk hx
      have hlt : w.heap.size + 1 < W.heap.size := (Array.getElem?_eq_some_iff.1 hl).1
      have hy := run_yield (P := P) (args := encs x) hl (by rw [hrec]; exact hps x)
      rw [hrec] at hy
      refine ⟨fn, _, assign, body, hy, roundIn_of_wpIn hfn (hassign _ x W _ ?_)⟩
      refine ⟨_, run_beginRound hl (by rw [hrec]), ?_⟩
      have hl2 : (W.putObj (w.heap.size + 1) (.loop { rec .ready none with state := .busy })).heap[w.heap.size + 1]? = some (.loop { rec .ready none with state := .busy }) := World.putObj_heap_same hlt
      have hd2 : (W.putObj (w.heap.size + 1) (.loop { rec .ready none with state := .busy })).heap[w.heap.size]? = some (.deferred (some [])) := (World.putObj_heap_other (by omega)).trans hd
      refine wpIn_mono (hbody _ k x _ (hJ _ _ _ _ hj hl rfl) hk (hX k _ _ _ _ hx hl rfl)) ?_
      rintro e a3 W3 ⟨rfl, hk3, hkp3, hj3⟩
      have hl3 := hk3.same _ _ (by omega) hl2 rfl
      have hd3 := hk3.same _ _ (Nat.le_refl _) hd2 rfl
      have hr := run_endRound (P := P) none hl3
      rw [hrec] at hr hl3 ⊢
      exact ⟨_, _, hr, rfl, ⟨hJ _ _ _ _ hj3 hl3 rfl, World.putObj_heap_same (Array.getElem?_eq_some_iff.1 hl3).1, (World.putObj_heap_other (by omega)).trans hd3⟩,
        hKt (hKb _ _ _ hl rfl) (hKt hkp3 (hKb _ _ _ hl3 rfl))⟩
    · rintro e W2 ⟨⟨v, rfl⟩, hj, hl, hd⟩
      exact ⟨none, _, by have := run_endLoop (P := P) hl (by rw [hrec]; simp); rw [hrec] at this; exact this, hdone _ _ (Nat.le_refl _) (hJ _ _ _ _ hj hl rfl) ((World.putObj_heap_other (by omega)).trans hd)⟩
/-- a piece of code that ends as usual -/
def NQ (Q : Exit → Act → World → Prop) : Exit → Act → World → Prop
  | .normal, a, w => Q .normal a w
  | _, _, _ => False
theorem wpIn_normal {F : Fence} {n : Nat} {P : Program} {c : Code} {Q : Exit → Act → World → Prop} {a : Act} {w : World} (h : c.wpIn F n P (NQ Q) a w) : c.wpIn F n P Q a w :=
  wpIn_mono h fun e a' w' hq => by
    cases e with
    | normal => exact hq
    | _ => exact hq.elim
theorem KpM.put {M : Nat → Prop} (W : World) (b : Nat) (o' : Obj) (hm : M b) : KpM M W (W.putObj b o') :=
  ⟨by simp, fun x _ hx => World.putObj_heap_other (fun e => hx (by rw [e]; exact hm)), rfl, rfl, rfl⟩
theorem boxed_kp {M : Nat → Prop} {A B : World} {b : Nat} {t : TypeId} {v : Value} (h : Boxed A b t v) (k : KpM M A B) (hm : ¬ M b) : Boxed B b t v := (k.block b h.lt hm).trans h
theorem KpM.set {M : Nat → Prop} (W : World) (b : Nat) (v : Value) (hm : M b) : KpM M W (W.setCell ⟨b, 0, none⟩ v) := (KpM.store (Ext.refl W) b v).mono (fun x h => by rw [h]; exact hm)
theorem idxQ_snoc (p : Int → Bool) (xs : List Int) (x : Int) : idxQ p (xs ++ [x]) = if 0 ≤ idxQ p xs then idxQ p xs else if p x = true then (xs.length : Int) else -1 := by
  unfold idxQ
  rw [List.findIdx?_append]
  cases h : xs.findIdx? p with
  | some i => simp
  | none =>
    simp only [Option.none_or, Int.reduceNeg]
    rw [if_neg (by decide)]
    by_cases hp : p x = true
    · simp [List.findIdx?_cons, hp]
    · simp [List.findIdx?_cons, hp]
end Go.Q

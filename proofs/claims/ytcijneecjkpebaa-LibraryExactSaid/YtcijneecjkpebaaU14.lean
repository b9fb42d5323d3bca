import Derived.Test.YtcijneecjkpebaaU13
import Derived.Test.YtcijneecjkpebaaU11
import Derived.Test.YtcijneecjkpebaaU9
import Derived.Test.YtcijneecjkpebaaUP1
set_option linter.unusedVariables false
set_option linter.unusedSimpArgs false
/- Layer 8: Diff's ranges: a range over a function whose iterator begins at a known block; library.differences. -/
namespace Go.Q
open Go.RowKit Go.Shelf
/-- the mark of a range over a function whose rounds deferred nothing -/
def markD (D : Nat) : Deferred := { target := .collected D, args := #[] }
/-- marks at blocks of the call's own -/
structure Marks (b : Nat) (W : World) (Ds : List Nat) : Prop where
  nodup : Ds.Nodup
  at_ : ∀ D ∈ Ds, b ≤ D ∧ W.heap[D]? = some (.deferred (some []))
theorem Marks.nil (b : Nat) (W : World) : Marks b W [] := ⟨List.nodup_nil, nofun⟩
theorem Marks.cons {b D : Nat} {w W : World} {Ds : List Nat} (h : Marks b w Ds) (hk : KeepsFrom 0 w W) (hD : w.heap.size ≤ D) (hb : b ≤ D) (hW : W.heap[D]? = some (.deferred (some []))) : Marks b W (D :: Ds) :=
  ⟨List.nodup_cons.2 ⟨fun hm => by
      have := (Array.getElem?_eq_some_iff.1 (h.at_ D hm).2).1
      omega, h.nodup⟩, fun E hE => by
    rcases List.mem_cons.1 hE with rfl | hE
    · exact ⟨hb, hW⟩
    · obtain ⟨h1, h2⟩ := h.at_ E hE
      exact ⟨h1, hk.same E _ (Nat.zero_le _) h2 rfl⟩⟩
/-- what the marks' turn leaves -/
structure Shut (b : Nat) (W W' : World) : Prop where
  below : Below b W W'
  cells : ∀ (k : Nat) (o : Obj), W.heap[k]? = some o → o.isCells = true → W'.heap[k]? = some o
theorem leaves_marks {F : Fence} {n : Nat} {P : Program} {fn : Func} {tmps : Array Value} {R : Ending → World → Prop} {b : Nat} : ∀ (Ds : List Nat) (W : World), Marks b W Ds → (∀ W', Shut b W W' → LeavesIn F n P fn tmps R [] .returning W') → LeavesInM F n P fn tmps R (Ds.map markD) .returning W
  | [], W, _, h => h W ⟨Below.refl _ _, fun _ _ h _ => h⟩
  | D :: Ds, W, hM, h => by
    obtain ⟨hb, hD⟩ := hM.at_ D (List.mem_cons_self ..)
    have hlt := (Array.getElem?_eq_some_iff.1 hD).1
    have hn := List.nodup_cons.1 hM.nodup
    refine ⟨by simp, .inl ⟨D, _, rfl, run_takeDeferred hD, ?_⟩⟩
    refine leaves_marks (b := b) Ds _ ⟨hn.2, fun E hE => ?_⟩ fun W' hW' => h W' ⟨?_, fun k o hk ho => ?_⟩
    · obtain ⟨h1, h2⟩ := hM.at_ E (List.mem_cons_of_mem _ hE)
      exact ⟨h1, (World.putObj_heap_other (fun e => hn.1 (by subst e; exact hE))).trans h2⟩
    · exact ((Below.refl b W).grown (grownBy_putObj' W D _) (by omega) (fun k e => by cases e; exact hb)).trans hW'.below
    · refine hW'.cells k o ((World.putObj_heap_other (fun e => ?_)).trans hk) ho
      subst e
      rw [hD] at hk
      cases hk
      cases ho
theorem wpIn_rangeFunc_JE {α : Type} {P : Program} {n : Nat} {g : Operand} {ps : Array Tmp} {assign body : Code} {Q : Exit → Act → World → Prop} {a : Act} {w : World} {gf : Nat} {lb : Array Value}
    (hg : a.eval g = .func (.func gf) #[] lb) (eg : ∀ args w, (callFunc gf args).run P w = .ok (.enter gf args) w)
    {encs : α → Array Value} (hps : ∀ x, (encs x).size = ps.size) (J : Nat → World → Prop) (X : Nat → α → World → Prop) (N : Nat) (Kp : World → World → Prop)
    (hKt : ∀ {A B C : World}, Kp A B → Kp B C → Kp A C) (hKb : ∀ (W : World) (o o' : Obj), W.heap[w.heap.size + 1]? = some o → o.isCells = false → Kp W (W.putObj (w.heap.size + 1) o'))
    (hJ : TurnsAt (w.heap.size + 1) J) (hX : ∀ k, TurnsAt (w.heap.size + 1) (X k)) (h0 : ∀ W, Ext w W → J 0 W)
    (hcall : ∀ (l : Nat) (JJ : Nat → World → Prop) (W1 : World), Ext w W1 → W1.heap.size = w.heap.size + 2 → (∀ k W, JJ k W → J k W ∧ w.heap.size + 1 < W.heap.size) →
      (∀ k W W', JJ k W → J k W' → W'.heap[w.heap.size]? = W.heap[w.heap.size]? → W'.heap[w.heap.size + 1]? = W.heap[w.heap.size + 1]? → JJ k W') →
      (∀ k x W, JJ k W → k < N → X k x W → YieldAt Fence.wide (n - 1 - 1) P l (encs x) W fun e W' => e = .returned (.bool true) ∧ JJ (k + 1) W' ∧ Kp W W') → JJ 0 W1 →
      CallsIn Fence.wide (n - 1) P gf (#[.func (.yield l) #[] #[]] ++ lb) W1 fun e W' => (∃ v, e = .returned v) ∧ JJ N W')
    (a₁ : α → Act)
    (hassign : ∀ (l : Nat) (x : α) (W : World) (K : Act → World → Prop), K (a₁ x) W →
      assign.wpIn (Fence.wide.inRound l) (n - 1 - 1) P (Exit.then K (fun _ _ _ => False)) { tmps := (ps.zip (encs x)).foldl (fun t (p, v) => t.setIfInBounds p v) a.tmps, defers := [] } W)
    (hbody : ∀ (l k : Nat) (x : α) (W : World), J k W → k < N → X k x W → body.wpIn (Fence.wide.inRound l) (n - 1 - 1) P (JPost w.heap.size Kp (J (k + 1)) W) (a₁ x) W)
    (hdone : ∀ (D : Nat) (W : World), w.heap.size ≤ D → J N W → W.heap[D]? = some (.deferred (some [])) → Q .normal { a with defers := { target := .collected D, args := #[] } :: a.defers } W) :
    (Code.rangeFunc g ps assign body).wpIn Fence.wide n P Q a w := by
  refine wpIn_rangeFunc fun fn hfn => ?_
  obtain ⟨rec, hrec⟩ : ∃ rec : LoopState → Option Code → Loop, rec = fun st pe => { state := st, pending := pe, fn, tmps := a.tmps, params := ps, assign, body, defers := w.heap.size } := ⟨_, rfl⟩
  obtain ⟨W1, hW1⟩ : ∃ W1, (w.alloc (.deferred (some []))).alloc (.loop (rec .ready none)) = W1 := ⟨_, rfl⟩
  have hE1 : Ext w W1 := by rw [← hW1]; exact ((Ext.refl w).alloc _).alloc _
  have hs1 : W1.heap.size = w.heap.size + 2 := by rw [← hW1]; simp
  have hL1 : W1.heap[w.heap.size + 1]? = some (.loop (rec .ready none)) := by
    rw [← hW1]; have := World.alloc_heap_new (w.alloc (.deferred (some []))) (.loop (rec .ready none)); rwa [World.size_alloc] at this
  have hD1 : W1.heap[w.heap.size]? = some (.deferred (some [])) := by
    rw [← hW1]; exact (Below.heap_alloc _ _ _ (by simp)).trans (World.alloc_heap_new w _)
  refine ⟨w.heap.size + 1, [{ target := .collected w.heap.size, args := #[] }], W1, { target := .fn (.func gf) lb, args := #[.func (.yield (w.heap.size + 1)) #[] #[]] }, W1, gf,
    #[.func (.yield (w.heap.size + 1)) #[] #[]] ++ lb, W1, ?_, ?_, fun _ _ => trivial, ?_, fun h => (by cases h), ?_⟩
  · rw [← hW1, hrec]; exact run_enterLoop_outer _ _ _ _ _
  · simp only [resolve, hg]
    simp [go_sem]
  · simp [invoke, go_sem, eg]
  · refine (hcall (w.heap.size + 1) (fun k W => J k W ∧ W.heap[w.heap.size + 1]? = some (.loop (rec .ready none)) ∧ W.heap[w.heap.size]? = some (.deferred (some []))) W1 hE1 hs1 (fun _ _ h => ⟨h.1, (Array.getElem?_eq_some_iff.1 h.2.1).1⟩)
      (fun _ _ _ h hj e1 e2 => ⟨hj, e2.trans h.2.1, e1.trans h.2.2⟩) ?_ ⟨h0 _ hE1, hL1, hD1⟩).mono ?_
    · rintro k x W ⟨hj, hl, hd⟩ hk hx
      have hlt : w.heap.size + 1 < W.heap.size := (Array.getElem?_eq_some_iff.1 hl).1
      have hy := run_yield (P := P) (args := encs x) hl (by rw [hrec]; exact hps x)
      rw [hrec] at hy
      refine ⟨fn, _, assign, body, hy, roundIn_of_wpIn hfn (hassign _ x W _ ?_)⟩
      refine ⟨_, run_beginRound hl (by rw [hrec]), ?_⟩
      have hl2 : (W.putObj (w.heap.size + 1) (.loop { rec .ready none with state := .busy })).heap[w.heap.size + 1]? = some (.loop { rec .ready none with state := .busy }) := World.putObj_heap_same hlt
      have hd2 : (W.putObj (w.heap.size + 1) (.loop { rec .ready none with state := .busy })).heap[w.heap.size]? = some (.deferred (some [])) := (World.putObj_heap_other (by omega)).trans hd
      refine wpIn_mono (hbody _ k x _ (hJ _ _ _ _ hj hl rfl) hk (hX k _ _ _ _ hx hl rfl)) ?_
      rintro e a3 W3 ⟨rfl, hk3, hkp3, hj3⟩
      have hl3 := hk3.same _ _ (by omega) hl2 rfl
      have hd3 := hk3.same _ _ (Nat.le_refl _) hd2 rfl
      have hr := run_endRound (P := P) none hl3
      rw [hrec] at hr hl3 ⊢
      exact ⟨_, _, hr, rfl, ⟨hJ _ _ _ _ hj3 hl3 rfl, World.putObj_heap_same (Array.getElem?_eq_some_iff.1 hl3).1, (World.putObj_heap_other (by omega)).trans hd3⟩,
        hKt (hKb _ _ _ hl rfl) (hKt hkp3 (hKb _ _ _ hl3 rfl))⟩
    · rintro e W2 ⟨⟨v, rfl⟩, hj, hl, hd⟩
      exact ⟨none, _, by have := run_endLoop (P := P) hl (by rw [hrec]; simp); rw [hrec] at this; exact this, hdone _ _ (Nat.le_refl _) (hJ _ _ _ _ hj hl rfl) ((World.putObj_heap_other (by omega)).trans hd)⟩
/-- the same, where what comes before the body makes memory -/
theorem wpIn_rangeFunc_JA {α : Type} {P : Program} {n : Nat} {g : Operand} {ps : Array Tmp} {assign body : Code} {Q : Exit → Act → World → Prop} {a : Act} {w : World} {gf : Nat} {lb : Array Value}
    (hg : a.eval g = .func (.func gf) #[] lb) (eg : ∀ args w, (callFunc gf args).run P w = .ok (.enter gf args) w)
    {encs : α → Array Value} (hps : ∀ x, (encs x).size = ps.size) (J : Nat → World → Prop) (X : Nat → α → World → Prop) (N : Nat) (Kp : World → World → Prop)
    (hKt : ∀ {A B C : World}, Kp A B → Kp B C → Kp A C) (hKb : ∀ (W : World) (o o' : Obj), W.heap[w.heap.size + 1]? = some o → o.isCells = false → Kp W (W.putObj (w.heap.size + 1) o'))
    (hJ : TurnsAt (w.heap.size + 1) J) (hX : ∀ k, TurnsAt (w.heap.size + 1) (X k)) (h0 : ∀ W, Ext w W → J 0 W)
    (hcall : ∀ (l : Nat) (JJ : Nat → World → Prop) (W1 : World), Ext w W1 → W1.heap.size = w.heap.size + 2 → (∀ k W, JJ k W → J k W ∧ w.heap.size + 1 < W.heap.size) →
      (∀ k W W', JJ k W → J k W' → W'.heap[w.heap.size]? = W.heap[w.heap.size]? → W'.heap[w.heap.size + 1]? = W.heap[w.heap.size + 1]? → JJ k W') →
      (∀ k x W, JJ k W → k < N → X k x W → YieldAt Fence.wide (n - 1 - 1) P l (encs x) W fun e W' => e = .returned (.bool true) ∧ JJ (k + 1) W' ∧ Kp W W') → JJ 0 W1 →
      CallsIn Fence.wide (n - 1) P gf (#[.func (.yield l) #[] #[]] ++ lb) W1 fun e W' => (∃ v, e = .returned v) ∧ JJ N W')
    (J1 : Nat → α → Act → World → Prop) (hKe : ∀ {A B : World}, Ext A B → Kp A B) (hJ1 : ∀ k x a₁, TurnsAt (w.heap.size + 1) (fun (_ : Unit) W => J1 k x a₁ W))
    (hassign : ∀ (l k : Nat) (x : α) (W : World) (K : Act → World → Prop), J k W → k < N → X k x W → (∀ a₁ W₁, Ext W W₁ → J1 k x a₁ W₁ → K a₁ W₁) →
      assign.wpIn (Fence.wide.inRound l) (n - 1 - 1) P (Exit.then K (fun _ _ _ => False)) { tmps := (ps.zip (encs x)).foldl (fun t (p, v) => t.setIfInBounds p v) a.tmps, defers := [] } W)
    (hbody : ∀ (l k : Nat) (x : α) (a₁ : Act) (W : World), J1 k x a₁ W → k < N → body.wpIn (Fence.wide.inRound l) (n - 1 - 1) P (JPost w.heap.size Kp (J (k + 1)) W) a₁ W)
    (hdone : ∀ (D : Nat) (W : World), w.heap.size ≤ D → J N W → W.heap[D]? = some (.deferred (some [])) → Q .normal { a with defers := { target := .collected D, args := #[] } :: a.defers } W) :
    (Code.rangeFunc g ps assign body).wpIn Fence.wide n P Q a w := by
  refine wpIn_rangeFunc fun fn hfn => ?_
  obtain ⟨rec, hrec⟩ : ∃ rec : LoopState → Option Code → Loop, rec = fun st pe => { state := st, pending := pe, fn, tmps := a.tmps, params := ps, assign, body, defers := w.heap.size } := ⟨_, rfl⟩
  obtain ⟨W1, hW1⟩ : ∃ W1, (w.alloc (.deferred (some []))).alloc (.loop (rec .ready none)) = W1 := ⟨_, rfl⟩
  have hE1 : Ext w W1 := by rw [← hW1]; exact ((Ext.refl w).alloc _).alloc _
  have hs1 : W1.heap.size = w.heap.size + 2 := by rw [← hW1]; simp
  have hL1 : W1.heap[w.heap.size + 1]? = some (.loop (rec .ready none)) := by
    rw [← hW1]; have := World.alloc_heap_new (w.alloc (.deferred (some []))) (.loop (rec .ready none)); rwa [World.size_alloc] at this
  have hD1 : W1.heap[w.heap.size]? = some (.deferred (some [])) := by
    rw [← hW1]; exact (Below.heap_alloc _ _ _ (by simp)).trans (World.alloc_heap_new w _)
  refine ⟨w.heap.size + 1, [{ target := .collected w.heap.size, args := #[] }], W1, { target := .fn (.func gf) lb, args := #[.func (.yield (w.heap.size + 1)) #[] #[]] }, W1, gf,
    #[.func (.yield (w.heap.size + 1)) #[] #[]] ++ lb, W1, ?_, ?_, fun _ _ => trivial, ?_, fun h => (by cases h), ?_⟩
  · rw [← hW1, hrec]; exact run_enterLoop_outer _ _ _ _ _
  · simp only [resolve, hg]
    simp [go_sem]
  · simp [invoke, go_sem, eg]
  · refine (hcall (w.heap.size + 1) (fun k W => J k W ∧ W.heap[w.heap.size + 1]? = some (.loop (rec .ready none)) ∧ W.heap[w.heap.size]? = some (.deferred (some []))) W1 hE1 hs1 (fun _ _ h => ⟨h.1, (Array.getElem?_eq_some_iff.1 h.2.1).1⟩)
      (fun _ _ _ h hj e1 e2 => ⟨hj, e2.trans h.2.1, e1.trans h.2.2⟩) ?_ ⟨h0 _ hE1, hL1, hD1⟩).mono ?_
    · rintro k x W ⟨hj, hl, hd⟩ hk hx
      have hlt : w.heap.size + 1 < W.heap.size := (Array.getElem?_eq_some_iff.1 hl).1
      have hy := run_yield (P := P) (args := encs x) hl (by rw [hrec]; exact hps x)
      rw [hrec] at hy
      refine ⟨fn, _, assign, body, hy, roundIn_of_wpIn hfn (hassign _ k x W _ hj hk hx fun a1 WA EA h1 => ?_)⟩
      have hl := (EA.block _ hlt).trans hl
      have hd := (EA.block _ (Array.getElem?_eq_some_iff.1 hd).1).trans hd
      have hlt : w.heap.size + 1 < WA.heap.size := (Array.getElem?_eq_some_iff.1 hl).1
      refine ⟨_, run_beginRound hl (by rw [hrec]), ?_⟩
      have hl2 : (WA.putObj (w.heap.size + 1) (.loop { rec .ready none with state := .busy })).heap[w.heap.size + 1]? = some (.loop { rec .ready none with state := .busy }) := World.putObj_heap_same hlt
      have hd2 : (WA.putObj (w.heap.size + 1) (.loop { rec .ready none with state := .busy })).heap[w.heap.size]? = some (.deferred (some [])) := (World.putObj_heap_other (by omega)).trans hd
      refine wpIn_mono (hbody _ k x a1 _ (hJ1 k x a1 () _ _ _ h1 hl rfl) hk) ?_
      rintro e a3 W3 ⟨rfl, hk3, hkp3, hj3⟩
      have hl3 := hk3.same _ _ (by omega) hl2 rfl
      have hd3 := hk3.same _ _ (Nat.le_refl _) hd2 rfl
      have hr := run_endRound (P := P) none hl3
      rw [hrec] at hr hl3 ⊢
      exact ⟨_, _, hr, rfl, ⟨hJ _ _ _ _ hj3 hl3 rfl, World.putObj_heap_same (Array.getElem?_eq_some_iff.1 hl3).1, (World.putObj_heap_other (by omega)).trans hd3⟩,
        hKt (hKe EA) (hKt (hKb _ _ _ hl rfl) (hKt hkp3 (hKb _ _ _ hl3 rfl)))⟩
    · rintro e W2 ⟨⟨v, rfl⟩, hj, hl, hd⟩
      exact ⟨none, _, by have := run_endLoop (P := P) hl (by rw [hrec]; simp); rw [hrec] at this; exact this, hdone _ _ (Nat.le_refl _) (hJ _ _ _ _ hj hl rfl) ((World.putObj_heap_other (by omega)).trans hd)⟩
end Go.Q
namespace Go.Proofs.Ytcijneecjkpebaa
open Go.RowKit Go.Q Go.Shelf
/-- an entry's value -/
theorem lb_differences (x y : En) (l k : Lo) (w : World) :
    Calls Try.prog 82 #[.agg #[.string x.name, .int .i64 x.ver, .slice l.a1 x.code.words.length l.c1, .slice l.a2 x.code.masks.length l.c2, .int .i64 x.code.entry, .int .i64 x.code.exit, .int .i64 x.code.result, .slice l.a3 x.code.args.length l.c3], .agg #[.string y.name, .int .i64 y.ver, .slice k.a1 y.code.words.length k.c1, .slice k.a2 y.code.masks.length k.c2, .int .i64 y.code.entry, .int .i64 y.code.exit, .int .i64 y.code.result, .slice k.a3 y.code.args.length k.c3]] w fun e w' => e = .returned (.func (.func 117) #[] #[.pointer (some ⟨w.heap.size, 0, none⟩), .pointer (some ⟨w.heap.size + 1, 0, none⟩)]) ∧ Blk w' w.heap.size #[.string x.name, .int .i64 x.ver, .slice l.a1 x.code.words.length l.c1, .slice l.a2 x.code.masks.length l.c2, .int .i64 x.code.entry, .int .i64 x.code.exit, .int .i64 x.code.result, .slice l.a3 x.code.args.length l.c3] 63 ∧ Blk w' (w.heap.size + 1) #[.string y.name, .int .i64 y.ver, .slice k.a1 y.code.words.length k.c1, .slice k.a2 y.code.masks.length k.c2, .int .i64 y.code.entry, .int .i64 y.code.exit, .int .i64 y.code.result, .slice k.a3 y.code.args.length k.c3] 63 ∧ Ext w w' := by
  go_enter Try.func82, Try.ntmps82
  go_wp2_with fail
  go_ret
  refine ⟨rfl, (Blk.nw _ _ _).al _, ?_, (by repeat (first | with_reducible exact Ext.refl _ | with_reducible refine Ext.alloc ?_ _ | with_reducible refine Below.drew ?_))⟩
  have := Blk.nw (w.alloc (.cells #[.string x.name, .int .i64 x.ver, .slice l.a1 x.code.words.length l.c1, .slice l.a2 x.code.masks.length l.c2, .int .i64 x.code.entry, .int .i64 x.code.exit, .int .i64 x.code.result, .slice l.a3 x.code.args.length l.c3] 63)) #[.string y.name, .int .i64 y.ver, .slice k.a1 y.code.words.length k.c1, .slice k.a2 y.code.masks.length k.c2, .int .i64 y.code.entry, .int .i64 y.code.exit, .int .i64 y.code.result, .slice k.a3 y.code.args.length k.c3] 63
  rw [World.size_alloc] at this
  exact this
end Go.Proofs.Ytcijneecjkpebaa
/- Layer 8: the sum of a tape; a row that grows while some blocks are kept. -/
namespace Go.Q
theorem sumT_snoc (l : List Int) (x : Int) : sumT (l ++ [x]) = (sumT l + x) % 16777216 := by unfold sumT; rw [List.foldl_append]; rfl
theorem sumT_bd (l : List Int) : 0 ≤ sumT l ∧ sumT l ≤ 16777215 := by
  rcases List.eq_nil_or_concat l with rfl | ⟨l', x, rfl⟩
  · exact ⟨Int.le_refl _, by decide⟩
  · rw [List.concat_eq_append, sumT_snoc]; omega
theorem pairs_take : ∀ (ws ms : List Int) (k : Nat), ms.length = ws.length → k < ws.length → pairsW (ws.take (k + 1)) (ms.take (k + 1)) = pairsW (ws.take k) (ms.take k) ++ [ws[k]?.getD 0, ms[k]?.getD 0]
  | [], _, k, _, h => absurd h (Nat.not_lt_zero _)
  | _ :: _, [], _, h, _ => by cases h
  | w :: ws, m :: ms, 0, _, _ => by simp [pairsW]
  | w :: ws, m :: ms, k + 1, h, hk => by
    have ih := pairs_take ws ms k (by simpa using h) (by simpa using hk)
    rw [List.take_succ_cons, List.take_succ_cons]
    show w :: m :: pairsW (ws.take (k + 1)) (ms.take (k + 1)) = _
    rw [ih]
    rfl
theorem pairs_part : ∀ (ws ms : List Int) (k : Nat), (pairsW (ws.take k) (ms.take k)).length ≤ 2 * k
  | ws, ms, 0 => by simp [pairsW]
  | [], ms, k + 1 => by simp [pairsW]
  | w :: ws, [], k + 1 => by simp [pairsW]
  | w :: ws, m :: ms, k + 1 => by
    have ih := pairs_part ws ms k
    rw [List.take_succ_cons, List.take_succ_cons]
    show (w :: m :: pairsW (ws.take k) (ms.take k)).length ≤ _
    rw [List.length_cons, List.length_cons]
    omega
end Go.Q
namespace Go.Proofs.Ytcijneecjkpebaa
open Go.RowKit Go.Q
set_option maxHeartbeats 1000000 in
theorem lb_total (a : Option Addr) (n c : Nat) (xs : List Int) (w : World) (hn : xs.length = n) (hb : n ≤ 9223372036854775807) (hI : IntsAt w a xs) (hx : ∀ x ∈ xs, 0 ≤ x ∧ x ≤ 1099511627776) :
    Calls Try.prog 84 #[.slice a n c] w fun e w' => e = .returned (.int .i64 (sumT xs)) ∧ w' = w := by
  have HI := Lib.hid hI
  have HN := Lib.hid hn
  have HX := Lib.hid hx
  clear hI hn hx
  go_enter Try.func84, Try.ntmps84
  go_wp2
  go_loop [2, 7] (fun s2 s7 => ∃ j : Nat, j ≤ n ∧ s7 = .int .i64 (j : Int) ∧ s2 = .int .i64 (sumT (xs.take j))) (fun _ s => n - (intOf s).toNat)
  case atStart => exact ⟨0, Nat.zero_le _, rfl, rfl⟩
  case round =>
    obtain ⟨j, hj, rfl, rfl⟩ := hrel
    by_cases hlt : j < n
    · have hltz : (j : Int) < (n : Int) := by omega
      obtain ⟨b, off, rfl, hc⟩ : ∃ b off, a = some ⟨b, off, none⟩ ∧ w.cell? ⟨b, off + j, none⟩ = some (.int .i64 (xs[j]?.getD 0)) := by
        rcases HI.out with h | ⟨b, off, ha, hbl, hc⟩
        · have := HN.out; rw [h] at this; simp at this; omega
        · exact ⟨b, off, ha, hc j (by rw [HN.out]; exact hlt)⟩
      have hl : j < xs.length := by rw [HN.out]; exact hlt
      have hxj := HX.out (xs[j]?.getD 0) (by rw [List.getElem?_eq_getElem hl]; exact List.getElem_mem hl)
      have hs := sumT_bd (xs.take j)
      have hsn : sumT (xs.take (j + 1)) = (sumT (xs.take j) + xs[j]?.getD 0) % 16777216 := by
        rw [← sumT_snoc, take_get (List.getElem?_eq_getElem hl), List.getElem?_eq_getElem hl]
        rfl
      have HS := Lib.hid hsn
      obtain ⟨h0, h1⟩ := hs
      obtain ⟨x0, x1⟩ := hxj
      generalize xs[j]?.getD 0 = x at *
      generalize sumT (xs.take j) = t at *
      clear hsn hl
      go_wp2
      go_round
      case rel => exact ⟨j + 1, by omega, by go_num, by rw [HS.out]⟩
      case measure => simp [intOf]; omega
    · have hltz : ¬ (j : Int) < (n : Int) := by omega
      have HT := Lib.hid (show sumT (xs.take j) = sumT xs by rw [List.take_of_length_le (by rw [HN.out]; omega)])
      go_wp2
      go_ret
      exact ⟨ret_int HT.out, rfl⟩
/-- a row of the call's own that grows, from W0 on; blocks of F are kept -/
structure Gw (B : Nat) (F : Nat → Prop) (W0 W : World) (v : Value) (ls : List Int) : Prop where
  row : W.ownsRow B 3 1 v ls.length (iv ls)
  ne : ∀ k, v.ownBlock = some k → ¬ F k
  kp : KpM (fun k => B ≤ k ∧ ¬ F k) W0 W
theorem Gw.start {B : Nat} {F : Nat → Prop} {W : World} {v : Value} {ls : List Int} (h : W.ownsRow B 3 1 v ls.length (iv ls)) (hF : ∀ k, v.ownBlock = some k → ¬ F k) : Gw B F W W v ls := ⟨h, hF, KpM.refl _ _⟩
theorem Gw.app {B : Nat} {F : Nat → Prop} {W0 W X Y : World} {v v' : Value} {ls ms : List Int} (h : Gw B F W0 W v ls) (E : Ext W X) {m : Nat} (hm : ms.length = m) (ho : Y.ownsRow B 3 1 v' (ls.length + m) (iv ls ++ iv ms)) (hg : X.grownBy Y v.ownBlock) (ha : v'.ownBlock = v.ownBlock ∨ v'.ownBlock = some X.heap.size) (hF : ∀ k, F k → k < W0.heap.size) : Gw B F W0 Y v' (ls ++ ms) := by
  refine ⟨by rw [List.length_append, hm, ← iv_app]; exact ho, fun k hk hf => ?_, (h.kp.trans (KpM.of_ext E)).trans (KpM.grown hg fun k hk => ⟨(h.row.lt k hk).1, h.ne k hk⟩)⟩
  rcases ha with e | e
  · exact h.ne k (by rw [← e]; exact hk) hf
  · rw [e] at hk
    injection hk with hk
    have := hF k hf
    have := h.kp.size
    have := E.size
    omega
theorem Gw.keep {B : Nat} {F : Nat → Prop} {W0 W : World} {v : Value} {ls : List Int} (h : Gw B F W0 W v ls) {b : Nat} {cs : Array Value} {T : TypeId} (hb : Blk W0 b cs T) (hF : F b) : Blk W b cs T := hb.kpm h.kp fun hx => hx.2 hF
theorem Gw.old {B : Nat} {F : Nat → Prop} {w W0 W : World} {v : Value} {ls : List Int} (h : Gw B F W0 W v ls) (E : Ext w W0) (hB : w.heap.size ≤ B) : Ext w W := h.kp.below E (Nat.le_refl _) fun k hk => by omega
theorem Gw.bel {B : Nat} {F : Nat → Prop} {W0 W : World} {v : Value} {ls : List Int} (h : Gw B F W0 W v ls) (hB : B ≤ W0.heap.size) : Below B W0 W := h.kp.below (Below.refl _ _) hB fun k hk => hk.1
/-- the bytes of a string in new memory -/
theorem bytes_new (s : ByteArray) (w : World) : Ext w ((w.alloc (.cells (bytesRow s (grownCap w s.size 0 5)) 5 ((bytesRow s (grownCap w s.size 0 5)).size, (bytesRow s (grownCap w s.size 0 5)).size + 1))).drew) ∧
    (∀ i, i < s.size → ((w.alloc (.cells (bytesRow s (grownCap w s.size 0 5)) 5 ((bytesRow s (grownCap w s.size 0 5)).size, (bytesRow s (grownCap w s.size 0 5)).size + 1))).drew).cell? ⟨w.heap.size, i, none⟩ = some (.int .u8 ((bytesS s)[i]?.getD 0))) ∧ w.heap.size < ((w.alloc (.cells (bytesRow s (grownCap w s.size 0 5)) 5 ((bytesRow s (grownCap w s.size 0 5)).size, (bytesRow s (grownCap w s.size 0 5)).size + 1))).drew).heap.size := by
  refine ⟨((Ext.refl w).alloc _).drew, fun i hi => ?_, by simp⟩
  rw [World.cell?_drew, bytesS_get s i hi]
  have hc : (bytesRow s (grownCap w s.size 0 5))[i]? = some (.int .u8 (s[i].toNat : Int)) := by
    unfold bytesRow
    rw [Array.getElem?_append_left (by simpa using hi)]
    simp [hi]
    rfl
  have e : (w.alloc (.cells (bytesRow s (grownCap w s.size 0 5)) 5 ((bytesRow s (grownCap w s.size 0 5)).size, (bytesRow s (grownCap w s.size 0 5)).size + 1))).heap[w.heap.size]? = some (.cells (bytesRow s (grownCap w s.size 0 5)) 5 ((bytesRow s (grownCap w s.size 0 5)).size, (bytesRow s (grownCap w s.size 0 5)).size + 1)) := heap_alloc_new w _
  simp only [World.cell?, e]
  simpa using hc
end Go.Proofs.Ytcijneecjkpebaa

import Derived.RangeFuncFrom
import Derived.RangeFuncNested
import Derived.RangeFuncBound
import Derived.RangeFuncCalls
import Derived.RangeFuncLeaves
import Derived.Shelf.Abstract
import Derived.Shelf.RegionOpen
import Derived.OwnWalkIn
import Derived.TacticsInMore
import Derived.LoopNIn
import Derived.LoopIn
import Derived.Deep.RegionHeld3
import Derived.Deep.DeepCutAuto
import Derived.Test.YtbcciokmlkofkaaGreatWLib
import Derived.Test.YtbcciokmlkofkaaGreatWA1
set_option linter.unusedVariables false
set_option linter.unusedSimpArgs false
/- A range over a function whose body leaves by a return in its first round: one law for the caller, one word for the iterator. -/
namespace Go.Q
open Go.RowKit Go.Shelf
variable {F : Fence} {n : Nat} {P : Program}
/-- the iterator calls yield once, at some x of S, and goes on no further when the answer is no -/
def OnceSeq {α : Type} (F : Fence) (n : Nat) (P : Program) (g : Nat) (lb : Array Value) (encs : α → Array Value) (S : α → Prop) (w0 : World) : Prop :=
  ∀ (l : Nat) (Jx : α → World → Prop) (W : World), Below w0.heap.size w0 W →
    (∀ x, S x → YieldAt F (n - 1) P l (encs x) W fun e W' => e = .returned (.bool false) ∧ Jx x W') →
    CallsIn F n P g (#[.func (.yield l) #[] #[]] ++ lb) W fun e W' => (∃ v, e = .returned v) ∧ ∃ x, S x ∧ Jx x W'
theorem wpIn_once {α : Type} {g : Operand} {ps : Array Tmp} {assign body : Code} {Q : Exit → Act → World → Prop} {a : Act} {w : World}
    (hro : F.round = none) (h1 : 1 ≤ n) {gf : Nat} {lb : Array Value} (hg : a.eval g = .func (.func gf) #[] lb) (hFg : F.fn gf) (eg : ∀ args w, (callFunc gf args).run P w = .ok (.enter gf args) w)
    {encs : α → Array Value} {S : α → Prop} (hseq : OnceSeq F (n - 1) P gf lb encs S w) (hps : ∀ x, (encs x).size = ps.size)
    (Ix : α → World → Prop) (hIx : ∀ x W l o o', w.heap.size ≤ l → W.heap[l]? = some o → o.isCells = false → Ix x W → Ix x (W.putObj l o'))
    (a₁ : α → Act)
    (hassign : ∀ (l : Nat) (x : α) (W : World) (K : Act → World → Prop), K (a₁ x) W →
      assign.wpIn (F.inRound l) (n - 1 - 1) P (Exit.then K (fun _ _ _ => False)) { tmps := (ps.zip (encs x)).foldl (fun t (p, v) => t.setIfInBounds p v) a.tmps, defers := [] } W)
    (hbody : ∀ (l : Nat) (x : α) (W : World), S x → Ext w W →
      body.wpIn (F.inRound l) (n - 1 - 1) P (fun e _ W' => e = .ret ∧ KeepsOthers W W' ∧ Ix x W') (a₁ x) W)
    (hstop : ∀ (D : Nat) (x : α) (W : World), w.heap.size ≤ D → S x → Ix x W → W.heap[D]? = some (.deferred (some [])) →
      Code.ret.wpIn F n P Q { a with defers := { target := .collected D, args := #[] } :: a.defers } W) :
    (Code.rangeFunc g ps assign body).wpIn F n P Q a w := by
  refine wpIn_rangeFunc fun fn hfn => ?_
  let D := w.heap.size
  let r0 : Loop := { state := .ready, pending := none, fn, tmps := a.tmps, params := ps, assign, body, defers := D }
  let wD := w.alloc (.deferred (some []))
  let W := wD.alloc (.loop r0)
  have sD : wD.heap.size = D + 1 := World.size_alloc _ _
  have sW : W.heap.size = D + 2 := by rw [World.size_alloc, sD]
  have eW : Ext w W := ((Ext.refl w).alloc _).alloc _
  have atL : W.heap[D + 1]? = some (.loop r0) := by have := World.alloc_heap_new wD (.loop r0); rwa [sD] at this
  have atD : W.heap[D]? = some (.deferred (some [])) := (Below.heap_alloc _ _ _ (by omega)).trans (World.alloc_heap_new w _)
  let r1 : Loop := { r0 with state := .busy }
  let r2 : Loop := { r0 with state := .done, pending := some .ret }
  refine ⟨D + 1, [{ target := .collected D, args := #[] }], W, { target := .fn (.func gf) lb, args := #[.func (.yield (D + 1)) #[] #[]] }, W, gf,
    #[.func (.yield (D + 1)) #[] #[]] ++ lb, W, ?_, ?_, ?_, ?_, fun _ => h1, ?_⟩
  · rw [hro]; exact run_enterLoop_outer _ _ _ _ _
  · simp only [resolve, hg]; simp [go_sem]
  · intro f' hf'
    obtain rfl : gf = f' := by simpa [Target.leads] using hf'
    exact hFg
  · simp [invoke, go_sem, eg]
  refine (hseq (D + 1) (fun x V => Ix x V ∧ V.heap[D + 1]? = some (.loop r2) ∧ V.heap[D]? = some (.deferred (some []))) W eW fun x hS => ?_).mono ?_
  · -- the round
    refine ⟨fn, _, assign, body, run_yield (r := r0) atL (hps x), roundIn_of_wpIn hfn (hassign _ x W _ ⟨_, run_beginRound atL rfl, ?_⟩)⟩
    let V := W.putObj (D + 1) (.loop r1)
    have vL : V.heap[D + 1]? = some (.loop r1) := World.putObj_heap_same (by omega)
    have vD : V.heap[D]? = some (.deferred (some [])) := (World.putObj_heap_other (by omega)).trans atD
    have eV : Ext w V := eW.trans (belowK_b (w := w) (Nat.le_refl _) W (D + 1) _ _ (by omega) atL rfl rfl)
    refine wpIn_mono (hbody (D + 1) x V hS eV) ?_
    rintro e a3 V3 ⟨rfl, hk, hi⟩
    have v3 := hk.same _ _ vL rfl
    refine ⟨_, _, run_endRound (some .ret) v3, rfl, hIx _ _ _ _ _ (by omega) v3 rfl hi, World.putObj_heap_same (Array.getElem?_eq_some_iff.1 v3).1, (World.putObj_heap_other (by omega)).trans (hk.same _ _ vD rfl)⟩
  · -- behind the iterator
    rintro e V ⟨⟨v, rfl⟩, x, hS, hi, hL, hD⟩
    exact ⟨some .ret, _, run_endLoop (r := r2) hL (by simp [r2]), hstop D x _ (Nat.le_refl _) hS (hIx _ _ _ _ _ (by omega) hL rfl hi) ((World.putObj_heap_other (by omega)).trans hD)⟩
end Go.Q
/- Contracts: after (the program's, over an iterator), After (the reference's, by a loop). -/
namespace Go.Proofs.YtbcciokmlkofkaaGreat
open Go.RowKit Go.Q Go.Shelf
attribute [local go_sem] Oper.semAt_some
set_option maxHeartbeats 1000000 in
theorem passing1_once (F : Fence) (n : Nat) (hF : F.fn 111) (hro : F.round = none) (hn : 1 ≤ n) (b : Nat) (t a : Int) (w : World)
    (ht0 : 0 ≤ t) (ht1 : t ≤ 2000000000) (ha0 : 0 ≤ a) (ha1 : a ≤ 127) (hb : b + 1 < w.heap.size)
    (hc0 : w.cell? ⟨b, 0, none⟩ = some (.int .i64 t)) (hc1 : w.cell? ⟨b + 1, 0, none⟩ = some (.int .i64 a)) :
    OnceSeq F n Tryz.prog 111 #[.pointer (some ⟨b + 1, 0, none⟩), .pointer (some ⟨b, 0, none⟩)] (fun x : Int => #[.int .i64 x]) (fun x => x = Q.after t a) w := fun l Jx W hW hY => by
  have c0 : W.cell? ⟨b, 0, none⟩ = some (.int .i64 t) := (hW.cell (p := ⟨b, 0, none⟩) (by show b < _; omega)).trans hc0
  have c1 : W.cell? ⟨b + 1, 0, none⟩ = some (.int .i64 a) := (hW.cell (p := ⟨b + 1, 0, none⟩) (by show b + 1 < _; omega)).trans hc1
  obtain ⟨f1, t1, a1, b1, hy1, hR1⟩ := hY _ rfl
  have hs : Q.after t a = t + 1 + (a - t - 1) % 16 := rfl
  rw [hs] at hy1 hR1
  clear hY hc0 hc1
  refine callsIn_of_wp Tryz.func111 rfl hF ?_ hro
  simp only [Tryz.ntmps111, List.size_toArray, List.length_cons, List.length_nil, Nat.reduceAdd, Nat.reduceSub, Array.replicate_succ, Array.replicate_zero, List.push_toArray, List.append_toArray, List.nil_append, List.cons_append]
  gi_wp2
  gi_loopw [5] (fun s wr => s = .int .i64 (t + 1 + (a - t - 1) % 16) ∧ W = wr) (fun _ _ => 0)
  case atStart => exact ⟨rfl, rfl⟩
  case round =>
    obtain ⟨rfl, rfl⟩ := hrel
    gi_wp2
    refine hR1.mono ?_
    rintro e W2 ⟨rfl, hx⟩
    gi_wp2
    go_end0
    exact ⟨⟨_, rfl⟩, _, rfl, hx⟩
theorem passing_in (F : Fence) (n : Nat) (hF : F.fn 109) (hro : F.round = none) (t a : Int) (w : World) :
    CallsIn F n Tryz.prog 109 #[.int .i64 t, .int .i64 a] w fun e w' => e = .returned (.func (.func 111) #[] #[.pointer (some ⟨w.heap.size + 1, 0, none⟩), .pointer (some ⟨w.heap.size, 0, none⟩)]) ∧ (w.alloc (.cells #[.int .i64 t] 3)).alloc (.cells #[.int .i64 a] 3) = w' := by
  refine callsIn_of_wp Tryz.func109 rfl hF ?_ hro
  simp only [Tryz.ntmps109, List.size_toArray, List.length_cons, List.length_nil, Nat.reduceAdd, Nat.reduceSub, Array.replicate_succ, Array.replicate_zero, List.push_toArray, List.append_toArray, List.nil_append, List.cons_append]
  gi_wp2
  go_ret
  exact ⟨rfl, rfl⟩
set_option maxHeartbeats 1000000 in
theorem after_any (t a : Int) (w : World) (ht0 : 0 ≤ t) (ht1 : t ≤ 2000000000) (ha0 : 0 ≤ a) (ha1 : a ≤ 127) :
    Calls Tryz.prog 101 #[.int .i64 t, .int .i64 a] w fun e w' => e = .returned (.int .i64 (Q.after t a)) ∧ Ext w w' := by
  refine (callsIn_wide (n := 5)).1 ?_
  refine callsIn_of_wp_marks Tryz.func101 rfl trivial ?_ rfl
  simp only [Tryz.ntmps101, List.size_toArray, List.length_cons, List.length_nil, Nat.reduceAdd, Nat.reduceSub, Array.replicate_succ, Array.replicate_zero, List.push_toArray, List.append_toArray, List.nil_append, List.cons_append]
  gi_wp2_with (refine ⟨trivial, ?_⟩; gi_at_call 109; refine (passing_in Fence.wide _ trivial rfl _ _ _).mono ?_; rintro e w' ⟨rfl, rfl⟩)
  obtain ⟨W0, hW0⟩ : ∃ W0, ((w.alloc (.cells #[.int .i64 0] 3)).alloc (.cells #[.int .i64 t] 3)).alloc (.cells #[.int .i64 a] 3) = W0 := ⟨_, rfl⟩
  have hs0 : W0.heap.size = w.heap.size + 3 := by rw [← hW0]; simp [go_sem]
  have e0 : Ext w W0 := by rw [← hW0]; exact (((Ext.refl w).alloc _).alloc _).alloc _
  have c0 : W0.cell? ⟨w.heap.size, 0, none⟩ = some (.int .i64 0) := by rw [← hW0]; simp [go_sem]
  have f0 : W0.frozen? ⟨w.heap.size, 0, none⟩ = false := by rw [← hW0]; simp [go_sem]
  have c1 : W0.cell? ⟨w.heap.size + 1, 0, none⟩ = some (.int .i64 t) := by rw [← hW0]; simp [go_sem]
  have c2 : W0.cell? ⟨w.heap.size + 1 + 1, 0, none⟩ = some (.int .i64 a) := by rw [← hW0]; simp [go_sem]
  rw [hW0]
  clear hW0
  refine wpIn_once rfl (by decide) (gf := 111) (lb := #[.pointer (some ⟨w.heap.size + 1 + 1, 0, none⟩), .pointer (some ⟨w.heap.size + 1, 0, none⟩)]) rfl trivial (enters_of Tryz.func111 (by kernel_rfl) rfl)
    (passing1_once Fence.wide _ trivial rfl (by decide) (w.heap.size + 1) t a W0 ht0 ht1 ha0 ha1 (by omega) c1 c2) (fun _ => rfl)
    (fun x W => Ext w W ∧ W.cell? ⟨w.heap.size, 0, none⟩ = some (.int .i64 x))
    (fun x W l o o' hl h ho hs => ⟨hs.1.grown (grownBy_putObj' W l o') hs.1.size (fun k e => by cases e; omega), cell_kept hs.2 (grownBy_putObj' W l o') (fun r e => by cases e; exact ⟨o, h, ho⟩)⟩)
    (fun x => { tmps := #[.int .i64 t, .int .i64 a, undef, undef, .pointer (some ⟨w.heap.size, 0, none⟩), .int .i64 x, .int .i64 t, .int .i64 a, .func (.func 111) #[] #[.pointer (some ⟨w.heap.size + 1 + 1, 0, none⟩), .pointer (some ⟨w.heap.size + 1, 0, none⟩)], .int .i64 x, undef, undef], defers := [] }) ?assign ?body ?stop
  case assign =>
    intro l x W K hK
    gi_wp2
    exact hK
  case body =>
    intro l x W hS hW
    have d0 : W.cell? ⟨w.heap.size, 0, none⟩ = some (.int .i64 0) := (hW.cell (p := ⟨w.heap.size, 0, none⟩) (by show w.heap.size < _; omega)).trans c0
    have g0 : W.frozen? ⟨w.heap.size, 0, none⟩ = false := (hW.frozen (p := ⟨w.heap.size, 0, none⟩) (by show w.heap.size < _; omega)).trans f0
    gi_wp2
    exact ⟨KeepsOthers.setCell _ _ _, (e0.comp hW).setCell (p := ⟨w.heap.size, 0, none⟩) (Nat.le_refl _) _⟩
  case stop =>
    rintro D x W hD rfl ⟨hW, hc⟩ hK
    gi_wp2
    refine ⟨by simp, .inl ⟨_, _, rfl, run_takeDeferred hK, ?_⟩⟩
    have hc5 := cell_kept hc (grownBy_putObj' _ D (.deferred none)) (fun r e => by cases e; exact ⟨_, hK, rfl⟩)
    refine ⟨.int .i64 (Q.after t a), ?_, rfl, hW.trans (belowK_b (w := w) (Nat.le_refl _) W D _ _ (by omega) hK rfl rfl)⟩
    simp [results, Tryz.f101, go_sem, hc5]
end Go.Proofs.YtbcciokmlkofkaaGreat
/- Contracts: when (both), When (both). -/
namespace Go.Proofs.YtbcciokmlkofkaaGreat
open Go.RowKit Go.Q
theorem after_bd (t a : Int) : t + 1 ≤ Q.after t a ∧ Q.after t a ≤ t + 16 := by unfold Q.after; omega
set_option maxHeartbeats 1000000 in
theorem when_def (o a b c : Int) (t : Int) (ng : Bool) (w : World) (h5 : (o == 5) = false) (h7 : (o == 7) = false) (h6 : (o == 6) = false) (h4 : (o == 4) = false)
    (ht0 : 0 ≤ t) (ht1 : t ≤ 1000000000) (ha0 : 0 ≤ a) (ha1 : a ≤ 127) (hb0 : 0 ≤ b) (hb1 : b ≤ 127) (hc0 : 0 ≤ c) (hc1 : c ≤ 127) :
    Calls Tryz.prog 81 #[.agg #[.int .i64 o, .int .i64 a, .int .i64 b, .int .i64 c], .int .i64 t, .bool ng] w fun e w' => e = .returned (.tuple #[.int .i64 c, .int .i64 (Q.after (Q.after (Q.after t a) b) c)]) ∧ Ext w w' := by
  have b1 := after_bd t a
  have b2 := after_bd (Q.after t a) b
  go_enter Tryz.func81, Tryz.ntmps81
  go_wp2
  generalize hW : World.alloc w _ = W
  have hE : Ext w W := by rw [← hW]; exact (Ext.refl w).alloc _
  have h1 : W.cell? ⟨w.heap.size, 1, none⟩ = some (.int .i64 a) := by rw [← hW]; simp [go_sem]
  have h2 : W.cell? ⟨w.heap.size, 2, none⟩ = some (.int .i64 b) := by rw [← hW]; simp [go_sem]
  clear hW
  go_region_held3 (fun w' => Ext w w' ∧ w'.cell? ⟨w.heap.size, 1, none⟩ = some (.int .i64 a) ∧ w'.cell? ⟨w.heap.size, 2, none⟩ = some (.int .i64 b))
    (first | exact ⟨hE.drew, h1, h2⟩ | exact ⟨Ext.comp hE.drew hb', cell_later hb' h1, cell_later hb' h2⟩ | (have hh := ‹Ext w _ ∧ _ ∧ _›; exact ⟨Ext.comp hh.1 hb', cell_later hb' hh.2.1, cell_later hb' hh.2.2⟩))
    (first | (go_at_call 101; refine (after_any _ _ _ (by omega) (by omega) (by omega) (by omega)).mono ?_; rintro e w' ⟨rfl, hb'⟩))
  have E1 := (‹Ext w _ ∧ _ ∧ _›).1
  go_wp2_with (go_at_call 101; refine (after_any _ _ _ (by omega) (by omega) (by omega) (by omega)).mono ?_; rintro e w' ⟨rfl, hb'⟩)
  go_ret2
  exact ⟨rfl, E1.comp hb'⟩
set_option maxHeartbeats 1000000 in
theorem when_mul (a b c : Int) (t : Int) (ng : Bool) (w : World)
    (ht0 : 0 ≤ t) (ht1 : t ≤ 1000000000) (ha0 : 0 ≤ a) (ha1 : a ≤ 127) (hb0 : 0 ≤ b) (hb1 : b ≤ 127) (hc0 : 0 ≤ c) (hc1 : c ≤ 127) :
    Calls Tryz.prog 81 #[.agg #[.int .i64 4, .int .i64 a, .int .i64 b, .int .i64 c], .int .i64 t, .bool ng] w fun e w' => e = .returned (.tuple #[.int .i64 c, .int .i64 (Q.after (Q.after (Q.after (Q.after t a) b + 12) b) c)]) ∧ Ext w w' := by
  have b1 := after_bd t a
  have b2 := after_bd (Q.after t a) b
  have b3 := after_bd (Q.after (Q.after t a) b + 12) b
  go_enter Tryz.func81, Tryz.ntmps81
  go_wp2
  generalize hW : World.alloc w _ = W
  have hE : Ext w W := by rw [← hW]; exact (Ext.refl w).alloc _
  have h1 : W.cell? ⟨w.heap.size, 1, none⟩ = some (.int .i64 a) := by rw [← hW]; simp [go_sem]
  have h2 : W.cell? ⟨w.heap.size, 2, none⟩ = some (.int .i64 b) := by rw [← hW]; simp [go_sem]
  clear hW
  go_region_held3 (fun w' => Ext w w' ∧ w'.cell? ⟨w.heap.size, 1, none⟩ = some (.int .i64 a) ∧ w'.cell? ⟨w.heap.size, 2, none⟩ = some (.int .i64 b))
    (first | exact ⟨hE.drew, h1, h2⟩ | exact ⟨Ext.comp hE.drew hb', cell_later hb' h1, cell_later hb' h2⟩ | (have hh := ‹Ext w _ ∧ _ ∧ _›; exact ⟨Ext.comp hh.1 hb', cell_later hb' hh.2.1, cell_later hb' hh.2.2⟩))
    (first | (go_at_call 101; refine (after_any _ _ _ (by omega) (by omega) (by omega) (by omega)).mono ?_; rintro e w' ⟨rfl, hb'⟩))
  obtain ⟨E1, _, q2⟩ := ‹Ext w _ ∧ _ ∧ _›
  go_wp2_with fail
  refine (after_any _ _ _ (by omega) (by omega) (by omega) (by omega)).mono ?_
  rintro e w2 ⟨rfl, hb2⟩
  go_wp2_with fail
  refine (after_any _ _ _ (by omega) (by omega) (by omega) (by omega)).mono ?_
  rintro e w3 ⟨rfl, hb3⟩
  go_wp2
  go_ret2
  exact ⟨rfl, (E1.comp hb2).comp hb3⟩
set_option maxHeartbeats 1000000 in
theorem when_read (a b c : Int) (t : Int) (ng : Bool) (w : World)
    (ht0 : 0 ≤ t) (ht1 : t ≤ 1000000000) (hb0 : 0 ≤ b) (hb1 : b ≤ 127) (hc0 : 0 ≤ c) (hc1 : c ≤ 127) :
    Calls Tryz.prog 81 #[.agg #[.int .i64 6, .int .i64 a, .int .i64 b, .int .i64 c], .int .i64 t, .bool ng] w fun e w' => e = .returned (.tuple #[.int .i64 c, .int .i64 (Q.after (Q.after t b) c)]) ∧ Ext w w' := by
  have b2 := after_bd t b
  go_enter Tryz.func81, Tryz.ntmps81
  go_wp2_with fail
  refine (after_any _ _ _ (by omega) (by omega) (by omega) (by omega)).mono ?_
  rintro e w2 ⟨rfl, hb2⟩
  go_wp2_with fail
  refine (after_any _ _ _ (by omega) (by omega) (by omega) (by omega)).mono ?_
  rintro e w3 ⟨rfl, hb3⟩
  go_wp2
  go_ret2
  exact ⟨rfl, (((Ext.refl w).alloc _).comp hb2).comp hb3⟩
set_option maxHeartbeats 1000000 in
theorem when_print (a b c : Int) (t : Int) (ng : Bool) (w : World)
    (ht0 : 0 ≤ t) (ht1 : t ≤ 1000000000) (ha0 : 0 ≤ a) (ha1 : a ≤ 127) (hc0 : 0 ≤ c) (hc1 : c ≤ 127) :
    Calls Tryz.prog 81 #[.agg #[.int .i64 7, .int .i64 a, .int .i64 b, .int .i64 c], .int .i64 t, .bool ng] w fun e w' => e = .returned (.tuple #[.int .i64 c, .int .i64 (Q.after (Q.after t a) c)]) ∧ Ext w w' := by
  have b2 := after_bd t a
  go_enter Tryz.func81, Tryz.ntmps81
  go_wp2_with fail
  refine (after_any _ _ _ (by omega) (by omega) (by omega) (by omega)).mono ?_
  rintro e w2 ⟨rfl, hb2⟩
  go_wp2_with fail
  refine (after_any _ _ _ (by omega) (by omega) (by omega) (by omega)).mono ?_
  rintro e w3 ⟨rfl, hb3⟩
  go_wp2
  go_ret2
  exact ⟨rfl, (((Ext.refl w).alloc _).comp hb2).comp hb3⟩
set_option maxHeartbeats 1000000 in
theorem when_test (a b c : Int) (t : Int) (ng : Bool) (w : World)
    (ht0 : 0 ≤ t) (ht1 : t ≤ 1000000000) (ha0 : 0 ≤ a) (ha1 : a ≤ 127) (hb0 : 0 ≤ b) (hb1 : b ≤ 127) (hc0 : 0 ≤ c) (hc1 : c ≤ 127) :
    Calls Tryz.prog 81 #[.agg #[.int .i64 5, .int .i64 a, .int .i64 b, .int .i64 c], .int .i64 t, .bool ng] w fun e w' => e = .returned (.tuple #[.int .i64 (if ng then b else c), .int .i64 (Q.after (Q.after t a) (if ng then b else c))]) ∧ Ext w w' := by
  have b2 := after_bd t a
  cases ng
  all_goals
    go_enter Tryz.func81, Tryz.ntmps81
    go_wp2_with fail
    refine (after_any _ _ _ (by omega) (by omega) (by omega) (by omega)).mono ?_
    rintro e w2 ⟨rfl, hb2⟩
    go_wp2_with fail
    refine (after_any _ _ _ (by omega) (by omega) (by omega) (by omega)).mono ?_
    rintro e w3 ⟨rfl, hb3⟩
    go_wp2
    go_ret2
    exact ⟨rfl, (((Ext.refl w).alloc _).comp hb2).comp hb3⟩
theorem ordB_bd {o a b c : Int} (h : ordB ⟨o, a, b, c⟩ = true) : (0 ≤ o ∧ o ≤ 7) ∧ (0 ≤ a ∧ a ≤ 127) ∧ (0 ≤ b ∧ b ≤ 127) ∧ 0 ≤ c ∧ c ≤ 127 := by
  simp [ordB, inB, addrB] at h
  omega
theorem when_any (o a b c : Int) (t : Int) (ng : Bool) (w : World) (ho : ordB ⟨o, a, b, c⟩ = true) (ht0 : 0 ≤ t) (ht1 : t ≤ 1000000000) :
    Calls Tryz.prog 81 #[.agg #[.int .i64 o, .int .i64 a, .int .i64 b, .int .i64 c], .int .i64 t, .bool ng] w fun e w' => e = .returned (.tuple #[.int .i64 (whenAt ⟨o, a, b, c⟩ ng), .int .i64 (whenUntil ⟨o, a, b, c⟩ t ng)]) ∧ Ext w w' := by
  obtain ⟨⟨o0, o1⟩, ⟨a0, a1⟩, ⟨b0, b1⟩, c0, c1⟩ := ordB_bd ho
  by_cases h5 : o = 5
  · subst h5
    refine (when_test a b c t ng w ht0 ht1 a0 a1 b0 b1 c0 c1).mono fun e w' h => ?_
    cases ng <;> simpa [whenAt, whenUntil, whenEnd] using h
  by_cases h7 : o = 7
  · subst h7
    refine (when_print a b c t ng w ht0 ht1 a0 a1 c0 c1).mono fun e w' h => ?_
    simpa [whenAt, whenUntil, whenEnd] using h
  by_cases h6 : o = 6
  · subst h6
    refine (when_read a b c t ng w ht0 ht1 b0 b1 c0 c1).mono fun e w' h => ?_
    simpa [whenAt, whenUntil, whenEnd] using h
  by_cases h4 : o = 4
  · subst h4
    refine (when_mul a b c t ng w ht0 ht1 a0 a1 b0 b1 c0 c1).mono fun e w' h => ?_
    simpa [whenAt, whenUntil, whenEnd] using h
  refine (when_def o a b c t ng w (by simpa using h5) (by simpa using h7) (by simpa using h6) (by simpa using h4) ht0 ht1 a0 a1 b0 b1 c0 c1).mono fun e w' h => ?_
  simpa [whenAt, whenUntil, whenEnd, h5, h7, h6, h4] using h
end Go.Proofs.YtbcciokmlkofkaaGreat
/- Contracts: ref when, When (both), Encode, Decode, Signed (both). -/
namespace Go.Proofs.YtbcciokmlkofkaaGreat
open Go.RowKit Go.Q
set_option maxHeartbeats 1000000 in
theorem signedE_any (n : Int) (w : World) :
    Calls Tryz.prog 35 #[.int .i64 n] w fun e w' => e = .returned (.tuple #[.int .i64 (signedQ n).1, .int .i64 (signedQ n).2]) ∧ Ext w w' := by
  cases h : wordB n with
  | false =>
    have h' : inB n 0 16777215 = false := h
    go_enter Tryz.func35, Tryz.ntmps35
    go_wp2_with (go_at_call 62; refine (out_one _ n _ _ (by simp) (by simp)).mono ?_; rintro e w' ⟨rfl, hb'⟩)
    go_ret2
    exact ⟨by simp [signedQ, h], hb'.old⟩
  | true =>
    have h' : inB n 0 16777215 = true := h
    obtain ⟨h0, h1⟩ := wordB_bd h
    go_enter Tryz.func35, Tryz.ntmps35
    go_wp2_with (first | (go_at_call 62; refine (out_one _ n _ _ (by simp) (by simp)).mono ?_; rintro e w' ⟨rfl, hb'⟩) | (go_at_call 65; refine (signed_any n _ h0 h1).mono ?_; rintro e w' ⟨rfl, rfl⟩))
    go_ret2
    exact ⟨by simp [signedQ, h], hb'.old⟩
/-- an order with an error's code, as a value -/
def ovE (p : Ord × Int) : Value := .tuple #[.agg #[.int .i64 p.1.op, .int .i64 p.1.frm, .int .i64 p.1.to, .int .i64 p.1.nxt], .int .i64 p.2]
theorem ext_set4 {w w1 : World} {n : Nat} (h : Ext w w1) (hn : w.heap.size ≤ n) (a b c d : Value) (i j k l : Nat) : Ext w ((((w1.setCell ⟨n, i, none⟩ a).setCell ⟨n, j, none⟩ b).setCell ⟨n, k, none⟩ c).setCell ⟨n, l, none⟩ d) :=
  (((h.setCell (p := ⟨n, i, none⟩) hn a).setCell (p := ⟨n, j, none⟩) hn b).setCell (p := ⟨n, k, none⟩) hn c).setCell (p := ⟨n, l, none⟩) hn d
set_option maxHeartbeats 1000000 in
theorem decodeE_any (n : Int) (w : World) :
    Calls Tryz.prog 36 #[.int .i64 n] w fun e w' => e = .returned (ovE (decQ n)) ∧ Ext w w' := by
  cases h : wordB n with
  | false =>
    have h' : inB n 0 16777215 = false := h
    go_enter Tryz.func36, Tryz.ntmps36
    go_wp2_with fail
    refine (out_one _ n _ _ (by simp) (by simp)).mono ?_
    rintro e w1 ⟨rfl, hb⟩
    have q0 := box_at (v := .int .i64 0) hb.old 0 rfl
    have q1 := box_at (v := .int .i64 0) hb.old 1 rfl
    have q2 := box_at (v := .int .i64 0) hb.old 2 rfl
    have q3 := box_at (v := .int .i64 0) hb.old 3 rfl
    have f0 := box_free hb.old 0
    have f1 := box_free hb.old 1
    have f2 := box_free hb.old 2
    have f3 := box_free hb.old 3
    go_wp2
    exact bodyPost_ret (v := .tuple #[.agg #[.int .i64 0, .int .i64 0, .int .i64 0, .int .i64 0], .int .i64 7]) (by simp [results, Tryz.results36, go_sem, q0, q1, q2, q3]) rfl ⟨by simp [decQ, h, ovE], ext_set4 hb.old.old (Nat.le_refl _) _ _ _ _ _ _ _ _⟩
  | true =>
    have h' : inB n 0 16777215 = true := h
    obtain ⟨h0, h1⟩ := wordB_bd h
    have e : decQ n = (decodeQ n, 0) := by simp [decQ, h]
    rw [e]
    have hd := fun W => decode_any n W h0
    generalize decodeQ n = o at hd ⊢
    go_enter Tryz.func36, Tryz.ntmps36
    go_wp2_with fail
    refine (out_one _ n _ _ (by simp) (by simp)).mono ?_
    rintro e w1 ⟨rfl, hb⟩
    go_wp2_with fail
    refine (hd _).mono ?_
    rintro e w2 ⟨rfl, hb2⟩
    have hb3 := hb.comp hb2
    have q0 := box_at (v := .int .i64 0) hb3.old 0 rfl
    have q1 := box_at (v := .int .i64 0) hb3.old 1 rfl
    have q2 := box_at (v := .int .i64 0) hb3.old 2 rfl
    have q3 := box_at (v := .int .i64 0) hb3.old 3 rfl
    have f0 := box_free hb3.old 0
    have f1 := box_free hb3.old 1
    have f2 := box_free hb3.old 2
    have f3 := box_free hb3.old 3
    go_wp2
    exact bodyPost_ret (v := ovE (o, 0)) (by simp [results, Tryz.results36, go_sem, q0, q1, q2, q3, ovE]) rfl ⟨rfl, ext_set4 hb3.old.old (Nat.le_refl _) _ _ _ _ _ _ _ _⟩
end Go.Proofs.YtbcciokmlkofkaaGreat
/- Contracts: When (both). -/
namespace Go.Proofs.YtbcciokmlkofkaaGreat
open Go.RowKit Go.Q
/-- three numbers as the results of a call -/
def v3 (p : Int × Int × Int) : Value := .tuple #[.int .i64 p.1, .int .i64 p.2.1, .int .i64 p.2.2]
end Go.Proofs.YtbcciokmlkofkaaGreat

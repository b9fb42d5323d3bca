import Derived.WalkKit
import Derived.RangeFuncFrom
import Derived.RangeFuncNested
import Derived.RangeFuncBound
import Derived.RangeFuncCalls
import Derived.RangeFuncLeaves
import Derived.Shelf.Abstract
import Derived.Shelf.RegionOpen
import Derived.OwnWalkIn
import Derived.TacticsInMore
import Derived.LoopNIn
import Derived.LoopIn
import Derived.Deep.RegionHeld3
import Derived.Deep.DeepCutAuto
import Derived.Deep.RegionLaw
import Derived.BigRegion
import Derived.StillTailTactics
import Derived.Deep.AppendLies
import Derived.ScopeJumps
import Derived.Deep.LoopGhost
import Derived.Outline
import Derived.Test.YtjfggepgjpdebaaML0
import Derived.Test.YtjfggepgjpdebaaMX2
set_option linter.unusedVariables false
set_option linter.unusedSimpArgs false
/- Layer 4 (order) in plain Lean: what the functions compute; no program in sight. -/
namespace Go.Q
def whenAt (o : Ord) (neg : Bool) : Int := if o.op = 5 ∧ neg = true then o.to else o.nxt
def whenEnd (o : Ord) (t : Int) : Int :=
  if o.op = 5 ∨ o.op = 7 then after t o.frm
  else if o.op = 6 then after t o.to
  else if o.op = 4 then after (after (after t o.frm) o.to + 12) o.to
  else after (after t o.frm) o.to
def whenUntil (o : Ord) (t : Int) (neg : Bool) : Int := after (whenEnd o t) (whenAt o neg)
def prod (a b : Int) : Int := (sgn a * sgn b / 8388608) % 16777216
end Go.Q
/- A range over a function whose body leaves by a return in its first round: one law for the caller, one word for the iterator. -/
namespace Go.Q
open Go.RowKit Go.Shelf
variable {F : Fence} {n : Nat} {P : Program}
/-- the iterator calls yield once, at some x of S, and goes on no further when the answer is no -/
def OnceSeq {α : Type} (F : Fence) (n : Nat) (P : Program) (g : Nat) (lb : Array Value) (encs : α → Array Value) (S : α → Prop) (w0 : World) : Prop :=
  ∀ (l : Nat) (Jx : α → World → Prop) (W : World), Below w0.heap.size w0 W →
    (∀ x, S x → YieldAt F (n - 1) P l (encs x) W fun e W' => e = .returned (.bool false) ∧ Jx x W') →
    CallsIn F n P g (#[.func (.yield l) #[] #[]] ++ lb) W fun e W' => (∃ v, e = .returned v) ∧ ∃ x, S x ∧ Jx x W'
theorem wpIn_once {α : Type} {g : Operand} {ps : Array Tmp} {assign body : Code} {Q : Exit → Act → World → Prop} {a : Act} {w : World}
    (hro : F.round = none) (h1 : 1 ≤ n) {gf : Nat} {lb : Array Value} (hg : a.eval g = .func (.func gf) #[] lb) (hFg : F.fn gf) (eg : ∀ args w, (callFunc gf args).run P w = .ok (.enter gf args) w)
    {encs : α → Array Value} {S : α → Prop} (hseq : OnceSeq F (n - 1) P gf lb encs S w) (hps : ∀ x, (encs x).size = ps.size)
    (Ix : α → World → Prop) (hIx : ∀ x W l o o', w.heap.size ≤ l → W.heap[l]? = some o → o.isCells = false → Ix x W → Ix x (W.putObj l o'))
    (a₁ : α → Act)
    (hassign : ∀ (l : Nat) (x : α) (W : World) (K : Act → World → Prop), K (a₁ x) W →
      assign.wpIn (F.inRound l) (n - 1 - 1) P (Exit.then K (fun _ _ _ => False)) { tmps := (ps.zip (encs x)).foldl (fun t (p, v) => t.setIfInBounds p v) a.tmps, defers := [] } W)
    (hbody : ∀ (l : Nat) (x : α) (W : World), S x → Ext w W →
      body.wpIn (F.inRound l) (n - 1 - 1) P (fun e _ W' => e = .ret ∧ KeepsOthers W W' ∧ Ix x W') (a₁ x) W)
    (hstop : ∀ (D : Nat) (x : α) (W : World), w.heap.size ≤ D → S x → Ix x W → W.heap[D]? = some (.deferred (some [])) →
      Code.ret.wpIn F n P Q { a with defers := { target := .collected D, args := #[] } :: a.defers } W) :
    (Code.rangeFunc g ps assign body).wpIn F n P Q a w := by
  refine wpIn_rangeFunc fun fn hfn => ?_
  let D := w.heap.size
  let r0 : Loop := { state := .ready, pending := none, fn, tmps := a.tmps, params := ps, assign, body, defers := D }
  let wD := w.alloc (.deferred (some []))
  let W := wD.alloc (.loop r0)
  have sD : wD.heap.size = D + 1 := World.size_alloc _ _
  have sW : W.heap.size = D + 2 := by rw [World.size_alloc, sD]
  have eW : Ext w W := ((Ext.refl w).alloc _).alloc _
  have atL : W.heap[D + 1]? = some (.loop r0) := by have := World.alloc_heap_new wD (.loop r0); rwa [sD] at this
  have atD : W.heap[D]? = some (.deferred (some [])) := (Below.heap_alloc _ _ _ (by omega)).trans (World.alloc_heap_new w _)
  let r1 : Loop := { r0 with state := .busy }
  let r2 : Loop := { r0 with state := .done, pending := some .ret }
  refine ⟨D + 1, [{ target := .collected D, args := #[] }], W, { target := .fn (.func gf) lb, args := #[.func (.yield (D + 1)) #[] #[]] }, W, gf,
    #[.func (.yield (D + 1)) #[] #[]] ++ lb, W, ?_, ?_, ?_, ?_, fun _ => h1, ?_⟩
  · rw [hro]; exact run_enterLoop_outer _ _ _ _ _
  · simp only [resolve, hg]; simp [go_sem]
  · intro f' hf'
    obtain rfl : gf = f' := by simpa [Target.leads] using hf'
    exact hFg
  · simp [invoke, go_sem, eg]
  refine (hseq (D + 1) (fun x V => Ix x V ∧ V.heap[D + 1]? = some (.loop r2) ∧ V.heap[D]? = some (.deferred (some []))) W eW fun x hS => ?_).mono ?_
  · -- the round
    refine ⟨fn, _, assign, body, run_yield (r := r0) atL (hps x), roundIn_of_wpIn hfn (hassign _ x W _ ⟨_, run_beginRound atL rfl, ?_⟩)⟩
    let V := W.putObj (D + 1) (.loop r1)
    have vL : V.heap[D + 1]? = some (.loop r1) := World.putObj_heap_same (by omega)
    have vD : V.heap[D]? = some (.deferred (some [])) := (World.putObj_heap_other (by omega)).trans atD
    have eV : Ext w V := eW.trans (belowK_b (w := w) (Nat.le_refl _) W (D + 1) _ _ (by omega) atL rfl rfl)
    refine wpIn_mono (hbody (D + 1) x V hS eV) ?_
    rintro e a3 V3 ⟨rfl, hk, hi⟩
    have v3 := hk.same _ _ vL rfl
    refine ⟨_, _, run_endRound (some .ret) v3, rfl, hIx _ _ _ _ _ (by omega) v3 rfl hi, World.putObj_heap_same (Array.getElem?_eq_some_iff.1 v3).1, (World.putObj_heap_other (by omega)).trans (hk.same _ _ vD rfl)⟩
  · -- behind the iterator
    rintro e V ⟨⟨v, rfl⟩, x, hS, hi, hL, hD⟩
    exact ⟨some .ret, _, run_endLoop (r := r2) hL (by simp [r2]), hstop D x _ (Nat.le_refl _) hS (hIx _ _ _ _ _ (by omega) hL rfl hi) ((World.putObj_heap_other (by omega)).trans hD)⟩
end Go.Q
/- Contracts: after (the program's, over an iterator), After (the reference's, by a loop). -/
namespace Go.Proofs.Ytjfggepgjpdebaa
open Go.RowKit Go.Q Go.Shelf
attribute [local go_sem] Oper.semAt_some
set_option maxHeartbeats 1000000 in
theorem passing1_once (F : Fence) (n : Nat) (hF : F.fn 138) (hro : F.round = none) (hn : 1 ≤ n) (b : Nat) (t a : Int) (w : World)
    (ht0 : 0 ≤ t) (ht1 : t ≤ 2000000000) (ha0 : 0 ≤ a) (ha1 : a ≤ 127) (hb : b + 1 < w.heap.size)
    (hc0 : w.cell? ⟨b, 0, none⟩ = some (.int .i64 t)) (hc1 : w.cell? ⟨b + 1, 0, none⟩ = some (.int .i64 a)) :
    OnceSeq F n Try.prog 138 #[.pointer (some ⟨b + 1, 0, none⟩), .pointer (some ⟨b, 0, none⟩)] (fun x : Int => #[.int .i64 x]) (fun x => x = Q.after t a) w := fun l Jx W hW hY => by
  have c0 : W.cell? ⟨b, 0, none⟩ = some (.int .i64 t) := (hW.cell (p := ⟨b, 0, none⟩) (by show b < _; omega)).trans hc0
  have c1 : W.cell? ⟨b + 1, 0, none⟩ = some (.int .i64 a) := (hW.cell (p := ⟨b + 1, 0, none⟩) (by show b + 1 < _; omega)).trans hc1
  obtain ⟨f1, t1, a1, b1, hy1, hR1⟩ := hY _ rfl
  have hs : Q.after t a = t + 1 + (a - t - 1) % 16 := rfl
  rw [hs] at hy1 hR1
  clear hY hc0 hc1
  refine callsIn_of_wp Try.func138 rfl hF ?_ hro
  simp only [Try.ntmps138, List.size_toArray, List.length_cons, List.length_nil, Nat.reduceAdd, Nat.reduceSub, Array.replicate_succ, Array.replicate_zero, List.push_toArray, List.append_toArray, List.nil_append, List.cons_append]
  gi_wp2
  gi_loopw [5] (fun s wr => s = .int .i64 (t + 1 + (a - t - 1) % 16) ∧ W = wr) (fun _ _ => 0)
  case atStart => exact ⟨rfl, rfl⟩
  case round =>
    obtain ⟨rfl, rfl⟩ := hrel
    gi_wp2
    refine hR1.mono ?_
    rintro e W2 ⟨rfl, hx⟩
    gi_wp2
    go_end0
    exact ⟨⟨_, rfl⟩, _, rfl, hx⟩
theorem passing_in (F : Fence) (n : Nat) (hF : F.fn 122) (hro : F.round = none) (t a : Int) (w : World) :
    CallsIn F n Try.prog 122 #[.int .i64 t, .int .i64 a] w fun e w' => e = .returned (.func (.func 138) #[] #[.pointer (some ⟨w.heap.size + 1, 0, none⟩), .pointer (some ⟨w.heap.size, 0, none⟩)]) ∧ (w.alloc (.cells #[.int .i64 t] 3)).alloc (.cells #[.int .i64 a] 3) = w' := by
  refine callsIn_of_wp Try.func122 rfl hF ?_ hro
  simp only [Try.ntmps122, List.size_toArray, List.length_cons, List.length_nil, Nat.reduceAdd, Nat.reduceSub, Array.replicate_succ, Array.replicate_zero, List.push_toArray, List.append_toArray, List.nil_append, List.cons_append]
  gi_wp2
  go_ret
  exact ⟨rfl, rfl⟩
set_option maxHeartbeats 1000000 in
theorem after_any (t a : Int) (w : World) (ht0 : 0 ≤ t) (ht1 : t ≤ 2000000000) (ha0 : 0 ≤ a) (ha1 : a ≤ 127) :
    Calls Try.prog 92 #[.int .i64 t, .int .i64 a] w fun e w' => e = .returned (.int .i64 (Q.after t a)) ∧ Ext w w' := by
  refine (callsIn_wide (n := 5)).1 ?_
  refine callsIn_of_wp_marks Try.func92 rfl trivial ?_ rfl
  simp only [Try.ntmps92, List.size_toArray, List.length_cons, List.length_nil, Nat.reduceAdd, Nat.reduceSub, Array.replicate_succ, Array.replicate_zero, List.push_toArray, List.append_toArray, List.nil_append, List.cons_append]
  gi_wp2_with (refine ⟨trivial, ?_⟩; gi_at_call 122; refine (passing_in Fence.wide _ trivial rfl _ _ _).mono ?_; rintro e w' ⟨rfl, rfl⟩)
  obtain ⟨W0, hW0⟩ : ∃ W0, ((w.alloc (.cells #[.int .i64 0] 3)).alloc (.cells #[.int .i64 t] 3)).alloc (.cells #[.int .i64 a] 3) = W0 := ⟨_, rfl⟩
  have hs0 : W0.heap.size = w.heap.size + 3 := by rw [← hW0]; simp [go_sem]
  have e0 : Ext w W0 := by rw [← hW0]; exact (((Ext.refl w).alloc _).alloc _).alloc _
  have c0 : W0.cell? ⟨w.heap.size, 0, none⟩ = some (.int .i64 0) := by rw [← hW0]; simp [go_sem]
  have f0 : W0.frozen? ⟨w.heap.size, 0, none⟩ = false := by rw [← hW0]; simp [go_sem]
  have c1 : W0.cell? ⟨w.heap.size + 1, 0, none⟩ = some (.int .i64 t) := by rw [← hW0]; simp [go_sem]
  have c2 : W0.cell? ⟨w.heap.size + 1 + 1, 0, none⟩ = some (.int .i64 a) := by rw [← hW0]; simp [go_sem]
  rw [hW0]
  clear hW0
  refine wpIn_once rfl (by decide) (gf := 138) (lb := #[.pointer (some ⟨w.heap.size + 1 + 1, 0, none⟩), .pointer (some ⟨w.heap.size + 1, 0, none⟩)]) rfl trivial (enters_of Try.func138 (by kernel_rfl) rfl)
    (passing1_once Fence.wide _ trivial rfl (by decide) (w.heap.size + 1) t a W0 ht0 ht1 ha0 ha1 (by omega) c1 c2) (fun _ => rfl)
    (fun x W => Ext w W ∧ W.cell? ⟨w.heap.size, 0, none⟩ = some (.int .i64 x))
    (fun x W l o o' hl h ho hs => ⟨hs.1.grown (grownBy_putObj' W l o') hs.1.size (fun k e => by cases e; omega), cell_kept hs.2 (grownBy_putObj' W l o') (fun r e => by cases e; exact ⟨o, h, ho⟩)⟩)
    (fun x => { tmps := #[.int .i64 t, .int .i64 a, undef, undef, .pointer (some ⟨w.heap.size, 0, none⟩), .int .i64 x, .int .i64 t, .int .i64 a, .func (.func 138) #[] #[.pointer (some ⟨w.heap.size + 1 + 1, 0, none⟩), .pointer (some ⟨w.heap.size + 1, 0, none⟩)], .int .i64 x, undef, undef], defers := [] }) ?assign ?body ?stop
  case assign =>
    intro l x W K hK
    gi_wp2
    exact hK
  case body =>
    intro l x W hS hW
    have d0 : W.cell? ⟨w.heap.size, 0, none⟩ = some (.int .i64 0) := (hW.cell (p := ⟨w.heap.size, 0, none⟩) (by show w.heap.size < _; omega)).trans c0
    have g0 : W.frozen? ⟨w.heap.size, 0, none⟩ = false := (hW.frozen (p := ⟨w.heap.size, 0, none⟩) (by show w.heap.size < _; omega)).trans f0
    gi_wp2
    exact ⟨KeepsOthers.setCell _ _ _, (e0.comp hW).setCell (p := ⟨w.heap.size, 0, none⟩) (Nat.le_refl _) _⟩
  case stop =>
    rintro D x W hD rfl ⟨hW, hc⟩ hK
    gi_wp2
    refine ⟨by simp, .inl ⟨_, _, rfl, run_takeDeferred hK, ?_⟩⟩
    have hc5 := cell_kept hc (grownBy_putObj' _ D (.deferred none)) (fun r e => by cases e; exact ⟨_, hK, rfl⟩)
    refine ⟨.int .i64 (Q.after t a), ?_, rfl, hW.trans (belowK_b (w := w) (Nat.le_refl _) W D _ _ (by omega) hK rfl rfl)⟩
    simp [results, Try.f92, go_sem, hc5]
end Go.Proofs.Ytjfggepgjpdebaa
/- Contracts: when (both), When (both). -/
namespace Go.Proofs.Ytjfggepgjpdebaa
open Go.RowKit Go.Q
theorem after_bd (t a : Int) : t + 1 ≤ Q.after t a ∧ Q.after t a ≤ t + 16 := by unfold Q.after; omega
set_option maxHeartbeats 1000000 in
theorem when_def (o a b c : Int) (t : Int) (ng : Bool) (w : World) (h5 : (o == 5) = false) (h7 : (o == 7) = false) (h6 : (o == 6) = false) (h4 : (o == 4) = false)
    (ht0 : 0 ≤ t) (ht1 : t ≤ 1000000000) (ha0 : 0 ≤ a) (ha1 : a ≤ 127) (hb0 : 0 ≤ b) (hb1 : b ≤ 127) (hc0 : 0 ≤ c) (hc1 : c ≤ 127) :
    Calls Try.prog 63 #[.agg #[.int .i64 o, .int .i64 a, .int .i64 b, .int .i64 c], .int .i64 t, .bool ng] w fun e w' => e = .returned (.tuple #[.int .i64 c, .int .i64 (Q.after (Q.after (Q.after t a) b) c)]) ∧ Ext w w' := by
  have b1 := after_bd t a
  have b2 := after_bd (Q.after t a) b
  go_enter Try.func63, Try.ntmps63
  go_wp2
  generalize hW : World.alloc w _ = W
  have hE : Ext w W := by rw [← hW]; exact (Ext.refl w).alloc _
  have h1 : W.cell? ⟨w.heap.size, 1, none⟩ = some (.int .i64 a) := by rw [← hW]; simp [go_sem]
  have h2 : W.cell? ⟨w.heap.size, 2, none⟩ = some (.int .i64 b) := by rw [← hW]; simp [go_sem]
  clear hW
  go_region_held3 (fun w' => Ext w w' ∧ w'.cell? ⟨w.heap.size, 1, none⟩ = some (.int .i64 a) ∧ w'.cell? ⟨w.heap.size, 2, none⟩ = some (.int .i64 b))
    (first | exact ⟨hE.drew, h1, h2⟩ | exact ⟨Ext.comp hE.drew hb', cell_later hb' h1, cell_later hb' h2⟩ | (have hh := ‹Ext w _ ∧ _ ∧ _›; exact ⟨Ext.comp hh.1 hb', cell_later hb' hh.2.1, cell_later hb' hh.2.2⟩))
    (first | (go_at_call 92; refine (after_any _ _ _ (by omega) (by omega) (by omega) (by omega)).mono ?_; rintro e w' ⟨rfl, hb'⟩))
  have E1 := (‹Ext w _ ∧ _ ∧ _›).1
  go_wp2_with (go_at_call 92; refine (after_any _ _ _ (by omega) (by omega) (by omega) (by omega)).mono ?_; rintro e w' ⟨rfl, hb'⟩)
  go_ret2
  exact ⟨rfl, E1.comp hb'⟩
set_option maxHeartbeats 1000000 in
theorem when_mul (a b c : Int) (t : Int) (ng : Bool) (w : World)
    (ht0 : 0 ≤ t) (ht1 : t ≤ 1000000000) (ha0 : 0 ≤ a) (ha1 : a ≤ 127) (hb0 : 0 ≤ b) (hb1 : b ≤ 127) (hc0 : 0 ≤ c) (hc1 : c ≤ 127) :
    Calls Try.prog 63 #[.agg #[.int .i64 4, .int .i64 a, .int .i64 b, .int .i64 c], .int .i64 t, .bool ng] w fun e w' => e = .returned (.tuple #[.int .i64 c, .int .i64 (Q.after (Q.after (Q.after (Q.after t a) b + 12) b) c)]) ∧ Ext w w' := by
  have b1 := after_bd t a
  have b2 := after_bd (Q.after t a) b
  have b3 := after_bd (Q.after (Q.after t a) b + 12) b
  go_enter Try.func63, Try.ntmps63
  go_wp2
  generalize hW : World.alloc w _ = W
  have hE : Ext w W := by rw [← hW]; exact (Ext.refl w).alloc _
  have h1 : W.cell? ⟨w.heap.size, 1, none⟩ = some (.int .i64 a) := by rw [← hW]; simp [go_sem]
  have h2 : W.cell? ⟨w.heap.size, 2, none⟩ = some (.int .i64 b) := by rw [← hW]; simp [go_sem]
  clear hW
  go_region_held3 (fun w' => Ext w w' ∧ w'.cell? ⟨w.heap.size, 1, none⟩ = some (.int .i64 a) ∧ w'.cell? ⟨w.heap.size, 2, none⟩ = some (.int .i64 b))
    (first | exact ⟨hE.drew, h1, h2⟩ | exact ⟨Ext.comp hE.drew hb', cell_later hb' h1, cell_later hb' h2⟩ | (have hh := ‹Ext w _ ∧ _ ∧ _›; exact ⟨Ext.comp hh.1 hb', cell_later hb' hh.2.1, cell_later hb' hh.2.2⟩))
    (first | (go_at_call 92; refine (after_any _ _ _ (by omega) (by omega) (by omega) (by omega)).mono ?_; rintro e w' ⟨rfl, hb'⟩))
  obtain ⟨E1, _, q2⟩ := ‹Ext w _ ∧ _ ∧ _›
  go_wp2_with fail
  refine (after_any _ _ _ (by omega) (by omega) (by omega) (by omega)).mono ?_
  rintro e w2 ⟨rfl, hb2⟩
  go_wp2_with fail
  refine (after_any _ _ _ (by omega) (by omega) (by omega) (by omega)).mono ?_
  rintro e w3 ⟨rfl, hb3⟩
  go_wp2
  go_ret2
  exact ⟨rfl, (E1.comp hb2).comp hb3⟩
set_option maxHeartbeats 1000000 in
theorem when_read (a b c : Int) (t : Int) (ng : Bool) (w : World)
    (ht0 : 0 ≤ t) (ht1 : t ≤ 1000000000) (hb0 : 0 ≤ b) (hb1 : b ≤ 127) (hc0 : 0 ≤ c) (hc1 : c ≤ 127) :
    Calls Try.prog 63 #[.agg #[.int .i64 6, .int .i64 a, .int .i64 b, .int .i64 c], .int .i64 t, .bool ng] w fun e w' => e = .returned (.tuple #[.int .i64 c, .int .i64 (Q.after (Q.after t b) c)]) ∧ Ext w w' := by
  have b2 := after_bd t b
  go_enter Try.func63, Try.ntmps63
  go_wp2_with fail
  refine (after_any _ _ _ (by omega) (by omega) (by omega) (by omega)).mono ?_
  rintro e w2 ⟨rfl, hb2⟩
  go_wp2_with fail
  refine (after_any _ _ _ (by omega) (by omega) (by omega) (by omega)).mono ?_
  rintro e w3 ⟨rfl, hb3⟩
  go_wp2
  go_ret2
  exact ⟨rfl, (((Ext.refl w).alloc _).comp hb2).comp hb3⟩
set_option maxHeartbeats 1000000 in
theorem when_print (a b c : Int) (t : Int) (ng : Bool) (w : World)
    (ht0 : 0 ≤ t) (ht1 : t ≤ 1000000000) (ha0 : 0 ≤ a) (ha1 : a ≤ 127) (hc0 : 0 ≤ c) (hc1 : c ≤ 127) :
    Calls Try.prog 63 #[.agg #[.int .i64 7, .int .i64 a, .int .i64 b, .int .i64 c], .int .i64 t, .bool ng] w fun e w' => e = .returned (.tuple #[.int .i64 c, .int .i64 (Q.after (Q.after t a) c)]) ∧ Ext w w' := by
  have b2 := after_bd t a
  go_enter Try.func63, Try.ntmps63
  go_wp2_with fail
  refine (after_any _ _ _ (by omega) (by omega) (by omega) (by omega)).mono ?_
  rintro e w2 ⟨rfl, hb2⟩
  go_wp2_with fail
  refine (after_any _ _ _ (by omega) (by omega) (by omega) (by omega)).mono ?_
  rintro e w3 ⟨rfl, hb3⟩
  go_wp2
  go_ret2
  exact ⟨rfl, (((Ext.refl w).alloc _).comp hb2).comp hb3⟩
set_option maxHeartbeats 1000000 in
theorem when_test (a b c : Int) (t : Int) (ng : Bool) (w : World)
    (ht0 : 0 ≤ t) (ht1 : t ≤ 1000000000) (ha0 : 0 ≤ a) (ha1 : a ≤ 127) (hb0 : 0 ≤ b) (hb1 : b ≤ 127) (hc0 : 0 ≤ c) (hc1 : c ≤ 127) :
    Calls Try.prog 63 #[.agg #[.int .i64 5, .int .i64 a, .int .i64 b, .int .i64 c], .int .i64 t, .bool ng] w fun e w' => e = .returned (.tuple #[.int .i64 (if ng then b else c), .int .i64 (Q.after (Q.after t a) (if ng then b else c))]) ∧ Ext w w' := by
  have b2 := after_bd t a
  cases ng
  all_goals
    go_enter Try.func63, Try.ntmps63
    go_wp2_with fail
    refine (after_any _ _ _ (by omega) (by omega) (by omega) (by omega)).mono ?_
    rintro e w2 ⟨rfl, hb2⟩
    go_wp2_with fail
    refine (after_any _ _ _ (by omega) (by omega) (by omega) (by omega)).mono ?_
    rintro e w3 ⟨rfl, hb3⟩
    go_wp2
    go_ret2
    exact ⟨rfl, (((Ext.refl w).alloc _).comp hb2).comp hb3⟩
theorem ordB_bd {o a b c : Int} (h : ordB ⟨o, a, b, c⟩ = true) : (0 ≤ o ∧ o ≤ 7) ∧ (0 ≤ a ∧ a ≤ 127) ∧ (0 ≤ b ∧ b ≤ 127) ∧ 0 ≤ c ∧ c ≤ 127 := by
  simp [ordB, inB, addrB] at h
  omega
theorem when_any (o a b c : Int) (t : Int) (ng : Bool) (w : World) (ho : ordB ⟨o, a, b, c⟩ = true) (ht0 : 0 ≤ t) (ht1 : t ≤ 1000000000) :
    Calls Try.prog 63 #[.agg #[.int .i64 o, .int .i64 a, .int .i64 b, .int .i64 c], .int .i64 t, .bool ng] w fun e w' => e = .returned (.tuple #[.int .i64 (whenAt ⟨o, a, b, c⟩ ng), .int .i64 (whenUntil ⟨o, a, b, c⟩ t ng)]) ∧ Ext w w' := by
  obtain ⟨⟨o0, o1⟩, ⟨a0, a1⟩, ⟨b0, b1⟩, c0, c1⟩ := ordB_bd ho
  by_cases h5 : o = 5
  · subst h5
    refine (when_test a b c t ng w ht0 ht1 a0 a1 b0 b1 c0 c1).mono fun e w' h => ?_
    cases ng <;> simpa [whenAt, whenUntil, whenEnd] using h
  by_cases h7 : o = 7
  · subst h7
    refine (when_print a b c t ng w ht0 ht1 a0 a1 c0 c1).mono fun e w' h => ?_
    simpa [whenAt, whenUntil, whenEnd] using h
  by_cases h6 : o = 6
  · subst h6
    refine (when_read a b c t ng w ht0 ht1 b0 b1 c0 c1).mono fun e w' h => ?_
    simpa [whenAt, whenUntil, whenEnd] using h
  by_cases h4 : o = 4
  · subst h4
    refine (when_mul a b c t ng w ht0 ht1 a0 a1 b0 b1 c0 c1).mono fun e w' h => ?_
    simpa [whenAt, whenUntil, whenEnd] using h
  refine (when_def o a b c t ng w (by simpa using h5) (by simpa using h7) (by simpa using h6) (by simpa using h4) ht0 ht1 a0 a1 b0 b1 c0 c1).mono fun e w' h => ?_
  simpa [whenAt, whenUntil, whenEnd, h5, h7, h6, h4] using h
end Go.Proofs.Ytjfggepgjpdebaa
/- Layer 4 in plain Lean, on: a state's check; an order; a run. -/
namespace Go.Q
end Go.Q
namespace Go.Q
open Go.RowKit
/-- the words that an order comes to -/
def wordAt (s : St) (i : Int) : Int := s.store[i.toNat]?.getD 0
def ordAt (s : St) : Ord := decodeQ (wordAt s s.at_)
def negAt (s : St) : Bool := decide (sgn (wordAt s (ordAt s).frm) < 0)
def untilAt (s : St) : Int := whenUntil (ordAt s) s.time (negAt s)
/-- what an order does to the store, the tape and the paper -/
def doQ (s : St) (o : Ord) : St :=
  let a := wordAt s o.frm
  let b := wordAt s o.to
  if o.op = 1 then { s with store := s.store.set o.to.toNat a }
  else if o.op = 2 then { s with store := s.store.set o.to.toNat ((b + a) % 16777216) }
  else if o.op = 3 then { s with store := s.store.set o.to.toNat ((b - a) % 16777216) }
  else if o.op = 4 then { s with store := s.store.set o.to.toNat (prod a b) }
  else if o.op = 6 then { s with store := s.store.set o.to.toNat (s.tape[s.taken.toNat]?.getD 0), taken := s.taken + 1 }
  else if o.op = 7 then { s with printed := s.printed ++ [a] }
  else s
def whyAt (s : St) : Int :=
  if (ordAt s).op = 0 then 1
  else if (ordAt s).op = 6 ∧ s.taken = s.tape.length then 2
  else if (ordAt s).op = 7 ∧ s.printed.length = 200 then 3
  else if 1000000000 < untilAt s then 4
  else 0
/-- a state that has not ended, after an order, or at its end -/
def stepQ (s : St) : St :=
  if whyAt s = 0 then { doQ s (ordAt s) with at_ := whenAt (ordAt s) (negAt s), time := untilAt s, done := s.done + 1 }
  else { s with why := whyAt s }
theorem Valid.word {s : St} (h : Valid s) (i : Int) (h0 : 0 ≤ i) (h1 : i ≤ 127) : 0 ≤ wordAt s i ∧ wordAt s i ≤ 16777215 :=
  mem_get (by have := h.len; omega) h.ws
theorem Valid.ord {s : St} (h : Valid s) : ordB (ordAt s) = true := by
  have := h.word s.at_ h.at_.1 h.at_.2
  exact ordB_decode this.1 this.2
end Go.Q
/- Contracts: slices.Clone, machine.from, machine.to. -/
namespace Go.Proofs.Ytjfggepgjpdebaa
open Go.RowKit Go.Q
theorem ownsRow_fresh (w : World) (t : TypeId) : (w.alloc (.cells #[] t)).ownsRow w.heap.size t 1 (.slice (some ⟨w.heap.size, 0, none⟩) 0 0) 0 [] :=
  ⟨rfl, .inr ⟨w.heap.size, 0, #[], rfl, Nat.le_refl _, by show (w.heap.push _)[w.heap.size]? = _; simp, Nat.le_refl _, by simp [maxLen], rfl, rfl⟩⟩
set_option maxHeartbeats 1000000 in
theorem clone_nil (n cap : Nat) (w : World) : Calls Try.prog 52 #[.slice none n cap] w fun e w' => e = .returned (.slice none 0 0) ∧ w = w' := by
  have hnil := fun (W : World) => Lib.run_eql_slice_nil (P := Try.prog) W 22 3 none n cap 0 0 Try.underlying22
  go_enter Try.func52, Try.ntmps52
  go_wp2
  go_ret
  exact ⟨rfl, rfl⟩
set_option maxHeartbeats 1000000 in
theorem clone_some (ad : Addr) (n cap : Nat) (xs : List Int) (w : World) (hn : xs.length = n) (hbig : n ≤ 17592186044416)
    (hI : ∀ j u, (iv xs)[j]? = some u → w.cell? (ad.add j) = some u) :
    Calls Try.prog 52 #[.slice (some ad) n cap] w (OwnRes n xs w) := by
  obtain ⟨i0, hi, hz0, hz1, hz2⟩ := info_parts Try.infoE
  have hnil := fun (W : World) => Lib.run_eql_slice_nil (P := Try.prog) W 22 3 (some ad) n cap 0 0 Try.underlying22
  go_enter Try.func52, Try.ntmps52
  go_wp2_with (at_builtin; refine wpList_append_own _ rfl _ _ 22 rfl w.heap.size 3 i0 (.int .i64 0) 1 8 Try.underlying22 hi hz0 hz1 hz2 rfl (by decide) _ 0 [] rfl (ownsRow_fresh w 3) ad n cap (iv xs) rfl ?c1 ?c2 (iv_one xs) ?c3 ?c4 ?c5 ?_)
  case c1 => simp [iv_length, hn]
  case c2 => exact fun j u hu => cell_later ((Ext.refl w).alloc _) (hI j u hu)
  case c3 => unfold maxLen; omega
  case c4 => omega
  case c5 => simp
  intro v' w1 hown' hgrow _
  have hx : Ext w w1 := ((Ext.refl w).alloc _).grown hgrow (by simp) (fun k e => by simp [Value.ownBlock] at e; omega)
  obtain ⟨a', c', hv'⟩ : ∃ a' c', v' = .slice a' n c' := by
    obtain ⟨a', c', h⟩ := own_form hown'
    exact ⟨a', c', by simpa using h⟩
  rw [hv'] at hown' ⊢
  clear hI hgrow hv'
  go_wp2
  go_ret
  exact ⟨a', c', rfl, by simpa using hown', hx⟩
theorem clone_any (a : Option Addr) (n cap : Nat) (xs : List Int) (w : World) (hn : xs.length = n) (hbig : n ≤ 17592186044416) (hI : IntsAt w a xs) :
    Calls Try.prog 52 #[.slice a n cap] w (OwnRes n xs w) := by
  cases a with
  | none =>
    have hx : xs = [] := by
      rcases hI with h | ⟨b, off, h, _⟩
      · exact h
      · cases h
    subst hx
    obtain rfl : n = 0 := hn.symm
    exact (clone_nil 0 cap w).mono fun e w' ⟨h1, h2⟩ => ⟨none, 0, h1, by rw [← h2]; exact World.ownsRow_nil w _ _ _, by rw [← h2]; exact Ext.refl w⟩
  | some ad =>
    refine clone_some ad n cap xs w hn hbig fun j u hu => ?_
    have hj : j < xs.length := by
      rcases Nat.lt_or_ge j xs.length with h | h
      · exact h
      · rw [List.getElem?_eq_none (by simpa [iv_length] using h)] at hu; cases hu
    rcases hI with h | ⟨b, off, h, hb, hc⟩
    · subst h; simp at hj
    · obtain rfl := Option.some.inj h
      rw [iv_get xs j hj] at hu
      obtain rfl := Option.some.inj hu
      rw [Addr.add_lit]
      exact hc j hj
end Go.Proofs.Ytjfggepgjpdebaa
/- The machine in memory: what its blocks hold, and what stays of that behind each kind of write. -/
namespace Go.Proofs.Ytjfggepgjpdebaa
open Go.RowKit Go.Q
def mcells (g1 c1 : Nat) (tv pv : Value) (s : St) (o : Ord) : Array Value :=
  #[.slice (some ⟨g1, 0, none⟩) 128 c1, tv, .int .i64 s.taken, pv, .int .i64 s.time, .int .i64 s.at_, .int .i64 s.done, .int .i64 s.why, .int .i64 o.op, .int .i64 o.frm, .int .i64 o.to, .int .i64 o.nxt]
/-- the machine lies at m: its store in block g1, its tape tv, its paper pv -/
structure Mac (w : World) (nb m g1 c1 : Nat) (tv pv : Value) (s : St) (o : Ord) : Prop where
  low : nb ≤ m ∧ nb ≤ g1 ∧ m ≠ g1
  blk : w.heap[m]? = some (.cells (mcells g1 c1 tv pv s o) 92 (0, 0))
  st : ∃ cur, w.heap[g1]? = some (.cells cur 3 (0, 0)) ∧ cur.toList.take 128 = iv s.store
  len : s.store.length = 128
  tp : ∃ a2 c2, tv = .slice a2 s.tape.length c2 ∧ (s.tape = [] ∨ ∃ b off, a2 = some ⟨b, off, none⟩ ∧ (∃ cur, w.heap[b]? = some (.cells cur 3 (0, 0))) ∧ b ≠ m ∧ b ≠ g1 ∧ pv.ownBlock ≠ some b ∧ ∀ i, i < s.tape.length → w.cell? ⟨b, off + i, none⟩ = some (.int .i64 (s.tape[i]?.getD 0)))
  prow : w.ownsRow nb 3 1 pv s.printed.length (iv s.printed)
  pm : pv.ownBlock ≠ some m
  pg : pv.ownBlock ≠ some g1
variable {w : World} {nb m g1 c1 : Nat} {tv pv : Value} {s : St} {o : Ord}
theorem Mac.c (h : Mac w nb m g1 c1 tv pv s o) (i : Nat) {v : Value} (hv : (mcells g1 c1 tv pv s o)[i]? = some v) : w.cell? ⟨m, i, none⟩ = some v := cell_of_cells h.blk i hv
theorem Mac.f (h : Mac w nb m g1 c1 tv pv s o) (i : Nat) : w.frozen? ⟨m, i, none⟩ = false := free_of_cells h.blk i
theorem Mac.wc (h : Mac w nb m g1 c1 tv pv s o) (i : Nat) (hi : i < 128) : w.cell? ⟨g1, i, none⟩ = some (.int .i64 (s.store[i]?.getD 0)) := by
  obtain ⟨cur, hg, ht⟩ := h.st
  refine cell_of_cells hg i ?_
  have e := iv_get s.store i (by rw [h.len]; exact hi)
  rw [← ht, List.getElem?_take, if_pos hi] at e
  simpa using e
theorem Mac.wf (h : Mac w nb m g1 c1 tv pv s o) (i : Nat) : w.frozen? ⟨g1, i, none⟩ = false := by
  obtain ⟨cur, hg, _⟩ := h.st
  exact free_of_cells hg i
theorem Mac.ltm (h : Mac w nb m g1 c1 tv pv s o) : m < w.heap.size := lt_of_block h.blk
theorem Mac.ltg (h : Mac w nb m g1 c1 tv pv s o) : g1 < w.heap.size := by obtain ⟨cur, hg, _⟩ := h.st; exact lt_of_block hg
/-- nothing of the machine has turned -/
theorem Mac.same {w' : World} (h : Mac w nb m g1 c1 tv pv s o) (hz : w.heap.size ≤ w'.heap.size) (hb : ∀ k, k < w.heap.size → w'.heap[k]? = w.heap[k]?) : Mac w' nb m g1 c1 tv pv s o where
  low := h.low
  blk := (hb _ h.ltm).trans h.blk
  st := by obtain ⟨cur, hg, ht⟩ := h.st; exact ⟨cur, (hb _ h.ltg).trans hg, ht⟩
  len := h.len
  tp := by
    obtain ⟨a2, c2, hv, ht⟩ := h.tp
    refine ⟨a2, c2, hv, ?_⟩
    rcases ht with ht | ⟨b, off, ha, ⟨cu, hcu⟩, h1, h2, h3, hc⟩
    · exact .inl ht
    · have hlt := lt_of_block hcu
      exact .inr ⟨b, off, ha, ⟨cu, (hb b hlt).trans hcu⟩, h1, h2, h3, fun i hi => (World.cell?_of_block (w := w) (hb b hlt)).trans (hc i hi)⟩
  prow := own_later h.prow (fun b e => hb b (own_lt h.prow e))
  pm := h.pm
  pg := h.pg
theorem Mac.ext {w' : World} (h : Mac w nb m g1 c1 tv pv s o) (e : Ext w w') : Mac w' nb m g1 c1 tv pv s o := h.same e.size e.block
theorem Mac.drewN (h : Mac w nb m g1 c1 tv pv s o) (n : Nat) : Mac (w.drewN n) nb m g1 c1 tv pv s o := h.same (Nat.le_refl _) (fun _ _ => rfl)
theorem Mac.heapEq {w' : World} (h : Mac w nb m g1 c1 tv pv s o) (e : w'.heap = w.heap) : Mac w' nb m g1 c1 tv pv s o := h.same (by rw [e]; exact Nat.le_refl _) (fun k _ => by rw [e])
/-- one of the machine's own cells is written -/
theorem Mac.setm (h : Mac w nb m g1 c1 tv pv s o) (i : Nat) (v : Value) (s' : St) (o' : Ord) (he : mcells g1 c1 tv pv s' o' = (mcells g1 c1 tv pv s o).setIfInBounds i v)
    (e1 : s'.store = s.store) (e2 : s'.tape = s.tape) (e3 : s'.printed = s.printed) : Mac (w.setCell ⟨m, i, none⟩ v) nb m g1 c1 tv pv s' o' where
  low := h.low
  blk := by rw [he]; exact cells_set h.blk i v
  st := by
    obtain ⟨cur, hg, ht⟩ := h.st
    exact ⟨cur, (Below.heap_setCell _ _ _ _ (fun e => h.low.2.2 e.symm)).trans hg, by rw [e1]; exact ht⟩
  len := by rw [e1]; exact h.len
  tp := by
    obtain ⟨a2, c2, hv, ht⟩ := h.tp
    refine ⟨a2, c2, by rw [e2]; exact hv, ?_⟩
    rw [e2]
    rcases ht with ht | ⟨b, off, ha, ⟨cu, hcu⟩, h1, h2, h3, hc⟩
    · exact .inl ht
    · exact .inr ⟨b, off, ha, ⟨cu, (Below.heap_setCell _ _ _ _ h1).trans hcu⟩, h1, h2, h3, fun i hi => (World.cell?_of_block (w := w) (Below.heap_setCell _ _ _ _ h1)).trans (hc i hi)⟩
  prow := by rw [e3]; exact own_later h.prow (fun b e => Below.heap_setCell _ _ _ _ (fun e' => h.pm (by rw [e]; exact congrArg some e')))
  pm := h.pm
  pg := h.pg
/-- a word of the store is written -/
theorem Mac.sets (h : Mac w nb m g1 c1 tv pv s o) (i : Nat) (hi : i < 128) (x : Int) (s' : St) (es : s' = { s with store := s.store.set i x }) : Mac (w.setCell ⟨g1, i, none⟩ (.int .i64 x)) nb m g1 c1 tv pv s' o where
  low := h.low
  blk := by subst es; exact (Below.heap_setCell _ _ _ _ h.low.2.2).trans h.blk
  st := by
    subst es
    obtain ⟨cur, hg, ht⟩ := h.st
    refine ⟨_, cells_set hg i _, ?_⟩
    show ((cur.setIfInBounds i (.int .i64 x)).toList).take 128 = iv (s.store.set i x)
    rw [Array.toList_setIfInBounds, List.take_set, ht]
    simp [iv, List.map_set]
  len := by subst es; simpa using h.len
  tp := by
    subst es
    obtain ⟨a2, c2, hv, ht⟩ := h.tp
    refine ⟨a2, c2, hv, ?_⟩
    rcases ht with ht | ⟨b, off, ha, ⟨cu, hcu⟩, h1, h2, h3, hc⟩
    · exact .inl ht
    · exact .inr ⟨b, off, ha, ⟨cu, (Below.heap_setCell _ _ _ _ h2).trans hcu⟩, h1, h2, h3, fun i hi => (World.cell?_of_block (w := w) (Below.heap_setCell _ _ _ _ h2)).trans (hc i hi)⟩
  prow := by subst es; exact own_later h.prow (fun b e => Below.heap_setCell _ _ _ _ (fun e' => h.pg (by rw [e]; exact congrArg some e')))
  pm := h.pm
  pg := h.pg
end Go.Proofs.Ytjfggepgjpdebaa
/- Layer 4 in plain Lean, on: what a checked state is; a run. -/
namespace Go.Q
/-- the error of a state and a number of orders -/
def askedQ (s : St) (most : Int) : Int := if (checkQ s).2.2 ≠ 0 then (checkQ s).2.2 else if inB most 0 5000 = true then 0 else 7
theorem checkQ_err (s : St) : (checkQ s).2.2 = 0 ∨ (checkQ s).2.2 = 2 ∨ (checkQ s).2.2 = 3 ∨ (checkQ s).2.2 = 7 := by
  unfold checkQ
  repeat' split
  all_goals simp
end Go.Q
/- Contract: open: it makes the machine of a state. -/
namespace Go.Proofs.Ytjfggepgjpdebaa
open Go.RowKit Go.Q
set_option maxHeartbeats 1000000 in
theorem open_bad (v : Value) (s : St) (most : Int) (w : World) (h : StAt w v s) (hb : StBd s) (he : askedQ s most ≠ 0) :
    Calls Try.prog 59 #[v, .int .i64 most] w fun e w' => e = .returned (.tuple #[.pointer none, .int .i64 (askedQ s most)]) ∧ Ext w w' := by
  obtain ⟨a1, a2, a3, c1, c2, c3, rfl, i1, i2, i3⟩ := h
  have hs : StAt w (sv a1 a2 a3 s.store.length c1 s.tape.length c2 s.printed.length c3 s.taken s.time s.at_ s.done s.why) s := ⟨a1, a2, a3, c1, c2, c3, rfl, i1, i2, i3⟩
  have hc := fun W (E : Ext w W) => check_any _ s W (hs.ext E) hb
  have e3 := checkQ_err s
  clear hs i1 i2 i3 hb
  by_cases hz : (checkQ s).2.2 = 0
  · have hm : inB most 0 5000 = false := by
      cases h : inB most 0 5000 with
      | false => rfl
      | true => exact absurd (by simp [askedQ, hz, h]) he
    have ha : askedQ s most = 7 := by simp [askedQ, hz, hm]
    rw [ha]
    clear ha he e3
    rcases hcq : checkQ s with ⟨p, i, e⟩
    rw [hcq] at hc hz
    obtain rfl : e = 0 := hz
    clear hcq
    go_enter Try.func59, Try.ntmps59
    go_wp2_with fail
    refine (hc _ (by exact (Ext.refl w).alloc _)).mono ?_
    rintro e w1 ⟨rfl, hb1⟩
    unfold v3
    go_wp2_with (go_at_call 51; refine (out_one _ most _ _ (by simp) (by simp)).mono ?_; rintro e w' ⟨rfl, hb'⟩)
    go_ret2
    exact ⟨rfl, hb1.old.comp hb'.old⟩
  · have ha : askedQ s most = (checkQ s).2.2 := by simp [askedQ, hz]
    rw [ha]
    clear ha he
    rcases hcq : checkQ s with ⟨p, i, e⟩
    rw [hcq] at hc hz e3
    dsimp only at hz e3 ⊢
    have hz' : (e != 0) = true := by simpa using hz
    clear hcq hz
    go_enter Try.func59, Try.ntmps59
    go_wp2_with fail
    refine (hc _ (by exact (Ext.refl w).alloc _)).mono ?_
    rintro e w1 ⟨rfl, hb1⟩
    unfold v3
    go_wp2_with fail
    go_ret2
    exact ⟨rfl, hb1.old⟩
/-- the machine's own block is laid -/
theorem Parts.mac {w : World} {nb B g1 c1 : Nat} {tv pv : Value} {s : St} (h : Parts w nb B g1 c1 tv pv s) (hnb : nb ≤ w.heap.size) (o : Ord) :
    Mac (w.alloc (.cells (mcells g1 c1 tv pv s o) 92)) nb w.heap.size g1 c1 tv pv s o := by
  have e : Ext w (w.alloc (.cells (mcells g1 c1 tv pv s o) 92)) := (Ext.refl w).alloc _
  obtain ⟨cur, hg, ht⟩ := h.st
  have lg := lt_of_block hg
  refine ⟨⟨hnb, h.low.1, by omega⟩, by show (w.heap.push _)[w.heap.size]? = _; simp, ⟨cur, (e.block g1 lg).trans hg, ht⟩, h.len, ?_, own_later h.prow (fun b hb => e.block b (own_lt h.prow hb)), fun hb => by have := own_lt h.prow hb; omega, h.pg⟩
  obtain ⟨a2, c2, hv, ht⟩ := h.tp
  refine ⟨a2, c2, hv, ?_⟩
  rcases ht with ht | ⟨b, off, ha, ⟨cu, hcu⟩, h1, h2, h3, hc⟩
  · exact .inl ht
  · have hlt := lt_of_block hcu
    exact .inr ⟨b, off, ha, ⟨cu, (e.block b hlt).trans hcu⟩, by omega, h2, h3, fun i hi => (e.cell (p := ⟨b, off + i, none⟩) hlt).trans (hc i hi)⟩
/-- open has made a machine -/
def OpenRes (s : St) (w : World) (e : Ending) (w' : World) : Prop :=
  ∃ m g1 c1 tv pv, e = .returned (.tuple #[.pointer (some ⟨m, 0, none⟩), .int .i64 0]) ∧ Mac w' w.heap.size m g1 c1 tv pv s ⟨0, 0, 0, 0⟩ ∧ Ext w w'
/-- the copy of the state, with slices of the call's own -/
def BoxRes (s : St) (w : World) (wx : World) : Prop :=
  ∃ g1 cs tv pv, wx.heap[w.heap.size]? = some (.cells #[.slice (some ⟨g1, 0, none⟩) 128 cs, tv, .int .i64 s.taken, pv, .int .i64 s.time, .int .i64 s.at_, .int .i64 s.done, .int .i64 s.why] 24 (0, 0)) ∧
    Parts wx w.heap.size w.heap.size g1 cs tv pv s ∧ Ext w wx
theorem box_res {w W0 ws wt wp W : World} {a1 a2 a3 as_ at_ ap : Option Addr} {c1 c2 c3 cs ct cp ns nt np n2 n3 : Nat} {s : St}
    (E0 : Ext (w.alloc (.cells #[.slice a1 128 c1, .slice a2 n2 c2, .int .i64 s.taken, .slice a3 n3 c3, .int .i64 s.time, .int .i64 s.at_, .int .i64 s.done, .int .i64 s.why] 24)) W0)
    (hs : ws.ownsRow ns 3 1 (.slice as_ 128 cs) 128 (iv s.store)) (ht : wt.ownsRow nt 3 1 (.slice at_ n2 ct) n2 (iv s.tape)) (hp : wp.ownsRow np 3 1 (.slice ap n3 cp) n3 (iv s.printed))
    (hl : s.store.length = 128 ∧ s.tape.length = n2 ∧ s.printed.length = n3) (EW : Ext W0 W)
    (es : Ext ws W) (et : Ext wt W) (ep : Ext wp W) (ls : w.heap.size < ns) (lt : w.heap.size < nt) (lp : w.heap.size < np)
    (d1 : ws.heap.size ≤ nt ∨ wt.heap.size ≤ ns) (d2 : ws.heap.size ≤ np ∨ wp.heap.size ≤ ns) (d3 : wt.heap.size ≤ np ∨ wp.heap.size ≤ nt) :
    BoxRes s w (((W.setCell ⟨w.heap.size, 0, none⟩ (.slice as_ 128 cs)).setCell ⟨w.heap.size, 1, none⟩ (.slice at_ n2 ct)).setCell ⟨w.heap.size, 3, none⟩ (.slice ap n3 cp)) := by
  obtain ⟨hl1, rfl, rfl⟩ := hl
  obtain ⟨g1, rfl, hP⟩ := parts_of (nb := w.heap.size) (B := w.heap.size) hs ht hp es et ep ⟨ls, by omega⟩ ⟨lt, by omega⟩ ⟨lp, by omega⟩ hl1 d1 d2 d3
  have hB : W.heap[w.heap.size]? = _ := ((E0.comp EW).block w.heap.size (by simp)).trans (show (w.heap.push _)[w.heap.size]? = _ by simp; rfl)
  refine ⟨g1, cs, _, _, cells_set (cells_set (cells_set hB 0 _) 1 _) 3 _, ((hP.set 0 _).set 1 _).set 3 _, ?_⟩
  exact (((E0.old.comp EW).setCell (p := ⟨w.heap.size, 0, none⟩) (Nat.le_refl _) _).setCell (p := ⟨w.heap.size, 1, none⟩) (Nat.le_refl _) _).setCell (p := ⟨w.heap.size, 3, none⟩) (Nat.le_refl _) _
set_option maxHeartbeats 4000000 in
set_option maxRecDepth 100000 in
theorem open_ok (a1 a2 a3 : Option Addr) (n2 n3 c1 c2 c3 : Nat) (s : St) (most : Int) (w : World) (l1 : s.store.length = 128) (l2 : s.tape.length = n2) (l3 : s.printed.length = n3) (b2 : n2 ≤ 200) (b3 : n3 ≤ 200)
    (i1 : IntsAt w a1 s.store) (i2 : IntsAt w a2 s.tape) (i3 : IntsAt w a3 s.printed) (hz : checkQ s = (0, 0, 0)) (hm : inB most 0 5000 = true) :
    Calls Try.prog 59 #[sv a1 a2 a3 128 c1 n2 c2 n3 c3 s.taken s.time s.at_ s.done s.why, .int .i64 most] w (OpenRes s w) := by
  have hc := fun W (E : Ext w W) => check_any (sv a1 a2 a3 128 c1 n2 c2 n3 c3 s.taken s.time s.at_ s.done s.why) s W ⟨a1, a2, a3, c1, c2, c3, by rw [l1, l2, l3], i1.ext E, i2.ext E, i3.ext E⟩ ⟨by omega, by omega, by omega⟩
  rw [hz] at hc
  have hcs' := fun W (E : Ext w W) => clone_any a1 128 c1 s.store W l1 (by decide) (i1.ext E)
  have hct' := fun W (E : Ext w W) => clone_any a2 n2 c2 s.tape W l2 (by omega) (i2.ext E)
  have hcp' := fun W (E : Ext w W) => clone_any a3 n3 c3 s.printed W l3 (by omega) (i3.ext E)
  have Hl := Lib.hid (And.intro l1 (And.intro l2 l3))
  clear i1 i2 i3 l1 l2 l3 hz
  go_enter Try.func59, Try.ntmps59
  go_wp2_with fail
  refine (hc _ (by exact (Ext.refl w).alloc _)).mono ?_
  rintro e w1 ⟨rfl, hb1⟩
  unfold v3
  go_wp2_with fail
  refine (out_one _ most _ _ (by simp) (by simp)).mono ?_
  rintro e W0 ⟨rfl, hb2⟩
  have E0 := hb1.comp hb2.old
  clear hc hb1 hb2
  have hcs := fun W (E : Ext W0 W) => hcs' W (E0.old.comp E)
  have hct := fun W (E : Ext W0 W) => hct' W (E0.old.comp E)
  have hcp := fun W (E : Ext W0 W) => hcp' W (E0.old.comp E)
  clear hcs' hct' hcp'
  have p0 := box_at (v := .slice a1 128 c1) E0 0 rfl
  have p1 := box_at (v := .slice a2 n2 c2) E0 1 rfl
  have p3 := box_at (v := .slice a3 n3 c3) E0 3 rfl
  have z0 : w.heap.size < W0.heap.size := by have := E0.size; simp at this; omega
  go_upto_region 6 with fail
  go_cut [] (fun wx => BoxRes s w wx)
  case first =>
    go_region_law (first | (go_simp; go_at_call_of 52 (Value.slice a1 128 c1); refine (hcs _ (by first | exact EBt | exact EBp | exact (Ext.refl W0).drew)).mono ?_; rintro e ws ⟨aas, ccs, rfl, hos, hbs⟩; have EBs : Ext W0 ws := (by first | exact Ext.comp EBt hbs | exact Ext.comp EBp hbs | exact Ext.comp (Ext.refl W0).drew hbs); have sc0 := box_at (v := .slice a1 128 c1) (E0.comp EBs) 0 rfl; have sf0 := box_free (E0.comp EBs) 0; have sc1 := box_at (v := .slice a2 n2 c2) (E0.comp EBs) 1 rfl; have sf1 := box_free (E0.comp EBs) 1; have sc3 := box_at (v := .slice a3 n3 c3) (E0.comp EBs) 3 rfl; have sf3 := box_free (E0.comp EBs) 3) | (go_simp; go_at_call_of 52 (Value.slice a2 n2 c2); refine (hct _ (by first | exact EBs | exact EBp | exact (Ext.refl W0).drew)).mono ?_; rintro e wt ⟨aat, cct, rfl, hot, hbt⟩; have EBt : Ext W0 wt := (by first | exact Ext.comp EBs hbt | exact Ext.comp EBp hbt | exact Ext.comp (Ext.refl W0).drew hbt); have tc0 := box_at (v := .slice a1 128 c1) (E0.comp EBt) 0 rfl; have tf0 := box_free (E0.comp EBt) 0; have tc1 := box_at (v := .slice a2 n2 c2) (E0.comp EBt) 1 rfl; have tf1 := box_free (E0.comp EBt) 1; have tc3 := box_at (v := .slice a3 n3 c3) (E0.comp EBt) 3 rfl; have tf3 := box_free (E0.comp EBt) 3) | (go_simp; go_at_call_of 52 (Value.slice a3 n3 c3); refine (hcp _ (by first | exact EBs | exact EBt | exact (Ext.refl W0).drew)).mono ?_; rintro e wp ⟨aap, ccp, rfl, hop, hbp⟩; have EBp : Ext W0 wp := (by first | exact Ext.comp EBs hbp | exact Ext.comp EBt hbp | exact Ext.comp (Ext.refl W0).drew hbp); have pc0 := box_at (v := .slice a1 128 c1) (E0.comp EBp) 0 rfl; have pf0 := box_free (E0.comp EBp) 0; have pc1 := box_at (v := .slice a2 n2 c2) (E0.comp EBp) 1 rfl; have pf1 := box_free (E0.comp EBp) 1; have pc3 := box_at (v := .slice a3 n3 c3) (E0.comp EBp) 3 rfl; have pf3 := box_free (E0.comp EBp) 3))
    all_goals
      go_wp2_with fail
      go_meet
      exact box_res E0 hos hot hop Hl.out (by first | exact EBs | exact EBt | exact EBp) (by first | exact Ext.refl _ | exact hbs | exact hbt | exact hbp | exact hbs.comp hbt | exact hbs.comp hbp | exact hbt.comp hbs | exact hbt.comp hbp | exact hbp.comp hbs | exact hbp.comp hbt) (by first | exact Ext.refl _ | exact hbs | exact hbt | exact hbp | exact hbs.comp hbt | exact hbs.comp hbp | exact hbt.comp hbs | exact hbt.comp hbp | exact hbp.comp hbs | exact hbp.comp hbt) (by first | exact Ext.refl _ | exact hbs | exact hbt | exact hbp | exact hbs.comp hbt | exact hbs.comp hbp | exact hbt.comp hbs | exact hbt.comp hbp | exact hbp.comp hbs | exact hbp.comp hbt) (by first | exact z0 | exact Nat.lt_of_lt_of_le z0 EBs.size | exact Nat.lt_of_lt_of_le z0 EBt.size | exact Nat.lt_of_lt_of_le z0 EBp.size) (by first | exact z0 | exact Nat.lt_of_lt_of_le z0 EBs.size | exact Nat.lt_of_lt_of_le z0 EBt.size | exact Nat.lt_of_lt_of_le z0 EBp.size) (by first | exact z0 | exact Nat.lt_of_lt_of_le z0 EBs.size | exact Nat.lt_of_lt_of_le z0 EBt.size | exact Nat.lt_of_lt_of_le z0 EBp.size) (by first | exact .inl (Nat.le_refl _) | exact .inr (Nat.le_refl _) | exact .inl hbs.size | exact .inl hbt.size | exact .inl hbp.size | exact .inr hbs.size | exact .inr hbt.size | exact .inr hbp.size) (by first | exact .inl (Nat.le_refl _) | exact .inr (Nat.le_refl _) | exact .inl hbs.size | exact .inl hbt.size | exact .inl hbp.size | exact .inr hbs.size | exact .inr hbt.size | exact .inr hbp.size) (by first | exact .inl (Nat.le_refl _) | exact .inr (Nat.le_refl _) | exact .inl hbs.size | exact .inl hbt.size | exact .inl hbp.size | exact .inr hbs.size | exact .inr hbt.size | exact .inr hbp.size)
  case rest =>
    obtain ⟨g1, cs, tv, pv, hB, hP, hE⟩ := hcut
    have k0 := cell_of_cells hB 0 (v := .slice (some ⟨g1, 0, none⟩) 128 cs) rfl
    have k1 := cell_of_cells hB 1 (v := tv) rfl
    have k2 := cell_of_cells hB 2 (v := .int .i64 s.taken) rfl
    have k3 := cell_of_cells hB 3 (v := pv) rfl
    have k4 := cell_of_cells hB 4 (v := .int .i64 s.time) rfl
    have k5 := cell_of_cells hB 5 (v := .int .i64 s.at_) rfl
    have k6 := cell_of_cells hB 6 (v := .int .i64 s.done) rfl
    have k7 := cell_of_cells hB 7 (v := .int .i64 s.why) rfl
    have hM := hP.mac hE.size ⟨0, 0, 0, 0⟩
    have hE2 : Ext w _ := hE.alloc (.cells (mcells g1 cs tv pv s ⟨0, 0, 0, 0⟩) 92)
    have HM := Lib.hid hM
    clear hM hB hP
    obtain ⟨at2, ct2, rfl⟩ : ∃ a c, tv = .slice a s.tape.length c := by
      obtain ⟨a, c, h, _⟩ := HM.out.tp
      exact ⟨a, c, h⟩
    obtain ⟨ap2, cp2, rfl⟩ : ∃ a c, pv = .slice a s.printed.length c := own_form HM.out.prow
    go_wp2_with fail
    go_ret2
    exact ⟨_, _, _, _, _, rfl, HM.out, hE2⟩
end Go.Proofs.Ytjfggepgjpdebaa
/- Contracts: machine.from, to, and what an order does: move, add, sub, mul, read, print. -/
namespace Go.Proofs.Ytjfggepgjpdebaa
open Go.RowKit Go.Q
variable {nb m g1 c1 : Nat} {tv pv : Value} {s : St} {o : Ord}
set_option maxHeartbeats 1000000 in
theorem from_any (w : World) (h : Mac w nb m g1 c1 tv pv s o) (h0 : 0 ≤ o.frm) (h1 : o.frm ≤ 127) :
    Calls Try.prog 114 #[.pointer (some ⟨m, 0, none⟩)] w fun e w' => e = .returned (.pointer (some ⟨g1, o.frm.toNat, none⟩)) ∧ ∃ n, w' = w.drewN n := by
  have q0 := h.c 0 (v := .slice (some ⟨g1, 0, none⟩) 128 c1) rfl
  have q9 := h.c 9 (v := .int .i64 o.frm) rfl
  clear h
  generalize o.frm = f at q9 h0 h1 ⊢
  go_enter Try.func114, Try.ntmps114
  go_wp2
  go_quiet (fail)
  go_wp2
  go_ret
  exact ⟨rfl, _, rfl⟩
set_option maxHeartbeats 1000000 in
theorem to_any (w : World) (h : Mac w nb m g1 c1 tv pv s o) (h0 : 0 ≤ o.to) (h1 : o.to ≤ 127) :
    Calls Try.prog 137 #[.pointer (some ⟨m, 0, none⟩)] w fun e w' => e = .returned (.pointer (some ⟨g1, o.to.toNat, none⟩)) ∧ ∃ n, w' = w.drewN n := by
  have q0 := h.c 0 (v := .slice (some ⟨g1, 0, none⟩) 128 c1) rfl
  have q9 := h.c 10 (v := .int .i64 o.to) rfl
  clear h
  generalize o.to = f at q9 h0 h1 ⊢
  go_enter Try.func137, Try.ntmps137
  go_wp2
  go_quiet (fail)
  go_wp2
  go_ret
  exact ⟨rfl, _, rfl⟩
/-- a method has changed the machine, and nothing else that was there -/
def DoRes (nb m g1 c1 : Nat) (tv pv : Value) (s' : St) (o' : Ord) (w : World) (e : Ending) (w' : World) : Prop :=
  e = .returned (.tuple #[]) ∧ ∃ pv', Mac w' nb m g1 c1 tv pv' s' o' ∧ Chg (Own3 m g1 pv) w w' ∧ (pv'.ownBlock = pv.ownBlock ∨ ∃ k, pv'.ownBlock = some k ∧ w.heap.size ≤ k)
theorem do_store {w : World} (h : Mac w nb m g1 c1 tv pv s o) (n : Nat) (t : Nat) (ht : t < 128) (x : Int) :
    DoRes nb m g1 c1 tv pv { s with store := s.store.set t x } o w (.returned (.tuple #[])) ((w.drewN n).setCell ⟨g1, t, none⟩ (.int .i64 x)) :=
  ⟨rfl, pv, (h.drewN n).sets t ht x _ rfl, (Chg.heapEq rfl rfl rfl rfl : Chg _ w (w.drewN n)).setCell _ (.inr (.inl rfl)) _, .inl rfl⟩
theorem do_read {w : World} (h : Mac w nb m g1 c1 tv pv s o) (n : Nat) (t : Nat) (ht : t < 128) (x : Int) :
    DoRes nb m g1 c1 tv pv { s with store := s.store.set t x, taken := s.taken + 1 } o w (.returned (.tuple #[])) (((w.drewN n).setCell ⟨g1, t, none⟩ (.int .i64 x)).setCell ⟨m, 2, none⟩ (.int .i64 (s.taken + 1))) :=
  ⟨rfl, pv, ((h.drewN n).sets t ht x _ rfl).setm 2 _ _ o rfl rfl rfl rfl, ((Chg.heapEq rfl rfl rfl rfl : Chg _ w (w.drewN n)).setCell _ (.inr (.inl rfl)) _).setCell _ (.inl rfl) _, .inl rfl⟩
theorem do_print {w W w1 : World} (h : Mac w nb m g1 c1 tv pv s o) (ob : Obj) (eW : W.heap = (w.alloc ob).heap) (h1 : W.os = w.os) (h2 : W.tape = w.tape) (h3 : W.output = w.output)
    (hg : W.grownBy w1 pv.ownBlock) (g k cap : Nat) (x : Int) (hk : k = s.printed.length + 1) (hown : w1.ownsRow nb 3 1 (.slice (some ⟨g, 0, none⟩) k cap) k (iv s.printed ++ [.int .i64 x]))
    (hat : pv.ownBlock = some g ∨ g = w.heap.size + 1) :
    DoRes nb m g1 c1 tv pv { s with printed := s.printed ++ [x] } o w (.returned (.tuple #[])) (w1.setCell ⟨m, 3, none⟩ (.slice (some ⟨g, 0, none⟩) k cap)) := by
  have lm := h.ltm
  have lg := h.ltg
  have old := fun i hi hr => grown_old (w := w) eW hg i hi hr
  have gm : g ≠ m := by rcases hat with e | e; · exact fun e' => h.pm (e' ▸ e)
                        · omega
  have gg : g ≠ g1 := by rcases hat with e | e; · exact fun e' => h.pg (e' ▸ e)
                         · omega
  have hz : w.heap.size ≤ w1.heap.size := by have := hg.size; rw [eW] at this; simp at this; omega
  refine ⟨rfl, .slice (some ⟨g, 0, none⟩) k cap, ?_, ?_, ?_⟩
  · refine ⟨h.low, ?_, ?_, h.len, ?_, ?_, fun e => gm (by simpa [Value.ownBlock] using e), fun e => gg (by simpa [Value.ownBlock] using e)⟩
    · exact cells_set ((old m lm h.pm).trans h.blk) 3 _
    · obtain ⟨cur, hc, ht⟩ := h.st
      exact ⟨cur, (Below.heap_setCell _ _ _ _ (fun e => h.low.2.2 e.symm)).trans ((old g1 lg h.pg).trans hc), ht⟩
    · obtain ⟨a2, c2, hv, ht⟩ := h.tp
      refine ⟨a2, c2, hv, ?_⟩
      rcases ht with ht | ⟨b, off, ha, ⟨cu, hcu⟩, i1, i2, i3, hc⟩
      · exact .inl ht
      · have hlt := lt_of_block hcu
        refine .inr ⟨b, off, ha, ⟨cu, (Below.heap_setCell _ _ _ _ i1).trans ((old b hlt i3).trans hcu)⟩, i1, i2, fun e => ?_, fun i hi => ?_⟩
        · have e' : g = b := by simpa [Value.ownBlock] using e
          rcases hat with e2 | e2
          · exact i3 (e' ▸ e2)
          · omega
        · exact (World.cell?_of_block (w := w) ((Below.heap_setCell _ _ _ _ i1).trans (old b hlt i3))).trans (hc i hi)
    · have e : (s.printed ++ [x]).length = k := by simp [hk]
      show World.ownsRow _ nb 3 1 _ (s.printed ++ [x]).length (iv (s.printed ++ [x]))
      rw [e]
      have e2 : iv (s.printed ++ [x]) = iv s.printed ++ [.int .i64 x] := by simp [iv]
      rw [e2]
      exact own_later hown (fun b hb => Below.heap_setCell _ _ _ _ (by have : g = b := by simpa [Value.ownBlock] using hb
                                                                       show b ≠ m
                                                                       omega))
  · refine Chg.setCell ?_ _ (.inl rfl) _
    refine ⟨hg.os.trans h1, hg.tape.trans h2, hg.output.trans h3, hz, fun i hi hs => old i hi (fun e => hs (.inr (.inr e)))⟩
  · rcases hat with e | e
    · exact .inl (by rw [e]; rfl)
    · exact .inr ⟨g, rfl, by omega⟩
set_option maxHeartbeats 1000000 in
theorem move_any (w : World) (h : Mac w nb m g1 c1 tv pv s o) (hf0 : 0 ≤ o.frm) (hf1 : o.frm ≤ 127) (ht0 : 0 ≤ o.to) (ht1 : o.to ≤ 127) :
    Calls Try.prog 116 #[.pointer (some ⟨m, 0, none⟩)] w (DoRes nb m g1 c1 tv pv { s with store := s.store.set o.to.toNat (wordAt s o.frm) } o w) := by
  have q1 : w.cell? ⟨g1, o.frm.toNat, none⟩ = some (.int .i64 (wordAt s o.frm)) := h.wc _ (by omega)
  have q2 := h.wc o.to.toNat (by omega)
  have q3 := h.wf o.to.toNat
  go_enter Try.func116, Try.ntmps116
  go_wp2_with fail
  refine (to_any _ h ht0 ht1).mono ?_
  rintro e w' ⟨rfl, n1, rfl⟩
  go_wp2_with fail
  refine (from_any _ (by exact h.heapEq rfl) hf0 hf1).mono ?_
  rintro e w' ⟨rfl, n2, rfl⟩
  go_wp2
  go_end0
  exact do_store h _ _ (by omega : o.to.toNat < 128) _
set_option maxHeartbeats 2000000 in
theorem add_any (w : World) (h : Mac w nb m g1 c1 tv pv s o) (hf0 : 0 ≤ o.frm) (hf1 : o.frm ≤ 127) (ht0 : 0 ≤ o.to) (ht1 : o.to ≤ 127)
    (ha : 0 ≤ wordAt s o.frm ∧ wordAt s o.frm ≤ 16777215) (hb : 0 ≤ wordAt s o.to ∧ wordAt s o.to ≤ 16777215) :
    Calls Try.prog 117 #[.pointer (some ⟨m, 0, none⟩)] w (DoRes nb m g1 c1 tv pv { s with store := s.store.set o.to.toNat ((wordAt s o.to + wordAt s o.frm) % 16777216) } o w) := by
  have q1 : w.cell? ⟨g1, o.frm.toNat, none⟩ = some (.int .i64 (wordAt s o.frm)) := h.wc _ (by omega)
  have q2 : w.cell? ⟨g1, o.to.toNat, none⟩ = some (.int .i64 (wordAt s o.to)) := h.wc _ (by omega)
  have q3 := h.wf o.to.toNat
  have ht : o.to.toNat < 128 := by omega
  obtain ⟨ha0, ha1⟩ := ha
  obtain ⟨hb0, hb1⟩ := hb
  have hw := IntWalk.i64_in (wordAt s o.to + wordAt s o.frm) (by omega)
  go_enter Try.func117, Try.ntmps117
  go_region_law (first | (go_simp; go_at_call 137; refine (to_any _ (by exact h.heapEq rfl) ht0 ht1).mono ?_; rintro e w' ⟨rfl, n1, rfl⟩) | (go_simp; go_at_call 114; refine (from_any _ (by exact h.heapEq rfl) hf0 hf1).mono ?_; rintro e w' ⟨rfl, n1, rfl⟩))
  all_goals
    go_end0
    exact do_store h _ _ ht _
set_option maxHeartbeats 2000000 in
theorem sub_any (w : World) (h : Mac w nb m g1 c1 tv pv s o) (hf0 : 0 ≤ o.frm) (hf1 : o.frm ≤ 127) (ht0 : 0 ≤ o.to) (ht1 : o.to ≤ 127)
    (ha : 0 ≤ wordAt s o.frm ∧ wordAt s o.frm ≤ 16777215) (hb : 0 ≤ wordAt s o.to ∧ wordAt s o.to ≤ 16777215) :
    Calls Try.prog 118 #[.pointer (some ⟨m, 0, none⟩)] w (DoRes nb m g1 c1 tv pv { s with store := s.store.set o.to.toNat ((wordAt s o.to - wordAt s o.frm) % 16777216) } o w) := by
  have q1 : w.cell? ⟨g1, o.frm.toNat, none⟩ = some (.int .i64 (wordAt s o.frm)) := h.wc _ (by omega)
  have q2 : w.cell? ⟨g1, o.to.toNat, none⟩ = some (.int .i64 (wordAt s o.to)) := h.wc _ (by omega)
  have q3 := h.wf o.to.toNat
  have ht : o.to.toNat < 128 := by omega
  obtain ⟨ha0, ha1⟩ := ha
  obtain ⟨hb0, hb1⟩ := hb
  have hw := IntWalk.i64_in (wordAt s o.to - wordAt s o.frm) (by omega)
  go_enter Try.func118, Try.ntmps118
  go_region_law (first | (go_simp; go_at_call 137; refine (to_any _ (by exact h.heapEq rfl) ht0 ht1).mono ?_; rintro e w' ⟨rfl, n1, rfl⟩) | (go_simp; go_at_call 114; refine (from_any _ (by exact h.heapEq rfl) hf0 hf1).mono ?_; rintro e w' ⟨rfl, n1, rfl⟩))
  all_goals
    go_end0
    exact do_store h _ _ ht _
theorem prod_bd {a b : Int} (ha : 0 ≤ a ∧ a ≤ 16777215) (hb : 0 ≤ b ∧ b ≤ 16777215) : -70368744177664 ≤ sgn a * sgn b ∧ sgn a * sgn b ≤ 70368744177664 := by
  have h1 : -8388608 ≤ sgn a ∧ sgn a ≤ 8388607 := by unfold sgn; split <;> omega
  have h2 : -8388608 ≤ sgn b ∧ sgn b ≤ 8388607 := by unfold sgn; split <;> omega
  have n1 : (sgn a).natAbs ≤ 8388608 := by omega
  have n2 : (sgn b).natAbs ≤ 8388608 := by omega
  have h3 : (sgn a * sgn b).natAbs ≤ 8388608 * 8388608 := by rw [Int.natAbs_mul]; exact Nat.mul_le_mul n1 n2
  omega
set_option maxHeartbeats 2000000 in
theorem mul_any (w : World) (h : Mac w nb m g1 c1 tv pv s o) (hf0 : 0 ≤ o.frm) (hf1 : o.frm ≤ 127) (ht0 : 0 ≤ o.to) (ht1 : o.to ≤ 127)
    (ha : 0 ≤ wordAt s o.frm ∧ wordAt s o.frm ≤ 16777215) (hb : 0 ≤ wordAt s o.to ∧ wordAt s o.to ≤ 16777215) :
    Calls Try.prog 119 #[.pointer (some ⟨m, 0, none⟩)] w (DoRes nb m g1 c1 tv pv { s with store := s.store.set o.to.toNat (Q.prod (wordAt s o.frm) (wordAt s o.to)) } o w) := by
  have q1 : w.cell? ⟨g1, o.frm.toNat, none⟩ = some (.int .i64 (wordAt s o.frm)) := h.wc _ (by omega)
  have q2 : w.cell? ⟨g1, o.to.toNat, none⟩ = some (.int .i64 (wordAt s o.to)) := h.wc _ (by omega)
  have q3 := h.wf o.to.toNat
  have ht : o.to.toNat < 128 := by omega
  obtain ⟨p0, p1⟩ := prod_bd ha hb
  have hp : Q.prod (wordAt s o.frm) (wordAt s o.to) = sgn (wordAt s o.frm) * sgn (wordAt s o.to) / 8388608 % 16777216 := rfl
  rw [hp]
  clear hp
  have k1 := fun W => signed_any (wordAt s o.frm) W ha.1 ha.2
  have k2 := fun W => signed_any (wordAt s o.to) W hb.1 hb.2
  generalize sgn (wordAt s o.frm) = x at *
  generalize sgn (wordAt s o.to) = y at *
  go_enter Try.func119, Try.ntmps119
  go_wp2_with fail
  refine (to_any _ h ht0 ht1).mono ?_
  rintro e w' ⟨rfl, n1, rfl⟩
  go_wp2_with fail
  refine (from_any _ (by exact h.heapEq rfl) hf0 hf1).mono ?_
  rintro e w' ⟨rfl, n2, rfl⟩
  go_wp2_with fail
  refine (k1 _).mono ?_
  rintro e w' ⟨rfl, rfl⟩
  go_wp2_with fail
  refine (to_any _ (by exact h.heapEq rfl) ht0 ht1).mono ?_
  rintro e w' ⟨rfl, n3, rfl⟩
  go_wp2_with fail
  refine (k2 _).mono ?_
  rintro e w' ⟨rfl, rfl⟩
  go_wp2
  go_end0
  exact do_store h _ _ ht _
set_option maxHeartbeats 2000000 in
theorem read_any (w : World) (h : Mac w nb m g1 c1 tv pv s o) (ht0 : 0 ≤ o.to) (ht1 : o.to ≤ 127) (hk0 : 0 ≤ s.taken) (hk1 : s.taken < s.tape.length) (hl : s.tape.length ≤ 200) :
    Calls Try.prog 120 #[.pointer (some ⟨m, 0, none⟩)] w (DoRes nb m g1 c1 tv pv { s with store := s.store.set o.to.toNat (s.tape[s.taken.toNat]?.getD 0), taken := s.taken + 1 } o w) := by
  have q2 := h.wc o.to.toNat (by omega)
  have q3 := h.wf o.to.toNat
  have ht : o.to.toNat < 128 := by omega
  have r1 := h.c 1 (v := tv) rfl
  have r2 := h.c 2 (v := .int .i64 s.taken) rfl
  have f2 := h.f 2
  have hm : m ≠ g1 := h.low.2.2
  obtain ⟨a2, c2, htv, hrest⟩ := h.tp
  rcases hrest with he | ⟨b, off, ha2, hlt, hbm, hbg, hbp, hc⟩
  · rw [he] at hk1; simp at hk1; omega
  clear hlt
  have r3 := hc s.taken.toNat (by omega)
  generalize s.tape[s.taken.toNat]?.getD 0 = x at *
  subst ha2
  have e1 : tv = .slice (some ⟨b, off, none⟩) s.tape.length c2 := htv
  rw [e1] at r1
  clear hc htv e1
  go_enter Try.func120, Try.ntmps120
  go_wp2
  go_region_law (first | (go_simp; go_at_call 137; refine (to_any _ (by exact h.heapEq rfl) ht0 ht1).mono ?_; rintro e w' ⟨rfl, n1, rfl⟩))
  all_goals go_wp2
  all_goals
    go_end0
    exact do_read h _ _ ht _
set_option maxHeartbeats 2000000 in
theorem print_any (w : World) (h : Mac w nb m g1 c1 tv pv s o) (hf0 : 0 ≤ o.frm) (hf1 : o.frm ≤ 127) (hl : s.printed.length < 200) :
    Calls Try.prog 121 #[.pointer (some ⟨m, 0, none⟩)] w (DoRes nb m g1 c1 tv pv { s with printed := s.printed ++ [wordAt s o.frm] } o w) := by
  obtain ⟨i0, hi, hz0, hz1, hz2⟩ := info_parts Try.infoE
  have q1 : w.cell? ⟨g1, o.frm.toNat, none⟩ = some (.int .i64 (wordAt s o.frm)) := h.wc _ (by omega)
  have r3 := h.c 3 (v := pv) rfl
  have lm := h.ltm
  have r3' : ∀ n ob, ((w.drewN n).alloc ob).cell? ⟨m, 3, none⟩ = some pv := fun n ob => cell_later ((Ext.refl (w.drewN n)).alloc ob) r3
  have hnb := h.low.1
  have hb := h.prow
  generalize wordAt s o.frm = x at *
  go_enter Try.func121, Try.ntmps121
  go_wp2
  go_region_law (first | (go_simp; go_at_call 114; refine (from_any _ (by exact h.heapEq rfl) hf0 hf1).mono ?_; rintro e w' ⟨rfl, n1, rfl⟩) | (refine step_append_lies _ (by rfl) _ _ _ (by rfl) nb 3 i0 _ 1 8 Try.underlying22 hi hz0 hz1 hz2 rfl (by omega) pv s.printed.length (iv s.printed) (by rfl) (by exact own_alloc hb _ rfl) ⟨w.heap.size, 0, none⟩ 1 1 [.int .i64 x] (by rfl) (by rfl) (World.news_of_block (cs := #[.int .i64 x]) (t := 3) (fr := (0, 0)) (heap_alloc_new w _)) (iv_one [x]) (by omega) (by unfold maxLen; omega) (by omega) (by simp; omega) (w.heap.size + 1) (by simp) ?_; intro g cap w2 hown2 hgrow hat hlt; have q3 := cell_of_cells ((grown_old (w := w) (ob := .cells #[.int .i64 x] 3) (by rfl) hgrow m lm h.pm).trans h.blk) 3 (v := pv) rfl; have f3 := free_of_cells ((grown_old (w := w) (ob := .cells #[.int .i64 x] 3) (by rfl) hgrow m lm h.pm).trans h.blk) 3))
  all_goals
    go_end0
    exact do_print h (.cells #[.int .i64 x] 3) (by rfl) (by rfl) (by rfl) (by rfl) hgrow g _ cap x rfl hown2 hat
theorem nop_any (w : World) (h : Mac w nb m g1 c1 tv pv s o) : Calls Try.prog 115 #[] w (DoRes nb m g1 c1 tv pv s o w) := by
  go_enter Try.func115, Try.ntmps115
  go_wp2
  go_end0
  exact ⟨rfl, pv, h, Chg.refl _ _, .inl rfl⟩
end Go.Proofs.Ytjfggepgjpdebaa
/- Contract: machine.step. -/
namespace Go.Proofs.Ytjfggepgjpdebaa
open Go.RowKit Go.Q
variable {nb m g1 c1 : Nat} {tv pv : Value} {s : St} {o o' : Ord}
/-- the order is stored into the machine -/
theorem Mac.setOrd {w : World} (h : Mac w nb m g1 c1 tv pv s o) (o' : Ord) :
    Mac ((((w.setCell ⟨m, 8, none⟩ (.int .i64 o'.op)).setCell ⟨m, 9, none⟩ (.int .i64 o'.frm)).setCell ⟨m, 10, none⟩ (.int .i64 o'.to)).setCell ⟨m, 11, none⟩ (.int .i64 o'.nxt)) nb m g1 c1 tv pv s o' :=
  (((h.setm 8 _ s ⟨o'.op, o.frm, o.to, o.nxt⟩ rfl rfl rfl rfl).setm 9 _ s ⟨o'.op, o'.frm, o.to, o.nxt⟩ rfl rfl rfl rfl).setm 10 _ s ⟨o'.op, o'.frm, o'.to, o.nxt⟩ rfl rfl rfl rfl).setm 11 _ s o' rfl rfl rfl rfl
theorem Chg.set4 {S : Nat → Prop} {a w : World} (h : Chg S a w) (m : Nat) (hm : S m) (i j k l : Nat) (x y z u : Value) :
    Chg S a ((((w.setCell ⟨m, i, none⟩ x).setCell ⟨m, j, none⟩ y).setCell ⟨m, k, none⟩ z).setCell ⟨m, l, none⟩ u) :=
  (((h.setCell _ hm _).setCell _ hm _).setCell _ hm _).setCell _ hm _
theorem from_ext (w : World) (h : Mac w nb m g1 c1 tv pv s o) (h0 : 0 ≤ o.frm) (h1 : o.frm ≤ 127) :
    Calls Try.prog 114 #[.pointer (some ⟨m, 0, none⟩)] w fun e w' => e = .returned (.pointer (some ⟨g1, o.frm.toNat, none⟩)) ∧ Ext w w' :=
  (from_any w h h0 h1).mono fun e w' ⟨he, n, hn⟩ => ⟨he, by rw [hn]; exact below_drewN (Ext.refl w) n⟩
theorem signed_ext (n : Int) (w : World) (h0 : 0 ≤ n) (h1 : n ≤ 16777215) :
    Calls Try.prog 89 #[.int .i64 n] w fun e w' => e = .returned (.int .i64 (sgn n)) ∧ Ext w w' :=
  (signed_any n w h0 h1).mono fun e w' ⟨he, hn⟩ => ⟨he, by rw [← hn]; exact Ext.refl w⟩
theorem stepQ_end {s : St} {k : Int} (h : whyAt s = k) (hk : k ≠ 0) : stepQ s = { s with why := k } := by
  unfold stepQ; rw [h, if_neg hk]
theorem stepQ_go {s : St} (h : whyAt s = 0) : stepQ s = { doQ s (ordAt s) with at_ := whenAt (ordAt s) (negAt s), time := untilAt s, done := s.done + 1 } := by
  unfold stepQ; rw [if_pos h]
/-- the run ends here -/
theorem fin_why {w w2 W : World} (h : Mac w2 nb m g1 c1 tv pv s o) (hc : Chg (Own3 m g1 pv) w w2) (e1 : W.os = w2.os) (e2 : W.tape = w2.tape) (e3 : W.output = w2.output) (e4 : W.heap = w2.heap)
    {k : Int} (hs : stepQ s = { s with why := k }) :
    DoRes nb m g1 c1 tv pv (stepQ s) o w (.returned (.tuple #[])) (W.setCell ⟨m, 7, none⟩ (.int .i64 k)) := by
  rw [hs]
  exact ⟨rfl, pv, (h.heapEq e4).setm 7 _ _ o rfl rfl rfl rfl, (hc.trans (Chg.heapEq e1 e2 e3 e4)).setCell _ (.inl rfl) _, .inl rfl⟩
/-- the order is done -/
theorem fin_do {w w2 W w3 : World} {pv' : Value} {s' : St} {a u d : Int} (h : Mac w3 nb m g1 c1 tv pv' s' o) (hc : Chg (Own3 m g1 pv) w w2) (hc3 : Chg (Own3 m g1 pv) W w3)
    (hp : pv'.ownBlock = pv.ownBlock ∨ ∃ k, pv'.ownBlock = some k ∧ W.heap.size ≤ k) (e1 : W.os = w2.os) (e2 : W.tape = w2.tape) (e3 : W.output = w2.output) (e4 : W.heap = w2.heap)
    (hs : stepQ s = { s' with at_ := a, time := u, done := d }) :
    DoRes nb m g1 c1 tv pv (stepQ s) o w (.returned (.tuple #[])) (((w3.setCell ⟨m, 5, none⟩ (.int .i64 a)).setCell ⟨m, 4, none⟩ (.int .i64 u)).setCell ⟨m, 6, none⟩ (.int .i64 d)) := by
  rw [hs]
  refine ⟨rfl, pv', ((h.setm 5 _ { s' with at_ := a } o rfl rfl rfl rfl).setm 4 _ { s' with at_ := a, time := u } o rfl rfl rfl rfl).setm 6 _ _ o rfl rfl rfl rfl,
    ((((hc.trans (Chg.heapEq e1 e2 e3 e4)).trans hc3).setCell _ (.inl rfl) _).setCell _ (.inl rfl) _).setCell _ (.inl rfl) _, ?_⟩
  rcases hp with hp | ⟨k, hk, hz⟩
  · exact .inl hp
  · exact .inr ⟨k, hk, by rw [e4] at hz; have := hc.size; omega⟩
set_option maxHeartbeats 4000000 in
set_option maxRecDepth 100000 in
theorem step_any (w : World) (h : Mac w nb m g1 c1 tv pv s o) (hv : Valid s) (hy : s.why = 0) :
    Calls Try.prog 91 #[.pointer (some ⟨m, 0, none⟩)] w (DoRes nb m g1 c1 tv pv (stepQ s) (ordAt s) w) := by
  obtain ⟨⟨at0, at1⟩, ⟨tm0, tm1⟩⟩ := And.intro hv.at_ hv.time
  have at2 : s.at_ < 128 := by omega
  have qa : w.cell? ⟨g1, s.at_.toNat, none⟩ = some (.int .i64 (wordAt s s.at_)) := h.wc _ (by omega)
  have q0 := h.c 0 (v := .slice (some ⟨g1, 0, none⟩) 128 c1) rfl
  have q5 := h.c 5 (v := .int .i64 s.at_) rfl
  have q8 := h.c 8 (v := .int .i64 o.op) rfl
  have q9 := h.c 9 (v := .int .i64 o.frm) rfl
  have q10 := h.c 10 (v := .int .i64 o.to) rfl
  have q11 := h.c 11 (v := .int .i64 o.nxt) rfl
  have f8 := h.f 8
  have f9 := h.f 9
  have f10 := h.f 10
  have f11 := h.f 11
  have hd := fun W => decode_any (wordAt s s.at_) W (hv.word s.at_ at0 at1).1
  have ho : decodeQ (wordAt s s.at_) = ordAt s := rfl
  rw [ho] at hd
  clear ho
  have H := Lib.hid h
  have HV := Lib.hid hv
  clear h
  generalize hx : wordAt s s.at_ = x at qa hd
  clear hx
  have hov := hv.ord
  generalize hoo : ordAt s = o2 at hd hov ⊢
  have Ho := Lib.hid hoo
  clear hoo hv
  go_enter Try.func91, Try.ntmps91
  go_upto_region 0 with fail
  go_cut [] (fun wx => Mac wx nb m g1 c1 tv pv s o2 ∧ Chg (Own3 m g1 pv) w wx)
  case first =>
    go_region_law (go_simp; go_at_call 90; refine (hd _).mono ?_; rintro e w1 ⟨rfl, hb⟩; have k8 := cell_later hb q8; have k9 := cell_later hb q9; have k10 := cell_later hb q10; have k11 := cell_later hb q11; have l8 := (hb.frozen (p := ⟨m, 8, none⟩) H.out.ltm).trans f8; have l9 := (hb.frozen (p := ⟨m, 9, none⟩) H.out.ltm).trans f9; have l10 := (hb.frozen (p := ⟨m, 10, none⟩) H.out.ltm).trans f10; have l11 := (hb.frozen (p := ⟨m, 11, none⟩) H.out.ltm).trans f11)
    all_goals
      go_wp2_with fail
      go_meet
      exact ⟨(H.out.ext (Ext.comp (Ext.refl w).drew hb)).setOrd o2, Chg.set4 (Chg.of_ext (Ext.comp (Ext.refl w).drew hb)) m (.inl rfl) _ _ _ _ _ _ _ _⟩
  case rest =>
    obtain ⟨M1, C1⟩ := hcut
    obtain ⟨wo, rfl⟩ : ∃ wo : World, wo = wc := ⟨_, rfl⟩
    clear q0 q5 q8 q9 q10 q11 f8 f9 f10 f11 hd qa H
    have hng : negAt s = decide (sgn (wordAt s o2.frm) < 0) := by rw [← Ho.out]; rfl
    obtain ⟨⟨p0, p1⟩, ⟨a0, a1⟩, ⟨b0, b1⟩, d0, d1⟩ := ordB_bd hov
    have hw := HV.out.word o2.frm a0 a1
    have hwh := fun W => when_any o2.op o2.frm o2.to o2.nxt s.time (negAt s) W hov tm0 tm1
    rw [hng] at hwh
    have hsg := fun W => signed_ext (wordAt s o2.frm) W hw.1 hw.2
    have k0 := M1.c 0 (v := .slice (some ⟨g1, 0, none⟩) 128 c1) rfl
    have k4 := M1.c 4 (v := .int .i64 s.time) rfl
    have k8 := M1.c 8 (v := .int .i64 o2.op) rfl
    have k9 := M1.c 9 (v := .int .i64 o2.frm) rfl
    have k10 := M1.c 10 (v := .int .i64 o2.to) rfl
    have k11 := M1.c 11 (v := .int .i64 o2.nxt) rfl
    have kg : wo.cell? ⟨g1, o2.frm.toNat, none⟩ = some (.int .i64 (wordAt s o2.frm)) := M1.wc _ (by omega)
    generalize hsv : sgn (wordAt s o2.frm) = sg at hng hwh hsg
    generalize hwv : wordAt s o2.frm = wa at hw hsg kg
    have Hng := Lib.hid hng
    clear hng hsv hwv
    go_upto_region 1 with fail
    go_cut [2, 3] (fun s2 s3 wx => s2 = .int .i64 (whenAt o2 (decide (sg < 0))) ∧ s3 = .int .i64 (whenUntil o2 s.time (decide (sg < 0))) ∧ Ext wo wx)
    case first =>
      go_region_held3 (fun w' => Ext wo w' ∧ w'.cell? ⟨m, 0, none⟩ = some (.slice (some ⟨g1, 0, none⟩) 128 c1) ∧ w'.cell? ⟨m, 4, none⟩ = some (.int .i64 s.time) ∧ w'.cell? ⟨m, 8, none⟩ = some (.int .i64 o2.op) ∧ w'.cell? ⟨m, 9, none⟩ = some (.int .i64 o2.frm) ∧ w'.cell? ⟨m, 10, none⟩ = some (.int .i64 o2.to) ∧ w'.cell? ⟨m, 11, none⟩ = some (.int .i64 o2.nxt) ∧ w'.cell? ⟨g1, o2.frm.toNat, none⟩ = some (.int .i64 wa))
        (first | exact ⟨(Ext.refl wo).drew, k0, k4, k8, k9, k10, k11, kg⟩ | exact ⟨Ext.comp (Ext.refl wo).drew hb', cell_later hb' k0, cell_later hb' k4, cell_later hb' k8, cell_later hb' k9, cell_later hb' k10, cell_later hb' k11, cell_later hb' kg⟩ | (have hh := ‹Ext wo _ ∧ _ ∧ _›; exact ⟨Ext.comp hh.1 hb', cell_later hb' hh.2.1, cell_later hb' hh.2.2.1, cell_later hb' hh.2.2.2.1, cell_later hb' hh.2.2.2.2.1, cell_later hb' hh.2.2.2.2.2.1, cell_later hb' hh.2.2.2.2.2.2.1, cell_later hb' hh.2.2.2.2.2.2.2⟩))
        (first | (go_at_call 114; refine (from_ext _ (by first | exact M1.ext (‹Ext wo _ ∧ _›).1 | exact M1.ext (Ext.refl wo).drew) a0 a1).mono ?_; rintro e w' ⟨rfl, hb'⟩) | (go_at_call 89; refine (hsg _).mono ?_; rintro e w' ⟨rfl, hb'⟩) | (go_at_call 63; refine (hwh _).mono ?_; rintro e w' ⟨rfl, hb'⟩))
      all_goals
        go_wp2_with fail
        go_meet
        exact ⟨rfl, rfl, (‹Ext wo _ ∧ _›).1⟩
    case rest =>
      obtain ⟨rfl, rfl, E2⟩ := hcut
      obtain ⟨a2, ct, htv, _⟩ := M1.tp
      obtain ⟨a3, cp, hpv⟩ : ∃ a3 cp, pv = .slice a3 s.printed.length cp := by
        rcases M1.prow.2 with ⟨h1, h2⟩ | ⟨g, cap, cur, h1, _⟩
        · exact ⟨none, 0, by rw [h2]; exact h1⟩
        · exact ⟨_, _, h1⟩
      have M2 := M1.ext E2
      have C2 : Chg (Own3 m g1 pv) w wc := C1.ext E2
      clear M1 C1 E2 hwh hsg k0 k4 k8 k9 k10 k11 kg
      have k1 := M2.c 1 (v := .slice a2 s.tape.length ct) (by rw [← htv]; rfl)
      have k2 := M2.c 2 (v := .int .i64 s.taken) rfl
      have k3 := M2.c 3 (v := .slice a3 s.printed.length cp) (by rw [← hpv]; rfl)
      have k7 := M2.c 7 (v := .int .i64 0) (by rw [← hy]; rfl)
      have f7 := M2.f 7
      have k8 := M2.c 8 (v := .int .i64 o2.op) rfl
      have hl1 := HV.out.tlen
      have hl2 := HV.out.plen
      have ht1 := HV.out.taken
      have hd1 := HV.out.done
      have hwt := HV.out.word o2.to b0 b1
      have hwf := HV.out.word o2.frm a0 a1
      have hun : untilAt s = whenUntil o2 s.time (decide (sg < 0)) := by rw [← Hng.out, ← Ho.out]; rfl
      have hat : whenAt (ordAt s) (negAt s) = whenAt o2 (decide (sg < 0)) := by rw [← Hng.out, Ho.out]
      generalize whenUntil o2 s.time (decide (sg < 0)) = un at hun ⊢
      generalize whenAt o2 (decide (sg < 0)) = atv at hat ⊢
      have Hun := Lib.hid hun
      have Hat := Lib.hid hat
      have Hy := Lib.hid hy
      clear hun hat htv hpv hy
      obtain hop | hop | hop | hop | hop | hop | hop | hop : o2.op = 0 ∨ o2.op = 1 ∨ o2.op = 2 ∨ o2.op = 3 ∨ o2.op = 4 ∨ o2.op = 5 ∨ o2.op = 6 ∨ o2.op = 7 := by omega
      · rw [hop] at k8
        have Hop := Lib.hid hop; clear hop
        go_wp2_with fail
        go_end0
        exact fin_why M2 C2 (by rfl) (by rfl) (by rfl) (by rfl) (stepQ_end (by simp [whyAt, Ho.out, Hop.out]) (by decide))
      · rw [hop] at k8
        by_cases hu : 1000000000 < un
        · have Hop := Lib.hid hop; clear hop
          go_wp2_with fail
          go_end0
          exact fin_why M2 C2 (by rfl) (by rfl) (by rfl) (by rfl) (stepQ_end (by simp [whyAt, Ho.out, Hop.out, Hun.out, hu]) (by decide))
        · have Hop := Lib.hid hop; clear hop
          go_wp2_with fail
          refine (move_any _ (by exact M2.heapEq rfl) a0 a1 b0 b1).mono ?_
          rintro e w3 ⟨rfl, pv', M3, C3, hp⟩
          have n4 := M3.c 4 (v := .int .i64 s.time) rfl; have e4 := M3.f 4
          have n5 := M3.c 5 (v := .int .i64 s.at_) rfl; have e5 := M3.f 5
          have n6 := M3.c 6 (v := .int .i64 s.done) rfl; have e6 := M3.f 6
          go_wp2_with fail
          go_end0
          exact fin_do M3 C2 C3 hp (by rfl) (by rfl) (by rfl) (by rfl) (by rw [stepQ_go (by simp [whyAt, Ho.out, Hop.out, Hun.out, hu]), Hat.out, Hun.out, Ho.out]; simp [doQ, Hop.out])
      · rw [hop] at k8
        by_cases hu : 1000000000 < un
        · have Hop := Lib.hid hop; clear hop
          go_wp2_with fail
          go_end0
          exact fin_why M2 C2 (by rfl) (by rfl) (by rfl) (by rfl) (stepQ_end (by simp [whyAt, Ho.out, Hop.out, Hun.out, hu]) (by decide))
        · have Hop := Lib.hid hop; clear hop
          go_wp2_with fail
          refine (add_any _ (by exact M2.heapEq rfl) a0 a1 b0 b1 hwf hwt).mono ?_
          rintro e w3 ⟨rfl, pv', M3, C3, hp⟩
          have n4 := M3.c 4 (v := .int .i64 s.time) rfl; have e4 := M3.f 4
          have n5 := M3.c 5 (v := .int .i64 s.at_) rfl; have e5 := M3.f 5
          have n6 := M3.c 6 (v := .int .i64 s.done) rfl; have e6 := M3.f 6
          go_wp2_with fail
          go_end0
          exact fin_do M3 C2 C3 hp (by rfl) (by rfl) (by rfl) (by rfl) (by rw [stepQ_go (by simp [whyAt, Ho.out, Hop.out, Hun.out, hu]), Hat.out, Hun.out, Ho.out]; simp [doQ, Hop.out])
      · rw [hop] at k8
        by_cases hu : 1000000000 < un
        · have Hop := Lib.hid hop; clear hop
          go_wp2_with fail
          go_end0
          exact fin_why M2 C2 (by rfl) (by rfl) (by rfl) (by rfl) (stepQ_end (by simp [whyAt, Ho.out, Hop.out, Hun.out, hu]) (by decide))
        · have Hop := Lib.hid hop; clear hop
          go_wp2_with fail
          refine (sub_any _ (by exact M2.heapEq rfl) a0 a1 b0 b1 hwf hwt).mono ?_
          rintro e w3 ⟨rfl, pv', M3, C3, hp⟩
          have n4 := M3.c 4 (v := .int .i64 s.time) rfl; have e4 := M3.f 4
          have n5 := M3.c 5 (v := .int .i64 s.at_) rfl; have e5 := M3.f 5
          have n6 := M3.c 6 (v := .int .i64 s.done) rfl; have e6 := M3.f 6
          go_wp2_with fail
          go_end0
          exact fin_do M3 C2 C3 hp (by rfl) (by rfl) (by rfl) (by rfl) (by rw [stepQ_go (by simp [whyAt, Ho.out, Hop.out, Hun.out, hu]), Hat.out, Hun.out, Ho.out]; simp [doQ, Hop.out])
      · rw [hop] at k8
        by_cases hu : 1000000000 < un
        · have Hop := Lib.hid hop; clear hop
          go_wp2_with fail
          go_end0
          exact fin_why M2 C2 (by rfl) (by rfl) (by rfl) (by rfl) (stepQ_end (by simp [whyAt, Ho.out, Hop.out, Hun.out, hu]) (by decide))
        · have Hop := Lib.hid hop; clear hop
          go_wp2_with fail
          refine (mul_any _ (by exact M2.heapEq rfl) a0 a1 b0 b1 hwf hwt).mono ?_
          rintro e w3 ⟨rfl, pv', M3, C3, hp⟩
          have n4 := M3.c 4 (v := .int .i64 s.time) rfl; have e4 := M3.f 4
          have n5 := M3.c 5 (v := .int .i64 s.at_) rfl; have e5 := M3.f 5
          have n6 := M3.c 6 (v := .int .i64 s.done) rfl; have e6 := M3.f 6
          go_wp2_with fail
          go_end0
          exact fin_do M3 C2 C3 hp (by rfl) (by rfl) (by rfl) (by rfl) (by rw [stepQ_go (by simp [whyAt, Ho.out, Hop.out, Hun.out, hu]), Hat.out, Hun.out, Ho.out]; simp [doQ, Hop.out])
      · rw [hop] at k8
        by_cases hu : 1000000000 < un
        · have Hop := Lib.hid hop; clear hop
          go_wp2_with fail
          go_end0
          exact fin_why M2 C2 (by rfl) (by rfl) (by rfl) (by rfl) (stepQ_end (by simp [whyAt, Ho.out, Hop.out, Hun.out, hu]) (by decide))
        · have Hop := Lib.hid hop; clear hop
          go_wp2_with fail
          refine (nop_any _ (by exact M2.heapEq rfl)).mono ?_
          rintro e w3 ⟨rfl, pv', M3, C3, hp⟩
          have n4 := M3.c 4 (v := .int .i64 s.time) rfl; have e4 := M3.f 4
          have n5 := M3.c 5 (v := .int .i64 s.at_) rfl; have e5 := M3.f 5
          have n6 := M3.c 6 (v := .int .i64 s.done) rfl; have e6 := M3.f 6
          go_wp2_with fail
          go_end0
          exact fin_do M3 C2 C3 hp (by rfl) (by rfl) (by rfl) (by rfl) (by rw [stepQ_go (by simp [whyAt, Ho.out, Hop.out, Hun.out, hu]), Hat.out, Hun.out, Ho.out]; simp [doQ, Hop.out])
      · rw [hop] at k8
        by_cases ht : s.taken = s.tape.length
        · have htb : (s.taken == (s.tape.length : Int)) = true := by simpa using ht
          have Hop := Lib.hid hop; clear hop
          have Ht := Lib.hid ht; clear ht
          go_wp2_with fail
          go_quiet (fail)
          go_wp2_with fail
          go_end0
          exact fin_why M2 C2 (by rfl) (by rfl) (by rfl) (by rfl) (stepQ_end (by simp [whyAt, Ho.out, Hop.out, Ht.out]) (by decide))
        · have htb : (s.taken == (s.tape.length : Int)) = false := by simpa using ht
          by_cases hu : 1000000000 < un
          · have Hop := Lib.hid hop; clear hop
            go_wp2_with fail
            go_quiet (fail)
            go_wp2_with fail
            go_end0
            exact fin_why M2 C2 (by rfl) (by rfl) (by rfl) (by rfl) (stepQ_end (by simp [whyAt, Ho.out, Hop.out, ht, Hun.out, hu]) (by decide))
          · have Hop := Lib.hid hop; clear hop
            go_wp2_with fail
            go_quiet (fail)
            go_wp2_with fail
            refine (read_any _ (by exact M2.heapEq rfl) b0 b1 ht1.1 (by omega) hl1).mono ?_
            rintro e w3 ⟨rfl, pv', M3, C3, hp⟩
            have n4 := M3.c 4 (v := .int .i64 s.time) rfl; have e4 := M3.f 4
            have n5 := M3.c 5 (v := .int .i64 s.at_) rfl; have e5 := M3.f 5
            have n6 := M3.c 6 (v := .int .i64 s.done) rfl; have e6 := M3.f 6
            go_wp2_with fail
            go_end0
            exact fin_do M3 C2 C3 hp (by rfl) (by rfl) (by rfl) (by rfl) (by rw [stepQ_go (by simp [whyAt, Ho.out, Hop.out, ht, Hun.out, hu]), Hat.out, Hun.out, Ho.out]; simp [doQ, Hop.out])
      · rw [hop] at k8
        by_cases ht : s.printed.length = 200
        · have htb : ((s.printed.length : Int) == 200) = true := by rw [beq_iff_eq]; omega
          have Hop := Lib.hid hop; clear hop
          have Ht := Lib.hid ht; clear ht
          go_wp2_with fail
          go_end0
          exact fin_why M2 C2 (by rfl) (by rfl) (by rfl) (by rfl) (stepQ_end (by simp [whyAt, Ho.out, Hop.out, Ht.out]) (by decide))
        · have htb : ((s.printed.length : Int) == 200) = false := by rw [beq_eq_false_iff_ne]; omega
          by_cases hu : 1000000000 < un
          · have Hop := Lib.hid hop; clear hop
            go_wp2_with fail
            go_end0
            exact fin_why M2 C2 (by rfl) (by rfl) (by rfl) (by rfl) (stepQ_end (by simp [whyAt, Ho.out, Hop.out, ht, Hun.out, hu]) (by decide))
          · have Hop := Lib.hid hop; clear hop
            go_wp2_with fail
            refine (print_any _ (by exact M2.heapEq rfl) a0 a1 (by omega)).mono ?_
            rintro e w3 ⟨rfl, pv', M3, C3, hp⟩
            have n4 := M3.c 4 (v := .int .i64 s.time) rfl; have e4 := M3.f 4
            have n5 := M3.c 5 (v := .int .i64 s.at_) rfl; have e5 := M3.f 5
            have n6 := M3.c 6 (v := .int .i64 s.done) rfl; have e6 := M3.f 6
            go_wp2_with fail
            go_end0
            exact fin_do M3 C2 C3 hp (by rfl) (by rfl) (by rfl) (by rfl) (by rw [stepQ_go (by simp [whyAt, Ho.out, Hop.out, ht, Hun.out, hu]), Hat.out, Hun.out, Ho.out]; simp [doQ, Hop.out])
end Go.Proofs.Ytjfggepgjpdebaa
/- Layer 4 in plain Lean, on: a run, and its trace. -/
namespace Go.Q
/-- an order that is done -/
structure Stp where
  at_ : Int
  ord : Ord
  time : Int
  until_ : Int
def runQ : Nat → St → St
  | 0, s => s
  | n + 1, s => if s.why = 0 then runQ n (stepQ s) else s
def traceQ : Nat → St → List Stp
  | 0, _ => []
  | n + 1, s => if s.why = 0 then (if whyAt s = 0 then ⟨s.at_, ordAt s, s.time, untilAt s⟩ :: traceQ n (stepQ s) else []) else []
theorem doQ_same (s : St) (o : Ord) : (doQ s o).tape = s.tape ∧ (doQ s o).time = s.time ∧ (doQ s o).at_ = s.at_ ∧ (doQ s o).done = s.done ∧ (doQ s o).why = s.why := by
  unfold doQ
  dsimp only
  repeat' split
  all_goals exact ⟨rfl, rfl, rfl, rfl, rfl⟩
theorem whyAt_bd (s : St) : 0 ≤ whyAt s ∧ whyAt s ≤ 4 := by
  unfold whyAt
  repeat' split
  all_goals omega
theorem after_mod (t a : Int) : after t a % 16 = a % 16 := by unfold after; omega
theorem after_gt (t a : Int) : t + 1 ≤ after t a ∧ after t a ≤ t + 16 := by unfold after; omega
theorem whenEnd_bd (o : Ord) (t : Int) : t + 1 ≤ whenEnd o t ∧ whenEnd o t ≤ t + 60 := by
  have h1 := after_gt t o.frm
  have h2 := after_gt t o.to
  have h3 := after_gt (after t o.frm) o.to
  have h4 := after_gt (after (after t o.frm) o.to + 12) o.to
  unfold whenEnd
  repeat' split
  all_goals omega
theorem until_bd (o : Ord) (t : Int) (ng : Bool) : t + 2 ≤ whenUntil o t ng ∧ whenUntil o t ng ≤ t + 76 ∧ whenUntil o t ng % 16 = whenAt o ng % 16 := by
  have h1 := whenEnd_bd o t
  have h2 := after_gt (whenEnd o t) (whenAt o ng)
  exact ⟨by unfold whenUntil; omega, by unfold whenUntil; omega, after_mod _ _⟩
theorem doQ_valid {s : St} (h : Valid s) (h7 : ¬((ordAt s).op = 7 ∧ s.printed.length = 200)) (h6 : ¬((ordAt s).op = 6 ∧ s.taken = s.tape.length)) :
    (doQ s (ordAt s)).store.length = 128 ∧ (doQ s (ordAt s)).printed.length ≤ 200 ∧ (∀ x ∈ (doQ s (ordAt s)).store, 0 ≤ x ∧ x ≤ 16777215) ∧ (∀ x ∈ (doQ s (ordAt s)).printed, 0 ≤ x ∧ x ≤ 16777215) ∧
      0 ≤ (doQ s (ordAt s)).taken ∧ (doQ s (ordAt s)).taken ≤ s.tape.length := by
  have ho := h.ord
  generalize ordAt s = o at *
  obtain ⟨_, ⟨a0, a1⟩, ⟨b0, b1⟩, _⟩ : (0 ≤ o.op ∧ o.op ≤ 7) ∧ (0 ≤ o.frm ∧ o.frm ≤ 127) ∧ (0 ≤ o.to ∧ o.to ≤ 127) ∧ 0 ≤ o.nxt ∧ o.nxt ≤ 127 := by
    simp only [ordB, addrB, Bool.and_eq_true] at ho
    exact ⟨inB_bd ho.1.1.1, inB_bd ho.1.1.2, inB_bd ho.1.2, inB_bd ho.2⟩
  have wa := h.word o.frm a0 a1
  have wb := h.word o.to b0 b1
  have st := h.ws
  have pt := h.wp
  have hl := h.len
  have hp := h.plen
  have ht := h.taken
  unfold doQ
  dsimp only
  split
  · exact ⟨by simpa using hl, hp, set_all st _ wa, pt, ht.1, ht.2⟩
  split
  · exact ⟨by simpa using hl, hp, set_all st _ (by omega), pt, ht.1, ht.2⟩
  split
  · exact ⟨by simpa using hl, hp, set_all st _ (by omega), pt, ht.1, ht.2⟩
  split
  · exact ⟨by simpa using hl, hp, set_all st _ (by unfold prod; omega), pt, ht.1, ht.2⟩
  split
  · rename_i e6
    have hlt : s.taken < s.tape.length := by
      rcases Int.lt_or_le s.taken s.tape.length with h | h'
      · exact h
      · exact absurd ⟨e6, by omega⟩ h6
    exact ⟨by simpa using hl, hp, set_all st _ (mem_get (by omega) h.wt), pt, by show 0 ≤ s.taken + 1; omega, by show s.taken + 1 ≤ _; omega⟩
  split
  · rename_i e7
    refine ⟨hl, ?_, st, ?_, ht.1, ht.2⟩
    · have : s.printed.length ≠ 200 := fun e => h7 ⟨e7, e⟩
      simp only [List.length_append, List.length_cons, List.length_nil]
      omega
    · intro x hx
      rcases List.mem_append.1 hx with h1 | h1
      · exact pt x h1
      · simp only [List.mem_singleton] at h1; exact h1 ▸ wa
  · exact ⟨hl, hp, st, pt, ht.1, ht.2⟩
theorem stepQ_valid {s : St} (h : Valid s) : Valid (stepQ s) := by
  unfold stepQ
  split
  · rename_i hw
    have h7 : ¬((ordAt s).op = 7 ∧ s.printed.length = 200) := by
      intro hc; unfold whyAt at hw; rw [if_neg (by omega), if_neg (by omega), if_pos hc] at hw; omega
    have h6 : ¬((ordAt s).op = 6 ∧ s.taken = s.tape.length) := by
      intro hc; unfold whyAt at hw; rw [if_neg (by omega), if_pos hc] at hw; omega
    have hu : untilAt s ≤ 1000000000 := by
      by_cases hc : untilAt s ≤ 1000000000
      · exact hc
      have hc' : 1000000000 < untilAt s := by omega
      by_cases h0 : (ordAt s).op = 0
      · simp [whyAt, h0] at hw
      · simp [whyAt, h0, h6, h7, hc'] at hw
    obtain ⟨d1, d2, d3, d4, d5, d6⟩ := doQ_valid h h7 h6
    obtain ⟨q1, q2, q3, q4, q5⟩ := doQ_same s (ordAt s)
    have ub := until_bd (ordAt s) s.time (negAt s)
    have ue : untilAt s = whenUntil (ordAt s) s.time (negAt s) := rfl
    have ho := h.ord
    simp only [ordB, addrB, Bool.and_eq_true] at ho
    have b1 := inB_bd ho.1.2
    have b2 := inB_bd ho.2
    have hat : 0 ≤ whenAt (ordAt s) (negAt s) ∧ whenAt (ordAt s) (negAt s) ≤ 127 := by unfold whenAt; split <;> assumption
    have ht := h.time
    have hd := h.done
    have hy := h.why
    exact ⟨d1, by show (doQ s (ordAt s)).tape.length ≤ _; rw [q1]; exact h.tlen, d2, d3, by show ∀ x ∈ (doQ s (ordAt s)).tape, _; rw [q1]; exact h.wt, d4,
      ⟨d5, by show _ ≤ ((doQ s (ordAt s)).tape.length : Int); rw [q1]; exact d6⟩, ⟨by show 0 ≤ untilAt s; omega, hu⟩, hat, ⟨by show 0 ≤ s.done + 1; omega, by show s.done + 1 ≤ untilAt s; omega⟩, by show 0 ≤ (doQ s (ordAt s)).why ∧ _; rw [q5]; exact hy, by show untilAt s % 16 = _; rw [ue]; exact ub.2.2⟩
  · have hy := whyAt_bd s
    exact ⟨h.len, h.tlen, h.plen, h.ws, h.wt, h.wp, h.taken, h.time, h.at_, h.done, hy, h.place⟩
theorem runQ_valid : ∀ (n : Nat) {s : St}, Valid s → Valid (runQ n s)
  | 0, _, h => h
  | n + 1, s, h => by
    unfold runQ
    split
    · exact runQ_valid n (stepQ_valid h)
    · exact h
/-- one order more -/
theorem runQ_snoc : ∀ (n : Nat) (s : St), runQ (n + 1) s = if (runQ n s).why = 0 then stepQ (runQ n s) else runQ n s
  | 0, s => rfl
  | n + 1, s => by
    show (if s.why = 0 then runQ (n + 1) (stepQ s) else s) = _
    by_cases h : s.why = 0
    · have e : runQ (n + 1) s = runQ n (stepQ s) := by simp [runQ, h]
      rw [if_pos h, e]; exact runQ_snoc n (stepQ s)
    · have e : runQ (n + 1) s = s := by simp [runQ, h]
      rw [if_neg h, e, if_neg h]
theorem stepQ_why {s : St} (h : s.why = 0) : (stepQ s).why = whyAt s := by
  unfold stepQ
  split
  · rename_i hw; rw [hw]; show (doQ s (ordAt s)).why = 0; rw [(doQ_same s _).2.2.2.2]; exact h
  · rfl
theorem traceQ_snoc : ∀ (n : Nat) (s : St), traceQ (n + 1) s = if (runQ n s).why = 0 ∧ (stepQ (runQ n s)).why = 0 then traceQ n s ++ [⟨(runQ n s).at_, ordAt (runQ n s), (runQ n s).time, (stepQ (runQ n s)).time⟩] else traceQ n s
  | 0, s => by
    by_cases h : s.why = 0
    · by_cases h2 : whyAt s = 0
      · have : (stepQ s).time = untilAt s := by unfold stepQ; rw [if_pos h2]
        simp [traceQ, runQ, h, h2, stepQ_why h, this]
      · simp [traceQ, runQ, h, h2, stepQ_why h]
    · simp [traceQ, runQ, h]
  | n + 1, s => by
    by_cases h : s.why = 0
    · have er : runQ (n + 1) s = runQ n (stepQ s) := by simp [runQ, h]
      by_cases h2 : whyAt s = 0
      · have e1 : traceQ (n + 1 + 1) s = ⟨s.at_, ordAt s, s.time, untilAt s⟩ :: traceQ (n + 1) (stepQ s) := by rw [traceQ]; simp [h, h2]
        have e2 : traceQ (n + 1) s = ⟨s.at_, ordAt s, s.time, untilAt s⟩ :: traceQ n (stepQ s) := by rw [traceQ]; simp [h, h2]
        rw [e1, e2, er, traceQ_snoc n (stepQ s)]
        split <;> simp
      · have e1 : traceQ (n + 1 + 1) s = [] := by rw [traceQ]; simp [h, h2]
        have e2 : traceQ (n + 1) s = [] := by rw [traceQ]; simp [h, h2]
        have hs : (stepQ s).why ≠ 0 := by rw [stepQ_why h]; exact h2
        have e3 : (runQ n (stepQ s)).why ≠ 0 := by
          cases n with
          | zero => exact hs
          | succ n => simp [runQ, hs]
        rw [e1, e2, er, if_neg (fun c => e3 c.1)]
    · have er : runQ (n + 1) s = s := by simp [runQ, h]
      have e1 : traceQ (n + 1 + 1) s = [] := by rw [traceQ]; simp [h]
      have e2 : traceQ (n + 1) s = [] := by rw [traceQ]; simp [h]
      rw [e1, e2, er, if_neg (fun c => h c.1)]
theorem traceQ_le : ∀ (n : Nat) (s : St), (traceQ n s).length ≤ n
  | 0, _ => Nat.le_refl _
  | n + 1, s => by
    have := traceQ_le n (stepQ s)
    unfold traceQ
    repeat' split
    all_goals simp
    omega
end Go.Q
/- Contract: machine.run, whatever it tells. -/
namespace Go.Proofs.Ytjfggepgjpdebaa
open Go.RowKit Go.Q
/-- a step as a value -/
abbrev stv (x : Stp) : Value := .agg #[.int .i64 x.at_, .int .i64 x.ord.op, .int .i64 x.ord.frm, .int .i64 x.ord.to, .int .i64 x.ord.nxt, .int .i64 x.time, .int .i64 x.until_]
/-- rows of ints and machines stay -/
def KeepT (w w' : World) : Prop := w.heap.size ≤ w'.heap.size ∧ ∀ (k : Nat) (c : Array Value) (T : TypeId) (fr : Nat × Nat), w.heap[k]? = some (Obj.cells c T fr) → T = 3 ∨ T = 92 → w'.heap[k]? = w.heap[k]?
theorem KeepT.of_ext {w w' : World} (h : Ext w w') : KeepT w w' := ⟨h.size, fun k c T fr hk _ => h.block k (lt_of_block hk)⟩
theorem KeepT.set {w : World} {b : Nat} {cs : Array Value} {T : TypeId} {fr : Nat × Nat} (hb : w.heap[b]? = some (.cells cs T fr)) (h1 : T ≠ 3) (h2 : T ≠ 92) (i : Nat) (v : Value) : KeepT w (w.setCell ⟨b, i, none⟩ v) :=
  ⟨by simp [World.setCell], fun k c U fr' hk hU => Below.heap_setCell _ _ _ _ (fun e => by
    have e' : k = b := e
    rw [e'] at hk
    have := hb.symm.trans hk
    simp only [Option.some.injEq, Obj.cells.injEq] at this
    obtain ⟨_, rfl, _⟩ := this
    exact hU.elim h1 h2)⟩
variable {nb m g1 c1 : Nat} {tv pv : Value} {s : St} {o : Ord}
theorem Mac.keep {w w' : World} (h : Mac w nb m g1 c1 tv pv s o) (k : KeepT w w') : Mac w' nb m g1 c1 tv pv s o where
  low := h.low
  blk := (k.2 _ _ _ _ h.blk (.inr rfl)).trans h.blk
  st := by obtain ⟨cur, hg, ht⟩ := h.st; exact ⟨cur, (k.2 _ _ _ _ hg (.inl rfl)).trans hg, ht⟩
  len := h.len
  tp := by
    obtain ⟨a2, c2, hv, ht⟩ := h.tp
    refine ⟨a2, c2, hv, ?_⟩
    rcases ht with ht | ⟨b, off, ha, ⟨cu, hcu⟩, h1, h2, h3, hc⟩
    · exact .inl ht
    · have e := k.2 _ _ _ _ hcu (.inl rfl)
      exact .inr ⟨b, off, ha, ⟨cu, e.trans hcu⟩, h1, h2, h3, fun i hi => (World.cell?_of_block (w := w) e).trans (hc i hi)⟩
  prow := own_later h.prow (fun b hb => by
    rcases h.prow.2 with ⟨e, _⟩ | ⟨g, cap, cur, e, _, hg, _⟩
    · rw [e] at hb; cases hb
    · rw [e] at hb
      obtain rfl : g = b := by simpa [Value.ownBlock] using hb
      exact k.2 _ _ _ _ hg (.inl rfl))
  pm := h.pm
  pg := h.pg
theorem KeepT.trans {a b c : World} (h : KeepT a b) (k : KeepT b c) : KeepT a c :=
  ⟨Nat.le_trans h.1 k.1, fun i cs T fr hi hT => by
    have e := h.2 i cs T fr hi hT
    exact (k.2 i cs T fr (e.trans hi) hT).trans e⟩
/-- five cells of a block that is no machine's are written -/
theorem set5 {w : World} {b : Nat} {cs : Array Value} {T : TypeId} (hb : w.heap[b]? = some (.cells cs T (0, 0))) (h1 : T ≠ 3) (h2 : T ≠ 92) (i j k l n : Nat) (x y z u v : Value) :
    KeepT w (((((w.setCell ⟨b, i, none⟩ x).setCell ⟨b, j, none⟩ y).setCell ⟨b, k, none⟩ z).setCell ⟨b, l, none⟩ u).setCell ⟨b, n, none⟩ v) ∧
      Chg (fun q => q = b) w (((((w.setCell ⟨b, i, none⟩ x).setCell ⟨b, j, none⟩ y).setCell ⟨b, k, none⟩ z).setCell ⟨b, l, none⟩ u).setCell ⟨b, n, none⟩ v) := by
  have b1 := cells_set hb i x
  have b2 := cells_set b1 j y
  have b3 := cells_set b2 k z
  have b4 := cells_set b3 l u
  refine ⟨((((KeepT.set hb h1 h2 i x).trans (KeepT.set b1 h1 h2 j y)).trans (KeepT.set b2 h1 h2 k z)).trans (KeepT.set b3 h1 h2 l u)).trans (KeepT.set b4 h1 h2 n v), ?_⟩
  exact ((((((Chg.refl (fun q => q = b) w).setCell ⟨b, i, none⟩ rfl x).setCell ⟨b, j, none⟩ rfl y).setCell ⟨b, k, none⟩ rfl z).setCell ⟨b, l, none⟩ rfl u).setCell ⟨b, n, none⟩ rfl v)
theorem runQ_stop {s : St} {k : Nat} (h : (runQ k s).why ≠ 0) : ∀ j, runQ (k + j) s = runQ k s ∧ traceQ (k + j) s = traceQ k s
  | 0 => ⟨rfl, rfl⟩
  | j + 1 => by
    obtain ⟨h1, h2⟩ := runQ_stop h j
    have e : k + (j + 1) = (k + j) + 1 := rfl
    rw [e, runQ_snoc, traceQ_snoc, h1, h2, if_neg h, if_neg (fun c => h c.1)]
    exact ⟨rfl, rfl⟩
/-- what is asked of the function that is told each step -/
structure Tell (P : Program) (g : Nat) (lb : Array Value) (nb m g1 c1 n0 : Nat) (I : List Stp → World → Prop) : Prop where
  keep : ∀ l W W' tv pv s o, Mac W nb m g1 c1 tv pv s o → Chg (Own3 m g1 pv) W W' → I l W → I l W'
  tell : ∀ x l W, l.length ≤ 5000 → n0 ≤ W.heap.size → I l W → Calls P g (#[stv x] ++ lb) W fun e w' => e = .returned (.tuple #[]) ∧ I (l ++ [x]) w' ∧ KeepT W w' ∧ Below n0 W w'
/-- the machine has run -/
def RunRes (nb m g1 c1 n0 : Nat) (tv : Value) (I : List Stp → World → Prop) (s : St) (n : Nat) (w : World) (e : Ending) (w' : World) : Prop :=
  e = .returned (.tuple #[]) ∧ (∃ pv o, Mac w' nb m g1 c1 tv pv (runQ n s) o) ∧ I (traceQ n s) w' ∧ Below n0 w w'
set_option maxHeartbeats 8000000 in
set_option maxRecDepth 100000 in
theorem run_any (w : World) (n0 most : Nat) (g : Nat) (lb : Array Value) (I : List Stp → World → Prop) (h : Mac w nb m g1 c1 tv pv s o) (hv : Valid s) (hm : most ≤ 5000) (hn0 : n0 ≤ nb)
    (eg : ∀ args w, (callFunc g args).run Try.prog w = .ok (.enter g args) w) (hT : Tell Try.prog g lb nb m g1 c1 n0 I) (hI : I [] w) :
    Calls Try.prog 60 #[.pointer (some ⟨m, 0, none⟩), .int .i64 most, .func (.func g) #[] lb] w (RunRes nb m g1 c1 n0 tv I s most w) := by
  have HT := Lib.hid hT
  have HV := Lib.hid hv
  have Hm0 := Lib.hid (And.intro hI h)
  clear hT hv hI h
  go_enter Try.func60, Try.ntmps60
  go_wp2
  go_step3
  go_wp2
  go_step3
  go_wp2
  go_loopg [6, 8] (most + 1) (fun gg _ s8 wr => ∃ k : Nat, k ≤ most ∧ most + 1 - k ≤ gg ∧ s8 = .int .i64 k ∧ Aside (∃ pv o, Mac wr nb m g1 c1 tv pv (runQ k s) o) ∧ Aside (I (traceQ k s) wr) ∧ Aside (Below n0 w wr))
  case atStart => exact ⟨0, by omega, by omega, rfl, ⟨_, _, Hm0.out.2⟩, Hm0.out.1, Below.refl _ _⟩
  case round =>
    obtain ⟨k, hk, hg, rfl, hM, hI, hB⟩ := hrel
    clear Hm0
    obtain ⟨pk, ok, M⟩ := hM.out
    clear hM
    by_cases hlt : k < most
    · have hltz : (k : Int) < (most : Int) := by omega
      have k7 := M.c 7 (v := .int .i64 (runQ k s).why) rfl
      have k4 := M.c 4 (v := .int .i64 (runQ k s).time) rfl
      have k5 := M.c 5 (v := .int .i64 (runQ k s).at_) rfl
      have k4' : ∀ ob, (wr.alloc ob).cell? ⟨m, 4, none⟩ = some (.int .i64 (runQ k s).time) := fun ob => cell_later ((Ext.refl wr).alloc ob) k4
      have k5' : ∀ ob, (wr.alloc ob).cell? ⟨m, 5, none⟩ = some (.int .i64 (runQ k s).at_) := fun ob => cell_later ((Ext.refl wr).alloc ob) k5
      have V := Lib.hid (runQ_valid k HV.out)
      have R1 := Lib.hid (runQ_snoc k s)
      have R2 := Lib.hid (traceQ_snoc k s)
      have R3 := Lib.hid (runQ_stop (s := s) (k := k))
      have hll := traceQ_le k s
      generalize runQ k s = sk at *
      generalize traceQ k s = lk at *
      cases hy : sk.why == 0 with
      | false =>
        have hy' : (sk.why != 0) = true := by rw [bne, hy]; rfl
        have Hy := Lib.hid hy
        clear hy
        go_wp2_with fail
        rw [Exit.noGoto_normal]
        go_end0
        have hne : sk.why ≠ 0 := by have := Hy.out; intro e; rw [e] at this; exact absurd this (by decide)
        obtain ⟨e1, e2⟩ := R3.out hne (most - k)
        have ek : k + (most - k) = most := by omega
        rw [ek] at e1 e2
        exact ⟨rfl, ⟨pk, ok, by rw [e1]; exact M⟩, by rw [e2]; exact hI.out, hB.out⟩
      | true =>
        have hy' : (sk.why != 0) = false := by rw [bne, hy]; rfl
        have Hy := Lib.hid hy
        clear hy
        go_wp2_with fail
        go_region
        go_wp2_with fail
        have hy0 : sk.why = 0 := by simpa using Hy.out
        have hlt1 := M.ltm
        have hlt2 := M.ltg
        have hnm := M.low.1
        refine (step_any _ (by exact M.ext ((Ext.refl wr).alloc _).drew) V.out hy0).mono ?_
        rintro e w2 ⟨rfl, pv2, M2, C2, hp2⟩
        have hx : w2.heap[wr.heap.size]? = some (.cells #[.int .i64 sk.at_, .int .i64 0, .int .i64 0, .int .i64 0, .int .i64 0, .int .i64 sk.time, .int .i64 0] 85 (0, 0)) :=
          (C2.block wr.heap.size (by simp) (fun hS => by
            rcases hS with hS | hS | hS
            · omega
            · omega
            · have := own_lt M.prow hS; omega)).trans (show (wr.heap.push _)[wr.heap.size]? = _ by simp)
        have C3 : Chg (Own3 m g1 pk) wr w2 := (Chg.of_ext ((Ext.refl wr).alloc _).drew).trans C2
        have B3 : Below n0 w w2 := hB.out.trans (C3.below (fun k hS => by
          rcases hS with hS | hS | hS
          · omega
          · have := M.low.2.1; omega
          · rcases M.prow.2 with ⟨h1, _⟩ | ⟨g', cap', cur', h1, h2, _⟩
            · rw [h1] at hS; cases hS
            · rw [h1] at hS
              obtain rfl : g' = k := by simpa [Value.ownBlock] using hS
              omega) (by omega))
        have ew := stepQ_why hy0
        have j7 := M2.c 7 (v := .int .i64 (whyAt sk)) (by rw [← ew]; rfl)
        have hxm : wr.heap.size ≠ m := by omega
        have hmx : m ≠ wr.heap.size := by omega
        have Hx := Lib.hid hx
        have HC := Lib.hid C3
        have HE := Lib.hid ew
        have Hyy := Lib.hid hy0
        clear C2 C3 ew hy0 k4 k5 k7 k4' k5'
        cases hz : whyAt sk == 0 with
        | false =>
          have Hz := Lib.hid hz
          rw [show whyAt sk = whyAt sk from rfl] at j7
          go_wp2_with fail
          go_roundg (most - k)
          case measure => omega
          case rel =>
            have hs2 : (stepQ sk).why ≠ 0 := by rw [HE.out]; intro e; rw [e] at Hz; exact absurd Hz.out (by decide)
            refine ⟨k + 1, by omega, by omega, by go_num, ?_, ?_, B3⟩
            · rw [R1.out, if_pos Hyy.out]; exact ⟨_, _, M2⟩
            · rw [R2.out, if_neg (fun c => hs2 c.2)]; exact HT.out.keep _ _ _ _ _ _ _ M HC.out hI.out
        | true =>
          have Hz := Lib.hid hz
          have j8 := M2.c 8 (v := .int .i64 (ordAt sk).op) rfl
          have j9 := M2.c 9 (v := .int .i64 (ordAt sk).frm) rfl
          have j10 := M2.c 10 (v := .int .i64 (ordAt sk).to) rfl
          have j11 := M2.c 11 (v := .int .i64 (ordAt sk).nxt) rfl
          have j4 := M2.c 4 (v := .int .i64 (stepQ sk).time) rfl
          have x0 := cell_of_cells hx 0 (v := .int .i64 sk.at_) rfl
          have x1 := cell_of_cells hx 1 (v := .int .i64 0) rfl
          have x2 := cell_of_cells hx 2 (v := .int .i64 0) rfl
          have x3 := cell_of_cells hx 3 (v := .int .i64 0) rfl
          have x4 := cell_of_cells hx 4 (v := .int .i64 0) rfl
          have x5 := cell_of_cells hx 5 (v := .int .i64 sk.time) rfl
          have x6 := cell_of_cells hx 6 (v := .int .i64 0) rfl
          have y1 := free_of_cells hx 1
          have y2 := free_of_cells hx 2
          have y3 := free_of_cells hx 3
          have y4 := free_of_cells hx 4
          have y6 := free_of_cells hx 6
          clear hx
          have ht := fun (W : World) (h1 : n0 ≤ W.heap.size) (h2 : I lk W) => HT.out.tell ⟨sk.at_, ordAt sk, sk.time, (stepQ sk).time⟩ lk W (by omega) h1 h2
          have HT2 := Lib.hid ht
          clear ht
          go_wp2_with fail
          go_region
          go_wp2_with fail
          have S5 := set5 Hx.out (by decide) (by decide) 1 2 3 4 6 (.int .i64 (ordAt sk).op) (.int .i64 (ordAt sk).frm) (.int .i64 (ordAt sk).to) (.int .i64 (ordAt sk).nxt) (.int .i64 (stepQ sk).time)
          have CW := (HC.out.trans' S5.2 (fun i hi e => by omega)).trans (.of_ext (Ext.refl _).drew)
          have MW := (M2.keep S5.1).ext (Ext.refl _).drew
          have BW := (B3.trans (S5.2.below (n := n0) (fun k e => by omega) (by have := M2.ltm; omega))).drew
          have hnw : n0 ≤ w2.heap.size := by have := M2.ltm; omega
          refine (HT2.out _ (by exact Nat.le_trans hnw S5.1.1) (HT.out.keep _ _ _ _ _ _ _ M CW hI.out)).mono ?_
          rintro e w3 ⟨rfl, hI3, hK3, hB3⟩
          have M3 := MW.keep hK3
          have B4 := BW.trans hB3
          clear S5 CW MW BW hK3 hB3 x0 x1 x2 x3 x4 x5 x6 y1 y2 y3 y4 y6 j4 j7 j8 j9 j10 j11
          go_wp2_with fail
          go_roundg (most - k)
          case measure => omega
          case rel =>
            have hs2 : (stepQ sk).why = 0 := by rw [HE.out]; simpa using Hz.out
            refine ⟨k + 1, by omega, by omega, by go_num, ?_, ?_, B4⟩
            · rw [R1.out, if_pos Hyy.out]; exact ⟨_, _, M3⟩
            · rw [R2.out, if_pos ⟨Hyy.out, hs2⟩]; exact hI3
    · have hltz : ¬ (k : Int) < (most : Int) := by omega
      have hkm : k = most := by omega
      have Hkm := Lib.hid hkm
      clear hkm
      go_wp2_with fail
      go_end0
      exact ⟨rfl, ⟨pk, ok, by rw [← Hkm.out]; exact M⟩, by rw [← Hkm.out]; exact hI.out, hB.out⟩
end Go.Proofs.Ytjfggepgjpdebaa
/- Layer 4 in plain Lean, on: what Run, Trace and Begin return. -/
namespace Go.Q
open Go.RowKit
def runE (s : St) (most : Int) : St × Int := if askedQ s most = 0 then (runQ most.toNat s, 0) else (zst, askedQ s most)
theorem asked_ok {s : St} {most : Int} (h : askedQ s most = 0) : (checkQ s).2.2 = 0 ∧ inB most 0 5000 = true := by
  by_cases h1 : (checkQ s).2.2 = 0
  · refine ⟨h1, ?_⟩
    cases h2 : inB most 0 5000 with
    | true => rfl
    | false => simp [askedQ, h1, h2] at h
  · simp [askedQ, h1] at h
theorem check_zero {s : St} (h : (checkQ s).2.2 = 0) : checkQ s = (0, 0, 0) := by
  unfold checkQ at *
  repeat' split at h
  all_goals first | (simp at h; done) | skip
  simp_all
  rw [if_neg (by omega), if_neg (by omega), if_neg (by omega)]
end Go.Q
/- Contract: the program's Run. -/
namespace Go.Proofs.Ytjfggepgjpdebaa
open Go.RowKit Go.Q
variable {nb m g1 c1 n0 : Nat} {tv pv : Value} {s : St} {o : Ord}
theorem Mac.reads {w : World} (h : Mac w nb m g1 c1 tv pv s o) : ∃ a2 ct a3 cp, tv = .slice a2 s.tape.length ct ∧ pv = .slice a3 s.printed.length cp ∧ IntsAt w (some ⟨g1, 0, none⟩) s.store ∧ IntsAt w a2 s.tape ∧ IntsAt w a3 s.printed := by
  obtain ⟨a2, ct, hv, ht⟩ := h.tp
  obtain ⟨a3, cp, hp⟩ := own_form h.prow
  refine ⟨a2, ct, a3, cp, hv, hp, .inr ⟨g1, 0, rfl, h.ltg, fun i hi => by rw [Nat.zero_add]; exact h.wc i (by rw [← h.len]; exact hi)⟩, ?_, ?_⟩
  · rcases ht with e | ⟨b, off, ha, ⟨cu, hcu⟩, _, _, _, hc⟩
    · exact .inl e
    · exact .inr ⟨b, off, ha, lt_of_block hcu, hc⟩
  · have := h.prow
    rw [hp] at this
    exact own_ints this
theorem keepM_tell : Tell Try.prog 61 #[] nb m g1 c1 n0 (fun _ _ => True) where
  keep := fun _ _ _ _ _ _ _ _ _ _ => trivial
  tell := fun x l W _ hn _ => by
    go_enter Try.func61, Try.ntmps61
    go_wp2
    go_end0
    exact ⟨rfl, trivial, KeepT.of_ext ((Ext.refl W).alloc _), (Below.refl n0 W).alloc hn _⟩
theorem blk2 {w w1 : World} {o : Obj} {vs : Array Value} {T : TypeId} (h : Ext ((w.alloc o).alloc (.cells vs T)) w1) : w1.heap[w.heap.size + 1]? = some (.cells vs T (0, 0)) := by
  refine (h.block (w.heap.size + 1) (by simp)).trans ?_
  have e := heap_alloc_new (w.alloc o) (.cells vs T)
  rw [World.size_alloc] at e
  exact e
theorem keep8 {w : World} {b : Nat} {cs : Array Value} {T : TypeId} (hb : w.heap[b]? = some (.cells cs T (0, 0))) (h1 : T ≠ 3) (h2 : T ≠ 92) (v0 v1 v2 v3 v4 v5 v6 v7 : Value) :
    KeepT w ((((((((w.setCell ⟨b, 0, none⟩ v0).setCell ⟨b, 1, none⟩ v1).setCell ⟨b, 2, none⟩ v2).setCell ⟨b, 3, none⟩ v3).setCell ⟨b, 4, none⟩ v4).setCell ⟨b, 5, none⟩ v5).setCell ⟨b, 6, none⟩ v6).setCell ⟨b, 7, none⟩ v7) := by
  have b1 := cells_set hb 0 v0
  have b2 := cells_set b1 1 v1
  have b3 := cells_set b2 2 v2
  have b4 := cells_set b3 3 v3
  have b5 := cells_set b4 4 v4
  have b6 := cells_set b5 5 v5
  have b7 := cells_set b6 6 v6
  exact (((((((KeepT.set hb h1 h2 0 v0).trans (KeepT.set b1 h1 h2 1 v1)).trans (KeepT.set b2 h1 h2 2 v2)).trans (KeepT.set b3 h1 h2 3 v3)).trans (KeepT.set b4 h1 h2 4 v4)).trans (KeepT.set b5 h1 h2 5 v5)).trans (KeepT.set b6 h1 h2 6 v6)).trans (KeepT.set b7 h1 h2 7 v7)
set_option maxHeartbeats 4000000 in
set_option maxRecDepth 100000 in
theorem run_bad (v : Value) (s : St) (most : Int) (w : World) (h : StAt w v s) (hb : StBd s) (he : askedQ s most ≠ 0) :
    Calls Try.prog 22 #[v, .int .i64 most] w (StRes (runE s most) w) := by
  have e1 : runE s most = (zst, askedQ s most) := by simp [runE, he]
  rw [e1]
  have ho := fun W (E : Ext w W) => open_bad v s most W (h.ext E) hb he
  have hne : (askedQ s most != 0) = true := by simpa using he
  obtain ⟨a1, a2, a3, k1, k2, k3, rfl, _, _, _⟩ := h
  clear he e1 hb
  generalize askedQ s most = er at *
  go_enter Try.func22, Try.ntmps22
  go_wp2_with fail
  refine (ho _ (by exact ((Ext.refl w).alloc _).alloc _)).mono ?_
  rintro e w3 ⟨rfl, hb3⟩
  have q0 := box_at2 (v := .slice none 0 0) hb3 0 rfl
  have q1 := box_at2 (v := .slice none 0 0) hb3 1 rfl
  have q2 := box_at2 (v := .int .i64 0) hb3 2 rfl
  have q3 := box_at2 (v := .slice none 0 0) hb3 3 rfl
  have q4 := box_at2 (v := .int .i64 0) hb3 4 rfl
  have q5 := box_at2 (v := .int .i64 0) hb3 5 rfl
  have q6 := box_at2 (v := .int .i64 0) hb3 6 rfl
  have q7 := box_at2 (v := .int .i64 0) hb3 7 rfl
  have f0 := box_free2 hb3 0
  have f1 := box_free2 hb3 1
  have f2 := box_free2 hb3 2
  have f3 := box_free2 hb3 3
  have f4 := box_free2 hb3 4
  have f5 := box_free2 hb3 5
  have f6 := box_free2 hb3 6
  have f7 := box_free2 hb3 7
  go_wp2_with fail
  refine bodyPost_ret (v := .tuple #[.agg #[.slice none 0 0, .slice none 0 0, .int .i64 0, .slice none 0 0, .int .i64 0, .int .i64 0, .int .i64 0, .int .i64 0], .int .i64 er]) (by simp [results, Try.results22, go_sem, q0, q1, q2, q3, q4, q5, q6, q7]) rfl ?_
  exact ⟨_, rfl, ⟨none, none, none, 0, 0, 0, rfl, .inl rfl, .inl rfl, .inl rfl⟩, ext_set8 (Ext.old (Ext.old hb3)) (by omega) _ _ _ _ _ _ _ _⟩
set_option maxHeartbeats 4000000 in
set_option maxRecDepth 100000 in
theorem run_good (v : Value) (s : St) (most : Int) (w : World) (h : StAt w v s) (hb : StBd s) (he : askedQ s most = 0) :
    Calls Try.prog 22 #[v, .int .i64 most] w (StRes (runE s most) w) := by
  have e1 : runE s most = (runQ most.toNat s, 0) := by simp [runE, he]
  rw [e1]
  obtain ⟨z1, z2⟩ := asked_ok he
  have hv := valid_of_check z1
  have z3 := check_zero z1
  obtain ⟨p0, p1⟩ := inB_bd z2
  obtain ⟨a1, a2, a3, k1, k2, k3, rfl, i1, i2, i3⟩ := h
  rw [hv.len]
  have ho := fun W (E : Ext w W) => open_ok a1 a2 a3 _ _ k1 k2 k3 s most W hv.len rfl rfl hv.tlen hv.plen (i1.ext E) (i2.ext E) (i3.ext E) z3 z2
  clear i1 i2 i3 z1 z2 z3 he e1 hb
  obtain ⟨n, rfl⟩ := Int.eq_ofNat_of_zero_le p0
  have hn : n ≤ 5000 := by omega
  have HV := Lib.hid hv
  clear hv p0 p1
  have en : ((n : Int)).toNat = n := rfl
  rw [en]
  clear en
  go_enter Try.func22, Try.ntmps22
  go_wp2_with fail
  refine (ho _ (by exact ((Ext.refl w).alloc _).alloc _)).mono ?_
  rintro e w3 ⟨m, g1, c1, tv, pv, rfl, M, hb3⟩
  clear ho
  go_wp2_with fail
  refine (run_any w3 (w.heap.size + 2) n 61 #[] (fun _ _ => True) M HV.out hn (by simp) (enters_of Try.func61 (by kernel_rfl) rfl) keepM_tell trivial).mono ?_
  rintro e w4 ⟨rfl, ⟨pv4, o4, M4⟩, _, hB4⟩
  have hb4 : Ext ((w.alloc _).alloc _) w4 := hb3.trans (by simpa using hB4)
  have q0 := box_at2 (v := .slice none 0 0) hb4 0 rfl
  have q1 := box_at2 (v := .slice none 0 0) hb4 1 rfl
  have q2 := box_at2 (v := .int .i64 0) hb4 2 rfl
  have q3 := box_at2 (v := .slice none 0 0) hb4 3 rfl
  have q4 := box_at2 (v := .int .i64 0) hb4 4 rfl
  have q5 := box_at2 (v := .int .i64 0) hb4 5 rfl
  have q6 := box_at2 (v := .int .i64 0) hb4 6 rfl
  have q7 := box_at2 (v := .int .i64 0) hb4 7 rfl
  have f0 := box_free2 hb4 0
  have f1 := box_free2 hb4 1
  have f2 := box_free2 hb4 2
  have f3 := box_free2 hb4 3
  have f4 := box_free2 hb4 4
  have f5 := box_free2 hb4 5
  have f6 := box_free2 hb4 6
  have f7 := box_free2 hb4 7
  obtain ⟨b2, bt, b3, bp, rfl, rfl, _, _, _⟩ := M4.reads
  have M5 := M4.keep (keep8 (blk2 hb4) (by decide) (by decide) (.slice (some ⟨g1, 0, none⟩) 128 c1) (.slice b2 (runQ n s).tape.length bt) (.int .i64 (runQ n s).taken) (.slice b3 (runQ n s).printed.length bp) (.int .i64 (runQ n s).time) (.int .i64 (runQ n s).at_) (.int .i64 (runQ n s).done) (.int .i64 (runQ n s).why))
  have HM5 := Lib.hid M5
  clear M5
  have r0 := M4.c 0 (v := .slice (some ⟨g1, 0, none⟩) 128 c1) rfl
  have r1 := M4.c 1 (v := .slice b2 (runQ n s).tape.length bt) rfl
  have r2 := M4.c 2 (v := .int .i64 (runQ n s).taken) rfl
  have r3 := M4.c 3 (v := .slice b3 (runQ n s).printed.length bp) rfl
  have r4 := M4.c 4 (v := .int .i64 (runQ n s).time) rfl
  have r5 := M4.c 5 (v := .int .i64 (runQ n s).at_) rfl
  have r6 := M4.c 6 (v := .int .i64 (runQ n s).done) rfl
  have r7 := M4.c 7 (v := .int .i64 (runQ n s).why) rfl
  have hlen := Lib.hid M4.len
  clear M M4 hB4 hb3
  go_wp2_with fail
  refine bodyPost_ret (v := .tuple #[.agg #[.slice (some ⟨g1, 0, none⟩) 128 c1, .slice b2 (runQ n s).tape.length bt, .int .i64 (runQ n s).taken, .slice b3 (runQ n s).printed.length bp, .int .i64 (runQ n s).time, .int .i64 (runQ n s).at_, .int .i64 (runQ n s).done, .int .i64 (runQ n s).why], .int .i64 0]) (by simp [results, Try.results22, go_sem, q0, q1, q2, q3, q4, q5, q6, q7]) rfl ?_
  obtain ⟨d2, dt, d3, dp, x1, x2, I1, I2, I3⟩ := HM5.out.reads
  obtain ⟨rfl, -, rfl⟩ := Value.slice.inj x1
  obtain ⟨rfl, -, rfl⟩ := Value.slice.inj x2
  exact ⟨_, rfl, ⟨some ⟨g1, 0, none⟩, b2, b3, c1, bt, bp, by rw [hlen.out], I1, I2, I3⟩, ext_set8 (Ext.old (Ext.old hb4)) (by omega) _ _ _ _ _ _ _ _⟩
theorem runE_any (v : Value) (s : St) (most : Int) (w : World) (h : StAt w v s) (hb : StBd s) : Calls Try.prog 22 #[v, .int .i64 most] w (StRes (runE s most) w) := by
  by_cases he : askedQ s most = 0
  · exact run_good v s most w h hb he
  · exact run_bad v s most w h hb he
end Go.Proofs.Ytjfggepgjpdebaa
/- Layers 4 and 5 in plain Lean: an order of layer 4 is some minor cycles of layer 5. -/
namespace Go.Q
/-- the machine of layer 5 is between two orders, at the state s of layer 4 -/
structure AtS (s : St) (p : Pu) : Prop where
  store : p.store = s.store
  tape : p.tape = s.tape
  taken : p.taken = s.taken
  printed : p.printed = s.printed
  clock : p.clock = s.time
  at_ : p.at_ = s.at_
  phase : p.phase = 0
  count : p.count = 0
  done : p.done = s.done
  why : p.why = 0
/-- it waits for the word at an address -/
theorem wait_one {p : Pu} (h3 : p.phase ≠ 3) (hy : p.why = 0) (hc : p.clock ≠ 1000000000) (hm : (addrP p - p.clock) % 16 ≠ 0) : minorP p = { p with clock := p.clock + 1 } := by
  have hcm : comesP p = false := by
    unfold comesP
    rw [decide_eq_false hm, Bool.and_false]
  have hst : storeP p = p := by unfold storeP; rw [hcm]; simp
  have hms : multsP p = p := by unfold multsP; rw [if_neg h3]
  unfold minorP
  rw [if_neg (by omega), if_neg hc, hst, hms, hcm]
  unfold endP
  rw [if_neg (by simp [h3])]
  unfold tickP
  rw [if_pos hy]
theorem wait_some : ∀ (d : Nat) {p : Pu}, p.phase ≠ 3 → p.why = 0 → (addrP p - p.clock) % 16 = d → p.clock + d ≤ 1000000000 → minorsP d p = { p with clock := p.clock + d }
  | 0, p, _, _, _, _ => by show p = _; simp
  | d + 1, p, h3, hy, hm, hc => by
    show minorsP d (minorP p) = _
    rw [wait_one h3 hy (by omega) (by omega)]
    have ih := wait_some d (p := { p with clock := p.clock + 1 }) h3 hy (by show (addrP p - (p.clock + 1)) % 16 = _; omega) (by show p.clock + 1 + (d : Int) ≤ _; omega)
    rw [ih]
    show ({ p with clock := p.clock + 1 + (d : Int) } : Pu) = { p with clock := p.clock + ((d + 1 : Nat) : Int) }
    rw [show p.clock + 1 + (d : Int) = p.clock + ((d + 1 : Nat) : Int) by omega]
/-- the word for which it waits comes by -/
theorem come_one {p : Pu} (h3 : p.phase ≠ 3) (hy : p.why = 0) (hc : p.clock ≠ 1000000000) (h0 : 0 ≤ addrP p) (hm : (addrP p - p.clock) % 16 = 0) :
    minorP p = tickP (cameP (storeP p) (p.store[(addrP p).toNat]?.getD 0)) ∧ storeP p = if replP p = true then { p with store := p.store.set (addrP p).toNat (resP p (p.store[(addrP p).toNat]?.getD 0)) } else p := by
  have hcm : comesP p = true := by
    unfold comesP
    rw [decide_eq_true hm, decide_eq_true h0]; rfl
  have hw : wordP p = p.store[(addrP p).toNat]?.getD 0 := by unfold wordP; rw [if_pos hcm]
  have hs := storeP_same p
  have hms : multsP (storeP p) = storeP p := by unfold multsP; rw [if_neg (by rw [hs.2.2.1]; exact h3)]
  refine ⟨?_, ?_⟩
  · unfold minorP
    rw [if_neg (by omega), if_neg hc, hms, hw, hcm]
    unfold endP
    rw [if_pos (.inl rfl)]
  · unfold storeP
    rw [hcm, Bool.true_and]
/-- it waits for a word, which comes by: the clock is behind then -/
theorem come_some {p : Pu} {A : Int} (hA : addrP p = A) (h3 : p.phase ≠ 3) (hy : p.why = 0) (h0 : 0 ≤ A) (hc : p.clock + (A - p.clock) % 16 < 1000000000) :
    minorsP (((A - p.clock) % 16).toNat + 1) p = minorP { p with clock := p.clock + (A - p.clock) % 16 } := by
  subst hA
  rw [minorsP_snoc']
  have h := wait_some ((addrP p - p.clock) % 16).toNat (p := p) h3 hy (by omega) (by omega)
  rw [h]
  rw [show ((((addrP p - p.clock) % 16).toNat : Nat) : Int) = (addrP p - p.clock) % 16 by omega]
/-- from one state to a later one, a minor cycle a tick of the clock -/
def Goes (p q : Pu) : Prop := p.clock ≤ q.clock ∧ minorsP (q.clock - p.clock).toNat p = q
theorem Goes.trans {p q r : Pu} (h : Goes p q) (k : Goes q r) : Goes p r := by
  obtain ⟨h1, h2⟩ := h
  obtain ⟨k1, k2⟩ := k
  refine ⟨by omega, ?_⟩
  rw [show (r.clock - p.clock).toNat = (q.clock - p.clock).toNat + (r.clock - q.clock).toNat by omega, minorsP_add, h2, k2]
theorem come_goes {p q : Pu} {A c' : Int} (hA : addrP p = A) (h3 : p.phase ≠ 3) (hy : p.why = 0) (h0 : 0 ≤ A) (hc' : c' = p.clock + (A - p.clock) % 16) (hc : c' < 1000000000)
    (hq : tickP (cameP (if replP p = true then { p with clock := c', store := p.store.set A.toNat (resP p (p.store[A.toNat]?.getD 0)) } else { p with clock := c' }) (p.store[A.toNat]?.getD 0)) = q) (hk : q.clock = c' + 1) : Goes p q := by
  subst hA
  have h1 := come_some (p := p) rfl h3 hy h0 (by omega)
  rw [← hc'] at h1
  obtain ⟨h2, h4⟩ := come_one (p := { p with clock := c' }) h3 hy (by show c' ≠ _; omega) h0 (by show (addrP p - c') % 16 = 0; omega)
  refine ⟨by omega, ?_⟩
  rw [hk, show (c' + 1 - p.clock).toNat = ((addrP p - p.clock) % 16).toNat + 1 by omega, h1, h2, h4]
  exact hq
theorem last_goes {p : Pu} {E a : Int} (h0 : p.phase = 0) (hy : p.why = 0) (ha : p.at_ = a) (hE : p.clock = E + 1) (hc : after E a ≤ 1000000000) : Goes p { p with clock := after E a } := by
  have hA : addrP p = a := by unfold addrP; rw [if_pos h0, ha]
  have hg := after_gt E a
  refine ⟨by show p.clock ≤ after E a; omega, ?_⟩
  show minorsP (after E a - p.clock).toNat p = _
  have e : after E a - p.clock = (a - p.clock) % 16 := by unfold after; rw [hE]; omega
  rw [e, wait_some ((a - p.clock) % 16).toNat (p := p) (by omega) hy (by rw [hA]; omega) (by omega)]
  rw [show p.clock + ((((a - p.clock) % 16).toNat : Nat) : Int) = after E a by omega]
/-- the order is fetched -/
theorem fetch_goes {s : St} {p : Pu} (h : AtS s p) (hv : Valid s) (hw : whyAt s = 0) (hu : untilAt s ≤ 1000000000) :
    Goes p { p with order := wordAt s s.at_, phase := if (ordAt s).op = 6 then 2 else 1, clock := s.time + 1 } := by
  have hub := until_bd (ordAt s) s.time (negAt s)
  have hue : untilAt s = whenUntil (ordAt s) s.time (negAt s) := rfl
  have hpl := hv.place
  have hat := hv.at_
  have hA : addrP p = s.at_ := by unfold addrP; rw [if_pos h.phase, h.at_]
  have hr : replP p = false := by
    unfold replP
    rw [decide_eq_false (by rw [h.phase]; decide : ¬ p.phase = 4), decide_eq_false (by rw [h.phase]; decide : ¬ p.phase = 2)]; rfl
  have hwy : whyP p (ordAt s) = 0 := by
    unfold whyP
    rw [h.taken, h.tape, h.printed]
    unfold whyAt at hw
    split at hw
    · omega
    · rename_i g1
      rw [if_neg g1]
      split at hw
      · omega
      · rename_i g2
        rw [if_neg g2]
        split at hw
        · omega
        · rename_i g3
          rw [if_neg g3]
  refine come_goes (c' := s.time) hA (by rw [h.phase]; decide) h.why hat.1 (by rw [h.clock]; omega) (by omega) ?_ rfl
  rw [hr, if_neg (by decide)]
  unfold cameP
  rw [if_pos h.phase]
  have hword : p.store[s.at_.toNat]?.getD 0 = wordAt s s.at_ := by rw [h.store]; rfl
  rw [hword]
  unfold fetchP
  have e1 : whyP { p with clock := s.time } (decodeQ (wordAt s s.at_)) = 0 := hwy
  rw [if_neg (by rw [e1]; decide)]
  unfold tickP
  rw [if_pos h.why]
  rfl
/-- a word is read at From, for an order that works on two words -/
theorem from_goes {p : Pu} {o : Ord} {t E : Int} (ho : ordP p = o) (h1 : p.phase = 1) (hy : p.why = 0) (hc : p.clock = t + 1) (h57 : o.op ≠ 7 ∧ o.op ≠ 5) (hf : 0 ≤ o.frm) (hE : after t o.frm = E) (hb : E < 1000000000) :
    Goes p { p with operand := p.store[o.frm.toNat]?.getD 0, phase := 2, clock := E + 1 } := by
  have hA : addrP p = o.frm := by unfold addrP; rw [if_neg (by omega), if_pos h1, ho]
  have hr : replP p = false := by
    unfold replP
    rw [decide_eq_false (by rw [h1]; decide : ¬ p.phase = 4), decide_eq_false (by rw [h1]; decide : ¬ p.phase = 2)]; rfl
  refine come_goes (c' := E) hA (by omega) hy hf (by rw [← hE]; unfold after; rw [hc]; omega) hb ?_ rfl
  rw [hr, if_neg (by decide)]
  unfold cameP
  rw [if_neg (by show ¬ p.phase = 0; omega), if_pos h1]
  unfold fromP
  have e1 : ordP { p with clock := E } = o := ho
  rw [e1, if_neg h57.1, if_neg h57.2]
  unfold tickP
  rw [if_pos hy]
/-- a word is read at From: it is printed -/
theorem print_goes {p : Pu} {o : Ord} {t E : Int} (ho : ordP p = o) (h1 : p.phase = 1) (hy : p.why = 0) (hc : p.clock = t + 1) (h7 : o.op = 7) (hf : 0 ≤ o.frm) (hE : after t o.frm = E) (hb : E < 1000000000) :
    Goes p { p with operand := p.store[o.frm.toNat]?.getD 0, printed := p.printed ++ [p.store[o.frm.toNat]?.getD 0], at_ := o.nxt, done := p.done + 1, phase := 0, clock := E + 1 } := by
  have hA : addrP p = o.frm := by unfold addrP; rw [if_neg (by omega), if_pos h1, ho]
  have hr : replP p = false := by
    unfold replP
    rw [decide_eq_false (by rw [h1]; decide : ¬ p.phase = 4), decide_eq_false (by rw [h1]; decide : ¬ p.phase = 2)]; rfl
  refine come_goes (c' := E) hA (by omega) hy hf (by rw [← hE]; unfold after; rw [hc]; omega) hb ?_ rfl
  rw [hr, if_neg (by decide)]
  unfold cameP
  rw [if_neg (by show ¬ p.phase = 0; omega), if_pos h1]
  unfold fromP
  have e1 : ordP { p with clock := E } = o := ho
  rw [e1, if_pos h7]
  unfold finishP tickP
  rw [if_pos hy]
  show ({ p with operand := _, printed := _, at_ := (ordP p).nxt, done := _, phase := _, clock := _ } : Pu) = _
  rw [ho]
/-- a word is read at From: its sign tells where to go on -/
theorem test_goes {p : Pu} {o : Ord} {t E : Int} (ho : ordP p = o) (h1 : p.phase = 1) (hy : p.why = 0) (hc : p.clock = t + 1) (h5 : o.op = 5) (hf : 0 ≤ o.frm) (hE : after t o.frm = E) (hb : E < 1000000000) :
    Goes p { p with operand := p.store[o.frm.toNat]?.getD 0, at_ := if sgn (p.store[o.frm.toNat]?.getD 0) < 0 then o.to else o.nxt, done := p.done + 1, phase := 0, clock := E + 1 } := by
  have hA : addrP p = o.frm := by unfold addrP; rw [if_neg (by omega), if_pos h1, ho]
  have hr : replP p = false := by
    unfold replP
    rw [decide_eq_false (by rw [h1]; decide : ¬ p.phase = 4), decide_eq_false (by rw [h1]; decide : ¬ p.phase = 2)]; rfl
  refine come_goes (c' := E) hA (by omega) hy hf (by rw [← hE]; unfold after; rw [hc]; omega) hb ?_ rfl
  rw [hr, if_neg (by decide)]
  unfold cameP
  rw [if_neg (by show ¬ p.phase = 0; omega), if_pos h1]
  unfold fromP
  have e1 : ordP { p with clock := E } = o := ho
  rw [e1, if_neg (by omega), if_pos h5]
  unfold finishP tickP
  rw [if_pos hy]
/-- the word at To is replaced (not by a product): the order is done -/
theorem to_goes {p : Pu} {o : Ord} {t E : Int} (ho : ordP p = o) (h2 : p.phase = 2) (hy : p.why = 0) (hc : p.clock = t + 1) (h4 : o.op ≠ 4) (hf : 0 ≤ o.to) (hE : after t o.to = E) (hb : E < 1000000000) :
    Goes p { p with store := p.store.set o.to.toNat (resP p (p.store[o.to.toNat]?.getD 0)), taken := if o.op = 6 then p.taken + 1 else p.taken, at_ := o.nxt, done := p.done + 1, phase := 0, clock := E + 1 } := by
  have hA : addrP p = o.to := by unfold addrP; rw [if_neg (by omega), if_neg (by omega), if_neg (by omega), ho]
  have hr : replP p = true := by
    unfold replP
    rw [ho, decide_eq_true h2, decide_eq_true h4, Bool.and_self, Bool.or_true]
  refine come_goes (c' := E) hA (by omega) hy hf (by rw [← hE]; unfold after; rw [hc]; omega) hb ?_ rfl
  rw [hr, if_pos rfl]
  unfold cameP
  rw [if_neg (by show ¬ p.phase = 0; omega), if_neg (by show ¬ p.phase = 1; omega), if_pos h2]
  unfold toP
  generalize hx : resP p (p.store[o.to.toNat]?.getD 0) = x
  have e1 : ordP { p with clock := E, store := p.store.set o.to.toNat x } = o := ho
  rw [e1, if_neg h4]
  by_cases h6 : o.op = 6
  · rw [if_pos h6, if_pos h6]
    unfold finishP tickP
    rw [if_pos hy]
    show ({ p with store := _, taken := _, at_ := (ordP p).nxt, done := _, phase := _, clock := _ } : Pu) = _
    rw [ho]
  · rw [if_neg h6, if_neg h6]
    unfold finishP tickP
    rw [if_pos hy]
    show ({ p with store := _, at_ := (ordP p).nxt, done := _, phase := _, clock := _ } : Pu) = _
    rw [ho]
/-- the other factor is read at To -/
theorem other_goes {p : Pu} {o : Ord} {t E : Int} (ho : ordP p = o) (h2 : p.phase = 2) (hy : p.why = 0) (hc : p.clock = t + 1) (h4 : o.op = 4) (hf : 0 ≤ o.to) (hE : after t o.to = E) (hb : E < 1000000000) :
    Goes p { p with other := p.store[o.to.toNat]?.getD 0, product := 0, count := 12, phase := 3, clock := E + 1 } := by
  have hA : addrP p = o.to := by unfold addrP; rw [if_neg (by omega), if_neg (by omega), if_neg (by omega), ho]
  have hr : replP p = false := by
    unfold replP
    rw [ho, decide_eq_false (by omega : ¬ p.phase = 4), decide_eq_true h2, decide_eq_false (by rw [h4]; simp : ¬ o.op ≠ 4)]; rfl
  refine come_goes (c' := E) hA (by omega) hy hf (by rw [← hE]; unfold after; rw [hc]; omega) hb ?_ rfl
  rw [hr, if_neg (by decide)]
  unfold cameP
  rw [if_neg (by show ¬ p.phase = 0; omega), if_neg (by show ¬ p.phase = 1; omega), if_pos h2]
  unfold toP
  have e1 : ordP { p with clock := E } = o := ho
  rw [e1, if_pos h4]
  unfold tickP
  rw [if_pos hy]
/-- the product is written at To -/
theorem write_goes {p : Pu} {o : Ord} {t E : Int} (ho : ordP p = o) (h2 : p.phase = 4) (hy : p.why = 0) (hc : p.clock = t + 1) (hf : 0 ≤ o.to) (hE : after t o.to = E) (hb : E < 1000000000) :
    Goes p { p with store := p.store.set o.to.toNat (p.product / 8388608 % 16777216), at_ := o.nxt, done := p.done + 1, phase := 0, clock := E + 1 } := by
  have hA : addrP p = o.to := by unfold addrP; rw [if_neg (by omega), if_neg (by omega), if_neg (by omega), ho]
  have hr : replP p = true := by
    unfold replP
    rw [decide_eq_true h2, Bool.true_or]
  refine come_goes (c' := E) hA (by omega) hy hf (by rw [← hE]; unfold after; rw [hc]; omega) hb ?_ rfl
  rw [hr, if_pos rfl]
  have hx : resP p (p.store[o.to.toNat]?.getD 0) = p.product / 8388608 % 16777216 := by unfold resP; rw [if_pos h2]
  rw [hx]
  unfold cameP
  rw [if_neg (by show ¬ p.phase = 0; omega), if_neg (by show ¬ p.phase = 1; omega), if_neg (by show ¬ p.phase = 2; omega), if_neg (by show ¬ p.phase = 3; omega)]
  unfold finishP tickP
  rw [if_pos hy]
  show ({ p with store := _, at_ := (ordP p).nxt, done := _, phase := _, clock := _ } : Pu) = _
  rw [ho]
end Go.Q
/- Layers 4 and 5 in plain Lean: a run of layer 4 is some minor cycles of layer 5. -/
namespace Go.Q
theorem Goes.valid {p q : Pu} (h : Goes p q) (hv : ValidP p) : ValidP q := by
  rw [← h.2]; exact minorsP_valid _ hv
theorem until_le {s : St} (hw : whyAt s = 0) : untilAt s ≤ 1000000000 ∧ (ordAt s).op ≠ 0 ∧ ¬((ordAt s).op = 6 ∧ s.taken = s.tape.length) ∧ ¬((ordAt s).op = 7 ∧ s.printed.length = 200) := by
  unfold whyAt at hw
  split at hw
  · omega
  split at hw
  · omega
  split at hw
  · omega
  split at hw
  · omega
  rename_i h1 h2 h3 h4
  exact ⟨by omega, h1, h2, h3⟩
/-- an order of layer 4 is some minor cycles -/
theorem order_goes {s : St} {p : Pu} (h : AtS s p) (hv : Valid s) (hp : ValidP p) (hw : whyAt s = 0) : ∃ q, Goes p q ∧ AtS (stepQ s) q := by
  obtain ⟨hu, hop0, h6, h7⟩ := until_le hw
  have hub := until_bd (ordAt s) s.time (negAt s)
  have hue : untilAt s = whenUntil (ordAt s) s.time (negAt s) := rfl
  have hF := fetch_goes h hv hw hu
  have ho := hv.ord
  have hstep : stepQ s = { doQ s (ordAt s) with at_ := whenAt (ordAt s) (negAt s), time := untilAt s, done := s.done + 1 } := by unfold stepQ; rw [if_pos hw]
  have hneg : negAt s = decide (sgn (wordAt s (ordAt s).frm) < 0) := rfl
  have hor : ∀ q : Pu, q.order = wordAt s s.at_ → ordP q = ordAt s := fun q e => by unfold ordP; rw [e]; rfl
  have hst : ∀ i : Int, p.store[i.toNat]?.getD 0 = wordAt s i := fun i => by rw [h.store]; rfl
  have hwd := fun (i : Int) h0 h1 => hv.word i h0 h1
  rw [hstep]
  rw [hue] at hu ⊢
  generalize ordAt s = o at *
  generalize hng : negAt s = ng at *
  generalize wordAt s s.at_ = ow at *
  obtain ⟨b0, ⟨f0, f1⟩, ⟨t0, t1⟩, n0, n1⟩ : (0 ≤ o.op ∧ o.op ≤ 7) ∧ (0 ≤ o.frm ∧ o.frm ≤ 127) ∧ (0 ≤ o.to ∧ o.to ≤ 127) ∧ 0 ≤ o.nxt ∧ o.nxt ≤ 127 := by
    simp only [ordB, addrB, Bool.and_eq_true] at ho
    exact ⟨inB_bd ho.1.1.1, inB_bd ho.1.1.2, inB_bd ho.1.2, inB_bd ho.2⟩
  have ga := after_gt (whenEnd o s.time) (whenAt o ng)
  have hd1 : whenUntil o s.time ng = after (whenEnd o s.time) (whenAt o ng) := rfl
  rw [hd1] at hu ⊢
  by_cases e5 : o.op = 5
  · -- a test
    have hE : whenEnd o s.time = after s.time o.frm := by unfold whenEnd; rw [if_pos (.inl e5)]
    rw [hE] at hu ga ⊢
    rw [if_neg (by omega)] at hF
    have g1 := after_gt s.time o.frm
    have h2 := test_goes (p := { p with order := ow, phase := 1, clock := s.time + 1 }) (hor _ rfl) rfl h.why rfl e5 f0 rfl (by omega)
    have hat : (if sgn (p.store[o.frm.toNat]?.getD 0) < 0 then o.to else o.nxt) = whenAt o ng := by
      rw [hst, hneg]; unfold whenAt
      by_cases hs : sgn (wordAt s o.frm) < 0
      · rw [if_pos hs, if_pos ⟨e5, by simp [hs]⟩]
      · rw [if_neg hs, if_neg (fun c => hs (by simpa using c.2))]
    have h3 := last_goes (p := { p with order := ow, operand := p.store[o.frm.toNat]?.getD 0, at_ := if sgn (p.store[o.frm.toNat]?.getD 0) < 0 then o.to else o.nxt, done := p.done + 1, phase := 0, clock := after s.time o.frm + 1 }) (a := whenAt o ng) rfl h.why hat rfl hu
    refine ⟨_, (hF.trans h2).trans h3, ?_⟩
    have hdo : doQ s o = s := by unfold doQ; dsimp only; rw [if_neg (by omega), if_neg (by omega), if_neg (by omega), if_neg (by omega), if_neg (by omega), if_neg (by omega)]
    rw [hdo]
    exact ⟨h.store, h.tape, h.taken, h.printed, rfl, hat, rfl, h.count, by show p.done + 1 = s.done + 1; rw [h.done], h.why⟩
  have hat : o.nxt = whenAt o ng := by unfold whenAt; rw [if_neg (fun c => e5 c.1)]
  rw [← hat] at hu ga ⊢
  by_cases e7 : o.op = 7
  · -- a word is printed
    have hE : whenEnd o s.time = after s.time o.frm := by unfold whenEnd; rw [if_pos (.inr e7)]
    rw [hE] at hu ga ⊢
    rw [if_neg (by omega)] at hF
    have g1 := after_gt s.time o.frm
    have h2 := print_goes (p := { p with order := ow, phase := 1, clock := s.time + 1 }) (hor _ rfl) rfl h.why rfl e7 f0 rfl (by omega)
    have h3 := last_goes (p := { p with order := ow, operand := p.store[o.frm.toNat]?.getD 0, printed := p.printed ++ [p.store[o.frm.toNat]?.getD 0], at_ := o.nxt, done := p.done + 1, phase := 0, clock := after s.time o.frm + 1 }) (a := o.nxt) rfl h.why rfl rfl hu
    refine ⟨_, (hF.trans h2).trans h3, ?_⟩
    have hdo : doQ s o = { s with printed := s.printed ++ [wordAt s o.frm] } := by unfold doQ; dsimp only; rw [if_neg (by omega), if_neg (by omega), if_neg (by omega), if_neg (by omega), if_neg (by omega), if_pos e7]
    rw [hdo]
    exact ⟨h.store, h.tape, h.taken, by show p.printed ++ [p.store[o.frm.toNat]?.getD 0] = s.printed ++ [wordAt s o.frm]; rw [h.printed, hst], rfl, rfl, rfl, h.count, by show p.done + 1 = s.done + 1; rw [h.done], h.why⟩
  by_cases e6 : o.op = 6
  · -- a word of the tape is read
    have hE : whenEnd o s.time = after s.time o.to := by unfold whenEnd; rw [if_neg (by omega), if_pos e6]
    rw [hE] at hu ga ⊢
    rw [if_pos e6] at hF
    have g1 := after_gt s.time o.to
    have h2 := to_goes (p := { p with order := ow, phase := 2, clock := s.time + 1 }) (hor _ rfl) rfl h.why rfl (by omega) t0 rfl (by omega)
    have hr : resP { p with order := ow, phase := 2, clock := s.time + 1 } (p.store[o.to.toNat]?.getD 0) = s.tape[s.taken.toNat]?.getD 0 := by
      unfold resP
      rw [hor _ rfl, if_neg (show ¬ (2 : Int) = 4 by decide), if_neg (by omega), if_neg (by omega), if_pos e6]
      show p.tape[p.taken.toNat]?.getD 0 % 16777216 = _
      rw [h.tape, h.taken]
      have ht := hv.taken
      have hlt : s.taken.toNat < s.tape.length := by
        have : s.taken ≠ s.tape.length := fun e => h6 ⟨e6, e⟩
        omega
      have := mem_get hlt hv.wt
      omega
    dsimp only at h2
    rw [hr, if_pos e6] at h2
    have h3 := last_goes (p := { p with order := ow, store := p.store.set o.to.toNat (s.tape[s.taken.toNat]?.getD 0), taken := p.taken + 1, at_ := o.nxt, done := p.done + 1, phase := 0, clock := after s.time o.to + 1 }) (a := o.nxt) rfl h.why rfl rfl hu
    refine ⟨_, (hF.trans h2).trans h3, ?_⟩
    have hdo : doQ s o = { s with store := s.store.set o.to.toNat (s.tape[s.taken.toNat]?.getD 0), taken := s.taken + 1 } := by unfold doQ; dsimp only; rw [if_neg (by omega), if_neg (by omega), if_neg (by omega), if_neg (by omega), if_pos e6]
    rw [hdo]
    exact ⟨by show p.store.set _ _ = s.store.set _ _; rw [h.store], h.tape, by show p.taken + 1 = s.taken + 1; rw [h.taken], h.printed, rfl, rfl, rfl, h.count, by show p.done + 1 = s.done + 1; rw [h.done], h.why⟩
  -- an order on two words
  rw [if_neg e6] at hF
  have wa := hwd o.frm f0 f1
  have wb := hwd o.to t0 t1
  by_cases e4 : o.op = 4
  · -- a product
    have hE : whenEnd o s.time = after (after (after s.time o.frm) o.to + 12) o.to := by unfold whenEnd; rw [if_neg (by omega), if_neg e6, if_pos e4]
    rw [hE] at hu ga ⊢
    have g1 := after_gt s.time o.frm
    have g2 := after_gt (after s.time o.frm) o.to
    have g3 := after_gt (after (after s.time o.frm) o.to + 12) o.to
    have h2 := from_goes (p := { p with order := ow, phase := 1, clock := s.time + 1 }) (hor _ rfl) rfl h.why rfl ⟨e7, e5⟩ f0 rfl (by omega)
    dsimp only at h2
    rw [hst] at h2
    have h3 := other_goes (p := { p with order := ow, operand := wordAt s o.frm, phase := 2, clock := after s.time o.frm + 1 }) (hor _ rfl) rfl h.why rfl e4 t0 rfl (by omega)
    dsimp only at h3
    rw [hst] at h3
    have hv3 := ((hF.trans h2).trans h3).valid hp
    have hm := count_minors 12 0 hv3 rfl h.why (by show after (after s.time o.frm) o.to + 1 + ((12 : Nat) : Int) ≤ _; omega) rfl (by decide) rfl (by show (0 : Int) = _ * lowS _ 0; unfold lowS; simp [Int.emod_one])
    have h4 : Goes { p with order := ow, operand := wordAt s o.frm, other := wordAt s o.to, product := 0, count := 12, phase := 3, clock := after (after s.time o.frm) o.to + 1 } { p with order := ow, operand := wordAt s o.frm, other := wordAt s o.to, product := sgn (wordAt s o.to) * sgn (wordAt s o.frm), count := 0, phase := 4, clock := after (after s.time o.frm) o.to + 1 + ((12 : Nat) : Int) } := by
      refine ⟨by show after (after s.time o.frm) o.to + 1 ≤ after (after s.time o.frm) o.to + 1 + ((12 : Nat) : Int); omega, ?_⟩
      show minorsP (after (after s.time o.frm) o.to + 1 + ((12 : Nat) : Int) - (after (after s.time o.frm) o.to + 1)).toNat _ = _
      rw [show (after (after s.time o.frm) o.to + 1 + ((12 : Nat) : Int) - (after (after s.time o.frm) o.to + 1)).toNat = 12 by omega]
      exact hm
    have h5 := write_goes (p := { p with order := ow, operand := wordAt s o.frm, other := wordAt s o.to, product := sgn (wordAt s o.to) * sgn (wordAt s o.frm), count := 0, phase := 4, clock := after (after s.time o.frm) o.to + 1 + ((12 : Nat) : Int) }) (t := after (after s.time o.frm) o.to + 12) (hor _ rfl) rfl h.why (by show after (after s.time o.frm) o.to + 1 + ((12 : Nat) : Int) = _; omega) t0 rfl (by omega)
    have h6 := last_goes (p := { p with order := ow, operand := wordAt s o.frm, other := wordAt s o.to, product := sgn (wordAt s o.to) * sgn (wordAt s o.frm), count := 0, store := p.store.set o.to.toNat (sgn (wordAt s o.to) * sgn (wordAt s o.frm) / 8388608 % 16777216), at_ := o.nxt, done := p.done + 1, phase := 0, clock := after (after (after s.time o.frm) o.to + 12) o.to + 1 }) (a := o.nxt) rfl h.why rfl rfl hu
    refine ⟨_, ((((hF.trans h2).trans h3).trans h4).trans h5).trans h6, ?_⟩
    have hdo : doQ s o = { s with store := s.store.set o.to.toNat (prod (wordAt s o.frm) (wordAt s o.to)) } := by unfold doQ; dsimp only; rw [if_neg (by omega), if_neg (by omega), if_neg (by omega), if_pos e4]
    rw [hdo]
    exact ⟨by show p.store.set _ _ = s.store.set _ _; rw [h.store]; unfold prod; rw [Int.mul_comm], h.tape, h.taken, h.printed, rfl, rfl, rfl, rfl, by show p.done + 1 = s.done + 1; rw [h.done], h.why⟩
  · -- a word is moved, added, subtracted
    have hE : whenEnd o s.time = after (after s.time o.frm) o.to := by unfold whenEnd; rw [if_neg (by omega), if_neg e6, if_neg e4]
    rw [hE] at hu ga ⊢
    have g1 := after_gt s.time o.frm
    have g2 := after_gt (after s.time o.frm) o.to
    have h2 := from_goes (p := { p with order := ow, phase := 1, clock := s.time + 1 }) (hor _ rfl) rfl h.why rfl ⟨e7, e5⟩ f0 rfl (by omega)
    dsimp only at h2
    rw [hst] at h2
    have h3 := to_goes (p := { p with order := ow, operand := wordAt s o.frm, phase := 2, clock := after s.time o.frm + 1 }) (hor _ rfl) rfl h.why rfl e4 t0 rfl (by omega)
    dsimp only at h3
    rw [hst, if_neg e6] at h3
    generalize hx : resP { p with order := ow, operand := wordAt s o.frm, phase := 2, clock := after s.time o.frm + 1 } (wordAt s o.to) = x at h3
    have h4 := last_goes (p := { p with order := ow, operand := wordAt s o.frm, store := p.store.set o.to.toNat x, at_ := o.nxt, done := p.done + 1, phase := 0, clock := after (after s.time o.frm) o.to + 1 }) (a := o.nxt) rfl h.why rfl rfl hu
    refine ⟨_, ((hF.trans h2).trans h3).trans h4, ?_⟩
    have hdo : doQ s o = { s with store := s.store.set o.to.toNat x } := by
      unfold resP at hx
      rw [hor _ rfl, if_neg (show ¬ (2 : Int) = 4 by decide)] at hx
      unfold doQ
      dsimp only
      by_cases e1 : o.op = 1
      · rw [if_pos e1, ← hx, if_neg (by omega), if_neg (by omega), if_neg e6]
        rw [show wordAt s o.frm % 16777216 = wordAt s o.frm by omega]
      by_cases e2 : o.op = 2
      · rw [if_neg e1, if_pos e2, ← hx, if_pos e2]
      · have e3 : o.op = 3 := by omega
        rw [if_neg e1, if_neg e2, if_pos e3, ← hx, if_neg e2, if_pos e3]
    rw [hdo]
    exact ⟨by show p.store.set _ _ = s.store.set _ _; rw [h.store], h.tape, h.taken, h.printed, rfl, rfl, rfl, h.count, by show p.done + 1 = s.done + 1; rw [h.done], h.why⟩
theorem runQ_ended {s : St} (h : s.why ≠ 0) : ∀ n, runQ n s = s
  | 0 => rfl
  | n + 1 => by unfold runQ; rw [if_neg h]
/-- the order of a state at which a run ends, not because the time is over -/
theorem end_minor {s : St} {p : Pu} (h : AtS s p) (hv : Valid s) (hw : whyAt s ≠ 0) (h4 : whyAt s ≠ 4) (ht : s.time ≠ 1000000000) : minorP p = { p with why := whyAt s } := by
  have hpl := hv.place
  have hat := hv.at_
  have hA : addrP p = s.at_ := by unfold addrP; rw [if_pos h.phase, h.at_]
  have hr : replP p = false := by
    unfold replP
    rw [decide_eq_false (by rw [h.phase]; decide : ¬ p.phase = 4), decide_eq_false (by rw [h.phase]; decide : ¬ p.phase = 2)]; rfl
  have hwy : whyP p (ordAt s) = whyAt s := by
    unfold whyP
    rw [h.taken, h.tape, h.printed]
    unfold whyAt at hw h4 ⊢
    split
    · rfl
    · rename_i g1
      rw [if_neg g1] at hw h4
      split
      · rfl
      · rename_i g2
        rw [if_neg g2] at hw h4
        split
        · rfl
        · rename_i g3
          rw [if_neg g3] at hw h4
          split at hw
          · rename_i g4; rw [if_pos g4] at h4; exact absurd rfl h4
          · exact absurd rfl hw
  obtain ⟨h2, h5⟩ := come_one (p := p) (by rw [h.phase]; decide) h.why (by rw [h.clock]; exact ht) (by rw [hA]; exact hat.1) (by rw [hA, h.clock]; omega)
  rw [hr, if_neg (by decide)] at h5
  rw [h2, h5, hA]
  have hword : p.store[s.at_.toNat]?.getD 0 = wordAt s s.at_ := by rw [h.store]; rfl
  rw [hword]
  unfold cameP
  rw [if_pos h.phase]
  unfold fetchP
  have e1 : whyP p (decodeQ (wordAt s s.at_)) = whyAt s := hwy
  rw [e1, if_pos hw]
  unfold tickP
  rw [if_neg (by exact hw)]
/-- a run of layer 4 is some minor cycles of layer 5 -/
theorem run_goes : ∀ (n : Nat) {s : St} {p : Pu}, AtS s p → Valid s → ValidP p → s.why = 0 → (runQ n s).why ≠ 4 →
    ∃ q, Goes p q ∧ AtS { runQ n s with why := 0 } q ∧ ((runQ n s).why ≠ 0 → (runQ n s).time ≠ 1000000000 → minorP q = { q with why := (runQ n s).why })
  | 0, s, p, h, _, _, hy, _ => ⟨p, ⟨Int.le_refl _, by rw [Int.sub_self]; rfl⟩, ⟨h.store, h.tape, h.taken, h.printed, h.clock, h.at_, h.phase, h.count, h.done, h.why⟩, fun e => absurd hy e⟩
  | n + 1, s, p, h, hv, hp, hy, hn => by
    have e : runQ (n + 1) s = runQ n (stepQ s) := by rw [runQ, if_pos hy]
    rw [e] at hn ⊢
    by_cases hw : whyAt s = 0
    · obtain ⟨q, hg, ha⟩ := order_goes h hv hp hw
      obtain ⟨q2, hg2, ha2, hm⟩ := run_goes n ha (stepQ_valid hv) (hg.valid hp) (by rw [stepQ_why hy]; exact hw) hn
      exact ⟨q2, hg.trans hg2, ha2, hm⟩
    · have hs : stepQ s = { s with why := whyAt s } := by unfold stepQ; rw [if_neg hw]
      rw [runQ_ended (by rw [stepQ_why hy]; exact hw), hs] at hn ⊢
      exact ⟨p, ⟨Int.le_refl _, by rw [Int.sub_self]; rfl⟩, ⟨h.store, h.tape, h.taken, h.printed, h.clock, h.at_, h.phase, h.count, h.done, h.why⟩, fun _ ht => end_minor h hv hw hn ht⟩
end Go.Q
/- Contract: OrderEnded returns true. -/
namespace Go.Proofs.Ytjfggepgjpdebaa
open Go.RowKit Go.Q
/-- what Run returns, in two ways -/
theorem runE_ways (s : St) (n : Nat) (hn : n ≤ 5000) : (∃ er, er ≠ 0 ∧ runE s n = (zst, er)) ∨ (Valid s ∧ runE s n = (runQ n s, 0)) := by
  by_cases h : askedQ s n = 0
  · exact .inr ⟨valid_of_check (asked_ok h).1, by simp [runE, h]⟩
  · exact .inl ⟨_, h, by simp [runE, h]⟩
end Go.Proofs.Ytjfggepgjpdebaa

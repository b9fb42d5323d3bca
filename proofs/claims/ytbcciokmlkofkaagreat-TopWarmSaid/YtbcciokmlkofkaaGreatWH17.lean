import Derived.Shelf.SlIterI.Collect
import Derived.Ground.GgzProg
import Derived.Test.YtbcciokmlkofkaaGreatWH16
set_option linter.unusedVariables false
set_option linter.unusedSimpArgs false
/- Contracts of layer 1: the values of a map from states, as a new slice. -/
namespace Go.Proofs.YtbcciokmlkofkaaGreat
open Go.RowKit Go.Q Go.Shelf Go.Maps
def Tryz.collect_ren : Go.Shelf.Ren := ⟨fun | 8 => 53 | 11 => 71 | n => n, fun | 26 => 3 | 28 => 111 | 24 => 22 | 0 => 0 | 33 => 51 | 4 => 4 | n => n, fun | n => n⟩
theorem Tryz.collect : Go.Proofs.SlLaysZI.n8 Tryz.prog Tryz.collect_ren := {
  mixed := by kernel_rfl
  f8 := ⟨Tryz.f53.name, by decide, Tryz.func53.trans (congrArg some (by kernel_rfl))⟩
  f11 := ⟨Tryz.f71.name, by decide, Tryz.func71.trans (congrArg some (by kernel_rfl))⟩
  t0 := Tryz.underlying0
  a0 := Tryz.isAgg0
  z0 := Tryz.sizeOf0
  v0 := Tryz.zeroValue0
  t24 := Tryz.underlying22
  a24 := Tryz.isAgg22
  z24 := Tryz.sizeOf22
  v24 := Tryz.zeroValue22
  t26 := Tryz.underlying3
  a26 := Tryz.isAgg3
  z26 := Tryz.sizeOf3
  v26 := Tryz.zeroValue3
  t28 := Tryz.underlying111
  a28 := Tryz.isAgg111
  z28 := Tryz.sizeOf111
  v28 := Tryz.zeroValue111
  i26 := by kernel_rfl }
theorem collect_any (g : Nat) (lb : Array Value) (eg : ∀ args w, (callFunc g args).run Tryz.prog w = .ok (.enter g args) w) (S : List Int → Prop) (N : Nat) (hN : N ≤ maxLen) (hNb : N * 8 ≤ 140737488355328) (w : World) (hseq : SeqGives Fence.wide 2 Tryz.prog g lb (Value.int .i64) S N w) :
    Calls Tryz.prog 53 #[.func (.func g) #[] lb] w fun e w' => ∃ (v : Value) (ss : List Int), e = .returned v ∧ S ss ∧ w'.ownsRow w.heap.size 3 1 v ss.length (iv ss) ∧ Ext w w' := by
  refine Go.Calls.mono ((callsIn_wide (n := 4)).1 (AnyZI.collect_in Tryz.collect Fence.wide 4 trivial trivial rfl (by omega) g lb trivial eg S N hN hNb w hseq)) ?_
  rintro e w' ⟨v, ss, rfl, h1, h2, _, h3⟩
  exact ⟨v, ss, rfl, h1, h2, h3⟩
theorem values_any (mb : Option Nat) (w : World) :
    Calls Tryz.prog 54 #[.map mb] w fun e w' => e = .returned (.func (.func 72) #[] #[.pointer (some ⟨w.heap.size, 0, none⟩)]) ∧ w' = w.alloc (.cells #[.map mb] 105) := by
  go_enter Tryz.func54, Tryz.ntmps54
  go_wp2
  go_ret
  exact ⟨rfl, rfl⟩
theorem _root_.Go.Q.RngF.of_walks {α : Type} {enc : α → Value} {w w' : World} {b r cnt : Nat} {f : α → Option Value} {left : α → Prop} (h : RngF enc w b r f left cnt) (k : KeepsWalks w w') : RngF enc w' b r f left cnt := by
  obtain ⟨es, clock, since, seen, c0, hb, H, hr, rest⟩ := h
  exact ⟨es, clock, since, seen, c0, k.same _ _ hb rfl, H, k.same _ _ hr rfl, rest⟩
theorem _root_.Go.Q.RngF.iter_walk {α : Type} {enc : α → Value} {w : World} {b r cnt : Nat} {f : α → Option Value} {left : α → Prop} (h : RngF enc w b r f left cnt) : ∃ o : Obj, w.heap[r]? = some o ∧ o.isWalk = true := by
  obtain ⟨es, clock, since, seen, c0, hb, H, hr, rest⟩ := h
  exact ⟨_, hr, rfl⟩
set_option maxRecDepth 100000 in
set_option maxHeartbeats 1000000 in
theorem values1_in (n : Nat) (hn : 1 ≤ n) (l Bm b : Nat) (f : OvS → Option Value) (h3 : ∀ x v, f x = some v → v = .int .i64 x.t.1) (L : List OvS) (hL : ∀ x, (f x).isSome = true → x ∈ L) (J : List Int → World → Prop)
    (hY : ∀ pre x W, J pre W → pre.length < L.length → YieldAt Fence.wide (n - 1) Tryz.prog l #[.int .i64 x] W fun e W' => e = .returned (.bool true) ∧ J (pre ++ [x]) W' ∧ KeepsWalks W W')
    (W : World) (hJ : AbidesFrom W.heap.size J) (hm : W.cell? ⟨Bm, 0, none⟩ = some (.map (some b))) (hown : MapF encS W b f) (h0 : J [] W) :
    CallsIn Fence.wide n Tryz.prog 72 #[.func (.yield l) #[] #[], .pointer (some ⟨Bm, 0, none⟩)] W fun e W' => (∃ v, e = .returned v) ∧ ∃ ss : List Int, (ss.length ≤ L.length ∧ ∀ z, z ∈ ss ↔ ∃ x : OvS, (f x).isSome = true ∧ x.t.1 = z) ∧ J ss W' := by
  refine callsIn_of_wp Tryz.func72 rfl trivial ?_ rfl
  simp only [Tryz.ntmps72, List.size_toArray, List.length_cons, List.length_nil, Nat.reduceAdd, Nat.reduceSub, Array.replicate_succ, Array.replicate_zero, List.push_toArray, List.append_toArray, List.nil_append, List.cons_append]
  gi_wp2_with (gi_at_range; refine wpListIn_rangeF _ rfl _ 105 rfl 3 keyS Tryz.underlying105 b rfl hown ?_; intro w0 cnt0 hrg0 E0 hs0; clear hs0)
  (try go_frame)
  have hJ0 : J [] w0 := hJ [] W w0 none h0 ⟨E0.os, E0.tape, E0.output, E0.size, fun k hk _ => E0.block k hk⟩ (fun r e => by cases e)
  have hc0 := hrg0.cnt_le L hL
  gi_loopw [4] (fun _ wr => ∃ (left : OvS → Prop) (cnt : Nat) (ss : List Int), RngF encS wr b W.heap.size f left cnt ∧ ss.length + cnt ≤ L.length ∧ Aside (∀ z, z ∈ ss ↔ ∃ x : OvS, (f x).isSome = true ∧ ¬ left x ∧ x.t.1 = z) ∧ J ss wr)
    (fun _ wr => wr.rangeLeft b W.heap.size)
  case atStart => exact ⟨_, _, [], hrg0, by simpa using hc0, fun z => ⟨fun h => (by simp at h), fun ⟨_, h1, h2, _⟩ => absurd h1 h2⟩, hJ0⟩
  case round =>
    clear hrg0 hJ0 E0 hc0
    obtain ⟨left, cnt, ss, hrg, hcs, hC, hJs⟩ := hrel
    gi_wp2_with (gi_at_next; refine wpListIn_nextF _ rfl _ rfl keyS b W.heap.size left cnt rfl hrg ?_ ?_)
    · intro _ hl0
      gi_wp2
      go_end0
      refine ⟨⟨_, rfl⟩, ss, ⟨by omega, fun z => (hC.out z).trans ⟨fun ⟨x, h1, _, h2⟩ => ⟨x, h1, h2⟩, fun ⟨x, h1, h2⟩ => ⟨x, h1, hl0 x, h2⟩⟩⟩, hJs⟩
    · intro y v w2 cnt2 hly hfy hrg2 hlt hg2 hs2 hen
      clear hs2
      obtain rfl := h3 y v hfy
      have hJ2 : J ss w2 := hJ ss _ w2 (some W.heap.size) hJs hg2 (fun r e => by cases e; exact ⟨Nat.le_refl _, hrg.iter_walk⟩)
      obtain ⟨fn, tmps, assign, body, hy, hR⟩ := hY ss y.t.1 w2 hJ2 (by omega)
      have hC2 : Aside (∀ z, z ∈ ss ++ [y.t.1] ↔ ∃ x : OvS, (f x).isSome = true ∧ ¬ (left x ∧ x ≠ y) ∧ x.t.1 = z) := by
        intro z
        rw [List.mem_append, List.mem_singleton, hC.out z]
        constructor
        · rintro (⟨x, h1, h2, h4⟩ | h)
          · exact ⟨x, h1, fun h => h2 h.1, h4⟩
          · exact ⟨y, by rw [hfy]; rfl, fun h => h.2 rfl, h.symm⟩
        · rintro ⟨x, h1, h2, h4⟩
          by_cases hxy : x = y
          · exact .inr (by rw [← h4, hxy])
          · exact .inl ⟨x, h1, fun h => h2 ⟨h, hxy⟩, h4⟩
      have hLT := Lib.hid (And.intro hrg.left_eq hlt)
      clear hly hfy
      gi_wp2
      refine hR.mono ?_
      rintro e W3 ⟨rfl, hJ3, hk3⟩
      gi_wp2
      have hrg3 := hrg2.of_walks hk3
      have HM := Lib.hid hrg3.left_eq
      go_roundw
      case rel => exact ⟨_, cnt2, ss ++ [y.t.1], hrg3, by simp; omega, hC2, hJ3⟩
      case measure => rw [HM.out, hLT.out.1]; exact hLT.out.2
theorem values_gives (Bm b : Nat) (p : OvS → Prop) (L : List OvS) (hL : ∀ x, p x → x ∈ L) (w : World) (hBm : Bm < w.heap.size) (hm : w.cell? ⟨Bm, 0, none⟩ = some (.map (some b))) (hown : MapS w b p) :
    SeqGives Fence.wide 2 Tryz.prog 72 #[.pointer (some ⟨Bm, 0, none⟩)] (Value.int .i64) (fun ss => ss.length ≤ L.length ∧ ∀ z, z ∈ ss ↔ ∃ x : OvS, p x ∧ x.t.1 = z) L.length w := fun l J W hW hJ hY h0 => by
  obtain ⟨f, hf, h2, h3⟩ := hown
  refine CallsIn.mono (values1_in 2 (by omega) l Bm b f h3 L (fun x h => hL x ((h2 x).1 h)) J hY W hJ ((Below.cell (p := ⟨Bm, 0, none⟩) hW hBm).trans hm) (hf.ext hW) h0) ?_
  rintro e W' ⟨h4, ss, ⟨h7, h5⟩, h6⟩
  exact ⟨h4, ss, ⟨h7, fun z => (h5 z).trans ⟨fun ⟨x, a, b⟩ => ⟨x, (h2 x).1 a, b⟩, fun ⟨x, a, b⟩ => ⟨x, (h2 x).2 a, b⟩⟩⟩, h6⟩
end Go.Proofs.YtbcciokmlkofkaaGreat

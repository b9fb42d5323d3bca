/- Contracts: after (the program's, over an iterator), After (the reference's, by a loop). -/
import Derived.Test.YtjfggepgjpdebaaA3
import Derived.Test.YtjfggepgjpdebaaOnce
set_option linter.unusedVariables false
set_option linter.unusedSimpArgs false
namespace Go.Proofs.Ytjfggepgjpdebaa
open Go.RowKit Go.Q Go.Shelf
attribute [local go_sem] Oper.semAt_some

set_option maxHeartbeats 1000000 in
theorem passing1_once (F : Fence) (n : Nat) (hF : F.fn 138) (hro : F.round = none) (hn : 1 ≤ n) (b : Nat) (t a : Int) (w : World)
    (ht0 : 0 ≤ t) (ht1 : t ≤ 2000000000) (ha0 : 0 ≤ a) (ha1 : a ≤ 127) (hb : b + 1 < w.heap.size)
    (hc0 : w.cell? ⟨b, 0, none⟩ = some (.int .i64 t)) (hc1 : w.cell? ⟨b + 1, 0, none⟩ = some (.int .i64 a)) :
    OnceSeq F n Try.prog 138 #[.pointer (some ⟨b + 1, 0, none⟩), .pointer (some ⟨b, 0, none⟩)] (fun x : Int => #[.int .i64 x]) (fun x => x = Q.after t a) w := fun l Jx W hW hY => by
  have c0 : W.cell? ⟨b, 0, none⟩ = some (.int .i64 t) := (hW.cell (p := ⟨b, 0, none⟩) (by show b < _; omega)).trans hc0
  have c1 : W.cell? ⟨b + 1, 0, none⟩ = some (.int .i64 a) := (hW.cell (p := ⟨b + 1, 0, none⟩) (by show b + 1 < _; omega)).trans hc1
  obtain ⟨f1, t1, a1, b1, hy1, hR1⟩ := hY _ rfl
  have hs : Q.after t a = t + 1 + (a - t - 1) % 16 := rfl
  rw [hs] at hy1 hR1
  clear hY hc0 hc1
  refine callsIn_of_wp Try.func138 rfl hF ?_ hro
  simp only [Try.ntmps138, List.size_toArray, List.length_cons, List.length_nil, Nat.reduceAdd, Nat.reduceSub, Array.replicate_succ, Array.replicate_zero, List.push_toArray, List.append_toArray, List.nil_append, List.cons_append]
  gi_wp2
  gi_loopw [5] (fun s wr => s = .int .i64 (t + 1 + (a - t - 1) % 16) ∧ W = wr) (fun _ _ => 0)
  case atStart => exact ⟨rfl, rfl⟩
  case round =>
    obtain ⟨rfl, rfl⟩ := hrel
    gi_wp2
    refine hR1.mono ?_
    rintro e W2 ⟨rfl, hx⟩
    gi_wp2
    go_end0
    exact ⟨⟨_, rfl⟩, _, rfl, hx⟩

theorem passing_in (F : Fence) (n : Nat) (hF : F.fn 122) (hro : F.round = none) (t a : Int) (w : World) :
    CallsIn F n Try.prog 122 #[.int .i64 t, .int .i64 a] w fun e w' => e = .returned (.func (.func 138) #[] #[.pointer (some ⟨w.heap.size + 1, 0, none⟩), .pointer (some ⟨w.heap.size, 0, none⟩)]) ∧ (w.alloc (.cells #[.int .i64 t] 3)).alloc (.cells #[.int .i64 a] 3) = w' := by
  refine callsIn_of_wp Try.func122 rfl hF ?_ hro
  simp only [Try.ntmps122, List.size_toArray, List.length_cons, List.length_nil, Nat.reduceAdd, Nat.reduceSub, Array.replicate_succ, Array.replicate_zero, List.push_toArray, List.append_toArray, List.nil_append, List.cons_append]
  gi_wp2
  go_ret
  exact ⟨rfl, rfl⟩

set_option maxHeartbeats 1000000 in
theorem after_any (t a : Int) (w : World) (ht0 : 0 ≤ t) (ht1 : t ≤ 2000000000) (ha0 : 0 ≤ a) (ha1 : a ≤ 127) :
    Calls Try.prog 92 #[.int .i64 t, .int .i64 a] w fun e w' => e = .returned (.int .i64 (Q.after t a)) ∧ Ext w w' := by
  refine (callsIn_wide (n := 5)).1 ?_
  refine callsIn_of_wp_marks Try.func92 rfl trivial ?_ rfl
  simp only [Try.ntmps92, List.size_toArray, List.length_cons, List.length_nil, Nat.reduceAdd, Nat.reduceSub, Array.replicate_succ, Array.replicate_zero, List.push_toArray, List.append_toArray, List.nil_append, List.cons_append]
  gi_wp2_with (refine ⟨trivial, ?_⟩; gi_at_call 122; refine (passing_in Fence.wide _ trivial rfl _ _ _).mono ?_; rintro e w' ⟨rfl, rfl⟩)
  obtain ⟨W0, hW0⟩ : ∃ W0, ((w.alloc (.cells #[.int .i64 0] 3)).alloc (.cells #[.int .i64 t] 3)).alloc (.cells #[.int .i64 a] 3) = W0 := ⟨_, rfl⟩
  have hs0 : W0.heap.size = w.heap.size + 3 := by rw [← hW0]; simp [go_sem]
  have e0 : Ext w W0 := by rw [← hW0]; exact (((Ext.refl w).alloc _).alloc _).alloc _
  have c0 : W0.cell? ⟨w.heap.size, 0, none⟩ = some (.int .i64 0) := by rw [← hW0]; simp [go_sem]
  have f0 : W0.frozen? ⟨w.heap.size, 0, none⟩ = false := by rw [← hW0]; simp [go_sem]
  have c1 : W0.cell? ⟨w.heap.size + 1, 0, none⟩ = some (.int .i64 t) := by rw [← hW0]; simp [go_sem]
  have c2 : W0.cell? ⟨w.heap.size + 1 + 1, 0, none⟩ = some (.int .i64 a) := by rw [← hW0]; simp [go_sem]
  rw [hW0]
  clear hW0
  refine wpIn_once rfl (by decide) (gf := 138) (lb := #[.pointer (some ⟨w.heap.size + 1 + 1, 0, none⟩), .pointer (some ⟨w.heap.size + 1, 0, none⟩)]) rfl trivial (enters_of Try.func138 (by kernel_rfl) rfl)
    (passing1_once Fence.wide _ trivial rfl (by decide) (w.heap.size + 1) t a W0 ht0 ht1 ha0 ha1 (by omega) c1 c2) (fun _ => rfl)
    (fun x W => Ext w W ∧ W.cell? ⟨w.heap.size, 0, none⟩ = some (.int .i64 x))
    (fun x W l o o' hl h ho hs => ⟨hs.1.grown (grownBy_putObj' W l o') hs.1.size (fun k e => by cases e; omega), cell_kept hs.2 (grownBy_putObj' W l o') (fun r e => by cases e; exact ⟨o, h, ho⟩)⟩)
    (fun x => { tmps := #[.int .i64 t, .int .i64 a, undef, undef, .pointer (some ⟨w.heap.size, 0, none⟩), .int .i64 x, .int .i64 t, .int .i64 a, .func (.func 138) #[] #[.pointer (some ⟨w.heap.size + 1 + 1, 0, none⟩), .pointer (some ⟨w.heap.size + 1, 0, none⟩)], .int .i64 x, undef, undef], defers := [] }) ?assign ?body ?stop
  case assign =>
    intro l x W K hK
    gi_wp2
    exact hK
  case body =>
    intro l x W hS hW
    have d0 : W.cell? ⟨w.heap.size, 0, none⟩ = some (.int .i64 0) := (hW.cell (p := ⟨w.heap.size, 0, none⟩) (by show w.heap.size < _; omega)).trans c0
    have g0 : W.frozen? ⟨w.heap.size, 0, none⟩ = false := (hW.frozen (p := ⟨w.heap.size, 0, none⟩) (by show w.heap.size < _; omega)).trans f0
    gi_wp2
    exact ⟨KeepsOthers.setCell _ _ _, (e0.comp hW).setCell (p := ⟨w.heap.size, 0, none⟩) (Nat.le_refl _) _⟩
  case stop =>
    rintro D x W hD rfl ⟨hW, hc⟩ hK
    gi_wp2
    refine ⟨by simp, .inl ⟨_, _, rfl, run_takeDeferred hK, ?_⟩⟩
    have hc5 := cell_kept hc (grownBy_putObj' _ D (.deferred none)) (fun r e => by cases e; exact ⟨_, hK, rfl⟩)
    refine ⟨.int .i64 (Q.after t a), ?_, rfl, hW.trans (belowK_b (w := w) (Nat.le_refl _) W D _ _ (by omega) hK rfl rfl)⟩
    simp [results, Try.f92, go_sem, hc5]

set_option maxHeartbeats 1000000 in
theorem rafter_any (t a : Int) (w : World) (ht0 : 0 ≤ t) (ht1 : t ≤ 2000000000) (ha0 : 0 ≤ a) (ha1 : a ≤ 127) :
    Calls Try.prog 85 #[.int .i64 t, .int .i64 a] w fun e w' => e = .returned (.int .i64 (Q.after t a)) ∧ w = w' := by
  have hq : Q.after t a = t + 1 + (a - t - 1) % 16 := rfl
  go_enter Try.func85, Try.ntmps85
  go_wp2
  go_loop [5] (fun s => ∃ k : Int, 0 ≤ k ∧ k ≤ (a - t - 1) % 16 ∧ s = .int .i64 (t + 1 + k)) (fun s => (t + 20 - intOf s).toNat)
  case atStart => exact ⟨0, by omega, by omega, by go_num⟩
  case round =>
    obtain ⟨k, hk0, hk1, rfl⟩ := hrel
    have hk2 : k ≤ 15 := by omega
    by_cases hlt : k < (a - t - 1) % 16
    · have hne : ((t + 1 + k) % 16 == a % 16) = false := by rw [beq_eq_false_iff_ne]; omega
      have hne' : ((t + 1 + k) % 16 != a % 16) = true := by rw [bne_iff_ne]; omega
      go_wp2
      go_round
      case rel => exact ⟨k + 1, by omega, by omega, by go_num⟩
      case measure => simp [intOf]; omega
    · have heq : ((t + 1 + k) % 16 == a % 16) = true := by rw [beq_iff_eq]; omega
      have heq' : ((t + 1 + k) % 16 != a % 16) = false := by rw [bne_eq_false_iff_eq]; omega
      go_wp2
      go_ret
      exact ⟨ret_int (by show t + 1 + k = Q.after t a; omega), rfl⟩
end Go.Proofs.Ytjfggepgjpdebaa

/- Contracts of layer 1: Keeps. -/
import Derived.Test.YtkkchoinfdfiaaaH24
set_option linter.unusedVariables false
set_option linter.unusedSimpArgs false
namespace Go.Proofs.Ytkkchoinfdfiaaa
open Go.RowKit Go.Q Go.Shelf Go.Maps
set_option maxHeartbeats 1000000 in
theorem keeps1_any (l : Ln) (hl : OkL l) (Bl Ba B : Nat) (m : Nat) (a : Int) (v : Value) (ss : List Int) (W : World) (hbl : W.heap[Bl]? = some (.cells #[.int .i64 l.words, .int .i64 l.bits, .int .i64 l.period, .int .i64 l.delay, .int .i64 l.slope, .int .i64 l.window] 25 (0, 0)))
    (hba : W.heap[Ba]? = some (.cells #[.int .i64 a] 3 (0, 0))) (hm : m ≤ 1000) (hown : W.ownsRow B 3 1 v ss.length (iv ss)) (hlen : ss.length ≤ 3402) (hss : ∀ z ∈ ss, -600 ≤ z ∧ z ≤ 1100) (r : Bool) (hr : ss.any (fun n => !safeL l n) = r) (ha : a < 0 ∨ 0 ≤ a) :
    Calls Try.prog 77 #[.int .i64 m, v, .pointer (some ⟨Bl, 0, none⟩), .pointer (some ⟨Ba, 0, none⟩)] W fun e W' => e = .returned (.bool (decide ((if r = true then (m : Int) else a) < 0))) ∧ W'.heap[Ba]? = some (.cells #[.int .i64 (if r = true then (m : Int) else a)] 3 (0, 0)) ∧ KpM (fun b => b = Ba) W W' := by
  obtain ⟨va, vc, rfl⟩ := own_shape hown
  have hcn := contains_in 78 #[.pointer (some ⟨Bl, 0, none⟩)] (fun n => !safeL l n) va ss.length vc ss W (fun args w => enters_of Try.func78 (by kernel_rfl) rfl args w)
    (fun W' x E hx => (keeps11_any Bl l hl x (hss x hx) W' ((E.block Bl (Array.getElem?_eq_some_iff.1 hbl).1).trans hbl)).mono fun _ _ he => ⟨he.1, E.comp he.2⟩) rfl (by omega) (own_ints hown)
  rw [hr] at hcn
  have hBa := (Array.getElem?_eq_some_iff.1 hba).1
  have HBA := Lib.hid hba
  clear hown hss hr hbl hba hlen
  cases r with
  | true =>
    have hn0 : ¬ (m : Int) < 0 := by omega
    rw [if_pos rfl, decide_eq_false hn0]
    go_enter Try.func77, Try.ntmps77
    go_wp2_with (go_at_call 56; refine hcn.mono ?_; rintro e w1 ⟨rfl, E1⟩; have hb1 := (E1.block Ba hBa).trans HBA.out; have c0 := blk_cell hb1 0 (v := .int .i64 a) rfl; have f0 := blk_free hb1 0)
    go_wp2
    go_ret
    refine ⟨rfl, ?_, (KpM.of_ext E1).trans (kp_cell _ _ _ _ rfl)⟩
    simpa using heap_setCell_same w1 Ba 0 _ _ (.int .i64 m) hb1
  | false =>
    rw [if_neg (by simp)]
    go_enter Try.func77, Try.ntmps77
    go_wp2_with (go_at_call 56; refine hcn.mono ?_; rintro e w1 ⟨rfl, E1⟩; have hb1 := (E1.block Ba hBa).trans HBA.out; have c0 := blk_cell hb1 0 (v := .int .i64 a) rfl; have f0 := blk_free hb1 0)
    go_wp2
    go_ret
    exact ⟨ret_bool rfl, hb1, KpM.of_ext E1⟩
theorem unsafeO_any {l : Ln} {o : Ov} {temp : Sp} {heats : Bool} {m : Nat} {ss : List Int} (h : ∀ z, z ∈ ss ↔ ∃ b, (z, b) ∈ statesO o temp heats m) : ss.any (fun n => !safeL l n) = unsafeO l o temp heats m := by
  unfold unsafeO
  rw [Bool.eq_iff_iff, List.any_eq_true, List.any_eq_true]
  constructor
  · rintro ⟨z, h1, h2⟩
    obtain ⟨b, hb⟩ := (h z).1 h1
    exact ⟨_, hb, h2⟩
  · rintro ⟨s, h1, h2⟩
    exact ⟨s.1, (h _).2 ⟨s.2, h1⟩, h2⟩
theorem kpV_sgn (u : Nat → Bool) : ∀ m, kpV u m = -1 ∨ 0 ≤ kpV u m
  | 0 => .inl rfl
  | m + 1 => by unfold kpV; split; exact .inr (by omega); exact kpV_sgn u m
theorem kpF_bd (u : Nat → Bool) (M : Nat) : kpF u M = -1 ∨ (0 ≤ kpF u M ∧ kpF u M ≤ M) := by
  unfold kpF
  split
  · rename_i m h
    have := List.mem_range.1 (List.mem_of_find?_eq_some h)
    exact .inr (by omega)
  · exact .inl rfl
theorem keeps_boxes {w w1 : World} {c0 c1 c2 c3 : Array Value} {k0 k1 k2 k3 : TypeId} (E : Ext ((((w.alloc (.cells c0 k0)).alloc (.cells c1 k1)).alloc (.cells c2 k2)).alloc (.cells c3 k3)) w1) :
    w1.heap[w.heap.size]? = some (.cells c0 k0 (0, 0)) ∧ w1.heap[w.heap.size + 1]? = some (.cells c1 k1 (0, 0)) ∧ w1.heap[w.heap.size + 1 + 1]? = some (.cells c2 k2 (0, 0)) ∧ w1.heap[w.heap.size + 1 + 1 + 1]? = some (.cells c3 k3 (0, 0)) := by
  have e1 := heap_alloc_new w (.cells c0 k0)
  have e2 := heap_alloc_new (w.alloc (.cells c0 k0)) (.cells c1 k1)
  have e3 := heap_alloc_new ((w.alloc (.cells c0 k0)).alloc (.cells c1 k1)) (.cells c2 k2)
  have e4 := heap_alloc_new (((w.alloc (.cells c0 k0)).alloc (.cells c1 k1)).alloc (.cells c2 k2)) (.cells c3 k3)
  simp only [World.size_alloc] at e2 e3 e4
  have X3 := E.old
  have X2 := X3.old
  have X1 := X2.old
  exact ⟨(X1.block _ (by simp)).trans e1, (X2.block _ (by simp)).trans e2, (X3.block _ (by simp)).trans e3, (E.block _ (by simp)).trans e4⟩
set_option maxRecDepth 100000 in
set_option maxHeartbeats 4000000 in
theorem Keeps_any (l : Ln) (o : Ov) (temp : Sp) (heats : Bool) (minutes : Int) (w : World) :
    Calls Try.prog 44 #[.agg #[.int .i64 l.words, .int .i64 l.bits, .int .i64 l.period, .int .i64 l.delay, .int .i64 l.slope, .int .i64 l.window], .agg #[.int .i64 o.low, .int .i64 o.high, .int .i64 o.warm.lo, .int .i64 o.warm.hi, .int .i64 o.cool.lo, .int .i64 o.cool.hi], .agg #[.int .i64 temp.lo, .int .i64 temp.hi], .bool heats, .int .i64 minutes] w fun e w' =>
      e = .returned (.tuple #[.int .i64 (keepsE l o temp heats minutes).1, .int .i64 (keepsE l o temp heats minutes).2]) ∧ Ext w w' := by
  have hck := fun W => check_any l W
  have hs := fun W => suspect_any o temp minutes W
  by_cases hcl : checkL l = 0
  · rw [hcl] at hck
    by_cases hx : ovenX o temp minutes = 0
    · obtain ⟨ho, hsp, hm0, hm1⟩ := okO_of hx
      obtain ⟨t0, t1, t2⟩ := spanX_bd hsp
      have hok : OkL l := by
        unfold checkL at hcl
        split at hcl
        · rename_i h; exact okL_ok h
        · omega
      have e1 : keepsE l o temp heats minutes = (kpF (unsafeO l o temp heats) minutes.toNat, 0) := by unfold keepsE; rw [if_neg (by omega), if_neg (by omega)]
      rw [e1]
      rw [hx] at hs
      obtain ⟨M, rfl⟩ : ∃ M : Nat, minutes = (M : Int) := ⟨minutes.toNat, by omega⟩
      rw [show ((M : Int).toNat) = M by simp]
      obtain ⟨u, hu⟩ : ∃ u, unsafeO l o temp heats = u := ⟨_, rfl⟩
      have hfo := fun (Bl Ba : Nat) (W : World) (hne : Bl ≠ Ba) (hB : Bl < Ba ∧ Ba < W.heap.size) (hl0 : W.heap[Bl]? = some (.cells #[.int .i64 l.words, .int .i64 l.bits, .int .i64 l.period, .int .i64 l.delay, .int .i64 l.slope, .int .i64 l.window] 25 (0, 0))) (h0 : W.heap[Ba]? = some (.cells #[.int .i64 (-1)] 3 (0, 0))) =>
        follow_any o ho temp ⟨by omega, by omega⟩ heats M (by omega) 77 #[.pointer (some ⟨Bl, 0, none⟩), .pointer (some ⟨Ba, 0, none⟩)] (enters_of Try.func77 (by kernel_rfl) rfl) (fun m => decide (kpV u (m + 1) < 0)) (fun b => b = Ba)
          (fun m W => W.heap[Bl]? = some (.cells #[.int .i64 l.words, .int .i64 l.bits, .int .i64 l.period, .int .i64 l.delay, .int .i64 l.slope, .int .i64 l.window] 25 (0, 0)) ∧ W.heap[Ba]? = some (.cells #[.int .i64 (kpV u m)] 3 (0, 0))) W (fun b e => by omega)
          (fun m A B hA hk => ⟨(hk.2 _ (Array.getElem?_eq_some_iff.1 hA.1).1 (fun e => by omega)).trans hA.1, (hk.2 _ (Array.getElem?_eq_some_iff.1 hA.2).1 (fun e => by omega)).trans hA.2⟩) ⟨hl0, h0⟩
          (fun m A B v ss hm hA hB hown hl hmem => (keeps1_any l hok Bl Ba B m (kpV u m) v ss A hA.1 hA.2 (by omega) hown hl (fun z hz => by
            obtain ⟨b, hb⟩ := (hmem z).1 hz
            exact statesO_bd ho (by omega) m _ hb) (u m) ((unsafeO_any hmem).trans (congrFun hu m)) (by have := kpV_sgn u m; omega)).mono (by
            rintro e A' ⟨rfl, h1, h2⟩
            refine ⟨rfl, ⟨(h2.2 _ (Array.getElem?_eq_some_iff.1 hA.1).1 (fun e => by omega)).trans hA.1, h1⟩, h2.mono (fun _ h => .inl h)⟩))
      have HFO := Lib.hid hfo
      rw [hu]
      clear e1 hx hsp hfo hu hcl
      go_enter Try.func44, Try.ntmps44
      go_wp2_with fail
      refine (hck _).mono ?_
      rintro e w1 ⟨rfl, E1⟩
      obtain ⟨b0, b1, b2, b3⟩ := keeps_boxes E1
      have EW := E1.old.old.old.old
      have q0 := blk_cell b1 0 (v := .int .i64 o.low) rfl
      have q1 := blk_cell b1 1 (v := .int .i64 o.high) rfl
      have q2 := blk_cell b1 2 (v := .int .i64 o.warm.lo) rfl
      have q3 := blk_cell b1 3 (v := .int .i64 o.warm.hi) rfl
      have q4 := blk_cell b1 4 (v := .int .i64 o.cool.lo) rfl
      have q5 := blk_cell b1 5 (v := .int .i64 o.cool.hi) rfl
      have r0 := blk_cell b2 0 (v := .int .i64 temp.lo) rfl
      have r1 := blk_cell b2 1 (v := .int .i64 temp.hi) rfl
      have HB := Lib.hid (And.intro b0 (And.intro b1 (And.intro b2 b3)))
      clear E1 b0 b1 b2 b3 hck
      go_wp2_with fail
      refine (hs _).mono ?_
      rintro e w2 ⟨rfl, E2⟩
      have EW2 := EW.comp E2
      have a0 := (E2.block _ (Array.getElem?_eq_some_iff.1 HB.out.1).1).trans HB.out.1
      have a1 := (E2.block _ (Array.getElem?_eq_some_iff.1 HB.out.2.1).1).trans HB.out.2.1
      have a2 := (E2.block _ (Array.getElem?_eq_some_iff.1 HB.out.2.2.1).1).trans HB.out.2.2.1
      have a3 := (E2.block _ (Array.getElem?_eq_some_iff.1 HB.out.2.2.2).1).trans HB.out.2.2.2
      clear EW E2 HB hs q0 q1 q2 q3 q4 q5 r0 r1
      have q0 := blk_cell a1 0 (v := .int .i64 o.low) rfl
      have q1 := blk_cell a1 1 (v := .int .i64 o.high) rfl
      have q2 := blk_cell a1 2 (v := .int .i64 o.warm.lo) rfl
      have q3 := blk_cell a1 3 (v := .int .i64 o.warm.hi) rfl
      have q4 := blk_cell a1 4 (v := .int .i64 o.cool.lo) rfl
      have q5 := blk_cell a1 5 (v := .int .i64 o.cool.hi) rfl
      have r0 := blk_cell a2 0 (v := .int .i64 temp.lo) rfl
      have r1 := blk_cell a2 1 (v := .int .i64 temp.hi) rfl
      have s0 := blk_cell a3 0 (v := .int .i64 0) rfl
      have f0 := blk_free a3 0
      have hz := heap_setCell_same w2 (w.heap.size + 1 + 1 + 1) 0 _ _ (.int .i64 (-1)) a3
      have hlt := (Array.getElem?_eq_some_iff.1 a3).1
      have hfw := HFO.out w.heap.size (w.heap.size + 1 + 1 + 1) (w2.setCell ⟨w.heap.size + 1 + 1 + 1, 0, none⟩ (.int .i64 (-1))) (by omega) ⟨by omega, by simpa using hlt⟩ ((Below.heap_setCell _ _ _ _ (by show w.heap.size ≠ w.heap.size + 1 + 1 + 1; omega)).trans a0) (by simpa using hz)
      have HE2 := Lib.hid (EW2.setCell (p := ⟨w.heap.size + 1 + 1 + 1, 0, none⟩) (by show w.heap.size ≤ w.heap.size + 1 + 1 + 1; omega) (.int .i64 (-1)))
      clear a0 a1 a2 a3 hz hlt EW2 HFO
      go_wp2_with fail
      refine hfw.mono ?_
      rintro e w3 ⟨rfl, K3, k, hk, hgk, hek, hJ⟩
      have E3 := ext_kp HE2.out K3 (fun b e => by omega)
      have hv := kp_end hk hgk hek
      rw [hv] at hJ
      have g0 := blk_cell hJ.2 0 (v := .int .i64 (kpF u M)) rfl
      have y0 := blk_free hJ.2 0
      clear q0 q1 q2 q3 q4 q5 r0 r1 s0 f0 hfw K3 hgk hek hJ hv
      go_wp2
      refine bodyPost_ret (v := .tuple #[.int .i64 (kpF u M), .int .i64 0]) (by simp [results, Try.results44, go_sem, g0, y0]) rfl ⟨rfl, ?_⟩
      exact E3.setCell (p := ⟨w.heap.size + 1 + 1 + 1, 0, none⟩) (by show w.heap.size ≤ w.heap.size + 1 + 1 + 1; omega) _
    · have e1 : keepsE l o temp heats minutes = (0, ovenX o temp minutes) := by unfold keepsE; rw [if_neg (by omega), if_pos hx]
      rw [e1]
      obtain ⟨x, hxx⟩ : ∃ x, ovenX o temp minutes = x := ⟨_, rfl⟩
      rw [hxx] at hx hs ⊢
      clear e1 hxx hcl
      go_enter Try.func44, Try.ntmps44
      go_wp2_with fail
      refine (hck _).mono ?_
      rintro e w1 ⟨rfl, E1⟩
      obtain ⟨b0, b1, b2, b3⟩ := keeps_boxes E1
      have EW := E1.old.old.old.old
      have q0 := blk_cell b1 0 (v := .int .i64 o.low) rfl
      have q1 := blk_cell b1 1 (v := .int .i64 o.high) rfl
      have q2 := blk_cell b1 2 (v := .int .i64 o.warm.lo) rfl
      have q3 := blk_cell b1 3 (v := .int .i64 o.warm.hi) rfl
      have q4 := blk_cell b1 4 (v := .int .i64 o.cool.lo) rfl
      have q5 := blk_cell b1 5 (v := .int .i64 o.cool.hi) rfl
      have r0 := blk_cell b2 0 (v := .int .i64 temp.lo) rfl
      have r1 := blk_cell b2 1 (v := .int .i64 temp.hi) rfl
      have HB := Lib.hid b3
      clear E1 b0 b1 b2 b3 hck
      go_wp2_with fail
      refine (hs _).mono ?_
      rintro e w2 ⟨rfl, E2⟩
      have EW2 := EW.comp E2
      have a3 := (E2.block _ (Array.getElem?_eq_some_iff.1 HB.out).1).trans HB.out
      have s0 := blk_cell a3 0 (v := .int .i64 0) rfl
      have f0 := blk_free a3 0
      clear EW E2 HB hs q0 q1 q2 q3 q4 q5 r0 r1 a3
      go_wp2
      refine bodyPost_ret (v := .tuple #[.int .i64 0, .int .i64 x]) (by simp [results, Try.results44, go_sem, s0, f0]) rfl ⟨rfl, ?_⟩
      exact EW2.setCell (p := ⟨w.heap.size + 1 + 1 + 1, 0, none⟩) (by show w.heap.size ≤ w.heap.size + 1 + 1 + 1; omega) _
  · have e1 : keepsE l o temp heats minutes = (0, checkL l) := by unfold keepsE; rw [if_pos hcl]
    rw [e1]
    obtain ⟨x, hxx⟩ : ∃ x, checkL l = x := ⟨_, rfl⟩
    rw [hxx] at hcl hck ⊢
    clear e1 hxx hs
    go_enter Try.func44, Try.ntmps44
    go_wp2_with fail
    refine (hck _).mono ?_
    rintro e w1 ⟨rfl, E1⟩
    obtain ⟨b0, b1, b2, b3⟩ := keeps_boxes E1
    have EW := E1.old.old.old.old
    have s0 := blk_cell b3 0 (v := .int .i64 0) rfl
    have f0 := blk_free b3 0
    clear E1 b0 b1 b2 b3 hck
    go_wp2
    refine bodyPost_ret (v := .tuple #[.int .i64 0, .int .i64 x]) (by simp [results, Try.results44, go_sem, s0, f0]) rfl ⟨rfl, ?_⟩
    exact EW.setCell (p := ⟨w.heap.size + 1 + 1 + 1, 0, none⟩) (by show w.heap.size ≤ w.heap.size + 1 + 1 + 1; omega) _
end Go.Proofs.Ytkkchoinfdfiaaa

import Derived.Test.YtbcciokmlkofkaaGreatWH19
set_option linter.unusedVariables false
set_option linter.unusedSimpArgs false
/- Contracts of layer 1: Keeps: a search by a predicate that is known at the slice's own numbers; the callbacks. -/
namespace Go.Q
/-- what Keeps has found before a minute; and at the end -/
def kpV (u : Nat → Bool) : Nat → Int
  | 0 => -1
  | m + 1 => if u m = true then (m : Int) else kpV u m
def kpF (u : Nat → Bool) (M : Nat) : Int := match (List.range (M + 1)).find? u with | some m => (m : Int) | none => -1
theorem kpV_none {u : Nat → Bool} : ∀ {k : Nat}, (∀ j, j < k → u j = false) → kpV u k = -1
  | 0, _ => rfl
  | k + 1, h => by unfold kpV; rw [if_neg (by rw [h k (by omega)]; simp), kpV_none (fun j hj => h j (by omega))]
theorem kpF_some {u : Nat → Bool} {M k : Nat} (hk : k ≤ M) (hu : u k = true) (h : ∀ j, j < k → u j = false) : kpF u M = k := by
  unfold kpF
  have e : (List.range (M + 1)).find? u = some k := by
    rw [List.find?_range_eq_some]
    exact ⟨hu, List.mem_range.2 (by omega), fun j hj => by rw [h j hj]; rfl⟩
  rw [e]
theorem kpF_none {u : Nat → Bool} {M : Nat} (h : ∀ j, j ≤ M → u j = false) : kpF u M = -1 := by
  unfold kpF
  have e : (List.range (M + 1)).find? u = none := by
    rw [List.find?_range_eq_none]
    exact fun j hj => by rw [h j (by omega)]; rfl
  rw [e]
theorem kp_all {u : Nat → Bool} : ∀ {k : Nat}, (∀ j, j < k → decide (kpV u (j + 1) < 0) = true) → ∀ j, j < k → u j = false := by
  intro k h j hj
  have := h j hj
  cases hu : u j with
  | false => rfl
  | true =>
    unfold kpV at this
    rw [if_pos hu] at this
    have := of_decide_eq_true this
    omega
theorem kp_end {u : Nat → Bool} {M k : Nat} (hk : k ≤ M) (hg : ∀ j, j < k → decide (kpV u (j + 1) < 0) = true) (he : decide (kpV u (k + 1) < 0) = false ∨ k = M) : kpV u (k + 1) = kpF u M := by
  have ha := kp_all hg
  have e0 := kpV_none ha
  cases hu : u k with
  | true =>
    rw [kpF_some hk hu ha]
    unfold kpV
    rw [if_pos hu]
  | false =>
    have e1 : kpV u (k + 1) = -1 := by unfold kpV; rw [if_neg (by rw [hu]; simp), e0]
    rcases he with he | rfl
    · rw [e1] at he; simp at he
    · rw [e1, kpF_none (fun j hj => if h : j = k then h ▸ hu else ha j (by omega))]
/-- a temperature of a minute at which the line may not be safe -/
def unsafeO (l : Ln) (o : Ov) (temp : Sp) (heats : Bool) (m : Nat) : Bool := (statesO o temp heats m).any fun s => !safeL l s.1
def keepsE (l : Ln) (o : Ov) (temp : Sp) (heats : Bool) (minutes : Int) : Int × Int :=
  if checkL l ≠ 0 then (0, checkL l) else if ovenX o temp minutes ≠ 0 then (0, ovenX o temp minutes) else (kpF (unsafeO l o temp heats) minutes.toNat, 0)
end Go.Q
namespace Go.Proofs.YtbcciokmlkofkaaGreat
open Go.RowKit Go.Q Go.Shelf Go.Maps
theorem own_shape {w : World} {B t sz n : Nat} {v : Value} {xs : List Value} (h : w.ownsRow B t sz v n xs) : ∃ a c, v = .slice a n c := by
  rcases h.2 with ⟨h1, h2⟩ | ⟨g, cap, cur, h1, h2, h3, _⟩
  · exact ⟨_, _, by rw [h1, h2]⟩
  · exact ⟨_, _, h1⟩
set_option maxHeartbeats 1000000 in
theorem index_in (g : Nat) (lb : Array Value) (p : Int → Bool) (a : Option Addr) (n cap : Nat) (xs : List Int) (w : World)
    (eg : ∀ args w, (callFunc g args).run Tryz.prog w = .ok (.enter g args) w) (hp : ∀ (W : World) (x : Int), Ext w W → x ∈ xs → Calls Tryz.prog g (#[.int .i64 x] ++ lb) W fun e w' => e = .returned (.bool (p x)) ∧ Ext w w')
    (hn : xs.length = n) (hbig : n ≤ 9223372036854775807) (hI : IntsAt w a xs) :
    Calls Tryz.prog 55 #[.slice a n cap, .func (.func g) #[] lb] w fun e w' => e = .returned (.int .i64 (idxQ p xs)) ∧ Ext w w' := by
  rcases hI with rfl | ⟨b, off, rfl, hb, hc⟩
  · obtain rfl : n = 0 := hn.symm
    go_enter Tryz.func55, Tryz.ntmps55
    go_wp2
    go_loopg [5, 8] 0 (fun gg _ s8 wr => s8 = .int .i64 0 ∧ Aside (Ext w wr))
    case atStart => exact ⟨rfl, Ext.refl w⟩
    case round =>
      obtain ⟨rfl, BW⟩ := hrel
      go_wp2
      go_ret
      exact ⟨rfl, BW.out⟩
  · subst hn
    go_enter Tryz.func55, Tryz.ntmps55
    go_wp2
    go_loopg [5, 8] xs.length (fun gg _ s8 wr => ∃ kk : Nat, kk ≤ xs.length ∧ xs.length - kk ≤ gg ∧ s8 = .int .i64 kk ∧ Aside (Ext w wr) ∧ Aside (∀ j, j < kk → p (xs[j]?.getD 0) = false))
    case atStart => exact ⟨0, Nat.zero_le _, by omega, rfl, Ext.refl w, fun j hj => absurd hj (Nat.not_lt_zero _)⟩
    case round =>
      obtain ⟨kk, hkk, hg, rfl, BW, A⟩ := hrel
      by_cases hlt : kk < xs.length
      · have hltz : (kk : Int) < (xs.length : Int) := by omega
        have l2 : wr.cell? ⟨b, off + kk, none⟩ = some (.int .i64 (xs[kk]?.getD 0)) := (BW.out.cell (p := ⟨b, off + kk, none⟩) hb).trans (hc kk hlt)
        have hcall := hp wr (xs[kk]?.getD 0) BW.out (by rw [List.getElem?_eq_getElem hlt]; exact List.getElem_mem hlt)
        clear hc hp
        generalize hy : xs[kk]?.getD 0 = y at l2 hcall
        have B : Aside (xs[kk]?.getD 0 = y) := hy
        clear hy
        cases hq : p y with
        | true =>
          rw [hq] at hcall
          go_wp2_with (go_at_fn g; refine hcall.mono ?_; rintro e w' ⟨rfl, hb'⟩)
          go_ret
          refine ⟨?_, hb'⟩
          rw [idxQ_hit p xs kk hlt (by rw [B.out]; exact hq) A.out]
          rfl
        | false =>
          rw [hq] at hcall
          go_wp2_with (go_at_fn g; refine hcall.mono ?_; rintro e w' ⟨rfl, hb'⟩)
          go_roundg (xs.length - (kk + 1))
          case measure => omega
          case rel =>
            refine ⟨kk + 1, by omega, by omega, by go_num, hb', (show Aside _ from fun j hj => ?_)⟩
            by_cases e : j = kk
            · subst e
              rw [B.out]; exact hq
            · exact A.out j (by omega)
      · have hltz : ¬ (kk : Int) < (xs.length : Int) := by omega
        have hkx : kk = xs.length := by omega
        go_wp2
        go_ret
        refine ⟨?_, BW.out⟩
        rw [idxQ_miss p xs (fun j hj => A.out j (by omega))]
        rfl
set_option maxHeartbeats 400000 in
theorem contains_in (g : Nat) (lb : Array Value) (p : Int → Bool) (a : Option Addr) (n cap : Nat) (xs : List Int) (w : World)
    (eg : ∀ args w, (callFunc g args).run Tryz.prog w = .ok (.enter g args) w) (hp : ∀ (W : World) (x : Int), Ext w W → x ∈ xs → Calls Tryz.prog g (#[.int .i64 x] ++ lb) W fun e w' => e = .returned (.bool (p x)) ∧ Ext w w')
    (hn : xs.length = n) (hbig : n ≤ 9223372036854775807) (hI : IntsAt w a xs) :
    Calls Tryz.prog 19 #[.slice a n cap, .func (.func g) #[] lb] w fun e w' => e = .returned (.bool (xs.any p)) ∧ Ext w w' := by
  have hc := index_in g lb p a n cap xs w eg hp hn hbig hI
  rw [← idxQ_nonneg]
  clear hp hI
  go_enter Tryz.func19, Tryz.ntmps19
  go_wp2_with (go_at_call 55; refine hc.mono ?_; rintro e w' ⟨rfl, hb'⟩)
  go_ret
  exact ⟨rfl, hb'⟩
set_option maxHeartbeats 400000 in
theorem keeps11_any (b : Nat) (l : Ln) (hl : OkL l) (n : Int) (hn : -600 ≤ n ∧ n ≤ 1100) (w : World) (hb : w.heap[b]? = some (.cells #[.int .i64 l.words, .int .i64 l.bits, .int .i64 l.period, .int .i64 l.delay, .int .i64 l.slope, .int .i64 l.window] 26 (0, 0))) :
    Calls Tryz.prog 20 #[.int .i64 n, .pointer (some ⟨b, 0, none⟩)] w fun e w' => e = .returned (.bool (!safeL l n)) ∧ Ext w w' := by
  have hs := fun W => safe_any l n W hl (by omega)
  have c0 := blk_cell hb 0 (v := .int .i64 l.words) rfl
  have c1 := blk_cell hb 1 (v := .int .i64 l.bits) rfl
  have c2 := blk_cell hb 2 (v := .int .i64 l.period) rfl
  have c3 := blk_cell hb 3 (v := .int .i64 l.delay) rfl
  have c4 := blk_cell hb 4 (v := .int .i64 l.slope) rfl
  have c5 := blk_cell hb 5 (v := .int .i64 l.window) rfl
  generalize safeL l n = r at hs ⊢
  go_enter Tryz.func20, Tryz.ntmps20
  go_wp2_with fail
  refine (hs _).mono ?_
  rintro e w1 ⟨rfl, E1⟩
  go_wp2
  go_ret
  exact ⟨rfl, (by repeat (first | with_reducible exact E1 | with_reducible refine Ext.alloc ?_ _ | with_reducible refine Below.drew ?_))⟩
end Go.Proofs.YtbcciokmlkofkaaGreat
/- Contracts of layer 1: Keeps. -/
namespace Go.Proofs.YtbcciokmlkofkaaGreat
open Go.RowKit Go.Q Go.Shelf Go.Maps
set_option maxHeartbeats 1000000 in
theorem keeps1_any (l : Ln) (hl : OkL l) (Bl Ba B : Nat) (m : Nat) (a : Int) (v : Value) (ss : List Int) (W : World) (hbl : W.heap[Bl]? = some (.cells #[.int .i64 l.words, .int .i64 l.bits, .int .i64 l.period, .int .i64 l.delay, .int .i64 l.slope, .int .i64 l.window] 26 (0, 0)))
    (hba : W.heap[Ba]? = some (.cells #[.int .i64 a] 3 (0, 0))) (hm : m ≤ 1000) (hown : W.ownsRow B 3 1 v ss.length (iv ss)) (hlen : ss.length ≤ 3402) (hss : ∀ z ∈ ss, -600 ≤ z ∧ z ≤ 1100) (r : Bool) (hr : ss.any (fun n => !safeL l n) = r) (ha : a < 0 ∨ 0 ≤ a) :
    Calls Tryz.prog 18 #[.int .i64 m, v, .pointer (some ⟨Bl, 0, none⟩), .pointer (some ⟨Ba, 0, none⟩)] W fun e W' => e = .returned (.bool (decide ((if r = true then (m : Int) else a) < 0))) ∧ W'.heap[Ba]? = some (.cells #[.int .i64 (if r = true then (m : Int) else a)] 3 (0, 0)) ∧ KpM (fun b => b = Ba) W W' := by
  obtain ⟨va, vc, rfl⟩ := own_shape hown
  have hcn := contains_in 20 #[.pointer (some ⟨Bl, 0, none⟩)] (fun n => !safeL l n) va ss.length vc ss W (fun args w => enters_of Tryz.func20 (by kernel_rfl) rfl args w)
    (fun W' x E hx => (keeps11_any Bl l hl x (hss x hx) W' ((E.block Bl (Array.getElem?_eq_some_iff.1 hbl).1).trans hbl)).mono fun _ _ he => ⟨he.1, E.comp he.2⟩) rfl (by omega) (own_intsL hown)
  rw [hr] at hcn
  have hBa := (Array.getElem?_eq_some_iff.1 hba).1
  have HBA := Lib.hid hba
  clear hown hss hr hbl hba hlen
  cases r with
  | true =>
    have hn0 : ¬ (m : Int) < 0 := by omega
    rw [if_pos rfl, decide_eq_false hn0]
    go_enter Tryz.func18, Tryz.ntmps18
    go_wp2_with (go_at_call 19; refine hcn.mono ?_; rintro e w1 ⟨rfl, E1⟩; have hb1 := (E1.block Ba hBa).trans HBA.out; have c0 := blk_cell hb1 0 (v := .int .i64 a) rfl; have f0 := blk_free hb1 0)
    go_wp2
    go_ret
    refine ⟨rfl, ?_, (KpM.of_ext E1).trans (kp_cell _ _ _ _ rfl)⟩
    simpa using heap_setCell_same w1 Ba 0 _ _ (.int .i64 m) hb1
  | false =>
    rw [if_neg (by simp)]
    go_enter Tryz.func18, Tryz.ntmps18
    go_wp2_with (go_at_call 19; refine hcn.mono ?_; rintro e w1 ⟨rfl, E1⟩; have hb1 := (E1.block Ba hBa).trans HBA.out; have c0 := blk_cell hb1 0 (v := .int .i64 a) rfl; have f0 := blk_free hb1 0)
    go_wp2
    go_ret
    exact ⟨ret_bool rfl, hb1, KpM.of_ext E1⟩
theorem unsafeO_any {l : Ln} {o : Ov} {temp : Sp} {heats : Bool} {m : Nat} {ss : List Int} (h : ∀ z, z ∈ ss ↔ ∃ b, (z, b) ∈ statesO o temp heats m) : ss.any (fun n => !safeL l n) = unsafeO l o temp heats m := by
  unfold unsafeO
  rw [Bool.eq_iff_iff, List.any_eq_true, List.any_eq_true]
  constructor
  · rintro ⟨z, h1, h2⟩
    obtain ⟨b, hb⟩ := (h z).1 h1
    exact ⟨_, hb, h2⟩
  · rintro ⟨s, h1, h2⟩
    exact ⟨s.1, (h _).2 ⟨s.2, h1⟩, h2⟩
theorem kpV_sgn (u : Nat → Bool) : ∀ m, kpV u m = -1 ∨ 0 ≤ kpV u m
  | 0 => .inl rfl
  | m + 1 => by unfold kpV; split; exact .inr (by omega); exact kpV_sgn u m
theorem kpF_bd (u : Nat → Bool) (M : Nat) : kpF u M = -1 ∨ (0 ≤ kpF u M ∧ kpF u M ≤ M) := by
  unfold kpF
  split
  · rename_i m h
    have := List.mem_range.1 (List.mem_of_find?_eq_some h)
    exact .inr (by omega)
  · exact .inl rfl
theorem keeps_boxes {w w1 : World} {c0 c1 c2 c3 : Array Value} {k0 k1 k2 k3 : TypeId} (E : Ext ((((w.alloc (.cells c0 k0)).alloc (.cells c1 k1)).alloc (.cells c2 k2)).alloc (.cells c3 k3)) w1) :
    w1.heap[w.heap.size]? = some (.cells c0 k0 (0, 0)) ∧ w1.heap[w.heap.size + 1]? = some (.cells c1 k1 (0, 0)) ∧ w1.heap[w.heap.size + 1 + 1]? = some (.cells c2 k2 (0, 0)) ∧ w1.heap[w.heap.size + 1 + 1 + 1]? = some (.cells c3 k3 (0, 0)) := by
  have e1 := heap_alloc_new w (.cells c0 k0)
  have e2 := heap_alloc_new (w.alloc (.cells c0 k0)) (.cells c1 k1)
  have e3 := heap_alloc_new ((w.alloc (.cells c0 k0)).alloc (.cells c1 k1)) (.cells c2 k2)
  have e4 := heap_alloc_new (((w.alloc (.cells c0 k0)).alloc (.cells c1 k1)).alloc (.cells c2 k2)) (.cells c3 k3)
  simp only [World.size_alloc] at e2 e3 e4
  have X3 := E.old
  have X2 := X3.old
  have X1 := X2.old
  exact ⟨(X1.block _ (by simp)).trans e1, (X2.block _ (by simp)).trans e2, (X3.block _ (by simp)).trans e3, (E.block _ (by simp)).trans e4⟩
set_option maxRecDepth 100000 in
set_option maxHeartbeats 4000000 in
theorem Keeps_any (l : Ln) (o : Ov) (temp : Sp) (heats : Bool) (minutes : Int) (w : World) :
    Calls Tryz.prog 5 #[.agg #[.int .i64 l.words, .int .i64 l.bits, .int .i64 l.period, .int .i64 l.delay, .int .i64 l.slope, .int .i64 l.window], .agg #[.int .i64 o.low, .int .i64 o.high, .int .i64 o.warm.lo, .int .i64 o.warm.hi, .int .i64 o.cool.lo, .int .i64 o.cool.hi], .agg #[.int .i64 temp.lo, .int .i64 temp.hi], .bool heats, .int .i64 minutes] w fun e w' =>
      e = .returned (.tuple #[.int .i64 (keepsE l o temp heats minutes).1, .int .i64 (keepsE l o temp heats minutes).2]) ∧ Ext w w' := by
  have hck := fun W => check_anyL l W
  have hs := fun W => suspect_any o temp minutes W
  by_cases hcl : checkL l = 0
  · rw [hcl] at hck
    by_cases hx : ovenX o temp minutes = 0
    · obtain ⟨ho, hsp, hm0, hm1⟩ := okO_of hx
      obtain ⟨t0, t1, t2⟩ := spanX_bd hsp
      have hok : OkL l := by
        unfold checkL at hcl
        split at hcl
        · rename_i h; exact okL_ok h
        · omega
      have e1 : keepsE l o temp heats minutes = (kpF (unsafeO l o temp heats) minutes.toNat, 0) := by unfold keepsE; rw [if_neg (by omega), if_neg (by omega)]
      rw [e1]
      rw [hx] at hs
      obtain ⟨M, rfl⟩ : ∃ M : Nat, minutes = (M : Int) := ⟨minutes.toNat, by omega⟩
      rw [show ((M : Int).toNat) = M by simp]
      obtain ⟨u, hu⟩ : ∃ u, unsafeO l o temp heats = u := ⟨_, rfl⟩
      have hfo := fun (Bl Ba : Nat) (W : World) (hne : Bl ≠ Ba) (hB : Bl < Ba ∧ Ba < W.heap.size) (hl0 : W.heap[Bl]? = some (.cells #[.int .i64 l.words, .int .i64 l.bits, .int .i64 l.period, .int .i64 l.delay, .int .i64 l.slope, .int .i64 l.window] 26 (0, 0))) (h0 : W.heap[Ba]? = some (.cells #[.int .i64 (-1)] 3 (0, 0))) =>
        follow_any o ho temp ⟨by omega, by omega⟩ heats M (by omega) 18 #[.pointer (some ⟨Bl, 0, none⟩), .pointer (some ⟨Ba, 0, none⟩)] (enters_of Tryz.func18 (by kernel_rfl) rfl) (fun m => decide (kpV u (m + 1) < 0)) (fun b => b = Ba)
          (fun m W => W.heap[Bl]? = some (.cells #[.int .i64 l.words, .int .i64 l.bits, .int .i64 l.period, .int .i64 l.delay, .int .i64 l.slope, .int .i64 l.window] 26 (0, 0)) ∧ W.heap[Ba]? = some (.cells #[.int .i64 (kpV u m)] 3 (0, 0))) W (fun b e => by omega)
          (fun m A B hA hk => ⟨(hk.2 _ (Array.getElem?_eq_some_iff.1 hA.1).1 (fun e => by omega)).trans hA.1, (hk.2 _ (Array.getElem?_eq_some_iff.1 hA.2).1 (fun e => by omega)).trans hA.2⟩) ⟨hl0, h0⟩
          (fun m A B v ss hm hA hB hown hl hmem => (keeps1_any l hok Bl Ba B m (kpV u m) v ss A hA.1 hA.2 (by omega) hown hl (fun z hz => by
            obtain ⟨b, hb⟩ := (hmem z).1 hz
            exact statesO_bd ho (by omega) m _ hb) (u m) ((unsafeO_any hmem).trans (congrFun hu m)) (by have := kpV_sgn u m; omega)).mono (by
            rintro e A' ⟨rfl, h1, h2⟩
            refine ⟨rfl, ⟨(h2.2 _ (Array.getElem?_eq_some_iff.1 hA.1).1 (fun e => by omega)).trans hA.1, h1⟩, h2.mono (fun _ h => .inl h)⟩))
      have HFO := Lib.hid hfo
      rw [hu]
      clear e1 hx hsp hfo hu hcl
      go_enter Tryz.func5, Tryz.ntmps5
      go_wp2_with fail
      refine (hck _).mono ?_
      rintro e w1 ⟨rfl, E1⟩
      obtain ⟨b0, b1, b2, b3⟩ := keeps_boxes E1
      have EW := E1.old.old.old.old
      have q0 := blk_cell b1 0 (v := .int .i64 o.low) rfl
      have q1 := blk_cell b1 1 (v := .int .i64 o.high) rfl
      have q2 := blk_cell b1 2 (v := .int .i64 o.warm.lo) rfl
      have q3 := blk_cell b1 3 (v := .int .i64 o.warm.hi) rfl
      have q4 := blk_cell b1 4 (v := .int .i64 o.cool.lo) rfl
      have q5 := blk_cell b1 5 (v := .int .i64 o.cool.hi) rfl
      have r0 := blk_cell b2 0 (v := .int .i64 temp.lo) rfl
      have r1 := blk_cell b2 1 (v := .int .i64 temp.hi) rfl
      have HB := Lib.hid (And.intro b0 (And.intro b1 (And.intro b2 b3)))
      clear E1 b0 b1 b2 b3 hck
      go_wp2_with fail
      refine (hs _).mono ?_
      rintro e w2 ⟨rfl, E2⟩
      have EW2 := EW.comp E2
      have a0 := (E2.block _ (Array.getElem?_eq_some_iff.1 HB.out.1).1).trans HB.out.1
      have a1 := (E2.block _ (Array.getElem?_eq_some_iff.1 HB.out.2.1).1).trans HB.out.2.1
      have a2 := (E2.block _ (Array.getElem?_eq_some_iff.1 HB.out.2.2.1).1).trans HB.out.2.2.1
      have a3 := (E2.block _ (Array.getElem?_eq_some_iff.1 HB.out.2.2.2).1).trans HB.out.2.2.2
      clear EW E2 HB hs q0 q1 q2 q3 q4 q5 r0 r1
      have q0 := blk_cell a1 0 (v := .int .i64 o.low) rfl
      have q1 := blk_cell a1 1 (v := .int .i64 o.high) rfl
      have q2 := blk_cell a1 2 (v := .int .i64 o.warm.lo) rfl
      have q3 := blk_cell a1 3 (v := .int .i64 o.warm.hi) rfl
      have q4 := blk_cell a1 4 (v := .int .i64 o.cool.lo) rfl
      have q5 := blk_cell a1 5 (v := .int .i64 o.cool.hi) rfl
      have r0 := blk_cell a2 0 (v := .int .i64 temp.lo) rfl
      have r1 := blk_cell a2 1 (v := .int .i64 temp.hi) rfl
      have s0 := blk_cell a3 0 (v := .int .i64 0) rfl
      have f0 := blk_free a3 0
      have hz := heap_setCell_same w2 (w.heap.size + 1 + 1 + 1) 0 _ _ (.int .i64 (-1)) a3
      have hlt := (Array.getElem?_eq_some_iff.1 a3).1
      have hfw := HFO.out w.heap.size (w.heap.size + 1 + 1 + 1) (w2.setCell ⟨w.heap.size + 1 + 1 + 1, 0, none⟩ (.int .i64 (-1))) (by omega) ⟨by omega, by simpa using hlt⟩ ((Below.heap_setCell _ _ _ _ (by show w.heap.size ≠ w.heap.size + 1 + 1 + 1; omega)).trans a0) (by simpa using hz)
      have HE2 := Lib.hid (EW2.setCell (p := ⟨w.heap.size + 1 + 1 + 1, 0, none⟩) (by show w.heap.size ≤ w.heap.size + 1 + 1 + 1; omega) (.int .i64 (-1)))
      clear a0 a1 a2 a3 hz hlt EW2 HFO
      go_wp2_with fail
      refine hfw.mono ?_
      rintro e w3 ⟨rfl, K3, k, hk, hgk, hek, hJ⟩
      have E3 := ext_kp HE2.out K3 (fun b e => by omega)
      have hv := kp_end hk hgk hek
      rw [hv] at hJ
      have g0 := blk_cell hJ.2 0 (v := .int .i64 (kpF u M)) rfl
      have y0 := blk_free hJ.2 0
      clear q0 q1 q2 q3 q4 q5 r0 r1 s0 f0 hfw K3 hgk hek hJ hv
      go_wp2
      refine bodyPost_ret (v := .tuple #[.int .i64 (kpF u M), .int .i64 0]) (by simp [results, Tryz.results5, go_sem, g0, y0]) rfl ⟨rfl, ?_⟩
      exact E3.setCell (p := ⟨w.heap.size + 1 + 1 + 1, 0, none⟩) (by show w.heap.size ≤ w.heap.size + 1 + 1 + 1; omega) _
    · have e1 : keepsE l o temp heats minutes = (0, ovenX o temp minutes) := by unfold keepsE; rw [if_neg (by omega), if_pos hx]
      rw [e1]
      obtain ⟨x, hxx⟩ : ∃ x, ovenX o temp minutes = x := ⟨_, rfl⟩
      rw [hxx] at hx hs ⊢
      clear e1 hxx hcl
      go_enter Tryz.func5, Tryz.ntmps5
      go_wp2_with fail
      refine (hck _).mono ?_
      rintro e w1 ⟨rfl, E1⟩
      obtain ⟨b0, b1, b2, b3⟩ := keeps_boxes E1
      have EW := E1.old.old.old.old
      have q0 := blk_cell b1 0 (v := .int .i64 o.low) rfl
      have q1 := blk_cell b1 1 (v := .int .i64 o.high) rfl
      have q2 := blk_cell b1 2 (v := .int .i64 o.warm.lo) rfl
      have q3 := blk_cell b1 3 (v := .int .i64 o.warm.hi) rfl
      have q4 := blk_cell b1 4 (v := .int .i64 o.cool.lo) rfl
      have q5 := blk_cell b1 5 (v := .int .i64 o.cool.hi) rfl
      have r0 := blk_cell b2 0 (v := .int .i64 temp.lo) rfl
      have r1 := blk_cell b2 1 (v := .int .i64 temp.hi) rfl
      have HB := Lib.hid b3
      clear E1 b0 b1 b2 b3 hck
      go_wp2_with fail
      refine (hs _).mono ?_
      rintro e w2 ⟨rfl, E2⟩
      have EW2 := EW.comp E2
      have a3 := (E2.block _ (Array.getElem?_eq_some_iff.1 HB.out).1).trans HB.out
      have s0 := blk_cell a3 0 (v := .int .i64 0) rfl
      have f0 := blk_free a3 0
      clear EW E2 HB hs q0 q1 q2 q3 q4 q5 r0 r1 a3
      go_wp2
      refine bodyPost_ret (v := .tuple #[.int .i64 0, .int .i64 x]) (by simp [results, Tryz.results5, go_sem, s0, f0]) rfl ⟨rfl, ?_⟩
      exact EW2.setCell (p := ⟨w.heap.size + 1 + 1 + 1, 0, none⟩) (by show w.heap.size ≤ w.heap.size + 1 + 1 + 1; omega) _
  · have e1 : keepsE l o temp heats minutes = (0, checkL l) := by unfold keepsE; rw [if_pos hcl]
    rw [e1]
    obtain ⟨x, hxx⟩ : ∃ x, checkL l = x := ⟨_, rfl⟩
    rw [hxx] at hcl hck ⊢
    clear e1 hxx hs
    go_enter Tryz.func5, Tryz.ntmps5
    go_wp2_with fail
    refine (hck _).mono ?_
    rintro e w1 ⟨rfl, E1⟩
    obtain ⟨b0, b1, b2, b3⟩ := keeps_boxes E1
    have EW := E1.old.old.old.old
    have s0 := blk_cell b3 0 (v := .int .i64 0) rfl
    have f0 := blk_free b3 0
    clear E1 b0 b1 b2 b3 hck
    go_wp2
    refine bodyPost_ret (v := .tuple #[.int .i64 0, .int .i64 x]) (by simp [results, Tryz.results5, go_sem, s0, f0]) rfl ⟨rfl, ?_⟩
    exact EW.setCell (p := ⟨w.heap.size + 1 + 1 + 1, 0, none⟩) (by show w.heap.size ≤ w.heap.size + 1 + 1 + 1; omega) _
end Go.Proofs.YtbcciokmlkofkaaGreat

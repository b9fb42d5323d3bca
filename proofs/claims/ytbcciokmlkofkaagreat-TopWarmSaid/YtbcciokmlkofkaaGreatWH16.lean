import Derived.Deep.DeepCutAuto
import Derived.Test.YtbcciokmlkofkaaGreatWH15
set_option linter.unusedVariables false
set_option linter.unusedSimpArgs false
/- Contract of layer 1: the states after a minute from a state on. -/
namespace Go.Proofs.YtbcciokmlkofkaaGreat
open Go.RowKit Go.Q Go.Shelf Go.Maps
attribute [local go_sem] encS
/-- block b is a map whose keys are the states of p, each with its temperature -/
def MapS (w : World) (b : Nat) (p : OvS → Prop) : Prop := ∃ f : OvS → Option Value, MapF encS w b f ∧ (∀ x, (f x).isSome = true ↔ p x) ∧ ∀ x v, f x = some v → v = .int .i64 x.t.1
theorem MapS.ext {w w' : World} {b : Nat} {p : OvS → Prop} (h : MapS w b p) (E : Ext w w') : MapS w' b p := by
  obtain ⟨f, h1, h2⟩ := h
  exact ⟨f, h1.ext E, h2⟩
theorem MapS.lt {w : World} {b : Nat} {p : OvS → Prop} (h : MapS w b p) : b < w.heap.size := by
  obtain ⟨f, h1, h2⟩ := h
  exact h1.lt
theorem MapS.same {w w' : World} {b : Nat} {p : OvS → Prop} (h : MapS w b p) (e : w'.heap[b]? = w.heap[b]?) : MapS w' b p := by
  obtain ⟨f, h1, h2⟩ := h
  exact ⟨f, h1.same e, h2⟩
theorem MapS.congr {w : World} {b : Nat} {p q : OvS → Prop} (h : MapS w b p) (e : ∀ x, p x ↔ q x) : MapS w b q := by
  obtain ⟨f, h1, h2, h3⟩ := h
  exact ⟨f, h1, fun x => (h2 x).trans (e x), h3⟩
theorem MapS.made (w : World) : MapS (w.alloc (.map #[] 0)) w.heap.size (fun _ => False) := ⟨fun _ => none, MapF.made w, fun x => by simp, fun _ _ h => (by cases h)⟩
theorem MapS.put {w : World} {b : Nat} {p : OvS → Prop} (h : MapS w b p) {c o : Nat} (hc : b ≠ c) (v : Value) : MapS (w.setCell ⟨c, o, none⟩ v) b p := h.same (Below.heap_setCell _ _ _ _ hc)
theorem MapS.stored {w : World} {b : Nat} {p : OvS → Prop} {f : OvS → Option Value} {k : OvS} (h2 : ∀ x, (f x).isSome = true ↔ p x) (h3 : ∀ x v, f x = some v → v = .int .i64 x.t.1) (hm : MapF encS w b (putF f k (.int .i64 k.t.1))) :
    MapS w b (fun x => p x ∨ x = k) := by
  refine ⟨_, hm, fun x => ?_, fun x v hv => ?_⟩
  · unfold putF
    by_cases h : x = k
    · rw [if_pos h]; simp [h]
    · rw [if_neg h, h2]; simp [h]
  · unfold putF at hv
    by_cases h : x = k
    · rw [if_pos h] at hv; rw [h]; exact (Option.some.inj hv).symm
    · rw [if_neg h] at hv; exact h3 x v hv
theorem after_warm {o : Ov} {t : Int} {h : Bool} (hh : heatsO o t h = true) (x : OvS) : (x.t.1, x.h) ∈ afterO o (t, h) ↔ x.h = true ∧ ∃ j : Nat, j < (o.warm.hi - o.warm.lo + 1).toNat ∧ x.t.1 = t + (o.warm.lo + (j : Int)) := by
  unfold afterO
  rw [if_pos hh, List.mem_map]
  constructor
  · rintro ⟨n, hn, e⟩
    rw [mem_tempsS] at hn
    obtain ⟨e1, e2⟩ := Prod.mk.inj e
    exact ⟨e2.symm, (n - o.warm.lo).toNat, by omega, by omega⟩
  · rintro ⟨e2, j, hj, e1⟩
    exact ⟨o.warm.lo + j, mem_tempsS.2 (by omega), by rw [e1, e2]⟩
theorem after_cool {o : Ov} {t : Int} {h : Bool} (hh : heatsO o t h = false) (x : OvS) : (x.t.1, x.h) ∈ afterO o (t, h) ↔ x.h = false ∧ ∃ j : Nat, j < (o.cool.hi - o.cool.lo + 1).toNat ∧ x.t.1 = t + -(o.cool.lo + (j : Int)) := by
  unfold afterO
  rw [if_neg (by rw [hh]; simp), List.mem_map]
  constructor
  · rintro ⟨n, hn, e⟩
    rw [mem_tempsS] at hn
    obtain ⟨e1, e2⟩ := Prod.mk.inj e
    exact ⟨e2.symm, (n - o.cool.lo).toNat, by omega, by dsimp only at e1; omega⟩
  · rintro ⟨e2, j, hj, e1⟩
    exact ⟨o.cool.lo + j, mem_tempsS.2 (by omega), by rw [e1, e2]; congr 1⟩
/-- the boxes beside the map -/
structure AftW (w wr : World) (b : Nat) (ob ob2 : Obj) : Prop where
  st : wr.heap[w.heap.size]? = some ob
  sp : wr.heap[w.heap.size + 1]? = some ob2
  grow : w.grownBy wr (some b)
theorem AftW.grown {w wr wn : World} {b : Nat} {ob ob2 : Obj} (h : AftW w wr b ob ob2) (g : wr.grownBy wn (some b)) (hb : b < w.heap.size) : AftW w wn b ob ob2 :=
  ⟨(g.block _ (Array.getElem?_eq_some_iff.1 h.st).1 (fun e => by have := Option.some.inj e; omega)).trans h.st, (g.block _ (Array.getElem?_eq_some_iff.1 h.sp).1 (fun e => by have := Option.some.inj e; omega)).trans h.sp, h.grow.trans g⟩
theorem aft_start (w : World) (b : Nat) (ob ob2 : Obj) (hb : b < w.heap.size) : AftW w ((w.alloc ob).alloc ob2) b ob ob2 := by
  refine ⟨(((Ext.refl (w.alloc ob)).alloc ob2).block w.heap.size (by simp)).trans (heap_alloc_new w ob), ?_, (World.grownBy_alloc w ob _).trans (World.grownBy_alloc _ ob2 _)⟩
  have e := heap_alloc_new (w.alloc ob) ob2
  rw [World.size_alloc] at e
  exact e
theorem aft_more {p : OvS → Prop} {hb : Bool} {g : Nat → Int} {i : Nat} {k : OvS} (hk : k.t.1 = g i) (hh : k.h = hb) (x : OvS) : ((p x ∨ x.h = hb ∧ ∃ j : Nat, j < i ∧ x.t.1 = g j) ∨ x = k) ↔ (p x ∨ x.h = hb ∧ ∃ j : Nat, j < i + 1 ∧ x.t.1 = g j) := by
  constructor
  · rintro ((h | ⟨h, j, h1, h2⟩) | rfl)
    · exact .inl h
    · exact .inr ⟨h, j, by omega, h2⟩
    · exact .inr ⟨hh, i, by omega, hk⟩
  · rintro (h | ⟨h, j, h1, h2⟩)
    · exact .inl (.inl h)
    · by_cases hj : j = i
      · subst hj
        refine .inr ?_
        obtain ⟨xt, xh⟩ := x
        obtain ⟨kt, kh⟩ := k
        dsimp only at h h2 hk hh
        rw [I64.same (h2.trans hk.symm), h, hh]
      · exact .inl (.inr ⟨h, j, by omega, h2⟩)
set_option maxRecDepth 100000 in
set_option maxHeartbeats 4000000 in
theorem after_warm_any (o : Ov) (ho : OkO o) (Bo b : Nat) (s : OvS) (hs : -1000 ≤ s.t.1 ∧ s.t.1 ≤ 2000) (hh : heatsO o s.t.1 s.h = true) (p : OvS → Prop) (w : World)
    (hB : w.heap[Bo]? = some (.cells #[.int .i64 o.low, .int .i64 o.high, .int .i64 o.warm.lo, .int .i64 o.warm.hi, .int .i64 o.cool.lo, .int .i64 o.cool.hi] 30 (0, 0))) (hm : MapS w b p) (hne : Bo ≠ b) :
    Calls Tryz.prog 52 #[.map (some b), .agg #[.int .i64 s.t.1, .bool s.h], .pointer (some ⟨Bo, 0, none⟩)] w fun e w' => e = .returned (.tuple #[]) ∧ MapS w' b (fun x => p x ∨ (x.t.1, x.h) ∈ afterO o (s.t.1, s.h)) ∧ w.grownBy w' (some b) := by
  have hl := ho.w0
  have hc := ho.c0
  have hBs := (Array.getElem?_eq_some_iff.1 hB).1
  have hbs := hm.lt
  obtain ⟨t, ht⟩ : ∃ t, s.t.1 = t := ⟨_, rfl⟩
  obtain ⟨h, hhe⟩ : ∃ h, s.h = h := ⟨_, rfl⟩
  rw [ht, hhe] at hh
  rw [ht] at hs
  have HAF := Lib.hid (fun x => after_warm hh x)
  rw [ht, hhe]
  clear ht hhe
  have q0 := fun ob ob2 => ((((Ext.refl w).alloc ob).alloc ob2).cell (p := ⟨Bo, 0, none⟩) hBs).trans (blk_cell hB 0 (v := .int .i64 o.low) rfl)
  have q1 := fun ob ob2 => ((((Ext.refl w).alloc ob).alloc ob2).cell (p := ⟨Bo, 1, none⟩) hBs).trans (blk_cell hB 1 (v := .int .i64 o.high) rfl)
  have q2 := fun ob ob2 => ((((Ext.refl w).alloc ob).alloc ob2).cell (p := ⟨Bo, 2, none⟩) hBs).trans (blk_cell hB 2 (v := .int .i64 o.warm.lo) rfl)
  have q3 := fun ob ob2 => ((((Ext.refl w).alloc ob).alloc ob2).cell (p := ⟨Bo, 3, none⟩) hBs).trans (blk_cell hB 3 (v := .int .i64 o.warm.hi) rfl)
  have r4 := fun ob => (((Ext.refl w).alloc ob).cell (p := ⟨Bo, 4, none⟩) hBs).trans (blk_cell hB 4 (v := .int .i64 o.cool.lo) rfl)
  have r5 := fun ob => (((Ext.refl w).alloc ob).cell (p := ⟨Bo, 5, none⟩) hBs).trans (blk_cell hB 5 (v := .int .i64 o.cool.hi) rfl)
  go_enter Tryz.func52, Tryz.ntmps52
  go_upto_region 2 with fail
  go_cut [7] (fun s7 wx => s7 = .bool true ∧ wx = ((w.alloc (.cells #[.int .i64 t, .bool h] 107)).alloc (.cells #[.int .i64 o.cool.lo, .int .i64 o.cool.hi] 28)))
  case first =>
    unfold heatsO at hh
    by_cases a1 : t < o.low
    · go_wp2_with fail
      go_meet
      exact ⟨rfl, rfl⟩
    · by_cases a2 : t ≤ o.high
      · cases h with
        | true =>
          go_wp2_with fail
          go_meet
          exact ⟨rfl, rfl⟩
        | false =>
          rw [decide_eq_false a1] at hh; simp at hh
      · rw [decide_eq_false a1, decide_eq_false a2] at hh; simp at hh
  case rest =>
    obtain ⟨rfl, rfl⟩ := hcut
    go_wp2
    have A0 := aft_start w b (.cells #[.int .i64 t, .bool h] 107) (.cells #[.int .i64 o.warm.lo, .int .i64 o.warm.hi] 28) hbs
    have M0 := (hm.ext (((Ext.refl w).alloc (.cells #[.int .i64 t, .bool h] 107)).alloc (.cells #[.int .i64 o.warm.lo, .int .i64 o.warm.hi] 28))).congr (q := fun x => p x ∨ x.h = true ∧ ∃ j : Nat, j < 0 ∧ x.t.1 = t + (o.warm.lo + (j : Int))) (fun x => by simp)
    clear q0 q1 q2 q3 r4 r5 hB hBs hm hne
    generalize (w.alloc (.cells #[.int .i64 t, .bool h] 107)).alloc (.cells #[.int .i64 o.warm.lo, .int .i64 o.warm.hi] 28) = X0 at *
    go_loopw [8] (fun s8 X => ∃ i : Nat, i ≤ (o.warm.hi - o.warm.lo + 1).toNat ∧ s8 = .int .i64 (o.warm.lo + (i : Int)) ∧ MapS X b (fun x => p x ∨ x.h = true ∧ ∃ j : Nat, j < i ∧ x.t.1 = t + (o.warm.lo + (j : Int))) ∧ AftW w X b (.cells #[.int .i64 t, .bool h] 107 (0, 0)) (.cells #[.int .i64 o.warm.lo, .int .i64 o.warm.hi] 28 (0, 0))) (fun s8 _ => (o.warm.hi + 1 - intOf s8).toNat)
    case atStart => exact ⟨0, Nat.zero_le _, by simp, M0, A0⟩
    case round =>
      clear M0 A0
      obtain ⟨i, hi, rfl, M, AW⟩ := hrel
      obtain ⟨X, rfl⟩ : ∃ X : World, X = wr := ⟨_, rfl⟩
      have p0 := blk_cell AW.st 0 (v := .int .i64 t) rfl
      have p1 := blk_cell AW.sp 1 (v := .int .i64 o.warm.hi) rfl
      by_cases hle : o.warm.lo + (i : Int) ≤ o.warm.hi
      · obtain ⟨f, hf, h2, h3⟩ := M
        have HF := Lib.hid (And.intro h2 h3)
        have hI : -9223372036854775808 ≤ t + (o.warm.lo + (i : Int)) ∧ t + (o.warm.lo + (i : Int)) ≤ 9223372036854775807 := by omega
        clear h2 h3
        go_wp2_with (at_mapUpdate; refine wpList_putF _ rfl _ _ _ 105 rfl 3 keyS Tryz.underlying105 b rfl hf (⟨⟨t + (o.warm.lo + (i : Int)), hI⟩, true⟩ : OvS) (.int .i64 (t + (o.warm.lo + (i : Int)))) rfl rfl ?_; intro w6 hm6 hg6 hs6; clear hs6)
        have M' := (MapS.stored HF.out.1 HF.out.2 hm6).congr (q := fun x => p x ∨ x.h = true ∧ ∃ j : Nat, j < i + 1 ∧ x.t.1 = t + (o.warm.lo + (j : Int))) (fun x => aft_more (p := p) (hb := true) (k := ⟨⟨_, hI⟩, true⟩) (g := fun j : Nat => t + (o.warm.lo + (j : Int))) rfl rfl x)
        have AW' := AW.grown hg6 hbs
        clear hm6 hg6 hf AW
        (try go_frame)
        go_wp2
        go_roundw
        case rel => exact ⟨i + 1, by omega, by go_num, M', AW'⟩
        case measure => simp [intOf]; omega
      · obtain rfl : i = (o.warm.hi - o.warm.lo + 1).toNat := by omega
        go_wp2
        go_end0
        exact ⟨rfl, M.congr (fun x => or_congr Iff.rfl (HAF.out x).symm), AW.grow⟩
set_option maxRecDepth 100000 in
set_option maxHeartbeats 4000000 in
theorem after_cool_any (o : Ov) (ho : OkO o) (Bo b : Nat) (s : OvS) (hs : -1000 ≤ s.t.1 ∧ s.t.1 ≤ 2000) (hh : heatsO o s.t.1 s.h = false) (p : OvS → Prop) (w : World)
    (hB : w.heap[Bo]? = some (.cells #[.int .i64 o.low, .int .i64 o.high, .int .i64 o.warm.lo, .int .i64 o.warm.hi, .int .i64 o.cool.lo, .int .i64 o.cool.hi] 30 (0, 0))) (hm : MapS w b p) (hne : Bo ≠ b) :
    Calls Tryz.prog 52 #[.map (some b), .agg #[.int .i64 s.t.1, .bool s.h], .pointer (some ⟨Bo, 0, none⟩)] w fun e w' => e = .returned (.tuple #[]) ∧ MapS w' b (fun x => p x ∨ (x.t.1, x.h) ∈ afterO o (s.t.1, s.h)) ∧ w.grownBy w' (some b) := by
  have hl := ho.w0
  have hc := ho.c0
  have hBs := (Array.getElem?_eq_some_iff.1 hB).1
  have hbs := hm.lt
  obtain ⟨t, ht⟩ : ∃ t, s.t.1 = t := ⟨_, rfl⟩
  obtain ⟨h, hhe⟩ : ∃ h, s.h = h := ⟨_, rfl⟩
  rw [ht, hhe] at hh
  rw [ht] at hs
  have HAF := Lib.hid (fun x => after_cool hh x)
  rw [ht, hhe]
  clear ht hhe
  have q0 := fun ob ob2 => ((((Ext.refl w).alloc ob).alloc ob2).cell (p := ⟨Bo, 0, none⟩) hBs).trans (blk_cell hB 0 (v := .int .i64 o.low) rfl)
  have q1 := fun ob ob2 => ((((Ext.refl w).alloc ob).alloc ob2).cell (p := ⟨Bo, 1, none⟩) hBs).trans (blk_cell hB 1 (v := .int .i64 o.high) rfl)
  have q2 := fun ob ob2 => ((((Ext.refl w).alloc ob).alloc ob2).cell (p := ⟨Bo, 2, none⟩) hBs).trans (blk_cell hB 2 (v := .int .i64 o.warm.lo) rfl)
  have q3 := fun ob ob2 => ((((Ext.refl w).alloc ob).alloc ob2).cell (p := ⟨Bo, 3, none⟩) hBs).trans (blk_cell hB 3 (v := .int .i64 o.warm.hi) rfl)
  have r4 := fun ob => (((Ext.refl w).alloc ob).cell (p := ⟨Bo, 4, none⟩) hBs).trans (blk_cell hB 4 (v := .int .i64 o.cool.lo) rfl)
  have r5 := fun ob => (((Ext.refl w).alloc ob).cell (p := ⟨Bo, 5, none⟩) hBs).trans (blk_cell hB 5 (v := .int .i64 o.cool.hi) rfl)
  go_enter Tryz.func52, Tryz.ntmps52
  go_upto_region 2 with fail
  go_cut [7] (fun s7 wx => s7 = .bool false ∧ wx = ((w.alloc (.cells #[.int .i64 t, .bool h] 107)).alloc (.cells #[.int .i64 o.cool.lo, .int .i64 o.cool.hi] 28)))
  case first =>
    unfold heatsO at hh
    by_cases a1 : t < o.low
    · rw [decide_eq_true a1] at hh; simp at hh
    · by_cases a2 : t ≤ o.high
      · cases h with
        | true =>
          rw [decide_eq_true a2] at hh; simp at hh
        | false =>
          go_wp2_with fail
          go_meet
          exact ⟨rfl, rfl⟩
      · go_wp2_with fail
        go_meet
        exact ⟨rfl, rfl⟩
  case rest =>
    obtain ⟨rfl, rfl⟩ := hcut
    go_wp2
    have A0 := aft_start w b (.cells #[.int .i64 t, .bool h] 107) (.cells #[.int .i64 o.cool.lo, .int .i64 o.cool.hi] 28) hbs
    have M0 := (hm.ext (((Ext.refl w).alloc (.cells #[.int .i64 t, .bool h] 107)).alloc (.cells #[.int .i64 o.cool.lo, .int .i64 o.cool.hi] 28))).congr (q := fun x => p x ∨ x.h = false ∧ ∃ j : Nat, j < 0 ∧ x.t.1 = t + -(o.cool.lo + (j : Int))) (fun x => by simp)
    clear q0 q1 q2 q3 r4 r5 hB hBs hm hne
    generalize (w.alloc (.cells #[.int .i64 t, .bool h] 107)).alloc (.cells #[.int .i64 o.cool.lo, .int .i64 o.cool.hi] 28) = X0 at *
    go_loopw [8] (fun s8 X => ∃ i : Nat, i ≤ (o.cool.hi - o.cool.lo + 1).toNat ∧ s8 = .int .i64 (o.cool.lo + (i : Int)) ∧ MapS X b (fun x => p x ∨ x.h = false ∧ ∃ j : Nat, j < i ∧ x.t.1 = t + -(o.cool.lo + (j : Int))) ∧ AftW w X b (.cells #[.int .i64 t, .bool h] 107 (0, 0)) (.cells #[.int .i64 o.cool.lo, .int .i64 o.cool.hi] 28 (0, 0))) (fun s8 _ => (o.cool.hi + 1 - intOf s8).toNat)
    case atStart => exact ⟨0, Nat.zero_le _, by simp, M0, A0⟩
    case round =>
      clear M0 A0
      obtain ⟨i, hi, rfl, M, AW⟩ := hrel
      obtain ⟨X, rfl⟩ : ∃ X : World, X = wr := ⟨_, rfl⟩
      have p0 := blk_cell AW.st 0 (v := .int .i64 t) rfl
      have p1 := blk_cell AW.sp 1 (v := .int .i64 o.cool.hi) rfl
      by_cases hle : o.cool.lo + (i : Int) ≤ o.cool.hi
      · obtain ⟨f, hf, h2, h3⟩ := M
        have HF := Lib.hid (And.intro h2 h3)
        have hI : -9223372036854775808 ≤ t + -(o.cool.lo + (i : Int)) ∧ t + -(o.cool.lo + (i : Int)) ≤ 9223372036854775807 := by omega
        clear h2 h3
        go_wp2_with (at_mapUpdate; refine wpList_putF _ rfl _ _ _ 105 rfl 3 keyS Tryz.underlying105 b rfl hf (⟨⟨t + -(o.cool.lo + (i : Int)), hI⟩, false⟩ : OvS) (.int .i64 (t + -(o.cool.lo + (i : Int)))) rfl rfl ?_; intro w6 hm6 hg6 hs6; clear hs6)
        have M' := (MapS.stored HF.out.1 HF.out.2 hm6).congr (q := fun x => p x ∨ x.h = false ∧ ∃ j : Nat, j < i + 1 ∧ x.t.1 = t + -(o.cool.lo + (j : Int))) (fun x => aft_more (p := p) (hb := false) (k := ⟨⟨_, hI⟩, false⟩) (g := fun j : Nat => t + -(o.cool.lo + (j : Int))) rfl rfl x)
        have AW' := AW.grown hg6 hbs
        clear hm6 hg6 hf AW
        (try go_frame)
        go_wp2
        go_roundw
        case rel => exact ⟨i + 1, by omega, by go_num, M', AW'⟩
        case measure => simp [intOf]; omega
      · obtain rfl : i = (o.cool.hi - o.cool.lo + 1).toNat := by omega
        go_wp2
        go_end0
        exact ⟨rfl, M.congr (fun x => or_congr Iff.rfl (HAF.out x).symm), AW.grow⟩
end Go.Proofs.YtbcciokmlkofkaaGreat

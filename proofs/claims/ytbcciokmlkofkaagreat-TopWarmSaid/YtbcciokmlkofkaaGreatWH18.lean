import Derived.Test.YtbcciokmlkofkaaGreatWH17
set_option linter.unusedVariables false
set_option linter.unusedSimpArgs false
/- Contract of layer 1: follow, whatever is done with the temperatures of a minute. -/
namespace Go.Proofs.YtbcciokmlkofkaaGreat
open Go.RowKit Go.Q Go.Shelf Go.Maps
attribute [local go_sem] encS
def allS : List OvS := (List.range 3402).map fun k => ⟨⟨((k / 2 % 2000 : Nat) : Int) - 600, by omega⟩, k % 2 == 0⟩
theorem allS_len : allS.length = 3402 := by unfold allS; rw [List.length_map, List.length_range]
theorem mem_allS {x : OvS} (h : -600 ≤ x.t.1 ∧ x.t.1 ≤ 1100) : x ∈ allS := by
  obtain ⟨⟨t, ht⟩, b⟩ := x
  dsimp only at h
  unfold allS
  rw [List.mem_map]
  refine ⟨2 * (t + 600).toNat + (if b then 0 else 1), List.mem_range.2 (by split <;> omega), ?_⟩
  cases b with
  | true =>
    have e : (((2 * (t + 600).toNat + (if true then 0 else 1)) / 2 % 2000 : Nat) : Int) - 600 = t := by simp; omega
    have e2 : ((2 * (t + 600).toNat + (if true then 0 else 1)) % 2 == 0) = true := by simp
    rw [e2]
    congr 1
    exact I64.same e
  | false =>
    have e : (((2 * (t + 600).toNat + (if false then 0 else 1)) / 2 % 2000 : Nat) : Int) - 600 = t := by simp; omega
    have e2 : ((2 * (t + 600).toNat + (if false then 0 else 1)) % 2 == 0) = false := by simp
    rw [e2]
    congr 1
    exact I64.same e
/-- the states of a minute -/
def atM (o : Ov) (temp : Sp) (heats : Bool) (m : Nat) (x : OvS) : Prop := (x.t.1, x.h) ∈ statesO o temp heats m
theorem atM_bd {o : Ov} (h : OkO o) {temp : Sp} (ht : -500 ≤ temp.lo ∧ temp.hi ≤ 1000) {heats : Bool} {m : Nat} {x : OvS} (hx : atM o temp heats m x) : -600 ≤ x.t.1 ∧ x.t.1 ≤ 1100 := statesO_bd h ht m _ hx
theorem atM_zero {o : Ov} {temp : Sp} {heats : Bool} (x : OvS) : atM o temp heats 0 x ↔ (x.h = heats ∧ ∃ j : Nat, j < (temp.hi - temp.lo + 1).toNat ∧ x.t.1 = temp.lo + (j : Int)) := by
  unfold atM
  show (x.t.1, x.h) ∈ (tempsS temp).map (fun t => (t, heats)) ↔ _
  rw [List.mem_map]
  constructor
  · rintro ⟨n, hn, e⟩
    rw [mem_tempsS] at hn
    obtain ⟨e1, e2⟩ := Prod.mk.inj e
    exact ⟨e2.symm, (n - temp.lo).toNat, by omega, by omega⟩
  · rintro ⟨e2, j, hj, e1⟩
    exact ⟨temp.lo + j, mem_tempsS.2 (by omega), by rw [e1, e2]⟩
theorem atM_succ {o : Ov} (h : OkO o) {temp : Sp} (ht : -500 ≤ temp.lo ∧ temp.hi ≤ 1000) {heats : Bool} {m : Nat} (x : OvS) : atM o temp heats (m + 1) x ↔ ∃ y : OvS, atM o temp heats m y ∧ (x.t.1, x.h) ∈ afterO o (y.t.1, y.h) := by
  unfold atM
  show (x.t.1, x.h) ∈ (statesO o temp heats m).flatMap (afterO o) ↔ _
  rw [List.mem_flatMap]
  constructor
  · rintro ⟨s, h1, h2⟩
    have hb := statesO_bd h ht m s h1
    exact ⟨⟨⟨s.1, by omega⟩, s.2⟩, h1, h2⟩
  · rintro ⟨y, h1, h2⟩
    exact ⟨_, h1, h2⟩
theorem temps_atM {o : Ov} (h : OkO o) {temp : Sp} (ht : -500 ≤ temp.lo ∧ temp.hi ≤ 1000) {heats : Bool} {m : Nat} (z : Int) : (∃ x : OvS, atM o temp heats m x ∧ x.t.1 = z) ↔ ∃ b, (z, b) ∈ statesO o temp heats m := by
  constructor
  · rintro ⟨x, h1, rfl⟩
    exact ⟨x.h, h1⟩
  · rintro ⟨b, h1⟩
    have hb := statesO_bd h ht m _ h1
    exact ⟨⟨⟨z, by dsimp only at hb; omega⟩, b⟩, h1, rfl⟩
theorem after_anyL (o : Ov) (ho : OkO o) (Bo b : Nat) (s : OvS) (hs : -1000 ≤ s.t.1 ∧ s.t.1 ≤ 2000) (p : OvS → Prop) (w : World)
    (hB : w.heap[Bo]? = some (.cells #[.int .i64 o.low, .int .i64 o.high, .int .i64 o.warm.lo, .int .i64 o.warm.hi, .int .i64 o.cool.lo, .int .i64 o.cool.hi] 30 (0, 0))) (hm : MapS w b p) (hne : Bo ≠ b) :
    Calls Tryz.prog 52 #[.map (some b), .agg #[.int .i64 s.t.1, .bool s.h], .pointer (some ⟨Bo, 0, none⟩)] w fun e w' => e = .returned (.tuple #[]) ∧ MapS w' b (fun x => p x ∨ (x.t.1, x.h) ∈ afterO o (s.t.1, s.h)) ∧ w.grownBy w' (some b) := by
  cases h : heatsO o s.t.1 s.h with
  | true => exact after_warm_any o ho Bo b s hs h p w hB hm hne
  | false => exact after_cool_any o ho Bo b s hs h p w hB hm hne
theorem KpM.grown {M : Nat → Prop} {A B : World} {row : Option Nat} (h : A.grownBy B row) (hr : ∀ r, row = some r → M r) : KpM M A B :=
  ⟨h.size, fun b hb hm => h.block b hb (fun e => hm (hr b e.symm)), h.os, h.tape, h.output⟩
/-- what follow has in memory beside its maps -/
structure FolS (w wr : World) (ob ob2 : Obj) : Prop where
  ov : wr.heap[w.heap.size]? = some ob
  sp : wr.heap[w.heap.size + 1]? = some ob2
  ext : Ext w wr
theorem FolS.grown {w wr wn : World} {b : Nat} {ob ob2 : Obj} (h : FolS w wr ob ob2) (g : wr.grownBy wn (some b)) (hb : w.heap.size + 1 < b) : FolS w wn ob ob2 :=
  ⟨(g.block _ (Array.getElem?_eq_some_iff.1 h.ov).1 (fun e => by have := Option.some.inj e; omega)).trans h.ov, (g.block _ (Array.getElem?_eq_some_iff.1 h.sp).1 (fun e => by have := Option.some.inj e; omega)).trans h.sp,
    h.ext.grown g h.ext.size (fun k e => by have := Option.some.inj e; omega)⟩
theorem fol_start (w : World) (ob ob2 ob3 : Obj) : FolS w (((w.alloc ob).alloc ob2).alloc ob3) ob ob2 := by
  refine ⟨((((Ext.refl (w.alloc ob)).alloc ob2).alloc ob3).block w.heap.size (by simp)).trans (heap_alloc_new w ob), ?_, (((Ext.refl w).alloc _).alloc _).alloc _⟩
  have e := heap_alloc_new (w.alloc ob) ob2
  rw [World.size_alloc] at e
  exact (((Ext.refl ((w.alloc ob).alloc ob2)).alloc ob3).block (w.heap.size + 1) (by simp)).trans e
theorem kp_own {Mc : Nat → Prop} {A B C : World} {v : Option Nat} (h : KpM Mc A B) (k : KpM (fun b => Mc b ∨ v = some b) B C) (hv : ∀ q, v = some q → A.heap.size ≤ q) : KpM Mc A C :=
  ⟨Nat.le_trans h.1 k.1, fun b hb hm => (k.2 b (Nat.lt_of_lt_of_le hb h.1) (fun e => e.elim hm (fun e => by have := hv b e; omega))).trans (h.2 b hb hm), k.os.trans h.os, k.tape.trans h.tape, k.output.trans h.output⟩
theorem kp_far {Mc : Nat → Prop} {w A B : World} (h : KpM Mc w A) (k : KpM (fun c => w.heap.size ≤ c) A B) : KpM Mc w B :=
  ⟨Nat.le_trans h.1 k.1, fun b hb hm => (k.2 b (Nat.lt_of_lt_of_le hb h.1) (fun e => by omega)).trans (h.2 b hb hm), k.os.trans h.os, k.tape.trans h.tape, k.output.trans h.output⟩
set_option maxRecDepth 100000 in
set_option maxHeartbeats 8000000 in
theorem follow_any (o : Ov) (ho : OkO o) (temp : Sp) (ht : -500 ≤ temp.lo ∧ temp.hi ≤ 1000) (heats : Bool) (M : Nat) (hM : M ≤ 200) (g : Nat) (lb : Array Value) (eg : ∀ args w, (callFunc g args).run Tryz.prog w = .ok (.enter g args) w)
    (goes : Nat → Bool) (Mc : Nat → Prop) (J : Nat → World → Prop) (w : World) (hMc : ∀ b, Mc b → b < w.heap.size) (hJ : ∀ m A B, J m A → KpM (fun b => w.heap.size ≤ b) A B → J m B) (h0 : J 0 w)
    (hon : ∀ (m : Nat) (W : World) (B : Nat) (v : Value) (ss : List Int), m ≤ M → J m W → w.heap.size ≤ B → W.ownsRow B 3 1 v ss.length (iv ss) → ss.length ≤ 3402 → (∀ z, z ∈ ss ↔ ∃ b, (z, b) ∈ statesO o temp heats m) →
      Calls Tryz.prog g (#[.int .i64 m, v] ++ lb) W fun e W' => e = .returned (.bool (goes m)) ∧ J (m + 1) W' ∧ KpM (fun b => Mc b ∨ v.ownBlock = some b) W W') :
    Calls Tryz.prog 17 #[.agg #[.int .i64 o.low, .int .i64 o.high, .int .i64 o.warm.lo, .int .i64 o.warm.hi, .int .i64 o.cool.lo, .int .i64 o.cool.hi], .agg #[.int .i64 temp.lo, .int .i64 temp.hi], .bool heats, .int .i64 M, .func (.func g) #[] lb] w fun e w' =>
      e = .returned (.tuple #[]) ∧ KpM Mc w w' ∧ ∃ k, k ≤ M ∧ (∀ j, j < k → goes j = true) ∧ (goes k = false ∨ k = M) ∧ J (k + 1) w' := by
  have HON := Lib.hid hon
  have HJ := Lib.hid hJ
  have HMc := Lib.hid hMc
  clear hon hJ hMc
  have hmm := @run_makeMap Tryz.prog
  go_enter Tryz.func17, Tryz.ntmps17
  go_wp2
  have F0 := fol_start w (.cells #[.int .i64 o.low, .int .i64 o.high, .int .i64 o.warm.lo, .int .i64 o.warm.hi, .int .i64 o.cool.lo, .int .i64 o.cool.hi] 30) (.cells #[.int .i64 temp.lo, .int .i64 temp.hi] 28) (.map #[] 0)
  have M0 : MapS (((w.alloc (.cells #[.int .i64 o.low, .int .i64 o.high, .int .i64 o.warm.lo, .int .i64 o.warm.hi, .int .i64 o.cool.lo, .int .i64 o.cool.hi] 30)).alloc (.cells #[.int .i64 temp.lo, .int .i64 temp.hi] 28)).alloc (.map #[] 0)) (w.heap.size + 1 + 1) (fun x => False ∨ x.h = heats ∧ ∃ j : Nat, j < 0 ∧ x.t.1 = temp.lo + (j : Int)) := by
    have e := (MapS.made ((w.alloc (.cells #[.int .i64 o.low, .int .i64 o.high, .int .i64 o.warm.lo, .int .i64 o.warm.hi, .int .i64 o.cool.lo, .int .i64 o.cool.hi] 30)).alloc (.cells #[.int .i64 temp.lo, .int .i64 temp.hi] 28))).congr (q := fun x => False ∨ x.h = heats ∧ ∃ j : Nat, j < 0 ∧ x.t.1 = temp.lo + (j : Int)) (fun x => by simp)
    rw [World.size_alloc, World.size_alloc] at e
    exact e
  generalize ((w.alloc (.cells #[.int .i64 o.low, .int .i64 o.high, .int .i64 o.warm.lo, .int .i64 o.warm.hi, .int .i64 o.cool.lo, .int .i64 o.cool.hi] 30)).alloc (.cells #[.int .i64 temp.lo, .int .i64 temp.hi] 28)).alloc (.map #[] 0) = X0 at *
  obtain ⟨b0, hb0⟩ : ∃ b0, w.heap.size + 1 + 1 = b0 := ⟨_, rfl⟩
  rw [hb0] at M0 ⊢
  go_loopw [11] (fun s11 X => ∃ i : Nat, i ≤ (temp.hi - temp.lo + 1).toNat ∧ s11 = .int .i64 (temp.lo + (i : Int)) ∧ MapS X b0 (fun x => False ∨ x.h = heats ∧ ∃ j : Nat, j < i ∧ x.t.1 = temp.lo + (j : Int)) ∧ FolS w X (.cells #[.int .i64 o.low, .int .i64 o.high, .int .i64 o.warm.lo, .int .i64 o.warm.hi, .int .i64 o.cool.lo, .int .i64 o.cool.hi] 30 (0, 0)) (.cells #[.int .i64 temp.lo, .int .i64 temp.hi] 28 (0, 0))) (fun s11 _ => (temp.hi + 1 - Go.RowKit.intOf s11).toNat)
  case atStart => exact ⟨0, Nat.zero_le _, by simp, M0, F0⟩
  case round =>
    clear M0 F0
    obtain ⟨i, hi, rfl, MS, FS⟩ := hrel
    obtain ⟨X, rfl⟩ : ∃ X : World, X = wr := ⟨_, rfl⟩
    have p1 := blk_cell FS.sp 1 (v := .int .i64 temp.hi) rfl
    by_cases hle : temp.lo + (i : Int) ≤ temp.hi
    · obtain ⟨f, hf, h2, h3⟩ := MS
      have HF := Lib.hid (And.intro h2 h3)
      have hI : -9223372036854775808 ≤ temp.lo + (i : Int) ∧ temp.lo + (i : Int) ≤ 9223372036854775807 := by omega
      clear h2 h3
      go_wp2_with (at_mapUpdate; refine wpList_putF _ rfl _ _ _ 105 rfl 3 keyS Tryz.underlying105 b0 rfl hf (⟨⟨temp.lo + (i : Int), hI⟩, heats⟩ : OvS) (.int .i64 (temp.lo + (i : Int))) rfl rfl ?_; intro w6 hm6 hg6 hs6; clear hs6)
      have M' := (MapS.stored HF.out.1 HF.out.2 hm6).congr (q := fun x => False ∨ x.h = heats ∧ ∃ j : Nat, j < i + 1 ∧ x.t.1 = temp.lo + (j : Int)) (fun x => aft_more (p := fun _ => False) (hb := heats) (k := ⟨⟨_, hI⟩, heats⟩) (g := fun j : Nat => temp.lo + (j : Int)) rfl rfl x)
      have F' := FS.grown hg6 (by omega)
      clear hm6 hg6 hf FS
      (try go_frame)
      go_wp2
      go_roundw
      case rel => exact ⟨i + 1, by omega, by go_num, M', F'⟩
      case measure => simp [Go.RowKit.intOf]; omega
    · obtain rfl : i = (temp.hi - temp.lo + 1).toNat := by omega
      have MP := MS.congr (q := atM o temp heats 0) (fun x => by rw [atM_zero]; simp)
      have FO : KpM Mc w X := KpM.of_ext FS.ext
      have hov := FS.ov
      have hJ0 : J 0 X := HJ.out _ _ _ h0 (KpM.of_ext FS.ext)
      have hsz : b0 < X.heap.size := MS.lt
      clear MS FS h0 hi hle
      have hltz : ¬ temp.lo + (((temp.hi - temp.lo + 1).toNat : Nat) : Int) ≤ temp.hi := by omega
      go_wp2
      clear p1
      go_loopw [10, 13] (fun s10 s13 Y => ∃ (m b : Nat), m ≤ M ∧ s10 = .map (some b) ∧ s13 = .int .i64 m ∧ w.heap.size + 1 < b ∧ MapS Y b (atM o temp heats m) ∧ Y.heap[w.heap.size]? = some (.cells #[.int .i64 o.low, .int .i64 o.high, .int .i64 o.warm.lo, .int .i64 o.warm.hi, .int .i64 o.cool.lo, .int .i64 o.cool.hi] 30 (0, 0)) ∧ J m Y ∧ KpM Mc w Y ∧ Aside (∀ j, j < m → goes j = true)) (fun _ s13 _ => M - (Go.RowKit.intOf s13).toNat)
      case atStart => exact ⟨0, b0, Nat.zero_le _, rfl, rfl, by omega, MP, hov, hJ0, FO, fun j hj => absurd hj (Nat.not_lt_zero _)⟩
      case round =>
        clear MP hov hJ0 FO hsz hb0 hltz
        obtain ⟨m, b, hm, rfl, rfl, hb, MS, hov, hJm, FO, HG⟩ := hrel
        obtain ⟨Y, rfl⟩ : ∃ Y : World, Y = wr := ⟨_, rfl⟩
        have hbY := MS.lt
        have hcv := fun V => values_any (some b) V
        have hcol := collect_any 72 #[.pointer (some ⟨Y.heap.size, 0, none⟩)] (enters_of Tryz.func72 (by kernel_rfl) rfl) _ _ (by rw [allS_len]; decide) (by rw [allS_len]; decide) _
          (values_gives Y.heap.size b (atM o temp heats m) allS (fun x hx => mem_allS (atM_bd ho ht hx)) (Y.alloc (.cells #[.map (some b)] 105)) (by simp) (by simp) (MS.ext ((Ext.refl Y).alloc _)))
        rw [allS_len] at hcol
        obtain ⟨gm, hgm⟩ : ∃ gm, goes m = gm := ⟨_, rfl⟩
        have HGM := Lib.hid hgm
        have hFY := Lib.hid (show w.heap.size ≤ Y.heap.size from FO.size)
        clear hgm
        go_wp2_with fail
        refine (hcv _).mono ?_
        rintro e w1 ⟨rfl, rfl⟩
        go_wp2_with fail
        refine (hcol).mono ?_
        rintro e w2 ⟨v, ss, rfl, ⟨hl2, hs2⟩, hown, E2⟩
        have E2' : Ext Y w2 := ((Ext.refl Y).alloc _).comp E2
        have hcon := HON.out m w2 _ v ss hm (HJ.out _ _ _ hJm (KpM.of_ext E2')) (by have := hFY.out; simp; omega) hown hl2 (fun z => (hs2 z).trans (temps_atM ho ht z))
        have hob : ∀ q, v.ownBlock = some q → Y.heap.size < q := fun q e => by have := (hown.lt q e).1; simp at this; omega
        have HOB := Lib.hid hob
        rw [HGM.out] at hcon
        clear hcv hcol hown hs2 hob
        cases gm with
        | false =>
          go_wp2_with (go_at_fn g; refine hcon.mono ?_; rintro e w3 ⟨rfl, hJ3, K3⟩)
          have KF : KpM Mc w w3 := FO.trans (kp_own (KpM.of_ext E2') K3 (fun q e => Nat.le_of_lt (HOB.out q e)))
          go_end0
          exact ⟨rfl, KF, m, hm, HG.out, .inl HGM.out, hJ3⟩
        | true =>
          by_cases hlt : m < M
          · have hltz : (m : Int) < (M : Int) := by omega
            go_wp2_with fail
            refine hcon.mono ?_
            rintro e w3 ⟨rfl, hJ3, K3⟩
            have K3' := kp_own (KpM.of_ext E2') K3 (fun q e => Nat.le_of_lt (HOB.out q e))
            have KF : KpM Mc w w3 := FO.trans K3'
            have hnb : ¬ Mc b := fun h => by have := HMc.out b h; omega
            have MS3 := MS.same (K3'.2 b hbY hnb)
            have hov3 := (K3'.2 w.heap.size (Array.getElem?_eq_some_iff.1 hov).1 (fun h => by have := HMc.out _ h; omega)).trans hov
            have hs3 := K3'.1
            obtain ⟨f0, hf0, hf2, hf3⟩ := MS3
            have HF0 := Lib.hid hf2
            have hf0' : MapF encS (w3.alloc (.map #[] 0)) b f0 := hf0.alloc _
            have hF3 := Lib.hid (show w.heap.size + 1 < b ∧ b < w3.heap.size ∧ w.heap.size ≤ w3.heap.size from ⟨hb, by omega, by have := hFY.out; omega⟩)
            have MN : MapS (w3.alloc (.map #[] 0)) w3.heap.size (fun x => ∃ y, (f0 y).isSome = true ∧ ¬ (f0 y).isSome = true ∧ (x.t.1, x.h) ∈ afterO o (y.t.1, y.h)) := (MapS.made w3).congr (fun x => ⟨fun h => h.elim, fun ⟨_, h1, h2, _⟩ => h2 h1⟩)
            clear hf2 hf0 MS hov E2 E2' FO hJm hcon K3 K3' hbY hnb hs3
            go_wp2_with (at_range; refine wpList_rangeF _ rfl _ 105 rfl 3 keyS Tryz.underlying105 b rfl hf0' ?_; intro w4 cnt hrg E4 hs4; clear hs4)
            (try go_frame)
            have MN4 := MN.ext E4
            have hov4 := (E4.block w.heap.size (by have := (Array.getElem?_eq_some_iff.1 hov3).1; simp; omega)).trans (((Ext.refl w3).alloc (.map #[] 0)).block _ (Array.getElem?_eq_some_iff.1 hov3).1 |>.trans hov3)
            have KN4 : KpM (fun c => w.heap.size ≤ c) w3 w4 := KpM.of_ext (((Ext.refl w3).alloc (.map #[] 0)).comp E4)
            have hne4 := hrg.lt
            rw [World.size_alloc] at *
            clear MN E4 hf0' hov3
            obtain ⟨n3, hn3⟩ : ∃ n3, w3.heap.size = n3 := ⟨_, rfl⟩
            rw [hn3] at hrg MN4 hne4 hF3 ⊢
            clear hn3
            go_loopw [15] (fun _ Z => ∃ (left : OvS → Prop) (cnt : Nat), RngF encS Z b (n3 + 1) f0 left cnt ∧ MapS Z n3 (fun x => ∃ y, (f0 y).isSome = true ∧ ¬ left y ∧ (x.t.1, x.h) ∈ afterO o (y.t.1, y.h)) ∧ Z.heap[w.heap.size]? = some (.cells #[.int .i64 o.low, .int .i64 o.high, .int .i64 o.warm.lo, .int .i64 o.warm.hi, .int .i64 o.cool.lo, .int .i64 o.cool.hi] 30 (0, 0)) ∧ KpM (fun c => w.heap.size ≤ c) w3 Z ∧ n3 + 1 < Z.heap.size) (fun _ Z => Z.rangeLeft b (n3 + 1))
            case atStart => exact ⟨_, _, hrg, MN4, hov4, KN4, hne4⟩
            case round =>
              clear hrg MN4 hov4 KN4 hne4
              obtain ⟨left, cnt, hrg, MN, hovZ, KN, hnZ⟩ := hrel
              obtain ⟨Z, rfl⟩ : ∃ Z : World, Z = wr := ⟨_, rfl⟩
              go_wp2_with (at_next; refine wpList_nextF _ rfl _ rfl keyS b (n3 + 1) left cnt rfl hrg ?_ ?_)
              · intro _ hl0
                have MN' := MN.congr (q := atM o temp heats (m + 1)) (fun x => by
                  rw [atM_succ ho ht]
                  exact ⟨fun ⟨y, h1, _, h2⟩ => ⟨y, (HF0.out y).1 h1, h2⟩, fun ⟨y, h1, h2⟩ => ⟨y, (HF0.out y).2 h1, hl0 y, h2⟩⟩)
                have hJZ : J (m + 1) Z := HJ.out _ _ _ hJ3 KN
                have KZ : KpM Mc w Z := kp_far KF KN
                have HG' : Aside (∀ j, j < m + 1 → goes j = true) := fun j hj => by
                  by_cases e : j = m
                  · rw [e]; exact HGM.out
                  · exact HG.out j (by omega)
                clear MN hrg hl0 KN hJ3 KF
                go_wp2
                go_roundw
                case rel => exact ⟨m + 1, n3, by omega, rfl, by go_num, by have := hF3.out; omega, MN', hovZ, hJZ, KZ, HG'⟩
                case measure => simp [Go.RowKit.intOf]; omega
              · intro y v w8 cnt' hly hfy hrg8 hlt8 hg8 hs8 hen
                clear hs8
                obtain rfl := hf3 y v hfy
                have hyb := atM_bd ho ht ((HF0.out y).1 (by rw [hfy]; rfl))
                have hLT := Lib.hid (And.intro hrg.left_eq hlt8)
                have HLY := Lib.hid (And.intro hly hfy)
                have K8 : KpM (fun c => w.heap.size ≤ c) w3 w8 := KN.trans (KpM.grown hg8 (fun r e => by have := Option.some.inj e; have := hF3.out; omega))
                have MN8 := MN.same (hg8.block n3 MN.lt (fun e => by have := Option.some.inj e; omega))
                have hov8 := (hg8.block w.heap.size (Array.getElem?_eq_some_iff.1 hovZ).1 (fun e => by have := Option.some.inj e; have := hF3.out; omega)).trans hovZ
                have hn8 : n3 + 1 < w8.heap.size := Nat.lt_of_lt_of_le hnZ hg8.size
                have hov9 := (((Ext.refl w8).alloc (.cells #[.int .i64 y.t.1, .bool y.h] 107)).block _ (Array.getElem?_eq_some_iff.1 hov8).1).trans hov8
                have haf := after_anyL o ho w.heap.size n3 y (by omega) _ (w8.alloc (.cells #[.int .i64 y.t.1, .bool y.h] 107)) hov9 (MN8.ext ((Ext.refl w8).alloc _)) (by have := hF3.out; omega)
                have eaf := enters_of Tryz.func52 (by kernel_rfl) rfl
                clear hly hfy hrg hlt8 hg8 MN KN hovZ hyb
                go_wp2_with fail
                refine haf.mono ?_
                rintro e w9 ⟨rfl, M9, G9⟩
                have hbn := hF3.out
                have hrg9 := (hrg8.ext ((Ext.refl w8).alloc (.cells #[.int .i64 y.t.1, .bool y.h] 107))).grown G9 (fun e => by have := Option.some.inj e; omega) (fun e => by have := Option.some.inj e; omega)
                have M10 := M9.congr (q := fun x => ∃ u, (f0 u).isSome = true ∧ ¬ (left u ∧ u ≠ y) ∧ (x.t.1, x.h) ∈ afterO o (u.t.1, u.h)) (fun x => by
                  constructor
                  · rintro (⟨u, h1, h2, h4⟩ | h)
                    · exact ⟨u, h1, fun h => h2 h.1, h4⟩
                    · exact ⟨y, by rw [HLY.out.2]; rfl, fun h => h.2 rfl, h⟩
                  · rintro ⟨u, h1, h2, h4⟩
                    by_cases huy : u = y
                    · exact .inr (by rw [← huy]; exact h4)
                    · exact .inl ⟨u, h1, fun h => h2 ⟨h, huy⟩, h4⟩)
                have hov10 := (G9.block w.heap.size (Array.getElem?_eq_some_iff.1 hov9).1 (fun e => by have := Option.some.inj e; omega)).trans hov9
                have K10 : KpM (fun c => w.heap.size ≤ c) w3 w9 := (K8.trans (KpM.of_ext ((Ext.refl w8).alloc _))).trans (KpM.grown G9 (fun r e => by have := Option.some.inj e; omega))
                have hn9 : n3 + 1 < w9.heap.size := Nat.lt_of_lt_of_le (by simp; omega) G9.size
                have HM := Lib.hid hrg9.left_eq
                clear hrg8 M9 G9 hov8 hov9 K8 MN8 hn8 haf hbn
                go_wp2
                go_roundw
                case rel => exact ⟨_, cnt', hrg9, M10, hov10, K10, hn9⟩
                case measure => rw [HM.out, hLT.out.1]; exact hLT.out.2
          · have hltz : ¬ (m : Int) < (M : Int) := by omega
            go_wp2_with (go_at_fn g; refine hcon.mono ?_; rintro e w3 ⟨rfl, hJ3, K3⟩)
            have KF : KpM Mc w w3 := FO.trans (kp_own (KpM.of_ext E2') K3 (fun q e => Nat.le_of_lt (HOB.out q e)))
            go_end0
            exact ⟨rfl, KF, m, hm, HG.out, .inr (by omega), hJ3⟩
end Go.Proofs.YtbcciokmlkofkaaGreat

import Derived.Test.YtbcciokmlkofkaaGreatWH18
import Derived.Test.YtbcciokmlkofkaaGreatWH14
set_option linter.unusedVariables false
set_option linter.unusedSimpArgs false
/- Contracts of layer 1: the least and the greatest of some numbers; what Oven does with the temperatures of a minute; Oven. -/
namespace Go.Proofs.YtbcciokmlkofkaaGreat
open Go.RowKit Go.Q Go.Shelf Go.Maps
theorem cell_two_new2 (w : World) (x y : Value) (t : TypeId) : ∀ j u, [x, y][j]? = some u → (w.alloc (.cells #[x, y] t)).cell? ((⟨w.heap.size, 0, none⟩ : Addr).add j) = some u := by
  intro j u hj
  match j, hj with
  | 0, hj => simp at hj; subst hj; simp [Addr.add]
  | 1, hj => simp at hj; subst hj; simp [Addr.add]
theorem fold_min {α : Type} (f : α → Int) : ∀ (l : List α) (a : Int), l.foldl (fun a s => min a (f s)) a ≤ a ∧ (∀ s ∈ l, l.foldl (fun a s => min a (f s)) a ≤ f s) ∧ (l.foldl (fun a s => min a (f s)) a = a ∨ ∃ s ∈ l, l.foldl (fun a s => min a (f s)) a = f s)
  | [], a => ⟨Int.le_refl _, fun s h => (by simp at h), .inl rfl⟩
  | x :: l, a => by
    have ih := fold_min f l (min a (f x))
    rw [List.foldl_cons]
    refine ⟨by omega, fun s hs => ?_, ?_⟩
    · rcases List.mem_cons.1 hs with rfl | hs
      · omega
      · exact ih.2.1 s hs
    · rcases ih.2.2 with h | ⟨s, h1, h2⟩
      · by_cases hx : a ≤ f x
        · left; omega
        · right; exact ⟨x, List.mem_cons_self, by omega⟩
      · exact .inr ⟨s, List.mem_cons_of_mem _ h1, h2⟩
theorem fold_max {α : Type} (f : α → Int) : ∀ (l : List α) (a : Int), a ≤ l.foldl (fun a s => max a (f s)) a ∧ (∀ s ∈ l, f s ≤ l.foldl (fun a s => max a (f s)) a) ∧ (l.foldl (fun a s => max a (f s)) a = a ∨ ∃ s ∈ l, l.foldl (fun a s => max a (f s)) a = f s)
  | [], a => ⟨Int.le_refl _, fun s h => (by simp at h), .inl rfl⟩
  | x :: l, a => by
    have ih := fold_max f l (max a (f x))
    rw [List.foldl_cons]
    refine ⟨by omega, fun s hs => ?_, ?_⟩
    · rcases List.mem_cons.1 hs with rfl | hs
      · omega
      · exact ih.2.1 s hs
    · rcases ih.2.2 with h | ⟨s, h1, h2⟩
      · by_cases hx : f x ≤ a
        · left; omega
        · right; exact ⟨x, List.mem_cons_self, by omega⟩
      · exact .inr ⟨s, List.mem_cons_of_mem _ h1, h2⟩
theorem minOf_fold {α : Type} {f : α → Int} {l : List α} {ss : List Int} {lo hi : Int} (h : lo ≤ hi) (hm : ∀ z, z ∈ ss ↔ ∃ s ∈ l, f s = z) : Lib.minOf (ss ++ [lo, hi]) = l.foldl (fun a s => min a (f s)) lo := by
  obtain ⟨a1, a2, a3⟩ := fold_min f l lo
  obtain ⟨b1, b2, b3⟩ := fold_min (fun x : Int => x) (ss ++ [lo, hi]) ((ss ++ [lo, hi]).headD 0)
  have e : Lib.minOf (ss ++ [lo, hi]) = (ss ++ [lo, hi]).foldl (fun a s => min a s) ((ss ++ [lo, hi]).headD 0) := rfl
  rw [e]
  have hh : (ss ++ [lo, hi]).headD 0 ∈ ss ++ [lo, hi] := by cases ss <;> simp
  have b4 : ∃ s ∈ ss ++ [lo, hi], (ss ++ [lo, hi]).foldl (fun a s => min a s) ((ss ++ [lo, hi]).headD 0) = s := by
    rcases b3 with h | h
    · exact ⟨_, hh, h⟩
    · exact h
  obtain ⟨s, hs, es⟩ := b4
  have c1 := b2 lo (by simp)
  rcases List.mem_append.1 hs with hs | hs
  · obtain ⟨u, hu, eu⟩ := (hm s).1 hs
    have c2 := a2 u hu
    rcases a3 with h3 | ⟨v, hv, ev⟩
    · omega
    · have c3 := b2 (f v) (List.mem_append_left _ ((hm _).2 ⟨v, hv, rfl⟩))
      omega
  · have hs2 : s = lo ∨ s = hi := by simpa using hs
    rcases a3 with h3 | ⟨v, hv, ev⟩
    · omega
    · have c3 := b2 (f v) (List.mem_append_left _ ((hm _).2 ⟨v, hv, rfl⟩))
      omega
theorem maxOf_fold {α : Type} {f : α → Int} {l : List α} {ss : List Int} {lo hi : Int} (h : lo ≤ hi) (hm : ∀ z, z ∈ ss ↔ ∃ s ∈ l, f s = z) : Lib.maxOf (ss ++ [lo, hi]) = l.foldl (fun a s => max a (f s)) hi := by
  obtain ⟨a1, a2, a3⟩ := fold_max f l hi
  obtain ⟨b1, b2, b3⟩ := fold_max (fun x : Int => x) (ss ++ [lo, hi]) ((ss ++ [lo, hi]).headD 0)
  have e : Lib.maxOf (ss ++ [lo, hi]) = (ss ++ [lo, hi]).foldl (fun a s => max a s) ((ss ++ [lo, hi]).headD 0) := rfl
  rw [e]
  have hh : (ss ++ [lo, hi]).headD 0 ∈ ss ++ [lo, hi] := by cases ss <;> simp
  have b4 : ∃ s ∈ ss ++ [lo, hi], (ss ++ [lo, hi]).foldl (fun a s => max a s) ((ss ++ [lo, hi]).headD 0) = s := by
    rcases b3 with h | h
    · exact ⟨_, hh, h⟩
    · exact h
  obtain ⟨s, hs, es⟩ := b4
  have c1 := b2 hi (by simp)
  rcases List.mem_append.1 hs with hs | hs
  · obtain ⟨u, hu, eu⟩ := (hm s).1 hs
    have c2 := a2 u hu
    rcases a3 with h3 | ⟨v, hv, ev⟩
    · omega
    · have c3 := b2 (f v) (List.mem_append_left _ ((hm _).2 ⟨v, hv, rfl⟩))
      omega
  · have hs2 : s = lo ∨ s = hi := by simpa using hs
    rcases a3 with h3 | ⟨v, hv, ev⟩
    · omega
    · have c3 := b2 (f v) (List.mem_append_left _ ((hm _).2 ⟨v, hv, rfl⟩))
      omega
theorem ends_any (b off n c : Nat) (xs : List Int) (w : World) (hl : xs.length = n) (h0 : 0 < n) (hbig : n ≤ 9223372036854775807) (hc : ∀ i, i < xs.length → w.cell? ⟨b, off + i, none⟩ = some (.int .i64 (xs[i]?.getD 0))) :
    Calls Tryz.prog 60 #[.slice (some ⟨b, off, none⟩) n c] w fun e w' => e = .returned (.tuple #[.int .i64 (Lib.minOf xs), .int .i64 (Lib.maxOf xs)]) ∧ w' = w := by
  have h1 := Tryz.slices_Min_int b off n c xs w h0 (by omega) hbig (fun j hj => by rw [hc j hj, List.getD_eq_getElem?_getD])
  have h2 := Tryz.slices_Max_int b off n c xs w h0 (by omega) hbig (fun j hj => by rw [hc j hj, List.getD_eq_getElem?_getD])
  rw [List.take_of_length_le (by omega)] at h1 h2
  clear hc
  go_enter Tryz.func60, Tryz.ntmps60
  go_wp2_with (first | (go_at_call 76; refine h1.mono ?_; rintro e w' ⟨rfl, rfl⟩) | (go_at_call 77; refine h2.mono ?_; rintro e w' ⟨rfl, rfl⟩))
  refine bodyPost_ret (v := .tuple #[.int .i64 (Lib.minOf xs), .int .i64 (Lib.maxOf xs)]) (by simp [results, Tryz.results60, go_sem]) rfl ⟨rfl, rfl⟩
theorem kp_cell {M : Nat → Prop} (W : World) (b o : Nat) (v : Value) (hm : M b) : KpM M W (W.setCell ⟨b, o, none⟩ v) :=
  ⟨by simp, fun x _ hx => Below.heap_setCell _ _ _ _ (fun e => hx (by have e' : x = b := e; rw [e']; exact hm)), rfl, rfl, rfl⟩
set_option maxRecDepth 100000 in
set_option maxHeartbeats 2000000 in
theorem oven1_any (Bs B : Nat) (m : Int) (v : Value) (ss : List Int) (s : Sp) (W : World) (hb : W.heap[Bs]? = some (.cells #[.int .i64 s.lo, .int .i64 s.hi] 28 (0, 0))) (hown : W.ownsRow B 3 1 v ss.length (iv ss)) (hl : ss.length ≤ 3402) (hB : Bs < B) :
    Calls Tryz.prog 59 #[.int .i64 m, v, .pointer (some ⟨Bs, 0, none⟩)] W fun e W' => e = .returned (.bool true) ∧ W'.heap[Bs]? = some (.cells #[.int .i64 (Lib.minOf (ss ++ [s.lo, s.hi])), .int .i64 (Lib.maxOf (ss ++ [s.lo, s.hi]))] 28 (0, 0)) ∧ KpM (fun b => b = Bs ∨ v.ownBlock = some b) W W' := by
  obtain ⟨i0, hi, hz0, hz1, hz2⟩ := info_parts Tryz.infoE
  have c0 := blk_cell hb 0 (v := .int .i64 s.lo) rfl
  have c1 := blk_cell hb 1 (v := .int .i64 s.hi) rfl
  have hBs := (Array.getElem?_eq_some_iff.1 hb).1
  obtain ⟨B', hB1, hB2, hown⟩ : ∃ B', Bs < B' ∧ B' ≤ W.heap.size ∧ W.ownsRow B' 3 1 v ss.length (iv ss) := by
    rcases hown.2 with ⟨h1, h2⟩ | ⟨g, cap, cur, h1, h2, h3, _⟩
    · exact ⟨W.heap.size, hBs, Nat.le_refl _, hown.1, .inl ⟨h1, h2⟩⟩
    · exact ⟨B, hB, by have := (Array.getElem?_eq_some_iff.1 h3).1; omega, hown⟩
  have hob : ∀ q, v.ownBlock = some q → Bs < q := fun q e => by have := (hown.lt q e).1; omega
  have HOB := Lib.hid hob
  clear hob hB
  go_enter Tryz.func59, Tryz.ntmps59
  go_wp2_with (at_builtin; refine wpList_append_own _ rfl _ _ 22 rfl B' 3 i0 (.int .i64 0) 1 8 Tryz.underlying22 hi hz0 hz1 hz2 rfl (by decide) _ _ _ rfl (hown.alloc _) ⟨W.heap.size, 0, none⟩ 2 2 [.int .i64 s.lo, .int .i64 s.hi] rfl rfl (cell_two_new2 _ _ _ _) (by simp [Value.oneCell']) (by unfold maxLen; omega) (by omega) (by simp; omega) ?_; intro v' w3 hown' hgrow hnil; clear hnil)
  (try go_frame)
  obtain ⟨zs, hzs⟩ : ∃ zs, ss ++ [s.lo, s.hi] = zs := ⟨_, rfl⟩
  have hzl : zs.length = ss.length + 2 := by rw [← hzs]; simp
  have e2 : iv ss ++ [.int .i64 s.lo, .int .i64 s.hi] = iv zs := by rw [← hzs]; simp [iv]
  obtain ⟨g', cap', rfl⟩ := ownsRow_succ hown'
  rw [e2] at hown'
  have hown2 : w3.ownsRow B' 3 1 (.slice (some ⟨g', 0, none⟩) zs.length cap') zs.length (iv zs) := by rw [hzl]; exact hown'
  have hcs : ∀ i, i < zs.length → w3.cell? ⟨g', 0 + i, none⟩ = some (.int .i64 (zs[i]?.getD 0)) := by
    rcases own_ints2 hown2 with h | ⟨b, off, ha, _, _, hc⟩
    · rw [h] at hzl; simp at hzl
    · cases ha
      exact hc
  have hend := ends_any g' 0 (ss.length + 2) cap' zs w3 hzl (by omega) (by omega) hcs
  have hg : W.grownBy w3 v.ownBlock := (World.grownBy_alloc W _ _).trans hgrow
  have hb3 : w3.heap[Bs]? = some (.cells #[.int .i64 s.lo, .int .i64 s.hi] 28 (0, 0)) := (hg.block Bs hBs (fun e => by have := HOB.out _ e.symm; omega)).trans hb
  have d0 := blk_cell hb3 0 (v := .int .i64 s.lo) rfl
  have d1 := blk_cell hb3 1 (v := .int .i64 s.hi) rfl
  have f0 := blk_free hb3 0
  have f1 := blk_free hb3 1
  have K3 : KpM (fun b => b = Bs ∨ v.ownBlock = some b) W w3 := KpM.grown hg (fun r e => .inr e)
  have HZ := Lib.hid hzs
  clear hown hown' hown2 hgrow hcs hb c0 c1 hg e2 hzs
  go_wp2_with fail
  refine hend.mono ?_
  rintro e w4 ⟨rfl, rfl⟩
  go_wp2
  refine bodyPost_ret (v := .bool true) (by simp [results, Tryz.results59, go_sem]) rfl ⟨rfl, ?_, ?_⟩
  · have e1 := heap_setCell_same w4 Bs 0 _ _ (.int .i64 (Lib.minOf zs)) hb3
    have e2 := heap_setCell_same _ Bs 1 _ _ (.int .i64 (Lib.maxOf zs)) e1
    rw [HZ.out]
    simpa using e2
  · exact (K3.trans (kp_cell _ _ _ _ (.inl rfl))).trans (kp_cell _ _ _ _ (.inl rfl))
def OvenRes (r : Sp × Int) (w : World) (e : Ending) (w' : World) : Prop := e = .returned (.tuple #[.agg #[.int .i64 r.1.lo, .int .i64 r.1.hi], .int .i64 r.2]) ∧ Ext w w'
/-- what Oven has found before a minute -/
def loP (o : Ov) (temp : Sp) (heats : Bool) : Nat → Int
  | 0 => temp.lo
  | m + 1 => loO o temp heats m
def hiP (o : Ov) (temp : Sp) (heats : Bool) : Nat → Int
  | 0 => temp.hi
  | m + 1 => hiO o temp heats m
theorem loO_le (o : Ov) (temp : Sp) (heats : Bool) : ∀ m, loO o temp heats m ≤ temp.lo
  | 0 => Int.le_refl _
  | m + 1 => Int.le_trans (fold_min (fun s : Int × Bool => s.1) (statesO o temp heats (m + 1)) (loO o temp heats m)).1 (loO_le o temp heats m)
theorem hiO_le (o : Ov) (temp : Sp) (heats : Bool) : ∀ m, temp.hi ≤ hiO o temp heats m
  | 0 => Int.le_refl _
  | m + 1 => Int.le_trans (hiO_le o temp heats m) (fold_max (fun s : Int × Bool => s.1) (statesO o temp heats (m + 1)) (hiO o temp heats m)).1
theorem loP_step (o : Ov) (temp : Sp) (heats : Bool) (h : temp.lo ≤ temp.hi) (m : Nat) (ss : List Int) (hm : ∀ z, z ∈ ss ↔ ∃ b, (z, b) ∈ statesO o temp heats m) : Lib.minOf (ss ++ [loP o temp heats m, hiP o temp heats m]) = loP o temp heats (m + 1) ∧ Lib.maxOf (ss ++ [loP o temp heats m, hiP o temp heats m]) = hiP o temp heats (m + 1) := by
  have hle : loP o temp heats m ≤ hiP o temp heats m := by
    cases m with
    | zero => exact h
    | succ m => have := loO_le o temp heats m; have := hiO_le o temp heats m; show loO o temp heats m ≤ hiO o temp heats m; omega
  have hm' : ∀ z, z ∈ ss ↔ ∃ s ∈ statesO o temp heats m, s.1 = z := fun z => (hm z).trans ⟨fun ⟨b, hb⟩ => ⟨_, hb, rfl⟩, fun ⟨s, hs, e⟩ => ⟨s.2, by rw [← e]; exact hs⟩⟩
  have e1 := minOf_fold (f := fun s : Int × Bool => s.1) hle hm'
  have e2 := maxOf_fold (f := fun s : Int × Bool => s.1) hle hm'
  cases m with
  | zero =>
    obtain ⟨a1, a2, a3⟩ := fold_min (fun s : Int × Bool => s.1) (statesO o temp heats 0) temp.lo
    obtain ⟨b1, b2, b3⟩ := fold_max (fun s : Int × Bool => s.1) (statesO o temp heats 0) temp.hi
    have hin : ∀ s ∈ statesO o temp heats 0, temp.lo ≤ s.1 ∧ s.1 ≤ temp.hi := fun s hs => by
      obtain ⟨t, h1, rfl⟩ := List.mem_map.1 hs
      exact mem_tempsS.1 h1
    refine ⟨e1.trans ?_, e2.trans ?_⟩
    · show (statesO o temp heats 0).foldl (fun a s => min a s.1) temp.lo = temp.lo
      rcases a3 with h | ⟨s, hs, es⟩
      · exact h
      · have := (hin s hs).1; omega
    · show (statesO o temp heats 0).foldl (fun a s => max a s.1) temp.hi = temp.hi
      rcases b3 with h | ⟨s, hs, es⟩
      · exact h
      · have := (hin s hs).2; omega
  | succ m => exact ⟨e1, e2⟩
theorem okO_of {o : Ov} {temp : Sp} {minutes : Int} (h : ovenX o temp minutes = 0) : OkO o ∧ spanX temp = 0 ∧ 0 ≤ minutes ∧ minutes ≤ 200 := by
  unfold ovenX at h
  split at h
  · omega
  · rename_i h1
    split at h
    · omega
    · rename_i h2
      split at h
      · omega
      · rename_i h3
        split at h
        · omega
        · rename_i h4
          simp only [not_or, Bool.not_eq_false] at h1
          obtain ⟨a1, a2, a3, a4, a5, a6⟩ := h1
          have b1 := tempB_bd a1; have b2 := tempB_bd a2
          have b3 := inB_bd a3; have b4 := inB_bd a4; have b5 := inB_bd a5; have b6 := inB_bd a6
          have b7 := inB_bd (by simpa using h4)
          exact ⟨⟨b1, b2, by omega, by omega, by omega⟩, by omega, b7.1, b7.2⟩
theorem oven_boxes {w w1 : World} {ob : Obj} {c1 c2 : Array Value} {k1 k2 : TypeId} (E : Ext (((w.alloc ob).alloc (.cells c1 k1)).alloc (.cells c2 k2)) w1) : w1.heap[w.heap.size + 1]? = some (.cells c1 k1 (0, 0)) ∧ w1.heap[w.heap.size + 1 + 1]? = some (.cells c2 k2 (0, 0)) := by
  have e1 := heap_alloc_new (w.alloc ob) (.cells c1 k1)
  rw [World.size_alloc] at e1
  have e2 := heap_alloc_new ((w.alloc ob).alloc (.cells c1 k1)) (.cells c2 k2)
  rw [World.size_alloc, World.size_alloc] at e2
  exact ⟨(E.block _ (by simp)).trans ((((Ext.refl ((w.alloc ob).alloc (.cells c1 k1))).alloc (.cells c2 k2)).block (w.heap.size + 1) (by simp)).trans e1), (E.block _ (by simp)).trans e2⟩
theorem ext_kp {M : Nat → Prop} {w A B : World} (h : Ext w A) (k : KpM M A B) (hM : ∀ b, M b → w.heap.size ≤ b) : Ext w B :=
  ⟨k.os.trans h.os, k.tape.trans h.tape, k.output.trans h.output, Nat.le_trans h.size k.1, fun b hb => (k.2 b (Nat.lt_of_lt_of_le hb h.size) (fun e => by have := hM b e; omega)).trans (h.block b hb)⟩
set_option maxRecDepth 100000 in
set_option maxHeartbeats 4000000 in
theorem Oven_any (o : Ov) (temp : Sp) (heats : Bool) (minutes : Int) (w : World) :
    Calls Tryz.prog 27 #[.agg #[.int .i64 o.low, .int .i64 o.high, .int .i64 o.warm.lo, .int .i64 o.warm.hi, .int .i64 o.cool.lo, .int .i64 o.cool.hi], .agg #[.int .i64 temp.lo, .int .i64 temp.hi], .bool heats, .int .i64 minutes] w (OvenRes (ovenE o temp heats minutes) w) := by
  have hs := fun W => suspect_any o temp minutes W
  by_cases hx : ovenX o temp minutes = 0
  · obtain ⟨ho, hsp, hm0, hm1⟩ := okO_of hx
    obtain ⟨t0, t1, t2⟩ := spanX_bd hsp
    have e1 : ovenE o temp heats minutes = (⟨loO o temp heats minutes.toNat, hiO o temp heats minutes.toNat⟩, 0) := by unfold ovenE; rw [if_pos hx]
    rw [e1]
    rw [hx] at hs
    obtain ⟨M, rfl⟩ : ∃ M : Nat, minutes = (M : Int) := ⟨minutes.toNat, by omega⟩
    rw [show ((M : Int).toNat) = M by simp]
    have hfo := fun (W : World) (hW : w.heap.size + 1 + 1 < W.heap.size) (h0 : W.heap[w.heap.size + 1 + 1]? = some (.cells #[.int .i64 temp.lo, .int .i64 temp.hi] 28 (0, 0))) =>
      follow_any o ho temp ⟨by omega, by omega⟩ heats M (by omega) 59 #[.pointer (some ⟨w.heap.size + 1 + 1, 0, none⟩)] (enters_of Tryz.func59 (by kernel_rfl) rfl) (fun _ => true) (fun b => b = w.heap.size + 1 + 1)
        (fun m W => W.heap[w.heap.size + 1 + 1]? = some (.cells #[.int .i64 (loP o temp heats m), .int .i64 (hiP o temp heats m)] 28 (0, 0))) W (fun b e => by omega)
        (fun m A B hA hk => (hk.2 _ (Array.getElem?_eq_some_iff.1 hA).1 (fun e => by omega)).trans hA) h0
        (fun m A B v ss hm hA hB hown hl hmem => (oven1_any (w.heap.size + 1 + 1) B m v ss ⟨loP o temp heats m, hiP o temp heats m⟩ A hA hown hl (by omega)).mono (by
          rintro e A' ⟨rfl, h1, h2⟩
          obtain ⟨e1, e2⟩ := loP_step o temp heats t1 m ss hmem
          refine ⟨rfl, ?_, h2⟩
          rw [← e1, ← e2]
          exact h1))
    have HFO := Lib.hid hfo
    clear e1 hx hsp hfo
    go_enter Tryz.func27, Tryz.ntmps27
    go_wp2_with fail
    refine (hs _).mono ?_
    rintro e w1 ⟨rfl, E1⟩
    obtain ⟨b1, b2⟩ := oven_boxes E1
    have EW := E1.old.old.old
    have q0 := box_at (v := .int .i64 o.low) E1.old.old 0 rfl
    have q1 := box_at (v := .int .i64 o.high) E1.old.old 1 rfl
    have q2 := box_at (v := .int .i64 o.warm.lo) E1.old.old 2 rfl
    have q3 := box_at (v := .int .i64 o.warm.hi) E1.old.old 3 rfl
    have q4 := box_at (v := .int .i64 o.cool.lo) E1.old.old 4 rfl
    have q5 := box_at (v := .int .i64 o.cool.hi) E1.old.old 5 rfl
    have t0 := blk_cell b1 0 (v := .int .i64 temp.lo) rfl
    have t1 := blk_cell b1 1 (v := .int .i64 temp.hi) rfl
    have f0 := blk_free b2 0
    have f1 := blk_free b2 1
    have s0 := blk_cell b2 0 (v := .int .i64 0) rfl
    have s1 := blk_cell b2 1 (v := .int .i64 0) rfl
    have hlt := (Array.getElem?_eq_some_iff.1 b2).1
    have hz1 := heap_setCell_same w1 (w.heap.size + 1 + 1) 0 _ _ (.int .i64 temp.lo) b2
    have hz2 := heap_setCell_same _ (w.heap.size + 1 + 1) 1 _ _ (.int .i64 temp.hi) hz1
    have hfw := HFO.out ((w1.setCell ⟨w.heap.size + 1 + 1, 0, none⟩ (.int .i64 temp.lo)).setCell ⟨w.heap.size + 1 + 1, 1, none⟩ (.int .i64 temp.hi)) (by simpa using hlt) (by simpa using hz2)
    have EW2 : Ext w ((w1.setCell ⟨w.heap.size + 1 + 1, 0, none⟩ (.int .i64 temp.lo)).setCell ⟨w.heap.size + 1 + 1, 1, none⟩ (.int .i64 temp.hi)) := (EW.setCell (p := ⟨w.heap.size + 1 + 1, 0, none⟩) (by show w.heap.size ≤ w.heap.size + 1 + 1; omega) _).setCell (p := ⟨w.heap.size + 1 + 1, 1, none⟩) (by show w.heap.size ≤ w.heap.size + 1 + 1; omega) _
    have HE2 := Lib.hid EW2
    clear E1 b1 b2 hz1 hz2 EW EW2 hs
    go_wp2_with fail
    refine hfw.mono ?_
    rintro e w3 ⟨rfl, K3, k, hk, _, hgk, hJ⟩
    obtain rfl : k = M := hgk.elim (fun h => by cases h) id
    have hJ' : w3.heap[w.heap.size + 1 + 1]? = some (.cells #[.int .i64 (loO o temp heats k), .int .i64 (hiO o temp heats k)] 28 (0, 0)) := hJ
    have E3 := ext_kp HE2.out K3 (fun b e => by omega)
    have g0 := blk_cell hJ' 0 (v := .int .i64 (loO o temp heats k)) rfl
    have g1 := blk_cell hJ' 1 (v := .int .i64 (hiO o temp heats k)) rfl
    have y0 := blk_free hJ' 0
    have y1 := blk_free hJ' 1
    clear t0 t1 s0 s1 f0 f1 q0 q1 q2 q3 q4 q5 hfw K3 hgk hJ hJ' HFO
    go_wp2
    refine bodyPost_ret (v := .tuple #[.agg #[.int .i64 (loO o temp heats k), .int .i64 (hiO o temp heats k)], .int .i64 0]) (by simp [results, Tryz.results27, go_sem, g0, g1, y0, y1]) rfl ⟨rfl, ?_⟩
    exact (E3.setCell (p := ⟨w.heap.size + 1 + 1, 0, none⟩) (by show w.heap.size ≤ w.heap.size + 1 + 1; omega) _).setCell (p := ⟨w.heap.size + 1 + 1, 1, none⟩) (by show w.heap.size ≤ w.heap.size + 1 + 1; omega) _
  · have e1 : ovenE o temp heats minutes = (⟨0, 0⟩, ovenX o temp minutes) := by unfold ovenE; rw [if_neg hx]
    rw [e1]
    obtain ⟨x, hxx⟩ : ∃ x, ovenX o temp minutes = x := ⟨_, rfl⟩
    rw [hxx] at hx hs ⊢
    clear e1 hxx
    go_enter Tryz.func27, Tryz.ntmps27
    go_wp2_with fail
    refine (hs _).mono ?_
    rintro e w1 ⟨rfl, E1⟩
    obtain ⟨b1, b2⟩ := oven_boxes E1
    have EW := E1.old.old.old
    have f0 := blk_free b2 0
    have f1 := blk_free b2 1
    have g0 := blk_cell b2 0 (v := .int .i64 0) rfl
    have g1 := blk_cell b2 1 (v := .int .i64 0) rfl
    clear E1 b1 b2
    go_wp2
    refine bodyPost_ret (v := .tuple #[.agg #[.int .i64 0, .int .i64 0], .int .i64 x]) (by simp [results, Tryz.results27, go_sem, g0, g1, f0, f1]) rfl ⟨rfl, ?_⟩
    exact (EW.setCell (p := ⟨w.heap.size + 1 + 1, 0, none⟩) (by show w.heap.size ≤ w.heap.size + 1 + 1; omega) _).setCell (p := ⟨w.heap.size + 1 + 1, 1, none⟩) (by show w.heap.size ≤ w.heap.size + 1 + 1; omega) _
end Go.Proofs.YtbcciokmlkofkaaGreat

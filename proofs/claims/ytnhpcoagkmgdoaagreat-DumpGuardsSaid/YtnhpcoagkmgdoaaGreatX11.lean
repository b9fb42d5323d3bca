import Derived.Test.YtnhpcoagkmgdoaaGreatX9
import Derived.Test.YtnhpcoagkmgdoaaGreatX10
set_option linter.unusedVariables false
set_option linter.unusedSimpArgs false
/- What the loops of the program's Read hold: two boxes with rows of ints, two boxes of ints, the right rows. -/
namespace Go.Q
open Go.RowKit
theorem i64_or64 (n x : Int) (h0 : 0 ≤ n) (h1 : n ≤ 4294967296) (h2 : 0 ≤ x) (h3 : x ≤ 63) : bits .or .i64 (n * 64) x = n * 64 + x :=
 bits_join .i64 62 (by decide) (fun n h0 h1 => by rw [IntKind.wrap_i64]; omega) 6 (n * 64) x (by omega) (by omega) (by omega) (by omega) (by omega) (by omega)
end Go.Q
namespace Go.Proofs.YtnhpcoagkmgdoaaGreat
open Go.RowKit Go.Q Go.Shelf Go.Joins
/-- what turns: the boxes, the right rows, what is new -/
def M4 (B g : Nat) (P : Nat → Prop) (q : Nat) : Prop := (B ≤ q ∧ q < B + 4) ∨ q = g ∨ P q
/-- the block of a row is one of P -/
def OwnS (P : Nat → Prop) (v : Value) : Prop := ∀ b, v.ownBlock = some b → P b
def Rd (B g n cr : Nat) (P : Nat → Prop) (X : World) (rt : List Nat) (ms ws : List Int) : Prop :=
 ∃ ma mc wa wc, R3 (B + 4) 5 3 X (.slice (some ⟨g, 0, none⟩) n cr) (.slice ma ms.length mc) (.slice wa ws.length wc) (natI rt) ms ws ∧ rt.length = n ∧
  Boxed X B 22 (.slice wa ws.length wc) ∧ Boxed X (B + 1) 22 (.slice ma ms.length mc) ∧ Boxed X (B + 2) 3 (.int .i64 0) ∧ Boxed X (B + 3) 26 (.int .i64 0) ∧
  OwnS P (.slice ma ms.length mc) ∧ OwnS P (.slice wa ws.length wc)
theorem Rd.ext {B g n cr : Nat} {P : Nat → Prop} {X Y : World} {rt : List Nat} {ms ws : List Int} (h : Rd B g n cr P X rt ms ws) (E : Ext X Y) : Rd B g n cr P Y rt ms ws := by
 obtain ⟨ma, mc, wa, wc, h1, hl, h2, h3, h4, h5, h6⟩ := h
 have kb : ∀ {b : Nat} {t : TypeId} {v : Value}, Boxed X b t v → Boxed Y b t v := fun hb => (E.block _ hb.lt).trans hb
 exact ⟨ma, mc, wa, wc, h1.ext E, hl, kb h2, kb h3, kb h4, kb h5, h6⟩
theorem own_turn {w : World} {B t sz n b : Nat} {v : Value} {xs : List Value} {o o' : Obj} (h : w.ownsRow B t sz v n xs) (ho : w.heap[b]? = some o) (hc : o.isCells = false) : (w.putObj b o').ownsRow B t sz v n xs := by
 refine ⟨h.1, ?_⟩
 rcases h.2 with h2 | ⟨g, cap, cur, rfl, hb, hg, r⟩
 ·exact .inl h2
 ·refine .inr ⟨g, cap, cur, rfl, hb, (World.putObj_heap_other fun e => ?_).trans hg, r⟩
  rw [e, ho] at hg
  rw [Option.some.inj hg] at hc
  cases hc
theorem box_turn {w : World} {b c : Nat} {t : TypeId} {v : Value} {o o' : Obj} (h : Boxed w c t v) (ho : w.heap[b]? = some o) (hc : o.isCells = false) : Boxed (w.putObj b o') c t v :=
 (World.putObj_heap_other fun e => by
  have h2 : w.heap[c]? = some (.cells #[v] t (0, 0)) := h
  rw [e, ho] at h2
  rw [Option.some.inj h2] at hc
  cases hc).trans h
theorem Rd.turn {B g n cr b : Nat} {P : Nat → Prop} {X : World} {rt : List Nat} {ms ws : List Int} {o o' : Obj} (h : Rd B g n cr P X rt ms ws) (ho : X.heap[b]? = some o) (hc : o.isCells = false) : Rd B g n cr P (X.putObj b o') rt ms ws := by
 obtain ⟨ma, mc, wa, wc, h1, hl, h2, h3, h4, h5, h6⟩ := h
 exact ⟨ma, mc, wa, wc, ⟨own_turn h1.r7 ho hc, own_turn h1.r8 ho hc, own_turn h1.r9 ho hc, h1.a78, h1.a79, h1.a89⟩, hl, box_turn h2 ho hc, box_turn h3 ho hc, box_turn h4 ho hc, box_turn h5 ho hc, h6⟩
theorem Rd.g_lt {B g n cr : Nat} {P : Nat → Prop} {X : World} {rt : List Nat} {ms ws : List Int} (h : Rd B g n cr P X rt ms ws) : B + 4 ≤ g ∧ g < X.heap.size := by
 obtain ⟨ma, mc, wa, wc, h1, _⟩ := h
 have h7 := h1.r7
 exact h7.lt g rfl
theorem r3_own7 {B g n cr : Nat} {X : World} {rt : List Nat} {s8 s9 : Value} {ms ws : List Int} (h1 : R3 B 5 3 X (.slice (some ⟨g, 0, none⟩) n cr) s8 s9 (natI rt) ms ws) (hln : rt.length = n) : X.ownsRow B 5 1 (.slice (some ⟨g, 0, none⟩) n cr) n (ub (natI rt)) := by
 have h7 := h1.r7
 rw [natI_length, hln] at h7
 exact h7
theorem Rd.bytes {B g n cr : Nat} {P : Nat → Prop} {X : World} {rt : List Nat} {ms ws : List Int} (h : Rd B g n cr P X rt ms ws) {lo k : Nat} (hl : lo + k ≤ n) : BytesAt X (some ⟨g, lo, none⟩) (natI ((rt.drop lo).take k)) := by
 obtain ⟨ma, mc, wa, wc, h1, hln, _⟩ := h
 have := sub_u8s (lo := lo) (k := k) (own_bytes (r3_own7 h1 hln)) (by rw [hln]; exact hl)
 rwa [Nat.zero_add] at this
theorem Rd.free {B g n cr : Nat} {P : Nat → Prop} {X : World} {rt : List Nat} {ms ws : List Int} (h : Rd B g n cr P X rt ms ws) (j : Nat) : X.frozen? ⟨g, j, none⟩ = false := by
 obtain ⟨ma, mc, wa, wc, h1, hln, _⟩ := h
 rcases h1.r7.2 with ⟨h2, _⟩ | ⟨g', cap, cur, h2, _, hg, _⟩
 ·cases h2
 ·cases h2
  exact blk_free hg j
theorem box_set_far {w : World} {b c o : Nat} {t : TypeId} {v u : Value} (h : Boxed w c t v) (hne : c ≠ b) : Boxed (w.setCell ⟨b, o, none⟩ u) c t v := (Below.heap_setCell _ _ _ _ (show c ≠ (⟨b, o, none⟩ : Addr).block from hne)).trans h
theorem Rd.mend {B g n cr : Nat} {P : Nat → Prop} {X : World} {rt : List Nat} {ms ws : List Int} (h : Rd B g n cr P X rt ms ws) (j v : Nat) : Rd B g n cr P (X.setCell ⟨g, j, none⟩ (.int .u8 (v : Int))) (rt.set j v) ms ws := by
 have hg := h.g_lt
 obtain ⟨ma, mc, wa, wc, h1, hln, h2, h3, h4, h5, h6⟩ := h
 have hs := h1.set7 (by rw [natI_length]; exact hln) j v
 exact ⟨ma, mc, wa, wc, by rw [natI_set]; exact hs, by rw [List.length_set]; exact hln, box_set_far h2 (by omega), box_set_far h3 (by omega), box_set_far h4 (by omega), box_set_far h5 (by omega), h6⟩
theorem kpm_set {M : Nat → Prop} (W : World) (b o : Nat) (v : Value) (hm : M b) : KpM M W (W.setCell ⟨b, o, none⟩ v) :=
 ⟨by simp, fun x _ hn => Below.heap_setCell _ _ _ _ (fun e => hn (by rw [show x = b from e]; exact hm)), ((Below.refl 0 W).setCell (p := ⟨b, o, none⟩) (Nat.zero_le _) v).os, ((Below.refl 0 W).setCell (p := ⟨b, o, none⟩) (Nat.zero_le _) v).tape, ((Below.refl 0 W).setCell (p := ⟨b, o, none⟩) (Nat.zero_le _) v).output⟩
theorem far_row {B b : Nat} {u : Value} (hu : ∀ q, u.ownBlock = some q → B + 4 ≤ q) (hb : b < B + 4) : u.ownBlock = none ∨ u.ownBlock ≠ some b := by
 cases e : u.ownBlock with
 | none => exact .inl rfl
 | some q => exact .inr fun h => by injection h with h; have := hu q e; omega
theorem own_keeps {X w1 : World} {B t n : Nat} {v : Value} {xs : List Value} {tmp : Obj} (h : (X.alloc tmp).ownsRow B t 1 v n xs) (hgrow : (X.alloc tmp).grownBy w1 v.ownBlock) : KeepsOthers X w1 := by
 refine (KeepsOthers.alloc X tmp).trans (KeepsOthers.of_grownBy hgrow fun j o ej hj => ?_)
 rcases h.2 with ⟨e, _⟩ | ⟨g, cap, cur, e, _, hgb, _⟩
 ·rw [e] at ej; simp [Value.ownBlock] at ej
 ·rw [e] at ej
  obtain rfl : g = j := by simpa [Value.ownBlock] using ej
  rw [hgb] at hj; cases hj; rfl
theorem own_len {w : World} {B t n : Nat} {v : Value} {xs : List Value} (h : w.ownsRow B t 1 v (n + 1) xs) : ∃ a' c', v = .slice a' (n + 1) c' := by
 rcases h.2 with ⟨_, e⟩ | ⟨g, cap, cur, e, _⟩
 ·omega
 ·exact ⟨_, _, e⟩
/-- behind the append of a word and the store -/
theorem Rd.word {B g n cr : Nat} {P : Nat → Prop} {X w1 : World} {rt : List Nat} {ms ws : List Int} {x : Int} {v' : Value} {tmp : Obj} {ma wa : Option Addr} {mc wc : Nat}
  (h1 : R3 (B + 4) 5 3 X (.slice (some ⟨g, 0, none⟩) n cr) (.slice ma ms.length mc) (.slice wa ws.length wc) (natI rt) ms ws) (hln : rt.length = n)
  (h2 : Boxed X B 22 (.slice wa ws.length wc)) (h3 : Boxed X (B + 1) 22 (.slice ma ms.length mc)) (h4 : Boxed X (B + 2) 3 (.int .i64 0)) (h5 : Boxed X (B + 3) 26 (.int .i64 0))
  (h6 : OwnS P (.slice ma ms.length mc) ∧ OwnS P (.slice wa ws.length wc)) (hP : ∀ b, X.heap.size ≤ b → P b)
  (hown : w1.ownsRow (B + 4) 3 1 v' (ws.length + 1) (iv ws ++ [.int .i64 x])) (hgrow : (X.alloc tmp).grownBy w1 (Value.slice wa ws.length wc).ownBlock) (hat : v'.ownBlock = (Value.slice wa ws.length wc).ownBlock ∨ v'.ownBlock = some (X.alloc tmp).heap.size) :
  Boxed w1 B 22 (.slice wa ws.length wc) ∧ Rd B g n cr P (w1.setCell ⟨B, 0, none⟩ v') rt ms (ws ++ [x]) ∧ KeepsOthers X (w1.setCell ⟨B, 0, none⟩ v') ∧ KpM (M4 B g P) X (w1.setCell ⟨B, 0, none⟩ v') := by
 have hbr : ∀ b, (Value.slice wa ws.length wc).ownBlock = some b → B + 4 ≤ b := fun b e => (h1.r9.lt b e).1
 have kb : ∀ {b : Nat} {t : TypeId} {v : Value}, Boxed X b t v → b < B + 4 → Boxed w1 b t v := fun hb hlt => (hb.alloc tmp).kept hgrow (fun e => by have := hbr _ e.symm; omega)
 have hv1 := kb h2 (by omega)
 obtain ⟨a', c', rfl⟩ := own_len hown
 have hl : (ws ++ [x]).length = ws.length + 1 := by simp
 have h1a := h1.ext ((Ext.refl X).alloc tmp)
 have h9 := h1a.app9 hown hgrow hat
 have g1 := grownBy_setCell' w1 B (.slice a' (ws.length + 1) c')
 refine ⟨hv1, ⟨ma, mc, a', c', ?_, hln, ?_, ?_, ?_, ?_, h6.1, ?_⟩, (own_keeps h1a.r9 hgrow).trans (KeepsOthers.setCell _ _ _), ?_⟩
 ·rw [hl]
  exact ⟨h9.r7.kept g1 (far_row (fun b e => (h1.r7.lt b e).1) (by omega)), h9.r8.kept g1 (far_row (fun b e => (h1.r8.lt b e).1) (by omega)), by
   have := h9.r9.kept g1 (far_row (fun b e => (hown.lt b e).1) (by omega)); exact this, h9.a78, h9.a79, h9.a89⟩
 ·rw [hl]; exact hv1.set _
 ·exact box_set_far (kb h3 (by omega)) (by omega)
 ·exact box_set_far (kb h4 (by omega)) (by omega)
 ·exact box_set_far (kb h5 (by omega)) (by omega)
 ·rw [hl]
  intro b e
  rcases hat with q | q
  ·exact h6.2 b (by rw [← q]; exact e)
  ·rw [q] at e; injection e with e; rw [← e, World.size_alloc]; exact hP _ (Nat.le_succ _)
 ·refine (KpM.of_ext ((Ext.refl X).alloc tmp)).trans (KpM.trans ⟨hgrow.size, fun b hb hn => hgrow.block b hb fun e => ?_, hgrow.os, hgrow.tape, hgrow.output⟩ (kpm_set w1 B 0 _ (.inl ⟨Nat.le_refl _, by omega⟩)))
  exact hn (.inr (.inr (h6.2 b e.symm)))
/-- behind the append of a mended row and the store -/
theorem Rd.row {B g n cr : Nat} {P : Nat → Prop} {X w1 : World} {rt : List Nat} {ms ws : List Int} {x : Int} {v' : Value} {tmp : Obj} {ma wa : Option Addr} {mc wc : Nat}
  (h1 : R3 (B + 4) 5 3 X (.slice (some ⟨g, 0, none⟩) n cr) (.slice ma ms.length mc) (.slice wa ws.length wc) (natI rt) ms ws) (hln : rt.length = n)
  (h2 : Boxed X B 22 (.slice wa ws.length wc)) (h3 : Boxed X (B + 1) 22 (.slice ma ms.length mc)) (h4 : Boxed X (B + 2) 3 (.int .i64 0)) (h5 : Boxed X (B + 3) 26 (.int .i64 0))
  (h6 : OwnS P (.slice ma ms.length mc) ∧ OwnS P (.slice wa ws.length wc)) (hP : ∀ b, X.heap.size ≤ b → P b)
  (hown : w1.ownsRow (B + 4) 3 1 v' (ms.length + 1) (iv ms ++ [.int .i64 x])) (hgrow : (X.alloc tmp).grownBy w1 (Value.slice ma ms.length mc).ownBlock) (hat : v'.ownBlock = (Value.slice ma ms.length mc).ownBlock ∨ v'.ownBlock = some (X.alloc tmp).heap.size) :
  Boxed w1 (B + 1) 22 (.slice ma ms.length mc) ∧ Rd B g n cr P (w1.setCell ⟨B + 1, 0, none⟩ v') rt (ms ++ [x]) ws ∧ KeepsOthers X (w1.setCell ⟨B + 1, 0, none⟩ v') ∧ KpM (M4 B g P) X (w1.setCell ⟨B + 1, 0, none⟩ v') := by
 have hbr : ∀ b, (Value.slice ma ms.length mc).ownBlock = some b → B + 4 ≤ b := fun b e => (h1.r8.lt b e).1
 have kb : ∀ {b : Nat} {t : TypeId} {v : Value}, Boxed X b t v → b < B + 4 → Boxed w1 b t v := fun hb hlt => (hb.alloc tmp).kept hgrow (fun e => by have := hbr _ e.symm; omega)
 have hv1 := kb h3 (by omega)
 obtain ⟨a', c', rfl⟩ := own_len hown
 have hl : (ms ++ [x]).length = ms.length + 1 := by simp
 have h1a := h1.ext ((Ext.refl X).alloc tmp)
 have h9 := h1a.app8 hown hgrow hat
 have g1 := grownBy_setCell' w1 (B + 1) (.slice a' (ms.length + 1) c')
 refine ⟨hv1, ⟨a', c', wa, wc, ?_, hln, ?_, ?_, ?_, ?_, ?_, h6.2⟩, (own_keeps h1a.r8 hgrow).trans (KeepsOthers.setCell _ _ _), ?_⟩
 ·rw [hl]
  exact ⟨h9.r7.kept g1 (far_row (fun b e => (h1.r7.lt b e).1) (by omega)), by
   have := h9.r8.kept g1 (far_row (fun b e => (hown.lt b e).1) (by omega)); exact this, h9.r9.kept g1 (far_row (fun b e => (h1.r9.lt b e).1) (by omega)), h9.a78, h9.a79, h9.a89⟩
 ·exact box_set_far (kb h2 (by omega)) (by omega)
 ·rw [hl]; exact hv1.set _
 ·exact box_set_far (kb h4 (by omega)) (by omega)
 ·exact box_set_far (kb h5 (by omega)) (by omega)
 ·rw [hl]
  intro b e
  rcases hat with q | q
  ·exact h6.1 b (by rw [← q]; exact e)
  ·rw [q] at e; injection e with e; rw [← e, World.size_alloc]; exact hP _ (Nat.le_succ _)
 ·refine (KpM.of_ext ((Ext.refl X).alloc tmp)).trans (KpM.trans ⟨hgrow.size, fun b hb hn => hgrow.block b hb fun e => ?_, hgrow.os, hgrow.tape, hgrow.output⟩ (kpm_set w1 (B + 1) 0 _ (.inl ⟨by omega, by omega⟩)))
  exact hn (.inr (.inr (h6.1 b e.symm)))
/-- the four results stored -/
theorem four_set {B g : Nat} {P : Nat → Prop} {X : World} {t0 t1 t2 t3 : TypeId} {a0 a1 a2 a3 : Value} (v0 v1 v2 v3 : Value) (b0 : Boxed X B t0 a0) (b1 : Boxed X (B + 1) t1 a1) (b2 : Boxed X (B + 2) t2 a2) (b3 : Boxed X (B + 3) t3 a3) :
  (Boxed ((((X.setCell ⟨B, 0, none⟩ v0).setCell ⟨B + 1, 0, none⟩ v1).setCell ⟨B + 2, 0, none⟩ v2).setCell ⟨B + 3, 0, none⟩ v3) B t0 v0 ∧ Boxed ((((X.setCell ⟨B, 0, none⟩ v0).setCell ⟨B + 1, 0, none⟩ v1).setCell ⟨B + 2, 0, none⟩ v2).setCell ⟨B + 3, 0, none⟩ v3) (B + 1) t1 v1 ∧
   Boxed ((((X.setCell ⟨B, 0, none⟩ v0).setCell ⟨B + 1, 0, none⟩ v1).setCell ⟨B + 2, 0, none⟩ v2).setCell ⟨B + 3, 0, none⟩ v3) (B + 2) t2 v2 ∧ Boxed ((((X.setCell ⟨B, 0, none⟩ v0).setCell ⟨B + 1, 0, none⟩ v1).setCell ⟨B + 2, 0, none⟩ v2).setCell ⟨B + 3, 0, none⟩ v3) (B + 3) t3 v3) ∧
  KeepsOthers X ((((X.setCell ⟨B, 0, none⟩ v0).setCell ⟨B + 1, 0, none⟩ v1).setCell ⟨B + 2, 0, none⟩ v2).setCell ⟨B + 3, 0, none⟩ v3) ∧ KpM (M4 B g P) X ((((X.setCell ⟨B, 0, none⟩ v0).setCell ⟨B + 1, 0, none⟩ v1).setCell ⟨B + 2, 0, none⟩ v2).setCell ⟨B + 3, 0, none⟩ v3) := by
 have m0 : M4 B g P B := .inl (by omega)
 have m1 : M4 B g P (B + 1) := .inl (by omega)
 have m2 : M4 B g P (B + 2) := .inl (by omega)
 have m3 : M4 B g P (B + 3) := .inl (by omega)
 refine ⟨⟨?_, ?_, ?_, ?_⟩, (((KeepsOthers.setCell _ _ _).trans (KeepsOthers.setCell _ _ _)).trans (KeepsOthers.setCell _ _ _)).trans (KeepsOthers.setCell _ _ _), (((kpm_set _ _ _ _ m0).trans (kpm_set _ _ _ _ m1)).trans (kpm_set _ _ _ _ m2)).trans (kpm_set _ _ _ _ m3)⟩
 ·exact box_set_far (box_set_far (box_set_far (b0.set v0) (by omega)) (by omega)) (by omega)
 ·exact box_set_far (box_set_far ((box_set_far b1 (by omega)).set v1) (by omega)) (by omega)
 ·exact box_set_far ((box_set_far (box_set_far b2 (by omega)) (by omega)).set v2) (by omega)
 ·exact (box_set_far (box_set_far (box_set_far b3 (by omega)) (by omega)) (by omega)).set v3
theorem end4 {B D : Nat} {t0 t1 t2 t3 : TypeId} {v0 v1 v2 v3 : Value} {w V Y : World} (h : Boxed Y B t0 v0 ∧ Boxed Y (B + 1) t1 v1 ∧ Boxed Y (B + 2) t2 v2 ∧ Boxed Y (B + 3) t3 v3) (hdef : V.heap[D]? = some (.deferred (some []))) (K : KeepsOthers V Y) (E : Ext w Y) (hD : w.heap.size ≤ D) :
  Y.heap[D]? = some (.deferred (some [])) ∧ ((Y.putObj D (.deferred none)).cell? ⟨B, 0, none⟩ = some v0 ∧ (Y.putObj D (.deferred none)).cell? ⟨B + 1, 0, none⟩ = some v1 ∧ (Y.putObj D (.deferred none)).cell? ⟨B + 2, 0, none⟩ = some v2 ∧ (Y.putObj D (.deferred none)).cell? ⟨B + 3, 0, none⟩ = some v3) ∧ Ext w (Y.putObj D (.deferred none)) := by
 have hd := K.same D _ hdef rfl
 obtain ⟨h0, h1, h2, h3⟩ := h
 exact ⟨hd, ⟨(box_turn h0 hd rfl).cell, (box_turn h1 hd rfl).cell, (box_turn h2 hd rfl).cell, (box_turn h3 hd rfl).cell⟩, (KpM.put (M := fun q => q = D) Y D _ rfl).below E (Nat.le_refl _) (fun b e => by rw [e]; exact hD)⟩
theorem ints_far {W : World} {g off b o : Nat} {xs : List Int} {v : Value} (h : IntsAt W (some ⟨g, off, none⟩) xs) (hne : g ≠ b) : IntsAt (W.setCell ⟨b, o, none⟩ v) (some ⟨g, off, none⟩) xs := by
 rcases h with h | ⟨q, f, e, hq, hc⟩
 ·exact .inl h
 ·cases e
  exact .inr ⟨g, off, rfl, by simpa using hq, fun i hi => (World.cell?_of_block (w := W) (a := ⟨g, off + i, none⟩) (Below.heap_setCell _ _ _ _ hne)).trans (hc i hi)⟩
theorem bytes_far {W : World} {g off b o : Nat} {xs : List Int} {v : Value} (h : BytesAt W (some ⟨g, off, none⟩) xs) (hne : g ≠ b) : BytesAt (W.setCell ⟨b, o, none⟩ v) (some ⟨g, off, none⟩) xs := by
 rcases h with h | ⟨q, f, e, hq, hc⟩
 ·exact .inl h
 ·cases e
  exact .inr ⟨g, off, rfl, by simpa using hq, fun i hi => (World.cell?_of_block (w := W) (a := ⟨g, off + i, none⟩) (Below.heap_setCell _ _ _ _ hne)).trans (hc i hi)⟩
theorem ints_kp {M : Nat → Prop} {W Y : World} {a : Option Addr} {xs : List Int} (h : IntsAt W a xs) (k : KpM M W Y) (hn : ∀ b, a.map (·.block) = some b → ¬ M b) : IntsAt Y a xs := by
 rcases h with h | ⟨q, f, e, hq, hc⟩
 ·exact .inl h
 ·subst e
  exact .inr ⟨q, f, rfl, Nat.lt_of_lt_of_le hq k.size, fun i hi => (k.cell hq (hn q rfl)).trans (hc i hi)⟩
theorem Rd.narrow {B g n cr : Nat} {P P' : Nat → Prop} {X : World} {rt : List Nat} {ms ws : List Int} (h : Rd B g n cr P X rt ms ws) (hp : ∀ b, P b → b < X.heap.size → P' b) : Rd B g n cr P' X rt ms ws := by
 obtain ⟨ma, mc, wa, wc, h1, hl, h2, h3, h4, h5, h6, h7⟩ := h
 exact ⟨ma, mc, wa, wc, h1, hl, h2, h3, h4, h5, fun b e => hp b (h6 b e) (h1.r8.lt b e).2, fun b e => hp b (h7 b e) (h1.r9.lt b e).2⟩
theorem M4.mono {B g : Nat} {P P' : Nat → Prop} (h : ∀ b, P b → P' b) (q : Nat) : M4 B g P q → M4 B g P' q := fun hq => hq.imp id fun h2 => h2.imp id (h q)
end Go.Proofs.YtnhpcoagkmgdoaaGreat

import Derived.BigQuiet
import Derived.Test.YtnhpcoagkmgdoaaX19
import Derived.Test.YtnhpcoagkmgdoaaX20
import Derived.Test.YtnhpcoagkmgdoaaX7
set_option linter.unusedVariables false
set_option linter.unusedSimpArgs false
/- Layer 10: a machine with losses, in memory. -/
namespace Go.Proofs.Ytnhpcoagkmgdoaa
open Go.RowKit Go.Q Go.Shelf Go.Maps
/-- numbers that an int can be -/
structure I64 where
 val : Int
 ok : -9223372036854775808 ≤ val ∧ val ≤ 9223372036854775807
deriving DecidableEq
theorem I64.same {x y : I64} (h : x.1 = y.1) : x = y := by
 cases x; cases y
 cases h
 rfl
def encI (x : I64) : Value := .int .i64 x.1
theorem keyI : KeyEnc Try.prog 3 encI :=
 ⟨int_keyed Try.underlying3, fun x => ⟨_, keyOf_int_mk Try.underlying3 (WalkArith.wf_i64 (by have := x.2; omega))⟩, fun x y h => by
  unfold encI at h
  injection h with _ h
  exact I64.same h⟩
/-- the losses L lie from a on -/
def LossAt (w : World) (a : Option Addr) (L : List Loss) : Prop :=
 L = [] ∨ ∃ b off, a = some ⟨b, off, none⟩ ∧ b < w.heap.size ∧ ∀ i, i < L.length → w.cell? ⟨b, off + i * 3, none⟩ = some (.int .i64 (L[i]?.getD ⟨0, 0, 0⟩).after) ∧ w.cell? ⟨b, off + i * 3 + 1, none⟩ = some (.int .i64 (L[i]?.getD ⟨0, 0, 0⟩).addr) ∧ w.cell? ⟨b, off + i * 3 + 2, none⟩ = some (.int .i64 (L[i]?.getD ⟨0, 0, 0⟩).bit)
theorem LossAt.ext {w w' : World} {a : Option Addr} {L : List Loss} (h : LossAt w a L) (E : Ext w w') : LossAt w' a L :=
 h.imp id fun ⟨b, off, ha, hb, hc⟩ => ⟨b, off, ha, Nat.lt_of_lt_of_le hb E.size, fun i hi => ⟨(E.cell (p := ⟨b, off + i * 3, none⟩) hb).trans (hc i hi).1, (E.cell (p := ⟨b, off + i * 3 + 1, none⟩) hb).trans (hc i hi).2.1, (E.cell (p := ⟨b, off + i * 3 + 2, none⟩) hb).trans (hc i hi).2.2⟩⟩
/-- a row of losses, in a block of losses -/
def LossT (w : World) (v : Value) (L : List Loss) : Prop :=
 ∃ a c, v = .slice a L.length c ∧ (L = [] ∨ ∃ b off cs fr, a = some ⟨b, off, none⟩ ∧ w.heap[b]? = some (.cells cs 61 fr) ∧ ∀ i, i < L.length → w.cell? ⟨b, off + i * 3, none⟩ = some (.int .i64 (L[i]?.getD ⟨0, 0, 0⟩).after) ∧ w.cell? ⟨b, off + i * 3 + 1, none⟩ = some (.int .i64 (L[i]?.getD ⟨0, 0, 0⟩).addr) ∧ w.cell? ⟨b, off + i * 3 + 2, none⟩ = some (.int .i64 (L[i]?.getD ⟨0, 0, 0⟩).bit))
theorem LossT.kp {M : Nat → Prop} {w w' : World} {v : Value} {L : List Loss} (h : LossT w v L) (K : KpM M w w') (hM : ∀ b cs fr, w.heap[b]? = some (.cells cs 61 fr) → ¬ M b) : LossT w' v L := by
 obtain ⟨a, c, rfl, h⟩ := h
 refine ⟨a, c, rfl, h.imp id fun ⟨b, off, cs, fr, ha, hb, hc⟩ => ?_⟩
 have hn := hM b cs fr hb
 have hl := lt_of_block hb
 exact ⟨b, off, cs, fr, ha, (K.block b hl hn).trans hb, fun i hi => ⟨(K.cell hl hn).trans (hc i hi).1, (K.cell hl hn).trans (hc i hi).2.1, (K.cell hl hn).trans (hc i hi).2.2⟩⟩
/-- block mb is the map of the losses: by g -/
def MapL (w : World) (mb : Nat) (g : Int → List Loss) : Prop := ∃ f : I64 → Option Value, MapF encI w mb f ∧ ∀ x, LossT w ((f x).getD (.slice none 0 0)) (g x.1)
theorem map_block {w : World} {mb : Nat} {f : I64 → Option Value} (h : MapF encI w mb f) : ∃ es k, w.heap[mb]? = some (.map es k) := by
 obtain ⟨es, k, h1, _⟩ := h
 exact ⟨es, k, h1⟩
theorem MapL.kp {M : Nat → Prop} {w w' : World} {mb : Nat} {g : Int → List Loss} (h : MapL w mb g) (K : KpM M w w') (hm : ¬ M mb) (hM : ∀ b cs fr, w.heap[b]? = some (.cells cs 61 fr) → ¬ M b) : MapL w' mb g := by
 obtain ⟨f, h1, h2⟩ := h
 exact ⟨f, h1.same (K.block mb h1.lt hm), fun x => (h2 x).kp K hM⟩
/-- the line's block -/
structure LnB (W : World) (m mb : Nat) (v0 v1 v2 v3 v4 v5 v6 v7 : Value) (bad : List Bool) : Prop where
 blk : ∃ cs, W.heap[m]? = some (.cells cs 128 (0, 0)) ∧ cs.size = 137 ∧ cs[0]? = some v0 ∧ cs[1]? = some v1 ∧ cs[2]? = some v2 ∧ cs[3]? = some v3 ∧ cs[4]? = some v4 ∧ cs[5]? = some v5 ∧ cs[6]? = some v6 ∧ cs[7]? = some v7 ∧ (∀ i, i < 128 → cs[8 + i]? = some (.bool (bad[i]?.getD false))) ∧ cs[136]? = some (.map (some mb))
 len : bad.length = 128
section
variable {W W' : World} {m mb : Nat} {v0 v1 v2 v3 v4 v5 v6 v7 : Value} {bad : List Bool}
theorem LnB.lt (h : LnB W m mb v0 v1 v2 v3 v4 v5 v6 v7 bad) : m < W.heap.size := by
 obtain ⟨cs, h1, _⟩ := h.blk
 exact lt_of_block h1
theorem LnB.same (h : LnB W m mb v0 v1 v2 v3 v4 v5 v6 v7 bad) (e : W'.heap[m]? = W.heap[m]?) : LnB W' m mb v0 v1 v2 v3 v4 v5 v6 v7 bad := by
 obtain ⟨cs, h1, h2⟩ := h.blk
 exact ⟨⟨cs, e.trans h1, h2⟩, h.len⟩
theorem LnB.ext (h : LnB W m mb v0 v1 v2 v3 v4 v5 v6 v7 bad) (E : Ext W W') : LnB W' m mb v0 v1 v2 v3 v4 v5 v6 v7 bad := h.same (E.block m h.lt)
theorem LnB.kp {M : Nat → Prop} (h : LnB W m mb v0 v1 v2 v3 v4 v5 v6 v7 bad) (K : KpM M W W') (hm : ¬ M m) : LnB W' m mb v0 v1 v2 v3 v4 v5 v6 v7 bad := h.same (K.block m h.lt hm)
theorem LnB.far (h : LnB W m mb v0 v1 v2 v3 v4 v5 v6 v7 bad) (p : Addr) (v : Value) (hp : m ≠ p.block) : LnB (W.setCell p v) m mb v0 v1 v2 v3 v4 v5 v6 v7 bad := h.same (Below.heap_setCell _ _ _ _ hp)
theorem LnB.free (h : LnB W m mb v0 v1 v2 v3 v4 v5 v6 v7 bad) (i : Nat) : W.frozen? ⟨m, i, none⟩ = false := by
 obtain ⟨cs, h1, _⟩ := h.blk
 exact blk_free h1 i
theorem LnB.c0 (h : LnB W m mb v0 v1 v2 v3 v4 v5 v6 v7 bad) : W.cell? ⟨m, 0, none⟩ = some v0 := by
 obtain ⟨cs, h1, h2, l0, l1, l2, l3, l4, l5, l6, l7, hb, hm⟩ := h.blk
 exact blk_cell h1 0 l0
theorem LnB.c1 (h : LnB W m mb v0 v1 v2 v3 v4 v5 v6 v7 bad) : W.cell? ⟨m, 1, none⟩ = some v1 := by
 obtain ⟨cs, h1, h2, l0, l1, l2, l3, l4, l5, l6, l7, hb, hm⟩ := h.blk
 exact blk_cell h1 1 l1
theorem LnB.c2 (h : LnB W m mb v0 v1 v2 v3 v4 v5 v6 v7 bad) : W.cell? ⟨m, 2, none⟩ = some v2 := by
 obtain ⟨cs, h1, h2, l0, l1, l2, l3, l4, l5, l6, l7, hb, hm⟩ := h.blk
 exact blk_cell h1 2 l2
theorem LnB.c3 (h : LnB W m mb v0 v1 v2 v3 v4 v5 v6 v7 bad) : W.cell? ⟨m, 3, none⟩ = some v3 := by
 obtain ⟨cs, h1, h2, l0, l1, l2, l3, l4, l5, l6, l7, hb, hm⟩ := h.blk
 exact blk_cell h1 3 l3
theorem LnB.c4 (h : LnB W m mb v0 v1 v2 v3 v4 v5 v6 v7 bad) : W.cell? ⟨m, 4, none⟩ = some v4 := by
 obtain ⟨cs, h1, h2, l0, l1, l2, l3, l4, l5, l6, l7, hb, hm⟩ := h.blk
 exact blk_cell h1 4 l4
theorem LnB.c5 (h : LnB W m mb v0 v1 v2 v3 v4 v5 v6 v7 bad) : W.cell? ⟨m, 5, none⟩ = some v5 := by
 obtain ⟨cs, h1, h2, l0, l1, l2, l3, l4, l5, l6, l7, hb, hm⟩ := h.blk
 exact blk_cell h1 5 l5
theorem LnB.c6 (h : LnB W m mb v0 v1 v2 v3 v4 v5 v6 v7 bad) : W.cell? ⟨m, 6, none⟩ = some v6 := by
 obtain ⟨cs, h1, h2, l0, l1, l2, l3, l4, l5, l6, l7, hb, hm⟩ := h.blk
 exact blk_cell h1 6 l6
theorem LnB.c7 (h : LnB W m mb v0 v1 v2 v3 v4 v5 v6 v7 bad) : W.cell? ⟨m, 7, none⟩ = some v7 := by
 obtain ⟨cs, h1, h2, l0, l1, l2, l3, l4, l5, l6, l7, hb, hm⟩ := h.blk
 exact blk_cell h1 7 l7
theorem LnB.cb (h : LnB W m mb v0 v1 v2 v3 v4 v5 v6 v7 bad) (i : Nat) (hi : i < 128) : W.cell? ⟨m, 8 + i, none⟩ = some (.bool (bad[i]?.getD false)) := by
 obtain ⟨cs, h1, h2, l0, l1, l2, l3, l4, l5, l6, l7, hb, hm⟩ := h.blk
 exact blk_cell h1 _ (hb i hi)
theorem LnB.cm (h : LnB W m mb v0 v1 v2 v3 v4 v5 v6 v7 bad) : W.cell? ⟨m, 136, none⟩ = some (.map (some mb)) := by
 obtain ⟨cs, h1, h2, l0, l1, l2, l3, l4, l5, l6, l7, hb, hm⟩ := h.blk
 exact blk_cell h1 136 hm
theorem LnB.setb (h : LnB W m mb v0 v1 v2 v3 v4 v5 v6 v7 bad) (i : Nat) (hi : i < 128) (b : Bool) : LnB (W.setCell ⟨m, 8 + i, none⟩ (.bool b)) m mb v0 v1 v2 v3 v4 v5 v6 v7 (bad.set i b) := by
 obtain ⟨cs, h1, h2, l0, l1, l2, l3, l4, l5, l6, l7, hb, hm⟩ := h.blk
 have hl := h.len
 have hs := cells_set h1 (8 + i) (.bool b)
 refine ⟨⟨_, hs, by simpa using h2, (by rw [Array.getElem?_setIfInBounds_ne (by omega)]; exact l0), (by rw [Array.getElem?_setIfInBounds_ne (by omega)]; exact l1), (by rw [Array.getElem?_setIfInBounds_ne (by omega)]; exact l2), (by rw [Array.getElem?_setIfInBounds_ne (by omega)]; exact l3), (by rw [Array.getElem?_setIfInBounds_ne (by omega)]; exact l4), (by rw [Array.getElem?_setIfInBounds_ne (by omega)]; exact l5), (by rw [Array.getElem?_setIfInBounds_ne (by omega)]; exact l6), (by rw [Array.getElem?_setIfInBounds_ne (by omega)]; exact l7), fun j hj => ?_, by rw [Array.getElem?_setIfInBounds_ne (by omega)]; exact hm⟩, by rw [List.length_set]; exact hl⟩
 by_cases e : i = j
 ·subst e
  rw [Array.getElem?_setIfInBounds_self_of_lt (by omega), List.getElem?_set_self (by omega)]
  rfl
 ·rw [Array.getElem?_setIfInBounds_ne (by omega), List.getElem?_set_ne e]
  exact hb j hj
theorem LnB.set8 (h : LnB W m mb v0 v1 v2 v3 v4 v5 v6 v7 bad) (n0 n1 n2 n3 n4 n5 n6 n7 : Value) : LnB (S8 W m n0 n1 n2 n3 n4 n5 n6 n7) m mb n0 n1 n2 n3 n4 n5 n6 n7 bad := by
 obtain ⟨cs, h1, h2, l0, l1, l2, l3, l4, l5, l6, l7, hb, hm⟩ := h.blk
 have hl := h.len
 have := cells_set (cells_set (cells_set (cells_set (cells_set (cells_set (cells_set (cells_set h1 0 n0) 1 n1) 2 n2) 3 n3) 4 n4) 5 n5) 6 n6) 7 n7
 refine ⟨⟨_, this, by simpa using h2, ?_, ?_, ?_, ?_, ?_, ?_, ?_, ?_, fun j hj => ?_, ?_⟩, hl⟩
 ·rw [Array.getElem?_setIfInBounds_ne (by omega), Array.getElem?_setIfInBounds_ne (by omega), Array.getElem?_setIfInBounds_ne (by omega), Array.getElem?_setIfInBounds_ne (by omega), Array.getElem?_setIfInBounds_ne (by omega), Array.getElem?_setIfInBounds_ne (by omega), Array.getElem?_setIfInBounds_ne (by omega), Array.getElem?_setIfInBounds_self_of_lt (by first | omega | (simp; omega))]
 ·rw [Array.getElem?_setIfInBounds_ne (by omega), Array.getElem?_setIfInBounds_ne (by omega), Array.getElem?_setIfInBounds_ne (by omega), Array.getElem?_setIfInBounds_ne (by omega), Array.getElem?_setIfInBounds_ne (by omega), Array.getElem?_setIfInBounds_ne (by omega), Array.getElem?_setIfInBounds_self_of_lt (by first | omega | (simp; omega))]
 ·rw [Array.getElem?_setIfInBounds_ne (by omega), Array.getElem?_setIfInBounds_ne (by omega), Array.getElem?_setIfInBounds_ne (by omega), Array.getElem?_setIfInBounds_ne (by omega), Array.getElem?_setIfInBounds_ne (by omega), Array.getElem?_setIfInBounds_self_of_lt (by first | omega | (simp; omega))]
 ·rw [Array.getElem?_setIfInBounds_ne (by omega), Array.getElem?_setIfInBounds_ne (by omega), Array.getElem?_setIfInBounds_ne (by omega), Array.getElem?_setIfInBounds_ne (by omega), Array.getElem?_setIfInBounds_self_of_lt (by first | omega | (simp; omega))]
 ·rw [Array.getElem?_setIfInBounds_ne (by omega), Array.getElem?_setIfInBounds_ne (by omega), Array.getElem?_setIfInBounds_ne (by omega), Array.getElem?_setIfInBounds_self_of_lt (by first | omega | (simp; omega))]
 ·rw [Array.getElem?_setIfInBounds_ne (by omega), Array.getElem?_setIfInBounds_ne (by omega), Array.getElem?_setIfInBounds_self_of_lt (by first | omega | (simp; omega))]
 ·rw [Array.getElem?_setIfInBounds_ne (by omega), Array.getElem?_setIfInBounds_self_of_lt (by first | omega | (simp; omega))]
 ·rw [Array.getElem?_setIfInBounds_self_of_lt (by first | omega | (simp; omega))]
 ·rw [Array.getElem?_setIfInBounds_ne (by omega), Array.getElem?_setIfInBounds_ne (by omega), Array.getElem?_setIfInBounds_ne (by omega), Array.getElem?_setIfInBounds_ne (by omega), Array.getElem?_setIfInBounds_ne (by omega), Array.getElem?_setIfInBounds_ne (by omega), Array.getElem?_setIfInBounds_ne (by omega), Array.getElem?_setIfInBounds_ne (by omega)]; exact hb j hj
 ·rw [Array.getElem?_setIfInBounds_ne (by omega), Array.getElem?_setIfInBounds_ne (by omega), Array.getElem?_setIfInBounds_ne (by omega), Array.getElem?_setIfInBounds_ne (by omega), Array.getElem?_setIfInBounds_ne (by omega), Array.getElem?_setIfInBounds_ne (by omega), Array.getElem?_setIfInBounds_ne (by omega), Array.getElem?_setIfInBounds_ne (by omega)]; exact hm
theorem LnB.set0 (h : LnB W m mb v0 v1 v2 v3 v4 v5 v6 v7 bad) (n0 : Value) : LnB (W.setCell ⟨m, 0, none⟩ n0) m mb n0 v1 v2 v3 v4 v5 v6 v7 bad := by
 obtain ⟨cs, h1, h2, l0, l1, l2, l3, l4, l5, l6, l7, hb, hm⟩ := h.blk
 have hl := h.len
 have hs := cells_set h1 0 n0
 refine ⟨⟨_, hs, by simpa using h2, Array.getElem?_setIfInBounds_self_of_lt (by omega), (by rw [Array.getElem?_setIfInBounds_ne (by omega)]; exact l1), (by rw [Array.getElem?_setIfInBounds_ne (by omega)]; exact l2), (by rw [Array.getElem?_setIfInBounds_ne (by omega)]; exact l3), (by rw [Array.getElem?_setIfInBounds_ne (by omega)]; exact l4), (by rw [Array.getElem?_setIfInBounds_ne (by omega)]; exact l5), (by rw [Array.getElem?_setIfInBounds_ne (by omega)]; exact l6), (by rw [Array.getElem?_setIfInBounds_ne (by omega)]; exact l7), fun j hj => by rw [Array.getElem?_setIfInBounds_ne (by omega)]; exact hb j hj, by rw [Array.getElem?_setIfInBounds_ne (by omega)]; exact hm⟩, hl⟩
end
/-- what turns: the line, its map -/
def LM (m mb q : Nat) : Prop := q = m ∨ q = mb
/-- a list that lies apart -/
def IntsF (M : Nat → Prop) (w : World) (a : Option Addr) (xs : List Int) : Prop :=
 xs = [] ∨ ∃ b off, a = some ⟨b, off, none⟩ ∧ ¬ M b ∧ b < w.heap.size ∧ ∀ i, i < xs.length → w.cell? ⟨b, off + i, none⟩ = some (.int .i64 (xs[i]?.getD 0))
section
variable {W W' : World} {a : Option Addr} {xs : List Int} {M : Nat → Prop}
theorem IntsF.at_ (h : IntsF M W a xs) : IntsAt W a xs := h.imp id fun ⟨b, off, ha, _, hb, hc⟩ => ⟨b, off, ha, hb, hc⟩
theorem IntsF.kp (h : IntsF M W a xs) {M' : Nat → Prop} (K : KpM M' W W') (hM : ∀ b, b < W.heap.size → M' b → M b) : IntsF M W' a xs :=
 h.imp id fun ⟨b, off, ha, hm, hb, hc⟩ => ⟨b, off, ha, hm, Nat.lt_of_lt_of_le hb K.size, fun i hi => (K.cell hb fun h => hm (hM b hb h)).trans (hc i hi)⟩
theorem IntsF.ext (h : IntsF M W a xs) (E : Ext W W') : IntsF M W' a xs := h.kp (M' := fun _ => False) ((KpM.of_ext E).mono fun _ h => h) (fun _ _ h => h.elim)
theorem IntsF.of_at (h : IntsAt W a xs) (hM : ∀ b, b < W.heap.size → ¬ M b) : IntsF M W a xs := h.imp id fun ⟨b, off, ha, hb, hc⟩ => ⟨b, off, ha, hM b hb, hb, hc⟩
theorem IntsF.of_T (h : IntsT W a xs) (hM : ∀ b cs fr, W.heap[b]? = some (.cells cs 3 fr) → ¬ M b) : IntsF M W a xs := h.imp id fun ⟨b, off, cs, fr, ha, hb, hc⟩ => ⟨b, off, ha, hM b cs fr hb, lt_of_block hb, hc⟩
end
/-- what is left of the losses -/
def leftL (L : List Loss) (gone : Int → Bool) (d : Int) : List Loss := if gone d = true then [] else L.filter fun y => y.after == d
/-- lists lie apart from the line, its map, and the blocks of ex -/
def LX (m mb : Nat) (ex : Nat → Prop) (q : Nat) : Prop := LM m mb q ∨ ex q
def LinAt (W : World) (m mb : Nat) (L : List Loss) (x : Lm) (ex : Nat → Prop := fun _ => False) : Prop := ∃ a1 a2 a3 c1 c2 c3,
 LnB W m mb (.slice a1 x.s.store.length c1) (.slice a2 x.s.tape.length c2) (.int .i64 x.s.taken) (.slice a3 x.s.printed.length c3) (.int .i64 x.s.time) (.int .i64 x.s.at_) (.int .i64 x.s.done) (.int .i64 x.s.why) x.bad ∧
 IntsF (LX m mb ex) W a1 x.s.store ∧ IntsF (LX m mb ex) W a2 x.s.tape ∧ IntsF (LX m mb ex) W a3 x.s.printed ∧ MapL W mb (leftL L x.gone)
theorem lin_far {W : World} {m mb : Nat} {v0 v1 v2 v3 v4 v5 v6 v7 : Value} {bad : List Bool} {g : Int → List Loss} (h : LnB W m mb v0 v1 v2 v3 v4 v5 v6 v7 bad) (k : MapL W mb g) : (∀ b cs fr, W.heap[b]? = some (.cells cs 3 fr) → ¬ LM m mb b) ∧ ∀ b cs fr, W.heap[b]? = some (.cells cs 61 fr) → ¬ LM m mb b := by
 obtain ⟨cs, h1, _⟩ := h.blk
 obtain ⟨f, h2, _⟩ := k
 obtain ⟨es, kk, h3⟩ := map_block h2
 refine ⟨fun b cs' fr hb hM => ?_, fun b cs' fr hb hM => ?_⟩
 ·rcases hM with rfl | rfl
  ·rw [h1] at hb; cases hb
  ·rw [h3] at hb; cases hb
 ·rcases hM with rfl | rfl
  ·rw [h1] at hb; cases hb
  ·rw [h3] at hb; cases hb
theorem lin_ne {W : World} {m mb : Nat} {v0 v1 v2 v3 v4 v5 v6 v7 : Value} {bad : List Bool} {g : Int → List Loss} (h : LnB W m mb v0 v1 v2 v3 v4 v5 v6 v7 bad) (k : MapL W mb g) : mb ≠ m := by
 obtain ⟨cs, h1, _⟩ := h.blk
 obtain ⟨f, h2, _⟩ := k
 obtain ⟨es, kk, h3⟩ := map_block h2
 rintro rfl
 rw [h1] at h3
 cases h3
theorem LinAt.ext {W W' : World} {m mb : Nat} {L : List Loss} {x : Lm} {ex : Nat → Prop} (h : LinAt W m mb L x ex) (E : Ext W W') : LinAt W' m mb L x ex := by
 obtain ⟨a1, a2, a3, c1, c2, c3, hb, i1, i2, i3, hm⟩ := h
 exact ⟨a1, a2, a3, c1, c2, c3, hb.ext E, i1.ext E, i2.ext E, i3.ext E, hm.kp (M := fun _ => False) ((KpM.of_ext E).mono fun _ h => h) id (fun _ _ _ _ h => h)⟩
theorem LinAt.turn {W W' : World} {m mb : Nat} {L : List Loss} {x : Lm} {ex : Nat → Prop} {M : Nat → Prop} (h : LinAt W m mb L x ex) (K : KpM M W W') (hM : ∀ b, b < W.heap.size → ¬ M b) : LinAt W' m mb L x ex := by
 obtain ⟨a1, a2, a3, c1, c2, c3, hb, i1, i2, i3, hm⟩ := h
 exact ⟨a1, a2, a3, c1, c2, c3, hb.kp K (hM _ hb.lt), i1.kp K (fun b h1 h2 => absurd h2 (hM b h1)), i2.kp K (fun b h1 h2 => absurd h2 (hM b h1)), i3.kp K (fun b h1 h2 => absurd h2 (hM b h1)), hm.kp K (hM _ (by obtain ⟨f, h2, _⟩ := hm; exact h2.lt)) (fun b cs fr hb => hM b (lt_of_block hb))⟩
end Go.Proofs.Ytnhpcoagkmgdoaa
/- Layer 10: the losses that are due happen. -/
namespace Go.Q
open Go Go.RowKit
theorem pow_le24 {k : Nat} (h : k ≤ 24) : (1 : Int) ≤ 2 ^ k ∧ (2 : Int) ^ k ≤ 16777216 := by
 have h1 : 2 ^ k ≤ 2 ^ 24 := Nat.pow_le_pow_right (by decide) h
 have h2 : 1 ≤ 2 ^ k := Nat.one_le_two_pow
 have e : ((2 ^ k : Nat) : Int) = 2 ^ k := by simp
 rw [← e]
 omega
theorem xor_one (n : Nat) : n ^^^ 1 = if n % 2 = 1 then n - 1 else n + 1 := by
 have h1 : (n ^^^ 1) / 2 = n / 2 := by rw [Nat.xor_div_two]; simp
 have h2 : (n ^^^ 1) % 2 = (n + 1) % 2 := by
  have := @Nat.xor_mod_two_eq_one n 1
  omega
 have h3 := Nat.div_add_mod (n ^^^ 1) 2
 have h4 := Nat.div_add_mod n 2
 split <;> omega
theorem xor_pow (k a l : Nat) (hl : l < 2 ^ k) : (2 ^ k * a + l) ^^^ 2 ^ k = 2 ^ k * (a ^^^ 1) + l := by
 apply Nat.eq_of_testBit_eq
 intro j
 rw [Nat.testBit_xor, Nat.testBit_two_pow_mul_add _ hl, Nat.testBit_two_pow_mul_add _ hl, Nat.testBit_two_pow]
 by_cases h : j < k
 ·rw [if_pos h, if_pos h]
  have : ¬ k = j := by omega
  simp [this]
 ·rw [if_neg h, if_neg h, Nat.testBit_xor]
  congr 1
  by_cases e : k = j
  ·subst e; simp
  ·obtain ⟨d, hd⟩ : ∃ d, j - k = d + 1 := ⟨j - k - 1, by omega⟩
   rw [hd, Nat.testBit_succ]
   simp [e]
theorem flip_nat (x k : Nat) : x ^^^ 2 ^ k = if x / 2 ^ k % 2 = 1 then x - 2 ^ k else x + 2 ^ k := by
 have h0 : 0 < 2 ^ k := Nat.two_pow_pos k
 have hd := Nat.div_add_mod x (2 ^ k)
 have hl := Nat.mod_lt x h0
 obtain ⟨a, ha⟩ : ∃ a, x / 2 ^ k = a := ⟨_, rfl⟩
 obtain ⟨l, hll⟩ : ∃ l, x % 2 ^ k = l := ⟨_, rfl⟩
 rw [ha, hll] at hd
 rw [hll] at hl
 rw [ha, ← hd, xor_pow k a l hl, xor_one]
 obtain ⟨P, hP⟩ : ∃ P, 2 ^ k = P := ⟨_, rfl⟩
 rw [hP]
 split
 ·rename_i h
  obtain ⟨b, rfl⟩ : ∃ b, a = b + 1 := ⟨a - 1, by omega⟩
  rw [Nat.add_sub_cancel, Nat.mul_add]
  omega
 ·rw [Nat.mul_add]
  omega
theorem bits_xor_i64 (a b : Nat) (ha : a < 4294967296) (hb : b < 4294967296) : bits .xor .i64 (a : Int) (b : Int) = ((a ^^^ b : Nat) : Int) := by
 have hx : a ^^^ b < 2 ^ 32 := Nat.xor_lt_two_pow (by omega) (by omega)
 have h1 : (BitVec.ofInt 64 (a : Int)).toNat = a := by
  rw [BitVec.ofInt_natCast, BitVec.toNat_ofNat]; exact Nat.mod_eq_of_lt (by omega)
 have h2 : (BitVec.ofInt 64 (b : Int)).toNat = b := by
  rw [BitVec.ofInt_natCast, BitVec.toNat_ofNat]; exact Nat.mod_eq_of_lt (by omega)
 show IntKind.i64.wrap ((BitVec.ofInt 64 (a : Int) ^^^ BitVec.ofInt 64 (b : Int)).toNat : Int) = _
 rw [BitVec.toNat_xor, h1, h2]
 exact IntWalk.i64_in _ (by omega)
theorem flip_bits (x : Int) (k : Nat) (h0 : 0 ≤ x) (h1 : x ≤ 16777215) (hk : k ≤ 24) : bits .xor .i64 x (wrap64 (2 ^ k) % 16777216) = flipW x k := by
 obtain ⟨n, rfl⟩ := Int.eq_ofNat_of_zero_le h0
 have hp := pow_le24 hk
 have ep : ((2 ^ k : Nat) : Int) = 2 ^ k := by simp
 have ew : wrap64 (2 ^ k) = 2 ^ k := by unfold wrap64; omega
 rw [ew]
 have hn : n < 4294967296 := by omega
 by_cases h24 : k = 24
 ·subst h24
  have : (2 : Int) ^ 24 % 16777216 = ((0 : Nat) : Int) := by decide
  rw [this, bits_xor_i64 n 0 hn (by omega), Nat.xor_zero]
  unfold flipW
  rw [if_neg (by omega)]
 ·have hp2 : (2 : Int) ^ k ≤ 8388608 := by
   have h1 : 2 ^ k ≤ 2 ^ 23 := Nat.pow_le_pow_right (by decide) (by omega)
   rw [← ep]
   omega
  rw [Int.emod_eq_of_lt (by omega) (by omega), ← ep, bits_xor_i64 n (2 ^ k) hn (by omega), flip_nat]
  unfold flipW
  rw [if_pos (show (k : Int) < 24 by omega), Int.toNat_natCast, ← ep]
  clear ew ep hp hp2
  obtain ⟨P, hP⟩ : ∃ P, 2 ^ k = P := ⟨_, rfl⟩
  rw [hP]
  have hdm : (n : Int) / (P : Int) % 2 = ((n / P % 2 : Nat) : Int) := by simp
  rw [hdm]
  by_cases h : n / P % 2 = 1
  ·rw [if_pos h, if_pos (by omega)]
   have : P ≤ n := by
    rcases Nat.lt_or_ge n P with h2 | h2
    ·rw [Nat.div_eq_of_lt h2] at h; omega
    ·exact h2
   omega
  ·rw [if_neg h, if_neg (by omega)]
   omega
end Go.Q
namespace Go.Proofs.Ytnhpcoagkmgdoaa
open Go.RowKit Go.Q Go.Shelf Go.Maps
set_option maxHeartbeats 4000000
set_option maxRecDepth 100000
theorem zeroRow (w : World) : (zeroValue 42).run Try.prog w = .ok (.slice none 0 0) w := by
 simp [Try.zeroValue42]
/-- a row of 128 words -/
structure RowI (W : World) (g : Nat) (st : List Int) : Prop where
 blk : ∃ cs, W.heap[g]? = some (.cells cs 3 (0, 0)) ∧ 128 ≤ cs.size ∧ ∀ i, i < 128 → cs[i]? = some (.int .i64 (st[i]?.getD 0))
 len : st.length = 128
section
variable {W W' : World} {g : Nat} {st : List Int}
theorem RowI.lt (h : RowI W g st) : g < W.heap.size := by
 obtain ⟨cs, h1, _⟩ := h.blk
 exact lt_of_block h1
theorem RowI.same (h : RowI W g st) (e : W'.heap[g]? = W.heap[g]?) : RowI W' g st := by
 obtain ⟨cs, h1, h2⟩ := h.blk
 exact ⟨⟨cs, e.trans h1, h2⟩, h.len⟩
theorem RowI.ext (h : RowI W g st) (E : Ext W W') : RowI W' g st := h.same (E.block g h.lt)
theorem RowI.kp {M : Nat → Prop} (h : RowI W g st) (K : KpM M W W') (hm : ¬ M g) : RowI W' g st := h.same (K.block g h.lt hm)
theorem RowI.far (h : RowI W g st) (p : Addr) (v : Value) (hp : g ≠ p.block) : RowI (W.setCell p v) g st := h.same (Below.heap_setCell _ _ _ _ hp)
theorem RowI.free (h : RowI W g st) (i : Nat) : W.frozen? ⟨g, i, none⟩ = false := by
 obtain ⟨cs, h1, _⟩ := h.blk
 exact blk_free h1 i
theorem RowI.c (h : RowI W g st) (i : Nat) (hi : i < 128) : W.cell? ⟨g, i, none⟩ = some (.int .i64 (st[i]?.getD 0)) := by
 obtain ⟨cs, h1, h2, hb⟩ := h.blk
 exact blk_cell h1 _ (hb i hi)
theorem RowI.set (h : RowI W g st) (i : Nat) (hi : i < 128) (v : Int) : RowI (W.setCell ⟨g, i, none⟩ (.int .i64 v)) g (st.set i v) := by
 obtain ⟨cs, h1, h2, hb⟩ := h.blk
 have hl := h.len
 have hs := cells_set h1 i (.int .i64 v)
 refine ⟨⟨_, hs, by simpa using h2, fun j hj => ?_⟩, by rw [List.length_set]; exact hl⟩
 by_cases e : i = j
 ·subst e
  rw [Array.getElem?_setIfInBounds_self_of_lt (by omega), List.getElem?_set_self (by omega)]
  rfl
 ·rw [Array.getElem?_setIfInBounds_ne (by omega), List.getElem?_set_ne e]
  exact hb j hj
theorem RowI.of_own {nb c : Nat} {a : Option Addr} (h : W.ownsRow nb 3 1 (.slice a 128 c) 128 (iv st)) (hl : st.length = 128) : ∃ g, a = some ⟨g, 0, none⟩ ∧ nb ≤ g ∧ RowI W g st := by
 rcases h.2 with ⟨e, h2⟩ | ⟨g, cap, cur, e, hg, hb, h1, _, h3, h4⟩
 ·cases h2
 ·obtain ⟨rfl, -, rfl⟩ := Value.slice.inj e
  refine ⟨g, rfl, hg, ⟨⟨cur, hb, by omega, fun i hi => ?_⟩, hl⟩⟩
  have hg := iv_get st i (by omega)
  rw [← h4, List.getElem?_take, if_pos (by omega)] at hg
  simpa using hg
end
theorem kp_new {M : Nat → Prop} {A V : World} (K : KpM M A V) {g : Nat} (hg : A.heap.size ≤ g) (p : Nat) (v : Value) : KpM M A (V.setCell ⟨g, p, none⟩ v) := by
 have k := kpm_set (M := fun q => q = g) V g p v rfl
 exact ⟨Nat.le_trans K.size k.size, fun b hb hn => (k.block b (Nat.lt_of_lt_of_le hb K.size) (by omega)).trans (K.block b hb hn), k.os.trans K.os, k.tape.trans K.tape, k.output.trans K.output⟩
theorem kp_grown {A V : World} {g : Nat} (h : A.grownBy V (some g)) : KpM (fun q => q = g) A V := ⟨h.size, fun b hb hn => h.block b hb (by intro e; injection e with e; exact hn e), h.os, h.tape, h.output⟩
def hapK (D : List Loss) (k : Nat) (s : St) : List Int := ((D.take k).foldl lossS s).store
def hapB (D : List Loss) (k : Nat) (b : List Bool) : List Bool := (D.take k).foldl lossB b
theorem take_next {D : List Loss} {k : Nat} (h : k < D.length) : D.take (k + 1) = D.take k ++ [D[k]?.getD ⟨0, 0, 0⟩] := by
 rw [List.take_add_one, List.getElem?_eq_getElem h]
 rfl
theorem hapK_succ {D : List Loss} {k : Nat} {s : St} (h : k < D.length) : hapK D (k + 1) s = (hapK D k s).set (D[k]?.getD ⟨0, 0, 0⟩).addr.toNat (flipW ((hapK D k s)[(D[k]?.getD ⟨0, 0, 0⟩).addr.toNat]?.getD 0) (D[k]?.getD ⟨0, 0, 0⟩).bit) := by
 unfold hapK
 rw [take_next h, List.foldl_append]
 rfl
theorem hapB_succ {D : List Loss} {k : Nat} {b : List Bool} (h : k < D.length) : hapB D (k + 1) b = (hapB D k b).set (D[k]?.getD ⟨0, 0, 0⟩).addr.toNat (!(hapB D k b)[(D[k]?.getD ⟨0, 0, 0⟩).addr.toNat]?.getD false) := by
 unfold hapB
 rw [take_next h, List.foldl_append]
 rfl
theorem happen_any (m mb : Nat) (L : List Loss) (x : Lm) (W : World) {ex : Nat → Prop} (hex : ∀ q, ex q → q < W.heap.size) (h : LinAt W m mb L x ex) (hL : ∀ y ∈ L, lossOk y = true) (hl : L.length ≤ 40) (hv : Valid x.s) :
  Calls Try.prog 72 #[.pointer (some ⟨m, 0, none⟩)] W fun e W' => e = .returned (.tuple #[]) ∧ LinAt W' m mb L (hapQ L x) ex ∧ KpM (LM m mb) W W' := by
 have HEX := Lib.hid hex
 clear hex
 obtain ⟨a1, a2, a3, c1, c2, c3, hB, i1, i2, i3, hM⟩ := h
 have hlen := hv.len
 have hcl := fun X (E : Ext W X) => clone_any a1 128 c1 x.s.store X hlen (by omega) (i1.at_.ext E)
 rw [hlen] at hB
 have e0 := hB.c0
 have f0 := hB.free 0
 have hmw := hB.lt
 obtain ⟨f, hF, hR⟩ := hM
 have hmb := lin_ne hB ⟨f, hF, hR⟩
 have hfar := lin_far hB ⟨f, hF, hR⟩
 have hdn : -9223372036854775808 ≤ x.s.done ∧ x.s.done ≤ 9223372036854775807 := by
  have := hv.done; have := hv.time; omega
 obtain ⟨ra, rc, hrow, hrc⟩ := hR ⟨x.s.done, hdn⟩
 obtain ⟨D, hD⟩ : ∃ D, leftL L x.gone x.s.done = D := ⟨_, rfl⟩
 dsimp only at hrow hrc
 rw [hD] at hrow hrc
 have hD0 : dueQ L x = D := hD
 replace hrow : (f ⟨x.s.done, hdn⟩).getD (.slice none 0 0) = .slice ra D.length rc := hrow
 have hDl : D.length ≤ 40 := by
  rw [← hD]
  unfold leftL
  split
  ·simp
  ·exact Nat.le_trans (List.length_filter_le _ _) hl
 have hDo : ∀ y ∈ D, lossOk y = true := fun y hy => hL y (due_mem (by rw [hD0]; exact hy)).1
 obtain ⟨n, hn⟩ : ∃ n, D.length = n := ⟨_, rfl⟩
 go_enter Try.func72, Try.ntmps72
 go_wp2_with fail
 refine ((hcl _ (Ext.refl W))).mono ?_
 rintro e w1 ⟨ca, cc, rfl, hO, E1⟩
 obtain ⟨g, rfl, hg0, R1⟩ := RowI.of_own hO hlen
 have B1 := hB.ext E1
 clear e0 f0 hcl hO
 have e0 := B1.c0
 have f0 := B1.free 0
 go_wp2
 have B2 := B1.set0 (.slice (some ⟨g, 0, none⟩) 128 cc)
 have R2 := R1.far ⟨m, 0, none⟩ (.slice (some ⟨g, 0, none⟩) 128 cc) (show g ≠ m by omega)
 have K2 : KpM (fun q => q = m) W (w1.setCell ⟨m, 0, none⟩ (.slice (some ⟨g, 0, none⟩) 128 cc)) := (KpM.of_ext E1).trans (kpm_set _ m 0 _ rfl)
 obtain ⟨X1, hX1⟩ : ∃ X, X = w1.setCell ⟨m, 0, none⟩ (.slice (some ⟨g, 0, none⟩) 128 cc) := ⟨_, rfl⟩
 rw [← hX1] at B2 R2 K2 ⊢
 clear hX1 B1 R1 E1 e0 f0 w1
 have F2 := hF.same (K2.block mb hF.lt hmb)
 have hlk : ∀ Y : World, Ext X1 Y → (Instr.lookup 126 (.map (some mb)) (.int .i64 x.s.done) false).run Try.prog Y = .ok (.slice ra n rc) Y := fun Y E => by
  have := (F2.ext E).look false keyI Try.underlying126 (zeroRow Y) ⟨x.s.done, hdn⟩
  rw [hrow, hn] at this
  exact this
 have e6 := B2.c6
 have em := B2.cm
 have hlk2 := fun k => hlk _ (below_drewN (Ext.refl X1) k)
 go_quiet (fail)
 have EY : Ext X1 (X1.drewN nq) := below_drewN (Ext.refl X1) nq
 have B3 := B2.ext EY
 have R3 := R2.ext EY
 have K3 := K2.trans (KpM.of_ext EY)
 generalize X1.drewN nq = X2 at B3 R3 K3 ⊢
 clear B2 R2 K2 F2 e6 em hlk hlk2 EY
 clear X1 nq
 have HD := Lib.hid hn
 have HDo := Lib.hid hDo
 have Hv := Lib.hid hv
 have HL := Lib.hid hL
 have HD0 := Lib.hid hD0
 have HDD := Lib.hid hD
 have Hlen := Lib.hid hlen
 have hnl : n ≤ 40 := by omega
 clear hn hDo hv hL hl hD0 hD hlen hrow hDl hdn
 go_wp2
 go_loopw [25] (fun s25 X => ∃ k : Nat, k ≤ n ∧ s25 = .int .i64 k ∧ LnB X m mb (.slice (some ⟨g, 0, none⟩) 128 cc) (.slice a2 x.s.tape.length c2) (.int .i64 x.s.taken) (.slice a3 x.s.printed.length c3) (.int .i64 x.s.time) (.int .i64 x.s.at_) (.int .i64 x.s.done) (.int .i64 x.s.why) (hapB D k x.bad) ∧ RowI X g (hapK D k x.s) ∧ KpM (fun q => q = m) W X) (fun s25 _ => n - (Go.RowKit.intOf s25).toNat)
 case atStart => exact ⟨0, Nat.zero_le _, rfl, B3, R3, K3⟩
 case round =>
  clear B3 R3 K3
  obtain ⟨k, hk, rfl, B, R, K⟩ := hrel
  obtain ⟨X, rfl⟩ : ∃ X : World, X = wr := ⟨_, rfl⟩
  by_cases hlt : k < n
  ·have hltz : (k : Int) < (n : Int) := by omega
   rcases hrc with h0 | ⟨rb, off, cs, fr, rfl, hrb, hrc⟩
   ·exact absurd HD.out (by rw [h0]; simp; omega)
   have hrn := hfar.2 rb cs fr hrb
   have hkc : k < D.length := by rw [HD.out]; exact hlt
   obtain ⟨d0, d1, d2⟩ := hrc k hkc
   have hrm : rb ≠ m := fun e => hrn (.inl e)
   replace d0 := (K.cell (lt_of_block hrb) hrm).trans d0
   replace d1 := (K.cell (lt_of_block hrb) hrm).trans d1
   replace d2 := (K.cell (lt_of_block hrb) hrm).trans d2
   obtain ⟨y, hy⟩ : ∃ y, D[k]?.getD ⟨0, 0, 0⟩ = y := ⟨_, rfl⟩
   have hyo := loss_ok (HDo.out y (by rw [← hy, List.getElem?_eq_getElem hkc]; exact List.getElem_mem hkc))
   have HBs := Lib.hid (hapB_succ (D := D) (k := k) (b := x.bad) hkc)
   have HKs := Lib.hid (hapK_succ (D := D) (k := k) (s := x.s) hkc)
   rw [hy] at d0 d1 d2 HBs HKs
   obtain ⟨ya, yp, yq⟩ := y
   dsimp only at d0 d1 d2 hyo HBs HKs
   obtain ⟨p, rfl⟩ := Int.eq_ofNat_of_zero_le hyo.2.1.1
   obtain ⟨q, rfl⟩ := Int.eq_ofNat_of_zero_le hyo.2.2.1
   have hp : p < 128 := by omega
   have hq : q ≤ 24 := by omega
   clear hyo hy
   go_wp2
   have z0 := box_at (v := .int .i64 ya) (Ext.refl (X.alloc (.cells #[.int .i64 ya, .int .i64 (p : Int), .int .i64 (q : Int)] 61))) 0 rfl
   have z1 := box_at (v := .int .i64 (p : Int)) (Ext.refl (X.alloc (.cells #[.int .i64 ya, .int .i64 (p : Int), .int .i64 (q : Int)] 61))) 1 rfl
   have z2 := box_at (v := .int .i64 (q : Int)) (Ext.refl (X.alloc (.cells #[.int .i64 ya, .int .i64 (p : Int), .int .i64 (q : Int)] 61))) 2 rfl
   have EY := (Ext.refl X).alloc (.cells #[.int .i64 ya, .int .i64 (p : Int), .int .i64 (q : Int)] 61)
   have hsz : X.heap.size < (X.alloc (.cells #[.int .i64 ya, .int .i64 (p : Int), .int .i64 (q : Int)] 61)).heap.size := by simp
   have hmN := B.lt
   have hgN := R.lt
   obtain ⟨N, hN⟩ : ∃ N, X.heap.size = N := ⟨_, rfl⟩
   obtain ⟨Y, hY⟩ : ∃ Y, X.alloc (.cells #[.int .i64 ya, .int .i64 (p : Int), .int .i64 (q : Int)] 61) = Y := ⟨_, rfl⟩
   rw [hN, hY]
   rw [hN] at hsz hmN hgN
   rw [hN, hY] at z0 z1 z2
   rw [hY] at EY hsz
   clear hN hY
   have hpz : (0 : Int) ≤ (p : Int) := by omega
   have hpn : (p : Int) < 128 := by omega
   have B := B.ext EY
   have b0 := B.cb p hp
   have HZ1 := Lib.hid z1
   have HZ2 := Lib.hid z2
   have HP := Lib.hid hp
   clear z2 hp
   go_still_tail 14, (by kernel_rfl)
   change wpList _ _ _ _ _ Y.drew
   have B := B.ext (Ext.refl Y).drew
   have R := R.ext EY.drew
   have K := K.trans (KpM.of_ext EY.drew)
   have z1 : Y.drew.cell? ⟨N, 1, none⟩ = some (.int .i64 (p : Int)) := HZ1.out
   have z2 : Y.drew.cell? ⟨N, 2, none⟩ = some (.int .i64 (q : Int)) := HZ2.out
   replace hsz : N < Y.drew.heap.size := hsz
   clear EY z0 HZ1 HZ2 b0
   have f0 := B.free (8 + p)
   have b0 := B.cb p HP.out
   generalize Y.drew = Z at *
   go_wp2
   have hNm : N ≠ m := by omega
   have z1 := (World.cell?_of_block (w := Z) (a := ⟨N, 1, none⟩) (Below.heap_setCell Z ⟨m, 8 + p, none⟩ (.bool (!(hapB D k x.bad)[p]?.getD false)) N hNm)).trans z1
   have z2 := (World.cell?_of_block (w := Z) (a := ⟨N, 2, none⟩) (Below.heap_setCell Z ⟨m, 8 + p, none⟩ (.bool (!(hapB D k x.bad)[p]?.getD false)) N hNm)).trans z2
   have B2 := B.setb p HP.out (!(hapB D k x.bad)[p]?.getD false)
   have hgm : g ≠ m := by omega
   have R2 := R.far ⟨m, 8 + p, none⟩ (.bool (!(hapB D k x.bad)[p]?.getD false)) hgm
   have K2 := K.trans (kpm_set Z m (8 + p) (.bool (!(hapB D k x.bad)[p]?.getD false)) rfl)
   have hsz2 : N < (Z.setCell ⟨m, 8 + p, none⟩ (.bool (!(hapB D k x.bad)[p]?.getD false))).heap.size := by simpa using hsz
   clear B R K hsz b0 f0
   generalize Z.setCell ⟨m, 8 + p, none⟩ (.bool (!(hapB D k x.bad)[p]?.getD false)) = V at *
   have B := B2
   have b0 := B2.c0
   have r0 := R2.c p HP.out
   have HZ1 := Lib.hid z1
   have HZ2 := Lib.hid z2
   have HB := Lib.hid B2
   clear B B2
   go_still_tail 15, (by kernel_rfl)
   change wpList _ _ _ _ _ V.drew
   have R := R2.ext (Ext.refl V).drew
   have r0 := R.c p HP.out
   have f0 := R.free p
   go_wp2
   refine ⟨⟨k + 1, by omega, by simp, ?_, ?_, (kp_new K2 hg0 p _).trans (KpM.of_ext (Ext.refl _).drew)⟩, by simp [Go.RowKit.intOf]; omega⟩
   ·rw [HBs.out, Int.toNat_natCast]
    exact (HB.out.far ⟨g, p, none⟩ _ (show m ≠ g by omega)).ext (Ext.refl _).drew
   ·have hvk := lossesS_valid (F := D.take k) Hv.out (fun y hy => (loss_ok (HDo.out y (List.mem_of_mem_take hy))).2.2.1)
    have Hw := wordAt_bd hvk (p : Int)
    unfold wordAt at Hw
    rw [Int.toNat_natCast] at Hw
    replace Hw : 0 ≤ (hapK D k x.s)[p]?.getD 0 ∧ (hapK D k x.s)[p]?.getD 0 ≤ 16777215 := Hw
    rw [HKs.out, Int.toNat_natCast, flip_bits _ _ Hw.1 Hw.2 hq]
    exact (R2.set p HP.out _).ext (Ext.refl _).drew
  ·have hltz : ¬ (k : Int) < (n : Int) := by omega
   obtain rfl : k = n := by omega
   clear hlt hk
   have em := B.cm
   have e6 := B.c6
   have FX := hF.same ((K.trans (KpM.of_ext (Ext.refl X).drew)).block mb hF.lt hmb)
   have hv := Hv.out
   have hdn : -9223372036854775808 ≤ x.s.done ∧ x.s.done ≤ 9223372036854775807 := by
    have := hv.done; have := hv.time; omega
   clear hv
   go_wp2
   go_still_tail 9, (by kernel_rfl)
   change wpList _ _ _ _ _ X.drew
   refine wpList_delF X.drew rfl _ _ _ rfl 42 keyI Try.underlying126 mb rfl FX ⟨x.s.done, hdn⟩ rfl fun w' F2 G2 S2 => ?_
   go_wp2
   go_end0
   have K2 := (K.trans (KpM.of_ext (Ext.refl X).drew))
   have K3 : KpM (LM m mb) W w' := (K2.mono (fun q h => .inl h)).trans ((kp_grown G2).mono fun q h => .inr h)
   have B3 := (B.ext (Ext.refl X).drew).kp (kp_grown G2) (show ¬ m = mb from fun e => hmb e.symm)
   have R3 := (R.ext (Ext.refl X).drew).kp (kp_grown G2) (show ¬ g = mb by have := hF.lt; omega)
   have et : D.take k = D := by rw [← HD.out]; exact List.take_length
   have es : (hapQ L x).s = { x.s with store := hapK D k x.s } := by
    rw [hap_same]
    unfold hapK
    rw [et]
    show { x.s with store := ((dueQ L x).foldl lossS x.s).store } = _
    rw [HD0.out]
   have eb : (hapQ L x).bad = hapB D k x.bad := by
    show (dueQ L x).foldl lossB x.bad = _
    unfold hapB
    rw [et, HD0.out]
   refine ⟨rfl, ⟨some ⟨g, 0, none⟩, a2, a3, cc, c2, c3, ?_, ?_, ?_, ?_, ?_⟩, K3⟩
   ·rw [es, eb]
    show LnB w' m mb (.slice (some ⟨g, 0, none⟩) (hapK D k x.s).length cc) _ _ _ _ _ _ _ _
    rw [R.len]
    exact B3
   ·rw [es]
    exact .inr ⟨g, 0, rfl, (fun h => by
     have := hF.lt
     rcases h with (h | h) | h
     ·omega
     ·omega
     ·have := HEX.out g h; omega), R3.lt, fun i hi => by rw [Nat.zero_add]; exact R3.c i (by rw [← R3.len]; exact hi)⟩
   ·rw [es]
    exact i2.kp K3 (fun b _ h => .inl h)
   ·rw [es]
    exact i3.kp K3 (fun b _ h => .inl h)
   ·refine ⟨_, F2, fun z => ?_⟩
    unfold delF
    by_cases e : z = ⟨x.s.done, hdn⟩
    ·rw [if_pos e]
     have e2 : leftL L (hapQ L x).gone z.1 = [] := by
      unfold leftL
      rw [if_pos]
      show (z.1 == x.s.done || x.gone z.1) = true
      rw [e]; simp
     rw [e2]
     exact ⟨none, 0, rfl, .inl rfl⟩
    ·rw [if_neg e]
     have hne : ¬ z.1 = x.s.done := fun h => e (I64.same h)
     have e2 : leftL L (hapQ L x).gone z.1 = leftL L x.gone z.1 := by
      have : (hapQ L x).gone z.1 = x.gone z.1 := by
       show (z.1 == x.s.done || x.gone z.1) = _
       simp [hne]
      unfold leftL
      rw [this]
     rw [e2]
     exact (hR z).kp K3 hfar.2
end Go.Proofs.Ytnhpcoagkmgdoaa

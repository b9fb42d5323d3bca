import Derived.Test.YtnhpcoagkmgdoaaGreatX14
import Derived.Test.YtnhpcoagkmgdoaaGreatX15
import Derived.Test.YtnhpcoagkmgdoaaGreatX16
set_option linter.unusedVariables false
set_option linter.unusedSimpArgs false
/- Layer 10: a machine with losses, in memory. -/
namespace Go.Proofs.YtnhpcoagkmgdoaaGreat
open Go.RowKit Go.Q Go.Shelf Go.Maps
/-- numbers that an int can be -/
structure I64 where
 val : Int
 ok : -9223372036854775808 ≤ val ∧ val ≤ 9223372036854775807
deriving DecidableEq
theorem I64.same {x y : I64} (h : x.1 = y.1) : x = y := by
 cases x; cases y
 cases h
 rfl
def encI (x : I64) : Value := .int .i64 x.1
theorem keyI : KeyEnc Tryz.prog 3 encI :=
 ⟨int_keyed Tryz.underlying3, fun x => ⟨_, keyOf_int_mk Tryz.underlying3 (WalkArith.wf_i64 (by have := x.2; omega))⟩, fun x y h => by
  unfold encI at h
  injection h with _ h
  exact I64.same h⟩
/-- the losses L lie from a on -/
def LossAt (w : World) (a : Option Addr) (L : List Loss) : Prop :=
 L = [] ∨ ∃ b off, a = some ⟨b, off, none⟩ ∧ b < w.heap.size ∧ ∀ i, i < L.length → w.cell? ⟨b, off + i * 3, none⟩ = some (.int .i64 (L[i]?.getD ⟨0, 0, 0⟩).after) ∧ w.cell? ⟨b, off + i * 3 + 1, none⟩ = some (.int .i64 (L[i]?.getD ⟨0, 0, 0⟩).addr) ∧ w.cell? ⟨b, off + i * 3 + 2, none⟩ = some (.int .i64 (L[i]?.getD ⟨0, 0, 0⟩).bit)
theorem LossAt.ext {w w' : World} {a : Option Addr} {L : List Loss} (h : LossAt w a L) (E : Ext w w') : LossAt w' a L :=
 h.imp id fun ⟨b, off, ha, hb, hc⟩ => ⟨b, off, ha, Nat.lt_of_lt_of_le hb E.size, fun i hi => ⟨(E.cell (p := ⟨b, off + i * 3, none⟩) hb).trans (hc i hi).1, (E.cell (p := ⟨b, off + i * 3 + 1, none⟩) hb).trans (hc i hi).2.1, (E.cell (p := ⟨b, off + i * 3 + 2, none⟩) hb).trans (hc i hi).2.2⟩⟩
/-- a row of losses, in a block of losses -/
def LossT (w : World) (v : Value) (L : List Loss) : Prop :=
 ∃ a c, v = .slice a L.length c ∧ (L = [] ∨ ∃ b off cs fr, a = some ⟨b, off, none⟩ ∧ w.heap[b]? = some (.cells cs 91 fr) ∧ ∀ i, i < L.length → w.cell? ⟨b, off + i * 3, none⟩ = some (.int .i64 (L[i]?.getD ⟨0, 0, 0⟩).after) ∧ w.cell? ⟨b, off + i * 3 + 1, none⟩ = some (.int .i64 (L[i]?.getD ⟨0, 0, 0⟩).addr) ∧ w.cell? ⟨b, off + i * 3 + 2, none⟩ = some (.int .i64 (L[i]?.getD ⟨0, 0, 0⟩).bit))
theorem LossT.kp {M : Nat → Prop} {w w' : World} {v : Value} {L : List Loss} (h : LossT w v L) (K : KpM M w w') (hM : ∀ b cs fr, w.heap[b]? = some (.cells cs 91 fr) → ¬ M b) : LossT w' v L := by
 obtain ⟨a, c, rfl, h⟩ := h
 refine ⟨a, c, rfl, h.imp id fun ⟨b, off, cs, fr, ha, hb, hc⟩ => ?_⟩
 have hn := hM b cs fr hb
 have hl := lt_of_block hb
 exact ⟨b, off, cs, fr, ha, (K.block b hl hn).trans hb, fun i hi => ⟨(K.cell hl hn).trans (hc i hi).1, (K.cell hl hn).trans (hc i hi).2.1, (K.cell hl hn).trans (hc i hi).2.2⟩⟩
/-- block mb is the map of the losses: by g -/
def MapL (w : World) (mb : Nat) (g : Int → List Loss) : Prop := ∃ f : I64 → Option Value, MapF encI w mb f ∧ ∀ x, LossT w ((f x).getD (.slice none 0 0)) (g x.1)
theorem map_block {w : World} {mb : Nat} {f : I64 → Option Value} (h : MapF encI w mb f) : ∃ es k, w.heap[mb]? = some (.map es k) := by
 obtain ⟨es, k, h1, _⟩ := h
 exact ⟨es, k, h1⟩
theorem MapL.kp {M : Nat → Prop} {w w' : World} {mb : Nat} {g : Int → List Loss} (h : MapL w mb g) (K : KpM M w w') (hm : ¬ M mb) (hM : ∀ b cs fr, w.heap[b]? = some (.cells cs 91 fr) → ¬ M b) : MapL w' mb g := by
 obtain ⟨f, h1, h2⟩ := h
 exact ⟨f, h1.same (K.block mb h1.lt hm), fun x => (h2 x).kp K hM⟩
/-- the line's block -/
structure LnB (W : World) (m mb : Nat) (v0 v1 v2 v3 v4 v5 v6 v7 : Value) (bad : List Bool) : Prop where
 blk : ∃ cs, W.heap[m]? = some (.cells cs 76 (0, 0)) ∧ cs.size = 137 ∧ cs[0]? = some v0 ∧ cs[1]? = some v1 ∧ cs[2]? = some v2 ∧ cs[3]? = some v3 ∧ cs[4]? = some v4 ∧ cs[5]? = some v5 ∧ cs[6]? = some v6 ∧ cs[7]? = some v7 ∧ (∀ i, i < 128 → cs[8 + i]? = some (.bool (bad[i]?.getD false))) ∧ cs[136]? = some (.map (some mb))
 len : bad.length = 128
section
variable {W W' : World} {m mb : Nat} {v0 v1 v2 v3 v4 v5 v6 v7 : Value} {bad : List Bool}
theorem LnB.lt (h : LnB W m mb v0 v1 v2 v3 v4 v5 v6 v7 bad) : m < W.heap.size := by
 obtain ⟨cs, h1, _⟩ := h.blk
 exact lt_of_block h1
theorem LnB.same (h : LnB W m mb v0 v1 v2 v3 v4 v5 v6 v7 bad) (e : W'.heap[m]? = W.heap[m]?) : LnB W' m mb v0 v1 v2 v3 v4 v5 v6 v7 bad := by
 obtain ⟨cs, h1, h2⟩ := h.blk
 exact ⟨⟨cs, e.trans h1, h2⟩, h.len⟩
theorem LnB.ext (h : LnB W m mb v0 v1 v2 v3 v4 v5 v6 v7 bad) (E : Ext W W') : LnB W' m mb v0 v1 v2 v3 v4 v5 v6 v7 bad := h.same (E.block m h.lt)
theorem LnB.kp {M : Nat → Prop} (h : LnB W m mb v0 v1 v2 v3 v4 v5 v6 v7 bad) (K : KpM M W W') (hm : ¬ M m) : LnB W' m mb v0 v1 v2 v3 v4 v5 v6 v7 bad := h.same (K.block m h.lt hm)
theorem LnB.far (h : LnB W m mb v0 v1 v2 v3 v4 v5 v6 v7 bad) (p : Addr) (v : Value) (hp : m ≠ p.block) : LnB (W.setCell p v) m mb v0 v1 v2 v3 v4 v5 v6 v7 bad := h.same (Below.heap_setCell _ _ _ _ hp)
theorem LnB.free (h : LnB W m mb v0 v1 v2 v3 v4 v5 v6 v7 bad) (i : Nat) : W.frozen? ⟨m, i, none⟩ = false := by
 obtain ⟨cs, h1, _⟩ := h.blk
 exact blk_free h1 i
theorem LnB.c0 (h : LnB W m mb v0 v1 v2 v3 v4 v5 v6 v7 bad) : W.cell? ⟨m, 0, none⟩ = some v0 := by
 obtain ⟨cs, h1, h2, l0, l1, l2, l3, l4, l5, l6, l7, hb, hm⟩ := h.blk
 exact blk_cell h1 0 l0
theorem LnB.c1 (h : LnB W m mb v0 v1 v2 v3 v4 v5 v6 v7 bad) : W.cell? ⟨m, 1, none⟩ = some v1 := by
 obtain ⟨cs, h1, h2, l0, l1, l2, l3, l4, l5, l6, l7, hb, hm⟩ := h.blk
 exact blk_cell h1 1 l1
theorem LnB.c2 (h : LnB W m mb v0 v1 v2 v3 v4 v5 v6 v7 bad) : W.cell? ⟨m, 2, none⟩ = some v2 := by
 obtain ⟨cs, h1, h2, l0, l1, l2, l3, l4, l5, l6, l7, hb, hm⟩ := h.blk
 exact blk_cell h1 2 l2
theorem LnB.c3 (h : LnB W m mb v0 v1 v2 v3 v4 v5 v6 v7 bad) : W.cell? ⟨m, 3, none⟩ = some v3 := by
 obtain ⟨cs, h1, h2, l0, l1, l2, l3, l4, l5, l6, l7, hb, hm⟩ := h.blk
 exact blk_cell h1 3 l3
theorem LnB.c4 (h : LnB W m mb v0 v1 v2 v3 v4 v5 v6 v7 bad) : W.cell? ⟨m, 4, none⟩ = some v4 := by
 obtain ⟨cs, h1, h2, l0, l1, l2, l3, l4, l5, l6, l7, hb, hm⟩ := h.blk
 exact blk_cell h1 4 l4
theorem LnB.c5 (h : LnB W m mb v0 v1 v2 v3 v4 v5 v6 v7 bad) : W.cell? ⟨m, 5, none⟩ = some v5 := by
 obtain ⟨cs, h1, h2, l0, l1, l2, l3, l4, l5, l6, l7, hb, hm⟩ := h.blk
 exact blk_cell h1 5 l5
theorem LnB.c6 (h : LnB W m mb v0 v1 v2 v3 v4 v5 v6 v7 bad) : W.cell? ⟨m, 6, none⟩ = some v6 := by
 obtain ⟨cs, h1, h2, l0, l1, l2, l3, l4, l5, l6, l7, hb, hm⟩ := h.blk
 exact blk_cell h1 6 l6
theorem LnB.c7 (h : LnB W m mb v0 v1 v2 v3 v4 v5 v6 v7 bad) : W.cell? ⟨m, 7, none⟩ = some v7 := by
 obtain ⟨cs, h1, h2, l0, l1, l2, l3, l4, l5, l6, l7, hb, hm⟩ := h.blk
 exact blk_cell h1 7 l7
theorem LnB.cb (h : LnB W m mb v0 v1 v2 v3 v4 v5 v6 v7 bad) (i : Nat) (hi : i < 128) : W.cell? ⟨m, 8 + i, none⟩ = some (.bool (bad[i]?.getD false)) := by
 obtain ⟨cs, h1, h2, l0, l1, l2, l3, l4, l5, l6, l7, hb, hm⟩ := h.blk
 exact blk_cell h1 _ (hb i hi)
theorem LnB.cm (h : LnB W m mb v0 v1 v2 v3 v4 v5 v6 v7 bad) : W.cell? ⟨m, 136, none⟩ = some (.map (some mb)) := by
 obtain ⟨cs, h1, h2, l0, l1, l2, l3, l4, l5, l6, l7, hb, hm⟩ := h.blk
 exact blk_cell h1 136 hm
theorem LnB.setb (h : LnB W m mb v0 v1 v2 v3 v4 v5 v6 v7 bad) (i : Nat) (hi : i < 128) (b : Bool) : LnB (W.setCell ⟨m, 8 + i, none⟩ (.bool b)) m mb v0 v1 v2 v3 v4 v5 v6 v7 (bad.set i b) := by
 obtain ⟨cs, h1, h2, l0, l1, l2, l3, l4, l5, l6, l7, hb, hm⟩ := h.blk
 have hl := h.len
 have hs := cells_set h1 (8 + i) (.bool b)
 refine ⟨⟨_, hs, by simpa using h2, (by rw [Array.getElem?_setIfInBounds_ne (by omega)]; exact l0), (by rw [Array.getElem?_setIfInBounds_ne (by omega)]; exact l1), (by rw [Array.getElem?_setIfInBounds_ne (by omega)]; exact l2), (by rw [Array.getElem?_setIfInBounds_ne (by omega)]; exact l3), (by rw [Array.getElem?_setIfInBounds_ne (by omega)]; exact l4), (by rw [Array.getElem?_setIfInBounds_ne (by omega)]; exact l5), (by rw [Array.getElem?_setIfInBounds_ne (by omega)]; exact l6), (by rw [Array.getElem?_setIfInBounds_ne (by omega)]; exact l7), fun j hj => ?_, by rw [Array.getElem?_setIfInBounds_ne (by omega)]; exact hm⟩, by rw [List.length_set]; exact hl⟩
 by_cases e : i = j
 ·subst e
  rw [Array.getElem?_setIfInBounds_self_of_lt (by omega), List.getElem?_set_self (by omega)]
  rfl
 ·rw [Array.getElem?_setIfInBounds_ne (by omega), List.getElem?_set_ne e]
  exact hb j hj
theorem LnB.set8 (h : LnB W m mb v0 v1 v2 v3 v4 v5 v6 v7 bad) (n0 n1 n2 n3 n4 n5 n6 n7 : Value) : LnB (S8 W m n0 n1 n2 n3 n4 n5 n6 n7) m mb n0 n1 n2 n3 n4 n5 n6 n7 bad := by
 obtain ⟨cs, h1, h2, l0, l1, l2, l3, l4, l5, l6, l7, hb, hm⟩ := h.blk
 have hl := h.len
 have := cells_set (cells_set (cells_set (cells_set (cells_set (cells_set (cells_set (cells_set h1 0 n0) 1 n1) 2 n2) 3 n3) 4 n4) 5 n5) 6 n6) 7 n7
 refine ⟨⟨_, this, by simpa using h2, ?_, ?_, ?_, ?_, ?_, ?_, ?_, ?_, fun j hj => ?_, ?_⟩, hl⟩
 ·rw [Array.getElem?_setIfInBounds_ne (by omega), Array.getElem?_setIfInBounds_ne (by omega), Array.getElem?_setIfInBounds_ne (by omega), Array.getElem?_setIfInBounds_ne (by omega), Array.getElem?_setIfInBounds_ne (by omega), Array.getElem?_setIfInBounds_ne (by omega), Array.getElem?_setIfInBounds_ne (by omega), Array.getElem?_setIfInBounds_self_of_lt (by first | omega | (simp; omega))]
 ·rw [Array.getElem?_setIfInBounds_ne (by omega), Array.getElem?_setIfInBounds_ne (by omega), Array.getElem?_setIfInBounds_ne (by omega), Array.getElem?_setIfInBounds_ne (by omega), Array.getElem?_setIfInBounds_ne (by omega), Array.getElem?_setIfInBounds_ne (by omega), Array.getElem?_setIfInBounds_self_of_lt (by first | omega | (simp; omega))]
 ·rw [Array.getElem?_setIfInBounds_ne (by omega), Array.getElem?_setIfInBounds_ne (by omega), Array.getElem?_setIfInBounds_ne (by omega), Array.getElem?_setIfInBounds_ne (by omega), Array.getElem?_setIfInBounds_ne (by omega), Array.getElem?_setIfInBounds_self_of_lt (by first | omega | (simp; omega))]
 ·rw [Array.getElem?_setIfInBounds_ne (by omega), Array.getElem?_setIfInBounds_ne (by omega), Array.getElem?_setIfInBounds_ne (by omega), Array.getElem?_setIfInBounds_ne (by omega), Array.getElem?_setIfInBounds_self_of_lt (by first | omega | (simp; omega))]
 ·rw [Array.getElem?_setIfInBounds_ne (by omega), Array.getElem?_setIfInBounds_ne (by omega), Array.getElem?_setIfInBounds_ne (by omega), Array.getElem?_setIfInBounds_self_of_lt (by first | omega | (simp; omega))]
 ·rw [Array.getElem?_setIfInBounds_ne (by omega), Array.getElem?_setIfInBounds_ne (by omega), Array.getElem?_setIfInBounds_self_of_lt (by first | omega | (simp; omega))]
 ·rw [Array.getElem?_setIfInBounds_ne (by omega), Array.getElem?_setIfInBounds_self_of_lt (by first | omega | (simp; omega))]
 ·rw [Array.getElem?_setIfInBounds_self_of_lt (by first | omega | (simp; omega))]
 ·rw [Array.getElem?_setIfInBounds_ne (by omega), Array.getElem?_setIfInBounds_ne (by omega), Array.getElem?_setIfInBounds_ne (by omega), Array.getElem?_setIfInBounds_ne (by omega), Array.getElem?_setIfInBounds_ne (by omega), Array.getElem?_setIfInBounds_ne (by omega), Array.getElem?_setIfInBounds_ne (by omega), Array.getElem?_setIfInBounds_ne (by omega)]; exact hb j hj
 ·rw [Array.getElem?_setIfInBounds_ne (by omega), Array.getElem?_setIfInBounds_ne (by omega), Array.getElem?_setIfInBounds_ne (by omega), Array.getElem?_setIfInBounds_ne (by omega), Array.getElem?_setIfInBounds_ne (by omega), Array.getElem?_setIfInBounds_ne (by omega), Array.getElem?_setIfInBounds_ne (by omega), Array.getElem?_setIfInBounds_ne (by omega)]; exact hm
theorem LnB.set0 (h : LnB W m mb v0 v1 v2 v3 v4 v5 v6 v7 bad) (n0 : Value) : LnB (W.setCell ⟨m, 0, none⟩ n0) m mb n0 v1 v2 v3 v4 v5 v6 v7 bad := by
 obtain ⟨cs, h1, h2, l0, l1, l2, l3, l4, l5, l6, l7, hb, hm⟩ := h.blk
 have hl := h.len
 have hs := cells_set h1 0 n0
 refine ⟨⟨_, hs, by simpa using h2, Array.getElem?_setIfInBounds_self_of_lt (by omega), (by rw [Array.getElem?_setIfInBounds_ne (by omega)]; exact l1), (by rw [Array.getElem?_setIfInBounds_ne (by omega)]; exact l2), (by rw [Array.getElem?_setIfInBounds_ne (by omega)]; exact l3), (by rw [Array.getElem?_setIfInBounds_ne (by omega)]; exact l4), (by rw [Array.getElem?_setIfInBounds_ne (by omega)]; exact l5), (by rw [Array.getElem?_setIfInBounds_ne (by omega)]; exact l6), (by rw [Array.getElem?_setIfInBounds_ne (by omega)]; exact l7), fun j hj => by rw [Array.getElem?_setIfInBounds_ne (by omega)]; exact hb j hj, by rw [Array.getElem?_setIfInBounds_ne (by omega)]; exact hm⟩, hl⟩
end
/-- what turns: the line, its map -/
def LM (m mb q : Nat) : Prop := q = m ∨ q = mb
/-- a list that lies apart -/
def IntsF (M : Nat → Prop) (w : World) (a : Option Addr) (xs : List Int) : Prop :=
 xs = [] ∨ ∃ b off, a = some ⟨b, off, none⟩ ∧ ¬ M b ∧ b < w.heap.size ∧ ∀ i, i < xs.length → w.cell? ⟨b, off + i, none⟩ = some (.int .i64 (xs[i]?.getD 0))
section
variable {W W' : World} {a : Option Addr} {xs : List Int} {M : Nat → Prop}
theorem IntsF.at_ (h : IntsF M W a xs) : IntsAt W a xs := h.imp id fun ⟨b, off, ha, _, hb, hc⟩ => ⟨b, off, ha, hb, hc⟩
theorem IntsF.kp (h : IntsF M W a xs) {M' : Nat → Prop} (K : KpM M' W W') (hM : ∀ b, b < W.heap.size → M' b → M b) : IntsF M W' a xs :=
 h.imp id fun ⟨b, off, ha, hm, hb, hc⟩ => ⟨b, off, ha, hm, Nat.lt_of_lt_of_le hb K.size, fun i hi => (K.cell hb fun h => hm (hM b hb h)).trans (hc i hi)⟩
theorem IntsF.ext (h : IntsF M W a xs) (E : Ext W W') : IntsF M W' a xs := h.kp (M' := fun _ => False) ((KpM.of_ext E).mono fun _ h => h) (fun _ _ h => h.elim)
theorem IntsF.of_at (h : IntsAt W a xs) (hM : ∀ b, b < W.heap.size → ¬ M b) : IntsF M W a xs := h.imp id fun ⟨b, off, ha, hb, hc⟩ => ⟨b, off, ha, hM b hb, hb, hc⟩
theorem IntsF.of_T (h : IntsT W a xs) (hM : ∀ b cs fr, W.heap[b]? = some (.cells cs 3 fr) → ¬ M b) : IntsF M W a xs := h.imp id fun ⟨b, off, cs, fr, ha, hb, hc⟩ => ⟨b, off, ha, hM b cs fr hb, lt_of_block hb, hc⟩
end
/-- what is left of the losses -/
def leftL (L : List Loss) (gone : Int → Bool) (d : Int) : List Loss := if gone d = true then [] else L.filter fun y => y.after == d
/-- lists lie apart from the line, its map, and the blocks of ex -/
def LX (m mb : Nat) (ex : Nat → Prop) (q : Nat) : Prop := LM m mb q ∨ ex q
def LinAt (W : World) (m mb : Nat) (L : List Loss) (x : Lm) (ex : Nat → Prop := fun _ => False) : Prop := ∃ a1 a2 a3 c1 c2 c3,
 LnB W m mb (.slice a1 x.s.store.length c1) (.slice a2 x.s.tape.length c2) (.int .i64 x.s.taken) (.slice a3 x.s.printed.length c3) (.int .i64 x.s.time) (.int .i64 x.s.at_) (.int .i64 x.s.done) (.int .i64 x.s.why) x.bad ∧
 IntsF (LX m mb ex) W a1 x.s.store ∧ IntsF (LX m mb ex) W a2 x.s.tape ∧ IntsF (LX m mb ex) W a3 x.s.printed ∧ MapL W mb (leftL L x.gone)
theorem lin_far {W : World} {m mb : Nat} {v0 v1 v2 v3 v4 v5 v6 v7 : Value} {bad : List Bool} {g : Int → List Loss} (h : LnB W m mb v0 v1 v2 v3 v4 v5 v6 v7 bad) (k : MapL W mb g) : (∀ b cs fr, W.heap[b]? = some (.cells cs 3 fr) → ¬ LM m mb b) ∧ ∀ b cs fr, W.heap[b]? = some (.cells cs 91 fr) → ¬ LM m mb b := by
 obtain ⟨cs, h1, _⟩ := h.blk
 obtain ⟨f, h2, _⟩ := k
 obtain ⟨es, kk, h3⟩ := map_block h2
 refine ⟨fun b cs' fr hb hM => ?_, fun b cs' fr hb hM => ?_⟩
 ·rcases hM with rfl | rfl
  ·rw [h1] at hb; cases hb
  ·rw [h3] at hb; cases hb
 ·rcases hM with rfl | rfl
  ·rw [h1] at hb; cases hb
  ·rw [h3] at hb; cases hb
theorem lin_ne {W : World} {m mb : Nat} {v0 v1 v2 v3 v4 v5 v6 v7 : Value} {bad : List Bool} {g : Int → List Loss} (h : LnB W m mb v0 v1 v2 v3 v4 v5 v6 v7 bad) (k : MapL W mb g) : mb ≠ m := by
 obtain ⟨cs, h1, _⟩ := h.blk
 obtain ⟨f, h2, _⟩ := k
 obtain ⟨es, kk, h3⟩ := map_block h2
 rintro rfl
 rw [h1] at h3
 cases h3
theorem LinAt.ext {W W' : World} {m mb : Nat} {L : List Loss} {x : Lm} {ex : Nat → Prop} (h : LinAt W m mb L x ex) (E : Ext W W') : LinAt W' m mb L x ex := by
 obtain ⟨a1, a2, a3, c1, c2, c3, hb, i1, i2, i3, hm⟩ := h
 exact ⟨a1, a2, a3, c1, c2, c3, hb.ext E, i1.ext E, i2.ext E, i3.ext E, hm.kp (M := fun _ => False) ((KpM.of_ext E).mono fun _ h => h) id (fun _ _ _ _ h => h)⟩
theorem LinAt.turn {W W' : World} {m mb : Nat} {L : List Loss} {x : Lm} {ex : Nat → Prop} {M : Nat → Prop} (h : LinAt W m mb L x ex) (K : KpM M W W') (hM : ∀ b, b < W.heap.size → ¬ M b) : LinAt W' m mb L x ex := by
 obtain ⟨a1, a2, a3, c1, c2, c3, hb, i1, i2, i3, hm⟩ := h
 exact ⟨a1, a2, a3, c1, c2, c3, hb.kp K (hM _ hb.lt), i1.kp K (fun b h1 h2 => absurd h2 (hM b h1)), i2.kp K (fun b h1 h2 => absurd h2 (hM b h1)), i3.kp K (fun b h1 h2 => absurd h2 (hM b h1)), hm.kp K (hM _ (by obtain ⟨f, h2, _⟩ := hm; exact h2.lt)) (fun b cs fr hb => hM b (lt_of_block hb))⟩
end Go.Proofs.YtnhpcoagkmgdoaaGreat

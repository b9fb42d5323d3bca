import Derived.Test.YtnhpcoagkmgdoaaGreatX4
import Derived.Test.YtnhpcoagkmgdoaaGreatX17
set_option linter.unusedVariables false
set_option linter.unusedSimpArgs false
/- What an argument of the rows of layer 10 holds: bytes, losses, holes. -/
namespace Go.Q
open Go Go.RowKit
def PairsAt (w : World) (a : Option Addr) (x : List (Nat × Nat)) : Prop :=
 x = [] ∨ ∃ b off, a = some ⟨b, off, none⟩ ∧ b < w.heap.size ∧ ∀ i, i < x.length → w.cell? ⟨b, off + i * 2, none⟩ = some (.int .u8 ((x[i]?.getD (0, 0)).1 : Int)) ∧ w.cell? ⟨b, off + i * 2 + 1, none⟩ = some (.int .u8 ((x[i]?.getD (0, 0)).2 : Int))
def Pairs256 (x : List (Nat × Nat)) : Prop := ∀ i : Nat, i < x.length → (x[i]?.getD (0, 0)).1 < 256 ∧ (x[i]?.getD (0, 0)).2 < 256
theorem PairsAt.ext {w w' : World} {a : Option Addr} {x : List (Nat × Nat)} (h : PairsAt w a x) (E : Ext w w') : PairsAt w' a x :=
 h.imp id fun ⟨b, off, ha, hb, hc⟩ => ⟨b, off, ha, Nat.lt_of_lt_of_le hb E.size, fun i hi => ⟨(E.cell (p := ⟨b, off + i * 2, none⟩) hb).trans (hc i hi).1, (E.cell (p := ⟨b, off + i * 2 + 1, none⟩) hb).trans (hc i hi).2⟩⟩
def firstN {α : Type} (f : Nat → α) (n : Nat) : List α := (List.range n).map f
theorem firstN_length {α : Type} (f : Nat → α) (n : Nat) : (firstN f n).length = n := by simp [firstN]
theorem firstN_get {α : Type} (f : Nat → α) {n i : Nat} (d : α) (h : i < n) : (firstN f n)[i]?.getD d = f i := by simp [firstN, h]
end Go.Q
namespace Go.Proofs.YtnhpcoagkmgdoaaGreat
open Go.ChangeShapes Go.WideShapes Go.ChangeAt Go.RowKit Go.Joins Go.Deep Go.Q
set_option linter.unusedVariables false
theorem cellsLoss : Tryz.prog.cellsOf 91 = 3 := by kernel_rfl
theorem cellsInt10 : Tryz.prog.cellsOf 3 = 1 := by kernel_rfl
theorem cellsU8 : Tryz.prog.cellsOf 5 = 1 := by kernel_rfl
section
variable {H : Type} {enc : TypeId × Value → H} {w : World} {base : Nat} {spare : Nat → Bool} {held : Bool}
theorem i64_wf {a : Int} (h : (Lit.int .i64 a).wf = true) : -9223372036854775808 ≤ a ∧ a ≤ 9223372036854775807 := by
 simp [Lit.wf, IntKind.min, IntKind.max, IntKind.signed, IntKind.bits] at h
 omega
theorem int_cell {n : Nat} {t : TypeId} {k : IntKind} {v : Value} {y : DataW H × List MemPlace} (ht : Tryz.prog.underlying t = some (.int k)) (h : DataW.trod enc Tryz.prog w base spare held n t [v] = some y) : ∃ x, v = .int k x ∧ (Lit.int k x).wf = true := by
 obtain ⟨x, e, _, hw⟩ := DataW.trod_int ht h
 exact ⟨x, List.cons.inj e |>.1, hw⟩
theorem rows_of_trod {n : Nat} {v : Value} {y : DataW H × List MemPlace} (h : DataW.trod enc Tryz.prog w base spare held n 63 [v] = some y) :
  ∃ a c rs, v = .slice a (rs : List Nat).length c ∧ (rs.length ≤ c ∧ c ≤ 9223372036854775807) ∧ BytesAt w a (natI rs) ∧ ∀ r ∈ rs, r < 256 := by
 rcases open_ints Tryz.underlying63 Tryz.underlying5 (by kernel_rfl) h with ⟨hcs, _⟩ | ⟨x, l, c, zs, hcs, _, hl, hm, hz, _, hcell, hwf⟩
 ·exact ⟨none, 0, [], List.cons.inj hcs |>.1, ⟨by simp, by decide⟩, .inl rfl, by intro x hx; simp at hx⟩
 ·have hlz : l ≤ zs.length := by rw [hz]; split <;> omega
  have hm' : c ≤ 9223372036854775807 := Nat.le_trans hm (by decide)
  have hlen : (zs.take l).length = l := by simp [hlz]
  have hbd : ∀ x ∈ zs.take l, 0 ≤ x ∧ x ≤ 255 := fun x hx => u8_bd (hwf x (List.mem_of_mem_take hx))
  have hb : BytesAt w (some x) (zs.take l) := by
   by_cases h0 : l = 0
   ·exact .inl (by simp [h0])
   obtain ⟨b, off, rfl, hc⟩ := ints_at hcell (by omega)
   refine .inr ⟨b, off, rfl, World.block_lt_of_cell? _ _ (hc 0 (by omega)), fun i hi => ?_⟩
   rw [hlen] at hi
   have e : (zs.take l)[i]?.getD 0 = zs.getD i 0 := by simp [List.getElem?_take, hi, List.getD]
   rw [e]
   exact hc i (by omega)
  generalize zs.take l = ys at hlen hbd hb
  have hny : natI (ys.map Int.toNat) = ys := by
   unfold natI
   rw [List.map_map]
   refine (List.map_congr_left fun x hx => ?_).trans (List.map_id ys)
   have := hbd x hx
   simp only [Function.comp_apply, id_eq]
   omega
  refine ⟨some x, c, ys.map Int.toNat, by rw [List.length_map, hlen]; exact List.cons.inj hcs |>.1, ⟨by rw [List.length_map, hlen]; omega, hm'⟩, ?_, fun r hr => ?_⟩
  ·rw [hny]; exact hb
  ·obtain ⟨x, hx, rfl⟩ := List.mem_map.1 hr
   have := hbd x hx
   omega
set_option maxRecDepth 100000 in
theorem loss_of_cells {fuel : Nat} {cs : List Value} {y : DataW H × List MemPlace} (h : DataW.trod enc Tryz.prog w base spare held fuel 91 cs = some y) :
  ∃ s : Loss, cs = [.int .i64 s.after, .int .i64 s.addr, .int .i64 s.bit] ∧ -9223372036854775808 ≤ s.after ∧ s.after ≤ 9223372036854775807 := by
 obtain ⟨xs, n, _, _, hl, hlen, hg⟩ := DataW.trod_struct Tryz.underlying91 h
 rw [cellsLoss] at hl
 match cs, hl with
 | [c0, c1, c2], _ =>
  match xs, hlen with
  | [y0, y1, y2], _ =>
   have h0 : DataW.trod enc Tryz.prog w base spare held n 3 (List.take (Tryz.prog.cellsOf 3) (List.drop 0 [c0, c1, c2])) = some y0 := hg 0 _ rfl
   have h1 : DataW.trod enc Tryz.prog w base spare held n 3 (List.take (Tryz.prog.cellsOf 3) (List.drop 1 [c0, c1, c2])) = some y1 := hg 1 _ rfl
   have h2 : DataW.trod enc Tryz.prog w base spare held n 3 (List.take (Tryz.prog.cellsOf 3) (List.drop 2 [c0, c1, c2])) = some y2 := hg 2 _ rfl
   rw [cellsInt10] at h0 h1 h2
   obtain ⟨x0, rfl, w0⟩ := int_cell Tryz.underlying3 (v := c0) h0
   obtain ⟨x1, rfl, w1⟩ := int_cell Tryz.underlying3 (v := c1) h1
   obtain ⟨x2, rfl, w2⟩ := int_cell Tryz.underlying3 (v := c2) h2
   exact ⟨⟨x0, x1, x2⟩, rfl, i64_wf w0⟩
theorem cells_pair {a : Addr} {c : List Value} (h : w.cells? base a 2 = some c) : ∃ c0 c1, c = [c0, c1] ∧ w.cell? a = some c0 ∧ w.cell? (a.add 1) = some c1 := by
 unfold World.cells? at h
 split at h
 ·have e0 : a.add 0 = a := by simp [Addr.add]
  simp only [List.range_succ, List.range_zero, List.nil_append, List.cons_append, List.mapM_cons, List.mapM_nil, e0] at h
  cases h1 : w.cell? a with
  | none => simp [h1] at h
  | some c0 =>
   cases h2 : w.cell? (a.add 1) with
   | none => simp [h1, h2] at h
   | some c1 =>
    simp [h1, h2] at h
    exact ⟨c0, c1, h.symm, rfl, rfl⟩
 ·cases h
theorem cells_three {a : Addr} {c : List Value} (h : w.cells? base a 3 = some c) : ∃ c0 c1 c2, c = [c0, c1, c2] ∧ w.cell? a = some c0 ∧ w.cell? (a.add 1) = some c1 ∧ w.cell? (a.add 2) = some c2 := by
 unfold World.cells? at h
 split at h
 ·have e0 : a.add 0 = a := by simp [Addr.add]
  simp only [List.range_succ, List.range_zero, List.nil_append, List.cons_append, List.mapM_cons, List.mapM_nil, e0] at h
  cases h1 : w.cell? a with
  | none => simp [h1] at h
  | some c0 =>
   cases h2 : w.cell? (a.add 1) with
   | none => simp [h1, h2] at h
   | some c1 =>
    cases h3 : w.cell? (a.add 2) with
    | none => simp [h1, h2, h3] at h
    | some c2 =>
     simp [h1, h2, h3] at h
     exact ⟨c0, c1, c2, h.symm, rfl, rfl, rfl⟩
 ·cases h
/-- losses that came in -/
theorem losses_of_trod {n : Nat} {v : Value} {y : DataW H × List MemPlace} (h : DataW.trod enc Tryz.prog w base spare held n 25 [v] = some y) :
  ∃ a c L, v = .slice a (L : List Loss).length c ∧ L.length ≤ 9223372036854775807 ∧ LossAt w a L ∧ ∀ y ∈ L, -9223372036854775808 ≤ y.after ∧ y.after ≤ 9223372036854775807 := by
 rcases DataW.trod_slice Tryz.underlying25 h with ⟨hcs, _⟩ | ⟨a, len, cap, elems, rest, m, _, hcs, _, _, hl, hm, hlen, hel, _⟩
 ·exact ⟨none, 0, [], List.cons.inj hcs |>.1, by simp, .inl rfl, by simp⟩
 ·have hm' : cap ≤ 9223372036854775807 := Nat.le_trans hm (by decide)
  rw [cellsLoss] at hel
  have each : ∀ i, i < len → ∃ s : Loss, (w.cell? (a.add (i * 3)) = some (.int .i64 s.after) ∧ w.cell? ((a.add (i * 3)).add 1) = some (.int .i64 s.addr) ∧ w.cell? ((a.add (i * 3)).add 2) = some (.int .i64 s.bit)) ∧ -9223372036854775808 ≤ s.after ∧ s.after ≤ 9223372036854775807 := by
   intro i hi
   have hx := hel i hi
   rw [List.getElem?_eq_getElem (by omega), Option.bind_eq_some_iff] at hx
   obtain ⟨cs, h1, h2⟩ := hx
   obtain ⟨s, rfl, hs⟩ := loss_of_cells h2
   obtain ⟨c0, c1, c2, e, g0, g1, g2⟩ := cells_three h1
   simp only [List.cons.injEq, and_true] at e
   obtain ⟨e0, e1, e2⟩ := e
   rw [← e0] at g0
   rw [← e1] at g1
   rw [← e2] at g2
   exact ⟨s, ⟨g0, g1, g2⟩, hs⟩
  obtain ⟨f, hf⟩ : ∃ f : Nat → Loss, ∀ i, i < len → (w.cell? (a.add (i * 3)) = some (.int .i64 (f i).after) ∧ w.cell? ((a.add (i * 3)).add 1) = some (.int .i64 (f i).addr) ∧ w.cell? ((a.add (i * 3)).add 2) = some (.int .i64 (f i).bit)) ∧ -9223372036854775808 ≤ (f i).after ∧ (f i).after ≤ 9223372036854775807 :=
   ⟨fun i => if h : i < len then Classical.choose (each i h) else ⟨0, 0, 0⟩, fun i hi => by simp only [hi, dif_pos]; exact Classical.choose_spec (each i hi)⟩
  refine ⟨some a, cap, firstN f len, by rw [firstN_length]; exact List.cons.inj hcs |>.1, by rw [firstN_length]; omega, ?_, ?_⟩
  ·by_cases h0 : len = 0
   ·exact .inl (by rw [h0]; rfl)
   obtain ⟨b, off, spot⟩ := a
   have hsp : spot = none := by simpa [Addr.add] using World.cell?_spot (hf 0 (by omega)).1.1
   subst hsp
   have hg : ∀ i, i < len → w.cell? ⟨b, off + i * 3, none⟩ = some (.int .i64 (f i).after) ∧ w.cell? ⟨b, off + i * 3 + 1, none⟩ = some (.int .i64 (f i).addr) ∧ w.cell? ⟨b, off + i * 3 + 2, none⟩ = some (.int .i64 (f i).bit) := fun i hi => by
    have := (hf i hi).1
    rw [Addr.add_lit, Addr.add_lit, Addr.add_lit] at this
    exact this
   refine .inr ⟨b, off, rfl, World.block_lt_of_cell? _ _ (hg 0 (by omega)).1, fun i hi => ?_⟩
   rw [firstN_length] at hi
   rw [firstN_get f _ hi]
   exact hg i hi
  ·intro y hy
   obtain ⟨i, hi, rfl⟩ := List.mem_map.1 hy
   exact (hf i (List.mem_range.1 hi)).2
set_option maxRecDepth 100000 in
/-- losses that came in, and how much they weigh -/
theorem losses_data {n l c : Nat} {a : Option Addr} {d : DataW H} {p : List MemPlace} (h : DataW.trod enc Tryz.prog w base spare held n 25 [.slice a l c] = some (d, p)) :
  l = 0 ∨ ∃ es sp, d = .slice es sp ∧ es.length = l := by
 rcases DataW.trod_slice Tryz.underlying25 h with ⟨hcs, _⟩ | ⟨b, len, cap, elems, rest, m, _, hcs, hx, _, _, _, hlen, _, _⟩
 ·cases hcs
  exact .inl rfl
 ·cases hcs
  cases hx
  exact .inr ⟨_, _, rfl, by rw [List.length_map, hlen]⟩
end
end Go.Proofs.YtnhpcoagkmgdoaaGreat

import Derived.WalkKit
import Derived.WalkSpells
import Derived.WalkLawsBesides
import Derived.Lib.Hide
set_option linter.unusedVariables false
set_option linter.unusedSimpArgs false
/- Small facts that all walks share: masks on int, slices of ints that read as a list, boxes, what stays when the world grows. -/
namespace Go.Q
open Go.RowKit
theorem i64_mask (n m : Int) (j : Nat) (hj : j ≤ 62) (hm : (BitVec.ofInt 64 m).toNat = 2 ^ j - 1) : bits .and .i64 n m = n % 2 ^ j := by
  have key : (BitVec.ofInt 64 n &&& BitVec.ofInt 64 m).toNat = (n % ((2 ^ 64 : Nat) : Int)).toNat % 2 ^ j := by
    rw [BitVec.toNat_and, BitVec.toNat_ofInt, hm, Nat.and_two_pow_sub_one_eq_mod]
  show IntKind.i64.wrap ((BitVec.ofInt 64 n &&& BitVec.ofInt 64 m).toNat : Nat) = n % 2 ^ j
  have h0 : 0 ≤ n % ((2 ^ 64 : Nat) : Int) := Int.emod_nonneg _ (by decide)
  have e : (((n % ((2 ^ 64 : Nat) : Int)).toNat % 2 ^ j : Nat) : Int) = n % 2 ^ j := by
    rw [Int.natCast_emod, Int.toNat_of_nonneg h0]
    have hd : (((2 ^ j : Nat) : Int)) ∣ ((2 ^ 64 : Nat) : Int) := Int.natCast_dvd_natCast.2 (Nat.pow_dvd_pow 2 (by omega))
    rw [Int.emod_emod_of_dvd _ hd]
    simp
  rw [key, e]
  have hlt : n % 2 ^ j < 2 ^ j := Int.emod_lt_of_pos _ (by exact_mod_cast Nat.two_pow_pos j)
  have hge : 0 ≤ n % 2 ^ j := Int.emod_nonneg _ (by have := Nat.two_pow_pos j; exact_mod_cast (by omega : (2 ^ j : Nat) ≠ 0))
  have hb : (2 : Int) ^ j ≤ 2 ^ 62 := by exact_mod_cast Nat.pow_le_pow_right (by decide) hj
  rw [IntKind.wrap_i64]
  omega
theorem i64_and15 (n : Int) : bits .and .i64 n 15 = n % 16 := i64_mask n 15 4 (by decide) (by decide)
theorem i64_and127 (n : Int) : bits .and .i64 n 127 = n % 128 := i64_mask n 127 7 (by decide) (by decide)
theorem i64_and24 (n : Int) : bits .and .i64 n 16777215 = n % 16777216 := i64_mask n 16777215 24 (by decide) (by decide)
theorem i64_or128 (n x : Int) (h0 : 0 ≤ n) (h1 : n ≤ 16777215) (h2 : 0 ≤ x) (h3 : x ≤ 127) : bits .or .i64 (n * 128) x = n * 128 + x :=
  bits_join .i64 62 (by decide) (fun n h0 h1 => by rw [IntKind.wrap_i64]; omega) 7 (n * 128) x (by omega) (by omega) (by omega) (by omega) (by omega) (by omega)
attribute [go_sem] i64_and15 i64_and24
theorem ret_bool {a b : Bool} (h : a = b) : Ending.returned (.bool a) = .returned (.bool b) := by rw [h]
theorem ret_int {k : IntKind} {a b : Int} (h : a = b) : Ending.returned (.int k a) = .returned (.int k b) := by rw [h]
theorem ret_int2 {k l : IntKind} {a b c d : Int} (h : a = b) (h' : c = d) : Ending.returned (.tuple #[.int k a, .int l c]) = .returned (.tuple #[.int k b, .int l d]) := by rw [h, h']
/-- what lay in w lies in w' unturned -/
abbrev Ext (w w' : World) : Prop := Below w.heap.size w w'
theorem Ext.refl (w : World) : Ext w w := Below.refl _ _
theorem Ext.step {n : Nat} {a b c : World} (h : Below n a b) (hn : n ≤ b.heap.size) (k : Ext b c) : Below n a c := h.trans (k.mono hn)
theorem Ext.comp {a b c : World} (h : Ext a b) (k : Ext b c) : Ext a c := h.trans (k.mono h.size)
theorem Ext.alloc {a b : World} (h : Ext a b) (o : Obj) : Ext a (b.alloc o) := Below.alloc h h.size o
/-- the cells of a new block, still there later -/
theorem box_at {w w1 : World} {vs : Array Value} {T : TypeId} (h : Ext (w.alloc (.cells vs T)) w1) (i : Nat) {v : Value} (hv : vs[i]? = some v) : w1.cell? ⟨w.heap.size, i, none⟩ = some v := by
  refine (h.cell (p := ⟨w.heap.size, i, none⟩) (by simp)).trans ?_
  have e : (w.alloc (.cells vs T)).heap[w.heap.size]? = some (.cells vs T (0, 0)) := by show (w.heap.push _)[w.heap.size]? = _; simp
  simp only [World.cell?, e]
  simpa using hv
theorem box_free {w w1 : World} {vs : Array Value} {T : TypeId} (h : Ext (w.alloc (.cells vs T)) w1) (i : Nat) : w1.frozen? ⟨w.heap.size, i, none⟩ = false := by
  refine (h.frozen (p := ⟨w.heap.size, i, none⟩) (by simp)).trans ?_
  have e : (w.alloc (.cells vs T)).heap[w.heap.size]? = some (.cells vs T (0, 0)) := by show (w.heap.push _)[w.heap.size]? = _; simp
  simp only [World.frozen?, e]
  simp
theorem Ext.old {w w1 : World} {o : Obj} (h : Ext (w.alloc o) w1) : Ext w w1 := Ext.comp ((Ext.refl w).alloc o) h
/-- the numbers xs lie from a on -/
def IntsAt (w : World) (a : Option Addr) (xs : List Int) : Prop :=
  xs = [] ∨ ∃ b off, a = some ⟨b, off, none⟩ ∧ b < w.heap.size ∧ ∀ i, i < xs.length → w.cell? ⟨b, off + i, none⟩ = some (.int .i64 (xs[i]?.getD 0))
theorem IntsAt.ext {w w' : World} {a : Option Addr} {xs : List Int} (h : IntsAt w a xs) (e : Ext w w') : IntsAt w' a xs := by
  rcases h with h | ⟨b, off, ha, hb, hc⟩
  · exact .inl h
  · exact .inr ⟨b, off, ha, Nat.lt_of_lt_of_le hb e.size, fun i hi => (e.cell (p := ⟨b, off + i, none⟩) hb).trans (hc i hi)⟩
theorem IntsAt.one {w : World} {b : Nat} {x : Int} (hb : b < w.heap.size) (h : w.cell? ⟨b, 0, none⟩ = some (.int .i64 x)) : IntsAt w (some ⟨b, 0, none⟩) [x] :=
  .inr ⟨b, 0, rfl, hb, fun i hi => by
    have : i = 0 := by simpa using hi
    subst this; simpa using h⟩
/-- the place of the first element of which p holds; -1 -/
def idxQ (p : Int → Bool) (xs : List Int) : Int := match xs.findIdx? p with | some i => (i : Int) | none => -1
theorem idxQ_hit (p : Int → Bool) (xs : List Int) (k : Nat) (hk : k < xs.length) (hp : p (xs[k]?.getD 0) = true) (hn : ∀ j, j < k → p (xs[j]?.getD 0) = false) : idxQ p xs = k := by
  have : xs.findIdx? p = some k := by
    rw [List.findIdx?_eq_some_iff_getElem]
    refine ⟨hk, ?_, fun j hj => ?_⟩
    · simpa [List.getElem?_eq_getElem hk] using hp
    · have := hn j hj
      rw [List.getElem?_eq_getElem (by omega)] at this
      simpa using this
  simp [idxQ, this]
theorem idxQ_miss (p : Int → Bool) (xs : List Int) (hn : ∀ j, j < xs.length → p (xs[j]?.getD 0) = false) : idxQ p xs = -1 := by
  have : xs.findIdx? p = none := by
    rw [List.findIdx?_eq_none_iff]
    intro x hx
    obtain ⟨i, hi, rfl⟩ := List.mem_iff_getElem.1 hx
    have := hn i hi
    rw [List.getElem?_eq_getElem hi] at this
    simpa using this
  simp [idxQ, this]
theorem idxQ_nonneg (p : Int → Bool) (xs : List Int) : decide (0 ≤ idxQ p xs) = xs.any p := by
  unfold idxQ
  cases h : xs.findIdx? p with
  | none =>
    rw [List.findIdx?_eq_none_iff] at h
    symm; simp only [Int.reduceNeg]
    rw [show decide ((0 : Int) ≤ -1) = false from by decide]
    rw [List.any_eq_false]
    intro x hx; simpa using h x hx
  | some i =>
    rw [List.findIdx?_eq_some_iff_getElem] at h
    obtain ⟨hi, hp, _⟩ := h
    have : xs.any p = true := List.any_eq_true.2 ⟨xs[i], List.getElem_mem hi, hp⟩
    rw [this]; simp
/-- what a predicate may do: it answers p x, and lays only blocks of its own -/
def PredQ (P : Program) (g : Nat) (lb : Array Value) (p : Int → Bool) (w : World) : Prop :=
  ∀ (W : World) (x : Int), Ext w W → Calls P g (#[.int .i64 x] ++ lb) W fun e w' => e = .returned (.bool (p x)) ∧ Ext w w'
theorem idxQ_lt (p : Int → Bool) (xs : List Int) : -1 ≤ idxQ p xs ∧ idxQ p xs < xs.length := by
  unfold idxQ
  cases h : xs.findIdx? p with
  | none => simp; omega
  | some i =>
    rw [List.findIdx?_eq_some_iff_getElem] at h
    obtain ⟨hi, _⟩ := h
    simp; omega
end Go.Q

import Derived.WalkKit
import Derived.WalkSpells
import Derived.WalkLawsBesides
import Derived.Lib.Hide
import Derived.Test.YtcijneecjkpebaaRows
import Derived.Deep.LoopGhost
import Derived.Shelf.Abstract
import Derived.BigQuiet
import Derived.Deep.QuietTactic
import Derived.RangeFuncFrom
import Derived.RangeFuncNested
import Derived.RangeFuncBound
import Derived.RangeFuncCalls
import Derived.RangeFuncLeaves
import Derived.Shelf.RegionOpen
import Derived.OwnWalkIn
import Derived.TacticsInMore
import Derived.LoopNIn
import Derived.LoopIn
import Derived.Deep.RegionHeld3
import Derived.Deep.DeepCutAuto
import Derived.Test.YtcijneecjkpebaaUS4
set_option linter.unusedVariables false
set_option linter.unusedSimpArgs false
/- Small facts that all walks share: masks on int, slices of ints that read as a list, boxes, what stays when the world grows. -/
namespace Go.Q
open Go.RowKit
theorem i64_mask (n m : Int) (j : Nat) (hj : j ≤ 62) (hm : (BitVec.ofInt 64 m).toNat = 2 ^ j - 1) : bits .and .i64 n m = n % 2 ^ j := by
  have key : (BitVec.ofInt 64 n &&& BitVec.ofInt 64 m).toNat = (n % ((2 ^ 64 : Nat) : Int)).toNat % 2 ^ j := by
    rw [BitVec.toNat_and, BitVec.toNat_ofInt, hm, Nat.and_two_pow_sub_one_eq_mod]
  show IntKind.i64.wrap ((BitVec.ofInt 64 n &&& BitVec.ofInt 64 m).toNat : Nat) = n % 2 ^ j
  have h0 : 0 ≤ n % ((2 ^ 64 : Nat) : Int) := Int.emod_nonneg _ (by decide)
  have e : (((n % ((2 ^ 64 : Nat) : Int)).toNat % 2 ^ j : Nat) : Int) = n % 2 ^ j := by
    rw [Int.natCast_emod, Int.toNat_of_nonneg h0]
    have hd : (((2 ^ j : Nat) : Int)) ∣ ((2 ^ 64 : Nat) : Int) := Int.natCast_dvd_natCast.2 (Nat.pow_dvd_pow 2 (by omega))
    rw [Int.emod_emod_of_dvd _ hd]
    simp
  rw [key, e]
  have hlt : n % 2 ^ j < 2 ^ j := Int.emod_lt_of_pos _ (by exact_mod_cast Nat.two_pow_pos j)
  have hge : 0 ≤ n % 2 ^ j := Int.emod_nonneg _ (by have := Nat.two_pow_pos j; exact_mod_cast (by omega : (2 ^ j : Nat) ≠ 0))
  have hb : (2 : Int) ^ j ≤ 2 ^ 62 := by exact_mod_cast Nat.pow_le_pow_right (by decide) hj
  rw [IntKind.wrap_i64]
  omega
theorem i64_and15 (n : Int) : bits .and .i64 n 15 = n % 16 := i64_mask n 15 4 (by decide) (by decide)
theorem i64_and127 (n : Int) : bits .and .i64 n 127 = n % 128 := i64_mask n 127 7 (by decide) (by decide)
theorem i64_and24 (n : Int) : bits .and .i64 n 16777215 = n % 16777216 := i64_mask n 16777215 24 (by decide) (by decide)
theorem i64_or128 (n x : Int) (h0 : 0 ≤ n) (h1 : n ≤ 16777215) (h2 : 0 ≤ x) (h3 : x ≤ 127) : bits .or .i64 (n * 128) x = n * 128 + x :=
  bits_join .i64 62 (by decide) (fun n h0 h1 => by rw [IntKind.wrap_i64]; omega) 7 (n * 128) x (by omega) (by omega) (by omega) (by omega) (by omega) (by omega)
attribute [go_sem] i64_and15 i64_and24
theorem ret_bool {a b : Bool} (h : a = b) : Ending.returned (.bool a) = .returned (.bool b) := by rw [h]
theorem ret_int {k : IntKind} {a b : Int} (h : a = b) : Ending.returned (.int k a) = .returned (.int k b) := by rw [h]
theorem ret_int2 {k l : IntKind} {a b c d : Int} (h : a = b) (h' : c = d) : Ending.returned (.tuple #[.int k a, .int l c]) = .returned (.tuple #[.int k b, .int l d]) := by rw [h, h']
/-- what lay in w lies in w' unturned -/
abbrev Ext (w w' : World) : Prop := Below w.heap.size w w'
theorem Ext.refl (w : World) : Ext w w := Below.refl _ _
theorem Ext.step {n : Nat} {a b c : World} (h : Below n a b) (hn : n ≤ b.heap.size) (k : Ext b c) : Below n a c := h.trans (k.mono hn)
theorem Ext.comp {a b c : World} (h : Ext a b) (k : Ext b c) : Ext a c := h.trans (k.mono h.size)
theorem Ext.alloc {a b : World} (h : Ext a b) (o : Obj) : Ext a (b.alloc o) := Below.alloc h h.size o
/-- the cells of a new block, still there later -/
theorem box_at {w w1 : World} {vs : Array Value} {T : TypeId} (h : Ext (w.alloc (.cells vs T)) w1) (i : Nat) {v : Value} (hv : vs[i]? = some v) : w1.cell? ⟨w.heap.size, i, none⟩ = some v := by
  refine (h.cell (p := ⟨w.heap.size, i, none⟩) (by simp)).trans ?_
  have e : (w.alloc (.cells vs T)).heap[w.heap.size]? = some (.cells vs T (0, 0)) := by show (w.heap.push _)[w.heap.size]? = _; simp
  simp only [World.cell?, e]
  simpa using hv
theorem box_free {w w1 : World} {vs : Array Value} {T : TypeId} (h : Ext (w.alloc (.cells vs T)) w1) (i : Nat) : w1.frozen? ⟨w.heap.size, i, none⟩ = false := by
  refine (h.frozen (p := ⟨w.heap.size, i, none⟩) (by simp)).trans ?_
  have e : (w.alloc (.cells vs T)).heap[w.heap.size]? = some (.cells vs T (0, 0)) := by show (w.heap.push _)[w.heap.size]? = _; simp
  simp only [World.frozen?, e]
  simp
theorem Ext.old {w w1 : World} {o : Obj} (h : Ext (w.alloc o) w1) : Ext w w1 := Ext.comp ((Ext.refl w).alloc o) h
/-- the numbers xs lie from a on -/
def IntsAt (w : World) (a : Option Addr) (xs : List Int) : Prop :=
  xs = [] ∨ ∃ b off, a = some ⟨b, off, none⟩ ∧ b < w.heap.size ∧ ∀ i, i < xs.length → w.cell? ⟨b, off + i, none⟩ = some (.int .i64 (xs[i]?.getD 0))
theorem IntsAt.ext {w w' : World} {a : Option Addr} {xs : List Int} (h : IntsAt w a xs) (e : Ext w w') : IntsAt w' a xs := by
  rcases h with h | ⟨b, off, ha, hb, hc⟩
  · exact .inl h
  · exact .inr ⟨b, off, ha, Nat.lt_of_lt_of_le hb e.size, fun i hi => (e.cell (p := ⟨b, off + i, none⟩) hb).trans (hc i hi)⟩
theorem IntsAt.one {w : World} {b : Nat} {x : Int} (hb : b < w.heap.size) (h : w.cell? ⟨b, 0, none⟩ = some (.int .i64 x)) : IntsAt w (some ⟨b, 0, none⟩) [x] :=
  .inr ⟨b, 0, rfl, hb, fun i hi => by
    have : i = 0 := by simpa using hi
    subst this; simpa using h⟩
/-- the place of the first element of which p holds; -1 -/
def idxQ (p : Int → Bool) (xs : List Int) : Int := match xs.findIdx? p with | some i => (i : Int) | none => -1
theorem idxQ_hit (p : Int → Bool) (xs : List Int) (k : Nat) (hk : k < xs.length) (hp : p (xs[k]?.getD 0) = true) (hn : ∀ j, j < k → p (xs[j]?.getD 0) = false) : idxQ p xs = k := by
  have : xs.findIdx? p = some k := by
    rw [List.findIdx?_eq_some_iff_getElem]
    refine ⟨hk, ?_, fun j hj => ?_⟩
    · simpa [List.getElem?_eq_getElem hk] using hp
    · have := hn j hj
      rw [List.getElem?_eq_getElem (by omega)] at this
      simpa using this
  simp [idxQ, this]
theorem idxQ_miss (p : Int → Bool) (xs : List Int) (hn : ∀ j, j < xs.length → p (xs[j]?.getD 0) = false) : idxQ p xs = -1 := by
  have : xs.findIdx? p = none := by
    rw [List.findIdx?_eq_none_iff]
    intro x hx
    obtain ⟨i, hi, rfl⟩ := List.mem_iff_getElem.1 hx
    have := hn i hi
    rw [List.getElem?_eq_getElem hi] at this
    simpa using this
  simp [idxQ, this]
theorem idxQ_nonneg (p : Int → Bool) (xs : List Int) : decide (0 ≤ idxQ p xs) = xs.any p := by
  unfold idxQ
  cases h : xs.findIdx? p with
  | none =>
    rw [List.findIdx?_eq_none_iff] at h
    symm; simp only [Int.reduceNeg]
    rw [show decide ((0 : Int) ≤ -1) = false from by decide]
    rw [List.any_eq_false]
    intro x hx; simpa using h x hx
  | some i =>
    rw [List.findIdx?_eq_some_iff_getElem] at h
    obtain ⟨hi, hp, _⟩ := h
    have : xs.any p = true := List.any_eq_true.2 ⟨xs[i], List.getElem_mem hi, hp⟩
    rw [this]; simp
/-- what a predicate may do: it answers p x, and lays only blocks of its own -/
def PredQ (P : Program) (g : Nat) (lb : Array Value) (p : Int → Bool) (w : World) : Prop :=
  ∀ (W : World) (x : Int), Ext w W → Calls P g (#[.int .i64 x] ++ lb) W fun e w' => e = .returned (.bool (p x)) ∧ Ext w w'
theorem idxQ_lt (p : Int → Bool) (xs : List Int) : -1 ≤ idxQ p xs ∧ idxQ p xs < xs.length := by
  unfold idxQ
  cases h : xs.findIdx? p with
  | none => simp; omega
  | some i =>
    rw [List.findIdx?_eq_some_iff_getElem] at h
    obtain ⟨hi, _⟩ := h
    simp; omega
end Go.Q
/- Contracts of the small functions that only reckon: in, Word, Address, Sign, signed, pack, unpack, Written. -/
namespace Go.Proofs.Ytcijneecjkpebaa
open Go.RowKit Go.Q
set_option maxHeartbeats 400000 in
theorem in_any (n l h : Int) (w : World) :
    Calls Try.prog 110 #[.int .i64 n, .int .i64 l, .int .i64 h] w fun e w' => e = .returned (.bool (inB n l h)) ∧ w = w' := by
  go_enter Try.func110, Try.ntmps110
  by_cases h1 : l ≤ n
  · go_wp2
    go_ret
    exact ⟨ret_bool (by simp [inB, h1]), rfl⟩
  · go_wp2
    go_ret
    exact ⟨ret_bool (by rw [inB, decide_eq_false (by omega)]; rfl), rfl⟩
set_option maxHeartbeats 400000 in
theorem word_any (n : Int) (w : World) :
    Calls Try.prog 78 #[.int .i64 n] w fun e w' => e = .returned (.bool (wordB n)) ∧ w = w' := by
  go_enter Try.func78, Try.ntmps78
  go_wp2_with (go_at_call 110; refine (in_any _ _ _ _).mono ?_; rintro e w' ⟨rfl, rfl⟩)
  go_ret
  exact ⟨rfl, rfl⟩
set_option maxHeartbeats 400000 in
theorem address_any (n : Int) (w : World) :
    Calls Try.prog 62 #[.int .i64 n] w fun e w' => e = .returned (.bool (addrB n)) ∧ w = w' := by
  go_enter Try.func62, Try.ntmps62
  go_wp2_with (go_at_call 110; refine (in_any _ _ _ _).mono ?_; rintro e w' ⟨rfl, rfl⟩)
  go_ret
  exact ⟨rfl, rfl⟩
set_option maxHeartbeats 400000 in
theorem signed_any (n : Int) (w : World) (h0 : 0 ≤ n) (h1 : n ≤ 16777215) :
    Calls Try.prog 137 #[.int .i64 n] w fun e w' => e = .returned (.int .i64 (sgn n)) ∧ w = w' := by
  go_enter Try.func137, Try.ntmps137
  go_wp2
  go_ret
  exact ⟨ret_int (by show n - n / 8388608 * 16777216 = sgn n; unfold sgn; split <;> omega), rfl⟩
theorem unpack_any (n : Int) (w : World) (h0 : 0 ≤ n) :
    Calls Try.prog 146 #[.int .i64 n] w fun e w' => e = .returned (.tuple #[.int .i64 (n / 128), .int .i64 (n % 128)]) ∧ w = w' := by
  go_enter Try.func146, Try.ntmps146
  go_wp2
  go_ret2
  exact ⟨ret_int2 rfl (Q.i64_and127 n), rfl⟩
theorem pack_any (n x : Int) (w : World) (h0 : 0 ≤ n) (h1 : n ≤ 16777215) (h2 : 0 ≤ x) (h3 : x ≤ 127) :
    Calls Try.prog 131 #[.int .i64 n, .int .i64 x] w fun e w' => e = .returned (.int .i64 (n * 128 + x)) ∧ w = w' := by
  go_enter Try.func131, Try.ntmps131
  go_wp2
  go_ret
  exact ⟨ret_int (i64_or128 n x h0 h1 h2 h3), rfl⟩
theorem written_any (a b c d : Int) (w : World) (h : ordB ⟨a, b, c, d⟩ = true) :
    Calls Try.prog 57 #[.agg #[.int .i64 a, .int .i64 b, .int .i64 c, .int .i64 d]] w fun e w' => e = .returned (.int .i64 (Q.written ⟨a, b, c, d⟩)) ∧ Ext w w' := by
  simp [ordB, inB, addrB] at h
  obtain ⟨⟨⟨⟨a0, a1⟩, b0, b1⟩, c0, c1⟩, d0, d1⟩ := h
  go_enter Try.func57, Try.ntmps57
  go_wp2
  go_ret
  exact ⟨rfl, (Ext.refl w).alloc _⟩
end Go.Proofs.Ytcijneecjkpebaa
/- Contracts: out and its closure, slices.IndexFunc and ContainsFunc at ints, strange, ref Order, odd, Check's closure. -/
namespace Go.Proofs.Ytcijneecjkpebaa
open Go.RowKit Go.Q
set_option maxHeartbeats 400000 in
theorem out1_any (b : Nat) (hi n : Int) (w : World) (h : w.cell? ⟨b, 0, none⟩ = some (.int .i64 hi)) :
    Calls Try.prog 121 #[.int .i64 n, .pointer (some ⟨b, 0, none⟩)] w fun e w' => e = .returned (.bool (decide (n < 0) || decide (hi < n))) ∧ Ext w w' := by
  by_cases h0 : n < 0
  · go_enter Try.func121, Try.ntmps121
    go_wp2
    go_ret
    exact ⟨ret_bool (by simp [h0]), Ext.refl _⟩
  · go_enter Try.func121, Try.ntmps121
    go_wp2
    go_ret
    exact ⟨ret_bool (by rw [decide_eq_false (by omega : ¬ n < 0)]; rfl), Ext.refl _⟩
set_option maxHeartbeats 1000000 in
theorem index_any (g : Nat) (lb : Array Value) (p : Int → Bool) (a : Option Addr) (n cap : Nat) (xs : List Int) (w : World)
    (eg : ∀ args w, (callFunc g args).run Try.prog w = .ok (.enter g args) w) (hp : PredQ Try.prog g lb p w)
    (hn : xs.length = n) (hbig : n ≤ 9223372036854775807) (hI : IntsAt w a xs) :
    Calls Try.prog 128 #[.slice a n cap, .func (.func g) #[] lb] w fun e w' => e = .returned (.int .i64 (idxQ p xs)) ∧ Ext w w' := by
  rcases hI with rfl | ⟨b, off, rfl, hb, hc⟩
  · obtain rfl : n = 0 := hn.symm
    go_enter Try.func128, Try.ntmps128
    go_wp2
    go_loopg [5, 8] 0 (fun gg _ s8 wr => s8 = .int .i64 0 ∧ Aside (Ext w wr))
    case atStart => exact ⟨rfl, Ext.refl w⟩
    case round =>
      obtain ⟨rfl, BW⟩ := hrel
      go_wp2
      go_ret
      exact ⟨rfl, BW.out⟩
  · subst hn
    go_enter Try.func128, Try.ntmps128
    go_wp2
    go_loopg [5, 8] xs.length (fun gg _ s8 wr => ∃ kk : Nat, kk ≤ xs.length ∧ xs.length - kk ≤ gg ∧ s8 = .int .i64 kk ∧ Aside (Ext w wr) ∧ Aside (∀ j, j < kk → p (xs[j]?.getD 0) = false))
    case atStart => exact ⟨0, Nat.zero_le _, by omega, rfl, Ext.refl w, fun j hj => absurd hj (Nat.not_lt_zero _)⟩
    case round =>
      obtain ⟨kk, hkk, hg, rfl, BW, A⟩ := hrel
      by_cases hlt : kk < xs.length
      · have hltz : (kk : Int) < (xs.length : Int) := by omega
        have l2 : wr.cell? ⟨b, off + kk, none⟩ = some (.int .i64 (xs[kk]?.getD 0)) := (BW.out.cell (p := ⟨b, off + kk, none⟩) hb).trans (hc kk hlt)
        have hcall := hp wr (xs[kk]?.getD 0) BW.out
        clear hc hp
        generalize hy : xs[kk]?.getD 0 = y at l2 hcall
        have B : Aside (xs[kk]?.getD 0 = y) := hy
        clear hy
        cases hq : p y with
        | true =>
          rw [hq] at hcall
          go_wp2_with (go_at_fn g; refine hcall.mono ?_; rintro e w' ⟨rfl, hb'⟩)
          go_ret
          refine ⟨?_, hb'⟩
          rw [idxQ_hit p xs kk hlt (by rw [B.out]; exact hq) A.out]
          rfl
        | false =>
          rw [hq] at hcall
          go_wp2_with (go_at_fn g; refine hcall.mono ?_; rintro e w' ⟨rfl, hb'⟩)
          go_roundg (xs.length - (kk + 1))
          case measure => omega
          case rel =>
            refine ⟨kk + 1, by omega, by omega, by go_num, hb', (show Aside _ from fun j hj => ?_)⟩
            by_cases e : j = kk
            · subst e
              rw [B.out]; exact hq
            · exact A.out j (by omega)
      · have hltz : ¬ (kk : Int) < (xs.length : Int) := by omega
        have hkx : kk = xs.length := by omega
        go_wp2
        go_ret
        refine ⟨?_, BW.out⟩
        rw [idxQ_miss p xs (fun j hj => A.out j (by omega))]
        rfl
set_option maxHeartbeats 400000 in
theorem contains_any (g : Nat) (lb : Array Value) (p : Int → Bool) (a : Option Addr) (n cap : Nat) (xs : List Int) (w : World)
    (eg : ∀ args w, (callFunc g args).run Try.prog w = .ok (.enter g args) w) (hp : PredQ Try.prog g lb p w)
    (hn : xs.length = n) (hbig : n ≤ 9223372036854775807) (hI : IntsAt w a xs) :
    Calls Try.prog 100 #[.slice a n cap, .func (.func g) #[] lb] w fun e w' => e = .returned (.bool (xs.any p)) ∧ Ext w w' := by
  have hc := index_any g lb p a n cap xs w eg hp hn hbig hI
  rw [← idxQ_nonneg]
  clear hp hI
  go_enter Try.func100, Try.ntmps100
  go_wp2_with (go_at_call 128; refine hc.mono ?_; rintro e w' ⟨rfl, hb'⟩)
  go_ret
  exact ⟨rfl, hb'⟩
set_option maxHeartbeats 400000 in
theorem out_any (hi : Int) (a : Option Addr) (n cap : Nat) (xs : List Int) (w : World)
    (hn : xs.length = n) (hbig : n ≤ 9223372036854775807) (hI : IntsAt w a xs) :
    Calls Try.prog 94 #[.int .i64 hi, .slice a n cap] w fun e w' => e = .returned (.bool (outB hi xs)) ∧ Ext w w' := by
  have hI' : IntsAt (w.alloc (.cells #[.int .i64 hi] 3)) a xs := hI.ext ((Ext.refl w).alloc _)
  have hp : PredQ Try.prog 121 #[.pointer (some ⟨w.heap.size, 0, none⟩)] (fun n => decide (n < 0) || decide (hi < n)) (w.alloc (.cells #[.int .i64 hi] 3)) :=
    fun W x hb => (out1_any w.heap.size hi x W ((hb.cell (p := ⟨w.heap.size, 0, none⟩) (by simp)).trans (by simp))).mono fun e w' ⟨h1, h2⟩ => ⟨h1, hb.comp h2⟩
  have hc := contains_any 121 #[.pointer (some ⟨w.heap.size, 0, none⟩)] (fun n => decide (n < 0) || decide (hi < n)) a n cap xs _ (enters_of Try.func121 (by kernel_rfl) rfl) hp hn hbig hI'
  rw [show xs.any (fun n => decide (n < 0) || decide (hi < n)) = outB hi xs from rfl] at hc
  clear hp hI hI' hn
  go_enter Try.func94, Try.ntmps94
  go_wp2_with (go_at_call 100; refine hc.mono ?_; rintro e w' ⟨rfl, hb'⟩)
  go_ret
  exact ⟨rfl, Ext.comp ((Ext.refl w).alloc _) hb'⟩
theorem out_one (hi x : Int) (b : Nat) (w : World) (hb : b < w.heap.size) (h : w.cell? ⟨b, 0, none⟩ = some (.int .i64 x)) :
    Calls Try.prog 94 #[.int .i64 hi, .slice (some ⟨b, 0, none⟩) 1 1] w fun e w' => e = .returned (.bool (!inB x 0 hi)) ∧ Ext w w' := by
  rw [← outB_one]
  exact out_any hi _ 1 1 [x] w rfl (by decide) (.one hb h)
set_option maxHeartbeats 400000 in
theorem check1_any (n : Int) (w : World) :
    Calls Try.prog 135 #[.int .i64 n] w fun e w' => e = .returned (.bool (!wordB n)) ∧ Ext w w' := by
  go_enter Try.func135, Try.ntmps135
  go_wp2_with (go_at_call 94; refine (out_one _ n _ _ (by simp) (by simp)).mono ?_; rintro e w' ⟨rfl, hb'⟩)
  go_ret
  exact ⟨rfl, Ext.comp ((Ext.refl w).alloc _) hb'⟩
end Go.Proofs.Ytcijneecjkpebaa
/- Contracts: decode (both), strange, ref Order, Encode, Decode, Signed (both). -/
namespace Go.Proofs.Ytcijneecjkpebaa
open Go.RowKit Go.Q
/-- an order as a value -/
def ov (o : Ord) : Value := .agg #[.int .i64 o.op, .int .i64 o.frm, .int .i64 o.to, .int .i64 o.nxt]
set_option maxHeartbeats 400000 in
theorem decode_any (n : Int) (w : World) (h0 : 0 ≤ n) :
    Calls Try.prog 129 #[.int .i64 n] w fun e w' => e = .returned (.agg #[.int .i64 (decodeQ n).op, .int .i64 (decodeQ n).frm, .int .i64 (decodeQ n).to, .int .i64 (decodeQ n).nxt]) ∧ Ext w w' := by
  have h1 : 0 ≤ n / 128 := by omega
  have h2 : 0 ≤ n / 128 / 128 := by omega
  go_enter Try.func129, Try.ntmps129
  go_wp2_with (go_at_call 146; refine (unpack_any _ _ (by assumption)).mono ?_; rintro e w' ⟨rfl, rfl⟩)
  refine bodyPost_ret (v := .agg #[.int .i64 (n / 128 / 128 / 128), .int .i64 (n / 128 / 128 % 128), .int .i64 (n / 128 % 128), .int .i64 (n % 128)]) (by simp [results, Try.results129, go_sem]) rfl ⟨rfl, (Ext.refl w).alloc _⟩
set_option maxHeartbeats 400000 in
theorem rdecode_any (n : Int) (w : World) (h0 : 0 ≤ n) (hh : n ≤ 16777215) :
    Calls Try.prog 132 #[.int .i64 n] w fun e w' => e = .returned (.agg #[.int .i64 (decodeQ n).op, .int .i64 (decodeQ n).frm, .int .i64 (decodeQ n).to, .int .i64 (decodeQ n).nxt]) ∧ Ext w w' := by
  have h1 : 0 ≤ n / 128 := by omega
  have h2 : 0 ≤ n / 128 / 128 := by omega
  go_enter Try.func132, Try.ntmps132
  go_wp2
  refine bodyPost_ret (v := .agg #[.int .i64 (n / 128 / 128 / 128), .int .i64 (n / 128 / 128 % 128), .int .i64 (n / 128 % 128), .int .i64 (n % 128)]) (by simp [results, Try.results132, go_sem]) rfl ⟨rfl, (Ext.refl w).alloc _⟩
set_option maxHeartbeats 400000 in
theorem strange_any (a b c d : Int) (w : World) :
    Calls Try.prog 130 #[.agg #[.int .i64 a, .int .i64 b, .int .i64 c, .int .i64 d]] w fun e w' => e = .returned (.bool (!ordB ⟨a, b, c, d⟩)) ∧ Ext w w' := by
  have h3 : outB 127 [b, c, d] = !(addrB b && addrB c && addrB d) := by
    have e : outB 127 [b, c, d] = (outB 127 [b] || outB 127 [c] || outB 127 [d]) := by simp [outB, Bool.or_assoc]
    rw [e, outB_one, outB_one, outB_one]
    simp [addrB]
  cases h1 : inB a 0 7 with
  | false =>
    go_enter Try.func130, Try.ntmps130
    go_wp2_with (go_at_call 94; refine (out_one _ a _ _ (by simp) (by simp)).mono ?_; rintro e w' ⟨rfl, hb'⟩)
    go_ret
    exact ⟨ret_bool (by simp [ordB, h1]), Ext.comp (((Ext.refl w).alloc _).alloc _) hb'⟩
  | true =>
    go_enter Try.func130, Try.ntmps130
    go_wp2_with fail
    refine (out_one _ a _ _ (by simp) (by simp)).mono ?_
    rintro e w1 ⟨rfl, hb1⟩
    have hb := hb1.size
    have hc : ∀ o v, o < 4 → (w.alloc (.cells #[.int .i64 a, .int .i64 b, .int .i64 c, .int .i64 d] 107)).cell? ⟨w.heap.size, o, none⟩ = some v → w1.cell? ⟨w.heap.size, o, none⟩ = some v :=
      fun o v _ h => (hb1.cell (p := ⟨w.heap.size, o, none⟩) (by simp; omega)).trans (((Ext.refl _).alloc _).cell (p := ⟨w.heap.size, o, none⟩) (by simp) |>.trans h)
    have c1 := hc 1 _ (by decide) (by simp; rfl)
    have c2 := hc 2 _ (by decide) (by simp; rfl)
    have c3 := hc 3 _ (by decide) (by simp; rfl)
    clear hc
    go_wp2_with fail
    refine (out_any _ _ 3 3 [b, c, d] _ rfl (by decide) (.inr ⟨_, 0, rfl, by simp, fun i hi => ?_⟩)).mono ?_
    · match i, hi with
      | 0, _ => simp
      | 1, _ => simp
      | 2, _ => simp
    rintro e w2 ⟨rfl, hb2⟩
    rw [h3]
    go_wp2
    go_ret
    exact ⟨ret_bool (by simp [ordB, h1, Bool.or_assoc]), Ext.comp (((((Ext.refl w).alloc _).alloc _).comp hb1).alloc _) hb2⟩
end Go.Proofs.Ytcijneecjkpebaa
/- A range over a function whose body leaves by a return in its first round: one law for the caller, one word for the iterator. -/
namespace Go.Q
open Go.RowKit Go.Shelf
variable {F : Fence} {n : Nat} {P : Program}
/-- the iterator calls yield once, at some x of S, and goes on no further when the answer is no -/
def OnceSeq {α : Type} (F : Fence) (n : Nat) (P : Program) (g : Nat) (lb : Array Value) (encs : α → Array Value) (S : α → Prop) (w0 : World) : Prop :=
  ∀ (l : Nat) (Jx : α → World → Prop) (W : World), Below w0.heap.size w0 W →
    (∀ x, S x → YieldAt F (n - 1) P l (encs x) W fun e W' => e = .returned (.bool false) ∧ Jx x W') →
    CallsIn F n P g (#[.func (.yield l) #[] #[]] ++ lb) W fun e W' => (∃ v, e = .returned v) ∧ ∃ x, S x ∧ Jx x W'
theorem wpIn_once {α : Type} {g : Operand} {ps : Array Tmp} {assign body : Code} {Q : Exit → Act → World → Prop} {a : Act} {w : World}
    (hro : F.round = none) (h1 : 1 ≤ n) {gf : Nat} {lb : Array Value} (hg : a.eval g = .func (.func gf) #[] lb) (hFg : F.fn gf) (eg : ∀ args w, (callFunc gf args).run P w = .ok (.enter gf args) w)
    {encs : α → Array Value} {S : α → Prop} (hseq : OnceSeq F (n - 1) P gf lb encs S w) (hps : ∀ x, (encs x).size = ps.size)
    (Ix : α → World → Prop) (hIx : ∀ x W l o o', w.heap.size ≤ l → W.heap[l]? = some o → o.isCells = false → Ix x W → Ix x (W.putObj l o'))
    (a₁ : α → Act)
    (hassign : ∀ (l : Nat) (x : α) (W : World) (K : Act → World → Prop), K (a₁ x) W →
      assign.wpIn (F.inRound l) (n - 1 - 1) P (Exit.then K (fun _ _ _ => False)) { tmps := (ps.zip (encs x)).foldl (fun t (p, v) => t.setIfInBounds p v) a.tmps, defers := [] } W)
    (hbody : ∀ (l : Nat) (x : α) (W : World), S x → Ext w W →
      body.wpIn (F.inRound l) (n - 1 - 1) P (fun e _ W' => e = .ret ∧ KeepsOthers W W' ∧ Ix x W') (a₁ x) W)
    (hstop : ∀ (D : Nat) (x : α) (W : World), w.heap.size ≤ D → S x → Ix x W → W.heap[D]? = some (.deferred (some [])) →
      Code.ret.wpIn F n P Q { a with defers := { target := .collected D, args := #[] } :: a.defers } W) :
    (Code.rangeFunc g ps assign body).wpIn F n P Q a w := by
  refine wpIn_rangeFunc fun fn hfn => ?_
  let D := w.heap.size
  let r0 : Loop := { state := .ready, pending := none, fn, tmps := a.tmps, params := ps, assign, body, defers := D }
  let wD := w.alloc (.deferred (some []))
  let W := wD.alloc (.loop r0)
  have sD : wD.heap.size = D + 1 := World.size_alloc _ _
  have sW : W.heap.size = D + 2 := by rw [World.size_alloc, sD]
  have eW : Ext w W := ((Ext.refl w).alloc _).alloc _
  have atL : W.heap[D + 1]? = some (.loop r0) := by have := World.alloc_heap_new wD (.loop r0); rwa [sD] at this
  have atD : W.heap[D]? = some (.deferred (some [])) := (Below.heap_alloc _ _ _ (by omega)).trans (World.alloc_heap_new w _)
  let r1 : Loop := { r0 with state := .busy }
  let r2 : Loop := { r0 with state := .done, pending := some .ret }
  refine ⟨D + 1, [{ target := .collected D, args := #[] }], W, { target := .fn (.func gf) lb, args := #[.func (.yield (D + 1)) #[] #[]] }, W, gf,
    #[.func (.yield (D + 1)) #[] #[]] ++ lb, W, ?_, ?_, ?_, ?_, fun _ => h1, ?_⟩
  · rw [hro]; exact run_enterLoop_outer _ _ _ _ _
  · simp only [resolve, hg]; simp [go_sem]
  · intro f' hf'
    obtain rfl : gf = f' := by simpa [Target.leads] using hf'
    exact hFg
  · simp [invoke, go_sem, eg]
  refine (hseq (D + 1) (fun x V => Ix x V ∧ V.heap[D + 1]? = some (.loop r2) ∧ V.heap[D]? = some (.deferred (some []))) W eW fun x hS => ?_).mono ?_
  · -- the round
    refine ⟨fn, _, assign, body, run_yield (r := r0) atL (hps x), roundIn_of_wpIn hfn (hassign _ x W _ ⟨_, run_beginRound atL rfl, ?_⟩)⟩
    let V := W.putObj (D + 1) (.loop r1)
    have vL : V.heap[D + 1]? = some (.loop r1) := World.putObj_heap_same (by omega)
    have vD : V.heap[D]? = some (.deferred (some [])) := (World.putObj_heap_other (by omega)).trans atD
    have eV : Ext w V := eW.trans (belowK_b (w := w) (Nat.le_refl _) W (D + 1) _ _ (by omega) atL rfl rfl)
    refine wpIn_mono (hbody (D + 1) x V hS eV) ?_
    rintro e a3 V3 ⟨rfl, hk, hi⟩
    have v3 := hk.same _ _ vL rfl
    refine ⟨_, _, run_endRound (some .ret) v3, rfl, hIx _ _ _ _ _ (by omega) v3 rfl hi, World.putObj_heap_same (Array.getElem?_eq_some_iff.1 v3).1, (World.putObj_heap_other (by omega)).trans (hk.same _ _ vD rfl)⟩
  · -- behind the iterator
    rintro e V ⟨⟨v, rfl⟩, x, hS, hi, hL, hD⟩
    exact ⟨some .ret, _, run_endLoop (r := r2) hL (by simp [r2]), hstop D x _ (Nat.le_refl _) hS (hIx _ _ _ _ _ (by omega) hL rfl hi) ((World.putObj_heap_other (by omega)).trans hD)⟩
end Go.Q
/- Contracts: after (the program's, over an iterator), After (the reference's, by a loop). -/
namespace Go.Proofs.Ytcijneecjkpebaa
open Go.RowKit Go.Q Go.Shelf
attribute [local go_sem] Oper.semAt_some
set_option maxHeartbeats 1000000 in
theorem passing1_once (F : Fence) (n : Nat) (hF : F.fn 151) (hro : F.round = none) (hn : 1 ≤ n) (b : Nat) (t a : Int) (w : World)
    (ht0 : 0 ≤ t) (ht1 : t ≤ 2000000000) (ha0 : 0 ≤ a) (ha1 : a ≤ 127) (hb : b + 1 < w.heap.size)
    (hc0 : w.cell? ⟨b, 0, none⟩ = some (.int .i64 t)) (hc1 : w.cell? ⟨b + 1, 0, none⟩ = some (.int .i64 a)) :
    OnceSeq F n Try.prog 151 #[.pointer (some ⟨b + 1, 0, none⟩), .pointer (some ⟨b, 0, none⟩)] (fun x : Int => #[.int .i64 x]) (fun x => x = Q.after t a) w := fun l Jx W hW hY => by
  have c0 : W.cell? ⟨b, 0, none⟩ = some (.int .i64 t) := (hW.cell (p := ⟨b, 0, none⟩) (by show b < _; omega)).trans hc0
  have c1 : W.cell? ⟨b + 1, 0, none⟩ = some (.int .i64 a) := (hW.cell (p := ⟨b + 1, 0, none⟩) (by show b + 1 < _; omega)).trans hc1
  obtain ⟨f1, t1, a1, b1, hy1, hR1⟩ := hY _ rfl
  have hs : Q.after t a = t + 1 + (a - t - 1) % 16 := rfl
  rw [hs] at hy1 hR1
  clear hY hc0 hc1
  refine callsIn_of_wp Try.func151 rfl hF ?_ hro
  simp only [Try.ntmps151, List.size_toArray, List.length_cons, List.length_nil, Nat.reduceAdd, Nat.reduceSub, Array.replicate_succ, Array.replicate_zero, List.push_toArray, List.append_toArray, List.nil_append, List.cons_append]
  gi_wp2
  gi_loopw [5] (fun s wr => s = .int .i64 (t + 1 + (a - t - 1) % 16) ∧ W = wr) (fun _ _ => 0)
  case atStart => exact ⟨rfl, rfl⟩
  case round =>
    obtain ⟨rfl, rfl⟩ := hrel
    gi_wp2
    refine hR1.mono ?_
    rintro e W2 ⟨rfl, hx⟩
    gi_wp2
    go_end0
    exact ⟨⟨_, rfl⟩, _, rfl, hx⟩
theorem passing_in (F : Fence) (n : Nat) (hF : F.fn 150) (hro : F.round = none) (t a : Int) (w : World) :
    CallsIn F n Try.prog 150 #[.int .i64 t, .int .i64 a] w fun e w' => e = .returned (.func (.func 151) #[] #[.pointer (some ⟨w.heap.size + 1, 0, none⟩), .pointer (some ⟨w.heap.size, 0, none⟩)]) ∧ (w.alloc (.cells #[.int .i64 t] 3)).alloc (.cells #[.int .i64 a] 3) = w' := by
  refine callsIn_of_wp Try.func150 rfl hF ?_ hro
  simp only [Try.ntmps150, List.size_toArray, List.length_cons, List.length_nil, Nat.reduceAdd, Nat.reduceSub, Array.replicate_succ, Array.replicate_zero, List.push_toArray, List.append_toArray, List.nil_append, List.cons_append]
  gi_wp2
  go_ret
  exact ⟨rfl, rfl⟩
set_option maxHeartbeats 1000000 in
theorem after_any (t a : Int) (w : World) (ht0 : 0 ≤ t) (ht1 : t ≤ 2000000000) (ha0 : 0 ≤ a) (ha1 : a ≤ 127) :
    Calls Try.prog 148 #[.int .i64 t, .int .i64 a] w fun e w' => e = .returned (.int .i64 (Q.after t a)) ∧ Ext w w' := by
  refine (callsIn_wide (n := 5)).1 ?_
  refine callsIn_of_wp_marks Try.func148 rfl trivial ?_ rfl
  simp only [Try.ntmps148, List.size_toArray, List.length_cons, List.length_nil, Nat.reduceAdd, Nat.reduceSub, Array.replicate_succ, Array.replicate_zero, List.push_toArray, List.append_toArray, List.nil_append, List.cons_append]
  gi_wp2_with (refine ⟨trivial, ?_⟩; gi_at_call 150; refine (passing_in Fence.wide _ trivial rfl _ _ _).mono ?_; rintro e w' ⟨rfl, rfl⟩)
  obtain ⟨W0, hW0⟩ : ∃ W0, ((w.alloc (.cells #[.int .i64 0] 3)).alloc (.cells #[.int .i64 t] 3)).alloc (.cells #[.int .i64 a] 3) = W0 := ⟨_, rfl⟩
  have hs0 : W0.heap.size = w.heap.size + 3 := by rw [← hW0]; simp [go_sem]
  have e0 : Ext w W0 := by rw [← hW0]; exact (((Ext.refl w).alloc _).alloc _).alloc _
  have c0 : W0.cell? ⟨w.heap.size, 0, none⟩ = some (.int .i64 0) := by rw [← hW0]; simp [go_sem]
  have f0 : W0.frozen? ⟨w.heap.size, 0, none⟩ = false := by rw [← hW0]; simp [go_sem]
  have c1 : W0.cell? ⟨w.heap.size + 1, 0, none⟩ = some (.int .i64 t) := by rw [← hW0]; simp [go_sem]
  have c2 : W0.cell? ⟨w.heap.size + 1 + 1, 0, none⟩ = some (.int .i64 a) := by rw [← hW0]; simp [go_sem]
  rw [hW0]
  clear hW0
  refine wpIn_once rfl (by decide) (gf := 151) (lb := #[.pointer (some ⟨w.heap.size + 1 + 1, 0, none⟩), .pointer (some ⟨w.heap.size + 1, 0, none⟩)]) rfl trivial (enters_of Try.func151 (by kernel_rfl) rfl)
    (passing1_once Fence.wide _ trivial rfl (by decide) (w.heap.size + 1) t a W0 ht0 ht1 ha0 ha1 (by omega) c1 c2) (fun _ => rfl)
    (fun x W => Ext w W ∧ W.cell? ⟨w.heap.size, 0, none⟩ = some (.int .i64 x))
    (fun x W l o o' hl h ho hs => ⟨hs.1.grown (grownBy_putObj' W l o') hs.1.size (fun k e => by cases e; omega), cell_kept hs.2 (grownBy_putObj' W l o') (fun r e => by cases e; exact ⟨o, h, ho⟩)⟩)
    (fun x => { tmps := #[.int .i64 t, .int .i64 a, undef, undef, .pointer (some ⟨w.heap.size, 0, none⟩), .int .i64 x, .int .i64 t, .int .i64 a, .func (.func 151) #[] #[.pointer (some ⟨w.heap.size + 1 + 1, 0, none⟩), .pointer (some ⟨w.heap.size + 1, 0, none⟩)], .int .i64 x, undef, undef], defers := [] }) ?assign ?body ?stop
  case assign =>
    intro l x W K hK
    gi_wp2
    exact hK
  case body =>
    intro l x W hS hW
    have d0 : W.cell? ⟨w.heap.size, 0, none⟩ = some (.int .i64 0) := (hW.cell (p := ⟨w.heap.size, 0, none⟩) (by show w.heap.size < _; omega)).trans c0
    have g0 : W.frozen? ⟨w.heap.size, 0, none⟩ = false := (hW.frozen (p := ⟨w.heap.size, 0, none⟩) (by show w.heap.size < _; omega)).trans f0
    gi_wp2
    exact ⟨KeepsOthers.setCell _ _ _, (e0.comp hW).setCell (p := ⟨w.heap.size, 0, none⟩) (Nat.le_refl _) _⟩
  case stop =>
    rintro D x W hD rfl ⟨hW, hc⟩ hK
    gi_wp2
    refine ⟨by simp, .inl ⟨_, _, rfl, run_takeDeferred hK, ?_⟩⟩
    have hc5 := cell_kept hc (grownBy_putObj' _ D (.deferred none)) (fun r e => by cases e; exact ⟨_, hK, rfl⟩)
    refine ⟨.int .i64 (Q.after t a), ?_, rfl, hW.trans (belowK_b (w := w) (Nat.le_refl _) W D _ _ (by omega) hK rfl rfl)⟩
    simp [results, Try.f148, go_sem, hc5]
end Go.Proofs.Ytcijneecjkpebaa
/- Contracts: when (both), When (both). -/
namespace Go.Proofs.Ytcijneecjkpebaa
open Go.RowKit Go.Q
theorem after_bd (t a : Int) : t + 1 ≤ Q.after t a ∧ Q.after t a ≤ t + 16 := by unfold Q.after; omega
set_option maxHeartbeats 1000000 in
theorem when_def (o a b c : Int) (t : Int) (ng : Bool) (w : World) (h5 : (o == 5) = false) (h7 : (o == 7) = false) (h6 : (o == 6) = false) (h4 : (o == 4) = false)
    (ht0 : 0 ≤ t) (ht1 : t ≤ 1000000000) (ha0 : 0 ≤ a) (ha1 : a ≤ 127) (hb0 : 0 ≤ b) (hb1 : b ≤ 127) (hc0 : 0 ≤ c) (hc1 : c ≤ 127) :
    Calls Try.prog 136 #[.agg #[.int .i64 o, .int .i64 a, .int .i64 b, .int .i64 c], .int .i64 t, .bool ng] w fun e w' => e = .returned (.tuple #[.int .i64 c, .int .i64 (Q.after (Q.after (Q.after t a) b) c)]) ∧ Ext w w' := by
  have b1 := after_bd t a
  have b2 := after_bd (Q.after t a) b
  go_enter Try.func136, Try.ntmps136
  go_wp2
  generalize hW : World.alloc w _ = W
  have hE : Ext w W := by rw [← hW]; exact (Ext.refl w).alloc _
  have h1 : W.cell? ⟨w.heap.size, 1, none⟩ = some (.int .i64 a) := by rw [← hW]; simp [go_sem]
  have h2 : W.cell? ⟨w.heap.size, 2, none⟩ = some (.int .i64 b) := by rw [← hW]; simp [go_sem]
  clear hW
  go_region_held3 (fun w' => Ext w w' ∧ w'.cell? ⟨w.heap.size, 1, none⟩ = some (.int .i64 a) ∧ w'.cell? ⟨w.heap.size, 2, none⟩ = some (.int .i64 b))
    (first | exact ⟨hE.drew, h1, h2⟩ | exact ⟨Ext.comp hE.drew hb', cell_later hb' h1, cell_later hb' h2⟩ | (have hh := ‹Ext w _ ∧ _ ∧ _›; exact ⟨Ext.comp hh.1 hb', cell_later hb' hh.2.1, cell_later hb' hh.2.2⟩))
    (first | (go_at_call 148; refine (after_any _ _ _ (by omega) (by omega) (by omega) (by omega)).mono ?_; rintro e w' ⟨rfl, hb'⟩))
  have E1 := (‹Ext w _ ∧ _ ∧ _›).1
  go_wp2_with (go_at_call 148; refine (after_any _ _ _ (by omega) (by omega) (by omega) (by omega)).mono ?_; rintro e w' ⟨rfl, hb'⟩)
  go_ret2
  exact ⟨rfl, E1.comp hb'⟩
set_option maxHeartbeats 1000000 in
theorem when_mul (a b c : Int) (t : Int) (ng : Bool) (w : World)
    (ht0 : 0 ≤ t) (ht1 : t ≤ 1000000000) (ha0 : 0 ≤ a) (ha1 : a ≤ 127) (hb0 : 0 ≤ b) (hb1 : b ≤ 127) (hc0 : 0 ≤ c) (hc1 : c ≤ 127) :
    Calls Try.prog 136 #[.agg #[.int .i64 4, .int .i64 a, .int .i64 b, .int .i64 c], .int .i64 t, .bool ng] w fun e w' => e = .returned (.tuple #[.int .i64 c, .int .i64 (Q.after (Q.after (Q.after (Q.after t a) b + 12) b) c)]) ∧ Ext w w' := by
  have b1 := after_bd t a
  have b2 := after_bd (Q.after t a) b
  have b3 := after_bd (Q.after (Q.after t a) b + 12) b
  go_enter Try.func136, Try.ntmps136
  go_wp2
  generalize hW : World.alloc w _ = W
  have hE : Ext w W := by rw [← hW]; exact (Ext.refl w).alloc _
  have h1 : W.cell? ⟨w.heap.size, 1, none⟩ = some (.int .i64 a) := by rw [← hW]; simp [go_sem]
  have h2 : W.cell? ⟨w.heap.size, 2, none⟩ = some (.int .i64 b) := by rw [← hW]; simp [go_sem]
  clear hW
  go_region_held3 (fun w' => Ext w w' ∧ w'.cell? ⟨w.heap.size, 1, none⟩ = some (.int .i64 a) ∧ w'.cell? ⟨w.heap.size, 2, none⟩ = some (.int .i64 b))
    (first | exact ⟨hE.drew, h1, h2⟩ | exact ⟨Ext.comp hE.drew hb', cell_later hb' h1, cell_later hb' h2⟩ | (have hh := ‹Ext w _ ∧ _ ∧ _›; exact ⟨Ext.comp hh.1 hb', cell_later hb' hh.2.1, cell_later hb' hh.2.2⟩))
    (first | (go_at_call 148; refine (after_any _ _ _ (by omega) (by omega) (by omega) (by omega)).mono ?_; rintro e w' ⟨rfl, hb'⟩))
  obtain ⟨E1, _, q2⟩ := ‹Ext w _ ∧ _ ∧ _›
  go_wp2_with fail
  refine (after_any _ _ _ (by omega) (by omega) (by omega) (by omega)).mono ?_
  rintro e w2 ⟨rfl, hb2⟩
  go_wp2_with fail
  refine (after_any _ _ _ (by omega) (by omega) (by omega) (by omega)).mono ?_
  rintro e w3 ⟨rfl, hb3⟩
  go_wp2
  go_ret2
  exact ⟨rfl, (E1.comp hb2).comp hb3⟩
set_option maxHeartbeats 1000000 in
theorem when_read (a b c : Int) (t : Int) (ng : Bool) (w : World)
    (ht0 : 0 ≤ t) (ht1 : t ≤ 1000000000) (hb0 : 0 ≤ b) (hb1 : b ≤ 127) (hc0 : 0 ≤ c) (hc1 : c ≤ 127) :
    Calls Try.prog 136 #[.agg #[.int .i64 6, .int .i64 a, .int .i64 b, .int .i64 c], .int .i64 t, .bool ng] w fun e w' => e = .returned (.tuple #[.int .i64 c, .int .i64 (Q.after (Q.after t b) c)]) ∧ Ext w w' := by
  have b2 := after_bd t b
  go_enter Try.func136, Try.ntmps136
  go_wp2_with fail
  refine (after_any _ _ _ (by omega) (by omega) (by omega) (by omega)).mono ?_
  rintro e w2 ⟨rfl, hb2⟩
  go_wp2_with fail
  refine (after_any _ _ _ (by omega) (by omega) (by omega) (by omega)).mono ?_
  rintro e w3 ⟨rfl, hb3⟩
  go_wp2
  go_ret2
  exact ⟨rfl, (((Ext.refl w).alloc _).comp hb2).comp hb3⟩
set_option maxHeartbeats 1000000 in
theorem when_print (a b c : Int) (t : Int) (ng : Bool) (w : World)
    (ht0 : 0 ≤ t) (ht1 : t ≤ 1000000000) (ha0 : 0 ≤ a) (ha1 : a ≤ 127) (hc0 : 0 ≤ c) (hc1 : c ≤ 127) :
    Calls Try.prog 136 #[.agg #[.int .i64 7, .int .i64 a, .int .i64 b, .int .i64 c], .int .i64 t, .bool ng] w fun e w' => e = .returned (.tuple #[.int .i64 c, .int .i64 (Q.after (Q.after t a) c)]) ∧ Ext w w' := by
  have b2 := after_bd t a
  go_enter Try.func136, Try.ntmps136
  go_wp2_with fail
  refine (after_any _ _ _ (by omega) (by omega) (by omega) (by omega)).mono ?_
  rintro e w2 ⟨rfl, hb2⟩
  go_wp2_with fail
  refine (after_any _ _ _ (by omega) (by omega) (by omega) (by omega)).mono ?_
  rintro e w3 ⟨rfl, hb3⟩
  go_wp2
  go_ret2
  exact ⟨rfl, (((Ext.refl w).alloc _).comp hb2).comp hb3⟩
set_option maxHeartbeats 1000000 in
theorem when_test (a b c : Int) (t : Int) (ng : Bool) (w : World)
    (ht0 : 0 ≤ t) (ht1 : t ≤ 1000000000) (ha0 : 0 ≤ a) (ha1 : a ≤ 127) (hb0 : 0 ≤ b) (hb1 : b ≤ 127) (hc0 : 0 ≤ c) (hc1 : c ≤ 127) :
    Calls Try.prog 136 #[.agg #[.int .i64 5, .int .i64 a, .int .i64 b, .int .i64 c], .int .i64 t, .bool ng] w fun e w' => e = .returned (.tuple #[.int .i64 (if ng then b else c), .int .i64 (Q.after (Q.after t a) (if ng then b else c))]) ∧ Ext w w' := by
  have b2 := after_bd t a
  cases ng
  all_goals
    go_enter Try.func136, Try.ntmps136
    go_wp2_with fail
    refine (after_any _ _ _ (by omega) (by omega) (by omega) (by omega)).mono ?_
    rintro e w2 ⟨rfl, hb2⟩
    go_wp2_with fail
    refine (after_any _ _ _ (by omega) (by omega) (by omega) (by omega)).mono ?_
    rintro e w3 ⟨rfl, hb3⟩
    go_wp2
    go_ret2
    exact ⟨rfl, (((Ext.refl w).alloc _).comp hb2).comp hb3⟩
theorem ordB_bd {o a b c : Int} (h : ordB ⟨o, a, b, c⟩ = true) : (0 ≤ o ∧ o ≤ 7) ∧ (0 ≤ a ∧ a ≤ 127) ∧ (0 ≤ b ∧ b ≤ 127) ∧ 0 ≤ c ∧ c ≤ 127 := by
  simp [ordB, inB, addrB] at h
  omega
theorem when_any (o a b c : Int) (t : Int) (ng : Bool) (w : World) (ho : ordB ⟨o, a, b, c⟩ = true) (ht0 : 0 ≤ t) (ht1 : t ≤ 1000000000) :
    Calls Try.prog 136 #[.agg #[.int .i64 o, .int .i64 a, .int .i64 b, .int .i64 c], .int .i64 t, .bool ng] w fun e w' => e = .returned (.tuple #[.int .i64 (whenAt ⟨o, a, b, c⟩ ng), .int .i64 (whenUntil ⟨o, a, b, c⟩ t ng)]) ∧ Ext w w' := by
  obtain ⟨⟨o0, o1⟩, ⟨a0, a1⟩, ⟨b0, b1⟩, c0, c1⟩ := ordB_bd ho
  by_cases h5 : o = 5
  · subst h5
    refine (when_test a b c t ng w ht0 ht1 a0 a1 b0 b1 c0 c1).mono fun e w' h => ?_
    cases ng <;> simpa [whenAt, whenUntil, whenEnd] using h
  by_cases h7 : o = 7
  · subst h7
    refine (when_print a b c t ng w ht0 ht1 a0 a1 c0 c1).mono fun e w' h => ?_
    simpa [whenAt, whenUntil, whenEnd] using h
  by_cases h6 : o = 6
  · subst h6
    refine (when_read a b c t ng w ht0 ht1 b0 b1 c0 c1).mono fun e w' h => ?_
    simpa [whenAt, whenUntil, whenEnd] using h
  by_cases h4 : o = 4
  · subst h4
    refine (when_mul a b c t ng w ht0 ht1 a0 a1 b0 b1 c0 c1).mono fun e w' h => ?_
    simpa [whenAt, whenUntil, whenEnd] using h
  refine (when_def o a b c t ng w (by simpa using h5) (by simpa using h7) (by simpa using h6) (by simpa using h4) ht0 ht1 a0 a1 b0 b1 c0 c1).mono fun e w' h => ?_
  simpa [whenAt, whenUntil, whenEnd, h5, h7, h6, h4] using h
end Go.Proofs.Ytcijneecjkpebaa
/- Contracts: ref when, When (both), Encode, Decode, Signed (both). -/
namespace Go.Proofs.Ytcijneecjkpebaa
open Go.RowKit Go.Q
/-- an order with an error's code, as a value -/
def ovE (p : Ord × Int) : Value := .tuple #[.agg #[.int .i64 p.1.op, .int .i64 p.1.frm, .int .i64 p.1.to, .int .i64 p.1.nxt], .int .i64 p.2]
theorem ext_set4 {w w1 : World} {n : Nat} (h : Ext w w1) (hn : w.heap.size ≤ n) (a b c d : Value) (i j k l : Nat) : Ext w ((((w1.setCell ⟨n, i, none⟩ a).setCell ⟨n, j, none⟩ b).setCell ⟨n, k, none⟩ c).setCell ⟨n, l, none⟩ d) :=
  (((h.setCell (p := ⟨n, i, none⟩) hn a).setCell (p := ⟨n, j, none⟩) hn b).setCell (p := ⟨n, k, none⟩) hn c).setCell (p := ⟨n, l, none⟩) hn d
set_option maxHeartbeats 1000000 in
theorem decodeE_any (n : Int) (w : World) :
    Calls Try.prog 108 #[.int .i64 n] w fun e w' => e = .returned (ovE (decQ n)) ∧ Ext w w' := by
  cases h : wordB n with
  | false =>
    have h' : inB n 0 16777215 = false := h
    go_enter Try.func108, Try.ntmps108
    go_wp2_with fail
    refine (out_one _ n _ _ (by simp) (by simp)).mono ?_
    rintro e w1 ⟨rfl, hb⟩
    have q0 := box_at (v := .int .i64 0) hb.old 0 rfl
    have q1 := box_at (v := .int .i64 0) hb.old 1 rfl
    have q2 := box_at (v := .int .i64 0) hb.old 2 rfl
    have q3 := box_at (v := .int .i64 0) hb.old 3 rfl
    have f0 := box_free hb.old 0
    have f1 := box_free hb.old 1
    have f2 := box_free hb.old 2
    have f3 := box_free hb.old 3
    go_wp2
    exact bodyPost_ret (v := .tuple #[.agg #[.int .i64 0, .int .i64 0, .int .i64 0, .int .i64 0], .int .i64 7]) (by simp [results, Try.results108, go_sem, q0, q1, q2, q3]) rfl ⟨by simp [decQ, h, ovE], ext_set4 hb.old.old (Nat.le_refl _) _ _ _ _ _ _ _ _⟩
  | true =>
    have h' : inB n 0 16777215 = true := h
    obtain ⟨h0, h1⟩ := wordB_bd h
    have e : decQ n = (decodeQ n, 0) := by simp [decQ, h]
    rw [e]
    have hd := fun W => decode_any n W h0
    generalize decodeQ n = o at hd ⊢
    go_enter Try.func108, Try.ntmps108
    go_wp2_with fail
    refine (out_one _ n _ _ (by simp) (by simp)).mono ?_
    rintro e w1 ⟨rfl, hb⟩
    go_wp2_with fail
    refine (hd _).mono ?_
    rintro e w2 ⟨rfl, hb2⟩
    have hb3 := hb.comp hb2
    have q0 := box_at (v := .int .i64 0) hb3.old 0 rfl
    have q1 := box_at (v := .int .i64 0) hb3.old 1 rfl
    have q2 := box_at (v := .int .i64 0) hb3.old 2 rfl
    have q3 := box_at (v := .int .i64 0) hb3.old 3 rfl
    have f0 := box_free hb3.old 0
    have f1 := box_free hb3.old 1
    have f2 := box_free hb3.old 2
    have f3 := box_free hb3.old 3
    go_wp2
    exact bodyPost_ret (v := ovE (o, 0)) (by simp [results, Try.results108, go_sem, q0, q1, q2, q3, ovE]) rfl ⟨rfl, ext_set4 hb3.old.old (Nat.le_refl _) _ _ _ _ _ _ _ _⟩
set_option maxHeartbeats 1000000 in
theorem rdecodeE_any (n : Int) (w : World) :
    Calls Try.prog 111 #[.int .i64 n] w fun e w' => e = .returned (ovE (decQ n)) ∧ Ext w w' := by
  cases h : wordB n with
  | false =>
    go_enter Try.func111, Try.ntmps111
    go_wp2_with (go_at_call 78; refine (word_any n _).mono ?_; rintro e w' ⟨rfl, rfl⟩)
    exact bodyPost_ret (v := .tuple #[.agg #[.int .i64 0, .int .i64 0, .int .i64 0, .int .i64 0], .int .i64 7]) (by simp [results, Try.results111, go_sem]) rfl ⟨by simp [decQ, h, ovE], (Ext.refl w).alloc _⟩
  | true =>
    obtain ⟨h0, h1⟩ := wordB_bd h
    have e : decQ n = (decodeQ n, 0) := by simp [decQ, h]
    rw [e]
    have hd := fun W => rdecode_any n W h0 h1
    generalize decodeQ n = o at hd ⊢
    go_enter Try.func111, Try.ntmps111
    go_wp2_with fail
    refine (word_any n _).mono ?_
    rintro e w' ⟨rfl, rfl⟩
    go_wp2_with fail
    refine (hd _).mono ?_
    rintro e w2 ⟨rfl, hb3⟩
    have q0 := box_at (v := .int .i64 0) hb3 0 rfl
    have q1 := box_at (v := .int .i64 0) hb3 1 rfl
    have q2 := box_at (v := .int .i64 0) hb3 2 rfl
    have q3 := box_at (v := .int .i64 0) hb3 3 rfl
    have f0 := box_free hb3 0
    have f1 := box_free hb3 1
    have f2 := box_free hb3 2
    have f3 := box_free hb3 3
    go_wp2
    exact bodyPost_ret (v := ovE (o, 0)) (by simp [results, Try.results111, go_sem, q0, q1, q2, q3, ovE]) rfl ⟨rfl, ext_set4 hb3.old (Nat.le_refl _) _ _ _ _ _ _ _ _⟩
set_option maxHeartbeats 1000000 in
theorem encode_any (a b c d : Int) (w : World) :
    Calls Try.prog 109 #[.agg #[.int .i64 a, .int .i64 b, .int .i64 c, .int .i64 d]] w fun e w' => e = .returned (.tuple #[.int .i64 (encodeQ ⟨a, b, c, d⟩).1, .int .i64 (encodeQ ⟨a, b, c, d⟩).2]) ∧ Ext w w' := by
  cases h : ordB ⟨a, b, c, d⟩ with
  | false =>
    go_enter Try.func109, Try.ntmps109
    go_wp2_with (go_at_call 130; refine (strange_any a b c d _).mono ?_; rintro e w' ⟨rfl, hb'⟩)
    go_ret2
    exact ⟨by simp [encodeQ, h], hb'.old⟩
  | true =>
    obtain ⟨⟨o0, o1⟩, ⟨a0, a1⟩, ⟨b0, b1⟩, c0, c1⟩ := ordB_bd h
    have e : encodeQ ⟨a, b, c, d⟩ = (((a * 128 + b) * 128 + c) * 128 + d, 0) := by simp [encodeQ, h, Q.written]
    rw [e]
    go_enter Try.func109, Try.ntmps109
    go_wp2_with fail
    refine (strange_any a b c d _).mono ?_
    rintro e w2 ⟨rfl, hb3⟩
    have q0 := box_at (v := .int .i64 a) hb3 0 rfl
    have q1 := box_at (v := .int .i64 b) hb3 1 rfl
    have q2 := box_at (v := .int .i64 c) hb3 2 rfl
    have q3 := box_at (v := .int .i64 d) hb3 3 rfl
    go_wp2
    go_quiet ((go_at_call 131; exact Calls.quiet_of_same ((pack_any _ _ _ (by omega) (by omega) (by omega) (by omega)).mono fun e w' h => ⟨h.1, h.2.symm⟩)))
    go_wp2
    go_ret2
    exact ⟨rfl, below_drewN hb3.old _⟩
end Go.Proofs.Ytcijneecjkpebaa
/- Contracts: When (both). -/
namespace Go.Proofs.Ytcijneecjkpebaa
open Go.RowKit Go.Q
/-- three numbers as the results of a call -/
def v3 (p : Int × Int × Int) : Value := .tuple #[.int .i64 p.1, .int .i64 p.2.1, .int .i64 p.2.2]
end Go.Proofs.Ytcijneecjkpebaa

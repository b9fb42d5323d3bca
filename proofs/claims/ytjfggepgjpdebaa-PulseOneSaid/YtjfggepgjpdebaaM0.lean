import Derived.WalkKit
import Derived.WalkSpells
import Derived.WalkLawsBesides
import Derived.Lib.Hide
import Derived.Test.YtjfggepgjpdebaaRows
import Derived.Deep.LoopGhost
import Derived.Shelf.Abstract
import Derived.BigQuiet
import Derived.Deep.QuietTactic
import Derived.RangeFuncFrom
import Derived.RangeFuncNested
import Derived.RangeFuncBound
import Derived.RangeFuncCalls
import Derived.RangeFuncLeaves
import Derived.Shelf.RegionOpen
import Derived.OwnWalkIn
import Derived.TacticsInMore
import Derived.LoopNIn
import Derived.LoopIn
import Derived.Deep.RegionHeld3
import Derived.Deep.DeepCutAuto
import Derived.StillTailTactics
import Derived.Deep.RegionLaw
import Derived.Deep.AppendLies
import Derived.BigRegion
import Derived.Test.YtjfggepgjpdebaaMS4
set_option linter.unusedVariables false
set_option linter.unusedSimpArgs false
/- Small facts that all walks share: masks on int, slices of ints that read as a list, boxes, what stays when the world grows. -/
namespace Go.Q
open Go.RowKit
theorem i64_mask (n m : Int) (j : Nat) (hj : j ≤ 62) (hm : (BitVec.ofInt 64 m).toNat = 2 ^ j - 1) : bits .and .i64 n m = n % 2 ^ j := by
  have key : (BitVec.ofInt 64 n &&& BitVec.ofInt 64 m).toNat = (n % ((2 ^ 64 : Nat) : Int)).toNat % 2 ^ j := by
    rw [BitVec.toNat_and, BitVec.toNat_ofInt, hm, Nat.and_two_pow_sub_one_eq_mod]
  show IntKind.i64.wrap ((BitVec.ofInt 64 n &&& BitVec.ofInt 64 m).toNat : Nat) = n % 2 ^ j
  have h0 : 0 ≤ n % ((2 ^ 64 : Nat) : Int) := Int.emod_nonneg _ (by decide)
  have e : (((n % ((2 ^ 64 : Nat) : Int)).toNat % 2 ^ j : Nat) : Int) = n % 2 ^ j := by
    rw [Int.natCast_emod, Int.toNat_of_nonneg h0]
    have hd : (((2 ^ j : Nat) : Int)) ∣ ((2 ^ 64 : Nat) : Int) := Int.natCast_dvd_natCast.2 (Nat.pow_dvd_pow 2 (by omega))
    rw [Int.emod_emod_of_dvd _ hd]
    simp
  rw [key, e]
  have hlt : n % 2 ^ j < 2 ^ j := Int.emod_lt_of_pos _ (by exact_mod_cast Nat.two_pow_pos j)
  have hge : 0 ≤ n % 2 ^ j := Int.emod_nonneg _ (by have := Nat.two_pow_pos j; exact_mod_cast (by omega : (2 ^ j : Nat) ≠ 0))
  have hb : (2 : Int) ^ j ≤ 2 ^ 62 := by exact_mod_cast Nat.pow_le_pow_right (by decide) hj
  rw [IntKind.wrap_i64]
  omega
theorem i64_and15 (n : Int) : bits .and .i64 n 15 = n % 16 := i64_mask n 15 4 (by decide) (by decide)
theorem i64_and127 (n : Int) : bits .and .i64 n 127 = n % 128 := i64_mask n 127 7 (by decide) (by decide)
theorem i64_and24 (n : Int) : bits .and .i64 n 16777215 = n % 16777216 := i64_mask n 16777215 24 (by decide) (by decide)
attribute [go_sem] i64_and15 i64_and24
theorem ret_bool {a b : Bool} (h : a = b) : Ending.returned (.bool a) = .returned (.bool b) := by rw [h]
theorem ret_int {k : IntKind} {a b : Int} (h : a = b) : Ending.returned (.int k a) = .returned (.int k b) := by rw [h]
theorem ret_int2 {k l : IntKind} {a b c d : Int} (h : a = b) (h' : c = d) : Ending.returned (.tuple #[.int k a, .int l c]) = .returned (.tuple #[.int k b, .int l d]) := by rw [h, h']
/-- what lay in w lies in w' unturned -/
abbrev Ext (w w' : World) : Prop := Below w.heap.size w w'
theorem Ext.refl (w : World) : Ext w w := Below.refl _ _
theorem Ext.comp {a b c : World} (h : Ext a b) (k : Ext b c) : Ext a c := h.trans (k.mono h.size)
theorem Ext.alloc {a b : World} (h : Ext a b) (o : Obj) : Ext a (b.alloc o) := Below.alloc h h.size o
/-- the cells of a new block, still there later -/
theorem box_at {w w1 : World} {vs : Array Value} {T : TypeId} (h : Ext (w.alloc (.cells vs T)) w1) (i : Nat) {v : Value} (hv : vs[i]? = some v) : w1.cell? ⟨w.heap.size, i, none⟩ = some v := by
  refine (h.cell (p := ⟨w.heap.size, i, none⟩) (by simp)).trans ?_
  have e : (w.alloc (.cells vs T)).heap[w.heap.size]? = some (.cells vs T (0, 0)) := by show (w.heap.push _)[w.heap.size]? = _; simp
  simp only [World.cell?, e]
  simpa using hv
theorem box_free {w w1 : World} {vs : Array Value} {T : TypeId} (h : Ext (w.alloc (.cells vs T)) w1) (i : Nat) : w1.frozen? ⟨w.heap.size, i, none⟩ = false := by
  refine (h.frozen (p := ⟨w.heap.size, i, none⟩) (by simp)).trans ?_
  have e : (w.alloc (.cells vs T)).heap[w.heap.size]? = some (.cells vs T (0, 0)) := by show (w.heap.push _)[w.heap.size]? = _; simp
  simp only [World.frozen?, e]
  simp
theorem Ext.old {w w1 : World} {o : Obj} (h : Ext (w.alloc o) w1) : Ext w w1 := Ext.comp ((Ext.refl w).alloc o) h
/-- the numbers xs lie from a on -/
def IntsAt (w : World) (a : Option Addr) (xs : List Int) : Prop :=
  xs = [] ∨ ∃ b off, a = some ⟨b, off, none⟩ ∧ b < w.heap.size ∧ ∀ i, i < xs.length → w.cell? ⟨b, off + i, none⟩ = some (.int .i64 (xs[i]?.getD 0))
theorem IntsAt.ext {w w' : World} {a : Option Addr} {xs : List Int} (h : IntsAt w a xs) (e : Ext w w') : IntsAt w' a xs := by
  rcases h with h | ⟨b, off, ha, hb, hc⟩
  · exact .inl h
  · exact .inr ⟨b, off, ha, Nat.lt_of_lt_of_le hb e.size, fun i hi => (e.cell (p := ⟨b, off + i, none⟩) hb).trans (hc i hi)⟩
theorem IntsAt.one {w : World} {b : Nat} {x : Int} (hb : b < w.heap.size) (h : w.cell? ⟨b, 0, none⟩ = some (.int .i64 x)) : IntsAt w (some ⟨b, 0, none⟩) [x] :=
  .inr ⟨b, 0, rfl, hb, fun i hi => by
    have : i = 0 := by simpa using hi
    subst this; simpa using h⟩
/-- the place of the first element of which p holds; -1 -/
def idxQ (p : Int → Bool) (xs : List Int) : Int := match xs.findIdx? p with | some i => (i : Int) | none => -1
theorem idxQ_hit (p : Int → Bool) (xs : List Int) (k : Nat) (hk : k < xs.length) (hp : p (xs[k]?.getD 0) = true) (hn : ∀ j, j < k → p (xs[j]?.getD 0) = false) : idxQ p xs = k := by
  have : xs.findIdx? p = some k := by
    rw [List.findIdx?_eq_some_iff_getElem]
    refine ⟨hk, ?_, fun j hj => ?_⟩
    · simpa [List.getElem?_eq_getElem hk] using hp
    · have := hn j hj
      rw [List.getElem?_eq_getElem (by omega)] at this
      simpa using this
  simp [idxQ, this]
theorem idxQ_miss (p : Int → Bool) (xs : List Int) (hn : ∀ j, j < xs.length → p (xs[j]?.getD 0) = false) : idxQ p xs = -1 := by
  have : xs.findIdx? p = none := by
    rw [List.findIdx?_eq_none_iff]
    intro x hx
    obtain ⟨i, hi, rfl⟩ := List.mem_iff_getElem.1 hx
    have := hn i hi
    rw [List.getElem?_eq_getElem hi] at this
    simpa using this
  simp [idxQ, this]
theorem idxQ_nonneg (p : Int → Bool) (xs : List Int) : decide (0 ≤ idxQ p xs) = xs.any p := by
  unfold idxQ
  cases h : xs.findIdx? p with
  | none =>
    rw [List.findIdx?_eq_none_iff] at h
    symm; simp only [Int.reduceNeg]
    rw [show decide ((0 : Int) ≤ -1) = false from by decide]
    rw [List.any_eq_false]
    intro x hx; simpa using h x hx
  | some i =>
    rw [List.findIdx?_eq_some_iff_getElem] at h
    obtain ⟨hi, hp, _⟩ := h
    have : xs.any p = true := List.any_eq_true.2 ⟨xs[i], List.getElem_mem hi, hp⟩
    rw [this]; simp
/-- what a predicate may do: it answers p x, and lays only blocks of its own -/
def PredQ (P : Program) (g : Nat) (lb : Array Value) (p : Int → Bool) (w : World) : Prop :=
  ∀ (W : World) (x : Int), Ext w W → Calls P g (#[.int .i64 x] ++ lb) W fun e w' => e = .returned (.bool (p x)) ∧ Ext w w'
theorem idxQ_lt (p : Int → Bool) (xs : List Int) : -1 ≤ idxQ p xs ∧ idxQ p xs < xs.length := by
  unfold idxQ
  cases h : xs.findIdx? p with
  | none => simp; omega
  | some i =>
    rw [List.findIdx?_eq_some_iff_getElem] at h
    obtain ⟨hi, _⟩ := h
    simp; omega
end Go.Q
/- Contracts of the small functions that only reckon: in, Word, Address, Sign, signed, pack, unpack, Written. -/
namespace Go.Proofs.Ytjfggepgjpdebaa
open Go.RowKit Go.Q
set_option maxHeartbeats 400000 in
theorem in_any (n l h : Int) (w : World) :
    Calls Try.prog 77 #[.int .i64 n, .int .i64 l, .int .i64 h] w fun e w' => e = .returned (.bool (inB n l h)) ∧ w = w' := by
  go_enter Try.func77, Try.ntmps77
  by_cases h1 : l ≤ n
  · go_wp2
    go_ret
    exact ⟨ret_bool (by simp [inB, h1]), rfl⟩
  · go_wp2
    go_ret
    exact ⟨ret_bool (by rw [inB, decide_eq_false (by omega)]; rfl), rfl⟩
set_option maxHeartbeats 400000 in
theorem word_any (n : Int) (w : World) :
    Calls Try.prog 41 #[.int .i64 n] w fun e w' => e = .returned (.bool (wordB n)) ∧ w = w' := by
  go_enter Try.func41, Try.ntmps41
  go_wp2_with (go_at_call 77; refine (in_any _ _ _ _).mono ?_; rintro e w' ⟨rfl, rfl⟩)
  go_ret
  exact ⟨rfl, rfl⟩
set_option maxHeartbeats 400000 in
theorem address_any (n : Int) (w : World) :
    Calls Try.prog 54 #[.int .i64 n] w fun e w' => e = .returned (.bool (addrB n)) ∧ w = w' := by
  go_enter Try.func54, Try.ntmps54
  go_wp2_with (go_at_call 77; refine (in_any _ _ _ _).mono ?_; rintro e w' ⟨rfl, rfl⟩)
  go_ret
  exact ⟨rfl, rfl⟩
set_option maxHeartbeats 400000 in
theorem sign_any (n : Int) (w : World) (h0 : 0 ≤ n) (h1 : n ≤ 16777215) :
    Calls Try.prog 42 #[.int .i64 n] w fun e w' => e = .returned (.int .i64 (sgn n)) ∧ w = w' := by
  go_enter Try.func42, Try.ntmps42
  by_cases h2 : 8388608 ≤ n
  · go_wp2
    go_ret
    exact ⟨ret_int (by simp [sgn, h2]), rfl⟩
  · go_wp2
    go_ret
    exact ⟨ret_int (by rw [sgn, if_neg (by omega)]), rfl⟩
theorem unpack_any (n : Int) (w : World) (h0 : 0 ≤ n) :
    Calls Try.prog 113 #[.int .i64 n] w fun e w' => e = .returned (.tuple #[.int .i64 (n / 128), .int .i64 (n % 128)]) ∧ w = w' := by
  go_enter Try.func113, Try.ntmps113
  go_wp2
  go_ret2
  exact ⟨ret_int2 rfl (Q.i64_and127 n), rfl⟩
theorem written_any (a b c d : Int) (w : World) (h : ordB ⟨a, b, c, d⟩ = true) :
    Calls Try.prog 24 #[.agg #[.int .i64 a, .int .i64 b, .int .i64 c, .int .i64 d]] w fun e w' => e = .returned (.int .i64 (Q.written ⟨a, b, c, d⟩)) ∧ Ext w w' := by
  simp [ordB, inB, addrB] at h
  obtain ⟨⟨⟨⟨a0, a1⟩, b0, b1⟩, c0, c1⟩, d0, d1⟩ := h
  go_enter Try.func24, Try.ntmps24
  go_wp2
  go_ret
  exact ⟨rfl, (Ext.refl w).alloc _⟩
end Go.Proofs.Ytjfggepgjpdebaa
/- Contracts: out and its closure, slices.IndexFunc and ContainsFunc at ints, strange, ref Order, odd, Check's closure. -/
namespace Go.Proofs.Ytjfggepgjpdebaa
open Go.RowKit Go.Q
set_option maxHeartbeats 400000 in
theorem out1_any (b : Nat) (hi n : Int) (w : World) (h : w.cell? ⟨b, 0, none⟩ = some (.int .i64 hi)) :
    Calls Try.prog 87 #[.int .i64 n, .pointer (some ⟨b, 0, none⟩)] w fun e w' => e = .returned (.bool (decide (n < 0) || decide (hi < n))) ∧ Ext w w' := by
  by_cases h0 : n < 0
  · go_enter Try.func87, Try.ntmps87
    go_wp2
    go_ret
    exact ⟨ret_bool (by simp [h0]), Ext.refl _⟩
  · go_enter Try.func87, Try.ntmps87
    go_wp2
    go_ret
    exact ⟨ret_bool (by rw [decide_eq_false (by omega : ¬ n < 0)]; rfl), Ext.refl _⟩
set_option maxHeartbeats 1000000 in
theorem index_any (g : Nat) (lb : Array Value) (p : Int → Bool) (a : Option Addr) (n cap : Nat) (xs : List Int) (w : World)
    (eg : ∀ args w, (callFunc g args).run Try.prog w = .ok (.enter g args) w) (hp : PredQ Try.prog g lb p w)
    (hn : xs.length = n) (hbig : n ≤ 9223372036854775807) (hI : IntsAt w a xs) :
    Calls Try.prog 110 #[.slice a n cap, .func (.func g) #[] lb] w fun e w' => e = .returned (.int .i64 (idxQ p xs)) ∧ Ext w w' := by
  rcases hI with rfl | ⟨b, off, rfl, hb, hc⟩
  · obtain rfl : n = 0 := hn.symm
    go_enter Try.func110, Try.ntmps110
    go_wp2
    go_loopg [5, 8] 0 (fun gg _ s8 wr => s8 = .int .i64 0 ∧ Aside (Ext w wr))
    case atStart => exact ⟨rfl, Ext.refl w⟩
    case round =>
      obtain ⟨rfl, BW⟩ := hrel
      go_wp2
      go_ret
      exact ⟨rfl, BW.out⟩
  · subst hn
    go_enter Try.func110, Try.ntmps110
    go_wp2
    go_loopg [5, 8] xs.length (fun gg _ s8 wr => ∃ kk : Nat, kk ≤ xs.length ∧ xs.length - kk ≤ gg ∧ s8 = .int .i64 kk ∧ Aside (Ext w wr) ∧ Aside (∀ j, j < kk → p (xs[j]?.getD 0) = false))
    case atStart => exact ⟨0, Nat.zero_le _, by omega, rfl, Ext.refl w, fun j hj => absurd hj (Nat.not_lt_zero _)⟩
    case round =>
      obtain ⟨kk, hkk, hg, rfl, BW, A⟩ := hrel
      by_cases hlt : kk < xs.length
      · have hltz : (kk : Int) < (xs.length : Int) := by omega
        have l2 : wr.cell? ⟨b, off + kk, none⟩ = some (.int .i64 (xs[kk]?.getD 0)) := (BW.out.cell (p := ⟨b, off + kk, none⟩) hb).trans (hc kk hlt)
        have hcall := hp wr (xs[kk]?.getD 0) BW.out
        clear hc hp
        generalize hy : xs[kk]?.getD 0 = y at l2 hcall
        have B : Aside (xs[kk]?.getD 0 = y) := hy
        clear hy
        cases hq : p y with
        | true =>
          rw [hq] at hcall
          go_wp2_with (go_at_fn g; refine hcall.mono ?_; rintro e w' ⟨rfl, hb'⟩)
          go_ret
          refine ⟨?_, hb'⟩
          rw [idxQ_hit p xs kk hlt (by rw [B.out]; exact hq) A.out]
          rfl
        | false =>
          rw [hq] at hcall
          go_wp2_with (go_at_fn g; refine hcall.mono ?_; rintro e w' ⟨rfl, hb'⟩)
          go_roundg (xs.length - (kk + 1))
          case measure => omega
          case rel =>
            refine ⟨kk + 1, by omega, by omega, by go_num, hb', (show Aside _ from fun j hj => ?_)⟩
            by_cases e : j = kk
            · subst e
              rw [B.out]; exact hq
            · exact A.out j (by omega)
      · have hltz : ¬ (kk : Int) < (xs.length : Int) := by omega
        have hkx : kk = xs.length := by omega
        go_wp2
        go_ret
        refine ⟨?_, BW.out⟩
        rw [idxQ_miss p xs (fun j hj => A.out j (by omega))]
        rfl
set_option maxHeartbeats 400000 in
theorem contains_any (g : Nat) (lb : Array Value) (p : Int → Bool) (a : Option Addr) (n cap : Nat) (xs : List Int) (w : World)
    (eg : ∀ args w, (callFunc g args).run Try.prog w = .ok (.enter g args) w) (hp : PredQ Try.prog g lb p w)
    (hn : xs.length = n) (hbig : n ≤ 9223372036854775807) (hI : IntsAt w a xs) :
    Calls Try.prog 86 #[.slice a n cap, .func (.func g) #[] lb] w fun e w' => e = .returned (.bool (xs.any p)) ∧ Ext w w' := by
  have hc := index_any g lb p a n cap xs w eg hp hn hbig hI
  rw [← idxQ_nonneg]
  clear hp hI
  go_enter Try.func86, Try.ntmps86
  go_wp2_with (go_at_call 110; refine hc.mono ?_; rintro e w' ⟨rfl, hb'⟩)
  go_ret
  exact ⟨rfl, hb'⟩
set_option maxHeartbeats 400000 in
theorem out_any (hi : Int) (a : Option Addr) (n cap : Nat) (xs : List Int) (w : World)
    (hn : xs.length = n) (hbig : n ≤ 9223372036854775807) (hI : IntsAt w a xs) :
    Calls Try.prog 51 #[.int .i64 hi, .slice a n cap] w fun e w' => e = .returned (.bool (outB hi xs)) ∧ Ext w w' := by
  have hI' : IntsAt (w.alloc (.cells #[.int .i64 hi] 3)) a xs := hI.ext ((Ext.refl w).alloc _)
  have hp : PredQ Try.prog 87 #[.pointer (some ⟨w.heap.size, 0, none⟩)] (fun n => decide (n < 0) || decide (hi < n)) (w.alloc (.cells #[.int .i64 hi] 3)) :=
    fun W x hb => (out1_any w.heap.size hi x W ((hb.cell (p := ⟨w.heap.size, 0, none⟩) (by simp)).trans (by simp))).mono fun e w' ⟨h1, h2⟩ => ⟨h1, hb.comp h2⟩
  have hc := contains_any 87 #[.pointer (some ⟨w.heap.size, 0, none⟩)] (fun n => decide (n < 0) || decide (hi < n)) a n cap xs _ (enters_of Try.func87 (by kernel_rfl) rfl) hp hn hbig hI'
  rw [show xs.any (fun n => decide (n < 0) || decide (hi < n)) = outB hi xs from rfl] at hc
  clear hp hI hI' hn
  go_enter Try.func51, Try.ntmps51
  go_wp2_with (go_at_call 86; refine hc.mono ?_; rintro e w' ⟨rfl, hb'⟩)
  go_ret
  exact ⟨rfl, Ext.comp ((Ext.refl w).alloc _) hb'⟩
theorem out_one (hi x : Int) (b : Nat) (w : World) (hb : b < w.heap.size) (h : w.cell? ⟨b, 0, none⟩ = some (.int .i64 x)) :
    Calls Try.prog 51 #[.int .i64 hi, .slice (some ⟨b, 0, none⟩) 1 1] w fun e w' => e = .returned (.bool (!inB x 0 hi)) ∧ Ext w w' := by
  rw [← outB_one]
  exact out_any hi _ 1 1 [x] w rfl (by decide) (.one hb h)
set_option maxHeartbeats 400000 in
theorem check1_any (n : Int) (w : World) :
    Calls Try.prog 111 #[.int .i64 n] w fun e w' => e = .returned (.bool (!wordB n)) ∧ Ext w w' := by
  go_enter Try.func111, Try.ntmps111
  go_wp2_with (go_at_call 51; refine (out_one _ n _ _ (by simp) (by simp)).mono ?_; rintro e w' ⟨rfl, hb'⟩)
  go_ret
  exact ⟨rfl, Ext.comp ((Ext.refl w).alloc _) hb'⟩
end Go.Proofs.Ytjfggepgjpdebaa
/- Contracts: decode (both), strange, ref Order, Encode, Decode, Signed (both). -/
namespace Go.Proofs.Ytjfggepgjpdebaa
open Go.RowKit Go.Q
set_option maxHeartbeats 400000 in
theorem decode_any (n : Int) (w : World) (h0 : 0 ≤ n) :
    Calls Try.prog 90 #[.int .i64 n] w fun e w' => e = .returned (.agg #[.int .i64 (decodeQ n).op, .int .i64 (decodeQ n).frm, .int .i64 (decodeQ n).to, .int .i64 (decodeQ n).nxt]) ∧ Ext w w' := by
  have h1 : 0 ≤ n / 128 := by omega
  have h2 : 0 ≤ n / 128 / 128 := by omega
  go_enter Try.func90, Try.ntmps90
  go_wp2_with (go_at_call 113; refine (unpack_any _ _ (by assumption)).mono ?_; rintro e w' ⟨rfl, rfl⟩)
  refine bodyPost_ret (v := .agg #[.int .i64 (n / 128 / 128 / 128), .int .i64 (n / 128 / 128 % 128), .int .i64 (n / 128 % 128), .int .i64 (n % 128)]) (by simp [results, Try.results90, go_sem]) rfl ⟨rfl, (Ext.refl w).alloc _⟩
set_option maxHeartbeats 400000 in
theorem rdecode_any (n : Int) (w : World) (h0 : 0 ≤ n) (hh : n ≤ 16777215) :
    Calls Try.prog 78 #[.int .i64 n] w fun e w' => e = .returned (.agg #[.int .i64 (decodeQ n).op, .int .i64 (decodeQ n).frm, .int .i64 (decodeQ n).to, .int .i64 (decodeQ n).nxt]) ∧ Ext w w' := by
  have h1 : 0 ≤ n / 128 := by omega
  have h2 : 0 ≤ n / 128 / 128 := by omega
  go_enter Try.func78, Try.ntmps78
  go_wp2
  refine bodyPost_ret (v := .agg #[.int .i64 (n / 128 / 128 / 128), .int .i64 (n / 128 / 128 % 128), .int .i64 (n / 128 % 128), .int .i64 (n % 128)]) (by simp [results, Try.results78, go_sem]) rfl ⟨rfl, (Ext.refl w).alloc _⟩
end Go.Proofs.Ytjfggepgjpdebaa
/- A range over a function whose body leaves by a return in its first round: one law for the caller, one word for the iterator. -/
namespace Go.Q
open Go.RowKit Go.Shelf
variable {F : Fence} {n : Nat} {P : Program}
end Go.Q
/- Contracts: after (the program's, over an iterator), After (the reference's, by a loop). -/
namespace Go.Proofs.Ytjfggepgjpdebaa
open Go.RowKit Go.Q Go.Shelf
attribute [local go_sem] Oper.semAt_some
end Go.Proofs.Ytjfggepgjpdebaa
/- Contracts: when (both), When (both). -/
namespace Go.Proofs.Ytjfggepgjpdebaa
open Go.RowKit Go.Q
end Go.Proofs.Ytjfggepgjpdebaa
/- Contracts: ref when, When (both), Encode, Decode, Signed (both). -/
namespace Go.Proofs.Ytjfggepgjpdebaa
open Go.RowKit Go.Q
/-- an order with an error's code, as a value -/
def ovE (p : Ord × Int) : Value := .tuple #[.agg #[.int .i64 p.1.op, .int .i64 p.1.frm, .int .i64 p.1.to, .int .i64 p.1.nxt], .int .i64 p.2]
theorem ext_set4 {w w1 : World} {n : Nat} (h : Ext w w1) (hn : w.heap.size ≤ n) (a b c d : Value) (i j k l : Nat) : Ext w ((((w1.setCell ⟨n, i, none⟩ a).setCell ⟨n, j, none⟩ b).setCell ⟨n, k, none⟩ c).setCell ⟨n, l, none⟩ d) :=
  (((h.setCell (p := ⟨n, i, none⟩) hn a).setCell (p := ⟨n, j, none⟩) hn b).setCell (p := ⟨n, k, none⟩) hn c).setCell (p := ⟨n, l, none⟩) hn d
set_option maxHeartbeats 1000000 in
theorem decodeE_any (n : Int) (w : World) :
    Calls Try.prog 58 #[.int .i64 n] w fun e w' => e = .returned (ovE (decQ n)) ∧ Ext w w' := by
  cases h : wordB n with
  | false =>
    have h' : inB n 0 16777215 = false := h
    go_enter Try.func58, Try.ntmps58
    go_wp2_with fail
    refine (out_one _ n _ _ (by simp) (by simp)).mono ?_
    rintro e w1 ⟨rfl, hb⟩
    have q0 := box_at (v := .int .i64 0) hb.old 0 rfl
    have q1 := box_at (v := .int .i64 0) hb.old 1 rfl
    have q2 := box_at (v := .int .i64 0) hb.old 2 rfl
    have q3 := box_at (v := .int .i64 0) hb.old 3 rfl
    have f0 := box_free hb.old 0
    have f1 := box_free hb.old 1
    have f2 := box_free hb.old 2
    have f3 := box_free hb.old 3
    go_wp2
    exact bodyPost_ret (v := .tuple #[.agg #[.int .i64 0, .int .i64 0, .int .i64 0, .int .i64 0], .int .i64 7]) (by simp [results, Try.results58, go_sem, q0, q1, q2, q3]) rfl ⟨by simp [decQ, h, ovE], ext_set4 hb.old.old (Nat.le_refl _) _ _ _ _ _ _ _ _⟩
  | true =>
    have h' : inB n 0 16777215 = true := h
    obtain ⟨h0, h1⟩ := wordB_bd h
    have e : decQ n = (decodeQ n, 0) := by simp [decQ, h]
    rw [e]
    have hd := fun W => decode_any n W h0
    generalize decodeQ n = o at hd ⊢
    go_enter Try.func58, Try.ntmps58
    go_wp2_with fail
    refine (out_one _ n _ _ (by simp) (by simp)).mono ?_
    rintro e w1 ⟨rfl, hb⟩
    go_wp2_with fail
    refine (hd _).mono ?_
    rintro e w2 ⟨rfl, hb2⟩
    have hb3 := hb.comp hb2
    have q0 := box_at (v := .int .i64 0) hb3.old 0 rfl
    have q1 := box_at (v := .int .i64 0) hb3.old 1 rfl
    have q2 := box_at (v := .int .i64 0) hb3.old 2 rfl
    have q3 := box_at (v := .int .i64 0) hb3.old 3 rfl
    have f0 := box_free hb3.old 0
    have f1 := box_free hb3.old 1
    have f2 := box_free hb3.old 2
    have f3 := box_free hb3.old 3
    go_wp2
    exact bodyPost_ret (v := ovE (o, 0)) (by simp [results, Try.results58, go_sem, q0, q1, q2, q3, ovE]) rfl ⟨rfl, ext_set4 hb3.old.old (Nat.le_refl _) _ _ _ _ _ _ _ _⟩
set_option maxHeartbeats 1000000 in
theorem rdecodeE_any (n : Int) (w : World) :
    Calls Try.prog 43 #[.int .i64 n] w fun e w' => e = .returned (ovE (decQ n)) ∧ Ext w w' := by
  cases h : wordB n with
  | false =>
    go_enter Try.func43, Try.ntmps43
    go_wp2_with (go_at_call 41; refine (word_any n _).mono ?_; rintro e w' ⟨rfl, rfl⟩)
    exact bodyPost_ret (v := .tuple #[.agg #[.int .i64 0, .int .i64 0, .int .i64 0, .int .i64 0], .int .i64 7]) (by simp [results, Try.results43, go_sem]) rfl ⟨by simp [decQ, h, ovE], (Ext.refl w).alloc _⟩
  | true =>
    obtain ⟨h0, h1⟩ := wordB_bd h
    have e : decQ n = (decodeQ n, 0) := by simp [decQ, h]
    rw [e]
    have hd := fun W => rdecode_any n W h0 h1
    generalize decodeQ n = o at hd ⊢
    go_enter Try.func43, Try.ntmps43
    go_wp2_with fail
    refine (word_any n _).mono ?_
    rintro e w' ⟨rfl, rfl⟩
    go_wp2_with fail
    refine (hd _).mono ?_
    rintro e w2 ⟨rfl, hb3⟩
    have q0 := box_at (v := .int .i64 0) hb3 0 rfl
    have q1 := box_at (v := .int .i64 0) hb3 1 rfl
    have q2 := box_at (v := .int .i64 0) hb3 2 rfl
    have q3 := box_at (v := .int .i64 0) hb3 3 rfl
    have f0 := box_free hb3 0
    have f1 := box_free hb3 1
    have f2 := box_free hb3 2
    have f3 := box_free hb3 3
    go_wp2
    exact bodyPost_ret (v := ovE (o, 0)) (by simp [results, Try.results43, go_sem, q0, q1, q2, q3, ovE]) rfl ⟨rfl, ext_set4 hb3.old (Nat.le_refl _) _ _ _ _ _ _ _ _⟩
end Go.Proofs.Ytjfggepgjpdebaa
/- Contracts: When (both). -/
namespace Go.Proofs.Ytjfggepgjpdebaa
open Go.RowKit Go.Q
/-- three numbers as the results of a call -/
def v3 (p : Int × Int × Int) : Value := .tuple #[.int .i64 p.1, .int .i64 p.2.1, .int .i64 p.2.2]
end Go.Proofs.Ytjfggepgjpdebaa
/- Layer 4 in plain Lean, on: a state's check; an order; a run. -/
namespace Go.Q
/-- the fields that are single numbers lie in their ranges -/
def fieldsB (s : St) : Bool := inB s.taken 0 s.tape.length && inB s.time 0 1000000000 && addrB s.at_ && inB s.done 0 s.time && inB s.why 0 4
def lensB (s : St) : Bool := s.store.length == 128 && decide (s.tape.length ≤ 200) && decide (s.printed.length ≤ 200)
/-- what Check returns -/
def checkQ (s : St) : Int × Int × Int :=
  if lensB s = false then (1, 0, 3)
  else if 0 ≤ idxQ badW s.store then (2, idxQ badW s.store, 7)
  else if 0 ≤ idxQ badW s.tape then (3, idxQ badW s.tape, 7)
  else if 0 ≤ idxQ badW s.printed then (4, idxQ badW s.printed, 7)
  else if fieldsB s = false then (5, 0, 7)
  else if s.time % 16 ≠ s.at_ % 16 then (6, 0, 2)
  else (0, 0, 0)
theorem tmod16_yes {a b : Int} (h : a % 16 = b % 16) : ((a - b).tmod 16 != 0) = false := by
  rw [bne_eq_false_iff_eq]; exact Int.tmod_eq_zero_of_dvd (by omega)
theorem tmod16_no {a b : Int} (h : ¬ a % 16 = b % 16) : ((a - b).tmod 16 != 0) = true := by
  rw [bne_iff_ne]; intro e
  have := Int.dvd_of_tmod_eq_zero e
  omega
end Go.Q
namespace Go.Q
open Go.RowKit
/-- what was there stays, but for the blocks of S -/
structure Chg (S : Nat → Prop) (w w' : World) : Prop where
  os : w'.os = w.os
  tape : w'.tape = w.tape
  output : w'.output = w.output
  size : w.heap.size ≤ w'.heap.size
  block : ∀ k, k < w.heap.size → ¬ S k → w'.heap[k]? = w.heap[k]?
theorem Chg.refl (S : Nat → Prop) (w : World) : Chg S w w := ⟨rfl, rfl, rfl, Nat.le_refl _, fun _ _ _ => rfl⟩
theorem Chg.trans {S : Nat → Prop} {a b c : World} (h : Chg S a b) (k : Chg S b c) : Chg S a c :=
  ⟨k.os.trans h.os, k.tape.trans h.tape, k.output.trans h.output, Nat.le_trans h.size k.size, fun i hi hs => (k.block i (Nat.lt_of_lt_of_le hi h.size) hs).trans (h.block i hi hs)⟩
/-- the later blocks may be others -/
theorem Chg.trans' {S T : Nat → Prop} {a b c : World} (h : Chg S a b) (k : Chg T b c) (hT : ∀ i, i < a.heap.size → T i → S i) : Chg S a c :=
  ⟨k.os.trans h.os, k.tape.trans h.tape, k.output.trans h.output, Nat.le_trans h.size k.size, fun i hi hs => (k.block i (Nat.lt_of_lt_of_le hi h.size) (fun t => hs (hT i hi t))).trans (h.block i hi hs)⟩
theorem Chg.of_ext {S : Nat → Prop} {a b : World} (h : Ext a b) : Chg S a b := ⟨h.os, h.tape, h.output, h.size, fun k hk _ => h.block k hk⟩
theorem Chg.ext {S : Nat → Prop} {a b c : World} (h : Chg S a b) (k : Ext b c) : Chg S a c := h.trans (.of_ext k)
theorem Chg.setCell {S : Nat → Prop} {a w : World} (h : Chg S a w) (p : Addr) (hp : S p.block) (u : Value) : Chg S a (w.setCell p u) :=
  h.trans ⟨rfl, rfl, rfl, by simp [World.setCell], fun k _ hs => Below.heap_setCell _ _ _ _ (fun e => hs (e ▸ hp))⟩
theorem Chg.below {S : Nat → Prop} {w w' : World} {n : Nat} (h : Chg S w w') (hS : ∀ k, S k → n ≤ k) (hn : n ≤ w.heap.size) : Below n w w' :=
  ⟨h.os, h.tape, h.output, h.size, fun k hk => h.block k (by omega) (fun s => by have := hS k s; omega)⟩
theorem Chg.heapEq {S : Nat → Prop} {w w' : World} (h1 : w'.os = w.os) (h2 : w'.tape = w.tape) (h3 : w'.output = w.output) (e : w'.heap = w.heap) : Chg S w w' := ⟨h1, h2, h3, by rw [e]; exact Nat.le_refl _, fun k _ _ => by rw [e]⟩
/-- a valid state -/
structure Valid (s : St) : Prop where
  len : s.store.length = 128
  tlen : s.tape.length ≤ 200
  plen : s.printed.length ≤ 200
  ws : ∀ x ∈ s.store, 0 ≤ x ∧ x ≤ 16777215
  wt : ∀ x ∈ s.tape, 0 ≤ x ∧ x ≤ 16777215
  wp : ∀ x ∈ s.printed, 0 ≤ x ∧ x ≤ 16777215
  taken : 0 ≤ s.taken ∧ s.taken ≤ s.tape.length
  time : 0 ≤ s.time ∧ s.time ≤ 1000000000
  at_ : 0 ≤ s.at_ ∧ s.at_ ≤ 127
  done : 0 ≤ s.done ∧ s.done ≤ s.time
  why : 0 ≤ s.why ∧ s.why ≤ 4
  place : s.time % 16 = s.at_ % 16
theorem ordB_decode {n : Int} (h0 : 0 ≤ n) (h1 : n ≤ 16777215) : ordB (decodeQ n) = true := by
  simp only [ordB, addrB, inB, decodeQ, Bool.and_eq_true, decide_eq_true_eq]
  refine ⟨⟨⟨⟨?_, ?_⟩, ⟨?_, ?_⟩⟩, ⟨?_, ?_⟩⟩, ⟨?_, ?_⟩⟩ <;> exact decide_eq_true (by omega)
theorem mem_get {xs : List Int} {i : Nat} (h : i < xs.length) {P : Int → Prop} (hp : ∀ x ∈ xs, P x) : P (xs[i]?.getD 0) := by
  rw [List.getElem?_eq_getElem h]
  exact hp _ (List.getElem_mem h)
end Go.Q
/- Contract: the program's Check. -/
namespace Go.Proofs.Ytjfggepgjpdebaa
open Go.RowKit Go.Q
/-- a state as a value: three slices and five numbers -/
abbrev sv (a1 a2 a3 : Option Addr) (n1 c1 n2 c2 n3 c3 : Nat) (tk tm at_ dn wy : Int) : Value :=
  .agg #[.slice a1 n1 c1, .slice a2 n2 c2, .int .i64 tk, .slice a3 n3 c3, .int .i64 tm, .int .i64 at_, .int .i64 dn, .int .i64 wy]
theorem pred_check (w : World) : PredQ Try.prog 111 #[] badW w := fun W x hb => (check1_any x W).mono fun e w' ⟨h1, h2⟩ => ⟨h1, hb.comp h2⟩
set_option maxHeartbeats 1000000 in
theorem check_len (a1 a2 a3 : Option Addr) (n1 c1 n2 c2 n3 c3 : Nat) (tk tm at_ dn wy : Int) (w : World)
    (b1 : n1 ≤ 9223372036854775807) (b2 : n2 ≤ 9223372036854775807) (b3 : n3 ≤ 9223372036854775807)
    (h : (n1 == 128 && decide (n2 ≤ 200) && decide (n3 ≤ 200)) = false) :
    Calls Try.prog 79 #[sv a1 a2 a3 n1 c1 n2 c2 n3 c3 tk tm at_ dn wy] w fun e w' => e = .returned (v3 (1, 0, 3)) ∧ Ext w w' := by
  by_cases h1 : n1 = 128
  · subst h1
    by_cases h2 : n2 ≤ 200
    · have h3 : ¬ n3 ≤ 200 := by simpa [h2] using h
      clear h
      go_enter Try.func79, Try.ntmps79
      go_wp2
      go_ret3
      exact ⟨rfl, (Ext.refl w).alloc _⟩
    · clear h
      go_enter Try.func79, Try.ntmps79
      go_wp2
      go_ret3
      exact ⟨rfl, (Ext.refl w).alloc _⟩
  · have h1' : ((n1 : Int) != 128) = true := by rw [bne_iff_ne]; omega
    clear h h1
    go_enter Try.func79, Try.ntmps79
    go_wp2
    go_ret3
    exact ⟨rfl, (Ext.refl w).alloc _⟩
set_option maxHeartbeats 2000000 in
set_option maxRecDepth 100000 in
theorem check_rest (a1 a2 a3 : Option Addr) (n2 n3 c1 c2 c3 : Nat) (s : St) (w : World)
    (l1 : s.store.length = 128) (l2 : s.tape.length = n2) (l3 : s.printed.length = n3) (l2' : n2 ≤ 200) (l3' : n3 ≤ 200)
    (i1 : IntsAt w a1 s.store) (i2 : IntsAt w a2 s.tape) (i3 : IntsAt w a3 s.printed) :
    Calls Try.prog 79 #[sv a1 a2 a3 128 c1 n2 c2 n3 c3 s.taken s.time s.at_ s.done s.why] w fun e w' => e = .returned (v3 (checkQ s)) ∧ Ext w w' := by
  obtain ⟨st, tp, tk, pr, tm, at_, dn, wy⟩ := s
  dsimp only at l1 l2 l3 i1 i2 i3 ⊢
  go_enter Try.func79, Try.ntmps79
  go_wp2
  obtain ⟨W0, hW0⟩ : ∃ W0, (w.alloc (.cells #[.slice a1 128 c1, .slice a2 n2 c2, .int .i64 tk, .slice a3 n3 c3, .int .i64 tm, .int .i64 at_, .int .i64 dn, .int .i64 wy] 24)).alloc (.cells #[.slice a1 128 c1, .slice a2 n2 c2, .slice a3 n3 c3] 22) = W0 := ⟨_, rfl⟩
  have E0 : Ext w W0 := by rw [← hW0]; exact ((Ext.refl w).alloc _).alloc _
  have EB : Ext (w.alloc (.cells #[.slice a1 128 c1, .slice a2 n2 c2, .int .i64 tk, .slice a3 n3 c3, .int .i64 tm, .int .i64 at_, .int .i64 dn, .int .i64 wy] 24)) W0 := by rw [← hW0]; exact (Ext.refl _).alloc _
  have r0 : W0.cell? ⟨w.heap.size + 1, 0, none⟩ = some (.slice a1 128 c1) := by rw [← hW0]; simp [go_sem]
  have r1 : W0.cell? ⟨w.heap.size + 1, 1, none⟩ = some (.slice a2 n2 c2) := by rw [← hW0]; simp [go_sem]
  have r2 : W0.cell? ⟨w.heap.size + 1, 2, none⟩ = some (.slice a3 n3 c3) := by rw [← hW0]; simp [go_sem]
  have hs0 : W0.heap.size = w.heap.size + 2 := by rw [← hW0]; simp
  have i1' := i1.ext E0
  have i2' := i2.ext E0
  have i3' := i3.ext E0
  rw [hW0]
  clear hW0 i1 i2 i3
  go_loopg [5, 6, 7, 32] 4 (fun gg _ _ _ s32 wr => ∃ k : Nat, k ≤ 3 ∧ 4 - k ≤ gg ∧ s32 = .int .i64 k ∧ Aside (Ext W0 wr) ∧ Aside ((0 < k → idxQ badW st = -1) ∧ (1 < k → idxQ badW tp = -1) ∧ (2 < k → idxQ badW pr = -1)))
  case atStart => exact ⟨0, by omega, by omega, rfl, Ext.refl W0, ⟨fun h => by omega, fun h => by omega, fun h => by omega⟩⟩
  case round =>
    obtain ⟨k, hk, hg, rfl, BW, A⟩ := hrel
    have hlen : lensB ⟨st, tp, tk, pr, tm, at_, dn, wy⟩ = true := by simp [lensB, l1, l2, l3, l2', l3']
    have Hlen := Lib.hid hlen
    clear hlen
    obtain rfl | rfl | rfl | rfl : k = 0 ∨ k = 1 ∨ k = 2 ∨ k = 3 := by omega
    · have q0 : wr.cell? ⟨w.heap.size + 1, 0, none⟩ = some (.slice a1 128 c1) := (BW.out.cell (p := ⟨w.heap.size + 1, 0, none⟩) (by show w.heap.size + 1 < _; omega)).trans r0
      have hi := index_any 111 #[] badW a1 128 c1 st wr (enters_of Try.func111 (by kernel_rfl) rfl) (pred_check wr) l1 (by omega) (i1'.ext BW.out)
      have bd := idxQ_lt badW st
      rw [l1] at bd
      clear r0 r1 r2 i1' i2' i3'
      generalize hx : idxQ badW st = x at hi bd
      have Hx := Lib.hid hx
      clear hx l1 l2 l3
      by_cases hq : 0 ≤ x
      · go_wp2_with (go_at_call 110; refine hi.mono ?_; rintro e w' ⟨rfl, hb'⟩)
        go_ret3
        refine ⟨?_, (E0.comp BW.out).comp hb'⟩
        have e : checkQ ⟨st, tp, tk, pr, tm, at_, dn, wy⟩ = (2, x, 7) := by simp [checkQ, Hlen.out, Hx.out, hq]
        rw [e]; first | rfl | (simp [v3]; done)
      · go_wp2_with (go_at_call 110; refine hi.mono ?_; rintro e w' ⟨rfl, hb'⟩)
        go_roundg 3
        case measure => omega
        case rel => exact ⟨1, by omega, by omega, by go_num, BW.out.comp hb', ⟨fun _ => by rw [Hx.out]; omega, fun h => by omega, fun h => by omega⟩⟩
    · have q0 : wr.cell? ⟨w.heap.size + 1, 1, none⟩ = some (.slice a2 n2 c2) := (BW.out.cell (p := ⟨w.heap.size + 1, 1, none⟩) (by show w.heap.size + 1 < _; omega)).trans r1
      have hi := index_any 111 #[] badW a2 n2 c2 tp wr (enters_of Try.func111 (by kernel_rfl) rfl) (pred_check wr) l2 (by omega) (i2'.ext BW.out)
      have bd := idxQ_lt badW tp
      rw [l2] at bd
      clear r0 r1 r2 i1' i2' i3'
      generalize hx : idxQ badW tp = x at hi bd
      have Hx := Lib.hid hx
      clear hx l1 l2 l3
      by_cases hq : 0 ≤ x
      · go_wp2_with (go_at_call 110; refine hi.mono ?_; rintro e w' ⟨rfl, hb'⟩)
        go_ret3
        refine ⟨?_, (E0.comp BW.out).comp hb'⟩
        have e : checkQ ⟨st, tp, tk, pr, tm, at_, dn, wy⟩ = (3, x, 7) := by simp [checkQ, Hlen.out, Hx.out, hq, A.out.1 (by omega)]
        rw [e]; first | rfl | (simp [v3]; done)
      · go_wp2_with (go_at_call 110; refine hi.mono ?_; rintro e w' ⟨rfl, hb'⟩)
        go_roundg 2
        case measure => omega
        case rel => exact ⟨2, by omega, by omega, by go_num, BW.out.comp hb', ⟨fun _ => A.out.1 (by omega), fun _ => by rw [Hx.out]; omega, fun h => by omega⟩⟩
    · have q0 : wr.cell? ⟨w.heap.size + 1, 2, none⟩ = some (.slice a3 n3 c3) := (BW.out.cell (p := ⟨w.heap.size + 1, 2, none⟩) (by show w.heap.size + 1 < _; omega)).trans r2
      have hi := index_any 111 #[] badW a3 n3 c3 pr wr (enters_of Try.func111 (by kernel_rfl) rfl) (pred_check wr) l3 (by omega) (i3'.ext BW.out)
      have bd := idxQ_lt badW pr
      rw [l3] at bd
      clear r0 r1 r2 i1' i2' i3'
      generalize hx : idxQ badW pr = x at hi bd
      have Hx := Lib.hid hx
      clear hx l1 l2 l3
      by_cases hq : 0 ≤ x
      · go_wp2_with (go_at_call 110; refine hi.mono ?_; rintro e w' ⟨rfl, hb'⟩)
        go_ret3
        refine ⟨?_, (E0.comp BW.out).comp hb'⟩
        have e : checkQ ⟨st, tp, tk, pr, tm, at_, dn, wy⟩ = (4, x, 7) := by simp [checkQ, Hlen.out, Hx.out, hq, A.out.1 (by omega), A.out.2.1 (by omega)]
        rw [e]; first | rfl | (simp [v3]; done)
      · go_wp2_with (go_at_call 110; refine hi.mono ?_; rintro e w' ⟨rfl, hb'⟩)
        go_roundg 1
        case measure => omega
        case rel => exact ⟨3, by omega, by omega, by go_num, BW.out.comp hb', ⟨fun _ => A.out.1 (by omega), fun _ => A.out.2.1 (by omega), fun _ => by rw [Hx.out]; omega⟩⟩
    · have hi1 := A.out.1 (by omega)
      have hi2 := A.out.2.1 (by omega)
      have hi3 := A.out.2.2 (by omega)
      have H1 := Lib.hid hi1; have H2 := Lib.hid hi2; have H3 := Lib.hid hi3; have HL := Lib.hid l2
      clear hi1 hi2 hi3 r0 r1 r2 i1' i2' i3' A
      have EK := EB.comp BW.out
      have EW := E0.comp BW.out
      clear EB E0 BW l1 l3
      subst l2
      cases t0 : inB tk 0 (tp.length : Int) with
      | false =>
        have e : checkQ ⟨st, tp, tk, pr, tm, at_, dn, wy⟩ = (5, 0, 7) := by simp [checkQ, Hlen.out, H1.out, H2.out, H3.out, fieldsB, addrB, t0]
        have He := Lib.hid e
        clear e
        have p0_1 := box_at (v := .slice a2 tp.length c2) EK 1 rfl
        have p0_2 := box_at (v := .int .i64 tk) EK 2 rfl
        go_wp2_with fail
        refine (out_one _ tk _ _ (by simp) (by simp)).mono ?_
        rintro e w0 ⟨rfl, hb0⟩
        have EK0 := EK.comp hb0.old
        have EW0 := EW.comp hb0.old
        go_wp2
        go_ret3
        exact ⟨by rw [He.out]; rfl, EW0⟩
      | true =>
        cases t1 : inB tm 0 1000000000 with
        | false =>
          have e : checkQ ⟨st, tp, tk, pr, tm, at_, dn, wy⟩ = (5, 0, 7) := by simp [checkQ, Hlen.out, H1.out, H2.out, H3.out, fieldsB, addrB, t0, t1]
          have He := Lib.hid e
          clear e
          have p0_1 := box_at (v := .slice a2 tp.length c2) EK 1 rfl
          have p0_2 := box_at (v := .int .i64 tk) EK 2 rfl
          go_wp2_with fail
          refine (out_one _ tk _ _ (by simp) (by simp)).mono ?_
          rintro e w0 ⟨rfl, hb0⟩
          have EK0 := EK.comp hb0.old
          have EW0 := EW.comp hb0.old
          have p1_4 := box_at (v := .int .i64 tm) EK0 4 rfl
          go_wp2_with fail
          refine (out_one _ tm _ _ (by simp) (by simp)).mono ?_
          rintro e w1 ⟨rfl, hb1⟩
          have EK1 := EK0.comp hb1.old
          have EW1 := EW0.comp hb1.old
          go_wp2
          go_ret3
          exact ⟨by rw [He.out]; rfl, EW1⟩
        | true =>
          cases t2 : inB at_ 0 127 with
          | false =>
            have e : checkQ ⟨st, tp, tk, pr, tm, at_, dn, wy⟩ = (5, 0, 7) := by simp [checkQ, Hlen.out, H1.out, H2.out, H3.out, fieldsB, addrB, t0, t1, t2]
            have He := Lib.hid e
            clear e
            have p0_1 := box_at (v := .slice a2 tp.length c2) EK 1 rfl
            have p0_2 := box_at (v := .int .i64 tk) EK 2 rfl
            go_wp2_with fail
            refine (out_one _ tk _ _ (by simp) (by simp)).mono ?_
            rintro e w0 ⟨rfl, hb0⟩
            have EK0 := EK.comp hb0.old
            have EW0 := EW.comp hb0.old
            have p1_4 := box_at (v := .int .i64 tm) EK0 4 rfl
            go_wp2_with fail
            refine (out_one _ tm _ _ (by simp) (by simp)).mono ?_
            rintro e w1 ⟨rfl, hb1⟩
            have EK1 := EK0.comp hb1.old
            have EW1 := EW0.comp hb1.old
            have p2_5 := box_at (v := .int .i64 at_) EK1 5 rfl
            go_wp2_with fail
            refine (out_one _ at_ _ _ (by simp) (by simp)).mono ?_
            rintro e w2 ⟨rfl, hb2⟩
            have EK2 := EK1.comp hb2.old
            have EW2 := EW1.comp hb2.old
            go_wp2
            go_ret3
            exact ⟨by rw [He.out]; rfl, EW2⟩
          | true =>
            cases t3 : inB dn 0 tm with
            | false =>
              have e : checkQ ⟨st, tp, tk, pr, tm, at_, dn, wy⟩ = (5, 0, 7) := by simp [checkQ, Hlen.out, H1.out, H2.out, H3.out, fieldsB, addrB, t0, t1, t2, t3]
              have He := Lib.hid e
              clear e
              have p0_1 := box_at (v := .slice a2 tp.length c2) EK 1 rfl
              have p0_2 := box_at (v := .int .i64 tk) EK 2 rfl
              go_wp2_with fail
              refine (out_one _ tk _ _ (by simp) (by simp)).mono ?_
              rintro e w0 ⟨rfl, hb0⟩
              have EK0 := EK.comp hb0.old
              have EW0 := EW.comp hb0.old
              have p1_4 := box_at (v := .int .i64 tm) EK0 4 rfl
              go_wp2_with fail
              refine (out_one _ tm _ _ (by simp) (by simp)).mono ?_
              rintro e w1 ⟨rfl, hb1⟩
              have EK1 := EK0.comp hb1.old
              have EW1 := EW0.comp hb1.old
              have p2_5 := box_at (v := .int .i64 at_) EK1 5 rfl
              go_wp2_with fail
              refine (out_one _ at_ _ _ (by simp) (by simp)).mono ?_
              rintro e w2 ⟨rfl, hb2⟩
              have EK2 := EK1.comp hb2.old
              have EW2 := EW1.comp hb2.old
              have p3_4 := box_at (v := .int .i64 tm) EK2 4 rfl
              have p3_6 := box_at (v := .int .i64 dn) EK2 6 rfl
              go_wp2_with fail
              refine (out_one _ dn _ _ (by simp) (by simp)).mono ?_
              rintro e w3 ⟨rfl, hb3⟩
              have EK3 := EK2.comp hb3.old
              have EW3 := EW2.comp hb3.old
              go_wp2
              go_ret3
              exact ⟨by rw [He.out]; rfl, EW3⟩
            | true =>
              cases t4 : inB wy 0 4 with
              | false =>
                have e : checkQ ⟨st, tp, tk, pr, tm, at_, dn, wy⟩ = (5, 0, 7) := by simp [checkQ, Hlen.out, H1.out, H2.out, H3.out, fieldsB, addrB, t0, t1, t2, t3, t4]
                have He := Lib.hid e
                clear e
                have p0_1 := box_at (v := .slice a2 tp.length c2) EK 1 rfl
                have p0_2 := box_at (v := .int .i64 tk) EK 2 rfl
                go_wp2_with fail
                refine (out_one _ tk _ _ (by simp) (by simp)).mono ?_
                rintro e w0 ⟨rfl, hb0⟩
                have EK0 := EK.comp hb0.old
                have EW0 := EW.comp hb0.old
                have p1_4 := box_at (v := .int .i64 tm) EK0 4 rfl
                go_wp2_with fail
                refine (out_one _ tm _ _ (by simp) (by simp)).mono ?_
                rintro e w1 ⟨rfl, hb1⟩
                have EK1 := EK0.comp hb1.old
                have EW1 := EW0.comp hb1.old
                have p2_5 := box_at (v := .int .i64 at_) EK1 5 rfl
                go_wp2_with fail
                refine (out_one _ at_ _ _ (by simp) (by simp)).mono ?_
                rintro e w2 ⟨rfl, hb2⟩
                have EK2 := EK1.comp hb2.old
                have EW2 := EW1.comp hb2.old
                have p3_4 := box_at (v := .int .i64 tm) EK2 4 rfl
                have p3_6 := box_at (v := .int .i64 dn) EK2 6 rfl
                go_wp2_with fail
                refine (out_one _ dn _ _ (by simp) (by simp)).mono ?_
                rintro e w3 ⟨rfl, hb3⟩
                have EK3 := EK2.comp hb3.old
                have EW3 := EW2.comp hb3.old
                have p4_7 := box_at (v := .int .i64 wy) EK3 7 rfl
                go_wp2_with fail
                refine (out_one _ wy _ _ (by simp) (by simp)).mono ?_
                rintro e w4 ⟨rfl, hb4⟩
                have EK4 := EK3.comp hb4.old
                have EW4 := EW3.comp hb4.old
                go_wp2
                go_ret3
                exact ⟨by rw [He.out]; rfl, EW4⟩
              | true =>
                have ff : fieldsB ⟨st, tp, tk, pr, tm, at_, dn, wy⟩ = true := by simp [fieldsB, addrB, t0, t1, t2, t3, t4]
                have tb0 := inB_bd t1; have tb1 := inB_bd t2
                by_cases hm : tm % 16 = at_ % 16
                · have e : checkQ ⟨st, tp, tk, pr, tm, at_, dn, wy⟩ = (0, 0, 0) := by simp [checkQ, Hlen.out, H1.out, H2.out, H3.out, ff, hm]
                  have He := Lib.hid e
                  have hm' : ((tm - at_).tmod 16 != 0) = false := tmod16_yes hm
                  clear e hm ff
                  have p0_1 := box_at (v := .slice a2 tp.length c2) EK 1 rfl
                  have p0_2 := box_at (v := .int .i64 tk) EK 2 rfl
                  go_wp2_with fail
                  refine (out_one _ tk _ _ (by simp) (by simp)).mono ?_
                  rintro e w0 ⟨rfl, hb0⟩
                  have EK0 := EK.comp hb0.old
                  have EW0 := EW.comp hb0.old
                  have p1_4 := box_at (v := .int .i64 tm) EK0 4 rfl
                  go_wp2_with fail
                  refine (out_one _ tm _ _ (by simp) (by simp)).mono ?_
                  rintro e w1 ⟨rfl, hb1⟩
                  have EK1 := EK0.comp hb1.old
                  have EW1 := EW0.comp hb1.old
                  have p2_5 := box_at (v := .int .i64 at_) EK1 5 rfl
                  go_wp2_with fail
                  refine (out_one _ at_ _ _ (by simp) (by simp)).mono ?_
                  rintro e w2 ⟨rfl, hb2⟩
                  have EK2 := EK1.comp hb2.old
                  have EW2 := EW1.comp hb2.old
                  have p3_4 := box_at (v := .int .i64 tm) EK2 4 rfl
                  have p3_6 := box_at (v := .int .i64 dn) EK2 6 rfl
                  go_wp2_with fail
                  refine (out_one _ dn _ _ (by simp) (by simp)).mono ?_
                  rintro e w3 ⟨rfl, hb3⟩
                  have EK3 := EK2.comp hb3.old
                  have EW3 := EW2.comp hb3.old
                  have p4_7 := box_at (v := .int .i64 wy) EK3 7 rfl
                  go_wp2_with fail
                  refine (out_one _ wy _ _ (by simp) (by simp)).mono ?_
                  rintro e w4 ⟨rfl, hb4⟩
                  have EK4 := EK3.comp hb4.old
                  have EW4 := EW3.comp hb4.old
                  have p5_4 := box_at (v := .int .i64 tm) EK4 4 rfl
                  have p5_5 := box_at (v := .int .i64 at_) EK4 5 rfl
                  go_wp2
                  go_ret3
                  exact ⟨by rw [He.out]; rfl, EW4⟩
                · have e : checkQ ⟨st, tp, tk, pr, tm, at_, dn, wy⟩ = (6, 0, 2) := by simp [checkQ, Hlen.out, H1.out, H2.out, H3.out, ff, hm]
                  have He := Lib.hid e
                  have hm' : ((tm - at_).tmod 16 != 0) = true := tmod16_no hm
                  clear e hm ff
                  have p0_1 := box_at (v := .slice a2 tp.length c2) EK 1 rfl
                  have p0_2 := box_at (v := .int .i64 tk) EK 2 rfl
                  go_wp2_with fail
                  refine (out_one _ tk _ _ (by simp) (by simp)).mono ?_
                  rintro e w0 ⟨rfl, hb0⟩
                  have EK0 := EK.comp hb0.old
                  have EW0 := EW.comp hb0.old
                  have p1_4 := box_at (v := .int .i64 tm) EK0 4 rfl
                  go_wp2_with fail
                  refine (out_one _ tm _ _ (by simp) (by simp)).mono ?_
                  rintro e w1 ⟨rfl, hb1⟩
                  have EK1 := EK0.comp hb1.old
                  have EW1 := EW0.comp hb1.old
                  have p2_5 := box_at (v := .int .i64 at_) EK1 5 rfl
                  go_wp2_with fail
                  refine (out_one _ at_ _ _ (by simp) (by simp)).mono ?_
                  rintro e w2 ⟨rfl, hb2⟩
                  have EK2 := EK1.comp hb2.old
                  have EW2 := EW1.comp hb2.old
                  have p3_4 := box_at (v := .int .i64 tm) EK2 4 rfl
                  have p3_6 := box_at (v := .int .i64 dn) EK2 6 rfl
                  go_wp2_with fail
                  refine (out_one _ dn _ _ (by simp) (by simp)).mono ?_
                  rintro e w3 ⟨rfl, hb3⟩
                  have EK3 := EK2.comp hb3.old
                  have EW3 := EW2.comp hb3.old
                  have p4_7 := box_at (v := .int .i64 wy) EK3 7 rfl
                  go_wp2_with fail
                  refine (out_one _ wy _ _ (by simp) (by simp)).mono ?_
                  rintro e w4 ⟨rfl, hb4⟩
                  have EK4 := EK3.comp hb4.old
                  have EW4 := EW3.comp hb4.old
                  have p5_4 := box_at (v := .int .i64 tm) EK4 4 rfl
                  have p5_5 := box_at (v := .int .i64 at_) EK4 5 rfl
                  go_wp2
                  go_ret3
                  exact ⟨by rw [He.out]; rfl, EW4⟩
end Go.Proofs.Ytjfggepgjpdebaa
/- Contracts: the reference's odd and Check; both Checks at whatever state. -/
namespace Go.Proofs.Ytjfggepgjpdebaa
open Go.RowKit Go.Q
set_option maxHeartbeats 1000000 in
theorem odd_any (a : Option Addr) (n cap : Nat) (xs : List Int) (w : World) (hn : xs.length = n) (hbig : n ≤ 9223372036854775807) (hI : IntsAt w a xs) :
    Calls Try.prog 53 #[.slice a n cap] w fun e w' => e = .returned (.int .i64 (idxQ badW xs)) ∧ w = w' := by
  rcases hI with rfl | ⟨b, off, rfl, hb, hc⟩
  · obtain rfl : n = 0 := hn.symm
    go_enter Try.func53, Try.ntmps53
    go_wp2
    go_loop [3] (fun s => s = .int .i64 0) (fun _ => 0)
    case atStart => exact rfl
    case round =>
      obtain rfl := hrel
      go_wp2
      go_ret
      exact ⟨rfl, rfl⟩
  · subst hn
    go_enter Try.func53, Try.ntmps53
    go_wp2
    go_loop [3] (fun s => ∃ k : Nat, k ≤ xs.length ∧ s = .int .i64 k ∧ Aside (∀ j, j < k → badW (xs[j]?.getD 0) = false)) (fun s => xs.length - (intOf s).toNat)
    case atStart => exact ⟨0, Nat.zero_le _, rfl, fun j hj => absurd hj (Nat.not_lt_zero _)⟩
    case round =>
      obtain ⟨kk, hkk, rfl, A⟩ := hrel
      by_cases hlt : kk < xs.length
      · have hltz : (kk : Int) < (xs.length : Int) := by omega
        have l2 : w.cell? ⟨b, off + kk, none⟩ = some (.int .i64 (xs[kk]?.getD 0)) := hc kk hlt
        clear hc
        generalize hy : xs[kk]?.getD 0 = y at l2
        have B : Aside (xs[kk]?.getD 0 = y) := hy
        clear hy
        cases hq : wordB y with
        | true =>
          go_wp2_with (go_at_call 41; refine (word_any y _).mono ?_; rintro e w' ⟨rfl, rfl⟩)
          go_round
          case rel =>
            refine ⟨kk + 1, by omega, by go_num, (show Aside _ from fun j hj => ?_)⟩
            by_cases e : j = kk
            · subst e
              rw [B.out]; simp [badW, hq]
            · exact A.out j (by omega)
          case measure => simp [intOf]; omega
        | false =>
          go_wp2_with (go_at_call 41; refine (word_any y _).mono ?_; rintro e w' ⟨rfl, rfl⟩)
          go_ret
          refine ⟨?_, rfl⟩
          rw [idxQ_hit badW xs kk hlt (by rw [B.out]; simp [badW, hq]) A.out]
          rfl
      · have hltz : ¬ (kk : Int) < (xs.length : Int) := by omega
        go_wp2
        go_ret
        refine ⟨?_, rfl⟩
        rw [idxQ_miss badW xs (fun j hj => A.out j (by omega))]
        rfl
set_option maxHeartbeats 1000000 in
theorem rcheck_len (a1 a2 a3 : Option Addr) (n1 c1 n2 c2 n3 c3 : Nat) (tk tm at_ dn wy : Int) (w : World)
    (b1 : n1 ≤ 9223372036854775807) (b2 : n2 ≤ 9223372036854775807) (b3 : n3 ≤ 9223372036854775807)
    (h : (n1 == 128 && decide (n2 ≤ 200) && decide (n3 ≤ 200)) = false) :
    Calls Try.prog 81 #[sv a1 a2 a3 n1 c1 n2 c2 n3 c3 tk tm at_ dn wy] w fun e w' => e = .returned (v3 (1, 0, 3)) ∧ Ext w w' := by
  by_cases h1 : n1 = 128
  · subst h1
    by_cases h2 : n2 ≤ 200
    · have h3 : ¬ n3 ≤ 200 := by simpa [h2] using h
      clear h
      go_enter Try.func81, Try.ntmps81
      go_wp2
      go_ret3
      exact ⟨rfl, (Ext.refl w).alloc _⟩
    · clear h
      go_enter Try.func81, Try.ntmps81
      go_wp2
      go_ret3
      exact ⟨rfl, (Ext.refl w).alloc _⟩
  · have h1' : ((n1 : Int) != 128) = true := by rw [bne_iff_ne]; omega
    clear h h1
    go_enter Try.func81, Try.ntmps81
    go_wp2
    go_ret3
    exact ⟨rfl, (Ext.refl w).alloc _⟩
set_option maxHeartbeats 2000000 in
set_option maxRecDepth 100000 in
theorem rcheck_rest (a1 a2 a3 : Option Addr) (n2 n3 c1 c2 c3 : Nat) (s : St) (w : World)
    (l1 : s.store.length = 128) (l2 : s.tape.length = n2) (l3 : s.printed.length = n3) (l2' : n2 ≤ 200) (l3' : n3 ≤ 200)
    (i1 : IntsAt w a1 s.store) (i2 : IntsAt w a2 s.tape) (i3 : IntsAt w a3 s.printed) :
    Calls Try.prog 81 #[sv a1 a2 a3 128 c1 n2 c2 n3 c3 s.taken s.time s.at_ s.done s.why] w fun e w' => e = .returned (v3 (checkQ s)) ∧ Ext w w' := by
  obtain ⟨st, tp, tk, pr, tm, at_, dn, wy⟩ := s
  dsimp only at l1 l2 l3 i1 i2 i3 ⊢
  go_enter Try.func81, Try.ntmps81
  go_wp2
  obtain ⟨W0, hW0⟩ : ∃ W0, (w.alloc (.cells #[.slice a1 128 c1, .slice a2 n2 c2, .int .i64 tk, .slice a3 n3 c3, .int .i64 tm, .int .i64 at_, .int .i64 dn, .int .i64 wy] 24)).alloc (.cells #[.slice a1 128 c1, .slice a2 n2 c2, .slice a3 n3 c3] 22) = W0 := ⟨_, rfl⟩
  have E0 : Ext w W0 := by rw [← hW0]; exact ((Ext.refl w).alloc _).alloc _
  have EB : Ext (w.alloc (.cells #[.slice a1 128 c1, .slice a2 n2 c2, .int .i64 tk, .slice a3 n3 c3, .int .i64 tm, .int .i64 at_, .int .i64 dn, .int .i64 wy] 24)) W0 := by rw [← hW0]; exact (Ext.refl _).alloc _
  have r0 : W0.cell? ⟨w.heap.size + 1, 0, none⟩ = some (.slice a1 128 c1) := by rw [← hW0]; simp [go_sem]
  have r1 : W0.cell? ⟨w.heap.size + 1, 1, none⟩ = some (.slice a2 n2 c2) := by rw [← hW0]; simp [go_sem]
  have r2 : W0.cell? ⟨w.heap.size + 1, 2, none⟩ = some (.slice a3 n3 c3) := by rw [← hW0]; simp [go_sem]
  have i1' := i1.ext E0
  have i2' := i2.ext E0
  have i3' := i3.ext E0
  rw [hW0]
  clear hW0 i1 i2 i3
  go_loop [6, 7] (fun s _ => ∃ k : Nat, k ≤ 3 ∧ s = .int .i64 k ∧ Aside ((0 < k → idxQ badW st = -1) ∧ (1 < k → idxQ badW tp = -1) ∧ (2 < k → idxQ badW pr = -1))) (fun s _ => 3 - (intOf s).toNat)
  case atStart => exact ⟨0, by omega, rfl, ⟨fun h => by omega, fun h => by omega, fun h => by omega⟩⟩
  case round =>
    obtain ⟨k, hk, rfl, A⟩ := hrel
    have hlen : lensB ⟨st, tp, tk, pr, tm, at_, dn, wy⟩ = true := by simp [lensB, l1, l2, l3, l2', l3']
    have Hlen := Lib.hid hlen
    clear hlen
    obtain rfl | rfl | rfl | rfl : k = 0 ∨ k = 1 ∨ k = 2 ∨ k = 3 := by omega
    · have hi := odd_any a1 128 c1 st W0 l1 (by omega) i1'
      have bd := idxQ_lt badW st
      rw [l1] at bd
      clear i1' i2' i3'
      generalize hx : idxQ badW st = x at hi bd
      have Hx := Lib.hid hx
      clear hx l1 l2 l3
      by_cases hq : 0 ≤ x
      · go_wp2_with (go_at_call 53; refine hi.mono ?_; rintro e w' ⟨rfl, rfl⟩)
        go_ret3
        refine ⟨?_, E0⟩
        have e : checkQ ⟨st, tp, tk, pr, tm, at_, dn, wy⟩ = (2, x, 7) := by simp [checkQ, Hlen.out, Hx.out, hq]
        rw [e]; first | rfl | (simp [v3]; done)
      · go_wp2_with (go_at_call 53; refine hi.mono ?_; rintro e w' ⟨rfl, rfl⟩)
        go_round
        case rel => exact ⟨1, by omega, by go_num, ⟨fun _ => by first | omega | (rw [Hx.out]; omega), fun h => by omega, fun h => by omega⟩⟩
        case measure => simp [intOf]
    · have hi := odd_any a2 n2 c2 tp W0 l2 (by omega) i2'
      have bd := idxQ_lt badW tp
      rw [l2] at bd
      clear i1' i2' i3'
      generalize hx : idxQ badW tp = x at hi bd
      have Hx := Lib.hid hx
      clear hx l1 l2 l3
      by_cases hq : 0 ≤ x
      · go_wp2_with (go_at_call 53; refine hi.mono ?_; rintro e w' ⟨rfl, rfl⟩)
        go_ret3
        refine ⟨?_, E0⟩
        have e : checkQ ⟨st, tp, tk, pr, tm, at_, dn, wy⟩ = (3, x, 7) := by simp [checkQ, Hlen.out, Hx.out, hq, A.out.1 (by omega)]
        rw [e]; first | rfl | (simp [v3]; done)
      · go_wp2_with (go_at_call 53; refine hi.mono ?_; rintro e w' ⟨rfl, rfl⟩)
        go_round
        case rel => exact ⟨2, by omega, by go_num, ⟨fun _ => A.out.1 (by omega), fun _ => by first | omega | (rw [Hx.out]; omega), fun h => by omega⟩⟩
        case measure => simp [intOf]
    · have hi := odd_any a3 n3 c3 pr W0 l3 (by omega) i3'
      have bd := idxQ_lt badW pr
      rw [l3] at bd
      clear i1' i2' i3'
      generalize hx : idxQ badW pr = x at hi bd
      have Hx := Lib.hid hx
      clear hx l1 l2 l3
      by_cases hq : 0 ≤ x
      · go_wp2_with (go_at_call 53; refine hi.mono ?_; rintro e w' ⟨rfl, rfl⟩)
        go_ret3
        refine ⟨?_, E0⟩
        have e : checkQ ⟨st, tp, tk, pr, tm, at_, dn, wy⟩ = (4, x, 7) := by simp [checkQ, Hlen.out, Hx.out, hq, A.out.1 (by omega), A.out.2.1 (by omega)]
        rw [e]; first | rfl | (simp [v3]; done)
      · go_wp2_with (go_at_call 53; refine hi.mono ?_; rintro e w' ⟨rfl, rfl⟩)
        go_round
        case rel => exact ⟨3, by omega, by go_num, ⟨fun _ => A.out.1 (by omega), fun _ => A.out.2.1 (by omega), fun _ => by first | omega | (rw [Hx.out]; omega)⟩⟩
        case measure => simp [intOf]
    · have hi1 := A.out.1 (by omega)
      have hi2 := A.out.2.1 (by omega)
      have hi3 := A.out.2.2 (by omega)
      have H1 := Lib.hid hi1; have H2 := Lib.hid hi2; have H3 := Lib.hid hi3
      clear hi1 hi2 hi3 r0 r1 r2 i1' i2' i3' A l1 l3
      subst l2
      have p1 := box_at (v := .slice a2 tp.length c2) EB 1 rfl
      have p2 := box_at (v := .int .i64 tk) EB 2 rfl
      have p4 := box_at (v := .int .i64 tm) EB 4 rfl
      have p5 := box_at (v := .int .i64 at_) EB 5 rfl
      have p6 := box_at (v := .int .i64 dn) EB 6 rfl
      have p7 := box_at (v := .int .i64 wy) EB 7 rfl
      cases t0 : inB tk 0 (tp.length : Int) with
      | false =>
        have e : checkQ ⟨st, tp, tk, pr, tm, at_, dn, wy⟩ = (5, 0, 7) := by simp [checkQ, Hlen.out, H1.out, H2.out, H3.out, fieldsB, t0]
        have He := Lib.hid e
        clear e
        go_wp2_with (first | (go_at_call 77; refine (in_any _ _ _ _).mono ?_; rintro e w' ⟨rfl, rfl⟩) | (go_at_call 54; refine (address_any _ _).mono ?_; rintro e w' ⟨rfl, rfl⟩))
        go_ret3
        exact ⟨by rw [He.out]; rfl, E0⟩
      | true =>
        cases t1 : inB tm 0 1000000000 with
        | false =>
          have e : checkQ ⟨st, tp, tk, pr, tm, at_, dn, wy⟩ = (5, 0, 7) := by simp [checkQ, Hlen.out, H1.out, H2.out, H3.out, fieldsB, t0, t1]
          have He := Lib.hid e
          clear e
          go_wp2_with (first | (go_at_call 77; refine (in_any _ _ _ _).mono ?_; rintro e w' ⟨rfl, rfl⟩) | (go_at_call 54; refine (address_any _ _).mono ?_; rintro e w' ⟨rfl, rfl⟩))
          go_ret3
          exact ⟨by rw [He.out]; rfl, E0⟩
        | true =>
          cases t2 : addrB at_ with
          | false =>
            have e : checkQ ⟨st, tp, tk, pr, tm, at_, dn, wy⟩ = (5, 0, 7) := by simp [checkQ, Hlen.out, H1.out, H2.out, H3.out, fieldsB, t0, t1, t2]
            have He := Lib.hid e
            clear e
            go_wp2_with (first | (go_at_call 77; refine (in_any _ _ _ _).mono ?_; rintro e w' ⟨rfl, rfl⟩) | (go_at_call 54; refine (address_any _ _).mono ?_; rintro e w' ⟨rfl, rfl⟩))
            go_ret3
            exact ⟨by rw [He.out]; rfl, E0⟩
          | true =>
            cases t3 : inB dn 0 tm with
            | false =>
              have e : checkQ ⟨st, tp, tk, pr, tm, at_, dn, wy⟩ = (5, 0, 7) := by simp [checkQ, Hlen.out, H1.out, H2.out, H3.out, fieldsB, t0, t1, t2, t3]
              have He := Lib.hid e
              clear e
              go_wp2_with (first | (go_at_call 77; refine (in_any _ _ _ _).mono ?_; rintro e w' ⟨rfl, rfl⟩) | (go_at_call 54; refine (address_any _ _).mono ?_; rintro e w' ⟨rfl, rfl⟩))
              go_ret3
              exact ⟨by rw [He.out]; rfl, E0⟩
            | true =>
              cases t4 : inB wy 0 4 with
              | false =>
                have e : checkQ ⟨st, tp, tk, pr, tm, at_, dn, wy⟩ = (5, 0, 7) := by simp [checkQ, Hlen.out, H1.out, H2.out, H3.out, fieldsB, t0, t1, t2, t3, t4]
                have He := Lib.hid e
                clear e
                go_wp2_with (first | (go_at_call 77; refine (in_any _ _ _ _).mono ?_; rintro e w' ⟨rfl, rfl⟩) | (go_at_call 54; refine (address_any _ _).mono ?_; rintro e w' ⟨rfl, rfl⟩))
                go_ret3
                exact ⟨by rw [He.out]; rfl, E0⟩
              | true =>
                have ff : fieldsB ⟨st, tp, tk, pr, tm, at_, dn, wy⟩ = true := by simp [fieldsB, t0, t1, t2, t3, t4]
                have tb0 := inB_bd t1; have tb1 := inB_bd (show inB at_ 0 127 = true from t2)
                by_cases hm : tm % 16 = at_ % 16
                · have e : checkQ ⟨st, tp, tk, pr, tm, at_, dn, wy⟩ = (0, 0, 0) := by simp [checkQ, Hlen.out, H1.out, H2.out, H3.out, ff, hm]
                  have He := Lib.hid e
                  have hm' : (tm % 16 != at_ % 16) = false := by simpa using hm
                  clear e hm ff
                  go_wp2_with (first | (go_at_call 77; refine (in_any _ _ _ _).mono ?_; rintro e w' ⟨rfl, rfl⟩) | (go_at_call 54; refine (address_any _ _).mono ?_; rintro e w' ⟨rfl, rfl⟩))
                  go_ret3
                  exact ⟨by rw [He.out]; rfl, E0⟩
                · have e : checkQ ⟨st, tp, tk, pr, tm, at_, dn, wy⟩ = (6, 0, 2) := by simp [checkQ, Hlen.out, H1.out, H2.out, H3.out, ff, hm]
                  have He := Lib.hid e
                  have hm' : (tm % 16 != at_ % 16) = true := by simpa using hm
                  clear e hm ff
                  go_wp2_with (first | (go_at_call 77; refine (in_any _ _ _ _).mono ?_; rintro e w' ⟨rfl, rfl⟩) | (go_at_call 54; refine (address_any _ _).mono ?_; rintro e w' ⟨rfl, rfl⟩))
                  go_ret3
                  exact ⟨by rw [He.out]; rfl, E0⟩
/-- v reads in w as the state s -/
def StAt (w : World) (v : Value) (s : St) : Prop := ∃ a1 a2 a3 c1 c2 c3, v = sv a1 a2 a3 s.store.length c1 s.tape.length c2 s.printed.length c3 s.taken s.time s.at_ s.done s.why ∧
  IntsAt w a1 s.store ∧ IntsAt w a2 s.tape ∧ IntsAt w a3 s.printed
/-- the lists of a state are no longer than the model's bound -/
def StBd (s : St) : Prop := s.store.length ≤ 9223372036854775807 ∧ s.tape.length ≤ 9223372036854775807 ∧ s.printed.length ≤ 9223372036854775807
theorem StAt.ext {w w' : World} {v : Value} {s : St} (h : StAt w v s) (e : Ext w w') : StAt w' v s := by
  obtain ⟨a1, a2, a3, c1, c2, c3, rfl, h1, h2, h3⟩ := h
  exact ⟨a1, a2, a3, c1, c2, c3, rfl, h1.ext e, h2.ext e, h3.ext e⟩
theorem check_any (v : Value) (s : St) (w : World) (h : StAt w v s) (hb : StBd s) :
    Calls Try.prog 79 #[v] w fun e w' => e = .returned (v3 (checkQ s)) ∧ Ext w w' := by
  obtain ⟨a1, a2, a3, c1, c2, c3, rfl, h1, h2, h3⟩ := h
  obtain ⟨b1, b2, b3⟩ := hb
  cases hl : lensB s with
  | false =>
    have e : checkQ s = (1, 0, 3) := by simp [checkQ, hl]
    rw [e]
    exact check_len _ _ _ _ _ _ _ _ _ _ _ _ _ _ w b1 b2 b3 hl
  | true =>
    have hl' := hl
    simp [lensB] at hl
    obtain ⟨⟨l1, l2⟩, l3⟩ := hl
    have := check_rest a1 a2 a3 _ _ c1 c2 c3 s w l1 rfl rfl l2 l3 h1 h2 h3
    rw [← l1] at this
    exact this
theorem rcheck_any (v : Value) (s : St) (w : World) (h : StAt w v s) (hb : StBd s) :
    Calls Try.prog 81 #[v] w fun e w' => e = .returned (v3 (checkQ s)) ∧ Ext w w' := by
  obtain ⟨a1, a2, a3, c1, c2, c3, rfl, h1, h2, h3⟩ := h
  obtain ⟨b1, b2, b3⟩ := hb
  cases hl : lensB s with
  | false =>
    have e : checkQ s = (1, 0, 3) := by simp [checkQ, hl]
    rw [e]
    exact rcheck_len _ _ _ _ _ _ _ _ _ _ _ _ _ _ w b1 b2 b3 hl
  | true =>
    have hl' := hl
    simp [lensB] at hl
    obtain ⟨⟨l1, l2⟩, l3⟩ := hl
    have := rcheck_rest a1 a2 a3 _ _ c1 c2 c3 s w l1 rfl rfl l2 l3 h1 h2 h3
    rw [← l1] at this
    exact this
end Go.Proofs.Ytjfggepgjpdebaa
/- Contracts: slices.Clone, machine.from, machine.to. -/
namespace Go.Proofs.Ytjfggepgjpdebaa
open Go.RowKit Go.Q
theorem Try.infoE : (Try.prog.info? 3).map (fun i => (i.zero, i.size, i.bytes)) = some (some (.int .i64 0), 1, 8) := by kernel_rfl
/-- numbers as values -/
def iv (xs : List Int) : List Value := xs.map (Value.int .i64)
theorem iv_length (xs : List Int) : (iv xs).length = xs.length := by simp [iv]
theorem iv_get (xs : List Int) (i : Nat) (h : i < xs.length) : (iv xs)[i]? = some (.int .i64 (xs[i]?.getD 0)) := by simp [iv, h]
theorem iv_one (xs : List Int) : ∀ u ∈ iv xs, u.oneCell' = true := by
  intro u hu; simp [iv] at hu; obtain ⟨x, _, rfl⟩ := hu; rfl
/-- the result is a slice of the call's own that holds xs -/
def OwnRes (n : Nat) (xs : List Int) (w : World) (e : Ending) (w' : World) : Prop :=
  ∃ a c, e = .returned (.slice a n c) ∧ w'.ownsRow w.heap.size 3 1 (.slice a n c) n (iv xs) ∧ Ext w w'
theorem own_form {w : World} {nb t n : Nat} {v : Value} {xs : List Value} (h : w.ownsRow nb t 1 v n xs) : ∃ a c, v = .slice a n c := by
  rcases h.2 with ⟨h1, h2⟩ | ⟨g, cap, cur, h1, _⟩
  · exact ⟨none, 0, by rw [h2]; exact h1⟩
  · exact ⟨_, _, h1⟩
end Go.Proofs.Ytjfggepgjpdebaa
/- The machine in memory: what its blocks hold, and what stays of that behind each kind of write. -/
namespace Go.Proofs.Ytjfggepgjpdebaa
open Go.RowKit Go.Q
theorem cells_set {w : World} {m : Nat} {cs : Array Value} {t : TypeId} (h : w.heap[m]? = some (.cells cs t (0, 0))) (i : Nat) (v : Value) :
    (w.setCell ⟨m, i, none⟩ v).heap[m]? = some (.cells (cs.setIfInBounds i v) t (0, 0)) := by
  have hlt := lt_of_block h
  have h' : w.heap[m] = .cells cs t (0, 0) := by simpa [Array.getElem?_eq_getElem hlt] using h
  show (w.heap.modify m _)[m]? = _
  rw [Array.getElem?_eq_getElem (by simpa using hlt), Array.getElem_modify_self, h']
  rfl
theorem cell_of_cells {w : World} {m : Nat} {cs : Array Value} {t : TypeId} (h : w.heap[m]? = some (.cells cs t (0, 0))) (i : Nat) {v : Value} (hv : cs[i]? = some v) : w.cell? ⟨m, i, none⟩ = some v := by
  simp [World.cell?, h, hv]
theorem free_of_cells {w : World} {m : Nat} {cs : Array Value} {t : TypeId} (h : w.heap[m]? = some (.cells cs t (0, 0))) (i : Nat) : w.frozen? ⟨m, i, none⟩ = false := by
  simp [World.frozen?, h]
variable {w : World} {nb m g1 c1 : Nat} {tv pv : Value} {s : St} {o : Ord}
theorem own_lt {w : World} {nb t n : Nat} {pv : Value} {xs : List Value} (h : w.ownsRow nb t 1 pv n xs) {b : Nat} (hb : pv.ownBlock = some b) : b < w.heap.size := by
  rcases h.2 with ⟨rfl, _⟩ | ⟨g, cap, cur, rfl, _, hg, _⟩
  · cases hb
  · obtain rfl : g = b := by simpa [Value.ownBlock] using hb
    exact lt_of_block hg
theorem own_later {w w' : World} {nb t n : Nat} {pv : Value} {xs : List Value} (h : w.ownsRow nb t 1 pv n xs) (hb : ∀ b, pv.ownBlock = some b → w'.heap[b]? = w.heap[b]?) : w'.ownsRow nb t 1 pv n xs := by
  refine ⟨h.1, ?_⟩
  rcases h.2 with h2 | ⟨g, cap, cur, rfl, hbg, hg, r⟩
  · exact .inl h2
  · exact .inr ⟨g, cap, cur, rfl, hbg, (hb g rfl).trans hg, r⟩
end Go.Proofs.Ytjfggepgjpdebaa
/- Contracts: machine.from, to, and what an order does: move, add, sub, mul, read, print. -/
namespace Go.Proofs.Ytjfggepgjpdebaa
open Go.RowKit Go.Q
variable {nb m g1 c1 : Nat} {tv pv : Value} {s : St} {o : Ord}
/-- the blocks that an order may write -/
def Own3 (m g1 : Nat) (pv : Value) (k : Nat) : Prop := k = m ∨ k = g1 ∨ pv.ownBlock = some k
theorem own_alloc {w W : World} {nb t n : Nat} {pv : Value} {xs : List Value} (h : w.ownsRow nb t 1 pv n xs) (o : Obj) (e : W.heap = (w.alloc o).heap) : W.ownsRow nb t 1 pv n xs :=
  own_later h (fun b hb => by rw [e]; exact Below.heap_alloc w o b (own_lt h hb))
theorem grown_old {w W w1 : World} {ob : Obj} {row : Option Nat} (eW : W.heap = (w.alloc ob).heap) (hg : W.grownBy w1 row) (k : Nat) (hk : k < w.heap.size) (hr : row ≠ some k) : w1.heap[k]? = w.heap[k]? :=
  (hg.block k (by rw [eW]; show k < (w.alloc ob).heap.size; simp; omega) (fun e => hr e.symm)).trans (by rw [eW]; exact Below.heap_alloc w ob k hk)
end Go.Proofs.Ytjfggepgjpdebaa
/- Contract: machine.step. -/
namespace Go.Proofs.Ytjfggepgjpdebaa
open Go.RowKit Go.Q
variable {nb m g1 c1 : Nat} {tv pv : Value} {s : St} {o o' : Ord}
end Go.Proofs.Ytjfggepgjpdebaa
/- Layer 4 in plain Lean, on: what a checked state is; a run. -/
namespace Go.Q
theorem idxQ_all {p : Int → Bool} {xs : List Int} (h : ¬ 0 ≤ idxQ p xs) : ∀ x ∈ xs, p x = false := by
  have e := idxQ_nonneg p xs
  rw [decide_eq_false h] at e
  intro x hx
  have := List.any_eq_false.1 e.symm x hx
  simpa using this
theorem badW_no {n : Int} (h : badW n = false) : 0 ≤ n ∧ n ≤ 16777215 := wordB_bd (by simpa [badW] using h)
theorem valid_of_check {s : St} (h : (checkQ s).2.2 = 0) : Valid s := by
  unfold checkQ at h
  split at h
  · simp at h
  split at h
  · simp at h
  split at h
  · simp at h
  split at h
  · simp at h
  split at h
  · simp at h
  split at h
  · simp at h
  rename_i h1 h2 h3 h4 h5 h6
  have h1' : lensB s = true := by simpa using h1
  have h5' : fieldsB s = true := by simpa using h5
  simp only [lensB, Bool.and_eq_true, beq_iff_eq, decide_eq_true_eq] at h1'
  simp only [fieldsB, Bool.and_eq_true, addrB] at h5'
  obtain ⟨⟨⟨⟨a1, a2⟩, a3⟩, a4⟩, a5⟩ := h5'
  exact ⟨h1'.1.1, h1'.1.2, h1'.2, fun x hx => badW_no (idxQ_all h2 x hx), fun x hx => badW_no (idxQ_all h3 x hx), fun x hx => badW_no (idxQ_all h4 x hx),
    inB_bd a1, inB_bd a2, inB_bd a3, inB_bd a4, inB_bd a5, by simpa using h6⟩
end Go.Q

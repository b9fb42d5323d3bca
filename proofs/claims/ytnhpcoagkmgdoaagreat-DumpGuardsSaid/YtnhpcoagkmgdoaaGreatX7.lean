import Derived.Maps.AppendAt
import Derived.Deep.RegionLaw
import Derived.RangeFuncNested
import Derived.RangeFuncBound
import Derived.RangeFuncCalls
import Derived.RangeFuncLeaves
import Derived.Shelf.Abstract
import Derived.Shelf.RegionOpen
import Derived.OwnWalkIn
import Derived.TacticsInMore
import Derived.LoopNIn
import Derived.LoopIn
import Derived.Laws.CopyOwn
import Derived.Outline
import Derived.Deep.QuietTactic
import Derived.BigQuiet
import Derived.BigFrameIn
import Derived.Test.YtnhpcoagkmgdoaaGreatX6
import Derived.Test.YtnhpcoagkmgdoaaGreatX5
set_option linter.unusedVariables false
set_option linter.unusedSimpArgs false
/- Layer 10 in plain Lean: what Read's loops hold. -/
namespace Go.Q
/-- the rows, of which the first i blocks are mended -/
def rk (rs : List Nat) (i : Nat) : List Nat := rightN rs i ++ rs.drop (65 * i)
theorem range_flat {α : Type} (g : Nat → List α) (i : Nat) : (List.range (i + 1)).flatMap g = (List.range i).flatMap g ++ g i := by
 rw [List.range_succ, List.flatMap_append, List.flatMap_cons, List.flatMap_nil, List.append_nil]
theorem right_succ (rs : List Nat) (i : Nat) : rightN rs (i + 1) = rightN rs i ++ (mendB (blk rs i)).2.2 := range_flat _ i
theorem mended_succ (rs : List Nat) (i : Nat) : mendedN rs (i + 1) = mendedN rs i ++ (if 0 ≤ (mendB (blk rs i)).1 then [((65 * i : Nat) : Int) + (mendB (blk rs i)).1] else []) := range_flat _ i
theorem words_succ (rs : List Nat) (i : Nat) : wordsN10 rs (i + 1) = wordsN10 rs i ++ wordsB (mendB (blk rs i)).2.2 := range_flat _ i
theorem mendB_len (b : List Nat) : (mendB b).2.2.length = b.length := by
 unfold mendB
 split
 ·rfl
 ·split
  ·rfl
  ·exact List.length_set ..
 ·rfl
theorem blkLen {rs : List Nat} {m i : Nat} (h : rs.length = 65 * m) (hi : i < m) : (blk rs i).length = 65 := by
 unfold blk
 rw [List.length_take, List.length_drop]
 omega
theorem rightN_len {rs : List Nat} {m i : Nat} (h : rs.length = 65 * m) (hi : i ≤ m) : (rightN rs i).length = 65 * i := flat_len2 i fun j hj => by rw [mendB_len]; exact blkLen h (by omega)
theorem wordsB_len (b : List Nat) : (wordsB b).length = 16 := by simp [wordsB]
theorem wordsN10_len (rs : List Nat) (i : Nat) : (wordsN10 rs i).length = 16 * i := flat_len2 i fun j _ => wordsB_len _
theorem mendedN_len (rs : List Nat) : ∀ i, (mendedN rs i).length ≤ i
 | 0 => Nat.le_refl _
 | i + 1 => by
  have := mendedN_len rs i
  rw [mended_succ, List.length_append]
  split <;> simp <;> omega
theorem drop_blk {rs : List Nat} (i : Nat) : rs.drop (65 * i) = blk rs i ++ rs.drop (65 * (i + 1)) := by
 unfold blk
 rw [show 65 * (i + 1) = 65 * i + 65 by omega, ← List.drop_drop, List.take_append_drop]
theorem rk_zero (rs : List Nat) : rk rs 0 = rs := rfl
theorem rk_end {rs : List Nat} {m : Nat} (h : rs.length = 65 * m) : rk rs m = rightN rs m := by
 unfold rk
 rw [List.drop_of_length_le (by omega), List.append_nil]
theorem rk_len {rs : List Nat} {m i : Nat} (h : rs.length = 65 * m) (hi : i ≤ m) : (rk rs i).length = 65 * m := by
 unfold rk
 rw [List.length_append, rightN_len h hi, List.length_drop]
 omega
theorem rk_same {rs : List Nat} {i : Nat} (hb : (mendB (blk rs i)).2.2 = blk rs i) : rk rs (i + 1) = rk rs i := by
 unfold rk
 rw [right_succ, hb, List.append_assoc, ← drop_blk]
theorem rk_set {rs : List Nat} {m i r v : Nat} (h : rs.length = 65 * m) (hi : i < m) (hr : r < 65) (hb : (mendB (blk rs i)).2.2 = (blk rs i).set r v) : rk rs (i + 1) = (rk rs i).set (65 * i + r) v := by
 have h1 := rightN_len h (Nat.le_of_lt hi)
 have h2 := blkLen h hi
 unfold rk
 rw [right_succ, hb, List.append_assoc, drop_blk i, List.set_append_right _ _ (by omega), h1, show 65 * i + r - 65 * i = r by omega, List.set_append_left _ _ (by omega)]
theorem rk_new {rs : List Nat} {m i r : Nat} (h : rs.length = 65 * m) (hi : i < m) (hr : r < 65) : (rk rs (i + 1))[65 * i + r]?.getD 0 = (mendB (blk rs i)).2.2[r]?.getD 0 := by
 have h1 := rightN_len h (Nat.le_of_lt hi)
 have h2 := blkLen h hi
 have h3 := mendB_len (blk rs i)
 unfold rk
 rw [right_succ, List.append_assoc, List.getElem?_append_right (by omega), h1, show 65 * i + r - 65 * i = r by omega, List.getElem?_append_left (by omega)]
theorem mendB_bad {b : List Nat} (h : (mendB b).2.1 = false) : (mendB b).2.2 = b := by
 unfold mendB at h ⊢
 generalize evs b = es at h ⊢
 match es, h with
 | [], _ => rfl
 | [r], h =>
  dsimp only at h ⊢
  by_cases hc : 1 < onesN (chk b) 6
  ·rw [if_pos hc]
  ·rw [if_neg hc] at h; cases h
 | _ :: _ :: _, _ => rfl
theorem mendB_lt {b : List Nat} (h : ∀ r ∈ b, r < 128) : ∀ r ∈ (mendB b).2.2, r < 128 := by
 obtain ⟨_, h2⟩ := rmend_eq b
 cases hm : (mendB b).2.1 with
 | true =>
  rcases (h2 hm).2 with ⟨_, e⟩ | ⟨r, k, hr, hk, _, _, e⟩
  ·rw [e]; exact h
  ·rw [e]
   intro x hx
   rcases List.mem_or_eq_of_mem_set hx with hx | rfl
   ·exact h x hx
   ·have h3 : b[r]?.getD 0 < 2 ^ 7 := get_lt h (by decide) r
    have h4 : 2 ^ k < 2 ^ 7 := Nat.pow_lt_pow_right (by decide) hk
    exact Nat.xor_lt_two_pow h3 h4
 | false =>
  rw [mendB_bad hm]; exact h
theorem blk_lt {rs : List Nat} (h : ∀ r ∈ rs, r < 128) (i : Nat) : ∀ r ∈ blk rs i, r < 128 := fun r hr => h r (List.mem_of_mem_drop (List.mem_of_mem_take hr))
/-- four rows from above, m of them read -/
def hw (b : List Nat) (k : Nat) : Nat → Nat
 | 0 => 0
 | m + 1 => 64 * hw b k m + b[4 * k + (3 - m)]?.getD 0 % 64
theorem hw_bd (b : List Nat) (k : Nat) : ∀ m, m ≤ 4 → hw b k m < 64 ^ m
 | 0, _ => (show (0 : Nat) < 64 ^ 0 by decide)
 | m + 1, h => by
  have := hw_bd b k m (by omega)
  have h2 : b[4 * k + (3 - m)]?.getD 0 % 64 < 64 := Nat.mod_lt _ (by decide)
  show 64 * hw b k m + b[4 * k + (3 - m)]?.getD 0 % 64 < 64 ^ (m + 1)
  rw [Nat.pow_succ]
  omega
theorem hw_le (b : List Nat) (k m : Nat) (h : m ≤ 4) : hw b k m < 16777216 := by
 have h1 := hw_bd b k m h
 have : (64 : Nat) ^ m ≤ 64 ^ 4 := Nat.pow_le_pow_right (by decide) h
 have h3 : (64 : Nat) ^ 4 = 16777216 := by decide
 omega
theorem hw_word (b : List Nat) (k : Nat) : ((hw b k 4 : Nat) : Int) = wordR b k := by
 have e : hw b k 4 = 64 * (64 * (64 * (64 * 0 + b[4 * k + 3]?.getD 0 % 64) + b[4 * k + 2]?.getD 0 % 64) + b[4 * k + 1]?.getD 0 % 64) + b[4 * k]?.getD 0 % 64 := rfl
 unfold wordR
 rw [e]
 omega
theorem wordsB_take (b : List Nat) {k : Nat} (hk : k < 16) : (wordsB b).take (k + 1) = (wordsB b).take k ++ [wordR b k] := by
 rw [List.take_add_one]
 congr 1
 simp [wordsB, hk]
theorem first_some {rs : List Nat} {m k : Nat} (h : rs.length = 65 * m) (hk : k < m) (ho : ∀ j, j < k → fineB rs j = true) (hb : fineB rs k = false) : firstBad rs = some k := by
 unfold firstBad
 rw [show rs.length / 65 = m by omega, List.find?_range_eq_some]
 refine ⟨by rw [hb]; rfl, by simpa using hk, fun j hj => by rw [ho j hj]; rfl⟩
theorem first_none {rs : List Nat} {m : Nat} (h : rs.length = 65 * m) (ho : ∀ j, j < m → fineB rs j = true) : firstBad rs = none := by
 unfold firstBad
 rw [show rs.length / 65 = m by omega, List.find?_range_eq_none]
 intro j hj
 rw [ho j hj]; rfl
theorem read_long {rs : List Nat} (h : 2400 < rs.length) : readE rs = ([], [], 0, 3) := by
 have e : readX rs = 3 := by unfold readX; rw [if_pos h]
 unfold readE
 rw [e, if_neg (by decide), if_neg (by decide)]
theorem read_six {rs : List Nat} (e : readX rs = 6) : readE rs = ([], [], 0, 6) := by
 unfold readE
 rw [e, if_neg (by decide), if_neg (by decide)]
theorem read_size {rs : List Nat} (h : rs.length ≤ 2400) (h2 : rs.length = 0 ∨ rs.length % 65 ≠ 0) : readE rs = ([], [], 0, 6) := read_six (by
 unfold readX
 rw [if_neg (by omega), if_pos (by rcases h2 with h2 | h2 <;> simp [h2])])
theorem read_high {rs : List Nat} (h : rs.length ≤ 2400) {k : Nat} (hk : k < rs.length) (h2 : 128 ≤ rs[k]?.getD 0) : readE rs = ([], [], 0, 6) := read_six (by
 unfold readX
 rw [if_neg (by omega), if_pos]
 refine .inr (.inr (List.any_eq_true.2 ?_))
 rw [List.getElem?_eq_getElem hk, Option.getD_some] at h2
 exact ⟨_, List.getElem_mem hk, decide_eq_true (by omega)⟩)
theorem all_low {rs : List Nat} (h : ∀ r ∈ rs, r < 128) : (rs.any fun r => decide (127 < r)) = false := by
 rw [List.any_eq_false]
 intro r hr
 have := h r hr
 simp; omega
theorem readX_mid {rs : List Nat} {m : Nat} (h : rs.length ≤ 2400) (hm : rs.length = 65 * m) (h0 : 0 < m) (hr : ∀ r ∈ rs, r < 128) : readX rs = match firstBad rs with
  | some _ => 200
  | none => if 560 < manyR rs ∨ ((bodyR rs).length : Int) < manyR rs then 6 else if tapeW ((bodyR rs).take (manyR rs).toNat) = rightN rs (rs.length / 65) then 0 else 6 := by
 have hn : ¬ (rs.length = 0 ∨ rs.length % 65 ≠ 0 ∨ rs.any (fun r => decide (127 < r)) = true) := by
  rw [all_low hr]
  intro hh
  rcases hh with hh | hh | hh
  ·omega
  ·omega
  ·cases hh
 unfold readX
 rw [if_neg (by omega), if_neg hn]
 cases firstBad rs <;> rfl
theorem read_fails {rs : List Nat} {m k : Nat} (h : rs.length ≤ 2400) (hm : rs.length = 65 * m) (hr : ∀ r ∈ rs, r < 128) (hk : k < m) (ho : ∀ j, j < k → fineB rs j = true) (hb : fineB rs k = false) : readE rs = ([], [], (k : Int), 200) := by
 have e := readX_mid h hm (by omega) hr
 have e2 := first_some hm hk ho hb
 rw [e2] at e
 dsimp only at e
 unfold readE
 rw [e, if_neg (by decide), if_pos rfl, e2]
 rfl
theorem read_many {rs : List Nat} {m : Nat} (h : rs.length ≤ 2400) (hm : rs.length = 65 * m) (h0 : 0 < m) (hr : ∀ r ∈ rs, r < 128) (ho : ∀ j, j < m → fineB rs j = true) (hx : 560 < manyR rs ∨ ((bodyR rs).length : Int) < manyR rs) : readE rs = ([], [], 0, 6) := by
 have e := readX_mid h hm h0 hr
 rw [first_none hm ho] at e
 dsimp only at e
 rw [if_pos hx] at e
 exact read_six e
theorem read_other {rs : List Nat} {m : Nat} (h : rs.length ≤ 2400) (hm : rs.length = 65 * m) (h0 : 0 < m) (hr : ∀ r ∈ rs, r < 128) (ho : ∀ j, j < m → fineB rs j = true) (hx : ¬ (560 < manyR rs ∨ ((bodyR rs).length : Int) < manyR rs)) (ht : tapeW ((bodyR rs).take (manyR rs).toNat) ≠ rightN rs m) : readE rs = ([], [], 0, 6) := by
 have e := readX_mid h hm h0 hr
 rw [first_none hm ho] at e
 dsimp only at e
 rw [if_neg hx, show rs.length / 65 = m by omega, if_neg ht] at e
 exact read_six e
theorem read_fine {rs : List Nat} {m : Nat} (h : rs.length ≤ 2400) (hm : rs.length = 65 * m) (h0 : 0 < m) (hr : ∀ r ∈ rs, r < 128) (ho : ∀ j, j < m → fineB rs j = true) (hx : ¬ (560 < manyR rs ∨ ((bodyR rs).length : Int) < manyR rs)) (ht : tapeW ((bodyR rs).take (manyR rs).toNat) = rightN rs m) : readE rs = ((bodyR rs).take (manyR rs).toNat, mendedN rs m, 0, 0) := by
 have e := readX_mid h hm h0 hr
 rw [first_none hm ho] at e
 dsimp only at e
 rw [if_neg hx, show rs.length / 65 = m by omega, if_pos ht] at e
 unfold readE
 rw [if_pos e, show rs.length / 65 = m by omega]
theorem body_eq {rs : List Nat} {m : Nat} (hm : rs.length = 65 * m) : bodyR rs = (wordsN10 rs m).drop 1 ∧ manyR rs = (wordsN10 rs m)[0]?.getD 0 := by
 unfold bodyR manyR
 rw [show rs.length / 65 = m by omega]
 exact ⟨rfl, rfl⟩
end Go.Q
/- Three rows that grow side by side; slices of rows of bytes. -/
namespace Go.Proofs.YtnhpcoagkmgdoaaGreat
open Go.RowKit Go.Q Go.Joins
/-- two rows do not lie in one block -/
def Ap2 (u v : Value) : Prop := u.ownBlock = none ∨ u.ownBlock ≠ v.ownBlock
theorem Ap2.symm {u v : Value} (h : Ap2 u v) : Ap2 v u := by
 cases e : v.ownBlock with
 | none => exact .inl e
 | some b =>
  refine .inr ?_
  rw [e]
  rcases h with h | h
  ·rw [h]; intro q; cases q
  ·intro q; exact h (by rw [e]; exact q.symm)
/-- right rows, mended rows, words -/
structure R3 (B tU tI : Nat) (X : World) (s7 s8 s9 : Value) (x7 x8 x9 : List Int) : Prop where
 r7 : X.ownsRow B tU 1 s7 x7.length (ub x7)
 r8 : X.ownsRow B tI 1 s8 x8.length (iv x8)
 r9 : X.ownsRow B tI 1 s9 x9.length (iv x9)
 a78 : Ap2 s7 s8
 a79 : Ap2 s7 s9
 a89 : Ap2 s8 s9
theorem own_extX {w w' : World} {B t sz n : Nat} {v : Value} {xs : List Value} (h : w.ownsRow B t sz v n xs) (E : Ext w w') : w'.ownsRow B t sz v n xs := by
 refine ⟨h.1, ?_⟩
 rcases h.2 with h2 | ⟨g, cap, cur, rfl, hb, hg, r⟩
 ·exact .inl h2
 ·exact .inr ⟨g, cap, cur, rfl, hb, (E.block g (lt_of_block hg)).trans hg, r⟩
theorem R3.ext {B tU tI : Nat} {X Y : World} {s7 s8 s9 : Value} {x7 x8 x9 : List Int} (h : R3 B tU tI X s7 s8 s9 x7 x8 x9) (E : Ext X Y) : R3 B tU tI Y s7 s8 s9 x7 x8 x9 :=
 ⟨own_extX h.r7 E, own_extX h.r8 E, own_extX h.r9 E, h.a78, h.a79, h.a89⟩
theorem R3.set7 {B tU tI : Nat} {X : World} {g n c : Nat} {s8 s9 : Value} {x7 x8 x9 : List Int} (h : R3 B tU tI X (.slice (some ⟨g, 0, none⟩) n c) s8 s9 x7 x8 x9) (hn : x7.length = n) (j : Nat) (v : Int) :
  R3 B tU tI (X.setCell ⟨g, j, none⟩ (.int .u8 v)) (.slice (some ⟨g, 0, none⟩) n c) s8 s9 (x7.set j v) x8 x9 := by
 have h7 := h.r7
 rw [hn] at h7
 obtain ⟨k1, k2⟩ := h7.stored j (.int .u8 v)
 refine ⟨?_, h.r8.kept k2 h.a78.symm, h.r9.kept k2 h.a79.symm, h.a78, h.a79, h.a89⟩
 rw [List.length_set, hn]
 unfold ub at k1 ⊢
 rw [List.map_set]
 exact k1
theorem ap_new {u v v' : Value} {W : World} (h : Ap2 u v) (hb : ∀ b, u.ownBlock = some b → b < W.heap.size) (hv : v'.ownBlock = v.ownBlock ∨ v'.ownBlock = some W.heap.size) : Ap2 u v' := by
 rcases hv with hv | hv
 ·unfold Ap2; rw [hv]; exact h
 ·cases e : u.ownBlock with
  | none => exact .inl e
  | some b =>
   refine .inr ?_
   rw [e, hv]
   intro q
   have := hb b e
   injection q with q
   omega
theorem R3.app8 {B tU tI : Nat} {X Y : World} {s7 s8 s9 v' : Value} {x7 x8 x9 : List Int} {x : Int} (h : R3 B tU tI X s7 s8 s9 x7 x8 x9) (ho : Y.ownsRow B tI 1 v' (x8.length + 1) (iv x8 ++ [.int .i64 x])) (hg : X.grownBy Y s8.ownBlock) (hv : v'.ownBlock = s8.ownBlock ∨ v'.ownBlock = some X.heap.size) :
  R3 B tU tI Y s7 v' s9 x7 (x8 ++ [x]) x9 := by
 refine ⟨h.r7.kept hg h.a78, ?_, h.r9.kept hg h.a89.symm, ap_new h.a78 (fun b e => (h.r7.lt b e).2) hv, h.a79, (ap_new h.a89.symm (fun b e => (h.r9.lt b e).2) hv).symm⟩
 rw [List.length_append]
 unfold iv at ho ⊢
 rw [List.map_append]
 exact ho
theorem R3.app9 {B tU tI : Nat} {X Y : World} {s7 s8 s9 v' : Value} {x7 x8 x9 : List Int} {x : Int} (h : R3 B tU tI X s7 s8 s9 x7 x8 x9) (ho : Y.ownsRow B tI 1 v' (x9.length + 1) (iv x9 ++ [.int .i64 x])) (hg : X.grownBy Y s9.ownBlock) (hv : v'.ownBlock = s9.ownBlock ∨ v'.ownBlock = some X.heap.size) :
  R3 B tU tI Y s7 s8 v' x7 x8 (x9 ++ [x]) := by
 refine ⟨h.r7.kept hg h.a79, h.r8.kept hg h.a89, ?_, h.a78, ap_new h.a79 (fun b e => (h.r7.lt b e).2) hv, ap_new h.a89 (fun b e => (h.r8.lt b e).2) hv⟩
 rw [List.length_append]
 unfold iv at ho ⊢
 rw [List.map_append]
 exact ho
theorem sub_u8s {W : World} {g off lo k : Nat} {xs : List Nat} (h : BytesAt W (some ⟨g, off, none⟩) (natI xs)) (hl : lo + k ≤ xs.length) : BytesAt W (some ⟨g, off + lo, none⟩) (natI ((xs.drop lo).take k)) := by
 rcases h with e | ⟨b, o, ha, hb, hc⟩
 ·have := natI_length xs
  rw [e] at this
  simp only [List.length_nil] at this
  refine .inl ?_
  rw [List.eq_nil_of_length_eq_zero this.symm]
  simp [natI]
 ·simp only [Option.some.injEq, Addr.mk.injEq, and_true] at ha
  obtain ⟨rfl, rfl⟩ := ha
  refine .inr ⟨g, off + lo, rfl, hb, fun i hi => ?_⟩
  rw [natI_length, List.length_take, List.length_drop] at hi
  have := hc (lo + i) (by rw [natI_length]; omega)
  rw [← Nat.add_assoc, natI_get] at this
  rw [this, natI_get, List.getElem?_take, if_pos (by omega), List.getElem?_drop]
theorem sub_intsN {W : World} {g lo k : Nat} {xs : List Int} (h : IntsAt W (some ⟨g, 0, none⟩) xs) (hl : lo + k ≤ xs.length) : IntsAt W (some ⟨g, lo, none⟩) ((xs.drop lo).take k) := by
 rcases h with e | ⟨b, off, ha, hb, hc⟩
 ·rw [e]; exact .inl (by simp)
 ·simp only [Option.some.injEq, Addr.mk.injEq, and_true] at ha
  obtain ⟨rfl, rfl⟩ := ha
  refine .inr ⟨g, lo, rfl, hb, fun i hi => ?_⟩
  rw [List.length_take, List.length_drop] at hi
  have := hc (lo + i) (by omega)
  rw [Nat.zero_add] at this
  rw [this, List.getElem?_take, if_pos (by omega), List.getElem?_drop]
end Go.Proofs.YtnhpcoagkmgdoaaGreat
/- Ranges over functions: an iterator of our own, the invariant by the number of rounds; what stays when some blocks are turned. (From the texts of layer 1, for layers that do not stand on them.) -/
namespace Go.Q
open Go.RowKit Go.Shelf
/-- all blocks but those of M lie unturned -/
structure KpM (M : Nat → Prop) (W W' : World) : Prop where
 size : W.heap.size ≤ W'.heap.size
 block : ∀ b, b < W.heap.size → ¬ M b → W'.heap[b]? = W.heap[b]?
 os : W'.os = W.os
 tape : W'.tape = W.tape
 output : W'.output = W.output
theorem KpM.refl (M : Nat → Prop) (W : World) : KpM M W W := ⟨Nat.le_refl _, fun _ _ _ => rfl, rfl, rfl, rfl⟩
theorem KpM.trans {M : Nat → Prop} {A B C : World} (h : KpM M A B) (k : KpM M B C) : KpM M A C :=
 ⟨Nat.le_trans h.1 k.1, fun b hb hm => (k.2 b (Nat.lt_of_lt_of_le hb h.1) hm).trans (h.2 b hb hm), k.os.trans h.os, k.tape.trans h.tape, k.output.trans h.output⟩
theorem KpM.of_ext {M : Nat → Prop} {A B : World} (h : Ext A B) : KpM M A B := ⟨h.size, fun b hb _ => h.block b hb, h.os, h.tape, h.output⟩
theorem KpM.cell {M : Nat → Prop} {A B : World} (h : KpM M A B) {b o : Nat} (hb : b < A.heap.size) (hm : ¬ M b) : B.cell? ⟨b, o, none⟩ = A.cell? ⟨b, o, none⟩ := World.cell?_of_block (w := A) (h.2 b hb hm)
theorem KpM.mono {M M' : Nat → Prop} {A B : World} (h : KpM M A B) (hm : ∀ b, M b → M' b) : KpM M' A B := ⟨h.1, fun b hb hn => h.2 b hb (fun hx => hn (hm b hx)), h.os, h.tape, h.output⟩
theorem KpM.below {M : Nat → Prop} {n : Nat} {w A B : World} (k : KpM M A B) (h : Below n w A) (hn : n ≤ w.heap.size) (hM : ∀ b, M b → n ≤ b) : Below n w B :=
 ⟨k.os.trans h.os, k.tape.trans h.tape, k.output.trans h.output, Nat.le_trans h.size k.size, fun b hb => (k.block b (Nat.lt_of_lt_of_le (Nat.lt_of_lt_of_le hb hn) h.size) (fun hm => by have := hM b hm; omega)).trans (h.block b hb)⟩
theorem _root_.Go.Q.Ext.below5 {M : Nat → Prop} {w A B : World} (h : Ext w A) (k : KpM M A B) (hM : ∀ b, M b → w.heap.size ≤ b) : Ext w B := k.below h (Nat.le_refl _) hM
theorem KpM.store {A B : World} (h : Ext A B) (b : Nat) (v : Value) : KpM (fun x => x = b) A (B.setCell ⟨b, 0, none⟩ v) := by
 have k := (Below.refl 0 B).setCell (p := ⟨b, 0, none⟩) (Nat.zero_le _) v
 exact ⟨by simpa using h.size, fun x hx hn => (Below.heap_setCell _ _ _ _ hn).trans (h.block x hx), k.os.trans h.os, k.tape.trans h.tape, k.output.trans h.output⟩
theorem blk_cell {w : World} {m : Nat} {cs : Array Value} {t : TypeId} (h : w.heap[m]? = some (.cells cs t (0, 0))) (i : Nat) {v : Value} (hv : cs[i]? = some v) : w.cell? ⟨m, i, none⟩ = some v := by
 simp [World.cell?, h, hv]
theorem blk_free {w : World} {m : Nat} {cs : Array Value} {t : TypeId} (h : w.heap[m]? = some (.cells cs t (0, 0))) (i : Nat) : w.frozen? ⟨m, i, none⟩ = false := by
 simp [World.frozen?, h]
/-- the turn of block B, that holds no cells -/
def TurnsAt {β : Type} (B : Nat) (J : β → World → Prop) : Prop := ∀ s W o o', J s W → W.heap[B]? = some o → o.isCells = false → J s (W.putObj B o')
/-- how a round ends -/
def JPost (B : Nat) (Kp : World → World → Prop) (J : World → Prop) (W : World) : Exit → Act → World → Prop := fun e _ W' => e = .normal ∧ KeepsFrom B W W' ∧ Kp W W' ∧ J W'
theorem wpIn_rangeFunc_J {α : Type} {P : Program} {n : Nat} {g : Operand} {ps : Array Tmp} {assign body : Code} {Q : Exit → Act → World → Prop} {a : Act} {w : World} {gf : Nat} {lb : Array Value}
  (hg : a.eval g = .func (.func gf) #[] lb) (eg : ∀ args w, (callFunc gf args).run P w = .ok (.enter gf args) w)
  {encs : α → Array Value} (hps : ∀ x, (encs x).size = ps.size) (J : Nat → World → Prop) (X : Nat → α → World → Prop) (N : Nat) (Kp : World → World → Prop)
  (hKt : ∀ {A B C : World}, Kp A B → Kp B C → Kp A C) (hKb : ∀ (W : World) (o o' : Obj), W.heap[w.heap.size + 1]? = some o → o.isCells = false → Kp W (W.putObj (w.heap.size + 1) o'))
  (hJ : TurnsAt (w.heap.size + 1) J) (hX : ∀ k, TurnsAt (w.heap.size + 1) (X k)) (h0 : ∀ W, Ext w W → J 0 W)
  (hcall : ∀ (l : Nat) (JJ : Nat → World → Prop) (W1 : World), Ext w W1 → w.heap.size + 1 < W1.heap.size → (∀ k W, JJ k W → J k W ∧ w.heap.size + 1 < W.heap.size) →
   (∀ k W W', JJ k W → J k W' → W'.heap[w.heap.size]? = W.heap[w.heap.size]? → W'.heap[w.heap.size + 1]? = W.heap[w.heap.size + 1]? → JJ k W') →
   (∀ k x W, JJ k W → k < N → X k x W → YieldAt Fence.wide (n - 1 - 1) P l (encs x) W fun e W' => e = .returned (.bool true) ∧ JJ (k + 1) W' ∧ Kp W W') → JJ 0 W1 →
   CallsIn Fence.wide (n - 1) P gf (#[.func (.yield l) #[] #[]] ++ lb) W1 fun e W' => (∃ v, e = .returned v) ∧ JJ N W')
  (a₁ : α → Act)
  (hassign : ∀ (l : Nat) (x : α) (W : World) (K : Act → World → Prop), K (a₁ x) W →
   assign.wpIn (Fence.wide.inRound l) (n - 1 - 1) P (Exit.then K (fun _ _ _ => False)) { tmps := (ps.zip (encs x)).foldl (fun t (p, v) => t.setIfInBounds p v) a.tmps, defers := [] } W)
  (hbody : ∀ (l k : Nat) (x : α) (W : World), J k W → k < N → X k x W → body.wpIn (Fence.wide.inRound l) (n - 1 - 1) P (JPost w.heap.size Kp (J (k + 1)) W) (a₁ x) W)
  (hdone : ∀ (D : Nat) (W : World), w.heap.size ≤ D → J N W → W.heap[D]? = some (.deferred (some [])) → Q .normal { a with defers := { target := .collected D, args := #[] } :: a.defers } W) :
  (Code.rangeFunc g ps assign body).wpIn Fence.wide n P Q a w := by
 refine wpIn_rangeFunc fun fn hfn => ?_
 obtain ⟨rec, hrec⟩ : ∃ rec : LoopState → Option Code → Loop, rec = fun st pe => { state := st, pending := pe, fn, tmps := a.tmps, params := ps, assign, body, defers := w.heap.size } := ⟨_, rfl⟩
 obtain ⟨W1, hW1⟩ : ∃ W1, (w.alloc (.deferred (some []))).alloc (.loop (rec .ready none)) = W1 := ⟨_, rfl⟩
 have hE1 : Ext w W1 := by rw [← hW1]; exact ((Ext.refl w).alloc _).alloc _
 have hs1 : W1.heap.size = w.heap.size + 2 := by rw [← hW1]; simp
 have hL1 : W1.heap[w.heap.size + 1]? = some (.loop (rec .ready none)) := by
  rw [← hW1]; have := World.alloc_heap_new (w.alloc (.deferred (some []))) (.loop (rec .ready none)); rwa [World.size_alloc] at this
 have hD1 : W1.heap[w.heap.size]? = some (.deferred (some [])) := by
  rw [← hW1]; exact (Below.heap_alloc _ _ _ (by simp)).trans (World.alloc_heap_new w _)
 refine ⟨w.heap.size + 1, [{ target := .collected w.heap.size, args := #[] }], W1, { target := .fn (.func gf) lb, args := #[.func (.yield (w.heap.size + 1)) #[] #[]] }, W1, gf,
  #[.func (.yield (w.heap.size + 1)) #[] #[]] ++ lb, W1, ?_, ?_, fun _ _ => trivial, ?_, fun h => (by cases h), ?_⟩
 ·rw [← hW1, hrec]; exact run_enterLoop_outer _ _ _ _ _
 ·simp only [resolve, hg]
  simp [go_sem]
 ·simp [invoke, go_sem, eg]
 ·refine (hcall (w.heap.size + 1) (fun k W => J k W ∧ W.heap[w.heap.size + 1]? = some (.loop (rec .ready none)) ∧ W.heap[w.heap.size]? = some (.deferred (some []))) W1 hE1 (by omega) (fun _ _ h => ⟨h.1, (Array.getElem?_eq_some_iff.1 h.2.1).1⟩)
   (fun _ _ _ h hj e1 e2 => ⟨hj, e2.trans h.2.1, e1.trans h.2.2⟩) ?_ ⟨h0 _ hE1, hL1, hD1⟩).mono ?_
  ·rintro k x W ⟨hj, hl, hd⟩ hk hx
   have hlt : w.heap.size + 1 < W.heap.size := (Array.getElem?_eq_some_iff.1 hl).1
   have hy := run_yield (P := P) (args := encs x) hl (by rw [hrec]; exact hps x)
   rw [hrec] at hy
   refine ⟨fn, _, assign, body, hy, roundIn_of_wpIn hfn (hassign _ x W _ ?_)⟩
   refine ⟨_, run_beginRound hl (by rw [hrec]), ?_⟩
   have hl2 : (W.putObj (w.heap.size + 1) (.loop { rec .ready none with state := .busy })).heap[w.heap.size + 1]? = some (.loop { rec .ready none with state := .busy }) := World.putObj_heap_same hlt
   have hd2 : (W.putObj (w.heap.size + 1) (.loop { rec .ready none with state := .busy })).heap[w.heap.size]? = some (.deferred (some [])) := (World.putObj_heap_other (by omega)).trans hd
   refine wpIn_mono (hbody _ k x _ (hJ _ _ _ _ hj hl rfl) hk (hX k _ _ _ _ hx hl rfl)) ?_
   rintro e a3 W3 ⟨rfl, hk3, hkp3, hj3⟩
   have hl3 := hk3.same _ _ (by omega) hl2 rfl
   have hd3 := hk3.same _ _ (Nat.le_refl _) hd2 rfl
   have hr := run_endRound (P := P) none hl3
   rw [hrec] at hr hl3 ⊢
   exact ⟨_, _, hr, rfl, ⟨hJ _ _ _ _ hj3 hl3 rfl, World.putObj_heap_same (Array.getElem?_eq_some_iff.1 hl3).1, (World.putObj_heap_other (by omega)).trans hd3⟩,
    hKt (hKb _ _ _ hl rfl) (hKt hkp3 (hKb _ _ _ hl3 rfl))⟩
  ·rintro e W2 ⟨⟨v, rfl⟩, hj, hl, hd⟩
   exact ⟨none, _, by have := run_endLoop (P := P) hl (by rw [hrec]; simp); rw [hrec] at this; exact this, hdone _ _ (Nat.le_refl _) (hJ _ _ _ _ hj hl rfl) ((World.putObj_heap_other (by omega)).trans hd)⟩
/-- a piece of code that ends as usual -/
def NQ (Q : Exit → Act → World → Prop) : Exit → Act → World → Prop
 | .normal, a, w => Q .normal a w
 | _, _, _ => False
theorem wpIn_normal {F : Fence} {n : Nat} {P : Program} {c : Code} {Q : Exit → Act → World → Prop} {a : Act} {w : World} (h : c.wpIn F n P (NQ Q) a w) : c.wpIn F n P Q a w :=
 wpIn_mono h fun e a' w' hq => by
  cases e with
  | normal => exact hq
  | _ => exact hq.elim
theorem KpM.put {M : Nat → Prop} (W : World) (b : Nat) (o' : Obj) (hm : M b) : KpM M W (W.putObj b o') :=
 ⟨by simp, fun x _ hx => World.putObj_heap_other (fun e => hx (by rw [e]; exact hm)), rfl, rfl, rfl⟩
theorem boxed_kp {M : Nat → Prop} {A B : World} {b : Nat} {t : TypeId} {v : Value} (h : Boxed A b t v) (k : KpM M A B) (hm : ¬ M b) : Boxed B b t v := (k.block b h.lt hm).trans h
theorem KpM.set {M : Nat → Prop} (W : World) (b : Nat) (v : Value) (hm : M b) : KpM M W (W.setCell ⟨b, 0, none⟩ v) := (KpM.store (Ext.refl W) b v).mono (fun x h => by rw [h]; exact hm)
end Go.Q
/- Layer 10's program: slices.Chunk of ints. -/
namespace Go.Proofs.YtnhpcoagkmgdoaaGreat
open Go.RowKit Go.Q Go.Shelf Go.Joins
attribute [local go_sem] Oper.semAt_some
theorem size_int (W : World) : (sizeOf (Tryz.prog.elem 22)).run Tryz.prog W = .ok 1 W := by
 rw [show Tryz.prog.elem 22 = 3 by kernel_rfl]
 obtain ⟨i0, hi, _, hz1, _⟩ := info_parts Tryz.infoE
 simp [sizeOf, typeInfo, hi, hz1, go_sem]
theorem slice_from (W : World) (g n k1 lo : Nat) (h1 : lo < k1) (h2 : lo ≤ n) : (Instr.slice 22 (.slice (some ⟨g, 0, none⟩) n k1) (some (.int .i64 (lo : Int))) none none).run Tryz.prog W = .ok (.slice (some ⟨g, lo, none⟩) (n - lo) (k1 - lo)) W := by
 have h := run_slice_l (P := Tryz.prog) (w := W) 22 (some ⟨g, 0, none⟩) n k1 (by rw [Tryz.underlying22]; kernel_rfl) .i64 (lo : Int) (by omega) (by omega)
 rw [h, size_int]
 show Result.ok (sliced _ _ _ _ 1) W = _
 unfold sliced
 rw [if_neg (by omega)]
 simp [Addr.add]
 exact fun h => h.symm
theorem slice_three (W : World) (g n k1 lo hi : Nat) (h1 : lo < hi) (h3 : hi ≤ k1) : (Instr.slice 22 (.slice (some ⟨g, 0, none⟩) n k1) (some (.int .i64 (lo : Int))) (some (.int .i64 (hi : Int))) (some (.int .i64 (hi : Int)))).run Tryz.prog W = .ok (.slice (some ⟨g, lo, none⟩) (hi - lo) (hi - lo)) W := by
 have h := run_slice_lhm (P := Tryz.prog) (w := W) 22 (some ⟨g, 0, none⟩) n k1 (by rw [Tryz.underlying22]; kernel_rfl) .i64 .i64 .i64 (lo : Int) (hi : Int) (hi : Int) (by omega) (by omega) (by omega) (by omega)
 rw [h, size_int]
 show Result.ok (sliced _ _ _ _ 1) W = _
 unfold sliced
 rw [if_neg (by omega)]
 simp [Addr.add]
 exact fun h => h.symm
theorem at_slice {W W' : World} {v r : Value} {lo hi mx : Option Value} (h : (Instr.slice 22 v lo hi mx).run Tryz.prog W = .ok r W') : (Instr.sliceAt 22 v lo hi mx).run Tryz.prog W = .ok r W' :=
 Eq.trans (run_sliceAt_slice (P := Tryz.prog) (w := W) 22 _ _ _ _ (by rw [Tryz.underlying22]; kernel_rfl)) h
set_option maxRecDepth 100000 in
theorem chunkI_any (a : Option Addr) (k c s : Nat) (w : World) (hs : 1 ≤ s) :
  Calls Tryz.prog 85 #[.slice a k c, .int .i64 s] w fun e w' => e = .returned (.func (.func 101) #[] #[.pointer (some ⟨w.heap.size, 0, none⟩), .pointer (some ⟨w.heap.size + 1, 0, none⟩)]) ∧ (w.alloc (.cells #[.slice a k c] 22)).alloc (.cells #[.int .i64 s] 3) = w' := by
 have h1 : ¬ (s : Int) < 1 := by omega
 go_enter Tryz.func85, Tryz.ntmps85
 go_wp2
 go_ret
 exact ⟨rfl, rfl⟩
set_option maxRecDepth 100000 in
set_option maxHeartbeats 4000000 in
theorem chunkI_in (n : Nat) (hn : 1 ≤ n) (l Bs Bc b c nb N : Nat) (hNb : 16 * nb = N) (hcap : N ≤ c) (hc63 : c ≤ 9223372036854775807) (hN : N ≤ 576) (M : Nat → Prop) (hMs : ¬ M Bs) (hMc : ¬ M Bc) (JJ : Nat → World → Prop) (W : World)
  (hJd : ∀ k W m, JJ k W → JJ k (W.drewN m))
  (hY : ∀ k W, JJ k W → k < nb → YieldAt Fence.wide (n - 1) Tryz.prog l #[.slice (some ⟨b, 16 * k, none⟩) 16 16] W fun e W' => e = .returned (.bool true) ∧ JJ (k + 1) W' ∧ KpM M W W')
  (hB : W.cell? ⟨Bs, 0, none⟩ = some (.slice (some ⟨b, 0, none⟩) N c)) (hC : W.cell? ⟨Bc, 0, none⟩ = some (.int .i64 16)) (hBs : Bs < W.heap.size) (hBc : Bc < W.heap.size) (h0 : JJ 0 W) :
  CallsIn Fence.wide n Tryz.prog 101 #[.func (.yield l) #[] #[], .pointer (some ⟨Bs, 0, none⟩), .pointer (some ⟨Bc, 0, none⟩)] W fun e W' => (∃ v, e = .returned v) ∧ JJ nb W' := by
 refine callsIn_of_wp Tryz.func101 rfl trivial ?_ rfl
 simp only [Tryz.ntmps101, List.size_toArray, List.length_cons, List.length_nil, Nat.reduceAdd, Nat.reduceSub, Array.replicate_succ, Array.replicate_zero, List.push_toArray, List.append_toArray, List.nil_append, List.cons_append]
 gi_wp2
 gi_loopw [4] (fun i wr => ∃ k : Nat, k ≤ nb ∧ (∃ z : Nat, z = 16 * k ∧ i = .int .i64 (z : Int)) ∧ JJ k wr ∧ KpM M W wr) (fun i _ => N - (intOf i).toNat)
 case atStart => exact ⟨0, by omega, ⟨0, rfl, rfl⟩, h0, KpM.refl _ _⟩
 case round =>
  obtain ⟨k, hk, ⟨z, hz, rfl⟩, hJs, hnx⟩ := hrel
  have hcs := (hnx.cell (o := 0) hBs hMs).trans hB
  have hcc := (hnx.cell (o := 0) hBc hMc).trans hC
  by_cases hlt : k < nb
  ·have hltz : (z : Int) < (N : Int) := by omega
   obtain ⟨R, hR⟩ : ∃ R, N - z = R := ⟨_, rfl⟩
   have hR16 : 16 ≤ R := by omega
   obtain ⟨ho, hho⟩ : ∃ ho, z + 16 = ho := ⟨_, rfl⟩
   have hs1 := fun W => slice_from W b N c z (by omega) (by omega)
   rw [hR] at hs1
   have hs1' := fun W => at_slice (hs1 W)
   have hs2 := fun W => slice_three W b N c z ho (by omega) (by omega)
   rw [show ho - z = 16 by omega] at hs2
   have hs2' := fun W => at_slice (hs2 W)
   have hmin : min (16 : Int) (R : Int) = 16 := by omega
   have w1 : IntKind.i64.wrap ((z : Int) + 16) = (ho : Int) := by rw [show (z : Int) + 16 = (ho : Int) by omega]; exact IntWalk.i64_in _ (by omega)
   have m8 : (0 : Int) ≤ (z : Int) := by omega
   have m9 : (z : Int) ≤ (ho : Int) := by omega
   have m10 : (ho : Int) ≤ (c : Int) := by omega
   have HZN := Lib.hid (show z < N by omega)
   have HZ := Lib.hid hz
   have HHO := Lib.hid hho
   have hz16 : 16 * k = z := hz.symm
   have hYk := hY k
   rw [hz16] at hYk
   have HYK := Lib.hid hYk
   have HNB := Lib.hid hNb
   clear hR hho hz hz16 hYk hNb
   gi_wp2
   refine wpIn_wide.2 ?_
   go_quiet (fail)
   obtain ⟨fn, tmps, assign, body, hy, hRd⟩ := HYK.out (wr.drewN nq) (hJd _ _ _ hJs) hlt
   gi_wp2
   refine hRd.mono ?_
   rintro e W3 ⟨rfl, hJ3, hk3⟩
   have hcc3 := hk3.cell (o := 0) (show Bc < (wr.drewN nq).heap.size from Nat.lt_of_lt_of_le hBc hnx.size) hMc
   rw [World.cell?_drewN, hcc] at hcc3
   gi_wp2
   go_roundw
   case rel => exact ⟨k + 1, by omega, ⟨ho, by have := HZ.out; have := HHO.out; omega, by go_num⟩, hJ3, (hnx.trans (KpM.of_ext (ext_drewN (Ext.refl wr) nq))).trans hk3⟩
   case measure =>
    have := HZN.out
    have := HHO.out
    simp [intOf]
    omega
  ·have hltz : ¬ (z : Int) < (N : Int) := by omega
   obtain rfl : k = nb := by omega
   gi_wp2
   go_end0
   exact ⟨⟨_, rfl⟩, hJs⟩
end Go.Proofs.YtnhpcoagkmgdoaaGreat
/- append(s, make([]T, m)...): the append of so many zeros, to a row owned. -/
namespace Go.Q
open Go.RowKit
theorem zeroCells_one (z : Value) (m : Nat) : Builtin.zeroCells #[z] m = (List.replicate m z).toArray := by
 apply Array.ext
 ·simp [Builtin.zeroCells]
 ·intro i h1 h2
  simp [Builtin.zeroCells, Nat.mod_one]
/-- no zeros -/
theorem run_app_none {P : Program} {w : World} (base : Nat) (t ti ty e : TypeId) (i : TypeInfo) (ht : P.underlying t = some (.slice e)) (hti : P.underlying ti = some (.int .i64)) (hi : P.info? e = some i) {g n cap : Nat} {xs : List Value} (hown : w.ownsRow base e 1 (.slice (some ⟨g, 0, none⟩) n cap) n xs) :
  (Builtin.append_ #[t, ti] ty #[.slice (some ⟨g, 0, none⟩) n cap, .int .i64 0]).run P w = .ok (.slice (some ⟨g, 0, none⟩) n cap) w := by
 have hw : IntKind.i64.wrap (0 : Int) = 0 := rfl
 rcases hown.2 with ⟨h1, _⟩ | ⟨g0, cap0, cur, h1, hbg, hg, hnc, hcm, hcs, htake⟩
 ·simp at h1
 ·simp only [Value.slice.injEq, Option.some.injEq, Addr.mk.injEq, and_true, true_and] at h1
  obtain ⟨rfl, rfl⟩ := h1
  simp [Builtin.append_, run_underlying ht, run_underlying hti, sizeOf, typeInfo, hi, hw, hnc, Addr.add_lit, storeCells, asInt, asIntOf]
section
variable {P : Program} {w : World} (base : Nat) (t ti ty e : TypeId) (i : TypeInfo) (zv : Value) (ht : P.underlying t = some (.slice e)) (hti : P.underlying ti = some (.int .i64)) (hi : P.info? e = some i) (hz : i.zero = some zv) (hsz : i.size = 1) (hzc : zv.cells = #[zv]) (h1z : zv.oneCell' = true) (hib : i.bytes ≤ 8)
include ht hti hi hz hsz hzc h1z hib
theorem run_app_zeros {g n cap : Nat} {xs : List Value} (hown : w.ownsRow base e 1 (.slice (some ⟨g, 0, none⟩) n cap) n xs) (m : Nat) (hm : 0 < m) (hm2 : m ≤ 1000) (hb : (n + m) * i.bytes ≤ 140737488355328) (h63 : n + m ≤ maxLen) (hbase : base ≤ w.heap.size) :
  ∃ g' c' w', (Builtin.append_ #[t, ti] ty #[.slice (some ⟨g, 0, none⟩) n cap, .int .i64 m]).run P w = .ok (.slice (some ⟨g', 0, none⟩) (n + m) c') w' ∧ w'.ownsRow base e 1 (.slice (some ⟨g', 0, none⟩) (n + m) c') (n + m) (xs ++ List.replicate m zv) ∧ w.grownBy w' (some g) := by
 have hsmall : n + m ≤ 9223372036854775807 := by unfold maxLen at h63; omega
 have hw : IntKind.i64.wrap (m : Int) = (m : Int) := IntWalk.i64_in _ (by omega)
 have hneg : ¬ (m : Int) < 0 := by omega
 have h48a : ¬ (281474976710656 : Int) < (m : Int) * (i.bytes : Int) := by
  have h2 : ((m * i.bytes : Nat) : Int) ≤ ((8000 : Nat) : Int) := Int.ofNat_le.2 (Nat.mul_le_mul hm2 hib)
  rw [Int.natCast_mul] at h2
  omega
 have hm0 : m ≠ 0 := by omega
 have hlx : xs.length = n := by have := hown.1; rw [Nat.mul_one] at this; exact this
 have hzs : zv.cells.size = 1 := by rw [hzc]; rfl
 have hlen : (xs ++ List.replicate m zv).length = (n + m) * 1 := by rw [List.length_append, List.length_replicate, hlx, Nat.mul_one]
 rcases hown.2 with ⟨h1, _⟩ | ⟨g0, cap0, cur, h1, hbg, hg, hnc, hcm, hcs, htake⟩
 ·simp at h1
 ·simp only [Value.slice.injEq, Option.some.injEq, Addr.mk.injEq, and_true, true_and] at h1
  obtain ⟨rfl, rfl⟩ := h1
  by_cases hroom : n + m ≤ cap
  ·have hfit : n * 1 + (List.replicate m zv).length ≤ cur.size := by rw [List.length_replicate, hcs]; omega
   have hst := run_storeCells_at P g (n * 1) e (List.replicate m zv) 0 cur w hg (by simpa using hfit) (fun u hu => by rw [(List.mem_replicate.1 hu).2]; exact h1z)
   simp only [Nat.add_zero, Nat.mul_one, List.length_replicate] at hst
   obtain ⟨R, hR⟩ : ∃ R : Array Value, (cur.toList.take n ++ List.replicate m zv ++ cur.toList.drop (n + m)).toArray = R := ⟨_, rfl⟩
   rw [hR] at hst
   refine ⟨g, cap, w.setRow g R, ?_, ⟨hlen, .inr ⟨g, cap, R, rfl, hbg, setRow_heap w g cur R e _ hg, hroom, hcm, ?_, ?_⟩⟩, ⟨rfl, rfl, rfl, by simp, fun k _ hk => setRow_other w g k _ (fun e => hk (by simp [e]))⟩⟩
   ·simp [Builtin.append_, run_underlying ht, run_underlying hti, sizeOf, typeInfo, zeroValue, hi, hz, hsz, hw, hneg, h48a, hm0, hroom, hzc, zeroCells_one, Addr.add_lit, hst, asInt, asIntOf]
   ·rw [← hR]
    simp only [List.size_toArray, List.length_append, List.length_take, List.length_drop, List.length_replicate, Array.length_toList]
    rw [Nat.mul_one] at hcs ⊢
    omega
   ·rw [← hR, ← hlen]
    rw [Nat.mul_one] at htake
    show List.take _ (cur.toList.take n ++ List.replicate m zv ++ cur.toList.drop (n + m)) = _
    rw [htake]
    exact List.take_left
  ·have holds : ∀ j u, xs[j]? = some u → w.cell? ((⟨g, 0, none⟩ : Addr).add j) = some u := hown.cells (g := g) rfl
   have hge := grownCap_ge w (n + m) cap e
   have hcm2 : grownCap w (n + m) cap e ≤ maxLen := grownCap_le_maxLen w (n + m) cap e h63
   have h63' : ¬ (9223372036854775807 < ((n : Int) + (m : Int))) := by omega
   have h48' : ¬ (281474976710656 < Builtin.nextslicecap (n + m) cap * i.bytes) := by
    have := growslice_fits (old := cap) (need := n + m) (bytes := i.bytes) (by omega) hb
    omega
   have hfo := run_firstCells_some (P := P) w.drew i.size n ⟨g, 0, none⟩ n cap xs (by rw [hsz, Nat.mul_one]; exact hlx) (by simpa using holds)
   rw [hsz] at hfo
   refine ⟨w.heap.size, grownCap w (n + m) cap e, w.drew.alloc (.cells ((xs ++ List.replicate m zv ++ List.replicate (grownCap w (n + m) cap e - (n + m)) zv).toArray) e), ?_, ⟨hlen, .inr ⟨w.heap.size, _, _, rfl, hbase, heap_alloc_new w.drew _, hge, hcm2, ?_, ?_⟩⟩, ⟨rfl, rfl, rfl, by simp, fun k hk _ => heap_alloc_old w.drew _ hk⟩⟩
   ·simp [Builtin.append_, run_underlying ht, run_underlying hti, sizeOf, typeInfo, zeroValue, hi, hz, hsz, hw, hneg, h48a, hm0, hroom, hzc, zeroCells_one, hfo, h63', h48', Question.forced, newRow, grownCap, asInt, asIntOf]
    congr 2
    apply Array.ext'
    simp
   ·rw [Nat.mul_one]
    simp only [List.size_toArray, List.length_append, List.length_replicate, hlx]
    omega
   ·show List.take _ (xs ++ List.replicate m zv ++ List.replicate _ zv) = _
    rw [← hlen]
    exact List.take_left
/-- so many zeros, none or more -/
theorem run_app_made {w0 : World} {g n cap : Nat} {xs : List Value} (hown : w.ownsRow base e 1 (.slice (some ⟨g, 0, none⟩) n cap) n xs) (hE : Ext w0 w) (m : Nat) (hm2 : m ≤ 1000) (hb : (n + m) * i.bytes ≤ 140737488355328) (h63 : n + m ≤ maxLen) (hb0 : w0.heap.size ≤ base) (hbase : base ≤ w.heap.size) :
  ∃ g' c' w', (Builtin.append_ #[t, ti] ty #[.slice (some ⟨g, 0, none⟩) n cap, .int .i64 m]).run P w = .ok (.slice (some ⟨g', 0, none⟩) (n + m) c') w' ∧ w'.ownsRow base e 1 (.slice (some ⟨g', 0, none⟩) (n + m) c') (n + m) (xs ++ List.replicate m zv) ∧ Ext w0 w' := by
 rcases Nat.eq_zero_or_pos m with rfl | hm
 ·exact ⟨g, cap, w, run_app_none base t ti ty e i ht hti hi hown, by simpa using hown, hE⟩
 ·obtain ⟨g', c', w', h1, h2, h3⟩ := run_app_zeros base t ti ty e i zv ht hti hi hz hsz hzc h1z hib hown m hm hm2 hb h63 hbase
  exact ⟨g', c', w', h1, h2, hE.grown h3 (Nat.le_trans hb0 hbase) (fun k hk => Nat.le_trans hb0 ((hown.lt k (by rw [← hk]; rfl)).1))⟩
theorem wpList_app_made {w0 : World} {ops : Array Oper} {rest : List Oper} {o : Oper} {act : Act} {Q : Exit → Act → World → Prop} (hgd : o.guard = none) (s x : Operand)
  (ho : o.op = .call { callee := .builtin .append, args := #[s, x], argTypes := #[t, ti] }) {g n cap : Nat} {xs : List Value} (he : act.eval s = .slice (some ⟨g, 0, none⟩) n cap) (hown : w.ownsRow base e 1 (.slice (some ⟨g, 0, none⟩) n cap) n xs) (hE : Ext w0 w) (m : Nat) (hx : act.eval x = .int .i64 m) (hm2 : m ≤ 1000) (hb : (n + m) * i.bytes ≤ 140737488355328) (h63 : n + m ≤ maxLen) (hb0 : w0.heap.size ≤ base) (hbase : base ≤ w.heap.size)
  (h : ∀ (g' c' : Nat) (w' : World), w'.ownsRow base e 1 (.slice (some ⟨g', 0, none⟩) (n + m) c') (n + m) (xs ++ List.replicate m zv) → Ext w0 w' → wpList P ops Q rest (act.put o.dst (.slice (some ⟨g', 0, none⟩) (n + m) c')) w') : wpList P ops Q (o :: rest) act w := by
 refine wpList_plain hgd fun K hK => ?_
 obtain ⟨g', c', w', hr, h2, h3⟩ := run_app_made base t ti o.type e i zv ht hti hi hz hsz hzc h1z hib hown hE m hm2 hb h63 hb0 hbase
 have hk := hK _ _ (h g' c' w' h2 h3)
 unfold Oper.wp execOp
 simp only [ho, resolve, invoke, builtin, Sem.run_bind, Sem.run_pure, Result.andThen_ok, List.map_toArray, List.map_cons, List.map_nil, he, hx, hr]
 exact hk
end
end Go.Q

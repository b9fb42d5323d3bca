import Derived.Test.YtbcciokmlkofkaaGreatRows
import Derived.Deep.LoopGhost
import Derived.Shelf.Abstract
import Derived.BigQuiet
import Derived.Deep.QuietTactic
import Derived.Test.YtbcciokmlkofkaaGreatWSpec4
import Derived.Test.YtbcciokmlkofkaaGreatWLib
set_option linter.unusedVariables false
set_option linter.unusedSimpArgs false
/- Contracts of the small functions that only reckon: in, Word, Address, Sign, signed, pack, unpack, Written. -/
namespace Go.Proofs.YtbcciokmlkofkaaGreat
open Go.RowKit Go.Q
set_option maxHeartbeats 400000 in
theorem in_any (n l h : Int) (w : World) :
    Calls Tryz.prog 13 #[.int .i64 n, .int .i64 l, .int .i64 h] w fun e w' => e = .returned (.bool (inB n l h)) ∧ w = w' := by
  go_enter Tryz.func13, Tryz.ntmps13
  by_cases h1 : l ≤ n
  · go_wp2
    go_ret
    exact ⟨ret_bool (by simp [inB, h1]), rfl⟩
  · go_wp2
    go_ret
    exact ⟨ret_bool (by rw [inB, decide_eq_false (by omega)]; rfl), rfl⟩
set_option maxHeartbeats 400000 in
theorem word_any (n : Int) (w : World) :
    Calls Tryz.prog 48 #[.int .i64 n] w fun e w' => e = .returned (.bool (wordB n)) ∧ w = w' := by
  go_enter Tryz.func48, Tryz.ntmps48
  go_wp2_with (go_at_call 13; refine (in_any _ _ _ _).mono ?_; rintro e w' ⟨rfl, rfl⟩)
  go_ret
  exact ⟨rfl, rfl⟩
set_option maxHeartbeats 400000 in
theorem address_any (n : Int) (w : World) :
    Calls Tryz.prog 14 #[.int .i64 n] w fun e w' => e = .returned (.bool (addrB n)) ∧ w = w' := by
  go_enter Tryz.func14, Tryz.ntmps14
  go_wp2_with (go_at_call 13; refine (in_any _ _ _ _).mono ?_; rintro e w' ⟨rfl, rfl⟩)
  go_ret
  exact ⟨rfl, rfl⟩
set_option maxHeartbeats 400000 in
theorem signed_any (n : Int) (w : World) (h0 : 0 ≤ n) (h1 : n ≤ 16777215) :
    Calls Tryz.prog 65 #[.int .i64 n] w fun e w' => e = .returned (.int .i64 (sgn n)) ∧ w = w' := by
  go_enter Tryz.func65, Tryz.ntmps65
  go_wp2
  go_ret
  exact ⟨ret_int (by show n - n / 8388608 * 16777216 = sgn n; unfold sgn; split <;> omega), rfl⟩
theorem unpack_any (n : Int) (w : World) (h0 : 0 ≤ n) :
    Calls Tryz.prog 79 #[.int .i64 n] w fun e w' => e = .returned (.tuple #[.int .i64 (n / 128), .int .i64 (n % 128)]) ∧ w = w' := by
  go_enter Tryz.func79, Tryz.ntmps79
  go_wp2
  go_ret2
  exact ⟨ret_int2 rfl (Q.i64_and127 n), rfl⟩
end Go.Proofs.YtbcciokmlkofkaaGreat
/- Contracts: out and its closure, slices.IndexFunc and ContainsFunc at ints, strange, ref Order, odd, Check's closure. -/
namespace Go.Proofs.YtbcciokmlkofkaaGreat
open Go.RowKit Go.Q
set_option maxHeartbeats 400000 in
theorem out1_any (b : Nat) (hi n : Int) (w : World) (h : w.cell? ⟨b, 0, none⟩ = some (.int .i64 hi)) :
    Calls Tryz.prog 78 #[.int .i64 n, .pointer (some ⟨b, 0, none⟩)] w fun e w' => e = .returned (.bool (decide (n < 0) || decide (hi < n))) ∧ Ext w w' := by
  by_cases h0 : n < 0
  · go_enter Tryz.func78, Tryz.ntmps78
    go_wp2
    go_ret
    exact ⟨ret_bool (by simp [h0]), Ext.refl _⟩
  · go_enter Tryz.func78, Tryz.ntmps78
    go_wp2
    go_ret
    exact ⟨ret_bool (by rw [decide_eq_false (by omega : ¬ n < 0)]; rfl), Ext.refl _⟩
set_option maxHeartbeats 1000000 in
theorem index_any (g : Nat) (lb : Array Value) (p : Int → Bool) (a : Option Addr) (n cap : Nat) (xs : List Int) (w : World)
    (eg : ∀ args w, (callFunc g args).run Tryz.prog w = .ok (.enter g args) w) (hp : PredQ Tryz.prog g lb p w)
    (hn : xs.length = n) (hbig : n ≤ 9223372036854775807) (hI : IntsAt w a xs) :
    Calls Tryz.prog 55 #[.slice a n cap, .func (.func g) #[] lb] w fun e w' => e = .returned (.int .i64 (idxQ p xs)) ∧ Ext w w' := by
  rcases hI with rfl | ⟨b, off, rfl, hb, hc⟩
  · obtain rfl : n = 0 := hn.symm
    go_enter Tryz.func55, Tryz.ntmps55
    go_wp2
    go_loopg [5, 8] 0 (fun gg _ s8 wr => s8 = .int .i64 0 ∧ Aside (Ext w wr))
    case atStart => exact ⟨rfl, Ext.refl w⟩
    case round =>
      obtain ⟨rfl, BW⟩ := hrel
      go_wp2
      go_ret
      exact ⟨rfl, BW.out⟩
  · subst hn
    go_enter Tryz.func55, Tryz.ntmps55
    go_wp2
    go_loopg [5, 8] xs.length (fun gg _ s8 wr => ∃ kk : Nat, kk ≤ xs.length ∧ xs.length - kk ≤ gg ∧ s8 = .int .i64 kk ∧ Aside (Ext w wr) ∧ Aside (∀ j, j < kk → p (xs[j]?.getD 0) = false))
    case atStart => exact ⟨0, Nat.zero_le _, by omega, rfl, Ext.refl w, fun j hj => absurd hj (Nat.not_lt_zero _)⟩
    case round =>
      obtain ⟨kk, hkk, hg, rfl, BW, A⟩ := hrel
      by_cases hlt : kk < xs.length
      · have hltz : (kk : Int) < (xs.length : Int) := by omega
        have l2 : wr.cell? ⟨b, off + kk, none⟩ = some (.int .i64 (xs[kk]?.getD 0)) := (BW.out.cell (p := ⟨b, off + kk, none⟩) hb).trans (hc kk hlt)
        have hcall := hp wr (xs[kk]?.getD 0) BW.out
        clear hc hp
        generalize hy : xs[kk]?.getD 0 = y at l2 hcall
        have B : Aside (xs[kk]?.getD 0 = y) := hy
        clear hy
        cases hq : p y with
        | true =>
          rw [hq] at hcall
          go_wp2_with (go_at_fn g; refine hcall.mono ?_; rintro e w' ⟨rfl, hb'⟩)
          go_ret
          refine ⟨?_, hb'⟩
          rw [idxQ_hit p xs kk hlt (by rw [B.out]; exact hq) A.out]
          rfl
        | false =>
          rw [hq] at hcall
          go_wp2_with (go_at_fn g; refine hcall.mono ?_; rintro e w' ⟨rfl, hb'⟩)
          go_roundg (xs.length - (kk + 1))
          case measure => omega
          case rel =>
            refine ⟨kk + 1, by omega, by omega, by go_num, hb', (show Aside _ from fun j hj => ?_)⟩
            by_cases e : j = kk
            · subst e
              rw [B.out]; exact hq
            · exact A.out j (by omega)
      · have hltz : ¬ (kk : Int) < (xs.length : Int) := by omega
        have hkx : kk = xs.length := by omega
        go_wp2
        go_ret
        refine ⟨?_, BW.out⟩
        rw [idxQ_miss p xs (fun j hj => A.out j (by omega))]
        rfl
set_option maxHeartbeats 400000 in
theorem contains_any (g : Nat) (lb : Array Value) (p : Int → Bool) (a : Option Addr) (n cap : Nat) (xs : List Int) (w : World)
    (eg : ∀ args w, (callFunc g args).run Tryz.prog w = .ok (.enter g args) w) (hp : PredQ Tryz.prog g lb p w)
    (hn : xs.length = n) (hbig : n ≤ 9223372036854775807) (hI : IntsAt w a xs) :
    Calls Tryz.prog 19 #[.slice a n cap, .func (.func g) #[] lb] w fun e w' => e = .returned (.bool (xs.any p)) ∧ Ext w w' := by
  have hc := index_any g lb p a n cap xs w eg hp hn hbig hI
  rw [← idxQ_nonneg]
  clear hp hI
  go_enter Tryz.func19, Tryz.ntmps19
  go_wp2_with (go_at_call 55; refine hc.mono ?_; rintro e w' ⟨rfl, hb'⟩)
  go_ret
  exact ⟨rfl, hb'⟩
set_option maxHeartbeats 400000 in
theorem out_any (hi : Int) (a : Option Addr) (n cap : Nat) (xs : List Int) (w : World)
    (hn : xs.length = n) (hbig : n ≤ 9223372036854775807) (hI : IntsAt w a xs) :
    Calls Tryz.prog 62 #[.int .i64 hi, .slice a n cap] w fun e w' => e = .returned (.bool (outB hi xs)) ∧ Ext w w' := by
  have hI' : IntsAt (w.alloc (.cells #[.int .i64 hi] 3)) a xs := hI.ext ((Ext.refl w).alloc _)
  have hp : PredQ Tryz.prog 78 #[.pointer (some ⟨w.heap.size, 0, none⟩)] (fun n => decide (n < 0) || decide (hi < n)) (w.alloc (.cells #[.int .i64 hi] 3)) :=
    fun W x hb => (out1_any w.heap.size hi x W ((hb.cell (p := ⟨w.heap.size, 0, none⟩) (by simp)).trans (by simp))).mono fun e w' ⟨h1, h2⟩ => ⟨h1, hb.comp h2⟩
  have hc := contains_any 78 #[.pointer (some ⟨w.heap.size, 0, none⟩)] (fun n => decide (n < 0) || decide (hi < n)) a n cap xs _ (enters_of Tryz.func78 (by kernel_rfl) rfl) hp hn hbig hI'
  rw [show xs.any (fun n => decide (n < 0) || decide (hi < n)) = outB hi xs from rfl] at hc
  clear hp hI hI' hn
  go_enter Tryz.func62, Tryz.ntmps62
  go_wp2_with (go_at_call 19; refine hc.mono ?_; rintro e w' ⟨rfl, hb'⟩)
  go_ret
  exact ⟨rfl, Ext.comp ((Ext.refl w).alloc _) hb'⟩
theorem out_one (hi x : Int) (b : Nat) (w : World) (hb : b < w.heap.size) (h : w.cell? ⟨b, 0, none⟩ = some (.int .i64 x)) :
    Calls Tryz.prog 62 #[.int .i64 hi, .slice (some ⟨b, 0, none⟩) 1 1] w fun e w' => e = .returned (.bool (!inB x 0 hi)) ∧ Ext w w' := by
  rw [← outB_one]
  exact out_any hi _ 1 1 [x] w rfl (by decide) (.one hb h)
set_option maxHeartbeats 400000 in
theorem check1_any (n : Int) (w : World) :
    Calls Tryz.prog 80 #[.int .i64 n] w fun e w' => e = .returned (.bool (!wordB n)) ∧ Ext w w' := by
  go_enter Tryz.func80, Tryz.ntmps80
  go_wp2_with (go_at_call 62; refine (out_one _ n _ _ (by simp) (by simp)).mono ?_; rintro e w' ⟨rfl, hb'⟩)
  go_ret
  exact ⟨rfl, Ext.comp ((Ext.refl w).alloc _) hb'⟩
end Go.Proofs.YtbcciokmlkofkaaGreat
/- Contracts: decode (both), strange, ref Order, Encode, Decode, Signed (both). -/
namespace Go.Proofs.YtbcciokmlkofkaaGreat
open Go.RowKit Go.Q
/-- an order as a value -/
def ov (o : Ord) : Value := .agg #[.int .i64 o.op, .int .i64 o.frm, .int .i64 o.to, .int .i64 o.nxt]
set_option maxHeartbeats 400000 in
theorem decode_any (n : Int) (w : World) (h0 : 0 ≤ n) :
    Calls Tryz.prog 66 #[.int .i64 n] w fun e w' => e = .returned (.agg #[.int .i64 (decodeQ n).op, .int .i64 (decodeQ n).frm, .int .i64 (decodeQ n).to, .int .i64 (decodeQ n).nxt]) ∧ Ext w w' := by
  have h1 : 0 ≤ n / 128 := by omega
  have h2 : 0 ≤ n / 128 / 128 := by omega
  go_enter Tryz.func66, Tryz.ntmps66
  go_wp2_with (go_at_call 79; refine (unpack_any _ _ (by assumption)).mono ?_; rintro e w' ⟨rfl, rfl⟩)
  refine bodyPost_ret (v := .agg #[.int .i64 (n / 128 / 128 / 128), .int .i64 (n / 128 / 128 % 128), .int .i64 (n / 128 % 128), .int .i64 (n % 128)]) (by simp [results, Tryz.results66, go_sem]) rfl ⟨rfl, (Ext.refl w).alloc _⟩
end Go.Proofs.YtbcciokmlkofkaaGreat

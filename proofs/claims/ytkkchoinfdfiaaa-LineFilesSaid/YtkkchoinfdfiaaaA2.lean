/- Contracts: out and its closure, slices.IndexFunc and ContainsFunc at ints, strange, ref Order, odd, Check's closure. -/
import Derived.Test.YtkkchoinfdfiaaaA1
import Derived.Deep.LoopGhost
import Derived.Shelf.Abstract
set_option linter.unusedVariables false
set_option linter.unusedSimpArgs false
namespace Go.Proofs.Ytkkchoinfdfiaaa
open Go.RowKit Go.Q

set_option maxHeartbeats 1000000 in
theorem index_any (g : Nat) (lb : Array Value) (p : Int → Bool) (a : Option Addr) (n cap : Nat) (xs : List Int) (w : World)
    (eg : ∀ args w, (callFunc g args).run Try.prog w = .ok (.enter g args) w) (hp : PredQ Try.prog g lb p w)
    (hn : xs.length = n) (hbig : n ≤ 9223372036854775807) (hI : IntsAt w a xs) :
    Calls Try.prog 86 #[.slice a n cap, .func (.func g) #[] lb] w fun e w' => e = .returned (.int .i64 (idxQ p xs)) ∧ Ext w w' := by
  rcases hI with rfl | ⟨b, off, rfl, hb, hc⟩
  · obtain rfl : n = 0 := hn.symm
    go_enter Try.func86, Try.ntmps86
    go_wp2
    go_loopg [5, 8] 0 (fun gg _ s8 wr => s8 = .int .i64 0 ∧ Aside (Ext w wr))
    case atStart => exact ⟨rfl, Ext.refl w⟩
    case round =>
      obtain ⟨rfl, BW⟩ := hrel
      go_wp2
      go_ret
      exact ⟨rfl, BW.out⟩
  · subst hn
    go_enter Try.func86, Try.ntmps86
    go_wp2
    go_loopg [5, 8] xs.length (fun gg _ s8 wr => ∃ kk : Nat, kk ≤ xs.length ∧ xs.length - kk ≤ gg ∧ s8 = .int .i64 kk ∧ Aside (Ext w wr) ∧ Aside (∀ j, j < kk → p (xs[j]?.getD 0) = false))
    case atStart => exact ⟨0, Nat.zero_le _, by omega, rfl, Ext.refl w, fun j hj => absurd hj (Nat.not_lt_zero _)⟩
    case round =>
      obtain ⟨kk, hkk, hg, rfl, BW, A⟩ := hrel
      by_cases hlt : kk < xs.length
      · have hltz : (kk : Int) < (xs.length : Int) := by omega
        have l2 : wr.cell? ⟨b, off + kk, none⟩ = some (.int .i64 (xs[kk]?.getD 0)) := (BW.out.cell (p := ⟨b, off + kk, none⟩) hb).trans (hc kk hlt)
        have hcall := hp wr (xs[kk]?.getD 0) BW.out
        clear hc hp
        generalize hy : xs[kk]?.getD 0 = y at l2 hcall
        have B : Aside (xs[kk]?.getD 0 = y) := hy
        clear hy
        cases hq : p y with
        | true =>
          rw [hq] at hcall
          go_wp2_with (go_at_fn g; refine hcall.mono ?_; rintro e w' ⟨rfl, hb'⟩)
          go_ret
          refine ⟨?_, hb'⟩
          rw [idxQ_hit p xs kk hlt (by rw [B.out]; exact hq) A.out]
          rfl
        | false =>
          rw [hq] at hcall
          go_wp2_with (go_at_fn g; refine hcall.mono ?_; rintro e w' ⟨rfl, hb'⟩)
          go_roundg (xs.length - (kk + 1))
          case measure => omega
          case rel =>
            refine ⟨kk + 1, by omega, by omega, by go_num, hb', (show Aside _ from fun j hj => ?_)⟩
            by_cases e : j = kk
            · subst e
              rw [B.out]; exact hq
            · exact A.out j (by omega)
      · have hltz : ¬ (kk : Int) < (xs.length : Int) := by omega
        have hkx : kk = xs.length := by omega
        go_wp2
        go_ret
        refine ⟨?_, BW.out⟩
        rw [idxQ_miss p xs (fun j hj => A.out j (by omega))]
        rfl

set_option maxHeartbeats 400000 in
theorem contains_any (g : Nat) (lb : Array Value) (p : Int → Bool) (a : Option Addr) (n cap : Nat) (xs : List Int) (w : World)
    (eg : ∀ args w, (callFunc g args).run Try.prog w = .ok (.enter g args) w) (hp : PredQ Try.prog g lb p w)
    (hn : xs.length = n) (hbig : n ≤ 9223372036854775807) (hI : IntsAt w a xs) :
    Calls Try.prog 56 #[.slice a n cap, .func (.func g) #[] lb] w fun e w' => e = .returned (.bool (xs.any p)) ∧ Ext w w' := by
  have hc := index_any g lb p a n cap xs w eg hp hn hbig hI
  rw [← idxQ_nonneg]
  clear hp hI
  go_enter Try.func56, Try.ntmps56
  go_wp2_with (go_at_call 86; refine hc.mono ?_; rintro e w' ⟨rfl, hb'⟩)
  go_ret
  exact ⟨rfl, hb'⟩

end Go.Proofs.Ytkkchoinfdfiaaa

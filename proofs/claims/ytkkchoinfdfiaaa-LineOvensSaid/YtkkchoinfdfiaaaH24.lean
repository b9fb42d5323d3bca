/- Contracts of layer 1: Keeps: a search by a predicate that is known at the slice's own numbers; the callbacks. -/
import Derived.Test.YtkkchoinfdfiaaaH19
set_option linter.unusedVariables false
set_option linter.unusedSimpArgs false
namespace Go.Q
/-- what Keeps has found before a minute; and at the end -/
def kpV (u : Nat → Bool) : Nat → Int
  | 0 => -1
  | m + 1 => if u m = true then (m : Int) else kpV u m
def kpF (u : Nat → Bool) (M : Nat) : Int := match (List.range (M + 1)).find? u with | some m => (m : Int) | none => -1
theorem kpV_none {u : Nat → Bool} : ∀ {k : Nat}, (∀ j, j < k → u j = false) → kpV u k = -1
  | 0, _ => rfl
  | k + 1, h => by unfold kpV; rw [if_neg (by rw [h k (by omega)]; simp), kpV_none (fun j hj => h j (by omega))]
theorem kpF_some {u : Nat → Bool} {M k : Nat} (hk : k ≤ M) (hu : u k = true) (h : ∀ j, j < k → u j = false) : kpF u M = k := by
  unfold kpF
  have e : (List.range (M + 1)).find? u = some k := by
    rw [List.find?_range_eq_some]
    exact ⟨hu, List.mem_range.2 (by omega), fun j hj => by rw [h j hj]; rfl⟩
  rw [e]
theorem kpF_none {u : Nat → Bool} {M : Nat} (h : ∀ j, j ≤ M → u j = false) : kpF u M = -1 := by
  unfold kpF
  have e : (List.range (M + 1)).find? u = none := by
    rw [List.find?_range_eq_none]
    exact fun j hj => by rw [h j (by omega)]; rfl
  rw [e]
theorem kp_all {u : Nat → Bool} : ∀ {k : Nat}, (∀ j, j < k → decide (kpV u (j + 1) < 0) = true) → ∀ j, j < k → u j = false := by
  intro k h j hj
  have := h j hj
  cases hu : u j with
  | false => rfl
  | true =>
    unfold kpV at this
    rw [if_pos hu] at this
    have := of_decide_eq_true this
    omega
theorem kp_end {u : Nat → Bool} {M k : Nat} (hk : k ≤ M) (hg : ∀ j, j < k → decide (kpV u (j + 1) < 0) = true) (he : decide (kpV u (k + 1) < 0) = false ∨ k = M) : kpV u (k + 1) = kpF u M := by
  have ha := kp_all hg
  have e0 := kpV_none ha
  cases hu : u k with
  | true =>
    rw [kpF_some hk hu ha]
    unfold kpV
    rw [if_pos hu]
  | false =>
    have e1 : kpV u (k + 1) = -1 := by unfold kpV; rw [if_neg (by rw [hu]; simp), e0]
    rcases he with he | rfl
    · rw [e1] at he; simp at he
    · rw [e1, kpF_none (fun j hj => if h : j = k then h ▸ hu else ha j (by omega))]
/-- a temperature of a minute at which the line may not be safe -/
def unsafeO (l : Ln) (o : Ov) (temp : Sp) (heats : Bool) (m : Nat) : Bool := (statesO o temp heats m).any fun s => !safeL l s.1
def keepsE (l : Ln) (o : Ov) (temp : Sp) (heats : Bool) (minutes : Int) : Int × Int :=
  if checkL l ≠ 0 then (0, checkL l) else if ovenX o temp minutes ≠ 0 then (0, ovenX o temp minutes) else (kpF (unsafeO l o temp heats) minutes.toNat, 0)
end Go.Q
namespace Go.Proofs.Ytkkchoinfdfiaaa
open Go.RowKit Go.Q Go.Shelf Go.Maps

theorem own_shape {w : World} {B t sz n : Nat} {v : Value} {xs : List Value} (h : w.ownsRow B t sz v n xs) : ∃ a c, v = .slice a n c := by
  rcases h.2 with ⟨h1, h2⟩ | ⟨g, cap, cur, h1, h2, h3, _⟩
  · exact ⟨_, _, by rw [h1, h2]⟩
  · exact ⟨_, _, h1⟩
set_option maxHeartbeats 1000000 in
theorem index_in (g : Nat) (lb : Array Value) (p : Int → Bool) (a : Option Addr) (n cap : Nat) (xs : List Int) (w : World)
    (eg : ∀ args w, (callFunc g args).run Try.prog w = .ok (.enter g args) w) (hp : ∀ (W : World) (x : Int), Ext w W → x ∈ xs → Calls Try.prog g (#[.int .i64 x] ++ lb) W fun e w' => e = .returned (.bool (p x)) ∧ Ext w w')
    (hn : xs.length = n) (hbig : n ≤ 9223372036854775807) (hI : IntsAt w a xs) :
    Calls Try.prog 86 #[.slice a n cap, .func (.func g) #[] lb] w fun e w' => e = .returned (.int .i64 (idxQ p xs)) ∧ Ext w w' := by
  rcases hI with rfl | ⟨b, off, rfl, hb, hc⟩
  · obtain rfl : n = 0 := hn.symm
    go_enter Try.func86, Try.ntmps86
    go_wp2
    go_loopg [5, 8] 0 (fun gg _ s8 wr => s8 = .int .i64 0 ∧ Aside (Ext w wr))
    case atStart => exact ⟨rfl, Ext.refl w⟩
    case round =>
      obtain ⟨rfl, BW⟩ := hrel
      go_wp2
      go_ret
      exact ⟨rfl, BW.out⟩
  · subst hn
    go_enter Try.func86, Try.ntmps86
    go_wp2
    go_loopg [5, 8] xs.length (fun gg _ s8 wr => ∃ kk : Nat, kk ≤ xs.length ∧ xs.length - kk ≤ gg ∧ s8 = .int .i64 kk ∧ Aside (Ext w wr) ∧ Aside (∀ j, j < kk → p (xs[j]?.getD 0) = false))
    case atStart => exact ⟨0, Nat.zero_le _, by omega, rfl, Ext.refl w, fun j hj => absurd hj (Nat.not_lt_zero _)⟩
    case round =>
      obtain ⟨kk, hkk, hg, rfl, BW, A⟩ := hrel
      by_cases hlt : kk < xs.length
      · have hltz : (kk : Int) < (xs.length : Int) := by omega
        have l2 : wr.cell? ⟨b, off + kk, none⟩ = some (.int .i64 (xs[kk]?.getD 0)) := (BW.out.cell (p := ⟨b, off + kk, none⟩) hb).trans (hc kk hlt)
        have hcall := hp wr (xs[kk]?.getD 0) BW.out (by rw [List.getElem?_eq_getElem hlt]; exact List.getElem_mem hlt)
        clear hc hp
        generalize hy : xs[kk]?.getD 0 = y at l2 hcall
        have B : Aside (xs[kk]?.getD 0 = y) := hy
        clear hy
        cases hq : p y with
        | true =>
          rw [hq] at hcall
          go_wp2_with (go_at_fn g; refine hcall.mono ?_; rintro e w' ⟨rfl, hb'⟩)
          go_ret
          refine ⟨?_, hb'⟩
          rw [idxQ_hit p xs kk hlt (by rw [B.out]; exact hq) A.out]
          rfl
        | false =>
          rw [hq] at hcall
          go_wp2_with (go_at_fn g; refine hcall.mono ?_; rintro e w' ⟨rfl, hb'⟩)
          go_roundg (xs.length - (kk + 1))
          case measure => omega
          case rel =>
            refine ⟨kk + 1, by omega, by omega, by go_num, hb', (show Aside _ from fun j hj => ?_)⟩
            by_cases e : j = kk
            · subst e
              rw [B.out]; exact hq
            · exact A.out j (by omega)
      · have hltz : ¬ (kk : Int) < (xs.length : Int) := by omega
        have hkx : kk = xs.length := by omega
        go_wp2
        go_ret
        refine ⟨?_, BW.out⟩
        rw [idxQ_miss p xs (fun j hj => A.out j (by omega))]
        rfl
set_option maxHeartbeats 400000 in
theorem contains_in (g : Nat) (lb : Array Value) (p : Int → Bool) (a : Option Addr) (n cap : Nat) (xs : List Int) (w : World)
    (eg : ∀ args w, (callFunc g args).run Try.prog w = .ok (.enter g args) w) (hp : ∀ (W : World) (x : Int), Ext w W → x ∈ xs → Calls Try.prog g (#[.int .i64 x] ++ lb) W fun e w' => e = .returned (.bool (p x)) ∧ Ext w w')
    (hn : xs.length = n) (hbig : n ≤ 9223372036854775807) (hI : IntsAt w a xs) :
    Calls Try.prog 56 #[.slice a n cap, .func (.func g) #[] lb] w fun e w' => e = .returned (.bool (xs.any p)) ∧ Ext w w' := by
  have hc := index_in g lb p a n cap xs w eg hp hn hbig hI
  rw [← idxQ_nonneg]
  clear hp hI
  go_enter Try.func56, Try.ntmps56
  go_wp2_with (go_at_call 86; refine hc.mono ?_; rintro e w' ⟨rfl, hb'⟩)
  go_ret
  exact ⟨rfl, hb'⟩
set_option maxHeartbeats 400000 in
theorem keeps11_any (b : Nat) (l : Ln) (hl : OkL l) (n : Int) (hn : -600 ≤ n ∧ n ≤ 1100) (w : World) (hb : w.heap[b]? = some (.cells #[.int .i64 l.words, .int .i64 l.bits, .int .i64 l.period, .int .i64 l.delay, .int .i64 l.slope, .int .i64 l.window] 25 (0, 0))) :
    Calls Try.prog 78 #[.int .i64 n, .pointer (some ⟨b, 0, none⟩)] w fun e w' => e = .returned (.bool (!safeL l n)) ∧ Ext w w' := by
  have hs := fun W => safe_any l n W hl (by omega)
  have c0 := blk_cell hb 0 (v := .int .i64 l.words) rfl
  have c1 := blk_cell hb 1 (v := .int .i64 l.bits) rfl
  have c2 := blk_cell hb 2 (v := .int .i64 l.period) rfl
  have c3 := blk_cell hb 3 (v := .int .i64 l.delay) rfl
  have c4 := blk_cell hb 4 (v := .int .i64 l.slope) rfl
  have c5 := blk_cell hb 5 (v := .int .i64 l.window) rfl
  generalize safeL l n = r at hs ⊢
  go_enter Try.func78, Try.ntmps78
  go_wp2_with fail
  refine (hs _).mono ?_
  rintro e w1 ⟨rfl, E1⟩
  go_wp2
  go_ret
  exact ⟨rfl, (by repeat (first | with_reducible exact E1 | with_reducible refine Ext.alloc ?_ _ | with_reducible refine Below.drew ?_))⟩
end Go.Proofs.Ytkkchoinfdfiaaa

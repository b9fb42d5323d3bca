/- slices.Backward at bytes; what bytes come to, the last one first. -/
import Derived.Test.YtkkchoinfdfiaaaLR1
import Derived.Test.YtkkchoinfdfiaaaH8
set_option linter.unusedVariables false
set_option linter.unusedSimpArgs false
namespace Go.Q
/-- the number that m bytes are, the least one first -/
def accD : (Nat → Int) → Nat → Int
  | _, 0 => 0
  | f, m + 1 => accD (fun j => f (j + 1)) m * 256 + f 0
theorem accD_congr : ∀ (m : Nat) {f g : Nat → Int}, (∀ j, j < m → f j = g j) → accD f m = accD g m
  | 0, _, _, _ => rfl
  | m + 1, f, g, h => by
    unfold accD
    rw [accD_congr m (fun j hj => h (j + 1) (by omega)), h 0 (by omega)]
theorem accD_bd : ∀ (m : Nat) {f : Nat → Int}, (∀ j, j < m → 0 ≤ f j ∧ f j ≤ 255) → 0 ≤ accD f m ∧ accD f m < 256 ^ m
  | 0, _, _ => by simp [accD]
  | m + 1, f, h => by
    have ih := accD_bd m (f := fun j => f (j + 1)) (fun j hj => h (j + 1) (by omega))
    have h0 := h 0 (by omega)
    unfold accD
    rw [Int.pow_succ]
    omega
/-- the last k of N bytes -/
def accK (f : Nat → Int) (N k : Nat) : Int := accD (fun j => f (N - k + j)) k
theorem accK_zero (f : Nat → Int) (N : Nat) : accK f N 0 = 0 := rfl
theorem accK_succ (f : Nat → Int) {N k : Nat} (hk : k < N) : accK f N (k + 1) = accK f N k * 256 + f (N - 1 - k) := by
  unfold accK
  show accD (fun j => f (N - (k + 1) + (j + 1))) k * 256 + f (N - (k + 1) + 0) = _
  rw [accD_congr k (g := fun j => f (N - k + j)) (fun j _ => by rw [show N - (k + 1) + (j + 1) = N - k + j by omega]), show N - (k + 1) + 0 = N - 1 - k by omega]
theorem accK_all (f : Nat → Int) (N : Nat) : accK f N N = accD f N := by
  unfold accK
  exact accD_congr N (fun j _ => by rw [Nat.sub_self, Nat.zero_add])
theorem accK_bd {f : Nat → Int} {N k : Nat} (hk : k ≤ N) (h : ∀ j, j < N → 0 ≤ f j ∧ f j ≤ 255) : 0 ≤ accK f N k ∧ accK f N k < 256 ^ k :=
  accD_bd k (fun j hj => h _ (by omega))
theorem i64_or256 (n x : Int) (h0 : 0 ≤ n) (h1 : n ≤ 4294967296) (h2 : 0 ≤ x) (h3 : x ≤ 255) : bits .or .i64 (n * 256) x = n * 256 + x :=
  bits_join .i64 62 (by decide) (fun n h0 h1 => by rw [IntKind.wrap_i64]; omega) 8 (n * 256) x (by omega) (by omega) (by omega) (by omega) (by omega) (by omega)
end Go.Q
namespace Go.Proofs.Ytkkchoinfdfiaaa
open Go.RowKit Go.Q Go.Shelf Go.Maps
attribute [local go_sem] Oper.semAt_some

set_option maxRecDepth 100000 in
theorem backU_any (a : Option Addr) (k c : Nat) (w : World) :
    Calls Try.prog 84 #[.slice a k c] w fun e w' => e = .returned (.func (.func 100) #[] #[.pointer (some ⟨w.heap.size, 0, none⟩)]) ∧ w.alloc (.cells #[.slice a k c] 46) = w' := by
  go_enter Try.func84, Try.ntmps84
  go_wp2
  go_ret
  exact ⟨rfl, rfl⟩
set_option maxRecDepth 100000 in
set_option maxHeartbeats 2000000 in
theorem backU_in (n : Nat) (hn : 1 ≤ n) (l Bs b off N : Nat) (f : Nat → Int) (M : Nat → Prop) (hMs : ¬ M Bs) (hMb : ¬ M b) (JJ : Nat → World → Prop) (W : World)
    (hY : ∀ k W, JJ k W → k < N → YieldAt Fence.wide (n - 1) Try.prog l #[.int .i64 ((N - 1 - k : Nat) : Int), .int .u8 (f (N - 1 - k))] W fun e W' => e = .returned (.bool true) ∧ JJ (k + 1) W' ∧ KpM M W W')
    (hB : W.cell? ⟨Bs, 0, none⟩ = some (.slice (some ⟨b, off, none⟩) N N)) (hBs : Bs < W.heap.size) (hb : b < W.heap.size) (hC : ∀ i, i < N → W.cell? ⟨b, off + i, none⟩ = some (.int .u8 (f i))) (hN : N ≤ 400) (h0 : JJ 0 W) :
    CallsIn Fence.wide n Try.prog 100 #[.func (.yield l) #[] #[], .pointer (some ⟨Bs, 0, none⟩)] W fun e W' => (∃ v, e = .returned v) ∧ JJ N W' := by
  have HC := Lib.hid hC
  clear hC
  refine callsIn_of_wp Try.func100 rfl trivial ?_ rfl
  simp only [Try.ntmps100, List.size_toArray, List.length_cons, List.length_nil, Nat.reduceAdd, Nat.reduceSub, Array.replicate_succ, Array.replicate_zero, List.push_toArray, List.append_toArray, List.nil_append, List.cons_append]
  gi_wp2
  gi_loopw [3] (fun i wr => ∃ m : Nat, m ≤ N ∧ (∃ z : Int, z = (N : Int) - 1 - (m : Int) ∧ i = .int .i64 z) ∧ JJ m wr ∧ KpM M W wr) (fun i _ => (intOf i + 1).toNat)
  case atStart => exact ⟨0, by omega, ⟨(N : Int) - 1, by omega, rfl⟩, h0, KpM.refl _ _⟩
  case round =>
    obtain ⟨m, hm, ⟨z, hz, rfl⟩, hJs, hnx⟩ := hrel
    have hcs := (hnx.cell (o := 0) hBs hMs).trans hB
    by_cases hlt : m < N
    · obtain ⟨j, rfl⟩ : ∃ j : Nat, z = j := ⟨N - 1 - m, by omega⟩
      have hj : j < N := by omega
      have hjm : N - 1 - m = j := by omega
      have hcb := (hnx.cell (o := off + j) hb hMb).trans (HC.out j hj)
      obtain ⟨fn, tmps, assign, body, hy, hR⟩ := hY m wr hJs hlt
      rw [hjm] at hy
      have HZ := Lib.hid hz
      clear hjm hz
      have hj0 : (0 : Int) ≤ (j : Int) := by omega
      gi_wp2
      refine hR.mono ?_
      rintro e W3 ⟨rfl, hJ3, hk3⟩
      gi_wp2
      go_roundw
      case rel => exact ⟨m + 1, by omega, ⟨_, by have := HZ.out; omega, rfl⟩, hJ3, hnx.trans hk3⟩
      case measure => simp [intOf]
    · obtain rfl : m = N := by omega
      obtain rfl : z = -1 := by omega
      gi_wp2
      go_end0
      exact ⟨⟨_, rfl⟩, hJs⟩
end Go.Proofs.Ytkkchoinfdfiaaa

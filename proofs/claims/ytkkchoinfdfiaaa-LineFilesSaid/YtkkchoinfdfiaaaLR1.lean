/- Contracts of layer 1's Read: must, take, what catches a panic. -/
import Derived.Test.YtkkchoinfdfiaaaH22
import Derived.Defers
import Derived.Recover
import Derived.RecoverIn
import Derived.Laws.Pointers
set_option linter.unusedVariables false
set_option linter.unusedSimpArgs false
namespace Go.Proofs.Ytkkchoinfdfiaaa
open Go.RowKit Go.Q Go.Shelf Go.Maps

/-- a panic with an error -/
def errP (x : Int) : List PanicEntry := [{ v := .iface 27 (.int .i64 x), recovered := false }]
theorem must_ok (x : Int) (w : World) : Calls Try.prog 82 #[.bool true, .int .i64 x] w fun e w' => e = .returned (.tuple #[]) ∧ w = w' := by
  go_enter Try.func82, Try.ntmps82
  go_wp2
  first | (go_end0; exact ⟨rfl, rfl⟩) | exact bodyPost_ret (v := .tuple #[]) (by simp [results, Try.results82, go_sem]) rfl ⟨rfl, rfl⟩
theorem must_bad (x : Int) (w : World) : Calls Try.prog 82 #[.bool false, .int .i64 x] w fun e w' => e = .panicked (errP x) ∧ w = w' := by
  go_enter Try.func82, Try.ntmps82
  go_wp2
  exact ⟨rfl, rfl, rfl⟩
/-- bytes in an old block -/
def BytesL (w : World) (lim : Nat) (a : Option Addr) (xs : List Int) : Prop := xs = [] ∨ ∃ b off, a = some ⟨b, off, none⟩ ∧ b < lim ∧ b < w.heap.size ∧ ∀ i, i < xs.length → w.cell? ⟨b, off + i, none⟩ = some (.int .u8 (xs[i]?.getD 0))
theorem BytesL.of {w W : World} {a : Option Addr} {xs : List Int} (h : BytesAt w a xs) (E : Ext w W) : BytesL W w.heap.size a xs := by
  rcases h with h | ⟨b, off, ha, hb, hc⟩
  · exact .inl h
  · exact .inr ⟨b, off, ha, hb, Nat.lt_of_lt_of_le hb E.size, fun i hi => (E.cell (p := ⟨b, off + i, none⟩) hb).trans (hc i hi)⟩
theorem bytesL_put {w : World} {b off rb lim : Nat} {v : Value} {xs : List Int} (hne : b ≠ rb) (h : BytesL w lim (some ⟨b, off, none⟩) xs) : BytesL (w.setCell ⟨rb, 0, none⟩ v) lim (some ⟨b, off, none⟩) xs := by
  rcases h with h | ⟨b', off', e, hm, hb, hc⟩
  · exact .inl h
  · cases e
    exact .inr ⟨b, off, rfl, hm, by rw [World.size_setCell]; exact hb, fun i hi => (World.cell?_of_block (w := w) (Below.heap_setCell _ _ _ _ hne)).trans (hc i hi)⟩
theorem bytesL_drop {w : World} {b off lim : Nat} {xs : List Int} {k : Nat} (hm : b < lim) (hb : b < w.heap.size) (hc : ∀ i, i < xs.length → w.cell? ⟨b, off + i, none⟩ = some (.int .u8 (xs[i]?.getD 0))) : BytesL w lim (some ⟨b, off + k, none⟩) (xs.drop k) := by
  refine .inr ⟨b, off + k, rfl, hm, hb, fun i hi => ?_⟩
  rw [List.length_drop] at hi
  have := hc (k + i) (by omega)
  rw [Nat.add_assoc, this, List.getElem?_drop]
/-- what is left of a file -/
structure Left (w : World) (rb : Nat) (xs : List Int) (c lim : Nat) : Prop where
  cap : xs.length ≤ c
  big : c ≤ 9223372036854775807
  at_ : ∃ a, w.heap[rb]? = some (.cells #[.slice a xs.length c] 112 (0, 0)) ∧ BytesL w lim a xs
theorem take_bad (rb : Nat) (xs : List Int) (c lim k : Nat) (w : World) (h : Left w rb xs c lim) (hk : xs.length < k) (hk2 : k ≤ 400) :
    Calls Try.prog 83 #[.pointer (some ⟨rb, 0, none⟩), .int .i64 k] w fun e w' => e = .panicked (errP 6) ∧ w = w' := by
  obtain ⟨a, hb, hI⟩ := h.at_
  have hcc := blk_cell hb 0 (v := .slice a xs.length c) rfl
  have hcap := h.cap
  have hbig := h.big
  obtain ⟨n, hn⟩ : ∃ n, xs.length = n := ⟨_, rfl⟩
  rw [hn] at hcc hk hcap
  have d1 : decide ((k : Int) ≤ (n : Int)) = false := decide_eq_false (by omega)
  have d2 : decide (k ≤ n) = false := decide_eq_false (by omega)
  clear hn hb hI h
  go_enter Try.func83, Try.ntmps83
  go_wp2_with (go_at_call 82; refine (must_bad _ _).mono ?_; rintro e w' ⟨rfl, rfl⟩)
  exact ⟨rfl, rfl, rfl⟩
theorem take_ok (rb : Nat) (xs : List Int) (c lim k : Nat) (w : World) (h : Left w rb xs c lim) (h1 : 1 ≤ k) (hk : k ≤ xs.length) :
    Calls Try.prog 83 #[.pointer (some ⟨rb, 0, none⟩), .int .i64 k] w fun e w' => ∃ b off v, e = .returned (.slice (some ⟨b, off, none⟩) k k) ∧ w' = w.setCell ⟨rb, 0, none⟩ v ∧ b < w.heap.size ∧ (∀ i, i < k → w.cell? ⟨b, off + i, none⟩ = some (.int .u8 (xs[i]?.getD 0))) ∧ Left w' rb (xs.drop k) (c - k) lim ∧ b ≠ rb ∧ b < lim := by
  obtain ⟨a, hb, hI⟩ := h.at_
  have hcc := blk_cell hb 0 (v := .slice a xs.length c) rfl
  have hff := blk_free hb 0
  have hcap := h.cap
  have hbig := h.big
  rcases hI with e | ⟨b, off, rfl, hbm, hbl, hc⟩
  · rw [e] at hk; simp at hk; omega
  obtain ⟨n, hn⟩ : ∃ n, xs.length = n := ⟨_, rfl⟩
  have HN := Lib.hid hn
  have HC := Lib.hid hc
  have HB := Lib.hid hb
  have hne : b ≠ rb := by
    intro e
    subst e
    have h0 := HC.out 0 (by omega)
    simp only [World.cell?, HB.out] at h0
    rcases off with _ | off <;> simp at h0
  rw [hn] at hcc hk hcap
  have d1 : decide ((k : Int) ≤ (n : Int)) = true := decide_eq_true (by omega)
  have d2 : decide (k ≤ n) = true := decide_eq_true (by omega)
  clear hn hc hb h
  by_cases hck : c = k
  · subst hck
    obtain rfl : n = c := by omega
    go_enter Try.func83, Try.ntmps83
    go_wp2_with (go_at_call 82; refine (must_ok _ _).mono ?_; rintro e w' ⟨rfl, rfl⟩)
    refine bodyPost_ret (v := .slice (some ⟨b, off, none⟩) n n) (by simp [results, Try.results83, go_sem]) rfl ⟨b, off, _, rfl, rfl, hbl, fun i hi => HC.out i (by rw [HN.out]; exact hi), ?_, ?_⟩
    · refine ⟨by rw [List.length_drop, HN.out]; omega, by omega, some ⟨b, off, none⟩, ?_, .inl (by rw [List.drop_eq_nil_iff, HN.out]; exact Nat.le_refl _)⟩
      have := heap_setCell_same w rb 0 _ _ (.slice (some ⟨b, off, none⟩) 0 0) HB.out
      rw [List.length_drop, HN.out, Nat.sub_self]
      simpa using this
    · exact ⟨hne, hbm⟩
  · go_enter Try.func83, Try.ntmps83
    go_wp2_with (go_at_call 82; refine (must_ok _ _).mono ?_; rintro e w' ⟨rfl, rfl⟩)
    refine bodyPost_ret (v := .slice (some ⟨b, off, none⟩) k k) (by simp [results, Try.results83, go_sem]) rfl ⟨b, off, _, rfl, rfl, hbl, fun i hi => HC.out i (by rw [HN.out]; omega), ?_, hne, hbm⟩
    refine ⟨by rw [List.length_drop, HN.out]; omega, by omega, some ⟨b, off + k, none⟩, ?_, bytesL_put hne (bytesL_drop hbm hbl HC.out)⟩
    have := heap_setCell_same w rb 0 _ _ (.slice (some ⟨b, off + k, none⟩) (n - k) (c - k)) HB.out
    rw [List.length_drop, HN.out]
    simpa using this
/-- what catches a panic: the four results -/
structure Caught (b0 : Nat) (x : Int) (w w' : World) : Prop where
  os : w'.os = w.os
  tape : w'.tape = w.tape
  output : w'.output = w.output
  size : w'.heap.size = w.heap.size
  c0 : w'.cell? ⟨b0, 0, none⟩ = some (.int .i64 0)
  c1 : w'.cell? ⟨b0 + 1, 0, none⟩ = some (.int .i64 0)
  c2 : w'.cell? ⟨b0 + 1 + 1, 0, none⟩ = some (.slice none 0 0)
  c3 : w'.cell? ⟨b0 + 1 + 1 + 1, 0, none⟩ = some (.int .i64 x)
  block : ∀ k, k < b0 → w'.heap[k]? = w.heap[k]?
theorem read_idle (b0 : Nat) (w : World) (n : Nat) :
    CallsDIn Fence.wide n Try.prog 81 #[.pointer (some ⟨b0, 0, none⟩), .pointer (some ⟨b0 + 1, 0, none⟩), .pointer (some ⟨b0 + 1 + 1, 0, none⟩), .pointer (some ⟨b0 + 1 + 1 + 1, 0, none⟩)] .returning w fun e u' w' => e = .returned (.tuple #[]) ∧ u' = .returning ∧ w' = w := by
  refine callsDIn_of_wpSIn Try.func81 rfl trivial fun c₀ cs hu => ?_
  apply wpSIn_seq
  apply wpSIn_region
  simp [wpOpsSIn, go_sem, recoverD, hu, Try.ntmps81, Exit.thenS]
  apply wpSIn_seq
  apply wpSIn_region
  simp [wpOpsSIn, go_sem, Exit.thenS, Array.replicate]
  refine wpSIn_cond (t := false) (by simp [Act.eval, Array.replicate]) ?_
  simp only [Bool.false_eq_true, if_false]
  refine wpSIn_of_wpIn rfl (wpIn_skip ?_)
  cases c₀
  simp_all [bodyPostS, results, Try.results81]
theorem assertErr (v : Value) (xT : TypeId) (w : World) : (Instr.typeAssert (.iface 27 v) xT 27 false).run Try.prog w = .ok v w := by
  simp [Instr.typeAssert, run_underlying Try.underlying27, go_sem, Result.andThen]
theorem read_caught (b0 : Nat) (x : Int) (w : World) (n : Nat) (h0 : ∃ u, w.cell? ⟨b0, 0, none⟩ = some u ∧ w.frozen? ⟨b0, 0, none⟩ = false) (h1 : ∃ u, w.cell? ⟨b0 + 1, 0, none⟩ = some u ∧ w.frozen? ⟨b0 + 1, 0, none⟩ = false) (h2 : ∃ u, w.cell? ⟨b0 + 1 + 1, 0, none⟩ = some u ∧ w.frozen? ⟨b0 + 1 + 1, 0, none⟩ = false) (h3 : ∃ u, w.cell? ⟨b0 + 1 + 1 + 1, 0, none⟩ = some u ∧ w.frozen? ⟨b0 + 1 + 1 + 1, 0, none⟩ = false) :
    CallsDIn Fence.wide n Try.prog 81 #[.pointer (some ⟨b0, 0, none⟩), .pointer (some ⟨b0 + 1, 0, none⟩), .pointer (some ⟨b0 + 1 + 1, 0, none⟩), .pointer (some ⟨b0 + 1 + 1 + 1, 0, none⟩)] (.panicking (errP x)) w fun e u' w' => e = .returned (.tuple #[]) ∧ settle u' = .returning ∧ Caught b0 x w w' := by
  obtain ⟨u0, a0, f0⟩ := h0
  obtain ⟨u1, a1, f1⟩ := h1
  obtain ⟨u2, a2, f2⟩ := h2
  obtain ⟨u3, a3, f3⟩ := h3
  refine callsDIn_of_wpSIn Try.func81 rfl trivial fun c₀ cs hu => ?_
  apply wpSIn_seq
  apply wpSIn_region
  simp [wpOpsSIn, go_sem, recoverD, hu, Try.ntmps81, Exit.thenS, errP]
  apply wpSIn_seq
  apply wpSIn_region
  simp [wpOpsSIn, go_sem, Exit.thenS, Array.replicate]
  refine wpSIn_cond (t := true) (by simp [Act.eval, Array.replicate]) ?_
  simp only [if_true]
  refine wpSIn_of_wpIn rfl ?_
  clear hu
  refine wpIn_wide.2 ?_
  have hta := assertErr
  go_region
  have hC : Caught b0 x w ((((w.setCell ⟨b0, 0, none⟩ (.int .i64 0)).setCell ⟨b0 + 1, 0, none⟩ (.int .i64 0)).setCell ⟨b0 + 1 + 1, 0, none⟩ (.slice none 0 0)).setCell ⟨b0 + 1 + 1 + 1, 0, none⟩ (.int .i64 x)).drew := by
    refine ⟨rfl, rfl, rfl, ?_, ?_, ?_, ?_, ?_, fun k hk => ?_⟩
    · simp [World.setCell]
    · simp [go_sem, a0]
    · simp [go_sem, a1]
    · simp [go_sem, a2]
    · simp [go_sem, a3]
    · show ((((w.setCell ⟨b0, 0, none⟩ (.int .i64 0)).setCell ⟨b0 + 1, 0, none⟩ (.int .i64 0)).setCell ⟨b0 + 1 + 1, 0, none⟩ (.slice none 0 0)).setCell ⟨b0 + 1 + 1 + 1, 0, none⟩ (.int .i64 x)).heap[k]? = _
      rw [Below.heap_setCell _ _ _ _ (by show k ≠ b0 + 1 + 1 + 1; omega), Below.heap_setCell _ _ _ _ (by show k ≠ b0 + 1 + 1; omega), Below.heap_setCell _ _ _ _ (by show k ≠ b0 + 1; omega), Below.heap_setCell _ _ _ _ (by show k ≠ b0; omega)]
  clear a0 a1 a2 a3 f0 f1 f2 f3 hta
  generalize ((((w.setCell ⟨b0, 0, none⟩ (.int .i64 0)).setCell ⟨b0 + 1, 0, none⟩ (.int .i64 0)).setCell ⟨b0 + 1 + 1, 0, none⟩ (.slice none 0 0)).setCell ⟨b0 + 1 + 1 + 1, 0, none⟩ (.int .i64 x)).drew = W at *
  simp [bodyPostS, results, Try.results81, settle, hC]
end Go.Proofs.Ytkkchoinfdfiaaa

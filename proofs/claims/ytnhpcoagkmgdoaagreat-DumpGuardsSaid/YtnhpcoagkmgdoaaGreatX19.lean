import Derived.OrdersHeld
import Derived.BigQuiet
import Derived.Test.YtnhpcoagkmgdoaaGreatX17
import Derived.Test.YtnhpcoagkmgdoaaGreatX13
import Derived.Test.YtnhpcoagkmgdoaaGreatX8
set_option linter.unusedVariables false
set_option linter.unusedSimpArgs false
/- Layer 10: what looks at words; what catches a word that is noticed. -/
namespace Go.Proofs.YtnhpcoagkmgdoaaGreat
open Go.RowKit Go.Q Go.Shelf Go.Maps
set_option maxHeartbeats 4000000
set_option maxRecDepth 100000
def lostP (x : Int) : List PanicEntry := [{ v := .iface 126 (.int .i64 x), recovered := false }]
theorem shut_any (m : Nat) (a : Int) (w : World) : Calls Tryz.prog 134 #[.agg #[], .pointer (some ⟨m, 0, none⟩), .int .i64 a] w fun e w' => e = .returned (.tuple #[]) ∧ Ext w w' := by
 go_enter Tryz.func134, Tryz.ntmps134
 go_wp2
 go_end0
 exact ⟨rfl, (by repeat (first | with_reducible exact Ext.refl w | with_reducible refine Ext.alloc ?_ _ | with_reducible refine Below.drew ?_))⟩
theorem sharp_ok (m mb p : Nat) (L : List Loss) (x : Lm) (w : World) {ex : Nat → Prop} (h : LinAt w m mb L x ex) (hp : p < 128) (hb : x.bad[p]?.getD false = false) :
  Calls Tryz.prog 133 #[.agg #[], .pointer (some ⟨m, 0, none⟩), .int .i64 (p : Int)] w fun e w' => e = .returned (.tuple #[]) ∧ Ext w w' := by
 obtain ⟨a1, a2, a3, c1, c2, c3, hB, _⟩ := h
 have hc := fun ob => (hB.ext ((Ext.refl w).alloc ob)).cb p hp
 rw [hb] at hc
 have hpz : (0 : Int) ≤ (p : Int) := by omega
 have hpn : (p : Int) < 128 := by omega
 go_enter Tryz.func133, Tryz.ntmps133
 go_wp2
 go_end0
 exact ⟨rfl, (by repeat (first | with_reducible exact Ext.refl w | with_reducible refine Ext.alloc ?_ _ | with_reducible refine Below.drew ?_))⟩
theorem sharp_bad (m mb p : Nat) (L : List Loss) (x : Lm) (w : World) {ex : Nat → Prop} (h : LinAt w m mb L x ex) (hp : p < 128) (hb : x.bad[p]?.getD false = true) :
  Calls Tryz.prog 133 #[.agg #[], .pointer (some ⟨m, 0, none⟩), .int .i64 (p : Int)] w fun e w' => e = .panicked (lostP p) ∧ Ext w w' := by
 obtain ⟨a1, a2, a3, c1, c2, c3, hB, _⟩ := h
 have hc := fun ob => (hB.ext ((Ext.refl w).alloc ob)).cb p hp
 rw [hb] at hc
 have hpz : (0 : Int) ≤ (p : Int) := by omega
 have hpn : (p : Int) < 128 := by omega
 go_enter Tryz.func133, Tryz.ntmps133
 go_wp2
 exact ⟨rfl, rfl, (by repeat (first | with_reducible exact Ext.refl w | with_reducible refine Ext.alloc ?_ _ | with_reducible refine Below.drew ?_))⟩
theorem assertLost (v : Value) (xT : TypeId) (w : World) : (Instr.typeAssert (.iface 126 v) xT 126 false).run Tryz.prog w = .ok v w := by
 simp [Instr.typeAssert, run_underlying Tryz.underlying126, go_sem, Result.andThen]
theorem step_idle (b0 : Nat) (w : World) (n : Nat) :
  CallsDIn Fence.wide n Tryz.prog 70 #[.pointer (some ⟨b0, 0, none⟩)] .returning w fun e u' w' => e = .returned (.tuple #[]) ∧ u' = .returning ∧ w' = w := by
 refine callsDIn_of_wpSIn Tryz.func70 rfl trivial fun c₀ cs hu => ?_
 apply wpSIn_seq
 apply wpSIn_region
 simp [wpOpsSIn, go_sem, recoverD, hu, Tryz.ntmps70, Exit.thenS]
 apply wpSIn_seq
 apply wpSIn_region
 simp [wpOpsSIn, go_sem, Exit.thenS, Array.replicate]
 refine wpSIn_cond (t := false) (by simp [Act.eval, Array.replicate]) ?_
 simp only [Bool.false_eq_true, if_false]
 refine wpSIn_of_wpIn rfl (wpIn_skip ?_)
 cases c₀
 simp_all [bodyPostS, results, Tryz.results70]
theorem step_caught (b0 : Nat) (x : Int) (u : Value) (w : World) (n : Nat) (h0 : w.heap[b0]? = some (.cells #[u] 3 (0, 0))) :
  CallsDIn Fence.wide n Tryz.prog 70 #[.pointer (some ⟨b0, 0, none⟩)] (.panicking (lostP x)) w fun e u' w' => e = .returned (.tuple #[]) ∧ settle u' = .returning ∧ w'.heap[b0]? = some (.cells #[.int .i64 x] 3 (0, 0)) ∧ KpM (fun q => q = b0) w w' := by
 refine callsDIn_of_wpSIn Tryz.func70 rfl trivial fun c₀ cs hu => ?_
 apply wpSIn_seq
 apply wpSIn_region
 simp [wpOpsSIn, go_sem, recoverD, hu, Tryz.ntmps70, Exit.thenS, lostP]
 apply wpSIn_seq
 apply wpSIn_region
 simp [wpOpsSIn, go_sem, Exit.thenS, Array.replicate]
 refine wpSIn_cond (t := true) (by simp [Act.eval, Array.replicate]) ?_
 simp only [if_true]
 refine wpSIn_of_wpIn rfl ?_
 clear hu
 refine wpIn_wide.2 ?_
 have hta := assertLost
 have c0 := cell_of_cells h0 0 (v := u) rfl
 have f0 := free_of_cells h0 0
 go_wp2
 have e := cells_set h0 0 (.int .i64 x)
 have k := kpm_set (M := fun q => q = b0) w b0 0 (.int .i64 x) rfl
 clear h0 c0 f0 hta
 generalize w.setCell ⟨b0, 0, none⟩ (.int .i64 x) = W at *
 simp [bodyPostS, results, Tryz.results70, settle, k]
 simpa using e
end Go.Proofs.YtnhpcoagkmgdoaaGreat
/- A region that draws its order: what is read is taken first, by a condition on the world that holds till the last operations (those of Z, which all that are taken go ahead of). -/
namespace Go.Q
open Go Go.RowKit
section
variable {P : Program} {ops : Array Oper} {Q : Exit → Act → World → Prop} {md : Region.Mode} {S : World → Prop} {Z : Nat → Bool}
/-- whatever order is picked; S holds behind each operation but those of Z -/
def wpAnyZ (P : Program) (md : Region.Mode) (ops : Array Oper) (Q : Exit → Act → World → Prop) (Z : Nat → Bool) (S : World → Prop) : Nat → Array Bool → Act → World → Prop
 | 0, listed, a, w => Region.ready md ops listed = [] ∧ Q .normal a w
 | n + 1, listed, a, w => (Region.ready md ops listed = [] → Q .normal a w) ∧ ∀ i ∈ Region.ready md ops listed, wpOp P ops Q i (fun a' w' => (Z i = true ∨ S w') ∧ wpAnyZ P md ops Q Z S n (listed.setIfInBounds i true) a' w') a w
theorem wpAny_of_Z : ∀ (n : Nat) (listed : Array Bool) (a : Act) (w : World), wpAnyZ P md ops Q Z S n listed a w → wpAny P md ops Q n listed a w
 | 0, _, _, _, h => h
 | n + 1, _, _, _, h => ⟨h.1, fun i hi => wpOp_mono (fun _ _ h' => wpAny_of_Z n _ _ _ h'.2) (h.2 i hi)⟩
/-- operation z waits for operation i -/
def waitsFor (md : Region.Mode) (ops : Array Oper) (z i : Nat) : Bool := ((ops[z]?).map fun o => o.after.any fun e => e.on == i && Region.binds md e).getD false
theorem ready_not {listed : Array Bool} {i : Nat} (h : i ∈ Region.ready md ops listed) : listed.getD i true = false := (mem_ready.1 h).1
theorem z_waits {listed : Array Bool} {z i : Nat} (hz : waitsFor md ops z i = true) (h : z ∈ Region.ready md ops listed) (hi : listed.getD i true = false) : False := by
 obtain ⟨_, oz, hoz, hall⟩ := mem_ready.1 h
 unfold waitsFor at hz
 rw [hoz] at hz
 simp only [Option.map_some, Option.getD_some, Array.any_eq_true, Bool.and_eq_true, beq_iff_eq] at hz
 obtain ⟨k, hk, he, hb⟩ := hz
 have := hall _ (Array.getElem_mem hk) hb
 rw [he] at this
 rcases Nat.lt_or_ge i listed.size with h' | h'
 ·simp [h'] at hi this; rw [hi] at this; cases this
 ·simp [Array.getElem?_eq_none h'] at this
def allWait (md : Region.Mode) (ops : Array Oper) (Z : Nat → Bool) (i : Nat) : Bool := (List.range ops.size).all fun z => !Z z || waitsFor md ops z i
theorem Z_waits {listed : Array Bool} {i j : Nat} (hz : allWait md ops Z i = true) (h : j ∈ Region.ready md ops listed) (hj : Z j = true) (hi : listed.getD i true = false) : False := by
 obtain ⟨_, oz, hoz, _⟩ := mem_ready.1 h
 have hl : j < ops.size := (Array.getElem?_eq_some_iff.1 hoz).1
 have := List.all_eq_true.1 hz j (List.mem_range.2 hl)
 rw [hj] at this
 exact z_waits (by simpa using this) h hi
theorem wpAnyZ_first {i : Nat} {oi : Oper} {v : Value} (hi : ops[i]? = some oi) (hsel : ∀ (j : Nat) (o : Oper) cs b, ops[j]? = some o → o.op ≠ .select cs b) (hQ : ∀ c a w, Q (.panic c) (a.put oi.dst v) w → Q (.panic c) a w) (hz : allWait md ops Z i = true) :
  ∀ (n : Nat) (listed : Array Bool) (a : Act) (w : World), (∀ j oj, ops[j]? = some oj → j ≠ i → listed.getD j true = false → (∀ e ∈ oj.after, Region.binds md e = true → e.on ≠ i) → oi.apart ops oj = true) →
   i ∈ Region.ready md ops listed → YieldsIf P ops S oi v a → S w → wpAnyZ P md ops Q Z S n (listed.setIfInBounds i true) (a.put oi.dst v) w → wpAnyZ P md ops Q Z S (n + 1) listed a w
 | n, listed, a, w, hfree, hr, hy, hS, H => by
  refine ⟨fun h => (by rw [h] at hr; cases hr), fun j hj => ?_⟩
  by_cases hji : j = i
  ·subst hji; exact hy.wpOp hi hS ⟨.inr hS, H⟩
  ·have hjr := ready_mono hj hji
   cases n with
   | zero => rw [H.1] at hjr; cases hjr
   | succ n =>
    have h1 := H.2 j hjr
    obtain ⟨hjun, oj, hoj, hall⟩ := mem_ready.1 hj
    have hun := ready_not hr
    have hnot : ∀ e ∈ oj.after, Region.binds md e = true → e.on ≠ i := fun e he hb heq => by
     have h1 := hall e he hb
     rw [heq] at h1
     rcases Nat.lt_or_ge i listed.size with h' | h'
     ·simp [h'] at hun h1; rw [hun] at h1; cases h1
     ·simp [Array.getElem?_eq_none h'] at h1
    have h2 := wpOp_putIf hoj (hfree j oj hoj hji hjun hnot) (fun cs b => hsel i oi cs b hi) (fun cs b => hsel j oj cs b hoj) hQ hy h1
    refine wpOp_mono (fun a' w' h3 => ?_) h2
    have hS' : S w' := h3.2.1.resolve_left fun e => Z_waits hz hj e hun
    refine ⟨.inr hS', wpAnyZ_first hi hsel hQ hz n (listed.setIfInBounds j true) a' w' (fun k ok hk hki hun2 hno => hfree k ok hk hki ?_ hno) (ready_mono hr (Ne.symm hji)) h3.1 hS' ?_⟩
    ·by_cases hjk : j = k
     ·subst hjk; exact hjun
     ·rw [getD_set_ne true hjk] at hun2; exact hun2
    ·rw [Array.setIfInBounds_comm _ _ hji]
     exact h3.2.2
theorem wpAnyZ_take {i : Nat} {oi : Oper} {v : Value} {n : Nat} {listed : Array Bool} {a : Act} {w : World} (hi : ops[i]? = some oi) (hs : Region.noSelect ops = true) (hz : allWait md ops Z i = true) (hf : Region.free md ops listed i = true) (hr : (Region.ready md ops listed).contains i = true)
  (hQ : ∀ c a w, Q (.panic c) (a.put oi.dst v) w → Q (.panic c) a w) (hy : YieldsIf P ops S oi v a) (hS : S w) (h : wpAnyZ P md ops Q Z S n (listed.setIfInBounds i true) (a.put oi.dst v) w) : wpAnyZ P md ops Q Z S (n + 1) listed a w :=
 wpAnyZ_first hi (Region.noSelect_spec hs) hQ hz n listed a w (Region.free_spec hi hf) (by simpa using hr) hy hS h
/-- that operation i may be taken first -/
def tkOk (md : Region.Mode) (ops : Array Oper) (Z : Nat → Bool) (listed : Array Bool) (i : Nat) : Bool := Region.noSelect ops && allWait md ops Z i && Region.free md ops listed i && (Region.ready md ops listed).contains i
theorem tk {n : Nat} {listed : Array Bool} {a : Act} {w : World} (i : Nat) (oi : Oper) (v : Value) (hi : ops[i]? = some oi) (hk : tkOk md ops Z listed i = true) (hQ : ∀ c a w, Q (.panic c) (a.put oi.dst v) w → Q (.panic c) a w) (hy : YieldsIf P ops S oi v a) (hS : S w)
  (h : wpAnyZ P md ops Q Z S n (listed.setIfInBounds i true) (a.put oi.dst v) w) : wpAnyZ P md ops Q Z S (n + 1) listed a w := by
 unfold tkOk at hk
 simp only [Bool.and_eq_true] at hk
 exact wpAnyZ_take hi hk.1.1.1 hk.1.1.2 hk.1.2 hk.2 hQ hy hS h
/-- what reads no world, among the last ones -/
theorem wpAnyZ_firstP {i : Nat} {oi : Oper} {v : Value} (hi : ops[i]? = some oi) (hsel : ∀ (j : Nat) (o : Oper) cs b, ops[j]? = some o → o.op ≠ .select cs b) (hQ : ∀ c a w, Q (.panic c) (a.put oi.dst v) w → Q (.panic c) a w) (hz : Z i = true) :
  ∀ (n : Nat) (listed : Array Bool) (a : Act) (w : World), (∀ j oj, ops[j]? = some oj → j ≠ i → listed.getD j true = false → (∀ e ∈ oj.after, Region.binds md e = true → e.on ≠ i) → oi.apart ops oj = true) →
   i ∈ Region.ready md ops listed → YieldsIf P ops (fun _ => True) oi v a → wpAnyZ P md ops Q Z S n (listed.setIfInBounds i true) (a.put oi.dst v) w → wpAnyZ P md ops Q Z S (n + 1) listed a w
 | n, listed, a, w, hfree, hr, hy, H => by
  refine ⟨fun h => (by rw [h] at hr; cases hr), fun j hj => ?_⟩
  by_cases hji : j = i
  ·subst hji; exact hy.wpOp hi trivial ⟨.inl hz, H⟩
  ·have hjr := ready_mono hj hji
   cases n with
   | zero => rw [H.1] at hjr; cases hjr
   | succ n =>
    have h1 := H.2 j hjr
    obtain ⟨hjun, oj, hoj, hall⟩ := mem_ready.1 hj
    have hun := ready_not hr
    have hnot : ∀ e ∈ oj.after, Region.binds md e = true → e.on ≠ i := fun e he hb heq => by
     have h1 := hall e he hb
     rw [heq] at h1
     rcases Nat.lt_or_ge i listed.size with h' | h'
     ·simp [h'] at hun h1; rw [hun] at h1; cases h1
     ·simp [Array.getElem?_eq_none h'] at h1
    have h2 := wpOp_putIf hoj (hfree j oj hoj hji hjun hnot) (fun cs b => hsel i oi cs b hi) (fun cs b => hsel j oj cs b hoj) hQ hy h1
    refine wpOp_mono (fun a' w' h3 => ?_) h2
    refine ⟨h3.2.1, wpAnyZ_firstP hi hsel hQ hz n (listed.setIfInBounds j true) a' w' (fun k ok hk hki hun2 hno => hfree k ok hk hki ?_ hno) (ready_mono hr (Ne.symm hji)) h3.1 ?_⟩
    ·by_cases hjk : j = k
     ·subst hjk; exact hjun
     ·rw [getD_set_ne true hjk] at hun2; exact hun2
    ·rw [Array.setIfInBounds_comm _ _ hji]
     exact h3.2.2
theorem wpAnyZ_takeP {i : Nat} {oi : Oper} {v : Value} {n : Nat} {listed : Array Bool} {a : Act} {w : World} (hi : ops[i]? = some oi) (hs : Region.noSelect ops = true) (hz : Z i = true) (hf : Region.free md ops listed i = true) (hr : (Region.ready md ops listed).contains i = true)
  (hQ : ∀ c a w, Q (.panic c) (a.put oi.dst v) w → Q (.panic c) a w) (hy : YieldsIf P ops (fun _ => True) oi v a) (h : wpAnyZ P md ops Q Z S n (listed.setIfInBounds i true) (a.put oi.dst v) w) : wpAnyZ P md ops Q Z S (n + 1) listed a w :=
 wpAnyZ_firstP hi (Region.noSelect_spec hs) hQ hz n listed a w (Region.free_spec hi hf) (by simpa using hr) hy h
/-- one operation alone may come up -/
theorem wpAnyZ_one {i : Nat} {o : Oper} {n : Nat} {listed : Array Bool} {a : Act} {w : World} (hr : Region.ready md ops listed = [i]) (ho : ops[i]? = some o)
  (h : ∀ K : Act → World → Prop, (∀ a w, (Z i = true ∨ S w) → (Z i = true ∨ S w → wpAnyZ P md ops Q Z S n (listed.setIfInBounds i true) a w) → K a w) → if Region.wanted o (yielded ops a.tmps) = true then Oper.wp P o a w K Q else K (a.put o.dst undef) w) : wpAnyZ P md ops Q Z S (n + 1) listed a w :=
 ⟨(fun h0 => by rw [hr] at h0; cases h0), fun j hj => by
  rw [hr, List.mem_singleton] at hj
  subst hj
  exact wpOp_step ho (fun K hK => h K fun a w hS hW => hK a w ⟨hS, hW hS⟩)⟩
/-- one of two operations may come up -/
theorem wpAnyZ_two {i j : Nat} {oi oj : Oper} {n : Nat} {listed : Array Bool} {a : Act} {w : World} (hr : Region.ready md ops listed = [i, j]) (hi : ops[i]? = some oi) (hj : ops[j]? = some oj)
  (h1 : ∀ K : Act → World → Prop, (∀ a w, (Z i = true ∨ S w) → (Z i = true ∨ S w → wpAnyZ P md ops Q Z S n (listed.setIfInBounds i true) a w) → K a w) → if Region.wanted oi (yielded ops a.tmps) = true then Oper.wp P oi a w K Q else K (a.put oi.dst undef) w)
  (h2 : ∀ K : Act → World → Prop, (∀ a w, (Z j = true ∨ S w) → (Z j = true ∨ S w → wpAnyZ P md ops Q Z S n (listed.setIfInBounds j true) a w) → K a w) → if Region.wanted oj (yielded ops a.tmps) = true then Oper.wp P oj a w K Q else K (a.put oj.dst undef) w) : wpAnyZ P md ops Q Z S (n + 1) listed a w :=
 ⟨(fun h0 => by rw [hr] at h0; cases h0), fun k hk => by
  rw [hr, List.mem_cons, List.mem_singleton] at hk
  rcases hk with rfl | rfl
  ·exact wpOp_step hi (fun K hK => h1 K fun a w hS hW => hK a w ⟨hS, hW hS⟩)
  ·exact wpOp_step hj (fun K hK => h2 K fun a w hS hW => hK a w ⟨hS, hW hS⟩)⟩
theorem wpAnyZ_done {listed : Array Bool} {a : Act} {w : World} (hr : Region.ready md ops listed = []) (h : Q .normal a w) : ∀ n, wpAnyZ P md ops Q Z S n listed a w
 | 0 => ⟨hr, h⟩
 | _ + 1 => ⟨fun _ => h, by rw [hr]; simp⟩
theorem wp_region_Z (Z : Nat → Bool) (S : World → Prop) {id : Nat} {a : Act} {w : World} (hm : P.follows .mixedOrders = true) (hS : S w.drew) (h : S w.drew → wpAnyZ P .any ops Q Z S ops.size (Array.replicate ops.size false) a w.drew) : (Code.region id ops true).wp P Q a w :=
 wp_region_any hm (wpAny_of_Z _ _ _ _ (h hS))
end
end Go.Q
/- Layer 10: the losses that are due happen. -/
namespace Go.Q
open Go Go.RowKit
theorem pow_le24 {k : Nat} (h : k ≤ 24) : (1 : Int) ≤ 2 ^ k ∧ (2 : Int) ^ k ≤ 16777216 := by
 have h1 : 2 ^ k ≤ 2 ^ 24 := Nat.pow_le_pow_right (by decide) h
 have h2 : 1 ≤ 2 ^ k := Nat.one_le_two_pow
 have e : ((2 ^ k : Nat) : Int) = 2 ^ k := by simp
 rw [← e]
 omega
theorem xor_one (n : Nat) : n ^^^ 1 = if n % 2 = 1 then n - 1 else n + 1 := by
 have h1 : (n ^^^ 1) / 2 = n / 2 := by rw [Nat.xor_div_two]; simp
 have h2 : (n ^^^ 1) % 2 = (n + 1) % 2 := by
  have := @Nat.xor_mod_two_eq_one n 1
  omega
 have h3 := Nat.div_add_mod (n ^^^ 1) 2
 have h4 := Nat.div_add_mod n 2
 split <;> omega
theorem xor_pow (k a l : Nat) (hl : l < 2 ^ k) : (2 ^ k * a + l) ^^^ 2 ^ k = 2 ^ k * (a ^^^ 1) + l := by
 apply Nat.eq_of_testBit_eq
 intro j
 rw [Nat.testBit_xor, Nat.testBit_two_pow_mul_add _ hl, Nat.testBit_two_pow_mul_add _ hl, Nat.testBit_two_pow]
 by_cases h : j < k
 ·rw [if_pos h, if_pos h]
  have : ¬ k = j := by omega
  simp [this]
 ·rw [if_neg h, if_neg h, Nat.testBit_xor]
  congr 1
  by_cases e : k = j
  ·subst e; simp
  ·obtain ⟨d, hd⟩ : ∃ d, j - k = d + 1 := ⟨j - k - 1, by omega⟩
   rw [hd, Nat.testBit_succ]
   simp [e]
theorem flip_nat (x k : Nat) : x ^^^ 2 ^ k = if x / 2 ^ k % 2 = 1 then x - 2 ^ k else x + 2 ^ k := by
 have h0 : 0 < 2 ^ k := Nat.two_pow_pos k
 have hd := Nat.div_add_mod x (2 ^ k)
 have hl := Nat.mod_lt x h0
 obtain ⟨a, ha⟩ : ∃ a, x / 2 ^ k = a := ⟨_, rfl⟩
 obtain ⟨l, hll⟩ : ∃ l, x % 2 ^ k = l := ⟨_, rfl⟩
 rw [ha, hll] at hd
 rw [hll] at hl
 rw [ha, ← hd, xor_pow k a l hl, xor_one]
 obtain ⟨P, hP⟩ : ∃ P, 2 ^ k = P := ⟨_, rfl⟩
 rw [hP]
 split
 ·rename_i h
  obtain ⟨b, rfl⟩ : ∃ b, a = b + 1 := ⟨a - 1, by omega⟩
  rw [Nat.add_sub_cancel, Nat.mul_add]
  omega
 ·rw [Nat.mul_add]
  omega
theorem bits_xor_i64 (a b : Nat) (ha : a < 4294967296) (hb : b < 4294967296) : bits .xor .i64 (a : Int) (b : Int) = ((a ^^^ b : Nat) : Int) := by
 have hx : a ^^^ b < 2 ^ 32 := Nat.xor_lt_two_pow (by omega) (by omega)
 have h1 : (BitVec.ofInt 64 (a : Int)).toNat = a := by
  rw [BitVec.ofInt_natCast, BitVec.toNat_ofNat]; exact Nat.mod_eq_of_lt (by omega)
 have h2 : (BitVec.ofInt 64 (b : Int)).toNat = b := by
  rw [BitVec.ofInt_natCast, BitVec.toNat_ofNat]; exact Nat.mod_eq_of_lt (by omega)
 show IntKind.i64.wrap ((BitVec.ofInt 64 (a : Int) ^^^ BitVec.ofInt 64 (b : Int)).toNat : Int) = _
 rw [BitVec.toNat_xor, h1, h2]
 exact IntWalk.i64_in _ (by omega)
theorem flip_bits (x : Int) (k : Nat) (h0 : 0 ≤ x) (h1 : x ≤ 16777215) (hk : k ≤ 24) : bits .xor .i64 x (wrap64 (2 ^ k) % 16777216) = flipW x k := by
 obtain ⟨n, rfl⟩ := Int.eq_ofNat_of_zero_le h0
 have hp := pow_le24 hk
 have ep : ((2 ^ k : Nat) : Int) = 2 ^ k := by simp
 have ew : wrap64 (2 ^ k) = 2 ^ k := by unfold wrap64; omega
 rw [ew]
 have hn : n < 4294967296 := by omega
 by_cases h24 : k = 24
 ·subst h24
  have : (2 : Int) ^ 24 % 16777216 = ((0 : Nat) : Int) := by decide
  rw [this, bits_xor_i64 n 0 hn (by omega), Nat.xor_zero]
  unfold flipW
  rw [if_neg (by omega)]
 ·have hp2 : (2 : Int) ^ k ≤ 8388608 := by
   have h1 : 2 ^ k ≤ 2 ^ 23 := Nat.pow_le_pow_right (by decide) (by omega)
   rw [← ep]
   omega
  rw [Int.emod_eq_of_lt (by omega) (by omega), ← ep, bits_xor_i64 n (2 ^ k) hn (by omega), flip_nat]
  unfold flipW
  rw [if_pos (show (k : Int) < 24 by omega), Int.toNat_natCast, ← ep]
  clear ew ep hp hp2
  obtain ⟨P, hP⟩ : ∃ P, 2 ^ k = P := ⟨_, rfl⟩
  rw [hP]
  have hdm : (n : Int) / (P : Int) % 2 = ((n / P % 2 : Nat) : Int) := by simp
  rw [hdm]
  by_cases h : n / P % 2 = 1
  ·rw [if_pos h, if_pos (by omega)]
   have : P ≤ n := by
    rcases Nat.lt_or_ge n P with h2 | h2
    ·rw [Nat.div_eq_of_lt h2] at h; omega
    ·exact h2
   omega
  ·rw [if_neg h, if_neg (by omega)]
   omega
end Go.Q
namespace Go.Proofs.YtnhpcoagkmgdoaaGreat
open Go.RowKit Go.Q Go.Shelf Go.Maps
set_option maxHeartbeats 4000000
set_option maxRecDepth 100000
theorem zeroRow (w : World) : (zeroValue 25).run Tryz.prog w = .ok (.slice none 0 0) w := by
 simp [Tryz.zeroValue25]
/-- a row of 128 words -/
structure RowI (W : World) (g : Nat) (st : List Int) : Prop where
 blk : ∃ cs, W.heap[g]? = some (.cells cs 3 (0, 0)) ∧ 128 ≤ cs.size ∧ ∀ i, i < 128 → cs[i]? = some (.int .i64 (st[i]?.getD 0))
 len : st.length = 128
section
variable {W W' : World} {g : Nat} {st : List Int}
theorem RowI.lt (h : RowI W g st) : g < W.heap.size := by
 obtain ⟨cs, h1, _⟩ := h.blk
 exact lt_of_block h1
theorem RowI.same (h : RowI W g st) (e : W'.heap[g]? = W.heap[g]?) : RowI W' g st := by
 obtain ⟨cs, h1, h2⟩ := h.blk
 exact ⟨⟨cs, e.trans h1, h2⟩, h.len⟩
theorem RowI.ext (h : RowI W g st) (E : Ext W W') : RowI W' g st := h.same (E.block g h.lt)
theorem RowI.kp {M : Nat → Prop} (h : RowI W g st) (K : KpM M W W') (hm : ¬ M g) : RowI W' g st := h.same (K.block g h.lt hm)
theorem RowI.far (h : RowI W g st) (p : Addr) (v : Value) (hp : g ≠ p.block) : RowI (W.setCell p v) g st := h.same (Below.heap_setCell _ _ _ _ hp)
theorem RowI.free (h : RowI W g st) (i : Nat) : W.frozen? ⟨g, i, none⟩ = false := by
 obtain ⟨cs, h1, _⟩ := h.blk
 exact blk_free h1 i
theorem RowI.c (h : RowI W g st) (i : Nat) (hi : i < 128) : W.cell? ⟨g, i, none⟩ = some (.int .i64 (st[i]?.getD 0)) := by
 obtain ⟨cs, h1, h2, hb⟩ := h.blk
 exact blk_cell h1 _ (hb i hi)
theorem RowI.set (h : RowI W g st) (i : Nat) (hi : i < 128) (v : Int) : RowI (W.setCell ⟨g, i, none⟩ (.int .i64 v)) g (st.set i v) := by
 obtain ⟨cs, h1, h2, hb⟩ := h.blk
 have hl := h.len
 have hs := cells_set h1 i (.int .i64 v)
 refine ⟨⟨_, hs, by simpa using h2, fun j hj => ?_⟩, by rw [List.length_set]; exact hl⟩
 by_cases e : i = j
 ·subst e
  rw [Array.getElem?_setIfInBounds_self_of_lt (by omega), List.getElem?_set_self (by omega)]
  rfl
 ·rw [Array.getElem?_setIfInBounds_ne (by omega), List.getElem?_set_ne e]
  exact hb j hj
theorem RowI.of_own {nb c : Nat} {a : Option Addr} (h : W.ownsRow nb 3 1 (.slice a 128 c) 128 (iv st)) (hl : st.length = 128) : ∃ g, a = some ⟨g, 0, none⟩ ∧ nb ≤ g ∧ RowI W g st := by
 rcases h.2 with ⟨e, h2⟩ | ⟨g, cap, cur, e, hg, hb, h1, _, h3, h4⟩
 ·cases h2
 ·obtain ⟨rfl, -, rfl⟩ := Value.slice.inj e
  refine ⟨g, rfl, hg, ⟨⟨cur, hb, by omega, fun i hi => ?_⟩, hl⟩⟩
  have hg := iv_get st i (by omega)
  rw [← h4, List.getElem?_take, if_pos (by omega)] at hg
  simpa using hg
end
theorem kp_new {M : Nat → Prop} {A V : World} (K : KpM M A V) {g : Nat} (hg : A.heap.size ≤ g) (p : Nat) (v : Value) : KpM M A (V.setCell ⟨g, p, none⟩ v) := by
 have k := kpm_set (M := fun q => q = g) V g p v rfl
 exact ⟨Nat.le_trans K.size k.size, fun b hb hn => (k.block b (Nat.lt_of_lt_of_le hb K.size) (by omega)).trans (K.block b hb hn), k.os.trans K.os, k.tape.trans K.tape, k.output.trans K.output⟩
theorem kp_grown {A V : World} {g : Nat} (h : A.grownBy V (some g)) : KpM (fun q => q = g) A V := ⟨h.size, fun b hb hn => h.block b hb (by intro e; injection e with e; exact hn e), h.os, h.tape, h.output⟩
def hapK (D : List Loss) (k : Nat) (s : St) : List Int := ((D.take k).foldl lossS s).store
def hapB (D : List Loss) (k : Nat) (b : List Bool) : List Bool := (D.take k).foldl lossB b
theorem take_next {D : List Loss} {k : Nat} (h : k < D.length) : D.take (k + 1) = D.take k ++ [D[k]?.getD ⟨0, 0, 0⟩] := by
 rw [List.take_add_one, List.getElem?_eq_getElem h]
 rfl
theorem hapK_succ {D : List Loss} {k : Nat} {s : St} (h : k < D.length) : hapK D (k + 1) s = (hapK D k s).set (D[k]?.getD ⟨0, 0, 0⟩).addr.toNat (flipW ((hapK D k s)[(D[k]?.getD ⟨0, 0, 0⟩).addr.toNat]?.getD 0) (D[k]?.getD ⟨0, 0, 0⟩).bit) := by
 unfold hapK
 rw [take_next h, List.foldl_append]
 rfl
theorem hapB_succ {D : List Loss} {k : Nat} {b : List Bool} (h : k < D.length) : hapB D (k + 1) b = (hapB D k b).set (D[k]?.getD ⟨0, 0, 0⟩).addr.toNat (!(hapB D k b)[(D[k]?.getD ⟨0, 0, 0⟩).addr.toNat]?.getD false) := by
 unfold hapB
 rw [take_next h, List.foldl_append]
 rfl
theorem happen_any (m mb : Nat) (L : List Loss) (x : Lm) (W : World) {ex : Nat → Prop} (hex : ∀ q, ex q → q < W.heap.size) (h : LinAt W m mb L x ex) (hL : ∀ y ∈ L, lossOk y = true) (hl : L.length ≤ 40) (hv : Valid x.s) :
  Calls Tryz.prog 37 #[.pointer (some ⟨m, 0, none⟩)] W fun e W' => e = .returned (.tuple #[]) ∧ LinAt W' m mb L (hapQ L x) ex ∧ KpM (LM m mb) W W' := by
 have HEX := Lib.hid hex
 clear hex
 obtain ⟨a1, a2, a3, c1, c2, c3, hB, i1, i2, i3, hM⟩ := h
 have hlen := hv.len
 have hcl := fun X (E : Ext W X) => clone_any a1 128 c1 x.s.store X hlen (by omega) (i1.at_.ext E)
 rw [hlen] at hB
 have e0 := hB.c0
 have f0 := hB.free 0
 have hmw := hB.lt
 obtain ⟨f, hF, hR⟩ := hM
 have hmb := lin_ne hB ⟨f, hF, hR⟩
 have hfar := lin_far hB ⟨f, hF, hR⟩
 have hdn : -9223372036854775808 ≤ x.s.done ∧ x.s.done ≤ 9223372036854775807 := by
  have := hv.done; have := hv.time; omega
 obtain ⟨ra, rc, hrow, hrc⟩ := hR ⟨x.s.done, hdn⟩
 obtain ⟨D, hD⟩ : ∃ D, leftL L x.gone x.s.done = D := ⟨_, rfl⟩
 dsimp only at hrow hrc
 rw [hD] at hrow hrc
 have hD0 : dueQ L x = D := hD
 replace hrow : (f ⟨x.s.done, hdn⟩).getD (.slice none 0 0) = .slice ra D.length rc := hrow
 have hDl : D.length ≤ 40 := by
  rw [← hD]
  unfold leftL
  split
  ·simp
  ·exact Nat.le_trans (List.length_filter_le _ _) hl
 have hDo : ∀ y ∈ D, lossOk y = true := fun y hy => hL y (due_mem (by rw [hD0]; exact hy)).1
 obtain ⟨n, hn⟩ : ∃ n, D.length = n := ⟨_, rfl⟩
 go_enter Tryz.func37, Tryz.ntmps37
 go_wp2_with fail
 refine ((hcl _ (Ext.refl W))).mono ?_
 rintro e w1 ⟨ca, cc, rfl, hO, E1⟩
 obtain ⟨g, rfl, hg0, R1⟩ := RowI.of_own hO hlen
 have B1 := hB.ext E1
 clear e0 f0 hcl hO
 have e0 := B1.c0
 have f0 := B1.free 0
 go_wp2
 have B2 := B1.set0 (.slice (some ⟨g, 0, none⟩) 128 cc)
 have R2 := R1.far ⟨m, 0, none⟩ (.slice (some ⟨g, 0, none⟩) 128 cc) (show g ≠ m by omega)
 have K2 : KpM (fun q => q = m) W (w1.setCell ⟨m, 0, none⟩ (.slice (some ⟨g, 0, none⟩) 128 cc)) := (KpM.of_ext E1).trans (kpm_set _ m 0 _ rfl)
 obtain ⟨X1, hX1⟩ : ∃ X, X = w1.setCell ⟨m, 0, none⟩ (.slice (some ⟨g, 0, none⟩) 128 cc) := ⟨_, rfl⟩
 rw [← hX1] at B2 R2 K2 ⊢
 clear hX1 B1 R1 E1 e0 f0 w1
 have F2 := hF.same (K2.block mb hF.lt hmb)
 have hlk : ∀ Y : World, Ext X1 Y → (Instr.lookup 74 (.map (some mb)) (.int .i64 x.s.done) false).run Tryz.prog Y = .ok (.slice ra n rc) Y := fun Y E => by
  have := (F2.ext E).look false keyI Tryz.underlying74 (zeroRow Y) ⟨x.s.done, hdn⟩
  rw [hrow, hn] at this
  exact this
 have e6 := B2.c6
 have em := B2.cm
 have hlk2 := fun k => hlk _ (below_drewN (Ext.refl X1) k)
 go_quiet (fail)
 have EY : Ext X1 (X1.drewN nq) := below_drewN (Ext.refl X1) nq
 have B3 := B2.ext EY
 have R3 := R2.ext EY
 have K3 := K2.trans (KpM.of_ext EY)
 generalize X1.drewN nq = X2 at B3 R3 K3 ⊢
 clear B2 R2 K2 F2 e6 em hlk hlk2 EY
 clear X1 nq
 have HD := Lib.hid hn
 have HDo := Lib.hid hDo
 have Hv := Lib.hid hv
 have HL := Lib.hid hL
 have HD0 := Lib.hid hD0
 have HDD := Lib.hid hD
 have Hlen := Lib.hid hlen
 have hnl : n ≤ 40 := by omega
 clear hn hDo hv hL hl hD0 hD hlen hrow hDl hdn
 go_wp2
 go_loopw [25] (fun s25 X => ∃ k : Nat, k ≤ n ∧ s25 = .int .i64 k ∧ LnB X m mb (.slice (some ⟨g, 0, none⟩) 128 cc) (.slice a2 x.s.tape.length c2) (.int .i64 x.s.taken) (.slice a3 x.s.printed.length c3) (.int .i64 x.s.time) (.int .i64 x.s.at_) (.int .i64 x.s.done) (.int .i64 x.s.why) (hapB D k x.bad) ∧ RowI X g (hapK D k x.s) ∧ KpM (fun q => q = m) W X) (fun s25 _ => n - (Go.RowKit.intOf s25).toNat)
 case atStart => exact ⟨0, Nat.zero_le _, rfl, B3, R3, K3⟩
 case round =>
  clear B3 R3 K3
  obtain ⟨k, hk, rfl, B, R, K⟩ := hrel
  obtain ⟨X, rfl⟩ : ∃ X : World, X = wr := ⟨_, rfl⟩
  by_cases hlt : k < n
  ·have hltz : (k : Int) < (n : Int) := by omega
   rcases hrc with h0 | ⟨rb, off, cs, fr, rfl, hrb, hrc⟩
   ·exact absurd HD.out (by rw [h0]; simp; omega)
   have hrn := hfar.2 rb cs fr hrb
   have hkc : k < D.length := by rw [HD.out]; exact hlt
   obtain ⟨d0, d1, d2⟩ := hrc k hkc
   have hrm : rb ≠ m := fun e => hrn (.inl e)
   replace d0 := (K.cell (lt_of_block hrb) hrm).trans d0
   replace d1 := (K.cell (lt_of_block hrb) hrm).trans d1
   replace d2 := (K.cell (lt_of_block hrb) hrm).trans d2
   obtain ⟨y, hy⟩ : ∃ y, D[k]?.getD ⟨0, 0, 0⟩ = y := ⟨_, rfl⟩
   have hyo := loss_ok (HDo.out y (by rw [← hy, List.getElem?_eq_getElem hkc]; exact List.getElem_mem hkc))
   have HBs := Lib.hid (hapB_succ (D := D) (k := k) (b := x.bad) hkc)
   have HKs := Lib.hid (hapK_succ (D := D) (k := k) (s := x.s) hkc)
   rw [hy] at d0 d1 d2 HBs HKs
   obtain ⟨ya, yp, yq⟩ := y
   dsimp only at d0 d1 d2 hyo HBs HKs
   obtain ⟨p, rfl⟩ := Int.eq_ofNat_of_zero_le hyo.2.1.1
   obtain ⟨q, rfl⟩ := Int.eq_ofNat_of_zero_le hyo.2.2.1
   have hp : p < 128 := by omega
   have hq : q ≤ 24 := by omega
   clear hyo hy
   go_wp2
   have z0 := box_at (v := .int .i64 ya) (Ext.refl (X.alloc (.cells #[.int .i64 ya, .int .i64 (p : Int), .int .i64 (q : Int)] 91))) 0 rfl
   have z1 := box_at (v := .int .i64 (p : Int)) (Ext.refl (X.alloc (.cells #[.int .i64 ya, .int .i64 (p : Int), .int .i64 (q : Int)] 91))) 1 rfl
   have z2 := box_at (v := .int .i64 (q : Int)) (Ext.refl (X.alloc (.cells #[.int .i64 ya, .int .i64 (p : Int), .int .i64 (q : Int)] 91))) 2 rfl
   have EY := (Ext.refl X).alloc (.cells #[.int .i64 ya, .int .i64 (p : Int), .int .i64 (q : Int)] 91)
   have hsz : X.heap.size < (X.alloc (.cells #[.int .i64 ya, .int .i64 (p : Int), .int .i64 (q : Int)] 91)).heap.size := by simp
   have hmN := B.lt
   have hgN := R.lt
   obtain ⟨N, hN⟩ : ∃ N, X.heap.size = N := ⟨_, rfl⟩
   obtain ⟨Y, hY⟩ : ∃ Y, X.alloc (.cells #[.int .i64 ya, .int .i64 (p : Int), .int .i64 (q : Int)] 91) = Y := ⟨_, rfl⟩
   rw [hN, hY]
   rw [hN] at hsz hmN hgN
   rw [hN, hY] at z0 z1 z2
   rw [hY] at EY hsz
   clear hN hY
   have hpz : (0 : Int) ≤ (p : Int) := by omega
   have hpn : (p : Int) < 128 := by omega
   have B := B.ext EY
   have b0 := B.cb p hp
   have HZ1 := Lib.hid z1
   have HZ2 := Lib.hid z2
   have HP := Lib.hid hp
   clear z2 hp
   go_still_tail 14, (by kernel_rfl)
   change wpList _ _ _ _ _ Y.drew
   have B := B.ext (Ext.refl Y).drew
   have R := R.ext EY.drew
   have K := K.trans (KpM.of_ext EY.drew)
   have z1 : Y.drew.cell? ⟨N, 1, none⟩ = some (.int .i64 (p : Int)) := HZ1.out
   have z2 : Y.drew.cell? ⟨N, 2, none⟩ = some (.int .i64 (q : Int)) := HZ2.out
   replace hsz : N < Y.drew.heap.size := hsz
   clear EY z0 HZ1 HZ2 b0
   have f0 := B.free (8 + p)
   have b0 := B.cb p HP.out
   generalize Y.drew = Z at *
   go_wp2
   have hNm : N ≠ m := by omega
   have z1 := (World.cell?_of_block (w := Z) (a := ⟨N, 1, none⟩) (Below.heap_setCell Z ⟨m, 8 + p, none⟩ (.bool (!(hapB D k x.bad)[p]?.getD false)) N hNm)).trans z1
   have z2 := (World.cell?_of_block (w := Z) (a := ⟨N, 2, none⟩) (Below.heap_setCell Z ⟨m, 8 + p, none⟩ (.bool (!(hapB D k x.bad)[p]?.getD false)) N hNm)).trans z2
   have B2 := B.setb p HP.out (!(hapB D k x.bad)[p]?.getD false)
   have hgm : g ≠ m := by omega
   have R2 := R.far ⟨m, 8 + p, none⟩ (.bool (!(hapB D k x.bad)[p]?.getD false)) hgm
   have K2 := K.trans (kpm_set Z m (8 + p) (.bool (!(hapB D k x.bad)[p]?.getD false)) rfl)
   have hsz2 : N < (Z.setCell ⟨m, 8 + p, none⟩ (.bool (!(hapB D k x.bad)[p]?.getD false))).heap.size := by simpa using hsz
   clear B R K hsz b0 f0
   generalize Z.setCell ⟨m, 8 + p, none⟩ (.bool (!(hapB D k x.bad)[p]?.getD false)) = V at *
   have B := B2
   have b0 := B2.c0
   have r0 := R2.c p HP.out
   have HZ1 := Lib.hid z1
   have HZ2 := Lib.hid z2
   have HB := Lib.hid B2
   clear B B2
   go_still_tail 15, (by kernel_rfl)
   change wpList _ _ _ _ _ V.drew
   have R := R2.ext (Ext.refl V).drew
   have r0 := R.c p HP.out
   have f0 := R.free p
   go_wp2
   refine ⟨⟨k + 1, by omega, by simp, ?_, ?_, (kp_new K2 hg0 p _).trans (KpM.of_ext (Ext.refl _).drew)⟩, by simp [Go.RowKit.intOf]; omega⟩
   ·rw [HBs.out, Int.toNat_natCast]
    exact (HB.out.far ⟨g, p, none⟩ _ (show m ≠ g by omega)).ext (Ext.refl _).drew
   ·have hvk := lossesS_valid (F := D.take k) Hv.out (fun y hy => (loss_ok (HDo.out y (List.mem_of_mem_take hy))).2.2.1)
    have Hw := wordAt_bd hvk (p : Int)
    unfold wordAt at Hw
    rw [Int.toNat_natCast] at Hw
    replace Hw : 0 ≤ (hapK D k x.s)[p]?.getD 0 ∧ (hapK D k x.s)[p]?.getD 0 ≤ 16777215 := Hw
    rw [HKs.out, Int.toNat_natCast, flip_bits _ _ Hw.1 Hw.2 hq]
    exact (R2.set p HP.out _).ext (Ext.refl _).drew
  ·have hltz : ¬ (k : Int) < (n : Int) := by omega
   obtain rfl : k = n := by omega
   clear hlt hk
   have em := B.cm
   have e6 := B.c6
   have FX := hF.same ((K.trans (KpM.of_ext (Ext.refl X).drew)).block mb hF.lt hmb)
   have hv := Hv.out
   have hdn : -9223372036854775808 ≤ x.s.done ∧ x.s.done ≤ 9223372036854775807 := by
    have := hv.done; have := hv.time; omega
   clear hv
   go_wp2
   go_still_tail 9, (by kernel_rfl)
   change wpList _ _ _ _ _ X.drew
   refine wpList_delF X.drew rfl _ _ _ rfl 25 keyI Tryz.underlying74 mb rfl FX ⟨x.s.done, hdn⟩ rfl fun w' F2 G2 S2 => ?_
   go_wp2
   go_end0
   have K2 := (K.trans (KpM.of_ext (Ext.refl X).drew))
   have K3 : KpM (LM m mb) W w' := (K2.mono (fun q h => .inl h)).trans ((kp_grown G2).mono fun q h => .inr h)
   have B3 := (B.ext (Ext.refl X).drew).kp (kp_grown G2) (show ¬ m = mb from fun e => hmb e.symm)
   have R3 := (R.ext (Ext.refl X).drew).kp (kp_grown G2) (show ¬ g = mb by have := hF.lt; omega)
   have et : D.take k = D := by rw [← HD.out]; exact List.take_length
   have es : (hapQ L x).s = { x.s with store := hapK D k x.s } := by
    rw [hap_same]
    unfold hapK
    rw [et]
    show { x.s with store := ((dueQ L x).foldl lossS x.s).store } = _
    rw [HD0.out]
   have eb : (hapQ L x).bad = hapB D k x.bad := by
    show (dueQ L x).foldl lossB x.bad = _
    unfold hapB
    rw [et, HD0.out]
   refine ⟨rfl, ⟨some ⟨g, 0, none⟩, a2, a3, cc, c2, c3, ?_, ?_, ?_, ?_, ?_⟩, K3⟩
   ·rw [es, eb]
    show LnB w' m mb (.slice (some ⟨g, 0, none⟩) (hapK D k x.s).length cc) _ _ _ _ _ _ _ _
    rw [R.len]
    exact B3
   ·rw [es]
    exact .inr ⟨g, 0, rfl, (fun h => by
     have := hF.lt
     rcases h with (h | h) | h
     ·omega
     ·omega
     ·have := HEX.out g h; omega), R3.lt, fun i hi => by rw [Nat.zero_add]; exact R3.c i (by rw [← R3.len]; exact hi)⟩
   ·rw [es]
    exact i2.kp K3 (fun b _ h => .inl h)
   ·rw [es]
    exact i3.kp K3 (fun b _ h => .inl h)
   ·refine ⟨_, F2, fun z => ?_⟩
    unfold delF
    by_cases e : z = ⟨x.s.done, hdn⟩
    ·rw [if_pos e]
     have e2 : leftL L (hapQ L x).gone z.1 = [] := by
      unfold leftL
      rw [if_pos]
      show (z.1 == x.s.done || x.gone z.1) = true
      rw [e]; simp
     rw [e2]
     exact ⟨none, 0, rfl, .inl rfl⟩
    ·rw [if_neg e]
     have hne : ¬ z.1 = x.s.done := fun h => e (I64.same h)
     have e2 : leftL L (hapQ L x).gone z.1 = leftL L x.gone z.1 := by
      have : (hapQ L x).gone z.1 = x.gone z.1 := by
       show (z.1 == x.s.done || x.gone z.1) = _
       simp [hne]
      unfold leftL
      rw [this]
     rw [e2]
     exact (hR z).kp K3 hfar.2
end Go.Proofs.YtnhpcoagkmgdoaaGreat

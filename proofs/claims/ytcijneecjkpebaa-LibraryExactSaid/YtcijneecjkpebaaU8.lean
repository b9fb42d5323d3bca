import Derived.WalkKit
import Derived.OrdersIn
import Derived.RegionTactic
import Derived.OrdersHeld
import Derived.Test.YtcijneecjkpebaaU3
set_option linter.unusedVariables false
set_option linter.unusedSimpArgs false
/- A region that draws its order: what each operation keeps, whatever has come up before it. -/
namespace Go.Q
open Go
/-- each operation comes behind those that it waits for, in the order of the text -/
def Region.inOrder (ops : Array Oper) : Bool := (List.range ops.size).all fun i => ((ops[i]?).map fun o => o.after.all fun e => decide (e.on < i)).getD true
/-- all that an operation waits for has come up -/
def Region.waits (md : Region.Mode) (ops : Array Oper) (l : Nat → Bool) (i : Nat) : Bool := ((ops[i]?).map fun o => o.after.all fun e => !Region.binds md e || l e.on).getD false
theorem countP_lt {α : Type} (p q : α → Bool) (h : ∀ x, q x = true → p x = true) : ∀ (l : List α) (i : α), i ∈ l → p i = true → q i = false → l.countP q < l.countP p := by
  intro l
  induction l with
  | nil => intro i hi; cases hi
  | cons x xs ih =>
    intro i hi hp hq
    have hle : xs.countP q ≤ xs.countP p := List.countP_mono_left (fun y _ hy => h y hy)
    rw [List.countP_cons, List.countP_cons]
    rcases List.mem_cons.1 hi with rfl | hi
    · simp [hp, hq]; omega
    · have h1 := ih i hi hp hq
      have h2 := h x
      by_cases hx : q x = true
      · simp [hx, h2 hx]; omega
      · simp [hx]; split <;> omega
section
variable {P : Program} {ops : Array Oper} {Q : Exit → Act → World → Prop} {md : Region.Mode}
theorem getD_same {l : Array Bool} {i : Nat} (h : i < l.size) : l.getD i true = l.getD i false := by
  simp [Array.getD, h]
theorem ready_mem {listed : Array Bool} {i : Nat} : i ∈ Region.ready md ops listed ↔ i < ops.size ∧ listed.getD i true = false ∧ Region.waits md ops (fun j => listed.getD j false) i = true := by
  unfold Region.ready Region.waits
  rw [List.mem_filter, List.mem_range, Bool.and_eq_true]
  simp
theorem ready_nil {listed : Array Bool} (ho : Region.inOrder ops = true) (hs : listed.size = ops.size) (h : Region.ready md ops listed = []) : ∀ i, i < ops.size → listed.getD i false = true := by
  intro i
  induction i using Nat.strongRecOn with
  | ind i ih =>
    intro hi
    by_cases hc : listed.getD i false = true
    · exact hc
    · exfalso
      have hm : i ∈ Region.ready md ops listed := ready_mem.2 ⟨hi, by rw [getD_same (by omega)]; simpa using hc, by
        unfold Region.waits
        unfold Region.inOrder at ho
        rw [List.all_eq_true] at ho
        have h1 := ho i (List.mem_range.2 hi)
        rw [Array.getElem?_eq_getElem hi] at h1 ⊢
        simp only [Option.map_some, Option.getD_some] at h1 ⊢
        rw [Array.all_eq_true] at h1 ⊢
        intro k hk
        have h2 := h1 k hk
        simp only [decide_eq_true_eq] at h2
        rw [ih _ h2 (by omega), Bool.or_true]⟩
      rw [h] at hm
      cases hm
theorem wpAny_inv (I : (Nat → Bool) → Act → World → Prop) (ho : Region.inOrder ops = true)
    (step : ∀ l a w, I l a w → ∀ i, i < ops.size → l i = false → Region.waits md ops l i = true → wpOp P ops Q i (fun a' w' => I (fun j => if j = i then true else l j) a' w') a w)
    (done : ∀ l a w, I l a w → (∀ i, i < ops.size → l i = true) → Q .normal a w) :
    ∀ (fuel : Nat) (listed : Array Bool) (a : Act) (w : World), listed.size = ops.size → (List.range ops.size).countP (fun i => !listed.getD i false) ≤ fuel → I (fun j => listed.getD j false) a w → wpAny P md ops Q fuel listed a w := by
  intro fuel
  induction fuel with
  | zero =>
    intro listed a w hs hc hI
    have hall : ∀ i, i < ops.size → listed.getD i false = true := fun i hi => by
      have := (List.countP_eq_zero.1 (Nat.le_zero.1 hc)) i (List.mem_range.2 hi)
      simpa using this
    have hr : Region.ready md ops listed = [] := by
      rw [List.eq_nil_iff_forall_not_mem]
      intro i hi
      have h := ready_mem.1 hi
      rw [getD_same (by omega), hall i h.1] at h
      exact absurd h.2.1 (by decide)
    exact ⟨hr, done _ _ _ hI hall⟩
  | succ fuel ih =>
    intro listed a w hs hc hI
    refine ⟨fun hr => done _ _ _ hI (ready_nil ho hs hr), fun i hi => ?_⟩
    obtain ⟨h1, h2, h3⟩ := ready_mem.1 hi
    rw [getD_same (by omega)] at h2
    refine wpOp_mono (fun a' w' hI' => ih _ a' w' (by simpa using hs) ?_ ?_) (step _ a w hI i h1 h2 h3)
    · have hlt := countP_lt (fun j => !listed.getD j false) (fun j => !(listed.setIfInBounds i true).getD j false) (fun j hj => by
        by_cases e : j = i
        · subst e; simp [Array.getD, hs, h1] at hj
        · simp only [Array.getD_eq_getD_getElem?, Array.getElem?_setIfInBounds] at hj ⊢
          rw [if_neg (fun c => e c.symm)] at hj
          exact hj) (List.range ops.size) i (List.mem_range.2 h1) (by simp [h2]) (by simp [Array.getD, hs, h1])
      omega
    · have e : (fun j => (listed.setIfInBounds i true).getD j false) = fun j => if j = i then true else listed.getD j false := by
        funext j
        by_cases e : j = i
        · subst e; simp [Array.getD, hs, h1]
        · rw [if_neg e]
          simp only [Array.getD_eq_getD_getElem?, Array.getElem?_setIfInBounds]
          rw [if_neg (fun c => e c.symm)]
      rw [e]
      exact hI'
theorem waits_mono {l l' : Nat → Bool} (h : ∀ j, l j = true → l' j = true) {i : Nat} (hw : Region.waits md ops l i = true) : Region.waits md ops l' i = true := by
  unfold Region.waits at *
  cases ho : ops[i]? with
  | none => rw [ho] at hw; simp at hw
  | some o =>
    rw [ho] at hw
    simp only [Option.map_some, Option.getD_some] at hw ⊢
    rw [Array.all_eq_true] at hw ⊢
    intro k hk
    have := hw k hk
    rw [Bool.or_eq_true] at this ⊢
    exact this.imp id (h _)
/-- a region that draws its order: what is shown of each operation, whatever has come up before it -/
theorem wp_region_inv (I : (Nat → Bool) → Act → World → Prop) {id : Nat} {a : Act} {w : World} (hm : P.follows .mixedOrders = true) (ho : Region.inOrder ops = true) (h0 : I (fun _ => false) a w.drew)
    (step : ∀ l a w, I l a w → ∀ i, i < ops.size → l i = false → Region.waits .any ops l i = true → wpOp P ops Q i (fun a' w' => I (fun j => if j = i then true else l j) a' w') a w)
    (done : ∀ l a w, I l a w → (∀ i, i < ops.size → l i = true) → Q .normal a w) : (Code.region id ops true).wp P Q a w := by
  refine wp_region_any hm (wpAny_inv I ho step done ops.size _ a _ (by simp) ?_ ?_)
  · exact Nat.le_trans (List.countP_le_length) (by simp)
  · have e : (fun j => (Array.replicate ops.size false).getD j false) = fun _ => false := by
      funext j
      simp [Array.getD]
    rw [e]
    exact h0
/-- the same, with what has come up being closed -/
theorem wp_region_closed (I : (Nat → Bool) → Act → World → Prop) {id : Nat} {a : Act} {w : World} (hm : P.follows .mixedOrders = true) (ho : Region.inOrder ops = true) (h0 : I (fun _ => false) a w.drew)
    (step : ∀ l a w, I l a w → (∀ j, l j = true → Region.waits .any ops l j = true) → ∀ i, i < ops.size → l i = false → Region.waits .any ops l i = true → wpOp P ops Q i (fun a' w' => I (fun j => if j = i then true else l j) a' w') a w)
    (done : ∀ l a w, I l a w → (∀ i, i < ops.size → l i = true) → Q .normal a w) : (Code.region id ops true).wp P Q a w := by
  refine wp_region_inv (fun l a w => I l a w ∧ ∀ j, l j = true → Region.waits .any ops l j = true) hm ho ⟨h0, fun j hj => by cases hj⟩ (fun l a w hI i hi hl hw => ?_) (fun l a w hI h => done l a w hI.1 h)
  have hmono : ∀ k, l k = true → (if k = i then true else l k) = true := fun k hk => by split <;> simp_all
  refine wpOp_mono (fun a' w' h => ⟨h, fun j hj => ?_⟩) (step l a w hI.1 hI.2 i hi hl hw)
  by_cases e : j = i
  · subst e; exact waits_mono hmono hw
  · have hj2 : (if j = i then true else l j) = true := hj
    rw [if_neg e] at hj2
    exact waits_mono hmono (hI.2 j hj2)
end
end Go.Q
/- A region that draws its order, in a round of a range over a function: what is shown of it outside of a round holds in it (there is no defer in it; it may hold calls). -/
namespace Go.Q
open Go Go.RowKit
def noDefer (o : Oper) : Bool := match o.op with
  | .defer _ => false
  | _ => true
section
variable {n l₀ : Nat} {P : Program} {ops : Array Oper} {Q : Exit → Act → World → Prop} {md : Region.Mode}
theorem noDefer_ne {o : Oper} (h : noDefer o = true) : ∀ c, o.op ≠ .defer c := by
  intro c e
  unfold noDefer at h
  rw [e] at h
  cases h
theorem wpIn_of_wp {o : Oper} (hp : noDefer o = true) {a : Act} {w : World} {K : Act → World → Prop} (h : o.wp P a w K Q) : o.wpIn (Fence.wide.inRound l₀) n P a w K Q := by
  refine ⟨fun _ _ => trivial, ?_⟩
  rw [Oper.semAt_eq _ _ _ (noDefer_ne hp)]
  unfold Oper.wp at h
  generalize (execOp a.eval o).run P w = r at *
  cases r with
  | ok x w' =>
    cases x with
    | enter f args => exact ⟨fun h => by simp [Fence.wide] at h, CallsIn.mono (CallsIn.inRound l₀ (callsIn_wide.2 h)) fun e w'' he => by cases e <;> exact he⟩
    | row row args =>
      refine ⟨fun h => by simp [Fence.wide] at h, fun c cs _ => ?_⟩
      obtain ⟨v, w', r, s⟩ := h c cs
      exact ⟨v, w', r, stepsIn_wide.2 s⟩
    | round l f tmps assign body => exact (show False from h).elim
    | _ => exact h
  | halt x w' => cases x <;> exact h
theorem wpOp_in (hp : ∀ o ∈ ops, noDefer o = true) (hQ : ¬ LetsOut Q) {i : Nat} {a : Act} {w : World} {K : Act → World → Prop} (h : wpOp P ops Q i K a w) : wpOpIn (Fence.wide.inRound l₀) n P ops Q i K a w := by
  unfold wpOp at h
  unfold wpOpIn
  cases ho : ops[i]? with
  | none => rw [ho] at h; exact h
  | some o =>
    rw [ho] at h
    dsimp only at h ⊢
    split
    · rename_i hw
      rw [if_pos hw] at h
      exact wpIn_of_wp (hp o (Array.mem_of_getElem? ho)) (h.resolve_right fun x => hQ x.2)
    · rename_i hw
      rw [if_neg hw] at h
      exact ⟨fun _ _ => trivial, h⟩
theorem wpAny_in (hp : ∀ o ∈ ops, noDefer o = true) (hQ : ¬ LetsOut Q) : ∀ (fuel : Nat) (listed : Array Bool) (a : Act) (w : World), wpAny P md ops Q fuel listed a w → wpAnyIn (Fence.wide.inRound l₀) n P md ops Q fuel listed a w
  | 0, _, _, _, h => h
  | fuel + 1, _, _, _, h => ⟨h.1, fun i hi => wpOpIn_mono (fun _ _ => wpAny_in hp hQ fuel _ _ _) (wpOp_in hp hQ (h.2 i hi))⟩
theorem nq_shut : ¬ LetsOut (NQ Q) := fun ⟨_, _, h⟩ => h
/-- a region that draws its order, in a round: shown by its steps as outside of a round -/
theorem wpIn_region_plain {id : Nat} {a : Act} {w : World} (hm : P.follows .mixedOrders = true) (hp : ops.all noDefer = true)
    (h : wpAny P .any ops (NQ Q) ops.size (Array.replicate ops.size false) a w.drew) : (Code.region id ops true).wpIn (Fence.wide.inRound l₀) n P Q a w :=
  wpIn_normal (wpIn_region_any hm (wpAny_in (fun o h => Array.all_eq_true_iff_forall_mem.1 hp o h) nq_shut _ _ _ _ h))
/-- the same, outside of a round -/
theorem wp_region_plain {id : Nat} {a : Act} {w : World} (hm : P.follows .mixedOrders = true)
    (h : wpAny P .any ops Q ops.size (Array.replicate ops.size false) a w.drew) : (Code.region id ops true).wp P Q a w := wp_region_any hm h
/-- a region that draws its order, in a round, with calls: by what each operation keeps -/
theorem wpIn_region_closedC (I : (Nat → Bool) → Act → World → Prop) {id : Nat} {a : Act} {w : World} (hm : P.follows .mixedOrders = true) (ho : Region.inOrder ops = true) (hp : ops.all noDefer = true) (h0 : I (fun _ => false) a w.drew)
    (step : ∀ l a w, I l a w → (∀ j, l j = true → Region.waits .any ops l j = true) → ∀ i, i < ops.size → l i = false → Region.waits .any ops l i = true → wpOp P ops (NQ Q) i (fun a' w' => I (fun j => if j = i then true else l j) a' w') a w)
    (done : ∀ l a w, I l a w → (∀ i, i < ops.size → l i = true) → Q .normal a w) : (Code.region id ops true).wpIn (Fence.wide.inRound l₀) n P Q a w := by
  refine wpIn_region_plain hm hp ?_
  refine wpAny_inv (Q := NQ Q) (fun l a w => I l a w ∧ ∀ j, l j = true → Region.waits .any ops l j = true) ho (fun l a w hI i hi hl hw => ?_) (fun l a w hI h => done l a w hI.1 h) ops.size _ a _ (Array.size_replicate ..) ?_ ?_
  · have hmono : ∀ k, l k = true → (if k = i then true else l k) = true := fun k hk => by split <;> simp_all
    refine wpOp_mono (fun a' w' h => ⟨h, fun j hj => ?_⟩) (step l a w hI.1 hI.2 i hi hl hw)
    by_cases e : j = i
    · subst e; exact waits_mono hmono hw
    · have hj2 : (if j = i then true else l j) = true := hj
      rw [if_neg e] at hj2
      exact waits_mono hmono (hI.2 j hj2)
  · exact Nat.le_trans (List.countP_le_length) (by simp)
  · have e : (fun j => (Array.replicate ops.size false).getD j false) = fun _ => false := by
      funext j
      simp [Array.getD]
    rw [e]
    exact ⟨h0, fun j hj => by cases hj⟩
end
end Go.Q
/- A region that draws its order: what is read is taken first, by a condition on the world that each operation keeps, but for the last ones (those of Z, which all that read go ahead of); what reads no world is taken without more. -/
namespace Go.Q
open Go Go.RowKit
section
variable {P : Program} {ops : Array Oper} {Q : Exit → Act → World → Prop} {md : Region.Mode} {S : World → Prop} {Z : Nat → Bool}
/-- whatever order is picked; S holds behind each operation but those of Z -/
def wpAnyP (P : Program) (md : Region.Mode) (ops : Array Oper) (Q : Exit → Act → World → Prop) (Z : Nat → Bool) (S : World → Prop) : Nat → Array Bool → Act → World → Prop
  | 0, listed, a, w => Region.ready md ops listed = [] ∧ Q .normal a w
  | n + 1, listed, a, w => (Region.ready md ops listed = [] → Q .normal a w) ∧ ∀ i ∈ Region.ready md ops listed, wpOp P ops Q i (fun a' w' => (Z i = true ∨ (S w → S w')) ∧ wpAnyP P md ops Q Z S n (listed.setIfInBounds i true) a' w') a w
theorem wpAny_of_P : ∀ (n : Nat) (listed : Array Bool) (a : Act) (w : World), wpAnyP P md ops Q Z S n listed a w → wpAny P md ops Q n listed a w
  | 0, _, _, _, h => h
  | n + 1, _, _, _, h => ⟨h.1, fun i hi => wpOp_mono (fun _ _ h' => wpAny_of_P n _ _ _ h'.2) (h.2 i hi)⟩
/-- operation z waits for operation i -/
def waitsForP (md : Region.Mode) (ops : Array Oper) (z i : Nat) : Bool := ((ops[z]?).map fun o => o.after.any fun e => e.on == i && Region.binds md e).getD false
theorem ready_notP {listed : Array Bool} {i : Nat} (h : i ∈ Region.ready md ops listed) : listed.getD i true = false := (mem_ready.1 h).1
theorem z_waitsP {listed : Array Bool} {z i : Nat} (hz : waitsForP md ops z i = true) (h : z ∈ Region.ready md ops listed) (hi : listed.getD i true = false) : False := by
  obtain ⟨_, oz, hoz, hall⟩ := mem_ready.1 h
  unfold waitsForP at hz
  rw [hoz] at hz
  simp only [Option.map_some, Option.getD_some, Array.any_eq_true, Bool.and_eq_true, beq_iff_eq] at hz
  obtain ⟨k, hk, he, hb⟩ := hz
  have := hall _ (Array.getElem_mem hk) hb
  rw [he] at this
  rcases Nat.lt_or_ge i listed.size with h' | h'
  · simp [h'] at hi this; rw [hi] at this; cases this
  · simp [Array.getElem?_eq_none h'] at this
def allWaitP (md : Region.Mode) (ops : Array Oper) (Z : Nat → Bool) (i : Nat) : Bool := (List.range ops.size).all fun z => !Z z || waitsForP md ops z i
theorem Z_waitsP {listed : Array Bool} {i j : Nat} (hz : allWaitP md ops Z i = true) (h : j ∈ Region.ready md ops listed) (hj : Z j = true) (hi : listed.getD i true = false) : False := by
  obtain ⟨_, oz, hoz, _⟩ := mem_ready.1 h
  have hl : j < ops.size := (Array.getElem?_eq_some_iff.1 hoz).1
  have := List.all_eq_true.1 hz j (List.mem_range.2 hl)
  rw [hj] at this
  exact z_waitsP (by simpa using this) h hi
theorem wpAnyP_first {i : Nat} {oi : Oper} {v : Value} (hi : ops[i]? = some oi) (hsel : ∀ (j : Nat) (o : Oper) cs b, ops[j]? = some o → o.op ≠ .select cs b) (hQ : ∀ c a w, Q (.panic c) (a.put oi.dst v) w → Q (.panic c) a w) (hz : allWaitP md ops Z i = true) :
    ∀ (n : Nat) (listed : Array Bool) (a : Act) (w : World), (∀ j oj, ops[j]? = some oj → j ≠ i → listed.getD j true = false → (∀ e ∈ oj.after, Region.binds md e = true → e.on ≠ i) → oi.apart ops oj = true) →
      i ∈ Region.ready md ops listed → YieldsIf P ops S oi v a → S w → wpAnyP P md ops Q Z S n (listed.setIfInBounds i true) (a.put oi.dst v) w → wpAnyP P md ops Q Z S (n + 1) listed a w
  | n, listed, a, w, hfree, hr, hy, hS, H => by
    refine ⟨fun h => (by rw [h] at hr; cases hr), fun j hj => ?_⟩
    by_cases hji : j = i
    · subst hji; exact hy.wpOp hi hS ⟨.inr fun h => h, H⟩
    · have hjr := ready_mono hj hji
      cases n with
      | zero => rw [H.1] at hjr; cases hjr
      | succ n =>
        have h1 := H.2 j hjr
        obtain ⟨hjun, oj, hoj, hall⟩ := mem_ready.1 hj
        have hun := ready_notP hr
        have hnot : ∀ e ∈ oj.after, Region.binds md e = true → e.on ≠ i := fun e he hb heq => by
          have h1 := hall e he hb
          rw [heq] at h1
          rcases Nat.lt_or_ge i listed.size with h' | h'
          · simp [h'] at hun h1; rw [hun] at h1; cases h1
          · simp [Array.getElem?_eq_none h'] at h1
        have h2 := wpOp_putIf hoj (hfree j oj hoj hji hjun hnot) (fun cs b => hsel i oi cs b hi) (fun cs b => hsel j oj cs b hoj) hQ hy h1
        refine wpOp_mono (fun a' w' h3 => ?_) h2
        have hS' : S w' := (h3.2.1.resolve_left fun e => Z_waitsP hz hj e hun) hS
        refine ⟨.inr fun _ => hS', wpAnyP_first hi hsel hQ hz n (listed.setIfInBounds j true) a' w' (fun k ok hk hki hun2 hno => hfree k ok hk hki ?_ hno) (ready_mono hr (Ne.symm hji)) h3.1 hS' ?_⟩
        · by_cases hjk : j = k
          · subst hjk; exact hjun
          · rw [getD_set_ne true hjk] at hun2; exact hun2
        · rw [Array.setIfInBounds_comm _ _ hji]
          exact h3.2.2
theorem wpAnyP_take {i : Nat} {oi : Oper} {v : Value} {n : Nat} {listed : Array Bool} {a : Act} {w : World} (hi : ops[i]? = some oi) (hs : Region.noSelect ops = true) (hz : allWaitP md ops Z i = true) (hf : Region.free md ops listed i = true) (hr : (Region.ready md ops listed).contains i = true)
    (hQ : ∀ c a w, Q (.panic c) (a.put oi.dst v) w → Q (.panic c) a w) (hy : YieldsIf P ops S oi v a) (hS : S w) (h : wpAnyP P md ops Q Z S n (listed.setIfInBounds i true) (a.put oi.dst v) w) : wpAnyP P md ops Q Z S (n + 1) listed a w :=
  wpAnyP_first hi (Region.noSelect_spec hs) hQ hz n listed a w (Region.free_spec hi hf) (by simpa using hr) hy hS h
/-- that operation i may be taken first -/
def tkOkP (md : Region.Mode) (ops : Array Oper) (Z : Nat → Bool) (listed : Array Bool) (i : Nat) : Bool := Region.noSelect ops && allWaitP md ops Z i && Region.free md ops listed i && (Region.ready md ops listed).contains i
theorem tkP {n : Nat} {listed : Array Bool} {a : Act} {w : World} (i : Nat) (oi : Oper) (v : Value) (hi : ops[i]? = some oi) (hk : tkOkP md ops Z listed i = true) (hQ : ∀ c a w, Q (.panic c) (a.put oi.dst v) w → Q (.panic c) a w) (hy : YieldsIf P ops S oi v a) (hS : S w)
    (h : wpAnyP P md ops Q Z S n (listed.setIfInBounds i true) (a.put oi.dst v) w) : wpAnyP P md ops Q Z S (n + 1) listed a w := by
  unfold tkOkP at hk
  simp only [Bool.and_eq_true] at hk
  exact wpAnyP_take hi hk.1.1.1 hk.1.1.2 hk.1.2 hk.2 hQ hy hS h
/-- what reads no world, whatever has come up -/
theorem wpAnyP_firstP {i : Nat} {oi : Oper} {v : Value} (hi : ops[i]? = some oi) (hsel : ∀ (j : Nat) (o : Oper) cs b, ops[j]? = some o → o.op ≠ .select cs b) (hQ : ∀ c a w, Q (.panic c) (a.put oi.dst v) w → Q (.panic c) a w) :
    ∀ (n : Nat) (listed : Array Bool) (a : Act) (w : World), (∀ j oj, ops[j]? = some oj → j ≠ i → listed.getD j true = false → (∀ e ∈ oj.after, Region.binds md e = true → e.on ≠ i) → oi.apart ops oj = true) →
      i ∈ Region.ready md ops listed → YieldsIf P ops (fun _ => True) oi v a → wpAnyP P md ops Q Z S n (listed.setIfInBounds i true) (a.put oi.dst v) w → wpAnyP P md ops Q Z S (n + 1) listed a w
  | n, listed, a, w, hfree, hr, hy, H => by
    refine ⟨fun h => (by rw [h] at hr; cases hr), fun j hj => ?_⟩
    by_cases hji : j = i
    · subst hji; exact hy.wpOp hi trivial ⟨.inr fun h => h, H⟩
    · have hjr := ready_mono hj hji
      cases n with
      | zero => rw [H.1] at hjr; cases hjr
      | succ n =>
        have h1 := H.2 j hjr
        obtain ⟨hjun, oj, hoj, hall⟩ := mem_ready.1 hj
        have hun := ready_notP hr
        have hnot : ∀ e ∈ oj.after, Region.binds md e = true → e.on ≠ i := fun e he hb heq => by
          have h1 := hall e he hb
          rw [heq] at h1
          rcases Nat.lt_or_ge i listed.size with h' | h'
          · simp [h'] at hun h1; rw [hun] at h1; cases h1
          · simp [Array.getElem?_eq_none h'] at h1
        have h2 := wpOp_putIf hoj (hfree j oj hoj hji hjun hnot) (fun cs b => hsel i oi cs b hi) (fun cs b => hsel j oj cs b hoj) hQ hy h1
        refine wpOp_mono (fun a' w' h3 => ?_) h2
        refine ⟨h3.2.1, wpAnyP_firstP hi hsel hQ n (listed.setIfInBounds j true) a' w' (fun k ok hk hki hun2 hno => hfree k ok hk hki ?_ hno) (ready_mono hr (Ne.symm hji)) h3.1 ?_⟩
        · by_cases hjk : j = k
          · subst hjk; exact hjun
          · rw [getD_set_ne true hjk] at hun2; exact hun2
        · rw [Array.setIfInBounds_comm _ _ hji]
          exact h3.2.2
theorem wpAnyP_takeP {i : Nat} {oi : Oper} {v : Value} {n : Nat} {listed : Array Bool} {a : Act} {w : World} (hi : ops[i]? = some oi) (hs : Region.noSelect ops = true) (hf : Region.free md ops listed i = true) (hr : (Region.ready md ops listed).contains i = true)
    (hQ : ∀ c a w, Q (.panic c) (a.put oi.dst v) w → Q (.panic c) a w) (hy : YieldsIf P ops (fun _ => True) oi v a) (h : wpAnyP P md ops Q Z S n (listed.setIfInBounds i true) (a.put oi.dst v) w) : wpAnyP P md ops Q Z S (n + 1) listed a w :=
  wpAnyP_firstP hi (Region.noSelect_spec hs) hQ n listed a w (Region.free_spec hi hf) (by simpa using hr) hy h
theorem tkPP {n : Nat} {listed : Array Bool} {a : Act} {w : World} (i : Nat) (oi : Oper) (v : Value) (hi : ops[i]? = some oi) (hk : (Region.noSelect ops && Region.free md ops listed i && (Region.ready md ops listed).contains i) = true) (hQ : ∀ c a w, Q (.panic c) (a.put oi.dst v) w → Q (.panic c) a w) (hy : YieldsIf P ops (fun _ => True) oi v a)
    (h : wpAnyP P md ops Q Z S n (listed.setIfInBounds i true) (a.put oi.dst v) w) : wpAnyP P md ops Q Z S (n + 1) listed a w := by
  simp only [Bool.and_eq_true] at hk
  exact wpAnyP_takeP hi hk.1.1 hk.1.2 hk.2 hQ hy h
/-- one operation alone may come up -/
theorem wpAnyP_one {i : Nat} {o : Oper} {n : Nat} {listed : Array Bool} {a : Act} {w : World} (hr : Region.ready md ops listed = [i]) (ho : ops[i]? = some o)
    (h : ∀ K : Act → World → Prop, (∀ a w', (Z i = true ∨ (S w → S w')) → wpAnyP P md ops Q Z S n (listed.setIfInBounds i true) a w' → K a w') → if Region.wanted o (yielded ops a.tmps) = true then Oper.wp P o a w K Q else K (a.put o.dst undef) w) : wpAnyP P md ops Q Z S (n + 1) listed a w :=
  ⟨(fun h0 => by rw [hr] at h0; cases h0), fun j hj => by
    rw [hr, List.mem_singleton] at hj
    subst hj
    exact wpOp_step ho (fun K hK => h K fun a w hS hW => hK a w ⟨hS, hW⟩)⟩
/-- one of two operations may come up -/
theorem wpAnyP_two {i j : Nat} {oi oj : Oper} {n : Nat} {listed : Array Bool} {a : Act} {w : World} (hr : Region.ready md ops listed = [i, j]) (hi : ops[i]? = some oi) (hj : ops[j]? = some oj)
    (h1 : ∀ K : Act → World → Prop, (∀ a w', (Z i = true ∨ (S w → S w')) → wpAnyP P md ops Q Z S n (listed.setIfInBounds i true) a w' → K a w') → if Region.wanted oi (yielded ops a.tmps) = true then Oper.wp P oi a w K Q else K (a.put oi.dst undef) w)
    (h2 : ∀ K : Act → World → Prop, (∀ a w', (Z j = true ∨ (S w → S w')) → wpAnyP P md ops Q Z S n (listed.setIfInBounds j true) a w' → K a w') → if Region.wanted oj (yielded ops a.tmps) = true then Oper.wp P oj a w K Q else K (a.put oj.dst undef) w) : wpAnyP P md ops Q Z S (n + 1) listed a w :=
  ⟨(fun h0 => by rw [hr] at h0; cases h0), fun k hk => by
    rw [hr, List.mem_cons, List.mem_singleton] at hk
    rcases hk with rfl | rfl
    · exact wpOp_step hi (fun K hK => h1 K fun a w hS hW => hK a w ⟨hS, hW⟩)
    · exact wpOp_step hj (fun K hK => h2 K fun a w hS hW => hK a w ⟨hS, hW⟩)⟩
theorem wpAnyP_done {listed : Array Bool} {a : Act} {w : World} (hr : Region.ready md ops listed = []) (h : Q .normal a w) : ∀ n, wpAnyP P md ops Q Z S n listed a w
  | 0 => ⟨hr, h⟩
  | _ + 1 => ⟨fun _ => h, by rw [hr]; simp⟩
theorem wp_region_P (Z : Nat → Bool) (S : World → Prop) {id : Nat} {a : Act} {w : World} (hm : P.follows .mixedOrders = true) (hS : S w.drew) (h : S w.drew → wpAnyP P .any ops Q Z S ops.size (Array.replicate ops.size false) a w.drew) : (Code.region id ops true).wp P Q a w :=
  wp_region_any hm (wpAny_of_P _ _ _ _ (h hS))
end
end Go.Q

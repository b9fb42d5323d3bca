import Derived.Test.YtbcciokmlkofkaaGreatWSpec4c
set_option linter.unusedVariables false
set_option linter.unusedSimpArgs false
/- Layer 4 in plain Lean, on: a run, and its trace. -/
namespace Go.Q
/-- an order that is done -/
structure Stp where
  at_ : Int
  ord : Ord
  time : Int
  until_ : Int
def runQ : Nat → St → St
  | 0, s => s
  | n + 1, s => if s.why = 0 then runQ n (stepQ s) else s
def traceQ : Nat → St → List Stp
  | 0, _ => []
  | n + 1, s => if s.why = 0 then (if whyAt s = 0 then ⟨s.at_, ordAt s, s.time, untilAt s⟩ :: traceQ n (stepQ s) else []) else []
theorem doQ_same (s : St) (o : Ord) : (doQ s o).tape = s.tape ∧ (doQ s o).time = s.time ∧ (doQ s o).at_ = s.at_ ∧ (doQ s o).done = s.done ∧ (doQ s o).why = s.why := by
  unfold doQ
  dsimp only
  repeat' split
  all_goals exact ⟨rfl, rfl, rfl, rfl, rfl⟩
theorem whyAt_bd (s : St) : 0 ≤ whyAt s ∧ whyAt s ≤ 4 := by
  unfold whyAt
  repeat' split
  all_goals omega
theorem after_mod (t a : Int) : after t a % 16 = a % 16 := by unfold after; omega
theorem after_gt (t a : Int) : t + 1 ≤ after t a ∧ after t a ≤ t + 16 := by unfold after; omega
theorem whenEnd_bd (o : Ord) (t : Int) : t + 1 ≤ whenEnd o t ∧ whenEnd o t ≤ t + 60 := by
  have h1 := after_gt t o.frm
  have h2 := after_gt t o.to
  have h3 := after_gt (after t o.frm) o.to
  have h4 := after_gt (after (after t o.frm) o.to + 12) o.to
  unfold whenEnd
  repeat' split
  all_goals omega
theorem until_bd (o : Ord) (t : Int) (ng : Bool) : t + 2 ≤ whenUntil o t ng ∧ whenUntil o t ng ≤ t + 76 ∧ whenUntil o t ng % 16 = whenAt o ng % 16 := by
  have h1 := whenEnd_bd o t
  have h2 := after_gt (whenEnd o t) (whenAt o ng)
  exact ⟨by unfold whenUntil; omega, by unfold whenUntil; omega, after_mod _ _⟩
theorem set_all {xs : List Int} {P : Int → Prop} (h : ∀ x ∈ xs, P x) (i : Nat) {v : Int} (hv : P v) : ∀ x ∈ xs.set i v, P x := by
  intro x hx
  rcases List.mem_or_eq_of_mem_set hx with h1 | h1
  · exact h x h1
  · exact h1 ▸ hv
theorem doQ_valid {s : St} (h : Valid s) (h7 : ¬((ordAt s).op = 7 ∧ s.printed.length = 200)) (h6 : ¬((ordAt s).op = 6 ∧ s.taken = s.tape.length)) :
    (doQ s (ordAt s)).store.length = 128 ∧ (doQ s (ordAt s)).printed.length ≤ 200 ∧ (∀ x ∈ (doQ s (ordAt s)).store, 0 ≤ x ∧ x ≤ 16777215) ∧ (∀ x ∈ (doQ s (ordAt s)).printed, 0 ≤ x ∧ x ≤ 16777215) ∧
      0 ≤ (doQ s (ordAt s)).taken ∧ (doQ s (ordAt s)).taken ≤ s.tape.length := by
  have ho := h.ord
  generalize ordAt s = o at *
  obtain ⟨_, ⟨a0, a1⟩, ⟨b0, b1⟩, _⟩ : (0 ≤ o.op ∧ o.op ≤ 7) ∧ (0 ≤ o.frm ∧ o.frm ≤ 127) ∧ (0 ≤ o.to ∧ o.to ≤ 127) ∧ 0 ≤ o.nxt ∧ o.nxt ≤ 127 := by
    simp only [ordB, addrB, Bool.and_eq_true] at ho
    exact ⟨inB_bd ho.1.1.1, inB_bd ho.1.1.2, inB_bd ho.1.2, inB_bd ho.2⟩
  have wa := h.word o.frm a0 a1
  have wb := h.word o.to b0 b1
  have st := h.ws
  have pt := h.wp
  have hl := h.len
  have hp := h.plen
  have ht := h.taken
  unfold doQ
  dsimp only
  split
  · exact ⟨by simpa using hl, hp, set_all st _ wa, pt, ht.1, ht.2⟩
  split
  · exact ⟨by simpa using hl, hp, set_all st _ (by omega), pt, ht.1, ht.2⟩
  split
  · exact ⟨by simpa using hl, hp, set_all st _ (by omega), pt, ht.1, ht.2⟩
  split
  · exact ⟨by simpa using hl, hp, set_all st _ (by unfold prod; omega), pt, ht.1, ht.2⟩
  split
  · rename_i e6
    have hlt : s.taken < s.tape.length := by
      rcases Int.lt_or_le s.taken s.tape.length with h | h'
      · exact h
      · exact absurd ⟨e6, by omega⟩ h6
    exact ⟨by simpa using hl, hp, set_all st _ (mem_get (by omega) h.wt), pt, by show 0 ≤ s.taken + 1; omega, by show s.taken + 1 ≤ _; omega⟩
  split
  · rename_i e7
    refine ⟨hl, ?_, st, ?_, ht.1, ht.2⟩
    · have : s.printed.length ≠ 200 := fun e => h7 ⟨e7, e⟩
      simp only [List.length_append, List.length_cons, List.length_nil]
      omega
    · intro x hx
      rcases List.mem_append.1 hx with h1 | h1
      · exact pt x h1
      · simp only [List.mem_singleton] at h1; exact h1 ▸ wa
  · exact ⟨hl, hp, st, pt, ht.1, ht.2⟩
theorem stepQ_valid {s : St} (h : Valid s) : Valid (stepQ s) := by
  unfold stepQ
  split
  · rename_i hw
    have h7 : ¬((ordAt s).op = 7 ∧ s.printed.length = 200) := by
      intro hc; unfold whyAt at hw; rw [if_neg (by omega), if_neg (by omega), if_pos hc] at hw; omega
    have h6 : ¬((ordAt s).op = 6 ∧ s.taken = s.tape.length) := by
      intro hc; unfold whyAt at hw; rw [if_neg (by omega), if_pos hc] at hw; omega
    have hu : untilAt s ≤ 1000000000 := by
      by_cases hc : untilAt s ≤ 1000000000
      · exact hc
      have hc' : 1000000000 < untilAt s := by omega
      by_cases h0 : (ordAt s).op = 0
      · simp [whyAt, h0] at hw
      · simp [whyAt, h0, h6, h7, hc'] at hw
    obtain ⟨d1, d2, d3, d4, d5, d6⟩ := doQ_valid h h7 h6
    obtain ⟨q1, q2, q3, q4, q5⟩ := doQ_same s (ordAt s)
    have ub := until_bd (ordAt s) s.time (negAt s)
    have ue : untilAt s = whenUntil (ordAt s) s.time (negAt s) := rfl
    have ho := h.ord
    simp only [ordB, addrB, Bool.and_eq_true] at ho
    have b1 := inB_bd ho.1.2
    have b2 := inB_bd ho.2
    have hat : 0 ≤ whenAt (ordAt s) (negAt s) ∧ whenAt (ordAt s) (negAt s) ≤ 127 := by unfold whenAt; split <;> assumption
    have ht := h.time
    have hd := h.done
    have hy := h.why
    exact ⟨d1, by show (doQ s (ordAt s)).tape.length ≤ _; rw [q1]; exact h.tlen, d2, d3, by show ∀ x ∈ (doQ s (ordAt s)).tape, _; rw [q1]; exact h.wt, d4,
      ⟨d5, by show _ ≤ ((doQ s (ordAt s)).tape.length : Int); rw [q1]; exact d6⟩, ⟨by show 0 ≤ untilAt s; omega, hu⟩, hat, ⟨by show 0 ≤ s.done + 1; omega, by show s.done + 1 ≤ untilAt s; omega⟩, by show 0 ≤ (doQ s (ordAt s)).why ∧ _; rw [q5]; exact hy, by show untilAt s % 16 = _; rw [ue]; exact ub.2.2⟩
  · have hy := whyAt_bd s
    exact ⟨h.len, h.tlen, h.plen, h.ws, h.wt, h.wp, h.taken, h.time, h.at_, h.done, hy, h.place⟩
theorem runQ_valid : ∀ (n : Nat) {s : St}, Valid s → Valid (runQ n s)
  | 0, _, h => h
  | n + 1, s, h => by
    unfold runQ
    split
    · exact runQ_valid n (stepQ_valid h)
    · exact h
/-- one order more -/
theorem runQ_snoc : ∀ (n : Nat) (s : St), runQ (n + 1) s = if (runQ n s).why = 0 then stepQ (runQ n s) else runQ n s
  | 0, s => rfl
  | n + 1, s => by
    show (if s.why = 0 then runQ (n + 1) (stepQ s) else s) = _
    by_cases h : s.why = 0
    · have e : runQ (n + 1) s = runQ n (stepQ s) := by simp [runQ, h]
      rw [if_pos h, e]; exact runQ_snoc n (stepQ s)
    · have e : runQ (n + 1) s = s := by simp [runQ, h]
      rw [if_neg h, e, if_neg h]
theorem stepQ_why {s : St} (h : s.why = 0) : (stepQ s).why = whyAt s := by
  unfold stepQ
  split
  · rename_i hw; rw [hw]; show (doQ s (ordAt s)).why = 0; rw [(doQ_same s _).2.2.2.2]; exact h
  · rfl
theorem traceQ_snoc : ∀ (n : Nat) (s : St), traceQ (n + 1) s = if (runQ n s).why = 0 ∧ (stepQ (runQ n s)).why = 0 then traceQ n s ++ [⟨(runQ n s).at_, ordAt (runQ n s), (runQ n s).time, (stepQ (runQ n s)).time⟩] else traceQ n s
  | 0, s => by
    by_cases h : s.why = 0
    · by_cases h2 : whyAt s = 0
      · have : (stepQ s).time = untilAt s := by unfold stepQ; rw [if_pos h2]
        simp [traceQ, runQ, h, h2, stepQ_why h, this]
      · simp [traceQ, runQ, h, h2, stepQ_why h]
    · simp [traceQ, runQ, h]
  | n + 1, s => by
    by_cases h : s.why = 0
    · have er : runQ (n + 1) s = runQ n (stepQ s) := by simp [runQ, h]
      by_cases h2 : whyAt s = 0
      · have e1 : traceQ (n + 1 + 1) s = ⟨s.at_, ordAt s, s.time, untilAt s⟩ :: traceQ (n + 1) (stepQ s) := by rw [traceQ]; simp [h, h2]
        have e2 : traceQ (n + 1) s = ⟨s.at_, ordAt s, s.time, untilAt s⟩ :: traceQ n (stepQ s) := by rw [traceQ]; simp [h, h2]
        rw [e1, e2, er, traceQ_snoc n (stepQ s)]
        split <;> simp
      · have e1 : traceQ (n + 1 + 1) s = [] := by rw [traceQ]; simp [h, h2]
        have e2 : traceQ (n + 1) s = [] := by rw [traceQ]; simp [h, h2]
        have hs : (stepQ s).why ≠ 0 := by rw [stepQ_why h]; exact h2
        have e3 : (runQ n (stepQ s)).why ≠ 0 := by
          cases n with
          | zero => exact hs
          | succ n => simp [runQ, hs]
        rw [e1, e2, er, if_neg (fun c => e3 c.1)]
    · have er : runQ (n + 1) s = s := by simp [runQ, h]
      have e1 : traceQ (n + 1 + 1) s = [] := by rw [traceQ]; simp [h]
      have e2 : traceQ (n + 1) s = [] := by rw [traceQ]; simp [h]
      rw [e1, e2, er, if_neg (fun c => h c.1)]
theorem traceQ_le : ∀ (n : Nat) (s : St), (traceQ n s).length ≤ n
  | 0, _ => Nat.le_refl _
  | n + 1, s => by
    have := traceQ_le n (stepQ s)
    unfold traceQ
    repeat' split
    all_goals simp
    omega
end Go.Q
/- Layer 4 in plain Lean, on: what Run, Trace and Begin return. -/
namespace Go.Q
open Go.RowKit
def zst : St := ⟨[], [], 0, [], 0, 0, 0, 0⟩
def runE (s : St) (most : Int) : St × Int := if askedQ s most = 0 then (runQ most.toNat s, 0) else (zst, askedQ s most)
def traceE (s : St) (most : Int) : List Stp × Int := if askedQ s most = 0 then (traceQ most.toNat s, 0) else ([], askedQ s most)
theorem asked_ok {s : St} {most : Int} (h : askedQ s most = 0) : (checkQ s).2.2 = 0 ∧ inB most 0 5000 = true := by
  by_cases h1 : (checkQ s).2.2 = 0
  · refine ⟨h1, ?_⟩
    cases h2 : inB most 0 5000 with
    | true => rfl
    | false => simp [askedQ, h1, h2] at h
  · simp [askedQ, h1] at h
theorem check_zero {s : St} (h : (checkQ s).2.2 = 0) : checkQ s = (0, 0, 0) := by
  unfold checkQ at *
  repeat' split at h
  all_goals first | (simp at h; done) | skip
  simp_all
  rw [if_neg (by omega), if_neg (by omega), if_neg (by omega)]
/-- cells of the block laid second -/
theorem box_at2 {w w1 : World} {o : Obj} {vs : Array Value} {T : TypeId} (h : Ext ((w.alloc o).alloc (.cells vs T)) w1) (i : Nat) {v : Value} (hv : vs[i]? = some v) : w1.cell? ⟨w.heap.size + 1, i, none⟩ = some v := by
  have := box_at h i hv
  simpa using this
theorem box_free2 {w w1 : World} {o : Obj} {vs : Array Value} {T : TypeId} (h : Ext ((w.alloc o).alloc (.cells vs T)) w1) (i : Nat) : w1.frozen? ⟨w.heap.size + 1, i, none⟩ = false := by
  have := box_free h i
  simpa using this
theorem ext_set8 {w w1 : World} {n : Nat} (h : Ext w w1) (hn : w.heap.size ≤ n) (a b c d e f g k : Value) : Ext w ((((((((w1.setCell ⟨n, 0, none⟩ a).setCell ⟨n, 1, none⟩ b).setCell ⟨n, 2, none⟩ c).setCell ⟨n, 3, none⟩ d).setCell ⟨n, 4, none⟩ e).setCell ⟨n, 5, none⟩ f).setCell ⟨n, 6, none⟩ g).setCell ⟨n, 7, none⟩ k) :=
  (((((((h.setCell (p := ⟨n, 0, none⟩) hn a).setCell (p := ⟨n, 1, none⟩) hn b).setCell (p := ⟨n, 2, none⟩) hn c).setCell (p := ⟨n, 3, none⟩) hn d).setCell (p := ⟨n, 4, none⟩) hn e).setCell (p := ⟨n, 5, none⟩) hn f).setCell (p := ⟨n, 6, none⟩) hn g).setCell (p := ⟨n, 7, none⟩) hn k
end Go.Q

import Derived.Test.YtnhpcoagkmgdoaaX30
import Derived.Test.YtnhpcoagkmgdoaaX4
set_option linter.unusedVariables false
set_option linter.unusedSimpArgs false
/- Layer 10's examples: layer 5's Program. -/
namespace Go.Proofs.Ytnhpcoagkmgdoaa
open Go.RowKit Go.Q
theorem ints_farZ {w : World} {b : Nat} {cs : Array Value} {T : TypeId} {a : Option Addr} {xs : List Int} (h : IntsAt w a xs) (hB : w.heap[b]? = some (.cells cs T (0, 0))) (hz : ∀ (i : Nat) (x : Int), cs[i]? = some (Value.int .i64 x) → x = 0) (hx : xs = [] ∨ ∃ i, i < xs.length ∧ xs[i]?.getD 0 ≠ 0) :
  xs = [] ∨ ∀ b' off, a = some ⟨b', off, none⟩ → b' ≠ b := by
 rcases hx with hx | ⟨i, hi, hne⟩
 ·exact .inl hx
 rcases h with h | ⟨b1, off, ha, hb, hc⟩
 ·exact .inl h
 ·refine .inr fun b' off' e eb => ?_
  rw [ha] at e
  cases e
  subst eb
  have h1 := hc i hi
  have h2 : w.heap[b1]? = some (.cells cs T (0, 0)) := hB
  simp only [World.cell?, h2] at h1
  simp at h1
  exact hne (hz _ _ h1)
theorem zeros8 : ∀ (i : Nat) (x : Int), (#[.slice none 0 0, .slice none 0 0, .int .i64 0, .slice none 0 0, .int .i64 0, .int .i64 0, .int .i64 0, .int .i64 0] : Array Value)[i]? = some (Value.int .i64 x) → x = 0 := by
 intro i x h
 have hi : i < 8 := (Array.getElem?_eq_some_iff.1 h).1
 obtain rfl | rfl | rfl | rfl | rfl | rfl | rfl | rfl : i = 0 ∨ i = 1 ∨ i = 2 ∨ i = 3 ∨ i = 4 ∨ i = 5 ∨ i = 6 ∨ i = 7 := by omega
 all_goals simp at h
 all_goals exact h.symm
/-- the call returned a state of layer 4 -/
def RetSt (s : St) (w : World) (e : Ending) (w' : World) : Prop := ∃ v, e = .returned v ∧ StAt w' v s ∧ Ext w w'
/-- no list of the state is all zeros -/
def NzS (s : St) : Prop := (s.store = [] ∨ ∃ i, i < s.store.length ∧ s.store[i]?.getD 0 ≠ 0) ∧ (s.tape = [] ∨ ∃ i, i < s.tape.length ∧ s.tape[i]?.getD 0 ≠ 0) ∧ (s.printed = [] ∨ ∃ i, i < s.printed.length ∧ s.printed[i]?.getD 0 ≠ 0)
theorem nz_st0 : NzS st0 := ⟨.inr ⟨0, by decide +kernel, by decide +kernel⟩, .inr ⟨0, by decide +kernel, by decide +kernel⟩, .inl (by decide +kernel)⟩
theorem ints_keepZ {w Y : World} {b : Nat} {a : Option Addr} {xs : List Int} (h : IntsAt w a xs) (hp : xs = [] ∨ ∀ b' off, a = some ⟨b', off, none⟩ → b' ≠ b) (k : KpM (fun q => q = b) w Y) : IntsAt Y a xs := by
 rcases hp with hp | hp
 ·exact .inl hp
 ·rcases h with h | ⟨q, off, ha, hq, hc⟩
  ·exact .inl h
  ·exact .inr ⟨q, off, ha, Nat.lt_of_lt_of_le hq k.size, fun i hi => (k.cell hq (hp q off ha)).trans (hc i hi)⟩
set_option maxRecDepth 100000 in
set_option maxHeartbeats 4000000 in
theorem program_any (w : World) : Calls Try.prog 26 #[] w (RetSt st0 w) := by
 have hnz := nz_st0
 have hbg := fun (a1 a2 : Option Addr) W (i1 : IntsAt W a1 storeQ) (i2 : IntsAt W a2 [3, 4, 16777215]) => rbegin_any a1 a2 15 3 15 3 storeQ [3, 4, 16777215] 0 W (by decide) (by decide) (by decide) (by decide) i1 i2
 have e0 : beginQ storeQ [3, 4, 16777215] 0 = (st0, 0) := Prod.ext rfl aw_begin
 rw [e0] at hbg
 clear e0
 generalize st0 = s at *
 have HN := Lib.hid hnz
 clear hnz
 go_enter Try.func26, Try.ntmps26
 go_wp2_with (go_at_call 63; refine (store_any _).mono ?_; rintro e w1 ⟨rfl, rfl⟩)
 go_wp2_with fail
 refine (hbg _ _ _ ?i1 ?i2).mono ?_
 case i1 =>
  have := ints_fresh (w := w.alloc (.cells #[.slice none 0 0, .slice none 0 0, .int .i64 0, .slice none 0 0, .int .i64 0, .int .i64 0, .int .i64 0, .int .i64 0] 33)) (xs := storeQ) (t := 3) rfl ((Ext.refl _).alloc (.cells #[.int .i64 3, .int .i64 4, .int .i64 16777215] 3))
  rw [World.size_alloc] at this
  exact this
 case i2 =>
  have := ints_fresh (w := (w.alloc (.cells #[.slice none 0 0, .slice none 0 0, .int .i64 0, .slice none 0 0, .int .i64 0, .int .i64 0, .int .i64 0, .int .i64 0] 33)).alloc (.cells (iv storeQ).toArray 3)) (xs := [3, 4, 16777215]) (t := 3) rfl (Ext.refl _)
  simp only [World.size_alloc] at this
  exact this
 rintro e w1 ⟨v, rfl, ⟨a1, a2, a3, k1, k2, k3, rfl, I1, I2, I3⟩, E1⟩
 have RB0 := heap_alloc_new w (.cells #[.slice none 0 0, .slice none 0 0, .int .i64 0, .slice none 0 0, .int .i64 0, .int .i64 0, .int .i64 0, .int .i64 0] 33)
 have RB := (E1.old.old.block w.heap.size (by simp)).trans RB0
 have F1 : Ext w w1 := E1.old.old.old
 have G1 := ints_farZ I1 RB zeros8 HN.out.1
 have G2 := ints_farZ I2 RB zeros8 HN.out.2.1
 have G3 := ints_farZ I3 RB zeros8 HN.out.2.2
 have HG := Lib.hid (And.intro (And.intro I1 (And.intro I2 I3)) (And.intro G1 (And.intro G2 G3)))
 clear I1 I2 I3 G1 G2 G3 hbg RB0
 have RBo := fun ob => (((Ext.refl w1).alloc ob).block w.heap.size (lt_of_block RB)).trans RB
 have q0 := fun ob => blk_cell (RBo ob) 0 (v := .slice none 0 0) rfl
 have q1 := fun ob => blk_cell (RBo ob) 1 (v := .slice none 0 0) rfl
 have q2 := fun ob => blk_cell (RBo ob) 2 (v := .int .i64 0) rfl
 have q3 := fun ob => blk_cell (RBo ob) 3 (v := .slice none 0 0) rfl
 have q4 := fun ob => blk_cell (RBo ob) 4 (v := .int .i64 0) rfl
 have q5 := fun ob => blk_cell (RBo ob) 5 (v := .int .i64 0) rfl
 have q6 := fun ob => blk_cell (RBo ob) 6 (v := .int .i64 0) rfl
 have q7 := fun ob => blk_cell (RBo ob) 7 (v := .int .i64 0) rfl
 have f0 := fun ob => blk_free (RBo ob) 0
 have f1 := fun ob => blk_free (RBo ob) 1
 have f2 := fun ob => blk_free (RBo ob) 2
 have f3 := fun ob => blk_free (RBo ob) 3
 have f4 := fun ob => blk_free (RBo ob) 4
 have f5 := fun ob => blk_free (RBo ob) 5
 have f6 := fun ob => blk_free (RBo ob) 6
 have f7 := fun ob => blk_free (RBo ob) 7
 have HRB := Lib.hid RBo
 clear RBo
 go_wp2_with fail
 refine bodyPost_ret (v := sv a1 a2 a3 s.store.length k1 s.tape.length k2 s.printed.length k3 s.taken s.time s.at_ s.done s.why) (by simp [results, Try.results26, go_sem, q0, q1, q2, q3, q4, q5, q6, q7]) rfl ?_
 obtain ⟨⟨I1, I2, I3⟩, G1, G2, G3⟩ := HG.out
 have KR := s8_kp (M := fun q => q = w.heap.size) (w := w1.alloc (.cells #[.slice a1 s.store.length k1, .slice a2 s.tape.length k2, .int .i64 s.taken, .slice a3 s.printed.length k3, .int .i64 s.time, .int .i64 s.at_, .int .i64 s.done, .int .i64 s.why] 33)) (b := w.heap.size) (n0 := .slice a1 s.store.length k1) (n1 := .slice a2 s.tape.length k2) (n2 := .int .i64 s.taken) (n3 := .slice a3 s.printed.length k3) (n4 := .int .i64 s.time) (n5 := .int .i64 s.at_) (n6 := .int .i64 s.done) (n7 := .int .i64 s.why) rfl
 exact ⟨_, rfl, ⟨a1, a2, a3, k1, k2, k3, rfl, ints_keepZ (I1.ext ((Ext.refl _).alloc _)) G1 KR, ints_keepZ (I2.ext ((Ext.refl _).alloc _)) G2 KR, ints_keepZ (I3.ext ((Ext.refl _).alloc _)) G3 KR⟩, (F1.alloc _).below5 KR (fun b hb => by omega)⟩
end Go.Proofs.Ytnhpcoagkmgdoaa

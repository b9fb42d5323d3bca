import Derived.Deep.DeepCutAuto
import Derived.RegionTactic
import Derived.Deep.RegionLaw
import Derived.Test.YtnhpcoagkmgdoaaGreatXAW4
import Derived.Test.YtnhpcoagkmgdoaaGreatXFrame10
import Derived.Test.YtnhpcoagkmgdoaaGreatXFacts10
import Derived.Test.YtnhpcoagkmgdoaaGreatX31
set_option linter.unusedVariables false
set_option linter.unusedSimpArgs false
/- Contracts: ref when, When (both), Encode, Decode, Signed (both). -/
namespace Go.Proofs.YtnhpcoagkmgdoaaGreat
open Go.RowKit Go.Q
set_option maxHeartbeats 1000000 in
theorem rdecodeE_any (n : Int) (w : World) :
  Calls Tryz.prog 84 #[.int .i64 n] w fun e w' => e = .returned (ovE (decQ n)) ∧ Ext w w' := by
 cases h : wordB n with
 | false =>
  go_enter Tryz.func84, Tryz.ntmps84
  go_wp2_with (go_at_call 99; refine (word_any n _).mono ?_; rintro e w' ⟨rfl, rfl⟩)
  exact bodyPost_ret (v := .tuple #[.agg #[.int .i64 0, .int .i64 0, .int .i64 0, .int .i64 0], .int .i64 7]) (by simp [results, Tryz.results84, go_sem]) rfl ⟨by simp [decQ, h, ovE], (Ext.refl w).alloc _⟩
 | true =>
  obtain ⟨h0, h1⟩ := wordB_bd h
  have e : decQ n = (decodeQ n, 0) := by simp [decQ, h]
  rw [e]
  have hd := fun W => rdecode_any n W h0 h1
  generalize decodeQ n = o at hd ⊢
  go_enter Tryz.func84, Tryz.ntmps84
  go_wp2_with fail
  refine (word_any n _).mono ?_
  rintro e w' ⟨rfl, rfl⟩
  go_wp2_with fail
  refine (hd _).mono ?_
  rintro e w2 ⟨rfl, hb3⟩
  have q0 := box_at (v := .int .i64 0) hb3 0 rfl
  have q1 := box_at (v := .int .i64 0) hb3 1 rfl
  have q2 := box_at (v := .int .i64 0) hb3 2 rfl
  have q3 := box_at (v := .int .i64 0) hb3 3 rfl
  have f0 := box_free hb3 0
  have f1 := box_free hb3 1
  have f2 := box_free hb3 2
  have f3 := box_free hb3 3
  go_wp2
  exact bodyPost_ret (v := ovE (o, 0)) (by simp [results, Tryz.results84, go_sem, q0, q1, q2, q3, ovE]) rfl ⟨rfl, ext_set4 hb3.old (Nat.le_refl _) _ _ _ _ _ _ _ _⟩
end Go.Proofs.YtnhpcoagkmgdoaaGreat
/- Layer 10's reference: in, bit, power, Holes, odd. -/
namespace Go.Q
open Go.RowKit
end Go.Q
namespace Go.Proofs.YtnhpcoagkmgdoaaGreat
open Go.RowKit Go.Q
set_option maxHeartbeats 1000000 in
theorem rbit_any (n k : Nat) (w : World) (hn : n ≤ 9223372036854775807) (hk : k ≤ 64) : Calls Tryz.prog 50 #[.int .i64 n, .int .i64 k] w fun e w' => e = .returned (.int .i64 ((n / 2 ^ k % 2 : Nat) : Int)) ∧ w' = w := by
 obtain ⟨v, hv⟩ : ∃ v, n / 2 ^ k % 2 = v := ⟨_, rfl⟩
 rw [hv]
 have HV := Lib.hid hv
 clear hv
 go_enter Tryz.func50, Tryz.ntmps50
 go_wp2
 go_loopw [0, 5] (fun s0 s3 wr => ∃ i : Nat, i ≤ k ∧ s3 = .int .i64 (i : Int) ∧ s0 = .int .i64 ((n / 2 ^ i : Nat) : Int) ∧ wr = w) (fun _ s3 _ => k - (Go.RowKit.intOf s3).toNat)
 case atStart => exact ⟨0, Nat.zero_le _, rfl, by simp, rfl⟩
 case round =>
  obtain ⟨i, hi, rfl, rfl, rfl⟩ := hrel
  have hle : n / 2 ^ i ≤ n := Nat.div_le_self _ _
  by_cases hlt : i < k
  ·have hltz : (i : Int) < (k : Int) := by omega
   have HP := Lib.hid (show n / 2 ^ (i + 1) = n / 2 ^ i / 2 by rw [Nat.pow_succ, Nat.div_div_eq_div_mul])
   obtain ⟨x, hx⟩ : ∃ x, n / 2 ^ i = x := ⟨_, rfl⟩
   rw [hx] at hle HP ⊢
   obtain ⟨y, hy⟩ : ∃ y, x / 2 = y := ⟨_, rfl⟩
   rw [hy] at HP
   have t1 : Int.tdiv (x : Int) 2 = (y : Int) := by rw [Int.tdiv_eq_ediv_of_nonneg (by omega)]; omega
   have t2 : (x : Int) / 2 = (y : Int) := by omega
   have t3 : IntKind.i64.wrap (y : Int) = (y : Int) := IntWalk.i64_in _ (by omega)
   clear hx hy
   go_wp2
   go_roundw
   case rel => exact ⟨i + 1, by omega, by go_num, by rw [HP.out], (by first | rfl | trivial)⟩
   case measure => simp [Go.RowKit.intOf]; omega
  ·have hltz : ¬ (i : Int) < (k : Int) := by omega
   obtain rfl : i = k := by omega
   obtain ⟨x, hx⟩ : ∃ x, n / 2 ^ i = x := ⟨_, rfl⟩
   rw [hx] at hle ⊢
   obtain ⟨y, hy⟩ : ∃ y, x % 2 = y := ⟨_, rfl⟩
   obtain rfl : y = v := by rw [← HV.out, hx]; exact hy.symm
   have t1 : Int.tmod (x : Int) 2 = (y : Int) := by rw [Int.tmod_eq_emod_of_nonneg (by omega)]; omega
   have t2 : (x : Int) % 2 = (y : Int) := by omega
   clear hx hy
   go_wp2
   exact bodyPost_ret (v := .int .i64 (y : Int)) (by simp [results, Tryz.results50, go_sem]) rfl ⟨rfl, rfl⟩
set_option maxHeartbeats 1000000 in
theorem rpower10_any (n : Nat) (w : World) (hn : n ≤ 40) : Calls Tryz.prog 51 #[.int .i64 n] w fun e w' => e = .returned (.int .i64 ((2 ^ n : Nat) : Int)) ∧ w' = w := by
 go_enter Tryz.func51, Tryz.ntmps51
 go_wp2
 go_loopw [3, 4] (fun s2 s3 wr => ∃ k : Nat, k ≤ n ∧ s3 = .int .i64 (k : Int) ∧ s2 = .int .i64 ((2 ^ k : Nat) : Int) ∧ wr = w) (fun _ s3 _ => n - (Go.RowKit.intOf s3).toNat)
 case atStart => exact ⟨0, Nat.zero_le _, rfl, rfl, rfl⟩
 case round =>
  obtain ⟨k, hk, rfl, rfl, rfl⟩ := hrel
  have hb : 2 ^ k ≤ 2 ^ 40 := Nat.pow_le_pow_right (by decide) (by omega)
  rw [show 2 ^ 40 = 1099511627776 from rfl] at hb
  by_cases hlt : k < n
  ·have hltz : (k : Int) < (n : Int) := by omega
   have HP := Lib.hid (show 2 ^ (k + 1) = 2 * 2 ^ k by rw [Nat.pow_succ]; omega)
   obtain ⟨x, hx⟩ : ∃ x, 2 ^ k = x := ⟨_, rfl⟩
   rw [hx] at hb HP ⊢
   clear hx
   go_wp2
   go_roundw
   case rel => exact ⟨k + 1, by omega, by go_num, by rw [HP.out]; go_num, (by first | rfl | trivial)⟩
   case measure => simp [Go.RowKit.intOf]; omega
  ·have hltz : ¬ (k : Int) < (n : Int) := by omega
   obtain rfl : k = n := by omega
   obtain ⟨x, hx⟩ : ∃ x, 2 ^ k = x := ⟨_, rfl⟩
   rw [hx]
   go_wp2
   exact bodyPost_ret (v := .int .i64 (x : Int)) (by simp [results, Tryz.results51, go_sem]) rfl ⟨rfl, rfl⟩
end Go.Proofs.YtnhpcoagkmgdoaaGreat
/- Layer 4's Run again: the lists that it returns lie in blocks of integers. -/
namespace Go.Proofs.YtnhpcoagkmgdoaaGreat
open Go.RowKit Go.Q
section
variable {W W' : World} {a : Option Addr} {xs : List Int}
end
def StResT (p : St × Int) (w : World) (e : Ending) (w' : World) : Prop := ∃ v, e = .returned (.tuple #[v, .int .i64 p.2]) ∧ StAtT w' v p.1 ∧ Ext w w'
variable {nb m g1 c1 n0 : Nat} {tv pv : Value} {s : St} {o : Ord}
end Go.Proofs.YtnhpcoagkmgdoaaGreat
/- Layer 10's reference: Reads. -/
namespace Go.Proofs.YtnhpcoagkmgdoaaGreat
open Go.RowKit Go.Q Go.Shelf Go.Maps Go.Joins
set_option maxHeartbeats 4000000
set_option maxRecDepth 100000
def ReadsRes (s : St) (w : World) (e : Ending) (w' : World) : Prop := ∃ a c, e = .returned (.tuple #[.slice a (readsQ s).length c, .int .i64 (writesQ s)]) ∧ IntsAt w' a (readsQ s) ∧ Ext w w'
theorem rreads_any (v : Value) (s : St) (w : World) (h : StAt w v s) (hv : Valid s) : Calls Tryz.prog 52 #[v] w (ReadsRes s w) := by
 obtain ⟨a1, a2, a3, k1, k2, k3, rfl, i1, i2, i3⟩ := h
 obtain ⟨p, hp⟩ := Int.eq_ofNat_of_zero_le hv.at_.1
 have hp1 := hv.at_.2
 have HA : Hid (s.at_ = (p : Int)) := Lib.hid hp
 have hp128 : p < 128 := by omega
 have hbd := wordAt_bd hv s.at_
 obtain ⟨wa, hwa⟩ : ∃ wa, wordAt s s.at_ = wa := ⟨_, rfl⟩
 rw [hwa] at hbd
 have hob := ordB_decode hbd.1 hbd.2
 obtain ⟨op, fm, tm, nx, ho⟩ : ∃ op fm tm nx, decodeQ wa = ⟨op, fm, tm, nx⟩ := ⟨_, _, _, _, rfl⟩
 have HO : Hid (ordAt s = ⟨op, fm, tm, nx⟩) := Lib.hid (by unfold ordAt; rw [hwa, ho])
 rw [ho] at hob
 simp only [ordB, addrB, inB, Bool.and_eq_true, decide_eq_true_eq] at hob
 obtain ⟨⟨⟨⟨ho0, ho7⟩, -, -⟩, -, -⟩, -, -⟩ := hob
 have hop : op = 0 ∨ op = 1 ∨ op = 2 ∨ op = 3 ∨ op = 4 ∨ op = 5 ∨ op = 6 ∨ op = 7 := by omega
 have hdec : ∀ W, Calls Tryz.prog 84 #[.int .i64 wa] W fun e w' => e = .returned (.tuple #[.agg #[.int .i64 op, .int .i64 fm, .int .i64 tm, .int .i64 nx], .int .i64 0]) ∧ Ext W w' := fun W => by
  have h := rdecodeE_any wa W
  have e : decQ wa = (⟨op, fm, tm, nx⟩, 0) := by
   unfold decQ
   rw [if_pos (by unfold wordB inB; simp; exact hbd), ho]
  rw [e] at h
  exact h
 have hl128 := hv.len
 obtain ⟨g, off, rfl, hgl, hgc⟩ : ∃ g off, a1 = some ⟨g, off, none⟩ ∧ g < w.heap.size ∧ ∀ i, i < s.store.length → w.cell? ⟨g, off + i, none⟩ = some (.int .i64 (s.store[i]?.getD 0)) := by
  rcases i1 with h | ⟨g, off, h1, h2, h3⟩
  ·rw [h] at hl128; simp at hl128
  ·exact ⟨g, off, h1, h2, h3⟩
 have hwp : w.cell? ⟨g, off + p, none⟩ = some (.int .i64 wa) := by
  have h := hgc p (by omega)
  have e := hwa
  unfold wordAt at e
  rw [HA.out, Int.toNat_natCast] at e
  rw [e] at h
  exact h
 have hwq := fun ob => (((Ext.refl w).alloc ob).cell (p := ⟨g, off + p, none⟩) hgl).trans hwp
 have hp0 : (0 : Int) ≤ (p : Int) := by omega
 have hpl : (p : Int) < (s.store.length : Int) := by rw [hl128]; omega
 obtain ⟨i0, hi0, hz0, hz1, hz2⟩ := info_parts Tryz.infoE
 clear hv i1 i2 i3 hbd ho hp1 ho0 ho7 hgc hwp hl128 hwa
 go_enter Tryz.func52, Tryz.ntmps52
 rw [hp]
 go_wp2_with fail
 refine (hdec _).mono ?_
 rintro e w1 ⟨rfl, E1⟩
 have g1 := (E1.block w.heap.size (by simp)).trans (heap_alloc_new w _)
 clear hdec hwq
 go_upto_region 2 with fail
 have g4 := heap_alloc_new w1 (.cells #[.int .i64 op, .int .i64 fm, .int .i64 tm, .int .i64 nx] 129)
 have EX0 := Ext.alloc (Ext.refl w1) (.cells #[.int .i64 op, .int .i64 fm, .int .i64 tm, .int .i64 nx] 129)
 obtain ⟨X, hX⟩ : ∃ X, w1.alloc (.cells #[.int .i64 op, .int .i64 fm, .int .i64 tm, .int .i64 nx] 129) = X := ⟨_, rfl⟩
 rw [hX] at g4 EX0 ⊢
 obtain ⟨t4, ht4⟩ : ∃ t4, w1.heap.size = t4 := ⟨_, rfl⟩
 rw [ht4] at g4 ⊢
 have HEX : Hid (Ext w X) := Lib.hid (E1.old.comp EX0)
 have gx := (EX0.block w.heap.size (lt_of_block g1)).trans g1
 have HT := Lib.hid (fun W (E : Ext X W) => have gb := (E.block t4 (lt_of_block g4)).trans g4; And.intro (blk_cell gb 0 (v := .int .i64 op) rfl) (And.intro (blk_cell gb 1 (v := .int .i64 fm) rfl) (blk_cell gb 2 (v := .int .i64 tm) rfl)))
 have q5 := blk_cell gx 5 (v := .int .i64 (p : Int)) rfl
 clear hX ht4 g1 E1 EX0 g4 gx
 go_upto_region 3 with fail
 have own1 : (X.alloc (.cells #[.int .i64 (p : Int)] 3)).ownsRow X.heap.size 3 1 (.slice (some ⟨X.heap.size, 0, none⟩) 1 1) 1 (iv [(p : Int)]) := World.ownsRow_lit X #[.int .i64 (p : Int)] 1 (Nat.le_refl _) (by unfold maxLen; decide) rfl
 have EY := Ext.alloc (Ext.refl X) (.cells #[.int .i64 (p : Int)] 3)
 obtain ⟨Y, hY⟩ : ∃ Y, X.alloc (.cells #[.int .i64 (p : Int)] 3) = Y := ⟨_, rfl⟩
 rw [hY] at own1 EY ⊢
 clear hY q5
 rcases hop with rfl | rfl | rfl | rfl | rfl | rfl | rfl | rfl
 ·have HL : Hid (readsQ s = [(p : Int)] ∧ writesQ s = -1) := Lib.hid (by unfold readsQ writesQ; rw [HO.out, HA.out]; constructor <;> simp)
  obtain ⟨t0, t1, t2⟩ := HT.out Y (EY)
  go_wp2_with fail
  refine (rin10_any 0 1 5 _).mono ?_
  rintro e yy ⟨rfl, hyy⟩
  rw [hyy]
  rw [show inB 0 1 5 = false by decide]
  clear hyy
  go_wp2_with fail
  refine (rin10_any 0 2 4 _).mono ?_
  rintro e yy ⟨rfl, hyy⟩
  rw [hyy]
  rw [show inB 0 2 4 = false by decide]
  clear hyy
  go_wp2_with fail
  refine (rin10_any 0 1 4 _).mono ?_
  rintro e yy ⟨rfl, hyy⟩
  rw [hyy]
  rw [show inB 0 1 4 = false by decide]
  clear hyy
  go_wp2
  refine bodyPost_ret (v := .tuple #[.slice (some ⟨X.heap.size, 0, none⟩) 1 1, .int .i64 (-1)]) (by simp [results, Tryz.results52, go_sem]) rfl ?_
  unfold ReadsRes
  rw [HL.out.1, HL.out.2]
  exact ⟨_, _, rfl, own_ints (xs := [(p : Int)]) own1, HEX.out.comp (EY)⟩
 ·have HL : Hid (readsQ s = [(p : Int), fm] ∧ writesQ s = tm) := Lib.hid (by unfold readsQ writesQ; rw [HO.out, HA.out]; constructor <;> simp)
  obtain ⟨t0, t1, t2⟩ := HT.out Y (EY)
  go_wp2_with fail
  refine (rin10_any 1 1 5 _).mono ?_
  rintro e yy ⟨rfl, hyy⟩
  rw [hyy]
  rw [show inB 1 1 5 = true by decide]
  clear hyy
  have oa := own_extX own1 ((Ext.refl Y).alloc (.cells #[.int .i64 fm] 3))
  have hws := (EY).size
  go_upto_region 5 with (at_builtin; refine wpList_append_own_at _ rfl _ _ 22 rfl X.heap.size 3 i0 (.int .i64 0) 1 8 Tryz.underlying22 hi0 hz0 hz1 hz2 rfl (by decide) _ _ _ rfl oa ⟨Y.heap.size, 0, none⟩ 1 1 [.int .i64 fm] rfl rfl (cell_one_new _ _ _) (by simp [Value.oneCell']) (by unfold maxLen; decide) (by decide) (by simp at hws ⊢; omega) ?_; intro v' ww1 hown hgrow hnil hat)
  have e1 : Ext X ww1 := (Ext.alloc (EY) _).grown hgrow (by simp at hws ⊢; omega) (fun q e => (oa.lt q e).1)
  have own2 := hown
  obtain ⟨g1, c1, rfl⟩ := ownsRow_form own2 (by decide)
  clear hown hgrow hnil hat oa hws
  (try go_frame)
  clear t0 t1 t2
  obtain ⟨t0, t1, t2⟩ := HT.out ww1 (e1)
  go_wp2_with fail
  refine (rin10_any 1 2 4 _).mono ?_
  rintro e yy ⟨rfl, hyy⟩
  rw [hyy]
  rw [show inB 1 2 4 = false by decide]
  clear hyy
  go_wp2_with fail
  refine (rin10_any 1 1 4 _).mono ?_
  rintro e yy ⟨rfl, hyy⟩
  rw [hyy]
  rw [show inB 1 1 4 = true by decide]
  clear hyy
  go_wp2
  refine bodyPost_ret (v := .tuple #[.slice (some ⟨g1, 0, none⟩) 2 c1, .int .i64 tm]) (by simp [results, Tryz.results52, go_sem]) rfl ?_
  unfold ReadsRes
  rw [HL.out.1, HL.out.2]
  exact ⟨_, _, rfl, own_ints (xs := [(p : Int), fm]) own2, HEX.out.comp (e1)⟩
 ·have HL : Hid (readsQ s = [(p : Int), fm, tm] ∧ writesQ s = tm) := Lib.hid (by unfold readsQ writesQ; rw [HO.out, HA.out]; constructor <;> simp)
  obtain ⟨t0, t1, t2⟩ := HT.out Y (EY)
  go_wp2_with fail
  refine (rin10_any 2 1 5 _).mono ?_
  rintro e yy ⟨rfl, hyy⟩
  rw [hyy]
  rw [show inB 2 1 5 = true by decide]
  clear hyy
  have oa := own_extX own1 ((Ext.refl Y).alloc (.cells #[.int .i64 fm] 3))
  have hws := (EY).size
  go_upto_region 5 with (at_builtin; refine wpList_append_own_at _ rfl _ _ 22 rfl X.heap.size 3 i0 (.int .i64 0) 1 8 Tryz.underlying22 hi0 hz0 hz1 hz2 rfl (by decide) _ _ _ rfl oa ⟨Y.heap.size, 0, none⟩ 1 1 [.int .i64 fm] rfl rfl (cell_one_new _ _ _) (by simp [Value.oneCell']) (by unfold maxLen; decide) (by decide) (by simp at hws ⊢; omega) ?_; intro v' ww1 hown hgrow hnil hat)
  have e1 : Ext X ww1 := (Ext.alloc (EY) _).grown hgrow (by simp at hws ⊢; omega) (fun q e => (oa.lt q e).1)
  have own2 := hown
  obtain ⟨g1, c1, rfl⟩ := ownsRow_form own2 (by decide)
  clear hown hgrow hnil hat oa hws
  (try go_frame)
  clear t0 t1 t2
  obtain ⟨t0, t1, t2⟩ := HT.out ww1 (e1)
  go_wp2_with fail
  refine (rin10_any 2 2 4 _).mono ?_
  rintro e yy ⟨rfl, hyy⟩
  rw [hyy]
  rw [show inB 2 2 4 = true by decide]
  clear hyy
  have oa := own_extX own2 ((Ext.refl ww1).alloc (.cells #[.int .i64 tm] 3))
  have hws := (e1).size
  go_upto_region 7 with (at_builtin; refine wpList_append_own_at _ rfl _ _ 22 rfl X.heap.size 3 i0 (.int .i64 0) 1 8 Tryz.underlying22 hi0 hz0 hz1 hz2 rfl (by decide) _ _ _ rfl oa ⟨ww1.heap.size, 0, none⟩ 1 1 [.int .i64 tm] rfl rfl (cell_one_new _ _ _) (by simp [Value.oneCell']) (by unfold maxLen; decide) (by decide) (by simp at hws ⊢; omega) ?_; intro v' ww2 hown hgrow hnil hat)
  have e2 : Ext X ww2 := (Ext.alloc (e1) _).grown hgrow (by simp at hws ⊢; omega) (fun q e => (oa.lt q e).1)
  have own3 := hown
  obtain ⟨g2, c2, rfl⟩ := ownsRow_form own3 (by decide)
  clear hown hgrow hnil hat oa hws
  (try go_frame)
  clear t0 t1 t2
  obtain ⟨t0, t1, t2⟩ := HT.out ww2 (e2)
  go_wp2_with fail
  refine (rin10_any 2 1 4 _).mono ?_
  rintro e yy ⟨rfl, hyy⟩
  rw [hyy]
  rw [show inB 2 1 4 = true by decide]
  clear hyy
  go_wp2
  refine bodyPost_ret (v := .tuple #[.slice (some ⟨g2, 0, none⟩) 3 c2, .int .i64 tm]) (by simp [results, Tryz.results52, go_sem]) rfl ?_
  unfold ReadsRes
  rw [HL.out.1, HL.out.2]
  exact ⟨_, _, rfl, own_ints (xs := [(p : Int), fm, tm]) own3, HEX.out.comp (e2)⟩
 ·have HL : Hid (readsQ s = [(p : Int), fm, tm] ∧ writesQ s = tm) := Lib.hid (by unfold readsQ writesQ; rw [HO.out, HA.out]; constructor <;> simp)
  obtain ⟨t0, t1, t2⟩ := HT.out Y (EY)
  go_wp2_with fail
  refine (rin10_any 3 1 5 _).mono ?_
  rintro e yy ⟨rfl, hyy⟩
  rw [hyy]
  rw [show inB 3 1 5 = true by decide]
  clear hyy
  have oa := own_extX own1 ((Ext.refl Y).alloc (.cells #[.int .i64 fm] 3))
  have hws := (EY).size
  go_upto_region 5 with (at_builtin; refine wpList_append_own_at _ rfl _ _ 22 rfl X.heap.size 3 i0 (.int .i64 0) 1 8 Tryz.underlying22 hi0 hz0 hz1 hz2 rfl (by decide) _ _ _ rfl oa ⟨Y.heap.size, 0, none⟩ 1 1 [.int .i64 fm] rfl rfl (cell_one_new _ _ _) (by simp [Value.oneCell']) (by unfold maxLen; decide) (by decide) (by simp at hws ⊢; omega) ?_; intro v' ww1 hown hgrow hnil hat)
  have e1 : Ext X ww1 := (Ext.alloc (EY) _).grown hgrow (by simp at hws ⊢; omega) (fun q e => (oa.lt q e).1)
  have own2 := hown
  obtain ⟨g1, c1, rfl⟩ := ownsRow_form own2 (by decide)
  clear hown hgrow hnil hat oa hws
  (try go_frame)
  clear t0 t1 t2
  obtain ⟨t0, t1, t2⟩ := HT.out ww1 (e1)
  go_wp2_with fail
  refine (rin10_any 3 2 4 _).mono ?_
  rintro e yy ⟨rfl, hyy⟩
  rw [hyy]
  rw [show inB 3 2 4 = true by decide]
  clear hyy
  have oa := own_extX own2 ((Ext.refl ww1).alloc (.cells #[.int .i64 tm] 3))
  have hws := (e1).size
  go_upto_region 7 with (at_builtin; refine wpList_append_own_at _ rfl _ _ 22 rfl X.heap.size 3 i0 (.int .i64 0) 1 8 Tryz.underlying22 hi0 hz0 hz1 hz2 rfl (by decide) _ _ _ rfl oa ⟨ww1.heap.size, 0, none⟩ 1 1 [.int .i64 tm] rfl rfl (cell_one_new _ _ _) (by simp [Value.oneCell']) (by unfold maxLen; decide) (by decide) (by simp at hws ⊢; omega) ?_; intro v' ww2 hown hgrow hnil hat)
  have e2 : Ext X ww2 := (Ext.alloc (e1) _).grown hgrow (by simp at hws ⊢; omega) (fun q e => (oa.lt q e).1)
  have own3 := hown
  obtain ⟨g2, c2, rfl⟩ := ownsRow_form own3 (by decide)
  clear hown hgrow hnil hat oa hws
  (try go_frame)
  clear t0 t1 t2
  obtain ⟨t0, t1, t2⟩ := HT.out ww2 (e2)
  go_wp2_with fail
  refine (rin10_any 3 1 4 _).mono ?_
  rintro e yy ⟨rfl, hyy⟩
  rw [hyy]
  rw [show inB 3 1 4 = true by decide]
  clear hyy
  go_wp2
  refine bodyPost_ret (v := .tuple #[.slice (some ⟨g2, 0, none⟩) 3 c2, .int .i64 tm]) (by simp [results, Tryz.results52, go_sem]) rfl ?_
  unfold ReadsRes
  rw [HL.out.1, HL.out.2]
  exact ⟨_, _, rfl, own_ints (xs := [(p : Int), fm, tm]) own3, HEX.out.comp (e2)⟩
 ·have HL : Hid (readsQ s = [(p : Int), fm, tm] ∧ writesQ s = tm) := Lib.hid (by unfold readsQ writesQ; rw [HO.out, HA.out]; constructor <;> simp)
  obtain ⟨t0, t1, t2⟩ := HT.out Y (EY)
  go_wp2_with fail
  refine (rin10_any 4 1 5 _).mono ?_
  rintro e yy ⟨rfl, hyy⟩
  rw [hyy]
  rw [show inB 4 1 5 = true by decide]
  clear hyy
  have oa := own_extX own1 ((Ext.refl Y).alloc (.cells #[.int .i64 fm] 3))
  have hws := (EY).size
  go_upto_region 5 with (at_builtin; refine wpList_append_own_at _ rfl _ _ 22 rfl X.heap.size 3 i0 (.int .i64 0) 1 8 Tryz.underlying22 hi0 hz0 hz1 hz2 rfl (by decide) _ _ _ rfl oa ⟨Y.heap.size, 0, none⟩ 1 1 [.int .i64 fm] rfl rfl (cell_one_new _ _ _) (by simp [Value.oneCell']) (by unfold maxLen; decide) (by decide) (by simp at hws ⊢; omega) ?_; intro v' ww1 hown hgrow hnil hat)
  have e1 : Ext X ww1 := (Ext.alloc (EY) _).grown hgrow (by simp at hws ⊢; omega) (fun q e => (oa.lt q e).1)
  have own2 := hown
  obtain ⟨g1, c1, rfl⟩ := ownsRow_form own2 (by decide)
  clear hown hgrow hnil hat oa hws
  (try go_frame)
  clear t0 t1 t2
  obtain ⟨t0, t1, t2⟩ := HT.out ww1 (e1)
  go_wp2_with fail
  refine (rin10_any 4 2 4 _).mono ?_
  rintro e yy ⟨rfl, hyy⟩
  rw [hyy]
  rw [show inB 4 2 4 = true by decide]
  clear hyy
  have oa := own_extX own2 ((Ext.refl ww1).alloc (.cells #[.int .i64 tm] 3))
  have hws := (e1).size
  go_upto_region 7 with (at_builtin; refine wpList_append_own_at _ rfl _ _ 22 rfl X.heap.size 3 i0 (.int .i64 0) 1 8 Tryz.underlying22 hi0 hz0 hz1 hz2 rfl (by decide) _ _ _ rfl oa ⟨ww1.heap.size, 0, none⟩ 1 1 [.int .i64 tm] rfl rfl (cell_one_new _ _ _) (by simp [Value.oneCell']) (by unfold maxLen; decide) (by decide) (by simp at hws ⊢; omega) ?_; intro v' ww2 hown hgrow hnil hat)
  have e2 : Ext X ww2 := (Ext.alloc (e1) _).grown hgrow (by simp at hws ⊢; omega) (fun q e => (oa.lt q e).1)
  have own3 := hown
  obtain ⟨g2, c2, rfl⟩ := ownsRow_form own3 (by decide)
  clear hown hgrow hnil hat oa hws
  (try go_frame)
  clear t0 t1 t2
  obtain ⟨t0, t1, t2⟩ := HT.out ww2 (e2)
  go_wp2_with fail
  refine (rin10_any 4 1 4 _).mono ?_
  rintro e yy ⟨rfl, hyy⟩
  rw [hyy]
  rw [show inB 4 1 4 = true by decide]
  clear hyy
  go_wp2
  refine bodyPost_ret (v := .tuple #[.slice (some ⟨g2, 0, none⟩) 3 c2, .int .i64 tm]) (by simp [results, Tryz.results52, go_sem]) rfl ?_
  unfold ReadsRes
  rw [HL.out.1, HL.out.2]
  exact ⟨_, _, rfl, own_ints (xs := [(p : Int), fm, tm]) own3, HEX.out.comp (e2)⟩
 ·have HL : Hid (readsQ s = [(p : Int), fm] ∧ writesQ s = -1) := Lib.hid (by unfold readsQ writesQ; rw [HO.out, HA.out]; constructor <;> simp)
  obtain ⟨t0, t1, t2⟩ := HT.out Y (EY)
  go_wp2_with fail
  refine (rin10_any 5 1 5 _).mono ?_
  rintro e yy ⟨rfl, hyy⟩
  rw [hyy]
  rw [show inB 5 1 5 = true by decide]
  clear hyy
  have oa := own_extX own1 ((Ext.refl Y).alloc (.cells #[.int .i64 fm] 3))
  have hws := (EY).size
  go_upto_region 5 with (at_builtin; refine wpList_append_own_at _ rfl _ _ 22 rfl X.heap.size 3 i0 (.int .i64 0) 1 8 Tryz.underlying22 hi0 hz0 hz1 hz2 rfl (by decide) _ _ _ rfl oa ⟨Y.heap.size, 0, none⟩ 1 1 [.int .i64 fm] rfl rfl (cell_one_new _ _ _) (by simp [Value.oneCell']) (by unfold maxLen; decide) (by decide) (by simp at hws ⊢; omega) ?_; intro v' ww1 hown hgrow hnil hat)
  have e1 : Ext X ww1 := (Ext.alloc (EY) _).grown hgrow (by simp at hws ⊢; omega) (fun q e => (oa.lt q e).1)
  have own2 := hown
  obtain ⟨g1, c1, rfl⟩ := ownsRow_form own2 (by decide)
  clear hown hgrow hnil hat oa hws
  (try go_frame)
  clear t0 t1 t2
  obtain ⟨t0, t1, t2⟩ := HT.out ww1 (e1)
  go_wp2_with fail
  refine (rin10_any 5 2 4 _).mono ?_
  rintro e yy ⟨rfl, hyy⟩
  rw [hyy]
  rw [show inB 5 2 4 = false by decide]
  clear hyy
  go_wp2_with fail
  refine (rin10_any 5 1 4 _).mono ?_
  rintro e yy ⟨rfl, hyy⟩
  rw [hyy]
  rw [show inB 5 1 4 = false by decide]
  clear hyy
  go_wp2
  refine bodyPost_ret (v := .tuple #[.slice (some ⟨g1, 0, none⟩) 2 c1, .int .i64 (-1)]) (by simp [results, Tryz.results52, go_sem]) rfl ?_
  unfold ReadsRes
  rw [HL.out.1, HL.out.2]
  exact ⟨_, _, rfl, own_ints (xs := [(p : Int), fm]) own2, HEX.out.comp (e1)⟩
 ·have HL : Hid (readsQ s = [(p : Int)] ∧ writesQ s = tm) := Lib.hid (by unfold readsQ writesQ; rw [HO.out, HA.out]; constructor <;> simp)
  obtain ⟨t0, t1, t2⟩ := HT.out Y (EY)
  go_wp2_with fail
  refine (rin10_any 6 1 5 _).mono ?_
  rintro e yy ⟨rfl, hyy⟩
  rw [hyy]
  rw [show inB 6 1 5 = false by decide]
  clear hyy
  go_wp2_with fail
  refine (rin10_any 6 2 4 _).mono ?_
  rintro e yy ⟨rfl, hyy⟩
  rw [hyy]
  rw [show inB 6 2 4 = false by decide]
  clear hyy
  go_wp2_with fail
  refine (rin10_any 6 1 4 _).mono ?_
  rintro e yy ⟨rfl, hyy⟩
  rw [hyy]
  rw [show inB 6 1 4 = false by decide]
  clear hyy
  go_wp2
  refine bodyPost_ret (v := .tuple #[.slice (some ⟨X.heap.size, 0, none⟩) 1 1, .int .i64 tm]) (by simp [results, Tryz.results52, go_sem]) rfl ?_
  unfold ReadsRes
  rw [HL.out.1, HL.out.2]
  exact ⟨_, _, rfl, own_ints (xs := [(p : Int)]) own1, HEX.out.comp (EY)⟩
 ·have HL : Hid (readsQ s = [(p : Int), fm] ∧ writesQ s = -1) := Lib.hid (by unfold readsQ writesQ; rw [HO.out, HA.out]; constructor <;> simp)
  obtain ⟨t0, t1, t2⟩ := HT.out Y (EY)
  go_wp2_with fail
  refine (rin10_any 7 1 5 _).mono ?_
  rintro e yy ⟨rfl, hyy⟩
  rw [hyy]
  rw [show inB 7 1 5 = false by decide]
  clear hyy
  have oa := own_extX own1 ((Ext.refl Y).alloc (.cells #[.int .i64 fm] 3))
  have hws := (EY).size
  go_upto_region 5 with (at_builtin; refine wpList_append_own_at _ rfl _ _ 22 rfl X.heap.size 3 i0 (.int .i64 0) 1 8 Tryz.underlying22 hi0 hz0 hz1 hz2 rfl (by decide) _ _ _ rfl oa ⟨Y.heap.size, 0, none⟩ 1 1 [.int .i64 fm] rfl rfl (cell_one_new _ _ _) (by simp [Value.oneCell']) (by unfold maxLen; decide) (by decide) (by simp at hws ⊢; omega) ?_; intro v' ww1 hown hgrow hnil hat)
  have e1 : Ext X ww1 := (Ext.alloc (EY) _).grown hgrow (by simp at hws ⊢; omega) (fun q e => (oa.lt q e).1)
  have own2 := hown
  obtain ⟨g1, c1, rfl⟩ := ownsRow_form own2 (by decide)
  clear hown hgrow hnil hat oa hws
  (try go_frame)
  clear t0 t1 t2
  obtain ⟨t0, t1, t2⟩ := HT.out ww1 (e1)
  go_wp2_with fail
  refine (rin10_any 7 2 4 _).mono ?_
  rintro e yy ⟨rfl, hyy⟩
  rw [hyy]
  rw [show inB 7 2 4 = false by decide]
  clear hyy
  go_wp2_with fail
  refine (rin10_any 7 1 4 _).mono ?_
  rintro e yy ⟨rfl, hyy⟩
  rw [hyy]
  rw [show inB 7 1 4 = false by decide]
  clear hyy
  go_wp2
  refine bodyPost_ret (v := .tuple #[.slice (some ⟨g1, 0, none⟩) 2 c1, .int .i64 (-1)]) (by simp [results, Tryz.results52, go_sem]) rfl ?_
  unfold ReadsRes
  rw [HL.out.1, HL.out.2]
  exact ⟨_, _, rfl, own_ints (xs := [(p : Int), fm]) own2, HEX.out.comp (e1)⟩
end Go.Proofs.YtnhpcoagkmgdoaaGreat
/- Layer 10's reference: losses, asked. -/
namespace Go.Q
theorem lossX_bad {L : List Loss} (h : ¬ 40 < L.length) {i : Nat} (hi : i < L.length) (hb : lossOk (L[i]?.getD ⟨0, 0, 0⟩) = false) : lossX L = 7 := by
 unfold lossX
 rw [if_neg h, if_pos]
 rw [List.any_eq_true]
 refine ⟨L[i], List.getElem_mem hi, ?_⟩
 rw [List.getElem?_eq_getElem hi, Option.getD_some] at hb
 rw [hb]
 rfl
theorem lossX_ok {L : List Loss} (h : ¬ 40 < L.length) (ho : ∀ i, i < L.length → lossOk (L[i]?.getD ⟨0, 0, 0⟩) = true) : lossX L = 0 := by
 unfold lossX
 rw [if_neg h, if_neg]
 rw [List.any_eq_true]
 rintro ⟨y, hy, hb⟩
 obtain ⟨i, hi, rfl⟩ := List.getElem_of_mem hy
 have := ho i hi
 rw [List.getElem?_eq_getElem hi, Option.getD_some] at this
 rw [this] at hb
 cases hb
end Go.Q
namespace Go.Proofs.YtnhpcoagkmgdoaaGreat
open Go.RowKit Go.Q Go.Shelf Go.Maps Go.Joins
set_option maxHeartbeats 4000000
set_option maxRecDepth 100000
theorem addr_in (n : Int) : addrB n = inB n 0 127 := rfl
theorem rlosses_any (a : Option Addr) (n c : Nat) (L : List Loss) (w : World) (hn : L.length = n) (hnb : n ≤ 9223372036854775807) (hI : LossAt w a L) :
  Calls Tryz.prog 49 #[.slice a n c] w fun e w' => e = .returned (.int .i64 (lossX L)) ∧ Ext w w' := by
 by_cases h40 : 40 < n
 ·have hz : (40 : Int) < (n : Int) := by omega
  have HX : Hid (lossX L = 3) := Lib.hid (by unfold lossX; rw [if_pos (by omega)])
  clear hn hI
  go_enter Tryz.func49, Tryz.ntmps49
  go_wp2
  go_ret
  exact ⟨by rw [HX.out]; rfl, Ext.refl _⟩
 ·have hz : ¬ (40 : Int) < (n : Int) := by omega
  have HI := Lib.hid hI
  have HN := Lib.hid hn
  have H40 := Lib.hid h40
  clear hI hn h40
  go_enter Tryz.func49, Tryz.ntmps49
  go_wp2
  go_loopw [3] (fun s3 wr => ∃ i : Nat, i ≤ n ∧ s3 = .int .i64 (i : Int) ∧ Hid (∀ j, j < i → lossOk (L[j]?.getD ⟨0, 0, 0⟩) = true) ∧ wr = w) (fun s3 _ => n - (Go.RowKit.intOf s3).toNat)
  case atStart => exact ⟨0, Nat.zero_le _, rfl, Lib.hid (fun q hq => absurd hq (Nat.not_lt_zero _)), rfl⟩
  case round =>
   obtain ⟨i, hi, rfl, HA, rfl⟩ := hrel
   by_cases hlt : i < n
   ·have hltz : (i : Int) < (n : Int) := by omega
    obtain ⟨b, off, rfl, hb, hc⟩ : ∃ b off, a = some ⟨b, off, none⟩ ∧ b < wr.heap.size ∧ ∀ i, i < n → wr.cell? ⟨b, off + i * 3, none⟩ = some (.int .i64 (L[i]?.getD ⟨0, 0, 0⟩).after) ∧ wr.cell? ⟨b, off + i * 3 + 1, none⟩ = some (.int .i64 (L[i]?.getD ⟨0, 0, 0⟩).addr) ∧ wr.cell? ⟨b, off + i * 3 + 2, none⟩ = some (.int .i64 (L[i]?.getD ⟨0, 0, 0⟩).bit) := by
     rcases HI.out with h | ⟨b, off, ha, hb, hc⟩
     ·rw [h] at HN; have := HN.out; simp at this; omega
     ·exact ⟨b, off, ha, hb, fun i hi => hc i (by rw [HN.out]; exact hi)⟩
    obtain ⟨c1, c2, c3⟩ := hc i hlt
    clear hc
    have hbad : lossOk (L[i]?.getD ⟨0, 0, 0⟩) = false → Hid (lossX L = 7) := fun h => Lib.hid (lossX_bad (by rw [HN.out]; exact H40.out) (by rw [HN.out]; exact hlt) h)
    have hgood : lossOk (L[i]?.getD ⟨0, 0, 0⟩) = true → Hid (∀ j, j < i + 1 → lossOk (L[j]?.getD ⟨0, 0, 0⟩) = true) := fun h => Lib.hid (fun j hj => by
     by_cases e : j = i
     ·rw [e]; exact h
     ·exact HA.out j (by omega))
    obtain ⟨y, hy⟩ : ∃ y, L[i]?.getD ⟨0, 0, 0⟩ = y := ⟨_, rfl⟩
    rw [hy] at c1 c2 c3 hbad hgood
    obtain ⟨af, ad, bi⟩ := y
    dsimp only at c1 c2 c3
    unfold lossOk at hbad hgood
    dsimp only at hbad hgood
    have k1 := fun W => rin10_any af 0 1000000000 W
    have k2 := fun W => address_any ad W
    have k3 := fun W => rin10_any bi 0 24 W
    rw [addr_in] at k2
    clear hy hb
    have wi : IntKind.i64.wrap ((i : Int) + 1) = (i : Int) + 1 := IntWalk.i64_in _ (by omega)
    have HLT := Lib.hid hlt
    clear hlt
    cases h1 : inB af 0 1000000000 with
    | false =>
     rw [h1] at k1 hbad
     have HX := hbad rfl
     clear hbad hgood h1 k2 k3
     go_wp2_with (go_at_call 40; refine (k1 _).mono ?_; rintro e w' ⟨rfl, rfl⟩)
     go_ret
     exact ⟨by rw [HX.out]; rfl, Ext.refl _⟩
    | true =>
     rw [h1] at k1 hbad hgood
     cases h2 : inB ad 0 127 with
     | false =>
      rw [h2] at k2 hbad
      have HX := hbad rfl
      clear hbad hgood h1 h2 k3
      go_wp2_with (first | (go_at_call 40; refine (k1 _).mono ?_; rintro e w' ⟨rfl, rfl⟩) | (go_at_call 46; refine (k2 _).mono ?_; rintro e w' ⟨rfl, rfl⟩))
      go_ret
      exact ⟨by rw [HX.out]; rfl, Ext.refl _⟩
     | true =>
      rw [h2] at k2 hbad hgood
      cases h3 : inB bi 0 24 with
      | false =>
       rw [h3] at k3 hbad
       have HX := hbad rfl
       clear hbad hgood h1 h2 h3
       go_wp2_with (first | (go_at_call 40; first | (with_reducible refine (k1 _).mono ?_; rintro e w' ⟨rfl, rfl⟩) | (refine (k3 _).mono ?_; rintro e w' ⟨rfl, rfl⟩)) | (go_at_call 46; refine (k2 _).mono ?_; rintro e w' ⟨rfl, rfl⟩))
       go_ret
       exact ⟨by rw [HX.out]; rfl, Ext.refl _⟩
      | true =>
       rw [h3] at k3 hgood
       have HA2 := hgood rfl
       clear hbad hgood h1 h2 h3
       go_wp2_with (first | (go_at_call 40; first | (with_reducible refine (k1 _).mono ?_; rintro e w' ⟨rfl, rfl⟩) | (refine (k3 _).mono ?_; rintro e w' ⟨rfl, rfl⟩)) | (go_at_call 46; refine (k2 _).mono ?_; rintro e w' ⟨rfl, rfl⟩))
       go_roundw
       case rel => exact ⟨i + 1, by have := HLT.out; omega, by go_num, HA2, trivial⟩
       case measure => have := HLT.out; simp [Go.RowKit.intOf]; omega
   ·have hltz : ¬ (i : Int) < (n : Int) := by omega
    obtain rfl : i = n := by omega
    have HX : Hid (lossX L = 0) := Lib.hid (lossX_ok (by rw [HN.out]; exact H40.out) (by rw [HN.out]; exact HA.out))
    go_wp2
    go_ret
    exact ⟨by rw [HX.out]; rfl, Ext.refl _⟩
theorem rasked_any (v : Value) (s : St) (a : Option Addr) (n c : Nat) (L : List Loss) (most : Int) (w : World) (hS : StAt w v s) (hb : StBd s) (hn : L.length = n) (hnb : n ≤ 9223372036854775807) (hI : LossAt w a L) :
  Calls Tryz.prog 23 #[v, .slice a n c, .int .i64 most] w fun e w' => e = .returned (.int .i64 (guardX s L most)) ∧ Ext w w' := by
 have hck := fun W (E : Ext w W) => rcheck_any v s W (hS.ext E) hb
 have hls := fun W (E : Ext w W) => rlosses_any a n c L W hn hnb (hI.ext E)
 have hin := fun W => rin10_any most 0 5000 W
 obtain ⟨a1, a2, a3, k1, k2, k3, rfl, -⟩ := hS
 have HG := Lib.hid (show guardX s L most = if (checkQ s).2.2 ≠ 0 then (checkQ s).2.2 else if lossX L ≠ 0 then lossX L else if inB most 0 5000 = true then 0 else 7 from rfl)
 obtain ⟨⟨x1, x2, x3⟩, hx⟩ : ∃ p, checkQ s = p := ⟨_, rfl⟩
 obtain ⟨lx, hlx⟩ : ∃ lx, lossX L = lx := ⟨_, rfl⟩
 rw [hx] at hck HG
 rw [hlx] at hls HG
 unfold v3 at hck
 have HG : Hid (guardX s L most = if x3 ≠ 0 then x3 else if lx ≠ 0 then lx else if inB most 0 5000 = true then 0 else 7) := HG
 clear hx hlx hn hI hb
 have E0 : Ext w (w.alloc (.cells #[.slice a1 s.store.length k1, .slice a2 s.tape.length k2, .int .i64 s.taken, .slice a3 s.printed.length k3, .int .i64 s.time, .int .i64 s.at_, .int .i64 s.done, .int .i64 s.why] 24)) := (Ext.refl w).alloc _
 have g0 := heap_alloc_new w (.cells #[.slice a1 s.store.length k1, .slice a2 s.tape.length k2, .int .i64 s.taken, .slice a3 s.printed.length k3, .int .i64 s.time, .int .i64 s.at_, .int .i64 s.done, .int .i64 s.why] 24)
 have q0 := blk_cell g0 0 (v := .slice a1 s.store.length k1) rfl
 have q1 := blk_cell g0 1 (v := .slice a2 s.tape.length k2) rfl
 have q2 := blk_cell g0 2 (v := .int .i64 s.taken) rfl
 have q3 := blk_cell g0 3 (v := .slice a3 s.printed.length k3) rfl
 have q4 := blk_cell g0 4 (v := .int .i64 s.time) rfl
 have q5 := blk_cell g0 5 (v := .int .i64 s.at_) rfl
 have q6 := blk_cell g0 6 (v := .int .i64 s.done) rfl
 have q7 := blk_cell g0 7 (v := .int .i64 s.why) rfl
 go_enter Tryz.func23, Tryz.ntmps23
 go_wp2_with fail
 refine (hck _ E0).mono ?_
 rintro e w1 ⟨rfl, E1⟩
 clear q0 q1 q2 q3 q4 q5 q6 q7
 by_cases h3 : x3 = 0
 ·subst h3
  go_wp2_with fail
  refine (hls _ (E0.comp E1)).mono ?_
  rintro e w2 ⟨rfl, E2⟩
  by_cases hl : lx = 0
  ·subst hl
   cases hi : inB most 0 5000 with
   | true =>
    rw [hi] at hin
    have HX : Hid (guardX s L most = 0) := Lib.hid (by rw [HG.out, hi]; simp)
    clear HG hi
    go_wp2_with (go_at_call 40; refine (hin _).mono ?_; rintro e w' ⟨rfl, rfl⟩)
    go_ret
    exact ⟨by rw [HX.out]; rfl, (E0.comp E1).comp E2⟩
   | false =>
    rw [hi] at hin
    have HX : Hid (guardX s L most = 7) := Lib.hid (by rw [HG.out, hi]; simp)
    clear HG hi
    go_wp2_with (go_at_call 40; refine (hin _).mono ?_; rintro e w' ⟨rfl, rfl⟩)
    go_ret
    exact ⟨by rw [HX.out]; rfl, (E0.comp E1).comp E2⟩
  ·have hlb : (lx == 0) = false := by simpa using hl
   have HX : Hid (guardX s L most = lx) := Lib.hid (by rw [HG.out, if_neg (by simp), if_pos hl])
   clear HG hl
   go_wp2_with fail
   go_ret
   exact ⟨by rw [HX.out]; rfl, (E0.comp E1).comp E2⟩
 ·have h3b : (x3 == 0) = false := by simpa using h3
  have HX : Hid (guardX s L most = x3) := Lib.hid (by rw [HG.out, if_pos h3])
  clear HG h3 hls hin
  go_wp2_with fail
  go_ret
  exact ⟨by rw [HX.out]; rfl, E0.comp E1⟩
end Go.Proofs.YtnhpcoagkmgdoaaGreat
/- Layer 10: a copy of the state, whose store is a row of its own. -/
namespace Go.Proofs.YtnhpcoagkmgdoaaGreat
open Go.RowKit Go.Q Go.Shelf Go.Maps Go.Joins
set_option maxHeartbeats 4000000
set_option maxRecDepth 100000
theorem own_kpI {M : Nat → Prop} {w w' : World} {B t sz n : Nat} {v : Value} {xs : List Value} (h : w.ownsRow B t sz v n xs) (K : KpM M w w') (hM : ∀ b, v.ownBlock = some b → ¬ M b) : w'.ownsRow B t sz v n xs := by
 refine ⟨h.1, ?_⟩
 rcases h.2 with h2 | ⟨g, cap, cur, rfl, hb, hg, r⟩
 ·exact .inl h2
 ·exact .inr ⟨g, cap, cur, rfl, hb, (K.block g (lt_of_block hg) (hM g rfl)).trans hg, r⟩
end Go.Proofs.YtnhpcoagkmgdoaaGreat
/- Layer 10's program: Block. -/
namespace Go.Q
open Go.RowKit
end Go.Q
namespace Go.Proofs.YtnhpcoagkmgdoaaGreat
open Go.RowKit Go.Q Go.Shelf Go.Maps Go.Joins
set_option maxHeartbeats 4000000
set_option maxRecDepth 100000
theorem own_setI {X : World} {g n c B : Nat} {xs : List Int} (h : X.ownsRow B 3 1 (.slice (some ⟨g, 0, none⟩) n c) n (iv xs)) (j : Nat) (v : Int) : (X.setCell ⟨g, j, none⟩ (.int .i64 v)).ownsRow B 3 1 (.slice (some ⟨g, 0, none⟩) n c) n (iv (xs.set j v)) := by
 obtain ⟨k1, _⟩ := h.stored j (.int .i64 v)
 unfold iv at k1 ⊢
 rw [List.map_set]
 exact k1
theorem own_cellI {X : World} {g n c B : Nat} {xs : List Int} (h : X.ownsRow B 3 1 (.slice (some ⟨g, 0, none⟩) n c) n (iv xs)) (j : Nat) (hj : j < xs.length) : X.cell? ⟨g, j, none⟩ = some (.int .i64 (xs[j]?.getD 0)) := by
 rcases own_ints h with e | ⟨b, off, ha, _, hc⟩
 ·rw [e] at hj; exact absurd hj (Nat.not_lt_zero _)
 ·cases ha
  have := hc j hj
  rwa [Nat.zero_add] at this
end Go.Proofs.YtnhpcoagkmgdoaaGreat
/- Layer 10's reference: a machine in memory; begin. -/
namespace Go.Q
open Go.RowKit
/-- flags as values -/
def bvs (l : List Bool) : List Value := l.map Value.bool
theorem bvs_length (l : List Bool) : (bvs l).length = l.length := by simp [bvs]
theorem bvs_get (l : List Bool) (i : Nat) (h : i < l.length) : (bvs l)[i]? = some (.bool (l[i]?.getD false)) := by simp [bvs, h]
theorem bvs_one (l : List Bool) : ∀ u ∈ bvs l, u.oneCell' = true := by
 intro u hu; simp [bvs] at hu; rcases hu with ⟨_, rfl⟩ | ⟨_, rfl⟩ <;> rfl
theorem bvs_set (l : List Bool) (i : Nat) (x : Bool) : (bvs l).set i (.bool x) = bvs (l.set i x) := by unfold bvs; rw [List.map_set]
/-- flags that lie apart -/
def BoolsF (M : Nat → Prop) (w : World) (a : Option Addr) (l : List Bool) : Prop :=
 l = [] ∨ ∃ b off, a = some ⟨b, off, none⟩ ∧ ¬ M b ∧ b < w.heap.size ∧ ∀ i, i < l.length → w.cell? ⟨b, off + i, none⟩ = some (.bool (l[i]?.getD false))
theorem from_boolsF {M : Nat → Prop} {w : World} {a : Option Addr} {l : List Bool} (h : BoolsF M w a l) : From w a (bvs l) := by
 rcases h with h | ⟨b, off, ha, -, hb, hc⟩
 ·subst h; exact .inl rfl
 ·refine .inr ⟨_, ha, fun j u hu => ?_⟩
  have hj : j < l.length := by
   rcases Nat.lt_or_ge j l.length with h | h
   ·exact h
   ·rw [List.getElem?_eq_none (by simpa [bvs_length] using h)] at hu; cases hu
  rw [bvs_get l j hj] at hu
  obtain rfl := Option.some.inj hu
  rw [Addr.add_lit]
  exact hc j hj
theorem own_cellV {X : World} {t g n c B : Nat} {l : List Bool} (h : X.ownsRow B t 1 (.slice (some ⟨g, 0, none⟩) n c) n (bvs l)) (j : Nat) (hj : j < l.length) : X.cell? ⟨g, j, none⟩ = some (.bool (l[j]?.getD false)) := by
 rw [h.cellAt j (by have := h.1; rw [bvs_length] at this; omega)]
 exact bvs_get l j hj
theorem own_setV {X : World} {t g n c B : Nat} {l : List Bool} (h : X.ownsRow B t 1 (.slice (some ⟨g, 0, none⟩) n c) n (bvs l)) (j : Nat) (v : Bool) : (X.setCell ⟨g, j, none⟩ (.bool v)).ownsRow B t 1 (.slice (some ⟨g, 0, none⟩) n c) n (bvs (l.set j v)) := by
 have := (h.stored j (.bool v)).1
 rw [bvs_set] at this
 exact this
theorem bools_of_own {M : Nat → Prop} {X : World} {t n c B : Nat} {a : Option Addr} {l : List Bool} (h : X.ownsRow B t 1 (.slice a n c) n (bvs l)) (hM : ∀ q, M q → q < B) : BoolsF M X a l := by
 rcases Nat.eq_zero_or_pos l.length with h0 | h0
 ·exact .inl (List.eq_nil_of_length_eq_zero h0)
 ·have hn : n = l.length := by have := h.1; rw [bvs_length] at this; omega
  obtain ⟨g, cap, e, _⟩ := h.form (by omega)
  obtain rfl : a = some ⟨g, 0, none⟩ := by injection e
  have hl := h.lt g rfl
  exact .inr ⟨g, 0, rfl, fun hm => by have := hM g hm; omega, hl.2, fun i hi => by rw [Nat.zero_add]; exact own_cellV h i hi⟩
theorem addr_zero (n : Nat) : (List.replicate n (Value.bool false)) = bvs (List.replicate n false) := by unfold bvs; rw [List.map_replicate]
/-- cells of flags, none set -/
def zb (n : Nat) : Array Value := Array.replicate n (.bool false)
theorem own_zb (X : World) (t n : Nat) (hn : n ≤ 1000) : (X.alloc (.cells (zb n) t)).ownsRow X.heap.size t 1 (.slice (some ⟨X.heap.size, 0, none⟩) n n) n (bvs (List.replicate n false)) := by
 have := World.ownsRow_lit (e := t) (size := 1) X (zb n) n (Nat.le_refl _) (by unfold maxLen; omega) (by simp [zb])
 rw [show (zb n).toList = bvs (List.replicate n false) by unfold zb; rw [Array.toList_replicate, addr_zero]] at this
 exact this
section
variable {W W' : World} {a : Option Addr} {xs : List Bool} {M : Nat → Prop}
theorem BoolsF.kp (h : BoolsF M W a xs) {M' : Nat → Prop} (K : KpM M' W W') (hM : ∀ b, b < W.heap.size → M' b → M b) : BoolsF M W' a xs :=
 h.imp id fun ⟨b, off, ha, hm, hb, hc⟩ => ⟨b, off, ha, hm, Nat.lt_of_lt_of_le hb K.size, fun i hi => (K.cell hb fun h => hm (hM b hb h)).trans (hc i hi)⟩
theorem BoolsF.ext (h : BoolsF M W a xs) (E : Ext W W') : BoolsF M W' a xs := h.kp (M' := fun _ => False) ((KpM.of_ext E).mono fun _ h => h) (fun _ _ h => h.elim)
theorem BoolsF.weaken {M' : Nat → Prop} (h : BoolsF M W a xs) (hM : ∀ b, b < W.heap.size → M' b → M b) : BoolsF M' W a xs := h.imp id fun ⟨b, off, ha, hm, hb, hc⟩ => ⟨b, off, ha, fun h => hm (hM b hb h), hb, hc⟩
end
end Go.Q
namespace Go.Proofs.YtnhpcoagkmgdoaaGreat
open Go.RowKit Go.Q Go.Shelf Go.Maps Go.Joins
set_option maxHeartbeats 4000000
set_option maxRecDepth 100000
theorem Tryz.infoBool : (Tryz.prog.info? 4).map (fun i => (i.zero, i.size, i.bytes)) = some (some (.bool false), 1, 1) := by kernel_rfl
theorem made_zb (W : World) (n : Nat) (hn : n ≤ 1000) : (Instr.makeSlice 54 (.int .i64 (n : Int)) (.int .i64 (n : Int))).run Tryz.prog W = .ok (.slice (some ⟨W.heap.size, 0, none⟩) n n) (W.alloc (.cells (zb n) 4)) := by
 obtain ⟨i0, hi, hz0, hz1, hz2⟩ := info_parts Tryz.infoBool
 have := run_makeSlice (P := Tryz.prog) W 54 4 i0 (.bool false) Tryz.underlying54 hi hz0 .i64 .i64 (n : Int) (n : Int) (by omega) (by omega) (by rw [hz1]; omega) (by rw [hz2]; omega) (by omega)
 simp only [Int.toNat_natCast] at this
 rw [this, show (Value.bool false).cells = #[.bool false] from rfl, made_rep, hz1, Nat.mul_one]
 rfl
/-- ten cells stored -/
def S10 (w : World) (b : Nat) (n0 n1 n2 n3 n4 n5 n6 n7 n8 n9 : Value) : World := ((((((((((w.setCell ⟨b, 0, none⟩ n0).setCell ⟨b, 1, none⟩ n1).setCell ⟨b, 2, none⟩ n2).setCell ⟨b, 3, none⟩ n3).setCell ⟨b, 4, none⟩ n4).setCell ⟨b, 5, none⟩ n5).setCell ⟨b, 6, none⟩ n6).setCell ⟨b, 7, none⟩ n7).setCell ⟨b, 8, none⟩ n8).setCell ⟨b, 9, none⟩ n9)
theorem s10_block {w : World} {b : Nat} {t : TypeId} {v0 v1 v2 v3 v4 v5 v6 v7 v8 v9 : Value} (n0 n1 n2 n3 n4 n5 n6 n7 n8 n9 : Value) (h : w.heap[b]? = some (.cells #[v0, v1, v2, v3, v4, v5, v6, v7, v8, v9] t (0, 0))) : (S10 w b n0 n1 n2 n3 n4 n5 n6 n7 n8 n9).heap[b]? = some (.cells #[n0, n1, n2, n3, n4, n5, n6, n7, n8, n9] t (0, 0)) := by
 have := cells_set (cells_set (cells_set (cells_set (cells_set (cells_set (cells_set (cells_set (cells_set (cells_set h 0 n0) 1 n1) 2 n2) 3 n3) 4 n4) 5 n5) 6 n6) 7 n7) 8 n8) 9 n9
 unfold S10
 simpa using this
theorem s10_kp (M : Nat → Prop) (w : World) (b : Nat) (n0 n1 n2 n3 n4 n5 n6 n7 n8 n9 : Value) (hm : M b) : KpM M w (S10 w b n0 n1 n2 n3 n4 n5 n6 n7 n8 n9) :=
 (((((((((kpm_set _ b _ _ hm).trans (kpm_set _ b _ _ hm)).trans (kpm_set _ b _ _ hm)).trans (kpm_set _ b _ _ hm)).trans (kpm_set _ b _ _ hm)).trans (kpm_set _ b _ _ hm)).trans (kpm_set _ b _ _ hm)).trans (kpm_set _ b _ _ hm)).trans (kpm_set _ b _ _ hm)).trans (kpm_set _ b _ _ hm)
/-- a state's cells stored into a machine -/
theorem s8_block10 {w : World} {b : Nat} {t : TypeId} {v0 v1 v2 v3 v4 v5 v6 v7 v8 v9 : Value} (n0 n1 n2 n3 n4 n5 n6 n7 : Value) (h : w.heap[b]? = some (.cells #[v0, v1, v2, v3, v4, v5, v6, v7, v8, v9] t (0, 0))) : (S8 w b n0 n1 n2 n3 n4 n5 n6 n7).heap[b]? = some (.cells #[n0, n1, n2, n3, n4, n5, n6, n7, v8, v9] t (0, 0)) := by
 have := cells_set (cells_set (cells_set (cells_set (cells_set (cells_set (cells_set (cells_set h 0 n0) 1 n1) 2 n2) 3 n3) 4 n4) 5 n5) 6 n6) 7 n7
 unfold S8
 simpa using this
/-- the lists of a machine lie apart from the blocks of M -/
structure MF (M : Nat → Prop) (w : World) (a1 a2 a3 b g : Option Addr) (s : St) (bad fl : List Bool) : Prop where
 i1 : IntsF M w a1 s.store
 i2 : IntsF M w a2 s.tape
 i3 : IntsF M w a3 s.printed
 ib : BoolsF M w b bad
 ig : BoolsF M w g fl
section
variable {W W' : World} {M : Nat → Prop} {a1 a2 a3 b g : Option Addr} {s : St} {bad fl : List Bool}
theorem MF.ext (h : MF M W a1 a2 a3 b g s bad fl) (E : Ext W W') : MF M W' a1 a2 a3 b g s bad fl := ⟨h.i1.ext E, h.i2.ext E, h.i3.ext E, h.ib.ext E, h.ig.ext E⟩
theorem MF.kp (h : MF M W a1 a2 a3 b g s bad fl) {M' : Nat → Prop} (K : KpM M' W W') (hM : ∀ b, b < W.heap.size → M' b → M b) : MF M W' a1 a2 a3 b g s bad fl := ⟨h.i1.kp K hM, h.i2.kp K hM, h.i3.kp K hM, h.ib.kp K hM, h.ig.kp K hM⟩
theorem MF.weaken {M' : Nat → Prop} (h : MF M W a1 a2 a3 b g s bad fl) (hM : ∀ b, b < W.heap.size → M' b → M b) : MF M' W a1 a2 a3 b g s bad fl := ⟨h.i1.weaken hM, h.i2.weaken hM, h.i3.weaken hM, h.ib.weaken hM, h.ig.weaken hM⟩
theorem MF.st (h : MF M W a1 a2 a3 b g s bad fl) (c1 c2 c3 : Nat) : StAt W (sv a1 a2 a3 s.store.length c1 s.tape.length c2 s.printed.length c3 s.taken s.time s.at_ s.done s.why) s := ⟨a1, a2, a3, c1, c2, c3, rfl, h.i1.at_, h.i2.at_, h.i3.at_⟩
end
theorem intsF_av {M : Nat → Prop} {w : World} {a : Option Addr} {xs : List Int} (h : IntsAt w a xs) (hM : ∀ q, M q → Av q a xs) : IntsF M w a xs := by
 rcases h with h | ⟨b, off, ha, hb, hc⟩
 ·exact .inl h
 ·by_cases h0 : xs = []
  ·exact .inl h0
  ·refine .inr ⟨b, off, ha, fun hm => ?_, hb, hc⟩
   rcases hM b hm with h | h
   ·exact h0 h
   ·exact h b off ha rfl
theorem av_intsF {M : Nat → Prop} {w : World} {a : Option Addr} {xs : List Int} {q : Nat} (h : IntsF M w a xs) (hq : M q) : Av q a xs := by
 rcases h with h | ⟨b, off, ha, hm, hb, hc⟩
 ·exact .inl h
 ·refine .inr fun b' off' e => ?_
  rw [ha] at e
  cases e
  rintro rfl
  exact hm hq
theorem rbegin10_any (M : Nat → Prop) (a1 a2 a3 la : Option Addr) (k1 k2 k3 n lc : Nat) (s : St) (w : World) (hM : ∀ q, M q → q < w.heap.size) (hn : n ≤ 1000) :
  Calls Tryz.prog 24 #[sv a1 a2 a3 s.store.length k1 s.tape.length k2 s.printed.length k3 s.taken s.time s.at_ s.done s.why, .slice la n lc] w fun e w' => ∃ b g, e = .returned (.agg #[.slice a1 s.store.length k1, .slice a2 s.tape.length k2, .int .i64 s.taken, .slice a3 s.printed.length k3, .int .i64 s.time, .int .i64 s.at_, .int .i64 s.done, .int .i64 s.why, .slice b 128 128, .slice g n n]) ∧ BoolsF M w' b (List.replicate 128 false) ∧ BoolsF M w' g (List.replicate n false) ∧ Ext w w' := by
 have hm1 := fun W => show (Instr.makeSlice 54 (.int .i64 128) (.int .i64 128)).run Tryz.prog W = .ok (.slice (some ⟨W.heap.size, 0, none⟩) 128 128) (W.alloc (.cells (zb 128) 4)) from made_zb W 128 (by decide)
 have hm2 := fun W => made_zb W n hn
 unfold sv
 have hR : ((w.alloc (.cells #[.slice a1 s.store.length k1, .slice a2 s.tape.length k2, .int .i64 s.taken, .slice a3 s.printed.length k3, .int .i64 s.time, .int .i64 s.at_, .int .i64 s.done, .int .i64 s.why] 24)).alloc (.cells #[.slice none 0 0, .slice none 0 0, .int .i64 0, .slice none 0 0, .int .i64 0, .int .i64 0, .int .i64 0, .int .i64 0, .slice none 0 0, .slice none 0 0] 56)).heap[w.heap.size + 1]? = some (.cells #[.slice none 0 0, .slice none 0 0, .int .i64 0, .slice none 0 0, .int .i64 0, .int .i64 0, .int .i64 0, .int .i64 0, .slice none 0 0, .slice none 0 0] 56 (0, 0)) := by
  have e := heap_alloc_new (w.alloc (.cells #[.slice a1 s.store.length k1, .slice a2 s.tape.length k2, .int .i64 s.taken, .slice a3 s.printed.length k3, .int .i64 s.time, .int .i64 s.at_, .int .i64 s.done, .int .i64 s.why] 24)) (.cells #[.slice none 0 0, .slice none 0 0, .int .i64 0, .slice none 0 0, .int .i64 0, .int .i64 0, .int .i64 0, .int .i64 0, .slice none 0 0, .slice none 0 0] 56)
  rw [World.size_alloc] at e
  exact e
 have hP := (Below.heap_alloc (w.alloc (.cells #[.slice a1 s.store.length k1, .slice a2 s.tape.length k2, .int .i64 s.taken, .slice a3 s.printed.length k3, .int .i64 s.time, .int .i64 s.at_, .int .i64 s.done, .int .i64 s.why] 24)) (.cells #[.slice none 0 0, .slice none 0 0, .int .i64 0, .slice none 0 0, .int .i64 0, .int .i64 0, .int .i64 0, .int .i64 0, .slice none 0 0, .slice none 0 0] 56) _ (lt_of_block (heap_alloc_new w (.cells #[.slice a1 s.store.length k1, .slice a2 s.tape.length k2, .int .i64 s.taken, .slice a3 s.printed.length k3, .int .i64 s.time, .int .i64 s.at_, .int .i64 s.done, .int .i64 s.why] 24)))).trans (heap_alloc_new w (.cells #[.slice a1 s.store.length k1, .slice a2 s.tape.length k2, .int .i64 s.taken, .slice a3 s.printed.length k3, .int .i64 s.time, .int .i64 s.at_, .int .i64 s.done, .int .i64 s.why] 24))
 have E0 : Ext w ((w.alloc (.cells #[.slice a1 s.store.length k1, .slice a2 s.tape.length k2, .int .i64 s.taken, .slice a3 s.printed.length k3, .int .i64 s.time, .int .i64 s.at_, .int .i64 s.done, .int .i64 s.why] 24)).alloc (.cells #[.slice none 0 0, .slice none 0 0, .int .i64 0, .slice none 0 0, .int .i64 0, .int .i64 0, .int .i64 0, .int .i64 0, .slice none 0 0, .slice none 0 0] 56)) := ((Ext.refl w).alloc _).alloc _
 go_enter Tryz.func24, Tryz.ntmps24
 go_upto_region 1 with fail
 generalize ((w.alloc (.cells #[.slice a1 s.store.length k1, .slice a2 s.tape.length k2, .int .i64 s.taken, .slice a3 s.printed.length k3, .int .i64 s.time, .int .i64 s.at_, .int .i64 s.done, .int .i64 s.why] 24)).alloc (.cells #[.slice none 0 0, .slice none 0 0, .int .i64 0, .slice none 0 0, .int .i64 0, .int .i64 0, .int .i64 0, .int .i64 0, .slice none 0 0, .slice none 0 0] 56)) = X at hR hP E0 ⊢
 have HQ : Hid (∀ Y, Ext X Y → Y.heap[w.heap.size]? = _) := Lib.hid (fun Y E => (E.block _ (lt_of_block hP)).trans hP)
 have HR : Hid (∀ Y, Ext X Y → Y.heap[w.heap.size + 1]? = _) := Lib.hid (fun Y E => (E.block _ (lt_of_block hR)).trans hR)
 clear hP hR
 refine wp_region_Z (fun i => i == 6) (fun Y => Ext X Y) (by kernel_rfl) (Ext.refl X).drew fun hSX => ?_
 refine tk 0 ⟨_, _, _, _, _, _⟩ ?_ rfl (by kernel_rfl) (fun _ _ _ h => h) (Or.inl ⟨by rfl, ?_⟩) hSX ?_
 rotate_left
 ·intro wX hS
  have hP := HQ.out wX hS
  have q0 := blk_cell hP 0 (v := .slice a1 s.store.length k1) rfl
  have q1 := blk_cell hP 1 (v := .slice a2 s.tape.length k2) rfl
  have q2 := blk_cell hP 2 (v := .int .i64 s.taken) rfl
  have q3 := blk_cell hP 3 (v := .slice a3 s.printed.length k3) rfl
  have q4 := blk_cell hP 4 (v := .int .i64 s.time) rfl
  have q5 := blk_cell hP 5 (v := .int .i64 s.at_) rfl
  have q6 := blk_cell hP 6 (v := .int .i64 s.done) rfl
  have q7 := blk_cell hP 7 (v := .int .i64 s.why) rfl
  go_simp
  (try with_reducible rfl)
 (try simp only [Act.put, List.setIfInBounds_toArray, List.set_cons_zero, List.set_cons_succ])
 refine tk 2 ⟨_, _, _, _, _, _⟩ ?_ rfl (by kernel_rfl) (fun _ _ _ h => h) (Or.inl ⟨by rfl, ?_⟩) hSX ?_
 rotate_left
 ·intro wX hS
  go_simp
  (try with_reducible rfl)
 (try simp only [Act.put, List.setIfInBounds_toArray, List.set_cons_zero, List.set_cons_succ])
 refine tk 3 ⟨_, _, _, _, _, _⟩ ?_ rfl (by kernel_rfl) (fun _ _ _ h => h) (Or.inl ⟨by rfl, ?_⟩) hSX ?_
 rotate_left
 ·intro wX hS
  go_simp
  (try with_reducible rfl)
 (try simp only [Act.put, List.setIfInBounds_toArray, List.set_cons_zero, List.set_cons_succ])
 refine wpAnyZ_two (i := 1) (j := 4) (oi := ⟨_, _, _, _, _, _⟩) (oj := ⟨_, _, _, _, _, _⟩) (by kernel_rfl) rfl rfl (fun K hK => ?_) (fun K hK => ?_)
 ·go_simp
  have F1 : Ext X (X.alloc (.cells (zb 128) 4)).drew := (Ext.alloc (Ext.refl X) _).drew
  have O1 := (own_zb X 4 128 (by decide)).drew
  refine hK _ _ (.inr F1) (fun _ => ?_)
  clear hK
  (try simp only [Act.put, List.setIfInBounds_toArray, List.set_cons_zero, List.set_cons_succ])
  obtain ⟨g1, hg1⟩ : ∃ g1, X.heap.size = g1 := ⟨_, rfl⟩
  have hg1 := Lib.hid hg1
  obtain ⟨Y, hY⟩ : ∃ Y, (X.alloc (.cells (zb 128) 4)).drew = Y := ⟨_, rfl⟩
  rw [hY] at F1 O1
  rw [hg1.out] at O1
  rw [hY, hg1.out]
  clear hY
  refine wpAnyZ_one (i := 4) (o := ⟨_, _, _, _, _, _⟩) (by kernel_rfl) rfl (fun K hK => ?_)
  go_simp
  have F2a : Ext Y (Y.alloc (.cells (zb n) 4)) := (Ext.alloc (Ext.refl Y) _)
  have O2 := (own_zb Y 4 n hn)
  refine hK _ _ (.inr (F1.comp F2a)) (fun _ => ?_)
  clear hK
  (try simp only [Act.put, List.setIfInBounds_toArray, List.set_cons_zero, List.set_cons_succ])
  have O1 := own_extX O1 F2a
  obtain ⟨g2, hg2⟩ : ∃ g2, Y.heap.size = g2 := ⟨_, rfl⟩
  have hg2 := Lib.hid hg2
  obtain ⟨Z, hZ⟩ : ∃ Z, Y.alloc (.cells (zb n) 4) = Z := ⟨_, rfl⟩
  rw [hZ] at F2a O1 O2
  rw [hg2.out] at O2
  rw [hZ, hg2.out]
  have F2 := F1.comp F2a
  have hgs := F1.size
  rw [hg2.out] at hgs
  clear hZ F2a F1
  refine tk 5 ⟨_, _, _, _, _, _⟩ ?_ rfl (by kernel_rfl) (fun _ _ _ h => h) (Or.inl ⟨by rfl, ?_⟩) F2 ?_
  rotate_left
  ·intro wX hS
   go_simp
   (try with_reducible rfl)
  (try simp only [Act.put, List.setIfInBounds_toArray, List.set_cons_zero, List.set_cons_succ])
  refine wpAnyZ_one (i := 6) (o := ⟨_, _, _, _, _, _⟩) (by kernel_rfl) rfl (fun K hK => ?_)
  have gR := HR.out Z F2
  have f0 := blk_free gR 0
  have z0 := blk_cell gR 0 (v := .slice none 0 0) rfl
  have f1 := blk_free gR 1
  have z1 := blk_cell gR 1 (v := .slice none 0 0) rfl
  have f2 := blk_free gR 2
  have z2 := blk_cell gR 2 (v := .int .i64 0) rfl
  have f3 := blk_free gR 3
  have z3 := blk_cell gR 3 (v := .slice none 0 0) rfl
  have f4 := blk_free gR 4
  have z4 := blk_cell gR 4 (v := .int .i64 0) rfl
  have f5 := blk_free gR 5
  have z5 := blk_cell gR 5 (v := .int .i64 0) rfl
  have f6 := blk_free gR 6
  have z6 := blk_cell gR 6 (v := .int .i64 0) rfl
  have f7 := blk_free gR 7
  have z7 := blk_cell gR 7 (v := .int .i64 0) rfl
  have f8 := blk_free gR 8
  have z8 := blk_cell gR 8 (v := .slice none 0 0) rfl
  have f9 := blk_free gR 9
  have z9 := blk_cell gR 9 (v := .slice none 0 0) rfl
  go_simp
  have KS := s10_kp (fun q => q = w.heap.size + 1) Z (w.heap.size + 1) (.slice a1 s.store.length k1) (.slice a2 s.tape.length k2) (.int .i64 s.taken) (.slice a3 s.printed.length k3) (.int .i64 s.time) (.int .i64 s.at_) (.int .i64 s.done) (.int .i64 s.why) (.slice (some ⟨g1, 0, none⟩) 128 128) (.slice (some ⟨g2, 0, none⟩) n n) rfl
  unfold S10 at KS
  refine hK _ _ (.inl rfl) (fun _ => ?_)
  clear hK
  (try simp only [Act.put, List.setIfInBounds_toArray, List.set_cons_zero, List.set_cons_succ])
  refine wpAnyZ_done (by kernel_rfl) ?_ _
  have hs1 := E0.size
  have hs2 := lt_of_block (HR.out X (Ext.refl X))
  have B1 := bools_of_own (M := M) (own_kpI O1 KS (fun q hq e => by obtain rfl : g1 = q := Option.some.inj hq; have := hg1.out; omega)) (fun q hq => by have := hM q hq; have := hg1.out; omega)
  have B2 := bools_of_own (M := M) (own_kpI O2 KS (fun q hq e => by obtain rfl : g2 = q := Option.some.inj hq; omega)) (fun q hq => by have := hM q hq; omega)
  have EV := (E0.comp F2).below5 KS (fun q hq => by omega)
  have gV := s10_block (.slice a1 s.store.length k1) (.slice a2 s.tape.length k2) (.int .i64 s.taken) (.slice a3 s.printed.length k3) (.int .i64 s.time) (.int .i64 s.at_) (.int .i64 s.done) (.int .i64 s.why) (.slice (some ⟨g1, 0, none⟩) 128 128) (.slice (some ⟨g2, 0, none⟩) n n) gR
  unfold S10 at gV
  clear O1 O2 KS gR z0 z1 z2 z3 z4 z5 z6 z7 z8 z9 f0 f1 f2 f3 f4 f5 f6 f7 f8 f9 HQ HR
  generalize ((((((((((Z.setCell ⟨w.heap.size + 1, 0, none⟩ (.slice a1 s.store.length k1)).setCell ⟨w.heap.size + 1, 1, none⟩ (.slice a2 s.tape.length k2)).setCell ⟨w.heap.size + 1, 2, none⟩ (.int .i64 s.taken)).setCell ⟨w.heap.size + 1, 3, none⟩ (.slice a3 s.printed.length k3)).setCell ⟨w.heap.size + 1, 4, none⟩ (.int .i64 s.time)).setCell ⟨w.heap.size + 1, 5, none⟩ (.int .i64 s.at_)).setCell ⟨w.heap.size + 1, 6, none⟩ (.int .i64 s.done)).setCell ⟨w.heap.size + 1, 7, none⟩ (.int .i64 s.why)).setCell ⟨w.heap.size + 1, 8, none⟩ (.slice (some ⟨g1, 0, none⟩) 128 128)).setCell ⟨w.heap.size + 1, 9, none⟩ (.slice (some ⟨g2, 0, none⟩) n n)) = V at B1 B2 EV gV ⊢
  have r0 := blk_cell gV 0 (v := .slice a1 s.store.length k1) rfl
  have r1 := blk_cell gV 1 (v := .slice a2 s.tape.length k2) rfl
  have r2 := blk_cell gV 2 (v := .int .i64 s.taken) rfl
  have r3 := blk_cell gV 3 (v := .slice a3 s.printed.length k3) rfl
  have r4 := blk_cell gV 4 (v := .int .i64 s.time) rfl
  have r5 := blk_cell gV 5 (v := .int .i64 s.at_) rfl
  have r6 := blk_cell gV 6 (v := .int .i64 s.done) rfl
  have r7 := blk_cell gV 7 (v := .int .i64 s.why) rfl
  have r8 := blk_cell gV 8 (v := .slice (some ⟨g1, 0, none⟩) 128 128) rfl
  have r9 := blk_cell gV 9 (v := .slice (some ⟨g2, 0, none⟩) n n) rfl
  go_wp2
  refine bodyPost_ret (v := .agg #[.slice a1 s.store.length k1, .slice a2 s.tape.length k2, .int .i64 s.taken, .slice a3 s.printed.length k3, .int .i64 s.time, .int .i64 s.at_, .int .i64 s.done, .int .i64 s.why, .slice (some ⟨g1, 0, none⟩) 128 128, .slice (some ⟨g2, 0, none⟩) n n]) (by simp [results, Tryz.results24, go_sem, r0, r1, r2, r3, r4, r5, r6, r7, r8, r9]) rfl ⟨_, _, rfl, B1, B2, EV⟩
 ·go_simp
  have F1 : Ext X (X.alloc (.cells (zb n) 4)).drew := (Ext.alloc (Ext.refl X) _).drew
  have O1 := (own_zb X 4 n hn).drew
  refine hK _ _ (.inr F1) (fun _ => ?_)
  clear hK
  (try simp only [Act.put, List.setIfInBounds_toArray, List.set_cons_zero, List.set_cons_succ])
  obtain ⟨g1, hg1⟩ : ∃ g1, X.heap.size = g1 := ⟨_, rfl⟩
  have hg1 := Lib.hid hg1
  obtain ⟨Y, hY⟩ : ∃ Y, (X.alloc (.cells (zb n) 4)).drew = Y := ⟨_, rfl⟩
  rw [hY] at F1 O1
  rw [hg1.out] at O1
  rw [hY, hg1.out]
  clear hY
  refine wpAnyZ_one (i := 1) (o := ⟨_, _, _, _, _, _⟩) (by kernel_rfl) rfl (fun K hK => ?_)
  go_simp
  have F2a : Ext Y (Y.alloc (.cells (zb 128) 4)) := (Ext.alloc (Ext.refl Y) _)
  have O2 := (own_zb Y 4 128 (by decide))
  refine hK _ _ (.inr (F1.comp F2a)) (fun _ => ?_)
  clear hK
  (try simp only [Act.put, List.setIfInBounds_toArray, List.set_cons_zero, List.set_cons_succ])
  have O1 := own_extX O1 F2a
  obtain ⟨g2, hg2⟩ : ∃ g2, Y.heap.size = g2 := ⟨_, rfl⟩
  have hg2 := Lib.hid hg2
  obtain ⟨Z, hZ⟩ : ∃ Z, Y.alloc (.cells (zb 128) 4) = Z := ⟨_, rfl⟩
  rw [hZ] at F2a O1 O2
  rw [hg2.out] at O2
  rw [hZ, hg2.out]
  have F2 := F1.comp F2a
  have hgs := F1.size
  rw [hg2.out] at hgs
  clear hZ F2a F1
  refine tk 5 ⟨_, _, _, _, _, _⟩ ?_ rfl (by kernel_rfl) (fun _ _ _ h => h) (Or.inl ⟨by rfl, ?_⟩) F2 ?_
  rotate_left
  ·intro wX hS
   go_simp
   (try with_reducible rfl)
  (try simp only [Act.put, List.setIfInBounds_toArray, List.set_cons_zero, List.set_cons_succ])
  refine wpAnyZ_one (i := 6) (o := ⟨_, _, _, _, _, _⟩) (by kernel_rfl) rfl (fun K hK => ?_)
  have gR := HR.out Z F2
  have f0 := blk_free gR 0
  have z0 := blk_cell gR 0 (v := .slice none 0 0) rfl
  have f1 := blk_free gR 1
  have z1 := blk_cell gR 1 (v := .slice none 0 0) rfl
  have f2 := blk_free gR 2
  have z2 := blk_cell gR 2 (v := .int .i64 0) rfl
  have f3 := blk_free gR 3
  have z3 := blk_cell gR 3 (v := .slice none 0 0) rfl
  have f4 := blk_free gR 4
  have z4 := blk_cell gR 4 (v := .int .i64 0) rfl
  have f5 := blk_free gR 5
  have z5 := blk_cell gR 5 (v := .int .i64 0) rfl
  have f6 := blk_free gR 6
  have z6 := blk_cell gR 6 (v := .int .i64 0) rfl
  have f7 := blk_free gR 7
  have z7 := blk_cell gR 7 (v := .int .i64 0) rfl
  have f8 := blk_free gR 8
  have z8 := blk_cell gR 8 (v := .slice none 0 0) rfl
  have f9 := blk_free gR 9
  have z9 := blk_cell gR 9 (v := .slice none 0 0) rfl
  go_simp
  have KS := s10_kp (fun q => q = w.heap.size + 1) Z (w.heap.size + 1) (.slice a1 s.store.length k1) (.slice a2 s.tape.length k2) (.int .i64 s.taken) (.slice a3 s.printed.length k3) (.int .i64 s.time) (.int .i64 s.at_) (.int .i64 s.done) (.int .i64 s.why) (.slice (some ⟨g2, 0, none⟩) 128 128) (.slice (some ⟨g1, 0, none⟩) n n) rfl
  unfold S10 at KS
  refine hK _ _ (.inl rfl) (fun _ => ?_)
  clear hK
  (try simp only [Act.put, List.setIfInBounds_toArray, List.set_cons_zero, List.set_cons_succ])
  refine wpAnyZ_done (by kernel_rfl) ?_ _
  have hs1 := E0.size
  have hs2 := lt_of_block (HR.out X (Ext.refl X))
  have B1 := bools_of_own (M := M) (own_kpI O1 KS (fun q hq e => by obtain rfl : g1 = q := Option.some.inj hq; have := hg1.out; omega)) (fun q hq => by have := hM q hq; have := hg1.out; omega)
  have B2 := bools_of_own (M := M) (own_kpI O2 KS (fun q hq e => by obtain rfl : g2 = q := Option.some.inj hq; omega)) (fun q hq => by have := hM q hq; omega)
  have EV := (E0.comp F2).below5 KS (fun q hq => by omega)
  have gV := s10_block (.slice a1 s.store.length k1) (.slice a2 s.tape.length k2) (.int .i64 s.taken) (.slice a3 s.printed.length k3) (.int .i64 s.time) (.int .i64 s.at_) (.int .i64 s.done) (.int .i64 s.why) (.slice (some ⟨g2, 0, none⟩) 128 128) (.slice (some ⟨g1, 0, none⟩) n n) gR
  unfold S10 at gV
  clear O1 O2 KS gR z0 z1 z2 z3 z4 z5 z6 z7 z8 z9 f0 f1 f2 f3 f4 f5 f6 f7 f8 f9 HQ HR
  generalize ((((((((((Z.setCell ⟨w.heap.size + 1, 0, none⟩ (.slice a1 s.store.length k1)).setCell ⟨w.heap.size + 1, 1, none⟩ (.slice a2 s.tape.length k2)).setCell ⟨w.heap.size + 1, 2, none⟩ (.int .i64 s.taken)).setCell ⟨w.heap.size + 1, 3, none⟩ (.slice a3 s.printed.length k3)).setCell ⟨w.heap.size + 1, 4, none⟩ (.int .i64 s.time)).setCell ⟨w.heap.size + 1, 5, none⟩ (.int .i64 s.at_)).setCell ⟨w.heap.size + 1, 6, none⟩ (.int .i64 s.done)).setCell ⟨w.heap.size + 1, 7, none⟩ (.int .i64 s.why)).setCell ⟨w.heap.size + 1, 8, none⟩ (.slice (some ⟨g2, 0, none⟩) 128 128)).setCell ⟨w.heap.size + 1, 9, none⟩ (.slice (some ⟨g1, 0, none⟩) n n)) = V at B1 B2 EV gV ⊢
  have r0 := blk_cell gV 0 (v := .slice a1 s.store.length k1) rfl
  have r1 := blk_cell gV 1 (v := .slice a2 s.tape.length k2) rfl
  have r2 := blk_cell gV 2 (v := .int .i64 s.taken) rfl
  have r3 := blk_cell gV 3 (v := .slice a3 s.printed.length k3) rfl
  have r4 := blk_cell gV 4 (v := .int .i64 s.time) rfl
  have r5 := blk_cell gV 5 (v := .int .i64 s.at_) rfl
  have r6 := blk_cell gV 6 (v := .int .i64 s.done) rfl
  have r7 := blk_cell gV 7 (v := .int .i64 s.why) rfl
  have r8 := blk_cell gV 8 (v := .slice (some ⟨g2, 0, none⟩) 128 128) rfl
  have r9 := blk_cell gV 9 (v := .slice (some ⟨g1, 0, none⟩) n n) rfl
  go_wp2
  refine bodyPost_ret (v := .agg #[.slice a1 s.store.length k1, .slice a2 s.tape.length k2, .int .i64 s.taken, .slice a3 s.printed.length k3, .int .i64 s.time, .int .i64 s.at_, .int .i64 s.done, .int .i64 s.why, .slice (some ⟨g2, 0, none⟩) 128 128, .slice (some ⟨g1, 0, none⟩) n n]) (by simp [results, Tryz.results24, go_sem, r0, r1, r2, r3, r4, r5, r6, r7, r8, r9]) rfl ⟨_, _, rfl, B2, B1, EV⟩
end Go.Proofs.YtnhpcoagkmgdoaaGreat
/- Layer 10's reference: notice, some. -/
namespace Go.Q
theorem find_hit {l : List Int} {p : Int → Bool} {i : Nat} (hi : i < l.length) (hp : p (l[i]?.getD 0) = true) (hn : ∀ j, j < i → p (l[j]?.getD 0) = false) : (l.find? p).getD (-1) = l[i]?.getD 0 := by
 have : l.find? p = some l[i] := by
  rw [List.find?_eq_some_iff_getElem]
  rw [List.getElem?_eq_getElem hi, Option.getD_some] at hp
  refine ⟨hp, i, hi, rfl, fun j hj => ?_⟩
  have := hn j hj
  rw [List.getElem?_eq_getElem (by omega), Option.getD_some] at this
  simp [this]
 rw [this, List.getElem?_eq_getElem hi]; rfl
theorem find_miss {l : List Int} {p : Int → Bool} (hn : ∀ j, j < l.length → p (l[j]?.getD 0) = false) : (l.find? p).getD (-1) = -1 := by
 have : l.find? p = none := by
  rw [List.find?_eq_none]
  intro x hx
  obtain ⟨j, hj, rfl⟩ := List.getElem_of_mem hx
  have := hn j hj
  rw [List.getElem?_eq_getElem hj, Option.getD_some] at this
  simp [this]
 rw [this]; rfl
theorem writes_bd {s : St} (hv : Valid s) : writesQ s = -1 ∨ (0 ≤ writesQ s ∧ writesQ s ≤ 127) := by
 have h2 : 0 ≤ (ordAt s).to ∧ (ordAt s).to ≤ 127 := by
  have := hv.ord
  simp only [ordB, addrB, inB, Bool.and_eq_true, decide_eq_true_eq] at this
  omega
 unfold writesQ
 split
 ·exact .inr h2
 ·exact .inl rfl
theorem reads_len (s : St) : (readsQ s).length ≤ 3 := by
 unfold readsQ
 rw [List.length_cons, List.length_append]
 split <;> split <;> simp
end Go.Q
namespace Go.Proofs.YtnhpcoagkmgdoaaGreat
open Go.RowKit Go.Q Go.Shelf Go.Maps Go.Joins
set_option maxHeartbeats 4000000
set_option maxRecDepth 100000
theorem rnotice_any {M : Nat → Prop} {a1 a2 a3 b g : Option Addr} (k1 k2 k3 cb ng cg : Nat) {s : St} {bad fl : List Bool} {w : World} (gone : Int → Bool) (h : MF M w a1 a2 a3 b g s bad fl) (hv : Valid s) (hl : bad.length = 128) :
  Calls Tryz.prog 26 #[.agg #[.slice a1 s.store.length k1, .slice a2 s.tape.length k2, .int .i64 s.taken, .slice a3 s.printed.length k3, .int .i64 s.time, .int .i64 s.at_, .int .i64 s.done, .int .i64 s.why, .slice b 128 cb, .slice g ng cg]] w fun e w' => e = .returned (.int .i64 (noticeQ ⟨s, bad, gone⟩)) ∧ Ext w w' := by
 have hr := fun W (E : Ext w W) => rreads_any (sv a1 a2 a3 s.store.length k1 s.tape.length k2 s.printed.length k3 s.taken s.time s.at_ s.done s.why) s W ((h.st k1 k2 k3).ext E) hv
 unfold sv ReadsRes at hr
 have HBD := Lib.hid (reads_bd hv)
 have hb0 := h.ib
 have hln := reads_len s
 obtain ⟨gb, ob, rfl, -, hgb, hbc⟩ : ∃ gb ob, b = some ⟨gb, ob, none⟩ ∧ ¬ M gb ∧ gb < w.heap.size ∧ ∀ i, i < bad.length → w.cell? ⟨gb, ob + i, none⟩ = some (.bool (bad[i]?.getD false)) := by
  rcases hb0 with h | h
  ·rw [h] at hl; simp at hl
  ·exact h
 rw [hl] at hbc
 have HBC := Lib.hid hbc
 have hB := heap_alloc_new w (.cells #[.slice a1 s.store.length k1, .slice a2 s.tape.length k2, .int .i64 s.taken, .slice a3 s.printed.length k3, .int .i64 s.time, .int .i64 s.at_, .int .i64 s.done, .int .i64 s.why, .slice (some ⟨gb, ob, none⟩) 128 cb, .slice g ng cg] 56)
 have E0 : Ext w (w.alloc (.cells #[.slice a1 s.store.length k1, .slice a2 s.tape.length k2, .int .i64 s.taken, .slice a3 s.printed.length k3, .int .i64 s.time, .int .i64 s.at_, .int .i64 s.done, .int .i64 s.why, .slice (some ⟨gb, ob, none⟩) 128 cb, .slice g ng cg] 56)) := (Ext.refl w).alloc _
 have HN : Hid (noticeQ ⟨s, bad, gone⟩ = ((readsQ s).find? (badAt bad)).getD (-1)) := Lib.hid rfl
 obtain ⟨N, hN⟩ : ∃ N, noticeQ ⟨s, bad, gone⟩ = N := ⟨_, rfl⟩
 rw [hN] at HN ⊢
 obtain ⟨l, hl0⟩ : ∃ l, readsQ s = l := ⟨_, rfl⟩
 rw [hl0] at hr HBD HN hln
 clear h hb0 hbc hv hl hN hl0
 go_enter Tryz.func26, Tryz.ntmps26
 have q0 := blk_cell hB 0 (v := .slice a1 s.store.length k1) rfl
 have q1 := blk_cell hB 1 (v := .slice a2 s.tape.length k2) rfl
 have q2 := blk_cell hB 2 (v := .int .i64 s.taken) rfl
 have q3 := blk_cell hB 3 (v := .slice a3 s.printed.length k3) rfl
 have q4 := blk_cell hB 4 (v := .int .i64 s.time) rfl
 have q5 := blk_cell hB 5 (v := .int .i64 s.at_) rfl
 have q6 := blk_cell hB 6 (v := .int .i64 s.done) rfl
 have q7 := blk_cell hB 7 (v := .int .i64 s.why) rfl
 have q8 := blk_cell hB 8 (v := .slice (some ⟨gb, ob, none⟩) 128 cb) rfl
 have q9 := blk_cell hB 9 (v := .slice g ng cg) rfl
 go_wp2_with fail
 refine (hr _ E0).mono ?_
 rintro e w1 ⟨la, lc, rfl, HL, E1⟩
 clear q0 q1 q2 q3 q4 q5 q6 q7 q8 q9 hr
 have gB := (E1.block _ (lt_of_block hB)).trans hB
 have E01 := E0.comp E1
 clear hB E0 E1
 go_wp2_with fail
 go_loopw [5] (fun i wr => ∃ k : Nat, k ≤ l.length ∧ i = .int .i64 (k : Int) ∧ Hid (∀ j, j < k → badAt bad (l[j]?.getD 0) = false) ∧ Ext w1 wr) (fun i _ => l.length - (Go.RowKit.intOf i).toNat)
 case atStart => exact ⟨0, Nat.zero_le _, rfl, Lib.hid (fun j hj => absurd hj (Nat.not_lt_zero _)), Ext.refl _⟩
 case round =>
  obtain ⟨k, hk, rfl, HP, EL⟩ := hrel
  by_cases hlt : k < l.length
  ·have hltz : (k : Int) < (l.length : Int) := by omega
   have hk0 : (0 : Int) ≤ (k : Int) := by omega
   obtain ⟨ga, oa, rfl, hga, hac⟩ : ∃ ga oa, la = some ⟨ga, oa, none⟩ ∧ ga < w1.heap.size ∧ ∀ i, i < l.length → w1.cell? ⟨ga, oa + i, none⟩ = some (.int .i64 (l[i]?.getD 0)) := by
    rcases HL with h | h
    ·rw [h] at hlt; simp at hlt
    ·exact h
   have l0 := (EL.cell (p := ⟨ga, oa + k, none⟩) hga).trans (hac k hlt)
   have hbd := HBD.out (l[k]?.getD 0) (by rw [List.getElem?_eq_getElem hlt]; exact List.getElem_mem hlt)
   have hhit := fun hp => find_hit (l := l) (p := badAt bad) (i := k) hlt hp HP.out
   have hgo : badAt bad (l[k]?.getD 0) = false → Hid (∀ j, j < k + 1 → badAt bad (l[j]?.getD 0) = false) := fun hp => Lib.hid (fun j hj => by
    by_cases e : j = k
    ·subst e; exact hp
    ·exact HP.out j (by omega))
   obtain ⟨x, hx⟩ : ∃ x, l[k]?.getD 0 = x := ⟨_, rfl⟩
   rw [hx] at l0 hbd hhit hgo
   obtain ⟨p, rfl⟩ := Int.eq_ofNat_of_zero_le hbd.1
   have hp0 : (0 : Int) ≤ (p : Int) := by omega
   have hp1 : (p : Int) < 128 := by omega
   have c0 := ((E01.comp EL).cell (p := ⟨gb, ob + p, none⟩) hgb).trans (HBC.out p (by omega))
   have q8 := blk_cell ((EL.block _ (lt_of_block gB)).trans gB) 8 (v := .slice (some ⟨gb, ob, none⟩) 128 cb) rfl
   have eb : badAt bad (p : Int) = bad[p]?.getD false := by unfold badAt; rw [Int.toNat_natCast]
   rw [eb] at hhit hgo
   clear eb
   have HLT := Lib.hid hlt
   clear hac hga hgb hx hbd hlt
   cases hbb : bad[p]?.getD false with
   | true =>
    have HX := Lib.hid (hhit hbb)
    rw [hbb] at c0
    clear hhit hgo hbb
    go_upto_region 5 with fail
    go_quiet (fail)
    have EQ : Ext wr (wr.drewN nq) := ext_drewN (Ext.refl wr) nq
    have l0 := (EQ.cell (p := ⟨ga, oa + k, none⟩) (World.block_lt_of_cell? _ _ l0)).trans l0
    obtain ⟨wq, hwq⟩ : ∃ wq, wr.drewN nq = wq := ⟨_, rfl⟩
    rw [hwq] at EQ l0 ⊢
    clear hwq
    go_wp2
    refine bodyPost_ret (v := .int .i64 (p : Int)) (by simp [results, Tryz.results26, go_sem]) rfl ⟨?_, E01.comp (EL.comp EQ)⟩
    rw [HN.out, HX.out]
   | false =>
    have HN2 := hgo hbb
    rw [hbb] at c0
    clear hhit hgo hbb
    go_upto_region 5 with fail
    go_quiet (fail)
    have EQ : Ext wr (wr.drewN nq) := ext_drewN (Ext.refl wr) nq
    obtain ⟨wq, hwq⟩ : ∃ wq, wr.drewN nq = wq := ⟨_, rfl⟩
    rw [hwq] at EQ ⊢
    clear hwq
    go_wp2
    go_roundw
    case rel => exact ⟨k + 1, HLT.out, by go_num, HN2, EL.comp EQ⟩
    case measure => have := HLT.out; simp [Go.RowKit.intOf]; omega
  ·have hltz : ¬ (k : Int) < (l.length : Int) := by omega
   have HX := Lib.hid (find_miss (l := l) (p := badAt bad) fun j hj => HP.out j (by omega))
   go_wp2
   refine bodyPost_ret (v := .int .i64 (-1)) (by simp [results, Tryz.results26, go_sem]) rfl ⟨?_, E01.comp EL⟩
   rw [HN.out, HX.out]
end Go.Proofs.YtnhpcoagkmgdoaaGreat
/- Layer 10's reference: do. -/
namespace Go.Proofs.YtnhpcoagkmgdoaaGreat
open Go.RowKit Go.Q Go.Shelf Go.Maps Go.Joins
set_option maxHeartbeats 4000000
set_option maxRecDepth 100000
/-- a machine is returned, the lists of which lie apart from the blocks of M -/
def MRes (M : Nat → Prop) (x : Lm) (fl : List Bool) (ng : Nat) (w : World) (e : Ending) (w' : World) : Prop := ∃ a1 a2 a3 b g k1 k2 k3 cb cg, e = .returned (.agg #[.slice a1 x.s.store.length k1, .slice a2 x.s.tape.length k2, .int .i64 x.s.taken, .slice a3 x.s.printed.length k3, .int .i64 x.s.time, .int .i64 x.s.at_, .int .i64 x.s.done, .int .i64 x.s.why, .slice b 128 cb, .slice g ng cg]) ∧ MF M w' a1 a2 a3 b g x.s x.bad fl ∧ Ext w w'
theorem rdo_any {M : Nat → Prop} {a1 a2 a3 b g : Option Addr} (k1 k2 k3 cb ng cg : Nat) {s : St} {bad fl : List Bool} {w : World} (gone : Int → Bool) (hM : ∀ q, M q → q < w.heap.size) (h : MF M w a1 a2 a3 b g s bad fl) (hv : Valid s) (hw : s.why = 0) (hl : bad.length = 128) :
  Calls Tryz.prog 27 #[.agg #[.slice a1 s.store.length k1, .slice a2 s.tape.length k2, .int .i64 s.taken, .slice a3 s.printed.length k3, .int .i64 s.time, .int .i64 s.at_, .int .i64 s.done, .int .i64 s.why, .slice b 128 cb, .slice g ng cg]] w (MRes M (doL ⟨s, bad, gone⟩) fl ng w) := by
 have hr := fun W (E : Ext w W) => rreads_any (sv a1 a2 a3 s.store.length k1 s.tape.length k2 s.printed.length k3 s.taken s.time s.at_ s.done s.why) s W ((h.st k1 k2 k3).ext E) hv
 have hst := fun W (E : Ext w W) => rstep_any (sv a1 a2 a3 s.store.length k1 s.tape.length k2 s.printed.length k3 s.taken s.time s.at_ s.done s.why) s W ((h.st k1 k2 k3).ext E) hv hw
 have hzb : ((w.alloc (.cells #[.slice a1 s.store.length k1, .slice a2 s.tape.length k2, .int .i64 s.taken, .slice a3 s.printed.length k3, .int .i64 s.time, .int .i64 s.at_, .int .i64 s.done, .int .i64 s.why, .slice b 128 cb, .slice g ng cg] 56)).alloc (.cells #[.slice none 0 0, .slice none 0 0, .int .i64 0, .slice none 0 0, .int .i64 0, .int .i64 0, .int .i64 0, .int .i64 0, .slice none 0 0, .slice none 0 0] 56)).heap[w.heap.size + 1]? = some (.cells #[.slice none 0 0, .slice none 0 0, .int .i64 0, .slice none 0 0, .int .i64 0, .int .i64 0, .int .i64 0, .int .i64 0, .slice none 0 0, .slice none 0 0] 56 (0, 0)) := by
  have e := heap_alloc_new (w.alloc (.cells #[.slice a1 s.store.length k1, .slice a2 s.tape.length k2, .int .i64 s.taken, .slice a3 s.printed.length k3, .int .i64 s.time, .int .i64 s.at_, .int .i64 s.done, .int .i64 s.why, .slice b 128 cb, .slice g ng cg] 56)) (.cells #[.slice none 0 0, .slice none 0 0, .int .i64 0, .slice none 0 0, .int .i64 0, .int .i64 0, .int .i64 0, .int .i64 0, .slice none 0 0, .slice none 0 0] 56)
  rw [World.size_alloc] at e
  exact e
 have hP := (Below.heap_alloc (w.alloc (.cells #[.slice a1 s.store.length k1, .slice a2 s.tape.length k2, .int .i64 s.taken, .slice a3 s.printed.length k3, .int .i64 s.time, .int .i64 s.at_, .int .i64 s.done, .int .i64 s.why, .slice b 128 cb, .slice g ng cg] 56)) (.cells #[.slice none 0 0, .slice none 0 0, .int .i64 0, .slice none 0 0, .int .i64 0, .int .i64 0, .int .i64 0, .int .i64 0, .slice none 0 0, .slice none 0 0] 56) _ (lt_of_block (heap_alloc_new w (.cells #[.slice a1 s.store.length k1, .slice a2 s.tape.length k2, .int .i64 s.taken, .slice a3 s.printed.length k3, .int .i64 s.time, .int .i64 s.at_, .int .i64 s.done, .int .i64 s.why, .slice b 128 cb, .slice g ng cg] 56)))).trans (heap_alloc_new w (.cells #[.slice a1 s.store.length k1, .slice a2 s.tape.length k2, .int .i64 s.taken, .slice a3 s.printed.length k3, .int .i64 s.time, .int .i64 s.at_, .int .i64 s.done, .int .i64 s.why, .slice b 128 cb, .slice g ng cg] 56))
 have E0 : Ext w ((w.alloc (.cells #[.slice a1 s.store.length k1, .slice a2 s.tape.length k2, .int .i64 s.taken, .slice a3 s.printed.length k3, .int .i64 s.time, .int .i64 s.at_, .int .i64 s.done, .int .i64 s.why, .slice b 128 cb, .slice g ng cg] 56)).alloc (.cells #[.slice none 0 0, .slice none 0 0, .int .i64 0, .slice none 0 0, .int .i64 0, .int .i64 0, .int .i64 0, .int .i64 0, .slice none 0 0, .slice none 0 0] 56)) := ((Ext.refl w).alloc _).alloc _
 have hs0 : ((w.alloc (.cells #[.slice a1 s.store.length k1, .slice a2 s.tape.length k2, .int .i64 s.taken, .slice a3 s.printed.length k3, .int .i64 s.time, .int .i64 s.at_, .int .i64 s.done, .int .i64 s.why, .slice b 128 cb, .slice g ng cg] 56)).alloc (.cells #[.slice none 0 0, .slice none 0 0, .int .i64 0, .slice none 0 0, .int .i64 0, .int .i64 0, .int .i64 0, .int .i64 0, .slice none 0 0, .slice none 0 0] 56)).heap.size = w.heap.size + 2 := by simp
 obtain ⟨X, hX⟩ : ∃ X, (w.alloc (.cells #[.slice a1 s.store.length k1, .slice a2 s.tape.length k2, .int .i64 s.taken, .slice a3 s.printed.length k3, .int .i64 s.time, .int .i64 s.at_, .int .i64 s.done, .int .i64 s.why, .slice b 128 cb, .slice g ng cg] 56)).alloc (.cells #[.slice none 0 0, .slice none 0 0, .int .i64 0, .slice none 0 0, .int .i64 0, .int .i64 0, .int .i64 0, .int .i64 0, .slice none 0 0, .slice none 0 0] 56) = X := ⟨_, rfl⟩
 rw [hX] at hzb hP E0 hs0
 have HE := Lib.hid (show doL ⟨s, bad, gone⟩ = ⟨stepQ s, if 0 ≤ writesQ s ∧ (stepQ s).why = 0 then bad.set (writesQ s).toNat false else bad, gone⟩ by unfold doL; rw [run_one hw])
 -- the lists lie apart from both variables as well
 have hMF : MF (fun q => M q ∨ w.heap.size ≤ q) w a1 a2 a3 b g s bad fl := h.weaken (fun q hq hm => hm.resolve_right (by omega))
 have HW := Lib.hid (writes_bd hv)
 have HL := Lib.hid hl
 obtain ⟨T, hT⟩ : ∃ T, stepQ s = T := ⟨_, rfl⟩
 obtain ⟨wr, hwr⟩ : ∃ wr, writesQ s = wr := ⟨_, rfl⟩
 obtain ⟨i0, hi0, hz0, hz1, hz2⟩ := info_parts Tryz.infoBool
 unfold ReadsRes at hr
 unfold sv SRes at hst
 rw [hT] at hst HE
 rw [hwr] at hr HE HW
 unfold sv at hr
 obtain ⟨x, hx⟩ : ∃ x, doL ⟨s, bad, gone⟩ = x := ⟨_, rfl⟩
 rw [hx] at HE ⊢
 clear h hv hw hl hT hwr hx
 go_enter Tryz.func27, Tryz.ntmps27
 have q0 := blk_cell hP 0 (v := .slice a1 s.store.length k1) rfl
 have q1 := blk_cell hP 1 (v := .slice a2 s.tape.length k2) rfl
 have q2 := blk_cell hP 2 (v := .int .i64 s.taken) rfl
 have q3 := blk_cell hP 3 (v := .slice a3 s.printed.length k3) rfl
 have q4 := blk_cell hP 4 (v := .int .i64 s.time) rfl
 have q5 := blk_cell hP 5 (v := .int .i64 s.at_) rfl
 have q6 := blk_cell hP 6 (v := .int .i64 s.done) rfl
 have q7 := blk_cell hP 7 (v := .int .i64 s.why) rfl
 have q8 := blk_cell hP 8 (v := .slice b 128 cb) rfl
 have q9 := blk_cell hP 9 (v := .slice g ng cg) rfl
 go_upto_region 1 with fail
 (try rw [hX])
 clear hX
 go_wp2_with fail
 refine (hr _ E0).mono ?_
 rintro e w1 ⟨la, lc, rfl, -, E1⟩
 clear q0 q1 q2 q3 q4 q5 q6 q7 q8 q9 hr
 have gP := (E1.block _ (lt_of_block hP)).trans hP
 have gz := (E1.block _ (lt_of_block hzb)).trans hzb
 have E01 := E0.comp E1
 have hs1 : w.heap.size + 2 ≤ w1.heap.size := by have := E1.size; omega
 clear hP hzb E0 E1 hs0
 have q0 := blk_cell gP 0 (v := .slice a1 s.store.length k1) rfl
 have q1 := blk_cell gP 1 (v := .slice a2 s.tape.length k2) rfl
 have q2 := blk_cell gP 2 (v := .int .i64 s.taken) rfl
 have q3 := blk_cell gP 3 (v := .slice a3 s.printed.length k3) rfl
 have q4 := blk_cell gP 4 (v := .int .i64 s.time) rfl
 have q5 := blk_cell gP 5 (v := .int .i64 s.at_) rfl
 have q6 := blk_cell gP 6 (v := .int .i64 s.done) rfl
 have q7 := blk_cell gP 7 (v := .int .i64 s.why) rfl
 have q8 := blk_cell gP 8 (v := .slice b 128 cb) rfl
 have q9 := blk_cell gP 9 (v := .slice g ng cg) rfl
 go_wp2_with fail
 refine (hst _ E01).mono ?_
 rintro e w2 ⟨vv, rfl, A2, E2, hA2⟩
 have hav : ∀ q, M q ∨ w.heap.size ≤ q → q < w1.heap.size → AvSt vv T q := fun q hq hq1 => hA2 q hq1 (avSt_sv.2 ⟨av_intsF hMF.i1 hq, av_intsF hMF.i2 hq, av_intsF hMF.i3 hq⟩)
 obtain ⟨b1, b2, b3, l1, l2, l3, rfl, j1, j2, j3⟩ := A2
 have hMs : ∀ q, M q ∨ q = w.heap.size ∨ q = w.heap.size + 1 → (M q ∨ w.heap.size ≤ q) ∧ q < w1.heap.size := by
  intro q hq
  rcases hq with hq | rfl | rfl
  ·exact ⟨.inl hq, by have := hM q hq; omega⟩
  ·exact ⟨.inr (Nat.le_refl _), by omega⟩
  ·exact ⟨.inr (by omega), by omega⟩
 have E02 := E01.comp E2
 have hF2 : MF (fun q => M q ∨ q = w.heap.size ∨ q = w.heap.size + 1) w2 b1 b2 b3 b g T bad fl :=
  ⟨intsF_av j1 (fun q hq => (avSt_sv.1 (hav q (hMs q hq).1 (hMs q hq).2)).1), intsF_av j2 (fun q hq => (avSt_sv.1 (hav q (hMs q hq).1 (hMs q hq).2)).2.1), intsF_av j3 (fun q hq => (avSt_sv.1 (hav q (hMs q hq).1 (hMs q hq).2)).2.2),
   (hMF.ib.weaken (fun q _ hq => (hMs q hq).1)).ext E02, (hMF.ig.weaken (fun q _ hq => (hMs q hq).1)).ext E02⟩
 clear hav hA2 j1 j2 j3 hst hMs hMF E01
 have gP2 := (E2.block _ (lt_of_block gP)).trans gP
 have gz2 := (E2.block _ (lt_of_block gz)).trans gz
 have hs2 : w.heap.size + 2 ≤ w2.heap.size := by have := E2.size; omega
 clear q0 q1 q2 q3 q4 q5 q6 q7 q8 q9 gP gz hs1 E2
 have q0 := blk_cell gP2 0 (v := .slice a1 s.store.length k1) rfl
 have q1 := blk_cell gP2 1 (v := .slice a2 s.tape.length k2) rfl
 have q2 := blk_cell gP2 2 (v := .int .i64 s.taken) rfl
 have q3 := blk_cell gP2 3 (v := .slice a3 s.printed.length k3) rfl
 have q4 := blk_cell gP2 4 (v := .int .i64 s.time) rfl
 have q5 := blk_cell gP2 5 (v := .int .i64 s.at_) rfl
 have q6 := blk_cell gP2 6 (v := .int .i64 s.done) rfl
 have q7 := blk_cell gP2 7 (v := .int .i64 s.why) rfl
 have q8 := blk_cell gP2 8 (v := .slice b 128 cb) rfl
 have q9 := blk_cell gP2 9 (v := .slice g ng cg) rfl
 have f0 := blk_free gP2 0
 have f1 := blk_free gP2 1
 have f2 := blk_free gP2 2
 have f3 := blk_free gP2 3
 have f4 := blk_free gP2 4
 have f5 := blk_free gP2 5
 have f6 := blk_free gP2 6
 have f7 := blk_free gP2 7
 have f8 := blk_free gP2 8
 have f9 := blk_free gP2 9
 have KP := s8_kp (M := fun q => q = w.heap.size) (w := w2) (b := w.heap.size) (n0 := .slice b1 T.store.length l1) (n1 := .slice b2 T.tape.length l2) (n2 := .int .i64 T.taken) (n3 := .slice b3 T.printed.length l3) (n4 := .int .i64 T.time) (n5 := .int .i64 T.at_) (n6 := .int .i64 T.done) (n7 := .int .i64 T.why) rfl
 have gP3 := s8_block10 (.slice b1 T.store.length l1) (.slice b2 T.tape.length l2) (.int .i64 T.taken) (.slice b3 T.printed.length l3) (.int .i64 T.time) (.int .i64 T.at_) (.int .i64 T.done) (.int .i64 T.why) gP2
 unfold S8 at KP gP3
 have E03 := E02.below5 KP (fun q hq => by omega)
 have gz3 := (KP.block _ (lt_of_block gz2) (by omega)).trans gz2
 have hF3 := hF2.kp KP (fun q _ hq => .inr (.inl hq))
 have hs3 := Nat.le_trans hs2 KP.size
 clear gP2 gz2 hF2 KP hs2 E02
 go_upto_region 3 with fail
 generalize ((((((((w2.setCell ⟨w.heap.size, 0, none⟩ (.slice b1 T.store.length l1)).setCell ⟨w.heap.size, 1, none⟩ (.slice b2 T.tape.length l2)).setCell ⟨w.heap.size, 2, none⟩ (.int .i64 T.taken)).setCell ⟨w.heap.size, 3, none⟩ (.slice b3 T.printed.length l3)).setCell ⟨w.heap.size, 4, none⟩ (.int .i64 T.time)).setCell ⟨w.heap.size, 5, none⟩ (.int .i64 T.at_)).setCell ⟨w.heap.size, 6, none⟩ (.int .i64 T.done)).setCell ⟨w.heap.size, 7, none⟩ (.int .i64 T.why)) = V at gP3 E03 gz3 hF3 hs3 ⊢
 clear f0 f1 f2 f3 f4 f5 f6 f7 f8 f9 q0 q1 q2 q3 q4 q5 q6 q7 q8 q9
 have q0 := blk_cell gP3 0 (v := .slice b1 T.store.length l1) rfl
 have q1 := blk_cell gP3 1 (v := .slice b2 T.tape.length l2) rfl
 have q2 := blk_cell gP3 2 (v := .int .i64 T.taken) rfl
 have q3 := blk_cell gP3 3 (v := .slice b3 T.printed.length l3) rfl
 have q4 := blk_cell gP3 4 (v := .int .i64 T.time) rfl
 have q5 := blk_cell gP3 5 (v := .int .i64 T.at_) rfl
 have q6 := blk_cell gP3 6 (v := .int .i64 T.done) rfl
 have q7 := blk_cell gP3 7 (v := .int .i64 T.why) rfl
 have q8 := blk_cell gP3 8 (v := .slice b 128 cb) rfl
 have q9 := blk_cell gP3 9 (v := .slice g ng cg) rfl
 by_cases hc : 0 ≤ wr ∧ T.why = 0
 ·have hwz := hc.1
  have y2 : (T.why == 0) = true := by simpa using hc.2
  have HC := Lib.hid hc
  obtain ⟨p, rfl⟩ := Int.eq_ofNat_of_zero_le hwz
  have hp : p < 128 := by rcases HW.out with h | h <;> omega
  have hp0 : (0 : Int) ≤ (p : Int) := by omega
  have hp1 : (p : Int) < 128 := by omega
  have y1 : ((p : Int) ≥ 0) := hp0
  clear hc hwz
  have hfr : From (V.alloc (.cells #[] 4)) b (bvs bad) := from_boolsF (hF3.ib.ext ((Ext.refl V).alloc _))
  have q8' := blk_cell ((((Ext.refl V).alloc (.cells #[] 4)).block w.heap.size (lt_of_block gP3)).trans gP3) 8 (v := .slice b 128 cb) rfl
  go_upto_region 4 with fail
  go_upto_region 5 with (at_builtin; refine wpList_app (w0 := V) rfl _ _ 54 rfl 4 i0 (.bool false) 1 1 Tryz.underlying54 hi0 hz0 hz1 hz2 rfl (by decide) _ 0 V.heap.size [] rfl (own_empty (Ext.refl _)) ((Ext.refl V).alloc _) (Nat.le_refl _) (by simp) b 128 cb (bvs bad) rfl (by rw [bvs_length, HL.out]) hfr (bvs_one _) (by unfold maxLen; decide) (by decide) ?_; intro a5 c5 W5 ho5 hE5 _; have gP5 := (hE5.block _ (lt_of_block gP3)).trans gP3; have f8 := blk_free gP5 8; have p8 := blk_cell gP5 8 (v := .slice b 128 cb) rfl)
  (try rw [Nat.zero_add])
  rw [Nat.zero_add, List.nil_append] at ho5
  obtain ⟨h, c5', hg5⟩ := ownsRow_form ho5 (by decide)
  obtain ⟨rfl, -, rfl⟩ := Value.slice.inj hg5
  have hgl := ho5.lt h rfl
  have KP : KpM (fun q => q = w.heap.size) W5 (W5.setCell ⟨w.heap.size, 8, none⟩ (.slice (some ⟨h, 0, none⟩) 128 c5)) := kpm_set W5 w.heap.size 8 _ rfl
  have g9 := cells_set gP5 8 (.slice (some ⟨h, 0, none⟩) 128 c5)
  (try simp at g9)
  have O2 := own_kpI ho5 KP (fun q hq e => by obtain rfl : h = q := Option.some.inj hq; omega)
  have gz5 := (KP.block _ (lt_of_block ((hE5.block _ (lt_of_block gz3)).trans gz3)) (by omega)).trans ((hE5.block _ (lt_of_block gz3)).trans gz3)
  have E6 : Ext w _ := (E03.comp hE5).below5 KP (fun q hq => by omega)
  have hF3h : MF (fun q => (M q ∨ q = w.heap.size ∨ q = w.heap.size + 1) ∨ q = h) V b1 b2 b3 b g T bad fl := hF3.weaken (fun q hq hm => hm.resolve_right (by omega))
  have hF6 := (hF3h.ext hE5).kp KP (fun q _ hq => .inl (.inr (.inl hq)))
  generalize W5.setCell ⟨w.heap.size, 8, none⟩ (.slice (some ⟨h, 0, none⟩) 128 c5) = V6 at g9 O2 gz5 E6 hF6 ⊢
  clear q0 q1 q2 q3 q4 q5 q6 q7 q8 q9 q8' p8 f8 ho5 hg5 KP gP5 hfr gP3 gz3 hF3 hF3h E03 hE5
  have q8 := blk_cell g9 8 (v := .slice (some ⟨h, 0, none⟩) 128 c5) rfl
  have ce := own_cellV O2 p (by rw [HL.out]; exact hp)
  have ff := O2.frozenAt p
  have O3 := own_setV O2 p false
  have KG : KpM (fun q => q = h) V6 (V6.setCell ⟨h, p, none⟩ (.bool false)) := kpm_set (M := fun q => q = h) V6 h p (.bool false) rfl
  have g10 := (KG.block w.heap.size (lt_of_block g9) (by omega)).trans g9
  have gz7 := (KG.block _ (lt_of_block gz5) (by omega)).trans gz5
  have E7 : Ext w _ := E6.below5 KG (fun q hq => by omega)
  have hMV : ∀ q, M q ∨ q = w.heap.size ∨ q = w.heap.size + 1 → q < V.heap.size := by
   intro q hq
   rcases hq with hq | rfl | rfl
   ·have := hM q hq; omega
   ·omega
   ·omega
  have hF7 := (hF6.kp KG (fun q _ hq => .inr hq)).weaken (M' := fun q => M q ∨ q = w.heap.size ∨ q = w.heap.size + 1) (fun q _ hq => .inl hq)
  have hF8 : MF (fun q => M q ∨ q = w.heap.size ∨ q = w.heap.size + 1) _ b1 b2 b3 (some ⟨h, 0, none⟩) g T (bad.set p false) fl := ⟨hF7.i1, hF7.i2, hF7.i3, bools_of_own O3 hMV, hF7.ig⟩
  go_upto_region 6 with fail
  generalize V6.setCell ⟨h, p, none⟩ (.bool false) = V7 at g10 gz7 E7 hF8 ⊢
  clear q8 ce ff O2 O3 KG g9 gz5 E6 hF6 hF7 hMV
  have q0 := blk_cell g10 0 (v := .slice b1 T.store.length l1) rfl
  have q1 := blk_cell g10 1 (v := .slice b2 T.tape.length l2) rfl
  have q2 := blk_cell g10 2 (v := .int .i64 T.taken) rfl
  have q3 := blk_cell g10 3 (v := .slice b3 T.printed.length l3) rfl
  have q4 := blk_cell g10 4 (v := .int .i64 T.time) rfl
  have q5 := blk_cell g10 5 (v := .int .i64 T.at_) rfl
  have q6 := blk_cell g10 6 (v := .int .i64 T.done) rfl
  have q7 := blk_cell g10 7 (v := .int .i64 T.why) rfl
  have q8 := blk_cell g10 8 (v := .slice (some ⟨h, 0, none⟩) 128 c5) rfl
  have q9 := blk_cell g10 9 (v := .slice g ng cg) rfl
  have z0 := blk_cell gz7 0 (v := .slice none 0 0) rfl
  have z1 := blk_cell gz7 1 (v := .slice none 0 0) rfl
  have z2 := blk_cell gz7 2 (v := .int .i64 0) rfl
  have z3 := blk_cell gz7 3 (v := .slice none 0 0) rfl
  have z4 := blk_cell gz7 4 (v := .int .i64 0) rfl
  have z5 := blk_cell gz7 5 (v := .int .i64 0) rfl
  have z6 := blk_cell gz7 6 (v := .int .i64 0) rfl
  have z7 := blk_cell gz7 7 (v := .int .i64 0) rfl
  have z8 := blk_cell gz7 8 (v := .slice none 0 0) rfl
  have z9 := blk_cell gz7 9 (v := .slice none 0 0) rfl
  have f0 := blk_free gz7 0
  have f1 := blk_free gz7 1
  have f2 := blk_free gz7 2
  have f3 := blk_free gz7 3
  have f4 := blk_free gz7 4
  have f5 := blk_free gz7 5
  have f6 := blk_free gz7 6
  have f7 := blk_free gz7 7
  have f8 := blk_free gz7 8
  have f9 := blk_free gz7 9
  have KZ := s10_kp (fun q => q = w.heap.size + 1) V7 (w.heap.size + 1) (.slice b1 T.store.length l1) (.slice b2 T.tape.length l2) (.int .i64 T.taken) (.slice b3 T.printed.length l3) (.int .i64 T.time) (.int .i64 T.at_) (.int .i64 T.done) (.int .i64 T.why) (.slice (some ⟨h, 0, none⟩) 128 c5) (.slice g ng cg) rfl
  have gV := s10_block (.slice b1 T.store.length l1) (.slice b2 T.tape.length l2) (.int .i64 T.taken) (.slice b3 T.printed.length l3) (.int .i64 T.time) (.int .i64 T.at_) (.int .i64 T.done) (.int .i64 T.why) (.slice (some ⟨h, 0, none⟩) 128 c5) (.slice g ng cg) gz7
  unfold S10 at KZ gV
  have EV := E7.below5 KZ (fun q hq => by omega)
  have hFV := hF8.kp KZ (fun q _ hq => .inr (.inr hq))
  have hFV := hFV.weaken (M' := M) (fun q _ hq => .inl hq)
  have HX : Hid (x.s = T ∧ x.bad = (bad.set p false)) := Lib.hid (by rw [HE.out]; exact ⟨rfl, by rw [if_pos HC.out, Int.toNat_natCast]⟩)
  clear HE KZ
  go_wp2
  generalize ((((((((((V7.setCell ⟨w.heap.size + 1, 0, none⟩ (.slice b1 T.store.length l1)).setCell ⟨w.heap.size + 1, 1, none⟩ (.slice b2 T.tape.length l2)).setCell ⟨w.heap.size + 1, 2, none⟩ (.int .i64 T.taken)).setCell ⟨w.heap.size + 1, 3, none⟩ (.slice b3 T.printed.length l3)).setCell ⟨w.heap.size + 1, 4, none⟩ (.int .i64 T.time)).setCell ⟨w.heap.size + 1, 5, none⟩ (.int .i64 T.at_)).setCell ⟨w.heap.size + 1, 6, none⟩ (.int .i64 T.done)).setCell ⟨w.heap.size + 1, 7, none⟩ (.int .i64 T.why)).setCell ⟨w.heap.size + 1, 8, none⟩ (.slice (some ⟨h, 0, none⟩) 128 c5)).setCell ⟨w.heap.size + 1, 9, none⟩ (.slice g ng cg)) = VV at gV EV hFV ⊢
  clear q0 q1 q2 q3 q4 q5 q6 q7 q8 q9 z0 z1 z2 z3 z4 z5 z6 z7 z8 z9 f0 f1 f2 f3 f4 f5 f6 f7 f8 f9
  have r0 := blk_cell gV 0 (v := .slice b1 T.store.length l1) rfl
  have r1 := blk_cell gV 1 (v := .slice b2 T.tape.length l2) rfl
  have r2 := blk_cell gV 2 (v := .int .i64 T.taken) rfl
  have r3 := blk_cell gV 3 (v := .slice b3 T.printed.length l3) rfl
  have r4 := blk_cell gV 4 (v := .int .i64 T.time) rfl
  have r5 := blk_cell gV 5 (v := .int .i64 T.at_) rfl
  have r6 := blk_cell gV 6 (v := .int .i64 T.done) rfl
  have r7 := blk_cell gV 7 (v := .int .i64 T.why) rfl
  have r8 := blk_cell gV 8 (v := .slice (some ⟨h, 0, none⟩) 128 c5) rfl
  have r9 := blk_cell gV 9 (v := .slice g ng cg) rfl
  refine bodyPost_ret (v := .agg #[.slice b1 T.store.length l1, .slice b2 T.tape.length l2, .int .i64 T.taken, .slice b3 T.printed.length l3, .int .i64 T.time, .int .i64 T.at_, .int .i64 T.done, .int .i64 T.why, .slice (some ⟨h, 0, none⟩) 128 c5, .slice g ng cg]) (by simp [results, Tryz.results27, go_sem, r0, r1, r2, r3, r4, r5, r6, r7, r8, r9]) rfl ?_
  refine ⟨b1, b2, b3, (some ⟨h, 0, none⟩), g, l1, l2, l3, c5, cg, ?_, ?_, EV⟩
  ·rw [HX.out.1]
  ·rw [HX.out.1, HX.out.2]; exact hFV
 ·have hyc : ¬ (0 ≤ wr) ∨ (T.why == 0) = false := by
   rcases Int.lt_or_le wr 0 with h | h
   ·exact .inl (by omega)
   ·exact .inr (by simpa using fun e => hc ⟨h, e⟩)
  have HC := Lib.hid hc
  clear hc
  rcases hyc with y1 | y2
  ·have y1' : ¬ (wr ≥ 0) := y1
   clear q0 q1 q2 q3 q4 q5 q6 q7 q8 q9
   have q0 := blk_cell gP3 0 (v := .slice b1 T.store.length l1) rfl
   have q1 := blk_cell gP3 1 (v := .slice b2 T.tape.length l2) rfl
   have q2 := blk_cell gP3 2 (v := .int .i64 T.taken) rfl
   have q3 := blk_cell gP3 3 (v := .slice b3 T.printed.length l3) rfl
   have q4 := blk_cell gP3 4 (v := .int .i64 T.time) rfl
   have q5 := blk_cell gP3 5 (v := .int .i64 T.at_) rfl
   have q6 := blk_cell gP3 6 (v := .int .i64 T.done) rfl
   have q7 := blk_cell gP3 7 (v := .int .i64 T.why) rfl
   have q8 := blk_cell gP3 8 (v := .slice b 128 cb) rfl
   have q9 := blk_cell gP3 9 (v := .slice g ng cg) rfl
   have z0 := blk_cell gz3 0 (v := .slice none 0 0) rfl
   have z1 := blk_cell gz3 1 (v := .slice none 0 0) rfl
   have z2 := blk_cell gz3 2 (v := .int .i64 0) rfl
   have z3 := blk_cell gz3 3 (v := .slice none 0 0) rfl
   have z4 := blk_cell gz3 4 (v := .int .i64 0) rfl
   have z5 := blk_cell gz3 5 (v := .int .i64 0) rfl
   have z6 := blk_cell gz3 6 (v := .int .i64 0) rfl
   have z7 := blk_cell gz3 7 (v := .int .i64 0) rfl
   have z8 := blk_cell gz3 8 (v := .slice none 0 0) rfl
   have z9 := blk_cell gz3 9 (v := .slice none 0 0) rfl
   have f0 := blk_free gz3 0
   have f1 := blk_free gz3 1
   have f2 := blk_free gz3 2
   have f3 := blk_free gz3 3
   have f4 := blk_free gz3 4
   have f5 := blk_free gz3 5
   have f6 := blk_free gz3 6
   have f7 := blk_free gz3 7
   have f8 := blk_free gz3 8
   have f9 := blk_free gz3 9
   have KZ := s10_kp (fun q => q = w.heap.size + 1) V (w.heap.size + 1) (.slice b1 T.store.length l1) (.slice b2 T.tape.length l2) (.int .i64 T.taken) (.slice b3 T.printed.length l3) (.int .i64 T.time) (.int .i64 T.at_) (.int .i64 T.done) (.int .i64 T.why) (.slice b 128 cb) (.slice g ng cg) rfl
   have gV := s10_block (.slice b1 T.store.length l1) (.slice b2 T.tape.length l2) (.int .i64 T.taken) (.slice b3 T.printed.length l3) (.int .i64 T.time) (.int .i64 T.at_) (.int .i64 T.done) (.int .i64 T.why) (.slice b 128 cb) (.slice g ng cg) gz3
   unfold S10 at KZ gV
   have EV := E03.below5 KZ (fun q hq => by omega)
   have hFV := hF3.kp KZ (fun q _ hq => .inr (.inr hq))
   have hFV := hFV.weaken (M' := M) (fun q _ hq => .inl hq)
   have HX : Hid (x.s = T ∧ x.bad = bad) := Lib.hid (by rw [HE.out]; exact ⟨rfl, if_neg HC.out⟩)
   clear HE KZ
   go_wp2
   generalize ((((((((((V.setCell ⟨w.heap.size + 1, 0, none⟩ (.slice b1 T.store.length l1)).setCell ⟨w.heap.size + 1, 1, none⟩ (.slice b2 T.tape.length l2)).setCell ⟨w.heap.size + 1, 2, none⟩ (.int .i64 T.taken)).setCell ⟨w.heap.size + 1, 3, none⟩ (.slice b3 T.printed.length l3)).setCell ⟨w.heap.size + 1, 4, none⟩ (.int .i64 T.time)).setCell ⟨w.heap.size + 1, 5, none⟩ (.int .i64 T.at_)).setCell ⟨w.heap.size + 1, 6, none⟩ (.int .i64 T.done)).setCell ⟨w.heap.size + 1, 7, none⟩ (.int .i64 T.why)).setCell ⟨w.heap.size + 1, 8, none⟩ (.slice b 128 cb)).setCell ⟨w.heap.size + 1, 9, none⟩ (.slice g ng cg)) = VV at gV EV hFV ⊢
   clear q0 q1 q2 q3 q4 q5 q6 q7 q8 q9 z0 z1 z2 z3 z4 z5 z6 z7 z8 z9 f0 f1 f2 f3 f4 f5 f6 f7 f8 f9
   have r0 := blk_cell gV 0 (v := .slice b1 T.store.length l1) rfl
   have r1 := blk_cell gV 1 (v := .slice b2 T.tape.length l2) rfl
   have r2 := blk_cell gV 2 (v := .int .i64 T.taken) rfl
   have r3 := blk_cell gV 3 (v := .slice b3 T.printed.length l3) rfl
   have r4 := blk_cell gV 4 (v := .int .i64 T.time) rfl
   have r5 := blk_cell gV 5 (v := .int .i64 T.at_) rfl
   have r6 := blk_cell gV 6 (v := .int .i64 T.done) rfl
   have r7 := blk_cell gV 7 (v := .int .i64 T.why) rfl
   have r8 := blk_cell gV 8 (v := .slice b 128 cb) rfl
   have r9 := blk_cell gV 9 (v := .slice g ng cg) rfl
   refine bodyPost_ret (v := .agg #[.slice b1 T.store.length l1, .slice b2 T.tape.length l2, .int .i64 T.taken, .slice b3 T.printed.length l3, .int .i64 T.time, .int .i64 T.at_, .int .i64 T.done, .int .i64 T.why, .slice b 128 cb, .slice g ng cg]) (by simp [results, Tryz.results27, go_sem, r0, r1, r2, r3, r4, r5, r6, r7, r8, r9]) rfl ?_
   refine ⟨b1, b2, b3, b, g, l1, l2, l3, cb, cg, ?_, ?_, EV⟩
   ·rw [HX.out.1]
   ·rw [HX.out.1, HX.out.2]; exact hFV
  ·by_cases y1 : 0 ≤ wr
   ·have y1' : wr ≥ 0 := y1
    clear q0 q1 q2 q3 q4 q5 q6 q7 q8 q9
    have q0 := blk_cell gP3 0 (v := .slice b1 T.store.length l1) rfl
    have q1 := blk_cell gP3 1 (v := .slice b2 T.tape.length l2) rfl
    have q2 := blk_cell gP3 2 (v := .int .i64 T.taken) rfl
    have q3 := blk_cell gP3 3 (v := .slice b3 T.printed.length l3) rfl
    have q4 := blk_cell gP3 4 (v := .int .i64 T.time) rfl
    have q5 := blk_cell gP3 5 (v := .int .i64 T.at_) rfl
    have q6 := blk_cell gP3 6 (v := .int .i64 T.done) rfl
    have q7 := blk_cell gP3 7 (v := .int .i64 T.why) rfl
    have q8 := blk_cell gP3 8 (v := .slice b 128 cb) rfl
    have q9 := blk_cell gP3 9 (v := .slice g ng cg) rfl
    have z0 := blk_cell gz3 0 (v := .slice none 0 0) rfl
    have z1 := blk_cell gz3 1 (v := .slice none 0 0) rfl
    have z2 := blk_cell gz3 2 (v := .int .i64 0) rfl
    have z3 := blk_cell gz3 3 (v := .slice none 0 0) rfl
    have z4 := blk_cell gz3 4 (v := .int .i64 0) rfl
    have z5 := blk_cell gz3 5 (v := .int .i64 0) rfl
    have z6 := blk_cell gz3 6 (v := .int .i64 0) rfl
    have z7 := blk_cell gz3 7 (v := .int .i64 0) rfl
    have z8 := blk_cell gz3 8 (v := .slice none 0 0) rfl
    have z9 := blk_cell gz3 9 (v := .slice none 0 0) rfl
    have f0 := blk_free gz3 0
    have f1 := blk_free gz3 1
    have f2 := blk_free gz3 2
    have f3 := blk_free gz3 3
    have f4 := blk_free gz3 4
    have f5 := blk_free gz3 5
    have f6 := blk_free gz3 6
    have f7 := blk_free gz3 7
    have f8 := blk_free gz3 8
    have f9 := blk_free gz3 9
    have KZ := s10_kp (fun q => q = w.heap.size + 1) V (w.heap.size + 1) (.slice b1 T.store.length l1) (.slice b2 T.tape.length l2) (.int .i64 T.taken) (.slice b3 T.printed.length l3) (.int .i64 T.time) (.int .i64 T.at_) (.int .i64 T.done) (.int .i64 T.why) (.slice b 128 cb) (.slice g ng cg) rfl
    have gV := s10_block (.slice b1 T.store.length l1) (.slice b2 T.tape.length l2) (.int .i64 T.taken) (.slice b3 T.printed.length l3) (.int .i64 T.time) (.int .i64 T.at_) (.int .i64 T.done) (.int .i64 T.why) (.slice b 128 cb) (.slice g ng cg) gz3
    unfold S10 at KZ gV
    have EV := E03.below5 KZ (fun q hq => by omega)
    have hFV := hF3.kp KZ (fun q _ hq => .inr (.inr hq))
    have hFV := hFV.weaken (M' := M) (fun q _ hq => .inl hq)
    have HX : Hid (x.s = T ∧ x.bad = bad) := Lib.hid (by rw [HE.out]; exact ⟨rfl, if_neg HC.out⟩)
    clear HE KZ
    go_wp2
    generalize ((((((((((V.setCell ⟨w.heap.size + 1, 0, none⟩ (.slice b1 T.store.length l1)).setCell ⟨w.heap.size + 1, 1, none⟩ (.slice b2 T.tape.length l2)).setCell ⟨w.heap.size + 1, 2, none⟩ (.int .i64 T.taken)).setCell ⟨w.heap.size + 1, 3, none⟩ (.slice b3 T.printed.length l3)).setCell ⟨w.heap.size + 1, 4, none⟩ (.int .i64 T.time)).setCell ⟨w.heap.size + 1, 5, none⟩ (.int .i64 T.at_)).setCell ⟨w.heap.size + 1, 6, none⟩ (.int .i64 T.done)).setCell ⟨w.heap.size + 1, 7, none⟩ (.int .i64 T.why)).setCell ⟨w.heap.size + 1, 8, none⟩ (.slice b 128 cb)).setCell ⟨w.heap.size + 1, 9, none⟩ (.slice g ng cg)) = VV at gV EV hFV ⊢
    clear q0 q1 q2 q3 q4 q5 q6 q7 q8 q9 z0 z1 z2 z3 z4 z5 z6 z7 z8 z9 f0 f1 f2 f3 f4 f5 f6 f7 f8 f9
    have r0 := blk_cell gV 0 (v := .slice b1 T.store.length l1) rfl
    have r1 := blk_cell gV 1 (v := .slice b2 T.tape.length l2) rfl
    have r2 := blk_cell gV 2 (v := .int .i64 T.taken) rfl
    have r3 := blk_cell gV 3 (v := .slice b3 T.printed.length l3) rfl
    have r4 := blk_cell gV 4 (v := .int .i64 T.time) rfl
    have r5 := blk_cell gV 5 (v := .int .i64 T.at_) rfl
    have r6 := blk_cell gV 6 (v := .int .i64 T.done) rfl
    have r7 := blk_cell gV 7 (v := .int .i64 T.why) rfl
    have r8 := blk_cell gV 8 (v := .slice b 128 cb) rfl
    have r9 := blk_cell gV 9 (v := .slice g ng cg) rfl
    refine bodyPost_ret (v := .agg #[.slice b1 T.store.length l1, .slice b2 T.tape.length l2, .int .i64 T.taken, .slice b3 T.printed.length l3, .int .i64 T.time, .int .i64 T.at_, .int .i64 T.done, .int .i64 T.why, .slice b 128 cb, .slice g ng cg]) (by simp [results, Tryz.results27, go_sem, r0, r1, r2, r3, r4, r5, r6, r7, r8, r9]) rfl ?_
    refine ⟨b1, b2, b3, b, g, l1, l2, l3, cb, cg, ?_, ?_, EV⟩
    ·rw [HX.out.1]
    ·rw [HX.out.1, HX.out.2]; exact hFV
   ·have y1' : ¬ (wr ≥ 0) := y1
    clear q0 q1 q2 q3 q4 q5 q6 q7 q8 q9
    have q0 := blk_cell gP3 0 (v := .slice b1 T.store.length l1) rfl
    have q1 := blk_cell gP3 1 (v := .slice b2 T.tape.length l2) rfl
    have q2 := blk_cell gP3 2 (v := .int .i64 T.taken) rfl
    have q3 := blk_cell gP3 3 (v := .slice b3 T.printed.length l3) rfl
    have q4 := blk_cell gP3 4 (v := .int .i64 T.time) rfl
    have q5 := blk_cell gP3 5 (v := .int .i64 T.at_) rfl
    have q6 := blk_cell gP3 6 (v := .int .i64 T.done) rfl
    have q7 := blk_cell gP3 7 (v := .int .i64 T.why) rfl
    have q8 := blk_cell gP3 8 (v := .slice b 128 cb) rfl
    have q9 := blk_cell gP3 9 (v := .slice g ng cg) rfl
    have z0 := blk_cell gz3 0 (v := .slice none 0 0) rfl
    have z1 := blk_cell gz3 1 (v := .slice none 0 0) rfl
    have z2 := blk_cell gz3 2 (v := .int .i64 0) rfl
    have z3 := blk_cell gz3 3 (v := .slice none 0 0) rfl
    have z4 := blk_cell gz3 4 (v := .int .i64 0) rfl
    have z5 := blk_cell gz3 5 (v := .int .i64 0) rfl
    have z6 := blk_cell gz3 6 (v := .int .i64 0) rfl
    have z7 := blk_cell gz3 7 (v := .int .i64 0) rfl
    have z8 := blk_cell gz3 8 (v := .slice none 0 0) rfl
    have z9 := blk_cell gz3 9 (v := .slice none 0 0) rfl
    have f0 := blk_free gz3 0
    have f1 := blk_free gz3 1
    have f2 := blk_free gz3 2
    have f3 := blk_free gz3 3
    have f4 := blk_free gz3 4
    have f5 := blk_free gz3 5
    have f6 := blk_free gz3 6
    have f7 := blk_free gz3 7
    have f8 := blk_free gz3 8
    have f9 := blk_free gz3 9
    have KZ := s10_kp (fun q => q = w.heap.size + 1) V (w.heap.size + 1) (.slice b1 T.store.length l1) (.slice b2 T.tape.length l2) (.int .i64 T.taken) (.slice b3 T.printed.length l3) (.int .i64 T.time) (.int .i64 T.at_) (.int .i64 T.done) (.int .i64 T.why) (.slice b 128 cb) (.slice g ng cg) rfl
    have gV := s10_block (.slice b1 T.store.length l1) (.slice b2 T.tape.length l2) (.int .i64 T.taken) (.slice b3 T.printed.length l3) (.int .i64 T.time) (.int .i64 T.at_) (.int .i64 T.done) (.int .i64 T.why) (.slice b 128 cb) (.slice g ng cg) gz3
    unfold S10 at KZ gV
    have EV := E03.below5 KZ (fun q hq => by omega)
    have hFV := hF3.kp KZ (fun q _ hq => .inr (.inr hq))
    have hFV := hFV.weaken (M' := M) (fun q _ hq => .inl hq)
    have HX : Hid (x.s = T ∧ x.bad = bad) := Lib.hid (by rw [HE.out]; exact ⟨rfl, if_neg HC.out⟩)
    clear HE KZ
    go_wp2
    generalize ((((((((((V.setCell ⟨w.heap.size + 1, 0, none⟩ (.slice b1 T.store.length l1)).setCell ⟨w.heap.size + 1, 1, none⟩ (.slice b2 T.tape.length l2)).setCell ⟨w.heap.size + 1, 2, none⟩ (.int .i64 T.taken)).setCell ⟨w.heap.size + 1, 3, none⟩ (.slice b3 T.printed.length l3)).setCell ⟨w.heap.size + 1, 4, none⟩ (.int .i64 T.time)).setCell ⟨w.heap.size + 1, 5, none⟩ (.int .i64 T.at_)).setCell ⟨w.heap.size + 1, 6, none⟩ (.int .i64 T.done)).setCell ⟨w.heap.size + 1, 7, none⟩ (.int .i64 T.why)).setCell ⟨w.heap.size + 1, 8, none⟩ (.slice b 128 cb)).setCell ⟨w.heap.size + 1, 9, none⟩ (.slice g ng cg)) = VV at gV EV hFV ⊢
    clear q0 q1 q2 q3 q4 q5 q6 q7 q8 q9 z0 z1 z2 z3 z4 z5 z6 z7 z8 z9 f0 f1 f2 f3 f4 f5 f6 f7 f8 f9
    have r0 := blk_cell gV 0 (v := .slice b1 T.store.length l1) rfl
    have r1 := blk_cell gV 1 (v := .slice b2 T.tape.length l2) rfl
    have r2 := blk_cell gV 2 (v := .int .i64 T.taken) rfl
    have r3 := blk_cell gV 3 (v := .slice b3 T.printed.length l3) rfl
    have r4 := blk_cell gV 4 (v := .int .i64 T.time) rfl
    have r5 := blk_cell gV 5 (v := .int .i64 T.at_) rfl
    have r6 := blk_cell gV 6 (v := .int .i64 T.done) rfl
    have r7 := blk_cell gV 7 (v := .int .i64 T.why) rfl
    have r8 := blk_cell gV 8 (v := .slice b 128 cb) rfl
    have r9 := blk_cell gV 9 (v := .slice g ng cg) rfl
    refine bodyPost_ret (v := .agg #[.slice b1 T.store.length l1, .slice b2 T.tape.length l2, .int .i64 T.taken, .slice b3 T.printed.length l3, .int .i64 T.time, .int .i64 T.at_, .int .i64 T.done, .int .i64 T.why, .slice b 128 cb, .slice g ng cg]) (by simp [results, Tryz.results27, go_sem, r0, r1, r2, r3, r4, r5, r6, r7, r8, r9]) rfl ?_
    refine ⟨b1, b2, b3, b, g, l1, l2, l3, cb, cg, ?_, ?_, EV⟩
    ·rw [HX.out.1]
    ·rw [HX.out.1, HX.out.2]; exact hFV
end Go.Proofs.YtnhpcoagkmgdoaaGreat
/- Layer 10 in plain Lean: the losses that are due, one by one, as the reference takes them. -/
namespace Go.Q
def dueB (s : St) (gone : Int → Bool) (y : Loss) : Bool := y.after == s.done && !gone s.done
/-- the losses that have happened once k of them were looked at -/
def hapD (L : List Loss) (s : St) (gone : Int → Bool) (k : Nat) : List Loss := (L.take k).filter (dueB s gone)
def hapS (L : List Loss) (s : St) (gone : Int → Bool) (k : Nat) : St := (hapD L s gone k).foldl lossS s
def hapV (L : List Loss) (s : St) (bad : List Bool) (gone : Int → Bool) (k : Nat) : List Bool := (hapD L s gone k).foldl lossB bad
/-- which have happened -/
def hapF (L : List Loss) (s : St) (gone : Int → Bool) (k : Nat) : List Bool := (L.take k).map (fun y => y.after == s.done || gone y.after) ++ (L.drop k).map (fun y => gone y.after)
def goneF (L : List Loss) (gone : Int → Bool) : List Bool := L.map fun y => gone y.after
section
variable {L : List Loss} {s : St} {bad : List Bool} {gone : Int → Bool} {k : Nat}
theorem hapF_zero : hapF L s gone 0 = goneF L gone := by unfold hapF goneF; simp
theorem hapF_len : (hapF L s gone k).length = L.length := by
 unfold hapF
 rw [List.length_append, List.length_map, List.length_map, List.length_take, List.length_drop]
 omega
theorem hapF_get (hk : k < L.length) : (hapF L s gone k)[k]?.getD false = gone (L[k]?.getD ⟨0, 0, 0⟩).after := by
 unfold hapF
 have hl : ((L.take k).map (fun y => y.after == s.done || gone y.after)).length = k := by rw [List.length_map, List.length_take]; omega
 rw [List.getElem?_append_right (by omega), hl, Nat.sub_self, List.getElem?_map, List.getElem?_drop, Nat.add_zero, List.getElem?_eq_getElem hk]
 rfl
theorem hapF_succ (hk : k < L.length) : hapF L s gone (k + 1) = (L.take k).map (fun y => y.after == s.done || gone y.after) ++ ((L[k]?.getD ⟨0, 0, 0⟩).after == s.done || gone (L[k]?.getD ⟨0, 0, 0⟩).after) :: (L.drop (k + 1)).map (fun y => gone y.after) := by
 unfold hapF
 rw [List.take_succ_eq_append_getElem hk, List.map_append, List.append_assoc, List.getElem?_eq_getElem hk]
 rfl
theorem hapF_now (hk : k < L.length) : hapF L s gone k = (L.take k).map (fun y => y.after == s.done || gone y.after) ++ gone (L[k]?.getD ⟨0, 0, 0⟩).after :: (L.drop (k + 1)).map (fun y => gone y.after) := by
 unfold hapF
 rw [List.drop_eq_getElem_cons hk, List.map_cons, List.getElem?_eq_getElem hk]
 rfl
theorem hapF_skip (hk : k < L.length) (h : (L[k]?.getD ⟨0, 0, 0⟩).after ≠ s.done ∨ gone (L[k]?.getD ⟨0, 0, 0⟩).after = true) : hapF L s gone (k + 1) = hapF L s gone k := by
 rw [hapF_succ hk, hapF_now hk]
 congr 2
 rcases h with h | h
 ·rw [beq_false_of_ne h, Bool.false_or]
 ·rw [h, Bool.or_true]
theorem hapF_next (hk : k < L.length) (h : (L[k]?.getD ⟨0, 0, 0⟩).after = s.done) : hapF L s gone (k + 1) = (hapF L s gone k).set k true := by
 have hl : ((L.take k).map (fun y => y.after == s.done || gone y.after)).length = k := by rw [List.length_map, List.length_take]; omega
 rw [hapF_succ hk, hapF_now hk, List.set_append_right _ _ (by omega), hl, Nat.sub_self, List.set_cons_zero, h, beq_self_eq_true, Bool.true_or]
theorem hapD_succ (hk : k < L.length) : hapD L s gone (k + 1) = hapD L s gone k ++ (if dueB s gone (L[k]?.getD ⟨0, 0, 0⟩) = true then [L[k]?.getD ⟨0, 0, 0⟩] else []) := by
 unfold hapD
 rw [List.take_succ_eq_append_getElem hk, List.filter_append, List.getElem?_eq_getElem hk, Option.getD_some, List.filter_cons, List.filter_nil]
theorem hapD_skip (hk : k < L.length) (h : (L[k]?.getD ⟨0, 0, 0⟩).after ≠ s.done ∨ gone (L[k]?.getD ⟨0, 0, 0⟩).after = true) : hapD L s gone (k + 1) = hapD L s gone k := by
 rw [hapD_succ hk, if_neg, List.append_nil]
 unfold dueB
 by_cases e : (L[k]?.getD ⟨0, 0, 0⟩).after = s.done
 ·rcases h with h | h
  ·exact absurd e h
  ·rw [← e, h]; simp
 ·rw [beq_false_of_ne e]; simp
theorem hapD_next (hk : k < L.length) (h : (L[k]?.getD ⟨0, 0, 0⟩).after = s.done) (hg : gone (L[k]?.getD ⟨0, 0, 0⟩).after = false) : hapD L s gone (k + 1) = hapD L s gone k ++ [L[k]?.getD ⟨0, 0, 0⟩] := by
 rw [hapD_succ hk, if_pos]
 unfold dueB
 rw [← h, hg]
 simp
theorem hapS_skip (hk : k < L.length) (h : (L[k]?.getD ⟨0, 0, 0⟩).after ≠ s.done ∨ gone (L[k]?.getD ⟨0, 0, 0⟩).after = true) : hapS L s gone (k + 1) = hapS L s gone k ∧ hapV L s bad gone (k + 1) = hapV L s bad gone k ∧ hapF L s gone (k + 1) = hapF L s gone k := by
 unfold hapS hapV
 rw [hapD_skip hk h, hapF_skip hk h]
 exact ⟨rfl, rfl, rfl⟩
theorem hapS_next (hk : k < L.length) (h : (L[k]?.getD ⟨0, 0, 0⟩).after = s.done) (hg : gone (L[k]?.getD ⟨0, 0, 0⟩).after = false) : hapS L s gone (k + 1) = lossS (hapS L s gone k) (L[k]?.getD ⟨0, 0, 0⟩) ∧ hapV L s bad gone (k + 1) = lossB (hapV L s bad gone k) (L[k]?.getD ⟨0, 0, 0⟩) ∧ hapF L s gone (k + 1) = (hapF L s gone k).set k true := by
 unfold hapS hapV
 rw [hapD_next hk h hg, hapF_next hk h, List.foldl_append, List.foldl_append]
 exact ⟨rfl, rfl, rfl⟩
theorem hapD_all : hapD L s gone L.length = dueQ L ⟨s, bad, gone⟩ := by
 unfold hapD dueQ
 rw [List.take_length]
 cases hg : gone s.done with
 | true =>
  rw [if_pos hg]
  rw [List.filter_eq_nil_iff]
  intro y _
  unfold dueB
  rw [hg]; simp
 | false =>
  rw [if_neg (by show ¬ gone s.done = true; rw [hg]; decide)]
  refine List.filter_congr fun y _ => ?_
  unfold dueB
  rw [hg]; simp
theorem hap_all : hapQ L ⟨s, bad, gone⟩ = ⟨hapS L s gone L.length, hapV L s bad gone L.length, fun d => d == s.done || gone d⟩ := by
 unfold hapQ hapS hapV
 rw [hapD_all (bad := bad)]
theorem hapF_all : hapF L s gone L.length = goneF L (hapQ L ⟨s, bad, gone⟩).gone := by
 unfold hapF goneF
 rw [List.take_length, List.drop_length]
 show L.map _ ++ [] = _
 rw [List.append_nil]
 rfl
theorem hapS_same : hapS L s gone k = { s with store := (hapS L s gone k).store } := losses_same _ _
theorem hapS_valid (hv : Valid s) (hL : ∀ y ∈ L, lossOk y = true) : Valid (hapS L s gone k) :=
 lossesS_valid hv fun y hy => (loss_ok (hL y (List.mem_of_mem_take (List.mem_filter.1 hy).1))).2.2.1
theorem hapV_len : (hapV L s bad gone k).length = bad.length := lossesB_length _ _
end
/-- a bit of a word that is the other one, as the reference makes it -/
theorem flip_ref (X K : Nat) (hK : K < 24) : flipW (X : Int) (K : Int) = if X / 2 ^ K % 2 = 1 then (X : Int) - ((2 ^ K : Nat) : Int) else (X : Int) + ((2 ^ K : Nat) : Int) := by
 unfold flipW
 rw [if_pos (by omega), Int.toNat_natCast]
 have e : (X : Int) / 2 ^ K % 2 = ((X / 2 ^ K % 2 : Nat) : Int) := by simp
 have e2 : ((2 ^ K : Nat) : Int) = 2 ^ K := by simp
 rw [e, e2]
 by_cases h : X / 2 ^ K % 2 = 1
 ·rw [if_pos h, if_pos (by omega)]
 ·rw [if_neg h, if_neg (by omega)]
theorem flip_no (x k : Int) (hk : ¬ k < 24) : flipW x k = x := by unfold flipW; rw [if_neg hk]
end Go.Q
/- Layer 10's reference: happen. -/
namespace Go.Proofs.YtnhpcoagkmgdoaaGreat
open Go.RowKit Go.Q Go.Shelf Go.Maps Go.Joins
set_option maxHeartbeats 8000000
set_option maxRecDepth 100000
theorem own_same {W W' : World} {B t n : Nat} {v : Value} {xs : List Value} {row : Option Nat} (h : W.ownsRow B t 1 v n xs) (hg : W.grownBy W' row) (hr : ∀ q, v.ownBlock = some q → row ≠ some q) : W'.ownsRow B t 1 v n xs :=
 own_later h fun q hq => hg.block q (own_lt h hq) (fun e => hr q hq e.symm)
/-- two rows of flags that grow apart -/
structure Pr (X W : World) (B T : Nat) (v8 v9 : Value) (n8 n9 : Nat) (l8 l9 : List Bool) : Prop where
 E : Ext X W
 o8 : W.ownsRow B T 1 v8 n8 (bvs l8)
 o9 : W.ownsRow B T 1 v9 n9 (bvs l9)
 d : ∀ q, v8.ownBlock = some q → v9.ownBlock ≠ some q
section
variable {X W W' : World} {B T : Nat} {v8 v9 v8' v9' : Value} {n8 n9 n8' n9' : Nat} {l8 l9 l8' l9' : List Bool}
theorem Pr.app8 (h : Pr X W B T v8 v9 n8 n9 l8 l9) (E : Ext X W') (ho : W'.ownsRow B T 1 v8' n8' (bvs l8')) (hg : W.grownBy W' v8.ownBlock) (hat : v8'.ownBlock = v8.ownBlock ∨ v8'.ownBlock = some W.heap.size) : Pr X W' B T v8' v9 n8' n9 l8' l9 :=
 ⟨E, ho, own_same h.o9 hg (fun q hq e => h.d q e hq), fun q hq e => by
  rcases hat with h1 | h1
  ·exact h.d q (by rw [← h1]; exact hq) e
  ·rw [hq] at h1
   have := own_lt h.o9 e
   have := Option.some.inj h1
   omega⟩
theorem Pr.app9 (h : Pr X W B T v8 v9 n8 n9 l8 l9) (E : Ext X W') (ho : W'.ownsRow B T 1 v9' n9' (bvs l9')) (hg : W.grownBy W' v9.ownBlock) (hat : v9'.ownBlock = v9.ownBlock ∨ v9'.ownBlock = some W.heap.size) : Pr X W' B T v8 v9' n8 n9' l8 l9' :=
 ⟨E, own_same h.o8 hg (fun q hq e => h.d q hq e), ho, fun q hq e => by
  rcases hat with h1 | h1
  ·exact h.d q hq (by rw [← h1]; exact e)
  ·rw [e] at h1
   have := own_lt h.o8 hq
   have := Option.some.inj h1
   omega⟩
theorem Pr.mk9 (E : Ext X W) (hB : B ≤ W.heap.size) (ho : W.ownsRow B T 1 v8 n8 (bvs l8)) : Pr X (W.alloc (.cells #[] T)) B T v8 (.slice (some ⟨W.heap.size, 0, none⟩) 0 0) n8 0 l8 [] :=
 ⟨E.alloc _, own_later ho (fun q hq => Below.heap_alloc _ _ q (own_lt ho hq)), own_emptyB rfl hB (Ext.refl _), fun q hq e => by
  have := own_lt ho hq
  have : W.heap.size = q := Option.some.inj e
  omega⟩
theorem Pr.mk8 (E : Ext X W) (hB : B ≤ W.heap.size) (ho : W.ownsRow B T 1 v9 n9 (bvs l9)) : Pr X (W.alloc (.cells #[] T)) B T (.slice (some ⟨W.heap.size, 0, none⟩) 0 0) v9 0 n9 [] l9 :=
 ⟨E.alloc _, own_emptyB rfl hB (Ext.refl _), own_later ho (fun q hq => Below.heap_alloc _ _ q (own_lt ho hq)), fun q hq e => by
  have := own_lt ho e
  have : W.heap.size = q := Option.some.inj hq
  omega⟩
end
theorem ints_of_own {M : Nat → Prop} {X : World} {t n c B : Nat} {a : Option Addr} {l : List Int} (h : X.ownsRow B t 1 (.slice a n c) n (iv l)) (hM : ∀ q, M q → q < B) : IntsF M X a l := by
 rcases Nat.eq_zero_or_pos n with h0 | h0
 ·refine .inl (List.eq_nil_of_length_eq_zero ?_)
  have := h.1; rw [iv_length] at this; omega
 ·obtain ⟨g, cap, e, _⟩ := h.form h0
  obtain rfl : a = some ⟨g, 0, none⟩ := by injection e
  have hl := h.lt g rfl
  have hn := h.1
  rw [iv_length] at hn
  exact .inr ⟨g, 0, rfl, fun hm => by have := hM g hm; omega, hl.2, fun i hi => by rw [Nat.zero_add, h.cellAt i (by omega)]; exact iv_get l i hi⟩
/-- the machine's own copies -/
structure HpR (W : World) (B g0 g8 : Nat) (a9 : Option Addr) (c0 c8 c9 n : Nat) (st : List Int) (bd fl : List Bool) : Prop where
 o0 : W.ownsRow B 3 1 (.slice (some ⟨g0, 0, none⟩) 128 c0) 128 (iv st)
 o8 : W.ownsRow B 4 1 (.slice (some ⟨g8, 0, none⟩) 128 c8) 128 (bvs bd)
 o9 : W.ownsRow B 4 1 (.slice a9 n c9) n (bvs fl)
 n8 : g0 ≠ g8
 n9 : ∀ q, a9 = some ⟨q, 0, none⟩ → q ≠ g0 ∧ q ≠ g8
section
variable {W W' : World} {B g0 g8 c0 c8 c9 n : Nat} {a9 : Option Addr} {st : List Int} {bd fl : List Bool}
theorem HpR.kp (h : HpR W B g0 g8 a9 c0 c8 c9 n st bd fl) {M : Nat → Prop} (K : KpM M W W') (hM : ∀ q, M q → q < B) : HpR W' B g0 g8 a9 c0 c8 c9 n st bd fl :=
 ⟨own_kpI h.o0 K (fun q hq hm => by have := h.o0.lt q hq; have := hM q hm; omega), own_kpI h.o8 K (fun q hq hm => by have := h.o8.lt q hq; have := hM q hm; omega), own_kpI h.o9 K (fun q hq hm => by have := h.o9.lt q hq; have := hM q hm; omega), h.n8, h.n9⟩
theorem HpR.ext (h : HpR W B g0 g8 a9 c0 c8 c9 n st bd fl) (E : Ext W W') : HpR W' B g0 g8 a9 c0 c8 c9 n st bd fl := h.kp (M := fun _ => False) ((KpM.of_ext E).mono fun _ h => h) (fun _ h => h.elim)
theorem HpR.set0 (h : HpR W B g0 g8 a9 c0 c8 c9 n st bd fl) (i : Nat) (v : Int) : HpR (W.setCell ⟨g0, i, none⟩ (.int .i64 v)) B g0 g8 a9 c0 c8 c9 n (st.set i v) bd fl :=
 ⟨own_setI h.o0 i v, own_kpI h.o8 (kpm_set (M := fun q => q = g0) W g0 i _ rfl) (fun q hq e => h.n8 (by rw [← e]; exact (Option.some.inj hq).symm)), own_kpI h.o9 (kpm_set (M := fun q => q = g0) W g0 i _ rfl) (fun q hq e => by
  cases a9 with
  | none => cases hq
  | some ad =>
   rcases h.o9.2 with ⟨h1, _⟩ | ⟨q', cap, cur, h1, _⟩
   ·cases h1
   ·obtain rfl : ad = ⟨q', 0, none⟩ := by injection h1 with h2; exact Option.some.inj h2
    obtain rfl : q' = q := Option.some.inj hq
    exact (h.n9 q' rfl).1 e), h.n8, h.n9⟩
theorem HpR.set8 (h : HpR W B g0 g8 a9 c0 c8 c9 n st bd fl) (i : Nat) (v : Bool) : HpR (W.setCell ⟨g8, i, none⟩ (.bool v)) B g0 g8 a9 c0 c8 c9 n st (bd.set i v) fl :=
 ⟨own_kpI h.o0 (kpm_set (M := fun q => q = g8) W g8 i _ rfl) (fun q hq e => h.n8 (by rw [← e]; exact Option.some.inj hq)), own_setV h.o8 i v, own_kpI h.o9 (kpm_set (M := fun q => q = g8) W g8 i _ rfl) (fun q hq e => by
  cases a9 with
  | none => cases hq
  | some ad =>
   rcases h.o9.2 with ⟨h1, _⟩ | ⟨q', cap, cur, h1, _⟩
   ·cases h1
   ·obtain rfl : ad = ⟨q', 0, none⟩ := by injection h1 with h2; exact Option.some.inj h2
    obtain rfl : q' = q := Option.some.inj hq
    exact (h.n9 q' rfl).2 e), h.n8, h.n9⟩
theorem HpR.set9 {g9 : Nat} (h : HpR W B g0 g8 (some ⟨g9, 0, none⟩) c0 c8 c9 n st bd fl) (i : Nat) (v : Bool) : HpR (W.setCell ⟨g9, i, none⟩ (.bool v)) B g0 g8 (some ⟨g9, 0, none⟩) c0 c8 c9 n st bd (fl.set i v) :=
 ⟨own_kpI h.o0 (kpm_set (M := fun q => q = g9) W g9 i _ rfl) (fun q hq e => (h.n9 g9 rfl).1 (by rw [← e]; exact (Option.some.inj hq).symm)), own_kpI h.o8 (kpm_set (M := fun q => q = g9) W g9 i _ rfl) (fun q hq e => (h.n9 g9 rfl).2 (by rw [← e]; exact (Option.some.inj hq).symm)), own_setV h.o9 i v, h.n8, h.n9⟩
end
theorem rhappen_any {M : Nat → Prop} {a1 a2 a3 b g la : Option Addr} (k1 k2 k3 cb n cg lc : Nat) {s : St} {bad : List Bool} {L : List Loss} {w : World} (gone : Int → Bool) (hM : ∀ q, M q → q < w.heap.size) (h : MF M w a1 a2 a3 b g s bad (goneF L gone)) (hv : Valid s) (hl : bad.length = 128) (hn : L.length = n) (hn40 : n ≤ 40) (hI : LossAt w la L) (hLo : ∀ y ∈ L, lossOk y = true) :
  Calls Tryz.prog 25 #[.agg #[.slice a1 s.store.length k1, .slice a2 s.tape.length k2, .int .i64 s.taken, .slice a3 s.printed.length k3, .int .i64 s.time, .int .i64 s.at_, .int .i64 s.done, .int .i64 s.why, .slice b 128 cb, .slice g n cg], .slice la n lc] w (MRes M (hapQ L ⟨s, bad, gone⟩) (goneF L (hapQ L ⟨s, bad, gone⟩).gone) n w) := by
 obtain ⟨i0, hi0, hz0, hz1, hz2⟩ := info_parts Tryz.infoE
 obtain ⟨ib, hib, hb0, hb1, hb2⟩ := info_parts Tryz.infoBool
 have hzb : ((w.alloc (.cells #[.slice a1 s.store.length k1, .slice a2 s.tape.length k2, .int .i64 s.taken, .slice a3 s.printed.length k3, .int .i64 s.time, .int .i64 s.at_, .int .i64 s.done, .int .i64 s.why, .slice b 128 cb, .slice g n cg] 56)).alloc (.cells #[.slice none 0 0, .slice none 0 0, .int .i64 0, .slice none 0 0, .int .i64 0, .int .i64 0, .int .i64 0, .int .i64 0, .slice none 0 0, .slice none 0 0] 56)).heap[w.heap.size + 1]? = some (.cells #[.slice none 0 0, .slice none 0 0, .int .i64 0, .slice none 0 0, .int .i64 0, .int .i64 0, .int .i64 0, .int .i64 0, .slice none 0 0, .slice none 0 0] 56 (0, 0)) := by
  have e := heap_alloc_new (w.alloc (.cells #[.slice a1 s.store.length k1, .slice a2 s.tape.length k2, .int .i64 s.taken, .slice a3 s.printed.length k3, .int .i64 s.time, .int .i64 s.at_, .int .i64 s.done, .int .i64 s.why, .slice b 128 cb, .slice g n cg] 56)) (.cells #[.slice none 0 0, .slice none 0 0, .int .i64 0, .slice none 0 0, .int .i64 0, .int .i64 0, .int .i64 0, .int .i64 0, .slice none 0 0, .slice none 0 0] 56)
  rw [World.size_alloc] at e
  exact e
 have hP := (Below.heap_alloc (w.alloc (.cells #[.slice a1 s.store.length k1, .slice a2 s.tape.length k2, .int .i64 s.taken, .slice a3 s.printed.length k3, .int .i64 s.time, .int .i64 s.at_, .int .i64 s.done, .int .i64 s.why, .slice b 128 cb, .slice g n cg] 56)) (.cells #[.slice none 0 0, .slice none 0 0, .int .i64 0, .slice none 0 0, .int .i64 0, .int .i64 0, .int .i64 0, .int .i64 0, .slice none 0 0, .slice none 0 0] 56) _ (lt_of_block (heap_alloc_new w (.cells #[.slice a1 s.store.length k1, .slice a2 s.tape.length k2, .int .i64 s.taken, .slice a3 s.printed.length k3, .int .i64 s.time, .int .i64 s.at_, .int .i64 s.done, .int .i64 s.why, .slice b 128 cb, .slice g n cg] 56)))).trans (heap_alloc_new w (.cells #[.slice a1 s.store.length k1, .slice a2 s.tape.length k2, .int .i64 s.taken, .slice a3 s.printed.length k3, .int .i64 s.time, .int .i64 s.at_, .int .i64 s.done, .int .i64 s.why, .slice b 128 cb, .slice g n cg] 56))
 have E0 : Ext w ((w.alloc (.cells #[.slice a1 s.store.length k1, .slice a2 s.tape.length k2, .int .i64 s.taken, .slice a3 s.printed.length k3, .int .i64 s.time, .int .i64 s.at_, .int .i64 s.done, .int .i64 s.why, .slice b 128 cb, .slice g n cg] 56)).alloc (.cells #[.slice none 0 0, .slice none 0 0, .int .i64 0, .slice none 0 0, .int .i64 0, .int .i64 0, .int .i64 0, .int .i64 0, .slice none 0 0, .slice none 0 0] 56)) := ((Ext.refl w).alloc _).alloc _
 have hs0 : ((w.alloc (.cells #[.slice a1 s.store.length k1, .slice a2 s.tape.length k2, .int .i64 s.taken, .slice a3 s.printed.length k3, .int .i64 s.time, .int .i64 s.at_, .int .i64 s.done, .int .i64 s.why, .slice b 128 cb, .slice g n cg] 56)).alloc (.cells #[.slice none 0 0, .slice none 0 0, .int .i64 0, .slice none 0 0, .int .i64 0, .int .i64 0, .int .i64 0, .int .i64 0, .slice none 0 0, .slice none 0 0] 56)).heap.size = w.heap.size + 2 := by simp
 obtain ⟨X, hX⟩ : ∃ X, (w.alloc (.cells #[.slice a1 s.store.length k1, .slice a2 s.tape.length k2, .int .i64 s.taken, .slice a3 s.printed.length k3, .int .i64 s.time, .int .i64 s.at_, .int .i64 s.done, .int .i64 s.why, .slice b 128 cb, .slice g n cg] 56)).alloc (.cells #[.slice none 0 0, .slice none 0 0, .int .i64 0, .slice none 0 0, .int .i64 0, .int .i64 0, .int .i64 0, .int .i64 0, .slice none 0 0, .slice none 0 0] 56) = X := ⟨_, rfl⟩
 rw [hX] at hzb hP E0 hs0
 have HL := Lib.hid hl
 have HN := Lib.hid hn
 have HV := Lib.hid hv
 have HS := Lib.hid hv.len
 have HLO := Lib.hid hLo
 have hMF := h
 have HF0 := Lib.hid h
 have HI0 := Lib.hid hI
 obtain ⟨x, hx⟩ : ∃ x, hapQ L ⟨s, bad, gone⟩ = x := ⟨_, rfl⟩
 have HE := Lib.hid hx
 rw [hx]
 have hfr : From (X.alloc (.cells #[] 3)) a1 (iv s.store) := from_ints ((h.i1.ext E0).at_.ext ((Ext.refl X).alloc _))
 have HS0 := Lib.hid hs0
 clear hl hn hv hLo h hx hs0
 go_enter Tryz.func25, Tryz.ntmps25
 go_upto_region 1 with fail
 (try rw [hX])
 clear hX
 have q0 := blk_cell ((((Ext.refl X).alloc (.cells #[] 3)).block w.heap.size (lt_of_block hP)).trans hP) 0 (v := .slice a1 s.store.length k1) rfl
 go_upto_region 2 with (at_builtin; refine wpList_app (w0 := X) rfl _ _ 22 rfl 3 i0 (.int .i64 0) 1 8 Tryz.underlying22 hi0 hz0 hz1 hz2 rfl (by decide) _ 0 X.heap.size [] rfl (own_empty (Ext.refl _)) ((Ext.refl X).alloc _) (Nat.le_refl _) (by simp) a1 s.store.length k1 (iv s.store) rfl (by rw [iv_length, Nat.mul_one]) hfr (iv_one _) (by rw [HS.out]; unfold maxLen; decide) (by rw [HS.out]; decide) ?_; intro a5 c0 W5 ho5 hE5 _; have gP5 := (hE5.block _ (lt_of_block hP)).trans hP; have f0 := blk_free gP5 0; have p0 := blk_cell gP5 0 (v := .slice a1 s.store.length k1) rfl)
 (try rw [Nat.zero_add])
 rw [Nat.zero_add, List.nil_append] at ho5
 obtain ⟨g0, c0', hg5⟩ := ownsRow_form ho5 (by rw [HS.out]; decide)
 obtain ⟨rfl, -, rfl⟩ := Value.slice.inj hg5
 have hgl := ho5.lt g0 rfl
 have hs0 := HS0.out
 have KP : KpM (fun q => q = w.heap.size) W5 (W5.setCell ⟨w.heap.size, 0, none⟩ (.slice (some ⟨g0, 0, none⟩) s.store.length c0)) := kpm_set W5 w.heap.size 0 _ rfl
 have g9 := cells_set gP5 0 (.slice (some ⟨g0, 0, none⟩) s.store.length c0)
 (try simp at g9)
 have O0 := own_kpI ho5 KP (fun q hq e => by obtain rfl : g0 = q := Option.some.inj hq; omega)
 have gz := (KP.block _ (lt_of_block ((hE5.block _ (lt_of_block hzb)).trans hzb)) (by omega)).trans ((hE5.block _ (lt_of_block hzb)).trans hzb)
 have E6 : Ext w _ := (E0.comp hE5).below5 KP (fun q hq => by omega)
 have hs6 : w.heap.size + 2 ≤ (W5.setCell ⟨w.heap.size, 0, none⟩ (.slice (some ⟨g0, 0, none⟩) s.store.length c0)).heap.size := by have := hE5.size; have := KP.size; omega
 rw [hs0] at O0
 generalize W5.setCell ⟨w.heap.size, 0, none⟩ (.slice (some ⟨g0, 0, none⟩) s.store.length c0) = Y at g9 O0 gz E6 hs6 ⊢
 clear q0 p0 f0 ho5 hg5 KP gP5 hP hzb hfr hE5 hgl E0 hs0
 have HF := Lib.hid (hMF.ext E6)
 have HI := Lib.hid (hI.ext E6)
 clear hMF hI
 go_cut [] (fun wx => ∃ g8 a9 c8 c9, wx.heap[w.heap.size]? = some (.cells #[.slice (some ⟨g0, 0, none⟩) s.store.length c0, .slice a2 s.tape.length k2, .int .i64 s.taken, .slice a3 s.printed.length k3, .int .i64 s.time, .int .i64 s.at_, .int .i64 s.done, .int .i64 s.why, .slice (some ⟨g8, 0, none⟩) 128 c8, .slice a9 n c9] 56 (0, 0)) ∧ HpR wx (w.heap.size + 2) g0 g8 a9 c0 c8 c9 n s.store bad (goneF L gone) ∧ KpM (fun q => q = w.heap.size) Y wx)
 case first =>
  have HQ : Hid (∀ V, Ext Y V → V.heap[w.heap.size]? = _) := Lib.hid (fun V E => (E.block _ (lt_of_block g9)).trans g9)
  have hfb : ∀ V, Ext Y V → From V b (bvs bad) := fun V E => from_boolsF (HF.out.ib.ext E)
  have hfg : ∀ V, Ext Y V → From V g (bvs (goneF L gone)) := fun V E => from_boolsF (HF.out.ig.ext E)
  have hgl : (goneF L gone).length = n := by unfold goneF; rw [List.length_map]; exact HN.out
  have hgl := Lib.hid hgl
  have hYs : Y.heap.size = Y.heap.size := rfl
  refine wp_region_Z (fun i => i == 9 || i == 10 || i == 11) (fun V => Ext Y V) (by kernel_rfl) (Ext.refl Y).drew fun hSX => ?_
  refine tk 1 ⟨_, _, _, _, _, _⟩ ?_ rfl (by kernel_rfl) (fun _ _ _ h => h) (Or.inl ⟨by rfl, ?_⟩) hSX ?_
  rotate_left
  ·intro wX hS
   go_simp
   (try with_reducible rfl)
  (try simp only [Act.put, List.setIfInBounds_toArray, List.set_cons_zero, List.set_cons_succ])
  refine tk 2 ⟨_, _, _, _, _, _⟩ ?_ rfl (by kernel_rfl) (fun _ _ _ h => h) (Or.inl ⟨by rfl, ?_⟩) hSX ?_
  rotate_left
  ·intro wX hS
   have hP := HQ.out wX hS
   have q8 := blk_cell hP 8 (v := .slice b 128 cb) rfl
   go_simp
   (try with_reducible rfl)
  (try simp only [Act.put, List.setIfInBounds_toArray, List.set_cons_zero, List.set_cons_succ])
  refine tk 5 ⟨_, _, _, _, _, _⟩ ?_ rfl (by kernel_rfl) (fun _ _ _ h => h) (Or.inl ⟨by rfl, ?_⟩) hSX ?_
  rotate_left
  ·intro wX hS
   go_simp
   (try with_reducible rfl)
  (try simp only [Act.put, List.setIfInBounds_toArray, List.set_cons_zero, List.set_cons_succ])
  refine tk 6 ⟨_, _, _, _, _, _⟩ ?_ rfl (by kernel_rfl) (fun _ _ _ h => h) (Or.inl ⟨by rfl, ?_⟩) hSX ?_
  rotate_left
  ·intro wX hS
   have hP := HQ.out wX hS
   have q9 := blk_cell hP 9 (v := .slice g n cg) rfl
   go_simp
   (try with_reducible rfl)
  (try simp only [Act.put, List.setIfInBounds_toArray, List.set_cons_zero, List.set_cons_succ])
  refine wpAnyZ_two (i := 0) (j := 4) (oi := ⟨_, _, _, _, _, _⟩) (oj := ⟨_, _, _, _, _, _⟩) (by kernel_rfl) rfl rfl (fun K hK => ?_) (fun K hK => ?_)
  ·skip
   go_simp
   have FW1 : Ext Y (Y.alloc (.cells #[] 4)).drew := (Ext.alloc (Ext.refl Y) _).drew
   refine hK _ _ (.inr FW1) (fun _ => ?_)
   clear hK
   (try simp only [Act.put, List.setIfInBounds_toArray, List.set_cons_zero, List.set_cons_succ])
   have O8 : (Y.alloc (.cells #[] 4)).drew.ownsRow Y.heap.size 4 1 (.slice (some ⟨Y.heap.size, 0, none⟩) 0 0) 0 (bvs []) := (own_empty (Ext.refl _)).drew
   obtain ⟨W1, hW1⟩ : ∃ V, (Y.alloc (.cells #[] 4)).drew = V := ⟨_, rfl⟩
   rw [hW1] at FW1 O8
   rw [hW1]
   clear hW1
   refine wpAnyZ_two (i := 3) (j := 4) (oi := ⟨_, _, _, _, _, _⟩) (oj := ⟨_, _, _, _, _, _⟩) (by kernel_rfl) rfl rfl (fun K hK => ?_) (fun K hK => ?_)
   ·skip
    refine step_app5 (w0 := Y) (by rfl) _ _ _ (by rfl) 4 ib (.bool false) 1 1 Tryz.underlying54 hib hb0 hb1 hb2 rfl (by decide) _ 0 Y.heap.size [] (by rfl) O8 FW1 (Nat.le_refl _) (FW1).size b 128 cb (bvs bad) (by rfl) (by rw [bvs_length, HL.out, Nat.mul_one]) (hfb _ FW1) (bvs_one _) (by unfold maxLen; omega) (by omega) ?_
    intro r8 c8 W2 _ ho8 FW2 hg8 ha8
    (try rw [Nat.zero_add])
    refine hK _ _ (.inr FW2) (fun _ => ?_)
    clear hK
    (try simp only [Act.put, List.setIfInBounds_toArray, List.set_cons_zero, List.set_cons_succ])
    rw [Nat.zero_add, List.nil_append] at ho8
    rw [Nat.zero_add] at ha8
    clear ha8 hg8
    refine tk 8 ⟨_, _, _, _, _, _⟩ ?_ rfl (by kernel_rfl) (fun _ _ _ h => h) (Or.inl ⟨by rfl, ?_⟩) FW2 ?_
    rotate_left
    ·intro wX hS
     go_simp
     (try with_reducible rfl)
    (try simp only [Act.put, List.setIfInBounds_toArray, List.set_cons_zero, List.set_cons_succ])
    refine wpAnyZ_one (i := 4) (o := ⟨_, _, _, _, _, _⟩) (by kernel_rfl) rfl (fun K hK => ?_)
    go_simp
    have FW3 : Ext Y (W2.alloc (.cells #[] 4)) := Ext.alloc FW2 _
    refine hK _ _ (.inr FW3) (fun _ => ?_)
    clear hK
    (try simp only [Act.put, List.setIfInBounds_toArray, List.set_cons_zero, List.set_cons_succ])
    have PR3 := Pr.mk9 FW2 (FW2.size) ho8
    obtain ⟨W3, hW3⟩ : ∃ V, (W2.alloc (.cells #[] 4)) = V := ⟨_, rfl⟩
    rw [hW3] at FW3 PR3
    rw [hW3]
    clear hW3
    refine wpAnyZ_one (i := 7) (o := ⟨_, _, _, _, _, _⟩) (by kernel_rfl) rfl (fun K hK => ?_)
    refine step_app5 (w0 := Y) (by rfl) _ _ _ (by rfl) 4 ib (.bool false) 1 1 Tryz.underlying54 hib hb0 hb1 hb2 rfl (by decide) _ 0 Y.heap.size [] (by rfl) PR3.o9 FW3 (Nat.le_refl _) (FW3).size g n cg (bvs (goneF L gone)) (by rfl) (by rw [bvs_length, hgl.out, Nat.mul_one]) (hfg _ FW3) (bvs_one _) (by unfold maxLen; omega) (by omega) ?_
    intro r9 c9 W4 _ ho9 FW4 hg9 ha9
    (try rw [Nat.zero_add])
    refine hK _ _ (.inr FW4) (fun _ => ?_)
    clear hK
    (try simp only [Act.put, List.setIfInBounds_toArray, List.set_cons_zero, List.set_cons_succ])
    rw [Nat.zero_add, List.nil_append] at ho9
    rw [Nat.zero_add] at ha9
    have PR4 := PR3.app9 FW4 ho9 hg9 ha9
    have hB := HQ.out W4 FW4
    refine wpAnyZ_one (i := 9) (o := ⟨_, _, _, _, _, _⟩) (by kernel_rfl) rfl (fun K hK => ?_)
    have q8 := blk_cell hB 8 (v := .slice b 128 cb) rfl
    have f8 := blk_free hB 8
    go_simp
    obtain ⟨g8, c8', hg5⟩ := ownsRow_form PR4.o8 (by decide)
    obtain ⟨rfl, -, rfl⟩ := Value.slice.inj hg5
    have hB2 := cells_set hB 8 (.slice (some ⟨g8, 0, none⟩) 128 c8)
    (try simp at hB2)
    have K1 : KpM (fun q => q = w.heap.size) W4 (W4.setCell ⟨w.heap.size, 8, none⟩ (.slice (some ⟨g8, 0, none⟩) 128 c8)) := kpm_set W4 w.heap.size 8 _ rfl
    refine hK _ _ (.inl rfl) (fun _ => ?_)
    clear hK
    (try simp only [Act.put, List.setIfInBounds_toArray, List.set_cons_zero, List.set_cons_succ])
    generalize W4.setCell ⟨w.heap.size, 8, none⟩ (.slice (some ⟨g8, 0, none⟩) 128 c8) = W5 at hB2 K1 ⊢
    refine wpAnyZ_one (i := 10) (o := ⟨_, _, _, _, _, _⟩) (by kernel_rfl) rfl (fun K hK => ?_)
    go_simp
    refine hK _ _ (.inl rfl) (fun _ => ?_)
    clear hK
    (try simp only [Act.put, List.setIfInBounds_toArray, List.set_cons_zero, List.set_cons_succ])
    refine wpAnyZ_one (i := 11) (o := ⟨_, _, _, _, _, _⟩) (by kernel_rfl) rfl (fun K hK => ?_)
    have q9 := blk_cell hB2 9 (v := .slice g n cg) rfl
    have f9 := blk_free hB2 9
    clear q8 f8
    go_simp
    have hB3 := cells_set hB2 9 (.slice r9 n c9)
    (try simp at hB3)
    have K2 : KpM (fun q => q = w.heap.size) W5 (W5.setCell ⟨w.heap.size, 9, none⟩ (.slice r9 n c9)) := kpm_set W5 w.heap.size 9 _ rfl
    refine hK _ _ (.inl rfl) (fun _ => ?_)
    clear hK
    (try simp only [Act.put, List.setIfInBounds_toArray, List.set_cons_zero, List.set_cons_succ])
    refine wpAnyZ_done (by kernel_rfl) ?_ _
    have KK := K1.trans K2
    have hO8 := own_kpI PR4.o8 KK (fun q hq e => by have := (PR4.o8.lt q hq).1; omega)
    have hO9 := own_kpI PR4.o9 KK (fun q hq e => by have := (PR4.o9.lt q hq).1; omega)
    have hO0 := own_kpI (own_extX O0 FW4) KK (fun q hq e => by have := (O0.lt q hq).1; omega)
    have hl0 := (O0.lt g0 rfl).2
    have hl8 := (PR4.o8.lt g8 rfl).1
    have hd9 : ∀ q, r9 = some ⟨q, 0, none⟩ → q ≠ g0 ∧ q ≠ g8 := fun q hq => by
     have hq2 : (Value.slice r9 n c9).ownBlock = some q := by rw [hq]; rfl
     have := (PR4.o9.lt q hq2).1
     exact ⟨by omega, fun e => PR4.d g8 rfl (by rw [hq2, e])⟩
    rw [HS.out] at hO0 hB3
    go_wp2
    go_meet
    exact ⟨g8, r9, c8, c9, by rw [HS.out]; exact hB3, ⟨by exact hO0, ownsRow_le hO8 hs6, ownsRow_le hO9 hs6, by omega, hd9⟩, (KpM.of_ext FW4).trans KK⟩
   ·skip
    go_simp
    have FW2 : Ext Y (W1.alloc (.cells #[] 4)) := Ext.alloc FW1 _
    refine hK _ _ (.inr FW2) (fun _ => ?_)
    clear hK
    (try simp only [Act.put, List.setIfInBounds_toArray, List.set_cons_zero, List.set_cons_succ])
    have PR2 := Pr.mk9 FW1 (FW1.size) O8
    obtain ⟨W2, hW2⟩ : ∃ V, (W1.alloc (.cells #[] 4)) = V := ⟨_, rfl⟩
    rw [hW2] at FW2 PR2
    rw [hW2]
    clear hW2
    refine wpAnyZ_one (i := 3) (o := ⟨_, _, _, _, _, _⟩) (by kernel_rfl) rfl (fun K hK => ?_)
    refine step_app5 (w0 := Y) (by rfl) _ _ _ (by rfl) 4 ib (.bool false) 1 1 Tryz.underlying54 hib hb0 hb1 hb2 rfl (by decide) _ 0 Y.heap.size [] (by rfl) PR2.o8 FW2 (Nat.le_refl _) (FW2).size b 128 cb (bvs bad) (by rfl) (by rw [bvs_length, HL.out, Nat.mul_one]) (hfb _ FW2) (bvs_one _) (by unfold maxLen; omega) (by omega) ?_
    intro r8 c8 W3 _ ho8 FW3 hg8 ha8
    (try rw [Nat.zero_add])
    refine hK _ _ (.inr FW3) (fun _ => ?_)
    clear hK
    (try simp only [Act.put, List.setIfInBounds_toArray, List.set_cons_zero, List.set_cons_succ])
    rw [Nat.zero_add, List.nil_append] at ho8
    rw [Nat.zero_add] at ha8
    have PR3 := PR2.app8 FW3 ho8 hg8 ha8
    refine tk 8 ⟨_, _, _, _, _, _⟩ ?_ rfl (by kernel_rfl) (fun _ _ _ h => h) (Or.inl ⟨by rfl, ?_⟩) FW3 ?_
    rotate_left
    ·intro wX hS
     go_simp
     (try with_reducible rfl)
    (try simp only [Act.put, List.setIfInBounds_toArray, List.set_cons_zero, List.set_cons_succ])
    refine wpAnyZ_one (i := 7) (o := ⟨_, _, _, _, _, _⟩) (by kernel_rfl) rfl (fun K hK => ?_)
    refine step_app5 (w0 := Y) (by rfl) _ _ _ (by rfl) 4 ib (.bool false) 1 1 Tryz.underlying54 hib hb0 hb1 hb2 rfl (by decide) _ 0 Y.heap.size [] (by rfl) PR3.o9 FW3 (Nat.le_refl _) (FW3).size g n cg (bvs (goneF L gone)) (by rfl) (by rw [bvs_length, hgl.out, Nat.mul_one]) (hfg _ FW3) (bvs_one _) (by unfold maxLen; omega) (by omega) ?_
    intro r9 c9 W4 _ ho9 FW4 hg9 ha9
    (try rw [Nat.zero_add])
    refine hK _ _ (.inr FW4) (fun _ => ?_)
    clear hK
    (try simp only [Act.put, List.setIfInBounds_toArray, List.set_cons_zero, List.set_cons_succ])
    rw [Nat.zero_add, List.nil_append] at ho9
    rw [Nat.zero_add] at ha9
    have PR4 := PR3.app9 FW4 ho9 hg9 ha9
    have hB := HQ.out W4 FW4
    refine wpAnyZ_one (i := 9) (o := ⟨_, _, _, _, _, _⟩) (by kernel_rfl) rfl (fun K hK => ?_)
    have q8 := blk_cell hB 8 (v := .slice b 128 cb) rfl
    have f8 := blk_free hB 8
    go_simp
    obtain ⟨g8, c8', hg5⟩ := ownsRow_form PR4.o8 (by decide)
    obtain ⟨rfl, -, rfl⟩ := Value.slice.inj hg5
    have hB2 := cells_set hB 8 (.slice (some ⟨g8, 0, none⟩) 128 c8)
    (try simp at hB2)
    have K1 : KpM (fun q => q = w.heap.size) W4 (W4.setCell ⟨w.heap.size, 8, none⟩ (.slice (some ⟨g8, 0, none⟩) 128 c8)) := kpm_set W4 w.heap.size 8 _ rfl
    refine hK _ _ (.inl rfl) (fun _ => ?_)
    clear hK
    (try simp only [Act.put, List.setIfInBounds_toArray, List.set_cons_zero, List.set_cons_succ])
    generalize W4.setCell ⟨w.heap.size, 8, none⟩ (.slice (some ⟨g8, 0, none⟩) 128 c8) = W5 at hB2 K1 ⊢
    refine wpAnyZ_one (i := 10) (o := ⟨_, _, _, _, _, _⟩) (by kernel_rfl) rfl (fun K hK => ?_)
    go_simp
    refine hK _ _ (.inl rfl) (fun _ => ?_)
    clear hK
    (try simp only [Act.put, List.setIfInBounds_toArray, List.set_cons_zero, List.set_cons_succ])
    refine wpAnyZ_one (i := 11) (o := ⟨_, _, _, _, _, _⟩) (by kernel_rfl) rfl (fun K hK => ?_)
    have q9 := blk_cell hB2 9 (v := .slice g n cg) rfl
    have f9 := blk_free hB2 9
    clear q8 f8
    go_simp
    have hB3 := cells_set hB2 9 (.slice r9 n c9)
    (try simp at hB3)
    have K2 : KpM (fun q => q = w.heap.size) W5 (W5.setCell ⟨w.heap.size, 9, none⟩ (.slice r9 n c9)) := kpm_set W5 w.heap.size 9 _ rfl
    refine hK _ _ (.inl rfl) (fun _ => ?_)
    clear hK
    (try simp only [Act.put, List.setIfInBounds_toArray, List.set_cons_zero, List.set_cons_succ])
    refine wpAnyZ_done (by kernel_rfl) ?_ _
    have KK := K1.trans K2
    have hO8 := own_kpI PR4.o8 KK (fun q hq e => by have := (PR4.o8.lt q hq).1; omega)
    have hO9 := own_kpI PR4.o9 KK (fun q hq e => by have := (PR4.o9.lt q hq).1; omega)
    have hO0 := own_kpI (own_extX O0 FW4) KK (fun q hq e => by have := (O0.lt q hq).1; omega)
    have hl0 := (O0.lt g0 rfl).2
    have hl8 := (PR4.o8.lt g8 rfl).1
    have hd9 : ∀ q, r9 = some ⟨q, 0, none⟩ → q ≠ g0 ∧ q ≠ g8 := fun q hq => by
     have hq2 : (Value.slice r9 n c9).ownBlock = some q := by rw [hq]; rfl
     have := (PR4.o9.lt q hq2).1
     exact ⟨by omega, fun e => PR4.d g8 rfl (by rw [hq2, e])⟩
    rw [HS.out] at hO0 hB3
    go_wp2
    go_meet
    exact ⟨g8, r9, c8, c9, by rw [HS.out]; exact hB3, ⟨by exact hO0, ownsRow_le hO8 hs6, ownsRow_le hO9 hs6, by omega, hd9⟩, (KpM.of_ext FW4).trans KK⟩
  ·skip
   go_simp
   have FW1 : Ext Y (Y.alloc (.cells #[] 4)).drew := (Ext.alloc (Ext.refl Y) _).drew
   refine hK _ _ (.inr FW1) (fun _ => ?_)
   clear hK
   (try simp only [Act.put, List.setIfInBounds_toArray, List.set_cons_zero, List.set_cons_succ])
   have O9 : (Y.alloc (.cells #[] 4)).drew.ownsRow Y.heap.size 4 1 (.slice (some ⟨Y.heap.size, 0, none⟩) 0 0) 0 (bvs []) := (own_empty (Ext.refl _)).drew
   obtain ⟨W1, hW1⟩ : ∃ V, (Y.alloc (.cells #[] 4)).drew = V := ⟨_, rfl⟩
   rw [hW1] at FW1 O9
   rw [hW1]
   clear hW1
   refine wpAnyZ_one (i := 0) (o := ⟨_, _, _, _, _, _⟩) (by kernel_rfl) rfl (fun K hK => ?_)
   go_simp
   have FW2 : Ext Y (W1.alloc (.cells #[] 4)) := Ext.alloc FW1 _
   refine hK _ _ (.inr FW2) (fun _ => ?_)
   clear hK
   (try simp only [Act.put, List.setIfInBounds_toArray, List.set_cons_zero, List.set_cons_succ])
   have PR2 := Pr.mk8 FW1 (FW1.size) O9
   obtain ⟨W2, hW2⟩ : ∃ V, (W1.alloc (.cells #[] 4)) = V := ⟨_, rfl⟩
   rw [hW2] at FW2 PR2
   rw [hW2]
   clear hW2
   refine wpAnyZ_one (i := 3) (o := ⟨_, _, _, _, _, _⟩) (by kernel_rfl) rfl (fun K hK => ?_)
   refine step_app5 (w0 := Y) (by rfl) _ _ _ (by rfl) 4 ib (.bool false) 1 1 Tryz.underlying54 hib hb0 hb1 hb2 rfl (by decide) _ 0 Y.heap.size [] (by rfl) PR2.o8 FW2 (Nat.le_refl _) (FW2).size b 128 cb (bvs bad) (by rfl) (by rw [bvs_length, HL.out, Nat.mul_one]) (hfb _ FW2) (bvs_one _) (by unfold maxLen; omega) (by omega) ?_
   intro r8 c8 W3 _ ho8 FW3 hg8 ha8
   (try rw [Nat.zero_add])
   refine hK _ _ (.inr FW3) (fun _ => ?_)
   clear hK
   (try simp only [Act.put, List.setIfInBounds_toArray, List.set_cons_zero, List.set_cons_succ])
   rw [Nat.zero_add, List.nil_append] at ho8
   rw [Nat.zero_add] at ha8
   have PR3 := PR2.app8 FW3 ho8 hg8 ha8
   refine tk 8 ⟨_, _, _, _, _, _⟩ ?_ rfl (by kernel_rfl) (fun _ _ _ h => h) (Or.inl ⟨by rfl, ?_⟩) FW3 ?_
   rotate_left
   ·intro wX hS
    go_simp
    (try with_reducible rfl)
   (try simp only [Act.put, List.setIfInBounds_toArray, List.set_cons_zero, List.set_cons_succ])
   refine wpAnyZ_one (i := 7) (o := ⟨_, _, _, _, _, _⟩) (by kernel_rfl) rfl (fun K hK => ?_)
   refine step_app5 (w0 := Y) (by rfl) _ _ _ (by rfl) 4 ib (.bool false) 1 1 Tryz.underlying54 hib hb0 hb1 hb2 rfl (by decide) _ 0 Y.heap.size [] (by rfl) PR3.o9 FW3 (Nat.le_refl _) (FW3).size g n cg (bvs (goneF L gone)) (by rfl) (by rw [bvs_length, hgl.out, Nat.mul_one]) (hfg _ FW3) (bvs_one _) (by unfold maxLen; omega) (by omega) ?_
   intro r9 c9 W4 _ ho9 FW4 hg9 ha9
   (try rw [Nat.zero_add])
   refine hK _ _ (.inr FW4) (fun _ => ?_)
   clear hK
   (try simp only [Act.put, List.setIfInBounds_toArray, List.set_cons_zero, List.set_cons_succ])
   rw [Nat.zero_add, List.nil_append] at ho9
   rw [Nat.zero_add] at ha9
   have PR4 := PR3.app9 FW4 ho9 hg9 ha9
   have hB := HQ.out W4 FW4
   refine wpAnyZ_one (i := 9) (o := ⟨_, _, _, _, _, _⟩) (by kernel_rfl) rfl (fun K hK => ?_)
   have q8 := blk_cell hB 8 (v := .slice b 128 cb) rfl
   have f8 := blk_free hB 8
   go_simp
   obtain ⟨g8, c8', hg5⟩ := ownsRow_form PR4.o8 (by decide)
   obtain ⟨rfl, -, rfl⟩ := Value.slice.inj hg5
   have hB2 := cells_set hB 8 (.slice (some ⟨g8, 0, none⟩) 128 c8)
   (try simp at hB2)
   have K1 : KpM (fun q => q = w.heap.size) W4 (W4.setCell ⟨w.heap.size, 8, none⟩ (.slice (some ⟨g8, 0, none⟩) 128 c8)) := kpm_set W4 w.heap.size 8 _ rfl
   refine hK _ _ (.inl rfl) (fun _ => ?_)
   clear hK
   (try simp only [Act.put, List.setIfInBounds_toArray, List.set_cons_zero, List.set_cons_succ])
   generalize W4.setCell ⟨w.heap.size, 8, none⟩ (.slice (some ⟨g8, 0, none⟩) 128 c8) = W5 at hB2 K1 ⊢
   refine wpAnyZ_one (i := 10) (o := ⟨_, _, _, _, _, _⟩) (by kernel_rfl) rfl (fun K hK => ?_)
   go_simp
   refine hK _ _ (.inl rfl) (fun _ => ?_)
   clear hK
   (try simp only [Act.put, List.setIfInBounds_toArray, List.set_cons_zero, List.set_cons_succ])
   refine wpAnyZ_one (i := 11) (o := ⟨_, _, _, _, _, _⟩) (by kernel_rfl) rfl (fun K hK => ?_)
   have q9 := blk_cell hB2 9 (v := .slice g n cg) rfl
   have f9 := blk_free hB2 9
   clear q8 f8
   go_simp
   have hB3 := cells_set hB2 9 (.slice r9 n c9)
   (try simp at hB3)
   have K2 : KpM (fun q => q = w.heap.size) W5 (W5.setCell ⟨w.heap.size, 9, none⟩ (.slice r9 n c9)) := kpm_set W5 w.heap.size 9 _ rfl
   refine hK _ _ (.inl rfl) (fun _ => ?_)
   clear hK
   (try simp only [Act.put, List.setIfInBounds_toArray, List.set_cons_zero, List.set_cons_succ])
   refine wpAnyZ_done (by kernel_rfl) ?_ _
   have KK := K1.trans K2
   have hO8 := own_kpI PR4.o8 KK (fun q hq e => by have := (PR4.o8.lt q hq).1; omega)
   have hO9 := own_kpI PR4.o9 KK (fun q hq e => by have := (PR4.o9.lt q hq).1; omega)
   have hO0 := own_kpI (own_extX O0 FW4) KK (fun q hq e => by have := (O0.lt q hq).1; omega)
   have hl0 := (O0.lt g0 rfl).2
   have hl8 := (PR4.o8.lt g8 rfl).1
   have hd9 : ∀ q, r9 = some ⟨q, 0, none⟩ → q ≠ g0 ∧ q ≠ g8 := fun q hq => by
    have hq2 : (Value.slice r9 n c9).ownBlock = some q := by rw [hq]; rfl
    have := (PR4.o9.lt q hq2).1
    exact ⟨by omega, fun e => PR4.d g8 rfl (by rw [hq2, e])⟩
   rw [HS.out] at hO0 hB3
   go_wp2
   go_meet
   exact ⟨g8, r9, c8, c9, by rw [HS.out]; exact hB3, ⟨by exact hO0, ownsRow_le hO8 hs6, ownsRow_le hO9 hs6, by omega, hd9⟩, (KpM.of_ext FW4).trans KK⟩
 case rest =>
  obtain ⟨g8, a9, c8, c9, hB, HR, KY⟩ := hcut
  have gz' := (KY.block _ (lt_of_block gz) (by omega)).trans gz
  have EW := E6.below5 KY (fun q hq => by omega)
  have HZ := Lib.hid gz'
  rw [HS.out] at hB
  clear gz gz' O0 g9 HF HI KY E6 hs6
  have H0 : HpR wc (w.heap.size + 2) g0 g8 a9 c0 c8 c9 n (hapS L s gone 0).store (hapV L s bad gone 0) (hapF L s gone 0) := by
   rw [hapF_zero]
   exact HR
  clear HR
  go_wp2_with fail
  go_loopw [5] (fun i wr => ∃ k : Nat, k ≤ n ∧ i = .int .i64 (k : Int) ∧ Ext w wr ∧ wr.heap[w.heap.size]? = some (.cells #[.slice (some ⟨g0, 0, none⟩) 128 c0, .slice a2 s.tape.length k2, .int .i64 s.taken, .slice a3 s.printed.length k3, .int .i64 s.time, .int .i64 s.at_, .int .i64 s.done, .int .i64 s.why, .slice (some ⟨g8, 0, none⟩) 128 c8, .slice a9 n c9] 56 (0, 0)) ∧ Hid (wr.heap[w.heap.size + 1]? = some (.cells #[.slice none 0 0, .slice none 0 0, .int .i64 0, .slice none 0 0, .int .i64 0, .int .i64 0, .int .i64 0, .int .i64 0, .slice none 0 0, .slice none 0 0] 56 (0, 0))) ∧ HpR wr (w.heap.size + 2) g0 g8 a9 c0 c8 c9 n (hapS L s gone k).store (hapV L s bad gone k) (hapF L s gone k)) (fun i _ => n - (Go.RowKit.intOf i).toNat)
  case atStart => exact ⟨0, Nat.zero_le _, rfl, EW, hB, HZ, H0⟩
  case round =>
   clear hB HZ H0 EW
   obtain ⟨k, hk, rfl, EW, hB, HZ, HR⟩ := hrel
   by_cases hlt : k < n
   ·have hltz : (k : Int) < (n : Int) := by omega
    have hk0 : (0 : Int) ≤ (k : Int) := by omega
    have hkL : k < L.length := by rw [HN.out]; exact hlt
    have hmem : (L[k]?.getD ⟨0, 0, 0⟩) ∈ L := by rw [List.getElem?_eq_getElem hkL]; exact List.getElem_mem hkL
    have hyo := loss_ok (HLO.out _ hmem)
    obtain ⟨lb, lo, rfl, hlb, hlc⟩ : ∃ lb lo, la = some ⟨lb, lo, none⟩ ∧ lb < w.heap.size ∧ ∀ i, i < L.length → w.cell? ⟨lb, lo + i * 3, none⟩ = some (.int .i64 (L[i]?.getD ⟨0, 0, 0⟩).after) ∧ w.cell? ⟨lb, lo + i * 3 + 1, none⟩ = some (.int .i64 (L[i]?.getD ⟨0, 0, 0⟩).addr) ∧ w.cell? ⟨lb, lo + i * 3 + 2, none⟩ = some (.int .i64 (L[i]?.getD ⟨0, 0, 0⟩).bit) := by
     rcases HI0.out with h | h
     ·rw [h] at hkL; simp at hkL
     ·exact h
    obtain ⟨d0, d1, d2⟩ := hlc k hkL
    have d0 := (EW.cell (p := ⟨lb, lo + k * 3, none⟩) hlb).trans d0
    have HD1 := Lib.hid (fun V (E : Ext w V) => (E.cell (p := ⟨lb, lo + k * 3 + 1, none⟩) hlb).trans d1)
    have HD2 := Lib.hid (fun V (E : Ext w V) => (E.cell (p := ⟨lb, lo + k * 3 + 2, none⟩) hlb).trans d2)
    obtain ⟨g9, c9', hg9⟩ := ownsRow_form HR.o9 (by omega)
    obtain ⟨rfl, -, rfl⟩ := Value.slice.inj hg9
    clear d1 d2 hlc hmem hg9
    have fk := own_cellV HR.o9 k (by rw [hapF_len]; exact hkL)
    rw [hapF_get hkL] at fk
    have HSK := fun h => Lib.hid (hapS_skip (s := s) (bad := bad) (gone := gone) hkL h)
    have HNX := fun h1 h2 => Lib.hid (hapS_next (s := s) (bad := bad) (gone := gone) hkL h1 h2)
    obtain ⟨y, hy⟩ : ∃ y, L[k]?.getD ⟨0, 0, 0⟩ = y := ⟨_, rfl⟩
    rw [hy] at d0 HD1 HD2 hyo fk HSK HNX
    obtain ⟨af, ad, bi⟩ := y
    dsimp only at d0 HD1 HD2 hyo fk HSK HNX
    have q0 := blk_cell hB 0 (v := .slice (some ⟨g0, 0, none⟩) 128 c0) rfl
    have q6 := blk_cell hB 6 (v := .int .i64 s.done) rfl
    have q9 := blk_cell hB 9 (v := .slice (some ⟨g9, 0, none⟩) n c9) rfl
    have HLT := Lib.hid hlt
    clear hy hkL hlt
    by_cases haf : af = s.done
    ·have y1 : (af != s.done) = false := by simpa using haf
     cases hga : gone af with
     | true =>
      rw [hga] at fk
      have HX := HSK (.inr hga)
      clear HSK HNX hga haf hyo q0
      go_upto_region 6 with fail
      go_quiet (fail)
      have EQ : Ext wr (wr.drewN nq) := ext_drewN (Ext.refl wr) nq
      have hB2 := (EQ.block _ (lt_of_block hB)).trans hB
      have HZ2 := Lib.hid ((EQ.block _ (lt_of_block HZ.out)).trans HZ.out)
      have HR2 := HR.ext EQ
      obtain ⟨wq, hwq⟩ : ∃ wq, wr.drewN nq = wq := ⟨_, rfl⟩
      rw [hwq] at EQ hB2 HZ2 HR2 ⊢
      clear hwq
      go_wp2
      go_roundw
      case rel => exact ⟨k + 1, HLT.out, by go_num, EW.comp EQ, hB2, HZ2, by rw [HX.out.1, HX.out.2.1, HX.out.2.2]; exact HR2⟩
      case measure => have := HLT.out; simp [Go.RowKit.intOf]; omega
     | false =>
      rw [hga] at fk
      have HX := HNX haf hga
      clear HSK HNX hga haf q0
      obtain ⟨p, rfl⟩ := Int.eq_ofNat_of_zero_le hyo.2.1.1
      obtain ⟨q, rfl⟩ := Int.eq_ofNat_of_zero_le hyo.2.2.1
      have hp : p < 128 := by omega
      have hq : q ≤ 24 := by omega
      clear hyo
      go_upto_region 6 with fail
      go_quiet (fail)
      have EQ : Ext wr (wr.drewN nq) := ext_drewN (Ext.refl wr) nq
      have hB2 := (EQ.block _ (lt_of_block hB)).trans hB
      have HZ2 := Lib.hid ((EQ.block _ (lt_of_block HZ.out)).trans HZ.out)
      have HR2 := HR.ext EQ
      have E2 := EW.comp EQ
      clear HR HZ hB q6 q9 fk d0
      obtain ⟨wq, hwq⟩ : ∃ wq, wr.drewN nq = wq := ⟨_, rfl⟩
      rw [hwq] at hB2 HZ2 HR2 E2 ⊢
      clear hwq EQ EW
      have q9 := blk_cell hB2 9 (v := .slice (some ⟨g9, 0, none⟩) n c9) rfl
      have fk := own_cellV HR2.o9 k (by rw [hapF_len, HN.out]; exact HLT.out)
      have ff := HR2.o9.frozenAt k
      have hg9 := (HR2.o9.lt g9 rfl).1
      have KK : KpM (fun q => q = g9) wq (wq.setCell ⟨g9, k, none⟩ (.bool true)) := kpm_set (M := fun q => q = g9) wq g9 k (.bool true) rfl
      have hB3 := (KK.block w.heap.size (lt_of_block hB2) (by omega)).trans hB2
      have HZ3 := Lib.hid ((KK.block _ (lt_of_block HZ2.out) (by omega)).trans HZ2.out)
      have HR3 := HR2.set9 k true
      have E3 := E2.below5 KK (fun q hq => by omega)
      go_upto_region 8 with fail
      generalize wq.setCell ⟨g9, k, none⟩ (.bool true) = V at hB3 HZ3 HR3 E3 ⊢
      clear q9 fk ff hB2 HZ2 HR2 E2 KK
      have d1 := HD1.out V E3
      have d2 := HD2.out V E3
      go_quiet (fail)
      have EQ : Ext V (V.drewN nq) := ext_drewN (Ext.refl V) nq
      have hB4 := (EQ.block _ (lt_of_block hB3)).trans hB3
      have HZ4 := Lib.hid ((EQ.block _ (lt_of_block HZ3.out)).trans HZ3.out)
      have HR4 := HR3.ext EQ
      have E4 := E3.comp EQ
      clear d1 d2 HR3 HZ3 hB3 E3
      obtain ⟨V4, hV4⟩ : ∃ wq, V.drewN nq = wq := ⟨_, rfl⟩
      rw [hV4] at hB4 HZ4 HR4 E4 ⊢
      clear hV4 EQ
      have hg8 := (HR4.o8.lt g8 rfl).1
      have hp0 : (0 : Int) ≤ (p : Int) := by omega
      have hp1 : (p : Int) < 128 := by omega
      have hwd := wordAt_bd (hapS_valid (L := L) (gone := gone) (k := k) HV.out HLO.out) (p : Int)
      unfold wordAt at hwd
      rw [Int.toNat_natCast] at hwd
      have hls : (hapS L s gone k).store.length = 128 := by have := HR4.o0.1; rw [iv_length] at this; omega
      have HXS := Lib.hid (show (hapS L s gone (k + 1)).store = (hapS L s gone k).store.set p (flipW ((hapS L s gone k).store[p]?.getD 0) (q : Int)) by
       rw [HX.out.1]
       unfold lossS wordAt
       rw [Int.toNat_natCast])
      have HXV := Lib.hid (show hapV L s bad gone (k + 1) = (hapV L s bad gone k).set p (!((hapV L s bad gone k)[p]?.getD false)) by
       rw [HX.out.2.1]
       unfold lossB badAt
       rw [Int.toNat_natCast])
      have HXF := Lib.hid HX.out.2.2
      have hlv : (hapV L s bad gone k).length = 128 := by rw [hapV_len]; exact HL.out
      clear HX
      obtain ⟨st, hst⟩ : ∃ st, (hapS L s gone k).store = st := ⟨_, rfl⟩
      obtain ⟨bv, hbv⟩ : ∃ bv, hapV L s bad gone k = bv := ⟨_, rfl⟩
      rw [hst] at HR4 hwd hls HXS
      rw [hbv] at HR4 HXV hlv
      clear hst hbv
      obtain ⟨wd, hwd0⟩ : ∃ wd, st[p]?.getD 0 = wd := ⟨_, rfl⟩
      rw [hwd0] at hwd HXS
      obtain ⟨X1, rfl⟩ := Int.eq_ofNat_of_zero_le hwd.1
      have hX1 : X1 ≤ 16777215 := by omega
      have HW0 := Lib.hid hwd0
      obtain ⟨bf, hbf⟩ : ∃ bf, bv[p]?.getD false = bf := ⟨_, rfl⟩
      rw [hbf] at HXV
      have HBF := Lib.hid hbf
      clear hwd hwd0 hbf
      go_upto_region 9 with fail
      have q8 := blk_cell hB4 8 (v := .slice (some ⟨g8, 0, none⟩) 128 c8) rfl
      have bk := own_cellV HR4.o8 p (by rw [hlv]; exact hp)
      rw [HBF.out] at bk
      have HLV := Lib.hid hlv
      clear hlv
      go_still_tail 10, (by kernel_rfl)
      change wpList _ _ _ _ _ V4.drew
      clear q8 bk
      have ED : Ext V4 V4.drew := (Ext.refl V4).drew
      have hB5 := (ED.block _ (lt_of_block hB4)).trans hB4
      have HZ5 := Lib.hid ((ED.block _ (lt_of_block HZ4.out)).trans HZ4.out)
      have HR5 := HR4.ext ED
      have E5 := E4.comp ED
      clear HR4 HZ4 hB4 E4 ED
      generalize V4.drew = V5 at hB5 HZ5 HR5 E5 ⊢
      have q8 := blk_cell hB5 8 (v := .slice (some ⟨g8, 0, none⟩) 128 c8) rfl
      have bk := own_cellV HR5.o8 p (by rw [HLV.out]; exact hp)
      rw [HBF.out] at bk
      have fb := HR5.o8.frozenAt p
      have KK : KpM (fun q => q = g8) V5 (V5.setCell ⟨g8, p, none⟩ (.bool !bf)) := kpm_set (M := fun q => q = g8) V5 g8 p _ rfl
      have hB6 := (KK.block w.heap.size (lt_of_block hB5) (by omega)).trans hB5
      have HZ6 := Lib.hid ((KK.block _ (lt_of_block HZ5.out) (by omega)).trans HZ5.out)
      have HR6 := HR5.set8 p (!bf)
      have E6 := E5.below5 KK (fun q hq => by omega)
      go_upto_region 10 with fail
      generalize V5.setCell ⟨g8, p, none⟩ (.bool !bf) = V6 at hB6 HZ6 HR6 E6 ⊢
      clear q8 bk fb HZ5 HR5 hB5 E5 KK
      have hg0 := (HR6.o0.lt g0 rfl).1
      by_cases hq24 : q < 24
      ·have hqz : (q : Int) < 24 := by omega
       have q0 := blk_cell hB6 0 (v := .slice (some ⟨g0, 0, none⟩) 128 c0) rfl
       have wk := own_cellI HR6.o0 p (by rw [hls]; exact hp)
       rw [HW0.out] at wk
       have HQ6 := Lib.hid (fun Z (E : Ext V6 Z) => blk_cell ((E.block _ (lt_of_block hB6)).trans hB6) 0 (v := .slice (some ⟨g0, 0, none⟩) 128 c0) rfl)
       have HK6 := Lib.hid (fun Z (E : Ext V6 Z) => (E.cell (p := ⟨g0, p, none⟩) (HR6.o0.lt g0 rfl).2).trans wk)
       obtain ⟨P, hP⟩ : ∃ P, 2 ^ q = P := ⟨_, rfl⟩
       have hP1 : P ≤ 8388608 := by
        have h1 : 2 ^ q ≤ 2 ^ 23 := Nat.pow_le_pow_right (by decide) (by omega)
        rw [← hP]; omega
       have hpw := fun W => rpower10_any q W (by omega)
       have hfl := flip_ref X1 q hq24
       have hbit := fun W => rbit_any X1 q W (by omega) (by omega)
       have hm2 : X1 / 2 ^ q % 2 = 0 ∨ X1 / 2 ^ q % 2 = 1 := by omega
       rw [hP] at hpw
       have w1 : IntKind.i64.wrap ((X1 : Int) - (P : Int)) = (X1 : Int) - (P : Int) := IntWalk.i64_in _ (by omega)
       have w2 : IntKind.i64.wrap ((X1 : Int) + (P : Int)) = (X1 : Int) + (P : Int) := IntWalk.i64_in _ (by omega)
       rcases hm2 with hb | hb
       ·rw [if_neg (by omega), hP] at hfl
        rw [hb] at hbit
        have hbit : ∀ W, Calls Tryz.prog 50 #[.int .i64 (X1 : Int), .int .i64 (q : Int)] W fun e w' => e = .returned (.int .i64 0) ∧ w' = W := hbit
        have HFL := Lib.hid hfl
        clear hfl hb hP hq24
        go_upto_region 13 with (go_at_call 50; refine (hbit _).mono ?_; rintro e w' ⟨rfl, rfl⟩)
        obtain ⟨V6, rfl⟩ : ∃ V6, V6 = w' := ⟨_, rfl⟩
        refine wp_region_Z (fun i => i == 14) (fun Z => Ext V6 Z) (by kernel_rfl) (Ext.refl V6).drew fun hSX => ?_
        clear q0 wk
        refine tk 0 ⟨_, _, _, _, _, _⟩ ?_ rfl (by kernel_rfl) (fun _ _ _ h => h) (Or.inl ⟨by rfl, ?_⟩) hSX ?_
        rotate_left
        ·intro wX hS
         go_simp
         (try with_reducible rfl)
        (try simp only [Act.put, List.setIfInBounds_toArray, List.set_cons_zero, List.set_cons_succ])
        refine tk 1 ⟨_, _, _, _, _, _⟩ ?_ rfl (by kernel_rfl) (fun _ _ _ h => h) (Or.inl ⟨by rfl, ?_⟩) hSX ?_
        rotate_left
        ·intro wX hS
         go_simp
         (try with_reducible rfl)
        (try simp only [Act.put, List.setIfInBounds_toArray, List.set_cons_zero, List.set_cons_succ])
        refine tk 2 ⟨_, _, _, _, _, _⟩ ?_ rfl (by kernel_rfl) (fun _ _ _ h => h) (Or.inl ⟨by rfl, ?_⟩) hSX ?_
        rotate_left
        ·intro wX hS
         have q0 := HQ6.out wX hS
         go_simp
         (try with_reducible rfl)
        (try simp only [Act.put, List.setIfInBounds_toArray, List.set_cons_zero, List.set_cons_succ])
        refine tk 3 ⟨_, _, _, _, _, _⟩ ?_ rfl (by kernel_rfl) (fun _ _ _ h => h) (Or.inl ⟨by rfl, ?_⟩) hSX ?_
        rotate_left
        ·intro wX hS
         go_simp
         (try with_reducible rfl)
        (try simp only [Act.put, List.setIfInBounds_toArray, List.set_cons_zero, List.set_cons_succ])
        refine tk 4 ⟨_, _, _, _, _, _⟩ ?_ rfl (by kernel_rfl) (fun _ _ _ h => h) (Or.inl ⟨by rfl, ?_⟩) hSX ?_
        rotate_left
        ·intro wX hS
         go_simp
         (try with_reducible rfl)
        (try simp only [Act.put, List.setIfInBounds_toArray, List.set_cons_zero, List.set_cons_succ])
        refine tk 5 ⟨_, _, _, _, _, _⟩ ?_ rfl (by kernel_rfl) (fun _ _ _ h => h) (Or.inl ⟨by rfl, ?_⟩) hSX ?_
        rotate_left
        ·intro wX hS
         go_simp
         (try with_reducible rfl)
        (try simp only [Act.put, List.setIfInBounds_toArray, List.set_cons_zero, List.set_cons_succ])
        refine tk 6 ⟨_, _, _, _, _, _⟩ ?_ rfl (by kernel_rfl) (fun _ _ _ h => h) (Or.inl ⟨by rfl, ?_⟩) hSX ?_
        rotate_left
        ·intro wX hS
         have q0 := HQ6.out wX hS
         go_simp
         (try with_reducible rfl)
        (try simp only [Act.put, List.setIfInBounds_toArray, List.set_cons_zero, List.set_cons_succ])
        refine tk 7 ⟨_, _, _, _, _, _⟩ ?_ rfl (by kernel_rfl) (fun _ _ _ h => h) (Or.inl ⟨by rfl, ?_⟩) hSX ?_
        rotate_left
        ·intro wX hS
         go_simp
         (try with_reducible rfl)
        (try simp only [Act.put, List.setIfInBounds_toArray, List.set_cons_zero, List.set_cons_succ])
        refine tk 8 ⟨_, _, _, _, _, _⟩ ?_ rfl (by kernel_rfl) (fun _ _ _ h => h) (Or.inl ⟨by rfl, ?_⟩) hSX ?_
        rotate_left
        ·intro wX hS
         go_simp
         (try with_reducible rfl)
        (try simp only [Act.put, List.setIfInBounds_toArray, List.set_cons_zero, List.set_cons_succ])
        refine tk 9 ⟨_, _, _, _, _, _⟩ ?_ rfl (by kernel_rfl) (fun _ _ _ h => h) (Or.inl ⟨by rfl, ?_⟩) hSX ?_
        rotate_left
        ·intro wX hS
         have wk := HK6.out wX hS
         go_simp
         (try with_reducible rfl)
        (try simp only [Act.put, List.setIfInBounds_toArray, List.set_cons_zero, List.set_cons_succ])
        refine tk 10 ⟨_, _, _, _, _, _⟩ ?_ rfl (by kernel_rfl) (fun _ _ _ h => h) (Or.inl ⟨by rfl, ?_⟩) hSX ?_
        rotate_left
        ·intro wX hS
         go_simp
         (try with_reducible rfl)
        (try simp only [Act.put, List.setIfInBounds_toArray, List.set_cons_zero, List.set_cons_succ])
        refine wpAnyZ_one (i := 11) (o := ⟨_, _, _, _, _, _⟩) (by kernel_rfl) rfl (fun K hK => ?_)
        go_simp
        go_at_call 51
        refine (hpw _).mono ?_
        rintro e w7 ⟨rfl, rfl⟩
        refine hK _ _ (.inr hSX) (fun _ => ?_)
        clear hK
        (try simp only [Act.put, List.setIfInBounds_toArray, List.set_cons_zero, List.set_cons_succ])
        refine tk 12 ⟨_, _, _, _, _, _⟩ ?_ rfl (by kernel_rfl) (fun _ _ _ h => h) (Or.inl ⟨by rfl, ?_⟩) hSX ?_
        rotate_left
        ·intro wX hS
         go_simp
         (try with_reducible rfl)
        (try simp only [Act.put, List.setIfInBounds_toArray, List.set_cons_zero, List.set_cons_succ])
        refine tk 13 ⟨_, _, _, _, _, _⟩ ?_ rfl (by kernel_rfl) (fun _ _ _ h => h) (Or.inl ⟨by rfl, ?_⟩) hSX ?_
        rotate_left
        ·intro wX hS
         go_simp
         (try with_reducible rfl)
        (try simp only [Act.put, List.setIfInBounds_toArray, List.set_cons_zero, List.set_cons_succ])
        refine wpAnyZ_one (i := 14) (o := ⟨_, _, _, _, _, _⟩) (by kernel_rfl) rfl (fun K hK => ?_)
        have wk := HK6.out _ hSX
        have fk := (HR6.ext hSX).o0.frozenAt p
        go_simp
        refine hK _ _ (.inl rfl) (fun _ => ?_)
        clear hK
        (try simp only [Act.put, List.setIfInBounds_toArray, List.set_cons_zero, List.set_cons_succ])
        refine wpAnyZ_done (by kernel_rfl) ?_ _
        clear wk fk
        have KK : KpM (fun q => q = g0) V6 (V6.setCell ⟨g0, p, none⟩ (.int .i64 ((X1 : Int) + (P : Int)))) := kpm_set (M := fun q => q = g0) V6 g0 p _ rfl
        have ED := (Ext.refl (V6.setCell ⟨g0, p, none⟩ (.int .i64 ((X1 : Int) + (P : Int))))).drew
        have hB7 := (ED.block w.heap.size (by simpa using lt_of_block hB6)).trans ((KK.block w.heap.size (lt_of_block hB6) (by omega)).trans hB6)
        have HZ7 := Lib.hid ((ED.block (w.heap.size + 1) (by simpa using lt_of_block HZ6.out)).trans ((KK.block _ (lt_of_block HZ6.out) (by omega)).trans HZ6.out))
        have HR7 := (HR6.set0 p ((X1 : Int) + (P : Int))).ext ED
        have E7 := (E6.below5 KK (fun q hq => by omega)).comp ED
        generalize (V6.setCell ⟨g0, p, none⟩ (.int .i64 ((X1 : Int) + (P : Int)))).drew = V7 at hB7 HZ7 HR7 E7 ⊢
        clear KK ED
        go_wp2
        go_roundw
        case rel => exact ⟨k + 1, HLT.out, by go_num, E7, hB7, HZ7, by rw [HXS.out, HXV.out, HXF.out, HFL.out]; exact HR7⟩
        case measure => have := HLT.out; simp [Go.RowKit.intOf]; omega
       ·rw [if_pos hb, hP] at hfl
        rw [hb] at hbit
        have hbit : ∀ W, Calls Tryz.prog 50 #[.int .i64 (X1 : Int), .int .i64 (q : Int)] W fun e w' => e = .returned (.int .i64 1) ∧ w' = W := hbit
        have HFL := Lib.hid hfl
        clear hfl hb hP hq24
        go_upto_region 11 with (go_at_call 50; refine (hbit _).mono ?_; rintro e w' ⟨rfl, rfl⟩)
        obtain ⟨V6, rfl⟩ : ∃ V6, V6 = w' := ⟨_, rfl⟩
        refine wp_region_Z (fun i => i == 14) (fun Z => Ext V6 Z) (by kernel_rfl) (Ext.refl V6).drew fun hSX => ?_
        clear q0 wk
        refine tk 0 ⟨_, _, _, _, _, _⟩ ?_ rfl (by kernel_rfl) (fun _ _ _ h => h) (Or.inl ⟨by rfl, ?_⟩) hSX ?_
        rotate_left
        ·intro wX hS
         go_simp
         (try with_reducible rfl)
        (try simp only [Act.put, List.setIfInBounds_toArray, List.set_cons_zero, List.set_cons_succ])
        refine tk 1 ⟨_, _, _, _, _, _⟩ ?_ rfl (by kernel_rfl) (fun _ _ _ h => h) (Or.inl ⟨by rfl, ?_⟩) hSX ?_
        rotate_left
        ·intro wX hS
         go_simp
         (try with_reducible rfl)
        (try simp only [Act.put, List.setIfInBounds_toArray, List.set_cons_zero, List.set_cons_succ])
        refine tk 2 ⟨_, _, _, _, _, _⟩ ?_ rfl (by kernel_rfl) (fun _ _ _ h => h) (Or.inl ⟨by rfl, ?_⟩) hSX ?_
        rotate_left
        ·intro wX hS
         have q0 := HQ6.out wX hS
         go_simp
         (try with_reducible rfl)
        (try simp only [Act.put, List.setIfInBounds_toArray, List.set_cons_zero, List.set_cons_succ])
        refine tk 3 ⟨_, _, _, _, _, _⟩ ?_ rfl (by kernel_rfl) (fun _ _ _ h => h) (Or.inl ⟨by rfl, ?_⟩) hSX ?_
        rotate_left
        ·intro wX hS
         go_simp
         (try with_reducible rfl)
        (try simp only [Act.put, List.setIfInBounds_toArray, List.set_cons_zero, List.set_cons_succ])
        refine tk 4 ⟨_, _, _, _, _, _⟩ ?_ rfl (by kernel_rfl) (fun _ _ _ h => h) (Or.inl ⟨by rfl, ?_⟩) hSX ?_
        rotate_left
        ·intro wX hS
         go_simp
         (try with_reducible rfl)
        (try simp only [Act.put, List.setIfInBounds_toArray, List.set_cons_zero, List.set_cons_succ])
        refine tk 5 ⟨_, _, _, _, _, _⟩ ?_ rfl (by kernel_rfl) (fun _ _ _ h => h) (Or.inl ⟨by rfl, ?_⟩) hSX ?_
        rotate_left
        ·intro wX hS
         go_simp
         (try with_reducible rfl)
        (try simp only [Act.put, List.setIfInBounds_toArray, List.set_cons_zero, List.set_cons_succ])
        refine tk 6 ⟨_, _, _, _, _, _⟩ ?_ rfl (by kernel_rfl) (fun _ _ _ h => h) (Or.inl ⟨by rfl, ?_⟩) hSX ?_
        rotate_left
        ·intro wX hS
         have q0 := HQ6.out wX hS
         go_simp
         (try with_reducible rfl)
        (try simp only [Act.put, List.setIfInBounds_toArray, List.set_cons_zero, List.set_cons_succ])
        refine tk 7 ⟨_, _, _, _, _, _⟩ ?_ rfl (by kernel_rfl) (fun _ _ _ h => h) (Or.inl ⟨by rfl, ?_⟩) hSX ?_
        rotate_left
        ·intro wX hS
         go_simp
         (try with_reducible rfl)
        (try simp only [Act.put, List.setIfInBounds_toArray, List.set_cons_zero, List.set_cons_succ])
        refine tk 8 ⟨_, _, _, _, _, _⟩ ?_ rfl (by kernel_rfl) (fun _ _ _ h => h) (Or.inl ⟨by rfl, ?_⟩) hSX ?_
        rotate_left
        ·intro wX hS
         go_simp
         (try with_reducible rfl)
        (try simp only [Act.put, List.setIfInBounds_toArray, List.set_cons_zero, List.set_cons_succ])
        refine tk 9 ⟨_, _, _, _, _, _⟩ ?_ rfl (by kernel_rfl) (fun _ _ _ h => h) (Or.inl ⟨by rfl, ?_⟩) hSX ?_
        rotate_left
        ·intro wX hS
         have wk := HK6.out wX hS
         go_simp
         (try with_reducible rfl)
        (try simp only [Act.put, List.setIfInBounds_toArray, List.set_cons_zero, List.set_cons_succ])
        refine tk 10 ⟨_, _, _, _, _, _⟩ ?_ rfl (by kernel_rfl) (fun _ _ _ h => h) (Or.inl ⟨by rfl, ?_⟩) hSX ?_
        rotate_left
        ·intro wX hS
         go_simp
         (try with_reducible rfl)
        (try simp only [Act.put, List.setIfInBounds_toArray, List.set_cons_zero, List.set_cons_succ])
        refine wpAnyZ_one (i := 11) (o := ⟨_, _, _, _, _, _⟩) (by kernel_rfl) rfl (fun K hK => ?_)
        go_simp
        go_at_call 51
        refine (hpw _).mono ?_
        rintro e w7 ⟨rfl, rfl⟩
        refine hK _ _ (.inr hSX) (fun _ => ?_)
        clear hK
        (try simp only [Act.put, List.setIfInBounds_toArray, List.set_cons_zero, List.set_cons_succ])
        refine tk 12 ⟨_, _, _, _, _, _⟩ ?_ rfl (by kernel_rfl) (fun _ _ _ h => h) (Or.inl ⟨by rfl, ?_⟩) hSX ?_
        rotate_left
        ·intro wX hS
         go_simp
         (try with_reducible rfl)
        (try simp only [Act.put, List.setIfInBounds_toArray, List.set_cons_zero, List.set_cons_succ])
        refine tk 13 ⟨_, _, _, _, _, _⟩ ?_ rfl (by kernel_rfl) (fun _ _ _ h => h) (Or.inl ⟨by rfl, ?_⟩) hSX ?_
        rotate_left
        ·intro wX hS
         go_simp
         (try with_reducible rfl)
        (try simp only [Act.put, List.setIfInBounds_toArray, List.set_cons_zero, List.set_cons_succ])
        refine wpAnyZ_one (i := 14) (o := ⟨_, _, _, _, _, _⟩) (by kernel_rfl) rfl (fun K hK => ?_)
        have wk := HK6.out _ hSX
        have fk := (HR6.ext hSX).o0.frozenAt p
        go_simp
        refine hK _ _ (.inl rfl) (fun _ => ?_)
        clear hK
        (try simp only [Act.put, List.setIfInBounds_toArray, List.set_cons_zero, List.set_cons_succ])
        refine wpAnyZ_done (by kernel_rfl) ?_ _
        clear wk fk
        have KK : KpM (fun q => q = g0) V6 (V6.setCell ⟨g0, p, none⟩ (.int .i64 ((X1 : Int) - (P : Int)))) := kpm_set (M := fun q => q = g0) V6 g0 p _ rfl
        have ED := (Ext.refl (V6.setCell ⟨g0, p, none⟩ (.int .i64 ((X1 : Int) - (P : Int))))).drew
        have hB7 := (ED.block w.heap.size (by simpa using lt_of_block hB6)).trans ((KK.block w.heap.size (lt_of_block hB6) (by omega)).trans hB6)
        have HZ7 := Lib.hid ((ED.block (w.heap.size + 1) (by simpa using lt_of_block HZ6.out)).trans ((KK.block _ (lt_of_block HZ6.out) (by omega)).trans HZ6.out))
        have HR7 := (HR6.set0 p ((X1 : Int) - (P : Int))).ext ED
        have E7 := (E6.below5 KK (fun q hq => by omega)).comp ED
        generalize (V6.setCell ⟨g0, p, none⟩ (.int .i64 ((X1 : Int) - (P : Int)))).drew = V7 at hB7 HZ7 HR7 E7 ⊢
        clear KK ED
        go_wp2
        go_roundw
        case rel => exact ⟨k + 1, HLT.out, by go_num, E7, hB7, HZ7, by rw [HXS.out, HXV.out, HXF.out, HFL.out]; exact HR7⟩
        case measure => have := HLT.out; simp [Go.RowKit.intOf]; omega
      ·have hqz : ¬ (q : Int) < 24 := by omega
       have HFL := Lib.hid (flip_no (X1 : Int) (q : Int) hqz)
       have hss : st.set p ((X1 : Int)) = st := by
        apply List.ext_getElem?
        intro j
        by_cases e : p = j
        ·subst e
         rw [List.getElem?_set_self (by omega)]
         have := HW0.out
         rw [List.getElem?_eq_getElem (by omega)] at this ⊢
         exact congrArg some this.symm
        ·rw [List.getElem?_set_ne e]
       have HSS := Lib.hid hss
       clear hss hq24
       go_wp2
       go_roundw
       case rel => exact ⟨k + 1, HLT.out, by go_num, E6, hB6, HZ6, by rw [HXS.out, HXV.out, HXF.out, HFL.out, HSS.out]; exact HR6⟩
       case measure => have := HLT.out; simp [Go.RowKit.intOf]; omega
    ·have y1 : (af != s.done) = true := by simpa using haf
     have HX := HSK (.inl haf)
     clear HSK HNX haf hyo q0 fk
     go_upto_region 6 with fail
     go_quiet (fail)
     have EQ : Ext wr (wr.drewN nq) := ext_drewN (Ext.refl wr) nq
     have hB2 := (EQ.block _ (lt_of_block hB)).trans hB
     have HZ2 := Lib.hid ((EQ.block _ (lt_of_block HZ.out)).trans HZ.out)
     have HR2 := HR.ext EQ
     obtain ⟨wq, hwq⟩ : ∃ wq, wr.drewN nq = wq := ⟨_, rfl⟩
     rw [hwq] at EQ hB2 HZ2 HR2 ⊢
     clear hwq
     go_wp2
     go_roundw
     case rel => exact ⟨k + 1, HLT.out, by go_num, EW.comp EQ, hB2, HZ2, by rw [HX.out.1, HX.out.2.1, HX.out.2.2]; exact HR2⟩
     case measure => have := HLT.out; simp [Go.RowKit.intOf]; omega
   ·have hltz : ¬ (k : Int) < (n : Int) := by omega
    obtain rfl : k = n := by omega
    have gz := HZ.out
    have q0 := blk_cell hB 0 (v := .slice (some ⟨g0, 0, none⟩) 128 c0) rfl
    have q1 := blk_cell hB 1 (v := .slice a2 s.tape.length k2) rfl
    have q2 := blk_cell hB 2 (v := .int .i64 s.taken) rfl
    have q3 := blk_cell hB 3 (v := .slice a3 s.printed.length k3) rfl
    have q4 := blk_cell hB 4 (v := .int .i64 s.time) rfl
    have q5 := blk_cell hB 5 (v := .int .i64 s.at_) rfl
    have q6 := blk_cell hB 6 (v := .int .i64 s.done) rfl
    have q7 := blk_cell hB 7 (v := .int .i64 s.why) rfl
    have q8 := blk_cell hB 8 (v := .slice (some ⟨g8, 0, none⟩) 128 c8) rfl
    have q9 := blk_cell hB 9 (v := .slice a9 k c9) rfl
    have z0 := blk_cell gz 0 (v := .slice none 0 0) rfl
    have z1 := blk_cell gz 1 (v := .slice none 0 0) rfl
    have z2 := blk_cell gz 2 (v := .int .i64 0) rfl
    have z3 := blk_cell gz 3 (v := .slice none 0 0) rfl
    have z4 := blk_cell gz 4 (v := .int .i64 0) rfl
    have z5 := blk_cell gz 5 (v := .int .i64 0) rfl
    have z6 := blk_cell gz 6 (v := .int .i64 0) rfl
    have z7 := blk_cell gz 7 (v := .int .i64 0) rfl
    have z8 := blk_cell gz 8 (v := .slice none 0 0) rfl
    have z9 := blk_cell gz 9 (v := .slice none 0 0) rfl
    have f0 := blk_free gz 0
    have f1 := blk_free gz 1
    have f2 := blk_free gz 2
    have f3 := blk_free gz 3
    have f4 := blk_free gz 4
    have f5 := blk_free gz 5
    have f6 := blk_free gz 6
    have f7 := blk_free gz 7
    have f8 := blk_free gz 8
    have f9 := blk_free gz 9
    have KZ := s10_kp (fun q => q = w.heap.size + 1) wr (w.heap.size + 1) (.slice (some ⟨g0, 0, none⟩) 128 c0) (.slice a2 s.tape.length k2) (.int .i64 s.taken) (.slice a3 s.printed.length k3) (.int .i64 s.time) (.int .i64 s.at_) (.int .i64 s.done) (.int .i64 s.why) (.slice (some ⟨g8, 0, none⟩) 128 c8) (.slice a9 k c9) rfl
    have gV := s10_block (.slice (some ⟨g0, 0, none⟩) 128 c0) (.slice a2 s.tape.length k2) (.int .i64 s.taken) (.slice a3 s.printed.length k3) (.int .i64 s.time) (.int .i64 s.at_) (.int .i64 s.done) (.int .i64 s.why) (.slice (some ⟨g8, 0, none⟩) 128 c8) (.slice a9 k c9) gz
    unfold S10 at KZ gV
    have EV := EW.below5 KZ (fun q hq => by omega)
    have hO0 := ints_of_own (M := M) (HR.kp KZ (fun q hq => by omega)).o0 (fun q hq => by have := hM q hq; omega)
    have hO8 := bools_of_own (M := M) (HR.kp KZ (fun q hq => by omega)).o8 (fun q hq => by have := hM q hq; omega)
    have hO9 := bools_of_own (M := M) (HR.kp KZ (fun q hq => by omega)).o9 (fun q hq => by have := hM q hq; omega)
    have hFW := HF0.out.ext EV
    have hls : (hapS L s gone k).store.length = 128 := by have := HR.o0.1; rw [iv_length] at this; omega
    have HLS := Lib.hid hls
    have HXE : Hid (x = ⟨{ s with store := (hapS L s gone k).store }, hapV L s bad gone k, x.gone⟩ ∧ hapF L s gone k = goneF L x.gone) := Lib.hid (by
     rw [← HE.out, ← HN.out]
     refine ⟨?_, hapF_all⟩
     have e1 := hap_all (L := L) (s := s) (bad := bad) (gone := gone)
     have e2 := hapS_same (L := L) (s := s) (gone := gone) (k := L.length)
     rw [e1, ← e2])
    clear KZ gz HZ HR hls
    go_wp2
    generalize ((((((((((wr.setCell ⟨w.heap.size + 1, 0, none⟩ (.slice (some ⟨g0, 0, none⟩) 128 c0)).setCell ⟨w.heap.size + 1, 1, none⟩ (.slice a2 s.tape.length k2)).setCell ⟨w.heap.size + 1, 2, none⟩ (.int .i64 s.taken)).setCell ⟨w.heap.size + 1, 3, none⟩ (.slice a3 s.printed.length k3)).setCell ⟨w.heap.size + 1, 4, none⟩ (.int .i64 s.time)).setCell ⟨w.heap.size + 1, 5, none⟩ (.int .i64 s.at_)).setCell ⟨w.heap.size + 1, 6, none⟩ (.int .i64 s.done)).setCell ⟨w.heap.size + 1, 7, none⟩ (.int .i64 s.why)).setCell ⟨w.heap.size + 1, 8, none⟩ (.slice (some ⟨g8, 0, none⟩) 128 c8)).setCell ⟨w.heap.size + 1, 9, none⟩ (.slice a9 k c9)) = VV at gV EV hO0 hO8 hO9 hFW ⊢
    clear q0 q1 q2 q3 q4 q5 q6 q7 q8 q9 z0 z1 z2 z3 z4 z5 z6 z7 z8 z9 f0 f1 f2 f3 f4 f5 f6 f7 f8 f9
    have r0 := blk_cell gV 0 (v := .slice (some ⟨g0, 0, none⟩) 128 c0) rfl
    have r1 := blk_cell gV 1 (v := .slice a2 s.tape.length k2) rfl
    have r2 := blk_cell gV 2 (v := .int .i64 s.taken) rfl
    have r3 := blk_cell gV 3 (v := .slice a3 s.printed.length k3) rfl
    have r4 := blk_cell gV 4 (v := .int .i64 s.time) rfl
    have r5 := blk_cell gV 5 (v := .int .i64 s.at_) rfl
    have r6 := blk_cell gV 6 (v := .int .i64 s.done) rfl
    have r7 := blk_cell gV 7 (v := .int .i64 s.why) rfl
    have r8 := blk_cell gV 8 (v := .slice (some ⟨g8, 0, none⟩) 128 c8) rfl
    have r9 := blk_cell gV 9 (v := .slice a9 k c9) rfl
    refine bodyPost_ret (v := .agg #[.slice (some ⟨g0, 0, none⟩) 128 c0, .slice a2 s.tape.length k2, .int .i64 s.taken, .slice a3 s.printed.length k3, .int .i64 s.time, .int .i64 s.at_, .int .i64 s.done, .int .i64 s.why, .slice (some ⟨g8, 0, none⟩) 128 c8, .slice a9 k c9]) (by simp [results, Tryz.results25, go_sem, r0, r1, r2, r3, r4, r5, r6, r7, r8, r9]) rfl ?_
    refine ⟨some ⟨g0, 0, none⟩, a2, a3, some ⟨g8, 0, none⟩, a9, c0, k2, k3, c8, c9, ?_, ?_, EV⟩
    ·rw [HXE.out.1]
     show _ = Ending.returned (.agg #[.slice (some ⟨g0, 0, none⟩) (hapS L s gone k).store.length c0, .slice a2 s.tape.length k2, .int .i64 s.taken, .slice a3 s.printed.length k3, .int .i64 s.time, .int .i64 s.at_, .int .i64 s.done, .int .i64 s.why, .slice (some ⟨g8, 0, none⟩) 128 c8, .slice a9 k c9])
     rw [HLS.out]
    ·rw [← HXE.out.2, HXE.out.1]
     exact ⟨hO0, hFW.i2, hFW.i3, hO8, hO9⟩
end Go.Proofs.YtnhpcoagkmgdoaaGreat
/- Layer 10's reference: Guard, Blind. -/
namespace Go.Q
theorem guardN_succ (L : List Loss) (n : Nat) (m : Lm) : guardN L (n + 1) m = if m.s.why ≠ 0 then (m, -1) else if 0 ≤ noticeQ (hapQ L m) then (hapQ L m, noticeQ (hapQ L m)) else guardN L n (doL (hapQ L m)) := rfl
theorem blindN_succ (L : List Loss) (n : Nat) (m : Lm) : blindN L (n + 1) m = if m.s.why ≠ 0 then m else blindN L n (doL (hapQ L m)) := rfl
end Go.Q
namespace Go.Proofs.YtnhpcoagkmgdoaaGreat
open Go.RowKit Go.Q Go.Shelf Go.Maps Go.Joins
set_option maxHeartbeats 8000000
set_option maxRecDepth 100000
/-- a state, the lists of which lie apart from the blocks of M -/
def StF (M : Nat → Prop) (w : World) (v : Value) (s : St) : Prop := ∃ a1 a2 a3 c1 c2 c3, v = sv a1 a2 a3 s.store.length c1 s.tape.length c2 s.printed.length c3 s.taken s.time s.at_ s.done s.why ∧ IntsF M w a1 s.store ∧ IntsF M w a2 s.tape ∧ IntsF M w a3 s.printed
theorem StF.st {M : Nat → Prop} {w : World} {v : Value} {s : St} (h : StF M w v s) : StAt w v s := by
 obtain ⟨a1, a2, a3, c1, c2, c3, rfl, i1, i2, i3⟩ := h
 exact ⟨a1, a2, a3, c1, c2, c3, rfl, i1.at_, i2.at_, i3.at_⟩
theorem StF.of {M : Nat → Prop} {w : World} {v : Value} {s : St} (h : StAt w v s) (hM : ∀ b, b < w.heap.size → ¬ M b) : StF M w v s := by
 obtain ⟨a1, a2, a3, c1, c2, c3, rfl, i1, i2, i3⟩ := h
 exact ⟨a1, a2, a3, c1, c2, c3, rfl, .of_at i1 hM, .of_at i2 hM, .of_at i3 hM⟩
theorem StF.ext {M : Nat → Prop} {w w' : World} {v : Value} {s : St} (h : StF M w v s) (E : Ext w w') : StF M w' v s := by
 obtain ⟨a1, a2, a3, c1, c2, c3, rfl, i1, i2, i3⟩ := h
 exact ⟨a1, a2, a3, c1, c2, c3, rfl, i1.ext E, i2.ext E, i3.ext E⟩
theorem StF.kp {M M' : Nat → Prop} {w w' : World} {v : Value} {s : St} (h : StF M w v s) (K : KpM M' w w') (hM : ∀ b, b < w.heap.size → M' b → M b) : StF M w' v s := by
 obtain ⟨a1, a2, a3, c1, c2, c3, rfl, i1, i2, i3⟩ := h
 exact ⟨a1, a2, a3, c1, c2, c3, rfl, i1.kp K hM, i2.kp K hM, i3.kp K hM⟩
def GdResF (M : Nat → Prop) (p : St × Int × Int) (w : World) (e : Ending) (w' : World) : Prop := ∃ v, e = .returned (.tuple #[v, .int .i64 p.2.1, .int .i64 p.2.2]) ∧ StF M w' v p.1 ∧ Ext w w'
def StResF (M : Nat → Prop) (p : St × Int) (w : World) (e : Ending) (w' : World) : Prop := ∃ v, e = .returned (.tuple #[v, .int .i64 p.2]) ∧ StF M w' v p.1 ∧ Ext w w'
theorem rguard_any (v : Value) (s : St) (L : List Loss) (la : Option Addr) (n lc : Nat) (most : Int) (w : World) {M0 : Nat → Prop} (hMo : ∀ q, M0 q → q < w.heap.size) (h : StF M0 w v s) (hb : StBd s) (hl : L.length = n) (hlb : n ≤ 9223372036854775807) (hI : LossAt w la L) :
  Calls Tryz.prog 7 #[v, .slice la n lc, .int .i64 most] w (GdResF M0 (guardE s L most) w) := by
 have hak := fun W (E : Ext w W) => rasked_any v s la n lc L most W (h.st.ext E) hb hl hlb (hI.ext E)
 obtain ⟨a1, a2, a3, k1, k2, k3, rfl, i1, i2, i3⟩ := h
 have HGV := Lib.hid (fun h => guard_valid (s := s) (L := L) (most := most) h)
 have HB : Hid (guardE s L most = if guardX s L most = 0 then ((guardN L most.toNat (beginL s)).1.s, (guardN L most.toNat (beginL s)).2, 0) else (zst, 0, guardX s L most)) := Lib.hid rfl
 obtain ⟨er, her⟩ : ∃ er, guardX s L most = er := ⟨_, rfl⟩
 rw [her] at hak HGV HB
 have HL := Lib.hid hl
 have HI := Lib.hid hI
 clear her hb hl hI
 unfold sv at hak ⊢
 have hR : ((w.alloc (.cells #[.slice a1 s.store.length k1, .slice a2 s.tape.length k2, .int .i64 s.taken, .slice a3 s.printed.length k3, .int .i64 s.time, .int .i64 s.at_, .int .i64 s.done, .int .i64 s.why] 24)).alloc (.cells #[.slice none 0 0, .slice none 0 0, .int .i64 0, .slice none 0 0, .int .i64 0, .int .i64 0, .int .i64 0, .int .i64 0] 24)).heap[w.heap.size + 1]? = some (.cells #[.slice none 0 0, .slice none 0 0, .int .i64 0, .slice none 0 0, .int .i64 0, .int .i64 0, .int .i64 0, .int .i64 0] 24 (0, 0)) := by
  have e := heap_alloc_new (w.alloc (.cells #[.slice a1 s.store.length k1, .slice a2 s.tape.length k2, .int .i64 s.taken, .slice a3 s.printed.length k3, .int .i64 s.time, .int .i64 s.at_, .int .i64 s.done, .int .i64 s.why] 24)) (.cells #[.slice none 0 0, .slice none 0 0, .int .i64 0, .slice none 0 0, .int .i64 0, .int .i64 0, .int .i64 0, .int .i64 0] 24)
  rw [World.size_alloc] at e
  exact e
 have hP := (Below.heap_alloc (w.alloc (.cells #[.slice a1 s.store.length k1, .slice a2 s.tape.length k2, .int .i64 s.taken, .slice a3 s.printed.length k3, .int .i64 s.time, .int .i64 s.at_, .int .i64 s.done, .int .i64 s.why] 24)) (.cells #[.slice none 0 0, .slice none 0 0, .int .i64 0, .slice none 0 0, .int .i64 0, .int .i64 0, .int .i64 0, .int .i64 0] 24) _ (lt_of_block (heap_alloc_new w (.cells #[.slice a1 s.store.length k1, .slice a2 s.tape.length k2, .int .i64 s.taken, .slice a3 s.printed.length k3, .int .i64 s.time, .int .i64 s.at_, .int .i64 s.done, .int .i64 s.why] 24)))).trans (heap_alloc_new w (.cells #[.slice a1 s.store.length k1, .slice a2 s.tape.length k2, .int .i64 s.taken, .slice a3 s.printed.length k3, .int .i64 s.time, .int .i64 s.at_, .int .i64 s.done, .int .i64 s.why] 24))
 have E0 : Ext w ((w.alloc (.cells #[.slice a1 s.store.length k1, .slice a2 s.tape.length k2, .int .i64 s.taken, .slice a3 s.printed.length k3, .int .i64 s.time, .int .i64 s.at_, .int .i64 s.done, .int .i64 s.why] 24)).alloc (.cells #[.slice none 0 0, .slice none 0 0, .int .i64 0, .slice none 0 0, .int .i64 0, .int .i64 0, .int .i64 0, .int .i64 0] 24)) := ((Ext.refl w).alloc _).alloc _
 have hs0 : w.heap.size + 2 ≤ ((w.alloc (.cells #[.slice a1 s.store.length k1, .slice a2 s.tape.length k2, .int .i64 s.taken, .slice a3 s.printed.length k3, .int .i64 s.time, .int .i64 s.at_, .int .i64 s.done, .int .i64 s.why] 24)).alloc (.cells #[.slice none 0 0, .slice none 0 0, .int .i64 0, .slice none 0 0, .int .i64 0, .int .i64 0, .int .i64 0, .int .i64 0] 24)).heap.size := by simp
 obtain ⟨X, hX⟩ : ∃ X, (w.alloc (.cells #[.slice a1 s.store.length k1, .slice a2 s.tape.length k2, .int .i64 s.taken, .slice a3 s.printed.length k3, .int .i64 s.time, .int .i64 s.at_, .int .i64 s.done, .int .i64 s.why] 24)).alloc (.cells #[.slice none 0 0, .slice none 0 0, .int .i64 0, .slice none 0 0, .int .i64 0, .int .i64 0, .int .i64 0, .int .i64 0] 24) = X := ⟨_, rfl⟩
 rw [hX] at hR hP E0 hs0
 by_cases he : er = 0
 ·subst he
  obtain ⟨hv, hlo, hl40, n0, rfl, hn0⟩ := HGV.out rfl
  have HX := HB.out
  rw [if_pos rfl, Int.toNat_natCast] at HX
  replace HX := Lib.hid HX
  have HV := Lib.hid hv
  have HLO := Lib.hid hlo
  have hn40 : n ≤ 40 := by rw [← HL.out]; exact hl40
  clear HB HGV hv hlo hl40
  go_enter Tryz.func7, Tryz.ntmps7
  go_upto_region 1 with fail
  (try rw [hX])
  clear hX
  have q0 := blk_cell hP 0 (v := .slice a1 s.store.length k1) rfl
  have q1 := blk_cell hP 1 (v := .slice a2 s.tape.length k2) rfl
  have q2 := blk_cell hP 2 (v := .int .i64 s.taken) rfl
  have q3 := blk_cell hP 3 (v := .slice a3 s.printed.length k3) rfl
  have q4 := blk_cell hP 4 (v := .int .i64 s.time) rfl
  have q5 := blk_cell hP 5 (v := .int .i64 s.at_) rfl
  have q6 := blk_cell hP 6 (v := .int .i64 s.done) rfl
  have q7 := blk_cell hP 7 (v := .int .i64 s.why) rfl
  go_wp2_with fail
  refine (hak _ E0).mono ?_
  rintro e w1 ⟨rfl, E1⟩
  clear q0 q1 q2 q3 q4 q5 q6 q7 hak
  have hP1 := (E1.block _ (lt_of_block hP)).trans hP
  have hR1 := (E1.block _ (lt_of_block hR)).trans hR
  have E01 := E0.comp E1
  have hs1 : w.heap.size + 2 ≤ w1.heap.size := by have := E1.size; omega
  have q0 := blk_cell hP1 0 (v := .slice a1 s.store.length k1) rfl
  have q1 := blk_cell hP1 1 (v := .slice a2 s.tape.length k2) rfl
  have q2 := blk_cell hP1 2 (v := .int .i64 s.taken) rfl
  have q3 := blk_cell hP1 3 (v := .slice a3 s.printed.length k3) rfl
  have q4 := blk_cell hP1 4 (v := .int .i64 s.time) rfl
  have q5 := blk_cell hP1 5 (v := .int .i64 s.at_) rfl
  have q6 := blk_cell hP1 6 (v := .int .i64 s.done) rfl
  have q7 := blk_cell hP1 7 (v := .int .i64 s.why) rfl
  go_wp2_with fail
  refine (rbegin10_any (fun q => M0 q ∨ q = w.heap.size + 1) a1 a2 a3 la k1 k2 k3 n lc s w1 (fun q hq => by rcases hq with hq | rfl <;> first | omega | (have := hMo _ hq; omega)) (by omega)).mono ?_
  rintro e w2 ⟨bb, bg, rfl, hbb, hbg, E2⟩
  clear q0 q1 q2 q3 q4 q5 q6 q7 hP hR E0 E1 hs0
  have gM := heap_alloc_new w2 (.cells #[.slice a1 s.store.length k1, .slice a2 s.tape.length k2, .int .i64 s.taken, .slice a3 s.printed.length k3, .int .i64 s.time, .int .i64 s.at_, .int .i64 s.done, .int .i64 s.why, .slice bb 128 128, .slice bg n n] 56)
  have EB := (Ext.refl w2).alloc (.cells #[.slice a1 s.store.length k1, .slice a2 s.tape.length k2, .int .i64 s.taken, .slice a3 s.printed.length k3, .int .i64 s.time, .int .i64 s.at_, .int .i64 s.done, .int .i64 s.why, .slice bb 128 128, .slice bg n n] 56)
  have hR2 := ((E2.comp EB).block _ (lt_of_block hR1)).trans hR1
  have hF2 : MF (fun q => (M0 q ∨ q = w.heap.size + 1) ∨ q = w2.heap.size) (w2.alloc (.cells #[.slice a1 s.store.length k1, .slice a2 s.tape.length k2, .int .i64 s.taken, .slice a3 s.printed.length k3, .int .i64 s.time, .int .i64 s.at_, .int .i64 s.done, .int .i64 s.why, .slice bb 128 128, .slice bg n n] 56)) a1 a2 a3 bb bg s (List.replicate 128 false) (List.replicate n false) := by
   have hI1 := fun (a : Option Addr) (xs : List Int) (i : IntsF M0 w a xs) => (i.weaken (M' := fun q => (M0 q ∨ q = w.heap.size + 1) ∨ q = w2.heap.size) (fun b hb e => by have := E01.size; have := E2.size; rcases e with (e | e) | e <;> first | exact e | (exfalso; omega))).ext (E01.comp (E2.comp EB))
   refine ⟨hI1 _ _ i1, hI1 _ _ i2, hI1 _ _ i3, ?_, ?_⟩
   ·exact (hbb.weaken (M' := fun q => (M0 q ∨ q = w.heap.size + 1) ∨ q = w2.heap.size) (fun q hq hm => hm.resolve_right (by omega))).ext EB
   ·exact (hbg.weaken (M' := fun q => (M0 q ∨ q = w.heap.size + 1) ∨ q = w2.heap.size) (fun q hq hm => hm.resolve_right (by omega))).ext EB
  have E02 := E01.comp (E2.comp EB)
  have hBsz : w.heap.size + 2 ≤ w2.heap.size := by have := E2.size; omega
  have HZs := Lib.hid hR2
  clear hP1 hR1 hR2 E01 E2 EB hbb hbg i1 i2 i3 hs1
  go_upto_region 5 with fail
  have hBs : w2.heap.size < _ := lt_of_block gM
  generalize w2.alloc (.cells #[.slice a1 s.store.length k1, .slice a2 s.tape.length k2, .int .i64 s.taken, .slice a3 s.printed.length k3, .int .i64 s.time, .int .i64 s.at_, .int .i64 s.done, .int .i64 s.why, .slice bb 128 128, .slice bg n n] 56) = V at gM hF2 E02 HZs hBs ⊢
  have hF : MF (fun q => (M0 q ∨ q = w.heap.size + 1) ∨ q = w2.heap.size) V a1 a2 a3 bb bg (beginL s).s (beginL s).bad (goneF L (beginL s).gone) := by
   have e : goneF L (beginL s).gone = List.replicate n false := by
    unfold goneF beginL
    dsimp only
    rw [← HL.out, List.map_const']
   rw [e]
   exact hF2
  obtain ⟨B, hB⟩ : ∃ B, w2.heap.size = B := ⟨_, rfl⟩
  rw [hB] at gM hF hBs hBsz ⊢
  clear hB hF2
  go_wp2_with fail
  go_loopw [11] (fun i wr => ∃ (k : Nat) (m : Lm) (d1 d2 d3 db dg : Option Addr) (e1 e2 e3 eb eg : Nat), k ≤ n0 ∧ i = .int .i64 (k : Int) ∧ Ext w wr ∧ wr.heap[B]? = some (.cells #[.slice d1 m.s.store.length e1, .slice d2 m.s.tape.length e2, .int .i64 m.s.taken, .slice d3 m.s.printed.length e3, .int .i64 m.s.time, .int .i64 m.s.at_, .int .i64 m.s.done, .int .i64 m.s.why, .slice db 128 eb, .slice dg n eg] 56 (0, 0)) ∧ Hid (wr.heap[w.heap.size + 1]? = some (.cells #[.slice none 0 0, .slice none 0 0, .int .i64 0, .slice none 0 0, .int .i64 0, .int .i64 0, .int .i64 0, .int .i64 0] 24 (0, 0))) ∧ Hid (MF (fun q => (M0 q ∨ q = w.heap.size + 1) ∨ q = B) wr d1 d2 d3 db dg m.s m.bad (goneF L m.gone)) ∧ Hid (Valid m.s) ∧ Hid (m.bad.length = 128) ∧ Hid (guardN L n0 (beginL s) = guardN L (n0 - k) m)) (fun i _ => n0 - (Go.RowKit.intOf i).toNat)
  case atStart => exact ⟨0, beginL s, a1, a2, a3, bb, bg, k1, k2, k3, 128, n, Nat.zero_le _, rfl, E02, gM, HZs, Lib.hid hF, HV, Lib.hid (by unfold beginL; simp), Lib.hid rfl⟩
  case round =>
   clear gM HZs hF E02 hBs
   obtain ⟨k, m, d1, d2, d3, db, dg, e1, e2, e3, eb, eg, hk, rfl, EW, hM0, HZ, HF, HVm, HLb, HG⟩ := hrel
   have hBw := lt_of_block hM0
   have c7 := blk_cell hM0 7 (v := .int .i64 m.s.why) rfl
   by_cases hlt : k < n0
   ·have hltz : (k : Int) < (n0 : Int) := by omega
    have hGn := HG.out
    rw [show n0 - k = (n0 - (k + 1)) + 1 by omega] at hGn
    rw [guardN_succ] at hGn
    by_cases hw : m.s.why = 0
    ·have y1 : (m.s.why == 0) = true := by simpa using hw
     rw [if_neg (by rw [hw]; decide)] at hGn
     have hhap := rhappen_any e1 e2 e3 eb n eg lc m.gone (M := fun q => (M0 q ∨ q = w.heap.size + 1) ∨ q = B) (L := L) (la := la) (w := wr) (fun q hq => by rcases hq with (hq | rfl) | rfl <;> first | omega | (have := hMo _ hq; omega)) HF.out HVm.out HLb.out HL.out hn40 (HI.out.ext EW) HLO.out
     rw [show (⟨m.s, m.bad, m.gone⟩ : Lm) = m from rfl] at hhap
     have hxv := hap_valid (L := L) (m := m) HVm.out HLO.out
     have hxw : (hapQ L m).s.why = 0 := by rw [hap_same]; exact hw
     have hxb : (hapQ L m).bad.length = 128 := by
      show ((dueQ L m).foldl lossB m.bad).length = 128
      rw [lossesB_length]; exact HLb.out
     obtain ⟨x, hx⟩ : ∃ x, hapQ L m = x := ⟨_, rfl⟩
     rw [hx] at hhap hxv hxw hxb hGn
     have HXV := Lib.hid hxv
     have HXW := Lib.hid hxw
     have HXB := Lib.hid hxb
     have HGN := Lib.hid hGn
     clear hx hxv hxw hxb hGn hw c7 HVm HLb HF HG
     have q0 := blk_cell hM0 0 (v := .slice d1 m.s.store.length e1) rfl
     have q1 := blk_cell hM0 1 (v := .slice d2 m.s.tape.length e2) rfl
     have q2 := blk_cell hM0 2 (v := .int .i64 m.s.taken) rfl
     have q3 := blk_cell hM0 3 (v := .slice d3 m.s.printed.length e3) rfl
     have q4 := blk_cell hM0 4 (v := .int .i64 m.s.time) rfl
     have q5 := blk_cell hM0 5 (v := .int .i64 m.s.at_) rfl
     have q6 := blk_cell hM0 6 (v := .int .i64 m.s.done) rfl
     have q7 := blk_cell hM0 7 (v := .int .i64 m.s.why) rfl
     have q8 := blk_cell hM0 8 (v := .slice db 128 eb) rfl
     have q9 := blk_cell hM0 9 (v := .slice dg n eg) rfl
     go_wp2_with fail
     refine hhap.mono ?_
     clear hhap
     rintro e w3 ⟨b1, b2, b3, xb, xg, l1, l2, l3, cc, cgg, rfl, hF3, E3⟩
     clear q0 q1 q2 q3 q4 q5 q6 q7 q8 q9
     have hM3 := (E3.block _ (lt_of_block hM0)).trans hM0
     have HZ3 := Lib.hid ((E3.block _ (lt_of_block HZ.out)).trans HZ.out)
     have EW3 := EW.comp E3
     have hB3 : B < w3.heap.size := lt_of_block hM3
     clear HZ EW E3 hM0 hBw
     have HZ := HZ3
     clear HZ3
     have q0 := blk_cell hM3 0 (v := .slice d1 m.s.store.length e1) rfl
     have q1 := blk_cell hM3 1 (v := .slice d2 m.s.tape.length e2) rfl
     have q2 := blk_cell hM3 2 (v := .int .i64 m.s.taken) rfl
     have q3 := blk_cell hM3 3 (v := .slice d3 m.s.printed.length e3) rfl
     have q4 := blk_cell hM3 4 (v := .int .i64 m.s.time) rfl
     have q5 := blk_cell hM3 5 (v := .int .i64 m.s.at_) rfl
     have q6 := blk_cell hM3 6 (v := .int .i64 m.s.done) rfl
     have q7 := blk_cell hM3 7 (v := .int .i64 m.s.why) rfl
     have q8 := blk_cell hM3 8 (v := .slice db 128 eb) rfl
     have q9 := blk_cell hM3 9 (v := .slice dg n eg) rfl
     have f0 := blk_free hM3 0
     have f1 := blk_free hM3 1
     have f2 := blk_free hM3 2
     have f3 := blk_free hM3 3
     have f4 := blk_free hM3 4
     have f5 := blk_free hM3 5
     have f6 := blk_free hM3 6
     have f7 := blk_free hM3 7
     have f8 := blk_free hM3 8
     have f9 := blk_free hM3 9
     have KS := s10_kp (fun q => q = B) w3 B (.slice b1 x.s.store.length l1) (.slice b2 x.s.tape.length l2) (.int .i64 x.s.taken) (.slice b3 x.s.printed.length l3) (.int .i64 x.s.time) (.int .i64 x.s.at_) (.int .i64 x.s.done) (.int .i64 x.s.why) (.slice xb 128 cc) (.slice xg n cgg) rfl
     have hM4 := s10_block (.slice b1 x.s.store.length l1) (.slice b2 x.s.tape.length l2) (.int .i64 x.s.taken) (.slice b3 x.s.printed.length l3) (.int .i64 x.s.time) (.int .i64 x.s.at_) (.int .i64 x.s.done) (.int .i64 x.s.why) (.slice xb 128 cc) (.slice xg n cgg) hM3
     unfold S10 at KS hM4
     have EW3s := EW3.below5 KS (fun q hq => by omega)
     have HZs := Lib.hid ((KS.block _ (lt_of_block HZ.out) (by omega)).trans HZ.out)
     have hF3s := hF3.kp KS (fun q _ hq => .inr hq)
     have hBs : B < _ := lt_of_block hM4
     clear KS
     go_upto_region 9 with fail
     generalize ((((((((((w3.setCell ⟨B, 0, none⟩ (.slice b1 x.s.store.length l1)).setCell ⟨B, 1, none⟩ (.slice b2 x.s.tape.length l2)).setCell ⟨B, 2, none⟩ (.int .i64 x.s.taken)).setCell ⟨B, 3, none⟩ (.slice b3 x.s.printed.length l3)).setCell ⟨B, 4, none⟩ (.int .i64 x.s.time)).setCell ⟨B, 5, none⟩ (.int .i64 x.s.at_)).setCell ⟨B, 6, none⟩ (.int .i64 x.s.done)).setCell ⟨B, 7, none⟩ (.int .i64 x.s.why)).setCell ⟨B, 8, none⟩ (.slice xb 128 cc)).setCell ⟨B, 9, none⟩ (.slice xg n cgg)) = V4 at hM4 EW3s HZs hF3s hBs ⊢
     clear q0 q1 q2 q3 q4 q5 q6 q7 q8 q9 f0 f1 f2 f3 f4 f5 f6 f7 f8 f9 HZ
     have HZ := HZs
     clear HZs
     clear hM3 hB3 EW3 hF3
     have q0 := blk_cell hM4 0 (v := .slice b1 x.s.store.length l1) rfl
     have q1 := blk_cell hM4 1 (v := .slice b2 x.s.tape.length l2) rfl
     have q2 := blk_cell hM4 2 (v := .int .i64 x.s.taken) rfl
     have q3 := blk_cell hM4 3 (v := .slice b3 x.s.printed.length l3) rfl
     have q4 := blk_cell hM4 4 (v := .int .i64 x.s.time) rfl
     have q5 := blk_cell hM4 5 (v := .int .i64 x.s.at_) rfl
     have q6 := blk_cell hM4 6 (v := .int .i64 x.s.done) rfl
     have q7 := blk_cell hM4 7 (v := .int .i64 x.s.why) rfl
     have q8 := blk_cell hM4 8 (v := .slice xb 128 cc) rfl
     have q9 := blk_cell hM4 9 (v := .slice xg n cgg) rfl
     have hnt := rnotice_any l1 l2 l3 cc n cgg x.gone hF3s HXV.out HXB.out
     rw [show (⟨x.s, x.bad, x.gone⟩ : Lm) = x from rfl] at hnt
     obtain ⟨nt, hnt0⟩ : ∃ nt, noticeQ x = nt := ⟨_, rfl⟩
     rw [hnt0] at hnt HGN
     go_wp2_with fail
     refine hnt.mono ?_
     rintro e w5 ⟨rfl, E5⟩
     clear hnt q0 q1 q2 q3 q4 q5 q6 q7 q8 q9
     have hM5 := (E5.block _ (lt_of_block hM4)).trans hM4
     have HZ5 := Lib.hid ((E5.block _ (lt_of_block HZ.out)).trans HZ.out)
     have EW5 := EW3s.comp E5
     have hF5 := hF3s.ext E5
     have hB5 : B < w5.heap.size := lt_of_block hM5
     clear HZ EW3s E5 hM4 hBs hF3s
     have q0 := blk_cell hM5 0 (v := .slice b1 x.s.store.length l1) rfl
     have q1 := blk_cell hM5 1 (v := .slice b2 x.s.tape.length l2) rfl
     have q2 := blk_cell hM5 2 (v := .int .i64 x.s.taken) rfl
     have q3 := blk_cell hM5 3 (v := .slice b3 x.s.printed.length l3) rfl
     have q4 := blk_cell hM5 4 (v := .int .i64 x.s.time) rfl
     have q5 := blk_cell hM5 5 (v := .int .i64 x.s.at_) rfl
     have q6 := blk_cell hM5 6 (v := .int .i64 x.s.done) rfl
     have q7 := blk_cell hM5 7 (v := .int .i64 x.s.why) rfl
     have q8 := blk_cell hM5 8 (v := .slice xb 128 cc) rfl
     have q9 := blk_cell hM5 9 (v := .slice xg n cgg) rfl
     by_cases hn1 : 0 ≤ nt
     ·have hg := HGN.out
      rw [if_pos hn1] at hg
      have hn1' : nt ≥ 0 := hn1
      have HG2 := Lib.hid hg
      have HZ := HZ5
      clear HZ5
      clear hg
      have gz := HZ.out
      have z0 := blk_cell gz 0 (v := .slice none 0 0) rfl
      have z1 := blk_cell gz 1 (v := .slice none 0 0) rfl
      have z2 := blk_cell gz 2 (v := .int .i64 0) rfl
      have z3 := blk_cell gz 3 (v := .slice none 0 0) rfl
      have z4 := blk_cell gz 4 (v := .int .i64 0) rfl
      have z5 := blk_cell gz 5 (v := .int .i64 0) rfl
      have z6 := blk_cell gz 6 (v := .int .i64 0) rfl
      have z7 := blk_cell gz 7 (v := .int .i64 0) rfl
      have f0 := blk_free gz 0
      have f1 := blk_free gz 1
      have f2 := blk_free gz 2
      have f3 := blk_free gz 3
      have f4 := blk_free gz 4
      have f5 := blk_free gz 5
      have f6 := blk_free gz 6
      have f7 := blk_free gz 7
      have KZ := s8_kp (M := fun q => q = w.heap.size + 1) (w := w5) (b := w.heap.size + 1) (n0 := .slice b1 x.s.store.length l1) (n1 := .slice b2 x.s.tape.length l2) (n2 := .int .i64 x.s.taken) (n3 := .slice b3 x.s.printed.length l3) (n4 := .int .i64 x.s.time) (n5 := .int .i64 x.s.at_) (n6 := .int .i64 x.s.done) (n7 := .int .i64 x.s.why) rfl
      have gV := s8_block (n0 := .slice b1 x.s.store.length l1) (n1 := .slice b2 x.s.tape.length l2) (n2 := .int .i64 x.s.taken) (n3 := .slice b3 x.s.printed.length l3) (n4 := .int .i64 x.s.time) (n5 := .int .i64 x.s.at_) (n6 := .int .i64 x.s.done) (n7 := .int .i64 x.s.why) gz
      unfold S8 at KZ gV
      have EV := EW5.below5 KZ (fun q hq => by omega)
      have hFV := hF5.kp KZ (fun q _ hq => .inl (.inr hq))
      clear KZ gz HZ
      go_wp2
      generalize ((((((((w5.setCell ⟨w.heap.size + 1, 0, none⟩ (.slice b1 x.s.store.length l1)).setCell ⟨w.heap.size + 1, 1, none⟩ (.slice b2 x.s.tape.length l2)).setCell ⟨w.heap.size + 1, 2, none⟩ (.int .i64 x.s.taken)).setCell ⟨w.heap.size + 1, 3, none⟩ (.slice b3 x.s.printed.length l3)).setCell ⟨w.heap.size + 1, 4, none⟩ (.int .i64 x.s.time)).setCell ⟨w.heap.size + 1, 5, none⟩ (.int .i64 x.s.at_)).setCell ⟨w.heap.size + 1, 6, none⟩ (.int .i64 x.s.done)).setCell ⟨w.heap.size + 1, 7, none⟩ (.int .i64 x.s.why)) = VV at gV EV hFV ⊢
      have r0 := blk_cell gV 0 (v := .slice b1 x.s.store.length l1) rfl
      have r1 := blk_cell gV 1 (v := .slice b2 x.s.tape.length l2) rfl
      have r2 := blk_cell gV 2 (v := .int .i64 x.s.taken) rfl
      have r3 := blk_cell gV 3 (v := .slice b3 x.s.printed.length l3) rfl
      have r4 := blk_cell gV 4 (v := .int .i64 x.s.time) rfl
      have r5 := blk_cell gV 5 (v := .int .i64 x.s.at_) rfl
      have r6 := blk_cell gV 6 (v := .int .i64 x.s.done) rfl
      have r7 := blk_cell gV 7 (v := .int .i64 x.s.why) rfl
      refine bodyPost_ret (v := .tuple #[.agg #[.slice b1 x.s.store.length l1, .slice b2 x.s.tape.length l2, .int .i64 x.s.taken, .slice b3 x.s.printed.length l3, .int .i64 x.s.time, .int .i64 x.s.at_, .int .i64 x.s.done, .int .i64 x.s.why], .int .i64 nt, .int .i64 0]) (by simp [results, Tryz.results7, go_sem, r0, r1, r2, r3, r4, r5, r6, r7]) rfl ?_
      unfold GdResF
      rw [HX.out, HG2.out]
      exact ⟨_, rfl, ⟨_, _, _, _, _, _, rfl, hFV.i1.weaken (fun q _ hq => .inl (.inl hq)), hFV.i2.weaken (fun q _ hq => .inl (.inl hq)), hFV.i3.weaken (fun q _ hq => .inl (.inl hq))⟩, EV⟩
     ·have hg := HGN.out
      rw [if_neg hn1] at hg
      have hn1' : ¬ nt ≥ 0 := hn1
      have HG2 := Lib.hid hg
      clear hg HGN
      have HZ := HZ5
      clear HZ5
      have hdo := rdo_any l1 l2 l3 cc n cgg x.gone (M := fun q => (M0 q ∨ q = w.heap.size + 1) ∨ q = B) (fun q hq => by rcases hq with (hq | rfl) | rfl <;> first | omega | (have := hMo _ hq; omega)) hF5 HXV.out HXW.out HXB.out
      rw [show (⟨x.s, x.bad, x.gone⟩ : Lm) = x from rfl] at hdo
      have hyv : Valid (doL x).s := runQ_valid 1 HXV.out
      have hyb : (doL x).bad.length = 128 := by
       unfold doL
       dsimp only
       split
       ·rw [List.length_set]; exact HXB.out
       ·exact HXB.out
      have hyg : (doL x).gone = x.gone := rfl
      obtain ⟨y, hy⟩ : ∃ y, doL x = y := ⟨_, rfl⟩
      rw [hy] at hdo hyv hyb hyg HG2
      have HYV := Lib.hid hyv
      have HYB := Lib.hid hyb
      have HYG := Lib.hid hyg
      clear hy hyv hyb hyg
      go_wp2_with fail
      refine hdo.mono ?_
      clear hdo
      rintro e w6 ⟨u1, u2, u3, ub, ug, v1, v2, v3, vb, vg, rfl, hF6, E6⟩
      clear q0 q1 q2 q3 q4 q5 q6 q7 q8 q9
      have hM6 := (E6.block _ (lt_of_block hM5)).trans hM5
      have HZ6 := Lib.hid ((E6.block _ (lt_of_block HZ.out)).trans HZ.out)
      have EW6 := EW5.comp E6
      have hB6 : B < w6.heap.size := lt_of_block hM6
      rw [← HYG.out] at hF6
      clear HZ
      have HZ := HZ6
      clear HZ6
      have q0 := blk_cell hM6 0 (v := .slice b1 x.s.store.length l1) rfl
      have q1 := blk_cell hM6 1 (v := .slice b2 x.s.tape.length l2) rfl
      have q2 := blk_cell hM6 2 (v := .int .i64 x.s.taken) rfl
      have q3 := blk_cell hM6 3 (v := .slice b3 x.s.printed.length l3) rfl
      have q4 := blk_cell hM6 4 (v := .int .i64 x.s.time) rfl
      have q5 := blk_cell hM6 5 (v := .int .i64 x.s.at_) rfl
      have q6 := blk_cell hM6 6 (v := .int .i64 x.s.done) rfl
      have q7 := blk_cell hM6 7 (v := .int .i64 x.s.why) rfl
      have q8 := blk_cell hM6 8 (v := .slice xb 128 cc) rfl
      have q9 := blk_cell hM6 9 (v := .slice xg n cgg) rfl
      have f0 := blk_free hM6 0
      have f1 := blk_free hM6 1
      have f2 := blk_free hM6 2
      have f3 := blk_free hM6 3
      have f4 := blk_free hM6 4
      have f5 := blk_free hM6 5
      have f6 := blk_free hM6 6
      have f7 := blk_free hM6 7
      have f8 := blk_free hM6 8
      have f9 := blk_free hM6 9
      have KS := s10_kp (fun q => q = B) w6 B (.slice u1 y.s.store.length v1) (.slice u2 y.s.tape.length v2) (.int .i64 y.s.taken) (.slice u3 y.s.printed.length v3) (.int .i64 y.s.time) (.int .i64 y.s.at_) (.int .i64 y.s.done) (.int .i64 y.s.why) (.slice ub 128 vb) (.slice ug n vg) rfl
      have hM7 := s10_block (.slice u1 y.s.store.length v1) (.slice u2 y.s.tape.length v2) (.int .i64 y.s.taken) (.slice u3 y.s.printed.length v3) (.int .i64 y.s.time) (.int .i64 y.s.at_) (.int .i64 y.s.done) (.int .i64 y.s.why) (.slice ub 128 vb) (.slice ug n vg) hM6
      unfold S10 at KS hM7
      have EW6s := EW6.below5 KS (fun q hq => by omega)
      have HZs := Lib.hid ((KS.block _ (lt_of_block HZ.out) (by omega)).trans HZ.out)
      have hF6s := hF6.kp KS (fun q _ hq => .inr hq)
      have hBs : B < _ := lt_of_block hM7
      clear KS
      go_upto_region 7 with fail
      generalize ((((((((((w6.setCell ⟨B, 0, none⟩ (.slice u1 y.s.store.length v1)).setCell ⟨B, 1, none⟩ (.slice u2 y.s.tape.length v2)).setCell ⟨B, 2, none⟩ (.int .i64 y.s.taken)).setCell ⟨B, 3, none⟩ (.slice u3 y.s.printed.length v3)).setCell ⟨B, 4, none⟩ (.int .i64 y.s.time)).setCell ⟨B, 5, none⟩ (.int .i64 y.s.at_)).setCell ⟨B, 6, none⟩ (.int .i64 y.s.done)).setCell ⟨B, 7, none⟩ (.int .i64 y.s.why)).setCell ⟨B, 8, none⟩ (.slice ub 128 vb)).setCell ⟨B, 9, none⟩ (.slice ug n vg)) = V7 at hM7 EW6s HZs hF6s hBs ⊢
      clear q0 q1 q2 q3 q4 q5 q6 q7 q8 q9 f0 f1 f2 f3 f4 f5 f6 f7 f8 f9 HZ
      have HZ := HZs
      clear HZs
      go_wp2
      go_roundw
      case rel => exact ⟨k + 1, y, u1, u2, u3, ub, ug, v1, v2, v3, vb, vg, by omega, by go_num, EW6s, hM7, HZ, Lib.hid hF6s, HYV, HYB, HG2⟩
      case measure => simp [Go.RowKit.intOf]; omega
    ·have y1 : (m.s.why == 0) = false := by simpa using hw
     rw [if_pos hw] at hGn
     have HG2 := Lib.hid hGn
     clear hGn hw c7
     have q0 := blk_cell hM0 0 (v := .slice d1 m.s.store.length e1) rfl
     have q1 := blk_cell hM0 1 (v := .slice d2 m.s.tape.length e2) rfl
     have q2 := blk_cell hM0 2 (v := .int .i64 m.s.taken) rfl
     have q3 := blk_cell hM0 3 (v := .slice d3 m.s.printed.length e3) rfl
     have q4 := blk_cell hM0 4 (v := .int .i64 m.s.time) rfl
     have q5 := blk_cell hM0 5 (v := .int .i64 m.s.at_) rfl
     have q6 := blk_cell hM0 6 (v := .int .i64 m.s.done) rfl
     have q7 := blk_cell hM0 7 (v := .int .i64 m.s.why) rfl
     have q8 := blk_cell hM0 8 (v := .slice db 128 eb) rfl
     have q9 := blk_cell hM0 9 (v := .slice dg n eg) rfl
     have hF0 := HF.out
     clear HF
     have gz := HZ.out
     have z0 := blk_cell gz 0 (v := .slice none 0 0) rfl
     have z1 := blk_cell gz 1 (v := .slice none 0 0) rfl
     have z2 := blk_cell gz 2 (v := .int .i64 0) rfl
     have z3 := blk_cell gz 3 (v := .slice none 0 0) rfl
     have z4 := blk_cell gz 4 (v := .int .i64 0) rfl
     have z5 := blk_cell gz 5 (v := .int .i64 0) rfl
     have z6 := blk_cell gz 6 (v := .int .i64 0) rfl
     have z7 := blk_cell gz 7 (v := .int .i64 0) rfl
     have f0 := blk_free gz 0
     have f1 := blk_free gz 1
     have f2 := blk_free gz 2
     have f3 := blk_free gz 3
     have f4 := blk_free gz 4
     have f5 := blk_free gz 5
     have f6 := blk_free gz 6
     have f7 := blk_free gz 7
     have KZ := s8_kp (M := fun q => q = w.heap.size + 1) (w := wr) (b := w.heap.size + 1) (n0 := .slice d1 m.s.store.length e1) (n1 := .slice d2 m.s.tape.length e2) (n2 := .int .i64 m.s.taken) (n3 := .slice d3 m.s.printed.length e3) (n4 := .int .i64 m.s.time) (n5 := .int .i64 m.s.at_) (n6 := .int .i64 m.s.done) (n7 := .int .i64 m.s.why) rfl
     have gV := s8_block (n0 := .slice d1 m.s.store.length e1) (n1 := .slice d2 m.s.tape.length e2) (n2 := .int .i64 m.s.taken) (n3 := .slice d3 m.s.printed.length e3) (n4 := .int .i64 m.s.time) (n5 := .int .i64 m.s.at_) (n6 := .int .i64 m.s.done) (n7 := .int .i64 m.s.why) gz
     unfold S8 at KZ gV
     have EV := EW.below5 KZ (fun q hq => by omega)
     have hFV := hF0.kp KZ (fun q _ hq => .inl (.inr hq))
     clear KZ gz HZ
     go_wp2
     generalize ((((((((wr.setCell ⟨w.heap.size + 1, 0, none⟩ (.slice d1 m.s.store.length e1)).setCell ⟨w.heap.size + 1, 1, none⟩ (.slice d2 m.s.tape.length e2)).setCell ⟨w.heap.size + 1, 2, none⟩ (.int .i64 m.s.taken)).setCell ⟨w.heap.size + 1, 3, none⟩ (.slice d3 m.s.printed.length e3)).setCell ⟨w.heap.size + 1, 4, none⟩ (.int .i64 m.s.time)).setCell ⟨w.heap.size + 1, 5, none⟩ (.int .i64 m.s.at_)).setCell ⟨w.heap.size + 1, 6, none⟩ (.int .i64 m.s.done)).setCell ⟨w.heap.size + 1, 7, none⟩ (.int .i64 m.s.why)) = VV at gV EV hFV ⊢
     have r0 := blk_cell gV 0 (v := .slice d1 m.s.store.length e1) rfl
     have r1 := blk_cell gV 1 (v := .slice d2 m.s.tape.length e2) rfl
     have r2 := blk_cell gV 2 (v := .int .i64 m.s.taken) rfl
     have r3 := blk_cell gV 3 (v := .slice d3 m.s.printed.length e3) rfl
     have r4 := blk_cell gV 4 (v := .int .i64 m.s.time) rfl
     have r5 := blk_cell gV 5 (v := .int .i64 m.s.at_) rfl
     have r6 := blk_cell gV 6 (v := .int .i64 m.s.done) rfl
     have r7 := blk_cell gV 7 (v := .int .i64 m.s.why) rfl
     refine bodyPost_ret (v := .tuple #[.agg #[.slice d1 m.s.store.length e1, .slice d2 m.s.tape.length e2, .int .i64 m.s.taken, .slice d3 m.s.printed.length e3, .int .i64 m.s.time, .int .i64 m.s.at_, .int .i64 m.s.done, .int .i64 m.s.why], .int .i64 (-1), .int .i64 0]) (by simp [results, Tryz.results7, go_sem, r0, r1, r2, r3, r4, r5, r6, r7]) rfl ?_
     unfold GdResF
     rw [HX.out, HG2.out]
     exact ⟨_, rfl, ⟨_, _, _, _, _, _, rfl, hFV.i1.weaken (fun q _ hq => .inl (.inl hq)), hFV.i2.weaken (fun q _ hq => .inl (.inl hq)), hFV.i3.weaken (fun q _ hq => .inl (.inl hq))⟩, EV⟩
   ·have hltz : ¬ (k : Int) < (n0 : Int) := by omega
    have hGn := HG.out
    rw [show n0 - k = 0 by omega] at hGn
    replace hGn : guardN L n0 (beginL s) = (m, -1) := hGn
    have HG2 := Lib.hid hGn
    clear hGn c7
    have q0 := blk_cell hM0 0 (v := .slice d1 m.s.store.length e1) rfl
    have q1 := blk_cell hM0 1 (v := .slice d2 m.s.tape.length e2) rfl
    have q2 := blk_cell hM0 2 (v := .int .i64 m.s.taken) rfl
    have q3 := blk_cell hM0 3 (v := .slice d3 m.s.printed.length e3) rfl
    have q4 := blk_cell hM0 4 (v := .int .i64 m.s.time) rfl
    have q5 := blk_cell hM0 5 (v := .int .i64 m.s.at_) rfl
    have q6 := blk_cell hM0 6 (v := .int .i64 m.s.done) rfl
    have q7 := blk_cell hM0 7 (v := .int .i64 m.s.why) rfl
    have q8 := blk_cell hM0 8 (v := .slice db 128 eb) rfl
    have q9 := blk_cell hM0 9 (v := .slice dg n eg) rfl
    have hF0 := HF.out
    clear HF
    have gz := HZ.out
    have z0 := blk_cell gz 0 (v := .slice none 0 0) rfl
    have z1 := blk_cell gz 1 (v := .slice none 0 0) rfl
    have z2 := blk_cell gz 2 (v := .int .i64 0) rfl
    have z3 := blk_cell gz 3 (v := .slice none 0 0) rfl
    have z4 := blk_cell gz 4 (v := .int .i64 0) rfl
    have z5 := blk_cell gz 5 (v := .int .i64 0) rfl
    have z6 := blk_cell gz 6 (v := .int .i64 0) rfl
    have z7 := blk_cell gz 7 (v := .int .i64 0) rfl
    have f0 := blk_free gz 0
    have f1 := blk_free gz 1
    have f2 := blk_free gz 2
    have f3 := blk_free gz 3
    have f4 := blk_free gz 4
    have f5 := blk_free gz 5
    have f6 := blk_free gz 6
    have f7 := blk_free gz 7
    have KZ := s8_kp (M := fun q => q = w.heap.size + 1) (w := wr) (b := w.heap.size + 1) (n0 := .slice d1 m.s.store.length e1) (n1 := .slice d2 m.s.tape.length e2) (n2 := .int .i64 m.s.taken) (n3 := .slice d3 m.s.printed.length e3) (n4 := .int .i64 m.s.time) (n5 := .int .i64 m.s.at_) (n6 := .int .i64 m.s.done) (n7 := .int .i64 m.s.why) rfl
    have gV := s8_block (n0 := .slice d1 m.s.store.length e1) (n1 := .slice d2 m.s.tape.length e2) (n2 := .int .i64 m.s.taken) (n3 := .slice d3 m.s.printed.length e3) (n4 := .int .i64 m.s.time) (n5 := .int .i64 m.s.at_) (n6 := .int .i64 m.s.done) (n7 := .int .i64 m.s.why) gz
    unfold S8 at KZ gV
    have EV := EW.below5 KZ (fun q hq => by omega)
    have hFV := hF0.kp KZ (fun q _ hq => .inl (.inr hq))
    clear KZ gz HZ
    go_wp2
    generalize ((((((((wr.setCell ⟨w.heap.size + 1, 0, none⟩ (.slice d1 m.s.store.length e1)).setCell ⟨w.heap.size + 1, 1, none⟩ (.slice d2 m.s.tape.length e2)).setCell ⟨w.heap.size + 1, 2, none⟩ (.int .i64 m.s.taken)).setCell ⟨w.heap.size + 1, 3, none⟩ (.slice d3 m.s.printed.length e3)).setCell ⟨w.heap.size + 1, 4, none⟩ (.int .i64 m.s.time)).setCell ⟨w.heap.size + 1, 5, none⟩ (.int .i64 m.s.at_)).setCell ⟨w.heap.size + 1, 6, none⟩ (.int .i64 m.s.done)).setCell ⟨w.heap.size + 1, 7, none⟩ (.int .i64 m.s.why)) = VV at gV EV hFV ⊢
    have r0 := blk_cell gV 0 (v := .slice d1 m.s.store.length e1) rfl
    have r1 := blk_cell gV 1 (v := .slice d2 m.s.tape.length e2) rfl
    have r2 := blk_cell gV 2 (v := .int .i64 m.s.taken) rfl
    have r3 := blk_cell gV 3 (v := .slice d3 m.s.printed.length e3) rfl
    have r4 := blk_cell gV 4 (v := .int .i64 m.s.time) rfl
    have r5 := blk_cell gV 5 (v := .int .i64 m.s.at_) rfl
    have r6 := blk_cell gV 6 (v := .int .i64 m.s.done) rfl
    have r7 := blk_cell gV 7 (v := .int .i64 m.s.why) rfl
    refine bodyPost_ret (v := .tuple #[.agg #[.slice d1 m.s.store.length e1, .slice d2 m.s.tape.length e2, .int .i64 m.s.taken, .slice d3 m.s.printed.length e3, .int .i64 m.s.time, .int .i64 m.s.at_, .int .i64 m.s.done, .int .i64 m.s.why], .int .i64 (-1), .int .i64 0]) (by simp [results, Tryz.results7, go_sem, r0, r1, r2, r3, r4, r5, r6, r7]) rfl ?_
    unfold GdResF
    rw [HX.out, HG2.out]
    exact ⟨_, rfl, ⟨_, _, _, _, _, _, rfl, hFV.i1.weaken (fun q _ hq => .inl (.inl hq)), hFV.i2.weaken (fun q _ hq => .inl (.inl hq)), hFV.i3.weaken (fun q _ hq => .inl (.inl hq))⟩, EV⟩
 ·have e1 : (er != 0) = true := by simpa using he
  have HX := HB.out
  rw [if_neg he] at HX
  replace HX := Lib.hid HX
  clear HB HGV he i1 i2 i3
  go_enter Tryz.func7, Tryz.ntmps7
  go_upto_region 1 with fail
  (try rw [hX])
  clear hX
  have q0 := blk_cell hP 0 (v := .slice a1 s.store.length k1) rfl
  have q1 := blk_cell hP 1 (v := .slice a2 s.tape.length k2) rfl
  have q2 := blk_cell hP 2 (v := .int .i64 s.taken) rfl
  have q3 := blk_cell hP 3 (v := .slice a3 s.printed.length k3) rfl
  have q4 := blk_cell hP 4 (v := .int .i64 s.time) rfl
  have q5 := blk_cell hP 5 (v := .int .i64 s.at_) rfl
  have q6 := blk_cell hP 6 (v := .int .i64 s.done) rfl
  have q7 := blk_cell hP 7 (v := .int .i64 s.why) rfl
  go_wp2_with fail
  refine (hak _ E0).mono ?_
  rintro e w1 ⟨rfl, E1⟩
  clear q0 q1 q2 q3 q4 q5 q6 q7 hak
  have gz := (E1.block _ (lt_of_block hR)).trans hR
  have E01 := E0.comp E1
  clear hP hR E0 E1
  have z0 := blk_cell gz 0 (v := .slice none 0 0) rfl
  have z1 := blk_cell gz 1 (v := .slice none 0 0) rfl
  have z2 := blk_cell gz 2 (v := .int .i64 0) rfl
  have z3 := blk_cell gz 3 (v := .slice none 0 0) rfl
  have z4 := blk_cell gz 4 (v := .int .i64 0) rfl
  have z5 := blk_cell gz 5 (v := .int .i64 0) rfl
  have z6 := blk_cell gz 6 (v := .int .i64 0) rfl
  have z7 := blk_cell gz 7 (v := .int .i64 0) rfl
  have f0 := blk_free gz 0
  have f1 := blk_free gz 1
  have f2 := blk_free gz 2
  have f3 := blk_free gz 3
  have f4 := blk_free gz 4
  have f5 := blk_free gz 5
  have f6 := blk_free gz 6
  have f7 := blk_free gz 7
  have KZ := s8_kp (M := fun q => q = w.heap.size + 1) (w := w1) (b := w.heap.size + 1) (n0 := .slice none 0 0) (n1 := .slice none 0 0) (n2 := .int .i64 0) (n3 := .slice none 0 0) (n4 := .int .i64 0) (n5 := .int .i64 0) (n6 := .int .i64 0) (n7 := .int .i64 0) rfl
  unfold S8 at KZ
  have EV := E01.below5 KZ (fun q hq => by omega)
  clear KZ
  go_wp2
  refine bodyPost_ret (v := .tuple #[.agg #[.slice none 0 0, .slice none 0 0, .int .i64 0, .slice none 0 0, .int .i64 0, .int .i64 0, .int .i64 0, .int .i64 0], .int .i64 0, .int .i64 er]) (by simp [results, Tryz.results7, go_sem, z0, z1, z2, z3, z4, z5, z6, z7]) rfl ?_
  unfold GdResF
  rw [HX.out]
  exact ⟨_, rfl, ⟨none, none, none, 0, 0, 0, rfl, .inl rfl, .inl rfl, .inl rfl⟩, EV⟩
theorem rblind_any (v : Value) (s : St) (L : List Loss) (la : Option Addr) (n lc : Nat) (most : Int) (w : World) {M0 : Nat → Prop} (hMo : ∀ q, M0 q → q < w.heap.size) (h : StF M0 w v s) (hb : StBd s) (hl : L.length = n) (hlb : n ≤ 9223372036854775807) (hI : LossAt w la L) :
  Calls Tryz.prog 10 #[v, .slice la n lc, .int .i64 most] w (StResF M0 (blindE s L most) w) := by
 have hak := fun W (E : Ext w W) => rasked_any v s la n lc L most W (h.st.ext E) hb hl hlb (hI.ext E)
 obtain ⟨a1, a2, a3, k1, k2, k3, rfl, i1, i2, i3⟩ := h
 have HGV := Lib.hid (fun h => guard_valid (s := s) (L := L) (most := most) h)
 have HB : Hid (blindE s L most = if guardX s L most = 0 then ((blindN L most.toNat (beginL s)).s, 0) else (zst, guardX s L most)) := Lib.hid rfl
 obtain ⟨er, her⟩ : ∃ er, guardX s L most = er := ⟨_, rfl⟩
 rw [her] at hak HGV HB
 have HL := Lib.hid hl
 have HI := Lib.hid hI
 clear her hb hl hI
 unfold sv at hak ⊢
 have hR : ((w.alloc (.cells #[.slice a1 s.store.length k1, .slice a2 s.tape.length k2, .int .i64 s.taken, .slice a3 s.printed.length k3, .int .i64 s.time, .int .i64 s.at_, .int .i64 s.done, .int .i64 s.why] 24)).alloc (.cells #[.slice none 0 0, .slice none 0 0, .int .i64 0, .slice none 0 0, .int .i64 0, .int .i64 0, .int .i64 0, .int .i64 0] 24)).heap[w.heap.size + 1]? = some (.cells #[.slice none 0 0, .slice none 0 0, .int .i64 0, .slice none 0 0, .int .i64 0, .int .i64 0, .int .i64 0, .int .i64 0] 24 (0, 0)) := by
  have e := heap_alloc_new (w.alloc (.cells #[.slice a1 s.store.length k1, .slice a2 s.tape.length k2, .int .i64 s.taken, .slice a3 s.printed.length k3, .int .i64 s.time, .int .i64 s.at_, .int .i64 s.done, .int .i64 s.why] 24)) (.cells #[.slice none 0 0, .slice none 0 0, .int .i64 0, .slice none 0 0, .int .i64 0, .int .i64 0, .int .i64 0, .int .i64 0] 24)
  rw [World.size_alloc] at e
  exact e
 have hP := (Below.heap_alloc (w.alloc (.cells #[.slice a1 s.store.length k1, .slice a2 s.tape.length k2, .int .i64 s.taken, .slice a3 s.printed.length k3, .int .i64 s.time, .int .i64 s.at_, .int .i64 s.done, .int .i64 s.why] 24)) (.cells #[.slice none 0 0, .slice none 0 0, .int .i64 0, .slice none 0 0, .int .i64 0, .int .i64 0, .int .i64 0, .int .i64 0] 24) _ (lt_of_block (heap_alloc_new w (.cells #[.slice a1 s.store.length k1, .slice a2 s.tape.length k2, .int .i64 s.taken, .slice a3 s.printed.length k3, .int .i64 s.time, .int .i64 s.at_, .int .i64 s.done, .int .i64 s.why] 24)))).trans (heap_alloc_new w (.cells #[.slice a1 s.store.length k1, .slice a2 s.tape.length k2, .int .i64 s.taken, .slice a3 s.printed.length k3, .int .i64 s.time, .int .i64 s.at_, .int .i64 s.done, .int .i64 s.why] 24))
 have E0 : Ext w ((w.alloc (.cells #[.slice a1 s.store.length k1, .slice a2 s.tape.length k2, .int .i64 s.taken, .slice a3 s.printed.length k3, .int .i64 s.time, .int .i64 s.at_, .int .i64 s.done, .int .i64 s.why] 24)).alloc (.cells #[.slice none 0 0, .slice none 0 0, .int .i64 0, .slice none 0 0, .int .i64 0, .int .i64 0, .int .i64 0, .int .i64 0] 24)) := ((Ext.refl w).alloc _).alloc _
 have hs0 : w.heap.size + 2 ≤ ((w.alloc (.cells #[.slice a1 s.store.length k1, .slice a2 s.tape.length k2, .int .i64 s.taken, .slice a3 s.printed.length k3, .int .i64 s.time, .int .i64 s.at_, .int .i64 s.done, .int .i64 s.why] 24)).alloc (.cells #[.slice none 0 0, .slice none 0 0, .int .i64 0, .slice none 0 0, .int .i64 0, .int .i64 0, .int .i64 0, .int .i64 0] 24)).heap.size := by simp
 obtain ⟨X, hX⟩ : ∃ X, (w.alloc (.cells #[.slice a1 s.store.length k1, .slice a2 s.tape.length k2, .int .i64 s.taken, .slice a3 s.printed.length k3, .int .i64 s.time, .int .i64 s.at_, .int .i64 s.done, .int .i64 s.why] 24)).alloc (.cells #[.slice none 0 0, .slice none 0 0, .int .i64 0, .slice none 0 0, .int .i64 0, .int .i64 0, .int .i64 0, .int .i64 0] 24) = X := ⟨_, rfl⟩
 rw [hX] at hR hP E0 hs0
 by_cases he : er = 0
 ·subst he
  obtain ⟨hv, hlo, hl40, n0, rfl, hn0⟩ := HGV.out rfl
  have HX := HB.out
  rw [if_pos rfl, Int.toNat_natCast] at HX
  replace HX := Lib.hid HX
  have HV := Lib.hid hv
  have HLO := Lib.hid hlo
  have hn40 : n ≤ 40 := by rw [← HL.out]; exact hl40
  clear HB HGV hv hlo hl40
  go_enter Tryz.func10, Tryz.ntmps10
  go_upto_region 1 with fail
  (try rw [hX])
  clear hX
  have q0 := blk_cell hP 0 (v := .slice a1 s.store.length k1) rfl
  have q1 := blk_cell hP 1 (v := .slice a2 s.tape.length k2) rfl
  have q2 := blk_cell hP 2 (v := .int .i64 s.taken) rfl
  have q3 := blk_cell hP 3 (v := .slice a3 s.printed.length k3) rfl
  have q4 := blk_cell hP 4 (v := .int .i64 s.time) rfl
  have q5 := blk_cell hP 5 (v := .int .i64 s.at_) rfl
  have q6 := blk_cell hP 6 (v := .int .i64 s.done) rfl
  have q7 := blk_cell hP 7 (v := .int .i64 s.why) rfl
  go_wp2_with fail
  refine (hak _ E0).mono ?_
  rintro e w1 ⟨rfl, E1⟩
  clear q0 q1 q2 q3 q4 q5 q6 q7 hak
  have hP1 := (E1.block _ (lt_of_block hP)).trans hP
  have hR1 := (E1.block _ (lt_of_block hR)).trans hR
  have E01 := E0.comp E1
  have hs1 : w.heap.size + 2 ≤ w1.heap.size := by have := E1.size; omega
  have q0 := blk_cell hP1 0 (v := .slice a1 s.store.length k1) rfl
  have q1 := blk_cell hP1 1 (v := .slice a2 s.tape.length k2) rfl
  have q2 := blk_cell hP1 2 (v := .int .i64 s.taken) rfl
  have q3 := blk_cell hP1 3 (v := .slice a3 s.printed.length k3) rfl
  have q4 := blk_cell hP1 4 (v := .int .i64 s.time) rfl
  have q5 := blk_cell hP1 5 (v := .int .i64 s.at_) rfl
  have q6 := blk_cell hP1 6 (v := .int .i64 s.done) rfl
  have q7 := blk_cell hP1 7 (v := .int .i64 s.why) rfl
  go_wp2_with fail
  refine (rbegin10_any (fun q => M0 q ∨ q = w.heap.size + 1) a1 a2 a3 la k1 k2 k3 n lc s w1 (fun q hq => by rcases hq with hq | rfl <;> first | omega | (have := hMo _ hq; omega)) (by omega)).mono ?_
  rintro e w2 ⟨bb, bg, rfl, hbb, hbg, E2⟩
  clear q0 q1 q2 q3 q4 q5 q6 q7 hP hR E0 E1 hs0
  have gM := heap_alloc_new w2 (.cells #[.slice a1 s.store.length k1, .slice a2 s.tape.length k2, .int .i64 s.taken, .slice a3 s.printed.length k3, .int .i64 s.time, .int .i64 s.at_, .int .i64 s.done, .int .i64 s.why, .slice bb 128 128, .slice bg n n] 56)
  have EB := (Ext.refl w2).alloc (.cells #[.slice a1 s.store.length k1, .slice a2 s.tape.length k2, .int .i64 s.taken, .slice a3 s.printed.length k3, .int .i64 s.time, .int .i64 s.at_, .int .i64 s.done, .int .i64 s.why, .slice bb 128 128, .slice bg n n] 56)
  have hR2 := ((E2.comp EB).block _ (lt_of_block hR1)).trans hR1
  have hF2 : MF (fun q => (M0 q ∨ q = w.heap.size + 1) ∨ q = w2.heap.size) (w2.alloc (.cells #[.slice a1 s.store.length k1, .slice a2 s.tape.length k2, .int .i64 s.taken, .slice a3 s.printed.length k3, .int .i64 s.time, .int .i64 s.at_, .int .i64 s.done, .int .i64 s.why, .slice bb 128 128, .slice bg n n] 56)) a1 a2 a3 bb bg s (List.replicate 128 false) (List.replicate n false) := by
   have hI1 := fun (a : Option Addr) (xs : List Int) (i : IntsF M0 w a xs) => (i.weaken (M' := fun q => (M0 q ∨ q = w.heap.size + 1) ∨ q = w2.heap.size) (fun b hb e => by have := E01.size; have := E2.size; rcases e with (e | e) | e <;> first | exact e | (exfalso; omega))).ext (E01.comp (E2.comp EB))
   refine ⟨hI1 _ _ i1, hI1 _ _ i2, hI1 _ _ i3, ?_, ?_⟩
   ·exact (hbb.weaken (M' := fun q => (M0 q ∨ q = w.heap.size + 1) ∨ q = w2.heap.size) (fun q hq hm => hm.resolve_right (by omega))).ext EB
   ·exact (hbg.weaken (M' := fun q => (M0 q ∨ q = w.heap.size + 1) ∨ q = w2.heap.size) (fun q hq hm => hm.resolve_right (by omega))).ext EB
  have E02 := E01.comp (E2.comp EB)
  have hBsz : w.heap.size + 2 ≤ w2.heap.size := by have := E2.size; omega
  have HZs := Lib.hid hR2
  clear hP1 hR1 hR2 E01 E2 EB hbb hbg i1 i2 i3 hs1
  go_upto_region 5 with fail
  have hBs : w2.heap.size < _ := lt_of_block gM
  generalize w2.alloc (.cells #[.slice a1 s.store.length k1, .slice a2 s.tape.length k2, .int .i64 s.taken, .slice a3 s.printed.length k3, .int .i64 s.time, .int .i64 s.at_, .int .i64 s.done, .int .i64 s.why, .slice bb 128 128, .slice bg n n] 56) = V at gM hF2 E02 HZs hBs ⊢
  have hF : MF (fun q => (M0 q ∨ q = w.heap.size + 1) ∨ q = w2.heap.size) V a1 a2 a3 bb bg (beginL s).s (beginL s).bad (goneF L (beginL s).gone) := by
   have e : goneF L (beginL s).gone = List.replicate n false := by
    unfold goneF beginL
    dsimp only
    rw [← HL.out, List.map_const']
   rw [e]
   exact hF2
  obtain ⟨B, hB⟩ : ∃ B, w2.heap.size = B := ⟨_, rfl⟩
  rw [hB] at gM hF hBs hBsz ⊢
  clear hB hF2
  go_wp2_with fail
  go_loopw [10] (fun i wr => ∃ (k : Nat) (m : Lm) (d1 d2 d3 db dg : Option Addr) (e1 e2 e3 eb eg : Nat), k ≤ n0 ∧ i = .int .i64 (k : Int) ∧ Ext w wr ∧ wr.heap[B]? = some (.cells #[.slice d1 m.s.store.length e1, .slice d2 m.s.tape.length e2, .int .i64 m.s.taken, .slice d3 m.s.printed.length e3, .int .i64 m.s.time, .int .i64 m.s.at_, .int .i64 m.s.done, .int .i64 m.s.why, .slice db 128 eb, .slice dg n eg] 56 (0, 0)) ∧ Hid (wr.heap[w.heap.size + 1]? = some (.cells #[.slice none 0 0, .slice none 0 0, .int .i64 0, .slice none 0 0, .int .i64 0, .int .i64 0, .int .i64 0, .int .i64 0] 24 (0, 0))) ∧ Hid (MF (fun q => (M0 q ∨ q = w.heap.size + 1) ∨ q = B) wr d1 d2 d3 db dg m.s m.bad (goneF L m.gone)) ∧ Hid (Valid m.s) ∧ Hid (m.bad.length = 128) ∧ Hid (blindN L n0 (beginL s) = blindN L (n0 - k) m)) (fun i _ => n0 - (Go.RowKit.intOf i).toNat)
  case atStart => exact ⟨0, beginL s, a1, a2, a3, bb, bg, k1, k2, k3, 128, n, Nat.zero_le _, rfl, E02, gM, HZs, Lib.hid hF, HV, Lib.hid (by unfold beginL; simp), Lib.hid rfl⟩
  case round =>
   clear gM HZs hF E02 hBs
   obtain ⟨k, m, d1, d2, d3, db, dg, e1, e2, e3, eb, eg, hk, rfl, EW, hM0, HZ, HF, HVm, HLb, HG⟩ := hrel
   have hBw := lt_of_block hM0
   have c7 := blk_cell hM0 7 (v := .int .i64 m.s.why) rfl
   by_cases hlt : k < n0
   ·have hltz : (k : Int) < (n0 : Int) := by omega
    have hGn := HG.out
    rw [show n0 - k = (n0 - (k + 1)) + 1 by omega] at hGn
    rw [blindN_succ] at hGn
    by_cases hw : m.s.why = 0
    ·have y1 : (m.s.why == 0) = true := by simpa using hw
     rw [if_neg (by rw [hw]; decide)] at hGn
     have hhap := rhappen_any e1 e2 e3 eb n eg lc m.gone (M := fun q => (M0 q ∨ q = w.heap.size + 1) ∨ q = B) (L := L) (la := la) (w := wr) (fun q hq => by rcases hq with (hq | rfl) | rfl <;> first | omega | (have := hMo _ hq; omega)) HF.out HVm.out HLb.out HL.out hn40 (HI.out.ext EW) HLO.out
     rw [show (⟨m.s, m.bad, m.gone⟩ : Lm) = m from rfl] at hhap
     have hxv := hap_valid (L := L) (m := m) HVm.out HLO.out
     have hxw : (hapQ L m).s.why = 0 := by rw [hap_same]; exact hw
     have hxb : (hapQ L m).bad.length = 128 := by
      show ((dueQ L m).foldl lossB m.bad).length = 128
      rw [lossesB_length]; exact HLb.out
     obtain ⟨x, hx⟩ : ∃ x, hapQ L m = x := ⟨_, rfl⟩
     rw [hx] at hhap hxv hxw hxb hGn
     have HXV := Lib.hid hxv
     have HXW := Lib.hid hxw
     have HXB := Lib.hid hxb
     have HGN := Lib.hid hGn
     clear hx hxv hxw hxb hGn hw c7 HVm HLb HF HG
     have q0 := blk_cell hM0 0 (v := .slice d1 m.s.store.length e1) rfl
     have q1 := blk_cell hM0 1 (v := .slice d2 m.s.tape.length e2) rfl
     have q2 := blk_cell hM0 2 (v := .int .i64 m.s.taken) rfl
     have q3 := blk_cell hM0 3 (v := .slice d3 m.s.printed.length e3) rfl
     have q4 := blk_cell hM0 4 (v := .int .i64 m.s.time) rfl
     have q5 := blk_cell hM0 5 (v := .int .i64 m.s.at_) rfl
     have q6 := blk_cell hM0 6 (v := .int .i64 m.s.done) rfl
     have q7 := blk_cell hM0 7 (v := .int .i64 m.s.why) rfl
     have q8 := blk_cell hM0 8 (v := .slice db 128 eb) rfl
     have q9 := blk_cell hM0 9 (v := .slice dg n eg) rfl
     go_wp2_with fail
     refine hhap.mono ?_
     clear hhap
     rintro e w3 ⟨b1, b2, b3, xb, xg, l1, l2, l3, cc, cgg, rfl, hF3, E3⟩
     clear q0 q1 q2 q3 q4 q5 q6 q7 q8 q9
     have hM3 := (E3.block _ (lt_of_block hM0)).trans hM0
     have HZ3 := Lib.hid ((E3.block _ (lt_of_block HZ.out)).trans HZ.out)
     have EW3 := EW.comp E3
     have hB3 : B < w3.heap.size := lt_of_block hM3
     clear HZ EW E3 hM0 hBw
     have HZ := HZ3
     clear HZ3
     have hg := HGN.out
     have HG2 := Lib.hid hg
     clear hg HGN
     have hdo := rdo_any l1 l2 l3 cc n cgg x.gone (M := fun q => (M0 q ∨ q = w.heap.size + 1) ∨ q = B) (fun q hq => by rcases hq with (hq | rfl) | rfl <;> first | omega | (have := hMo _ hq; omega)) hF3 HXV.out HXW.out HXB.out
     rw [show (⟨x.s, x.bad, x.gone⟩ : Lm) = x from rfl] at hdo
     have hyv : Valid (doL x).s := runQ_valid 1 HXV.out
     have hyb : (doL x).bad.length = 128 := by
      unfold doL
      dsimp only
      split
      ·rw [List.length_set]; exact HXB.out
      ·exact HXB.out
     have hyg : (doL x).gone = x.gone := rfl
     obtain ⟨y, hy⟩ : ∃ y, doL x = y := ⟨_, rfl⟩
     rw [hy] at hdo hyv hyb hyg HG2
     have HYV := Lib.hid hyv
     have HYB := Lib.hid hyb
     have HYG := Lib.hid hyg
     clear hy hyv hyb hyg
     go_wp2_with fail
     refine hdo.mono ?_
     clear hdo
     rintro e w6 ⟨u1, u2, u3, ub, ug, v1, v2, v3, vb, vg, rfl, hF6, E6⟩
     have hM6 := (E6.block _ (lt_of_block hM3)).trans hM3
     have HZ6 := Lib.hid ((E6.block _ (lt_of_block HZ.out)).trans HZ.out)
     have EW6 := EW3.comp E6
     have hB6 : B < w6.heap.size := lt_of_block hM6
     rw [← HYG.out] at hF6
     clear HZ
     have HZ := HZ6
     clear HZ6
     have q0 := blk_cell hM6 0 (v := .slice d1 m.s.store.length e1) rfl
     have q1 := blk_cell hM6 1 (v := .slice d2 m.s.tape.length e2) rfl
     have q2 := blk_cell hM6 2 (v := .int .i64 m.s.taken) rfl
     have q3 := blk_cell hM6 3 (v := .slice d3 m.s.printed.length e3) rfl
     have q4 := blk_cell hM6 4 (v := .int .i64 m.s.time) rfl
     have q5 := blk_cell hM6 5 (v := .int .i64 m.s.at_) rfl
     have q6 := blk_cell hM6 6 (v := .int .i64 m.s.done) rfl
     have q7 := blk_cell hM6 7 (v := .int .i64 m.s.why) rfl
     have q8 := blk_cell hM6 8 (v := .slice db 128 eb) rfl
     have q9 := blk_cell hM6 9 (v := .slice dg n eg) rfl
     have f0 := blk_free hM6 0
     have f1 := blk_free hM6 1
     have f2 := blk_free hM6 2
     have f3 := blk_free hM6 3
     have f4 := blk_free hM6 4
     have f5 := blk_free hM6 5
     have f6 := blk_free hM6 6
     have f7 := blk_free hM6 7
     have f8 := blk_free hM6 8
     have f9 := blk_free hM6 9
     have KS := s10_kp (fun q => q = B) w6 B (.slice u1 y.s.store.length v1) (.slice u2 y.s.tape.length v2) (.int .i64 y.s.taken) (.slice u3 y.s.printed.length v3) (.int .i64 y.s.time) (.int .i64 y.s.at_) (.int .i64 y.s.done) (.int .i64 y.s.why) (.slice ub 128 vb) (.slice ug n vg) rfl
     have hM7 := s10_block (.slice u1 y.s.store.length v1) (.slice u2 y.s.tape.length v2) (.int .i64 y.s.taken) (.slice u3 y.s.printed.length v3) (.int .i64 y.s.time) (.int .i64 y.s.at_) (.int .i64 y.s.done) (.int .i64 y.s.why) (.slice ub 128 vb) (.slice ug n vg) hM6
     unfold S10 at KS hM7
     have EW6s := EW6.below5 KS (fun q hq => by omega)
     have HZs := Lib.hid ((KS.block _ (lt_of_block HZ.out) (by omega)).trans HZ.out)
     have hF6s := hF6.kp KS (fun q _ hq => .inr hq)
     have hBs : B < _ := lt_of_block hM7
     clear KS
     go_upto_region 7 with fail
     generalize ((((((((((w6.setCell ⟨B, 0, none⟩ (.slice u1 y.s.store.length v1)).setCell ⟨B, 1, none⟩ (.slice u2 y.s.tape.length v2)).setCell ⟨B, 2, none⟩ (.int .i64 y.s.taken)).setCell ⟨B, 3, none⟩ (.slice u3 y.s.printed.length v3)).setCell ⟨B, 4, none⟩ (.int .i64 y.s.time)).setCell ⟨B, 5, none⟩ (.int .i64 y.s.at_)).setCell ⟨B, 6, none⟩ (.int .i64 y.s.done)).setCell ⟨B, 7, none⟩ (.int .i64 y.s.why)).setCell ⟨B, 8, none⟩ (.slice ub 128 vb)).setCell ⟨B, 9, none⟩ (.slice ug n vg)) = V7 at hM7 EW6s HZs hF6s hBs ⊢
     clear q0 q1 q2 q3 q4 q5 q6 q7 q8 q9 f0 f1 f2 f3 f4 f5 f6 f7 f8 f9 HZ
     have HZ := HZs
     clear HZs
     go_wp2
     go_roundw
     case rel => exact ⟨k + 1, y, u1, u2, u3, ub, ug, v1, v2, v3, vb, vg, by omega, by go_num, EW6s, hM7, HZ, Lib.hid hF6s, HYV, HYB, HG2⟩
     case measure => simp [Go.RowKit.intOf]; omega
    ·have y1 : (m.s.why == 0) = false := by simpa using hw
     rw [if_pos hw] at hGn
     have HG2 := Lib.hid hGn
     clear hGn hw c7
     have q0 := blk_cell hM0 0 (v := .slice d1 m.s.store.length e1) rfl
     have q1 := blk_cell hM0 1 (v := .slice d2 m.s.tape.length e2) rfl
     have q2 := blk_cell hM0 2 (v := .int .i64 m.s.taken) rfl
     have q3 := blk_cell hM0 3 (v := .slice d3 m.s.printed.length e3) rfl
     have q4 := blk_cell hM0 4 (v := .int .i64 m.s.time) rfl
     have q5 := blk_cell hM0 5 (v := .int .i64 m.s.at_) rfl
     have q6 := blk_cell hM0 6 (v := .int .i64 m.s.done) rfl
     have q7 := blk_cell hM0 7 (v := .int .i64 m.s.why) rfl
     have q8 := blk_cell hM0 8 (v := .slice db 128 eb) rfl
     have q9 := blk_cell hM0 9 (v := .slice dg n eg) rfl
     have hF0 := HF.out
     clear HF
     have gz := HZ.out
     have z0 := blk_cell gz 0 (v := .slice none 0 0) rfl
     have z1 := blk_cell gz 1 (v := .slice none 0 0) rfl
     have z2 := blk_cell gz 2 (v := .int .i64 0) rfl
     have z3 := blk_cell gz 3 (v := .slice none 0 0) rfl
     have z4 := blk_cell gz 4 (v := .int .i64 0) rfl
     have z5 := blk_cell gz 5 (v := .int .i64 0) rfl
     have z6 := blk_cell gz 6 (v := .int .i64 0) rfl
     have z7 := blk_cell gz 7 (v := .int .i64 0) rfl
     have f0 := blk_free gz 0
     have f1 := blk_free gz 1
     have f2 := blk_free gz 2
     have f3 := blk_free gz 3
     have f4 := blk_free gz 4
     have f5 := blk_free gz 5
     have f6 := blk_free gz 6
     have f7 := blk_free gz 7
     have KZ := s8_kp (M := fun q => q = w.heap.size + 1) (w := wr) (b := w.heap.size + 1) (n0 := .slice d1 m.s.store.length e1) (n1 := .slice d2 m.s.tape.length e2) (n2 := .int .i64 m.s.taken) (n3 := .slice d3 m.s.printed.length e3) (n4 := .int .i64 m.s.time) (n5 := .int .i64 m.s.at_) (n6 := .int .i64 m.s.done) (n7 := .int .i64 m.s.why) rfl
     have gV := s8_block (n0 := .slice d1 m.s.store.length e1) (n1 := .slice d2 m.s.tape.length e2) (n2 := .int .i64 m.s.taken) (n3 := .slice d3 m.s.printed.length e3) (n4 := .int .i64 m.s.time) (n5 := .int .i64 m.s.at_) (n6 := .int .i64 m.s.done) (n7 := .int .i64 m.s.why) gz
     unfold S8 at KZ gV
     have EV := EW.below5 KZ (fun q hq => by omega)
     have hFV := hF0.kp KZ (fun q _ hq => .inl (.inr hq))
     clear KZ gz HZ
     go_wp2
     generalize ((((((((wr.setCell ⟨w.heap.size + 1, 0, none⟩ (.slice d1 m.s.store.length e1)).setCell ⟨w.heap.size + 1, 1, none⟩ (.slice d2 m.s.tape.length e2)).setCell ⟨w.heap.size + 1, 2, none⟩ (.int .i64 m.s.taken)).setCell ⟨w.heap.size + 1, 3, none⟩ (.slice d3 m.s.printed.length e3)).setCell ⟨w.heap.size + 1, 4, none⟩ (.int .i64 m.s.time)).setCell ⟨w.heap.size + 1, 5, none⟩ (.int .i64 m.s.at_)).setCell ⟨w.heap.size + 1, 6, none⟩ (.int .i64 m.s.done)).setCell ⟨w.heap.size + 1, 7, none⟩ (.int .i64 m.s.why)) = VV at gV EV hFV ⊢
     have r0 := blk_cell gV 0 (v := .slice d1 m.s.store.length e1) rfl
     have r1 := blk_cell gV 1 (v := .slice d2 m.s.tape.length e2) rfl
     have r2 := blk_cell gV 2 (v := .int .i64 m.s.taken) rfl
     have r3 := blk_cell gV 3 (v := .slice d3 m.s.printed.length e3) rfl
     have r4 := blk_cell gV 4 (v := .int .i64 m.s.time) rfl
     have r5 := blk_cell gV 5 (v := .int .i64 m.s.at_) rfl
     have r6 := blk_cell gV 6 (v := .int .i64 m.s.done) rfl
     have r7 := blk_cell gV 7 (v := .int .i64 m.s.why) rfl
     refine bodyPost_ret (v := .tuple #[.agg #[.slice d1 m.s.store.length e1, .slice d2 m.s.tape.length e2, .int .i64 m.s.taken, .slice d3 m.s.printed.length e3, .int .i64 m.s.time, .int .i64 m.s.at_, .int .i64 m.s.done, .int .i64 m.s.why], .int .i64 0]) (by simp [results, Tryz.results10, go_sem, r0, r1, r2, r3, r4, r5, r6, r7]) rfl ?_
     unfold StResF
     rw [HX.out, HG2.out]
     exact ⟨_, rfl, ⟨_, _, _, _, _, _, rfl, hFV.i1.weaken (fun q _ hq => .inl (.inl hq)), hFV.i2.weaken (fun q _ hq => .inl (.inl hq)), hFV.i3.weaken (fun q _ hq => .inl (.inl hq))⟩, EV⟩
   ·have hltz : ¬ (k : Int) < (n0 : Int) := by omega
    have hGn := HG.out
    rw [show n0 - k = 0 by omega] at hGn
    replace hGn : blindN L n0 (beginL s) = m := hGn
    have HG2 := Lib.hid hGn
    clear hGn c7
    have q0 := blk_cell hM0 0 (v := .slice d1 m.s.store.length e1) rfl
    have q1 := blk_cell hM0 1 (v := .slice d2 m.s.tape.length e2) rfl
    have q2 := blk_cell hM0 2 (v := .int .i64 m.s.taken) rfl
    have q3 := blk_cell hM0 3 (v := .slice d3 m.s.printed.length e3) rfl
    have q4 := blk_cell hM0 4 (v := .int .i64 m.s.time) rfl
    have q5 := blk_cell hM0 5 (v := .int .i64 m.s.at_) rfl
    have q6 := blk_cell hM0 6 (v := .int .i64 m.s.done) rfl
    have q7 := blk_cell hM0 7 (v := .int .i64 m.s.why) rfl
    have q8 := blk_cell hM0 8 (v := .slice db 128 eb) rfl
    have q9 := blk_cell hM0 9 (v := .slice dg n eg) rfl
    have hF0 := HF.out
    clear HF
    have gz := HZ.out
    have z0 := blk_cell gz 0 (v := .slice none 0 0) rfl
    have z1 := blk_cell gz 1 (v := .slice none 0 0) rfl
    have z2 := blk_cell gz 2 (v := .int .i64 0) rfl
    have z3 := blk_cell gz 3 (v := .slice none 0 0) rfl
    have z4 := blk_cell gz 4 (v := .int .i64 0) rfl
    have z5 := blk_cell gz 5 (v := .int .i64 0) rfl
    have z6 := blk_cell gz 6 (v := .int .i64 0) rfl
    have z7 := blk_cell gz 7 (v := .int .i64 0) rfl
    have f0 := blk_free gz 0
    have f1 := blk_free gz 1
    have f2 := blk_free gz 2
    have f3 := blk_free gz 3
    have f4 := blk_free gz 4
    have f5 := blk_free gz 5
    have f6 := blk_free gz 6
    have f7 := blk_free gz 7
    have KZ := s8_kp (M := fun q => q = w.heap.size + 1) (w := wr) (b := w.heap.size + 1) (n0 := .slice d1 m.s.store.length e1) (n1 := .slice d2 m.s.tape.length e2) (n2 := .int .i64 m.s.taken) (n3 := .slice d3 m.s.printed.length e3) (n4 := .int .i64 m.s.time) (n5 := .int .i64 m.s.at_) (n6 := .int .i64 m.s.done) (n7 := .int .i64 m.s.why) rfl
    have gV := s8_block (n0 := .slice d1 m.s.store.length e1) (n1 := .slice d2 m.s.tape.length e2) (n2 := .int .i64 m.s.taken) (n3 := .slice d3 m.s.printed.length e3) (n4 := .int .i64 m.s.time) (n5 := .int .i64 m.s.at_) (n6 := .int .i64 m.s.done) (n7 := .int .i64 m.s.why) gz
    unfold S8 at KZ gV
    have EV := EW.below5 KZ (fun q hq => by omega)
    have hFV := hF0.kp KZ (fun q _ hq => .inl (.inr hq))
    clear KZ gz HZ
    go_wp2
    generalize ((((((((wr.setCell ⟨w.heap.size + 1, 0, none⟩ (.slice d1 m.s.store.length e1)).setCell ⟨w.heap.size + 1, 1, none⟩ (.slice d2 m.s.tape.length e2)).setCell ⟨w.heap.size + 1, 2, none⟩ (.int .i64 m.s.taken)).setCell ⟨w.heap.size + 1, 3, none⟩ (.slice d3 m.s.printed.length e3)).setCell ⟨w.heap.size + 1, 4, none⟩ (.int .i64 m.s.time)).setCell ⟨w.heap.size + 1, 5, none⟩ (.int .i64 m.s.at_)).setCell ⟨w.heap.size + 1, 6, none⟩ (.int .i64 m.s.done)).setCell ⟨w.heap.size + 1, 7, none⟩ (.int .i64 m.s.why)) = VV at gV EV hFV ⊢
    have r0 := blk_cell gV 0 (v := .slice d1 m.s.store.length e1) rfl
    have r1 := blk_cell gV 1 (v := .slice d2 m.s.tape.length e2) rfl
    have r2 := blk_cell gV 2 (v := .int .i64 m.s.taken) rfl
    have r3 := blk_cell gV 3 (v := .slice d3 m.s.printed.length e3) rfl
    have r4 := blk_cell gV 4 (v := .int .i64 m.s.time) rfl
    have r5 := blk_cell gV 5 (v := .int .i64 m.s.at_) rfl
    have r6 := blk_cell gV 6 (v := .int .i64 m.s.done) rfl
    have r7 := blk_cell gV 7 (v := .int .i64 m.s.why) rfl
    refine bodyPost_ret (v := .tuple #[.agg #[.slice d1 m.s.store.length e1, .slice d2 m.s.tape.length e2, .int .i64 m.s.taken, .slice d3 m.s.printed.length e3, .int .i64 m.s.time, .int .i64 m.s.at_, .int .i64 m.s.done, .int .i64 m.s.why], .int .i64 0]) (by simp [results, Tryz.results10, go_sem, r0, r1, r2, r3, r4, r5, r6, r7]) rfl ?_
    unfold StResF
    rw [HX.out, HG2.out]
    exact ⟨_, rfl, ⟨_, _, _, _, _, _, rfl, hFV.i1.weaken (fun q _ hq => .inl (.inl hq)), hFV.i2.weaken (fun q _ hq => .inl (.inl hq)), hFV.i3.weaken (fun q _ hq => .inl (.inl hq))⟩, EV⟩
 ·have e1 : (er != 0) = true := by simpa using he
  have HX := HB.out
  rw [if_neg he] at HX
  replace HX := Lib.hid HX
  clear HB HGV he i1 i2 i3
  go_enter Tryz.func10, Tryz.ntmps10
  go_upto_region 1 with fail
  (try rw [hX])
  clear hX
  have q0 := blk_cell hP 0 (v := .slice a1 s.store.length k1) rfl
  have q1 := blk_cell hP 1 (v := .slice a2 s.tape.length k2) rfl
  have q2 := blk_cell hP 2 (v := .int .i64 s.taken) rfl
  have q3 := blk_cell hP 3 (v := .slice a3 s.printed.length k3) rfl
  have q4 := blk_cell hP 4 (v := .int .i64 s.time) rfl
  have q5 := blk_cell hP 5 (v := .int .i64 s.at_) rfl
  have q6 := blk_cell hP 6 (v := .int .i64 s.done) rfl
  have q7 := blk_cell hP 7 (v := .int .i64 s.why) rfl
  go_wp2_with fail
  refine (hak _ E0).mono ?_
  rintro e w1 ⟨rfl, E1⟩
  clear q0 q1 q2 q3 q4 q5 q6 q7 hak
  have gz := (E1.block _ (lt_of_block hR)).trans hR
  have E01 := E0.comp E1
  clear hP hR E0 E1
  have z0 := blk_cell gz 0 (v := .slice none 0 0) rfl
  have z1 := blk_cell gz 1 (v := .slice none 0 0) rfl
  have z2 := blk_cell gz 2 (v := .int .i64 0) rfl
  have z3 := blk_cell gz 3 (v := .slice none 0 0) rfl
  have z4 := blk_cell gz 4 (v := .int .i64 0) rfl
  have z5 := blk_cell gz 5 (v := .int .i64 0) rfl
  have z6 := blk_cell gz 6 (v := .int .i64 0) rfl
  have z7 := blk_cell gz 7 (v := .int .i64 0) rfl
  have f0 := blk_free gz 0
  have f1 := blk_free gz 1
  have f2 := blk_free gz 2
  have f3 := blk_free gz 3
  have f4 := blk_free gz 4
  have f5 := blk_free gz 5
  have f6 := blk_free gz 6
  have f7 := blk_free gz 7
  have KZ := s8_kp (M := fun q => q = w.heap.size + 1) (w := w1) (b := w.heap.size + 1) (n0 := .slice none 0 0) (n1 := .slice none 0 0) (n2 := .int .i64 0) (n3 := .slice none 0 0) (n4 := .int .i64 0) (n5 := .int .i64 0) (n6 := .int .i64 0) (n7 := .int .i64 0) rfl
  unfold S8 at KZ
  have EV := E01.below5 KZ (fun q hq => by omega)
  clear KZ
  go_wp2
  refine bodyPost_ret (v := .tuple #[.agg #[.slice none 0 0, .slice none 0 0, .int .i64 0, .slice none 0 0, .int .i64 0, .int .i64 0, .int .i64 0, .int .i64 0], .int .i64 er]) (by simp [results, Tryz.results10, go_sem, z0, z1, z2, z3, z4, z5, z6, z7]) rfl ?_
  unfold StResF
  rw [HX.out]
  exact ⟨_, rfl, ⟨none, none, none, 0, 0, 0, rfl, .inl rfl, .inl rfl, .inl rfl⟩, EV⟩
end Go.Proofs.YtnhpcoagkmgdoaaGreat
/- Layer 10: Blind again: the lists that it returns lie in blocks of integers. -/
namespace Go.Proofs.YtnhpcoagkmgdoaaGreat
open Go.RowKit Go.Q Go.Shelf Go.Maps
set_option maxHeartbeats 4000000
set_option maxRecDepth 100000
theorem zst_atT (w : World) : StAtT w (.agg #[.slice none 0 0, .slice none 0 0, .int .i64 0, .slice none 0 0, .int .i64 0, .int .i64 0, .int .i64 0, .int .i64 0]) zst := ⟨none, none, none, 0, 0, 0, rfl, .inl rfl, .inl rfl, .inl rfl⟩
theorem stT_setT {V : World} {R : Nat} {v : Value} {z : St} (h : StAtT V v z) (hR : ∃ cs, V.heap[R]? = some (.cells cs 24 (0, 0))) {n0 n1 n2 n3 n4 n5 n6 n7 : Value} : StAtT (S8 V R n0 n1 n2 n3 n4 n5 n6 n7) v z := by
 obtain ⟨a1, a2, a3, c1, c2, c3, rfl, i1, i2, i3⟩ := h
 have KR := s8_kp (M := fun q => q = R) (w := V) (b := R) (n0 := n0) (n1 := n1) (n2 := n2) (n3 := n3) (n4 := n4) (n5 := n5) (n6 := n6) (n7 := n7) rfl
 have hn : ∀ b cs fr, V.heap[b]? = some (.cells cs 3 fr) → ¬ b = R := fun b cs fr hb e => by
  obtain ⟨cs2, h2⟩ := hR
  rw [e, h2] at hb
  cases hb
 exact ⟨a1, a2, a3, c1, c2, c3, rfl, i1.kp KR hn, i2.kp KR hn, i3.kp KR hn⟩
theorem blind_anyT (v : Value) (s : St) (L : List Loss) (la : Option Addr) (ln lc : Nat) (most : Int) (w : World) (h : StAt w v s) (hb : StBd s) (hl : L.length = ln) (hI : LossAt w la L) (hLi : ∀ y ∈ L, -9223372036854775808 ≤ y.after ∧ y.after ≤ 9223372036854775807) :
  Calls Tryz.prog 9 #[v, .slice la ln lc, .int .i64 most] w (StResT (blindE s L most) w) := by
 obtain ⟨a1, a2, a3, c1, c2, c3, rfl, i1, i2, i3⟩ := h
 have hs : StAt w (sv a1 a2 a3 s.store.length c1 s.tape.length c2 s.printed.length c3 s.taken s.time s.at_ s.done s.why) s := ⟨a1, a2, a3, c1, c2, c3, rfl, i1, i2, i3⟩
 have ho := fun W (E : Ext w W) => open_any _ s L la ln lc most W (hs.ext E) hb hl (hI.ext E) hLi
 clear hs hb hl hI hLi i1 i2 i3
 have E0 : Ext w ((w.alloc (.cells #[.slice a1 s.store.length c1, .slice a2 s.tape.length c2, .int .i64 s.taken, .slice a3 s.printed.length c3, .int .i64 s.time, .int .i64 s.at_, .int .i64 s.done, .int .i64 s.why] 24)).alloc (.cells #[.slice none 0 0, .slice none 0 0, .int .i64 0, .slice none 0 0, .int .i64 0, .int .i64 0, .int .i64 0, .int .i64 0] 24)) := ((Ext.refl w).alloc _).alloc _
 have hR : ((w.alloc (.cells #[.slice a1 s.store.length c1, .slice a2 s.tape.length c2, .int .i64 s.taken, .slice a3 s.printed.length c3, .int .i64 s.time, .int .i64 s.at_, .int .i64 s.done, .int .i64 s.why] 24)).alloc (.cells #[.slice none 0 0, .slice none 0 0, .int .i64 0, .slice none 0 0, .int .i64 0, .int .i64 0, .int .i64 0, .int .i64 0] 24)).heap[w.heap.size + 1]? = some (.cells #[.slice none 0 0, .slice none 0 0, .int .i64 0, .slice none 0 0, .int .i64 0, .int .i64 0, .int .i64 0, .int .i64 0] 24 (0, 0)) := by
  have e := heap_alloc_new (w.alloc (.cells #[.slice a1 s.store.length c1, .slice a2 s.tape.length c2, .int .i64 s.taken, .slice a3 s.printed.length c3, .int .i64 s.time, .int .i64 s.at_, .int .i64 s.done, .int .i64 s.why] 24)) (.cells #[.slice none 0 0, .slice none 0 0, .int .i64 0, .slice none 0 0, .int .i64 0, .int .i64 0, .int .i64 0, .int .i64 0] 24)
  rw [World.size_alloc] at e
  exact e
 have hE : guardX s L most = guardX s L most := rfl
 obtain ⟨er, her⟩ : ∃ er, guardX s L most = er := ⟨_, rfl⟩
 have HER := Lib.hid her
 clear hE her
 go_enter Tryz.func9, Tryz.ntmps9
 go_wp2_with fail
 refine (ho _ E0).mono ?_
 rintro e w1 (⟨hx, m, mb, rfl, hm, hmb, hL, E1⟩ | ⟨hx, rfl, E1⟩)
 ·clear ho
  obtain ⟨hv, hLo, hl40, n, rfl, hn⟩ := guard_valid hx
  have hF := Fit.begin hv
  obtain ⟨G, hG⟩ : ∃ G, blindN L n (beginL s) = G := ⟨_, rfl⟩
  have hGF : Fit G := by rw [← hG]; exact blind_fit hLo n _ hF
  have hr := run_shut m mb L (beginL s) n G w1 hL hF hLo hl40 hn hG
  have hsz : w.heap.size + 2 ≤ m ∧ w.heap.size + 2 ≤ mb := by simp at hm hmb; omega
  have HV : Hid (blindE s L (n : Int) = (G.s, 0)) := Lib.hid (by unfold blindE; rw [if_pos hx, Int.toNat_natCast, hG])
  clear hx hL hF hLo hG hm hmb hv
  have HK := Lib.hid hGF
  clear hGF
  go_wp2_with fail
  refine hr.mono ?_
  rintro e w2 ⟨rfl, hz, K2⟩
  have hst := state_any m mb L G w2 hz HK.out.v
  clear hr hz
  go_wp2_with fail
  refine hst.mono ?_
  rintro e w3 ⟨v3, rfl, hT, E3⟩
  clear hst
  have EW : Ext w w3 := ((E0.comp E1).below5 K2 (by rintro b (h | h) <;> omega)).comp E3
  have hR3 : w3.heap[w.heap.size + 1]? = some (.cells #[.slice none 0 0, .slice none 0 0, .int .i64 0, .slice none 0 0, .int .i64 0, .int .i64 0, .int .i64 0, .int .i64 0] 24 (0, 0)) := by
   have h1 := (E1.block _ (lt_of_block hR)).trans hR
   have h2 := (K2.block _ (lt_of_block h1) (by rintro (h | h) <;> omega)).trans h1
   exact (E3.block _ (lt_of_block h2)).trans h2
  have HT := Lib.hid hT
  obtain ⟨p1, p2, p3, d1, d2, d3, rfl, _, _, _⟩ := hT
  obtain ⟨z, hz⟩ : ∃ z, G.s = z := ⟨_, rfl⟩
  rw [hz] at HT ⊢
  have HZ := Lib.hid hz
  clear hz
  have q0 := blk_cell hR3 0 (v := .slice none 0 0) rfl
  have q1 := blk_cell hR3 1 (v := .slice none 0 0) rfl
  have q2 := blk_cell hR3 2 (v := .int .i64 0) rfl
  have q3 := blk_cell hR3 3 (v := .slice none 0 0) rfl
  have q4 := blk_cell hR3 4 (v := .int .i64 0) rfl
  have q5 := blk_cell hR3 5 (v := .int .i64 0) rfl
  have q6 := blk_cell hR3 6 (v := .int .i64 0) rfl
  have q7 := blk_cell hR3 7 (v := .int .i64 0) rfl
  have f0 := blk_free hR3 0
  have f1 := blk_free hR3 1
  have f2 := blk_free hR3 2
  have f3 := blk_free hR3 3
  have f4 := blk_free hR3 4
  have f5 := blk_free hR3 5
  have f6 := blk_free hR3 6
  have f7 := blk_free hR3 7
  go_wp2
  refine bodyPost_ret (v := .tuple #[(.agg #[.slice p1 z.store.length d1, .slice p2 z.tape.length d2, .int .i64 z.taken, .slice p3 z.printed.length d3, .int .i64 z.time, .int .i64 z.at_, .int .i64 z.done, .int .i64 z.why]), .int .i64 0]) (by simp [results, Tryz.results9, go_sem, q0, q1, q2, q3, q4, q5, q6, q7]) rfl ?_
  have hfin := stT_setT HT.out ⟨_, hR3⟩ (n0 := .slice p1 z.store.length d1) (n1 := .slice p2 z.tape.length d2) (n2 := .int .i64 z.taken) (n3 := .slice p3 z.printed.length d3) (n4 := .int .i64 z.time) (n5 := .int .i64 z.at_) (n6 := .int .i64 z.done) (n7 := .int .i64 z.why)
  have KR := s8_kp (M := fun q => q = w.heap.size + 1) (w := w3) (b := w.heap.size + 1) (n0 := .slice p1 z.store.length d1) (n1 := .slice p2 z.tape.length d2) (n2 := .int .i64 z.taken) (n3 := .slice p3 z.printed.length d3) (n4 := .int .i64 z.time) (n5 := .int .i64 z.at_) (n6 := .int .i64 z.done) (n7 := .int .i64 z.why) rfl
  rw [HV.out]
  refine ⟨_, rfl, ?_, EW.below5 KR (fun b hb => by omega)⟩
  simp only [HZ.out]
  exact hfin
 ·clear ho
  have HV : Hid (blindE s L most = (zst, er)) := Lib.hid (by unfold blindE; rw [if_neg hx, HER.out])
  rw [HER.out] at hx
  have hne : (er != 0) = true := by simpa using hx
  rw [HER.out]
  have hR1 := (E1.block _ (lt_of_block hR)).trans hR
  have q0 := blk_cell hR1 0 (v := .slice none 0 0) rfl
  have q1 := blk_cell hR1 1 (v := .slice none 0 0) rfl
  have q2 := blk_cell hR1 2 (v := .int .i64 0) rfl
  have q3 := blk_cell hR1 3 (v := .slice none 0 0) rfl
  have q4 := blk_cell hR1 4 (v := .int .i64 0) rfl
  have q5 := blk_cell hR1 5 (v := .int .i64 0) rfl
  have q6 := blk_cell hR1 6 (v := .int .i64 0) rfl
  have q7 := blk_cell hR1 7 (v := .int .i64 0) rfl
  have f0 := blk_free hR1 0
  have f1 := blk_free hR1 1
  have f2 := blk_free hR1 2
  have f3 := blk_free hR1 3
  have f4 := blk_free hR1 4
  have f5 := blk_free hR1 5
  have f6 := blk_free hR1 6
  have f7 := blk_free hR1 7
  go_wp2
  refine bodyPost_ret (v := .tuple #[(.agg #[.slice none 0 0, .slice none 0 0, .int .i64 0, .slice none 0 0, .int .i64 0, .int .i64 0, .int .i64 0, .int .i64 0]), .int .i64 er]) (by simp [results, Tryz.results9, go_sem, q0, q1, q2, q3, q4, q5, q6, q7]) rfl ?_
  have KR := s8_kp (M := fun q => q = w.heap.size + 1) (w := w1) (b := w.heap.size + 1) (n0 := .slice none 0 0) (n1 := .slice none 0 0) (n2 := .int .i64 0) (n3 := .slice none 0 0) (n4 := .int .i64 0) (n5 := .int .i64 0) (n6 := .int .i64 0) (n7 := .int .i64 0) rfl
  rw [HV.out]
  exact ⟨_, rfl, zst_atT _, (E0.comp E1).below5 KR (fun b hb => by omega)⟩
end Go.Proofs.YtnhpcoagkmgdoaaGreat
/- The law DumpGuards. -/
namespace Go.Proofs.YtnhpcoagkmgdoaaGreat
open Go.RowKit Go.Q Go.Shelf Go.Maps Go.Joins
set_option maxHeartbeats 8000000
set_option maxRecDepth 100000
theorem zst_bd : StBd zst := by unfold zst; exact ⟨by simp, by simp, by simp⟩
theorem guard_bd (s : St) (L : List Loss) (m : Int) : StBd (guardE s L m).1 := by
 unfold guardE
 split
 ·rename_i hx
  obtain ⟨hv, hlo, -, n, -, -⟩ := guard_valid hx
  exact valid_bd (guard_fit hlo _ _ (Fit.begin hv)).v
 ·exact zst_bd
theorem blind_bd (s : St) (L : List Loss) (m : Int) : StBd (blindE s L m).1 := by
 unfold blindE
 split
 ·rename_i hx
  obtain ⟨hv, hlo, -, n, -, -⟩ := guard_valid hx
  exact valid_bd (blind_fit hlo _ _ (Fit.begin hv)).v
 ·exact zst_bd
theorem StAtT.far {w : World} {v : Value} {s : St} (h : StAtT w v s) {M : Nat → Prop} (hM : ∀ q, M q → ∃ cs fr, w.heap[q]? = some (.cells cs 24 fr)) : StF M w v s := by
 have hk : ∀ (a : Option Addr) (xs : List Int), IntsT w a xs → IntsF M w a xs := fun a xs i => by
  rcases i with i | ⟨b, off, cs, fr, ha, hb, hc⟩
  ·exact .inl i
  ·refine .inr ⟨b, off, ha, fun hm => ?_, lt_of_block hb, hc⟩
   obtain ⟨cs2, fr2, h2⟩ := hM b hm
   rw [hb] at h2
   cases h2
 obtain ⟨a1, a2, a3, c1, c2, c3, rfl, i1, i2, i3⟩ := h
 exact ⟨a1, a2, a3, c1, c2, c3, rfl, hk _ _ i1, hk _ _ i2, hk _ _ i3⟩
theorem dumpGuards_any (haw : ∀ w, Calls Tryz.prog 11 #[] w fun e w' => e = .returned (.bool true) ∧ Ext w w') (v : Value) (s : St) (la : Option Addr) (n lc : Nat) (L : List Loss) (most : Int) (w : World) (hS : StAt w v s) (hbs : StBd s) (hl : L.length = n) (hlb : n ≤ 9223372036854775807) (hI : LossAt w la L) (hLi : ∀ y ∈ L, -9223372036854775808 ≤ y.after ∧ y.after ≤ 9223372036854775807) :
  Calls Tryz.prog 3 #[v, .slice la n lc, .int .i64 most] w fun e w' => e = .returned (.bool true) ∧ Ext w w' := by
 have c1 := fun W (E : Ext w W) => guard_any v s L la n lc most W (hS.ext E) hbs hl (hI.ext E) hLi
 have c2 := fun W (E : Ext w W) => rguard_any v s L la n lc most W (M0 := fun q => w.heap.size ≤ q ∧ q < w.heap.size) (fun q hq => by omega) ((StF.of hS (fun b hb e => by omega)).ext E) hbs hl hlb (hI.ext E)
 have c3 := fun W (E : Ext w W) => blind_anyT v s L la n lc most W (hS.ext E) hbs hl (hI.ext E) hLi
 have c4 := fun W (E : Ext w W) => rblind_any v s L la n lc most W (M0 := fun q => w.heap.size ≤ q ∧ q < W.heap.size) (fun q hq => hq.2) ((StF.of hS (fun b hb e => by omega)).ext E) hbs hl hlb (hI.ext E)
 have HUB := guard_bd s L most
 have HBB := blind_bd s L most
 obtain ⟨⟨ut, un, ue⟩, hue⟩ : ∃ p, guardE s L most = p := ⟨_, rfl⟩
 obtain ⟨⟨bt, be⟩, hbe⟩ : ∃ p, blindE s L most = p := ⟨_, rfl⟩
 rw [hue] at c1 c2 HUB
 rw [hbe] at c3 c4 HBB
 unfold GdRes at c1
 unfold GdResF at c2
 unfold StResT at c3
 unfold StResF at c4
 dsimp only at c1 c2 c3 c4 HUB HBB
 replace HUB := Lib.hid HUB
 replace HBB := Lib.hid HBB
 clear hue hbe hl hlb hI hLi hbs
 obtain ⟨a1, a2, a3, k1, k2, k3, rfl, -, -, -⟩ := hS
 unfold sv at c1 c2 c3 c4 ⊢
 have E0 : Ext w (w.alloc (.cells #[.slice a1 s.store.length k1, .slice a2 s.tape.length k2, .int .i64 s.taken, .slice a3 s.printed.length k3, .int .i64 s.time, .int .i64 s.at_, .int .i64 s.done, .int .i64 s.why] 24)) := (Ext.refl w).alloc _
 have g0 := heap_alloc_new w (.cells #[.slice a1 s.store.length k1, .slice a2 s.tape.length k2, .int .i64 s.taken, .slice a3 s.printed.length k3, .int .i64 s.time, .int .i64 s.at_, .int .i64 s.done, .int .i64 s.why] 24)
 obtain ⟨W0, hW0⟩ : ∃ W0, w.alloc (.cells #[.slice a1 s.store.length k1, .slice a2 s.tape.length k2, .int .i64 s.taken, .slice a3 s.printed.length k3, .int .i64 s.time, .int .i64 s.at_, .int .i64 s.done, .int .i64 s.why] 24) = W0 := ⟨_, rfl⟩
 rw [hW0] at E0 g0
 go_enter Tryz.func3, Tryz.ntmps3
 go_upto_region 1 with fail
 (try rw [hW0])
 clear hW0
 have q0 := blk_cell g0 0 (v := .slice a1 s.store.length k1) rfl
 have q1 := blk_cell g0 1 (v := .slice a2 s.tape.length k2) rfl
 have q2 := blk_cell g0 2 (v := .int .i64 s.taken) rfl
 have q3 := blk_cell g0 3 (v := .slice a3 s.printed.length k3) rfl
 have q4 := blk_cell g0 4 (v := .int .i64 s.time) rfl
 have q5 := blk_cell g0 5 (v := .int .i64 s.at_) rfl
 have q6 := blk_cell g0 6 (v := .int .i64 s.done) rfl
 have q7 := blk_cell g0 7 (v := .int .i64 s.why) rfl
 go_wp2_with fail
 refine (c1 _ E0).mono ?_
 rintro e w3 ⟨v', rfl, ⟨x1, x2, x3, n1, n2, n3, rfl, j1, j2, j3⟩, Ew3⟩
 clear q0 q1 q2 q3 q4 q5 q6 q7 c1
 have HG := Lib.hid (fun Y (E : Ext W0 Y) => (E.block _ (lt_of_block g0)).trans g0)
 have gt := heap_alloc_new w3 (.cells #[.slice x1 ut.store.length n1, .slice x2 ut.tape.length n2, .int .i64 ut.taken, .slice x3 ut.printed.length n3, .int .i64 ut.time, .int .i64 ut.at_, .int .i64 ut.done, .int .i64 ut.why] 24)
 have ETw3 := (Ext.refl w3).alloc (.cells #[.slice x1 ut.store.length n1, .slice x2 ut.tape.length n2, .int .i64 ut.taken, .slice x3 ut.printed.length n3, .int .i64 ut.time, .int .i64 ut.at_, .int .i64 ut.done, .int .i64 ut.why] 24)
 have Hw3 := Lib.hid (show StAt w3 (sv x1 x2 x3 ut.store.length n1 ut.tape.length n2 ut.printed.length n3 ut.taken ut.time ut.at_ ut.done ut.why) ut from ⟨x1, x2, x3, n1, n2, n3, rfl, j1, j2, j3⟩)
 clear j1 j2 j3 g0
 go_upto_region 2 with fail
 obtain ⟨X1, hX1⟩ : ∃ X1, w3.alloc (.cells #[.slice x1 ut.store.length n1, .slice x2 ut.tape.length n2, .int .i64 ut.taken, .slice x3 ut.printed.length n3, .int .i64 ut.time, .int .i64 ut.at_, .int .i64 ut.done, .int .i64 ut.why] 24) = X1 := ⟨_, rfl⟩
 rw [hX1] at gt ETw3 ⊢
 have hltb : W0.heap.size ≤ w3.heap.size := Ew3.size
 obtain ⟨tb, htb⟩ : ∃ tb, w3.heap.size = tb := ⟨_, rfl⟩
 rw [htb] at gt hltb ⊢
 clear hX1 htb
 have FX1 := Ew3.comp ETw3
 have g0 := HG.out X1 FX1
 have q0 := blk_cell g0 0 (v := .slice a1 s.store.length k1) rfl
 have q1 := blk_cell g0 1 (v := .slice a2 s.tape.length k2) rfl
 have q2 := blk_cell g0 2 (v := .int .i64 s.taken) rfl
 have q3 := blk_cell g0 3 (v := .slice a3 s.printed.length k3) rfl
 have q4 := blk_cell g0 4 (v := .int .i64 s.time) rfl
 have q5 := blk_cell g0 5 (v := .int .i64 s.at_) rfl
 have q6 := blk_cell g0 6 (v := .int .i64 s.done) rfl
 have q7 := blk_cell g0 7 (v := .int .i64 s.why) rfl
 go_wp2_with fail
 refine (c2 _ (E0.comp FX1)).mono ?_
 rintro e w4 ⟨v', rfl, hy4, Ew4⟩
 replace hy4 := hy4.st
 obtain ⟨y1, y2, y3, o1, o2, o3, rfl, j1, j2, j3⟩ := hy4
 clear q0 q1 q2 q3 q4 q5 q6 q7 c2 g0
 have gu := heap_alloc_new w4 (.cells #[.slice y1 ut.store.length o1, .slice y2 ut.tape.length o2, .int .i64 ut.taken, .slice y3 ut.printed.length o3, .int .i64 ut.time, .int .i64 ut.at_, .int .i64 ut.done, .int .i64 ut.why] 24)
 have ETw4 := (Ext.refl w4).alloc (.cells #[.slice y1 ut.store.length o1, .slice y2 ut.tape.length o2, .int .i64 ut.taken, .slice y3 ut.printed.length o3, .int .i64 ut.time, .int .i64 ut.at_, .int .i64 ut.done, .int .i64 ut.why] 24)
 have Hw4 := Lib.hid (show StAt w4 (sv y1 y2 y3 ut.store.length o1 ut.tape.length o2 ut.printed.length o3 ut.taken ut.time ut.at_ ut.done ut.why) ut from ⟨y1, y2, y3, o1, o2, o3, rfl, j1, j2, j3⟩)
 clear j1 j2 j3
 go_upto_region 3 with fail
 obtain ⟨X2, hX2⟩ : ∃ X2, w4.alloc (.cells #[.slice y1 ut.store.length o1, .slice y2 ut.tape.length o2, .int .i64 ut.taken, .slice y3 ut.printed.length o3, .int .i64 ut.time, .int .i64 ut.at_, .int .i64 ut.done, .int .i64 ut.why] 24) = X2 := ⟨_, rfl⟩
 rw [hX2] at gu ETw4 ⊢
 have hlvb : W0.heap.size ≤ w4.heap.size := (FX1.comp Ew4).size
 obtain ⟨vb, hvb⟩ : ∃ vb, w4.heap.size = vb := ⟨_, rfl⟩
 rw [hvb] at gu hlvb ⊢
 have hq1 : X1.heap.size ≤ vb := by rw [← hvb]; exact Ew4.size
 clear hX2 hvb
 have FX2 := FX1.comp (Ew4.comp ETw4)
 have gt2 := ((Ew4.comp ETw4).block tb (lt_of_block gt)).trans gt
 have hne : tb ≠ vb := by have := lt_of_block gt; omega
 have hWs := E0.size
 have q0 := blk_cell gt2 0 (v := .slice x1 ut.store.length n1) rfl
 have q1 := blk_cell gt2 1 (v := .slice x2 ut.tape.length n2) rfl
 have q2 := blk_cell gt2 2 (v := .int .i64 ut.taken) rfl
 have q3 := blk_cell gt2 3 (v := .slice x3 ut.printed.length n3) rfl
 have q4 := blk_cell gt2 4 (v := .int .i64 ut.time) rfl
 have q5 := blk_cell gt2 5 (v := .int .i64 ut.at_) rfl
 have q6 := blk_cell gt2 6 (v := .int .i64 ut.done) rfl
 have q7 := blk_cell gt2 7 (v := .int .i64 ut.why) rfl
 have r0 := blk_cell gu 0 (v := .slice y1 ut.store.length o1) rfl
 have r1 := blk_cell gu 1 (v := .slice y2 ut.tape.length o2) rfl
 have r2 := blk_cell gu 2 (v := .int .i64 ut.taken) rfl
 have r3 := blk_cell gu 3 (v := .slice y3 ut.printed.length o3) rfl
 have r4 := blk_cell gu 4 (v := .int .i64 ut.time) rfl
 have r5 := blk_cell gu 5 (v := .int .i64 ut.at_) rfl
 have r6 := blk_cell gu 6 (v := .int .i64 ut.done) rfl
 have r7 := blk_cell gu 7 (v := .int .i64 ut.why) rfl
 go_wp2_with fail
 refine (states_same _ _ ut _ (Hw3.out.ext (ETw3.comp (Ew4.comp ETw4))) (Hw4.out.ext ETw4) HUB.out).mono ?_
 rintro e w5 ⟨rfl, E5⟩
 clear q0 q1 q2 q3 q4 q5 q6 q7 r0 r1 r2 r3 r4 r5 r6 r7
 have F5 := FX2.comp E5
 have gt5 := (E5.block tb (lt_of_block gt2)).trans gt2
 have gu5 := (E5.block vb (lt_of_block gu)).trans gu
 have g0 := HG.out w5 F5
 clear gt gt2 gu Hw3 Hw4 FX1 FX2 E5 ETw3 ETw4 Ew3 Ew4 hq1
 have q0 := blk_cell g0 0 (v := .slice a1 s.store.length k1) rfl
 have q1 := blk_cell g0 1 (v := .slice a2 s.tape.length k2) rfl
 have q2 := blk_cell g0 2 (v := .int .i64 s.taken) rfl
 have q3 := blk_cell g0 3 (v := .slice a3 s.printed.length k3) rfl
 have q4 := blk_cell g0 4 (v := .int .i64 s.time) rfl
 have q5 := blk_cell g0 5 (v := .int .i64 s.at_) rfl
 have q6 := blk_cell g0 6 (v := .int .i64 s.done) rfl
 have q7 := blk_cell g0 7 (v := .int .i64 s.why) rfl
 go_wp2_with fail
 refine (c3 _ (E0.comp F5)).mono ?_
 rintro e w6 ⟨v', rfl, hz6, Ew6⟩
 clear q0 q1 q2 q3 q4 q5 q6 q7 g0
 have gt6 := (Ew6.block tb (lt_of_block gt5)).trans gt5
 have gu6 := (Ew6.block vb (lt_of_block gu5)).trans gu5
 have hzF := hz6.far (M := fun q => q = tb ∨ q = vb) (fun q hq => by
  rcases hq with rfl | rfl
  ·exact ⟨_, _, gt6⟩
  ·exact ⟨_, _, gu6⟩)
 obtain ⟨z1, z2, z3, p1, p2, p3, rfl, i1, i2, i3⟩ := hzF
 clear hz6
 have F6 := F5.comp Ew6
 have c0 := blk_cell gt6 0 (v := .slice x1 ut.store.length n1) rfl
 have c1 := blk_cell gt6 1 (v := .slice x2 ut.tape.length n2) rfl
 have c2 := blk_cell gt6 2 (v := .int .i64 ut.taken) rfl
 have c3 := blk_cell gt6 3 (v := .slice x3 ut.printed.length n3) rfl
 have c4 := blk_cell gt6 4 (v := .int .i64 ut.time) rfl
 have c5 := blk_cell gt6 5 (v := .int .i64 ut.at_) rfl
 have c6 := blk_cell gt6 6 (v := .int .i64 ut.done) rfl
 have c7 := blk_cell gt6 7 (v := .int .i64 ut.why) rfl
 have f0 := blk_free gt6 0
 have f1 := blk_free gt6 1
 have f2 := blk_free gt6 2
 have f3 := blk_free gt6 3
 have f4 := blk_free gt6 4
 have f5 := blk_free gt6 5
 have f6 := blk_free gt6 6
 have f7 := blk_free gt6 7
 have KP := s8_kp (M := fun q => q = tb) (w := w6) (b := tb) (n0 := .slice z1 bt.store.length p1) (n1 := .slice z2 bt.tape.length p2) (n2 := .int .i64 bt.taken) (n3 := .slice z3 bt.printed.length p3) (n4 := .int .i64 bt.time) (n5 := .int .i64 bt.at_) (n6 := .int .i64 bt.done) (n7 := .int .i64 bt.why) rfl
 have gt6V := s8_block (n0 := .slice z1 bt.store.length p1) (n1 := .slice z2 bt.tape.length p2) (n2 := .int .i64 bt.taken) (n3 := .slice z3 bt.printed.length p3) (n4 := .int .i64 bt.time) (n5 := .int .i64 bt.at_) (n6 := .int .i64 bt.done) (n7 := .int .i64 bt.why) gt6
 unfold S8 at KP gt6V
 have F6V := F6.below5 KP (fun q hq => by omega)
 have gu6V := (KP.block vb (lt_of_block gu6) (fun e => hne e.symm)).trans gu6
 have hz6V := (show StF (fun q => q = tb ∨ q = vb) w6 (sv z1 z2 z3 bt.store.length p1 bt.tape.length p2 bt.printed.length p3 bt.taken bt.time bt.at_ bt.done bt.why) bt from ⟨z1, z2, z3, p1, p2, p3, rfl, i1, i2, i3⟩).kp KP (fun q _ hq => .inl hq)
 go_upto_region 6 with fail
 generalize ((((((((w6.setCell ⟨tb, 0, none⟩ (.slice z1 bt.store.length p1)).setCell ⟨tb, 1, none⟩ (.slice z2 bt.tape.length p2)).setCell ⟨tb, 2, none⟩ (.int .i64 bt.taken)).setCell ⟨tb, 3, none⟩ (.slice z3 bt.printed.length p3)).setCell ⟨tb, 4, none⟩ (.int .i64 bt.time)).setCell ⟨tb, 5, none⟩ (.int .i64 bt.at_)).setCell ⟨tb, 6, none⟩ (.int .i64 bt.done)).setCell ⟨tb, 7, none⟩ (.int .i64 bt.why)) = V1 at gt6V F6V gu6V hz6V ⊢
 clear c0 c1 c2 c3 c4 c5 c6 c7 f0 f1 f2 f3 f4 f5 f6 f7 KP
 have g0 := HG.out V1 F6V
 have q0 := blk_cell g0 0 (v := .slice a1 s.store.length k1) rfl
 have q1 := blk_cell g0 1 (v := .slice a2 s.tape.length k2) rfl
 have q2 := blk_cell g0 2 (v := .int .i64 s.taken) rfl
 have q3 := blk_cell g0 3 (v := .slice a3 s.printed.length k3) rfl
 have q4 := blk_cell g0 4 (v := .int .i64 s.time) rfl
 have q5 := blk_cell g0 5 (v := .int .i64 s.at_) rfl
 have q6 := blk_cell g0 6 (v := .int .i64 s.done) rfl
 have q7 := blk_cell g0 7 (v := .int .i64 s.why) rfl
 have hVs := lt_of_block gu6V
 have htVs := lt_of_block gt6V
 go_wp2_with fail
 refine (c4 _ (E0.comp F6V)).mono ?_
 rintro e w7 ⟨v', rfl, hy7, Ew7⟩
 clear q0 q1 q2 q3 q4 q5 q6 q7 g0
 have gt7 := (Ew7.block tb (lt_of_block gt6V)).trans gt6V
 have gu7 := (Ew7.block vb (lt_of_block gu6V)).trans gu6V
 have F7 := F6V.comp Ew7
 obtain ⟨s1, s2, s3, m1, m2, m3, rfl, l1, l2, l3⟩ := hy7
 have hz7 := hz6V.ext Ew7
 have c0 := blk_cell gu7 0 (v := .slice y1 ut.store.length o1) rfl
 have c1 := blk_cell gu7 1 (v := .slice y2 ut.tape.length o2) rfl
 have c2 := blk_cell gu7 2 (v := .int .i64 ut.taken) rfl
 have c3 := blk_cell gu7 3 (v := .slice y3 ut.printed.length o3) rfl
 have c4 := blk_cell gu7 4 (v := .int .i64 ut.time) rfl
 have c5 := blk_cell gu7 5 (v := .int .i64 ut.at_) rfl
 have c6 := blk_cell gu7 6 (v := .int .i64 ut.done) rfl
 have c7 := blk_cell gu7 7 (v := .int .i64 ut.why) rfl
 have f0 := blk_free gu7 0
 have f1 := blk_free gu7 1
 have f2 := blk_free gu7 2
 have f3 := blk_free gu7 3
 have f4 := blk_free gu7 4
 have f5 := blk_free gu7 5
 have f6 := blk_free gu7 6
 have f7 := blk_free gu7 7
 have KP := s8_kp (M := fun q => q = vb) (w := w7) (b := vb) (n0 := .slice s1 bt.store.length m1) (n1 := .slice s2 bt.tape.length m2) (n2 := .int .i64 bt.taken) (n3 := .slice s3 bt.printed.length m3) (n4 := .int .i64 bt.time) (n5 := .int .i64 bt.at_) (n6 := .int .i64 bt.done) (n7 := .int .i64 bt.why) rfl
 have gu7V := s8_block (n0 := .slice s1 bt.store.length m1) (n1 := .slice s2 bt.tape.length m2) (n2 := .int .i64 bt.taken) (n3 := .slice s3 bt.printed.length m3) (n4 := .int .i64 bt.time) (n5 := .int .i64 bt.at_) (n6 := .int .i64 bt.done) (n7 := .int .i64 bt.why) gu7
 unfold S8 at KP gu7V
 have F7V := F7.below5 KP (fun q hq => by omega)
 have gt7V := (KP.block tb (lt_of_block gt7) hne).trans gt7
 have hz7V := hz7.kp KP (fun q _ hq => .inr hq)
 have hs7V := (show StF (fun q => w.heap.size ≤ q ∧ q < V1.heap.size) w7 (sv s1 s2 s3 bt.store.length m1 bt.tape.length m2 bt.printed.length m3 bt.taken bt.time bt.at_ bt.done bt.why) bt from ⟨s1, s2, s3, m1, m2, m3, rfl, l1, l2, l3⟩).kp KP (fun q _ hq => by omega)
 go_upto_region 7 with fail
 generalize ((((((((w7.setCell ⟨vb, 0, none⟩ (.slice s1 bt.store.length m1)).setCell ⟨vb, 1, none⟩ (.slice s2 bt.tape.length m2)).setCell ⟨vb, 2, none⟩ (.int .i64 bt.taken)).setCell ⟨vb, 3, none⟩ (.slice s3 bt.printed.length m3)).setCell ⟨vb, 4, none⟩ (.int .i64 bt.time)).setCell ⟨vb, 5, none⟩ (.int .i64 bt.at_)).setCell ⟨vb, 6, none⟩ (.int .i64 bt.done)).setCell ⟨vb, 7, none⟩ (.int .i64 bt.why)) = V2 at gu7V F7V gt7V hz7V hs7V ⊢
 clear c0 c1 c2 c3 c4 c5 c6 c7 f0 f1 f2 f3 f4 f5 f6 f7 KP
 have q0 := blk_cell gt7V 0 (v := .slice z1 bt.store.length p1) rfl
 have q1 := blk_cell gt7V 1 (v := .slice z2 bt.tape.length p2) rfl
 have q2 := blk_cell gt7V 2 (v := .int .i64 bt.taken) rfl
 have q3 := blk_cell gt7V 3 (v := .slice z3 bt.printed.length p3) rfl
 have q4 := blk_cell gt7V 4 (v := .int .i64 bt.time) rfl
 have q5 := blk_cell gt7V 5 (v := .int .i64 bt.at_) rfl
 have q6 := blk_cell gt7V 6 (v := .int .i64 bt.done) rfl
 have q7 := blk_cell gt7V 7 (v := .int .i64 bt.why) rfl
 have r0 := blk_cell gu7V 0 (v := .slice s1 bt.store.length m1) rfl
 have r1 := blk_cell gu7V 1 (v := .slice s2 bt.tape.length m2) rfl
 have r2 := blk_cell gu7V 2 (v := .int .i64 bt.taken) rfl
 have r3 := blk_cell gu7V 3 (v := .slice s3 bt.printed.length m3) rfl
 have r4 := blk_cell gu7V 4 (v := .int .i64 bt.time) rfl
 have r5 := blk_cell gu7V 5 (v := .int .i64 bt.at_) rfl
 have r6 := blk_cell gu7V 6 (v := .int .i64 bt.done) rfl
 have r7 := blk_cell gu7V 7 (v := .int .i64 bt.why) rfl
 go_wp2_with fail
 refine (states_same _ _ bt _ hz7V.st hs7V.st HBB.out).mono ?_
 rintro e w8 ⟨rfl, E8⟩
 clear q0 q1 q2 q3 q4 q5 q6 q7 r0 r1 r2 r3 r4 r5 r6 r7
 go_wp2_with fail
 refine (haw _).mono ?_
 rintro e w9 ⟨rfl, E9⟩
 go_wp2_with fail
 refine bodyPost_ret (v := .bool true) (by simp [results, Tryz.results3, go_sem]) rfl ⟨rfl, E0.comp (F7V.comp (E8.comp E9))⟩
end Go.Proofs.YtnhpcoagkmgdoaaGreat
/- The statement DumpGuards: the row, from the contract of the law's function. -/
namespace Go.Proofs.YtnhpcoagkmgdoaaGreat.dumpGuards
open Go.ChangeShapes Go.WideShapes Go.ChangeAt Go.RowKit Go.Joins Go.Deep Go.Q
set_option linter.unusedVariables false
set_option maxRecDepth 100000 in
theorem lifted (os : Os) (started : os.Started) (H : Type) (enc : TypeId × Value → H) :
  ReturnsInHanded {} Tryz.checked os 3 .any (Rows.dumpGuardsSpec.pre6 enc Tryz.prog Tryz.f3 Rows.dumpGuardsRow.domain false) (Rows.dumpGuardsSpec.post enc Tryz.prog Tryz.f3 false true false false) := by
 refine returnsInHanded_of_change (C := Tryz.checked) rowOwn started (by kernel_rfl) Tryz.func3
  (ChangeSpec.witness6 (enc := enc) (C := Tryz.checked) false ⟨#[], #[.agg #[.slice none 0 0, .slice none 0 0, .int .i64 0, .slice none 0 0, .int .i64 0, .int .i64 0, .int .i64 0, .int .i64 0], .slice none 0 0, .int .i64 0], []⟩ 8 (by kernel_rfl) (by kernel_rfl) (by kernel_rfl) (by kernel_rfl)) ?_
 intro W base args ds gs before hval0 hW hcnd _
 have hval : ∀ (j : Nat) t v, Tryz.f3.params[j]? = some t → args[j]? = some v → Value.okWide Tryz.prog W .any base t v := hval0
 have hW' := hW
 obtain ⟨p, q, hA0, hV, rfl, hfz, hnd⟩ := hW
 have hA : DataW.TrodAll enc Tryz.prog W 0 (fun _ => true) true Tryz.f3.params.toList args.toList ds p := hA0
 rw [Tryz.params3] at hA hval
 obtain ⟨v0, vs0, d0, ds0, p0, q0, hargs, rfl, rfl, h0, r0⟩ := trodAll_cons hA
 obtain ⟨v1, vs1, d1, ds1, p1, q1, rfl, rfl, rfl, h1, r1⟩ := trodAll_cons r0
 obtain ⟨v2, vs2, d2, ds2, p2, q2, rfl, rfl, rfl, h2, r2⟩ := trodAll_cons r1
 obtain ⟨rfl, rfl, rfl⟩ := trodAll_nil r2
 obtain rfl : args = #[v0, v1, v2] := by cases args; simp_all
 obtain ⟨rfl, rfl⟩ := trodVars_none hV
 have k0 := h0
 have lt0 : ∀ x ∈ p0, x.block < W.heap.size := by obtain ⟨m, hm⟩ := k0; exact DataW.trod_lt m _ _ _ hm
 obtain ⟨s0, A0, B0⟩ := state_of_trod (hval 0 24 v0 rfl rfl) h0
 have k1 := h1
 have lt1 : ∀ x ∈ p1, x.block < W.heap.size := by obtain ⟨m, hm⟩ := k1; exact DataW.trod_lt m _ _ _ hm
 obtain ⟨x1, y1, z1, rfl⟩ := okWide_slice Tryz.underlying25 (hval 1 25 v1 rfl rfl)
 obtain ⟨fu1, hf1⟩ := h1
 obtain ⟨a1, c1, l1, ev1, L1, I1, H1⟩ := losses_of_trod (v := .slice x1 y1 z1) (by simpa [Value.cells] using hf1)
 rw [ev1] at k1 hW' ⊢
 obtain ⟨a2, rfl, rfl, rfl, w2⟩ := open_int Tryz.underlying3 (hval 2 3 v2 rfl rfl) h2
 clear hA0 hval0
 refine (dumpGuards_any awake10_any _ s0 a1 _ c1 l1 a2 W A0 B0 rfl L1 I1 H1).mono fun e W' ⟨he, bel⟩ => ?_
 subst he
 exact ⟨_, rfl, _, _, _, [], _, [], hW', trodAll_mk1 (shut_bool Tryz.underlying4 _), (trodAll_cons_mk (Below.trod rowLaid (by kernel_rfl) (of_decide_eq_true (by kernel_rfl)) k0 bel lt0) (trodAll_cons_mk (Below.trod rowLaid (by kernel_rfl) (of_decide_eq_true (by kernel_rfl)) k1 bel lt1) (trodAll_cons_mk (shut_int Tryz.underlying3 w2) trodAll_mk0))), rfl, bel.frame _, fun h => by cases h⟩
theorem closed : joinedFacts Tryz.pinned.checked.prog 3 Tryz.f3 Rows.dumpGuardsSpec Rows.dumpGuardsRow = true := by
 have hm : (Tryz.pinned.checked.prog.make == some Rows.dumpGuardsRow.make) = true := factMake
 unfold joinedFacts
 rw [factEnter, factLifted, hm]
 exact of_decide_eq_true (by kernel_rfl)
theorem over : Rows.dumpGuardsRow.holds Tryz.pinned (OpenSpec.ofChange Rows.dumpGuardsSpec) :=
 OpenClaim.holds_of_wide 3 Tryz.f3 rfl rfl rfl rfl rfl rfl rfl ⟨rfl, rfl, rfl, rfl, rfl⟩ rfl rfl rfl rfl rfl (by kernel_rfl) Tryz.func3 closed
  (of_decide_eq_true (by kernel_rfl)) (by unfold Func.isWrapper; first | (rw [if_pos (by decide +kernel)]; kernel_rfl) | (rw [if_neg (by decide +kernel)]; exact ⟨rfl, rfl⟩))
  (fun os started H enc _ => lifted os started H enc)
theorem proved : Rows.DumpGuardsSaid := over
#print axioms proved
end Go.Proofs.YtnhpcoagkmgdoaaGreat.dumpGuards

/- Contract: OrderNext returns true. -/
import Derived.Test.YtpdkgoeoddeebaaD2
import Derived.Test.YtpdkgoeoddeebaaSpec4f
import Derived.Outline
set_option linter.unusedVariables false
set_option linter.unusedSimpArgs false
namespace Go.Proofs.Ytpdkgoeoddeebaa
open Go.RowKit Go.Q

theorem whenQ_no {o : Ord} {t : Int} (h : ¬ (ordB o = true ∧ inB t 0 1000000000 = true ∧ o.op ≠ 0)) : ∃ er, er ≠ 0 ∧ ∀ ng, whenQ o t ng = (0, 0, er) := by
  by_cases h1 : ordB o = true ∧ inB t 0 1000000000 = true
  · by_cases h2 : o.op = 0
    · exact ⟨2, by decide, fun ng => by simp [whenQ, h1, h2]⟩
    · exact absurd ⟨h1.1, h1.2, h2⟩ h
  · exact ⟨7, by decide, fun ng => by unfold whenQ; rw [if_neg h1]⟩
theorem whenQ_yes {o : Ord} {t : Int} (h1 : ordB o = true) (h2 : inB t 0 1000000000 = true) (h3 : o.op ≠ 0) (ng : Bool) : whenQ o t ng = (whenAt o ng, whenUntil o t ng, 0) := by
  unfold whenQ
  rw [if_pos ⟨h1, h2⟩, if_neg h3]
/-- the order with its addresses later by whole lines -/
def linesOf (o : Ord) (x y z : Int) : Ord := ⟨o.op, (o.frm + 16 * x) % 128, (o.to + 16 * y) % 128, (o.nxt + 16 * z) % 128⟩
theorem lines_ord {o : Ord} (h : ordB o = true) (x y z : Int) : ordB (linesOf o x y z) = true := by
  have := Q.ordB_bd h
  refine Q.ordB_mk ?_
  unfold linesOf
  simp only
  omega
theorem lines_until (o : Ord) (x y z t : Int) (ng : Bool) : whenUntil (linesOf o x y z) t ng = whenUntil o t ng := by
  obtain ⟨a, b, c, d⟩ := o
  have h : ∀ t : Int, Q.after t ((b + 16 * x) % 128) = Q.after t b ∧ Q.after t ((c + 16 * y) % 128) = Q.after t c ∧ Q.after t ((d + 16 * z) % 128) = Q.after t d := fun t => ⟨after_wrap _ _ _, after_wrap _ _ _, after_wrap _ _ _⟩
  have e1 : whenEnd (linesOf ⟨a, b, c, d⟩ x y z) t = whenEnd ⟨a, b, c, d⟩ t := by
    unfold whenEnd linesOf
    simp only [h]
  unfold whenUntil
  rw [e1]
  generalize whenEnd ⟨a, b, c, d⟩ t = u
  unfold whenAt linesOf
  by_cases h5 : a = 5 ∧ ng = true
  · simp only [h5, and_self, if_true]; exact (h u).2.1
  · simp only [h5, if_false]; exact (h u).2.2

set_option maxRecDepth 100000 in
set_option maxHeartbeats 4000000 in
theorem next_no (a b c d t : Int) (x y z : Int) (w : World) (hn : ¬ (ordB ⟨a, b, c, d⟩ = true ∧ inB t 0 1000000000 = true ∧ a ≠ 0)) : Calls Try.prog 16 #[.agg #[.int .i64 a, .int .i64 b, .int .i64 c, .int .i64 d], .int .i64 t, .agg #[.int .u8 x, .int .u8 y, .int .u8 z]] w fun e w' => e = .returned (.bool true) ∧ Ext w w' := by
  obtain ⟨er, he, hq⟩ := whenQ_no hn
  have h1 := fun ng W => whenE_any a b c d t ng W
  unfold v3 at h1
  simp only [hq] at h1
  have he' : (er != 0) = true := by simpa using he
  clear hq hn he
  go_enter Try.func16, Try.ntmps16
  go_wp2_with fail
  go_loopw [7] (fun i wr => i = .int .i64 0 ∧ wr = (w.alloc (.cells #[.int .i64 a, .int .i64 b, .int .i64 c, .int .i64 d] 45)).alloc (.cells #[.int .u8 x, .int .u8 y, .int .u8 z] 62)) (fun _ _ => 0)
  case atStart => exact ⟨rfl, rfl⟩
  case round =>
    obtain ⟨rfl, rfl⟩ := hrel
    go_wp2_with (first | (go_at_call 37; refine (h1 _ _).mono ?_; rintro e w1 ⟨rfl, E1⟩) | (go_at_call 19; refine (awake_any _).mono ?_; rintro e w2 ⟨rfl, E2⟩))
    go_ret
    exact ⟨rfl, E1.old.old.comp E2⟩

set_option maxRecDepth 100000 in
set_option maxHeartbeats 16000000 in
theorem next_yes (a b c d t : Int) (x y z : Int) (w : World) (h1 : ordB ⟨a, b, c, d⟩ = true) (h2 : inB t 0 1000000000 = true) (h3 : a ≠ 0) (hx : 0 ≤ x ∧ x ≤ 255) (hy : 0 ≤ y ∧ y ≤ 255) (hz : 0 ≤ z ∧ z ≤ 255) :
    Calls Try.prog 16 #[.agg #[.int .i64 a, .int .i64 b, .int .i64 c, .int .i64 d], .int .i64 t, .agg #[.int .u8 x, .int .u8 y, .int .u8 z]] w fun e w' => e = .returned (.bool true) ∧ Ext w w' := by
  have g1 := fun ng W => whenE_any a b c d t ng W
  unfold v3 at g1
  simp only [whenQ_yes h1 h2 h3] at g1
  have g2 := fun ng W => whenE_any a ((b + 16 * x) % 128) ((c + 16 * y) % 128) ((d + 16 * z) % 128) t ng W
  have e2 : ∀ ng, whenQ ⟨a, (b + 16 * x) % 128, (c + 16 * y) % 128, (d + 16 * z) % 128⟩ t ng = (whenAt (linesOf ⟨a, b, c, d⟩ x y z) ng, whenUntil ⟨a, b, c, d⟩ t ng, 0) := fun ng => by
    rw [← lines_until ⟨a, b, c, d⟩ x y z t ng]
    exact whenQ_yes (o := linesOf ⟨a, b, c, d⟩ x y z) (lines_ord h1 x y z) h2 h3 ng
  unfold v3 at g2
  simp only [e2] at g2
  clear e2
  have hw := fun ng => until_most ⟨a, b, c, d⟩ t ng
  have hp := fun ng => until_place ⟨a, b, c, d⟩ t ng
  obtain ⟨⟨o0, o1⟩, ⟨f0, f1⟩, ⟨t0, t1⟩, n0, n1⟩ := ordB_bd h1
  obtain ⟨q0, q1⟩ := inB_bd h2
  have hwa : ∀ ng, whenAt ⟨a, b, c, d⟩ ng = if a = 5 ∧ ng = true then c else d := fun ng => rfl
  generalize hA : whenAt ⟨a, b, c, d⟩ = A at *
  generalize hU : whenUntil ⟨a, b, c, d⟩ t = U at *
  generalize whenAt (linesOf ⟨a, b, c, d⟩ x y z) = A2 at *
  clear hA hU h1 h2
  go_enter Try.func16, Try.ntmps16
  go_wp2_with fail
  go_loopw [7] (fun i wr => ∃ k : Nat, k ≤ 2 ∧ i = .int .i64 k ∧ Ext ((w.alloc (.cells #[.int .i64 a, .int .i64 b, .int .i64 c, .int .i64 d] 45)).alloc (.cells #[.int .u8 x, .int .u8 y, .int .u8 z] 62)) wr) (fun i _ => 2 - (intOf i).toNat)
  case atStart => exact ⟨0, by omega, rfl, Ext.refl _⟩
  case round =>
    obtain ⟨k, hk, rfl, E0⟩ := hrel
    obtain rfl | rfl | rfl : k = 0 ∨ k = 1 ∨ k = 2 := by omega
    · have hA0 : A false = d := by rw [hwa]; simp
      have u1 := hw false
      have u2 := hp false
      replace u1 := And.intro (show t + 2 ≤ U false from u1.1) (show (a ≠ 4 → a = 5 ∨ a = 6 ∨ a = 7 → U false ≤ t + 32) ∧ (a = 4 → t + 16 ≤ U false ∧ U false ≤ t + 76) ∧ (a ≠ 4 → a ≠ 5 → a ≠ 6 → a ≠ 7 → t + 3 ≤ U false ∧ U false ≤ t + 48) from u1.2)
      rw [hA0] at u2
      have g1' := fun W => g1 false W
      have g2' := fun W => g2 false W
      clear g1 g2 hw hp hwa
      generalize U false = u at *
      generalize A2 false = v at *
      have hy0 : w.heap.size < wr.heap.size := by have := E0.size; simp at this; omega
      have hy1 : w.heap.size + 1 < wr.heap.size := by have := E0.size; simp at this; omega
      have p0 := box_at (v := .int .i64 a) E0.old 0 rfl
      have p1 := box_at (v := .int .i64 b) E0.old 1 rfl
      have p2 := box_at (v := .int .i64 c) E0.old 2 rfl
      have p3 := box_at (v := .int .i64 d) E0.old 3 rfl
      have r0 := box_at2 (v := .int .u8 x) E0 0 rfl
      have r1 := box_at2 (v := .int .u8 y) E0 1 rfl
      have r2 := box_at2 (v := .int .u8 z) E0 2 rfl
      have hv2 : (u == u) = true := by simp
      have hdd : (d != d) = false := by simp
      have hcc : (c != c) = false := by simp
      rw [hA0] at g1'
      clear hA0
      obtain rfl | rfl | rfl | rfl | rfl | rfl | rfl : a = 1 ∨ a = 2 ∨ a = 3 ∨ a = 4 ∨ a = 5 ∨ a = 6 ∨ a = 7 := by omega
      · skip
        simp at u1
        obtain ⟨u1, u4⟩ := u1
        have u3 := (bne_eq_false_iff_eq.2 u2)
        have v1 : 3 ≤ u - t := by omega
        have v2 : u - t ≤ 48 := by omega
        clear u2
        go_wp2_with fail
        refine (g1' _).mono ?_
        rintro e w1 ⟨rfl, E1⟩
        have E01 := E0.comp E1
        clear p0 p1 p2 p3
        clear r0 r1 r2
        clear hy0 hy1 g1'
        have hz0 : w.heap.size < w1.heap.size := by have := E01.size; simp at this; omega
        have hz1 : w.heap.size + 1 < w1.heap.size := by have := E01.size; simp at this; omega
        have r0 := box_at2 (v := .int .u8 x) E01 0 rfl
        have r1 := box_at2 (v := .int .u8 y) E01 1 rfl
        have r2 := box_at2 (v := .int .u8 z) E01 2 rfl
        have p0 := box_at (v := .int .i64 _) E01.old 0 rfl
        have p1 := box_at (v := .int .i64 b) E01.old 1 rfl
        have p2 := box_at (v := .int .i64 c) E01.old 2 rfl
        have p3 := box_at (v := .int .i64 d) E01.old 3 rfl
        go_wp2_with (go_at_call 37; refine (g2' _).mono ?_; rintro e w2 ⟨rfl, E2⟩)
        all_goals
          go_roundw
          case rel => exact ⟨1, by omega, by go_num, E01.comp E2.old⟩
          case measure => simp [intOf]
      · skip
        simp at u1
        obtain ⟨u1, u4⟩ := u1
        have u3 := (bne_eq_false_iff_eq.2 u2)
        have v1 : 3 ≤ u - t := by omega
        have v2 : u - t ≤ 48 := by omega
        clear u2
        go_wp2_with fail
        refine (g1' _).mono ?_
        rintro e w1 ⟨rfl, E1⟩
        have E01 := E0.comp E1
        clear p0 p1 p2 p3
        clear r0 r1 r2
        clear hy0 hy1 g1'
        have hz0 : w.heap.size < w1.heap.size := by have := E01.size; simp at this; omega
        have hz1 : w.heap.size + 1 < w1.heap.size := by have := E01.size; simp at this; omega
        have r0 := box_at2 (v := .int .u8 x) E01 0 rfl
        have r1 := box_at2 (v := .int .u8 y) E01 1 rfl
        have r2 := box_at2 (v := .int .u8 z) E01 2 rfl
        have p0 := box_at (v := .int .i64 _) E01.old 0 rfl
        have p1 := box_at (v := .int .i64 b) E01.old 1 rfl
        have p2 := box_at (v := .int .i64 c) E01.old 2 rfl
        have p3 := box_at (v := .int .i64 d) E01.old 3 rfl
        go_wp2_with (go_at_call 37; refine (g2' _).mono ?_; rintro e w2 ⟨rfl, E2⟩)
        all_goals
          go_roundw
          case rel => exact ⟨1, by omega, by go_num, E01.comp E2.old⟩
          case measure => simp [intOf]
      · skip
        simp at u1
        obtain ⟨u1, u4⟩ := u1
        have u3 := (bne_eq_false_iff_eq.2 u2)
        have v1 : 3 ≤ u - t := by omega
        have v2 : u - t ≤ 48 := by omega
        clear u2
        go_wp2_with fail
        refine (g1' _).mono ?_
        rintro e w1 ⟨rfl, E1⟩
        have E01 := E0.comp E1
        clear p0 p1 p2 p3
        clear r0 r1 r2
        clear hy0 hy1 g1'
        have hz0 : w.heap.size < w1.heap.size := by have := E01.size; simp at this; omega
        have hz1 : w.heap.size + 1 < w1.heap.size := by have := E01.size; simp at this; omega
        have r0 := box_at2 (v := .int .u8 x) E01 0 rfl
        have r1 := box_at2 (v := .int .u8 y) E01 1 rfl
        have r2 := box_at2 (v := .int .u8 z) E01 2 rfl
        have p0 := box_at (v := .int .i64 _) E01.old 0 rfl
        have p1 := box_at (v := .int .i64 b) E01.old 1 rfl
        have p2 := box_at (v := .int .i64 c) E01.old 2 rfl
        have p3 := box_at (v := .int .i64 d) E01.old 3 rfl
        go_wp2_with (go_at_call 37; refine (g2' _).mono ?_; rintro e w2 ⟨rfl, E2⟩)
        all_goals
          go_roundw
          case rel => exact ⟨1, by omega, by go_num, E01.comp E2.old⟩
          case measure => simp [intOf]
      · skip
        simp at u1
        obtain ⟨u1, u4⟩ := u1
        have u3 := (bne_eq_false_iff_eq.2 u2)
        have v1 : 16 ≤ u - t := by omega
        have v2 : u - t ≤ 76 := by omega
        clear u2
        go_wp2_with fail
        refine (g1' _).mono ?_
        rintro e w1 ⟨rfl, E1⟩
        have E01 := E0.comp E1
        clear p0 p1 p2 p3
        clear r0 r1 r2
        clear hy0 hy1 g1'
        have hz0 : w.heap.size < w1.heap.size := by have := E01.size; simp at this; omega
        have hz1 : w.heap.size + 1 < w1.heap.size := by have := E01.size; simp at this; omega
        have r0 := box_at2 (v := .int .u8 x) E01 0 rfl
        have r1 := box_at2 (v := .int .u8 y) E01 1 rfl
        have r2 := box_at2 (v := .int .u8 z) E01 2 rfl
        have p0 := box_at (v := .int .i64 _) E01.old 0 rfl
        have p1 := box_at (v := .int .i64 b) E01.old 1 rfl
        have p2 := box_at (v := .int .i64 c) E01.old 2 rfl
        have p3 := box_at (v := .int .i64 d) E01.old 3 rfl
        go_wp2_with (go_at_call 37; refine (g2' _).mono ?_; rintro e w2 ⟨rfl, E2⟩)
        all_goals
          go_roundw
          case rel => exact ⟨1, by omega, by go_num, E01.comp E2.old⟩
          case measure => simp [intOf]
      · skip
        simp at u1
        obtain ⟨u1, u4⟩ := u1
        have u3 := (bne_eq_false_iff_eq.2 u2)
        have v1 : 2 ≤ u - t := by omega
        have v2 : u - t ≤ 32 := by omega
        clear u2
        go_wp2_with fail
        refine (g1' _).mono ?_
        rintro e w1 ⟨rfl, E1⟩
        have E01 := E0.comp E1
        clear p0 p1 p2 p3
        clear r0 r1 r2
        clear hy0 hy1 g1'
        have hz0 : w.heap.size < w1.heap.size := by have := E01.size; simp at this; omega
        have hz1 : w.heap.size + 1 < w1.heap.size := by have := E01.size; simp at this; omega
        have r0 := box_at2 (v := .int .u8 x) E01 0 rfl
        have r1 := box_at2 (v := .int .u8 y) E01 1 rfl
        have r2 := box_at2 (v := .int .u8 z) E01 2 rfl
        have p0 := box_at (v := .int .i64 _) E01.old 0 rfl
        have p1 := box_at (v := .int .i64 b) E01.old 1 rfl
        have p2 := box_at (v := .int .i64 c) E01.old 2 rfl
        have p3 := box_at (v := .int .i64 d) E01.old 3 rfl
        go_wp2_with (go_at_call 37; refine (g2' _).mono ?_; rintro e w2 ⟨rfl, E2⟩)
        all_goals
          go_roundw
          case rel => exact ⟨1, by omega, by go_num, E01.comp E2.old⟩
          case measure => simp [intOf]
      · skip
        simp at u1
        obtain ⟨u1, u4⟩ := u1
        have u3 := (bne_eq_false_iff_eq.2 u2)
        have v1 : 2 ≤ u - t := by omega
        have v2 : u - t ≤ 32 := by omega
        clear u2
        go_wp2_with fail
        refine (g1' _).mono ?_
        rintro e w1 ⟨rfl, E1⟩
        have E01 := E0.comp E1
        clear p0 p1 p2 p3
        clear r0 r1 r2
        clear hy0 hy1 g1'
        have hz0 : w.heap.size < w1.heap.size := by have := E01.size; simp at this; omega
        have hz1 : w.heap.size + 1 < w1.heap.size := by have := E01.size; simp at this; omega
        have r0 := box_at2 (v := .int .u8 x) E01 0 rfl
        have r1 := box_at2 (v := .int .u8 y) E01 1 rfl
        have r2 := box_at2 (v := .int .u8 z) E01 2 rfl
        have p0 := box_at (v := .int .i64 _) E01.old 0 rfl
        have p1 := box_at (v := .int .i64 b) E01.old 1 rfl
        have p2 := box_at (v := .int .i64 c) E01.old 2 rfl
        have p3 := box_at (v := .int .i64 d) E01.old 3 rfl
        go_wp2_with (go_at_call 37; refine (g2' _).mono ?_; rintro e w2 ⟨rfl, E2⟩)
        all_goals
          go_roundw
          case rel => exact ⟨1, by omega, by go_num, E01.comp E2.old⟩
          case measure => simp [intOf]
      · skip
        simp at u1
        obtain ⟨u1, u4⟩ := u1
        have u3 := (bne_eq_false_iff_eq.2 u2)
        have v1 : 2 ≤ u - t := by omega
        have v2 : u - t ≤ 32 := by omega
        clear u2
        go_wp2_with fail
        refine (g1' _).mono ?_
        rintro e w1 ⟨rfl, E1⟩
        have E01 := E0.comp E1
        clear p0 p1 p2 p3
        clear r0 r1 r2
        clear hy0 hy1 g1'
        have hz0 : w.heap.size < w1.heap.size := by have := E01.size; simp at this; omega
        have hz1 : w.heap.size + 1 < w1.heap.size := by have := E01.size; simp at this; omega
        have r0 := box_at2 (v := .int .u8 x) E01 0 rfl
        have r1 := box_at2 (v := .int .u8 y) E01 1 rfl
        have r2 := box_at2 (v := .int .u8 z) E01 2 rfl
        have p0 := box_at (v := .int .i64 _) E01.old 0 rfl
        have p1 := box_at (v := .int .i64 b) E01.old 1 rfl
        have p2 := box_at (v := .int .i64 c) E01.old 2 rfl
        have p3 := box_at (v := .int .i64 d) E01.old 3 rfl
        go_wp2_with (go_at_call 37; refine (g2' _).mono ?_; rintro e w2 ⟨rfl, E2⟩)
        all_goals
          go_roundw
          case rel => exact ⟨1, by omega, by go_num, E01.comp E2.old⟩
          case measure => simp [intOf]
    · have hA0 : A true = if a = 5 then c else d := by rw [hwa]; simp
      have u1 := hw true
      have u2 := hp true
      replace u1 := And.intro (show t + 2 ≤ U true from u1.1) (show (a ≠ 4 → a = 5 ∨ a = 6 ∨ a = 7 → U true ≤ t + 32) ∧ (a = 4 → t + 16 ≤ U true ∧ U true ≤ t + 76) ∧ (a ≠ 4 → a ≠ 5 → a ≠ 6 → a ≠ 7 → t + 3 ≤ U true ∧ U true ≤ t + 48) from u1.2)
      rw [hA0] at u2
      have g1' := fun W => g1 true W
      have g2' := fun W => g2 true W
      clear g1 g2 hw hp hwa
      generalize U true = u at *
      generalize A2 true = v at *
      have hy0 : w.heap.size < wr.heap.size := by have := E0.size; simp at this; omega
      have hy1 : w.heap.size + 1 < wr.heap.size := by have := E0.size; simp at this; omega
      have p0 := box_at (v := .int .i64 a) E0.old 0 rfl
      have p1 := box_at (v := .int .i64 b) E0.old 1 rfl
      have p2 := box_at (v := .int .i64 c) E0.old 2 rfl
      have p3 := box_at (v := .int .i64 d) E0.old 3 rfl
      have r0 := box_at2 (v := .int .u8 x) E0 0 rfl
      have r1 := box_at2 (v := .int .u8 y) E0 1 rfl
      have r2 := box_at2 (v := .int .u8 z) E0 2 rfl
      have hv2 : (u == u) = true := by simp
      have hdd : (d != d) = false := by simp
      have hcc : (c != c) = false := by simp
      rw [hA0] at g1'
      clear hA0
      obtain rfl | rfl | rfl | rfl | rfl | rfl | rfl : a = 1 ∨ a = 2 ∨ a = 3 ∨ a = 4 ∨ a = 5 ∨ a = 6 ∨ a = 7 := by omega
      · skip
        simp at u1
        simp only [Int.reduceEq, if_true, if_false] at g1' u2
        obtain ⟨u1, u4⟩ := u1
        have u3 := (bne_eq_false_iff_eq.2 u2)
        have v1 : 3 ≤ u - t := by omega
        have v2 : u - t ≤ 48 := by omega
        clear u2
        go_wp2_with fail
        refine (g1' _).mono ?_
        rintro e w1 ⟨rfl, E1⟩
        have E01 := E0.comp E1
        clear p0 p1 p2 p3
        clear r0 r1 r2
        clear hy0 hy1 g1'
        have hz0 : w.heap.size < w1.heap.size := by have := E01.size; simp at this; omega
        have hz1 : w.heap.size + 1 < w1.heap.size := by have := E01.size; simp at this; omega
        have r0 := box_at2 (v := .int .u8 x) E01 0 rfl
        have r1 := box_at2 (v := .int .u8 y) E01 1 rfl
        have r2 := box_at2 (v := .int .u8 z) E01 2 rfl
        have p0 := box_at (v := .int .i64 _) E01.old 0 rfl
        have p1 := box_at (v := .int .i64 b) E01.old 1 rfl
        have p2 := box_at (v := .int .i64 c) E01.old 2 rfl
        have p3 := box_at (v := .int .i64 d) E01.old 3 rfl
        go_wp2_with (go_at_call 37; refine (g2' _).mono ?_; rintro e w2 ⟨rfl, E2⟩)
        all_goals
          go_roundw
          case rel => exact ⟨2, by omega, by go_num, E01.comp E2.old⟩
          case measure => simp [intOf]
      · skip
        simp at u1
        simp only [Int.reduceEq, if_true, if_false] at g1' u2
        obtain ⟨u1, u4⟩ := u1
        have u3 := (bne_eq_false_iff_eq.2 u2)
        have v1 : 3 ≤ u - t := by omega
        have v2 : u - t ≤ 48 := by omega
        clear u2
        go_wp2_with fail
        refine (g1' _).mono ?_
        rintro e w1 ⟨rfl, E1⟩
        have E01 := E0.comp E1
        clear p0 p1 p2 p3
        clear r0 r1 r2
        clear hy0 hy1 g1'
        have hz0 : w.heap.size < w1.heap.size := by have := E01.size; simp at this; omega
        have hz1 : w.heap.size + 1 < w1.heap.size := by have := E01.size; simp at this; omega
        have r0 := box_at2 (v := .int .u8 x) E01 0 rfl
        have r1 := box_at2 (v := .int .u8 y) E01 1 rfl
        have r2 := box_at2 (v := .int .u8 z) E01 2 rfl
        have p0 := box_at (v := .int .i64 _) E01.old 0 rfl
        have p1 := box_at (v := .int .i64 b) E01.old 1 rfl
        have p2 := box_at (v := .int .i64 c) E01.old 2 rfl
        have p3 := box_at (v := .int .i64 d) E01.old 3 rfl
        go_wp2_with (go_at_call 37; refine (g2' _).mono ?_; rintro e w2 ⟨rfl, E2⟩)
        all_goals
          go_roundw
          case rel => exact ⟨2, by omega, by go_num, E01.comp E2.old⟩
          case measure => simp [intOf]
      · skip
        simp at u1
        simp only [Int.reduceEq, if_true, if_false] at g1' u2
        obtain ⟨u1, u4⟩ := u1
        have u3 := (bne_eq_false_iff_eq.2 u2)
        have v1 : 3 ≤ u - t := by omega
        have v2 : u - t ≤ 48 := by omega
        clear u2
        go_wp2_with fail
        refine (g1' _).mono ?_
        rintro e w1 ⟨rfl, E1⟩
        have E01 := E0.comp E1
        clear p0 p1 p2 p3
        clear r0 r1 r2
        clear hy0 hy1 g1'
        have hz0 : w.heap.size < w1.heap.size := by have := E01.size; simp at this; omega
        have hz1 : w.heap.size + 1 < w1.heap.size := by have := E01.size; simp at this; omega
        have r0 := box_at2 (v := .int .u8 x) E01 0 rfl
        have r1 := box_at2 (v := .int .u8 y) E01 1 rfl
        have r2 := box_at2 (v := .int .u8 z) E01 2 rfl
        have p0 := box_at (v := .int .i64 _) E01.old 0 rfl
        have p1 := box_at (v := .int .i64 b) E01.old 1 rfl
        have p2 := box_at (v := .int .i64 c) E01.old 2 rfl
        have p3 := box_at (v := .int .i64 d) E01.old 3 rfl
        go_wp2_with (go_at_call 37; refine (g2' _).mono ?_; rintro e w2 ⟨rfl, E2⟩)
        all_goals
          go_roundw
          case rel => exact ⟨2, by omega, by go_num, E01.comp E2.old⟩
          case measure => simp [intOf]
      · skip
        simp at u1
        simp only [Int.reduceEq, if_true, if_false] at g1' u2
        obtain ⟨u1, u4⟩ := u1
        have u3 := (bne_eq_false_iff_eq.2 u2)
        have v1 : 16 ≤ u - t := by omega
        have v2 : u - t ≤ 76 := by omega
        clear u2
        go_wp2_with fail
        refine (g1' _).mono ?_
        rintro e w1 ⟨rfl, E1⟩
        have E01 := E0.comp E1
        clear p0 p1 p2 p3
        clear r0 r1 r2
        clear hy0 hy1 g1'
        have hz0 : w.heap.size < w1.heap.size := by have := E01.size; simp at this; omega
        have hz1 : w.heap.size + 1 < w1.heap.size := by have := E01.size; simp at this; omega
        have r0 := box_at2 (v := .int .u8 x) E01 0 rfl
        have r1 := box_at2 (v := .int .u8 y) E01 1 rfl
        have r2 := box_at2 (v := .int .u8 z) E01 2 rfl
        have p0 := box_at (v := .int .i64 _) E01.old 0 rfl
        have p1 := box_at (v := .int .i64 b) E01.old 1 rfl
        have p2 := box_at (v := .int .i64 c) E01.old 2 rfl
        have p3 := box_at (v := .int .i64 d) E01.old 3 rfl
        go_wp2_with (go_at_call 37; refine (g2' _).mono ?_; rintro e w2 ⟨rfl, E2⟩)
        all_goals
          go_roundw
          case rel => exact ⟨2, by omega, by go_num, E01.comp E2.old⟩
          case measure => simp [intOf]
      · skip
        simp at u1
        simp only [Int.reduceEq, if_true, if_false] at g1' u2
        obtain ⟨u1, u4⟩ := u1
        have u3 := (bne_eq_false_iff_eq.2 u2)
        have v1 : 2 ≤ u - t := by omega
        have v2 : u - t ≤ 32 := by omega
        clear u2
        rcases Decidable.em (c = d) with hcd | hcd
        · subst hcd
          go_wp2_with fail
          refine (g1' _).mono ?_
          rintro e w1 ⟨rfl, E1⟩
          have E01 := E0.comp E1
          clear p0 p1 p2 p3
          clear r0 r1 r2
          clear hy0 hy1 g1'
          have hz0 : w.heap.size < w1.heap.size := by have := E01.size; simp at this; omega
          have hz1 : w.heap.size + 1 < w1.heap.size := by have := E01.size; simp at this; omega
          have r0 := box_at2 (v := .int .u8 x) E01 0 rfl
          have r1 := box_at2 (v := .int .u8 y) E01 1 rfl
          have r2 := box_at2 (v := .int .u8 z) E01 2 rfl
          have p0 := box_at (v := .int .i64 _) E01.old 0 rfl
          have p1 := box_at (v := .int .i64 b) E01.old 1 rfl
          have p2 := box_at (v := .int .i64 c) E01.old 2 rfl
          have p3 := box_at (v := .int .i64 c) E01.old 3 rfl
          go_wp2_with (go_at_call 37; refine (g2' _).mono ?_; rintro e w2 ⟨rfl, E2⟩)
          all_goals
            go_roundw
            case rel => exact ⟨2, by omega, by go_num, E01.comp E2.old⟩
            case measure => simp [intOf]
        · have hcd2 : (c != d) = true := by simpa using hcd
          clear hcd
          go_wp2_with fail
          refine (g1' _).mono ?_
          rintro e w1 ⟨rfl, E1⟩
          have E01 := E0.comp E1
          clear p0 p1 p2 p3
          clear r0 r1 r2
          clear hy0 hy1 g1'
          have hz0 : w.heap.size < w1.heap.size := by have := E01.size; simp at this; omega
          have hz1 : w.heap.size + 1 < w1.heap.size := by have := E01.size; simp at this; omega
          have r0 := box_at2 (v := .int .u8 x) E01 0 rfl
          have r1 := box_at2 (v := .int .u8 y) E01 1 rfl
          have r2 := box_at2 (v := .int .u8 z) E01 2 rfl
          have p0 := box_at (v := .int .i64 _) E01.old 0 rfl
          have p1 := box_at (v := .int .i64 b) E01.old 1 rfl
          have p2 := box_at (v := .int .i64 c) E01.old 2 rfl
          have p3 := box_at (v := .int .i64 d) E01.old 3 rfl
          go_wp2_with (go_at_call 37; refine (g2' _).mono ?_; rintro e w2 ⟨rfl, E2⟩)
          all_goals
            go_roundw
            case rel => exact ⟨2, by omega, by go_num, E01.comp E2.old⟩
            case measure => simp [intOf]
      · skip
        simp at u1
        simp only [Int.reduceEq, if_true, if_false] at g1' u2
        obtain ⟨u1, u4⟩ := u1
        have u3 := (bne_eq_false_iff_eq.2 u2)
        have v1 : 2 ≤ u - t := by omega
        have v2 : u - t ≤ 32 := by omega
        clear u2
        go_wp2_with fail
        refine (g1' _).mono ?_
        rintro e w1 ⟨rfl, E1⟩
        have E01 := E0.comp E1
        clear p0 p1 p2 p3
        clear r0 r1 r2
        clear hy0 hy1 g1'
        have hz0 : w.heap.size < w1.heap.size := by have := E01.size; simp at this; omega
        have hz1 : w.heap.size + 1 < w1.heap.size := by have := E01.size; simp at this; omega
        have r0 := box_at2 (v := .int .u8 x) E01 0 rfl
        have r1 := box_at2 (v := .int .u8 y) E01 1 rfl
        have r2 := box_at2 (v := .int .u8 z) E01 2 rfl
        have p0 := box_at (v := .int .i64 _) E01.old 0 rfl
        have p1 := box_at (v := .int .i64 b) E01.old 1 rfl
        have p2 := box_at (v := .int .i64 c) E01.old 2 rfl
        have p3 := box_at (v := .int .i64 d) E01.old 3 rfl
        go_wp2_with (go_at_call 37; refine (g2' _).mono ?_; rintro e w2 ⟨rfl, E2⟩)
        all_goals
          go_roundw
          case rel => exact ⟨2, by omega, by go_num, E01.comp E2.old⟩
          case measure => simp [intOf]
      · skip
        simp at u1
        simp only [Int.reduceEq, if_true, if_false] at g1' u2
        obtain ⟨u1, u4⟩ := u1
        have u3 := (bne_eq_false_iff_eq.2 u2)
        have v1 : 2 ≤ u - t := by omega
        have v2 : u - t ≤ 32 := by omega
        clear u2
        go_wp2_with fail
        refine (g1' _).mono ?_
        rintro e w1 ⟨rfl, E1⟩
        have E01 := E0.comp E1
        clear p0 p1 p2 p3
        clear r0 r1 r2
        clear hy0 hy1 g1'
        have hz0 : w.heap.size < w1.heap.size := by have := E01.size; simp at this; omega
        have hz1 : w.heap.size + 1 < w1.heap.size := by have := E01.size; simp at this; omega
        have r0 := box_at2 (v := .int .u8 x) E01 0 rfl
        have r1 := box_at2 (v := .int .u8 y) E01 1 rfl
        have r2 := box_at2 (v := .int .u8 z) E01 2 rfl
        have p0 := box_at (v := .int .i64 _) E01.old 0 rfl
        have p1 := box_at (v := .int .i64 b) E01.old 1 rfl
        have p2 := box_at (v := .int .i64 c) E01.old 2 rfl
        have p3 := box_at (v := .int .i64 d) E01.old 3 rfl
        go_wp2_with (go_at_call 37; refine (g2' _).mono ?_; rintro e w2 ⟨rfl, E2⟩)
        all_goals
          go_roundw
          case rel => exact ⟨2, by omega, by go_num, E01.comp E2.old⟩
          case measure => simp [intOf]
    · go_wp2_with (go_at_call 19; refine (awake_any _).mono ?_; rintro e w2 ⟨rfl, E2⟩)
      go_ret
      exact ⟨rfl, E0.old.old.comp E2⟩
end Go.Proofs.Ytpdkgoeoddeebaa

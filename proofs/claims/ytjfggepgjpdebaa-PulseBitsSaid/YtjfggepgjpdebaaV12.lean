/- Contract: the reference of layer 5: State. -/
import Derived.Test.YtjfggepgjpdebaaM26
import Derived.Test.YtjfggepgjpdebaaV11
import Derived.Test.YtjfggepgjpdebaaQ22
import Derived.Outline
set_option linter.unusedVariables false
set_option linter.unusedSimpArgs false
namespace Go.Proofs.Ytjfggepgjpdebaa
open Go.RowKit Go.Q

set_option maxRecDepth 100000 in
set_option maxHeartbeats 8000000 in
theorem rstate_long1 (aL a1 a2 a3 : Option Addr) (nL cL n1 c1 n2 c2 n3 c3 : Nat) (b : PuB) (w : World) (h8 : nL ≠ 8) (hn : nL ≤ 9223372036854775807) :
    Calls Try.prog 72 #[pbv aL a1 a2 a3 nL cL n1 c1 n2 c2 n3 c3 b] w fun e w' => e = .returned (.int .i64 3) ∧ Ext w w' := by
  have t1 : ((nL : Int) != 8) = true := by simp; omega
  (try clear h8)
  (try clear h1)
  go_enter Try.func72, Try.ntmps72
  go_wp2_with fail
  go_ret
  exact ⟨rfl, (by repeat (first | with_reducible exact Ext.refl _ | with_reducible refine Ext.alloc ?_ _ | with_reducible refine Below.drew ?_))⟩
set_option maxRecDepth 100000 in
set_option maxHeartbeats 8000000 in
theorem rstate_long2 (aL a1 a2 a3 : Option Addr) (nL cL n1 c1 n2 c2 n3 c3 : Nat) (b : PuB) (w : World) (h8 : nL = 8) (h1 : 0 < n1) (hn : n1 ≤ 9223372036854775807) :
    Calls Try.prog 72 #[pbv aL a1 a2 a3 nL cL n1 c1 n2 c2 n3 c3 b] w fun e w' => e = .returned (.int .i64 3) ∧ Ext w w' := by
  subst h8
  have t2 : (0 : Int) < (n1 : Int) := by omega
  (try clear h8)
  (try clear h1)
  go_enter Try.func72, Try.ntmps72
  go_wp2_with fail
  go_ret
  exact ⟨rfl, (by repeat (first | with_reducible exact Ext.refl _ | with_reducible refine Ext.alloc ?_ _ | with_reducible refine Below.drew ?_))⟩
set_option maxRecDepth 100000 in
set_option maxHeartbeats 8000000 in
theorem rstate_line (aL a1 a2 a3 : Option Addr) (cL c1 n2 c2 n3 c3 : Nat) (b : PuB) (w : World) (h8 : b.lines.length = 8) (iL : LinesAt w aL b.lines) (N0 m : Nat) (hN : N0 < 8) (hlen : ∀ k, k < N0 → (b.lines[k]?.getD []).length = 384) (hm : (b.lines[N0]?.getD []).length = m) (hm3 : m ≠ 384) (hmb : m ≤ 9223372036854775807) :
    Calls Try.prog 72 #[pbv aL a1 a2 a3 8 cL 0 c1 n2 c2 n3 c3 b] w fun e w' => e = .returned (.int .i64 3) ∧ Ext w w' := by
  have tm : ((m : Int) != 384) = true := by simp; omega
  clear hm3
  rcases iL with iL | ⟨bL, off, rfl, hbL, hcL⟩
  · rw [iL] at h8; simp at h8
  have H8 := Lib.hid h8
  have HCL := Lib.hid hcL
  have HLN := Lib.hid hlen
  clear h8 hcL hlen
  have HBB := Lib.hid (Blk.nw w #[.slice (some ⟨bL, off, none⟩) 8 cL, .slice a1 0 c1, .slice a2 n2 c2, .int .i64 b.now.taken, .slice a3 n3 c3, .int .i64 b.now.clock, .int .i64 b.now.at_, .int .i64 b.now.phase, .int .i64 b.now.order, .int .i64 b.now.operand, .int .i64 b.now.other, .int .i64 b.now.product, .int .i64 b.now.count, .int .i64 b.now.done, .int .i64 b.now.why, .int .i64 b.beat, .int .i64 b.carry, .int .i64 b.sum] 50)
  have b0 := HBB.out.c 0 (v := .slice (some ⟨bL, off, none⟩) 8 cL) rfl
  go_enter Try.func72, Try.ntmps72
  go_wp2_with fail
  go_loop [3] (fun i => ∃ k : Nat, k ≤ N0 ∧ i = .int .i64 k) (fun i => N0 - (intOf i).toNat)
  case atStart => exact ⟨0, Nat.zero_le _, rfl⟩
  case round =>
    obtain ⟨k, hk, rfl⟩ := hrel
    by_cases hlt : k < N0
    · have hltz : (k : Int) < 8 := by omega
      obtain ⟨al, cl, hcl, ⟨hk1, hk2⟩, hbl⟩ := HCL.out k (by rw [H8.out]; omega)
      have hl384 : (b.lines[k]?.getD []).length = 384 := HLN.out k hlt
      rw [hl384] at hcl hk1
      have hclr := (((Ext.refl w).alloc (.cells #[.slice (some ⟨bL, off, none⟩) 8 cL, .slice a1 0 c1, .slice a2 n2 c2, .int .i64 b.now.taken, .slice a3 n3 c3, .int .i64 b.now.clock, .int .i64 b.now.at_, .int .i64 b.now.phase, .int .i64 b.now.order, .int .i64 b.now.operand, .int .i64 b.now.other, .int .i64 b.now.product, .int .i64 b.now.count, .int .i64 b.now.done, .int .i64 b.now.why, .int .i64 b.beat, .int .i64 b.carry, .int .i64 b.sum] 50)).cell (p := ⟨bL, off + k, none⟩) hbL).trans hcl
      clear hl384 hbl hcl
      go_wp2_with fail
      go_round
      case rel => exact ⟨k + 1, by omega, by simp⟩
      case measure => simp [intOf]; omega
    · obtain rfl : k = N0 := by omega
      have hltz : (k : Int) < 8 := by omega
      obtain ⟨al, cl, hcl, ⟨hk1, hk2⟩, hbl⟩ := HCL.out k (by rw [H8.out]; omega)
      rw [hm] at hcl hk1
      have hclr := (((Ext.refl w).alloc (.cells #[.slice (some ⟨bL, off, none⟩) 8 cL, .slice a1 0 c1, .slice a2 n2 c2, .int .i64 b.now.taken, .slice a3 n3 c3, .int .i64 b.now.clock, .int .i64 b.now.at_, .int .i64 b.now.phase, .int .i64 b.now.order, .int .i64 b.now.operand, .int .i64 b.now.other, .int .i64 b.now.product, .int .i64 b.now.count, .int .i64 b.now.done, .int .i64 b.now.why, .int .i64 b.beat, .int .i64 b.carry, .int .i64 b.sum] 50)).cell (p := ⟨bL, off + k, none⟩) hbL).trans hcl
      clear hbl hcl hm
      go_wp2_with fail
      go_ret
      exact ⟨rfl, (by repeat (first | with_reducible exact Ext.refl _ | with_reducible refine Ext.alloc ?_ _ | with_reducible refine Below.drew ?_))⟩
set_option maxRecDepth 100000 in
set_option maxHeartbeats 8000000 in
theorem rstate_chk (aL a1 a2 a3 : Option Addr) (cL c1 n2 c2 n3 c3 : Nat) (b : PuB) (w : World) (h8 : b.lines.length = 8) (iL : LinesAt w aL b.lines) (l2 : b.now.tape.length = n2) (l3 : b.now.printed.length = n3) (i2 : IntsAt w a2 b.now.tape) (i3 : IntsAt w a3 b.now.printed) (hlen : ∀ k, k < 8 → (b.lines[k]?.getD []).length = 384) (hb : PuBd (stP b)) (he : (checkP (stP b)).2.2 ≠ 0) :
    Calls Try.prog 72 #[pbv aL a1 a2 a3 8 cL 0 c1 n2 c2 n3 c3 b] w fun e w' => e = .returned (.int .i64 (checkP (stP b)).2.2) ∧ Ext w w' := by
  have hst := fun W (E : Ext w W) => rstore5_any aL cL b.lines W h8 (fun l hl => by obtain ⟨i, hi, rfl⟩ := List.getElem_of_mem hl; have := hlen i (by omega); rw [List.getElem?_eq_getElem hi] at this; exact this) (iL.ext E)
  have hsl : (stP b).store.length = 128 := by show (storeB b.lines).length = 128; rw [storeB_length, h8]
  have HST := Lib.hid hst
  have hpc := fun W v (h : PuAt W v (stP b)) => rcheck5_any v (stP b) W h hb
  unfold v3 at hpc
  generalize checkP (stP b) = p at *
  obtain ⟨p, i, er⟩ := p
  dsimp only at he hpc ⊢
  have hz2 : (er != 0) = true := by simpa using he
  clear he
  have HPC := Lib.hid hpc
  have HPu := Lib.hid (And.intro hsl (And.intro (show (stP b).tape.length = n2 from l2) (show (stP b).printed.length = n3 from l3)))
  have HI2 := Lib.hid (And.intro i2 i3)
  clear hst hpc hsl i2 i3 l2 l3 hb
  rcases iL with iL | ⟨bL, off, rfl, hbL, hcL⟩
  · rw [iL] at h8; simp at h8
  have H8 := Lib.hid h8
  have HCL := Lib.hid hcL
  have HLN := Lib.hid hlen
  clear h8 hcL hlen
  have HBB := Lib.hid (Blk.nw w #[.slice (some ⟨bL, off, none⟩) 8 cL, .slice a1 0 c1, .slice a2 n2 c2, .int .i64 b.now.taken, .slice a3 n3 c3, .int .i64 b.now.clock, .int .i64 b.now.at_, .int .i64 b.now.phase, .int .i64 b.now.order, .int .i64 b.now.operand, .int .i64 b.now.other, .int .i64 b.now.product, .int .i64 b.now.count, .int .i64 b.now.done, .int .i64 b.now.why, .int .i64 b.beat, .int .i64 b.carry, .int .i64 b.sum] 50)
  have b0 := HBB.out.c 0 (v := .slice (some ⟨bL, off, none⟩) 8 cL) rfl
  go_enter Try.func72, Try.ntmps72
  go_wp2_with fail
  go_loop [3] (fun i => ∃ k : Nat, k ≤ 8 ∧ i = .int .i64 k) (fun i => 8 - (intOf i).toNat)
  case atStart => exact ⟨0, Nat.zero_le _, rfl⟩
  case round =>
    obtain ⟨k, hk, rfl⟩ := hrel
    by_cases hlt : k < 8
    · have hltz : (k : Int) < 8 := by omega
      obtain ⟨al, cl, hcl, ⟨hk1, hk2⟩, hbl⟩ := HCL.out k (by rw [H8.out]; omega)
      have hl384 : (b.lines[k]?.getD []).length = 384 := HLN.out k hlt
      rw [hl384] at hcl hk1
      have hclr := (((Ext.refl w).alloc (.cells #[.slice (some ⟨bL, off, none⟩) 8 cL, .slice a1 0 c1, .slice a2 n2 c2, .int .i64 b.now.taken, .slice a3 n3 c3, .int .i64 b.now.clock, .int .i64 b.now.at_, .int .i64 b.now.phase, .int .i64 b.now.order, .int .i64 b.now.operand, .int .i64 b.now.other, .int .i64 b.now.product, .int .i64 b.now.count, .int .i64 b.now.done, .int .i64 b.now.why, .int .i64 b.beat, .int .i64 b.carry, .int .i64 b.sum] 50)).cell (p := ⟨bL, off + k, none⟩) hbL).trans hcl
      clear hl384 hbl hcl
      go_wp2_with fail
      go_round
      case rel => exact ⟨k + 1, by omega, by simp⟩
      case measure => simp [intOf]; omega
    · have hltz : ¬ (k : Int) < 8 := by omega
      obtain rfl : k = 8 := by omega
      have HR := Lib.hid HBB.out.range14
      clear hlt hk
      as_aux_lemma =>
      go_wp2_with (first | (refine wpList_load_mid rfl 41 (.tmp 35) rfl w.heap.size 1 rfl [.slice a1 0 c1, .slice a2 n2 c2, .int .i64 b.now.taken, .slice a3 n3 c3, .int .i64 b.now.clock, .int .i64 b.now.at_, .int .i64 b.now.phase, .int .i64 b.now.order, .int .i64 b.now.operand, .int .i64 b.now.other, .int .i64 b.now.product, .int .i64 b.now.count, .int .i64 b.now.done, .int .i64 b.now.why] _ HR.out Try.underlying41 rfl (by kernel_rfl) ?_) | (go_at_call 73; refine (HST.out _ (by exact ((Ext.refl w).alloc _).alloc _)).mono ?_; rintro e w5 ⟨a5, c5, rfl, ho5, hb5⟩; have nb5 := Blk.of hb5; rw [World.size_alloc] at nb5; have n0 := nb5.c 0 (v := .slice a1 0 c1) rfl; have nf := nb5.f 0; have hI5 := own_put1 ho5 (C := w.heap.size + 1) (i := 0) (by simp) (.slice a5 128 c5); have nb6 := nb5.st 0 (.slice a5 128 c5); have HR6 := Lib.hid (Blk.range (L := [.slice a5 128 c5, .slice a2 n2 c2, .int .i64 b.now.taken, .slice a3 n3 c3, .int .i64 b.now.clock, .int .i64 b.now.at_, .int .i64 b.now.phase, .int .i64 b.now.order, .int .i64 b.now.operand, .int .i64 b.now.other, .int .i64 b.now.product, .int .i64 b.now.count, .int .i64 b.now.done, .int .i64 b.now.why]) nb6); have HB6 := Lib.hid nb6; have HI5 := Lib.hid hI5; have X5 : Ext (w.alloc (.cells #[.slice (some ⟨bL, off, none⟩) 8 cL, .slice a1 0 c1, .slice a2 n2 c2, .int .i64 b.now.taken, .slice a3 n3 c3, .int .i64 b.now.clock, .int .i64 b.now.at_, .int .i64 b.now.phase, .int .i64 b.now.order, .int .i64 b.now.operand, .int .i64 b.now.other, .int .i64 b.now.product, .int .i64 b.now.count, .int .i64 b.now.done, .int .i64 b.now.why, .int .i64 b.beat, .int .i64 b.carry, .int .i64 b.sum] 50)) (w5.setCell ⟨w.heap.size + 1, 0, none⟩ (.slice a5 128 c5)) := (hb5.old).setCell (p := ⟨w.heap.size + 1, 0, none⟩) (by rw [World.size_alloc]; exact Nat.le_refl _) _; clear nb5 hI5 nb6) | (refine wpList_load_mid rfl 41 (.tmp 4) rfl (w.heap.size + 1) 0 rfl [.slice a5 128 c5, .slice a2 n2 c2, .int .i64 b.now.taken, .slice a3 n3 c3, .int .i64 b.now.clock, .int .i64 b.now.at_, .int .i64 b.now.phase, .int .i64 b.now.order, .int .i64 b.now.operand, .int .i64 b.now.other, .int .i64 b.now.product, .int .i64 b.now.count, .int .i64 b.now.done, .int .i64 b.now.why] _ HR6.out Try.underlying41 rfl (by kernel_rfl) ?_) | (go_at_call 46; refine (HPC.out _ _ (puAt_mk (s := stP b) HPu.out.1 HPu.out.2.1 HPu.out.2.2 HI5.out (HI2.out.1.ext (Ext.comp ((Ext.refl w).alloc _) X5)) (HI2.out.2.ext (Ext.comp ((Ext.refl w).alloc _) X5)))).mono ?_; rintro e w6 ⟨rfl, E6⟩; have bA6 := HBB.out.ex (X5.comp E6); have p15 := bA6.c 15 (v := .int .i64 b.beat) rfl; have p16 := bA6.c 16 (v := .int .i64 b.carry) rfl; have p17 := bA6.c 17 (v := .int .i64 b.sum) rfl; clear bA6; have E7 : Ext w w6 := (Ext.comp ((Ext.refl w).alloc _) X5).comp E6))
      go_ret
      exact ⟨rfl, E7⟩
theorem pow24 (k : Nat) (h : k ≤ 24) : 1 ≤ (2 : Int) ^ k ∧ (2 : Int) ^ k ≤ 16777216 := by
  have h1 : (2 : Nat) ^ k ≤ 2 ^ 24 := Nat.pow_le_pow_right (by decide) h
  have h2 : (2 : Nat) ^ 24 = 16777216 := by decide
  have h3 := Nat.two_pow_pos k
  have e := two_pow_cast k
  omega
set_option maxRecDepth 100000 in
set_option maxHeartbeats 8000000 in
theorem rstate_rng (aL a1 a2 a3 : Option Addr) (cL c1 n2 c2 n3 c3 : Nat) (b : PuB) (w : World) (h8 : b.lines.length = 8) (iL : LinesAt w aL b.lines) (l2 : b.now.tape.length = n2) (l3 : b.now.printed.length = n3) (i2 : IntsAt w a2 b.now.tape) (i3 : IntsAt w a3 b.now.printed) (hlen : ∀ k, k < 8 → (b.lines[k]?.getD []).length = 384) (hb : PuBd (stP b)) (he : (checkP (stP b)).2.2 = 0) (er : Int) (hrg : (inB b.beat 0 23 = false ∧ er = 7) ∨ (inB b.beat 0 23 = true ∧ inB b.carry 0 1 = false ∧ er = 7) ∨ (inB b.beat 0 23 = true ∧ inB b.carry 0 1 = true ∧ b.beat = 0 ∧ 0 < b.carry ∧ er = 7) ∨ (inB b.beat 0 23 = true ∧ inB b.carry 0 1 = true ∧ ¬ (b.beat = 0 ∧ 0 < b.carry) ∧ inB b.sum 0 (2 ^ b.beat.toNat - 1) = false ∧ er = 7) ∨ (inB b.beat 0 23 = true ∧ inB b.carry 0 1 = true ∧ ¬ (b.beat = 0 ∧ 0 < b.carry) ∧ inB b.sum 0 (2 ^ b.beat.toNat - 1) = true ∧ er = 0)) :
    Calls Try.prog 72 #[pbv aL a1 a2 a3 8 cL 0 c1 n2 c2 n3 c3 b] w fun e w' => e = .returned (.int .i64 er) ∧ Ext w w' := by
  have HRG := Lib.hid hrg
  clear hrg
  have hin : ∀ (n lo hi : Int) W, Calls Try.prog 67 #[.int .i64 n, .int .i64 lo, .int .i64 hi] W fun e w' => e = .returned (.bool (inB n lo hi)) ∧ w' = W := fun n lo hi W => (rin5_any n lo hi W).mono fun e w' k => ⟨k.1, k.2.symm⟩
  have hst := fun W (E : Ext w W) => rstore5_any aL cL b.lines W h8 (fun l hl => by obtain ⟨i, hi, rfl⟩ := List.getElem_of_mem hl; have := hlen i (by omega); rw [List.getElem?_eq_getElem hi] at this; exact this) (iL.ext E)
  have hsl : (stP b).store.length = 128 := by show (storeB b.lines).length = 128; rw [storeB_length, h8]
  have HST := Lib.hid hst
  have hpc := fun W v (h : PuAt W v (stP b)) => rcheck5_any v (stP b) W h hb
  unfold v3 at hpc
  generalize checkP (stP b) = p at *
  obtain ⟨p, i, ee⟩ := p
  dsimp only at he hpc ⊢
  subst he
  have HPC := Lib.hid hpc
  have HPu := Lib.hid (And.intro hsl (And.intro (show (stP b).tape.length = n2 from l2) (show (stP b).printed.length = n3 from l3)))
  have HI2 := Lib.hid (And.intro i2 i3)
  clear hst hpc hsl i2 i3 l2 l3 hb
  rcases iL with iL | ⟨bL, off, rfl, hbL, hcL⟩
  · rw [iL] at h8; simp at h8
  have H8 := Lib.hid h8
  have HCL := Lib.hid hcL
  have HLN := Lib.hid hlen
  clear h8 hcL hlen
  have HBB := Lib.hid (Blk.nw w #[.slice (some ⟨bL, off, none⟩) 8 cL, .slice a1 0 c1, .slice a2 n2 c2, .int .i64 b.now.taken, .slice a3 n3 c3, .int .i64 b.now.clock, .int .i64 b.now.at_, .int .i64 b.now.phase, .int .i64 b.now.order, .int .i64 b.now.operand, .int .i64 b.now.other, .int .i64 b.now.product, .int .i64 b.now.count, .int .i64 b.now.done, .int .i64 b.now.why, .int .i64 b.beat, .int .i64 b.carry, .int .i64 b.sum] 50)
  have b0 := HBB.out.c 0 (v := .slice (some ⟨bL, off, none⟩) 8 cL) rfl
  go_enter Try.func72, Try.ntmps72
  go_wp2_with fail
  go_loop [3] (fun i => ∃ k : Nat, k ≤ 8 ∧ i = .int .i64 k) (fun i => 8 - (intOf i).toNat)
  case atStart => exact ⟨0, Nat.zero_le _, rfl⟩
  case round =>
    obtain ⟨k, hk, rfl⟩ := hrel
    by_cases hlt : k < 8
    · have hltz : (k : Int) < 8 := by omega
      obtain ⟨al, cl, hcl, ⟨hk1, hk2⟩, hbl⟩ := HCL.out k (by rw [H8.out]; omega)
      have hl384 : (b.lines[k]?.getD []).length = 384 := HLN.out k hlt
      rw [hl384] at hcl hk1
      have hclr := (((Ext.refl w).alloc (.cells #[.slice (some ⟨bL, off, none⟩) 8 cL, .slice a1 0 c1, .slice a2 n2 c2, .int .i64 b.now.taken, .slice a3 n3 c3, .int .i64 b.now.clock, .int .i64 b.now.at_, .int .i64 b.now.phase, .int .i64 b.now.order, .int .i64 b.now.operand, .int .i64 b.now.other, .int .i64 b.now.product, .int .i64 b.now.count, .int .i64 b.now.done, .int .i64 b.now.why, .int .i64 b.beat, .int .i64 b.carry, .int .i64 b.sum] 50)).cell (p := ⟨bL, off + k, none⟩) hbL).trans hcl
      clear hl384 hbl hcl
      go_wp2_with fail
      go_round
      case rel => exact ⟨k + 1, by omega, by simp⟩
      case measure => simp [intOf]; omega
    · have hltz : ¬ (k : Int) < 8 := by omega
      obtain rfl : k = 8 := by omega
      have HR := Lib.hid HBB.out.range14
      clear hlt hk
      as_aux_lemma =>
      go_wp2_with (first | (refine wpList_load_mid rfl 41 (.tmp 35) rfl w.heap.size 1 rfl [.slice a1 0 c1, .slice a2 n2 c2, .int .i64 b.now.taken, .slice a3 n3 c3, .int .i64 b.now.clock, .int .i64 b.now.at_, .int .i64 b.now.phase, .int .i64 b.now.order, .int .i64 b.now.operand, .int .i64 b.now.other, .int .i64 b.now.product, .int .i64 b.now.count, .int .i64 b.now.done, .int .i64 b.now.why] _ HR.out Try.underlying41 rfl (by kernel_rfl) ?_) | (go_at_call 73; refine (HST.out _ (by exact ((Ext.refl w).alloc _).alloc _)).mono ?_; rintro e w5 ⟨a5, c5, rfl, ho5, hb5⟩; have nb5 := Blk.of hb5; rw [World.size_alloc] at nb5; have n0 := nb5.c 0 (v := .slice a1 0 c1) rfl; have nf := nb5.f 0; have hI5 := own_put1 ho5 (C := w.heap.size + 1) (i := 0) (by simp) (.slice a5 128 c5); have nb6 := nb5.st 0 (.slice a5 128 c5); have HR6 := Lib.hid (Blk.range (L := [.slice a5 128 c5, .slice a2 n2 c2, .int .i64 b.now.taken, .slice a3 n3 c3, .int .i64 b.now.clock, .int .i64 b.now.at_, .int .i64 b.now.phase, .int .i64 b.now.order, .int .i64 b.now.operand, .int .i64 b.now.other, .int .i64 b.now.product, .int .i64 b.now.count, .int .i64 b.now.done, .int .i64 b.now.why]) nb6); have HB6 := Lib.hid nb6; have HI5 := Lib.hid hI5; have X5 : Ext (w.alloc (.cells #[.slice (some ⟨bL, off, none⟩) 8 cL, .slice a1 0 c1, .slice a2 n2 c2, .int .i64 b.now.taken, .slice a3 n3 c3, .int .i64 b.now.clock, .int .i64 b.now.at_, .int .i64 b.now.phase, .int .i64 b.now.order, .int .i64 b.now.operand, .int .i64 b.now.other, .int .i64 b.now.product, .int .i64 b.now.count, .int .i64 b.now.done, .int .i64 b.now.why, .int .i64 b.beat, .int .i64 b.carry, .int .i64 b.sum] 50)) (w5.setCell ⟨w.heap.size + 1, 0, none⟩ (.slice a5 128 c5)) := (hb5.old).setCell (p := ⟨w.heap.size + 1, 0, none⟩) (by rw [World.size_alloc]; exact Nat.le_refl _) _; clear nb5 hI5 nb6) | (refine wpList_load_mid rfl 41 (.tmp 4) rfl (w.heap.size + 1) 0 rfl [.slice a5 128 c5, .slice a2 n2 c2, .int .i64 b.now.taken, .slice a3 n3 c3, .int .i64 b.now.clock, .int .i64 b.now.at_, .int .i64 b.now.phase, .int .i64 b.now.order, .int .i64 b.now.operand, .int .i64 b.now.other, .int .i64 b.now.product, .int .i64 b.now.count, .int .i64 b.now.done, .int .i64 b.now.why] _ HR6.out Try.underlying41 rfl (by kernel_rfl) ?_) | (go_at_call 46; refine (HPC.out _ _ (puAt_mk (s := stP b) HPu.out.1 HPu.out.2.1 HPu.out.2.2 HI5.out (HI2.out.1.ext (Ext.comp ((Ext.refl w).alloc _) X5)) (HI2.out.2.ext (Ext.comp ((Ext.refl w).alloc _) X5)))).mono ?_; rintro e w6 ⟨rfl, E6⟩; have bA6 := HBB.out.ex (X5.comp E6); have p15 := bA6.c 15 (v := .int .i64 b.beat) rfl; have p16 := bA6.c 16 (v := .int .i64 b.carry) rfl; have p17 := bA6.c 17 (v := .int .i64 b.sum) rfl; clear bA6; have E7 : Ext w w6 := (Ext.comp ((Ext.refl w).alloc _) X5).comp E6))
      go_loop [8, 9] (fun t i => ∃ k : Nat, k ≤ 24 ∧ (k : Int) ≤ max b.beat 0 ∧ i = .int .i64 k ∧ t = .int .i64 (2 ^ k)) (fun _ i => 24 - (intOf i).toNat)
      case atStart => exact ⟨0, by omega, by omega, rfl, rfl⟩
      case round =>
        obtain ⟨k, hk, hkb, rfl, rfl⟩ := hrel
        obtain ⟨pz, pb⟩ := pow24 k hk
        by_cases hlt : (k : Int) < b.beat
        · by_cases hl2 : k < 24
          · have hl2z : (k : Int) < 24 := by omega
            have hpw : (2 : Int) * 2 ^ k = 2 ^ (k + 1) := by rw [Int.pow_succ]; omega
            have HPW := Lib.hid hpw
            clear hpw
            go_wp2_with fail
            go_round
            case rel => exact ⟨k + 1, by omega, by omega, by simp, by rw [HPW.out]⟩
            case measure => simp [intOf]; omega
          · have hl2z : ¬ (k : Int) < 24 := by omega
            have r1 : inB b.beat 0 23 = false := by unfold inB; simp; omega
            obtain ⟨_, rfl⟩ | h | h | h | h := HRG.out
            · have h1 := fun W => hin b.beat 0 23 W
              rw [r1] at h1
              clear r1
              go_wp2_with (go_at_call 67; refine (h1 _).mono ?_; rintro e wy ⟨rfl, rfl⟩)
              go_ret
              exact ⟨rfl, E7⟩
            · rw [h.1] at r1; cases r1
            · rw [h.1] at r1; cases r1
            · rw [h.1] at r1; cases r1
            · rw [h.1] at r1; cases r1
        · have hlz : ¬ (k : Int) < b.beat := hlt
          have hpe : inB b.beat 0 23 = true → (2 : Int) ^ b.beat.toNat = 2 ^ k := fun h => by
            unfold inB at h
            simp only [Bool.and_eq_true, decide_eq_true_eq] at h
            congr 1; omega
          have HPE := Lib.hid hpe
          clear hpe
          have hcc := HRG.out
          obtain ⟨r1, rfl⟩ | ⟨r1, r2, rfl⟩ | ⟨r1, r2, r3, r4, rfl⟩ | ⟨r1, r2, r3, r4, rfl⟩ | ⟨r1, r2, r3, r4, rfl⟩ := hcc
          · have h1 := fun W => hin b.beat 0 23 W
            rw [r1] at h1
            clear r1
            go_wp2_with (go_at_call 67; refine (h1 _).mono ?_; rintro e wy ⟨rfl, rfl⟩)
            go_ret
            exact ⟨rfl, E7⟩
          · have h1 := fun W => hin b.beat 0 23 W
            have h2 := fun W => hin b.carry 0 1 W
            rw [r1] at h1
            rw [r2] at h2
            clear r1 r2
            go_wp2_with (go_at_call 67; first | ((with_reducible refine (h1 _).mono ?_); rintro e wy ⟨rfl, rfl⟩) | ((with_reducible refine (h2 _).mono ?_); rintro e wy ⟨rfl, rfl⟩))
            go_ret
            exact ⟨rfl, E7⟩
          · have h1 := fun W => hin b.beat 0 23 W
            have h2 := fun W => hin b.carry 0 1 W
            rw [r1] at h1
            rw [r2] at h2
            have t3 : (b.beat == 0) = true := by simpa using r3
            have t4 : (0 : Int) < b.carry := r4
            clear r1 r2 r3 hkb
            go_wp2_with (go_at_call 67; first | ((with_reducible refine (h1 _).mono ?_); rintro e wy ⟨rfl, rfl⟩) | ((with_reducible refine (h2 _).mono ?_); rintro e wy ⟨rfl, rfl⟩))
            go_ret
            exact ⟨rfl, E7⟩
          · have h1 := fun W => hin b.beat 0 23 W
            have h2 := fun W => hin b.carry 0 1 W
            have h3 := fun W => hin b.sum 0 (2 ^ k - 1) W
            rw [← HPE.out r1, r4] at h3
            rw [HPE.out r1] at h3
            rw [r1] at h1
            rw [r2] at h2
            clear r1 r2 r4
            by_cases hz : b.beat = 0
            · have t3 : (b.beat == 0) = true := by simpa using hz
              have t4 : ¬ (0 : Int) < b.carry := fun c => r3 ⟨hz, c⟩
              clear r3 hz hkb
              go_wp2_with (go_at_call 67; first | ((with_reducible refine (h1 _).mono ?_); rintro e wy ⟨rfl, rfl⟩) | ((with_reducible refine (h2 _).mono ?_); rintro e wy ⟨rfl, rfl⟩) | ((with_reducible refine (h3 _).mono ?_); rintro e wy ⟨rfl, rfl⟩))
              go_ret
              exact ⟨rfl, E7⟩
            · have t3 : (b.beat == 0) = false := by simpa using hz
              clear r3 hz hkb
              go_wp2_with (go_at_call 67; first | ((with_reducible refine (h1 _).mono ?_); rintro e wy ⟨rfl, rfl⟩) | ((with_reducible refine (h2 _).mono ?_); rintro e wy ⟨rfl, rfl⟩) | ((with_reducible refine (h3 _).mono ?_); rintro e wy ⟨rfl, rfl⟩))
              go_ret
              exact ⟨rfl, E7⟩
          · have h1 := fun W => hin b.beat 0 23 W
            have h2 := fun W => hin b.carry 0 1 W
            have h3 := fun W => hin b.sum 0 (2 ^ k - 1) W
            rw [← HPE.out r1, r4] at h3
            rw [HPE.out r1] at h3
            rw [r1] at h1
            rw [r2] at h2
            clear r1 r2 r4
            by_cases hz : b.beat = 0
            · have t3 : (b.beat == 0) = true := by simpa using hz
              have t4 : ¬ (0 : Int) < b.carry := fun c => r3 ⟨hz, c⟩
              clear r3 hz hkb
              go_wp2_with (go_at_call 67; first | ((with_reducible refine (h1 _).mono ?_); rintro e wy ⟨rfl, rfl⟩) | ((with_reducible refine (h2 _).mono ?_); rintro e wy ⟨rfl, rfl⟩) | ((with_reducible refine (h3 _).mono ?_); rintro e wy ⟨rfl, rfl⟩))
              go_ret
              exact ⟨rfl, E7⟩
            · have t3 : (b.beat == 0) = false := by simpa using hz
              clear r3 hz hkb
              go_wp2_with (go_at_call 67; first | ((with_reducible refine (h1 _).mono ?_); rintro e wy ⟨rfl, rfl⟩) | ((with_reducible refine (h2 _).mono ?_); rintro e wy ⟨rfl, rfl⟩) | ((with_reducible refine (h3 _).mono ?_); rintro e wy ⟨rfl, rfl⟩))
              go_ret
              exact ⟨rfl, E7⟩
theorem rstate_any (v : Value) (b : PuB) (w : World) (h : PbAt w v b) (hb : PbBd b) : Calls Try.prog 72 #[v] w fun e w' => e = .returned (.int .i64 (stateE b)) ∧ Ext w w' := by
  obtain ⟨aL, a1, a2, a3, cL, c1, c2, c3, rfl, iL, i1, i2, i3⟩ := h
  obtain ⟨bl, ⟨bs, bt, bp⟩, bll⟩ := hb
  have long : longB b = false → stateE b = 3 := fun h => by unfold stateE; rw [if_pos h]
  by_cases h8 : b.lines.length = 8
  · by_cases h1 : b.now.store.length = 0
    · rcases first_odd b.lines with hall | ⟨N, hN, hlt, hne⟩
      · have hlong : longB b = true := by
          unfold longB
          simp only [Bool.and_eq_true, decide_eq_true_eq, List.all_eq_true]
          refine ⟨⟨h8, h1⟩, fun l hl => ?_⟩
          obtain ⟨i, hi, rfl⟩ := List.getElem_of_mem hl
          have := hall i hi
          rwa [List.getElem?_eq_getElem hi] at this
        have hlen : ∀ k, k < 8 → (b.lines[k]?.getD []).length = 384 := fun k hk => hall k (by omega)
        have hsl : (stP b).store.length = 128 := by show (storeB b.lines).length = 128; rw [storeB_length, h8]
        have hbd : PuBd (stP b) := ⟨by rw [hsl]; decide, bt, bp⟩
        have hst : stateE b = if (checkP (stP b)).2.2 ≠ 0 then (checkP (stP b)).2.2 else if rangeB b = false then 7 else 0 := by
          unfold stateE
          rw [if_neg (by rw [hlong]; decide)]
        rw [h8, h1]
        by_cases hc : (checkP (stP b)).2.2 = 0
        · rw [if_neg (by rw [hc]; decide)] at hst
          refine rstate_rng aL a1 a2 a3 cL c1 _ c2 _ c3 b w h8 iL rfl rfl i2 i3 hlen hbd hc (stateE b) ?_
          rw [hst]
          unfold rangeB
          rcases inB b.beat 0 23
          · exact .inl ⟨rfl, rfl⟩
          rcases inB b.carry 0 1
          · exact .inr (.inl ⟨rfl, rfl, rfl⟩)
          by_cases hz : b.beat = 0 ∧ 0 < b.carry
          · obtain ⟨z1, z2⟩ := hz
            exact .inr (.inr (.inl ⟨rfl, rfl, z1, z2, by rw [decide_eq_true z1, decide_eq_true z2]; simp⟩))
          have hzb : (decide (b.beat = 0) && decide (0 < b.carry)) = false := by
            rw [Bool.eq_false_iff]; simpa using hz
          rw [hzb]
          rcases inB b.sum 0 (2 ^ b.beat.toNat - 1)
          · exact .inr (.inr (.inr (.inl ⟨rfl, rfl, hz, rfl, rfl⟩)))
          · exact .inr (.inr (.inr (.inr ⟨rfl, rfl, hz, rfl, rfl⟩)))
        · rw [if_pos hc] at hst
          rw [hst]
          exact rstate_chk aL a1 a2 a3 cL c1 _ c2 _ c3 b w h8 iL rfl rfl i2 i3 hlen hbd hc
      · have hlong : longB b = false := by
          rw [Bool.eq_false_iff]
          intro h
          unfold longB at h
          simp only [Bool.and_eq_true, decide_eq_true_eq, List.all_eq_true] at h
          apply hne
          rw [List.getElem?_eq_getElem hN]
          exact h.2 _ (List.getElem_mem _)
        rw [long hlong, h8, h1]
        have hmb : (b.lines[N]?.getD []).length ≤ 9223372036854775807 := by
          rw [List.getElem?_eq_getElem hN]
          exact bll _ (List.getElem_mem _)
        exact rstate_line aL a1 a2 a3 cL c1 _ c2 _ c3 b w h8 iL N _ (by omega) hlt rfl hne hmb
    · have hlong : longB b = false := by
        unfold longB
        rw [show decide (b.now.store.length = 0) = false by simpa using h1]; simp
      rw [long hlong]
      exact rstate_long2 aL a1 a2 a3 _ cL _ c1 _ c2 _ c3 b w h8 (by omega) bs
  · have hlong : longB b = false := by
      unfold longB
      rw [show decide (b.lines.length = 8) = false by simpa using h8]; simp
    rw [long hlong]
    exact rstate_long1 aL a1 a2 a3 _ cL _ c1 _ c2 _ c3 b w h8 bl
end Go.Proofs.Ytjfggepgjpdebaa

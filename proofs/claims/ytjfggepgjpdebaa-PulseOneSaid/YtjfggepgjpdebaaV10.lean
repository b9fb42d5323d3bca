/- Contract: pulse's enter, where it refuses. -/
import Derived.Test.YtjfggepgjpdebaaM16
import Derived.Deep.RegionHeld3
import Derived.Deep.QuietTactic
import Derived.BigQuiet
set_option linter.unusedVariables false
set_option linter.unusedSimpArgs false
namespace Go.Proofs.Ytjfggepgjpdebaa
open Go.RowKit Go.Q

/-- enter refuses -/
def EntBad (er : Int) (w : World) (e : Ending) (w' : World) : Prop := e = .returned (.tuple #[.pointer none, .int .i64 er]) ∧ Ext w w'
set_option maxRecDepth 100000 in
set_option maxHeartbeats 8000000 in
theorem enter_long1 (aL a1 a2 a3 : Option Addr) (nL cL n1 c1 n2 c2 n3 c3 : Nat) (b : PuB) (w : World) (h8 : nL ≠ 8) (hn : nL ≤ 9223372036854775807) :
    Calls Try.prog 71 #[pbv aL a1 a2 a3 nL cL n1 c1 n2 c2 n3 c3 b] w (EntBad 3 w) := by
  have t1 : ((nL : Int) != 8) = true := by simp; omega
  (try clear h8)
  (try clear h1)
  go_enter Try.func71, Try.ntmps71
  go_wp2_with fail
  go_ret2
  exact ⟨rfl, (by repeat (first | with_reducible exact Ext.refl _ | with_reducible refine Ext.alloc ?_ _ | with_reducible refine Below.drew ?_))⟩
set_option maxRecDepth 100000 in
set_option maxHeartbeats 8000000 in
theorem enter_long2 (aL a1 a2 a3 : Option Addr) (nL cL n1 c1 n2 c2 n3 c3 : Nat) (b : PuB) (w : World) (h8 : nL = 8) (h1 : 0 < n1) (hn : n1 ≤ 9223372036854775807) :
    Calls Try.prog 71 #[pbv aL a1 a2 a3 nL cL n1 c1 n2 c2 n3 c3 b] w (EntBad 3 w) := by
  subst h8
  have t2 : (0 : Int) < (n1 : Int) := by omega
  (try clear h8)
  (try clear h1)
  go_enter Try.func71, Try.ntmps71
  go_wp2_with fail
  go_ret2
  exact ⟨rfl, (by repeat (first | with_reducible exact Ext.refl _ | with_reducible refine Ext.alloc ?_ _ | with_reducible refine Below.drew ?_))⟩
set_option maxRecDepth 100000 in
set_option maxHeartbeats 8000000 in
theorem enter_line (aL a1 a2 a3 : Option Addr) (cL c1 n2 c2 n3 c3 : Nat) (b : PuB) (w : World) (h8 : b.lines.length = 8) (iL : LinesAt w aL b.lines) (N0 m : Nat) (hN : N0 < 8) (hlen : ∀ k, k < N0 → (b.lines[k]?.getD []).length = 384) (hm : (b.lines[N0]?.getD []).length = m) (hm3 : m ≠ 384) (hmb : m ≤ 9223372036854775807) :
    Calls Try.prog 71 #[pbv aL a1 a2 a3 8 cL 0 c1 n2 c2 n3 c3 b] w (EntBad 3 w) := by
  obtain ⟨i0, hi0, ha0, ha1, ha2⟩ := info_parts Try.infoL
  have tm : ((m : Int) != 384) = true := by simp; omega
  clear hm3
  rcases iL with iL | ⟨bL, off, rfl, hbL, hcL⟩
  · rw [iL] at h8; simp at h8
  have H8 := Lib.hid h8
  have HCL := Lib.hid hcL
  have HLN := Lib.hid hlen
  clear h8 hcL hlen
  go_enter Try.func71, Try.ntmps71
  go_wp2_with fail
  have bG : Blk ((w.alloc (.cells #[.slice (some ⟨bL, off, none⟩) 8 cL, .slice a1 0 c1, .slice a2 n2 c2, .int .i64 b.now.taken, .slice a3 n3 c3, .int .i64 b.now.clock, .int .i64 b.now.at_, .int .i64 b.now.phase, .int .i64 b.now.order, .int .i64 b.now.operand, .int .i64 b.now.other, .int .i64 b.now.product, .int .i64 b.now.count, .int .i64 b.now.done, .int .i64 b.now.why, .int .i64 b.beat, .int .i64 b.carry, .int .i64 b.sum] 50)).alloc (.cells #[.pointer none, .slice none 0 0, .int .i64 b.beat, .int .i64 b.carry, .int .i64 b.sum] 111)) (w.heap.size + 1) #[.pointer none, .slice none 0 0, .int .i64 b.beat, .int .i64 b.carry, .int .i64 b.sum] 111 := by
    have := Blk.nw (w.alloc (.cells #[.slice (some ⟨bL, off, none⟩) 8 cL, .slice a1 0 c1, .slice a2 n2 c2, .int .i64 b.now.taken, .slice a3 n3 c3, .int .i64 b.now.clock, .int .i64 b.now.at_, .int .i64 b.now.phase, .int .i64 b.now.order, .int .i64 b.now.operand, .int .i64 b.now.other, .int .i64 b.now.product, .int .i64 b.now.count, .int .i64 b.now.done, .int .i64 b.now.why, .int .i64 b.beat, .int .i64 b.carry, .int .i64 b.sum] 50)) #[.pointer none, .slice none 0 0, .int .i64 b.beat, .int .i64 b.carry, .int .i64 b.sum] 111
    rw [World.size_alloc] at this
    exact this
  have bA : Blk ((w.alloc (.cells #[.slice (some ⟨bL, off, none⟩) 8 cL, .slice a1 0 c1, .slice a2 n2 c2, .int .i64 b.now.taken, .slice a3 n3 c3, .int .i64 b.now.clock, .int .i64 b.now.at_, .int .i64 b.now.phase, .int .i64 b.now.order, .int .i64 b.now.operand, .int .i64 b.now.other, .int .i64 b.now.product, .int .i64 b.now.count, .int .i64 b.now.done, .int .i64 b.now.why, .int .i64 b.beat, .int .i64 b.carry, .int .i64 b.sum] 50)).alloc (.cells #[.pointer none, .slice none 0 0, .int .i64 b.beat, .int .i64 b.carry, .int .i64 b.sum] 111)) w.heap.size #[.slice (some ⟨bL, off, none⟩) 8 cL, .slice a1 0 c1, .slice a2 n2 c2, .int .i64 b.now.taken, .slice a3 n3 c3, .int .i64 b.now.clock, .int .i64 b.now.at_, .int .i64 b.now.phase, .int .i64 b.now.order, .int .i64 b.now.operand, .int .i64 b.now.other, .int .i64 b.now.product, .int .i64 b.now.count, .int .i64 b.now.done, .int .i64 b.now.why, .int .i64 b.beat, .int .i64 b.carry, .int .i64 b.sum] 50 := Blk.al (Blk.nw w _ _) _
  have e0 := ((Ext.refl w).alloc (.cells #[.slice (some ⟨bL, off, none⟩) 8 cL, .slice a1 0 c1, .slice a2 n2 c2, .int .i64 b.now.taken, .slice a3 n3 c3, .int .i64 b.now.clock, .int .i64 b.now.at_, .int .i64 b.now.phase, .int .i64 b.now.order, .int .i64 b.now.operand, .int .i64 b.now.other, .int .i64 b.now.product, .int .i64 b.now.count, .int .i64 b.now.done, .int .i64 b.now.why, .int .i64 b.beat, .int .i64 b.carry, .int .i64 b.sum] 50)).alloc (.cells #[.pointer none, .slice none 0 0, .int .i64 b.beat, .int .i64 b.carry, .int .i64 b.sum] 111)
  have Hst := Lib.hid (And.intro bG (And.intro bA e0))
  clear bG bA e0
  go_loopw [33] (fun i wr => ∃ (k : Nat) (la : Option Addr) (lc : Nat) (vs : Nat → Value), k ≤ N0 ∧ i = .int .i64 k ∧ EntL w wr (w.heap.size + 1) b k la lc vs ∧ Blk wr w.heap.size #[.slice (some ⟨bL, off, none⟩) 8 cL, .slice a1 0 c1, .slice a2 n2 c2, .int .i64 b.now.taken, .slice a3 n3 c3, .int .i64 b.now.clock, .int .i64 b.now.at_, .int .i64 b.now.phase, .int .i64 b.now.order, .int .i64 b.now.operand, .int .i64 b.now.other, .int .i64 b.now.product, .int .i64 b.now.count, .int .i64 b.now.done, .int .i64 b.now.why, .int .i64 b.beat, .int .i64 b.carry, .int .i64 b.sum] 50) (fun i _ => N0 - (intOf i).toNat)
  case atStart =>
    obtain ⟨bG, bA, e0⟩ := Hst.out
    exact ⟨0, none, 0, fun _ => .slice none 0 0, by omega, rfl, ⟨e0, bG, World.ownsRow_nil _ _ _ _, nofun, nofun⟩, bA⟩
  case round =>
    obtain ⟨k, la, lc, vs, hk, rfl, hE, hA⟩ := hrel
    by_cases hlt : k < N0
    · have g1' := hE.gat.c 1 (v := .slice la k lc) rfl
      have gf := hE.gat.f 1
      have HE := Lib.hid hE
      have HA := Lib.hid hA
      have hltz : (k : Int) < 8 := by omega
      obtain ⟨al, cl, hcl, ⟨hk1, hk2⟩, hbl⟩ := HCL.out k (by rw [H8.out]; omega)
      have hl384 : (b.lines[k]?.getD []).length = 384 := HLN.out k hlt
      rw [hl384] at hcl hk1
      have hclr := (hE.ext.cell (p := ⟨bL, off + k, none⟩) hbL).trans hcl
      have hfr := fun W (E : Ext w W) => freshb_any al 384 cl (b.lines[k]?.getD []) W hl384 (by decide) (hbl.ext E)
      have hgl := hE.gat.lt
      have HL3 := Lib.hid hl384
      clear hE hA hcl hbl hl384
      go_wp2_with fail
      go_region_law (first
        | (go_simp; go_at_call 105; refine (hfr _ (by exact (HE.out.ext.comp (below_drewN (Ext.refl wr) 1)))).mono ?_; rintro e w5 ⟨a5, c5, rfl, ho5, hb5⟩; have E5 : Ext wr w5 := Ext.comp (below_drewN (Ext.refl wr) 1) hb5; have g5 := (E5.cell (p := ⟨w.heap.size + 1, 1, none⟩) hgl).trans g1'; have hz5 : w.heap.size + 1 < w5.heap.size := Nat.lt_of_lt_of_le hgl E5.size)
        | (refine step_app (w0 := w) (by rfl) _ _ 48 (by rfl) 69 i0 (.slice none 0 0) 1 24 Try.underlying48 hi0 ha0 ha1 ha2 (by rfl) (by decide) (.slice la k lc) k w.heap.size ((List.range k).map vs) (by rfl) (World.ownsRow.alloc (own_later HE.out.own (fun q hq => E5.block q (own_lt HE.out.own hq))) _) ((HE.out.ext.comp E5).alloc _) (Nat.le_refl _) (by have := (HE.out.ext.comp E5).size; simp; omega) (some ⟨w5.heap.size, 0, none⟩) 1 1 [.slice a5 384 c5] (by rfl) (by rfl) (.inr ⟨_, rfl, cell_one_new _ _ _⟩) (by simp [Value.oneCell']) (by unfold maxLen; omega) (by omega) ?_; intro a6 c6 w6 ho6 hE6 hg6; have bG6 := HE.out.gat6 E5 hg6; have g6 := bG6.c 1 (v := .slice la k lc) rfl; have f6 := bG6.f 1))
      all_goals
        have hst := HE.out.step E5 ho5 (below_drewN (Ext.refl wr) 1).size ho6 hg6 hE6
        have hA6 := HE.out.keep E5 hg6 HA.out (by decide) (by omega) (.slice a6 (k + 1) c6)
        go_wp2_with fail
        go_roundw
        case rel => exact ⟨k + 1, a6, c6, _, by omega, by simp, hst, hA6⟩
        case measure => simp [intOf]; omega
    · obtain rfl : k = N0 := by omega
      have hltz : (k : Int) < 8 := by omega
      obtain ⟨al, cl, hcl, ⟨hk1, hk2⟩, hbl⟩ := HCL.out k (by rw [H8.out]; omega)
      rw [hm] at hcl hk1
      have hclr := (hE.ext.cell (p := ⟨bL, off + k, none⟩) hbL).trans hcl
      have HE := Lib.hid hE
      clear hE hA hcl hbl hm
      go_wp2_with fail
      go_ret2
      exact ⟨rfl, (by repeat (first | with_reducible exact HE.out.ext | with_reducible refine Ext.alloc ?_ _ | with_reducible refine Below.drew ?_))⟩
set_option maxRecDepth 100000 in
set_option maxHeartbeats 8000000 in
theorem enter_chk (aL a1 a2 a3 : Option Addr) (cL c1 n2 c2 n3 c3 : Nat) (b : PuB) (w : World) (h8 : b.lines.length = 8) (iL : LinesAt w aL b.lines) (l2 : b.now.tape.length = n2) (l3 : b.now.printed.length = n3) (i2 : IntsAt w a2 b.now.tape) (i3 : IntsAt w a3 b.now.printed) (hlen : ∀ k, k < 8 → (b.lines[k]?.getD []).length = 384) (hb : PuBd (stP b)) (he : (checkP (stP b)).2.2 ≠ 0) :
    Calls Try.prog 71 #[pbv aL a1 a2 a3 8 cL 0 c1 n2 c2 n3 c3 b] w (EntBad (checkP (stP b)).2.2 w) := by
  obtain ⟨i0, hi0, ha0, ha1, ha2⟩ := info_parts Try.infoL
  have hst := fun W (E : Ext w W) => pstore_any aL cL b.lines W h8 (fun l hl => by obtain ⟨i, hi, rfl⟩ := List.getElem_of_mem hl; have := hlen i (by omega); rw [List.getElem?_eq_getElem hi] at this; exact this) (iL.ext E)
  have hsl : (stP b).store.length = 128 := by show (storeB b.lines).length = 128; rw [storeB_length, h8]
  have HST := Lib.hid hst
  have hpc := fun W v (h : PuAt W v (stP b)) => pcheck_any v (stP b) W h hb
  unfold v3 at hpc
  generalize checkP (stP b) = p at *
  obtain ⟨p, i, er⟩ := p
  dsimp only at he hpc ⊢
  have hz2 : (er != 0) = true := by simpa using he
  have HPC := Lib.hid hpc
  have HPu := Lib.hid (And.intro hsl (And.intro (show (stP b).tape.length = n2 from l2) (show (stP b).printed.length = n3 from l3)))
  have HI2 := Lib.hid (And.intro i2 i3)
  clear hst hpc hsl i2 i3 l2 l3 hb
  clear he
  rcases iL with iL | ⟨bL, off, rfl, hbL, hcL⟩
  · rw [iL] at h8; simp at h8
  have H8 := Lib.hid h8
  have HCL := Lib.hid hcL
  have HLN := Lib.hid hlen
  clear h8 hcL hlen
  go_enter Try.func71, Try.ntmps71
  go_wp2_with fail
  have bG : Blk ((w.alloc (.cells #[.slice (some ⟨bL, off, none⟩) 8 cL, .slice a1 0 c1, .slice a2 n2 c2, .int .i64 b.now.taken, .slice a3 n3 c3, .int .i64 b.now.clock, .int .i64 b.now.at_, .int .i64 b.now.phase, .int .i64 b.now.order, .int .i64 b.now.operand, .int .i64 b.now.other, .int .i64 b.now.product, .int .i64 b.now.count, .int .i64 b.now.done, .int .i64 b.now.why, .int .i64 b.beat, .int .i64 b.carry, .int .i64 b.sum] 50)).alloc (.cells #[.pointer none, .slice none 0 0, .int .i64 b.beat, .int .i64 b.carry, .int .i64 b.sum] 111)) (w.heap.size + 1) #[.pointer none, .slice none 0 0, .int .i64 b.beat, .int .i64 b.carry, .int .i64 b.sum] 111 := by
    have := Blk.nw (w.alloc (.cells #[.slice (some ⟨bL, off, none⟩) 8 cL, .slice a1 0 c1, .slice a2 n2 c2, .int .i64 b.now.taken, .slice a3 n3 c3, .int .i64 b.now.clock, .int .i64 b.now.at_, .int .i64 b.now.phase, .int .i64 b.now.order, .int .i64 b.now.operand, .int .i64 b.now.other, .int .i64 b.now.product, .int .i64 b.now.count, .int .i64 b.now.done, .int .i64 b.now.why, .int .i64 b.beat, .int .i64 b.carry, .int .i64 b.sum] 50)) #[.pointer none, .slice none 0 0, .int .i64 b.beat, .int .i64 b.carry, .int .i64 b.sum] 111
    rw [World.size_alloc] at this
    exact this
  have bA : Blk ((w.alloc (.cells #[.slice (some ⟨bL, off, none⟩) 8 cL, .slice a1 0 c1, .slice a2 n2 c2, .int .i64 b.now.taken, .slice a3 n3 c3, .int .i64 b.now.clock, .int .i64 b.now.at_, .int .i64 b.now.phase, .int .i64 b.now.order, .int .i64 b.now.operand, .int .i64 b.now.other, .int .i64 b.now.product, .int .i64 b.now.count, .int .i64 b.now.done, .int .i64 b.now.why, .int .i64 b.beat, .int .i64 b.carry, .int .i64 b.sum] 50)).alloc (.cells #[.pointer none, .slice none 0 0, .int .i64 b.beat, .int .i64 b.carry, .int .i64 b.sum] 111)) w.heap.size #[.slice (some ⟨bL, off, none⟩) 8 cL, .slice a1 0 c1, .slice a2 n2 c2, .int .i64 b.now.taken, .slice a3 n3 c3, .int .i64 b.now.clock, .int .i64 b.now.at_, .int .i64 b.now.phase, .int .i64 b.now.order, .int .i64 b.now.operand, .int .i64 b.now.other, .int .i64 b.now.product, .int .i64 b.now.count, .int .i64 b.now.done, .int .i64 b.now.why, .int .i64 b.beat, .int .i64 b.carry, .int .i64 b.sum] 50 := Blk.al (Blk.nw w _ _) _
  have e0 := ((Ext.refl w).alloc (.cells #[.slice (some ⟨bL, off, none⟩) 8 cL, .slice a1 0 c1, .slice a2 n2 c2, .int .i64 b.now.taken, .slice a3 n3 c3, .int .i64 b.now.clock, .int .i64 b.now.at_, .int .i64 b.now.phase, .int .i64 b.now.order, .int .i64 b.now.operand, .int .i64 b.now.other, .int .i64 b.now.product, .int .i64 b.now.count, .int .i64 b.now.done, .int .i64 b.now.why, .int .i64 b.beat, .int .i64 b.carry, .int .i64 b.sum] 50)).alloc (.cells #[.pointer none, .slice none 0 0, .int .i64 b.beat, .int .i64 b.carry, .int .i64 b.sum] 111)
  have Hst := Lib.hid (And.intro bG (And.intro bA e0))
  clear bG bA e0
  go_loopw [33] (fun i wr => ∃ (k : Nat) (la : Option Addr) (lc : Nat) (vs : Nat → Value), k ≤ 8 ∧ i = .int .i64 k ∧ EntL w wr (w.heap.size + 1) b k la lc vs ∧ Blk wr w.heap.size #[.slice (some ⟨bL, off, none⟩) 8 cL, .slice a1 0 c1, .slice a2 n2 c2, .int .i64 b.now.taken, .slice a3 n3 c3, .int .i64 b.now.clock, .int .i64 b.now.at_, .int .i64 b.now.phase, .int .i64 b.now.order, .int .i64 b.now.operand, .int .i64 b.now.other, .int .i64 b.now.product, .int .i64 b.now.count, .int .i64 b.now.done, .int .i64 b.now.why, .int .i64 b.beat, .int .i64 b.carry, .int .i64 b.sum] 50) (fun i _ => 8 - (intOf i).toNat)
  case atStart =>
    obtain ⟨bG, bA, e0⟩ := Hst.out
    exact ⟨0, none, 0, fun _ => .slice none 0 0, by omega, rfl, ⟨e0, bG, World.ownsRow_nil _ _ _ _, nofun, nofun⟩, bA⟩
  case round =>
    obtain ⟨k, la, lc, vs, hk, rfl, hE, hA⟩ := hrel
    by_cases hlt : k < 8
    · have g1' := hE.gat.c 1 (v := .slice la k lc) rfl
      have gf := hE.gat.f 1
      have HE := Lib.hid hE
      have HA := Lib.hid hA
      have hltz : (k : Int) < 8 := by omega
      obtain ⟨al, cl, hcl, ⟨hk1, hk2⟩, hbl⟩ := HCL.out k (by rw [H8.out]; omega)
      have hl384 : (b.lines[k]?.getD []).length = 384 := HLN.out k hlt
      rw [hl384] at hcl hk1
      have hclr := (hE.ext.cell (p := ⟨bL, off + k, none⟩) hbL).trans hcl
      have hfr := fun W (E : Ext w W) => freshb_any al 384 cl (b.lines[k]?.getD []) W hl384 (by decide) (hbl.ext E)
      have hgl := hE.gat.lt
      have HL3 := Lib.hid hl384
      clear hE hA hcl hbl hl384
      go_wp2_with fail
      go_region_law (first
        | (go_simp; go_at_call 105; refine (hfr _ (by exact (HE.out.ext.comp (below_drewN (Ext.refl wr) 1)))).mono ?_; rintro e w5 ⟨a5, c5, rfl, ho5, hb5⟩; have E5 : Ext wr w5 := Ext.comp (below_drewN (Ext.refl wr) 1) hb5; have g5 := (E5.cell (p := ⟨w.heap.size + 1, 1, none⟩) hgl).trans g1'; have hz5 : w.heap.size + 1 < w5.heap.size := Nat.lt_of_lt_of_le hgl E5.size)
        | (refine step_app (w0 := w) (by rfl) _ _ 48 (by rfl) 69 i0 (.slice none 0 0) 1 24 Try.underlying48 hi0 ha0 ha1 ha2 (by rfl) (by decide) (.slice la k lc) k w.heap.size ((List.range k).map vs) (by rfl) (World.ownsRow.alloc (own_later HE.out.own (fun q hq => E5.block q (own_lt HE.out.own hq))) _) ((HE.out.ext.comp E5).alloc _) (Nat.le_refl _) (by have := (HE.out.ext.comp E5).size; simp; omega) (some ⟨w5.heap.size, 0, none⟩) 1 1 [.slice a5 384 c5] (by rfl) (by rfl) (.inr ⟨_, rfl, cell_one_new _ _ _⟩) (by simp [Value.oneCell']) (by unfold maxLen; omega) (by omega) ?_; intro a6 c6 w6 ho6 hE6 hg6; have bG6 := HE.out.gat6 E5 hg6; have g6 := bG6.c 1 (v := .slice la k lc) rfl; have f6 := bG6.f 1))
      all_goals
        have hst := HE.out.step E5 ho5 (below_drewN (Ext.refl wr) 1).size ho6 hg6 hE6
        have hA6 := HE.out.keep E5 hg6 HA.out (by decide) (by omega) (.slice a6 (k + 1) c6)
        go_wp2_with fail
        go_roundw
        case rel => exact ⟨k + 1, a6, c6, _, by omega, by simp, hst, hA6⟩
        case measure => simp [intOf]; omega
    · have hltz : ¬ (k : Int) < 8 := by omega
      obtain rfl : k = 8 := by omega
      obtain ⟨LB, rfl⟩ := hE.form
      have HE := Lib.hid hE
      have HA := Lib.hid hA
      have HR := Lib.hid hA.range14
      have x0 := fun ob => (hA.al ob).c 0 (v := .slice (some ⟨bL, off, none⟩) 8 cL) rfl
      clear hE hA
      go_wp2_with (first | (refine wpList_load_mid rfl 41 (.tmp 52) rfl w.heap.size 1 rfl [.slice a1 0 c1, .slice a2 n2 c2, .int .i64 b.now.taken, .slice a3 n3 c3, .int .i64 b.now.clock, .int .i64 b.now.at_, .int .i64 b.now.phase, .int .i64 b.now.order, .int .i64 b.now.operand, .int .i64 b.now.other, .int .i64 b.now.product, .int .i64 b.now.count, .int .i64 b.now.done, .int .i64 b.now.why] _ HR.out Try.underlying41 rfl (by kernel_rfl) ?_) | (go_at_call 106; refine (HST.out _ (by exact HE.out.ext.alloc _)).mono ?_; rintro e w5 ⟨a5, c5, rfl, ho5, hb5⟩; have nb5 := Blk.of hb5; have n0 := nb5.c 0 (v := .slice a1 0 c1) rfl; have nf := nb5.f 0; have hI5 := own_put1 ho5 (C := wr.heap.size) (i := 0) (by simp) (.slice a5 128 c5); have nb6 := nb5.st 0 (.slice a5 128 c5); have HR6 := Lib.hid (Blk.range (L := [.slice a5 128 c5, .slice a2 n2 c2, .int .i64 b.now.taken, .slice a3 n3 c3, .int .i64 b.now.clock, .int .i64 b.now.at_, .int .i64 b.now.phase, .int .i64 b.now.order, .int .i64 b.now.operand, .int .i64 b.now.other, .int .i64 b.now.product, .int .i64 b.now.count, .int .i64 b.now.done, .int .i64 b.now.why]) nb6); have HB6 := Lib.hid nb6; have HI5 := Lib.hid hI5; have X5 : Ext wr (w5.setCell ⟨wr.heap.size, 0, none⟩ (.slice a5 128 c5)) := (hb5.old).setCell (p := ⟨wr.heap.size, 0, none⟩) (Nat.le_refl _) _; clear nb5 hI5 nb6) | (refine wpList_load_mid rfl 41 (.tmp 7) rfl wr.heap.size 0 rfl [.slice a5 128 c5, .slice a2 n2 c2, .int .i64 b.now.taken, .slice a3 n3 c3, .int .i64 b.now.clock, .int .i64 b.now.at_, .int .i64 b.now.phase, .int .i64 b.now.order, .int .i64 b.now.operand, .int .i64 b.now.other, .int .i64 b.now.product, .int .i64 b.now.count, .int .i64 b.now.done, .int .i64 b.now.why] _ HR6.out Try.underlying41 rfl (by kernel_rfl) ?_) | (go_at_call 45; refine (HPC.out _ _ (puAt_mk (s := stP b) HPu.out.1 HPu.out.2.1 HPu.out.2.2 HI5.out (HI2.out.1.ext (HE.out.ext.comp X5)) (HI2.out.2.ext (HE.out.ext.comp X5)))).mono ?_; rintro e w6 ⟨rfl, E6⟩))
      go_ret2
      exact ⟨rfl, (HE.out.ext.comp X5).comp E6⟩
set_option maxRecDepth 100000 in
set_option maxHeartbeats 8000000 in
theorem enter_rng1 (aL a1 a2 a3 : Option Addr) (cL c1 n2 c2 n3 c3 : Nat) (b : PuB) (w : World) (h8 : b.lines.length = 8) (iL : LinesAt w aL b.lines) (l2 : b.now.tape.length = n2) (l3 : b.now.printed.length = n3) (i2 : IntsAt w a2 b.now.tape) (i3 : IntsAt w a3 b.now.printed) (hlen : ∀ k, k < 8 → (b.lines[k]?.getD []).length = 384) (hb : PuBd (stP b)) (he : (checkP (stP b)).2.2 = 0) (hr : b.beat < 0 ∨ 23 < b.beat) :
    Calls Try.prog 71 #[pbv aL a1 a2 a3 8 cL 0 c1 n2 c2 n3 c3 b] w (EntBad 7 w) := by
  obtain ⟨i0, hi0, ha0, ha1, ha2⟩ := info_parts Try.infoL
  have hst := fun W (E : Ext w W) => pstore_any aL cL b.lines W h8 (fun l hl => by obtain ⟨i, hi, rfl⟩ := List.getElem_of_mem hl; have := hlen i (by omega); rw [List.getElem?_eq_getElem hi] at this; exact this) (iL.ext E)
  have hsl : (stP b).store.length = 128 := by show (storeB b.lines).length = 128; rw [storeB_length, h8]
  have HST := Lib.hid hst
  have hpc := fun W v (h : PuAt W v (stP b)) => pcheck_any v (stP b) W h hb
  unfold v3 at hpc
  generalize checkP (stP b) = p at *
  obtain ⟨p, i, er⟩ := p
  dsimp only at he hpc
  subst he
  have HPC := Lib.hid hpc
  have houtF : ∀ (n lo hi : Int) W, lo ≤ n → n ≤ hi → Calls Try.prog 64 #[.int .i64 n, .int .i64 lo, .int .i64 hi] W fun e w' => e = .returned (.bool false) ∧ w' = W := fun n lo hi W h1 h2 => by
    have h := pout_any n lo hi W
    rw [inB_mk h1 h2] at h
    exact h.mono fun e w' k => ⟨k.1, k.2.symm⟩
  have houtT : ∀ (n lo hi : Int) W, n < lo ∨ hi < n → Calls Try.prog 64 #[.int .i64 n, .int .i64 lo, .int .i64 hi] W fun e w' => e = .returned (.bool true) ∧ w' = W := fun n lo hi W h1 => by
    have h := pout_any n lo hi W
    rw [show inB n lo hi = false by unfold inB; simp; omega] at h
    exact h.mono fun e w' k => ⟨k.1, k.2.symm⟩
  have HPu := Lib.hid (And.intro hsl (And.intro (show (stP b).tape.length = n2 from l2) (show (stP b).printed.length = n3 from l3)))
  have HI2 := Lib.hid (And.intro i2 i3)
  clear hst hpc hsl i2 i3 l2 l3 hb
  rcases iL with iL | ⟨bL, off, rfl, hbL, hcL⟩
  · rw [iL] at h8; simp at h8
  have H8 := Lib.hid h8
  have HCL := Lib.hid hcL
  have HLN := Lib.hid hlen
  clear h8 hcL hlen
  go_enter Try.func71, Try.ntmps71
  go_wp2_with fail
  have bG : Blk ((w.alloc (.cells #[.slice (some ⟨bL, off, none⟩) 8 cL, .slice a1 0 c1, .slice a2 n2 c2, .int .i64 b.now.taken, .slice a3 n3 c3, .int .i64 b.now.clock, .int .i64 b.now.at_, .int .i64 b.now.phase, .int .i64 b.now.order, .int .i64 b.now.operand, .int .i64 b.now.other, .int .i64 b.now.product, .int .i64 b.now.count, .int .i64 b.now.done, .int .i64 b.now.why, .int .i64 b.beat, .int .i64 b.carry, .int .i64 b.sum] 50)).alloc (.cells #[.pointer none, .slice none 0 0, .int .i64 b.beat, .int .i64 b.carry, .int .i64 b.sum] 111)) (w.heap.size + 1) #[.pointer none, .slice none 0 0, .int .i64 b.beat, .int .i64 b.carry, .int .i64 b.sum] 111 := by
    have := Blk.nw (w.alloc (.cells #[.slice (some ⟨bL, off, none⟩) 8 cL, .slice a1 0 c1, .slice a2 n2 c2, .int .i64 b.now.taken, .slice a3 n3 c3, .int .i64 b.now.clock, .int .i64 b.now.at_, .int .i64 b.now.phase, .int .i64 b.now.order, .int .i64 b.now.operand, .int .i64 b.now.other, .int .i64 b.now.product, .int .i64 b.now.count, .int .i64 b.now.done, .int .i64 b.now.why, .int .i64 b.beat, .int .i64 b.carry, .int .i64 b.sum] 50)) #[.pointer none, .slice none 0 0, .int .i64 b.beat, .int .i64 b.carry, .int .i64 b.sum] 111
    rw [World.size_alloc] at this
    exact this
  have bA : Blk ((w.alloc (.cells #[.slice (some ⟨bL, off, none⟩) 8 cL, .slice a1 0 c1, .slice a2 n2 c2, .int .i64 b.now.taken, .slice a3 n3 c3, .int .i64 b.now.clock, .int .i64 b.now.at_, .int .i64 b.now.phase, .int .i64 b.now.order, .int .i64 b.now.operand, .int .i64 b.now.other, .int .i64 b.now.product, .int .i64 b.now.count, .int .i64 b.now.done, .int .i64 b.now.why, .int .i64 b.beat, .int .i64 b.carry, .int .i64 b.sum] 50)).alloc (.cells #[.pointer none, .slice none 0 0, .int .i64 b.beat, .int .i64 b.carry, .int .i64 b.sum] 111)) w.heap.size #[.slice (some ⟨bL, off, none⟩) 8 cL, .slice a1 0 c1, .slice a2 n2 c2, .int .i64 b.now.taken, .slice a3 n3 c3, .int .i64 b.now.clock, .int .i64 b.now.at_, .int .i64 b.now.phase, .int .i64 b.now.order, .int .i64 b.now.operand, .int .i64 b.now.other, .int .i64 b.now.product, .int .i64 b.now.count, .int .i64 b.now.done, .int .i64 b.now.why, .int .i64 b.beat, .int .i64 b.carry, .int .i64 b.sum] 50 := Blk.al (Blk.nw w _ _) _
  have e0 := ((Ext.refl w).alloc (.cells #[.slice (some ⟨bL, off, none⟩) 8 cL, .slice a1 0 c1, .slice a2 n2 c2, .int .i64 b.now.taken, .slice a3 n3 c3, .int .i64 b.now.clock, .int .i64 b.now.at_, .int .i64 b.now.phase, .int .i64 b.now.order, .int .i64 b.now.operand, .int .i64 b.now.other, .int .i64 b.now.product, .int .i64 b.now.count, .int .i64 b.now.done, .int .i64 b.now.why, .int .i64 b.beat, .int .i64 b.carry, .int .i64 b.sum] 50)).alloc (.cells #[.pointer none, .slice none 0 0, .int .i64 b.beat, .int .i64 b.carry, .int .i64 b.sum] 111)
  have Hst := Lib.hid (And.intro bG (And.intro bA e0))
  clear bG bA e0
  go_loopw [33] (fun i wr => ∃ (k : Nat) (la : Option Addr) (lc : Nat) (vs : Nat → Value), k ≤ 8 ∧ i = .int .i64 k ∧ EntL w wr (w.heap.size + 1) b k la lc vs ∧ Blk wr w.heap.size #[.slice (some ⟨bL, off, none⟩) 8 cL, .slice a1 0 c1, .slice a2 n2 c2, .int .i64 b.now.taken, .slice a3 n3 c3, .int .i64 b.now.clock, .int .i64 b.now.at_, .int .i64 b.now.phase, .int .i64 b.now.order, .int .i64 b.now.operand, .int .i64 b.now.other, .int .i64 b.now.product, .int .i64 b.now.count, .int .i64 b.now.done, .int .i64 b.now.why, .int .i64 b.beat, .int .i64 b.carry, .int .i64 b.sum] 50) (fun i _ => 8 - (intOf i).toNat)
  case atStart =>
    obtain ⟨bG, bA, e0⟩ := Hst.out
    exact ⟨0, none, 0, fun _ => .slice none 0 0, by omega, rfl, ⟨e0, bG, World.ownsRow_nil _ _ _ _, nofun, nofun⟩, bA⟩
  case round =>
    obtain ⟨k, la, lc, vs, hk, rfl, hE, hA⟩ := hrel
    by_cases hlt : k < 8
    · have g1' := hE.gat.c 1 (v := .slice la k lc) rfl
      have gf := hE.gat.f 1
      have HE := Lib.hid hE
      have HA := Lib.hid hA
      have hltz : (k : Int) < 8 := by omega
      obtain ⟨al, cl, hcl, ⟨hk1, hk2⟩, hbl⟩ := HCL.out k (by rw [H8.out]; omega)
      have hl384 : (b.lines[k]?.getD []).length = 384 := HLN.out k hlt
      rw [hl384] at hcl hk1
      have hclr := (hE.ext.cell (p := ⟨bL, off + k, none⟩) hbL).trans hcl
      have hfr := fun W (E : Ext w W) => freshb_any al 384 cl (b.lines[k]?.getD []) W hl384 (by decide) (hbl.ext E)
      have hgl := hE.gat.lt
      have HL3 := Lib.hid hl384
      clear hE hA hcl hbl hl384
      go_wp2_with fail
      go_region_law (first
        | (go_simp; go_at_call 105; refine (hfr _ (by exact (HE.out.ext.comp (below_drewN (Ext.refl wr) 1)))).mono ?_; rintro e w5 ⟨a5, c5, rfl, ho5, hb5⟩; have E5 : Ext wr w5 := Ext.comp (below_drewN (Ext.refl wr) 1) hb5; have g5 := (E5.cell (p := ⟨w.heap.size + 1, 1, none⟩) hgl).trans g1'; have hz5 : w.heap.size + 1 < w5.heap.size := Nat.lt_of_lt_of_le hgl E5.size)
        | (refine step_app (w0 := w) (by rfl) _ _ 48 (by rfl) 69 i0 (.slice none 0 0) 1 24 Try.underlying48 hi0 ha0 ha1 ha2 (by rfl) (by decide) (.slice la k lc) k w.heap.size ((List.range k).map vs) (by rfl) (World.ownsRow.alloc (own_later HE.out.own (fun q hq => E5.block q (own_lt HE.out.own hq))) _) ((HE.out.ext.comp E5).alloc _) (Nat.le_refl _) (by have := (HE.out.ext.comp E5).size; simp; omega) (some ⟨w5.heap.size, 0, none⟩) 1 1 [.slice a5 384 c5] (by rfl) (by rfl) (.inr ⟨_, rfl, cell_one_new _ _ _⟩) (by simp [Value.oneCell']) (by unfold maxLen; omega) (by omega) ?_; intro a6 c6 w6 ho6 hE6 hg6; have bG6 := HE.out.gat6 E5 hg6; have g6 := bG6.c 1 (v := .slice la k lc) rfl; have f6 := bG6.f 1))
      all_goals
        have hst := HE.out.step E5 ho5 (below_drewN (Ext.refl wr) 1).size ho6 hg6 hE6
        have hA6 := HE.out.keep E5 hg6 HA.out (by decide) (by omega) (.slice a6 (k + 1) c6)
        go_wp2_with fail
        go_roundw
        case rel => exact ⟨k + 1, a6, c6, _, by omega, by simp, hst, hA6⟩
        case measure => simp [intOf]; omega
    · have hltz : ¬ (k : Int) < 8 := by omega
      obtain rfl : k = 8 := by omega
      obtain ⟨LB, rfl⟩ := hE.form
      have HE := Lib.hid hE
      have HA := Lib.hid hA
      have HR := Lib.hid hA.range14
      have x0 := fun ob => (hA.al ob).c 0 (v := .slice (some ⟨bL, off, none⟩) 8 cL) rfl
      clear hE hA
      go_wp2_with (first | (refine wpList_load_mid rfl 41 (.tmp 52) rfl w.heap.size 1 rfl [.slice a1 0 c1, .slice a2 n2 c2, .int .i64 b.now.taken, .slice a3 n3 c3, .int .i64 b.now.clock, .int .i64 b.now.at_, .int .i64 b.now.phase, .int .i64 b.now.order, .int .i64 b.now.operand, .int .i64 b.now.other, .int .i64 b.now.product, .int .i64 b.now.count, .int .i64 b.now.done, .int .i64 b.now.why] _ HR.out Try.underlying41 rfl (by kernel_rfl) ?_) | (go_at_call 106; refine (HST.out _ (by exact HE.out.ext.alloc _)).mono ?_; rintro e w5 ⟨a5, c5, rfl, ho5, hb5⟩; have nb5 := Blk.of hb5; have n0 := nb5.c 0 (v := .slice a1 0 c1) rfl; have nf := nb5.f 0; have hI5 := own_put1 ho5 (C := wr.heap.size) (i := 0) (by simp) (.slice a5 128 c5); have nb6 := nb5.st 0 (.slice a5 128 c5); have HR6 := Lib.hid (Blk.range (L := [.slice a5 128 c5, .slice a2 n2 c2, .int .i64 b.now.taken, .slice a3 n3 c3, .int .i64 b.now.clock, .int .i64 b.now.at_, .int .i64 b.now.phase, .int .i64 b.now.order, .int .i64 b.now.operand, .int .i64 b.now.other, .int .i64 b.now.product, .int .i64 b.now.count, .int .i64 b.now.done, .int .i64 b.now.why]) nb6); have HB6 := Lib.hid nb6; have HI5 := Lib.hid hI5; have X5 : Ext wr (w5.setCell ⟨wr.heap.size, 0, none⟩ (.slice a5 128 c5)) := (hb5.old).setCell (p := ⟨wr.heap.size, 0, none⟩) (Nat.le_refl _) _; clear nb5 hI5 nb6) | (refine wpList_load_mid rfl 41 (.tmp 7) rfl wr.heap.size 0 rfl [.slice a5 128 c5, .slice a2 n2 c2, .int .i64 b.now.taken, .slice a3 n3 c3, .int .i64 b.now.clock, .int .i64 b.now.at_, .int .i64 b.now.phase, .int .i64 b.now.order, .int .i64 b.now.operand, .int .i64 b.now.other, .int .i64 b.now.product, .int .i64 b.now.count, .int .i64 b.now.done, .int .i64 b.now.why] _ HR6.out Try.underlying41 rfl (by kernel_rfl) ?_) | (go_at_call 45; refine (HPC.out _ _ (puAt_mk (s := stP b) HPu.out.1 HPu.out.2.1 HPu.out.2.2 HI5.out (HI2.out.1.ext (HE.out.ext.comp X5)) (HI2.out.2.ext (HE.out.ext.comp X5)))).mono ?_; rintro e w6 ⟨rfl, E6⟩))
      have X6 := X5.comp E6
      have bA6 := HA.out.ex X6
      have p15 := bA6.c 15 (v := .int .i64 b.beat) rfl
      have p16 := bA6.c 16 (v := .int .i64 b.carry) rfl
      have p17 := bA6.c 17 (v := .int .i64 b.sum) rfl
      clear HR HR6 x0 n0 nf bA6
      go_quiet ((go_at_call 64; first | exact Calls.quiet_of_same (houtF _ _ _ _ (by omega) (by omega)) | exact Calls.quiet_of_same (houtT _ _ _ _ (by omega))))
      go_wp2_with fail
      all_goals
        go_ret2
        exact ⟨rfl, below_drewN ((HE.out.ext.comp X5).comp E6) nq⟩
set_option maxRecDepth 100000 in
set_option maxHeartbeats 8000000 in
theorem enter_rng2 (aL a1 a2 a3 : Option Addr) (cL c1 n2 c2 n3 c3 : Nat) (b : PuB) (w : World) (h8 : b.lines.length = 8) (iL : LinesAt w aL b.lines) (l2 : b.now.tape.length = n2) (l3 : b.now.printed.length = n3) (i2 : IntsAt w a2 b.now.tape) (i3 : IntsAt w a3 b.now.printed) (hlen : ∀ k, k < 8 → (b.lines[k]?.getD []).length = 384) (hb : PuBd (stP b)) (he : (checkP (stP b)).2.2 = 0) (hbt : 0 ≤ b.beat ∧ b.beat ≤ 23) (hr : b.carry < 0 ∨ min b.beat 1 < b.carry) :
    Calls Try.prog 71 #[pbv aL a1 a2 a3 8 cL 0 c1 n2 c2 n3 c3 b] w (EntBad 7 w) := by
  obtain ⟨i0, hi0, ha0, ha1, ha2⟩ := info_parts Try.infoL
  have hst := fun W (E : Ext w W) => pstore_any aL cL b.lines W h8 (fun l hl => by obtain ⟨i, hi, rfl⟩ := List.getElem_of_mem hl; have := hlen i (by omega); rw [List.getElem?_eq_getElem hi] at this; exact this) (iL.ext E)
  have hsl : (stP b).store.length = 128 := by show (storeB b.lines).length = 128; rw [storeB_length, h8]
  have HST := Lib.hid hst
  have hpc := fun W v (h : PuAt W v (stP b)) => pcheck_any v (stP b) W h hb
  unfold v3 at hpc
  generalize checkP (stP b) = p at *
  obtain ⟨p, i, er⟩ := p
  dsimp only at he hpc
  subst he
  have HPC := Lib.hid hpc
  have houtF : ∀ (n lo hi : Int) W, lo ≤ n → n ≤ hi → Calls Try.prog 64 #[.int .i64 n, .int .i64 lo, .int .i64 hi] W fun e w' => e = .returned (.bool false) ∧ w' = W := fun n lo hi W h1 h2 => by
    have h := pout_any n lo hi W
    rw [inB_mk h1 h2] at h
    exact h.mono fun e w' k => ⟨k.1, k.2.symm⟩
  have houtT : ∀ (n lo hi : Int) W, n < lo ∨ hi < n → Calls Try.prog 64 #[.int .i64 n, .int .i64 lo, .int .i64 hi] W fun e w' => e = .returned (.bool true) ∧ w' = W := fun n lo hi W h1 => by
    have h := pout_any n lo hi W
    rw [show inB n lo hi = false by unfold inB; simp; omega] at h
    exact h.mono fun e w' k => ⟨k.1, k.2.symm⟩
  have HPu := Lib.hid (And.intro hsl (And.intro (show (stP b).tape.length = n2 from l2) (show (stP b).printed.length = n3 from l3)))
  have HI2 := Lib.hid (And.intro i2 i3)
  clear hst hpc hsl i2 i3 l2 l3 hb
  rcases iL with iL | ⟨bL, off, rfl, hbL, hcL⟩
  · rw [iL] at h8; simp at h8
  have H8 := Lib.hid h8
  have HCL := Lib.hid hcL
  have HLN := Lib.hid hlen
  clear h8 hcL hlen
  go_enter Try.func71, Try.ntmps71
  go_wp2_with fail
  have bG : Blk ((w.alloc (.cells #[.slice (some ⟨bL, off, none⟩) 8 cL, .slice a1 0 c1, .slice a2 n2 c2, .int .i64 b.now.taken, .slice a3 n3 c3, .int .i64 b.now.clock, .int .i64 b.now.at_, .int .i64 b.now.phase, .int .i64 b.now.order, .int .i64 b.now.operand, .int .i64 b.now.other, .int .i64 b.now.product, .int .i64 b.now.count, .int .i64 b.now.done, .int .i64 b.now.why, .int .i64 b.beat, .int .i64 b.carry, .int .i64 b.sum] 50)).alloc (.cells #[.pointer none, .slice none 0 0, .int .i64 b.beat, .int .i64 b.carry, .int .i64 b.sum] 111)) (w.heap.size + 1) #[.pointer none, .slice none 0 0, .int .i64 b.beat, .int .i64 b.carry, .int .i64 b.sum] 111 := by
    have := Blk.nw (w.alloc (.cells #[.slice (some ⟨bL, off, none⟩) 8 cL, .slice a1 0 c1, .slice a2 n2 c2, .int .i64 b.now.taken, .slice a3 n3 c3, .int .i64 b.now.clock, .int .i64 b.now.at_, .int .i64 b.now.phase, .int .i64 b.now.order, .int .i64 b.now.operand, .int .i64 b.now.other, .int .i64 b.now.product, .int .i64 b.now.count, .int .i64 b.now.done, .int .i64 b.now.why, .int .i64 b.beat, .int .i64 b.carry, .int .i64 b.sum] 50)) #[.pointer none, .slice none 0 0, .int .i64 b.beat, .int .i64 b.carry, .int .i64 b.sum] 111
    rw [World.size_alloc] at this
    exact this
  have bA : Blk ((w.alloc (.cells #[.slice (some ⟨bL, off, none⟩) 8 cL, .slice a1 0 c1, .slice a2 n2 c2, .int .i64 b.now.taken, .slice a3 n3 c3, .int .i64 b.now.clock, .int .i64 b.now.at_, .int .i64 b.now.phase, .int .i64 b.now.order, .int .i64 b.now.operand, .int .i64 b.now.other, .int .i64 b.now.product, .int .i64 b.now.count, .int .i64 b.now.done, .int .i64 b.now.why, .int .i64 b.beat, .int .i64 b.carry, .int .i64 b.sum] 50)).alloc (.cells #[.pointer none, .slice none 0 0, .int .i64 b.beat, .int .i64 b.carry, .int .i64 b.sum] 111)) w.heap.size #[.slice (some ⟨bL, off, none⟩) 8 cL, .slice a1 0 c1, .slice a2 n2 c2, .int .i64 b.now.taken, .slice a3 n3 c3, .int .i64 b.now.clock, .int .i64 b.now.at_, .int .i64 b.now.phase, .int .i64 b.now.order, .int .i64 b.now.operand, .int .i64 b.now.other, .int .i64 b.now.product, .int .i64 b.now.count, .int .i64 b.now.done, .int .i64 b.now.why, .int .i64 b.beat, .int .i64 b.carry, .int .i64 b.sum] 50 := Blk.al (Blk.nw w _ _) _
  have e0 := ((Ext.refl w).alloc (.cells #[.slice (some ⟨bL, off, none⟩) 8 cL, .slice a1 0 c1, .slice a2 n2 c2, .int .i64 b.now.taken, .slice a3 n3 c3, .int .i64 b.now.clock, .int .i64 b.now.at_, .int .i64 b.now.phase, .int .i64 b.now.order, .int .i64 b.now.operand, .int .i64 b.now.other, .int .i64 b.now.product, .int .i64 b.now.count, .int .i64 b.now.done, .int .i64 b.now.why, .int .i64 b.beat, .int .i64 b.carry, .int .i64 b.sum] 50)).alloc (.cells #[.pointer none, .slice none 0 0, .int .i64 b.beat, .int .i64 b.carry, .int .i64 b.sum] 111)
  have Hst := Lib.hid (And.intro bG (And.intro bA e0))
  clear bG bA e0
  go_loopw [33] (fun i wr => ∃ (k : Nat) (la : Option Addr) (lc : Nat) (vs : Nat → Value), k ≤ 8 ∧ i = .int .i64 k ∧ EntL w wr (w.heap.size + 1) b k la lc vs ∧ Blk wr w.heap.size #[.slice (some ⟨bL, off, none⟩) 8 cL, .slice a1 0 c1, .slice a2 n2 c2, .int .i64 b.now.taken, .slice a3 n3 c3, .int .i64 b.now.clock, .int .i64 b.now.at_, .int .i64 b.now.phase, .int .i64 b.now.order, .int .i64 b.now.operand, .int .i64 b.now.other, .int .i64 b.now.product, .int .i64 b.now.count, .int .i64 b.now.done, .int .i64 b.now.why, .int .i64 b.beat, .int .i64 b.carry, .int .i64 b.sum] 50) (fun i _ => 8 - (intOf i).toNat)
  case atStart =>
    obtain ⟨bG, bA, e0⟩ := Hst.out
    exact ⟨0, none, 0, fun _ => .slice none 0 0, by omega, rfl, ⟨e0, bG, World.ownsRow_nil _ _ _ _, nofun, nofun⟩, bA⟩
  case round =>
    obtain ⟨k, la, lc, vs, hk, rfl, hE, hA⟩ := hrel
    by_cases hlt : k < 8
    · have g1' := hE.gat.c 1 (v := .slice la k lc) rfl
      have gf := hE.gat.f 1
      have HE := Lib.hid hE
      have HA := Lib.hid hA
      have hltz : (k : Int) < 8 := by omega
      obtain ⟨al, cl, hcl, ⟨hk1, hk2⟩, hbl⟩ := HCL.out k (by rw [H8.out]; omega)
      have hl384 : (b.lines[k]?.getD []).length = 384 := HLN.out k hlt
      rw [hl384] at hcl hk1
      have hclr := (hE.ext.cell (p := ⟨bL, off + k, none⟩) hbL).trans hcl
      have hfr := fun W (E : Ext w W) => freshb_any al 384 cl (b.lines[k]?.getD []) W hl384 (by decide) (hbl.ext E)
      have hgl := hE.gat.lt
      have HL3 := Lib.hid hl384
      clear hE hA hcl hbl hl384
      go_wp2_with fail
      go_region_law (first
        | (go_simp; go_at_call 105; refine (hfr _ (by exact (HE.out.ext.comp (below_drewN (Ext.refl wr) 1)))).mono ?_; rintro e w5 ⟨a5, c5, rfl, ho5, hb5⟩; have E5 : Ext wr w5 := Ext.comp (below_drewN (Ext.refl wr) 1) hb5; have g5 := (E5.cell (p := ⟨w.heap.size + 1, 1, none⟩) hgl).trans g1'; have hz5 : w.heap.size + 1 < w5.heap.size := Nat.lt_of_lt_of_le hgl E5.size)
        | (refine step_app (w0 := w) (by rfl) _ _ 48 (by rfl) 69 i0 (.slice none 0 0) 1 24 Try.underlying48 hi0 ha0 ha1 ha2 (by rfl) (by decide) (.slice la k lc) k w.heap.size ((List.range k).map vs) (by rfl) (World.ownsRow.alloc (own_later HE.out.own (fun q hq => E5.block q (own_lt HE.out.own hq))) _) ((HE.out.ext.comp E5).alloc _) (Nat.le_refl _) (by have := (HE.out.ext.comp E5).size; simp; omega) (some ⟨w5.heap.size, 0, none⟩) 1 1 [.slice a5 384 c5] (by rfl) (by rfl) (.inr ⟨_, rfl, cell_one_new _ _ _⟩) (by simp [Value.oneCell']) (by unfold maxLen; omega) (by omega) ?_; intro a6 c6 w6 ho6 hE6 hg6; have bG6 := HE.out.gat6 E5 hg6; have g6 := bG6.c 1 (v := .slice la k lc) rfl; have f6 := bG6.f 1))
      all_goals
        have hst := HE.out.step E5 ho5 (below_drewN (Ext.refl wr) 1).size ho6 hg6 hE6
        have hA6 := HE.out.keep E5 hg6 HA.out (by decide) (by omega) (.slice a6 (k + 1) c6)
        go_wp2_with fail
        go_roundw
        case rel => exact ⟨k + 1, a6, c6, _, by omega, by simp, hst, hA6⟩
        case measure => simp [intOf]; omega
    · have hltz : ¬ (k : Int) < 8 := by omega
      obtain rfl : k = 8 := by omega
      obtain ⟨LB, rfl⟩ := hE.form
      have HE := Lib.hid hE
      have HA := Lib.hid hA
      have HR := Lib.hid hA.range14
      have x0 := fun ob => (hA.al ob).c 0 (v := .slice (some ⟨bL, off, none⟩) 8 cL) rfl
      clear hE hA
      go_wp2_with (first | (refine wpList_load_mid rfl 41 (.tmp 52) rfl w.heap.size 1 rfl [.slice a1 0 c1, .slice a2 n2 c2, .int .i64 b.now.taken, .slice a3 n3 c3, .int .i64 b.now.clock, .int .i64 b.now.at_, .int .i64 b.now.phase, .int .i64 b.now.order, .int .i64 b.now.operand, .int .i64 b.now.other, .int .i64 b.now.product, .int .i64 b.now.count, .int .i64 b.now.done, .int .i64 b.now.why] _ HR.out Try.underlying41 rfl (by kernel_rfl) ?_) | (go_at_call 106; refine (HST.out _ (by exact HE.out.ext.alloc _)).mono ?_; rintro e w5 ⟨a5, c5, rfl, ho5, hb5⟩; have nb5 := Blk.of hb5; have n0 := nb5.c 0 (v := .slice a1 0 c1) rfl; have nf := nb5.f 0; have hI5 := own_put1 ho5 (C := wr.heap.size) (i := 0) (by simp) (.slice a5 128 c5); have nb6 := nb5.st 0 (.slice a5 128 c5); have HR6 := Lib.hid (Blk.range (L := [.slice a5 128 c5, .slice a2 n2 c2, .int .i64 b.now.taken, .slice a3 n3 c3, .int .i64 b.now.clock, .int .i64 b.now.at_, .int .i64 b.now.phase, .int .i64 b.now.order, .int .i64 b.now.operand, .int .i64 b.now.other, .int .i64 b.now.product, .int .i64 b.now.count, .int .i64 b.now.done, .int .i64 b.now.why]) nb6); have HB6 := Lib.hid nb6; have HI5 := Lib.hid hI5; have X5 : Ext wr (w5.setCell ⟨wr.heap.size, 0, none⟩ (.slice a5 128 c5)) := (hb5.old).setCell (p := ⟨wr.heap.size, 0, none⟩) (Nat.le_refl _) _; clear nb5 hI5 nb6) | (refine wpList_load_mid rfl 41 (.tmp 7) rfl wr.heap.size 0 rfl [.slice a5 128 c5, .slice a2 n2 c2, .int .i64 b.now.taken, .slice a3 n3 c3, .int .i64 b.now.clock, .int .i64 b.now.at_, .int .i64 b.now.phase, .int .i64 b.now.order, .int .i64 b.now.operand, .int .i64 b.now.other, .int .i64 b.now.product, .int .i64 b.now.count, .int .i64 b.now.done, .int .i64 b.now.why] _ HR6.out Try.underlying41 rfl (by kernel_rfl) ?_) | (go_at_call 45; refine (HPC.out _ _ (puAt_mk (s := stP b) HPu.out.1 HPu.out.2.1 HPu.out.2.2 HI5.out (HI2.out.1.ext (HE.out.ext.comp X5)) (HI2.out.2.ext (HE.out.ext.comp X5)))).mono ?_; rintro e w6 ⟨rfl, E6⟩))
      have X6 := X5.comp E6
      have bA6 := HA.out.ex X6
      have p15 := bA6.c 15 (v := .int .i64 b.beat) rfl
      have p16 := bA6.c 16 (v := .int .i64 b.carry) rfl
      have p17 := bA6.c 17 (v := .int .i64 b.sum) rfl
      clear HR HR6 x0 n0 nf bA6
      go_quiet ((go_at_call 64; first | exact Calls.quiet_of_same (houtF _ _ _ _ (by omega) (by omega)) | exact Calls.quiet_of_same (houtT _ _ _ _ (by omega))))
      go_wp2_with fail
      all_goals
        go_ret2
        exact ⟨rfl, below_drewN ((HE.out.ext.comp X5).comp E6) nq⟩
set_option maxRecDepth 100000 in
set_option maxHeartbeats 8000000 in
theorem enter_rng3 (aL a1 a2 a3 : Option Addr) (cL c1 n2 c2 n3 c3 : Nat) (b : PuB) (w : World) (h8 : b.lines.length = 8) (iL : LinesAt w aL b.lines) (l2 : b.now.tape.length = n2) (l3 : b.now.printed.length = n3) (i2 : IntsAt w a2 b.now.tape) (i3 : IntsAt w a3 b.now.printed) (hlen : ∀ k, k < 8 → (b.lines[k]?.getD []).length = 384) (hb : PuBd (stP b)) (he : (checkP (stP b)).2.2 = 0) (hbt : 0 ≤ b.beat ∧ b.beat ≤ 23) (hca : 0 ≤ b.carry ∧ b.carry ≤ min b.beat 1) (hr : b.sum < 0 ∨ 2 ^ b.beat.toNat - 1 < b.sum) :
    Calls Try.prog 71 #[pbv aL a1 a2 a3 8 cL 0 c1 n2 c2 n3 c3 b] w (EntBad 7 w) := by
  obtain ⟨i0, hi0, ha0, ha1, ha2⟩ := info_parts Try.infoL
  have hst := fun W (E : Ext w W) => pstore_any aL cL b.lines W h8 (fun l hl => by obtain ⟨i, hi, rfl⟩ := List.getElem_of_mem hl; have := hlen i (by omega); rw [List.getElem?_eq_getElem hi] at this; exact this) (iL.ext E)
  have hsl : (stP b).store.length = 128 := by show (storeB b.lines).length = 128; rw [storeB_length, h8]
  have HST := Lib.hid hst
  have hpc := fun W v (h : PuAt W v (stP b)) => pcheck_any v (stP b) W h hb
  unfold v3 at hpc
  generalize checkP (stP b) = p at *
  obtain ⟨p, i, er⟩ := p
  dsimp only at he hpc
  subst he
  have HPC := Lib.hid hpc
  have houtF : ∀ (n lo hi : Int) W, lo ≤ n → n ≤ hi → Calls Try.prog 64 #[.int .i64 n, .int .i64 lo, .int .i64 hi] W fun e w' => e = .returned (.bool false) ∧ w' = W := fun n lo hi W h1 h2 => by
    have h := pout_any n lo hi W
    rw [inB_mk h1 h2] at h
    exact h.mono fun e w' k => ⟨k.1, k.2.symm⟩
  have houtT : ∀ (n lo hi : Int) W, n < lo ∨ hi < n → Calls Try.prog 64 #[.int .i64 n, .int .i64 lo, .int .i64 hi] W fun e w' => e = .returned (.bool true) ∧ w' = W := fun n lo hi W h1 => by
    have h := pout_any n lo hi W
    rw [show inB n lo hi = false by unfold inB; simp; omega] at h
    exact h.mono fun e w' k => ⟨k.1, k.2.symm⟩
  have HPu := Lib.hid (And.intro hsl (And.intro (show (stP b).tape.length = n2 from l2) (show (stP b).printed.length = n3 from l3)))
  have HI2 := Lib.hid (And.intro i2 i3)
  clear hst hpc hsl i2 i3 l2 l3 hb
  rcases iL with iL | ⟨bL, off, rfl, hbL, hcL⟩
  · rw [iL] at h8; simp at h8
  have H8 := Lib.hid h8
  have HCL := Lib.hid hcL
  have HLN := Lib.hid hlen
  clear h8 hcL hlen
  go_enter Try.func71, Try.ntmps71
  go_wp2_with fail
  have bG : Blk ((w.alloc (.cells #[.slice (some ⟨bL, off, none⟩) 8 cL, .slice a1 0 c1, .slice a2 n2 c2, .int .i64 b.now.taken, .slice a3 n3 c3, .int .i64 b.now.clock, .int .i64 b.now.at_, .int .i64 b.now.phase, .int .i64 b.now.order, .int .i64 b.now.operand, .int .i64 b.now.other, .int .i64 b.now.product, .int .i64 b.now.count, .int .i64 b.now.done, .int .i64 b.now.why, .int .i64 b.beat, .int .i64 b.carry, .int .i64 b.sum] 50)).alloc (.cells #[.pointer none, .slice none 0 0, .int .i64 b.beat, .int .i64 b.carry, .int .i64 b.sum] 111)) (w.heap.size + 1) #[.pointer none, .slice none 0 0, .int .i64 b.beat, .int .i64 b.carry, .int .i64 b.sum] 111 := by
    have := Blk.nw (w.alloc (.cells #[.slice (some ⟨bL, off, none⟩) 8 cL, .slice a1 0 c1, .slice a2 n2 c2, .int .i64 b.now.taken, .slice a3 n3 c3, .int .i64 b.now.clock, .int .i64 b.now.at_, .int .i64 b.now.phase, .int .i64 b.now.order, .int .i64 b.now.operand, .int .i64 b.now.other, .int .i64 b.now.product, .int .i64 b.now.count, .int .i64 b.now.done, .int .i64 b.now.why, .int .i64 b.beat, .int .i64 b.carry, .int .i64 b.sum] 50)) #[.pointer none, .slice none 0 0, .int .i64 b.beat, .int .i64 b.carry, .int .i64 b.sum] 111
    rw [World.size_alloc] at this
    exact this
  have bA : Blk ((w.alloc (.cells #[.slice (some ⟨bL, off, none⟩) 8 cL, .slice a1 0 c1, .slice a2 n2 c2, .int .i64 b.now.taken, .slice a3 n3 c3, .int .i64 b.now.clock, .int .i64 b.now.at_, .int .i64 b.now.phase, .int .i64 b.now.order, .int .i64 b.now.operand, .int .i64 b.now.other, .int .i64 b.now.product, .int .i64 b.now.count, .int .i64 b.now.done, .int .i64 b.now.why, .int .i64 b.beat, .int .i64 b.carry, .int .i64 b.sum] 50)).alloc (.cells #[.pointer none, .slice none 0 0, .int .i64 b.beat, .int .i64 b.carry, .int .i64 b.sum] 111)) w.heap.size #[.slice (some ⟨bL, off, none⟩) 8 cL, .slice a1 0 c1, .slice a2 n2 c2, .int .i64 b.now.taken, .slice a3 n3 c3, .int .i64 b.now.clock, .int .i64 b.now.at_, .int .i64 b.now.phase, .int .i64 b.now.order, .int .i64 b.now.operand, .int .i64 b.now.other, .int .i64 b.now.product, .int .i64 b.now.count, .int .i64 b.now.done, .int .i64 b.now.why, .int .i64 b.beat, .int .i64 b.carry, .int .i64 b.sum] 50 := Blk.al (Blk.nw w _ _) _
  have e0 := ((Ext.refl w).alloc (.cells #[.slice (some ⟨bL, off, none⟩) 8 cL, .slice a1 0 c1, .slice a2 n2 c2, .int .i64 b.now.taken, .slice a3 n3 c3, .int .i64 b.now.clock, .int .i64 b.now.at_, .int .i64 b.now.phase, .int .i64 b.now.order, .int .i64 b.now.operand, .int .i64 b.now.other, .int .i64 b.now.product, .int .i64 b.now.count, .int .i64 b.now.done, .int .i64 b.now.why, .int .i64 b.beat, .int .i64 b.carry, .int .i64 b.sum] 50)).alloc (.cells #[.pointer none, .slice none 0 0, .int .i64 b.beat, .int .i64 b.carry, .int .i64 b.sum] 111)
  have Hst := Lib.hid (And.intro bG (And.intro bA e0))
  clear bG bA e0
  go_loopw [33] (fun i wr => ∃ (k : Nat) (la : Option Addr) (lc : Nat) (vs : Nat → Value), k ≤ 8 ∧ i = .int .i64 k ∧ EntL w wr (w.heap.size + 1) b k la lc vs ∧ Blk wr w.heap.size #[.slice (some ⟨bL, off, none⟩) 8 cL, .slice a1 0 c1, .slice a2 n2 c2, .int .i64 b.now.taken, .slice a3 n3 c3, .int .i64 b.now.clock, .int .i64 b.now.at_, .int .i64 b.now.phase, .int .i64 b.now.order, .int .i64 b.now.operand, .int .i64 b.now.other, .int .i64 b.now.product, .int .i64 b.now.count, .int .i64 b.now.done, .int .i64 b.now.why, .int .i64 b.beat, .int .i64 b.carry, .int .i64 b.sum] 50) (fun i _ => 8 - (intOf i).toNat)
  case atStart =>
    obtain ⟨bG, bA, e0⟩ := Hst.out
    exact ⟨0, none, 0, fun _ => .slice none 0 0, by omega, rfl, ⟨e0, bG, World.ownsRow_nil _ _ _ _, nofun, nofun⟩, bA⟩
  case round =>
    obtain ⟨k, la, lc, vs, hk, rfl, hE, hA⟩ := hrel
    by_cases hlt : k < 8
    · have g1' := hE.gat.c 1 (v := .slice la k lc) rfl
      have gf := hE.gat.f 1
      have HE := Lib.hid hE
      have HA := Lib.hid hA
      have hltz : (k : Int) < 8 := by omega
      obtain ⟨al, cl, hcl, ⟨hk1, hk2⟩, hbl⟩ := HCL.out k (by rw [H8.out]; omega)
      have hl384 : (b.lines[k]?.getD []).length = 384 := HLN.out k hlt
      rw [hl384] at hcl hk1
      have hclr := (hE.ext.cell (p := ⟨bL, off + k, none⟩) hbL).trans hcl
      have hfr := fun W (E : Ext w W) => freshb_any al 384 cl (b.lines[k]?.getD []) W hl384 (by decide) (hbl.ext E)
      have hgl := hE.gat.lt
      have HL3 := Lib.hid hl384
      clear hE hA hcl hbl hl384
      go_wp2_with fail
      go_region_law (first
        | (go_simp; go_at_call 105; refine (hfr _ (by exact (HE.out.ext.comp (below_drewN (Ext.refl wr) 1)))).mono ?_; rintro e w5 ⟨a5, c5, rfl, ho5, hb5⟩; have E5 : Ext wr w5 := Ext.comp (below_drewN (Ext.refl wr) 1) hb5; have g5 := (E5.cell (p := ⟨w.heap.size + 1, 1, none⟩) hgl).trans g1'; have hz5 : w.heap.size + 1 < w5.heap.size := Nat.lt_of_lt_of_le hgl E5.size)
        | (refine step_app (w0 := w) (by rfl) _ _ 48 (by rfl) 69 i0 (.slice none 0 0) 1 24 Try.underlying48 hi0 ha0 ha1 ha2 (by rfl) (by decide) (.slice la k lc) k w.heap.size ((List.range k).map vs) (by rfl) (World.ownsRow.alloc (own_later HE.out.own (fun q hq => E5.block q (own_lt HE.out.own hq))) _) ((HE.out.ext.comp E5).alloc _) (Nat.le_refl _) (by have := (HE.out.ext.comp E5).size; simp; omega) (some ⟨w5.heap.size, 0, none⟩) 1 1 [.slice a5 384 c5] (by rfl) (by rfl) (.inr ⟨_, rfl, cell_one_new _ _ _⟩) (by simp [Value.oneCell']) (by unfold maxLen; omega) (by omega) ?_; intro a6 c6 w6 ho6 hE6 hg6; have bG6 := HE.out.gat6 E5 hg6; have g6 := bG6.c 1 (v := .slice la k lc) rfl; have f6 := bG6.f 1))
      all_goals
        have hst := HE.out.step E5 ho5 (below_drewN (Ext.refl wr) 1).size ho6 hg6 hE6
        have hA6 := HE.out.keep E5 hg6 HA.out (by decide) (by omega) (.slice a6 (k + 1) c6)
        go_wp2_with fail
        go_roundw
        case rel => exact ⟨k + 1, a6, c6, _, by omega, by simp, hst, hA6⟩
        case measure => simp [intOf]; omega
    · have hltz : ¬ (k : Int) < 8 := by omega
      obtain rfl : k = 8 := by omega
      obtain ⟨LB, rfl⟩ := hE.form
      have HE := Lib.hid hE
      have HA := Lib.hid hA
      have HR := Lib.hid hA.range14
      have x0 := fun ob => (hA.al ob).c 0 (v := .slice (some ⟨bL, off, none⟩) 8 cL) rfl
      clear hE hA
      go_wp2_with (first | (refine wpList_load_mid rfl 41 (.tmp 52) rfl w.heap.size 1 rfl [.slice a1 0 c1, .slice a2 n2 c2, .int .i64 b.now.taken, .slice a3 n3 c3, .int .i64 b.now.clock, .int .i64 b.now.at_, .int .i64 b.now.phase, .int .i64 b.now.order, .int .i64 b.now.operand, .int .i64 b.now.other, .int .i64 b.now.product, .int .i64 b.now.count, .int .i64 b.now.done, .int .i64 b.now.why] _ HR.out Try.underlying41 rfl (by kernel_rfl) ?_) | (go_at_call 106; refine (HST.out _ (by exact HE.out.ext.alloc _)).mono ?_; rintro e w5 ⟨a5, c5, rfl, ho5, hb5⟩; have nb5 := Blk.of hb5; have n0 := nb5.c 0 (v := .slice a1 0 c1) rfl; have nf := nb5.f 0; have hI5 := own_put1 ho5 (C := wr.heap.size) (i := 0) (by simp) (.slice a5 128 c5); have nb6 := nb5.st 0 (.slice a5 128 c5); have HR6 := Lib.hid (Blk.range (L := [.slice a5 128 c5, .slice a2 n2 c2, .int .i64 b.now.taken, .slice a3 n3 c3, .int .i64 b.now.clock, .int .i64 b.now.at_, .int .i64 b.now.phase, .int .i64 b.now.order, .int .i64 b.now.operand, .int .i64 b.now.other, .int .i64 b.now.product, .int .i64 b.now.count, .int .i64 b.now.done, .int .i64 b.now.why]) nb6); have HB6 := Lib.hid nb6; have HI5 := Lib.hid hI5; have X5 : Ext wr (w5.setCell ⟨wr.heap.size, 0, none⟩ (.slice a5 128 c5)) := (hb5.old).setCell (p := ⟨wr.heap.size, 0, none⟩) (Nat.le_refl _) _; clear nb5 hI5 nb6) | (refine wpList_load_mid rfl 41 (.tmp 7) rfl wr.heap.size 0 rfl [.slice a5 128 c5, .slice a2 n2 c2, .int .i64 b.now.taken, .slice a3 n3 c3, .int .i64 b.now.clock, .int .i64 b.now.at_, .int .i64 b.now.phase, .int .i64 b.now.order, .int .i64 b.now.operand, .int .i64 b.now.other, .int .i64 b.now.product, .int .i64 b.now.count, .int .i64 b.now.done, .int .i64 b.now.why] _ HR6.out Try.underlying41 rfl (by kernel_rfl) ?_) | (go_at_call 45; refine (HPC.out _ _ (puAt_mk (s := stP b) HPu.out.1 HPu.out.2.1 HPu.out.2.2 HI5.out (HI2.out.1.ext (HE.out.ext.comp X5)) (HI2.out.2.ext (HE.out.ext.comp X5)))).mono ?_; rintro e w6 ⟨rfl, E6⟩))
      have X6 := X5.comp E6
      have bA6 := HA.out.ex X6
      have p15 := bA6.c 15 (v := .int .i64 b.beat) rfl
      have p16 := bA6.c 16 (v := .int .i64 b.carry) rfl
      have p17 := bA6.c 17 (v := .int .i64 b.sum) rfl
      clear HR HR6 x0 n0 nf bA6
      have h23 : (2 : Nat) ^ b.beat.toNat ≤ 2 ^ 23 := Nat.pow_le_pow_right (by decide) (by omega)
      have h23' : (2 : Nat) ^ 23 = 8388608 := by decide
      have e2p := two_pow_cast b.beat.toNat
      have hpw : (2 : Int) ^ b.beat.toNat ≤ 8388608 := by omega
      have hpz : 1 ≤ (2 : Int) ^ b.beat.toNat := by have := Nat.two_pow_pos b.beat.toNat; omega
      clear h23 h23' e2p
      have hw1 : IntKind.i64.wrap (2 ^ b.beat.toNat) = 2 ^ b.beat.toNat := IntWalk.i64_in _ (by omega)
      have hw2 : IntKind.i64.wrap (1 * 2 ^ b.beat.toNat) = 2 ^ b.beat.toNat := by rw [Int.one_mul]; exact hw1
      have hw3 : IntKind.i64.wrap (2 ^ b.beat.toNat - 1) = 2 ^ b.beat.toNat - 1 := IntWalk.i64_in _ (by omega)
      go_quiet ((go_at_call 64; first | exact Calls.quiet_of_same (houtF _ _ _ _ (by omega) (by omega)) | exact Calls.quiet_of_same (houtT _ _ _ _ (by omega))))
      go_wp2_with fail
      all_goals
        go_ret2
        exact ⟨rfl, below_drewN ((HE.out.ext.comp X5).comp E6) nq⟩
end Go.Proofs.Ytjfggepgjpdebaa

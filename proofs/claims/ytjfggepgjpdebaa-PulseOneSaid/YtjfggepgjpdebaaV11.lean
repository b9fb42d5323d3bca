/- Contracts: pulse's enter, Words and Beats, at any pulses. -/
import Derived.Test.YtjfggepgjpdebaaM19
import Derived.Test.YtjfggepgjpdebaaM11
import Derived.Test.YtjfggepgjpdebaaV10
set_option linter.unusedVariables false
set_option linter.unusedSimpArgs false
namespace Go.Proofs.Ytjfggepgjpdebaa
open Go.RowKit Go.Q

/-- the first line of another length -/
theorem first_odd : ∀ (ls : List (List Bool)), (∀ k, k < ls.length → (ls[k]?.getD []).length = 384) ∨ ∃ N, N < ls.length ∧ (∀ k, k < N → (ls[k]?.getD []).length = 384) ∧ (ls[N]?.getD []).length ≠ 384
  | [] => .inl (fun k h => by simp at h)
  | l :: ls => by
    by_cases hl : l.length = 384
    · rcases first_odd ls with h | ⟨N, h1, h2, h3⟩
      · refine .inl (fun k hk => ?_)
        match k, hk with
        | 0, _ => exact hl
        | k + 1, hk => exact h k (by simpa using hk)
      · refine .inr ⟨N + 1, by simpa using h1, fun k hk => ?_, h3⟩
        match k, hk with
        | 0, _ => exact hl
        | k + 1, hk => exact h2 k (by omega)
    · exact .inr ⟨0, by simp, fun k hk => by omega, hl⟩
theorem enter_bad (aL a1 a2 a3 : Option Addr) (cL c1 c2 c3 : Nat) (b : PuB) (w : World) (hb : PbBd b)
    (iL : LinesAt w aL b.lines) (i2 : IntsAt w a2 b.now.tape) (i3 : IntsAt w a3 b.now.printed) (he : stateE b ≠ 0) :
    Calls Try.prog 71 #[pbv aL a1 a2 a3 b.lines.length cL b.now.store.length c1 b.now.tape.length c2 b.now.printed.length c3 b] w (EntBad (stateE b) w) := by
  obtain ⟨bl, ⟨bs, bt, bp⟩, bll⟩ := hb
  have long : longB b = false → stateE b = 3 := fun h => by unfold stateE; rw [if_pos h]
  by_cases h8 : b.lines.length = 8
  · by_cases h1 : b.now.store.length = 0
    · rcases first_odd b.lines with hall | ⟨N, hN, hlt, hne⟩
      · have hlong : longB b = true := by
          unfold longB
          simp only [Bool.and_eq_true, decide_eq_true_eq, List.all_eq_true]
          refine ⟨⟨h8, h1⟩, fun l hl => ?_⟩
          obtain ⟨i, hi, rfl⟩ := List.getElem_of_mem hl
          have := hall i hi
          rwa [List.getElem?_eq_getElem hi] at this
        have hlen : ∀ k, k < 8 → (b.lines[k]?.getD []).length = 384 := fun k hk => hall k (by omega)
        have hsl : (stP b).store.length = 128 := by show (storeB b.lines).length = 128; rw [storeB_length, h8]
        have hbd : PuBd (stP b) := ⟨by rw [hsl]; decide, bt, bp⟩
        have hst : stateE b = if (checkP (stP b)).2.2 ≠ 0 then (checkP (stP b)).2.2 else if rangeB b = false then 7 else 0 := by
          unfold stateE
          rw [if_neg (by rw [hlong]; decide)]
        rw [h8, h1]
        by_cases hc : (checkP (stP b)).2.2 = 0
        · rw [if_neg (by rw [hc]; decide)] at hst
          by_cases hr : rangeB b = false
          · rw [if_pos hr] at hst
            rw [hst]
            by_cases r1 : b.beat < 0 ∨ 23 < b.beat
            · exact enter_rng1 aL a1 a2 a3 cL c1 _ c2 _ c3 b w h8 iL rfl rfl i2 i3 hlen hbd hc r1
            by_cases r2 : b.carry < 0 ∨ min b.beat 1 < b.carry
            · exact enter_rng2 aL a1 a2 a3 cL c1 _ c2 _ c3 b w h8 iL rfl rfl i2 i3 hlen hbd hc (by omega) r2
            refine enter_rng3 aL a1 a2 a3 cL c1 _ c2 _ c3 b w h8 iL rfl rfl i2 i3 hlen hbd hc (by omega) (by omega) ?_
            apply Decidable.byContradiction
            intro r3
            have : rangeB b = true := by
              unfold rangeB
              simp only [Bool.and_eq_true, Bool.not_eq_true', Bool.and_eq_false_iff, decide_eq_false_iff_not]
              exact ⟨⟨⟨inB_mk (by omega) (by omega), inB_mk (by omega) (by omega)⟩, by omega⟩, inB_mk (by omega) (by omega)⟩
            rw [this] at hr; cases hr
          · rw [if_neg hr] at hst
            exact absurd hst he
        · rw [if_pos hc] at hst
          rw [hst]
          exact enter_chk aL a1 a2 a3 cL c1 _ c2 _ c3 b w h8 iL rfl rfl i2 i3 hlen hbd hc
      · have hlong : longB b = false := by
          rw [Bool.eq_false_iff]
          intro h
          unfold longB at h
          simp only [Bool.and_eq_true, decide_eq_true_eq, List.all_eq_true] at h
          apply hne
          rw [List.getElem?_eq_getElem hN]
          exact h.2 _ (List.getElem_mem _)
        rw [long hlong, h8, h1]
        have hmb : (b.lines[N]?.getD []).length ≤ 9223372036854775807 := by
          rw [List.getElem?_eq_getElem hN]
          exact bll _ (List.getElem_mem _)
        exact enter_line aL a1 a2 a3 cL c1 _ c2 _ c3 b w h8 iL N _ (by omega) hlt rfl hne hmb
    · have hlong : longB b = false := by
        unfold longB
        rw [show decide (b.now.store.length = 0) = false by simpa using h1]; simp
      rw [long hlong]
      exact enter_long2 aL a1 a2 a3 _ cL _ c1 _ c2 _ c3 b w h8 (by omega) bs
  · have hlong : longB b = false := by
      unfold longB
      rw [show decide (b.lines.length = 8) = false by simpa using h8]; simp
    rw [long hlong]
    exact enter_long1 aL a1 a2 a3 _ cL _ c1 _ c2 _ c3 b w h8 bl
set_option maxRecDepth 100000 in
set_option maxHeartbeats 8000000 in
theorem words_bad (v : Value) (b : PuB) (w : World) (h : PbAt w v b) (hb : PbBd b) (he : stateE b ≠ 0) : Calls Try.prog 34 #[v] w (PuRes (zpu, stateE b) w) := by
  obtain ⟨aL, a1, a2, a3, cL, c1, c2, c3, rfl, iL, i1, i2, i3⟩ := h
  have hen := fun W (E : Ext w W) => enter_bad aL a1 a2 a3 cL c1 c2 c3 b W hb (iL.ext E) (i2.ext E) (i3.ext E) he
  generalize stateE b = er at *
  have hz2 : (er != 0) = true := by simpa using he
  clear he hb iL i1 i2 i3
  generalize b.lines.length = nL at *
  generalize b.now.store.length = n1 at *
  generalize b.now.tape.length = n2 at *
  generalize b.now.printed.length = n3 at *
  have HR := Lib.hid (Blk.range (L := [.slice aL nL cL, .slice a1 n1 c1, .slice a2 n2 c2, .int .i64 b.now.taken, .slice a3 n3 c3, .int .i64 b.now.clock, .int .i64 b.now.at_, .int .i64 b.now.phase, .int .i64 b.now.order, .int .i64 b.now.operand, .int .i64 b.now.other, .int .i64 b.now.product, .int .i64 b.now.count, .int .i64 b.now.done, .int .i64 b.now.why, .int .i64 b.beat, .int .i64 b.carry, .int .i64 b.sum]) (Blk.al (Blk.nw w #[.slice aL nL cL, .slice a1 n1 c1, .slice a2 n2 c2, .int .i64 b.now.taken, .slice a3 n3 c3, .int .i64 b.now.clock, .int .i64 b.now.at_, .int .i64 b.now.phase, .int .i64 b.now.order, .int .i64 b.now.operand, .int .i64 b.now.other, .int .i64 b.now.product, .int .i64 b.now.count, .int .i64 b.now.done, .int .i64 b.now.why, .int .i64 b.beat, .int .i64 b.carry, .int .i64 b.sum] 50) (.cells #[.slice none 0 0, .slice none 0 0, .int .i64 0, .slice none 0 0, .int .i64 0, .int .i64 0, .int .i64 0, .int .i64 0, .int .i64 0, .int .i64 0, .int .i64 0, .int .i64 0, .int .i64 0, .int .i64 0] 41)))
  go_enter Try.func34, Try.ntmps34
  go_wp2_with (first | (refine wpList_load_mid rfl 50 (.tmp 1) rfl w.heap.size 0 rfl [.slice aL nL cL, .slice a1 n1 c1, .slice a2 n2 c2, .int .i64 b.now.taken, .slice a3 n3 c3, .int .i64 b.now.clock, .int .i64 b.now.at_, .int .i64 b.now.phase, .int .i64 b.now.order, .int .i64 b.now.operand, .int .i64 b.now.other, .int .i64 b.now.product, .int .i64 b.now.count, .int .i64 b.now.done, .int .i64 b.now.why, .int .i64 b.beat, .int .i64 b.carry, .int .i64 b.sum] _ HR.out Try.underlying50 rfl (by kernel_rfl) ?_))
  refine (hen _ (by repeat (first | with_reducible exact Ext.refl _ | with_reducible refine Ext.alloc ?_ _ | with_reducible refine Below.drew ?_))).mono ?_
  rintro e w1 ⟨rfl, E1⟩
  have rb := Blk.of E1
  rw [World.size_alloc] at rb
  have HT := Lib.hid (Blk.there rb)
  have HF := Lib.hid E1.old.old
  clear rb E1
  go_wp2_with (first | (refine wpList_store_mid rfl 41 (.tmp 2) (.tmp 14) rfl (w.heap.size + 1) 0 [.slice none 0 0, .slice none 0 0, .int .i64 0, .slice none 0 0, .int .i64 0, .int .i64 0, .int .i64 0, .int .i64 0, .int .i64 0, .int .i64 0, .int .i64 0, .int .i64 0, .int .i64 0, .int .i64 0].toArray rfl rfl HT.out (by kernel_rfl) (by simp [Value.oneCell']) ?_))
  have hW : Ext w (w1.setCells (w.heap.size + 1) 0 [.slice none 0 0, .slice none 0 0, .int .i64 0, .slice none 0 0, .int .i64 0, .int .i64 0, .int .i64 0, .int .i64 0, .int .i64 0, .int .i64 0, .int .i64 0, .int .i64 0, .int .i64 0, .int .i64 0]) := (OnlyB.sets _ _ _ (OnlyB.refl (w.heap.size + 1) _)).ext HF.out (Nat.le_succ _)
  have r3 : (w1.setCells (w.heap.size + 1) 0 [.slice none 0 0, .slice none 0 0, .int .i64 0, .slice none 0 0, .int .i64 0, .int .i64 0, .int .i64 0, .int .i64 0, .int .i64 0, .int .i64 0, .int .i64 0, .int .i64 0, .int .i64 0, .int .i64 0]).rangeAt (w.heap.size + 1) 0 [.slice none 0 0, .slice none 0 0, .int .i64 0, .slice none 0 0, .int .i64 0, .int .i64 0, .int .i64 0, .int .i64 0, .int .i64 0, .int .i64 0, .int .i64 0, .int .i64 0, .int .i64 0, .int .i64 0] := World.rangeAt_setCells_same _ _ _ _ HT.out
  obtain ⟨W3, hW3⟩ : ∃ W3 : World, W3 = w1.setCells (w.heap.size + 1) 0 [.slice none 0 0, .slice none 0 0, .int .i64 0, .slice none 0 0, .int .i64 0, .int .i64 0, .int .i64 0, .int .i64 0, .int .i64 0, .int .i64 0, .int .i64 0, .int .i64 0, .int .i64 0, .int .i64 0] := ⟨_, rfl⟩
  rw [← hW3] at hW r3
  (try dsimp only [Act.put])
  rw [← hW3]
  clear hW3
  have z0 : W3.cell? ⟨w.heap.size + 1, 0, none⟩ = some (.slice none 0 0) := by simpa using r3 0 _ rfl
  have z1 : W3.cell? ⟨w.heap.size + 1, 1, none⟩ = some (.slice none 0 0) := by simpa using r3 1 _ rfl
  have z2 : W3.cell? ⟨w.heap.size + 1, 2, none⟩ = some (.int .i64 0) := by simpa using r3 2 _ rfl
  have z3 : W3.cell? ⟨w.heap.size + 1, 3, none⟩ = some (.slice none 0 0) := by simpa using r3 3 _ rfl
  have z4 : W3.cell? ⟨w.heap.size + 1, 4, none⟩ = some (.int .i64 0) := by simpa using r3 4 _ rfl
  have z5 : W3.cell? ⟨w.heap.size + 1, 5, none⟩ = some (.int .i64 0) := by simpa using r3 5 _ rfl
  have z6 : W3.cell? ⟨w.heap.size + 1, 6, none⟩ = some (.int .i64 0) := by simpa using r3 6 _ rfl
  have z7 : W3.cell? ⟨w.heap.size + 1, 7, none⟩ = some (.int .i64 0) := by simpa using r3 7 _ rfl
  have z8 : W3.cell? ⟨w.heap.size + 1, 8, none⟩ = some (.int .i64 0) := by simpa using r3 8 _ rfl
  have z9 : W3.cell? ⟨w.heap.size + 1, 9, none⟩ = some (.int .i64 0) := by simpa using r3 9 _ rfl
  have z10 : W3.cell? ⟨w.heap.size + 1, 10, none⟩ = some (.int .i64 0) := by simpa using r3 10 _ rfl
  have z11 : W3.cell? ⟨w.heap.size + 1, 11, none⟩ = some (.int .i64 0) := by simpa using r3 11 _ rfl
  have z12 : W3.cell? ⟨w.heap.size + 1, 12, none⟩ = some (.int .i64 0) := by simpa using r3 12 _ rfl
  have z13 : W3.cell? ⟨w.heap.size + 1, 13, none⟩ = some (.int .i64 0) := by simpa using r3 13 _ rfl
  have HPW := Lib.hid hW
  clear hW r3
  as_aux_lemma =>
  refine bodyPost_ret (v := .tuple #[zpv, .int .i64 er]) (by simp [results, Try.results34, go_sem, z0, z1, z2, z3, z4, z5, z6, z7, z8, z9, z10, z11, z12, z13]) rfl ?_
  exact zpu_res er HPW.out
set_option maxRecDepth 100000 in
set_option maxHeartbeats 8000000 in
theorem beats_bad (v : Value) (b : PuB) (many : Int) (w : World) (h : PbAt w v b) (hb : PbBd b) (he : stateE b ≠ 0) : Calls Try.prog 36 #[v, .int .i64 many] w (PbRes (zpb, stateE b) w) := by
  obtain ⟨aL, a1, a2, a3, cL, c1, c2, c3, rfl, iL, i1, i2, i3⟩ := h
  have hen := fun W (E : Ext w W) => enter_bad aL a1 a2 a3 cL c1 c2 c3 b W hb (iL.ext E) (i2.ext E) (i3.ext E) he
  generalize stateE b = er at *
  have hz2 : (er != 0) = true := by simpa using he
  clear he hb iL i1 i2 i3
  generalize b.lines.length = nL at *
  generalize b.now.store.length = n1 at *
  generalize b.now.tape.length = n2 at *
  generalize b.now.printed.length = n3 at *
  have HR := Lib.hid (Blk.range (L := [.slice aL nL cL, .slice a1 n1 c1, .slice a2 n2 c2, .int .i64 b.now.taken, .slice a3 n3 c3, .int .i64 b.now.clock, .int .i64 b.now.at_, .int .i64 b.now.phase, .int .i64 b.now.order, .int .i64 b.now.operand, .int .i64 b.now.other, .int .i64 b.now.product, .int .i64 b.now.count, .int .i64 b.now.done, .int .i64 b.now.why, .int .i64 b.beat, .int .i64 b.carry, .int .i64 b.sum]) (Blk.al (Blk.nw w #[.slice aL nL cL, .slice a1 n1 c1, .slice a2 n2 c2, .int .i64 b.now.taken, .slice a3 n3 c3, .int .i64 b.now.clock, .int .i64 b.now.at_, .int .i64 b.now.phase, .int .i64 b.now.order, .int .i64 b.now.operand, .int .i64 b.now.other, .int .i64 b.now.product, .int .i64 b.now.count, .int .i64 b.now.done, .int .i64 b.now.why, .int .i64 b.beat, .int .i64 b.carry, .int .i64 b.sum] 50) (.cells #[.slice none 0 0, .slice none 0 0, .slice none 0 0, .int .i64 0, .slice none 0 0, .int .i64 0, .int .i64 0, .int .i64 0, .int .i64 0, .int .i64 0, .int .i64 0, .int .i64 0, .int .i64 0, .int .i64 0, .int .i64 0, .int .i64 0, .int .i64 0, .int .i64 0] 50)))
  go_enter Try.func36, Try.ntmps36
  go_wp2_with (first | (refine wpList_load_mid rfl 50 (.tmp 2) rfl w.heap.size 0 rfl [.slice aL nL cL, .slice a1 n1 c1, .slice a2 n2 c2, .int .i64 b.now.taken, .slice a3 n3 c3, .int .i64 b.now.clock, .int .i64 b.now.at_, .int .i64 b.now.phase, .int .i64 b.now.order, .int .i64 b.now.operand, .int .i64 b.now.other, .int .i64 b.now.product, .int .i64 b.now.count, .int .i64 b.now.done, .int .i64 b.now.why, .int .i64 b.beat, .int .i64 b.carry, .int .i64 b.sum] _ HR.out Try.underlying50 rfl (by kernel_rfl) ?_))
  refine (hen _ (by repeat (first | with_reducible exact Ext.refl _ | with_reducible refine Ext.alloc ?_ _ | with_reducible refine Below.drew ?_))).mono ?_
  rintro e w1 ⟨rfl, E1⟩
  have rb := Blk.of E1
  rw [World.size_alloc] at rb
  have HT := Lib.hid (Blk.there rb)
  have HF := Lib.hid E1.old.old
  clear rb E1
  go_wp2_with (first | (refine wpList_store_mid rfl 50 (.tmp 4) (.tmp 17) rfl (w.heap.size + 1) 0 [.slice none 0 0, .slice none 0 0, .slice none 0 0, .int .i64 0, .slice none 0 0, .int .i64 0, .int .i64 0, .int .i64 0, .int .i64 0, .int .i64 0, .int .i64 0, .int .i64 0, .int .i64 0, .int .i64 0, .int .i64 0, .int .i64 0, .int .i64 0, .int .i64 0].toArray rfl rfl HT.out (by kernel_rfl) (by simp [Value.oneCell']) ?_))
  have hW : Ext w (w1.setCells (w.heap.size + 1) 0 [.slice none 0 0, .slice none 0 0, .slice none 0 0, .int .i64 0, .slice none 0 0, .int .i64 0, .int .i64 0, .int .i64 0, .int .i64 0, .int .i64 0, .int .i64 0, .int .i64 0, .int .i64 0, .int .i64 0, .int .i64 0, .int .i64 0, .int .i64 0, .int .i64 0]) := (OnlyB.sets _ _ _ (OnlyB.refl (w.heap.size + 1) _)).ext HF.out (Nat.le_succ _)
  have r3 : (w1.setCells (w.heap.size + 1) 0 [.slice none 0 0, .slice none 0 0, .slice none 0 0, .int .i64 0, .slice none 0 0, .int .i64 0, .int .i64 0, .int .i64 0, .int .i64 0, .int .i64 0, .int .i64 0, .int .i64 0, .int .i64 0, .int .i64 0, .int .i64 0, .int .i64 0, .int .i64 0, .int .i64 0]).rangeAt (w.heap.size + 1) 0 [.slice none 0 0, .slice none 0 0, .slice none 0 0, .int .i64 0, .slice none 0 0, .int .i64 0, .int .i64 0, .int .i64 0, .int .i64 0, .int .i64 0, .int .i64 0, .int .i64 0, .int .i64 0, .int .i64 0, .int .i64 0, .int .i64 0, .int .i64 0, .int .i64 0] := World.rangeAt_setCells_same _ _ _ _ HT.out
  obtain ⟨W3, hW3⟩ : ∃ W3 : World, W3 = w1.setCells (w.heap.size + 1) 0 [.slice none 0 0, .slice none 0 0, .slice none 0 0, .int .i64 0, .slice none 0 0, .int .i64 0, .int .i64 0, .int .i64 0, .int .i64 0, .int .i64 0, .int .i64 0, .int .i64 0, .int .i64 0, .int .i64 0, .int .i64 0, .int .i64 0, .int .i64 0, .int .i64 0] := ⟨_, rfl⟩
  rw [← hW3] at hW r3
  (try dsimp only [Act.put])
  rw [← hW3]
  clear hW3
  have z0 : W3.cell? ⟨w.heap.size + 1, 0, none⟩ = some (.slice none 0 0) := by simpa using r3 0 _ rfl
  have z1 : W3.cell? ⟨w.heap.size + 1, 1, none⟩ = some (.slice none 0 0) := by simpa using r3 1 _ rfl
  have z2 : W3.cell? ⟨w.heap.size + 1, 2, none⟩ = some (.slice none 0 0) := by simpa using r3 2 _ rfl
  have z3 : W3.cell? ⟨w.heap.size + 1, 3, none⟩ = some (.int .i64 0) := by simpa using r3 3 _ rfl
  have z4 : W3.cell? ⟨w.heap.size + 1, 4, none⟩ = some (.slice none 0 0) := by simpa using r3 4 _ rfl
  have z5 : W3.cell? ⟨w.heap.size + 1, 5, none⟩ = some (.int .i64 0) := by simpa using r3 5 _ rfl
  have z6 : W3.cell? ⟨w.heap.size + 1, 6, none⟩ = some (.int .i64 0) := by simpa using r3 6 _ rfl
  have z7 : W3.cell? ⟨w.heap.size + 1, 7, none⟩ = some (.int .i64 0) := by simpa using r3 7 _ rfl
  have z8 : W3.cell? ⟨w.heap.size + 1, 8, none⟩ = some (.int .i64 0) := by simpa using r3 8 _ rfl
  have z9 : W3.cell? ⟨w.heap.size + 1, 9, none⟩ = some (.int .i64 0) := by simpa using r3 9 _ rfl
  have z10 : W3.cell? ⟨w.heap.size + 1, 10, none⟩ = some (.int .i64 0) := by simpa using r3 10 _ rfl
  have z11 : W3.cell? ⟨w.heap.size + 1, 11, none⟩ = some (.int .i64 0) := by simpa using r3 11 _ rfl
  have z12 : W3.cell? ⟨w.heap.size + 1, 12, none⟩ = some (.int .i64 0) := by simpa using r3 12 _ rfl
  have z13 : W3.cell? ⟨w.heap.size + 1, 13, none⟩ = some (.int .i64 0) := by simpa using r3 13 _ rfl
  have z14 : W3.cell? ⟨w.heap.size + 1, 14, none⟩ = some (.int .i64 0) := by simpa using r3 14 _ rfl
  have z15 : W3.cell? ⟨w.heap.size + 1, 15, none⟩ = some (.int .i64 0) := by simpa using r3 15 _ rfl
  have z16 : W3.cell? ⟨w.heap.size + 1, 16, none⟩ = some (.int .i64 0) := by simpa using r3 16 _ rfl
  have z17 : W3.cell? ⟨w.heap.size + 1, 17, none⟩ = some (.int .i64 0) := by simpa using r3 17 _ rfl
  have HPW := Lib.hid hW
  clear hW r3
  as_aux_lemma =>
  refine bodyPost_ret (v := .tuple #[zpbv, .int .i64 er]) (by simp [results, Try.results36, go_sem, z0, z1, z2, z3, z4, z5, z6, z7, z8, z9, z10, z11, z12, z13, z14, z15, z16, z17]) rfl ?_
  exact zpb_res er HPW.out
theorem words_any (v : Value) (b : PuB) (w : World) (h : PbAt w v b) (hb : PbBd b) : Calls Try.prog 34 #[v] w (PuRes (wordsE b) w) := by
  by_cases hs : stateE b = 0
  · exact words_ok v b w h (valid_state hs)
  · have e : wordsE b = (zpu, stateE b) := by unfold wordsE; rw [if_pos hs]; rfl
    rw [e]
    exact words_bad v b w h hb hs
theorem beats_any (v : Value) (b : PuB) (many : Int) (w : World) (h : PbAt w v b) (hb : PbBd b) : Calls Try.prog 36 #[v, .int .i64 many] w (PbRes (beatsE b many) w) := by
  by_cases hs : stateE b = 0
  · exact beats_ok v b many w h (valid_state hs)
  · have e : beatsE b many = (zpb, stateE b) := by unfold beatsE; rw [if_pos hs]
    rw [e]
    exact beats_bad v b many w h hb hs
end Go.Proofs.Ytjfggepgjpdebaa

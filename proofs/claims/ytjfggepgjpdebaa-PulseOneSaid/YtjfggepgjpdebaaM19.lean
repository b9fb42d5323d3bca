import Derived.Test.YtjfggepgjpdebaaM18
set_option linter.unusedVariables false
set_option linter.unusedSimpArgs false
/- Contract: pulse's Beats, of valid pulses. -/
namespace Go.Proofs.Ytjfggepgjpdebaa
open Go.RowKit Go.Q
/-- what Beats returns -/
def beatsE (b : PuB) (many : Int) : PuB × Int := if stateE b ≠ 0 then (zpb, stateE b) else if inB many 0 60000 = true then (beatsP many.toNat b, 0) else (zpb, 7)
set_option maxRecDepth 100000 in
set_option maxHeartbeats 8000000 in
theorem beats_run (v : Value) (b : PuB) (many : Int) (w : World) (h : PbAt w v b) (hv : ValidB b) (hb : inB many 0 60000 = true) : Calls Try.prog 36 #[v, .int .i64 many] w (PbRes (beatsE b many) w) := by
  obtain ⟨aL, a1, a2, a3, cL, c1, c2, c3, rfl, iL, i1, i2, i3⟩ := h
  rw [hv.lines, hv.nostore, List.length_nil]
  generalize hn2 : b.now.tape.length = n2
  generalize hn3 : b.now.printed.length = n3
  have hen := fun W (E : Ext w W) => enter_ok aL a1 a2 a3 cL c1 n2 c2 n3 c3 b W hv hn2 hn3 (iL.ext E) (i2.ext E) (i3.ext E)
  have hse := stateE_valid hv
  have HV := Lib.hid hv
  clear hn2 hn3 iL i1 i2 i3 hv
  have HR := Lib.hid (Blk.range (L := [.slice aL 8 cL, .slice a1 0 c1, .slice a2 n2 c2, .int .i64 b.now.taken, .slice a3 n3 c3, .int .i64 b.now.clock, .int .i64 b.now.at_, .int .i64 b.now.phase, .int .i64 b.now.order, .int .i64 b.now.operand, .int .i64 b.now.other, .int .i64 b.now.product, .int .i64 b.now.count, .int .i64 b.now.done, .int .i64 b.now.why, .int .i64 b.beat, .int .i64 b.carry, .int .i64 b.sum]) (Blk.al (Blk.nw w #[.slice aL 8 cL, .slice a1 0 c1, .slice a2 n2 c2, .int .i64 b.now.taken, .slice a3 n3 c3, .int .i64 b.now.clock, .int .i64 b.now.at_, .int .i64 b.now.phase, .int .i64 b.now.order, .int .i64 b.now.operand, .int .i64 b.now.other, .int .i64 b.now.product, .int .i64 b.now.count, .int .i64 b.now.done, .int .i64 b.now.why, .int .i64 b.beat, .int .i64 b.carry, .int .i64 b.sum] 50) (.cells #[.slice none 0 0, .slice none 0 0, .slice none 0 0, .int .i64 0, .slice none 0 0, .int .i64 0, .int .i64 0, .int .i64 0, .int .i64 0, .int .i64 0, .int .i64 0, .int .i64 0, .int .i64 0, .int .i64 0, .int .i64 0, .int .i64 0, .int .i64 0, .int .i64 0] 50)))
  · have hwE : beatsE b many = (beatsP many.toNat b, 0) := by unfold beatsE; rw [hse, if_neg (by decide), if_pos hb]
    rw [hwE]
    have hbd := inB_bd hb
    obtain ⟨N, rfl⟩ := Int.eq_ofNat_of_zero_le hbd.1
    rw [Int.toNat_natCast]
    have hN : N ≤ 60000 := by omega
    have hout := fun W => pout_any (N : Int) 0 60000 W
    rw [hb] at hout
    clear hb hwE hse hbd
    go_enter Try.func36, Try.ntmps36
    go_wp2_with (first | (refine wpList_load_mid rfl 50 (.tmp 2) rfl w.heap.size 0 rfl [.slice aL 8 cL, .slice a1 0 c1, .slice a2 n2 c2, .int .i64 b.now.taken, .slice a3 n3 c3, .int .i64 b.now.clock, .int .i64 b.now.at_, .int .i64 b.now.phase, .int .i64 b.now.order, .int .i64 b.now.operand, .int .i64 b.now.other, .int .i64 b.now.product, .int .i64 b.now.count, .int .i64 b.now.done, .int .i64 b.now.why, .int .i64 b.beat, .int .i64 b.carry, .int .i64 b.sum] _ HR.out Try.underlying50 rfl (by kernel_rfl) ?_) | fail)
    refine (hen _ (by repeat (first | with_reducible exact Ext.refl _ | with_reducible refine Ext.alloc ?_ _ | with_reducible refine Below.drew ?_))).mono ?_
    rintro e w1 ⟨G, m, g1, cc, tv, pv, LB, cB, vs, rfl, hG, E1⟩
    have rb := Blk.of E1
    rw [World.size_alloc] at rb
    have F1 := E1.old.old
    rw [World.size_alloc, World.size_alloc] at hG
    have HG := Lib.hid hG
    have HB := Lib.hid (And.intro rb F1)
    clear hG rb F1
    go_wp2_with fail
    refine (hout _).mono ?_
    rintro e w2 ⟨rfl, rfl⟩
    go_wp2_with fail
    go_loopw [26] (fun i wr => ∃ (k : Nat) (pv' : Value), k ≤ N ∧ i = .int .i64 k ∧ Gat wr (w.heap.size + 1 + 1) G m g1 cc tv pv' LB cB vs (beatsP k b) (storeB b.lines) ∧ Below (w.heap.size + 1 + 1) w1 wr) (fun i _ => N - (intOf i).toNat)
    case atStart => exact ⟨0, pv, by omega, rfl, HG.out, Below.refl _ _⟩
    case round =>
      obtain ⟨k, pv', hk, rfl, hGk, hBk⟩ := hrel
      have hvk := beatsP_valid k HV.out
      have hsk : ValidP { (beatsP k b).now with store := storeB b.lines } := hvk.st.restore (by rw [storeB_length, HV.out.lines]) (storeB_bd _)
      by_cases hlt : k < N
      · have ht := fun W (h : Gat W (w.heap.size + 1 + 1) G m g1 cc tv pv' LB cB vs (beatsP k b) (storeB b.lines)) => tick_any W h hvk hsk
        have HGk := Lib.hid (And.intro hGk hBk)
        clear hGk hBk hvk hsk
        have hltz : (k : Int) < N := by omega
        go_wp2_with fail
        refine (ht _ HGk.out.1).mono ?_
        rintro e wx ⟨rfl, pv2, hG2, hB2⟩
        rw [← beatsP_snoc] at hG2
        have HB2 := Lib.hid (And.intro hG2 (HGk.out.2.trans hB2))
        clear hG2 hB2
        go_wp2_with fail
        go_roundw
        case rel => exact ⟨k + 1, pv2, by omega, by simp, HB2.out.1, HB2.out.2⟩
        case measure => simp [intOf]; omega
      · obtain rfl : k = N := by omega
        have hltz : ¬ (k : Int) < k := by omega
        have hlv := fun W (h : Gat W (w.heap.size + 1 + 1) G m g1 cc tv pv' LB cB vs (beatsP k b) (storeB b.lines)) => leave_any W h hvk.lines hvk.len hvk.nostore
        have HVk := Lib.hid hvk
        have HGk := Lib.hid (And.intro hGk hBk)
        clear hGk hBk hvk hsk
        generalize hq : beatsP k b = q at *
        go_wp2_with fail
        refine (hlv _ HGk.out.1).mono ?_
        rintro e w3 ⟨t2, k2, t3, k3, rfl, rfl, rfl, E3⟩
        have X3 : Below (w.heap.size + 1 + 1) w1 w3 := HGk.out.2.trans (E3.mono (by have := HGk.out.2.size; have := HB.out.1.lt; omega))
        have rb3 : Blk w3 (w.heap.size + 1) #[.slice none 0 0, .slice none 0 0, .slice none 0 0, .int .i64 0, .slice none 0 0, .int .i64 0, .int .i64 0, .int .i64 0, .int .i64 0, .int .i64 0, .int .i64 0, .int .i64 0, .int .i64 0, .int .i64 0, .int .i64 0, .int .i64 0, .int .i64 0, .int .i64 0] 50 := (X3.block _ (by omega)).trans HB.out.1
        have F3 : Ext w w3 := HB.out.2.trans (X3.mono (by omega))
        have hP : PbAt (w3.setCells (w.heap.size + 1) 0 [.slice (some ⟨LB, 0, none⟩) 8 cB, .slice none 0 0, .slice t2 q.now.tape.length k2, .int .i64 q.now.taken, .slice t3 q.now.printed.length k3, .int .i64 q.now.clock, .int .i64 q.now.at_, .int .i64 q.now.phase, .int .i64 q.now.order, .int .i64 q.now.operand, .int .i64 q.now.other, .int .i64 q.now.product, .int .i64 q.now.count, .int .i64 q.now.done, .int .i64 q.now.why, .int .i64 q.beat, .int .i64 q.carry, .int .i64 q.sum]) (.agg #[.slice (some ⟨LB, 0, none⟩) 8 cB, .slice none 0 0, .slice t2 q.now.tape.length k2, .int .i64 q.now.taken, .slice t3 q.now.printed.length k3, .int .i64 q.now.clock, .int .i64 q.now.at_, .int .i64 q.now.phase, .int .i64 q.now.order, .int .i64 q.now.operand, .int .i64 q.now.other, .int .i64 q.now.product, .int .i64 q.now.count, .int .i64 q.now.done, .int .i64 q.now.why, .int .i64 q.beat, .int .i64 q.carry, .int .i64 q.sum]) q := by
          have ho := OnlyB.sets [.slice (some ⟨LB, 0, none⟩) 8 cB, .slice none 0 0, .slice t2 q.now.tape.length k2, .int .i64 q.now.taken, .slice t3 q.now.printed.length k3, .int .i64 q.now.clock, .int .i64 q.now.at_, .int .i64 q.now.phase, .int .i64 q.now.order, .int .i64 q.now.operand, .int .i64 q.now.other, .int .i64 q.now.product, .int .i64 q.now.count, .int .i64 q.now.done, .int .i64 q.now.why, .int .i64 q.beat, .int .i64 q.carry, .int .i64 q.sum] 0 _ (OnlyB.refl (w.heap.size + 1) w3)
          refine ((HGk.out.1.ext E3).keepT (W' := w3.setCells (w.heap.size + 1) 0 [.slice (some ⟨LB, 0, none⟩) 8 cB, .slice none 0 0, .slice t2 q.now.tape.length k2, .int .i64 q.now.taken, .slice t3 q.now.printed.length k3, .int .i64 q.now.clock, .int .i64 q.now.at_, .int .i64 q.now.phase, .int .i64 q.now.order, .int .i64 q.now.operand, .int .i64 q.now.other, .int .i64 q.now.product, .int .i64 q.now.count, .int .i64 q.now.done, .int .i64 q.now.why, .int .i64 q.beat, .int .i64 q.carry, .int .i64 q.sum]) ho.size fun k' cs T fr hc hT => ho.block k' (lt_of_block hc) (fun e => ?_)).pb HVk.out.lines HVk.out.len HVk.out.nostore
          cases e
          have := Eq.trans (Eq.symm hc) rb3
          simp at this
          exact hT this.2.1
        have HT := Lib.hid (Blk.there rb3)
        have HF := Lib.hid (And.intro hP F3)
        clear hP F3 X3 rb3 hlv
        as_aux_lemma =>
        go_wp2_with (first | (refine wpList_store_mid rfl 50 (.tmp 4) (.tmp 32) rfl (w.heap.size + 1) 0 [.slice (some ⟨LB, 0, none⟩) 8 cB, .slice none 0 0, .slice t2 q.now.tape.length k2, .int .i64 q.now.taken, .slice t3 q.now.printed.length k3, .int .i64 q.now.clock, .int .i64 q.now.at_, .int .i64 q.now.phase, .int .i64 q.now.order, .int .i64 q.now.operand, .int .i64 q.now.other, .int .i64 q.now.product, .int .i64 q.now.count, .int .i64 q.now.done, .int .i64 q.now.why, .int .i64 q.beat, .int .i64 q.carry, .int .i64 q.sum].toArray rfl rfl HT.out (by kernel_rfl) (by simp [Value.oneCell']) ?_))
        have hW : Ext w (w3.setCells (w.heap.size + 1) 0 [.slice (some ⟨LB, 0, none⟩) 8 cB, .slice none 0 0, .slice t2 q.now.tape.length k2, .int .i64 q.now.taken, .slice t3 q.now.printed.length k3, .int .i64 q.now.clock, .int .i64 q.now.at_, .int .i64 q.now.phase, .int .i64 q.now.order, .int .i64 q.now.operand, .int .i64 q.now.other, .int .i64 q.now.product, .int .i64 q.now.count, .int .i64 q.now.done, .int .i64 q.now.why, .int .i64 q.beat, .int .i64 q.carry, .int .i64 q.sum]) := (OnlyB.sets _ _ _ (OnlyB.refl (w.heap.size + 1) _)).ext HF.out.2 (Nat.le_succ _)
        have r3 : (w3.setCells (w.heap.size + 1) 0 [.slice (some ⟨LB, 0, none⟩) 8 cB, .slice none 0 0, .slice t2 q.now.tape.length k2, .int .i64 q.now.taken, .slice t3 q.now.printed.length k3, .int .i64 q.now.clock, .int .i64 q.now.at_, .int .i64 q.now.phase, .int .i64 q.now.order, .int .i64 q.now.operand, .int .i64 q.now.other, .int .i64 q.now.product, .int .i64 q.now.count, .int .i64 q.now.done, .int .i64 q.now.why, .int .i64 q.beat, .int .i64 q.carry, .int .i64 q.sum]).rangeAt (w.heap.size + 1) 0 [.slice (some ⟨LB, 0, none⟩) 8 cB, .slice none 0 0, .slice t2 q.now.tape.length k2, .int .i64 q.now.taken, .slice t3 q.now.printed.length k3, .int .i64 q.now.clock, .int .i64 q.now.at_, .int .i64 q.now.phase, .int .i64 q.now.order, .int .i64 q.now.operand, .int .i64 q.now.other, .int .i64 q.now.product, .int .i64 q.now.count, .int .i64 q.now.done, .int .i64 q.now.why, .int .i64 q.beat, .int .i64 q.carry, .int .i64 q.sum] := World.rangeAt_setCells_same _ _ _ _ HT.out
        have hP := HF.out.1
        obtain ⟨W3, hW3⟩ : ∃ W3 : World, W3 = w3.setCells (w.heap.size + 1) 0 [.slice (some ⟨LB, 0, none⟩) 8 cB, .slice none 0 0, .slice t2 q.now.tape.length k2, .int .i64 q.now.taken, .slice t3 q.now.printed.length k3, .int .i64 q.now.clock, .int .i64 q.now.at_, .int .i64 q.now.phase, .int .i64 q.now.order, .int .i64 q.now.operand, .int .i64 q.now.other, .int .i64 q.now.product, .int .i64 q.now.count, .int .i64 q.now.done, .int .i64 q.now.why, .int .i64 q.beat, .int .i64 q.carry, .int .i64 q.sum] := ⟨_, rfl⟩
        rw [← hW3] at hW r3 hP
        (try dsimp only [Act.put])
        rw [← hW3]
        clear hW3
        have z0 : W3.cell? ⟨w.heap.size + 1, 0, none⟩ = some (.slice (some ⟨LB, 0, none⟩) 8 cB) := by simpa using r3 0 _ rfl
        have z1 : W3.cell? ⟨w.heap.size + 1, 1, none⟩ = some (.slice none 0 0) := by simpa using r3 1 _ rfl
        have z2 : W3.cell? ⟨w.heap.size + 1, 2, none⟩ = some (.slice t2 q.now.tape.length k2) := by simpa using r3 2 _ rfl
        have z3 : W3.cell? ⟨w.heap.size + 1, 3, none⟩ = some (.int .i64 q.now.taken) := by simpa using r3 3 _ rfl
        have z4 : W3.cell? ⟨w.heap.size + 1, 4, none⟩ = some (.slice t3 q.now.printed.length k3) := by simpa using r3 4 _ rfl
        have z5 : W3.cell? ⟨w.heap.size + 1, 5, none⟩ = some (.int .i64 q.now.clock) := by simpa using r3 5 _ rfl
        have z6 : W3.cell? ⟨w.heap.size + 1, 6, none⟩ = some (.int .i64 q.now.at_) := by simpa using r3 6 _ rfl
        have z7 : W3.cell? ⟨w.heap.size + 1, 7, none⟩ = some (.int .i64 q.now.phase) := by simpa using r3 7 _ rfl
        have z8 : W3.cell? ⟨w.heap.size + 1, 8, none⟩ = some (.int .i64 q.now.order) := by simpa using r3 8 _ rfl
        have z9 : W3.cell? ⟨w.heap.size + 1, 9, none⟩ = some (.int .i64 q.now.operand) := by simpa using r3 9 _ rfl
        have z10 : W3.cell? ⟨w.heap.size + 1, 10, none⟩ = some (.int .i64 q.now.other) := by simpa using r3 10 _ rfl
        have z11 : W3.cell? ⟨w.heap.size + 1, 11, none⟩ = some (.int .i64 q.now.product) := by simpa using r3 11 _ rfl
        have z12 : W3.cell? ⟨w.heap.size + 1, 12, none⟩ = some (.int .i64 q.now.count) := by simpa using r3 12 _ rfl
        have z13 : W3.cell? ⟨w.heap.size + 1, 13, none⟩ = some (.int .i64 q.now.done) := by simpa using r3 13 _ rfl
        have z14 : W3.cell? ⟨w.heap.size + 1, 14, none⟩ = some (.int .i64 q.now.why) := by simpa using r3 14 _ rfl
        have z15 : W3.cell? ⟨w.heap.size + 1, 15, none⟩ = some (.int .i64 q.beat) := by simpa using r3 15 _ rfl
        have z16 : W3.cell? ⟨w.heap.size + 1, 16, none⟩ = some (.int .i64 q.carry) := by simpa using r3 16 _ rfl
        have z17 : W3.cell? ⟨w.heap.size + 1, 17, none⟩ = some (.int .i64 q.sum) := by simpa using r3 17 _ rfl
        have HPW := Lib.hid (And.intro hP hW)
        clear hP hW r3
        as_aux_lemma =>
        refine bodyPost_ret (v := .tuple #[.agg #[.slice (some ⟨LB, 0, none⟩) 8 cB, .slice none 0 0, .slice t2 q.now.tape.length k2, .int .i64 q.now.taken, .slice t3 q.now.printed.length k3, .int .i64 q.now.clock, .int .i64 q.now.at_, .int .i64 q.now.phase, .int .i64 q.now.order, .int .i64 q.now.operand, .int .i64 q.now.other, .int .i64 q.now.product, .int .i64 q.now.count, .int .i64 q.now.done, .int .i64 q.now.why, .int .i64 q.beat, .int .i64 q.carry, .int .i64 q.sum], .int .i64 0]) (by simp [results, Try.results36, go_sem, z0, z1, z2, z3, z4, z5, z6, z7, z8, z9, z10, z11, z12, z13, z14, z15, z16, z17]) rfl ?_
        exact ⟨_, rfl, HPW.out.1, HPW.out.2⟩
set_option maxRecDepth 100000 in
set_option maxHeartbeats 8000000 in
theorem beats_out (v : Value) (b : PuB) (many : Int) (w : World) (h : PbAt w v b) (hv : ValidB b) (hb : ¬ inB many 0 60000 = true) : Calls Try.prog 36 #[v, .int .i64 many] w (PbRes (beatsE b many) w) := by
  obtain ⟨aL, a1, a2, a3, cL, c1, c2, c3, rfl, iL, i1, i2, i3⟩ := h
  rw [hv.lines, hv.nostore, List.length_nil]
  generalize hn2 : b.now.tape.length = n2
  generalize hn3 : b.now.printed.length = n3
  have hen := fun W (E : Ext w W) => enter_ok aL a1 a2 a3 cL c1 n2 c2 n3 c3 b W hv hn2 hn3 (iL.ext E) (i2.ext E) (i3.ext E)
  have hse := stateE_valid hv
  have HV := Lib.hid hv
  clear hn2 hn3 iL i1 i2 i3 hv
  have HR := Lib.hid (Blk.range (L := [.slice aL 8 cL, .slice a1 0 c1, .slice a2 n2 c2, .int .i64 b.now.taken, .slice a3 n3 c3, .int .i64 b.now.clock, .int .i64 b.now.at_, .int .i64 b.now.phase, .int .i64 b.now.order, .int .i64 b.now.operand, .int .i64 b.now.other, .int .i64 b.now.product, .int .i64 b.now.count, .int .i64 b.now.done, .int .i64 b.now.why, .int .i64 b.beat, .int .i64 b.carry, .int .i64 b.sum]) (Blk.al (Blk.nw w #[.slice aL 8 cL, .slice a1 0 c1, .slice a2 n2 c2, .int .i64 b.now.taken, .slice a3 n3 c3, .int .i64 b.now.clock, .int .i64 b.now.at_, .int .i64 b.now.phase, .int .i64 b.now.order, .int .i64 b.now.operand, .int .i64 b.now.other, .int .i64 b.now.product, .int .i64 b.now.count, .int .i64 b.now.done, .int .i64 b.now.why, .int .i64 b.beat, .int .i64 b.carry, .int .i64 b.sum] 50) (.cells #[.slice none 0 0, .slice none 0 0, .slice none 0 0, .int .i64 0, .slice none 0 0, .int .i64 0, .int .i64 0, .int .i64 0, .int .i64 0, .int .i64 0, .int .i64 0, .int .i64 0, .int .i64 0, .int .i64 0, .int .i64 0, .int .i64 0, .int .i64 0, .int .i64 0] 50)))
  · have hb' : inB many 0 60000 = false := by simpa using hb
    have hwE : beatsE b many = (zpb, 7) := by unfold beatsE; rw [hse, if_neg (by decide), if_neg hb]
    rw [hwE]
    have hout := fun W => pout_any many 0 60000 W
    rw [hb'] at hout
    clear hb hb' hwE hse
    go_enter Try.func36, Try.ntmps36
    go_wp2_with (first | (refine wpList_load_mid rfl 50 (.tmp 2) rfl w.heap.size 0 rfl [.slice aL 8 cL, .slice a1 0 c1, .slice a2 n2 c2, .int .i64 b.now.taken, .slice a3 n3 c3, .int .i64 b.now.clock, .int .i64 b.now.at_, .int .i64 b.now.phase, .int .i64 b.now.order, .int .i64 b.now.operand, .int .i64 b.now.other, .int .i64 b.now.product, .int .i64 b.now.count, .int .i64 b.now.done, .int .i64 b.now.why, .int .i64 b.beat, .int .i64 b.carry, .int .i64 b.sum] _ HR.out Try.underlying50 rfl (by kernel_rfl) ?_) | fail)
    refine (hen _ (by repeat (first | with_reducible exact Ext.refl _ | with_reducible refine Ext.alloc ?_ _ | with_reducible refine Below.drew ?_))).mono ?_
    rintro e w1 ⟨G, m, g1, cc, tv, pv, LB, cB, vs, rfl, hG, E1⟩
    have rb := Blk.of E1
    rw [World.size_alloc] at rb
    have HT := Lib.hid (Blk.there rb)
    have HF := Lib.hid E1.old.old
    clear hG rb E1
    go_wp2_with fail
    refine (hout _).mono ?_
    rintro e w2 ⟨rfl, rfl⟩
    go_wp2_with (first | (refine wpList_store_mid rfl 50 (.tmp 4) (.tmp 22) rfl (w.heap.size + 1) 0 [.slice none 0 0, .slice none 0 0, .slice none 0 0, .int .i64 0, .slice none 0 0, .int .i64 0, .int .i64 0, .int .i64 0, .int .i64 0, .int .i64 0, .int .i64 0, .int .i64 0, .int .i64 0, .int .i64 0, .int .i64 0, .int .i64 0, .int .i64 0, .int .i64 0].toArray rfl rfl HT.out (by kernel_rfl) (by simp [Value.oneCell']) ?_))
    have hW : Ext w (w1.setCells (w.heap.size + 1) 0 [.slice none 0 0, .slice none 0 0, .slice none 0 0, .int .i64 0, .slice none 0 0, .int .i64 0, .int .i64 0, .int .i64 0, .int .i64 0, .int .i64 0, .int .i64 0, .int .i64 0, .int .i64 0, .int .i64 0, .int .i64 0, .int .i64 0, .int .i64 0, .int .i64 0]) := (OnlyB.sets _ _ _ (OnlyB.refl (w.heap.size + 1) _)).ext HF.out (Nat.le_succ _)
    have r3 : (w1.setCells (w.heap.size + 1) 0 [.slice none 0 0, .slice none 0 0, .slice none 0 0, .int .i64 0, .slice none 0 0, .int .i64 0, .int .i64 0, .int .i64 0, .int .i64 0, .int .i64 0, .int .i64 0, .int .i64 0, .int .i64 0, .int .i64 0, .int .i64 0, .int .i64 0, .int .i64 0, .int .i64 0]).rangeAt (w.heap.size + 1) 0 [.slice none 0 0, .slice none 0 0, .slice none 0 0, .int .i64 0, .slice none 0 0, .int .i64 0, .int .i64 0, .int .i64 0, .int .i64 0, .int .i64 0, .int .i64 0, .int .i64 0, .int .i64 0, .int .i64 0, .int .i64 0, .int .i64 0, .int .i64 0, .int .i64 0] := World.rangeAt_setCells_same _ _ _ _ HT.out
    obtain ⟨W3, hW3⟩ : ∃ W3 : World, W3 = w1.setCells (w.heap.size + 1) 0 [.slice none 0 0, .slice none 0 0, .slice none 0 0, .int .i64 0, .slice none 0 0, .int .i64 0, .int .i64 0, .int .i64 0, .int .i64 0, .int .i64 0, .int .i64 0, .int .i64 0, .int .i64 0, .int .i64 0, .int .i64 0, .int .i64 0, .int .i64 0, .int .i64 0] := ⟨_, rfl⟩
    rw [← hW3] at hW r3
    (try dsimp only [Act.put])
    rw [← hW3]
    clear hW3
    have z0 : W3.cell? ⟨w.heap.size + 1, 0, none⟩ = some (.slice none 0 0) := by simpa using r3 0 _ rfl
    have z1 : W3.cell? ⟨w.heap.size + 1, 1, none⟩ = some (.slice none 0 0) := by simpa using r3 1 _ rfl
    have z2 : W3.cell? ⟨w.heap.size + 1, 2, none⟩ = some (.slice none 0 0) := by simpa using r3 2 _ rfl
    have z3 : W3.cell? ⟨w.heap.size + 1, 3, none⟩ = some (.int .i64 0) := by simpa using r3 3 _ rfl
    have z4 : W3.cell? ⟨w.heap.size + 1, 4, none⟩ = some (.slice none 0 0) := by simpa using r3 4 _ rfl
    have z5 : W3.cell? ⟨w.heap.size + 1, 5, none⟩ = some (.int .i64 0) := by simpa using r3 5 _ rfl
    have z6 : W3.cell? ⟨w.heap.size + 1, 6, none⟩ = some (.int .i64 0) := by simpa using r3 6 _ rfl
    have z7 : W3.cell? ⟨w.heap.size + 1, 7, none⟩ = some (.int .i64 0) := by simpa using r3 7 _ rfl
    have z8 : W3.cell? ⟨w.heap.size + 1, 8, none⟩ = some (.int .i64 0) := by simpa using r3 8 _ rfl
    have z9 : W3.cell? ⟨w.heap.size + 1, 9, none⟩ = some (.int .i64 0) := by simpa using r3 9 _ rfl
    have z10 : W3.cell? ⟨w.heap.size + 1, 10, none⟩ = some (.int .i64 0) := by simpa using r3 10 _ rfl
    have z11 : W3.cell? ⟨w.heap.size + 1, 11, none⟩ = some (.int .i64 0) := by simpa using r3 11 _ rfl
    have z12 : W3.cell? ⟨w.heap.size + 1, 12, none⟩ = some (.int .i64 0) := by simpa using r3 12 _ rfl
    have z13 : W3.cell? ⟨w.heap.size + 1, 13, none⟩ = some (.int .i64 0) := by simpa using r3 13 _ rfl
    have z14 : W3.cell? ⟨w.heap.size + 1, 14, none⟩ = some (.int .i64 0) := by simpa using r3 14 _ rfl
    have z15 : W3.cell? ⟨w.heap.size + 1, 15, none⟩ = some (.int .i64 0) := by simpa using r3 15 _ rfl
    have z16 : W3.cell? ⟨w.heap.size + 1, 16, none⟩ = some (.int .i64 0) := by simpa using r3 16 _ rfl
    have z17 : W3.cell? ⟨w.heap.size + 1, 17, none⟩ = some (.int .i64 0) := by simpa using r3 17 _ rfl
    have HPW := Lib.hid hW
    clear hW r3
    as_aux_lemma =>
    refine bodyPost_ret (v := .tuple #[zpbv, .int .i64 7]) (by simp [results, Try.results36, go_sem, z0, z1, z2, z3, z4, z5, z6, z7, z8, z9, z10, z11, z12, z13, z14, z15, z16, z17]) rfl ?_
    exact zpb_res 7 HPW.out
theorem beats_ok (v : Value) (b : PuB) (many : Int) (w : World) (h : PbAt w v b) (hv : ValidB b) : Calls Try.prog 36 #[v, .int .i64 many] w (PbRes (beatsE b many) w) := by
  by_cases hb : inB many 0 60000 = true
  · exact beats_run v b many w h hv hb
  · exact beats_out v b many w h hv hb
end Go.Proofs.Ytjfggepgjpdebaa

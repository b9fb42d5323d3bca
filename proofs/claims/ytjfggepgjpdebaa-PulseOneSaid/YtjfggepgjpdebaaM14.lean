import Derived.Deep.DeepCutAuto
import Derived.Deep.RegionHeld3
import Derived.Lib.EndianBits
import Derived.Test.YtjfggepgjpdebaaM13
import Derived.Test.YtjfggepgjpdebaaM3
set_option linter.unusedVariables false
set_option linter.unusedSimpArgs false
/- Contract: pulse's tick: a beat. -/
namespace Go.Proofs.Ytjfggepgjpdebaa
open Go.RowKit Go.Q
variable {nb G m g1 c1 LB cL : Nat} {tv pv : Value} {vs : Nat → Value} {b : PuB} {st0 : List Int}
/-- the gates hold b', and nothing that lay below nb has turned -/
def TkR (nb G m g1 c1 : Nat) (tv : Value) (LB cL : Nat) (vs : Nat → Value) (b' : PuB) (st0 : List Int) (w wx : World) : Prop :=
  ∃ pv, Gat wx nb G m g1 c1 tv pv LB cL vs b' st0 ∧ Below nb w wx
theorem Gat.ctlset {W W' : World} {pv' : Value} {b' : PuB} (h : Gat W nb G m g1 c1 tv pv LB cL vs b st0) (hC : Ctl W' nb m g1 c1 tv pv' { b'.now with store := st0 } (ordP b'.now)) (hc : Chg (Own3 m g1 pv) W W') (hl : b'.lines = b.lines) (h1 : b'.beat = b.beat) (h2 : b'.carry = b.carry) (h3 : b'.sum = b.sum) : Gat W' nb G m g1 c1 tv pv' LB cL vs b' st0 := by
  have far : ∀ (k : Nat) (cs : Array Value) (T : TypeId), W.heap[k]? = some (.cells cs T (0, 0)) → T ≠ 100 → T ≠ 3 → W'.heap[k]? = W.heap[k]? := fun k cs T hk ht1 ht2 => by
    refine hc.block k (lt_of_block hk) (fun hS => ?_)
    rcases hS with rfl | rfl | e
    · have := hk.symm.trans h.ctl.blk
      simp only [Option.some.injEq, Obj.cells.injEq] at this
      exact ht1 this.2.1
    · obtain ⟨cur, hg, _⟩ := h.ctl.st
      have := hk.symm.trans hg
      simp only [Option.some.injEq, Obj.cells.injEq] at this
      exact ht2 this.2.1
    · rcases h.ctl.prow.2 with ⟨e1, _⟩ | ⟨g, cap, cur, e1, _, hg, _⟩
      · rw [e1] at e; cases e
      · rw [e1] at e
        obtain rfl : g = k := by simpa [Value.ownBlock] using e
        have := hk.symm.trans hg
        simp only [Option.some.injEq, Obj.cells.injEq] at this
        exact ht2 this.2.1
  refine ⟨h.low, ?_, ?_, fun i hi => ?_, h.apart, hC⟩
  · have e : gcells m LB cL b' = gcells m LB cL b := by unfold gcells; rw [h1, h2, h3]
    rw [e]
    exact (far _ _ _ h.blk (by decide) (by decide)).trans h.blk
  · obtain ⟨cur, hcu, hv⟩ := h.lb
    exact ⟨cur, (far _ _ _ hcu (by decide) (by decide)).trans hcu, hv⟩
  · rw [hl]
    refine own_later (h.row i hi) (fun k hk => ?_)
    rcases (h.row i hi).2 with ⟨e1, _⟩ | ⟨g, cap, cur, e1, _, hg, _⟩
    · rw [e1] at hk; cases hk
    · rw [e1] at hk
      obtain rfl : g = k := by simpa [Value.ownBlock] using hk
      exact far _ _ _ hg (by decide) (by decide)
theorem chg_below {W W' : World} {pv : Value} (hc : Chg (Own3 m g1 pv) W W') (hC : Ctl W nb m g1 c1 tv pv { b.now with store := st0 } (ordP b.now)) (hn : nb ≤ W.heap.size) : Below nb W W' :=
  ⟨hc.os, hc.tape, hc.output, hc.size, fun k hk => by
    by_cases hlt : k < W.heap.size
    · refine hc.block k hlt (fun hS => ?_)
      have := hC.low
      rcases hS with rfl | rfl | e
      · omega
      · omega
      · have := (own_at hC.prow e).1
        omega
    · omega⟩
theorem mult_law (hb : 0 ≤ b.beat ∧ b.beat ≤ 23) (hs : ValidP { b.now with store := st0 }) (h3 : b.now.phase = 3) (h11 : b.beat % 12 = 11) (w : World) (hC : Ctl w nb m g1 c1 tv pv { b.now with store := st0 } (ordP b.now)) :
    Calls Try.prog 97 #[.pointer (some ⟨m, 0, none⟩), .int .i64 (b.beat / 12)] w (PRes nb m g1 c1 tv pv { (multB b).now with store := st0 } (ordP (multB b).now) w) := by
  have hcn : 1 ≤ b.now.count := by
    have := hs.cnt
    have h := this.1 h3
    have : ({ b.now with store := st0 } : Pu).count = b.now.count := rfl
    omega
  have e : (multB b).now = multP b.now ((24 - 2 * b.now.count).toNat + (b.beat / 12).toNat) := by unfold multB; rw [if_pos ⟨h3, h11⟩]
  have hct := hs.count
  have hct' : 0 ≤ b.now.count ∧ b.now.count ≤ 12 := hct
  rw [e]
  have : b.beat = 11 ∨ b.beat = 23 := by omega
  rcases this with h | h
  · rw [h, show (11 : Int) / 12 = 0 by decide, show (0 : Int).toNat = 0 by rfl, Nat.add_zero]
    exact mult0_any w hC hs hcn
  · rw [h, show (23 : Int) / 12 = 1 by decide, show (1 : Int).toNat = 1 by rfl, show (24 - 2 * b.now.count).toNat + 1 = (24 - 2 * b.now.count + 1).toNat by omega]
    exact mult1_any w hC hs hcn
set_option maxRecDepth 100000 in
set_option maxHeartbeats 4000000 in
theorem tick_end (w : World) (h : Gat w nb G m g1 c1 tv pv LB cL vs b st0) (hy : b.now.why ≠ 0 ∨ b.now.clock = 1000000000) :
    Calls Try.prog 74 #[.pointer (some ⟨G, 0, none⟩)] w fun e w' => e = .returned (.tuple #[]) ∧ TkR nb G m g1 c1 tv LB cL vs (beatP b) st0 w w' := by
  have g0 := h.c 0 (v := .pointer (some ⟨m, 0, none⟩)) rfl
  by_cases hw : b.now.why = 0
  · have hcl : b.now.clock = 1000000000 := by
      rcases hy with h1 | h1
      · exact absurd hw h1
      · exact h1
    have e : beatP b = { b with now := { b.now with why := 4 } } := by unfold beatP; rw [if_neg (by omega), if_pos hcl]
    rw [e]
    have hr := rests_late w h.ctl hw hcl
    have hC : Ctl (w.setCell ⟨m, 13, none⟩ (.int .i64 4)) nb m g1 c1 tv pv { b.now with why := 4, store := st0 } (ordP b.now) := h.ctl.setm 13 (.int .i64 4) _ _ rfl rfl rfl rfl
    have hG := Gat.ctlset (b' := { b with now := { b.now with why := 4 } }) h hC (Chg.setCell (Chg.refl _ _) _ (.inl rfl) _) rfl rfl rfl rfl
    have hB : Below nb w (w.setCell ⟨m, 13, none⟩ (.int .i64 4)) := (Below.refl nb w).setCell (p := ⟨m, 13, none⟩) h.ctl.low.1 _
    have HG := Lib.hid hG
    have HB := Lib.hid hB
    clear hG hB hC e hy hw hcl h
    go_enter Try.func74, Try.ntmps74
    go_wp2_with fail
    refine (hr).mono ?_
    rintro e w1 ⟨rfl, rfl⟩
    go_wp2_with fail
    refine bodyPost_ret (results_none rfl _ _ _) rfl ?_
    exact ⟨rfl, _, HG.out, HB.out⟩
  · have e : beatP b = b := by unfold beatP; rw [if_pos hw]
    rw [e]
    have hr := rests_end w h.ctl hw
    have HG := Lib.hid h
    clear e hy hw h
    go_enter Try.func74, Try.ntmps74
    go_wp2_with fail
    refine (hr).mono ?_
    rintro e w1 ⟨rfl, rfl⟩
    go_wp2_with fail
    refine bodyPost_ret (results_none rfl _ _ _) rfl ?_
    exact ⟨rfl, _, HG.out, Below.refl _ _⟩
theorem Gat.ended {W W3 : World} {e : Ending} {came : Bool} {x : Int} (h : Gat W nb G m g1 c1 tv pv LB cL vs b st0) (hr : PRes nb m g1 c1 tv pv (endP came x { b.now with store := st0 }) (ordP (endP came x { b.now with store := st0 })) W.drew e W3) :
    ∃ pv3, Gat W3 nb G m g1 c1 tv pv3 LB cL vs { b with now := endP came x b.now } st0 ∧ Below nb W W3 := by
  obtain ⟨_, pv3, C3, Ch3, _⟩ := hr
  rw [end_st] at C3
  have hd : Gat W.drew nb G m g1 c1 tv pv LB cL vs b st0 := h.ext (Ext.refl W).drew
  have hn : nb ≤ W.heap.size := by have := h.low.1; have := h.blk.lt; omega
  exact ⟨pv3, Gat.ctlset (b' := { b with now := endP came x b.now }) hd C3 Ch3 rfl rfl rfl rfl, (Below.refl nb W).drew.trans (chg_below (b := b) (st0 := st0) Ch3 hd.ctl hn)⟩
theorem Gat.multed {W W3 : World} {e : Ending} (h : Gat W nb G m g1 c1 tv pv LB cL vs b st0) (hr : PRes nb m g1 c1 tv pv { (multB b).now with store := st0 } (ordP (multB b).now) W.drew e W3) :
    ∃ pv3, Gat W3 nb G m g1 c1 tv pv3 LB cL vs (multB b) st0 ∧ Below nb W W3 := by
  obtain ⟨_, pv3, C3, Ch3, _⟩ := hr
  obtain ⟨m1, m2, m3, m4, _⟩ := multB_same b
  have hd : Gat W.drew nb G m g1 c1 tv pv LB cL vs b st0 := h.ext (Ext.refl W).drew
  have hn : nb ≤ W.heap.size := by have := h.low.1; have := h.blk.lt; omega
  exact ⟨pv3, Gat.ctlset (b' := multB b) hd C3 Ch3 m1 m2 m3 m4, (Below.refl nb W).drew.trans (chg_below (b := b) (st0 := st0) Ch3 hd.ctl hn)⟩
theorem own_putb {w : World} {B g n c i : Nat} {xs : List Bool} (h : w.ownsRow B 4 1 (.slice (some ⟨g, 0, none⟩) n c) n (bv xs)) (x : Bool) :
    (w.setCell ⟨g, i, none⟩ (.bool x)).ownsRow B 4 1 (.slice (some ⟨g, 0, none⟩) n c) n (bv (xs.set i x)) := by
  refine ⟨by have := h.1; simpa [bv_length] using this, ?_⟩
  rcases h.2 with ⟨e, _⟩ | ⟨g', cap, cur, e, hb, hg, hle, hmx, hsz, ht⟩
  · cases e
  · cases e
    refine .inr ⟨g, c, _, rfl, hb, cells_set hg i _, hle, hmx, by simpa using hsz, ?_⟩
    rw [Array.toList_setIfInBounds, List.take_set, ht, bv_set]
theorem Gat.setrow {W : World} (h : Gat W nb G m g1 c1 tv pv LB cL vs b st0) (hl : b.lines.length = 8) {j i g cap : Nat} (hj : j < 8) (hvs : vs j = .slice (some ⟨g, 0, none⟩) 384 cap) (hg : ∃ cur, Blk W g cur 4) (x : Bool) :
    Gat (W.setCell ⟨g, i, none⟩ (.bool x)) nb G m g1 c1 tv pv LB cL vs { b with lines := putB b.lines j i x } st0 := by
  obtain ⟨cg, hcg⟩ := hg
  have ne : ∀ (k : Nat) (cs : Array Value) (T : TypeId), Blk W k cs T → T ≠ 4 → k ≠ g := fun k cs T hk ht e => by
    subst e
    have := Eq.trans (Eq.symm hk) hcg
    simp only [Option.some.injEq, Obj.cells.injEq] at this
    exact ht this.2.1
  refine ⟨h.low, h.blk.ot (ne _ _ _ h.blk (by decide)), ?_, fun k hk => ?_, h.apart, h.ctl.keep (KeepP.set hcg (by decide) (by decide) i _)⟩
  · obtain ⟨cur, hc, hv⟩ := h.lb
    exact ⟨cur, hc.ot (ne _ _ _ hc (by decide)), hv⟩
  · show World.ownsRow _ nb 4 1 (vs k) 384 (bv ((putB b.lines j i x)[k]?.getD []))
    unfold putB
    rw [List.getElem?_set]
    by_cases e : j = k
    · subst e
      rw [if_pos rfl, if_pos (by omega)]
      have hr := h.row j hj
      rw [hvs] at hr ⊢
      exact own_putb hr x
    · rw [if_neg e]
      refine own_later (h.row k hk) (fun q hq => Below.heap_setCell _ _ _ _ (fun c => ?_))
      have c' : q = g := c
      subst c'
      exact h.apart k j q hk hj (fun c => e c.symm) hq (by rw [hvs]; rfl)
theorem Gat.pulseC {W : World} (h : Gat W nb G m g1 c1 tv pv LB cL vs b st0) (hl : b.lines.length = 8) (h384 : ∀ l ∈ b.lines, l.length = 384) {j g cap i : Nat} (hj : j < 8) (hvs : vs j = .slice (some ⟨g, 0, none⟩) 384 cap) (hi : i < 384) : W.cell? ⟨g, i, none⟩ = some (.bool (pulseAt b j i)) ∧ W.frozen? ⟨g, i, none⟩ = false ∧ ∃ cur, Blk W g cur 4 := by
  have hr := h.row j hj
  have hlen : (b.lines[j]?.getD []).length = 384 := by
    rw [List.getElem?_eq_getElem (by omega)]
    exact h384 _ (List.getElem_mem _)
  rcases hr.2 with ⟨_, h0⟩ | ⟨g', cap', cur, e, hb, hg, hle, _, _, ht⟩
  · omega
  · rw [hvs] at e
    cases e
    refine ⟨cell_of_cells hg i ?_, free_of_cells hg i, cur, hg⟩
    have e2 := bv_get (b.lines[j]?.getD []) i (by omega)
    rw [← ht, List.getElem?_take, if_pos (by omega), Array.getElem?_toList] at e2
    exact e2
theorem or_low {S x : Int} {k : Nat} (hk : k < 24) (hS : 0 ≤ S ∧ S < 2 ^ k) (hx : x = 0 ∨ x = 2 ^ k) : bits .or .i64 S x = S + x := by
  have hpw : (2 : Nat) ^ k ≤ 2 ^ 23 := Nat.pow_le_pow_right (by decide) (by omega)
  have hpw2 : ((2 ^ k : Nat) : Int) = 2 ^ k := by simp
  have h223 : (2 : Nat) ^ 23 = 8388608 := by decide
  have h62 : (2 : Int) ^ 62 = 4611686018427387904 := by decide
  have h0 := Nat.two_pow_pos k
  refine bits_join_low .i64 62 (by decide) (fun n h0 h1 => by rw [IntKind.wrap_i64]; rw [h62] at h1; omega) k S x hS.1 hS.2 (by omega) ?_ ?_ ?_
  · rcases hx with rfl | rfl <;> omega
  · rcases hx with rfl | rfl
    · simp
    · exact Int.emod_self
  · rcases hx with rfl | rfl <;> omega
def Same (x y : Int) : Prop := x = y
theorem multB_skip (h : ¬ (b.now.phase = 3 ∧ b.beat % 12 = 11)) : multB b = b := by unfold multB; rw [if_neg h]
theorem multB_same3 (b : PuB) : (multB b).now.phase = b.now.phase ∧ ordP (multB b).now = ordP b.now ∧ comesP (multB b).now = comesP b.now := by
  unfold multB
  split <;> exact ⟨rfl, rfl, rfl⟩
set_option maxRecDepth 100000 in
set_option maxHeartbeats 4000000 in
theorem tick_idle (w : World) (h : Gat w nb G m g1 c1 tv pv LB cL vs b st0) (hv : ValidB b) (hs : ValidP { b.now with store := st0 }) (hy : b.now.why = 0) (hcl : b.now.clock ≠ 1000000000) (hcm : comesP b.now = false) :
    Calls Try.prog 74 #[.pointer (some ⟨G, 0, none⟩)] w fun e w' => e = .returned (.tuple #[]) ∧ TkR nb G m g1 c1 tv LB cL vs (beatP b) st0 w w' := by
  have g0 := h.c 0 (v := .pointer (some ⟨m, 0, none⟩)) rfl
  have g2 := h.c 2 (v := .int .i64 b.beat) rfl
  have q6 := h.ctl.c 6 (v := .int .i64 b.now.phase) rfl
  have hp : pulsesB b = b := by unfold pulsesB; dsimp only; rw [hcm]; simp
  have e : beatP b = stepB (multB b) := by unfold beatP; rw [if_neg (by omega), if_neg hcl, hp]
  rw [e]
  have h1 := rests_go w h.ctl hy hcl
  have ec : comeA { b.now with store := st0 } = -1 := by
    have : comesP { b.now with store := st0 } = comesP b.now := rfl
    unfold comeA; rw [this, hcm]; simp
  have h2 := comes_any w h.ctl hs
  rw [ec] at h2
  have hbt := hv.beat
  have H := Lib.hid h
  have HS := Lib.hid hs
  have HV := Lib.hid hv
  have hnb : nb ≤ w.heap.size := by have := h.low.1; have := h.blk.lt; omega
  have Hnb := Lib.hid hnb
  clear h hs hv hp e ec hnb hcl
  have Hcm := Lib.hid hcm
  have Hy := Lib.hid hy
  clear hcm hy
  have Hbt := Lib.hid hbt
  obtain ⟨b0, b1⟩ := hbt
  by_cases h3 : b.now.phase = 3 ∧ b.beat % 12 = 11
  · have q3 : w.cell? ⟨m, 6, none⟩ = some (.int .i64 3) := by rw [q6, h3.1]
    have p4 : (b.beat % 12 == 11) = true := by simpa using h3.2
    have hml := fun W (A : Ctl W nb m g1 c1 tv pv { b.now with store := st0 } (ordP b.now)) => mult_law (b := b) (st0 := st0) Hbt.out HS.out h3.1 h3.2 W A
    have ms := multB_same b
    have hbeat : Same (multB b).beat b.beat := ms.2.1
    have HS2 := Lib.hid (multB_valid (b := b) (st := st0) HS.out)
    have Hy2 := Lib.hid (show (multB b).now.why = 0 by rw [ms.2.2.2.2.1]; exact Hy.out)
    have Hcm2 := Lib.hid (show comesP (multB b).now = false by rw [(multB_same3 b).2.2]; exact Hcm.out)
    have hsum : b.beat + 1 = 24 → 0 ≤ (multB b).sum ∧ (multB b).sum ≤ 16777215 := fun e => by
      rw [ms.2.2.2.1]
      have := HV.out.sum
      rw [show b.beat.toNat = 23 by omega, show (2 : Int) ^ 23 = 8388608 by decide] at this
      omega
    have HSm := Lib.hid hsum
    have Hms := Lib.hid ms
    clear hsum ms h3 q6
    have htd : b.beat.tdiv 12 = b.beat / 12 := Int.tdiv_eq_ediv_of_nonneg b0
    have hwr : IntKind.i64.wrap (b.beat / 12) = b.beat / 12 := IntWalk.i64_in _ (by omega)
    go_enter Try.func74, Try.ntmps74
    go_wp2_with fail
    refine (h1).mono ?_
    rintro e w1 ⟨rfl, rfl⟩
    go_wp2_with fail
    refine (h2).mono ?_
    rintro e w1 ⟨rfl, rfl⟩
    clear h1 h2
    go_wp2_with fail
    go_region_held3 (fun w' => w'.cell? ⟨G, 0, none⟩ = some (.pointer (some ⟨m, 0, none⟩)) ∧ w'.cell? ⟨G, 2, none⟩ = some (.int .i64 b.beat)) (first | exact ⟨g0, g2⟩ | exact ⟨k0, k2⟩)
      ((go_at_call 97; refine (hml _ (by exact H.out.ctl.heapEq rfl)).mono ?_; rintro e w2 hr; obtain ⟨pv2, G2, B2⟩ := H.out.multed hr; obtain ⟨rfl, _⟩ := hr; have k0 := G2.c 0 (v := .pointer (some ⟨m, 0, none⟩)) rfl; have k2 := G2.c 2 (v := .int .i64 b.beat) (by rw [← show (multB b).beat = b.beat from hbeat]; rfl)))
    have H2 := Lib.hid G2
    have HB2 := Lib.hid B2
    clear G2 B2 g0 g2 q3 hml htd hwr
    have g0' := H2.out.c 0 (v := .pointer (some ⟨m, 0, none⟩)) rfl
    have g2' := H2.out.c 2 (v := .int .i64 b.beat) (by rw [← show (multB b).beat = b.beat from hbeat]; rfl)
    have f2' := H2.out.f 2
    have Gb := H2.out.setg 2 (.int .i64 (b.beat + 1)) { multB b with beat := b.beat + 1 } rfl rfl rfl
    have n0 := Gb.c 0 (v := .pointer (some ⟨m, 0, none⟩)) rfl
    have n2 := Gb.c 2 (v := .int .i64 (b.beat + 1)) rfl
    have n4 := Gb.c 4 (v := .int .i64 (multB b).sum) rfl
    have Bb : Below nb w (w2.setCell ⟨G, 2, none⟩ (.int .i64 (b.beat + 1))) := HB2.out.setCell (p := ⟨G, 2, none⟩) H2.out.low.1 _
    have HGb := Lib.hid Gb
    have HBb := Lib.hid Bb
    clear Gb Bb
    by_cases h23 : b.beat + 1 = 24
    · have b24 : (b.beat + 1 == 24) = true := by simpa using h23
      have H23 := Lib.hid h23
      have HSum := Lib.hid (HSm.out h23)
      clear h23
      go_wp2_with fail
      go_region_held3 (fun w' => w'.cell? ⟨G, 0, none⟩ = some (.pointer (some ⟨m, 0, none⟩)) ∧ w'.cell? ⟨G, 4, none⟩ = some (.int .i64 (multB b).sum)) (first | exact ⟨n0, n4⟩ | exact ⟨k0, k4⟩)
        ((go_at_call 98; refine (end_any false (multB b).sum _ (by exact HGb.out.ctl.heapEq rfl) HS2.out (by exact Hy2.out) HSum.out).mono ?_; rintro e w3 hr; obtain ⟨pv3, G3, B3⟩ := HGb.out.ended hr; obtain ⟨rfl, _⟩ := hr; have k0 := G3.c 0 (v := .pointer (some ⟨m, 0, none⟩)) rfl; have k2 := G3.c 2 (v := .int .i64 (b.beat + 1)) rfl; have k3 := G3.c 3 (v := .int .i64 (multB b).carry) rfl; have k4 := G3.c 4 (v := .int .i64 (multB b).sum) rfl; have l2 := G3.f 2; have l3 := G3.f 3; have l4 := G3.f 4))
      have HG3 := Lib.hid G3
      have HB3 := Lib.hid B3
      clear G3 B3
      go_wp2_with fail
      go_end0
      have e : stepB (multB b) = { multB b with now := endP false (multB b).sum (multB b).now, beat := 0, carry := 0, sum := 0 } := by unfold stepB; rw [show (multB b).beat = b.beat from hbeat, if_pos H23.out, Hcm2.out]
      rw [e]
      have g3 := ((HG3.out.setg 2 (.int .i64 0) { multB b with now := endP false (multB b).sum (multB b).now, beat := 0 } rfl rfl rfl).setg 3 (.int .i64 0) { multB b with now := endP false (multB b).sum (multB b).now, beat := 0, carry := 0 } rfl rfl rfl).setg 4 (.int .i64 0) { multB b with now := endP false (multB b).sum (multB b).now, beat := 0, carry := 0, sum := 0 } rfl rfl rfl
      exact ⟨rfl, _, g3, (((HBb.out.trans HB3.out).setCell (p := ⟨G, 2, none⟩) H2.out.low.1 _).setCell (p := ⟨G, 3, none⟩) H2.out.low.1 _).setCell (p := ⟨G, 4, none⟩) H2.out.low.1 _⟩
    · have b24 : (b.beat + 1 == 24) = false := by simpa using h23
      have H23 := Lib.hid h23
      clear h23
      go_wp2_with fail
      go_end0
      have e : stepB (multB b) = { multB b with beat := b.beat + 1 } := by unfold stepB; rw [show (multB b).beat = b.beat from hbeat, if_neg H23.out]
      rw [e]
      exact ⟨rfl, _, HGb.out, HBb.out⟩
  · rw [multB_skip h3]
    have H2 := H
    have HB2 := Lib.hid (Below.refl nb w)
    have hbeat : Same b.beat b.beat := rfl
    have HS2 := HS
    have Hy2 := Hy
    have Hcm2 := Hcm
    have hsum : b.beat + 1 = 24 → 0 ≤ b.sum ∧ b.sum ≤ 16777215 := fun e => by
      have := HV.out.sum
      rw [show b.beat.toNat = 23 by omega, show (2 : Int) ^ 23 = 8388608 by decide] at this
      omega
    have HSm := Lib.hid hsum
    clear hsum
    have p3 : (b.now.phase == 3) = false ∨ (b.now.phase == 3) = true ∧ (b.beat % 12 == 11) = false := by
      by_cases hx : b.now.phase = 3
      · exact .inr ⟨by simpa using hx, by simp only [beq_eq_false_iff_ne]; exact fun c => h3 ⟨hx, c⟩⟩
      · exact .inl (by simpa using hx)
    clear h3
    rcases p3 with p3 | ⟨p3, p4⟩
    all_goals
      go_enter Try.func74, Try.ntmps74
      go_wp2_with fail
      refine (h1).mono ?_
      rintro e w1 ⟨rfl, rfl⟩
      go_wp2_with fail
      refine (h2).mono ?_
      rintro e w1 ⟨rfl, rfl⟩
      clear h1 h2
      have g0' := H2.out.c 0 (v := .pointer (some ⟨m, 0, none⟩)) rfl
      have g2' := H2.out.c 2 (v := .int .i64 b.beat) (by rw [← show (b).beat = b.beat from hbeat]; rfl)
      have f2' := H2.out.f 2
      have Gb := H2.out.setg 2 (.int .i64 (b.beat + 1)) { b with beat := b.beat + 1 } rfl rfl rfl
      have n0 := Gb.c 0 (v := .pointer (some ⟨m, 0, none⟩)) rfl
      have n2 := Gb.c 2 (v := .int .i64 (b.beat + 1)) rfl
      have n4 := Gb.c 4 (v := .int .i64 (b).sum) rfl
      have Bb : Below nb w (w.setCell ⟨G, 2, none⟩ (.int .i64 (b.beat + 1))) := HB2.out.setCell (p := ⟨G, 2, none⟩) H2.out.low.1 _
      have HGb := Lib.hid Gb
      have HBb := Lib.hid Bb
      clear Gb Bb
      by_cases h23 : b.beat + 1 = 24
      · have b24 : (b.beat + 1 == 24) = true := by simpa using h23
        have H23 := Lib.hid h23
        have HSum := Lib.hid (HSm.out h23)
        clear h23
        go_wp2_with fail
        go_region_held3 (fun w' => w'.cell? ⟨G, 0, none⟩ = some (.pointer (some ⟨m, 0, none⟩)) ∧ w'.cell? ⟨G, 4, none⟩ = some (.int .i64 (b).sum)) (first | exact ⟨n0, n4⟩ | exact ⟨k0, k4⟩)
          ((go_at_call 98; refine (end_any false (b).sum _ (by exact HGb.out.ctl.heapEq rfl) HS2.out (by exact Hy2.out) HSum.out).mono ?_; rintro e w3 hr; obtain ⟨pv3, G3, B3⟩ := HGb.out.ended hr; obtain ⟨rfl, _⟩ := hr; have k0 := G3.c 0 (v := .pointer (some ⟨m, 0, none⟩)) rfl; have k2 := G3.c 2 (v := .int .i64 (b.beat + 1)) rfl; have k3 := G3.c 3 (v := .int .i64 (b).carry) rfl; have k4 := G3.c 4 (v := .int .i64 (b).sum) rfl; have l2 := G3.f 2; have l3 := G3.f 3; have l4 := G3.f 4))
        have HG3 := Lib.hid G3
        have HB3 := Lib.hid B3
        clear G3 B3
        go_wp2_with fail
        go_end0
        have e : stepB (b) = { b with now := endP false (b).sum (b).now, beat := 0, carry := 0, sum := 0 } := by unfold stepB; rw [show (b).beat = b.beat from hbeat, if_pos H23.out, Hcm2.out]
        rw [e]
        have g3 := ((HG3.out.setg 2 (.int .i64 0) { b with now := endP false (b).sum (b).now, beat := 0 } rfl rfl rfl).setg 3 (.int .i64 0) { b with now := endP false (b).sum (b).now, beat := 0, carry := 0 } rfl rfl rfl).setg 4 (.int .i64 0) { b with now := endP false (b).sum (b).now, beat := 0, carry := 0, sum := 0 } rfl rfl rfl
        exact ⟨rfl, _, g3, (((HBb.out.trans HB3.out).setCell (p := ⟨G, 2, none⟩) H2.out.low.1 _).setCell (p := ⟨G, 3, none⟩) H2.out.low.1 _).setCell (p := ⟨G, 4, none⟩) H2.out.low.1 _⟩
      · have b24 : (b.beat + 1 == 24) = false := by simpa using h23
        have H23 := Lib.hid h23
        clear h23
        go_wp2_with fail
        go_end0
        have e : stepB (b) = { b with beat := b.beat + 1 } := by unfold stepB; rw [show (b).beat = b.beat from hbeat, if_neg H23.out]
        rw [e]
        exact ⟨rfl, _, HGb.out, HBb.out⟩
theorem Gat.line {W : World} (h : Gat W nb G m g1 c1 tv pv LB cL vs b st0) {j : Nat} (hj : j < 8) : W.cell? ⟨LB, j, none⟩ = some (vs j) := by
  obtain ⟨cur, hc, hv⟩ := h.lb
  exact hc.c j (hv j hj)
theorem Gat.pulse {W : World} (h : Gat W nb G m g1 c1 tv pv LB cL vs b st0) (hl : b.lines.length = 8) (h384 : ∀ l ∈ b.lines, l.length = 384) {j : Nat} (hj : j < 8) : ∃ g cap, vs j = .slice (some ⟨g, 0, none⟩) 384 cap ∧ nb ≤ g ∧ 384 ≤ cap ∧ (∃ cur, Blk W g cur 4) ∧ ∀ i, i < 384 → W.cell? ⟨g, i, none⟩ = some (.bool (pulseAt b j i)) := by
  have hr := h.row j hj
  have hlen : (b.lines[j]?.getD []).length = 384 := by
    rw [List.getElem?_eq_getElem (by omega)]
    exact h384 _ (List.getElem_mem _)
  rcases hr.2 with ⟨_, h0⟩ | ⟨g, cap, cur, e, hb, hg, hle, _, _, ht⟩
  · omega
  · refine ⟨g, cap, e, hb, hle, ⟨cur, hg⟩, fun i hi => cell_of_cells hg i ?_⟩
    have e2 := bv_get (b.lines[j]?.getD []) i (by omega)
    rw [← ht, List.getElem?_take, if_pos (by omega), Array.getElem?_toList] at e2
    exact e2
set_option maxRecDepth 100000 in
set_option maxHeartbeats 4000000 in
theorem tick_come (w : World) (h : Gat w nb G m g1 c1 tv pv LB cL vs b st0) (hv : ValidB b) (hs : ValidP { b.now with store := st0 }) (hy : b.now.why = 0) (hcl : b.now.clock ≠ 1000000000) (hcm : comesP b.now = true) :
    Calls Try.prog 74 #[.pointer (some ⟨G, 0, none⟩)] w fun e w' => e = .returned (.tuple #[]) ∧ TkR nb G m g1 c1 tv LB cL vs (beatP b) st0 w w' := by
  have g0 := h.c 0 (v := .pointer (some ⟨m, 0, none⟩)) rfl
  have gl := h.c 1 (v := .slice (some ⟨LB, 0, none⟩) 8 cL) rfl
  have hbt := hv.beat
  have hcp : comesP { b.now with store := st0 } = true := hcm
  obtain ⟨hp3, hA1, hA0⟩ := comes_phase hs hcp
  have hadr := adrB_of hcm
  have eadr : addrP { b.now with store := st0 } = addrP b.now := rfl
  rw [eadr] at hA1 hA0
  obtain ⟨A, hA⟩ : ∃ A : Nat, addrP b.now = (A : Int) := ⟨(addrP b.now).toNat, by omega⟩
  rw [hA] at hA1 hA0 hadr
  have hA128 : A < 128 := by omega
  obtain ⟨k, hk⟩ : ∃ k : Nat, b.beat = (k : Int) := ⟨b.beat.toNat, by omega⟩
  have hk24 : k < 24 := by omega
  have g2 := h.c 2 (v := .int .i64 (k : Int)) (by rw [← hk]; rfl)
  have q6 := h.ctl.c 6 (v := .int .i64 b.now.phase) rfl
  have p3 : (b.now.phase == 3) = false := by simpa using hp3
  have h1 := rests_go w h.ctl hy hcl
  have ec : comeA { b.now with store := st0 } = (A : Int) := by
    unfold comeA; rw [hcp, if_pos rfl, eadr, hA]
  have h2 := comes_any w h.ctl hs
  rw [ec] at h2
  have hj8 : A / 16 < 8 := by omega
  obtain ⟨g, cap, hvs, hgb, hcap, hgB, hpul⟩ := h.pulse hv.lines hv.len hj8
  have hln := h.line hj8
  rw [hvs] at hln
  have hpc := hpul (A % 16 * 24 + k) (by omega)
  have h3 := fun W (C : Ctl W nb m g1 c1 tv pv { b.now with store := st0 } (ordP b.now)) => repl_any W C
  obtain ⟨P, hP⟩ : ∃ P, P = pulseAt b (A / 16) (A % 16 * 24 + k) := ⟨_, rfl⟩
  rw [← hP] at hpc
  have H := Lib.hid h
  have HS := Lib.hid hs
  have HV := Lib.hid hv
  have HP := Lib.hid hP
  have HA := Lib.hid hA
  have HK := Lib.hid hk
  have Hcm := Lib.hid hcm
  have Hy := Lib.hid hy
  have Hcl := Lib.hid hcl
  have Hadr := Lib.hid hadr
  have Hvs := Lib.hid hvs
  have Hpul := Lib.hid hpul
  have Hgb := Lib.hid (And.intro hgb hgB)
  clear h hs hv hP hA hk hcm hy hcl hadr hcp eadr hp3 ec hvs hpul hbt hgb hgB
  have d1 : (0 : Int) ≤ (A : Int) := by omega
  have d2 : (A : Int) < 128 := by omega
  have d3 : ((A : Int)).tdiv 16 = (A : Int) / 16 := Int.tdiv_eq_ediv_of_nonneg d1
  have d4 : ((A : Int)).tmod 16 = (A : Int) % 16 := Int.tmod_eq_emod_of_nonneg d1
  have d5 : IntKind.i64.wrap ((A : Int) / 16) = (A : Int) / 16 := IntWalk.i64_in _ (by omega)
  have d6 : IntKind.i64.wrap ((A : Int) % 16) = (A : Int) % 16 := IntWalk.i64_in _ (by omega)
  have d7 : IntKind.i64.wrap ((A : Int) % 16 * 24) = (A : Int) % 16 * 24 := IntWalk.i64_in _ (by omega)
  have d8 : IntKind.i64.wrap ((A : Int) % 16 * 24 + (k : Int)) = (A : Int) % 16 * 24 + (k : Int) := IntWalk.i64_in _ (by omega)
  have d9 : (0 : Int) ≤ (A : Int) / 16 := by omega
  have d10 : (A : Int) / 16 < 8 := by omega
  have d11 : (0 : Int) ≤ (A : Int) % 16 * 24 + (k : Int) := by omega
  have d12 : (A : Int) % 16 * 24 + (k : Int) < 384 := by omega
  have hpl := pulsesB_law HV.out
  have hp1 := hpl.1
  have hp2 : (pulsesB b).beat = b.beat := hpl.2.1
  have hbeat : Same (pulsesB b).beat b.beat := hp2
  have e : beatP b = stepB (pulsesB b) := by
    unfold beatP
    rw [if_neg (by have := Hy.out; omega), if_neg Hcl.out, multB_skip (fun c => by rw [hp1] at c; have := c.1; simp [this] at p3)]
  rw [e]
  have HS2 : Hid (ValidP { (pulsesB b).now with store := st0 }) := Lib.hid (by rw [hp1]; exact HS.out)
  have Hy2 := Lib.hid (show (pulsesB b).now.why = 0 by rw [hp1]; exact Hy.out)
  have Hcm2 := Lib.hid (show comesP (pulsesB b).now = true by rw [hp1]; exact Hcm.out)
  have hsum : b.beat + 1 = 24 → 0 ≤ (pulsesB b).sum ∧ (pulsesB b).sum ≤ 16777215 := fun e => by
    have h6 := hpl.2.2.2.2.2
    rw [show b.beat.toNat + 1 = 24 by omega, show (2 : Int) ^ 24 = 16777216 by decide] at h6
    omega
  have HSm := Lib.hid hsum
  have hsb := HV.out.sum
  have hkt : b.beat.toNat = k := by rw [HK.out]; rfl
  rw [hkt] at hsb
  have Hsb := Lib.hid hsb
  have Hp1 := Lib.hid hp1
  have hpw : (2 : Nat) ^ k ≤ 2 ^ 23 := Nat.pow_le_pow_right (by decide) (by omega)
  have hpw2 : ((2 ^ k : Nat) : Int) = 2 ^ k := by simp
  have h223 : (2 : Nat) ^ 23 = 8388608 := by decide
  have hpk : (1 : Int) ≤ 2 ^ k ∧ (2 : Int) ^ k ≤ 8388608 := by have := Nat.two_pow_pos k; omega
  have Hpk := Lib.hid hpk
  have Hkt := Lib.hid hkt
  clear hpl hp1 hp2 e hsum hsb hkt hpw hpw2 h223 hpk
  have Hadr' : adrB b.now = A := by have := Hadr.out; omega
  have HAd := Lib.hid Hadr'
  clear Hadr'
  go_enter Try.func74, Try.ntmps74
  go_wp2_with fail
  refine (h1).mono ?_
  rintro e w1 ⟨rfl, rfl⟩
  go_wp2_with fail
  refine (h2).mono ?_
  rintro e w1 ⟨rfl, rfl⟩
  clear h1 h2
  go_wp2_with fail
  go_quiet (fail)
  have g4 := H.out.c 4 (v := .int .i64 b.sum) rfl
  have f4 := H.out.f 4
  have b0 : 0 ≤ b.beat := by rw [HK.out]; omega
  have b1 : b.beat ≤ 23 := by rw [HK.out]; omega
  cases P with
  | false =>
    go_wp2_with fail
    refine (h3 _ (H.out.ctl.drewN nq)).mono ?_
    rintro e w4 ⟨rfl, n4, rfl⟩
    cases hr : replP b.now with
    | false =>
      have hr' : replP { b.now with store := st0 } = false := hr
      rw [hr']
      have hpb : pulsesB b = { b with sum := b.sum + 0 } := by
        unfold pulsesB
        dsimp only
        rw [Hcm.out, if_pos rfl, hr, if_neg (by decide), HAd.out, Hkt.out, ← HP.out]
        show ({ b with sum := b.sum + b2i false * 2 ^ k } : PuB) = _
        rw [show b2i false * 2 ^ k = 0 from by simp [b2i]]
      have Hpb := Lib.hid hpb
      clear hpb hr' hr
      go_wp2_with fail
      go_region_law (fail)
      all_goals
        have hval : bits .or .i64 b.sum (IntKind.i64.wrap (0)) = b.sum + 0 := by
          have h1 := Hpk.out
          rw [IntWalk.i64_in (0) (by omega)]
          exact or_low (by omega) Hsb.out (by first | exact .inl rfl | exact .inr rfl)
        rw [hval]
        obtain ⟨W2, hW2⟩ : ∃ W2 : World, W2 = (w.drewN (nq + n4 + 1)).setCell ⟨G, 4, none⟩ (.int .i64 (b.sum + 0)) := ⟨_, rfl⟩
        have G2 : Gat W2 nb G m g1 c1 tv pv LB cL vs (pulsesB b) st0 := by
          rw [hW2, Hpb.out]
          exact (H.out.ext (ext_drewN (Ext.refl w) (nq + n4 + 1))).setg 4 (.int .i64 (b.sum + 0)) { b with sum := b.sum + 0 } rfl rfl rfl
        have B2 : Below nb w W2 := by
          rw [hW2]
          exact (below_drewN (Below.refl nb w) (nq + n4 + 1)).setCell (p := ⟨G, 4, none⟩) H.out.low.1 _
        rw [← hW2]
        clear hW2 hval
        have H2 := Lib.hid G2
        have HB2 := Lib.hid B2
        have q6' := G2.ctl.c 6 (v := .int .i64 b.now.phase) (by rw [← Hp1.out]; rfl)
        clear G2 B2 g0 gl g2 q6 g4 f4 hln hpc d3 d4 d5 d6 d7 d8 d9 d10 d11 d12
        have g0' := H2.out.c 0 (v := .pointer (some ⟨m, 0, none⟩)) rfl
        have g2' := H2.out.c 2 (v := .int .i64 b.beat) (by rw [← show (pulsesB b).beat = b.beat from hbeat]; rfl)
        have f2' := H2.out.f 2
        have Gb := H2.out.setg 2 (.int .i64 (b.beat + 1)) { pulsesB b with beat := b.beat + 1 } rfl rfl rfl
        have n0 := Gb.c 0 (v := .pointer (some ⟨m, 0, none⟩)) rfl
        have n2 := Gb.c 2 (v := .int .i64 (b.beat + 1)) rfl
        have n4 := Gb.c 4 (v := .int .i64 (pulsesB b).sum) rfl
        have Bb : Below nb w (W2.setCell ⟨G, 2, none⟩ (.int .i64 (b.beat + 1))) := HB2.out.setCell (p := ⟨G, 2, none⟩) H2.out.low.1 _
        have HGb := Lib.hid Gb
        have HBb := Lib.hid Bb
        clear Gb Bb
        by_cases h23 : b.beat + 1 = 24
        · have b24 : (b.beat + 1 == 24) = true := by simpa using h23
          have H23 := Lib.hid h23
          have HSum := Lib.hid (HSm.out h23)
          clear h23
          go_wp2_with fail
          go_region_held3 (fun w' => w'.cell? ⟨G, 0, none⟩ = some (.pointer (some ⟨m, 0, none⟩)) ∧ w'.cell? ⟨G, 4, none⟩ = some (.int .i64 (pulsesB b).sum)) (first | exact ⟨n0, n4⟩ | exact ⟨k0, k4⟩)
            ((go_at_call 98; refine (end_any true (pulsesB b).sum _ (by exact HGb.out.ctl.heapEq rfl) HS2.out (by exact Hy2.out) HSum.out).mono ?_; rintro e w3 hr; obtain ⟨pv3, G3, B3⟩ := HGb.out.ended hr; obtain ⟨rfl, _⟩ := hr; have k0 := G3.c 0 (v := .pointer (some ⟨m, 0, none⟩)) rfl; have k2 := G3.c 2 (v := .int .i64 (b.beat + 1)) rfl; have k3 := G3.c 3 (v := .int .i64 (pulsesB b).carry) rfl; have k4 := G3.c 4 (v := .int .i64 (pulsesB b).sum) rfl; have l2 := G3.f 2; have l3 := G3.f 3; have l4 := G3.f 4))
          have HG3 := Lib.hid G3
          have HB3 := Lib.hid B3
          clear G3 B3
          go_wp2_with fail
          go_end0
          have e : stepB (pulsesB b) = { pulsesB b with now := endP true (pulsesB b).sum (pulsesB b).now, beat := 0, carry := 0, sum := 0 } := by unfold stepB; rw [show (pulsesB b).beat = b.beat from hbeat, if_pos H23.out, Hcm2.out]
          rw [e]
          have g3 := ((HG3.out.setg 2 (.int .i64 0) { pulsesB b with now := endP true (pulsesB b).sum (pulsesB b).now, beat := 0 } rfl rfl rfl).setg 3 (.int .i64 0) { pulsesB b with now := endP true (pulsesB b).sum (pulsesB b).now, beat := 0, carry := 0 } rfl rfl rfl).setg 4 (.int .i64 0) { pulsesB b with now := endP true (pulsesB b).sum (pulsesB b).now, beat := 0, carry := 0, sum := 0 } rfl rfl rfl
          exact ⟨rfl, _, g3, (((HBb.out.trans HB3.out).setCell (p := ⟨G, 2, none⟩) H2.out.low.1 _).setCell (p := ⟨G, 3, none⟩) H2.out.low.1 _).setCell (p := ⟨G, 4, none⟩) H2.out.low.1 _⟩
        · have b24 : (b.beat + 1 == 24) = false := by simpa using h23
          have H23 := Lib.hid h23
          clear h23
          go_wp2_with fail
          go_end0
          have e : stepB (pulsesB b) = { pulsesB b with beat := b.beat + 1 } := by unfold stepB; rw [show (pulsesB b).beat = b.beat from hbeat, if_neg H23.out]
          rw [e]
          exact ⟨rfl, _, HGb.out, HBb.out⟩
    | true =>
      have hr' : replP { b.now with store := st0 } = true := hr
      rw [hr']
      have hop := HS.out.operand
      have hop' : 0 ≤ b.now.operand ∧ b.now.operand ≤ 16777215 := hop
      have hbq := bitQ_bd b.now.operand k
      have ebq : bitQ b.now.operand k = b.now.operand / 2 ^ k % 2 := rfl
      rw [ebq] at hbq
      have hpb : pulsesB b = { b with lines := putB b.lines (A / 16) (A % 16 * 24 + k) (decide ((replB b 0 (b.now.operand / 2 ^ k % 2)).1 = 1)), carry := (replB b 0 (b.now.operand / 2 ^ k % 2)).2 } := by
        unfold pulsesB
        dsimp only
        rw [Hcm.out, if_pos rfl, hr, if_pos rfl, HAd.out, Hkt.out, ← HP.out]
        rfl
      have Hpb := Lib.hid hpb
      have q8 := H.out.ctl.c 8 (v := .int .i64 b.now.operand) rfl
      have hrp := fun W (C : Gat W nb G m g1 c1 tv pv LB cL vs b st0) => replaced_any 0 (b.now.operand / 2 ^ k % 2) W C HS.out hr (by decide) hbq HV.out.carry HV.out.beat
      have Hbq := Lib.hid hbq
      obtain ⟨o0, o1⟩ := hop'
      clear hpb hr' hr hop ebq hbq
      go_wp2_with fail
      go_region_held3 (fun w' => w'.cell? ⟨G, 0, none⟩ = some (.pointer (some ⟨m, 0, none⟩)) ∧ w'.cell? ⟨m, 8, none⟩ = some (.int .i64 b.now.operand) ∧ w'.cell? ⟨G, 2, none⟩ = some (.int .i64 (k : Int))) (first | exact ⟨g0, q8, g2⟩ | exact ⟨k0, k8, k2⟩ | exact ⟨j0, j8, j2⟩)
        ((go_at_call 107; refine (hrp _ (by exact H.out.ext (below_drewN (Ext.refl w) _))).mono ?_; rintro e w5 ⟨rfl, G5, B5⟩; have k0 := G5.c 0 (v := .pointer (some ⟨m, 0, none⟩)) rfl; have k8 := G5.ctl.c 8 (v := .int .i64 b.now.operand) rfl; have k2 := G5.c 2 (v := .int .i64 (k : Int)) (by rw [← HK.out]; rfl); obtain ⟨kp, kf, kb⟩ := G5.pulseC (i := A % 16 * 24 + k) HV.out.lines HV.out.len hj8 Hvs.out (by omega); have G6 := G5.setrow (i := A % 16 * 24 + k) HV.out.lines hj8 Hvs.out kb ((replB b 0 (b.now.operand / 2 ^ k % 2)).1 == 1); have j0 := G6.c 0 (v := .pointer (some ⟨m, 0, none⟩)) rfl; have j8 := G6.ctl.c 8 (v := .int .i64 b.now.operand) rfl; have j2 := G6.c 2 (v := .int .i64 (k : Int)) (by rw [← HK.out]; rfl)))
      have hgb := Hgb.out.1
      obtain ⟨W2, hW2⟩ : ∃ W2 : World, W2 = w5.setCell ⟨g, A % 16 * 24 + k, none⟩ (.bool ((replB b 0 (b.now.operand / 2 ^ k % 2)).1 == 1)) := ⟨_, rfl⟩
      have G2 : Gat W2 nb G m g1 c1 tv pv LB cL vs (pulsesB b) st0 := by
        rw [hW2, Hpb.out]
        exact G6
      have B2 : Below nb w W2 := by
        rw [hW2]
        exact ((below_drewN (Below.refl nb w) _).trans B5).setCell (p := ⟨g, A % 16 * 24 + k, none⟩) hgb _
      rw [← hW2]
      clear hW2
      have H2 := Lib.hid G2
      have HB2 := Lib.hid B2
      have q6' := G2.ctl.c 6 (v := .int .i64 b.now.phase) (by rw [← Hp1.out]; rfl)
      clear G2 B2 g0 gl g2 q6 g4 f4 hln hpc d3 d4 d5 d6 d7 d8 d9 d10 d11 d12 k0 k8 k2 j0 j8 j2 kp kf kb q8 G5 G6 B5 hrp hgb o0 o1
      have g0' := H2.out.c 0 (v := .pointer (some ⟨m, 0, none⟩)) rfl
      have g2' := H2.out.c 2 (v := .int .i64 b.beat) (by rw [← show (pulsesB b).beat = b.beat from hbeat]; rfl)
      have f2' := H2.out.f 2
      have Gb := H2.out.setg 2 (.int .i64 (b.beat + 1)) { pulsesB b with beat := b.beat + 1 } rfl rfl rfl
      have n0 := Gb.c 0 (v := .pointer (some ⟨m, 0, none⟩)) rfl
      have n2 := Gb.c 2 (v := .int .i64 (b.beat + 1)) rfl
      have n4 := Gb.c 4 (v := .int .i64 (pulsesB b).sum) rfl
      have Bb : Below nb w (W2.setCell ⟨G, 2, none⟩ (.int .i64 (b.beat + 1))) := HB2.out.setCell (p := ⟨G, 2, none⟩) H2.out.low.1 _
      have HGb := Lib.hid Gb
      have HBb := Lib.hid Bb
      clear Gb Bb
      by_cases h23 : b.beat + 1 = 24
      · have b24 : (b.beat + 1 == 24) = true := by simpa using h23
        have H23 := Lib.hid h23
        have HSum := Lib.hid (HSm.out h23)
        clear h23
        go_wp2_with fail
        go_region_held3 (fun w' => w'.cell? ⟨G, 0, none⟩ = some (.pointer (some ⟨m, 0, none⟩)) ∧ w'.cell? ⟨G, 4, none⟩ = some (.int .i64 (pulsesB b).sum)) (first | exact ⟨n0, n4⟩ | exact ⟨k0, k4⟩)
          ((go_at_call 98; refine (end_any true (pulsesB b).sum _ (by exact HGb.out.ctl.heapEq rfl) HS2.out (by exact Hy2.out) HSum.out).mono ?_; rintro e w3 hr; obtain ⟨pv3, G3, B3⟩ := HGb.out.ended hr; obtain ⟨rfl, _⟩ := hr; have k0 := G3.c 0 (v := .pointer (some ⟨m, 0, none⟩)) rfl; have k2 := G3.c 2 (v := .int .i64 (b.beat + 1)) rfl; have k3 := G3.c 3 (v := .int .i64 (pulsesB b).carry) rfl; have k4 := G3.c 4 (v := .int .i64 (pulsesB b).sum) rfl; have l2 := G3.f 2; have l3 := G3.f 3; have l4 := G3.f 4))
        have HG3 := Lib.hid G3
        have HB3 := Lib.hid B3
        clear G3 B3
        go_wp2_with fail
        go_end0
        have e : stepB (pulsesB b) = { pulsesB b with now := endP true (pulsesB b).sum (pulsesB b).now, beat := 0, carry := 0, sum := 0 } := by unfold stepB; rw [show (pulsesB b).beat = b.beat from hbeat, if_pos H23.out, Hcm2.out]
        rw [e]
        have g3 := ((HG3.out.setg 2 (.int .i64 0) { pulsesB b with now := endP true (pulsesB b).sum (pulsesB b).now, beat := 0 } rfl rfl rfl).setg 3 (.int .i64 0) { pulsesB b with now := endP true (pulsesB b).sum (pulsesB b).now, beat := 0, carry := 0 } rfl rfl rfl).setg 4 (.int .i64 0) { pulsesB b with now := endP true (pulsesB b).sum (pulsesB b).now, beat := 0, carry := 0, sum := 0 } rfl rfl rfl
        exact ⟨rfl, _, g3, (((HBb.out.trans HB3.out).setCell (p := ⟨G, 2, none⟩) H2.out.low.1 _).setCell (p := ⟨G, 3, none⟩) H2.out.low.1 _).setCell (p := ⟨G, 4, none⟩) H2.out.low.1 _⟩
      · have b24 : (b.beat + 1 == 24) = false := by simpa using h23
        have H23 := Lib.hid h23
        clear h23
        go_wp2_with fail
        go_end0
        have e : stepB (pulsesB b) = { pulsesB b with beat := b.beat + 1 } := by unfold stepB; rw [show (pulsesB b).beat = b.beat from hbeat, if_neg H23.out]
        rw [e]
        exact ⟨rfl, _, HGb.out, HBb.out⟩
  | true =>
    go_wp2_with fail
    refine (h3 _ (H.out.ctl.drewN nq)).mono ?_
    rintro e w4 ⟨rfl, n4, rfl⟩
    cases hr : replP b.now with
    | false =>
      have hr' : replP { b.now with store := st0 } = false := hr
      rw [hr']
      have hpb : pulsesB b = { b with sum := b.sum + 2 ^ k } := by
        unfold pulsesB
        dsimp only
        rw [Hcm.out, if_pos rfl, hr, if_neg (by decide), HAd.out, Hkt.out, ← HP.out]
        show ({ b with sum := b.sum + b2i true * 2 ^ k } : PuB) = _
        rw [show b2i true * 2 ^ k = 2 ^ k from by simp [b2i]]
      have Hpb := Lib.hid hpb
      clear hpb hr' hr
      go_wp2_with fail
      go_region_law (fail)
      all_goals
        have hval : bits .or .i64 b.sum (IntKind.i64.wrap (2 ^ k)) = b.sum + 2 ^ k := by
          have h1 := Hpk.out
          rw [IntWalk.i64_in (2 ^ k) (by omega)]
          exact or_low (by omega) Hsb.out (by first | exact .inl rfl | exact .inr rfl)
        rw [hval]
        obtain ⟨W2, hW2⟩ : ∃ W2 : World, W2 = (w.drewN (nq + n4 + 1)).setCell ⟨G, 4, none⟩ (.int .i64 (b.sum + 2 ^ k)) := ⟨_, rfl⟩
        have G2 : Gat W2 nb G m g1 c1 tv pv LB cL vs (pulsesB b) st0 := by
          rw [hW2, Hpb.out]
          exact (H.out.ext (ext_drewN (Ext.refl w) (nq + n4 + 1))).setg 4 (.int .i64 (b.sum + 2 ^ k)) { b with sum := b.sum + 2 ^ k } rfl rfl rfl
        have B2 : Below nb w W2 := by
          rw [hW2]
          exact (below_drewN (Below.refl nb w) (nq + n4 + 1)).setCell (p := ⟨G, 4, none⟩) H.out.low.1 _
        rw [← hW2]
        clear hW2 hval
        have H2 := Lib.hid G2
        have HB2 := Lib.hid B2
        have q6' := G2.ctl.c 6 (v := .int .i64 b.now.phase) (by rw [← Hp1.out]; rfl)
        clear G2 B2 g0 gl g2 q6 g4 f4 hln hpc d3 d4 d5 d6 d7 d8 d9 d10 d11 d12
        have g0' := H2.out.c 0 (v := .pointer (some ⟨m, 0, none⟩)) rfl
        have g2' := H2.out.c 2 (v := .int .i64 b.beat) (by rw [← show (pulsesB b).beat = b.beat from hbeat]; rfl)
        have f2' := H2.out.f 2
        have Gb := H2.out.setg 2 (.int .i64 (b.beat + 1)) { pulsesB b with beat := b.beat + 1 } rfl rfl rfl
        have n0 := Gb.c 0 (v := .pointer (some ⟨m, 0, none⟩)) rfl
        have n2 := Gb.c 2 (v := .int .i64 (b.beat + 1)) rfl
        have n4 := Gb.c 4 (v := .int .i64 (pulsesB b).sum) rfl
        have Bb : Below nb w (W2.setCell ⟨G, 2, none⟩ (.int .i64 (b.beat + 1))) := HB2.out.setCell (p := ⟨G, 2, none⟩) H2.out.low.1 _
        have HGb := Lib.hid Gb
        have HBb := Lib.hid Bb
        clear Gb Bb
        by_cases h23 : b.beat + 1 = 24
        · have b24 : (b.beat + 1 == 24) = true := by simpa using h23
          have H23 := Lib.hid h23
          have HSum := Lib.hid (HSm.out h23)
          clear h23
          go_wp2_with fail
          go_region_held3 (fun w' => w'.cell? ⟨G, 0, none⟩ = some (.pointer (some ⟨m, 0, none⟩)) ∧ w'.cell? ⟨G, 4, none⟩ = some (.int .i64 (pulsesB b).sum)) (first | exact ⟨n0, n4⟩ | exact ⟨k0, k4⟩)
            ((go_at_call 98; refine (end_any true (pulsesB b).sum _ (by exact HGb.out.ctl.heapEq rfl) HS2.out (by exact Hy2.out) HSum.out).mono ?_; rintro e w3 hr; obtain ⟨pv3, G3, B3⟩ := HGb.out.ended hr; obtain ⟨rfl, _⟩ := hr; have k0 := G3.c 0 (v := .pointer (some ⟨m, 0, none⟩)) rfl; have k2 := G3.c 2 (v := .int .i64 (b.beat + 1)) rfl; have k3 := G3.c 3 (v := .int .i64 (pulsesB b).carry) rfl; have k4 := G3.c 4 (v := .int .i64 (pulsesB b).sum) rfl; have l2 := G3.f 2; have l3 := G3.f 3; have l4 := G3.f 4))
          have HG3 := Lib.hid G3
          have HB3 := Lib.hid B3
          clear G3 B3
          go_wp2_with fail
          go_end0
          have e : stepB (pulsesB b) = { pulsesB b with now := endP true (pulsesB b).sum (pulsesB b).now, beat := 0, carry := 0, sum := 0 } := by unfold stepB; rw [show (pulsesB b).beat = b.beat from hbeat, if_pos H23.out, Hcm2.out]
          rw [e]
          have g3 := ((HG3.out.setg 2 (.int .i64 0) { pulsesB b with now := endP true (pulsesB b).sum (pulsesB b).now, beat := 0 } rfl rfl rfl).setg 3 (.int .i64 0) { pulsesB b with now := endP true (pulsesB b).sum (pulsesB b).now, beat := 0, carry := 0 } rfl rfl rfl).setg 4 (.int .i64 0) { pulsesB b with now := endP true (pulsesB b).sum (pulsesB b).now, beat := 0, carry := 0, sum := 0 } rfl rfl rfl
          exact ⟨rfl, _, g3, (((HBb.out.trans HB3.out).setCell (p := ⟨G, 2, none⟩) H2.out.low.1 _).setCell (p := ⟨G, 3, none⟩) H2.out.low.1 _).setCell (p := ⟨G, 4, none⟩) H2.out.low.1 _⟩
        · have b24 : (b.beat + 1 == 24) = false := by simpa using h23
          have H23 := Lib.hid h23
          clear h23
          go_wp2_with fail
          go_end0
          have e : stepB (pulsesB b) = { pulsesB b with beat := b.beat + 1 } := by unfold stepB; rw [show (pulsesB b).beat = b.beat from hbeat, if_neg H23.out]
          rw [e]
          exact ⟨rfl, _, HGb.out, HBb.out⟩
    | true =>
      have hr' : replP { b.now with store := st0 } = true := hr
      rw [hr']
      have hop := HS.out.operand
      have hop' : 0 ≤ b.now.operand ∧ b.now.operand ≤ 16777215 := hop
      have hbq := bitQ_bd b.now.operand k
      have ebq : bitQ b.now.operand k = b.now.operand / 2 ^ k % 2 := rfl
      rw [ebq] at hbq
      have hpb : pulsesB b = { b with lines := putB b.lines (A / 16) (A % 16 * 24 + k) (decide ((replB b 1 (b.now.operand / 2 ^ k % 2)).1 = 1)), carry := (replB b 1 (b.now.operand / 2 ^ k % 2)).2 } := by
        unfold pulsesB
        dsimp only
        rw [Hcm.out, if_pos rfl, hr, if_pos rfl, HAd.out, Hkt.out, ← HP.out]
        rfl
      have Hpb := Lib.hid hpb
      have q8 := H.out.ctl.c 8 (v := .int .i64 b.now.operand) rfl
      have hrp := fun W (C : Gat W nb G m g1 c1 tv pv LB cL vs b st0) => replaced_any 1 (b.now.operand / 2 ^ k % 2) W C HS.out hr (by decide) hbq HV.out.carry HV.out.beat
      have Hbq := Lib.hid hbq
      obtain ⟨o0, o1⟩ := hop'
      clear hpb hr' hr hop ebq hbq
      go_wp2_with fail
      go_region_held3 (fun w' => w'.cell? ⟨G, 0, none⟩ = some (.pointer (some ⟨m, 0, none⟩)) ∧ w'.cell? ⟨m, 8, none⟩ = some (.int .i64 b.now.operand) ∧ w'.cell? ⟨G, 2, none⟩ = some (.int .i64 (k : Int))) (first | exact ⟨g0, q8, g2⟩ | exact ⟨k0, k8, k2⟩ | exact ⟨j0, j8, j2⟩)
        ((go_at_call 107; refine (hrp _ (by exact H.out.ext (below_drewN (Ext.refl w) _))).mono ?_; rintro e w5 ⟨rfl, G5, B5⟩; have k0 := G5.c 0 (v := .pointer (some ⟨m, 0, none⟩)) rfl; have k8 := G5.ctl.c 8 (v := .int .i64 b.now.operand) rfl; have k2 := G5.c 2 (v := .int .i64 (k : Int)) (by rw [← HK.out]; rfl); obtain ⟨kp, kf, kb⟩ := G5.pulseC (i := A % 16 * 24 + k) HV.out.lines HV.out.len hj8 Hvs.out (by omega); have G6 := G5.setrow (i := A % 16 * 24 + k) HV.out.lines hj8 Hvs.out kb ((replB b 1 (b.now.operand / 2 ^ k % 2)).1 == 1); have j0 := G6.c 0 (v := .pointer (some ⟨m, 0, none⟩)) rfl; have j8 := G6.ctl.c 8 (v := .int .i64 b.now.operand) rfl; have j2 := G6.c 2 (v := .int .i64 (k : Int)) (by rw [← HK.out]; rfl)))
      have hgb := Hgb.out.1
      obtain ⟨W2, hW2⟩ : ∃ W2 : World, W2 = w5.setCell ⟨g, A % 16 * 24 + k, none⟩ (.bool ((replB b 1 (b.now.operand / 2 ^ k % 2)).1 == 1)) := ⟨_, rfl⟩
      have G2 : Gat W2 nb G m g1 c1 tv pv LB cL vs (pulsesB b) st0 := by
        rw [hW2, Hpb.out]
        exact G6
      have B2 : Below nb w W2 := by
        rw [hW2]
        exact ((below_drewN (Below.refl nb w) _).trans B5).setCell (p := ⟨g, A % 16 * 24 + k, none⟩) hgb _
      rw [← hW2]
      clear hW2
      have H2 := Lib.hid G2
      have HB2 := Lib.hid B2
      have q6' := G2.ctl.c 6 (v := .int .i64 b.now.phase) (by rw [← Hp1.out]; rfl)
      clear G2 B2 g0 gl g2 q6 g4 f4 hln hpc d3 d4 d5 d6 d7 d8 d9 d10 d11 d12 k0 k8 k2 j0 j8 j2 kp kf kb q8 G5 G6 B5 hrp hgb o0 o1
      have g0' := H2.out.c 0 (v := .pointer (some ⟨m, 0, none⟩)) rfl
      have g2' := H2.out.c 2 (v := .int .i64 b.beat) (by rw [← show (pulsesB b).beat = b.beat from hbeat]; rfl)
      have f2' := H2.out.f 2
      have Gb := H2.out.setg 2 (.int .i64 (b.beat + 1)) { pulsesB b with beat := b.beat + 1 } rfl rfl rfl
      have n0 := Gb.c 0 (v := .pointer (some ⟨m, 0, none⟩)) rfl
      have n2 := Gb.c 2 (v := .int .i64 (b.beat + 1)) rfl
      have n4 := Gb.c 4 (v := .int .i64 (pulsesB b).sum) rfl
      have Bb : Below nb w (W2.setCell ⟨G, 2, none⟩ (.int .i64 (b.beat + 1))) := HB2.out.setCell (p := ⟨G, 2, none⟩) H2.out.low.1 _
      have HGb := Lib.hid Gb
      have HBb := Lib.hid Bb
      clear Gb Bb
      by_cases h23 : b.beat + 1 = 24
      · have b24 : (b.beat + 1 == 24) = true := by simpa using h23
        have H23 := Lib.hid h23
        have HSum := Lib.hid (HSm.out h23)
        clear h23
        go_wp2_with fail
        go_region_held3 (fun w' => w'.cell? ⟨G, 0, none⟩ = some (.pointer (some ⟨m, 0, none⟩)) ∧ w'.cell? ⟨G, 4, none⟩ = some (.int .i64 (pulsesB b).sum)) (first | exact ⟨n0, n4⟩ | exact ⟨k0, k4⟩)
          ((go_at_call 98; refine (end_any true (pulsesB b).sum _ (by exact HGb.out.ctl.heapEq rfl) HS2.out (by exact Hy2.out) HSum.out).mono ?_; rintro e w3 hr; obtain ⟨pv3, G3, B3⟩ := HGb.out.ended hr; obtain ⟨rfl, _⟩ := hr; have k0 := G3.c 0 (v := .pointer (some ⟨m, 0, none⟩)) rfl; have k2 := G3.c 2 (v := .int .i64 (b.beat + 1)) rfl; have k3 := G3.c 3 (v := .int .i64 (pulsesB b).carry) rfl; have k4 := G3.c 4 (v := .int .i64 (pulsesB b).sum) rfl; have l2 := G3.f 2; have l3 := G3.f 3; have l4 := G3.f 4))
        have HG3 := Lib.hid G3
        have HB3 := Lib.hid B3
        clear G3 B3
        go_wp2_with fail
        go_end0
        have e : stepB (pulsesB b) = { pulsesB b with now := endP true (pulsesB b).sum (pulsesB b).now, beat := 0, carry := 0, sum := 0 } := by unfold stepB; rw [show (pulsesB b).beat = b.beat from hbeat, if_pos H23.out, Hcm2.out]
        rw [e]
        have g3 := ((HG3.out.setg 2 (.int .i64 0) { pulsesB b with now := endP true (pulsesB b).sum (pulsesB b).now, beat := 0 } rfl rfl rfl).setg 3 (.int .i64 0) { pulsesB b with now := endP true (pulsesB b).sum (pulsesB b).now, beat := 0, carry := 0 } rfl rfl rfl).setg 4 (.int .i64 0) { pulsesB b with now := endP true (pulsesB b).sum (pulsesB b).now, beat := 0, carry := 0, sum := 0 } rfl rfl rfl
        exact ⟨rfl, _, g3, (((HBb.out.trans HB3.out).setCell (p := ⟨G, 2, none⟩) H2.out.low.1 _).setCell (p := ⟨G, 3, none⟩) H2.out.low.1 _).setCell (p := ⟨G, 4, none⟩) H2.out.low.1 _⟩
      · have b24 : (b.beat + 1 == 24) = false := by simpa using h23
        have H23 := Lib.hid h23
        clear h23
        go_wp2_with fail
        go_end0
        have e : stepB (pulsesB b) = { pulsesB b with beat := b.beat + 1 } := by unfold stepB; rw [show (pulsesB b).beat = b.beat from hbeat, if_neg H23.out]
        rw [e]
        exact ⟨rfl, _, HGb.out, HBb.out⟩
theorem tick_any (w : World) (h : Gat w nb G m g1 c1 tv pv LB cL vs b st0) (hv : ValidB b) (hs : ValidP { b.now with store := st0 }) :
    Calls Try.prog 74 #[.pointer (some ⟨G, 0, none⟩)] w fun e w' => e = .returned (.tuple #[]) ∧ TkR nb G m g1 c1 tv LB cL vs (beatP b) st0 w w' := by
  by_cases hy : b.now.why = 0
  · by_cases hcl : b.now.clock = 1000000000
    · exact tick_end w h (.inr hcl)
    · cases hcm : comesP b.now with
      | true => exact tick_come w h hv hs hy hcl hcm
      | false => exact tick_idle w h hv hs hy hcl hcm
  · exact tick_end w h (.inl hy)
end Go.Proofs.Ytjfggepgjpdebaa

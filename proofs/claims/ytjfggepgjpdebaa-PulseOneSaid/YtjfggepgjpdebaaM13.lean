import Derived.Deep.QuietTactic
import Derived.BigQuiet
import Derived.Test.YtjfggepgjpdebaaM10
import Derived.Test.YtjfggepgjpdebaaM3
set_option linter.unusedVariables false
set_option linter.unusedSimpArgs false
/- Pulse's gates in memory; contracts: adder, replaced. -/
namespace Go.Proofs.Ytjfggepgjpdebaa
open Go.RowKit Go.Q
variable {nb G m g1 c1 LB cL : Nat} {tv pv : Value} {vs : Nat → Value} {b : PuB} {st0 : List Int}
/-- the cells of the gates -/
abbrev gcells (m LB cL : Nat) (b : PuB) : Array Value := #[.pointer (some ⟨m, 0, none⟩), .slice (some ⟨LB, 0, none⟩) 8 cL, .int .i64 b.beat, .int .i64 b.carry, .int .i64 b.sum]
/-- the gates lie at G: their control at m, their lines at LB -/
structure Gat (W : World) (nb G m g1 c1 : Nat) (tv pv : Value) (LB cL : Nat) (vs : Nat → Value) (b : PuB) (st0 : List Int) : Prop where
  low : nb ≤ G ∧ nb ≤ LB
  blk : Blk W G (gcells m LB cL b) 111
  lb : ∃ cur : Array Value, Blk W LB cur 69 ∧ ∀ i, i < 8 → cur[i]? = some (vs i)
  row : ∀ i, i < 8 → W.ownsRow nb 4 1 (vs i) 384 (bv (b.lines[i]?.getD []))
  apart : ∀ i j q, i < 8 → j < 8 → i ≠ j → (vs i).ownBlock = some q → (vs j).ownBlock ≠ some q
  ctl : Ctl W nb m g1 c1 tv pv { b.now with store := st0 } (ordP b.now)
section
variable {W W' : World}
theorem Gat.c (h : Gat W nb G m g1 c1 tv pv LB cL vs b st0) (i : Nat) {v : Value} (hv : (gcells m LB cL b)[i]? = some v) : W.cell? ⟨G, i, none⟩ = some v := h.blk.c i hv
theorem Gat.f (h : Gat W nb G m g1 c1 tv pv LB cL vs b st0) (i : Nat) : W.frozen? ⟨G, i, none⟩ = false := h.blk.f i
theorem Gat.ext (h : Gat W nb G m g1 c1 tv pv LB cL vs b st0) (E : Ext W W') : Gat W' nb G m g1 c1 tv pv LB cL vs b st0 where
  low := h.low
  blk := h.blk.ex E
  lb := by obtain ⟨cur, hc, hv⟩ := h.lb; exact ⟨cur, hc.ex E, hv⟩
  row := fun i hi => own_later (h.row i hi) (fun k hk => E.block k (own_lt (h.row i hi) hk))
  apart := h.apart
  ctl := h.ctl.ext E
/-- one of the gates' own three numbers is written -/
theorem Gat.setg (h : Gat W nb G m g1 c1 tv pv LB cL vs b st0) (i : Nat) (v : Value) (b' : PuB) (hl : b'.lines = b.lines) (hn : b'.now = b.now) (he : gcells m LB cL b' = (gcells m LB cL b).setIfInBounds i v) : Gat (W.setCell ⟨G, i, none⟩ v) nb G m g1 c1 tv pv LB cL vs b' st0 where
  low := h.low
  blk := by rw [he]; exact h.blk.st i v
  lb := by
    obtain ⟨cur, hc, hv⟩ := h.lb
    refine ⟨cur, hc.ot (fun e => ?_), hv⟩
    rw [e] at hc
    have := Eq.trans (Eq.symm hc) h.blk
    simp at this
  row := fun i hi => by
    rw [hl]
    refine own_later (h.row i hi) (fun k hk => Below.heap_setCell _ _ _ _ (fun e => ?_))
    rcases (h.row i hi).2 with ⟨e1, _⟩ | ⟨g, cap, cur, e1, _, hg, _⟩
    · rw [e1] at hk; cases hk
    · rw [e1] at hk
      obtain rfl : g = k := by simpa [Value.ownBlock] using hk
      have e' : g = G := e
      subst e'
      have := Eq.trans (Eq.symm hg) h.blk
      simp at this
  apart := h.apart
  ctl := by
    rw [hn]
    exact h.ctl.keep (KeepP.set h.blk (by decide) (by decide) i v)
end
set_option maxRecDepth 100000 in
theorem adder_any (w : World) : Calls Try.prog 136 #[.pointer (some ⟨G, 0, none⟩)] w fun e w' => e = .returned (.func (.func 144) #[] #[.pointer (some ⟨w.heap.size, 0, none⟩)]) ∧ w.alloc (.cells #[.pointer (some ⟨G, 0, none⟩)] 107) = w' := by
  go_enter Try.func136, Try.ntmps136
  go_wp2_with fail
  go_ret
  exact ⟨rfl, rfl⟩
set_option maxRecDepth 100000 in
set_option maxHeartbeats 1000000 in
theorem adder1_any (Bg : Nat) (x y c : Int) (w : World) (hx : 0 ≤ x ∧ x ≤ 1) (hy : 0 ≤ y ∧ y ≤ 1) (hc : 0 ≤ c ∧ c ≤ 1) (hB : w.cell? ⟨Bg, 0, none⟩ = some (.pointer (some ⟨G, 0, none⟩))) (hG : w.cell? ⟨G, 3, none⟩ = some (.int .i64 c)) (hf : w.frozen? ⟨G, 3, none⟩ = false) (hne : Bg ≠ G) :
    Calls Try.prog 144 #[.int .i64 x, .int .i64 y, .pointer (some ⟨Bg, 0, none⟩)] w fun e w' => e = .returned (.int .i64 ((x + y + c) % 2)) ∧ w.setCell ⟨G, 3, none⟩ (.int .i64 ((x + y + c) / 2)) = w' := by
  obtain ⟨x0, x1⟩ := hx
  obtain ⟨y0, y1⟩ := hy
  obtain ⟨c0, c1⟩ := hc
  go_enter Try.func144, Try.ntmps144
  go_wp2_with fail
  go_ret
  exact ⟨rfl, rfl⟩
/-- a pulse has been replaced: the answer is r, the carry c -/
def RepRes (nb G m g1 c1 : Nat) (tv pv : Value) (LB cL : Nat) (vs : Nat → Value) (b : PuB) (st0 : List Int) (r c : Int) (w : World) (e : Ending) (w' : World) : Prop :=
  e = .returned (.int .i64 r) ∧ Gat w' nb G m g1 c1 tv pv LB cL vs { b with carry := c } st0 ∧ Below nb w w'
set_option maxRecDepth 100000 in
set_option maxHeartbeats 4000000 in
theorem replaced_any (x y : Int) (w : World) (h : Gat w nb G m g1 c1 tv pv LB cL vs b st0) (hs : ValidP { b.now with store := st0 }) (hr : replP b.now = true) (hx : 0 ≤ x ∧ x ≤ 1) (hy : 0 ≤ y ∧ y ≤ 1) (hc : 0 ≤ b.carry ∧ b.carry ≤ 1) (hbt : 0 ≤ b.beat ∧ b.beat ≤ 23) :
    Calls Try.prog 107 #[.pointer (some ⟨G, 0, none⟩), .int .i64 x, .int .i64 y] w (RepRes nb G m g1 c1 tv pv LB cL vs b st0 (replB b x y).1 (replB b x y).2 w) := by
  have g0 := h.c 0 (v := .pointer (some ⟨m, 0, none⟩)) rfl
  have g2 := h.c 2 (v := .int .i64 b.beat) rfl
  have g3 := h.c 3 (v := .int .i64 b.carry) rfl
  have f3 := h.f 3
  have q6 := h.ctl.c 6 (v := .int .i64 b.now.phase) rfl
  have q14 := h.ctl.c 14 (v := .int .i64 (ordP b.now).op) rfl
  have hG := h.blk.lt
  have hm := h.ctl.ltm
  have hGl := h.low.1
  have eA : Ext w (w.alloc (.cells #[.pointer (some ⟨G, 0, none⟩)] 107)) := (Ext.refl w).alloc _
  have H := Lib.hid h
  have hnb : nb ≤ w.heap.size := by omega
  by_cases h2 : b.now.phase = 2 ∧ (ordP b.now).op = 2
  · have e : replB b x y = ((x + y + b.carry) % 2, (x + y + b.carry) / 2) := by unfold replB; rw [if_pos h2]
    rw [e]
    rw [h2.1] at q6
    rw [h2.2] at q14
    have ha := fun W (k0 : W.cell? ⟨w.heap.size, 0, none⟩ = some (.pointer (some ⟨G, 0, none⟩))) (k3 : W.cell? ⟨G, 3, none⟩ = some (.int .i64 b.carry)) (kf : W.frozen? ⟨G, 3, none⟩ = false) => adder1_any (G := G) w.heap.size x y b.carry W hx hy hc k0 k3 kf (by omega)
    clear h h2 e hr hs g2
    go_enter Try.func107, Try.ntmps107
    go_wp2_with fail
    refine (adder_any _).mono ?_
    rintro e w1 ⟨rfl, rfl⟩
    go_wp2_with fail
    refine (ha _ (by simp) (by simp [World.cell?_alloc_lt, hG, g3]) (by simp [World.frozen?_alloc_past, hG, f3])).mono ?_
    rintro e w1 ⟨rfl, rfl⟩
    go_wp2_with fail
    go_ret
    exact ⟨rfl, (H.out.setg 3 (.int .i64 ((x + y + b.carry) / 2)) { b with carry := (x + y + b.carry) / 2 } rfl rfl rfl).ext ((Ext.refl _).alloc _), ((Below.refl nb w).setCell (p := ⟨G, 3, none⟩) hGl _).alloc (by rw [size_set']; exact hnb) _⟩
  by_cases h3 : b.now.phase = 2 ∧ (ordP b.now).op = 3
  · rw [h3.1] at q6
    rw [h3.2] at q14
    have hy' : 0 ≤ 1 - y ∧ 1 - y ≤ 1 := by omega
    have e : replB b x y = ((x + (1 - y) + (if b.beat = 0 then 1 else b.carry)) % 2, (x + (1 - y) + (if b.beat = 0 then 1 else b.carry)) / 2) := by unfold replB; rw [if_neg h2, if_pos h3]
    rw [e]
    by_cases hz : b.beat = 0
    · rw [if_pos hz]
      rw [hz] at g2
      have ha := fun W (k0 : W.cell? ⟨w.heap.size, 0, none⟩ = some (.pointer (some ⟨G, 0, none⟩))) (k3 : W.cell? ⟨G, 3, none⟩ = some (.int .i64 1)) (kf : W.frozen? ⟨G, 3, none⟩ = false) => adder1_any (G := G) w.heap.size x (1 - y) 1 W hx hy' (by decide) k0 k3 kf (by omega)
      have w1 := H.out.setg 3 (.int .i64 1) { b with carry := 1 } rfl rfl rfl
      have w3 := w1.c 3 (v := .int .i64 1) rfl
      have w3f := w1.f 3
      have W1 := Lib.hid w1
      clear h h2 h3 e hr hs hz hc hbt w1
      obtain ⟨y0, y1⟩ := hy
      obtain ⟨y2, y3⟩ := hy'
      go_enter Try.func107, Try.ntmps107
      go_wp2_with fail
      refine (adder_any _).mono ?_
      rintro e w1 ⟨rfl, rfl⟩
      go_wp2_with fail
      have G1 := W1.out.ext ((Ext.refl _).alloc (.cells #[.pointer (some ⟨G, 0, none⟩)] 107))
      refine (ha _ (by have := (Boxed.new (w.setCell ⟨G, 3, none⟩ (.int .i64 1)) 107 (.pointer (some ⟨G, 0, none⟩))).cell; rwa [size_set'] at this) (G1.c 3 rfl) (G1.f 3)).mono ?_
      rintro e w1 ⟨rfl, rfl⟩
      clear G1
      go_wp2_with fail
      go_ret
      exact ⟨rfl, (W1.out.setg 3 (.int .i64 ((x + (1 - y) + 1) / 2)) { b with carry := (x + (1 - y) + 1) / 2 } rfl rfl rfl).ext ((Ext.refl _).alloc _), (((Below.refl nb w).setCell (p := ⟨G, 3, none⟩) hGl _).setCell (p := ⟨G, 3, none⟩) hGl _).alloc (by rw [size_set', size_set']; exact hnb) _⟩
    · rw [if_neg hz]
      have bz : (b.beat == 0) = false := by simpa using hz
      have ha := fun W (k0 : W.cell? ⟨w.heap.size, 0, none⟩ = some (.pointer (some ⟨G, 0, none⟩))) (k3 : W.cell? ⟨G, 3, none⟩ = some (.int .i64 b.carry)) (kf : W.frozen? ⟨G, 3, none⟩ = false) => adder1_any (G := G) w.heap.size x (1 - y) b.carry W hx hy' hc k0 k3 kf (by omega)
      clear h h2 h3 e hr hs hz hc
      obtain ⟨y0, y1⟩ := hy
      obtain ⟨y2, y3⟩ := hy'
      go_enter Try.func107, Try.ntmps107
      go_wp2_with fail
      refine (adder_any _).mono ?_
      rintro e w1 ⟨rfl, rfl⟩
      go_wp2_with fail
      refine (ha _ (by simp) (by simp [World.cell?_alloc_lt, hG, g3]) (by simp [World.frozen?_alloc_past, hG, f3])).mono ?_
      rintro e w1 ⟨rfl, rfl⟩
      go_wp2_with fail
      go_ret
      exact ⟨rfl, (H.out.setg 3 (.int .i64 ((x + (1 - y) + b.carry) / 2)) { b with carry := (x + (1 - y) + b.carry) / 2 } rfl rfl rfl).ext ((Ext.refl _).alloc _), ((Below.refl nb w).setCell (p := ⟨G, 3, none⟩) hGl _).alloc (by rw [size_set']; exact hnb) _⟩
  · have e : replB b x y = (bitQ (resP b.now 0) b.beat.toNat, b.carry) := by unfold replB; rw [if_neg h2, if_neg h3]
    rw [e]
    have hph : b.now.phase = 4 ∨ b.now.phase = 2 ∧ (ordP b.now).op ≠ 4 := by
      unfold replP at hr
      simp only [Bool.or_eq_true, Bool.and_eq_true, decide_eq_true_eq] at hr
      exact hr
    have hrc : b.now.phase = 4 ∨ (ordP b.now).op = 6 → b.now.phase = 4 ∨ b.now.taken < b.now.tape.length := by
      obtain ⟨f1, f2, f3⟩ := fits_of hs
      intro hh
      rcases hph with h4 | ⟨h2, _⟩
      · exact .inl h4
      · rcases hh with h4 | h6
        · exact .inl h4
        · rcases f2 h2 with h7 | h7
          · exfalso
            have : (ordP { b.now with store := st0 }).op = (ordP b.now).op := rfl
            omega
          · exact .inr h7.2
    have hres := fun W (A : Ctl W nb m g1 c1 tv pv { b.now with store := st0 } (ordP b.now)) => result_any 0 W A hs (by decide) hrc
    have eres : resP { b.now with store := st0 } 0 = resP b.now 0 := rfl
    rw [eres] at hres
    have hrb := resP_bd b.now 0
    have hbq : bitQ (resP b.now 0) b.beat.toNat = resP b.now 0 / 2 ^ b.beat.toNat % 2 := rfl
    rw [hbq]
    have hA := (H.out.ext eA).ctl
    have HA := Lib.hid hA
    clear hbq eres hA
    generalize resP b.now 0 = R at *
    rcases hph with h4 | ⟨h2p, _⟩
    · rw [h4] at q6
      clear h h2 h3 e hr hs hc hrc h4
      go_enter Try.func107, Try.ntmps107
      go_wp2_with fail
      refine (adder_any _).mono ?_
      rintro e w1 ⟨rfl, rfl⟩
      go_wp2_with fail
      go_quiet ((go_at_call 96; exact Calls.quiet_of (hres _ (HA.out.drewN _))))
      go_wp2_with fail
      go_ret
      exact ⟨rfl, H.out.ext (below_drewN eA _), below_drewN ((Below.refl nb w).alloc hnb _) _⟩
    · rw [h2p] at q6
      have n2 : ((ordP b.now).op == 2) = false := by simp only [beq_eq_false_iff_ne]; exact fun c => h2 ⟨h2p, c⟩
      have n3 : ((ordP b.now).op == 3) = false := by simp only [beq_eq_false_iff_ne]; exact fun c => h3 ⟨h2p, c⟩
      clear h h2 h3 e hr hs hc hrc h2p
      generalize (ordP b.now).op = op at *
      go_enter Try.func107, Try.ntmps107
      go_wp2_with fail
      refine (adder_any _).mono ?_
      rintro e w1 ⟨rfl, rfl⟩
      go_wp2_with fail
      go_quiet ((go_at_call 96; exact Calls.quiet_of (hres _ (HA.out.drewN _))))
      go_wp2_with fail
      go_ret
      exact ⟨rfl, H.out.ext (below_drewN eA _), below_drewN ((Below.refl nb w).alloc hnb _) _⟩
end Go.Proofs.Ytjfggepgjpdebaa

import Derived.Outline
import Derived.Test.YtjfggepgjpdebaaML8c
import Derived.Test.YtjfggepgjpdebaaMX1
set_option linter.unusedVariables false
set_option linter.unusedSimpArgs false
/- Contract: PulseOrders returns true. -/
namespace Go.Proofs.Ytjfggepgjpdebaa
open Go.RowKit Go.Q
theorem orderT_any {Q : Pu} (v : Value) (W : World) (h : PuAt W v Q) (hv : ValidP Q) (hp : Q.phase = 0) (ht : timeP Q ≤ 1000000000) : Calls Try.prog 49 #[v] W (StRT (orderQ Q) W) := by
  obtain ⟨a1, a2, a3, c1, c2, c3, rfl, i1, i2, i3⟩ := h
  have := order_goodT a1 a2 a3 _ _ c1 c2 c3 Q W hv (validP_bd hv) rfl rfl i1 i2 i3 (checkP_valid hv) hp ht
  rw [hv.len]
  exact this.mono fun _ _ k => StRT.of k
theorem minorsT_any {s t : Pu} {n : Nat} {many : Int} (v : Value) (W : World) (h : PuAt W v s) (hv : ValidP s) (hm : inB many 0 20000 = true) (hn : many.toNat = n) (ht : minorsP n s = t) : Calls Try.prog 25 #[v, .int .i64 many] W (PuRT t W) := by
  have := minors_goodT v s many W h (by rw [checkP_valid hv]) hm
  rw [hn, ht] at this
  exact this.mono fun _ _ k => PuRT.of k
theorem orders_law (v : Value) (s : St) (x : Int) (w : World) (h : StAt w v s) (hb : StBd s) (hx : 0 ≤ x ∧ x ≤ 255) :
    Calls Try.prog 16 #[v, .int .u8 x] w fun e w' => e = .returned (.bool true) ∧ Ext w w' := by
  have h1 := fun W (E : Ext w W) => runE_any v s x W (h.ext E) hb
  have h2 := fun W (E : Ext w W) => start_any v s W (h.ext E) hb
  obtain ⟨a1, a2, a3, c1, c2, c3, rfl, _, _, _⟩ := id h
  obtain ⟨n, rfl⟩ := Int.eq_ofNat_of_zero_le hx.1
  rcases runE_ways s n (by omega) with ⟨er, her, e⟩ | ⟨hv, e⟩
  · rw [e] at h1
    exact orders_bad a1 a2 a3 _ c1 _ c2 _ c3 s _ er w hx (by simpa using her) (fun W E => (h1 W E).mono fun _ _ k => StZ.of k)
  rw [e] at h1
  have hvt := runQ_valid n hv
  have hst := hv.time
  have htt := hvt.time
  have h1' := fun W (E : Ext w W) => (h1 W E).mono fun _ _ k => StR.of k
  by_cases h4 : (runQ n s).why = 4
  · exact orders_early a1 a2 a3 _ c1 _ c2 _ c3 s (runQ n s) _ w hx hst htt (.inl (by simpa using h4)) h1'
  by_cases h9 : (runQ n s).time = 1000000000
  · exact orders_early a1 a2 a3 _ c1 _ c2 _ c3 s (runQ n s) _ w hx hst htt (.inr (.inl ⟨by simpa using h4, by simpa using h9⟩)) h1'
  by_cases hw : 19999 < (runQ n s).time - s.time
  · exact orders_early a1 a2 a3 _ c1 _ c2 _ c3 s (runQ n s) _ w hx hst htt (.inr (.inr ⟨by simpa using h4, by simpa using h9, hw⟩)) h1'
  have e2 : startE s = (startQ s, 0) := by
    have hq := check_of_valid hv
    unfold startE; rw [if_neg (by rw [hq]; decide)]
  rw [e2] at h2
  have hvp := startQ_valid hv
  have h2' := fun W (E : Ext w W) => (h2 W E).mono fun _ _ k => PuR.of k hvp
  have hbt : StBd { runQ n s with why := 0 } := ⟨by show (runQ n s).store.length ≤ _; rw [hvt.len]; decide, Nat.le_trans hvt.tlen (by decide), Nat.le_trans hvt.plen (by decide)⟩
  have hss := fun W va vb (A : StAt W va { runQ n s with why := 0 }) (B : StAt W vb { runQ n s with why := 0 }) => states_same va vb _ W A B hbt
  by_cases hy : s.why = 0
  · obtain ⟨q, hg, ha, hm⟩ := run_goes n (p := startQ s) ⟨rfl, rfl, rfl, rfl, rfl, rfl, rfl, rfl, rfl, hy⟩ hv hvp hy h4
    have hcl : q.clock = (runQ n s).time := ha.clock
    have hge : s.time ≤ (runQ n s).time := by have := hg.1; rw [hcl] at this; exact this
    have hq : minorsP ((runQ n s).time - s.time).toNat (startQ s) = q := by have := hg.2; rw [hcl] at this; exact this
    have hvq := hg.valid hvp
    have hpl := hvt.place
    have htm : timeP q = (runQ n s).time := by
      have e3 : q.at_ = (runQ n s).at_ := ha.at_
      show q.clock + (q.at_ - q.clock) % 16 = _
      rw [hcl, e3]; omega
    have hor : orderQ q = { runQ n s with why := 0 } := by
      unfold orderQ
      rw [htm, ha.store, ha.tape, ha.taken, ha.printed, ha.at_, ha.done, ha.why]
    have h3 := fun W v (A : PuAt W v (startQ s)) => minorsT_any (many := (runQ n s).time - s.time) v W A hvp (inB_mk (by omega) (by omega)) rfl hq
    have h5 := fun (t : Pu) (et : minorP q = t) W v (A : PuAt W v (startQ s)) => minorsT_any (n := ((runQ n s).time - s.time).toNat + 1) (t := t) (many := (runQ n s).time - s.time + 1) v W A hvp (inB_mk (by omega) (by omega)) (by omega) (by rw [minorsP_snoc', hq, et])
    have h4' := fun W v (A : PuAt W v q) => orderT_any v W A hvq ha.phase (by rw [htm]; omega)
    rw [hor] at h4'
    by_cases hy2 : (runQ n s).why = 0
    · exact orders_go a1 a2 a3 _ c1 _ c2 _ c3 s { runQ n s with why := 0 } (runQ n s).why 0 (startQ s) q (minorP q) _ w hx hst htt (by simpa using h4) (by simpa using h9) (by show (runQ n s).time - s.time ≤ 19999; omega) (by show 0 ≤ (runQ n s).time - s.time; omega) rfl (by simpa using hy2) h1' h2' h3 h4' (h5 _ rfl) hss
    · have hnx := hm hy2 h9
      exact orders_end a1 a2 a3 _ c1 _ c2 _ c3 s { runQ n s with why := 0 } (runQ n s).why 0 (startQ s) q _ w hx hst htt (by simpa using h4) (by simpa using h9) (by show (runQ n s).time - s.time ≤ 19999; omega) (by show 0 ≤ (runQ n s).time - s.time; omega) rfl (by simpa using hy2) h1' h2' h3 h4' (h5 _ hnx) hss
        (fun W va vb A B => pstates_same va vb _ W A B (by have := minorP_valid hvq; rw [hnx] at this; exact validP_bd this))
  · have er : runQ n s = s := runQ_ended hy n
    rw [er] at h1' hss h4 h9
    have hpl := hv.place
    have htm : timeP (startQ s) = s.time := by show s.time + (s.at_ - s.time) % 16 = s.time; omega
    have hor : orderQ (startQ s) = { { s with why := 0 } with why := s.why } := by unfold orderQ; rw [htm]; rfl
    have h3 := fun W v (A : PuAt W v (startQ s)) => minorsT_any (n := 0) (t := startQ s) (many := s.time - s.time) v W A hvp (inB_mk (by omega) (by omega)) (by omega) rfl
    have h5 := fun W v (A : PuAt W v (startQ s)) => minorsT_any (n := 1) (t := { startQ s with why := s.why }) (many := s.time - s.time + 1) v W A hvp (inB_mk (by omega) (by omega)) (by omega) (minorsP_stop (s := startQ s) hy 1)
    have h4' := fun W v (A : PuAt W v (startQ s)) => orderT_any v W A hvp rfl (by rw [htm]; omega)
    rw [hor] at h4'
    exact orders_end a1 a2 a3 _ c1 _ c2 _ c3 s { s with why := 0 } s.why s.why (startQ s) (startQ s) _ w hx hst hst (by simpa using h4) (by simpa using h9) (by show s.time - s.time ≤ 19999; omega) (by show 0 ≤ s.time - s.time; omega) rfl (by simpa using hy) h1' h2' h3 h4' h5 hss
      (fun W va vb A B => pstates_same va vb _ W A B (validP_bd hvp))
end Go.Proofs.Ytjfggepgjpdebaa

import Derived.Test.YtjfggepgjpdebaaM12
import Derived.Test.YtjfggepgjpdebaaM19
import Derived.Test.YtjfggepgjpdebaaM9
import Derived.Test.YtjfggepgjpdebaaM11
set_option linter.unusedVariables false
set_option linter.unusedSimpArgs false
/- What law05's Awake is told by its calls. -/
namespace Go.Proofs.Ytjfggepgjpdebaa
open Go.RowKit Go.Q
def sA : Pu := startQ st0
def sM : Pu := startQ pr0
theorem aw_q0 : (checkQ st0).2.2 = 0 := by decide +kernel
theorem aw_q1 : (checkQ pr0).2.2 = 0 := by decide +kernel
theorem aw_checkA : (checkP sA).2.2 = 0 := by decide +kernel
theorem aw_checkM : (checkP sM).2.2 = 0 := by decide +kernel
theorem validP_bd {s : Pu} (h : ValidP s) : PuBd s := ⟨by rw [h.len]; decide, Nat.le_trans h.tlen (by decide), Nat.le_trans h.plen (by decide)⟩
theorem val_A : ValidP sA := valid_check aw_checkA
theorem val_M : ValidP sM := valid_check aw_checkM
theorem bd_A : PuBd sA := validP_bd val_A
theorem bd_M : PuBd sM := validP_bd val_M
theorem minorsE_ok {s : Pu} (h : (checkP s).2.2 = 0) {n : Nat} (hn : n ≤ 20000) : minorsE s n = (minorsP n s, 0) := by
  unfold minorsE
  rw [if_neg (by rw [h]; decide), if_pos (inB_mk (by omega) (by omega)), Int.toNat_natCast]
theorem aw_tA : (minorsP 1 sA).store.length = 128 ∧ (minorsP 1 sA).clock = 1 ∧ (minorsP 1 sA).phase = 2 ∧ (minorsP 1 sA).order = 12583560 := by decide +kernel
theorem aw_tB : (minorsP 6 sA).store.length = 128 ∧ (minorsP 6 sA).clock = 6 ∧ (minorsP 6 sA).at_ = 8 ∧ (minorsP 6 sA).done = 1 ∧ (minorsP 6 sA).store[5]?.getD 0 = 3 := by decide +kernel
theorem aw_tM : (minorsP 19 sM).store.length = 128 ∧ (minorsP 19 sM).phase = 0 ∧ (minorsP 19 sM).store[2]?.getD 0 = 15728640 := by decide +kernel
theorem aw_ord : (orderE (minorsP 6 sA)).2 = 0 ∧ (orderE (minorsP 6 sA)).1.time = 8 := by decide +kernel
theorem aw_none : (orderE (minorsP 1 sA)).2 = 9 := by decide +kernel
theorem aw_until : untilE (minorsP 1 sA) = (5, 0) := by
  have h1 : (checkP (minorsP 1 sA)).2.2 = 0 := by rw [checkP_valid (minorsP_valid 1 val_A)]
  have h2 : (minorsP 1 sA).why = 0 := by decide +kernel
  have h3 : untilP (minorsP 1 sA) = 5 := by decide +kernel
  unfold untilE
  rw [if_neg (by rw [h1]; decide), if_neg (by rw [h2]; decide), h3]; rfl
/-- Minors, a minor cycle from the beginning of the example -/
def AwA (w : World) (e : Ending) (w' : World) : Prop :=
  ∃ b off c1 a2 n2 c2 a3 n3 c3 x2 x5 x8 x9 x10 x11 x12 x13, e = .returned (.tuple #[.agg #[.slice (some ⟨b, off, none⟩) 128 c1, .slice a2 n2 c2, .int .i64 x2, .slice a3 n3 c3, .int .i64 1, .int .i64 x5, .int .i64 2, .int .i64 12583560, .int .i64 x8, .int .i64 x9, .int .i64 x10, .int .i64 x11, .int .i64 x12, .int .i64 x13], .int .i64 0]) ∧ PuAt w' (.agg #[.slice (some ⟨b, off, none⟩) 128 c1, .slice a2 n2 c2, .int .i64 x2, .slice a3 n3 c3, .int .i64 1, .int .i64 x5, .int .i64 2, .int .i64 12583560, .int .i64 x8, .int .i64 x9, .int .i64 x10, .int .i64 x11, .int .i64 x12, .int .i64 x13]) (minorsP 1 sA) ∧ Ext w w'
/-- six of them -/
def AwB (w : World) (e : Ending) (w' : World) : Prop :=
  ∃ b off c1 a2 n2 c2 a3 n3 c3 x2 x6 x7 x8 x9 x10 x11 x13, e = .returned (.tuple #[.agg #[.slice (some ⟨b, off, none⟩) 128 c1, .slice a2 n2 c2, .int .i64 x2, .slice a3 n3 c3, .int .i64 6, .int .i64 8, .int .i64 x6, .int .i64 x7, .int .i64 x8, .int .i64 x9, .int .i64 x10, .int .i64 x11, .int .i64 1, .int .i64 x13], .int .i64 0]) ∧ PuAt w' (.agg #[.slice (some ⟨b, off, none⟩) 128 c1, .slice a2 n2 c2, .int .i64 x2, .slice a3 n3 c3, .int .i64 6, .int .i64 8, .int .i64 x6, .int .i64 x7, .int .i64 x8, .int .i64 x9, .int .i64 x10, .int .i64 x11, .int .i64 1, .int .i64 x13]) (minorsP 6 sA) ∧ b < w'.heap.size ∧ w'.cell? ⟨b, off + 5, none⟩ = some (.int .i64 3) ∧ Ext w w'
/-- nineteen, of the product -/
def AwM (w : World) (e : Ending) (w' : World) : Prop :=
  ∃ b off c1 a2 n2 c2 a3 n3 c3 x2 x4 x5 x7 x8 x9 x10 x11 x12 x13, e = .returned (.tuple #[.agg #[.slice (some ⟨b, off, none⟩) 128 c1, .slice a2 n2 c2, .int .i64 x2, .slice a3 n3 c3, .int .i64 x4, .int .i64 x5, .int .i64 0, .int .i64 x7, .int .i64 x8, .int .i64 x9, .int .i64 x10, .int .i64 x11, .int .i64 x12, .int .i64 x13], .int .i64 0]) ∧ PuAt w' (.agg #[.slice (some ⟨b, off, none⟩) 128 c1, .slice a2 n2 c2, .int .i64 x2, .slice a3 n3 c3, .int .i64 x4, .int .i64 x5, .int .i64 0, .int .i64 x7, .int .i64 x8, .int .i64 x9, .int .i64 x10, .int .i64 x11, .int .i64 x12, .int .i64 x13]) (minorsP 19 sM) ∧ b < w'.heap.size ∧ w'.cell? ⟨b, off + 2, none⟩ = some (.int .i64 15728640) ∧ Ext w w'
theorem awA_any (v : Value) (w : World) (h : PuAt w v sA) : Calls Try.prog 25 #[v, .int .i64 1] w (AwA w) := by
  obtain ⟨f_store, f_clock, f_phase, f_order⟩ := aw_tA
  have hm := minors_any v sA 1 w h bd_A
  have he : minorsE sA 1 = (minorsP 1 sA, 0) := minorsE_ok aw_checkA (n := 1) (by decide)
  rw [he] at hm
  clear he
  refine hm.mono ?_
  rintro e w' ⟨v', rfl, ⟨a1, a2, a3, c1, c2, c3, rfl, I1, I2, I3⟩, hE⟩
  dsimp only at I1 I2 I3 ⊢
  have hP : PuAt w' (psv a1 a2 a3 (minorsP 1 sA).store.length c1 (minorsP 1 sA).tape.length c2 (minorsP 1 sA).printed.length c3 (minorsP 1 sA)) (minorsP 1 sA) := ⟨a1, a2, a3, c1, c2, c3, rfl, I1, I2, I3⟩
  obtain ⟨t, ht⟩ : ∃ t, t = minorsP 1 sA := ⟨_, rfl⟩
  rw [← ht] at hP I1 I2 I3 f_store f_clock f_phase f_order ⊢
  rcases I1 with e | ⟨b, off, rfl, hb, hc⟩
  · rw [e] at f_store; cases f_store
  refine ⟨b, off, c1, a2, t.tape.length, c2, a3, t.printed.length, c3, t.taken, t.at_, t.operand, t.other, t.product, t.count, t.done, t.why, ?_, ?_, hE⟩
  · unfold psv; rw [f_store, f_clock, f_phase, f_order]
  · unfold psv at hP; rw [f_store, f_clock, f_phase, f_order] at hP; rw [← ht]; exact hP
theorem awB_any (v : Value) (w : World) (h : PuAt w v sA) : Calls Try.prog 25 #[v, .int .i64 6] w (AwB w) := by
  obtain ⟨f_store, f_clock, f_at_, f_done, f_cell⟩ := aw_tB
  have hm := minors_any v sA 6 w h bd_A
  have he : minorsE sA 6 = (minorsP 6 sA, 0) := minorsE_ok aw_checkA (n := 6) (by decide)
  rw [he] at hm
  clear he
  refine hm.mono ?_
  rintro e w' ⟨v', rfl, ⟨a1, a2, a3, c1, c2, c3, rfl, I1, I2, I3⟩, hE⟩
  dsimp only at I1 I2 I3 ⊢
  have hP : PuAt w' (psv a1 a2 a3 (minorsP 6 sA).store.length c1 (minorsP 6 sA).tape.length c2 (minorsP 6 sA).printed.length c3 (minorsP 6 sA)) (minorsP 6 sA) := ⟨a1, a2, a3, c1, c2, c3, rfl, I1, I2, I3⟩
  obtain ⟨t, ht⟩ : ∃ t, t = minorsP 6 sA := ⟨_, rfl⟩
  rw [← ht] at hP I1 I2 I3 f_store f_clock f_at_ f_done f_cell ⊢
  rcases I1 with e | ⟨b, off, rfl, hb, hc⟩
  · rw [e] at f_store; cases f_store
  refine ⟨b, off, c1, a2, t.tape.length, c2, a3, t.printed.length, c3, t.taken, t.phase, t.order, t.operand, t.other, t.product, t.count, t.why, ?_, ?_, hb, ?_, hE⟩
  · unfold psv; rw [f_store, f_clock, f_at_, f_done]
  · unfold psv at hP; rw [f_store, f_clock, f_at_, f_done] at hP; rw [← ht]; exact hP
  · have := hc 5 (by rw [f_store]; decide); rw [f_cell] at this; exact this
theorem awM_any (v : Value) (w : World) (h : PuAt w v sM) : Calls Try.prog 25 #[v, .int .i64 19] w (AwM w) := by
  obtain ⟨f_store, f_phase, f_cell⟩ := aw_tM
  have hm := minors_any v sM 19 w h bd_M
  have he : minorsE sM 19 = (minorsP 19 sM, 0) := minorsE_ok aw_checkM (n := 19) (by decide)
  rw [he] at hm
  clear he
  refine hm.mono ?_
  rintro e w' ⟨v', rfl, ⟨a1, a2, a3, c1, c2, c3, rfl, I1, I2, I3⟩, hE⟩
  dsimp only at I1 I2 I3 ⊢
  have hP : PuAt w' (psv a1 a2 a3 (minorsP 19 sM).store.length c1 (minorsP 19 sM).tape.length c2 (minorsP 19 sM).printed.length c3 (minorsP 19 sM)) (minorsP 19 sM) := ⟨a1, a2, a3, c1, c2, c3, rfl, I1, I2, I3⟩
  obtain ⟨t, ht⟩ : ∃ t, t = minorsP 19 sM := ⟨_, rfl⟩
  rw [← ht] at hP I1 I2 I3 f_store f_phase f_cell ⊢
  rcases I1 with e | ⟨b, off, rfl, hb, hc⟩
  · rw [e] at f_store; cases f_store
  refine ⟨b, off, c1, a2, t.tape.length, c2, a3, t.printed.length, c3, t.taken, t.clock, t.at_, t.order, t.operand, t.other, t.product, t.count, t.done, t.why, ?_, ?_, hb, ?_, hE⟩
  · unfold psv; rw [f_store, f_phase]
  · unfold psv at hP; rw [f_store, f_phase] at hP; rw [← ht]; exact hP
  · have := hc 2 (by rw [f_store]; decide); rw [f_cell] at this; exact this
/-- Order of the state between two orders -/
def AwO (w : World) (e : Ending) (w' : World) : Prop :=
  ∃ a1 a2 a3 n1 c1 n2 c2 n3 c3 tk at_ dn wy, e = .returned (.tuple #[.agg #[.slice a1 n1 c1, .slice a2 n2 c2, .int .i64 tk, .slice a3 n3 c3, .int .i64 8, .int .i64 at_, .int .i64 dn, .int .i64 wy], .int .i64 0]) ∧ Ext w w'
theorem awO_any (v : Value) (w : World) (h : PuAt w v (minorsP 6 sA)) : Calls Try.prog 49 #[v] w (AwO w) := by
  obtain ⟨f1, f2⟩ := aw_ord
  refine (porder_any v (minorsP 6 sA) w h (validP_bd (minorsP_valid 6 val_A))).mono ?_
  rintro e w' ⟨v', rfl, ⟨a1, a2, a3, c1, c2, c3, rfl, _, _, _⟩, hE⟩
  generalize orderE (minorsP 6 sA) = p at *
  obtain ⟨t, er⟩ := p
  dsimp only at f1 f2 ⊢
  subst f1
  exact ⟨a1, a2, a3, _, c1, _, c2, _, c3, t.taken, t.at_, t.done, t.why, by rw [f2], hE⟩
/-- Order of a state within an order -/
def AwN (w : World) (e : Ending) (w' : World) : Prop :=
  ∃ a1 a2 a3 n1 c1 n2 c2 n3 c3 tk tm at_ dn wy, e = .returned (.tuple #[.agg #[.slice a1 n1 c1, .slice a2 n2 c2, .int .i64 tk, .slice a3 n3 c3, .int .i64 tm, .int .i64 at_, .int .i64 dn, .int .i64 wy], .int .i64 9]) ∧ Ext w w'
theorem awN_any (v : Value) (w : World) (h : PuAt w v (minorsP 1 sA)) : Calls Try.prog 49 #[v] w (AwN w) := by
  have f1 := aw_none
  refine (porder_any v (minorsP 1 sA) w h (validP_bd (minorsP_valid 1 val_A))).mono ?_
  rintro e w' ⟨v', rfl, ⟨a1, a2, a3, c1, c2, c3, rfl, _, _, _⟩, hE⟩
  generalize orderE (minorsP 1 sA) = p at *
  obtain ⟨t, er⟩ := p
  dsimp only at f1 ⊢
  subst f1
  exact ⟨a1, a2, a3, _, c1, _, c2, _, c3, t.taken, t.time, t.at_, t.done, t.why, rfl, hE⟩
theorem awU_any (v : Value) (w : World) (h : PuAt w v (minorsP 1 sA)) : Calls Try.prog 28 #[v] w fun e w' => e = .returned (.tuple #[.int .i64 5, .int .i64 0]) ∧ Ext w w' := by
  have hu := until_any v (minorsP 1 sA) w h (validP_bd (minorsP_valid 1 val_A))
  rw [aw_until] at hu
  exact hu
/-- pulses that are returned, with an error 0 -/
def AwP (b : PuB) (w : World) (e : Ending) (w' : World) : Prop :=
  ∃ aL nL cL a1 n1 c1 a2 n2 c2 x3 a3 n3 c3 x5 x6 x7 x8 x9 x10 x11 x12 x13 x14 x15 x16 x17, e = .returned (.tuple #[.agg #[.slice aL nL cL, .slice a1 n1 c1, .slice a2 n2 c2, .int .i64 x3, .slice a3 n3 c3, .int .i64 x5, .int .i64 x6, .int .i64 x7, .int .i64 x8, .int .i64 x9, .int .i64 x10, .int .i64 x11, .int .i64 x12, .int .i64 x13, .int .i64 x14, .int .i64 x15, .int .i64 x16, .int .i64 x17], .int .i64 0]) ∧ PbAt w' (.agg #[.slice aL nL cL, .slice a1 n1 c1, .slice a2 n2 c2, .int .i64 x3, .slice a3 n3 c3, .int .i64 x5, .int .i64 x6, .int .i64 x7, .int .i64 x8, .int .i64 x9, .int .i64 x10, .int .i64 x11, .int .i64 x12, .int .i64 x13, .int .i64 x14, .int .i64 x15, .int .i64 x16, .int .i64 x17]) b ∧ Ext w w'
theorem AwP.of {b : PuB} {w w' : World} {e : Ending} (h : PbRes (b, 0) w e w') : AwP b w e w' := by
  obtain ⟨v, rfl, ⟨aL, a1, a2, a3, cL, c1, c2, c3, rfl, i⟩, hE⟩ := h
  exact ⟨aL, _, cL, a1, _, c1, a2, _, c2, b.now.taken, a3, _, c3, b.now.clock, b.now.at_, b.now.phase, b.now.order, b.now.operand, b.now.other, b.now.product, b.now.count, b.now.done, b.now.why, b.beat, b.carry, b.sum, rfl, ⟨aL, a1, a2, a3, cL, c1, c2, c3, rfl, i⟩, hE⟩
theorem awBeats_any (v : Value) (w : World) (h : PbAt w v (bitsP sA)) : Calls Try.prog 36 #[v, .int .i64 24] w (AwP (bitsP (minorsP 1 sA)) w) := by
  have hv := bits_valid val_A
  have hb := beats_ok v (bitsP sA) 24 w h hv
  have e : beatsE (bitsP sA) 24 = (bitsP (minorsP 1 sA), 0) := by
    unfold beatsE
    rw [stateE_valid hv, if_neg (by decide), if_pos (by decide)]
    exact congrArg (fun x => (x, (0 : Int))) (beats_minors 1 val_A)
  rw [e] at hb
  exact hb.mono fun _ _ h => AwP.of h
/-- words that are returned, with an error 0 -/
def AwW (s : Pu) (w : World) (e : Ending) (w' : World) : Prop :=
  ∃ a1 n1 c1 a2 n2 c2 x2 a3 n3 c3 x4 x5 x6 x7 x8 x9 x10 x11 x12 x13, e = .returned (.tuple #[.agg #[.slice a1 n1 c1, .slice a2 n2 c2, .int .i64 x2, .slice a3 n3 c3, .int .i64 x4, .int .i64 x5, .int .i64 x6, .int .i64 x7, .int .i64 x8, .int .i64 x9, .int .i64 x10, .int .i64 x11, .int .i64 x12, .int .i64 x13], .int .i64 0]) ∧
    PuAt w' (.agg #[.slice a1 n1 c1, .slice a2 n2 c2, .int .i64 x2, .slice a3 n3 c3, .int .i64 x4, .int .i64 x5, .int .i64 x6, .int .i64 x7, .int .i64 x8, .int .i64 x9, .int .i64 x10, .int .i64 x11, .int .i64 x12, .int .i64 x13]) s ∧ Ext w w'
theorem AwW.of {s : Pu} {w w' : World} {e : Ending} (h : PuRes (s, 0) w e w') : AwW s w e w' := by
  obtain ⟨v, rfl, ⟨a1, a2, a3, c1, c2, c3, rfl, i⟩, hE⟩ := h
  exact ⟨a1, _, c1, a2, _, c2, s.taken, a3, _, c3, s.clock, s.at_, s.phase, s.order, s.operand, s.other, s.product, s.count, s.done, s.why, rfl, ⟨a1, a2, a3, c1, c2, c3, rfl, i⟩, hE⟩
theorem awWords_any (v : Value) (w : World) (h : PbAt w v (bitsP (minorsP 1 sA))) : Calls Try.prog 34 #[v] w (AwW (minorsP 1 sA) w) := by
  have ht := minorsP_valid 1 val_A
  have hv := bits_valid ht
  have hb := words_ok v (bitsP (minorsP 1 sA)) w h hv
  rw [words_bits (by rw [checkP_valid ht])] at hb
  exact hb.mono fun _ _ h => AwW.of h
end Go.Proofs.Ytjfggepgjpdebaa
/- A whole state of pulses is stored over one whose numbers are all 0. -/
namespace Go.Proofs.Ytjfggepgjpdebaa
open Go.RowKit Go.Q
section
variable {aL a1 a2 a3 : Option Addr} {cL c1 c2 c3 : Nat}
/-- the pulses of the beginning of the example: all numbers are 0 -/
def AwZ (w : World) (e : Ending) (w' : World) : Prop :=
  ∃ aL cL a1 c1 a2 c2 a3 c3, e = .returned (.tuple #[.agg #[.slice aL 8 cL, .slice a1 0 c1, .slice a2 3 c2, .int .i64 0, .slice a3 0 c3, .int .i64 0, .int .i64 0, .int .i64 0, .int .i64 0, .int .i64 0, .int .i64 0, .int .i64 0, .int .i64 0, .int .i64 0, .int .i64 0, .int .i64 0, .int .i64 0, .int .i64 0], .int .i64 0]) ∧ PbAt w' (.agg #[.slice aL 8 cL, .slice a1 0 c1, .slice a2 3 c2, .int .i64 0, .slice a3 0 c3, .int .i64 0, .int .i64 0, .int .i64 0, .int .i64 0, .int .i64 0, .int .i64 0, .int .i64 0, .int .i64 0, .int .i64 0, .int .i64 0, .int .i64 0, .int .i64 0, .int .i64 0]) (bitsP sA) ∧ Ext w w'
theorem aw_zero : (bitsP sA).lines.length = 8 ∧ (bitsP sA).now.store.length = 0 ∧ (bitsP sA).now.tape.length = 3 ∧ (bitsP sA).now.printed.length = 0 ∧ (bitsP sA).now.taken = 0 ∧ (bitsP sA).now.clock = 0 ∧ (bitsP sA).now.at_ = 0 ∧ (bitsP sA).now.phase = 0 ∧ (bitsP sA).now.order = 0 ∧ (bitsP sA).now.operand = 0 ∧ (bitsP sA).now.other = 0 ∧ (bitsP sA).now.product = 0 ∧ (bitsP sA).now.count = 0 ∧ (bitsP sA).now.done = 0 ∧ (bitsP sA).now.why = 0 ∧ (bitsP sA).beat = 0 ∧ (bitsP sA).carry = 0 ∧ (bitsP sA).sum = 0 := by decide +kernel
theorem awZ_any (v : Value) (w : World) (h : PuAt w v sA) : Calls Try.prog 31 #[v] w (AwZ w) := by
  have hb := pbits_any v sA w h bd_A
  have e : bitsE sA = (bitsP sA, 0) := by unfold bitsE; rw [if_neg (by rw [aw_checkA]; decide)]
  rw [e] at hb
  obtain ⟨f0, f1, f2, f3, f4, f5, f6, f7, f8, f9, f10, f11, f12, f13, f14, f15, f16, f17⟩ := aw_zero
  refine hb.mono ?_
  rintro e w' ⟨v', rfl, ⟨aL, a1, a2, a3, cL, c1, c2, c3, rfl, i⟩, hE⟩
  dsimp only at i ⊢
  have hP : PbAt w' (pbv aL a1 a2 a3 (bitsP sA).lines.length cL (bitsP sA).now.store.length c1 (bitsP sA).now.tape.length c2 (bitsP sA).now.printed.length c3 (bitsP sA)) (bitsP sA) := ⟨aL, a1, a2, a3, cL, c1, c2, c3, rfl, i⟩
  clear i
  obtain ⟨b, hbe⟩ : ∃ b, b = bitsP sA := ⟨_, rfl⟩
  rw [← hbe] at hP f0 f1 f2 f3 f4 f5 f6 f7 f8 f9 f10 f11 f12 f13 f14 f15 f16 f17 ⊢
  unfold pbv at hP ⊢
  rw [f0, f1, f2, f3, f4, f5, f6, f7, f8, f9, f10, f11, f12, f13, f14, f15, f16, f17] at hP ⊢
  exact ⟨aL, cL, a1, c1, a2, c2, a3, c3, rfl, by rw [← hbe]; exact hP, hE⟩
theorem zeros18 : ∀ (i : Nat) (x : Int), (#[.slice aL 8 cL, .slice a1 0 c1, .slice a2 3 c2, .int .i64 0, .slice a3 0 c3, .int .i64 0, .int .i64 0, .int .i64 0, .int .i64 0, .int .i64 0, .int .i64 0, .int .i64 0, .int .i64 0, .int .i64 0, .int .i64 0, .int .i64 0, .int .i64 0, .int .i64 0] : Array Value)[i]? = some (Value.int .i64 x) → x = 0 := by
  intro i x h
  have hi : i < 18 := (Array.getElem?_eq_some_iff.1 h).1
  obtain rfl | rfl | rfl | rfl | rfl | rfl | rfl | rfl | rfl | rfl | rfl | rfl | rfl | rfl | rfl | rfl | rfl | rfl : i = 0 ∨ i = 1 ∨ i = 2 ∨ i = 3 ∨ i = 4 ∨ i = 5 ∨ i = 6 ∨ i = 7 ∨ i = 8 ∨ i = 9 ∨ i = 10 ∨ i = 11 ∨ i = 12 ∨ i = 13 ∨ i = 14 ∨ i = 15 ∨ i = 16 ∨ i = 17 := by omega
  all_goals simp at h
  all_goals exact h.symm
theorem noBool18 : ∀ (i : Nat) (x : Bool), (#[.slice aL 8 cL, .slice a1 0 c1, .slice a2 3 c2, .int .i64 0, .slice a3 0 c3, .int .i64 0, .int .i64 0, .int .i64 0, .int .i64 0, .int .i64 0, .int .i64 0, .int .i64 0, .int .i64 0, .int .i64 0, .int .i64 0, .int .i64 0, .int .i64 0, .int .i64 0] : Array Value)[i]? = some (Value.bool x) → False := by
  intro i x h
  have hi : i < 18 := (Array.getElem?_eq_some_iff.1 h).1
  obtain rfl | rfl | rfl | rfl | rfl | rfl | rfl | rfl | rfl | rfl | rfl | rfl | rfl | rfl | rfl | rfl | rfl | rfl : i = 0 ∨ i = 1 ∨ i = 2 ∨ i = 3 ∨ i = 4 ∨ i = 5 ∨ i = 6 ∨ i = 7 ∨ i = 8 ∨ i = 9 ∨ i = 10 ∨ i = 11 ∨ i = 12 ∨ i = 13 ∨ i = 14 ∨ i = 15 ∨ i = 16 ∨ i = 17 := by omega
  all_goals simp at h
theorem noLines18 : ∀ (o : Nat), (∀ i, i < 8 → ∃ a n k, (#[.slice aL 8 cL, .slice a1 0 c1, .slice a2 3 c2, .int .i64 0, .slice a3 0 c3, .int .i64 0, .int .i64 0, .int .i64 0, .int .i64 0, .int .i64 0, .int .i64 0, .int .i64 0, .int .i64 0, .int .i64 0, .int .i64 0, .int .i64 0, .int .i64 0, .int .i64 0] : Array Value)[o + i]? = some (Value.slice a n k)) → False := by
  intro o h
  have key : ∀ j, j < 18 → (j = 3 ∨ 5 ≤ j) → ∀ a n k, (#[.slice aL 8 cL, .slice a1 0 c1, .slice a2 3 c2, .int .i64 0, .slice a3 0 c3, .int .i64 0, .int .i64 0, .int .i64 0, .int .i64 0, .int .i64 0, .int .i64 0, .int .i64 0, .int .i64 0, .int .i64 0, .int .i64 0, .int .i64 0, .int .i64 0, .int .i64 0] : Array Value)[j]? ≠ some (Value.slice a n k) := by
    intro j hj hc a n k e
    obtain rfl | rfl | rfl | rfl | rfl | rfl | rfl | rfl | rfl | rfl | rfl | rfl | rfl | rfl : j = 3 ∨ j = 5 ∨ j = 6 ∨ j = 7 ∨ j = 8 ∨ j = 9 ∨ j = 10 ∨ j = 11 ∨ j = 12 ∨ j = 13 ∨ j = 14 ∨ j = 15 ∨ j = 16 ∨ j = 17 := by omega
    all_goals simp at e
  by_cases h3 : o ≤ 3
  · obtain ⟨a, n, k, e⟩ := h (3 - o) (by omega)
    rw [show o + (3 - o) = 3 by omega] at e
    exact key 3 (by omega) (.inl rfl) a n k e
  · obtain ⟨a, n, k, e⟩ := h 1 (by omega)
    have hi : o + 1 < 18 := (Array.getElem?_eq_some_iff.1 e).1
    exact key (o + 1) hi (.inr (by omega)) a n k e
theorem pb_keep {w W' : World} {B : Nat} {v : Value} {b : PuB} (hB : Blk w B #[.slice aL 8 cL, .slice a1 0 c1, .slice a2 3 c2, .int .i64 0, .slice a3 0 c3, .int .i64 0, .int .i64 0, .int .i64 0, .int .i64 0, .int .i64 0, .int .i64 0, .int .i64 0, .int .i64 0, .int .i64 0, .int .i64 0, .int .i64 0, .int .i64 0, .int .i64 0] 50) (h : PbAt w v b) (hl : b.lines.length = 8) (h384 : ∀ l ∈ b.lines, l.length = 384)
    (h1 : b.now.store = []) (h2 : b.now.tape = [] ∨ ∃ i, i < b.now.tape.length ∧ b.now.tape[i]?.getD 0 ≠ 0) (h3 : b.now.printed = [] ∨ ∃ i, i < b.now.printed.length ∧ b.now.printed[i]?.getD 0 ≠ 0)
    (hs : w.heap.size ≤ W'.heap.size) (hk : ∀ k, k < w.heap.size → k ≠ B → W'.heap[k]? = w.heap[k]?) : PbAt W' v b := by
  obtain ⟨zL, z1, z2, z3, kL, k1, k2, k3, hv, iL, i1, i2, i3⟩ := h
  have keep : ∀ {a : Option Addr} {xs : List Int}, IntsAt w a xs → (xs = [] ∨ ∃ i, i < xs.length ∧ xs[i]?.getD 0 ≠ 0) → IntsAt W' a xs := by
    intro a xs hI hx
    rcases hI with hI | ⟨b1, off, ha, hb, hc⟩
    · exact .inl hI
    rcases hx with hx | ⟨i, hi, hne⟩
    · exact .inl hx
    have hbB : b1 ≠ B := by
      rintro rfl
      have e := hc i hi
      have h2 : w.heap[b1]? = some (.cells _ _ (0, 0)) := hB
      simp only [World.cell?, h2] at e
      exact hne (zeros18 _ _ (by simpa using e))
    exact .inr ⟨b1, off, ha, Nat.lt_of_lt_of_le hb hs, fun j hj => (World.cell?_of_block (w := w) (hk b1 hb hbB)).trans (hc j hj)⟩
  refine ⟨zL, z1, z2, z3, kL, k1, k2, k3, hv, ?_, .inl h1, keep i2 h2, keep i3 h3⟩
  rcases iL with iL | ⟨b1, off, ha, hb, hc⟩
  · rw [iL] at hl; simp at hl
  have hbB : b1 ≠ B := by
    rintro rfl
    have h2 : w.heap[b1]? = some (.cells _ _ (0, 0)) := hB
    refine noLines18 off (aL := aL) (a1 := a1) (a2 := a2) (a3 := a3) (cL := cL) (c1 := c1) (c2 := c2) (c3 := c3) fun i hi => ?_
    obtain ⟨ai, ci, e, _⟩ := hc i (by rw [hl]; exact hi)
    simp only [World.cell?, h2] at e
    exact ⟨ai, _, ci, by simpa using e⟩
  refine .inr ⟨b1, off, ha, Nat.lt_of_lt_of_le hb hs, fun i hi => ?_⟩
  obtain ⟨ai, ci, e, hci, hbl⟩ := hc i hi
  refine ⟨ai, ci, (World.cell?_of_block (w := w) (hk b1 hb hbB)).trans e, hci, ?_⟩
  have hlen : (b.lines[i]?.getD []).length = 384 := by
    rw [List.getElem?_eq_getElem hi]
    exact h384 _ (List.getElem_mem _)
  rcases hbl with hbl | ⟨b2, off2, ha2, hb2, hc2⟩
  · exact .inl hbl
  have hbB2 : b2 ≠ B := by
    rintro rfl
    have h2 : w.heap[b2]? = some (.cells _ _ (0, 0)) := hB
    have e2 := hc2 0 (by omega)
    simp only [World.cell?, h2] at e2
    exact noBool18 _ _ (by simpa using e2)
  exact .inr ⟨b2, off2, ha2, Nat.lt_of_lt_of_le hb2 hs, fun j hj => (World.cell?_of_block (w := w) (hk b2 hb2 hbB2)).trans (hc2 j hj)⟩
end
end Go.Proofs.Ytjfggepgjpdebaa
/- Contract: the reference of layer 5: States, of two values that read as one state. -/
namespace Go.Proofs.Ytjfggepgjpdebaa
open Go.RowKit Go.Q
set_option maxRecDepth 100000 in
set_option maxHeartbeats 8000000 in
theorem pstates_same (va vb : Value) (s : Pu) (w : World) (ha : PuAt w va s) (hb : PuAt w vb s) (hB : PuBd s) :
    Calls Try.prog 27 #[va, vb] w fun e w' => e = .returned (.bool true) ∧ Ext w w' := by
  obtain ⟨a1, a2, a3, c1, c2, c3, rfl, i1, i2, i3⟩ := ha
  obtain ⟨b1, b2, b3, d1, d2, d3, rfl, j1, j2, j3⟩ := hb
  have h1 := fun W (E : Ext w W) => ints_same a1 b1 s.store.length c1 d1 s.store W rfl hB.1 (i1.ext E) (j1.ext E)
  have h2 := fun W (E : Ext w W) => ints_same a2 b2 s.tape.length c2 d2 s.tape W rfl hB.2.1 (i2.ext E) (j2.ext E)
  have h3 := fun W (E : Ext w W) => ints_same a3 b3 s.printed.length c3 d3 s.printed W rfl hB.2.2 (i3.ext E) (j3.ext E)
  generalize hn1 : s.store.length = n1 at *
  generalize hn2 : s.tape.length = n2 at *
  generalize hn3 : s.printed.length = n3 at *
  clear hn1 hn2 hn3 i1 i2 i3 j1 j2 j3 hB
  go_enter Try.func27, Try.ntmps27
  go_wp2_with fail
  refine (h1 _ (by repeat (first | with_reducible exact Ext.refl _ | with_reducible refine Ext.alloc ?_ _ | with_reducible refine Below.drew ?_))).mono ?_
  rintro e w1 ⟨rfl, E1⟩
  have P1 := Blk.of E1.old
  have R1 := Blk.of E1
  rw [World.size_alloc] at R1
  have F1 : Ext w w1 := E1.old.old
  have u0 := Blk.c P1 0 (v := .slice a1 n1 c1) rfl
  have u1 := Blk.c P1 1 (v := .slice a2 n2 c2) rfl
  have u2 := Blk.c P1 2 (v := .int .i64 s.taken) rfl
  have u3 := Blk.c P1 3 (v := .slice a3 n3 c3) rfl
  have u4 := Blk.c P1 4 (v := .int .i64 s.clock) rfl
  have u5 := Blk.c P1 5 (v := .int .i64 s.at_) rfl
  have u6 := Blk.c P1 6 (v := .int .i64 s.phase) rfl
  have u7 := Blk.c P1 7 (v := .int .i64 s.order) rfl
  have u8 := Blk.c P1 8 (v := .int .i64 s.operand) rfl
  have u9 := Blk.c P1 9 (v := .int .i64 s.other) rfl
  have u10 := Blk.c P1 10 (v := .int .i64 s.product) rfl
  have u11 := Blk.c P1 11 (v := .int .i64 s.count) rfl
  have u12 := Blk.c P1 12 (v := .int .i64 s.done) rfl
  have u13 := Blk.c P1 13 (v := .int .i64 s.why) rfl
  have v0 := Blk.c R1 0 (v := .slice b1 n1 d1) rfl
  have v1 := Blk.c R1 1 (v := .slice b2 n2 d2) rfl
  have v2 := Blk.c R1 2 (v := .int .i64 s.taken) rfl
  have v3 := Blk.c R1 3 (v := .slice b3 n3 d3) rfl
  have v4 := Blk.c R1 4 (v := .int .i64 s.clock) rfl
  have v5 := Blk.c R1 5 (v := .int .i64 s.at_) rfl
  have v6 := Blk.c R1 6 (v := .int .i64 s.phase) rfl
  have v7 := Blk.c R1 7 (v := .int .i64 s.order) rfl
  have v8 := Blk.c R1 8 (v := .int .i64 s.operand) rfl
  have v9 := Blk.c R1 9 (v := .int .i64 s.other) rfl
  have v10 := Blk.c R1 10 (v := .int .i64 s.product) rfl
  have v11 := Blk.c R1 11 (v := .int .i64 s.count) rfl
  have v12 := Blk.c R1 12 (v := .int .i64 s.done) rfl
  have v13 := Blk.c R1 13 (v := .int .i64 s.why) rfl
  go_wp2_with fail
  refine (h2 _ F1).mono ?_
  rintro e w2 ⟨rfl, E2⟩
  have P2 := P1.ex E2
  have R2 := R1.ex E2
  have F2 := F1.comp E2
  clear u0 u1 u2 u3 u4 u5 u6 u7 u8 u9 u10 u11 u12 u13 v0 v1 v2 v3 v4 v5 v6 v7 v8 v9 v10 v11 v12 v13
  have u0 := Blk.c P2 0 (v := .slice a1 n1 c1) rfl
  have u1 := Blk.c P2 1 (v := .slice a2 n2 c2) rfl
  have u2 := Blk.c P2 2 (v := .int .i64 s.taken) rfl
  have u3 := Blk.c P2 3 (v := .slice a3 n3 c3) rfl
  have u4 := Blk.c P2 4 (v := .int .i64 s.clock) rfl
  have u5 := Blk.c P2 5 (v := .int .i64 s.at_) rfl
  have u6 := Blk.c P2 6 (v := .int .i64 s.phase) rfl
  have u7 := Blk.c P2 7 (v := .int .i64 s.order) rfl
  have u8 := Blk.c P2 8 (v := .int .i64 s.operand) rfl
  have u9 := Blk.c P2 9 (v := .int .i64 s.other) rfl
  have u10 := Blk.c P2 10 (v := .int .i64 s.product) rfl
  have u11 := Blk.c P2 11 (v := .int .i64 s.count) rfl
  have u12 := Blk.c P2 12 (v := .int .i64 s.done) rfl
  have u13 := Blk.c P2 13 (v := .int .i64 s.why) rfl
  have v0 := Blk.c R2 0 (v := .slice b1 n1 d1) rfl
  have v1 := Blk.c R2 1 (v := .slice b2 n2 d2) rfl
  have v2 := Blk.c R2 2 (v := .int .i64 s.taken) rfl
  have v3 := Blk.c R2 3 (v := .slice b3 n3 d3) rfl
  have v4 := Blk.c R2 4 (v := .int .i64 s.clock) rfl
  have v5 := Blk.c R2 5 (v := .int .i64 s.at_) rfl
  have v6 := Blk.c R2 6 (v := .int .i64 s.phase) rfl
  have v7 := Blk.c R2 7 (v := .int .i64 s.order) rfl
  have v8 := Blk.c R2 8 (v := .int .i64 s.operand) rfl
  have v9 := Blk.c R2 9 (v := .int .i64 s.other) rfl
  have v10 := Blk.c R2 10 (v := .int .i64 s.product) rfl
  have v11 := Blk.c R2 11 (v := .int .i64 s.count) rfl
  have v12 := Blk.c R2 12 (v := .int .i64 s.done) rfl
  have v13 := Blk.c R2 13 (v := .int .i64 s.why) rfl
  go_wp2_with fail
  refine (h3 _ F2).mono ?_
  rintro e w3 ⟨rfl, E3⟩
  have P3 := P2.ex E3
  have R3 := R2.ex E3
  have F3 := F2.comp E3
  clear u0 u1 u2 u3 u4 u5 u6 u7 u8 u9 u10 u11 u12 u13 v0 v1 v2 v3 v4 v5 v6 v7 v8 v9 v10 v11 v12 v13
  have u0 := Blk.c P3 0 (v := .slice a1 n1 c1) rfl
  have u1 := Blk.c P3 1 (v := .slice a2 n2 c2) rfl
  have u2 := Blk.c P3 2 (v := .int .i64 s.taken) rfl
  have u3 := Blk.c P3 3 (v := .slice a3 n3 c3) rfl
  have u4 := Blk.c P3 4 (v := .int .i64 s.clock) rfl
  have u5 := Blk.c P3 5 (v := .int .i64 s.at_) rfl
  have u6 := Blk.c P3 6 (v := .int .i64 s.phase) rfl
  have u7 := Blk.c P3 7 (v := .int .i64 s.order) rfl
  have u8 := Blk.c P3 8 (v := .int .i64 s.operand) rfl
  have u9 := Blk.c P3 9 (v := .int .i64 s.other) rfl
  have u10 := Blk.c P3 10 (v := .int .i64 s.product) rfl
  have u11 := Blk.c P3 11 (v := .int .i64 s.count) rfl
  have u12 := Blk.c P3 12 (v := .int .i64 s.done) rfl
  have u13 := Blk.c P3 13 (v := .int .i64 s.why) rfl
  have v0 := Blk.c R3 0 (v := .slice b1 n1 d1) rfl
  have v1 := Blk.c R3 1 (v := .slice b2 n2 d2) rfl
  have v2 := Blk.c R3 2 (v := .int .i64 s.taken) rfl
  have v3 := Blk.c R3 3 (v := .slice b3 n3 d3) rfl
  have v4 := Blk.c R3 4 (v := .int .i64 s.clock) rfl
  have v5 := Blk.c R3 5 (v := .int .i64 s.at_) rfl
  have v6 := Blk.c R3 6 (v := .int .i64 s.phase) rfl
  have v7 := Blk.c R3 7 (v := .int .i64 s.order) rfl
  have v8 := Blk.c R3 8 (v := .int .i64 s.operand) rfl
  have v9 := Blk.c R3 9 (v := .int .i64 s.other) rfl
  have v10 := Blk.c R3 10 (v := .int .i64 s.product) rfl
  have v11 := Blk.c R3 11 (v := .int .i64 s.count) rfl
  have v12 := Blk.c R3 12 (v := .int .i64 s.done) rfl
  have v13 := Blk.c R3 13 (v := .int .i64 s.why) rfl
  go_wp2_with fail
  go_ret
  exact ⟨rfl, (by repeat (first | with_reducible exact Ext.refl _ | with_reducible exact F3 | with_reducible exact F3.old | with_reducible exact F3.old.old | with_reducible exact F3.old.old.old | (with_reducible refine Ext.alloc ?_ _) | (with_reducible refine Below.drew ?_) | (with_reducible refine below_drewN ?_ _) | (with_reducible refine ext_put ?_ _ ?_; rotate_left; (first | with_reducible exact Nat.le_refl _ | with_reducible exact Nat.le_succ _ | omega | (dsimp only; omega)))))⟩
end Go.Proofs.Ytjfggepgjpdebaa

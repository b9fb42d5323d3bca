import Derived.Outline
import Derived.Test.YtjfggepgjpdebaaML4a
import Derived.Test.YtjfggepgjpdebaaML4b
import Derived.Test.YtjfggepgjpdebaaML4c
import Derived.Test.YtjfggepgjpdebaaML4d
set_option linter.unusedVariables false
set_option linter.unusedSimpArgs false
/- Contract: PulseBack returns true. -/
namespace Go.Proofs.Ytjfggepgjpdebaa
open Go.RowKit Go.Q
theorem orderE_start {o : St} (h : Valid o) : orderE (startQ o) = (o, 0) := by
  have hv := startQ_valid h
  have hp := h.place
  have ht : timeP (startQ o) = o.time := by show o.time + (o.at_ - o.time) % 16 = o.time; omega
  have htm := h.time
  unfold orderE
  rw [if_neg (by rw [checkP_valid hv]; decide), if_neg (by rw [ht]; rintro (e | e); exact e rfl; omega)]
  unfold orderQ
  rw [ht]
  rfl
theorem back_law (v u : Value) (s : Pu) (o : St) (w : World) (h : PuAt w v s) (hb : PuBd s) (g : StAt w u o) (gb : StBd o) :
    Calls Try.prog 15 #[v, u] w fun e w' => e = .returned (.bool true) ∧ Ext w w' := by
  have h1 := fun W (E : Ext w W) => pbits_any v s W (h.ext E) hb
  have h3 := fun W (E : Ext w W) => start_any u o W (g.ext E) gb
  have hps := fun W va vb (A : PuAt W va s) (B : PuAt W vb s) => pstates_same va vb s W A B hb
  have hss := fun W va vb (A : StAt W va o) (B : StAt W vb o) => states_same va vb o W A B gb
  obtain ⟨a1, a2, a3, c1, c2, c3, rfl, _, _, _⟩ := id h
  obtain ⟨b1, b2, b3, d1, d2, d3, rfl, _, _, _⟩ := id g
  rcases startE_ways o with ⟨es, hes, e⟩ | ⟨ho, e⟩
  all_goals
    rw [e] at h3
    by_cases hc : (checkP s).2.2 = 0
  · have hv := valid_check hc
    have e1 : bitsE s = (bitsP s, 0) := by unfold bitsE; rw [if_neg (by rw [hc]; decide)]
    rw [e1] at h1
    have hwd := fun W v (A : PbAt W v (bitsP s)) => words_ok v (bitsP s) W A (bits_valid hv)
    rw [words_bits hc] at hwd
    exact back_10 a1 a2 a3 b1 b2 b3 _ c1 _ c2 _ c3 _ d1 _ d2 _ d3 s o (bitsP s) zpu w (fun W E => (h1 W E).mono fun _ _ k => PbR8.of k (bits_valid hv)) hwd hps h es (by simpa using hes) h3
  · have hc' : (bitsE s).2 = (checkP s).2.2 := by unfold bitsE; rw [if_pos hc]
    generalize bitsE s = p at *
    obtain ⟨b, er⟩ := p
    exact back_00 a1 a2 a3 b1 b2 b3 _ c1 _ c2 _ c3 _ d1 _ d2 _ d3 s o b zpu w er (by dsimp only at hc'; rw [hc']; simpa using hc) h1 es (by simpa using hes) h3
  · have hv := valid_check hc
    have e1 : bitsE s = (bitsP s, 0) := by unfold bitsE; rw [if_neg (by rw [hc]; decide)]
    rw [e1] at h1
    have hwd := fun W v (A : PbAt W v (bitsP s)) => words_ok v (bitsP s) W A (bits_valid hv)
    rw [words_bits hc] at hwd
    have hor := fun W v (A : PuAt W v (startQ o)) => porder_any v (startQ o) W A (validP_bd (startQ_valid ho))
    rw [orderE_start ho] at hor
    exact back_11 a1 a2 a3 b1 b2 b3 _ c1 _ c2 _ c3 _ d1 _ d2 _ d3 s o (bitsP s) (startQ o) w (fun W E => (h1 W E).mono fun _ _ k => PbR8.of k (bits_valid hv)) hwd hps h h3 hor hss g
  · have hc' : (bitsE s).2 = (checkP s).2.2 := by unfold bitsE; rw [if_pos hc]
    have hor := fun W v (A : PuAt W v (startQ o)) => porder_any v (startQ o) W A (validP_bd (startQ_valid ho))
    rw [orderE_start ho] at hor
    generalize bitsE s = p at *
    obtain ⟨b, er⟩ := p
    exact back_01 a1 a2 a3 b1 b2 b3 _ c1 _ c2 _ c3 _ d1 _ d2 _ d3 s o b (startQ o) w er (by dsimp only at hc'; rw [hc']; simpa using hc) h1 h3 hor hss g
end Go.Proofs.Ytjfggepgjpdebaa

import Derived.Deep.MidRow
import Derived.Test.YtjfggepgjpdebaaM21
import Derived.Test.YtjfggepgjpdebaaM22
import Derived.Test.YtjfggepgjpdebaaM12
set_option linter.unusedVariables false
set_option linter.unusedSimpArgs false
/- What the laws of layer 5 share. -/
namespace Go.Proofs.Ytjfggepgjpdebaa
open Go.RowKit Go.Q
theorem zpu_bd : PuBd zpu := ⟨by decide, by decide, by decide⟩
theorem zst_bd : StBd zst := ⟨by decide, by decide, by decide⟩
/-- what Minors returns, in two ways -/
theorem minorsE_ways (s : Pu) (many : Int) : (∃ er, er ≠ 0 ∧ minorsE s many = (zpu, er)) ∨ (ValidP s ∧ (0 ≤ many ∧ many ≤ 20000) ∧ minorsE s many = (minorsP many.toNat s, 0)) := by
  unfold minorsE
  split
  · rename_i h; exact .inl ⟨_, h, rfl⟩
  · rename_i h
    split
    · rename_i h2; exact .inr ⟨valid_check (by omega), inB_bd h2, rfl⟩
    · exact .inl ⟨7, by decide, rfl⟩
theorem minorsE_bd (s : Pu) (many : Int) : PuBd (minorsE s many).1 := by
  rcases minorsE_ways s many with ⟨er, _, e⟩ | ⟨hv, _, e⟩
  · rw [e]; exact zpu_bd
  · rw [e]; exact validP_bd (minorsP_valid _ hv)
theorem minorsE_valid {s : Pu} (h : ValidP s) {n : Int} (hn : 0 ≤ n ∧ n ≤ 20000) : minorsE s n = (minorsP n.toNat s, 0) := by
  unfold minorsE
  rw [if_neg (by rw [checkP_valid h]; decide), if_pos (inB_mk hn.1 hn.2)]
theorem startQ_valid {s : St} (h : Valid s) : ValidP (startQ s) := by
  have ht := h.time
  have hat := h.at_
  exact ⟨h.len, h.tlen, h.plen, h.ws, h.wt, h.wp, h.taken, h.time, h.at_, by show (0 : Int) ≤ 0 ∧ (0 : Int) ≤ 4; decide, by show (0 : Int) ≤ 0 ∧ (0 : Int) ≤ 16777215; decide, by show (0 : Int) ≤ 0 ∧ (0 : Int) ≤ 16777215; decide, by show (0 : Int) ≤ 0 ∧ (0 : Int) ≤ 16777215; decide, by show (-140737488355328 : Int) ≤ 0 ∧ (0 : Int) ≤ 140737488355327; decide, h.done, h.why, by show (0 : Int) ≤ 0 ∧ (0 : Int) ≤ 12; decide, by show (0 : Int) = 3 ↔ (0 : Int) < 0; decide, fits0 rfl⟩
/-- what Start returns, in two ways -/
theorem startE_ways (s : St) : (∃ er, er ≠ 0 ∧ startE s = (zpu, er)) ∨ (Valid s ∧ startE s = (startQ s, 0)) := by
  unfold startE
  split
  · rename_i h; exact .inl ⟨_, h, rfl⟩
  · rename_i h; exact .inr ⟨valid_of_check (by omega), rfl⟩
theorem startE_bd (s : St) : PuBd (startE s).1 := by
  rcases startE_ways s with ⟨er, _, e⟩ | ⟨hv, e⟩
  · rw [e]; exact zpu_bd
  · rw [e]; exact validP_bd (startQ_valid hv)
theorem orderE_bd (s : Pu) : StBd (orderE s).1 := by
  unfold orderE
  split
  · exact zst_bd
  · rename_i h
    have hv := valid_check (s := s) (by omega)
    split
    · exact zst_bd
    · exact validP_bd hv
theorem untilE_ways (s : Pu) : (∃ er, er ≠ 0 ∧ untilE s = (0, er)) ∨ (ValidP s ∧ s.why = 0 ∧ untilE s = (((untilP s : Nat) : Int), 0)) := by
  unfold untilE
  split
  · rename_i h; exact .inl ⟨_, h, rfl⟩
  · rename_i h
    split
    · exact .inl ⟨9, by decide, rfl⟩
    · rename_i h2; exact .inr ⟨valid_check (by omega), by omega, rfl⟩
end Go.Proofs.Ytjfggepgjpdebaa
/- What the laws of layer 5 share, on: pulses of a valid state. -/
namespace Go.Proofs.Ytjfggepgjpdebaa
open Go.RowKit Go.Q
/-- valid pulses were returned -/
def PbR8 (b : PuB) (w : World) (e : Ending) (w' : World) : Prop :=
  ∃ aL a1 a2 a3 cL c1 n2 c2 n3 c3, e = .returned (.tuple #[pbv aL a1 a2 a3 8 cL 0 c1 n2 c2 n3 c3 b, .int .i64 0]) ∧ PbAt w' (pbv aL a1 a2 a3 8 cL 0 c1 n2 c2 n3 c3 b) b ∧ Ext w w'
theorem PbR8.of {b : PuB} {w w' : World} {e : Ending} (h : PbRes (b, 0) w e w') (hv : ValidB b) : PbR8 b w e w' := by
  obtain ⟨v, rfl, ⟨aL, a1, a2, a3, cL, c1, c2, c3, rfl, i⟩, hE⟩ := h
  dsimp only at i ⊢
  have hP : PbAt w' (pbv aL a1 a2 a3 b.lines.length cL b.now.store.length c1 b.now.tape.length c2 b.now.printed.length c3 b) b := ⟨aL, a1, a2, a3, cL, c1, c2, c3, rfl, i⟩
  have e0 : b.now.store.length = 0 := by rw [hv.nostore]; rfl
  rw [hv.lines, e0] at hP ⊢
  exact ⟨aL, a1, a2, a3, cL, c1, _, c2, _, c3, rfl, hP, hE⟩
/-- a valid state was returned -/
def PuR (s : Pu) (w : World) (e : Ending) (w' : World) : Prop :=
  ∃ a1 a2 a3 c1 n2 c2 n3 c3, e = .returned (.tuple #[psv a1 a2 a3 128 c1 n2 c2 n3 c3 s, .int .i64 0]) ∧ PuAt w' (psv a1 a2 a3 128 c1 n2 c2 n3 c3 s) s ∧ Ext w w'
theorem PuR.of {s : Pu} {w w' : World} {e : Ending} (h : PuRes (s, 0) w e w') (hv : ValidP s) : PuR s w e w' := by
  obtain ⟨v, rfl, ⟨a1, a2, a3, c1, c2, c3, rfl, i⟩, hE⟩ := h
  dsimp only at i ⊢
  have hP : PuAt w' (psv a1 a2 a3 s.store.length c1 s.tape.length c2 s.printed.length c3 s) s := ⟨a1, a2, a3, c1, c2, c3, rfl, i⟩
  rw [hv.len] at hP ⊢
  exact ⟨a1, a2, a3, c1, _, c2, _, c3, rfl, hP, hE⟩
end Go.Proofs.Ytjfggepgjpdebaa

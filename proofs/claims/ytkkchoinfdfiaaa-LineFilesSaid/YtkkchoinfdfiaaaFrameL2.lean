/- What an argument of the rows of layer 1 holds: bytes, with the capacity. -/
import Derived.Test.YtkkchoinfdfiaaaFrameL
set_option linter.unusedVariables false
set_option linter.unusedSimpArgs false
namespace Go.Proofs.Ytkkchoinfdfiaaa
open Go.ChangeShapes Go.WideShapes Go.ChangeAt Go.RowKit Go.Joins Go.Deep Go.Q
set_option linter.unusedVariables false
section
variable {H : Type} {enc : TypeId × Value → H} {w : World} {base : Nat} {spare : Nat → Bool} {held : Bool}
theorem bytes_of_trod2 {n : Nat} {v : Value} {y : DataW H × List MemPlace} (h : DataW.trod enc Try.prog w base spare held n 46 [v] = some y) :
    ∃ a c xs, v = .slice a (xs : List Int).length c ∧ (xs.length ≤ c ∧ c ≤ 9223372036854775807) ∧ BytesAt w a xs ∧ OkU xs := by
  rcases open_ints Try.underlying46 Try.underlying5 (by kernel_rfl) h with ⟨hcs, _⟩ | ⟨x, l, c, zs, hcs, _, hl, hm, hz, _, hcell, hwf⟩
  · exact ⟨none, 0, [], List.cons.inj hcs |>.1, ⟨by simp, by decide⟩, .inl rfl, by intro x hx; simp at hx⟩
  · have hlz : l ≤ zs.length := by rw [hz]; split <;> omega
    have hm' : c ≤ 9223372036854775807 := Nat.le_trans hm (by decide)
    have hlen : (zs.take l).length = l := by simp [hlz]
    refine ⟨some x, c, zs.take l, by rw [hlen]; exact List.cons.inj hcs |>.1, ⟨by rw [hlen]; omega, hm'⟩, ?_, fun x hx => u8_wf (hwf x (List.mem_of_mem_take hx))⟩
    by_cases h0 : l = 0
    · exact .inl (by simp [h0])
    obtain ⟨b, off, rfl, hc⟩ := ints_at hcell (by omega)
    refine .inr ⟨b, off, rfl, World.block_lt_of_cell? _ _ (hc 0 (by omega)), fun i hi => ?_⟩
    rw [hlen] at hi
    have e : (zs.take l)[i]?.getD 0 = zs.getD i 0 := by simp [List.getElem?_take, hi, List.getD]
    rw [e]
    exact hc i (by omega)
set_option maxRecDepth 100000 in
theorem spoilt_of_trod2 {r : Reach} {b0 : Nat} {v : Value} {d : DataW H} {p : List MemPlace} (hv : Value.okWide Try.prog w r b0 76 v) (h : DataW.Trod enc Try.prog w base spare held 76 v d p) :
    ∃ a c xs x y, v = .agg #[.slice a (xs : List Int).length c, .int .u16 x, .int .u16 y] ∧ ((xs.length ≤ c ∧ c ≤ 9223372036854775807) ∧ BytesAt w a xs ∧ OkU xs) ∧ (0 ≤ x ∧ x ≤ 65535) ∧ 0 ≤ y ∧ y ≤ 65535 := by
  obtain ⟨cs, rfl, hsz⟩ := okWide_struct Try.underlying76 hv
  obtain ⟨l⟩ := cs
  obtain ⟨fuel, hf⟩ := h
  obtain ⟨xs, n, _, _, _, hlen, hg⟩ := DataW.trod_struct Try.underlying76 hf
  match l, hsz.trans cellsSpoilt with
  | [c0, c1, c2], _ =>
    match xs, hlen with
    | [y0, y1, y2], _ =>
      have h0 : DataW.trod enc Try.prog w base spare held n 46 (List.take (Try.prog.cellsOf 46) (List.drop 0 [c0, c1, c2])) = some y0 := hg 0 _ rfl
      have h1 : DataW.trod enc Try.prog w base spare held n 74 (List.take (Try.prog.cellsOf 74) (List.drop 1 [c0, c1, c2])) = some y1 := hg 1 _ rfl
      have h2 : DataW.trod enc Try.prog w base spare held n 74 (List.take (Try.prog.cellsOf 74) (List.drop 2 [c0, c1, c2])) = some y2 := hg 2 _ rfl
      rw [cellsBytes] at h0
      rw [cellsU16] at h1 h2
      obtain ⟨a, c, bs, rfl, hb⟩ := bytes_of_trod2 (v := c0) h0
      obtain ⟨x, rfl, wx⟩ := int_cell Try.underlying74 (v := c1) h1
      obtain ⟨y, rfl, wy⟩ := int_cell Try.underlying74 (v := c2) h2
      exact ⟨a, c, bs, x, y, rfl, hb, u16_wf wx, u16_wf wy⟩
end
end Go.Proofs.Ytkkchoinfdfiaaa

import Derived.Test.YtnhpcoagkmgdoaaXDL1
import Derived.Test.YtnhpcoagkmgdoaaXDL3
import Derived.Test.YtnhpcoagkmgdoaaX5
set_option linter.unusedVariables false
set_option linter.unusedSimpArgs false
/- The law DumpMended. -/
namespace Go.Q
open Go.RowKit
theorem word_of_bad {x : Int} (h : badW x = false) : 0 ≤ x ∧ x ≤ 16777215 := by
 unfold badW wordB inB at h
 simpa using h
theorem punch_ways (ws : List Int) : (∃ er, er ≠ 0 ∧ punchE ws = ([], er)) ∨ (punchE ws = (tapeW ws, 0) ∧ wordOk ws ∧ ws.length ≤ 560) := by
 unfold punchE
 by_cases h : punchX ws = 0
 ·rw [if_pos h]
  refine .inr ⟨rfl, ?_⟩
  unfold punchX at h
  split at h
  ·cases h
  ·rename_i hl
   split at h
   ·cases h
   ·rename_i hb
    refine ⟨fun x hx => ?_, by omega⟩
    rw [Bool.not_eq_true, List.any_eq_false] at hb
    have := hb x hx
    exact word_of_bad (by simpa using this)
 ·rw [if_neg h]
  exact .inl ⟨_, h, rfl⟩
theorem spoil_len (ws : List Int) (f : Nat → Option (Nat × Nat)) : (spoilT ws f).length = 65 * manyB ws := flat_len3 fun i hi => spoilB_len hi
theorem spoil_lt {ws : List Int} {f : Nat → Option (Nat × Nat)} (hf : holesOk f) : ∀ r ∈ spoilT ws f, r < 128 := by
 intro r hr
 unfold spoilT at hr
 rw [List.mem_flatMap] at hr
 obtain ⟨i, hi, hr⟩ := hr
 exact spoilB_lt hf (List.mem_range.1 hi) r hr
theorem tape_lt128 (ws : List Int) : ∀ r ∈ tapeW ws, r < 128 := by
 rw [tape_blocks ws]
 intro r hr
 rw [List.mem_flatMap] at hr
 obtain ⟨i, hi, hr⟩ := hr
 exact (tapeB_good (List.mem_range.1 hi)).lt r hr
theorem read_tape {ws : List Int} (hw : wordOk ws) (hl : ws.length ≤ 560) : readE (tapeW ws) = (ws, [], 0, 0) := by
 have h := read_spoil hw hl (f := fun _ => none) (fun i r p h => by cases h)
 rw [(spoil_none ws).1, (spoil_none ws).2] at h
 exact h
end Go.Q
namespace Go.Proofs.Ytnhpcoagkmgdoaa
open Go.RowKit Go.Q Go.Shelf Go.Maps
set_option maxHeartbeats 4000000
set_option maxRecDepth 100000
/-- Awake returns true -/
def AwakeT : Prop := ∀ w, Calls Try.prog 20 #[] w fun e w' => e = .returned (.bool true) ∧ Ext w w'
theorem dumpMended_any (haw : AwakeT) (a xa : Option Addr) (n c xc : Nat) (ws : List Int) (x : List (Nat × Nat)) (w : World) (hn : ws.length = n) (hnb : n ≤ 9223372036854775807) (hI : IntsAt w a ws) (hX : PairsAt w xa x) (h256 : Pairs256 x) (hxl : x.length ≤ 9223372036854775807) :
  Calls Try.prog 6 #[.slice a n c, .slice xa x.length xc] w fun e w' => e = .returned (.bool true) ∧ Ext w w' := by
 have p1 := fun W (E : Ext w W) => lpunch_of ltape_any a n c ws W hn hnb (hI.ext E)
 rcases punch_ways ws with ⟨er, hne, hp⟩ | ⟨hp, hw, hl⟩
 ·have e1 : (er != 0) = true := by simpa using hne
  have e2 : (er == 0) = false := by simpa using hne
  rw [hp] at p1
  clear hp hne
  obtain ⟨xn, hxn⟩ : ∃ xn, x.length = xn := ⟨_, rfl⟩
  rw [hxn]
  clear hxn hxl
  go_enter Try.func6, Try.ntmps6
  go_wp2_with fail
  refine (p1 _ (Ext.refl _)).mono ?_
  rintro e w1 ⟨a1, c1, rfl, hc1, B1, E1⟩
  dsimp only at hc1 B1 ⊢
  simp only [List.length_nil]
  go_wp2_with fail
  refine (haw _).mono ?_
  rintro e w7 ⟨rfl, E7⟩
  go_wp2_with fail
  go_ret
  exact ⟨rfl, E1.comp E7⟩
 ·rw [hp] at p1
  have hbd := manyB_bd hl
  have htl := tape_len65 ws
  have hok := wrong_ok x
  have hlt := tape_lt128 ws
  have hsl := spoil_len ws (wrongF x)
  have hst := spoil_lt (ws := ws) hok
  have hos := out_spoil ws hok
  have r1 := fun W b d (hd : 65 * manyB ws ≤ d ∧ d ≤ 9223372036854775807) (hB : BytesAt W b (natI (tapeW ws))) => lread_any b _ d (tapeW ws) W htl hd hB (fun r h => Nat.lt_trans (hlt r h) (by decide))
  have r2 := fun W b d (hd : 65 * manyB ws ≤ d ∧ d ≤ 9223372036854775807) (hB : BytesAt W b (natI (spoilT ws (wrongF x)))) => lread_any b _ d (spoilT ws (wrongF x)) W hsl hd hB (fun r h => Nat.lt_trans (hst r h) (by decide))
  rw [read_tape hw hl] at r1
  rw [read_spoil hw hl hok] at r2
  have hwr := fun W b d (hd : 65 * manyB ws ≤ d ∧ d ≤ 9223372036854775807) (hB : BytesAt W b (natI (tapeW ws))) (E : Ext w W) => wrong_any b xa _ d xc (manyB ws) (tapeW ws) x W htl rfl (by omega) (by omega) hd hB hlt (hX.ext E) h256 hxl
  rw [hos, at_mended] at hwr
  obtain ⟨tp, htp⟩ : ∃ tp, tapeW ws = tp := ⟨_, rfl⟩
  obtain ⟨sp, hsp⟩ : ∃ sp, spoilT ws (wrongF x) = sp := ⟨_, rfl⟩
  obtain ⟨md, hmd⟩ : ∃ md, mendedT ws (wrongF x) = md := ⟨_, rfl⟩
  obtain ⟨m, hm⟩ : ∃ m, 65 * manyB ws = m := ⟨_, rfl⟩
  rw [htp] at p1 r1 hwr htl
  rw [hsp] at r2 hwr
  rw [hmd] at r2 hwr
  rw [hm] at r1 r2 hwr htl
  have hI' := fun W (E : Ext w W) => hI.ext E
  obtain ⟨xn, hxn⟩ : ∃ xn, x.length = xn := ⟨_, rfl⟩
  rw [hxn] at hwr ⊢
  clear hxn hxl hp hbd hok hlt hsl hst hos htp hsp hmd hm hX h256 hI
  go_enter Try.func6, Try.ntmps6
  go_wp2_with fail
  refine (p1 _ (Ext.refl _)).mono ?_
  rintro e w1 ⟨a1, c1, rfl, hc1, B1, E1⟩
  dsimp only at hc1 B1 ⊢
  rw [htl] at hc1 ⊢
  go_wp2_with fail
  refine (r1 _ _ _ hc1 B1).mono ?_
  rintro e w2 ⟨a3, c3, a4, c4, rfl, _, _, I3, _, E2⟩
  dsimp only at I3 ⊢
  simp only [List.length_nil]
  rw [hn]
  have E02 := E1.comp E2
  go_wp2_with fail
  refine (ints_same a3 a n c3 c ws _ hn hnb I3 (hI' _ E02)).mono ?_
  rintro e w3 ⟨rfl, E3⟩
  have E03 := E02.comp E3
  have B3 := B1.ext (E2.comp E3)
  clear B1 E1 E2 E02 I3
  go_wp2_with fail
  refine (hwr _ _ _ hc1 B3 E03).mono ?_
  rintro e w4 ⟨oa, oc, ma, mc, rfl, hoc, B4, I4, E4⟩
  obtain ⟨mn, hmn⟩ : ∃ mn, md.length = mn := ⟨_, rfl⟩
  rw [hmn]
  have E04 := E03.comp E4
  go_wp2_with fail
  refine (r2 _ _ _ hoc B4).mono ?_
  rintro e w5 ⟨a5, c5, a6, c6, rfl, _, hc6, I5, I6, E5⟩
  dsimp only at I5 I6 hc6 ⊢
  rw [hn, hmn]
  rw [hmn] at hc6
  have E05 := E04.comp E5
  have i1 := fun W (E : Ext w5 W) => ints_same a6 ma mn c6 mc md W hmn (by omega) (I6.ext E) ((I4.ext E5).ext E)
  have i2 := fun W (E : Ext w5 W) => ints_same a5 a n c5 c ws W hn hnb (I5.ext E) (hI' _ (E05.comp E))
  clear I4 I5 I6 B3 B4 hc6 hmn
  go_wp2_with fail
  refine (i1 _ (Ext.refl _)).mono ?_
  rintro e w6 ⟨rfl, E6⟩
  go_wp2_with fail
  refine (i2 _ E6).mono ?_
  rintro e w7 ⟨rfl, E7⟩
  go_wp2_with fail
  refine (haw _).mono ?_
  rintro e w8 ⟨rfl, E8⟩
  go_wp2_with fail
  go_ret
  exact ⟨rfl, E05.comp (E6.comp (E7.comp E8))⟩
end Go.Proofs.Ytnhpcoagkmgdoaa

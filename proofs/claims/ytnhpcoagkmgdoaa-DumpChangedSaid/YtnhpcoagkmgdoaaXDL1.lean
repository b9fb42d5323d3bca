import Derived.Test.YtnhpcoagkmgdoaaX17
import Derived.Test.YtnhpcoagkmgdoaaX12
import Derived.Test.YtnhpcoagkmgdoaaX9
import Derived.Test.YtnhpcoagkmgdoaaX30
import Derived.Test.YtnhpcoagkmgdoaaX14
set_option linter.unusedVariables false
set_option linter.unusedSimpArgs false
/- The law DumpTapes. -/
namespace Go.Q
open Go.RowKit
theorem punch_lt (ws : List Int) : ∀ r ∈ (punchE ws).1, r < 128 := by
 unfold punchE
 split
 ·intro r hr
  dsimp only at hr
  rw [tape_blocks, List.mem_flatMap] at hr
  obtain ⟨i, hi, hr⟩ := hr
  exact (tapeB_good (List.mem_range.1 hi)).lt r hr
 ·simp
theorem nat_bd {xs : List Nat} {m : Nat} (h : ∀ r ∈ xs, r < m) (hm : m ≤ 256) : ∀ x ∈ natI xs, 0 ≤ x ∧ x ≤ 255 := by
 intro x hx
 obtain ⟨r, hr, rfl⟩ := List.mem_map.1 hx
 have := h r hr
 omega
end Go.Q
namespace Go.Proofs.Ytnhpcoagkmgdoaa
open Go.RowKit Go.Q Go.Shelf Go.Maps
set_option maxHeartbeats 4000000
set_option maxRecDepth 100000
theorem conv_rows {W : World} {a : Option Addr} {n c : Nat} {xs : List Nat} (hI : BytesAt W a (natI xs)) (hn : xs.length = n) (hx : ∀ x ∈ natI xs, 0 ≤ x ∧ x ≤ 255) : (convert 23 9 (.slice a n c)).run Try.prog W = .ok (.string (strU (natI xs))) W := by
 have h := conv_bytes (c := c) hI hx
 rw [natI_length, hn] at h
 exact h
theorem dumpTapes_any (haw : ∀ w, Calls Try.prog 20 #[] w fun e w' => e = .returned (.bool true) ∧ Ext w w') (a b : Option Addr) (n c m d : Nat) (ws : List Int) (rs : List Nat) (w : World) (hn : ws.length = n) (hnb : n ≤ 9223372036854775807) (hI : IntsAt w a ws) (hm : rs.length = m) (hd : m ≤ d ∧ d ≤ 9223372036854775807) (hB : BytesAt w b (natI rs)) (h256 : ∀ r ∈ rs, r < 256) :
  Calls Try.prog 3 #[.slice a n c, .slice b m d] w fun e w' => e = .returned (.bool true) ∧ Ext w w' := by
 have p1 := fun W (E : Ext w W) => lpunch_of ltape_any a n c ws W hn hnb (hI.ext E)
 have p2 := fun W (E : Ext w W) => rpunch_any a n c ws W hn hnb (hI.ext E)
 have r1 := fun W (E : Ext w W) => lread_any b m d rs W hm hd (hB.ext E) h256
 have r2 := fun W (E : Ext w W) => rread_any b m d rs W hm hd (hB.ext E) h256
 have hlt := punch_lt ws
 obtain ⟨⟨tp, er⟩, hp⟩ : ∃ p, punchE ws = p := ⟨_, rfl⟩
 obtain ⟨⟨x1, x2, x3, x4⟩, hr⟩ : ∃ p, readE rs = p := ⟨_, rfl⟩
 rw [hp] at p1 p2 hlt
 rw [hr] at r1 r2
 have hbd := nat_bd hlt (by decide)
 clear hp hr hI hB h256 hlt
 go_enter Try.func3, Try.ntmps3
 go_wp2_with fail
 refine (p1 _ (Ext.refl _)).mono ?_
 rintro e w1 ⟨a1, c1, rfl, hc1, B1, E1⟩
 dsimp only at hc1 B1 hbd ⊢
 obtain ⟨tn, htn⟩ : ∃ tn, tp.length = tn := ⟨_, rfl⟩
 rw [htn]
 go_wp2_with fail
 refine (p2 _ E1).mono ?_
 rintro e w2 ⟨a2, c2, rfl, hc2, B2, E2⟩
 dsimp only at hc2 B2 ⊢
 rw [htn]
 have cv1 := conv_rows (c := c1) (B1.ext E2) htn hbd
 have cv2 := conv_rows (c := c2) B2 htn hbd
 have E02 := E1.comp E2
 clear B1 B2 E1 E2 hc1 hc2 p1 p2
 go_wp2_with fail
 refine (r1 _ E02).mono ?_
 rintro e w3 ⟨a3, c3, a4, c4, rfl, hc3, hc4, I3, I4, E3⟩
 dsimp only at hc3 hc4 I3 I4 ⊢
 have E03 := E02.comp E3
 clear cv1 cv2
 go_wp2_with fail
 refine (r2 _ E03).mono ?_
 rintro e w4 ⟨a5, c5, a6, c6, rfl, hc5, hc6, I5, I6, E4⟩
 dsimp only at hc5 hc6 I5 I6 ⊢
 obtain ⟨n1, hn1⟩ : ∃ n1, x1.length = n1 := ⟨_, rfl⟩
 obtain ⟨n2, hn2⟩ : ∃ n2, x2.length = n2 := ⟨_, rfl⟩
 rw [hn1, hn2]
 rw [hn1] at hc3
 rw [hn2] at hc4
 have i1 := fun W (E : Ext w4 W) => ints_same a3 a5 n1 c3 c5 x1 W hn1 (by omega) ((I3.ext E4).ext E) (I5.ext E)
 have i2 := fun W (E : Ext w4 W) => ints_same a4 a6 n2 c4 c6 x2 W hn2 (by omega) ((I4.ext E4).ext E) (I6.ext E)
 have E04 := E03.comp E4
 clear I3 I4 I5 I6 hc3 hc4 hc5 hc6 hn1 hn2
 go_wp2_with fail
 refine (i1 _ (Ext.refl _)).mono ?_
 rintro e w5 ⟨rfl, E5⟩
 go_wp2_with fail
 refine (i2 _ E5).mono ?_
 rintro e w6 ⟨rfl, E6⟩
 go_wp2_with fail
 refine (haw _).mono ?_
 rintro e w7 ⟨rfl, E7⟩
 go_wp2_with fail
 go_ret
 exact ⟨rfl, E04.comp (E5.comp (E6.comp E7))⟩
end Go.Proofs.Ytnhpcoagkmgdoaa

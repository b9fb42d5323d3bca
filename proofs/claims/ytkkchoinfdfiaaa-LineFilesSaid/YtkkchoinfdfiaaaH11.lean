/- Contract of layer 1: Name. -/
import Derived.Test.YtkkchoinfdfiaaaH3
import Derived.Laws.IdiomStrings
import Derived.Deep.LoopGhost
set_option linter.unusedVariables false
set_option linter.unusedSimpArgs false
namespace Go.Proofs.Ytkkchoinfdfiaaa
open Go.RowKit Go.Q

theorem name_all {s : List Int} (h1 : inB s.length 1 20 = true) (h2 : ((s[s.length - 1]?.getD 0) == 95) = false) (h3 : ∀ i, i < s.length → nameC i (s[i]?.getD 0) = true) : nameB s = true := by
  unfold nameB
  rw [h1, h2, Bool.not_false, Bool.true_and, Bool.true_and, List.all_eq_true]
  intro i hi
  exact h3 i (List.mem_range.1 hi)
theorem name_no {s : List Int} {i : Nat} (hi : i < s.length) (h : nameC i (s[i]?.getD 0) = false) : nameB s = false := by
  unfold nameB
  have : ((List.range s.length).all fun i => nameC i (s[i]?.getD 0)) = false := by
    rw [List.all_eq_false]
    exact ⟨i, List.mem_range.2 hi, by rw [h]; simp⟩
  rw [this, Bool.and_false]
set_option maxHeartbeats 4000000 in
theorem name_any (s : ByteArray) (w : World) (hs : s.size ≤ 9223372036854775807) :
    Calls Try.prog 20 #[.string s] w fun e w' => e = .returned (.bool (nameB (bytesS s))) ∧ Ext w w' := by
  have ho := fun W => lout_any (s.size : Int) 1 20 W
  cases h1 : inB (s.size : Int) 1 20 with
  | false =>
    have e1 : nameB (bytesS s) = false := by unfold nameB; rw [bytesS_length, h1]; rfl
    rw [h1] at ho
    rw [e1]
    clear e1 h1
    go_enter Try.func20, Try.ntmps20
    go_wp2_with fail
    refine (ho _).mono ?_
    rintro e w1 ⟨rfl, rfl⟩
    go_wp2
    go_ret
    exact ⟨rfl, Ext.refl _⟩
  | true =>
    rw [h1] at ho
    have hb := inB_bd h1
    have hl0 : s.size - 1 < s.size := by omega
    have hlast := bytesS_get s (s.size - 1) hl0
    cases h2 : ((bytesS s)[s.size - 1]?.getD 0 == 95) with
    | true =>
      have e1 : nameB (bytesS s) = false := by unfold nameB; rw [bytesS_length, h2]; simp
      rw [e1]
      have h3 : ((s[s.size - 1].toNat : Int) == 95) = true := by rw [← hlast]; exact h2
      have HL := Lib.hid hlast
      have HB := Lib.hid hb
      clear e1 h1 h2 hlast
      go_enter Try.func20, Try.ntmps20
      go_wp2_with fail
      refine (ho _).mono ?_
      rintro e w1 ⟨rfl, rfl⟩
      go_wp2
      go_ret
      exact ⟨rfl, Ext.refl _⟩
    | false =>
      have h3 : ((s[s.size - 1].toNat : Int) == 95) = false := by rw [← hlast]; exact h2
      have H1 := Lib.hid h1
      have H2 := Lib.hid h2
      have HB := Lib.hid hb
      clear h1 h2 hlast
      have kc := fun W => run_bytes_of_string (P := Try.prog) W 9 46 5 s Try.underlying9 Try.underlying46 Try.underlying5
      go_enter Try.func20, Try.ntmps20
      go_wp2_with fail
      refine (ho _).mono ?_
      rintro e w1 ⟨rfl, rfl⟩
      go_wp2
      have hcells : ∀ i, i < s.size → ((w.alloc (.cells (bytesRow s (grownCap w s.size 0 5)) 5 ((bytesRow s (grownCap w s.size 0 5)).size, (bytesRow s (grownCap w s.size 0 5)).size + 1))).drew).cell? ⟨w.heap.size, i, none⟩ = some (.int .u8 ((bytesS s)[i]?.getD 0)) := by
        intro i hi
        rw [World.cell?_drew, bytesS_get s i hi]
        have hc : (bytesRow s (grownCap w s.size 0 5))[i]? = some (.int .u8 (s[i].toNat : Int)) := by
          unfold bytesRow
          rw [Array.getElem?_append_left (by simpa using hi)]
          simp [hi]
          rfl
        have e : (w.alloc (.cells (bytesRow s (grownCap w s.size 0 5)) 5 ((bytesRow s (grownCap w s.size 0 5)).size, (bytesRow s (grownCap w s.size 0 5)).size + 1))).heap[w.heap.size]? = some (.cells (bytesRow s (grownCap w s.size 0 5)) 5 ((bytesRow s (grownCap w s.size 0 5)).size, (bytesRow s (grownCap w s.size 0 5)).size + 1)) := heap_alloc_new w _
        simp only [World.cell?, e]
        simpa using hc
      have hE : Ext w ((w.alloc (.cells (bytesRow s (grownCap w s.size 0 5)) 5 ((bytesRow s (grownCap w s.size 0 5)).size, (bytesRow s (grownCap w s.size 0 5)).size + 1))).drew) := ((Ext.refl w).alloc _).drew
      generalize World.drew _ = W at hcells hE ⊢
      have HC := Lib.hid hcells
      clear hcells kc
      go_loop [19] (fun s19 => ∃ k : Nat, k ≤ s.size ∧ s19 = .int .i64 k ∧ Aside (∀ i, i < k → nameC i ((bytesS s)[i]?.getD 0) = true)) (fun s19 => s.size - (intOf s19).toNat)
      case atStart => exact ⟨0, Nat.zero_le _, rfl, fun i hi => absurd hi (Nat.not_lt_zero _)⟩
      case round =>
        obtain ⟨k, hk, rfl, HA⟩ := hrel
        by_cases hlt : k < s.size
        · have hltz : (k : Int) < (s.size : Int) := by omega
          have hcx := HC.out k hlt
          have hyes : nameC k ((bytesS s)[k]?.getD 0) = true → ∃ u : Nat, u ≤ s.size ∧ Value.int .i64 ((k : Int) + 1) = .int .i64 u ∧ Aside (∀ i, i < u → nameC i ((bytesS s)[i]?.getD 0) = true) := by
            intro h
            refine ⟨k + 1, by omega, by go_num, (show Aside _ from fun i hi => ?_)⟩
            by_cases e : i = k
            · rw [e]; exact h
            · exact HA.out i (by omega)
          have hno : nameC k ((bytesS s)[k]?.getD 0) = false → nameB (bytesS s) = false := name_no (by rw [bytesS_length]; exact hlt)
          have HY := Lib.hid hyes
          have HN := Lib.hid hno
          clear hyes hno
          obtain ⟨c, hc⟩ : ∃ c, (bytesS s)[k]?.getD 0 = c := ⟨_, rfl⟩
          rw [hc] at hcx HY HN
          clear hc
          by_cases h97 : 97 ≤ c ∧ c ≤ 122
          · obtain ⟨h97a, h97b⟩ := h97
            go_wp2
            go_round
            case rel => exact HY.out (by unfold nameC; simp [h97a, h97b])
            case measure => simp [intOf]; omega
          · by_cases hk0 : 0 < k
            · have hk0z : (0 : Int) < (k : Int) := by omega
              cases h95 : (c == 95) with
              | true =>
                have e95 : c = 95 := by simpa using h95
                subst e95
                clear h95
                go_wp2
                go_round
                case rel => exact HY.out (by unfold nameC; simp [hk0])
                case measure => simp [intOf]; omega
              | false =>
                by_cases h48 : 48 ≤ c ∧ c ≤ 57
                · obtain ⟨h48a, h48b⟩ := h48
                  have : ¬ 97 ≤ c := by omega
                  go_wp2
                  go_round
                  case rel => exact HY.out (by unfold nameC; simp [hk0, h48a, h48b])
                  case measure => simp [intOf]; omega
                · have hn : nameC k c = false := by
                    unfold nameC
                    rw [h95]
                    simp
                    omega
                  have HNN := Lib.hid (HN.out hn)
                  clear hn HN HY
                  by_cases a97 : 97 ≤ c
                  · have b122 : ¬ c ≤ 122 := by omega
                    have a48 : 48 ≤ c := by omega
                    have b57 : ¬ c ≤ 57 := by omega
                    go_wp2
                    go_ret
                    exact ⟨by rw [HNN.out]; rfl, hE⟩
                  · by_cases a48 : 48 ≤ c
                    · have b57 : ¬ c ≤ 57 := by omega
                      go_wp2
                      go_ret
                      exact ⟨by rw [HNN.out]; rfl, hE⟩
                    · go_wp2
                      go_ret
                      exact ⟨by rw [HNN.out]; rfl, hE⟩
            · have hk0z : ¬ (0 : Int) < (k : Int) := by omega
              have hn : nameC k c = false := by
                unfold nameC
                simp [hk0]
                omega
              have HNN := Lib.hid (HN.out hn)
              clear hn HN HY
              by_cases a97 : 97 ≤ c
              · have b122 : ¬ c ≤ 122 := by omega
                go_wp2
                go_ret
                exact ⟨by rw [HNN.out]; rfl, hE⟩
              · go_wp2
                go_ret
                exact ⟨by rw [HNN.out]; rfl, hE⟩
        · have hltz : ¬ (k : Int) < (s.size : Int) := by omega
          have e := Lib.hid (name_all (s := bytesS s) (by rw [bytesS_length]; exact H1.out) (by rw [bytesS_length]; exact H2.out) (fun i hi => HA.out i (by rw [bytesS_length] at hi; omega)))
          go_wp2
          go_ret
          exact ⟨by rw [e.out]; rfl, hE⟩
end Go.Proofs.Ytkkchoinfdfiaaa

/- Contract: the reference of layer 5: Store. What lies in memory as lines of pulses. -/
import Derived.Test.YtjfggepgjpdebaaM9
import Derived.Test.YtjfggepgjpdebaaM2
import Derived.Test.YtjfggepgjpdebaaY0
set_option linter.unusedVariables false
set_option linter.unusedSimpArgs false
namespace Go.Proofs.Ytjfggepgjpdebaa
open Go.RowKit Go.Q

theorem take_get {xs : List Int} {n : Nat} (h : n < xs.length) : xs.take (n + 1) = xs.take n ++ [xs[n]?.getD 0] := by
  rw [List.take_succ_eq_append_getElem h, List.getElem?_eq_getElem h]; rfl
set_option maxRecDepth 100000 in
set_option maxHeartbeats 8000000 in
theorem rstore5_any (a : Option Addr) (c : Nat) (ls : List (List Bool)) (w : World) (h8 : ls.length = 8) (hlen : ∀ l ∈ ls, l.length = 384) (hL : LinesAt w a ls) :
    Calls Try.prog 73 #[.slice a 8 c] w fun e w' => ∃ a' c', e = .returned (.slice a' 128 c') ∧ w'.ownsRow w.heap.size 3 1 (.slice a' 128 c') 128 (iv (storeB ls)) ∧ Ext w w' := by
  obtain ⟨i0, hi, ha0, ha1, ha2⟩ := info_parts Try.infoE
  have hsl := storeB_length ls
  rw [h8] at hsl
  rcases hL with hL | ⟨b, off, rfl, hb, hc⟩
  · rw [hL] at h8; simp at h8
  go_enter Try.func73, Try.ntmps73
  have HS := Lib.hid hsl
  have H8 := Lib.hid h8
  have HC := Lib.hid hc
  have HLn := Lib.hid hlen
  clear hsl h8 hc hlen
  go_wp2_with fail
  go_loopw [3, 4] (fun o l wr => ∃ j : Nat, j ≤ 8 ∧ l = .int .i64 j ∧ Ext w wr ∧ wr.ownsRow w.heap.size 3 1 o (16 * j) (iv ((storeB ls).take (16 * j)))) (fun _ l _ => 8 - (intOf l).toNat)
  case atStart => exact ⟨0, by omega, rfl, Ext.refl w, World.ownsRow_nil w _ _ _⟩
  case round =>
    obtain ⟨j, hj, rfl, E, hown⟩ := hrel
    by_cases hlt : j < 8
    · have hltz : (j : Int) < 8 := by omega
      obtain ⟨al, cl, hcl, _, hbl⟩ := HC.out j (by rw [H8.out]; exact hlt)
      have hl384 : (ls[j]?.getD []).length = 384 := by
        rw [List.getElem?_eq_getElem (by rw [H8.out]; exact hlt)]
        exact HLn.out _ (List.getElem_mem _)
      rw [hl384] at hcl
      rcases hbl with hbl | ⟨b2, off2, rfl, hb2, hc2⟩
      · rw [hbl] at hl384; simp at hl384
      have HB2 := Lib.hid hc2
      have HL3 := Lib.hid hl384
      have HCL := Lib.hid hcl
      clear hc2 hl384 hcl
      go_wp2_with fail
      obtain ⟨wo, rfl⟩ : ∃ wo : World, wo = wr := ⟨_, rfl⟩
      go_loopw [3, 5] (fun o p wr => ∃ i : Nat, i ≤ 16 ∧ p = .int .i64 i ∧ Ext w wr ∧ wr.ownsRow w.heap.size 3 1 o (16 * j + i) (iv ((storeB ls).take (16 * j + i)))) (fun _ p _ => 16 - (intOf p).toNat)
      case atStart => exact ⟨0, by omega, rfl, E, hown⟩
      case round =>
        obtain ⟨i, hi16, rfl, E2, hown2⟩ := hrel
        by_cases hlti : i < 16
        · have hltz2 : (i : Int) < 16 := by omega
          have hcl2 := (E2.cell (p := ⟨b, off + j, none⟩) hb).trans HCL.out
          have hbz : b < wr.heap.size := Nat.lt_of_lt_of_le hb E2.size
          have hbz2 : b2 < wr.heap.size := Nat.lt_of_lt_of_le hb2 E2.size
          have hget := storeB_get ls j i (by rw [H8.out]; exact hlt) hlti
          have htk := take_get (xs := storeB ls) (n := 16 * j + i) (by rw [HS.out]; omega)
          rw [hget, ← upOf_all] at htk
          have Htk := Lib.hid htk
          have Hown := Lib.hid hown2
          clear hget htk hown2
          go_wp2_with fail
          obtain ⟨wp, rfl⟩ : ∃ wp : World, wp = wr := ⟨_, rfl⟩
          go_loop [6, 7] (fun x k => ∃ m : Nat, m ≤ 24 ∧ k = .int .i64 (23 - (m : Int)) ∧ x = .int .i64 (upOf (fun k => (ls[j]?.getD [])[i * 24 + k]?.getD false) m)) (fun _ k => (intOf k + 1).toNat)
          case atStart => exact ⟨0, by omega, by simp, rfl⟩
          case round =>
            obtain ⟨m, hm, rfl, rfl⟩ := hrel
            have hup := upOf_le (f := fun k => (ls[j]?.getD [])[i * 24 + k]?.getD false) hm
            by_cases hltm : m < 24
            · have hge : (0 : Int) ≤ 23 - (m : Int) := by omega
              have hcb := (E2.cell (p := ⟨b2, off2 + (i * 24 + (23 - m)), none⟩) (Nat.lt_of_lt_of_le hb2 (Nat.le_refl _))).trans (HB2.out (i * 24 + (23 - m)) (by rw [HL3.out]; omega))
              have hupS := Lib.hid (show upOf (fun k => (ls[j]?.getD [])[i * 24 + k]?.getD false) (m + 1) = 2 * upOf (fun k => (ls[j]?.getD [])[i * 24 + k]?.getD false) m + (if (ls[j]?.getD [])[i * 24 + (23 - m)]?.getD false then 1 else 0) from rfl)
              have hidx : ((i : Int) * 24 + (23 - (m : Int))).toNat = i * 24 + (23 - m) := by omega
              have hi0 : (0 : Int) ≤ (i : Int) * 24 + (23 - (m : Int)) := by omega
              have hi1 : (i : Int) * 24 + (23 - (m : Int)) < 384 := by omega
              generalize upOf (fun k => (ls[j]?.getD [])[i * 24 + k]?.getD false) m = x at *
              generalize (ls[j]?.getD [])[i * 24 + (23 - m)]?.getD false = bt at *
              cases bt with
              | true =>
                go_wp2_with fail
                go_round
                case rel => exact ⟨m + 1, by omega, by congr 1; omega, by rw [hupS.out]; rfl⟩
                case measure => simp [intOf]; omega
              | false =>
                go_wp2_with fail
                go_round
                case rel => exact ⟨m + 1, by omega, by congr 1; omega, by rw [hupS.out]; simp⟩
                case measure => simp [intOf]; omega
            · have hge : ¬ (0 : Int) ≤ 23 - (m : Int) := by omega
              obtain rfl : m = 24 := by omega
              generalize hx : upOf (fun k => (ls[j]?.getD [])[i * 24 + k]?.getD false) 24 = x at *
              have HX := Lib.hid hx
              clear hx
              have hEsz := E2.size
              go_wp2_with (at_builtin; refine wpList_app (w0 := w) rfl _ _ 22 rfl 3 i0 (.int .i64 0) 1 8 Try.underlying22 hi ha0 ha1 ha2 rfl (by decide) _ (16 * j + i) w.heap.size (iv ((storeB ls).take (16 * j + i))) rfl ?e0 (E2.alloc _) (Nat.le_refl _) (by simp; omega) _ 1 1 (iv [x]) rfl ?e1 ?e2 (iv_one _) (by unfold maxLen; omega) (by omega) ?_)
              case e0 => exact Hown.out.alloc _
              case e1 => rfl
              case e2 => exact from_ints (IntsAt.one (by simp) (by simp))
              intro a' c' w2 hown4 hE4 _
              rw [iv_app] at hown4
              have HO4 := Lib.hid hown4
              clear hown4
              go_wp2_with fail
              go_roundw
              case rel =>
                refine ⟨i + 1, by omega, by go_num, hE4, ?_⟩
                rw [show 16 * j + (i + 1) = 16 * j + i + 1 by omega, Htk.out]
                exact HO4.out
              case measure => simp [intOf]; omega
        · have hltz2 : ¬ (i : Int) < 16 := by omega
          obtain rfl : i = 16 := by omega
          go_wp2_with fail
          go_roundw
          case rel => exact ⟨j + 1, by omega, by go_num, E2, by rw [show 16 * (j + 1) = 16 * j + 16 by omega]; exact hown2⟩
          case measure => simp [intOf]; omega
    · have hltz : ¬ (j : Int) < 8 := by omega
      obtain rfl : j = 8 := by omega
      have HO := Lib.hid hown
      clear hown
      obtain ⟨g, cap, e, _⟩ := HO.out.form (by decide)
      subst e
      clear HC HLn
      go_wp2_with fail
      go_ret
      refine ⟨_, _, rfl, ?_, E⟩
      have h := HO.out
      rw [List.take_of_length_le (by rw [HS.out]; omega)] at h
      exact h
end Go.Proofs.Ytjfggepgjpdebaa

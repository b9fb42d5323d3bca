import Derived.Deep.RegionHeld3
import Derived.Deep.DeepCutAuto
import Derived.Test.YtnhpcoagkmgdoaaXFrame10
import Derived.Test.YtnhpcoagkmgdoaaXFacts10
import Derived.Test.YtnhpcoagkmgdoaaXDL13
set_option linter.unusedVariables false
set_option linter.unusedSimpArgs false
/- Layer 10's reference: the words of a state. -/
namespace Go.Proofs.Ytnhpcoagkmgdoaa
open Go.RowKit Go.Q Go.Joins
set_option maxRecDepth 100000 in
set_option maxHeartbeats 4000000 in
theorem words10_any (v : Value) (s : St) (w : World) (h : StAt w v s) (hv : Valid s) :
    Calls Try.prog 58 #[v] w fun e w' => ∃ v', e = .returned v' ∧ w'.ownsRow w.heap.size 3 1 v' (wordsS s).length (iv (wordsS s)) ∧ Ext w w' := by
  obtain ⟨a1, a2, a3, k1, k2, k3, rfl, i1, i2, i3⟩ := h
  have hlen := hv.len
  have htl := hv.tlen
  have hpl := hv.plen
  have hti := hv.time
  have hdo := hv.done
  have HW := Lib.hid (show iv (wordsS s) = iv (headS s) ++ (iv s.store ++ (iv s.tape ++ iv s.printed)) by unfold wordsS; simp only [iv_app])
  have HWL := Lib.hid (wordsS_len s)
  obtain ⟨n2, hn2⟩ : ∃ n2, s.tape.length = n2 := ⟨_, rfl⟩
  obtain ⟨n3, hn3⟩ : ∃ n3, s.printed.length = n3 := ⟨_, rfl⟩
  have HD := Lib.hid (show iv (headS s) = [.int .i64 (s.time % 16777216), .int .i64 (s.time / 16777216), .int .i64 s.at_, .int .i64 (s.done % 16777216), .int .i64 (s.done / 16777216), .int .i64 s.why, .int .i64 s.taken, .int .i64 (n2 : Int), .int .i64 (n3 : Int)] by unfold headS; rw [hn2, hn3]; rfl)
  rw [hlen, hn2, hn3] at HWL
  rw [hn2] at htl
  rw [hn3] at hpl
  rw [hlen, hn2, hn3]
  have H1 := Lib.hid hlen
  have H2 := Lib.hid hn2
  have H3 := Lib.hid hn3
  have J1 := Lib.hid i1
  have J2 := Lib.hid i2
  have J3 := Lib.hid i3
  obtain ⟨tq, htq⟩ : ∃ tq, s.time / 16777216 = tq := ⟨_, rfl⟩
  obtain ⟨tr, htr⟩ : ∃ tr, s.time % 16777216 = tr := ⟨_, rfl⟩
  obtain ⟨dq, hdq⟩ : ∃ dq, s.done / 16777216 = dq := ⟨_, rfl⟩
  obtain ⟨dr, hdr⟩ : ∃ dr, s.done % 16777216 = dr := ⟨_, rfl⟩
  rw [htq, htr, hdq, hdr] at HD
  have t1 : Int.tmod s.time 16777216 = tr := by rw [Int.tmod_eq_emod_of_nonneg (by omega)]; exact htr
  have t2 : Int.tdiv s.time 16777216 = tq := by rw [Int.tdiv_eq_ediv_of_nonneg (by omega)]; exact htq
  have t3 : Int.tmod s.done 16777216 = dr := by rw [Int.tmod_eq_emod_of_nonneg (by omega)]; exact hdr
  have t4 : Int.tdiv s.done 16777216 = dq := by rw [Int.tdiv_eq_ediv_of_nonneg (by omega)]; exact hdq
  obtain ⟨i0, hi0, hz0, hz1, hz2⟩ := info_parts Try.infoE
  clear hlen hn2 hn3 i1 i2 i3
  go_enter Try.func58, Try.ntmps58
  go_wp2
  obtain ⟨W1, hW1⟩ : ∃ W1, w.alloc (.cells #[.slice a1 128 k1, .slice a2 n2 k2, .int .i64 s.taken, .slice a3 n3 k3, .int .i64 s.time, .int .i64 s.at_, .int .i64 s.done, .int .i64 s.why] 33) = W1 := ⟨_, rfl⟩
  have hs1 : W1.heap.size = w.heap.size + 1 := by rw [← hW1]; simp
  have E1 : Ext w W1 := by rw [← hW1]; exact (Ext.refl w).alloc _
  have b1 : W1.cell? ⟨w.heap.size, 0, none⟩ = some (.slice a1 128 k1) := by rw [← hW1]; exact box_at (Ext.refl _) 0 rfl
  have b2 : W1.cell? ⟨w.heap.size, 1, none⟩ = some (.slice a2 n2 k2) := by rw [← hW1]; exact box_at (Ext.refl _) 1 rfl
  have b3 : W1.cell? ⟨w.heap.size, 3, none⟩ = some (.slice a3 n3 k3) := by rw [← hW1]; exact box_at (Ext.refl _) 3 rfl
  have hlt : w.heap.size < W1.heap.size := by omega
  rw [hW1]
  have hlit : (W1.alloc (.cells #[.int .i64 tr, .int .i64 tq, .int .i64 s.at_, .int .i64 dr, .int .i64 dq, .int .i64 s.why, .int .i64 s.taken, .int .i64 (n2 : Int), .int .i64 (n3 : Int)] 3)).ownsRow W1.heap.size 3 1 (.slice (some ⟨W1.heap.size, 0, none⟩) 9 9) 9 (iv (headS s)) := by
    rw [HD.out]
    exact World.ownsRow_lit W1 #[.int .i64 tr, .int .i64 tq, .int .i64 s.at_, .int .i64 dr, .int .i64 dq, .int .i64 s.why, .int .i64 s.taken, .int .i64 (n2 : Int), .int .i64 (n3 : Int)] 9 (Nat.le_refl _) (by unfold maxLen; decide) rfl
  rw [hs1] at hlit
  have hE2 : Ext W1 (W1.alloc (.cells #[.int .i64 tr, .int .i64 tq, .int .i64 s.at_, .int .i64 dr, .int .i64 dq, .int .i64 s.why, .int .i64 s.taken, .int .i64 (n2 : Int), .int .i64 (n3 : Int)] 3)) := (Ext.refl W1).alloc _
  generalize W1.alloc (.cells #[.int .i64 tr, .int .i64 tq, .int .i64 s.at_, .int .i64 dr, .int .i64 dq, .int .i64 s.why, .int .i64 s.taken, .int .i64 (n2 : Int), .int .i64 (n3 : Int)] 3) = W2 at *
  clear hW1 htq htr hdq hdr t1 t2 t3 t4 hti hdo
  have c1 := (hE2.drew.cell (p := ⟨w.heap.size, 0, none⟩) hlt).trans b1
  have c2 := (hE2.drew.cell (p := ⟨w.heap.size, 1, none⟩) hlt).trans b2
  have c3 := (hE2.drew.cell (p := ⟨w.heap.size, 3, none⟩) hlt).trans b3
  have hld := hlit.drew
  have hEd := hE2.drew
  clear hlit
  go_region_law (first
    | (refine step_app (w0 := W1) (by rfl) _ _ _ (by rfl) 3 i0 (.int .i64 0) 1 8 Try.underlying22 hi0 hz0 hz1 hz2 rfl (by omega) _ 9 (w.heap.size + 1) (iv (headS s)) (by rfl) hld hEd (by rw [hs1]; exact Nat.le_refl _) (by have := hEd.size; omega) a1 128 k1 (iv s.store) (by rfl) (by rw [iv_length, H1.out]) (from_ints (J1.out.ext (E1.comp hEd))) (iv_one _) (by unfold maxLen; omega) (by omega) ?_
       intro a' c' w4 hownA hEA _
       have c2A := (hEA.cell (p := ⟨w.heap.size, 1, none⟩) hlt).trans b2
       have c3A := (hEA.cell (p := ⟨w.heap.size, 3, none⟩) hlt).trans b3)
    | (refine step_app (w0 := W1) (by rfl) _ _ _ (by rfl) 3 i0 (.int .i64 0) 1 8 Try.underlying22 hi0 hz0 hz1 hz2 rfl (by omega) _ _ (w.heap.size + 1) _ (by rfl) hownA hEA (by rw [hs1]; exact Nat.le_refl _) (by have := hEA.size; omega) a2 n2 k2 (iv s.tape) (by rfl) (by rw [iv_length, H2.out]; omega) (from_ints (J2.out.ext (E1.comp hEA))) (iv_one _) (by unfold maxLen; omega) (by omega) ?_
       intro a'' c'' w5 hownB hEB _
       have c3B := (hEB.cell (p := ⟨w.heap.size, 3, none⟩) hlt).trans b3)
    | (refine step_app (w0 := W1) (by rfl) _ _ _ (by rfl) 3 i0 (.int .i64 0) 1 8 Try.underlying22 hi0 hz0 hz1 hz2 rfl (by omega) _ _ (w.heap.size + 1) _ (by rfl) hownB hEB (by rw [hs1]; exact Nat.le_refl _) (by have := hEB.size; omega) a3 n3 k3 (iv s.printed) (by rfl) (by rw [iv_length, H3.out]; omega) (from_ints (J3.out.ext (E1.comp hEB))) (iv_one _) (by unfold maxLen; omega) (by omega) ?_
       intro a3' c3' w6 hownC hEC _))
  all_goals
    have hf : w6.ownsRow w.heap.size 3 1 (.slice a3' (9 + 128 + n2 + n3) c3') (wordsS s).length (iv (wordsS s)) := by
      rw [HWL.out, HW.out]
      have := ownsRow_le hownC (Nat.le_succ _)
      rw [List.append_assoc, List.append_assoc] at this
      exact this
    have hEf := E1.comp hEC
    clear hownA hownB hownC hEA hEB hEC hld hEd
    go_wp2
    exact bodyPost_ret (v := .slice a3' (9 + 128 + n2 + n3) c3') (by simp [results, Try.results58, go_sem]) rfl ⟨_, rfl, hf, hEf⟩
end Go.Proofs.Ytnhpcoagkmgdoaa
/- Layer 10's reference: Dump. -/
namespace Go.Proofs.Ytnhpcoagkmgdoaa
open Go.RowKit Go.Q Go.Joins
set_option maxRecDepth 100000 in
set_option maxHeartbeats 4000000 in
theorem rdump_any (v : Value) (s : St) (w : World) (h : StAt w v s) (hb : StBd s) :
    Calls Try.prog 22 #[v] w (RowsRes (dumpE s) w) := by
  have hc := fun W (E : Ext w W) => rcheck_any v s W (h.ext E) hb
  obtain ⟨a1, a2, a3, k1, k2, k3, rfl, i1, i2, i3⟩ := h
  have hS : ∀ W, Ext w W → StAt W (sv a1 a2 a3 s.store.length k1 s.tape.length k2 s.printed.length k3 s.taken s.time s.at_ s.done s.why) s := fun W E => ⟨a1, a2, a3, k1, k2, k3, rfl, i1.ext E, i2.ext E, i3.ext E⟩
  have hv := fun e => @valid_of_check s e
  obtain ⟨r, hr⟩ : ∃ r, dumpE s = r := ⟨_, rfl⟩
  rw [hr]
  have HR := Lib.hid hr
  unfold dumpE at HR
  obtain ⟨⟨q1, q2, q3⟩, hq⟩ : ∃ q, checkQ s = q := ⟨_, rfl⟩
  rw [hq] at hc hv HR
  dsimp only at hv HR
  unfold v3 at hc
  dsimp only at hc
  clear hr hq
  by_cases h0 : q3 = 0
  · subst h0
    have hval := hv rfl
    rw [if_pos rfl] at HR
    have HRR := Lib.hid HR.out
    obtain ⟨hok, hwl⟩ := wordsS_ok hval
    obtain rfl : (tapeW (wordsS s), 0) = r := HRR.out
    have hwd := fun W (E : Ext w W) => words10_any _ s W (hS W E) hval
    have hl1 := hval.len
    have hl2 := hval.tlen
    have hl3 := hval.plen
    clear hS hv HR HRR hval i1 i2 i3
    obtain ⟨n1, hn1⟩ : ∃ n1, s.store.length = n1 := ⟨_, rfl⟩
    obtain ⟨n2, hn2⟩ : ∃ n2, s.tape.length = n2 := ⟨_, rfl⟩
    obtain ⟨n3, hn3⟩ : ∃ n3, s.printed.length = n3 := ⟨_, rfl⟩
    rw [hn1, hn2, hn3] at hc hwd
    rw [hn1, hn2, hn3]
    clear hn1 hn2 hn3 hl1 hl2 hl3
    have Hok := Lib.hid hok
    go_enter Try.func22, Try.ntmps22
    go_wp2_with fail
    refine (hc _ ((Ext.refl w).alloc _)).mono ?_
    rintro e w' ⟨rfl, E'⟩
    have hE1 := Ext.comp ((Ext.refl w).alloc _) E'
    have hlt : w.heap.size < w'.heap.size := by have := E'.size; simp at this; omega
    have c0 := fun i v (hv : (#[.slice a1 n1 k1, .slice a2 n2 k2, .int .i64 s.taken, .slice a3 n3 k3, .int .i64 s.time, .int .i64 s.at_, .int .i64 s.done, .int .i64 s.why] : Array Value)[i]? = some v) => box_at (w := w) (T := 33) E' i hv
    have d0 := c0 0 _ rfl
    have d1 := c0 1 _ rfl
    have d2 := c0 2 _ rfl
    have d3 := c0 3 _ rfl
    have d4 := c0 4 _ rfl
    have d5 := c0 5 _ rfl
    have d6 := c0 6 _ rfl
    have d7 := c0 7 _ rfl
    clear c0
    go_wp2_with fail
    refine (hwd _ hE1).mono ?_
    rintro e w2 ⟨v2, rfl, hown, E2⟩
    obtain ⟨aw, cw, rfl⟩ := own_form hown
    have htp := rtape_any aw (wordsS s).length cw (wordsS s) w2 rfl hwl (own_ints hown) Hok.out
    go_wp2_with fail
    refine htp.mono ?_
    rintro e w3 ⟨v3, rfl, hown3, E3⟩
    obtain ⟨a8, c8, rfl⟩ := own_formU hown3
    have hEf := (hE1.comp E2).comp E3
    have hcp := own_cap hown3
    have hby := own_bytes hown3
    clear hown hown3 htp hwd hc E2 E3 hE1 E' d0 d1 d2 d3 d4 d5 d6 d7
    go_wp2
    exact bodyPost_ret (v := .tuple #[.slice a8 (tapeW (wordsS s)).length c8, .int .i64 0]) (by simp [results, Try.results22, go_sem]) rfl ⟨a8, c8, rfl, hcp, hby, hEf⟩
  · rw [if_neg h0] at HR
    have HRR := Lib.hid HR.out
    obtain rfl : ([], q3) = r := HRR.out
    have h0z : (q3 != 0) = true := by simp; exact h0
    clear hv HR HRR hS i1 i2 i3
    obtain ⟨n1, hn1⟩ : ∃ n1, s.store.length = n1 := ⟨_, rfl⟩
    obtain ⟨n2, hn2⟩ : ∃ n2, s.tape.length = n2 := ⟨_, rfl⟩
    obtain ⟨n3, hn3⟩ : ∃ n3, s.printed.length = n3 := ⟨_, rfl⟩
    rw [hn1, hn2, hn3] at hc
    rw [hn1, hn2, hn3]
    clear hn1 hn2 hn3
    go_enter Try.func22, Try.ntmps22
    go_wp2_with fail
    refine (hc _ ((Ext.refl w).alloc _)).mono ?_
    rintro e w' ⟨rfl, E'⟩
    have hE1 := Ext.comp ((Ext.refl w).alloc _) E'
    go_wp2
    exact bodyPost_ret (v := .tuple #[.slice none 0 0, .int .i64 q3]) (by simp [results, Try.results22, go_sem]) rfl (rows_none hE1)
end Go.Proofs.Ytnhpcoagkmgdoaa
/- Layer 10's reference: Restart. -/
namespace Go.Q
open Go.RowKit
/-- where a part of a slice begins -/
def subA (a : Option Addr) (lo k : Nat) : Option Addr := if k = lo then a else a.map (·.add lo)
end Go.Q
namespace Go.Proofs.Ytnhpcoagkmgdoaa
open Go.RowKit Go.Q Go.Shelf Go.Maps Go.Joins
set_option maxHeartbeats 4000000
set_option maxRecDepth 100000
theorem zst_atC (w : World) : StAt w (.agg #[.slice none 0 0, .slice none 0 0, .int .i64 0, .slice none 0 0, .int .i64 0, .int .i64 0, .int .i64 0, .int .i64 0]) zst := ⟨none, none, none, 0, 0, 0, rfl, .inl rfl, .inl rfl, .inl rfl⟩
theorem slice_sub (W : World) (a : Option Addr) (n k1 lo hi : Nat) (h2 : lo ≤ hi) (h3 : hi ≤ k1) : (Instr.slice 22 (.slice a n k1) (some (.int .i64 (lo : Int))) (some (.int .i64 (hi : Int))) none).run Try.prog W = .ok (.slice (subA a lo k1) (hi - lo) (k1 - lo)) W := by
  have h := run_slice_lh (P := Try.prog) (w := W) 22 a n k1 (by rw [Try.underlying22]; kernel_rfl) .i64 .i64 (lo : Int) (hi : Int) (by omega) (by omega) (by omega)
  rw [h]
  have e : (sizeOf (Try.prog.elem 22)).run Try.prog W = .ok 1 W := by
    rw [show Try.prog.elem 22 = 3 by kernel_rfl]
    obtain ⟨i0, hi, _, hz1, _⟩ := info_parts Try.infoE
    simp [sizeOf, typeInfo, hi, hz1, go_sem]
  rw [e]
  show Result.ok (sliced _ _ _ _ 1) W = _
  unfold sliced subA
  rw [Int.toNat_natCast, Int.toNat_natCast, Nat.mul_one]
theorem slice_subFrom (W : World) (a : Option Addr) (n k1 lo : Nat) (h2 : lo ≤ n) : (Instr.slice 22 (.slice a n k1) (some (.int .i64 (lo : Int))) none none).run Try.prog W = .ok (.slice (subA a lo k1) (n - lo) (k1 - lo)) W := by
  have h := run_slice_l (P := Try.prog) (w := W) 22 a n k1 (by rw [Try.underlying22]; kernel_rfl) .i64 (lo : Int) (by omega) (by omega)
  rw [h]
  have e : (sizeOf (Try.prog.elem 22)).run Try.prog W = .ok 1 W := by
    rw [show Try.prog.elem 22 = 3 by kernel_rfl]
    obtain ⟨i0, hi, _, hz1, _⟩ := info_parts Try.infoE
    simp [sizeOf, typeInfo, hi, hz1, go_sem]
  rw [e]
  show Result.ok (sliced _ _ _ _ 1) W = _
  unfold sliced subA
  rw [Int.toNat_natCast, Nat.mul_one]
theorem sliceAt_of {W : World} {x : Value} {lo hi mx : Option Value} {r : Result Value} (h : (Instr.slice 22 x lo hi mx).run Try.prog W = r) : (Instr.sliceAt 22 x lo hi mx).run Try.prog W = r :=
  (run_sliceAt_slice (P := Try.prog) (w := W) 22 _ _ _ _ (by rw [Try.underlying22]; kernel_rfl)).trans h
theorem ints_subA {W : World} {a : Option Addr} {xs : List Int} {n k1 lo hi : Nat} (h : IntsAt W a xs) (hn : xs.length = n) (h2 : lo ≤ hi) (h3 : hi ≤ n) (h4 : n ≤ k1) : IntsAt W (subA a lo k1) ((xs.drop lo).take (hi - lo)) := by
  unfold subA
  by_cases hk : k1 = lo
  · left
    rw [show hi - lo = 0 by omega, List.take_zero]
  · rw [if_neg hk]
    rcases h with h | ⟨b, off, rfl, hb, hc⟩
    · left; rw [h]; simp
    · refine .inr ⟨b, off + lo, by simp [Addr.add], hb, fun i hi' => ?_⟩
      rw [List.length_take, List.length_drop] at hi'
      rw [Nat.add_assoc, hc (lo + i) (by omega), List.getElem?_take, if_pos (by omega), List.getElem?_drop]
theorem small_block {W : World} {b off n : Nat} {cs : Array Value} {T : TypeId} {xs : List Int} (hg : W.heap[b]? = some (.cells cs T (0, 0))) (hs : cs.size ≤ n) (hx : n < xs.length) : ¬ ∀ i, i < xs.length → W.cell? ⟨b, off + i, none⟩ = some (.int .i64 (xs[i]?.getD 0)) := by
  intro hc
  have h := hc n hx
  simp only [World.cell?, hg] at h
  have hn : cs[off + n]? = none := Array.getElem?_eq_none (by omega)
  simp [hn] at h
theorem stOf_len {N n7 n8 : Nat} {ws : List Int} (hn : ws.length = N) (h7 : wAt ws 7 = (n7 : Int)) (h8 : N = 137 + n7 + n8) : (stOf ws).store.length = 128 ∧ (stOf ws).tape.length = n7 ∧ (stOf ws).printed.length = n8 := by
  refine ⟨?_, ?_, ?_⟩
  · show ((ws.drop 9).take 128).length = 128; rw [List.length_take, List.length_drop]; omega
  · show ((ws.drop 137).take (wAt ws 7).toNat).length = n7; rw [List.length_take, List.length_drop, h7, Int.toNat_natCast]; omega
  · show (ws.drop (137 + (wAt ws 7).toNat)).length = n8; rw [List.length_drop, h7, Int.toNat_natCast]; omega
theorem stOf_at {W : World} {wa : Option Addr} {wc N n7 n8 : Nat} {ws : List Int} (h : IntsAt W wa ws) (hn : ws.length = N) (hc : N ≤ wc) (h7 : wAt ws 7 = (n7 : Int)) (h8 : N = 137 + n7 + n8) :
    StAt W (sv (subA wa 9 wc) (subA wa 137 wc) (subA wa (137 + n7) wc) 128 (wc - 9) n7 (wc - 137) n8 (wc - (137 + n7)) (wAt ws 6) (wAt ws 1 * 16777216 + wAt ws 0) (wAt ws 2) (wAt ws 4 * 16777216 + wAt ws 3) (wAt ws 5)) (stOf ws) := by
  have i1 := ints_subA h hn (lo := 9) (hi := 137) (by decide) (by omega) hc
  have i2 := ints_subA h hn (lo := 137) (hi := 137 + n7) (by omega) (by omega) hc
  have i3 := ints_subA h hn (lo := 137 + n7) (hi := N) (by omega) (Nat.le_refl _) hc
  have e3 : (ws.drop (137 + n7)).take (N - (137 + n7)) = ws.drop (137 + n7) := List.take_of_length_le (by rw [List.length_drop]; omega)
  rw [e3] at i3
  rw [show 137 + n7 - 137 = n7 by omega] at i2
  obtain ⟨l1, l2, l3⟩ := stOf_len hn h7 h8
  refine ⟨_, _, _, _, _, _, by rw [l1, l2, l3]; rfl, i1, ?_, ?_⟩
  · show IntsAt W _ ((ws.drop 137).take (wAt ws 7).toNat)
    rw [h7, Int.toNat_natCast]
    exact i2
  · show IntsAt W _ (ws.drop (137 + (wAt ws 7).toNat))
    rw [h7, Int.toNat_natCast]
    exact i3
theorem rrestart_any (a : Option Addr) (n c : Nat) (rs : List Nat) (w : World) (hn : rs.length = n) (hbig : n ≤ c ∧ c ≤ 9223372036854775807) (hI : BytesAt w a (natI rs)) (h256 : ∀ r ∈ rs, r < 256) :
    Calls Try.prog 24 #[.slice a n c] w (StRes (restartE rs) w) := by
  have hwo := read_words_ok rs
  have hrd := fun W (E : Ext w W) => rread_any a n c rs W hn hbig (hI.ext E) h256
  obtain ⟨⟨ws, mds, ix, er⟩, hre⟩ : ∃ v, readE rs = v := ⟨_, rfl⟩
  rw [hre] at hrd hwo
  dsimp only at hwo
  have hR : (w.alloc (.cells #[.slice none 0 0, .slice none 0 0, .int .i64 0, .slice none 0 0, .int .i64 0, .int .i64 0, .int .i64 0, .int .i64 0] 33)).heap[w.heap.size]? = some (.cells #[.slice none 0 0, .slice none 0 0, .int .i64 0, .slice none 0 0, .int .i64 0, .int .i64 0, .int .i64 0, .int .i64 0] 33 (0, 0)) := heap_alloc_new w _
  have E0 : Ext w (w.alloc (.cells #[.slice none 0 0, .slice none 0 0, .int .i64 0, .slice none 0 0, .int .i64 0, .int .i64 0, .int .i64 0, .int .i64 0] 33)) := (Ext.refl w).alloc _
  by_cases he : er = 0
  · subst he
    have HRE := Lib.hid hre
    have HWO := Lib.hid hwo
    clear hre hwo hI h256
    go_enter Try.func24, Try.ntmps24
    go_wp2_with fail
    refine (hrd _ E0).mono ?_
    rintro e w1 ⟨wa, wc, ma, mc, rfl, hwc, -, hIw, -, E1⟩
    dsimp only at hwc hIw ⊢
    clear hrd
    obtain ⟨N, hN⟩ : ∃ N, ws.length = N := ⟨_, rfl⟩
    rw [hN] at hwc ⊢
    have HN := Lib.hid hN
    clear hN
    have hR1 := (E1.block w.heap.size (lt_of_block hR)).trans hR
    by_cases hlen : N < 137
    · have hlz : (N : Int) < 137 := by omega
      have hv : restartE rs = (zst, 6) := restart_form HRE.out (form_short (by rw [HN.out]; exact hlen))
      have HV := Lib.hid hv
      clear hIw hv
      go_upto_region 5 with fail
      refine wp_region_Z (fun _ => false) (fun Y => Ext w1 Y) (by kernel_rfl) (Ext.refl w1).drew fun hSX => ?_
      refine tk 0 ⟨_, _, _, _, _, _⟩ ?_ rfl (by kernel_rfl) (fun _ _ _ h => h) (Or.inl ⟨by rfl, ?_⟩) hSX ?_
      rotate_left
      · intro wX hS
        go_simp
        (try with_reducible rfl)
      (try simp only [Act.put, List.setIfInBounds_toArray, List.set_cons_zero, List.set_cons_succ])
      refine tk 1 ⟨_, _, _, _, _, _⟩ ?_ rfl (by kernel_rfl) (fun _ _ _ h => h) (Or.inl ⟨by rfl, ?_⟩) hSX ?_
      rotate_left
      · intro wX hS
        go_simp
        (try with_reducible rfl)
      (try simp only [Act.put, List.setIfInBounds_toArray, List.set_cons_zero, List.set_cons_succ])
      refine tk 2 ⟨_, _, _, _, _, _⟩ ?_ rfl (by kernel_rfl) (fun _ _ _ h => h) (Or.inl ⟨by rfl, ?_⟩) hSX ?_
      rotate_left
      · intro wX hS
        go_simp
        (try with_reducible rfl)
      (try simp only [Act.put, List.setIfInBounds_toArray, List.set_cons_zero, List.set_cons_succ])
      refine tk 3 ⟨_, _, _, _, _, _⟩ ?_ rfl (by kernel_rfl) (fun _ _ _ h => h) (Or.inl ⟨by rfl, ?_⟩) hSX ?_
      rotate_left
      · intro wX hS
        go_simp
        (try with_reducible rfl)
      (try simp only [Act.put, List.setIfInBounds_toArray, List.set_cons_zero, List.set_cons_succ])
      refine tk 4 ⟨_, _, _, _, _, _⟩ ?_ rfl (by kernel_rfl) (fun _ _ _ h => h) (Or.inl ⟨by rfl, ?_⟩) hSX ?_
      rotate_left
      · intro wX hS
        go_simp
        (try with_reducible rfl)
      (try simp only [Act.put, List.setIfInBounds_toArray, List.set_cons_zero, List.set_cons_succ])
      refine tk 5 ⟨_, _, _, _, _, _⟩ undef rfl (by kernel_rfl) (fun _ _ _ h => h) (Or.inr ⟨by rfl, rfl⟩) hSX ?_
      (try simp only [Act.put, List.setIfInBounds_toArray, List.set_cons_zero, List.set_cons_succ])
      refine tk 6 ⟨_, _, _, _, _, _⟩ undef rfl (by kernel_rfl) (fun _ _ _ h => h) (Or.inr ⟨by rfl, rfl⟩) hSX ?_
      (try simp only [Act.put, List.setIfInBounds_toArray, List.set_cons_zero, List.set_cons_succ])
      refine tk 7 ⟨_, _, _, _, _, _⟩ undef rfl (by kernel_rfl) (fun _ _ _ h => h) (Or.inr ⟨by rfl, rfl⟩) hSX ?_
      (try simp only [Act.put, List.setIfInBounds_toArray, List.set_cons_zero, List.set_cons_succ])
      refine tk 8 ⟨_, _, _, _, _, _⟩ undef rfl (by kernel_rfl) (fun _ _ _ h => h) (Or.inr ⟨by rfl, rfl⟩) hSX ?_
      (try simp only [Act.put, List.setIfInBounds_toArray, List.set_cons_zero, List.set_cons_succ])
      refine tk 9 ⟨_, _, _, _, _, _⟩ undef rfl (by kernel_rfl) (fun _ _ _ h => h) (Or.inr ⟨by rfl, rfl⟩) hSX ?_
      (try simp only [Act.put, List.setIfInBounds_toArray, List.set_cons_zero, List.set_cons_succ])
      refine tk 10 ⟨_, _, _, _, _, _⟩ undef rfl (by kernel_rfl) (fun _ _ _ h => h) (Or.inr ⟨by rfl, rfl⟩) hSX ?_
      (try simp only [Act.put, List.setIfInBounds_toArray, List.set_cons_zero, List.set_cons_succ])
      refine tk 11 ⟨_, _, _, _, _, _⟩ undef rfl (by kernel_rfl) (fun _ _ _ h => h) (Or.inr ⟨by rfl, rfl⟩) hSX ?_
      (try simp only [Act.put, List.setIfInBounds_toArray, List.set_cons_zero, List.set_cons_succ])
      refine tk 12 ⟨_, _, _, _, _, _⟩ undef rfl (by kernel_rfl) (fun _ _ _ h => h) (Or.inr ⟨by rfl, rfl⟩) hSX ?_
      (try simp only [Act.put, List.setIfInBounds_toArray, List.set_cons_zero, List.set_cons_succ])
      refine tk 13 ⟨_, _, _, _, _, _⟩ undef rfl (by kernel_rfl) (fun _ _ _ h => h) (Or.inr ⟨by rfl, rfl⟩) hSX ?_
      (try simp only [Act.put, List.setIfInBounds_toArray, List.set_cons_zero, List.set_cons_succ])
      refine tk 14 ⟨_, _, _, _, _, _⟩ undef rfl (by kernel_rfl) (fun _ _ _ h => h) (Or.inr ⟨by rfl, rfl⟩) hSX ?_
      (try simp only [Act.put, List.setIfInBounds_toArray, List.set_cons_zero, List.set_cons_succ])
      refine tk 15 ⟨_, _, _, _, _, _⟩ undef rfl (by kernel_rfl) (fun _ _ _ h => h) (Or.inr ⟨by rfl, rfl⟩) hSX ?_
      (try simp only [Act.put, List.setIfInBounds_toArray, List.set_cons_zero, List.set_cons_succ])
      refine tk 16 ⟨_, _, _, _, _, _⟩ undef rfl (by kernel_rfl) (fun _ _ _ h => h) (Or.inr ⟨by rfl, rfl⟩) hSX ?_
      (try simp only [Act.put, List.setIfInBounds_toArray, List.set_cons_zero, List.set_cons_succ])
      refine tk 17 ⟨_, _, _, _, _, _⟩ ?_ rfl (by kernel_rfl) (fun _ _ _ h => h) (Or.inl ⟨by rfl, ?_⟩) hSX ?_
      rotate_left
      · intro wX hS
        go_simp
        (try with_reducible rfl)
      (try simp only [Act.put, List.setIfInBounds_toArray, List.set_cons_zero, List.set_cons_succ])
      refine wpAnyZ_done (by kernel_rfl) ?_ _
      have hR2 := ((Ext.refl w1).drew.block w.heap.size (lt_of_block hR1)).trans hR1
      have q0 := blk_cell hR1 0 (v := .slice none 0 0) rfl
      have q1 := blk_cell hR1 1 (v := .slice none 0 0) rfl
      have q2 := blk_cell hR1 2 (v := .int .i64 0) rfl
      have q3 := blk_cell hR1 3 (v := .slice none 0 0) rfl
      have q4 := blk_cell hR1 4 (v := .int .i64 0) rfl
      have q5 := blk_cell hR1 5 (v := .int .i64 0) rfl
      have q6 := blk_cell hR1 6 (v := .int .i64 0) rfl
      have q7 := blk_cell hR1 7 (v := .int .i64 0) rfl
      have f0 := blk_free hR1 0
      have f1 := blk_free hR1 1
      have f2 := blk_free hR1 2
      have f3 := blk_free hR1 3
      have f4 := blk_free hR1 4
      have f5 := blk_free hR1 5
      have f6 := blk_free hR1 6
      have f7 := blk_free hR1 7
      go_wp2_with fail
      refine bodyPost_ret (v := .tuple #[.agg #[.slice none 0 0, .slice none 0 0, .int .i64 0, .slice none 0 0, .int .i64 0, .int .i64 0, .int .i64 0, .int .i64 0], .int .i64 6]) (by simp [results, Try.results24, go_sem, q0, q1, q2, q3, q4, q5, q6, q7]) rfl ?_
      have KR := s8_kp (M := fun q => q = w.heap.size) (w := w1) (b := w.heap.size) (n0 := .slice none 0 0) (n1 := .slice none 0 0) (n2 := .int .i64 0) (n3 := .slice none 0 0) (n4 := .int .i64 0) (n5 := .int .i64 0) (n6 := .int .i64 0) (n7 := .int .i64 0) rfl
      rw [HV.out]
      exact ⟨_, rfl, zst_atC _, Below.drew (Ext.below5 (E0.comp E1) KR (fun b hb => by omega))⟩
    · obtain ⟨wb, wo, rfl, hwb, hwcl⟩ : ∃ b off, wa = some ⟨b, off, none⟩ ∧ b < w1.heap.size ∧ ∀ i, i < N → w1.cell? ⟨b, off + i, none⟩ = some (.int .i64 (wAt ws i)) := by
        rcases hIw with h | ⟨b, off, ha, hb, hc⟩
        · have := HN.out; rw [h] at this; simp at this; omega
        · exact ⟨b, off, ha, hb, fun i hi => hc i (by rw [HN.out]; exact hi)⟩
      have hne : wb ≠ w.heap.size := fun e => by
        subst e
        exact small_block hR1 (n := 8) (xs := ws) (off := wo) (by simp) (by rw [HN.out]; omega) (fun i hi => hwcl i (by rw [HN.out] at hi; exact hi))
      have hlz : ¬ (N : Int) < 137 := by omega
      have hbw : ∀ i : Nat, 0 ≤ wAt ws i ∧ wAt ws i ≤ 16777215 := fun i => by
        unfold wAt
        rcases Nat.lt_or_ge i ws.length with h | h
        · rw [List.getElem?_eq_getElem h]; exact HWO.out _ (List.getElem_mem h)
        · rw [List.getElem?_eq_none h]; simp
      obtain ⟨n7, h7⟩ := Int.eq_ofNat_of_zero_le (hbw 7).1
      obtain ⟨n8, h8⟩ := Int.eq_ofNat_of_zero_le (hbw 8).1
      have b7 := (hbw 7).2
      have b8 := (hbw 8).2
      have HX := Lib.hid (fun i (hi : i < N) Y (E : Ext w1 Y) => (E.cell (p := ⟨wb, wo + i, none⟩) hwb).trans (hwcl i hi))
      have HQ : Hid (∀ Y : World, Ext w1 Y → Y.cell? ⟨wb, wo, none⟩ = some (.int .i64 (wAt ws 0)) ∧ Y.cell? ⟨wb, wo + 1, none⟩ = some (.int .i64 (wAt ws 1)) ∧ Y.cell? ⟨wb, wo + 2, none⟩ = some (.int .i64 (wAt ws 2)) ∧ Y.cell? ⟨wb, wo + 3, none⟩ = some (.int .i64 (wAt ws 3)) ∧ Y.cell? ⟨wb, wo + 4, none⟩ = some (.int .i64 (wAt ws 4)) ∧ Y.cell? ⟨wb, wo + 5, none⟩ = some (.int .i64 (wAt ws 5)) ∧ Y.cell? ⟨wb, wo + 6, none⟩ = some (.int .i64 (wAt ws 6)) ∧ Y.cell? ⟨wb, wo + 7, none⟩ = some (.int .i64 (n7 : Int)) ∧ Y.cell? ⟨wb, wo + 8, none⟩ = some (.int .i64 (n8 : Int))) := Lib.hid (fun Y E => ⟨HX.out 0 (by omega) Y E, HX.out 1 (by omega) Y E, HX.out 2 (by omega) Y E, HX.out 3 (by omega) Y E, HX.out 4 (by omega) Y E, HX.out 5 (by omega) Y E, HX.out 6 (by omega) Y E, by rw [← h7]; exact HX.out 7 (by omega) Y E, by rw [← h8]; exact HX.out 8 (by omega) Y E⟩)
      have HIW := Lib.hid hIw
      have HBW := Lib.hid hbw
      have H78 := Lib.hid (And.intro h7 h8)
      rw [h7] at b7
      rw [h8] at b8
      have u1 : IntKind.i64.wrap (137 + (n7 : Int)) = 137 + (n7 : Int) := IntWalk.i64_in _ (by omega)
      have u2 : IntKind.i64.wrap (137 + (n7 : Int) + (n8 : Int)) = 137 + (n7 : Int) + (n8 : Int) := IntWalk.i64_in _ (by omega)
      clear HX hwcl hIw hbw h7 h8
      by_cases hsum : N = 137 + n7 + n8
      · have e1 : ((N : Int) != 137 + (n7 : Int) + (n8 : Int)) = false := by simp; omega
        have m7 : (7 : Int) < (N : Int) := by omega
        have m8 : (8 : Int) < (N : Int) := by omega
        have HSUM := Lib.hid hsum
        have hfo := form_check (ws := ws) (by rw [HN.out]; omega) (by rw [HN.out, H78.out.1, H78.out.2]; omega)
        have HF := Lib.hid hfo
        clear hfo hsum
        go_upto_region 5 with fail
        refine wp_region_Z (fun _ => false) (fun Y => Ext w1 Y) (by kernel_rfl) (Ext.refl w1).drew fun hSX => ?_
        refine tk 0 ⟨_, _, _, _, _, _⟩ ?_ rfl (by kernel_rfl) (fun _ _ _ h => h) (Or.inl ⟨by rfl, ?_⟩) hSX ?_
        rotate_left
        · intro wX hS
          obtain ⟨q0, q1, q2, q3, q4, q5, q6, q7, q8⟩ := HQ.out wX hS
          go_simp
          (try with_reducible rfl)
        (try simp only [Act.put, List.setIfInBounds_toArray, List.set_cons_zero, List.set_cons_succ])
        refine tk 1 ⟨_, _, _, _, _, _⟩ ?_ rfl (by kernel_rfl) (fun _ _ _ h => h) (Or.inl ⟨by rfl, ?_⟩) hSX ?_
        rotate_left
        · intro wX hS
          obtain ⟨q0, q1, q2, q3, q4, q5, q6, q7, q8⟩ := HQ.out wX hS
          go_simp
          (try with_reducible rfl)
        (try simp only [Act.put, List.setIfInBounds_toArray, List.set_cons_zero, List.set_cons_succ])
        refine tk 2 ⟨_, _, _, _, _, _⟩ ?_ rfl (by kernel_rfl) (fun _ _ _ h => h) (Or.inl ⟨by rfl, ?_⟩) hSX ?_
        rotate_left
        · intro wX hS
          obtain ⟨q0, q1, q2, q3, q4, q5, q6, q7, q8⟩ := HQ.out wX hS
          go_simp
          (try with_reducible rfl)
        (try simp only [Act.put, List.setIfInBounds_toArray, List.set_cons_zero, List.set_cons_succ])
        refine tk 3 ⟨_, _, _, _, _, _⟩ ?_ rfl (by kernel_rfl) (fun _ _ _ h => h) (Or.inl ⟨by rfl, ?_⟩) hSX ?_
        rotate_left
        · intro wX hS
          obtain ⟨q0, q1, q2, q3, q4, q5, q6, q7, q8⟩ := HQ.out wX hS
          go_simp
          (try with_reducible rfl)
        (try simp only [Act.put, List.setIfInBounds_toArray, List.set_cons_zero, List.set_cons_succ])
        refine tk 4 ⟨_, _, _, _, _, _⟩ ?_ rfl (by kernel_rfl) (fun _ _ _ h => h) (Or.inl ⟨by rfl, ?_⟩) hSX ?_
        rotate_left
        · intro wX hS
          obtain ⟨q0, q1, q2, q3, q4, q5, q6, q7, q8⟩ := HQ.out wX hS
          go_simp
          (try with_reducible rfl)
        (try simp only [Act.put, List.setIfInBounds_toArray, List.set_cons_zero, List.set_cons_succ])
        refine tk 5 ⟨_, _, _, _, _, _⟩ ?_ rfl (by kernel_rfl) (fun _ _ _ h => h) (Or.inl ⟨by rfl, ?_⟩) hSX ?_
        rotate_left
        · intro wX hS
          obtain ⟨q0, q1, q2, q3, q4, q5, q6, q7, q8⟩ := HQ.out wX hS
          go_simp
          (try with_reducible rfl)
        (try simp only [Act.put, List.setIfInBounds_toArray, List.set_cons_zero, List.set_cons_succ])
        refine tk 6 ⟨_, _, _, _, _, _⟩ ?_ rfl (by kernel_rfl) (fun _ _ _ h => h) (Or.inl ⟨by rfl, ?_⟩) hSX ?_
        rotate_left
        · intro wX hS
          obtain ⟨q0, q1, q2, q3, q4, q5, q6, q7, q8⟩ := HQ.out wX hS
          go_simp
          (try with_reducible rfl)
        (try simp only [Act.put, List.setIfInBounds_toArray, List.set_cons_zero, List.set_cons_succ])
        refine tk 7 ⟨_, _, _, _, _, _⟩ ?_ rfl (by kernel_rfl) (fun _ _ _ h => h) (Or.inl ⟨by rfl, ?_⟩) hSX ?_
        rotate_left
        · intro wX hS
          obtain ⟨q0, q1, q2, q3, q4, q5, q6, q7, q8⟩ := HQ.out wX hS
          go_simp
          (try with_reducible rfl)
        (try simp only [Act.put, List.setIfInBounds_toArray, List.set_cons_zero, List.set_cons_succ])
        refine tk 8 ⟨_, _, _, _, _, _⟩ ?_ rfl (by kernel_rfl) (fun _ _ _ h => h) (Or.inl ⟨by rfl, ?_⟩) hSX ?_
        rotate_left
        · intro wX hS
          obtain ⟨q0, q1, q2, q3, q4, q5, q6, q7, q8⟩ := HQ.out wX hS
          go_simp
          (try with_reducible rfl)
        (try simp only [Act.put, List.setIfInBounds_toArray, List.set_cons_zero, List.set_cons_succ])
        refine tk 9 ⟨_, _, _, _, _, _⟩ ?_ rfl (by kernel_rfl) (fun _ _ _ h => h) (Or.inl ⟨by rfl, ?_⟩) hSX ?_
        rotate_left
        · intro wX hS
          obtain ⟨q0, q1, q2, q3, q4, q5, q6, q7, q8⟩ := HQ.out wX hS
          go_simp
          (try with_reducible rfl)
        (try simp only [Act.put, List.setIfInBounds_toArray, List.set_cons_zero, List.set_cons_succ])
        refine tk 10 ⟨_, _, _, _, _, _⟩ ?_ rfl (by kernel_rfl) (fun _ _ _ h => h) (Or.inl ⟨by rfl, ?_⟩) hSX ?_
        rotate_left
        · intro wX hS
          obtain ⟨q0, q1, q2, q3, q4, q5, q6, q7, q8⟩ := HQ.out wX hS
          go_simp
          (try with_reducible rfl)
        (try simp only [Act.put, List.setIfInBounds_toArray, List.set_cons_zero, List.set_cons_succ])
        refine tk 11 ⟨_, _, _, _, _, _⟩ ?_ rfl (by kernel_rfl) (fun _ _ _ h => h) (Or.inl ⟨by rfl, ?_⟩) hSX ?_
        rotate_left
        · intro wX hS
          obtain ⟨q0, q1, q2, q3, q4, q5, q6, q7, q8⟩ := HQ.out wX hS
          go_simp
          (try with_reducible rfl)
        (try simp only [Act.put, List.setIfInBounds_toArray, List.set_cons_zero, List.set_cons_succ])
        refine tk 12 ⟨_, _, _, _, _, _⟩ ?_ rfl (by kernel_rfl) (fun _ _ _ h => h) (Or.inl ⟨by rfl, ?_⟩) hSX ?_
        rotate_left
        · intro wX hS
          obtain ⟨q0, q1, q2, q3, q4, q5, q6, q7, q8⟩ := HQ.out wX hS
          go_simp
          (try with_reducible rfl)
        (try simp only [Act.put, List.setIfInBounds_toArray, List.set_cons_zero, List.set_cons_succ])
        refine tk 13 ⟨_, _, _, _, _, _⟩ ?_ rfl (by kernel_rfl) (fun _ _ _ h => h) (Or.inl ⟨by rfl, ?_⟩) hSX ?_
        rotate_left
        · intro wX hS
          obtain ⟨q0, q1, q2, q3, q4, q5, q6, q7, q8⟩ := HQ.out wX hS
          go_simp
          (try with_reducible rfl)
        (try simp only [Act.put, List.setIfInBounds_toArray, List.set_cons_zero, List.set_cons_succ])
        refine tk 14 ⟨_, _, _, _, _, _⟩ ?_ rfl (by kernel_rfl) (fun _ _ _ h => h) (Or.inl ⟨by rfl, ?_⟩) hSX ?_
        rotate_left
        · intro wX hS
          obtain ⟨q0, q1, q2, q3, q4, q5, q6, q7, q8⟩ := HQ.out wX hS
          go_simp
          (try with_reducible rfl)
        (try simp only [Act.put, List.setIfInBounds_toArray, List.set_cons_zero, List.set_cons_succ])
        refine tk 15 ⟨_, _, _, _, _, _⟩ ?_ rfl (by kernel_rfl) (fun _ _ _ h => h) (Or.inl ⟨by rfl, ?_⟩) hSX ?_
        rotate_left
        · intro wX hS
          obtain ⟨q0, q1, q2, q3, q4, q5, q6, q7, q8⟩ := HQ.out wX hS
          go_simp
          (try with_reducible rfl)
        (try simp only [Act.put, List.setIfInBounds_toArray, List.set_cons_zero, List.set_cons_succ])
        refine tk 16 ⟨_, _, _, _, _, _⟩ ?_ rfl (by kernel_rfl) (fun _ _ _ h => h) (Or.inl ⟨by rfl, ?_⟩) hSX ?_
        rotate_left
        · intro wX hS
          obtain ⟨q0, q1, q2, q3, q4, q5, q6, q7, q8⟩ := HQ.out wX hS
          go_simp
          (try with_reducible rfl)
        (try simp only [Act.put, List.setIfInBounds_toArray, List.set_cons_zero, List.set_cons_succ])
        refine tk 17 ⟨_, _, _, _, _, _⟩ ?_ rfl (by kernel_rfl) (fun _ _ _ h => h) (Or.inl ⟨by rfl, ?_⟩) hSX ?_
        rotate_left
        · intro wX hS
          obtain ⟨q0, q1, q2, q3, q4, q5, q6, q7, q8⟩ := HQ.out wX hS
          go_simp
          (try with_reducible rfl)
        (try simp only [Act.put, List.setIfInBounds_toArray, List.set_cons_zero, List.set_cons_succ])
        refine wpAnyZ_done (by kernel_rfl) ?_ _
        have HR1 := Lib.hid hR1
        have HNE := Lib.hid hne
        have HEE := Lib.hid (E0.comp E1)
        have hg0 := HBW.out 0
        have hg1 := HBW.out 1
        have hg3 := HBW.out 3
        have hg4 := HBW.out 4
        have hSt := fun W (h : IntsAt W (some ⟨wb, wo, none⟩) ws) => stOf_at h HN.out hwc.1 H78.out.1 HSUM.out
        obtain ⟨x0, hx0⟩ : ∃ x0, wAt ws 0 = x0 := ⟨_, rfl⟩
        obtain ⟨x1, hx1⟩ : ∃ x1, wAt ws 1 = x1 := ⟨_, rfl⟩
        obtain ⟨x2, hx2⟩ : ∃ x2, wAt ws 2 = x2 := ⟨_, rfl⟩
        obtain ⟨x3, hx3⟩ : ∃ x3, wAt ws 3 = x3 := ⟨_, rfl⟩
        obtain ⟨x4, hx4⟩ : ∃ x4, wAt ws 4 = x4 := ⟨_, rfl⟩
        obtain ⟨x5, hx5⟩ : ∃ x5, wAt ws 5 = x5 := ⟨_, rfl⟩
        obtain ⟨x6, hx6⟩ : ∃ x6, wAt ws 6 = x6 := ⟨_, rfl⟩
        rw [hx0, hx1, hx2, hx3, hx4, hx5, hx6] at hSt HQ
        rw [hx0] at hg0
        rw [hx1] at hg1
        rw [hx3] at hg3
        rw [hx4] at hg4
        have m0 : 0 < N := by omega
        have m1 : (1 : Int) < (N : Int) := by omega
        have m2 : (2 : Int) < (N : Int) := by omega
        have m3 : (3 : Int) < (N : Int) := by omega
        have m4 : (4 : Int) < (N : Int) := by omega
        have m5 : (5 : Int) < (N : Int) := by omega
        have m6 : (6 : Int) < (N : Int) := by omega
        obtain ⟨tm, htm⟩ : ∃ tm, x1 * 16777216 + x0 = tm := ⟨_, rfl⟩
        obtain ⟨dn, hdn⟩ : ∃ dn, x4 * 16777216 + x3 = dn := ⟨_, rfl⟩
        rw [htm, hdn] at hSt
        obtain ⟨y1, hy1⟩ : ∃ y1, 16777216 * x1 = y1 := ⟨_, rfl⟩
        obtain ⟨y4, hy4⟩ : ∃ y4, 16777216 * x4 = y4 := ⟨_, rfl⟩
        have t1 : IntKind.i64.wrap (16777216 * x1) = y1 := by rw [hy1]; exact IntWalk.i64_in _ (by omega)
        have t2 : IntKind.i64.wrap (x0 + y1) = tm := by rw [show x0 + y1 = tm by omega]; exact IntWalk.i64_in _ (by omega)
        have t3 : IntKind.i64.wrap (16777216 * x4) = y4 := by rw [hy4]; exact IntWalk.i64_in _ (by omega)
        have t4 : IntKind.i64.wrap (x3 + y4) = dn := by rw [show x3 + y4 = dn by omega]; exact IntWalk.i64_in _ (by omega)
        obtain ⟨nh, hnh⟩ : ∃ nh, 137 + n7 = nh := ⟨_, rfl⟩
        have hnhN : nh ≤ N := by have := HSUM.out; omega
        have t5 : IntKind.i64.wrap (137 + (n7 : Int)) = (nh : Int) := by rw [show 137 + (n7 : Int) = (nh : Int) by omega]; exact IntWalk.i64_in _ (by omega)
        rw [hnh] at hSt
        obtain ⟨A1, hA1⟩ : ∃ A1, subA (some ⟨wb, wo, none⟩) 9 wc = A1 := ⟨_, rfl⟩
        obtain ⟨A2, hA2⟩ : ∃ A2, subA (some ⟨wb, wo, none⟩) 137 wc = A2 := ⟨_, rfl⟩
        obtain ⟨A3, hA3⟩ : ∃ A3, subA (some ⟨wb, wo, none⟩) nh wc = A3 := ⟨_, rfl⟩
        have s1 : ∀ W, (Instr.slice 22 (.slice (some ⟨wb, wo, none⟩) N wc) (some (.int .i64 9)) (some (.int .i64 137)) none).run Try.prog W = .ok (.slice A1 128 (wc - 9)) W := fun W => by rw [← hA1]; exact slice_sub W _ N wc 9 137 (by decide) (by omega)
        have s2 : ∀ W, (Instr.slice 22 (.slice (some ⟨wb, wo, none⟩) N wc) (some (.int .i64 137)) (some (.int .i64 (nh : Int))) none).run Try.prog W = .ok (.slice A2 n7 (wc - 137)) W := fun W => by
          have h := slice_sub W (some ⟨wb, wo, none⟩) N wc 137 nh (by omega) (by omega)
          rw [hA2, show nh - 137 = n7 by omega] at h
          exact h
        have s3 : ∀ W, (Instr.slice 22 (.slice (some ⟨wb, wo, none⟩) N wc) (some (.int .i64 (nh : Int))) none none).run Try.prog W = .ok (.slice A3 n8 (wc - nh)) W := fun W => by
          have h := slice_subFrom W (some ⟨wb, wo, none⟩) N wc nh hnhN
          rw [hA3, show N - nh = n8 by have := HSUM.out; omega] at h
          exact h
        have s4 := fun W => sliceAt_of (s1 W)
        have s5 := fun W => sliceAt_of (s2 W)
        have s6 := fun W => sliceAt_of (s3 W)
        rw [hA1, hA2, hA3] at hSt
        obtain ⟨C1, hC1⟩ : ∃ C1, wc - 9 = C1 := ⟨_, rfl⟩
        obtain ⟨C2, hC2⟩ : ∃ C2, wc - 137 = C2 := ⟨_, rfl⟩
        obtain ⟨C3, hC3⟩ : ∃ C3, wc - nh = C3 := ⟨_, rfl⟩
        rw [hC1] at s1 s4 hSt
        rw [hC2] at s2 s5 hSt
        rw [hC3] at s3 s6 hSt
        have HST := Lib.hid hSt
        clear hR1 hne hR E0 E1 u1 u2 hx0 hx1 hx2 hx3 hx4 hx5 hx6 htm hdn hy1 hy4 hnh hA1 hA2 hA3 hC1 hC2 hC3 hSt hg0 hg1 hg3 hg4
        go_upto_region 7 with fail
        have FX : Ext w1 w1.drew := (Ext.refl w1).drew
        obtain ⟨X7, hX7⟩ : ∃ X7, w1.drew = X7 := ⟨_, rfl⟩
        rw [hX7] at FX ⊢
        clear hX7 hSX
        refine wp_region_Z (fun _ => false) (fun Y => Ext w1 Y) (by kernel_rfl) FX.drew fun hSX => ?_
        refine tk 0 ⟨_, _, _, _, _, _⟩ ?_ rfl (by kernel_rfl) (fun _ _ _ h => h) (Or.inl ⟨by rfl, ?_⟩) hSX ?_
        rotate_left
        · intro wX hS
          obtain ⟨q0, q1, q2, q3, q4, q5, q6, q7, q8⟩ := HQ.out wX hS
          go_simp
          (try with_reducible rfl)
        (try simp only [Act.put, List.setIfInBounds_toArray, List.set_cons_zero, List.set_cons_succ])
        refine tk 1 ⟨_, _, _, _, _, _⟩ ?_ rfl (by kernel_rfl) (fun _ _ _ h => h) (Or.inl ⟨by rfl, ?_⟩) hSX ?_
        rotate_left
        · intro wX hS
          obtain ⟨q0, q1, q2, q3, q4, q5, q6, q7, q8⟩ := HQ.out wX hS
          go_simp
          (try with_reducible rfl)
        (try simp only [Act.put, List.setIfInBounds_toArray, List.set_cons_zero, List.set_cons_succ])
        refine tk 2 ⟨_, _, _, _, _, _⟩ ?_ rfl (by kernel_rfl) (fun _ _ _ h => h) (Or.inl ⟨by rfl, ?_⟩) hSX ?_
        rotate_left
        · intro wX hS
          obtain ⟨q0, q1, q2, q3, q4, q5, q6, q7, q8⟩ := HQ.out wX hS
          go_simp
          (try with_reducible rfl)
        (try simp only [Act.put, List.setIfInBounds_toArray, List.set_cons_zero, List.set_cons_succ])
        refine tk 3 ⟨_, _, _, _, _, _⟩ ?_ rfl (by kernel_rfl) (fun _ _ _ h => h) (Or.inl ⟨by rfl, ?_⟩) hSX ?_
        rotate_left
        · intro wX hS
          obtain ⟨q0, q1, q2, q3, q4, q5, q6, q7, q8⟩ := HQ.out wX hS
          go_simp
          (try with_reducible rfl)
        (try simp only [Act.put, List.setIfInBounds_toArray, List.set_cons_zero, List.set_cons_succ])
        refine tk 4 ⟨_, _, _, _, _, _⟩ ?_ rfl (by kernel_rfl) (fun _ _ _ h => h) (Or.inl ⟨by rfl, ?_⟩) hSX ?_
        rotate_left
        · intro wX hS
          obtain ⟨q0, q1, q2, q3, q4, q5, q6, q7, q8⟩ := HQ.out wX hS
          go_simp
          (try with_reducible rfl)
        (try simp only [Act.put, List.setIfInBounds_toArray, List.set_cons_zero, List.set_cons_succ])
        refine tk 5 ⟨_, _, _, _, _, _⟩ ?_ rfl (by kernel_rfl) (fun _ _ _ h => h) (Or.inl ⟨by rfl, ?_⟩) hSX ?_
        rotate_left
        · intro wX hS
          obtain ⟨q0, q1, q2, q3, q4, q5, q6, q7, q8⟩ := HQ.out wX hS
          go_simp
          (try with_reducible rfl)
        (try simp only [Act.put, List.setIfInBounds_toArray, List.set_cons_zero, List.set_cons_succ])
        refine tk 6 ⟨_, _, _, _, _, _⟩ ?_ rfl (by kernel_rfl) (fun _ _ _ h => h) (Or.inl ⟨by rfl, ?_⟩) hSX ?_
        rotate_left
        · intro wX hS
          obtain ⟨q0, q1, q2, q3, q4, q5, q6, q7, q8⟩ := HQ.out wX hS
          go_simp
          (try with_reducible rfl)
        (try simp only [Act.put, List.setIfInBounds_toArray, List.set_cons_zero, List.set_cons_succ])
        refine tk 7 ⟨_, _, _, _, _, _⟩ ?_ rfl (by kernel_rfl) (fun _ _ _ h => h) (Or.inl ⟨by rfl, ?_⟩) hSX ?_
        rotate_left
        · intro wX hS
          obtain ⟨q0, q1, q2, q3, q4, q5, q6, q7, q8⟩ := HQ.out wX hS
          go_simp
          (try with_reducible rfl)
        (try simp only [Act.put, List.setIfInBounds_toArray, List.set_cons_zero, List.set_cons_succ])
        refine tk 8 ⟨_, _, _, _, _, _⟩ ?_ rfl (by kernel_rfl) (fun _ _ _ h => h) (Or.inl ⟨by rfl, ?_⟩) hSX ?_
        rotate_left
        · intro wX hS
          obtain ⟨q0, q1, q2, q3, q4, q5, q6, q7, q8⟩ := HQ.out wX hS
          go_simp
          (try with_reducible rfl)
        (try simp only [Act.put, List.setIfInBounds_toArray, List.set_cons_zero, List.set_cons_succ])
        refine tk 9 ⟨_, _, _, _, _, _⟩ ?_ rfl (by kernel_rfl) (fun _ _ _ h => h) (Or.inl ⟨by rfl, ?_⟩) hSX ?_
        rotate_left
        · intro wX hS
          obtain ⟨q0, q1, q2, q3, q4, q5, q6, q7, q8⟩ := HQ.out wX hS
          go_simp
          (try with_reducible rfl)
        (try simp only [Act.put, List.setIfInBounds_toArray, List.set_cons_zero, List.set_cons_succ])
        refine tk 10 ⟨_, _, _, _, _, _⟩ ?_ rfl (by kernel_rfl) (fun _ _ _ h => h) (Or.inl ⟨by rfl, ?_⟩) hSX ?_
        rotate_left
        · intro wX hS
          obtain ⟨q0, q1, q2, q3, q4, q5, q6, q7, q8⟩ := HQ.out wX hS
          go_simp
          (try with_reducible rfl)
        (try simp only [Act.put, List.setIfInBounds_toArray, List.set_cons_zero, List.set_cons_succ])
        refine tk 11 ⟨_, _, _, _, _, _⟩ ?_ rfl (by kernel_rfl) (fun _ _ _ h => h) (Or.inl ⟨by rfl, ?_⟩) hSX ?_
        rotate_left
        · intro wX hS
          obtain ⟨q0, q1, q2, q3, q4, q5, q6, q7, q8⟩ := HQ.out wX hS
          go_simp
          (try with_reducible rfl)
        (try simp only [Act.put, List.setIfInBounds_toArray, List.set_cons_zero, List.set_cons_succ])
        refine tk 12 ⟨_, _, _, _, _, _⟩ ?_ rfl (by kernel_rfl) (fun _ _ _ h => h) (Or.inl ⟨by rfl, ?_⟩) hSX ?_
        rotate_left
        · intro wX hS
          obtain ⟨q0, q1, q2, q3, q4, q5, q6, q7, q8⟩ := HQ.out wX hS
          go_simp
          (try with_reducible rfl)
        (try simp only [Act.put, List.setIfInBounds_toArray, List.set_cons_zero, List.set_cons_succ])
        refine tk 13 ⟨_, _, _, _, _, _⟩ ?_ rfl (by kernel_rfl) (fun _ _ _ h => h) (Or.inl ⟨by rfl, ?_⟩) hSX ?_
        rotate_left
        · intro wX hS
          obtain ⟨q0, q1, q2, q3, q4, q5, q6, q7, q8⟩ := HQ.out wX hS
          go_simp
          (try with_reducible rfl)
        (try simp only [Act.put, List.setIfInBounds_toArray, List.set_cons_zero, List.set_cons_succ])
        refine tk 14 ⟨_, _, _, _, _, _⟩ ?_ rfl (by kernel_rfl) (fun _ _ _ h => h) (Or.inl ⟨by rfl, ?_⟩) hSX ?_
        rotate_left
        · intro wX hS
          obtain ⟨q0, q1, q2, q3, q4, q5, q6, q7, q8⟩ := HQ.out wX hS
          go_simp
          (try with_reducible rfl)
        (try simp only [Act.put, List.setIfInBounds_toArray, List.set_cons_zero, List.set_cons_succ])
        refine tk 15 ⟨_, _, _, _, _, _⟩ ?_ rfl (by kernel_rfl) (fun _ _ _ h => h) (Or.inl ⟨by rfl, ?_⟩) hSX ?_
        rotate_left
        · intro wX hS
          obtain ⟨q0, q1, q2, q3, q4, q5, q6, q7, q8⟩ := HQ.out wX hS
          go_simp
          (try with_reducible rfl)
        (try simp only [Act.put, List.setIfInBounds_toArray, List.set_cons_zero, List.set_cons_succ])
        refine tk 16 ⟨_, _, _, _, _, _⟩ ?_ rfl (by kernel_rfl) (fun _ _ _ h => h) (Or.inl ⟨by rfl, ?_⟩) hSX ?_
        rotate_left
        · intro wX hS
          obtain ⟨q0, q1, q2, q3, q4, q5, q6, q7, q8⟩ := HQ.out wX hS
          go_simp
          (try with_reducible rfl)
        (try simp only [Act.put, List.setIfInBounds_toArray, List.set_cons_zero, List.set_cons_succ])
        refine tk 17 ⟨_, _, _, _, _, _⟩ ?_ rfl (by kernel_rfl) (fun _ _ _ h => h) (Or.inl ⟨by rfl, ?_⟩) hSX ?_
        rotate_left
        · intro wX hS
          obtain ⟨q0, q1, q2, q3, q4, q5, q6, q7, q8⟩ := HQ.out wX hS
          go_simp
          (try with_reducible rfl)
        (try simp only [Act.put, List.setIfInBounds_toArray, List.set_cons_zero, List.set_cons_succ])
        refine tk 18 ⟨_, _, _, _, _, _⟩ ?_ rfl (by kernel_rfl) (fun _ _ _ h => h) (Or.inl ⟨by rfl, ?_⟩) hSX ?_
        rotate_left
        · intro wX hS
          obtain ⟨q0, q1, q2, q3, q4, q5, q6, q7, q8⟩ := HQ.out wX hS
          go_simp
          (try with_reducible rfl)
        (try simp only [Act.put, List.setIfInBounds_toArray, List.set_cons_zero, List.set_cons_succ])
        refine tk 19 ⟨_, _, _, _, _, _⟩ ?_ rfl (by kernel_rfl) (fun _ _ _ h => h) (Or.inl ⟨by rfl, ?_⟩) hSX ?_
        rotate_left
        · intro wX hS
          obtain ⟨q0, q1, q2, q3, q4, q5, q6, q7, q8⟩ := HQ.out wX hS
          go_simp
          (try with_reducible rfl)
        (try simp only [Act.put, List.setIfInBounds_toArray, List.set_cons_zero, List.set_cons_succ])
        refine tk 20 ⟨_, _, _, _, _, _⟩ ?_ rfl (by kernel_rfl) (fun _ _ _ h => h) (Or.inl ⟨by rfl, ?_⟩) hSX ?_
        rotate_left
        · intro wX hS
          obtain ⟨q0, q1, q2, q3, q4, q5, q6, q7, q8⟩ := HQ.out wX hS
          go_simp
          (try with_reducible rfl)
        (try simp only [Act.put, List.setIfInBounds_toArray, List.set_cons_zero, List.set_cons_succ])
        refine tk 21 ⟨_, _, _, _, _, _⟩ ?_ rfl (by kernel_rfl) (fun _ _ _ h => h) (Or.inl ⟨by rfl, ?_⟩) hSX ?_
        rotate_left
        · intro wX hS
          obtain ⟨q0, q1, q2, q3, q4, q5, q6, q7, q8⟩ := HQ.out wX hS
          go_simp
          (try with_reducible rfl)
        (try simp only [Act.put, List.setIfInBounds_toArray, List.set_cons_zero, List.set_cons_succ])
        refine tk 22 ⟨_, _, _, _, _, _⟩ ?_ rfl (by kernel_rfl) (fun _ _ _ h => h) (Or.inl ⟨by rfl, ?_⟩) hSX ?_
        rotate_left
        · intro wX hS
          obtain ⟨q0, q1, q2, q3, q4, q5, q6, q7, q8⟩ := HQ.out wX hS
          go_simp
          (try with_reducible rfl)
        (try simp only [Act.put, List.setIfInBounds_toArray, List.set_cons_zero, List.set_cons_succ])
        refine tk 23 ⟨_, _, _, _, _, _⟩ ?_ rfl (by kernel_rfl) (fun _ _ _ h => h) (Or.inl ⟨by rfl, ?_⟩) hSX ?_
        rotate_left
        · intro wX hS
          obtain ⟨q0, q1, q2, q3, q4, q5, q6, q7, q8⟩ := HQ.out wX hS
          go_simp
          (try with_reducible rfl)
        (try simp only [Act.put, List.setIfInBounds_toArray, List.set_cons_zero, List.set_cons_succ])
        refine tk 24 ⟨_, _, _, _, _, _⟩ ?_ rfl (by kernel_rfl) (fun _ _ _ h => h) (Or.inl ⟨by rfl, ?_⟩) hSX ?_
        rotate_left
        · intro wX hS
          obtain ⟨q0, q1, q2, q3, q4, q5, q6, q7, q8⟩ := HQ.out wX hS
          go_simp
          (try with_reducible rfl)
        (try simp only [Act.put, List.setIfInBounds_toArray, List.set_cons_zero, List.set_cons_succ])
        refine tk 25 ⟨_, _, _, _, _, _⟩ ?_ rfl (by kernel_rfl) (fun _ _ _ h => h) (Or.inl ⟨by rfl, ?_⟩) hSX ?_
        rotate_left
        · intro wX hS
          obtain ⟨q0, q1, q2, q3, q4, q5, q6, q7, q8⟩ := HQ.out wX hS
          go_simp
          (try with_reducible rfl)
        (try simp only [Act.put, List.setIfInBounds_toArray, List.set_cons_zero, List.set_cons_succ])
        refine wpAnyZ_one (i := 26) (o := ⟨_, _, _, _, _, _⟩) (by kernel_rfl) rfl (fun K hK => ?_)
        go_simp
        have gA : ((X7.alloc (.cells #[.slice none 0 0, .slice none 0 0, .int .i64 0, .slice none 0 0, .int .i64 0, .int .i64 0, .int .i64 0, .int .i64 0] 33)).drew).heap[X7.heap.size]? = _ := heap_alloc_new X7 (.cells #[.slice none 0 0, .slice none 0 0, .int .i64 0, .slice none 0 0, .int .i64 0, .int .i64 0, .int .i64 0, .int .i64 0] 33)
        have EA : Ext w1 ((X7.alloc (.cells #[.slice none 0 0, .slice none 0 0, .int .i64 0, .slice none 0 0, .int .i64 0, .int .i64 0, .int .i64 0, .int .i64 0] 33)).drew) := (FX.alloc _).drew
        have hDs0 : w1.heap.size ≤ X7.heap.size := FX.size
        refine hK _ _ (.inr EA) (fun _ => ?_)
        clear hK
        (try simp only [Act.put, List.setIfInBounds_toArray, List.set_cons_zero, List.set_cons_succ])
        obtain ⟨D, hD⟩ : ∃ D, X7.heap.size = D := ⟨_, rfl⟩
        obtain ⟨Y7, hY7⟩ : ∃ Y7, (X7.alloc (.cells #[.slice none 0 0, .slice none 0 0, .int .i64 0, .slice none 0 0, .int .i64 0, .int .i64 0, .int .i64 0, .int .i64 0] 33)).drew = Y7 := ⟨_, rfl⟩
        rw [hD, hY7] at gA
        rw [hY7] at EA
        have hDs : w1.heap.size ≤ D := by omega
        clear hDs0
        rw [hD, hY7]
        clear hY7 hD
        have z0 := blk_cell gA 0 (v := .slice none 0 0) rfl
        have z1 := blk_cell gA 1 (v := .slice none 0 0) rfl
        have z2 := blk_cell gA 2 (v := .int .i64 0) rfl
        have z3 := blk_cell gA 3 (v := .slice none 0 0) rfl
        have z4 := blk_cell gA 4 (v := .int .i64 0) rfl
        have z5 := blk_cell gA 5 (v := .int .i64 0) rfl
        have z6 := blk_cell gA 6 (v := .int .i64 0) rfl
        have z7 := blk_cell gA 7 (v := .int .i64 0) rfl
        have zf0 := blk_free gA 0
        have zf1 := blk_free gA 1
        have zf2 := blk_free gA 2
        have zf3 := blk_free gA 3
        have zf4 := blk_free gA 4
        have zf5 := blk_free gA 5
        have zf6 := blk_free gA 6
        have zf7 := blk_free gA 7
        refine wpAnyZ_one (i := 27) (o := ⟨_, _, _, _, _, _⟩) (by kernel_rfl) rfl (fun K hK => ?_)
        go_simp
        have ES := ext_set8 EA hDs (.slice none 0 0) (.slice none 0 0) (.int .i64 x6) (.slice none 0 0) (.int .i64 tm) (.int .i64 x2) (.int .i64 dn) (.int .i64 x5)
        have g2 := cells_set (cells_set (cells_set (cells_set (cells_set (cells_set (cells_set (cells_set gA 0 (.slice none 0 0)) 1 (.slice none 0 0)) 2 (.int .i64 x6)) 3 (.slice none 0 0)) 4 (.int .i64 tm)) 5 (.int .i64 x2)) 6 (.int .i64 dn)) 7 (.int .i64 x5)
        (try simp at g2)
        refine hK _ _ (.inr ES) (fun _ => ?_)
        clear hK
        (try simp only [Act.put, List.setIfInBounds_toArray, List.set_cons_zero, List.set_cons_succ])
        refine wpAnyZ_done (by kernel_rfl) ?_ _
        clear z0 zf0 z1 zf1 z2 zf2 z3 zf3 z4 zf4 z5 zf5 z6 zf6 z7 zf7 t1 t2 t3 t4
        generalize ((((((((Y7.setCell ⟨D, 0, none⟩ (.slice none 0 0)).setCell ⟨D, 1, none⟩ (.slice none 0 0)).setCell ⟨D, 2, none⟩ (.int .i64 x6)).setCell ⟨D, 3, none⟩ (.slice none 0 0)).setCell ⟨D, 4, none⟩ (.int .i64 tm)).setCell ⟨D, 5, none⟩ (.int .i64 x2)).setCell ⟨D, 6, none⟩ (.int .i64 dn)).setCell ⟨D, 7, none⟩ (.int .i64 x5)) = V at ES g2 ⊢
        clear EA gA FX hSX
        go_upto_region 8 with fail
        refine wp_region_Z (fun _ => false) (fun Y => Ext w1 Y) (by kernel_rfl) ES.drew fun hSX => ?_
        refine tk 0 ⟨_, _, _, _, _, _⟩ ?_ rfl (by kernel_rfl) (fun _ _ _ h => h) (Or.inl ⟨by rfl, ?_⟩) hSX ?_
        rotate_left
        · intro wX hS
          obtain ⟨q0, q1, q2, q3, q4, q5, q6, q7, q8⟩ := HQ.out wX hS
          go_simp
          (try with_reducible rfl)
        (try simp only [Act.put, List.setIfInBounds_toArray, List.set_cons_zero, List.set_cons_succ])
        refine tk 1 ⟨_, _, _, _, _, _⟩ ?_ rfl (by kernel_rfl) (fun _ _ _ h => h) (Or.inl ⟨by rfl, ?_⟩) hSX ?_
        rotate_left
        · intro wX hS
          obtain ⟨q0, q1, q2, q3, q4, q5, q6, q7, q8⟩ := HQ.out wX hS
          go_simp
          (try with_reducible rfl)
        (try simp only [Act.put, List.setIfInBounds_toArray, List.set_cons_zero, List.set_cons_succ])
        refine tk 2 ⟨_, _, _, _, _, _⟩ ?_ rfl (by kernel_rfl) (fun _ _ _ h => h) (Or.inl ⟨by rfl, ?_⟩) hSX ?_
        rotate_left
        · intro wX hS
          obtain ⟨q0, q1, q2, q3, q4, q5, q6, q7, q8⟩ := HQ.out wX hS
          go_simp
          (try with_reducible rfl)
        (try simp only [Act.put, List.setIfInBounds_toArray, List.set_cons_zero, List.set_cons_succ])
        refine tk 3 ⟨_, _, _, _, _, _⟩ ?_ rfl (by kernel_rfl) (fun _ _ _ h => h) (Or.inl ⟨by rfl, ?_⟩) hSX ?_
        rotate_left
        · intro wX hS
          obtain ⟨q0, q1, q2, q3, q4, q5, q6, q7, q8⟩ := HQ.out wX hS
          go_simp
          (try with_reducible rfl)
        (try simp only [Act.put, List.setIfInBounds_toArray, List.set_cons_zero, List.set_cons_succ])
        refine tk 4 ⟨_, _, _, _, _, _⟩ ?_ rfl (by kernel_rfl) (fun _ _ _ h => h) (Or.inl ⟨by rfl, ?_⟩) hSX ?_
        rotate_left
        · intro wX hS
          obtain ⟨q0, q1, q2, q3, q4, q5, q6, q7, q8⟩ := HQ.out wX hS
          go_simp
          (try with_reducible rfl)
        (try simp only [Act.put, List.setIfInBounds_toArray, List.set_cons_zero, List.set_cons_succ])
        refine tk 5 ⟨_, _, _, _, _, _⟩ ?_ rfl (by kernel_rfl) (fun _ _ _ h => h) (Or.inl ⟨by rfl, ?_⟩) hSX ?_
        rotate_left
        · intro wX hS
          obtain ⟨q0, q1, q2, q3, q4, q5, q6, q7, q8⟩ := HQ.out wX hS
          go_simp
          (try with_reducible rfl)
        (try simp only [Act.put, List.setIfInBounds_toArray, List.set_cons_zero, List.set_cons_succ])
        refine tk 6 ⟨_, _, _, _, _, _⟩ ?_ rfl (by kernel_rfl) (fun _ _ _ h => h) (Or.inl ⟨by rfl, ?_⟩) hSX ?_
        rotate_left
        · intro wX hS
          obtain ⟨q0, q1, q2, q3, q4, q5, q6, q7, q8⟩ := HQ.out wX hS
          go_simp
          (try with_reducible rfl)
        (try simp only [Act.put, List.setIfInBounds_toArray, List.set_cons_zero, List.set_cons_succ])
        refine tk 7 ⟨_, _, _, _, _, _⟩ ?_ rfl (by kernel_rfl) (fun _ _ _ h => h) (Or.inl ⟨by rfl, ?_⟩) hSX ?_
        rotate_left
        · intro wX hS
          obtain ⟨q0, q1, q2, q3, q4, q5, q6, q7, q8⟩ := HQ.out wX hS
          go_simp
          (try with_reducible rfl)
        (try simp only [Act.put, List.setIfInBounds_toArray, List.set_cons_zero, List.set_cons_succ])
        refine tk 8 ⟨_, _, _, _, _, _⟩ ?_ rfl (by kernel_rfl) (fun _ _ _ h => h) (Or.inl ⟨by rfl, ?_⟩) hSX ?_
        rotate_left
        · intro wX hS
          obtain ⟨q0, q1, q2, q3, q4, q5, q6, q7, q8⟩ := HQ.out wX hS
          go_simp
          (try with_reducible rfl)
        (try simp only [Act.put, List.setIfInBounds_toArray, List.set_cons_zero, List.set_cons_succ])
        refine tk 9 ⟨_, _, _, _, _, _⟩ ?_ rfl (by kernel_rfl) (fun _ _ _ h => h) (Or.inl ⟨by rfl, ?_⟩) hSX ?_
        rotate_left
        · intro wX hS
          obtain ⟨q0, q1, q2, q3, q4, q5, q6, q7, q8⟩ := HQ.out wX hS
          go_simp
          (try with_reducible rfl)
        (try simp only [Act.put, List.setIfInBounds_toArray, List.set_cons_zero, List.set_cons_succ])
        refine tk 10 ⟨_, _, _, _, _, _⟩ ?_ rfl (by kernel_rfl) (fun _ _ _ h => h) (Or.inl ⟨by rfl, ?_⟩) hSX ?_
        rotate_left
        · intro wX hS
          obtain ⟨q0, q1, q2, q3, q4, q5, q6, q7, q8⟩ := HQ.out wX hS
          go_simp
          (try with_reducible rfl)
        (try simp only [Act.put, List.setIfInBounds_toArray, List.set_cons_zero, List.set_cons_succ])
        refine tk 11 ⟨_, _, _, _, _, _⟩ ?_ rfl (by kernel_rfl) (fun _ _ _ h => h) (Or.inl ⟨by rfl, ?_⟩) hSX ?_
        rotate_left
        · intro wX hS
          obtain ⟨q0, q1, q2, q3, q4, q5, q6, q7, q8⟩ := HQ.out wX hS
          go_simp
          (try with_reducible rfl)
        (try simp only [Act.put, List.setIfInBounds_toArray, List.set_cons_zero, List.set_cons_succ])
        refine tk 12 ⟨_, _, _, _, _, _⟩ ?_ rfl (by kernel_rfl) (fun _ _ _ h => h) (Or.inl ⟨by rfl, ?_⟩) hSX ?_
        rotate_left
        · intro wX hS
          obtain ⟨q0, q1, q2, q3, q4, q5, q6, q7, q8⟩ := HQ.out wX hS
          go_simp
          (try with_reducible rfl)
        (try simp only [Act.put, List.setIfInBounds_toArray, List.set_cons_zero, List.set_cons_succ])
        refine tk 13 ⟨_, _, _, _, _, _⟩ ?_ rfl (by kernel_rfl) (fun _ _ _ h => h) (Or.inl ⟨by rfl, ?_⟩) hSX ?_
        rotate_left
        · intro wX hS
          obtain ⟨q0, q1, q2, q3, q4, q5, q6, q7, q8⟩ := HQ.out wX hS
          go_simp
          (try with_reducible rfl)
        (try simp only [Act.put, List.setIfInBounds_toArray, List.set_cons_zero, List.set_cons_succ])
        refine tk 14 ⟨_, _, _, _, _, _⟩ ?_ rfl (by kernel_rfl) (fun _ _ _ h => h) (Or.inl ⟨by rfl, ?_⟩) hSX ?_
        rotate_left
        · intro wX hS
          obtain ⟨q0, q1, q2, q3, q4, q5, q6, q7, q8⟩ := HQ.out wX hS
          go_simp
          (try with_reducible rfl)
        (try simp only [Act.put, List.setIfInBounds_toArray, List.set_cons_zero, List.set_cons_succ])
        refine tk 15 ⟨_, _, _, _, _, _⟩ ?_ rfl (by kernel_rfl) (fun _ _ _ h => h) (Or.inl ⟨by rfl, ?_⟩) hSX ?_
        rotate_left
        · intro wX hS
          obtain ⟨q0, q1, q2, q3, q4, q5, q6, q7, q8⟩ := HQ.out wX hS
          go_simp
          (try with_reducible rfl)
        (try simp only [Act.put, List.setIfInBounds_toArray, List.set_cons_zero, List.set_cons_succ])
        refine tk 16 ⟨_, _, _, _, _, _⟩ ?_ rfl (by kernel_rfl) (fun _ _ _ h => h) (Or.inl ⟨by rfl, ?_⟩) hSX ?_
        rotate_left
        · intro wX hS
          obtain ⟨q0, q1, q2, q3, q4, q5, q6, q7, q8⟩ := HQ.out wX hS
          go_simp
          (try with_reducible rfl)
        (try simp only [Act.put, List.setIfInBounds_toArray, List.set_cons_zero, List.set_cons_succ])
        refine tk 17 ⟨_, _, _, _, _, _⟩ ?_ rfl (by kernel_rfl) (fun _ _ _ h => h) (Or.inl ⟨by rfl, ?_⟩) hSX ?_
        rotate_left
        · intro wX hS
          obtain ⟨q0, q1, q2, q3, q4, q5, q6, q7, q8⟩ := HQ.out wX hS
          go_simp
          (try with_reducible rfl)
        (try simp only [Act.put, List.setIfInBounds_toArray, List.set_cons_zero, List.set_cons_succ])
        refine tk 18 ⟨_, _, _, _, _, _⟩ ?_ rfl (by kernel_rfl) (fun _ _ _ h => h) (Or.inl ⟨by rfl, ?_⟩) hSX ?_
        rotate_left
        · intro wX hS
          obtain ⟨q0, q1, q2, q3, q4, q5, q6, q7, q8⟩ := HQ.out wX hS
          go_simp
          (try with_reducible rfl)
        (try simp only [Act.put, List.setIfInBounds_toArray, List.set_cons_zero, List.set_cons_succ])
        have c0 := blk_cell g2 0 (v := .slice none 0 0) rfl
        have f0 := blk_free g2 0
        have c1 := blk_cell g2 1 (v := .slice none 0 0) rfl
        have f1 := blk_free g2 1
        have c2 := blk_cell g2 3 (v := .slice none 0 0) rfl
        have f2 := blk_free g2 3
        refine wpAnyZ_one (i := 19) (o := ⟨_, _, _, _, _, _⟩) (by kernel_rfl) rfl (fun K hK => ?_)
        go_simp
        have e0 : Ext w1 (V.setCell ⟨D, 0, none⟩ (.slice A1 128 C1)) := (ES).setCell (p := ⟨D, 0, none⟩) hDs _
        have gD1 := cells_set g2 0 (.slice A1 128 C1)
        (try simp at gD1)
        refine hK _ _ (.inr e0.drew) (fun _ => ?_)
        clear hK
        (try simp only [Act.put, List.setIfInBounds_toArray, List.set_cons_zero, List.set_cons_succ])
        refine tk 20 ⟨_, _, _, _, _, _⟩ ?_ rfl (by kernel_rfl) (fun _ _ _ h => h) (Or.inl ⟨by rfl, ?_⟩) e0.drew ?_
        rotate_left
        · intro wX hS
          go_simp
          (try with_reducible rfl)
        (try simp only [Act.put, List.setIfInBounds_toArray, List.set_cons_zero, List.set_cons_succ])
        refine wpAnyZ_one (i := 21) (o := ⟨_, _, _, _, _, _⟩) (by kernel_rfl) rfl (fun K hK => ?_)
        go_simp
        have e1 : Ext w1 ((V.setCell ⟨D, 0, none⟩ (.slice A1 128 C1)).setCell ⟨D, 1, none⟩ (.slice A2 n7 C2)) := (e0).setCell (p := ⟨D, 1, none⟩) hDs _
        have gD2 := cells_set gD1 1 (.slice A2 n7 C2)
        (try simp at gD2)
        refine hK _ _ (.inr e1.drew) (fun _ => ?_)
        clear hK
        (try simp only [Act.put, List.setIfInBounds_toArray, List.set_cons_zero, List.set_cons_succ])
        refine tk 22 ⟨_, _, _, _, _, _⟩ ?_ rfl (by kernel_rfl) (fun _ _ _ h => h) (Or.inl ⟨by rfl, ?_⟩) e1.drew ?_
        rotate_left
        · intro wX hS
          go_simp
          (try with_reducible rfl)
        (try simp only [Act.put, List.setIfInBounds_toArray, List.set_cons_zero, List.set_cons_succ])
        refine wpAnyZ_one (i := 23) (o := ⟨_, _, _, _, _, _⟩) (by kernel_rfl) rfl (fun K hK => ?_)
        go_simp
        have e2 : Ext w1 (((V.setCell ⟨D, 0, none⟩ (.slice A1 128 C1)).setCell ⟨D, 1, none⟩ (.slice A2 n7 C2)).setCell ⟨D, 3, none⟩ (.slice A3 n8 C3)) := (e1).setCell (p := ⟨D, 3, none⟩) hDs _
        have gD3 := cells_set gD2 3 (.slice A3 n8 C3)
        (try simp at gD3)
        refine hK _ _ (.inr e2.drew) (fun _ => ?_)
        clear hK
        (try simp only [Act.put, List.setIfInBounds_toArray, List.set_cons_zero, List.set_cons_succ])
        refine wpAnyZ_done (by kernel_rfl) ?_ _
        clear c0 c1 c2 f0 f1 f2 s1 s2 s3 s4 s5 s6
        generalize (((V.setCell ⟨D, 0, none⟩ (.slice A1 128 C1)).setCell ⟨D, 1, none⟩ (.slice A2 n7 C2)).setCell ⟨D, 3, none⟩ (.slice A3 n8 C3)) = V2 at e2 gD3 ⊢
        clear e0 e1 gD1 gD2 g2 ES hSX
        obtain ⟨V3, hV3⟩ : ∃ V3, V2.drew = V3 := ⟨_, rfl⟩
        have e3 : Ext w1 V3 := by rw [← hV3]; exact e2.drew
        have gD : V3.heap[D]? = some (.cells #[.slice A1 128 C1, .slice A2 n7 C2, .int .i64 x6, .slice A3 n8 C3, .int .i64 tm, .int .i64 x2, .int .i64 dn, .int .i64 x5] 33 (0, 0)) := by rw [← hV3]; exact gD3
        rw [hV3]
        clear hV3 e2 gD3
        have hS3 := HST.out V3 (HIW.out.ext e3)
        have hBd : StBd (stOf ws) := by
          obtain ⟨l1, l2, l3⟩ := stOf_len HN.out H78.out.1 HSUM.out
          exact ⟨by rw [l1]; decide, by rw [l2]; have := HSUM.out; omega, by rw [l3]; have := HSUM.out; omega⟩
        have q0 := blk_cell gD 0 (v := .slice A1 128 C1) rfl
        have q1 := blk_cell gD 1 (v := .slice A2 n7 C2) rfl
        have q2 := blk_cell gD 2 (v := .int .i64 x6) rfl
        have q3 := blk_cell gD 3 (v := .slice A3 n8 C3) rfl
        have q4 := blk_cell gD 4 (v := .int .i64 tm) rfl
        have q5 := blk_cell gD 5 (v := .int .i64 x2) rfl
        have q6 := blk_cell gD 6 (v := .int .i64 dn) rfl
        have q7 := blk_cell gD 7 (v := .int .i64 x5) rfl
        go_wp2_with fail
        refine (rcheck_any _ (stOf ws) _ hS3 hBd).mono ?_
        rintro e V4 ⟨rfl, E4⟩
        have HF := Lib.hid HF.out
        obtain ⟨⟨c0, c1, c2⟩, hck⟩ : ∃ c, checkQ (stOf ws) = c := ⟨_, rfl⟩
        rw [hck] at HF
        rw [hck]
        unfold v3
        dsimp only at HF ⊢
        clear q0 q1 q2 q3 q4 q5 q6 q7 hck hS3 hBd
        have gD4 := (E4.block D (lt_of_block gD)).trans gD
        have hR4 := (E4.block w.heap.size (lt_of_block ((e3.block w.heap.size (lt_of_block HR1.out)).trans HR1.out))).trans ((e3.block w.heap.size (lt_of_block HR1.out)).trans HR1.out)
        have EE4 : Ext w V4 := HEE.out.comp (e3.comp E4)
        have HI4 := HIW.out.ext (e3.comp E4)
        have q0 := blk_cell hR4 0 (v := .slice none 0 0) rfl
        have q1 := blk_cell hR4 1 (v := .slice none 0 0) rfl
        have q2 := blk_cell hR4 2 (v := .int .i64 0) rfl
        have q3 := blk_cell hR4 3 (v := .slice none 0 0) rfl
        have q4 := blk_cell hR4 4 (v := .int .i64 0) rfl
        have q5 := blk_cell hR4 5 (v := .int .i64 0) rfl
        have q6 := blk_cell hR4 6 (v := .int .i64 0) rfl
        have q7 := blk_cell hR4 7 (v := .int .i64 0) rfl
        have f0 := blk_free hR4 0
        have f1 := blk_free hR4 1
        have f2 := blk_free hR4 2
        have f3 := blk_free hR4 3
        have f4 := blk_free hR4 4
        have f5 := blk_free hR4 5
        have f6 := blk_free hR4 6
        have f7 := blk_free hR4 7
        by_cases hc2 : c2 = 0
        · subst hc2
          have r0 := blk_cell gD4 0 (v := .slice A1 128 C1) rfl
          have r1 := blk_cell gD4 1 (v := .slice A2 n7 C2) rfl
          have r2 := blk_cell gD4 2 (v := .int .i64 x6) rfl
          have r3 := blk_cell gD4 3 (v := .slice A3 n8 C3) rfl
          have r4 := blk_cell gD4 4 (v := .int .i64 tm) rfl
          have r5 := blk_cell gD4 5 (v := .int .i64 x2) rfl
          have r6 := blk_cell gD4 6 (v := .int .i64 dn) rfl
          have r7 := blk_cell gD4 7 (v := .int .i64 x5) rfl
          have HV := Lib.hid (restart_fine HRE.out HF.out)
          go_wp2_with fail
          refine bodyPost_ret (v := .tuple #[sv A1 A2 A3 128 C1 n7 C2 n8 C3 x6 tm x2 dn x5, .int .i64 0]) (by simp [results, Try.results24, go_sem, q0, q1, q2, q3, q4, q5, q6, q7]) rfl ?_
          have KR := s8_kp (M := fun q => q = w.heap.size) (w := V4) (b := w.heap.size) (n0 := .slice A1 128 C1) (n1 := .slice A2 n7 C2) (n2 := .int .i64 x6) (n3 := .slice A3 n8 C3) (n4 := .int .i64 tm) (n5 := .int .i64 x2) (n6 := .int .i64 dn) (n7 := .int .i64 x5) rfl
          have HI5 := ints_kp HI4 KR (fun b h e => HNE.out (by simp at h; omega))
          rw [HV.out]
          exact ⟨_, rfl, HST.out _ HI5, EE4.below5 KR (fun b hb => by omega)⟩
        · have e5 : (c2 != 0) = true := by simpa using hc2
          have HV := Lib.hid (restart_form HRE.out (by rw [HF.out]; simpa using hc2))
          clear hc2
          go_wp2_with fail
          refine bodyPost_ret (v := .tuple #[.agg #[.slice none 0 0, .slice none 0 0, .int .i64 0, .slice none 0 0, .int .i64 0, .int .i64 0, .int .i64 0, .int .i64 0], .int .i64 6]) (by simp [results, Try.results24, go_sem, q0, q1, q2, q3, q4, q5, q6, q7]) rfl ?_
          have KR := s8_kp (M := fun q => q = w.heap.size) (w := V4) (b := w.heap.size) (n0 := .slice none 0 0) (n1 := .slice none 0 0) (n2 := .int .i64 0) (n3 := .slice none 0 0) (n4 := .int .i64 0) (n5 := .int .i64 0) (n6 := .int .i64 0) (n7 := .int .i64 0) rfl
          rw [HV.out]
          exact ⟨_, rfl, zst_atC _, EE4.below5 KR (fun b hb => by omega)⟩
      · have e1 : ((N : Int) != 137 + (n7 : Int) + (n8 : Int)) = true := by simp; omega
        have m7 : (7 : Int) < (N : Int) := by omega
        have m8 : (8 : Int) < (N : Int) := by omega
        have hv : restartE rs = (zst, 6) := restart_form HRE.out (form_len (by rw [HN.out, H78.out.1, H78.out.2]; omega))
        have HV := Lib.hid hv
        clear hv hsum
        go_upto_region 5 with fail
        refine wp_region_Z (fun _ => false) (fun Y => Ext w1 Y) (by kernel_rfl) (Ext.refl w1).drew fun hSX => ?_
        refine tk 0 ⟨_, _, _, _, _, _⟩ ?_ rfl (by kernel_rfl) (fun _ _ _ h => h) (Or.inl ⟨by rfl, ?_⟩) hSX ?_
        rotate_left
        · intro wX hS
          obtain ⟨q0, q1, q2, q3, q4, q5, q6, q7, q8⟩ := HQ.out wX hS
          go_simp
          (try with_reducible rfl)
        (try simp only [Act.put, List.setIfInBounds_toArray, List.set_cons_zero, List.set_cons_succ])
        refine tk 1 ⟨_, _, _, _, _, _⟩ ?_ rfl (by kernel_rfl) (fun _ _ _ h => h) (Or.inl ⟨by rfl, ?_⟩) hSX ?_
        rotate_left
        · intro wX hS
          obtain ⟨q0, q1, q2, q3, q4, q5, q6, q7, q8⟩ := HQ.out wX hS
          go_simp
          (try with_reducible rfl)
        (try simp only [Act.put, List.setIfInBounds_toArray, List.set_cons_zero, List.set_cons_succ])
        refine tk 2 ⟨_, _, _, _, _, _⟩ ?_ rfl (by kernel_rfl) (fun _ _ _ h => h) (Or.inl ⟨by rfl, ?_⟩) hSX ?_
        rotate_left
        · intro wX hS
          obtain ⟨q0, q1, q2, q3, q4, q5, q6, q7, q8⟩ := HQ.out wX hS
          go_simp
          (try with_reducible rfl)
        (try simp only [Act.put, List.setIfInBounds_toArray, List.set_cons_zero, List.set_cons_succ])
        refine tk 3 ⟨_, _, _, _, _, _⟩ ?_ rfl (by kernel_rfl) (fun _ _ _ h => h) (Or.inl ⟨by rfl, ?_⟩) hSX ?_
        rotate_left
        · intro wX hS
          obtain ⟨q0, q1, q2, q3, q4, q5, q6, q7, q8⟩ := HQ.out wX hS
          go_simp
          (try with_reducible rfl)
        (try simp only [Act.put, List.setIfInBounds_toArray, List.set_cons_zero, List.set_cons_succ])
        refine tk 4 ⟨_, _, _, _, _, _⟩ ?_ rfl (by kernel_rfl) (fun _ _ _ h => h) (Or.inl ⟨by rfl, ?_⟩) hSX ?_
        rotate_left
        · intro wX hS
          obtain ⟨q0, q1, q2, q3, q4, q5, q6, q7, q8⟩ := HQ.out wX hS
          go_simp
          (try with_reducible rfl)
        (try simp only [Act.put, List.setIfInBounds_toArray, List.set_cons_zero, List.set_cons_succ])
        refine tk 5 ⟨_, _, _, _, _, _⟩ ?_ rfl (by kernel_rfl) (fun _ _ _ h => h) (Or.inl ⟨by rfl, ?_⟩) hSX ?_
        rotate_left
        · intro wX hS
          obtain ⟨q0, q1, q2, q3, q4, q5, q6, q7, q8⟩ := HQ.out wX hS
          go_simp
          (try with_reducible rfl)
        (try simp only [Act.put, List.setIfInBounds_toArray, List.set_cons_zero, List.set_cons_succ])
        refine tk 6 ⟨_, _, _, _, _, _⟩ ?_ rfl (by kernel_rfl) (fun _ _ _ h => h) (Or.inl ⟨by rfl, ?_⟩) hSX ?_
        rotate_left
        · intro wX hS
          obtain ⟨q0, q1, q2, q3, q4, q5, q6, q7, q8⟩ := HQ.out wX hS
          go_simp
          (try with_reducible rfl)
        (try simp only [Act.put, List.setIfInBounds_toArray, List.set_cons_zero, List.set_cons_succ])
        refine tk 7 ⟨_, _, _, _, _, _⟩ ?_ rfl (by kernel_rfl) (fun _ _ _ h => h) (Or.inl ⟨by rfl, ?_⟩) hSX ?_
        rotate_left
        · intro wX hS
          obtain ⟨q0, q1, q2, q3, q4, q5, q6, q7, q8⟩ := HQ.out wX hS
          go_simp
          (try with_reducible rfl)
        (try simp only [Act.put, List.setIfInBounds_toArray, List.set_cons_zero, List.set_cons_succ])
        refine tk 8 ⟨_, _, _, _, _, _⟩ ?_ rfl (by kernel_rfl) (fun _ _ _ h => h) (Or.inl ⟨by rfl, ?_⟩) hSX ?_
        rotate_left
        · intro wX hS
          obtain ⟨q0, q1, q2, q3, q4, q5, q6, q7, q8⟩ := HQ.out wX hS
          go_simp
          (try with_reducible rfl)
        (try simp only [Act.put, List.setIfInBounds_toArray, List.set_cons_zero, List.set_cons_succ])
        refine tk 9 ⟨_, _, _, _, _, _⟩ ?_ rfl (by kernel_rfl) (fun _ _ _ h => h) (Or.inl ⟨by rfl, ?_⟩) hSX ?_
        rotate_left
        · intro wX hS
          obtain ⟨q0, q1, q2, q3, q4, q5, q6, q7, q8⟩ := HQ.out wX hS
          go_simp
          (try with_reducible rfl)
        (try simp only [Act.put, List.setIfInBounds_toArray, List.set_cons_zero, List.set_cons_succ])
        refine tk 10 ⟨_, _, _, _, _, _⟩ ?_ rfl (by kernel_rfl) (fun _ _ _ h => h) (Or.inl ⟨by rfl, ?_⟩) hSX ?_
        rotate_left
        · intro wX hS
          obtain ⟨q0, q1, q2, q3, q4, q5, q6, q7, q8⟩ := HQ.out wX hS
          go_simp
          (try with_reducible rfl)
        (try simp only [Act.put, List.setIfInBounds_toArray, List.set_cons_zero, List.set_cons_succ])
        refine tk 11 ⟨_, _, _, _, _, _⟩ ?_ rfl (by kernel_rfl) (fun _ _ _ h => h) (Or.inl ⟨by rfl, ?_⟩) hSX ?_
        rotate_left
        · intro wX hS
          obtain ⟨q0, q1, q2, q3, q4, q5, q6, q7, q8⟩ := HQ.out wX hS
          go_simp
          (try with_reducible rfl)
        (try simp only [Act.put, List.setIfInBounds_toArray, List.set_cons_zero, List.set_cons_succ])
        refine tk 12 ⟨_, _, _, _, _, _⟩ ?_ rfl (by kernel_rfl) (fun _ _ _ h => h) (Or.inl ⟨by rfl, ?_⟩) hSX ?_
        rotate_left
        · intro wX hS
          obtain ⟨q0, q1, q2, q3, q4, q5, q6, q7, q8⟩ := HQ.out wX hS
          go_simp
          (try with_reducible rfl)
        (try simp only [Act.put, List.setIfInBounds_toArray, List.set_cons_zero, List.set_cons_succ])
        refine tk 13 ⟨_, _, _, _, _, _⟩ ?_ rfl (by kernel_rfl) (fun _ _ _ h => h) (Or.inl ⟨by rfl, ?_⟩) hSX ?_
        rotate_left
        · intro wX hS
          obtain ⟨q0, q1, q2, q3, q4, q5, q6, q7, q8⟩ := HQ.out wX hS
          go_simp
          (try with_reducible rfl)
        (try simp only [Act.put, List.setIfInBounds_toArray, List.set_cons_zero, List.set_cons_succ])
        refine tk 14 ⟨_, _, _, _, _, _⟩ ?_ rfl (by kernel_rfl) (fun _ _ _ h => h) (Or.inl ⟨by rfl, ?_⟩) hSX ?_
        rotate_left
        · intro wX hS
          obtain ⟨q0, q1, q2, q3, q4, q5, q6, q7, q8⟩ := HQ.out wX hS
          go_simp
          (try with_reducible rfl)
        (try simp only [Act.put, List.setIfInBounds_toArray, List.set_cons_zero, List.set_cons_succ])
        refine tk 15 ⟨_, _, _, _, _, _⟩ ?_ rfl (by kernel_rfl) (fun _ _ _ h => h) (Or.inl ⟨by rfl, ?_⟩) hSX ?_
        rotate_left
        · intro wX hS
          obtain ⟨q0, q1, q2, q3, q4, q5, q6, q7, q8⟩ := HQ.out wX hS
          go_simp
          (try with_reducible rfl)
        (try simp only [Act.put, List.setIfInBounds_toArray, List.set_cons_zero, List.set_cons_succ])
        refine tk 16 ⟨_, _, _, _, _, _⟩ ?_ rfl (by kernel_rfl) (fun _ _ _ h => h) (Or.inl ⟨by rfl, ?_⟩) hSX ?_
        rotate_left
        · intro wX hS
          obtain ⟨q0, q1, q2, q3, q4, q5, q6, q7, q8⟩ := HQ.out wX hS
          go_simp
          (try with_reducible rfl)
        (try simp only [Act.put, List.setIfInBounds_toArray, List.set_cons_zero, List.set_cons_succ])
        refine tk 17 ⟨_, _, _, _, _, _⟩ ?_ rfl (by kernel_rfl) (fun _ _ _ h => h) (Or.inl ⟨by rfl, ?_⟩) hSX ?_
        rotate_left
        · intro wX hS
          obtain ⟨q0, q1, q2, q3, q4, q5, q6, q7, q8⟩ := HQ.out wX hS
          go_simp
          (try with_reducible rfl)
        (try simp only [Act.put, List.setIfInBounds_toArray, List.set_cons_zero, List.set_cons_succ])
        refine wpAnyZ_done (by kernel_rfl) ?_ _
        have hR2 := ((Ext.refl w1).drew.block w.heap.size (lt_of_block hR1)).trans hR1
        have q0 := blk_cell hR1 0 (v := .slice none 0 0) rfl
        have q1 := blk_cell hR1 1 (v := .slice none 0 0) rfl
        have q2 := blk_cell hR1 2 (v := .int .i64 0) rfl
        have q3 := blk_cell hR1 3 (v := .slice none 0 0) rfl
        have q4 := blk_cell hR1 4 (v := .int .i64 0) rfl
        have q5 := blk_cell hR1 5 (v := .int .i64 0) rfl
        have q6 := blk_cell hR1 6 (v := .int .i64 0) rfl
        have q7 := blk_cell hR1 7 (v := .int .i64 0) rfl
        have f0 := blk_free hR1 0
        have f1 := blk_free hR1 1
        have f2 := blk_free hR1 2
        have f3 := blk_free hR1 3
        have f4 := blk_free hR1 4
        have f5 := blk_free hR1 5
        have f6 := blk_free hR1 6
        have f7 := blk_free hR1 7
        go_wp2_with fail
        refine bodyPost_ret (v := .tuple #[.agg #[.slice none 0 0, .slice none 0 0, .int .i64 0, .slice none 0 0, .int .i64 0, .int .i64 0, .int .i64 0, .int .i64 0], .int .i64 6]) (by simp [results, Try.results24, go_sem, q0, q1, q2, q3, q4, q5, q6, q7]) rfl ?_
        have KR := s8_kp (M := fun q => q = w.heap.size) (w := w1) (b := w.heap.size) (n0 := .slice none 0 0) (n1 := .slice none 0 0) (n2 := .int .i64 0) (n3 := .slice none 0 0) (n4 := .int .i64 0) (n5 := .int .i64 0) (n6 := .int .i64 0) (n7 := .int .i64 0) rfl
        rw [HV.out]
        exact ⟨_, rfl, zst_atC _, Below.drew (Ext.below5 (E0.comp E1) KR (fun b hb => by omega))⟩
  · have hv : restartE rs = (zst, er) := restart_err hre he
    have HV := Lib.hid hv
    have e1 : (er != 0) = true := by simpa using he
    clear hre hwo hI h256 hv he
    go_enter Try.func24, Try.ntmps24
    go_wp2_with fail
    refine (hrd _ E0).mono ?_
    rintro e w1 ⟨wa, wc, ma, mc, rfl, -, -, -, -, E1⟩
    dsimp only
    clear hrd
    have hR1 := (E1.block w.heap.size (lt_of_block hR)).trans hR
    have q0 := blk_cell hR1 0 (v := .slice none 0 0) rfl
    have q1 := blk_cell hR1 1 (v := .slice none 0 0) rfl
    have q2 := blk_cell hR1 2 (v := .int .i64 0) rfl
    have q3 := blk_cell hR1 3 (v := .slice none 0 0) rfl
    have q4 := blk_cell hR1 4 (v := .int .i64 0) rfl
    have q5 := blk_cell hR1 5 (v := .int .i64 0) rfl
    have q6 := blk_cell hR1 6 (v := .int .i64 0) rfl
    have q7 := blk_cell hR1 7 (v := .int .i64 0) rfl
    have f0 := blk_free hR1 0
    have f1 := blk_free hR1 1
    have f2 := blk_free hR1 2
    have f3 := blk_free hR1 3
    have f4 := blk_free hR1 4
    have f5 := blk_free hR1 5
    have f6 := blk_free hR1 6
    have f7 := blk_free hR1 7
    go_wp2_with fail
    refine bodyPost_ret (v := .tuple #[.agg #[.slice none 0 0, .slice none 0 0, .int .i64 0, .slice none 0 0, .int .i64 0, .int .i64 0, .int .i64 0, .int .i64 0], .int .i64 er]) (by simp [results, Try.results24, go_sem, q0, q1, q2, q3, q4, q5, q6, q7]) rfl ?_
    have KR := s8_kp (M := fun q => q = w.heap.size) (w := w1) (b := w.heap.size) (n0 := .slice none 0 0) (n1 := .slice none 0 0) (n2 := .int .i64 0) (n3 := .slice none 0 0) (n4 := .int .i64 0) (n5 := .int .i64 0) (n6 := .int .i64 0) (n7 := .int .i64 0) rfl
    rw [HV.out]
    exact ⟨_, rfl, zst_atC _, (E0.comp E1).below5 KR (fun b hb => by omega)⟩
end Go.Proofs.Ytnhpcoagkmgdoaa
/- The law DumpDumps. -/
namespace Go.Q
open Go.RowKit
theorem dump_lt7 (s : St) : ∀ r ∈ (dumpE s).1, r < 128 := by
  unfold dumpE
  split
  · exact tape_lt128 _
  · simp
end Go.Q
namespace Go.Proofs.Ytnhpcoagkmgdoaa
open Go.RowKit Go.Q Go.Shelf Go.Maps Go.Joins
set_option maxHeartbeats 4000000
set_option maxRecDepth 100000
theorem restart_bd (rs : List Nat) : StBd (restartE rs).1 := by
  have hz : StBd zst := ⟨by decide, by decide, by decide⟩
  unfold restartE
  by_cases h1 : (readE rs).2.2.2 ≠ 0
  · rw [if_pos h1]; exact hz
  · rw [if_neg h1]
    by_cases h2 : formOk (readE rs).1 = true
    · rw [if_pos h2]
      refine valid_bd (valid_of_check ?_)
      unfold formOk at h2
      simp only [Bool.and_eq_true, beq_iff_eq] at h2
      exact h2.2
    · rw [if_neg h2]; exact hz
theorem dumpDumps_any (haw : AwakeT) (v : Value) (s : St) (b : Option Addr) (m d : Nat) (rs : List Nat) (w : World) (hS : StAt w v s) (hb : StBd s) (hm : rs.length = m) (hd : m ≤ d ∧ d ≤ 9223372036854775807) (hB : BytesAt w b (natI rs)) (h256 : ∀ r ∈ rs, r < 256) :
    Calls Try.prog 4 #[v, .slice b m d] w fun e w' => e = .returned (.bool true) ∧ Ext w w' := by
  obtain ⟨a1, a2, a3, k1, k2, k3, rfl, i1, i2, i3⟩ := hS
  have hS0 := fun Y (E : Ext w Y) => show StAt Y (sv a1 a2 a3 s.store.length k1 s.tape.length k2 s.printed.length k3 s.taken s.time s.at_ s.done s.why) s from (show StAt w _ s from ⟨a1, a2, a3, k1, k2, k3, rfl, i1, i2, i3⟩).ext E
  have p1 := fun W (E : Ext w W) => ldump_any _ s W (hS0 W E) hb
  have p2 := fun W (E : Ext w W) => rdump_any _ s W (hS0 W E) hb
  have r1 := fun W (E : Ext w W) => lrestart_any b m d rs W hm hd (hB.ext E) h256
  have r2 := fun W (E : Ext w W) => rrestart_any b m d rs W hm hd (hB.ext E) h256
  have hlt := dump_lt7 s
  have hrb := restart_bd rs
  obtain ⟨⟨tp, er⟩, hp⟩ : ∃ p, dumpE s = p := ⟨_, rfl⟩
  obtain ⟨⟨t, e2⟩, hr⟩ : ∃ p, restartE rs = p := ⟨_, rfl⟩
  rw [hp] at p1 p2 hlt
  rw [hr] at r1 r2 hrb
  have hbd := nat_bd hlt (by decide)
  dsimp only at hbd hrb
  have HRB := Lib.hid hrb
  have g3 := heap_alloc_new w (.cells #[.slice a1 s.store.length k1, .slice a2 s.tape.length k2, .int .i64 s.taken, .slice a3 s.printed.length k3, .int .i64 s.time, .int .i64 s.at_, .int .i64 s.done, .int .i64 s.why] 33)
  have E0 : Ext w (w.alloc (.cells #[.slice a1 s.store.length k1, .slice a2 s.tape.length k2, .int .i64 s.taken, .slice a3 s.printed.length k3, .int .i64 s.time, .int .i64 s.at_, .int .i64 s.done, .int .i64 s.why] 33)) := (Ext.refl w).alloc _
  clear hp hr hB h256 hlt hS0 i1 i2 i3 hrb
  go_enter Try.func4, Try.ntmps4
  have q0 := blk_cell g3 0 (v := .slice a1 s.store.length k1) rfl
  have q1 := blk_cell g3 1 (v := .slice a2 s.tape.length k2) rfl
  have q2 := blk_cell g3 2 (v := .int .i64 s.taken) rfl
  have q3 := blk_cell g3 3 (v := .slice a3 s.printed.length k3) rfl
  have q4 := blk_cell g3 4 (v := .int .i64 s.time) rfl
  have q5 := blk_cell g3 5 (v := .int .i64 s.at_) rfl
  have q6 := blk_cell g3 6 (v := .int .i64 s.done) rfl
  have q7 := blk_cell g3 7 (v := .int .i64 s.why) rfl
  go_wp2_with fail
  refine (p1 _ E0).mono ?_
  rintro e w1 ⟨c1, d1, rfl, hc1, B1, E1⟩
  dsimp only at hc1 B1 ⊢
  obtain ⟨tn, htn⟩ : ∃ tn, tp.length = tn := ⟨_, rfl⟩
  rw [htn]
  clear q0 q1 q2 q3 q4 q5 q6 q7
  have g3 := (E1.block w.heap.size (lt_of_block g3)).trans g3
  have q0 := blk_cell g3 0 (v := .slice a1 s.store.length k1) rfl
  have q1 := blk_cell g3 1 (v := .slice a2 s.tape.length k2) rfl
  have q2 := blk_cell g3 2 (v := .int .i64 s.taken) rfl
  have q3 := blk_cell g3 3 (v := .slice a3 s.printed.length k3) rfl
  have q4 := blk_cell g3 4 (v := .int .i64 s.time) rfl
  have q5 := blk_cell g3 5 (v := .int .i64 s.at_) rfl
  have q6 := blk_cell g3 6 (v := .int .i64 s.done) rfl
  have q7 := blk_cell g3 7 (v := .int .i64 s.why) rfl
  go_wp2_with fail
  refine (p2 _ (E0.comp E1)).mono ?_
  rintro e w2 ⟨c2, d2, rfl, hc2, B2, E2⟩
  dsimp only at hc2 B2 ⊢
  rw [htn]
  have cv1 := conv_rows (c := d1) (B1.ext E2) htn hbd
  have cv2 := conv_rows (c := d2) B2 htn hbd
  have E02 := E0.comp (E1.comp E2)
  clear B1 B2 E1 E2 hc1 hc2 p1 p2 q0 q1 q2 q3 q4 q5 q6 q7 g3
  go_wp2_with fail
  refine (r1 _ E02).mono ?_
  rintro e w3 ⟨v', rfl, ⟨b1, b2, b3, l1, l2, l3, rfl, j1, j2, j3⟩, E3⟩
  dsimp only at j1 j2 j3 ⊢
  clear cv1 cv2
  have gt := heap_alloc_new w3 (.cells #[.slice b1 t.store.length l1, .slice b2 t.tape.length l2, .int .i64 t.taken, .slice b3 t.printed.length l3, .int .i64 t.time, .int .i64 t.at_, .int .i64 t.done, .int .i64 t.why] 33)
  have ET := (Ext.refl w3).alloc (.cells #[.slice b1 t.store.length l1, .slice b2 t.tape.length l2, .int .i64 t.taken, .slice b3 t.printed.length l3, .int .i64 t.time, .int .i64 t.at_, .int .i64 t.done, .int .i64 t.why] 33)
  have HT := Lib.hid (show StAt w3 (sv b1 b2 b3 t.store.length l1 t.tape.length l2 t.printed.length l3 t.taken t.time t.at_ t.done t.why) t from ⟨b1, b2, b3, l1, l2, l3, rfl, j1, j2, j3⟩)
  clear j1 j2 j3
  go_upto_region 6 with fail
  obtain ⟨X1, hX1⟩ : ∃ X1, w3.alloc (.cells #[.slice b1 t.store.length l1, .slice b2 t.tape.length l2, .int .i64 t.taken, .slice b3 t.printed.length l3, .int .i64 t.time, .int .i64 t.at_, .int .i64 t.done, .int .i64 t.why] 33) = X1 := ⟨_, rfl⟩
  rw [hX1] at gt ET ⊢
  obtain ⟨tb, htb⟩ : ∃ tb, w3.heap.size = tb := ⟨_, rfl⟩
  rw [htb] at gt ⊢
  clear hX1 htb
  go_wp2_with fail
  refine (r2 _ (E02.comp (E3.comp ET))).mono ?_
  rintro e w4 ⟨v', rfl, ⟨f1, f2, f3, o1, o2, o3, rfl, j1, j2, j3⟩, E4⟩
  dsimp only at j1 j2 j3 ⊢
  have gu := heap_alloc_new w4 (.cells #[.slice f1 t.store.length o1, .slice f2 t.tape.length o2, .int .i64 t.taken, .slice f3 t.printed.length o3, .int .i64 t.time, .int .i64 t.at_, .int .i64 t.done, .int .i64 t.why] 33)
  have EU := (Ext.refl w4).alloc (.cells #[.slice f1 t.store.length o1, .slice f2 t.tape.length o2, .int .i64 t.taken, .slice f3 t.printed.length o3, .int .i64 t.time, .int .i64 t.at_, .int .i64 t.done, .int .i64 t.why] 33)
  have HU := Lib.hid (show StAt w4 (sv f1 f2 f3 t.store.length o1 t.tape.length o2 t.printed.length o3 t.taken t.time t.at_ t.done t.why) t from ⟨f1, f2, f3, o1, o2, o3, rfl, j1, j2, j3⟩)
  clear j1 j2 j3
  go_upto_region 7 with fail
  obtain ⟨X2, hX2⟩ : ∃ X2, w4.alloc (.cells #[.slice f1 t.store.length o1, .slice f2 t.tape.length o2, .int .i64 t.taken, .slice f3 t.printed.length o3, .int .i64 t.time, .int .i64 t.at_, .int .i64 t.done, .int .i64 t.why] 33) = X2 := ⟨_, rfl⟩
  rw [hX2] at gu EU ⊢
  obtain ⟨ub, hub⟩ : ∃ ub, w4.heap.size = ub := ⟨_, rfl⟩
  rw [hub] at gu ⊢
  clear hX2 hub
  have gt2 := ((E4.comp EU).block tb (lt_of_block gt)).trans gt
  have q0 := blk_cell gt2 0 (v := .slice b1 t.store.length l1) rfl
  have q1 := blk_cell gt2 1 (v := .slice b2 t.tape.length l2) rfl
  have q2 := blk_cell gt2 2 (v := .int .i64 t.taken) rfl
  have q3 := blk_cell gt2 3 (v := .slice b3 t.printed.length l3) rfl
  have q4 := blk_cell gt2 4 (v := .int .i64 t.time) rfl
  have q5 := blk_cell gt2 5 (v := .int .i64 t.at_) rfl
  have q6 := blk_cell gt2 6 (v := .int .i64 t.done) rfl
  have q7 := blk_cell gt2 7 (v := .int .i64 t.why) rfl
  have r0 := blk_cell gu 0 (v := .slice f1 t.store.length o1) rfl
  have r1 := blk_cell gu 1 (v := .slice f2 t.tape.length o2) rfl
  have r2 := blk_cell gu 2 (v := .int .i64 t.taken) rfl
  have r3 := blk_cell gu 3 (v := .slice f3 t.printed.length o3) rfl
  have r4 := blk_cell gu 4 (v := .int .i64 t.time) rfl
  have r5 := blk_cell gu 5 (v := .int .i64 t.at_) rfl
  have r6 := blk_cell gu 6 (v := .int .i64 t.done) rfl
  have r7 := blk_cell gu 7 (v := .int .i64 t.why) rfl
  go_wp2_with fail
  refine (states_same _ _ t _ (HT.out.ext (ET.comp (E4.comp EU))) (HU.out.ext EU) HRB.out).mono ?_
  rintro e w5 ⟨rfl, E5⟩
  clear q0 q1 q2 q3 q4 q5 q6 q7 r0 r1 r2 r3 r4 r5 r6 r7
  go_wp2_with fail
  refine (haw _).mono ?_
  rintro e w6 ⟨rfl, E6⟩
  go_wp2_with fail
  go_ret
  exact ⟨rfl, E02.comp ((E3.comp ET).comp ((E4.comp EU).comp (E5.comp E6)))⟩
end Go.Proofs.Ytnhpcoagkmgdoaa
/- The statement DumpDumps: the row, from the contract of the law's function. -/
namespace Go.Proofs.Ytnhpcoagkmgdoaa.dumpDumps
open Go.ChangeShapes Go.WideShapes Go.ChangeAt Go.RowKit Go.Joins Go.Deep Go.Q
set_option linter.unusedVariables false
set_option maxRecDepth 100000 in
theorem lifted (os : Os) (started : os.Started) (H : Type) (enc : TypeId × Value → H) :
    ReturnsInHanded {} Try.checked os 4 .any (Rows.dumpDumpsSpec.pre6 enc Try.prog Try.f4 Rows.dumpDumpsRow.domain false) (Rows.dumpDumpsSpec.post enc Try.prog Try.f4 false true false false) := by
  refine returnsInHanded_of_change (C := Try.checked) rowOwn started (by kernel_rfl) Try.func4
    (ChangeSpec.witness6 (enc := enc) (C := Try.checked) false ⟨#[], #[.agg #[.slice none 0 0, .slice none 0 0, .int .i64 0, .slice none 0 0, .int .i64 0, .int .i64 0, .int .i64 0, .int .i64 0], .slice none 0 0], []⟩ 8 (by kernel_rfl) (by kernel_rfl) (by kernel_rfl) (by kernel_rfl)) ?_
  intro W base args ds gs before hval0 hW hcnd _
  have hval : ∀ (j : Nat) t v, Try.f4.params[j]? = some t → args[j]? = some v → Value.okWide Try.prog W .any base t v := hval0
  have hW' := hW
  obtain ⟨p, q, hA0, hV, rfl, hfz, hnd⟩ := hW
  have hA : DataW.TrodAll enc Try.prog W 0 (fun _ => true) true Try.f4.params.toList args.toList ds p := hA0
  rw [Try.params4] at hA hval
  obtain ⟨v0, vs0, d0, ds0, p0, q0, hargs, rfl, rfl, h0, r0⟩ := trodAll_cons hA
  obtain ⟨v1, vs1, d1, ds1, p1, q1, rfl, rfl, rfl, h1, r1⟩ := trodAll_cons r0
  obtain ⟨rfl, rfl, rfl⟩ := trodAll_nil r1
  obtain rfl : args = #[v0, v1] := by cases args; simp_all
  obtain ⟨rfl, rfl⟩ := trodVars_none hV
  have k0 := h0
  have lt0 : ∀ x ∈ p0, x.block < W.heap.size := by obtain ⟨m, hm⟩ := k0; exact DataW.trod_lt m _ _ _ hm
  obtain ⟨s0, A0, B0⟩ := state_of_trod (hval 0 33 v0 rfl rfl) h0
  have k1 := h1
  have lt1 : ∀ x ∈ p1, x.block < W.heap.size := by obtain ⟨m, hm⟩ := k1; exact DataW.trod_lt m _ _ _ hm
  obtain ⟨x1, y1, z1, rfl⟩ := okWide_slice Try.underlying23 (hval 1 23 v1 rfl rfl)
  obtain ⟨fu1, hf1⟩ := h1
  obtain ⟨a1, c1, l1, ev1, C1, B1, H1⟩ := rows_of_trod (v := .slice x1 y1 z1) (by simpa [Value.cells] using hf1)
  rw [ev1] at k1 hW' ⊢
  clear hA0 hval0
  refine (dumpDumps_any awakeT _ s0 a1 _ c1 l1 W A0 B0 rfl C1 B1 H1).mono fun e W' ⟨he, bel⟩ => ?_
  subst he
  exact ⟨_, rfl, _, _, _, [], _, [], hW', trodAll_mk1 (shut_bool Try.underlying4 _), (trodAll_cons_mk (Below.trod rowLaid (by kernel_rfl) (of_decide_eq_true (by kernel_rfl)) k0 bel lt0) (trodAll_cons_mk (Below.trod rowLaid (by kernel_rfl) (of_decide_eq_true (by kernel_rfl)) k1 bel lt1) trodAll_mk0)), rfl, bel.frame _, fun h => by cases h⟩
theorem closed : joinedFacts Try.pinned.checked.prog 4 Try.f4 Rows.dumpDumpsSpec Rows.dumpDumpsRow = true := by
  have hm : (Try.pinned.checked.prog.make == some Rows.dumpDumpsRow.make) = true := factMake
  unfold joinedFacts
  rw [factEnter, factLifted, hm]
  exact of_decide_eq_true (by kernel_rfl)
theorem over : Rows.dumpDumpsRow.holds Try.pinned (OpenSpec.ofChange Rows.dumpDumpsSpec) :=
  OpenClaim.holds_of_wide 4 Try.f4 rfl rfl rfl rfl rfl rfl rfl ⟨rfl, rfl, rfl, rfl, rfl⟩ rfl rfl rfl rfl rfl (by kernel_rfl) Try.func4 closed
    (of_decide_eq_true (by kernel_rfl)) (by unfold Func.isWrapper; first | (rw [if_pos (by decide +kernel)]; kernel_rfl) | (rw [if_neg (by decide +kernel)]; exact ⟨rfl, rfl⟩))
    (fun os started H enc _ => lifted os started H enc)
theorem proved : Rows.DumpDumpsSaid := over
#print axioms proved
end Go.Proofs.Ytnhpcoagkmgdoaa.dumpDumps

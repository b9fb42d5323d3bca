/- Contract: OrderPacked returns true. -/
import Derived.Test.YtpdkgoeoddeebaaD2
import Derived.Test.YtpdkgoeoddeebaaSpec4f
set_option linter.unusedVariables false
set_option linter.unusedSimpArgs false
namespace Go.Proofs.Ytpdkgoeoddeebaa
open Go.RowKit Go.Q

/-- what Encode's answer means for the law -/
theorem pack_facts (a b c d : Int) : (encodeQ ⟨a, b, c, d⟩ = (0, 7)) ∨ (∃ k, encodeQ ⟨a, b, c, d⟩ = (k, 0) ∧ decQ k = (⟨a, b, c, d⟩, 0) ∧ 0 ≤ k ∧ k ≤ 16777215) := by
  cases h : ordB ⟨a, b, c, d⟩ with
  | false => exact .inl (by simp [encodeQ, h])
  | true => exact .inr ⟨Q.written ⟨a, b, c, d⟩, by simp [encodeQ, h], decQ_written h, (written_bd h).1, (written_bd h).2⟩
theorem word_facts (n : Int) : (decQ n = (⟨0, 0, 0, 0⟩, 7)) ∨ (∃ a b c d k, decQ n = (⟨a, b, c, d⟩, 0) ∧ encodeQ ⟨a, b, c, d⟩ = (n, 0) ∧ signedQ n = (k, 0) ∧ (k = n ∨ k = n - 16777216) ∧ -8388608 ≤ k ∧ k < 8388608 ∧ 0 ≤ n ∧ n ≤ 16777215) := by
  cases h : wordB n with
  | false => exact .inl (by simp [decQ, h])
  | true =>
    have hb := wordB_bd h
    refine .inr ⟨(decodeQ n).op, (decodeQ n).frm, (decodeQ n).to, (decodeQ n).nxt, sgn n, by simp [decQ, h], encodeQ_decode h, by simp [signedQ, h], ?_, ?_, ?_, hb.1, hb.2⟩ <;> unfold sgn <;> split <;> omega

set_option maxRecDepth 100000 in
set_option maxHeartbeats 4000000 in
theorem packed_no (a b c d n : Int) (w : World) (hp : encodeQ ⟨a, b, c, d⟩ = (0, 7)) : Calls Try.prog 12 #[.agg #[.int .i64 a, .int .i64 b, .int .i64 c, .int .i64 d], .int .i64 n] w fun e w' => e = .returned (.bool true) ∧ Ext w w' := by
  have h1 := fun W => encode_any a b c d W
  have h3 := fun W => decodeE_any n W
  unfold ovE at h3
  rw [hp] at h1
  clear hp
  rcases word_facts n with hw | ⟨o1, o2, o3, o4, x, hw, he, hs, hx, x1, x2, n1, n2⟩
  · rw [hw] at h3
    clear hw
    go_enter Try.func12, Try.ntmps12
    go_wp2_with fail
    refine (h1 _).mono ?_
    rintro e w1 ⟨rfl, E1⟩
    clear h1
    go_wp2_with fail
    refine (h3 _).mono ?_
    rintro e w2 ⟨rfl, E2⟩
    clear h3
    go_wp2_with (go_at_call 19; refine (awake_any _).mono ?_; rintro e w3 ⟨rfl, E3⟩)
    refine bodyPost_ret (v := .bool true) (by simp [results, Try.results12, go_sem]) rfl ⟨rfl, ?_⟩
    refine Ext.comp (by first | with_reducible exact E1 | with_reducible exact E1.old | with_reducible exact E1.old.old | with_reducible exact E1.old.old.old) ?_
    refine Ext.comp (by first | with_reducible exact E2 | with_reducible exact E2.old | with_reducible exact E2.old.old | with_reducible exact E2.old.old.old) ?_
    exact (by first | with_reducible exact E3 | with_reducible exact E3.old | with_reducible exact E3.old.old | with_reducible exact E3.old.old.old)
  · rw [hw] at h3
    have h4 := fun W => encode_any o1 o2 o3 o4 W
    have h5 := fun W => signedE_any n W
    rw [he] at h4
    rw [hs] at h5
    clear hw he hs
    go_enter Try.func12, Try.ntmps12
    go_wp2_with fail
    refine (h1 _).mono ?_
    rintro e w1 ⟨rfl, E1⟩
    clear h1
    go_wp2_with fail
    refine (h3 _).mono ?_
    rintro e w2 ⟨rfl, E2⟩
    clear h3
    go_wp2_with fail
    refine (h4 _).mono ?_
    rintro e w3 ⟨rfl, E3⟩
    clear h4
    go_wp2_with fail
    refine (h5 _).mono ?_
    rintro e w4 ⟨rfl, E4⟩
    clear h5
    have hn : ((n : Int) == n) = true := by simp
    have hx2 : ((x : Int) == n) = true ∨ ((x : Int) == n) = false ∧ ((x : Int) == n - 16777216) = true := by
      rcases hx with hx | hx
      · exact .inl (by simpa using hx)
      · exact .inr ⟨by rw [beq_eq_false_iff_ne]; omega, by simpa using hx⟩
    clear hx
    rcases hx2 with hx2 | ⟨hx2, hx3⟩
    all_goals
      go_wp2_with (go_at_call 19; refine (awake_any _).mono ?_; rintro e w5 ⟨rfl, E5⟩)
      refine bodyPost_ret (v := .bool true) (by simp [results, Try.results12, go_sem]) rfl ⟨rfl, ?_⟩
      refine Ext.comp (by first | with_reducible exact E1 | with_reducible exact E1.old | with_reducible exact E1.old.old | with_reducible exact E1.old.old.old) ?_
      refine Ext.comp (by first | with_reducible exact E2 | with_reducible exact E2.old | with_reducible exact E2.old.old | with_reducible exact E2.old.old.old) ?_
      refine Ext.comp (by first | with_reducible exact E3 | with_reducible exact E3.old | with_reducible exact E3.old.old | with_reducible exact E3.old.old.old) ?_
      refine Ext.comp (by first | with_reducible exact E4 | with_reducible exact E4.old | with_reducible exact E4.old.old | with_reducible exact E4.old.old.old) ?_
      exact (by first | with_reducible exact E5 | with_reducible exact E5.old | with_reducible exact E5.old.old | with_reducible exact E5.old.old.old)
set_option maxRecDepth 100000 in
set_option maxHeartbeats 4000000 in
theorem packed_yes (a b c d n : Int) (w : World) (k : Int) (hp : encodeQ ⟨a, b, c, d⟩ = (k, 0)) (hd : decQ k = (⟨a, b, c, d⟩, 0)) (k0 : 0 ≤ k) (k1 : k ≤ 16777215) : Calls Try.prog 12 #[.agg #[.int .i64 a, .int .i64 b, .int .i64 c, .int .i64 d], .int .i64 n] w fun e w' => e = .returned (.bool true) ∧ Ext w w' := by
  have h1 := fun W => encode_any a b c d W
  have h2 := fun W => decodeE_any k W
  have h3 := fun W => decodeE_any n W
  unfold ovE at h2 h3
  rw [hd] at h2
  rw [hp] at h1
  clear hp hd
  rcases word_facts n with hw | ⟨o1, o2, o3, o4, x, hw, he, hs, hx, x1, x2, n1, n2⟩
  · rw [hw] at h3
    clear hw
    go_enter Try.func12, Try.ntmps12
    go_wp2_with fail
    refine (h1 _).mono ?_
    rintro e w1 ⟨rfl, E1⟩
    clear h1
    have q0 := box_at (v := .int .i64 a) E1 0 rfl
    have q1 := box_at (v := .int .i64 b) E1 1 rfl
    have q2 := box_at (v := .int .i64 c) E1 2 rfl
    have q3 := box_at (v := .int .i64 d) E1 3 rfl
    go_wp2_with fail
    refine (h2 _).mono ?_
    rintro e v2 ⟨rfl, F2⟩
    clear h2
    have r0 := fun ob => box_at (v := .int .i64 a) (Ext.alloc (Ext.comp E1 F2) ob) 0 rfl
    have r1 := fun ob => box_at (v := .int .i64 b) (Ext.alloc (Ext.comp E1 F2) ob) 1 rfl
    have r2 := fun ob => box_at (v := .int .i64 c) (Ext.alloc (Ext.comp E1 F2) ob) 2 rfl
    have r3 := fun ob => box_at (v := .int .i64 d) (Ext.alloc (Ext.comp E1 F2) ob) 3 rfl
    go_wp2_with fail
    refine (h3 _).mono ?_
    rintro e w2 ⟨rfl, E2⟩
    clear h3
    go_wp2_with (go_at_call 19; refine (awake_any _).mono ?_; rintro e w3 ⟨rfl, E3⟩)
    refine bodyPost_ret (v := .bool true) (by simp [results, Try.results12, go_sem]) rfl ⟨rfl, ?_⟩
    refine Ext.comp (by first | with_reducible exact E1 | with_reducible exact E1.old | with_reducible exact E1.old.old | with_reducible exact E1.old.old.old) ?_
    refine Ext.comp (by first | with_reducible exact F2 | with_reducible exact F2.old | with_reducible exact F2.old.old | with_reducible exact F2.old.old.old) ?_
    refine Ext.comp (by first | with_reducible exact E2 | with_reducible exact E2.old | with_reducible exact E2.old.old | with_reducible exact E2.old.old.old) ?_
    exact (by first | with_reducible exact E3 | with_reducible exact E3.old | with_reducible exact E3.old.old | with_reducible exact E3.old.old.old)
  · rw [hw] at h3
    have h4 := fun W => encode_any o1 o2 o3 o4 W
    have h5 := fun W => signedE_any n W
    rw [he] at h4
    rw [hs] at h5
    clear hw he hs
    go_enter Try.func12, Try.ntmps12
    go_wp2_with fail
    refine (h1 _).mono ?_
    rintro e w1 ⟨rfl, E1⟩
    clear h1
    have q0 := box_at (v := .int .i64 a) E1 0 rfl
    have q1 := box_at (v := .int .i64 b) E1 1 rfl
    have q2 := box_at (v := .int .i64 c) E1 2 rfl
    have q3 := box_at (v := .int .i64 d) E1 3 rfl
    go_wp2_with fail
    refine (h2 _).mono ?_
    rintro e v2 ⟨rfl, F2⟩
    clear h2
    have r0 := fun ob => box_at (v := .int .i64 a) (Ext.alloc (Ext.comp E1 F2) ob) 0 rfl
    have r1 := fun ob => box_at (v := .int .i64 b) (Ext.alloc (Ext.comp E1 F2) ob) 1 rfl
    have r2 := fun ob => box_at (v := .int .i64 c) (Ext.alloc (Ext.comp E1 F2) ob) 2 rfl
    have r3 := fun ob => box_at (v := .int .i64 d) (Ext.alloc (Ext.comp E1 F2) ob) 3 rfl
    go_wp2_with fail
    refine (h3 _).mono ?_
    rintro e w2 ⟨rfl, E2⟩
    clear h3
    go_wp2_with fail
    refine (h4 _).mono ?_
    rintro e w3 ⟨rfl, E3⟩
    clear h4
    go_wp2_with fail
    refine (h5 _).mono ?_
    rintro e w4 ⟨rfl, E4⟩
    clear h5
    have hn : ((n : Int) == n) = true := by simp
    have hx2 : ((x : Int) == n) = true ∨ ((x : Int) == n) = false ∧ ((x : Int) == n - 16777216) = true := by
      rcases hx with hx | hx
      · exact .inl (by simpa using hx)
      · exact .inr ⟨by rw [beq_eq_false_iff_ne]; omega, by simpa using hx⟩
    clear hx
    rcases hx2 with hx2 | ⟨hx2, hx3⟩
    all_goals
      go_wp2_with (go_at_call 19; refine (awake_any _).mono ?_; rintro e w5 ⟨rfl, E5⟩)
      refine bodyPost_ret (v := .bool true) (by simp [results, Try.results12, go_sem]) rfl ⟨rfl, ?_⟩
      refine Ext.comp (by first | with_reducible exact E1 | with_reducible exact E1.old | with_reducible exact E1.old.old | with_reducible exact E1.old.old.old) ?_
      refine Ext.comp (by first | with_reducible exact F2 | with_reducible exact F2.old | with_reducible exact F2.old.old | with_reducible exact F2.old.old.old) ?_
      refine Ext.comp (by first | with_reducible exact E2 | with_reducible exact E2.old | with_reducible exact E2.old.old | with_reducible exact E2.old.old.old) ?_
      refine Ext.comp (by first | with_reducible exact E3 | with_reducible exact E3.old | with_reducible exact E3.old.old | with_reducible exact E3.old.old.old) ?_
      refine Ext.comp (by first | with_reducible exact E4 | with_reducible exact E4.old | with_reducible exact E4.old.old | with_reducible exact E4.old.old.old) ?_
      exact (by first | with_reducible exact E5 | with_reducible exact E5.old | with_reducible exact E5.old.old | with_reducible exact E5.old.old.old)
theorem packed_any (a b c d n : Int) (w : World) : Calls Try.prog 12 #[.agg #[.int .i64 a, .int .i64 b, .int .i64 c, .int .i64 d], .int .i64 n] w fun e w' => e = .returned (.bool true) ∧ Ext w w' := by
  rcases pack_facts a b c d with hp | ⟨k, hp, hd, b1, b2⟩
  · exact packed_no a b c d n w hp
  · exact packed_yes a b c d n w k hp hd b1 b2
end Go.Proofs.Ytpdkgoeoddeebaa

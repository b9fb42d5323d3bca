import Derived.Test.YtnhpcoagkmgdoaaGreatX13
import Derived.Test.YtnhpcoagkmgdoaaGreatX4
set_option linter.unusedVariables false
set_option linter.unusedSimpArgs false
/- Layer 10's program: Restart. -/
namespace Go.Q
theorem restart_err {rs : List Nat} {ws ms : List Int} {i er : Int} (h : readE rs = (ws, ms, i, er)) (he : er ≠ 0) : restartE rs = (zst, er) := by
 unfold restartE
 rw [h, if_pos he]
theorem restart_form {rs : List Nat} {ws ms : List Int} {i : Int} (h : readE rs = (ws, ms, i, 0)) (hf : formOk ws = false) : restartE rs = (zst, 6) := by
 unfold restartE
 rw [h, if_neg (fun e => e rfl), if_neg (by rw [hf]; decide)]
theorem restart_fine {rs : List Nat} {ws ms : List Int} {i : Int} (h : readE rs = (ws, ms, i, 0)) (hf : formOk ws = true) : restartE rs = (stOf ws, 0) := by
 unfold restartE
 rw [h, if_neg (fun e => e rfl), if_pos hf]
theorem form_short {ws : List Int} (h : ws.length < 137) : formOk ws = false := by
 unfold formOk
 rw [decide_eq_false (by omega)]
 rfl
theorem form_len {ws : List Int} (h : (ws.length : Int) ≠ 137 + wAt ws 7 + wAt ws 8) : formOk ws = false := by
 unfold formOk
 have e : ((ws.length : Int) == 137 + wAt ws 7 + wAt ws 8) = false := by simpa using h
 rw [e]
 simp
theorem form_check {ws : List Int} (h1 : 137 ≤ ws.length) (h : (ws.length : Int) = 137 + wAt ws 7 + wAt ws 8) : formOk ws = ((checkQ (stOf ws)).2.2 == 0) := by
 unfold formOk
 rw [decide_eq_true h1, h]
 simp
end Go.Q
namespace Go.Proofs.YtnhpcoagkmgdoaaGreat
open Go.RowKit Go.Q Go.Shelf Go.Joins
attribute [local go_sem] Oper.semAt_some
/-- the call that catches a panic -/
def catchR (b0 : Nat) : Deferred := { target := .fn (.func 66) #[.pointer (some ⟨b0, 0, none⟩), .pointer (some ⟨b0 + 1, 0, none⟩)], args := #[] }
theorem leavesR_bad {n : Nat} {tmps : Array Value} {w W : World} {x : Int} {v0 v1 v2 v3 v4 v5 v6 v7 u : Value} (h0 : W.heap[w.heap.size]? = some (.cells #[v0, v1, v2, v3, v4, v5, v6, v7] 24 (0, 0))) (h1 : W.heap[w.heap.size + 1]? = some (.cells #[u] 26 (0, 0))) (hE : Ext w W)
  (t2 : tmps.getD 2 undef = .pointer (some ⟨w.heap.size, 0, none⟩)) (t3 : tmps.getD 3 undef = .pointer (some ⟨w.heap.size + 1, 0, none⟩)) :
  LeavesInM Fence.wide n Tryz.prog Tryz.f35 tmps (StRes (zst, x) w) [catchR w.heap.size] (.panicking (errP x)) W := by
 refine ⟨by simp, .inr ⟨nofun, .func 66, _, 66, _, rfl, (by simp [invoke, go_sem, catchR]; rfl), fun _ _ => trivial, ?_⟩⟩
 refine (rest_caught w.heap.size x v0 v1 v2 v3 v4 v5 v6 v7 u W (n - 1) h0 h1).mono ?_
 rintro e u' w2 ⟨rfl, hu, hC⟩
 dsimp only
 rw [hu]
 have c0 := cell_of_cells hC.c0 0 (v := .slice none 0 0) rfl
 have c1 := cell_of_cells hC.c0 1 (v := .slice none 0 0) rfl
 have c2 := cell_of_cells hC.c0 2 (v := .int .i64 0) rfl
 have c3 := cell_of_cells hC.c0 3 (v := .slice none 0 0) rfl
 have c4 := cell_of_cells hC.c0 4 (v := .int .i64 0) rfl
 have c5 := cell_of_cells hC.c0 5 (v := .int .i64 0) rfl
 have c6 := cell_of_cells hC.c0 6 (v := .int .i64 0) rfl
 have c7 := cell_of_cells hC.c0 7 (v := .int .i64 0) rfl
 have d0 := cell_of_cells hC.c1 0 (v := .int .i64 x) rfl
 refine ⟨.tuple #[.agg zsv, .int .i64 x], ?_, .agg zsv, rfl, ⟨none, none, none, 0, 0, 0, rfl, .inl rfl, .inl rfl, .inl rfl⟩, ?_⟩
 ·rw [Array.getD_eq_getD_getElem?] at t2 t3
  simp [results, Tryz.results35, go_sem, t2, t3, c0, c1, c2, c3, c4, c5, c6, c7, d0]
 ·exact hC.kp.below hE (Nat.le_refl _) (fun b hb => by omega)
theorem leavesR_good {n : Nat} {tmps : Array Value} {w W : World} {x : Int} {s : St} {a1 a2 a3 : Option Addr} {k1 k2 k3 : Nat} (h0 : W.heap[w.heap.size]? = some (.cells #[.slice a1 s.store.length k1, .slice a2 s.tape.length k2, .int .i64 s.taken, .slice a3 s.printed.length k3, .int .i64 s.time, .int .i64 s.at_, .int .i64 s.done, .int .i64 s.why] 24 (0, 0))) (h1 : W.heap[w.heap.size + 1]? = some (.cells #[.int .i64 x] 26 (0, 0)))
  (i1 : IntsAt W a1 s.store) (i2 : IntsAt W a2 s.tape) (i3 : IntsAt W a3 s.printed) (hE : Ext w W)
  (t2 : tmps.getD 2 undef = .pointer (some ⟨w.heap.size, 0, none⟩)) (t3 : tmps.getD 3 undef = .pointer (some ⟨w.heap.size + 1, 0, none⟩)) :
  LeavesInM Fence.wide n Tryz.prog Tryz.f35 tmps (StRes (s, x) w) [catchR w.heap.size] .returning W := by
 refine ⟨by simp, .inr ⟨nofun, .func 66, _, 66, _, rfl, (by simp [invoke, go_sem, catchR]; rfl), fun _ _ => trivial, ?_⟩⟩
 refine (rest_idle w.heap.size W (n - 1)).mono ?_
 rintro e u' w2 ⟨rfl, rfl, rfl⟩
 have c0 := cell_of_cells h0 0 (v := .slice a1 s.store.length k1) rfl
 have c1 := cell_of_cells h0 1 (v := .slice a2 s.tape.length k2) rfl
 have c2 := cell_of_cells h0 2 (v := .int .i64 s.taken) rfl
 have c3 := cell_of_cells h0 3 (v := .slice a3 s.printed.length k3) rfl
 have c4 := cell_of_cells h0 4 (v := .int .i64 s.time) rfl
 have c5 := cell_of_cells h0 5 (v := .int .i64 s.at_) rfl
 have c6 := cell_of_cells h0 6 (v := .int .i64 s.done) rfl
 have c7 := cell_of_cells h0 7 (v := .int .i64 s.why) rfl
 have d0 := cell_of_cells h1 0 (v := .int .i64 x) rfl
 refine ⟨.tuple #[sv a1 a2 a3 s.store.length k1 s.tape.length k2 s.printed.length k3 s.taken s.time s.at_ s.done s.why, .int .i64 x], ?_, _, rfl, ⟨a1, a2, a3, k1, k2, k3, rfl, i1, i2, i3⟩, hE⟩
 rw [Array.getD_eq_getD_getElem?] at t2 t3
 simp [results, Tryz.results35, go_sem, t2, t3, c0, c1, c2, c3, c4, c5, c6, c7, d0]
/-- the boxes of the results and what is left to read -/
structure RsAt (w : World) (rb : Nat) (W : World) (vs : Array Value) (ev : Value) (xs : List Int) : Prop where
 b0 : W.heap[w.heap.size]? = some (.cells vs 24 (0, 0))
 b1 : W.heap[w.heap.size + 1]? = some (.cells #[ev] 26 (0, 0))
 left : LeftI W rb (w.heap.size + 2) xs
 ext : Ext w W
 hrb : w.heap.size + 1 < rb
theorem RsAt.next {w : World} {rb : Nat} {W Y : World} {vs : Array Value} {ev : Value} {xs ys : List Int} (h : RsAt w rb W vs ev xs) (hl : LeftI Y rb (w.heap.size + 2) ys) (k : KpM (fun q => q = rb) W Y) : RsAt w rb Y vs ev ys :=
 ⟨(k.block _ (lt_of_block h.b0) (by have := h.hrb; omega)).trans h.b0, (k.block _ (lt_of_block h.b1) (by have := h.hrb; omega)).trans h.b1, hl, k.below h.ext (Nat.le_refl _) (fun b hb => by have := h.hrb; omega), h.hrb⟩
theorem RsAt.put {w : World} {rb : Nat} {W : World} {vs : Array Value} {ev : Value} {xs : List Int} (h : RsAt w rb W vs ev xs) (i : Nat) (v : Value) : RsAt w rb (W.setCell ⟨w.heap.size, i, none⟩ v) (vs.setIfInBounds i v) ev xs :=
 ⟨cells_set h.b0 i v, (Below.heap_setCell W _ v _ (show w.heap.size + 1 ≠ w.heap.size by omega)).trans h.b1, h.left.kp (M := fun q => q = w.heap.size) (kpm_set W _ i v rfl) (by have := h.hrb; omega) (fun b h1 h2 e => by omega), h.ext.setCell (p := ⟨w.heap.size, i, none⟩) (Nat.le_refl _) v, h.hrb⟩
theorem RsAt.err {w : World} {rb : Nat} {W : World} {vs : Array Value} {ev : Value} {xs : List Int} (h : RsAt w rb W vs ev xs) (v : Value) : RsAt w rb (W.setCell ⟨w.heap.size + 1, 0, none⟩ v) vs v xs :=
 ⟨(Below.heap_setCell W _ v _ (show w.heap.size ≠ w.heap.size + 1 by omega)).trans h.b0, by have := cells_set h.b1 0 v; simpa using this, h.left.kp (M := fun q => q = w.heap.size + 1) (kpm_set W _ 0 v rfl) (by have := h.hrb; omega) (fun b h1 h2 e => by omega), h.ext.setCell (p := ⟨w.heap.size + 1, 0, none⟩) (Nat.le_succ _) v, h.hrb⟩
theorem RsAt.ext' {w : World} {rb : Nat} {W Y : World} {vs : Array Value} {ev : Value} {xs : List Int} (h : RsAt w rb W vs ev xs) (E : Ext W Y) : RsAt w rb Y vs ev xs :=
 ⟨(E.block _ (lt_of_block h.b0)).trans h.b0, (E.block _ (lt_of_block h.b1)).trans h.b1, h.left.ext E, h.ext.comp E, h.hrb⟩
theorem read_words_ok (rs : List Nat) : wordOk (readE rs).1 := by
 unfold readE
 split
 ·exact fun x hx => wordsN_ok rs (rs.length / 65) x (List.mem_of_mem_drop (List.mem_of_mem_take hx))
 ·split
  ·exact fun x hx => by cases hx
  ·exact fun x hx => by cases hx
set_option maxRecDepth 100000 in
set_option maxHeartbeats 8000000 in
theorem lrestart_any (a : Option Addr) (n c : Nat) (rs : List Nat) (w : World) (hn : rs.length = n) (hbig : n ≤ c ∧ c ≤ 9223372036854775807) (hI : BytesAt w a (natI rs)) (h256 : ∀ r ∈ rs, r < 256) :
  Calls Tryz.prog 35 #[.slice a n c] w (StRes (restartE rs) w) := by
 have hwo := read_words_ok rs
 have hrd := fun W (E : Ext w W) => lreadN_any a n c rs W hn hbig (hI.ext E) h256
 obtain ⟨⟨ws, mds, ix, er⟩, hre⟩ : ∃ v, readE rs = v := ⟨_, rfl⟩
 rw [hre] at hrd hwo
 dsimp only at hwo
 have HRE := Lib.hid hre
 have HWO := Lib.hid hwo
 clear hn hbig hI h256 hwo hre
 have hmf : ∀ (fn : Fn) (first cap : Array Value) (w : World), (Instr.makeFunc fn first cap).run Tryz.prog w = .ok (.func fn first cap) w := fun _ _ _ _ => rfl
 have E0 := ((Ext.refl w).alloc (.cells zsv 24)).alloc (.cells #[.int .i64 0] 26)
 have h0 : ((w.alloc (.cells zsv 24)).alloc (.cells #[.int .i64 0] 26)).heap[w.heap.size]? = some (.cells zsv 24 (0, 0)) := (Below.heap_alloc _ _ _ (by simp)).trans (heap_alloc_new w _)
 have h1 : ((w.alloc (.cells zsv 24)).alloc (.cells #[.int .i64 0] 26)).heap[w.heap.size + 1]? = some (.cells #[.int .i64 0] 26 (0, 0)) := by
  have := heap_alloc_new (w.alloc (.cells zsv 24)) (.cells #[.int .i64 0] 26)
  rw [World.size_alloc] at this
  exact this
 refine (callsIn_wide (n := 9)).1 ?_
 refine callsIn_of_wp_marks Tryz.func35 rfl trivial ?_ rfl
 simp only [Tryz.ntmps35, List.size_toArray, List.length_cons, List.length_nil, Nat.reduceAdd, Nat.reduceSub, Array.replicate_succ, Array.replicate_zero, List.push_toArray, List.append_toArray, List.nil_append, List.cons_append]
 refine wpIn_wide.2 ?_
 go_wp2_with fail
 refine (hrd _ E0).mono ?_
 rintro e w1 ⟨wa, wc, ma, mc, rfl, hcw, hcm, hIw, hIm, E1, hob⟩
 have hbl : ∀ b, wa.map (·.block) = some b → w.heap.size + 2 ≤ b := fun b e => by have := hob.1 b e; simpa using this
 have EW := E0.comp E1
 have h0' := (E1.block _ (lt_of_block h0)).trans h0
 have h1' := (E1.block _ (lt_of_block h1)).trans h1
 have hlt2 : w.heap.size + 1 < w1.heap.size := lt_of_block h1'
 have c1 := cell_of_cells h1' 0 (v := .int .i64 0) rfl
 have f1 := free_of_cells h1' 0
 clear hob hIm E1 E0 h0 h1 hrd
 by_cases he : er = 0
 ·subst he
  obtain ⟨rb, hrb⟩ : ∃ rb, w1.heap.size = rb := ⟨_, rfl⟩
  have k1 := cells_set h1' 0 (.int .i64 0)
  have k0 := (Below.heap_setCell w1 ⟨w.heap.size + 1, 0, none⟩ (.int .i64 0) _ (show w.heap.size ≠ w.heap.size + 1 by omega)).trans h0'
  have EX := EW.setCell (p := ⟨w.heap.size + 1, 0, none⟩) (Nat.le_succ _) (.int .i64 0)
  have hIx := ints_kp hIw (kpm_set (M := fun q => q = w.heap.size + 1) w1 (w.heap.size + 1) 0 (.int .i64 0) rfl) (fun b e q => by have := hbl b e; omega)
  cases ws with
  | nil =>
   have hR : ∀ x : Value, ((w1.setCell ⟨w.heap.size + 1, 0, none⟩ (.int .i64 0)).alloc (.cells #[x] 122)).heap[rb]? = some (.cells #[x] 122 (0, 0)) := fun x => by
    have := heap_alloc_new (w1.setCell ⟨w.heap.size + 1, 0, none⟩ (.int .i64 0)) (.cells #[x] 122)
    rw [World.size_setCell, hrb] at this
    exact this
   have hb0 := (Below.heap_alloc (w1.setCell ⟨w.heap.size + 1, 0, none⟩ (.int .i64 0)) (.cells #[.slice wa 0 wc] 122) _ (lt_of_block k0)).trans k0
   have hb1 := (Below.heap_alloc (w1.setCell ⟨w.heap.size + 1, 0, none⟩ (.int .i64 0)) (.cells #[.slice wa 0 wc] 122) _ (lt_of_block k1)).trans k1
   have hEx := EX.alloc (Nat.le_trans EX.size (Nat.le_refl _)) (.cells #[.slice wa 0 wc] 122)
   have HZ := Lib.hid (restart_form HRE.out (form_short (by decide)))
   have hon := one_bad rb wa wc ((w1.setCell ⟨w.heap.size + 1, 0, none⟩ (.int .i64 0)).alloc (.cells #[.slice wa 0 wc] 122)) (hR _)
   (try simp at hb1)
   rw [show ([] : List Int).length = 0 from rfl]
   clear hR hIx hIw h0' h1' k0 k1
   go_wp2_with fail
   refine hon.mono ?_
   rintro e w2 ⟨rfl, rfl⟩
   rw [HZ.out]
   exact leavesR_bad hb0 hb1 hEx rfl rfl
  | cons x0 xs0 =>
   obtain ⟨b, off, rfl, hbs, hbc⟩ : ∃ b off, wa = some ⟨b, off, none⟩ ∧ b < w1.heap.size ∧ ∀ i, i < (x0 :: xs0).length → w1.cell? ⟨b, off + i, none⟩ = some (.int .i64 ((x0 :: xs0)[i]?.getD 0)) := by
    rcases hIw with h | h
    ·cases h
    ·exact h
   have hb2 : w.heap.size + 2 ≤ b := hbl b rfl
   obtain ⟨n0, hn0⟩ : ∃ n0, (x0 :: xs0).length = n0 := ⟨_, rfl⟩
   obtain ⟨W1, hW1⟩ : ∃ W1, (w1.setCell ⟨w.heap.size + 1, 0, none⟩ (.int .i64 0)).alloc (.cells #[.slice (some ⟨b, off, none⟩) n0 wc] 122) = W1 := ⟨_, rfl⟩
   have R0 : RsAt w rb W1 zsv (.int .i64 0) (x0 :: xs0) := by
    rw [← hW1]
    refine ⟨(Below.heap_alloc _ _ _ (lt_of_block k0)).trans k0, ?_, ⟨b, off, wc, ?_, by rw [hn0] at hcw; rw [hn0]; exact hcw, ⟨hb2, by omega⟩, ?_, fun i hi => ?_⟩, EX.alloc EX.size _, by omega⟩
    ·have := (Below.heap_alloc (w1.setCell ⟨w.heap.size + 1, 0, none⟩ (.int .i64 0)) (.cells #[.slice (some ⟨b, off, none⟩) n0 wc] 122) _ (lt_of_block k1)).trans k1
     simpa using this
    ·have := heap_alloc_new (w1.setCell ⟨w.heap.size + 1, 0, none⟩ (.int .i64 0)) (.cells #[.slice (some ⟨b, off, none⟩) n0 wc] 122)
     rw [World.size_setCell, hrb] at this
     rw [hn0]
     exact this
    ·simp; omega
    ·refine (World.cell?_of_block (w := w1) (a := ⟨b, off + i, none⟩) ?_).trans (hbc i hi)
     exact (Below.heap_alloc _ _ _ (by simpa using hbs)).trans (Below.heap_setCell w1 ⟨w.heap.size + 1, 0, none⟩ (.int .i64 0) b (show b ≠ w.heap.size + 1 by omega))
   rw [hn0]
   clear hIx hIw h0' h1' k0 k1 hbc EX EW hbl
   go_wp2_with fail
   clear hW1 hrb c1 f1
   refine (one_ok rb (w.heap.size + 2) x0 xs0 W1 R0.left).mono ?_
   rintro e W2 ⟨rfl, hL, hK⟩
   have R2 := R0.next hL hK
   clear hL hK
   have hx0 := HWO.out x0 (by simp)
   have hx0a := hx0.1
   have hx0b := hx0.2
   clear hx0
   cases xs0 with
   | nil =>
    go_wp2_with fail
    obtain ⟨b9, off9, c9, hb9, _⟩ := R2.left
    refine (one_bad rb _ _ W2 hb9).mono ?_
    rintro e w9 ⟨rfl, rfl⟩
    have HZ := Lib.hid (restart_form HRE.out (form_short (by simp)))
    have hb0 := R2.b0
    have hb1 := R2.b1
    have hEx := R2.ext
    (try simp at hb0)
    rw [HZ.out]
    exact leavesR_bad hb0 hb1 hEx rfl rfl
   | cons x1 xs1 =>
    go_wp2_with fail
    refine (one_ok rb (w.heap.size + 2) x1 xs1 W2 R2.left).mono ?_
    rintro e W3 ⟨rfl, hL, hK⟩
    have R3 := R2.next hL hK
    clear hL hK
    have hx1 := HWO.out x1 (by simp)
    have hx1a := hx1.1
    have hx1b := hx1.2
    clear hx1
    cases xs1 with
    | nil =>
     go_wp2_with fail
     obtain ⟨b9, off9, c9, hb9, _⟩ := R3.left
     refine (one_bad rb _ _ W3 hb9).mono ?_
     rintro e w9 ⟨rfl, rfl⟩
     have HZ := Lib.hid (restart_form HRE.out (form_short (by simp)))
     have hb0 := R3.b0
     have hb1 := R3.b1
     have hEx := R3.ext
     (try simp at hb0)
     rw [HZ.out]
     exact leavesR_bad hb0 hb1 hEx rfl rfl
    | cons x2 xs2 =>
     go_wp2_with fail
     refine (one_ok rb (w.heap.size + 2) x2 xs2 W3 R3.left).mono ?_
     rintro e W4 ⟨rfl, hL, hK⟩
     have R4 := R3.next hL hK
     clear hL hK
     have hx2 := HWO.out x2 (by simp)
     have hx2a := hx2.1
     have hx2b := hx2.2
     clear hx2
     cases xs2 with
     | nil =>
      have c4 := cell_of_cells R4.b0 4 (v := .int .i64 0) rfl
      have f4 := free_of_cells R4.b0 4
      have c5 := cell_of_cells R4.b0 5 (v := .int .i64 0) rfl
      have f5 := free_of_cells R4.b0 5
      go_wp2_with fail
      have RP := ((R4.put 4 (.int .i64 (x1 * 16777216 + x0))).put 5 (.int .i64 (x2)))
      obtain ⟨WP, hWP⟩ : ∃ WP, ((W4.setCell ⟨w.heap.size, 4, none⟩ (.int .i64 (x1 * 16777216 + x0))).setCell ⟨w.heap.size, 5, none⟩ (.int .i64 (x2))) = WP := ⟨_, rfl⟩
      rw [hWP] at RP
      rw [hWP]
      obtain ⟨b9, off9, c9, hb9, _⟩ := RP.left
      refine (one_bad rb _ _ WP hb9).mono ?_
      rintro e w9 ⟨rfl, rfl⟩
      have HZ := Lib.hid (restart_form HRE.out (form_short (by simp)))
      have hb0 := RP.b0
      have hb1 := RP.b1
      have hEx := RP.ext
      (try simp at hb0)
      rw [HZ.out]
      exact leavesR_bad hb0 hb1 hEx rfl rfl
     | cons x3 xs3 =>
      have c4 := cell_of_cells R4.b0 4 (v := .int .i64 0) rfl
      have f4 := free_of_cells R4.b0 4
      have c5 := cell_of_cells R4.b0 5 (v := .int .i64 0) rfl
      have f5 := free_of_cells R4.b0 5
      go_wp2_with fail
      have RP := ((R4.put 4 (.int .i64 (x1 * 16777216 + x0))).put 5 (.int .i64 (x2)))
      obtain ⟨WP, hWP⟩ : ∃ WP, ((W4.setCell ⟨w.heap.size, 4, none⟩ (.int .i64 (x1 * 16777216 + x0))).setCell ⟨w.heap.size, 5, none⟩ (.int .i64 (x2))) = WP := ⟨_, rfl⟩
      rw [hWP] at RP
      rw [hWP]
      refine (one_ok rb (w.heap.size + 2) x3 xs3 WP RP.left).mono ?_
      rintro e W5 ⟨rfl, hL, hK⟩
      have R5 := RP.next hL hK
      clear hL hK
      have hx3 := HWO.out x3 (by simp)
      have hx3a := hx3.1
      have hx3b := hx3.2
      clear hx3
      clear hWP RP
      clear c4 f4
      clear c5 f5
      cases xs3 with
      | nil =>
       go_wp2_with fail
       obtain ⟨b9, off9, c9, hb9, _⟩ := R5.left
       refine (one_bad rb _ _ W5 hb9).mono ?_
       rintro e w9 ⟨rfl, rfl⟩
       have HZ := Lib.hid (restart_form HRE.out (form_short (by simp)))
       have hb0 := R5.b0
       have hb1 := R5.b1
       have hEx := R5.ext
       (try simp at hb0)
       rw [HZ.out]
       exact leavesR_bad hb0 hb1 hEx rfl rfl
      | cons x4 xs4 =>
       go_wp2_with fail
       refine (one_ok rb (w.heap.size + 2) x4 xs4 W5 R5.left).mono ?_
       rintro e W6 ⟨rfl, hL, hK⟩
       have R6 := R5.next hL hK
       clear hL hK
       have hx4 := HWO.out x4 (by simp)
       have hx4a := hx4.1
       have hx4b := hx4.2
       clear hx4
       cases xs4 with
       | nil =>
        go_wp2_with fail
        obtain ⟨b9, off9, c9, hb9, _⟩ := R6.left
        refine (one_bad rb _ _ W6 hb9).mono ?_
        rintro e w9 ⟨rfl, rfl⟩
        have HZ := Lib.hid (restart_form HRE.out (form_short (by simp)))
        have hb0 := R6.b0
        have hb1 := R6.b1
        have hEx := R6.ext
        (try simp at hb0)
        rw [HZ.out]
        exact leavesR_bad hb0 hb1 hEx rfl rfl
       | cons x5 xs5 =>
        go_wp2_with fail
        refine (one_ok rb (w.heap.size + 2) x5 xs5 W6 R6.left).mono ?_
        rintro e W7 ⟨rfl, hL, hK⟩
        have R7 := R6.next hL hK
        clear hL hK
        have hx5 := HWO.out x5 (by simp)
        have hx5a := hx5.1
        have hx5b := hx5.2
        clear hx5
        cases xs5 with
        | nil =>
         go_wp2_with fail
         obtain ⟨b9, off9, c9, hb9, _⟩ := R7.left
         refine (one_bad rb _ _ W7 hb9).mono ?_
         rintro e w9 ⟨rfl, rfl⟩
         have HZ := Lib.hid (restart_form HRE.out (form_short (by simp)))
         have hb0 := R7.b0
         have hb1 := R7.b1
         have hEx := R7.ext
         (try simp at hb0)
         rw [HZ.out]
         exact leavesR_bad hb0 hb1 hEx rfl rfl
        | cons x6 xs6 =>
         go_wp2_with fail
         refine (one_ok rb (w.heap.size + 2) x6 xs6 W7 R7.left).mono ?_
         rintro e W8 ⟨rfl, hL, hK⟩
         have R8 := R7.next hL hK
         clear hL hK
         have hx6 := HWO.out x6 (by simp)
         have hx6a := hx6.1
         have hx6b := hx6.2
         clear hx6
         cases xs6 with
         | nil =>
          have c6 := cell_of_cells R8.b0 6 (v := .int .i64 0) rfl
          have f6 := free_of_cells R8.b0 6
          have c7 := cell_of_cells R8.b0 7 (v := .int .i64 0) rfl
          have f7 := free_of_cells R8.b0 7
          have c2 := cell_of_cells R8.b0 2 (v := .int .i64 0) rfl
          have f2 := free_of_cells R8.b0 2
          go_wp2_with fail
          have RP := (((R8.put 6 (.int .i64 (x4 * 16777216 + x3))).put 7 (.int .i64 (x5))).put 2 (.int .i64 (x6)))
          obtain ⟨WP, hWP⟩ : ∃ WP, (((W8.setCell ⟨w.heap.size, 6, none⟩ (.int .i64 (x4 * 16777216 + x3))).setCell ⟨w.heap.size, 7, none⟩ (.int .i64 (x5))).setCell ⟨w.heap.size, 2, none⟩ (.int .i64 (x6))) = WP := ⟨_, rfl⟩
          rw [hWP] at RP
          rw [hWP]
          obtain ⟨b9, off9, c9, hb9, _⟩ := RP.left
          refine (one_bad rb _ _ WP hb9).mono ?_
          rintro e w9 ⟨rfl, rfl⟩
          have HZ := Lib.hid (restart_form HRE.out (form_short (by simp)))
          have hb0 := RP.b0
          have hb1 := RP.b1
          have hEx := RP.ext
          (try simp at hb0)
          rw [HZ.out]
          exact leavesR_bad hb0 hb1 hEx rfl rfl
         | cons x7 xs7 =>
          have c6 := cell_of_cells R8.b0 6 (v := .int .i64 0) rfl
          have f6 := free_of_cells R8.b0 6
          have c7 := cell_of_cells R8.b0 7 (v := .int .i64 0) rfl
          have f7 := free_of_cells R8.b0 7
          have c2 := cell_of_cells R8.b0 2 (v := .int .i64 0) rfl
          have f2 := free_of_cells R8.b0 2
          go_wp2_with fail
          have RP := (((R8.put 6 (.int .i64 (x4 * 16777216 + x3))).put 7 (.int .i64 (x5))).put 2 (.int .i64 (x6)))
          obtain ⟨WP, hWP⟩ : ∃ WP, (((W8.setCell ⟨w.heap.size, 6, none⟩ (.int .i64 (x4 * 16777216 + x3))).setCell ⟨w.heap.size, 7, none⟩ (.int .i64 (x5))).setCell ⟨w.heap.size, 2, none⟩ (.int .i64 (x6))) = WP := ⟨_, rfl⟩
          rw [hWP] at RP
          rw [hWP]
          refine (one_ok rb (w.heap.size + 2) x7 xs7 WP RP.left).mono ?_
          rintro e W9 ⟨rfl, hL, hK⟩
          have R9 := RP.next hL hK
          clear hL hK
          have hx7 := HWO.out x7 (by simp)
          have hx7a := hx7.1
          have hx7b := hx7.2
          clear hx7
          clear hWP RP
          clear c6 f6
          clear c7 f7
          clear c2 f2
          cases xs7 with
          | nil =>
           go_wp2_with fail
           obtain ⟨b9, off9, c9, hb9, _⟩ := R9.left
           refine (one_bad rb _ _ W9 hb9).mono ?_
           rintro e w9 ⟨rfl, rfl⟩
           have HZ := Lib.hid (restart_form HRE.out (form_short (by simp)))
           have hb0 := R9.b0
           have hb1 := R9.b1
           have hEx := R9.ext
           (try simp at hb0)
           rw [HZ.out]
           exact leavesR_bad hb0 hb1 hEx rfl rfl
          | cons x8 xs8 =>
           go_wp2_with fail
           refine (one_ok rb (w.heap.size + 2) x8 xs8 W9 R9.left).mono ?_
           rintro e W10 ⟨rfl, hL, hK⟩
           have R10 := R9.next hL hK
           clear hL hK
           have hx8 := HWO.out x8 (by simp)
           have hx8a := hx8.1
           have hx8b := hx8.2
           clear hx8
           obtain ⟨n7, hn7⟩ : ∃ n7 : Nat, x7 = (n7 : Int) := ⟨x7.toNat, by omega⟩
           obtain ⟨n8, hn8⟩ : ∃ n8 : Nat, x8 = (n8 : Int) := ⟨x8.toNat, by omega⟩
           subst hn7 hn8
           have HL9 : Hid ((x0 :: x1 :: x2 :: x3 :: x4 :: x5 :: x6 :: (n7 : Int) :: (n8 : Int) :: xs8).length = 9 + xs8.length) := Lib.hid (by simp only [List.length_cons]; omega)
           by_cases h128 : xs8.length < 128
           ·go_wp2_with fail
            obtain ⟨b9, off9, c9, hb9, _⟩ := R10.left
            refine (take_bad rb _ _ _ 128 W10 hb9 (by omega) (by decide)).mono ?_
            rintro e w9 ⟨rfl, rfl⟩
            have HZ := Lib.hid (restart_form HRE.out (form_short (by rw [HL9.out]; omega)))
            have hb0 := R10.b0
            have hb1 := R10.b1
            have hEx := R10.ext
            (try simp at hb0)
            rw [HZ.out]
            exact leavesR_bad hb0 hb1 hEx rfl rfl
           ·go_wp2_with fail
            refine (take_ok rb (w.heap.size + 2) 128 xs8 W10 R10.left (by omega) (by decide)).mono ?_
            rintro e WA ⟨a1, k1, rfl, i1, o1, hL, hK⟩
            have RA := R10.next hL hK
            obtain ⟨y1, hy1⟩ : ∃ y1, xs8.drop 128 = y1 := ⟨_, rfl⟩
            rw [hy1] at RA
            have hly1 : xs8.length = 128 + y1.length := by rw [← hy1, List.length_drop]; omega
            have hrbW : rb < W10.heap.size := by obtain ⟨b9, off9, c9, hb9, _⟩ := R10.left; exact lt_of_block hb9
            clear hL hK
            by_cases h7 : y1.length < n7
            ·go_wp2_with fail
             obtain ⟨b9, off9, c9, hb9, _⟩ := RA.left
             refine (take_bad rb _ _ _ (n7 : Int) WA hb9 (by omega) (by omega)).mono ?_
             rintro e w9 ⟨rfl, rfl⟩
             have HZ := Lib.hid (restart_form HRE.out (form_len (by rw [HL9.out]; show _ ≠ 137 + (n7 : Int) + (n8 : Int); omega)))
             have hb0 := RA.b0
             have hb1 := RA.b1
             have hEx := RA.ext
             (try simp at hb0)
             rw [HZ.out]
             exact leavesR_bad hb0 hb1 hEx rfl rfl
            ·go_wp2_with fail
             refine (take_ok rb (w.heap.size + 2) n7 y1 WA RA.left (by omega) (by omega)).mono ?_
             rintro e WB ⟨a2, k2, rfl, i2, o2, hL, hK⟩
             have RB := RA.next hL hK
             have i1B := ints_kp i1 hK (fun b e q => by have := o1 b e; omega)
             obtain ⟨y2, hy2⟩ : ∃ y2, y1.drop n7 = y2 := ⟨_, rfl⟩
             rw [hy2] at RB
             have hly2 : y1.length = n7 + y2.length := by rw [← hy2, List.length_drop]; omega
             have hsB := hK.size
             have hrbA : rb < WA.heap.size := by obtain ⟨b9, off9, c9, hb9, _⟩ := RA.left; exact lt_of_block hb9
             clear hL hK i1
             by_cases h8 : y2.length < n8
             ·go_wp2_with fail
              obtain ⟨b9, off9, c9, hb9, _⟩ := RB.left
              refine (take_bad rb _ _ _ (n8 : Int) WB hb9 (by omega) (by omega)).mono ?_
              rintro e w9 ⟨rfl, rfl⟩
              have HZ := Lib.hid (restart_form HRE.out (form_len (by rw [HL9.out]; show _ ≠ 137 + (n7 : Int) + (n8 : Int); omega)))
              have hb0 := RB.b0
              have hb1 := RB.b1
              have hEx := RB.ext
              (try simp at hb0)
              rw [HZ.out]
              exact leavesR_bad hb0 hb1 hEx rfl rfl
             ·go_wp2_with fail
              refine (take_ok rb (w.heap.size + 2) n8 y2 WB RB.left (by omega) (by omega)).mono ?_
              rintro e WC ⟨a3, k3, rfl, i3, o3, hL, hK⟩
              have RC := RB.next hL hK
              have i1C := ints_kp i1B hK (fun b e q => by have := o1 b e; omega)
              have i2C := ints_kp i2 hK (fun b e q => by have := o2 b e; omega)
              obtain ⟨y3, hy3⟩ : ∃ y3, y2.drop n8 = y3 := ⟨_, rfl⟩
              rw [hy3] at RC
              have hly3 : y2.length = n8 + y3.length := by rw [← hy3, List.length_drop]; omega
              have hrbB : rb < WB.heap.size := by obtain ⟨b9, off9, c9, hb9, _⟩ := RB.left; exact lt_of_block hb9
              clear hL hK i1B i2
              obtain ⟨t1, ht1⟩ : ∃ t1, xs8.take 128 = t1 := ⟨_, rfl⟩
              obtain ⟨t2, ht2⟩ : ∃ t2, y1.take n7 = t2 := ⟨_, rfl⟩
              obtain ⟨t3, ht3⟩ : ∃ t3, y2.take n8 = t3 := ⟨_, rfl⟩
              have l1 : t1.length = 128 := by rw [← ht1, List.length_take]; omega
              have l2 : t2.length = n7 := by rw [← ht2, List.length_take]; omega
              have l3 : t3.length = n8 := by rw [← ht3, List.length_take]; omega
              rw [ht1] at i1C
              rw [ht2] at i2C
              rw [ht3] at i3
              have RP := (((RC.put 0 (.slice a1 128 k1)).put 1 (.slice a2 n7 k2)).put 3 (.slice a3 n8 k3))
              have KP : KpM (fun q => q = w.heap.size) WC (((WC.setCell ⟨w.heap.size, 0, none⟩ (.slice a1 128 k1)).setCell ⟨w.heap.size, 1, none⟩ (.slice a2 n7 k2)).setCell ⟨w.heap.size, 3, none⟩ (.slice a3 n8 k3)) := ((kpm_set (M := fun q => q = w.heap.size) _ _ _ _ rfl).trans (kpm_set (M := fun q => q = w.heap.size) _ _ _ _ rfl)).trans (kpm_set (M := fun q => q = w.heap.size) _ _ _ _ rfl)
              have hrb := RC.hrb
              have i1D := ints_kp i1C KP (fun b e q => by have := o1 b e; omega)
              have i2D := ints_kp i2C KP (fun b e q => by have := o2 b e; omega)
              have i3D := ints_kp i3 KP (fun b e q => by have := o3 b e; omega)
              have c0 := cell_of_cells RC.b0 0 (v := .slice none 0 0) rfl
              have f0 := free_of_cells RC.b0 0
              have c1 := cell_of_cells RC.b0 1 (v := .slice none 0 0) rfl
              have f1 := free_of_cells RC.b0 1
              have c3 := cell_of_cells RC.b0 3 (v := .slice none 0 0) rfl
              have f3 := free_of_cells RC.b0 3
              obtain ⟨WP, hWP⟩ : ∃ WP, (((WC.setCell ⟨w.heap.size, 0, none⟩ (.slice a1 128 k1)).setCell ⟨w.heap.size, 1, none⟩ (.slice a2 n7 k2)).setCell ⟨w.heap.size, 3, none⟩ (.slice a3 n8 k3)) = WP := ⟨_, rfl⟩
              rw [hWP] at RP i1D i2D i3D
              have hB0 : WP.heap[w.heap.size]? = some (.cells #[.slice a1 128 k1, .slice a2 n7 k2, .int .i64 x6, .slice a3 n8 k3, .int .i64 (x1 * 16777216 + x0), .int .i64 x2, .int .i64 (x4 * 16777216 + x3), .int .i64 x5] 24 (0, 0)) := by simpa using RP.b0
              have z0 := cell_of_cells hB0 0 (v := .slice a1 128 k1) rfl
              have g0 := free_of_cells hB0 0
              have z1 := cell_of_cells hB0 1 (v := .slice a2 n7 k2) rfl
              have g1 := free_of_cells hB0 1
              have z2 := cell_of_cells hB0 2 (v := .int .i64 x6) rfl
              have g2 := free_of_cells hB0 2
              have z3 := cell_of_cells hB0 3 (v := .slice a3 n8 k3) rfl
              have g3 := free_of_cells hB0 3
              have z4 := cell_of_cells hB0 4 (v := .int .i64 (x1 * 16777216 + x0)) rfl
              have g4 := free_of_cells hB0 4
              have z5 := cell_of_cells hB0 5 (v := .int .i64 x2) rfl
              have g5 := free_of_cells hB0 5
              have z6 := cell_of_cells hB0 6 (v := .int .i64 (x4 * 16777216 + x3)) rfl
              have g6 := free_of_cells hB0 6
              have z7 := cell_of_cells hB0 7 (v := .int .i64 x5) rfl
              have g7 := free_of_cells hB0 7
              obtain ⟨S, hS⟩ : ∃ S : St, S = ⟨t1, t2, x6, t3, x1 * 16777216 + x0, x2, x4 * 16777216 + x3, x5⟩ := ⟨_, rfl⟩
              have hck : Calls Tryz.prog 42 #[.agg #[.slice a1 128 k1, .slice a2 n7 k2, .int .i64 x6, .slice a3 n8 k3, .int .i64 (x1 * 16777216 + x0), .int .i64 x2, .int .i64 (x4 * 16777216 + x3), .int .i64 x5]] WP fun e w' => e = .returned (v3 (checkQ S)) ∧ Ext WP w' := by
               have := check_any (sv a1 a2 a3 S.store.length k1 S.tape.length k2 S.printed.length k3 S.taken S.time S.at_ S.done S.why) S WP ⟨a1, a2, a3, k1, k2, k3, rfl, by rw [hS]; exact i1D, by rw [hS]; exact i2D, by rw [hS]; exact i3D⟩ (by rw [hS]; exact ⟨by show t1.length ≤ _; omega, by show t2.length ≤ _; omega, by show t3.length ≤ _; omega⟩)
               rw [hS] at this
               rw [hS]
               dsimp only at this
               rw [l1, l2, l3] at this
               exact this
              have hQF : y3.length = 0 → ((x0 :: x1 :: x2 :: x3 :: x4 :: x5 :: x6 :: (n7 : Int) :: (n8 : Int) :: xs8).length : Int) = 137 + (n7 : Int) + (n8 : Int) ∧ stOf (x0 :: x1 :: x2 :: x3 :: x4 :: x5 :: x6 :: (n7 : Int) :: (n8 : Int) :: xs8) = S := fun h3 => by
               refine ⟨by rw [HL9.out]; omega, ?_⟩
               have e3 : t3 = y2 := by rw [← ht3, List.take_of_length_le (by omega)]
               rw [hS, e3, ← hy2, ← ht2, ← hy1, ← ht1]
               unfold stOf wAt
               have d9 : (x0 :: x1 :: x2 :: x3 :: x4 :: x5 :: x6 :: (n7 : Int) :: (n8 : Int) :: xs8).drop 9 = xs8 := rfl
               have d137 : (x0 :: x1 :: x2 :: x3 :: x4 :: x5 :: x6 :: (n7 : Int) :: (n8 : Int) :: xs8).drop 137 = xs8.drop 128 := by rw [show 137 = 9 + 128 from rfl, ← List.drop_drop, d9]
               have e7 : (x0 :: x1 :: x2 :: x3 :: x4 :: x5 :: x6 :: (n7 : Int) :: (n8 : Int) :: xs8)[7]?.getD 0 = (n7 : Int) := rfl
               rw [e7, Int.toNat_natCast, d9, ← List.drop_drop, d137]
               rfl
              obtain ⟨⟨q1, q2, q3⟩, hq⟩ : ∃ q, checkQ S = q := ⟨_, rfl⟩
              rw [hq] at hck
              unfold v3 at hck
              dsimp only at hck
              have HQ := Lib.hid hq
              have HQF := Lib.hid hQF
              have HS := Lib.hid hS
              have H1 := Lib.hid i1D
              have H2 := Lib.hid i2D
              have H3 := Lib.hid i3D
              have HL1 := Lib.hid l1
              have HL2 := Lib.hid l2
              have HL3 := Lib.hid l3
              clear hq hQF hS i1D i2D i3D i1C i2C i3 l1 l2 l3 ht1 ht2 ht3 hy1 hy2 hy3 R0 R2 R3 R4 R5 R6 R7 R8 R9 R10 RA RB RC KP
              go_wp2_with fail
              refine hck.mono ?_
              rintro e WD ⟨rfl, ED⟩
              have RD := RP.ext' ED
              have e1 := cell_of_cells RD.b1 0 (v := .int .i64 0) rfl
              have e2 := free_of_cells RD.b1 0
              have hD0 : WD.heap[w.heap.size]? = some (.cells #[.slice a1 128 k1, .slice a2 n7 k2, .int .i64 x6, .slice a3 n8 k3, .int .i64 (x1 * 16777216 + x0), .int .i64 x2, .int .i64 (x4 * 16777216 + x3), .int .i64 x5] 24 (0, 0)) := (ED.block _ (lt_of_block hB0)).trans hB0
              obtain ⟨b9, off9, c9, hb9, _⟩ := RD.left
              obtain ⟨nl, hnl⟩ : ∃ nl, y3.length = nl := ⟨_, rfl⟩
              rw [hnl] at hb9
              have r0 := blk_cell hb9 0 (v := .slice (some ⟨b9, off9, none⟩) nl c9) rfl
              have rf0 := blk_free hb9 0
              have u0 := cell_of_cells hD0 0 (v := .slice a1 128 k1) rfl
              have v0 := free_of_cells hD0 0
              have u1 := cell_of_cells hD0 1 (v := .slice a2 n7 k2) rfl
              have v1 := free_of_cells hD0 1
              have u2 := cell_of_cells hD0 2 (v := .int .i64 x6) rfl
              have v2 := free_of_cells hD0 2
              have u3 := cell_of_cells hD0 3 (v := .slice a3 n8 k3) rfl
              have v3 := free_of_cells hD0 3
              have u4 := cell_of_cells hD0 4 (v := .int .i64 (x1 * 16777216 + x0)) rfl
              have v4 := free_of_cells hD0 4
              have u5 := cell_of_cells hD0 5 (v := .int .i64 x2) rfl
              have v5 := free_of_cells hD0 5
              have u6 := cell_of_cells hD0 6 (v := .int .i64 (x4 * 16777216 + x3)) rfl
              have v6 := free_of_cells hD0 6
              have u7 := cell_of_cells hD0 7 (v := .int .i64 x5) rfl
              have v7 := free_of_cells hD0 7
              have HNL := Lib.hid hnl
              have HD0 := Lib.hid hD0
              have hrb2 := RD.hrb
              clear hnl hD0 hb9 hB0 RP hWP hck z0 g0 z1 g1 z2 g2 z3 g3 z4 g4 z5 g5 z6 g6 z7 g7 c0 f0 c1 f1 c3 f3
              by_cases hq3 : q3 = 0
              ·subst hq3
               by_cases hl0 : nl = 0
               ·subst hl0
                obtain ⟨hF1, hF2⟩ := HQF.out HNL.out
                have HZ : Hid (restartE rs = (S, 0)) := Lib.hid (by rw [restart_fine HRE.out (by rw [form_check (by rw [HL9.out]; omega) hF1, hF2, HQ.out]; rfl), hF2])
                have RE := (RD.err (.int .i64 0))
                have hE0 : (WD.setCell ⟨w.heap.size + 1, 0, none⟩ (.int .i64 0)).heap[w.heap.size]? = _ := (Below.heap_setCell WD ⟨w.heap.size + 1, 0, none⟩ (.int .i64 0) _ (show w.heap.size ≠ w.heap.size + 1 by omega)).trans HD0.out
                have e8 := s8_block (n0 := .slice a1 128 k1) (n1 := .slice a2 n7 k2) (n2 := .int .i64 x6) (n3 := .slice a3 n8 k3) (n4 := .int .i64 (x1 * 16777216 + x0)) (n5 := .int .i64 x2) (n6 := .int .i64 (x4 * 16777216 + x3)) (n7 := .int .i64 x5) hE0
                have k8 := s8_kp (M := fun q => q = w.heap.size ∨ q = w.heap.size + 1) (w := WD.setCell ⟨w.heap.size + 1, 0, none⟩ (.int .i64 0)) (b := w.heap.size) (n0 := .slice a1 128 k1) (n1 := .slice a2 n7 k2) (n2 := .int .i64 x6) (n3 := .slice a3 n8 k3) (n4 := .int .i64 (x1 * 16777216 + x0)) (n5 := .int .i64 x2) (n6 := .int .i64 (x4 * 16777216 + x3)) (n7 := .int .i64 x5) (.inl rfl)
                have kall := ((KpM.of_ext ED).trans (kpm_set (M := fun q => q = w.heap.size ∨ q = w.heap.size + 1) WD (w.heap.size + 1) 0 (.int .i64 0) (.inr rfl))).trans k8
                have hE1 := RE.b1
                have hE1b := ((s8_kp (M := fun q => q = w.heap.size) (w := WD.setCell ⟨w.heap.size + 1, 0, none⟩ (.int .i64 0)) (b := w.heap.size) (n0 := .slice a1 128 k1) (n1 := .slice a2 n7 k2) (n2 := .int .i64 x6) (n3 := .slice a3 n8 k3) (n4 := .int .i64 (x1 * 16777216 + x0)) (n5 := .int .i64 x2) (n6 := .int .i64 (x4 * 16777216 + x3)) (n7 := .int .i64 x5) rfl).block (w.heap.size + 1) (lt_of_block hE1) (by omega)).trans hE1
                have EE := k8.below RE.ext (Nat.le_refl _) (fun b hb => by omega)
                have ho1 : ∀ b, a1.map (·.block) = some b → ¬ (b = w.heap.size ∨ b = w.heap.size + 1) := fun b e q => by have := o1 b e; omega
                have ho2 : ∀ b, a2.map (·.block) = some b → ¬ (b = w.heap.size ∨ b = w.heap.size + 1) := fun b e q => by have := o2 b e; omega
                have ho3 : ∀ b, a3.map (·.block) = some b → ¬ (b = w.heap.size ∨ b = w.heap.size + 1) := fun b e q => by have := o3 b e; omega
                have j1 := ints_kp (ints_kp H1.out kall ho1) (kpm_set (M := fun q => q = w.heap.size ∨ q = w.heap.size + 1) _ (w.heap.size + 1) 0 (.int .i64 0) (.inr rfl)) ho1
                have j2 := ints_kp (ints_kp H2.out kall ho2) (kpm_set (M := fun q => q = w.heap.size ∨ q = w.heap.size + 1) _ (w.heap.size + 1) 0 (.int .i64 0) (.inr rfl)) ho2
                have j3 := ints_kp (ints_kp H3.out kall ho3) (kpm_set (M := fun q => q = w.heap.size ∨ q = w.heap.size + 1) _ (w.heap.size + 1) 0 (.int .i64 0) (.inr rfl)) ho3
                unfold S8 at e8 hE1b EE j1 j2 j3
                have HFIN := Lib.hid (And.intro e8 (And.intro hE1b (And.intro EE (And.intro j1 (And.intro j2 j3)))))
                clear e8 hE1b EE j1 j2 j3 k8 kall hE1 hE0 RE ho1 ho2 ho3
                go_wp2
                rw [HZ.out, HS.out]
                obtain ⟨e8, hE1b, EE, j1, j2, j3⟩ := HFIN.out
                have e8b := cells_set hE1b 0 (.int .i64 0)
                (try simp at e8b)
                refine leavesR_good (s := ⟨t1, t2, x6, t3, x1 * 16777216 + x0, x2, x4 * 16777216 + x3, x5⟩) (a1 := a1) (a2 := a2) (a3 := a3) (k1 := k1) (k2 := k2) (k3 := k3) (x := 0) ?_ e8b j1 j2 j3 (EE.setCell (p := ⟨w.heap.size + 1, 0, none⟩) (Nat.le_succ _) _) rfl rfl
                dsimp only
                rw [HL1.out, HL2.out, HL3.out]
                exact (Below.heap_setCell _ ⟨w.heap.size + 1, 0, none⟩ (.int .i64 0) _ (show w.heap.size ≠ w.heap.size + 1 by omega)).trans e8
               ·have hnl0 : 0 < nl := by omega
                have HZ := Lib.hid (restart_form HRE.out (form_len (by rw [HL9.out]; show _ ≠ 137 + (n7 : Int) + (n8 : Int); have := HNL.out; omega)))
                have RE := RD.err (.int .i64 0)
                have hEx := RE.ext
                have hb1 := RE.b1
                have hb0 := (Below.heap_setCell WD ⟨w.heap.size + 1, 0, none⟩ (.int .i64 0) _ (show w.heap.size ≠ w.heap.size + 1 by omega)).trans HD0.out
                have HRR := Lib.hid (And.intro hb0 (And.intro hb1 hEx))
                clear hb0 hb1 hEx RE
                go_wp2
                rw [HZ.out]
                exact leavesR_bad HRR.out.1 HRR.out.2.1 HRR.out.2.2 rfl rfl
              ·have hnz : (q3 != 0) = true := by simpa using hq3
               have HZ := Lib.hid (restart_form HRE.out (by
                by_cases h3 : nl = 0
                ·obtain ⟨hF1, hF2⟩ := HQF.out (by rw [HNL.out, h3])
                 rw [form_check (by rw [HL9.out]; omega) hF1, hF2, HQ.out]
                 simpa using hq3
                ·exact form_len (by rw [HL9.out]; show _ ≠ 137 + (n7 : Int) + (n8 : Int); have := HNL.out; omega)))
               have RE := RD.err (.int .i64 q3)
               have hEx := RE.ext
               have hb1 := RE.b1
               have hb0 := (Below.heap_setCell WD ⟨w.heap.size + 1, 0, none⟩ (.int .i64 q3) _ (show w.heap.size ≠ w.heap.size + 1 by omega)).trans HD0.out
               have HRR := Lib.hid (And.intro hb0 (And.intro hb1 hEx))
               clear hb0 hb1 hEx RE
               go_wp2
               rw [HZ.out]
               exact leavesR_bad HRR.out.1 HRR.out.2.1 HRR.out.2.2 rfl rfl
 ·have hne : (er != 0) = true := by simpa using he
  have HZ := Lib.hid (restart_err HRE.out he)
  have z0 := cell_of_cells h0' 0 (v := .slice none 0 0) rfl
  have z1 := cell_of_cells h0' 1 (v := .slice none 0 0) rfl
  have z2 := cell_of_cells h0' 2 (v := .int .i64 0) rfl
  have z3 := cell_of_cells h0' 3 (v := .slice none 0 0) rfl
  have z4 := cell_of_cells h0' 4 (v := .int .i64 0) rfl
  have z5 := cell_of_cells h0' 5 (v := .int .i64 0) rfl
  have z6 := cell_of_cells h0' 6 (v := .int .i64 0) rfl
  have z7 := cell_of_cells h0' 7 (v := .int .i64 0) rfl
  have y0 := free_of_cells h0' 0
  have y1 := free_of_cells h0' 1
  have y2 := free_of_cells h0' 2
  have y3 := free_of_cells h0' 3
  have y4 := free_of_cells h0' 4
  have y5 := free_of_cells h0' 5
  have y6 := free_of_cells h0' 6
  have y7 := free_of_cells h0' 7
  have hC := caught_of (x := er) ((Below.heap_setCell w1 ⟨w.heap.size + 1, 0, none⟩ (.int .i64 er) _ (show w.heap.size ≠ w.heap.size + 1 by omega)).trans h0') (show _ = some (Obj.cells #[Value.int .i64 er] 26 (0, 0)) by have := cells_set h1' 0 (.int .i64 er); simpa using this)
  unfold S8 at hC
  have HC := Lib.hid hC
  clear hC h0' h1'
  go_wp2
  go_region
  all_goals
   go_wp2
   rw [HZ.out]
   exact leavesR_good (s := zst) HC.out.c0 HC.out.c1 (.inl rfl) (.inl rfl) (.inl rfl) (HC.out.kp.below (EW.setCell (p := ⟨w.heap.size + 1, 0, none⟩) (Nat.le_succ _) _) (Nat.le_refl _) (fun b hb => by omega)) rfl rfl
end Go.Proofs.YtnhpcoagkmgdoaaGreat

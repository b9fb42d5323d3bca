import Derived.Test.YtcijneecjkpebaaUS4
import Derived.Test.YtcijneecjkpebaaU0
set_option linter.unusedVariables false
set_option linter.unusedSimpArgs false
/- Layer 4 in plain Lean, on: a state's check; an order; a run. -/
namespace Go.Q
/-- the fields that are single numbers lie in their ranges -/
def fieldsB (s : St) : Bool := inB s.taken 0 s.tape.length && inB s.time 0 1000000000 && addrB s.at_ && inB s.done 0 s.time && inB s.why 0 4
def lensB (s : St) : Bool := s.store.length == 128 && decide (s.tape.length ≤ 200) && decide (s.printed.length ≤ 200)
/-- what Check returns -/
def checkQ (s : St) : Int × Int × Int :=
  if lensB s = false then (1, 0, 3)
  else if 0 ≤ idxQ badW s.store then (2, idxQ badW s.store, 7)
  else if 0 ≤ idxQ badW s.tape then (3, idxQ badW s.tape, 7)
  else if 0 ≤ idxQ badW s.printed then (4, idxQ badW s.printed, 7)
  else if fieldsB s = false then (5, 0, 7)
  else if s.time % 16 ≠ s.at_ % 16 then (6, 0, 2)
  else (0, 0, 0)
theorem tmod16_yes {a b : Int} (h : a % 16 = b % 16) : ((a - b).tmod 16 != 0) = false := by
  rw [bne_eq_false_iff_eq]; exact Int.tmod_eq_zero_of_dvd (by omega)
theorem tmod16_no {a b : Int} (h : ¬ a % 16 = b % 16) : ((a - b).tmod 16 != 0) = true := by
  rw [bne_iff_ne]; intro e
  have := Int.dvd_of_tmod_eq_zero e
  omega
end Go.Q
namespace Go.Q
open Go.RowKit
/-- what was there stays, but for the blocks of S -/
structure Chg (S : Nat → Prop) (w w' : World) : Prop where
  os : w'.os = w.os
  tape : w'.tape = w.tape
  output : w'.output = w.output
  size : w.heap.size ≤ w'.heap.size
  block : ∀ k, k < w.heap.size → ¬ S k → w'.heap[k]? = w.heap[k]?
theorem Chg.refl (S : Nat → Prop) (w : World) : Chg S w w := ⟨rfl, rfl, rfl, Nat.le_refl _, fun _ _ _ => rfl⟩
theorem Chg.trans {S : Nat → Prop} {a b c : World} (h : Chg S a b) (k : Chg S b c) : Chg S a c :=
  ⟨k.os.trans h.os, k.tape.trans h.tape, k.output.trans h.output, Nat.le_trans h.size k.size, fun i hi hs => (k.block i (Nat.lt_of_lt_of_le hi h.size) hs).trans (h.block i hi hs)⟩
/-- the later blocks may be others -/
theorem Chg.trans' {S T : Nat → Prop} {a b c : World} (h : Chg S a b) (k : Chg T b c) (hT : ∀ i, i < a.heap.size → T i → S i) : Chg S a c :=
  ⟨k.os.trans h.os, k.tape.trans h.tape, k.output.trans h.output, Nat.le_trans h.size k.size, fun i hi hs => (k.block i (Nat.lt_of_lt_of_le hi h.size) (fun t => hs (hT i hi t))).trans (h.block i hi hs)⟩
theorem Chg.of_ext {S : Nat → Prop} {a b : World} (h : Ext a b) : Chg S a b := ⟨h.os, h.tape, h.output, h.size, fun k hk _ => h.block k hk⟩
theorem Chg.ext {S : Nat → Prop} {a b c : World} (h : Chg S a b) (k : Ext b c) : Chg S a c := h.trans (.of_ext k)
theorem Chg.setCell {S : Nat → Prop} {a w : World} (h : Chg S a w) (p : Addr) (hp : S p.block) (u : Value) : Chg S a (w.setCell p u) :=
  h.trans ⟨rfl, rfl, rfl, by simp [World.setCell], fun k _ hs => Below.heap_setCell _ _ _ _ (fun e => hs (e ▸ hp))⟩
theorem Chg.grown {S : Nat → Prop} {a w w' : World} {row : Option Nat} (h : Chg S a w) (hg : w.grownBy w' row) (hr : ∀ k, row = some k → S k) : Chg S a w' :=
  h.trans ⟨hg.os, hg.tape, hg.output, hg.size, fun k hk hs => hg.block k hk (fun e => hs (hr k e.symm))⟩
theorem Chg.below {S : Nat → Prop} {w w' : World} {n : Nat} (h : Chg S w w') (hS : ∀ k, S k → n ≤ k) (hn : n ≤ w.heap.size) : Below n w w' :=
  ⟨h.os, h.tape, h.output, h.size, fun k hk => h.block k (by omega) (fun s => by have := hS k s; omega)⟩
theorem Chg.heapEq {S : Nat → Prop} {w w' : World} (h1 : w'.os = w.os) (h2 : w'.tape = w.tape) (h3 : w'.output = w.output) (e : w'.heap = w.heap) : Chg S w w' := ⟨h1, h2, h3, by rw [e]; exact Nat.le_refl _, fun k _ _ => by rw [e]⟩
/-- the words that an order comes to -/
def wordAt (s : St) (i : Int) : Int := s.store[i.toNat]?.getD 0
def ordAt (s : St) : Ord := decodeQ (wordAt s s.at_)
def negAt (s : St) : Bool := decide (sgn (wordAt s (ordAt s).frm) < 0)
def untilAt (s : St) : Int := whenUntil (ordAt s) s.time (negAt s)
/-- what an order does to the store, the tape and the paper -/
def doQ (s : St) (o : Ord) : St :=
  let a := wordAt s o.frm
  let b := wordAt s o.to
  if o.op = 1 then { s with store := s.store.set o.to.toNat a }
  else if o.op = 2 then { s with store := s.store.set o.to.toNat ((b + a) % 16777216) }
  else if o.op = 3 then { s with store := s.store.set o.to.toNat ((b - a) % 16777216) }
  else if o.op = 4 then { s with store := s.store.set o.to.toNat (prod a b) }
  else if o.op = 6 then { s with store := s.store.set o.to.toNat (s.tape[s.taken.toNat]?.getD 0), taken := s.taken + 1 }
  else if o.op = 7 then { s with printed := s.printed ++ [a] }
  else s
def whyAt (s : St) : Int :=
  if (ordAt s).op = 0 then 1
  else if (ordAt s).op = 6 ∧ s.taken = s.tape.length then 2
  else if (ordAt s).op = 7 ∧ s.printed.length = 200 then 3
  else if 1000000000 < untilAt s then 4
  else 0
/-- a state that has not ended, after an order, or at its end -/
def stepQ (s : St) : St :=
  if whyAt s = 0 then { doQ s (ordAt s) with at_ := whenAt (ordAt s) (negAt s), time := untilAt s, done := s.done + 1 }
  else { s with why := whyAt s }
/-- a valid state -/
structure Valid (s : St) : Prop where
  len : s.store.length = 128
  tlen : s.tape.length ≤ 200
  plen : s.printed.length ≤ 200
  ws : ∀ x ∈ s.store, 0 ≤ x ∧ x ≤ 16777215
  wt : ∀ x ∈ s.tape, 0 ≤ x ∧ x ≤ 16777215
  wp : ∀ x ∈ s.printed, 0 ≤ x ∧ x ≤ 16777215
  taken : 0 ≤ s.taken ∧ s.taken ≤ s.tape.length
  time : 0 ≤ s.time ∧ s.time ≤ 1000000000
  at_ : 0 ≤ s.at_ ∧ s.at_ ≤ 127
  done : 0 ≤ s.done ∧ s.done ≤ s.time
  why : 0 ≤ s.why ∧ s.why ≤ 4
  place : s.time % 16 = s.at_ % 16
theorem ordB_decode {n : Int} (h0 : 0 ≤ n) (h1 : n ≤ 16777215) : ordB (decodeQ n) = true := by
  simp only [ordB, addrB, inB, decodeQ, Bool.and_eq_true, decide_eq_true_eq]
  refine ⟨⟨⟨⟨?_, ?_⟩, ⟨?_, ?_⟩⟩, ⟨?_, ?_⟩⟩, ⟨?_, ?_⟩⟩ <;> exact decide_eq_true (by omega)
theorem mem_get {xs : List Int} {i : Nat} (h : i < xs.length) {P : Int → Prop} (hp : ∀ x ∈ xs, P x) : P (xs[i]?.getD 0) := by
  rw [List.getElem?_eq_getElem h]
  exact hp _ (List.getElem_mem h)
theorem Valid.word {s : St} (h : Valid s) (i : Int) (h0 : 0 ≤ i) (h1 : i ≤ 127) : 0 ≤ wordAt s i ∧ wordAt s i ≤ 16777215 :=
  mem_get (by have := h.len; omega) h.ws
theorem Valid.ord {s : St} (h : Valid s) : ordB (ordAt s) = true := by
  have := h.word s.at_ h.at_.1 h.at_.2
  exact ordB_decode this.1 this.2
end Go.Q
/- Contract: the program's Check. -/
namespace Go.Proofs.Ytcijneecjkpebaa
open Go.RowKit Go.Q
/-- a state as a value: three slices and five numbers -/
abbrev sv (a1 a2 a3 : Option Addr) (n1 c1 n2 c2 n3 c3 : Nat) (tk tm at_ dn wy : Int) : Value :=
  .agg #[.slice a1 n1 c1, .slice a2 n2 c2, .int .i64 tk, .slice a3 n3 c3, .int .i64 tm, .int .i64 at_, .int .i64 dn, .int .i64 wy]
theorem pred_check (w : World) : PredQ Try.prog 135 #[] badW w := fun W x hb => (check1_any x W).mono fun e w' ⟨h1, h2⟩ => ⟨h1, hb.comp h2⟩
set_option maxHeartbeats 1000000 in
theorem check_len (a1 a2 a3 : Option Addr) (n1 c1 n2 c2 n3 c3 : Nat) (tk tm at_ dn wy : Int) (w : World)
    (b1 : n1 ≤ 9223372036854775807) (b2 : n2 ≤ 9223372036854775807) (b3 : n3 ≤ 9223372036854775807)
    (h : (n1 == 128 && decide (n2 ≤ 200) && decide (n3 ≤ 200)) = false) :
    Calls Try.prog 122 #[sv a1 a2 a3 n1 c1 n2 c2 n3 c3 tk tm at_ dn wy] w fun e w' => e = .returned (v3 (1, 0, 3)) ∧ Ext w w' := by
  by_cases h1 : n1 = 128
  · subst h1
    by_cases h2 : n2 ≤ 200
    · have h3 : ¬ n3 ≤ 200 := by simpa [h2] using h
      clear h
      go_enter Try.func122, Try.ntmps122
      go_wp2
      go_ret3
      exact ⟨rfl, (Ext.refl w).alloc _⟩
    · clear h
      go_enter Try.func122, Try.ntmps122
      go_wp2
      go_ret3
      exact ⟨rfl, (Ext.refl w).alloc _⟩
  · have h1' : ((n1 : Int) != 128) = true := by rw [bne_iff_ne]; omega
    clear h h1
    go_enter Try.func122, Try.ntmps122
    go_wp2
    go_ret3
    exact ⟨rfl, (Ext.refl w).alloc _⟩
set_option maxHeartbeats 2000000 in
set_option maxRecDepth 100000 in
theorem check_rest (a1 a2 a3 : Option Addr) (n2 n3 c1 c2 c3 : Nat) (s : St) (w : World)
    (l1 : s.store.length = 128) (l2 : s.tape.length = n2) (l3 : s.printed.length = n3) (l2' : n2 ≤ 200) (l3' : n3 ≤ 200)
    (i1 : IntsAt w a1 s.store) (i2 : IntsAt w a2 s.tape) (i3 : IntsAt w a3 s.printed) :
    Calls Try.prog 122 #[sv a1 a2 a3 128 c1 n2 c2 n3 c3 s.taken s.time s.at_ s.done s.why] w fun e w' => e = .returned (v3 (checkQ s)) ∧ Ext w w' := by
  obtain ⟨st, tp, tk, pr, tm, at_, dn, wy⟩ := s
  dsimp only at l1 l2 l3 i1 i2 i3 ⊢
  go_enter Try.func122, Try.ntmps122
  go_wp2
  obtain ⟨W0, hW0⟩ : ∃ W0, (w.alloc (.cells #[.slice a1 128 c1, .slice a2 n2 c2, .int .i64 tk, .slice a3 n3 c3, .int .i64 tm, .int .i64 at_, .int .i64 dn, .int .i64 wy] 81)).alloc (.cells #[.slice a1 128 c1, .slice a2 n2 c2, .slice a3 n3 c3] 22) = W0 := ⟨_, rfl⟩
  have E0 : Ext w W0 := by rw [← hW0]; exact ((Ext.refl w).alloc _).alloc _
  have EB : Ext (w.alloc (.cells #[.slice a1 128 c1, .slice a2 n2 c2, .int .i64 tk, .slice a3 n3 c3, .int .i64 tm, .int .i64 at_, .int .i64 dn, .int .i64 wy] 81)) W0 := by rw [← hW0]; exact (Ext.refl _).alloc _
  have r0 : W0.cell? ⟨w.heap.size + 1, 0, none⟩ = some (.slice a1 128 c1) := by rw [← hW0]; simp [go_sem]
  have r1 : W0.cell? ⟨w.heap.size + 1, 1, none⟩ = some (.slice a2 n2 c2) := by rw [← hW0]; simp [go_sem]
  have r2 : W0.cell? ⟨w.heap.size + 1, 2, none⟩ = some (.slice a3 n3 c3) := by rw [← hW0]; simp [go_sem]
  have hs0 : W0.heap.size = w.heap.size + 2 := by rw [← hW0]; simp
  have i1' := i1.ext E0
  have i2' := i2.ext E0
  have i3' := i3.ext E0
  rw [hW0]
  clear hW0 i1 i2 i3
  go_loopg [5, 6, 7, 32] 4 (fun gg _ _ _ s32 wr => ∃ k : Nat, k ≤ 3 ∧ 4 - k ≤ gg ∧ s32 = .int .i64 k ∧ Aside (Ext W0 wr) ∧ Aside ((0 < k → idxQ badW st = -1) ∧ (1 < k → idxQ badW tp = -1) ∧ (2 < k → idxQ badW pr = -1)))
  case atStart => exact ⟨0, by omega, by omega, rfl, Ext.refl W0, ⟨fun h => by omega, fun h => by omega, fun h => by omega⟩⟩
  case round =>
    obtain ⟨k, hk, hg, rfl, BW, A⟩ := hrel
    have hlen : lensB ⟨st, tp, tk, pr, tm, at_, dn, wy⟩ = true := by simp [lensB, l1, l2, l3, l2', l3']
    have Hlen := Lib.hid hlen
    clear hlen
    obtain rfl | rfl | rfl | rfl : k = 0 ∨ k = 1 ∨ k = 2 ∨ k = 3 := by omega
    · have q0 : wr.cell? ⟨w.heap.size + 1, 0, none⟩ = some (.slice a1 128 c1) := (BW.out.cell (p := ⟨w.heap.size + 1, 0, none⟩) (by show w.heap.size + 1 < _; omega)).trans r0
      have hi := index_any 135 #[] badW a1 128 c1 st wr (enters_of Try.func135 (by kernel_rfl) rfl) (pred_check wr) l1 (by omega) (i1'.ext BW.out)
      have bd := idxQ_lt badW st
      rw [l1] at bd
      clear r0 r1 r2 i1' i2' i3'
      generalize hx : idxQ badW st = x at hi bd
      have Hx := Lib.hid hx
      clear hx l1 l2 l3
      by_cases hq : 0 ≤ x
      · go_wp2_with (go_at_call 128; refine hi.mono ?_; rintro e w' ⟨rfl, hb'⟩)
        go_ret3
        refine ⟨?_, (E0.comp BW.out).comp hb'⟩
        have e : checkQ ⟨st, tp, tk, pr, tm, at_, dn, wy⟩ = (2, x, 7) := by simp [checkQ, Hlen.out, Hx.out, hq]
        rw [e]; first | rfl | (simp [v3]; done)
      · go_wp2_with (go_at_call 128; refine hi.mono ?_; rintro e w' ⟨rfl, hb'⟩)
        go_roundg 3
        case measure => omega
        case rel => exact ⟨1, by omega, by omega, by go_num, BW.out.comp hb', ⟨fun _ => by rw [Hx.out]; omega, fun h => by omega, fun h => by omega⟩⟩
    · have q0 : wr.cell? ⟨w.heap.size + 1, 1, none⟩ = some (.slice a2 n2 c2) := (BW.out.cell (p := ⟨w.heap.size + 1, 1, none⟩) (by show w.heap.size + 1 < _; omega)).trans r1
      have hi := index_any 135 #[] badW a2 n2 c2 tp wr (enters_of Try.func135 (by kernel_rfl) rfl) (pred_check wr) l2 (by omega) (i2'.ext BW.out)
      have bd := idxQ_lt badW tp
      rw [l2] at bd
      clear r0 r1 r2 i1' i2' i3'
      generalize hx : idxQ badW tp = x at hi bd
      have Hx := Lib.hid hx
      clear hx l1 l2 l3
      by_cases hq : 0 ≤ x
      · go_wp2_with (go_at_call 128; refine hi.mono ?_; rintro e w' ⟨rfl, hb'⟩)
        go_ret3
        refine ⟨?_, (E0.comp BW.out).comp hb'⟩
        have e : checkQ ⟨st, tp, tk, pr, tm, at_, dn, wy⟩ = (3, x, 7) := by simp [checkQ, Hlen.out, Hx.out, hq, A.out.1 (by omega)]
        rw [e]; first | rfl | (simp [v3]; done)
      · go_wp2_with (go_at_call 128; refine hi.mono ?_; rintro e w' ⟨rfl, hb'⟩)
        go_roundg 2
        case measure => omega
        case rel => exact ⟨2, by omega, by omega, by go_num, BW.out.comp hb', ⟨fun _ => A.out.1 (by omega), fun _ => by rw [Hx.out]; omega, fun h => by omega⟩⟩
    · have q0 : wr.cell? ⟨w.heap.size + 1, 2, none⟩ = some (.slice a3 n3 c3) := (BW.out.cell (p := ⟨w.heap.size + 1, 2, none⟩) (by show w.heap.size + 1 < _; omega)).trans r2
      have hi := index_any 135 #[] badW a3 n3 c3 pr wr (enters_of Try.func135 (by kernel_rfl) rfl) (pred_check wr) l3 (by omega) (i3'.ext BW.out)
      have bd := idxQ_lt badW pr
      rw [l3] at bd
      clear r0 r1 r2 i1' i2' i3'
      generalize hx : idxQ badW pr = x at hi bd
      have Hx := Lib.hid hx
      clear hx l1 l2 l3
      by_cases hq : 0 ≤ x
      · go_wp2_with (go_at_call 128; refine hi.mono ?_; rintro e w' ⟨rfl, hb'⟩)
        go_ret3
        refine ⟨?_, (E0.comp BW.out).comp hb'⟩
        have e : checkQ ⟨st, tp, tk, pr, tm, at_, dn, wy⟩ = (4, x, 7) := by simp [checkQ, Hlen.out, Hx.out, hq, A.out.1 (by omega), A.out.2.1 (by omega)]
        rw [e]; first | rfl | (simp [v3]; done)
      · go_wp2_with (go_at_call 128; refine hi.mono ?_; rintro e w' ⟨rfl, hb'⟩)
        go_roundg 1
        case measure => omega
        case rel => exact ⟨3, by omega, by omega, by go_num, BW.out.comp hb', ⟨fun _ => A.out.1 (by omega), fun _ => A.out.2.1 (by omega), fun _ => by rw [Hx.out]; omega⟩⟩
    · have hi1 := A.out.1 (by omega)
      have hi2 := A.out.2.1 (by omega)
      have hi3 := A.out.2.2 (by omega)
      have H1 := Lib.hid hi1; have H2 := Lib.hid hi2; have H3 := Lib.hid hi3; have HL := Lib.hid l2
      clear hi1 hi2 hi3 r0 r1 r2 i1' i2' i3' A
      have EK := EB.comp BW.out
      have EW := E0.comp BW.out
      clear EB E0 BW l1 l3
      subst l2
      cases t0 : inB tk 0 (tp.length : Int) with
      | false =>
        have e : checkQ ⟨st, tp, tk, pr, tm, at_, dn, wy⟩ = (5, 0, 7) := by simp [checkQ, Hlen.out, H1.out, H2.out, H3.out, fieldsB, addrB, t0]
        have He := Lib.hid e
        clear e
        have p0_1 := box_at (v := .slice a2 tp.length c2) EK 1 rfl
        have p0_2 := box_at (v := .int .i64 tk) EK 2 rfl
        go_wp2_with fail
        refine (out_one _ tk _ _ (by simp) (by simp)).mono ?_
        rintro e w0 ⟨rfl, hb0⟩
        have EK0 := EK.comp hb0.old
        have EW0 := EW.comp hb0.old
        go_wp2
        go_ret3
        exact ⟨by rw [He.out]; rfl, EW0⟩
      | true =>
        cases t1 : inB tm 0 1000000000 with
        | false =>
          have e : checkQ ⟨st, tp, tk, pr, tm, at_, dn, wy⟩ = (5, 0, 7) := by simp [checkQ, Hlen.out, H1.out, H2.out, H3.out, fieldsB, addrB, t0, t1]
          have He := Lib.hid e
          clear e
          have p0_1 := box_at (v := .slice a2 tp.length c2) EK 1 rfl
          have p0_2 := box_at (v := .int .i64 tk) EK 2 rfl
          go_wp2_with fail
          refine (out_one _ tk _ _ (by simp) (by simp)).mono ?_
          rintro e w0 ⟨rfl, hb0⟩
          have EK0 := EK.comp hb0.old
          have EW0 := EW.comp hb0.old
          have p1_4 := box_at (v := .int .i64 tm) EK0 4 rfl
          go_wp2_with fail
          refine (out_one _ tm _ _ (by simp) (by simp)).mono ?_
          rintro e w1 ⟨rfl, hb1⟩
          have EK1 := EK0.comp hb1.old
          have EW1 := EW0.comp hb1.old
          go_wp2
          go_ret3
          exact ⟨by rw [He.out]; rfl, EW1⟩
        | true =>
          cases t2 : inB at_ 0 127 with
          | false =>
            have e : checkQ ⟨st, tp, tk, pr, tm, at_, dn, wy⟩ = (5, 0, 7) := by simp [checkQ, Hlen.out, H1.out, H2.out, H3.out, fieldsB, addrB, t0, t1, t2]
            have He := Lib.hid e
            clear e
            have p0_1 := box_at (v := .slice a2 tp.length c2) EK 1 rfl
            have p0_2 := box_at (v := .int .i64 tk) EK 2 rfl
            go_wp2_with fail
            refine (out_one _ tk _ _ (by simp) (by simp)).mono ?_
            rintro e w0 ⟨rfl, hb0⟩
            have EK0 := EK.comp hb0.old
            have EW0 := EW.comp hb0.old
            have p1_4 := box_at (v := .int .i64 tm) EK0 4 rfl
            go_wp2_with fail
            refine (out_one _ tm _ _ (by simp) (by simp)).mono ?_
            rintro e w1 ⟨rfl, hb1⟩
            have EK1 := EK0.comp hb1.old
            have EW1 := EW0.comp hb1.old
            have p2_5 := box_at (v := .int .i64 at_) EK1 5 rfl
            go_wp2_with fail
            refine (out_one _ at_ _ _ (by simp) (by simp)).mono ?_
            rintro e w2 ⟨rfl, hb2⟩
            have EK2 := EK1.comp hb2.old
            have EW2 := EW1.comp hb2.old
            go_wp2
            go_ret3
            exact ⟨by rw [He.out]; rfl, EW2⟩
          | true =>
            cases t3 : inB dn 0 tm with
            | false =>
              have e : checkQ ⟨st, tp, tk, pr, tm, at_, dn, wy⟩ = (5, 0, 7) := by simp [checkQ, Hlen.out, H1.out, H2.out, H3.out, fieldsB, addrB, t0, t1, t2, t3]
              have He := Lib.hid e
              clear e
              have p0_1 := box_at (v := .slice a2 tp.length c2) EK 1 rfl
              have p0_2 := box_at (v := .int .i64 tk) EK 2 rfl
              go_wp2_with fail
              refine (out_one _ tk _ _ (by simp) (by simp)).mono ?_
              rintro e w0 ⟨rfl, hb0⟩
              have EK0 := EK.comp hb0.old
              have EW0 := EW.comp hb0.old
              have p1_4 := box_at (v := .int .i64 tm) EK0 4 rfl
              go_wp2_with fail
              refine (out_one _ tm _ _ (by simp) (by simp)).mono ?_
              rintro e w1 ⟨rfl, hb1⟩
              have EK1 := EK0.comp hb1.old
              have EW1 := EW0.comp hb1.old
              have p2_5 := box_at (v := .int .i64 at_) EK1 5 rfl
              go_wp2_with fail
              refine (out_one _ at_ _ _ (by simp) (by simp)).mono ?_
              rintro e w2 ⟨rfl, hb2⟩
              have EK2 := EK1.comp hb2.old
              have EW2 := EW1.comp hb2.old
              have p3_4 := box_at (v := .int .i64 tm) EK2 4 rfl
              have p3_6 := box_at (v := .int .i64 dn) EK2 6 rfl
              go_wp2_with fail
              refine (out_one _ dn _ _ (by simp) (by simp)).mono ?_
              rintro e w3 ⟨rfl, hb3⟩
              have EK3 := EK2.comp hb3.old
              have EW3 := EW2.comp hb3.old
              go_wp2
              go_ret3
              exact ⟨by rw [He.out]; rfl, EW3⟩
            | true =>
              cases t4 : inB wy 0 4 with
              | false =>
                have e : checkQ ⟨st, tp, tk, pr, tm, at_, dn, wy⟩ = (5, 0, 7) := by simp [checkQ, Hlen.out, H1.out, H2.out, H3.out, fieldsB, addrB, t0, t1, t2, t3, t4]
                have He := Lib.hid e
                clear e
                have p0_1 := box_at (v := .slice a2 tp.length c2) EK 1 rfl
                have p0_2 := box_at (v := .int .i64 tk) EK 2 rfl
                go_wp2_with fail
                refine (out_one _ tk _ _ (by simp) (by simp)).mono ?_
                rintro e w0 ⟨rfl, hb0⟩
                have EK0 := EK.comp hb0.old
                have EW0 := EW.comp hb0.old
                have p1_4 := box_at (v := .int .i64 tm) EK0 4 rfl
                go_wp2_with fail
                refine (out_one _ tm _ _ (by simp) (by simp)).mono ?_
                rintro e w1 ⟨rfl, hb1⟩
                have EK1 := EK0.comp hb1.old
                have EW1 := EW0.comp hb1.old
                have p2_5 := box_at (v := .int .i64 at_) EK1 5 rfl
                go_wp2_with fail
                refine (out_one _ at_ _ _ (by simp) (by simp)).mono ?_
                rintro e w2 ⟨rfl, hb2⟩
                have EK2 := EK1.comp hb2.old
                have EW2 := EW1.comp hb2.old
                have p3_4 := box_at (v := .int .i64 tm) EK2 4 rfl
                have p3_6 := box_at (v := .int .i64 dn) EK2 6 rfl
                go_wp2_with fail
                refine (out_one _ dn _ _ (by simp) (by simp)).mono ?_
                rintro e w3 ⟨rfl, hb3⟩
                have EK3 := EK2.comp hb3.old
                have EW3 := EW2.comp hb3.old
                have p4_7 := box_at (v := .int .i64 wy) EK3 7 rfl
                go_wp2_with fail
                refine (out_one _ wy _ _ (by simp) (by simp)).mono ?_
                rintro e w4 ⟨rfl, hb4⟩
                have EK4 := EK3.comp hb4.old
                have EW4 := EW3.comp hb4.old
                go_wp2
                go_ret3
                exact ⟨by rw [He.out]; rfl, EW4⟩
              | true =>
                have ff : fieldsB ⟨st, tp, tk, pr, tm, at_, dn, wy⟩ = true := by simp [fieldsB, addrB, t0, t1, t2, t3, t4]
                have tb0 := inB_bd t1; have tb1 := inB_bd t2
                by_cases hm : tm % 16 = at_ % 16
                · have e : checkQ ⟨st, tp, tk, pr, tm, at_, dn, wy⟩ = (0, 0, 0) := by simp [checkQ, Hlen.out, H1.out, H2.out, H3.out, ff, hm]
                  have He := Lib.hid e
                  have hm' : ((tm - at_).tmod 16 != 0) = false := tmod16_yes hm
                  clear e hm ff
                  have p0_1 := box_at (v := .slice a2 tp.length c2) EK 1 rfl
                  have p0_2 := box_at (v := .int .i64 tk) EK 2 rfl
                  go_wp2_with fail
                  refine (out_one _ tk _ _ (by simp) (by simp)).mono ?_
                  rintro e w0 ⟨rfl, hb0⟩
                  have EK0 := EK.comp hb0.old
                  have EW0 := EW.comp hb0.old
                  have p1_4 := box_at (v := .int .i64 tm) EK0 4 rfl
                  go_wp2_with fail
                  refine (out_one _ tm _ _ (by simp) (by simp)).mono ?_
                  rintro e w1 ⟨rfl, hb1⟩
                  have EK1 := EK0.comp hb1.old
                  have EW1 := EW0.comp hb1.old
                  have p2_5 := box_at (v := .int .i64 at_) EK1 5 rfl
                  go_wp2_with fail
                  refine (out_one _ at_ _ _ (by simp) (by simp)).mono ?_
                  rintro e w2 ⟨rfl, hb2⟩
                  have EK2 := EK1.comp hb2.old
                  have EW2 := EW1.comp hb2.old
                  have p3_4 := box_at (v := .int .i64 tm) EK2 4 rfl
                  have p3_6 := box_at (v := .int .i64 dn) EK2 6 rfl
                  go_wp2_with fail
                  refine (out_one _ dn _ _ (by simp) (by simp)).mono ?_
                  rintro e w3 ⟨rfl, hb3⟩
                  have EK3 := EK2.comp hb3.old
                  have EW3 := EW2.comp hb3.old
                  have p4_7 := box_at (v := .int .i64 wy) EK3 7 rfl
                  go_wp2_with fail
                  refine (out_one _ wy _ _ (by simp) (by simp)).mono ?_
                  rintro e w4 ⟨rfl, hb4⟩
                  have EK4 := EK3.comp hb4.old
                  have EW4 := EW3.comp hb4.old
                  have p5_4 := box_at (v := .int .i64 tm) EK4 4 rfl
                  have p5_5 := box_at (v := .int .i64 at_) EK4 5 rfl
                  go_wp2
                  go_ret3
                  exact ⟨by rw [He.out]; rfl, EW4⟩
                · have e : checkQ ⟨st, tp, tk, pr, tm, at_, dn, wy⟩ = (6, 0, 2) := by simp [checkQ, Hlen.out, H1.out, H2.out, H3.out, ff, hm]
                  have He := Lib.hid e
                  have hm' : ((tm - at_).tmod 16 != 0) = true := tmod16_no hm
                  clear e hm ff
                  have p0_1 := box_at (v := .slice a2 tp.length c2) EK 1 rfl
                  have p0_2 := box_at (v := .int .i64 tk) EK 2 rfl
                  go_wp2_with fail
                  refine (out_one _ tk _ _ (by simp) (by simp)).mono ?_
                  rintro e w0 ⟨rfl, hb0⟩
                  have EK0 := EK.comp hb0.old
                  have EW0 := EW.comp hb0.old
                  have p1_4 := box_at (v := .int .i64 tm) EK0 4 rfl
                  go_wp2_with fail
                  refine (out_one _ tm _ _ (by simp) (by simp)).mono ?_
                  rintro e w1 ⟨rfl, hb1⟩
                  have EK1 := EK0.comp hb1.old
                  have EW1 := EW0.comp hb1.old
                  have p2_5 := box_at (v := .int .i64 at_) EK1 5 rfl
                  go_wp2_with fail
                  refine (out_one _ at_ _ _ (by simp) (by simp)).mono ?_
                  rintro e w2 ⟨rfl, hb2⟩
                  have EK2 := EK1.comp hb2.old
                  have EW2 := EW1.comp hb2.old
                  have p3_4 := box_at (v := .int .i64 tm) EK2 4 rfl
                  have p3_6 := box_at (v := .int .i64 dn) EK2 6 rfl
                  go_wp2_with fail
                  refine (out_one _ dn _ _ (by simp) (by simp)).mono ?_
                  rintro e w3 ⟨rfl, hb3⟩
                  have EK3 := EK2.comp hb3.old
                  have EW3 := EW2.comp hb3.old
                  have p4_7 := box_at (v := .int .i64 wy) EK3 7 rfl
                  go_wp2_with fail
                  refine (out_one _ wy _ _ (by simp) (by simp)).mono ?_
                  rintro e w4 ⟨rfl, hb4⟩
                  have EK4 := EK3.comp hb4.old
                  have EW4 := EW3.comp hb4.old
                  have p5_4 := box_at (v := .int .i64 tm) EK4 4 rfl
                  have p5_5 := box_at (v := .int .i64 at_) EK4 5 rfl
                  go_wp2
                  go_ret3
                  exact ⟨by rw [He.out]; rfl, EW4⟩
end Go.Proofs.Ytcijneecjkpebaa
/- Contracts: the reference's odd and Check; both Checks at whatever state. -/
namespace Go.Proofs.Ytcijneecjkpebaa
open Go.RowKit Go.Q
/-- v reads in w as the state s -/
def StAt (w : World) (v : Value) (s : St) : Prop := ∃ a1 a2 a3 c1 c2 c3, v = sv a1 a2 a3 s.store.length c1 s.tape.length c2 s.printed.length c3 s.taken s.time s.at_ s.done s.why ∧
  IntsAt w a1 s.store ∧ IntsAt w a2 s.tape ∧ IntsAt w a3 s.printed
/-- the lists of a state are no longer than the model's bound -/
def StBd (s : St) : Prop := s.store.length ≤ 9223372036854775807 ∧ s.tape.length ≤ 9223372036854775807 ∧ s.printed.length ≤ 9223372036854775807
theorem StAt.ext {w w' : World} {v : Value} {s : St} (h : StAt w v s) (e : Ext w w') : StAt w' v s := by
  obtain ⟨a1, a2, a3, c1, c2, c3, rfl, h1, h2, h3⟩ := h
  exact ⟨a1, a2, a3, c1, c2, c3, rfl, h1.ext e, h2.ext e, h3.ext e⟩
theorem check_any (v : Value) (s : St) (w : World) (h : StAt w v s) (hb : StBd s) :
    Calls Try.prog 122 #[v] w fun e w' => e = .returned (v3 (checkQ s)) ∧ Ext w w' := by
  obtain ⟨a1, a2, a3, c1, c2, c3, rfl, h1, h2, h3⟩ := h
  obtain ⟨b1, b2, b3⟩ := hb
  cases hl : lensB s with
  | false =>
    have e : checkQ s = (1, 0, 3) := by simp [checkQ, hl]
    rw [e]
    exact check_len _ _ _ _ _ _ _ _ _ _ _ _ _ _ w b1 b2 b3 hl
  | true =>
    have hl' := hl
    simp [lensB] at hl
    obtain ⟨⟨l1, l2⟩, l3⟩ := hl
    have := check_rest a1 a2 a3 _ _ c1 c2 c3 s w l1 rfl rfl l2 l3 h1 h2 h3
    rw [← l1] at this
    exact this
end Go.Proofs.Ytcijneecjkpebaa
/- Contracts: slices.Clone, machine.from, machine.to. -/
namespace Go.Proofs.Ytcijneecjkpebaa
open Go.RowKit Go.Q
theorem Try.infoE : (Try.prog.info? 3).map (fun i => (i.zero, i.size, i.bytes)) = some (some (.int .i64 0), 1, 8) := by kernel_rfl
/-- numbers as values -/
def iv (xs : List Int) : List Value := xs.map (Value.int .i64)
theorem iv_length (xs : List Int) : (iv xs).length = xs.length := by simp [iv]
theorem iv_get (xs : List Int) (i : Nat) (h : i < xs.length) : (iv xs)[i]? = some (.int .i64 (xs[i]?.getD 0)) := by simp [iv, h]
theorem iv_one (xs : List Int) : ∀ u ∈ iv xs, u.oneCell' = true := by
  intro u hu; simp [iv] at hu; obtain ⟨x, _, rfl⟩ := hu; rfl
theorem ownsRow_fresh (w : World) (t : TypeId) : (w.alloc (.cells #[] t)).ownsRow w.heap.size t 1 (.slice (some ⟨w.heap.size, 0, none⟩) 0 0) 0 [] :=
  ⟨rfl, .inr ⟨w.heap.size, 0, #[], rfl, Nat.le_refl _, by show (w.heap.push _)[w.heap.size]? = _; simp, Nat.le_refl _, by simp [maxLen], rfl, rfl⟩⟩
set_option maxHeartbeats 1000000 in
theorem clone_nil (n cap : Nat) (w : World) : Calls Try.prog 95 #[.slice none n cap] w fun e w' => e = .returned (.slice none 0 0) ∧ w = w' := by
  have hnil := fun (W : World) => Lib.run_eql_slice_nil (P := Try.prog) W 22 3 none n cap 0 0 Try.underlying22
  go_enter Try.func95, Try.ntmps95
  go_wp2
  go_ret
  exact ⟨rfl, rfl⟩
/-- the result is a slice of the call's own that holds xs -/
def OwnRes (n : Nat) (xs : List Int) (w : World) (e : Ending) (w' : World) : Prop :=
  ∃ a c, e = .returned (.slice a n c) ∧ w'.ownsRow w.heap.size 3 1 (.slice a n c) n (iv xs) ∧ Ext w w'
theorem own_form {w : World} {nb t n : Nat} {v : Value} {xs : List Value} (h : w.ownsRow nb t 1 v n xs) : ∃ a c, v = .slice a n c := by
  rcases h.2 with ⟨h1, h2⟩ | ⟨g, cap, cur, h1, _⟩
  · exact ⟨none, 0, by rw [h2]; exact h1⟩
  · exact ⟨_, _, h1⟩
set_option maxHeartbeats 1000000 in
theorem clone_some (ad : Addr) (n cap : Nat) (xs : List Int) (w : World) (hn : xs.length = n) (hbig : n ≤ 17592186044416)
    (hI : ∀ j u, (iv xs)[j]? = some u → w.cell? (ad.add j) = some u) :
    Calls Try.prog 95 #[.slice (some ad) n cap] w (OwnRes n xs w) := by
  obtain ⟨i0, hi, hz0, hz1, hz2⟩ := info_parts Try.infoE
  have hnil := fun (W : World) => Lib.run_eql_slice_nil (P := Try.prog) W 22 3 (some ad) n cap 0 0 Try.underlying22
  go_enter Try.func95, Try.ntmps95
  go_wp2_with (at_builtin; refine wpList_append_own _ rfl _ _ 22 rfl w.heap.size 3 i0 (.int .i64 0) 1 8 Try.underlying22 hi hz0 hz1 hz2 rfl (by decide) _ 0 [] rfl (ownsRow_fresh w 3) ad n cap (iv xs) rfl ?c1 ?c2 (iv_one xs) ?c3 ?c4 ?c5 ?_)
  case c1 => simp [iv_length, hn]
  case c2 => exact fun j u hu => cell_later ((Ext.refl w).alloc _) (hI j u hu)
  case c3 => unfold maxLen; omega
  case c4 => omega
  case c5 => simp
  intro v' w1 hown' hgrow _
  have hx : Ext w w1 := ((Ext.refl w).alloc _).grown hgrow (by simp) (fun k e => by simp [Value.ownBlock] at e; omega)
  obtain ⟨a', c', hv'⟩ : ∃ a' c', v' = .slice a' n c' := by
    obtain ⟨a', c', h⟩ := own_form hown'
    exact ⟨a', c', by simpa using h⟩
  rw [hv'] at hown' ⊢
  clear hI hgrow hv'
  go_wp2
  go_ret
  exact ⟨a', c', rfl, by simpa using hown', hx⟩
theorem clone_any (a : Option Addr) (n cap : Nat) (xs : List Int) (w : World) (hn : xs.length = n) (hbig : n ≤ 17592186044416) (hI : IntsAt w a xs) :
    Calls Try.prog 95 #[.slice a n cap] w (OwnRes n xs w) := by
  cases a with
  | none =>
    have hx : xs = [] := by
      rcases hI with h | ⟨b, off, h, _⟩
      · exact h
      · cases h
    subst hx
    obtain rfl : n = 0 := hn.symm
    exact (clone_nil 0 cap w).mono fun e w' ⟨h1, h2⟩ => ⟨none, 0, h1, by rw [← h2]; exact World.ownsRow_nil w _ _ _, by rw [← h2]; exact Ext.refl w⟩
  | some ad =>
    refine clone_some ad n cap xs w hn hbig fun j u hu => ?_
    have hj : j < xs.length := by
      rcases Nat.lt_or_ge j xs.length with h | h
      · exact h
      · rw [List.getElem?_eq_none (by simpa [iv_length] using h)] at hu; cases hu
    rcases hI with h | ⟨b, off, h, hb, hc⟩
    · subst h; simp at hj
    · obtain rfl := Option.some.inj h
      rw [iv_get xs j hj] at hu
      obtain rfl := Option.some.inj hu
      rw [Addr.add_lit]
      exact hc j hj
end Go.Proofs.Ytcijneecjkpebaa
/- The machine in memory: what its blocks hold, and what stays of that behind each kind of write. -/
namespace Go.Proofs.Ytcijneecjkpebaa
open Go.RowKit Go.Q
def mcells (g1 c1 : Nat) (tv pv : Value) (s : St) (o : Ord) : Array Value :=
  #[.slice (some ⟨g1, 0, none⟩) 128 c1, tv, .int .i64 s.taken, pv, .int .i64 s.time, .int .i64 s.at_, .int .i64 s.done, .int .i64 s.why, .int .i64 o.op, .int .i64 o.frm, .int .i64 o.to, .int .i64 o.nxt]
/-- the machine lies at m: its store in block g1, its tape tv, its paper pv -/
structure Mac (w : World) (nb m g1 c1 : Nat) (tv pv : Value) (s : St) (o : Ord) : Prop where
  low : nb ≤ m ∧ nb ≤ g1 ∧ m ≠ g1
  blk : w.heap[m]? = some (.cells (mcells g1 c1 tv pv s o) 155 (0, 0))
  st : ∃ cur, w.heap[g1]? = some (.cells cur 3 (0, 0)) ∧ cur.toList.take 128 = iv s.store
  len : s.store.length = 128
  tp : ∃ a2 c2, tv = .slice a2 s.tape.length c2 ∧ (s.tape = [] ∨ ∃ b off, a2 = some ⟨b, off, none⟩ ∧ (∃ cur, w.heap[b]? = some (.cells cur 3 (0, 0))) ∧ b ≠ m ∧ b ≠ g1 ∧ pv.ownBlock ≠ some b ∧ ∀ i, i < s.tape.length → w.cell? ⟨b, off + i, none⟩ = some (.int .i64 (s.tape[i]?.getD 0)))
  prow : w.ownsRow nb 3 1 pv s.printed.length (iv s.printed)
  pm : pv.ownBlock ≠ some m
  pg : pv.ownBlock ≠ some g1
theorem cells_set {w : World} {m : Nat} {cs : Array Value} {t : TypeId} (h : w.heap[m]? = some (.cells cs t (0, 0))) (i : Nat) (v : Value) :
    (w.setCell ⟨m, i, none⟩ v).heap[m]? = some (.cells (cs.setIfInBounds i v) t (0, 0)) := by
  have hlt := lt_of_block h
  have h' : w.heap[m] = .cells cs t (0, 0) := by simpa [Array.getElem?_eq_getElem hlt] using h
  show (w.heap.modify m _)[m]? = _
  rw [Array.getElem?_eq_getElem (by simpa using hlt), Array.getElem_modify_self, h']
  rfl
theorem cell_of_cells {w : World} {m : Nat} {cs : Array Value} {t : TypeId} (h : w.heap[m]? = some (.cells cs t (0, 0))) (i : Nat) {v : Value} (hv : cs[i]? = some v) : w.cell? ⟨m, i, none⟩ = some v := by
  simp [World.cell?, h, hv]
theorem free_of_cells {w : World} {m : Nat} {cs : Array Value} {t : TypeId} (h : w.heap[m]? = some (.cells cs t (0, 0))) (i : Nat) : w.frozen? ⟨m, i, none⟩ = false := by
  simp [World.frozen?, h]
variable {w : World} {nb m g1 c1 : Nat} {tv pv : Value} {s : St} {o : Ord}
theorem Mac.c (h : Mac w nb m g1 c1 tv pv s o) (i : Nat) {v : Value} (hv : (mcells g1 c1 tv pv s o)[i]? = some v) : w.cell? ⟨m, i, none⟩ = some v := cell_of_cells h.blk i hv
theorem Mac.f (h : Mac w nb m g1 c1 tv pv s o) (i : Nat) : w.frozen? ⟨m, i, none⟩ = false := free_of_cells h.blk i
theorem Mac.wc (h : Mac w nb m g1 c1 tv pv s o) (i : Nat) (hi : i < 128) : w.cell? ⟨g1, i, none⟩ = some (.int .i64 (s.store[i]?.getD 0)) := by
  obtain ⟨cur, hg, ht⟩ := h.st
  refine cell_of_cells hg i ?_
  have e := iv_get s.store i (by rw [h.len]; exact hi)
  rw [← ht, List.getElem?_take, if_pos hi] at e
  simpa using e
theorem Mac.wf (h : Mac w nb m g1 c1 tv pv s o) (i : Nat) : w.frozen? ⟨g1, i, none⟩ = false := by
  obtain ⟨cur, hg, _⟩ := h.st
  exact free_of_cells hg i
theorem Mac.ltm (h : Mac w nb m g1 c1 tv pv s o) : m < w.heap.size := lt_of_block h.blk
theorem Mac.ltg (h : Mac w nb m g1 c1 tv pv s o) : g1 < w.heap.size := by obtain ⟨cur, hg, _⟩ := h.st; exact lt_of_block hg
theorem own_lt {w : World} {nb t n : Nat} {pv : Value} {xs : List Value} (h : w.ownsRow nb t 1 pv n xs) {b : Nat} (hb : pv.ownBlock = some b) : b < w.heap.size := by
  rcases h.2 with ⟨rfl, _⟩ | ⟨g, cap, cur, rfl, _, hg, _⟩
  · cases hb
  · obtain rfl : g = b := by simpa [Value.ownBlock] using hb
    exact lt_of_block hg
theorem own_later {w w' : World} {nb t n : Nat} {pv : Value} {xs : List Value} (h : w.ownsRow nb t 1 pv n xs) (hb : ∀ b, pv.ownBlock = some b → w'.heap[b]? = w.heap[b]?) : w'.ownsRow nb t 1 pv n xs := by
  refine ⟨h.1, ?_⟩
  rcases h.2 with h2 | ⟨g, cap, cur, rfl, hbg, hg, r⟩
  · exact .inl h2
  · exact .inr ⟨g, cap, cur, rfl, hbg, (hb g rfl).trans hg, r⟩
/-- nothing of the machine has turned -/
theorem Mac.same {w' : World} (h : Mac w nb m g1 c1 tv pv s o) (hz : w.heap.size ≤ w'.heap.size) (hb : ∀ k, k < w.heap.size → w'.heap[k]? = w.heap[k]?) : Mac w' nb m g1 c1 tv pv s o where
  low := h.low
  blk := (hb _ h.ltm).trans h.blk
  st := by obtain ⟨cur, hg, ht⟩ := h.st; exact ⟨cur, (hb _ h.ltg).trans hg, ht⟩
  len := h.len
  tp := by
    obtain ⟨a2, c2, hv, ht⟩ := h.tp
    refine ⟨a2, c2, hv, ?_⟩
    rcases ht with ht | ⟨b, off, ha, ⟨cu, hcu⟩, h1, h2, h3, hc⟩
    · exact .inl ht
    · have hlt := lt_of_block hcu
      exact .inr ⟨b, off, ha, ⟨cu, (hb b hlt).trans hcu⟩, h1, h2, h3, fun i hi => (World.cell?_of_block (w := w) (hb b hlt)).trans (hc i hi)⟩
  prow := own_later h.prow (fun b e => hb b (own_lt h.prow e))
  pm := h.pm
  pg := h.pg
theorem Mac.ext {w' : World} (h : Mac w nb m g1 c1 tv pv s o) (e : Ext w w') : Mac w' nb m g1 c1 tv pv s o := h.same e.size e.block
theorem Mac.drewN (h : Mac w nb m g1 c1 tv pv s o) (n : Nat) : Mac (w.drewN n) nb m g1 c1 tv pv s o := h.same (Nat.le_refl _) (fun _ _ => rfl)
theorem Mac.heapEq {w' : World} (h : Mac w nb m g1 c1 tv pv s o) (e : w'.heap = w.heap) : Mac w' nb m g1 c1 tv pv s o := h.same (by rw [e]; exact Nat.le_refl _) (fun k _ => by rw [e])
/-- one of the machine's own cells is written -/
theorem Mac.setm (h : Mac w nb m g1 c1 tv pv s o) (i : Nat) (v : Value) (s' : St) (o' : Ord) (he : mcells g1 c1 tv pv s' o' = (mcells g1 c1 tv pv s o).setIfInBounds i v)
    (e1 : s'.store = s.store) (e2 : s'.tape = s.tape) (e3 : s'.printed = s.printed) : Mac (w.setCell ⟨m, i, none⟩ v) nb m g1 c1 tv pv s' o' where
  low := h.low
  blk := by rw [he]; exact cells_set h.blk i v
  st := by
    obtain ⟨cur, hg, ht⟩ := h.st
    exact ⟨cur, (Below.heap_setCell _ _ _ _ (fun e => h.low.2.2 e.symm)).trans hg, by rw [e1]; exact ht⟩
  len := by rw [e1]; exact h.len
  tp := by
    obtain ⟨a2, c2, hv, ht⟩ := h.tp
    refine ⟨a2, c2, by rw [e2]; exact hv, ?_⟩
    rw [e2]
    rcases ht with ht | ⟨b, off, ha, ⟨cu, hcu⟩, h1, h2, h3, hc⟩
    · exact .inl ht
    · exact .inr ⟨b, off, ha, ⟨cu, (Below.heap_setCell _ _ _ _ h1).trans hcu⟩, h1, h2, h3, fun i hi => (World.cell?_of_block (w := w) (Below.heap_setCell _ _ _ _ h1)).trans (hc i hi)⟩
  prow := by rw [e3]; exact own_later h.prow (fun b e => Below.heap_setCell _ _ _ _ (fun e' => h.pm (by rw [e]; exact congrArg some e')))
  pm := h.pm
  pg := h.pg
/-- a word of the store is written -/
theorem Mac.sets (h : Mac w nb m g1 c1 tv pv s o) (i : Nat) (hi : i < 128) (x : Int) (s' : St) (es : s' = { s with store := s.store.set i x }) : Mac (w.setCell ⟨g1, i, none⟩ (.int .i64 x)) nb m g1 c1 tv pv s' o where
  low := h.low
  blk := by subst es; exact (Below.heap_setCell _ _ _ _ h.low.2.2).trans h.blk
  st := by
    subst es
    obtain ⟨cur, hg, ht⟩ := h.st
    refine ⟨_, cells_set hg i _, ?_⟩
    show ((cur.setIfInBounds i (.int .i64 x)).toList).take 128 = iv (s.store.set i x)
    rw [Array.toList_setIfInBounds, List.take_set, ht]
    simp [iv, List.map_set]
  len := by subst es; simpa using h.len
  tp := by
    subst es
    obtain ⟨a2, c2, hv, ht⟩ := h.tp
    refine ⟨a2, c2, hv, ?_⟩
    rcases ht with ht | ⟨b, off, ha, ⟨cu, hcu⟩, h1, h2, h3, hc⟩
    · exact .inl ht
    · exact .inr ⟨b, off, ha, ⟨cu, (Below.heap_setCell _ _ _ _ h2).trans hcu⟩, h1, h2, h3, fun i hi => (World.cell?_of_block (w := w) (Below.heap_setCell _ _ _ _ h2)).trans (hc i hi)⟩
  prow := by subst es; exact own_later h.prow (fun b e => Below.heap_setCell _ _ _ _ (fun e' => h.pg (by rw [e]; exact congrArg some e')))
  pm := h.pm
  pg := h.pg
end Go.Proofs.Ytcijneecjkpebaa
/- Layer 4 in plain Lean, on: what a checked state is; a run. -/
namespace Go.Q
theorem idxQ_all {p : Int → Bool} {xs : List Int} (h : ¬ 0 ≤ idxQ p xs) : ∀ x ∈ xs, p x = false := by
  have e := idxQ_nonneg p xs
  rw [decide_eq_false h] at e
  intro x hx
  have := List.any_eq_false.1 e.symm x hx
  simpa using this
theorem badW_no {n : Int} (h : badW n = false) : 0 ≤ n ∧ n ≤ 16777215 := wordB_bd (by simpa [badW] using h)
/-- the error of a state and a number of orders -/
def askedQ (s : St) (most : Int) : Int := if (checkQ s).2.2 ≠ 0 then (checkQ s).2.2 else if inB most 0 5000 = true then 0 else 7
theorem checkQ_err (s : St) : (checkQ s).2.2 = 0 ∨ (checkQ s).2.2 = 2 ∨ (checkQ s).2.2 = 3 ∨ (checkQ s).2.2 = 7 := by
  unfold checkQ
  repeat' split
  all_goals simp
theorem valid_of_check {s : St} (h : (checkQ s).2.2 = 0) : Valid s := by
  unfold checkQ at h
  split at h
  · simp at h
  split at h
  · simp at h
  split at h
  · simp at h
  split at h
  · simp at h
  split at h
  · simp at h
  split at h
  · simp at h
  rename_i h1 h2 h3 h4 h5 h6
  have h1' : lensB s = true := by simpa using h1
  have h5' : fieldsB s = true := by simpa using h5
  simp only [lensB, Bool.and_eq_true, beq_iff_eq, decide_eq_true_eq] at h1'
  simp only [fieldsB, Bool.and_eq_true, addrB] at h5'
  obtain ⟨⟨⟨⟨a1, a2⟩, a3⟩, a4⟩, a5⟩ := h5'
  exact ⟨h1'.1.1, h1'.1.2, h1'.2, fun x hx => badW_no (idxQ_all h2 x hx), fun x hx => badW_no (idxQ_all h3 x hx), fun x hx => badW_no (idxQ_all h4 x hx),
    inB_bd a1, inB_bd a2, inB_bd a3, inB_bd a4, inB_bd a5, by simpa using h6⟩
end Go.Q

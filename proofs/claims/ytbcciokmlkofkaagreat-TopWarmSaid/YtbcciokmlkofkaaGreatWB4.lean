import Derived.Deep.RegionHeld3
import Derived.Deep.DeepCutAuto
import Derived.Test.YtbcciokmlkofkaaGreatWB3
set_option linter.unusedVariables false
set_option linter.unusedSimpArgs false
/- Contract: machine.step. -/
namespace Go.Proofs.YtbcciokmlkofkaaGreat
open Go.RowKit Go.Q
variable {nb m g1 c1 : Nat} {tv pv : Value} {s : St} {o o' : Ord}
/-- the order is stored into the machine -/
theorem Mac.setOrd {w : World} (h : Mac w nb m g1 c1 tv pv s o) (o' : Ord) :
    Mac ((((w.setCell ⟨m, 8, none⟩ (.int .i64 o'.op)).setCell ⟨m, 9, none⟩ (.int .i64 o'.frm)).setCell ⟨m, 10, none⟩ (.int .i64 o'.to)).setCell ⟨m, 11, none⟩ (.int .i64 o'.nxt)) nb m g1 c1 tv pv s o' :=
  (((h.setm 8 _ s ⟨o'.op, o.frm, o.to, o.nxt⟩ rfl rfl rfl rfl).setm 9 _ s ⟨o'.op, o'.frm, o.to, o.nxt⟩ rfl rfl rfl rfl).setm 10 _ s ⟨o'.op, o'.frm, o'.to, o.nxt⟩ rfl rfl rfl rfl).setm 11 _ s o' rfl rfl rfl rfl
theorem Chg.set4 {S : Nat → Prop} {a w : World} (h : Chg S a w) (m : Nat) (hm : S m) (i j k l : Nat) (x y z u : Value) :
    Chg S a ((((w.setCell ⟨m, i, none⟩ x).setCell ⟨m, j, none⟩ y).setCell ⟨m, k, none⟩ z).setCell ⟨m, l, none⟩ u) :=
  (((h.setCell _ hm _).setCell _ hm _).setCell _ hm _).setCell _ hm _
theorem from_ext (w : World) (h : Mac w nb m g1 c1 tv pv s o) (h0 : 0 ≤ o.frm) (h1 : o.frm ≤ 127) :
    Calls Tryz.prog 82 #[.pointer (some ⟨m, 0, none⟩)] w fun e w' => e = .returned (.pointer (some ⟨g1, o.frm.toNat, none⟩)) ∧ Ext w w' :=
  (from_any w h h0 h1).mono fun e w' ⟨he, n, hn⟩ => ⟨he, by rw [hn]; exact below_drewN (Ext.refl w) n⟩
theorem signed_ext (n : Int) (w : World) (h0 : 0 ≤ n) (h1 : n ≤ 16777215) :
    Calls Tryz.prog 65 #[.int .i64 n] w fun e w' => e = .returned (.int .i64 (sgn n)) ∧ Ext w w' :=
  (signed_any n w h0 h1).mono fun e w' ⟨he, hn⟩ => ⟨he, by rw [← hn]; exact Ext.refl w⟩
theorem stepQ_end {s : St} {k : Int} (h : whyAt s = k) (hk : k ≠ 0) : stepQ s = { s with why := k } := by
  unfold stepQ; rw [h, if_neg hk]
theorem stepQ_go {s : St} (h : whyAt s = 0) : stepQ s = { doQ s (ordAt s) with at_ := whenAt (ordAt s) (negAt s), time := untilAt s, done := s.done + 1 } := by
  unfold stepQ; rw [if_pos h]
/-- the run ends here -/
theorem fin_why {w w2 W : World} (h : Mac w2 nb m g1 c1 tv pv s o) (hc : Chg (Own3 m g1 pv) w w2) (e1 : W.os = w2.os) (e2 : W.tape = w2.tape) (e3 : W.output = w2.output) (e4 : W.heap = w2.heap)
    {k : Int} (hs : stepQ s = { s with why := k }) :
    DoRes nb m g1 c1 tv pv (stepQ s) o w (.returned (.tuple #[])) (W.setCell ⟨m, 7, none⟩ (.int .i64 k)) := by
  rw [hs]
  exact ⟨rfl, pv, (h.heapEq e4).setm 7 _ _ o rfl rfl rfl rfl, (hc.trans (Chg.heapEq e1 e2 e3 e4)).setCell _ (.inl rfl) _, .inl rfl⟩
/-- the order is done -/
theorem fin_do {w w2 W w3 : World} {pv' : Value} {s' : St} {a u d : Int} (h : Mac w3 nb m g1 c1 tv pv' s' o) (hc : Chg (Own3 m g1 pv) w w2) (hc3 : Chg (Own3 m g1 pv) W w3)
    (hp : pv'.ownBlock = pv.ownBlock ∨ ∃ k, pv'.ownBlock = some k ∧ W.heap.size ≤ k) (e1 : W.os = w2.os) (e2 : W.tape = w2.tape) (e3 : W.output = w2.output) (e4 : W.heap = w2.heap)
    (hs : stepQ s = { s' with at_ := a, time := u, done := d }) :
    DoRes nb m g1 c1 tv pv (stepQ s) o w (.returned (.tuple #[])) (((w3.setCell ⟨m, 5, none⟩ (.int .i64 a)).setCell ⟨m, 4, none⟩ (.int .i64 u)).setCell ⟨m, 6, none⟩ (.int .i64 d)) := by
  rw [hs]
  refine ⟨rfl, pv', ((h.setm 5 _ { s' with at_ := a } o rfl rfl rfl rfl).setm 4 _ { s' with at_ := a, time := u } o rfl rfl rfl rfl).setm 6 _ _ o rfl rfl rfl rfl,
    ((((hc.trans (Chg.heapEq e1 e2 e3 e4)).trans hc3).setCell _ (.inl rfl) _).setCell _ (.inl rfl) _).setCell _ (.inl rfl) _, ?_⟩
  rcases hp with hp | ⟨k, hk, hz⟩
  · exact .inl hp
  · exact .inr ⟨k, hk, by rw [e4] at hz; have := hc.size; omega⟩
set_option maxHeartbeats 4000000 in
set_option maxRecDepth 100000 in
theorem step_any (w : World) (h : Mac w nb m g1 c1 tv pv s o) (hv : Valid s) (hy : s.why = 0) :
    Calls Tryz.prog 70 #[.pointer (some ⟨m, 0, none⟩)] w (DoRes nb m g1 c1 tv pv (stepQ s) (ordAt s) w) := by
  obtain ⟨⟨at0, at1⟩, ⟨tm0, tm1⟩⟩ := And.intro hv.at_ hv.time
  have at2 : s.at_ < 128 := by omega
  have qa : w.cell? ⟨g1, s.at_.toNat, none⟩ = some (.int .i64 (wordAt s s.at_)) := h.wc _ (by omega)
  have q0 := h.c 0 (v := .slice (some ⟨g1, 0, none⟩) 128 c1) rfl
  have q5 := h.c 5 (v := .int .i64 s.at_) rfl
  have q8 := h.c 8 (v := .int .i64 o.op) rfl
  have q9 := h.c 9 (v := .int .i64 o.frm) rfl
  have q10 := h.c 10 (v := .int .i64 o.to) rfl
  have q11 := h.c 11 (v := .int .i64 o.nxt) rfl
  have f8 := h.f 8
  have f9 := h.f 9
  have f10 := h.f 10
  have f11 := h.f 11
  have hd := fun W => decode_any (wordAt s s.at_) W (hv.word s.at_ at0 at1).1
  have ho : decodeQ (wordAt s s.at_) = ordAt s := rfl
  rw [ho] at hd
  clear ho
  have H := Lib.hid h
  have HV := Lib.hid hv
  clear h
  generalize hx : wordAt s s.at_ = x at qa hd
  clear hx
  have hov := hv.ord
  generalize hoo : ordAt s = o2 at hd hov ⊢
  have Ho := Lib.hid hoo
  clear hoo hv
  go_enter Tryz.func70, Tryz.ntmps70
  go_upto_region 0 with fail
  go_cut [] (fun wx => Mac wx nb m g1 c1 tv pv s o2 ∧ Chg (Own3 m g1 pv) w wx)
  case first =>
    go_region_law (go_simp; go_at_call 66; refine (hd _).mono ?_; rintro e w1 ⟨rfl, hb⟩; have k8 := cell_later hb q8; have k9 := cell_later hb q9; have k10 := cell_later hb q10; have k11 := cell_later hb q11; have l8 := (hb.frozen (p := ⟨m, 8, none⟩) H.out.ltm).trans f8; have l9 := (hb.frozen (p := ⟨m, 9, none⟩) H.out.ltm).trans f9; have l10 := (hb.frozen (p := ⟨m, 10, none⟩) H.out.ltm).trans f10; have l11 := (hb.frozen (p := ⟨m, 11, none⟩) H.out.ltm).trans f11)
    all_goals
      go_wp2_with fail
      go_meet
      exact ⟨(H.out.ext (Ext.comp (Ext.refl w).drew hb)).setOrd o2, Chg.set4 (Chg.of_ext (Ext.comp (Ext.refl w).drew hb)) m (.inl rfl) _ _ _ _ _ _ _ _⟩
  case rest =>
    obtain ⟨M1, C1⟩ := hcut
    obtain ⟨wo, rfl⟩ : ∃ wo : World, wo = wc := ⟨_, rfl⟩
    clear q0 q5 q8 q9 q10 q11 f8 f9 f10 f11 hd qa H
    have hng : negAt s = decide (sgn (wordAt s o2.frm) < 0) := by rw [← Ho.out]; rfl
    obtain ⟨⟨p0, p1⟩, ⟨a0, a1⟩, ⟨b0, b1⟩, d0, d1⟩ := ordB_bd hov
    have hw := HV.out.word o2.frm a0 a1
    have hwh := fun W => when_any o2.op o2.frm o2.to o2.nxt s.time (negAt s) W hov tm0 tm1
    rw [hng] at hwh
    have hsg := fun W => signed_ext (wordAt s o2.frm) W hw.1 hw.2
    have k0 := M1.c 0 (v := .slice (some ⟨g1, 0, none⟩) 128 c1) rfl
    have k4 := M1.c 4 (v := .int .i64 s.time) rfl
    have k8 := M1.c 8 (v := .int .i64 o2.op) rfl
    have k9 := M1.c 9 (v := .int .i64 o2.frm) rfl
    have k10 := M1.c 10 (v := .int .i64 o2.to) rfl
    have k11 := M1.c 11 (v := .int .i64 o2.nxt) rfl
    have kg : wo.cell? ⟨g1, o2.frm.toNat, none⟩ = some (.int .i64 (wordAt s o2.frm)) := M1.wc _ (by omega)
    generalize hsv : sgn (wordAt s o2.frm) = sg at hng hwh hsg
    generalize hwv : wordAt s o2.frm = wa at hw hsg kg
    have Hng := Lib.hid hng
    clear hng hsv hwv
    go_upto_region 1 with fail
    go_cut [2, 3] (fun s2 s3 wx => s2 = .int .i64 (whenAt o2 (decide (sg < 0))) ∧ s3 = .int .i64 (whenUntil o2 s.time (decide (sg < 0))) ∧ Ext wo wx)
    case first =>
      go_region_held3 (fun w' => Ext wo w' ∧ w'.cell? ⟨m, 0, none⟩ = some (.slice (some ⟨g1, 0, none⟩) 128 c1) ∧ w'.cell? ⟨m, 4, none⟩ = some (.int .i64 s.time) ∧ w'.cell? ⟨m, 8, none⟩ = some (.int .i64 o2.op) ∧ w'.cell? ⟨m, 9, none⟩ = some (.int .i64 o2.frm) ∧ w'.cell? ⟨m, 10, none⟩ = some (.int .i64 o2.to) ∧ w'.cell? ⟨m, 11, none⟩ = some (.int .i64 o2.nxt) ∧ w'.cell? ⟨g1, o2.frm.toNat, none⟩ = some (.int .i64 wa))
        (first | exact ⟨(Ext.refl wo).drew, k0, k4, k8, k9, k10, k11, kg⟩ | exact ⟨Ext.comp (Ext.refl wo).drew hb', cell_later hb' k0, cell_later hb' k4, cell_later hb' k8, cell_later hb' k9, cell_later hb' k10, cell_later hb' k11, cell_later hb' kg⟩ | (have hh := ‹Ext wo _ ∧ _ ∧ _›; exact ⟨Ext.comp hh.1 hb', cell_later hb' hh.2.1, cell_later hb' hh.2.2.1, cell_later hb' hh.2.2.2.1, cell_later hb' hh.2.2.2.2.1, cell_later hb' hh.2.2.2.2.2.1, cell_later hb' hh.2.2.2.2.2.2.1, cell_later hb' hh.2.2.2.2.2.2.2⟩))
        (first | (go_at_call 82; refine (from_ext _ (by first | exact M1.ext (‹Ext wo _ ∧ _›).1 | exact M1.ext (Ext.refl wo).drew) a0 a1).mono ?_; rintro e w' ⟨rfl, hb'⟩) | (go_at_call 65; refine (hsg _).mono ?_; rintro e w' ⟨rfl, hb'⟩) | (go_at_call 81; refine (hwh _).mono ?_; rintro e w' ⟨rfl, hb'⟩))
      all_goals
        go_wp2_with fail
        go_meet
        exact ⟨rfl, rfl, (‹Ext wo _ ∧ _›).1⟩
    case rest =>
      obtain ⟨rfl, rfl, E2⟩ := hcut
      obtain ⟨a2, ct, htv, _⟩ := M1.tp
      obtain ⟨a3, cp, hpv⟩ : ∃ a3 cp, pv = .slice a3 s.printed.length cp := by
        rcases M1.prow.2 with ⟨h1, h2⟩ | ⟨g, cap, cur, h1, _⟩
        · exact ⟨none, 0, by rw [h2]; exact h1⟩
        · exact ⟨_, _, h1⟩
      have M2 := M1.ext E2
      have C2 : Chg (Own3 m g1 pv) w wc := C1.ext E2
      clear M1 C1 E2 hwh hsg k0 k4 k8 k9 k10 k11 kg
      have k1 := M2.c 1 (v := .slice a2 s.tape.length ct) (by rw [← htv]; rfl)
      have k2 := M2.c 2 (v := .int .i64 s.taken) rfl
      have k3 := M2.c 3 (v := .slice a3 s.printed.length cp) (by rw [← hpv]; rfl)
      have k7 := M2.c 7 (v := .int .i64 0) (by rw [← hy]; rfl)
      have f7 := M2.f 7
      have k8 := M2.c 8 (v := .int .i64 o2.op) rfl
      have hl1 := HV.out.tlen
      have hl2 := HV.out.plen
      have ht1 := HV.out.taken
      have hd1 := HV.out.done
      have hwt := HV.out.word o2.to b0 b1
      have hwf := HV.out.word o2.frm a0 a1
      have hun : untilAt s = whenUntil o2 s.time (decide (sg < 0)) := by rw [← Hng.out, ← Ho.out]; rfl
      have hat : whenAt (ordAt s) (negAt s) = whenAt o2 (decide (sg < 0)) := by rw [← Hng.out, Ho.out]
      generalize whenUntil o2 s.time (decide (sg < 0)) = un at hun ⊢
      generalize whenAt o2 (decide (sg < 0)) = atv at hat ⊢
      have Hun := Lib.hid hun
      have Hat := Lib.hid hat
      have Hy := Lib.hid hy
      clear hun hat htv hpv hy
      obtain hop | hop | hop | hop | hop | hop | hop | hop : o2.op = 0 ∨ o2.op = 1 ∨ o2.op = 2 ∨ o2.op = 3 ∨ o2.op = 4 ∨ o2.op = 5 ∨ o2.op = 6 ∨ o2.op = 7 := by omega
      · rw [hop] at k8
        have Hop := Lib.hid hop; clear hop
        go_wp2_with fail
        go_end0
        exact fin_why M2 C2 (by rfl) (by rfl) (by rfl) (by rfl) (stepQ_end (by simp [whyAt, Ho.out, Hop.out]) (by decide))
      · rw [hop] at k8
        by_cases hu : 1000000000 < un
        · have Hop := Lib.hid hop; clear hop
          go_wp2_with fail
          go_end0
          exact fin_why M2 C2 (by rfl) (by rfl) (by rfl) (by rfl) (stepQ_end (by simp [whyAt, Ho.out, Hop.out, Hun.out, hu]) (by decide))
        · have Hop := Lib.hid hop; clear hop
          go_wp2_with fail
          refine (move_any _ (by exact M2.heapEq rfl) a0 a1 b0 b1).mono ?_
          rintro e w3 ⟨rfl, pv', M3, C3, hp⟩
          have n4 := M3.c 4 (v := .int .i64 s.time) rfl; have e4 := M3.f 4
          have n5 := M3.c 5 (v := .int .i64 s.at_) rfl; have e5 := M3.f 5
          have n6 := M3.c 6 (v := .int .i64 s.done) rfl; have e6 := M3.f 6
          go_wp2_with fail
          go_end0
          exact fin_do M3 C2 C3 hp (by rfl) (by rfl) (by rfl) (by rfl) (by rw [stepQ_go (by simp [whyAt, Ho.out, Hop.out, Hun.out, hu]), Hat.out, Hun.out, Ho.out]; simp [doQ, Hop.out])
      · rw [hop] at k8
        by_cases hu : 1000000000 < un
        · have Hop := Lib.hid hop; clear hop
          go_wp2_with fail
          go_end0
          exact fin_why M2 C2 (by rfl) (by rfl) (by rfl) (by rfl) (stepQ_end (by simp [whyAt, Ho.out, Hop.out, Hun.out, hu]) (by decide))
        · have Hop := Lib.hid hop; clear hop
          go_wp2_with fail
          refine (add_any _ (by exact M2.heapEq rfl) a0 a1 b0 b1 hwf hwt).mono ?_
          rintro e w3 ⟨rfl, pv', M3, C3, hp⟩
          have n4 := M3.c 4 (v := .int .i64 s.time) rfl; have e4 := M3.f 4
          have n5 := M3.c 5 (v := .int .i64 s.at_) rfl; have e5 := M3.f 5
          have n6 := M3.c 6 (v := .int .i64 s.done) rfl; have e6 := M3.f 6
          go_wp2_with fail
          go_end0
          exact fin_do M3 C2 C3 hp (by rfl) (by rfl) (by rfl) (by rfl) (by rw [stepQ_go (by simp [whyAt, Ho.out, Hop.out, Hun.out, hu]), Hat.out, Hun.out, Ho.out]; simp [doQ, Hop.out])
      · rw [hop] at k8
        by_cases hu : 1000000000 < un
        · have Hop := Lib.hid hop; clear hop
          go_wp2_with fail
          go_end0
          exact fin_why M2 C2 (by rfl) (by rfl) (by rfl) (by rfl) (stepQ_end (by simp [whyAt, Ho.out, Hop.out, Hun.out, hu]) (by decide))
        · have Hop := Lib.hid hop; clear hop
          go_wp2_with fail
          refine (sub_any _ (by exact M2.heapEq rfl) a0 a1 b0 b1 hwf hwt).mono ?_
          rintro e w3 ⟨rfl, pv', M3, C3, hp⟩
          have n4 := M3.c 4 (v := .int .i64 s.time) rfl; have e4 := M3.f 4
          have n5 := M3.c 5 (v := .int .i64 s.at_) rfl; have e5 := M3.f 5
          have n6 := M3.c 6 (v := .int .i64 s.done) rfl; have e6 := M3.f 6
          go_wp2_with fail
          go_end0
          exact fin_do M3 C2 C3 hp (by rfl) (by rfl) (by rfl) (by rfl) (by rw [stepQ_go (by simp [whyAt, Ho.out, Hop.out, Hun.out, hu]), Hat.out, Hun.out, Ho.out]; simp [doQ, Hop.out])
      · rw [hop] at k8
        by_cases hu : 1000000000 < un
        · have Hop := Lib.hid hop; clear hop
          go_wp2_with fail
          go_end0
          exact fin_why M2 C2 (by rfl) (by rfl) (by rfl) (by rfl) (stepQ_end (by simp [whyAt, Ho.out, Hop.out, Hun.out, hu]) (by decide))
        · have Hop := Lib.hid hop; clear hop
          go_wp2_with fail
          refine (mul_any _ (by exact M2.heapEq rfl) a0 a1 b0 b1 hwf hwt).mono ?_
          rintro e w3 ⟨rfl, pv', M3, C3, hp⟩
          have n4 := M3.c 4 (v := .int .i64 s.time) rfl; have e4 := M3.f 4
          have n5 := M3.c 5 (v := .int .i64 s.at_) rfl; have e5 := M3.f 5
          have n6 := M3.c 6 (v := .int .i64 s.done) rfl; have e6 := M3.f 6
          go_wp2_with fail
          go_end0
          exact fin_do M3 C2 C3 hp (by rfl) (by rfl) (by rfl) (by rfl) (by rw [stepQ_go (by simp [whyAt, Ho.out, Hop.out, Hun.out, hu]), Hat.out, Hun.out, Ho.out]; simp [doQ, Hop.out])
      · rw [hop] at k8
        by_cases hu : 1000000000 < un
        · have Hop := Lib.hid hop; clear hop
          go_wp2_with fail
          go_end0
          exact fin_why M2 C2 (by rfl) (by rfl) (by rfl) (by rfl) (stepQ_end (by simp [whyAt, Ho.out, Hop.out, Hun.out, hu]) (by decide))
        · have Hop := Lib.hid hop; clear hop
          go_wp2_with fail
          refine (nop_any _ (by exact M2.heapEq rfl)).mono ?_
          rintro e w3 ⟨rfl, pv', M3, C3, hp⟩
          have n4 := M3.c 4 (v := .int .i64 s.time) rfl; have e4 := M3.f 4
          have n5 := M3.c 5 (v := .int .i64 s.at_) rfl; have e5 := M3.f 5
          have n6 := M3.c 6 (v := .int .i64 s.done) rfl; have e6 := M3.f 6
          go_wp2_with fail
          go_end0
          exact fin_do M3 C2 C3 hp (by rfl) (by rfl) (by rfl) (by rfl) (by rw [stepQ_go (by simp [whyAt, Ho.out, Hop.out, Hun.out, hu]), Hat.out, Hun.out, Ho.out]; simp [doQ, Hop.out])
      · rw [hop] at k8
        by_cases ht : s.taken = s.tape.length
        · have htb : (s.taken == (s.tape.length : Int)) = true := by simpa using ht
          have Hop := Lib.hid hop; clear hop
          have Ht := Lib.hid ht; clear ht
          go_wp2_with fail
          go_quiet (fail)
          go_wp2_with fail
          go_end0
          exact fin_why M2 C2 (by rfl) (by rfl) (by rfl) (by rfl) (stepQ_end (by simp [whyAt, Ho.out, Hop.out, Ht.out]) (by decide))
        · have htb : (s.taken == (s.tape.length : Int)) = false := by simpa using ht
          by_cases hu : 1000000000 < un
          · have Hop := Lib.hid hop; clear hop
            go_wp2_with fail
            go_quiet (fail)
            go_wp2_with fail
            go_end0
            exact fin_why M2 C2 (by rfl) (by rfl) (by rfl) (by rfl) (stepQ_end (by simp [whyAt, Ho.out, Hop.out, ht, Hun.out, hu]) (by decide))
          · have Hop := Lib.hid hop; clear hop
            go_wp2_with fail
            go_quiet (fail)
            go_wp2_with fail
            refine (read_any _ (by exact M2.heapEq rfl) b0 b1 ht1.1 (by omega) hl1).mono ?_
            rintro e w3 ⟨rfl, pv', M3, C3, hp⟩
            have n4 := M3.c 4 (v := .int .i64 s.time) rfl; have e4 := M3.f 4
            have n5 := M3.c 5 (v := .int .i64 s.at_) rfl; have e5 := M3.f 5
            have n6 := M3.c 6 (v := .int .i64 s.done) rfl; have e6 := M3.f 6
            go_wp2_with fail
            go_end0
            exact fin_do M3 C2 C3 hp (by rfl) (by rfl) (by rfl) (by rfl) (by rw [stepQ_go (by simp [whyAt, Ho.out, Hop.out, ht, Hun.out, hu]), Hat.out, Hun.out, Ho.out]; simp [doQ, Hop.out])
      · rw [hop] at k8
        by_cases ht : s.printed.length = 200
        · have htb : ((s.printed.length : Int) == 200) = true := by rw [beq_iff_eq]; omega
          have Hop := Lib.hid hop; clear hop
          have Ht := Lib.hid ht; clear ht
          go_wp2_with fail
          go_end0
          exact fin_why M2 C2 (by rfl) (by rfl) (by rfl) (by rfl) (stepQ_end (by simp [whyAt, Ho.out, Hop.out, Ht.out]) (by decide))
        · have htb : ((s.printed.length : Int) == 200) = false := by rw [beq_eq_false_iff_ne]; omega
          by_cases hu : 1000000000 < un
          · have Hop := Lib.hid hop; clear hop
            go_wp2_with fail
            go_end0
            exact fin_why M2 C2 (by rfl) (by rfl) (by rfl) (by rfl) (stepQ_end (by simp [whyAt, Ho.out, Hop.out, ht, Hun.out, hu]) (by decide))
          · have Hop := Lib.hid hop; clear hop
            go_wp2_with fail
            refine (print_any _ (by exact M2.heapEq rfl) a0 a1 (by omega)).mono ?_
            rintro e w3 ⟨rfl, pv', M3, C3, hp⟩
            have n4 := M3.c 4 (v := .int .i64 s.time) rfl; have e4 := M3.f 4
            have n5 := M3.c 5 (v := .int .i64 s.at_) rfl; have e5 := M3.f 5
            have n6 := M3.c 6 (v := .int .i64 s.done) rfl; have e6 := M3.f 6
            go_wp2_with fail
            go_end0
            exact fin_do M3 C2 C3 hp (by rfl) (by rfl) (by rfl) (by rfl) (by rw [stepQ_go (by simp [whyAt, Ho.out, Hop.out, ht, Hun.out, hu]), Hat.out, Hun.out, Ho.out]; simp [doQ, Hop.out])
end Go.Proofs.YtbcciokmlkofkaaGreat

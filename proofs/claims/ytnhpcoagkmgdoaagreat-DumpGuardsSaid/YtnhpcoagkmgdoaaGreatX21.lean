import Derived.Deep.DeepCutAuto
import Derived.StillTailTactics
import Derived.Test.YtnhpcoagkmgdoaaGreatX20
set_option linter.unusedVariables false
set_option linter.unusedSimpArgs false
/- Layer 10: an order, each of whose words is looked at (sharp). -/
namespace Go.Proofs.YtnhpcoagkmgdoaaGreat
open Go.RowKit Go.Q Go.Shelf Go.Maps
set_option maxHeartbeats 4000000
set_option maxRecDepth 100000
attribute [local go_sem] Oper.semAt_some
theorem lstep_sharp0 (m mb : Nat) (L : List Loss) (x y : Lm) (r : Int) (W : World) {ex : Nat → Prop} (hex : ∀ q, ex q → q < W.heap.size) (h : LinAt W m mb L x ex) (hv : Valid x.s)
  (HBd : Hid (∀ q : Nat, noticeQ x = (q : Int) → r = (q : Int) ∧ y = x)) (HG : Hid (noticeQ x = -1 → r = -1 ∧ y = doL x)) :
  Calls Tryz.prog 39 #[.pointer (some ⟨m, 0, none⟩), .iface 51 (.agg #[])] W (StepP m mb L y r W ex) := by
 obtain ⟨p, hp⟩ := Int.eq_ofNat_of_zero_le hv.at_.1
 have hp1 := hv.at_.2
 have HEX := Lib.hid hex
 clear hex
 have HL : Hid (LinAt W m mb L x ex) := Lib.hid h
 have HA : Hid (x.s.at_ = (p : Int)) := Lib.hid hp
 have hp128 : p < 128 := by omega
 have hbd := wordAt_bd hv x.s.at_
 obtain ⟨wa, hwa⟩ : ∃ wa, wordAt x.s x.s.at_ = wa := ⟨_, rfl⟩
 rw [hwa] at hbd
 have hob := ordB_decode hbd.1 hbd.2
 obtain ⟨op, fm, tm, nx, ho⟩ : ∃ op fm tm nx, decodeQ wa = ⟨op, fm, tm, nx⟩ := ⟨_, _, _, _, rfl⟩
 have HO : Hid (ordAt x.s = ⟨op, fm, tm, nx⟩) := Lib.hid (by unfold ordAt; rw [hwa, ho])
 rw [ho] at hob
 simp only [ordB, addrB, inB, Bool.and_eq_true, decide_eq_true_eq] at hob
 obtain ⟨⟨⟨⟨ho0, ho7⟩, hf0, hf1⟩, ht0, ht1⟩, hn0, hn1⟩ := hob
 obtain ⟨nf, rfl⟩ := Int.eq_ofNat_of_zero_le hf0
 obtain ⟨nt, rfl⟩ := Int.eq_ofNat_of_zero_le ht0
 have hop : op = 0 ∨ op = 1 ∨ op = 2 ∨ op = 3 ∨ op = 4 ∨ op = 5 ∨ op = 6 ∨ op = 7 := by omega
 have Hnf : Hid (nf < 128 ∧ True) := Lib.hid ⟨by omega, trivial⟩
 have Hnt : Hid (nt < 128 ∧ True) := Lib.hid ⟨by omega, trivial⟩
 have hdec : ∀ w, Calls Tryz.prog 71 #[.int .i64 wa] w fun e w' => e = .returned (.tuple #[.agg #[.int .i64 op, .int .i64 (nf : Int), .int .i64 (nt : Int), .int .i64 nx], .int .i64 0]) ∧ Ext w w' := fun w => by
  have h := decodeE_any wa w
  have e : decQ wa = (⟨op, (nf : Int), (nt : Int), nx⟩, 0) := by
   unfold decQ
   rw [if_pos (by unfold wordB inB; simp; exact hbd), ho]
  rw [e] at h
  exact h
 have E1 : Ext W (W.alloc (.cells #[.int .i64 0] 3)) := (Ext.refl W).alloc _
 have hbx : (W.alloc (.cells #[.int .i64 0] 3)).heap[W.heap.size]? = some (.cells #[.int .i64 0] 3 (0, 0)) := heap_alloc_new W _
 have hlt := h.lt
 obtain ⟨T, hT⟩ : ∃ T, runQ 1 x.s = T := ⟨_, rfl⟩
 have HT := Lib.hid hT
 have hask : askedQ x.s 1 = 0 := asked_valid hv
 have HV := Lib.hid hv
 have HWA := Lib.hid hwa
 have HASK := Lib.hid hask
 refine (callsIn_wide (n := 9)).1 ?_
 refine callsIn_of_wp_marks Tryz.func39 rfl trivial ?_ rfl
 simp only [Tryz.ntmps39, List.size_toArray, List.length_cons, List.length_nil, Nat.reduceAdd, Nat.reduceSub, Array.replicate_succ, Array.replicate_zero, List.push_toArray, List.append_toArray, List.nil_append, List.cons_append]
 refine wpIn_wide.2 ?_
 clear h hv hp hp1 hbd hwa ho ho0 ho7 hf0 hf1 ht0 ht1 hn0 hn1 hT hask
 have hme : ∀ w, (method 288 51 (.agg #[]) "quicksilver/dump.look").run Tryz.prog w = .ok (133, .agg #[]) w := fun w => by kernel_rfl
 have hme2 : ∀ w, (method 283 51 (.agg #[]) "quicksilver/dump.look").run Tryz.prog w = .ok (133, .agg #[]) w := fun w => by kernel_rfl
 go_wp2_with fail
 obtain ⟨b0, hb0⟩ : ∃ b0, W.heap.size = b0 := ⟨_, rfl⟩
 obtain ⟨X, hX⟩ : ∃ X, W.alloc (.cells #[.int .i64 0] 3) = X := ⟨_, rfl⟩
 rw [hX, hb0] at hbx ⊢
 rw [hX] at E1
 rw [hb0] at hlt
 have HB0 := Lib.hid hb0
 clear hX hb0
 have HM0 : Hid (m < b0 ∧ mb < b0 ∧ b0 < X.heap.size) := Lib.hid ⟨hlt.1, hlt.2, lt_of_block hbx⟩
 have HLn : Hid (∀ Y : World, Ext X Y → LinAt Y m mb L x ex) := Lib.hid (fun Y E => HL.out.ext (E1.comp E))
 obtain ⟨a1, a2, a3, c1, c2, c3, hB, i1, i2, i3, hM⟩ := HLn.out X (Ext.refl X)
 have HMb : Hid (m ≠ b0 ∧ mb ≠ m ∧ mb ≠ b0) := Lib.hid ⟨by omega, lin_ne hB hM, by omega⟩
 have HMp := Lib.hid hM
 have HMx : Hid (∃ cs, X.heap[m]? = some (.cells cs 76 (0, 0))) := Lib.hid (by obtain ⟨cs, h, _⟩ := hB.blk; exact ⟨cs, h⟩)
 have HBn : Hid (∀ Y : World, Ext X Y → LnB Y m mb (.slice a1 x.s.store.length c1) (.slice a2 x.s.tape.length c2) (.int .i64 x.s.taken) (.slice a3 x.s.printed.length c3) (.int .i64 x.s.time) (.int .i64 x.s.at_) (.int .i64 x.s.done) (.int .i64 x.s.why) x.bad) := Lib.hid (fun Y E => hB.ext E)
 have H8 := Lib.hid (fun (Y : World) (E : Ext X Y) => And.intro (HBn.out Y E).c0 (And.intro (HBn.out Y E).c1 (And.intro (HBn.out Y E).c2 (And.intro (HBn.out Y E).c3 (And.intro (HBn.out Y E).c4 (And.intro (HBn.out Y E).c5 (And.intro (HBn.out Y E).c6 (HBn.out Y E).c7)))))))
 have hrun' : ∀ Y : World, Ext X Y → Calls Tryz.prog 72 #[.agg #[.slice a1 x.s.store.length c1, .slice a2 x.s.tape.length c2, .int .i64 x.s.taken, .slice a3 x.s.printed.length c3, .int .i64 x.s.time, .int .i64 x.s.at_, .int .i64 x.s.done, .int .i64 x.s.why], .int .i64 1] Y (StResN (T, 0) Y) := fun Y E => by
  have h := runE_anyN _ x.s 1 Y ⟨a1, a2, a3, c1, c2, c3, rfl, i1.at_.ext E, i2.at_.ext E, i3.at_.ext E⟩ (valid_bd HV.out) HASK.out
  have e : runE x.s 1 = (T, 0) := by rw [← HT.out]; unfold runE; rw [if_pos HASK.out]; rfl
  rw [e] at h
  exact h
 have hrun := Lib.hid hrun'
 clear hrun'
 have hl128 := HV.out.len
 obtain ⟨g, off, rfl, hgl, hgc⟩ : ∃ g off, a1 = some ⟨g, off, none⟩ ∧ g < X.heap.size ∧ ∀ i, i < x.s.store.length → X.cell? ⟨g, off + i, none⟩ = some (.int .i64 (x.s.store[i]?.getD 0)) := by
  rcases i1 with h | ⟨g, off, h1, _, h2, h3⟩
  ·rw [h] at hl128; simp at hl128
  ·exact ⟨g, off, h1, h2, h3⟩
 have hwp : X.cell? ⟨g, off + p, none⟩ = some (.int .i64 wa) := by
  have h := hgc p (by omega)
  have e := HWA.out
  unfold wordAt at e
  rw [HA.out, Int.toNat_natCast] at e
  rw [e] at h
  exact h
 have HS : ∀ Y : World, Ext X Y → Y.cell? ⟨m, 0, none⟩ = some (.slice (some ⟨g, off, none⟩) 128 c1) ∧ Y.cell? ⟨m, 5, none⟩ = some (.int .i64 (p : Int)) ∧ Y.cell? ⟨g, off + p, none⟩ = some (.int .i64 wa) := fun Y E => by
  have h0 := (hB.ext E).c0
  have h5 := (hB.ext E).c5
  rw [hl128] at h0
  rw [HA.out] at h5
  exact ⟨h0, h5, (E.cell (p := ⟨g, off + p, none⟩) hgl).trans hwp⟩
 have hpz : (0 : Int) ≤ (p : Int) := by omega
 have hpn : (p : Int) < 128 := by omega
 clear hB i1 i2 i3 hM hgc hwp hl128 hlt
 refine wp_of_PQ 4 (.pointer (some ⟨b0, 0, none⟩)) [catchS b0] (fun c w => c = lostP p ∧ x.bad[p]?.getD false = true ∧ Ext X w) ?_ ?_
 rotate_left
 ·rintro c a w h4 hd ⟨rfl, hbp, E⟩
  have hn : noticeQ x = ((p : Nat) : Int) := notice_at HA.out hbp
  have hdd : a.defers = [catchS b0] := hd
  obtain ⟨hr, hy⟩ := HBd.out p hn
  have g0 := (E.block b0 (lt_of_block hbx)).trans hbx
  show LeavesInM _ _ _ _ a.tmps _ a.defers _ _
  rw [hdd, hr, hy, ← HB0.out]
  rw [← HB0.out] at g0 h4
  exact leavesS_bad g0 HL.out (E1.comp E) h4
 refine wp_region_Z (fun _ => false) (fun Y => Ext X Y) (by kernel_rfl) (Ext.refl X).drew fun hSX => ?_
 refine wpAnyZ_take (i := 0) (oi := ⟨_, _, _, _, _, _⟩) (v := ?_) rfl (by kernel_rfl) (by kernel_rfl) (by kernel_rfl) (by kernel_rfl) (pq_put (d := 9) (by decide)) (Or.inl ⟨by rfl, ?_⟩) hSX ?_
 rotate_left
 ·intro wX hS
  obtain ⟨q0, q1, q2⟩ := HS wX ((Ext.refl X).comp hS)
  go_simp
  (try with_reducible rfl)
 (try simp only [Act.put, List.setIfInBounds_toArray, List.set_cons_zero, List.set_cons_succ])
 refine wpAnyZ_take (i := 1) (oi := ⟨_, _, _, _, _, _⟩) (v := ?_) rfl (by kernel_rfl) (by kernel_rfl) (by kernel_rfl) (by kernel_rfl) (pq_put (d := 10) (by decide)) (Or.inl ⟨by rfl, ?_⟩) hSX ?_
 rotate_left
 ·intro wX hS
  obtain ⟨q0, q1, q2⟩ := HS wX ((Ext.refl X).comp hS)
  go_simp
  (try with_reducible rfl)
 (try simp only [Act.put, List.setIfInBounds_toArray, List.set_cons_zero, List.set_cons_succ])
 refine wpAnyZ_take (i := 2) (oi := ⟨_, _, _, _, _, _⟩) (v := ?_) rfl (by kernel_rfl) (by kernel_rfl) (by kernel_rfl) (by kernel_rfl) (pq_put (d := 11) (by decide)) (Or.inl ⟨by rfl, ?_⟩) hSX ?_
 rotate_left
 ·intro wX hS
  obtain ⟨q0, q1, q2⟩ := HS wX ((Ext.refl X).comp hS)
  go_simp
  (try with_reducible rfl)
 (try simp only [Act.put, List.setIfInBounds_toArray, List.set_cons_zero, List.set_cons_succ])
 refine wpAnyZ_take (i := 3) (oi := ⟨_, _, _, _, _, _⟩) (v := ?_) rfl (by kernel_rfl) (by kernel_rfl) (by kernel_rfl) (by kernel_rfl) (pq_put (d := 12) (by decide)) (Or.inl ⟨by rfl, ?_⟩) hSX ?_
 rotate_left
 ·intro wX hS
  obtain ⟨q0, q1, q2⟩ := HS wX ((Ext.refl X).comp hS)
  go_simp
  (try with_reducible rfl)
 (try simp only [Act.put, List.setIfInBounds_toArray, List.set_cons_zero, List.set_cons_succ])
 refine wpAnyZ_take (i := 4) (oi := ⟨_, _, _, _, _, _⟩) (v := ?_) rfl (by kernel_rfl) (by kernel_rfl) (by kernel_rfl) (by kernel_rfl) (pq_put (d := 13) (by decide)) (Or.inl ⟨by rfl, ?_⟩) hSX ?_
 rotate_left
 ·intro wX hS
  obtain ⟨q0, q1, q2⟩ := HS wX ((Ext.refl X).comp hS)
  go_simp
  (try with_reducible rfl)
 (try simp only [Act.put, List.setIfInBounds_toArray, List.set_cons_zero, List.set_cons_succ])
 refine wpAnyZ_take (i := 5) (oi := ⟨_, _, _, _, _, _⟩) (v := ?_) rfl (by kernel_rfl) (by kernel_rfl) (by kernel_rfl) (by kernel_rfl) (pq_put (d := 14) (by decide)) (Or.inl ⟨by rfl, ?_⟩) hSX ?_
 rotate_left
 ·intro wX hS
  obtain ⟨q0, q1, q2⟩ := HS wX ((Ext.refl X).comp hS)
  go_simp
  (try with_reducible rfl)
 (try simp only [Act.put, List.setIfInBounds_toArray, List.set_cons_zero, List.set_cons_succ])
 refine wpAnyZ_take (i := 6) (oi := ⟨_, _, _, _, _, _⟩) (v := ?_) rfl (by kernel_rfl) (by kernel_rfl) (by kernel_rfl) (by kernel_rfl) (pq_put (d := 15) (by decide)) (Or.inl ⟨by rfl, ?_⟩) hSX ?_
 rotate_left
 ·intro wX hS
  obtain ⟨q0, q1, q2⟩ := HS wX ((Ext.refl X).comp hS)
  go_simp
  (try with_reducible rfl)
 (try simp only [Act.put, List.setIfInBounds_toArray, List.set_cons_zero, List.set_cons_succ])
 refine wpAnyZ_take (i := 7) (oi := ⟨_, _, _, _, _, _⟩) (v := ?_) rfl (by kernel_rfl) (by kernel_rfl) (by kernel_rfl) (by kernel_rfl) (pq_put (d := 16) (by decide)) (Or.inl ⟨by rfl, ?_⟩) hSX ?_
 rotate_left
 ·intro wX hS
  obtain ⟨q0, q1, q2⟩ := HS wX ((Ext.refl X).comp hS)
  go_simp
  (try with_reducible rfl)
 (try simp only [Act.put, List.setIfInBounds_toArray, List.set_cons_zero, List.set_cons_succ])
 refine wpAnyZ_take (i := 8) (oi := ⟨_, _, _, _, _, _⟩) (v := ?_) rfl (by kernel_rfl) (by kernel_rfl) (by kernel_rfl) (by kernel_rfl) (pq_put (d := 17) (by decide)) (Or.inl ⟨by rfl, ?_⟩) hSX ?_
 rotate_left
 ·intro wX hS
  obtain ⟨q0, q1, q2⟩ := HS wX ((Ext.refl X).comp hS)
  go_simp
  (try with_reducible rfl)
 (try simp only [Act.put, List.setIfInBounds_toArray, List.set_cons_zero, List.set_cons_succ])
 refine wpAnyZ_one (i := 9) (o := ⟨_, _, _, _, _, _⟩) (by kernel_rfl) rfl (fun K hK => ?_)
 go_simp
 go_at_call 133
 cases hbp : x.bad[p]?.getD false with
 | true =>
  refine (sharp_bad m mb p L x _ (HLn.out _ hSX) hp128 hbp).mono ?_
  rintro e w1 ⟨rfl, F1a⟩
  exact ⟨rfl, rfl, rfl, (by first | exact hbp | rfl), hSX.comp F1a⟩
 | false =>
  refine (sharp_ok m mb p L x _ (HLn.out _ hSX) hp128 hbp).mono ?_
  rintro e w1 ⟨rfl, F1a⟩
  have Hbp := Lib.hid hbp
  clear hbp
  have F1 : Ext X w1 := Ext.comp hSX F1a
  clear F1a hSX
  refine hK _ _ (.inr F1) (fun _ => ?_)
  clear hK
  (try simp only [Act.put, List.setIfInBounds_toArray, List.set_cons_zero, List.set_cons_succ])
  refine wpAnyZ_done (by kernel_rfl) ?_ _
  rw [pq_normal]
  go_wp2_with fail
  go_cut [5, 6] from 19 to 34 (fun x5 x6 wx => x6 = .int .i64 0 ∧ ∃ D : Nat, x5 = .pointer (some ⟨D, 0, none⟩) ∧ wx.heap[D]? = some (.cells #[.int .i64 op, .int .i64 (nf : Int), .int .i64 (nt : Int), .int .i64 nx] 129 (0, 0)) ∧ X.heap.size ≤ D ∧ Ext X wx)
  case first =>
   refine wp_of_PQ 4 (.pointer (some ⟨b0, 0, none⟩)) [catchS b0] (fun _ _ => False) ?_ (fun c a w _ _ h => h.elim)
   refine wp_region_Z (fun _ => false) (fun Y => Ext w1 Y) (by kernel_rfl) (Ext.refl w1).drew fun hSX => ?_
   refine wpAnyZ_take (i := 0) (oi := ⟨_, _, _, _, _, _⟩) (v := ?_) rfl (by kernel_rfl) (by kernel_rfl) (by kernel_rfl) (by kernel_rfl) (pq_put (d := 20) (by decide)) (Or.inl ⟨by rfl, ?_⟩) hSX ?_
   rotate_left
   ·intro wX hS
    obtain ⟨q0, q1, q2⟩ := HS wX (F1.comp hS)
    go_simp
    (try with_reducible rfl)
   (try simp only [Act.put, List.setIfInBounds_toArray, List.set_cons_zero, List.set_cons_succ])
   refine wpAnyZ_take (i := 1) (oi := ⟨_, _, _, _, _, _⟩) (v := ?_) rfl (by kernel_rfl) (by kernel_rfl) (by kernel_rfl) (by kernel_rfl) (pq_put (d := 21) (by decide)) (Or.inl ⟨by rfl, ?_⟩) hSX ?_
   rotate_left
   ·intro wX hS
    obtain ⟨q0, q1, q2⟩ := HS wX (F1.comp hS)
    go_simp
    (try with_reducible rfl)
   (try simp only [Act.put, List.setIfInBounds_toArray, List.set_cons_zero, List.set_cons_succ])
   refine wpAnyZ_take (i := 2) (oi := ⟨_, _, _, _, _, _⟩) (v := ?_) rfl (by kernel_rfl) (by kernel_rfl) (by kernel_rfl) (by kernel_rfl) (pq_put (d := 22) (by decide)) (Or.inl ⟨by rfl, ?_⟩) hSX ?_
   rotate_left
   ·intro wX hS
    obtain ⟨q0, q1, q2⟩ := HS wX (F1.comp hS)
    go_simp
    (try with_reducible rfl)
   (try simp only [Act.put, List.setIfInBounds_toArray, List.set_cons_zero, List.set_cons_succ])
   refine wpAnyZ_take (i := 3) (oi := ⟨_, _, _, _, _, _⟩) (v := ?_) rfl (by kernel_rfl) (by kernel_rfl) (by kernel_rfl) (by kernel_rfl) (pq_put (d := 23) (by decide)) (Or.inl ⟨by rfl, ?_⟩) hSX ?_
   rotate_left
   ·intro wX hS
    obtain ⟨q0, q1, q2⟩ := HS wX (F1.comp hS)
    go_simp
    (try with_reducible rfl)
   (try simp only [Act.put, List.setIfInBounds_toArray, List.set_cons_zero, List.set_cons_succ])
   refine wpAnyZ_take (i := 4) (oi := ⟨_, _, _, _, _, _⟩) (v := ?_) rfl (by kernel_rfl) (by kernel_rfl) (by kernel_rfl) (by kernel_rfl) (pq_put (d := 24) (by decide)) (Or.inl ⟨by rfl, ?_⟩) hSX ?_
   rotate_left
   ·intro wX hS
    obtain ⟨q0, q1, q2⟩ := HS wX (F1.comp hS)
    go_simp
    (try with_reducible rfl)
   (try simp only [Act.put, List.setIfInBounds_toArray, List.set_cons_zero, List.set_cons_succ])
   refine wpAnyZ_take (i := 5) (oi := ⟨_, _, _, _, _, _⟩) (v := ?_) rfl (by kernel_rfl) (by kernel_rfl) (by kernel_rfl) (by kernel_rfl) (pq_put (d := 25) (by decide)) (Or.inl ⟨by rfl, ?_⟩) hSX ?_
   rotate_left
   ·intro wX hS
    obtain ⟨q0, q1, q2⟩ := HS wX (F1.comp hS)
    go_simp
    (try with_reducible rfl)
   (try simp only [Act.put, List.setIfInBounds_toArray, List.set_cons_zero, List.set_cons_succ])
   refine wpAnyZ_take (i := 6) (oi := ⟨_, _, _, _, _, _⟩) (v := ?_) rfl (by kernel_rfl) (by kernel_rfl) (by kernel_rfl) (by kernel_rfl) (pq_put (d := 26) (by decide)) (Or.inl ⟨by rfl, ?_⟩) hSX ?_
   rotate_left
   ·intro wX hS
    obtain ⟨q0, q1, q2⟩ := HS wX (F1.comp hS)
    go_simp
    (try with_reducible rfl)
   (try simp only [Act.put, List.setIfInBounds_toArray, List.set_cons_zero, List.set_cons_succ])
   refine wpAnyZ_take (i := 7) (oi := ⟨_, _, _, _, _, _⟩) (v := ?_) rfl (by kernel_rfl) (by kernel_rfl) (by kernel_rfl) (by kernel_rfl) (pq_put (d := 27) (by decide)) (Or.inl ⟨by rfl, ?_⟩) hSX ?_
   rotate_left
   ·intro wX hS
    obtain ⟨q0, q1, q2⟩ := HS wX (F1.comp hS)
    go_simp
    (try with_reducible rfl)
   (try simp only [Act.put, List.setIfInBounds_toArray, List.set_cons_zero, List.set_cons_succ])
   refine wpAnyZ_take (i := 8) (oi := ⟨_, _, _, _, _, _⟩) (v := ?_) rfl (by kernel_rfl) (by kernel_rfl) (by kernel_rfl) (by kernel_rfl) (pq_put (d := 28) (by decide)) (Or.inl ⟨by rfl, ?_⟩) hSX ?_
   rotate_left
   ·intro wX hS
    obtain ⟨q0, q1, q2⟩ := HS wX (F1.comp hS)
    go_simp
    (try with_reducible rfl)
   (try simp only [Act.put, List.setIfInBounds_toArray, List.set_cons_zero, List.set_cons_succ])
   refine wpAnyZ_take (i := 9) (oi := ⟨_, _, _, _, _, _⟩) (v := ?_) rfl (by kernel_rfl) (by kernel_rfl) (by kernel_rfl) (by kernel_rfl) (pq_put (d := 29) (by decide)) (Or.inl ⟨by rfl, ?_⟩) hSX ?_
   rotate_left
   ·intro wX hS
    obtain ⟨q0, q1, q2⟩ := HS wX (F1.comp hS)
    go_simp
    (try with_reducible rfl)
   (try simp only [Act.put, List.setIfInBounds_toArray, List.set_cons_zero, List.set_cons_succ])
   refine wpAnyZ_take (i := 10) (oi := ⟨_, _, _, _, _, _⟩) (v := ?_) rfl (by kernel_rfl) (by kernel_rfl) (by kernel_rfl) (by kernel_rfl) (pq_put (d := 30) (by decide)) (Or.inl ⟨by rfl, ?_⟩) hSX ?_
   rotate_left
   ·intro wX hS
    obtain ⟨q0, q1, q2⟩ := HS wX (F1.comp hS)
    go_simp
    (try with_reducible rfl)
   (try simp only [Act.put, List.setIfInBounds_toArray, List.set_cons_zero, List.set_cons_succ])
   refine wpAnyZ_take (i := 11) (oi := ⟨_, _, _, _, _, _⟩) (v := ?_) rfl (by kernel_rfl) (by kernel_rfl) (by kernel_rfl) (by kernel_rfl) (pq_put (d := 31) (by decide)) (Or.inl ⟨by rfl, ?_⟩) hSX ?_
   rotate_left
   ·intro wX hS
    obtain ⟨q0, q1, q2⟩ := HS wX (F1.comp hS)
    go_simp
    (try with_reducible rfl)
   (try simp only [Act.put, List.setIfInBounds_toArray, List.set_cons_zero, List.set_cons_succ])
   refine wpAnyZ_two (i := 12) (j := 16) (oi := ⟨_, _, _, _, _, _⟩) (oj := ⟨_, _, _, _, _, _⟩) (by kernel_rfl) rfl rfl (fun K hK => ?_) (fun K hK => ?_)
   ·go_simp
    go_at_call 71
    refine (hdec _).mono ?_
    rintro e y1 ⟨rfl, G1a⟩
    have G1 : Ext w1 y1 := Ext.comp hSX G1a
    refine hK _ _ (.inr G1) (fun _ => ?_)
    clear hK
    (try simp only [Act.put, List.setIfInBounds_toArray, List.set_cons_zero, List.set_cons_succ])
    refine wpAnyZ_take (i := 13) (oi := ⟨_, _, _, _, _, _⟩) (v := ?_) rfl (by kernel_rfl) (by kernel_rfl) (by kernel_rfl) (by kernel_rfl) (pq_put (d := 19) (by decide)) (Or.inl ⟨by rfl, ?_⟩) G1 ?_
    rotate_left
    ·intro wX hS
     obtain ⟨q0, q1, q2⟩ := HS wX (F1.comp hS)
     go_simp
     (try with_reducible rfl)
    (try simp only [Act.put, List.setIfInBounds_toArray, List.set_cons_zero, List.set_cons_succ])
    refine wpAnyZ_take (i := 14) (oi := ⟨_, _, _, _, _, _⟩) (v := ?_) rfl (by kernel_rfl) (by kernel_rfl) (by kernel_rfl) (by kernel_rfl) (pq_put (d := 33) (by decide)) (Or.inl ⟨by rfl, ?_⟩) G1 ?_
    rotate_left
    ·intro wX hS
     obtain ⟨q0, q1, q2⟩ := HS wX (F1.comp hS)
     go_simp
     (try with_reducible rfl)
    (try simp only [Act.put, List.setIfInBounds_toArray, List.set_cons_zero, List.set_cons_succ])
    refine wpAnyZ_take (i := 15) (oi := ⟨_, _, _, _, _, _⟩) (v := ?_) rfl (by kernel_rfl) (by kernel_rfl) (by kernel_rfl) (by kernel_rfl) (pq_put (d := 34) (by decide)) (Or.inl ⟨by rfl, ?_⟩) G1 ?_
    rotate_left
    ·intro wX hS
     obtain ⟨q0, q1, q2⟩ := HS wX (F1.comp hS)
     go_simp
     (try with_reducible rfl)
    (try simp only [Act.put, List.setIfInBounds_toArray, List.set_cons_zero, List.set_cons_succ])
    refine wpAnyZ_one (i := 16) (o := ⟨_, _, _, _, _, _⟩) (by kernel_rfl) rfl (fun K hK => ?_)
    go_simp
    have gA := heap_alloc_new y1 (.cells #[.int .i64 0, .int .i64 0, .int .i64 0, .int .i64 0] 129)
    have EA : Ext w1 (y1.alloc (.cells #[.int .i64 0, .int .i64 0, .int .i64 0, .int .i64 0] 129)) := Ext.alloc G1 _
    refine hK _ _ (.inr EA) (fun _ => ?_)
    clear hK
    (try simp only [Act.put, List.setIfInBounds_toArray, List.set_cons_zero, List.set_cons_succ])
    have hDs : w1.heap.size ≤ y1.heap.size := G1.size
    obtain ⟨D, hD⟩ : ∃ D, y1.heap.size = D := ⟨_, rfl⟩
    obtain ⟨y2, hy2⟩ : ∃ y2, y1.alloc (.cells #[.int .i64 0, .int .i64 0, .int .i64 0, .int .i64 0] 129) = y2 := ⟨_, rfl⟩
    rw [hD, hy2] at gA
    rw [hy2] at EA
    rw [hD] at hDs
    rw [hD, hy2]
    have z0 := blk_cell gA 0 (v := .int .i64 0) rfl
    have z1 := blk_cell gA 1 (v := .int .i64 0) rfl
    have z2 := blk_cell gA 2 (v := .int .i64 0) rfl
    have z3 := blk_cell gA 3 (v := .int .i64 0) rfl
    have zf0 := blk_free gA 0
    have zf1 := blk_free gA 1
    have zf2 := blk_free gA 2
    have zf3 := blk_free gA 3
    refine wpAnyZ_one (i := 17) (o := ⟨_, _, _, _, _, _⟩) (by kernel_rfl) rfl (fun K hK => ?_)
    go_simp
    have g2 := cells_set (cells_set (cells_set (cells_set gA 0 (.int .i64 op)) 1 (.int .i64 (nf : Int))) 2 (.int .i64 (nt : Int))) 3 (.int .i64 nx)
    (try simp at g2)
    have ES : Ext w1 ((((y2.setCell ⟨D, 0, none⟩ (.int .i64 op)).setCell ⟨D, 1, none⟩ (.int .i64 (nf : Int))).setCell ⟨D, 2, none⟩ (.int .i64 (nt : Int))).setCell ⟨D, 3, none⟩ (.int .i64 nx)) := ext_set4 EA hDs _ _ _ _ 0 1 2 3
    refine hK _ _ (.inr ES) (fun _ => ?_)
    clear hK
    (try simp only [Act.put, List.setIfInBounds_toArray, List.set_cons_zero, List.set_cons_succ])
    refine wpAnyZ_take (i := 18) (oi := ⟨_, _, _, _, _, _⟩) (v := ?_) rfl (by kernel_rfl) (by kernel_rfl) (by kernel_rfl) (by kernel_rfl) (pq_put (d := 6) (by decide)) (Or.inl ⟨by rfl, ?_⟩) ES ?_
    rotate_left
    ·intro wX hS
     obtain ⟨q0, q1, q2⟩ := HS wX (F1.comp hS)
     go_simp
     (try with_reducible rfl)
    (try simp only [Act.put, List.setIfInBounds_toArray, List.set_cons_zero, List.set_cons_succ])
    refine wpAnyZ_done (by kernel_rfl) ?_ _
    rw [pq_normal]
    go_wp2_with fail
    go_meet
    exact ⟨rfl, D, rfl, g2, Nat.le_trans F1.size hDs, F1.comp ES⟩
   ·go_simp
    have gA := heap_alloc_new w1.drew (.cells #[.int .i64 0, .int .i64 0, .int .i64 0, .int .i64 0] 129)
    have EA : Ext w1 (w1.drew.alloc (.cells #[.int .i64 0, .int .i64 0, .int .i64 0, .int .i64 0] 129)) := Ext.alloc hSX _
    refine hK _ _ (.inr EA) (fun _ => ?_)
    clear hK
    (try simp only [Act.put, List.setIfInBounds_toArray, List.set_cons_zero, List.set_cons_succ])
    have hDs : w1.heap.size ≤ w1.heap.size := Nat.le_refl _
    obtain ⟨D, hD⟩ : ∃ D, w1.heap.size = D := ⟨_, rfl⟩
    replace gA : (w1.drew.alloc (.cells #[.int .i64 0, .int .i64 0, .int .i64 0, .int .i64 0] 129)).heap[w1.heap.size]? = _ := gA
    rw [hD] at gA
    have hDs : w1.heap.size ≤ D := by omega
    rw [hD]
    refine wpAnyZ_one (i := 12) (o := ⟨_, _, _, _, _, _⟩) (by kernel_rfl) rfl (fun K hK => ?_)
    go_simp
    go_at_call 71
    refine (hdec _).mono ?_
    rintro e y1 ⟨rfl, G1a⟩
    have G1 : Ext w1 y1 := Ext.comp EA G1a
    refine hK _ _ (.inr G1) (fun _ => ?_)
    clear hK
    (try simp only [Act.put, List.setIfInBounds_toArray, List.set_cons_zero, List.set_cons_succ])
    refine wpAnyZ_take (i := 13) (oi := ⟨_, _, _, _, _, _⟩) (v := ?_) rfl (by kernel_rfl) (by kernel_rfl) (by kernel_rfl) (by kernel_rfl) (pq_put (d := 19) (by decide)) (Or.inl ⟨by rfl, ?_⟩) G1 ?_
    rotate_left
    ·intro wX hS
     obtain ⟨q0, q1, q2⟩ := HS wX (F1.comp hS)
     go_simp
     (try with_reducible rfl)
    (try simp only [Act.put, List.setIfInBounds_toArray, List.set_cons_zero, List.set_cons_succ])
    refine wpAnyZ_take (i := 14) (oi := ⟨_, _, _, _, _, _⟩) (v := ?_) rfl (by kernel_rfl) (by kernel_rfl) (by kernel_rfl) (by kernel_rfl) (pq_put (d := 33) (by decide)) (Or.inl ⟨by rfl, ?_⟩) G1 ?_
    rotate_left
    ·intro wX hS
     obtain ⟨q0, q1, q2⟩ := HS wX (F1.comp hS)
     go_simp
     (try with_reducible rfl)
    (try simp only [Act.put, List.setIfInBounds_toArray, List.set_cons_zero, List.set_cons_succ])
    refine wpAnyZ_take (i := 15) (oi := ⟨_, _, _, _, _, _⟩) (v := ?_) rfl (by kernel_rfl) (by kernel_rfl) (by kernel_rfl) (by kernel_rfl) (pq_put (d := 34) (by decide)) (Or.inl ⟨by rfl, ?_⟩) G1 ?_
    rotate_left
    ·intro wX hS
     obtain ⟨q0, q1, q2⟩ := HS wX (F1.comp hS)
     go_simp
     (try with_reducible rfl)
    (try simp only [Act.put, List.setIfInBounds_toArray, List.set_cons_zero, List.set_cons_succ])
    have EA2 := G1
    have gA2 := (G1a.block D (lt_of_block gA)).trans gA
    obtain ⟨y2, hy2⟩ : ∃ y2, y1 = y2 := ⟨_, rfl⟩
    rw [hy2] at gA2 EA2 ⊢
    clear gA EA
    have gA := gA2
    have EA := EA2
    have z0 := blk_cell gA 0 (v := .int .i64 0) rfl
    have z1 := blk_cell gA 1 (v := .int .i64 0) rfl
    have z2 := blk_cell gA 2 (v := .int .i64 0) rfl
    have z3 := blk_cell gA 3 (v := .int .i64 0) rfl
    have zf0 := blk_free gA 0
    have zf1 := blk_free gA 1
    have zf2 := blk_free gA 2
    have zf3 := blk_free gA 3
    refine wpAnyZ_one (i := 17) (o := ⟨_, _, _, _, _, _⟩) (by kernel_rfl) rfl (fun K hK => ?_)
    go_simp
    have g2 := cells_set (cells_set (cells_set (cells_set gA 0 (.int .i64 op)) 1 (.int .i64 (nf : Int))) 2 (.int .i64 (nt : Int))) 3 (.int .i64 nx)
    (try simp at g2)
    have ES : Ext w1 ((((y2.setCell ⟨D, 0, none⟩ (.int .i64 op)).setCell ⟨D, 1, none⟩ (.int .i64 (nf : Int))).setCell ⟨D, 2, none⟩ (.int .i64 (nt : Int))).setCell ⟨D, 3, none⟩ (.int .i64 nx)) := ext_set4 EA hDs _ _ _ _ 0 1 2 3
    refine hK _ _ (.inr ES) (fun _ => ?_)
    clear hK
    (try simp only [Act.put, List.setIfInBounds_toArray, List.set_cons_zero, List.set_cons_succ])
    refine wpAnyZ_take (i := 18) (oi := ⟨_, _, _, _, _, _⟩) (v := ?_) rfl (by kernel_rfl) (by kernel_rfl) (by kernel_rfl) (by kernel_rfl) (pq_put (d := 6) (by decide)) (Or.inl ⟨by rfl, ?_⟩) ES ?_
    rotate_left
    ·intro wX hS
     obtain ⟨q0, q1, q2⟩ := HS wX (F1.comp hS)
     go_simp
     (try with_reducible rfl)
    (try simp only [Act.put, List.setIfInBounds_toArray, List.set_cons_zero, List.set_cons_succ])
    refine wpAnyZ_done (by kernel_rfl) ?_ _
    rw [pq_normal]
    go_wp2_with fail
    go_meet
    exact ⟨rfl, D, rfl, g2, Nat.le_trans F1.size hDs, F1.comp ES⟩
  case rest =>
   obtain ⟨rfl, D, rfl, gD, hDX, FC⟩ := hcut
   have HDn : Hid (¬ D = m ∧ ¬ b0 = m) := Lib.hid ⟨by have := HM0.out; omega, HMb.out.1 ∘ Eq.symm⟩
   have HgDc := Lib.hid gD
   have q0 := blk_cell gD 0 (v := .int .i64 op) rfl
   have q1 := blk_cell gD 1 (v := .int .i64 (nf : Int)) rfl
   clear gD HS hdec F1
   rcases hop with rfl | rfl | rfl | rfl | rfl | rfl | rfl | rfl
   ·have HW : Hid (writesQ x.s = -1) := Lib.hid (by unfold writesQ; rw [HO.out]; simp)
    (try clear q1)
    (try clear q2)
    have hn : noticeQ x = -1 := by
     rw [notice_rd HA.out (o := ⟨0, (nf : Int), (nt : Int), nx⟩) HO.out Hbp.out (l := []) (by simp)]
     simp
    obtain ⟨k0, k1, k2, k3, k4, k5, k6, k7⟩ := H8.out wc FC
    go_wp2_with fail
    refine (hrun.out wc FC).mono ?_
    rintro e w3 ⟨v, rfl, ⟨s1, s2, s3, d1, d2, d3, rfl, j1, j2, j3⟩, E3⟩
    have F3 : Ext X w3 := Ext.comp FC E3
    clear k0 k1 k2 k3 k4 k5 k6 k7
    obtain ⟨k0, k1, k2, k3, k4, k5, k6, k7⟩ := H8.out w3 F3
    have hB3 := HBn.out w3 F3
    have f0 := hB3.free 0
    have f1 := hB3.free 1
    have f2 := hB3.free 2
    have f3 := hB3.free 3
    have f4 := hB3.free 4
    have f5 := hB3.free 5
    have f6 := hB3.free 6
    have f7 := hB3.free 7
    have HgD := Lib.hid ((E3.block D (lt_of_block HgDc.out)).trans HgDc.out)
    have Hgb := Lib.hid ((F3.block b0 (lt_of_block hbx)).trans hbx)
    have HB8 := Lib.hid (hB3.set8 (.slice s1 T.store.length d1) (.slice s2 T.tape.length d2) (.int .i64 T.taken) (.slice s3 T.printed.length d3) (.int .i64 T.time) (.int .i64 T.at_) (.int .i64 T.done) (.int .i64 T.why))
    have HK8 := Lib.hid (s8_kp (M := fun q => q = m) (w := w3) (b := m) (n0 := .slice s1 T.store.length d1) (n1 := .slice s2 T.tape.length d2) (n2 := .int .i64 T.taken) (n3 := .slice s3 T.printed.length d3) (n4 := .int .i64 T.time) (n5 := .int .i64 T.at_) (n6 := .int .i64 T.done) (n7 := .int .i64 T.why) rfl)
    have Hnb : Hid (m < wc.heap.size ∧ mb < wc.heap.size ∧ b0 < wc.heap.size) := Lib.hid (by have := (FC).size; have := HM0.out; omega)
    have Hj := Lib.hid (And.intro j1 (And.intro j2 j3))
    clear j1 j2 j3 hB3
    go_upto_region 21 with fail
    have hB8 := HB8.out
    have K8 := HK8.out
    unfold S8 at hB8 K8
    clear HB8 HK8
    generalize ((((((((w3.setCell ⟨m, 0, none⟩ (.slice s1 T.store.length d1)).setCell ⟨m, 1, none⟩ (.slice s2 T.tape.length d2)).setCell ⟨m, 2, none⟩ (.int .i64 T.taken)).setCell ⟨m, 3, none⟩ (.slice s3 T.printed.length d3)).setCell ⟨m, 4, none⟩ (.int .i64 T.time)).setCell ⟨m, 5, none⟩ (.int .i64 T.at_)).setCell ⟨m, 6, none⟩ (.int .i64 T.done)).setCell ⟨m, 7, none⟩ (.int .i64 T.why)) = V8 at hB8 K8 ⊢
    clear k0 k1 k2 k3 k4 k5 k6 k7 f0 f1 f2 f3 f4 f5 f6 f7
    have gD8 := (K8.block D (lt_of_block HgD.out) HDn.out.1).trans HgD.out
    have gb8 := (K8.block b0 (lt_of_block Hgb.out) HDn.out.2).trans Hgb.out
    have kk8 : KpM (fun q => q = m ∨ q = b0) w3 V8 := K8.mono fun q h => .inl h
    have hgb := gb8
    go_upto_region 23 with fail
    have gb : V8.heap[b0]? = some (.cells #[.int .i64 0] 3 (0, 0)) := hgb
    have z0 := blk_cell gb 0 (v := .int .i64 0) rfl
    have zf := blk_free gb 0
    go_wp2_with fail
    obtain ⟨hr, hy⟩ := HG.out hn
    rw [hr, hy]
    have g1 := cells_set gb 0 (.int .i64 (-1))
    (try simp at g1)
    rw [← HB0.out] at g1 ⊢
    have K9 := KpM.trans kk8 (kpm_set (M := fun q => q = m ∨ q = b0) V8 b0 0 (.int .i64 (-1)) (.inr rfl))
    have KX : KpM (fun q => q = m ∨ q = b0) X (V8.setCell ⟨b0, 0, none⟩ (.int .i64 (-1))) := (KpM.of_ext F3).trans K9
    have hB9 := LnB.far hB8 ⟨b0, 0, none⟩ (.int .i64 (-1)) HMb.out.1
    have hlin := lin_step hB9 Hj.out.1 Hj.out.2.1 Hj.out.2.2 HMp.out K9 KX Hnb.out.1 Hnb.out.2.1 Hnb.out.2.2 HMb.out.2.1 HMb.out.2.2 hbx HMx.out (fun q h => by have := HEX.out q h; have := HM0.out; have := Hnb.out; have := HB0.out; omega)
    rw [← HB0.out] at hlin KX K9
    have hd : doL x = ⟨T, x.bad, x.gone⟩ := by
     have hw : ¬ (0 ≤ writesQ x.s ∧ T.why = 0) := by
      rintro ⟨h, -⟩; rw [HW.out] at h; omega
     show (⟨runQ 1 x.s, _, _⟩ : Lm) = _
     rw [HT.out, if_neg hw]
    rw [hd]
    refine leavesS_good g1 hlin ?_ ?_
    rotate_left
    ·rfl
    exact kp_box E1 KX
   ·have HW : Hid (writesQ x.s = (nt : Int)) := Lib.hid (by unfold writesQ; rw [HO.out]; simp)
    go_wp2_with fail
    cases hbnf : x.bad[nf]?.getD false with
    | true =>
     refine (sharp_bad m mb nf L x _ (HLn.out wc FC) Hnf.out.1 hbnf).mono ?_
     rintro e wf ⟨rfl, Fwfa⟩
     have Fwf : Ext X wf := Ext.comp FC Fwfa
     have hn : noticeQ x = ((nf : Nat) : Int) := by
      rw [notice_rd HA.out (o := ⟨1, (nf : Int), (nt : Int), nx⟩) HO.out Hbp.out (l := [(nf : Int)]) (by simp)]
      simp [badAt, hbnf]
     obtain ⟨hr, hy⟩ := HBd.out nf hn
     rw [hr, hy]
     have g0 := ((Fwf).block b0 (lt_of_block hbx)).trans hbx
     rw [← HB0.out] at g0 ⊢
     exact leavesS_bad g0 HL.out (E1.comp Fwf) rfl
    | false =>
     refine (sharp_ok m mb nf L x _ (HLn.out wc FC) Hnf.out.1 hbnf).mono ?_
     rintro e wf ⟨rfl, Fwfa⟩
     have Fwf : Ext X wf := Ext.comp FC Fwfa
     have Hbnf := Lib.hid hbnf
     clear hbnf
     have gDf := (Fwfa.block D (lt_of_block HgDc.out)).trans HgDc.out
     have q0 := blk_cell gDf 0 (v := .int .i64 1) rfl
     have q2 := blk_cell gDf 2 (v := .int .i64 (nt : Int)) rfl
     have HgDf := Lib.hid gDf
     clear gDf q1
     (try clear q1)
     (try clear q2)
     have hn : noticeQ x = -1 := by
      rw [notice_rd HA.out (o := ⟨1, (nf : Int), (nt : Int), nx⟩) HO.out Hbp.out (l := [(nf : Int)]) (by simp)]
      simp [badAt, Hbnf.out]
     obtain ⟨k0, k1, k2, k3, k4, k5, k6, k7⟩ := H8.out wf Fwf
     go_wp2_with fail
     refine (hrun.out wf Fwf).mono ?_
     rintro e w3 ⟨v, rfl, ⟨s1, s2, s3, d1, d2, d3, rfl, j1, j2, j3⟩, E3⟩
     have F3 : Ext X w3 := Ext.comp Fwf E3
     clear k0 k1 k2 k3 k4 k5 k6 k7
     obtain ⟨k0, k1, k2, k3, k4, k5, k6, k7⟩ := H8.out w3 F3
     have hB3 := HBn.out w3 F3
     have f0 := hB3.free 0
     have f1 := hB3.free 1
     have f2 := hB3.free 2
     have f3 := hB3.free 3
     have f4 := hB3.free 4
     have f5 := hB3.free 5
     have f6 := hB3.free 6
     have f7 := hB3.free 7
     have HgD := Lib.hid ((E3.block D (lt_of_block HgDf.out)).trans HgDf.out)
     have Hgb := Lib.hid ((F3.block b0 (lt_of_block hbx)).trans hbx)
     have HB8 := Lib.hid (hB3.set8 (.slice s1 T.store.length d1) (.slice s2 T.tape.length d2) (.int .i64 T.taken) (.slice s3 T.printed.length d3) (.int .i64 T.time) (.int .i64 T.at_) (.int .i64 T.done) (.int .i64 T.why))
     have HK8 := Lib.hid (s8_kp (M := fun q => q = m) (w := w3) (b := m) (n0 := .slice s1 T.store.length d1) (n1 := .slice s2 T.tape.length d2) (n2 := .int .i64 T.taken) (n3 := .slice s3 T.printed.length d3) (n4 := .int .i64 T.time) (n5 := .int .i64 T.at_) (n6 := .int .i64 T.done) (n7 := .int .i64 T.why) rfl)
     have Hnb : Hid (m < wf.heap.size ∧ mb < wf.heap.size ∧ b0 < wf.heap.size) := Lib.hid (by have := (Fwf).size; have := HM0.out; omega)
     have Hj := Lib.hid (And.intro j1 (And.intro j2 j3))
     clear j1 j2 j3 hB3
     go_upto_region 21 with fail
     have hB8 := HB8.out
     have K8 := HK8.out
     unfold S8 at hB8 K8
     clear HB8 HK8
     generalize ((((((((w3.setCell ⟨m, 0, none⟩ (.slice s1 T.store.length d1)).setCell ⟨m, 1, none⟩ (.slice s2 T.tape.length d2)).setCell ⟨m, 2, none⟩ (.int .i64 T.taken)).setCell ⟨m, 3, none⟩ (.slice s3 T.printed.length d3)).setCell ⟨m, 4, none⟩ (.int .i64 T.time)).setCell ⟨m, 5, none⟩ (.int .i64 T.at_)).setCell ⟨m, 6, none⟩ (.int .i64 T.done)).setCell ⟨m, 7, none⟩ (.int .i64 T.why)) = V8 at hB8 K8 ⊢
     clear k0 k1 k2 k3 k4 k5 k6 k7 f0 f1 f2 f3 f4 f5 f6 f7
     have gD8 := (K8.block D (lt_of_block HgD.out) HDn.out.1).trans HgD.out
     have gb8 := (K8.block b0 (lt_of_block Hgb.out) HDn.out.2).trans Hgb.out
     have kk8 : KpM (fun q => q = m ∨ q = b0) w3 V8 := K8.mono fun q h => .inl h
     have c7 := hB8.c7
     by_cases hwy : T.why = 0
     ·rw [hwy] at c7
      have cD := blk_cell gD8 2 (v := .int .i64 (nt : Int)) rfl
      have htz : (0 : Int) ≤ (nt : Int) := by omega
      have htn : (nt : Int) < 128 := by have := Hnt.out.1; omega
      have cb := hB8.cb nt Hnt.out.1
      go_wp2_with fail
      go_still_tail 6, (by kernel_rfl)
      change wpList _ _ _ _ _ V8.drew
      have hBd := hB8.ext (Ext.refl V8).drew
      have fb := hBd.free (8 + nt)
      have cb2 := hBd.cb nt Hnt.out.1
      have HB9 : Hid (LnB ((V8.setCell ⟨m, 8 + nt, none⟩ (.bool false)).drew) m mb (.slice s1 T.store.length d1) (.slice s2 T.tape.length d2) (.int .i64 T.taken) (.slice s3 T.printed.length d3) (.int .i64 T.time) (.int .i64 T.at_) (.int .i64 T.done) (.int .i64 T.why) (x.bad.set nt false)) := Lib.hid (hBd.setb nt Hnt.out.1 false)
      have HK9 : Hid (KpM (fun q => q = m) w3 ((V8.setCell ⟨m, 8 + nt, none⟩ (.bool false)).drew)) := Lib.hid (((K8.trans (KpM.of_ext (Ext.refl V8).drew))).trans (kpm_set (M := fun q => q = m) V8.drew m (8 + nt) (.bool false) rfl))
      have Hgb8 := Lib.hid gb8
      clear hBd cb c7 gD8 gb8
      go_upto_region 23 with fail
      have hB9 := HB9.out
      have K9a := HK9.out
      clear HB9 HK9
      have hgb := (K9a.block b0 (lt_of_block Hgb.out) HDn.out.2).trans Hgb.out
      generalize (V8.setCell ⟨m, 8 + nt, none⟩ (.bool false)).drew = V9 at hB9 K9a hgb ⊢
      have kk9 : KpM (fun q => q = m ∨ q = b0) w3 V9 := K9a.mono fun q h => .inl h
      clear cb2 fb cD
      have gb : V9.heap[b0]? = some (.cells #[.int .i64 0] 3 (0, 0)) := hgb
      have z0 := blk_cell gb 0 (v := .int .i64 0) rfl
      have zf := blk_free gb 0
      go_wp2_with fail
      obtain ⟨hr, hy⟩ := HG.out hn
      rw [hr, hy]
      have g1 := cells_set gb 0 (.int .i64 (-1))
      (try simp at g1)
      rw [← HB0.out] at g1 ⊢
      have K9 := KpM.trans kk9 (kpm_set (M := fun q => q = m ∨ q = b0) V9 b0 0 (.int .i64 (-1)) (.inr rfl))
      have KX : KpM (fun q => q = m ∨ q = b0) X (V9.setCell ⟨b0, 0, none⟩ (.int .i64 (-1))) := (KpM.of_ext F3).trans K9
      have hB9 := LnB.far hB9 ⟨b0, 0, none⟩ (.int .i64 (-1)) HMb.out.1
      have hlin := lin_step hB9 Hj.out.1 Hj.out.2.1 Hj.out.2.2 HMp.out K9 KX Hnb.out.1 Hnb.out.2.1 Hnb.out.2.2 HMb.out.2.1 HMb.out.2.2 hbx HMx.out (fun q h => by have := HEX.out q h; have := HM0.out; have := Hnb.out; have := HB0.out; omega)
      rw [← HB0.out] at hlin KX K9
      have hd : doL x = ⟨T, (x.bad.set nt false), x.gone⟩ := by
       have hw : 0 ≤ writesQ x.s ∧ T.why = 0 := ⟨by rw [HW.out]; omega, hwy⟩
       show (⟨runQ 1 x.s, _, _⟩ : Lm) = _
       rw [HT.out, if_pos hw, HW.out, Int.toNat_natCast]
      rw [hd]
      refine leavesS_good g1 hlin ?_ ?_
      rotate_left
      ·rfl
      exact kp_box E1 KX
     ·have hwz : (T.why == 0) = false := by simpa using hwy
      have hgb := gb8
      go_upto_region 23 with fail
      have gb : V8.heap[b0]? = some (.cells #[.int .i64 0] 3 (0, 0)) := hgb
      have z0 := blk_cell gb 0 (v := .int .i64 0) rfl
      have zf := blk_free gb 0
      go_wp2_with fail
      obtain ⟨hr, hy⟩ := HG.out hn
      rw [hr, hy]
      have g1 := cells_set gb 0 (.int .i64 (-1))
      (try simp at g1)
      rw [← HB0.out] at g1 ⊢
      have K9 := KpM.trans kk8 (kpm_set (M := fun q => q = m ∨ q = b0) V8 b0 0 (.int .i64 (-1)) (.inr rfl))
      have KX : KpM (fun q => q = m ∨ q = b0) X (V8.setCell ⟨b0, 0, none⟩ (.int .i64 (-1))) := (KpM.of_ext F3).trans K9
      have hB9 := LnB.far hB8 ⟨b0, 0, none⟩ (.int .i64 (-1)) HMb.out.1
      have hlin := lin_step hB9 Hj.out.1 Hj.out.2.1 Hj.out.2.2 HMp.out K9 KX Hnb.out.1 Hnb.out.2.1 Hnb.out.2.2 HMb.out.2.1 HMb.out.2.2 hbx HMx.out (fun q h => by have := HEX.out q h; have := HM0.out; have := Hnb.out; have := HB0.out; omega)
      rw [← HB0.out] at hlin KX K9
      have hd : doL x = ⟨T, x.bad, x.gone⟩ := by
       have hw : ¬ (0 ≤ writesQ x.s ∧ T.why = 0) := by
        rintro ⟨-, h⟩; exact hwy h
       show (⟨runQ 1 x.s, _, _⟩ : Lm) = _
       rw [HT.out, if_neg hw]
      rw [hd]
      refine leavesS_good g1 hlin ?_ ?_
      rotate_left
      ·rfl
      exact kp_box E1 KX
   ·have HW : Hid (writesQ x.s = (nt : Int)) := Lib.hid (by unfold writesQ; rw [HO.out]; simp)
    go_wp2_with fail
    cases hbnf : x.bad[nf]?.getD false with
    | true =>
     refine (sharp_bad m mb nf L x _ (HLn.out wc FC) Hnf.out.1 hbnf).mono ?_
     rintro e wf ⟨rfl, Fwfa⟩
     have Fwf : Ext X wf := Ext.comp FC Fwfa
     have hn : noticeQ x = ((nf : Nat) : Int) := by
      rw [notice_rd HA.out (o := ⟨2, (nf : Int), (nt : Int), nx⟩) HO.out Hbp.out (l := [(nf : Int), (nt : Int)]) (by simp)]
      simp [badAt, hbnf]
     obtain ⟨hr, hy⟩ := HBd.out nf hn
     rw [hr, hy]
     have g0 := ((Fwf).block b0 (lt_of_block hbx)).trans hbx
     rw [← HB0.out] at g0 ⊢
     exact leavesS_bad g0 HL.out (E1.comp Fwf) rfl
    | false =>
     refine (sharp_ok m mb nf L x _ (HLn.out wc FC) Hnf.out.1 hbnf).mono ?_
     rintro e wf ⟨rfl, Fwfa⟩
     have Fwf : Ext X wf := Ext.comp FC Fwfa
     have Hbnf := Lib.hid hbnf
     clear hbnf
     have gDf := (Fwfa.block D (lt_of_block HgDc.out)).trans HgDc.out
     have q0 := blk_cell gDf 0 (v := .int .i64 2) rfl
     have q2 := blk_cell gDf 2 (v := .int .i64 (nt : Int)) rfl
     have HgDf := Lib.hid gDf
     clear gDf q1
     go_wp2_with fail
     cases hbnt : x.bad[nt]?.getD false with
     | true =>
      refine (sharp_bad m mb nt L x _ (HLn.out wf Fwf) Hnt.out.1 hbnt).mono ?_
      rintro e wt ⟨rfl, Fwta⟩
      have Fwt : Ext X wt := Ext.comp Fwf Fwta
      have hn : noticeQ x = ((nt : Nat) : Int) := by
       rw [notice_rd HA.out (o := ⟨2, (nf : Int), (nt : Int), nx⟩) HO.out Hbp.out (l := [(nf : Int), (nt : Int)]) (by simp)]
       simp [badAt, Hbnf.out, hbnt]
      obtain ⟨hr, hy⟩ := HBd.out nt hn
      rw [hr, hy]
      have g0 := ((Fwt).block b0 (lt_of_block hbx)).trans hbx
      rw [← HB0.out] at g0 ⊢
      exact leavesS_bad g0 HL.out (E1.comp Fwt) rfl
     | false =>
      refine (sharp_ok m mb nt L x _ (HLn.out wf Fwf) Hnt.out.1 hbnt).mono ?_
      rintro e wt ⟨rfl, Fwta⟩
      have Fwt : Ext X wt := Ext.comp Fwf Fwta
      have Hbnt := Lib.hid hbnt
      clear hbnt
      have gDt := (Fwta.block D (lt_of_block HgDf.out)).trans HgDf.out
      have q0 := blk_cell gDt 0 (v := .int .i64 2) rfl
      have HgDt := Lib.hid gDt
      clear gDt q2
      (try clear q1)
      (try clear q2)
      have hn : noticeQ x = -1 := by
       rw [notice_rd HA.out (o := ⟨2, (nf : Int), (nt : Int), nx⟩) HO.out Hbp.out (l := [(nf : Int), (nt : Int)]) (by simp)]
       simp [badAt, Hbnf.out, Hbnt.out]
      obtain ⟨k0, k1, k2, k3, k4, k5, k6, k7⟩ := H8.out wt Fwt
      go_wp2_with fail
      refine (hrun.out wt Fwt).mono ?_
      rintro e w3 ⟨v, rfl, ⟨s1, s2, s3, d1, d2, d3, rfl, j1, j2, j3⟩, E3⟩
      have F3 : Ext X w3 := Ext.comp Fwt E3
      clear k0 k1 k2 k3 k4 k5 k6 k7
      obtain ⟨k0, k1, k2, k3, k4, k5, k6, k7⟩ := H8.out w3 F3
      have hB3 := HBn.out w3 F3
      have f0 := hB3.free 0
      have f1 := hB3.free 1
      have f2 := hB3.free 2
      have f3 := hB3.free 3
      have f4 := hB3.free 4
      have f5 := hB3.free 5
      have f6 := hB3.free 6
      have f7 := hB3.free 7
      have HgD := Lib.hid ((E3.block D (lt_of_block HgDt.out)).trans HgDt.out)
      have Hgb := Lib.hid ((F3.block b0 (lt_of_block hbx)).trans hbx)
      have HB8 := Lib.hid (hB3.set8 (.slice s1 T.store.length d1) (.slice s2 T.tape.length d2) (.int .i64 T.taken) (.slice s3 T.printed.length d3) (.int .i64 T.time) (.int .i64 T.at_) (.int .i64 T.done) (.int .i64 T.why))
      have HK8 := Lib.hid (s8_kp (M := fun q => q = m) (w := w3) (b := m) (n0 := .slice s1 T.store.length d1) (n1 := .slice s2 T.tape.length d2) (n2 := .int .i64 T.taken) (n3 := .slice s3 T.printed.length d3) (n4 := .int .i64 T.time) (n5 := .int .i64 T.at_) (n6 := .int .i64 T.done) (n7 := .int .i64 T.why) rfl)
      have Hnb : Hid (m < wt.heap.size ∧ mb < wt.heap.size ∧ b0 < wt.heap.size) := Lib.hid (by have := (Fwt).size; have := HM0.out; omega)
      have Hj := Lib.hid (And.intro j1 (And.intro j2 j3))
      clear j1 j2 j3 hB3
      go_upto_region 21 with fail
      have hB8 := HB8.out
      have K8 := HK8.out
      unfold S8 at hB8 K8
      clear HB8 HK8
      generalize ((((((((w3.setCell ⟨m, 0, none⟩ (.slice s1 T.store.length d1)).setCell ⟨m, 1, none⟩ (.slice s2 T.tape.length d2)).setCell ⟨m, 2, none⟩ (.int .i64 T.taken)).setCell ⟨m, 3, none⟩ (.slice s3 T.printed.length d3)).setCell ⟨m, 4, none⟩ (.int .i64 T.time)).setCell ⟨m, 5, none⟩ (.int .i64 T.at_)).setCell ⟨m, 6, none⟩ (.int .i64 T.done)).setCell ⟨m, 7, none⟩ (.int .i64 T.why)) = V8 at hB8 K8 ⊢
      clear k0 k1 k2 k3 k4 k5 k6 k7 f0 f1 f2 f3 f4 f5 f6 f7
      have gD8 := (K8.block D (lt_of_block HgD.out) HDn.out.1).trans HgD.out
      have gb8 := (K8.block b0 (lt_of_block Hgb.out) HDn.out.2).trans Hgb.out
      have kk8 : KpM (fun q => q = m ∨ q = b0) w3 V8 := K8.mono fun q h => .inl h
      have c7 := hB8.c7
      by_cases hwy : T.why = 0
      ·rw [hwy] at c7
       have cD := blk_cell gD8 2 (v := .int .i64 (nt : Int)) rfl
       have htz : (0 : Int) ≤ (nt : Int) := by omega
       have htn : (nt : Int) < 128 := by have := Hnt.out.1; omega
       have cb := hB8.cb nt Hnt.out.1
       go_wp2_with fail
       go_still_tail 6, (by kernel_rfl)
       change wpList _ _ _ _ _ V8.drew
       have hBd := hB8.ext (Ext.refl V8).drew
       have fb := hBd.free (8 + nt)
       have cb2 := hBd.cb nt Hnt.out.1
       have HB9 : Hid (LnB ((V8.setCell ⟨m, 8 + nt, none⟩ (.bool false)).drew) m mb (.slice s1 T.store.length d1) (.slice s2 T.tape.length d2) (.int .i64 T.taken) (.slice s3 T.printed.length d3) (.int .i64 T.time) (.int .i64 T.at_) (.int .i64 T.done) (.int .i64 T.why) (x.bad.set nt false)) := Lib.hid (hBd.setb nt Hnt.out.1 false)
       have HK9 : Hid (KpM (fun q => q = m) w3 ((V8.setCell ⟨m, 8 + nt, none⟩ (.bool false)).drew)) := Lib.hid (((K8.trans (KpM.of_ext (Ext.refl V8).drew))).trans (kpm_set (M := fun q => q = m) V8.drew m (8 + nt) (.bool false) rfl))
       have Hgb8 := Lib.hid gb8
       clear hBd cb c7 gD8 gb8
       go_upto_region 23 with fail
       have hB9 := HB9.out
       have K9a := HK9.out
       clear HB9 HK9
       have hgb := (K9a.block b0 (lt_of_block Hgb.out) HDn.out.2).trans Hgb.out
       generalize (V8.setCell ⟨m, 8 + nt, none⟩ (.bool false)).drew = V9 at hB9 K9a hgb ⊢
       have kk9 : KpM (fun q => q = m ∨ q = b0) w3 V9 := K9a.mono fun q h => .inl h
       clear cb2 fb cD
       have gb : V9.heap[b0]? = some (.cells #[.int .i64 0] 3 (0, 0)) := hgb
       have z0 := blk_cell gb 0 (v := .int .i64 0) rfl
       have zf := blk_free gb 0
       go_wp2_with fail
       obtain ⟨hr, hy⟩ := HG.out hn
       rw [hr, hy]
       have g1 := cells_set gb 0 (.int .i64 (-1))
       (try simp at g1)
       rw [← HB0.out] at g1 ⊢
       have K9 := KpM.trans kk9 (kpm_set (M := fun q => q = m ∨ q = b0) V9 b0 0 (.int .i64 (-1)) (.inr rfl))
       have KX : KpM (fun q => q = m ∨ q = b0) X (V9.setCell ⟨b0, 0, none⟩ (.int .i64 (-1))) := (KpM.of_ext F3).trans K9
       have hB9 := LnB.far hB9 ⟨b0, 0, none⟩ (.int .i64 (-1)) HMb.out.1
       have hlin := lin_step hB9 Hj.out.1 Hj.out.2.1 Hj.out.2.2 HMp.out K9 KX Hnb.out.1 Hnb.out.2.1 Hnb.out.2.2 HMb.out.2.1 HMb.out.2.2 hbx HMx.out (fun q h => by have := HEX.out q h; have := HM0.out; have := Hnb.out; have := HB0.out; omega)
       rw [← HB0.out] at hlin KX K9
       have hd : doL x = ⟨T, (x.bad.set nt false), x.gone⟩ := by
        have hw : 0 ≤ writesQ x.s ∧ T.why = 0 := ⟨by rw [HW.out]; omega, hwy⟩
        show (⟨runQ 1 x.s, _, _⟩ : Lm) = _
        rw [HT.out, if_pos hw, HW.out, Int.toNat_natCast]
       rw [hd]
       refine leavesS_good g1 hlin ?_ ?_
       rotate_left
       ·rfl
       exact kp_box E1 KX
      ·have hwz : (T.why == 0) = false := by simpa using hwy
       have hgb := gb8
       go_upto_region 23 with fail
       have gb : V8.heap[b0]? = some (.cells #[.int .i64 0] 3 (0, 0)) := hgb
       have z0 := blk_cell gb 0 (v := .int .i64 0) rfl
       have zf := blk_free gb 0
       go_wp2_with fail
       obtain ⟨hr, hy⟩ := HG.out hn
       rw [hr, hy]
       have g1 := cells_set gb 0 (.int .i64 (-1))
       (try simp at g1)
       rw [← HB0.out] at g1 ⊢
       have K9 := KpM.trans kk8 (kpm_set (M := fun q => q = m ∨ q = b0) V8 b0 0 (.int .i64 (-1)) (.inr rfl))
       have KX : KpM (fun q => q = m ∨ q = b0) X (V8.setCell ⟨b0, 0, none⟩ (.int .i64 (-1))) := (KpM.of_ext F3).trans K9
       have hB9 := LnB.far hB8 ⟨b0, 0, none⟩ (.int .i64 (-1)) HMb.out.1
       have hlin := lin_step hB9 Hj.out.1 Hj.out.2.1 Hj.out.2.2 HMp.out K9 KX Hnb.out.1 Hnb.out.2.1 Hnb.out.2.2 HMb.out.2.1 HMb.out.2.2 hbx HMx.out (fun q h => by have := HEX.out q h; have := HM0.out; have := Hnb.out; have := HB0.out; omega)
       rw [← HB0.out] at hlin KX K9
       have hd : doL x = ⟨T, x.bad, x.gone⟩ := by
        have hw : ¬ (0 ≤ writesQ x.s ∧ T.why = 0) := by
         rintro ⟨-, h⟩; exact hwy h
        show (⟨runQ 1 x.s, _, _⟩ : Lm) = _
        rw [HT.out, if_neg hw]
       rw [hd]
       refine leavesS_good g1 hlin ?_ ?_
       rotate_left
       ·rfl
       exact kp_box E1 KX
   ·have HW : Hid (writesQ x.s = (nt : Int)) := Lib.hid (by unfold writesQ; rw [HO.out]; simp)
    go_wp2_with fail
    cases hbnf : x.bad[nf]?.getD false with
    | true =>
     refine (sharp_bad m mb nf L x _ (HLn.out wc FC) Hnf.out.1 hbnf).mono ?_
     rintro e wf ⟨rfl, Fwfa⟩
     have Fwf : Ext X wf := Ext.comp FC Fwfa
     have hn : noticeQ x = ((nf : Nat) : Int) := by
      rw [notice_rd HA.out (o := ⟨3, (nf : Int), (nt : Int), nx⟩) HO.out Hbp.out (l := [(nf : Int), (nt : Int)]) (by simp)]
      simp [badAt, hbnf]
     obtain ⟨hr, hy⟩ := HBd.out nf hn
     rw [hr, hy]
     have g0 := ((Fwf).block b0 (lt_of_block hbx)).trans hbx
     rw [← HB0.out] at g0 ⊢
     exact leavesS_bad g0 HL.out (E1.comp Fwf) rfl
    | false =>
     refine (sharp_ok m mb nf L x _ (HLn.out wc FC) Hnf.out.1 hbnf).mono ?_
     rintro e wf ⟨rfl, Fwfa⟩
     have Fwf : Ext X wf := Ext.comp FC Fwfa
     have Hbnf := Lib.hid hbnf
     clear hbnf
     have gDf := (Fwfa.block D (lt_of_block HgDc.out)).trans HgDc.out
     have q0 := blk_cell gDf 0 (v := .int .i64 3) rfl
     have q2 := blk_cell gDf 2 (v := .int .i64 (nt : Int)) rfl
     have HgDf := Lib.hid gDf
     clear gDf q1
     go_wp2_with fail
     cases hbnt : x.bad[nt]?.getD false with
     | true =>
      refine (sharp_bad m mb nt L x _ (HLn.out wf Fwf) Hnt.out.1 hbnt).mono ?_
      rintro e wt ⟨rfl, Fwta⟩
      have Fwt : Ext X wt := Ext.comp Fwf Fwta
      have hn : noticeQ x = ((nt : Nat) : Int) := by
       rw [notice_rd HA.out (o := ⟨3, (nf : Int), (nt : Int), nx⟩) HO.out Hbp.out (l := [(nf : Int), (nt : Int)]) (by simp)]
       simp [badAt, Hbnf.out, hbnt]
      obtain ⟨hr, hy⟩ := HBd.out nt hn
      rw [hr, hy]
      have g0 := ((Fwt).block b0 (lt_of_block hbx)).trans hbx
      rw [← HB0.out] at g0 ⊢
      exact leavesS_bad g0 HL.out (E1.comp Fwt) rfl
     | false =>
      refine (sharp_ok m mb nt L x _ (HLn.out wf Fwf) Hnt.out.1 hbnt).mono ?_
      rintro e wt ⟨rfl, Fwta⟩
      have Fwt : Ext X wt := Ext.comp Fwf Fwta
      have Hbnt := Lib.hid hbnt
      clear hbnt
      have gDt := (Fwta.block D (lt_of_block HgDf.out)).trans HgDf.out
      have q0 := blk_cell gDt 0 (v := .int .i64 3) rfl
      have HgDt := Lib.hid gDt
      clear gDt q2
      (try clear q1)
      (try clear q2)
      have hn : noticeQ x = -1 := by
       rw [notice_rd HA.out (o := ⟨3, (nf : Int), (nt : Int), nx⟩) HO.out Hbp.out (l := [(nf : Int), (nt : Int)]) (by simp)]
       simp [badAt, Hbnf.out, Hbnt.out]
      obtain ⟨k0, k1, k2, k3, k4, k5, k6, k7⟩ := H8.out wt Fwt
      go_wp2_with fail
      refine (hrun.out wt Fwt).mono ?_
      rintro e w3 ⟨v, rfl, ⟨s1, s2, s3, d1, d2, d3, rfl, j1, j2, j3⟩, E3⟩
      have F3 : Ext X w3 := Ext.comp Fwt E3
      clear k0 k1 k2 k3 k4 k5 k6 k7
      obtain ⟨k0, k1, k2, k3, k4, k5, k6, k7⟩ := H8.out w3 F3
      have hB3 := HBn.out w3 F3
      have f0 := hB3.free 0
      have f1 := hB3.free 1
      have f2 := hB3.free 2
      have f3 := hB3.free 3
      have f4 := hB3.free 4
      have f5 := hB3.free 5
      have f6 := hB3.free 6
      have f7 := hB3.free 7
      have HgD := Lib.hid ((E3.block D (lt_of_block HgDt.out)).trans HgDt.out)
      have Hgb := Lib.hid ((F3.block b0 (lt_of_block hbx)).trans hbx)
      have HB8 := Lib.hid (hB3.set8 (.slice s1 T.store.length d1) (.slice s2 T.tape.length d2) (.int .i64 T.taken) (.slice s3 T.printed.length d3) (.int .i64 T.time) (.int .i64 T.at_) (.int .i64 T.done) (.int .i64 T.why))
      have HK8 := Lib.hid (s8_kp (M := fun q => q = m) (w := w3) (b := m) (n0 := .slice s1 T.store.length d1) (n1 := .slice s2 T.tape.length d2) (n2 := .int .i64 T.taken) (n3 := .slice s3 T.printed.length d3) (n4 := .int .i64 T.time) (n5 := .int .i64 T.at_) (n6 := .int .i64 T.done) (n7 := .int .i64 T.why) rfl)
      have Hnb : Hid (m < wt.heap.size ∧ mb < wt.heap.size ∧ b0 < wt.heap.size) := Lib.hid (by have := (Fwt).size; have := HM0.out; omega)
      have Hj := Lib.hid (And.intro j1 (And.intro j2 j3))
      clear j1 j2 j3 hB3
      go_upto_region 21 with fail
      have hB8 := HB8.out
      have K8 := HK8.out
      unfold S8 at hB8 K8
      clear HB8 HK8
      generalize ((((((((w3.setCell ⟨m, 0, none⟩ (.slice s1 T.store.length d1)).setCell ⟨m, 1, none⟩ (.slice s2 T.tape.length d2)).setCell ⟨m, 2, none⟩ (.int .i64 T.taken)).setCell ⟨m, 3, none⟩ (.slice s3 T.printed.length d3)).setCell ⟨m, 4, none⟩ (.int .i64 T.time)).setCell ⟨m, 5, none⟩ (.int .i64 T.at_)).setCell ⟨m, 6, none⟩ (.int .i64 T.done)).setCell ⟨m, 7, none⟩ (.int .i64 T.why)) = V8 at hB8 K8 ⊢
      clear k0 k1 k2 k3 k4 k5 k6 k7 f0 f1 f2 f3 f4 f5 f6 f7
      have gD8 := (K8.block D (lt_of_block HgD.out) HDn.out.1).trans HgD.out
      have gb8 := (K8.block b0 (lt_of_block Hgb.out) HDn.out.2).trans Hgb.out
      have kk8 : KpM (fun q => q = m ∨ q = b0) w3 V8 := K8.mono fun q h => .inl h
      have c7 := hB8.c7
      by_cases hwy : T.why = 0
      ·rw [hwy] at c7
       have cD := blk_cell gD8 2 (v := .int .i64 (nt : Int)) rfl
       have htz : (0 : Int) ≤ (nt : Int) := by omega
       have htn : (nt : Int) < 128 := by have := Hnt.out.1; omega
       have cb := hB8.cb nt Hnt.out.1
       go_wp2_with fail
       go_still_tail 6, (by kernel_rfl)
       change wpList _ _ _ _ _ V8.drew
       have hBd := hB8.ext (Ext.refl V8).drew
       have fb := hBd.free (8 + nt)
       have cb2 := hBd.cb nt Hnt.out.1
       have HB9 : Hid (LnB ((V8.setCell ⟨m, 8 + nt, none⟩ (.bool false)).drew) m mb (.slice s1 T.store.length d1) (.slice s2 T.tape.length d2) (.int .i64 T.taken) (.slice s3 T.printed.length d3) (.int .i64 T.time) (.int .i64 T.at_) (.int .i64 T.done) (.int .i64 T.why) (x.bad.set nt false)) := Lib.hid (hBd.setb nt Hnt.out.1 false)
       have HK9 : Hid (KpM (fun q => q = m) w3 ((V8.setCell ⟨m, 8 + nt, none⟩ (.bool false)).drew)) := Lib.hid (((K8.trans (KpM.of_ext (Ext.refl V8).drew))).trans (kpm_set (M := fun q => q = m) V8.drew m (8 + nt) (.bool false) rfl))
       have Hgb8 := Lib.hid gb8
       clear hBd cb c7 gD8 gb8
       go_upto_region 23 with fail
       have hB9 := HB9.out
       have K9a := HK9.out
       clear HB9 HK9
       have hgb := (K9a.block b0 (lt_of_block Hgb.out) HDn.out.2).trans Hgb.out
       generalize (V8.setCell ⟨m, 8 + nt, none⟩ (.bool false)).drew = V9 at hB9 K9a hgb ⊢
       have kk9 : KpM (fun q => q = m ∨ q = b0) w3 V9 := K9a.mono fun q h => .inl h
       clear cb2 fb cD
       have gb : V9.heap[b0]? = some (.cells #[.int .i64 0] 3 (0, 0)) := hgb
       have z0 := blk_cell gb 0 (v := .int .i64 0) rfl
       have zf := blk_free gb 0
       go_wp2_with fail
       obtain ⟨hr, hy⟩ := HG.out hn
       rw [hr, hy]
       have g1 := cells_set gb 0 (.int .i64 (-1))
       (try simp at g1)
       rw [← HB0.out] at g1 ⊢
       have K9 := KpM.trans kk9 (kpm_set (M := fun q => q = m ∨ q = b0) V9 b0 0 (.int .i64 (-1)) (.inr rfl))
       have KX : KpM (fun q => q = m ∨ q = b0) X (V9.setCell ⟨b0, 0, none⟩ (.int .i64 (-1))) := (KpM.of_ext F3).trans K9
       have hB9 := LnB.far hB9 ⟨b0, 0, none⟩ (.int .i64 (-1)) HMb.out.1
       have hlin := lin_step hB9 Hj.out.1 Hj.out.2.1 Hj.out.2.2 HMp.out K9 KX Hnb.out.1 Hnb.out.2.1 Hnb.out.2.2 HMb.out.2.1 HMb.out.2.2 hbx HMx.out (fun q h => by have := HEX.out q h; have := HM0.out; have := Hnb.out; have := HB0.out; omega)
       rw [← HB0.out] at hlin KX K9
       have hd : doL x = ⟨T, (x.bad.set nt false), x.gone⟩ := by
        have hw : 0 ≤ writesQ x.s ∧ T.why = 0 := ⟨by rw [HW.out]; omega, hwy⟩
        show (⟨runQ 1 x.s, _, _⟩ : Lm) = _
        rw [HT.out, if_pos hw, HW.out, Int.toNat_natCast]
       rw [hd]
       refine leavesS_good g1 hlin ?_ ?_
       rotate_left
       ·rfl
       exact kp_box E1 KX
      ·have hwz : (T.why == 0) = false := by simpa using hwy
       have hgb := gb8
       go_upto_region 23 with fail
       have gb : V8.heap[b0]? = some (.cells #[.int .i64 0] 3 (0, 0)) := hgb
       have z0 := blk_cell gb 0 (v := .int .i64 0) rfl
       have zf := blk_free gb 0
       go_wp2_with fail
       obtain ⟨hr, hy⟩ := HG.out hn
       rw [hr, hy]
       have g1 := cells_set gb 0 (.int .i64 (-1))
       (try simp at g1)
       rw [← HB0.out] at g1 ⊢
       have K9 := KpM.trans kk8 (kpm_set (M := fun q => q = m ∨ q = b0) V8 b0 0 (.int .i64 (-1)) (.inr rfl))
       have KX : KpM (fun q => q = m ∨ q = b0) X (V8.setCell ⟨b0, 0, none⟩ (.int .i64 (-1))) := (KpM.of_ext F3).trans K9
       have hB9 := LnB.far hB8 ⟨b0, 0, none⟩ (.int .i64 (-1)) HMb.out.1
       have hlin := lin_step hB9 Hj.out.1 Hj.out.2.1 Hj.out.2.2 HMp.out K9 KX Hnb.out.1 Hnb.out.2.1 Hnb.out.2.2 HMb.out.2.1 HMb.out.2.2 hbx HMx.out (fun q h => by have := HEX.out q h; have := HM0.out; have := Hnb.out; have := HB0.out; omega)
       rw [← HB0.out] at hlin KX K9
       have hd : doL x = ⟨T, x.bad, x.gone⟩ := by
        have hw : ¬ (0 ≤ writesQ x.s ∧ T.why = 0) := by
         rintro ⟨-, h⟩; exact hwy h
        show (⟨runQ 1 x.s, _, _⟩ : Lm) = _
        rw [HT.out, if_neg hw]
       rw [hd]
       refine leavesS_good g1 hlin ?_ ?_
       rotate_left
       ·rfl
       exact kp_box E1 KX
   ·have HW : Hid (writesQ x.s = (nt : Int)) := Lib.hid (by unfold writesQ; rw [HO.out]; simp)
    go_wp2_with fail
    cases hbnf : x.bad[nf]?.getD false with
    | true =>
     refine (sharp_bad m mb nf L x _ (HLn.out wc FC) Hnf.out.1 hbnf).mono ?_
     rintro e wf ⟨rfl, Fwfa⟩
     have Fwf : Ext X wf := Ext.comp FC Fwfa
     have hn : noticeQ x = ((nf : Nat) : Int) := by
      rw [notice_rd HA.out (o := ⟨4, (nf : Int), (nt : Int), nx⟩) HO.out Hbp.out (l := [(nf : Int), (nt : Int)]) (by simp)]
      simp [badAt, hbnf]
     obtain ⟨hr, hy⟩ := HBd.out nf hn
     rw [hr, hy]
     have g0 := ((Fwf).block b0 (lt_of_block hbx)).trans hbx
     rw [← HB0.out] at g0 ⊢
     exact leavesS_bad g0 HL.out (E1.comp Fwf) rfl
    | false =>
     refine (sharp_ok m mb nf L x _ (HLn.out wc FC) Hnf.out.1 hbnf).mono ?_
     rintro e wf ⟨rfl, Fwfa⟩
     have Fwf : Ext X wf := Ext.comp FC Fwfa
     have Hbnf := Lib.hid hbnf
     clear hbnf
     have gDf := (Fwfa.block D (lt_of_block HgDc.out)).trans HgDc.out
     have q0 := blk_cell gDf 0 (v := .int .i64 4) rfl
     have q2 := blk_cell gDf 2 (v := .int .i64 (nt : Int)) rfl
     have HgDf := Lib.hid gDf
     clear gDf q1
     go_wp2_with fail
     cases hbnt : x.bad[nt]?.getD false with
     | true =>
      refine (sharp_bad m mb nt L x _ (HLn.out wf Fwf) Hnt.out.1 hbnt).mono ?_
      rintro e wt ⟨rfl, Fwta⟩
      have Fwt : Ext X wt := Ext.comp Fwf Fwta
      have hn : noticeQ x = ((nt : Nat) : Int) := by
       rw [notice_rd HA.out (o := ⟨4, (nf : Int), (nt : Int), nx⟩) HO.out Hbp.out (l := [(nf : Int), (nt : Int)]) (by simp)]
       simp [badAt, Hbnf.out, hbnt]
      obtain ⟨hr, hy⟩ := HBd.out nt hn
      rw [hr, hy]
      have g0 := ((Fwt).block b0 (lt_of_block hbx)).trans hbx
      rw [← HB0.out] at g0 ⊢
      exact leavesS_bad g0 HL.out (E1.comp Fwt) rfl
     | false =>
      refine (sharp_ok m mb nt L x _ (HLn.out wf Fwf) Hnt.out.1 hbnt).mono ?_
      rintro e wt ⟨rfl, Fwta⟩
      have Fwt : Ext X wt := Ext.comp Fwf Fwta
      have Hbnt := Lib.hid hbnt
      clear hbnt
      have gDt := (Fwta.block D (lt_of_block HgDf.out)).trans HgDf.out
      have q0 := blk_cell gDt 0 (v := .int .i64 4) rfl
      have HgDt := Lib.hid gDt
      clear gDt q2
      (try clear q1)
      (try clear q2)
      have hn : noticeQ x = -1 := by
       rw [notice_rd HA.out (o := ⟨4, (nf : Int), (nt : Int), nx⟩) HO.out Hbp.out (l := [(nf : Int), (nt : Int)]) (by simp)]
       simp [badAt, Hbnf.out, Hbnt.out]
      obtain ⟨k0, k1, k2, k3, k4, k5, k6, k7⟩ := H8.out wt Fwt
      go_wp2_with fail
      refine (hrun.out wt Fwt).mono ?_
      rintro e w3 ⟨v, rfl, ⟨s1, s2, s3, d1, d2, d3, rfl, j1, j2, j3⟩, E3⟩
      have F3 : Ext X w3 := Ext.comp Fwt E3
      clear k0 k1 k2 k3 k4 k5 k6 k7
      obtain ⟨k0, k1, k2, k3, k4, k5, k6, k7⟩ := H8.out w3 F3
      have hB3 := HBn.out w3 F3
      have f0 := hB3.free 0
      have f1 := hB3.free 1
      have f2 := hB3.free 2
      have f3 := hB3.free 3
      have f4 := hB3.free 4
      have f5 := hB3.free 5
      have f6 := hB3.free 6
      have f7 := hB3.free 7
      have HgD := Lib.hid ((E3.block D (lt_of_block HgDt.out)).trans HgDt.out)
      have Hgb := Lib.hid ((F3.block b0 (lt_of_block hbx)).trans hbx)
      have HB8 := Lib.hid (hB3.set8 (.slice s1 T.store.length d1) (.slice s2 T.tape.length d2) (.int .i64 T.taken) (.slice s3 T.printed.length d3) (.int .i64 T.time) (.int .i64 T.at_) (.int .i64 T.done) (.int .i64 T.why))
      have HK8 := Lib.hid (s8_kp (M := fun q => q = m) (w := w3) (b := m) (n0 := .slice s1 T.store.length d1) (n1 := .slice s2 T.tape.length d2) (n2 := .int .i64 T.taken) (n3 := .slice s3 T.printed.length d3) (n4 := .int .i64 T.time) (n5 := .int .i64 T.at_) (n6 := .int .i64 T.done) (n7 := .int .i64 T.why) rfl)
      have Hnb : Hid (m < wt.heap.size ∧ mb < wt.heap.size ∧ b0 < wt.heap.size) := Lib.hid (by have := (Fwt).size; have := HM0.out; omega)
      have Hj := Lib.hid (And.intro j1 (And.intro j2 j3))
      clear j1 j2 j3 hB3
      go_upto_region 21 with fail
      have hB8 := HB8.out
      have K8 := HK8.out
      unfold S8 at hB8 K8
      clear HB8 HK8
      generalize ((((((((w3.setCell ⟨m, 0, none⟩ (.slice s1 T.store.length d1)).setCell ⟨m, 1, none⟩ (.slice s2 T.tape.length d2)).setCell ⟨m, 2, none⟩ (.int .i64 T.taken)).setCell ⟨m, 3, none⟩ (.slice s3 T.printed.length d3)).setCell ⟨m, 4, none⟩ (.int .i64 T.time)).setCell ⟨m, 5, none⟩ (.int .i64 T.at_)).setCell ⟨m, 6, none⟩ (.int .i64 T.done)).setCell ⟨m, 7, none⟩ (.int .i64 T.why)) = V8 at hB8 K8 ⊢
      clear k0 k1 k2 k3 k4 k5 k6 k7 f0 f1 f2 f3 f4 f5 f6 f7
      have gD8 := (K8.block D (lt_of_block HgD.out) HDn.out.1).trans HgD.out
      have gb8 := (K8.block b0 (lt_of_block Hgb.out) HDn.out.2).trans Hgb.out
      have kk8 : KpM (fun q => q = m ∨ q = b0) w3 V8 := K8.mono fun q h => .inl h
      have c7 := hB8.c7
      by_cases hwy : T.why = 0
      ·rw [hwy] at c7
       have cD := blk_cell gD8 2 (v := .int .i64 (nt : Int)) rfl
       have htz : (0 : Int) ≤ (nt : Int) := by omega
       have htn : (nt : Int) < 128 := by have := Hnt.out.1; omega
       have cb := hB8.cb nt Hnt.out.1
       go_wp2_with fail
       go_still_tail 6, (by kernel_rfl)
       change wpList _ _ _ _ _ V8.drew
       have hBd := hB8.ext (Ext.refl V8).drew
       have fb := hBd.free (8 + nt)
       have cb2 := hBd.cb nt Hnt.out.1
       have HB9 : Hid (LnB ((V8.setCell ⟨m, 8 + nt, none⟩ (.bool false)).drew) m mb (.slice s1 T.store.length d1) (.slice s2 T.tape.length d2) (.int .i64 T.taken) (.slice s3 T.printed.length d3) (.int .i64 T.time) (.int .i64 T.at_) (.int .i64 T.done) (.int .i64 T.why) (x.bad.set nt false)) := Lib.hid (hBd.setb nt Hnt.out.1 false)
       have HK9 : Hid (KpM (fun q => q = m) w3 ((V8.setCell ⟨m, 8 + nt, none⟩ (.bool false)).drew)) := Lib.hid (((K8.trans (KpM.of_ext (Ext.refl V8).drew))).trans (kpm_set (M := fun q => q = m) V8.drew m (8 + nt) (.bool false) rfl))
       have Hgb8 := Lib.hid gb8
       clear hBd cb c7 gD8 gb8
       go_upto_region 23 with fail
       have hB9 := HB9.out
       have K9a := HK9.out
       clear HB9 HK9
       have hgb := (K9a.block b0 (lt_of_block Hgb.out) HDn.out.2).trans Hgb.out
       generalize (V8.setCell ⟨m, 8 + nt, none⟩ (.bool false)).drew = V9 at hB9 K9a hgb ⊢
       have kk9 : KpM (fun q => q = m ∨ q = b0) w3 V9 := K9a.mono fun q h => .inl h
       clear cb2 fb cD
       have gb : V9.heap[b0]? = some (.cells #[.int .i64 0] 3 (0, 0)) := hgb
       have z0 := blk_cell gb 0 (v := .int .i64 0) rfl
       have zf := blk_free gb 0
       go_wp2_with fail
       obtain ⟨hr, hy⟩ := HG.out hn
       rw [hr, hy]
       have g1 := cells_set gb 0 (.int .i64 (-1))
       (try simp at g1)
       rw [← HB0.out] at g1 ⊢
       have K9 := KpM.trans kk9 (kpm_set (M := fun q => q = m ∨ q = b0) V9 b0 0 (.int .i64 (-1)) (.inr rfl))
       have KX : KpM (fun q => q = m ∨ q = b0) X (V9.setCell ⟨b0, 0, none⟩ (.int .i64 (-1))) := (KpM.of_ext F3).trans K9
       have hB9 := LnB.far hB9 ⟨b0, 0, none⟩ (.int .i64 (-1)) HMb.out.1
       have hlin := lin_step hB9 Hj.out.1 Hj.out.2.1 Hj.out.2.2 HMp.out K9 KX Hnb.out.1 Hnb.out.2.1 Hnb.out.2.2 HMb.out.2.1 HMb.out.2.2 hbx HMx.out (fun q h => by have := HEX.out q h; have := HM0.out; have := Hnb.out; have := HB0.out; omega)
       rw [← HB0.out] at hlin KX K9
       have hd : doL x = ⟨T, (x.bad.set nt false), x.gone⟩ := by
        have hw : 0 ≤ writesQ x.s ∧ T.why = 0 := ⟨by rw [HW.out]; omega, hwy⟩
        show (⟨runQ 1 x.s, _, _⟩ : Lm) = _
        rw [HT.out, if_pos hw, HW.out, Int.toNat_natCast]
       rw [hd]
       refine leavesS_good g1 hlin ?_ ?_
       rotate_left
       ·rfl
       exact kp_box E1 KX
      ·have hwz : (T.why == 0) = false := by simpa using hwy
       have hgb := gb8
       go_upto_region 23 with fail
       have gb : V8.heap[b0]? = some (.cells #[.int .i64 0] 3 (0, 0)) := hgb
       have z0 := blk_cell gb 0 (v := .int .i64 0) rfl
       have zf := blk_free gb 0
       go_wp2_with fail
       obtain ⟨hr, hy⟩ := HG.out hn
       rw [hr, hy]
       have g1 := cells_set gb 0 (.int .i64 (-1))
       (try simp at g1)
       rw [← HB0.out] at g1 ⊢
       have K9 := KpM.trans kk8 (kpm_set (M := fun q => q = m ∨ q = b0) V8 b0 0 (.int .i64 (-1)) (.inr rfl))
       have KX : KpM (fun q => q = m ∨ q = b0) X (V8.setCell ⟨b0, 0, none⟩ (.int .i64 (-1))) := (KpM.of_ext F3).trans K9
       have hB9 := LnB.far hB8 ⟨b0, 0, none⟩ (.int .i64 (-1)) HMb.out.1
       have hlin := lin_step hB9 Hj.out.1 Hj.out.2.1 Hj.out.2.2 HMp.out K9 KX Hnb.out.1 Hnb.out.2.1 Hnb.out.2.2 HMb.out.2.1 HMb.out.2.2 hbx HMx.out (fun q h => by have := HEX.out q h; have := HM0.out; have := Hnb.out; have := HB0.out; omega)
       rw [← HB0.out] at hlin KX K9
       have hd : doL x = ⟨T, x.bad, x.gone⟩ := by
        have hw : ¬ (0 ≤ writesQ x.s ∧ T.why = 0) := by
         rintro ⟨-, h⟩; exact hwy h
        show (⟨runQ 1 x.s, _, _⟩ : Lm) = _
        rw [HT.out, if_neg hw]
       rw [hd]
       refine leavesS_good g1 hlin ?_ ?_
       rotate_left
       ·rfl
       exact kp_box E1 KX
   ·have HW : Hid (writesQ x.s = -1) := Lib.hid (by unfold writesQ; rw [HO.out]; simp)
    go_wp2_with fail
    cases hbnf : x.bad[nf]?.getD false with
    | true =>
     refine (sharp_bad m mb nf L x _ (HLn.out wc FC) Hnf.out.1 hbnf).mono ?_
     rintro e wf ⟨rfl, Fwfa⟩
     have Fwf : Ext X wf := Ext.comp FC Fwfa
     have hn : noticeQ x = ((nf : Nat) : Int) := by
      rw [notice_rd HA.out (o := ⟨5, (nf : Int), (nt : Int), nx⟩) HO.out Hbp.out (l := [(nf : Int)]) (by simp)]
      simp [badAt, hbnf]
     obtain ⟨hr, hy⟩ := HBd.out nf hn
     rw [hr, hy]
     have g0 := ((Fwf).block b0 (lt_of_block hbx)).trans hbx
     rw [← HB0.out] at g0 ⊢
     exact leavesS_bad g0 HL.out (E1.comp Fwf) rfl
    | false =>
     refine (sharp_ok m mb nf L x _ (HLn.out wc FC) Hnf.out.1 hbnf).mono ?_
     rintro e wf ⟨rfl, Fwfa⟩
     have Fwf : Ext X wf := Ext.comp FC Fwfa
     have Hbnf := Lib.hid hbnf
     clear hbnf
     have gDf := (Fwfa.block D (lt_of_block HgDc.out)).trans HgDc.out
     have q0 := blk_cell gDf 0 (v := .int .i64 5) rfl
     have q2 := blk_cell gDf 2 (v := .int .i64 (nt : Int)) rfl
     have HgDf := Lib.hid gDf
     clear gDf q1
     (try clear q1)
     (try clear q2)
     have hn : noticeQ x = -1 := by
      rw [notice_rd HA.out (o := ⟨5, (nf : Int), (nt : Int), nx⟩) HO.out Hbp.out (l := [(nf : Int)]) (by simp)]
      simp [badAt, Hbnf.out]
     obtain ⟨k0, k1, k2, k3, k4, k5, k6, k7⟩ := H8.out wf Fwf
     go_wp2_with fail
     refine (hrun.out wf Fwf).mono ?_
     rintro e w3 ⟨v, rfl, ⟨s1, s2, s3, d1, d2, d3, rfl, j1, j2, j3⟩, E3⟩
     have F3 : Ext X w3 := Ext.comp Fwf E3
     clear k0 k1 k2 k3 k4 k5 k6 k7
     obtain ⟨k0, k1, k2, k3, k4, k5, k6, k7⟩ := H8.out w3 F3
     have hB3 := HBn.out w3 F3
     have f0 := hB3.free 0
     have f1 := hB3.free 1
     have f2 := hB3.free 2
     have f3 := hB3.free 3
     have f4 := hB3.free 4
     have f5 := hB3.free 5
     have f6 := hB3.free 6
     have f7 := hB3.free 7
     have HgD := Lib.hid ((E3.block D (lt_of_block HgDf.out)).trans HgDf.out)
     have Hgb := Lib.hid ((F3.block b0 (lt_of_block hbx)).trans hbx)
     have HB8 := Lib.hid (hB3.set8 (.slice s1 T.store.length d1) (.slice s2 T.tape.length d2) (.int .i64 T.taken) (.slice s3 T.printed.length d3) (.int .i64 T.time) (.int .i64 T.at_) (.int .i64 T.done) (.int .i64 T.why))
     have HK8 := Lib.hid (s8_kp (M := fun q => q = m) (w := w3) (b := m) (n0 := .slice s1 T.store.length d1) (n1 := .slice s2 T.tape.length d2) (n2 := .int .i64 T.taken) (n3 := .slice s3 T.printed.length d3) (n4 := .int .i64 T.time) (n5 := .int .i64 T.at_) (n6 := .int .i64 T.done) (n7 := .int .i64 T.why) rfl)
     have Hnb : Hid (m < wf.heap.size ∧ mb < wf.heap.size ∧ b0 < wf.heap.size) := Lib.hid (by have := (Fwf).size; have := HM0.out; omega)
     have Hj := Lib.hid (And.intro j1 (And.intro j2 j3))
     clear j1 j2 j3 hB3
     go_upto_region 21 with fail
     have hB8 := HB8.out
     have K8 := HK8.out
     unfold S8 at hB8 K8
     clear HB8 HK8
     generalize ((((((((w3.setCell ⟨m, 0, none⟩ (.slice s1 T.store.length d1)).setCell ⟨m, 1, none⟩ (.slice s2 T.tape.length d2)).setCell ⟨m, 2, none⟩ (.int .i64 T.taken)).setCell ⟨m, 3, none⟩ (.slice s3 T.printed.length d3)).setCell ⟨m, 4, none⟩ (.int .i64 T.time)).setCell ⟨m, 5, none⟩ (.int .i64 T.at_)).setCell ⟨m, 6, none⟩ (.int .i64 T.done)).setCell ⟨m, 7, none⟩ (.int .i64 T.why)) = V8 at hB8 K8 ⊢
     clear k0 k1 k2 k3 k4 k5 k6 k7 f0 f1 f2 f3 f4 f5 f6 f7
     have gD8 := (K8.block D (lt_of_block HgD.out) HDn.out.1).trans HgD.out
     have gb8 := (K8.block b0 (lt_of_block Hgb.out) HDn.out.2).trans Hgb.out
     have kk8 : KpM (fun q => q = m ∨ q = b0) w3 V8 := K8.mono fun q h => .inl h
     have hgb := gb8
     go_upto_region 23 with fail
     have gb : V8.heap[b0]? = some (.cells #[.int .i64 0] 3 (0, 0)) := hgb
     have z0 := blk_cell gb 0 (v := .int .i64 0) rfl
     have zf := blk_free gb 0
     go_wp2_with fail
     obtain ⟨hr, hy⟩ := HG.out hn
     rw [hr, hy]
     have g1 := cells_set gb 0 (.int .i64 (-1))
     (try simp at g1)
     rw [← HB0.out] at g1 ⊢
     have K9 := KpM.trans kk8 (kpm_set (M := fun q => q = m ∨ q = b0) V8 b0 0 (.int .i64 (-1)) (.inr rfl))
     have KX : KpM (fun q => q = m ∨ q = b0) X (V8.setCell ⟨b0, 0, none⟩ (.int .i64 (-1))) := (KpM.of_ext F3).trans K9
     have hB9 := LnB.far hB8 ⟨b0, 0, none⟩ (.int .i64 (-1)) HMb.out.1
     have hlin := lin_step hB9 Hj.out.1 Hj.out.2.1 Hj.out.2.2 HMp.out K9 KX Hnb.out.1 Hnb.out.2.1 Hnb.out.2.2 HMb.out.2.1 HMb.out.2.2 hbx HMx.out (fun q h => by have := HEX.out q h; have := HM0.out; have := Hnb.out; have := HB0.out; omega)
     rw [← HB0.out] at hlin KX K9
     have hd : doL x = ⟨T, x.bad, x.gone⟩ := by
      have hw : ¬ (0 ≤ writesQ x.s ∧ T.why = 0) := by
       rintro ⟨h, -⟩; rw [HW.out] at h; omega
      show (⟨runQ 1 x.s, _, _⟩ : Lm) = _
      rw [HT.out, if_neg hw]
     rw [hd]
     refine leavesS_good g1 hlin ?_ ?_
     rotate_left
     ·rfl
     exact kp_box E1 KX
   ·have HW : Hid (writesQ x.s = (nt : Int)) := Lib.hid (by unfold writesQ; rw [HO.out]; simp)
    (try clear q1)
    (try clear q2)
    have hn : noticeQ x = -1 := by
     rw [notice_rd HA.out (o := ⟨6, (nf : Int), (nt : Int), nx⟩) HO.out Hbp.out (l := []) (by simp)]
     simp
    obtain ⟨k0, k1, k2, k3, k4, k5, k6, k7⟩ := H8.out wc FC
    go_wp2_with fail
    refine (hrun.out wc FC).mono ?_
    rintro e w3 ⟨v, rfl, ⟨s1, s2, s3, d1, d2, d3, rfl, j1, j2, j3⟩, E3⟩
    have F3 : Ext X w3 := Ext.comp FC E3
    clear k0 k1 k2 k3 k4 k5 k6 k7
    obtain ⟨k0, k1, k2, k3, k4, k5, k6, k7⟩ := H8.out w3 F3
    have hB3 := HBn.out w3 F3
    have f0 := hB3.free 0
    have f1 := hB3.free 1
    have f2 := hB3.free 2
    have f3 := hB3.free 3
    have f4 := hB3.free 4
    have f5 := hB3.free 5
    have f6 := hB3.free 6
    have f7 := hB3.free 7
    have HgD := Lib.hid ((E3.block D (lt_of_block HgDc.out)).trans HgDc.out)
    have Hgb := Lib.hid ((F3.block b0 (lt_of_block hbx)).trans hbx)
    have HB8 := Lib.hid (hB3.set8 (.slice s1 T.store.length d1) (.slice s2 T.tape.length d2) (.int .i64 T.taken) (.slice s3 T.printed.length d3) (.int .i64 T.time) (.int .i64 T.at_) (.int .i64 T.done) (.int .i64 T.why))
    have HK8 := Lib.hid (s8_kp (M := fun q => q = m) (w := w3) (b := m) (n0 := .slice s1 T.store.length d1) (n1 := .slice s2 T.tape.length d2) (n2 := .int .i64 T.taken) (n3 := .slice s3 T.printed.length d3) (n4 := .int .i64 T.time) (n5 := .int .i64 T.at_) (n6 := .int .i64 T.done) (n7 := .int .i64 T.why) rfl)
    have Hnb : Hid (m < wc.heap.size ∧ mb < wc.heap.size ∧ b0 < wc.heap.size) := Lib.hid (by have := (FC).size; have := HM0.out; omega)
    have Hj := Lib.hid (And.intro j1 (And.intro j2 j3))
    clear j1 j2 j3 hB3
    go_upto_region 21 with fail
    have hB8 := HB8.out
    have K8 := HK8.out
    unfold S8 at hB8 K8
    clear HB8 HK8
    generalize ((((((((w3.setCell ⟨m, 0, none⟩ (.slice s1 T.store.length d1)).setCell ⟨m, 1, none⟩ (.slice s2 T.tape.length d2)).setCell ⟨m, 2, none⟩ (.int .i64 T.taken)).setCell ⟨m, 3, none⟩ (.slice s3 T.printed.length d3)).setCell ⟨m, 4, none⟩ (.int .i64 T.time)).setCell ⟨m, 5, none⟩ (.int .i64 T.at_)).setCell ⟨m, 6, none⟩ (.int .i64 T.done)).setCell ⟨m, 7, none⟩ (.int .i64 T.why)) = V8 at hB8 K8 ⊢
    clear k0 k1 k2 k3 k4 k5 k6 k7 f0 f1 f2 f3 f4 f5 f6 f7
    have gD8 := (K8.block D (lt_of_block HgD.out) HDn.out.1).trans HgD.out
    have gb8 := (K8.block b0 (lt_of_block Hgb.out) HDn.out.2).trans Hgb.out
    have kk8 : KpM (fun q => q = m ∨ q = b0) w3 V8 := K8.mono fun q h => .inl h
    have c7 := hB8.c7
    by_cases hwy : T.why = 0
    ·rw [hwy] at c7
     have cD := blk_cell gD8 2 (v := .int .i64 (nt : Int)) rfl
     have htz : (0 : Int) ≤ (nt : Int) := by omega
     have htn : (nt : Int) < 128 := by have := Hnt.out.1; omega
     have cb := hB8.cb nt Hnt.out.1
     go_wp2_with fail
     go_still_tail 6, (by kernel_rfl)
     change wpList _ _ _ _ _ V8.drew
     have hBd := hB8.ext (Ext.refl V8).drew
     have fb := hBd.free (8 + nt)
     have cb2 := hBd.cb nt Hnt.out.1
     have HB9 : Hid (LnB ((V8.setCell ⟨m, 8 + nt, none⟩ (.bool false)).drew) m mb (.slice s1 T.store.length d1) (.slice s2 T.tape.length d2) (.int .i64 T.taken) (.slice s3 T.printed.length d3) (.int .i64 T.time) (.int .i64 T.at_) (.int .i64 T.done) (.int .i64 T.why) (x.bad.set nt false)) := Lib.hid (hBd.setb nt Hnt.out.1 false)
     have HK9 : Hid (KpM (fun q => q = m) w3 ((V8.setCell ⟨m, 8 + nt, none⟩ (.bool false)).drew)) := Lib.hid (((K8.trans (KpM.of_ext (Ext.refl V8).drew))).trans (kpm_set (M := fun q => q = m) V8.drew m (8 + nt) (.bool false) rfl))
     have Hgb8 := Lib.hid gb8
     clear hBd cb c7 gD8 gb8
     go_upto_region 23 with fail
     have hB9 := HB9.out
     have K9a := HK9.out
     clear HB9 HK9
     have hgb := (K9a.block b0 (lt_of_block Hgb.out) HDn.out.2).trans Hgb.out
     generalize (V8.setCell ⟨m, 8 + nt, none⟩ (.bool false)).drew = V9 at hB9 K9a hgb ⊢
     have kk9 : KpM (fun q => q = m ∨ q = b0) w3 V9 := K9a.mono fun q h => .inl h
     clear cb2 fb cD
     have gb : V9.heap[b0]? = some (.cells #[.int .i64 0] 3 (0, 0)) := hgb
     have z0 := blk_cell gb 0 (v := .int .i64 0) rfl
     have zf := blk_free gb 0
     go_wp2_with fail
     obtain ⟨hr, hy⟩ := HG.out hn
     rw [hr, hy]
     have g1 := cells_set gb 0 (.int .i64 (-1))
     (try simp at g1)
     rw [← HB0.out] at g1 ⊢
     have K9 := KpM.trans kk9 (kpm_set (M := fun q => q = m ∨ q = b0) V9 b0 0 (.int .i64 (-1)) (.inr rfl))
     have KX : KpM (fun q => q = m ∨ q = b0) X (V9.setCell ⟨b0, 0, none⟩ (.int .i64 (-1))) := (KpM.of_ext F3).trans K9
     have hB9 := LnB.far hB9 ⟨b0, 0, none⟩ (.int .i64 (-1)) HMb.out.1
     have hlin := lin_step hB9 Hj.out.1 Hj.out.2.1 Hj.out.2.2 HMp.out K9 KX Hnb.out.1 Hnb.out.2.1 Hnb.out.2.2 HMb.out.2.1 HMb.out.2.2 hbx HMx.out (fun q h => by have := HEX.out q h; have := HM0.out; have := Hnb.out; have := HB0.out; omega)
     rw [← HB0.out] at hlin KX K9
     have hd : doL x = ⟨T, (x.bad.set nt false), x.gone⟩ := by
      have hw : 0 ≤ writesQ x.s ∧ T.why = 0 := ⟨by rw [HW.out]; omega, hwy⟩
      show (⟨runQ 1 x.s, _, _⟩ : Lm) = _
      rw [HT.out, if_pos hw, HW.out, Int.toNat_natCast]
     rw [hd]
     refine leavesS_good g1 hlin ?_ ?_
     rotate_left
     ·rfl
     exact kp_box E1 KX
    ·have hwz : (T.why == 0) = false := by simpa using hwy
     have hgb := gb8
     go_upto_region 23 with fail
     have gb : V8.heap[b0]? = some (.cells #[.int .i64 0] 3 (0, 0)) := hgb
     have z0 := blk_cell gb 0 (v := .int .i64 0) rfl
     have zf := blk_free gb 0
     go_wp2_with fail
     obtain ⟨hr, hy⟩ := HG.out hn
     rw [hr, hy]
     have g1 := cells_set gb 0 (.int .i64 (-1))
     (try simp at g1)
     rw [← HB0.out] at g1 ⊢
     have K9 := KpM.trans kk8 (kpm_set (M := fun q => q = m ∨ q = b0) V8 b0 0 (.int .i64 (-1)) (.inr rfl))
     have KX : KpM (fun q => q = m ∨ q = b0) X (V8.setCell ⟨b0, 0, none⟩ (.int .i64 (-1))) := (KpM.of_ext F3).trans K9
     have hB9 := LnB.far hB8 ⟨b0, 0, none⟩ (.int .i64 (-1)) HMb.out.1
     have hlin := lin_step hB9 Hj.out.1 Hj.out.2.1 Hj.out.2.2 HMp.out K9 KX Hnb.out.1 Hnb.out.2.1 Hnb.out.2.2 HMb.out.2.1 HMb.out.2.2 hbx HMx.out (fun q h => by have := HEX.out q h; have := HM0.out; have := Hnb.out; have := HB0.out; omega)
     rw [← HB0.out] at hlin KX K9
     have hd : doL x = ⟨T, x.bad, x.gone⟩ := by
      have hw : ¬ (0 ≤ writesQ x.s ∧ T.why = 0) := by
       rintro ⟨-, h⟩; exact hwy h
      show (⟨runQ 1 x.s, _, _⟩ : Lm) = _
      rw [HT.out, if_neg hw]
     rw [hd]
     refine leavesS_good g1 hlin ?_ ?_
     rotate_left
     ·rfl
     exact kp_box E1 KX
   ·have HW : Hid (writesQ x.s = -1) := Lib.hid (by unfold writesQ; rw [HO.out]; simp)
    go_wp2_with fail
    cases hbnf : x.bad[nf]?.getD false with
    | true =>
     refine (sharp_bad m mb nf L x _ (HLn.out wc FC) Hnf.out.1 hbnf).mono ?_
     rintro e wf ⟨rfl, Fwfa⟩
     have Fwf : Ext X wf := Ext.comp FC Fwfa
     have hn : noticeQ x = ((nf : Nat) : Int) := by
      rw [notice_rd HA.out (o := ⟨7, (nf : Int), (nt : Int), nx⟩) HO.out Hbp.out (l := [(nf : Int)]) (by simp)]
      simp [badAt, hbnf]
     obtain ⟨hr, hy⟩ := HBd.out nf hn
     rw [hr, hy]
     have g0 := ((Fwf).block b0 (lt_of_block hbx)).trans hbx
     rw [← HB0.out] at g0 ⊢
     exact leavesS_bad g0 HL.out (E1.comp Fwf) rfl
    | false =>
     refine (sharp_ok m mb nf L x _ (HLn.out wc FC) Hnf.out.1 hbnf).mono ?_
     rintro e wf ⟨rfl, Fwfa⟩
     have Fwf : Ext X wf := Ext.comp FC Fwfa
     have Hbnf := Lib.hid hbnf
     clear hbnf
     have gDf := (Fwfa.block D (lt_of_block HgDc.out)).trans HgDc.out
     have q0 := blk_cell gDf 0 (v := .int .i64 7) rfl
     have q2 := blk_cell gDf 2 (v := .int .i64 (nt : Int)) rfl
     have HgDf := Lib.hid gDf
     clear gDf q1
     (try clear q1)
     (try clear q2)
     have hn : noticeQ x = -1 := by
      rw [notice_rd HA.out (o := ⟨7, (nf : Int), (nt : Int), nx⟩) HO.out Hbp.out (l := [(nf : Int)]) (by simp)]
      simp [badAt, Hbnf.out]
     obtain ⟨k0, k1, k2, k3, k4, k5, k6, k7⟩ := H8.out wf Fwf
     go_wp2_with fail
     refine (hrun.out wf Fwf).mono ?_
     rintro e w3 ⟨v, rfl, ⟨s1, s2, s3, d1, d2, d3, rfl, j1, j2, j3⟩, E3⟩
     have F3 : Ext X w3 := Ext.comp Fwf E3
     clear k0 k1 k2 k3 k4 k5 k6 k7
     obtain ⟨k0, k1, k2, k3, k4, k5, k6, k7⟩ := H8.out w3 F3
     have hB3 := HBn.out w3 F3
     have f0 := hB3.free 0
     have f1 := hB3.free 1
     have f2 := hB3.free 2
     have f3 := hB3.free 3
     have f4 := hB3.free 4
     have f5 := hB3.free 5
     have f6 := hB3.free 6
     have f7 := hB3.free 7
     have HgD := Lib.hid ((E3.block D (lt_of_block HgDf.out)).trans HgDf.out)
     have Hgb := Lib.hid ((F3.block b0 (lt_of_block hbx)).trans hbx)
     have HB8 := Lib.hid (hB3.set8 (.slice s1 T.store.length d1) (.slice s2 T.tape.length d2) (.int .i64 T.taken) (.slice s3 T.printed.length d3) (.int .i64 T.time) (.int .i64 T.at_) (.int .i64 T.done) (.int .i64 T.why))
     have HK8 := Lib.hid (s8_kp (M := fun q => q = m) (w := w3) (b := m) (n0 := .slice s1 T.store.length d1) (n1 := .slice s2 T.tape.length d2) (n2 := .int .i64 T.taken) (n3 := .slice s3 T.printed.length d3) (n4 := .int .i64 T.time) (n5 := .int .i64 T.at_) (n6 := .int .i64 T.done) (n7 := .int .i64 T.why) rfl)
     have Hnb : Hid (m < wf.heap.size ∧ mb < wf.heap.size ∧ b0 < wf.heap.size) := Lib.hid (by have := (Fwf).size; have := HM0.out; omega)
     have Hj := Lib.hid (And.intro j1 (And.intro j2 j3))
     clear j1 j2 j3 hB3
     go_upto_region 21 with fail
     have hB8 := HB8.out
     have K8 := HK8.out
     unfold S8 at hB8 K8
     clear HB8 HK8
     generalize ((((((((w3.setCell ⟨m, 0, none⟩ (.slice s1 T.store.length d1)).setCell ⟨m, 1, none⟩ (.slice s2 T.tape.length d2)).setCell ⟨m, 2, none⟩ (.int .i64 T.taken)).setCell ⟨m, 3, none⟩ (.slice s3 T.printed.length d3)).setCell ⟨m, 4, none⟩ (.int .i64 T.time)).setCell ⟨m, 5, none⟩ (.int .i64 T.at_)).setCell ⟨m, 6, none⟩ (.int .i64 T.done)).setCell ⟨m, 7, none⟩ (.int .i64 T.why)) = V8 at hB8 K8 ⊢
     clear k0 k1 k2 k3 k4 k5 k6 k7 f0 f1 f2 f3 f4 f5 f6 f7
     have gD8 := (K8.block D (lt_of_block HgD.out) HDn.out.1).trans HgD.out
     have gb8 := (K8.block b0 (lt_of_block Hgb.out) HDn.out.2).trans Hgb.out
     have kk8 : KpM (fun q => q = m ∨ q = b0) w3 V8 := K8.mono fun q h => .inl h
     have hgb := gb8
     go_upto_region 23 with fail
     have gb : V8.heap[b0]? = some (.cells #[.int .i64 0] 3 (0, 0)) := hgb
     have z0 := blk_cell gb 0 (v := .int .i64 0) rfl
     have zf := blk_free gb 0
     go_wp2_with fail
     obtain ⟨hr, hy⟩ := HG.out hn
     rw [hr, hy]
     have g1 := cells_set gb 0 (.int .i64 (-1))
     (try simp at g1)
     rw [← HB0.out] at g1 ⊢
     have K9 := KpM.trans kk8 (kpm_set (M := fun q => q = m ∨ q = b0) V8 b0 0 (.int .i64 (-1)) (.inr rfl))
     have KX : KpM (fun q => q = m ∨ q = b0) X (V8.setCell ⟨b0, 0, none⟩ (.int .i64 (-1))) := (KpM.of_ext F3).trans K9
     have hB9 := LnB.far hB8 ⟨b0, 0, none⟩ (.int .i64 (-1)) HMb.out.1
     have hlin := lin_step hB9 Hj.out.1 Hj.out.2.1 Hj.out.2.2 HMp.out K9 KX Hnb.out.1 Hnb.out.2.1 Hnb.out.2.2 HMb.out.2.1 HMb.out.2.2 hbx HMx.out (fun q h => by have := HEX.out q h; have := HM0.out; have := Hnb.out; have := HB0.out; omega)
     rw [← HB0.out] at hlin KX K9
     have hd : doL x = ⟨T, x.bad, x.gone⟩ := by
      have hw : ¬ (0 ≤ writesQ x.s ∧ T.why = 0) := by
       rintro ⟨h, -⟩; rw [HW.out] at h; omega
      show (⟨runQ 1 x.s, _, _⟩ : Lm) = _
      rw [HT.out, if_neg hw]
     rw [hd]
     refine leavesS_good g1 hlin ?_ ?_
     rotate_left
     ·rfl
     exact kp_box E1 KX
end Go.Proofs.YtnhpcoagkmgdoaaGreat

import Derived.Deep.RegionHeld3
import Derived.Deep.DeepCutAuto
import Derived.StillTailTactics
import Derived.Test.YtnhpcoagkmgdoaaGreatX18
import Derived.Test.YtnhpcoagkmgdoaaGreatX5
set_option linter.unusedVariables false
set_option linter.unusedSimpArgs false
/- Contract: the reference's Step. -/
namespace Go.Proofs.YtnhpcoagkmgdoaaGreat
open Go.RowKit Go.Q
/-- where the list is not empty its block is not m -/
def Av (m : Nat) (a : Option Addr) (xs : List Int) : Prop := xs = [] ∨ ∀ b off, a = some ⟨b, off, none⟩ → b ≠ m
theorem av_of {w : World} {a : Option Addr} {xs : List Int} {m : Nat} (h : IntsAt w a xs) (hm : w.heap.size ≤ m) : Av m a xs := by
 rcases h with h | ⟨b, off, ha, hb, _⟩
 ·exact .inl h
 ·refine .inr fun b' off' e => ?_
  rw [ha] at e; cases e; omega
theorem av_new {g m : Nat} {xs : List Int} (h : g ≠ m) : Av m (some ⟨g, 0, none⟩) xs := .inr fun b off e => by cases e; exact h
def AvSt (v : Value) (s : St) (m : Nat) : Prop := ∃ a1 a2 a3 n1 c1 n2 c2 n3 c3 tk tm at_ dn wy, v = sv a1 a2 a3 n1 c1 n2 c2 n3 c3 tk tm at_ dn wy ∧ Av m a1 s.store ∧ Av m a2 s.tape ∧ Av m a3 s.printed
theorem avSt_sv {a1 a2 a3 : Option Addr} {n1 c1 n2 c2 n3 c3 : Nat} {tk tm at_ dn wy : Int} {s : St} {m : Nat} : AvSt (sv a1 a2 a3 n1 c1 n2 c2 n3 c3 tk tm at_ dn wy) s m ↔ Av m a1 s.store ∧ Av m a2 s.tape ∧ Av m a3 s.printed := by
 constructor
 ·rintro ⟨b1, b2, b3, _, _, _, _, _, _, _, _, _, _, _, e, h1, h2, h3⟩
  simp only [sv, Value.agg.injEq] at e
  simp at e
  obtain ⟨⟨rfl, _⟩, ⟨rfl, _⟩, _, ⟨rfl, _⟩, _⟩ := e
  exact ⟨h1, h2, h3⟩
 ·rintro ⟨h1, h2, h3⟩
  exact ⟨_, _, _, _, _, _, _, _, _, _, _, _, _, _, rfl, h1, h2, h3⟩
theorem ext_set {a w : World} {p : Addr} {u : Value} (h : Ext a w) (hp : a.heap.size ≤ p.block) : Ext a (w.setCell p u) := h.setCell hp u
theorem ints_av {w : World} {a : Option Addr} {xs : List Int} {p : Addr} {u : Value} (h : IntsAt w a xs) (hp : Av p.block a xs) : IntsAt (w.setCell p u) a xs := by
 rcases h with h | ⟨b, off, ha, hb, hc⟩
 ·exact .inl h
 ·rcases hp with hp | hp
  ·exact .inl hp
  ·exact .inr ⟨b, off, ha, by simpa [World.setCell] using hb, fun i hi => (World.cell?_setCell_other w p _ u (fun e => hp b off ha (by rw [e]))).trans (hc i hi)⟩
theorem ints_set {w : World} {a : Option Addr} {xs : List Int} {p : Addr} {u : Value} (h : IntsAt w a xs) (hp : ∀ b off, a = some ⟨b, off, none⟩ → b ≠ p.block) : IntsAt (w.setCell p u) a xs := by
 rcases h with h | ⟨b, off, ha, hb, hc⟩
 ·exact .inl h
 ·exact .inr ⟨b, off, ha, by simpa [World.setCell] using hb, fun i hi => (World.cell?_setCell_other w p _ u (fun e => hp b off ha (by rw [e]))).trans (hc i hi)⟩
theorem ints_drew {w : World} {a : Option Addr} {xs : List Int} (h : IntsAt w a xs) : IntsAt w.drew a xs := h
/-- one number of a row of the call's own is another one -/
theorem own_put {w : World} {B g n c i : Nat} {xs : List Int} (h : w.ownsRow B 3 1 (.slice (some ⟨g, 0, none⟩) n c) n (iv xs)) (x : Int) :
  IntsAt (w.setCell ⟨g, i, none⟩ (.int .i64 x)) (some ⟨g, 0, none⟩) (xs.set i x) := by
 have := (h.stored i (.int .i64 x)).1
 rw [iv_set] at this
 exact own_ints this
theorem own_cell {w : World} {B g n c i : Nat} {xs : List Int} (h : w.ownsRow B 3 1 (.slice (some ⟨g, 0, none⟩) n c) n (iv xs)) (hi : i < n) : w.cell? ⟨g, i, none⟩ = some (.int .i64 (xs[i]?.getD 0)) := by
 rw [h.cellAt i (by omega)]
 exact iv_get xs i (by have := h.1; rw [iv_length] at this; omega)
theorem own_size {w : World} {B g n c : Nat} {xs : List Value} (h : w.ownsRow B 3 1 (.slice (some ⟨g, 0, none⟩) n c) n xs) : B ≤ g ∧ g < w.heap.size := h.lt g rfl
theorem own_some {w : World} {B n c : Nat} {a : Option Addr} {xs : List Value} (h : w.ownsRow B 3 1 (.slice a n c) n xs) (hn : 0 < n) : ∃ g, a = some ⟨g, 0, none⟩ := by
 obtain ⟨g, cap, e, _⟩ := h.form hn
 exact ⟨g, by injection e⟩
/-- the call returned a state, whose lists are those of v0, or new ones -/
def SRes (v0 : Value) (s0 s : St) (w : World) (e : Ending) (w' : World) : Prop := ∃ v, e = .returned v ∧ StAt w' v s ∧ Ext w w' ∧ ∀ m, m < w.heap.size → AvSt v0 s0 m → AvSt v s m
theorem ints_form {w : World} {a : Option Addr} {xs : List Int} (h : IntsAt w a xs) (h0 : 0 < xs.length) : ∃ b off, a = some ⟨b, off, none⟩ ∧ b < w.heap.size ∧ ∀ i, i < xs.length → w.cell? ⟨b, off + i, none⟩ = some (.int .i64 (xs[i]?.getD 0)) := by
 rcases h with h | h
 ·subst h; simp at h0
 ·exact h
set_option maxRecDepth 100000 in
set_option maxHeartbeats 4000000 in
theorem rstep_any (v : Value) (s : St) (w : World) (h : StAt w v s) (hv : Valid s) (hy : s.why = 0) :
  Calls Tryz.prog 47 #[v] w (SRes v s (stepQ s) w) := by
 obtain ⟨i0, hi, ha0, ha1, ha2⟩ := info_parts Tryz.infoE
 obtain ⟨a1, a2, a3, k1, k2, k3, rfl, i1, i2, i3⟩ := h
 obtain ⟨b, off, rfl, hb, hc⟩ := ints_form i1 (by rw [hv.len]; decide)
 have hw0 := hv.word s.at_ hv.at_.1 hv.at_.2
 have hl := hv.len
 obtain ⟨p0, p1⟩ := hv.at_
 obtain ⟨m, hm⟩ := Int.eq_ofNat_of_zero_le p0
 have c0 : w.cell? ⟨b, off + m, none⟩ = some (.int .i64 (wordAt s s.at_)) := by
  rw [hc m (by omega)]; unfold wordAt; rw [hm]; rfl
 have hd := fun W => rdecode_any (wordAt s s.at_) W hw0.1 hw0.2
 have ho : decodeQ (wordAt s s.at_) = ordAt s := rfl
 rw [ho] at hd
 clear ho
 have hord := hv.ord
 generalize ho : ordAt s = o at hd hord ⊢
 have Ho := Lib.hid ho
 clear ho
 obtain ⟨op, fr, tt, nx⟩ := o
 obtain ⟨⟨o0, o1⟩, ⟨f0, f1⟩, ⟨t0, t1⟩, n0, n1⟩ := ordB_bd hord
 have hf := hv.word fr f0 f1
 have ht := hv.word tt t0 t1
 obtain ⟨fm, rfl⟩ := Int.eq_ofNat_of_zero_le f0
 obtain ⟨tm, rfl⟩ := Int.eq_ofNat_of_zero_le t0
 have cf : w.cell? ⟨b, off + fm, none⟩ = some (.int .i64 (wordAt s fm)) := hc fm (by omega)
 have ct : w.cell? ⟨b, off + tm, none⟩ = some (.int .i64 (wordAt s tm)) := hc tm (by omega)
 have HX : Hid (wordAt s fm = wordAt s (ordAt s).frm) := Lib.hid (by rw [Ho.out])
 have HY : Hid (wordAt s tm = wordAt s (ordAt s).to) := Lib.hid (by rw [Ho.out])
 have HN : Hid (negAt s = decide (sgn (wordAt s fm) < 0)) := Lib.hid (by unfold negAt; rw [← HX.out])
 have hwh := fun W => rwhen_any op fm tm nx s.time (decide (sgn (wordAt s fm) < 0)) W hord hv.time.1 hv.time.2
 have HA : Hid (whenAt (ordAt s) (negAt s) = whenAt ⟨op, fm, tm, nx⟩ (decide (sgn (wordAt s fm) < 0))) := Lib.hid (by rw [HN.out, Ho.out])
 have HU : Hid (untilAt s = whenUntil ⟨op, fm, tm, nx⟩ s.time (decide (sgn (wordAt s fm) < 0))) := Lib.hid (by unfold untilAt; rw [HN.out, Ho.out])
 generalize hX : wordAt s fm = X at *
 generalize hY : wordAt s tm = Y at *
 generalize wordAt s s.at_ = Z at *
 clear hX hY hc
 generalize whenAt ⟨op, fm, tm, nx⟩ (decide (sgn X < 0)) = atv at hwh HA
 generalize whenUntil ⟨op, fm, tm, nx⟩ s.time (decide (sgn X < 0)) = un at hwh HU
 have HL := Lib.hid hl
 have Hy := Lib.hid hy
 have Hm := Lib.hid hm
 have HV := Lib.hid hv
 have hsg := fun W => sign_any X W hf.1 hf.2
 obtain ⟨tk, htk⟩ := Int.eq_ofNat_of_zero_le hv.taken.1
 have htk0 := hv.taken.2
 have htk1 := hv.tlen
 have htk2 := hv.plen
 have Htk := Lib.hid htk
 rw [hl, hm, htk]
 rw [hm] at p0 p1
 rw [htk] at htk0
 clear hl hy hv hm htk
 go_enter Tryz.func47, Tryz.ntmps47
 go_wp2_with fail
 refine (hd _).mono ?_
 rintro e w1 ⟨rfl, E1⟩
 have q0 := fun ob => box_at (v := .slice (some ⟨b, off, none⟩) 128 k1) (Ext.alloc E1.old ob) 0 rfl
 have q1 := fun ob => box_at (v := .slice a2 s.tape.length k2) (Ext.alloc E1.old ob) 1 rfl
 have q2 := fun ob => box_at (v := .int .i64 tk) (Ext.alloc E1.old ob) 2 rfl
 have q3 := fun ob => box_at (v := .slice a3 s.printed.length k3) (Ext.alloc E1.old ob) 3 rfl
 have q4 := fun ob => box_at (v := .int .i64 s.time) (Ext.alloc E1.old ob) 4 rfl
 have q5 := fun ob => box_at (v := .int .i64 m) (Ext.alloc E1.old ob) 5 rfl
 have q6 := fun ob => box_at (v := .int .i64 s.done) (Ext.alloc E1.old ob) 6 rfl
 have q7 := fun ob => box_at (v := .int .i64 s.why) (Ext.alloc E1.old ob) 7 rfl
 have cf1 := fun ob => ((Ext.alloc E1.old.old ob).cell (p := ⟨b, off + fm, none⟩) hb).trans cf
 have ct1 := fun ob => ((Ext.alloc E1.old.old ob).cell (p := ⟨b, off + tm, none⟩) hb).trans ct
 clear hd
 go_wp2_with fail
 go_quiet (fail)
 go_wp2_with fail
 have EO := ext_drewN (Ext.refl (w1.alloc (.cells #[.int .i64 op, .int .i64 fm, .int .i64 tm, .int .i64 nx] 129))) nq
 generalize (w1.alloc (.cells #[.int .i64 op, .int .i64 fm, .int .i64 tm, .int .i64 nx] 129)).drewN nq = wo at EO ⊢
 clear q0 q1 q2 q3 q4 q5 q6 q7
 clear cf1 ct1
 have EP := Ext.comp E1 EO.old
 have z0 := box_at (v := .int .i64 op) EO 0 rfl
 have z1 := box_at (v := .int .i64 fm) EO 1 rfl
 have z2 := box_at (v := .int .i64 tm) EO 2 rfl
 have z3 := box_at (v := .int .i64 nx) EO 3 rfl
 have q4 := box_at (v := .int .i64 s.time) EP.old 4 rfl
 go_upto_region 3 with fail
 go_cut [6, 7] (fun s6 s7 wx => s6 = .int .i64 atv ∧ s7 = .int .i64 un ∧ Ext wo wx)
 case first =>
  go_region_held3 (fun w' => Ext wo w' ∧ w'.cell? ⟨w1.heap.size, 0, none⟩ = some (.int .i64 op) ∧ w'.cell? ⟨w1.heap.size, 1, none⟩ = some (.int .i64 fm) ∧ w'.cell? ⟨w1.heap.size, 2, none⟩ = some (.int .i64 tm) ∧ w'.cell? ⟨w1.heap.size, 3, none⟩ = some (.int .i64 nx) ∧ w'.cell? ⟨w.heap.size, 4, none⟩ = some (.int .i64 s.time))
   (first | exact ⟨(Ext.refl wo).drew, z0, z1, z2, z3, q4⟩ | exact ⟨Ext.comp (Ext.refl wo).drew hb', cell_later hb' z0, cell_later hb' z1, cell_later hb' z2, cell_later hb' z3, cell_later hb' q4⟩)
   (first | (go_at_call 82; refine (hsg _).mono ?_; rintro e w' ⟨rfl, rfl⟩) | (go_at_call 81; refine (hwh _).mono ?_; rintro e w' ⟨rfl, hb'⟩))
  all_goals
   go_wp2_with fail
   go_meet
   exact ⟨rfl, rfl, (‹Ext wo _ ∧ _›).1⟩
 case rest =>
  obtain ⟨rfl, rfl, E2⟩ := hcut
  clear z0 z1 z2 z3 q4
  have E3 := Ext.comp EP E2
  have EQ := Ext.comp EO E2
  have hx0 : w.heap.size + 2 ≤ w1.heap.size := by have := E1.size; simp at this; omega
  have hx1 : ¬ w1.heap.size = w.heap.size := by omega
  have hx2 : ¬ w.heap.size = w1.heap.size := by omega
  have hx3 : ¬ w1.heap.size = w.heap.size + 1 := by omega
  have hx4 : ¬ w.heap.size + 1 = w1.heap.size := by omega
  have hz0 : w.heap.size < wc.heap.size := by have := E3.size; simp at this; omega
  have hz1 : w.heap.size + 1 < wc.heap.size := by have := E3.size; simp at this; omega
  have hz2 : w1.heap.size < wc.heap.size := by have := EQ.size; simp at this; omega
  clear EP EO E2 hwh hsg c0
  have z0 := box_at (v := .int .i64 op) EQ 0 rfl
  have z1 := box_at (v := .int .i64 fm) EQ 1 rfl
  have z2 := box_at (v := .int .i64 tm) EQ 2 rfl
  have z3 := box_at (v := .int .i64 nx) EQ 3 rfl
  have q0 := box_at (v := .slice (some ⟨b, off, none⟩) 128 k1) E3.old 0 rfl
  have q1 := box_at (v := .slice a2 s.tape.length k2) E3.old 1 rfl
  have q2 := box_at (v := .int .i64 tk) E3.old 2 rfl
  have q3 := box_at (v := .slice a3 s.printed.length k3) E3.old 3 rfl
  have q4 := box_at (v := .int .i64 s.time) E3.old 4 rfl
  have q5 := box_at (v := .int .i64 m) E3.old 5 rfl
  have q6 := box_at (v := .int .i64 s.done) E3.old 6 rfl
  have q7 := box_at (v := .int .i64 s.why) E3.old 7 rfl
  have qf0 := box_free E3.old 0
  have qf1 := box_free E3.old 1
  have qf2 := box_free E3.old 2
  have qf3 := box_free E3.old 3
  have qf4 := box_free E3.old 4
  have qf5 := box_free E3.old 5
  have qf6 := box_free E3.old 6
  have qf7 := box_free E3.old 7
  have r0 := box_at2 (v := .slice none 0 0) E3 0 rfl
  have r1 := box_at2 (v := .slice none 0 0) E3 1 rfl
  have r2 := box_at2 (v := .int .i64 0) E3 2 rfl
  have r3 := box_at2 (v := .slice none 0 0) E3 3 rfl
  have r4 := box_at2 (v := .int .i64 0) E3 4 rfl
  have r5 := box_at2 (v := .int .i64 0) E3 5 rfl
  have r6 := box_at2 (v := .int .i64 0) E3 6 rfl
  have r7 := box_at2 (v := .int .i64 0) E3 7 rfl
  have rf0 := box_free2 E3 0
  have rf1 := box_free2 E3 1
  have rf2 := box_free2 E3 2
  have rf3 := box_free2 E3 3
  have rf4 := box_free2 E3 4
  have rf5 := box_free2 E3 5
  have rf6 := box_free2 E3 6
  have rf7 := box_free2 E3 7
  obtain rfl | rfl | rfl | rfl | rfl | rfl | rfl | rfl : op = 0 ∨ op = 1 ∨ op = 2 ∨ op = 3 ∨ op = 4 ∨ op = 5 ∨ op = 6 ∨ op = 7 := by omega
  ·skip
   have Hs := Lib.hid (stepQ_end (s := s) (k := 1) (by simp [whyAt, Ho.out]) (by decide))
   go_wp2_with fail
   refine bodyPost_ret (v := sv (some ⟨b, off, none⟩) a2 a3 128 k1 s.tape.length k2 s.printed.length k3 tk s.time m s.done 1) (by simp [results, Tryz.results47, go_sem, r0, r1, r2, r3, r4, r5, r6, r7]) rfl ?_
   rw [Hs.out]
   exact ⟨_, rfl, ⟨_, _, _, k1, k2, k3, by rw [HL.out, Hm.out, Htk.out], i1.ext (by repeat (first | with_reducible exact E3.old.old | with_reducible refine Below.drew ?_ | ((with_reducible refine ext_set ?_ ?_); rotate_left 1; · (simp; try omega)))), i2.ext (by repeat (first | with_reducible exact E3.old.old | with_reducible refine Below.drew ?_ | ((with_reducible refine ext_set ?_ ?_); rotate_left 1; · (simp; try omega)))), i3.ext (by repeat (first | with_reducible exact E3.old.old | with_reducible refine Below.drew ?_ | ((with_reducible refine ext_set ?_ ?_); rotate_left 1; · (simp; try omega))))⟩, (by repeat (first | with_reducible exact E3.old.old | with_reducible refine Below.drew ?_ | ((with_reducible refine ext_set ?_ ?_); rotate_left 1; · (simp; try omega)))), fun m1 hm1 hA => avSt_sv.2 (avSt_sv.1 hA)⟩
  ·skip
   by_cases hu : 1000000000 < un
   ·have Hu := Lib.hid hu
    have Hs := Lib.hid (stepQ_end (s := s) (k := 4) (by simp [whyAt, Ho.out, HU.out, Hu.out]) (by decide))
    go_wp2_with fail
    refine bodyPost_ret (v := sv (some ⟨b, off, none⟩) a2 a3 128 k1 s.tape.length k2 s.printed.length k3 tk s.time m s.done 4) (by simp [results, Tryz.results47, go_sem, r0, r1, r2, r3, r4, r5, r6, r7]) rfl ?_
    rw [Hs.out]
    exact ⟨_, rfl, ⟨_, _, _, k1, k2, k3, by rw [HL.out, Hm.out, Htk.out], i1.ext (by repeat (first | with_reducible exact E3.old.old | with_reducible refine Below.drew ?_ | ((with_reducible refine ext_set ?_ ?_); rotate_left 1; · (simp; try omega)))), i2.ext (by repeat (first | with_reducible exact E3.old.old | with_reducible refine Below.drew ?_ | ((with_reducible refine ext_set ?_ ?_); rotate_left 1; · (simp; try omega)))), i3.ext (by repeat (first | with_reducible exact E3.old.old | with_reducible refine Below.drew ?_ | ((with_reducible refine ext_set ?_ ?_); rotate_left 1; · (simp; try omega))))⟩, (by repeat (first | with_reducible exact E3.old.old | with_reducible refine Below.drew ?_ | ((with_reducible refine ext_set ?_ ?_); rotate_left 1; · (simp; try omega)))), fun m1 hm1 hA => avSt_sv.2 (avSt_sv.1 hA)⟩
   ·have hgo : whyAt s = 0 := by simp [whyAt, Ho.out, HU.out, hu]
    have Hs : Hid (stepQ s = { s with store := s.store.set tm X, at_ := atv, time := un, done := s.done + 1 }) := Lib.hid (by
     rw [stepQ_go hgo, HA.out, HU.out, HX.out, Ho.out]
     rfl)
    clear hgo
    go_wp2_with (at_builtin; refine wpList_app (w0 := wc) rfl _ _ 22 rfl 3 i0 (.int .i64 0) 1 8 Tryz.underlying22 hi ha0 ha1 ha2 rfl (by decide) _ 0 wc.heap.size [] rfl (own_empty (Ext.refl _)) ((Ext.refl wc).alloc _) (Nat.le_refl _) (by simp) _ 128 k1 (iv s.store) rfl ?c1 ?c2 (iv_one _) (by unfold maxLen; omega) (by omega) ?_)
    case c1 => rw [iv_length, HL.out]
    case c2 => exact from_ints (i1.ext (E3.old.old.alloc _))
    intro a' c' wd hown hE _
    obtain ⟨g, rfl⟩ := own_some hown (by decide)
    obtain ⟨hg0, hg1⟩ := own_size hown
    have E4 := Ext.comp E3 hE
    have EZ := Ext.comp EQ hE
    clear q0 q1 q2 q3 q4 q5 q6 q7
    clear qf0 qf1 qf2 qf3 qf4 qf5 qf6 qf7
    clear r0 r1 r2 r3 r4 r5 r6 r7
    clear rf0 rf1 rf2 rf3 rf4 rf5 rf6 rf7
    clear z0 z1 z2 z3
    have z0 := box_at (v := .int .i64 1) EZ 0 rfl
    have z1 := box_at (v := .int .i64 fm) EZ 1 rfl
    have z2 := box_at (v := .int .i64 tm) EZ 2 rfl
    have z3 := box_at (v := .int .i64 nx) EZ 3 rfl
    have q0 := box_at (v := .slice (some ⟨b, off, none⟩) 128 k1) E4.old 0 rfl
    have q1 := box_at (v := .slice a2 s.tape.length k2) E4.old 1 rfl
    have q2 := box_at (v := .int .i64 tk) E4.old 2 rfl
    have q3 := box_at (v := .slice a3 s.printed.length k3) E4.old 3 rfl
    have q4 := box_at (v := .int .i64 s.time) E4.old 4 rfl
    have q5 := box_at (v := .int .i64 m) E4.old 5 rfl
    have q6 := box_at (v := .int .i64 s.done) E4.old 6 rfl
    have q7 := box_at (v := .int .i64 s.why) E4.old 7 rfl
    have qf0 := box_free E4.old 0
    have qf1 := box_free E4.old 1
    have qf2 := box_free E4.old 2
    have qf3 := box_free E4.old 3
    have qf4 := box_free E4.old 4
    have qf5 := box_free E4.old 5
    have qf6 := box_free E4.old 6
    have qf7 := box_free E4.old 7
    have r0 := box_at2 (v := .slice none 0 0) E4 0 rfl
    have r1 := box_at2 (v := .slice none 0 0) E4 1 rfl
    have r2 := box_at2 (v := .int .i64 0) E4 2 rfl
    have r3 := box_at2 (v := .slice none 0 0) E4 3 rfl
    have r4 := box_at2 (v := .int .i64 0) E4 4 rfl
    have r5 := box_at2 (v := .int .i64 0) E4 5 rfl
    have r6 := box_at2 (v := .int .i64 0) E4 6 rfl
    have r7 := box_at2 (v := .int .i64 0) E4 7 rfl
    have rf0 := box_free2 E4 0
    have rf1 := box_free2 E4 1
    have rf2 := box_free2 E4 2
    have rf3 := box_free2 E4 3
    have rf4 := box_free2 E4 4
    have rf5 := box_free2 E4 5
    have rf6 := box_free2 E4 6
    have rf7 := box_free2 E4 7
    have hn0x : ¬ g = w.heap.size := by omega
    have hn1x : ¬ g = w.heap.size + 1 := by omega
    have hn2x : ¬ g = w1.heap.size := by omega
    have hn3x : ¬ w.heap.size = g := by omega
    have hn4x : ¬ w.heap.size + 1 = g := by omega
    have hn5x : ¬ w1.heap.size = g := by omega
    have y0 := own_cell hown (i := tm) (by omega)
    have y1 := hown.frozenAt tm
    have hb0 := HV.out.done
    have hb1 := HV.out.time
    go_wp2_with fail
    refine bodyPost_ret (v := sv (some ⟨g, 0, none⟩) a2 a3 128 c' s.tape.length k2 s.printed.length k3 tk un atv (s.done + 1) s.why) (by simp [results, Tryz.results47, go_sem, r0, r1, r2, r3, r4, r5, r6, r7]) rfl ?_
    rw [Hs.out]
    exact ⟨_, rfl, ⟨_, _, _, c', k2, k3, by rw [show (s.store.set tm X).length = 128 from by simp [HL.out]]; rw [Htk.out], (by repeat (first | with_reducible exact own_put (ownsRow_setCell_below hown (a := ⟨w.heap.size, 0, none⟩) hz0 _) X | with_reducible refine ints_drew ?_ | ((with_reducible refine ints_set ?_ ?_); rotate_left 1; · (intro b off e; cases e; simp; omega)))), i2.ext (by repeat (first | with_reducible exact E4.old.old | with_reducible refine Below.drew ?_ | ((with_reducible refine ext_set ?_ ?_); rotate_left 1; · (simp; try omega)))), i3.ext (by repeat (first | with_reducible exact E4.old.old | with_reducible refine Below.drew ?_ | ((with_reducible refine ext_set ?_ ?_); rotate_left 1; · (simp; try omega))))⟩, (by repeat (first | with_reducible exact E4.old.old | with_reducible refine Below.drew ?_ | ((with_reducible refine ext_set ?_ ?_); rotate_left 1; · (simp; try omega)))), fun m1 hm1 hA => avSt_sv.2 ⟨av_new (by omega), (avSt_sv.1 hA).2⟩⟩
  ·skip
   by_cases hu : 1000000000 < un
   ·have Hu := Lib.hid hu
    have Hs := Lib.hid (stepQ_end (s := s) (k := 4) (by simp [whyAt, Ho.out, HU.out, Hu.out]) (by decide))
    go_wp2_with fail
    refine bodyPost_ret (v := sv (some ⟨b, off, none⟩) a2 a3 128 k1 s.tape.length k2 s.printed.length k3 tk s.time m s.done 4) (by simp [results, Tryz.results47, go_sem, r0, r1, r2, r3, r4, r5, r6, r7]) rfl ?_
    rw [Hs.out]
    exact ⟨_, rfl, ⟨_, _, _, k1, k2, k3, by rw [HL.out, Hm.out, Htk.out], i1.ext (by repeat (first | with_reducible exact E3.old.old | with_reducible refine Below.drew ?_ | ((with_reducible refine ext_set ?_ ?_); rotate_left 1; · (simp; try omega)))), i2.ext (by repeat (first | with_reducible exact E3.old.old | with_reducible refine Below.drew ?_ | ((with_reducible refine ext_set ?_ ?_); rotate_left 1; · (simp; try omega)))), i3.ext (by repeat (first | with_reducible exact E3.old.old | with_reducible refine Below.drew ?_ | ((with_reducible refine ext_set ?_ ?_); rotate_left 1; · (simp; try omega))))⟩, (by repeat (first | with_reducible exact E3.old.old | with_reducible refine Below.drew ?_ | ((with_reducible refine ext_set ?_ ?_); rotate_left 1; · (simp; try omega)))), fun m1 hm1 hA => avSt_sv.2 (avSt_sv.1 hA)⟩
   ·have hgo : whyAt s = 0 := by simp [whyAt, Ho.out, HU.out, hu]
    have Hs : Hid (stepQ s = { s with store := s.store.set tm ((X + Y) % 16777216), at_ := atv, time := un, done := s.done + 1 }) := Lib.hid (by
     rw [stepQ_go hgo, HA.out, HU.out, Int.add_comm X Y, HX.out, HY.out, Ho.out]
     rfl)
    clear hgo
    go_wp2_with (at_builtin; refine wpList_app (w0 := wc) rfl _ _ 22 rfl 3 i0 (.int .i64 0) 1 8 Tryz.underlying22 hi ha0 ha1 ha2 rfl (by decide) _ 0 wc.heap.size [] rfl (own_empty (Ext.refl _)) ((Ext.refl wc).alloc _) (Nat.le_refl _) (by simp) _ 128 k1 (iv s.store) rfl ?c1 ?c2 (iv_one _) (by unfold maxLen; omega) (by omega) ?_)
    case c1 => rw [iv_length, HL.out]
    case c2 => exact from_ints (i1.ext (E3.old.old.alloc _))
    intro a' c' wd hown hE _
    obtain ⟨g, rfl⟩ := own_some hown (by decide)
    obtain ⟨hg0, hg1⟩ := own_size hown
    have E4 := Ext.comp E3 hE
    have EZ := Ext.comp EQ hE
    clear q0 q1 q2 q3 q4 q5 q6 q7
    clear qf0 qf1 qf2 qf3 qf4 qf5 qf6 qf7
    clear r0 r1 r2 r3 r4 r5 r6 r7
    clear rf0 rf1 rf2 rf3 rf4 rf5 rf6 rf7
    clear z0 z1 z2 z3
    have z0 := box_at (v := .int .i64 2) EZ 0 rfl
    have z1 := box_at (v := .int .i64 fm) EZ 1 rfl
    have z2 := box_at (v := .int .i64 tm) EZ 2 rfl
    have z3 := box_at (v := .int .i64 nx) EZ 3 rfl
    have q0 := box_at (v := .slice (some ⟨b, off, none⟩) 128 k1) E4.old 0 rfl
    have q1 := box_at (v := .slice a2 s.tape.length k2) E4.old 1 rfl
    have q2 := box_at (v := .int .i64 tk) E4.old 2 rfl
    have q3 := box_at (v := .slice a3 s.printed.length k3) E4.old 3 rfl
    have q4 := box_at (v := .int .i64 s.time) E4.old 4 rfl
    have q5 := box_at (v := .int .i64 m) E4.old 5 rfl
    have q6 := box_at (v := .int .i64 s.done) E4.old 6 rfl
    have q7 := box_at (v := .int .i64 s.why) E4.old 7 rfl
    have qf0 := box_free E4.old 0
    have qf1 := box_free E4.old 1
    have qf2 := box_free E4.old 2
    have qf3 := box_free E4.old 3
    have qf4 := box_free E4.old 4
    have qf5 := box_free E4.old 5
    have qf6 := box_free E4.old 6
    have qf7 := box_free E4.old 7
    have r0 := box_at2 (v := .slice none 0 0) E4 0 rfl
    have r1 := box_at2 (v := .slice none 0 0) E4 1 rfl
    have r2 := box_at2 (v := .int .i64 0) E4 2 rfl
    have r3 := box_at2 (v := .slice none 0 0) E4 3 rfl
    have r4 := box_at2 (v := .int .i64 0) E4 4 rfl
    have r5 := box_at2 (v := .int .i64 0) E4 5 rfl
    have r6 := box_at2 (v := .int .i64 0) E4 6 rfl
    have r7 := box_at2 (v := .int .i64 0) E4 7 rfl
    have rf0 := box_free2 E4 0
    have rf1 := box_free2 E4 1
    have rf2 := box_free2 E4 2
    have rf3 := box_free2 E4 3
    have rf4 := box_free2 E4 4
    have rf5 := box_free2 E4 5
    have rf6 := box_free2 E4 6
    have rf7 := box_free2 E4 7
    have hn6x : ¬ g = w.heap.size := by omega
    have hn7x : ¬ g = w.heap.size + 1 := by omega
    have hn8x : ¬ g = w1.heap.size := by omega
    have hn9x : ¬ w.heap.size = g := by omega
    have hn10x : ¬ w.heap.size + 1 = g := by omega
    have hn11x : ¬ w1.heap.size = g := by omega
    have y0 := own_cell hown (i := tm) (by omega)
    have y1 := hown.frozenAt tm
    have hb0 := HV.out.done
    have hb1 := HV.out.time
    go_wp2_with fail
    refine bodyPost_ret (v := sv (some ⟨g, 0, none⟩) a2 a3 128 c' s.tape.length k2 s.printed.length k3 tk un atv (s.done + 1) s.why) (by simp [results, Tryz.results47, go_sem, r0, r1, r2, r3, r4, r5, r6, r7]) rfl ?_
    rw [Hs.out]
    exact ⟨_, rfl, ⟨_, _, _, c', k2, k3, by rw [show (s.store.set tm ((X + Y) % 16777216)).length = 128 from by simp [HL.out]]; rw [Htk.out], (by repeat (first | with_reducible exact own_put (ownsRow_setCell_below hown (a := ⟨w.heap.size, 0, none⟩) hz0 _) ((X + Y) % 16777216) | with_reducible refine ints_drew ?_ | ((with_reducible refine ints_set ?_ ?_); rotate_left 1; · (intro b off e; cases e; simp; omega)))), i2.ext (by repeat (first | with_reducible exact E4.old.old | with_reducible refine Below.drew ?_ | ((with_reducible refine ext_set ?_ ?_); rotate_left 1; · (simp; try omega)))), i3.ext (by repeat (first | with_reducible exact E4.old.old | with_reducible refine Below.drew ?_ | ((with_reducible refine ext_set ?_ ?_); rotate_left 1; · (simp; try omega))))⟩, (by repeat (first | with_reducible exact E4.old.old | with_reducible refine Below.drew ?_ | ((with_reducible refine ext_set ?_ ?_); rotate_left 1; · (simp; try omega)))), fun m1 hm1 hA => avSt_sv.2 ⟨av_new (by omega), (avSt_sv.1 hA).2⟩⟩
  ·skip
   by_cases hu : 1000000000 < un
   ·have Hu := Lib.hid hu
    have Hs := Lib.hid (stepQ_end (s := s) (k := 4) (by simp [whyAt, Ho.out, HU.out, Hu.out]) (by decide))
    go_wp2_with fail
    refine bodyPost_ret (v := sv (some ⟨b, off, none⟩) a2 a3 128 k1 s.tape.length k2 s.printed.length k3 tk s.time m s.done 4) (by simp [results, Tryz.results47, go_sem, r0, r1, r2, r3, r4, r5, r6, r7]) rfl ?_
    rw [Hs.out]
    exact ⟨_, rfl, ⟨_, _, _, k1, k2, k3, by rw [HL.out, Hm.out, Htk.out], i1.ext (by repeat (first | with_reducible exact E3.old.old | with_reducible refine Below.drew ?_ | ((with_reducible refine ext_set ?_ ?_); rotate_left 1; · (simp; try omega)))), i2.ext (by repeat (first | with_reducible exact E3.old.old | with_reducible refine Below.drew ?_ | ((with_reducible refine ext_set ?_ ?_); rotate_left 1; · (simp; try omega)))), i3.ext (by repeat (first | with_reducible exact E3.old.old | with_reducible refine Below.drew ?_ | ((with_reducible refine ext_set ?_ ?_); rotate_left 1; · (simp; try omega))))⟩, (by repeat (first | with_reducible exact E3.old.old | with_reducible refine Below.drew ?_ | ((with_reducible refine ext_set ?_ ?_); rotate_left 1; · (simp; try omega)))), fun m1 hm1 hA => avSt_sv.2 (avSt_sv.1 hA)⟩
   ·have hgo : whyAt s = 0 := by simp [whyAt, Ho.out, HU.out, hu]
    have Hs : Hid (stepQ s = { s with store := s.store.set tm ((Y - X) % 16777216), at_ := atv, time := un, done := s.done + 1 }) := Lib.hid (by
     rw [stepQ_go hgo, HA.out, HU.out, HX.out, HY.out, Ho.out]
     rfl)
    clear hgo
    go_wp2_with (at_builtin; refine wpList_app (w0 := wc) rfl _ _ 22 rfl 3 i0 (.int .i64 0) 1 8 Tryz.underlying22 hi ha0 ha1 ha2 rfl (by decide) _ 0 wc.heap.size [] rfl (own_empty (Ext.refl _)) ((Ext.refl wc).alloc _) (Nat.le_refl _) (by simp) _ 128 k1 (iv s.store) rfl ?c1 ?c2 (iv_one _) (by unfold maxLen; omega) (by omega) ?_)
    case c1 => rw [iv_length, HL.out]
    case c2 => exact from_ints (i1.ext (E3.old.old.alloc _))
    intro a' c' wd hown hE _
    obtain ⟨g, rfl⟩ := own_some hown (by decide)
    obtain ⟨hg0, hg1⟩ := own_size hown
    have E4 := Ext.comp E3 hE
    have EZ := Ext.comp EQ hE
    clear q0 q1 q2 q3 q4 q5 q6 q7
    clear qf0 qf1 qf2 qf3 qf4 qf5 qf6 qf7
    clear r0 r1 r2 r3 r4 r5 r6 r7
    clear rf0 rf1 rf2 rf3 rf4 rf5 rf6 rf7
    clear z0 z1 z2 z3
    have z0 := box_at (v := .int .i64 3) EZ 0 rfl
    have z1 := box_at (v := .int .i64 fm) EZ 1 rfl
    have z2 := box_at (v := .int .i64 tm) EZ 2 rfl
    have z3 := box_at (v := .int .i64 nx) EZ 3 rfl
    have q0 := box_at (v := .slice (some ⟨b, off, none⟩) 128 k1) E4.old 0 rfl
    have q1 := box_at (v := .slice a2 s.tape.length k2) E4.old 1 rfl
    have q2 := box_at (v := .int .i64 tk) E4.old 2 rfl
    have q3 := box_at (v := .slice a3 s.printed.length k3) E4.old 3 rfl
    have q4 := box_at (v := .int .i64 s.time) E4.old 4 rfl
    have q5 := box_at (v := .int .i64 m) E4.old 5 rfl
    have q6 := box_at (v := .int .i64 s.done) E4.old 6 rfl
    have q7 := box_at (v := .int .i64 s.why) E4.old 7 rfl
    have qf0 := box_free E4.old 0
    have qf1 := box_free E4.old 1
    have qf2 := box_free E4.old 2
    have qf3 := box_free E4.old 3
    have qf4 := box_free E4.old 4
    have qf5 := box_free E4.old 5
    have qf6 := box_free E4.old 6
    have qf7 := box_free E4.old 7
    have r0 := box_at2 (v := .slice none 0 0) E4 0 rfl
    have r1 := box_at2 (v := .slice none 0 0) E4 1 rfl
    have r2 := box_at2 (v := .int .i64 0) E4 2 rfl
    have r3 := box_at2 (v := .slice none 0 0) E4 3 rfl
    have r4 := box_at2 (v := .int .i64 0) E4 4 rfl
    have r5 := box_at2 (v := .int .i64 0) E4 5 rfl
    have r6 := box_at2 (v := .int .i64 0) E4 6 rfl
    have r7 := box_at2 (v := .int .i64 0) E4 7 rfl
    have rf0 := box_free2 E4 0
    have rf1 := box_free2 E4 1
    have rf2 := box_free2 E4 2
    have rf3 := box_free2 E4 3
    have rf4 := box_free2 E4 4
    have rf5 := box_free2 E4 5
    have rf6 := box_free2 E4 6
    have rf7 := box_free2 E4 7
    have hn12x : ¬ g = w.heap.size := by omega
    have hn13x : ¬ g = w.heap.size + 1 := by omega
    have hn14x : ¬ g = w1.heap.size := by omega
    have hn15x : ¬ w.heap.size = g := by omega
    have hn16x : ¬ w.heap.size + 1 = g := by omega
    have hn17x : ¬ w1.heap.size = g := by omega
    have y0 := own_cell hown (i := tm) (by omega)
    have y1 := hown.frozenAt tm
    have hb0 := HV.out.done
    have hb1 := HV.out.time
    go_wp2_with fail
    refine bodyPost_ret (v := sv (some ⟨g, 0, none⟩) a2 a3 128 c' s.tape.length k2 s.printed.length k3 tk un atv (s.done + 1) s.why) (by simp [results, Tryz.results47, go_sem, r0, r1, r2, r3, r4, r5, r6, r7]) rfl ?_
    rw [Hs.out]
    exact ⟨_, rfl, ⟨_, _, _, c', k2, k3, by rw [show (s.store.set tm ((Y - X) % 16777216)).length = 128 from by simp [HL.out]]; rw [Htk.out], (by repeat (first | with_reducible exact own_put (ownsRow_setCell_below hown (a := ⟨w.heap.size, 0, none⟩) hz0 _) ((Y - X) % 16777216) | with_reducible refine ints_drew ?_ | ((with_reducible refine ints_set ?_ ?_); rotate_left 1; · (intro b off e; cases e; simp; omega)))), i2.ext (by repeat (first | with_reducible exact E4.old.old | with_reducible refine Below.drew ?_ | ((with_reducible refine ext_set ?_ ?_); rotate_left 1; · (simp; try omega)))), i3.ext (by repeat (first | with_reducible exact E4.old.old | with_reducible refine Below.drew ?_ | ((with_reducible refine ext_set ?_ ?_); rotate_left 1; · (simp; try omega))))⟩, (by repeat (first | with_reducible exact E4.old.old | with_reducible refine Below.drew ?_ | ((with_reducible refine ext_set ?_ ?_); rotate_left 1; · (simp; try omega)))), fun m1 hm1 hA => avSt_sv.2 ⟨av_new (by omega), (avSt_sv.1 hA).2⟩⟩
  ·skip
   by_cases hu : 1000000000 < un
   ·have Hu := Lib.hid hu
    have Hs := Lib.hid (stepQ_end (s := s) (k := 4) (by simp [whyAt, Ho.out, HU.out, Hu.out]) (by decide))
    go_wp2_with fail
    refine bodyPost_ret (v := sv (some ⟨b, off, none⟩) a2 a3 128 k1 s.tape.length k2 s.printed.length k3 tk s.time m s.done 4) (by simp [results, Tryz.results47, go_sem, r0, r1, r2, r3, r4, r5, r6, r7]) rfl ?_
    rw [Hs.out]
    exact ⟨_, rfl, ⟨_, _, _, k1, k2, k3, by rw [HL.out, Hm.out, Htk.out], i1.ext (by repeat (first | with_reducible exact E3.old.old | with_reducible refine Below.drew ?_ | ((with_reducible refine ext_set ?_ ?_); rotate_left 1; · (simp; try omega)))), i2.ext (by repeat (first | with_reducible exact E3.old.old | with_reducible refine Below.drew ?_ | ((with_reducible refine ext_set ?_ ?_); rotate_left 1; · (simp; try omega)))), i3.ext (by repeat (first | with_reducible exact E3.old.old | with_reducible refine Below.drew ?_ | ((with_reducible refine ext_set ?_ ?_); rotate_left 1; · (simp; try omega))))⟩, (by repeat (first | with_reducible exact E3.old.old | with_reducible refine Below.drew ?_ | ((with_reducible refine ext_set ?_ ?_); rotate_left 1; · (simp; try omega)))), fun m1 hm1 hA => avSt_sv.2 (avSt_sv.1 hA)⟩
   ·have hgo : whyAt s = 0 := by simp [whyAt, Ho.out, HU.out, hu]
    have Hs : Hid (stepQ s = { s with store := s.store.set tm (Q.prod X Y), at_ := atv, time := un, done := s.done + 1 }) := Lib.hid (by
     rw [stepQ_go hgo, HA.out, HU.out, HX.out, HY.out, Ho.out]
     rfl)
    clear hgo
    go_wp2_with (at_builtin; refine wpList_app (w0 := wc) rfl _ _ 22 rfl 3 i0 (.int .i64 0) 1 8 Tryz.underlying22 hi ha0 ha1 ha2 rfl (by decide) _ 0 wc.heap.size [] rfl (own_empty (Ext.refl _)) ((Ext.refl wc).alloc _) (Nat.le_refl _) (by simp) _ 128 k1 (iv s.store) rfl ?c1 ?c2 (iv_one _) (by unfold maxLen; omega) (by omega) ?_)
    case c1 => rw [iv_length, HL.out]
    case c2 => exact from_ints (i1.ext (E3.old.old.alloc _))
    intro a' c' wd hown hE _
    obtain ⟨g, rfl⟩ := own_some hown (by decide)
    obtain ⟨hg0, hg1⟩ := own_size hown
    have E4 := Ext.comp E3 hE
    have EZ := Ext.comp EQ hE
    clear q0 q1 q2 q3 q4 q5 q6 q7
    clear qf0 qf1 qf2 qf3 qf4 qf5 qf6 qf7
    clear r0 r1 r2 r3 r4 r5 r6 r7
    clear rf0 rf1 rf2 rf3 rf4 rf5 rf6 rf7
    clear z0 z1 z2 z3
    have z0 := box_at (v := .int .i64 4) EZ 0 rfl
    have z1 := box_at (v := .int .i64 fm) EZ 1 rfl
    have z2 := box_at (v := .int .i64 tm) EZ 2 rfl
    have z3 := box_at (v := .int .i64 nx) EZ 3 rfl
    have q0 := box_at (v := .slice (some ⟨b, off, none⟩) 128 k1) E4.old 0 rfl
    have q1 := box_at (v := .slice a2 s.tape.length k2) E4.old 1 rfl
    have q2 := box_at (v := .int .i64 tk) E4.old 2 rfl
    have q3 := box_at (v := .slice a3 s.printed.length k3) E4.old 3 rfl
    have q4 := box_at (v := .int .i64 s.time) E4.old 4 rfl
    have q5 := box_at (v := .int .i64 m) E4.old 5 rfl
    have q6 := box_at (v := .int .i64 s.done) E4.old 6 rfl
    have q7 := box_at (v := .int .i64 s.why) E4.old 7 rfl
    have qf0 := box_free E4.old 0
    have qf1 := box_free E4.old 1
    have qf2 := box_free E4.old 2
    have qf3 := box_free E4.old 3
    have qf4 := box_free E4.old 4
    have qf5 := box_free E4.old 5
    have qf6 := box_free E4.old 6
    have qf7 := box_free E4.old 7
    have r0 := box_at2 (v := .slice none 0 0) E4 0 rfl
    have r1 := box_at2 (v := .slice none 0 0) E4 1 rfl
    have r2 := box_at2 (v := .int .i64 0) E4 2 rfl
    have r3 := box_at2 (v := .slice none 0 0) E4 3 rfl
    have r4 := box_at2 (v := .int .i64 0) E4 4 rfl
    have r5 := box_at2 (v := .int .i64 0) E4 5 rfl
    have r6 := box_at2 (v := .int .i64 0) E4 6 rfl
    have r7 := box_at2 (v := .int .i64 0) E4 7 rfl
    have rf0 := box_free2 E4 0
    have rf1 := box_free2 E4 1
    have rf2 := box_free2 E4 2
    have rf3 := box_free2 E4 3
    have rf4 := box_free2 E4 4
    have rf5 := box_free2 E4 5
    have rf6 := box_free2 E4 6
    have rf7 := box_free2 E4 7
    have hn18x : ¬ g = w.heap.size := by omega
    have hn19x : ¬ g = w.heap.size + 1 := by omega
    have hn20x : ¬ g = w1.heap.size := by omega
    have hn21x : ¬ w.heap.size = g := by omega
    have hn22x : ¬ w.heap.size + 1 = g := by omega
    have hn23x : ¬ w1.heap.size = g := by omega
    have y0 := own_cell hown (i := tm) (by omega)
    have y1 := hown.frozenAt tm
    have hb0 := HV.out.done
    have hb1 := HV.out.time
    go_wp2_with fail
    go_region_with (go_at_call 83; refine (product_any X Y _ hf ht).mono ?_; rintro e we ⟨rfl, rfl⟩)
    all_goals go_wp2_with fail
    all_goals
     refine bodyPost_ret (v := sv (some ⟨g, 0, none⟩) a2 a3 128 c' s.tape.length k2 s.printed.length k3 tk un atv (s.done + 1) s.why) (by simp [results, Tryz.results47, go_sem, r0, r1, r2, r3, r4, r5, r6, r7]) rfl ?_
     rw [Hs.out]
     exact ⟨_, rfl, ⟨_, _, _, c', k2, k3, by rw [show (s.store.set tm (Q.prod X Y)).length = 128 from by simp [HL.out]]; rw [Htk.out], (by repeat (first | with_reducible exact own_put (ownsRow_setCell_below hown (a := ⟨w.heap.size, 0, none⟩) hz0 _) (Q.prod X Y) | with_reducible refine ints_drew ?_ | ((with_reducible refine ints_set ?_ ?_); rotate_left 1; · (intro b off e; cases e; simp; omega)))), i2.ext (by repeat (first | with_reducible exact E4.old.old | with_reducible refine Below.drew ?_ | ((with_reducible refine ext_set ?_ ?_); rotate_left 1; · (simp; try omega)))), i3.ext (by repeat (first | with_reducible exact E4.old.old | with_reducible refine Below.drew ?_ | ((with_reducible refine ext_set ?_ ?_); rotate_left 1; · (simp; try omega))))⟩, (by repeat (first | with_reducible exact E4.old.old | with_reducible refine Below.drew ?_ | ((with_reducible refine ext_set ?_ ?_); rotate_left 1; · (simp; try omega)))), fun m1 hm1 hA => avSt_sv.2 ⟨av_new (by omega), (avSt_sv.1 hA).2⟩⟩
  ·skip
   by_cases hu : 1000000000 < un
   ·have Hu := Lib.hid hu
    have Hs := Lib.hid (stepQ_end (s := s) (k := 4) (by simp [whyAt, Ho.out, HU.out, Hu.out]) (by decide))
    go_wp2_with fail
    refine bodyPost_ret (v := sv (some ⟨b, off, none⟩) a2 a3 128 k1 s.tape.length k2 s.printed.length k3 tk s.time m s.done 4) (by simp [results, Tryz.results47, go_sem, r0, r1, r2, r3, r4, r5, r6, r7]) rfl ?_
    rw [Hs.out]
    exact ⟨_, rfl, ⟨_, _, _, k1, k2, k3, by rw [HL.out, Hm.out, Htk.out], i1.ext (by repeat (first | with_reducible exact E3.old.old | with_reducible refine Below.drew ?_ | ((with_reducible refine ext_set ?_ ?_); rotate_left 1; · (simp; try omega)))), i2.ext (by repeat (first | with_reducible exact E3.old.old | with_reducible refine Below.drew ?_ | ((with_reducible refine ext_set ?_ ?_); rotate_left 1; · (simp; try omega)))), i3.ext (by repeat (first | with_reducible exact E3.old.old | with_reducible refine Below.drew ?_ | ((with_reducible refine ext_set ?_ ?_); rotate_left 1; · (simp; try omega))))⟩, (by repeat (first | with_reducible exact E3.old.old | with_reducible refine Below.drew ?_ | ((with_reducible refine ext_set ?_ ?_); rotate_left 1; · (simp; try omega)))), fun m1 hm1 hA => avSt_sv.2 (avSt_sv.1 hA)⟩
   ·have hgo : whyAt s = 0 := by simp [whyAt, Ho.out, HU.out, hu]
    have Hs : Hid (stepQ s = { s with store := s.store, at_ := atv, time := un, done := s.done + 1 }) := Lib.hid (by
     rw [stepQ_go hgo, HA.out, HU.out, Ho.out]
     rfl)
    clear hgo
    go_wp2_with (at_builtin; refine wpList_app (w0 := wc) rfl _ _ 22 rfl 3 i0 (.int .i64 0) 1 8 Tryz.underlying22 hi ha0 ha1 ha2 rfl (by decide) _ 0 wc.heap.size [] rfl (own_empty (Ext.refl _)) ((Ext.refl wc).alloc _) (Nat.le_refl _) (by simp) _ 128 k1 (iv s.store) rfl ?c1 ?c2 (iv_one _) (by unfold maxLen; omega) (by omega) ?_)
    case c1 => rw [iv_length, HL.out]
    case c2 => exact from_ints (i1.ext (E3.old.old.alloc _))
    intro a' c' wd hown hE _
    obtain ⟨g, rfl⟩ := own_some hown (by decide)
    obtain ⟨hg0, hg1⟩ := own_size hown
    have E4 := Ext.comp E3 hE
    have EZ := Ext.comp EQ hE
    clear q0 q1 q2 q3 q4 q5 q6 q7
    clear qf0 qf1 qf2 qf3 qf4 qf5 qf6 qf7
    clear r0 r1 r2 r3 r4 r5 r6 r7
    clear rf0 rf1 rf2 rf3 rf4 rf5 rf6 rf7
    clear z0 z1 z2 z3
    have z0 := box_at (v := .int .i64 5) EZ 0 rfl
    have z1 := box_at (v := .int .i64 fm) EZ 1 rfl
    have z2 := box_at (v := .int .i64 tm) EZ 2 rfl
    have z3 := box_at (v := .int .i64 nx) EZ 3 rfl
    have q0 := box_at (v := .slice (some ⟨b, off, none⟩) 128 k1) E4.old 0 rfl
    have q1 := box_at (v := .slice a2 s.tape.length k2) E4.old 1 rfl
    have q2 := box_at (v := .int .i64 tk) E4.old 2 rfl
    have q3 := box_at (v := .slice a3 s.printed.length k3) E4.old 3 rfl
    have q4 := box_at (v := .int .i64 s.time) E4.old 4 rfl
    have q5 := box_at (v := .int .i64 m) E4.old 5 rfl
    have q6 := box_at (v := .int .i64 s.done) E4.old 6 rfl
    have q7 := box_at (v := .int .i64 s.why) E4.old 7 rfl
    have qf0 := box_free E4.old 0
    have qf1 := box_free E4.old 1
    have qf2 := box_free E4.old 2
    have qf3 := box_free E4.old 3
    have qf4 := box_free E4.old 4
    have qf5 := box_free E4.old 5
    have qf6 := box_free E4.old 6
    have qf7 := box_free E4.old 7
    have r0 := box_at2 (v := .slice none 0 0) E4 0 rfl
    have r1 := box_at2 (v := .slice none 0 0) E4 1 rfl
    have r2 := box_at2 (v := .int .i64 0) E4 2 rfl
    have r3 := box_at2 (v := .slice none 0 0) E4 3 rfl
    have r4 := box_at2 (v := .int .i64 0) E4 4 rfl
    have r5 := box_at2 (v := .int .i64 0) E4 5 rfl
    have r6 := box_at2 (v := .int .i64 0) E4 6 rfl
    have r7 := box_at2 (v := .int .i64 0) E4 7 rfl
    have rf0 := box_free2 E4 0
    have rf1 := box_free2 E4 1
    have rf2 := box_free2 E4 2
    have rf3 := box_free2 E4 3
    have rf4 := box_free2 E4 4
    have rf5 := box_free2 E4 5
    have rf6 := box_free2 E4 6
    have rf7 := box_free2 E4 7
    have hn24x : ¬ g = w.heap.size := by omega
    have hn25x : ¬ g = w.heap.size + 1 := by omega
    have hn26x : ¬ g = w1.heap.size := by omega
    have hn27x : ¬ w.heap.size = g := by omega
    have hn28x : ¬ w.heap.size + 1 = g := by omega
    have hn29x : ¬ w1.heap.size = g := by omega
    have hb0 := HV.out.done
    have hb1 := HV.out.time
    go_wp2_with fail
    refine bodyPost_ret (v := sv (some ⟨g, 0, none⟩) a2 a3 128 c' s.tape.length k2 s.printed.length k3 tk un atv (s.done + 1) s.why) (by simp [results, Tryz.results47, go_sem, r0, r1, r2, r3, r4, r5, r6, r7]) rfl ?_
    rw [Hs.out]
    exact ⟨_, rfl, ⟨_, _, _, c', k2, k3, by rw [show (s.store).length = 128 from by simp [HL.out]]; rw [Htk.out], (by repeat (first | with_reducible exact own_ints hown | ((with_reducible refine ints_set ?_ ?_); rotate_left 1; · (intro b off e; cases e; simp; omega)))), i2.ext (by repeat (first | with_reducible exact E4.old.old | with_reducible refine Below.drew ?_ | ((with_reducible refine ext_set ?_ ?_); rotate_left 1; · (simp; try omega)))), i3.ext (by repeat (first | with_reducible exact E4.old.old | with_reducible refine Below.drew ?_ | ((with_reducible refine ext_set ?_ ?_); rotate_left 1; · (simp; try omega))))⟩, (by repeat (first | with_reducible exact E4.old.old | with_reducible refine Below.drew ?_ | ((with_reducible refine ext_set ?_ ?_); rotate_left 1; · (simp; try omega)))), fun m1 hm1 hA => avSt_sv.2 ⟨av_new (by omega), (avSt_sv.1 hA).2⟩⟩
  ·skip
   by_cases htt : (tk : Int) = s.tape.length
   ·have htb : ((tk : Int) == (s.tape.length : Int)) = true := by simpa using htt
    have HT : Hid (s.taken = s.tape.length) := Lib.hid (by rw [Htk.out]; exact htt)
    clear htt
    have Hs := Lib.hid (stepQ_end (s := s) (k := 2) (by simp [whyAt, Ho.out, HT.out]) (by decide))
    go_wp2_with fail
    refine bodyPost_ret (v := sv (some ⟨b, off, none⟩) a2 a3 128 k1 s.tape.length k2 s.printed.length k3 tk s.time m s.done 2) (by simp [results, Tryz.results47, go_sem, r0, r1, r2, r3, r4, r5, r6, r7]) rfl ?_
    rw [Hs.out]
    exact ⟨_, rfl, ⟨_, _, _, k1, k2, k3, by rw [HL.out, Hm.out, Htk.out], i1.ext (by repeat (first | with_reducible exact E3.old.old | with_reducible refine Below.drew ?_ | ((with_reducible refine ext_set ?_ ?_); rotate_left 1; · (simp; try omega)))), i2.ext (by repeat (first | with_reducible exact E3.old.old | with_reducible refine Below.drew ?_ | ((with_reducible refine ext_set ?_ ?_); rotate_left 1; · (simp; try omega)))), i3.ext (by repeat (first | with_reducible exact E3.old.old | with_reducible refine Below.drew ?_ | ((with_reducible refine ext_set ?_ ?_); rotate_left 1; · (simp; try omega))))⟩, (by repeat (first | with_reducible exact E3.old.old | with_reducible refine Below.drew ?_ | ((with_reducible refine ext_set ?_ ?_); rotate_left 1; · (simp; try omega)))), fun m1 hm1 hA => avSt_sv.2 (avSt_sv.1 hA)⟩
   ·have htbf : ((tk : Int) == (s.tape.length : Int)) = false := by simpa using htt
    have HT : Hid (¬ s.taken = s.tape.length) := Lib.hid (by rw [Htk.out]; exact htt)
    have htlt : (tk : Int) < s.tape.length := by omega
    obtain ⟨tb, toff, rfl, htb, htc0⟩ := ints_form i2 (by omega)
    have htc := htc0 tk (by omega)
    generalize htv : s.tape[tk]?.getD 0 = tv at htc
    have HTV : Hid (tv = s.tape[s.taken.toNat]?.getD 0) := Lib.hid (by rw [Htk.out]; exact htv.symm)
    clear htt htv htc0
    by_cases hu : 1000000000 < un
    ·have Hu := Lib.hid hu
     have Hs := Lib.hid (stepQ_end (s := s) (k := 4) (by simp [whyAt, Ho.out, HT.out, HU.out, Hu.out]) (by decide))
     go_wp2_with fail
     refine bodyPost_ret (v := sv (some ⟨b, off, none⟩) (some ⟨tb, toff, none⟩) a3 128 k1 s.tape.length k2 s.printed.length k3 tk s.time m s.done 4) (by simp [results, Tryz.results47, go_sem, r0, r1, r2, r3, r4, r5, r6, r7]) rfl ?_
     rw [Hs.out]
     exact ⟨_, rfl, ⟨_, _, _, k1, k2, k3, by rw [HL.out, Hm.out, Htk.out], i1.ext (by repeat (first | with_reducible exact E3.old.old | with_reducible refine Below.drew ?_ | ((with_reducible refine ext_set ?_ ?_); rotate_left 1; · (simp; try omega)))), i2.ext (by repeat (first | with_reducible exact E3.old.old | with_reducible refine Below.drew ?_ | ((with_reducible refine ext_set ?_ ?_); rotate_left 1; · (simp; try omega)))), i3.ext (by repeat (first | with_reducible exact E3.old.old | with_reducible refine Below.drew ?_ | ((with_reducible refine ext_set ?_ ?_); rotate_left 1; · (simp; try omega))))⟩, (by repeat (first | with_reducible exact E3.old.old | with_reducible refine Below.drew ?_ | ((with_reducible refine ext_set ?_ ?_); rotate_left 1; · (simp; try omega)))), fun m1 hm1 hA => avSt_sv.2 (avSt_sv.1 hA)⟩
    ·have hgo : whyAt s = 0 := by simp [whyAt, Ho.out, HT.out, HU.out, hu]
     have Hs : Hid (stepQ s = { s with store := s.store.set tm tv, taken := s.taken + 1, at_ := atv, time := un, done := s.done + 1 }) := Lib.hid (by
      rw [stepQ_go hgo, HA.out, HU.out, HTV.out, Ho.out]
      rfl)
     clear hgo
     go_wp2_with (at_builtin; refine wpList_app (w0 := wc) rfl _ _ 22 rfl 3 i0 (.int .i64 0) 1 8 Tryz.underlying22 hi ha0 ha1 ha2 rfl (by decide) _ 0 wc.heap.size [] rfl (own_empty (Ext.refl _)) ((Ext.refl wc).alloc _) (Nat.le_refl _) (by simp) _ 128 k1 (iv s.store) rfl ?c1 ?c2 (iv_one _) (by unfold maxLen; omega) (by omega) ?_)
     case c1 => rw [iv_length, HL.out]
     case c2 => exact from_ints (i1.ext (E3.old.old.alloc _))
     intro a' c' wd hown hE _
     obtain ⟨g, rfl⟩ := own_some hown (by decide)
     obtain ⟨hg0, hg1⟩ := own_size hown
     have E4 := Ext.comp E3 hE
     have EZ := Ext.comp EQ hE
     clear q0 q1 q2 q3 q4 q5 q6 q7
     clear qf0 qf1 qf2 qf3 qf4 qf5 qf6 qf7
     clear r0 r1 r2 r3 r4 r5 r6 r7
     clear rf0 rf1 rf2 rf3 rf4 rf5 rf6 rf7
     clear z0 z1 z2 z3
     have z0 := box_at (v := .int .i64 6) EZ 0 rfl
     have z1 := box_at (v := .int .i64 fm) EZ 1 rfl
     have z2 := box_at (v := .int .i64 tm) EZ 2 rfl
     have z3 := box_at (v := .int .i64 nx) EZ 3 rfl
     have q0 := box_at (v := .slice (some ⟨b, off, none⟩) 128 k1) E4.old 0 rfl
     have q1 := box_at (v := .slice (some ⟨tb, toff, none⟩) s.tape.length k2) E4.old 1 rfl
     have q2 := box_at (v := .int .i64 tk) E4.old 2 rfl
     have q3 := box_at (v := .slice a3 s.printed.length k3) E4.old 3 rfl
     have q4 := box_at (v := .int .i64 s.time) E4.old 4 rfl
     have q5 := box_at (v := .int .i64 m) E4.old 5 rfl
     have q6 := box_at (v := .int .i64 s.done) E4.old 6 rfl
     have q7 := box_at (v := .int .i64 s.why) E4.old 7 rfl
     have qf0 := box_free E4.old 0
     have qf1 := box_free E4.old 1
     have qf2 := box_free E4.old 2
     have qf3 := box_free E4.old 3
     have qf4 := box_free E4.old 4
     have qf5 := box_free E4.old 5
     have qf6 := box_free E4.old 6
     have qf7 := box_free E4.old 7
     have r0 := box_at2 (v := .slice none 0 0) E4 0 rfl
     have r1 := box_at2 (v := .slice none 0 0) E4 1 rfl
     have r2 := box_at2 (v := .int .i64 0) E4 2 rfl
     have r3 := box_at2 (v := .slice none 0 0) E4 3 rfl
     have r4 := box_at2 (v := .int .i64 0) E4 4 rfl
     have r5 := box_at2 (v := .int .i64 0) E4 5 rfl
     have r6 := box_at2 (v := .int .i64 0) E4 6 rfl
     have r7 := box_at2 (v := .int .i64 0) E4 7 rfl
     have rf0 := box_free2 E4 0
     have rf1 := box_free2 E4 1
     have rf2 := box_free2 E4 2
     have rf3 := box_free2 E4 3
     have rf4 := box_free2 E4 4
     have rf5 := box_free2 E4 5
     have rf6 := box_free2 E4 6
     have rf7 := box_free2 E4 7
     have hn0x : ¬ g = w.heap.size := by omega
     have hn1x : ¬ g = w.heap.size + 1 := by omega
     have hn2x : ¬ g = w1.heap.size := by omega
     have hn3x : ¬ w.heap.size = g := by omega
     have hn4x : ¬ w.heap.size + 1 = g := by omega
     have hn5x : ¬ w1.heap.size = g := by omega
     have y0 := own_cell hown (i := tm) (by omega)
     have y1 := hown.frozenAt tm
     have y2 := (E4.old.old.cell (p := ⟨tb, toff + tk, none⟩) htb).trans htc
     have hn7 : ¬ tb = w.heap.size := by omega
     have hn8 : ¬ w.heap.size = tb := by omega
     have hn9 : ¬ tb = g := by omega
     have hn10 : ¬ g = tb := by omega
     have hb0 := HV.out.done
     have hb1 := HV.out.time
     go_wp2_with fail
     go_region
     go_wp2_with fail
     refine bodyPost_ret (v := sv (some ⟨g, 0, none⟩) (some ⟨tb, toff, none⟩) a3 128 c' s.tape.length k2 s.printed.length k3 (tk + 1) un atv (s.done + 1) s.why) (by simp [results, Tryz.results47, go_sem, r0, r1, r2, r3, r4, r5, r6, r7]) rfl ?_
     rw [Hs.out]
     exact ⟨_, rfl, ⟨_, _, _, c', k2, k3, by rw [show (s.store.set tm tv).length = 128 from by simp [HL.out]]; rw [Htk.out], (by repeat (first | with_reducible exact own_put (ownsRow_setCell_below hown (a := ⟨w.heap.size, 0, none⟩) hz0 _) tv | with_reducible refine ints_drew ?_ | ((with_reducible refine ints_set ?_ ?_); rotate_left 1; · (intro b off e; cases e; simp; omega)))), i2.ext (by repeat (first | with_reducible exact E4.old.old | with_reducible refine Below.drew ?_ | ((with_reducible refine ext_set ?_ ?_); rotate_left 1; · (simp; try omega)))), i3.ext (by repeat (first | with_reducible exact E4.old.old | with_reducible refine Below.drew ?_ | ((with_reducible refine ext_set ?_ ?_); rotate_left 1; · (simp; try omega))))⟩, (by repeat (first | with_reducible exact E4.old.old | with_reducible refine Below.drew ?_ | ((with_reducible refine ext_set ?_ ?_); rotate_left 1; · (simp; try omega)))), fun m1 hm1 hA => avSt_sv.2 ⟨av_new (by omega), (avSt_sv.1 hA).2⟩⟩
  ·skip
   by_cases htt : s.printed.length = 200
   ·have htb : ((s.printed.length : Int) == 200) = true := by rw [beq_iff_eq]; omega
    have HT := Lib.hid htt
    clear htt
    have Hs := Lib.hid (stepQ_end (s := s) (k := 3) (by simp [whyAt, Ho.out, HT.out]) (by decide))
    go_wp2_with fail
    refine bodyPost_ret (v := sv (some ⟨b, off, none⟩) a2 a3 128 k1 s.tape.length k2 s.printed.length k3 tk s.time m s.done 3) (by simp [results, Tryz.results47, go_sem, r0, r1, r2, r3, r4, r5, r6, r7]) rfl ?_
    rw [Hs.out]
    exact ⟨_, rfl, ⟨_, _, _, k1, k2, k3, by rw [HL.out, Hm.out, Htk.out], i1.ext (by repeat (first | with_reducible exact E3.old.old | with_reducible refine Below.drew ?_ | ((with_reducible refine ext_set ?_ ?_); rotate_left 1; · (simp; try omega)))), i2.ext (by repeat (first | with_reducible exact E3.old.old | with_reducible refine Below.drew ?_ | ((with_reducible refine ext_set ?_ ?_); rotate_left 1; · (simp; try omega)))), i3.ext (by repeat (first | with_reducible exact E3.old.old | with_reducible refine Below.drew ?_ | ((with_reducible refine ext_set ?_ ?_); rotate_left 1; · (simp; try omega))))⟩, (by repeat (first | with_reducible exact E3.old.old | with_reducible refine Below.drew ?_ | ((with_reducible refine ext_set ?_ ?_); rotate_left 1; · (simp; try omega)))), fun m1 hm1 hA => avSt_sv.2 (avSt_sv.1 hA)⟩
   ·have htbf : ((s.printed.length : Int) == 200) = false := by rw [beq_eq_false_iff_ne]; omega
    have HT := Lib.hid htt
    clear htt
    by_cases hu : 1000000000 < un
    ·have Hu := Lib.hid hu
     have Hs := Lib.hid (stepQ_end (s := s) (k := 4) (by simp [whyAt, Ho.out, HT.out, HU.out, Hu.out]) (by decide))
     go_wp2_with fail
     refine bodyPost_ret (v := sv (some ⟨b, off, none⟩) a2 a3 128 k1 s.tape.length k2 s.printed.length k3 tk s.time m s.done 4) (by simp [results, Tryz.results47, go_sem, r0, r1, r2, r3, r4, r5, r6, r7]) rfl ?_
     rw [Hs.out]
     exact ⟨_, rfl, ⟨_, _, _, k1, k2, k3, by rw [HL.out, Hm.out, Htk.out], i1.ext (by repeat (first | with_reducible exact E3.old.old | with_reducible refine Below.drew ?_ | ((with_reducible refine ext_set ?_ ?_); rotate_left 1; · (simp; try omega)))), i2.ext (by repeat (first | with_reducible exact E3.old.old | with_reducible refine Below.drew ?_ | ((with_reducible refine ext_set ?_ ?_); rotate_left 1; · (simp; try omega)))), i3.ext (by repeat (first | with_reducible exact E3.old.old | with_reducible refine Below.drew ?_ | ((with_reducible refine ext_set ?_ ?_); rotate_left 1; · (simp; try omega))))⟩, (by repeat (first | with_reducible exact E3.old.old | with_reducible refine Below.drew ?_ | ((with_reducible refine ext_set ?_ ?_); rotate_left 1; · (simp; try omega)))), fun m1 hm1 hA => avSt_sv.2 (avSt_sv.1 hA)⟩
    ·have hgo : whyAt s = 0 := by simp [whyAt, Ho.out, HT.out, HU.out, hu]
     have Hs : Hid (stepQ s = { s with store := s.store, printed := s.printed ++ [X], at_ := atv, time := un, done := s.done + 1 }) := Lib.hid (by
      rw [stepQ_go hgo, HA.out, HU.out, HX.out, Ho.out]
      rfl)
     clear hgo
     go_wp2_with (at_builtin; refine wpList_app (w0 := wc) rfl _ _ 22 rfl 3 i0 (.int .i64 0) 1 8 Tryz.underlying22 hi ha0 ha1 ha2 rfl (by decide) _ 0 wc.heap.size [] rfl (own_empty (Ext.refl _)) ((Ext.refl wc).alloc _) (Nat.le_refl _) (by simp) _ 128 k1 (iv s.store) rfl ?c1 ?c2 (iv_one _) (by unfold maxLen; omega) (by omega) ?_)
     case c1 => rw [iv_length, HL.out]
     case c2 => exact from_ints (i1.ext (E3.old.old.alloc _))
     intro a' c' wd hown hE _
     obtain ⟨g, rfl⟩ := own_some hown (by decide)
     obtain ⟨hg0, hg1⟩ := own_size hown
     have E4 := Ext.comp E3 hE
     have EZ := Ext.comp EQ hE
     clear q0 q1 q2 q3 q4 q5 q6 q7
     clear qf0 qf1 qf2 qf3 qf4 qf5 qf6 qf7
     clear r0 r1 r2 r3 r4 r5 r6 r7
     clear rf0 rf1 rf2 rf3 rf4 rf5 rf6 rf7
     clear z0 z1 z2 z3
     have z0 := box_at (v := .int .i64 7) EZ 0 rfl
     have z1 := box_at (v := .int .i64 fm) EZ 1 rfl
     have z2 := box_at (v := .int .i64 tm) EZ 2 rfl
     have z3 := box_at (v := .int .i64 nx) EZ 3 rfl
     have q0 := box_at (v := .slice (some ⟨b, off, none⟩) 128 k1) E4.old 0 rfl
     have q1 := box_at (v := .slice a2 s.tape.length k2) E4.old 1 rfl
     have q2 := box_at (v := .int .i64 tk) E4.old 2 rfl
     have q3 := box_at (v := .slice a3 s.printed.length k3) E4.old 3 rfl
     have q4 := box_at (v := .int .i64 s.time) E4.old 4 rfl
     have q5 := box_at (v := .int .i64 m) E4.old 5 rfl
     have q6 := box_at (v := .int .i64 s.done) E4.old 6 rfl
     have q7 := box_at (v := .int .i64 s.why) E4.old 7 rfl
     have qf0 := box_free E4.old 0
     have qf1 := box_free E4.old 1
     have qf2 := box_free E4.old 2
     have qf3 := box_free E4.old 3
     have qf4 := box_free E4.old 4
     have qf5 := box_free E4.old 5
     have qf6 := box_free E4.old 6
     have qf7 := box_free E4.old 7
     have r0 := box_at2 (v := .slice none 0 0) E4 0 rfl
     have r1 := box_at2 (v := .slice none 0 0) E4 1 rfl
     have r2 := box_at2 (v := .int .i64 0) E4 2 rfl
     have r3 := box_at2 (v := .slice none 0 0) E4 3 rfl
     have r4 := box_at2 (v := .int .i64 0) E4 4 rfl
     have r5 := box_at2 (v := .int .i64 0) E4 5 rfl
     have r6 := box_at2 (v := .int .i64 0) E4 6 rfl
     have r7 := box_at2 (v := .int .i64 0) E4 7 rfl
     have rf0 := box_free2 E4 0
     have rf1 := box_free2 E4 1
     have rf2 := box_free2 E4 2
     have rf3 := box_free2 E4 3
     have rf4 := box_free2 E4 4
     have rf5 := box_free2 E4 5
     have rf6 := box_free2 E4 6
     have rf7 := box_free2 E4 7
     have hn10x : ¬ g = w.heap.size := by omega
     have hn11x : ¬ g = w.heap.size + 1 := by omega
     have hn12x : ¬ g = w1.heap.size := by omega
     have hn13x : ¬ w.heap.size = g := by omega
     have hn14x : ¬ w.heap.size + 1 = g := by omega
     have hn15x : ¬ w1.heap.size = g := by omega
     have hb0 := HV.out.done
     have hb1 := HV.out.time
     have hz3 : w.heap.size < wd.heap.size := by omega
     have hz4 : w.heap.size + 1 < wd.heap.size := by omega
     have hz5 : w1.heap.size < wd.heap.size := by omega
     have E5 : Ext w (wd.setCell ⟨w.heap.size, 0, none⟩ (.slice (some ⟨g, 0, none⟩) 128 c')) := ext_set E4.old.old (Nat.le_refl _)
     have hWz : (wd.setCell ⟨w.heap.size, 0, none⟩ (.slice (some ⟨g, 0, none⟩) 128 c')).heap.size = wd.heap.size := by simp [World.setCell]
     have HWz := Lib.hid hWz
     clear hWz
     have hS0 : IntsAt (wd.setCell ⟨w.heap.size, 0, none⟩ (.slice (some ⟨g, 0, none⟩) 128 c')) (some ⟨g, 0, none⟩) s.store := ints_set (own_ints hown) (fun b off e => by cases e; simp; omega)
     go_wp2_with (at_builtin; refine wpList_app (w0 := (wd.setCell ⟨w.heap.size, 0, none⟩ (.slice (some ⟨g, 0, none⟩) 128 c'))) rfl _ _ 22 rfl 3 i0 (.int .i64 0) 1 8 Tryz.underlying22 hi ha0 ha1 ha2 rfl (by decide) _ 0 wd.heap.size [] rfl (own_empty2 HWz.out (Ext.refl _)) ((Ext.refl _).alloc _) (by rw [HWz.out]; exact Nat.le_refl _) (by simp) a3 s.printed.length k3 (iv s.printed) rfl ?d1 ?d2 (iv_one _) (by unfold maxLen; omega) (by omega) ?_)
     case d1 => rw [iv_length, Nat.mul_one]
     case d2 => exact from_ints (i3.ext (E5.alloc _))
     intro b1 d1 wf hown1 hE1 _
     have hwf : wd.heap.size ≤ wf.heap.size := by have := hE1.size; rw [HWz.out] at this; exact this
     go_wp2_with (at_builtin; refine wpList_app (w0 := (wd.setCell ⟨w.heap.size, 0, none⟩ (.slice (some ⟨g, 0, none⟩) 128 c'))) rfl _ _ 22 rfl 3 i0 (.int .i64 0) 1 8 Tryz.underlying22 hi ha0 ha1 ha2 rfl (by decide) _ s.printed.length wd.heap.size (iv s.printed) rfl ?e0 (hE1.alloc _) (by rw [HWz.out]; exact Nat.le_refl _) (by simp; omega) _ 1 1 (iv [X]) rfl ?e1 ?e2 (iv_one _) (by unfold maxLen; omega) (by omega) ?_)
     case e0 => exact hown1.alloc _
     case e1 => rfl
     case e2 => exact from_ints (IntsAt.one (by simp) (by simp))
     intro b2 d2 wg hown2 hE2 _
     rw [iv_app] at hown2
     obtain ⟨g2, rfl⟩ := own_some hown2 (by omega)
     obtain ⟨hg2, hg3⟩ := own_size hown2
     have kc : ∀ b i, b < wd.heap.size → wg.cell? ⟨b, i, none⟩ = (wd.setCell ⟨w.heap.size, 0, none⟩ (.slice (some ⟨g, 0, none⟩) 128 c')).cell? ⟨b, i, none⟩ := fun b i hb => hE2.cell (p := ⟨b, i, none⟩) (by rw [HWz.out]; exact hb)
     have kf : ∀ b i, b < wd.heap.size → wg.frozen? ⟨b, i, none⟩ = (wd.setCell ⟨w.heap.size, 0, none⟩ (.slice (some ⟨g, 0, none⟩) 128 c')).frozen? ⟨b, i, none⟩ := fun b i hb => hE2.frozen (p := ⟨b, i, none⟩) (by rw [HWz.out]; exact hb)
     have hS := hS0.ext hE2
     have hP := own_ints hown2
     have E6 := E5.comp hE2
     have hg4 : ¬ g2 = w.heap.size := by omega
     have hg5 : ¬ g2 = w.heap.size + 1 := by omega
     clear hown1 hE1 hS0 hE2 hown2 E5
     go_wp2_with fail
     refine bodyPost_ret (v := sv (some ⟨g, 0, none⟩) a2 (some ⟨g2, 0, none⟩) 128 c' s.tape.length k2 (s.printed.length + 1) d2 tk un atv (s.done + 1) s.why) (by simp [results, Tryz.results47, go_sem, kc, kf, hz3, hz4, r0, r1, r2, r3, r4, r5, r6, r7]) rfl ?_
     rw [Hs.out]
     exact ⟨_, rfl, ⟨_, _, _, c', k2, d2, by rw [show (s.printed ++ [X]).length = s.printed.length + 1 from by simp, HL.out, Htk.out], (by repeat (first | with_reducible exact hS | with_reducible refine ints_drew ?_ | ((with_reducible refine ints_set ?_ ?_); rotate_left 1; · (intro b off e; cases e; simp; omega)))), i2.ext (by repeat (first | with_reducible exact E6 | with_reducible refine Below.drew ?_ | ((with_reducible refine ext_set ?_ ?_); rotate_left 1; · (simp; try omega)))), (by repeat (first | with_reducible exact hP | with_reducible refine ints_drew ?_ | ((with_reducible refine ints_set ?_ ?_); rotate_left 1; · (intro b off e; cases e; simp; omega))))⟩, (by repeat (first | with_reducible exact E6 | with_reducible refine Below.drew ?_ | ((with_reducible refine ext_set ?_ ?_); rotate_left 1; · (simp; try omega)))), fun m1 hm1 hA => avSt_sv.2 ⟨av_new (by omega), (avSt_sv.1 hA).2.1, av_new (by omega)⟩⟩
end Go.Proofs.YtnhpcoagkmgdoaaGreat

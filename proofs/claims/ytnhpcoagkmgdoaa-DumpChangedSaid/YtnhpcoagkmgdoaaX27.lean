import Derived.Test.YtnhpcoagkmgdoaaX25
import Derived.Test.YtnhpcoagkmgdoaaX26
import Derived.Test.YtnhpcoagkmgdoaaX23
import Derived.Test.YtnhpcoagkmgdoaaX22
import Derived.Test.YtnhpcoagkmgdoaaX7
set_option linter.unusedVariables false
set_option linter.unusedSimpArgs false
/- Layer 10: orders, each looked at: run; Guard, Blind. -/
namespace Go.Proofs.Ytnhpcoagkmgdoaa
open Go.RowKit Go.Q Go.Shelf Go.Maps
set_option maxHeartbeats 4000000
set_option maxRecDepth 100000
theorem notice_bd {x : Lm} (hv : Valid x.s) : noticeQ x = -1 ∨ ∃ q : Nat, noticeQ x = (q : Int) := by
 have hw := wordAt_bd hv x.s.at_
 have ho := ordB_decode hw.1 hw.2
 unfold noticeQ
 cases h : (readsQ x.s).find? (badAt x.bad) with
 | none => exact .inl rfl
 | some a =>
  have hm := List.mem_of_find?_eq_some h
  have h0 : 0 ≤ a := by
   have hat := hv.at_.1
   change ordB (ordAt x.s) = true at ho
   simp only [ordB, addrB, inB, Bool.and_eq_true, decide_eq_true_eq] at ho
   unfold readsQ at hm
   rw [List.mem_cons, List.mem_append] at hm
   rcases hm with rfl | hm | hm
   ·exact hat
   ·split at hm
    ·rw [List.mem_singleton] at hm; omega
    ·simp at hm
   ·split at hm
    ·rw [List.mem_singleton] at hm; omega
    ·simp at hm
  exact .inr ⟨a.toNat, by show a = _; omega⟩
theorem lstep_shut (m mb : Nat) (L : List Loss) (x : Lm) (W : World) {ex : Nat → Prop} (hex : ∀ q, ex q → q < W.heap.size) (h : LinAt W m mb L x ex) (hv : Valid x.s) :
  Calls Try.prog 74 #[.pointer (some ⟨m, 0, none⟩), .iface 132 (.agg #[])] W (StepP m mb L (doL x) (-1) W ex) :=
 lstep_shut0 m mb L x (doL x) (-1) W hex h hv (Lib.hid fun _ => ⟨rfl, rfl⟩)
theorem lstep_sharp (m mb : Nat) (L : List Loss) (x : Lm) (W : World) {ex : Nat → Prop} (hex : ∀ q, ex q → q < W.heap.size) (h : LinAt W m mb L x ex) (hv : Valid x.s) :
  Calls Try.prog 74 #[.pointer (some ⟨m, 0, none⟩), .iface 111 (.agg #[])] W (StepP m mb L (if 0 ≤ noticeQ x then x else doL x) (noticeQ x) W ex) :=
 lstep_sharp0 m mb L x _ (noticeQ x) W hex h hv (Lib.hid fun q hq => ⟨hq, by rw [if_pos (by omega)]⟩) (Lib.hid fun hq => ⟨hq, by rw [if_neg (by omega)]⟩)
/-- a line that is as it should be -/
structure Fit (x : Lm) : Prop where
 v : Valid x.s
 b : x.bad.length = 128
theorem Fit.hap {L : List Loss} {x : Lm} (h : Fit x) (hL : ∀ y ∈ L, lossOk y = true) : Fit (hapQ L x) := ⟨hap_valid h.v hL, by show ((dueQ L x).foldl lossB x.bad).length = 128; rw [lossesB_length]; exact h.b⟩
theorem Fit.do_ {x : Lm} (h : Fit x) : Fit (doL x) := ⟨runQ_valid 1 h.v, by show (if _ then _ else _ : List Bool).length = 128; split <;> simp [h.b]⟩
theorem Fit.begin {s : St} (h : Valid s) : Fit (beginL s) := ⟨h, by simp [beginL]⟩
def RunP (m mb : Nat) (L : List Loss) (G : Lm × Int) (w : World) (e : Ending) (w' : World) : Prop := e = .returned (.int .i64 G.2) ∧ LinAt w' m mb L G.1 ∧ KpM (LM m mb) w w'
theorem run_sharp (m mb : Nat) (L : List Loss) (x : Lm) (n : Nat) (G : Lm × Int) (W : World) (h : LinAt W m mb L x) (hx : Fit x) (hL : ∀ y ∈ L, lossOk y = true) (hl : L.length ≤ 40) (hn : n ≤ 5000) (hG : guardN L n x = G) :
  Calls Try.prog 65 #[.pointer (some ⟨m, 0, none⟩), .iface 111 (.agg #[]), .int .i64 (n : Int)] W (RunP m mb L G W) := by
 have HG := Lib.hid hG
 have HLo := Lib.hid hL
 have hx2 := Lib.hid hx
 clear hG hL hx
 go_enter Try.func65, Try.ntmps65
 go_wp2
 go_loopw [8] (fun s8 X => ∃ (k : Nat) (z : Lm), k ≤ n ∧ s8 = .int .i64 (k : Int) ∧ LinAt X m mb L z ∧ Hid (Fit z) ∧ Hid (guardN L (n - k) z = G) ∧ KpM (LM m mb) W X) (fun s8 _ => n - (Go.RowKit.intOf s8).toNat)
 case atStart => exact ⟨0, x, Nat.zero_le _, rfl, h, hx2, HG, KpM.refl _ _⟩
 case round =>
  clear h hx2 HG
  obtain ⟨k, z, hk, rfl, hz, HF, HG, hK⟩ := hrel
  obtain ⟨X, rfl⟩ : ∃ X : World, X = wr := ⟨_, rfl⟩
  obtain ⟨a1, a2, a3, c1, c2, c3, hB, i1, i2, i3, hM⟩ := hz
  have hzz : Hid (LinAt X m mb L z) := Lib.hid ⟨a1, a2, a3, c1, c2, c3, hB, i1, i2, i3, hM⟩
  have c7 := hB.c7
  clear i1 i2 i3 hM hB
  by_cases hlt : k < n
  ·have hltz : (k : Int) < (n : Int) := by omega
   by_cases hw : z.s.why = 0
   ·rw [hw] at c7
    have hh := happen_any m mb L z X (fun _ h => h.elim) hzz.out HLo.out hl HF.out.v
    have HF2 := Lib.hid (HF.out.hap HLo.out)
    go_wp2_with fail
    refine hh.mono ?_
    rintro e w1 ⟨rfl, hz1, K1⟩
    have hs := lstep_sharp m mb L (hapQ L z) w1 (fun _ h => h.elim) hz1 HF2.out.v
    have hb := notice_bd HF2.out.v
    have hG2 := HG.out
    rw [show n - k = (n - (k + 1)) + 1 by omega, guardN, if_neg (by rw [hw]; decide)] at hG2
    rcases hb with hb | ⟨q, hb⟩
    ·rw [hb, if_neg (by decide)] at hs hG2
     have HG3 := Lib.hid hG2
     clear hb hG2 c7
     go_wp2_with fail
     refine hs.mono ?_
     rintro e w2 ⟨rfl, hz2, K2⟩
     go_wp2
     go_roundw
     case rel => exact ⟨k + 1, doL (hapQ L z), by omega, by go_num, hz2, Lib.hid HF2.out.do_, HG3, (hK.trans K1).trans K2⟩
     case measure => simp [Go.RowKit.intOf]; omega
    ·rw [hb, if_pos (by omega)] at hs hG2
     have HG3 := Lib.hid hG2
     have hq0 : ¬ (q : Int) < 0 := by omega
     have hqq : (0 : Int) ≤ (q : Int) := by omega
     clear hb hG2 c7
     go_wp2_with fail
     refine hs.mono ?_
     rintro e w2 ⟨rfl, hz2, K2⟩
     go_wp2
     refine bodyPost_ret (v := .int .i64 (q : Int)) (by simp [results, Try.results65, go_sem]) rfl ?_
     rw [← HG3.out]
     exact ⟨rfl, hz2, (hK.trans K1).trans K2⟩
   ·have hwz : (z.s.why == 0) = false := by simpa using hw
    have hG2 := HG.out
    rw [show n - k = (n - (k + 1)) + 1 by omega, guardN, if_pos hw] at hG2
    have HG3 := Lib.hid hG2
    clear hG2
    go_wp2
    refine bodyPost_ret (v := .int .i64 (-1)) (by simp [results, Try.results65, go_sem]) rfl ?_
    rw [← HG3.out]
    exact ⟨rfl, hzz.out, hK⟩
  ·have hltz : ¬ (k : Int) < (n : Int) := by omega
   have hG2 := HG.out
   rw [show n - k = 0 by omega, guardN] at hG2
   have HG3 := Lib.hid hG2
   clear hG2
   go_wp2
   refine bodyPost_ret (v := .int .i64 (-1)) (by simp [results, Try.results65, go_sem]) rfl ?_
   rw [← HG3.out]
   exact ⟨rfl, hzz.out, hK⟩
end Go.Proofs.Ytnhpcoagkmgdoaa
/- Layer 10: orders without any look: run. -/
namespace Go.Proofs.Ytnhpcoagkmgdoaa
open Go.RowKit Go.Q Go.Shelf Go.Maps
set_option maxHeartbeats 4000000
set_option maxRecDepth 100000
theorem run_shut (m mb : Nat) (L : List Loss) (x : Lm) (n : Nat) (G : Lm) (W : World) (h : LinAt W m mb L x) (hx : Fit x) (hL : ∀ y ∈ L, lossOk y = true) (hl : L.length ≤ 40) (hn : n ≤ 5000) (hG : blindN L n x = G) :
  Calls Try.prog 65 #[.pointer (some ⟨m, 0, none⟩), .iface 132 (.agg #[]), .int .i64 (n : Int)] W (RunP m mb L (G, -1) W) := by
 have HG := Lib.hid hG
 have HLo := Lib.hid hL
 have hx2 := Lib.hid hx
 clear hG hL hx
 go_enter Try.func65, Try.ntmps65
 go_wp2
 go_loopw [8] (fun s8 X => ∃ (k : Nat) (z : Lm), k ≤ n ∧ s8 = .int .i64 (k : Int) ∧ LinAt X m mb L z ∧ Hid (Fit z) ∧ Hid (blindN L (n - k) z = G) ∧ KpM (LM m mb) W X) (fun s8 _ => n - (Go.RowKit.intOf s8).toNat)
 case atStart => exact ⟨0, x, Nat.zero_le _, rfl, h, hx2, HG, KpM.refl _ _⟩
 case round =>
  clear h hx2 HG
  obtain ⟨k, z, hk, rfl, hz, HF, HG, hK⟩ := hrel
  obtain ⟨X, rfl⟩ : ∃ X : World, X = wr := ⟨_, rfl⟩
  obtain ⟨a1, a2, a3, c1, c2, c3, hB, i1, i2, i3, hM⟩ := hz
  have hzz : Hid (LinAt X m mb L z) := Lib.hid ⟨a1, a2, a3, c1, c2, c3, hB, i1, i2, i3, hM⟩
  have c7 := hB.c7
  clear i1 i2 i3 hM hB
  by_cases hlt : k < n
  ·have hltz : (k : Int) < (n : Int) := by omega
   by_cases hw : z.s.why = 0
   ·rw [hw] at c7
    have hh := happen_any m mb L z X (fun _ h => h.elim) hzz.out HLo.out hl HF.out.v
    have HF2 := Lib.hid (HF.out.hap HLo.out)
    go_wp2_with fail
    refine hh.mono ?_
    rintro e w1 ⟨rfl, hz1, K1⟩
    have hs := lstep_shut m mb L (hapQ L z) w1 (fun _ h => h.elim) hz1 HF2.out.v
    have hG2 := HG.out
    rw [show n - k = (n - (k + 1)) + 1 by omega, blindN, if_neg (by rw [hw]; decide)] at hG2
    have HG3 := Lib.hid hG2
    clear hG2 c7
    go_wp2_with fail
    refine hs.mono ?_
    rintro e w2 ⟨rfl, hz2, K2⟩
    go_wp2
    go_roundw
    case rel => exact ⟨k + 1, doL (hapQ L z), by omega, by go_num, hz2, Lib.hid HF2.out.do_, HG3, (hK.trans K1).trans K2⟩
    case measure => simp [Go.RowKit.intOf]; omega
   ·have hwz : (z.s.why == 0) = false := by simpa using hw
    have hG2 := HG.out
    rw [show n - k = (n - (k + 1)) + 1 by omega, blindN, if_pos hw] at hG2
    have HG3 := Lib.hid hG2
    clear hG2
    go_wp2
    refine bodyPost_ret (v := .int .i64 (-1)) (by simp [results, Try.results65, go_sem]) rfl ?_
    rw [← HG3.out]
    exact ⟨rfl, hzz.out, hK⟩
  ·have hltz : ¬ (k : Int) < (n : Int) := by omega
   have hG2 := HG.out
   rw [show n - k = 0 by omega, blindN] at hG2
   have HG3 := Lib.hid hG2
   clear hG2
   go_wp2
   refine bodyPost_ret (v := .int .i64 (-1)) (by simp [results, Try.results65, go_sem]) rfl ?_
   rw [← HG3.out]
   exact ⟨rfl, hzz.out, hK⟩
/-- what Guard hands back -/
def GdRes (p : St × Int × Int) (w : World) (e : Ending) (w' : World) : Prop := ∃ v, e = .returned (.tuple #[v, .int .i64 p.2.1, .int .i64 p.2.2]) ∧ StAt w' v p.1 ∧ Ext w w'
theorem guard_valid {s : St} {L : List Loss} {most : Int} (h : guardX s L most = 0) : Valid s ∧ (∀ y ∈ L, lossOk y = true) ∧ L.length ≤ 40 ∧ ∃ n : Nat, most = (n : Int) ∧ n ≤ 5000 := by
 unfold guardX at h
 split at h
 ·rename_i h1; exact absurd h h1
 ·rename_i h1
  split at h
  ·rename_i h2; exact absurd h h2
  ·rename_i h2
   split at h
   ·rename_i h3
    have hb := inB_bd h3
    obtain ⟨hl, hk⟩ := losses_ok (by simpa using h2)
    exact ⟨valid_of_check (by simpa using h1), hk, hl, most.toNat, by omega, by omega⟩
   ·omega
end Go.Proofs.Ytnhpcoagkmgdoaa
/- Layer 10: Guard, Blind, Until. -/
namespace Go.Proofs.Ytnhpcoagkmgdoaa
open Go.RowKit Go.Q Go.Shelf Go.Maps
set_option maxHeartbeats 4000000
set_option maxRecDepth 100000
theorem guard_fit {L : List Loss} (hL : ∀ y ∈ L, lossOk y = true) : ∀ (n : Nat) (x : Lm), Fit x → Fit (guardN L n x).1
 | 0, x, h => h
 | n + 1, x, h => by
  rw [guardN]
  split
  ·exact h
  ·split
   ·exact h.hap hL
   ·exact guard_fit hL n _ (h.hap hL).do_
theorem blind_fit {L : List Loss} (hL : ∀ y ∈ L, lossOk y = true) : ∀ (n : Nat) (x : Lm), Fit x → Fit (blindN L n x)
 | 0, x, h => h
 | n + 1, x, h => by
  rw [blindN]
  split
  ·exact h
  ·exact blind_fit hL n _ (h.hap hL).do_
theorem zst_at (w : World) : StAt w (.agg #[.slice none 0 0, .slice none 0 0, .int .i64 0, .slice none 0 0, .int .i64 0, .int .i64 0, .int .i64 0, .int .i64 0]) zst := ⟨none, none, none, 0, 0, 0, rfl, .inl rfl, .inl rfl, .inl rfl⟩
theorem stT_set {V : World} {R : Nat} {v : Value} {z : St} (h : StAtT V v z) (hR : ∃ cs, V.heap[R]? = some (.cells cs 33 (0, 0))) {n0 n1 n2 n3 n4 n5 n6 n7 : Value} : StAt (S8 V R n0 n1 n2 n3 n4 n5 n6 n7) v z := by
 obtain ⟨a1, a2, a3, c1, c2, c3, rfl, i1, i2, i3⟩ := h
 have KR := s8_kp (M := fun q => q = R) (w := V) (b := R) (n0 := n0) (n1 := n1) (n2 := n2) (n3 := n3) (n4 := n4) (n5 := n5) (n6 := n6) (n7 := n7) rfl
 have hn : ∀ b cs fr, V.heap[b]? = some (.cells cs 3 fr) → ¬ b = R := fun b cs fr hb e => by
  obtain ⟨cs2, h2⟩ := hR
  rw [e, h2] at hb
  cases hb
 exact ⟨a1, a2, a3, c1, c2, c3, rfl, (i1.kp KR hn).at_, (i2.kp KR hn).at_, (i3.kp KR hn).at_⟩
theorem guard_any (v : Value) (s : St) (L : List Loss) (la : Option Addr) (ln lc : Nat) (most : Int) (w : World) (h : StAt w v s) (hb : StBd s) (hl : L.length = ln) (hI : LossAt w la L) (hLi : ∀ y ∈ L, -9223372036854775808 ≤ y.after ∧ y.after ≤ 9223372036854775807) :
  Calls Try.prog 27 #[v, .slice la ln lc, .int .i64 most] w (GdRes (guardE s L most) w) := by
 obtain ⟨a1, a2, a3, c1, c2, c3, rfl, i1, i2, i3⟩ := h
 have hs : StAt w (sv a1 a2 a3 s.store.length c1 s.tape.length c2 s.printed.length c3 s.taken s.time s.at_ s.done s.why) s := ⟨a1, a2, a3, c1, c2, c3, rfl, i1, i2, i3⟩
 have ho := fun W (E : Ext w W) => open_any _ s L la ln lc most W (hs.ext E) hb hl (hI.ext E) hLi
 clear hs hb hl hI hLi i1 i2 i3
 have E0 : Ext w ((w.alloc (.cells #[.slice a1 s.store.length c1, .slice a2 s.tape.length c2, .int .i64 s.taken, .slice a3 s.printed.length c3, .int .i64 s.time, .int .i64 s.at_, .int .i64 s.done, .int .i64 s.why] 33)).alloc (.cells #[.slice none 0 0, .slice none 0 0, .int .i64 0, .slice none 0 0, .int .i64 0, .int .i64 0, .int .i64 0, .int .i64 0] 33)) := ((Ext.refl w).alloc _).alloc _
 have hR : ((w.alloc (.cells #[.slice a1 s.store.length c1, .slice a2 s.tape.length c2, .int .i64 s.taken, .slice a3 s.printed.length c3, .int .i64 s.time, .int .i64 s.at_, .int .i64 s.done, .int .i64 s.why] 33)).alloc (.cells #[.slice none 0 0, .slice none 0 0, .int .i64 0, .slice none 0 0, .int .i64 0, .int .i64 0, .int .i64 0, .int .i64 0] 33)).heap[w.heap.size + 1]? = some (.cells #[.slice none 0 0, .slice none 0 0, .int .i64 0, .slice none 0 0, .int .i64 0, .int .i64 0, .int .i64 0, .int .i64 0] 33 (0, 0)) := by
  have e := heap_alloc_new (w.alloc (.cells #[.slice a1 s.store.length c1, .slice a2 s.tape.length c2, .int .i64 s.taken, .slice a3 s.printed.length c3, .int .i64 s.time, .int .i64 s.at_, .int .i64 s.done, .int .i64 s.why] 33)) (.cells #[.slice none 0 0, .slice none 0 0, .int .i64 0, .slice none 0 0, .int .i64 0, .int .i64 0, .int .i64 0, .int .i64 0] 33)
  rw [World.size_alloc] at e
  exact e
 have hE : guardX s L most = guardX s L most := rfl
 obtain ⟨er, her⟩ : ∃ er, guardX s L most = er := ⟨_, rfl⟩
 have HER := Lib.hid her
 clear hE her
 go_enter Try.func27, Try.ntmps27
 go_wp2_with fail
 refine (ho _ E0).mono ?_
 rintro e w1 (⟨hx, m, mb, rfl, hm, hmb, hL, E1⟩ | ⟨hx, rfl, E1⟩)
 ·clear ho
  obtain ⟨hv, hLo, hl40, n, rfl, hn⟩ := guard_valid hx
  have hF := Fit.begin hv
  obtain ⟨G, hG⟩ : ∃ G, guardN L n (beginL s) = G := ⟨_, rfl⟩
  have hGF : Fit G.1 := by rw [← hG]; exact guard_fit hLo n _ hF
  have hr := run_sharp m mb L (beginL s) n G w1 hL hF hLo hl40 hn hG
  have hsz : w.heap.size + 2 ≤ m ∧ w.heap.size + 2 ≤ mb := by simp at hm hmb; omega
  have HV : Hid (guardE s L (n : Int) = (G.1.s, G.2, 0)) := Lib.hid (by unfold guardE; rw [if_pos hx, Int.toNat_natCast, hG])
  clear hx hL hF hLo hG hm hmb hv
  have HK := Lib.hid hGF
  clear hGF
  go_wp2_with fail
  refine hr.mono ?_
  rintro e w2 ⟨rfl, hz, K2⟩
  have hst := state_any m mb L G.1 w2 hz HK.out.v
  clear hr hz
  go_wp2_with fail
  refine hst.mono ?_
  rintro e w3 ⟨v3, rfl, hT, E3⟩
  clear hst
  have EW : Ext w w3 := ((E0.comp E1).below5 K2 (by rintro b (h | h) <;> omega)).comp E3
  have hR3 : w3.heap[w.heap.size + 1]? = some (.cells #[.slice none 0 0, .slice none 0 0, .int .i64 0, .slice none 0 0, .int .i64 0, .int .i64 0, .int .i64 0, .int .i64 0] 33 (0, 0)) := by
   have h1 := (E1.block _ (lt_of_block hR)).trans hR
   have h2 := (K2.block _ (lt_of_block h1) (by rintro (h | h) <;> omega)).trans h1
   exact (E3.block _ (lt_of_block h2)).trans h2
  have HT := Lib.hid hT
  obtain ⟨p1, p2, p3, d1, d2, d3, rfl, _, _, _⟩ := hT
  obtain ⟨z, hz⟩ : ∃ z, G.1.s = z := ⟨_, rfl⟩
  rw [hz] at HT ⊢
  have HZ := Lib.hid hz
  clear hz
  have q0 := blk_cell hR3 0 (v := .slice none 0 0) rfl
  have q1 := blk_cell hR3 1 (v := .slice none 0 0) rfl
  have q2 := blk_cell hR3 2 (v := .int .i64 0) rfl
  have q3 := blk_cell hR3 3 (v := .slice none 0 0) rfl
  have q4 := blk_cell hR3 4 (v := .int .i64 0) rfl
  have q5 := blk_cell hR3 5 (v := .int .i64 0) rfl
  have q6 := blk_cell hR3 6 (v := .int .i64 0) rfl
  have q7 := blk_cell hR3 7 (v := .int .i64 0) rfl
  have f0 := blk_free hR3 0
  have f1 := blk_free hR3 1
  have f2 := blk_free hR3 2
  have f3 := blk_free hR3 3
  have f4 := blk_free hR3 4
  have f5 := blk_free hR3 5
  have f6 := blk_free hR3 6
  have f7 := blk_free hR3 7
  go_wp2
  refine bodyPost_ret (v := .tuple #[(.agg #[.slice p1 z.store.length d1, .slice p2 z.tape.length d2, .int .i64 z.taken, .slice p3 z.printed.length d3, .int .i64 z.time, .int .i64 z.at_, .int .i64 z.done, .int .i64 z.why]), .int .i64 G.2, .int .i64 0]) (by simp [results, Try.results27, go_sem, q0, q1, q2, q3, q4, q5, q6, q7]) rfl ?_
  have hfin := stT_set HT.out ⟨_, hR3⟩ (n0 := .slice p1 z.store.length d1) (n1 := .slice p2 z.tape.length d2) (n2 := .int .i64 z.taken) (n3 := .slice p3 z.printed.length d3) (n4 := .int .i64 z.time) (n5 := .int .i64 z.at_) (n6 := .int .i64 z.done) (n7 := .int .i64 z.why)
  have KR := s8_kp (M := fun q => q = w.heap.size + 1) (w := w3) (b := w.heap.size + 1) (n0 := .slice p1 z.store.length d1) (n1 := .slice p2 z.tape.length d2) (n2 := .int .i64 z.taken) (n3 := .slice p3 z.printed.length d3) (n4 := .int .i64 z.time) (n5 := .int .i64 z.at_) (n6 := .int .i64 z.done) (n7 := .int .i64 z.why) rfl
  rw [HV.out]
  refine ⟨_, rfl, ?_, EW.below5 KR (fun b hb => by omega)⟩
  simp only [HZ.out]
  exact hfin
 ·clear ho
  have HV : Hid (guardE s L most = (zst, 0, er)) := Lib.hid (by unfold guardE; rw [if_neg hx, HER.out])
  rw [HER.out] at hx
  have hne : (er != 0) = true := by simpa using hx
  rw [HER.out]
  have hR1 := (E1.block _ (lt_of_block hR)).trans hR
  have q0 := blk_cell hR1 0 (v := .slice none 0 0) rfl
  have q1 := blk_cell hR1 1 (v := .slice none 0 0) rfl
  have q2 := blk_cell hR1 2 (v := .int .i64 0) rfl
  have q3 := blk_cell hR1 3 (v := .slice none 0 0) rfl
  have q4 := blk_cell hR1 4 (v := .int .i64 0) rfl
  have q5 := blk_cell hR1 5 (v := .int .i64 0) rfl
  have q6 := blk_cell hR1 6 (v := .int .i64 0) rfl
  have q7 := blk_cell hR1 7 (v := .int .i64 0) rfl
  have f0 := blk_free hR1 0
  have f1 := blk_free hR1 1
  have f2 := blk_free hR1 2
  have f3 := blk_free hR1 3
  have f4 := blk_free hR1 4
  have f5 := blk_free hR1 5
  have f6 := blk_free hR1 6
  have f7 := blk_free hR1 7
  go_wp2
  refine bodyPost_ret (v := .tuple #[(.agg #[.slice none 0 0, .slice none 0 0, .int .i64 0, .slice none 0 0, .int .i64 0, .int .i64 0, .int .i64 0, .int .i64 0]), .int .i64 0, .int .i64 er]) (by simp [results, Try.results27, go_sem, q0, q1, q2, q3, q4, q5, q6, q7]) rfl ?_
  have KR := s8_kp (M := fun q => q = w.heap.size + 1) (w := w1) (b := w.heap.size + 1) (n0 := .slice none 0 0) (n1 := .slice none 0 0) (n2 := .int .i64 0) (n3 := .slice none 0 0) (n4 := .int .i64 0) (n5 := .int .i64 0) (n6 := .int .i64 0) (n7 := .int .i64 0) rfl
  rw [HV.out]
  exact ⟨_, rfl, zst_at _, (E0.comp E1).below5 KR (fun b hb => by omega)⟩
theorem blind_any (v : Value) (s : St) (L : List Loss) (la : Option Addr) (ln lc : Nat) (most : Int) (w : World) (h : StAt w v s) (hb : StBd s) (hl : L.length = ln) (hI : LossAt w la L) (hLi : ∀ y ∈ L, -9223372036854775808 ≤ y.after ∧ y.after ≤ 9223372036854775807) :
  Calls Try.prog 35 #[v, .slice la ln lc, .int .i64 most] w (StRes (blindE s L most) w) := by
 obtain ⟨a1, a2, a3, c1, c2, c3, rfl, i1, i2, i3⟩ := h
 have hs : StAt w (sv a1 a2 a3 s.store.length c1 s.tape.length c2 s.printed.length c3 s.taken s.time s.at_ s.done s.why) s := ⟨a1, a2, a3, c1, c2, c3, rfl, i1, i2, i3⟩
 have ho := fun W (E : Ext w W) => open_any _ s L la ln lc most W (hs.ext E) hb hl (hI.ext E) hLi
 clear hs hb hl hI hLi i1 i2 i3
 have E0 : Ext w ((w.alloc (.cells #[.slice a1 s.store.length c1, .slice a2 s.tape.length c2, .int .i64 s.taken, .slice a3 s.printed.length c3, .int .i64 s.time, .int .i64 s.at_, .int .i64 s.done, .int .i64 s.why] 33)).alloc (.cells #[.slice none 0 0, .slice none 0 0, .int .i64 0, .slice none 0 0, .int .i64 0, .int .i64 0, .int .i64 0, .int .i64 0] 33)) := ((Ext.refl w).alloc _).alloc _
 have hR : ((w.alloc (.cells #[.slice a1 s.store.length c1, .slice a2 s.tape.length c2, .int .i64 s.taken, .slice a3 s.printed.length c3, .int .i64 s.time, .int .i64 s.at_, .int .i64 s.done, .int .i64 s.why] 33)).alloc (.cells #[.slice none 0 0, .slice none 0 0, .int .i64 0, .slice none 0 0, .int .i64 0, .int .i64 0, .int .i64 0, .int .i64 0] 33)).heap[w.heap.size + 1]? = some (.cells #[.slice none 0 0, .slice none 0 0, .int .i64 0, .slice none 0 0, .int .i64 0, .int .i64 0, .int .i64 0, .int .i64 0] 33 (0, 0)) := by
  have e := heap_alloc_new (w.alloc (.cells #[.slice a1 s.store.length c1, .slice a2 s.tape.length c2, .int .i64 s.taken, .slice a3 s.printed.length c3, .int .i64 s.time, .int .i64 s.at_, .int .i64 s.done, .int .i64 s.why] 33)) (.cells #[.slice none 0 0, .slice none 0 0, .int .i64 0, .slice none 0 0, .int .i64 0, .int .i64 0, .int .i64 0, .int .i64 0] 33)
  rw [World.size_alloc] at e
  exact e
 have hE : guardX s L most = guardX s L most := rfl
 obtain ⟨er, her⟩ : ∃ er, guardX s L most = er := ⟨_, rfl⟩
 have HER := Lib.hid her
 clear hE her
 go_enter Try.func35, Try.ntmps35
 go_wp2_with fail
 refine (ho _ E0).mono ?_
 rintro e w1 (⟨hx, m, mb, rfl, hm, hmb, hL, E1⟩ | ⟨hx, rfl, E1⟩)
 ·clear ho
  obtain ⟨hv, hLo, hl40, n, rfl, hn⟩ := guard_valid hx
  have hF := Fit.begin hv
  obtain ⟨G, hG⟩ : ∃ G, blindN L n (beginL s) = G := ⟨_, rfl⟩
  have hGF : Fit G := by rw [← hG]; exact blind_fit hLo n _ hF
  have hr := run_shut m mb L (beginL s) n G w1 hL hF hLo hl40 hn hG
  have hsz : w.heap.size + 2 ≤ m ∧ w.heap.size + 2 ≤ mb := by simp at hm hmb; omega
  have HV : Hid (blindE s L (n : Int) = (G.s, 0)) := Lib.hid (by unfold blindE; rw [if_pos hx, Int.toNat_natCast, hG])
  clear hx hL hF hLo hG hm hmb hv
  have HK := Lib.hid hGF
  clear hGF
  go_wp2_with fail
  refine hr.mono ?_
  rintro e w2 ⟨rfl, hz, K2⟩
  have hst := state_any m mb L G w2 hz HK.out.v
  clear hr hz
  go_wp2_with fail
  refine hst.mono ?_
  rintro e w3 ⟨v3, rfl, hT, E3⟩
  clear hst
  have EW : Ext w w3 := ((E0.comp E1).below5 K2 (by rintro b (h | h) <;> omega)).comp E3
  have hR3 : w3.heap[w.heap.size + 1]? = some (.cells #[.slice none 0 0, .slice none 0 0, .int .i64 0, .slice none 0 0, .int .i64 0, .int .i64 0, .int .i64 0, .int .i64 0] 33 (0, 0)) := by
   have h1 := (E1.block _ (lt_of_block hR)).trans hR
   have h2 := (K2.block _ (lt_of_block h1) (by rintro (h | h) <;> omega)).trans h1
   exact (E3.block _ (lt_of_block h2)).trans h2
  have HT := Lib.hid hT
  obtain ⟨p1, p2, p3, d1, d2, d3, rfl, _, _, _⟩ := hT
  obtain ⟨z, hz⟩ : ∃ z, G.s = z := ⟨_, rfl⟩
  rw [hz] at HT ⊢
  have HZ := Lib.hid hz
  clear hz
  have q0 := blk_cell hR3 0 (v := .slice none 0 0) rfl
  have q1 := blk_cell hR3 1 (v := .slice none 0 0) rfl
  have q2 := blk_cell hR3 2 (v := .int .i64 0) rfl
  have q3 := blk_cell hR3 3 (v := .slice none 0 0) rfl
  have q4 := blk_cell hR3 4 (v := .int .i64 0) rfl
  have q5 := blk_cell hR3 5 (v := .int .i64 0) rfl
  have q6 := blk_cell hR3 6 (v := .int .i64 0) rfl
  have q7 := blk_cell hR3 7 (v := .int .i64 0) rfl
  have f0 := blk_free hR3 0
  have f1 := blk_free hR3 1
  have f2 := blk_free hR3 2
  have f3 := blk_free hR3 3
  have f4 := blk_free hR3 4
  have f5 := blk_free hR3 5
  have f6 := blk_free hR3 6
  have f7 := blk_free hR3 7
  go_wp2
  refine bodyPost_ret (v := .tuple #[(.agg #[.slice p1 z.store.length d1, .slice p2 z.tape.length d2, .int .i64 z.taken, .slice p3 z.printed.length d3, .int .i64 z.time, .int .i64 z.at_, .int .i64 z.done, .int .i64 z.why]), .int .i64 0]) (by simp [results, Try.results35, go_sem, q0, q1, q2, q3, q4, q5, q6, q7]) rfl ?_
  have hfin := stT_set HT.out ⟨_, hR3⟩ (n0 := .slice p1 z.store.length d1) (n1 := .slice p2 z.tape.length d2) (n2 := .int .i64 z.taken) (n3 := .slice p3 z.printed.length d3) (n4 := .int .i64 z.time) (n5 := .int .i64 z.at_) (n6 := .int .i64 z.done) (n7 := .int .i64 z.why)
  have KR := s8_kp (M := fun q => q = w.heap.size + 1) (w := w3) (b := w.heap.size + 1) (n0 := .slice p1 z.store.length d1) (n1 := .slice p2 z.tape.length d2) (n2 := .int .i64 z.taken) (n3 := .slice p3 z.printed.length d3) (n4 := .int .i64 z.time) (n5 := .int .i64 z.at_) (n6 := .int .i64 z.done) (n7 := .int .i64 z.why) rfl
  rw [HV.out]
  refine ⟨_, rfl, ?_, EW.below5 KR (fun b hb => by omega)⟩
  simp only [HZ.out]
  exact hfin
 ·clear ho
  have HV : Hid (blindE s L most = (zst, er)) := Lib.hid (by unfold blindE; rw [if_neg hx, HER.out])
  rw [HER.out] at hx
  have hne : (er != 0) = true := by simpa using hx
  rw [HER.out]
  have hR1 := (E1.block _ (lt_of_block hR)).trans hR
  have q0 := blk_cell hR1 0 (v := .slice none 0 0) rfl
  have q1 := blk_cell hR1 1 (v := .slice none 0 0) rfl
  have q2 := blk_cell hR1 2 (v := .int .i64 0) rfl
  have q3 := blk_cell hR1 3 (v := .slice none 0 0) rfl
  have q4 := blk_cell hR1 4 (v := .int .i64 0) rfl
  have q5 := blk_cell hR1 5 (v := .int .i64 0) rfl
  have q6 := blk_cell hR1 6 (v := .int .i64 0) rfl
  have q7 := blk_cell hR1 7 (v := .int .i64 0) rfl
  have f0 := blk_free hR1 0
  have f1 := blk_free hR1 1
  have f2 := blk_free hR1 2
  have f3 := blk_free hR1 3
  have f4 := blk_free hR1 4
  have f5 := blk_free hR1 5
  have f6 := blk_free hR1 6
  have f7 := blk_free hR1 7
  go_wp2
  refine bodyPost_ret (v := .tuple #[(.agg #[.slice none 0 0, .slice none 0 0, .int .i64 0, .slice none 0 0, .int .i64 0, .int .i64 0, .int .i64 0, .int .i64 0]), .int .i64 er]) (by simp [results, Try.results35, go_sem, q0, q1, q2, q3, q4, q5, q6, q7]) rfl ?_
  have KR := s8_kp (M := fun q => q = w.heap.size + 1) (w := w1) (b := w.heap.size + 1) (n0 := .slice none 0 0) (n1 := .slice none 0 0) (n2 := .int .i64 0) (n3 := .slice none 0 0) (n4 := .int .i64 0) (n5 := .int .i64 0) (n6 := .int .i64 0) (n7 := .int .i64 0) rfl
  rw [HV.out]
  exact ⟨_, rfl, zst_at _, (E0.comp E1).below5 KR (fun b hb => by omega)⟩
end Go.Proofs.Ytnhpcoagkmgdoaa
/- Layer 10: Until. -/
namespace Go.Q
def untilE (s : St) (a most : Int) : St × Bool × Int := if guardX s [] most ≠ 0 then (zst, false, guardX s [] most) else if inB a 0 127 = true then ((untilN a most.toNat s).1, (untilN a most.toNat s).2, 0) else (zst, false, 7)
end Go.Q
namespace Go.Proofs.Ytnhpcoagkmgdoaa
open Go.RowKit Go.Q Go.Shelf Go.Maps
set_option maxHeartbeats 4000000
set_option maxRecDepth 100000
def UtRes (p : St × Bool × Int) (w : World) (e : Ending) (w' : World) : Prop := ∃ v, e = .returned (.tuple #[v, .bool p.2.1, .int .i64 p.2.2]) ∧ StAt w' v p.1 ∧ Ext w w'
theorem until_any (v : Value) (s : St) (a most : Int) (w : World) (h : StAt w v s) (hb : StBd s) :
  Calls Try.prog 36 #[v, .int .i64 a, .int .i64 most] w (UtRes (untilE s a most) w) := by
 obtain ⟨a1, a2, a3, c1, c2, c3, rfl, i1, i2, i3⟩ := h
 have hs : StAt w (sv a1 a2 a3 s.store.length c1 s.tape.length c2 s.printed.length c3 s.taken s.time s.at_ s.done s.why) s := ⟨a1, a2, a3, c1, c2, c3, rfl, i1, i2, i3⟩
 have ho := fun W (E : Ext w W) => open_any _ s [] none 0 0 most W (hs.ext E) hb rfl (.inl rfl) (by simp)
 clear hs hb i1 i2 i3
 have E0 : Ext w ((w.alloc (.cells #[.slice a1 s.store.length c1, .slice a2 s.tape.length c2, .int .i64 s.taken, .slice a3 s.printed.length c3, .int .i64 s.time, .int .i64 s.at_, .int .i64 s.done, .int .i64 s.why] 33)).alloc (.cells #[.slice none 0 0, .slice none 0 0, .int .i64 0, .slice none 0 0, .int .i64 0, .int .i64 0, .int .i64 0, .int .i64 0] 33)) := ((Ext.refl w).alloc _).alloc _
 have hR : ((w.alloc (.cells #[.slice a1 s.store.length c1, .slice a2 s.tape.length c2, .int .i64 s.taken, .slice a3 s.printed.length c3, .int .i64 s.time, .int .i64 s.at_, .int .i64 s.done, .int .i64 s.why] 33)).alloc (.cells #[.slice none 0 0, .slice none 0 0, .int .i64 0, .slice none 0 0, .int .i64 0, .int .i64 0, .int .i64 0, .int .i64 0] 33)).heap[w.heap.size + 1]? = some (.cells #[.slice none 0 0, .slice none 0 0, .int .i64 0, .slice none 0 0, .int .i64 0, .int .i64 0, .int .i64 0, .int .i64 0] 33 (0, 0)) := by
  have e := heap_alloc_new (w.alloc (.cells #[.slice a1 s.store.length c1, .slice a2 s.tape.length c2, .int .i64 s.taken, .slice a3 s.printed.length c3, .int .i64 s.time, .int .i64 s.at_, .int .i64 s.done, .int .i64 s.why] 33)) (.cells #[.slice none 0 0, .slice none 0 0, .int .i64 0, .slice none 0 0, .int .i64 0, .int .i64 0, .int .i64 0, .int .i64 0] 33)
  rw [World.size_alloc] at e
  exact e
 obtain ⟨er, her⟩ : ∃ er, guardX s [] most = er := ⟨_, rfl⟩
 have HER := Lib.hid her
 clear her
 go_enter Try.func36, Try.ntmps36
 go_wp2_with fail
 refine (ho _ E0).mono ?_
 rintro e w1 (⟨hx, m, mb, rfl, hm, hmb, hL, E1⟩ | ⟨hx, rfl, E1⟩)
 ·clear ho
  have hsz : w.heap.size + 2 ≤ m ∧ w.heap.size + 2 ≤ mb := by simp at hm hmb; omega
  have HX := Lib.hid hx
  clear hm hmb hx
  cases hA : inB a 0 127 with
  | false =>
   have HVe : Hid (untilE s a most = (zst, false, 7)) := Lib.hid (by unfold untilE; rw [if_neg (by rw [HX.out]; decide), hA]; rfl)
   have hR1 := (E1.block _ (lt_of_block hR)).trans hR
   have q0 := blk_cell hR1 0 (v := .slice none 0 0) rfl
   have q1 := blk_cell hR1 1 (v := .slice none 0 0) rfl
   have q2 := blk_cell hR1 2 (v := .int .i64 0) rfl
   have q3 := blk_cell hR1 3 (v := .slice none 0 0) rfl
   have q4 := blk_cell hR1 4 (v := .int .i64 0) rfl
   have q5 := blk_cell hR1 5 (v := .int .i64 0) rfl
   have q6 := blk_cell hR1 6 (v := .int .i64 0) rfl
   have q7 := blk_cell hR1 7 (v := .int .i64 0) rfl
   have f0 := blk_free hR1 0
   have f1 := blk_free hR1 1
   have f2 := blk_free hR1 2
   have f3 := blk_free hR1 3
   have f4 := blk_free hR1 4
   have f5 := blk_free hR1 5
   have f6 := blk_free hR1 6
   have f7 := blk_free hR1 7
   clear hL
   go_wp2_with (go_at_call 42; refine (out10_any _ _ _ _).mono ?_; rintro e w2 ⟨rfl, rfl⟩; obtain ⟨w1, rfl⟩ : ∃ q, q = w2 := ⟨_, rfl⟩; (try simp only [hA, Bool.not_true, Bool.not_false]))
   refine bodyPost_ret (v := .tuple #[.agg #[.slice none 0 0, .slice none 0 0, .int .i64 0, .slice none 0 0, .int .i64 0, .int .i64 0, .int .i64 0, .int .i64 0], .bool false, .int .i64 7]) (by simp [results, Try.results36, go_sem, q0, q1, q2, q3, q4, q5, q6, q7]) rfl ?_
   have KR := s8_kp (M := fun q => q = w.heap.size + 1) (w := w1) (b := w.heap.size + 1) (n0 := .slice none 0 0) (n1 := .slice none 0 0) (n2 := .int .i64 0) (n3 := .slice none 0 0) (n4 := .int .i64 0) (n5 := .int .i64 0) (n6 := .int .i64 0) (n7 := .int .i64 0) rfl
   rw [HVe.out]
   exact ⟨_, rfl, zst_at _, (E0.comp E1).below5 KR (fun b hb => by omega)⟩
  | true =>
   obtain ⟨hv, _, _, n, rfl, hn⟩ := guard_valid HX.out
   obtain ⟨U, hU⟩ : ∃ U, untilN a n s = U := ⟨_, rfl⟩
   have HU0 : Hid (untilN a n (beginL s).s = U) := Lib.hid hU
   have HV : Hid (untilE s a (n : Int) = (U.1, U.2, 0)) := Lib.hid (by unfold untilE; rw [if_neg (by rw [HX.out]; decide), hA, if_pos rfl, Int.toNat_natCast, hU])
   have HF0 := Lib.hid (Fit.begin hv)
   have hL0 := Lib.hid hL
   clear hU hv hL
   go_wp2_with (go_at_call 42; refine (out10_any _ _ _ _).mono ?_; rintro e w2 ⟨rfl, rfl⟩; obtain ⟨w1, rfl⟩ : ∃ q, q = w2 := ⟨_, rfl⟩; (try simp only [hA, Bool.not_true, Bool.not_false]))
   go_loopw [7, 26] (fun s7 s26 Y => s7 = .bool false ∧ ∃ (k : Nat) (zz : Lm), k ≤ n ∧ s26 = .int .i64 (k : Int) ∧ Hid (LinAt Y m mb [] zz) ∧ Hid (Fit zz) ∧ Hid (untilN a (n - k) zz.s = U) ∧ KpM (LM m mb) w1 Y) (fun _ s26 _ => n - (Go.RowKit.intOf s26).toNat)
   case atStart => exact ⟨rfl, 0, beginL s, Nat.zero_le _, rfl, hL0, HF0, HU0, KpM.refl _ _⟩
   case round =>
    clear hL0 HF0 HU0
    obtain ⟨rfl, k, z0, hk, rfl, hz0, HF0, HU0, KY0⟩ := hrel
    obtain ⟨Y0, rfl⟩ : ∃ Y : World, Y = wr := ⟨_, rfl⟩
    by_cases hlt : k < n
    ·have hltz : (k : Int) < (n : Int) := by omega
     have hs := lstep_shut m mb [] z0 Y0 (fun _ h => h.elim) hz0.out HF0.out.v
     have hU1 := HU0.out
     rw [show n - k = (n - (k + 1)) + 1 by omega, untilN] at hU1
     have HU1 := Lib.hid hU1
     clear hU1
     go_wp2_with fail
     refine hs.mono ?_
     rintro e Y ⟨rfl, hzz, K2⟩
     clear hs
     obtain ⟨zz, hzq⟩ : ∃ zz, doL z0 = zz := ⟨_, rfl⟩
     have HFz : Hid (Fit zz) := Lib.hid (by rw [← hzq]; exact HF0.out.do_)
     have hze : Hid (runQ 1 z0.s = zz.s) := Lib.hid (by rw [← hzq]; rfl)
     rw [hzq] at hzz
     rw [hze.out] at HU1
     have KY := KY0.trans K2
     have hz := Lib.hid hzz
     clear hzq
     obtain ⟨b1, b2, b3, e1, e2, e3, hB, _, _, _, _⟩ := hzz
     have c7 := hB.c7
     have c5 := hB.c5
     clear hB
     by_cases hw : zz.s.why = 0
     ·rw [hw] at c7
      have HU2 := HU1.out
      rw [if_neg (by rw [hw]; decide)] at HU2
      by_cases hat : zz.s.at_ = a
      ·rw [hat] at c5
       rw [if_pos hat] at HU2
       have HU := Lib.hid HU2
       clear HU2 hat hw
       have hst := state_any m mb [] zz Y hz.out HFz.out.v
       go_wp2_with fail
       refine hst.mono ?_
       rintro e w3 ⟨v3, rfl, hT, E3⟩
       clear hst
       have EW : Ext w w3 := ((E0.comp E1).below5 KY (by rintro b (h | h) <;> omega)).comp E3
       have hR3 : w3.heap[w.heap.size + 1]? = some (.cells #[.slice none 0 0, .slice none 0 0, .int .i64 0, .slice none 0 0, .int .i64 0, .int .i64 0, .int .i64 0, .int .i64 0] 33 (0, 0)) := by
        have h1 := (E1.block _ (lt_of_block hR)).trans hR
        have h2 := (KY.block _ (lt_of_block h1) (by rintro (h | h) <;> omega)).trans h1
        exact (E3.block _ (lt_of_block h2)).trans h2
       have HT := Lib.hid hT
       obtain ⟨p1, p2, p3, d1, d2, d3, rfl, _, _, _⟩ := hT
       obtain ⟨z, hz2⟩ : ∃ z, zz.s = z := ⟨_, rfl⟩
       rw [hz2] at HT ⊢
       have HZ := Lib.hid hz2
       clear hz2
       have q0 := blk_cell hR3 0 (v := .slice none 0 0) rfl
       have q1 := blk_cell hR3 1 (v := .slice none 0 0) rfl
       have q2 := blk_cell hR3 2 (v := .int .i64 0) rfl
       have q3 := blk_cell hR3 3 (v := .slice none 0 0) rfl
       have q4 := blk_cell hR3 4 (v := .int .i64 0) rfl
       have q5 := blk_cell hR3 5 (v := .int .i64 0) rfl
       have q6 := blk_cell hR3 6 (v := .int .i64 0) rfl
       have q7 := blk_cell hR3 7 (v := .int .i64 0) rfl
       have f0 := blk_free hR3 0
       have f1 := blk_free hR3 1
       have f2 := blk_free hR3 2
       have f3 := blk_free hR3 3
       have f4 := blk_free hR3 4
       have f5 := blk_free hR3 5
       have f6 := blk_free hR3 6
       have f7 := blk_free hR3 7
       go_wp2
       refine bodyPost_ret (v := .tuple #[(.agg #[.slice p1 z.store.length d1, .slice p2 z.tape.length d2, .int .i64 z.taken, .slice p3 z.printed.length d3, .int .i64 z.time, .int .i64 z.at_, .int .i64 z.done, .int .i64 z.why]), .bool true, .int .i64 0]) (by simp [results, Try.results36, go_sem, q0, q1, q2, q3, q4, q5, q6, q7]) rfl ?_
       have hfin := stT_set HT.out ⟨_, hR3⟩ (n0 := .slice p1 z.store.length d1) (n1 := .slice p2 z.tape.length d2) (n2 := .int .i64 z.taken) (n3 := .slice p3 z.printed.length d3) (n4 := .int .i64 z.time) (n5 := .int .i64 z.at_) (n6 := .int .i64 z.done) (n7 := .int .i64 z.why)
       have KR := s8_kp (M := fun q => q = w.heap.size + 1) (w := w3) (b := w.heap.size + 1) (n0 := .slice p1 z.store.length d1) (n1 := .slice p2 z.tape.length d2) (n2 := .int .i64 z.taken) (n3 := .slice p3 z.printed.length d3) (n4 := .int .i64 z.time) (n5 := .int .i64 z.at_) (n6 := .int .i64 z.done) (n7 := .int .i64 z.why) rfl
       have hU : U = (z, true) := by rw [← HU.out, ← HZ.out]
       rw [HV.out, hU]
       refine ⟨_, rfl, hfin, EW.below5 KR (fun b hb => by omega)⟩
      ·have hatz : (zz.s.at_ == a) = false := by simpa using hat
       rw [if_neg hat] at HU2
       have HU := Lib.hid HU2
       clear HU2
       go_wp2
       go_roundw
       case rel => exact ⟨rfl, k + 1, zz, by omega, by go_num, hz, HFz, HU, KY⟩
       case measure => simp [Go.RowKit.intOf]; omega
     ·have hwz : (zz.s.why == 0) = false := by simpa using hw
      have HU2 := HU1.out
      rw [if_pos hw] at HU2
      have HU := Lib.hid HU2
      clear HU2
      have hst := state_any m mb [] zz Y hz.out HFz.out.v
      go_wp2_with fail
      refine hst.mono ?_
      rintro e w3 ⟨v3, rfl, hT, E3⟩
      clear hst
      have EW : Ext w w3 := ((E0.comp E1).below5 KY (by rintro b (h | h) <;> omega)).comp E3
      have hR3 : w3.heap[w.heap.size + 1]? = some (.cells #[.slice none 0 0, .slice none 0 0, .int .i64 0, .slice none 0 0, .int .i64 0, .int .i64 0, .int .i64 0, .int .i64 0] 33 (0, 0)) := by
       have h1 := (E1.block _ (lt_of_block hR)).trans hR
       have h2 := (KY.block _ (lt_of_block h1) (by rintro (h | h) <;> omega)).trans h1
       exact (E3.block _ (lt_of_block h2)).trans h2
      have HT := Lib.hid hT
      obtain ⟨p1, p2, p3, d1, d2, d3, rfl, _, _, _⟩ := hT
      obtain ⟨z, hz2⟩ : ∃ z, zz.s = z := ⟨_, rfl⟩
      rw [hz2] at HT ⊢
      have HZ := Lib.hid hz2
      clear hz2
      have q0 := blk_cell hR3 0 (v := .slice none 0 0) rfl
      have q1 := blk_cell hR3 1 (v := .slice none 0 0) rfl
      have q2 := blk_cell hR3 2 (v := .int .i64 0) rfl
      have q3 := blk_cell hR3 3 (v := .slice none 0 0) rfl
      have q4 := blk_cell hR3 4 (v := .int .i64 0) rfl
      have q5 := blk_cell hR3 5 (v := .int .i64 0) rfl
      have q6 := blk_cell hR3 6 (v := .int .i64 0) rfl
      have q7 := blk_cell hR3 7 (v := .int .i64 0) rfl
      have f0 := blk_free hR3 0
      have f1 := blk_free hR3 1
      have f2 := blk_free hR3 2
      have f3 := blk_free hR3 3
      have f4 := blk_free hR3 4
      have f5 := blk_free hR3 5
      have f6 := blk_free hR3 6
      have f7 := blk_free hR3 7
      go_wp2
      refine bodyPost_ret (v := .tuple #[(.agg #[.slice p1 z.store.length d1, .slice p2 z.tape.length d2, .int .i64 z.taken, .slice p3 z.printed.length d3, .int .i64 z.time, .int .i64 z.at_, .int .i64 z.done, .int .i64 z.why]), .bool false, .int .i64 0]) (by simp [results, Try.results36, go_sem, q0, q1, q2, q3, q4, q5, q6, q7]) rfl ?_
      have hfin := stT_set HT.out ⟨_, hR3⟩ (n0 := .slice p1 z.store.length d1) (n1 := .slice p2 z.tape.length d2) (n2 := .int .i64 z.taken) (n3 := .slice p3 z.printed.length d3) (n4 := .int .i64 z.time) (n5 := .int .i64 z.at_) (n6 := .int .i64 z.done) (n7 := .int .i64 z.why)
      have KR := s8_kp (M := fun q => q = w.heap.size + 1) (w := w3) (b := w.heap.size + 1) (n0 := .slice p1 z.store.length d1) (n1 := .slice p2 z.tape.length d2) (n2 := .int .i64 z.taken) (n3 := .slice p3 z.printed.length d3) (n4 := .int .i64 z.time) (n5 := .int .i64 z.at_) (n6 := .int .i64 z.done) (n7 := .int .i64 z.why) rfl
      have hU : U = (z, false) := by rw [← HU.out, ← HZ.out]
      rw [HV.out, hU]
      refine ⟨_, rfl, hfin, EW.below5 KR (fun b hb => by omega)⟩
    ·have hltz : ¬ (k : Int) < (n : Int) := by omega
     have HU2 := HU0.out
     rw [show n - k = 0 by omega, untilN] at HU2
     obtain ⟨zz, hzq⟩ : ∃ zz, zz = z0 := ⟨_, rfl⟩
     obtain ⟨Y, hYq⟩ : ∃ Y, Y = Y0 := ⟨_, rfl⟩
     have hz := hz0
     have HFz := HF0
     have KY := KY0
     rw [← hzq] at HU2 HFz hz
     rw [← hYq] at hz KY ⊢
     have HU := Lib.hid HU2
     clear HU2 HU0 hzq hYq KY0 hz0 HF0
     have hst := state_any m mb [] zz Y hz.out HFz.out.v
     go_wp2_with fail
     refine hst.mono ?_
     rintro e w3 ⟨v3, rfl, hT, E3⟩
     clear hst
     have EW : Ext w w3 := ((E0.comp E1).below5 KY (by rintro b (h | h) <;> omega)).comp E3
     have hR3 : w3.heap[w.heap.size + 1]? = some (.cells #[.slice none 0 0, .slice none 0 0, .int .i64 0, .slice none 0 0, .int .i64 0, .int .i64 0, .int .i64 0, .int .i64 0] 33 (0, 0)) := by
      have h1 := (E1.block _ (lt_of_block hR)).trans hR
      have h2 := (KY.block _ (lt_of_block h1) (by rintro (h | h) <;> omega)).trans h1
      exact (E3.block _ (lt_of_block h2)).trans h2
     have HT := Lib.hid hT
     obtain ⟨p1, p2, p3, d1, d2, d3, rfl, _, _, _⟩ := hT
     obtain ⟨z, hz2⟩ : ∃ z, zz.s = z := ⟨_, rfl⟩
     rw [hz2] at HT ⊢
     have HZ := Lib.hid hz2
     clear hz2
     have q0 := blk_cell hR3 0 (v := .slice none 0 0) rfl
     have q1 := blk_cell hR3 1 (v := .slice none 0 0) rfl
     have q2 := blk_cell hR3 2 (v := .int .i64 0) rfl
     have q3 := blk_cell hR3 3 (v := .slice none 0 0) rfl
     have q4 := blk_cell hR3 4 (v := .int .i64 0) rfl
     have q5 := blk_cell hR3 5 (v := .int .i64 0) rfl
     have q6 := blk_cell hR3 6 (v := .int .i64 0) rfl
     have q7 := blk_cell hR3 7 (v := .int .i64 0) rfl
     have f0 := blk_free hR3 0
     have f1 := blk_free hR3 1
     have f2 := blk_free hR3 2
     have f3 := blk_free hR3 3
     have f4 := blk_free hR3 4
     have f5 := blk_free hR3 5
     have f6 := blk_free hR3 6
     have f7 := blk_free hR3 7
     go_wp2
     refine bodyPost_ret (v := .tuple #[(.agg #[.slice p1 z.store.length d1, .slice p2 z.tape.length d2, .int .i64 z.taken, .slice p3 z.printed.length d3, .int .i64 z.time, .int .i64 z.at_, .int .i64 z.done, .int .i64 z.why]), .bool false, .int .i64 0]) (by simp [results, Try.results36, go_sem, q0, q1, q2, q3, q4, q5, q6, q7]) rfl ?_
     have hfin := stT_set HT.out ⟨_, hR3⟩ (n0 := .slice p1 z.store.length d1) (n1 := .slice p2 z.tape.length d2) (n2 := .int .i64 z.taken) (n3 := .slice p3 z.printed.length d3) (n4 := .int .i64 z.time) (n5 := .int .i64 z.at_) (n6 := .int .i64 z.done) (n7 := .int .i64 z.why)
     have KR := s8_kp (M := fun q => q = w.heap.size + 1) (w := w3) (b := w.heap.size + 1) (n0 := .slice p1 z.store.length d1) (n1 := .slice p2 z.tape.length d2) (n2 := .int .i64 z.taken) (n3 := .slice p3 z.printed.length d3) (n4 := .int .i64 z.time) (n5 := .int .i64 z.at_) (n6 := .int .i64 z.done) (n7 := .int .i64 z.why) rfl
     have hU : U = (z, false) := by rw [← HU.out, ← HZ.out]
     rw [HV.out, hU]
     refine ⟨_, rfl, hfin, EW.below5 KR (fun b hb => by omega)⟩
 ·clear ho
  have HVe : Hid (untilE s a most = (zst, false, er)) := Lib.hid (by unfold untilE; rw [if_pos hx, HER.out])
  have hR1 := (E1.block _ (lt_of_block hR)).trans hR
  have q0 := blk_cell hR1 0 (v := .slice none 0 0) rfl
  have q1 := blk_cell hR1 1 (v := .slice none 0 0) rfl
  have q2 := blk_cell hR1 2 (v := .int .i64 0) rfl
  have q3 := blk_cell hR1 3 (v := .slice none 0 0) rfl
  have q4 := blk_cell hR1 4 (v := .int .i64 0) rfl
  have q5 := blk_cell hR1 5 (v := .int .i64 0) rfl
  have q6 := blk_cell hR1 6 (v := .int .i64 0) rfl
  have q7 := blk_cell hR1 7 (v := .int .i64 0) rfl
  have f0 := blk_free hR1 0
  have f1 := blk_free hR1 1
  have f2 := blk_free hR1 2
  have f3 := blk_free hR1 3
  have f4 := blk_free hR1 4
  have f5 := blk_free hR1 5
  have f6 := blk_free hR1 6
  have f7 := blk_free hR1 7
  rw [HER.out] at hx
  have hne : (er != 0) = true := by simpa using hx
  rw [HER.out]
  go_wp2
  refine bodyPost_ret (v := .tuple #[.agg #[.slice none 0 0, .slice none 0 0, .int .i64 0, .slice none 0 0, .int .i64 0, .int .i64 0, .int .i64 0, .int .i64 0], .bool false, .int .i64 er]) (by simp [results, Try.results36, go_sem, q0, q1, q2, q3, q4, q5, q6, q7]) rfl ?_
  have KR := s8_kp (M := fun q => q = w.heap.size + 1) (w := w1) (b := w.heap.size + 1) (n0 := .slice none 0 0) (n1 := .slice none 0 0) (n2 := .int .i64 0) (n3 := .slice none 0 0) (n4 := .int .i64 0) (n5 := .int .i64 0) (n6 := .int .i64 0) (n7 := .int .i64 0) rfl
  rw [HVe.out]
  exact ⟨_, rfl, zst_at _, (E0.comp E1).below5 KR (fun b hb => by omega)⟩
end Go.Proofs.Ytnhpcoagkmgdoaa

import Derived.Test.YtnhpcoagkmgdoaaX23
import Derived.Test.YtnhpcoagkmgdoaaX21
set_option linter.unusedVariables false
set_option linter.unusedSimpArgs false
/- Layer 10: how an order ends, each of whose words is looked at. -/
namespace Go.Proofs.Ytnhpcoagkmgdoaa
open Go.RowKit Go.Q Go.Shelf Go.Maps
set_option maxHeartbeats 4000000
set_option maxRecDepth 100000
attribute [local go_sem] Oper.semAt_some
/-- how step ends: the word that is noticed (or -1), and the line -/
def StepP (m mb : Nat) (L : List Loss) (y : Lm) (r : Int) (w : World) (ex : Nat → Prop) (e : Ending) (w' : World) : Prop := e = .returned (.int .i64 r) ∧ LinAt w' m mb L y ex ∧ KpM (LM m mb) w w'
def catchS (b0 : Nat) : Deferred := { target := .fn (.func 99) #[.pointer (some ⟨b0, 0, none⟩)], args := #[] }
theorem LinAt.lt {w : World} {m mb : Nat} {L : List Loss} {y : Lm} {ex : Nat → Prop} (h : LinAt w m mb L y ex) : m < w.heap.size ∧ mb < w.heap.size := by
 obtain ⟨a1, a2, a3, c1, c2, c3, hB, i1, i2, i3, hM⟩ := h
 obtain ⟨f, h2, _⟩ := hM
 exact ⟨hB.lt, h2.lt⟩
theorem leavesS_bad {n m mb : Nat} {L : List Loss} {y : Lm} {tmps : Array Value} {w W : World} {x : Int} {u : Value} (h0 : W.heap[w.heap.size]? = some (.cells #[u] 3 (0, 0))) {ex : Nat → Prop} (hL : LinAt w m mb L y ex) (hE : Ext w W)
  (t4 : tmps.getD 4 undef = .pointer (some ⟨w.heap.size, 0, none⟩)) :
  LeavesInM Fence.wide n Try.prog Try.f74 tmps (StepP m mb L y x w ex) [catchS w.heap.size] (.panicking (lostP x)) W := by
 refine ⟨by simp, .inr ⟨nofun, .func 99, _, 99, _, rfl, (by simp [invoke, go_sem, catchS]; rfl), fun _ _ => trivial, ?_⟩⟩
 refine (step_caught w.heap.size x u W (n - 1) h0).mono ?_
 rintro e u' w2 ⟨rfl, hu, hC, hk⟩
 dsimp only
 rw [hu]
 have c0 := cell_of_cells hC 0 (v := .int .i64 x) rfl
 have kk : KpM (fun q => q = w.heap.size) w w2 := (KpM.of_ext hE).trans hk
 refine ⟨.int .i64 x, ?_, rfl, hL.turn kk (fun b hb e => by omega), KpM.of_ext (kk.below (Ext.refl w) (Nat.le_refl _) (fun b hb => by omega))⟩
 rw [Array.getD_eq_getD_getElem?] at t4
 simp [results, Try.results74, go_sem, t4, c0]
theorem leavesS_good {n m mb : Nat} {L : List Loss} {y : Lm} {tmps : Array Value} {w W : World} {x : Int} (h0 : W.heap[w.heap.size]? = some (.cells #[.int .i64 x] 3 (0, 0))) {ex : Nat → Prop} (hL : LinAt W m mb L y ex) (hK : KpM (LM m mb) w W)
  (t4 : tmps.getD 4 undef = .pointer (some ⟨w.heap.size, 0, none⟩)) :
  LeavesInM Fence.wide n Try.prog Try.f74 tmps (StepP m mb L y x w ex) [catchS w.heap.size] .returning W := by
 refine ⟨by simp, .inr ⟨nofun, .func 99, _, 99, _, rfl, (by simp [invoke, go_sem, catchS]; rfl), fun _ _ => trivial, ?_⟩⟩
 refine (step_idle w.heap.size W (n - 1)).mono ?_
 rintro e u' w2 ⟨rfl, rfl, rfl⟩
 have c0 := cell_of_cells h0 0 (v := .int .i64 x) rfl
 refine ⟨.int .i64 x, ?_, rfl, hL, hK⟩
 rw [Array.getD_eq_getD_getElem?] at t4
 simp [results, Try.results74, go_sem, t4, c0]
theorem IntsF.weaken {M M' : Nat → Prop} {W : World} {a : Option Addr} {xs : List Int} (h : IntsF M W a xs) (hM : ∀ b, b < W.heap.size → M' b → M b) : IntsF M' W a xs := h.imp id fun ⟨b, off, ha, hm, hb, hc⟩ => ⟨b, off, ha, fun h => hm (hM b hb h), hb, hc⟩
/-- the line behind an order -/
theorem lin_step {X w3 V : World} {m mb nb b0 : Nat} {L : List Loss} {T : St} {bad : List Bool} {gone : Int → Bool} {a1 a2 a3 : Option Addr} {c1 c2 c3 : Nat} {u : Value}
  (hB : LnB V m mb (.slice a1 T.store.length c1) (.slice a2 T.tape.length c2) (.int .i64 T.taken) (.slice a3 T.printed.length c3) (.int .i64 T.time) (.int .i64 T.at_) (.int .i64 T.done) (.int .i64 T.why) bad)
  (i1 : IntsF (fun q => q < nb) w3 a1 T.store) (i2 : IntsF (fun q => q < nb) w3 a2 T.tape) (i3 : IntsF (fun q => q < nb) w3 a3 T.printed) (hM : MapL X mb (leftL L gone))
  (K3 : KpM (fun q => q = m ∨ q = b0) w3 V) (KX : KpM (fun q => q = m ∨ q = b0) X V) (hm : m < nb) (hmb : mb < nb) (hb0 : b0 < nb) (hne : mb ≠ m) (hne2 : mb ≠ b0) (hbx : X.heap[b0]? = some (.cells #[u] 3 (0, 0))) (hmx : ∃ cs, X.heap[m]? = some (.cells cs 128 (0, 0))) {ex : Nat → Prop} (hex : ∀ q, ex q → q < nb) : LinAt V m mb L ⟨T, bad, gone⟩ ex := by
 have kk : ∀ {a : Option Addr} {xs : List Int}, IntsF (fun q => q < nb) w3 a xs → IntsF (LX m mb ex) V a xs := fun h =>
  (h.kp K3 (fun b _ e => by rcases e with rfl | rfl <;> assumption)).weaken (fun b _ e => by
   rcases e with (rfl | rfl) | e
   ·exact hm
   ·exact hmb
   ·exact hex b e)
 refine ⟨a1, a2, a3, c1, c2, c3, hB, kk i1, kk i2, kk i3, hM.kp KX (fun e => e.elim hne hne2) fun b cs fr hb e => ?_⟩
 obtain ⟨cs2, hc2⟩ := hmx
 rcases e with rfl | rfl
 ·rw [hc2] at hb; cases hb
 ·rw [hbx] at hb; cases hb
theorem kp_box {W X V : World} {m mb : Nat} (E : Ext W X) (K : KpM (fun q => q = m ∨ q = W.heap.size) X V) : KpM (LM m mb) W V :=
 ⟨Nat.le_trans E.size K.size, fun b hb hn => (K.block b (Nat.lt_of_lt_of_le hb E.size) (fun h => h.elim (fun h => hn (.inl h)) (fun h => by omega))).trans (E.block b hb), K.os.trans E.os, K.tape.trans E.tape, K.output.trans E.output⟩
theorem valid_bd {s : St} (h : Valid s) : StBd s := ⟨by have := h.len; omega, by have := h.tlen; omega, by have := h.plen; omega⟩
theorem asked_valid {s : St} (h : Valid s) : askedQ s 1 = 0 := by
 unfold askedQ
 rw [if_neg (by rw [check_of_valid h]; decide), if_pos (by decide)]
theorem notice_at {x : Lm} {p : Nat} (ha : x.s.at_ = (p : Int)) (hb : x.bad[p]?.getD false = true) : noticeQ x = (p : Int) := by
 unfold noticeQ readsQ
 rw [List.find?_cons_of_pos (by unfold badAt; rw [ha, Int.toNat_natCast]; exact hb), ha]
 rfl
theorem notice_rd {x : Lm} {p : Nat} {o : Ord} (ha : x.s.at_ = (p : Int)) (ho : ordAt x.s = o) (hb : x.bad[p]?.getD false = false) {l : List Int} (hl : (if (1 ≤ o.op ∧ o.op ≤ 5) ∨ o.op = 7 then [o.frm] else []) ++ (if 2 ≤ o.op ∧ o.op ≤ 4 then [o.to] else []) = l) : noticeQ x = (l.find? (badAt x.bad)).getD (-1) := by
 unfold noticeQ readsQ
 rw [List.find?_cons_of_neg (by unfold badAt; rw [ha, Int.toNat_natCast, hb]; simp), ho, hl]
end Go.Proofs.Ytnhpcoagkmgdoaa

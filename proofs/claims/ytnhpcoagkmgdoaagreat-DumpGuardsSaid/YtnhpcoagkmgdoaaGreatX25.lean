import Derived.Deep.MidRow
import Derived.Test.YtnhpcoagkmgdoaaGreatX24
import Derived.Test.YtnhpcoagkmgdoaaGreatX17
set_option linter.unusedVariables false
set_option linter.unusedSimpArgs false
/- Layer 10: Guard, Blind, Until. -/
namespace Go.Proofs.YtnhpcoagkmgdoaaGreat
open Go.RowKit Go.Q Go.Shelf Go.Maps
set_option maxHeartbeats 4000000
set_option maxRecDepth 100000
theorem guard_fit {L : List Loss} (hL : ∀ y ∈ L, lossOk y = true) : ∀ (n : Nat) (x : Lm), Fit x → Fit (guardN L n x).1
 | 0, x, h => h
 | n + 1, x, h => by
  rw [guardN]
  split
  ·exact h
  ·split
   ·exact h.hap hL
   ·exact guard_fit hL n _ (h.hap hL).do_
theorem blind_fit {L : List Loss} (hL : ∀ y ∈ L, lossOk y = true) : ∀ (n : Nat) (x : Lm), Fit x → Fit (blindN L n x)
 | 0, x, h => h
 | n + 1, x, h => by
  rw [blindN]
  split
  ·exact h
  ·exact blind_fit hL n _ (h.hap hL).do_
theorem zst_at (w : World) : StAt w (.agg #[.slice none 0 0, .slice none 0 0, .int .i64 0, .slice none 0 0, .int .i64 0, .int .i64 0, .int .i64 0, .int .i64 0]) zst := ⟨none, none, none, 0, 0, 0, rfl, .inl rfl, .inl rfl, .inl rfl⟩
theorem stT_set {V : World} {R : Nat} {v : Value} {z : St} (h : StAtT V v z) (hR : ∃ cs, V.heap[R]? = some (.cells cs 24 (0, 0))) {n0 n1 n2 n3 n4 n5 n6 n7 : Value} : StAt (S8 V R n0 n1 n2 n3 n4 n5 n6 n7) v z := by
 obtain ⟨a1, a2, a3, c1, c2, c3, rfl, i1, i2, i3⟩ := h
 have KR := s8_kp (M := fun q => q = R) (w := V) (b := R) (n0 := n0) (n1 := n1) (n2 := n2) (n3 := n3) (n4 := n4) (n5 := n5) (n6 := n6) (n7 := n7) rfl
 have hn : ∀ b cs fr, V.heap[b]? = some (.cells cs 3 fr) → ¬ b = R := fun b cs fr hb e => by
  obtain ⟨cs2, h2⟩ := hR
  rw [e, h2] at hb
  cases hb
 exact ⟨a1, a2, a3, c1, c2, c3, rfl, (i1.kp KR hn).at_, (i2.kp KR hn).at_, (i3.kp KR hn).at_⟩
theorem guard_any (v : Value) (s : St) (L : List Loss) (la : Option Addr) (ln lc : Nat) (most : Int) (w : World) (h : StAt w v s) (hb : StBd s) (hl : L.length = ln) (hI : LossAt w la L) (hLi : ∀ y ∈ L, -9223372036854775808 ≤ y.after ∧ y.after ≤ 9223372036854775807) :
  Calls Tryz.prog 6 #[v, .slice la ln lc, .int .i64 most] w (GdRes (guardE s L most) w) := by
 obtain ⟨a1, a2, a3, c1, c2, c3, rfl, i1, i2, i3⟩ := h
 have hs : StAt w (sv a1 a2 a3 s.store.length c1 s.tape.length c2 s.printed.length c3 s.taken s.time s.at_ s.done s.why) s := ⟨a1, a2, a3, c1, c2, c3, rfl, i1, i2, i3⟩
 have ho := fun W (E : Ext w W) => open_any _ s L la ln lc most W (hs.ext E) hb hl (hI.ext E) hLi
 clear hs hb hl hI hLi i1 i2 i3
 have E0 : Ext w ((w.alloc (.cells #[.slice a1 s.store.length c1, .slice a2 s.tape.length c2, .int .i64 s.taken, .slice a3 s.printed.length c3, .int .i64 s.time, .int .i64 s.at_, .int .i64 s.done, .int .i64 s.why] 24)).alloc (.cells #[.slice none 0 0, .slice none 0 0, .int .i64 0, .slice none 0 0, .int .i64 0, .int .i64 0, .int .i64 0, .int .i64 0] 24)) := ((Ext.refl w).alloc _).alloc _
 have hR : ((w.alloc (.cells #[.slice a1 s.store.length c1, .slice a2 s.tape.length c2, .int .i64 s.taken, .slice a3 s.printed.length c3, .int .i64 s.time, .int .i64 s.at_, .int .i64 s.done, .int .i64 s.why] 24)).alloc (.cells #[.slice none 0 0, .slice none 0 0, .int .i64 0, .slice none 0 0, .int .i64 0, .int .i64 0, .int .i64 0, .int .i64 0] 24)).heap[w.heap.size + 1]? = some (.cells #[.slice none 0 0, .slice none 0 0, .int .i64 0, .slice none 0 0, .int .i64 0, .int .i64 0, .int .i64 0, .int .i64 0] 24 (0, 0)) := by
  have e := heap_alloc_new (w.alloc (.cells #[.slice a1 s.store.length c1, .slice a2 s.tape.length c2, .int .i64 s.taken, .slice a3 s.printed.length c3, .int .i64 s.time, .int .i64 s.at_, .int .i64 s.done, .int .i64 s.why] 24)) (.cells #[.slice none 0 0, .slice none 0 0, .int .i64 0, .slice none 0 0, .int .i64 0, .int .i64 0, .int .i64 0, .int .i64 0] 24)
  rw [World.size_alloc] at e
  exact e
 have hE : guardX s L most = guardX s L most := rfl
 obtain ⟨er, her⟩ : ∃ er, guardX s L most = er := ⟨_, rfl⟩
 have HER := Lib.hid her
 clear hE her
 go_enter Tryz.func6, Tryz.ntmps6
 go_wp2_with fail
 refine (ho _ E0).mono ?_
 rintro e w1 (⟨hx, m, mb, rfl, hm, hmb, hL, E1⟩ | ⟨hx, rfl, E1⟩)
 ·clear ho
  obtain ⟨hv, hLo, hl40, n, rfl, hn⟩ := guard_valid hx
  have hF := Fit.begin hv
  obtain ⟨G, hG⟩ : ∃ G, guardN L n (beginL s) = G := ⟨_, rfl⟩
  have hGF : Fit G.1 := by rw [← hG]; exact guard_fit hLo n _ hF
  have hr := run_sharp m mb L (beginL s) n G w1 hL hF hLo hl40 hn hG
  have hsz : w.heap.size + 2 ≤ m ∧ w.heap.size + 2 ≤ mb := by simp at hm hmb; omega
  have HV : Hid (guardE s L (n : Int) = (G.1.s, G.2, 0)) := Lib.hid (by unfold guardE; rw [if_pos hx, Int.toNat_natCast, hG])
  clear hx hL hF hLo hG hm hmb hv
  have HK := Lib.hid hGF
  clear hGF
  go_wp2_with fail
  refine hr.mono ?_
  rintro e w2 ⟨rfl, hz, K2⟩
  have hst := state_any m mb L G.1 w2 hz HK.out.v
  clear hr hz
  go_wp2_with fail
  refine hst.mono ?_
  rintro e w3 ⟨v3, rfl, hT, E3⟩
  clear hst
  have EW : Ext w w3 := ((E0.comp E1).below5 K2 (by rintro b (h | h) <;> omega)).comp E3
  have hR3 : w3.heap[w.heap.size + 1]? = some (.cells #[.slice none 0 0, .slice none 0 0, .int .i64 0, .slice none 0 0, .int .i64 0, .int .i64 0, .int .i64 0, .int .i64 0] 24 (0, 0)) := by
   have h1 := (E1.block _ (lt_of_block hR)).trans hR
   have h2 := (K2.block _ (lt_of_block h1) (by rintro (h | h) <;> omega)).trans h1
   exact (E3.block _ (lt_of_block h2)).trans h2
  have HT := Lib.hid hT
  obtain ⟨p1, p2, p3, d1, d2, d3, rfl, _, _, _⟩ := hT
  obtain ⟨z, hz⟩ : ∃ z, G.1.s = z := ⟨_, rfl⟩
  rw [hz] at HT ⊢
  have HZ := Lib.hid hz
  clear hz
  have q0 := blk_cell hR3 0 (v := .slice none 0 0) rfl
  have q1 := blk_cell hR3 1 (v := .slice none 0 0) rfl
  have q2 := blk_cell hR3 2 (v := .int .i64 0) rfl
  have q3 := blk_cell hR3 3 (v := .slice none 0 0) rfl
  have q4 := blk_cell hR3 4 (v := .int .i64 0) rfl
  have q5 := blk_cell hR3 5 (v := .int .i64 0) rfl
  have q6 := blk_cell hR3 6 (v := .int .i64 0) rfl
  have q7 := blk_cell hR3 7 (v := .int .i64 0) rfl
  have f0 := blk_free hR3 0
  have f1 := blk_free hR3 1
  have f2 := blk_free hR3 2
  have f3 := blk_free hR3 3
  have f4 := blk_free hR3 4
  have f5 := blk_free hR3 5
  have f6 := blk_free hR3 6
  have f7 := blk_free hR3 7
  go_wp2
  refine bodyPost_ret (v := .tuple #[(.agg #[.slice p1 z.store.length d1, .slice p2 z.tape.length d2, .int .i64 z.taken, .slice p3 z.printed.length d3, .int .i64 z.time, .int .i64 z.at_, .int .i64 z.done, .int .i64 z.why]), .int .i64 G.2, .int .i64 0]) (by simp [results, Tryz.results6, go_sem, q0, q1, q2, q3, q4, q5, q6, q7]) rfl ?_
  have hfin := stT_set HT.out ⟨_, hR3⟩ (n0 := .slice p1 z.store.length d1) (n1 := .slice p2 z.tape.length d2) (n2 := .int .i64 z.taken) (n3 := .slice p3 z.printed.length d3) (n4 := .int .i64 z.time) (n5 := .int .i64 z.at_) (n6 := .int .i64 z.done) (n7 := .int .i64 z.why)
  have KR := s8_kp (M := fun q => q = w.heap.size + 1) (w := w3) (b := w.heap.size + 1) (n0 := .slice p1 z.store.length d1) (n1 := .slice p2 z.tape.length d2) (n2 := .int .i64 z.taken) (n3 := .slice p3 z.printed.length d3) (n4 := .int .i64 z.time) (n5 := .int .i64 z.at_) (n6 := .int .i64 z.done) (n7 := .int .i64 z.why) rfl
  rw [HV.out]
  refine ⟨_, rfl, ?_, EW.below5 KR (fun b hb => by omega)⟩
  simp only [HZ.out]
  exact hfin
 ·clear ho
  have HV : Hid (guardE s L most = (zst, 0, er)) := Lib.hid (by unfold guardE; rw [if_neg hx, HER.out])
  rw [HER.out] at hx
  have hne : (er != 0) = true := by simpa using hx
  rw [HER.out]
  have hR1 := (E1.block _ (lt_of_block hR)).trans hR
  have q0 := blk_cell hR1 0 (v := .slice none 0 0) rfl
  have q1 := blk_cell hR1 1 (v := .slice none 0 0) rfl
  have q2 := blk_cell hR1 2 (v := .int .i64 0) rfl
  have q3 := blk_cell hR1 3 (v := .slice none 0 0) rfl
  have q4 := blk_cell hR1 4 (v := .int .i64 0) rfl
  have q5 := blk_cell hR1 5 (v := .int .i64 0) rfl
  have q6 := blk_cell hR1 6 (v := .int .i64 0) rfl
  have q7 := blk_cell hR1 7 (v := .int .i64 0) rfl
  have f0 := blk_free hR1 0
  have f1 := blk_free hR1 1
  have f2 := blk_free hR1 2
  have f3 := blk_free hR1 3
  have f4 := blk_free hR1 4
  have f5 := blk_free hR1 5
  have f6 := blk_free hR1 6
  have f7 := blk_free hR1 7
  go_wp2
  refine bodyPost_ret (v := .tuple #[(.agg #[.slice none 0 0, .slice none 0 0, .int .i64 0, .slice none 0 0, .int .i64 0, .int .i64 0, .int .i64 0, .int .i64 0]), .int .i64 0, .int .i64 er]) (by simp [results, Tryz.results6, go_sem, q0, q1, q2, q3, q4, q5, q6, q7]) rfl ?_
  have KR := s8_kp (M := fun q => q = w.heap.size + 1) (w := w1) (b := w.heap.size + 1) (n0 := .slice none 0 0) (n1 := .slice none 0 0) (n2 := .int .i64 0) (n3 := .slice none 0 0) (n4 := .int .i64 0) (n5 := .int .i64 0) (n6 := .int .i64 0) (n7 := .int .i64 0) rfl
  rw [HV.out]
  exact ⟨_, rfl, zst_at _, (E0.comp E1).below5 KR (fun b hb => by omega)⟩
theorem blind_any (v : Value) (s : St) (L : List Loss) (la : Option Addr) (ln lc : Nat) (most : Int) (w : World) (h : StAt w v s) (hb : StBd s) (hl : L.length = ln) (hI : LossAt w la L) (hLi : ∀ y ∈ L, -9223372036854775808 ≤ y.after ∧ y.after ≤ 9223372036854775807) :
  Calls Tryz.prog 9 #[v, .slice la ln lc, .int .i64 most] w (StRes (blindE s L most) w) := by
 obtain ⟨a1, a2, a3, c1, c2, c3, rfl, i1, i2, i3⟩ := h
 have hs : StAt w (sv a1 a2 a3 s.store.length c1 s.tape.length c2 s.printed.length c3 s.taken s.time s.at_ s.done s.why) s := ⟨a1, a2, a3, c1, c2, c3, rfl, i1, i2, i3⟩
 have ho := fun W (E : Ext w W) => open_any _ s L la ln lc most W (hs.ext E) hb hl (hI.ext E) hLi
 clear hs hb hl hI hLi i1 i2 i3
 have E0 : Ext w ((w.alloc (.cells #[.slice a1 s.store.length c1, .slice a2 s.tape.length c2, .int .i64 s.taken, .slice a3 s.printed.length c3, .int .i64 s.time, .int .i64 s.at_, .int .i64 s.done, .int .i64 s.why] 24)).alloc (.cells #[.slice none 0 0, .slice none 0 0, .int .i64 0, .slice none 0 0, .int .i64 0, .int .i64 0, .int .i64 0, .int .i64 0] 24)) := ((Ext.refl w).alloc _).alloc _
 have hR : ((w.alloc (.cells #[.slice a1 s.store.length c1, .slice a2 s.tape.length c2, .int .i64 s.taken, .slice a3 s.printed.length c3, .int .i64 s.time, .int .i64 s.at_, .int .i64 s.done, .int .i64 s.why] 24)).alloc (.cells #[.slice none 0 0, .slice none 0 0, .int .i64 0, .slice none 0 0, .int .i64 0, .int .i64 0, .int .i64 0, .int .i64 0] 24)).heap[w.heap.size + 1]? = some (.cells #[.slice none 0 0, .slice none 0 0, .int .i64 0, .slice none 0 0, .int .i64 0, .int .i64 0, .int .i64 0, .int .i64 0] 24 (0, 0)) := by
  have e := heap_alloc_new (w.alloc (.cells #[.slice a1 s.store.length c1, .slice a2 s.tape.length c2, .int .i64 s.taken, .slice a3 s.printed.length c3, .int .i64 s.time, .int .i64 s.at_, .int .i64 s.done, .int .i64 s.why] 24)) (.cells #[.slice none 0 0, .slice none 0 0, .int .i64 0, .slice none 0 0, .int .i64 0, .int .i64 0, .int .i64 0, .int .i64 0] 24)
  rw [World.size_alloc] at e
  exact e
 have hE : guardX s L most = guardX s L most := rfl
 obtain ⟨er, her⟩ : ∃ er, guardX s L most = er := ⟨_, rfl⟩
 have HER := Lib.hid her
 clear hE her
 go_enter Tryz.func9, Tryz.ntmps9
 go_wp2_with fail
 refine (ho _ E0).mono ?_
 rintro e w1 (⟨hx, m, mb, rfl, hm, hmb, hL, E1⟩ | ⟨hx, rfl, E1⟩)
 ·clear ho
  obtain ⟨hv, hLo, hl40, n, rfl, hn⟩ := guard_valid hx
  have hF := Fit.begin hv
  obtain ⟨G, hG⟩ : ∃ G, blindN L n (beginL s) = G := ⟨_, rfl⟩
  have hGF : Fit G := by rw [← hG]; exact blind_fit hLo n _ hF
  have hr := run_shut m mb L (beginL s) n G w1 hL hF hLo hl40 hn hG
  have hsz : w.heap.size + 2 ≤ m ∧ w.heap.size + 2 ≤ mb := by simp at hm hmb; omega
  have HV : Hid (blindE s L (n : Int) = (G.s, 0)) := Lib.hid (by unfold blindE; rw [if_pos hx, Int.toNat_natCast, hG])
  clear hx hL hF hLo hG hm hmb hv
  have HK := Lib.hid hGF
  clear hGF
  go_wp2_with fail
  refine hr.mono ?_
  rintro e w2 ⟨rfl, hz, K2⟩
  have hst := state_any m mb L G w2 hz HK.out.v
  clear hr hz
  go_wp2_with fail
  refine hst.mono ?_
  rintro e w3 ⟨v3, rfl, hT, E3⟩
  clear hst
  have EW : Ext w w3 := ((E0.comp E1).below5 K2 (by rintro b (h | h) <;> omega)).comp E3
  have hR3 : w3.heap[w.heap.size + 1]? = some (.cells #[.slice none 0 0, .slice none 0 0, .int .i64 0, .slice none 0 0, .int .i64 0, .int .i64 0, .int .i64 0, .int .i64 0] 24 (0, 0)) := by
   have h1 := (E1.block _ (lt_of_block hR)).trans hR
   have h2 := (K2.block _ (lt_of_block h1) (by rintro (h | h) <;> omega)).trans h1
   exact (E3.block _ (lt_of_block h2)).trans h2
  have HT := Lib.hid hT
  obtain ⟨p1, p2, p3, d1, d2, d3, rfl, _, _, _⟩ := hT
  obtain ⟨z, hz⟩ : ∃ z, G.s = z := ⟨_, rfl⟩
  rw [hz] at HT ⊢
  have HZ := Lib.hid hz
  clear hz
  have q0 := blk_cell hR3 0 (v := .slice none 0 0) rfl
  have q1 := blk_cell hR3 1 (v := .slice none 0 0) rfl
  have q2 := blk_cell hR3 2 (v := .int .i64 0) rfl
  have q3 := blk_cell hR3 3 (v := .slice none 0 0) rfl
  have q4 := blk_cell hR3 4 (v := .int .i64 0) rfl
  have q5 := blk_cell hR3 5 (v := .int .i64 0) rfl
  have q6 := blk_cell hR3 6 (v := .int .i64 0) rfl
  have q7 := blk_cell hR3 7 (v := .int .i64 0) rfl
  have f0 := blk_free hR3 0
  have f1 := blk_free hR3 1
  have f2 := blk_free hR3 2
  have f3 := blk_free hR3 3
  have f4 := blk_free hR3 4
  have f5 := blk_free hR3 5
  have f6 := blk_free hR3 6
  have f7 := blk_free hR3 7
  go_wp2
  refine bodyPost_ret (v := .tuple #[(.agg #[.slice p1 z.store.length d1, .slice p2 z.tape.length d2, .int .i64 z.taken, .slice p3 z.printed.length d3, .int .i64 z.time, .int .i64 z.at_, .int .i64 z.done, .int .i64 z.why]), .int .i64 0]) (by simp [results, Tryz.results9, go_sem, q0, q1, q2, q3, q4, q5, q6, q7]) rfl ?_
  have hfin := stT_set HT.out ⟨_, hR3⟩ (n0 := .slice p1 z.store.length d1) (n1 := .slice p2 z.tape.length d2) (n2 := .int .i64 z.taken) (n3 := .slice p3 z.printed.length d3) (n4 := .int .i64 z.time) (n5 := .int .i64 z.at_) (n6 := .int .i64 z.done) (n7 := .int .i64 z.why)
  have KR := s8_kp (M := fun q => q = w.heap.size + 1) (w := w3) (b := w.heap.size + 1) (n0 := .slice p1 z.store.length d1) (n1 := .slice p2 z.tape.length d2) (n2 := .int .i64 z.taken) (n3 := .slice p3 z.printed.length d3) (n4 := .int .i64 z.time) (n5 := .int .i64 z.at_) (n6 := .int .i64 z.done) (n7 := .int .i64 z.why) rfl
  rw [HV.out]
  refine ⟨_, rfl, ?_, EW.below5 KR (fun b hb => by omega)⟩
  simp only [HZ.out]
  exact hfin
 ·clear ho
  have HV : Hid (blindE s L most = (zst, er)) := Lib.hid (by unfold blindE; rw [if_neg hx, HER.out])
  rw [HER.out] at hx
  have hne : (er != 0) = true := by simpa using hx
  rw [HER.out]
  have hR1 := (E1.block _ (lt_of_block hR)).trans hR
  have q0 := blk_cell hR1 0 (v := .slice none 0 0) rfl
  have q1 := blk_cell hR1 1 (v := .slice none 0 0) rfl
  have q2 := blk_cell hR1 2 (v := .int .i64 0) rfl
  have q3 := blk_cell hR1 3 (v := .slice none 0 0) rfl
  have q4 := blk_cell hR1 4 (v := .int .i64 0) rfl
  have q5 := blk_cell hR1 5 (v := .int .i64 0) rfl
  have q6 := blk_cell hR1 6 (v := .int .i64 0) rfl
  have q7 := blk_cell hR1 7 (v := .int .i64 0) rfl
  have f0 := blk_free hR1 0
  have f1 := blk_free hR1 1
  have f2 := blk_free hR1 2
  have f3 := blk_free hR1 3
  have f4 := blk_free hR1 4
  have f5 := blk_free hR1 5
  have f6 := blk_free hR1 6
  have f7 := blk_free hR1 7
  go_wp2
  refine bodyPost_ret (v := .tuple #[(.agg #[.slice none 0 0, .slice none 0 0, .int .i64 0, .slice none 0 0, .int .i64 0, .int .i64 0, .int .i64 0, .int .i64 0]), .int .i64 er]) (by simp [results, Tryz.results9, go_sem, q0, q1, q2, q3, q4, q5, q6, q7]) rfl ?_
  have KR := s8_kp (M := fun q => q = w.heap.size + 1) (w := w1) (b := w.heap.size + 1) (n0 := .slice none 0 0) (n1 := .slice none 0 0) (n2 := .int .i64 0) (n3 := .slice none 0 0) (n4 := .int .i64 0) (n5 := .int .i64 0) (n6 := .int .i64 0) (n7 := .int .i64 0) rfl
  rw [HV.out]
  exact ⟨_, rfl, zst_at _, (E0.comp E1).below5 KR (fun b hb => by omega)⟩
end Go.Proofs.YtnhpcoagkmgdoaaGreat
/- Layer 10: is any word bad. -/
namespace Go.Proofs.YtnhpcoagkmgdoaaGreat
open Go.RowKit Go.Q Go.Shelf Go.Maps
set_option maxHeartbeats 4000000
set_option maxRecDepth 100000
theorem some_of {bad : List Bool} {k : Nat} (h : bad[k]?.getD false = true) : someB bad = true := by
 unfold someB
 rw [List.any_eq_true]
 rcases Nat.lt_or_ge k bad.length with hl | hl
 ·rw [List.getElem?_eq_getElem hl] at h
  exact ⟨_, List.getElem_mem hl, h⟩
 ·rw [List.getElem?_eq_none hl] at h
  cases h
theorem some_no {bad : List Bool} (h : ∀ k, k < bad.length → bad[k]?.getD false = false) : someB bad = false := by
 unfold someB
 rw [List.any_eq_false]
 intro x hx
 obtain ⟨k, hk, rfl⟩ := List.getElem_of_mem hx
 have := h k hk
 rw [List.getElem?_eq_getElem hk] at this
 simpa using this
theorem index_bad (m : Nat) (bad : List Bool) (w : World) (hl : bad.length = 128) (hc : ∀ i, i < 128 → w.cell? ⟨m, 8 + i, none⟩ = some (.bool (bad[i]?.getD false))) :
  Calls Tryz.prog 69 #[.slice (some ⟨m, 8, none⟩) 128 128, .bool true] w fun e w' => ∃ r : Int, e = .returned (.int .i64 r) ∧ w' = w ∧ (someB bad = true → 0 ≤ r) ∧ (someB bad = false → r = -1) := by
 have HC := Lib.hid hc
 have HL := Lib.hid hl
 clear hc hl
 go_enter Tryz.func69, Tryz.ntmps69
 go_wp2
 go_loopw [8] (fun s8 X => ∃ k : Nat, k ≤ 128 ∧ s8 = .int .i64 (k : Int) ∧ X = w ∧ Hid (∀ j, j < k → bad[j]?.getD false = false)) (fun s8 _ => 128 - (Go.RowKit.intOf s8).toNat)
 case atStart => exact ⟨0, by omega, rfl, rfl, Lib.hid fun j hj => absurd hj (Nat.not_lt_zero _)⟩
 case round =>
  obtain ⟨k, hk, rfl, rfl, HP⟩ := hrel
  by_cases hlt : k < 128
  ·have hltz : (k : Int) < 128 := by omega
   have hkz : (0 : Int) ≤ (k : Int) := by omega
   have l0 := HC.out k hlt
   cases hb : bad[k]?.getD false with
   | true =>
    rw [hb] at l0
    have HS := Lib.hid (some_of hb)
    clear hb
    go_wp2
    refine bodyPost_ret (v := .int .i64 (k : Int)) (by simp [results, Tryz.results69, go_sem]) rfl ⟨_, rfl, rfl, fun _ => hkz, fun h => ?_⟩
    rw [HS.out] at h
    cases h
   | false =>
    rw [hb] at l0
    have HN : Hid (∀ j, j < k + 1 → bad[j]?.getD false = false) := Lib.hid fun j hj => by
     by_cases e : j = k
     ·subst e; exact hb
     ·exact HP.out j (by omega)
    clear hb
    go_wp2
    go_roundw
    case rel => exact ⟨k + 1, by omega, by go_num, trivial, HN⟩
    case measure => simp [Go.RowKit.intOf]; omega
  ·have hltz : ¬ (k : Int) < 128 := by omega
   have HN := Lib.hid (some_no (bad := bad) fun j hj => HP.out j (by have := HL.out; omega))
   go_wp2
   refine bodyPost_ret (v := .int .i64 (-1)) (by simp [results, Tryz.results69, go_sem]) rfl ⟨_, rfl, rfl, fun h => ?_, fun _ => rfl⟩
   rw [HN.out] at h
   cases h
theorem contains_bad (m : Nat) (bad : List Bool) (w : World) (hl : bad.length = 128) (hc : ∀ i, i < 128 → w.cell? ⟨m, 8 + i, none⟩ = some (.bool (bad[i]?.getD false))) :
  Calls Tryz.prog 38 #[.slice (some ⟨m, 8, none⟩) 128 128, .bool true] w fun e w' => e = .returned (.bool (someB bad)) ∧ w' = w := by
 have hi := fun (_ : True) => index_bad m bad w hl hc
 clear hl hc
 cases hs : someB bad with
 | true =>
  rw [hs] at hi
  have HI := Lib.hid hi
  clear hi hs
  go_enter Tryz.func38, Tryz.ntmps38
  go_wp2_with fail
  refine (HI.out trivial).mono ?_
  rintro e w' ⟨r, rfl, rfl, h1, _⟩
  have hr : 0 ≤ r := h1 trivial
  clear h1
  go_wp2
  exact bodyPost_ret (v := .bool true) (by simp [results, Tryz.results38, go_sem, hr]) rfl ⟨rfl, rfl⟩
 | false =>
  rw [hs] at hi
  have HI := Lib.hid hi
  clear hi hs
  go_enter Tryz.func38, Tryz.ntmps38
  go_wp2_with fail
  refine (HI.out trivial).mono ?_
  rintro e w' ⟨r, rfl, rfl, _, h1⟩
  obtain rfl : r = -1 := h1 trivial
  clear h1
  go_wp2
  exact bodyPost_ret (v := .bool false) (by simp [results, Tryz.results38, go_sem]) rfl ⟨rfl, rfl⟩
end Go.Proofs.YtnhpcoagkmgdoaaGreat
/- Layer 10: a line goes back to a state. -/
namespace Go.Proofs.YtnhpcoagkmgdoaaGreat
open Go.RowKit Go.Q Go.Shelf Go.Maps
set_option maxRecDepth 100000
theorem zero_arr : Tryz.zeroCells73 = (List.replicate 128 (.bool false)).toArray := by kernel_rfl
section
variable {m mb : Nat} {v0 v1 v2 v3 v4 v5 v6 v7 : Value}
theorem ln_zeros : ∀ (n o : Nat) (W : World) (bad : List Bool), LnB W m mb v0 v1 v2 v3 v4 v5 v6 v7 bad → o + n ≤ 128 → ∃ bad', LnB (W.setCells m (8 + o) (List.replicate n (.bool false))) m mb v0 v1 v2 v3 v4 v5 v6 v7 bad' ∧
  ∀ i, i < 128 → (o ≤ i ∧ i < o + n → bad'[i]?.getD false = false) ∧ (i < o → bad'[i]?.getD false = bad[i]?.getD false)
 | 0, o, W, bad, h, _ => ⟨bad, h, fun i _ => ⟨fun h => by omega, fun _ => rfl⟩⟩
 | n + 1, o, W, bad, h, ho => by
  have h1 := h.setb o (by omega) false
  obtain ⟨bad', h2, h3⟩ := ln_zeros n (o + 1) _ _ h1 (by omega)
  refine ⟨bad', h2, fun i hi => ⟨fun hh => ?_, fun hh => ?_⟩⟩
  ·by_cases e : i = o
   ·subst e
    rw [(h3 i hi).2 (by omega), List.getElem?_set_self (by rw [h.len]; exact hi)]
    rfl
   ·exact (h3 i hi).1 (by omega)
  ·rw [(h3 i hi).2 (by omega), List.getElem?_set_ne (by omega)]
theorem ln_zero {W : World} {bad : List Bool} (h : LnB W m mb v0 v1 v2 v3 v4 v5 v6 v7 bad) : LnB (W.setCells m 8 (List.replicate 128 (.bool false))) m mb v0 v1 v2 v3 v4 v5 v6 v7 zerosB := by
 obtain ⟨bad', h1, h2⟩ := ln_zeros 128 0 W bad h (by omega)
 have e : bad' = zerosB := by
  unfold zerosB
  apply List.ext_getElem?
  intro i
  have hl := h1.len
  by_cases hi : i < 128
  ·have h3 := (h2 i hi).1 ⟨by omega, by omega⟩
   rw [List.getElem?_eq_getElem (by omega)] at h3 ⊢
   rw [List.getElem?_replicate, if_pos hi]
   exact congrArg some h3
  ·rw [List.getElem?_eq_none (by omega), List.getElem?_eq_none (by simp; omega)]
 rw [← e]
 exact h1
theorem kp_zeros : ∀ (vs : List Value) (o : Nat) (W : World), KpM (fun q => q = m) W (W.setCells m o vs)
 | [], _, W => KpM.refl _ W
 | v :: r, o, W => (kpm_set (M := fun q => q = m) W m o v rfl).trans (kp_zeros r (o + 1) _)
end
/-- the state to which Recover goes back -/
def LstAt (m mb : Nat) (X : World) (D : Nat) (t : St) : Prop := ∃ b1 b2 b3 e1 e2 e3, X.heap[D]? = some (.cells #[.slice b1 t.store.length e1, .slice b2 t.tape.length e2, .int .i64 t.taken, .slice b3 t.printed.length e3, .int .i64 t.time, .int .i64 t.at_, .int .i64 t.done, .int .i64 t.why] 24 (0, 0)) ∧
 IntsF (LX m mb (fun q => q = D)) X b1 t.store ∧ IntsF (LX m mb (fun q => q = D)) X b2 t.tape ∧ IntsF (LX m mb (fun q => q = D)) X b3 t.printed
theorem lst_far {m mb D : Nat} {X : World} {t : St} {L : List Loss} {z : Lm} {ex : Nat → Prop} (h : LstAt m mb X D t) (hz : LinAt X m mb L z ex) : ¬ LM m mb D := by
 obtain ⟨_, _, _, _, _, _, hD, _⟩ := h
 obtain ⟨a1, a2, a3, c1, c2, c3, hB, _, _, _, hM⟩ := hz
 obtain ⟨cs, h1, _⟩ := hB.blk
 obtain ⟨f, h2, _⟩ := hM
 obtain ⟨es, kk, h3⟩ := map_block h2
 rintro (rfl | rfl)
 ·rw [h1] at hD; cases hD
 ·rw [h3] at hD; cases hD
theorem LstAt.kp {m mb D : Nat} {X Y : World} {t : St} (h : LstAt m mb X D t) (hn : ¬ LM m mb D) (K : KpM (LM m mb) X Y) : LstAt m mb Y D t := by
 obtain ⟨b1, b2, b3, e1, e2, e3, hD, i1, i2, i3⟩ := h
 exact ⟨b1, b2, b3, e1, e2, e3, (K.block D (lt_of_block hD) hn).trans hD, i1.kp K (fun _ _ h => .inl h), i2.kp K (fun _ _ h => .inl h), i3.kp K (fun _ _ h => .inl h)⟩
/-- back to a state -/
theorem lin_back {Y V : World} {m mb : Nat} {L : List Loss} {z : Lm} {t : St} {b1 b2 b3 : Option Addr} {e1 e2 e3 : Nat} {ex : Nat → Prop} (hz : LinAt Y m mb L z ex) (i1 : IntsF (LX m mb ex) Y b1 t.store) (i2 : IntsF (LX m mb ex) Y b2 t.tape) (i3 : IntsF (LX m mb ex) Y b3 t.printed)
  (hV : V = (S8 Y m (.slice b1 t.store.length e1) (.slice b2 t.tape.length e2) (.int .i64 t.taken) (.slice b3 t.printed.length e3) (.int .i64 t.time) (.int .i64 t.at_) (.int .i64 t.done) (.int .i64 t.why)).setCells m 8 (List.replicate 128 (.bool false))) :
  LinAt V m mb L ⟨t, zerosB, z.gone⟩ ex ∧ KpM (LM m mb) Y V := by
 obtain ⟨a1, a2, a3, c1, c2, c3, hB, _, _, _, hM⟩ := hz
 have h8 := hB.set8 (.slice b1 t.store.length e1) (.slice b2 t.tape.length e2) (.int .i64 t.taken) (.slice b3 t.printed.length e3) (.int .i64 t.time) (.int .i64 t.at_) (.int .i64 t.done) (.int .i64 t.why)
 have K := (s8_kp (M := fun q => q = m) (w := Y) (b := m) (n0 := .slice b1 t.store.length e1) (n1 := .slice b2 t.tape.length e2) (n2 := .int .i64 t.taken) (n3 := .slice b3 t.printed.length e3) (n4 := .int .i64 t.time) (n5 := .int .i64 t.at_) (n6 := .int .i64 t.done) (n7 := .int .i64 t.why) rfl).trans (kp_zeros (m := m) (List.replicate 128 (.bool false)) 8 _)
 have h9 := ln_zero h8
 rw [← hV] at h9 K
 have hfar := lin_far hB hM
 have hne := lin_ne hB hM
 exact ⟨⟨b1, b2, b3, e1, e2, e3, h9, i1.kp K (fun b _ h => .inl (.inl h)), i2.kp K (fun b _ h => .inl (.inl h)), i3.kp K (fun b _ h => .inl (.inl h)), hM.kp K hne (fun b cs fr hb e => hfar.2 b cs fr hb (.inl e))⟩, K.mono fun q h => .inl h⟩
end Go.Proofs.YtnhpcoagkmgdoaaGreat

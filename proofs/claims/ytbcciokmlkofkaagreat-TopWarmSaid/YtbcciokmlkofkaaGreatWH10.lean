import Derived.Stop.RegionWithIn
import Derived.Test.YtbcciokmlkofkaaGreatWH9
set_option linter.unusedVariables false
set_option linter.unusedSimpArgs false
/- Contract of layer 1: Pass where it succeeds. -/
namespace Go.Proofs.YtbcciokmlkofkaaGreat
open Go.RowKit Go.Q Go.Shelf
attribute [local go_sem] Oper.semAt_some
set_option maxHeartbeats 1000000 in
theorem rounds_in {F : Fence} {n : Nat} (hF : F.fn 41) (hro : F.round = none) (l : Ln) (v1 v2 : Value) (h1 : v1.oneCell' = true) (h2 : v2.oneCell' = true) (a1 a2 : Option Addr) (n1 n2 c1 c2 : Nat) (e1 : v1 = .slice a1 n1 c1) (e2 : v2 = .slice a2 n2 c2) (w : World) :
    CallsIn F n Tryz.prog 41 #[.agg #[.int .i64 l.words, .int .i64 l.bits, .int .i64 l.period, .int .i64 l.delay, .int .i64 l.slope, .int .i64 l.window], .slice a1 n1 c1, .slice a2 n2 c2] w fun e w' =>
      e = .returned (.func (.func 68) #[] #[.pointer (some ⟨w.heap.size + 2, 0, none⟩), .pointer (some ⟨w.heap.size + 1, 0, none⟩), .pointer (some ⟨w.heap.size, 0, none⟩)]) ∧
      ((w.alloc (.cells #[.int .i64 l.words, .int .i64 l.bits, .int .i64 l.period, .int .i64 l.delay, .int .i64 l.slope, .int .i64 l.window] 57)).alloc (.cells #[.slice a1 n1 c1] 89)).alloc (.cells #[.slice a2 n2 c2] 22) = w' := by
  refine callsIn_of_wp Tryz.func41 rfl hF ?_ hro
  simp only [Tryz.ntmps41, List.size_toArray, List.length_cons, List.length_nil, Nat.reduceAdd, Nat.reduceSub, Array.replicate_succ, Array.replicate_zero, List.push_toArray, List.append_toArray, List.nil_append, List.cons_append]
  gi_wp2
  go_ret
  exact ⟨rfl, rfl⟩
theorem own_ints2 {w : World} {B n c : Nat} {a : Option Addr} {xs : List Int} (h : w.ownsRow B 3 1 (.slice a n c) n (iv xs)) : xs = [] ∨ ∃ b off, a = some ⟨b, off, none⟩ ∧ B ≤ b ∧ b < w.heap.size ∧ ∀ i, i < xs.length → w.cell? ⟨b, off + i, none⟩ = some (.int .i64 (xs[i]?.getD 0)) := by
  rcases h.2 with ⟨h1, h2⟩ | ⟨g, cap, cur, h1, h2, h3, h4, h5, h6, h7⟩
  · left
    have h0 := h.1
    rw [iv_length, h2] at h0
    simpa using h0
  · obtain ⟨rfl, -, -⟩ := Value.slice.inj h1
    refine .inr ⟨g, 0, rfl, h2, (Array.getElem?_eq_some_iff.1 h3).1, fun i hi => ?_⟩
    have := World.ownsRow.cells h (g := g) rfl i (.int .i64 (xs[i]?.getD 0)) (iv_get xs i hi)
    rw [Addr.add_lit] at this
    exact this
theorem own_intsL {w : World} {B n c : Nat} {a : Option Addr} {xs : List Int} (h : w.ownsRow B 3 1 (.slice a n c) n (iv xs)) : IntsAt w a xs :=
  (own_ints2 h).imp id fun ⟨b, off, ha, _, hb, hc⟩ => ⟨b, off, ha, hb, hc⟩
theorem pass_fin {l : Ln} {ws ts : List Int} {w W w6 : World} {a6 : Option Addr} {B k6 D b : Nat} {at_ : Int} {v : Value} (ho : w6.ownsRow B 3 1 (.slice a6 l.words.toNat k6) l.words.toNat (iv (passW l ws ts))) (E : Ext w W) (e6 : Ext W w6) (hD : w.heap.size ≤ D) (hb : w.heap.size ≤ b) (hD2 : D < B) (hb2 : b < B) :
    PassRes (passW l ws ts, at_, 0) w (.returned (.tuple #[.slice a6 l.words.toNat k6, .int .i64 at_, .int .i64 0])) ((w6.setCell ⟨b, 0, none⟩ v).putObj D (.deferred none)) := by
  have hl : (passW l ws ts).length = l.words.toNat := by unfold passW wordsN; rw [fstN_length]
  have kk : KpM (fun x => x = b ∨ x = D) w6 ((w6.setCell ⟨b, 0, none⟩ v).putObj D (.deferred none)) := (KpM.set w6 b v (.inl rfl)).trans (KpM.put _ D _ (.inr rfl))
  refine ⟨a6, k6, by rw [hl], ?_, Ext.below5 (E.comp e6) kk (by omega)⟩
  rcases own_ints2 ho with h | ⟨g, off, ha, hB, hg, hc⟩
  · exact .inl h
  · exact .inr ⟨g, off, ha, Nat.lt_of_lt_of_le hg kk.size, fun i hi => (kk.cell hg (by omega)).trans (hc i hi)⟩
set_option maxRecDepth 100000 in
set_option maxHeartbeats 8000000 in
theorem pass_good (l : Ln) (a1 a2 : Option Addr) (n1 n2 c1 c2 : Nat) (ws ts : List Int) (w : World) (l1 : ws.length = n1) (l2 : ts.length = n2)
    (i1 : IntsAt w a1 ws) (i2 : IntsAt w a2 ts) (hx : passX l ws ts = 0) :
    Calls Tryz.prog 8 #[.agg #[.int .i64 l.words, .int .i64 l.bits, .int .i64 l.period, .int .i64 l.delay, .int .i64 l.slope, .int .i64 l.window], .slice a1 n1 c1, .slice a2 n2 c2] w (PassRes (passE l ws ts) w) := by
  have hE : passE l ws ts = (passW l ws ts, atL l ts, 0) := by unfold passE; rw [if_pos hx]
  rw [hE]
  have hck := fun W => check_anyL l W
  cases ho : okL l with
  | false => unfold passX at hx; rw [if_pos ho] at hx; omega
  | true =>
  rw [checkL_of ho] at hck
  have hok := okL_ok ho
  have hwe : wordsE l ws = 0 := by
    unfold passX at hx
    rw [ho, if_neg (by simp)] at hx
    split at hx <;> rename_i h
    · omega
    · omega
  have h60 : n2 ≤ 60 := by
    unfold passX at hx
    rw [ho, if_neg (by simp), if_neg (by omega)] at hx
    split at hx <;> rename_i h <;> omega
  have hst : ts.any (fun t => !tempB t) = false := by
    unfold passX at hx
    rw [ho, if_neg (by simp), if_neg (by omega), if_neg (by omega)] at hx
    cases h : ts.any (fun t => !tempB t) with
    | false => rfl
    | true => rw [h, if_pos rfl] at hx; omega
  have hwl : (n1 : Int) = l.words := by
    unfold wordsE at hwe
    rw [l1] at hwe
    split at hwe <;> rename_i h
    · omega
    · omega
  have hwb : ∀ x ∈ ws, 0 ≤ x ∧ x < 2 ^ l.bits.toNat := by
    rw [wordsE_eq (by omega)] at hwe
    intro x hm
    split at hwe
    · omega
    · rename_i h
      rw [Bool.not_eq_true, List.any_eq_false] at h
      have := h x hm
      have h2 : inB x 0 (2 ^ l.bits.toNat - 1) = true := by simpa using this
      have := inB_bd h2
      omega
  have hw64 := hok.words
  have htk := fun W (E : Ext w W) => tcheck_any l a1 n1 c1 ws W hok l1 (by omega) (i1.ext E)
  rw [hwe] at htk
  have hcn := fun W (E : Ext w W) => contains_any 39 #[] (fun t => !tempB t) a2 n2 c2 ts W (fun args w => enters_of Tryz.func39 (by kernel_rfl) rfl args w)
    (fun W' x E' => (strange_anyL x W').mono fun _ _ he => ⟨he.1, by rw [← he.2]; exact E'⟩) l2 (by omega) (i2.ext E)
  rw [hst] at hcn
  have hpu := fun W (E : Ext w W) => pulses_any l a1 n1 c1 ws W hok l1 (by omega) (i1.ext E) hwb
  have HT : Hid (∀ t ∈ ts, tempB t = true) := Lib.hid (fun t ht => by
    rw [List.any_eq_false] at hst
    simpa using hst t ht)
  have HL2 := Lib.hid l2
  have HI2 := Lib.hid i2
  have HB := Lib.hid (show ((n1 * l.bits.toNat : Nat) : Int) = beatsL l by
    have := hok.bits
    unfold beatsL
    rw [← hwl]
    push_cast
    congr 1
    omega)
  have HPL := Lib.hid (show (pulsesN l.bits.toNat ws).length = n1 * l.bits.toNat by rw [pulsesN_length, l1])
  clear hE hx ho i1 i2 hwe hst l1 l2 hwb
  refine (callsIn_wide (n := 9)).1 ?_
  refine callsIn_of_wp_marks Tryz.func8 rfl trivial ?_ rfl
  simp only [Tryz.ntmps8, List.size_toArray, List.length_cons, List.length_nil, Nat.reduceAdd, Nat.reduceSub, Array.replicate_succ, Array.replicate_zero, List.push_toArray, List.append_toArray, List.nil_append, List.cons_append]
  gi_wp2_with fail
  refine ⟨trivial, ?_⟩
  refine (callsIn_wide.2 (hck _)).mono ?_
  rintro e w1 ⟨rfl, E1⟩
  have c0 := box_at (v := .int .i64 l.words) E1.old 0 rfl
  have c1 := box_at (v := .int .i64 l.bits) E1.old 1 rfl
  have c2 := box_at (v := .int .i64 l.period) E1.old 2 rfl
  have c3 := box_at (v := .int .i64 l.delay) E1.old 3 rfl
  have c4 := box_at (v := .int .i64 l.slope) E1.old 4 rfl
  have c5 := box_at (v := .int .i64 l.window) E1.old 5 rfl
  have z0 := box_at2 (v := .int .i64 0) E1 0 rfl
  have f0 := box_free2 E1 0
  gi_wp2_with fail
  refine ⟨trivial, ?_⟩
  refine (callsIn_wide.2 (htk _ (by repeat (first | with_reducible exact E1.old.old | with_reducible refine Ext.alloc ?_ _ | with_reducible refine Below.drew ?_)))).mono ?_
  rintro e w2 ⟨rfl, E2⟩
  have E3 := E1.old.old.comp E2.old
  gi_wp2_with fail
  refine ⟨trivial, ?_⟩
  refine (callsIn_wide.2 (hcn _ (by first | exact E3 | exact E3.alloc _))).mono ?_
  rintro e w3 ⟨rfl, E4⟩
  have E34 := E2.comp E4
  have z1 := w1.heap.size
  have hzs : w.heap.size + 1 < w1.heap.size := by have := E1.size; simp at this; omega
  have t0 := box_at (v := .int .i64 l.words) E34 0 rfl
  have t1 := box_at (v := .int .i64 l.bits) E34 1 rfl
  have t2 := box_at (v := .int .i64 l.period) E34 2 rfl
  have t3 := box_at (v := .int .i64 l.delay) E34 3 rfl
  have t4 := box_at (v := .int .i64 l.slope) E34 4 rfl
  have t5 := box_at (v := .int .i64 l.window) E34 5 rfl
  have E6 := E3.comp E4
  gi_wp2_with fail
  refine ⟨trivial, ?_⟩
  refine (callsIn_wide.2 (hpu _ E6)).mono ?_
  rintro e w4 ⟨ap, kp, rfl, ho4, E5⟩
  generalize hNN : (pulsesN l.bits.toNat ws).length = NN at ho4 ⊢
  have E45 := E34.comp E5
  have s0 := fun o1 o2 => box_at (v := .int .i64 l.words) ((E45.alloc o1).alloc o2) 0 rfl
  have s1 := fun o1 o2 => box_at (v := .int .i64 l.bits) ((E45.alloc o1).alloc o2) 1 rfl
  have s2 := fun o1 o2 => box_at (v := .int .i64 l.period) ((E45.alloc o1).alloc o2) 2 rfl
  have s3 := fun o1 o2 => box_at (v := .int .i64 l.delay) ((E45.alloc o1).alloc o2) 3 rfl
  have s4 := fun o1 o2 => box_at (v := .int .i64 l.slope) ((E45.alloc o1).alloc o2) 4 rfl
  have s5 := fun o1 o2 => box_at (v := .int .i64 l.window) ((E45.alloc o1).alloc o2) 5 rfl
  have E14 := (E1.comp E2.old).comp (E4.comp E5)
  have y0 := fun o1 o2 => box_at2 (v := .int .i64 0) ((E14.alloc o1).alloc o2) 0 rfl
  have y1 := fun o1 o2 => box_free2 ((E14.alloc o1).alloc o2) 0
  have hz4 : w1.heap.size < w4.heap.size := by have := E45.size; simp at this; omega
  clear t0 t1 t2 t3 t4 t5 c0 c1 c2 c3 c4 c5 z0 f0
  have EW : Ext w (((w4.alloc (.cells #[.slice ap NN kp] 89)).alloc (.cells #[.int .i64 0] 3)).setCell ⟨w.heap.size + 1, 0, none⟩ (.int .i64 (-1))) :=
    (((E6.comp E5).alloc _).alloc _).setCell (p := ⟨w.heap.size + 1, 0, none⟩) (Nat.le_succ _) _
  have b7 : Boxed (((w4.alloc (.cells #[.slice ap NN kp] 89)).alloc (.cells #[.int .i64 0] 3)).setCell ⟨w.heap.size + 1, 0, none⟩ (.int .i64 (-1))) (w.heap.size + 1) 3 (.int .i64 (-1)) := by
    have h0 : Boxed ((w.alloc (.cells #[.int .i64 l.words, .int .i64 l.bits, .int .i64 l.period, .int .i64 l.delay, .int .i64 l.slope, .int .i64 l.window] 26)).alloc (.cells #[.int .i64 0] 3)) (w.heap.size + 1) 3 (.int .i64 0) := by
      have := Boxed.new (w.alloc (.cells #[.int .i64 l.words, .int .i64 l.bits, .int .i64 l.period, .int .i64 l.delay, .int .i64 l.slope, .int .i64 l.window] 26)) 3 (.int .i64 0)
      rwa [World.size_alloc] at this
    exact (((boxed_ext1 h0 E14).alloc _).alloc _).set _
  have b10 : Boxed (((w4.alloc (.cells #[.slice ap NN kp] 89)).alloc (.cells #[.int .i64 0] 3)).setCell ⟨w.heap.size + 1, 0, none⟩ (.int .i64 (-1))) w4.heap.size 89 (.slice ap NN kp) :=
    ((Boxed.new w4 _ _).alloc _).other (by omega) _
  have b11 : Boxed (((w4.alloc (.cells #[.slice ap NN kp] 89)).alloc (.cells #[.int .i64 0] 3)).setCell ⟨w.heap.size + 1, 0, none⟩ (.int .i64 (-1))) (w4.heap.size + 1) 3 (.int .i64 0) := by
    have := Boxed.new (w4.alloc (.cells #[.slice ap NN kp] 89)) 3 (.int .i64 0)
    rw [World.size_alloc] at this
    exact this.other (by omega) _
  have E40 : Below w1.heap.size w4 (((w4.alloc (.cells #[.slice ap NN kp] 89)).alloc (.cells #[.int .i64 0] 3)).setCell ⟨w.heap.size + 1, 0, none⟩ (.int .i64 (-1))) → True := fun _ => trivial
  have K40 : KpM (fun b => b = w.heap.size + 1) w4 (((w4.alloc (.cells #[.slice ap NN kp] 89)).alloc (.cells #[.int .i64 0] 3)).setCell ⟨w.heap.size + 1, 0, none⟩ (.int .i64 (-1))) := KpM.store (((Ext.refl w4).alloc _).alloc _) _ _
  gi_wp2_with fail
  refine ⟨trivial, ?_⟩
  refine (rounds_in trivial rfl l _ _ rfl rfl _ _ _ _ _ _ rfl rfl _).mono ?_
  rintro e w' ⟨rfl, rfl⟩
  clear y0 y1 s0 s1 s2 s3 s4 s5 hck htk hcn hpu
  obtain ⟨W0, hW0⟩ : ∃ W0, (((w4.alloc (.cells #[.slice ap NN kp] 89)).alloc (.cells #[.int .i64 0] 3)).setCell ⟨w.heap.size + 1, 0, none⟩ (.int .i64 (-1))) = W0 := ⟨_, rfl⟩
  have hs0 : W0.heap.size = w4.heap.size + 2 := by rw [← hW0]; simp
  rw [hW0] at EW b7 b10 b11 K40 ⊢
  clear hW0 E40
  gi_wp2_with fail
  obtain ⟨W5, hW5⟩ : ∃ W5, (((W0.alloc (.cells #[.int .i64 l.words, .int .i64 l.bits, .int .i64 l.period, .int .i64 l.delay, .int .i64 l.slope, .int .i64 l.window] 57)).alloc (.cells #[.slice ap NN kp] 89)).alloc (.cells #[.slice a2 n2 c2] 22)) = W5 := ⟨_, rfl⟩
  have hs5 : W5.heap.size = w4.heap.size + 5 := by rw [← hW5]; simp; omega
  have E05 : Ext W0 W5 := by rw [← hW5]; exact (((Ext.refl W0).alloc _).alloc _).alloc _
  have hBl : W5.heap[w4.heap.size + 2]? = some (.cells #[.int .i64 l.words, .int .i64 l.bits, .int .i64 l.period, .int .i64 l.delay, .int .i64 l.slope, .int .i64 l.window] 57 (0, 0)) := by
    rw [← hs0, ← hW5]
    exact (Below.heap_alloc _ _ _ (by simp; omega)).trans ((Below.heap_alloc _ _ _ (by simp)).trans (heap_alloc_new W0 _))
  have hBp : Boxed W5 (w4.heap.size + 2 + 1) 89 (.slice ap NN kp) := by
    have := (Boxed.new (W0.alloc (.cells #[.int .i64 l.words, .int .i64 l.bits, .int .i64 l.period, .int .i64 l.delay, .int .i64 l.slope, .int .i64 l.window] 57)) 89 (.slice ap NN kp)).alloc (.cells #[.slice a2 n2 c2] 22)
    rw [World.size_alloc, hs0, hW5] at this
    exact this
  have hBt : Boxed W5 (w4.heap.size + 2 + 2) 22 (.slice a2 n2 c2) := by
    have := Boxed.new ((W0.alloc (.cells #[.int .i64 l.words, .int .i64 l.bits, .int .i64 l.period, .int .i64 l.delay, .int .i64 l.slope, .int .i64 l.window] 57)).alloc (.cells #[.slice ap NN kp] 89)) 22 (.slice a2 n2 c2)
    rw [World.size_alloc, World.size_alloc, hs0, hW5] at this
    exact this
  rw [hW5]
  clear hW5
  obtain ⟨M, hM⟩ : ∃ M : Nat → Prop, M = fun b => b = w.heap.size + 1 ∨ b = w4.heap.size ∨ b = w4.heap.size + 1 ∨ b = w4.heap.size + 5 ∨ b = w4.heap.size + 6 := ⟨_, rfl⟩
  have hMb : ∀ b, M b → b < w4.heap.size + 7 := by rw [hM]; intro b h; omega
  have hNNb : 1 ≤ NN := by
    have h1 := hok.beats
    have h2 := HB.out
    have h3 := HPL.out
    omega
  obtain ⟨hkp, hp0⟩ : (NN ≤ kp ∧ kp ≤ 9223372036854775807) ∧ PulsesM (fun b => M b ∨ b = w4.heap.size + 2 + 1) W0 ap (pulsesN l.bits.toNat ws) := by
    have hlt4 := ho4.lt
    rcases ho4.2 with ⟨h1, h2⟩ | ⟨g, cap, cur, h1, h2, h3, h4, h5, h6, h7⟩
    · omega
    · obtain ⟨rfl, -, rfl⟩ := Value.slice.inj h1
      have hz3 : w1.heap.size < w3.heap.size := by have := E34.size; simp at this; omega
      have hg4 : g < w4.heap.size := (hlt4 g rfl).2
      refine ⟨⟨h4, by unfold maxLen at h5; omega⟩, ⟨g, 0, rfl, by omega, by rw [hM]; omega, fun i hi => ?_⟩⟩
      rw [Nat.zero_add, K40.cell hg4 (by omega)]
      have := ho4.cells (g := g) rfl i (.bool ((pulsesN l.bits.toNat ws)[i]?.getD false)) (bvL_get _ i hi)
      rw [Addr.add_lit, Nat.zero_add] at this
      exact this
  refine wpIn_rangeFunc_J (n := 9) (α := (Option Addr × Nat) × Bool) (gf := 68) (lb := #[.pointer (some ⟨w4.heap.size + 2 + 2, 0, none⟩), .pointer (some ⟨w4.heap.size + 2 + 1, 0, none⟩), .pointer (some ⟨w4.heap.size + 2, 0, none⟩)]) rfl (enters_of Tryz.func68 (by kernel_rfl) rfl)
    (encs := fun x => #[.slice x.1.1 NN x.1.2, .bool x.2]) (fun _ => rfl)
    (fun k W => (∃ a c, (NN ≤ c ∧ c ≤ 9223372036854775807) ∧ Boxed W w4.heap.size 89 (.slice a NN c) ∧ PulsesM (fun b => M b ∨ b = w4.heap.size + 2 + 1) W a (roundsP l (pulsesN l.bits.toNat ws) (ts.take k))) ∧ Boxed W (w4.heap.size + 1) 3 (.int .i64 k) ∧ Boxed W (w.heap.size + 1) 3 (.int .i64 (atL l (ts.take k))) ∧ KpM (fun b => M b) W0 W)
    (fun k x W => PulsesM (fun b => M b ∨ b = w4.heap.size + 2 + 1) W x.1.1 (roundsP l (pulsesN l.bits.toNat ws) (ts.take (k + 1))) ∧ (NN ≤ x.1.2 ∧ x.1.2 ≤ 9223372036854775807) ∧ x.2 = lostL l (ts[k]?.getD 0))
    n2 (KpM M) (fun h k => h.trans k) ?kb ?tj ?tx ?h0 ?call
    (fun x => { tmps := #[.agg #[.int .i64 l.words, .int .i64 l.bits, .int .i64 l.period, .int .i64 l.delay, .int .i64 l.slope, .int .i64 l.window], .slice a1 n1 c1, .slice a2 n2 c2, .pointer (some ⟨w.heap.size, 0, none⟩), undef, undef, .slice none 0 0, .pointer (some ⟨w.heap.size + 1, 0, none⟩), .int .i64 0, .pointer (some ⟨w1.heap.size, 0, none⟩), .pointer (some ⟨w4.heap.size, 0, none⟩), .pointer (some ⟨w4.heap.size + 1, 0, none⟩), .slice x.1.1 NN x.1.2, .bool x.2, .agg #[.int .i64 l.words, .int .i64 l.bits, .int .i64 l.period, .int .i64 l.delay, .int .i64 l.slope, .int .i64 l.window], .int .i64 0, .int .i64 0, .bool false, undef, .agg #[.int .i64 l.words, .int .i64 l.bits, .int .i64 l.period, .int .i64 l.delay, .int .i64 l.slope, .int .i64 l.window], .agg #[.int .i64 l.words, .int .i64 l.bits, .int .i64 l.period, .int .i64 l.delay, .int .i64 l.slope, .int .i64 l.window], .agg #[.int .i64 l.words, .int .i64 l.bits, .int .i64 l.period, .int .i64 l.delay, .int .i64 l.slope, .int .i64 l.window], .slice a1 n1 c1, .int .i64 0, .bool false, .int .i64 0, .bool false, undef, .bool (decide (60 < (n2 : Int))), .slice a2 n2 c2, .int .i64 n2, .bool (decide (60 < (n2 : Int))), .bool false, .slice a2 n2 c2, .bool false, .agg #[.int .i64 l.words, .int .i64 l.bits, .int .i64 l.period, .int .i64 l.delay, .int .i64 l.slope, .int .i64 l.window], .slice a1 n1 c1, .slice ap NN kp, .agg #[.int .i64 l.words, .int .i64 l.bits, .int .i64 l.period, .int .i64 l.delay, .int .i64 l.slope, .int .i64 l.window], .slice ap NN kp, .slice a2 n2 c2, .func (.func 68) #[] #[.pointer (some ⟨w4.heap.size + 2 + 2, 0, none⟩), .pointer (some ⟨w4.heap.size + 2 + 1, 0, none⟩), .pointer (some ⟨w4.heap.size + 2, 0, none⟩)], .slice x.1.1 NN x.1.2, .bool x.2, undef, undef, undef, undef, undef, undef, undef, undef, undef, undef, undef, undef, undef], defers := [] }) ?assign ?body ?done
  case kb => exact fun W _ o' _ _ => KpM.put W _ o' (by rw [hM, hs5]; exact .inr (.inr (.inr (.inr rfl))))
  case tj =>
    rintro k W o o' ⟨⟨a, c, hc, h1, h2⟩, h3, h4, h5⟩ ho hn
    have kp := KpM.put (M := fun b => b = W5.heap.size + 1) W (W5.heap.size + 1) o' rfl
    have kq : KpM (fun b => M b ∨ b = w4.heap.size + 2 + 1) W (W.putObj (W5.heap.size + 1) o') := KpM.put W _ o' (.inl (by rw [hM, hs5]; exact .inr (.inr (.inr (.inr rfl)))))
    exact ⟨⟨a, c, hc, boxed_kp h1 kp (by omega), h2.keep kq⟩, boxed_kp h3 kp (by omega), boxed_kp h4 kp (by omega), h5.trans (KpM.put W _ o' (by rw [hM, hs5]; exact .inr (.inr (.inr (.inr rfl)))))⟩
  case tx =>
    rintro k x W o o' ⟨h1, h2⟩ ho hn
    exact ⟨h1.keep (KpM.put W _ o' (.inl (by rw [hM, hs5]; exact .inr (.inr (.inr (.inr rfl)))))), h2⟩
  case h0 =>
    intro W E
    have E' := E05.comp E
    exact ⟨⟨ap, kp, hkp, boxed_ext1 b10 E', hp0.keep (KpM.of_ext E')⟩, boxed_ext1 b11 E', boxed_ext1 b7 E', KpM.of_ext E'⟩
  case call =>
    intro yl JJ W1 E1' hlt hJJ hJk hY h0
    have hT2 : ts = [] ∨ ∃ b off, a2 = some ⟨b, off, none⟩ ∧ b < W1.heap.size ∧ ¬ M b ∧ b ≠ w4.heap.size + 2 + 1 ∧ ∀ i, i < ts.length → W1.cell? ⟨b, off + i, none⟩ = some (.int .i64 (ts[i]?.getD 0)) := by
      refine HI2.out.imp id ?_
      rintro ⟨b, off, ha, hb, hc⟩
      have EE := (EW.comp E05).comp E1'
      exact ⟨b, off, ha, Nat.lt_of_lt_of_le hb EE.size, by rw [hM]; omega, by omega, fun i hi => (EE.cell (p := ⟨b, off + i, none⟩) hb).trans (hc i hi)⟩
    have hsz1 := E1'.size
    have hAl : ∀ k A, JJ k A → W5.heap.size < A.heap.size ∧ W5.heap.size + 1 < A.heap.size := fun k A h => ⟨by have := (hJJ k A h).2; omega, (hJJ k A h).2⟩
    refine rounds1_in 8 (by decide) yl (w4.heap.size + 2 + 2) (w4.heap.size + 2 + 1) (w4.heap.size + 2) l hok a2 n2 c2 ts HL2.out h60 HT.out NN (by rw [← hNN, HPL.out]; exact HB.out) (pulsesN l.bits.toNat ws) hNN M (w4.heap.size + 7) hMb JJ W1 (by omega)
      ?_ (by rw [hM]; omega) (by rw [hM]; omega) (by rw [hM]; omega) (by omega) (by omega) (by omega) (by omega) (by omega)
      ?_ ap kp hkp h0 ((E1'.cell (p := ⟨w4.heap.size + 2 + 2, 0, none⟩) (by show w4.heap.size + 2 + 2 < _; omega)).trans hBt.cell) (boxed_ext1 hBp E1') (hp0.keep (KpM.of_ext (E05.comp E1'))) ((E1'.block _ (by omega)).trans hBl) hT2
    · intro k A B hA hk
      obtain ⟨⟨a, c, hc, h1, h2⟩, h3, h4, h5⟩ := (hJJ k A hA).1
      have hAs := h3.lt
      refine hJk k A B hA ⟨⟨a, c, hc, boxed_kp h1 hk (by omega), h2.keep (hk.mono (fun _ h => .inr h))⟩, boxed_kp h3 hk (by omega), boxed_kp h4 hk (by omega), ?_⟩ ?_ ?_
      · exact ⟨Nat.le_trans h5.size hk.size, fun b hb hm => (hk.block b (Nat.lt_of_lt_of_le hb h5.size) (by omega)).trans (h5.block b hb hm), hk.os.trans h5.os, hk.tape.trans h5.tape, hk.output.trans h5.output⟩
      · exact hk.block _ (hAl k A hA).1 (by omega)
      · exact hk.block _ (hAl k A hA).2 (by omega)
    · intro k a c A hA hk hc1 hc2 hp
      exact hY k ((a, c), lostL l (ts[k]?.getD 0)) A hA hk ⟨hp, ⟨hc1, hc2⟩, rfl⟩
  case assign =>
    intro l' x W K hK
    gi_wp2
    exact hK
  case body =>
    rintro l' k x W ⟨⟨a, c, hc, h1, h2⟩, h3, h4, h5⟩ hk ⟨g1, g2, g3⟩
    obtain ⟨⟨xa, xc⟩, xb⟩ := x
    dsimp only at g1 g2 g3 ⊢
    have hk63 : (k : Int) + 1 ≤ 9223372036854775807 := by omega
    have c1 := h1.cell
    have f1 := h1.frozen
    have c3 := h3.cell
    have f3 := h3.frozen
    have c4 := h4.cell
    have f4 := h4.frozen
    have hsn : ts.take (k + 1) = ts.take k ++ [ts[k]?.getD 0] := by
      have hk' : k < ts.length := by rw [HL2.out]; exact hk
      rw [List.take_succ_eq_append_getElem hk', List.getElem?_eq_getElem hk']; rfl
    have hat : atL l (ts.take (k + 1)) = if 0 ≤ atL l (ts.take k) then atL l (ts.take k) else if xb = true then (k : Int) else -1 := by
      unfold atL
      rw [hsn, idxQ_snoc, ← g3, List.length_take, HL2.out, Nat.min_eq_left (by omega)]
    have hab := idxQ_lt (lostL l) (ts.take k)
    obtain ⟨y, hy⟩ : ∃ y, atL l (ts.take k) = y := ⟨_, rfl⟩
    rw [hy] at hat c4 h4
    have hyb : -1 ≤ y := by rw [← hy]; exact hab.1
    have HAT := Lib.hid hat
    clear hat hy hab hsn g3
    have hd1 : w4.heap.size ≠ w4.heap.size + 1 := by omega
    have hd2 : w4.heap.size ≠ w.heap.size + 1 := by omega
    have hd3 : w4.heap.size + 1 ≠ w.heap.size + 1 := by omega
    have k1 : KpM M W (W.setCell ⟨w4.heap.size, 0, none⟩ (.slice xa NN xc)) := KpM.set W _ _ (by rw [hM]; exact .inr (.inl rfl))
    have k2 : ∀ X v, KpM M X (X.setCell ⟨w4.heap.size + 1, 0, none⟩ v) := fun X v => KpM.set X _ _ (by rw [hM]; exact .inr (.inr (.inl rfl)))
    have k3 : ∀ X v, KpM M X (X.setCell ⟨w.heap.size + 1, 0, none⟩ v) := fun X v => KpM.set X _ _ (by rw [hM]; exact .inl rfl)
    have HD := Lib.hid (And.intro hd1 (And.intro hd2 hd3))
    have fin : ∀ (X : World), KpM M W X → KeepsFrom W5.heap.size W X → Boxed X w4.heap.size 89 (.slice xa NN xc) → Boxed X (w4.heap.size + 1) 3 (.int .i64 ((k + 1 : Nat) : Int)) → Boxed X (w.heap.size + 1) 3 (.int .i64 (atL l (ts.take (k + 1)))) →
        ∀ act, JPost W5.heap.size (KpM M) (fun W => (∃ a c, (NN ≤ c ∧ c ≤ 9223372036854775807) ∧ Boxed W w4.heap.size 89 (.slice a NN c) ∧ PulsesM (fun b => M b ∨ b = w4.heap.size + 2 + 1) W a (roundsP l (pulsesN l.bits.toNat ws) (ts.take (k + 1)))) ∧ Boxed W (w4.heap.size + 1) 3 (.int .i64 ((k + 1 : Nat) : Int)) ∧ Boxed W (w.heap.size + 1) 3 (.int .i64 (atL l (ts.take (k + 1)))) ∧ KpM (fun b => M b) W0 W) W .normal act X :=
      fun X kx kf x1 x2 x3 act => ⟨rfl, kf, kx, ⟨xa, xc, g2, x1, g1.keep (kx.mono (fun _ h => .inl h))⟩, x2, x3, h5.trans kx⟩
    have HF := Lib.hid fin
    have HM := Lib.hid hM
    have HS5 := Lib.hid hs5
    have HS0 := Lib.hid hs0
    have HMB := Lib.hid hMb
    have hsl1 : Boxed (W.setCell ⟨w4.heap.size, 0, none⟩ (.slice xa NN xc)) w4.heap.size 89 (.slice xa NN xc) := h1.set _
    have hsl3 : Boxed (W.setCell ⟨w4.heap.size, 0, none⟩ (.slice xa NN xc)) (w4.heap.size + 1) 3 (.int .i64 k) := h3.other (by omega) _
    have hsl4 : Boxed (W.setCell ⟨w4.heap.size, 0, none⟩ (.slice xa NN xc)) (w.heap.size + 1) 3 (.int .i64 y) := h4.other (by omega) _
    clear fin hM hs5 hs0 hMb g1 hd1 hd2 hd3
    cases xb with
    | false =>
      gi_wp2
      have ey : atL l (ts.take (k + 1)) = y := by
        rw [HAT.out]
        split
        · rfl
        · rw [if_neg (by simp)]; omega
      exact HF.out _ (k1.trans (k2 _ _)) (((KeepsOthers.setCell _ _ _).trans (KeepsOthers.setCell _ _ _)).from _) (hsl1.other HD.out.1 _) (hsl3.set _) (by rw [ey]; exact hsl4.other (by omega) _) _
    | true =>
      by_cases hy0 : y < 0
      · gi_wp2
        have ey : atL l (ts.take (k + 1)) = k := by rw [HAT.out, if_neg (by omega)]; simp
        exact HF.out _ (k1.trans ((k3 _ _).trans (k2 _ _))) ((((KeepsOthers.setCell _ _ _).trans (KeepsOthers.setCell _ _ _)).trans (KeepsOthers.setCell _ _ _)).from _) ((hsl1.other HD.out.2.1 _).other HD.out.1 _) ((hsl3.other HD.out.2.2 _).set _) (by rw [ey]; exact (hsl4.set _).other (by omega) _) _
      · gi_wp2
        have ey : atL l (ts.take (k + 1)) = y := by rw [HAT.out, if_pos (by omega)]
        exact HF.out _ (k1.trans (k2 _ _)) (((KeepsOthers.setCell _ _ _).trans (KeepsOthers.setCell _ _ _)).from _) (hsl1.other HD.out.1 _) (hsl3.set _) (by rw [ey]; exact hsl4.other (by omega) _) _
  case done =>
    rintro D W hD ⟨⟨a, c, hc, h1, h2⟩, h3, h4, h5⟩ hK
    rw [show ts.take n2 = ts from List.take_of_length_le (by rw [HL2.out]; exact Nat.le_refl _)] at h2 h4
    have hsz := h5.size
    have hm1 : ¬ M w1.heap.size := by rw [hM]; omega
    have hbT : W.heap[w1.heap.size]? = some (.cells #[.int .i64 l.words, .int .i64 l.bits, .int .i64 l.period, .int .i64 l.delay, .int .i64 l.slope, .int .i64 l.window] 57 (0, 0)) :=
      (h5.block _ (by omega) hm1).trans ((K40.block _ hz4 (by omega)).trans ((E45.block _ (by simp)).trans (heap_alloc_new w1 _)))
    have c0 := blk_cell hbT 0 (v := .int .i64 l.words) rfl
    have c1' := blk_cell hbT 1 (v := .int .i64 l.bits) rfl
    have c2' := blk_cell hbT 2 (v := .int .i64 l.period) rfl
    have c3 := blk_cell hbT 3 (v := .int .i64 l.delay) rfl
    have c4 := blk_cell hbT 4 (v := .int .i64 l.slope) rfl
    have c5 := blk_cell hbT 5 (v := .int .i64 l.window) rfl
    have d1 := h1.cell
    have d4 := h4.cell
    have f4 := h4.frozen
    have EWW : Ext w W := EW.below5 h5 (by rw [hM]; omega)
    have hpa : PulsesAt W a (roundsP l (pulsesN l.bits.toNat ws) ts) := by
      obtain ⟨b, off, ha, hb, _, hcc⟩ := h2
      exact .inr ⟨b, off, ha, hb, hcc⟩
    have hwd := fun X (E : Ext W X) => words_any l a NN c (roundsP l (pulsesN l.bits.toNat ws) ts) X hok (by rw [roundsP_length, hNN]) (by rw [← hNN, HPL.out]; exact HB.out) (hpa.ext E) hc.1 hc.2
    have hDW := (Array.getElem?_eq_some_iff.1 hK).1
    have hltT : w1.heap.size < W.heap.size := by omega
    have hlt10 := h1.lt
    have hlt7 := h4.lt
    have HK := Lib.hid hK
    have HNE := Lib.hid (show D ≠ w.heap.size + 1 by omega)
    have hDw : w.heap.size ≤ D := by omega
    have HB4 := Lib.hid h4
    clear hpa h1 h2 h3 h4 h5 hM hMb hbT hK hs0 hs5 b7 b10 b11 hBl hBp hBt K40 hp0
    gi_wp2
    refine wpIn_normal ?_
    gi_region_with (refine ⟨trivial, ?_⟩; gi_at_call 42; refine (callsIn_wide.2 (hwd _ (by first | exact (Ext.refl W).drew))).mono ?_; rintro e w6 ⟨a6, k6, rfl, ho6, E6⟩; have r4 := cell_later E6 d4; have r5 := (E6.frozen (p := ⟨w.heap.size + 1, 0, none⟩) hlt7).trans f4)
    all_goals
      dsimp only [NQ]
      gi_wp2
      have e6 : Ext W w6 := Ext.comp (Ext.refl W).drew E6
      have hb7 : Boxed (w6.setCell ⟨w.heap.size + 1, 0, none⟩ (.int .i64 (atL l ts))) (w.heap.size + 1) 3 (.int .i64 (atL l ts)) := (boxed_ext1 HB4.out e6).set _
      have hne : D ≠ w.heap.size + 1 := HNE.out
      have hK7 : (w6.setCell ⟨w.heap.size + 1, 0, none⟩ (.int .i64 (atL l ts))).heap[D]? = some (.deferred (some [])) := (Below.heap_setCell _ _ _ _ hne).trans ((e6.block D hDW).trans HK.out)
      refine ⟨by simp, .inl ⟨_, _, rfl, run_takeDeferred hK7, ?_⟩⟩
      have hb8 : Boxed ((w6.setCell ⟨w.heap.size + 1, 0, none⟩ (.int .i64 (atL l ts))).putObj D (.deferred none)) (w.heap.size + 1) 3 (.int .i64 (atL l ts)) := (World.putObj_heap_other (fun e => hne e.symm)).trans hb7
      have hc7 := hb8.cell
      refine ⟨.tuple #[.slice a6 l.words.toNat k6, .int .i64 (atL l ts), .int .i64 0], by simp [results, Tryz.results8, go_sem, hc7], ?_⟩
      exact pass_fin ho6 EWW e6 hDw (Nat.le_succ _) hDW hlt7
theorem Pass_any (l : Ln) (a1 a2 : Option Addr) (n1 n2 c1 c2 : Nat) (ws ts : List Int) (w : World) (l1 : ws.length = n1) (l2 : ts.length = n2) (b1 : n1 ≤ 9223372036854775807) (b2 : n2 ≤ 9223372036854775807)
    (i1 : IntsAt w a1 ws) (i2 : IntsAt w a2 ts) :
    Calls Tryz.prog 8 #[.agg #[.int .i64 l.words, .int .i64 l.bits, .int .i64 l.period, .int .i64 l.delay, .int .i64 l.slope, .int .i64 l.window], .slice a1 n1 c1, .slice a2 n2 c2] w (PassRes (passE l ws ts) w) := by
  by_cases hx : passX l ws ts = 0
  · exact pass_good l a1 a2 n1 n2 c1 c2 ws ts w l1 l2 i1 i2 hx
  · exact pass_bad l a1 a2 n1 n2 c1 c2 ws ts w l1 l2 b1 b2 i1 i2 hx
end Go.Proofs.YtbcciokmlkofkaaGreat

import Derived.Laws.CopyOwn
import Derived.Deep.RegionLaw
import Derived.Test.YtbcciokmlkofkaaGreatWH6
set_option linter.unusedVariables false
set_option linter.unusedSimpArgs false
/- Contracts of layer 1: the rounds of a line (an iterator that yields pulses of its own). -/
namespace Go.Q
open Go.RowKit
/-- all blocks but those of M lie unturned -/
structure KpM (M : Nat → Prop) (W W' : World) : Prop where
  size : W.heap.size ≤ W'.heap.size
  block : ∀ b, b < W.heap.size → ¬ M b → W'.heap[b]? = W.heap[b]?
  os : W'.os = W.os
  tape : W'.tape = W.tape
  output : W'.output = W.output
theorem KpM.refl (M : Nat → Prop) (W : World) : KpM M W W := ⟨Nat.le_refl _, fun _ _ _ => rfl, rfl, rfl, rfl⟩
theorem KpM.trans {M : Nat → Prop} {A B C : World} (h : KpM M A B) (k : KpM M B C) : KpM M A C :=
  ⟨Nat.le_trans h.1 k.1, fun b hb hm => (k.2 b (Nat.lt_of_lt_of_le hb h.1) hm).trans (h.2 b hb hm), k.os.trans h.os, k.tape.trans h.tape, k.output.trans h.output⟩
theorem KpM.of_ext {M : Nat → Prop} {A B : World} (h : Ext A B) : KpM M A B := ⟨h.size, fun b hb _ => h.block b hb, h.os, h.tape, h.output⟩
theorem KpM.cell {M : Nat → Prop} {A B : World} (h : KpM M A B) {b o : Nat} (hb : b < A.heap.size) (hm : ¬ M b) : B.cell? ⟨b, o, none⟩ = A.cell? ⟨b, o, none⟩ := World.cell?_of_block (w := A) (h.2 b hb hm)
theorem KpM.mono {M M' : Nat → Prop} {A B : World} (h : KpM M A B) (hm : ∀ b, M b → M' b) : KpM M' A B := ⟨h.1, fun b hb hn => h.2 b hb (fun hx => hn (hm b hx)), h.os, h.tape, h.output⟩
theorem KpM.below {M : Nat → Prop} {n : Nat} {w A B : World} (k : KpM M A B) (h : Below n w A) (hn : n ≤ w.heap.size) (hM : ∀ b, M b → n ≤ b) : Below n w B :=
  ⟨k.os.trans h.os, k.tape.trans h.tape, k.output.trans h.output, Nat.le_trans h.size k.size, fun b hb => (k.block b (Nat.lt_of_lt_of_le (Nat.lt_of_lt_of_le hb hn) h.size) (fun hm => by have := hM b hm; omega)).trans (h.block b hb)⟩
theorem _root_.Go.Q.Ext.below5 {M : Nat → Prop} {w A B : World} (h : Ext w A) (k : KpM M A B) (hM : ∀ b, M b → w.heap.size ≤ b) : Ext w B := k.below h (Nat.le_refl _) hM
theorem KpM.store {A B : World} (h : Ext A B) (b : Nat) (v : Value) : KpM (fun x => x = b) A (B.setCell ⟨b, 0, none⟩ v) := by
  have k := (Below.refl 0 B).setCell (p := ⟨b, 0, none⟩) (Nat.zero_le _) v
  exact ⟨by simpa using h.size, fun x hx hn => (Below.heap_setCell _ _ _ _ hn).trans (h.block x hx), k.os.trans h.os, k.tape.trans h.tape, k.output.trans h.output⟩
theorem blk_cell {w : World} {m : Nat} {cs : Array Value} {t : TypeId} (h : w.heap[m]? = some (.cells cs t (0, 0))) (i : Nat) {v : Value} (hv : cs[i]? = some v) : w.cell? ⟨m, i, none⟩ = some v := by
  simp [World.cell?, h, hv]
theorem blk_free {w : World} {m : Nat} {cs : Array Value} {t : TypeId} (h : w.heap[m]? = some (.cells cs t (0, 0))) (i : Nat) : w.frozen? ⟨m, i, none⟩ = false := by
  simp [World.frozen?, h]
/-- splices that turn a row round -/
theorem splice_late {ps : List Bool} {s : Nat} (hs : s ≤ ps.length) (Z : List Value) (hZ : Z.length = ps.length) (f : Bool → Value) :
    splice (splice Z s ((ps.take (ps.length - s)).map f)) 0 ((ps.drop (ps.length - s)).map f) = (lateP ps s).map f := by
  have l1 : ((ps.take (ps.length - s)).map f).length = ps.length - s := by rw [List.length_map, List.length_take]; omega
  have l2 : ((ps.drop (ps.length - s)).map f).length = s := by rw [List.length_map, List.length_drop]; omega
  have e1 : splice Z s ((ps.take (ps.length - s)).map f) = Z.take s ++ (ps.take (ps.length - s)).map f := by
    unfold splice
    rw [l1, List.drop_eq_nil_of_le (by omega), List.append_nil]
  have e2 : (Z.take s ++ (ps.take (ps.length - s)).map f).drop s = (ps.take (ps.length - s)).map f := by
    rw [List.drop_append, List.drop_eq_nil_of_le (by rw [List.length_take]; omega), List.nil_append, List.length_take, Nat.min_eq_left (by omega), Nat.sub_self, List.drop_zero]
  rw [e1]
  unfold splice
  rw [l2, List.take_zero, List.nil_append, Nat.zero_add, e2]
  unfold lateP
  rw [List.map_append]
end Go.Q
namespace Go.Proofs.YtbcciokmlkofkaaGreat
open Go.RowKit Go.Q Go.Shelf
attribute [local go_sem] Oper.semAt_some
theorem makeB (W : World) (n : Nat) (hn : n ≤ 2600) : (Instr.makeSlice 89 (.int .i64 n) (.int .i64 n)).run Tryz.prog W = .ok (.slice (some ⟨W.heap.size, 0, none⟩) n n) (W.alloc (.cells (Array.replicate n (.bool false)) 4)) := by
  obtain ⟨i0, hi, hz0, hz1, hz2⟩ := info_parts Tryz.infoBl
  have := run_makeSlice (P := Tryz.prog) W 89 4 i0 (.bool false) Tryz.underlying89 hi hz0 .i64 .i64 n n (by omega) (by omega) (by rw [hz1]; omega) (by rw [hz2]; omega) (by omega)
  rw [hz1] at this
  rw [this]
  have e : madeCells (Value.bool false).cells (((n : Int)).toNat * 1) = Array.replicate n (.bool false) := by
    rw [Int.toNat_natCast, Nat.mul_one, show (Value.bool false).cells = #[.bool false] from rfl]
    apply Array.ext
    · simp [madeCells]
    · intro i h1 h2
      simp [madeCells, Nat.mod_one]
  rw [e, Int.toNat_natCast]
/-- pulses in a block that the loop's body leaves alone -/
def PulsesM (M : Nat → Prop) (W : World) (a : Option Addr) (ps : List Bool) : Prop := ∃ b off, a = some ⟨b, off, none⟩ ∧ b < W.heap.size ∧ ¬ M b ∧ ∀ i, i < ps.length → W.cell? ⟨b, off + i, none⟩ = some (.bool (ps[i]?.getD false))
theorem PulsesM.keep {M : Nat → Prop} {W W' : World} {a : Option Addr} {ps : List Bool} (h : PulsesM M W a ps) (k : KpM M W W') : PulsesM M W' a ps := by
  obtain ⟨b, off, ha, hb, hm, hc⟩ := h
  exact ⟨b, off, ha, Nat.lt_of_lt_of_le hb k.1, hm, fun i hi => (k.cell hb hm).trans (hc i hi)⟩
theorem _root_.Go.Q.OkL.by_bd {l : Ln} (h : OkL l) {t : Int} (ht : -100000 ≤ t ∧ t ≤ 100000) : -1000000000000 ≤ byL l t ∧ byL l t ≤ 1000000000000 := by
  have h1 := h.late ht
  have h2 := h.period
  unfold byL
  have f0 : -11000000000 ≤ lateL l t / l.period := Int.le_ediv_of_mul_le (by omega) (by omega)
  have f1 := Int.ediv_lt_of_lt_mul (a := lateL l t) (b := 12000000001) (c := l.period) (by omega) (by omega)
  omega
theorem boxed_ext1 {A B : World} {k : Nat} {t : TypeId} {v : Value} (h : Boxed A k t v) (e : Ext A B) : Boxed B k t v := (e.block k h.lt).trans h
/-- the pulses of a round, in a block of its own -/
theorem pulses_new {M : Nat → Prop} {w1 : World} {g Bp N : Nat} {v : Value} {ps : List Bool} {t : TypeId} (hg : w1.heap[g]? = some (.cells (bvL ps).toArray t (0, 0))) (hm : ¬ M g) (hne : g ≠ Bp) :
    PulsesM (fun b => M b ∨ b = Bp) (w1.setCell ⟨Bp, 0, none⟩ v) (some ⟨g, 0, none⟩) ps := by
  refine ⟨g, 0, rfl, by simpa using (Array.getElem?_eq_some_iff.1 hg).1, fun h => h.elim hm hne, fun i hi => ?_⟩
  rw [Nat.zero_add]
  have h2 : (w1.setCell ⟨Bp, 0, none⟩ v).heap[g]? = some (.cells (bvL ps).toArray t (0, 0)) := (Below.heap_setCell _ _ _ _ hne).trans hg
  exact blk_cell h2 i (by rw [List.getElem?_toArray]; exact bvL_get ps i hi)
theorem bvL_rep (n : Nat) : (Array.replicate n (Value.bool false)) = (bvL (List.replicate n false)).toArray := by
  unfold bvL; rw [List.map_replicate]; apply Array.ext' ; simp
theorem round_lost {l : Ln} {ps : List Bool} {t : Int} (h : lostL l t = true) : roundP l ps t = List.replicate ps.length false := by unfold roundP; rw [if_pos h]
theorem round_late {l : Ln} {ps : List Bool} {t : Int} (h : lostL l t = false) : roundP l ps t = lateP ps (turnL l (byL l t)).toNat := by unfold roundP; rw [h]; rfl
set_option maxRecDepth 100000 in
set_option maxHeartbeats 8000000 in
theorem rounds1_in (n : Nat) (hn : 1 ≤ n) (yl Bt Bp Bl : Nat) (l : Ln) (hl : OkL l) (at_ : Option Addr) (nt ct : Nat) (ts : List Int) (hts : ts.length = nt) (hnt : nt ≤ 60) (htb : ∀ t ∈ ts, tempB t = true)
    (N : Nat) (hN : (N : Int) = beatsL l) (ps : List Bool) (hps : ps.length = N) (M : Nat → Prop) (B0 : Nat) (hM : ∀ b, M b → b < B0)
    (J : Nat → World → Prop) (W : World) (hB0 : B0 ≤ W.heap.size) (hJ : ∀ k A B, J k A → KpM (fun b => b = Bp) A B → J k B)
    (hMt : ¬ M Bt) (hMp : ¬ M Bp) (hMl : ¬ M Bl) (hne1 : Bt ≠ Bp) (hne2 : Bl ≠ Bp) (hlt1 : Bt < W.heap.size) (hlt3 : Bl < W.heap.size) (hltp : Bp < B0)
    (hY : ∀ k a c A, J k A → k < nt → N ≤ c → c ≤ 9223372036854775807 → PulsesM (fun b => M b ∨ b = Bp) A a (roundsP l ps (ts.take (k + 1))) →
      YieldAt Fence.wide (n - 1) Tryz.prog yl #[.slice a N c, .bool (lostL l (ts[k]?.getD 0))] A fun e A' => e = .returned (.bool true) ∧ J (k + 1) A' ∧ KpM M A A')
    (a0 : Option Addr) (c0 : Nat) (hc0 : N ≤ c0 ∧ c0 ≤ 9223372036854775807) (h0 : J 0 W) (hT : W.cell? ⟨Bt, 0, none⟩ = some (.slice at_ nt ct)) (hP : Boxed W Bp 89 (.slice a0 N c0)) (hp0 : PulsesM (fun b => M b ∨ b = Bp) W a0 ps)
    (hL : W.heap[Bl]? = some (.cells #[.int .i64 l.words, .int .i64 l.bits, .int .i64 l.period, .int .i64 l.delay, .int .i64 l.slope, .int .i64 l.window] 57 (0, 0)))
    (hI : ts = [] ∨ ∃ b off, at_ = some ⟨b, off, none⟩ ∧ b < W.heap.size ∧ ¬ M b ∧ b ≠ Bp ∧ ∀ i, i < ts.length → W.cell? ⟨b, off + i, none⟩ = some (.int .i64 (ts[i]?.getD 0))) :
    CallsIn Fence.wide n Tryz.prog 68 #[.func (.yield yl) #[] #[], .pointer (some ⟨Bt, 0, none⟩), .pointer (some ⟨Bp, 0, none⟩), .pointer (some ⟨Bl, 0, none⟩)] W fun e W' => (∃ v, e = .returned v) ∧ J nt W' := by
  have hbt := hl.beats
  have hbt0 : 1 ≤ N ∧ N ≤ 2560 := by omega
  obtain ⟨hN1, hN2⟩ := hbt0
  have HM := Lib.hid hM
  have HJ := Lib.hid hJ
  have HY := Lib.hid hY
  have HTS := Lib.hid (And.intro hts htb)
  have HN := Lib.hid hN
  have HPS := Lib.hid hps
  have HI := Lib.hid hI
  have HL := Lib.hid hL
  have HPu := Lib.hid hp0
  clear hM hJ hY hts htb hN hps hI hL hp0 hbt
  have hmk := fun W : World => makeB W N (by omega)
  refine callsIn_of_wp Tryz.func68 rfl trivial ?_ rfl
  simp only [Tryz.ntmps68, List.size_toArray, List.length_cons, List.length_nil, Nat.reduceAdd, Nat.reduceSub, Array.replicate_succ, Array.replicate_zero, List.push_toArray, List.append_toArray, List.nil_append, List.cons_append]
  gi_wp2
  gi_loopw [12] (fun s12 wr => ∃ k : Nat, k ≤ nt ∧ s12 = .int .i64 k ∧ J k wr ∧ KpM (fun b => M b ∨ b = Bp) W wr ∧ ∃ a c, (N ≤ c ∧ c ≤ 9223372036854775807) ∧ Boxed wr Bp 89 (.slice a N c) ∧ PulsesM (fun b => M b ∨ b = Bp) wr a (roundsP l ps (ts.take k))) (fun s12 _ => nt - (intOf s12).toNat)
  case atStart => exact ⟨0, Nat.zero_le _, rfl, h0, KpM.refl _ _, a0, c0, hc0, hP, HPu.out⟩
  case round =>
    obtain ⟨k, hk, rfl, hJs, hK, a, c, ⟨hc1, hc2⟩, hBx, hPs⟩ := hrel
    by_cases hlt : k < nt
    · have hltz : (k : Int) < (nt : Int) := by omega
      rcases HI.out with e | ⟨b, off, rfl, hb, hbm, hbp, hcT⟩
      · rw [e] at HTS; have := HTS.out.1; simp at this; omega
      have hx := (hK.cell (o := off + k) hb (fun h => h.elim hbm hbp)).trans (hcT k (by rw [HTS.out.1]; exact hlt))
      have htb := HTS.out.2 (ts[k]?.getD 0) (by rw [List.getElem?_eq_getElem (by rw [HTS.out.1]; exact hlt)]; exact List.getElem_mem _)
      have hsn : ts.take (k + 1) = ts.take k ++ [ts[k]?.getD 0] := by
        have hk' : k < ts.length := by rw [HTS.out.1]; exact hlt
        rw [List.take_succ_eq_append_getElem hk', List.getElem?_eq_getElem hk']; rfl
      have HSN := Lib.hid hsn
      have hYk := fun a c A h1 h2 h3 h4 h5 => HY.out k a c A h1 h2 h3 h4 h5
      obtain ⟨t, hte⟩ : ∃ t, ts[k]?.getD 0 = t := ⟨_, rfl⟩
      rw [hte] at hx htb
      rw [hte] at hYk
      have HTE := Lib.hid hte
      have HYK := Lib.hid hYk
      have htbd := tempB_bd htb
      have hsh := fun W => shift_any l t W hl (by omega)
      have hLk : wr.heap[Bl]? = _ := (hK.2 Bl hlt3 (fun h => h.elim hMl hne2)).trans HL.out
      have hc0' := hBx.cell
      have hltl : Bl < wr.heap.size := Nat.lt_of_lt_of_le hlt3 hK.1
      have d0 := fun ob => (((Ext.refl wr).alloc ob).cell (p := ⟨Bl, 0, none⟩) hltl).trans (blk_cell hLk 0 (v := .int .i64 l.words) rfl)
      have d1 := fun ob => (((Ext.refl wr).alloc ob).cell (p := ⟨Bl, 1, none⟩) hltl).trans (blk_cell hLk 1 (v := .int .i64 l.bits) rfl)
      have d2 := fun ob => (((Ext.refl wr).alloc ob).cell (p := ⟨Bl, 2, none⟩) hltl).trans (blk_cell hLk 2 (v := .int .i64 l.period) rfl)
      have d3 := fun ob => (((Ext.refl wr).alloc ob).cell (p := ⟨Bl, 3, none⟩) hltl).trans (blk_cell hLk 3 (v := .int .i64 l.delay) rfl)
      have d4 := fun ob => (((Ext.refl wr).alloc ob).cell (p := ⟨Bl, 4, none⟩) hltl).trans (blk_cell hLk 4 (v := .int .i64 l.slope) rfl)
      have d5 := fun ob => (((Ext.refl wr).alloc ob).cell (p := ⟨Bl, 5, none⟩) hltl).trans (blk_cell hLk 5 (v := .int .i64 l.window) rfl)
      have HLK := Lib.hid hLk
      clear hLk
      clear hsn hYk hte htb hcT
      cases hlo : lostL l t with
      | true =>
        have e1 : shiftV l t = (0, true) := by unfold shiftV; rw [hlo]; rfl
        rw [e1] at hsh
        dsimp only at hsh
        gi_wp2_with fail
        refine ⟨trivial, ?_⟩
        refine (callsIn_wide.2 (hsh _)).mono ?_
        rintro e w1 ⟨rfl, E1⟩
        have E0 : Ext wr w1 := E1.old
        have hb1 := boxed_ext1 hBx E0
        have hb1c := hb1.cell
        have hb1f := hb1.frozen
        have hgz : wr.heap.size ≠ Bp := by have := hK.1; omega
        have hgM : ¬ M wr.heap.size := fun h => by have := HM.out _ h; have := hK.1; omega
        have hg1 : w1.heap[wr.heap.size]? = some (.cells (bvL (roundsP l ps (ts.take (k + 1)))).toArray 4 (0, 0)) := by
          rw [HSN.out, HTE.out, roundsP_snoc, round_lost hlo, roundsP_length, HPS.out, ← bvL_rep]
          exact (E1.block wr.heap.size (by simp)).trans (heap_alloc_new wr _)
        have hb2 : Boxed (w1.setCell ⟨Bp, 0, none⟩ (.slice (some ⟨wr.heap.size, 0, none⟩) N N)) Bp 89 (.slice (some ⟨wr.heap.size, 0, none⟩) N N) := hb1.set _
        have hb2c := hb2.cell
        have hk2 : KpM (fun b => b = Bp) wr (w1.setCell ⟨Bp, 0, none⟩ (.slice (some ⟨wr.heap.size, 0, none⟩) N N)) := KpM.store E0 _ _
        have hp2 := pulses_new (M := M) (N := N) (v := .slice (some ⟨wr.heap.size, 0, none⟩) N N) hg1 hgM hgz
        obtain ⟨fn, tmps, assign, body, hy, hR⟩ := HYK.out (some ⟨wr.heap.size, 0, none⟩) N _ (HJ.out _ _ _ hJs hk2) hlt (Nat.le_refl _) (by omega) hp2
        rw [hlo] at hy
        gi_wp2
        refine hR.mono ?_
        rintro e W3 ⟨rfl, hJ3, hk3⟩
        have hkk : KpM (fun b => M b ∨ b = Bp) W W3 := hK.trans ((hk2.mono (fun _ h => .inr h)).trans (hk3.mono (fun _ h => .inl h)))
        have hb3 : Boxed W3 Bp 89 (.slice (some ⟨wr.heap.size, 0, none⟩) N N) := (hk3.2 Bp hb2.lt hMp).trans hb2
        have hp3 := hp2.keep (hk3.mono (fun _ h => .inl h))
        gi_wp2
        go_roundw
        case rel => exact ⟨k + 1, by omega, by go_num, hJ3, hkk, _, _, ⟨Nat.le_refl _, by omega⟩, hb3, hp3⟩
        case measure => simp [intOf]; omega
      | false =>
        have e1 : shiftV l t = (byL l t, false) := by unfold shiftV; rw [hlo]; rfl
        rw [e1] at hsh
        dsimp only at hsh
        have htr := fun W => turn_any l (byL l t) W hl (hl.by_bd (by omega))
        have hs := hl.turn (byL l t)
        obtain ⟨s, hse⟩ : ∃ s : Nat, turnL l (byL l t) = s := Int.eq_ofNat_of_zero_le hs.1
        have HSE := Lib.hid hse
        rw [hse] at hs htr
        rw [← HN.out] at hs
        obtain ⟨hs0, hs1⟩ := hs
        clear e1 hse
        obtain ⟨b', hbe⟩ : ∃ b', byL l t = b' := ⟨_, rfl⟩
        rw [hbe] at hsh htr
        have HBE := Lib.hid hbe
        clear hbe
        gi_wp2_with fail
        refine ⟨trivial, ?_⟩
        refine (callsIn_wide.2 (hsh _)).mono ?_
        rintro e w1 ⟨rfl, E1⟩
        have E0 : Ext wr w1 := E1.old
        have q0 := (E0.cell (p := ⟨Bl, 0, none⟩) hltl).trans (blk_cell HLK.out 0 (v := .int .i64 l.words) rfl)
        have q1 := (E0.cell (p := ⟨Bl, 1, none⟩) hltl).trans (blk_cell HLK.out 1 (v := .int .i64 l.bits) rfl)
        have q2 := (E0.cell (p := ⟨Bl, 2, none⟩) hltl).trans (blk_cell HLK.out 2 (v := .int .i64 l.period) rfl)
        have q3 := (E0.cell (p := ⟨Bl, 3, none⟩) hltl).trans (blk_cell HLK.out 3 (v := .int .i64 l.delay) rfl)
        have q4 := (E0.cell (p := ⟨Bl, 4, none⟩) hltl).trans (blk_cell HLK.out 4 (v := .int .i64 l.slope) rfl)
        have q5 := (E0.cell (p := ⟨Bl, 5, none⟩) hltl).trans (blk_cell HLK.out 5 (v := .int .i64 l.window) rfl)
        gi_wp2_with fail
        refine ⟨trivial, ?_⟩
        refine (callsIn_wide.2 (htr _)).mono ?_
        rintro e w2 ⟨rfl, E2⟩
        have E02 : Ext wr w2 := E0.comp E2
        have hb1 := boxed_ext1 hBx E02
        have hb1c := hb1.cell
        have hb1f := hb1.frozen
        have hgz : wr.heap.size ≠ Bp := by have := hK.1; omega
        have hgM : ¬ M wr.heap.size := fun h => by have := HM.out _ h; have := hK.1; omega
        have hg1 : w2.heap[wr.heap.size]? = some (.cells (Array.replicate N (.bool false)) 4 (0, 0)) :=
          (E2.block wr.heap.size (by have := E1.size; simp at this; omega)).trans ((E1.block wr.heap.size (by simp)).trans (heap_alloc_new wr _))
        clear d0 d1 d2 d3 d4 d5 q0 q1 q2 q3 q4 q5
        have hne : ¬ N = s := by omega
        have hs1n : s < N := by omega
        gi_wp2
        obtain ⟨pk, hpk⟩ : ∃ pk, roundsP l ps (ts.take k) = pk := ⟨_, rfl⟩
        have hpl : pk.length = N := by rw [← hpk, roundsP_length, HPS.out]
        rw [hpk] at hPs
        obtain ⟨bP, offP, rfl, hbP, hmP, hcP⟩ := hPs
        have hcP2 : ∀ i, i < N → w2.cell? ⟨bP, offP + i, none⟩ = some (.bool (pk[i]?.getD false)) := fun i hi => (E02.cell (p := ⟨bP, offP + i, none⟩) hbP).trans (hcP i (by omega))
        have hsT : (Tryz.prog.info? 4).map (·.size) = some 1 := by
          obtain ⟨i0, hi, hz0, hz1, hz2⟩ := info_parts Tryz.infoBl
          rw [hi]; simp [hz1]
        have HC2 := Lib.hid hcP2
        have HPL := Lib.hid hpl
        have HPK := Lib.hid hpk
        have HG1 := Lib.hid hg1
        have HB1 := Lib.hid hb1
        have hsrc : ∀ (W : World), Ext w2 W → ∀ (d : Nat) (cs : List Bool), (∀ i, cs[i]? = pk[d + i]? ∨ cs[i]? = none) → d ≤ N → ∀ j v, (bvL cs)[j]? = some v → W.cell? ((⟨bP, offP + d, none⟩ : Addr).add j) = some v := by
          intro W E d cs hcs hd j v hv
          have hj : j < cs.length := by
            rcases Nat.lt_or_ge j cs.length with h | h
            · exact h
            · rw [List.getElem?_eq_none (by rw [bvL_length]; exact h)] at hv; cases hv
          rw [bvL_get cs j hj] at hv
          obtain rfl := Option.some.inj hv
          have hcj := hcs j
          rw [List.getElem?_eq_getElem hj] at hcj
          have hcj2 : pk[d + j]? = some cs[j] := by
            rcases hcj with h | h
            · exact h.symm
            · cases h
          have hlt2 : d + j < N := by rw [← HPL.out]; exact (List.getElem?_eq_some_iff.1 hcj2).1
          rw [Addr.add_lit, Nat.add_assoc, E.cell (p := ⟨bP, offP + (d + j), none⟩) (Nat.lt_of_lt_of_le hbP E02.size), HC2.out (d + j) hlt2, hcj2, List.getElem?_eq_getElem hj]
        have HSRC := Lib.hid hsrc
        have hsz2 : wr.heap.size < w2.heap.size := (Array.getElem?_eq_some_iff.1 hg1).1
        clear hcP hcP2 hpl hpk hg1 hb1 hsrc hmk hsh htr hx hmP
        have hsub : N - (N - s) = s := by omega
        have hsN : s ≤ N := by omega
        have hsN2 : N - s ≤ N := by omega
        obtain ⟨Z, hZ⟩ : ∃ Z, bvL (List.replicate N false) = Z := ⟨_, rfl⟩
        have hZl : Z.length = N := by rw [← hZ, bvL_length, List.length_replicate]
        obtain ⟨X1, hX1⟩ : ∃ X1, bvL (pk.take (N - s)) = X1 := ⟨_, rfl⟩
        have hX1l : X1.length = N - s := by rw [← hX1, bvL_length, List.length_take, HPL.out]; omega
        have h1X : ∀ v ∈ X1, v.oneCell' = true := by rw [← hX1]; exact bvL_one _
        have hgZ : w2.drew.heap[wr.heap.size]? = some (.cells Z.toArray 4 (0, 0)) := by rw [← hZ, ← bvL_rep]; exact HG1.out
        have hs1c : ∀ j v, X1[j]? = some v → w2.drew.cell? ((⟨bP, offP, none⟩ : Addr).add j) = some v := by
          rw [← hX1]
          exact HSRC.out _ (Ext.refl w2).drew 0 _ (fun i => by rw [List.getElem?_take, Nat.zero_add]; split <;> simp) (Nat.zero_le _)
        have H1 := Lib.hid (And.intro hZl (And.intro hX1l (And.intro h1X (And.intro hgZ hs1c))))
        have HZX := Lib.hid (And.intro hZ hX1)
        clear hZl hX1l h1X hgZ hs1c hZ hX1
        refine wpIn_wide.2 ?_
        go_region_law (refine step_copy_splice (by rfl) (.tmp 32) (.tmp 33) 89 89 (by rfl) 4 Tryz.underlying89 hsT (some ⟨wr.heap.size, s, none⟩) (some ⟨bP, offP, none⟩) (N - s) (N - s) N c (by rfl) (by rfl) wr.heap.size s Z 4 H1.out.2.2.2.1 X1 (by rw [H1.out.2.1]; exact (Nat.min_eq_right (Nat.sub_le _ _)).symm) (fun _ => ⟨rfl, _, rfl, H1.out.2.2.2.2⟩) (by rw [H1.out.2.1, H1.out.1]; omega) H1.out.2.2.1 wr.heap.size wr (by exact E02.drew) (Nat.le_refl _) ?_; intro w4 hg4 hb4)
        have hb4b : Boxed w4 Bp 89 (.slice (some ⟨bP, offP, none⟩) N c) := (hb4.block Bp hBx.lt).trans hBx
        have hb4c := hb4b.cell
        have hs4c : ∀ j v, (bvL (pk.drop (N - s)))[j]? = some v → w4.cell? ((⟨bP, offP + (N - s), none⟩ : Addr).add j) = some v := by
          intro j v hv
          have h1 := HSRC.out w2 (Ext.refl w2) (N - s) (pk.drop (N - s)) (fun i => .inl (by rw [List.getElem?_drop])) (by omega) j v hv
          rw [Addr.add_lit] at h1 ⊢
          rw [hb4.cell (p := ⟨bP, offP + (N - s) + j, none⟩) hbP]
          rw [E02.cell (p := ⟨bP, offP + (N - s) + j, none⟩) hbP] at h1
          exact h1
        have hX2l : (bvL (pk.drop (N - s))).length = s := by rw [bvL_length, List.length_drop, HPL.out]; omega
        have h2X := bvL_one (pk.drop (N - s))
        obtain ⟨X2, hX2⟩ : ∃ X2, bvL (pk.drop (N - s)) = X2 := ⟨_, rfl⟩
        rw [hX2] at hs4c hX2l h2X
        have HX2 := Lib.hid hX2
        have H2 := Lib.hid (And.intro hs4c (And.intro hX2l h2X))
        clear hs4c hX2l h2X hX2
        have hZ4l : (splice Z s X1).length = N := by rw [length_splice _ _ _ (by rw [H1.out.2.1, H1.out.1]; omega), H1.out.1]
        have HZ4 := Lib.hid hZ4l
        clear hZ4l
        have hcN : N - s ≤ c := by omega
        have key : ∀ (w5 : World), Hid (w5.heap[wr.heap.size]? = some (.cells (splice (splice Z s X1) 0 X2).toArray 4 (0, 0))) → Below wr.heap.size wr w5 →
            w5.heap[wr.heap.size]? = some (.cells (bvL (roundsP l ps (ts.take (k + 1)))).toArray 4 (0, 0)) := by
          intro w5 h5 _
          have e := h5.out
          have e2 : splice (splice Z s X1) 0 X2 = bvL (lateP pk s) := by
            have hN2 : pk.length - s = N - s := by rw [HPL.out]
            have h3 := splice_late (ps := pk) (s := s) (by rw [HPL.out]; omega) Z (by rw [HPL.out]; exact H1.out.1) Value.bool
            rw [hN2] at h3
            rw [← HZX.out.2, ← HX2.out]
            exact h3
          rw [HSN.out, HTE.out, roundsP_snoc, HPK.out, round_late hlo, HBE.out]
          rw [show (turnL l b').toNat = s by rw [← HBE.out, HSE.out]; rfl, ← e2]
          exact e
        by_cases hcap : c = N - s
        · obtain rfl : s = 0 := by omega
          obtain rfl : N = c := by omega
          have hz0 : N - N = 0 := Nat.sub_self N
          clear hcap hsub hsN2 hcN
          have h5 : Hid (w4.heap[wr.heap.size]? = some (.cells (splice (splice Z 0 X1) 0 X2).toArray 4 (0, 0))) := by
            have e := List.eq_nil_of_length_eq_zero H2.out.2.1
            rw [e, show splice (splice Z 0 X1) 0 ([] : List Value) = splice Z 0 X1 by unfold splice; simp]
            exact hg4
          have b5 : Below wr.heap.size wr w4 := hb4
          go_wp2_with fail
          refine wpIn_wide.2 ?_
          go_wp2_with (first | (refine wpList_copy_nothing (by rfl) (.tmp 35) (.tmp 41) 89 89 (by rfl) 4 Tryz.underlying89 hsT _ _ _ _ _ _ (by rfl) (by rfl) (by rfl) ?_))
          obtain ⟨w5, rfl⟩ : ∃ w5, w5 = w4 := ⟨_, rfl⟩
          have hg5 := key w5 h5 b5
          have E5 : Ext wr w5 := b5
          have hb5 := boxed_ext1 hBx E5
          have hb5c := hb5.cell
          have hb5f := hb5.frozen
          have hb2 : Boxed (w5.setCell ⟨Bp, 0, none⟩ (.slice (some ⟨wr.heap.size, 0, none⟩) N N)) Bp 89 (.slice (some ⟨wr.heap.size, 0, none⟩) N N) := hb5.set _
          have hb2c := hb2.cell
          have hk2 : KpM (fun b => b = Bp) wr (w5.setCell ⟨Bp, 0, none⟩ (.slice (some ⟨wr.heap.size, 0, none⟩) N N)) := KpM.store E5 _ _
          have hp2 := pulses_new (M := M) (N := N) (v := .slice (some ⟨wr.heap.size, 0, none⟩) N N) hg5 hgM hgz
          obtain ⟨fn, tmps, assign, body, hy, hR⟩ := HYK.out (some ⟨wr.heap.size, 0, none⟩) N _ (HJ.out _ _ _ hJs hk2) hlt (Nat.le_refl _) (by omega) hp2
          rw [hlo] at hy
          clear h5 b5 hg5 hb5
          gi_wp2
          refine hR.mono ?_
          rintro e W3 ⟨rfl, hJ3, hk3⟩
          have hkk : KpM (fun b => M b ∨ b = Bp) W W3 := hK.trans ((hk2.mono (fun _ h => .inr h)).trans (hk3.mono (fun _ h => .inl h)))
          have hb3 : Boxed W3 Bp 89 (.slice (some ⟨wr.heap.size, 0, none⟩) N N) := (hk3.2 Bp hb2.lt hMp).trans hb2
          have hp3 := hp2.keep (hk3.mono (fun _ h => .inl h))
          gi_wp2
          go_roundw
          case rel => exact ⟨k + 1, by omega, by go_num, hJ3, hkk, _, _, ⟨Nat.le_refl _, by omega⟩, hb3, hp3⟩
          case measure => simp [intOf]; omega
        · go_wp2_with fail
          refine wpIn_wide.2 ?_
          go_wp2_with (refine wpList_copy_splice (by rfl) (.tmp 35) (.tmp 41) 89 89 (by rfl) 4 Tryz.underlying89 hsT (some ⟨wr.heap.size, 0, none⟩) (some ⟨bP, offP + (N - s), none⟩) N N s (c - (N - s)) (by rfl) (by rfl) wr.heap.size 0 (splice Z s X1) 4 hg4.out X2 (by rw [H2.out.2.1]; exact (Nat.min_eq_left hsN).symm) (fun _ => ⟨rfl, _, rfl, H2.out.1⟩) (by rw [H2.out.2.1, HZ4.out]; omega) H2.out.2.2 wr.heap.size wr hb4 (Nat.le_refl _) ?_; intro w5 h5 b5)
          have hg5 := key w5 h5 b5
          have E5 : Ext wr w5 := b5
          have hb5 := boxed_ext1 hBx E5
          have hb5c := hb5.cell
          have hb5f := hb5.frozen
          have hb2 : Boxed (w5.setCell ⟨Bp, 0, none⟩ (.slice (some ⟨wr.heap.size, 0, none⟩) N N)) Bp 89 (.slice (some ⟨wr.heap.size, 0, none⟩) N N) := hb5.set _
          have hb2c := hb2.cell
          have hk2 : KpM (fun b => b = Bp) wr (w5.setCell ⟨Bp, 0, none⟩ (.slice (some ⟨wr.heap.size, 0, none⟩) N N)) := KpM.store E5 _ _
          have hp2 := pulses_new (M := M) (N := N) (v := .slice (some ⟨wr.heap.size, 0, none⟩) N N) hg5 hgM hgz
          obtain ⟨fn, tmps, assign, body, hy, hR⟩ := HYK.out (some ⟨wr.heap.size, 0, none⟩) N _ (HJ.out _ _ _ hJs hk2) hlt (Nat.le_refl _) (by omega) hp2
          rw [hlo] at hy
          clear h5 b5 hg5 hb5
          gi_wp2
          refine hR.mono ?_
          rintro e W3 ⟨rfl, hJ3, hk3⟩
          have hkk : KpM (fun b => M b ∨ b = Bp) W W3 := hK.trans ((hk2.mono (fun _ h => .inr h)).trans (hk3.mono (fun _ h => .inl h)))
          have hb3 : Boxed W3 Bp 89 (.slice (some ⟨wr.heap.size, 0, none⟩) N N) := (hk3.2 Bp hb2.lt hMp).trans hb2
          have hp3 := hp2.keep (hk3.mono (fun _ h => .inl h))
          gi_wp2
          go_roundw
          case rel => exact ⟨k + 1, by omega, by go_num, hJ3, hkk, _, _, ⟨Nat.le_refl _, by omega⟩, hb3, hp3⟩
          case measure => simp [intOf]; omega
    · have hltz : ¬ (k : Int) < (nt : Int) := by omega
      obtain rfl : k = nt := by omega
      gi_wp2
      go_end0
      exact ⟨⟨_, rfl⟩, hJs⟩
end Go.Proofs.YtbcciokmlkofkaaGreat

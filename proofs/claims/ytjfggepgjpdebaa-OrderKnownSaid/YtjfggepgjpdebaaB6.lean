/- Contract: machine.run, whatever it tells. -/
import Derived.Test.YtjfggepgjpdebaaB4
import Derived.Test.YtjfggepgjpdebaaB5
import Derived.Test.YtjfggepgjpdebaaSpec4d
import Derived.ScopeJumps
import Derived.Shelf.Abstract
import Derived.Deep.LoopGhost
set_option linter.unusedVariables false
set_option linter.unusedSimpArgs false
namespace Go.Proofs.Ytjfggepgjpdebaa
open Go.RowKit Go.Q

/-- a step as a value -/
abbrev stv (x : Stp) : Value := .agg #[.int .i64 x.at_, .int .i64 x.ord.op, .int .i64 x.ord.frm, .int .i64 x.ord.to, .int .i64 x.ord.nxt, .int .i64 x.time, .int .i64 x.until_]
/-- rows of ints and machines stay -/
def KeepT (w w' : World) : Prop := w.heap.size ≤ w'.heap.size ∧ ∀ (k : Nat) (c : Array Value) (T : TypeId) (fr : Nat × Nat), w.heap[k]? = some (Obj.cells c T fr) → T = 3 ∨ T = 92 → w'.heap[k]? = w.heap[k]?
theorem KeepT.of_ext {w w' : World} (h : Ext w w') : KeepT w w' := ⟨h.size, fun k c T fr hk _ => h.block k (lt_of_block hk)⟩
theorem KeepT.set {w : World} {b : Nat} {cs : Array Value} {T : TypeId} {fr : Nat × Nat} (hb : w.heap[b]? = some (.cells cs T fr)) (h1 : T ≠ 3) (h2 : T ≠ 92) (i : Nat) (v : Value) : KeepT w (w.setCell ⟨b, i, none⟩ v) :=
  ⟨by simp [World.setCell], fun k c U fr' hk hU => Below.heap_setCell _ _ _ _ (fun e => by
    have e' : k = b := e
    rw [e'] at hk
    have := hb.symm.trans hk
    simp only [Option.some.injEq, Obj.cells.injEq] at this
    obtain ⟨_, rfl, _⟩ := this
    exact hU.elim h1 h2)⟩
variable {nb m g1 c1 : Nat} {tv pv : Value} {s : St} {o : Ord}
theorem Mac.keep {w w' : World} (h : Mac w nb m g1 c1 tv pv s o) (k : KeepT w w') : Mac w' nb m g1 c1 tv pv s o where
  low := h.low
  blk := (k.2 _ _ _ _ h.blk (.inr rfl)).trans h.blk
  st := by obtain ⟨cur, hg, ht⟩ := h.st; exact ⟨cur, (k.2 _ _ _ _ hg (.inl rfl)).trans hg, ht⟩
  len := h.len
  tp := by
    obtain ⟨a2, c2, hv, ht⟩ := h.tp
    refine ⟨a2, c2, hv, ?_⟩
    rcases ht with ht | ⟨b, off, ha, ⟨cu, hcu⟩, h1, h2, h3, hc⟩
    · exact .inl ht
    · have e := k.2 _ _ _ _ hcu (.inl rfl)
      exact .inr ⟨b, off, ha, ⟨cu, e.trans hcu⟩, h1, h2, h3, fun i hi => (World.cell?_of_block (w := w) e).trans (hc i hi)⟩
  prow := own_later h.prow (fun b hb => by
    rcases h.prow.2 with ⟨e, _⟩ | ⟨g, cap, cur, e, _, hg, _⟩
    · rw [e] at hb; cases hb
    · rw [e] at hb
      obtain rfl : g = b := by simpa [Value.ownBlock] using hb
      exact k.2 _ _ _ _ hg (.inl rfl))
  pm := h.pm
  pg := h.pg

theorem KeepT.trans {a b c : World} (h : KeepT a b) (k : KeepT b c) : KeepT a c :=
  ⟨Nat.le_trans h.1 k.1, fun i cs T fr hi hT => by
    have e := h.2 i cs T fr hi hT
    exact (k.2 i cs T fr (e.trans hi) hT).trans e⟩
/-- five cells of a block that is no machine's are written -/
theorem set5 {w : World} {b : Nat} {cs : Array Value} {T : TypeId} (hb : w.heap[b]? = some (.cells cs T (0, 0))) (h1 : T ≠ 3) (h2 : T ≠ 92) (i j k l n : Nat) (x y z u v : Value) :
    KeepT w (((((w.setCell ⟨b, i, none⟩ x).setCell ⟨b, j, none⟩ y).setCell ⟨b, k, none⟩ z).setCell ⟨b, l, none⟩ u).setCell ⟨b, n, none⟩ v) ∧
      Chg (fun q => q = b) w (((((w.setCell ⟨b, i, none⟩ x).setCell ⟨b, j, none⟩ y).setCell ⟨b, k, none⟩ z).setCell ⟨b, l, none⟩ u).setCell ⟨b, n, none⟩ v) := by
  have b1 := cells_set hb i x
  have b2 := cells_set b1 j y
  have b3 := cells_set b2 k z
  have b4 := cells_set b3 l u
  refine ⟨((((KeepT.set hb h1 h2 i x).trans (KeepT.set b1 h1 h2 j y)).trans (KeepT.set b2 h1 h2 k z)).trans (KeepT.set b3 h1 h2 l u)).trans (KeepT.set b4 h1 h2 n v), ?_⟩
  exact ((((((Chg.refl (fun q => q = b) w).setCell ⟨b, i, none⟩ rfl x).setCell ⟨b, j, none⟩ rfl y).setCell ⟨b, k, none⟩ rfl z).setCell ⟨b, l, none⟩ rfl u).setCell ⟨b, n, none⟩ rfl v)

theorem runQ_stop {s : St} {k : Nat} (h : (runQ k s).why ≠ 0) : ∀ j, runQ (k + j) s = runQ k s ∧ traceQ (k + j) s = traceQ k s
  | 0 => ⟨rfl, rfl⟩
  | j + 1 => by
    obtain ⟨h1, h2⟩ := runQ_stop h j
    have e : k + (j + 1) = (k + j) + 1 := rfl
    rw [e, runQ_snoc, traceQ_snoc, h1, h2, if_neg h, if_neg (fun c => h c.1)]
    exact ⟨rfl, rfl⟩

/-- what is asked of the function that is told each step -/
structure Tell (P : Program) (g : Nat) (lb : Array Value) (nb m g1 c1 n0 : Nat) (I : List Stp → World → Prop) : Prop where
  keep : ∀ l W W' tv pv s o, Mac W nb m g1 c1 tv pv s o → Chg (Own3 m g1 pv) W W' → I l W → I l W'
  tell : ∀ x l W, l.length ≤ 5000 → n0 ≤ W.heap.size → I l W → Calls P g (#[stv x] ++ lb) W fun e w' => e = .returned (.tuple #[]) ∧ I (l ++ [x]) w' ∧ KeepT W w' ∧ Below n0 W w'

/-- the machine has run -/
def RunRes (nb m g1 c1 n0 : Nat) (tv : Value) (I : List Stp → World → Prop) (s : St) (n : Nat) (w : World) (e : Ending) (w' : World) : Prop :=
  e = .returned (.tuple #[]) ∧ (∃ pv o, Mac w' nb m g1 c1 tv pv (runQ n s) o) ∧ I (traceQ n s) w' ∧ Below n0 w w'

set_option maxHeartbeats 8000000 in
set_option maxRecDepth 100000 in
theorem run_any (w : World) (n0 most : Nat) (g : Nat) (lb : Array Value) (I : List Stp → World → Prop) (h : Mac w nb m g1 c1 tv pv s o) (hv : Valid s) (hm : most ≤ 5000) (hn0 : n0 ≤ nb)
    (eg : ∀ args w, (callFunc g args).run Try.prog w = .ok (.enter g args) w) (hT : Tell Try.prog g lb nb m g1 c1 n0 I) (hI : I [] w) :
    Calls Try.prog 60 #[.pointer (some ⟨m, 0, none⟩), .int .i64 most, .func (.func g) #[] lb] w (RunRes nb m g1 c1 n0 tv I s most w) := by
  have HT := Lib.hid hT
  have HV := Lib.hid hv
  have Hm0 := Lib.hid (And.intro hI h)
  clear hT hv hI h
  go_enter Try.func60, Try.ntmps60
  go_wp2
  go_step3
  go_wp2
  go_step3
  go_wp2
  go_loopg [6, 8] (most + 1) (fun gg _ s8 wr => ∃ k : Nat, k ≤ most ∧ most + 1 - k ≤ gg ∧ s8 = .int .i64 k ∧ Aside (∃ pv o, Mac wr nb m g1 c1 tv pv (runQ k s) o) ∧ Aside (I (traceQ k s) wr) ∧ Aside (Below n0 w wr))
  case atStart => exact ⟨0, by omega, by omega, rfl, ⟨_, _, Hm0.out.2⟩, Hm0.out.1, Below.refl _ _⟩
  case round =>
    obtain ⟨k, hk, hg, rfl, hM, hI, hB⟩ := hrel
    clear Hm0
    obtain ⟨pk, ok, M⟩ := hM.out
    clear hM
    by_cases hlt : k < most
    · have hltz : (k : Int) < (most : Int) := by omega
      have k7 := M.c 7 (v := .int .i64 (runQ k s).why) rfl
      have k4 := M.c 4 (v := .int .i64 (runQ k s).time) rfl
      have k5 := M.c 5 (v := .int .i64 (runQ k s).at_) rfl
      have k4' : ∀ ob, (wr.alloc ob).cell? ⟨m, 4, none⟩ = some (.int .i64 (runQ k s).time) := fun ob => cell_later ((Ext.refl wr).alloc ob) k4
      have k5' : ∀ ob, (wr.alloc ob).cell? ⟨m, 5, none⟩ = some (.int .i64 (runQ k s).at_) := fun ob => cell_later ((Ext.refl wr).alloc ob) k5
      have V := Lib.hid (runQ_valid k HV.out)
      have R1 := Lib.hid (runQ_snoc k s)
      have R2 := Lib.hid (traceQ_snoc k s)
      have R3 := Lib.hid (runQ_stop (s := s) (k := k))
      have hll := traceQ_le k s
      generalize runQ k s = sk at *
      generalize traceQ k s = lk at *
      cases hy : sk.why == 0 with
      | false =>
        have hy' : (sk.why != 0) = true := by rw [bne, hy]; rfl
        have Hy := Lib.hid hy
        clear hy
        go_wp2_with fail
        rw [Exit.noGoto_normal]
        go_end0
        have hne : sk.why ≠ 0 := by have := Hy.out; intro e; rw [e] at this; exact absurd this (by decide)
        obtain ⟨e1, e2⟩ := R3.out hne (most - k)
        have ek : k + (most - k) = most := by omega
        rw [ek] at e1 e2
        exact ⟨rfl, ⟨pk, ok, by rw [e1]; exact M⟩, by rw [e2]; exact hI.out, hB.out⟩
      | true =>
        have hy' : (sk.why != 0) = false := by rw [bne, hy]; rfl
        have Hy := Lib.hid hy
        clear hy
        go_wp2_with fail
        go_region
        go_wp2_with fail
        have hy0 : sk.why = 0 := by simpa using Hy.out
        have hlt1 := M.ltm
        have hlt2 := M.ltg
        have hnm := M.low.1
        refine (step_any _ (by exact M.ext ((Ext.refl wr).alloc _).drew) V.out hy0).mono ?_
        rintro e w2 ⟨rfl, pv2, M2, C2, hp2⟩
        have hx : w2.heap[wr.heap.size]? = some (.cells #[.int .i64 sk.at_, .int .i64 0, .int .i64 0, .int .i64 0, .int .i64 0, .int .i64 sk.time, .int .i64 0] 85 (0, 0)) :=
          (C2.block wr.heap.size (by simp) (fun hS => by
            rcases hS with hS | hS | hS
            · omega
            · omega
            · have := own_lt M.prow hS; omega)).trans (show (wr.heap.push _)[wr.heap.size]? = _ by simp)
        have C3 : Chg (Own3 m g1 pk) wr w2 := (Chg.of_ext ((Ext.refl wr).alloc _).drew).trans C2
        have B3 : Below n0 w w2 := hB.out.trans (C3.below (fun k hS => by
          rcases hS with hS | hS | hS
          · omega
          · have := M.low.2.1; omega
          · rcases M.prow.2 with ⟨h1, _⟩ | ⟨g', cap', cur', h1, h2, _⟩
            · rw [h1] at hS; cases hS
            · rw [h1] at hS
              obtain rfl : g' = k := by simpa [Value.ownBlock] using hS
              omega) (by omega))
        have ew := stepQ_why hy0
        have j7 := M2.c 7 (v := .int .i64 (whyAt sk)) (by rw [← ew]; rfl)
        have hxm : wr.heap.size ≠ m := by omega
        have hmx : m ≠ wr.heap.size := by omega
        have Hx := Lib.hid hx
        have HC := Lib.hid C3
        have HE := Lib.hid ew
        have Hyy := Lib.hid hy0
        clear C2 C3 ew hy0 k4 k5 k7 k4' k5'
        cases hz : whyAt sk == 0 with
        | false =>
          have Hz := Lib.hid hz
          rw [show whyAt sk = whyAt sk from rfl] at j7
          go_wp2_with fail
          go_roundg (most - k)
          case measure => omega
          case rel =>
            have hs2 : (stepQ sk).why ≠ 0 := by rw [HE.out]; intro e; rw [e] at Hz; exact absurd Hz.out (by decide)
            refine ⟨k + 1, by omega, by omega, by go_num, ?_, ?_, B3⟩
            · rw [R1.out, if_pos Hyy.out]; exact ⟨_, _, M2⟩
            · rw [R2.out, if_neg (fun c => hs2 c.2)]; exact HT.out.keep _ _ _ _ _ _ _ M HC.out hI.out
        | true =>
          have Hz := Lib.hid hz
          have j8 := M2.c 8 (v := .int .i64 (ordAt sk).op) rfl
          have j9 := M2.c 9 (v := .int .i64 (ordAt sk).frm) rfl
          have j10 := M2.c 10 (v := .int .i64 (ordAt sk).to) rfl
          have j11 := M2.c 11 (v := .int .i64 (ordAt sk).nxt) rfl
          have j4 := M2.c 4 (v := .int .i64 (stepQ sk).time) rfl
          have x0 := cell_of_cells hx 0 (v := .int .i64 sk.at_) rfl
          have x1 := cell_of_cells hx 1 (v := .int .i64 0) rfl
          have x2 := cell_of_cells hx 2 (v := .int .i64 0) rfl
          have x3 := cell_of_cells hx 3 (v := .int .i64 0) rfl
          have x4 := cell_of_cells hx 4 (v := .int .i64 0) rfl
          have x5 := cell_of_cells hx 5 (v := .int .i64 sk.time) rfl
          have x6 := cell_of_cells hx 6 (v := .int .i64 0) rfl
          have y1 := free_of_cells hx 1
          have y2 := free_of_cells hx 2
          have y3 := free_of_cells hx 3
          have y4 := free_of_cells hx 4
          have y6 := free_of_cells hx 6
          clear hx
          have ht := fun (W : World) (h1 : n0 ≤ W.heap.size) (h2 : I lk W) => HT.out.tell ⟨sk.at_, ordAt sk, sk.time, (stepQ sk).time⟩ lk W (by omega) h1 h2
          have HT2 := Lib.hid ht
          clear ht
          go_wp2_with fail
          go_region
          go_wp2_with fail
          have S5 := set5 Hx.out (by decide) (by decide) 1 2 3 4 6 (.int .i64 (ordAt sk).op) (.int .i64 (ordAt sk).frm) (.int .i64 (ordAt sk).to) (.int .i64 (ordAt sk).nxt) (.int .i64 (stepQ sk).time)
          have CW := (HC.out.trans' S5.2 (fun i hi e => by omega)).trans (.of_ext (Ext.refl _).drew)
          have MW := (M2.keep S5.1).ext (Ext.refl _).drew
          have BW := (B3.trans (S5.2.below (n := n0) (fun k e => by omega) (by have := M2.ltm; omega))).drew
          have hnw : n0 ≤ w2.heap.size := by have := M2.ltm; omega
          refine (HT2.out _ (by exact Nat.le_trans hnw S5.1.1) (HT.out.keep _ _ _ _ _ _ _ M CW hI.out)).mono ?_
          rintro e w3 ⟨rfl, hI3, hK3, hB3⟩
          have M3 := MW.keep hK3
          have B4 := BW.trans hB3
          clear S5 CW MW BW hK3 hB3 x0 x1 x2 x3 x4 x5 x6 y1 y2 y3 y4 y6 j4 j7 j8 j9 j10 j11
          go_wp2_with fail
          go_roundg (most - k)
          case measure => omega
          case rel =>
            have hs2 : (stepQ sk).why = 0 := by rw [HE.out]; simpa using Hz.out
            refine ⟨k + 1, by omega, by omega, by go_num, ?_, ?_, B4⟩
            · rw [R1.out, if_pos Hyy.out]; exact ⟨_, _, M3⟩
            · rw [R2.out, if_pos ⟨Hyy.out, hs2⟩]; exact hI3
    · have hltz : ¬ (k : Int) < (most : Int) := by omega
      have hkm : k = most := by omega
      have Hkm := Lib.hid hkm
      clear hkm
      go_wp2_with fail
      go_end0
      exact ⟨rfl, ⟨pk, ok, by rw [← Hkm.out]; exact M⟩, by rw [← Hkm.out]; exact hI.out, hB.out⟩
end Go.Proofs.Ytjfggepgjpdebaa

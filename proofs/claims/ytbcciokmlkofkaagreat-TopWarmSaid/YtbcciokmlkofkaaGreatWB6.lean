import Derived.ScopeJumps
import Derived.Shelf.Abstract
import Derived.Deep.LoopGhost
import Derived.Deep.AppendLies
import Derived.Test.YtbcciokmlkofkaaGreatWB4
import Derived.Test.YtbcciokmlkofkaaGreatWB5
import Derived.Test.YtbcciokmlkofkaaGreatWSpec4d
set_option linter.unusedVariables false
set_option linter.unusedSimpArgs false
/- Contract: machine.run, whatever it tells. -/
namespace Go.Proofs.YtbcciokmlkofkaaGreat
open Go.RowKit Go.Q
/-- a step as a value -/
abbrev stv (x : Stp) : Value := .agg #[.int .i64 x.at_, .int .i64 x.ord.op, .int .i64 x.ord.frm, .int .i64 x.ord.to, .int .i64 x.ord.nxt, .int .i64 x.time, .int .i64 x.until_]
/-- rows of ints and machines stay -/
def KeepT (w w' : World) : Prop := w.heap.size ≤ w'.heap.size ∧ ∀ (k : Nat) (c : Array Value) (T : TypeId) (fr : Nat × Nat), w.heap[k]? = some (Obj.cells c T fr) → T = 3 ∨ T = 103 → w'.heap[k]? = w.heap[k]?
theorem KeepT.of_ext {w w' : World} (h : Ext w w') : KeepT w w' := ⟨h.size, fun k c T fr hk _ => h.block k (lt_of_block hk)⟩
theorem KeepT.set {w : World} {b : Nat} {cs : Array Value} {T : TypeId} {fr : Nat × Nat} (hb : w.heap[b]? = some (.cells cs T fr)) (h1 : T ≠ 3) (h2 : T ≠ 103) (i : Nat) (v : Value) : KeepT w (w.setCell ⟨b, i, none⟩ v) :=
  ⟨by simp [World.setCell], fun k c U fr' hk hU => Below.heap_setCell _ _ _ _ (fun e => by
    have e' : k = b := e
    rw [e'] at hk
    have := hb.symm.trans hk
    simp only [Option.some.injEq, Obj.cells.injEq] at this
    obtain ⟨_, rfl, _⟩ := this
    exact hU.elim h1 h2)⟩
variable {nb m g1 c1 : Nat} {tv pv : Value} {s : St} {o : Ord}
theorem Mac.keep {w w' : World} (h : Mac w nb m g1 c1 tv pv s o) (k : KeepT w w') : Mac w' nb m g1 c1 tv pv s o where
  low := h.low
  blk := (k.2 _ _ _ _ h.blk (.inr rfl)).trans h.blk
  st := by obtain ⟨cur, hg, ht⟩ := h.st; exact ⟨cur, (k.2 _ _ _ _ hg (.inl rfl)).trans hg, ht⟩
  len := h.len
  tp := by
    obtain ⟨a2, c2, hv, ht⟩ := h.tp
    refine ⟨a2, c2, hv, ?_⟩
    rcases ht with ht | ⟨b, off, ha, ⟨cu, hcu⟩, h1, h2, h3, hc⟩
    · exact .inl ht
    · have e := k.2 _ _ _ _ hcu (.inl rfl)
      exact .inr ⟨b, off, ha, ⟨cu, e.trans hcu⟩, h1, h2, h3, fun i hi => (World.cell?_of_block (w := w) e).trans (hc i hi)⟩
  prow := own_later h.prow (fun b hb => by
    rcases h.prow.2 with ⟨e, _⟩ | ⟨g, cap, cur, e, _, hg, _⟩
    · rw [e] at hb; cases hb
    · rw [e] at hb
      obtain rfl : g = b := by simpa [Value.ownBlock] using hb
      exact k.2 _ _ _ _ hg (.inl rfl))
  pm := h.pm
  pg := h.pg
theorem KeepT.trans {a b c : World} (h : KeepT a b) (k : KeepT b c) : KeepT a c :=
  ⟨Nat.le_trans h.1 k.1, fun i cs T fr hi hT => by
    have e := h.2 i cs T fr hi hT
    exact (k.2 i cs T fr (e.trans hi) hT).trans e⟩
/-- five cells of a block that is no machine's are written -/
theorem set5 {w : World} {b : Nat} {cs : Array Value} {T : TypeId} (hb : w.heap[b]? = some (.cells cs T (0, 0))) (h1 : T ≠ 3) (h2 : T ≠ 103) (i j k l n : Nat) (x y z u v : Value) :
    KeepT w (((((w.setCell ⟨b, i, none⟩ x).setCell ⟨b, j, none⟩ y).setCell ⟨b, k, none⟩ z).setCell ⟨b, l, none⟩ u).setCell ⟨b, n, none⟩ v) ∧
      Chg (fun q => q = b) w (((((w.setCell ⟨b, i, none⟩ x).setCell ⟨b, j, none⟩ y).setCell ⟨b, k, none⟩ z).setCell ⟨b, l, none⟩ u).setCell ⟨b, n, none⟩ v) := by
  have b1 := cells_set hb i x
  have b2 := cells_set b1 j y
  have b3 := cells_set b2 k z
  have b4 := cells_set b3 l u
  refine ⟨((((KeepT.set hb h1 h2 i x).trans (KeepT.set b1 h1 h2 j y)).trans (KeepT.set b2 h1 h2 k z)).trans (KeepT.set b3 h1 h2 l u)).trans (KeepT.set b4 h1 h2 n v), ?_⟩
  exact ((((((Chg.refl (fun q => q = b) w).setCell ⟨b, i, none⟩ rfl x).setCell ⟨b, j, none⟩ rfl y).setCell ⟨b, k, none⟩ rfl z).setCell ⟨b, l, none⟩ rfl u).setCell ⟨b, n, none⟩ rfl v)
theorem runQ_stop {s : St} {k : Nat} (h : (runQ k s).why ≠ 0) : ∀ j, runQ (k + j) s = runQ k s ∧ traceQ (k + j) s = traceQ k s
  | 0 => ⟨rfl, rfl⟩
  | j + 1 => by
    obtain ⟨h1, h2⟩ := runQ_stop h j
    have e : k + (j + 1) = (k + j) + 1 := rfl
    rw [e, runQ_snoc, traceQ_snoc, h1, h2, if_neg h, if_neg (fun c => h c.1)]
    exact ⟨rfl, rfl⟩
/-- what is asked of the function that is told each step -/
structure Tell (P : Program) (g : Nat) (lb : Array Value) (nb m g1 c1 n0 : Nat) (I : List Stp → World → Prop) : Prop where
  keep : ∀ l W W' tv pv s o, Mac W nb m g1 c1 tv pv s o → Chg (Own3 m g1 pv) W W' → I l W → I l W'
  tell : ∀ x l W, l.length ≤ 5000 → n0 ≤ W.heap.size → I l W → Calls P g (#[stv x] ++ lb) W fun e w' => e = .returned (.tuple #[]) ∧ I (l ++ [x]) w' ∧ KeepT W w' ∧ Below n0 W w'
/-- the machine has run -/
def RunRes (nb m g1 c1 n0 : Nat) (tv : Value) (I : List Stp → World → Prop) (s : St) (n : Nat) (w : World) (e : Ending) (w' : World) : Prop :=
  e = .returned (.tuple #[]) ∧ (∃ pv o, Mac w' nb m g1 c1 tv pv (runQ n s) o) ∧ I (traceQ n s) w' ∧ Below n0 w w'
set_option maxHeartbeats 8000000 in
set_option maxRecDepth 100000 in
theorem run_any (w : World) (n0 most : Nat) (g : Nat) (lb : Array Value) (I : List Stp → World → Prop) (h : Mac w nb m g1 c1 tv pv s o) (hv : Valid s) (hm : most ≤ 5000) (hn0 : n0 ≤ nb)
    (eg : ∀ args w, (callFunc g args).run Tryz.prog w = .ok (.enter g args) w) (hT : Tell Tryz.prog g lb nb m g1 c1 n0 I) (hI : I [] w) :
    Calls Tryz.prog 46 #[.pointer (some ⟨m, 0, none⟩), .int .i64 most, .func (.func g) #[] lb] w (RunRes nb m g1 c1 n0 tv I s most w) := by
  have HT := Lib.hid hT
  have HV := Lib.hid hv
  have Hm0 := Lib.hid (And.intro hI h)
  clear hT hv hI h
  go_enter Tryz.func46, Tryz.ntmps46
  go_wp2
  go_step3
  go_wp2
  go_step3
  go_wp2
  go_loopg [6, 8] (most + 1) (fun gg _ s8 wr => ∃ k : Nat, k ≤ most ∧ most + 1 - k ≤ gg ∧ s8 = .int .i64 k ∧ Aside (∃ pv o, Mac wr nb m g1 c1 tv pv (runQ k s) o) ∧ Aside (I (traceQ k s) wr) ∧ Aside (Below n0 w wr))
  case atStart => exact ⟨0, by omega, by omega, rfl, ⟨_, _, Hm0.out.2⟩, Hm0.out.1, Below.refl _ _⟩
  case round =>
    obtain ⟨k, hk, hg, rfl, hM, hI, hB⟩ := hrel
    clear Hm0
    obtain ⟨pk, ok, M⟩ := hM.out
    clear hM
    by_cases hlt : k < most
    · have hltz : (k : Int) < (most : Int) := by omega
      have k7 := M.c 7 (v := .int .i64 (runQ k s).why) rfl
      have k4 := M.c 4 (v := .int .i64 (runQ k s).time) rfl
      have k5 := M.c 5 (v := .int .i64 (runQ k s).at_) rfl
      have k4' : ∀ ob, (wr.alloc ob).cell? ⟨m, 4, none⟩ = some (.int .i64 (runQ k s).time) := fun ob => cell_later ((Ext.refl wr).alloc ob) k4
      have k5' : ∀ ob, (wr.alloc ob).cell? ⟨m, 5, none⟩ = some (.int .i64 (runQ k s).at_) := fun ob => cell_later ((Ext.refl wr).alloc ob) k5
      have V := Lib.hid (runQ_valid k HV.out)
      have R1 := Lib.hid (runQ_snoc k s)
      have R2 := Lib.hid (traceQ_snoc k s)
      have R3 := Lib.hid (runQ_stop (s := s) (k := k))
      have hll := traceQ_le k s
      generalize runQ k s = sk at *
      generalize traceQ k s = lk at *
      cases hy : sk.why == 0 with
      | false =>
        have hy' : (sk.why != 0) = true := by rw [bne, hy]; rfl
        have Hy := Lib.hid hy
        clear hy
        go_wp2_with fail
        rw [Exit.noGoto_normal]
        go_end0
        have hne : sk.why ≠ 0 := by have := Hy.out; intro e; rw [e] at this; exact absurd this (by decide)
        obtain ⟨e1, e2⟩ := R3.out hne (most - k)
        have ek : k + (most - k) = most := by omega
        rw [ek] at e1 e2
        exact ⟨rfl, ⟨pk, ok, by rw [e1]; exact M⟩, by rw [e2]; exact hI.out, hB.out⟩
      | true =>
        have hy' : (sk.why != 0) = false := by rw [bne, hy]; rfl
        have Hy := Lib.hid hy
        clear hy
        go_wp2_with fail
        go_region
        go_wp2_with fail
        have hy0 : sk.why = 0 := by simpa using Hy.out
        have hlt1 := M.ltm
        have hlt2 := M.ltg
        have hnm := M.low.1
        refine (step_any _ (by exact M.ext ((Ext.refl wr).alloc _).drew) V.out hy0).mono ?_
        rintro e w2 ⟨rfl, pv2, M2, C2, hp2⟩
        have hx : w2.heap[wr.heap.size]? = some (.cells #[.int .i64 sk.at_, .int .i64 0, .int .i64 0, .int .i64 0, .int .i64 0, .int .i64 sk.time, .int .i64 0] 87 (0, 0)) :=
          (C2.block wr.heap.size (by simp) (fun hS => by
            rcases hS with hS | hS | hS
            · omega
            · omega
            · have := own_lt M.prow hS; omega)).trans (show (wr.heap.push _)[wr.heap.size]? = _ by simp)
        have C3 : Chg (Own3 m g1 pk) wr w2 := (Chg.of_ext ((Ext.refl wr).alloc _).drew).trans C2
        have B3 : Below n0 w w2 := hB.out.trans (C3.below (fun k hS => by
          rcases hS with hS | hS | hS
          · omega
          · have := M.low.2.1; omega
          · rcases M.prow.2 with ⟨h1, _⟩ | ⟨g', cap', cur', h1, h2, _⟩
            · rw [h1] at hS; cases hS
            · rw [h1] at hS
              obtain rfl : g' = k := by simpa [Value.ownBlock] using hS
              omega) (by omega))
        have ew := stepQ_why hy0
        have j7 := M2.c 7 (v := .int .i64 (whyAt sk)) (by rw [← ew]; rfl)
        have hxm : wr.heap.size ≠ m := by omega
        have hmx : m ≠ wr.heap.size := by omega
        have Hx := Lib.hid hx
        have HC := Lib.hid C3
        have HE := Lib.hid ew
        have Hyy := Lib.hid hy0
        clear C2 C3 ew hy0 k4 k5 k7 k4' k5'
        cases hz : whyAt sk == 0 with
        | false =>
          have Hz := Lib.hid hz
          rw [show whyAt sk = whyAt sk from rfl] at j7
          go_wp2_with fail
          go_roundg (most - k)
          case measure => omega
          case rel =>
            have hs2 : (stepQ sk).why ≠ 0 := by rw [HE.out]; intro e; rw [e] at Hz; exact absurd Hz.out (by decide)
            refine ⟨k + 1, by omega, by omega, by go_num, ?_, ?_, B3⟩
            · rw [R1.out, if_pos Hyy.out]; exact ⟨_, _, M2⟩
            · rw [R2.out, if_neg (fun c => hs2 c.2)]; exact HT.out.keep _ _ _ _ _ _ _ M HC.out hI.out
        | true =>
          have Hz := Lib.hid hz
          have j8 := M2.c 8 (v := .int .i64 (ordAt sk).op) rfl
          have j9 := M2.c 9 (v := .int .i64 (ordAt sk).frm) rfl
          have j10 := M2.c 10 (v := .int .i64 (ordAt sk).to) rfl
          have j11 := M2.c 11 (v := .int .i64 (ordAt sk).nxt) rfl
          have j4 := M2.c 4 (v := .int .i64 (stepQ sk).time) rfl
          have x0 := cell_of_cells hx 0 (v := .int .i64 sk.at_) rfl
          have x1 := cell_of_cells hx 1 (v := .int .i64 0) rfl
          have x2 := cell_of_cells hx 2 (v := .int .i64 0) rfl
          have x3 := cell_of_cells hx 3 (v := .int .i64 0) rfl
          have x4 := cell_of_cells hx 4 (v := .int .i64 0) rfl
          have x5 := cell_of_cells hx 5 (v := .int .i64 sk.time) rfl
          have x6 := cell_of_cells hx 6 (v := .int .i64 0) rfl
          have y1 := free_of_cells hx 1
          have y2 := free_of_cells hx 2
          have y3 := free_of_cells hx 3
          have y4 := free_of_cells hx 4
          have y6 := free_of_cells hx 6
          clear hx
          have ht := fun (W : World) (h1 : n0 ≤ W.heap.size) (h2 : I lk W) => HT.out.tell ⟨sk.at_, ordAt sk, sk.time, (stepQ sk).time⟩ lk W (by omega) h1 h2
          have HT2 := Lib.hid ht
          clear ht
          go_wp2_with fail
          go_region
          go_wp2_with fail
          have S5 := set5 Hx.out (by decide) (by decide) 1 2 3 4 6 (.int .i64 (ordAt sk).op) (.int .i64 (ordAt sk).frm) (.int .i64 (ordAt sk).to) (.int .i64 (ordAt sk).nxt) (.int .i64 (stepQ sk).time)
          have CW := (HC.out.trans' S5.2 (fun i hi e => by omega)).trans (.of_ext (Ext.refl _).drew)
          have MW := (M2.keep S5.1).ext (Ext.refl _).drew
          have BW := (B3.trans (S5.2.below (n := n0) (fun k e => by omega) (by have := M2.ltm; omega))).drew
          have hnw : n0 ≤ w2.heap.size := by have := M2.ltm; omega
          refine (HT2.out _ (by exact Nat.le_trans hnw S5.1.1) (HT.out.keep _ _ _ _ _ _ _ M CW hI.out)).mono ?_
          rintro e w3 ⟨rfl, hI3, hK3, hB3⟩
          have M3 := MW.keep hK3
          have B4 := BW.trans hB3
          clear S5 CW MW BW hK3 hB3 x0 x1 x2 x3 x4 x5 x6 y1 y2 y3 y4 y6 j4 j7 j8 j9 j10 j11
          go_wp2_with fail
          go_roundg (most - k)
          case measure => omega
          case rel =>
            have hs2 : (stepQ sk).why = 0 := by rw [HE.out]; simpa using Hz.out
            refine ⟨k + 1, by omega, by omega, by go_num, ?_, ?_, B4⟩
            · rw [R1.out, if_pos Hyy.out]; exact ⟨_, _, M3⟩
            · rw [R2.out, if_pos ⟨Hyy.out, hs2⟩]; exact hI3
    · have hltz : ¬ (k : Int) < (most : Int) := by omega
      have hkm : k = most := by omega
      have Hkm := Lib.hid hkm
      clear hkm
      go_wp2_with fail
      go_end0
      exact ⟨rfl, ⟨pk, ok, by rw [← Hkm.out]; exact M⟩, by rw [← Hkm.out]; exact hI.out, hB.out⟩
end Go.Proofs.YtbcciokmlkofkaaGreat
/- Contract: the program's Run. -/
namespace Go.Proofs.YtbcciokmlkofkaaGreat
open Go.RowKit Go.Q
variable {nb m g1 c1 n0 : Nat} {tv pv : Value} {s : St} {o : Ord}
/-- the call returned a state and an error's code -/
def StRes (p : St × Int) (w : World) (e : Ending) (w' : World) : Prop := ∃ v, e = .returned (.tuple #[v, .int .i64 p.2]) ∧ StAt w' v p.1 ∧ Ext w w'
theorem Mac.reads {w : World} (h : Mac w nb m g1 c1 tv pv s o) : ∃ a2 ct a3 cp, tv = .slice a2 s.tape.length ct ∧ pv = .slice a3 s.printed.length cp ∧ IntsAt w (some ⟨g1, 0, none⟩) s.store ∧ IntsAt w a2 s.tape ∧ IntsAt w a3 s.printed := by
  obtain ⟨a2, ct, hv, ht⟩ := h.tp
  obtain ⟨a3, cp, hp⟩ := own_form h.prow
  refine ⟨a2, ct, a3, cp, hv, hp, .inr ⟨g1, 0, rfl, h.ltg, fun i hi => by rw [Nat.zero_add]; exact h.wc i (by rw [← h.len]; exact hi)⟩, ?_, ?_⟩
  · rcases ht with e | ⟨b, off, ha, ⟨cu, hcu⟩, _, _, _, hc⟩
    · exact .inl e
    · exact .inr ⟨b, off, ha, lt_of_block hcu, hc⟩
  · have := h.prow
    rw [hp] at this
    exact own_ints this
theorem keepM_tell : Tell Tryz.prog 47 #[] nb m g1 c1 n0 (fun _ _ => True) where
  keep := fun _ _ _ _ _ _ _ _ _ _ => trivial
  tell := fun x l W _ hn _ => by
    go_enter Tryz.func47, Tryz.ntmps47
    go_wp2
    go_end0
    exact ⟨rfl, trivial, KeepT.of_ext ((Ext.refl W).alloc _), (Below.refl n0 W).alloc hn _⟩
theorem blk2 {w w1 : World} {o : Obj} {vs : Array Value} {T : TypeId} (h : Ext ((w.alloc o).alloc (.cells vs T)) w1) : w1.heap[w.heap.size + 1]? = some (.cells vs T (0, 0)) := by
  refine (h.block (w.heap.size + 1) (by simp)).trans ?_
  have e := heap_alloc_new (w.alloc o) (.cells vs T)
  rw [World.size_alloc] at e
  exact e
theorem keep8 {w : World} {b : Nat} {cs : Array Value} {T : TypeId} (hb : w.heap[b]? = some (.cells cs T (0, 0))) (h1 : T ≠ 3) (h2 : T ≠ 103) (v0 v1 v2 v3 v4 v5 v6 v7 : Value) :
    KeepT w ((((((((w.setCell ⟨b, 0, none⟩ v0).setCell ⟨b, 1, none⟩ v1).setCell ⟨b, 2, none⟩ v2).setCell ⟨b, 3, none⟩ v3).setCell ⟨b, 4, none⟩ v4).setCell ⟨b, 5, none⟩ v5).setCell ⟨b, 6, none⟩ v6).setCell ⟨b, 7, none⟩ v7) := by
  have b1 := cells_set hb 0 v0
  have b2 := cells_set b1 1 v1
  have b3 := cells_set b2 2 v2
  have b4 := cells_set b3 3 v3
  have b5 := cells_set b4 4 v4
  have b6 := cells_set b5 5 v5
  have b7 := cells_set b6 6 v6
  exact (((((((KeepT.set hb h1 h2 0 v0).trans (KeepT.set b1 h1 h2 1 v1)).trans (KeepT.set b2 h1 h2 2 v2)).trans (KeepT.set b3 h1 h2 3 v3)).trans (KeepT.set b4 h1 h2 4 v4)).trans (KeepT.set b5 h1 h2 5 v5)).trans (KeepT.set b6 h1 h2 6 v6)).trans (KeepT.set b7 h1 h2 7 v7)
set_option maxHeartbeats 4000000 in
set_option maxRecDepth 100000 in
theorem run_bad (v : Value) (s : St) (most : Int) (w : World) (h : StAt w v s) (hb : StBd s) (he : askedQ s most ≠ 0) :
    Calls Tryz.prog 10 #[v, .int .i64 most] w (StRes (runE s most) w) := by
  have e1 : runE s most = (zst, askedQ s most) := by simp [runE, he]
  rw [e1]
  have ho := fun W (E : Ext w W) => open_bad v s most W (h.ext E) hb he
  have hne : (askedQ s most != 0) = true := by simpa using he
  obtain ⟨a1, a2, a3, k1, k2, k3, rfl, _, _, _⟩ := h
  clear he e1 hb
  generalize askedQ s most = er at *
  go_enter Tryz.func10, Tryz.ntmps10
  go_wp2_with fail
  refine (ho _ (by exact ((Ext.refl w).alloc _).alloc _)).mono ?_
  rintro e w3 ⟨rfl, hb3⟩
  have q0 := box_at2 (v := .slice none 0 0) hb3 0 rfl
  have q1 := box_at2 (v := .slice none 0 0) hb3 1 rfl
  have q2 := box_at2 (v := .int .i64 0) hb3 2 rfl
  have q3 := box_at2 (v := .slice none 0 0) hb3 3 rfl
  have q4 := box_at2 (v := .int .i64 0) hb3 4 rfl
  have q5 := box_at2 (v := .int .i64 0) hb3 5 rfl
  have q6 := box_at2 (v := .int .i64 0) hb3 6 rfl
  have q7 := box_at2 (v := .int .i64 0) hb3 7 rfl
  have f0 := box_free2 hb3 0
  have f1 := box_free2 hb3 1
  have f2 := box_free2 hb3 2
  have f3 := box_free2 hb3 3
  have f4 := box_free2 hb3 4
  have f5 := box_free2 hb3 5
  have f6 := box_free2 hb3 6
  have f7 := box_free2 hb3 7
  go_wp2_with fail
  refine bodyPost_ret (v := .tuple #[.agg #[.slice none 0 0, .slice none 0 0, .int .i64 0, .slice none 0 0, .int .i64 0, .int .i64 0, .int .i64 0, .int .i64 0], .int .i64 er]) (by simp [results, Tryz.results10, go_sem, q0, q1, q2, q3, q4, q5, q6, q7]) rfl ?_
  exact ⟨_, rfl, ⟨none, none, none, 0, 0, 0, rfl, .inl rfl, .inl rfl, .inl rfl⟩, ext_set8 (Ext.old (Ext.old hb3)) (by omega) _ _ _ _ _ _ _ _⟩
set_option maxHeartbeats 4000000 in
set_option maxRecDepth 100000 in
theorem run_good (v : Value) (s : St) (most : Int) (w : World) (h : StAt w v s) (hb : StBd s) (he : askedQ s most = 0) :
    Calls Tryz.prog 10 #[v, .int .i64 most] w (StRes (runE s most) w) := by
  have e1 : runE s most = (runQ most.toNat s, 0) := by simp [runE, he]
  rw [e1]
  obtain ⟨z1, z2⟩ := asked_ok he
  have hv := valid_of_check z1
  have z3 := check_zero z1
  obtain ⟨p0, p1⟩ := inB_bd z2
  obtain ⟨a1, a2, a3, k1, k2, k3, rfl, i1, i2, i3⟩ := h
  rw [hv.len]
  have ho := fun W (E : Ext w W) => open_ok a1 a2 a3 _ _ k1 k2 k3 s most W hv.len rfl rfl hv.tlen hv.plen (i1.ext E) (i2.ext E) (i3.ext E) z3 z2
  clear i1 i2 i3 z1 z2 z3 he e1 hb
  obtain ⟨n, rfl⟩ := Int.eq_ofNat_of_zero_le p0
  have hn : n ≤ 5000 := by omega
  have HV := Lib.hid hv
  clear hv p0 p1
  have en : ((n : Int)).toNat = n := rfl
  rw [en]
  clear en
  go_enter Tryz.func10, Tryz.ntmps10
  go_wp2_with fail
  refine (ho _ (by exact ((Ext.refl w).alloc _).alloc _)).mono ?_
  rintro e w3 ⟨m, g1, c1, tv, pv, rfl, M, hb3⟩
  clear ho
  go_wp2_with fail
  refine (run_any w3 (w.heap.size + 2) n 47 #[] (fun _ _ => True) M HV.out hn (by simp) (enters_of Tryz.func47 (by kernel_rfl) rfl) keepM_tell trivial).mono ?_
  rintro e w4 ⟨rfl, ⟨pv4, o4, M4⟩, _, hB4⟩
  have hb4 : Ext ((w.alloc _).alloc _) w4 := hb3.trans (by simpa using hB4)
  have q0 := box_at2 (v := .slice none 0 0) hb4 0 rfl
  have q1 := box_at2 (v := .slice none 0 0) hb4 1 rfl
  have q2 := box_at2 (v := .int .i64 0) hb4 2 rfl
  have q3 := box_at2 (v := .slice none 0 0) hb4 3 rfl
  have q4 := box_at2 (v := .int .i64 0) hb4 4 rfl
  have q5 := box_at2 (v := .int .i64 0) hb4 5 rfl
  have q6 := box_at2 (v := .int .i64 0) hb4 6 rfl
  have q7 := box_at2 (v := .int .i64 0) hb4 7 rfl
  have f0 := box_free2 hb4 0
  have f1 := box_free2 hb4 1
  have f2 := box_free2 hb4 2
  have f3 := box_free2 hb4 3
  have f4 := box_free2 hb4 4
  have f5 := box_free2 hb4 5
  have f6 := box_free2 hb4 6
  have f7 := box_free2 hb4 7
  obtain ⟨b2, bt, b3, bp, rfl, rfl, _, _, _⟩ := M4.reads
  have M5 := M4.keep (keep8 (blk2 hb4) (by decide) (by decide) (.slice (some ⟨g1, 0, none⟩) 128 c1) (.slice b2 (runQ n s).tape.length bt) (.int .i64 (runQ n s).taken) (.slice b3 (runQ n s).printed.length bp) (.int .i64 (runQ n s).time) (.int .i64 (runQ n s).at_) (.int .i64 (runQ n s).done) (.int .i64 (runQ n s).why))
  have HM5 := Lib.hid M5
  clear M5
  have r0 := M4.c 0 (v := .slice (some ⟨g1, 0, none⟩) 128 c1) rfl
  have r1 := M4.c 1 (v := .slice b2 (runQ n s).tape.length bt) rfl
  have r2 := M4.c 2 (v := .int .i64 (runQ n s).taken) rfl
  have r3 := M4.c 3 (v := .slice b3 (runQ n s).printed.length bp) rfl
  have r4 := M4.c 4 (v := .int .i64 (runQ n s).time) rfl
  have r5 := M4.c 5 (v := .int .i64 (runQ n s).at_) rfl
  have r6 := M4.c 6 (v := .int .i64 (runQ n s).done) rfl
  have r7 := M4.c 7 (v := .int .i64 (runQ n s).why) rfl
  have hlen := Lib.hid M4.len
  clear M M4 hB4 hb3
  go_wp2_with fail
  refine bodyPost_ret (v := .tuple #[.agg #[.slice (some ⟨g1, 0, none⟩) 128 c1, .slice b2 (runQ n s).tape.length bt, .int .i64 (runQ n s).taken, .slice b3 (runQ n s).printed.length bp, .int .i64 (runQ n s).time, .int .i64 (runQ n s).at_, .int .i64 (runQ n s).done, .int .i64 (runQ n s).why], .int .i64 0]) (by simp [results, Tryz.results10, go_sem, q0, q1, q2, q3, q4, q5, q6, q7]) rfl ?_
  obtain ⟨d2, dt, d3, dp, x1, x2, I1, I2, I3⟩ := HM5.out.reads
  obtain ⟨rfl, -, rfl⟩ := Value.slice.inj x1
  obtain ⟨rfl, -, rfl⟩ := Value.slice.inj x2
  exact ⟨_, rfl, ⟨some ⟨g1, 0, none⟩, b2, b3, c1, bt, bp, by rw [hlen.out], I1, I2, I3⟩, ext_set8 (Ext.old (Ext.old hb4)) (by omega) _ _ _ _ _ _ _ _⟩
theorem runE_any (v : Value) (s : St) (most : Int) (w : World) (h : StAt w v s) (hb : StBd s) : Calls Tryz.prog 10 #[v, .int .i64 most] w (StRes (runE s most) w) := by
  by_cases he : askedQ s most = 0
  · exact run_good v s most w h hb he
  · exact run_bad v s most w h hb he
end Go.Proofs.YtbcciokmlkofkaaGreat
/- Contract: the program's Trace. -/
namespace Go.Proofs.YtbcciokmlkofkaaGreat
open Go.RowKit Go.Q
variable {nb m g1 c1 n0 : Nat} {tv pv : Value} {s : St} {o : Ord}
theorem Tryz.infoS : (Tryz.prog.info? 87).map (fun i => (i.zero, i.size, i.bytes)) = some (some (.agg #[.int .i64 0, .int .i64 0, .int .i64 0, .int .i64 0, .int .i64 0, .int .i64 0, .int .i64 0]), 7, 56) := by kernel_rfl
/-- the cells of a step -/
def sc (x : Stp) : List Value := [.int .i64 x.at_, .int .i64 x.ord.op, .int .i64 x.ord.frm, .int .i64 x.ord.to, .int .i64 x.ord.nxt, .int .i64 x.time, .int .i64 x.until_]
def scs (l : List Stp) : List Value := l.flatMap sc
/-- the captured list: its box Bl, its row -/
def Tell1 (Bl n0 : Nat) (l : List Stp) (W : World) : Prop :=
  n0 ≤ Bl ∧ ∃ v, W.heap[Bl]? = some (.cells #[v] 78 (0, 0)) ∧ W.ownsRow n0 87 7 v l.length (scs l) ∧ v.ownBlock ≠ some Bl
theorem own7_at {w : World} {nb t n : Nat} {v : Value} {xs : List Value} (h : w.ownsRow nb t 7 v n xs) {b : Nat} (hb : v.ownBlock = some b) : nb ≤ b ∧ ∃ cur, w.heap[b]? = some (.cells cur t (0, 0)) := by
  rcases h.2 with ⟨rfl, _⟩ | ⟨g, cap, cur, rfl, hg, hh, _⟩
  · cases hb
  · obtain rfl : g = b := by simpa [Value.ownBlock] using hb
    exact ⟨hg, cur, hh⟩
theorem own7_later {w w' : World} {nb t n : Nat} {pv : Value} {xs : List Value} (h : w.ownsRow nb t 7 pv n xs) (hb : ∀ b, pv.ownBlock = some b → w'.heap[b]? = w.heap[b]?) : w'.ownsRow nb t 7 pv n xs := by
  refine ⟨h.1, ?_⟩
  rcases h.2 with h2 | ⟨g, cap, cur, rfl, hbg, hg, r⟩
  · exact .inl h2
  · exact .inr ⟨g, cap, cur, rfl, hbg, (hb g rfl).trans hg, r⟩
/-- a block of another type is none of the machine's -/
theorem not_own3 {w : World} (h : Mac w nb m g1 c1 tv pv s o) {b : Nat} {cs : Array Value} {T : TypeId} {fr : Nat × Nat} (hb : w.heap[b]? = some (.cells cs T fr)) (h1 : T ≠ 3) (h2 : T ≠ 103) : ¬ Own3 m g1 pv b := by
  rintro (rfl | rfl | e)
  · have := h.blk.symm.trans hb
    simp only [Option.some.injEq, Obj.cells.injEq] at this
    exact h2 this.2.1.symm
  · obtain ⟨cur, hg, _⟩ := h.st
    have := hg.symm.trans hb
    simp only [Option.some.injEq, Obj.cells.injEq] at this
    exact h1 this.2.1.symm
  · rcases h.prow.2 with ⟨h3, _⟩ | ⟨g, cap, cur, h3, _, hg, _⟩
    · rw [h3] at e; cases e
    · rw [h3] at e
      obtain rfl : g = b := by simpa [Value.ownBlock] using e
      have := hg.symm.trans hb
      simp only [Option.some.injEq, Obj.cells.injEq] at this
      exact h1 this.2.1.symm
theorem tell1_keep {Bl : Nat} {l : List Stp} {W W' : World} (M : Mac W nb m g1 c1 tv pv s o) (C : Chg (Own3 m g1 pv) W W') (h : Tell1 Bl n0 l W) : Tell1 Bl n0 l W' := by
  obtain ⟨hn, v, hb, hr, hd⟩ := h
  refine ⟨hn, v, (C.block Bl (lt_of_block hb) (not_own3 M hb (by decide) (by decide))).trans hb, own7_later hr (fun b e => ?_), hd⟩
  obtain ⟨_, cur, hg⟩ := own7_at hr e
  exact C.block b (lt_of_block hg) (not_own3 M hg (by decide) (by decide))
theorem sc_one (x : Stp) : ∀ u ∈ sc x, u.oneCell' = true := by
  intro u hu
  simp [sc] at hu
  rcases hu with h | h | h | h | h | h | h <;> (rw [h]; rfl)
theorem scs_snoc (l : List Stp) (x : Stp) : scs (l ++ [x]) = scs l ++ sc x := by simp [scs]
set_option maxHeartbeats 2000000 in
theorem trace1_any (Bl : Nat) (x : Stp) (l : List Stp) (W : World) (hl : l.length ≤ 5000) (hn : n0 ≤ W.heap.size) (h : Tell1 Bl n0 l W) :
    Calls Tryz.prog 64 #[stv x, .pointer (some ⟨Bl, 0, none⟩)] W fun e w' => e = .returned (.tuple #[]) ∧ Tell1 Bl n0 (l ++ [x]) w' ∧ KeepT W w' ∧ Below n0 W w' := by
  obtain ⟨i0, hi, hz0, hz1, hz2⟩ := info_parts Tryz.infoS
  obtain ⟨hB, v, hb, hr, hd⟩ := h
  have q := cell_of_cells hb 0 (v := v) rfl
  have hlt := lt_of_block hb
  have hsl : (scs l).length = l.length * 7 := hr.1
  have Hb := Lib.hid hb
  have Hd := Lib.hid hd
  have Hs := Lib.hid hsl
  clear hb hd hsl
  go_enter Tryz.func64, Tryz.ntmps64
  go_wp2_with (at_builtin; refine wpList_append_lies _ rfl _ _ _ rfl n0 87 i0 _ 7 56 Tryz.underlying78 hi hz0 hz1 hz2 rfl (by omega) v l.length (scs l) rfl ?o1 ⟨W.heap.size + 1, 0, none⟩ 1 1 (sc x) rfl rfl ?o2 (sc_one x) (by omega) ?o3 ?o4 ?o5 (W.heap.size + 2) ?o6 ?_)
  case o1 => exact own7_later hr (fun b e => (((Ext.refl W).alloc _).alloc _).block b (by obtain ⟨_, cur, hg⟩ := own7_at hr e; exact lt_of_block hg))
  case o2 =>
    refine World.news_of_block (cs := #[.int .i64 x.at_, .int .i64 x.ord.op, .int .i64 x.ord.frm, .int .i64 x.ord.to, .int .i64 x.ord.nxt, .int .i64 x.time, .int .i64 x.until_]) (t := 87) (fr := (0, 0)) ?_
    have e := heap_alloc_new (W.alloc (.cells (sc x).toArray 87)) (.cells (sc x).toArray 87)
    rw [World.size_alloc] at e
    exact e
  case o3 => unfold maxLen; omega
  case o4 => omega
  case o5 => simp; omega
  case o6 => simp
  intro g cap w2 hown hgrow hat hlt2
  have E2 : Ext W ((W.alloc (.cells (sc x).toArray 87)).alloc (.cells (sc x).toArray 87)) := ((Ext.refl W).alloc _).alloc _
  have old : ∀ k, k < W.heap.size → v.ownBlock ≠ some k → w2.heap[k]? = W.heap[k]? := fun k hk hr' =>
    (hgrow.block k (by simp; omega) (fun e => hr' e.symm)).trans (E2.block k hk)
  have b2 := (old Bl hlt Hd.out).trans Hb.out
  have q2 := cell_of_cells b2 0 (v := v) rfl
  have f2 := free_of_cells b2 0
  have HO := Lib.hid hown
  have Hold := Lib.hid old
  have Hb2 := Lib.hid b2
  have hz2' : W.heap.size ≤ w2.heap.size := by have := hgrow.size; simp at this; omega
  have hB2 : Below n0 W w2 := (Below.mono E2 (by omega)).grown hgrow (by simp; omega) (fun k e => (own7_at hr e).1)
  have hrow : ∀ k, v.ownBlock = some k → ∃ cur, W.heap[k]? = some (.cells cur 87 (0, 0)) := fun k e => (own7_at hr e).2
  have HR := Lib.hid hrow
  have Hat := Lib.hid hat
  clear hown old b2 hgrow hrow hat E2 hr q
  go_wp2_with fail
  go_end0
  have hg : g ≠ Bl := by
    rcases Hat.out with e | e
    · exact fun e' => Hd.out (e' ▸ e)
    · omega
  refine ⟨rfl, ⟨hB, .slice (some ⟨g, 0, none⟩) (l.length + 1) cap, cells_set Hb2.out 0 _, ?_, fun e => hg (by simpa [Value.ownBlock] using e)⟩, ⟨by simpa [World.setCell] using hz2', fun k c T fr hk hT => ?_⟩, hB2.setCell (p := ⟨Bl, 0, none⟩) hB _⟩
  · have e : (l ++ [x]).length = l.length + 1 := by simp
    rw [e, scs_snoc]
    exact own7_later HO.out (fun b hb => Below.heap_setCell _ _ _ _ (by
      have : g = b := by simpa [Value.ownBlock] using hb
      show b ≠ Bl
      omega))
  · have h1 : k ≠ Bl := by
      rintro rfl
      have := Hb.out.symm.trans hk
      simp only [Option.some.injEq, Obj.cells.injEq] at this
      rw [← this.2.1] at hT
      exact absurd hT (by decide)
    have h2 : v.ownBlock ≠ some k := by
      intro e
      obtain ⟨cur, hg⟩ := HR.out k e
      have := hg.symm.trans hk
      simp only [Option.some.injEq, Obj.cells.injEq] at this
      rw [← this.2.1] at hT
      exact absurd hT (by decide)
    exact (Below.heap_setCell _ _ _ _ h1).trans (Hold.out k (lt_of_block hk) h2)
theorem tell1 (Bl : Nat) : Tell Tryz.prog 64 #[.pointer (some ⟨Bl, 0, none⟩)] nb m g1 c1 n0 (Tell1 Bl n0) where
  keep := fun _ _ _ _ _ _ _ M C h => tell1_keep M C h
  tell := fun x l W hl hn h => trace1_any Bl x l W hl hn h
/-- a slice of steps reads as a list -/
def StepsAt (w : World) (a : Option Addr) (l : List Stp) : Prop :=
  l = [] ∨ ∃ b off, a = some ⟨b, off, none⟩ ∧ b < w.heap.size ∧ ∀ k u, (scs l)[k]? = some u → w.cell? ⟨b, off + k, none⟩ = some u
theorem StepsAt.ext {w w' : World} {a : Option Addr} {l : List Stp} (h : StepsAt w a l) (e : Ext w w') : StepsAt w' a l := by
  rcases h with h | ⟨b, off, ha, hb, hc⟩
  · exact .inl h
  · exact .inr ⟨b, off, ha, Nat.lt_of_lt_of_le hb e.size, fun k u hu => (e.cell (p := ⟨b, off + k, none⟩) hb).trans (hc k u hu)⟩
/-- the call returned steps and an error's code -/
def StpRes (p : List Stp × Int) (w : World) (e : Ending) (w' : World) : Prop := ∃ a c, e = .returned (.tuple #[.slice a p.1.length c, .int .i64 p.2]) ∧ StepsAt w' a p.1 ∧ Ext w w'
theorem own7_steps {w : World} {nb t n c : Nat} {a : Option Addr} {l : List Stp} (h : w.ownsRow nb t 7 (.slice a n c) n (scs l)) (hn : n = l.length) : StepsAt w a l := by
  rcases h.2 with ⟨_, h2⟩ | ⟨g, cap, cur, hv, hg, hh, hnc, hcm, hcs, ht⟩
  · exact .inl (List.eq_nil_of_length_eq_zero (by omega))
  · refine .inr ⟨g, 0, (Value.slice.inj hv).1, lt_of_block hh, fun k u hu => ?_⟩
    rw [Nat.zero_add]
    refine cell_of_cells hh k ?_
    rw [← ht, List.getElem?_take] at hu
    split at hu
    · simpa using hu
    · cases hu
set_option maxHeartbeats 4000000 in
set_option maxRecDepth 100000 in
theorem trace_bad (v : Value) (s : St) (most : Int) (w : World) (h : StAt w v s) (hb : StBd s) (he : askedQ s most ≠ 0) :
    Calls Tryz.prog 34 #[v, .int .i64 most] w (StpRes (traceE s most) w) := by
  have e1 : traceE s most = ([], askedQ s most) := by simp [traceE, he]
  rw [e1]
  have ho := fun W (E : Ext w W) => open_bad v s most W (h.ext E) hb he
  have hne : (askedQ s most != 0) = true := by simpa using he
  obtain ⟨a1, a2, a3, k1, k2, k3, rfl, _, _, _⟩ := h
  clear he e1 hb
  generalize askedQ s most = er at *
  go_enter Tryz.func34, Tryz.ntmps34
  go_wp2_with fail
  refine (ho _ (by exact ((Ext.refl w).alloc _).alloc _)).mono ?_
  rintro e w3 ⟨rfl, hb3⟩
  have q0 := box_at2 (v := .slice none 0 0) hb3 0 rfl
  have f0 := box_free2 hb3 0
  go_wp2_with fail
  refine bodyPost_ret (v := .tuple #[.slice none 0 0, .int .i64 er]) (by simp [results, Tryz.results34, go_sem, q0]) rfl ?_
  exact ⟨none, 0, rfl, .inl rfl, (Ext.old (Ext.old hb3)).setCell (p := ⟨w.heap.size + 1, 0, none⟩) (by simp) _⟩
set_option maxHeartbeats 4000000 in
set_option maxRecDepth 100000 in
theorem trace_good (v : Value) (s : St) (most : Int) (w : World) (h : StAt w v s) (hb : StBd s) (he : askedQ s most = 0) :
    Calls Tryz.prog 34 #[v, .int .i64 most] w (StpRes (traceE s most) w) := by
  have e1 : traceE s most = (traceQ most.toNat s, 0) := by simp [traceE, he]
  rw [e1]
  obtain ⟨z1, z2⟩ := asked_ok he
  have hv := valid_of_check z1
  have z3 := check_zero z1
  obtain ⟨p0, p1⟩ := inB_bd z2
  obtain ⟨a1, a2, a3, k1, k2, k3, rfl, i1, i2, i3⟩ := h
  rw [hv.len]
  have ho := fun W (E : Ext w W) => open_ok a1 a2 a3 _ _ k1 k2 k3 s most W hv.len rfl rfl hv.tlen hv.plen (i1.ext E) (i2.ext E) (i3.ext E) z3 z2
  clear i1 i2 i3 z1 z2 z3 he e1 hb
  obtain ⟨n, rfl⟩ := Int.eq_ofNat_of_zero_le p0
  have hn : n ≤ 5000 := by omega
  have HV := Lib.hid hv
  clear hv p0 p1
  have en : ((n : Int)).toNat = n := rfl
  rw [en]
  clear en
  go_enter Tryz.func34, Tryz.ntmps34
  go_wp2_with fail
  refine (ho _ (by exact ((Ext.refl w).alloc _).alloc _)).mono ?_
  rintro e w3 ⟨m, g1, c1, tv, pv, rfl, M, hb3⟩
  clear ho
  have hT : Tell1 (w.heap.size + 1) (w.heap.size + 1) [] w3 := ⟨Nat.le_refl _, .slice none 0 0, blk2 hb3, World.ownsRow_nil _ _ _ _, by simp [Value.ownBlock]⟩
  go_wp2_with fail
  refine (run_any w3 (w.heap.size + 1) n 64 #[.pointer (some ⟨w.heap.size + 1, 0, none⟩)] (Tell1 (w.heap.size + 1) (w.heap.size + 1)) M HV.out hn (by simp) (enters_of Tryz.func64 (by kernel_rfl) rfl) (tell1 _) hT).mono ?_
  rintro e w4 ⟨rfl, _, hT4, hB4⟩
  have E4 : Ext w w4 := (Ext.old (Ext.old hb3)).trans (hB4.mono (by omega))
  obtain ⟨_, v4, hB, hr, hd⟩ := hT4
  obtain ⟨a, c, rfl⟩ : ∃ a c, v4 = .slice a (traceQ n s).length c := by
    rcases hr.2 with ⟨h1, h2⟩ | ⟨g, cap, cur, h1, _⟩
    · exact ⟨none, 0, by rw [h2]; exact h1⟩
    · exact ⟨_, _, h1⟩
  have q0 := cell_of_cells hB 0 (v := .slice a (traceQ n s).length c) rfl
  have f0 := free_of_cells hB 0
  have hS : StepsAt (w4.setCell ⟨w.heap.size + 1, 0, none⟩ (.slice a (traceQ n s).length c)) a (traceQ n s) :=
    own7_steps (own7_later hr (fun b e => Below.heap_setCell _ _ _ _ (fun e' => hd (by rw [e]; exact congrArg some e')))) rfl
  clear M hB hr hd hb3 hT hB4
  go_wp2_with fail
  refine bodyPost_ret (v := .tuple #[.slice a (traceQ n s).length c, .int .i64 0]) (by simp [results, Tryz.results34, go_sem, q0]) rfl ?_
  exact ⟨a, c, rfl, hS, E4.setCell (p := ⟨w.heap.size + 1, 0, none⟩) (by simp) _⟩
theorem traceE_any (v : Value) (s : St) (most : Int) (w : World) (h : StAt w v s) (hb : StBd s) : Calls Tryz.prog 34 #[v, .int .i64 most] w (StpRes (traceE s most) w) := by
  by_cases he : askedQ s most = 0
  · exact trace_good v s most w h hb he
  · exact trace_bad v s most w h hb he
end Go.Proofs.YtbcciokmlkofkaaGreat

import Derived.Test.YtnhpcoagkmgdoaaGreatX17
import Derived.Test.YtnhpcoagkmgdoaaGreatX5
import Derived.Test.YtnhpcoagkmgdoaaGreatX1
import Derived.Test.YtnhpcoagkmgdoaaGreatX9
import Derived.Test.YtnhpcoagkmgdoaaGreatX24
import Derived.Test.YtnhpcoagkmgdoaaGreatX13
set_option linter.unusedVariables false
set_option linter.unusedSimpArgs false
/- Layer 10's reference: losses, asked. -/
namespace Go.Q
theorem lossX_bad {L : List Loss} (h : ¬ 40 < L.length) {i : Nat} (hi : i < L.length) (hb : lossOk (L[i]?.getD ⟨0, 0, 0⟩) = false) : lossX L = 7 := by
 unfold lossX
 rw [if_neg h, if_pos]
 rw [List.any_eq_true]
 refine ⟨L[i], List.getElem_mem hi, ?_⟩
 rw [List.getElem?_eq_getElem hi, Option.getD_some] at hb
 rw [hb]
 rfl
theorem lossX_ok {L : List Loss} (h : ¬ 40 < L.length) (ho : ∀ i, i < L.length → lossOk (L[i]?.getD ⟨0, 0, 0⟩) = true) : lossX L = 0 := by
 unfold lossX
 rw [if_neg h, if_neg]
 rw [List.any_eq_true]
 rintro ⟨y, hy, hb⟩
 obtain ⟨i, hi, rfl⟩ := List.getElem_of_mem hy
 have := ho i hi
 rw [List.getElem?_eq_getElem hi, Option.getD_some] at this
 rw [this] at hb
 cases hb
end Go.Q
namespace Go.Proofs.YtnhpcoagkmgdoaaGreat
open Go.RowKit Go.Q Go.Shelf Go.Maps Go.Joins
set_option maxHeartbeats 4000000
set_option maxRecDepth 100000
theorem addr_in (n : Int) : addrB n = inB n 0 127 := rfl
theorem rlosses_any (a : Option Addr) (n c : Nat) (L : List Loss) (w : World) (hn : L.length = n) (hnb : n ≤ 9223372036854775807) (hI : LossAt w a L) :
  Calls Tryz.prog 49 #[.slice a n c] w fun e w' => e = .returned (.int .i64 (lossX L)) ∧ Ext w w' := by
 by_cases h40 : 40 < n
 ·have hz : (40 : Int) < (n : Int) := by omega
  have HX : Hid (lossX L = 3) := Lib.hid (by unfold lossX; rw [if_pos (by omega)])
  clear hn hI
  go_enter Tryz.func49, Tryz.ntmps49
  go_wp2
  go_ret
  exact ⟨by rw [HX.out]; rfl, Ext.refl _⟩
 ·have hz : ¬ (40 : Int) < (n : Int) := by omega
  have HI := Lib.hid hI
  have HN := Lib.hid hn
  have H40 := Lib.hid h40
  clear hI hn h40
  go_enter Tryz.func49, Tryz.ntmps49
  go_wp2
  go_loopw [3] (fun s3 wr => ∃ i : Nat, i ≤ n ∧ s3 = .int .i64 (i : Int) ∧ Hid (∀ j, j < i → lossOk (L[j]?.getD ⟨0, 0, 0⟩) = true) ∧ wr = w) (fun s3 _ => n - (Go.RowKit.intOf s3).toNat)
  case atStart => exact ⟨0, Nat.zero_le _, rfl, Lib.hid (fun q hq => absurd hq (Nat.not_lt_zero _)), rfl⟩
  case round =>
   obtain ⟨i, hi, rfl, HA, rfl⟩ := hrel
   by_cases hlt : i < n
   ·have hltz : (i : Int) < (n : Int) := by omega
    obtain ⟨b, off, rfl, hb, hc⟩ : ∃ b off, a = some ⟨b, off, none⟩ ∧ b < wr.heap.size ∧ ∀ i, i < n → wr.cell? ⟨b, off + i * 3, none⟩ = some (.int .i64 (L[i]?.getD ⟨0, 0, 0⟩).after) ∧ wr.cell? ⟨b, off + i * 3 + 1, none⟩ = some (.int .i64 (L[i]?.getD ⟨0, 0, 0⟩).addr) ∧ wr.cell? ⟨b, off + i * 3 + 2, none⟩ = some (.int .i64 (L[i]?.getD ⟨0, 0, 0⟩).bit) := by
     rcases HI.out with h | ⟨b, off, ha, hb, hc⟩
     ·rw [h] at HN; have := HN.out; simp at this; omega
     ·exact ⟨b, off, ha, hb, fun i hi => hc i (by rw [HN.out]; exact hi)⟩
    obtain ⟨c1, c2, c3⟩ := hc i hlt
    clear hc
    have hbad : lossOk (L[i]?.getD ⟨0, 0, 0⟩) = false → Hid (lossX L = 7) := fun h => Lib.hid (lossX_bad (by rw [HN.out]; exact H40.out) (by rw [HN.out]; exact hlt) h)
    have hgood : lossOk (L[i]?.getD ⟨0, 0, 0⟩) = true → Hid (∀ j, j < i + 1 → lossOk (L[j]?.getD ⟨0, 0, 0⟩) = true) := fun h => Lib.hid (fun j hj => by
     by_cases e : j = i
     ·rw [e]; exact h
     ·exact HA.out j (by omega))
    obtain ⟨y, hy⟩ : ∃ y, L[i]?.getD ⟨0, 0, 0⟩ = y := ⟨_, rfl⟩
    rw [hy] at c1 c2 c3 hbad hgood
    obtain ⟨af, ad, bi⟩ := y
    dsimp only at c1 c2 c3
    unfold lossOk at hbad hgood
    dsimp only at hbad hgood
    have k1 := fun W => rin10_any af 0 1000000000 W
    have k2 := fun W => address_any ad W
    have k3 := fun W => rin10_any bi 0 24 W
    rw [addr_in] at k2
    clear hy hb
    have wi : IntKind.i64.wrap ((i : Int) + 1) = (i : Int) + 1 := IntWalk.i64_in _ (by omega)
    have HLT := Lib.hid hlt
    clear hlt
    cases h1 : inB af 0 1000000000 with
    | false =>
     rw [h1] at k1 hbad
     have HX := hbad rfl
     clear hbad hgood h1 k2 k3
     go_wp2_with (go_at_call 40; refine (k1 _).mono ?_; rintro e w' ⟨rfl, rfl⟩)
     go_ret
     exact ⟨by rw [HX.out]; rfl, Ext.refl _⟩
    | true =>
     rw [h1] at k1 hbad hgood
     cases h2 : inB ad 0 127 with
     | false =>
      rw [h2] at k2 hbad
      have HX := hbad rfl
      clear hbad hgood h1 h2 k3
      go_wp2_with (first | (go_at_call 40; refine (k1 _).mono ?_; rintro e w' ⟨rfl, rfl⟩) | (go_at_call 46; refine (k2 _).mono ?_; rintro e w' ⟨rfl, rfl⟩))
      go_ret
      exact ⟨by rw [HX.out]; rfl, Ext.refl _⟩
     | true =>
      rw [h2] at k2 hbad hgood
      cases h3 : inB bi 0 24 with
      | false =>
       rw [h3] at k3 hbad
       have HX := hbad rfl
       clear hbad hgood h1 h2 h3
       go_wp2_with (first | (go_at_call 40; first | (with_reducible refine (k1 _).mono ?_; rintro e w' ⟨rfl, rfl⟩) | (refine (k3 _).mono ?_; rintro e w' ⟨rfl, rfl⟩)) | (go_at_call 46; refine (k2 _).mono ?_; rintro e w' ⟨rfl, rfl⟩))
       go_ret
       exact ⟨by rw [HX.out]; rfl, Ext.refl _⟩
      | true =>
       rw [h3] at k3 hgood
       have HA2 := hgood rfl
       clear hbad hgood h1 h2 h3
       go_wp2_with (first | (go_at_call 40; first | (with_reducible refine (k1 _).mono ?_; rintro e w' ⟨rfl, rfl⟩) | (refine (k3 _).mono ?_; rintro e w' ⟨rfl, rfl⟩)) | (go_at_call 46; refine (k2 _).mono ?_; rintro e w' ⟨rfl, rfl⟩))
       go_roundw
       case rel => exact ⟨i + 1, by have := HLT.out; omega, by go_num, HA2, trivial⟩
       case measure => have := HLT.out; simp [Go.RowKit.intOf]; omega
   ·have hltz : ¬ (i : Int) < (n : Int) := by omega
    obtain rfl : i = n := by omega
    have HX : Hid (lossX L = 0) := Lib.hid (lossX_ok (by rw [HN.out]; exact H40.out) (by rw [HN.out]; exact HA.out))
    go_wp2
    go_ret
    exact ⟨by rw [HX.out]; rfl, Ext.refl _⟩
theorem rasked_any (v : Value) (s : St) (a : Option Addr) (n c : Nat) (L : List Loss) (most : Int) (w : World) (hS : StAt w v s) (hb : StBd s) (hn : L.length = n) (hnb : n ≤ 9223372036854775807) (hI : LossAt w a L) :
  Calls Tryz.prog 23 #[v, .slice a n c, .int .i64 most] w fun e w' => e = .returned (.int .i64 (guardX s L most)) ∧ Ext w w' := by
 have hck := fun W (E : Ext w W) => rcheck_any v s W (hS.ext E) hb
 have hls := fun W (E : Ext w W) => rlosses_any a n c L W hn hnb (hI.ext E)
 have hin := fun W => rin10_any most 0 5000 W
 obtain ⟨a1, a2, a3, k1, k2, k3, rfl, -⟩ := hS
 have HG := Lib.hid (show guardX s L most = if (checkQ s).2.2 ≠ 0 then (checkQ s).2.2 else if lossX L ≠ 0 then lossX L else if inB most 0 5000 = true then 0 else 7 from rfl)
 obtain ⟨⟨x1, x2, x3⟩, hx⟩ : ∃ p, checkQ s = p := ⟨_, rfl⟩
 obtain ⟨lx, hlx⟩ : ∃ lx, lossX L = lx := ⟨_, rfl⟩
 rw [hx] at hck HG
 rw [hlx] at hls HG
 unfold v3 at hck
 have HG : Hid (guardX s L most = if x3 ≠ 0 then x3 else if lx ≠ 0 then lx else if inB most 0 5000 = true then 0 else 7) := HG
 clear hx hlx hn hI hb
 have E0 : Ext w (w.alloc (.cells #[.slice a1 s.store.length k1, .slice a2 s.tape.length k2, .int .i64 s.taken, .slice a3 s.printed.length k3, .int .i64 s.time, .int .i64 s.at_, .int .i64 s.done, .int .i64 s.why] 24)) := (Ext.refl w).alloc _
 have g0 := heap_alloc_new w (.cells #[.slice a1 s.store.length k1, .slice a2 s.tape.length k2, .int .i64 s.taken, .slice a3 s.printed.length k3, .int .i64 s.time, .int .i64 s.at_, .int .i64 s.done, .int .i64 s.why] 24)
 have q0 := blk_cell g0 0 (v := .slice a1 s.store.length k1) rfl
 have q1 := blk_cell g0 1 (v := .slice a2 s.tape.length k2) rfl
 have q2 := blk_cell g0 2 (v := .int .i64 s.taken) rfl
 have q3 := blk_cell g0 3 (v := .slice a3 s.printed.length k3) rfl
 have q4 := blk_cell g0 4 (v := .int .i64 s.time) rfl
 have q5 := blk_cell g0 5 (v := .int .i64 s.at_) rfl
 have q6 := blk_cell g0 6 (v := .int .i64 s.done) rfl
 have q7 := blk_cell g0 7 (v := .int .i64 s.why) rfl
 go_enter Tryz.func23, Tryz.ntmps23
 go_wp2_with fail
 refine (hck _ E0).mono ?_
 rintro e w1 ⟨rfl, E1⟩
 clear q0 q1 q2 q3 q4 q5 q6 q7
 by_cases h3 : x3 = 0
 ·subst h3
  go_wp2_with fail
  refine (hls _ (E0.comp E1)).mono ?_
  rintro e w2 ⟨rfl, E2⟩
  by_cases hl : lx = 0
  ·subst hl
   cases hi : inB most 0 5000 with
   | true =>
    rw [hi] at hin
    have HX : Hid (guardX s L most = 0) := Lib.hid (by rw [HG.out, hi]; simp)
    clear HG hi
    go_wp2_with (go_at_call 40; refine (hin _).mono ?_; rintro e w' ⟨rfl, rfl⟩)
    go_ret
    exact ⟨by rw [HX.out]; rfl, (E0.comp E1).comp E2⟩
   | false =>
    rw [hi] at hin
    have HX : Hid (guardX s L most = 7) := Lib.hid (by rw [HG.out, hi]; simp)
    clear HG hi
    go_wp2_with (go_at_call 40; refine (hin _).mono ?_; rintro e w' ⟨rfl, rfl⟩)
    go_ret
    exact ⟨by rw [HX.out]; rfl, (E0.comp E1).comp E2⟩
  ·have hlb : (lx == 0) = false := by simpa using hl
   have HX : Hid (guardX s L most = lx) := Lib.hid (by rw [HG.out, if_neg (by simp), if_pos hl])
   clear HG hl
   go_wp2_with fail
   go_ret
   exact ⟨by rw [HX.out]; rfl, (E0.comp E1).comp E2⟩
 ·have h3b : (x3 == 0) = false := by simpa using h3
  have HX : Hid (guardX s L most = x3) := Lib.hid (by rw [HG.out, if_pos h3])
  clear HG h3 hls hin
  go_wp2_with fail
  go_ret
  exact ⟨by rw [HX.out]; rfl, E0.comp E1⟩
end Go.Proofs.YtnhpcoagkmgdoaaGreat
/- Layer 10's program: slices.All, maps.Insert of ints. -/
namespace Go.Q
open Go.RowKit Go.ChangeMaps Go.MapKept
open Go.Maps (Keyed)
theorem wpListIn_putF {F : Fence} {nF : Nat} {P : Program} {k : TypeId} {α : Type} [DecidableEq α] {enc : α → Value} (w : World) {f : α → Option Value} {ops : Array Oper} {rest : List Oper} {o : Oper} {a : Act} {Q : Exit → Act → World → Prop} (hg : o.guard = none) (m x v : Operand) (t : TypeId) (hop : o.op = Op.mapUpdate t m x v) (e : TypeId) (K : KeyEnc P k enc) (ht : P.underlying t = some (.map k e)) (b : Nat)
  (hm : a.eval m = .map (some b)) (hown : MapF enc w b f) (key : α) (val : Value) (hx : a.eval x = enc key) (hv : a.eval v = val)
  (hK : ∀ w', MapF enc w' b (putF f key val) → w.grownBy w' (some b) → w'.heap.size = w.heap.size → wpListIn F nF P ops Q rest (a.put o.dst undef) w') :
  wpListIn F nF P ops Q (o :: rest) a w := by
 refine wpListIn_plain hg fun K' hK' => ?_
 obtain ⟨w', hrun, r1, r2, r3⟩ := hown.update K ht key val
 unfold Oper.wpIn
 refine ⟨by simp [Oper.about, hop], ?_⟩
 rw [Oper.semAt_plain F _ _ (by rw [hop]; intro c hc'; cases hc')]
 simp [execOp, hop, hm, hx, hv, hrun, Result.andThen]
 exact hK' _ _ (hK w' r1 r2 r3)
theorem KpM.grown {M : Nat → Prop} {A B : World} {b : Nat} (h : A.grownBy B (some b)) (hm : M b) (hs : B.heap.size = A.heap.size) : KpM M A B := by
 refine ⟨Nat.le_of_eq hs.symm, fun x hx hn => h.block x hx (fun e => hn ?_), h.os, h.tape, h.output⟩
 cases e
 exact hm
theorem KpM.low {M M' : Nat → Prop} {A B : World} (h : KpM M A B) (hm : ∀ b, b < A.heap.size → M b → M' b) : KpM M' A B := ⟨h.1, fun b hb hn => h.2 b hb (fun hx => hn (hm b hb hx)), h.os, h.tape, h.output⟩
end Go.Q
namespace Go.Proofs.YtnhpcoagkmgdoaaGreat
open Go.RowKit Go.Q Go.Shelf Go.Joins
attribute [local go_sem] Oper.semAt_some
/-- the first k numbers, by their places -/
def mapN (xs : List Int) (k : Nat) : I64 → Option Value := fun x => if 0 ≤ x.1 ∧ x.1 < (k : Int) then some (.int .i64 (xs[x.1.toNat]?.getD 0)) else none
theorem mapN_zero (xs : List Int) : mapN xs 0 = fun _ => none := by
 funext x
 unfold mapN
 rw [if_neg (by omega)]
theorem mapN_succ (xs : List Int) (k : Nat) (hk : -9223372036854775808 ≤ (k : Int) ∧ (k : Int) ≤ 9223372036854775807) : putF (mapN xs k) (⟨(k : Int), hk⟩ : I64) (.int .i64 (xs[k]?.getD 0)) = mapN xs (k + 1) := by
 funext x
 unfold putF mapN
 by_cases e : x = ⟨(k : Int), hk⟩
 ·rw [if_pos e, e, if_pos (show 0 ≤ (k : Int) ∧ (k : Int) < ((k + 1 : Nat) : Int) by omega)]
  rfl
 ·rw [if_neg e]
  have hne : x.1 ≠ (k : Int) := fun h => e (I64.same h)
  by_cases h : 0 ≤ x.1 ∧ x.1 < (k : Int)
  ·rw [if_pos h, if_pos (by omega)]
  ·rw [if_neg h, if_neg (by omega)]
theorem all_any (a : Option Addr) (k c : Nat) (w : World) :
  Calls Tryz.prog 44 #[.slice a k c] w fun e w' => e = .returned (.func (.func 77) #[] #[.pointer (some ⟨w.heap.size, 0, none⟩)]) ∧ w.alloc (.cells #[.slice a k c] 22) = w' := by
 go_enter Tryz.func44, Tryz.ntmps44
 go_wp2
 go_ret
 exact ⟨rfl, rfl⟩
set_option maxRecDepth 100000 in
set_option maxHeartbeats 4000000 in
theorem all_in (n : Nat) (hn : 1 ≤ n) (l Bs : Nat) (a : Option Addr) (N c : Nat) (xs : List Int) (hx : xs.length = N) (hN : N ≤ 1024) (M : Nat → Prop) (hMs : ¬ M Bs) (JJ : Nat → World → Prop) (W : World)
  (hY : ∀ k W, JJ k W → k < N → YieldAt Fence.wide (n - 1) Tryz.prog l #[.int .i64 (k : Int), .int .i64 (xs[k]?.getD 0)] W fun e W' => e = .returned (.bool true) ∧ JJ (k + 1) W' ∧ KpM M W W')
  (hB : W.cell? ⟨Bs, 0, none⟩ = some (.slice a N c)) (hBs : Bs < W.heap.size) (hI : IntsF M W a xs) (h0 : JJ 0 W) :
  CallsIn Fence.wide n Tryz.prog 77 #[.func (.yield l) #[] #[], .pointer (some ⟨Bs, 0, none⟩)] W fun e W' => (∃ v, e = .returned v) ∧ JJ N W' := by
 refine callsIn_of_wp Tryz.func77 rfl trivial ?_ rfl
 simp only [Tryz.ntmps77, List.size_toArray, List.length_cons, List.length_nil, Nat.reduceAdd, Nat.reduceSub, Array.replicate_succ, Array.replicate_zero, List.push_toArray, List.append_toArray, List.nil_append, List.cons_append]
 rcases hI with rfl | ⟨b, off, rfl, hbm, hb, hc⟩
 ·obtain rfl : N = 0 := hx.symm
  gi_wp2
  gi_loopw [7] (fun i wr => i = .int .i64 0 ∧ JJ 0 wr) (fun i _ => 0)
  case atStart => exact ⟨rfl, h0⟩
  case round =>
   obtain ⟨rfl, hJs⟩ := hrel
   gi_wp2
   go_end0
   exact ⟨⟨_, rfl⟩, hJs⟩
 ·gi_wp2
  gi_loopw [7] (fun i wr => ∃ k : Nat, k ≤ N ∧ i = .int .i64 (k : Int) ∧ JJ k wr ∧ KpM M W wr) (fun i _ => N - (intOf i).toNat)
  case atStart => exact ⟨0, by omega, rfl, h0, KpM.refl _ _⟩
  case round =>
   obtain ⟨k, hk, rfl, hJs, hnx⟩ := hrel
   have hcs := (hnx.cell (o := 0) hBs hMs).trans hB
   by_cases hlt : k < N
   ·have hltz : (k : Int) < (N : Int) := by omega
    have hce := (hnx.cell (o := off + k) hb hbm).trans (hc k (by omega))
    have w1 : IntKind.i64.wrap ((k : Int) + 1) = (k : Int) + 1 := IntWalk.i64_in _ (by omega)
    have HYK := Lib.hid (hY k wr hJs hlt)
    obtain ⟨y, hy0⟩ : ∃ y, xs[k]?.getD 0 = y := ⟨_, rfl⟩
    rw [hy0] at hce HYK
    clear hy0
    obtain ⟨fn, tmps, assign, body, hy, hRd⟩ := HYK.out
    gi_wp2
    refine hRd.mono ?_
    rintro e W3 ⟨rfl, hJ3, hk3⟩
    gi_wp2
    go_roundw
    case rel => exact ⟨k + 1, by omega, by go_num, hJ3, hnx.trans hk3⟩
    case measure =>
     simp [intOf]
     omega
   ·have hltz : ¬ (k : Int) < (N : Int) := by omega
    obtain rfl : k = N := by omega
    gi_wp2
    go_end0
    exact ⟨⟨_, rfl⟩, hJs⟩
end Go.Proofs.YtnhpcoagkmgdoaaGreat
/- Layer 10's program: maps.Insert, maps.Collect of ints. -/
namespace Go.Proofs.YtnhpcoagkmgdoaaGreat
open Go.RowKit Go.Q Go.Shelf Go.Joins
attribute [local go_sem] Oper.semAt_some
set_option maxRecDepth 100000 in
set_option maxHeartbeats 4000000 in
theorem insert_any (mb Bs : Nat) (a : Option Addr) (N c : Nat) (xs : List Int) (w : World) (hx : xs.length = N) (hN : N ≤ 1024) (hm : MapF encI w mb (fun _ => none)) (hne : Bs ≠ mb)
  (hB : Boxed w Bs 22 (.slice a N c)) (hI : IntsF (fun q => q = mb) w a xs) :
  Calls Tryz.prog 76 #[.map (some mb), .func (.func 77) #[] #[.pointer (some ⟨Bs, 0, none⟩)]] w fun e w' => (∃ v, e = .returned v) ∧ MapF encI w' mb (mapN xs N) ∧ KpM (fun q => q = mb) w w' := by
 have hBl := hB.lt
 have hml := hm.lt
 refine (callsIn_wide (n := 9)).1 ?_
 refine callsIn_of_wp_marks Tryz.func76 rfl trivial ?_ rfl
 simp only [Tryz.ntmps76, List.size_toArray, List.length_cons, List.length_nil, Nat.reduceAdd, Nat.reduceSub, Array.replicate_succ, Array.replicate_zero, List.push_toArray, List.append_toArray, List.nil_append, List.cons_append]
 refine wpIn_wide.2 ?_
 go_wp2
 obtain ⟨w1, hw1⟩ : ∃ w1, w.alloc (.cells #[.map (some mb)] 83) = w1 := ⟨_, rfl⟩
 have E1 : Ext w w1 := by rw [← hw1]; exact (Ext.refl w).alloc _
 have hs1 : w1.heap.size = w.heap.size + 1 := by rw [← hw1]; simp
 have hb1 : Boxed w1 w.heap.size 83 (.map (some mb)) := by rw [← hw1]; exact heap_alloc_new w _
 rw [hw1]
 clear hw1
 obtain ⟨M, hM⟩ : ∃ M : Nat → Prop, M = fun q => q = mb ∨ w1.heap.size ≤ q := ⟨_, rfl⟩
 refine (wpIn_wide (n := 9)).1 ?_
 refine wpIn_rangeFunc_J (n := 9) (α := Nat) (gf := 77) (lb := #[.pointer (some ⟨Bs, 0, none⟩)]) rfl (enters_of Tryz.func77 (by kernel_rfl) rfl)
  (encs := fun k => #[.int .i64 (k : Int), .int .i64 (xs[k]?.getD 0)]) (fun _ => rfl)
  (fun k V => MapF encI V mb (mapN xs k) ∧ KpM M w1 V)
  (fun k x V => x = k)
  N (KpM M) (fun h k => h.trans k) ?kb ?tj ?tx ?h0 ?call
  (fun x => { tmps := #[.map (some mb), .func (.func 77) #[] #[.pointer (some ⟨Bs, 0, none⟩)], .pointer (some ⟨w.heap.size, 0, none⟩), undef, .int .i64 (x : Int), .int .i64 (xs[x]?.getD 0), .func (.func 77) #[] #[.pointer (some ⟨Bs, 0, none⟩)], .int .i64 (x : Int), .int .i64 (xs[x]?.getD 0), undef, undef, undef], defers := [] }) ?assign ?body ?done
 case kb => exact fun V o o' _ _ => KpM.put V _ o' (by rw [hM]; exact .inr (by omega))
 case tj =>
  rintro m V o o' ⟨h1, h2⟩ ho hn
  exact ⟨h1.same (World.putObj_heap_other (by omega)), h2.trans (KpM.put V _ o' (by rw [hM]; exact .inr (by omega)))⟩
 case tx => exact fun m x V o o' h _ _ => h
 case h0 => exact fun V E => ⟨by rw [mapN_zero]; exact (hm.ext E1).ext E, KpM.of_ext E⟩
 case call =>
  intro yl JJ V1 E1' hlt' hJJ hJk hY h0
  have hb' : Boxed V1 Bs 22 _ := (E1'.block _ (by omega)).trans ((E1.block _ hBl).trans hB)
  refine all_in 8 (by decide) yl Bs a N c xs hx hN M (by rw [hM]; omega) JJ V1 (fun m V hm hms => hY m _ V hm hms rfl) hb'.cell (by have := E1'.size; omega) ?_ h0
  have hI1 : IntsF M w a xs := hI.imp id fun ⟨b, off, ha, hn, hb, hc⟩ => ⟨b, off, ha, (by rw [hM]; rintro (e | e); exact hn e; omega), hb, hc⟩
  exact (hI1.ext E1).ext E1'
 case assign =>
  intro l' x V KK hKK
  gi_wp2
  exact hKK
 case body =>
  rintro l' m x V ⟨h1, h3⟩ hm rfl
  (try dsimp only)
  have hbV : Boxed V w.heap.size 83 (.map (some mb)) := boxed_kp hb1 h3 (by rw [hM]; omega)
  have cV := hbV.cell
  obtain ⟨y, hy⟩ : ∃ y, xs[x]?.getD 0 = y := ⟨_, rfl⟩
  rw [hy]
  have hi : -9223372036854775808 ≤ (x : Int) ∧ (x : Int) ≤ 9223372036854775807 := by omega
  have hsuc := mapN_succ xs x hi
  rw [hy] at hsuc
  have HS := Lib.hid hsuc
  have HMx := Lib.hid hM
  clear hsuc hM hy
  gi_wp2_with (gi_at_mapUpdate; refine wpListIn_putF _ rfl _ _ _ 83 rfl 3 keyI Tryz.underlying83 mb rfl h1 (⟨(x : Int), hi⟩ : I64) (.int .i64 y) rfl rfl ?_; intro w6 hm6 hg6 hs6)
  have kf : KpM M V w6 := KpM.grown hg6 (by rw [HMx.out]; exact .inl rfl) hs6
  exact ⟨rfl, KeepsFrom.of_grownBy hg6 (fun j hj => by cases hj; omega), kf, by rw [← HS.out]; exact hm6, h3.trans kf⟩
 case done =>
  rintro D V hD ⟨h1, h3⟩ hdef
  have hEf : KpM (fun q => q = mb) w (V.putObj D (.deferred none)) := ((KpM.of_ext E1).trans (h3.trans (KpM.put V D _ (by rw [hM]; exact .inr hD)))).low (fun b hb h => by rw [hM] at h; omega)
  have hfin : MapF encI (V.putObj D (.deferred none)) mb (mapN xs N) := h1.same (World.putObj_heap_other (by omega))
  clear h1
  go_wp2
  refine ⟨by simp, .inl ⟨_, _, rfl, run_takeDeferred hdef, ?_⟩⟩
  refine ⟨.tuple #[], by simp [results, Tryz.results76, go_sem], ?_⟩
  exact ⟨⟨_, rfl⟩, hfin, hEf⟩
set_option maxRecDepth 100000 in
set_option maxHeartbeats 4000000 in
theorem collect_any (Bs : Nat) (a : Option Addr) (N c : Nat) (xs : List Int) (w : World) (hx : xs.length = N) (hN : N ≤ 1024) (hB : Boxed w Bs 22 (.slice a N c)) (hI : IntsAt w a xs) :
  Calls Tryz.prog 43 #[.func (.func 77) #[] #[.pointer (some ⟨Bs, 0, none⟩)]] w fun e w' => e = .returned (.map (some w.heap.size)) ∧ MapF encI w' w.heap.size (mapN xs N) ∧ Ext w w' := by
 have hmm := @run_makeMap Tryz.prog
 have hBl := hB.lt
 have F0 : MapF encI (w.alloc (.map #[] 0)) w.heap.size (fun _ => none) := MapF.made w
 have E0 : Ext w (w.alloc (.map #[] 0)) := (Ext.refl w).alloc _
 have I0 : IntsF (fun q => q = w.heap.size) (w.alloc (.map #[] 0)) a xs := (IntsF.of_at hI (fun b hb e => by omega)).ext E0
 have hc := insert_any w.heap.size Bs a N c xs _ hx hN F0 (by omega) ((E0.block Bs hBl).trans hB) I0
 clear F0 I0 hI
 go_enter Tryz.func43, Tryz.ntmps43
 go_wp2_with fail
 refine ((hc)).mono ?_
 rintro e w1 ⟨⟨v, rfl⟩, hm1, hk1⟩
 go_wp2
 go_ret
 exact ⟨rfl, hm1, E0.below5 hk1 (fun b e => by omega)⟩
end Go.Proofs.YtnhpcoagkmgdoaaGreat
/- Layer 10's program: Changes. -/
namespace Go.Proofs.YtnhpcoagkmgdoaaGreat
open Go.RowKit Go.Q Go.Shelf Go.Maps Go.Joins
set_option maxHeartbeats 4000000
set_option maxRecDepth 100000
theorem Tryz.infoCh : (Tryz.prog.info? 41).map (fun i => (i.zero, i.size, i.bytes)) = some (some (.agg #[.int .i64 0, .int .i64 0, .int .i64 0]), 3, 24) := by kernel_rfl
theorem zeroInt (w : World) : (zeroValue 3).run Tryz.prog w = .ok (.int .i64 0) w := by
 simp [Tryz.zeroValue3]
/-- the cells of a change -/
def cc (x : Chd) : List Value := [.int .i64 x.addr, .int .i64 x.was, .int .i64 x.is_]
def ccs (l : List Chd) : List Value := l.flatMap cc
theorem cc_one (x : Chd) : ∀ u ∈ cc x, u.oneCell' = true := by
 intro u hu
 simp [cc] at hu
 rcases hu with h | h | h <;> (rw [h]; rfl)
theorem ccs_snoc (l : List Chd) (x : Chd) : ccs (l ++ [x]) = ccs l ++ cc x := by simp [ccs]
theorem changed_le (a b : List Int) : ∀ n, (changedN a b n).length ≤ n
 | 0 => by simp [changedN]
 | n + 1 => by
  rw [changed_succ, List.length_append]
  have := changed_le a b n
  split <;> simp <;> omega
def ChRes (s t : St) (w : World) (e : Ending) (w' : World) : Prop := ∃ v, e = .returned (.tuple #[v, .int .i64 (changesE s t).2]) ∧ w'.ownsRow w.heap.size 41 3 v (changesE s t).1.length (ccs (changesE s t).1) ∧ Ext w w'
theorem changes_any (v1 v2 : Value) (s t : St) (w : World) (hS : StAt w v1 s) (hT : StAt w v2 t) (hbs : StBd s) (hbt : StBd t) :
  Calls Tryz.prog 14 #[v1, v2] w (ChRes s t w) := by
 have hcS := fun W (E : Ext w W) => check_any _ s W (hS.ext E) hbs
 have hcT := fun W (E : Ext w W) => check_any _ t W (hT.ext E) hbt
 obtain ⟨a1, a2, a3, k1, k2, k3, rfl, i1, i2, i3⟩ := hS
 obtain ⟨b1, b2, b3, l1, l2, l3, rfl, j1, j2, j3⟩ := hT
 have hlS : (checkQ s).2.2 = 0 → s.store.length = 128 := fun h => (valid_of_check h).len
 have hlT : (checkQ t).2.2 = 0 → t.store.length = 128 := fun h => (valid_of_check h).len
 have HV := Lib.hid (show changesE s t = if (checkQ s).2.2 ≠ 0 then ([], (checkQ s).2.2) else if (checkQ t).2.2 ≠ 0 then ([], (checkQ t).2.2) else (changedN s.store t.store 128, 0) from rfl)
 obtain ⟨⟨x1, x2, x3⟩, hx⟩ : ∃ p, checkQ s = p := ⟨_, rfl⟩
 obtain ⟨⟨y1, y2, y3⟩, hy⟩ : ∃ p, checkQ t = p := ⟨_, rfl⟩
 rw [hx] at hcS HV hlS
 rw [hy] at hcT HV hlT
 dsimp only at hlS hlT
 have HLS := Lib.hid hlS
 have HLT := Lib.hid hlT
 clear hlS hlT
 unfold v3 at hcS hcT
 unfold sv at hcS hcT ⊢
 have HV : Hid (changesE s t = if x3 ≠ 0 then ([], x3) else if y3 ≠ 0 then ([], y3) else (changedN s.store t.store 128, 0)) := HV
 clear hx hy hbs hbt i2 i3 j2 j3
 obtain ⟨W2, hW2⟩ : ∃ W2, (w.alloc (.cells #[.slice a1 s.store.length k1, .slice a2 s.tape.length k2, .int .i64 s.taken, .slice a3 s.printed.length k3, .int .i64 s.time, .int .i64 s.at_, .int .i64 s.done, .int .i64 s.why] 24)).alloc (.cells #[.slice b1 t.store.length l1, .slice b2 t.tape.length l2, .int .i64 t.taken, .slice b3 t.printed.length l3, .int .i64 t.time, .int .i64 t.at_, .int .i64 t.done, .int .i64 t.why] 24) = W2 := ⟨_, rfl⟩
 have E2 : Ext w W2 := by rw [← hW2]; exact ((Ext.refl w).alloc _).alloc _
 have z2 : W2.heap.size = w.heap.size + 2 := by rw [← hW2]; simp
 have g0 : W2.heap[w.heap.size]? = some (.cells #[.slice a1 s.store.length k1, .slice a2 s.tape.length k2, .int .i64 s.taken, .slice a3 s.printed.length k3, .int .i64 s.time, .int .i64 s.at_, .int .i64 s.done, .int .i64 s.why] 24 (0, 0)) := by
  rw [← hW2]
  exact (Below.heap_alloc (w.alloc (.cells #[.slice a1 s.store.length k1, .slice a2 s.tape.length k2, .int .i64 s.taken, .slice a3 s.printed.length k3, .int .i64 s.time, .int .i64 s.at_, .int .i64 s.done, .int .i64 s.why] 24)) (.cells #[.slice b1 t.store.length l1, .slice b2 t.tape.length l2, .int .i64 t.taken, .slice b3 t.printed.length l3, .int .i64 t.time, .int .i64 t.at_, .int .i64 t.done, .int .i64 t.why] 24) _ (lt_of_block (heap_alloc_new w (.cells #[.slice a1 s.store.length k1, .slice a2 s.tape.length k2, .int .i64 s.taken, .slice a3 s.printed.length k3, .int .i64 s.time, .int .i64 s.at_, .int .i64 s.done, .int .i64 s.why] 24)))).trans (heap_alloc_new w (.cells #[.slice a1 s.store.length k1, .slice a2 s.tape.length k2, .int .i64 s.taken, .slice a3 s.printed.length k3, .int .i64 s.time, .int .i64 s.at_, .int .i64 s.done, .int .i64 s.why] 24))
 have g1 : W2.heap[w.heap.size + 1]? = some (.cells #[.slice b1 t.store.length l1, .slice b2 t.tape.length l2, .int .i64 t.taken, .slice b3 t.printed.length l3, .int .i64 t.time, .int .i64 t.at_, .int .i64 t.done, .int .i64 t.why] 24 (0, 0)) := by
  rw [← hW2]
  have e := heap_alloc_new (w.alloc (.cells #[.slice a1 s.store.length k1, .slice a2 s.tape.length k2, .int .i64 s.taken, .slice a3 s.printed.length k3, .int .i64 s.time, .int .i64 s.at_, .int .i64 s.done, .int .i64 s.why] 24)) (.cells #[.slice b1 t.store.length l1, .slice b2 t.tape.length l2, .int .i64 t.taken, .slice b3 t.printed.length l3, .int .i64 t.time, .int .i64 t.at_, .int .i64 t.done, .int .i64 t.why] 24)
  rw [World.size_alloc] at e
  exact e
 go_enter Tryz.func14, Tryz.ntmps14
 go_upto_region 1 with fail
 (try rw [hW2])
 clear hW2
 have q0 := blk_cell g0 0 (v := .slice a1 s.store.length k1) rfl
 have q1 := blk_cell g0 1 (v := .slice a2 s.tape.length k2) rfl
 have q2 := blk_cell g0 2 (v := .int .i64 s.taken) rfl
 have q3 := blk_cell g0 3 (v := .slice a3 s.printed.length k3) rfl
 have q4 := blk_cell g0 4 (v := .int .i64 s.time) rfl
 have q5 := blk_cell g0 5 (v := .int .i64 s.at_) rfl
 have q6 := blk_cell g0 6 (v := .int .i64 s.done) rfl
 have q7 := blk_cell g0 7 (v := .int .i64 s.why) rfl
 have r0 := blk_cell g1 0 (v := .slice b1 t.store.length l1) rfl
 have r1 := blk_cell g1 1 (v := .slice b2 t.tape.length l2) rfl
 have r2 := blk_cell g1 2 (v := .int .i64 t.taken) rfl
 have r3 := blk_cell g1 3 (v := .slice b3 t.printed.length l3) rfl
 have r4 := blk_cell g1 4 (v := .int .i64 t.time) rfl
 have r5 := blk_cell g1 5 (v := .int .i64 t.at_) rfl
 have r6 := blk_cell g1 6 (v := .int .i64 t.done) rfl
 have r7 := blk_cell g1 7 (v := .int .i64 t.why) rfl
 go_upto_region 2 with fail
 have g2 := heap_alloc_new W2 (.cells #[.slice a1 s.store.length k1, .slice a2 s.tape.length k2, .int .i64 s.taken, .slice a3 s.printed.length k3, .int .i64 s.time, .int .i64 s.at_, .int .i64 s.done, .int .i64 s.why, .slice b1 t.store.length l1, .slice b2 t.tape.length l2, .int .i64 t.taken, .slice b3 t.printed.length l3, .int .i64 t.time, .int .i64 t.at_, .int .i64 t.done, .int .i64 t.why] 24)
 have E3 : Ext W2 (W2.alloc (.cells #[.slice a1 s.store.length k1, .slice a2 s.tape.length k2, .int .i64 s.taken, .slice a3 s.printed.length k3, .int .i64 s.time, .int .i64 s.at_, .int .i64 s.done, .int .i64 s.why, .slice b1 t.store.length l1, .slice b2 t.tape.length l2, .int .i64 t.taken, .slice b3 t.printed.length l3, .int .i64 t.time, .int .i64 t.at_, .int .i64 t.done, .int .i64 t.why] 24)) := (Ext.refl W2).alloc _
 rw [z2] at g2
 obtain ⟨W3, hW3⟩ : ∃ W3, W2.alloc (.cells #[.slice a1 s.store.length k1, .slice a2 s.tape.length k2, .int .i64 s.taken, .slice a3 s.printed.length k3, .int .i64 s.time, .int .i64 s.at_, .int .i64 s.done, .int .i64 s.why, .slice b1 t.store.length l1, .slice b2 t.tape.length l2, .int .i64 t.taken, .slice b3 t.printed.length l3, .int .i64 t.time, .int .i64 t.at_, .int .i64 t.done, .int .i64 t.why] 24) = W3 := ⟨_, rfl⟩
 rw [hW3] at g2 E3 ⊢
 clear hW3 q0 q1 q2 q3 q4 q5 q6 q7 r0 r1 r2 r3 r4 r5 r6 r7
 have G0 := (E3.block _ (lt_of_block g0)).trans g0
 have G1 := (E3.block _ (lt_of_block g1)).trans g1
 have EW := E2.comp E3
 clear g0 g1 E2 E3 z2
 go_loopw [4, 15] (fun s4 i wr => ∃ k0 : Nat, k0 ≤ 2 ∧ s4 = .slice none 0 0 ∧ i = .int .i64 (k0 : Int) ∧ Ext W3 wr ∧ (1 ≤ k0 → x3 = 0) ∧ (2 ≤ k0 → y3 = 0)) (fun _ i _ => 2 - (intOf i).toNat)
 case atStart => exact ⟨0, by omega, rfl, rfl, Ext.refl _, fun h => by omega, fun h => by omega⟩
 case round =>
  obtain ⟨k0, hk0, rfl, rfl, EL, h1, h2⟩ := hrel
  have gw := (EL.block _ (lt_of_block g2)).trans g2
  have EX := EW.comp EL
  obtain rfl | rfl | rfl : k0 = 0 ∨ k0 = 1 ∨ k0 = 2 := by omega
  ·skip
   have q0 := blk_cell gw 0 (v := .slice a1 s.store.length k1) rfl
   have q1 := blk_cell gw 1 (v := .slice a2 s.tape.length k2) rfl
   have q2 := blk_cell gw 2 (v := .int .i64 s.taken) rfl
   have q3 := blk_cell gw 3 (v := .slice a3 s.printed.length k3) rfl
   have q4 := blk_cell gw 4 (v := .int .i64 s.time) rfl
   have q5 := blk_cell gw 5 (v := .int .i64 s.at_) rfl
   have q6 := blk_cell gw 6 (v := .int .i64 s.done) rfl
   have q7 := blk_cell gw 7 (v := .int .i64 s.why) rfl
   go_upto_region 4 with fail
   have gn := heap_alloc_new wr (.cells #[.slice a1 s.store.length k1, .slice a2 s.tape.length k2, .int .i64 s.taken, .slice a3 s.printed.length k3, .int .i64 s.time, .int .i64 s.at_, .int .i64 s.done, .int .i64 s.why] 24)
   have EN : Ext wr (wr.alloc (.cells #[.slice a1 s.store.length k1, .slice a2 s.tape.length k2, .int .i64 s.taken, .slice a3 s.printed.length k3, .int .i64 s.time, .int .i64 s.at_, .int .i64 s.done, .int .i64 s.why] 24)) := (Ext.refl wr).alloc _
   obtain ⟨wn, hwn⟩ : ∃ wn, wr.alloc (.cells #[.slice a1 s.store.length k1, .slice a2 s.tape.length k2, .int .i64 s.taken, .slice a3 s.printed.length k3, .int .i64 s.time, .int .i64 s.at_, .int .i64 s.done, .int .i64 s.why] 24) = wn := ⟨_, rfl⟩
   rw [hwn] at gn EN ⊢
   clear hwn q0 q1 q2 q3 q4 q5 q6 q7
   have q0 := blk_cell gn 0 (v := .slice a1 s.store.length k1) rfl
   have q1 := blk_cell gn 1 (v := .slice a2 s.tape.length k2) rfl
   have q2 := blk_cell gn 2 (v := .int .i64 s.taken) rfl
   have q3 := blk_cell gn 3 (v := .slice a3 s.printed.length k3) rfl
   have q4 := blk_cell gn 4 (v := .int .i64 s.time) rfl
   have q5 := blk_cell gn 5 (v := .int .i64 s.at_) rfl
   have q6 := blk_cell gn 6 (v := .int .i64 s.done) rfl
   have q7 := blk_cell gn 7 (v := .int .i64 s.why) rfl
   go_wp2_with fail
   refine (hcS _ (EX.comp EN)).mono ?_
   rintro e w1 ⟨rfl, E1⟩
   clear q0 q1 q2 q3 q4 q5 q6 q7
   by_cases hz : x3 = 0
   ·subst hz
    go_wp2_with fail
    go_roundw
    case rel =>
     exact ⟨1, by omega, rfl, by go_num, EL.comp (EN.comp E1), fun _ => trivial, fun h => by omega⟩
    case measure => simp [intOf]
   ·have hzb : (x3 != 0) = true := by simpa using hz
    go_wp2_with fail
    refine bodyPost_ret (v := .tuple #[.slice none 0 0, .int .i64 x3]) (by simp [results, Tryz.results14, go_sem]) rfl ?_
    unfold ChRes
    rw [HV.out, if_pos hz]
    exact ⟨_, rfl, World.ownsRow_nil _ _ _ _, EX.comp (EN.comp E1)⟩
  ·skip
   have q0 := blk_cell gw 8 (v := .slice b1 t.store.length l1) rfl
   have q1 := blk_cell gw 9 (v := .slice b2 t.tape.length l2) rfl
   have q2 := blk_cell gw 10 (v := .int .i64 t.taken) rfl
   have q3 := blk_cell gw 11 (v := .slice b3 t.printed.length l3) rfl
   have q4 := blk_cell gw 12 (v := .int .i64 t.time) rfl
   have q5 := blk_cell gw 13 (v := .int .i64 t.at_) rfl
   have q6 := blk_cell gw 14 (v := .int .i64 t.done) rfl
   have q7 := blk_cell gw 15 (v := .int .i64 t.why) rfl
   go_upto_region 4 with fail
   have gn := heap_alloc_new wr (.cells #[.slice b1 t.store.length l1, .slice b2 t.tape.length l2, .int .i64 t.taken, .slice b3 t.printed.length l3, .int .i64 t.time, .int .i64 t.at_, .int .i64 t.done, .int .i64 t.why] 24)
   have EN : Ext wr (wr.alloc (.cells #[.slice b1 t.store.length l1, .slice b2 t.tape.length l2, .int .i64 t.taken, .slice b3 t.printed.length l3, .int .i64 t.time, .int .i64 t.at_, .int .i64 t.done, .int .i64 t.why] 24)) := (Ext.refl wr).alloc _
   obtain ⟨wn, hwn⟩ : ∃ wn, wr.alloc (.cells #[.slice b1 t.store.length l1, .slice b2 t.tape.length l2, .int .i64 t.taken, .slice b3 t.printed.length l3, .int .i64 t.time, .int .i64 t.at_, .int .i64 t.done, .int .i64 t.why] 24) = wn := ⟨_, rfl⟩
   rw [hwn] at gn EN ⊢
   clear hwn q0 q1 q2 q3 q4 q5 q6 q7
   have q0 := blk_cell gn 0 (v := .slice b1 t.store.length l1) rfl
   have q1 := blk_cell gn 1 (v := .slice b2 t.tape.length l2) rfl
   have q2 := blk_cell gn 2 (v := .int .i64 t.taken) rfl
   have q3 := blk_cell gn 3 (v := .slice b3 t.printed.length l3) rfl
   have q4 := blk_cell gn 4 (v := .int .i64 t.time) rfl
   have q5 := blk_cell gn 5 (v := .int .i64 t.at_) rfl
   have q6 := blk_cell gn 6 (v := .int .i64 t.done) rfl
   have q7 := blk_cell gn 7 (v := .int .i64 t.why) rfl
   go_wp2_with fail
   refine (hcT _ (EX.comp EN)).mono ?_
   rintro e w1 ⟨rfl, E1⟩
   clear q0 q1 q2 q3 q4 q5 q6 q7
   by_cases hz : y3 = 0
   ·subst hz
    go_wp2_with fail
    go_roundw
    case rel =>
     exact ⟨2, by omega, rfl, by go_num, EL.comp (EN.comp E1), fun h => h1 (by omega), fun _ => trivial⟩
    case measure => simp [intOf]
   ·have hzb : (y3 != 0) = true := by simpa using hz
    go_wp2_with fail
    refine bodyPost_ret (v := .tuple #[.slice none 0 0, .int .i64 y3]) (by simp [results, Tryz.results14, go_sem]) rfl ?_
    unfold ChRes
    rw [HV.out, if_neg (by rw [h1 (by omega)]; simp), if_pos hz]
    exact ⟨_, rfl, World.ownsRow_nil _ _ _ _, EX.comp (EN.comp E1)⟩
  ·skip
   have hx0 := h1 (by omega)
   have hy0 := h2 (by omega)
   clear h1 h2
   have hE0 := HV.out
   subst hx0
   subst hy0
   rw [if_neg (by simp), if_neg (by simp)] at hE0
   have HE := Lib.hid hE0
   have hLS := HLS.out rfl
   have hLT := HLT.out rfl
   obtain ⟨bb, off, rfl, hbb, hcb⟩ : ∃ bb off, b1 = some ⟨bb, off, none⟩ ∧ bb < w.heap.size ∧ ∀ i, i < t.store.length → w.cell? ⟨bb, off + i, none⟩ = some (.int .i64 (t.store[i]?.getD 0)) := by
    rcases j1 with h | h
    ·rw [h] at hLT; simp at hLT
    ·exact h
   have LS := Lib.hid hLS
   have LT := Lib.hid hLT
   clear hLS hLT hE0 HLS HLT hcS hcT HV j1 hk0
   have gs0 := (EL.block _ (lt_of_block G0)).trans G0
   have gs1 := (EL.block _ (lt_of_block G1)).trans G1
   have q0 := blk_cell gs0 0 (v := .slice a1 s.store.length k1) rfl
   go_wp2_with fail
   refine (all_any a1 s.store.length k1 wr).mono ?_
   rintro e w1 ⟨rfl, hw1⟩
   have EA : Ext wr w1 := by rw [← hw1]; exact (Ext.refl _).alloc _
   have hbx : Boxed w1 wr.heap.size 22 (.slice a1 s.store.length k1) := by rw [← hw1]; exact heap_alloc_new wr _
   clear hw1 q0
   go_wp2_with fail
   refine (collect_any wr.heap.size a1 s.store.length k1 s.store w1 rfl (by rw [LS.out]; decide) hbx (i1.ext (EX.comp EA))).mono ?_
   rintro e w2 ⟨rfl, hm, EB⟩
   obtain ⟨mb, hmb⟩ : ∃ mb, w1.heap.size = mb := ⟨_, rfl⟩
   rw [hmb] at hm ⊢
   have gs2 := ((EA.comp EB).block _ (lt_of_block gs1)).trans gs1
   have EY := EX.comp (EA.comp EB)
   have q0 := blk_cell gs2 0 (v := .slice (some ⟨bb, off, none⟩) t.store.length l1) rfl
   clear gs0 gs1 G0 G1 hbx gw g2 hmb i1
   obtain ⟨i0, hi0, hz0, hz1, hz2⟩ := info_parts Tryz.infoCh
   go_upto_region 10 with fail
   go_loopw [4, 36] (fun s4 i wz => ∃ m : Nat, m ≤ 128 ∧ i = .int .i64 (m : Int) ∧ Ext w2 wz ∧ wz.ownsRow w2.heap.size 41 3 s4 (changedN s.store t.store m).length (ccs (changedN s.store t.store m))) (fun _ i _ => 128 - (intOf i).toNat)
   case atStart => exact ⟨0, by omega, rfl, Ext.refl _, World.ownsRow_nil _ _ _ _⟩
   case round =>
    obtain ⟨m, hm128, rfl, EM, hown⟩ := hrel
    by_cases hlt : m < 128
    ·have hltz : (m : Int) < (t.store.length : Int) := by rw [LT.out]; omega
     have hi : -9223372036854775808 ≤ (m : Int) ∧ (m : Int) ≤ 9223372036854775807 := by omega
     have hc := ((EY.comp EM).cell (p := ⟨bb, off + m, none⟩) hbb).trans (hcb m (by rw [LT.out]; exact hlt))
     have hlk := (hm.ext EM).look false keyI Tryz.underlying83 (zeroInt wr) ⟨(m : Int), hi⟩
     have hget : (mapN s.store s.store.length ⟨(m : Int), hi⟩).getD (.int .i64 0) = .int .i64 (s.store[m]?.getD 0) := by
      unfold mapN
      rw [if_pos (show 0 ≤ (m : Int) ∧ (m : Int) < (s.store.length : Int) by rw [LS.out]; omega)]
      rfl
     have hsu := changed_succ s.store t.store m
     have hle := changed_le s.store t.store m
     simp only [Bool.false_eq_true, if_false] at hlk
     rw [hget] at hlk
     change (Instr.lookup 83 (.map (some mb)) (.int .i64 (m : Int)) false).run Tryz.prog wr = _ at hlk
     obtain ⟨x, hx⟩ : ∃ x, s.store[m]?.getD 0 = x := ⟨_, rfl⟩
     obtain ⟨y, hy⟩ : ∃ y, t.store[m]?.getD 0 = y := ⟨_, rfl⟩
     rw [hx] at hlk
     rw [hy] at hc
     rw [hx, hy] at hsu
     clear hget hx hy hcb
     obtain ⟨L, hL⟩ : ∃ L, changedN s.store t.store m = L := ⟨_, rfl⟩
     rw [hL] at hown hsu hle
     have w1' : IntKind.i64.wrap ((m : Int) + 1) = (m : Int) + 1 := IntWalk.i64_in _ (by omega)
     have HSU := Lib.hid hsu
     clear hL hsu
     by_cases hxy : x = y
     ·subst hxy
      go_wp2_with fail
      go_roundw
      case rel =>
       refine ⟨m + 1, by omega, by go_num, EM, ?_⟩
       rw [HSU.out, if_pos rfl, List.append_nil]
       exact hown
      case measure => simp [intOf]; omega
     ·have hxb : (x != y) = true := by simpa using hxy
      go_upto_region 13 with fail
      have hz := EM.size
      have hfr : From (wr.alloc (.cells #[.int .i64 (m : Int), .int .i64 x, .int .i64 y] 41)) (some ⟨wr.heap.size, 0, none⟩) (cc ⟨(m : Int), x, y⟩) := by
       refine .inr ⟨_, rfl, fun j u hu => ?_⟩
       have hn := heap_alloc_new wr (.cells #[.int .i64 (m : Int), .int .i64 x, .int .i64 y] 41)
       rw [Addr.add_lit]
       simp only [Nat.zero_add]
       exact blk_cell hn j (by rw [← hu]; simp [cc])
      go_wp2_with (at_builtin; refine wpList_app (w0 := w2) rfl _ _ 37 rfl 41 i0 (.agg #[.int .i64 0, .int .i64 0, .int .i64 0]) 3 24 Tryz.underlying37 hi0 hz0 hz1 hz2 rfl (by decide) _ L.length w2.heap.size (ccs L) rfl (own_extX hown ((Ext.refl wr).alloc _)) (EM.alloc _) (Nat.le_refl _) (by rw [World.size_alloc]; omega) (some ⟨wr.heap.size, 0, none⟩) 1 1 (cc ⟨(m : Int), x, y⟩) rfl rfl hfr (cc_one _) (by unfold maxLen; omega) (by omega) ?_; intro a5 c5 w5 ho5 hE5 _)
      go_roundw
      case rel =>
       refine ⟨m + 1, by omega, by go_num, hE5, ?_⟩
       rw [HSU.out, if_neg hxy, List.length_append, ccs_snoc]
       exact ho5
      case measure => simp [intOf]; omega
    ·have hltz : ¬ (m : Int) < (t.store.length : Int) := by rw [LT.out]; omega
     obtain rfl : m = 128 := by omega
     go_wp2_with fail
     refine bodyPost_ret (v := .tuple #[u4, .int .i64 0]) (by simp [results, Tryz.results14, go_sem]) rfl ?_
     have hs2 := EY.size
     unfold ChRes
     rw [HE.out]
     exact ⟨_, rfl, ownsRow_le hown hs2, EY.comp EM⟩
end Go.Proofs.YtnhpcoagkmgdoaaGreat

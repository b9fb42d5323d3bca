import Derived.Deep.DeepCutAuto
import Derived.Test.YtnhpcoagkmgdoaaXFrame10
import Derived.Test.YtnhpcoagkmgdoaaXFacts10
import Derived.Test.YtnhpcoagkmgdoaaXDL13
set_option linter.unusedVariables false
set_option linter.unusedSimpArgs false
/- The law DumpRestarted. -/
namespace Go.Q
open Go.RowKit
theorem asked_small (s : St) {m : Int} (h : 0 ≤ m ∧ m ≤ 5000) : askedQ s m = (checkQ s).2.2 := by
  unfold askedQ
  split
  · rfl
  · rename_i hc
    have : inB m 0 5000 = true := by unfold inB; rw [decide_eq_true h.1, decide_eq_true h.2]; rfl
    rw [if_pos this]
    exact (Classical.not_not.1 hc).symm
theorem run_small (s : St) {m : Nat} (h : m ≤ 5000) : ((checkQ s).2.2 ≠ 0 ∧ runE s (m : Int) = (zst, (checkQ s).2.2) ∧ dumpE s = ([], (checkQ s).2.2)) ∨ (Valid s ∧ askedQ s (m : Int) = 0 ∧ runE s (m : Int) = (runQ m s, 0) ∧ dumpE s = (tapeW (wordsS s), 0)) := by
  have ha := asked_small s (m := (m : Int)) ⟨by omega, by omega⟩
  unfold runE dumpE
  rw [ha]
  by_cases hc : (checkQ s).2.2 = 0
  · exact .inr ⟨valid_of_check hc, hc, by rw [if_pos hc, Int.toNat_natCast], by rw [if_pos hc]⟩
  · exact .inl ⟨hc, by rw [if_neg hc], by rw [if_neg hc]⟩
end Go.Q
namespace Go.Proofs.Ytnhpcoagkmgdoaa
open Go.RowKit Go.Q Go.Shelf Go.Maps Go.Joins
set_option maxHeartbeats 4000000
set_option maxRecDepth 100000
end Go.Proofs.Ytnhpcoagkmgdoaa
/- Layer 10's program: Block. -/
namespace Go.Q
open Go.RowKit
end Go.Q
namespace Go.Proofs.Ytnhpcoagkmgdoaa
open Go.RowKit Go.Q Go.Shelf Go.Maps Go.Joins
set_option maxHeartbeats 4000000
set_option maxRecDepth 100000
theorem own_setI {X : World} {g n c B : Nat} {xs : List Int} (h : X.ownsRow B 3 1 (.slice (some ⟨g, 0, none⟩) n c) n (iv xs)) (j : Nat) (v : Int) : (X.setCell ⟨g, j, none⟩ (.int .i64 v)).ownsRow B 3 1 (.slice (some ⟨g, 0, none⟩) n c) n (iv (xs.set j v)) := by
  obtain ⟨k1, _⟩ := h.stored j (.int .i64 v)
  unfold iv at k1 ⊢
  rw [List.map_set]
  exact k1
theorem own_cellI {X : World} {g n c B : Nat} {xs : List Int} (h : X.ownsRow B 3 1 (.slice (some ⟨g, 0, none⟩) n c) n (iv xs)) (j : Nat) (hj : j < xs.length) : X.cell? ⟨g, j, none⟩ = some (.int .i64 (xs[j]?.getD 0)) := by
  rcases own_ints h with e | ⟨b, off, ha, _, hc⟩
  · rw [e] at hj; exact absurd hj (Nat.not_lt_zero _)
  · cases ha
    have := hc j hj
    rwa [Nat.zero_add] at this
end Go.Proofs.Ytnhpcoagkmgdoaa
/- Layer 10's program: slices.All, maps.Insert of ints. -/
namespace Go.Q
open Go.RowKit Go.ChangeMaps Go.MapKept
open Go.Maps (Keyed)
theorem wpListIn_putF {F : Fence} {nF : Nat} {P : Program} {k : TypeId} {α : Type} [DecidableEq α] {enc : α → Value} (w : World) {f : α → Option Value} {ops : Array Oper} {rest : List Oper} {o : Oper} {a : Act} {Q : Exit → Act → World → Prop} (hg : o.guard = none) (m x v : Operand) (t : TypeId) (hop : o.op = Op.mapUpdate t m x v) (e : TypeId) (K : KeyEnc P k enc) (ht : P.underlying t = some (.map k e)) (b : Nat)
    (hm : a.eval m = .map (some b)) (hown : MapF enc w b f) (key : α) (val : Value) (hx : a.eval x = enc key) (hv : a.eval v = val)
    (hK : ∀ w', MapF enc w' b (putF f key val) → w.grownBy w' (some b) → w'.heap.size = w.heap.size → wpListIn F nF P ops Q rest (a.put o.dst undef) w') :
    wpListIn F nF P ops Q (o :: rest) a w := by
  refine wpListIn_plain hg fun K' hK' => ?_
  obtain ⟨w', hrun, r1, r2, r3⟩ := hown.update K ht key val
  unfold Oper.wpIn
  refine ⟨by simp [Oper.about, hop], ?_⟩
  rw [Oper.semAt_plain F _ _ (by rw [hop]; intro c hc'; cases hc')]
  simp [execOp, hop, hm, hx, hv, hrun, Result.andThen]
  exact hK' _ _ (hK w' r1 r2 r3)
theorem KpM.grown {M : Nat → Prop} {A B : World} {b : Nat} (h : A.grownBy B (some b)) (hm : M b) (hs : B.heap.size = A.heap.size) : KpM M A B := by
  refine ⟨Nat.le_of_eq hs.symm, fun x hx hn => h.block x hx (fun e => hn ?_), h.os, h.tape, h.output⟩
  cases e
  exact hm
theorem KpM.low {M M' : Nat → Prop} {A B : World} (h : KpM M A B) (hm : ∀ b, b < A.heap.size → M b → M' b) : KpM M' A B := ⟨h.1, fun b hb hn => h.2 b hb (fun hx => hn (hm b hb hx)), h.os, h.tape, h.output⟩
end Go.Q
namespace Go.Proofs.Ytnhpcoagkmgdoaa
open Go.RowKit Go.Q Go.Shelf Go.Joins
attribute [local go_sem] Oper.semAt_some
/-- the first k numbers, by their places -/
def mapN (xs : List Int) (k : Nat) : I64 → Option Value := fun x => if 0 ≤ x.1 ∧ x.1 < (k : Int) then some (.int .i64 (xs[x.1.toNat]?.getD 0)) else none
theorem mapN_zero (xs : List Int) : mapN xs 0 = fun _ => none := by
  funext x
  unfold mapN
  rw [if_neg (by omega)]
theorem mapN_succ (xs : List Int) (k : Nat) (hk : -9223372036854775808 ≤ (k : Int) ∧ (k : Int) ≤ 9223372036854775807) : putF (mapN xs k) (⟨(k : Int), hk⟩ : I64) (.int .i64 (xs[k]?.getD 0)) = mapN xs (k + 1) := by
  funext x
  unfold putF mapN
  by_cases e : x = ⟨(k : Int), hk⟩
  · rw [if_pos e, e, if_pos (show 0 ≤ (k : Int) ∧ (k : Int) < ((k + 1 : Nat) : Int) by omega)]
    rfl
  · rw [if_neg e]
    have hne : x.1 ≠ (k : Int) := fun h => e (I64.same h)
    by_cases h : 0 ≤ x.1 ∧ x.1 < (k : Int)
    · rw [if_pos h, if_pos (by omega)]
    · rw [if_neg h, if_neg (by omega)]
theorem all_any (a : Option Addr) (k c : Nat) (w : World) :
    Calls Try.prog 78 #[.slice a k c] w fun e w' => e = .returned (.func (.func 103) #[] #[.pointer (some ⟨w.heap.size, 0, none⟩)]) ∧ w.alloc (.cells #[.slice a k c] 22) = w' := by
  go_enter Try.func78, Try.ntmps78
  go_wp2
  go_ret
  exact ⟨rfl, rfl⟩
set_option maxRecDepth 100000 in
set_option maxHeartbeats 4000000 in
theorem all_in (n : Nat) (hn : 1 ≤ n) (l Bs : Nat) (a : Option Addr) (N c : Nat) (xs : List Int) (hx : xs.length = N) (hN : N ≤ 1024) (M : Nat → Prop) (hMs : ¬ M Bs) (JJ : Nat → World → Prop) (W : World)
    (hY : ∀ k W, JJ k W → k < N → YieldAt Fence.wide (n - 1) Try.prog l #[.int .i64 (k : Int), .int .i64 (xs[k]?.getD 0)] W fun e W' => e = .returned (.bool true) ∧ JJ (k + 1) W' ∧ KpM M W W')
    (hB : W.cell? ⟨Bs, 0, none⟩ = some (.slice a N c)) (hBs : Bs < W.heap.size) (hI : IntsF M W a xs) (h0 : JJ 0 W) :
    CallsIn Fence.wide n Try.prog 103 #[.func (.yield l) #[] #[], .pointer (some ⟨Bs, 0, none⟩)] W fun e W' => (∃ v, e = .returned v) ∧ JJ N W' := by
  refine callsIn_of_wp Try.func103 rfl trivial ?_ rfl
  simp only [Try.ntmps103, List.size_toArray, List.length_cons, List.length_nil, Nat.reduceAdd, Nat.reduceSub, Array.replicate_succ, Array.replicate_zero, List.push_toArray, List.append_toArray, List.nil_append, List.cons_append]
  rcases hI with rfl | ⟨b, off, rfl, hbm, hb, hc⟩
  · obtain rfl : N = 0 := hx.symm
    gi_wp2
    gi_loopw [7] (fun i wr => i = .int .i64 0 ∧ JJ 0 wr) (fun i _ => 0)
    case atStart => exact ⟨rfl, h0⟩
    case round =>
      obtain ⟨rfl, hJs⟩ := hrel
      gi_wp2
      go_end0
      exact ⟨⟨_, rfl⟩, hJs⟩
  · gi_wp2
    gi_loopw [7] (fun i wr => ∃ k : Nat, k ≤ N ∧ i = .int .i64 (k : Int) ∧ JJ k wr ∧ KpM M W wr) (fun i _ => N - (intOf i).toNat)
    case atStart => exact ⟨0, by omega, rfl, h0, KpM.refl _ _⟩
    case round =>
      obtain ⟨k, hk, rfl, hJs, hnx⟩ := hrel
      have hcs := (hnx.cell (o := 0) hBs hMs).trans hB
      by_cases hlt : k < N
      · have hltz : (k : Int) < (N : Int) := by omega
        have hce := (hnx.cell (o := off + k) hb hbm).trans (hc k (by omega))
        have w1 : IntKind.i64.wrap ((k : Int) + 1) = (k : Int) + 1 := IntWalk.i64_in _ (by omega)
        have HYK := Lib.hid (hY k wr hJs hlt)
        obtain ⟨y, hy0⟩ : ∃ y, xs[k]?.getD 0 = y := ⟨_, rfl⟩
        rw [hy0] at hce HYK
        clear hy0
        obtain ⟨fn, tmps, assign, body, hy, hRd⟩ := HYK.out
        gi_wp2
        refine hRd.mono ?_
        rintro e W3 ⟨rfl, hJ3, hk3⟩
        gi_wp2
        go_roundw
        case rel => exact ⟨k + 1, by omega, by go_num, hJ3, hnx.trans hk3⟩
        case measure =>
          simp [intOf]
          omega
      · have hltz : ¬ (k : Int) < (N : Int) := by omega
        obtain rfl : k = N := by omega
        gi_wp2
        go_end0
        exact ⟨⟨_, rfl⟩, hJs⟩
end Go.Proofs.Ytnhpcoagkmgdoaa
/- Layer 10's program: maps.Insert, maps.Collect of ints. -/
namespace Go.Proofs.Ytnhpcoagkmgdoaa
open Go.RowKit Go.Q Go.Shelf Go.Joins
attribute [local go_sem] Oper.semAt_some
set_option maxRecDepth 100000 in
set_option maxHeartbeats 4000000 in
theorem insert_any (mb Bs : Nat) (a : Option Addr) (N c : Nat) (xs : List Int) (w : World) (hx : xs.length = N) (hN : N ≤ 1024) (hm : MapF encI w mb (fun _ => none)) (hne : Bs ≠ mb)
    (hB : Boxed w Bs 22 (.slice a N c)) (hI : IntsF (fun q => q = mb) w a xs) :
    Calls Try.prog 102 #[.map (some mb), .func (.func 103) #[] #[.pointer (some ⟨Bs, 0, none⟩)]] w fun e w' => (∃ v, e = .returned v) ∧ MapF encI w' mb (mapN xs N) ∧ KpM (fun q => q = mb) w w' := by
  have hBl := hB.lt
  have hml := hm.lt
  refine (callsIn_wide (n := 9)).1 ?_
  refine callsIn_of_wp_marks Try.func102 rfl trivial ?_ rfl
  simp only [Try.ntmps102, List.size_toArray, List.length_cons, List.length_nil, Nat.reduceAdd, Nat.reduceSub, Array.replicate_succ, Array.replicate_zero, List.push_toArray, List.append_toArray, List.nil_append, List.cons_append]
  refine wpIn_wide.2 ?_
  go_wp2
  obtain ⟨w1, hw1⟩ : ∃ w1, w.alloc (.cells #[.map (some mb)] 136) = w1 := ⟨_, rfl⟩
  have E1 : Ext w w1 := by rw [← hw1]; exact (Ext.refl w).alloc _
  have hs1 : w1.heap.size = w.heap.size + 1 := by rw [← hw1]; simp
  have hb1 : Boxed w1 w.heap.size 136 (.map (some mb)) := by rw [← hw1]; exact heap_alloc_new w _
  rw [hw1]
  clear hw1
  obtain ⟨M, hM⟩ : ∃ M : Nat → Prop, M = fun q => q = mb ∨ w1.heap.size ≤ q := ⟨_, rfl⟩
  refine (wpIn_wide (n := 9)).1 ?_
  refine wpIn_rangeFunc_J (n := 9) (α := Nat) (gf := 103) (lb := #[.pointer (some ⟨Bs, 0, none⟩)]) rfl (enters_of Try.func103 (by kernel_rfl) rfl)
    (encs := fun k => #[.int .i64 (k : Int), .int .i64 (xs[k]?.getD 0)]) (fun _ => rfl)
    (fun k V => MapF encI V mb (mapN xs k) ∧ KpM M w1 V)
    (fun k x V => x = k)
    N (KpM M) (fun h k => h.trans k) ?kb ?tj ?tx ?h0 ?call
    (fun x => { tmps := #[.map (some mb), .func (.func 103) #[] #[.pointer (some ⟨Bs, 0, none⟩)], .pointer (some ⟨w.heap.size, 0, none⟩), undef, .int .i64 (x : Int), .int .i64 (xs[x]?.getD 0), .func (.func 103) #[] #[.pointer (some ⟨Bs, 0, none⟩)], .int .i64 (x : Int), .int .i64 (xs[x]?.getD 0), undef, undef, undef], defers := [] }) ?assign ?body ?done
  case kb => exact fun V o o' _ _ => KpM.put V _ o' (by rw [hM]; exact .inr (by omega))
  case tj =>
    rintro m V o o' ⟨h1, h2⟩ ho hn
    exact ⟨h1.same (World.putObj_heap_other (by omega)), h2.trans (KpM.put V _ o' (by rw [hM]; exact .inr (by omega)))⟩
  case tx => exact fun m x V o o' h _ _ => h
  case h0 => exact fun V E => ⟨by rw [mapN_zero]; exact (hm.ext E1).ext E, KpM.of_ext E⟩
  case call =>
    intro yl JJ V1 E1' hlt' hJJ hJk hY h0
    have hb' : Boxed V1 Bs 22 _ := (E1'.block _ (by omega)).trans ((E1.block _ hBl).trans hB)
    refine all_in 8 (by decide) yl Bs a N c xs hx hN M (by rw [hM]; omega) JJ V1 (fun m V hm hms => hY m _ V hm hms rfl) hb'.cell (by have := E1'.size; omega) ?_ h0
    have hI1 : IntsF M w a xs := hI.imp id fun ⟨b, off, ha, hn, hb, hc⟩ => ⟨b, off, ha, (by rw [hM]; rintro (e | e); exact hn e; omega), hb, hc⟩
    exact (hI1.ext E1).ext E1'
  case assign =>
    intro l' x V KK hKK
    gi_wp2
    exact hKK
  case body =>
    rintro l' m x V ⟨h1, h3⟩ hm rfl
    (try dsimp only)
    have hbV : Boxed V w.heap.size 136 (.map (some mb)) := boxed_kp hb1 h3 (by rw [hM]; omega)
    have cV := hbV.cell
    obtain ⟨y, hy⟩ : ∃ y, xs[x]?.getD 0 = y := ⟨_, rfl⟩
    rw [hy]
    have hi : -9223372036854775808 ≤ (x : Int) ∧ (x : Int) ≤ 9223372036854775807 := by omega
    have hsuc := mapN_succ xs x hi
    rw [hy] at hsuc
    have HS := Lib.hid hsuc
    have HMx := Lib.hid hM
    clear hsuc hM hy
    gi_wp2_with (gi_at_mapUpdate; refine wpListIn_putF _ rfl _ _ _ 136 rfl 3 keyI Try.underlying136 mb rfl h1 (⟨(x : Int), hi⟩ : I64) (.int .i64 y) rfl rfl ?_; intro w6 hm6 hg6 hs6)
    have kf : KpM M V w6 := KpM.grown hg6 (by rw [HMx.out]; exact .inl rfl) hs6
    exact ⟨rfl, KeepsFrom.of_grownBy hg6 (fun j hj => by cases hj; omega), kf, by rw [← HS.out]; exact hm6, h3.trans kf⟩
  case done =>
    rintro D V hD ⟨h1, h3⟩ hdef
    have hEf : KpM (fun q => q = mb) w (V.putObj D (.deferred none)) := ((KpM.of_ext E1).trans (h3.trans (KpM.put V D _ (by rw [hM]; exact .inr hD)))).low (fun b hb h => by rw [hM] at h; omega)
    have hfin : MapF encI (V.putObj D (.deferred none)) mb (mapN xs N) := h1.same (World.putObj_heap_other (by omega))
    clear h1
    go_wp2
    refine ⟨by simp, .inl ⟨_, _, rfl, run_takeDeferred hdef, ?_⟩⟩
    refine ⟨.tuple #[], by simp [results, Try.results102, go_sem], ?_⟩
    exact ⟨⟨_, rfl⟩, hfin, hEf⟩
set_option maxRecDepth 100000 in
set_option maxHeartbeats 4000000 in
theorem collect_any (Bs : Nat) (a : Option Addr) (N c : Nat) (xs : List Int) (w : World) (hx : xs.length = N) (hN : N ≤ 1024) (hB : Boxed w Bs 22 (.slice a N c)) (hI : IntsAt w a xs) :
    Calls Try.prog 77 #[.func (.func 103) #[] #[.pointer (some ⟨Bs, 0, none⟩)]] w fun e w' => e = .returned (.map (some w.heap.size)) ∧ MapF encI w' w.heap.size (mapN xs N) ∧ Ext w w' := by
  have hmm := @run_makeMap Try.prog
  have hBl := hB.lt
  have F0 : MapF encI (w.alloc (.map #[] 0)) w.heap.size (fun _ => none) := MapF.made w
  have E0 : Ext w (w.alloc (.map #[] 0)) := (Ext.refl w).alloc _
  have I0 : IntsF (fun q => q = w.heap.size) (w.alloc (.map #[] 0)) a xs := (IntsF.of_at hI (fun b hb e => by omega)).ext E0
  have hc := insert_any w.heap.size Bs a N c xs _ hx hN F0 (by omega) ((E0.block Bs hBl).trans hB) I0
  clear F0 I0 hI
  go_enter Try.func77, Try.ntmps77
  go_wp2_with fail
  refine ((hc)).mono ?_
  rintro e w1 ⟨⟨v, rfl⟩, hm1, hk1⟩
  go_wp2
  go_ret
  exact ⟨rfl, hm1, E0.below5 hk1 (fun b e => by omega)⟩
end Go.Proofs.Ytnhpcoagkmgdoaa
/- Layer 10's program: Changes. -/
namespace Go.Proofs.Ytnhpcoagkmgdoaa
open Go.RowKit Go.Q Go.Shelf Go.Maps Go.Joins
set_option maxHeartbeats 4000000
set_option maxRecDepth 100000
theorem Try.infoCh : (Try.prog.info? 71).map (fun i => (i.zero, i.size, i.bytes)) = some (some (.agg #[.int .i64 0, .int .i64 0, .int .i64 0]), 3, 24) := by kernel_rfl
theorem zeroInt (w : World) : (zeroValue 3).run Try.prog w = .ok (.int .i64 0) w := by
  simp [Try.zeroValue3]
/-- the cells of a change -/
def cc (x : Chd) : List Value := [.int .i64 x.addr, .int .i64 x.was, .int .i64 x.is_]
def ccs (l : List Chd) : List Value := l.flatMap cc
theorem cc_one (x : Chd) : ∀ u ∈ cc x, u.oneCell' = true := by
  intro u hu
  simp [cc] at hu
  rcases hu with h | h | h <;> (rw [h]; rfl)
theorem ccs_snoc (l : List Chd) (x : Chd) : ccs (l ++ [x]) = ccs l ++ cc x := by simp [ccs]
theorem changed_le (a b : List Int) : ∀ n, (changedN a b n).length ≤ n
  | 0 => by simp [changedN]
  | n + 1 => by
    rw [changed_succ, List.length_append]
    have := changed_le a b n
    split <;> simp <;> omega
def ChRes (s t : St) (w : World) (e : Ending) (w' : World) : Prop := ∃ v, e = .returned (.tuple #[v, .int .i64 (changesE s t).2]) ∧ w'.ownsRow w.heap.size 71 3 v (changesE s t).1.length (ccs (changesE s t).1) ∧ Ext w w'
theorem changes_any (v1 v2 : Value) (s t : St) (w : World) (hS : StAt w v1 s) (hT : StAt w v2 t) (hbs : StBd s) (hbt : StBd t) :
    Calls Try.prog 39 #[v1, v2] w (ChRes s t w) := by
  have hcS := fun W (E : Ext w W) => check_any _ s W (hS.ext E) hbs
  have hcT := fun W (E : Ext w W) => check_any _ t W (hT.ext E) hbt
  obtain ⟨a1, a2, a3, k1, k2, k3, rfl, i1, i2, i3⟩ := hS
  obtain ⟨b1, b2, b3, l1, l2, l3, rfl, j1, j2, j3⟩ := hT
  have hlS : (checkQ s).2.2 = 0 → s.store.length = 128 := fun h => (valid_of_check h).len
  have hlT : (checkQ t).2.2 = 0 → t.store.length = 128 := fun h => (valid_of_check h).len
  have HV := Lib.hid (show changesE s t = if (checkQ s).2.2 ≠ 0 then ([], (checkQ s).2.2) else if (checkQ t).2.2 ≠ 0 then ([], (checkQ t).2.2) else (changedN s.store t.store 128, 0) from rfl)
  obtain ⟨⟨x1, x2, x3⟩, hx⟩ : ∃ p, checkQ s = p := ⟨_, rfl⟩
  obtain ⟨⟨y1, y2, y3⟩, hy⟩ : ∃ p, checkQ t = p := ⟨_, rfl⟩
  rw [hx] at hcS HV hlS
  rw [hy] at hcT HV hlT
  dsimp only at hlS hlT
  have HLS := Lib.hid hlS
  have HLT := Lib.hid hlT
  clear hlS hlT
  unfold v3 at hcS hcT
  unfold sv at hcS hcT ⊢
  have HV : Hid (changesE s t = if x3 ≠ 0 then ([], x3) else if y3 ≠ 0 then ([], y3) else (changedN s.store t.store 128, 0)) := HV
  clear hx hy hbs hbt i2 i3 j2 j3
  obtain ⟨W2, hW2⟩ : ∃ W2, (w.alloc (.cells #[.slice a1 s.store.length k1, .slice a2 s.tape.length k2, .int .i64 s.taken, .slice a3 s.printed.length k3, .int .i64 s.time, .int .i64 s.at_, .int .i64 s.done, .int .i64 s.why] 33)).alloc (.cells #[.slice b1 t.store.length l1, .slice b2 t.tape.length l2, .int .i64 t.taken, .slice b3 t.printed.length l3, .int .i64 t.time, .int .i64 t.at_, .int .i64 t.done, .int .i64 t.why] 33) = W2 := ⟨_, rfl⟩
  have E2 : Ext w W2 := by rw [← hW2]; exact ((Ext.refl w).alloc _).alloc _
  have z2 : W2.heap.size = w.heap.size + 2 := by rw [← hW2]; simp
  have g0 : W2.heap[w.heap.size]? = some (.cells #[.slice a1 s.store.length k1, .slice a2 s.tape.length k2, .int .i64 s.taken, .slice a3 s.printed.length k3, .int .i64 s.time, .int .i64 s.at_, .int .i64 s.done, .int .i64 s.why] 33 (0, 0)) := by
    rw [← hW2]
    exact (Below.heap_alloc (w.alloc (.cells #[.slice a1 s.store.length k1, .slice a2 s.tape.length k2, .int .i64 s.taken, .slice a3 s.printed.length k3, .int .i64 s.time, .int .i64 s.at_, .int .i64 s.done, .int .i64 s.why] 33)) (.cells #[.slice b1 t.store.length l1, .slice b2 t.tape.length l2, .int .i64 t.taken, .slice b3 t.printed.length l3, .int .i64 t.time, .int .i64 t.at_, .int .i64 t.done, .int .i64 t.why] 33) _ (lt_of_block (heap_alloc_new w (.cells #[.slice a1 s.store.length k1, .slice a2 s.tape.length k2, .int .i64 s.taken, .slice a3 s.printed.length k3, .int .i64 s.time, .int .i64 s.at_, .int .i64 s.done, .int .i64 s.why] 33)))).trans (heap_alloc_new w (.cells #[.slice a1 s.store.length k1, .slice a2 s.tape.length k2, .int .i64 s.taken, .slice a3 s.printed.length k3, .int .i64 s.time, .int .i64 s.at_, .int .i64 s.done, .int .i64 s.why] 33))
  have g1 : W2.heap[w.heap.size + 1]? = some (.cells #[.slice b1 t.store.length l1, .slice b2 t.tape.length l2, .int .i64 t.taken, .slice b3 t.printed.length l3, .int .i64 t.time, .int .i64 t.at_, .int .i64 t.done, .int .i64 t.why] 33 (0, 0)) := by
    rw [← hW2]
    have e := heap_alloc_new (w.alloc (.cells #[.slice a1 s.store.length k1, .slice a2 s.tape.length k2, .int .i64 s.taken, .slice a3 s.printed.length k3, .int .i64 s.time, .int .i64 s.at_, .int .i64 s.done, .int .i64 s.why] 33)) (.cells #[.slice b1 t.store.length l1, .slice b2 t.tape.length l2, .int .i64 t.taken, .slice b3 t.printed.length l3, .int .i64 t.time, .int .i64 t.at_, .int .i64 t.done, .int .i64 t.why] 33)
    rw [World.size_alloc] at e
    exact e
  go_enter Try.func39, Try.ntmps39
  go_upto_region 1 with fail
  (try rw [hW2])
  clear hW2
  have q0 := blk_cell g0 0 (v := .slice a1 s.store.length k1) rfl
  have q1 := blk_cell g0 1 (v := .slice a2 s.tape.length k2) rfl
  have q2 := blk_cell g0 2 (v := .int .i64 s.taken) rfl
  have q3 := blk_cell g0 3 (v := .slice a3 s.printed.length k3) rfl
  have q4 := blk_cell g0 4 (v := .int .i64 s.time) rfl
  have q5 := blk_cell g0 5 (v := .int .i64 s.at_) rfl
  have q6 := blk_cell g0 6 (v := .int .i64 s.done) rfl
  have q7 := blk_cell g0 7 (v := .int .i64 s.why) rfl
  have r0 := blk_cell g1 0 (v := .slice b1 t.store.length l1) rfl
  have r1 := blk_cell g1 1 (v := .slice b2 t.tape.length l2) rfl
  have r2 := blk_cell g1 2 (v := .int .i64 t.taken) rfl
  have r3 := blk_cell g1 3 (v := .slice b3 t.printed.length l3) rfl
  have r4 := blk_cell g1 4 (v := .int .i64 t.time) rfl
  have r5 := blk_cell g1 5 (v := .int .i64 t.at_) rfl
  have r6 := blk_cell g1 6 (v := .int .i64 t.done) rfl
  have r7 := blk_cell g1 7 (v := .int .i64 t.why) rfl
  go_upto_region 2 with fail
  have g2 := heap_alloc_new W2 (.cells #[.slice a1 s.store.length k1, .slice a2 s.tape.length k2, .int .i64 s.taken, .slice a3 s.printed.length k3, .int .i64 s.time, .int .i64 s.at_, .int .i64 s.done, .int .i64 s.why, .slice b1 t.store.length l1, .slice b2 t.tape.length l2, .int .i64 t.taken, .slice b3 t.printed.length l3, .int .i64 t.time, .int .i64 t.at_, .int .i64 t.done, .int .i64 t.why] 33)
  have E3 : Ext W2 (W2.alloc (.cells #[.slice a1 s.store.length k1, .slice a2 s.tape.length k2, .int .i64 s.taken, .slice a3 s.printed.length k3, .int .i64 s.time, .int .i64 s.at_, .int .i64 s.done, .int .i64 s.why, .slice b1 t.store.length l1, .slice b2 t.tape.length l2, .int .i64 t.taken, .slice b3 t.printed.length l3, .int .i64 t.time, .int .i64 t.at_, .int .i64 t.done, .int .i64 t.why] 33)) := (Ext.refl W2).alloc _
  rw [z2] at g2
  obtain ⟨W3, hW3⟩ : ∃ W3, W2.alloc (.cells #[.slice a1 s.store.length k1, .slice a2 s.tape.length k2, .int .i64 s.taken, .slice a3 s.printed.length k3, .int .i64 s.time, .int .i64 s.at_, .int .i64 s.done, .int .i64 s.why, .slice b1 t.store.length l1, .slice b2 t.tape.length l2, .int .i64 t.taken, .slice b3 t.printed.length l3, .int .i64 t.time, .int .i64 t.at_, .int .i64 t.done, .int .i64 t.why] 33) = W3 := ⟨_, rfl⟩
  rw [hW3] at g2 E3 ⊢
  clear hW3 q0 q1 q2 q3 q4 q5 q6 q7 r0 r1 r2 r3 r4 r5 r6 r7
  have G0 := (E3.block _ (lt_of_block g0)).trans g0
  have G1 := (E3.block _ (lt_of_block g1)).trans g1
  have EW := E2.comp E3
  clear g0 g1 E2 E3 z2
  go_loopw [4, 15] (fun s4 i wr => ∃ k0 : Nat, k0 ≤ 2 ∧ s4 = .slice none 0 0 ∧ i = .int .i64 (k0 : Int) ∧ Ext W3 wr ∧ (1 ≤ k0 → x3 = 0) ∧ (2 ≤ k0 → y3 = 0)) (fun _ i _ => 2 - (intOf i).toNat)
  case atStart => exact ⟨0, by omega, rfl, rfl, Ext.refl _, fun h => by omega, fun h => by omega⟩
  case round =>
    obtain ⟨k0, hk0, rfl, rfl, EL, h1, h2⟩ := hrel
    have gw := (EL.block _ (lt_of_block g2)).trans g2
    have EX := EW.comp EL
    obtain rfl | rfl | rfl : k0 = 0 ∨ k0 = 1 ∨ k0 = 2 := by omega
    · skip
      have q0 := blk_cell gw 0 (v := .slice a1 s.store.length k1) rfl
      have q1 := blk_cell gw 1 (v := .slice a2 s.tape.length k2) rfl
      have q2 := blk_cell gw 2 (v := .int .i64 s.taken) rfl
      have q3 := blk_cell gw 3 (v := .slice a3 s.printed.length k3) rfl
      have q4 := blk_cell gw 4 (v := .int .i64 s.time) rfl
      have q5 := blk_cell gw 5 (v := .int .i64 s.at_) rfl
      have q6 := blk_cell gw 6 (v := .int .i64 s.done) rfl
      have q7 := blk_cell gw 7 (v := .int .i64 s.why) rfl
      go_upto_region 4 with fail
      have gn := heap_alloc_new wr (.cells #[.slice a1 s.store.length k1, .slice a2 s.tape.length k2, .int .i64 s.taken, .slice a3 s.printed.length k3, .int .i64 s.time, .int .i64 s.at_, .int .i64 s.done, .int .i64 s.why] 33)
      have EN : Ext wr (wr.alloc (.cells #[.slice a1 s.store.length k1, .slice a2 s.tape.length k2, .int .i64 s.taken, .slice a3 s.printed.length k3, .int .i64 s.time, .int .i64 s.at_, .int .i64 s.done, .int .i64 s.why] 33)) := (Ext.refl wr).alloc _
      obtain ⟨wn, hwn⟩ : ∃ wn, wr.alloc (.cells #[.slice a1 s.store.length k1, .slice a2 s.tape.length k2, .int .i64 s.taken, .slice a3 s.printed.length k3, .int .i64 s.time, .int .i64 s.at_, .int .i64 s.done, .int .i64 s.why] 33) = wn := ⟨_, rfl⟩
      rw [hwn] at gn EN ⊢
      clear hwn q0 q1 q2 q3 q4 q5 q6 q7
      have q0 := blk_cell gn 0 (v := .slice a1 s.store.length k1) rfl
      have q1 := blk_cell gn 1 (v := .slice a2 s.tape.length k2) rfl
      have q2 := blk_cell gn 2 (v := .int .i64 s.taken) rfl
      have q3 := blk_cell gn 3 (v := .slice a3 s.printed.length k3) rfl
      have q4 := blk_cell gn 4 (v := .int .i64 s.time) rfl
      have q5 := blk_cell gn 5 (v := .int .i64 s.at_) rfl
      have q6 := blk_cell gn 6 (v := .int .i64 s.done) rfl
      have q7 := blk_cell gn 7 (v := .int .i64 s.why) rfl
      go_wp2_with fail
      refine (hcS _ (EX.comp EN)).mono ?_
      rintro e w1 ⟨rfl, E1⟩
      clear q0 q1 q2 q3 q4 q5 q6 q7
      by_cases hz : x3 = 0
      · subst hz
        go_wp2_with fail
        go_roundw
        case rel =>
          exact ⟨1, by omega, rfl, by go_num, EL.comp (EN.comp E1), fun _ => trivial, fun h => by omega⟩
        case measure => simp [intOf]
      · have hzb : (x3 != 0) = true := by simpa using hz
        go_wp2_with fail
        refine bodyPost_ret (v := .tuple #[.slice none 0 0, .int .i64 x3]) (by simp [results, Try.results39, go_sem]) rfl ?_
        unfold ChRes
        rw [HV.out, if_pos hz]
        exact ⟨_, rfl, World.ownsRow_nil _ _ _ _, EX.comp (EN.comp E1)⟩
    · skip
      have q0 := blk_cell gw 8 (v := .slice b1 t.store.length l1) rfl
      have q1 := blk_cell gw 9 (v := .slice b2 t.tape.length l2) rfl
      have q2 := blk_cell gw 10 (v := .int .i64 t.taken) rfl
      have q3 := blk_cell gw 11 (v := .slice b3 t.printed.length l3) rfl
      have q4 := blk_cell gw 12 (v := .int .i64 t.time) rfl
      have q5 := blk_cell gw 13 (v := .int .i64 t.at_) rfl
      have q6 := blk_cell gw 14 (v := .int .i64 t.done) rfl
      have q7 := blk_cell gw 15 (v := .int .i64 t.why) rfl
      go_upto_region 4 with fail
      have gn := heap_alloc_new wr (.cells #[.slice b1 t.store.length l1, .slice b2 t.tape.length l2, .int .i64 t.taken, .slice b3 t.printed.length l3, .int .i64 t.time, .int .i64 t.at_, .int .i64 t.done, .int .i64 t.why] 33)
      have EN : Ext wr (wr.alloc (.cells #[.slice b1 t.store.length l1, .slice b2 t.tape.length l2, .int .i64 t.taken, .slice b3 t.printed.length l3, .int .i64 t.time, .int .i64 t.at_, .int .i64 t.done, .int .i64 t.why] 33)) := (Ext.refl wr).alloc _
      obtain ⟨wn, hwn⟩ : ∃ wn, wr.alloc (.cells #[.slice b1 t.store.length l1, .slice b2 t.tape.length l2, .int .i64 t.taken, .slice b3 t.printed.length l3, .int .i64 t.time, .int .i64 t.at_, .int .i64 t.done, .int .i64 t.why] 33) = wn := ⟨_, rfl⟩
      rw [hwn] at gn EN ⊢
      clear hwn q0 q1 q2 q3 q4 q5 q6 q7
      have q0 := blk_cell gn 0 (v := .slice b1 t.store.length l1) rfl
      have q1 := blk_cell gn 1 (v := .slice b2 t.tape.length l2) rfl
      have q2 := blk_cell gn 2 (v := .int .i64 t.taken) rfl
      have q3 := blk_cell gn 3 (v := .slice b3 t.printed.length l3) rfl
      have q4 := blk_cell gn 4 (v := .int .i64 t.time) rfl
      have q5 := blk_cell gn 5 (v := .int .i64 t.at_) rfl
      have q6 := blk_cell gn 6 (v := .int .i64 t.done) rfl
      have q7 := blk_cell gn 7 (v := .int .i64 t.why) rfl
      go_wp2_with fail
      refine (hcT _ (EX.comp EN)).mono ?_
      rintro e w1 ⟨rfl, E1⟩
      clear q0 q1 q2 q3 q4 q5 q6 q7
      by_cases hz : y3 = 0
      · subst hz
        go_wp2_with fail
        go_roundw
        case rel =>
          exact ⟨2, by omega, rfl, by go_num, EL.comp (EN.comp E1), fun h => h1 (by omega), fun _ => trivial⟩
        case measure => simp [intOf]
      · have hzb : (y3 != 0) = true := by simpa using hz
        go_wp2_with fail
        refine bodyPost_ret (v := .tuple #[.slice none 0 0, .int .i64 y3]) (by simp [results, Try.results39, go_sem]) rfl ?_
        unfold ChRes
        rw [HV.out, if_neg (by rw [h1 (by omega)]; simp), if_pos hz]
        exact ⟨_, rfl, World.ownsRow_nil _ _ _ _, EX.comp (EN.comp E1)⟩
    · skip
      have hx0 := h1 (by omega)
      have hy0 := h2 (by omega)
      clear h1 h2
      have hE0 := HV.out
      subst hx0
      subst hy0
      rw [if_neg (by simp), if_neg (by simp)] at hE0
      have HE := Lib.hid hE0
      have hLS := HLS.out rfl
      have hLT := HLT.out rfl
      obtain ⟨bb, off, rfl, hbb, hcb⟩ : ∃ bb off, b1 = some ⟨bb, off, none⟩ ∧ bb < w.heap.size ∧ ∀ i, i < t.store.length → w.cell? ⟨bb, off + i, none⟩ = some (.int .i64 (t.store[i]?.getD 0)) := by
        rcases j1 with h | h
        · rw [h] at hLT; simp at hLT
        · exact h
      have LS := Lib.hid hLS
      have LT := Lib.hid hLT
      clear hLS hLT hE0 HLS HLT hcS hcT HV j1 hk0
      have gs0 := (EL.block _ (lt_of_block G0)).trans G0
      have gs1 := (EL.block _ (lt_of_block G1)).trans G1
      have q0 := blk_cell gs0 0 (v := .slice a1 s.store.length k1) rfl
      go_wp2_with fail
      refine (all_any a1 s.store.length k1 wr).mono ?_
      rintro e w1 ⟨rfl, hw1⟩
      have EA : Ext wr w1 := by rw [← hw1]; exact (Ext.refl _).alloc _
      have hbx : Boxed w1 wr.heap.size 22 (.slice a1 s.store.length k1) := by rw [← hw1]; exact heap_alloc_new wr _
      clear hw1 q0
      go_wp2_with fail
      refine (collect_any wr.heap.size a1 s.store.length k1 s.store w1 rfl (by rw [LS.out]; decide) hbx (i1.ext (EX.comp EA))).mono ?_
      rintro e w2 ⟨rfl, hm, EB⟩
      obtain ⟨mb, hmb⟩ : ∃ mb, w1.heap.size = mb := ⟨_, rfl⟩
      rw [hmb] at hm ⊢
      have gs2 := ((EA.comp EB).block _ (lt_of_block gs1)).trans gs1
      have EY := EX.comp (EA.comp EB)
      have q0 := blk_cell gs2 0 (v := .slice (some ⟨bb, off, none⟩) t.store.length l1) rfl
      clear gs0 gs1 G0 G1 hbx gw g2 hmb i1
      obtain ⟨i0, hi0, hz0, hz1, hz2⟩ := info_parts Try.infoCh
      go_upto_region 10 with fail
      go_loopw [4, 36] (fun s4 i wz => ∃ m : Nat, m ≤ 128 ∧ i = .int .i64 (m : Int) ∧ Ext w2 wz ∧ wz.ownsRow w2.heap.size 71 3 s4 (changedN s.store t.store m).length (ccs (changedN s.store t.store m))) (fun _ i _ => 128 - (intOf i).toNat)
      case atStart => exact ⟨0, by omega, rfl, Ext.refl _, World.ownsRow_nil _ _ _ _⟩
      case round =>
        obtain ⟨m, hm128, rfl, EM, hown⟩ := hrel
        by_cases hlt : m < 128
        · have hltz : (m : Int) < (t.store.length : Int) := by rw [LT.out]; omega
          have hi : -9223372036854775808 ≤ (m : Int) ∧ (m : Int) ≤ 9223372036854775807 := by omega
          have hc := ((EY.comp EM).cell (p := ⟨bb, off + m, none⟩) hbb).trans (hcb m (by rw [LT.out]; exact hlt))
          have hlk := (hm.ext EM).look false keyI Try.underlying136 (zeroInt wr) ⟨(m : Int), hi⟩
          have hget : (mapN s.store s.store.length ⟨(m : Int), hi⟩).getD (.int .i64 0) = .int .i64 (s.store[m]?.getD 0) := by
            unfold mapN
            rw [if_pos (show 0 ≤ (m : Int) ∧ (m : Int) < (s.store.length : Int) by rw [LS.out]; omega)]
            rfl
          have hsu := changed_succ s.store t.store m
          have hle := changed_le s.store t.store m
          simp only [Bool.false_eq_true, if_false] at hlk
          rw [hget] at hlk
          change (Instr.lookup 136 (.map (some mb)) (.int .i64 (m : Int)) false).run Try.prog wr = _ at hlk
          obtain ⟨x, hx⟩ : ∃ x, s.store[m]?.getD 0 = x := ⟨_, rfl⟩
          obtain ⟨y, hy⟩ : ∃ y, t.store[m]?.getD 0 = y := ⟨_, rfl⟩
          rw [hx] at hlk
          rw [hy] at hc
          rw [hx, hy] at hsu
          clear hget hx hy hcb
          obtain ⟨L, hL⟩ : ∃ L, changedN s.store t.store m = L := ⟨_, rfl⟩
          rw [hL] at hown hsu hle
          have w1' : IntKind.i64.wrap ((m : Int) + 1) = (m : Int) + 1 := IntWalk.i64_in _ (by omega)
          have HSU := Lib.hid hsu
          clear hL hsu
          by_cases hxy : x = y
          · subst hxy
            go_wp2_with fail
            go_roundw
            case rel =>
              refine ⟨m + 1, by omega, by go_num, EM, ?_⟩
              rw [HSU.out, if_pos rfl, List.append_nil]
              exact hown
            case measure => simp [intOf]; omega
          · have hxb : (x != y) = true := by simpa using hxy
            go_upto_region 13 with fail
            have hz := EM.size
            have hfr : From (wr.alloc (.cells #[.int .i64 (m : Int), .int .i64 x, .int .i64 y] 71)) (some ⟨wr.heap.size, 0, none⟩) (cc ⟨(m : Int), x, y⟩) := by
              refine .inr ⟨_, rfl, fun j u hu => ?_⟩
              have hn := heap_alloc_new wr (.cells #[.int .i64 (m : Int), .int .i64 x, .int .i64 y] 71)
              rw [Addr.add_lit]
              simp only [Nat.zero_add]
              exact blk_cell hn j (by rw [← hu]; simp [cc])
            go_wp2_with (at_builtin; refine wpList_app (w0 := w2) rfl _ _ 67 rfl 71 i0 (.agg #[.int .i64 0, .int .i64 0, .int .i64 0]) 3 24 Try.underlying67 hi0 hz0 hz1 hz2 rfl (by decide) _ L.length w2.heap.size (ccs L) rfl (own_extX hown ((Ext.refl wr).alloc _)) (EM.alloc _) (Nat.le_refl _) (by rw [World.size_alloc]; omega) (some ⟨wr.heap.size, 0, none⟩) 1 1 (cc ⟨(m : Int), x, y⟩) rfl rfl hfr (cc_one _) (by unfold maxLen; omega) (by omega) ?_; intro a5 c5 w5 ho5 hE5 _)
            go_roundw
            case rel =>
              refine ⟨m + 1, by omega, by go_num, hE5, ?_⟩
              rw [HSU.out, if_neg hxy, List.length_append, ccs_snoc]
              exact ho5
            case measure => simp [intOf]; omega
        · have hltz : ¬ (m : Int) < (t.store.length : Int) := by rw [LT.out]; omega
          obtain rfl : m = 128 := by omega
          go_wp2_with fail
          refine bodyPost_ret (v := .tuple #[u4, .int .i64 0]) (by simp [results, Try.results39, go_sem]) rfl ?_
          have hs2 := EY.size
          unfold ChRes
          rw [HE.out]
          exact ⟨_, rfl, ownsRow_le hown hs2, EY.comp EM⟩
end Go.Proofs.Ytnhpcoagkmgdoaa
/- Plain: the changes of a store, one by one. -/
namespace Go.Q
theorem putC_snoc (a : List Int) (l : List Chd) (c : Chd) : putC a (l ++ [c]) = (putC a l).set c.addr.toNat c.is_ := by
  unfold putC
  rw [List.foldl_append]
  rfl
theorem putC_len (l : List Chd) : ∀ a : List Int, (putC a l).length = a.length := by
  unfold putC
  induction l with
  | nil => intro a; rfl
  | cons c l ih => intro a; rw [List.foldl_cons, ih, List.length_set]
theorem putC_other (l : List Chd) (p : Nat) (h : ∀ x ∈ l, x.addr.toNat ≠ p) : ∀ a : List Int, (putC a l)[p]? = a[p]? := by
  unfold putC
  induction l with
  | nil => intro a; rfl
  | cons c l ih =>
    intro a
    rw [List.foldl_cons, ih (fun x hx => h x (List.mem_cons_of_mem _ hx)), List.getElem?_set_ne (h c (List.mem_cons_self ..))]
theorem changed_len (a b : List Int) : ∀ n, (changedN a b n).length ≤ n
  | 0 => by simp [changedN]
  | n + 1 => by
    rw [changed_succ, List.length_append]
    have := changed_len a b n
    split <;> simp <;> omega
theorem changed_row {a b : List Int} {i : Nat} {c : Chd} (hc : (changedN a b 128)[i]? = some c) :
    ∃ p : Nat, p < 128 ∧ c.addr = (p : Int) ∧ c.is_ ≠ c.was ∧ (putC a ((changedN a b 128).take i))[p]?.getD 0 = c.was ∧ putC a ((changedN a b 128).take (i + 1)) = (putC a ((changedN a b 128).take i)).set p c.is_ ∧
      ∀ d, 0 < i → (changedN a b 128)[i - 1]? = some d → d.addr < c.addr := by
  have hi : i < (changedN a b 128).length := (List.getElem?_eq_some_iff.1 hc).1
  obtain ⟨p, hp, hne, rfl⟩ := changed_mem.1 (List.mem_of_getElem? hc)
  have hs := changed_sorted a b 128
  rw [List.pairwise_iff_getElem] at hs
  have hlt : ∀ j (hj : j < (changedN a b 128).length), j < i → ((changedN a b 128)[j]).addr < (p : Int) := by
    intro j hj hji
    have := hs j i hj hi hji
    rw [(List.getElem?_eq_some_iff.1 hc).2] at this
    exact this
  refine ⟨p, hp, rfl, fun e => hne e.symm, ?_, ?_, ?_⟩
  · rw [putC_other _ p]
    intro x hx
    obtain ⟨j, hj, rfl⟩ := List.getElem_of_mem hx
    rw [List.length_take] at hj
    rw [List.getElem_take]
    have hj2 : j < (changedN a b 128).length := by omega
    have h1 := hlt j hj2 (by omega)
    obtain ⟨q, hq, _, he⟩ := changed_mem.1 (List.getElem_mem hj2)
    rw [he] at h1 ⊢
    simp only [Int.toNat_natCast]
    have h2 : (q : Int) < (p : Int) := h1
    omega
  · rw [List.take_add_one, hc]
    show putC a (_ ++ [_]) = _
    rw [putC_snoc]
    rfl
  · intro d h0 hd
    have h1 : i - 1 < (changedN a b 128).length := by omega
    have := hlt (i - 1) h1 (by omega)
    rw [(List.getElem?_eq_some_iff.1 hd).2] at this
    exact this
theorem put_all {a b : List Int} (ha : a.length = 128) (hb : b.length = 128) : putC a ((changedN a b 128).take (changedN a b 128).length) = b := by
  rw [List.take_length, put_changes (by omega), List.take_of_length_le (by omega), List.drop_of_length_le (by omega), List.append_nil]
end Go.Q
/- The law DumpChanged. -/
namespace Go.Proofs.Ytnhpcoagkmgdoaa
open Go.RowKit Go.Q Go.Shelf Go.Maps Go.Joins
set_option maxHeartbeats 8000000
set_option maxRecDepth 100000
/-- the changes lie in block g -/
def ChAt (W : World) (g : Nat) (L : List Chd) : Prop := ∀ i c, L[i]? = some c → W.cell? ⟨g, i * 3, none⟩ = some (.int .i64 c.addr) ∧ W.cell? ⟨g, i * 3 + 1, none⟩ = some (.int .i64 c.was) ∧ W.cell? ⟨g, i * 3 + 2, none⟩ = some (.int .i64 c.is_)
theorem ccs_at : ∀ (L : List Chd) (i : Nat) (c : Chd), L[i]? = some c → (ccs L)[i * 3]? = some (.int .i64 c.addr) ∧ (ccs L)[i * 3 + 1]? = some (.int .i64 c.was) ∧ (ccs L)[i * 3 + 2]? = some (.int .i64 c.is_)
  | [], i, c, h => by simp at h
  | x :: l, 0, c, h => by
    obtain rfl : x = c := by simpa using h
    exact ⟨rfl, rfl, rfl⟩
  | x :: l, i + 1, c, h => by
    have ih := ccs_at l i c (by simpa using h)
    rw [show (i + 1) * 3 = i * 3 + 3 by omega]
    exact ih
theorem ch_row {W : World} {B : Nat} {v : Value} {L : List Chd} (h : W.ownsRow B 71 3 v L.length (ccs L)) :
    ∃ ra rc, v = .slice ra L.length rc ∧ (L = [] ∨ ∃ g, ra = some ⟨g, 0, none⟩ ∧ g < W.heap.size ∧ ChAt W g L) := by
  obtain ⟨-, ⟨rfl, h0⟩ | ⟨g, cap, cur, rfl, hbg, hg, hnc, hcm, hcs, htake⟩⟩ := h
  · exact ⟨none, 0, by rw [h0], .inl (List.length_eq_zero_iff.1 h0)⟩
  · refine ⟨some ⟨g, 0, none⟩, cap, rfl, .inr ⟨g, rfl, lt_of_block hg, fun i c hc => ?_⟩⟩
    have hi : i < L.length := (List.getElem?_eq_some_iff.1 hc).1
    obtain ⟨h1, h2, h3⟩ := ccs_at L i c hc
    have key : ∀ (j : Nat) (u : Value), j < L.length * 3 → (ccs L)[j]? = some u → W.cell? ⟨g, j, none⟩ = some u := by
      intro j u hj hu
      rw [← htake, List.getElem?_take_of_lt hj] at hu
      exact blk_cell hg j (by simpa using hu)
    exact ⟨key _ _ (by omega) h1, key _ _ (by omega) h2, key _ _ (by omega) h3⟩
theorem ChAt.at_ext {W Y : World} {g : Nat} {L : List Chd} (h : ChAt W g L) (hg : g < W.heap.size) (E : Ext W Y) : ChAt Y g L := fun i c hc => by
  obtain ⟨h1, h2, h3⟩ := h i c hc
  exact ⟨(E.cell (p := ⟨g, _, none⟩) hg).trans h1, (E.cell (p := ⟨g, _, none⟩) hg).trans h2, (E.cell (p := ⟨g, _, none⟩) hg).trans h3⟩
theorem ChAt.ext {W Y : World} {g : Nat} {L : List Chd} (h : ChAt W g L) (E : Ext W Y) : ChAt Y g L := fun i c hc => by
  have hg : g < W.heap.size := by
    have h1 := (h i c hc).1
    rcases Nat.lt_or_ge g W.heap.size with hl | hl
    · exact hl
    · simp [World.cell?, Array.getElem?_eq_none hl] at h1
  exact h.at_ext hg E i c hc
theorem chd_ways (s : St) (hb : StBd s) {m : Nat} (hm : m ≤ 5000) : ∃ t er L, runE s (m : Int) = (t, er) ∧ StBd t ∧ changesE s t = (L, er) ∧
    ((er ≠ 0 ∧ L = []) ∨ (er = 0 ∧ s.store.length = 128 ∧ t.store.length = 128 ∧ L = changedN s.store t.store 128 ∧ changesE t t = ([], 0))) := by
  rcases run_small s hm with ⟨hc, hr, _⟩ | ⟨hv, _, hr, _⟩
  · exact ⟨zst, _, [], hr, by unfold zst; exact ⟨by simp, by simp, by simp⟩, by unfold changesE; rw [if_pos hc], .inl ⟨hc, rfl⟩⟩
  · have ht := runQ_valid m hv
    have c1 := congrArg (·.2.2) (check_of_valid hv)
    have c2 := congrArg (·.2.2) (check_of_valid ht)
    dsimp only at c1 c2
    refine ⟨runQ m s, 0, _, hr, valid_bd ht, ?_, .inr ⟨rfl, hv.len, ht.len, rfl, ?_⟩⟩
    · unfold changesE
      rw [if_neg (by rw [c1]; simp), if_neg (by rw [c2]; simp)]
    · unfold changesE
      rw [if_neg (by rw [c2]; simp), if_neg (by rw [c2]; simp), changed_self]
theorem dumpChanged_any (haw : AwakeT) (v : Value) (s : St) (m : Nat) (w : World) (hS : StAt w v s) (hb : StBd s) (hm : m < 256) :
    Calls Try.prog 14 #[v, .int .u8 (m : Int)] w fun e w' => e = .returned (.bool true) ∧ Ext w w' := by
  obtain ⟨a1, a2, a3, k1, k2, k3, rfl, i1, i2, i3⟩ := hS
  have HS := Lib.hid (fun Y (E : Ext w Y) => show StAt Y (sv a1 a2 a3 s.store.length k1 s.tape.length k2 s.printed.length k3 s.taken s.time s.at_ s.done s.why) s from (show StAt w _ s from ⟨a1, a2, a3, k1, k2, k3, rfl, i1, i2, i3⟩).ext E)
  clear i2 i3
  have g3 := heap_alloc_new w (.cells #[.slice a1 s.store.length k1, .slice a2 s.tape.length k2, .int .i64 s.taken, .slice a3 s.printed.length k3, .int .i64 s.time, .int .i64 s.at_, .int .i64 s.done, .int .i64 s.why] 33)
  have E0 : Ext w (w.alloc (.cells #[.slice a1 s.store.length k1, .slice a2 s.tape.length k2, .int .i64 s.taken, .slice a3 s.printed.length k3, .int .i64 s.time, .int .i64 s.at_, .int .i64 s.done, .int .i64 s.why] 33)) := (Ext.refl w).alloc _
  have v0 : IntKind.i64.wrap (m : Int) = (m : Int) := IntWalk.i64_in _ (by omega)
  have HG3 := Lib.hid (fun Y E => ((show Ext (w.alloc (.cells #[.slice a1 s.store.length k1, .slice a2 s.tape.length k2, .int .i64 s.taken, .slice a3 s.printed.length k3, .int .i64 s.time, .int .i64 s.at_, .int .i64 s.done, .int .i64 s.why] 33)) Y from E).block w.heap.size (lt_of_block g3)).trans g3)
  obtain ⟨t, er, L, hr, hbt, hce, hways⟩ := chd_ways s hb (m := m) (by omega)
  have hrn := fun W (E : Ext w W) => runE_any _ s (m : Int) W (HS.out W E) hb
  rw [hr] at hrn
  have HB := Lib.hid hb
  have HBT := Lib.hid hbt
  have HCE := Lib.hid hce
  have HW := Lib.hid hways
  have hch := fun (W : World) (v2 : Value) (E : Ext w W) (hT : StAt W v2 t) => changes_any _ v2 s t W (HS.out W E) hT HB.out HBT.out
  have hch2 := fun (W : World) (v2 : Value) (hT : StAt W v2 t) => changes_any v2 v2 t t W hT hT HBT.out HBT.out
  unfold ChRes at hch hch2
  rw [hce] at hch
  dsimp only at hch
  clear hr hb hbt hce hways
  go_enter Try.func14, Try.ntmps14
  have q0 := blk_cell g3 0 (v := .slice a1 s.store.length k1) rfl
  have q1 := blk_cell g3 1 (v := .slice a2 s.tape.length k2) rfl
  have q2 := blk_cell g3 2 (v := .int .i64 s.taken) rfl
  have q3 := blk_cell g3 3 (v := .slice a3 s.printed.length k3) rfl
  have q4 := blk_cell g3 4 (v := .int .i64 s.time) rfl
  have q5 := blk_cell g3 5 (v := .int .i64 s.at_) rfl
  have q6 := blk_cell g3 6 (v := .int .i64 s.done) rfl
  have q7 := blk_cell g3 7 (v := .int .i64 s.why) rfl
  go_wp2_with fail
  refine (hrn _ E0).mono ?_
  rintro e w1 ⟨v', rfl, ⟨b1, b2, b3, l1, l2, l3, rfl, j1, j2, j3⟩, E1⟩
  dsimp only at j1 j2 j3 ⊢
  clear q0 q1 q2 q3 q4 q5 q6 q7 hrn g3
  have gt := heap_alloc_new w1 (.cells #[.slice b1 t.store.length l1, .slice b2 t.tape.length l2, .int .i64 t.taken, .slice b3 t.printed.length l3, .int .i64 t.time, .int .i64 t.at_, .int .i64 t.done, .int .i64 t.why] 33)
  have ET := (Ext.refl w1).alloc (.cells #[.slice b1 t.store.length l1, .slice b2 t.tape.length l2, .int .i64 t.taken, .slice b3 t.printed.length l3, .int .i64 t.time, .int .i64 t.at_, .int .i64 t.done, .int .i64 t.why] 33)
  have HT := Lib.hid (show StAt w1 (sv b1 b2 b3 t.store.length l1 t.tape.length l2 t.printed.length l3 t.taken t.time t.at_ t.done t.why) t from ⟨b1, b2, b3, l1, l2, l3, rfl, j1, j2, j3⟩)
  clear j2 j3
  go_upto_region 2 with fail
  obtain ⟨X1, hX1⟩ : ∃ X1, w1.alloc (.cells #[.slice b1 t.store.length l1, .slice b2 t.tape.length l2, .int .i64 t.taken, .slice b3 t.printed.length l3, .int .i64 t.time, .int .i64 t.at_, .int .i64 t.done, .int .i64 t.why] 33) = X1 := ⟨_, rfl⟩
  rw [hX1] at gt ET ⊢
  obtain ⟨tb, htb⟩ : ∃ tb, w1.heap.size = tb := ⟨_, rfl⟩
  rw [htb] at gt ⊢
  clear hX1 htb
  have g3 := HG3.out X1 (E1.comp ET)
  have E2 := E0.comp (E1.comp ET)
  have q0 := blk_cell g3 0 (v := .slice a1 s.store.length k1) rfl
  have q1 := blk_cell g3 1 (v := .slice a2 s.tape.length k2) rfl
  have q2 := blk_cell g3 2 (v := .int .i64 s.taken) rfl
  have q3 := blk_cell g3 3 (v := .slice a3 s.printed.length k3) rfl
  have q4 := blk_cell g3 4 (v := .int .i64 s.time) rfl
  have q5 := blk_cell g3 5 (v := .int .i64 s.at_) rfl
  have q6 := blk_cell g3 6 (v := .int .i64 s.done) rfl
  have q7 := blk_cell g3 7 (v := .int .i64 s.why) rfl
  have r0 := blk_cell gt 0 (v := .slice b1 t.store.length l1) rfl
  have r1 := blk_cell gt 1 (v := .slice b2 t.tape.length l2) rfl
  have r2 := blk_cell gt 2 (v := .int .i64 t.taken) rfl
  have r3 := blk_cell gt 3 (v := .slice b3 t.printed.length l3) rfl
  have r4 := blk_cell gt 4 (v := .int .i64 t.time) rfl
  have r5 := blk_cell gt 5 (v := .int .i64 t.at_) rfl
  have r6 := blk_cell gt 6 (v := .int .i64 t.done) rfl
  have r7 := blk_cell gt 7 (v := .int .i64 t.why) rfl
  go_wp2_with fail
  refine (hch X1 _ E2 (HT.out.ext ET)).mono ?_
  rintro e X2 ⟨v', rfl, hown, EC⟩
  obtain ⟨ra, rc, rfl, hrow⟩ := ch_row hown
  clear hown q0 q1 q2 q3 q4 q5 q6 q7 r0 r1 r2 r3 r4 r5 r6 r7
  have E3 := E2.comp EC
  have gt2 := (EC.block tb (lt_of_block gt)).trans gt
  rcases HW.out with ⟨hne, rfl⟩ | ⟨rfl, ls, lt, hL, hc2⟩
  · have e1 : (er != 0) = true := by simpa using hne
    clear hne hrow
    go_wp2_with fail
    refine (haw _).mono ?_
    rintro e X6 ⟨rfl, E6⟩
    go_wp2_with fail
    go_ret
    exact ⟨rfl, E3.comp E6⟩
  · rw [hc2] at hch2
    dsimp only at hch2
    have LS := Lib.hid ls
    have LT := Lib.hid lt
    have HL := Lib.hid hL
    have hle : L.length ≤ 128 := by rw [hL]; exact changed_len _ _ _
    have hlen0 : 0 < s.store.length := by omega
    clear ls lt hL hc2
    have HLE := Lib.hid hle
    have r0 := blk_cell gt2 0 (v := .slice b1 t.store.length l1) rfl
    have r1 := blk_cell gt2 1 (v := .slice b2 t.tape.length l2) rfl
    have r2 := blk_cell gt2 2 (v := .int .i64 t.taken) rfl
    have r3 := blk_cell gt2 3 (v := .slice b3 t.printed.length l3) rfl
    have r4 := blk_cell gt2 4 (v := .int .i64 t.time) rfl
    have r5 := blk_cell gt2 5 (v := .int .i64 t.at_) rfl
    have r6 := blk_cell gt2 6 (v := .int .i64 t.done) rfl
    have r7 := blk_cell gt2 7 (v := .int .i64 t.why) rfl
    go_wp2_with fail
    refine (hch2 X2 _ (HT.out.ext (ET.comp EC))).mono ?_
    rintro e X3 ⟨v', rfl, hown2, EC2⟩
    obtain ⟨ra2, rc2, rfl, -⟩ := ch_row hown2
    clear hown2 r0 r1 r2 r3 r4 r5 r6 r7
    have E4 := E3.comp EC2
    have g34 := HG3.out X3 (E1.comp (ET.comp (EC.comp EC2)))
    have g35 := (((Ext.refl X3).alloc (.cells #[] 3)).block w.heap.size (lt_of_block g34)).trans g34
    have q0 := blk_cell g35 0 (v := .slice a1 s.store.length k1) rfl
    obtain ⟨i0, hi0, hz0, hz1, hz2⟩ := info_parts Try.infoE
    have hfr : From (X3.alloc (.cells #[] 3)) a1 (iv s.store) := from_ints (i1.ext (E4.alloc _))
    go_upto_region 8 with fail
    go_upto_region 9 with (at_builtin; refine wpList_app (w0 := X3) rfl _ _ 22 rfl 3 i0 (.int .i64 0) 1 8 Try.underlying22 hi0 hz0 hz1 hz2 rfl (by decide) _ 0 X3.heap.size [] rfl (own_empty (Ext.refl _)) ((Ext.refl X3).alloc _) (Nat.le_refl _) (by simp) a1 s.store.length k1 (iv s.store) rfl (by rw [iv_length, Nat.mul_one]) hfr (iv_one _) (by rw [LS.out]; unfold maxLen; decide) (by rw [LS.out]; decide) ?_; intro a5 c5 W5 ho5 hE5 _)
    rw [Nat.zero_add, List.nil_append] at ho5
    (try rw [Nat.zero_add])
    obtain ⟨g5, c5', hg5⟩ := ownsRow_form ho5 hlen0
    obtain ⟨rfl, -, rfl⟩ := Value.slice.inj hg5
    have hg5l := ho5.lt g5 rfl
    have gt3 := (EC2.block tb (lt_of_block gt2)).trans gt2
    have hrw : L = [] ∨ ∃ g, ra = some ⟨g, 0, none⟩ ∧ ChAt X3 g L := hrow.imp id fun ⟨g, h1, h2, h3⟩ => ⟨g, h1, h3.at_ext h2 EC2⟩
    have HRW := Lib.hid hrw
    have hJ3 := j1.ext (ET.comp (EC.comp EC2))
    clear hg5 q0 hfr g34 g35 gt2 gt hrow hrw hch hch2 g3 HG3 HCE HB HBT HS HW HT hle v0 i1 j1 hi0 hz0 hz1 hz2
    go_wp2_with fail
    go_loopw [12] (fun i wr => ∃ kk : Nat, kk ≤ L.length ∧ i = .int .i64 (kk : Int) ∧ KpM (fun q => q = g5) W5 wr ∧ wr.ownsRow X3.heap.size 3 1 (.slice (some ⟨g5, 0, none⟩) s.store.length c5) s.store.length (iv (putC s.store (L.take kk)))) (fun i _ => L.length - (intOf i).toNat)
    case atStart => exact ⟨0, by omega, rfl, KpM.refl _ _, by rw [List.take_zero]; exact ho5⟩
    case round =>
      obtain ⟨kk, hkk, rfl, hK, hown⟩ := hrel
      have EW : Ext X3 wr := hE5.below5 hK (fun b e => by omega)
      by_cases hlt : kk < L.length
      · have hltz : (kk : Int) < (L.length : Int) := by omega
        obtain ⟨⟨ad, wa, iz⟩, hc⟩ : ∃ c, L[kk]? = some c := ⟨_, List.getElem?_eq_getElem hlt⟩
        obtain ⟨p, hp, hcp, hne, hwas, hput, hprev⟩ := changed_row (by rw [← HL.out]; exact hc)
        rw [← HL.out] at hwas hput hprev
        dsimp only at hcp hne hwas hput hprev
        subst hcp
        obtain ⟨g, rfl, hat⟩ : ∃ g, ra = some ⟨g, 0, none⟩ ∧ ChAt X3 g L := by
          rcases HRW.out with h | h
          · rw [h] at hlt; simp at hlt
          · exact h
        obtain ⟨h1, h2, h3⟩ := hat.ext EW kk _ hc
        dsimp only at h1 h2 h3
        have cs := own_cellI hown p (by rw [putC_len, LS.out]; exact hp)
        rw [hwas] at cs
        have ff := hown.frozenAt p
        have n1 : ¬ (p : Int) < 0 := by omega
        have n1b : decide ((p : Int) < 0) = false := decide_eq_false n1
        have n2 : ¬ (s.store.length : Int) ≤ (p : Int) := by rw [LS.out]; omega
        have n2b : decide ((s.store.length : Int) ≤ (p : Int)) = false := decide_eq_false n2
        have n2n : ¬ s.store.length ≤ p := by rw [LS.out]; omega
        have n2c : decide (s.store.length ≤ p) = false := decide_eq_false n2n
        have p0 : (0 : Int) ≤ (p : Int) := by omega
        have p1 : (p : Int) < (s.store.length : Int) := by rw [LS.out]; omega
        have e2 : (iz == wa) = false := by simpa using hne
        have wk : IntKind.i64.wrap ((kk : Int) + 1) = (kk : Int) + 1 := IntWalk.i64_in _ (by have := HLE.out; omega)
        rcases Nat.eq_zero_or_pos kk with rfl | hpos
        · clear hprev hwas
          (try simp only [Nat.zero_mul, Nat.zero_add] at h1 h2 h3)
          go_upto_region 13 with fail
          go_quiet (fail)
          have EQ : Ext wr (wr.drewN nq) := ext_drewN (Ext.refl wr) nq
          obtain ⟨wq, hwq⟩ : ∃ wq, wr.drewN nq = wq := ⟨_, rfl⟩
          rw [hwq] at EQ ⊢
          clear hwq h1 h2 h3 cs ff
          obtain ⟨-, -, h3⟩ := hat.ext (EW.comp EQ) 0 _ hc
          dsimp only at h3
          (try simp only [Nat.zero_mul, Nat.zero_add] at h3)
          have hownq := own_extX hown EQ
          have ff := hownq.frozenAt p
          have cs := own_cellI hownq p (by rw [putC_len, LS.out]; exact hp)
          have KQ : KpM (fun q => q = g5) wr (wq.setCell ⟨g5, p, none⟩ (.int .i64 iz)) := (KpM.of_ext EQ).trans (kpm_set wq g5 p (.int .i64 iz) rfl)
          have hset := own_setI hownq p iz
          go_wp2_with fail
          go_roundw
          case rel => exact ⟨0 + 1, by omega, by go_num, hK.trans KQ, by rw [hput]; exact hset⟩
          case measure => simp [intOf]; omega
        · obtain ⟨j, hj⟩ : ∃ j, kk - 1 = j := ⟨_, rfl⟩
          obtain ⟨⟨dz, d2, d3⟩, hd⟩ : ∃ d, L[kk - 1]? = some d := ⟨_, List.getElem?_eq_getElem (by omega)⟩
          have hdlt := hprev _ hpos hd
          dsimp only at hdlt
          rw [hj] at hd
          obtain ⟨e1, -, -⟩ := hat.ext EW j _ hd
          dsimp only at e1
          have wj : IntKind.i64.wrap ((kk : Int) - 1) = (j : Int) := by rw [show (kk : Int) - 1 = (j : Int) by omega]; exact IntWalk.i64_in _ (by have := HLE.out; omega)
          have j0 : (0 : Int) ≤ (j : Int) := by omega
          have j1 : (j : Int) < (L.length : Int) := by omega
          have k0 : (0 : Int) < (kk : Int) := by omega
          have k0b : decide ((0 : Int) < (kk : Int)) = true := decide_eq_true k0
          have k0n : decide (0 < kk) = true := decide_eq_true hpos
          have d1 : ¬ (p : Int) ≤ dz := by omega
          have d1b : decide ((p : Int) ≤ dz) = false := decide_eq_false d1
          clear hprev hwas hdlt hj
          go_upto_region 13 with fail
          go_quiet (fail)
          have EQ : Ext wr (wr.drewN nq) := ext_drewN (Ext.refl wr) nq
          obtain ⟨wq, hwq⟩ : ∃ wq, wr.drewN nq = wq := ⟨_, rfl⟩
          rw [hwq] at EQ ⊢
          clear hwq h1 h2 h3 cs ff e1
          obtain ⟨-, -, h3⟩ := hat.ext (EW.comp EQ) kk _ hc
          dsimp only at h3
          have hownq := own_extX hown EQ
          have ff := hownq.frozenAt p
          have cs := own_cellI hownq p (by rw [putC_len, LS.out]; exact hp)
          have KQ : KpM (fun q => q = g5) wr (wq.setCell ⟨g5, p, none⟩ (.int .i64 iz)) := (KpM.of_ext EQ).trans (kpm_set wq g5 p (.int .i64 iz) rfl)
          have hset := own_setI hownq p iz
          go_wp2_with fail
          go_roundw
          case rel => exact ⟨kk + 1, by omega, by go_num, hK.trans KQ, by rw [hput]; exact hset⟩
          case measure => simp [intOf]; omega
      · have hltz : ¬ (kk : Int) < (L.length : Int) := by omega
        obtain rfl : kk = L.length := by omega
        have hfin : putC s.store (L.take L.length) = t.store := by rw [HL.out]; exact put_all LS.out LT.out
        rw [hfin] at hown
        have hI := own_ints hown
        have hJ := hJ3.ext EW
        have gtr := (EW.block tb (lt_of_block gt3)).trans gt3
        have r0 := blk_cell gtr 0 (v := .slice b1 t.store.length l1) rfl
        clear hfin
        go_wp2_with fail
        refine (ints_any _ b1 _ _ _ _ t.store t.store wr (by rw [LT.out, LS.out]) rfl (by rw [LS.out]; decide) (by rw [LT.out]; decide) hI hJ).mono ?_
        rintro e w7 ⟨rfl, E7⟩
        rw [decide_eq_true (rfl : t.store = t.store)]
        clear r0
        go_wp2_with fail
        refine (haw _).mono ?_
        rintro e w8 ⟨rfl, E8⟩
        go_wp2_with fail
        go_ret
        exact ⟨rfl, (E4.comp EW).comp (E7.comp E8)⟩
end Go.Proofs.Ytnhpcoagkmgdoaa
/- The statement DumpChanged: the row, from the contract of the law's function. -/
namespace Go.Proofs.Ytnhpcoagkmgdoaa.dumpChanged
open Go.ChangeShapes Go.WideShapes Go.ChangeAt Go.RowKit Go.Joins Go.Deep Go.Q
set_option linter.unusedVariables false
set_option maxRecDepth 100000 in
theorem lifted (os : Os) (started : os.Started) (H : Type) (enc : TypeId × Value → H) :
    ReturnsInHanded {} Try.checked os 14 .any (Rows.dumpChangedSpec.pre6 enc Try.prog Try.f14 Rows.dumpChangedRow.domain false) (Rows.dumpChangedSpec.post enc Try.prog Try.f14 false true false false) := by
  refine returnsInHanded_of_change (C := Try.checked) rowOwn started (by kernel_rfl) Try.func14
    (ChangeSpec.witness6 (enc := enc) (C := Try.checked) false ⟨#[], #[.agg #[.slice none 0 0, .slice none 0 0, .int .i64 0, .slice none 0 0, .int .i64 0, .int .i64 0, .int .i64 0, .int .i64 0], .int .u8 0], []⟩ 8 (by kernel_rfl) (by kernel_rfl) (by kernel_rfl) (by kernel_rfl)) ?_
  intro W base args ds gs before hval0 hW hcnd _
  have hval : ∀ (j : Nat) t v, Try.f14.params[j]? = some t → args[j]? = some v → Value.okWide Try.prog W .any base t v := hval0
  have hW' := hW
  obtain ⟨p, q, hA0, hV, rfl, hfz, hnd⟩ := hW
  have hA : DataW.TrodAll enc Try.prog W 0 (fun _ => true) true Try.f14.params.toList args.toList ds p := hA0
  rw [Try.params14] at hA hval
  obtain ⟨v0, vs0, d0, ds0, p0, q0, hargs, rfl, rfl, h0, r0⟩ := trodAll_cons hA
  obtain ⟨v1, vs1, d1, ds1, p1, q1, rfl, rfl, rfl, h1, r1⟩ := trodAll_cons r0
  obtain ⟨rfl, rfl, rfl⟩ := trodAll_nil r1
  obtain rfl : args = #[v0, v1] := by cases args; simp_all
  obtain ⟨rfl, rfl⟩ := trodVars_none hV
  have k0 := h0
  have lt0 : ∀ x ∈ p0, x.block < W.heap.size := by obtain ⟨m, hm⟩ := k0; exact DataW.trod_lt m _ _ _ hm
  obtain ⟨s0, A0, B0⟩ := state_of_trod (hval 0 33 v0 rfl rfl) h0
  obtain ⟨u1, rfl, rfl, rfl, w1⟩ := open_int Try.underlying5 (hval 1 5 v1 rfl rfl) h1
  have bu1 := u8_bd w1
  obtain ⟨m1, rfl⟩ := Int.eq_ofNat_of_zero_le bu1.1
  have B1 : m1 < 256 := by omega
  clear hA0 hval0
  refine (dumpChanged_any awakeT _ s0 m1 W A0 B0 B1).mono fun e W' ⟨he, bel⟩ => ?_
  subst he
  exact ⟨_, rfl, _, _, _, [], _, [], hW', trodAll_mk1 (shut_bool Try.underlying4 _), (trodAll_cons_mk (Below.trod rowLaid (by kernel_rfl) (of_decide_eq_true (by kernel_rfl)) k0 bel lt0) (trodAll_cons_mk (shut_int Try.underlying5 w1) trodAll_mk0)), rfl, bel.frame _, fun h => by cases h⟩
theorem closed : joinedFacts Try.pinned.checked.prog 14 Try.f14 Rows.dumpChangedSpec Rows.dumpChangedRow = true := by
  have hm : (Try.pinned.checked.prog.make == some Rows.dumpChangedRow.make) = true := factMake
  unfold joinedFacts
  rw [factEnter, factLifted, hm]
  exact of_decide_eq_true (by kernel_rfl)
theorem over : Rows.dumpChangedRow.holds Try.pinned (OpenSpec.ofChange Rows.dumpChangedSpec) :=
  OpenClaim.holds_of_wide 14 Try.f14 rfl rfl rfl rfl rfl rfl rfl ⟨rfl, rfl, rfl, rfl, rfl⟩ rfl rfl rfl rfl rfl (by kernel_rfl) Try.func14 closed
    (of_decide_eq_true (by kernel_rfl)) (by unfold Func.isWrapper; first | (rw [if_pos (by decide +kernel)]; kernel_rfl) | (rw [if_neg (by decide +kernel)]; exact ⟨rfl, rfl⟩))
    (fun os started H enc _ => lifted os started H enc)
theorem proved : Rows.DumpChangedSaid := over
#print axioms proved
end Go.Proofs.Ytnhpcoagkmgdoaa.dumpChanged

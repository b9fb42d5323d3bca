import Derived.Deep.MidRow
import Derived.Test.YtjfggepgjpdebaaM12
import Derived.Test.YtjfggepgjpdebaaM1
import Derived.Test.YtjfggepgjpdebaaM16
import Derived.Test.YtjfggepgjpdebaaM17
set_option linter.unusedVariables false
set_option linter.unusedSimpArgs false
/- Contract: pulse.Order, where it succeeds. -/
namespace Go.Proofs.Ytjfggepgjpdebaa
open Go.RowKit Go.Q
/-- the minor cycle at which the order that is to be taken comes by -/
def timeP (s : Pu) : Int := (s.clock + (s.at_ - s.clock) % 16)
/-- what Order returns -/
def orderQ (s : Pu) : St := ⟨s.store, s.tape, s.taken, s.printed, timeP s, s.at_, s.done, s.why⟩
def orderE (s : Pu) : St × Int := if (checkP s).2.2 ≠ 0 then (zst, (checkP s).2.2) else if s.phase ≠ 0 ∨ 1000000000 < timeP s then (zst, 9) else (orderQ s, 0)
theorem order_keep {w W : World} {a1 a2 a3 : Option Addr} {n2 n3 k1 k2 k3 : Nat} {s : Pu} (E : Ext (w.alloc (.cells #[.slice a1 128 k1, .slice a2 n2 k2, .int .i64 s.taken, .slice a3 n3 k3, .int .i64 s.clock, .int .i64 s.at_, .int .i64 0, .int .i64 s.order, .int .i64 s.operand, .int .i64 s.other, .int .i64 s.product, .int .i64 s.count, .int .i64 s.done, .int .i64 s.why] 41)) W) : Ext (w.alloc (.cells #[.slice a1 128 k1, .slice a2 n2 k2, .int .i64 s.taken, .slice a3 n3 k3, .int .i64 s.clock, .int .i64 s.at_, .int .i64 0, .int .i64 s.order, .int .i64 s.operand, .int .i64 s.other, .int .i64 s.product, .int .i64 s.count, .int .i64 s.done, .int .i64 s.why] 41)) W ∧ W.cell? ⟨w.heap.size, 0, none⟩ = some (.slice a1 128 k1) ∧ W.cell? ⟨w.heap.size, 1, none⟩ = some (.slice a2 n2 k2) ∧ W.cell? ⟨w.heap.size, 2, none⟩ = some (.int .i64 s.taken) ∧ W.cell? ⟨w.heap.size, 3, none⟩ = some (.slice a3 n3 k3) ∧ W.cell? ⟨w.heap.size, 4, none⟩ = some (.int .i64 s.clock) ∧ W.cell? ⟨w.heap.size, 5, none⟩ = some (.int .i64 s.at_) ∧ W.cell? ⟨w.heap.size, 6, none⟩ = some (.int .i64 0) ∧ W.cell? ⟨w.heap.size, 7, none⟩ = some (.int .i64 s.order) ∧ W.cell? ⟨w.heap.size, 8, none⟩ = some (.int .i64 s.operand) ∧ W.cell? ⟨w.heap.size, 9, none⟩ = some (.int .i64 s.other) ∧ W.cell? ⟨w.heap.size, 10, none⟩ = some (.int .i64 s.product) ∧ W.cell? ⟨w.heap.size, 11, none⟩ = some (.int .i64 s.count) ∧ W.cell? ⟨w.heap.size, 12, none⟩ = some (.int .i64 s.done) ∧ W.cell? ⟨w.heap.size, 13, none⟩ = some (.int .i64 s.why) :=
  ⟨E, box_at E 0 rfl, box_at E 1 rfl, box_at E 2 rfl, box_at E 3 rfl, box_at E 4 rfl, box_at E 5 rfl, box_at E 6 rfl, box_at E 7 rfl, box_at E 8 rfl, box_at E 9 rfl, box_at E 10 rfl, box_at E 11 rfl, box_at E 12 rfl, box_at E 13 rfl⟩
theorem row_fin8 {wk W : World} {nb n c b : Nat} {a : Option Addr} {ys : List Int} (ho : wk.ownsRow nb 3 1 (.slice a n c) n (iv ys)) (E : Ext wk W) (hn : b < nb) (x0 x1 x2 x3 x4 x5 x6 x7 : Value) : IntsAt ((((((((W.setCell ⟨b, 0, none⟩ x0).setCell ⟨b, 1, none⟩ x1).setCell ⟨b, 2, none⟩ x2).setCell ⟨b, 3, none⟩ x3).setCell ⟨b, 4, none⟩ x4).setCell ⟨b, 5, none⟩ x5).setCell ⟨b, 6, none⟩ x6).setCell ⟨b, 7, none⟩ x7) a ys := by
  refine own_ints (nb := nb) (t := 3) (n := n) (c := c) (own_later ho (fun k hk => ?_))
  have := own_at ho hk
  exact (other8 W b k (by omega) _ _ _ _ _ _ _ _).trans (E.block k this.2)
theorem order_fin {w ws wt wp W : World} {aas aat aap : Option Addr} {n2 n3 ccs cct ccp ns nt np : Nat} {s : Pu} {tm : Int} (htm : timeP s = tm) (hos : ws.ownsRow ns 3 1 (.slice aas 128 ccs) 128 (iv s.store)) (hot : wt.ownsRow nt 3 1 (.slice aat n2 cct) n2 (iv s.tape)) (hop : wp.ownsRow np 3 1 (.slice aap n3 ccp) n3 (iv s.printed))
    (hl : s.store.length = 128 ∧ s.tape.length = n2 ∧ s.printed.length = n3) (es : Ext ws W) (et : Ext wt W) (ep : Ext wp W) (hW : Ext w W) (ls : w.heap.size + 1 < ns) (lt : w.heap.size + 1 < nt) (lp : w.heap.size + 1 < np) :
    StRes (orderQ s, 0) w (.returned (.tuple #[.agg #[.slice aas 128 ccs, .slice aat n2 cct, .int .i64 s.taken, .slice aap n3 ccp, .int .i64 tm, .int .i64 s.at_, .int .i64 s.done, .int .i64 s.why], .int .i64 0])) ((((((((W.setCell ⟨w.heap.size + 1, 0, none⟩ (.slice aas 128 ccs)).setCell ⟨w.heap.size + 1, 1, none⟩ (.slice aat n2 cct)).setCell ⟨w.heap.size + 1, 2, none⟩ (.int .i64 s.taken)).setCell ⟨w.heap.size + 1, 3, none⟩ (.slice aap n3 ccp)).setCell ⟨w.heap.size + 1, 4, none⟩ (.int .i64 tm)).setCell ⟨w.heap.size + 1, 5, none⟩ (.int .i64 s.at_)).setCell ⟨w.heap.size + 1, 6, none⟩ (.int .i64 s.done)).setCell ⟨w.heap.size + 1, 7, none⟩ (.int .i64 s.why)) := by
  obtain ⟨l1, rfl, rfl⟩ := hl
  subst htm
  refine ⟨_, rfl, ⟨aas, aat, aap, ccs, cct, ccp, ?_, row_fin8 hos es ls _ _ _ _ _ _ _ _, row_fin8 hot et lt _ _ _ _ _ _ _ _, row_fin8 hop ep lp _ _ _ _ _ _ _ _⟩, ext_set8 hW (Nat.le_succ _) _ _ _ _ _ _ _ _⟩
  show _ = sv aas aat aap s.store.length ccs s.tape.length cct s.printed.length ccp s.taken (timeP s) s.at_ s.done s.why
  rw [l1]
set_option maxRecDepth 100000 in
set_option maxHeartbeats 8000000 in
theorem order_good (a1 a2 a3 : Option Addr) (n2 n3 k1 k2 k3 : Nat) (s : Pu) (w : World) (hv : ValidP s) (hb : PuBd s) (l2 : s.tape.length = n2) (l3 : s.printed.length = n3)
    (i1 : IntsAt w a1 s.store) (i2 : IntsAt w a2 s.tape) (i3 : IntsAt w a3 s.printed) (hz : checkP s = (0, 0, 0)) (hp : s.phase = 0) (ht : timeP s ≤ 1000000000) :
    Calls Try.prog 49 #[psv a1 a2 a3 128 k1 n2 k2 n3 k3 s] w (StRes (orderQ s, 0) w) := by
  have hc := fun W (E : Ext w W) => pcheck_any (psv a1 a2 a3 128 k1 n2 k2 n3 k3 s) s W ⟨a1, a2, a3, k1, k2, k3, by rw [hv.len, l2, l3], i1.ext E, i2.ext E, i3.ext E⟩ hb
  rw [hz] at hc
  unfold v3 at hc
  have hf1 := fun W (E : Ext w W) => fresh_any a1 128 k1 s.store W hv.len (by decide) (i1.ext E)
  have hf2 := fun W (E : Ext w W) => fresh_any a2 n2 k2 s.tape W l2 (by have := hv.tlen; omega) (i2.ext E)
  have hf3 := fun W (E : Ext w W) => fresh_any a3 n3 k3 s.printed W l3 (by have := hv.plen; omega) (i3.ext E)
  have Hl := Lib.hid (And.intro hv.len (And.intro l2 l3))
  obtain ⟨cl0, cl1⟩ := hv.clock
  obtain ⟨at0, at1⟩ := hv.at_
  have htm : timeP s = s.clock + (s.at_ - s.clock) % 16 := rfl
  rw [htm] at ht
  clear i1 i2 i3 l2 l3 hz hb hv htm
  rw [show psv a1 a2 a3 128 k1 n2 k2 n3 k3 s = .agg #[.slice a1 128 k1, .slice a2 n2 k2, .int .i64 s.taken, .slice a3 n3 k3, .int .i64 s.clock, .int .i64 s.at_, .int .i64 0, .int .i64 s.order, .int .i64 s.operand, .int .i64 s.other, .int .i64 s.product, .int .i64 s.count, .int .i64 s.done, .int .i64 s.why] from by rw [← hp]] at hc ⊢
  clear hp
  go_enter Try.func49, Try.ntmps49
  go_wp2_with fail
  refine (hc _ (by repeat (first | with_reducible exact Ext.refl _ | with_reducible refine Ext.alloc ?_ _ | with_reducible refine Below.drew ?_))).mono ?_
  rintro e w1 ⟨rfl, E1⟩
  clear hc
  have E0 := E1.old
  have u0 := box_at (v := .slice a1 128 k1) E0 0 rfl
  have u1 := box_at (v := .slice a2 n2 k2) E0 1 rfl
  have u2 := box_at (v := .int .i64 s.taken) E0 2 rfl
  have u3 := box_at (v := .slice a3 n3 k3) E0 3 rfl
  have u4 := box_at (v := .int .i64 s.clock) E0 4 rfl
  have u5 := box_at (v := .int .i64 s.at_) E0 5 rfl
  have u6 := box_at (v := .int .i64 0) E0 6 rfl
  have u7 := box_at (v := .int .i64 s.order) E0 7 rfl
  have u8 := box_at (v := .int .i64 s.operand) E0 8 rfl
  have u9 := box_at (v := .int .i64 s.other) E0 9 rfl
  have u10 := box_at (v := .int .i64 s.product) E0 10 rfl
  have u11 := box_at (v := .int .i64 s.count) E0 11 rfl
  have u12 := box_at (v := .int .i64 s.done) E0 12 rfl
  have u13 := box_at (v := .int .i64 s.why) E0 13 rfl
  go_upto_region 7 with fail
  clear u0 u1 u2 u3 u4 u5 u6 u7 u8 u9 u10 u11 u12 u13
  have hle : (w.alloc (.cells #[.slice a1 128 k1, .slice a2 n2 k2, .int .i64 s.taken, .slice a3 n3 k3, .int .i64 s.clock, .int .i64 s.at_, .int .i64 0, .int .i64 s.order, .int .i64 s.operand, .int .i64 s.other, .int .i64 s.product, .int .i64 s.count, .int .i64 s.done, .int .i64 s.why] 41)).heap.size ≤ w.heap.size + 1 := by simp
  have z1 : w.heap.size + 1 < w1.heap.size := by have := E1.size; simp at this; omega
  have zs : ∀ W : World, Ext ((w.alloc (.cells #[.slice a1 128 k1, .slice a2 n2 k2, .int .i64 s.taken, .slice a3 n3 k3, .int .i64 s.clock, .int .i64 s.at_, .int .i64 0, .int .i64 s.order, .int .i64 s.operand, .int .i64 s.other, .int .i64 s.product, .int .i64 s.count, .int .i64 s.done, .int .i64 s.why] 41)).alloc (.cells #[.slice none 0 0, .slice none 0 0, .int .i64 0, .slice none 0 0, .int .i64 0, .int .i64 0, .int .i64 0, .int .i64 0] 24)) W → w.heap.size + 1 < W.heap.size := fun W e => by have := e.size; simp at this; omega
  go_region_held3 (fun w' => Ext (w.alloc (.cells #[.slice a1 128 k1, .slice a2 n2 k2, .int .i64 s.taken, .slice a3 n3 k3, .int .i64 s.clock, .int .i64 s.at_, .int .i64 0, .int .i64 s.order, .int .i64 s.operand, .int .i64 s.other, .int .i64 s.product, .int .i64 s.count, .int .i64 s.done, .int .i64 s.why] 41)) w' ∧ w'.cell? ⟨w.heap.size, 0, none⟩ = some (.slice a1 128 k1) ∧ w'.cell? ⟨w.heap.size, 1, none⟩ = some (.slice a2 n2 k2) ∧ w'.cell? ⟨w.heap.size, 2, none⟩ = some (.int .i64 s.taken) ∧ w'.cell? ⟨w.heap.size, 3, none⟩ = some (.slice a3 n3 k3) ∧ w'.cell? ⟨w.heap.size, 4, none⟩ = some (.int .i64 s.clock) ∧ w'.cell? ⟨w.heap.size, 5, none⟩ = some (.int .i64 s.at_) ∧ w'.cell? ⟨w.heap.size, 6, none⟩ = some (.int .i64 0) ∧ w'.cell? ⟨w.heap.size, 7, none⟩ = some (.int .i64 s.order) ∧ w'.cell? ⟨w.heap.size, 8, none⟩ = some (.int .i64 s.operand) ∧ w'.cell? ⟨w.heap.size, 9, none⟩ = some (.int .i64 s.other) ∧ w'.cell? ⟨w.heap.size, 10, none⟩ = some (.int .i64 s.product) ∧ w'.cell? ⟨w.heap.size, 11, none⟩ = some (.int .i64 s.count) ∧ w'.cell? ⟨w.heap.size, 12, none⟩ = some (.int .i64 s.done) ∧ w'.cell? ⟨w.heap.size, 13, none⟩ = some (.int .i64 s.why)) (first | with_reducible exact order_keep EEs.old | with_reducible exact order_keep EEt.old | with_reducible exact order_keep EEp.old | with_reducible exact order_keep (Ext.comp E0 (Ext.refl w1).drew) | with_reducible exact order_keep (ext_set8 EEs.old hle _ _ _ _ _ _ _ _) | with_reducible exact order_keep (ext_set8 EEt.old hle _ _ _ _ _ _ _ _) | with_reducible exact order_keep (ext_set8 EEp.old hle _ _ _ _ _ _ _ _))
    (first | (go_at_call_of 84 (Value.slice a1 128 k1); refine (hf1 _ (by first | exact EEt.old.old | exact EEp.old.old | exact (Ext.comp E1 (Ext.refl w1).drew).old.old)).mono ?_; rintro e ws ⟨aas, ccs, rfl, hos, hbs⟩; have EEs : Ext ((w.alloc (.cells #[.slice a1 128 k1, .slice a2 n2 k2, .int .i64 s.taken, .slice a3 n3 k3, .int .i64 s.clock, .int .i64 s.at_, .int .i64 0, .int .i64 s.order, .int .i64 s.operand, .int .i64 s.other, .int .i64 s.product, .int .i64 s.count, .int .i64 s.done, .int .i64 s.why] 41)).alloc (.cells #[.slice none 0 0, .slice none 0 0, .int .i64 0, .slice none 0 0, .int .i64 0, .int .i64 0, .int .i64 0, .int .i64 0] 24)) ws := (by first | exact Ext.comp EEt hbs | exact Ext.comp EEp hbs | exact Ext.comp (Ext.comp E1 (Ext.refl w1).drew) hbs); have sq0 := box_at2 (v := .slice none 0 0) EEs 0 rfl; have sf0 := box_free2 EEs 0; have sq1 := box_at2 (v := .slice none 0 0) EEs 1 rfl; have sf1 := box_free2 EEs 1; have sq2 := box_at2 (v := .int .i64 0) EEs 2 rfl; have sf2 := box_free2 EEs 2; have sq3 := box_at2 (v := .slice none 0 0) EEs 3 rfl; have sf3 := box_free2 EEs 3; have sq4 := box_at2 (v := .int .i64 0) EEs 4 rfl; have sf4 := box_free2 EEs 4; have sq5 := box_at2 (v := .int .i64 0) EEs 5 rfl; have sf5 := box_free2 EEs 5; have sq6 := box_at2 (v := .int .i64 0) EEs 6 rfl; have sf6 := box_free2 EEs 6; have sq7 := box_at2 (v := .int .i64 0) EEs 7 rfl; have sf7 := box_free2 EEs 7) | (go_at_call_of 84 (Value.slice a2 n2 k2); refine (hf2 _ (by first | exact EEs.old.old | exact EEp.old.old | exact (Ext.comp E1 (Ext.refl w1).drew).old.old)).mono ?_; rintro e wt ⟨aat, cct, rfl, hot, hbt⟩; have EEt : Ext ((w.alloc (.cells #[.slice a1 128 k1, .slice a2 n2 k2, .int .i64 s.taken, .slice a3 n3 k3, .int .i64 s.clock, .int .i64 s.at_, .int .i64 0, .int .i64 s.order, .int .i64 s.operand, .int .i64 s.other, .int .i64 s.product, .int .i64 s.count, .int .i64 s.done, .int .i64 s.why] 41)).alloc (.cells #[.slice none 0 0, .slice none 0 0, .int .i64 0, .slice none 0 0, .int .i64 0, .int .i64 0, .int .i64 0, .int .i64 0] 24)) wt := (by first | exact Ext.comp EEs hbt | exact Ext.comp EEp hbt | exact Ext.comp (Ext.comp E1 (Ext.refl w1).drew) hbt); have tq0 := box_at2 (v := .slice none 0 0) EEt 0 rfl; have tf0 := box_free2 EEt 0; have tq1 := box_at2 (v := .slice none 0 0) EEt 1 rfl; have tf1 := box_free2 EEt 1; have tq2 := box_at2 (v := .int .i64 0) EEt 2 rfl; have tf2 := box_free2 EEt 2; have tq3 := box_at2 (v := .slice none 0 0) EEt 3 rfl; have tf3 := box_free2 EEt 3; have tq4 := box_at2 (v := .int .i64 0) EEt 4 rfl; have tf4 := box_free2 EEt 4; have tq5 := box_at2 (v := .int .i64 0) EEt 5 rfl; have tf5 := box_free2 EEt 5; have tq6 := box_at2 (v := .int .i64 0) EEt 6 rfl; have tf6 := box_free2 EEt 6; have tq7 := box_at2 (v := .int .i64 0) EEt 7 rfl; have tf7 := box_free2 EEt 7) | (go_at_call_of 84 (Value.slice a3 n3 k3); refine (hf3 _ (by first | exact EEs.old.old | exact EEt.old.old | exact (Ext.comp E1 (Ext.refl w1).drew).old.old)).mono ?_; rintro e wp ⟨aap, ccp, rfl, hop, hbp⟩; have EEp : Ext ((w.alloc (.cells #[.slice a1 128 k1, .slice a2 n2 k2, .int .i64 s.taken, .slice a3 n3 k3, .int .i64 s.clock, .int .i64 s.at_, .int .i64 0, .int .i64 s.order, .int .i64 s.operand, .int .i64 s.other, .int .i64 s.product, .int .i64 s.count, .int .i64 s.done, .int .i64 s.why] 41)).alloc (.cells #[.slice none 0 0, .slice none 0 0, .int .i64 0, .slice none 0 0, .int .i64 0, .int .i64 0, .int .i64 0, .int .i64 0] 24)) wp := (by first | exact Ext.comp EEs hbp | exact Ext.comp EEt hbp | exact Ext.comp (Ext.comp E1 (Ext.refl w1).drew) hbp); have pq0 := box_at2 (v := .slice none 0 0) EEp 0 rfl; have pf0 := box_free2 EEp 0; have pq1 := box_at2 (v := .slice none 0 0) EEp 1 rfl; have pf1 := box_free2 EEp 1; have pq2 := box_at2 (v := .int .i64 0) EEp 2 rfl; have pf2 := box_free2 EEp 2; have pq3 := box_at2 (v := .slice none 0 0) EEp 3 rfl; have pf3 := box_free2 EEp 3; have pq4 := box_at2 (v := .int .i64 0) EEp 4 rfl; have pf4 := box_free2 EEp 4; have pq5 := box_at2 (v := .int .i64 0) EEp 5 rfl; have pf5 := box_free2 EEp 5; have pq6 := box_at2 (v := .int .i64 0) EEp 6 rfl; have pf6 := box_free2 EEp 6; have pq7 := box_at2 (v := .int .i64 0) EEp 7 rfl; have pf7 := box_free2 EEp 7))
  all_goals
    go_wp2_with fail
    refine bodyPost_ret (v := .tuple #[.agg #[.slice aas 128 ccs, .slice aat n2 cct, .int .i64 s.taken, .slice aap n3 ccp, .int .i64 (s.clock + (s.at_ - s.clock) % 16), .int .i64 s.at_, .int .i64 s.done, .int .i64 s.why], .int .i64 0]) (by simp [results, Try.results49, go_sem, sq0, sq1, sq2, sq3, sq4, sq5, sq6, sq7, tq0, tq1, tq2, tq3, tq4, tq5, tq6, tq7, pq0, pq1, pq2, pq3, pq4, pq5, pq6, pq7]) rfl ?_
    exact order_fin rfl hos hot hop Hl.out (by first | exact Ext.refl _ | exact hbs | exact hbt | exact hbp | exact hbs.comp hbt | exact hbs.comp hbp | exact hbt.comp hbs | exact hbt.comp hbp | exact hbp.comp hbs | exact hbp.comp hbt) (by first | exact Ext.refl _ | exact hbs | exact hbt | exact hbp | exact hbs.comp hbt | exact hbs.comp hbp | exact hbt.comp hbs | exact hbt.comp hbp | exact hbp.comp hbs | exact hbp.comp hbt) (by first | exact Ext.refl _ | exact hbs | exact hbt | exact hbp | exact hbs.comp hbt | exact hbs.comp hbp | exact hbt.comp hbs | exact hbt.comp hbp | exact hbp.comp hbs | exact hbp.comp hbt) (by first | exact EEs.old.old | exact EEt.old.old | exact EEp.old.old) (by first | exact z1 | exact zs _ EEs | exact zs _ EEt | exact zs _ EEp) (by first | exact z1 | exact zs _ EEs | exact zs _ EEt | exact zs _ EEp) (by first | exact z1 | exact zs _ EEs | exact zs _ EEt | exact zs _ EEp)
end Go.Proofs.Ytjfggepgjpdebaa
/- Contract: pulse.Order, whatever the state. -/
namespace Go.Proofs.Ytjfggepgjpdebaa
open Go.RowKit Go.Q
set_option maxRecDepth 100000 in
set_option maxHeartbeats 4000000 in
theorem order_bad (v : Value) (s : Pu) (w : World) (h : PuAt w v s) (hb : PuBd s) (he : (orderE s).2 ≠ 0) :
    Calls Try.prog 49 #[v] w (StRes (orderE s) w) := by
  have hc := fun W (E : Ext w W) => pcheck_any v s W (h.ext E) hb
  obtain ⟨a1, a2, a3, c1, c2, c3, rfl, _, _, _⟩ := h
  have e : orderE s = if (checkP s).2.2 ≠ 0 then (zst, (checkP s).2.2) else if s.phase ≠ 0 ∨ 1000000000 < timeP s then (zst, 9) else (orderQ s, 0) := rfl
  by_cases hz : (checkP s).2.2 = 0
  · have hv := valid_check hz
    rw [if_neg (by rw [hz]; decide)] at e
    rw [checkP_zero hz] at hc
    unfold v3 at hc
    obtain ⟨cl0, cl1⟩ := hv.clock
    obtain ⟨at0, at1⟩ := hv.at_
    by_cases hx : s.phase ≠ 0 ∨ 1000000000 < timeP s
    · rw [if_pos hx] at e
      rw [e]
      clear e he hb hz hv
      by_cases hp : s.phase = 0
      · have ht : 1000000000 < s.clock + (s.at_ - s.clock) % 16 := hx.resolve_left (fun c => c hp)
        have bp : (s.phase != 0) = false := by simpa using hp
        clear hx hp
        go_enter Try.func49, Try.ntmps49
        go_wp2_with fail
        refine (hc _ (by repeat (first | with_reducible exact Ext.refl _ | with_reducible refine Ext.alloc ?_ _ | with_reducible refine Below.drew ?_))).mono ?_
        rintro e w1 ⟨rfl, E1⟩
        have u0 := box_at (v := .slice a1 s.store.length c1) E1.old 0 rfl
        have u1 := box_at (v := .slice a2 s.tape.length c2) E1.old 1 rfl
        have u2 := box_at (v := .int .i64 s.taken) E1.old 2 rfl
        have u3 := box_at (v := .slice a3 s.printed.length c3) E1.old 3 rfl
        have u4 := box_at (v := .int .i64 s.clock) E1.old 4 rfl
        have u5 := box_at (v := .int .i64 s.at_) E1.old 5 rfl
        have u6 := box_at (v := .int .i64 s.phase) E1.old 6 rfl
        have u7 := box_at (v := .int .i64 s.order) E1.old 7 rfl
        have u8 := box_at (v := .int .i64 s.operand) E1.old 8 rfl
        have u9 := box_at (v := .int .i64 s.other) E1.old 9 rfl
        have u10 := box_at (v := .int .i64 s.product) E1.old 10 rfl
        have u11 := box_at (v := .int .i64 s.count) E1.old 11 rfl
        have u12 := box_at (v := .int .i64 s.done) E1.old 12 rfl
        have u13 := box_at (v := .int .i64 s.why) E1.old 13 rfl
        have q0 := box_at2 (v := .slice none 0 0) E1 0 rfl
        have q1 := box_at2 (v := .slice none 0 0) E1 1 rfl
        have q2 := box_at2 (v := .int .i64 0) E1 2 rfl
        have q3 := box_at2 (v := .slice none 0 0) E1 3 rfl
        have q4 := box_at2 (v := .int .i64 0) E1 4 rfl
        have q5 := box_at2 (v := .int .i64 0) E1 5 rfl
        have q6 := box_at2 (v := .int .i64 0) E1 6 rfl
        have q7 := box_at2 (v := .int .i64 0) E1 7 rfl
        have f0 := box_free2 E1 0
        have f1 := box_free2 E1 1
        have f2 := box_free2 E1 2
        have f3 := box_free2 E1 3
        have f4 := box_free2 E1 4
        have f5 := box_free2 E1 5
        have f6 := box_free2 E1 6
        have f7 := box_free2 E1 7
        go_wp2_with fail
        refine bodyPost_ret (v := .tuple #[.agg #[.slice none 0 0, .slice none 0 0, .int .i64 0, .slice none 0 0, .int .i64 0, .int .i64 0, .int .i64 0, .int .i64 0], .int .i64 9]) (by simp [results, Try.results49, go_sem, q0, q1, q2, q3, q4, q5, q6, q7]) rfl ?_
        exact ⟨_, rfl, ⟨none, none, none, 0, 0, 0, rfl, .inl rfl, .inl rfl, .inl rfl⟩, ext_set8 E1.old.old (Nat.le_succ _) _ _ _ _ _ _ _ _⟩
      · have bp : (s.phase != 0) = true := by simpa using hp
        clear hx hp
        go_enter Try.func49, Try.ntmps49
        go_wp2_with fail
        refine (hc _ (by repeat (first | with_reducible exact Ext.refl _ | with_reducible refine Ext.alloc ?_ _ | with_reducible refine Below.drew ?_))).mono ?_
        rintro e w1 ⟨rfl, E1⟩
        have u0 := box_at (v := .slice a1 s.store.length c1) E1.old 0 rfl
        have u1 := box_at (v := .slice a2 s.tape.length c2) E1.old 1 rfl
        have u2 := box_at (v := .int .i64 s.taken) E1.old 2 rfl
        have u3 := box_at (v := .slice a3 s.printed.length c3) E1.old 3 rfl
        have u4 := box_at (v := .int .i64 s.clock) E1.old 4 rfl
        have u5 := box_at (v := .int .i64 s.at_) E1.old 5 rfl
        have u6 := box_at (v := .int .i64 s.phase) E1.old 6 rfl
        have u7 := box_at (v := .int .i64 s.order) E1.old 7 rfl
        have u8 := box_at (v := .int .i64 s.operand) E1.old 8 rfl
        have u9 := box_at (v := .int .i64 s.other) E1.old 9 rfl
        have u10 := box_at (v := .int .i64 s.product) E1.old 10 rfl
        have u11 := box_at (v := .int .i64 s.count) E1.old 11 rfl
        have u12 := box_at (v := .int .i64 s.done) E1.old 12 rfl
        have u13 := box_at (v := .int .i64 s.why) E1.old 13 rfl
        have q0 := box_at2 (v := .slice none 0 0) E1 0 rfl
        have q1 := box_at2 (v := .slice none 0 0) E1 1 rfl
        have q2 := box_at2 (v := .int .i64 0) E1 2 rfl
        have q3 := box_at2 (v := .slice none 0 0) E1 3 rfl
        have q4 := box_at2 (v := .int .i64 0) E1 4 rfl
        have q5 := box_at2 (v := .int .i64 0) E1 5 rfl
        have q6 := box_at2 (v := .int .i64 0) E1 6 rfl
        have q7 := box_at2 (v := .int .i64 0) E1 7 rfl
        have f0 := box_free2 E1 0
        have f1 := box_free2 E1 1
        have f2 := box_free2 E1 2
        have f3 := box_free2 E1 3
        have f4 := box_free2 E1 4
        have f5 := box_free2 E1 5
        have f6 := box_free2 E1 6
        have f7 := box_free2 E1 7
        go_wp2_with fail
        refine bodyPost_ret (v := .tuple #[.agg #[.slice none 0 0, .slice none 0 0, .int .i64 0, .slice none 0 0, .int .i64 0, .int .i64 0, .int .i64 0, .int .i64 0], .int .i64 9]) (by simp [results, Try.results49, go_sem, q0, q1, q2, q3, q4, q5, q6, q7]) rfl ?_
        exact ⟨_, rfl, ⟨none, none, none, 0, 0, 0, rfl, .inl rfl, .inl rfl, .inl rfl⟩, ext_set8 E1.old.old (Nat.le_succ _) _ _ _ _ _ _ _ _⟩
    · rw [if_neg hx] at e; rw [e] at he; exact absurd rfl he
  · rw [if_pos hz] at e
    rw [e]
    generalize checkP s = p at *
    obtain ⟨p, i, er⟩ := p
    unfold v3 at hc
    dsimp only at hz hc ⊢
    have hz' : (er != 0) = true := by simpa using hz
    clear e he hz hb
    go_enter Try.func49, Try.ntmps49
    go_wp2_with fail
    refine (hc _ (by repeat (first | with_reducible exact Ext.refl _ | with_reducible refine Ext.alloc ?_ _ | with_reducible refine Below.drew ?_))).mono ?_
    rintro e w1 ⟨rfl, E1⟩
    have q0 := box_at2 (v := .slice none 0 0) E1 0 rfl
    have q1 := box_at2 (v := .slice none 0 0) E1 1 rfl
    have q2 := box_at2 (v := .int .i64 0) E1 2 rfl
    have q3 := box_at2 (v := .slice none 0 0) E1 3 rfl
    have q4 := box_at2 (v := .int .i64 0) E1 4 rfl
    have q5 := box_at2 (v := .int .i64 0) E1 5 rfl
    have q6 := box_at2 (v := .int .i64 0) E1 6 rfl
    have q7 := box_at2 (v := .int .i64 0) E1 7 rfl
    have f0 := box_free2 E1 0
    have f1 := box_free2 E1 1
    have f2 := box_free2 E1 2
    have f3 := box_free2 E1 3
    have f4 := box_free2 E1 4
    have f5 := box_free2 E1 5
    have f6 := box_free2 E1 6
    have f7 := box_free2 E1 7
    go_wp2_with fail
    refine bodyPost_ret (v := .tuple #[.agg #[.slice none 0 0, .slice none 0 0, .int .i64 0, .slice none 0 0, .int .i64 0, .int .i64 0, .int .i64 0, .int .i64 0], .int .i64 er]) (by simp [results, Try.results49, go_sem, q0, q1, q2, q3, q4, q5, q6, q7]) rfl ?_
    exact ⟨_, rfl, ⟨none, none, none, 0, 0, 0, rfl, .inl rfl, .inl rfl, .inl rfl⟩, ext_set8 E1.old.old (Nat.le_succ _) _ _ _ _ _ _ _ _⟩
theorem porder_any (v : Value) (s : Pu) (w : World) (h : PuAt w v s) (hb : PuBd s) : Calls Try.prog 49 #[v] w (StRes (orderE s) w) := by
  by_cases he : (orderE s).2 = 0
  · have e : orderE s = if (checkP s).2.2 ≠ 0 then (zst, (checkP s).2.2) else if s.phase ≠ 0 ∨ 1000000000 < timeP s then (zst, 9) else (orderQ s, 0) := rfl
    by_cases hz : (checkP s).2.2 = 0
    · rw [if_neg (by rw [hz]; decide)] at e
      by_cases hx : s.phase ≠ 0 ∨ 1000000000 < timeP s
      · rw [if_pos hx] at e; rw [e] at he; exact absurd he (by decide)
      · rw [if_neg hx] at e
        rw [e]
        have hv := valid_check hz
        obtain ⟨a1, a2, a3, c1, c2, c3, rfl, i1, i2, i3⟩ := h
        have hg := order_good a1 a2 a3 s.tape.length s.printed.length c1 c2 c3 s w hv hb rfl rfl i1 i2 i3 (checkP_zero hz) (by omega) (by omega)
        rw [hv.len]
        exact hg
    · rw [if_pos hz] at e; rw [e] at he; exact absurd he hz
  · exact order_bad v s w h hb he
end Go.Proofs.Ytjfggepgjpdebaa
/- Contract: pulse's Words, of valid pulses. -/
namespace Go.Proofs.Ytjfggepgjpdebaa
open Go.RowKit Go.Q
theorem Blk.rangeL {W : World} {b : Nat} {cs : Array Value} {L : List Value} {T : TypeId} (h : Blk W b cs T) (hL : ∀ (j : Nat) (v : Value), L[j]? = some v → cs[j]? = some v) : W.rangeAt b 0 L := fun j v hv => by rw [Nat.zero_add]; exact h.c j (hL j v hv)
theorem first14 {v0 v1 v2 v3 v4 v5 v6 v7 v8 v9 v10 v11 v12 v13 v14 v15 v16 v17 : Value}   : ∀ (j : Nat) (v : Value), ([v0, v1, v2, v3, v4, v5, v6, v7, v8, v9, v10, v11, v12, v13] : List Value)[j]? = some v → (#[v0, v1, v2, v3, v4, v5, v6, v7, v8, v9, v10, v11, v12, v13, v14, v15, v16, v17] : Array Value)[j]? = some v := by
  intro j v hv
  rcases j with _ | _ | _ | _ | _ | _ | _ | _ | _ | _ | _ | _ | _ | _ | j
  all_goals first | exact hv | (simp at hv)
theorem Ctl.pu2 {W : World} {nb m g1 c1 n2 k2 n3 k3 : Nat} {t2 t3 : Option Addr} {s : Pu} {o : Ord} (h : Ctl W nb m g1 c1 (.slice t2 n2 k2) (.slice t3 n3 k3) s o) : PuAt W (psv (some ⟨g1, 0, none⟩) t2 t3 128 c1 n2 k2 n3 k3 s) s := by
  obtain ⟨a2, d2, a3, d3, e2, e3, hP⟩ := h.pu
  simp only [Value.slice.injEq] at e2 e3
  obtain ⟨rfl, rfl, rfl⟩ := e2
  obtain ⟨rfl, rfl, rfl⟩ := e3
  exact hP
set_option maxRecDepth 100000 in
set_option maxHeartbeats 8000000 in
theorem words_ok (v : Value) (b : PuB) (w : World) (h : PbAt w v b) (hv : ValidB b) : Calls Try.prog 34 #[v] w (PuRes (wordsE b) w) := by
  obtain ⟨aL, a1, a2, a3, cL, c1, c2, c3, rfl, iL, i1, i2, i3⟩ := h
  have hsl : (stP b).store.length = 128 := by show (storeB b.lines).length = 128; rw [storeB_length, hv.lines]
  rw [hv.lines, hv.nostore, List.length_nil]
  generalize hn2 : b.now.tape.length = n2
  generalize hn3 : b.now.printed.length = n3
  have hen := fun W (E : Ext w W) => enter_ok aL a1 a2 a3 cL c1 n2 c2 n3 c3 b W hv hn2 hn3 (iL.ext E) (i2.ext E) (i3.ext E)
  have HN := Lib.hid (And.intro hn2 (And.intro hn3 hsl))
  have hse := stateE_valid hv
  clear hn2 hn3 iL i1 i2 i3 hv hsl
  have HR := Lib.hid (Blk.range (L := [.slice aL 8 cL, .slice a1 0 c1, .slice a2 n2 c2, .int .i64 b.now.taken, .slice a3 n3 c3, .int .i64 b.now.clock, .int .i64 b.now.at_, .int .i64 b.now.phase, .int .i64 b.now.order, .int .i64 b.now.operand, .int .i64 b.now.other, .int .i64 b.now.product, .int .i64 b.now.count, .int .i64 b.now.done, .int .i64 b.now.why, .int .i64 b.beat, .int .i64 b.carry, .int .i64 b.sum]) (Blk.al (Blk.nw w #[.slice aL 8 cL, .slice a1 0 c1, .slice a2 n2 c2, .int .i64 b.now.taken, .slice a3 n3 c3, .int .i64 b.now.clock, .int .i64 b.now.at_, .int .i64 b.now.phase, .int .i64 b.now.order, .int .i64 b.now.operand, .int .i64 b.now.other, .int .i64 b.now.product, .int .i64 b.now.count, .int .i64 b.now.done, .int .i64 b.now.why, .int .i64 b.beat, .int .i64 b.carry, .int .i64 b.sum] 50) (.cells #[.slice none 0 0, .slice none 0 0, .int .i64 0, .slice none 0 0, .int .i64 0, .int .i64 0, .int .i64 0, .int .i64 0, .int .i64 0, .int .i64 0, .int .i64 0, .int .i64 0, .int .i64 0, .int .i64 0] 41)))
  by_cases hb : b.beat = 0
  · have hwE : wordsE b = (stP b, 0) := by unfold wordsE; rw [hse, if_neg (by decide), if_neg (by rw [hb]; decide)]
    rw [hwE]
    have hbn : (b.beat != 0) = false := by simpa using hb
    clear hb hwE hse
    go_enter Try.func34, Try.ntmps34
    go_wp2_with (first | (refine wpList_load_mid rfl 50 (.tmp 1) rfl w.heap.size 0 rfl [.slice aL 8 cL, .slice a1 0 c1, .slice a2 n2 c2, .int .i64 b.now.taken, .slice a3 n3 c3, .int .i64 b.now.clock, .int .i64 b.now.at_, .int .i64 b.now.phase, .int .i64 b.now.order, .int .i64 b.now.operand, .int .i64 b.now.other, .int .i64 b.now.product, .int .i64 b.now.count, .int .i64 b.now.done, .int .i64 b.now.why, .int .i64 b.beat, .int .i64 b.carry, .int .i64 b.sum] _ HR.out Try.underlying50 rfl (by kernel_rfl) ?_) | fail)
    refine (hen _ (by repeat (first | with_reducible exact Ext.refl _ | with_reducible refine Ext.alloc ?_ _ | with_reducible refine Below.drew ?_))).mono ?_
    rintro e w1 ⟨G, m, g1, cc, tv, pv, LB, cB, vs, rfl, hG, E1⟩
    have rb := Blk.of E1
    rw [World.size_alloc] at rb
    have F1 := E1.old.old
    have pb := Blk.of E1.old
    have p15 := pb.c 15 (v := .int .i64 b.beat) rfl
    obtain ⟨t2, k2, t3, k3, rfl, rfl, hP⟩ := hG.ctl.pu
    have hs : ({ b.now with store := storeB b.lines } : Pu) = stP b := rfl
    rw [hs] at hP
    have hMb := hG.ctl.blk
    have hC : Ctl w1 (((w.alloc (.cells #[.slice aL 8 cL, .slice a1 0 c1, .slice a2 n2 c2, .int .i64 b.now.taken, .slice a3 n3 c3, .int .i64 b.now.clock, .int .i64 b.now.at_, .int .i64 b.now.phase, .int .i64 b.now.order, .int .i64 b.now.operand, .int .i64 b.now.other, .int .i64 b.now.product, .int .i64 b.now.count, .int .i64 b.now.done, .int .i64 b.now.why, .int .i64 b.beat, .int .i64 b.carry, .int .i64 b.sum] 50)).alloc (.cells #[.slice none 0 0, .slice none 0 0, .int .i64 0, .slice none 0 0, .int .i64 0, .int .i64 0, .int .i64 0, .int .i64 0, .int .i64 0, .int .i64 0, .int .i64 0, .int .i64 0, .int .i64 0, .int .i64 0] 41))).heap.size m g1 cc (.slice t2 n2 k2) (.slice t3 n3 k3) (stP b) (ordP b.now) := by
      have h1 := hG.ctl
      rw [show b.now.tape.length = n2 from HN.out.1, show b.now.printed.length = n3 from HN.out.2.1] at h1
      exact h1
    have g0 := hG.blk.c 0 (v := .pointer (some ⟨m, 0, none⟩)) rfl
    have hra : w1.rangeAt m 0 [.slice (some ⟨g1, 0, none⟩) 128 cc, .slice t2 n2 k2, .int .i64 b.now.taken, .slice t3 n3 k3, .int .i64 b.now.clock, .int .i64 b.now.at_, .int .i64 b.now.phase, .int .i64 b.now.order, .int .i64 b.now.operand, .int .i64 b.now.other, .int .i64 b.now.product, .int .i64 b.now.count, .int .i64 b.now.done, .int .i64 b.now.why] := by
      have h1 : Blk w1 m (pcells g1 cc (.slice t2 b.now.tape.length k2) (.slice t3 b.now.printed.length k3) { b.now with store := storeB b.lines } (ordP b.now)) 100 := hMb
      rw [show b.now.tape.length = n2 from HN.out.1, show b.now.printed.length = n3 from HN.out.2.1] at h1
      exact Blk.rangeL h1 first14
    have hth : w1.there (w.heap.size + 1) 0 14 := Blk.there rb
    have HT := Lib.hid hth
    have HRA := Lib.hid hra
    have HP := Lib.hid (And.intro hC (And.intro rb F1))
    clear hth hra hP hC hMb hG rb pb F1 hs
    go_wp2_with (first | (refine wpList_load_mid rfl 41 (.tmp 26) rfl m 0 rfl [.slice (some ⟨g1, 0, none⟩) 128 cc, .slice t2 n2 k2, .int .i64 b.now.taken, .slice t3 n3 k3, .int .i64 b.now.clock, .int .i64 b.now.at_, .int .i64 b.now.phase, .int .i64 b.now.order, .int .i64 b.now.operand, .int .i64 b.now.other, .int .i64 b.now.product, .int .i64 b.now.count, .int .i64 b.now.done, .int .i64 b.now.why] _ HRA.out Try.underlying41 rfl (by kernel_rfl) ?_) | (refine wpList_store_mid rfl 41 (.tmp 2) (.tmp 27) rfl (w.heap.size + 1) 0 [.slice (some ⟨g1, 0, none⟩) 128 cc, .slice t2 n2 k2, .int .i64 b.now.taken, .slice t3 n3 k3, .int .i64 b.now.clock, .int .i64 b.now.at_, .int .i64 b.now.phase, .int .i64 b.now.order, .int .i64 b.now.operand, .int .i64 b.now.other, .int .i64 b.now.product, .int .i64 b.now.count, .int .i64 b.now.done, .int .i64 b.now.why].toArray rfl rfl HT.out (by kernel_rfl) (by simp [Value.oneCell']) ?_))
    have hW : Ext w (w1.setCells (w.heap.size + 1) 0 [.slice (some ⟨g1, 0, none⟩) 128 cc, .slice t2 n2 k2, .int .i64 b.now.taken, .slice t3 n3 k3, .int .i64 b.now.clock, .int .i64 b.now.at_, .int .i64 b.now.phase, .int .i64 b.now.order, .int .i64 b.now.operand, .int .i64 b.now.other, .int .i64 b.now.product, .int .i64 b.now.count, .int .i64 b.now.done, .int .i64 b.now.why]) := (OnlyB.sets _ _ _ (OnlyB.refl (w.heap.size + 1) _)).ext HP.out.2.2 (Nat.le_succ _)
    have r3 : (w1.setCells (w.heap.size + 1) 0 [.slice (some ⟨g1, 0, none⟩) 128 cc, .slice t2 n2 k2, .int .i64 b.now.taken, .slice t3 n3 k3, .int .i64 b.now.clock, .int .i64 b.now.at_, .int .i64 b.now.phase, .int .i64 b.now.order, .int .i64 b.now.operand, .int .i64 b.now.other, .int .i64 b.now.product, .int .i64 b.now.count, .int .i64 b.now.done, .int .i64 b.now.why]).rangeAt (w.heap.size + 1) 0 [.slice (some ⟨g1, 0, none⟩) 128 cc, .slice t2 n2 k2, .int .i64 b.now.taken, .slice t3 n3 k3, .int .i64 b.now.clock, .int .i64 b.now.at_, .int .i64 b.now.phase, .int .i64 b.now.order, .int .i64 b.now.operand, .int .i64 b.now.other, .int .i64 b.now.product, .int .i64 b.now.count, .int .i64 b.now.done, .int .i64 b.now.why] := World.rangeAt_setCells_same _ _ _ _ HT.out
    have hP := (HP.out.1.keep ((OnlyB.sets [.slice (some ⟨g1, 0, none⟩) 128 cc, .slice t2 n2 k2, .int .i64 b.now.taken, .slice t3 n3 k3, .int .i64 b.now.clock, .int .i64 b.now.at_, .int .i64 b.now.phase, .int .i64 b.now.order, .int .i64 b.now.operand, .int .i64 b.now.other, .int .i64 b.now.product, .int .i64 b.now.count, .int .i64 b.now.done, .int .i64 b.now.why] 0 _ (OnlyB.refl (w.heap.size + 1) w1)).keep HP.out.2.1 (by decide) (by decide))).pu2
    obtain ⟨W3, hW3⟩ : ∃ W3 : World, W3 = w1.setCells (w.heap.size + 1) 0 [.slice (some ⟨g1, 0, none⟩) 128 cc, .slice t2 n2 k2, .int .i64 b.now.taken, .slice t3 n3 k3, .int .i64 b.now.clock, .int .i64 b.now.at_, .int .i64 b.now.phase, .int .i64 b.now.order, .int .i64 b.now.operand, .int .i64 b.now.other, .int .i64 b.now.product, .int .i64 b.now.count, .int .i64 b.now.done, .int .i64 b.now.why] := ⟨_, rfl⟩
    rw [← hW3] at hW r3 hP
    (try dsimp only [Act.put])
    rw [← hW3]
    clear hW3
    have z0 : W3.cell? ⟨w.heap.size + 1, 0, none⟩ = some (.slice (some ⟨g1, 0, none⟩) 128 cc) := by simpa using r3 0 _ rfl
    have z1 : W3.cell? ⟨w.heap.size + 1, 1, none⟩ = some (.slice t2 n2 k2) := by simpa using r3 1 _ rfl
    have z2 : W3.cell? ⟨w.heap.size + 1, 2, none⟩ = some (.int .i64 b.now.taken) := by simpa using r3 2 _ rfl
    have z3 : W3.cell? ⟨w.heap.size + 1, 3, none⟩ = some (.slice t3 n3 k3) := by simpa using r3 3 _ rfl
    have z4 : W3.cell? ⟨w.heap.size + 1, 4, none⟩ = some (.int .i64 b.now.clock) := by simpa using r3 4 _ rfl
    have z5 : W3.cell? ⟨w.heap.size + 1, 5, none⟩ = some (.int .i64 b.now.at_) := by simpa using r3 5 _ rfl
    have z6 : W3.cell? ⟨w.heap.size + 1, 6, none⟩ = some (.int .i64 b.now.phase) := by simpa using r3 6 _ rfl
    have z7 : W3.cell? ⟨w.heap.size + 1, 7, none⟩ = some (.int .i64 b.now.order) := by simpa using r3 7 _ rfl
    have z8 : W3.cell? ⟨w.heap.size + 1, 8, none⟩ = some (.int .i64 b.now.operand) := by simpa using r3 8 _ rfl
    have z9 : W3.cell? ⟨w.heap.size + 1, 9, none⟩ = some (.int .i64 b.now.other) := by simpa using r3 9 _ rfl
    have z10 : W3.cell? ⟨w.heap.size + 1, 10, none⟩ = some (.int .i64 b.now.product) := by simpa using r3 10 _ rfl
    have z11 : W3.cell? ⟨w.heap.size + 1, 11, none⟩ = some (.int .i64 b.now.count) := by simpa using r3 11 _ rfl
    have z12 : W3.cell? ⟨w.heap.size + 1, 12, none⟩ = some (.int .i64 b.now.done) := by simpa using r3 12 _ rfl
    have z13 : W3.cell? ⟨w.heap.size + 1, 13, none⟩ = some (.int .i64 b.now.why) := by simpa using r3 13 _ rfl
    have HPW := Lib.hid (And.intro hP hW)
    clear hP hW r3
    refine bodyPost_ret (v := .tuple #[.agg #[.slice (some ⟨g1, 0, none⟩) 128 cc, .slice t2 n2 k2, .int .i64 b.now.taken, .slice t3 n3 k3, .int .i64 b.now.clock, .int .i64 b.now.at_, .int .i64 b.now.phase, .int .i64 b.now.order, .int .i64 b.now.operand, .int .i64 b.now.other, .int .i64 b.now.product, .int .i64 b.now.count, .int .i64 b.now.done, .int .i64 b.now.why], .int .i64 0]) (by simp [results, Try.results34, go_sem, z0, z1, z2, z3, z4, z5, z6, z7, z8, z9, z10, z11, z12, z13]) rfl ?_
    exact ⟨_, rfl, HPW.out.1, HPW.out.2⟩
  · have hwE : wordsE b = (zpu, 9) := by unfold wordsE; rw [hse, if_neg (by decide), if_pos hb]; rfl
    rw [hwE]
    have hbn : (b.beat != 0) = true := by simpa using hb
    clear hb hwE hse
    go_enter Try.func34, Try.ntmps34
    go_wp2_with (first | (refine wpList_load_mid rfl 50 (.tmp 1) rfl w.heap.size 0 rfl [.slice aL 8 cL, .slice a1 0 c1, .slice a2 n2 c2, .int .i64 b.now.taken, .slice a3 n3 c3, .int .i64 b.now.clock, .int .i64 b.now.at_, .int .i64 b.now.phase, .int .i64 b.now.order, .int .i64 b.now.operand, .int .i64 b.now.other, .int .i64 b.now.product, .int .i64 b.now.count, .int .i64 b.now.done, .int .i64 b.now.why, .int .i64 b.beat, .int .i64 b.carry, .int .i64 b.sum] _ HR.out Try.underlying50 rfl (by kernel_rfl) ?_) | fail)
    refine (hen _ (by repeat (first | with_reducible exact Ext.refl _ | with_reducible refine Ext.alloc ?_ _ | with_reducible refine Below.drew ?_))).mono ?_
    rintro e w1 ⟨G, m, g1, cc, tv, pv, LB, cB, vs, rfl, hG, E1⟩
    have rb := Blk.of E1
    rw [World.size_alloc] at rb
    have F1 := E1.old.old
    have pb := Blk.of E1.old
    have p15 := pb.c 15 (v := .int .i64 b.beat) rfl
    have HT := Lib.hid (Blk.there rb)
    have HF := Lib.hid F1
    clear hG rb pb F1
    go_wp2_with (first | (refine wpList_store_mid rfl 41 (.tmp 2) (.tmp 20) rfl (w.heap.size + 1) 0 [.slice none 0 0, .slice none 0 0, .int .i64 0, .slice none 0 0, .int .i64 0, .int .i64 0, .int .i64 0, .int .i64 0, .int .i64 0, .int .i64 0, .int .i64 0, .int .i64 0, .int .i64 0, .int .i64 0].toArray rfl rfl HT.out (by kernel_rfl) (by simp [Value.oneCell']) ?_))
    have hW : Ext w (w1.setCells (w.heap.size + 1) 0 [.slice none 0 0, .slice none 0 0, .int .i64 0, .slice none 0 0, .int .i64 0, .int .i64 0, .int .i64 0, .int .i64 0, .int .i64 0, .int .i64 0, .int .i64 0, .int .i64 0, .int .i64 0, .int .i64 0]) := (OnlyB.sets _ _ _ (OnlyB.refl (w.heap.size + 1) _)).ext HF.out (Nat.le_succ _)
    have r3 : (w1.setCells (w.heap.size + 1) 0 [.slice none 0 0, .slice none 0 0, .int .i64 0, .slice none 0 0, .int .i64 0, .int .i64 0, .int .i64 0, .int .i64 0, .int .i64 0, .int .i64 0, .int .i64 0, .int .i64 0, .int .i64 0, .int .i64 0]).rangeAt (w.heap.size + 1) 0 [.slice none 0 0, .slice none 0 0, .int .i64 0, .slice none 0 0, .int .i64 0, .int .i64 0, .int .i64 0, .int .i64 0, .int .i64 0, .int .i64 0, .int .i64 0, .int .i64 0, .int .i64 0, .int .i64 0] := World.rangeAt_setCells_same _ _ _ _ HT.out
    obtain ⟨W3, hW3⟩ : ∃ W3 : World, W3 = w1.setCells (w.heap.size + 1) 0 [.slice none 0 0, .slice none 0 0, .int .i64 0, .slice none 0 0, .int .i64 0, .int .i64 0, .int .i64 0, .int .i64 0, .int .i64 0, .int .i64 0, .int .i64 0, .int .i64 0, .int .i64 0, .int .i64 0] := ⟨_, rfl⟩
    rw [← hW3] at hW r3
    (try dsimp only [Act.put])
    rw [← hW3]
    clear hW3
    have z0 : W3.cell? ⟨w.heap.size + 1, 0, none⟩ = some (.slice none 0 0) := by simpa using r3 0 _ rfl
    have z1 : W3.cell? ⟨w.heap.size + 1, 1, none⟩ = some (.slice none 0 0) := by simpa using r3 1 _ rfl
    have z2 : W3.cell? ⟨w.heap.size + 1, 2, none⟩ = some (.int .i64 0) := by simpa using r3 2 _ rfl
    have z3 : W3.cell? ⟨w.heap.size + 1, 3, none⟩ = some (.slice none 0 0) := by simpa using r3 3 _ rfl
    have z4 : W3.cell? ⟨w.heap.size + 1, 4, none⟩ = some (.int .i64 0) := by simpa using r3 4 _ rfl
    have z5 : W3.cell? ⟨w.heap.size + 1, 5, none⟩ = some (.int .i64 0) := by simpa using r3 5 _ rfl
    have z6 : W3.cell? ⟨w.heap.size + 1, 6, none⟩ = some (.int .i64 0) := by simpa using r3 6 _ rfl
    have z7 : W3.cell? ⟨w.heap.size + 1, 7, none⟩ = some (.int .i64 0) := by simpa using r3 7 _ rfl
    have z8 : W3.cell? ⟨w.heap.size + 1, 8, none⟩ = some (.int .i64 0) := by simpa using r3 8 _ rfl
    have z9 : W3.cell? ⟨w.heap.size + 1, 9, none⟩ = some (.int .i64 0) := by simpa using r3 9 _ rfl
    have z10 : W3.cell? ⟨w.heap.size + 1, 10, none⟩ = some (.int .i64 0) := by simpa using r3 10 _ rfl
    have z11 : W3.cell? ⟨w.heap.size + 1, 11, none⟩ = some (.int .i64 0) := by simpa using r3 11 _ rfl
    have z12 : W3.cell? ⟨w.heap.size + 1, 12, none⟩ = some (.int .i64 0) := by simpa using r3 12 _ rfl
    have z13 : W3.cell? ⟨w.heap.size + 1, 13, none⟩ = some (.int .i64 0) := by simpa using r3 13 _ rfl
    have HPW := Lib.hid hW
    clear hW r3
    refine bodyPost_ret (v := .tuple #[zpv, .int .i64 9]) (by simp [results, Try.results34, go_sem, z0, z1, z2, z3, z4, z5, z6, z7, z8, z9, z10, z11, z12, z13]) rfl ?_
    exact zpu_res 9 HPW.out
end Go.Proofs.Ytjfggepgjpdebaa

import Derived.Maps.OwnIn
import Derived.Test.YtnhpcoagkmgdoaaX21
import Derived.Test.YtnhpcoagkmgdoaaX20
set_option linter.unusedVariables false
set_option linter.unusedSimpArgs false
/- Layer 10: what the program's open holds: a map of rows of its own. -/
namespace Go.Proofs.Ytnhpcoagkmgdoaa
open Go.RowKit Go.Q Go.Shelf Go.Maps
set_option maxHeartbeats 4000000
set_option maxRecDepth 100000
def lv (y : Loss) : List Value := [.int .i64 y.after, .int .i64 y.addr, .int .i64 y.bit]
def lvs (L : List Loss) : List Value := L.flatMap lv
theorem lvs_length : ∀ L : List Loss, (lvs L).length = L.length * 3
  | [] => rfl
  | y :: L => by
    have := lvs_length L
    unfold lvs at *
    rw [List.flatMap_cons, List.length_append, this, List.length_cons]
    show 3 + _ = _
    omega
theorem lvs_get : ∀ (L : List Loss) (i : Nat), i < L.length → (lvs L)[i * 3]? = some (.int .i64 (L[i]?.getD ⟨0, 0, 0⟩).after) ∧ (lvs L)[i * 3 + 1]? = some (.int .i64 (L[i]?.getD ⟨0, 0, 0⟩).addr) ∧ (lvs L)[i * 3 + 2]? = some (.int .i64 (L[i]?.getD ⟨0, 0, 0⟩).bit)
  | [], i, h => by simp at h
  | y :: L, 0, _ => ⟨rfl, rfl, rfl⟩
  | y :: L, i + 1, h => by
    have := lvs_get L i (by simpa using h)
    have e : lvs (y :: L) = lv y ++ lvs L := by unfold lvs; rw [List.flatMap_cons]
    rw [e]
    have e3 : ∀ j, (lv y ++ lvs L)[(i + 1) * 3 + j]? = (lvs L)[i * 3 + j]? := fun j => by
      rw [List.getElem?_append_right (by show 3 ≤ _; omega)]
      congr 1
      show (i + 1) * 3 + j - 3 = _
      omega
    exact ⟨(e3 0).trans this.1, (e3 1).trans this.2.1, (e3 2).trans this.2.2⟩
theorem lvs_snoc (L : List Loss) (y : Loss) : lvs (L ++ [y]) = lvs L ++ lv y := by
  unfold lvs
  rw [List.flatMap_append]
  simp
theorem own_row {w : World} {nb n : Nat} {v : Value} {xs : List Value} {t : TypeId} {z : Nat} (h : w.ownsRow nb t z v n xs) : ∃ a c, v = .slice a n c := by
  rcases h.2 with ⟨h1, h2⟩ | ⟨g, cap, cur, h1, _⟩
  · exact ⟨none, 0, by rw [h2]; exact h1⟩
  · exact ⟨_, _, h1⟩
theorem own_ltz {w : World} {nb n : Nat} {v : Value} {xs : List Value} {t : TypeId} {z b : Nat} (h : w.ownsRow nb t z v n xs) (hb : v.ownBlock = some b) : nb ≤ b ∧ b < w.heap.size ∧ ∃ cs, w.heap[b]? = some (.cells cs t (0, 0)) := by
  rcases h.2 with ⟨rfl, _⟩ | ⟨g, cap, cur, rfl, hg, hh, _⟩
  · cases hb
  · obtain rfl : g = b := by simpa [Value.ownBlock] using hb
    exact ⟨hg, lt_of_block hh, cur, hh⟩
theorem own_kpz {M : Nat → Prop} {w w' : World} {nb n : Nat} {v : Value} {xs : List Value} {t : TypeId} {z : Nat} (h : w.ownsRow nb t z v n xs) (K : KpM M w w') (hM : ∀ b, v.ownBlock = some b → ¬ M b) : w'.ownsRow nb t z v n xs := by
  refine ⟨h.1, ?_⟩
  rcases h.2 with h2 | ⟨g, cap, cur, rfl, hg, hh, r⟩
  · exact .inl h2
  · exact .inr ⟨g, cap, cur, rfl, hg, (K.block g (lt_of_block hh) (hM g rfl)).trans hh, r⟩
theorem own_loss {w : World} {nb : Nat} {v : Value} {L : List Loss} (h : w.ownsRow nb 61 3 v L.length (lvs L)) : LossT w v L := by
  rcases h.2 with ⟨e, h2⟩ | ⟨g, cap, cur, e, hg, hh, h1, _, h3, h4⟩
  · exact ⟨none, 0, by rw [h2]; exact e, .inl (List.eq_nil_of_length_eq_zero h2)⟩
  · refine ⟨_, _, e, .inr ⟨g, 0, cur, _, rfl, hh, fun i hi => ?_⟩⟩
    have hg := lvs_get L i hi
    rw [← h4] at hg
    have hc : ∀ j (v : Value), (cur.toList.take (L.length * 3))[j]? = some v → w.cell? ⟨g, j, none⟩ = some v := fun j v hj => by
      rw [List.getElem?_take] at hj
      split at hj
      · exact blk_cell hh j (by simpa using hj)
      · cases hj
    rw [Nat.zero_add]
    exact ⟨hc _ _ hg.1, hc _ _ hg.2.1, hc _ _ hg.2.2⟩
/-- block mb is a map of rows, each its own -/
def MapO (w : World) (nb mb : Nat) (g : Int → List Loss) : Prop := ∃ f : I64 → Option Value, MapF encI w mb f ∧
  (∀ x, w.ownsRow nb 61 3 ((f x).getD (.slice none 0 0)) (g x.1).length (lvs (g x.1))) ∧
  ∀ x y b, x ≠ y → ((f x).getD (.slice none 0 0)).ownBlock = some b → ((f y).getD (.slice none 0 0)).ownBlock ≠ some b
theorem MapO.toL {w : World} {nb mb : Nat} {g : Int → List Loss} (h : MapO w nb mb g) : MapL w mb g := by
  obtain ⟨f, h1, h2, _⟩ := h
  exact ⟨f, h1, fun x => own_loss (h2 x)⟩
theorem MapO.kp {M : Nat → Prop} {w w' : World} {nb mb : Nat} {g : Int → List Loss} (h : MapO w nb mb g) (K : KpM M w w') (hm : ¬ M mb) (hM : ∀ b cs, w.heap[b]? = some (.cells cs 61 (0, 0)) → ¬ M b) : MapO w' nb mb g := by
  obtain ⟨f, h1, h2, h3⟩ := h
  refine ⟨f, h1.same (K.block mb h1.lt hm), fun x => own_kpz (h2 x) K fun b hb => ?_, h3⟩
  obtain ⟨_, _, cs, hc⟩ := own_ltz (h2 x) hb
  exact hM b cs hc
theorem MapO.ext {w w' : World} {nb mb : Nat} {g : Int → List Loss} (h : MapO w nb mb g) (E : Ext w w') : MapO w' nb mb g := h.kp (M := fun _ => False) ((KpM.of_ext E).mono fun _ h => h) id (fun _ _ _ h => h)
/-- a row longer by one -/
theorem map_add {w w1 w2 : World} {nb mb : Nat} {g g2 : Int → List Loss} {f : I64 → Option Value} {k : I64} {v' : Value} (h1 : MapF encI w mb f)
    (h2 : ∀ x, w.ownsRow nb 61 3 ((f x).getD (.slice none 0 0)) (g x.1).length (lvs (g x.1))) (h3 : ∀ x y b, x ≠ y → ((f x).getD (.slice none 0 0)).ownBlock = some b → ((f y).getD (.slice none 0 0)).ownBlock ≠ some b)
    (ho : w1.ownsRow nb 61 3 v' (g2 k.1).length (lvs (g2 k.1))) (G1 : w.grownBy w1 ((f k).getD (.slice none 0 0)).ownBlock) (hv : v'.ownBlock = ((f k).getD (.slice none 0 0)).ownBlock ∨ v'.ownBlock = some w.heap.size)
    (F2 : MapF encI w2 mb (putF f k v')) (G2 : w1.grownBy w2 (some mb)) (hg : ∀ d, d ≠ k.1 → g2 d = g d) : MapO w2 nb mb g2 := by
  have hmw := h1.lt
  obtain ⟨es, kk, hmb⟩ := map_block h1
  have hmr : ∀ x, ((f x).getD (.slice none 0 0)).ownBlock ≠ some mb := fun x e => by
    obtain ⟨_, _, cs, hc⟩ := own_ltz (h2 x) e
    rw [hmb] at hc
    cases hc
  have hmv : v'.ownBlock ≠ some mb := by
    rcases hv with e | e
    · rw [e]; exact hmr k
    · rw [e]; intro h; injection h with h; omega
  have K2 := kp_grown G2
  refine ⟨_, F2, fun x => ?_, fun x y b hxy hx => ?_⟩
  · unfold putF
    by_cases e : x = k
    · subst e
      rw [if_pos rfl]
      exact own_kpz ho K2 fun b hb he => hmv ((show v'.ownBlock = some b from hb).trans (by rw [he]))
    · rw [if_neg e, hg x.1 (fun h => e (I64.same h))]
      have hx := h2 x
      have hx1 : w1.ownsRow nb 61 3 ((f x).getD (.slice none 0 0)) (g x.1).length (lvs (g x.1)) := by
        refine own_kpz (M := fun q => ((f k).getD (.slice none 0 0)).ownBlock = some q) hx ⟨G1.size, fun b hb hn => G1.block b hb (fun e => hn e.symm), G1.os, G1.tape, G1.output⟩ fun b hb => h3 x k b e hb
      exact own_kpz hx1 K2 fun b hb he => hmr x (by rw [hb, he])
  · unfold putF at hx ⊢
    by_cases e : x = k
    · subst e
      rw [if_pos rfl] at hx
      rw [if_neg (fun e => hxy e.symm)]
      rcases hv with e2 | e2
      · exact h3 x y b hxy (e2.symm.trans hx)
      · intro h
        have := (own_ltz (h2 y) h).2.1
        have h4 := hx.symm.trans e2
        injection h4 with h4
        omega
    · rw [if_neg e] at hx
      by_cases e3 : y = k
      · subst e3
        rw [if_pos rfl]
        intro h
        rcases hv with e2 | e2
        · exact h3 x y b hxy hx (e2.symm.trans h)
        · have := (own_ltz (h2 x) hx).2.1
          have h4 := h.symm.trans e2
          injection h4 with h4
          omega
      · rw [if_neg e3]
        exact h3 x y b hxy hx
section
variable {P : Program} {w : World}
/-- an append whose row is its own: in what block it lies then -/
theorem wp_app_at {o : Oper} {act : Act} {K : Act → World → Prop} {Q : Exit → Act → World → Prop} (s x : Operand) (t : TypeId)
    (ho : o.op = .call { callee := .builtin .append, args := #[s, x], argTypes := #[t, t] })
    (e : TypeId) (i : TypeInfo) (z : Value) (sz bytes : Nat) (ht : P.underlying t = some (.slice e)) (hi : P.info? e = some i) (hz : i.zero = some z) (hs : i.size = sz) (hb : i.bytes = bytes) (hzs : z.cells.size = sz) (hsz : 0 < sz)
    (v : Value) (n B : Nat) (xs : List Value) (he : act.eval s = v) (hown : w.ownsRow B e sz v n xs) (hB1 : B ≤ w.heap.size)
    (ad : Addr) (m c : Nat) (news : List Value) (hx : act.eval x = .slice (some ad) m c) (hl : news.length = m * sz) (hnews : ∀ j u, news[j]? = some u → w.cell? (ad.add j) = some u) (h1 : ∀ u ∈ news, u.oneCell' = true) (h63 : n + m ≤ maxLen) (hbytes : (n + m) * bytes ≤ 140737488355328)
    (h : ∀ (v' : Value) (w' : World), w'.ownsRow B e sz v' (n + m) (xs ++ news) → w.grownBy w' v.ownBlock → (v'.ownBlock = v.ownBlock ∨ v'.ownBlock = some w.heap.size) → K (act.put o.dst v') w') : o.wp P act w K Q := by
  obtain ⟨v', w', hr, h2, h3, _, h5⟩ := run_append_own_at (P := P) w B t o.type e i z sz bytes ht hi hz hs hb hzs hsz v n xs hown ad m c news hl hnews h1 h63 hbytes hB1
  have hk := h v' w' h2 h3 h5
  unfold Oper.wp execOp
  simp only [ho, resolve, invoke, builtin, Sem.run_bind, Sem.run_pure, Result.andThen_ok, List.map_toArray, List.map_cons, List.map_nil, he, hx, hr]
  exact hk
/-- m[k] = v, as one operation -/
theorem wp_putF {k : TypeId} {α : Type} [DecidableEq α] {enc : α → Value} {f : α → Option Value} {o : Oper} {a : Act} {K : Act → World → Prop} {Q : Exit → Act → World → Prop} (m x v : Operand) (t : TypeId) (hop : o.op = Op.mapUpdate t m x v) (e : TypeId) (KE : KeyEnc P k enc) (ht : P.underlying t = some (.map k e)) (b : Nat)
    (hm : a.eval m = .map (some b)) (hown : MapF enc w b f) (key : α) (val : Value) (hx : a.eval x = enc key) (hv : a.eval v = val)
    (hK : ∀ w', MapF enc w' b (putF f key val) → w.grownBy w' (some b) → w'.heap.size = w.heap.size → K (a.put o.dst undef) w') : o.wp P a w K Q := by
  obtain ⟨w', hrun, r1, r2, r3⟩ := hown.update KE ht key val
  unfold Oper.wp
  simp [execOp, hop, hm, hx, hv, hrun, Result.andThen]
  exact hK w' r1 r2 r3
end
theorem zero_size : Try.zeroCells128.size = 137 := by kernel_rfl
theorem zero_bad : (List.range 128).map (fun i => Try.zeroCells128[8 + i]?) = (List.range 128).map (fun _ => some (.bool false)) := by kernel_rfl
theorem zero_bool (i : Nat) (hi : i < 128) : Try.zeroCells128[8 + i]? = some (.bool false) := by
  have h := congrArg (fun l => l[i]?) zero_bad
  simp only [List.getElem?_map, List.getElem?_range hi, Option.map_some] at h
  exact Option.some.inj h
theorem line_new {W : World} {m mb : Nat} {a1 a2 a3 : Option Addr} {n1 n2 n3 c1 c2 c3 : Nat} {tk tm at_ dn wy : Int} (h : W.heap[m]? = some (.cells (((((((((Try.zeroCells128.setIfInBounds 0 (.slice a1 n1 c1)).setIfInBounds 1 (.slice a2 n2 c2)).setIfInBounds 2 (.int .i64 tk)).setIfInBounds 3 (.slice a3 n3 c3)).setIfInBounds 4 (.int .i64 tm)).setIfInBounds 5 (.int .i64 at_)).setIfInBounds 6 (.int .i64 dn)).setIfInBounds 7 (.int .i64 wy)).setIfInBounds 136 (.map (some mb))) 128 (0, 0))) :
    LnB W m mb (.slice a1 n1 c1) (.slice a2 n2 c2) (.int .i64 tk) (.slice a3 n3 c3) (.int .i64 tm) (.int .i64 at_) (.int .i64 dn) (.int .i64 wy) (List.replicate 128 false) := by
  have hz := zero_size
  refine ⟨⟨_, h, by simp [hz], ?_, ?_, ?_, ?_, ?_, ?_, ?_, ?_, fun i hi => ?_, ?_⟩, by simp⟩
  all_goals first
    | (repeat rw [Array.getElem?_setIfInBounds_ne (by omega)]
       first
         | (rw [Array.getElem?_setIfInBounds_self_of_lt (by simp [hz])]; done)
         | (rw [zero_bool i hi, List.getElem?_replicate, if_pos hi]; rfl))
end Go.Proofs.Ytnhpcoagkmgdoaa
/- Layer 10: the program's open. -/
namespace Go.Proofs.Ytnhpcoagkmgdoaa
open Go.RowKit Go.Q Go.Shelf Go.Maps
set_option maxHeartbeats 4000000
set_option maxRecDepth 100000
theorem Try.infoL : (Try.prog.info? 61).map (fun i => (i.zero, i.size, i.bytes)) = some (some (.agg #[.int .i64 0, .int .i64 0, .int .i64 0]), 3, 24) := by kernel_rfl
theorem lv_one (y : Loss) : ∀ u ∈ lv y, u.oneCell' = true := by
 intro u hu
 simp [lv] at hu
 rcases hu with rfl | rfl | rfl <;> rfl
theorem open_chk (v : Value) (s : St) (la : Option Addr) (ln lc : Nat) (most : Int) (w : World) (h : StAt w v s) (hb : StBd s) (he : (checkQ s).2.2 ≠ 0) :
  Calls Try.prog 64 #[v, .slice la ln lc, .int .i64 most] w fun e w' => e = .returned (.tuple #[.pointer none, .int .i64 (checkQ s).2.2]) ∧ Ext w w' := by
 obtain ⟨a1, a2, a3, c1, c2, c3, rfl, i1, i2, i3⟩ := h
 have hs : StAt w (sv a1 a2 a3 s.store.length c1 s.tape.length c2 s.printed.length c3 s.taken s.time s.at_ s.done s.why) s := ⟨a1, a2, a3, c1, c2, c3, rfl, i1, i2, i3⟩
 have hc := fun W (E : Ext w W) => check_any _ s W (hs.ext E) hb
 rcases hcq : checkQ s with ⟨p, i, e⟩
 rw [hcq] at hc he
 dsimp only at he ⊢
 have hz' : (e != 0) = true := by simpa using he
 clear hcq he hs i1 i2 i3 hb
 go_enter Try.func64, Try.ntmps64
 go_wp2_with fail
 refine ((hc _ ((Ext.refl w).alloc _))).mono ?_
 rintro e w1 ⟨rfl, E1⟩
 unfold v3
 go_wp2
 go_ret2
 exact ⟨rfl, E1.old⟩
/-- what open hands back -/
def OpenL (s : St) (L : List Loss) (most : Int) (w : World) (e : Ending) (w' : World) : Prop :=
 (guardX s L most = 0 ∧ ∃ m mb, e = .returned (.tuple #[.pointer (some ⟨m, 0, none⟩), .int .i64 0]) ∧ w.heap.size ≤ m ∧ w.heap.size ≤ mb ∧ LinAt w' m mb L (beginL s) ∧ Ext w w') ∨
 (guardX s L most ≠ 0 ∧ e = .returned (.tuple #[.pointer none, .int .i64 (guardX s L most)]) ∧ Ext w w')
def lossF (L : List Loss) (k : Nat) (d : Int) : List Loss := (L.take k).filter fun y => y.after == d
theorem open_good (v : Value) (s : St) (L : List Loss) (la : Option Addr) (ln lc : Nat) (most : Int) (w : World) (h : StAt w v s) (hb : StBd s) (he : (checkQ s).2.2 = 0) (hl : L.length = ln) (hI : LossAt w la L) (hLi : ∀ y ∈ L, -9223372036854775808 ≤ y.after ∧ y.after ≤ 9223372036854775807) :
  Calls Try.prog 64 #[v, .slice la ln lc, .int .i64 most] w (OpenL s L most w) := by
 have hX : guardX s L most = if lossX L ≠ 0 then lossX L else if inB most 0 5000 = true then 0 else 7 := by unfold guardX; rw [if_neg (by omega)]
 obtain ⟨a1, a2, a3, c1, c2, c3, rfl, i1, i2, i3⟩ := h
 have hs : StAt w (sv a1 a2 a3 s.store.length c1 s.tape.length c2 s.printed.length c3 s.taken s.time s.at_ s.done s.why) s := ⟨a1, a2, a3, c1, c2, c3, rfl, i1, i2, i3⟩
 have hc := fun W (E : Ext w W) => check_any _ s W (hs.ext E) hb
 rcases hcq : checkQ s with ⟨p, i, e⟩
 rw [hcq] at hc he
 dsimp only at he ⊢
 obtain rfl : e = 0 := he
 clear hcq hs hb
 have HX := Lib.hid hX
 have HL := Lib.hid hl
 clear hX hl
 by_cases h40 : 40 < ln
 ·have h40z : (40 : Int) < (ln : Int) := by omega
  clear i1 i2 i3 hI
  go_enter Try.func64, Try.ntmps64
  go_wp2_with fail
  refine ((hc _ ((Ext.refl w).alloc _))).mono ?_
  rintro e w1 ⟨rfl, E1⟩
  unfold v3
  go_wp2
  have e3 : guardX s L most = 3 := by
   have : lossX L = 3 := by unfold lossX; rw [if_pos (by rw [HL.out]; exact h40)]
   rw [HX.out, this, if_pos (by omega)]
  exact bodyPost_ret (v := .tuple #[.pointer none, .int .i64 3]) (by simp [results, Try.results64, go_sem]) rfl (.inr ⟨by omega, by rw [e3], E1.old⟩)
 ·have h40z : ¬ (40 : Int) < (ln : Int) := by omega
  have hmm := @run_makeMap Try.prog
  obtain ⟨il, hil, hlz, hls, hlb⟩ := info_parts Try.infoL
  go_enter Try.func64, Try.ntmps64
  go_wp2_with fail
  refine ((hc _ ((Ext.refl w).alloc _))).mono ?_
  rintro e w1 ⟨rfl, E1⟩
  unfold v3
  have z0 := box_at (v := .slice a1 s.store.length c1) E1 0 rfl
  have z1 := box_at (v := .slice a2 s.tape.length c2) E1 1 rfl
  have z2 := box_at (v := .int .i64 s.taken) E1 2 rfl
  have z3 := box_at (v := .slice a3 s.printed.length c3) E1 3 rfl
  have z4 := box_at (v := .int .i64 s.time) E1 4 rfl
  have z5 := box_at (v := .int .i64 s.at_) E1 5 rfl
  have z6 := box_at (v := .int .i64 s.done) E1 6 rfl
  have z7 := box_at (v := .int .i64 s.why) E1 7 rfl
  go_wp2
  have B0 : LnB ((w1.alloc (.map #[] 0)).alloc (.cells (((((((((Try.zeroCells128.setIfInBounds 0 (.slice a1 s.store.length c1)).setIfInBounds 1 (.slice a2 s.tape.length c2)).setIfInBounds 2 (.int .i64 s.taken)).setIfInBounds 3 (.slice a3 s.printed.length c3)).setIfInBounds 4 (.int .i64 s.time)).setIfInBounds 5 (.int .i64 s.at_)).setIfInBounds 6 (.int .i64 s.done)).setIfInBounds 7 (.int .i64 s.why)).setIfInBounds 136 (.map (some w1.heap.size))) 128)) (w1.heap.size + 1) w1.heap.size (.slice a1 s.store.length c1) (.slice a2 s.tape.length c2) (.int .i64 s.taken) (.slice a3 s.printed.length c3) (.int .i64 s.time) (.int .i64 s.at_) (.int .i64 s.done) (.int .i64 s.why) (List.replicate 128 false) := line_new (by
   have e := heap_alloc_new (w1.alloc (.map #[] 0)) (.cells (((((((((Try.zeroCells128.setIfInBounds 0 (.slice a1 s.store.length c1)).setIfInBounds 1 (.slice a2 s.tape.length c2)).setIfInBounds 2 (.int .i64 s.taken)).setIfInBounds 3 (.slice a3 s.printed.length c3)).setIfInBounds 4 (.int .i64 s.time)).setIfInBounds 5 (.int .i64 s.at_)).setIfInBounds 6 (.int .i64 s.done)).setIfInBounds 7 (.int .i64 s.why)).setIfInBounds 136 (.map (some w1.heap.size))) 128)
   rw [World.size_alloc] at e
   exact e)
  have F0 : MapF encI ((w1.alloc (.map #[] 0)).alloc (.cells (((((((((Try.zeroCells128.setIfInBounds 0 (.slice a1 s.store.length c1)).setIfInBounds 1 (.slice a2 s.tape.length c2)).setIfInBounds 2 (.int .i64 s.taken)).setIfInBounds 3 (.slice a3 s.printed.length c3)).setIfInBounds 4 (.int .i64 s.time)).setIfInBounds 5 (.int .i64 s.at_)).setIfInBounds 6 (.int .i64 s.done)).setIfInBounds 7 (.int .i64 s.why)).setIfInBounds 136 (.map (some w1.heap.size))) 128)) w1.heap.size (fun _ => none) := (MapF.made (enc := encI) w1).alloc _
  have E0 : Ext w ((w1.alloc (.map #[] 0)).alloc (.cells (((((((((Try.zeroCells128.setIfInBounds 0 (.slice a1 s.store.length c1)).setIfInBounds 1 (.slice a2 s.tape.length c2)).setIfInBounds 2 (.int .i64 s.taken)).setIfInBounds 3 (.slice a3 s.printed.length c3)).setIfInBounds 4 (.int .i64 s.time)).setIfInBounds 5 (.int .i64 s.at_)).setIfInBounds 6 (.int .i64 s.done)).setIfInBounds 7 (.int .i64 s.why)).setIfInBounds 136 (.map (some w1.heap.size))) 128)) := (E1.old.alloc _).alloc _
  have hs1 := E1.old.size
  obtain ⟨W0, hW0⟩ : ∃ W0, ((w1.alloc (.map #[] 0)).alloc (.cells (((((((((Try.zeroCells128.setIfInBounds 0 (.slice a1 s.store.length c1)).setIfInBounds 1 (.slice a2 s.tape.length c2)).setIfInBounds 2 (.int .i64 s.taken)).setIfInBounds 3 (.slice a3 s.printed.length c3)).setIfInBounds 4 (.int .i64 s.time)).setIfInBounds 5 (.int .i64 s.at_)).setIfInBounds 6 (.int .i64 s.done)).setIfInBounds 7 (.int .i64 s.why)).setIfInBounds 136 (.map (some w1.heap.size))) 128)) = W0 := ⟨_, rfl⟩
  obtain ⟨mb, hmb⟩ : ∃ mb, w1.heap.size = mb := ⟨_, rfl⟩
  obtain ⟨m, hm⟩ : ∃ m, mb + 1 = m := ⟨_, rfl⟩
  rw [hW0, hmb, hm] at B0
  rw [hW0, hmb] at F0
  rw [hW0] at E0 ⊢
  rw [hmb] at hs1 ⊢
  rw [hm]
  have hmlt : mb < m := by omega
  clear hW0 hmb hm z0 z1 z2 z3 z4 z5 z6 z7 E1 hc hmm
  clear w1
  have M0 : MapO W0 w.heap.size mb (lossF L 0) := ⟨_, F0, fun x => ⟨rfl, .inl ⟨rfl, rfl⟩⟩, fun x y b _ h => by cases h⟩
  have HI := Lib.hid hI
  have HLi := Lib.hid hLi
  have j1 := Lib.hid i1
  have j2 := Lib.hid i2
  have j3 := Lib.hid i3
  clear F0 hI hLi i1 i2 i3
  go_loopw [32] (fun s32 X => ∃ k : Nat, k ≤ ln ∧ s32 = .int .i64 (k : Int) ∧ LnB X m mb (.slice a1 s.store.length c1) (.slice a2 s.tape.length c2) (.int .i64 s.taken) (.slice a3 s.printed.length c3) (.int .i64 s.time) (.int .i64 s.at_) (.int .i64 s.done) (.int .i64 s.why) (List.replicate 128 false) ∧ MapO X w.heap.size mb (lossF L k) ∧ Ext w X ∧ Hid (∀ j, j < k → lossOk (L[j]?.getD ⟨0, 0, 0⟩) = true)) (fun s32 _ => ln - (Go.RowKit.intOf s32).toNat)
  case atStart => exact ⟨0, Nat.zero_le _, rfl, B0, M0, E0, Lib.hid (fun j hj => absurd hj (Nat.not_lt_zero _))⟩
  case round =>
   clear B0 M0 E0
   obtain ⟨k, hk, rfl, B, MO, E, HO⟩ := hrel
   obtain ⟨X0, rfl⟩ : ∃ X : World, X = wr := ⟨_, rfl⟩
   by_cases hlt : k < ln
   ·have hltz : (k : Int) < (ln : Int) := by omega
    have hkL : k < L.length := by rw [HL.out]; exact hlt
    rcases HI.out with h0 | ⟨lb, off, rfl, hlb0, hlc⟩
    ·rw [h0] at hkL; simp at hkL
    obtain ⟨d0, d1, d2⟩ := hlc k hkL
    replace d0 := (E.cell (p := ⟨lb, off + k * 3, none⟩) hlb0).trans d0
    replace d1 := (E.cell (p := ⟨lb, off + k * 3 + 1, none⟩) hlb0).trans d1
    replace d2 := (E.cell (p := ⟨lb, off + k * 3 + 2, none⟩) hlb0).trans d2
    obtain ⟨y, hy⟩ : ∃ y, L[k]?.getD ⟨0, 0, 0⟩ = y := ⟨_, rfl⟩
    have hyL : y ∈ L := by rw [← hy, List.getElem?_eq_getElem hkL]; exact List.getElem_mem hkL
    have hyi := HLi.out y hyL
    rw [hy] at d0 d1 d2
    have HY := Lib.hid hy
    have HYL := Lib.hid hyL
    clear hy hyL hlc
    obtain ⟨ya, yp, yq⟩ := y
    dsimp only at d0 d1 d2 hyi
    have bad : lossOk ⟨ya, yp, yq⟩ = false → guardX s L most = 7 := fun hf => by
     have : lossX L = 7 := by
      unfold lossX
      rw [if_neg (by rw [HL.out]; exact h40), if_pos (List.any_eq_true.2 ⟨_, HYL.out, by rw [hf]; rfl⟩)]
     rw [HX.out, this, if_pos (by omega)]
    have HB := Lib.hid bad
    clear bad
    have hmX := B.lt
    cases h1 : inB ya 0 1000000000 with
    | false =>
     have e7 := HB.out (by unfold lossOk; dsimp only; rw [h1]; rfl)
     go_wp2_with (go_at_call 42; refine (out10_any _ _ _ _).mono ?_; rintro e w' ⟨rfl, rfl⟩; (try simp only [h1, Bool.not_true, Bool.not_false]))
     exact bodyPost_ret (v := .tuple #[.pointer none, .int .i64 7]) (by simp [results, Try.results64, go_sem]) rfl (.inr ⟨by omega, by rw [e7], (by repeat (first | with_reducible exact E | with_reducible refine Ext.alloc ?_ _ | with_reducible refine Below.drew ?_))⟩)
    | true =>
     cases h2 : inB yp 0 127 with
     | false =>
      have e7 := HB.out (by unfold lossOk; dsimp only; rw [h2]; simp)
      go_wp2_with (go_at_call 42; refine (out10_any _ _ _ _).mono ?_; rintro e w' ⟨rfl, rfl⟩; (try simp only [h1, h2, Bool.not_true, Bool.not_false]))
      exact bodyPost_ret (v := .tuple #[.pointer none, .int .i64 7]) (by simp [results, Try.results64, go_sem]) rfl (.inr ⟨by omega, by rw [e7], (by repeat (first | with_reducible exact E | with_reducible refine Ext.alloc ?_ _ | with_reducible refine Below.drew ?_))⟩)
     | true =>
      cases h3 : inB yq 0 24 with
      | false =>
       have e7 := HB.out (by unfold lossOk; dsimp only; rw [h3]; simp)
       go_wp2_with (go_at_call 42; refine (out10_any _ _ _ _).mono ?_; rintro e w' ⟨rfl, rfl⟩; (try simp only [h1, h2, h3, Bool.not_true, Bool.not_false]))
       exact bodyPost_ret (v := .tuple #[.pointer none, .int .i64 7]) (by simp [results, Try.results64, go_sem]) rfl (.inr ⟨by omega, by rw [e7], (by repeat (first | with_reducible exact E | with_reducible refine Ext.alloc ?_ _ | with_reducible refine Below.drew ?_))⟩)
      | true =>
       go_wp2_with (go_at_call 42; refine (out10_any _ _ _ _).mono ?_; rintro e w' ⟨rfl, rfl⟩; (try simp only [h1, h2, h3, Bool.not_true, Bool.not_false]))
       have hb1 := (loss_ok (y := ⟨ya, yp, yq⟩) (by unfold lossOk; dsimp only; rw [h1, h2, h3]; rfl))
       have hok : ∀ j, j < k + 1 → lossOk (L[j]?.getD ⟨0, 0, 0⟩) = true := fun j hj => by
        by_cases e : j = k
        ·subst e
         rw [HY.out]
         unfold lossOk
         dsimp only
         rw [h1, h2, h3]
         rfl
        ·exact HO.out j (by omega)
       have HO2 := Lib.hid hok
       clear hok hb1 h1 h2 h3 HO HB d0 d1 d2
       have z0 := box_at (v := .int .i64 ya) (Ext.refl (X0.alloc (.cells #[.int .i64 ya, .int .i64 yp, .int .i64 yq] 61))) 0 rfl
       have z1 := box_at (v := .int .i64 yp) (Ext.refl (X0.alloc (.cells #[.int .i64 ya, .int .i64 yp, .int .i64 yq] 61))) 1 rfl
       have z2 := box_at (v := .int .i64 yq) (Ext.refl (X0.alloc (.cells #[.int .i64 ya, .int .i64 yp, .int .i64 yq] 61))) 2 rfl
       have EX := (Ext.refl X0).alloc (.cells #[.int .i64 ya, .int .i64 yp, .int .i64 yq] 61)
       have hsz : X0.heap.size < (X0.alloc (.cells #[.int .i64 ya, .int .i64 yp, .int .i64 yq] 61)).heap.size := by simp
       have hrN : ∀ v b n xs, X0.ownsRow w.heap.size 61 3 v n xs → v.ownBlock = some b → b < X0.heap.size := fun v b n xs h hb => (own_ltz h hb).2.1
       obtain ⟨N, hN⟩ : ∃ N, X0.heap.size = N := ⟨_, rfl⟩
       obtain ⟨X, hX⟩ : ∃ X, X0.alloc (.cells #[.int .i64 ya, .int .i64 yp, .int .i64 yq] 61) = X := ⟨_, rfl⟩
       rw [hN, hX]
       rw [hN, hX] at z0 z1 z2 hsz
       rw [hX] at EX
       rw [hN] at hmX hrN
       clear hN hX
       obtain ⟨f, hF0, hR0, hA⟩ := MO
       have hF := hF0.ext EX
       have hR : ∀ x, X.ownsRow w.heap.size 61 3 ((f x).getD (.slice none 0 0)) (lossF L k x.1).length (lvs (lossF L k x.1)) := fun x => own_kpz (M := fun _ => False) (hR0 x) ((KpM.of_ext EX).mono fun _ h => h) (fun _ _ h => h)
       have hrb : ∀ x b, ((f x).getD (.slice none 0 0)).ownBlock = some b → b ≠ N ∧ b ≠ m ∧ b ≠ mb ∧ w.heap.size ≤ b := fun x b hb => by
        have h1 := hrN _ _ _ _ (hR0 x) hb
        obtain ⟨h0, h2, cs, hc⟩ := own_ltz (hR0 x) hb
        obtain ⟨cs2, hc2, _⟩ := B.blk
        obtain ⟨es, kk, hc3⟩ := map_block hF0
        refine ⟨by omega, fun e => ?_, fun e => ?_, h0⟩
        ·rw [e, hc2] at hc; cases hc
        ·rw [e, hc3] at hc; cases hc
       have BX := B.ext EX
       have HBX := Lib.hid BX
       have EE := E.comp EX
       clear B hR0 hF0 hrN E
       obtain ⟨ky, hky⟩ : ∃ ky : I64, ky.1 = ya := ⟨⟨ya, hyi⟩, rfl⟩
       have hke : encI ky = .int .i64 ya := by unfold encI; rw [hky]
       obtain ⟨v0, hv0⟩ : ∃ v0, (f ky).getD (.slice none 0 0) = v0 := ⟨_, rfl⟩
       obtain ⟨q, hq⟩ : ∃ q, (lossF L k ky.1).length = q := ⟨_, rfl⟩
       have hq40 : q ≤ 40 := by
        rw [← hq]
        unfold lossF
        exact Nat.le_trans (List.length_filter_le _ _) (Nat.le_trans (List.length_take_le _ _) (by omega))
       have hbv := fun b (h : v0.ownBlock = some b) => hrb ky b (by rw [hv0]; exact h)
       have HRo := Lib.hid hR
       have HHA := Lib.hid hA
       have hrow : (X.drew.alloc (.cells #[.int .i64 ya, .int .i64 yp, .int .i64 yq] 61)).ownsRow w.heap.size 61 3 v0 q (lvs (lossF L k ky.1)) := by
        have h := hR ky
        rw [hv0, hq] at h
        exact own_kpz (M := fun _ => False) h ((KpM.of_ext (Ext.alloc (Ext.refl X).drew _)).mono fun _ h => h) (fun _ _ h => h)
       have HS : ∀ Y : World, (Y.heap[m]? = X.heap[m]? ∧ Y.heap[N]? = X.heap[N]? ∧ Y.heap[mb]? = X.heap[mb]?) → Y.cell? ⟨m, 136, none⟩ = some (.map (some mb)) ∧ Y.cell? ⟨N, 0, none⟩ = some (.int .i64 ya) ∧ Y.cell? ⟨N, 1, none⟩ = some (.int .i64 yp) ∧ Y.cell? ⟨N, 2, none⟩ = some (.int .i64 yq) ∧
         (Instr.lookup 126 (.map (some mb)) (.int .i64 ya) false).run Try.prog Y = .ok v0 Y := fun Y hS => by
        refine ⟨(World.cell?_of_block (w := X) (a := ⟨m, 136, none⟩) hS.1).trans BX.cm, (World.cell?_of_block (w := X) (a := ⟨N, 0, none⟩) hS.2.1).trans z0, (World.cell?_of_block (w := X) (a := ⟨N, 1, none⟩) hS.2.1).trans z1, (World.cell?_of_block (w := X) (a := ⟨N, 2, none⟩) hS.2.1).trans z2, ?_⟩
        have h := (hF.same hS.2.2).look false keyI Try.underlying126 (zeroRow Y) ky
        rw [hv0, hke] at h
        exact h
       have hmbX := hF.lt
       have hmX2 := BX.lt
       have hSA : (X.drew.alloc (.cells #[.int .i64 ya, .int .i64 yp, .int .i64 yq] 61)).heap[m]? = X.heap[m]? ∧ (X.drew.alloc (.cells #[.int .i64 ya, .int .i64 yp, .int .i64 yq] 61)).heap[N]? = X.heap[N]? ∧ (X.drew.alloc (.cells #[.int .i64 ya, .int .i64 yp, .int .i64 yq] 61)).heap[mb]? = X.heap[mb]? := by
        have e := Ext.alloc (Ext.refl X).drew (.cells #[.int .i64 ya, .int .i64 yp, .int .i64 yq] 61)
        exact ⟨e.block m hmX2, e.block N hsz, e.block mb hmbX⟩
       have hsT : ∀ b, b < X.heap.size → b < (X.drew.alloc (.cells #[.int .i64 ya, .int .i64 yp, .int .i64 yq] 61)).heap.size := fun b hb => by rw [World.size_alloc]; exact Nat.lt_succ_of_lt hb
       have hSB : ∀ X2 : World, (X.drew.alloc (.cells #[.int .i64 ya, .int .i64 yp, .int .i64 yq] 61)).grownBy X2 v0.ownBlock → X2.heap[m]? = X.heap[m]? ∧ X2.heap[N]? = X.heap[N]? ∧ X2.heap[mb]? = X.heap[mb]? := fun X2 G =>
        ⟨(G.block m (hsT m hmX2) (fun e => (hbv m e.symm).2.1 rfl)).trans hSA.1, (G.block N (hsT N hsz) (fun e => (hbv N e.symm).1 rfl)).trans hSA.2.1, (G.block mb (hsT mb hmbX) (fun e => (hbv mb e.symm).2.2.1 rfl)).trans hSA.2.2⟩
       have hFB : ∀ X2 : World, (X2.heap[m]? = X.heap[m]? ∧ X2.heap[N]? = X.heap[N]? ∧ X2.heap[mb]? = X.heap[mb]?) → MapF encI X2 mb f := fun X2 h => hF.same h.2.2
       have hnew : ∀ j u, (lv ⟨ya, yp, yq⟩)[j]? = some u → (X.drew.alloc (.cells #[.int .i64 ya, .int .i64 yp, .int .i64 yq] 61)).cell? ((⟨X.heap.size, 0, none⟩ : Addr).add j) = some u := fun j u hu => by
        match j, hu with
        | 0, hu => cases hu; exact box_at (w := X.drew) (Ext.refl _) 0 rfl
        | 1, hu => cases hu; exact box_at (w := X.drew) (Ext.refl _) 1 rfl
        | 2, hu => cases hu; exact box_at (w := X.drew) (Ext.refl _) 2 rfl
       clear hR hA z0 z1 z2 EX
       refine wp_region_Z (fun i => i == 16) (fun Y => Y.heap[m]? = X.heap[m]? ∧ Y.heap[N]? = X.heap[N]? ∧ Y.heap[mb]? = X.heap[mb]?) (by kernel_rfl) ⟨rfl, rfl, rfl⟩ fun hSX => ?_
       refine wpAnyZ_take (i := 0) (oi := ⟨_, _, _, _, _, _⟩) (v := ?_) rfl (by kernel_rfl) (by kernel_rfl) (by kernel_rfl) (by kernel_rfl) (fun _ _ _ h => h) (Or.inl ⟨by rfl, ?_⟩) hSX ?_
       rotate_left
       ·intro wX hS
        obtain ⟨q0, q1, q2, q3, q4⟩ := HS wX hS
        go_simp
        (try with_reducible rfl)
       (try simp only [Act.put, List.setIfInBounds_toArray, List.set_cons_zero, List.set_cons_succ])
       refine wpAnyZ_take (i := 1) (oi := ⟨_, _, _, _, _, _⟩) (v := ?_) rfl (by kernel_rfl) (by kernel_rfl) (by kernel_rfl) (by kernel_rfl) (fun _ _ _ h => h) (Or.inl ⟨by rfl, ?_⟩) hSX ?_
       rotate_left
       ·intro wX hS
        obtain ⟨q0, q1, q2, q3, q4⟩ := HS wX hS
        go_simp
        (try with_reducible rfl)
       (try simp only [Act.put, List.setIfInBounds_toArray, List.set_cons_zero, List.set_cons_succ])
       refine wpAnyZ_take (i := 2) (oi := ⟨_, _, _, _, _, _⟩) (v := ?_) rfl (by kernel_rfl) (by kernel_rfl) (by kernel_rfl) (by kernel_rfl) (fun _ _ _ h => h) (Or.inl ⟨by rfl, ?_⟩) hSX ?_
       rotate_left
       ·intro wX hS
        obtain ⟨q0, q1, q2, q3, q4⟩ := HS wX hS
        go_simp
        (try with_reducible rfl)
       (try simp only [Act.put, List.setIfInBounds_toArray, List.set_cons_zero, List.set_cons_succ])
       refine wpAnyZ_take (i := 3) (oi := ⟨_, _, _, _, _, _⟩) (v := ?_) rfl (by kernel_rfl) (by kernel_rfl) (by kernel_rfl) (by kernel_rfl) (fun _ _ _ h => h) (Or.inl ⟨by rfl, ?_⟩) hSX ?_
       rotate_left
       ·intro wX hS
        obtain ⟨q0, q1, q2, q3, q4⟩ := HS wX hS
        go_simp
        (try with_reducible rfl)
       (try simp only [Act.put, List.setIfInBounds_toArray, List.set_cons_zero, List.set_cons_succ])
       refine wpAnyZ_take (i := 4) (oi := ⟨_, _, _, _, _, _⟩) (v := ?_) rfl (by kernel_rfl) (by kernel_rfl) (by kernel_rfl) (by kernel_rfl) (fun _ _ _ h => h) (Or.inl ⟨by rfl, ?_⟩) hSX ?_
       rotate_left
       ·intro wX hS
        obtain ⟨q0, q1, q2, q3, q4⟩ := HS wX hS
        go_simp
        (try with_reducible rfl)
       (try simp only [Act.put, List.setIfInBounds_toArray, List.set_cons_zero, List.set_cons_succ])
       refine wpAnyZ_take (i := 5) (oi := ⟨_, _, _, _, _, _⟩) (v := ?_) rfl (by kernel_rfl) (by kernel_rfl) (by kernel_rfl) (by kernel_rfl) (fun _ _ _ h => h) (Or.inl ⟨by rfl, ?_⟩) hSX ?_
       rotate_left
       ·intro wX hS
        obtain ⟨q0, q1, q2, q3, q4⟩ := HS wX hS
        go_simp
        (try with_reducible rfl)
       (try simp only [Act.put, List.setIfInBounds_toArray, List.set_cons_zero, List.set_cons_succ])
       refine wpAnyZ_take (i := 6) (oi := ⟨_, _, _, _, _, _⟩) (v := ?_) rfl (by kernel_rfl) (by kernel_rfl) (by kernel_rfl) (by kernel_rfl) (fun _ _ _ h => h) (Or.inl ⟨by rfl, ?_⟩) hSX ?_
       rotate_left
       ·intro wX hS
        obtain ⟨q0, q1, q2, q3, q4⟩ := HS wX hS
        go_simp
        (try with_reducible rfl)
       (try simp only [Act.put, List.setIfInBounds_toArray, List.set_cons_zero, List.set_cons_succ])
       refine wpAnyZ_take (i := 7) (oi := ⟨_, _, _, _, _, _⟩) (v := ?_) rfl (by kernel_rfl) (by kernel_rfl) (by kernel_rfl) (by kernel_rfl) (fun _ _ _ h => h) (Or.inl ⟨by rfl, ?_⟩) hSX ?_
       rotate_left
       ·intro wX hS
        obtain ⟨q0, q1, q2, q3, q4⟩ := HS wX hS
        go_simp
        (try with_reducible rfl)
       (try simp only [Act.put, List.setIfInBounds_toArray, List.set_cons_zero, List.set_cons_succ])
       refine wpAnyZ_take (i := 8) (oi := ⟨_, _, _, _, _, _⟩) (v := ?_) rfl (by kernel_rfl) (by kernel_rfl) (by kernel_rfl) (by kernel_rfl) (fun _ _ _ h => h) (Or.inl ⟨by rfl, ?_⟩) hSX ?_
       rotate_left
       ·intro wX hS
        obtain ⟨q0, q1, q2, q3, q4⟩ := HS wX hS
        go_simp
        (try with_reducible rfl)
       (try simp only [Act.put, List.setIfInBounds_toArray, List.set_cons_zero, List.set_cons_succ])
       refine wpAnyZ_take (i := 9) (oi := ⟨_, _, _, _, _, _⟩) (v := ?_) rfl (by kernel_rfl) (by kernel_rfl) (by kernel_rfl) (by kernel_rfl) (fun _ _ _ h => h) (Or.inl ⟨by rfl, ?_⟩) hSX ?_
       rotate_left
       ·intro wX hS
        obtain ⟨q0, q1, q2, q3, q4⟩ := HS wX hS
        go_simp
        (try with_reducible rfl)
       (try simp only [Act.put, List.setIfInBounds_toArray, List.set_cons_zero, List.set_cons_succ])
       refine wpAnyZ_take (i := 10) (oi := ⟨_, _, _, _, _, _⟩) (v := ?_) rfl (by kernel_rfl) (by kernel_rfl) (by kernel_rfl) (by kernel_rfl) (fun _ _ _ h => h) (Or.inl ⟨by rfl, ?_⟩) hSX ?_
       rotate_left
       ·intro wX hS
        obtain ⟨q0, q1, q2, q3, q4⟩ := HS wX hS
        go_simp
        (try with_reducible rfl)
       (try simp only [Act.put, List.setIfInBounds_toArray, List.set_cons_zero, List.set_cons_succ])
       refine wpAnyZ_take (i := 11) (oi := ⟨_, _, _, _, _, _⟩) (v := ?_) rfl (by kernel_rfl) (by kernel_rfl) (by kernel_rfl) (by kernel_rfl) (fun _ _ _ h => h) (Or.inl ⟨by rfl, ?_⟩) hSX ?_
       rotate_left
       ·intro wX hS
        obtain ⟨q0, q1, q2, q3, q4⟩ := HS wX hS
        go_simp
        (try with_reducible rfl)
       (try simp only [Act.put, List.setIfInBounds_toArray, List.set_cons_zero, List.set_cons_succ])
       refine wpAnyZ_take (i := 12) (oi := ⟨_, _, _, _, _, _⟩) (v := ?_) rfl (by kernel_rfl) (by kernel_rfl) (by kernel_rfl) (by kernel_rfl) (fun _ _ _ h => h) (Or.inl ⟨by rfl, ?_⟩) hSX ?_
       rotate_left
       ·intro wX hS
        obtain ⟨q0, q1, q2, q3, q4⟩ := HS wX hS
        go_simp
        (try with_reducible rfl)
       (try simp only [Act.put, List.setIfInBounds_toArray, List.set_cons_zero, List.set_cons_succ])
       refine wpAnyZ_take (i := 13) (oi := ⟨_, _, _, _, _, _⟩) (v := ?_) rfl (by kernel_rfl) (by kernel_rfl) (by kernel_rfl) (by kernel_rfl) (fun _ _ _ h => h) (Or.inl ⟨by rfl, ?_⟩) hSX ?_
       rotate_left
       ·intro wX hS
        obtain ⟨q0, q1, q2, q3, q4⟩ := HS wX hS
        go_simp
        (try with_reducible rfl)
       (try simp only [Act.put, List.setIfInBounds_toArray, List.set_cons_zero, List.set_cons_succ])
       refine wpAnyZ_one (i := 14) (o := ⟨_, _, _, _, _, _⟩) (by kernel_rfl) rfl (fun K hK => ?_)
       go_simp
       refine hK _ _ (.inr ?_) (fun hS1 => ?_)
       ·exact hSA
       clear hK
       (try simp only [Act.put, List.setIfInBounds_toArray, List.set_cons_zero, List.set_cons_succ])
       refine wpAnyZ_one (i := 15) (o := ⟨_, _, _, _, _, _⟩) (by kernel_rfl) rfl (fun K hK => ?_)
       rw [if_pos (by rfl)]
       refine wp_app_at _ _ 42 rfl 61 il (.agg #[.int .i64 0, .int .i64 0, .int .i64 0]) 3 24 Try.underlying42 hil hlz hls hlb rfl (by decide) _ q w.heap.size (lvs (lossF L k ky.1)) rfl hrow (Nat.le_trans EE.size (by simp)) ⟨X.heap.size, 0, none⟩ 1 1 (lv ⟨ya, yp, yq⟩) rfl rfl ?_ ?_ (by unfold maxLen; omega) (by omega) ?_
       ·exact hnew
       ·exact lv_one _
       intro v2 X2 ho2 G2 hv2
       refine hK _ _ (.inr ?_) (fun hS2 => ?_)
       ·exact hSB X2 G2
       clear hK
       (try simp only [Act.put, List.setIfInBounds_toArray, List.set_cons_zero, List.set_cons_succ])
       refine wpAnyZ_one (i := 16) (o := ⟨_, _, _, _, _, _⟩) (by kernel_rfl) rfl (fun K hK => ?_)
       rw [if_pos (by rfl)]
       refine wp_putF _ _ _ 126 rfl 42 keyI Try.underlying126 mb rfl (hFB X2 (hS2.resolve_left (by decide))) ky v2 hke.symm rfl fun X3 F3 G3 S3 => ?_
       refine hK _ _ (.inl rfl) (fun _ => ?_)
       clear hK
       (try simp only [Act.put, List.setIfInBounds_toArray, List.set_cons_zero, List.set_cons_succ])
       refine wpAnyZ_done (by kernel_rfl) ?_ _
       have hq2 : lossF L (k + 1) ky.1 = lossF L k ky.1 ++ [⟨ya, yp, yq⟩] := by
        unfold lossF
        rw [take_next hkL, List.filter_append, HY.out, List.filter_cons_of_pos (by simp [hky])]
        rfl
       have hq3 : ∀ d, d ≠ ky.1 → lossF L (k + 1) d = lossF L k d := fun d hd => by
        unfold lossF
        rw [take_next hkL, List.filter_append, HY.out, List.filter_cons_of_neg (by simp; omega)]
        simp
       have EA := Ext.alloc (Ext.refl X).drew (.cells #[.int .i64 ya, .int .i64 yp, .int .i64 yq] 61)
       have MO3 : MapO X3 w.heap.size mb (lossF L (k + 1)) := by
        refine map_add (w := X.drew.alloc (.cells #[.int .i64 ya, .int .i64 yp, .int .i64 yq] 61)) (f := f) (k := ky) (g := lossF L k) (hF.ext EA) (fun x => own_kpz (M := fun _ => False) (HRo.out x) ((KpM.of_ext EA).mono fun _ h => h) (fun _ _ h => h)) HHA.out ?_ (by rw [hv0]; exact G2) (by rw [hv0]; exact hv2) F3 G3 hq3
        rw [hq2, lvs_snoc, List.length_append, hq]
        exact ho2
       have K3 : KpM (fun b => v0.ownBlock = some b ∨ b = mb) X X3 := by
        have k1 : KpM (fun b => v0.ownBlock = some b ∨ b = mb) (X.drew.alloc (.cells #[.int .i64 ya, .int .i64 yp, .int .i64 yq] 61)) X2 := ⟨G2.size, fun b hb hn => G2.block b hb (fun e => hn (.inl e.symm)), G2.os, G2.tape, G2.output⟩
        exact ((KpM.of_ext EA).trans k1).trans ((kp_grown G3).mono fun b h => .inr h)
       have B3 := HBX.out.kp K3 (by
        rintro (h | h)
        ·exact (hbv m h).2.1 rfl
        ·omega)
       have E3 : Ext w X3 := EE.below5 K3 (by
        rintro b (h | h)
        ·exact (hbv b h).2.2.2
        ·rw [h]; exact hs1)
       clear hq2 hq3 HRo HHA HS hSB hFB hnew K3 EA G2 G3 S3 ho2 hv2 F3 hrb hbv hrow hke
       go_wp2
       go_roundw
       case rel => exact ⟨k + 1, by omega, by go_num, B3, MO3, E3, HO2⟩
       case measure => simp [Go.RowKit.intOf]; omega
   ·have hltz : ¬ (k : Int) < (ln : Int) := by omega
    obtain rfl : k = ln := by omega
    have e0 : lossX L = 0 := by
     unfold lossX
     rw [if_neg (by rw [HL.out]; exact h40), if_neg]
     intro h
     rw [List.any_eq_true] at h
     obtain ⟨y, hy, hf⟩ := h
     obtain ⟨j, hj, rfl⟩ := List.getElem_of_mem hy
     have := HO.out j (by rw [← HL.out]; exact hj)
     rw [List.getElem?_eq_getElem hj] at this
     rw [show lossOk L[j] = true from this] at hf
     cases hf
    have ML := MO.toL
    have hML : MapL X0 mb (leftL L (beginL s).gone) := by
     obtain ⟨f, h1, h2⟩ := ML
     refine ⟨f, h1, fun x => ?_⟩
     have h := h2 x
     unfold lossF at h
     rw [List.take_of_length_le (by rw [HL.out]; exact Nat.le_refl _)] at h
     exact h
    have HM := Lib.hid hML
    have HBf := Lib.hid B
    have HE := Lib.hid E
    clear MO ML hML B E HO HLi
    cases h1 : inB most 0 5000 with
    | false =>
     have e7 : guardX s L most = 7 := by rw [HX.out, e0, if_neg (by omega), h1]; rfl
     go_wp2_with (go_at_call 42; refine (out10_any _ _ _ _).mono ?_; rintro e w' ⟨rfl, rfl⟩; (try simp only [h1, Bool.not_true, Bool.not_false]))
     exact bodyPost_ret (v := .tuple #[.pointer none, .int .i64 7]) (by simp [results, Try.results64, go_sem]) rfl (.inr ⟨by omega, by rw [e7], (by repeat (first | with_reducible exact HE.out | with_reducible refine Ext.alloc ?_ _ | with_reducible refine Below.drew ?_))⟩)
    | true =>
     have e7 : guardX s L most = 0 := by rw [HX.out, e0, if_neg (by omega), h1]; rfl
     go_wp2_with (go_at_call 42; refine (out10_any _ _ _ _).mono ?_; rintro e w' ⟨rfl, rfl⟩; (try simp only [h1, Bool.not_true, Bool.not_false]))
     have hno : ∀ b, b < w.heap.size → ¬ LX m mb (fun _ => False) b := fun b hb h => by
      rcases h with (h | h) | h
      ·omega
      ·omega
      ·exact h
     refine bodyPost_ret (v := .tuple #[.pointer (some ⟨m, 0, none⟩), .int .i64 0]) (by simp [results, Try.results64, go_sem]) rfl (.inl ⟨e7, m, mb, rfl, by omega, hs1, ?_, HE.out⟩)
     exact ⟨a1, a2, a3, c1, c2, c3, HBf.out, (IntsF.of_at j1.out hno).ext HE.out, (IntsF.of_at j2.out hno).ext HE.out, (IntsF.of_at j3.out hno).ext HE.out, HM.out⟩
/-- open, whatever it is given -/
theorem open_any (v : Value) (s : St) (L : List Loss) (la : Option Addr) (ln lc : Nat) (most : Int) (w : World) (h : StAt w v s) (hb : StBd s) (hl : L.length = ln) (hI : LossAt w la L) (hLi : ∀ y ∈ L, -9223372036854775808 ≤ y.after ∧ y.after ≤ 9223372036854775807) :
  Calls Try.prog 64 #[v, .slice la ln lc, .int .i64 most] w (OpenL s L most w) := by
 by_cases he : (checkQ s).2.2 = 0
 ·exact open_good v s L la ln lc most w h hb he hl hI hLi
 ·have e7 : guardX s L most = (checkQ s).2.2 := by unfold guardX; rw [if_pos he]
  refine (open_chk v s la ln lc most w h hb he).mono ?_
  rintro e w' ⟨rfl, E⟩
  exact .inr ⟨by omega, by rw [e7], E⟩
end Go.Proofs.Ytnhpcoagkmgdoaa

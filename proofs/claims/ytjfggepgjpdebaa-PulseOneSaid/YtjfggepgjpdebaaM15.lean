import Derived.Deep.RegionHeld3
import Derived.Test.YtjfggepgjpdebaaM14
import Derived.Test.YtjfggepgjpdebaaM10
set_option linter.unusedVariables false
set_option linter.unusedSimpArgs false
/- Contract: the lines that enter has copied. -/
namespace Go.Proofs.Ytjfggepgjpdebaa
open Go.RowKit Go.Q
/-- what of the lines has been copied -/
structure EntL (w wr : World) (G : Nat) (b : PuB) (k : Nat) (la : Option Addr) (lc : Nat) (vs : Nat → Value) : Prop where
  ext : Ext w wr
  gat : Blk wr G #[.pointer none, .slice la k lc, .int .i64 b.beat, .int .i64 b.carry, .int .i64 b.sum] 111
  own : wr.ownsRow w.heap.size 69 1 (.slice la k lc) k ((List.range k).map vs)
  row : ∀ i, i < k → wr.ownsRow w.heap.size 4 1 (vs i) 384 (bv (b.lines[i]?.getD []))
  apart : ∀ i j q, i < k → j < k → i ≠ j → (vs i).ownBlock = some q → (vs j).ownBlock ≠ some q
theorem EntL.ne {w wr : World} {G k lc : Nat} {b : PuB} {la : Option Addr} {vs : Nat → Value} (h : EntL w wr G b k la lc vs) : some G ≠ (Value.slice la k lc).ownBlock := by
  intro e
  rcases h.own.2 with ⟨e1, _⟩ | ⟨g, cap, cur, e1, _, hg, _⟩
  · rw [e1] at e; cases e
  · rw [e1] at e
    obtain rfl : G = g := by simpa [Value.ownBlock] using e
    have := Eq.trans (Eq.symm h.gat) hg
    simp at this
theorem EntL.gat6 {w wr w5 w6 : World} {G k lc : Nat} {b : PuB} {la : Option Addr} {vs : Nat → Value} {ob : Obj} (h : EntL w wr G b k la lc vs) (E : Ext wr w5) (hg : (w5.alloc ob).grownBy w6 (Value.slice la k lc).ownBlock) : Blk w6 G #[.pointer none, .slice la k lc, .int .i64 b.beat, .int .i64 b.carry, .int .i64 b.sum] 111 :=
  (hg.block G (by have := (h.gat.ex E).lt; simp; omega) h.ne).trans ((h.gat.ex E).al ob)
theorem own_typ {W : World} {B n : Nat} {e : TypeId} {v : Value} {xs : List Value} {q : Nat} (h : W.ownsRow B e 1 v n xs) (hq : v.ownBlock = some q) : ∃ cur, W.heap[q]? = some (.cells cur e (0, 0)) := by
  rcases h.2 with ⟨e1, _⟩ | ⟨g, cap, cur, e1, _, hg, _⟩
  · rw [e1] at hq; cases hq
  · rw [e1] at hq
    obtain rfl : g = q := by simpa [Value.ownBlock] using hq
    exact ⟨_, hg⟩
theorem own_le {W : World} {B B' n : Nat} {e : TypeId} {v : Value} {xs : List Value} (h : W.ownsRow B e 1 v n xs) (hb : B' ≤ B) : W.ownsRow B' e 1 v n xs := by
  rcases h with ⟨h0, h1 | ⟨g, cap, cur, e1, h2, h3⟩⟩
  · exact ⟨h0, .inl h1⟩
  · exact ⟨h0, .inr ⟨g, cap, cur, e1, Nat.le_trans hb h2, h3⟩⟩
theorem EntL.step {w wr w5 w6 : World} {k lc c5 c6 B5 : Nat} {b : PuB} {la a5 a6 : Option Addr} {vs : Nat → Value} {ob : Obj} (h : EntL w wr (w.heap.size + 1) b k la lc vs) (E5 : Ext wr w5)
    (ho5 : w5.ownsRow B5 4 1 (.slice a5 384 c5) 384 (bv (b.lines[k]?.getD []))) (hB5 : wr.heap.size ≤ B5)
    (ho6 : w6.ownsRow w.heap.size 69 1 (.slice a6 (k + 1) c6) (k + 1) ((List.range k).map vs ++ [.slice a5 384 c5]))
    (hg : (w5.alloc ob).grownBy w6 (Value.slice la k lc).ownBlock) (hE6 : Ext w w6) :
    EntL w (w6.setCell ⟨w.heap.size + 1, 1, none⟩ (.slice a6 (k + 1) c6)) (w.heap.size + 1) b (k + 1) a6 c6 (fun i => if i = k then .slice a5 384 c5 else vs i) := by
  have hG6 := h.gat6 E5 hg
  have hS := h.ext.size
  have hla : (w5.alloc ob).ownsRow w.heap.size 69 1 (.slice la k lc) k ((List.range k).map vs) := World.ownsRow.alloc (own_later h.own (fun q hq => E5.block q (own_lt h.own hq))) _
  have row6 : ∀ {B n : Nat} {v : Value} {xs : List Value}, (w5.alloc ob).ownsRow B 4 1 v n xs → (w6.setCell ⟨w.heap.size + 1, 1, none⟩ (.slice a6 (k + 1) c6)).ownsRow B 4 1 v n xs := by
    intro B n v xs hr
    refine own_later hr (fun q hq => ?_)
    obtain ⟨cur, hc⟩ := own_typ hr hq
    have h1 : w6.heap[q]? = (w5.alloc ob).heap[q]? := hg.block q (own_lt hr hq) (fun e => by
      obtain ⟨cur', hc'⟩ := own_typ hla e.symm
      have := Eq.trans (Eq.symm hc) hc'
      simp at this)
    refine (Below.heap_setCell _ _ _ _ (fun e => ?_)).trans h1
    have hc6 := h1.trans hc
    have e' : q = w.heap.size + 1 := by simpa using e
    rw [e'] at hc6
    have := Eq.trans (Eq.symm hc6) hG6
    simp at this
  refine ⟨hE6.setCell (by simp) _, hG6.st 1 _, ?_, ?_, ?_⟩
  · have : (List.range (k + 1)).map (fun i => if i = k then Value.slice a5 384 c5 else vs i) = (List.range k).map vs ++ [.slice a5 384 c5] := by
      rw [List.range_succ, List.map_append]
      congr 1
      · exact List.map_congr_left (fun i hi => by have := List.mem_range.1 hi; rw [if_neg (by omega)])
      · simp
    rw [this]
    refine own_later ho6 (fun q hq => Below.heap_setCell _ _ _ _ (fun e => ?_))
    obtain ⟨cur, hc⟩ := own_typ ho6 hq
    have e' : q = w.heap.size + 1 := by simpa using e
    rw [e'] at hc
    have := Eq.trans (Eq.symm hc) hG6
    simp at this
  · intro i hi
    by_cases e : i = k
    · rw [if_pos e, e]
      exact row6 (World.ownsRow.alloc (own_le ho5 (by omega)) _)
    · rw [if_neg e]
      exact row6 (World.ownsRow.alloc (own_later (h.row i (by omega)) (fun q hq => E5.block q (own_lt (h.row i (by omega)) hq))) _)
  · intro i j q hi hj hne
    by_cases e : i = k
    · rw [if_pos e, if_neg (by omega)]
      intro h1 h2
      have := (own_at ho5 h1).1
      have := own_lt (h.row j (by omega)) h2
      omega
    · rw [if_neg e]
      by_cases e2 : j = k
      · rw [if_pos e2]
        intro h1 h2
        have := (own_at ho5 h2).1
        have := own_lt (h.row i (by omega)) h1
        omega
      · rw [if_neg e2]
        exact h.apart i j q (by omega) (by omega) hne
theorem EntL.keep {w wr w5 w6 : World} {k lc B : Nat} {b : PuB} {la : Option Addr} {vs : Nat → Value} {ob : Obj} {cs : Array Value} {T : TypeId} (h : EntL w wr (w.heap.size + 1) b k la lc vs) (E5 : Ext wr w5)
    (hg : (w5.alloc ob).grownBy w6 (Value.slice la k lc).ownBlock) (hb : Blk wr B cs T) (hT : T ≠ 69) (hne : B ≠ w.heap.size + 1) (v : Value) : Blk (w6.setCell ⟨w.heap.size + 1, 1, none⟩ v) B cs T := by
  have h5 := (hb.ex E5).al ob
  refine Blk.ot (Eq.trans (hg.block B h5.lt (fun e => ?_)) h5) hne
  obtain ⟨cur, hc⟩ := own_typ (World.ownsRow.alloc (own_later h.own (fun q hq => E5.block q (own_lt h.own hq))) ob) e.symm
  have := Eq.trans (Eq.symm h5) hc
  simp at this
  exact hT this.2
theorem Blk.range14 {W : World} {B : Nat} {T : TypeId} {v0 v1 v2 v3 v4 v5 v6 v7 v8 v9 v10 v11 v12 v13 v14 v15 v16 v17 : Value} (h : Blk W B #[v0, v1, v2, v3, v4, v5, v6, v7, v8, v9, v10, v11, v12, v13, v14, v15, v16, v17] T) : W.rangeAt B 1 [v1, v2, v3, v4, v5, v6, v7, v8, v9, v10, v11, v12, v13, v14] := by
  intro j v hv
  refine h.c (1 + j) ?_
  rcases j with _ | _ | _ | _ | _ | _ | _ | _ | _ | _ | _ | _ | _ | _ | j
  all_goals first | exact hv | (simp at hv)
end Go.Proofs.Ytjfggepgjpdebaa
/- What enter has copied of the lines, with a control, is a machine at work beat by beat. -/
namespace Go.Proofs.Ytjfggepgjpdebaa
open Go.RowKit Go.Q
theorem Ctl.low_le {w : World} {nb nb' m g1 c1 : Nat} {tv pv : Value} {s : Pu} {o : Ord} (h : Ctl w nb m g1 c1 tv pv s o) (hb : nb' ≤ nb) : Ctl w nb' m g1 c1 tv pv s o where
  low := ⟨Nat.le_trans hb h.low.1, Nat.le_trans hb h.low.2.1, h.low.2.2⟩
  blk := h.blk
  st := h.st
  len := h.len
  tp := h.tp
  prow := own_le h.prow hb
  pm := h.pm
  pg := h.pg
theorem EntL.form {w wr : World} {G lc : Nat} {b : PuB} {la : Option Addr} {vs : Nat → Value} (h : EntL w wr G b 8 la lc vs) : ∃ LB, la = some ⟨LB, 0, none⟩ := by
  rcases h.own.2 with ⟨_, e1⟩ | ⟨g, cap, cur, e1, _⟩
  · omega
  · simp only [Value.slice.injEq] at e1
    exact ⟨g, e1.1⟩
theorem EntL.done {w wr W : World} {LB lc nb2 m g1 c1 : Nat} {b : PuB} {vs : Nat → Value} {tv pv : Value} {st0 : List Int} (h : EntL w wr (w.heap.size + 1) b 8 (some ⟨LB, 0, none⟩) lc vs) (E : Ext wr W)
    (C : Ctl W nb2 m g1 c1 tv pv { b.now with store := st0 } (ordP b.now)) (hn : w.heap.size ≤ nb2) :
    Gat (W.setCell ⟨w.heap.size + 1, 0, none⟩ (.pointer (some ⟨m, 0, none⟩))) w.heap.size (w.heap.size + 1) m g1 c1 tv pv LB lc vs b st0 := by
  have hG := h.gat.ex E
  have other : ∀ {B : Nat} {cur : Array Value} {T : TypeId}, W.heap[B]? = some (.cells cur T (0, 0)) → T ≠ 111 → (W.setCell ⟨w.heap.size + 1, 0, none⟩ (.pointer (some ⟨m, 0, none⟩))).heap[B]? = some (.cells cur T (0, 0)) := by
    intro B cur T hB hT
    refine (Below.heap_setCell _ _ _ _ (fun e => ?_)).trans hB
    have e' : B = w.heap.size + 1 := by simpa using e
    rw [e'] at hB
    have := Eq.trans (Eq.symm hB) hG
    simp at this
    exact hT this.2
  obtain ⟨hlen, h1 | ⟨g, cap, cur, e1, hg0, hg, hn1, _, _, htk⟩⟩ := h.own
  · exact absurd h1.2 (by decide)
  simp only [Value.slice.injEq, Option.some.injEq, Addr.mk.injEq, and_true] at e1
  obtain ⟨rfl, _, rfl⟩ := e1
  have hgW := (E.block LB (lt_of_block hg)).trans hg
  refine ⟨⟨Nat.le_succ _, hg0⟩, hG.st 0 _, ⟨cur, other hgW (by decide), fun i hi => ?_⟩, fun i hi => ?_, h.apart, (C.low_le hn).keep (KeepP.set hG (by decide) (by decide) 0 _)⟩
  · have h2 : (cur.toList.take (8 * 1))[i]? = some (vs i) := by
      rw [htk, List.getElem?_map, List.getElem?_range hi]; rfl
    rw [List.getElem?_take, if_pos (by omega)] at h2
    simpa using h2
  · refine own_later (h.row i hi) (fun q hq => ?_)
    obtain ⟨cu, hc⟩ := own_typ (h.row i hi) hq
    have hcW := (E.block q (own_lt (h.row i hi) hq)).trans hc
    rw [other hcW (by decide)]
    exact hc.symm
theorem own_put1 {w : World} {B n c C i : Nat} {a : Option Addr} {xs : List Int} (h : w.ownsRow B 3 1 (.slice a n c) n (iv xs)) (hC : C < B) (v : Value) : IntsAt (w.setCell ⟨C, i, none⟩ v) a xs :=
  own_ints (own_later h (fun q hq => Below.heap_setCell _ _ _ _ (fun e => by
    have h1 := (own_at h hq).1
    have e' : q = C := by simpa using e
    omega)))
theorem puAt_mk {W : World} {a1 a2 a3 : Option Addr} {c1 n2 c2 n3 c3 : Nat} {s : Pu} (l1 : s.store.length = 128) (l2 : s.tape.length = n2) (l3 : s.printed.length = n3) (i1 : IntsAt W a1 s.store) (i2 : IntsAt W a2 s.tape) (i3 : IntsAt W a3 s.printed) :
    PuAt W (psv a1 a2 a3 128 c1 n2 c2 n3 c3 s) s := ⟨a1, a2, a3, c1, c2, c3, by rw [l1, l2, l3], i1, i2, i3⟩
/-- enter has made a machine of the pulses b -/
def EntOk (b : PuB) (w : World) (e : Ending) (w' : World) : Prop :=
  ∃ G m g1 cc tv pv LB cB vs, e = .returned (.tuple #[.pointer (some ⟨G, 0, none⟩), .int .i64 0]) ∧ Gat w' w.heap.size G m g1 cc tv pv LB cB vs b (storeB b.lines) ∧ Ext w w'
end Go.Proofs.Ytjfggepgjpdebaa
/- Contract: pulse.Bits, at any state. -/
namespace Go.Proofs.Ytjfggepgjpdebaa
open Go.RowKit Go.Q
abbrev zpbl : List Value := [.slice none 0 0, .slice none 0 0, .slice none 0 0, .int .i64 0, .slice none 0 0, .int .i64 0, .int .i64 0, .int .i64 0, .int .i64 0, .int .i64 0, .int .i64 0, .int .i64 0, .int .i64 0, .int .i64 0, .int .i64 0, .int .i64 0, .int .i64 0, .int .i64 0]
theorem Blk.range {W : World} {b : Nat} {L : List Value} {T : TypeId} (h : Blk W b L.toArray T) : W.rangeAt b 0 L := fun j v hv => by rw [Nat.zero_add]; exact h.c j (by simpa using hv)
theorem Blk.there {W : World} {b : Nat} {cs : Array Value} {T : TypeId} (h : Blk W b cs T) : W.there b 0 cs.size := fun j hj => by
  rw [Nat.zero_add]
  refine ⟨?_, h.f j⟩
  rw [h.c j (Array.getElem?_eq_getElem hj)]
  rfl
set_option maxRecDepth 100000 in
set_option maxHeartbeats 4000000 in
theorem bits_bad (v : Value) (s : Pu) (w : World) (h : PuAt w v s) (hb : PuBd s) (he : (checkP s).2.2 ≠ 0) :
    Calls Try.prog 31 #[v] w (PbRes (zpb, (checkP s).2.2) w) := by
  have hc := fun W (E : Ext w W) => pcheck_any v s W (h.ext E) hb
  obtain ⟨a1, a2, a3, c1, c2, c3, rfl, _, _, _⟩ := h
  generalize checkP s = p at *
  obtain ⟨p, i, er⟩ := p
  unfold v3 at hc
  dsimp only at he hc ⊢
  have hz2 : (er != 0) = true := by simpa using he
  clear he hb
  go_enter Try.func31, Try.ntmps31
  go_wp2_with fail
  refine (hc _ (by repeat (first | with_reducible exact Ext.refl _ | with_reducible refine Ext.alloc ?_ _ | with_reducible refine Below.drew ?_))).mono ?_
  rintro e w1 ⟨rfl, E1⟩
  have R := Blk.of E1
  rw [World.size_alloc] at R
  have ra : w1.rangeAt (w.heap.size + 1) 0 zpbl := Blk.range R
  have th : w1.there (w.heap.size + 1) 0 18 := Blk.there R
  have HRa := Lib.hid ra
  have HTh := Lib.hid th
  have o5 : OnlyB (w.heap.size + 1) w1 (w1.setCells (w.heap.size + 1) 0 zpbl) := OnlyB.sets _ _ _ (OnlyB.refl _ _)
  have rb5 : Blk (w1.setCells (w.heap.size + 1) 0 zpbl) (w.heap.size + 1) zpbl.toArray 50 := Blk.sames _ _ _ R (fun j v hv => by rw [Nat.zero_add]; simpa using hv)
  have HR := Lib.hid (And.intro o5 rb5)
  clear ra th o5 rb5 R
  go_wp2_with (first | (refine wpList_load_mid rfl 50 (.tmp 2) rfl (w.heap.size + 1) 0 rfl zpbl _ HRa.out Try.underlying50 rfl (by kernel_rfl) ?_) | (refine wpList_store_mid rfl 50 (.tmp 2) (.tmp 16) rfl (w.heap.size + 1) 0 zpbl.toArray rfl rfl HTh.out (by kernel_rfl) (by simp [Value.oneCell']) ?_))
  obtain ⟨o5, rb5⟩ := HR.out
  generalize w1.setCells (w.heap.size + 1) 0 _ = W5 at *
  have z0 := Blk.c rb5 0 (v := .slice none 0 0) rfl
  have z1 := Blk.c rb5 1 (v := .slice none 0 0) rfl
  have z2 := Blk.c rb5 2 (v := .slice none 0 0) rfl
  have z3 := Blk.c rb5 3 (v := .int .i64 0) rfl
  have z4 := Blk.c rb5 4 (v := .slice none 0 0) rfl
  have z5 := Blk.c rb5 5 (v := .int .i64 0) rfl
  have z6 := Blk.c rb5 6 (v := .int .i64 0) rfl
  have z7 := Blk.c rb5 7 (v := .int .i64 0) rfl
  have z8 := Blk.c rb5 8 (v := .int .i64 0) rfl
  have z9 := Blk.c rb5 9 (v := .int .i64 0) rfl
  have z10 := Blk.c rb5 10 (v := .int .i64 0) rfl
  have z11 := Blk.c rb5 11 (v := .int .i64 0) rfl
  have z12 := Blk.c rb5 12 (v := .int .i64 0) rfl
  have z13 := Blk.c rb5 13 (v := .int .i64 0) rfl
  have z14 := Blk.c rb5 14 (v := .int .i64 0) rfl
  have z15 := Blk.c rb5 15 (v := .int .i64 0) rfl
  have z16 := Blk.c rb5 16 (v := .int .i64 0) rfl
  have z17 := Blk.c rb5 17 (v := .int .i64 0) rfl
  refine bodyPost_ret (v := .tuple #[zpbv, .int .i64 er]) (by simp [results, Try.results31, go_sem, z0, z1, z2, z3, z4, z5, z6, z7, z8, z9, z10, z11, z12, z13, z14, z15, z16, z17]) rfl ?_
  exact zpb_res er (o5.ext E1.old.old (by omega))
theorem pbits_any (v : Value) (s : Pu) (w : World) (h : PuAt w v s) (hb : PuBd s) : Calls Try.prog 31 #[v] w (PbRes (bitsE s) w) := by
  by_cases hz : (checkP s).2.2 = 0
  · have e : bitsE s = (bitsP s, 0) := by unfold bitsE; rw [if_neg (by omega)]
    rw [e]
    have hv := valid_check hz
    obtain ⟨a1, a2, a3, c1, c2, c3, rfl, i1, i2, i3⟩ := h
    have hl := hv.len
    have := bits_good a1 a2 a3 s.tape.length s.printed.length c1 c2 c3 s w rfl rfl i1 i2 i3 (checkP_zero hz) hv
    rw [← hl] at this
    exact this
  · have e : bitsE s = (zpb, (checkP s).2.2) := by unfold bitsE; rw [if_pos hz]; rfl
    rw [e]
    exact bits_bad v s w h hb hz
end Go.Proofs.Ytjfggepgjpdebaa

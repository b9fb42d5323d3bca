/- Contract: the reference of layer 5: Bits. -/
import Derived.Test.YtjfggepgjpdebaaM15
import Derived.Test.YtjfggepgjpdebaaM23
set_option linter.unusedVariables false
set_option linter.unusedSimpArgs false
namespace Go.Proofs.Ytjfggepgjpdebaa
open Go.RowKit Go.Q

/-- what of the lines has been made, in block B -/
structure RbL (w wr : World) (B : Nat) (a2 a3 : Option Addr) (n2 c2 n3 c3 : Nat) (s : Pu) (k : Nat) (la : Option Addr) (lc : Nat) (vs : Nat → Value) : Prop where
  ext : Ext w wr
  blk : Blk wr B #[.slice la k lc, .slice none 0 0, .slice a2 n2 c2, .int .i64 s.taken, .slice a3 n3 c3, .int .i64 s.clock, .int .i64 s.at_, .int .i64 s.phase, .int .i64 s.order, .int .i64 s.operand, .int .i64 s.other, .int .i64 s.product, .int .i64 s.count, .int .i64 s.done, .int .i64 s.why, .int .i64 0, .int .i64 0, .int .i64 0] 50
  low : w.heap.size ≤ B
  own : wr.ownsRow w.heap.size 69 1 (.slice la k lc) k ((List.range k).map vs)
  row : ∀ i, i < k → wr.ownsRow w.heap.size 4 1 (vs i) 384 (bv (lineB s.store i))
theorem RbL.old {w wr W : World} {B : Nat} {a2 a3 : Option Addr} {n2 c2 n3 c3 k lc : Nat} {s : Pu} {la : Option Addr} {vs : Nat → Value} (h : RbL w wr B a2 a3 n2 c2 n3 c3 s k la lc vs) (E : Ext wr W) : RbL w W B a2 a3 n2 c2 n3 c3 s k la lc vs :=
  ⟨h.ext.comp E, h.blk.ex E, h.low, own_later h.own (fun q hq => E.block q (own_lt h.own hq)), fun i hi => own_later (h.row i hi) (fun q hq => E.block q (own_lt (h.row i hi) hq))⟩
theorem RbL.step {w wr w6 : World} {B : Nat} {a2 a3 : Option Addr} {n2 c2 n3 c3 k lc c5 c6 B5 : Nat} {s : Pu} {la a5 a6 : Option Addr} {vs : Nat → Value} {ob : Obj} (h : RbL w wr B a2 a3 n2 c2 n3 c3 s k la lc vs)
    (ho5 : wr.ownsRow B5 4 1 (.slice a5 384 c5) 384 (bv (lineB s.store k))) (hB5 : w.heap.size ≤ B5)
    (ho6 : w6.ownsRow w.heap.size 69 1 (.slice a6 (k + 1) c6) (k + 1) ((List.range k).map vs ++ [.slice a5 384 c5]))
    (hg : (wr.alloc ob).grownBy w6 (Value.slice la k lc).ownBlock) (hE6 : Ext w w6) :
    RbL w (w6.setCell ⟨B, 0, none⟩ (.slice a6 (k + 1) c6)) B a2 a3 n2 c2 n3 c3 s (k + 1) a6 c6 (fun i => if i = k then .slice a5 384 c5 else vs i) := by
  have hla : (wr.alloc ob).ownsRow w.heap.size 69 1 (.slice la k lc) k ((List.range k).map vs) := World.ownsRow.alloc h.own _
  have hne : some B ≠ (Value.slice la k lc).ownBlock := fun e => by
    obtain ⟨cur, hc⟩ := own_typ h.own e.symm
    have := Eq.trans (Eq.symm h.blk) hc
    simp at this
  have hG6 : Blk w6 B #[.slice la k lc, .slice none 0 0, .slice a2 n2 c2, .int .i64 s.taken, .slice a3 n3 c3, .int .i64 s.clock, .int .i64 s.at_, .int .i64 s.phase, .int .i64 s.order, .int .i64 s.operand, .int .i64 s.other, .int .i64 s.product, .int .i64 s.count, .int .i64 s.done, .int .i64 s.why, .int .i64 0, .int .i64 0, .int .i64 0] 50 := Eq.trans (hg.block B (by have := h.blk.lt; simp; omega) hne) (h.blk.al ob)
  have row6 : ∀ {C n : Nat} {v : Value} {xs : List Value}, (wr.alloc ob).ownsRow C 4 1 v n xs → (w6.setCell ⟨B, 0, none⟩ (.slice a6 (k + 1) c6)).ownsRow C 4 1 v n xs := by
    intro C n v xs hr
    refine own_later hr (fun q hq => ?_)
    obtain ⟨cur, hc⟩ := own_typ hr hq
    have h1 : w6.heap[q]? = (wr.alloc ob).heap[q]? := hg.block q (own_lt hr hq) (fun e => by
      obtain ⟨cur', hc'⟩ := own_typ hla e.symm
      have := Eq.trans (Eq.symm hc) hc'
      simp at this)
    refine (Below.heap_setCell _ _ _ _ (fun e => ?_)).trans h1
    have hc6 := h1.trans hc
    have e' : q = B := by simpa using e
    rw [e'] at hc6
    have := Eq.trans (Eq.symm hc6) hG6
    simp at this
  refine ⟨hE6.setCell h.low _, hG6.st 0 _, h.low, ?_, ?_⟩
  · have : (List.range (k + 1)).map (fun i => if i = k then Value.slice a5 384 c5 else vs i) = (List.range k).map vs ++ [.slice a5 384 c5] := by
      rw [List.range_succ, List.map_append]
      congr 1
      · exact List.map_congr_left (fun i hi => by have := List.mem_range.1 hi; rw [if_neg (by omega)])
      · simp
    rw [this]
    refine own_later ho6 (fun q hq => Below.heap_setCell _ _ _ _ (fun e => ?_))
    obtain ⟨cur, hc⟩ := own_typ ho6 hq
    have e' : q = B := by simpa using e
    rw [e'] at hc
    have := Eq.trans (Eq.symm hc) hG6
    simp at this
  · intro i hi
    by_cases e : i = k
    · rw [if_pos e, e]
      exact row6 (World.ownsRow.alloc (own_le ho5 (by omega)) _)
    · rw [if_neg e]
      exact row6 (World.ownsRow.alloc (h.row i (by omega)) _)
theorem RbL.b6 {w wr w6 : World} {B : Nat} {a2 a3 : Option Addr} {n2 c2 n3 c3 k lc : Nat} {s : Pu} {la : Option Addr} {vs : Nat → Value} {ob : Obj} (h : RbL w wr B a2 a3 n2 c2 n3 c3 s k la lc vs)
    (hg : (wr.alloc ob).grownBy w6 (Value.slice la k lc).ownBlock) : Blk w6 B #[.slice la k lc, .slice none 0 0, .slice a2 n2 c2, .int .i64 s.taken, .slice a3 n3 c3, .int .i64 s.clock, .int .i64 s.at_, .int .i64 s.phase, .int .i64 s.order, .int .i64 s.operand, .int .i64 s.other, .int .i64 s.product, .int .i64 s.count, .int .i64 s.done, .int .i64 s.why, .int .i64 0, .int .i64 0, .int .i64 0] 50 := by
  have hne : some B ≠ (Value.slice la k lc).ownBlock := fun e => by
    obtain ⟨cur, hc⟩ := own_typ h.own e.symm
    have := Eq.trans (Eq.symm h.blk) hc
    simp at this
  exact Eq.trans (hg.block B (by have := h.blk.lt; simp; omega) hne) (h.blk.al ob)
theorem own_bools {w : World} {B n c : Nat} {a : Option Addr} {l : List Bool} (h : w.ownsRow B 4 1 (.slice a n c) n (bv l)) : BoolsAt w a l ∧ l.length = n := by
  obtain ⟨hl, h1 | ⟨g, cap, cur, e1, _, hg, _, _, _, htk⟩⟩ := h
  · have : n = 0 := by simpa using h1.2
    subst this
    exact ⟨.inl (by simpa [bv] using hl), by simpa [bv] using hl⟩
  · have hln : l.length = n := by simpa [bv] using hl
    simp only [Value.slice.injEq] at e1
    obtain ⟨rfl, _, rfl⟩ := e1
    refine ⟨.inr ⟨g, 0, rfl, lt_of_block hg, fun i hi => ?_⟩, hln⟩
    refine cell_of_cells hg (0 + i) ?_
    have h2 : (cur.toList.take (n * 1))[i]? = some (.bool (l[i]?.getD false)) := by
      rw [htk]; unfold bv
      rw [List.getElem?_map, List.getElem?_eq_getElem hi]; rfl
    rw [List.getElem?_take, if_pos (by omega)] at h2
    simpa using h2
theorem RbL.fin {w wr W : World} {B : Nat} {a2 a3 : Option Addr} {n2 c2 n3 c3 lc : Nat} {s : Pu} {la : Option Addr} {vs : Nat → Value} (h : RbL w wr B a2 a3 n2 c2 n3 c3 s 8 la lc vs)
    (hk : ∀ (q : Nat) (o : Obj) (T : TypeId) cs, wr.heap[q]? = some (.cells cs T (0, 0)) → T ≠ 50 → W.heap[q]? = some (.cells cs T (0, 0))) : LinesAt W la (bitsP s).lines := by
  have hown : W.ownsRow w.heap.size 69 1 (.slice la 8 lc) 8 ((List.range 8).map vs) := own_later h.own (fun q hq => by
    obtain ⟨cu, hc⟩ := own_typ h.own hq
    rw [hc]; exact hk q (.cells cu 69) _ _ hc (by decide))
  have hrow : ∀ i, i < 8 → W.ownsRow w.heap.size 4 1 (vs i) 384 (bv (lineB s.store i)) := fun i hi => own_later (h.row i hi) (fun q hq => by
    obtain ⟨cu, hc⟩ := own_typ (h.row i hi) hq
    rw [hc]; exact hk q (.cells cu 4) _ _ hc (by decide))
  obtain ⟨hlen, h1 | ⟨g, cap, cur, e1, hg0, hg, hn1, _, _, htk⟩⟩ := hown
  · exact absurd h1.2 (by decide)
  simp only [Value.slice.injEq] at e1
  obtain ⟨rfl, _, rfl⟩ := e1
  refine .inr ⟨g, 0, rfl, lt_of_block hg, fun i hi => ?_⟩
  have hi8 : i < 8 := by simpa [bitsP] using hi
  have hr := hrow i hi8
  obtain ⟨a, c, hvi, hc1, hc2⟩ : ∃ a c, vs i = .slice a 384 c ∧ 384 ≤ c ∧ c ≤ maxLen := by
    obtain ⟨_, h1 | ⟨g, cap, cur, e1, _, _, h2, h3, _⟩⟩ := hr
    · exact absurd h1.2 (by decide)
    · exact ⟨_, _, e1, h2, h3⟩
  unfold maxLen at hc2
  rw [hvi] at hr
  obtain ⟨hb, hl⟩ := own_bools hr
  have hgl : (bitsP s).lines[i]?.getD [] = lineB s.store i := by
    unfold bitsP
    rw [List.getElem?_map, List.getElem?_range hi8]; rfl
  rw [hgl, hl]
  refine ⟨a, c, ?_, ⟨hc1, hc2⟩, hb⟩
  refine cell_of_cells hg (0 + i) ?_
  have h2 : (cur.toList.take (8 * 1))[i]? = some (vs i) := by
    rw [htk, List.getElem?_map, List.getElem?_range hi8]; rfl
  rw [List.getElem?_take, if_pos (by omega), hvi] at h2
  simpa using h2
theorem row_blk {W : World} {B n : Nat} {T : TypeId} {v : Value} {xs : List Value} (h : W.ownsRow B T 1 v n xs) (hn : 0 < n) :
    ∃ g cap cur, v = .slice (some ⟨g, 0, none⟩) n cap ∧ B ≤ g ∧ Blk W g cur T ∧ n ≤ cap ∧ cap ≤ 9223372036854775807 ∧ cur.size = cap ∧ ∀ i, i < n → cur[i]? = xs[i]? := by
  obtain ⟨hl, h1 | ⟨g, cap, cur, e1, hb, hg, h2, h3, h4, htk⟩⟩ := h
  · omega
  · unfold maxLen at h3
    refine ⟨g, cap, cur, e1, hb, hg, h2, h3, by omega, fun i hi => ?_⟩
    have h5 : (cur.toList.take (n * 1))[i]? = xs[i]? := by rw [htk]
    rw [List.getElem?_take, if_pos (by omega)] at h5
    simpa using h5
theorem lineB_take (st : List Int) (l n : Nat) (h : n < 384) : (lineB st l).take (n + 1) = (lineB st l).take n ++ [decide (bitQ (st[l * 16 + n / 24]?.getD 0) (n % 24) = 1)] := by
  have hl : n < (lineB st l).length := by rw [lineB_length]; exact h
  rw [List.take_succ_eq_append_getElem hl]
  congr 2
  simp [lineB]
set_option maxRecDepth 100000 in
set_option maxHeartbeats 8000000 in
theorem rbits_good (a1 a2 a3 : Option Addr) (n2 n3 c1 c2 c3 : Nat) (s : Pu) (w : World) (l2 : s.tape.length = n2) (l3 : s.printed.length = n3) (i1 : IntsAt w a1 s.store) (i2 : IntsAt w a2 s.tape) (i3 : IntsAt w a3 s.printed)
    (hv : ValidP s) (hc : ∀ W, Ext w W → Calls Try.prog 46 #[psv a1 a2 a3 128 c1 n2 c2 n3 c3 s] W fun e w' => e = .returned (.tuple #[.int .i64 0, .int .i64 0, .int .i64 0]) ∧ Ext W w') :
    Calls Try.prog 32 #[psv a1 a2 a3 128 c1 n2 c2 n3 c3 s] w (PbRes (bitsP s, 0) w) := by
  obtain ⟨i0, hi0, ha0, ha1, ha2⟩ := info_parts Try.infoL
  obtain ⟨ib, hib, hb0, hb1, hb2⟩ := info_parts Try.infoB
  have hlen := hv.len
  have hwd : ∀ i, i < 128 → 0 ≤ s.store[i]?.getD 0 ∧ s.store[i]?.getD 0 ≤ 16777215 := fun i hi => by
    rw [List.getElem?_eq_getElem (by omega)]
    exact hv.ws _ (List.getElem_mem _)
  have HI := Lib.hid (And.intro l2 (And.intro l3 (And.intro i2 i3)))
  rcases i1 with e | ⟨bS, oS, rfl, hbS, hcS⟩
  · rw [e] at hlen; simp at hlen
  have HCS := Lib.hid (fun i (hi : i < 128) => hcS i (by omega))
  have HWD := Lib.hid hwd
  have HV := Lib.hid hv
  clear hlen hwd hcS l2 l3 i2 i3 hv
  have HR := Lib.hid (Blk.range (L := [.slice (some ⟨bS, oS, none⟩) 128 c1, .slice a2 n2 c2, .int .i64 s.taken, .slice a3 n3 c3, .int .i64 s.clock, .int .i64 s.at_, .int .i64 s.phase, .int .i64 s.order, .int .i64 s.operand, .int .i64 s.other, .int .i64 s.product, .int .i64 s.count, .int .i64 s.done, .int .i64 s.why]) (Blk.al (Blk.nw w #[.slice (some ⟨bS, oS, none⟩) 128 c1, .slice a2 n2 c2, .int .i64 s.taken, .slice a3 n3 c3, .int .i64 s.clock, .int .i64 s.at_, .int .i64 s.phase, .int .i64 s.order, .int .i64 s.operand, .int .i64 s.other, .int .i64 s.product, .int .i64 s.count, .int .i64 s.done, .int .i64 s.why] 41) (.cells #[.slice none 0 0, .slice none 0 0, .slice none 0 0, .int .i64 0, .slice none 0 0, .int .i64 0, .int .i64 0, .int .i64 0, .int .i64 0, .int .i64 0, .int .i64 0, .int .i64 0, .int .i64 0, .int .i64 0, .int .i64 0, .int .i64 0, .int .i64 0, .int .i64 0] 50)))
  go_enter Try.func32, Try.ntmps32
  go_wp2_with fail
  refine (hc _ (by repeat (first | with_reducible exact Ext.refl _ | with_reducible refine Ext.alloc ?_ _ | with_reducible refine Below.drew ?_))).mono ?_
  rintro e w1 ⟨rfl, E1⟩
  have rb := Blk.of E1
  rw [World.size_alloc] at rb
  have pb := Blk.of E1.old
  have HR2 := Lib.hid (Blk.range (L := [.slice (some ⟨bS, oS, none⟩) 128 c1, .slice a2 n2 c2, .int .i64 s.taken, .slice a3 n3 c3, .int .i64 s.clock, .int .i64 s.at_, .int .i64 s.phase, .int .i64 s.order, .int .i64 s.operand, .int .i64 s.other, .int .i64 s.product, .int .i64 s.count, .int .i64 s.done, .int .i64 s.why]) pb)
  have hlt1 := rb.lt
  have HB := Lib.hid (And.intro rb (And.intro pb E1.old.old))
  clear rb pb E1 HR
  go_wp2_with (first | (refine wpList_load_mid rfl 41 (.tmp 1) rfl w.heap.size 0 rfl [.slice (some ⟨bS, oS, none⟩) 128 c1, .slice a2 n2 c2, .int .i64 s.taken, .slice a3 n3 c3, .int .i64 s.clock, .int .i64 s.at_, .int .i64 s.phase, .int .i64 s.order, .int .i64 s.operand, .int .i64 s.other, .int .i64 s.product, .int .i64 s.count, .int .i64 s.done, .int .i64 s.why] _ HR2.out Try.underlying41 rfl (by kernel_rfl) ?_))
  have hB0 : RbL w1 (w1.alloc (.cells #[.slice none 0 0, .slice none 0 0, .slice a2 n2 c2, .int .i64 s.taken, .slice a3 n3 c3, .int .i64 s.clock, .int .i64 s.at_, .int .i64 s.phase, .int .i64 s.order, .int .i64 s.operand, .int .i64 s.other, .int .i64 s.product, .int .i64 s.count, .int .i64 s.done, .int .i64 s.why, .int .i64 0, .int .i64 0, .int .i64 0] 50)) w1.heap.size a2 a3 n2 c2 n3 c3 s 0 none 0 (fun _ => .slice none 0 0) := ⟨(Ext.refl w1).alloc _, Blk.nw w1 _ _, Nat.le_refl _, World.ownsRow_nil _ _ _ _, nofun⟩
  have HB0 := Lib.hid hB0
  clear hB0
  obtain ⟨W0, hW0⟩ : ∃ W0 : World, W0 = w1.alloc (.cells #[.slice none 0 0, .slice none 0 0, .slice a2 n2 c2, .int .i64 s.taken, .slice a3 n3 c3, .int .i64 s.clock, .int .i64 s.at_, .int .i64 s.phase, .int .i64 s.order, .int .i64 s.operand, .int .i64 s.other, .int .i64 s.product, .int .i64 s.count, .int .i64 s.done, .int .i64 s.why, .int .i64 0, .int .i64 0, .int .i64 0] 50) := ⟨_, rfl⟩
  have E10 : Ext w1 W0 := by rw [hW0]; exact (Ext.refl w1).alloc _
  rw [← hW0] at HB0
  rw [← hW0]
  clear hW0
  have HE10 := Lib.hid E10
  clear E10
  go_loopw [8] (fun i wr => ∃ (k : Nat) (la : Option Addr) (lc : Nat) (vs : Nat → Value), k ≤ 8 ∧ i = .int .i64 k ∧ Ext w1 wr ∧ RbL w1 wr w1.heap.size a2 a3 n2 c2 n3 c3 s k la lc vs) (fun i _ => 8 - (intOf i).toNat)
  case atStart => exact ⟨0, none, 0, fun _ => .slice none 0 0, by omega, rfl, HE10.out, HB0.out⟩
  case round =>
    obtain ⟨k, la, lc, vs, hk, rfl, X1, hR⟩ := hrel
    have HX1 := Lib.hid X1
    have HR := Lib.hid hR
    clear X1 hR
    by_cases hlt : k < 8
    · have hltz : (k : Int) < 8 := by omega
      obtain ⟨wo, rfl⟩ : ∃ wo : World, wo = wr := ⟨_, rfl⟩
      go_wp2_with fail
      go_loopw [9, 10] (fun v p wr => ∃ i : Nat, i ≤ 16 ∧ p = .int .i64 i ∧ Ext wo wr ∧ wr.ownsRow wo.heap.size 4 1 v (24 * i) (bv ((lineB s.store k).take (24 * i)))) (fun _ p _ => 16 - (intOf p).toNat)
      case atStart => exact ⟨0, by omega, rfl, Ext.refl _, World.ownsRow_nil _ _ _ _⟩
      case round =>
        obtain ⟨i, hi, rfl, X2, ho⟩ := hrel
        have HX2 := Lib.hid X2
        have HO := Lib.hid ho
        clear X2 ho
        by_cases hlti : i < 16
        · have hltz2 : (i : Int) < 16 := by omega
          obtain ⟨wp, rfl⟩ : ∃ wp : World, wp = wr := ⟨_, rfl⟩
          go_wp2_with fail
          go_loopw [9, 11] (fun v q wr => ∃ j : Nat, j ≤ 24 ∧ q = .int .i64 j ∧ Ext wo wr ∧ wr.ownsRow wo.heap.size 4 1 v (24 * i + j) (bv ((lineB s.store k).take (24 * i + j)))) (fun _ q _ => 24 - (intOf q).toNat)
          case atStart => exact ⟨0, by omega, rfl, HX2.out, HO.out⟩
          case round =>
            obtain ⟨j, hj, rfl, X3, ho3⟩ := hrel
            by_cases hltj : j < 24
            · have hltz3 : (j : Int) < 24 := by omega
              have hsz := X3.size
              have HX3 := Lib.hid X3
              have HO3 := Lib.hid ho3
              have X1b := HX1.out.comp X3
              have p0 := (HB.out.2.1.ex X1b).c 0 (v := .slice (some ⟨bS, oS, none⟩) 128 c1) rfl
              have x0 := ((HB.out.2.2.comp X1b).cell (p := ⟨bS, oS + (k * 16 + i), none⟩) hbS).trans (HCS.out (k * 16 + i) (by omega))
              obtain ⟨y0, y1⟩ := HWD.out (k * 16 + i) (by omega)
              have htk := lineB_take s.store k (24 * i + j) (by omega)
              rw [show (24 * i + j) / 24 = i by omega, show (24 * i + j) % 24 = j by omega] at htk
              have HTK := Lib.hid htk
              generalize s.store[k * 16 + i]?.getD 0 = x at x0 y0 y1 HTK
              have hbt := fun W => rbit_any x j W y0 (by omega) (by omega)
              clear X3 ho3 X1b htk
              go_wp2_with (first | (go_at_call 70; refine (hbt _).mono ?_; rintro e w5 ⟨rfl, rfl⟩) | (at_builtin; refine wpList_app (w0 := wo) rfl _ _ 69 rfl 4 ib (.bool false) 1 1 Try.underlying69 hib hb0 hb1 hb2 rfl (by decide) _ (24 * i + j) wo.heap.size (bv ((lineB s.store k).take (24 * i + j))) rfl ?e0 ?eE (Nat.le_refl _) ?eS _ 1 1 [.bool (bitQ x j == 1)] rfl ?e1 ?e2 ?e3 (by unfold maxLen; omega) (by omega) ?_))
              case e0 => exact HO3.out.alloc _
              case eE => exact HX3.out.alloc _
              case eS => first | (simp; omega) | omega
              (try (case e1 => rfl))
              case e2 => exact .inr ⟨_, rfl, fun j u hu => by
                match j, hu with
                | 0, hu => cases hu; exact (Blk.nw wr _ _).c 0 rfl
                | j + 1, hu => simp at hu⟩
              case e3 => intro u hu; rw [List.mem_singleton.1 hu]; rfl
              intro a' c' w2 hown4 hE4 _
              have HO4 := Lib.hid hown4
              clear hown4
              go_wp2_with fail
              go_roundw
              case rel =>
                refine ⟨j + 1, by omega, by simp, hE4, ?_⟩
                rw [show 24 * i + (j + 1) = 24 * i + j + 1 by omega, HTK.out]
                have := HO4.out
                unfold bv at this ⊢
                rw [List.map_append]
                exact this
              case measure => simp [intOf]; omega
            · have hltz3 : ¬ (j : Int) < 24 := by omega
              obtain rfl : j = 24 := by omega
              have HX3 := Lib.hid X3
              have HO3 := Lib.hid ho3
              clear X3 ho3
              go_wp2_with fail
              go_roundw
              case rel => exact ⟨i + 1, by omega, by simp, HX3.out, by rw [show 24 * (i + 1) = 24 * i + 24 by omega]; exact HO3.out⟩
              case measure => simp [intOf]; omega
        · have hltz2 : ¬ (i : Int) < 16 := by omega
          obtain rfl : i = 16 := by omega
          obtain ⟨g, cap, cur, rfl, hg⟩ := row_blk HO.out (by omega)
          have b0 := (HR.out.old HX2.out).blk.c 0 (v := .slice la k lc) rfl
          have f0 := (HR.out.old HX2.out).blk.f 0
          have hsz := HX2.out.size
          go_wp2_with (at_builtin; refine wpList_app (w0 := w1) rfl _ _ 48 rfl 69 i0 (.slice none 0 0) 1 24 Try.underlying48 hi0 ha0 ha1 ha2 rfl (by decide) _ k w1.heap.size ((List.range k).map vs) rfl ?e0 ?eE (Nat.le_refl _) ?eS _ 1 1 [.slice (some ⟨g, 0, none⟩) (24 * 16) cap] rfl ?e1 ?e2 ?e3 (by unfold maxLen; omega) (by omega) ?_)
          case e0 => exact (HR.out.old HX2.out).own.alloc _
          case eE => exact (HR.out.old HX2.out).ext.alloc _
          case eS => have := (HR.out.old HX2.out).ext.size; first | (simp; omega) | omega
          (try (case e1 => rfl))
          case e2 => exact .inr ⟨_, rfl, fun j u hu => by
            match j, hu with
            | 0, hu => cases hu; exact (Blk.nw wr _ _).c 0 rfl
            | j + 1, hu => simp at hu⟩
          case e3 => first | rfl | (intro u hu; rw [List.mem_singleton.1 hu]; rfl)
          intro a6 c6 w6 ho6 hE6 hg6
          have hO := HO.out
          rw [List.take_of_length_le (by rw [lineB_length]; omega)] at hO
          have hstp := (HR.out.old HX2.out).step hO HR.out.ext.size ho6 hg6 hE6
          have hG6 := (HR.out.old HX2.out).b6 hg6
          have g6 := hG6.c 0 (v := .slice la k lc) rfl
          have f6 := hG6.f 0
          have X7 := hstp.ext
          have HST := Lib.hid hstp
          clear hstp hG6 hO ho6 hE6 hg6
          go_wp2_with fail
          go_roundw
          case rel => exact ⟨k + 1, a6, c6, _, by omega, by simp, X7, HST.out⟩
          case measure => simp [intOf]; omega
    · have hltz : ¬ (k : Int) < 8 := by omega
      obtain rfl : k = 8 := by omega
      have hb8 := HR.out.blk
      have HRB := Lib.hid (Blk.range (L := [.slice la 8 lc, .slice none 0 0, .slice a2 n2 c2, .int .i64 s.taken, .slice a3 n3 c3, .int .i64 s.clock, .int .i64 s.at_, .int .i64 s.phase, .int .i64 s.order, .int .i64 s.operand, .int .i64 s.other, .int .i64 s.product, .int .i64 s.count, .int .i64 s.done, .int .i64 s.why, .int .i64 0, .int .i64 0, .int .i64 0]) hb8)
      have HT := Lib.hid (Blk.there (HB.out.1.ex HX1.out))
      have HF := Lib.hid (HB.out.2.2.comp HR.out.ext)
      clear hb8
      go_wp2_with (first | (refine wpList_load_mid rfl 50 (.tmp 7) rfl w1.heap.size 0 rfl [.slice la 8 lc, .slice none 0 0, .slice a2 n2 c2, .int .i64 s.taken, .slice a3 n3 c3, .int .i64 s.clock, .int .i64 s.at_, .int .i64 s.phase, .int .i64 s.order, .int .i64 s.operand, .int .i64 s.other, .int .i64 s.product, .int .i64 s.count, .int .i64 s.done, .int .i64 s.why, .int .i64 0, .int .i64 0, .int .i64 0] _ HRB.out Try.underlying50 rfl (by kernel_rfl) ?_) | (refine wpList_store_mid rfl 50 (.tmp 2) (.tmp 58) rfl (w.heap.size + 1) 0 [.slice la 8 lc, .slice none 0 0, .slice a2 n2 c2, .int .i64 s.taken, .slice a3 n3 c3, .int .i64 s.clock, .int .i64 s.at_, .int .i64 s.phase, .int .i64 s.order, .int .i64 s.operand, .int .i64 s.other, .int .i64 s.product, .int .i64 s.count, .int .i64 s.done, .int .i64 s.why, .int .i64 0, .int .i64 0, .int .i64 0].toArray rfl rfl HT.out (by kernel_rfl) (by simp [Value.oneCell']) ?_))
      have hW : Ext w (wr.setCells (w.heap.size + 1) 0 [.slice la 8 lc, .slice none 0 0, .slice a2 n2 c2, .int .i64 s.taken, .slice a3 n3 c3, .int .i64 s.clock, .int .i64 s.at_, .int .i64 s.phase, .int .i64 s.order, .int .i64 s.operand, .int .i64 s.other, .int .i64 s.product, .int .i64 s.count, .int .i64 s.done, .int .i64 s.why, .int .i64 0, .int .i64 0, .int .i64 0]) := (OnlyB.sets _ _ _ (OnlyB.refl (w.heap.size + 1) _)).ext HF.out (Nat.le_succ _)
      have r3 : (wr.setCells (w.heap.size + 1) 0 [.slice la 8 lc, .slice none 0 0, .slice a2 n2 c2, .int .i64 s.taken, .slice a3 n3 c3, .int .i64 s.clock, .int .i64 s.at_, .int .i64 s.phase, .int .i64 s.order, .int .i64 s.operand, .int .i64 s.other, .int .i64 s.product, .int .i64 s.count, .int .i64 s.done, .int .i64 s.why, .int .i64 0, .int .i64 0, .int .i64 0]).rangeAt (w.heap.size + 1) 0 [.slice la 8 lc, .slice none 0 0, .slice a2 n2 c2, .int .i64 s.taken, .slice a3 n3 c3, .int .i64 s.clock, .int .i64 s.at_, .int .i64 s.phase, .int .i64 s.order, .int .i64 s.operand, .int .i64 s.other, .int .i64 s.product, .int .i64 s.count, .int .i64 s.done, .int .i64 s.why, .int .i64 0, .int .i64 0, .int .i64 0] := World.rangeAt_setCells_same _ _ _ _ HT.out
      have hP : LinesAt (wr.setCells (w.heap.size + 1) 0 [.slice la 8 lc, .slice none 0 0, .slice a2 n2 c2, .int .i64 s.taken, .slice a3 n3 c3, .int .i64 s.clock, .int .i64 s.at_, .int .i64 s.phase, .int .i64 s.order, .int .i64 s.operand, .int .i64 s.other, .int .i64 s.product, .int .i64 s.count, .int .i64 s.done, .int .i64 s.why, .int .i64 0, .int .i64 0, .int .i64 0]) la (bitsP s).lines := HR.out.fin (fun q o T cs hq hT => ((OnlyB.sets _ 0 _ (OnlyB.refl (w.heap.size + 1) wr)).block q (lt_of_block hq) (fun e => by
        cases e
        have := Eq.trans (Eq.symm hq) (HB.out.1.ex HX1.out)
        simp at this
        exact hT this.2)).trans hq)
      obtain ⟨W3, hW3⟩ : ∃ W3 : World, W3 = wr.setCells (w.heap.size + 1) 0 [.slice la 8 lc, .slice none 0 0, .slice a2 n2 c2, .int .i64 s.taken, .slice a3 n3 c3, .int .i64 s.clock, .int .i64 s.at_, .int .i64 s.phase, .int .i64 s.order, .int .i64 s.operand, .int .i64 s.other, .int .i64 s.product, .int .i64 s.count, .int .i64 s.done, .int .i64 s.why, .int .i64 0, .int .i64 0, .int .i64 0] := ⟨_, rfl⟩
      rw [← hW3] at hW r3 hP
      (try dsimp only [Act.put])
      rw [← hW3]
      clear hW3
      have z0 : W3.cell? ⟨w.heap.size + 1, 0, none⟩ = some (.slice la 8 lc) := by simpa using r3 0 _ rfl
      have z1 : W3.cell? ⟨w.heap.size + 1, 1, none⟩ = some (.slice none 0 0) := by simpa using r3 1 _ rfl
      have z2 : W3.cell? ⟨w.heap.size + 1, 2, none⟩ = some (.slice a2 n2 c2) := by simpa using r3 2 _ rfl
      have z3 : W3.cell? ⟨w.heap.size + 1, 3, none⟩ = some (.int .i64 s.taken) := by simpa using r3 3 _ rfl
      have z4 : W3.cell? ⟨w.heap.size + 1, 4, none⟩ = some (.slice a3 n3 c3) := by simpa using r3 4 _ rfl
      have z5 : W3.cell? ⟨w.heap.size + 1, 5, none⟩ = some (.int .i64 s.clock) := by simpa using r3 5 _ rfl
      have z6 : W3.cell? ⟨w.heap.size + 1, 6, none⟩ = some (.int .i64 s.at_) := by simpa using r3 6 _ rfl
      have z7 : W3.cell? ⟨w.heap.size + 1, 7, none⟩ = some (.int .i64 s.phase) := by simpa using r3 7 _ rfl
      have z8 : W3.cell? ⟨w.heap.size + 1, 8, none⟩ = some (.int .i64 s.order) := by simpa using r3 8 _ rfl
      have z9 : W3.cell? ⟨w.heap.size + 1, 9, none⟩ = some (.int .i64 s.operand) := by simpa using r3 9 _ rfl
      have z10 : W3.cell? ⟨w.heap.size + 1, 10, none⟩ = some (.int .i64 s.other) := by simpa using r3 10 _ rfl
      have z11 : W3.cell? ⟨w.heap.size + 1, 11, none⟩ = some (.int .i64 s.product) := by simpa using r3 11 _ rfl
      have z12 : W3.cell? ⟨w.heap.size + 1, 12, none⟩ = some (.int .i64 s.count) := by simpa using r3 12 _ rfl
      have z13 : W3.cell? ⟨w.heap.size + 1, 13, none⟩ = some (.int .i64 s.done) := by simpa using r3 13 _ rfl
      have z14 : W3.cell? ⟨w.heap.size + 1, 14, none⟩ = some (.int .i64 s.why) := by simpa using r3 14 _ rfl
      have z15 : W3.cell? ⟨w.heap.size + 1, 15, none⟩ = some (.int .i64 0) := by simpa using r3 15 _ rfl
      have z16 : W3.cell? ⟨w.heap.size + 1, 16, none⟩ = some (.int .i64 0) := by simpa using r3 16 _ rfl
      have z17 : W3.cell? ⟨w.heap.size + 1, 17, none⟩ = some (.int .i64 0) := by simpa using r3 17 _ rfl
      have HPW := Lib.hid (And.intro hP hW)
      clear hW r3 hP
      as_aux_lemma =>
      refine bodyPost_ret (v := .tuple #[.agg #[.slice la 8 lc, .slice none 0 0, .slice a2 n2 c2, .int .i64 s.taken, .slice a3 n3 c3, .int .i64 s.clock, .int .i64 s.at_, .int .i64 s.phase, .int .i64 s.order, .int .i64 s.operand, .int .i64 s.other, .int .i64 s.product, .int .i64 s.count, .int .i64 s.done, .int .i64 s.why, .int .i64 0, .int .i64 0, .int .i64 0], .int .i64 0]) (by simp [results, Try.results32, go_sem, z0, z1, z2, z3, z4, z5, z6, z7, z8, z9, z10, z11, z12, z13, z14, z15, z16, z17]) rfl ?_
      refine ⟨_, rfl, ⟨la, none, a2, a3, lc, 0, c2, c3, ?_, HPW.out.1, .inl rfl, HI.out.2.2.1.ext HPW.out.2, HI.out.2.2.2.ext HPW.out.2⟩, HPW.out.2⟩
      have e1 : (bitsP s).lines.length = 8 := by simp [bitsP]
      have e2 : (bitsP s).now.tape.length = n2 := HI.out.1
      have e3 : (bitsP s).now.printed.length = n3 := HI.out.2.1
      dsimp only
      rw [e1, e2, e3]
      rfl
end Go.Proofs.Ytjfggepgjpdebaa

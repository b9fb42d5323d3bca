/- Contract: the reference's Trace. -/
import Derived.Test.YtpdkgoeoddeebaaG3
import Derived.Test.YtpdkgoeoddeebaaB8
import Derived.Deep.RegionHeld3
import Derived.Deep.DeepCutAuto
import Derived.Outline
set_option linter.unusedVariables false
set_option linter.unusedSimpArgs false
namespace Go.Proofs.Ytpdkgoeoddeebaa
open Go.RowKit Go.Q

theorem cells7 {W : World} {b : Nat} {u0 u1 u2 u3 u4 u5 u6 : Value} {T : TypeId} (h : W.heap[b]? = some (.cells #[u0, u1, u2, u3, u4, u5, u6] T (0, 0))) (v0 v1 v2 v3 v4 v5 v6 : Value) :
    (((((((W.setCell ⟨b, 0, none⟩ v0).setCell ⟨b, 1, none⟩ v1).setCell ⟨b, 2, none⟩ v2).setCell ⟨b, 3, none⟩ v3).setCell ⟨b, 4, none⟩ v4).setCell ⟨b, 5, none⟩ v5).setCell ⟨b, 6, none⟩ v6).heap[b]? = some (.cells #[v0, v1, v2, v3, v4, v5, v6] T (0, 0)) :=
  (cells_set (cells_set (cells_set (cells_set (cells_set (cells_set (cells_set h 0 v0) 1 v1) 2 v2) 3 v3) 4 v4) 5 v5) 6 v6).trans (by simp)
theorem cells7_ext {wr w' : World} {o : Obj} (h : Ext (wr.alloc o).drew w') {n : Nat} (hn : wr.heap.size ≤ n) {v0 v1 v2 v3 v4 v5 v6 : Value} :
    Ext wr (((((((w'.setCell ⟨n, 0, none⟩ v0).setCell ⟨n, 1, none⟩ v1).setCell ⟨n, 2, none⟩ v2).setCell ⟨n, 3, none⟩ v3).setCell ⟨n, 4, none⟩ v4).setCell ⟨n, 5, none⟩ v5).setCell ⟨n, 6, none⟩ v6) := by
  have h0 : Ext wr w' := Ext.comp (Ext.alloc (Ext.refl wr) o).drew h
  exact ext_set (ext_set (ext_set (ext_set (ext_set (ext_set (ext_set h0 hn) hn) hn) hn) hn) hn) hn
theorem cells7_lt {wr w' : World} {o : Obj} (h : Ext (wr.alloc o).drew w') {n : Nat} {v0 v1 v2 v3 v4 v5 v6 : Value} :
    wr.heap.size < (((((((w'.setCell ⟨n, 0, none⟩ v0).setCell ⟨n, 1, none⟩ v1).setCell ⟨n, 2, none⟩ v2).setCell ⟨n, 3, none⟩ v3).setCell ⟨n, 4, none⟩ v4).setCell ⟨n, 5, none⟩ v5).setCell ⟨n, 6, none⟩ v6).heap.size := by
  have := h.size
  simp [World.setCell] at *
  omega

theorem run_app2 {P : Program} {w0 w : World} (t ty e : TypeId) (i : TypeInfo) (z : Value) (sz bytes : Nat) (ht : P.underlying t = some (.slice e)) (hi : P.info? e = some i) (hz : i.zero = some z) (hs : i.size = sz) (hb : i.bytes = bytes) (hzs : z.cells.size = sz) (hsz : 0 < sz)
    (v : Value) (n B : Nat) (xs : List Value) (hown : w.ownsRow B e sz v n xs) (hE : Ext w0 w) (hB0 : w0.heap.size ≤ B) (hB1 : B ≤ w.heap.size)
    (a : Option Addr) (m c : Nat) (news : List Value) (hl : news.length = m * sz) (hf : From w a news) (h1 : ∀ u ∈ news, u.oneCell' = true) (h63 : n + m ≤ maxLen) (hbytes : (n + m) * bytes ≤ 140737488355328) :
    ∃ (a' : Option Addr) (c' : Nat) (w' : World), (Builtin.append_ #[t, t] ty #[v, .slice a m c]).run P w = .ok (.slice a' (n + m) c') w' ∧ w'.ownsRow B e sz (.slice a' (n + m) c') (n + m) (xs ++ news) ∧ Ext w0 w' ∧ w.grownBy w' v.ownBlock ∧ ((Value.slice a' (n + m) c').ownBlock = v.ownBlock ∨ (Value.slice a' (n + m) c').ownBlock = some w.heap.size) := by
  have hrow : ∀ k, v.ownBlock = some k → w0.heap.size ≤ k := fun k hk => Nat.le_trans hB0 (hown.lt k hk).1
  have fin : ∀ (v' : Value) (w' : World), w'.ownsRow B e sz v' (n + m) (xs ++ news) → ∃ a' c', v' = .slice a' (n + m) c' := by
    intro v' w' h
    rcases h.2 with ⟨h1, h2⟩ | ⟨g, cap, cur, h1, _⟩
    · exact ⟨none, 0, by rw [h2]; exact h1⟩
    · exact ⟨_, _, h1⟩
  cases a with
  | none =>
    have hn : news = [] := by
      rcases hf with h | ⟨ad, h, _⟩
      · exact h
      · cases h
    subst hn
    have hm : m = 0 := by
      rcases Nat.eq_zero_or_pos m with h | h
      · exact h
      · have : 0 < m * sz := Nat.mul_pos h hsz
        simp at hl; omega
    subst hm
    have ho : w.ownsRow B e sz v (n + 0) (xs ++ []) := by simpa using hown
    obtain ⟨a', c', hv⟩ := fin v w ho
    exact ⟨a', c', w, by rw [← hv]; exact run_app_nil t ty e ht hi hown c, by rw [← hv]; exact ho, hE, World.grownBy.refl w _, .inl (by rw [← hv])⟩
  | some ad =>
    have hc : ∀ j u, news[j]? = some u → w.cell? (ad.add j) = some u := by
      rcases hf with h | ⟨ad', h, hc⟩
      · subst h; intro j u hu; simp at hu
      · cases h; exact hc
    obtain ⟨v', w', hr, h2, h3, _, h5⟩ := run_append_own_at (P := P) w B t ty e i z sz bytes ht hi hz hs hb hzs hsz v n xs hown ad m c news hl hc h1 h63 hbytes hB1
    obtain ⟨a', c', hv⟩ := fin v' w' h2
    exact ⟨a', c', w', by rw [hr, hv], by rw [← hv]; exact h2, hE.grown h3 hE.size hrow, h3, by rw [← hv]; exact h5⟩

section
variable {P : Program} {w0 w : World}
theorem wp_app2 {o : Oper} {act : Act} {K : Act → World → Prop} {Q : Exit → Act → World → Prop} (s x : Operand) (t : TypeId)
    (ho : o.op = .call { callee := .builtin .append, args := #[s, x], argTypes := #[t, t] })
    (e : TypeId) (i : TypeInfo) (z : Value) (sz bytes : Nat) (ht : P.underlying t = some (.slice e)) (hi : P.info? e = some i) (hz : i.zero = some z) (hs : i.size = sz) (hb : i.bytes = bytes) (hzs : z.cells.size = sz) (hsz : 0 < sz)
    (v : Value) (n B : Nat) (xs : List Value) (he : act.eval s = v) (hown : w.ownsRow B e sz v n xs) (hE : Ext w0 w) (hB0 : w0.heap.size ≤ B) (hB1 : B ≤ w.heap.size)
    (a : Option Addr) (m c : Nat) (news : List Value) (hx : act.eval x = .slice a m c) (hl : news.length = m * sz) (hf : From w a news) (h1 : ∀ u ∈ news, u.oneCell' = true) (h63 : n + m ≤ maxLen) (hbytes : (n + m) * bytes ≤ 140737488355328)
    (h : ∀ (a' : Option Addr) (c' : Nat) (w' : World), w'.ownsRow B e sz (.slice a' (n + m) c') (n + m) (xs ++ news) → Ext w0 w' → w.grownBy w' v.ownBlock → ((Value.slice a' (n + m) c').ownBlock = v.ownBlock ∨ (Value.slice a' (n + m) c').ownBlock = some w.heap.size) → K (act.put o.dst (.slice a' (n + m) c')) w') : o.wp P act w K Q := by
  obtain ⟨a', c', w', hr, h2, h3, h4, h5⟩ := run_app2 (P := P) t o.type e i z sz bytes ht hi hz hs hb hzs hsz v n B xs hown hE hB0 hB1 a m c news hl hf h1 h63 hbytes
  have hk := h a' c' w' h2 h3 h4 h5
  unfold Oper.wp execOp
  simp only [ho, resolve, invoke, builtin, Sem.run_bind, Sem.run_pure, Result.andThen_ok, List.map_toArray, List.map_cons, List.map_nil, he, hx, hr]
  exact hk
theorem wpList_app2 {ops : Array Oper} {rest : List Oper} {o : Oper} {act : Act} {Q : Exit → Act → World → Prop} (hgd : o.guard = none) (s x : Operand) (t : TypeId)
    (ho : o.op = .call { callee := .builtin .append, args := #[s, x], argTypes := #[t, t] })
    (e : TypeId) (i : TypeInfo) (z : Value) (sz bytes : Nat) (ht : P.underlying t = some (.slice e)) (hi : P.info? e = some i) (hz : i.zero = some z) (hs : i.size = sz) (hb : i.bytes = bytes) (hzs : z.cells.size = sz) (hsz : 0 < sz)
    (v : Value) (n B : Nat) (xs : List Value) (he : act.eval s = v) (hown : w.ownsRow B e sz v n xs) (hE : Ext w0 w) (hB0 : w0.heap.size ≤ B) (hB1 : B ≤ w.heap.size)
    (a : Option Addr) (m c : Nat) (news : List Value) (hx : act.eval x = .slice a m c) (hl : news.length = m * sz) (hf : From w a news) (h1 : ∀ u ∈ news, u.oneCell' = true) (h63 : n + m ≤ maxLen) (hbytes : (n + m) * bytes ≤ 140737488355328)
    (h : ∀ (a' : Option Addr) (c' : Nat) (w' : World), w'.ownsRow B e sz (.slice a' (n + m) c') (n + m) (xs ++ news) → Ext w0 w' → w.grownBy w' v.ownBlock → ((Value.slice a' (n + m) c').ownBlock = v.ownBlock ∨ (Value.slice a' (n + m) c').ownBlock = some w.heap.size) → wpList P ops Q rest (act.put o.dst (.slice a' (n + m) c')) w') : wpList P ops Q (o :: rest) act w :=
  wpList_plain hgd fun _ hK => wp_app2 s x t ho e i z sz bytes ht hi hz hs hb hzs hsz v n B xs he hown hE hB0 hB1 a m c news hx hl hf h1 h63 hbytes fun a' c' w' h2 h3 h4 h5 => hK _ _ (h a' c' w' h2 h3 h4 h5)
end
theorem ints_grown {w w' : World} {a : Option Addr} {xs : List Int} {row : Option Nat} (h : IntsAt w a xs) (hg : w.grownBy w' row) (hp : ∀ k, row = some k → Av k a xs) : IntsAt w' a xs := by
  rcases h with h | ⟨b, off, ha, hb, hc⟩
  · exact .inl h
  · by_cases hx : xs = []
    · exact .inl hx
    · refine .inr ⟨b, off, ha, Nat.lt_of_lt_of_le hb hg.size, fun i hi => (World.cell?_of_block (hg.block b hb (fun e => ?_))).trans (hc i hi)⟩
      rcases hp b e.symm with h | h
      · exact hx h
      · exact h b off ha rfl
theorem BoxSt.grown {w w' : World} {m : Nat} {s : St} {row : Option Nat} (h : BoxSt w m s) (hg : w.grownBy w' row) (hm : row ≠ some m) (hp : ∀ k, row = some k → BoxAv w m k s) : BoxSt w' m s := by
  obtain ⟨a1, k1, a2, k2, a3, k3, hb, h1, h2, h3, r⟩ := h
  exact ⟨a1, k1, a2, k2, a3, k3, (hg.block m (lt_of_block hb) (fun e => hm e.symm)).trans hb, ints_grown h1 hg (fun k e => ((hp k e).get hb).1), ints_grown h2 hg (fun k e => ((hp k e).get hb).2.1), ints_grown h3 hg (fun k e => ((hp k e).get hb).2.2), r⟩
theorem BoxAv.grown {w w' : World} {m n : Nat} {s : St} {row : Option Nat} (h : BoxAv w m n s) (hg : w.grownBy w' row) (hm : row ≠ some m) : BoxAv w' m n s := by
  obtain ⟨a1, a2, a3, n1, k1, n2, k2, n3, k3, x2, x4, x5, x6, x7, hb, r⟩ := h
  exact ⟨a1, a2, a3, n1, k1, n2, k2, n3, k3, x2, x4, x5, x6, x7, (hg.block m (lt_of_block hb) (fun e => hm e.symm)).trans hb, r⟩
theorem BoxAv.ext {w w' : World} {m n : Nat} {s : St} (h : BoxAv w m n s) (E : Ext w w') : BoxAv w' m n s := by
  obtain ⟨a1, a2, a3, n1, k1, n2, k2, n3, k3, x2, x4, x5, x6, x7, hb, r⟩ := h
  exact ⟨a1, a2, a3, n1, k1, n2, k2, n3, k3, x2, x4, x5, x6, x7, (E.block m (lt_of_block hb)).trans hb, r⟩
theorem BoxSt.av {w : World} {m n : Nat} {s : St} (h : BoxSt w m s) (hn : w.heap.size ≤ n) : BoxAv w m n s := by
  obtain ⟨a1, k1, a2, k2, a3, k3, hb, h1, h2, h3, r⟩ := h
  exact ⟨_, _, _, _, _, _, _, _, _, _, _, _, _, _, hb, av_of h1 hn, av_of h2 hn, av_of h3 hn⟩
theorem own7_ext {w w' : World} {nb t n : Nat} {v : Value} {xs : List Value} (h : w.ownsRow nb t 7 v n xs) (E : Ext w w') : w'.ownsRow nb t 7 v n xs :=
  own7_later h (fun b hb => E.block b (by obtain ⟨_, cur, hg⟩ := own7_at h hb; exact lt_of_block hg))
theorem own7_set {w : World} {nb t n : Nat} {v : Value} {xs : List Value} (h : w.ownsRow nb t 7 v n xs) {p : Addr} {u : Value} (hp : ∀ k, v.ownBlock = some k → k ≠ p.block) : (w.setCell p u).ownsRow nb t 7 v n xs :=
  own7_later h (fun b hb => Below.heap_setCell _ _ _ _ (hp b hb))
theorem own7_set8 {w : World} {nb t n m : Nat} {v : Value} {xs : List Value} (h : w.ownsRow nb t 7 v n xs) (hp : ∀ k, v.ownBlock = some k → k ≠ m) {v0 v1 v2 v3 v4 v5 v6 v7 : Value} :
    ((((((((w.setCell ⟨m, 0, none⟩ v0).setCell ⟨m, 1, none⟩ v1).setCell ⟨m, 2, none⟩ v2).setCell ⟨m, 3, none⟩ v3).setCell ⟨m, 4, none⟩ v4).setCell ⟨m, 5, none⟩ v5).setCell ⟨m, 6, none⟩ v6).setCell ⟨m, 7, none⟩ v7).ownsRow nb t 7 v n xs :=
  own7_set (own7_set (own7_set (own7_set (own7_set (own7_set (own7_set (own7_set h hp) hp) hp) hp) hp) hp) hp) hp
theorem ints_av8 {w : World} {a : Option Addr} {xs : List Int} {m : Nat} (h : IntsAt w a xs) (hp : Av m a xs) {v0 v1 v2 v3 v4 v5 v6 v7 : Value} :
    IntsAt ((((((((w.setCell ⟨m, 0, none⟩ v0).setCell ⟨m, 1, none⟩ v1).setCell ⟨m, 2, none⟩ v2).setCell ⟨m, 3, none⟩ v3).setCell ⟨m, 4, none⟩ v4).setCell ⟨m, 5, none⟩ v5).setCell ⟨m, 6, none⟩ v6).setCell ⟨m, 7, none⟩ v7) a xs :=
  ints_av (ints_av (ints_av (ints_av (ints_av (ints_av (ints_av (ints_av h hp) hp) hp) hp) hp) hp) hp) hp
theorem BoxSt.ext {w w' : World} {m : Nat} {s : St} (h : BoxSt w m s) (E : Ext w w') : BoxSt w' m s := by
  obtain ⟨a1, k1, a2, k2, a3, k3, hb, h1, h2, h3, r⟩ := h
  exact ⟨a1, k1, a2, k2, a3, k3, (E.block m (lt_of_block hb)).trans hb, h1.ext E, h2.ext E, h3.ext E, r⟩

set_option maxRecDepth 100000 in
set_option maxHeartbeats 4000000 in
theorem rtrace_any (v : Value) (s : St) (most : Int) (w : World) (h : StAt w v s) (hb : StBd s) :
    Calls Try.prog 26 #[v, .int .i64 most] w (StpRes (traceE s most) w) := by
  have ha := fun W (E : Ext w W) => asked_any v s most W (h.ext E) hb
  have hr : traceE s most = if askedQ s most = 0 then (traceQ most.toNat s, 0) else ([], askedQ s most) := rfl
  rw [hr]
  have hok := asked_ok (s := s) (most := most)
  obtain ⟨a1, a2, a3, k1, k2, k3, rfl, i1, i2, i3⟩ := h
  generalize askedQ s most = er at *
  by_cases he : er = 0
  · subst he
    obtain ⟨z1, z2⟩ := hok rfl
    have hv := valid_of_check z1
    obtain ⟨p0, p1⟩ := inB_bd z2
    clear z1 z2 hok
    rw [if_pos rfl]
    obtain ⟨n, rfl⟩ := Int.eq_ofNat_of_zero_le p0
    rw [Int.toNat_natCast]
    obtain ⟨i0, hi, ha0, ha1, ha2⟩ := info_parts Try.infoS
    have hn5 : n ≤ 5000 := by omega
    go_enter Try.func26, Try.ntmps26
    go_wp2_with fail
    refine (ha _ (by repeat (first | with_reducible exact Ext.refl _ | with_reducible refine Ext.alloc ?_ _ | with_reducible refine Below.drew ?_))).mono ?_
    rintro e w1 ⟨rfl, E1⟩
    clear ha
    have hB0 : BoxSt w1 w.heap.size s := ⟨_, _, _, _, _, _, zbox E1, i1.ext E1.old, i2.ext E1.old, i3.ext E1.old, av_of i1 (Nat.le_refl _), av_of i2 (Nat.le_refl _), av_of i3 (Nat.le_refl _)⟩
    have hs0 : w.heap.size < w1.heap.size := by have := E1.size; simp at this; omega
    have HV := Lib.hid hv
    clear hv
    go_wp2_with fail
    go_loopw [7, 8] (fun s7 i wr => ∃ k : Nat, k ≤ n ∧ i = .int .i64 k ∧ Ext w wr ∧ w.heap.size < wr.heap.size ∧ BoxSt wr w.heap.size (runQ k s) ∧ (∃ a c, s7 = .slice a (traceQ k s).length c ∧ Aside (wr.ownsRow (w.heap.size + 1) 47 7 (.slice a (traceQ k s).length c) (traceQ k s).length (scs (traceQ k s)) ∧ ∀ kk, (Value.slice a (traceQ k s).length c).ownBlock = some kk → BoxAv wr w.heap.size kk (runQ k s)))) (fun _ i _ => n - (intOf i).toNat)
    case atStart => exact ⟨0, Nat.zero_le _, rfl, E1.old, hs0, hB0, none, 0, rfl, World.ownsRow_nil _ _ _ _, fun kk e => by cases e⟩
    case round =>
      obtain ⟨k, hk, rfl, E0, hsz, ⟨d1, e1, d2, e2, d3, e3, hblk, j1, j2, j3, v1, v2, v3⟩, sa, sk, rfl, hownA⟩ := hrel
      have hown : Aside _ := hownA.out.1
      have V := Lib.hid (runQ_valid k HV.out)
      have R1 := Lib.hid (runQ_snoc k s)
      have R2 := Lib.hid (traceQ_snoc k s)
      have R3 := Lib.hid (runQ_stop (s := s) (k := k))
      have hll := traceQ_le k s
      generalize hT : runQ k s = t at *
      generalize hL : traceQ k s = l at *
      have HT := Lib.hid hT
      have HL := Lib.hid hL
      clear hT hL
      have HAV := Lib.hid hownA.out.2
      clear hownA
      by_cases hlt : k < n
      · have hltz : (k : Int) < (n : Int) := by omega
        by_cases hw : t.why = 0
        · have hlen := V.out.len
          have hw0 := V.out.word t.at_ V.out.at_.1 V.out.at_.2
          obtain ⟨p0, p1⟩ := V.out.at_
          obtain ⟨b, off, rfl, hb1, hc⟩ := ints_form j1 (by rw [hlen]; decide)
          obtain ⟨m, hm⟩ := Int.eq_ofNat_of_zero_le p0
          have c0 : wr.cell? ⟨b, off + m, none⟩ = some (.int .i64 (wordAt t t.at_)) := by
            rw [hc m (by omega)]; unfold wordAt; rw [hm]; rfl
          have hd := fun W => rdecode_any (wordAt t t.at_) W hw0.1 hw0.2
          have ho : decodeQ (wordAt t t.at_) = ordAt t := rfl
          rw [ho] at hd
          have Hlen := Lib.hid hlen
          have Hm := Lib.hid hm
          rw [hlen, hm] at hblk
          generalize wordAt t t.at_ = Z at *
          rw [hm] at p0 p1
          have q0 := cell_of_cells hblk 0 (v := .slice (some ⟨b, off, none⟩) 128 e1) rfl
          have q1 := cell_of_cells hblk 1 (v := .slice d2 t.tape.length e2) rfl
          have q2 := cell_of_cells hblk 2 (v := .int .i64 t.taken) rfl
          have q3 := cell_of_cells hblk 3 (v := .slice d3 t.printed.length e3) rfl
          have q4 := cell_of_cells hblk 4 (v := .int .i64 t.time) rfl
          have q5 := cell_of_cells hblk 5 (v := .int .i64 m) rfl
          have q6 := cell_of_cells hblk 6 (v := .int .i64 t.done) rfl
          have q7 := cell_of_cells hblk 7 (v := .int .i64 t.why) rfl
          have bw : (t.why == 0) = true := by simpa using hw
          have Hw := Lib.hid hw
          have HB := Lib.hid hblk
          clear hw hc hlen hm ho hblk
          have p2 : (m : Int) < 128 := by omega
          generalize hO : ordAt t = o at hd
          obtain ⟨op, fr, tt, nx⟩ := o
          have HO := Lib.hid hO
          clear hO
          go_wp2_with fail
          go_upto_region 8 with fail
          go_cut [9] (fun s9 wx => ∃ g : Nat, s9 = .pointer (some ⟨g, 0, none⟩) ∧ Ext wr wx ∧ wr.heap.size ≤ g ∧ g < wx.heap.size ∧ Aside (wx.heap[g]? = some (.cells #[.int .i64 m, .int .i64 op, .int .i64 fr, .int .i64 tt, .int .i64 nx, .int .i64 t.time, .int .i64 0] 47 (0, 0))))
          case first =>
            have hn1 : ¬ w.heap.size = wr.heap.size := by omega
            have hn2 : ¬ b = wr.heap.size := by omega
            have hn3 : ¬ wr.heap.size = w.heap.size := by omega
            have hn4 : ¬ wr.heap.size = b := by omega
            have q0d : wr.drew.cell? ⟨w.heap.size, 0, none⟩ = some (.slice (some ⟨b, off, none⟩) 128 e1) := q0
            have q4d : wr.drew.cell? ⟨w.heap.size, 4, none⟩ = some (.int .i64 t.time) := q4
            have q5d : wr.drew.cell? ⟨w.heap.size, 5, none⟩ = some (.int .i64 m) := q5
            have c0d : wr.drew.cell? ⟨b, off + m, none⟩ = some (.int .i64 Z) := c0
            go_region_held3 (fun w' => w'.cell? ⟨w.heap.size, 0, none⟩ = some (.slice (some ⟨b, off, none⟩) 128 e1) ∧ w'.cell? ⟨w.heap.size, 4, none⟩ = some (.int .i64 t.time) ∧ w'.cell? ⟨w.heap.size, 5, none⟩ = some (.int .i64 m) ∧ w'.cell? ⟨b, off + m, none⟩ = some (.int .i64 Z))
              (first | with_reducible exact ⟨q0, q4, q5, c0⟩ | ((refine ⟨?_, ?_, ?_, ?_⟩) <;> (repeat ((with_reducible refine (World.cell?_setCell_other _ _ _ _ ?_).trans ?_); · (intro hq; injection hq with hq1; first | exact hn3 hq1 | exact hn4 hq1))) <;> first | with_reducible exact cell_later hb' (cell_later (Ext.alloc (Ext.refl wr) _).drew q0) | with_reducible exact cell_later hb' (cell_later (Ext.alloc (Ext.refl wr) _).drew q4) | with_reducible exact cell_later hb' (cell_later (Ext.alloc (Ext.refl wr) _).drew q5) | with_reducible exact cell_later hb' (cell_later (Ext.alloc (Ext.refl wr) _).drew c0)) | with_reducible exact ⟨cell_later hb' q0d, cell_later hb' q4d, cell_later hb' q5d, cell_later hb' c0d⟩ | with_reducible exact ⟨cell_later hb' (cell_later (Ext.alloc (Ext.refl wr) _).drew q0), cell_later hb' (cell_later (Ext.alloc (Ext.refl wr) _).drew q4), cell_later hb' (cell_later (Ext.alloc (Ext.refl wr) _).drew q5), cell_later hb' (cell_later (Ext.alloc (Ext.refl wr) _).drew c0)⟩ | with_reducible exact ⟨cell_later ((Ext.refl _).alloc _) (cell_later hb' q0d), cell_later ((Ext.refl _).alloc _) (cell_later hb' q4d), cell_later ((Ext.refl _).alloc _) (cell_later hb' q5d), cell_later ((Ext.refl _).alloc _) (cell_later hb' c0d)⟩ | with_reducible exact ⟨cell_later (Ext.alloc (Ext.refl wr) _).drew q0, cell_later (Ext.alloc (Ext.refl wr) _).drew q4, cell_later (Ext.alloc (Ext.refl wr) _).drew q5, cell_later (Ext.alloc (Ext.refl wr) _).drew c0⟩ | exact ⟨q0d, q4d, q5d, c0d⟩)
              (first | (go_at_call 53; refine (hd _).mono ?_; rintro e w' ⟨rfl, hb'⟩; (try with_reducible (have x0 : w'.cell? ⟨wr.heap.size, 0, none⟩ = some (.int .i64 0) := box_at (w := wr) (Ext.comp (Ext.refl (wr.alloc _)).drew hb') 0 rfl; have x1 : w'.cell? ⟨wr.heap.size, 1, none⟩ = some (.int .i64 0) := box_at (w := wr) (Ext.comp (Ext.refl (wr.alloc _)).drew hb') 1 rfl; have x2 : w'.cell? ⟨wr.heap.size, 2, none⟩ = some (.int .i64 0) := box_at (w := wr) (Ext.comp (Ext.refl (wr.alloc _)).drew hb') 2 rfl; have x3 : w'.cell? ⟨wr.heap.size, 3, none⟩ = some (.int .i64 0) := box_at (w := wr) (Ext.comp (Ext.refl (wr.alloc _)).drew hb') 3 rfl; have x4 : w'.cell? ⟨wr.heap.size, 4, none⟩ = some (.int .i64 0) := box_at (w := wr) (Ext.comp (Ext.refl (wr.alloc _)).drew hb') 4 rfl; have x5 : w'.cell? ⟨wr.heap.size, 5, none⟩ = some (.int .i64 0) := box_at (w := wr) (Ext.comp (Ext.refl (wr.alloc _)).drew hb') 5 rfl; have x6 : w'.cell? ⟨wr.heap.size, 6, none⟩ = some (.int .i64 0) := box_at (w := wr) (Ext.comp (Ext.refl (wr.alloc _)).drew hb') 6 rfl; have y0 : w'.frozen? ⟨wr.heap.size, 0, none⟩ = false := box_free (w := wr) (Ext.comp (Ext.refl (wr.alloc _)).drew hb') 0; have y1 : w'.frozen? ⟨wr.heap.size, 1, none⟩ = false := box_free (w := wr) (Ext.comp (Ext.refl (wr.alloc _)).drew hb') 1; have y2 : w'.frozen? ⟨wr.heap.size, 2, none⟩ = false := box_free (w := wr) (Ext.comp (Ext.refl (wr.alloc _)).drew hb') 2; have y3 : w'.frozen? ⟨wr.heap.size, 3, none⟩ = false := box_free (w := wr) (Ext.comp (Ext.refl (wr.alloc _)).drew hb') 3; have y4 : w'.frozen? ⟨wr.heap.size, 4, none⟩ = false := box_free (w := wr) (Ext.comp (Ext.refl (wr.alloc _)).drew hb') 4; have y5 : w'.frozen? ⟨wr.heap.size, 5, none⟩ = false := box_free (w := wr) (Ext.comp (Ext.refl (wr.alloc _)).drew hb') 5; have y6 : w'.frozen? ⟨wr.heap.size, 6, none⟩ = false := box_free (w := wr) (Ext.comp (Ext.refl (wr.alloc _)).drew hb') 6))))
            all_goals
              go_wp2_with fail
              go_meet
              first
                | (have hq : Ext wr.drew w' := by with_reducible exact hb'
                   exact ⟨w'.heap.size, rfl, (Ext.comp (Ext.refl wr).drew hb').alloc _, hb'.size, by simp, heap_alloc_new w' _⟩)
                | exact ⟨wr.heap.size, rfl, cells7_ext hb' (by omega), Nat.le_refl _, cells7_lt hb', cells7 ((hb'.block wr.heap.size (by simp)).trans (heap_alloc_new wr _)) _ _ _ _ _ _ _⟩
          case rest =>
            obtain ⟨g, rfl, Eg, hg0, hg1, hblkg⟩ := hcut
            have hgw : ¬ g = w.heap.size := by omega
            have hwg : ¬ w.heap.size = g := by omega
            have hb2 := (Eg.block w.heap.size hsz).trans HB.out
            clear q0 q1 q2 q3 q4 q5 q6 q7
            clear c0 hd
            have q0 := cell_of_cells hb2 0 (v := .slice (some ⟨b, off, none⟩) 128 e1) rfl
            have q1 := cell_of_cells hb2 1 (v := .slice d2 t.tape.length e2) rfl
            have q2 := cell_of_cells hb2 2 (v := .int .i64 t.taken) rfl
            have q3 := cell_of_cells hb2 3 (v := .slice d3 t.printed.length e3) rfl
            have q4 := cell_of_cells hb2 4 (v := .int .i64 t.time) rfl
            have q5 := cell_of_cells hb2 5 (v := .int .i64 m) rfl
            have q6 := cell_of_cells hb2 6 (v := .int .i64 t.done) rfl
            have q7 := cell_of_cells hb2 7 (v := .int .i64 t.why) rfl
            have hst := fun W (E : Ext wr W) => rstep_any (sv (some ⟨b, off, none⟩) d2 d3 128 e1 t.tape.length e2 t.printed.length e3 t.taken t.time m t.done t.why) t W ⟨some ⟨b, off, none⟩, d2, d3, e1, e2, e3, by rw [Hlen.out, Hm.out], j1.ext E, j2.ext E, j3.ext E⟩ V.out Hw.out
            have HB2 := Lib.hid hb2
            have HG := Lib.hid hblkg.out
            clear hb2
            go_wp2_with fail
            refine (hst _ Eg).mono ?_
            rintro e w3 ⟨vv, rfl, A3, E3, hA3⟩
            have hlw : w.heap.size < wc.heap.size := Nat.lt_of_lt_of_le hsz Eg.size
            have hV1 := hA3 w.heap.size hlw (avSt_sv.2 ⟨v1, v2, v3⟩)
            have hV2 := hA3 g hg1 (avSt_sv.2 ⟨av_of j1 hg0, av_of j2 hg0, av_of j3 hg0⟩)
            obtain ⟨p1, p2, p3, m1, m2, m3, rfl, P1, P2, P3⟩ := A3
            obtain ⟨x1, x2, x3⟩ := avSt_sv.1 hV1
            obtain ⟨y1, y2, y3⟩ := avSt_sv.1 hV2
            have hb3 := (E3.block w.heap.size hlw).trans HB2.out
            have hg3 := (E3.block g hg1).trans HG.out
            clear q0 q1 q2 q3 q4 q5 q6 q7
            have q0 := cell_of_cells hb3 0 (v := .slice (some ⟨b, off, none⟩) 128 e1) rfl
            have q1 := cell_of_cells hb3 1 (v := .slice d2 t.tape.length e2) rfl
            have q2 := cell_of_cells hb3 2 (v := .int .i64 t.taken) rfl
            have q3 := cell_of_cells hb3 3 (v := .slice d3 t.printed.length e3) rfl
            have q4 := cell_of_cells hb3 4 (v := .int .i64 t.time) rfl
            have q5 := cell_of_cells hb3 5 (v := .int .i64 m) rfl
            have q6 := cell_of_cells hb3 6 (v := .int .i64 t.done) rfl
            have q7 := cell_of_cells hb3 7 (v := .int .i64 t.why) rfl
            have qf0 := free_of_cells hb3 0
            have qf1 := free_of_cells hb3 1
            have qf2 := free_of_cells hb3 2
            have qf3 := free_of_cells hb3 3
            have qf4 := free_of_cells hb3 4
            have qf5 := free_of_cells hb3 5
            have qf6 := free_of_cells hb3 6
            have qf7 := free_of_cells hb3 7
            have z0 := cell_of_cells hg3 0 (v := .int .i64 m) rfl
            have z1 := cell_of_cells hg3 1 (v := .int .i64 op) rfl
            have z2 := cell_of_cells hg3 2 (v := .int .i64 fr) rfl
            have z3 := cell_of_cells hg3 3 (v := .int .i64 tt) rfl
            have z4 := cell_of_cells hg3 4 (v := .int .i64 nx) rfl
            have z5 := cell_of_cells hg3 5 (v := .int .i64 t.time) rfl
            have z6 := cell_of_cells hg3 6 (v := .int .i64 0) rfl
            have zf0 := free_of_cells hg3 0
            have zf1 := free_of_cells hg3 1
            have zf2 := free_of_cells hg3 2
            have zf3 := free_of_cells hg3 3
            have zf4 := free_of_cells hg3 4
            have zf5 := free_of_cells hg3 5
            have zf6 := free_of_cells hg3 6
            have hlw3 : w.heap.size < w3.heap.size := Nat.lt_of_lt_of_le hlw E3.size
            have hlg3 : g < w3.heap.size := Nat.lt_of_lt_of_le hg1 E3.size
            have HB3 := Lib.hid hb3
            have HG3 := Lib.hid hg3
            have E03 : Ext w w3 := E0.comp (Ext.comp Eg E3)
            have E13 : Ext wr w3 := Ext.comp Eg E3
            clear hb3 hg3 hst hV1 hV2
            have hok : ∀ k, (Value.slice sa l.length sk).ownBlock = some k → w.heap.size + 1 ≤ k ∧ k < wr.heap.size := fun k hk => by
              obtain ⟨h1, cur, h2⟩ := own7_at hown.out hk
              exact ⟨h1, lt_of_block h2⟩
            have hO5 : (((((((((w3.setCell ⟨w.heap.size, 0, none⟩ (.slice p1 (stepQ t).store.length m1)).setCell ⟨w.heap.size, 1, none⟩ (.slice p2 (stepQ t).tape.length m2)).setCell ⟨w.heap.size, 2, none⟩ (.int .i64 (stepQ t).taken)).setCell ⟨w.heap.size, 3, none⟩ (.slice p3 (stepQ t).printed.length m3)).setCell ⟨w.heap.size, 4, none⟩ (.int .i64 (stepQ t).time)).setCell ⟨w.heap.size, 5, none⟩ (.int .i64 (stepQ t).at_)).setCell ⟨w.heap.size, 6, none⟩ (.int .i64 (stepQ t).done)).setCell ⟨w.heap.size, 7, none⟩ (.int .i64 (stepQ t).why)).setCell ⟨g, 6, none⟩ (.int .i64 (stepQ t).time)).ownsRow (w.heap.size + 1) 47 7 (.slice sa l.length sk) l.length (scs l) :=
              own7_set (own7_set8 (own7_ext hown.out E13) (fun k hk => by have := hok k hk; omega)) (fun k hk => by have := hok k hk; simp; omega)
            have hB5 : BoxSt (((((((((w3.setCell ⟨w.heap.size, 0, none⟩ (.slice p1 (stepQ t).store.length m1)).setCell ⟨w.heap.size, 1, none⟩ (.slice p2 (stepQ t).tape.length m2)).setCell ⟨w.heap.size, 2, none⟩ (.int .i64 (stepQ t).taken)).setCell ⟨w.heap.size, 3, none⟩ (.slice p3 (stepQ t).printed.length m3)).setCell ⟨w.heap.size, 4, none⟩ (.int .i64 (stepQ t).time)).setCell ⟨w.heap.size, 5, none⟩ (.int .i64 (stepQ t).at_)).setCell ⟨w.heap.size, 6, none⟩ (.int .i64 (stepQ t).done)).setCell ⟨w.heap.size, 7, none⟩ (.int .i64 (stepQ t).why)).setCell ⟨g, 6, none⟩ (.int .i64 (stepQ t).time)) w.heap.size (stepQ t) := ⟨p1, m1, p2, m2, p3, m3, (Below.heap_setCell _ _ _ _ (by simp; omega)).trans (cells8 HB3.out _ _ _ _ _ _ _ _), ints_av (ints_av8 P1 x1) y1, ints_av (ints_av8 P2 x2) y2, ints_av (ints_av8 P3 x3) y3, x1, x2, x3⟩
            have hE5 : Ext w (((((((((w3.setCell ⟨w.heap.size, 0, none⟩ (.slice p1 (stepQ t).store.length m1)).setCell ⟨w.heap.size, 1, none⟩ (.slice p2 (stepQ t).tape.length m2)).setCell ⟨w.heap.size, 2, none⟩ (.int .i64 (stepQ t).taken)).setCell ⟨w.heap.size, 3, none⟩ (.slice p3 (stepQ t).printed.length m3)).setCell ⟨w.heap.size, 4, none⟩ (.int .i64 (stepQ t).time)).setCell ⟨w.heap.size, 5, none⟩ (.int .i64 (stepQ t).at_)).setCell ⟨w.heap.size, 6, none⟩ (.int .i64 (stepQ t).done)).setCell ⟨w.heap.size, 7, none⟩ (.int .i64 (stepQ t).why)).setCell ⟨g, 6, none⟩ (.int .i64 (stepQ t).time)) := ext_set (ext_set8 E03 (Nat.le_refl _) _ _ _ _ _ _ _ _) (by simp; omega)
            have hz5 : (((((((((w3.setCell ⟨w.heap.size, 0, none⟩ (.slice p1 (stepQ t).store.length m1)).setCell ⟨w.heap.size, 1, none⟩ (.slice p2 (stepQ t).tape.length m2)).setCell ⟨w.heap.size, 2, none⟩ (.int .i64 (stepQ t).taken)).setCell ⟨w.heap.size, 3, none⟩ (.slice p3 (stepQ t).printed.length m3)).setCell ⟨w.heap.size, 4, none⟩ (.int .i64 (stepQ t).time)).setCell ⟨w.heap.size, 5, none⟩ (.int .i64 (stepQ t).at_)).setCell ⟨w.heap.size, 6, none⟩ (.int .i64 (stepQ t).done)).setCell ⟨w.heap.size, 7, none⟩ (.int .i64 (stepQ t).why)).setCell ⟨g, 6, none⟩ (.int .i64 (stepQ t).time)).heap.size = w3.heap.size := by simp [World.setCell]
            have hA5 : ∀ kk, (Value.slice sa l.length sk).ownBlock = some kk → BoxAv (((((((((w3.setCell ⟨w.heap.size, 0, none⟩ (.slice p1 (stepQ t).store.length m1)).setCell ⟨w.heap.size, 1, none⟩ (.slice p2 (stepQ t).tape.length m2)).setCell ⟨w.heap.size, 2, none⟩ (.int .i64 (stepQ t).taken)).setCell ⟨w.heap.size, 3, none⟩ (.slice p3 (stepQ t).printed.length m3)).setCell ⟨w.heap.size, 4, none⟩ (.int .i64 (stepQ t).time)).setCell ⟨w.heap.size, 5, none⟩ (.int .i64 (stepQ t).at_)).setCell ⟨w.heap.size, 6, none⟩ (.int .i64 (stepQ t).done)).setCell ⟨w.heap.size, 7, none⟩ (.int .i64 (stepQ t).why)).setCell ⟨g, 6, none⟩ (.int .i64 (stepQ t).time)) w.heap.size kk (stepQ t) := fun kk hk => by
              have h1 := hok kk hk
              have h2 := (HAV.out kk hk).get HB.out
              have h3 := avSt_sv.1 (hA3 kk (Nat.lt_of_lt_of_le h1.2 Eg.size) (avSt_sv.2 h2))
              exact ⟨_, _, _, _, _, _, _, _, _, _, _, _, _, _, (Below.heap_setCell _ _ _ _ (by simp; omega)).trans (cells8 HB3.out _ _ _ _ _ _ _ _), h3⟩
            have HA5 := Lib.hid hA5
            have HOK := Lib.hid hok
            have HZ5 := Lib.hid hz5
            have HO5 := Lib.hid hO5
            clear hz5 hO5 hok hA5 hA3
            by_cases hs2 : (stepQ t).why = 0
            · have bs : ((stepQ t).why == 0) = true := by simpa using hs2
              have hst := Lib.hid hs2
              clear hs2
              go_wp2_with (at_builtin; refine wpList_app2 (w0 := w) rfl _ _ 35 rfl 47 i0 _ 7 56 Try.underlying35 hi ha0 ha1 ha2 rfl (by decide) _ l.length (w.heap.size + 1) (scs l) rfl (own7_ext HO5.out ((Ext.refl _).alloc _)) (Ext.alloc hE5 _) (Nat.le_succ _) ?d3 _ 1 1 (sc ⟨m, ⟨op, fr, tt, nx⟩, t.time, (stepQ t).time⟩) rfl rfl ?d4 (sc_one _) (by unfold maxLen; omega) (by omega) ?_)
              case d3 => simp; omega
              case d4 =>
                refine .inr ⟨_, rfl, World.news_of_block (cs := #[.int .i64 m, .int .i64 op, .int .i64 fr, .int .i64 tt, .int .i64 nx, .int .i64 t.time, .int .i64 (stepQ t).time]) (t := 47) (fr := (0, 0)) ?_⟩
                have e := heap_alloc_new (((((((((w3.setCell ⟨w.heap.size, 0, none⟩ (.slice p1 (stepQ t).store.length m1)).setCell ⟨w.heap.size, 1, none⟩ (.slice p2 (stepQ t).tape.length m2)).setCell ⟨w.heap.size, 2, none⟩ (.int .i64 (stepQ t).taken)).setCell ⟨w.heap.size, 3, none⟩ (.slice p3 (stepQ t).printed.length m3)).setCell ⟨w.heap.size, 4, none⟩ (.int .i64 (stepQ t).time)).setCell ⟨w.heap.size, 5, none⟩ (.int .i64 (stepQ t).at_)).setCell ⟨w.heap.size, 6, none⟩ (.int .i64 (stepQ t).done)).setCell ⟨w.heap.size, 7, none⟩ (.int .i64 (stepQ t).why)).setCell ⟨g, 6, none⟩ (.int .i64 (stepQ t).time)) (.cells #[.int .i64 m, .int .i64 op, .int .i64 fr, .int .i64 tt, .int .i64 nx, .int .i64 t.time, .int .i64 (stepQ t).time] 47)
                rw [HZ5.out] at e
                exact e
              intro a6 c6 w6 hO6 hE6 hG6 hP6
              have HG6 := Lib.hid hG6
              have HP6 := Lib.hid hP6
              clear hG6 hP6
              go_wp2_with fail
              go_roundw
              case measure => simp [intOf]; omega
              case rel =>
                have hrow : (Value.slice sa l.length sk).ownBlock ≠ some w.heap.size := fun e => by have := (HOK.out _ e).1; omega
                have hB7 := hB5.ext (Ext.alloc (Ext.refl _) (.cells #[.int .i64 m, .int .i64 op, .int .i64 fr, .int .i64 tt, .int .i64 nx, .int .i64 t.time, .int .i64 (stepQ t).time] 47))
                have hB6 := hB7.grown HG6.out hrow (fun kk e => (HA5.out kk e).ext (Ext.alloc (Ext.refl _) _))
                have hz6 : w.heap.size < w6.heap.size := by have := HG6.out.size; simp [World.setCell] at this; omega
                have ex : traceQ (k + 1) s = l ++ [⟨m, ⟨op, fr, tt, nx⟩, t.time, (stepQ t).time⟩] := by
                  rw [R2.out, if_pos ⟨Hw.out, hst.out⟩, HO.out, Hm.out]
                refine ⟨k + 1, by omega, by go_num, hE6, hz6, ?_, ?_⟩
                · rw [R1.out, if_pos Hw.out]; exact hB6
                · rw [ex, R1.out, if_pos Hw.out]
                  refine ⟨a6, c6, by simp, ?_⟩
                  rw [show (l ++ [(⟨m, ⟨op, fr, tt, nx⟩, t.time, (stepQ t).time⟩ : Stp)]).length = l.length + 1 by simp, scs_snoc]
                  refine ⟨hO6, fun kk e => ?_⟩
                  rcases HP6.out with h | h
                  · rw [h] at e
                    exact ((HA5.out kk e).ext (Ext.alloc (Ext.refl _) _)).grown HG6.out hrow
                  · rw [h] at e
                    have e2 := Option.some.inj e
                    rw [← e2]
                    exact (hB7.av (by rw [World.size_alloc, HZ5.out]; exact Nat.le_refl _)).grown HG6.out hrow
            · have bs : ((stepQ t).why == 0) = false := by simpa using hs2
              have hst := Lib.hid hs2
              clear hs2
              go_wp2_with fail
              go_roundw
              case measure => simp [intOf]; omega
              case rel =>
                refine ⟨k + 1, by omega, by go_num, hE5, by rw [HZ5.out]; exact hlw3, ?_, ?_⟩
                · rw [R1.out, if_pos Hw.out]; exact hB5
                · rw [R2.out, if_neg (fun c => hst.out c.2)]; rw [R1.out, if_pos Hw.out]; exact ⟨sa, sk, rfl, HO5.out, HA5.out⟩
        · have b1 : (t.why == 0) = false := by simpa using hw
          obtain ⟨hx1, hx2⟩ := R3.out hw (n - k)
          have ek : k + (n - k) = n := by omega
          rw [ek] at hx1 hx2
          have HX := Lib.hid hx2
          have q7 := cell_of_cells hblk 7 (v := .int .i64 t.why) rfl
          clear hw hx1 hx2 ek hblk
          go_wp2_with fail
          go_ret2
          rw [HX.out]
          exact ⟨sa, sk, rfl, own7_steps hown.out rfl, E0⟩
      · have hltz : ¬ (k : Int) < (n : Int) := by omega
        have hkn : k = n := by omega
        have hx : traceQ n s = l := by rw [← hkn]; exact HL.out
        have HX := Lib.hid hx
        clear hx hkn
        go_wp2_with fail
        go_ret2
        rw [HX.out]
        exact ⟨sa, sk, rfl, own7_steps hown.out rfl, E0⟩
  · rw [if_neg he]
    have he' : (er != 0) = true := by simpa using he
    clear hok hr he
    go_enter Try.func26, Try.ntmps26
    go_wp2_with fail
    refine (ha _ (by repeat (first | with_reducible exact Ext.refl _ | with_reducible refine Ext.alloc ?_ _ | with_reducible refine Below.drew ?_))).mono ?_
    rintro e w1 ⟨rfl, E1⟩
    go_wp2_with fail
    go_ret2
    exact ⟨none, 0, rfl, .inl rfl, E1.old⟩
end Go.Proofs.Ytpdkgoeoddeebaa

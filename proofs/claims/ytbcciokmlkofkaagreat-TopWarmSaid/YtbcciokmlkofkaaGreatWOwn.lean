import Derived.Maps.AppendAt
import Derived.Deep.AppendLies
import Derived.Deep.RegionLaw
import Derived.Laws.OwnMore
import Derived.Test.YtbcciokmlkofkaaGreatWC1
set_option linter.unusedVariables false
set_option linter.unusedSimpArgs false
/- Append to a row of the call's own, the source nil or not, in a plain region and in one that draws; what such a row reads as. -/
namespace Go.Q
open Go.RowKit
/-- the cells news lie from a on; where there are none nothing is asked -/
def From (w : World) (a : Option Addr) (news : List Value) : Prop := news = [] ∨ ∃ ad, a = some ad ∧ ∀ j u, news[j]? = some u → w.cell? (ad.add j) = some u
theorem ext_drewN {a b : World} (h : Ext a b) (n : Nat) : Ext a (b.drewN n) := below_drewN h n
theorem ext_drew {a b : World} (h : Ext a b) : Ext a b.drew := h.drew
theorem run_app_nil {P : Program} {w : World} (t ty e : TypeId) {i : TypeInfo} (ht : P.underlying t = some (.slice e)) (hi : P.info? e = some i) {B sz n : Nat} {v : Value} {xs : List Value}
    (hown : w.ownsRow B e sz v n xs) (c : Nat) : (Builtin.append_ #[t, t] ty #[v, .slice none 0 c]).run P w = .ok v w := by
  rcases hown.2 with ⟨h, _⟩ | ⟨g, cap, cur, h, _, _, hle, _⟩ <;> subst h
  · simp [Builtin.append_, Builtin.lenOf, Builtin.firstCells, run_underlying ht, sizeOf, typeInfo, hi]
  · simp [Builtin.append_, Builtin.lenOf, Builtin.firstCells, run_underlying ht, sizeOf, typeInfo, hi, hle, storeCells]
theorem run_app {P : Program} {w0 w : World} (t ty e : TypeId) (i : TypeInfo) (z : Value) (sz bytes : Nat) (ht : P.underlying t = some (.slice e)) (hi : P.info? e = some i) (hz : i.zero = some z) (hs : i.size = sz) (hb : i.bytes = bytes) (hzs : z.cells.size = sz) (hsz : 0 < sz)
    (v : Value) (n B : Nat) (xs : List Value) (hown : w.ownsRow B e sz v n xs) (hE : Ext w0 w) (hB0 : w0.heap.size ≤ B) (hB1 : B ≤ w.heap.size)
    (a : Option Addr) (m c : Nat) (news : List Value) (hl : news.length = m * sz) (hf : From w a news) (h1 : ∀ u ∈ news, u.oneCell' = true) (h63 : n + m ≤ maxLen) (hbytes : (n + m) * bytes ≤ 140737488355328) :
    ∃ (a' : Option Addr) (c' : Nat) (w' : World), (Builtin.append_ #[t, t] ty #[v, .slice a m c]).run P w = .ok (.slice a' (n + m) c') w' ∧ w'.ownsRow B e sz (.slice a' (n + m) c') (n + m) (xs ++ news) ∧ Ext w0 w' ∧ w.grownBy w' v.ownBlock := by
  have hrow : ∀ k, v.ownBlock = some k → w0.heap.size ≤ k := fun k hk => Nat.le_trans hB0 (hown.lt k hk).1
  have fin : ∀ (v' : Value) (w' : World), w'.ownsRow B e sz v' (n + m) (xs ++ news) → ∃ a' c', v' = .slice a' (n + m) c' := by
    intro v' w' h
    rcases h.2 with ⟨h1, h2⟩ | ⟨g, cap, cur, h1, _⟩
    · exact ⟨none, 0, by rw [h2]; exact h1⟩
    · exact ⟨_, _, h1⟩
  cases a with
  | none =>
    have hn : news = [] := by
      rcases hf with h | ⟨ad, h, _⟩
      · exact h
      · cases h
    subst hn
    have hm : m = 0 := by
      rcases Nat.eq_zero_or_pos m with h | h
      · exact h
      · have : 0 < m * sz := Nat.mul_pos h hsz
        simp at hl; omega
    subst hm
    have ho : w.ownsRow B e sz v (n + 0) (xs ++ []) := by simpa using hown
    obtain ⟨a', c', hv⟩ := fin v w ho
    exact ⟨a', c', w, by rw [← hv]; exact run_app_nil t ty e ht hi hown c, by rw [← hv]; exact ho, hE, World.grownBy.refl w _⟩
  | some ad =>
    have hc : ∀ j u, news[j]? = some u → w.cell? (ad.add j) = some u := by
      rcases hf with h | ⟨ad', h, hc⟩
      · subst h; intro j u hu; simp at hu
      · cases h; exact hc
    obtain ⟨v', w', hr, h2, h3, _, _⟩ := run_append_own_at (P := P) w B t ty e i z sz bytes ht hi hz hs hb hzs hsz v n xs hown ad m c news hl hc h1 h63 hbytes hB1
    obtain ⟨a', c', hv⟩ := fin v' w' h2
    exact ⟨a', c', w', by rw [hr, hv], by rw [← hv]; exact h2, hE.grown h3 hE.size hrow, h3⟩
section
variable {P : Program} {w0 w : World}
theorem wp_app {o : Oper} {act : Act} {K : Act → World → Prop} {Q : Exit → Act → World → Prop} (s x : Operand) (t : TypeId)
    (ho : o.op = .call { callee := .builtin .append, args := #[s, x], argTypes := #[t, t] })
    (e : TypeId) (i : TypeInfo) (z : Value) (sz bytes : Nat) (ht : P.underlying t = some (.slice e)) (hi : P.info? e = some i) (hz : i.zero = some z) (hs : i.size = sz) (hb : i.bytes = bytes) (hzs : z.cells.size = sz) (hsz : 0 < sz)
    (v : Value) (n B : Nat) (xs : List Value) (he : act.eval s = v) (hown : w.ownsRow B e sz v n xs) (hE : Ext w0 w) (hB0 : w0.heap.size ≤ B) (hB1 : B ≤ w.heap.size)
    (a : Option Addr) (m c : Nat) (news : List Value) (hx : act.eval x = .slice a m c) (hl : news.length = m * sz) (hf : From w a news) (h1 : ∀ u ∈ news, u.oneCell' = true) (h63 : n + m ≤ maxLen) (hbytes : (n + m) * bytes ≤ 140737488355328)
    (h : ∀ (a' : Option Addr) (c' : Nat) (w' : World), w'.ownsRow B e sz (.slice a' (n + m) c') (n + m) (xs ++ news) → Ext w0 w' → w.grownBy w' v.ownBlock → K (act.put o.dst (.slice a' (n + m) c')) w') : o.wp P act w K Q := by
  obtain ⟨a', c', w', hr, h2, h3, h4⟩ := run_app (P := P) t o.type e i z sz bytes ht hi hz hs hb hzs hsz v n B xs hown hE hB0 hB1 a m c news hl hf h1 h63 hbytes
  have hk := h a' c' w' h2 h3 h4
  unfold Oper.wp execOp
  simp only [ho, resolve, invoke, builtin, Sem.run_bind, Sem.run_pure, Result.andThen_ok, List.map_toArray, List.map_cons, List.map_nil, he, hx, hr]
  exact hk
theorem wpList_app {ops : Array Oper} {rest : List Oper} {o : Oper} {act : Act} {Q : Exit → Act → World → Prop} (hgd : o.guard = none) (s x : Operand) (t : TypeId)
    (ho : o.op = .call { callee := .builtin .append, args := #[s, x], argTypes := #[t, t] })
    (e : TypeId) (i : TypeInfo) (z : Value) (sz bytes : Nat) (ht : P.underlying t = some (.slice e)) (hi : P.info? e = some i) (hz : i.zero = some z) (hs : i.size = sz) (hb : i.bytes = bytes) (hzs : z.cells.size = sz) (hsz : 0 < sz)
    (v : Value) (n B : Nat) (xs : List Value) (he : act.eval s = v) (hown : w.ownsRow B e sz v n xs) (hE : Ext w0 w) (hB0 : w0.heap.size ≤ B) (hB1 : B ≤ w.heap.size)
    (a : Option Addr) (m c : Nat) (news : List Value) (hx : act.eval x = .slice a m c) (hl : news.length = m * sz) (hf : From w a news) (h1 : ∀ u ∈ news, u.oneCell' = true) (h63 : n + m ≤ maxLen) (hbytes : (n + m) * bytes ≤ 140737488355328)
    (h : ∀ (a' : Option Addr) (c' : Nat) (w' : World), w'.ownsRow B e sz (.slice a' (n + m) c') (n + m) (xs ++ news) → Ext w0 w' → w.grownBy w' v.ownBlock → wpList P ops Q rest (act.put o.dst (.slice a' (n + m) c')) w') : wpList P ops Q (o :: rest) act w :=
  wpList_plain hgd fun _ hK => wp_app s x t ho e i z sz bytes ht hi hz hs hb hzs hsz v n B xs he hown hE hB0 hB1 a m c news hx hl hf h1 h63 hbytes fun a' c' w' h2 h3 h4 => hK _ _ (h a' c' w' h2 h3 h4)
theorem step_app {ops : Array Oper} {o : Oper} {act : Act} {K : Act → World → Prop} {Q : Exit → Act → World → Prop} {E : Prop} (hgd : o.guard = none) (s x : Operand) (t : TypeId)
    (ho : o.op = .call { callee := .builtin .append, args := #[s, x], argTypes := #[t, t] })
    (e : TypeId) (i : TypeInfo) (z : Value) (sz bytes : Nat) (ht : P.underlying t = some (.slice e)) (hi : P.info? e = some i) (hz : i.zero = some z) (hs : i.size = sz) (hb : i.bytes = bytes) (hzs : z.cells.size = sz) (hsz : 0 < sz)
    (v : Value) (n B : Nat) (xs : List Value) (he : act.eval s = v) (hown : w.ownsRow B e sz v n xs) (hE : Ext w0 w) (hB0 : w0.heap.size ≤ B) (hB1 : B ≤ w.heap.size)
    (a : Option Addr) (m c : Nat) (news : List Value) (hx : act.eval x = .slice a m c) (hl : news.length = m * sz) (hf : From w a news) (h1 : ∀ u ∈ news, u.oneCell' = true) (h63 : n + m ≤ maxLen) (hbytes : (n + m) * bytes ≤ 140737488355328)
    (h : ∀ (a' : Option Addr) (c' : Nat) (w' : World), w'.ownsRow B e sz (.slice a' (n + m) c') (n + m) (xs ++ news) → Ext w0 w' → w.grownBy w' v.ownBlock → K (act.put o.dst (.slice a' (n + m) c')) w') :
    if Region.wanted o (yielded ops act.tmps) = true then Oper.wp P o act w K Q else E := by
  rw [if_pos (by simp [Region.wanted, hgd])]
  exact wp_app s x t ho e i z sz bytes ht hi hz hs hb hzs hsz v n B xs he hown hE hB0 hB1 a m c news hx hl hf h1 h63 hbytes h
end
/-- an empty literal -/
theorem own_empty {w w1 : World} {e : TypeId} {sz : Nat} (hE : Ext (w.alloc (.cells #[] e)) w1) : w1.ownsRow w.heap.size e sz (.slice (some ⟨w.heap.size, 0, none⟩) 0 0) 0 [] :=
  ⟨by simp, .inr ⟨w.heap.size, 0, #[], rfl, Nat.le_refl _, (hE.block w.heap.size (by simp)).trans (heap_alloc_new w _), Nat.le_refl _, Nat.zero_le _, by simp, by simp⟩⟩
theorem own_empty2 {w w1 : World} {e : TypeId} {sz n : Nat} (hn : w.heap.size = n) (hE : Ext (w.alloc (.cells #[] e)) w1) : w1.ownsRow n e sz (.slice (some ⟨n, 0, none⟩) 0 0) 0 [] := by
  subst hn; exact own_empty hE
end Go.Q
namespace Go.Proofs.YtbcciokmlkofkaaGreat
open Go.RowKit Go.Q
theorem from_ints {w : World} {a : Option Addr} {xs : List Int} (h : IntsAt w a xs) : From w a (iv xs) := by
  rcases h with h | ⟨b, off, ha, hb, hc⟩
  · subst h; exact .inl rfl
  · refine .inr ⟨_, ha, fun j u hu => ?_⟩
    have hj : j < xs.length := by
      rcases Nat.lt_or_ge j xs.length with h | h
      · exact h
      · rw [List.getElem?_eq_none (by simpa [iv_length] using h)] at hu; cases hu
    rw [iv_get xs j hj] at hu
    obtain rfl := Option.some.inj hu
    rw [Addr.add_lit]
    exact hc j hj
theorem iv_set (xs : List Int) (i : Nat) (x : Int) : (iv xs).set i (.int .i64 x) = iv (xs.set i x) := by unfold iv; rw [List.map_set]
theorem iv_app (xs ys : List Int) : iv xs ++ iv ys = iv (xs ++ ys) := by unfold iv; rw [List.map_append]
end Go.Proofs.YtbcciokmlkofkaaGreat

import Derived.Maps.AppendAt
import Derived.Deep.AppendLies
import Derived.Deep.RegionLaw
import Derived.Laws.OwnMore
import Derived.Deep.QuietTactic
import Derived.BigQuiet
import Derived.Maps.OwnIn
import Derived.WalkKit
import Derived.BigRegion
import Derived.Outline
import Derived.Test.YtjfggepgjpdebaaM1
import Derived.Test.YtjfggepgjpdebaaM0
set_option linter.unusedVariables false
set_option linter.unusedSimpArgs false
/- Append to a row of the call's own, the source nil or not, in a plain region and in one that draws; what such a row reads as. -/
namespace Go.Q
open Go.RowKit
/-- the cells news lie from a on; where there are none nothing is asked -/
def From (w : World) (a : Option Addr) (news : List Value) : Prop := news = [] ∨ ∃ ad, a = some ad ∧ ∀ j u, news[j]? = some u → w.cell? (ad.add j) = some u
theorem ext_drewN {a b : World} (h : Ext a b) (n : Nat) : Ext a (b.drewN n) := below_drewN h n
theorem run_app_nil {P : Program} {w : World} (t ty e : TypeId) {i : TypeInfo} (ht : P.underlying t = some (.slice e)) (hi : P.info? e = some i) {B sz n : Nat} {v : Value} {xs : List Value}
    (hown : w.ownsRow B e sz v n xs) (c : Nat) : (Builtin.append_ #[t, t] ty #[v, .slice none 0 c]).run P w = .ok v w := by
  rcases hown.2 with ⟨h, _⟩ | ⟨g, cap, cur, h, _, _, hle, _⟩ <;> subst h
  · simp [Builtin.append_, Builtin.lenOf, Builtin.firstCells, run_underlying ht, sizeOf, typeInfo, hi]
  · simp [Builtin.append_, Builtin.lenOf, Builtin.firstCells, run_underlying ht, sizeOf, typeInfo, hi, hle, storeCells]
theorem run_app {P : Program} {w0 w : World} (t ty e : TypeId) (i : TypeInfo) (z : Value) (sz bytes : Nat) (ht : P.underlying t = some (.slice e)) (hi : P.info? e = some i) (hz : i.zero = some z) (hs : i.size = sz) (hb : i.bytes = bytes) (hzs : z.cells.size = sz) (hsz : 0 < sz)
    (v : Value) (n B : Nat) (xs : List Value) (hown : w.ownsRow B e sz v n xs) (hE : Ext w0 w) (hB0 : w0.heap.size ≤ B) (hB1 : B ≤ w.heap.size)
    (a : Option Addr) (m c : Nat) (news : List Value) (hl : news.length = m * sz) (hf : From w a news) (h1 : ∀ u ∈ news, u.oneCell' = true) (h63 : n + m ≤ maxLen) (hbytes : (n + m) * bytes ≤ 140737488355328) :
    ∃ (a' : Option Addr) (c' : Nat) (w' : World), (Builtin.append_ #[t, t] ty #[v, .slice a m c]).run P w = .ok (.slice a' (n + m) c') w' ∧ w'.ownsRow B e sz (.slice a' (n + m) c') (n + m) (xs ++ news) ∧ Ext w0 w' ∧ w.grownBy w' v.ownBlock := by
  have hrow : ∀ k, v.ownBlock = some k → w0.heap.size ≤ k := fun k hk => Nat.le_trans hB0 (hown.lt k hk).1
  have fin : ∀ (v' : Value) (w' : World), w'.ownsRow B e sz v' (n + m) (xs ++ news) → ∃ a' c', v' = .slice a' (n + m) c' := by
    intro v' w' h
    rcases h.2 with ⟨h1, h2⟩ | ⟨g, cap, cur, h1, _⟩
    · exact ⟨none, 0, by rw [h2]; exact h1⟩
    · exact ⟨_, _, h1⟩
  cases a with
  | none =>
    have hn : news = [] := by
      rcases hf with h | ⟨ad, h, _⟩
      · exact h
      · cases h
    subst hn
    have hm : m = 0 := by
      rcases Nat.eq_zero_or_pos m with h | h
      · exact h
      · have : 0 < m * sz := Nat.mul_pos h hsz
        simp at hl; omega
    subst hm
    have ho : w.ownsRow B e sz v (n + 0) (xs ++ []) := by simpa using hown
    obtain ⟨a', c', hv⟩ := fin v w ho
    exact ⟨a', c', w, by rw [← hv]; exact run_app_nil t ty e ht hi hown c, by rw [← hv]; exact ho, hE, World.grownBy.refl w _⟩
  | some ad =>
    have hc : ∀ j u, news[j]? = some u → w.cell? (ad.add j) = some u := by
      rcases hf with h | ⟨ad', h, hc⟩
      · subst h; intro j u hu; simp at hu
      · cases h; exact hc
    obtain ⟨v', w', hr, h2, h3, _, _⟩ := run_append_own_at (P := P) w B t ty e i z sz bytes ht hi hz hs hb hzs hsz v n xs hown ad m c news hl hc h1 h63 hbytes hB1
    obtain ⟨a', c', hv⟩ := fin v' w' h2
    exact ⟨a', c', w', by rw [hr, hv], by rw [← hv]; exact h2, hE.grown h3 hE.size hrow, h3⟩
section
variable {P : Program} {w0 w : World}
theorem wp_app {o : Oper} {act : Act} {K : Act → World → Prop} {Q : Exit → Act → World → Prop} (s x : Operand) (t : TypeId)
    (ho : o.op = .call { callee := .builtin .append, args := #[s, x], argTypes := #[t, t] })
    (e : TypeId) (i : TypeInfo) (z : Value) (sz bytes : Nat) (ht : P.underlying t = some (.slice e)) (hi : P.info? e = some i) (hz : i.zero = some z) (hs : i.size = sz) (hb : i.bytes = bytes) (hzs : z.cells.size = sz) (hsz : 0 < sz)
    (v : Value) (n B : Nat) (xs : List Value) (he : act.eval s = v) (hown : w.ownsRow B e sz v n xs) (hE : Ext w0 w) (hB0 : w0.heap.size ≤ B) (hB1 : B ≤ w.heap.size)
    (a : Option Addr) (m c : Nat) (news : List Value) (hx : act.eval x = .slice a m c) (hl : news.length = m * sz) (hf : From w a news) (h1 : ∀ u ∈ news, u.oneCell' = true) (h63 : n + m ≤ maxLen) (hbytes : (n + m) * bytes ≤ 140737488355328)
    (h : ∀ (a' : Option Addr) (c' : Nat) (w' : World), w'.ownsRow B e sz (.slice a' (n + m) c') (n + m) (xs ++ news) → Ext w0 w' → w.grownBy w' v.ownBlock → K (act.put o.dst (.slice a' (n + m) c')) w') : o.wp P act w K Q := by
  obtain ⟨a', c', w', hr, h2, h3, h4⟩ := run_app (P := P) t o.type e i z sz bytes ht hi hz hs hb hzs hsz v n B xs hown hE hB0 hB1 a m c news hl hf h1 h63 hbytes
  have hk := h a' c' w' h2 h3 h4
  unfold Oper.wp execOp
  simp only [ho, resolve, invoke, builtin, Sem.run_bind, Sem.run_pure, Result.andThen_ok, List.map_toArray, List.map_cons, List.map_nil, he, hx, hr]
  exact hk
theorem wpList_app {ops : Array Oper} {rest : List Oper} {o : Oper} {act : Act} {Q : Exit → Act → World → Prop} (hgd : o.guard = none) (s x : Operand) (t : TypeId)
    (ho : o.op = .call { callee := .builtin .append, args := #[s, x], argTypes := #[t, t] })
    (e : TypeId) (i : TypeInfo) (z : Value) (sz bytes : Nat) (ht : P.underlying t = some (.slice e)) (hi : P.info? e = some i) (hz : i.zero = some z) (hs : i.size = sz) (hb : i.bytes = bytes) (hzs : z.cells.size = sz) (hsz : 0 < sz)
    (v : Value) (n B : Nat) (xs : List Value) (he : act.eval s = v) (hown : w.ownsRow B e sz v n xs) (hE : Ext w0 w) (hB0 : w0.heap.size ≤ B) (hB1 : B ≤ w.heap.size)
    (a : Option Addr) (m c : Nat) (news : List Value) (hx : act.eval x = .slice a m c) (hl : news.length = m * sz) (hf : From w a news) (h1 : ∀ u ∈ news, u.oneCell' = true) (h63 : n + m ≤ maxLen) (hbytes : (n + m) * bytes ≤ 140737488355328)
    (h : ∀ (a' : Option Addr) (c' : Nat) (w' : World), w'.ownsRow B e sz (.slice a' (n + m) c') (n + m) (xs ++ news) → Ext w0 w' → w.grownBy w' v.ownBlock → wpList P ops Q rest (act.put o.dst (.slice a' (n + m) c')) w') : wpList P ops Q (o :: rest) act w :=
  wpList_plain hgd fun _ hK => wp_app s x t ho e i z sz bytes ht hi hz hs hb hzs hsz v n B xs he hown hE hB0 hB1 a m c news hx hl hf h1 h63 hbytes fun a' c' w' h2 h3 h4 => hK _ _ (h a' c' w' h2 h3 h4)
theorem step_app {ops : Array Oper} {o : Oper} {act : Act} {K : Act → World → Prop} {Q : Exit → Act → World → Prop} {E : Prop} (hgd : o.guard = none) (s x : Operand) (t : TypeId)
    (ho : o.op = .call { callee := .builtin .append, args := #[s, x], argTypes := #[t, t] })
    (e : TypeId) (i : TypeInfo) (z : Value) (sz bytes : Nat) (ht : P.underlying t = some (.slice e)) (hi : P.info? e = some i) (hz : i.zero = some z) (hs : i.size = sz) (hb : i.bytes = bytes) (hzs : z.cells.size = sz) (hsz : 0 < sz)
    (v : Value) (n B : Nat) (xs : List Value) (he : act.eval s = v) (hown : w.ownsRow B e sz v n xs) (hE : Ext w0 w) (hB0 : w0.heap.size ≤ B) (hB1 : B ≤ w.heap.size)
    (a : Option Addr) (m c : Nat) (news : List Value) (hx : act.eval x = .slice a m c) (hl : news.length = m * sz) (hf : From w a news) (h1 : ∀ u ∈ news, u.oneCell' = true) (h63 : n + m ≤ maxLen) (hbytes : (n + m) * bytes ≤ 140737488355328)
    (h : ∀ (a' : Option Addr) (c' : Nat) (w' : World), w'.ownsRow B e sz (.slice a' (n + m) c') (n + m) (xs ++ news) → Ext w0 w' → w.grownBy w' v.ownBlock → K (act.put o.dst (.slice a' (n + m) c')) w') :
    if Region.wanted o (yielded ops act.tmps) = true then Oper.wp P o act w K Q else E := by
  rw [if_pos (by simp [Region.wanted, hgd])]
  exact wp_app s x t ho e i z sz bytes ht hi hz hs hb hzs hsz v n B xs he hown hE hB0 hB1 a m c news hx hl hf h1 h63 hbytes h
end
/-- an empty literal -/
theorem own_empty {w w1 : World} {e : TypeId} {sz : Nat} (hE : Ext (w.alloc (.cells #[] e)) w1) : w1.ownsRow w.heap.size e sz (.slice (some ⟨w.heap.size, 0, none⟩) 0 0) 0 [] :=
  ⟨by simp, .inr ⟨w.heap.size, 0, #[], rfl, Nat.le_refl _, (hE.block w.heap.size (by simp)).trans (heap_alloc_new w _), Nat.le_refl _, Nat.zero_le _, by simp, by simp⟩⟩
theorem own_empty2 {w w1 : World} {e : TypeId} {sz n : Nat} (hn : w.heap.size = n) (hE : Ext (w.alloc (.cells #[] e)) w1) : w1.ownsRow n e sz (.slice (some ⟨n, 0, none⟩) 0 0) 0 [] := by
  subst hn; exact own_empty hE
end Go.Q
namespace Go.Proofs.Ytjfggepgjpdebaa
open Go.RowKit Go.Q
theorem from_ints {w : World} {a : Option Addr} {xs : List Int} (h : IntsAt w a xs) : From w a (iv xs) := by
  rcases h with h | ⟨b, off, ha, hb, hc⟩
  · subst h; exact .inl rfl
  · refine .inr ⟨_, ha, fun j u hu => ?_⟩
    have hj : j < xs.length := by
      rcases Nat.lt_or_ge j xs.length with h | h
      · exact h
      · rw [List.getElem?_eq_none (by simpa [iv_length] using h)] at hu; cases hu
    rw [iv_get xs j hj] at hu
    obtain rfl := Option.some.inj hu
    rw [Addr.add_lit]
    exact hc j hj
theorem iv_set (xs : List Int) (i : Nat) (x : Int) : (iv xs).set i (.int .i64 x) = iv (xs.set i x) := by unfold iv; rw [List.map_set]
theorem iv_app (xs ys : List Int) : iv xs ++ iv ys = iv (xs ++ ys) := by unfold iv; rw [List.map_append]
end Go.Proofs.Ytjfggepgjpdebaa
/- Contracts: the iterators of layer 5: pulse's bits, slices.Chunk and slices.Backward at pulses; fresh at pulses. -/
namespace Go.Q
theorem i64_and_one (n : Int) : bits .and .i64 n 1 = n % 2 := by have := i64_mask n 1 1 (by decide) (by decide); simpa using this
end Go.Q
namespace Go.Proofs.Ytjfggepgjpdebaa
open Go.RowKit Go.Q Go.Shelf
attribute [local go_sem] Oper.semAt_some i64_and_one
/-- the blocks of K have not turned -/
def KS (K : Nat → Prop) (W W' : World) : Prop := ∀ k, K k → W'.heap[k]? = W.heap[k]?
theorem KS.refl (K : Nat → Prop) (W : World) : KS K W W := fun _ _ => rfl
theorem KS.trans {K : Nat → Prop} {A B C : World} (h : KS K A B) (k : KS K B C) : KS K A C := fun i hi => (k i hi).trans (h i hi)
theorem KS.cell {K : Nat → Prop} {A B : World} (h : KS K A B) {b o : Nat} (hb : K b) : B.cell? ⟨b, o, none⟩ = A.cell? ⟨b, o, none⟩ := World.cell?_of_block (w := A) (h b hb)
theorem KS.put {K : Nat → Prop} {w : World} (hK : ∀ k, K k → k < w.heap.size) (W : World) (l : Nat) (o o' : Obj) (hl : w.heap.size ≤ l) (_ : W.heap[l]? = some o) (_ : o.isCells = false) (_ : o.isWalk = false) : KS K W (W.putObj l o') := fun k hk => by
  have := hK k hk
  exact World.putObj_heap_other (by omega)
/-- the first n of what f gives -/
def upto {α : Type} (f : Nat → α) (n : Nat) : List α := (List.range n).map f
theorem upto_succ {α : Type} (f : Nat → α) (n : Nat) : upto f n ++ [f n] = upto f (n + 1) := by unfold upto; rw [List.range_succ, List.map_append]; rfl
theorem upto_length {α : Type} (f : Nat → α) (n : Nat) : (upto f n).length = n := by unfold upto; rw [List.length_map, List.length_range]
/-- the bits of a word, the least one first -/
def bitL (x : Int) (n : Nat) : List Bool := upto (fun k => decide (bitQ x k = 1)) n
section
variable {F : Fence} {n : Nat}
set_option maxRecDepth 100000 in
set_option maxHeartbeats 2000000 in
theorem bits1_in (hF : F.fn 104) (hro : F.round = none) (hn : 1 ≤ n) (l Bn : Nat) (x : Int) (hx : 0 ≤ x ∧ x ≤ 16777215) (K : Nat → Prop) (hKB : K Bn) (J Jx : List Bool → World → Prop)
    (hY : ∀ pre y W, J pre W → pre.length < 24 → YieldAt F (n - 1) Try.prog l #[.bool y] W fun e W' =>
      (e = .returned (.bool true) ∧ J (pre ++ [y]) W' ∧ KS K W W') ∨ (e = .returned (.bool false) ∧ Jx (pre ++ [y]) W'))
    (W : World) (hB : W.cell? ⟨Bn, 0, none⟩ = some (.int .i64 x)) (h0 : J [] W) :
    CallsIn F n Try.prog 104 #[.func (.yield l) #[] #[], .pointer (some ⟨Bn, 0, none⟩)] W fun e W' => (∃ v, e = .returned v) ∧
      ((∃ ys, ys = bitL x 24 ∧ J ys W') ∨ (∃ pre, (∃ k, k ≤ 24 ∧ pre = bitL x k) ∧ Jx pre W')) := by
  obtain ⟨x0, x1⟩ := hx
  refine callsIn_of_wp Try.func104 rfl hF ?_ hro
  simp only [Try.ntmps104, List.size_toArray, List.length_cons, List.length_nil, Nat.reduceAdd, Nat.reduceSub, Array.replicate_succ, Array.replicate_zero, List.push_toArray, List.append_toArray, List.nil_append, List.cons_append]
  gi_wp2
  gi_loopw [3] (fun i wr => ∃ k : Nat, k ≤ 24 ∧ i = .int .i64 k ∧ J (bitL x k) wr ∧ KS K W wr) (fun i _ => 24 - (intOf i).toNat)
  case atStart => exact ⟨0, by omega, rfl, h0, KS.refl _ _⟩
  case round =>
    obtain ⟨k, hk, rfl, hJs, hnx⟩ := hrel
    by_cases hlt : k < 24
    · have hltz : (k : Int) < 24 := by omega
      obtain ⟨fn, tmps, assign, body, hy, hR⟩ := hY _ (decide (bitQ x k = 1)) wr hJs (by unfold bitL; rw [upto_length]; exact hlt)
      have hcx := (hnx.cell hKB).trans hB
      replace hy : (Instr.yield l #[.bool (x / 2 ^ k % 2 == 1)]).run Try.prog wr = .ok (.round l fn tmps assign body) wr := hy
      gi_wp2
      refine hR.mono ?_
      rintro e W3 (⟨rfl, hJ3, hk3⟩ | ⟨rfl, hJx3⟩)
      · gi_wp2
        go_roundw
        case rel => exact ⟨k + 1, by omega, by simp, by unfold bitL; rw [← upto_succ]; exact hJ3, hnx.trans hk3⟩
        case measure => simp [intOf]; omega
      · gi_wp2
        go_end0
        exact ⟨⟨_, rfl⟩, .inr ⟨_, ⟨k + 1, by omega, upto_succ _ _⟩, hJx3⟩⟩
    · have hltz : ¬ (k : Int) < 24 := by omega
      obtain rfl : k = 24 := by omega
      gi_wp2
      refine ⟨fun _ h => (by cases h), ?_⟩
      gi_wp2
      go_end0
      exact ⟨⟨_, rfl⟩, .inl ⟨_, rfl, hJs⟩⟩
theorem upto_prefix {α : Type} (f : Nat → α) {k n : Nat} (h : k ≤ n) : upto f k <+: upto f n := by
  obtain ⟨m, rfl⟩ : ∃ m, n = k + m := ⟨n - k, by omega⟩
  refine ⟨(List.range m).map fun i => f (k + i), ?_⟩
  unfold upto
  rw [List.range_add, List.map_append, List.map_map]
  rfl
theorem bits1_stops (hF : F.fn 104) (hro : F.round = none) (hn : 1 ≤ n) (Bn : Nat) (x : Int) (hx : 0 ≤ x ∧ x ≤ 16777215) (K : Nat → Prop) (hKB : K Bn) (w : World) (hb : Bn < w.heap.size) (hc : w.cell? ⟨Bn, 0, none⟩ = some (.int .i64 x)) :
    SeqStopsK F n Try.prog 104 #[.pointer (some ⟨Bn, 0, none⟩)] (fun y : Bool => #[Value.bool y]) (KS K) (fun ys => ys = bitL x 24) (fun pre => pre <+: bitL x 24) 24 w := fun l J Jx W hW _ _ hY h0 => by
  refine (bits1_in hF hro hn l Bn x hx K hKB J Jx hY W ((hW.cell (p := ⟨Bn, 0, none⟩) hb).trans hc) h0).mono ?_
  rintro e W' ⟨he, ⟨ys, rfl, hj⟩ | ⟨pre, ⟨k, hk, rfl⟩, hj⟩⟩
  · exact ⟨he, .inl ⟨_, rfl, hj⟩⟩
  · exact ⟨he, .inr ⟨_, upto_prefix _ hk, hj⟩⟩
theorem bits_in (hF : F.fn 69) (hro : F.round = none) (x : Int) (w : World) :
    CallsIn F n Try.prog 69 #[.int .i64 x] w fun e w' => e = .returned (.func (.func 104) #[] #[.pointer (some ⟨w.heap.size, 0, none⟩)]) ∧ w.alloc (.cells #[.int .i64 x] 3) = w' := by
  refine callsIn_of_wp Try.func69 rfl hF ?_ hro
  simp only [Try.ntmps69, List.size_toArray, List.length_cons, List.length_nil, Nat.reduceAdd, Nat.reduceSub, Array.replicate_succ, Array.replicate_zero, List.push_toArray, List.append_toArray, List.nil_append, List.cons_append]
  gi_wp2
  go_ret
  exact ⟨rfl, rfl⟩
/-- a number below N -/
abbrev Ix (N : Nat) := { k : Nat // k < N }
/-- the slice of 24 pulses that Chunk yields at its k-th round -/
def chunkV (b off : Nat) (k : Nat) : Value := .slice (some ⟨b, off + k * 24, none⟩) 24 24
set_option maxRecDepth 100000 in
set_option maxHeartbeats 4000000 in
theorem chunk1_in (hn : 1 ≤ n) (l Bs Bc b off c : Nat) (hcap : 384 ≤ c) (hc63 : c ≤ 9223372036854775807) (K : Nat → Prop) (hKs : K Bs) (hKc : K Bc) (J Jx : List (Ix 16) → World → Prop) (W : World) (hJ : AbidesFrom W.heap.size J)
    (hY : ∀ pre y W, J pre W → pre.length < 16 → YieldAt Fence.wide (n - 1) Try.prog l #[chunkV b off y.1] W fun e W' =>
      (e = .returned (.bool true) ∧ J (pre ++ [y]) W' ∧ KS K W W') ∨ (e = .returned (.bool false) ∧ Jx (pre ++ [y]) W'))
    (hB : W.cell? ⟨Bs, 0, none⟩ = some (.slice (some ⟨b, off, none⟩) 384 c)) (hC : W.cell? ⟨Bc, 0, none⟩ = some (.int .i64 24)) (h0 : J [] W) :
    CallsIn Fence.wide n Try.prog 142 #[.func (.yield l) #[] #[], .pointer (some ⟨Bs, 0, none⟩), .pointer (some ⟨Bc, 0, none⟩)] W fun e W' => (∃ v, e = .returned v) ∧
      ((∃ ys, ys.map Subtype.val = List.range 16 ∧ J ys W') ∨ (∃ pre, Jx pre W')) := by
  refine callsIn_of_wp Try.func142 rfl trivial ?_ rfl
  simp only [Try.ntmps142, List.size_toArray, List.length_cons, List.length_nil, Nat.reduceAdd, Nat.reduceSub, Array.replicate_succ, Array.replicate_zero, List.push_toArray, List.append_toArray, List.nil_append, List.cons_append]
  gi_wp2
  gi_loopw [4] (fun i wr => ∃ k : Nat, k ≤ 16 ∧ i = .int .i64 (k * 24 : Nat) ∧ (∃ pre, pre.map Subtype.val = List.range k ∧ J pre wr) ∧ KS K W wr) (fun i _ => 384 - (intOf i).toNat)
  case atStart => exact ⟨0, by omega, rfl, ⟨[], rfl, h0⟩, KS.refl _ _⟩
  case round =>
    obtain ⟨k, hk, rfl, ⟨pre, hpre, hJs⟩, hnx⟩ := hrel
    have HP := Lib.hid hpre
    clear hpre
    have hcs := (hnx.cell hKs).trans hB
    have hcc := (hnx.cell hKc).trans hC
    by_cases hlt : k < 16
    · have hltz : (k : Int) * 24 < 384 := by omega
      have hmod : ((k * 24 : Nat) : Int) ≤ 360 := by omega
      have hm24 : min (24 : Int) (384 - ((k * 24 : Nat) : Int)) = 24 := by omega
      gi_wp2
      refine wpIn_wide.2 ?_
      go_quiet (fail)
      have hjd : J pre (wr.drewN nq) := hJ _ _ _ none hJs ⟨rfl, rfl, rfl, Nat.le_refl _, fun _ _ _ => rfl⟩ (fun r e => by cases e)
      obtain ⟨fn, tmps, assign, body, hy, hR⟩ := hY _ ⟨k, hlt⟩ (wr.drewN nq) hjd (by have := congrArg List.length HP.out; rw [List.length_map, List.length_range] at this; omega)
      unfold chunkV at hy
      dsimp only at hy
      gi_wp2
      refine hR.mono ?_
      rintro e W3 (⟨rfl, hJ3, hk3⟩ | ⟨rfl, hJx3⟩)
      · have hcc3 := hk3.cell (o := 0) hKc
        rw [World.cell?_drewN, hcc] at hcc3
        gi_wp2
        go_roundw
        case rel => exact ⟨k + 1, by omega, by go_num, ⟨_, by rw [List.map_append, HP.out, List.range_succ]; rfl, hJ3⟩, hnx.trans (show KS K wr W3 from hk3)⟩
        case measure => simp [intOf]; omega
      · gi_wp2
        refine bodyPost_ret (results_none rfl _ _ _) rfl ?_
        exact ⟨⟨_, rfl⟩, .inr ⟨_, hJx3⟩⟩
    · obtain rfl : k = 16 := by omega
      gi_wp2
      go_end0
      exact ⟨⟨_, rfl⟩, .inl ⟨_, HP.out, hJs⟩⟩
theorem chunk1_stops (hn : 1 ≤ n) (Bs Bc b off c : Nat) (hcap : 384 ≤ c) (hc63 : c ≤ 9223372036854775807) (K : Nat → Prop) (hKs : K Bs) (hKc : K Bc) (w : World) (hb : Bs < w.heap.size) (hb2 : Bc < w.heap.size)
    (hB : w.cell? ⟨Bs, 0, none⟩ = some (.slice (some ⟨b, off, none⟩) 384 c)) (hC : w.cell? ⟨Bc, 0, none⟩ = some (.int .i64 24)) :
    SeqStopsK Fence.wide n Try.prog 142 #[.pointer (some ⟨Bs, 0, none⟩), .pointer (some ⟨Bc, 0, none⟩)] (fun y : Ix 16 => #[chunkV b off y.1]) (KS K) (fun ys => ys.map Subtype.val = List.range 16) (fun _ => True) 16 w := fun l J Jx W hW hJ _ hY h0 => by
  refine (chunk1_in hn l Bs Bc b off c hcap hc63 K hKs hKc J Jx W hJ hY ((hW.cell (p := ⟨Bs, 0, none⟩) hb).trans hB) ((hW.cell (p := ⟨Bc, 0, none⟩) hb2).trans hC) h0).mono ?_
  rintro e W' ⟨he, ⟨ys, hy, hj⟩ | ⟨pre, hj⟩⟩
  · exact ⟨he, .inl ⟨_, hy, hj⟩⟩
  · exact ⟨he, .inr ⟨_, trivial, hj⟩⟩
set_option maxRecDepth 100000 in
theorem chunk_in (hF : F.fn 134) (hro : F.round = none) (a : Option Addr) (k c : Nat) (w : World) :
    CallsIn F n Try.prog 134 #[.slice a k c, .int .i64 24] w fun e w' => e = .returned (.func (.func 142) #[] #[.pointer (some ⟨w.heap.size, 0, none⟩), .pointer (some ⟨w.heap.size + 1, 0, none⟩)]) ∧ (w.alloc (.cells #[.slice a k c] 69)).alloc (.cells #[.int .i64 24] 3) = w' := by
  refine callsIn_of_wp Try.func134 rfl hF ?_ hro
  simp only [Try.ntmps134, List.size_toArray, List.length_cons, List.length_nil, Nat.reduceAdd, Nat.reduceSub, Array.replicate_succ, Array.replicate_zero, List.push_toArray, List.append_toArray, List.nil_append, List.cons_append]
  gi_wp2
  go_ret
  exact ⟨rfl, rfl⟩
set_option maxRecDepth 100000 in
set_option maxHeartbeats 4000000 in
theorem back1_in (hF : F.fn 143) (hro : F.round = none) (hn : 1 ≤ n) (l Bs b off : Nat) (f : Nat → Bool) (K : Nat → Prop) (hKs : K Bs) (hKb : K b) (J Jx : List (Ix 24) → World → Prop) (W : World)
    (hY : ∀ pre y W, J pre W → pre.length < 24 → YieldAt F (n - 1) Try.prog l #[.int .i64 (y.1 : Int), .bool (f y.1)] W fun e W' =>
      (e = .returned (.bool true) ∧ J (pre ++ [y]) W' ∧ KS K W W') ∨ (e = .returned (.bool false) ∧ Jx (pre ++ [y]) W'))
    (hB : W.cell? ⟨Bs, 0, none⟩ = some (.slice (some ⟨b, off, none⟩) 24 24)) (hC : ∀ i, i < 24 → W.cell? ⟨b, off + i, none⟩ = some (.bool (f i))) (h0 : J [] W) :
    CallsIn F n Try.prog 143 #[.func (.yield l) #[] #[], .pointer (some ⟨Bs, 0, none⟩)] W fun e W' => (∃ v, e = .returned v) ∧
      ((∃ ys, ys.map Subtype.val = upto (fun m => 23 - m) 24 ∧ J ys W') ∨ (∃ pre, Jx pre W')) := by
  have HC := Lib.hid hC
  clear hC
  refine callsIn_of_wp Try.func143 rfl hF ?_ hro
  simp only [Try.ntmps143, List.size_toArray, List.length_cons, List.length_nil, Nat.reduceAdd, Nat.reduceSub, Array.replicate_succ, Array.replicate_zero, List.push_toArray, List.append_toArray, List.nil_append, List.cons_append]
  gi_wp2
  gi_loopw [3] (fun i wr => ∃ m : Nat, m ≤ 24 ∧ (∃ z : Int, z = 23 - (m : Int) ∧ i = .int .i64 z) ∧ (∃ pre, pre.map Subtype.val = upto (fun m => 23 - m) m ∧ J pre wr) ∧ KS K W wr) (fun i _ => (intOf i + 1).toNat)
  case atStart => exact ⟨0, by omega, ⟨23, by omega, rfl⟩, ⟨[], rfl, h0⟩, KS.refl _ _⟩
  case round =>
    obtain ⟨m, hm, ⟨z, hz, rfl⟩, ⟨pre, hpre, hJs⟩, hnx⟩ := hrel
    have HP := Lib.hid hpre
    clear hpre
    have hcs := (hnx.cell (o := 0) hKs).trans hB
    by_cases hlt : m < 24
    · obtain ⟨j, rfl⟩ : ∃ j : Nat, z = j := ⟨23 - m, by omega⟩
      have hj : j < 24 := by omega
      have hjm : 23 - m = j := by omega
      have hcb := (hnx.cell (o := off + j) hKb).trans (HC.out j hj)
      obtain ⟨fn, tmps, assign, body, hy, hR⟩ := hY _ ⟨j, hj⟩ wr hJs (by have := congrArg List.length HP.out; rw [List.length_map, upto_length] at this; omega)
      dsimp only at hy
      have HJ := Lib.hid hjm
      have HZ := Lib.hid hz
      clear hjm hz
      have hj0 : (0 : Int) ≤ (j : Int) := by omega
      gi_wp2
      refine hR.mono ?_
      rintro e W3 (⟨rfl, hJ3, hk3⟩ | ⟨rfl, hJx3⟩)
      · gi_wp2
        go_roundw
        case rel => exact ⟨m + 1, by omega, ⟨_, by have := HZ.out; omega, rfl⟩, ⟨_, by rw [List.map_append, HP.out, ← upto_succ, HJ.out]; rfl, hJ3⟩, hnx.trans hk3⟩
        case measure => simp [intOf]
      · gi_wp2
        refine bodyPost_ret (results_none rfl _ _ _) rfl ?_
        exact ⟨⟨_, rfl⟩, .inr ⟨_, hJx3⟩⟩
    · obtain rfl : m = 24 := by omega
      obtain rfl : z = -1 := by omega
      gi_wp2
      go_end0
      exact ⟨⟨_, rfl⟩, .inl ⟨_, HP.out, hJs⟩⟩
theorem back1_stops (hF : F.fn 143) (hro : F.round = none) (hn : 1 ≤ n) (Bs b off : Nat) (f : Nat → Bool) (K : Nat → Prop) (hKs : K Bs) (hKb : K b) (w : World) (hb : Bs < w.heap.size) (hb2 : b < w.heap.size)
    (hB : w.cell? ⟨Bs, 0, none⟩ = some (.slice (some ⟨b, off, none⟩) 24 24)) (hC : ∀ i, i < 24 → w.cell? ⟨b, off + i, none⟩ = some (.bool (f i))) :
    SeqStopsK F n Try.prog 143 #[.pointer (some ⟨Bs, 0, none⟩)] (fun y : Ix 24 => #[Value.int .i64 (y.1 : Int), .bool (f y.1)]) (KS K) (fun ys => ys.map Subtype.val = upto (fun m => 23 - m) 24) (fun _ => True) 24 w := fun l J Jx W hW _ _ hY h0 => by
  refine (back1_in hF hro hn l Bs b off f K hKs hKb J Jx W hY ((hW.cell (p := ⟨Bs, 0, none⟩) hb).trans hB) (fun i hi => (hW.cell (p := ⟨b, off + i, none⟩) hb2).trans (hC i hi)) h0).mono ?_
  rintro e W' ⟨he, ⟨ys, hy, hj⟩ | ⟨pre, hj⟩⟩
  · exact ⟨he, .inl ⟨_, hy, hj⟩⟩
  · exact ⟨he, .inr ⟨_, trivial, hj⟩⟩
set_option maxRecDepth 100000 in
theorem back_in (hF : F.fn 135) (hro : F.round = none) (a : Option Addr) (k c : Nat) (w : World) :
    CallsIn F n Try.prog 135 #[.slice a k c] w fun e w' => e = .returned (.func (.func 143) #[] #[.pointer (some ⟨w.heap.size, 0, none⟩)]) ∧ w.alloc (.cells #[.slice a k c] 69) = w' := by
  refine callsIn_of_wp Try.func135 rfl hF ?_ hro
  simp only [Try.ntmps135, List.size_toArray, List.length_cons, List.length_nil, Nat.reduceAdd, Nat.reduceSub, Array.replicate_succ, Array.replicate_zero, List.push_toArray, List.append_toArray, List.nil_append, List.cons_append]
  gi_wp2
  go_ret
  exact ⟨rfl, rfl⟩
end
def bv (l : List Bool) : List Value := l.map Value.bool
theorem bv_length (l : List Bool) : (bv l).length = l.length := by simp [bv]
theorem bv_get (l : List Bool) (i : Nat) (h : i < l.length) : (bv l)[i]? = some (.bool (l[i]?.getD false)) := by simp [bv, h]
theorem bv_one (l : List Bool) : ∀ u ∈ bv l, u.oneCell' = true := by
  intro u hu
  unfold bv at hu
  obtain ⟨x, _, rfl⟩ := List.mem_map.1 hu
  rfl
theorem bv_app (xs ys : List Bool) : bv xs ++ bv ys = bv (xs ++ ys) := by unfold bv; rw [List.map_append]
theorem bv_set (xs : List Bool) (i : Nat) (x : Bool) : (bv xs).set i (.bool x) = bv (xs.set i x) := by unfold bv; rw [List.map_set]
theorem Try.infoB : (Try.prog.info? 4).map (fun i => (i.zero, i.size, i.bytes)) = some (some (.bool false), 1, 1) := by kernel_rfl
theorem Try.infoL : (Try.prog.info? 69).map (fun i => (i.zero, i.size, i.bytes)) = some (some (.slice none 0 0), 1, 24) := by kernel_rfl
/-- the pulses l lie from a on -/
def BoolsAt (w : World) (a : Option Addr) (l : List Bool) : Prop :=
  l = [] ∨ ∃ b off, a = some ⟨b, off, none⟩ ∧ b < w.heap.size ∧ ∀ i, i < l.length → w.cell? ⟨b, off + i, none⟩ = some (.bool (l[i]?.getD false))
theorem BoolsAt.ext {w w' : World} {a : Option Addr} {l : List Bool} (h : BoolsAt w a l) (E : Ext w w') : BoolsAt w' a l :=
  h.imp id fun ⟨b, off, ha, hb, hc⟩ => ⟨b, off, ha, Nat.lt_of_lt_of_le hb E.size, fun i hi => (E.cell (p := ⟨b, off + i, none⟩) hb).trans (hc i hi)⟩
/-- the lines ls lie from a on -/
def LinesAt (w : World) (a : Option Addr) (ls : List (List Bool)) : Prop :=
  ls = [] ∨ ∃ b off, a = some ⟨b, off, none⟩ ∧ b < w.heap.size ∧ ∀ i, i < ls.length → ∃ ai ci, w.cell? ⟨b, off + i, none⟩ = some (.slice ai (ls[i]?.getD []).length ci) ∧ ((ls[i]?.getD []).length ≤ ci ∧ ci ≤ 9223372036854775807) ∧ BoolsAt w ai (ls[i]?.getD [])
theorem LinesAt.ext {w w' : World} {a : Option Addr} {ls : List (List Bool)} (h : LinesAt w a ls) (E : Ext w w') : LinesAt w' a ls :=
  h.imp id fun ⟨b, off, ha, hb, hc⟩ => ⟨b, off, ha, Nat.lt_of_lt_of_le hb E.size, fun i hi => by
    obtain ⟨ai, ci, h1, h3, h2⟩ := hc i hi
    exact ⟨ai, ci, (E.cell (p := ⟨b, off + i, none⟩) hb).trans h1, h3, h2.ext E⟩⟩
theorem from_bools {w : World} {a : Option Addr} {xs : List Bool} (h : BoolsAt w a xs) : From w a (bv xs) := by
  rcases h with h | ⟨b, off, ha, hb, hc⟩
  · subst h; exact .inl rfl
  · refine .inr ⟨_, ha, fun j u hu => ?_⟩
    have hj : j < xs.length := by
      rcases Nat.lt_or_ge j xs.length with h | h
      · exact h
      · rw [List.getElem?_eq_none (by simpa [bv_length] using h)] at hu; cases hu
    rw [bv_get xs j hj] at hu
    obtain rfl := Option.some.inj hu
    rw [Addr.add_lit]
    exact hc j hj
/-- a fresh copy of pulses -/
def OwnB (n : Nat) (xs : List Bool) (w : World) (e : Ending) (w' : World) : Prop :=
  ∃ a c, e = .returned (.slice a n c) ∧ w'.ownsRow w.heap.size 4 1 (.slice a n c) n (bv xs) ∧ Ext w w'
set_option maxHeartbeats 1000000 in
theorem freshb_any (a : Option Addr) (n c : Nat) (xs : List Bool) (w : World) (hn : xs.length = n) (hbig : n ≤ 17592186044416) (hI : BoolsAt w a xs) :
    Calls Try.prog 105 #[.slice a n c] w (OwnB n xs w) := by
  obtain ⟨i0, hi, hz0, hz1, hz2⟩ := info_parts Try.infoB
  have hf := from_bools hI
  clear hI
  go_enter Try.func105, Try.ntmps105
  go_wp2_with (at_builtin; refine wpList_app (w0 := w) rfl _ _ 69 rfl 4 i0 (.bool false) 1 1 Try.underlying69 hi hz0 hz1 hz2 rfl (by decide) (.slice none 0 0) 0 w.heap.size [] rfl (World.ownsRow_nil w _ _ _) (Ext.refl w) (Nat.le_refl _) (Nat.le_refl _) a n c (bv xs) rfl (by rw [bv_length]; omega) hf (bv_one xs) (by unfold maxLen; omega) (by omega) ?_; intro a' c' w1 hown hE hgrow)
  rw [Nat.zero_add, List.nil_append] at hown
  clear hf hgrow
  go_wp2
  go_ret
  exact ⟨a', c', rfl, hown, hE⟩
end Go.Proofs.Ytjfggepgjpdebaa
/- A loop whose rounds hold a range over a function: the marks that they leave; contract of pulse's store. -/
namespace Go.Q
open Go.RowKit
/-- the mark of a range over a function whose rounds deferred nothing -/
def markD (D : Nat) : Deferred := { target := .collected D, args := #[] }
/-- marks at blocks of the call's own -/
structure Marks (b : Nat) (W : World) (Ds : List Nat) : Prop where
  nodup : Ds.Nodup
  at_ : ∀ D ∈ Ds, b ≤ D ∧ W.heap[D]? = some (.deferred (some []))
theorem Marks.nil (b : Nat) (W : World) : Marks b W [] := ⟨List.nodup_nil, nofun⟩
theorem Marks.cons {b D : Nat} {w W : World} {Ds : List Nat} (h : Marks b w Ds) (hk : KeepsFrom 0 w W) (hD : w.heap.size ≤ D) (hb : b ≤ D) (hW : W.heap[D]? = some (.deferred (some []))) : Marks b W (D :: Ds) :=
  ⟨List.nodup_cons.2 ⟨fun hm => by
      have := (Array.getElem?_eq_some_iff.1 (h.at_ D hm).2).1
      omega, h.nodup⟩, fun E hE => by
    rcases List.mem_cons.1 hE with rfl | hE
    · exact ⟨hb, hW⟩
    · obtain ⟨h1, h2⟩ := h.at_ E hE
      exact ⟨h1, hk.same E _ (Nat.zero_le _) h2 rfl⟩⟩
/-- what the marks' turn leaves -/
structure Shut (b : Nat) (W W' : World) : Prop where
  below : Below b W W'
  cells : ∀ (k : Nat) (o : Obj), W.heap[k]? = some o → o.isCells = true → W'.heap[k]? = some o
theorem leaves_marks {F : Fence} {n : Nat} {P : Program} {fn : Func} {tmps : Array Value} {R : Ending → World → Prop} {b : Nat} : ∀ (Ds : List Nat) (W : World), Marks b W Ds → (∀ W', Shut b W W' → LeavesIn F n P fn tmps R [] .returning W') → LeavesInM F n P fn tmps R (Ds.map markD) .returning W
  | [], W, _, h => h W ⟨Below.refl _ _, fun _ _ h _ => h⟩
  | D :: Ds, W, hM, h => by
    obtain ⟨hb, hD⟩ := hM.at_ D (List.mem_cons_self ..)
    have hlt := (Array.getElem?_eq_some_iff.1 hD).1
    have hn := List.nodup_cons.1 hM.nodup
    refine ⟨by simp, .inl ⟨D, _, rfl, run_takeDeferred hD, ?_⟩⟩
    refine leaves_marks (b := b) Ds _ ⟨hn.2, fun E hE => ?_⟩ fun W' hW' => h W' ⟨?_, fun k o hk ho => ?_⟩
    · obtain ⟨h1, h2⟩ := hM.at_ E (List.mem_cons_of_mem _ hE)
      exact ⟨h1, (World.putObj_heap_other (fun e => hn.1 (by subst e; exact hE))).trans h2⟩
    · exact ((Below.refl b W).grown (grownBy_putObj' W D _) (by omega) (fun k e => by cases e; exact hb)).trans hW'.below
    · refine hW'.cells k o ((World.putObj_heap_other (fun e => ?_)).trans hk) ho
      subst e
      rw [hD] at hk
      cases hk
      cases ho
end Go.Q
namespace Go.Proofs.Ytjfggepgjpdebaa
open Go.RowKit Go.Q Go.Shelf
attribute [local go_sem] Oper.semAt_some
/-- the number that bits come to, the highest one first -/
def accB (f : Nat → Bool) (pre : List Nat) : Int := pre.foldl (fun n k => 2 * n + (if f k then 1 else 0)) 0
theorem accB_snoc (f : Nat → Bool) (pre : List Nat) (k : Nat) : accB f (pre ++ [k]) = 2 * accB f pre + (if f k then 1 else 0) := by simp [accB]
theorem accB_up (f : Nat → Bool) : ∀ m, accB f (upto (fun m => 23 - m) m) = upOf f m
  | 0 => rfl
  | m + 1 => by rw [← upto_succ, accB_snoc, accB_up f m]; rfl
theorem accB_bd (f : Nat → Bool) (pre : List Nat) : 0 ≤ accB f pre ∧ accB f pre < 2 ^ pre.length := by
  rw [← pre.reverse_reverse]
  induction pre.reverse with
  | nil => simp [accB]
  | cons x l ih =>
    rw [List.reverse_cons, accB_snoc, List.length_append]
    have e2 : (2 : Int) ^ (l.reverse.length + [x].length) = 2 * 2 ^ l.reverse.length := by rw [List.length_singleton, Int.pow_succ]; omega
    rw [e2]
    split <;> omega
/-- the word whose pulses begin at k * 24 -/
def wdL (l : List Bool) (k : Nat) : Int := wordOf (fun i => l[k * 24 + i]?.getD false) 24
theorem store_line (ls : List (List Bool)) {j : Nat} (hj : j < ls.length) : (storeB ls).take (16 * j) ++ (List.range 16).map (wdL (ls[j]?.getD [])) = (storeB ls).take (16 * (j + 1)) := by
  have hl := storeB_length ls
  refine List.ext_getElem? fun i => ?_
  by_cases h1 : i < 16 * j
  · rw [List.getElem?_append_left (by rw [List.length_take]; omega), List.getElem?_take, List.getElem?_take, if_pos h1, if_pos (by omega)]
  · rw [List.getElem?_append_right (by rw [List.length_take]; omega), List.length_take, show min (16 * j) (storeB ls).length = 16 * j by omega]
    by_cases h2 : i < 16 * (j + 1)
    · rw [List.getElem?_take, if_pos h2, List.getElem?_map, List.getElem?_range (by omega)]
      have hg := storeB_get ls j (i - 16 * j) hj (by omega)
      obtain ⟨y, hy⟩ : ∃ y, (storeB ls)[i]? = some y := ⟨_, List.getElem?_eq_getElem (by omega)⟩
      rw [show 16 * j + (i - 16 * j) = i by omega, hy] at hg
      rw [hy]
      exact congrArg some hg.symm
    · rw [List.getElem?_eq_none (by rw [List.length_map, List.length_range]; omega), List.getElem?_eq_none (by rw [List.length_take]; omega)]
/-- the numbers themselves -/
def vals {N : Nat} (pre : List (Ix N)) : List Nat := pre.map Subtype.val
theorem vals_app {N : Nat} (pre : List (Ix N)) (x : Ix N) : vals (pre ++ [x]) = vals pre ++ [x.1] := by unfold vals; rw [List.map_append]; rfl
theorem vals_length {N : Nat} (pre : List (Ix N)) : (vals pre).length = pre.length := by unfold vals; rw [List.length_map]
theorem ext_keeps {A B : World} (h : Ext A B) (n : Nat) : KeepsFrom n A B := ⟨h.size, fun k o _ hk _ => (h.block k (Array.getElem?_eq_some_iff.1 hk).1).trans hk⟩
theorem boxed_ext {A B : World} {k : Nat} {t : TypeId} {v : Value} (h : Boxed A k t v) (e : Ext A B) : Boxed B k t v := (e.block k h.lt).trans h
set_option maxRecDepth 100000 in
set_option maxHeartbeats 8000000 in
theorem pstore_any (a : Option Addr) (c : Nat) (ls : List (List Bool)) (w : World) (h8 : ls.length = 8) (hlen : ∀ l ∈ ls, l.length = 384) (hL : LinesAt w a ls) :
    Calls Try.prog 106 #[.slice a 8 c] w fun e w' => ∃ a' c', e = .returned (.slice a' 128 c') ∧ w'.ownsRow w.heap.size 3 1 (.slice a' 128 c') 128 (iv (storeB ls)) ∧ Ext w w' := by
  obtain ⟨i0, hi, ha0, ha1, ha2⟩ := info_parts Try.infoE
  have hsl := storeB_length ls
  rw [h8] at hsl
  rcases hL with hL | ⟨b, off, rfl, hb, hc⟩
  · rw [hL] at h8; simp at h8
  have HC := Lib.hid hc
  have H8 := Lib.hid h8
  have HS := Lib.hid hsl
  have HLn := Lib.hid hlen
  clear hc h8 hsl hlen
  refine (callsIn_wide (n := 9)).1 ?_
  refine callsIn_of_wp_marks Try.func106 rfl trivial ?_ rfl
  simp only [Try.ntmps106, List.size_toArray, List.length_cons, List.length_nil, Nat.reduceAdd, Nat.reduceSub, Array.replicate_succ, Array.replicate_zero, List.push_toArray, List.append_toArray, List.nil_append, List.cons_append]
  gi_wp2
  refine wpIn_loop (fun a' W => ∃ (j : Nat) (Ds : List Nat) (v u4 u12 u13 u14 u15 u16 u31 : Value), j ≤ 8 ∧ a' = { tmps := #[.slice (some ⟨b, off, none⟩) 8 c, undef, .pointer (some ⟨w.heap.size, 0, none⟩), undef, u4, undef, undef, undef, undef, .slice (some ⟨b, off, none⟩) 8 c, .int .i64 8, .int .i64 j, u12, u13, u14, u15, u16, undef, undef, undef, undef, undef, undef, undef, undef, undef, undef, undef, undef, undef, undef, u31, undef], defers := Ds.map markD } ∧
      Marks w.heap.size W Ds ∧ Boxed W w.heap.size 22 v ∧ W.ownsRow w.heap.size 3 1 v (16 * j) (iv ((storeB ls).take (16 * j))) ∧ Ext w W) (fun a' _ => 8 - (intOf (a'.tmps.getD 11 undef)).toNat) ?_ ?_
  · exact ⟨0, [], .slice none 0 0, undef, undef, undef, undef, undef, undef, undef, by omega, rfl, Marks.nil _ _, Boxed.new w _ _, World.ownsRow_nil _ _ _ _, (Ext.refl w).alloc _⟩
  rintro a' W ⟨j, Ds, v, u4, u12, u13, u14, u15, u16, u31, hj, rfl, hM, hB, hown, hE⟩
  have HM := Lib.hid hM
  clear hM
  by_cases hlt : j < 8
  · have hltz : (j : Int) < 8 := by omega
    obtain ⟨al, cl, hcl, ⟨hk1, hk2⟩, hbl⟩ := HC.out j (by rw [H8.out]; exact hlt)
    have hl384 : (ls[j]?.getD []).length = 384 := by
      rw [List.getElem?_eq_getElem (by rw [H8.out]; exact hlt)]
      exact HLn.out _ (List.getElem_mem _)
    rw [hl384] at hcl hk1
    rcases hbl with hbl | ⟨b2, off2, rfl, hb2, hc2⟩
    · rw [hbl] at hl384; simp at hl384
    have hclW := (hE.cell (p := ⟨b, off + j, none⟩) hb).trans hcl
    rw [hl384] at hc2
    have HB2 := Lib.hid hc2
    clear hc2 hcl hl384
    gi_wp2_with (refine ⟨trivial, ?_⟩; gi_at_call 134; refine (chunk_in trivial rfl _ _ _ _).mono ?_; rintro e w' ⟨rfl, rfl⟩)
    have hbs : Boxed ((W.alloc (.cells #[.slice (some ⟨b2, off2, none⟩) 384 cl] 69)).alloc (.cells #[.int .i64 24] 3)) W.heap.size 69 (.slice (some ⟨b2, off2, none⟩) 384 cl) := (Boxed.new W _ _).alloc _
    have hbc := Boxed.new (W.alloc (.cells #[.slice (some ⟨b2, off2, none⟩) 384 cl] 69)) 3 (.int .i64 24)
    rw [World.size_alloc] at hbc
    have e0 : Ext W ((W.alloc (.cells #[.slice (some ⟨b2, off2, none⟩) 384 cl] 69)).alloc (.cells #[.int .i64 24] 3)) := ((Ext.refl W).alloc _).alloc _
    have kf0 : KeepsFrom 0 W ((W.alloc (.cells #[.slice (some ⟨b2, off2, none⟩) 384 cl] 69)).alloc (.cells #[.int .i64 24] 3)) := ((KeepsOthers.alloc _ _).trans (KeepsOthers.alloc _ _)).from _
    have hB0 := (hB.alloc (.cells #[.slice (some ⟨b2, off2, none⟩) 384 cl] 69)).alloc (.cells #[.int .i64 24] 3)
    have hown0 := (hown.alloc (.cells #[.slice (some ⟨b2, off2, none⟩) 384 cl] 69)).alloc (.cells #[.int .i64 24] 3)
    obtain ⟨W0, hW0⟩ : ∃ W0, (W.alloc (.cells #[.slice (some ⟨b2, off2, none⟩) 384 cl] 69)).alloc (.cells #[.int .i64 24] 3) = W0 := ⟨_, rfl⟩
    have hs0 : W0.heap.size = W.heap.size + 2 := by rw [← hW0]; simp
    rw [hW0] at hbs hbc e0 kf0 hB0 hown0 ⊢
    clear hW0
    have hwW := hE.size
    have hst := chunk1_stops (n := 8) (by decide) W.heap.size (W.heap.size + 1) b2 off2 cl hk1 hk2 (fun k => k = W.heap.size ∨ k = W.heap.size + 1) (.inl rfl) (.inr rfl) W0 (by omega) (by omega) hbs.cell hbc.cell
    unfold chunkV at hst
    refine wpIn_rangeFunc_ownH rfl (by decide) (gf := 142) (lb := #[.pointer (some ⟨W.heap.size, 0, none⟩), .pointer (some ⟨W.heap.size + 1, 0, none⟩)]) rfl trivial (enters_of Try.func142 (by kernel_rfl) rfl)
      hst KS.trans (KS.put (by omega)) (Below.refl _ _) (fun _ => rfl)
      (fun (pre : List (Ix 16)) W' => (∃ v, Boxed W' w.heap.size 22 v ∧ W'.ownsRow w.heap.size 3 1 v (16 * j + pre.length) (iv ((storeB ls).take (16 * j) ++ (vals pre).map (wdL (ls[j]?.getD [])))) ∧ (∀ q, v.ownBlock = some q → q < W.heap.size ∨ W.heap.size + 1 < q)) ∧ (Below w.heap.size W W' ∧ KeepsFrom 0 W W'))
      (fun _ _ _ => False)
      (OwnFrom.and (Own.from (holdsRow_own w.heap.size w.heap.size 22 3 1 (fun pre : List (Ix 16) => 16 * j + pre.length) (fun pre => iv ((storeB ls).take (16 * j) ++ (vals pre).map (wdL (ls[j]?.getD [])))) (fun _ v => ∀ q, v.ownBlock = some q → q < W.heap.size ∨ W.heap.size + 1 < q)) _) (OwnFrom.and (ownFrom_below hwW (by omega)) (ownFrom_keepsFrom (by omega))))
      (fun _ _ _ _ _ hs _ _ => hs)
      ⟨⟨v, hB0, by simpa [vals] using hown0, fun q hq => .inl (own_lt hown hq)⟩, e0.mono hwW, kf0⟩
      (fun x a' _ => a' = { tmps := #[.slice (some ⟨b, off, none⟩) 8 c, undef, .pointer (some ⟨w.heap.size, 0, none⟩), undef, .slice (some ⟨b2, off2, none⟩) 384 cl, .slice (some ⟨b2, off2 + x.1 * 24, none⟩) 24 24, undef, undef, undef, .slice (some ⟨b, off, none⟩) 8 c, .int .i64 8, .int .i64 j, .bool true, .pointer (some ⟨b, off + j, none⟩), .slice (some ⟨b2, off2, none⟩) 384 cl, .slice (some ⟨b2, off2, none⟩) 384 cl, .func (.func 142) #[] #[.pointer (some ⟨W.heap.size, 0, none⟩), .pointer (some ⟨W.heap.size + 1, 0, none⟩)], .slice (some ⟨b2, off2 + x.1 * 24, none⟩) 24 24, undef, undef, undef, undef, undef, undef, undef, undef, undef, undef, undef, undef, undef, u31, undef], defers := [] })
      (fun _ _ _ _ _ _ hs _ _ => hs) ?assign ?body ?done ?stop
    case assign =>
      rintro l pre x W1 K hi hK
      gi_wp2
      exact hK _ _ (KeepsFrom.refl _ _) (KS.refl _ _) hi rfl
    case stop =>
      rintro D c' pre W1 _ _ h _
      exact h.elim
    case done =>
      rintro D ys W2 hD hys ⟨⟨v2, hB2, hown2, _⟩, hBl2, hKF2⟩ hK
      have hyl : ys.length = 16 := by have := congrArg List.length hys; rw [List.length_map, List.length_range] at this; exact this
      rw [hyl, show vals ys = List.range 16 from hys, store_line ls (by rw [H8.out]; exact hlt), show 16 * j + 16 = 16 * (j + 1) by omega] at hown2
      clear hys hyl
      gi_wp2
      have hcast : (j : Int) + 1 = ((j + 1 : Nat) : Int) := by omega
      rw [hcast]
      exact ⟨⟨j + 1, D :: Ds, v2, _, _, _, _, _, _, _, by omega, rfl, HM.out.cons hKF2 (by omega) (by omega) hK, hB2, hown2, hE.trans hBl2⟩, by simp [intOf]; omega⟩
    case body =>
      rintro l pre ⟨k, hk⟩ a' W1 hl ⟨r, hr⟩ ⟨⟨v1, hB1, hown1, hG1⟩, hBl1, hKF1⟩ rfl hlt16
      have hl1 := (Array.getElem?_eq_some_iff.1 hr).1
      have HG1 := Lib.hid hG1
      clear hG1
      gi_wp2_with (refine ⟨trivial, ?_⟩; gi_at_call 135; refine (CallsIn.inRound l (back_in trivial rfl _ _ _ _)).mono ?_; rintro e w' ⟨rfl, rfl⟩)
      have bn := (Boxed.new W1 3 (.int .i64 0)).alloc (.cells #[.slice (some ⟨b2, off2 + k * 24, none⟩) 24 24] 69)
      have bs := Boxed.new (W1.alloc (.cells #[.int .i64 0] 3)) 69 (.slice (some ⟨b2, off2 + k * 24, none⟩) 24 24)
      rw [World.size_alloc] at bs
      have e2 : Ext W1 ((W1.alloc (.cells #[.int .i64 0] 3)).alloc (.cells #[.slice (some ⟨b2, off2 + k * 24, none⟩) 24 24] 69)) := ((Ext.refl W1).alloc _).alloc _
      obtain ⟨W2, hW2⟩ : ∃ W2, (W1.alloc (.cells #[.int .i64 0] 3)).alloc (.cells #[.slice (some ⟨b2, off2 + k * 24, none⟩) 24 24] 69) = W2 := ⟨_, rfl⟩
      have hs2 : W2.heap.size = W1.heap.size + 2 := by rw [← hW2]; simp
      rw [hW2] at bn bs e2 ⊢
      clear hW2
      have hr2 : W2.heap[l]? = some (.loop r) := (e2.block l hl1).trans hr
      have EW2 : Ext w W2 := Ext.comp (hE.trans hBl1) e2
      have hwB := hB.lt
      have hst2 := back1_stops (F := Fence.wide) (n := 6) trivial rfl (by decide) (W1.heap.size + 1) b2 (off2 + k * 24) (fun i => (ls[j]?.getD [])[k * 24 + i]?.getD false) (fun q => q = W1.heap.size + 1 ∨ q = b2) (.inl rfl) (.inr rfl) W2 (by omega) (by omega) bs.cell (fun i hi => by
        have := (EW2.cell (p := ⟨b2, off2 + (k * 24 + i), none⟩) hb2).trans (HB2.out (k * 24 + i) (by omega))
        rw [Nat.add_assoc]; exact this)
      refine wpIn_rangeFunc_ownN (l₀ := l) (r₀ := r) rfl hr2 (by decide) (gf := 143) (lb := #[.pointer (some ⟨W1.heap.size + 1, 0, none⟩)]) rfl trivial (enters_of Try.func143 (by kernel_rfl) rfl)
        (hst2.inRound l) KS.trans (KS.put (by omega)) (Below.refl _ _) (fun _ => rfl)
        (fun (pre2 : List (Ix 24)) W' => Boxed W' W1.heap.size 3 (.int .i64 (accB (fun i => (ls[j]?.getD [])[k * 24 + i]?.getD false) (vals pre2))) ∧ Ext W1 W')
        (fun _ _ _ => False)
        (OwnFrom.and (Own.from (boxed_own _ _ (fun pre2 : List (Ix 24) => Value.int .i64 (accB (fun i => (ls[j]?.getD [])[k * 24 + i]?.getD false) (vals pre2)))) _) (ownFrom_below (Nat.le_refl _) (by omega)))
        (fun _ _ _ _ _ hs _ _ => hs)
        ⟨bn, e2⟩
        (fun y a'' _ => a'' = { tmps := #[.slice (some ⟨b, off, none⟩) 8 c, undef, .pointer (some ⟨w.heap.size, 0, none⟩), undef, .slice (some ⟨b2, off2, none⟩) 384 cl, .slice (some ⟨b2, off2 + k * 24, none⟩) 24 24, .pointer (some ⟨W1.heap.size, 0, none⟩), undef, .bool ((ls[j]?.getD [])[k * 24 + y.1]?.getD false), .slice (some ⟨b, off, none⟩) 8 c, .int .i64 8, .int .i64 j, .bool true, .pointer (some ⟨b, off + j, none⟩), .slice (some ⟨b2, off2, none⟩) 384 cl, .slice (some ⟨b2, off2, none⟩) 384 cl, .func (.func 142) #[] #[.pointer (some ⟨W.heap.size, 0, none⟩), .pointer (some ⟨W.heap.size + 1, 0, none⟩)], .slice (some ⟨b2, off2 + k * 24, none⟩) 24 24, .slice (some ⟨b2, off2 + k * 24, none⟩) 24 24, .func (.func 143) #[] #[.pointer (some ⟨W1.heap.size + 1, 0, none⟩)], .int .i64 (y.1 : Int), .bool ((ls[j]?.getD [])[k * 24 + y.1]?.getD false), undef, undef, undef, undef, undef, undef, undef, undef, undef, u31, undef], defers := [] })
        (fun _ _ _ _ _ _ hs _ _ => hs) ?assign2 ?body2 ?done2 ?stop2
      case assign2 =>
        rintro l2 pre2 y W3 K hi hK
        gi_wp2
        exact hK _ _ (KeepsFrom.refl _ _) (KS.refl _ _) hi rfl
      case stop2 =>
        rintro c' pre2 W3 _ h
        exact h.elim
      case body2 =>
        rintro l2 pre2 ⟨y, hy⟩ a'' W3 _ _ ⟨bX, eX⟩ rfl hlt24
        have HS2 := Lib.hid hs2
        clear hs2
        have cX := bX.cell
        have fX := bX.frozen
        have bd := accB_bd (fun i => (ls[j]?.getD [])[k * 24 + i]?.getD false) (vals pre2)
        have hp : (2 : Nat) ^ (vals pre2).length ≤ 2 ^ 23 := Nat.pow_le_pow_right (by decide) (by rw [vals_length]; omega)
        have hp2 : ((2 ^ (vals pre2).length : Nat) : Int) = 2 ^ (vals pre2).length := by simp
        have hsn := accB_snoc (fun i => (ls[j]?.getD [])[k * 24 + i]?.getD false) (vals pre2) y
        have hap : vals (pre2 ++ [(⟨y, hy⟩ : Ix 24)]) = vals pre2 ++ [y] := vals_app _ _
        rw [← hap] at hsn
        dsimp only at hsn ⊢
        have HSn := Lib.hid hsn
        clear hsn hap
        have hA0 : 0 ≤ accB (fun i => (ls[j]?.getD [])[k * 24 + i]?.getD false) (vals pre2) := bd.1
        have hA1 : accB (fun i => (ls[j]?.getD [])[k * 24 + i]?.getD false) (vals pre2) < 8388608 := by
          have h23 : (2 : Nat) ^ 23 = 8388608 := by decide
          omega
        clear bd hp hp2
        generalize accB (fun i => (ls[j]?.getD [])[k * 24 + i]?.getD false) (vals pre2) = A at *
        generalize (ls[j]?.getD [])[k * 24 + y]?.getD false = bt at *
        have kfs : ∀ (V : World) (u : Value), KeepsFrom W2.heap.size V (V.setCell ⟨W1.heap.size, 0, none⟩ u) := fun V u => (KeepsOthers.setCell _ _ _).from _
        have kss : ∀ (V : World) (u : Value), KS (fun q => q = W1.heap.size + 1 ∨ q = b2) V (V.setCell ⟨W1.heap.size, 0, none⟩ u) := fun V u q hq => Below.heap_setCell _ _ _ _ (by show q ≠ W1.heap.size; omega)
        have Kfs := Lib.hid kfs
        have Kss := Lib.hid kss
        clear kfs kss
        cases bt with
        | true =>
          gi_wp2
          have hfin : accB (fun i => (ls[j]?.getD [])[k * 24 + i]?.getD false) (vals (pre2 ++ [(⟨y, hy⟩ : Ix 24)])) = A * 2 + 1 := by rw [HSn.out]; simp; omega
          exact ⟨(Kfs.out _ _).trans (Kfs.out _ _), (Kss.out _ _).trans (Kss.out _ _), by
            show Boxed _ W1.heap.size 3 (.int .i64 (accB (fun i => (ls[j]?.getD [])[k * 24 + i]?.getD false) (vals (pre2 ++ [(⟨y, hy⟩ : Ix 24)]))))
            rw [hfin]; exact (bX.set _).set _, (eX.setCell (p := ⟨W1.heap.size, 0, none⟩) (Nat.le_refl _) _).setCell (p := ⟨W1.heap.size, 0, none⟩) (Nat.le_refl _) _⟩
        | false =>
          gi_wp2
          have hfin : accB (fun i => (ls[j]?.getD [])[k * 24 + i]?.getD false) (vals (pre2 ++ [(⟨y, hy⟩ : Ix 24)])) = A * 2 := by rw [HSn.out]; simp; omega
          exact ⟨Kfs.out _ _, Kss.out _ _, by
            show Boxed _ W1.heap.size 3 (.int .i64 (accB (fun i => (ls[j]?.getD [])[k * 24 + i]?.getD false) (vals (pre2 ++ [(⟨y, hy⟩ : Ix 24)]))))
            rw [hfin]; exact bX.set _, eX.setCell (p := ⟨W1.heap.size, 0, none⟩) (Nat.le_refl _) _⟩
      case done2 =>
        rintro ys W3 hys ⟨bX, eX⟩
        have hX : accB (fun i => (ls[j]?.getD [])[k * 24 + i]?.getD false) (vals ys) = wdL (ls[j]?.getD []) k := by
          rw [show vals ys = upto (fun m => 23 - m) 24 from hys, accB_up, upOf_all]; rfl
        rw [hX] at bX
        clear hX hys
        have cX := bX.cell
        have bV := boxed_ext hB1 eX
        have cV := bV.cell
        have oV := own_later hown1 (w' := W3) (fun q hq => eX.block q (own_lt hown1 hq))
        have hs3 := eX.size
        have hj16 : 16 * j + pre.length < 128 := by omega
        gi_wp2_with (gi_at_builtin; refine wpListIn_append_own_at _ rfl _ _ 22 rfl w.heap.size 3 i0 (.int .i64 0) 1 8 Try.underlying22 hi ha0 ha1 ha2 rfl (by decide) _ _ _ rfl (oV.alloc _) ⟨W3.heap.size, 0, none⟩ 1 1 [.int .i64 (wdL (ls[j]?.getD []) k)] rfl rfl (cell_one_new _ _ _) (by simp [Value.oneCell']) (by unfold maxLen; omega) (by omega) (by simp; omega) ?_; intro v' w1 hown' hgrow _ hat; obtain ⟨g', cap', rfl⟩ := ownsRow_succ hown'; obtain ⟨hv1, hv2, hr2, hk2, hb2⟩ := bV.appended (by decide) oV (by omega) (Nat.le_refl _) hown' hgrow; have hc1 := hv1.cell; have hf1 := hv1.frozen)
        have hwB := hB.lt
        have ks : KS (fun q => q = W.heap.size ∨ q = W.heap.size + 1) W1 (w1.setCell ⟨w.heap.size, 0, none⟩ (.slice (some ⟨g', 0, none⟩) (16 * j + pre.length + 1) cap')) := fun q hq =>
          (Below.heap_setCell _ _ _ _ (by show q ≠ w.heap.size; omega)).trans ((hgrow.block q (by simp; omega) (fun e => by have := HG1.out q e.symm; omega)).trans ((Below.heap_alloc _ _ _ (by omega)).trans (eX.block q (by omega))))
        refine ⟨(ext_keeps eX _).trans (hk2.from _), ks, ⟨_, hv2, ?_, fun q hq => ?_⟩, (hBl1.trans (eX.mono (by omega))).trans hb2, (hKF1.trans (ext_keeps eX _)).trans (hk2.from _)⟩
        · rw [vals_app, List.map_append, ← List.append_assoc, ← iv_app, List.length_append]; exact hr2
        · rcases hat with e | e
          · exact HG1.out q (e ▸ hq)
          · rw [e] at hq
            simp at hq
            omega
  · have hltz : ¬ (j : Int) < 8 := by omega
    obtain rfl : j = 8 := by omega
    obtain ⟨g, cap, rfl⟩ : ∃ g cap, v = .slice (some ⟨g, 0, none⟩) 128 cap := by
      obtain ⟨g, cap, h⟩ := ownsRow_succ (k := 127) hown
      exact ⟨g, cap, h⟩
    have hcc := hB.cell
    have hff := hB.frozen
    rw [List.take_of_length_le (by rw [HS.out]; omega)] at hown
    gi_wp2
    have kf := (KeepsOthers.setCell W ⟨w.heap.size, 0, none⟩ (.slice (some ⟨g, 0, none⟩) 128 cap)).from 0
    refine leaves_marks (b := w.heap.size) Ds _ ⟨HM.out.nodup, fun D hD => ⟨(HM.out.at_ D hD).1, kf.same D _ (Nat.zero_le _) (HM.out.at_ D hD).2 rfl⟩⟩ fun W' hW' => ?_
    have b2 := hB.set (.slice (some ⟨g, 0, none⟩) 128 cap)
    have o2 := hown.kept (grownBy_setCell' W w.heap.size (.slice (some ⟨g, 0, none⟩) 128 cap)) (.inr (hB.not_row (by decide) hown).symm)
    have b3 : Boxed W' w.heap.size 22 (.slice (some ⟨g, 0, none⟩) 128 cap) := hW'.cells _ _ b2 rfl
    have o3 := own_later o2 (w' := W') (fun b hb => by
      obtain rfl : g = b := by simpa [Value.ownBlock] using hb
      rcases o2.2 with ⟨h1, _⟩ | ⟨g', cap', cur, h1, _, h2, _⟩
      · cases h1
      · cases h1
        exact (hW'.cells _ _ h2 rfl).trans h2.symm)
    have hc3 := b3.cell
    refine ⟨.slice (some ⟨g, 0, none⟩) 128 cap, ?_, some ⟨g, 0, none⟩, cap, rfl, o3, ((hE.setCell (p := ⟨w.heap.size, 0, none⟩) (Nat.le_refl _) _)).trans hW'.below⟩
    simp [results, Try.f106, go_sem, hc3]
end Go.Proofs.Ytjfggepgjpdebaa
/- A region that draws its order: what each operation keeps, whatever has come up before it. -/
namespace Go.Q
open Go
/-- each operation comes behind those that it waits for, in the order of the text -/
def Region.inOrder (ops : Array Oper) : Bool := (List.range ops.size).all fun i => ((ops[i]?).map fun o => o.after.all fun e => decide (e.on < i)).getD true
/-- all that an operation waits for has come up -/
def Region.waits (md : Region.Mode) (ops : Array Oper) (l : Nat → Bool) (i : Nat) : Bool := ((ops[i]?).map fun o => o.after.all fun e => !Region.binds md e || l e.on).getD false
theorem countP_lt {α : Type} (p q : α → Bool) (h : ∀ x, q x = true → p x = true) : ∀ (l : List α) (i : α), i ∈ l → p i = true → q i = false → l.countP q < l.countP p := by
  intro l
  induction l with
  | nil => intro i hi; cases hi
  | cons x xs ih =>
    intro i hi hp hq
    have hle : xs.countP q ≤ xs.countP p := List.countP_mono_left (fun y _ hy => h y hy)
    rw [List.countP_cons, List.countP_cons]
    rcases List.mem_cons.1 hi with rfl | hi
    · simp [hp, hq]; omega
    · have h1 := ih i hi hp hq
      have h2 := h x
      by_cases hx : q x = true
      · simp [hx, h2 hx]; omega
      · simp [hx]; split <;> omega
section
variable {P : Program} {ops : Array Oper} {Q : Exit → Act → World → Prop} {md : Region.Mode}
theorem getD_same {l : Array Bool} {i : Nat} (h : i < l.size) : l.getD i true = l.getD i false := by
  simp [Array.getD, h]
theorem ready_mem {listed : Array Bool} {i : Nat} : i ∈ Region.ready md ops listed ↔ i < ops.size ∧ listed.getD i true = false ∧ Region.waits md ops (fun j => listed.getD j false) i = true := by
  unfold Region.ready Region.waits
  rw [List.mem_filter, List.mem_range, Bool.and_eq_true]
  simp
theorem ready_nil {listed : Array Bool} (ho : Region.inOrder ops = true) (hs : listed.size = ops.size) (h : Region.ready md ops listed = []) : ∀ i, i < ops.size → listed.getD i false = true := by
  intro i
  induction i using Nat.strongRecOn with
  | ind i ih =>
    intro hi
    by_cases hc : listed.getD i false = true
    · exact hc
    · exfalso
      have hm : i ∈ Region.ready md ops listed := ready_mem.2 ⟨hi, by rw [getD_same (by omega)]; simpa using hc, by
        unfold Region.waits
        unfold Region.inOrder at ho
        rw [List.all_eq_true] at ho
        have h1 := ho i (List.mem_range.2 hi)
        rw [Array.getElem?_eq_getElem hi] at h1 ⊢
        simp only [Option.map_some, Option.getD_some] at h1 ⊢
        rw [Array.all_eq_true] at h1 ⊢
        intro k hk
        have h2 := h1 k hk
        simp only [decide_eq_true_eq] at h2
        rw [ih _ h2 (by omega), Bool.or_true]⟩
      rw [h] at hm
      cases hm
theorem wpAny_inv (I : (Nat → Bool) → Act → World → Prop) (ho : Region.inOrder ops = true)
    (step : ∀ l a w, I l a w → ∀ i, i < ops.size → l i = false → Region.waits md ops l i = true → wpOp P ops Q i (fun a' w' => I (fun j => if j = i then true else l j) a' w') a w)
    (done : ∀ l a w, I l a w → (∀ i, i < ops.size → l i = true) → Q .normal a w) :
    ∀ (fuel : Nat) (listed : Array Bool) (a : Act) (w : World), listed.size = ops.size → (List.range ops.size).countP (fun i => !listed.getD i false) ≤ fuel → I (fun j => listed.getD j false) a w → wpAny P md ops Q fuel listed a w := by
  intro fuel
  induction fuel with
  | zero =>
    intro listed a w hs hc hI
    have hall : ∀ i, i < ops.size → listed.getD i false = true := fun i hi => by
      have := (List.countP_eq_zero.1 (Nat.le_zero.1 hc)) i (List.mem_range.2 hi)
      simpa using this
    have hr : Region.ready md ops listed = [] := by
      rw [List.eq_nil_iff_forall_not_mem]
      intro i hi
      have h := ready_mem.1 hi
      rw [getD_same (by omega), hall i h.1] at h
      exact absurd h.2.1 (by decide)
    exact ⟨hr, done _ _ _ hI hall⟩
  | succ fuel ih =>
    intro listed a w hs hc hI
    refine ⟨fun hr => done _ _ _ hI (ready_nil ho hs hr), fun i hi => ?_⟩
    obtain ⟨h1, h2, h3⟩ := ready_mem.1 hi
    rw [getD_same (by omega)] at h2
    refine wpOp_mono (fun a' w' hI' => ih _ a' w' (by simpa using hs) ?_ ?_) (step _ a w hI i h1 h2 h3)
    · have hlt := countP_lt (fun j => !listed.getD j false) (fun j => !(listed.setIfInBounds i true).getD j false) (fun j hj => by
        by_cases e : j = i
        · subst e; simp [Array.getD, hs, h1] at hj
        · simp only [Array.getD_eq_getD_getElem?, Array.getElem?_setIfInBounds] at hj ⊢
          rw [if_neg (fun c => e c.symm)] at hj
          exact hj) (List.range ops.size) i (List.mem_range.2 h1) (by simp [h2]) (by simp [Array.getD, hs, h1])
      omega
    · have e : (fun j => (listed.setIfInBounds i true).getD j false) = fun j => if j = i then true else listed.getD j false := by
        funext j
        by_cases e : j = i
        · subst e; simp [Array.getD, hs, h1]
        · rw [if_neg e]
          simp only [Array.getD_eq_getD_getElem?, Array.getElem?_setIfInBounds]
          rw [if_neg (fun c => e c.symm)]
      rw [e]
      exact hI'
theorem waits_mono {l l' : Nat → Bool} (h : ∀ j, l j = true → l' j = true) {i : Nat} (hw : Region.waits md ops l i = true) : Region.waits md ops l' i = true := by
  unfold Region.waits at *
  cases ho : ops[i]? with
  | none => rw [ho] at hw; simp at hw
  | some o =>
    rw [ho] at hw
    simp only [Option.map_some, Option.getD_some] at hw ⊢
    rw [Array.all_eq_true] at hw ⊢
    intro k hk
    have := hw k hk
    rw [Bool.or_eq_true] at this ⊢
    exact this.imp id (h _)
/-- a region that draws its order: what is shown of each operation, whatever has come up before it -/
theorem wp_region_inv (I : (Nat → Bool) → Act → World → Prop) {id : Nat} {a : Act} {w : World} (hm : P.follows .mixedOrders = true) (ho : Region.inOrder ops = true) (h0 : I (fun _ => false) a w.drew)
    (step : ∀ l a w, I l a w → ∀ i, i < ops.size → l i = false → Region.waits .any ops l i = true → wpOp P ops Q i (fun a' w' => I (fun j => if j = i then true else l j) a' w') a w)
    (done : ∀ l a w, I l a w → (∀ i, i < ops.size → l i = true) → Q .normal a w) : (Code.region id ops true).wp P Q a w := by
  refine wp_region_any hm (wpAny_inv I ho step done ops.size _ a _ (by simp) ?_ ?_)
  · exact Nat.le_trans (List.countP_le_length) (by simp)
  · have e : (fun j => (Array.replicate ops.size false).getD j false) = fun _ => false := by
      funext j
      simp [Array.getD]
    rw [e]
    exact h0
/-- the same, with what has come up being closed -/
theorem wp_region_closed (I : (Nat → Bool) → Act → World → Prop) {id : Nat} {a : Act} {w : World} (hm : P.follows .mixedOrders = true) (ho : Region.inOrder ops = true) (h0 : I (fun _ => false) a w.drew)
    (step : ∀ l a w, I l a w → (∀ j, l j = true → Region.waits .any ops l j = true) → ∀ i, i < ops.size → l i = false → Region.waits .any ops l i = true → wpOp P ops Q i (fun a' w' => I (fun j => if j = i then true else l j) a' w') a w)
    (done : ∀ l a w, I l a w → (∀ i, i < ops.size → l i = true) → Q .normal a w) : (Code.region id ops true).wp P Q a w := by
  refine wp_region_inv (fun l a w => I l a w ∧ ∀ j, l j = true → Region.waits .any ops l j = true) hm ho ⟨h0, fun j hj => by cases hj⟩ (fun l a w hI i hi hl hw => ?_) (fun l a w hI h => done l a w hI.1 h)
  have hmono : ∀ k, l k = true → (if k = i then true else l k) = true := fun k hk => by split <;> simp_all
  refine wpOp_mono (fun a' w' h => ⟨h, fun j hj => ?_⟩) (step l a w hI.1 hI.2 i hi hl hw)
  by_cases e : j = i
  · subst e; exact waits_mono hmono hw
  · have hj2 : (if j = i then true else l j) = true := hj
    rw [if_neg e] at hj2
    exact waits_mono hmono (hI.2 j hj2)
end
end Go.Q
/- A region that draws its order in a round of a range over a function: by the same invariants as outside. -/
namespace Go.Q
open Go Go.RowKit
/-- operations that enter nothing -/
def plainB (o : Oper) : Bool := match o.op with
  | .move _ | .assign _ | .load .. | .store .. | .buildSlice .. | .nilCheck _ | .binOp .. | .unOp .. | .fieldAddr .. | .indexAddr .. => true
  | .call c => match c.callee with
    | .builtin .append => true
    | _ => false
  | _ => false
/-- what a run leaves is no call -/
def Stays : Result Next → Prop
  | .ok (.value _) _ | .ok .skip _ | .halt _ _ => True
  | _ => False
theorem stays_v {P : Program} {w : World} (s : Sem Value) : Stays ((do pure (Next.value (← s))).run P w) := by
  rw [Sem.run_bind]
  cases h : s.run P w <;> simp [Result.andThen, Sem.run_pure, Stays]
theorem stays_u {P : Program} {w : World} (s : Sem Unit) : Stays ((do s; pure Next.skip).run P w) := by
  rw [Sem.run_bind]
  cases h : s.run P w <;> simp [Result.andThen, Sem.run_pure, Stays]
theorem stays_bind {α : Type} {P : Program} {w : World} (s : Sem α) (f : α → Sem Next) (h : ∀ x w', Stays ((f x).run P w')) : Stays ((s >>= f).run P w) := by
  rw [Sem.run_bind]
  cases h' : s.run P w with
  | ok x w' => exact h x w'
  | halt x w' => exact trivial
theorem stays_panic {P : Program} {w : World} : Stays ((runtimePanic .nilDeref : Sem Next).run P w) := by
  unfold runtimePanic
  exact stays_bind _ _ fun p w' => trivial
theorem plain_stays {P : Program} {w : World} {o : Oper} (h : plainB o = true) (ρ : Operand → Value) : Stays ((execOp ρ o).run P w) := by
  obtain ⟨dst, op, ty, pos, after, guard⟩ := o
  unfold plainB at h
  unfold execOp
  dsimp only at h ⊢
  split at h
  all_goals first
    | exact trivial
    | exact stays_v _
    | exact stays_u _
    | skip
  · dsimp only
    split
    · exact stays_panic
    · exact stays_panic
    · exact stays_panic
    · split
      · exact stays_panic
      · refine stays_bind _ _ fun x w' => stays_bind _ _ fun y w'' => ?_
        split
        · exact stays_bind _ _ fun _ _ => trivial
        · exact trivial
      · exact trivial
    · exact trivial
  · split at h
    · rename_i c hc
      simp only [resolve, hc, Sem.run_bind, Sem.run_pure, Result.andThen_ok, invoke, builtin]
      generalize Sem.run P (Builtin.append_ _ _ _) w = r
      cases r <;> exact trivial
    · cases h
  · cases h
section
variable {n l₀ : Nat} {P : Program} {ops : Array Oper} {Q : Exit → Act → World → Prop} {md : Region.Mode}
theorem plain_defer {o : Oper} (h : plainB o = true) : ∀ c, o.op ≠ .defer c := by
  intro c e
  unfold plainB at h
  rw [e] at h
  cases h
theorem wpIn_plain {o : Oper} (hp : plainB o = true) {a : Act} {w : World} {K : Act → World → Prop} (h : o.wp P a w K Q) : o.wpIn (Fence.wide.inRound l₀) n P a w K Q := by
  refine ⟨fun _ _ => trivial, ?_⟩
  rw [Oper.semAt_plain _ _ _ (plain_defer hp)]
  have hs := plain_stays (P := P) (w := w) hp a.eval
  unfold Oper.wp at h
  generalize (execOp a.eval o).run P w = r at *
  cases r with
  | ok x w' => cases x <;> first | exact h | exact hs.elim
  | halt x w' => cases x <;> exact h
/-- what is shown of an operation -/
def wpOpP (P : Program) (ops : Array Oper) (Q : Exit → Act → World → Prop) (i : Nat) (K : Act → World → Prop) (a : Act) (w : World) : Prop :=
  match ops[i]? with
  | none => K a w
  | some o => if Region.wanted o (yielded ops a.tmps) then o.wp P a w K Q else K (a.put o.dst undef) w
theorem wpOpIn_plain (hp : ∀ o ∈ ops, plainB o = true) {i : Nat} {a : Act} {w : World} {K : Act → World → Prop} (h : wpOpP P ops Q i K a w) : wpOpIn (Fence.wide.inRound l₀) n P ops Q i K a w := by
  unfold wpOpP at h
  unfold wpOpIn
  cases ho : ops[i]? with
  | none => rw [ho] at h; exact h
  | some o =>
    rw [ho] at h
    dsimp only at h ⊢
    split
    · rename_i hw
      rw [if_pos hw] at h
      exact wpIn_plain (hp o (Array.mem_of_getElem? ho)) h
    · rename_i hw
      rw [if_neg hw] at h
      exact ⟨fun _ _ => trivial, h⟩
theorem wpAnyIn_inv {F : Fence} (I : (Nat → Bool) → Act → World → Prop) (ho : Region.inOrder ops = true)
    (step : ∀ l a w, I l a w → ∀ i, i < ops.size → l i = false → Region.waits md ops l i = true → wpOpIn F n P ops Q i (fun a' w' => I (fun j => if j = i then true else l j) a' w') a w)
    (done : ∀ l a w, I l a w → (∀ i, i < ops.size → l i = true) → Q .normal a w) :
    ∀ (fuel : Nat) (listed : Array Bool) (a : Act) (w : World), listed.size = ops.size → (List.range ops.size).countP (fun i => !listed.getD i false) ≤ fuel → I (fun j => listed.getD j false) a w → wpAnyIn F n P md ops Q fuel listed a w := by
  intro fuel
  induction fuel with
  | zero =>
    intro listed a w hs hc hI
    have hall : ∀ i, i < ops.size → listed.getD i false = true := fun i hi => by
      have := (List.countP_eq_zero.1 (Nat.le_zero.1 hc)) i (List.mem_range.2 hi)
      simpa using this
    have hr : Region.ready md ops listed = [] := by
      rw [List.eq_nil_iff_forall_not_mem]
      intro i hi
      have h := ready_mem.1 hi
      rw [getD_same (by omega), hall i h.1] at h
      exact absurd h.2.1 (by decide)
    exact ⟨hr, done _ _ _ hI hall⟩
  | succ fuel ih =>
    intro listed a w hs hc hI
    refine ⟨fun hr => done _ _ _ hI (ready_nil ho hs hr), fun i hi => ?_⟩
    obtain ⟨h1, h2, h3⟩ := ready_mem.1 hi
    rw [getD_same (by omega)] at h2
    refine wpOpIn_mono (fun a' w' hI' => ih _ a' w' (by simpa using hs) ?_ ?_) (step _ a w hI i h1 h2 h3)
    · have hlt := countP_lt (fun j => !listed.getD j false) (fun j => !(listed.setIfInBounds i true).getD j false) (fun j hj => by
        by_cases e : j = i
        · subst e; simp [Array.getD, hs, h1] at hj
        · simp only [Array.getD_eq_getD_getElem?, Array.getElem?_setIfInBounds] at hj ⊢
          rw [if_neg (fun c => e c.symm)] at hj
          exact hj) (List.range ops.size) i (List.mem_range.2 h1) (by simp [h2]) (by simp [Array.getD, hs, h1])
      omega
    · have e : (fun j => (listed.setIfInBounds i true).getD j false) = fun j => if j = i then true else listed.getD j false := by
        funext j
        by_cases e : j = i
        · subst e; simp [Array.getD, hs, h1]
        · rw [if_neg e]
          simp only [Array.getD_eq_getD_getElem?, Array.getElem?_setIfInBounds]
          rw [if_neg (fun c => e c.symm)]
      rw [e]
      exact hI'
/-- a region that draws its order, in a round; what has come up being closed -/
theorem wpIn_region_closed (I : (Nat → Bool) → Act → World → Prop) {id : Nat} {a : Act} {w : World} (hm : P.follows .mixedOrders = true) (ho : Region.inOrder ops = true) (hp : ops.all plainB = true) (h0 : I (fun _ => false) a w.drew)
    (step : ∀ l a w, I l a w → (∀ j, l j = true → Region.waits .any ops l j = true) → ∀ i, i < ops.size → l i = false → Region.waits .any ops l i = true → wpOpP P ops Q i (fun a' w' => I (fun j => if j = i then true else l j) a' w') a w)
    (done : ∀ l a w, I l a w → (∀ i, i < ops.size → l i = true) → Q .normal a w) : (Code.region id ops true).wpIn (Fence.wide.inRound l₀) n P Q a w := by
  refine wpIn_region_any hm ?_
  have hpl : ∀ o ∈ ops, plainB o = true := fun o h => Array.all_eq_true_iff_forall_mem.1 hp o h
  refine wpAnyIn_inv (fun l a w => I l a w ∧ ∀ j, l j = true → Region.waits .any ops l j = true) ho (fun l a w hI i hi hl hw => ?_) (fun l a w hI h => done l a w hI.1 h) ops.size _ a _ (by simp) ?_ ?_
  · have hmono : ∀ k, l k = true → (if k = i then true else l k) = true := fun k hk => by split <;> simp_all
    refine wpOpIn_mono (fun a' w' h => ⟨h, fun j hj => ?_⟩) (wpOpIn_plain hpl (step l a w hI.1 hI.2 i hi hl hw))
    by_cases e : j = i
    · subst e; exact waits_mono hmono hw
    · have hj2 : (if j = i then true else l j) = true := hj
      rw [if_neg e] at hj2
      exact waits_mono hmono (hI.2 j hj2)
  · exact Nat.le_trans (List.countP_le_length) (by simp)
  · have e : (fun j => (Array.replicate ops.size false).getD j false) = fun _ => false := by
      funext j
      simp [Array.getD]
    rw [e]
    exact ⟨h0, fun j hj => by cases hj⟩
end
end Go.Q
/- Pulse's control in memory: what its blocks hold, and what stays of that behind each kind of write. -/
namespace Go.Proofs.Ytjfggepgjpdebaa
open Go.RowKit Go.Q
/-- the cells of a control: the state's fields, and its order -/
def pcells (g1 c1 : Nat) (tv pv : Value) (s : Pu) (o : Ord) : Array Value :=
  #[.slice (some ⟨g1, 0, none⟩) 128 c1, tv, .int .i64 s.taken, pv, .int .i64 s.clock, .int .i64 s.at_, .int .i64 s.phase, .int .i64 s.order, .int .i64 s.operand, .int .i64 s.other, .int .i64 s.product, .int .i64 s.count, .int .i64 s.done, .int .i64 s.why, .int .i64 o.op, .int .i64 o.frm, .int .i64 o.to, .int .i64 o.nxt]
/-- the machine lies at m: its store in block g1, its tape tv, its paper pv -/
structure Ctl (w : World) (nb m g1 c1 : Nat) (tv pv : Value) (s : Pu) (o : Ord) : Prop where
  low : nb ≤ m ∧ nb ≤ g1 ∧ m ≠ g1
  blk : w.heap[m]? = some (.cells (pcells g1 c1 tv pv s o) 100 (0, 0))
  st : ∃ cur, w.heap[g1]? = some (.cells cur 3 (0, 0)) ∧ cur.toList.take 128 = iv s.store
  len : s.store.length = 128
  tp : ∃ a2 c2, tv = .slice a2 s.tape.length c2 ∧ (s.tape = [] ∨ ∃ b off, a2 = some ⟨b, off, none⟩ ∧ (∃ cur, w.heap[b]? = some (.cells cur 3 (0, 0))) ∧ b ≠ m ∧ b ≠ g1 ∧ pv.ownBlock ≠ some b ∧ ∀ i, i < s.tape.length → w.cell? ⟨b, off + i, none⟩ = some (.int .i64 (s.tape[i]?.getD 0)))
  prow : w.ownsRow nb 3 1 pv s.printed.length (iv s.printed)
  pm : pv.ownBlock ≠ some m
  pg : pv.ownBlock ≠ some g1
variable {w : World} {nb m g1 c1 : Nat} {tv pv : Value} {s : Pu} {o : Ord}
theorem Ctl.c (h : Ctl w nb m g1 c1 tv pv s o) (i : Nat) {v : Value} (hv : (pcells g1 c1 tv pv s o)[i]? = some v) : w.cell? ⟨m, i, none⟩ = some v := cell_of_cells h.blk i hv
theorem Ctl.f (h : Ctl w nb m g1 c1 tv pv s o) (i : Nat) : w.frozen? ⟨m, i, none⟩ = false := free_of_cells h.blk i
theorem Ctl.wc (h : Ctl w nb m g1 c1 tv pv s o) (i : Nat) (hi : i < 128) : w.cell? ⟨g1, i, none⟩ = some (.int .i64 (s.store[i]?.getD 0)) := by
  obtain ⟨cur, hg, ht⟩ := h.st
  refine cell_of_cells hg i ?_
  have e := iv_get s.store i (by rw [h.len]; exact hi)
  rw [← ht, List.getElem?_take, if_pos hi] at e
  simpa using e
theorem Ctl.wf (h : Ctl w nb m g1 c1 tv pv s o) (i : Nat) : w.frozen? ⟨g1, i, none⟩ = false := by
  obtain ⟨cur, hg, _⟩ := h.st
  exact free_of_cells hg i
theorem Ctl.ltm (h : Ctl w nb m g1 c1 tv pv s o) : m < w.heap.size := lt_of_block h.blk
theorem Ctl.ltg (h : Ctl w nb m g1 c1 tv pv s o) : g1 < w.heap.size := by obtain ⟨cur, hg, _⟩ := h.st; exact lt_of_block hg
/-- nothing of the machine has turned -/
theorem Ctl.same {w' : World} (h : Ctl w nb m g1 c1 tv pv s o) (hz : w.heap.size ≤ w'.heap.size) (hb : ∀ k, k < w.heap.size → w'.heap[k]? = w.heap[k]?) : Ctl w' nb m g1 c1 tv pv s o where
  low := h.low
  blk := (hb _ h.ltm).trans h.blk
  st := by obtain ⟨cur, hg, ht⟩ := h.st; exact ⟨cur, (hb _ h.ltg).trans hg, ht⟩
  len := h.len
  tp := by
    obtain ⟨a2, c2, hv, ht⟩ := h.tp
    refine ⟨a2, c2, hv, ?_⟩
    rcases ht with ht | ⟨b, off, ha, ⟨cu, hcu⟩, h1, h2, h3, hc⟩
    · exact .inl ht
    · have hlt := lt_of_block hcu
      exact .inr ⟨b, off, ha, ⟨cu, (hb b hlt).trans hcu⟩, h1, h2, h3, fun i hi => (World.cell?_of_block (w := w) (hb b hlt)).trans (hc i hi)⟩
  prow := own_later h.prow (fun b e => hb b (own_lt h.prow e))
  pm := h.pm
  pg := h.pg
theorem Ctl.ext {w' : World} (h : Ctl w nb m g1 c1 tv pv s o) (e : Ext w w') : Ctl w' nb m g1 c1 tv pv s o := h.same e.size e.block
theorem Ctl.drewN (h : Ctl w nb m g1 c1 tv pv s o) (n : Nat) : Ctl (w.drewN n) nb m g1 c1 tv pv s o := h.same (Nat.le_refl _) (fun _ _ => rfl)
theorem Ctl.heapEq {w' : World} (h : Ctl w nb m g1 c1 tv pv s o) (e : w'.heap = w.heap) : Ctl w' nb m g1 c1 tv pv s o := h.same (by rw [e]; exact Nat.le_refl _) (fun k _ => by rw [e])
/-- one of the machine's own cells is written -/
theorem Ctl.setm (h : Ctl w nb m g1 c1 tv pv s o) (i : Nat) (v : Value) (s' : Pu) (o' : Ord) (he : pcells g1 c1 tv pv s' o' = (pcells g1 c1 tv pv s o).setIfInBounds i v)
    (e1 : s'.store = s.store) (e2 : s'.tape = s.tape) (e3 : s'.printed = s.printed) : Ctl (w.setCell ⟨m, i, none⟩ v) nb m g1 c1 tv pv s' o' where
  low := h.low
  blk := by rw [he]; exact cells_set h.blk i v
  st := by
    obtain ⟨cur, hg, ht⟩ := h.st
    exact ⟨cur, (Below.heap_setCell _ _ _ _ (fun e => h.low.2.2 e.symm)).trans hg, by rw [e1]; exact ht⟩
  len := by rw [e1]; exact h.len
  tp := by
    obtain ⟨a2, c2, hv, ht⟩ := h.tp
    refine ⟨a2, c2, by rw [e2]; exact hv, ?_⟩
    rw [e2]
    rcases ht with ht | ⟨b, off, ha, ⟨cu, hcu⟩, h1, h2, h3, hc⟩
    · exact .inl ht
    · exact .inr ⟨b, off, ha, ⟨cu, (Below.heap_setCell _ _ _ _ h1).trans hcu⟩, h1, h2, h3, fun i hi => (World.cell?_of_block (w := w) (Below.heap_setCell _ _ _ _ h1)).trans (hc i hi)⟩
  prow := by rw [e3]; exact own_later h.prow (fun b e => Below.heap_setCell _ _ _ _ (fun e' => h.pm (by rw [e]; exact congrArg some e')))
  pm := h.pm
  pg := h.pg
/-- a word of the store is written -/
theorem Ctl.sets (h : Ctl w nb m g1 c1 tv pv s o) (i : Nat) (hi : i < 128) (x : Int) (s' : Pu) (es : s' = { s with store := s.store.set i x }) : Ctl (w.setCell ⟨g1, i, none⟩ (.int .i64 x)) nb m g1 c1 tv pv s' o where
  low := h.low
  blk := by subst es; exact (Below.heap_setCell _ _ _ _ h.low.2.2).trans h.blk
  st := by
    subst es
    obtain ⟨cur, hg, ht⟩ := h.st
    refine ⟨_, cells_set hg i _, ?_⟩
    show ((cur.setIfInBounds i (.int .i64 x)).toList).take 128 = iv (s.store.set i x)
    rw [Array.toList_setIfInBounds, List.take_set, ht]
    simp [iv, List.map_set]
  len := by subst es; simpa using h.len
  tp := by
    subst es
    obtain ⟨a2, c2, hv, ht⟩ := h.tp
    refine ⟨a2, c2, hv, ?_⟩
    rcases ht with ht | ⟨b, off, ha, ⟨cu, hcu⟩, h1, h2, h3, hc⟩
    · exact .inl ht
    · exact .inr ⟨b, off, ha, ⟨cu, (Below.heap_setCell _ _ _ _ h2).trans hcu⟩, h1, h2, h3, fun i hi => (World.cell?_of_block (w := w) (Below.heap_setCell _ _ _ _ h2)).trans (hc i hi)⟩
  prow := by subst es; exact own_later h.prow (fun b e => Below.heap_setCell _ _ _ _ (fun e' => h.pg (by rw [e]; exact congrArg some e')))
  pm := h.pm
  pg := h.pg
/-- a method has changed the machine, and nothing else that was there -/
def PRes (nb m g1 c1 : Nat) (tv pv : Value) (s' : Pu) (o' : Ord) (w : World) (e : Ending) (w' : World) : Prop :=
  e = .returned (.tuple #[]) ∧ ∃ pv', Ctl w' nb m g1 c1 tv pv' s' o' ∧ Chg (Own3 m g1 pv) w w' ∧ (pv'.ownBlock = pv.ownBlock ∨ ∃ k, pv'.ownBlock = some k ∧ w.heap.size ≤ k)
theorem pdo_print {w W w1 : World} (h : Ctl w nb m g1 c1 tv pv s o) (ob : Obj) (eW : W.heap = (w.alloc ob).heap) (h1 : W.os = w.os) (h2 : W.tape = w.tape) (h3 : W.output = w.output)
    (hg : W.grownBy w1 pv.ownBlock) (g k cap : Nat) (x : Int) (hk : k = s.printed.length + 1) (hown : w1.ownsRow nb 3 1 (.slice (some ⟨g, 0, none⟩) k cap) k (iv s.printed ++ [.int .i64 x]))
    (hat : pv.ownBlock = some g ∨ g = w.heap.size + 1) :
    PRes nb m g1 c1 tv pv { s with printed := s.printed ++ [x] } o w (.returned (.tuple #[])) (w1.setCell ⟨m, 3, none⟩ (.slice (some ⟨g, 0, none⟩) k cap)) := by
  have lm := h.ltm
  have lg := h.ltg
  have old := fun i hi hr => grown_old (w := w) eW hg i hi hr
  have gm : g ≠ m := by rcases hat with e | e; · exact fun e' => h.pm (e' ▸ e)
                        · omega
  have gg : g ≠ g1 := by rcases hat with e | e; · exact fun e' => h.pg (e' ▸ e)
                         · omega
  have hz : w.heap.size ≤ w1.heap.size := by have := hg.size; rw [eW] at this; simp at this; omega
  refine ⟨rfl, .slice (some ⟨g, 0, none⟩) k cap, ?_, ?_, ?_⟩
  · refine ⟨h.low, ?_, ?_, h.len, ?_, ?_, fun e => gm (by simpa [Value.ownBlock] using e), fun e => gg (by simpa [Value.ownBlock] using e)⟩
    · exact cells_set ((old m lm h.pm).trans h.blk) 3 _
    · obtain ⟨cur, hc, ht⟩ := h.st
      exact ⟨cur, (Below.heap_setCell _ _ _ _ (fun e => h.low.2.2 e.symm)).trans ((old g1 lg h.pg).trans hc), ht⟩
    · obtain ⟨a2, c2, hv, ht⟩ := h.tp
      refine ⟨a2, c2, hv, ?_⟩
      rcases ht with ht | ⟨b, off, ha, ⟨cu, hcu⟩, i1, i2, i3, hc⟩
      · exact .inl ht
      · have hlt := lt_of_block hcu
        refine .inr ⟨b, off, ha, ⟨cu, (Below.heap_setCell _ _ _ _ i1).trans ((old b hlt i3).trans hcu)⟩, i1, i2, fun e => ?_, fun i hi => ?_⟩
        · have e' : g = b := by simpa [Value.ownBlock] using e
          rcases hat with e2 | e2
          · exact i3 (e' ▸ e2)
          · omega
        · exact (World.cell?_of_block (w := w) ((Below.heap_setCell _ _ _ _ i1).trans (old b hlt i3))).trans (hc i hi)
    · have e : (s.printed ++ [x]).length = k := by simp [hk]
      show World.ownsRow _ nb 3 1 _ (s.printed ++ [x]).length (iv (s.printed ++ [x]))
      rw [e]
      have e2 : iv (s.printed ++ [x]) = iv s.printed ++ [.int .i64 x] := by simp [iv]
      rw [e2]
      exact own_later hown (fun b hb => Below.heap_setCell _ _ _ _ (by have : g = b := by simpa [Value.ownBlock] using hb
                                                                       show b ≠ m
                                                                       omega))
  · refine Chg.setCell ?_ _ (.inl rfl) _
    refine ⟨hg.os.trans h1, hg.tape.trans h2, hg.output.trans h3, hz, fun i hi hs => old i hi (fun e => hs (.inr (.inr e)))⟩
  · rcases hat with e | e
    · exact .inl (by rw [e]; rfl)
    · exact .inr ⟨g, rfl, by omega⟩
/-- what of a list can be read where its value lies -/
theorem Ctl.tape {w : World} {nb m g1 c1 : Nat} {tv pv : Value} {s : Pu} {o : Ord} (h : Ctl w nb m g1 c1 tv pv s o) : ∃ a2 c2, tv = .slice a2 s.tape.length c2 ∧ IntsAt w a2 s.tape := by
  obtain ⟨a2, c2, hv, ht⟩ := h.tp
  refine ⟨a2, c2, hv, ?_⟩
  rcases ht with e | ⟨b, off, ha, ⟨cu, hcu⟩, _, _, _, hc⟩
  · exact .inl e
  · exact .inr ⟨b, off, ha, lt_of_block hcu, hc⟩
theorem Ctl.paper {w : World} {nb m g1 c1 : Nat} {tv pv : Value} {s : Pu} {o : Ord} (h : Ctl w nb m g1 c1 tv pv s o) : ∃ a3 c3, pv = .slice a3 s.printed.length c3 := by
  rcases h.prow.2 with ⟨h1, h2⟩ | ⟨g, cap, cur, h1, _⟩
  · exact ⟨none, 0, by rw [h2]; exact h1⟩
  · exact ⟨_, _, h1⟩
end Go.Proofs.Ytjfggepgjpdebaa
/- Contracts: pulse's control: address, comes, rests, replaces, finish, count, write, to. -/
namespace Go.Proofs.Ytjfggepgjpdebaa
open Go.RowKit Go.Q
variable {nb m g1 c1 : Nat} {tv pv : Value} {s : Pu}
theorem PRes.drew {s' : Pu} {o' : Ord} {w W : World} {e : Ending} (h : PRes nb m g1 c1 tv pv s' o' w e W) : PRes nb m g1 c1 tv pv s' o' w e W.drew := by
  obtain ⟨he, pv', hM, hC, hp⟩ := h
  exact ⟨he, pv', hM.heapEq rfl, hC.trans (Chg.heapEq rfl rfl rfl rfl), hp⟩
set_option maxHeartbeats 1000000 in
theorem caddr_any (w : World) (h : Ctl w nb m g1 c1 tv pv s (ordP s)) (hp : 0 ≤ s.phase ∧ s.phase ≤ 4) :
    Calls Try.prog 123 #[.pointer (some ⟨m, 0, none⟩)] w fun e w' => e = .returned (.int .i64 (addrP s)) ∧ w = w' := by
  have q5 := h.c 5 (v := .int .i64 s.at_) rfl
  have q6 := h.c 6 (v := .int .i64 s.phase) rfl
  have q15 := h.c 15 (v := .int .i64 (ordP s).frm) rfl
  have q16 := h.c 16 (v := .int .i64 (ordP s).to) rfl
  have e : addrP s = if s.phase = 0 then s.at_ else if s.phase = 1 then (ordP s).frm else if s.phase = 3 then -1 else (ordP s).to := rfl
  rw [e]
  obtain ⟨p0, p1⟩ := hp
  clear h e
  generalize s.phase = ph at *
  generalize s.at_ = x at *
  generalize (ordP s).frm = y at *
  generalize (ordP s).to = z at *
  have hc : ph = 0 ∨ ph = 1 ∨ ph = 2 ∨ ph = 3 ∨ ph = 4 := by omega
  rcases hc with rfl | rfl | rfl | rfl | rfl
  all_goals
    go_enter Try.func123, Try.ntmps123
    go_wp2
    go_ret
    exact ⟨rfl, rfl⟩
/-- what comes by: its address, or -1 -/
def comeA (s : Pu) : Int := if comesP s = true then addrP s else -1
set_option maxHeartbeats 1000000 in
theorem comes_any (w : World) (h : Ctl w nb m g1 c1 tv pv s (ordP s)) (hv : ValidP s) :
    Calls Try.prog 94 #[.pointer (some ⟨m, 0, none⟩)] w fun e w' => e = .returned (.int .i64 (comeA s)) ∧ w = w' := by
  have q4 := h.c 4 (v := .int .i64 s.clock) rfl
  have ha := caddr_any w h hv.phase
  have hb := addrP_bd hv
  have hc := hv.clock
  have e : comeA s = if (decide (0 ≤ addrP s) && decide ((addrP s - s.clock) % 16 = 0)) = true then addrP s else -1 := rfl
  rw [e]
  obtain ⟨c0, c1'⟩ := hc
  obtain ⟨b0, b1, _⟩ := hb
  clear h e hv
  generalize addrP s = a at *
  generalize s.clock = c at *
  by_cases h0 : 0 ≤ a
  · by_cases h1 : (a - c) % 16 = 0
    · have ht : ((a - c).tmod 16 == 0) = true := by have := tmod16_yes (a := a) (b := c) (by omega); simpa [bne] using this
      rw [if_pos (by simp [h0, h1])]
      clear h1
      go_enter Try.func94, Try.ntmps94
      go_wp2_with (go_at_call 123; refine ha.mono ?_; rintro e w' ⟨rfl, rfl⟩)
      go_ret
      exact ⟨rfl, rfl⟩
    · have ht : ((a - c).tmod 16 == 0) = false := by have := tmod16_no (a := a) (b := c) (by omega); simpa [bne] using this
      rw [if_neg (by simp [h1])]
      clear h1
      go_enter Try.func94, Try.ntmps94
      go_wp2_with (go_at_call 123; refine ha.mono ?_; rintro e w' ⟨rfl, rfl⟩)
      go_ret
      exact ⟨rfl, rfl⟩
  · rw [if_neg (by simp [h0])]
    go_enter Try.func94, Try.ntmps94
    go_wp2_with (go_at_call 123; refine ha.mono ?_; rintro e w' ⟨rfl, rfl⟩)
    go_ret
    exact ⟨rfl, rfl⟩
set_option maxHeartbeats 1000000 in
theorem rests_go (w : World) (h : Ctl w nb m g1 c1 tv pv s (ordP s)) (hy : s.why = 0) (hc : s.clock ≠ 1000000000) :
    Calls Try.prog 93 #[.pointer (some ⟨m, 0, none⟩)] w fun e w' => e = .returned (.bool false) ∧ w = w' := by
  have q4 := h.c 4 (v := .int .i64 s.clock) rfl
  have q13 := h.c 13 (v := .int .i64 0) (by rw [← hy]; rfl)
  have hb : (s.clock == 1000000000) = false := by simpa using hc
  clear h hc
  go_enter Try.func93, Try.ntmps93
  go_wp2
  go_ret
  exact ⟨rfl, rfl⟩
set_option maxHeartbeats 1000000 in
theorem rests_end (w : World) (h : Ctl w nb m g1 c1 tv pv s (ordP s)) (hy : s.why ≠ 0) :
    Calls Try.prog 93 #[.pointer (some ⟨m, 0, none⟩)] w fun e w' => e = .returned (.bool true) ∧ w = w' := by
  have q4 := h.c 4 (v := .int .i64 s.clock) rfl
  have q13 := h.c 13 (v := .int .i64 s.why) rfl
  have hb : (s.why == 0) = false := by simpa using hy
  have hb' : (s.why != 0) = true := by simpa using hy
  clear h hy
  go_enter Try.func93, Try.ntmps93
  go_wp2
  go_ret
  exact ⟨rfl, rfl⟩
set_option maxHeartbeats 1000000 in
theorem rests_late (w : World) (h : Ctl w nb m g1 c1 tv pv s (ordP s)) (hy : s.why = 0) (hc : s.clock = 1000000000) :
    Calls Try.prog 93 #[.pointer (some ⟨m, 0, none⟩)] w fun e w' => e = .returned (.bool true) ∧ w.setCell ⟨m, 13, none⟩ (.int .i64 4) = w' := by
  have q4 := h.c 4 (v := .int .i64 1000000000) (by rw [← hc]; rfl)
  have q13 := h.c 13 (v := .int .i64 0) (by rw [← hy]; rfl)
  have f13 := h.f 13
  clear h hc
  go_enter Try.func93, Try.ntmps93
  go_wp2
  go_ret
  exact ⟨rfl, rfl⟩
set_option maxHeartbeats 1000000 in
theorem repl_any (w : World) (h : Ctl w nb m g1 c1 tv pv s (ordP s)) :
    Calls Try.prog 95 #[.pointer (some ⟨m, 0, none⟩)] w fun e w' => e = .returned (.bool (replP s)) ∧ ∃ n, w' = w.drewN n := by
  have q6 := h.c 6 (v := .int .i64 s.phase) rfl
  have q14 := h.c 14 (v := .int .i64 (ordP s).op) rfl
  have e : replP s = (decide (s.phase = 4) || (decide (s.phase = 2) && decide ((ordP s).op ≠ 4))) := rfl
  rw [e]
  clear h e
  generalize s.phase = ph at *
  generalize (ordP s).op = op at *
  by_cases h4 : ph = 4
  · subst h4
    go_enter Try.func95, Try.ntmps95
    go_wp2
    go_ret
    exact ⟨rfl, 0, rfl⟩
  · have e4 : (ph == 4) = false := by simpa using h4
    have e4' : decide (ph = 4) = false := by simpa using h4
    rw [e4']
    by_cases h2 : ph = 2
    · subst h2
      by_cases ho : op = 4
      · subst ho
        go_enter Try.func95, Try.ntmps95
        go_wp2
        go_ret
        exact ⟨rfl, 0, rfl⟩
      · have eo : (op != 4) = true := by simpa using ho
        have eo' : decide (op ≠ 4) = true := by simpa using ho
        rw [eo']
        go_enter Try.func95, Try.ntmps95
        go_wp2
        go_ret
        exact ⟨rfl, 0, rfl⟩
    · have e2 : (ph == 2) = false := by simpa using h2
      have e2' : decide (ph = 2) = false := by simpa using h2
      rw [e2']
      go_enter Try.func95, Try.ntmps95
      go_wp2
      go_ret
      exact ⟨rfl, 0, rfl⟩
set_option maxHeartbeats 2000000 in
theorem finish_any (w : World) (h : Ctl w nb m g1 c1 tv pv s (ordP s)) (hd : 0 ≤ s.done ∧ s.done ≤ 1000000000) :
    Calls Try.prog 139 #[.pointer (some ⟨m, 0, none⟩)] w (PRes nb m g1 c1 tv pv (finishP s) (ordP s) w) := by
  have q17 := h.c 17 (v := .int .i64 (ordP s).nxt) rfl
  have q12 := h.c 12 (v := .int .i64 s.done) rfl
  have q5 := h.c 5 (v := .int .i64 s.at_) rfl
  have q6 := h.c 6 (v := .int .i64 s.phase) rfl
  have f5 := h.f 5
  have f6 := h.f 6
  have f12 := h.f 12
  have H := Lib.hid h
  obtain ⟨d0, d1⟩ := hd
  clear h
  go_enter Try.func139, Try.ntmps139
  go_wp2_with fail
  go_region
  go_wp2_with fail
  go_end0
  exact PRes.drew ⟨rfl, pv, ((H.out.setm 5 _ { s with at_ := (ordP s).nxt } _ rfl rfl rfl rfl).setm 12 _ { s with at_ := (ordP s).nxt, done := s.done + 1 } _ rfl rfl rfl rfl).setm 6 _ _ _ rfl rfl rfl rfl,
    (((Chg.refl _ w).setCell _ (.inl rfl) _).setCell _ (.inl rfl) _).setCell _ (.inl rfl) _, .inl rfl⟩
set_option maxHeartbeats 2000000 in
theorem count_any (x : Int) (w : World) (h : Ctl w nb m g1 c1 tv pv s (ordP s)) (hd : 1 ≤ s.count ∧ s.count ≤ 12) :
    Calls Try.prog 128 #[.pointer (some ⟨m, 0, none⟩), .int .i64 x] w (PRes nb m g1 c1 tv pv (countP s) (ordP s) w) := by
  have q11 := h.c 11 (v := .int .i64 s.count) rfl
  have q6 := h.c 6 (v := .int .i64 s.phase) rfl
  have f11 := h.f 11
  have f6 := h.f 6
  have H := Lib.hid h
  obtain ⟨d0, d1⟩ := hd
  clear h
  by_cases h1 : s.count - 1 = 0
  · have e1 : (s.count - 1 == 0) = true := by simpa using h1
    have e2 : countP s = { s with count := s.count - 1, phase := 4 } := by unfold countP; rw [if_pos h1]
    rw [e2]
    clear h1 e2
    go_enter Try.func128, Try.ntmps128
    go_wp2_with fail
    go_end0
    exact ⟨rfl, pv, (H.out.setm 11 _ { s with count := s.count - 1 } _ rfl rfl rfl rfl).setm 6 _ _ _ rfl rfl rfl rfl, ((Chg.refl _ w).setCell _ (.inl rfl) _).setCell _ (.inl rfl) _, .inl rfl⟩
  · have e1 : (s.count - 1 == 0) = false := by simpa using h1
    have e2 : countP s = { s with count := s.count - 1 } := by unfold countP; rw [if_neg h1]
    rw [e2]
    clear h1 e2
    go_enter Try.func128, Try.ntmps128
    go_wp2_with fail
    go_end0
    exact ⟨rfl, pv, H.out.setm 11 _ { s with count := s.count - 1 } _ rfl rfl rfl rfl, (Chg.refl _ w).setCell _ (.inl rfl) _, .inl rfl⟩
end Go.Proofs.Ytjfggepgjpdebaa
/- Contracts: pulse's control: write, to, from, fetch. -/
namespace Go.Proofs.Ytjfggepgjpdebaa
open Go.RowKit Go.Q
variable {nb m g1 c1 : Nat} {tv pv : Value} {s : Pu}
theorem size_set' (W : World) (p : Addr) (v : Value) : (W.setCell p v).heap.size = W.heap.size := by simp [World.setCell]
set_option maxHeartbeats 400000 in
theorem psigned_any (n : Int) (w : World) (hn : 0 ≤ n ∧ n ≤ 16777215) :
    Calls Try.prog 124 #[.int .i64 n] w fun e w' => e = .returned (.int .i64 (sgn n)) ∧ w = w' := by
  obtain ⟨h0, h1⟩ := hn
  go_enter Try.func124, Try.ntmps124
  go_wp2
  go_ret
  exact ⟨ret_int (by show n - n / 8388608 * 16777216 = sgn n; unfold sgn; split <;> omega), rfl⟩
set_option maxHeartbeats 1000000 in
theorem cwrite_any (x : Int) (w : World) (h : Ctl w nb m g1 c1 tv pv s (ordP s)) (hd : 0 ≤ s.done ∧ s.done ≤ 1000000000) :
    Calls Try.prog 129 #[.pointer (some ⟨m, 0, none⟩), .int .i64 x] w (PRes nb m g1 c1 tv pv (finishP s) (ordP s) w) := by
  have hf := finish_any w h hd
  clear h
  go_enter Try.func129, Try.ntmps129
  go_wp2_with fail
  refine hf.mono ?_
  rintro e w' ⟨rfl, hr⟩
  go_wp2_with fail
  go_end0
  exact ⟨rfl, hr⟩
/-- a change, and then a method that changes -/
theorem PRes.after {s2 : Pu} {o2 : Ord} {w w1 w2 : World} {pv1 : Value} {e : Ending} (hC : Chg (Own3 m g1 pv) w w1) (hp : pv1.ownBlock = pv.ownBlock ∨ ∃ k, pv1.ownBlock = some k ∧ w.heap.size ≤ k)
    (h : PRes nb m g1 c1 tv pv1 s2 o2 w1 e w2) : PRes nb m g1 c1 tv pv s2 o2 w e w2 := by
  obtain ⟨he, pv', hM, hC2, hp2⟩ := h
  refine ⟨he, pv', hM, hC.trans' hC2 (fun i hi hS => ?_), ?_⟩
  · rcases hS with h | h | h
    · exact .inl h
    · exact .inr (.inl h)
    · rcases hp with e | ⟨k, hk, hz⟩
      · exact .inr (.inr (e ▸ h))
      · rw [hk] at h
        have := Option.some.inj h
        omega
  · rcases hp2 with e | ⟨k, hk, hz⟩
    · rcases hp with e' | ⟨k, hk, hz⟩
      · exact .inl (e.trans e')
      · exact .inr ⟨k, e.trans hk, hz⟩
    · exact .inr ⟨k, hk, Nat.le_trans hC.size hz⟩
set_option maxHeartbeats 2000000 in
theorem to_any' (x : Int) (w : World) (h : Ctl w nb m g1 c1 tv pv s (ordP s)) (hv : ValidP s) :
    Calls Try.prog 127 #[.pointer (some ⟨m, 0, none⟩), .int .i64 x] w (PRes nb m g1 c1 tv pv (toP s x) (ordP s) w) := by
  have q14 := h.c 14 (v := .int .i64 (ordP s).op) rfl
  have q9 := h.c 9 (v := .int .i64 s.other) rfl
  have q10 := h.c 10 (v := .int .i64 s.product) rfl
  have q11 := h.c 11 (v := .int .i64 s.count) rfl
  have q6 := h.c 6 (v := .int .i64 s.phase) rfl
  have q2 := h.c 2 (v := .int .i64 s.taken) rfl
  have f9 := h.f 9
  have f10 := h.f 10
  have f11 := h.f 11
  have f6 := h.f 6
  have f2 := h.f 2
  have hd := hv.done
  have hcl := hv.clock
  have ht := hv.taken
  have htl := hv.tlen
  have H := Lib.hid h
  obtain ⟨t0, t1⟩ := ht
  by_cases h4 : (ordP s).op = 4
  · have e2 : toP s x = { s with other := x, product := 0, count := 12, phase := 3 } := by unfold toP; rw [if_pos h4]
    rw [e2]
    rw [h4] at q14
    clear h h4 e2
    go_enter Try.func127, Try.ntmps127
    go_wp2_with fail
    go_end0
    exact ⟨rfl, pv, (((H.out.setm 9 _ { s with other := x } _ rfl rfl rfl rfl).setm 10 _ { s with other := x, product := 0 } _ rfl rfl rfl rfl).setm 11 _ { s with other := x, product := 0, count := 12 } _ rfl rfl rfl rfl).setm 6 _ _ _ rfl rfl rfl rfl,
      ((((Chg.refl _ w).setCell _ (.inl rfl) _).setCell _ (.inl rfl) _).setCell _ (.inl rfl) _).setCell _ (.inl rfl) _, .inl rfl⟩
  · have e4 : ((ordP s).op == 4) = false := by simpa using h4
    by_cases h6 : (ordP s).op = 6
    · have e2 : toP s x = finishP { s with taken := s.taken + 1 } := by unfold toP; rw [if_neg h4, if_pos h6]
      rw [e2]
      rw [h6] at q14
      have hf := fun W (A : Ctl W nb m g1 c1 tv pv { s with taken := s.taken + 1 } (ordP { s with taken := s.taken + 1 })) => finish_any W A ⟨hd.1, by show s.done ≤ _; omega⟩
      clear h h4 h6 e2 e4
      go_enter Try.func127, Try.ntmps127
      go_wp2_with fail
      refine (hf _ (by exact H.out.setm 2 _ _ _ rfl rfl rfl rfl)).mono ?_
      rintro e w' ⟨rfl, hr⟩
      go_wp2_with fail
      go_end0
      exact PRes.after ((Chg.refl _ w).setCell _ (.inl rfl) _) (.inl rfl) ⟨rfl, hr⟩
    · have e6 : ((ordP s).op == 6) = false := by simpa using h6
      have e2 : toP s x = finishP s := by unfold toP; rw [if_neg h4, if_neg h6]
      rw [e2]
      have hf := finish_any w h ⟨hd.1, by omega⟩
      clear h h4 h6 e2
      go_enter Try.func127, Try.ntmps127
      go_wp2_with fail
      refine hf.mono ?_
      rintro e w' ⟨rfl, hr⟩
      go_wp2_with fail
      go_end0
      exact ⟨rfl, hr⟩
set_option maxRecDepth 100000 in
set_option maxHeartbeats 4000000 in
theorem from_any' (x : Int) (w : World) (h : Ctl w nb m g1 c1 tv pv s (ordP s)) (hv : ValidP s) (hw : 0 ≤ x ∧ x ≤ 16777215) (hph : s.phase = 1) :
    Calls Try.prog 126 #[.pointer (some ⟨m, 0, none⟩), .int .i64 x] w (PRes nb m g1 c1 tv pv (fromP s x) (ordP s) w) := by
  have q14 := h.c 14 (v := .int .i64 (ordP s).op) rfl
  have q16 := h.c 16 (v := .int .i64 (ordP s).to) rfl
  have q8 := h.c 8 (v := .int .i64 s.operand) rfl
  have q6 := h.c 6 (v := .int .i64 s.phase) rfl
  have f8 := h.f 8
  have f6 := h.f 6
  have hd := hv.done
  have hcl := hv.clock
  have hpl := hv.plen
  have H := Lib.hid h
  by_cases h7 : (ordP s).op = 7
  · obtain ⟨a3, cp, hpv⟩ := h.paper
    subst hpv
    have e2 : fromP s x = finishP { s with operand := x, printed := s.printed ++ [x] } := by unfold fromP; rw [if_pos h7]
    rw [e2]
    have q3 := h.c 3 (v := .slice a3 s.printed.length cp) rfl
    have f3 := h.f 3
    have hf := fun W pv' (A : Ctl W nb m g1 c1 tv pv' { s with operand := x, printed := s.printed ++ [x] } (ordP s)) => finish_any (s := { s with operand := x, printed := s.printed ++ [x] }) W A ⟨hd.1, by show s.done ≤ _; omega⟩
    obtain ⟨i0, hi, hz0, hz1, hz2⟩ := info_parts Try.infoE
    have H1 := H.out.setm 8 (.int .i64 x) { s with operand := x } (ordP s) rfl rfl rfl rfl
    have hrow := own_alloc (W := (w.setCell ⟨m, 8, none⟩ (.int .i64 x)).alloc (.cells #[.int .i64 x] 3)) H1.prow _ rfl
    have HH := Lib.hid H1
    rw [h7] at q14
    have lm := h.ltm
    have hnb := h.low.1
    have hsz : (w.setCell ⟨m, 8, none⟩ (.int .i64 x)).heap.size = w.heap.size := size_set' w _ _
    clear h h7 e2 H1
    go_enter Try.func126, Try.ntmps126
    go_wp2_with (at_builtin; refine wpList_append_lies _ rfl _ _ _ rfl nb 3 i0 _ 1 8 Try.underlying22 hi hz0 hz1 hz2 rfl (by omega) (.slice a3 s.printed.length cp) s.printed.length (iv s.printed) rfl hrow ⟨w.heap.size, 0, none⟩ 1 1 [.int .i64 x] rfl rfl (World.news_of_block (cs := #[.int .i64 x]) (t := 3) (fr := (0, 0)) (by rw [← hsz]; exact heap_alloc_new _ _)) (iv_one [x]) (by omega) (by unfold maxLen; omega) (by omega) (by simp [hsz]; omega) (w.heap.size + 1) (by simp [hsz]) ?_; intro g cap w2 hown2 hgrow hat hlt; have hm2 := (grown_old (w := w.setCell ⟨m, 8, none⟩ (.int .i64 x)) (ob := .cells #[.int .i64 x] 3) rfl hgrow m (by rw [hsz]; exact lm) HH.out.pm).trans HH.out.blk; have q3b := cell_of_cells hm2 3 (v := .slice a3 s.printed.length cp) rfl; have f3b := free_of_cells hm2 3; have HP := Lib.hid (pdo_print HH.out (.cells #[.int .i64 x] 3) rfl rfl rfl rfl hgrow g _ cap x rfl hown2 (by rw [hsz]; exact hat)); clear hm2 hown2 hgrow hat hlt)
    obtain ⟨_, pv', M2, C2, hp2⟩ := HP.out
    refine (hf _ pv' M2).mono ?_
    rintro e w' ⟨rfl, hr⟩
    go_wp2_with fail
    go_end0
    refine PRes.after (C2.trans' (.refl _ _) (fun _ _ h => h) |> fun c => ((Chg.refl _ w).setCell _ (.inl rfl) _).trans c) ?_ ⟨rfl, hr⟩
    rcases hp2 with e | ⟨k, hk, hz⟩
    · exact .inl e
    · exact .inr ⟨k, hk, by rw [hsz] at hz; exact hz⟩
  · have e7 : ((ordP s).op == 7) = false := by simpa using h7
    by_cases h5 : (ordP s).op = 5
    · rw [h5] at q14
      have hf := fun W (A : Ctl W nb m g1 c1 tv pv { s with operand := x } (ordP s)) => finish_any (s := { s with operand := x }) W A ⟨hd.1, by show s.done ≤ _; omega⟩
      have hsg := fun W => psigned_any x W hw
      by_cases hs : sgn x < 0
      · have e2 : fromP s x = { finishP { s with operand := x } with at_ := (ordP s).to } := by unfold fromP; rw [if_neg h7, if_pos h5, if_pos hs]
        rw [e2]
        clear h h7 h5 e2 e7
        go_enter Try.func126, Try.ntmps126
        go_wp2_with fail
        refine (hf _ (by exact H.out.setm 8 _ _ _ rfl rfl rfl rfl)).mono ?_
        rintro e w' ⟨rfl, pv', M2, C2, hp2⟩
        go_wp2_with fail
        refine (hsg _).mono ?_
        rintro e w'' ⟨rfl, rfl⟩
        have p16 := M2.c 16 (v := .int .i64 (ordP s).to) rfl
        have p5 := M2.c 5 (v := .int .i64 (ordP s).nxt) rfl
        have g5 := M2.f 5
        go_wp2_with fail
        go_end0
        refine PRes.after ((Chg.refl _ w).setCell _ (.inl rfl) _) (.inl rfl) ⟨rfl, pv', M2.setm 5 _ _ _ rfl rfl rfl rfl, C2.setCell _ (.inl rfl) _, hp2⟩
      · have e2 : fromP s x = finishP { s with operand := x } := by unfold fromP finishP; rw [if_neg h7, if_pos h5, if_neg hs]; rfl
        rw [e2]
        clear h h7 h5 e2 e7
        go_enter Try.func126, Try.ntmps126
        go_wp2_with fail
        refine (hf _ (by exact H.out.setm 8 _ _ _ rfl rfl rfl rfl)).mono ?_
        rintro e w' ⟨rfl, hr⟩
        go_wp2_with fail
        refine (hsg _).mono ?_
        rintro e w'' ⟨rfl, rfl⟩
        go_wp2_with fail
        go_end0
        exact PRes.after ((Chg.refl _ w).setCell _ (.inl rfl) _) (.inl rfl) ⟨rfl, hr⟩
    · have e5 : ((ordP s).op == 5) = false := by simpa using h5
      have e2 : fromP s x = { s with operand := x, phase := 2 } := by unfold fromP; rw [if_neg h7, if_neg h5]
      rw [e2]
      clear h h7 h5 e2
      go_enter Try.func126, Try.ntmps126
      go_wp2_with fail
      go_end0
      exact ⟨rfl, pv, (H.out.setm 8 _ { s with operand := x } _ rfl rfl rfl rfl).setm 6 _ _ _ rfl rfl rfl rfl, ((Chg.refl _ w).setCell _ (.inl rfl) _).setCell _ (.inl rfl) _, .inl rfl⟩
end Go.Proofs.Ytjfggepgjpdebaa

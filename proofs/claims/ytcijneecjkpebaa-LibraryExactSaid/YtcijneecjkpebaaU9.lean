import Derived.Test.YtcijneecjkpebaaU7
import Derived.Test.YtcijneecjkpebaaU8
set_option linter.unusedVariables false
set_option linter.unusedSimpArgs false
/- Layer 8: the builder: words and masks that grow side by side in a box. -/
namespace Go.Proofs.Ytcijneecjkpebaa
open Go.RowKit Go.Q
/-- two rows do not lie in one block -/
def Ap2 (u v : Value) : Prop := u.ownBlock = none ∨ u.ownBlock ≠ v.ownBlock
theorem Ap2.symm {u v : Value} (h : Ap2 u v) : Ap2 v u := by
  cases e : v.ownBlock with
  | none => exact .inl e
  | some b =>
    refine .inr ?_
    rw [e]
    rcases h with h | h
    · rw [h]; intro q; cases q
    · intro q; exact h (by rw [e]; exact q.symm)
theorem ap_grow {u v v' : Value} {W W' : World} {B t sz n : Nat} {xs : List Value} (h : Ap2 u v) (hb : ∀ b, u.ownBlock = some b → b < W.heap.size) (hv : W'.ownsRow B t sz v' n xs) (hat : ∀ k, v'.ownBlock = some k → v.ownBlock = some k ∨ W.heap.size ≤ k) : Ap2 u v' := by
  cases e : u.ownBlock with
  | none => exact .inl e
  | some b =>
    refine .inr ?_
    rw [e]
    intro q
    rcases hat b q.symm with h1 | h1
    · rcases h with h | h
      · rw [h] at e; cases e
      · exact h (by rw [e, h1])
    · have := hb b e
      omega
/-- the builder at b: its words and masks (in blocks from B on), exit, result, arguments, and its map -/
structure Bd (W : World) (B b : Nat) (ws ms ar : List Int) (ex re : Int) (v1 v2 v3 mv : Value) : Prop where
  blk : Blk W b #[v1, v2, .int .i64 0, .int .i64 ex, .int .i64 re, v3, mv] 91
  r1 : W.ownsRow B 3 1 v1 ws.length (iv ws)
  r2 : W.ownsRow B 3 1 v2 ms.length (iv ms)
  r3 : W.ownsRow B 3 1 v3 ar.length (iv ar)
  n1 : v1.ownBlock ≠ some b
  n2 : v2.ownBlock ≠ some b
  n3 : v3.ownBlock ≠ some b
  a12 : Ap2 v1 v2
  a13 : Ap2 v1 v3
  a23 : Ap2 v2 v3
theorem Bd.ext {W W' : World} {B b : Nat} {ws ms ar : List Int} {ex re : Int} {v1 v2 v3 mv : Value} (h : Bd W B b ws ms ar ex re v1 v2 v3 mv) (E : Ext W W') : Bd W' B b ws ms ar ex re v1 v2 v3 mv :=
  ⟨h.blk.ex E, own_extX h.r1 E, own_extX h.r2 E, own_extX h.r3 E, h.n1, h.n2, h.n3, h.a12, h.a13, h.a23⟩
/-- blocks of the builder: what a change of it may turn -/
def BdM (b : Nat) (v1 v2 v3 : Value) (k : Nat) : Prop := k = b ∨ v1.ownBlock = some k ∨ v2.ownBlock = some k ∨ v3.ownBlock = some k
theorem KpM.grown {M : Nat → Prop} {A B : World} {r : Option Nat} (h : A.grownBy B r) (hM : ∀ k, r = some k → M k) : KpM M A B := ⟨h.size, fun b hb hn => h.block b hb (fun e => hn (hM b e.symm)), h.os, h.tape, h.output⟩
theorem KpM.set {M : Nat → Prop} {A : World} {p : Addr} (hM : M p.block) (v : Value) : KpM M A (A.setCell p v) :=
  ⟨by rw [World.size_setCell]; exact Nat.le_refl _, fun b _ hn => Below.heap_setCell _ _ _ _ (fun e => hn (by rw [e]; exact hM)), rfl, rfl, rfl⟩
theorem own_kpm {M : Nat → Prop} {w w' : World} {nb n : Nat} {v : Value} {xs : List Value} {t : TypeId} {z : Nat} (h : w.ownsRow nb t z v n xs) (K : KpM M w w') (hM : ∀ b, v.ownBlock = some b → ¬ M b) : w'.ownsRow nb t z v n xs := by
  refine ⟨h.1, ?_⟩
  rcases h.2 with h2 | ⟨g, cap, cur, rfl, hg, hh, r⟩
  · exact .inl h2
  · exact .inr ⟨g, cap, cur, rfl, hg, (K.block g (lt_of_block hh) (hM g rfl)).trans hh, r⟩
theorem Blk.kpm {M : Nat → Prop} {W W' : World} {b : Nat} {cs : Array Value} {T : TypeId} (h : Blk W b cs T) (K : KpM M W W') (hM : ¬ M b) : Blk W' b cs T := (K.block b h.lt hM).trans h
section
variable {P : Program} {w : World}
/-- append to a row of the call's own: what comes, and where it lies -/
theorem run_app2 (t ty e : TypeId) (i : TypeInfo) (z : Value) (sz bytes : Nat) (ht : P.underlying t = some (.slice e)) (hi : P.info? e = some i) (hz : i.zero = some z) (hs : i.size = sz) (hb : i.bytes = bytes) (hzs : z.cells.size = sz) (hsz : 0 < sz)
    (v : Value) (n B : Nat) (xs : List Value) (hown : w.ownsRow B e sz v n xs) (hB1 : B ≤ w.heap.size)
    (a : Option Addr) (m c : Nat) (news : List Value) (hl : news.length = m * sz) (hf : From w a news) (h1 : ∀ u ∈ news, u.oneCell' = true) (h63 : n + m ≤ maxLen) (hbytes : (n + m) * bytes ≤ 140737488355328) :
    ∃ (v' : Value) (w' : World), (Builtin.append_ #[t, t] ty #[v, .slice a m c]).run P w = .ok v' w' ∧ w'.ownsRow B e sz v' (n + m) (xs ++ news) ∧ w.grownBy w' v.ownBlock ∧ (v'.ownBlock = v.ownBlock ∨ v'.ownBlock = some w.heap.size) := by
  cases a with
  | none =>
    have hn : news = [] := by
      rcases hf with h | ⟨ad, h, _⟩
      · exact h
      · cases h
    subst hn
    have hm : m = 0 := by
      rcases Nat.eq_zero_or_pos m with h | h
      · exact h
      · have : 0 < m * sz := Nat.mul_pos h hsz
        simp at hl; omega
    subst hm
    exact ⟨v, w, run_app_nil t ty e ht hi hown c, by simpa using hown, World.grownBy.refl w _, .inl rfl⟩
  | some ad =>
    have hc : ∀ j u, news[j]? = some u → w.cell? (ad.add j) = some u := by
      rcases hf with h | ⟨ad', h, hc⟩
      · subst h; intro j u hu; simp at hu
      · cases h; exact hc
    obtain ⟨v', w', hr, h2, h3, _, h5⟩ := run_append_own_at (P := P) w B t ty e i z sz bytes ht hi hz hs hb hzs hsz v n xs hown ad m c news hl hc h1 h63 hbytes hB1
    exact ⟨v', w', hr, h2, h3, h5⟩
theorem wp_app2 {o : Oper} {act : Act} {K : Act → World → Prop} {Q : Exit → Act → World → Prop} (s x : Operand) (t : TypeId)
    (ho : o.op = .call { callee := .builtin .append, args := #[s, x], argTypes := #[t, t] })
    (e : TypeId) (i : TypeInfo) (z : Value) (sz bytes : Nat) (ht : P.underlying t = some (.slice e)) (hi : P.info? e = some i) (hz : i.zero = some z) (hs : i.size = sz) (hb : i.bytes = bytes) (hzs : z.cells.size = sz) (hsz : 0 < sz)
    (v : Value) (n B : Nat) (xs : List Value) (he : act.eval s = v) (hown : w.ownsRow B e sz v n xs) (hB1 : B ≤ w.heap.size)
    (a : Option Addr) (m c : Nat) (news : List Value) (hx : act.eval x = .slice a m c) (hl : news.length = m * sz) (hf : From w a news) (h1 : ∀ u ∈ news, u.oneCell' = true) (h63 : n + m ≤ maxLen) (hbytes : (n + m) * bytes ≤ 140737488355328)
    (h : ∀ (v' : Value) (w' : World), w'.ownsRow B e sz v' (n + m) (xs ++ news) → w.grownBy w' v.ownBlock → (v'.ownBlock = v.ownBlock ∨ v'.ownBlock = some w.heap.size) → K (act.put o.dst v') w') : o.wp P act w K Q := by
  obtain ⟨v', w', hr, h2, h3, h4⟩ := run_app2 (P := P) t o.type e i z sz bytes ht hi hz hs hb hzs hsz v n B xs hown hB1 a m c news hl hf h1 h63 hbytes
  have hk := h v' w' h2 h3 h4
  unfold Oper.wp execOp
  simp only [ho, resolve, invoke, builtin, Sem.run_bind, Sem.run_pure, Result.andThen_ok, List.map_toArray, List.map_cons, List.map_nil, he, hx, hr]
  exact hk
theorem wpList_app2 {ops : Array Oper} {rest : List Oper} {o : Oper} {act : Act} {Q : Exit → Act → World → Prop} (hgd : o.guard = none) (s x : Operand) (t : TypeId)
    (ho : o.op = .call { callee := .builtin .append, args := #[s, x], argTypes := #[t, t] })
    (e : TypeId) (i : TypeInfo) (z : Value) (sz bytes : Nat) (ht : P.underlying t = some (.slice e)) (hi : P.info? e = some i) (hz : i.zero = some z) (hs : i.size = sz) (hb : i.bytes = bytes) (hzs : z.cells.size = sz) (hsz : 0 < sz)
    (v : Value) (n B : Nat) (xs : List Value) (he : act.eval s = v) (hown : w.ownsRow B e sz v n xs) (hB1 : B ≤ w.heap.size)
    (a : Option Addr) (m c : Nat) (news : List Value) (hx : act.eval x = .slice a m c) (hl : news.length = m * sz) (hf : From w a news) (h1 : ∀ u ∈ news, u.oneCell' = true) (h63 : n + m ≤ maxLen) (hbytes : (n + m) * bytes ≤ 140737488355328)
    (h : ∀ (v' : Value) (w' : World), w'.ownsRow B e sz v' (n + m) (xs ++ news) → w.grownBy w' v.ownBlock → (v'.ownBlock = v.ownBlock ∨ v'.ownBlock = some w.heap.size) → wpList P ops Q rest (act.put o.dst v') w') : wpList P ops Q (o :: rest) act w :=
  wpList_plain hgd fun _ hK => wp_app2 s x t ho e i z sz bytes ht hi hz hs hb hzs hsz v n B xs he hown hB1 a m c news hx hl hf h1 h63 hbytes fun v' w' h2 h3 h4 => hK _ _ (h v' w' h2 h3 h4)
theorem step_app2 {ops : Array Oper} {o : Oper} {act : Act} {K : Act → World → Prop} {Q : Exit → Act → World → Prop} {E : Prop} (hgd : o.guard = none) (s x : Operand) (t : TypeId)
    (ho : o.op = .call { callee := .builtin .append, args := #[s, x], argTypes := #[t, t] })
    (e : TypeId) (i : TypeInfo) (z : Value) (sz bytes : Nat) (ht : P.underlying t = some (.slice e)) (hi : P.info? e = some i) (hz : i.zero = some z) (hs : i.size = sz) (hb : i.bytes = bytes) (hzs : z.cells.size = sz) (hsz : 0 < sz)
    (v : Value) (n B : Nat) (xs : List Value) (he : act.eval s = v) (hown : w.ownsRow B e sz v n xs) (hB1 : B ≤ w.heap.size)
    (a : Option Addr) (m c : Nat) (news : List Value) (hx : act.eval x = .slice a m c) (hl : news.length = m * sz) (hf : From w a news) (h1 : ∀ u ∈ news, u.oneCell' = true) (h63 : n + m ≤ maxLen) (hbytes : (n + m) * bytes ≤ 140737488355328)
    (h : ∀ (v' : Value) (w' : World), w'.ownsRow B e sz v' (n + m) (xs ++ news) → w.grownBy w' v.ownBlock → (v'.ownBlock = v.ownBlock ∨ v'.ownBlock = some w.heap.size) → K (act.put o.dst v') w') :
    if Region.wanted o (yielded ops act.tmps) = true then Oper.wp P o act w K Q else E := by
  rw [if_pos (by simp [Region.wanted, hgd])]
  exact wp_app2 s x t ho e i z sz bytes ht hi hz hs hb hzs hsz v n B xs he hown hB1 a m c news hx hl hf h1 h63 hbytes h
end
/-- what put leaves -/
def PutRes (B b : Nat) (ws ms ar : List Int) (ex re : Int) (v1 v2 v3 mv : Value) (z mk : Int) (w : World) (e : Ending) (w' : World) : Prop :=
  e = .returned (.tuple #[]) ∧ ∃ v1' v2', Bd w' B b (ws ++ [z]) (ms ++ [mk]) ar ex re v1' v2' v3 mv ∧ KpM (BdM b v1 v2 v3) w w' ∧ (∀ k, v1'.ownBlock = some k → v1.ownBlock = some k ∨ w.heap.size ≤ k) ∧ (∀ k, v2'.ownBlock = some k → v2.ownBlock = some k ∨ w.heap.size ≤ k)
theorem ext_at {a X W : World} {r : Option Nat} (_ : X.grownBy W r) (E : Ext a X) : Ext a X := E
theorem ext_size {a b : World} (E : Ext a b) : a.heap.size ≤ b.heap.size := E.size
theorem from_oneE {w W : World} {z : Int} {t : TypeId} (E : Ext (w.alloc (.cells #[.int .i64 z] t)) W) : From W (some ⟨w.heap.size, 0, none⟩) (iv [z]) := by
  refine .inr ⟨_, rfl, fun i u hu => ?_⟩
  have hn := Blk.of E
  rw [Addr.add_lit]
  simp only [Nat.zero_add]
  exact hn.c i (by rw [← hu]; simp [iv])
theorem from_oneN {w W : World} {z : Int} {t : TypeId} {n : Nat} (hn : w.heap.size = n) (E : Ext (w.alloc (.cells #[.int .i64 z] t)) W) : From W (some ⟨n, 0, none⟩) (iv [z]) := by
  subst hn
  exact from_oneE E
theorem from_kept {w w' : World} {r : Option Nat} {k : Nat} {nw : List Value} (h : From w (some ⟨k, 0, none⟩) nw) (hg : w.grownBy w' r) (hne : some k ≠ r) : From w' (some ⟨k, 0, none⟩) nw := by
  rcases h with h | ⟨ad, e, hc⟩
  · exact .inl h
  · cases e
    refine .inr ⟨_, rfl, fun j u hu => hg.cell (hc j u hu) ?_⟩
    rw [Addr.add_lit]
    exact hne
theorem own_set {w : World} {nb n : Nat} {v : Value} {xs : List Value} {t : TypeId} {z : Nat} {p : Addr} (h : w.ownsRow nb t z v n xs) (hp : v.ownBlock ≠ some p.block) (u : Value) : (w.setCell p u).ownsRow nb t z v n xs :=
  own_kpm (M := fun k => k = p.block) h (KpM.set (M := fun k => k = p.block) rfl u) fun b hb e => hp (by rw [hb, e])
theorem own_grown {w w' : World} {r : Option Nat} {nb n : Nat} {v : Value} {xs : List Value} {t : TypeId} {z : Nat} (h : w.ownsRow nb t z v n xs) (hg : w.grownBy w' r) (hne : v.ownBlock = none ∨ v.ownBlock ≠ r) : w'.ownsRow nb t z v n xs := h.kept hg hne
theorem put_fin {w w1 WA' WA WB' WB : World} {B b : Nat} {ws ms ar : List Int} {ex re z mk : Int} {v1 v2 v3 mv vA vB : Value} (H : Bd w1 B b ws ms ar ex re v1 v2 v3 mv) (E0 : Ext w w1)
    (EA : Ext w1 WA') (hoA : WA.ownsRow B 3 1 vA (ws.length + 1) (iv ws ++ iv [z])) (hgA : WA'.grownBy WA v1.ownBlock) (haA : vA.ownBlock = v1.ownBlock ∨ vA.ownBlock = some WA'.heap.size)
    (EB : Ext WA WB') (hoB : WB.ownsRow B 3 1 vB (ms.length + 1) (iv ms ++ iv [mk])) (hgB : WB'.grownBy WB v2.ownBlock) (haB : vB.ownBlock = v2.ownBlock ∨ vB.ownBlock = some WB'.heap.size) :
    ∃ v1' v2', Bd ((WB.setCell ⟨b, 0, none⟩ vA).setCell ⟨b, 1, none⟩ vB) B b (ws ++ [z]) (ms ++ [mk]) ar ex re v1' v2' v3 mv ∧ KpM (BdM b v1 v2 v3) w ((WB.setCell ⟨b, 0, none⟩ vA).setCell ⟨b, 1, none⟩ vB) ∧ (∀ k, v1'.ownBlock = some k → v1.ownBlock = some k ∨ w.heap.size ≤ k) ∧ (∀ k, v2'.ownBlock = some k → v2.ownBlock = some k ∨ w.heap.size ≤ k) := by
  have s0 := E0.size
  have sA := EA.size
  have sA2 := hgA.size
  have sB := EB.size
  have hb := H.blk.lt
  have l1 : ∀ k, v1.ownBlock = some k → k < w1.heap.size := fun k hk => (H.r1.lt k hk).2
  have l2 : ∀ k, v2.ownBlock = some k → k < w1.heap.size := fun k hk => (H.r2.lt k hk).2
  have l3 : ∀ k, v3.ownBlock = some k → k < w1.heap.size := fun k hk => (H.r3.lt k hk).2
  have nA : vA.ownBlock ≠ some b := by
    rcases haA with h | h <;> rw [h]
    · exact H.n1
    · intro e; injection e; omega
  have nB : vB.ownBlock ≠ some b := by
    rcases haB with h | h <;> rw [h]
    · exact H.n2
    · intro e; injection e; omega
  have nA2 : vA.ownBlock = none ∨ vA.ownBlock ≠ v2.ownBlock := by
    rcases haA with h | h <;> rw [h]
    · exact H.a12
    · refine .inr fun e => ?_
      have := l2 _ e.symm
      omega
  have ap3 : ∀ u : Value, (∀ k, u.ownBlock = some k → k < w1.heap.size) → Ap2 v1 u → Ap2 vA u := fun u hu h => by
    unfold Ap2 at *
    rcases haA with e | e <;> rw [e]
    · exact h
    · refine .inr fun q => ?_
      have := hu _ q.symm
      omega
  have ap4 : ∀ u : Value, (∀ k, u.ownBlock = some k → k < WB'.heap.size) → Ap2 v2 u → Ap2 vB u := fun u hu h => by
    unfold Ap2 at *
    rcases haB with e | e <;> rw [e]
    · exact h
    · refine .inr fun q => ?_
      have := hu _ q.symm
      omega
  have lA : ∀ k, vA.ownBlock = some k → k < WB'.heap.size := fun k hk => by have := (hoA.lt k hk).2; omega
  have b0 : Blk WA b #[v1, v2, .int .i64 0, .int .i64 ex, .int .i64 re, v3, mv] 91 := (hgA.block b (by omega) (fun e => H.n1 e.symm)).trans (H.blk.ex EA)
  have b1 : Blk WB b #[v1, v2, .int .i64 0, .int .i64 ex, .int .i64 re, v3, mv] 91 := (hgB.block b (by omega) (fun e => H.n2 e.symm)).trans (b0.ex EB)
  have b2 := (b1.st 0 vA).st 1 vB
  have rA := own_grown (own_extX hoA EB) hgB nA2
  have r3 := own_grown (own_extX (own_grown (own_extX H.r3 EA) hgA H.a13.symm) EB) hgB H.a23.symm
  refine ⟨vA, vB, ⟨b2, ?_, ?_, ?_, nA, nB, H.n3, ?_, ap3 v3 l3 H.a13, ap4 v3 (fun k hk => by have := l3 k hk; omega) H.a23⟩, ?_, fun k hk => ?_, fun k hk => ?_⟩
  · rw [List.length_append, ← iv_app]
    exact own_set (own_set rA nA vA) nA vB
  · rw [List.length_append, ← iv_app]
    exact own_set (own_set hoB nB vA) nB vB
  · exact own_set (own_set r3 H.n3 vA) H.n3 vB
  · exact (ap4 vA lA (Ap2.symm (show Ap2 vA v2 from nA2))).symm
  · exact (((((KpM.of_ext (E0.comp EA)).trans (KpM.grown hgA fun k hk => .inr (.inl hk))).trans (KpM.of_ext EB)).trans (KpM.grown hgB fun k hk => .inr (.inr (.inl hk)))).trans (KpM.set (.inl rfl) _)).trans (KpM.set (.inl rfl) _)
  · rcases haA with h | h
    · exact .inl (by rw [← h]; exact hk)
    · rw [h] at hk; injection hk; exact .inr (by omega)
  · rcases haB with h | h
    · exact .inl (by rw [← h]; exact hk)
    · rw [h] at hk; injection hk; exact .inr (by omega)
theorem keepA {w1 X WA : World} {B b : Nat} {ws ms ar : List Int} {ex re : Int} {v1 v2 v3 mv : Value} (H : Bd w1 B b ws ms ar ex re v1 v2 v3 mv) (E : Ext w1 X) (hg : X.grownBy WA v1.ownBlock) :
    w1.heap.size ≤ WA.heap.size ∧ (∀ W, Ext WA W → W.ownsRow B 3 1 v2 ms.length (iv ms)) ∧ Blk WA b #[v1, v2, .int .i64 0, .int .i64 ex, .int .i64 re, v3, mv] 91 :=
  ⟨Nat.le_trans E.size hg.size, fun _ E2 => own_extX (own_grown (own_extX H.r2 E) hg H.a12.symm) E2, (hg.block b (Nat.lt_of_lt_of_le H.blk.lt E.size) (fun e => H.n1 e.symm)).trans (H.blk.ex E)⟩
theorem keepB {w1 WA X WB : World} {B b : Nat} {ws ms ar : List Int} {ex re : Int} {v1 v2 v3 mv : Value} (H : Bd w1 B b ws ms ar ex re v1 v2 v3 mv) (hb : Blk WA b #[v1, v2, .int .i64 0, .int .i64 ex, .int .i64 re, v3, mv] 91) (E : Ext WA X) (hg : X.grownBy WB v2.ownBlock) :
    WB.cell? ⟨b, 0, none⟩ = some v1 ∧ WB.cell? ⟨b, 1, none⟩ = some v2 ∧ WB.frozen? ⟨b, 0, none⟩ = false ∧ WB.frozen? ⟨b, 1, none⟩ = false := by
  have h : Blk WB b #[v1, v2, .int .i64 0, .int .i64 ex, .int .i64 re, v3, mv] 91 := (hg.block b (Nat.lt_of_lt_of_le hb.lt E.size) (fun e => H.n2 e.symm)).trans (hb.ex E)
  exact ⟨h.c 0 rfl, h.c 1 rfl, h.f 0, h.f 1⟩
set_option maxRecDepth 100000 in
set_option maxHeartbeats 8000000 in
theorem lb_put (B b : Nat) (ws ms ar : List Int) (ex re : Int) (v1 v2 v3 mv : Value) (op fm tm nx mask : Int) (w : World) (h : Bd w B b ws ms ar ex re v1 v2 v3 mv) (hB : B ≤ w.heap.size) (hl1 : ws.length ≤ 400) (hl2 : ms.length ≤ 400) (ho : ordB ⟨op, fm, tm, nx⟩ = true) :
    Calls Try.prog 69 #[.pointer (some ⟨b, 0, none⟩), .agg #[.int .i64 op, .int .i64 fm, .int .i64 tm, .int .i64 nx], .int .i64 mask] w (PutRes B b ws ms ar ex re v1 v2 v3 mv (Q.written ⟨op, fm, tm, nx⟩) mask w) := by
  have he := fun W => lb_enc ho W
  obtain ⟨z, hz⟩ : ∃ z, Q.written ⟨op, fm, tm, nx⟩ = z := ⟨_, rfl⟩
  rw [hz] at he ⊢
  obtain ⟨x1, c1, e1⟩ := own_slice h.r1
  obtain ⟨x2, c2, e2⟩ := own_slice h.r2
  subst e1
  subst e2
  obtain ⟨i0, hi0, hz0, hz1, hz2⟩ := info_parts Try.infoE
  clear hz ho
  unfold PutRes
  obtain ⟨P, hP⟩ : ∃ P : World → Prop, P = fun w' => ∃ v1' v2', Bd w' B b (ws ++ [z]) (ms ++ [mask]) ar ex re v1' v2' v3 mv ∧ KpM (BdM b (.slice x1 ws.length c1) (.slice x2 ms.length c2) v3) w w' ∧ (∀ k, v1'.ownBlock = some k → (Value.slice x1 ws.length c1).ownBlock = some k ∨ w.heap.size ≤ k) ∧ (∀ k, v2'.ownBlock = some k → (Value.slice x2 ms.length c2).ownBlock = some k ∨ w.heap.size ≤ k) := ⟨_, rfl⟩
  have HP := Lib.hid (show ∀ w', (∃ v1' v2', Bd w' B b (ws ++ [z]) (ms ++ [mask]) ar ex re v1' v2' v3 mv ∧ KpM (BdM b (.slice x1 ws.length c1) (.slice x2 ms.length c2) v3) w w' ∧ (∀ k, v1'.ownBlock = some k → (Value.slice x1 ws.length c1).ownBlock = some k ∨ w.heap.size ≤ k) ∧ (∀ k, v2'.ownBlock = some k → (Value.slice x2 ms.length c2).ownBlock = some k ∨ w.heap.size ≤ k)) → P w' from fun w' h => by rw [hP]; exact h)
  suffices hs : Calls Try.prog 69 #[.pointer (some ⟨b, 0, none⟩), .agg #[.int .i64 op, .int .i64 fm, .int .i64 tm, .int .i64 nx], .int .i64 mask] w (fun e w' => e = .returned (.tuple #[]) ∧ P w') by
    rw [hP] at hs
    exact hs
  clear hP
  go_enter Try.func69, Try.ntmps69
  go_wp2_with fail
  refine (he _).mono ?_
  rintro e w1 ⟨rfl, E1⟩
  go_upto_region 2 with fail
  have H := h.ext E1.old
  have E0 : Ext w w1 := E1.old
  have hB1 : B ≤ w1.heap.size := Nat.le_trans hB E0.size
  clear he h
  have hlt := H.blk.lt
  have HL1 := Lib.hid (show ∀ k, (Value.slice x1 ws.length c1).ownBlock = some k → k < w1.heap.size from fun k hk => (H.r1.lt k hk).2)
  have HH := Lib.hid H
  have O1 := Lib.hid (show ∀ W, Ext w1 W → W.ownsRow B 3 1 (.slice x1 ws.length c1) ws.length (iv ws) from fun W E => own_extX H.r1 E)
  have HE0 := Lib.hid E0
  have HN := Lib.hid (And.intro H.n1 H.n2)
  have hblk : Blk w1.drew b #[.slice x1 ws.length c1, .slice x2 ms.length c2, .int .i64 0, .int .i64 ex, .int .i64 re, v3, mv] 91 := H.blk.dr
  have hE : Ext w1 w1.drew := (Ext.refl w1).drew
  clear H E1 E0
  refine wp_region_P (fun i => i == 21 || i == 25) (fun W => Blk W b #[.slice x1 ws.length c1, .slice x2 ms.length c2, .int .i64 0, .int .i64 ex, .int .i64 re, v3, mv] 91) (by kernel_rfl) hblk fun hSX => ?_
  generalize w1.drew = Y at *
  refine tkPP 0 ⟨_, _, _, _, _, _⟩ ?_ rfl (by kernel_rfl) (fun _ _ _ h => h) (Or.inl ⟨by rfl, ?_⟩) ?_
  rotate_left
  · intro wX _
    go_simp
    (try with_reducible rfl)
  (try simp only [Act.put, List.setIfInBounds_toArray, List.set_cons_succ, List.set_cons_zero])
  refine tkPP 1 ⟨_, _, _, _, _, _⟩ ?_ rfl (by kernel_rfl) (fun _ _ _ h => h) (Or.inl ⟨by rfl, ?_⟩) ?_
  rotate_left
  · intro wX _
    go_simp
    (try with_reducible rfl)
  (try simp only [Act.put, List.setIfInBounds_toArray, List.set_cons_succ, List.set_cons_zero])
  refine tkPP 2 ⟨_, _, _, _, _, _⟩ ?_ rfl (by kernel_rfl) (fun _ _ _ h => h) (Or.inl ⟨by rfl, ?_⟩) ?_
  rotate_left
  · intro wX _
    go_simp
    (try with_reducible rfl)
  (try simp only [Act.put, List.setIfInBounds_toArray, List.set_cons_succ, List.set_cons_zero])
  refine tkPP 3 ⟨_, _, _, _, _, _⟩ ?_ rfl (by kernel_rfl) (fun _ _ _ h => h) (Or.inl ⟨by rfl, ?_⟩) ?_
  rotate_left
  · intro wX _
    go_simp
    (try with_reducible rfl)
  (try simp only [Act.put, List.setIfInBounds_toArray, List.set_cons_succ, List.set_cons_zero])
  refine tkPP 4 ⟨_, _, _, _, _, _⟩ ?_ rfl (by kernel_rfl) (fun _ _ _ h => h) (Or.inl ⟨by rfl, ?_⟩) ?_
  rotate_left
  · intro wX _
    go_simp
    (try with_reducible rfl)
  (try simp only [Act.put, List.setIfInBounds_toArray, List.set_cons_succ, List.set_cons_zero])
  refine tkPP 5 ⟨_, _, _, _, _, _⟩ ?_ rfl (by kernel_rfl) (fun _ _ _ h => h) (Or.inl ⟨by rfl, ?_⟩) ?_
  rotate_left
  · intro wX _
    go_simp
    (try with_reducible rfl)
  (try simp only [Act.put, List.setIfInBounds_toArray, List.set_cons_succ, List.set_cons_zero])
  refine tkP 6 ⟨_, _, _, _, _, _⟩ ?_ rfl (by kernel_rfl) (fun _ _ _ h => h) (Or.inl ⟨by rfl, ?_⟩) hSX ?_
  rotate_left
  · intro wX hS
    have hq := Blk.c hS 0 (v := .slice x1 ws.length c1) rfl
    go_simp
    (try with_reducible rfl)
  (try simp only [Act.put, List.setIfInBounds_toArray, List.set_cons_succ, List.set_cons_zero])
  refine tkPP 7 ⟨_, _, _, _, _, _⟩ ?_ rfl (by kernel_rfl) (fun _ _ _ h => h) (Or.inl ⟨by rfl, ?_⟩) ?_
  rotate_left
  · intro wX _
    go_simp
    (try with_reducible rfl)
  (try simp only [Act.put, List.setIfInBounds_toArray, List.set_cons_succ, List.set_cons_zero])
  refine tkPP 10 ⟨_, _, _, _, _, _⟩ ?_ rfl (by kernel_rfl) (fun _ _ _ h => h) (Or.inl ⟨by rfl, ?_⟩) ?_
  rotate_left
  · intro wX _
    go_simp
    (try with_reducible rfl)
  (try simp only [Act.put, List.setIfInBounds_toArray, List.set_cons_succ, List.set_cons_zero])
  refine tkPP 11 ⟨_, _, _, _, _, _⟩ ?_ rfl (by kernel_rfl) (fun _ _ _ h => h) (Or.inl ⟨by rfl, ?_⟩) ?_
  rotate_left
  · intro wX _
    go_simp
    (try with_reducible rfl)
  (try simp only [Act.put, List.setIfInBounds_toArray, List.set_cons_succ, List.set_cons_zero])
  refine tkPP 12 ⟨_, _, _, _, _, _⟩ ?_ rfl (by kernel_rfl) (fun _ _ _ h => h) (Or.inl ⟨by rfl, ?_⟩) ?_
  rotate_left
  · intro wX _
    go_simp
    (try with_reducible rfl)
  (try simp only [Act.put, List.setIfInBounds_toArray, List.set_cons_succ, List.set_cons_zero])
  refine tkPP 13 ⟨_, _, _, _, _, _⟩ ?_ rfl (by kernel_rfl) (fun _ _ _ h => h) (Or.inl ⟨by rfl, ?_⟩) ?_
  rotate_left
  · intro wX _
    go_simp
    (try with_reducible rfl)
  (try simp only [Act.put, List.setIfInBounds_toArray, List.set_cons_succ, List.set_cons_zero])
  refine tkP 14 ⟨_, _, _, _, _, _⟩ ?_ rfl (by kernel_rfl) (fun _ _ _ h => h) (Or.inl ⟨by rfl, ?_⟩) hSX ?_
  rotate_left
  · intro wX hS
    have hq := Blk.c hS 1 (v := .slice x2 ms.length c2) rfl
    go_simp
    (try with_reducible rfl)
  (try simp only [Act.put, List.setIfInBounds_toArray, List.set_cons_succ, List.set_cons_zero])
  refine tkPP 15 ⟨_, _, _, _, _, _⟩ ?_ rfl (by kernel_rfl) (fun _ _ _ h => h) (Or.inl ⟨by rfl, ?_⟩) ?_
  rotate_left
  · intro wX _
    go_simp
    (try with_reducible rfl)
  (try simp only [Act.put, List.setIfInBounds_toArray, List.set_cons_succ, List.set_cons_zero])
  refine wpAnyP_two (i := 8) (j := 16) (oi := ⟨_, _, _, _, _, _⟩) (oj := ⟨_, _, _, _, _, _⟩) (by kernel_rfl) rfl rfl ?_ ?_ <;> intro K hK
  · skip
    go_simp
    refine hK _ _ (.inr fun h => h.al _) ?_
    clear hK
    refine wpAnyP_two (i := 9) (j := 16) (oi := ⟨_, _, _, _, _, _⟩) (oj := ⟨_, _, _, _, _, _⟩) (by kernel_rfl) rfl rfl ?_ ?_ <;> intro K hK
    · skip
      refine step_app2 (by rfl) _ _ _ (by rfl) 3 i0 (.int .i64 0) 1 8 Try.underlying22 hi0 hz0 hz1 hz2 rfl (by omega) (.slice x1 ws.length c1) ws.length B (iv ws) (by rfl) (O1.out _ (by repeat (first | with_reducible exact hE | with_reducible exact Ext.refl _ | with_reducible refine Ext.alloc ?_ _))) (Nat.le_trans hB1 (ext_size (by repeat (first | with_reducible exact hE | with_reducible exact Ext.refl _ | with_reducible refine Ext.alloc ?_ _)))) (some ⟨Y.heap.size, 0, none⟩) 1 1 (iv [z]) (by rfl) rfl (from_oneN (w := Y) rfl (by repeat (first | with_reducible exact hE | with_reducible exact Ext.refl _ | with_reducible refine Ext.alloc ?_ _))) (iv_one [z]) (by unfold maxLen; omega) (by omega) ?_
      intro vA WA hoA hgA haA
      obtain ⟨yA, dA, rfl⟩ := own_slice hoA
      have EA : Ext w1 _ := ext_at hgA (by repeat (first | with_reducible exact hE | with_reducible exact Ext.refl _ | with_reducible refine Ext.alloc ?_ _))
      have KA := keepA HH.out EA hgA
      refine hK _ _ (.inr fun h => (hgA.block b h.lt (fun e => HN.out.1 e.symm)).trans h) ?_
      clear hK
      refine wpAnyP_one (i := 16) (o := ⟨_, _, _, _, _, _⟩) (by kernel_rfl) rfl ?_ <;> intro K hK
      go_simp
      refine hK _ _ (.inr fun h => h.al _) ?_
      clear hK
      refine wpAnyP_one (i := 17) (o := ⟨_, _, _, _, _, _⟩) (by kernel_rfl) rfl ?_ <;> intro K hK
      refine step_app2 (by rfl) _ _ _ (by rfl) 3 i0 (.int .i64 0) 1 8 Try.underlying22 hi0 hz0 hz1 hz2 rfl (by omega) (.slice x2 ms.length c2) ms.length B (iv ms) (by rfl) (KA.2.1 _ (by repeat (first | with_reducible exact hE | with_reducible exact Ext.refl _ | with_reducible refine Ext.alloc ?_ _))) (Nat.le_trans hB1 (Nat.le_trans KA.1 (ext_size (by repeat (first | with_reducible exact hE | with_reducible exact Ext.refl _ | with_reducible refine Ext.alloc ?_ _))))) (some ⟨WA.heap.size, 0, none⟩) 1 1 (iv [mask]) (by rfl) rfl (from_oneN (w := WA) rfl (by repeat (first | with_reducible exact hE | with_reducible exact Ext.refl _ | with_reducible refine Ext.alloc ?_ _))) (iv_one [mask]) (by unfold maxLen; omega) (by omega) ?_
      intro vB WB hoB hgB haB
      obtain ⟨yB, dB, rfl⟩ := own_slice hoB
      have EB : Ext WA _ := ext_at hgB (by repeat (first | with_reducible exact hE | with_reducible exact Ext.refl _ | with_reducible refine Ext.alloc ?_ _))
      obtain ⟨g0, g1, g2, g3⟩ := keepB HH.out KA.2.2 EB hgB
      have FIN := HP.out _ (put_fin HH.out HE0.out EA hoA hgA haA EB hoB hgB haB)
      refine hK _ _ (.inr fun h => (hgB.block b h.lt (fun e => HN.out.2 e.symm)).trans h) ?_
      clear hK
      clear KA EA EB hoA hgA haA hoB hgB haB hSX hblk hE
      refine wpAnyP_one (i := 18) (o := ⟨_, _, _, _, _, _⟩) (by kernel_rfl) rfl ?_ <;> intro K hK
      go_simp
      refine hK _ _ (.inr fun h => h) ?_
      clear hK
      refine wpAnyP_one (i := 19) (o := ⟨_, _, _, _, _, _⟩) (by kernel_rfl) rfl ?_ <;> intro K hK
      go_simp
      refine hK _ _ (.inr fun h => h) ?_
      clear hK
      refine wpAnyP_one (i := 20) (o := ⟨_, _, _, _, _, _⟩) (by kernel_rfl) rfl ?_ <;> intro K hK
      go_simp
      refine hK _ _ (.inr fun h => h) ?_
      clear hK
      refine wpAnyP_one (i := 21) (o := ⟨_, _, _, _, _, _⟩) (by kernel_rfl) rfl ?_ <;> intro K hK
      go_simp
      refine hK _ _ (.inl rfl) ?_
      clear hK
      refine wpAnyP_one (i := 22) (o := ⟨_, _, _, _, _, _⟩) (by kernel_rfl) rfl ?_ <;> intro K hK
      go_simp
      refine hK _ _ (.inr fun h => h) ?_
      clear hK
      refine wpAnyP_one (i := 23) (o := ⟨_, _, _, _, _, _⟩) (by kernel_rfl) rfl ?_ <;> intro K hK
      go_simp
      refine hK _ _ (.inr fun h => h) ?_
      clear hK
      refine wpAnyP_one (i := 24) (o := ⟨_, _, _, _, _, _⟩) (by kernel_rfl) rfl ?_ <;> intro K hK
      go_simp
      refine hK _ _ (.inr fun h => h) ?_
      clear hK
      refine wpAnyP_one (i := 25) (o := ⟨_, _, _, _, _, _⟩) (by kernel_rfl) rfl ?_ <;> intro K hK
      go_simp
      refine hK _ _ (.inl rfl) ?_
      clear hK
      refine wpAnyP_done (by kernel_rfl) ?_ _
      go_wp2_with fail
      go_end0
      exact ⟨rfl, FIN⟩
    · skip
      go_simp
      refine hK _ _ (.inr fun h => h.al _) ?_
      clear hK
      refine wpAnyP_one (i := 9) (o := ⟨_, _, _, _, _, _⟩) (by kernel_rfl) rfl ?_ <;> intro K hK
      refine step_app2 (by rfl) _ _ _ (by rfl) 3 i0 (.int .i64 0) 1 8 Try.underlying22 hi0 hz0 hz1 hz2 rfl (by omega) (.slice x1 ws.length c1) ws.length B (iv ws) (by rfl) (O1.out _ (by repeat (first | with_reducible exact hE | with_reducible exact Ext.refl _ | with_reducible refine Ext.alloc ?_ _))) (Nat.le_trans hB1 (ext_size (by repeat (first | with_reducible exact hE | with_reducible exact Ext.refl _ | with_reducible refine Ext.alloc ?_ _)))) (some ⟨Y.heap.size, 0, none⟩) 1 1 (iv [z]) (by rfl) rfl (from_oneN (w := Y) rfl (by repeat (first | with_reducible exact hE | with_reducible exact Ext.refl _ | with_reducible refine Ext.alloc ?_ _))) (iv_one [z]) (by unfold maxLen; omega) (by omega) ?_
      intro vA WA hoA hgA haA
      obtain ⟨yA, dA, rfl⟩ := own_slice hoA
      have EA : Ext w1 _ := ext_at hgA (by repeat (first | with_reducible exact hE | with_reducible exact Ext.refl _ | with_reducible refine Ext.alloc ?_ _))
      have KA := keepA HH.out EA hgA
      refine hK _ _ (.inr fun h => (hgA.block b h.lt (fun e => HN.out.1 e.symm)).trans h) ?_
      clear hK
      refine wpAnyP_one (i := 17) (o := ⟨_, _, _, _, _, _⟩) (by kernel_rfl) rfl ?_ <;> intro K hK
      refine step_app2 (by rfl) _ _ _ (by rfl) 3 i0 (.int .i64 0) 1 8 Try.underlying22 hi0 hz0 hz1 hz2 rfl (by omega) (.slice x2 ms.length c2) ms.length B (iv ms) (by rfl) (KA.2.1 _ (by repeat (first | with_reducible exact hE | with_reducible exact Ext.refl _ | with_reducible refine Ext.alloc ?_ _))) (Nat.le_trans hB1 (Nat.le_trans KA.1 (ext_size (by repeat (first | with_reducible exact hE | with_reducible exact Ext.refl _ | with_reducible refine Ext.alloc ?_ _))))) (some ⟨Y.heap.size + 1, 0, none⟩) 1 1 (iv [mask]) (by rfl) rfl (from_kept (from_oneN (w := Y.alloc (.cells #[.int .i64 z] 3)) (World.size_alloc _ _) (by repeat (first | with_reducible exact hE | with_reducible exact Ext.refl _ | with_reducible refine Ext.alloc ?_ _))) hgA (fun e => by have := HL1.out _ e.symm; have := hE.size; omega)) (iv_one [mask]) (by unfold maxLen; omega) (by omega) ?_
      intro vB WB hoB hgB haB
      obtain ⟨yB, dB, rfl⟩ := own_slice hoB
      have EB : Ext WA _ := ext_at hgB (by repeat (first | with_reducible exact hE | with_reducible exact Ext.refl _ | with_reducible refine Ext.alloc ?_ _))
      obtain ⟨g0, g1, g2, g3⟩ := keepB HH.out KA.2.2 EB hgB
      have FIN := HP.out _ (put_fin HH.out HE0.out EA hoA hgA haA EB hoB hgB haB)
      refine hK _ _ (.inr fun h => (hgB.block b h.lt (fun e => HN.out.2 e.symm)).trans h) ?_
      clear hK
      clear KA EA EB hoA hgA haA hoB hgB haB hSX hblk hE
      refine wpAnyP_one (i := 18) (o := ⟨_, _, _, _, _, _⟩) (by kernel_rfl) rfl ?_ <;> intro K hK
      go_simp
      refine hK _ _ (.inr fun h => h) ?_
      clear hK
      refine wpAnyP_one (i := 19) (o := ⟨_, _, _, _, _, _⟩) (by kernel_rfl) rfl ?_ <;> intro K hK
      go_simp
      refine hK _ _ (.inr fun h => h) ?_
      clear hK
      refine wpAnyP_one (i := 20) (o := ⟨_, _, _, _, _, _⟩) (by kernel_rfl) rfl ?_ <;> intro K hK
      go_simp
      refine hK _ _ (.inr fun h => h) ?_
      clear hK
      refine wpAnyP_one (i := 21) (o := ⟨_, _, _, _, _, _⟩) (by kernel_rfl) rfl ?_ <;> intro K hK
      go_simp
      refine hK _ _ (.inl rfl) ?_
      clear hK
      refine wpAnyP_one (i := 22) (o := ⟨_, _, _, _, _, _⟩) (by kernel_rfl) rfl ?_ <;> intro K hK
      go_simp
      refine hK _ _ (.inr fun h => h) ?_
      clear hK
      refine wpAnyP_one (i := 23) (o := ⟨_, _, _, _, _, _⟩) (by kernel_rfl) rfl ?_ <;> intro K hK
      go_simp
      refine hK _ _ (.inr fun h => h) ?_
      clear hK
      refine wpAnyP_one (i := 24) (o := ⟨_, _, _, _, _, _⟩) (by kernel_rfl) rfl ?_ <;> intro K hK
      go_simp
      refine hK _ _ (.inr fun h => h) ?_
      clear hK
      refine wpAnyP_one (i := 25) (o := ⟨_, _, _, _, _, _⟩) (by kernel_rfl) rfl ?_ <;> intro K hK
      go_simp
      refine hK _ _ (.inl rfl) ?_
      clear hK
      refine wpAnyP_done (by kernel_rfl) ?_ _
      go_wp2_with fail
      go_end0
      exact ⟨rfl, FIN⟩
  · skip
    go_simp
    refine hK _ _ (.inr fun h => h.al _) ?_
    clear hK
    refine wpAnyP_one (i := 8) (o := ⟨_, _, _, _, _, _⟩) (by kernel_rfl) rfl ?_ <;> intro K hK
    go_simp
    refine hK _ _ (.inr fun h => h.al _) ?_
    clear hK
    refine wpAnyP_one (i := 9) (o := ⟨_, _, _, _, _, _⟩) (by kernel_rfl) rfl ?_ <;> intro K hK
    refine step_app2 (by rfl) _ _ _ (by rfl) 3 i0 (.int .i64 0) 1 8 Try.underlying22 hi0 hz0 hz1 hz2 rfl (by omega) (.slice x1 ws.length c1) ws.length B (iv ws) (by rfl) (O1.out _ (by repeat (first | with_reducible exact hE | with_reducible exact Ext.refl _ | with_reducible refine Ext.alloc ?_ _))) (Nat.le_trans hB1 (ext_size (by repeat (first | with_reducible exact hE | with_reducible exact Ext.refl _ | with_reducible refine Ext.alloc ?_ _)))) (some ⟨Y.heap.size + 1, 0, none⟩) 1 1 (iv [z]) (by rfl) rfl (from_oneN (w := Y.alloc (.cells #[.int .i64 mask] 3)) (World.size_alloc _ _) (by repeat (first | with_reducible exact hE | with_reducible exact Ext.refl _ | with_reducible refine Ext.alloc ?_ _))) (iv_one [z]) (by unfold maxLen; omega) (by omega) ?_
    intro vA WA hoA hgA haA
    obtain ⟨yA, dA, rfl⟩ := own_slice hoA
    have EA : Ext w1 _ := ext_at hgA (by repeat (first | with_reducible exact hE | with_reducible exact Ext.refl _ | with_reducible refine Ext.alloc ?_ _))
    have KA := keepA HH.out EA hgA
    refine hK _ _ (.inr fun h => (hgA.block b h.lt (fun e => HN.out.1 e.symm)).trans h) ?_
    clear hK
    refine wpAnyP_one (i := 17) (o := ⟨_, _, _, _, _, _⟩) (by kernel_rfl) rfl ?_ <;> intro K hK
    refine step_app2 (by rfl) _ _ _ (by rfl) 3 i0 (.int .i64 0) 1 8 Try.underlying22 hi0 hz0 hz1 hz2 rfl (by omega) (.slice x2 ms.length c2) ms.length B (iv ms) (by rfl) (KA.2.1 _ (by repeat (first | with_reducible exact hE | with_reducible exact Ext.refl _ | with_reducible refine Ext.alloc ?_ _))) (Nat.le_trans hB1 (Nat.le_trans KA.1 (ext_size (by repeat (first | with_reducible exact hE | with_reducible exact Ext.refl _ | with_reducible refine Ext.alloc ?_ _))))) (some ⟨Y.heap.size, 0, none⟩) 1 1 (iv [mask]) (by rfl) rfl (from_kept (from_oneN (w := Y) rfl (by repeat (first | with_reducible exact hE | with_reducible exact Ext.refl _ | with_reducible refine Ext.alloc ?_ _))) hgA (fun e => by have := HL1.out _ e.symm; have := hE.size; omega)) (iv_one [mask]) (by unfold maxLen; omega) (by omega) ?_
    intro vB WB hoB hgB haB
    obtain ⟨yB, dB, rfl⟩ := own_slice hoB
    have EB : Ext WA _ := ext_at hgB (by repeat (first | with_reducible exact hE | with_reducible exact Ext.refl _ | with_reducible refine Ext.alloc ?_ _))
    obtain ⟨g0, g1, g2, g3⟩ := keepB HH.out KA.2.2 EB hgB
    have FIN := HP.out _ (put_fin HH.out HE0.out EA hoA hgA haA EB hoB hgB haB)
    refine hK _ _ (.inr fun h => (hgB.block b h.lt (fun e => HN.out.2 e.symm)).trans h) ?_
    clear hK
    clear KA EA EB hoA hgA haA hoB hgB haB hSX hblk hE
    refine wpAnyP_one (i := 18) (o := ⟨_, _, _, _, _, _⟩) (by kernel_rfl) rfl ?_ <;> intro K hK
    go_simp
    refine hK _ _ (.inr fun h => h) ?_
    clear hK
    refine wpAnyP_one (i := 19) (o := ⟨_, _, _, _, _, _⟩) (by kernel_rfl) rfl ?_ <;> intro K hK
    go_simp
    refine hK _ _ (.inr fun h => h) ?_
    clear hK
    refine wpAnyP_one (i := 20) (o := ⟨_, _, _, _, _, _⟩) (by kernel_rfl) rfl ?_ <;> intro K hK
    go_simp
    refine hK _ _ (.inr fun h => h) ?_
    clear hK
    refine wpAnyP_one (i := 21) (o := ⟨_, _, _, _, _, _⟩) (by kernel_rfl) rfl ?_ <;> intro K hK
    go_simp
    refine hK _ _ (.inl rfl) ?_
    clear hK
    refine wpAnyP_one (i := 22) (o := ⟨_, _, _, _, _, _⟩) (by kernel_rfl) rfl ?_ <;> intro K hK
    go_simp
    refine hK _ _ (.inr fun h => h) ?_
    clear hK
    refine wpAnyP_one (i := 23) (o := ⟨_, _, _, _, _, _⟩) (by kernel_rfl) rfl ?_ <;> intro K hK
    go_simp
    refine hK _ _ (.inr fun h => h) ?_
    clear hK
    refine wpAnyP_one (i := 24) (o := ⟨_, _, _, _, _, _⟩) (by kernel_rfl) rfl ?_ <;> intro K hK
    go_simp
    refine hK _ _ (.inr fun h => h) ?_
    clear hK
    refine wpAnyP_one (i := 25) (o := ⟨_, _, _, _, _, _⟩) (by kernel_rfl) rfl ?_ <;> intro K hK
    go_simp
    refine hK _ _ (.inl rfl) ?_
    clear hK
    refine wpAnyP_done (by kernel_rfl) ?_ _
    go_wp2_with fail
    go_end0
    exact ⟨rfl, FIN⟩
end Go.Proofs.Ytcijneecjkpebaa

import Derived.BigRegion
import Derived.Test.YtcijneecjkpebaaU2
import Derived.Test.YtcijneecjkpebaaU11
set_option linter.unusedVariables false
set_option linter.unusedSimpArgs false
/- append(s, make([]T, m)...): the append of so many zeros, to a row owned. -/
namespace Go.Q
open Go.RowKit
theorem zeroCells_one (z : Value) (m : Nat) : Builtin.zeroCells #[z] m = (List.replicate m z).toArray := by
  apply Array.ext
  · simp [Builtin.zeroCells]
  · intro i h1 h2
    simp [Builtin.zeroCells, Nat.mod_one]
/-- no zeros -/
theorem run_app_none {P : Program} {w : World} (base : Nat) (t ti ty e : TypeId) (i : TypeInfo) (ht : P.underlying t = some (.slice e)) (hti : P.underlying ti = some (.int .i64)) (hi : P.info? e = some i) {g n cap : Nat} {xs : List Value} (hown : w.ownsRow base e 1 (.slice (some ⟨g, 0, none⟩) n cap) n xs) :
    (Builtin.append_ #[t, ti] ty #[.slice (some ⟨g, 0, none⟩) n cap, .int .i64 0]).run P w = .ok (.slice (some ⟨g, 0, none⟩) n cap) w := by
  have hw : IntKind.i64.wrap (0 : Int) = 0 := rfl
  rcases hown.2 with ⟨h1, _⟩ | ⟨g0, cap0, cur, h1, hbg, hg, hnc, hcm, hcs, htake⟩
  · simp at h1
  · simp only [Value.slice.injEq, Option.some.injEq, Addr.mk.injEq, and_true, true_and] at h1
    obtain ⟨rfl, rfl⟩ := h1
    simp [Builtin.append_, run_underlying ht, run_underlying hti, sizeOf, typeInfo, hi, hw, hnc, Addr.add_lit, storeCells, asInt, asIntOf]
section
variable {P : Program} {w : World} (base : Nat) (t ti ty e : TypeId) (i : TypeInfo) (zv : Value) (ht : P.underlying t = some (.slice e)) (hti : P.underlying ti = some (.int .i64)) (hi : P.info? e = some i) (hz : i.zero = some zv) (hsz : i.size = 1) (hzc : zv.cells = #[zv]) (h1z : zv.oneCell' = true) (hib : i.bytes ≤ 8)
include ht hti hi hz hsz hzc h1z hib
theorem run_app_zeros {g n cap : Nat} {xs : List Value} (hown : w.ownsRow base e 1 (.slice (some ⟨g, 0, none⟩) n cap) n xs) (m : Nat) (hm : 0 < m) (hm2 : m ≤ 1000) (hb : (n + m) * i.bytes ≤ 140737488355328) (h63 : n + m ≤ maxLen) (hbase : base ≤ w.heap.size) :
    ∃ g' c' w', (Builtin.append_ #[t, ti] ty #[.slice (some ⟨g, 0, none⟩) n cap, .int .i64 m]).run P w = .ok (.slice (some ⟨g', 0, none⟩) (n + m) c') w' ∧ w'.ownsRow base e 1 (.slice (some ⟨g', 0, none⟩) (n + m) c') (n + m) (xs ++ List.replicate m zv) ∧ w.grownBy w' (some g) := by
  have hsmall : n + m ≤ 9223372036854775807 := by unfold maxLen at h63; omega
  have hw : IntKind.i64.wrap (m : Int) = (m : Int) := IntWalk.i64_in _ (by omega)
  have hneg : ¬ (m : Int) < 0 := by omega
  have h48a : ¬ (281474976710656 : Int) < (m : Int) * (i.bytes : Int) := by
    have h2 : ((m * i.bytes : Nat) : Int) ≤ ((8000 : Nat) : Int) := Int.ofNat_le.2 (Nat.mul_le_mul hm2 hib)
    rw [Int.natCast_mul] at h2
    omega
  have hm0 : m ≠ 0 := by omega
  have hlx : xs.length = n := by have := hown.1; rw [Nat.mul_one] at this; exact this
  have hzs : zv.cells.size = 1 := by rw [hzc]; rfl
  have hlen : (xs ++ List.replicate m zv).length = (n + m) * 1 := by rw [List.length_append, List.length_replicate, hlx, Nat.mul_one]
  rcases hown.2 with ⟨h1, _⟩ | ⟨g0, cap0, cur, h1, hbg, hg, hnc, hcm, hcs, htake⟩
  · simp at h1
  · simp only [Value.slice.injEq, Option.some.injEq, Addr.mk.injEq, and_true, true_and] at h1
    obtain ⟨rfl, rfl⟩ := h1
    by_cases hroom : n + m ≤ cap
    · have hfit : n * 1 + (List.replicate m zv).length ≤ cur.size := by rw [List.length_replicate, hcs]; omega
      have hst := run_storeCells_at P g (n * 1) e (List.replicate m zv) 0 cur w hg (by simpa using hfit) (fun u hu => by rw [(List.mem_replicate.1 hu).2]; exact h1z)
      simp only [Nat.add_zero, Nat.mul_one, List.length_replicate] at hst
      obtain ⟨R, hR⟩ : ∃ R : Array Value, (cur.toList.take n ++ List.replicate m zv ++ cur.toList.drop (n + m)).toArray = R := ⟨_, rfl⟩
      rw [hR] at hst
      refine ⟨g, cap, w.setRow g R, ?_, ⟨hlen, .inr ⟨g, cap, R, rfl, hbg, setRow_heap w g cur R e _ hg, hroom, hcm, ?_, ?_⟩⟩, ⟨rfl, rfl, rfl, by simp, fun k _ hk => setRow_other w g k _ (fun e => hk (by simp [e]))⟩⟩
      · simp [Builtin.append_, run_underlying ht, run_underlying hti, sizeOf, typeInfo, zeroValue, hi, hz, hsz, hw, hneg, h48a, hm0, hroom, hzc, zeroCells_one, Addr.add_lit, hst, asInt, asIntOf]
      · rw [← hR]
        simp only [List.size_toArray, List.length_append, List.length_take, List.length_drop, List.length_replicate, Array.length_toList]
        rw [Nat.mul_one] at hcs ⊢
        omega
      · rw [← hR, ← hlen]
        rw [Nat.mul_one] at htake
        show List.take _ (cur.toList.take n ++ List.replicate m zv ++ cur.toList.drop (n + m)) = _
        rw [htake]
        exact List.take_left
    · have holds : ∀ j u, xs[j]? = some u → w.cell? ((⟨g, 0, none⟩ : Addr).add j) = some u := hown.cells (g := g) rfl
      have hge := grownCap_ge w (n + m) cap e
      have hcm2 : grownCap w (n + m) cap e ≤ maxLen := grownCap_le_maxLen w (n + m) cap e h63
      have h63' : ¬ (9223372036854775807 < ((n : Int) + (m : Int))) := by omega
      have h48' : ¬ (281474976710656 < Builtin.nextslicecap (n + m) cap * i.bytes) := by
        have := growslice_fits (old := cap) (need := n + m) (bytes := i.bytes) (by omega) hb
        omega
      have hfo := run_firstCells_some (P := P) w.drew i.size n ⟨g, 0, none⟩ n cap xs (by rw [hsz, Nat.mul_one]; exact hlx) (by simpa using holds)
      rw [hsz] at hfo
      refine ⟨w.heap.size, grownCap w (n + m) cap e, w.drew.alloc (.cells ((xs ++ List.replicate m zv ++ List.replicate (grownCap w (n + m) cap e - (n + m)) zv).toArray) e), ?_, ⟨hlen, .inr ⟨w.heap.size, _, _, rfl, hbase, heap_alloc_new w.drew _, hge, hcm2, ?_, ?_⟩⟩, ⟨rfl, rfl, rfl, by simp, fun k hk _ => heap_alloc_old w.drew _ hk⟩⟩
      · simp [Builtin.append_, run_underlying ht, run_underlying hti, sizeOf, typeInfo, zeroValue, hi, hz, hsz, hw, hneg, h48a, hm0, hroom, hzc, zeroCells_one, hfo, h63', h48', Question.forced, newRow, grownCap, asInt, asIntOf]
        congr 2
        apply Array.ext'
        simp
      · rw [Nat.mul_one]
        simp only [List.size_toArray, List.length_append, List.length_replicate, hlx]
        omega
      · show List.take _ (xs ++ List.replicate m zv ++ List.replicate _ zv) = _
        rw [← hlen]
        exact List.take_left
/-- so many zeros, none or more -/
theorem run_app_made {w0 : World} {g n cap : Nat} {xs : List Value} (hown : w.ownsRow base e 1 (.slice (some ⟨g, 0, none⟩) n cap) n xs) (hE : Ext w0 w) (m : Nat) (hm2 : m ≤ 1000) (hb : (n + m) * i.bytes ≤ 140737488355328) (h63 : n + m ≤ maxLen) (hb0 : w0.heap.size ≤ base) (hbase : base ≤ w.heap.size) :
    ∃ g' c' w', (Builtin.append_ #[t, ti] ty #[.slice (some ⟨g, 0, none⟩) n cap, .int .i64 m]).run P w = .ok (.slice (some ⟨g', 0, none⟩) (n + m) c') w' ∧ w'.ownsRow base e 1 (.slice (some ⟨g', 0, none⟩) (n + m) c') (n + m) (xs ++ List.replicate m zv) ∧ Ext w0 w' := by
  rcases Nat.eq_zero_or_pos m with rfl | hm
  · exact ⟨g, cap, w, run_app_none base t ti ty e i ht hti hi hown, by simpa using hown, hE⟩
  · obtain ⟨g', c', w', h1, h2, h3⟩ := run_app_zeros base t ti ty e i zv ht hti hi hz hsz hzc h1z hib hown m hm hm2 hb h63 hbase
    exact ⟨g', c', w', h1, h2, hE.grown h3 (Nat.le_trans hb0 hbase) (fun k hk => Nat.le_trans hb0 ((hown.lt k (by rw [← hk]; rfl)).1))⟩
theorem wpList_app_made {w0 : World} {ops : Array Oper} {rest : List Oper} {o : Oper} {act : Act} {Q : Exit → Act → World → Prop} (hgd : o.guard = none) (s x : Operand)
    (ho : o.op = .call { callee := .builtin .append, args := #[s, x], argTypes := #[t, ti] }) {g n cap : Nat} {xs : List Value} (he : act.eval s = .slice (some ⟨g, 0, none⟩) n cap) (hown : w.ownsRow base e 1 (.slice (some ⟨g, 0, none⟩) n cap) n xs) (hE : Ext w0 w) (m : Nat) (hx : act.eval x = .int .i64 m) (hm2 : m ≤ 1000) (hb : (n + m) * i.bytes ≤ 140737488355328) (h63 : n + m ≤ maxLen) (hb0 : w0.heap.size ≤ base) (hbase : base ≤ w.heap.size)
    (h : ∀ (g' c' : Nat) (w' : World), w'.ownsRow base e 1 (.slice (some ⟨g', 0, none⟩) (n + m) c') (n + m) (xs ++ List.replicate m zv) → Ext w0 w' → wpList P ops Q rest (act.put o.dst (.slice (some ⟨g', 0, none⟩) (n + m) c')) w') : wpList P ops Q (o :: rest) act w := by
  refine wpList_plain hgd fun K hK => ?_
  obtain ⟨g', c', w', hr, h2, h3⟩ := run_app_made base t ti o.type e i zv ht hti hi hz hsz hzc h1z hib hown hE m hm2 hb h63 hb0 hbase
  have hk := hK _ _ (h g' c' w' h2 h3)
  unfold Oper.wp execOp
  simp only [ho, resolve, invoke, builtin, Sem.run_bind, Sem.run_pure, Result.andThen_ok, List.map_toArray, List.map_cons, List.map_nil, he, hx, hr]
  exact hk
end
end Go.Q
/- Layer 8: what the walk of Code stands on. -/
namespace Go.Q
def sHalf : SK := ⟨{ data := #[104, 97, 108, 102] }, by decide⟩
def sOne : SK := ⟨{ data := #[111, 110, 101] }, by decide⟩
def sFirst : SK := ⟨{ data := #[102, 105, 114, 115, 116] }, by decide⟩
def sSecond : SK := ⟨{ data := #[115, 101, 99, 111, 110, 100] }, by decide⟩
def sResult : SK := ⟨{ data := #[114, 101, 115, 117, 108, 116] }, by decide⟩
def sTry : SK := ⟨{ data := #[116, 114, 121] }, by decide⟩
def sStep : SK := ⟨{ data := #[115, 116, 101, 112] }, by decide⟩
def sTest : SK := ⟨{ data := #[116, 101, 115, 116] }, by decide⟩
section
variable {P : Program} {w : World} (base : Nat) (t ti ty e : TypeId) (i : TypeInfo) (zv : Value) (ht : P.underlying t = some (.slice e)) (hti : P.underlying ti = some (.int .i64)) (hi : P.info? e = some i) (hz : i.zero = some zv) (hsz : i.size = 1) (hzc : zv.cells = #[zv]) (h1z : zv.oneCell' = true) (hib : i.bytes ≤ 8)
include ht hti hi hz hsz hzc h1z hib
theorem run_app_zeros2 {g n cap : Nat} {xs : List Value} (hown : w.ownsRow base e 1 (.slice (some ⟨g, 0, none⟩) n cap) n xs) (m : Nat) (hm : 0 < m) (hm2 : m ≤ 1000) (hb : (n + m) * i.bytes ≤ 140737488355328) (h63 : n + m ≤ maxLen) (hbase : base ≤ w.heap.size) :
    ∃ g' c' w', (Builtin.append_ #[t, ti] ty #[.slice (some ⟨g, 0, none⟩) n cap, .int .i64 m]).run P w = .ok (.slice (some ⟨g', 0, none⟩) (n + m) c') w' ∧ w'.ownsRow base e 1 (.slice (some ⟨g', 0, none⟩) (n + m) c') (n + m) (xs ++ List.replicate m zv) ∧ w.grownBy w' (some g) ∧ (g' = g ∨ g' = w.heap.size) := by
  have hsmall : n + m ≤ 9223372036854775807 := by unfold maxLen at h63; omega
  have hw : IntKind.i64.wrap (m : Int) = (m : Int) := IntWalk.i64_in _ (by omega)
  have hneg : ¬ (m : Int) < 0 := by omega
  have h48a : ¬ (281474976710656 : Int) < (m : Int) * (i.bytes : Int) := by
    have h2 : ((m * i.bytes : Nat) : Int) ≤ ((8000 : Nat) : Int) := Int.ofNat_le.2 (Nat.mul_le_mul hm2 hib)
    rw [Int.natCast_mul] at h2
    omega
  have hm0 : m ≠ 0 := by omega
  have hlx : xs.length = n := by have := hown.1; rw [Nat.mul_one] at this; exact this
  have hzs : zv.cells.size = 1 := by rw [hzc]; rfl
  have hlen : (xs ++ List.replicate m zv).length = (n + m) * 1 := by rw [List.length_append, List.length_replicate, hlx, Nat.mul_one]
  rcases hown.2 with ⟨h1, _⟩ | ⟨g0, cap0, cur, h1, hbg, hg, hnc, hcm, hcs, htake⟩
  · simp at h1
  · simp only [Value.slice.injEq, Option.some.injEq, Addr.mk.injEq, and_true, true_and] at h1
    obtain ⟨rfl, rfl⟩ := h1
    by_cases hroom : n + m ≤ cap
    · have hfit : n * 1 + (List.replicate m zv).length ≤ cur.size := by rw [List.length_replicate, hcs]; omega
      have hst := run_storeCells_at P g (n * 1) e (List.replicate m zv) 0 cur w hg (by simpa using hfit) (fun u hu => by rw [(List.mem_replicate.1 hu).2]; exact h1z)
      simp only [Nat.add_zero, Nat.mul_one, List.length_replicate] at hst
      obtain ⟨R, hR⟩ : ∃ R : Array Value, (cur.toList.take n ++ List.replicate m zv ++ cur.toList.drop (n + m)).toArray = R := ⟨_, rfl⟩
      rw [hR] at hst
      refine ⟨g, cap, w.setRow g R, ?_, ⟨hlen, .inr ⟨g, cap, R, rfl, hbg, setRow_heap w g cur R e _ hg, hroom, hcm, ?_, ?_⟩⟩, ⟨rfl, rfl, rfl, by simp, fun k _ hk => setRow_other w g k _ (fun e => hk (by simp [e]))⟩, .inl rfl⟩
      · simp [Builtin.append_, run_underlying ht, run_underlying hti, sizeOf, typeInfo, zeroValue, hi, hz, hsz, hw, hneg, h48a, hm0, hroom, hzc, zeroCells_one, Addr.add_lit, hst, asInt, asIntOf]
      · rw [← hR]
        simp only [List.size_toArray, List.length_append, List.length_take, List.length_drop, List.length_replicate, Array.length_toList]
        rw [Nat.mul_one] at hcs ⊢
        omega
      · rw [← hR, ← hlen]
        rw [Nat.mul_one] at htake
        show List.take _ (cur.toList.take n ++ List.replicate m zv ++ cur.toList.drop (n + m)) = _
        rw [htake]
        exact List.take_left
    · have holds : ∀ j u, xs[j]? = some u → w.cell? ((⟨g, 0, none⟩ : Addr).add j) = some u := hown.cells (g := g) rfl
      have hge := grownCap_ge w (n + m) cap e
      have hcm2 : grownCap w (n + m) cap e ≤ maxLen := grownCap_le_maxLen w (n + m) cap e h63
      have h63' : ¬ (9223372036854775807 < ((n : Int) + (m : Int))) := by omega
      have h48' : ¬ (281474976710656 < Builtin.nextslicecap (n + m) cap * i.bytes) := by
        have := growslice_fits (old := cap) (need := n + m) (bytes := i.bytes) (by omega) hb
        omega
      have hfo := run_firstCells_some (P := P) w.drew i.size n ⟨g, 0, none⟩ n cap xs (by rw [hsz, Nat.mul_one]; exact hlx) (by simpa using holds)
      rw [hsz] at hfo
      refine ⟨w.heap.size, grownCap w (n + m) cap e, w.drew.alloc (.cells ((xs ++ List.replicate m zv ++ List.replicate (grownCap w (n + m) cap e - (n + m)) zv).toArray) e), ?_, ⟨hlen, .inr ⟨w.heap.size, _, _, rfl, hbase, heap_alloc_new w.drew _, hge, hcm2, ?_, ?_⟩⟩, ⟨rfl, rfl, rfl, by simp, fun k hk _ => heap_alloc_old w.drew _ hk⟩, .inr rfl⟩
      · simp [Builtin.append_, run_underlying ht, run_underlying hti, sizeOf, typeInfo, zeroValue, hi, hz, hsz, hw, hneg, h48a, hm0, hroom, hzc, zeroCells_one, hfo, h63', h48', Question.forced, newRow, grownCap, asInt, asIntOf]
        congr 2
        apply Array.ext'
        simp
      · rw [Nat.mul_one]
        simp only [List.size_toArray, List.length_append, List.length_replicate, hlx]
        omega
      · show List.take _ (xs ++ List.replicate m zv ++ List.replicate _ zv) = _
        rw [← hlen]
        exact List.take_left
end
end Go.Q
namespace Go.Proofs.Ytcijneecjkpebaa
open Go.RowKit Go.Q Go.Maps
/-- a routine and an error -/
def CodeRes (c : Rt) (er : Int) (w : World) (e : Ending) (w' : World) : Prop :=
  ∃ l : Lo, e = .returned (.tuple #[.agg #[.slice l.a1 c.words.length l.c1, .slice l.a2 c.masks.length l.c2, .int .i64 c.entry, .int .i64 c.exit, .int .i64 c.result, .slice l.a3 c.args.length l.c3], .int .i64 er]) ∧ RtAt w' c l ∧ Ext w w'
theorem bdc_ext {W W' : World} {B b : Nat} {ws ms ar : List Int} {ex re : Int} {mb : Nat} {L : List (SK × Int)} (h : BdC W B b ws ms ar ex re mb L) (E : Ext W W') : BdC W' B b ws ms ar ex re mb L := by
  obtain ⟨v1, v2, v3, H, hm, hb⟩ := h
  exact ⟨v1, v2, v3, H.ext E, hm.ext E, hb⟩
theorem strs_new (W : World) (ns : List SK) : StrsAt (W.alloc (.cells (ns.map fun s => Value.string s.val).toArray 9)) (some ⟨W.heap.size, 0, none⟩) ns :=
  .inr ⟨_, 0, _, rfl, Blk.nw W _ _, fun i s h => by simp [h]⟩
theorem Bd.kpm {M : Nat → Prop} {W W' : World} {B b : Nat} {ws ms ar : List Int} {ex re : Int} {v1 v2 v3 mv : Value} (h : Bd W B b ws ms ar ex re v1 v2 v3 mv) (K : KpM M W W') (hM : ∀ k, k < W.heap.size → ¬ M k) : Bd W' B b ws ms ar ex re v1 v2 v3 mv :=
  ⟨h.blk.kpm K (hM b h.blk.lt), own_kpm h.r1 K fun k hk => hM k (h.r1.lt k hk).2, own_kpm h.r2 K fun k hk => hM k (h.r2.lt k hk).2, own_kpm h.r3 K fun k hk => hM k (h.r3.lt k hk).2, h.n1, h.n2, h.n3, h.a12, h.a13, h.a23⟩
theorem put_finL {w w1 WA' WA WB' WB : World} {B b : Nat} {ws ms ar : List Int} {ex re : Int} {zs ks : List Int} {v1 v2 v3 mv vA vB : Value} (H : Bd w1 B b ws ms ar ex re v1 v2 v3 mv) (E0 : Ext w w1)
    (EA : Ext w1 WA') (hoA : WA.ownsRow B 3 1 vA (ws.length + zs.length) (iv ws ++ iv zs)) (hgA : WA'.grownBy WA v1.ownBlock) (haA : vA.ownBlock = v1.ownBlock ∨ vA.ownBlock = some WA'.heap.size)
    (EB : Ext WA WB') (hoB : WB.ownsRow B 3 1 vB (ms.length + ks.length) (iv ms ++ iv ks)) (hgB : WB'.grownBy WB v2.ownBlock) (haB : vB.ownBlock = v2.ownBlock ∨ vB.ownBlock = some WB'.heap.size) :
    ∃ v1' v2', Bd ((WB.setCell ⟨b, 0, none⟩ vA).setCell ⟨b, 1, none⟩ vB) B b (ws ++ zs) (ms ++ ks) ar ex re v1' v2' v3 mv ∧ KpM (BdM b v1 v2 v3) w ((WB.setCell ⟨b, 0, none⟩ vA).setCell ⟨b, 1, none⟩ vB) ∧ (∀ k, v1'.ownBlock = some k → v1.ownBlock = some k ∨ w.heap.size ≤ k) ∧ (∀ k, v2'.ownBlock = some k → v2.ownBlock = some k ∨ w.heap.size ≤ k) := by
  have s0 := E0.size
  have sA := EA.size
  have sA2 := hgA.size
  have sB := EB.size
  have hb := H.blk.lt
  have l1 : ∀ k, v1.ownBlock = some k → k < w1.heap.size := fun k hk => (H.r1.lt k hk).2
  have l2 : ∀ k, v2.ownBlock = some k → k < w1.heap.size := fun k hk => (H.r2.lt k hk).2
  have l3 : ∀ k, v3.ownBlock = some k → k < w1.heap.size := fun k hk => (H.r3.lt k hk).2
  have nA : vA.ownBlock ≠ some b := by
    rcases haA with h | h <;> rw [h]
    · exact H.n1
    · intro e; injection e; omega
  have nB : vB.ownBlock ≠ some b := by
    rcases haB with h | h <;> rw [h]
    · exact H.n2
    · intro e; injection e; omega
  have nA2 : vA.ownBlock = none ∨ vA.ownBlock ≠ v2.ownBlock := by
    rcases haA with h | h <;> rw [h]
    · exact H.a12
    · refine .inr fun e => ?_
      have := l2 _ e.symm
      omega
  have ap3 : ∀ u : Value, (∀ k, u.ownBlock = some k → k < w1.heap.size) → Ap2 v1 u → Ap2 vA u := fun u hu h => by
    unfold Ap2 at *
    rcases haA with e | e <;> rw [e]
    · exact h
    · refine .inr fun q => ?_
      have := hu _ q.symm
      omega
  have ap4 : ∀ u : Value, (∀ k, u.ownBlock = some k → k < WB'.heap.size) → Ap2 v2 u → Ap2 vB u := fun u hu h => by
    unfold Ap2 at *
    rcases haB with e | e <;> rw [e]
    · exact h
    · refine .inr fun q => ?_
      have := hu _ q.symm
      omega
  have lA : ∀ k, vA.ownBlock = some k → k < WB'.heap.size := fun k hk => by have := (hoA.lt k hk).2; omega
  have b0 : Blk WA b #[v1, v2, .int .i64 0, .int .i64 ex, .int .i64 re, v3, mv] 91 := (hgA.block b (by omega) (fun e => H.n1 e.symm)).trans (H.blk.ex EA)
  have b1 : Blk WB b #[v1, v2, .int .i64 0, .int .i64 ex, .int .i64 re, v3, mv] 91 := (hgB.block b (by omega) (fun e => H.n2 e.symm)).trans (b0.ex EB)
  have b2 := (b1.st 0 vA).st 1 vB
  have rA := own_grown (own_extX hoA EB) hgB nA2
  have r3 := own_grown (own_extX (own_grown (own_extX H.r3 EA) hgA H.a13.symm) EB) hgB H.a23.symm
  refine ⟨vA, vB, ⟨b2, ?_, ?_, ?_, nA, nB, H.n3, ?_, ap3 v3 l3 H.a13, ap4 v3 (fun k hk => by have := l3 k hk; omega) H.a23⟩, ?_, fun k hk => ?_, fun k hk => ?_⟩
  · rw [List.length_append, ← iv_app]
    exact own_set (own_set rA nA vA) nA vB
  · rw [List.length_append, ← iv_app]
    exact own_set (own_set hoB nB vA) nB vB
  · exact own_set (own_set r3 H.n3 vA) H.n3 vB
  · exact (ap4 vA lA (Ap2.symm (show Ap2 vA v2 from nA2))).symm
  · exact (((((KpM.of_ext (E0.comp EA)).trans (KpM.grown hgA fun k hk => .inr (.inl hk))).trans (KpM.of_ext EB)).trans (KpM.grown hgB fun k hk => .inr (.inr (.inl hk)))).trans (KpM.set (.inl rfl) _)).trans (KpM.set (.inl rfl) _)
  · rcases haA with h | h
    · exact .inl (by rw [← h]; exact hk)
    · rw [h] at hk; injection hk; exact .inr (by omega)
  · rcases haB with h | h
    · exact .inl (by rw [← h]; exact hk)
    · rw [h] at hk; injection hk; exact .inr (by omega)
theorem step_made {w : World} {ops : Array Oper} {o : Oper} {act : Act} {K : Act → World → Prop} {Q : Exit → Act → World → Prop} {E : Prop} (hgd : o.guard = none) (s x : Operand)
    (ho : o.op = .call { callee := .builtin .append, args := #[s, x], argTypes := #[22, 3] }) (B : Nat) {g n cap : Nat} {xs : List Int} (he : act.eval s = .slice (some ⟨g, 0, none⟩) n cap) (hown : w.ownsRow B 3 1 (.slice (some ⟨g, 0, none⟩) n cap) n (iv xs)) (m : Nat) (hx : act.eval x = .int .i64 (m : Int)) (hm : 0 < m) (hm2 : m ≤ 1000) (hn2 : n ≤ 1000) (hB : B ≤ w.heap.size)
    (h : ∀ (g' c' : Nat) (w' : World), w'.ownsRow B 3 1 (.slice (some ⟨g', 0, none⟩) (n + m) c') (n + m) (iv xs ++ iv (List.replicate m 0)) → w.grownBy w' (some g) → (g' = g ∨ g' = w.heap.size) → K (act.put o.dst (.slice (some ⟨g', 0, none⟩) (n + m) c')) w') :
    if Region.wanted o (yielded ops act.tmps) = true then Oper.wp Try.prog o act w K Q else E := by
  rw [if_pos (by simp [Region.wanted, hgd])]
  obtain ⟨i0, hi0, hz0, hz1, hz2⟩ := info_parts Try.infoE
  obtain ⟨g', c', w', hr, h2, h3, h4⟩ := run_app_zeros2 (P := Try.prog) B 22 3 o.type 3 i0 (.int .i64 0) Try.underlying22 Try.underlying3 hi0 hz0 hz1 rfl rfl (by rw [hz2]; omega) hown m hm hm2 (by rw [hz2]; omega) (by unfold maxLen; omega) hB
  have hk := h g' c' w' (by rw [show iv (List.replicate m 0) = List.replicate m (.int .i64 0) by simp [iv]]; exact h2) h3 h4
  unfold Oper.wp execOp
  simp only [ho, resolve, invoke, builtin, Sem.run_bind, Sem.run_pure, Result.andThen_ok, List.map_toArray, List.map_cons, List.map_nil, he, hx, hr]
  exact hk
theorem Bd.re {W : World} {B b : Nat} {ws ms ar : List Int} {ex re : Int} {v1 v2 v3 mv : Value} (h : Bd W B b ws ms ar ex re v1 v2 v3 mv) (r : Int) : Bd (W.setCell ⟨b, 4, none⟩ (.int .i64 r)) B b ws ms ar ex r v1 v2 v3 mv :=
  ⟨h.blk.st 4 _, own_set h.r1 h.n1 _, own_set h.r2 h.n2 _, own_set h.r3 h.n3 _, h.n1, h.n2, h.n3, h.a12, h.a13, h.a23⟩
theorem Try.infoStr : (Try.prog.info? 9).map (fun i => (i.zero, i.size, i.bytes)) = some (some (.string { data := #[] }), 1, 16) := by kernel_rfl
theorem arg_fin {W1 X WA : World} {B b : Nat} {ws ms ar : List Int} {ex re p : Int} {v1 v2 v3 mv vC : Value} (H : Bd W1 B b ws ms ar ex re v1 v2 v3 mv) (E : Ext W1 X) (ho : WA.ownsRow B 3 1 vC (ar.length + 1) (iv ar ++ iv [p])) (hg : X.grownBy WA v3.ownBlock) (ha : vC.ownBlock = v3.ownBlock ∨ vC.ownBlock = some X.heap.size) :
    Bd (WA.setCell ⟨b, 5, none⟩ vC) B b ws ms (ar ++ [p]) ex re v1 v2 vC mv ∧ KpM (BdM b v1 v2 v3) W1 (WA.setCell ⟨b, 5, none⟩ vC) := by
  have sE := E.size
  have hb := H.blk.lt
  have l1 : ∀ k, v1.ownBlock = some k → k < W1.heap.size := fun k hk => (H.r1.lt k hk).2
  have l2 : ∀ k, v2.ownBlock = some k → k < W1.heap.size := fun k hk => (H.r2.lt k hk).2
  have nC : vC.ownBlock ≠ some b := by
    rcases ha with h | h <;> rw [h]
    · exact H.n3
    · intro e; injection e; omega
  have ap : ∀ u : Value, (∀ k, u.ownBlock = some k → k < W1.heap.size) → Ap2 u v3 → Ap2 u vC := fun u hu h => by
    refine Ap2.symm ?_
    have h := h.symm
    unfold Ap2 at *
    rcases ha with e | e <;> rw [e]
    · exact h
    · refine .inr fun q => ?_
      have := hu _ q.symm
      omega
  have b0 : Blk WA b #[v1, v2, .int .i64 0, .int .i64 ex, .int .i64 re, v3, mv] 91 := (hg.block b (by omega) (fun e => H.n3 e.symm)).trans (H.blk.ex E)
  refine ⟨⟨b0.st 5 vC, own_set (own_grown (own_extX H.r1 E) hg H.a13) H.n1 _, own_set (own_grown (own_extX H.r2 E) hg H.a23) H.n2 _, ?_, H.n1, H.n2, nC, H.a12, ap v1 l1 H.a13, ap v2 l2 H.a23⟩, ?_⟩
  · rw [List.length_append, ← iv_app]
    exact own_set ho nC _
  · exact ((KpM.of_ext E).trans (KpM.grown hg fun k hk => .inr (.inr (.inr hk)))).trans (KpM.set (.inl rfl) _)
theorem own_blk {W : World} {B k : Nat} {e : TypeId} {v : Value} {xs : List Value} (h : W.ownsRow B e 1 v (k + 1) xs) : ∃ g cap cur, v = .slice (some ⟨g, 0, none⟩) (k + 1) cap ∧ Blk W g cur e ∧ B ≤ g ∧ ∀ (i : Nat) (u : Value), xs[i]? = some u → cur[i]? = some u := by
  rcases h.2 with ⟨_, h0⟩ | ⟨g, cap, cur, rfl, hb, hg, h3, h4, h5, h6⟩
  · omega
  · refine ⟨g, cap, cur, rfl, hg, hb, fun i u hu => ?_⟩
    rw [← h6, List.getElem?_take] at hu
    split at hu
    · simpa using hu
    · cases hu
theorem row_blk {W : World} {nb n : Nat} {v : Value} {xs : List Value} {t : TypeId} {z g : Nat} {cur : Array Value} {e : TypeId} (h : W.ownsRow nb t z v n xs) (hb : Blk W g cur e) (hne : t ≠ e) : v.ownBlock ≠ some g := by
  intro q
  rcases h.2 with ⟨rfl, _⟩ | ⟨g', cap, c2, rfl, _, hg, _⟩
  · cases q
  · obtain rfl : g' = g := by simpa [Value.ownBlock] using q
    unfold Blk at hb
    rw [hg] at hb
    injection hb with hb
    injection hb with _ h2
    exact hne h2
theorem bdm_blk {W : World} {B b : Nat} {ws ms ar : List Int} {ex re : Int} {v1 v2 v3 mv : Value} {g : Nat} {cur : Array Value} {e : TypeId} (h : Bd W B b ws ms ar ex re v1 v2 v3 mv) (hb : Blk W g cur e) (h1 : 3 ≠ e) (h2 : 91 ≠ e) : ¬ BdM b v1 v2 v3 g := by
  rintro (q | q | q | q)
  · subst q
    have := h.blk
    unfold Blk at this hb
    rw [this] at hb
    injection hb with hb
    injection hb with _ h3
    exact h2 h3
  · exact row_blk h.r1 hb h1 q
  · exact row_blk h.r2 hb h1 q
  · exact row_blk h.r3 hb h1 q
theorem own_set6 {W : World} {nb n m : Nat} {v : Value} {xs : List Value} {t : TypeId} {z : Nat} (h : W.ownsRow nb t z v n xs) (hm : m < nb) (z0 z1 z2 z3 z4 z5 : Value) : ((((((W.setCell ⟨m, 0, none⟩ z0).setCell ⟨m, 1, none⟩ z1).setCell ⟨m, 2, none⟩ z2).setCell ⟨m, 3, none⟩ z3).setCell ⟨m, 4, none⟩ z4).setCell ⟨m, 5, none⟩ z5).ownsRow nb t z v n xs := by
  have hp : v.ownBlock ≠ some m := fun e => by have := (h.lt m e).1; omega
  exact own_set (own_set (own_set (own_set (own_set (own_set h hp z0) hp z1) hp z2) hp z3) hp z4) hp z5
theorem ext_set6 {w W : World} {m : Nat} (h : Ext w W) (hm : w.heap.size ≤ m) (z0 z1 z2 z3 z4 z5 : Value) : Ext w ((((((W.setCell ⟨m, 0, none⟩ z0).setCell ⟨m, 1, none⟩ z1).setCell ⟨m, 2, none⟩ z2).setCell ⟨m, 3, none⟩ z3).setCell ⟨m, 4, none⟩ z4).setCell ⟨m, 5, none⟩ z5) :=
  ext_put (ext_put (ext_put (ext_put (ext_put (ext_put h z0 hm) z1 hm) z2 hm) z3 hm) z4 hm) z5 hm
end Go.Proofs.Ytcijneecjkpebaa
/- Layer 8: slices.Equal; what Diff takes for alike. -/
namespace Go.Q
theorem ints_eq {xs ys : List Int} (hl : xs.length = ys.length) (h : ∀ i, i < xs.length → xs[i]?.getD 0 = ys[i]?.getD 0) : xs = ys := by
  apply List.ext_getElem hl
  intro i h1 h2
  have := h i h1
  rw [List.getElem?_eq_getElem h1, List.getElem?_eq_getElem h2] at this
  exact this
theorem alikeB_eq (a b : En) : alikeB a b = ((a.name.toList == b.name.toList) && (a.code.words.length == b.code.words.length) && (a.code.entry == b.code.entry) && (a.code.exit == b.code.exit) && (a.code.result == b.code.result) && (a.code.args == b.code.args)) := by
  unfold alikeB
  rw [str_eq]
end Go.Q
namespace Go.Proofs.Ytcijneecjkpebaa
open Go.RowKit Go.Q
set_option maxHeartbeats 1000000 in
theorem lb_equal (a b : Option Addr) (n m c d : Nat) (xs ys : List Int) (w : World) (hx : xs.length = n) (hy : ys.length = m) (hn : n ≤ 9223372036854775807) (hm : m ≤ 9223372036854775807) (hI : IntsAt w a xs) (hJ : IntsAt w b ys) :
    Calls Try.prog 80 #[.slice a n c, .slice b m d] w fun e w' => e = .returned (.bool (xs == ys)) ∧ Ext w w' := by
  by_cases hnm : n = m
  · subst hnm
    have HI := Lib.hid hI
    have HJ := Lib.hid hJ
    have HX := Lib.hid hx
    have HY := Lib.hid hy
    clear hI hJ hx hy
    go_enter Try.func80, Try.ntmps80
    go_wp2_with fail
    go_loopw [13] (fun s wr => ∃ j : Nat, j ≤ n ∧ s = .int .i64 (j : Int) ∧ Aside (Ext w wr) ∧ Aside (∀ i, i < j → xs[i]?.getD 0 = ys[i]?.getD 0)) (fun s _ => n - (intOf s).toNat)
    case atStart => exact ⟨0, Nat.zero_le _, rfl, Ext.refl _, fun i hi => absurd hi (Nat.not_lt_zero _)⟩
    case round =>
      obtain ⟨j, hj, rfl, EW, HP⟩ := hrel
      by_cases hlt : j < n
      · have hltz : (j : Int) < (n : Int) := by omega
        obtain ⟨b1, o1, rfl, hb1, hc1⟩ : ∃ b1 o1, a = some ⟨b1, o1, none⟩ ∧ b1 < w.heap.size ∧ w.cell? ⟨b1, o1 + j, none⟩ = some (.int .i64 (xs[j]?.getD 0)) := by
          rcases HI.out with h | ⟨b1, o1, ha, hb1, hc⟩
          · have := HX.out; rw [h] at this; simp at this; omega
          · exact ⟨b1, o1, ha, hb1, hc j (by rw [HX.out]; exact hlt)⟩
        obtain ⟨b2, o2, rfl, hb2, hc2⟩ : ∃ b2 o2, b = some ⟨b2, o2, none⟩ ∧ b2 < w.heap.size ∧ w.cell? ⟨b2, o2 + j, none⟩ = some (.int .i64 (ys[j]?.getD 0)) := by
          rcases HJ.out with h | ⟨b2, o2, ha, hb2, hc⟩
          · have := HY.out; rw [h] at this; simp at this; omega
          · exact ⟨b2, o2, ha, hb2, hc j (by rw [HY.out]; exact hlt)⟩
        have q1 : ∀ k, (wr.drewN k).cell? ⟨b1, o1 + j, none⟩ = some (.int .i64 (xs[j]?.getD 0)) := fun k => (below_drewN EW.out k).cell hb1 |>.trans hc1
        have q2 : ∀ k, (wr.drewN k).cell? ⟨b2, o2 + j, none⟩ = some (.int .i64 (ys[j]?.getD 0)) := fun k => (below_drewN EW.out k).cell hb2 |>.trans hc2
        have p1 := q1 0
        have p2 := q2 0
        obtain ⟨x1, hx1⟩ : ∃ x1, xs[j]?.getD 0 = x1 := ⟨_, rfl⟩
        obtain ⟨x2, hx2⟩ : ∃ x2, ys[j]?.getD 0 = x2 := ⟨_, rfl⟩
        rw [hx1] at q1 p1
        rw [hx2] at q2 p2
        have HX1 := Lib.hid hx1
        have HX2 := Lib.hid hx2
        have EB := Lib.hid (show ∀ k, Ext w (wr.drewN k) from fun k => below_drewN EW.out k)
        clear hc1 hc2 hx1 hx2
        cases hq : (x1 != x2) with
        | true =>
          have HQ := Lib.hid (bne_iff_ne.1 hq)
          go_wp2_with fail
          go_quiet (fail)
          go_wp2_with fail
          go_ret
          refine ⟨?_, EB.out _⟩
          rw [show (xs == ys) = false from by
            rw [beq_eq_false_iff_ne]
            intro e
            exact HQ.out (by rw [← HX1.out, ← HX2.out, e])]
          rfl
        | false =>
          have HQ := Lib.hid (show x1 = x2 by simpa using hq)
          go_wp2_with fail
          go_quiet (fail)
          go_wp2_with fail
          go_roundw
          case rel =>
            refine ⟨j + 1, by omega, by go_num, EB.out _, (show Aside _ from fun i hi => ?_)⟩
            rcases Nat.lt_succ_iff_lt_or_eq.1 hi with h | h
            · exact HP.out i h
            · rw [h, HX1.out, HX2.out]; exact HQ.out
          case measure => simp [intOf]; omega
      · have hltz : ¬ (j : Int) < (n : Int) := by omega
        have hjn : j = n := by omega
        go_wp2_with fail
        go_ret
        refine ⟨?_, EW.out⟩
        rw [show (xs == ys) = true from by
          rw [beq_iff_eq]
          exact ints_eq (by rw [HX.out, HY.out]) fun i hi => HP.out i (by rw [HX.out] at hi; omega)]
        rfl
  · have hb : ((n : Int) != (m : Int)) = true := by rw [bne_iff_ne]; omega
    have he : (xs == ys) = false := by
      rw [beq_eq_false_iff_ne]
      intro e
      exact hnm (by rw [← hx, ← hy, e])
    have HE := Lib.hid he
    clear he hx hy hI hJ hnm
    go_enter Try.func80, Try.ntmps80
    go_wp2_with fail
    go_ret
    exact ⟨by rw [HE.out]; rfl, Ext.refl _⟩
theorem blk_set6 {W : World} {b : Nat} {z0 z1 z2 z3 z4 z5 y0 y1 y2 y3 y4 y5 : Value} {T : TypeId} (h : Blk W b #[y0, y1, y2, y3, y4, y5] T) : Blk ((((((W.setCell ⟨b, 0, none⟩ z0).setCell ⟨b, 1, none⟩ z1).setCell ⟨b, 2, none⟩ z2).setCell ⟨b, 3, none⟩ z3).setCell ⟨b, 4, none⟩ z4).setCell ⟨b, 5, none⟩ z5) b #[z0, z1, z2, z3, z4, z5] T := by
  have := (((((h.st 0 z0).st 1 z1).st 2 z2).st 3 z3).st 4 z4).st 5 z5
  simpa using this
theorem blk_ot6 {W : World} {b m : Nat} {cs : Array Value} {z0 z1 z2 z3 z4 z5 : Value} {T : TypeId} (h : Blk W b cs T) (hm : b ≠ m) : Blk ((((((W.setCell ⟨m, 0, none⟩ z0).setCell ⟨m, 1, none⟩ z1).setCell ⟨m, 2, none⟩ z2).setCell ⟨m, 3, none⟩ z3).setCell ⟨m, 4, none⟩ z4).setCell ⟨m, 5, none⟩ z5) b cs T :=
  (((((h.ot hm).ot hm).ot hm).ot hm).ot hm).ot hm
set_option maxRecDepth 100000 in
set_option maxHeartbeats 4000000 in
theorem lb_alike (x y : En) (l k : Lo) (w : World) (hx : RtAt w x.code l) (hy : RtAt w y.code k) (bx : RtBd x.code) (by_ : RtBd y.code) :
    Calls Try.prog 79 #[.agg #[.string x.name, .int .i64 x.ver, .slice l.a1 x.code.words.length l.c1, .slice l.a2 x.code.masks.length l.c2, .int .i64 x.code.entry, .int .i64 x.code.exit, .int .i64 x.code.result, .slice l.a3 x.code.args.length l.c3], .agg #[.string y.name, .int .i64 y.ver, .slice k.a1 y.code.words.length k.c1, .slice k.a2 y.code.masks.length k.c2, .int .i64 y.code.entry, .int .i64 y.code.exit, .int .i64 y.code.result, .slice k.a3 y.code.args.length k.c3]] w fun e w' => e = .returned (.bool (alikeB x y)) ∧ Ext w w' := by
  rw [alikeB_eq]
  have heq := fun W (E : Ext w W) => lb_equal l.a3 k.a3 _ _ l.c3 k.c3 x.code.args y.code.args W rfl rfl bx.b3 by_.b3 (hx.i3.ext E) (hy.i3.ext E)
  clear hx hy bx by_
  generalize (x.code.args == y.code.args) = qa at *
  generalize x.code.args.length = l3 at *
  generalize y.code.args.length = m3 at *
  generalize x.name = n1 at *
  generalize y.name = n2 at *
  generalize x.ver = v1 at *
  generalize y.ver = v2 at *
  generalize x.code.words.length = l1 at *
  generalize y.code.words.length = m1 at *
  generalize x.code.masks.length = l2 at *
  generalize y.code.masks.length = m2 at *
  generalize x.code.entry = en1 at *
  generalize y.code.entry = en2 at *
  generalize x.code.exit = ex1 at *
  generalize y.code.exit = ex2 at *
  generalize x.code.result = re1 at *
  generalize y.code.result = re2 at *
  obtain ⟨p1, k1, p2, k2, p3, k3⟩ := l
  obtain ⟨r1, j1, r2, j2, r3, j3⟩ := k
  dsimp only at heq ⊢
  clear x y
  rw [show (l1 == m1) = ((l1 : Int) == (m1 : Int)) by rw [Bool.eq_iff_iff, beq_iff_eq, beq_iff_eq]; omega]
  obtain ⟨g, hg⟩ : ∃ g, ((n1.toList == n2.toList) && ((l1 : Int) == (m1 : Int)) && (en1 == en2) && (ex1 == ex2) && (re1 == re2) && qa) = g := ⟨_, rfl⟩
  rw [hg]
  have HG := Lib.hid hg
  clear hg
  go_enter Try.func79, Try.ntmps79
  go_upto_region 1 with fail
  obtain ⟨X, hX⟩ : ∃ X, ((w.alloc (.cells #[.string n1, .int .i64 v1, .slice p1 l1 k1, .slice p2 l2 k2, .int .i64 en1, .int .i64 ex1, .int .i64 re1, .slice p3 l3 k3] 63)).alloc (.cells #[.string n2, .int .i64 v2, .slice r1 m1 j1, .slice r2 m2 j2, .int .i64 en2, .int .i64 ex2, .int .i64 re2, .slice r3 m3 j3] 63)) = X := ⟨_, rfl⟩
  have E0 : Ext w X := by rw [← hX]; exact (by repeat (first | with_reducible exact Ext.refl _ | with_reducible refine Ext.alloc ?_ _ | with_reducible refine Below.drew ?_))
  have hbx : Blk X w.heap.size #[.string n1, .int .i64 v1, .slice p1 l1 k1, .slice p2 l2 k2, .int .i64 en1, .int .i64 ex1, .int .i64 re1, .slice p3 l3 k3] 63 := by rw [← hX]; exact (Blk.nw _ _ _).al _
  have hby : Blk X (w.heap.size + 1) #[.string n2, .int .i64 v2, .slice r1 m1 j1, .slice r2 m2 j2, .int .i64 en2, .int .i64 ex2, .int .i64 re2, .slice r3 m3 j3] 63 := by rw [← hX]; have := Blk.nw (w.alloc (.cells #[.string n1, .int .i64 v1, .slice p1 l1 k1, .slice p2 l2 k2, .int .i64 en1, .int .i64 ex1, .int .i64 re1, .slice p3 l3 k3] 63)) #[.string n2, .int .i64 v2, .slice r1 m1 j1, .slice r2 m2 j2, .int .i64 en2, .int .i64 ex2, .int .i64 re2, .slice r3 m3 j3] 63; rw [World.size_alloc] at this; exact this
  have HE0 := Lib.hid E0
  rw [hX]
  obtain ⟨B, hB⟩ : ∃ B, w.heap.size = B := ⟨_, rfl⟩
  rw [hB] at hbx hby ⊢
  have hBX := hby.lt
  have HBX := Lib.hid hbx
  have HBY := Lib.hid hby
  clear E0 hX
  have HB := Lib.hid hB
  clear hB
  go_cut [5, 6] (fun x5 x6 wx => ∃ p q, x5 = .pointer (some ⟨p, 0, none⟩) ∧ x6 = .pointer (some ⟨q, 0, none⟩) ∧ Aside (Blk wx p #[.slice p1 l1 k1, .slice p2 l2 k2, .int .i64 en1, .int .i64 ex1, .int .i64 re1, .slice p3 l3 k3] 24 ∧ Blk wx q #[.slice r1 m1 j1, .slice r2 m2 j2, .int .i64 en2, .int .i64 ex2, .int .i64 re2, .slice r3 m3 j3] 24 ∧ Ext X wx))
  case first =>
    refine wp_region_P (fun i => i == 7) (fun W => Blk W B #[.string n1, .int .i64 v1, .slice p1 l1 k1, .slice p2 l2 k2, .int .i64 en1, .int .i64 ex1, .int .i64 re1, .slice p3 l3 k3] 63 ∧ Blk W (B + 1) #[.string n2, .int .i64 v2, .slice r1 m1 j1, .slice r2 m2 j2, .int .i64 en2, .int .i64 ex2, .int .i64 re2, .slice r3 m3 j3] 63) (by kernel_rfl) ⟨hbx.dr, hby.dr⟩ fun hSX => ?_
    obtain ⟨Y, hY⟩ : ∃ Y, X.drew = Y := ⟨_, rfl⟩
    rw [hY] at hSX ⊢
    have hYB : B + 1 < Y.heap.size := hSX.2.lt
    refine tkPP 0 ⟨_, _, _, _, _, _⟩ ?_ rfl (by kernel_rfl) (fun _ _ _ h => h) (Or.inl ⟨by rfl, ?_⟩) ?_
    rotate_left
    · intro wX _
      go_simp
      (try with_reducible rfl)
    (try simp only [Act.put, List.setIfInBounds_toArray, List.set_cons_succ, List.set_cons_zero])
    refine tkP 1 ⟨_, _, _, _, _, _⟩ ?_ rfl (by kernel_rfl) (fun _ _ _ h => h) (Or.inl ⟨by rfl, ?_⟩) hSX ?_
    rotate_left
    · intro wX hS
      have hb := hS.1
      have q2 := hb.c 2 (v := .slice p1 l1 k1) rfl
      have q3 := hb.c 3 (v := .slice p2 l2 k2) rfl
      have q4 := hb.c 4 (v := .int .i64 en1) rfl
      have q5 := hb.c 5 (v := .int .i64 ex1) rfl
      have q6 := hb.c 6 (v := .int .i64 re1) rfl
      have q7 := hb.c 7 (v := .slice p3 l3 k3) rfl
      go_simp
      (try with_reducible rfl)
    (try simp only [Act.put, List.setIfInBounds_toArray, List.set_cons_succ, List.set_cons_zero])
    refine tkPP 2 ⟨_, _, _, _, _, _⟩ ?_ rfl (by kernel_rfl) (fun _ _ _ h => h) (Or.inl ⟨by rfl, ?_⟩) ?_
    rotate_left
    · intro wX _
      go_simp
      (try with_reducible rfl)
    (try simp only [Act.put, List.setIfInBounds_toArray, List.set_cons_succ, List.set_cons_zero])
    refine tkP 3 ⟨_, _, _, _, _, _⟩ ?_ rfl (by kernel_rfl) (fun _ _ _ h => h) (Or.inl ⟨by rfl, ?_⟩) hSX ?_
    rotate_left
    · intro wX hS
      have hb := hS.2
      have q2 := hb.c 2 (v := .slice r1 m1 j1) rfl
      have q3 := hb.c 3 (v := .slice r2 m2 j2) rfl
      have q4 := hb.c 4 (v := .int .i64 en2) rfl
      have q5 := hb.c 5 (v := .int .i64 ex2) rfl
      have q6 := hb.c 6 (v := .int .i64 re2) rfl
      have q7 := hb.c 7 (v := .slice r3 m3 j3) rfl
      go_simp
      (try with_reducible rfl)
    (try simp only [Act.put, List.setIfInBounds_toArray, List.set_cons_succ, List.set_cons_zero])
    refine wpAnyP_two (i := 4) (j := 5) (oi := ⟨_, _, _, _, _, _⟩) (oj := ⟨_, _, _, _, _, _⟩) (by kernel_rfl) rfl rfl ?_ ?_ <;> intro K hK
    · skip
      go_simp
      refine hK _ _ (.inr fun h => ⟨h.1.al _, h.2.al _⟩) ?_
      clear hK
      refine wpAnyP_one (i := 5) (o := ⟨_, _, _, _, _, _⟩) (by kernel_rfl) rfl ?_ <;> intro K hK
      go_simp
      refine hK _ _ (.inr fun h => ⟨h.1.al _, h.2.al _⟩) ?_
      clear hK
      refine wpAnyP_one (i := 6) (o := ⟨_, _, _, _, _, _⟩) (by kernel_rfl) rfl ?_ <;> intro K hK
      go_simp
      refine hK _ _ (.inr fun _ => ⟨(hSX.1.al _).al _, (hSX.2.al _).al _⟩) ?_
      clear hK
      refine wpAnyP_one (i := 7) (o := ⟨_, _, _, _, _, _⟩) (by kernel_rfl) rfl ?_ <;> intro K hK
      go_simp
      refine hK _ _ (.inl rfl) ?_
      clear hK
      refine wpAnyP_done (by kernel_rfl) ?_ _
      go_wp2_with fail
      go_meet
      have hz0 := Blk.nw Y #[.slice p1 l1 k1, .slice p2 l2 k2, .int .i64 en1, .int .i64 ex1, .int .i64 re1, .slice p3 l3 k3] 24
      have hz1 := Blk.nw (Y.alloc (.cells #[.slice p1 l1 k1, .slice p2 l2 k2, .int .i64 en1, .int .i64 ex1, .int .i64 re1, .slice p3 l3 k3] 24)) #[.slice r1 m1 j1, .slice r2 m2 j2, .int .i64 en2, .int .i64 ex2, .int .i64 re2, .slice r3 m3 j3] 24
      rw [World.size_alloc] at hz1
      exact ⟨_, _, rfl, rfl, hz0.al _, hz1, by rw [← hY]; exact Ext.alloc (Ext.alloc (Ext.refl X).drew _) _⟩
    · skip
      go_simp
      refine hK _ _ (.inr fun h => ⟨h.1.al _, h.2.al _⟩) ?_
      clear hK
      refine wpAnyP_one (i := 4) (o := ⟨_, _, _, _, _, _⟩) (by kernel_rfl) rfl ?_ <;> intro K hK
      go_simp
      refine hK _ _ (.inr fun h => ⟨h.1.al _, h.2.al _⟩) ?_
      clear hK
      refine wpAnyP_one (i := 6) (o := ⟨_, _, _, _, _, _⟩) (by kernel_rfl) rfl ?_ <;> intro K hK
      go_simp
      refine hK _ _ (.inr fun _ => ⟨(hSX.1.al _).al _, (hSX.2.al _).al _⟩) ?_
      clear hK
      refine wpAnyP_one (i := 7) (o := ⟨_, _, _, _, _, _⟩) (by kernel_rfl) rfl ?_ <;> intro K hK
      go_simp
      refine hK _ _ (.inl rfl) ?_
      clear hK
      refine wpAnyP_done (by kernel_rfl) ?_ _
      go_wp2_with fail
      go_meet
      have hz0 := Blk.nw Y #[.slice r1 m1 j1, .slice r2 m2 j2, .int .i64 en2, .int .i64 ex2, .int .i64 re2, .slice r3 m3 j3] 24
      have hz1 := Blk.nw (Y.alloc (.cells #[.slice r1 m1 j1, .slice r2 m2 j2, .int .i64 en2, .int .i64 ex2, .int .i64 re2, .slice r3 m3 j3] 24)) #[.slice p1 l1 k1, .slice p2 l2 k2, .int .i64 en1, .int .i64 ex1, .int .i64 re1, .slice p3 l3 k3] 24
      rw [World.size_alloc] at hz1
      exact ⟨_, _, rfl, rfl, hz1, hz0.al _, by rw [← hY]; exact Ext.alloc (Ext.alloc (Ext.refl X).drew _) _⟩
  case rest =>
    obtain ⟨p, q, rfl, rfl, HF⟩ := hcut
    obtain ⟨hp, hq, EF⟩ := HF.out
    have hbx' := HBX.out.ex EF
    have hby' := HBY.out.ex EF
    have heqw := fun W E => heq W (HE0.out.comp (EF.comp E))
    have HEF := Lib.hid (HE0.out.comp EF)
    have q0 := Blk.c hbx' 0 (v := .string n1) rfl
    have s0 := q0
    clear q0
    have t0 := Blk.c hby' 0 (v := .string n2) rfl
    have q0 := Blk.c hp 0 (v := .slice p1 l1 k1) rfl
    have q1 := Blk.c hp 1 (v := .slice p2 l2 k2) rfl
    have q2 := Blk.c hp 2 (v := .int .i64 en1) rfl
    have q3 := Blk.c hp 3 (v := .int .i64 ex1) rfl
    have q4 := Blk.c hp 4 (v := .int .i64 re1) rfl
    have q5 := Blk.c hp 5 (v := .slice p3 l3 k3) rfl
    have u0 := Blk.c hq 0 (v := .slice r1 m1 j1) rfl
    have u1 := Blk.c hq 1 (v := .slice r2 m2 j2) rfl
    have u2 := Blk.c hq 2 (v := .int .i64 en2) rfl
    have u3 := Blk.c hq 3 (v := .int .i64 ex2) rfl
    have u4 := Blk.c hq 4 (v := .int .i64 re2) rfl
    have u5 := Blk.c hq 5 (v := .slice r3 m3 j3) rfl
    clear heq hbx hby HBX HBY hbx' hby' hp hq HE0 HF EF
    cases g1 : (n1.toList == n2.toList) with
    | false =>
      have HR := Lib.hid (show g = false by rw [← HG.out, g1]; rfl)
      clear HG
      go_wp2_with fail
      go_ret
      exact ⟨by rw [HR.out]; rfl, HEF.out⟩
    | true =>
    cases g2 : ((l1 : Int) == (m1 : Int)) with
    | false =>
      have HR := Lib.hid (show g = false by rw [← HG.out, g1, g2]; rfl)
      clear HG
      go_wp2_with fail
      go_ret
      exact ⟨by rw [HR.out]; rfl, HEF.out⟩
    | true =>
    cases g3 : (en1 == en2) with
    | false =>
      have HR := Lib.hid (show g = false by rw [← HG.out, g1, g2, g3]; rfl)
      clear HG
      go_wp2_with fail
      go_ret
      exact ⟨by rw [HR.out]; rfl, HEF.out⟩
    | true =>
    cases g4 : (ex1 == ex2) with
    | false =>
      have HR := Lib.hid (show g = false by rw [← HG.out, g1, g2, g3, g4]; rfl)
      clear HG
      go_wp2_with fail
      go_ret
      exact ⟨by rw [HR.out]; rfl, HEF.out⟩
    | true =>
    cases g5 : (re1 == re2) with
    | false =>
      have HR := Lib.hid (show g = false by rw [← HG.out, g1, g2, g3, g4, g5]; rfl)
      clear HG
      go_wp2_with fail
      go_ret
      exact ⟨by rw [HR.out]; rfl, HEF.out⟩
    | true =>
    have HR := Lib.hid (show g = qa by rw [← HG.out, g1, g2, g3, g4, g5]; rfl)
    clear HG
    have hE := heqw _ (Ext.refl _)
    clear heqw
    go_wp2_with fail
    refine hE.mono ?_
    rintro e w1 ⟨rfl, E1⟩
    go_wp2_with fail
    go_ret
    exact ⟨by rw [HR.out]; rfl, HEF.out.comp E1⟩
end Go.Proofs.Ytcijneecjkpebaa

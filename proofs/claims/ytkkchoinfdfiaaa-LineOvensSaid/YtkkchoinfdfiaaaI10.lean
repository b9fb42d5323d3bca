/- Contracts of layer 1's reference: begin, Heats. -/
import Derived.Test.YtkkchoinfdfiaaaI9
set_option linter.unusedVariables false
set_option linter.unusedSimpArgs false
namespace Go.Q
open Go.RowKit
/-- the cells of states -/
def tv (os : List (Int × Bool)) : List Value := os.flatMap fun s => [.int .i64 s.1, .bool s.2]
theorem tv_length (os : List (Int × Bool)) : (tv os).length = os.length * 2 := by
  unfold tv
  induction os with
  | nil => rfl
  | cons s os ih => rw [List.flatMap_cons, List.length_append, ih]; simp; omega
theorem tv_snoc (os : List (Int × Bool)) (s : Int × Bool) : tv (os ++ [s]) = tv os ++ [.int .i64 s.1, .bool s.2] := by simp [tv]
theorem tv_get : ∀ (os : List (Int × Bool)) (i : Nat), i < os.length → (tv os)[i * 2]? = some (.int .i64 (os[i]?.getD (0, false)).1) ∧ (tv os)[i * 2 + 1]? = some (.bool (os[i]?.getD (0, false)).2)
  | [], i, h => by simp at h
  | s :: os, 0, _ => by simp [tv]
  | s :: os, i + 1, h => by
    have ih := tv_get os i (by simpa using h)
    have e : tv (s :: os) = .int .i64 s.1 :: .bool s.2 :: tv os := by simp [tv]
    rw [e, show (i + 1) * 2 = i * 2 + 1 + 1 by omega, show i * 2 + 1 + 1 + 1 = (i * 2 + 1) + 1 + 1 by omega]
    simpa using ih
/-- states in memory -/
def StsAt (w : World) (a : Option Addr) (os : List (Int × Bool)) : Prop :=
  os = [] ∨ ∃ b off, a = some ⟨b, off, none⟩ ∧ b < w.heap.size ∧ ∀ i, i < os.length → w.cell? ⟨b, off + i * 2, none⟩ = some (.int .i64 (os[i]?.getD (0, false)).1) ∧ w.cell? ⟨b, off + i * 2 + 1, none⟩ = some (.bool (os[i]?.getD (0, false)).2)
theorem StsAt.ext {w w' : World} {a : Option Addr} {os : List (Int × Bool)} (h : StsAt w a os) (E : Ext w w') : StsAt w' a os := by
  rcases h with h | ⟨b, off, ha, hb, hc⟩
  · exact .inl h
  · exact .inr ⟨b, off, ha, Nat.lt_of_lt_of_le hb E.size, fun i hi => ⟨(E.cell (p := ⟨b, off + i * 2, none⟩) hb).trans (hc i hi).1, (E.cell (p := ⟨b, off + i * 2 + 1, none⟩) hb).trans (hc i hi).2⟩⟩
def stL (temp : Sp) (heats : Bool) (k : Nat) : List (Int × Bool) := fstN (fun i => (temp.lo + (i : Int), heats)) k
theorem stL_succ (temp : Sp) (heats : Bool) (k : Nat) : stL temp heats (k + 1) = stL temp heats k ++ [(temp.lo + (k : Int), heats)] := fstN_succ _ _
theorem stL_length (temp : Sp) (heats : Bool) (k : Nat) : (stL temp heats k).length = k := fstN_length _ _
theorem stL_all (o : Ov) (temp : Sp) (heats : Bool) : stL temp heats (temp.hi - temp.lo + 1).toNat = listO o temp heats 0 := by
  unfold stL listO tempsS fstN
  rw [List.map_map]
  rfl
end Go.Q
namespace Go.Proofs.Ytkkchoinfdfiaaa
open Go.RowKit Go.Q Go.Shelf Go.Maps

theorem Try.infoSt : (Try.prog.info? 106).map (fun i => (i.zero, i.size, i.bytes)) = some (some (.agg #[.int .i64 0, .bool false]), 2, 16) := by kernel_rfl
/-- states in memory, in a block of states -/
def StsT (w : World) (a : Option Addr) (os : List (Int × Bool)) : Prop :=
  os = [] ∨ ∃ b off cs, a = some ⟨b, off, none⟩ ∧ w.heap[b]? = some (.cells cs 106 (0, 0)) ∧ ∀ i, i < os.length → w.cell? ⟨b, off + i * 2, none⟩ = some (.int .i64 (os[i]?.getD (0, false)).1) ∧ w.cell? ⟨b, off + i * 2 + 1, none⟩ = some (.bool (os[i]?.getD (0, false)).2)
theorem StsT.plain {w : World} {a : Option Addr} {os : List (Int × Bool)} (h : StsT w a os) : StsAt w a os := by
  rcases h with h | ⟨b, off, cs, ha, hb, hc⟩
  · exact .inl h
  · exact .inr ⟨b, off, ha, (Array.getElem?_eq_some_iff.1 hb).1, hc⟩
theorem StsT.same {w w' : World} {a : Option Addr} {os : List (Int × Bool)} (h : StsT w a os) (e : ∀ (b : Nat) (cs : Array Value), w.heap[b]? = some (.cells cs 106 (0, 0)) → w'.heap[b]? = w.heap[b]?) : StsT w' a os := by
  rcases h with h | ⟨b, off, cs, ha, hb, hc⟩
  · exact .inl h
  · refine .inr ⟨b, off, cs, ha, (e b cs hb).trans hb, fun i hi => ?_⟩
    have h1 := hc i hi
    exact ⟨(World.cell?_of_block (w := w) (e b cs hb)).trans h1.1, (World.cell?_of_block (w := w) (e b cs hb)).trans h1.2⟩
theorem StsT.ext {w w' : World} {a : Option Addr} {os : List (Int × Bool)} (h : StsT w a os) (E : Ext w w') : StsT w' a os := h.same (fun b cs hb => E.block b (Array.getElem?_eq_some_iff.1 hb).1)
theorem own_sts {w : World} {B n c : Nat} {a : Option Addr} {os : List (Int × Bool)} (hn : os.length = n) (h : w.ownsRow B 106 2 (.slice a n c) n (tv os)) : StsT w a os := by
  rcases h.2 with ⟨h1, h2⟩ | ⟨g, cap, cur, h1, h2, h3, h4, h5, h6, h7⟩
  · left
    have h0 := h.1
    rw [tv_length, h2] at h0
    cases os with
    | nil => rfl
    | cons s os => simp at h0
  · obtain ⟨rfl, -, -⟩ := Value.slice.inj h1
    refine .inr ⟨g, 0, cur, rfl, h3, fun i hi => ⟨?_, ?_⟩⟩
    · have := World.ownsRow.cells h (g := g) rfl (i * 2) _ (tv_get os i hi).1
      rw [Addr.add_lit] at this
      exact this
    · have := World.ownsRow.cells h (g := g) rfl (i * 2 + 1) _ (tv_get os i hi).2
      rw [Addr.add_lit] at this
      rw [Nat.zero_add, ← Nat.zero_add (i * 2 + 1)]
      exact this
theorem own_form3 {w : World} {nb t sz n : Nat} {v : Value} {xs : List Value} (h : w.ownsRow nb t sz v n xs) : ∃ a c, v = .slice a n c := by
  rcases h.2 with ⟨h1, h2⟩ | ⟨g, cap, cur, h1, _⟩
  · exact ⟨none, 0, by rw [h2]; exact h1⟩
  · exact ⟨_, _, h1⟩
set_option maxHeartbeats 1000000 in
theorem rheats_any (o : Ov) (t : Int) (h : Bool) (w : World) :
    Calls Try.prog 98 #[.agg #[.int .i64 o.low, .int .i64 o.high, .int .i64 o.warm.lo, .int .i64 o.warm.hi, .int .i64 o.cool.lo, .int .i64 o.cool.hi], .int .i64 t, .bool h] w fun e w' => e = .returned (.bool (heatsO o t h)) ∧ Ext w w' := by
  unfold heatsO
  by_cases h1 : t < o.low
  · rw [show (decide (t < o.low) || (decide (t ≤ o.high) && h)) = true by simp [h1]]
    go_enter Try.func98, Try.ntmps98
    go_wp2
    go_ret
    exact ⟨rfl, (Ext.refl w).alloc _⟩
  · by_cases h2 : t ≤ o.high
    · rw [show (decide (t < o.low) || (decide (t ≤ o.high) && h)) = h by simp [h1, h2]]
      go_enter Try.func98, Try.ntmps98
      go_wp2
      go_ret
      exact ⟨rfl, (Ext.refl w).alloc _⟩
    · rw [show (decide (t < o.low) || (decide (t ≤ o.high) && h)) = false by simp [h1, h2]]
      go_enter Try.func98, Try.ntmps98
      go_wp2
      go_ret
      exact ⟨rfl, (Ext.refl w).alloc _⟩
set_option maxRecDepth 100000 in
set_option maxHeartbeats 4000000 in
theorem rbegin_any (temp : Sp) (heats : Bool) (w : World) (h0 : -500 ≤ temp.lo) (h1 : temp.hi ≤ 1000) :
    Calls Try.prog 75 #[.agg #[.int .i64 temp.lo, .int .i64 temp.hi], .bool heats] w fun e w' => ∃ a c, e = .returned (.slice a (temp.hi - temp.lo + 1).toNat c) ∧ StsT w' a (stL temp heats (temp.hi - temp.lo + 1).toNat) ∧ Ext w w' := by
  obtain ⟨i0, hi, hz0, hz1, hz2⟩ := info_parts Try.infoSt
  obtain ⟨N, hN⟩ : ∃ N, (temp.hi - temp.lo + 1).toNat = N := ⟨_, rfl⟩
  rw [hN]
  have hNb : (N : Int) ≤ 1501 := by omega
  by_cases hle : temp.lo ≤ temp.hi
  · have hNe1 : temp.hi < temp.lo + (N : Int) := by omega
    have hNe2 : temp.lo + (N : Int) ≤ temp.hi + 1 := by omega
    clear hN
    go_enter Try.func75, Try.ntmps75
    go_wp2
    go_loopw [5, 6] (fun s5 s6 wr => ∃ k : Nat, k ≤ N ∧ s6 = .int .i64 (temp.lo + k) ∧ wr.ownsRow (w.heap.size + 1) 106 2 s5 k (tv (stL temp heats k)) ∧ Ext (w.alloc (.cells #[.int .i64 temp.lo, .int .i64 temp.hi] 49)) wr) (fun _ s6 _ => (temp.hi + 1 - Go.RowKit.intOf s6).toNat)
    case atStart => exact ⟨0, Nat.zero_le _, by congr 1; omega, World.ownsRow_nil _ _ _ _, Ext.refl _⟩
    case round =>
      obtain ⟨k, hk, rfl, hown, E⟩ := hrel
      obtain ⟨X, rfl⟩ : ∃ X : World, X = wr := ⟨_, rfl⟩
      have z0 := box_at (v := .int .i64 temp.lo) E 0 rfl
      have z1 := box_at (v := .int .i64 temp.hi) E 1 rfl
      have hsz := E.size
      simp at hsz
      by_cases hlt : k < N
      · have hle2 : temp.lo + (k : Int) ≤ temp.hi := by omega
        have HS := Lib.hid (stL_succ temp heats k)
        obtain ⟨t, ht⟩ : ∃ t, temp.lo + (k : Int) = t := ⟨_, rfl⟩
        have HT := Lib.hid ht
        have htb : -500 ≤ t ∧ t ≤ 1000 := by omega
        obtain ⟨htb0, htb1⟩ := htb
        have hTE : temp.lo + ((k + 1 : Nat) : Int) = t + 1 := by omega
        have HTE := Lib.hid hTE
        rw [ht] at hle2 ⊢
        clear ht hTE
        go_wp2_with (at_builtin; refine wpList_append_own _ rfl _ _ 102 rfl (w.heap.size + 1) 106 i0 (.agg #[.int .i64 0, .bool false]) 2 16 Try.underlying102 hi hz0 hz1 hz2 rfl (by decide) _ _ _ rfl (hown.alloc _) ⟨X.heap.size, 0, none⟩ 1 1 [.int .i64 t, .bool heats] rfl rfl (cell_two_new2 _ _ _ _) (by simp [Value.oneCell']) (by unfold maxLen; omega) (by omega) (by simp; omega) ?_; intro v' w3 hown' hgrow hnil; clear hnil)
        have hE3 : Ext (w.alloc (.cells #[.int .i64 temp.lo, .int .i64 temp.hi] 49)) w3 := (E.alloc _).grown hgrow (by simp; omega) (fun q e => by have := (hown.lt q e).1; simp; omega)
        have hown3 : w3.ownsRow (w.heap.size + 1) 106 2 v' (k + 1) (tv (stL temp heats (k + 1))) := by
          rw [HS.out, tv_snoc, HT.out]; exact hown'
        clear z0 z1 hgrow hown' hown
        go_wp2
        go_roundw
        case rel => exact ⟨k + 1, by omega, by rw [HTE.out], hown3, hE3⟩
        case measure => simp only [Go.RowKit.intOf]; omega
      · have hle2 : ¬ temp.lo + (k : Int) ≤ temp.hi := by omega
        obtain rfl : k = N := by omega
        obtain ⟨a, c, rfl⟩ := own_form3 hown
        go_wp2
        exact bodyPost_ret (v := .slice a k c) (by simp [results, Try.results75, go_sem]) rfl ⟨a, ⟨c, rfl⟩, own_sts (stL_length _ _ _) hown, E.old⟩
  · have hN0 : N = 0 := by omega
    subst hN0
    clear hN hNb
    go_enter Try.func75, Try.ntmps75
    go_wp2
    go_loopw [5, 6] (fun s5 s6 wr => s5 = .slice none 0 0 ∧ s6 = .int .i64 temp.lo ∧ Ext (w.alloc (.cells #[.int .i64 temp.lo, .int .i64 temp.hi] 49)) wr) (fun _ _ _ => 0)
    case atStart => exact ⟨rfl, rfl, Ext.refl _⟩
    case round =>
      obtain ⟨rfl, rfl, E⟩ := hrel
      have z0 := box_at (v := .int .i64 temp.lo) E 0 rfl
      have z1 := box_at (v := .int .i64 temp.hi) E 1 rfl
      go_wp2
      exact bodyPost_ret (v := .slice none 0 0) (by simp [results, Try.results75, go_sem]) rfl ⟨none, 0, rfl, .inl rfl, E.old⟩
end Go.Proofs.Ytkkchoinfdfiaaa

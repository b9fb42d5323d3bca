/- Contracts of layer 1's reference: Pulses, Late, Joined; ones of the laws. -/
import Derived.Test.YtkkchoinfdfiaaaJ4
set_option linter.unusedVariables false
set_option linter.unusedSimpArgs false
namespace Go.Q
def b2i (b : Bool) : Int := if b = true then 1 else 0
def b2is (ps : List Bool) : List Int := ps.map b2i
theorem b2is_length (ps : List Bool) : (b2is ps).length = ps.length := by unfold b2is; rw [List.length_map]
theorem b2is_get (ps : List Bool) (i : Nat) : (b2is ps)[i]?.getD 0 = b2i (ps[i]?.getD false) := by
  unfold b2is
  rw [List.getElem?_map]
  cases ps[i]? <;> rfl
theorem b2is_app (xs ys : List Bool) : b2is (xs ++ ys) = b2is xs ++ b2is ys := by unfold b2is; rw [List.map_append]
theorem bitN_b2i (x : Int) (k : Nat) : x / 2 ^ k % 2 = b2i (bitN x k) := by
  unfold b2i bitN
  rcases Int.emod_two_eq (x / 2 ^ k) with h | h <;> rw [h] <;> rfl
theorem half_step (x : Int) (k : Nat) : x / 2 ^ k / 2 = x / 2 ^ (k + 1) := by
  rw [Int.pow_succ, Int.ediv_ediv_of_nonneg (Int.le_of_lt (Int.pow_pos (by decide)))]
theorem half_bd {x : Int} (h0 : 0 ≤ x) (h1 : x ≤ 9223372036854775807) (k : Nat) : 0 ≤ x / 2 ^ k ∧ x / 2 ^ k ≤ 9223372036854775807 := by
  have hp : (0 : Int) < 2 ^ k := Int.pow_pos (by decide)
  have h2 := Int.ediv_nonneg h0 (Int.le_of_lt hp)
  have h3 := Int.ediv_le_self (2 ^ k) h0
  omega
/-- a list that comes y places later, as far as its first k have been laid -/
def lateK (xs : List Int) (y : Int) (k : Nat) : List Int := fstN (fun j => if (((j : Int) - y) % (xs.length : Int)).toNat < k then (xs[(((j : Int) - y) % (xs.length : Int)).toNat]?).getD 0 else 0) xs.length
theorem lateK_length (xs : List Int) (y : Int) (k : Nat) : (lateK xs y k).length = xs.length := fstN_length _ _
theorem lateK_zero (xs : List Int) (y : Int) : lateK xs y 0 = List.replicate xs.length 0 := by
  refine list_ext (by rw [lateK_length, List.length_replicate]) fun j hj => ?_
  rw [lateK_length] at hj
  unfold lateK
  rw [fstN_get _ hj, if_neg (Nat.not_lt_zero _), List.getElem?_replicate, if_pos hj]
theorem lateK_all (xs : List Int) (y : Int) : lateK xs y xs.length = rotP 0 xs y := by
  refine list_ext (by rw [lateK_length, rotP_length]) fun j hj => ?_
  rw [lateK_length] at hj
  unfold lateK
  have h1 := Int.emod_nonneg ((j : Int) - y) (show (xs.length : Int) ≠ 0 by omega)
  have h2 := Int.emod_lt_of_pos ((j : Int) - y) (show 0 < (xs.length : Int) by omega)
  rw [fstN_get _ hj, rotP_get hj, if_pos (by omega)]
theorem lateK_step {xs : List Int} {y : Int} {k p : Nat} (hk : k < xs.length) (hp : ((k : Int) + y) % (xs.length : Int) = p) : (lateK xs y k).set p (xs[k]?.getD 0) = lateK xs y (k + 1) := by
  have hpl : p < xs.length := by
    have := Int.emod_lt_of_pos ((k : Int) + y) (show 0 < (xs.length : Int) by omega)
    omega
  refine list_ext (by rw [List.length_set, lateK_length, lateK_length]) fun j hj => ?_
  rw [List.length_set, lateK_length] at hj
  have e1 := Int.emod_add_mul_ediv ((k : Int) + y) (xs.length : Int)
  have h1 := Int.emod_nonneg ((j : Int) - y) (show (xs.length : Int) ≠ 0 by omega)
  have h2 := Int.emod_lt_of_pos ((j : Int) - y) (show 0 < (xs.length : Int) by omega)
  have e2 := Int.emod_add_mul_ediv ((j : Int) - y) (xs.length : Int)
  rw [List.getElem?_set, lateK_length]
  by_cases e : p = j
  · subst e
    rw [if_pos rfl, if_pos hj]
    have e3 : ((p : Int) - y) % (xs.length : Int) = k := by
      rw [← hp, show (k : Int) = ((k : Int) + y - y) by omega]
      rw [Int.sub_emod, Int.emod_emod, ← Int.sub_emod, Int.add_sub_cancel, Int.emod_eq_of_lt (by omega) (by omega)]
    unfold lateK
    rw [fstN_get _ hj, e3, Int.toNat_natCast, if_pos (by omega)]
  · rw [if_neg e]
    unfold lateK
    rw [fstN_get _ hj, fstN_get _ hj]
    have e3 : ((((j : Int) - y) % (xs.length : Int)).toNat < k) ↔ ((((j : Int) - y) % (xs.length : Int)).toNat < k + 1) := by
      constructor
      · intro h; omega
      · intro h
        by_cases h4 : (((j : Int) - y) % (xs.length : Int)).toNat = k
        · exfalso
          have h5 : ((j : Int) - y) % (xs.length : Int) = k := by omega
          rw [← h5, Int.add_comm, Int.add_emod, Int.emod_emod, ← Int.add_emod, show y + ((j : Int) - y) = j by omega, Int.emod_eq_of_lt (by omega) (by omega)] at hp
          omega
        · omega
    by_cases h : (((j : Int) - y) % (xs.length : Int)).toNat < k
    · rw [if_pos h, if_pos (e3.1 h)]
    · rw [if_neg h, if_neg (fun h2 => h (e3.2 h2))]
theorem iv_rep (n : Nat) : Array.replicate n (Value.int .i64 0) = (Go.Proofs.Ytkkchoinfdfiaaa.iv (List.replicate n 0)).toArray := by
  apply Array.ext'
  simp [Go.Proofs.Ytkkchoinfdfiaaa.iv]
end Go.Q
namespace Go.Proofs.Ytkkchoinfdfiaaa
open Go.RowKit Go.Q Go.Shelf Go.Maps

theorem ints_fresh5 {X : World} {b : Nat} {l : Array Value} {xs : List Int} {t : TypeId} (h : X.heap[b]? = some (.cells l t (0, 0))) (hl : l = (iv xs).toArray) : IntsAt X (some ⟨b, 0, none⟩) xs := by
  subst hl
  refine .inr ⟨b, 0, rfl, (Array.getElem?_eq_some_iff.1 h).1, fun i hi => ?_⟩
  rw [Nat.zero_add]
  exact blk_cell h i (by rw [List.getElem?_toArray]; exact iv_get _ i hi)
theorem set_iv {X : World} {b p : Nat} {xs : List Int} {t : TypeId} {x : Int} (h : X.heap[b]? = some (.cells (iv xs).toArray t (0, 0))) : (X.setCell ⟨b, p, none⟩ (.int .i64 x)).heap[b]? = some (.cells (iv (xs.set p x)).toArray t (0, 0)) := by
  have := heap_setCell_same X b p _ _ (.int .i64 x) h
  rw [this, ← iv_set]
  simp
set_option maxRecDepth 100000 in
set_option maxHeartbeats 4000000 in
theorem rpulses_any (bits : Nat) (a : Option Addr) (n c : Nat) (ws : List Int) (w : World) (hb : bits ≤ 40) (hn : ws.length = n) (hbig : n ≤ 64) (hI : IntsAt w a ws) (hw : ∀ x ∈ ws, 0 ≤ x ∧ x ≤ 9223372036854775807) :
    Calls Try.prog 34 #[.slice a n c, .int .i64 bits] w fun e w' => ∃ a' c', e = .returned (.slice a' (n * bits) c') ∧ w'.ownsRow w.heap.size 3 1 (.slice a' (n * bits) c') (n * bits) (iv (b2is (pulsesN bits ws))) ∧ Ext w w' := by
  obtain ⟨i0, hi, hz0, hz1, hz2⟩ := info_parts Try.infoE
  have hcell : ∀ W, Ext w W → ∀ k, k < n → ∃ b off, a = some ⟨b, off, none⟩ ∧ W.cell? ⟨b, off + k, none⟩ = some (.int .i64 (ws[k]?.getD 0)) ∧ 0 ≤ ws[k]?.getD 0 ∧ ws[k]?.getD 0 ≤ 9223372036854775807 := by
    intro W E k hk
    rcases hI with e | ⟨b, off, ha, hb, hc⟩
    · rw [e] at hn; simp at hn; omega
    · refine ⟨b, off, ha, (E.cell (p := ⟨b, off + k, none⟩) hb).trans (hc k (by omega)), ?_⟩
      rw [List.getElem?_eq_getElem (by omega)]
      exact hw _ (List.getElem_mem _)
  have HC := Lib.hid hcell
  have HN := Lib.hid hn
  clear hcell hn hI hw
  go_enter Try.func34, Try.ntmps34
  go_wp2
  have hplen : ∀ k, k ≤ n → (b2is (pulsesN bits (ws.take k))).length ≤ 2560 := by
    intro k hk
    rw [b2is_length, pulsesN_length, List.length_take]
    have h1 : min k ws.length * bits ≤ 64 * 40 := Nat.mul_le_mul (by omega) hb
    omega
  have HPL := Lib.hid hplen
  clear hplen
  go_loopw [5, 6] (fun s5 s6 wr => ∃ k : Nat, k ≤ n ∧ s6 = .int .i64 k ∧ wr.ownsRow w.heap.size 3 1 s5 (b2is (pulsesN bits (ws.take k))).length (iv (b2is (pulsesN bits (ws.take k)))) ∧ Ext w wr) (fun _ s6 _ => n - (Go.RowKit.intOf s6).toNat)
  case atStart => exact ⟨0, Nat.zero_le _, rfl, World.ownsRow_nil _ _ _ _, Ext.refl _⟩
  case round =>
    obtain ⟨k, hk, rfl, hown, EX⟩ := hrel
    obtain ⟨X, rfl⟩ : ∃ X : World, X = wr := ⟨_, rfl⟩
    by_cases hlt : k < n
    · have hltz : (k : Int) < (n : Int) := by omega
      obtain ⟨b, off, rfl, hc, hx0, hx1⟩ := HC.out X EX k hlt
      obtain ⟨x, hx⟩ : ∃ x, ws[k]?.getD 0 = x := ⟨_, rfl⟩
      rw [hx] at hc hx0 hx1
      have HS := Lib.hid (show b2is (pulsesN bits (ws.take (k + 1))) = b2is (pulsesN bits (ws.take k)) ++ b2is (fstN (bitN x) bits) by
        rw [← b2is_app, ← pulses_step bits ws k x (by rw [HN.out]; exact hlt) hx]
        rfl)
      have hpl := HPL.out k hk
      obtain ⟨pre, hpre⟩ : ∃ pre, b2is (pulsesN bits (ws.take k)) = pre := ⟨_, rfl⟩
      rw [hpre] at hown HS hpl
      clear hx hpre
      go_wp2
      go_loopw [5, 7, 8] (fun s5 s7 s8 Y => ∃ j : Nat, j ≤ bits ∧ s8 = .int .i64 j ∧ s7 = .int .i64 (x / 2 ^ j) ∧ Y.ownsRow w.heap.size 3 1 s5 (pre ++ b2is (fstN (bitN x) j)).length (iv (pre ++ b2is (fstN (bitN x) j))) ∧ Ext w Y) (fun _ _ s8 _ => bits - (Go.RowKit.intOf s8).toNat)
      case atStart => exact ⟨0, Nat.zero_le _, rfl, by simp, by simpa [fstN, b2is] using hown, EX⟩
      case round =>
        clear hown EX
        obtain ⟨j, hj, rfl, rfl, hown, EY⟩ := hrel
        obtain ⟨Y, rfl⟩ : ∃ Y : World, Y = wr := ⟨_, rfl⟩
        have hlen : (pre ++ b2is (fstN (bitN x) j)).length ≤ 2600 := by rw [List.length_append, b2is_length, fstN_length]; omega
        have hYs := EY.size
        by_cases hjl : j < bits
        · have hjz : (j : Int) < (bits : Int) := by omega
          obtain ⟨hy0, hy1⟩ := half_bd hx0 hx1 j
          have HB := Lib.hid (bitN_b2i x j)
          have HH := Lib.hid (half_step x j)
          obtain ⟨y, hye⟩ : ∃ y, x / 2 ^ j = y := ⟨_, rfl⟩
          rw [hye] at hy0 hy1 HB HH ⊢
          clear hye
          go_wp2_with (at_builtin; refine wpList_append_own _ rfl _ _ 26 rfl w.heap.size 3 i0 (.int .i64 0) 1 8 Try.underlying26 hi hz0 hz1 hz2 rfl (by decide) _ _ _ rfl (hown.alloc _) ⟨Y.heap.size, 0, none⟩ 1 1 [.int .i64 (y % 2)] rfl rfl (cell_one_new _ _ _) (by simp [Value.oneCell']) (by unfold maxLen; omega) (by omega) (by simp; omega) ?_; intro v' w3 hown' hgrow hnil; clear hnil)
          have E3 : Ext w w3 := (EY.alloc _).grown hgrow (by simp; omega) (fun q e => (hown.lt q e).1)
          have hown3 : w3.ownsRow w.heap.size 3 1 v' (pre ++ b2is (fstN (bitN x) (j + 1))).length (iv (pre ++ b2is (fstN (bitN x) (j + 1)))) := by
            have e : pre ++ b2is (fstN (bitN x) (j + 1)) = (pre ++ b2is (fstN (bitN x) j)) ++ [y % 2] := by
              rw [fstN_succ, b2is_app, List.append_assoc, HB.out]
              rfl
            rw [e, List.length_append]
            unfold iv at hown' ⊢
            rw [List.map_append]
            exact hown'
          clear hown hown' hgrow
          (try go_frame)
          go_wp2
          go_roundw
          case rel => exact ⟨j + 1, by omega, by go_num, by rw [← HH.out], hown3, E3⟩
          case measure => simp [Go.RowKit.intOf]; omega
        · have hjz : ¬ (j : Int) < (bits : Int) := by omega
          obtain rfl : j = bits := by omega
          rw [← HS.out] at hown
          go_wp2
          go_roundw
          case rel => exact ⟨k + 1, by omega, by go_num, hown, EY⟩
          case measure => simp [Go.RowKit.intOf]; omega
    · have hltz : ¬ (k : Int) < (n : Int) := by omega
      obtain rfl : k = n := by omega
      rw [show ws.take k = ws from List.take_of_length_le (by rw [HN.out]; exact Nat.le_refl _)] at hown
      have HL := Lib.hid (show (b2is (pulsesN bits ws)).length = k * bits by rw [b2is_length, pulsesN_length, HN.out])
      obtain ⟨av, cv, rfl⟩ := own_form hown
      go_wp2
      refine bodyPost_ret (v := .slice av (b2is (pulsesN bits ws)).length cv) (by simp [results, Try.results34, go_sem]) rfl ?_
      rw [HL.out] at hown ⊢
      exact ⟨av, cv, rfl, hown, EX⟩
set_option maxRecDepth 100000 in
set_option maxHeartbeats 4000000 in
theorem rlate_any (a : Option Addr) (n c : Nat) (xs : List Int) (by_ : Int) (w : World) (hn : xs.length = n) (hbig : n ≤ 2600) (hI : IntsAt w a xs) (hy : -1000000000000000 ≤ by_ ∧ by_ ≤ 1000000000000000) :
    Calls Try.prog 33 #[.slice a n c, .int .i64 by_] w fun e w' => ∃ a' c', e = .returned (.slice a' n c') ∧ IntsAt w' a' (rotP 0 xs by_) ∧ Ext w w' := by
  have hmk : ∀ W, (Instr.makeSlice 26 (.int .i64 n) (.int .i64 n)).run Try.prog W = .ok (.slice (some ⟨W.heap.size, 0, none⟩) n n) (W.alloc (.cells (Array.replicate n (.int .i64 0)) 3)) := fun W => makeI W n hbig
  go_enter Try.func33, Try.ntmps33
  go_wp2
  have hb0 : (w.alloc (.cells (Array.replicate n (.int .i64 0)) 3)).heap[w.heap.size]? = some (.cells (iv (lateK xs by_ 0)).toArray 3 (0, 0)) := by
    rw [lateK_zero, hn, ← iv_rep]
    exact heap_alloc_new w _
  have hE0 : Ext w (w.alloc (.cells (Array.replicate n (.int .i64 0)) 3)) := (Ext.refl w).alloc _
  clear hmk
  go_loopw [7] (fun s7 wr => ∃ k : Nat, k ≤ n ∧ s7 = .int .i64 k ∧ wr.heap[w.heap.size]? = some (.cells (iv (lateK xs by_ k)).toArray 3 (0, 0)) ∧ Ext w wr) (fun s7 _ => n - (Go.RowKit.intOf s7).toNat)
  case atStart => exact ⟨0, Nat.zero_le _, rfl, hb0, hE0⟩
  case round =>
    clear hb0 hE0
    obtain ⟨k, hk, rfl, hbx, EX⟩ := hrel
    obtain ⟨X, rfl⟩ : ∃ X : World, X = wr := ⟨_, rfl⟩
    by_cases hlt : k < n
    · have hltz : (k : Int) < (n : Int) := by omega
      rcases hI with e | ⟨b, off, rfl, hb, hc⟩
      · rw [e] at hn; simp at hn; omega
      have hx := (EX.cell (p := ⟨b, off + k, none⟩) hb).trans (hc k (by omega))
      have hp0 := Int.emod_nonneg ((k : Int) + by_) (show (n : Int) ≠ 0 by omega)
      have hp1 := Int.emod_lt_of_pos ((k : Int) + by_) (show 0 < (n : Int) by omega)
      obtain ⟨p, hp⟩ := Int.eq_ofNat_of_zero_le hp0
      have hst := Lib.hid (lateK_step (xs := xs) (y := by_) (k := k) (p := p) (by omega) (by rw [hn]; exact hp))
      have ht := turn_of_tmod (a := (k : Int) + by_) (b := (n : Int)) (by omega)
      have t1 := Int.lt_tmod_of_pos ((k : Int) + by_) (show 0 < (n : Int) by omega)
      have t2 := Int.tmod_lt_of_pos ((k : Int) + by_) (show 0 < (n : Int) by omega)
      rw [hp] at ht
      have hpn : (p : Int) < (n : Int) := by omega
      have hp00 : (0 : Int) ≤ (p : Int) := by omega
      obtain ⟨hy0, hy1⟩ := hy
      have w1 : IntKind.i64.wrap ((k : Int) + by_) = (k : Int) + by_ := IntWalk.i64_in _ (by omega)
      have w2 : IntKind.i64.wrap (((k : Int) + by_).tmod n) = ((k : Int) + by_).tmod n := IntWalk.i64_in _ (by omega)
      have w3 : IntKind.i64.wrap (((k : Int) + by_).tmod n + n) = ((k : Int) + by_).tmod n + n := IntWalk.i64_in _ (by omega)
      have w4 : IntKind.i64.wrap (p : Int) = p := IntWalk.i64_in _ (by omega)
      have hne : ((n : Int) == 0) = false := by simp; omega
      have hne2 : ¬ (n : Int) = 0 := by omega
      have hne3 : ¬ n = 0 := by omega
      have hbc := blk_cell hbx p (v := .int .i64 ((lateK xs by_ k)[p]?.getD 0)) (by rw [List.getElem?_toArray]; exact iv_get _ p (by rw [lateK_length]; omega))
      have hbf := blk_free hbx p
      clear hp hp0 hp1 hc
      go_wp2
      go_region_law (fail)
      go_wp2_with fail
      have hxe : xs[k]?.getD 0 = xs[k] := by rw [List.getElem?_eq_getElem (by omega)]; rfl
      refine ⟨⟨k + 1, by omega, by go_num, ?_, ?_⟩, by simp [Go.RowKit.intOf]; omega⟩
      · show (X.setCell ⟨w.heap.size, p, none⟩ (.int .i64 xs[k])).heap[w.heap.size]? = _
        have := set_iv (p := p) (x := xs[k]) hbx
        rw [← hst.out, hxe]
        exact this
      · exact ((EX.setCell (p := ⟨w.heap.size, p, none⟩) (Nat.le_refl _) _).drew)
    · obtain rfl : k = n := by omega
      have hltz : ¬ (k : Int) < (k : Int) := by omega
      rw [show lateK xs by_ k = rotP 0 xs by_ by rw [← hn]; exact lateK_all xs by_] at hbx
      have HN := Lib.hid hn
      have hE := ints_fresh5 hbx rfl
      go_wp2
      refine bodyPost_ret (v := .slice (some ⟨w.heap.size, 0, none⟩) k k) (by simp [results, Try.results33, go_sem]) rfl ?_
      exact ⟨some ⟨w.heap.size, 0, none⟩, ⟨k, rfl⟩, hE, EX⟩
end Go.Proofs.Ytkkchoinfdfiaaa

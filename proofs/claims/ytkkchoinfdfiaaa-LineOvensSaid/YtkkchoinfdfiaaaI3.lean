/- Contracts of layer 1: Safe; the reference's Safe. -/
import Derived.Test.YtkkchoinfdfiaaaI2
import Derived.Test.YtkkchoinfdfiaaaH20
set_option linter.unusedVariables false
set_option linter.unusedSimpArgs false
namespace Go.Q
/-- the safe ones of the first k temperatures -/
def safeK (l : Ln) (k : Nat) : List Int := (fstN (fun i => (-500 : Int) + (i : Int)) k).filter (safeL l)
theorem safeK_yes {l : Ln} {k : Nat} {t : Int} (h : (-500 : Int) + (k : Int) = t) (hs : safeL l t = true) : safeK l (k + 1) = safeK l k ++ [t] := by
  unfold safeK; rw [fstN_succ, List.filter_append, h]; simp [hs]
theorem safeK_no {l : Ln} {k : Nat} {t : Int} (h : (-500 : Int) + (k : Int) = t) (hs : safeL l t = false) : safeK l (k + 1) = safeK l k := by
  unfold safeK; rw [fstN_succ, List.filter_append, h]; simp [hs]
theorem safeK_len (l : Ln) (k : Nat) : (safeK l k).length ≤ k := by
  unfold safeK
  exact Nat.le_trans (List.length_filter_le _ _) (by rw [fstN_length]; exact Nat.le_refl _)
theorem safeK_bd {l : Ln} {k : Nat} {t : Int} (h : t ∈ safeK l k) : -500 ≤ t ∧ t < -500 + (k : Int) := by
  unfold safeK fstN at h
  obtain ⟨i, hi, rfl⟩ := List.mem_map.1 (List.mem_filter.1 h).1
  rw [List.mem_range] at hi
  omega
def loK (l : Ln) (k : Nat) : Int := (safeK l k).foldl min 1001
def hiK (l : Ln) (k : Nat) : Int := (safeK l k).foldl max (-501)
/-- what Safe returns -/
def safeE (l : Ln) : Sp × Int := if okL l = true then (if safeK l 1501 = [] then (⟨0, 0⟩, 9) else (⟨loK l 1501, hiK l 1501⟩, 0)) else (⟨0, 0⟩, 7)
end Go.Q
namespace Go.Proofs.Ytkkchoinfdfiaaa
open Go.RowKit Go.Q Go.Shelf Go.Maps
theorem own_ext {w w' : World} {B t sz n : Nat} {v : Value} {xs : List Value} (h : w.ownsRow B t sz v n xs) (E : Ext w w') : w'.ownsRow B t sz v n xs :=
  h.kept (row := none) ⟨E.os, E.tape, E.output, E.size, fun k hk _ => E.block k hk⟩ (by cases v.ownBlock <;> simp)
theorem set2x {W : World} {b : Nat} {T : TypeId} {x y : Value} (h : W.heap[b]? = some (.cells #[x, y] T (0, 0))) (u v : Value) : ((W.setCell ⟨b, 0, none⟩ u).setCell ⟨b, 1, none⟩ v).heap[b]? = some (.cells #[u, v] T (0, 0)) := by
  have h1 : (W.setCell ⟨b, 0, none⟩ u).heap[b]? = some (.cells #[u, y] T (0, 0)) := by simpa using heap_setCell_same W b 0 _ _ u h
  simpa using heap_setCell_same (W.setCell ⟨b, 0, none⟩ u) b 1 _ _ v h1
theorem loK_yes {l : Ln} {k : Nat} {t : Int} (h : (-500 : Int) + (k : Int) = t) (hs : safeL l t = true) : loK l (k + 1) = min (loK l k) t := by
  unfold loK; rw [safeK_yes h hs, List.foldl_append]; rfl
theorem hiK_lt (l : Ln) (k : Nat) : hiK l k < -500 + (k : Int) := by
  have h := (fold_max (fun x : Int => x) (safeK l k) (-501)).2.2
  have e : hiK l k = (safeK l k).foldl (fun a s => max a s) (-501) := rfl
  rw [e]
  rcases h with h | ⟨s, hs, h⟩
  · rw [h]; omega
  · rw [h]; exact (safeK_bd hs).2
theorem hiK_yes {l : Ln} {k : Nat} {t : Int} (h : (-500 : Int) + (k : Int) = t) (hs : safeL l t = true) : hiK l (k + 1) = t := by
  have hl := hiK_lt l k
  unfold hiK at *
  rw [safeK_yes h hs, List.foldl_append]
  show max ((safeK l k).foldl max (-501)) t = t
  omega
theorem loK_bd (l : Ln) (k : Nat) : loK l k ≤ 1001 ∧ -501 ≤ hiK l k := ⟨(fold_min (fun x : Int => x) (safeK l k) 1001).1, (fold_max (fun x : Int => x) (safeK l k) (-501)).1⟩
theorem lohi_no {l : Ln} {k : Nat} (h : safeK l k = []) : hiK l k < loK l k := by unfold hiK loK; rw [h]; decide
theorem lohi_yes {l : Ln} {k : Nat} (h : safeK l k ≠ []) : loK l k ≤ hiK l k := by
  obtain ⟨x, hx⟩ := List.exists_mem_of_ne_nil _ h
  have h1 := (fold_min (fun x : Int => x) (safeK l k) 1001).2.1 x hx
  have h2 := (fold_max (fun x : Int => x) (safeK l k) (-501)).2.1 x hx
  exact Int.le_trans h1 h2
theorem minOf_from {x : Int} {ys : List Int} (h : x ≤ 1001) : (x :: ys).foldl min 1001 = Lib.minOf (x :: ys) := by
  show ys.foldl min (min 1001 x) = ys.foldl min (min x x)
  rw [Int.min_eq_right h, Int.min_self]
theorem maxOf_from {x : Int} {ys : List Int} (h : -501 ≤ x) : (x :: ys).foldl max (-501) = Lib.maxOf (x :: ys) := by
  show ys.foldl max (max (-501) x) = ys.foldl max (max x x)
  rw [Int.max_eq_right h, Int.max_self]
set_option maxRecDepth 100000 in
set_option maxHeartbeats 4000000 in
theorem Safe_any (l : Ln) (w : World) :
    Calls Try.prog 40 #[.agg #[.int .i64 l.words, .int .i64 l.bits, .int .i64 l.period, .int .i64 l.delay, .int .i64 l.slope, .int .i64 l.window]] w fun e w' => e = .returned (.tuple #[.agg #[.int .i64 (safeE l).1.lo, .int .i64 (safeE l).1.hi], .int .i64 (safeE l).2]) ∧ Ext w w' := by
  have hck := fun W => check_any l W
  cases ho : okL l with
  | false =>
    have e1 : safeE l = (⟨0, 0⟩, 7) := by unfold safeE; rw [ho]; rfl
    rw [e1]
    rw [checkL_no ho] at hck
    clear e1 ho
    go_enter Try.func40, Try.ntmps40
    go_wp2_with fail
    refine (hck _).mono ?_
    rintro e w1 ⟨rfl, E1⟩
    have z0 := box_at2 (v := .int .i64 0) E1 0 rfl
    have z1 := box_at2 (v := .int .i64 0) E1 1 rfl
    have f0 := box_free2 E1 0
    have f1 := box_free2 E1 1
    go_wp2
    refine bodyPost_ret (v := .tuple #[.agg #[.int .i64 0, .int .i64 0], .int .i64 7]) (by simp [results, Try.results40, go_sem, z0, z1, f0, f1]) rfl ⟨rfl, ?_⟩
    exact (E1.old.old.setCell (p := ⟨w.heap.size + 1, 0, none⟩) (Nat.le_succ _) _).setCell (p := ⟨w.heap.size + 1, 1, none⟩) (Nat.le_succ _) _
  | true =>
    rw [checkL_of ho] at hck
    have hok := okL_ok ho
    have hsf := fun W t (ht : -100000 ≤ t ∧ t ≤ 100000) => safe_any l t W hok ht
    go_enter Try.func40, Try.ntmps40
    go_wp2_with fail
    refine (hck _).mono ?_
    rintro e w1 ⟨rfl, E1⟩
    have c0 := box_at (v := .int .i64 l.words) E1.old 0 rfl
    have c1 := box_at (v := .int .i64 l.bits) E1.old 1 rfl
    have c2 := box_at (v := .int .i64 l.period) E1.old 2 rfl
    have c3 := box_at (v := .int .i64 l.delay) E1.old 3 rfl
    have c4 := box_at (v := .int .i64 l.slope) E1.old 4 rfl
    have c5 := box_at (v := .int .i64 l.window) E1.old 5 rfl
    go_wp2
    have HE1 := Lib.hid E1
    clear c0 c1 c2 c3 c4 c5 E1 hck
    obtain ⟨i0, hi, hz0, hz1, hz2⟩ := info_parts Try.infoE
    go_loopw [4, 5] (fun s4 s5 wr => ∃ k : Nat, k ≤ 1501 ∧ s5 = .int .i64 (-500 + (k : Int)) ∧ wr.ownsRow w1.heap.size 3 1 s4 (safeK l k).length (iv (safeK l k)) ∧ Ext w1 wr) (fun _ s5 _ => (1001 - Go.RowKit.intOf s5).toNat)
    case atStart => exact ⟨0, Nat.zero_le _, by simp, World.ownsRow_nil _ _ _ _, Ext.refl _⟩
    case round =>
      obtain ⟨k, hk, rfl, hown, EW⟩ := hrel
      obtain ⟨X, rfl⟩ : ∃ X : World, X = wr := ⟨_, rfl⟩
      obtain ⟨t, ht⟩ : ∃ t, (-500 : Int) + (k : Int) = t := ⟨_, rfl⟩
      rw [ht]
      have E2 := HE1.out.comp EW
      have c0 := box_at (v := .int .i64 l.words) E2.old 0 rfl
      have c1 := box_at (v := .int .i64 l.bits) E2.old 1 rfl
      have c2 := box_at (v := .int .i64 l.period) E2.old 2 rfl
      have c3 := box_at (v := .int .i64 l.delay) E2.old 3 rfl
      have c4 := box_at (v := .int .i64 l.slope) E2.old 4 rfl
      have c5 := box_at (v := .int .i64 l.window) E2.old 5 rfl
      have hlen := safeK_len l k
      obtain ⟨n, hn⟩ : ∃ n, (safeK l k).length = n := ⟨_, rfl⟩
      have hle : t + 1 = -500 + ((k + 1 : Nat) : Int) := by omega
      have HLE := Lib.hid hle
      clear hle
      by_cases hlt : t ≤ 1000
      · have htb : -100000 ≤ t ∧ t ≤ 100000 := by omega
        have hsf' := fun W => hsf W t htb
        cases hb : safeL l t with
        | true =>
          rw [hb] at hsf'
          have HK := Lib.hid (safeK_yes ht hb)
          clear hb htb
          go_wp2_with fail
          refine (hsf' _).mono ?_
          rintro e w2 ⟨rfl, E3⟩
          have hown2 := own_ext hown E3
          have hE3 := EW.comp E3
          have hsz := hE3.size
          have hl2 : (safeK l k).length ≤ 1500 := by omega
          clear hown E3 EW E2 c0 c1 c2 c3 c4 c5
          go_wp2_with (at_builtin; refine wpList_append_own _ rfl _ _ 26 rfl w1.heap.size 3 i0 (.int .i64 0) 1 8 Try.underlying26 hi hz0 hz1 hz2 rfl (by decide) _ _ _ rfl (hown2.alloc _) ⟨w2.heap.size, 0, none⟩ 1 1 [.int .i64 t] rfl rfl (cell_one_new _ _ _) (by simp [Value.oneCell']) (by unfold maxLen; omega) (by omega) (by simp; omega) ?_; intro v' w3 hown' hgrow hnil; clear hnil)
          have E4 : Ext w1 w3 := (hE3.alloc _).grown hgrow (by simp; omega) (fun q e => (hown2.lt q e).1)
          have hown3 : w3.ownsRow w1.heap.size 3 1 v' (safeK l (k + 1)).length (iv (safeK l (k + 1))) := by
            rw [HK.out, List.length_append]
            unfold iv at hown' ⊢
            rw [List.map_append]
            exact hown'
          clear hown2 hown' hgrow hE3
          (try go_frame)
          go_wp2
          go_roundw
          case rel => exact ⟨k + 1, by omega, by rw [HLE.out], hown3, E4⟩
          case measure => simp [Go.RowKit.intOf]; omega
        | false =>
          rw [hb] at hsf'
          have HK := Lib.hid (safeK_no ht hb)
          clear hb htb
          go_wp2_with fail
          refine (hsf' _).mono ?_
          rintro e w2 ⟨rfl, E3⟩
          have hown2 := own_ext hown E3
          rw [← HK.out] at hown2
          have hE3 := EW.comp E3
          clear hown E3 EW E2 c0 c1 c2 c3 c4 c5
          go_wp2
          go_roundw
          case rel => exact ⟨k + 1, by omega, by rw [HLE.out], hown2, hE3⟩
          case measure => simp [Go.RowKit.intOf]; omega
      · obtain rfl : k = 1501 := by omega
        have HOK := Lib.hid ho
        have z0 := box_at2 (v := .int .i64 0) E2 0 rfl
        have z1 := box_at2 (v := .int .i64 0) E2 1 rfl
        have f0 := box_free2 E2 0
        have f1 := box_free2 E2 1
        have E3 := E2.old.old
        clear ho
        cases hx : safeK l 1501 with
        | nil =>
          rw [hx] at hown
          have HS := Lib.hid (show safeE l = (⟨0, 0⟩, 9) by unfold safeE; rw [if_pos HOK.out, if_pos hx])
          clear hx
          obtain ⟨av, cv, rfl⟩ := own_form hown
          clear hown
          go_wp2
          refine bodyPost_ret (v := .tuple #[.agg #[.int .i64 0, .int .i64 0], .int .i64 9]) (by simp [results, Try.results40, go_sem, z0, z1, f0, f1]) rfl ⟨by rw [HS.out], ?_⟩
          exact (E3.setCell (p := ⟨w.heap.size + 1, 0, none⟩) (Nat.le_succ _) _).setCell (p := ⟨w.heap.size + 1, 1, none⟩) (Nat.le_succ _) _
        | cons x ys =>
          have hxb := safeK_bd (l := l) (k := 1501) (t := x) (by rw [hx]; simp)
          have HS := Lib.hid (show safeE l = (⟨Lib.minOf (x :: ys), Lib.maxOf (x :: ys)⟩, 0) by
            unfold safeE loK hiK
            rw [if_pos HOK.out, if_neg (by rw [hx]; simp), hx, minOf_from (by omega), maxOf_from (by omega)])
          rw [hx] at hown hlen hn
          obtain ⟨g, cap, rfl⟩ := ownsRow_succ hown
          have hcl : ∀ i, i < (x :: ys).length → X.cell? ⟨g, 0 + i, none⟩ = some (.int .i64 ((x :: ys)[i]?.getD 0)) := by
            rcases own_ints hown with h | ⟨b, off, e, h1, h2⟩
            · cases h
            · cases e; exact h2
          have hends := fun W (E : W = X) => ends_any g 0 (ys.length + 1) cap (x :: ys) W rfl (by omega) (by simp at hlen; omega) (by rw [E]; exact hcl)
          clear hx hxb hown hcl hlen hn
          obtain ⟨lo, hlo⟩ : ∃ lo, Lib.minOf (x :: ys) = lo := ⟨_, rfl⟩
          obtain ⟨hh, hhi⟩ : ∃ hh, Lib.maxOf (x :: ys) = hh := ⟨_, rfl⟩
          rw [hlo, hhi] at HS
          rw [hlo, hhi] at hends
          clear hlo hhi
          go_wp2_with fail
          refine (hends _ rfl).mono ?_
          rintro e w5 ⟨rfl, rfl⟩
          have hbx : w5.heap[w.heap.size + 1]? = some (.cells #[.int .i64 0, .int .i64 0] 49 (0, 0)) := by
            have e := heap_alloc_new (w.alloc (.cells #[.int .i64 l.words, .int .i64 l.bits, .int .i64 l.period, .int .i64 l.delay, .int .i64 l.slope, .int .i64 l.window] 25)) (.cells #[.int .i64 0, .int .i64 0] 49)
            rw [World.size_alloc] at e
            exact (E2.block (w.heap.size + 1) (by simp)).trans e
          go_wp2
          have hby := set2x (set2x hbx (.int .i64 lo) (.int .i64 hh)) (.int .i64 lo) (.int .i64 hh)
          have y0 := blk_cell hby 0 (v := .int .i64 lo) rfl
          have y1 := blk_cell hby 1 (v := .int .i64 hh) rfl
          have g0 := blk_free hby 0
          have g1 := blk_free hby 1
          clear z0 z1 f0 f1 hbx hby
          refine bodyPost_ret (v := .tuple #[.agg #[.int .i64 lo, .int .i64 hh], .int .i64 0]) (by simp [results, Try.results40, go_sem, y0, y1, g0, g1]) rfl ⟨by rw [HS.out], ?_⟩
          exact (((E3.setCell (p := ⟨w.heap.size + 1, 0, none⟩) (Nat.le_succ _) _).setCell (p := ⟨w.heap.size + 1, 1, none⟩) (Nat.le_succ _) _).setCell (p := ⟨w.heap.size + 1, 0, none⟩) (Nat.le_succ _) _).setCell (p := ⟨w.heap.size + 1, 1, none⟩) (Nat.le_succ _) _
set_option maxHeartbeats 1000000 in
theorem rSafe_any (l : Ln) (w : World) :
    Calls Try.prog 41 #[.agg #[.int .i64 l.words, .int .i64 l.bits, .int .i64 l.period, .int .i64 l.delay, .int .i64 l.slope, .int .i64 l.window]] w fun e w' => e = .returned (.tuple #[.agg #[.int .i64 (safeE l).1.lo, .int .i64 (safeE l).1.hi], .int .i64 (safeE l).2]) ∧ Ext w w' := by
  have hck := fun W => rcheck_any l W
  cases ho : okL l with
  | false =>
    have e1 : safeE l = (⟨0, 0⟩, 7) := by unfold safeE; rw [ho]; rfl
    rw [e1]
    rw [checkL_no ho] at hck
    clear e1 ho
    go_enter Try.func41, Try.ntmps41
    go_wp2_with fail
    refine (hck _).mono ?_
    rintro e w1 ⟨rfl, E1⟩
    have z0 := box_at2 (v := .int .i64 0) E1 0 rfl
    have z1 := box_at2 (v := .int .i64 0) E1 1 rfl
    have f0 := box_free2 E1 0
    have f1 := box_free2 E1 1
    go_wp2
    refine bodyPost_ret (v := .tuple #[.agg #[.int .i64 0, .int .i64 0], .int .i64 7]) (by simp [results, Try.results41, go_sem, z0, z1, f0, f1]) rfl ⟨rfl, ?_⟩
    exact (E1.old.old.setCell (p := ⟨w.heap.size + 1, 0, none⟩) (Nat.le_succ _) _).setCell (p := ⟨w.heap.size + 1, 1, none⟩) (Nat.le_succ _) _
  | true =>
    rw [checkL_of ho] at hck
    have hok := okL_ok ho
    have hsf := fun W t (ht : -100000 ≤ t ∧ t ≤ 100000) => rsafe_any l t W hok ht
    have HOK := Lib.hid ho
    clear ho
    go_enter Try.func41, Try.ntmps41
    go_wp2_with fail
    refine (hck _).mono ?_
    rintro e w1 ⟨rfl, E1⟩
    go_wp2
    have HE1 := Lib.hid E1
    have HE2 := Lib.hid (show Ext w1 (w1.alloc (.cells #[.int .i64 1001, .int .i64 (-501)] 49)) from (Ext.refl _).alloc _)
    have hb0 : (w1.alloc (.cells #[.int .i64 1001, .int .i64 (-501)] 49)).heap[w1.heap.size]? = some (.cells #[.int .i64 1001, .int .i64 (-501)] 49 (0, 0)) := heap_alloc_new _ _
    clear E1 hck
    go_loopw [6] (fun s6 wr => ∃ k : Nat, k ≤ 1501 ∧ s6 = .int .i64 (-500 + (k : Int)) ∧ wr.heap[w1.heap.size]? = some (.cells #[.int .i64 (loK l k), .int .i64 (hiK l k)] 49 (0, 0)) ∧ Ext w1 wr) (fun s6 _ => (1001 - Go.RowKit.intOf s6).toNat)
    case atStart => exact ⟨0, Nat.zero_le _, by simp, hb0, HE2.out⟩
    case round =>
      clear hb0
      obtain ⟨k, hk, rfl, hbx, EW⟩ := hrel
      obtain ⟨X, rfl⟩ : ∃ X : World, X = wr := ⟨_, rfl⟩
      obtain ⟨t, ht⟩ : ∃ t, (-500 : Int) + (k : Int) = t := ⟨_, rfl⟩
      rw [ht]
      have E2 := HE1.out.comp EW
      have c0 := box_at (v := .int .i64 l.words) E2.old 0 rfl
      have c1 := box_at (v := .int .i64 l.bits) E2.old 1 rfl
      have c2 := box_at (v := .int .i64 l.period) E2.old 2 rfl
      have c3 := box_at (v := .int .i64 l.delay) E2.old 3 rfl
      have c4 := box_at (v := .int .i64 l.slope) E2.old 4 rfl
      have c5 := box_at (v := .int .i64 l.window) E2.old 5 rfl
      have HLE := Lib.hid (show t + 1 = -500 + ((k + 1 : Nat) : Int) by omega)
      have hlb := loK_bd l k
      have hhl := hiK_lt l k
      by_cases hlt : t ≤ 1000
      · have htb : -100000 ≤ t ∧ t ≤ 100000 := by omega
        have hsf' := fun W => hsf W t htb
        cases hb : safeL l t with
        | true =>
          rw [hb] at hsf'
          have HL := Lib.hid (loK_yes ht hb)
          have HH := Lib.hid (hiK_yes ht hb)
          obtain ⟨lo, hlo⟩ : ∃ lo, loK l k = lo := ⟨_, rfl⟩
          obtain ⟨hh, hhe⟩ : ∃ hh, hiK l k = hh := ⟨_, rfl⟩
          rw [hlo] at hbx HL hlb
          rw [hhe] at hbx
          clear hb htb hlo hhe hhl
          go_wp2_with fail
          refine (hsf' _).mono ?_
          rintro e w2 ⟨rfl, E3⟩
          have hb2 : w2.heap[w1.heap.size]? = some (.cells #[.int .i64 lo, .int .i64 hh] 49 (0, 0)) := (E3.block _ (Array.getElem?_eq_some_iff.1 hbx).1).trans hbx
          have z0 := blk_cell hb2 0 (v := .int .i64 lo) rfl
          have z1 := blk_cell hb2 1 (v := .int .i64 hh) rfl
          have f0 := blk_free hb2 0
          have f1 := blk_free hb2 1
          have EW2 := EW.comp E3
          clear hbx E3 EW E2 c0 c1 c2 c3 c4 c5
          by_cases hm : lo ≤ t
          · have HM := Lib.hid (show loK l (k + 1) = lo by rw [HL.out]; omega)
            have hmm : min lo t = lo := by omega
            go_wp2
            have hb3 := set2x hb2 (.int .i64 lo) (.int .i64 t)
            have E4 := (EW2.setCell (p := ⟨w1.heap.size, 0, none⟩) (Nat.le_refl _) (.int .i64 lo)).setCell (p := ⟨w1.heap.size, 1, none⟩) (Nat.le_refl _) (.int .i64 t)
            clear hb2 z0 z1 f0 f1 EW2
            go_roundw
            case rel => exact ⟨k + 1, by omega, by rw [HLE.out], by rw [HM.out, HH.out]; exact hb3, E4⟩
            case measure => simp [Go.RowKit.intOf]; omega
          · have HM := Lib.hid (show loK l (k + 1) = t by rw [HL.out]; omega)
            have hmm : min lo t = t := by omega
            go_wp2
            have hb3 := set2x hb2 (.int .i64 t) (.int .i64 t)
            have E4 := (EW2.setCell (p := ⟨w1.heap.size, 0, none⟩) (Nat.le_refl _) (.int .i64 t)).setCell (p := ⟨w1.heap.size, 1, none⟩) (Nat.le_refl _) (.int .i64 t)
            clear hb2 z0 z1 f0 f1 EW2
            go_roundw
            case rel => exact ⟨k + 1, by omega, by rw [HLE.out], by rw [HM.out, HH.out]; exact hb3, E4⟩
            case measure => simp [Go.RowKit.intOf]; omega
        | false =>
          rw [hb] at hsf'
          have HK := Lib.hid (safeK_no ht hb)
          clear hb htb hlb hhl
          go_wp2_with fail
          refine (hsf' _).mono ?_
          rintro e w2 ⟨rfl, E3⟩
          have hb2 := (E3.block _ (Array.getElem?_eq_some_iff.1 hbx).1).trans hbx
          have EW2 := EW.comp E3
          clear hbx E3 EW E2 c0 c1 c2 c3 c4 c5
          go_wp2
          go_roundw
          case rel => exact ⟨k + 1, by omega, by rw [HLE.out], by unfold loK hiK at hb2 ⊢; rw [HK.out]; exact hb2, EW2⟩
          case measure => simp [Go.RowKit.intOf]; omega
      · obtain rfl : k = 1501 := by omega
        have hbs : X.heap[w.heap.size + 1]? = some (.cells #[.int .i64 0, .int .i64 0] 49 (0, 0)) := by
          have e := heap_alloc_new (w.alloc (.cells #[.int .i64 l.words, .int .i64 l.bits, .int .i64 l.period, .int .i64 l.delay, .int .i64 l.slope, .int .i64 l.window] 25)) (.cells #[.int .i64 0, .int .i64 0] 49)
          rw [World.size_alloc] at e
          exact (E2.block (w.heap.size + 1) (by simp)).trans e
        have E3 := E2.old.old
        have q0 := blk_cell hbs 0 (v := .int .i64 0) rfl
        have q1 := blk_cell hbs 1 (v := .int .i64 0) rfl
        have r0 := blk_free hbs 0
        have r1 := blk_free hbs 1
        have z0 := blk_cell hbx 0 (v := .int .i64 (loK l 1501)) rfl
        have z1 := blk_cell hbx 1 (v := .int .i64 (hiK l 1501)) rfl
        by_cases hx : safeK l 1501 = []
        · have hlh := lohi_no hx
          have HS := Lib.hid (show safeE l = (⟨0, 0⟩, 9) by unfold safeE; rw [if_pos HOK.out, if_pos hx])
          clear hx hbs hbx
          generalize loK l 1501 = lo at *
          generalize hiK l 1501 = hh at *
          go_wp2
          refine bodyPost_ret (v := .tuple #[.agg #[.int .i64 0, .int .i64 0], .int .i64 9]) (by simp [results, Try.results41, go_sem, q0, q1, r0, r1]) rfl ⟨by rw [HS.out], ?_⟩
          exact (E3.setCell (p := ⟨w.heap.size + 1, 0, none⟩) (Nat.le_succ _) _).setCell (p := ⟨w.heap.size + 1, 1, none⟩) (Nat.le_succ _) _
        · have hlh := lohi_yes hx
          have HS := Lib.hid (show safeE l = (⟨loK l 1501, hiK l 1501⟩, 0) by unfold safeE; rw [if_pos HOK.out, if_neg hx])
          have hlh2 : ¬ hiK l 1501 < loK l 1501 := by omega
          clear hx hbx hlh
          obtain ⟨lo, hlo⟩ : ∃ lo, loK l 1501 = lo := ⟨_, rfl⟩
          obtain ⟨hh, hhe⟩ : ∃ hh, hiK l 1501 = hh := ⟨_, rfl⟩
          rw [hlo] at z0 hlh2 HS hlb
          rw [hhe] at z1 hlh2 HS hhl
          clear hlo hhe
          go_wp2
          have hb3 := set2x hbs (.int .i64 lo) (.int .i64 hh)
          have y0 := blk_cell hb3 0 (v := .int .i64 lo) rfl
          have y1 := blk_cell hb3 1 (v := .int .i64 hh) rfl
          have g0 := blk_free hb3 0
          have g1 := blk_free hb3 1
          refine bodyPost_ret (v := .tuple #[.agg #[.int .i64 lo, .int .i64 hh], .int .i64 0]) (by simp [results, Try.results41, go_sem, y0, y1, g0, g1]) rfl ⟨by rw [HS.out], ?_⟩
          exact (E3.setCell (p := ⟨w.heap.size + 1, 0, none⟩) (Nat.le_succ _) _).setCell (p := ⟨w.heap.size + 1, 1, none⟩) (Nat.le_succ _) _
end Go.Proofs.Ytkkchoinfdfiaaa

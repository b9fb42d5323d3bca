import Derived.Test.YtnhpcoagkmgdoaaXDL11
set_option linter.unusedVariables false
set_option linter.unusedSimpArgs false
/- The law DumpNone, for any state and losses. -/
namespace Go.Q
open Go.RowKit
theorem quiet_nil : quietL [] := fun y h => absurd h (by simp)
theorem beginL_s (s : St) : (beginL s).s = s := rfl
theorem guardX_ways (s : St) (L : List Loss) {m : Int} (h : (checkQ s).2.2 ≠ 0) : guardX s L m = (checkQ s).2.2 := by
 unfold guardX
 rw [if_pos h]
theorem guardX_nil {s : St} {m : Nat} (hm : m ≤ 5000) (h : (checkQ s).2.2 = 0) : guardX s [] (m : Int) = 0 := by
 unfold guardX
 rw [if_neg (by rw [h]; decide), if_neg (by decide)]
 have : inB (m : Int) 0 5000 = true := by unfold inB; rw [decide_eq_true (show (0 : Int) ≤ m by omega), decide_eq_true (show (m : Int) ≤ 5000 by omega)]; rfl
 rw [if_pos this]
theorem blind_ways (s : St) (L : List Loss) (m : Nat) (hq : quietL L) : (blindE s L (m : Int)).2 ≠ 0 ∨ ((blindE s L (m : Int)).2 = 0 ∧ (blindE s L (m : Int)).1 = runQ m s) := by
 unfold blindE
 by_cases h : guardX s L (m : Int) = 0
 ·rw [if_pos h]
  exact .inr ⟨rfl, by rw [Int.toNat_natCast, blind_quiet hq, beginL_s]⟩
 ·rw [if_neg h]
  exact .inl h
end Go.Q
namespace Go.Proofs.Ytnhpcoagkmgdoaa
open Go.RowKit Go.Q Go.Shelf Go.Maps Go.Joins
set_option maxHeartbeats 4000000
set_option maxRecDepth 100000
theorem dumpNone_any (haw : AwakeT) (v : Value) (s : St) (la : Option Addr) (ln lc m : Nat) (L : List Loss) (w : World) (hS : StAt w v s) (hb : StBd s) (hl : L.length = ln) (hln : ln * 24 ≤ 140737488351232) (hL : LossAt w la L) (hLi : ∀ y ∈ L, -9223372036854775808 ≤ y.after ∧ y.after ≤ 9223372036854775807) (hm : m < 256) :
  Calls Try.prog 12 #[v, .slice la ln lc, .int .u8 (m : Int)] w fun e w' => e = .returned (.bool true) ∧ Ext w w' := by
 obtain ⟨a1, a2, a3, k1, k2, k3, rfl, i1, i2, i3⟩ := hS
 have HS := fun Y (E : Ext w Y) => show StAt Y (sv a1 a2 a3 s.store.length k1 s.tape.length k2 s.printed.length k3 s.taken s.time s.at_ s.done s.why) s from (show StAt w _ s from ⟨a1, a2, a3, k1, k2, k3, rfl, i1, i2, i3⟩).ext E
 have hq : ∀ y ∈ quietOf L, -9223372036854775808 ≤ y.after ∧ y.after ≤ 9223372036854775807 := by
  intro y hy
  obtain ⟨x, hx, rfl⟩ := List.mem_map.1 hy
  exact hLi x hx
 have hql : (quietOf L).length = ln := by unfold quietOf; rw [List.length_map, hl]
 have hpar : ∀ U, (∀ (h0 : (blindE s (quietOf L) (m : Int)).2 = 0), (blindE s (quietOf L) (m : Int)).1 = U) → ∀ W la lc, Ext w W → LossAt W la (quietOf L) → Calls Try.prog 35 #[sv a1 a2 a3 s.store.length k1 s.tape.length k2 s.printed.length k3 s.taken s.time s.at_ s.done s.why, .slice la ln lc, .int .i64 (m : Int)] W (ParRes U W) := by
  intro U hU W la lc E hI
  refine (blind_any _ s (quietOf L) la ln lc (m : Int) W (HS W E) hb hql hI hq).mono ?_
  intro e W' h
  refine ⟨_, _, h, ?_⟩
  by_cases h0 : (blindE s (quietOf L) (m : Int)).2 = 0
  ·exact .inr ⟨h0, hU h0⟩
  ·exact .inl h0
 rcases run_small s (m := m) (by omega) with ⟨hc, hr, -⟩ | ⟨hv, ha, hr, -⟩
 ·have hg : guardE s [] (m : Int) = (zst, 0, (checkQ s).2.2) := by unfold guardE; rw [guardX_ways s [] hc, if_neg hc]
  have hbl : blindE s [] (m : Int) = (zst, (checkQ s).2.2) := by unfold blindE; rw [guardX_ways s [] hc, if_neg hc]
  refine dumpNone_of haw s zst (checkQ s).2.2 0 a1 a2 a3 la k1 k2 k3 ln lc m L w ⟨by decide, by decide, by decide⟩ hm hl hln hL (fun W E => ?_) (fun W E => ?_) (fun W E => ?_) (fun W E => ?_) (hpar zst fun h0 => ?_) (.inl (by simpa using hc))
  ·have h := runE_any _ s (m : Int) W (HS W E) hb
   rw [hr] at h
   exact h
  ·have h := guard_any _ s [] none 0 0 (m : Int) W (HS W E) hb rfl (.inl rfl) (by simp)
   rw [hg] at h
   exact h
  ·have h := blind_any _ s [] none 0 0 (m : Int) W (HS W E) hb rfl (.inl rfl) (by simp)
   rw [hbl] at h
   exact h
  ·refine (recover_any _ s [] none 0 0 7 (m : Int) W (HS W E) hb rfl (.inl rfl) (by simp)).mono ?_
   rintro e W' ⟨p, hp, h⟩
   rcases hp with ⟨_, rfl⟩ | ⟨hx, _⟩ | ⟨hx, _⟩
   ·rw [guardX_ways s [] hc] at h; exact h
   ·rw [guardX_ways s [] hc] at hx; exact absurd hx hc
   ·rw [guardX_ways s [] hc] at hx; exact absurd hx hc
  ·exfalso
   unfold blindE at h0
   rw [guardX_ways s _ hc, if_neg hc] at h0
   exact hc h0
 ·have hc : (checkQ s).2.2 = 0 := by rw [asked_small s ⟨by omega, by omega⟩] at ha; exact ha
  have hgx := guardX_nil (m := m) (by omega) hc
  have hg : guardE s [] (m : Int) = (runQ m s, -1, 0) := by
   unfold guardE
   rw [if_pos hgx, Int.toNat_natCast, (guard_nil m (beginL s) (begin_clean s)).1, (guard_nil m (beginL s) (begin_clean s)).2, beginL_s]
  have hbl : blindE s [] (m : Int) = (runQ m s, 0) := by
   unfold blindE
   rw [if_pos hgx, Int.toNat_natCast, blind_quiet quiet_nil, beginL_s]
  refine dumpNone_of haw s (runQ m s) 0 (-1) a1 a2 a3 la k1 k2 k3 ln lc m L w (valid_bd (runQ_valid m hv)) hm hl hln hL (fun W E => ?_) (fun W E => ?_) (fun W E => ?_) (fun W E => ?_) (hpar (runQ m s) fun h0 => ?_) (.inr ⟨by decide, by decide⟩)
  ·have h := runE_any _ s (m : Int) W (HS W E) hb
   rw [hr] at h
   exact h
  ·have h := guard_any _ s [] none 0 0 (m : Int) W (HS W E) hb rfl (.inl rfl) (by simp)
   rw [hg] at h
   exact h
  ·have h := blind_any _ s [] none 0 0 (m : Int) W (HS W E) hb rfl (.inl rfl) (by simp)
   rw [hbl] at h
   exact h
  ·refine (recover_any _ s [] none 0 0 7 (m : Int) W (HS W E) hb rfl (.inl rfl) (by simp)).mono ?_
   rintro e W' ⟨p, hp, h⟩
   rcases hp with ⟨hx, _⟩ | ⟨_, hx, _⟩ | ⟨_, _, x, hx, rfl⟩
   ·exact absurd hgx hx
   ·exact absurd hx (by decide)
   ·have hrec := recovered hv (L := []) (by simp) (show (0 : Int) ≤ (m : Int) by omega) hx
    obtain ⟨t, bk⟩ := x
    rw [Int.toNat_natCast] at hrec
    obtain ⟨h1, h2⟩ := hrec
    dsimp only at h1 h2
    obtain rfl : bk = 0 := by simpa using h1
    have h3 := h2 List.Pairwise.nil
    rw [h3] at h
    exact h
  ·rcases blind_ways s (quietOf L) m (quiet_of L) with h | ⟨_, h⟩
   ·exact absurd h0 h
   ·exact h
end Go.Proofs.Ytnhpcoagkmgdoaa

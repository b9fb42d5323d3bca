import Derived.Test.YtcijneecjkpebaaU7
set_option linter.unusedVariables false
set_option linter.unusedSimpArgs false
/- Layer 8's reference: Place. -/
namespace Go.Proofs.Ytcijneecjkpebaa
open Go.RowKit Go.Q
set_option maxRecDepth 100000 in
set_option maxHeartbeats 4000000 in
theorem rb_Place (c : Rt) (l : Lo) (base : Int) (w : World) (h : RtAt w c l) (hb : RtBd c) :
    Calls Try.prog 24 #[.agg #[.slice l.a1 c.words.length l.c1, .slice l.a2 c.masks.length l.c2, .int .i64 c.entry, .int .i64 c.exit, .int .i64 c.result, .slice l.a3 c.args.length l.c3], .int .i64 base] w (IntsRes (placeE c base) w) := by
  have hck := fun W (E : Ext w W) => rb_routine c l W (h.ext E) hb
  have HE := Lib.hid (show placeE c base = if checkR c ≠ 0 then ([], checkR c) else if inB base 0 127 = false then ([], 7) else if 128 < base + c.words.length then ([], 3) else (placeL c base, 0) from rfl)
  have hpl := fun W (E : Ext w W) h0 hbs => rb_placed c l base W (h.ext E) h0 hbs
  have hwl : checkR c = 0 → c.words.length ≤ 40 := fun h0 => by
    unfold checkR at h0
    split at h0
    · omega
    · rename_i hx
      have : inB c.words.length 1 40 = true := by cases hh : inB c.words.length 1 40 with
        | true => rfl
        | false => exact absurd (.inl hh) hx
      have := inB_bd this
      omega
  have HPL := Lib.hid (show (placeL c base).length = c.words.length from placeN_length _ _ _ _)
  have ho := fun W => address_any base W
  obtain ⟨R, hR⟩ : ∃ R, placeE c base = R := ⟨_, rfl⟩
  rw [hR] at HE ⊢
  obtain ⟨r, hr⟩ : ∃ r, checkR c = r := ⟨_, rfl⟩
  rw [hr] at HE hck hpl hwl
  clear hR hr h hb
  by_cases h0 : r = 0
  · subst h0
    have hw40 := hwl rfl
    cases h1 : addrB base with
    | false =>
      have HR := Lib.hid (show R = ([], 7) by rw [HE.out, if_neg (by simp), if_pos (show inB base 0 127 = false from h1)])
      rw [h1] at ho
      clear HE h1 hpl hwl
      go_enter Try.func24, Try.ntmps24
      go_wp2_with fail
      refine (hck _ (by repeat (first | with_reducible exact Ext.refl _ |  (with_reducible refine Ext.alloc ?_ _) | (with_reducible refine Below.drew ?_) | (with_reducible refine below_drewN ?_ _) | (with_reducible refine ext_put ?_ _ ?_; rotate_left; (first | with_reducible exact Nat.le_refl _ | with_reducible exact Nat.le_succ _ | omega | (dsimp only; omega)))))).mono ?_
      rintro e w1 ⟨rfl, E1⟩
      go_wp2_with fail
      refine (ho _).mono ?_
      rintro e w1 ⟨rfl, rfl⟩
      go_wp2_with fail
      go_ret2
      exact ⟨none, 0, by rw [HR.out]; rfl, by rw [HR.out]; exact World.ownsRow_nil _ _ _ _, E1.old⟩
    | true =>
      have hbs := inB_bd (show inB base 0 127 = true from h1)
      rw [h1] at ho
      by_cases h2 : 128 < base + c.words.length
      · have HR := Lib.hid (show R = ([], 3) by rw [HE.out, if_neg (by simp), if_neg (by rw [show inB base 0 127 = addrB base from rfl, h1]; simp), if_pos h2])
        clear HE h1 hpl hwl
        go_enter Try.func24, Try.ntmps24
        go_wp2_with fail
        refine (hck _ (by repeat (first | with_reducible exact Ext.refl _ |  (with_reducible refine Ext.alloc ?_ _) | (with_reducible refine Below.drew ?_) | (with_reducible refine below_drewN ?_ _) | (with_reducible refine ext_put ?_ _ ?_; rotate_left; (first | with_reducible exact Nat.le_refl _ | with_reducible exact Nat.le_succ _ | omega | (dsimp only; omega)))))).mono ?_
        rintro e w1 ⟨rfl, E1⟩
        go_wp2_with fail
        refine (ho _).mono ?_
        rintro e w1 ⟨rfl, rfl⟩
        have p0 := Blk.c (Blk.of E1) 0 (v := .slice l.a1 c.words.length l.c1) rfl
        go_wp2_with fail
        go_ret2
        exact ⟨none, 0, by rw [HR.out]; rfl, by rw [HR.out]; exact World.ownsRow_nil _ _ _ _, E1.old⟩
      · have HR := Lib.hid (show R = (placeL c base, 0) by rw [HE.out, if_neg (by simp), if_neg (by rw [show inB base 0 127 = addrB base from rfl, h1]; simp), if_neg h2])
        have hP := fun W (E : Ext w W) => hpl W E rfl hbs
        unfold OwnRes at hP
        clear HE h1 hpl hwl
        go_enter Try.func24, Try.ntmps24
        go_wp2_with fail
        refine (hck _ (by repeat (first | with_reducible exact Ext.refl _ |  (with_reducible refine Ext.alloc ?_ _) | (with_reducible refine Below.drew ?_) | (with_reducible refine below_drewN ?_ _) | (with_reducible refine ext_put ?_ _ ?_; rotate_left; (first | with_reducible exact Nat.le_refl _ | with_reducible exact Nat.le_succ _ | omega | (dsimp only; omega)))))).mono ?_
        rintro e w1 ⟨rfl, E1⟩
        go_wp2_with fail
        refine (ho _).mono ?_
        rintro e w1 ⟨rfl, rfl⟩
        have p0 := Blk.c (Blk.of E1) 0 (v := .slice l.a1 c.words.length l.c1) rfl
        have p1 := Blk.c (Blk.of E1) 1 (v := .slice l.a2 c.masks.length l.c2) rfl
        have p2 := Blk.c (Blk.of E1) 2 (v := .int .i64 c.entry) rfl
        have p3 := Blk.c (Blk.of E1) 3 (v := .int .i64 c.exit) rfl
        have p4 := Blk.c (Blk.of E1) 4 (v := .int .i64 c.result) rfl
        have p5 := Blk.c (Blk.of E1) 5 (v := .slice l.a3 c.args.length l.c3) rfl
        go_wp2_with fail
        refine (hP _ E1.old).mono ?_
        rintro e w2 ⟨a', c', rfl, hown, E2⟩
        have hs := E1.old.size
        go_wp2_with fail
        go_ret2
        exact ⟨a', c', by rw [HR.out]; dsimp only; rw [HPL.out]; rfl, by rw [HR.out]; dsimp only; rw [HPL.out]; exact own_le hown hs, E1.old.comp E2⟩
  · have HR := Lib.hid (show R = ([], r) by rw [HE.out, if_pos h0])
    have h0b : (r != 0) = true := by simpa using h0
    have h0c : (r == 0) = false := by simpa using h0
    clear HE h0 hpl hwl
    go_enter Try.func24, Try.ntmps24
    go_wp2_with fail
    refine (hck _ (by repeat (first | with_reducible exact Ext.refl _ |  (with_reducible refine Ext.alloc ?_ _) | (with_reducible refine Below.drew ?_) | (with_reducible refine below_drewN ?_ _) | (with_reducible refine ext_put ?_ _ ?_; rotate_left; (first | with_reducible exact Nat.le_refl _ | with_reducible exact Nat.le_succ _ | omega | (dsimp only; omega)))))).mono ?_
    rintro e w1 ⟨rfl, E1⟩
    go_wp2_with fail
    go_ret2
    exact ⟨none, 0, by rw [HR.out]; rfl, by rw [HR.out]; exact World.ownsRow_nil _ _ _ _, E1.old⟩
end Go.Proofs.Ytcijneecjkpebaa

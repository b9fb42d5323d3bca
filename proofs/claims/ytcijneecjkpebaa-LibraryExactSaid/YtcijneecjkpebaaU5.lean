import Derived.WalkKit
import Derived.Test.YtcijneecjkpebaaU3
import Derived.Test.YtcijneecjkpebaaU1
set_option linter.unusedVariables false
set_option linter.unusedSimpArgs false
/- Layer 8 (library) in plain Lean: what the kinds test, and what a routine has to come to. -/
namespace Go.Q
def argQ (args : List Int) (i : Nat) : Int := args[i]?.getD 0
/-- multiplied as the machine does it -/
def mulQ (a b : Int) : Int := a * b / 8388608
def testQ (k : Int) (args : List Int) (t : Int) : Int := if k = 2 then mulQ t (argQ args 1) else if k = 3 then mulQ (mulQ t t) t else mulQ t t
def takesQ (k : Int) : Int := if k = 1 then 1 else if k = 2 then 2 else if k = 3 then 1 else 0
def numB (n : Int) : Bool := decide (0 ≤ n) && decide (n ≤ 8388607)
/-- the error of a kind and arguments -/
def askQ (k : Int) (args : List Int) : Int := if takesQ k = 0 then 2 else if (args.length : Int) ≠ takesQ k then 3 else if args.any (fun n => !numB n) = true then 7 else 0
def fitsP (k : Int) (args : List Int) (t : Int) : Bool := decide (testQ k args t ≤ argQ args 0)
/-- from t on, with steps 2 ^ (n - 1), .. 1 -/
def greatN (p : Int → Bool) : Nat → Int → Int
  | 0, t => t
  | n + 1, t => greatN p n (if p (t + 2 ^ n) = true then t + 2 ^ n else t)
def valQ (k : Int) (args : List Int) : Int := greatN (fitsP k args) 23 0
/-- what Value returns -/
def valueE (k : Int) (args : List Int) : Int × Int := if askQ k args = 0 then (valQ k args, 0) else (0, askQ k args)
/-- what Accept returns -/
def acceptE (k : Int) (args : List Int) (w : Int) : Bool × Int := (decide (askQ k args = 0) && decide (valQ k args = w), askQ k args)
/-- the reference's search: low, and high - low = 2 ^ n -/
def searchN (p : Int → Bool) : Nat → Int → Int
  | 0, low => low
  | n + 1, low => searchN p n (if p ((low + (low + 2 ^ (n + 1))) / 2) = true then (low + (low + 2 ^ (n + 1))) / 2 else low)
theorem half_step (low : Int) (n : Nat) : (low + (low + 2 ^ (n + 1))) / 2 = low + 2 ^ n := by
  have e : (2 : Int) ^ (n + 1) = 2 * 2 ^ n := by rw [Int.pow_succ]; omega
  rw [e]
  generalize (2 : Int) ^ n = x
  omega
theorem search_great (p : Int → Bool) : ∀ (n : Nat) (t : Int), searchN p n t = greatN p n t
  | 0, _ => rfl
  | n + 1, t => by
    unfold searchN greatN
    rw [half_step]
    exact search_great p n _
theorem pow_pos' (n : Nat) : (1 : Int) ≤ 2 ^ n := by
  have : 1 ≤ 2 ^ n := Nat.one_le_two_pow
  have e : ((2 ^ n : Nat) : Int) = 2 ^ n := by simp
  omega
theorem greatN_spec (p : Int → Bool) : ∀ (n : Nat) (t : Int), p t = true → t ≤ greatN p n t ∧ greatN p n t < t + 2 ^ n ∧ p (greatN p n t) = true ∧ (greatN p n t = t + 2 ^ n - 1 ∨ p (greatN p n t + 1) = false)
  | 0, t, h => ⟨Int.le_refl _, by unfold greatN; simp; omega, h, .inl (by unfold greatN; simp)⟩
  | n + 1, t, h => by
    have e : (2 : Int) ^ (n + 1) = 2 * 2 ^ n := by rw [Int.pow_succ]; omega
    have hp := pow_pos' n
    unfold greatN
    by_cases hc : p (t + 2 ^ n) = true
    · rw [if_pos hc]
      obtain ⟨h1, h2, h3, h4⟩ := greatN_spec p n (t + 2 ^ n) hc
      refine ⟨by omega, by omega, h3, ?_⟩
      rcases h4 with h4 | h4
      · exact .inl (by omega)
      · exact .inr h4
    · rw [if_neg hc]
      obtain ⟨h1, h2, h3, h4⟩ := greatN_spec p n t h
      refine ⟨by omega, by omega, h3, ?_⟩
      rcases h4 with h4 | h4
      · refine .inr ?_
        rw [show greatN p n t + 1 = t + 2 ^ n by omega]
        simpa using hc
      · exact .inr h4
/-- a test that no greater number makes less: the greatest one is the only one -/
theorem great_one {p : Int → Bool} (hm : ∀ s t, 0 ≤ s → s ≤ t → p t = true → p s = true) {x y : Int} (hx : 0 ≤ x ∧ x ≤ 8388607 ∧ p x = true ∧ (x = 8388607 ∨ p (x + 1) = false)) (hy : 0 ≤ y ∧ y ≤ 8388607 ∧ p y = true ∧ (y = 8388607 ∨ p (y + 1) = false)) : x = y := by
  obtain ⟨x0, x1, x2, x3⟩ := hx
  obtain ⟨y0, y1, y2, y3⟩ := hy
  rcases Int.lt_trichotomy x y with h | h | h
  · rcases x3 with e | e
    · omega
    · have := hm (x + 1) y (by omega) (by omega) y2
      rw [e] at this; cases this
  · exact h
  · rcases y3 with e | e
    · omega
    · have := hm (y + 1) x (by omega) (by omega) x2
      rw [e] at this; cases this
theorem mulQ_mono {a b c d : Int} (ha : 0 ≤ a) (hc : 0 ≤ c) (h : a ≤ b) (k : c ≤ d) : mulQ a c ≤ mulQ b d := by
  unfold mulQ
  have h1 : a * c ≤ b * d := Int.le_trans (Int.mul_le_mul_of_nonneg_right h hc) (Int.mul_le_mul_of_nonneg_left k (by omega))
  exact Int.ediv_le_ediv (by decide) h1
theorem mulQ_nonneg {a b : Int} (ha : 0 ≤ a) (hb : 0 ≤ b) : 0 ≤ mulQ a b := Int.ediv_nonneg (Int.mul_nonneg ha hb) (by decide)
theorem testQ_mono {k : Int} {args : List Int} (h1 : 0 ≤ argQ args 1) {s t : Int} (hs : 0 ≤ s) (h : s ≤ t) : testQ k args s ≤ testQ k args t := by
  unfold testQ
  split
  · exact mulQ_mono hs h1 h (Int.le_refl _)
  · split
    · exact mulQ_mono (mulQ_nonneg hs hs) hs (mulQ_mono hs hs h h) h
    · exact mulQ_mono hs hs h h
theorem testQ_zero (k : Int) (args : List Int) : testQ k args 0 = 0 := by
  unfold testQ mulQ
  simp
theorem fits_mono {k : Int} {args : List Int} (h1 : 0 ≤ argQ args 1) {s t : Int} (hs : 0 ≤ s) (h : s ≤ t) (ht : fitsP k args t = true) : fitsP k args s = true := by
  unfold fitsP at *
  rw [decide_eq_true_eq] at *
  exact Int.le_trans (testQ_mono h1 hs h) ht
/-- what a routine has to come to -/
theorem val_spec (k : Int) (args : List Int) (h0 : 0 ≤ argQ args 0) : 0 ≤ valQ k args ∧ valQ k args ≤ 8388607 ∧ fitsP k args (valQ k args) = true ∧ (valQ k args = 8388607 ∨ fitsP k args (valQ k args + 1) = false) := by
  have hz : fitsP k args 0 = true := by unfold fitsP; rw [testQ_zero, decide_eq_true_eq]; exact h0
  obtain ⟨h1, h2, h3, h4⟩ := greatN_spec (fitsP k args) 23 0 hz
  unfold valQ
  exact ⟨h1, by omega, h3, h4.imp (fun e => by omega) id⟩
theorem val_one {k : Int} {args : List Int} (h0 : 0 ≤ argQ args 0) (h1 : 0 ≤ argQ args 1) {t : Int} (ht : 0 ≤ t ∧ t ≤ 8388607 ∧ fitsP k args t = true ∧ (t = 8388607 ∨ fitsP k args (t + 1) = false)) : valQ k args = t :=
  great_one (fun _ _ hs h ht => fits_mono h1 hs h ht) (val_spec k args h0) ht
theorem numB_bd {n : Int} (h : numB n = true) : 0 ≤ n ∧ n ≤ 8388607 := by simpa [numB] using h
/-- arguments without an error -/
theorem ask_ok {k : Int} {args : List Int} (h : askQ k args = 0) : (k = 1 ∨ k = 2 ∨ k = 3) ∧ (args.length : Int) = takesQ k ∧ ∀ n ∈ args, 0 ≤ n ∧ n ≤ 8388607 := by
  unfold askQ at h
  split at h
  · omega
  split at h
  · omega
  split at h
  · omega
  rename_i h1 h2 h3
  refine ⟨?_, by omega, fun n hn => ?_⟩
  · unfold takesQ at h1
    by_cases e1 : k = 1
    · exact .inl e1
    · by_cases e2 : k = 2
      · exact .inr (.inl e2)
      · by_cases e3 : k = 3
        · exact .inr (.inr e3)
        · rw [if_neg e1, if_neg e2, if_neg e3] at h1; exact absurd rfl h1
  · cases hb : numB n with
    | true => exact numB_bd hb
    | false => exact absurd (List.any_eq_true.2 ⟨n, hn, by rw [hb]; rfl⟩) h3
theorem arg_bd {args : List Int} (h : ∀ n ∈ args, 0 ≤ n ∧ n ≤ 8388607) (i : Nat) : 0 ≤ argQ args i ∧ argQ args i ≤ 8388607 := by
  unfold argQ
  rcases Nat.lt_or_ge i args.length with hi | hi
  · rw [List.getElem?_eq_getElem hi]
    exact h _ (List.getElem_mem hi)
  · rw [List.getElem?_eq_none hi]
    exact ⟨Int.le_refl _, by decide⟩
/-- the reference's Fits -/
def fitsQ (k : Int) (args : List Int) (t : Int) : Bool := numB t && fitsP k args t && (decide (t = 8388607) || !fitsP k args (t + 1))
theorem fits_val {k : Int} {args : List Int} (h : askQ k args = 0) (t : Int) : fitsQ k args t = decide (valQ k args = t) := by
  obtain ⟨-, -, hb⟩ := ask_ok h
  have b0 := (arg_bd hb 0).1
  have b1 := (arg_bd hb 1).1
  by_cases e : valQ k args = t
  · rw [decide_eq_true e, ← e]
    obtain ⟨h1, h2, h3, h4⟩ := val_spec k args b0
    unfold fitsQ numB
    rw [h3]
    rcases h4 with h4 | h4
    · rw [decide_eq_true h1, decide_eq_true h2, decide_eq_true h4]; rfl
    · rw [decide_eq_true h1, decide_eq_true h2, h4]; simp
  · rw [decide_eq_false e]
    cases hf : fitsQ k args t with
    | false => rfl
    | true =>
      unfold fitsQ at hf
      rw [Bool.and_eq_true, Bool.and_eq_true, Bool.or_eq_true] at hf
      obtain ⟨⟨h1, h2⟩, h3⟩ := hf
      have := numB_bd h1
      exact absurd (val_one b0 b1 ⟨this.1, this.2, h2, h3.imp (fun h => by simpa using h) (fun h => by simpa using h)⟩) e
end Go.Q
/- Layer 8: out, product, the kinds, ask, greatest, Value, Accept. -/
namespace Go.Q
theorem mul23 {a b : Int} (ha : 0 ≤ a ∧ a ≤ 8388608) (hb : 0 ≤ b ∧ b ≤ 8388608) : 0 ≤ a * b ∧ a * b ≤ 70368744177664 := by
  have h1 := Int.mul_nonneg ha.1 hb.1
  have h2 : a * b ≤ 8388608 * 8388608 := Int.mul_le_mul ha.2 hb.2 hb.1 (by omega)
  omega
theorem mulQ_bd {a b : Int} (ha : 0 ≤ a ∧ a ≤ 8388608) (hb : 0 ≤ b ∧ b ≤ 8388608) : 0 ≤ mulQ a b ∧ mulQ a b ≤ 8388608 := by
  have := mul23 ha hb
  unfold mulQ
  omega
end Go.Q
namespace Go.Proofs.Ytcijneecjkpebaa
open Go.RowKit Go.Q
set_option maxHeartbeats 400000 in
theorem lb_out (n l h : Int) (w : World) :
    Calls Try.prog 59 #[.int .i64 n, .int .i64 l, .int .i64 h] w fun e w' => e = .returned (.bool (!inB n l h)) ∧ w = w' := by
  by_cases h1 : n < l
  · go_enter Try.func59, Try.ntmps59
    go_wp2
    go_ret
    exact ⟨ret_bool (by unfold inB; rw [decide_eq_false (by omega : ¬ l ≤ n)]; rfl), rfl⟩
  · go_enter Try.func59, Try.ntmps59
    go_wp2
    go_ret
    exact ⟨ret_bool (by
      unfold inB
      rw [decide_eq_true (by omega : l ≤ n), Bool.true_and, ← decide_not]
      exact decide_eq_decide.2 (by omega)), rfl⟩
set_option maxHeartbeats 400000 in
theorem lb_product (a b : Int) (w : World) (h : 0 ≤ a * b ∧ a * b ≤ 70368744177664) :
    Calls Try.prog 125 #[.int .i64 a, .int .i64 b] w fun e w' => e = .returned (.int .i64 (mulQ a b)) ∧ w = w' := by
  obtain ⟨h0, h1⟩ := h
  go_enter Try.func125, Try.ntmps125
  go_wp2
  go_ret
  exact ⟨rfl, rfl⟩
/-- the functions of the kinds -/
def kindF (k : Int) : FuncId := if k = 2 then 126 else if k = 3 then 127 else 124
set_option maxHeartbeats 400000 in
theorem lb_root (t : Int) (v : Value) (w : World) (ht : 0 ≤ t ∧ t ≤ 8388608) :
    Calls Try.prog 124 #[.int .i64 t, v] w fun e w' => e = .returned (.int .i64 (mulQ t t)) ∧ w = w' := by
  have hp := fun W => lb_product t t W (mul23 ht ht)
  go_enter Try.func124, Try.ntmps124
  go_wp2_with fail
  refine (hp _).mono ?_
  rintro e w1 ⟨rfl, rfl⟩
  go_wp2
  go_ret
  exact ⟨rfl, rfl⟩
set_option maxHeartbeats 400000 in
theorem lb_cube (t : Int) (v : Value) (w : World) (ht : 0 ≤ t ∧ t ≤ 8388608) :
    Calls Try.prog 127 #[.int .i64 t, v] w fun e w' => e = .returned (.int .i64 (mulQ (mulQ t t) t)) ∧ w = w' := by
  have hp := fun W => lb_product t t W (mul23 ht ht)
  have hq := fun W => lb_product (mulQ t t) t W (mul23 (mulQ_bd ht ht) ht)
  go_enter Try.func127, Try.ntmps127
  go_wp2_with fail
  refine (hp _).mono ?_
  rintro e w1 ⟨rfl, rfl⟩
  go_wp2_with fail
  refine (hq _).mono ?_
  rintro e w1 ⟨rfl, rfl⟩
  go_wp2
  go_ret
  exact ⟨rfl, rfl⟩
set_option maxHeartbeats 400000 in
theorem lb_quot (t : Int) (b off c : Nat) (xs : List Int) (w : World) (ht : 0 ≤ t ∧ t ≤ 8388608) (h1 : 0 ≤ argQ xs 1 ∧ argQ xs 1 ≤ 8388608) (hn : xs.length = 2) (hc : ∀ i, i < xs.length → w.cell? ⟨b, off + i, none⟩ = some (.int .i64 (xs[i]?.getD 0))) :
    Calls Try.prog 126 #[.int .i64 t, .slice (some ⟨b, off, none⟩) 2 c] w fun e w' => e = .returned (.int .i64 (mulQ t (argQ xs 1))) ∧ w = w' := by
  have hq := fun W => lb_product t (argQ xs 1) W (mul23 ht h1)
  have c1 : w.cell? ⟨b, off + 1, none⟩ = some (.int .i64 (argQ xs 1)) := hc 1 (by omega)
  generalize argQ xs 1 = y at *
  clear hc hn
  go_enter Try.func126, Try.ntmps126
  go_wp2_with (go_at_call 125; refine (hq _).mono ?_; rintro e w1 ⟨rfl, rfl⟩)
  go_ret
  exact ⟨rfl, rfl⟩
/-- the function of a kind -/
def kindV (k : Int) : Value := if takesQ k = 0 then .nilFunc else .func (.func (kindF k)) #[] #[]
theorem lb_kind (k : Int) (w : World) :
    Calls Try.prog 99 #[.int .i64 k] w fun e w' => e = .returned (.agg #[.int .i64 (takesQ k), kindV k]) ∧ Ext w w' := by
  by_cases h1 : k = 1
  · subst h1
    go_enter Try.func99, Try.ntmps99
    go_wp2
    exact bodyPost_ret (v := .agg #[.int .i64 1, .func (.func 124) #[] #[]]) (by simp [results, Try.results99, go_sem]) rfl ⟨rfl, (by repeat (first | with_reducible exact Ext.refl _ |  (with_reducible refine Ext.alloc ?_ _) | (with_reducible refine Below.drew ?_) | (with_reducible refine below_drewN ?_ _) | (with_reducible refine ext_put ?_ _ ?_; rotate_left; (first | with_reducible exact Nat.le_refl _ | with_reducible exact Nat.le_succ _ | omega | (dsimp only; omega)))))⟩
  by_cases h2 : k = 2
  · subst h2
    go_enter Try.func99, Try.ntmps99
    go_wp2
    exact bodyPost_ret (v := .agg #[.int .i64 2, .func (.func 126) #[] #[]]) (by simp [results, Try.results99, go_sem]) rfl ⟨rfl, (by repeat (first | with_reducible exact Ext.refl _ |  (with_reducible refine Ext.alloc ?_ _) | (with_reducible refine Below.drew ?_) | (with_reducible refine below_drewN ?_ _) | (with_reducible refine ext_put ?_ _ ?_; rotate_left; (first | with_reducible exact Nat.le_refl _ | with_reducible exact Nat.le_succ _ | omega | (dsimp only; omega)))))⟩
  by_cases h3 : k = 3
  · subst h3
    go_enter Try.func99, Try.ntmps99
    go_wp2
    exact bodyPost_ret (v := .agg #[.int .i64 1, .func (.func 127) #[] #[]]) (by simp [results, Try.results99, go_sem]) rfl ⟨rfl, (by repeat (first | with_reducible exact Ext.refl _ |  (with_reducible refine Ext.alloc ?_ _) | (with_reducible refine Below.drew ?_) | (with_reducible refine below_drewN ?_ _) | (with_reducible refine ext_put ?_ _ ?_; rotate_left; (first | with_reducible exact Nat.le_refl _ | with_reducible exact Nat.le_succ _ | omega | (dsimp only; omega)))))⟩
  · have hT : takesQ k = 0 := by unfold takesQ; rw [if_neg h1, if_neg h2, if_neg h3]
    have e1 : kindV k = .nilFunc := by unfold kindV; rw [if_pos hT]
    rw [hT, e1]
    have b1 : (k == 1) = false := by simpa using h1
    have b2 : (k == 2) = false := by simpa using h2
    have b3 : (k == 3) = false := by simpa using h3
    clear hT e1
    go_enter Try.func99, Try.ntmps99
    go_wp2
    exact bodyPost_ret (v := .agg #[.int .i64 0, .nilFunc]) (by simp [results, Try.results99, go_sem]) rfl ⟨rfl, (by repeat (first | with_reducible exact Ext.refl _ |  (with_reducible refine Ext.alloc ?_ _) | (with_reducible refine Below.drew ?_) | (with_reducible refine below_drewN ?_ _) | (with_reducible refine ext_put ?_ _ ?_; rotate_left; (first | with_reducible exact Nat.le_refl _ | with_reducible exact Nat.le_succ _ | omega | (dsimp only; omega)))))⟩
theorem lb_ask1 (n : Int) (w : World) :
    Calls Try.prog 101 #[.int .i64 n] w fun e w' => e = .returned (.bool (!numB n)) ∧ w = w' := by
  go_enter Try.func101, Try.ntmps101
  go_wp2_with fail
  refine (lb_out _ _ _ _).mono ?_
  rintro e w1 ⟨rfl, rfl⟩
  go_wp2
  go_ret
  exact ⟨rfl, rfl⟩
theorem kindV0 {k : Int} (h : takesQ k = 0) : kindV k = .nilFunc := by unfold kindV; rw [if_pos h]
theorem kindV1 {k : Int} (h : takesQ k ≠ 0) : kindV k = .func (.func (kindF k)) #[] #[] := by unfold kindV; rw [if_neg h]
set_option maxHeartbeats 1000000 in
theorem lb_ask (k : Int) (a : Option Addr) (n c : Nat) (xs : List Int) (w : World) (hn : xs.length = n) (hb : n ≤ 9223372036854775807) (hI : IntsAt w a xs) :
    Calls Try.prog 50 #[.int .i64 k, .slice a n c] w fun e w' => e = .returned (.tuple #[.agg #[.int .i64 (takesQ k), kindV k], .int .i64 (askQ k xs)]) ∧ Ext w w' := by
  have hk := fun W => lb_kind k W
  have hcn := fun W (E : Ext w W) => contains_any 101 #[] (fun n => !numB n) a n c xs W (enters_of Try.func101 (by kernel_rfl) rfl) (fun W' x E' => (lb_ask1 x W').mono fun _ _ he => ⟨he.1, by rw [← he.2]; exact E'⟩) hn hb (hI.ext E)
  have HA := Lib.hid (show askQ k xs = if takesQ k = 0 then 2 else if (xs.length : Int) ≠ takesQ k then 3 else if xs.any (fun n => !numB n) = true then 7 else 0 from rfl)
  obtain ⟨R, hR⟩ : ∃ R, askQ k xs = R := ⟨_, rfl⟩
  rw [hR] at HA ⊢
  by_cases h0 : takesQ k = 0
  · rw [kindV0 h0] at hk ⊢
    rw [h0] at hk HA ⊢
    have HR := Lib.hid (show R = 2 by rw [HA.out, if_pos rfl])
    clear hcn HA h0 hR
    go_enter Try.func50, Try.ntmps50
    go_wp2_with fail
    refine (hk _).mono ?_
    rintro e w1 ⟨rfl, E1⟩
    have f0 := box_free E1 0
    have f1 := box_free E1 1
    have hz0 : w.heap.size < w1.heap.size := by have := E1.size; simp at this; omega
    have p0 := box_at (v := .int .i64 0) E1 0 rfl
    have p1 := box_at (v := .nilFunc) E1 1 rfl
    go_wp2
    exact bodyPost_ret (v := .tuple #[.agg #[.int .i64 0, .nilFunc], .int .i64 2]) (by simp [results, Try.results50, go_sem, p0, p1, hz0]) rfl ⟨by rw [HR.out], (by repeat (first | with_reducible exact Ext.refl _ | with_reducible exact E1 | with_reducible exact E1.old | with_reducible exact E1.old.old | with_reducible exact E1.old.old.old | (with_reducible refine Ext.alloc ?_ _) | (with_reducible refine Below.drew ?_) | (with_reducible refine below_drewN ?_ _) | (with_reducible refine ext_put ?_ _ ?_; rotate_left; (first | with_reducible exact Nat.le_refl _ | with_reducible exact Nat.le_succ _ | omega | (dsimp only; omega)))))⟩
  rw [kindV1 h0] at hk ⊢
  obtain ⟨T, hT⟩ : ∃ T, takesQ k = T := ⟨_, rfl⟩
  obtain ⟨g, hg⟩ : ∃ g, kindF k = g := ⟨_, rfl⟩
  rw [hT, hg] at hk ⊢
  rw [hT, hn] at HA
  rw [hT] at h0
  clear hT hg hR hI hn
  have hTb : (T == 0) = false := by simpa using h0
  by_cases h1 : (n : Int) ≠ T
  · have HR := Lib.hid (show R = 3 by rw [HA.out, if_neg h0, if_pos h1])
    have hnb : ((n : Int) != T) = true := by simpa using h1
    clear hcn HA h0 h1
    go_enter Try.func50, Try.ntmps50
    go_wp2_with fail
    refine (hk _).mono ?_
    rintro e w1 ⟨rfl, E1⟩
    have f0 := box_free E1 0
    have f1 := box_free E1 1
    have hz0 : w.heap.size < w1.heap.size := by have := E1.size; simp at this; omega
    have p0 := box_at (v := .int .i64 0) E1 0 rfl
    have p1 := box_at (v := .nilFunc) E1 1 rfl
    go_wp2
    exact bodyPost_ret (v := .tuple #[.agg #[.int .i64 T, .func (.func g) #[] #[]], .int .i64 3]) (by simp [results, Try.results50, go_sem, p0, p1, hz0]) rfl ⟨by rw [HR.out], (by repeat (first | with_reducible exact Ext.refl _ | with_reducible exact E1 | with_reducible exact E1.old | with_reducible exact E1.old.old | with_reducible exact E1.old.old.old | (with_reducible refine Ext.alloc ?_ _) | (with_reducible refine Below.drew ?_) | (with_reducible refine below_drewN ?_ _) | (with_reducible refine ext_put ?_ _ ?_; rotate_left; (first | with_reducible exact Nat.le_refl _ | with_reducible exact Nat.le_succ _ | omega | (dsimp only; omega)))))⟩
  have hnb : ((n : Int) != T) = false := by simpa using h1
  cases hA : xs.any (fun n => !numB n) with
  | true =>
    have HR := Lib.hid (show R = 7 by rw [HA.out, if_neg h0, if_neg h1, if_pos hA])
    rw [hA] at hcn
    clear HA h0 h1 hA
    go_enter Try.func50, Try.ntmps50
    go_wp2_with fail
    refine (hk _).mono ?_
    rintro e w1 ⟨rfl, E1⟩
    have hz0 : w.heap.size < w1.heap.size := by have := E1.size; simp at this; omega
    go_wp2_with fail
    refine (hcn _ (by repeat (first | with_reducible exact Ext.refl _ | with_reducible exact E1 | with_reducible exact E1.old | with_reducible exact E1.old.old | with_reducible exact E1.old.old.old | (with_reducible refine Ext.alloc ?_ _) | (with_reducible refine Below.drew ?_) | (with_reducible refine below_drewN ?_ _) | (with_reducible refine ext_put ?_ _ ?_; rotate_left; (first | with_reducible exact Nat.le_refl _ | with_reducible exact Nat.le_succ _ | omega | (dsimp only; omega)))))).mono ?_
    rintro e w2 ⟨rfl, E2⟩
    have B0 := ((Blk.of E1).al (.cells #[.int .i64 T, .func (.func g) #[] #[]] 99)).ex E2
    have B1 := (Blk.nw w1 #[.int .i64 T, .func (.func g) #[] #[]] 99).ex E2
    have E3 : Ext w w2 := E1.old.comp E2.old
    have p0 := Blk.c B0 0 (v := .int .i64 0) rfl
    have p1 := Blk.c B0 1 (v := .nilFunc) rfl
    have q0 := Blk.c B1 0 (v := .int .i64 T) rfl
    have q1 := Blk.c B1 1 (v := .func (.func g) #[] #[]) rfl
    have f0 := Blk.f B0 0
    have f1 := Blk.f B0 1
    go_wp2
    exact bodyPost_ret (v := .tuple #[.agg #[.int .i64 T, .func (.func g) #[] #[]], .int .i64 7]) (by simp [results, Try.results50, go_sem, p0, p1]) rfl ⟨by rw [HR.out], (by repeat (first | with_reducible exact Ext.refl _ | with_reducible exact E3 | with_reducible exact E3.old | with_reducible exact E3.old.old | with_reducible exact E3.old.old.old | (with_reducible refine Ext.alloc ?_ _) | (with_reducible refine Below.drew ?_) | (with_reducible refine below_drewN ?_ _) | (with_reducible refine ext_put ?_ _ ?_; rotate_left; (first | with_reducible exact Nat.le_refl _ | with_reducible exact Nat.le_succ _ | omega | (dsimp only; omega)))))⟩
  | false =>
    have HR := Lib.hid (show R = 0 by rw [HA.out, if_neg h0, if_neg h1, if_neg (by rw [hA]; simp)])
    rw [hA] at hcn
    clear HA h0 h1 hA
    go_enter Try.func50, Try.ntmps50
    go_wp2_with fail
    refine (hk _).mono ?_
    rintro e w1 ⟨rfl, E1⟩
    have hz0 : w.heap.size < w1.heap.size := by have := E1.size; simp at this; omega
    go_wp2_with fail
    refine (hcn _ (by repeat (first | with_reducible exact Ext.refl _ | with_reducible exact E1 | with_reducible exact E1.old | with_reducible exact E1.old.old | with_reducible exact E1.old.old.old | (with_reducible refine Ext.alloc ?_ _) | (with_reducible refine Below.drew ?_) | (with_reducible refine below_drewN ?_ _) | (with_reducible refine ext_put ?_ _ ?_; rotate_left; (first | with_reducible exact Nat.le_refl _ | with_reducible exact Nat.le_succ _ | omega | (dsimp only; omega)))))).mono ?_
    rintro e w2 ⟨rfl, E2⟩
    have B0 := ((Blk.of E1).al (.cells #[.int .i64 T, .func (.func g) #[] #[]] 99)).ex E2
    have B1 := (Blk.nw w1 #[.int .i64 T, .func (.func g) #[] #[]] 99).ex E2
    have E3 : Ext w w2 := E1.old.comp E2.old
    have p0 := Blk.c B0 0 (v := .int .i64 0) rfl
    have p1 := Blk.c B0 1 (v := .nilFunc) rfl
    have q0 := Blk.c B1 0 (v := .int .i64 T) rfl
    have q1 := Blk.c B1 1 (v := .func (.func g) #[] #[]) rfl
    have f0 := Blk.f B0 0
    have f1 := Blk.f B0 1
    go_wp2
    exact bodyPost_ret (v := .tuple #[.agg #[.int .i64 T, .func (.func g) #[] #[]], .int .i64 0]) (by simp [results, Try.results50, go_sem, p0, p1]) rfl ⟨by rw [HR.out], (by repeat (first | with_reducible exact Ext.refl _ | with_reducible exact E3 | with_reducible exact E3.old | with_reducible exact E3.old.old | with_reducible exact E3.old.old.old | (with_reducible refine Ext.alloc ?_ _) | (with_reducible refine Below.drew ?_) | (with_reducible refine below_drewN ?_ _) | (with_reducible refine ext_put ?_ _ ?_; rotate_left; (first | with_reducible exact Nat.le_refl _ | with_reducible exact Nat.le_succ _ | omega | (dsimp only; omega)))))⟩
end Go.Proofs.Ytcijneecjkpebaa
/- Layer 8: the error of a routine. -/
namespace Go.Q
theorem any_not (p : Int → Bool) : ∀ xs : List Int, xs.any (fun n => !p n) = !xs.all p
  | [] => rfl
  | x :: xs => by rw [List.any_cons, List.all_cons, any_not p xs, Bool.not_and]
end Go.Q
namespace Go.Proofs.Ytcijneecjkpebaa
open Go.RowKit Go.Q
theorem lb_check1 (n : Int) (w : World) :
    Calls Try.prog 104 #[.int .i64 n] w fun e w' => e = .returned (.bool (!wordB n)) ∧ w = w' := by
  go_enter Try.func104, Try.ntmps104
  go_wp2_with fail
  refine (lb_out _ _ _ _).mono ?_
  rintro e w1 ⟨rfl, rfl⟩
  go_wp2
  go_ret
  exact ⟨rfl, rfl⟩
theorem lb_check2 (n : Int) (w : World) :
    Calls Try.prog 105 #[.int .i64 n] w fun e w' => e = .returned (.bool (!maskB n)) ∧ w = w' := by
  go_enter Try.func105, Try.ntmps105
  go_wp2_with fail
  refine (lb_out _ _ _ _).mono ?_
  rintro e w1 ⟨rfl, rfl⟩
  go_wp2
  go_ret
  exact ⟨rfl, rfl⟩
theorem lb_check3 (n : Int) (b m c : Nat) (a : Option Addr) (w : World) (hm : m ≤ 40) (hc : w.cell? ⟨b, 0, none⟩ = some (.slice a m c)) :
    Calls Try.prog 106 #[.int .i64 n, .pointer (some ⟨b, 0, none⟩)] w fun e w' => e = .returned (.bool (!inB n 0 ((m : Int) - 1))) ∧ Ext w w' := by
  go_enter Try.func106, Try.ntmps106
  go_wp2_with fail
  refine (lb_out _ _ _ _).mono ?_
  rintro e w1 ⟨rfl, rfl⟩
  go_wp2
  go_ret
  exact ⟨rfl, Ext.refl _⟩
set_option maxRecDepth 100000 in
set_option maxHeartbeats 4000000 in
theorem lb_check (c : Rt) (l : Lo) (w : World) (h : RtAt w c l) (hb : RtBd c) :
    Calls Try.prog 58 #[.agg #[.slice l.a1 c.words.length l.c1, .slice l.a2 c.masks.length l.c2, .int .i64 c.entry, .int .i64 c.exit, .int .i64 c.result, .slice l.a3 c.args.length l.c3]] w fun e w' => e = .returned (.int .i64 (checkR c)) ∧ Ext w w' := by
  obtain ⟨ws, ms, en, ex, re, ar⟩ := c
  obtain ⟨a1, c1, a2, c2, a3, c3⟩ := l
  obtain ⟨i1, i2, i3⟩ := h
  obtain ⟨b1, b2, b3⟩ := hb
  dsimp only at *
  have HA := Lib.hid (show checkR ⟨ws, ms, en, ex, re, ar⟩ = if inB ws.length 1 40 = false ∨ ms.length ≠ ws.length ∨ inB ar.length 1 2 = false then 3
    else if ws.all wordB = false ∨ ms.all maskB = false then 7
    else if ([en, ex, re] ++ ar).all (fun p => inB p 0 ((ws.length : Int) - 1)) = false then 4 else 0 from rfl)
  obtain ⟨R, hR⟩ : ∃ R, checkR ⟨ws, ms, en, ex, re, ar⟩ = R := ⟨_, rfl⟩
  rw [hR] at HA ⊢
  have hW := fun W (E : Ext w W) => contains_any 104 #[] (fun n => !wordB n) a1 ws.length c1 ws W (enters_of Try.func104 (by kernel_rfl) rfl) (fun W' x E' => (lb_check1 x W').mono fun _ _ he => ⟨he.1, by rw [← he.2]; exact E'⟩) rfl b1 (i1.ext E)
  have hM := fun W (E : Ext w W) => contains_any 105 #[] (fun n => !maskB n) a2 ms.length c2 ms W (enters_of Try.func105 (by kernel_rfl) rfl) (fun W' x E' => (lb_check2 x W').mono fun _ _ he => ⟨he.1, by rw [← he.2]; exact E'⟩) rfl b2 (i2.ext E)
  have hfr := fun W (E : Ext w W) => from_ints (i3.ext E)
  have hP := fun W (b : Nat) (a : Option Addr) (n cc : Nat) (xs : List Int) (hm : ws.length ≤ 40) (hc : ∀ W', Ext W W' → W'.cell? ⟨b, 0, none⟩ = some (.slice a1 ws.length c1)) (hn : xs.length = n) (hI : IntsAt W a xs) (hb : n ≤ 9223372036854775807) =>
    contains_any 106 #[.pointer (some ⟨b, 0, none⟩)] (fun p => !inB p 0 ((ws.length : Int) - 1)) a n cc xs W (enters_of Try.func106 (by kernel_rfl) rfl) (fun W' x E' => (lb_check3 x b ws.length c1 a1 W' hm (hc W' E')).mono fun _ _ he => ⟨he.1, E'.comp he.2⟩) hn hb hI
  rw [any_not] at hW hM
  simp only [any_not (fun p => inB p 0 ((ws.length : Int) - 1))] at hP
  have hO1 := fun W => lb_out (ws.length : Int) 1 40 W
  have hO2 := fun W => lb_out (ar.length : Int) 1 2 W
  obtain ⟨nw, hnw⟩ : ∃ nw, ws.length = nw := ⟨_, rfl⟩
  obtain ⟨nm, hnm⟩ : ∃ nm, ms.length = nm := ⟨_, rfl⟩
  obtain ⟨na, hna⟩ : ∃ na, ar.length = na := ⟨_, rfl⟩
  rw [hnw] at HA hW hP hO1 b1 ⊢
  rw [hnm] at HA hM b2 ⊢
  rw [hna] at HA hO2 b3 ⊢
  have HNA := Lib.hid hna
  clear hR hnw hnm hna i1 i2 i3
  cases h1 : inB (nw : Int) 1 40 with
  | false =>
    have HR := Lib.hid (show R = 3 by rw [HA.out, if_pos (.inl h1)])
    rw [h1] at hO1
    clear hW hM hfr hP hO2 HA h1
    go_enter Try.func58, Try.ntmps58
    go_wp2_with fail
    refine (hO1 _).mono ?_
    rintro e w1 ⟨rfl, rfl⟩
    go_wp2
    go_ret
    exact ⟨ret_int HR.out.symm, (by repeat (first | with_reducible exact Ext.refl _ |  (with_reducible refine Ext.alloc ?_ _) | (with_reducible refine Below.drew ?_) | (with_reducible refine below_drewN ?_ _) | (with_reducible refine ext_put ?_ _ ?_; rotate_left; (first | with_reducible exact Nat.le_refl _ | with_reducible exact Nat.le_succ _ | omega | (dsimp only; omega)))))⟩
  | true =>
  have hnw40 := inB_bd h1
  rw [h1] at hO1
  by_cases h2 : nm ≠ nw
  · have HR := Lib.hid (show R = 3 by rw [HA.out, if_pos (.inr (.inl h2))])
    have h2b : ((nm : Int) != (nw : Int)) = true := by simp; omega
    clear hW hM hfr hP hO2 HA h1 h2
    go_enter Try.func58, Try.ntmps58
    go_wp2_with fail
    refine (hO1 _).mono ?_
    rintro e w1 ⟨rfl, rfl⟩
    go_wp2
    go_ret
    exact ⟨ret_int HR.out.symm, (by repeat (first | with_reducible exact Ext.refl _ |  (with_reducible refine Ext.alloc ?_ _) | (with_reducible refine Below.drew ?_) | (with_reducible refine below_drewN ?_ _) | (with_reducible refine ext_put ?_ _ ?_; rotate_left; (first | with_reducible exact Nat.le_refl _ | with_reducible exact Nat.le_succ _ | omega | (dsimp only; omega)))))⟩
  obtain rfl : nm = nw := by omega
  have h2b : ((nm : Int) != (nm : Int)) = false := by simp
  cases h3 : inB (na : Int) 1 2 with
  | false =>
    have HR := Lib.hid (show R = 3 by rw [HA.out, if_pos (.inr (.inr h3))])
    rw [h3] at hO2
    clear hW hM hfr hP HA h1 h2 h3
    go_enter Try.func58, Try.ntmps58
    go_wp2_with fail
    refine (hO1 _).mono ?_
    rintro e w1 ⟨rfl, rfl⟩
    go_wp2_with fail
    refine (hO2 _).mono ?_
    rintro e w1 ⟨rfl, rfl⟩
    go_wp2
    go_ret
    exact ⟨ret_int HR.out.symm, (by repeat (first | with_reducible exact Ext.refl _ |  (with_reducible refine Ext.alloc ?_ _) | (with_reducible refine Below.drew ?_) | (with_reducible refine below_drewN ?_ _) | (with_reducible refine ext_put ?_ _ ?_; rotate_left; (first | with_reducible exact Nat.le_refl _ | with_reducible exact Nat.le_succ _ | omega | (dsimp only; omega)))))⟩
  | true =>
  have hna2 := inB_bd h3
  rw [h3] at hO2
  replace HA := Lib.hid (show R = if ws.all wordB = false ∨ ms.all maskB = false then 7
    else if ([en, ex, re] ++ ar).all (fun p => inB p 0 ((nm : Int) - 1)) = false then 4 else 0 by rw [HA.out, if_neg (by rw [h1, h3]; simp)])
  clear h1 h2 h3
  cases h4 : ws.all wordB with
  | false =>
    have HR := Lib.hid (show R = 7 by rw [HA.out, if_pos (.inl h4)])
    rw [h4] at hW
    clear hM hfr hP HA h4
    go_enter Try.func58, Try.ntmps58
    go_wp2_with fail
    refine (hO1 _).mono ?_
    rintro e w1 ⟨rfl, rfl⟩
    go_wp2_with fail
    refine (hO2 _).mono ?_
    rintro e w1 ⟨rfl, rfl⟩
    go_wp2_with fail
    refine (hW _ (by repeat (first | with_reducible exact Ext.refl _ |  (with_reducible refine Ext.alloc ?_ _) | (with_reducible refine Below.drew ?_) | (with_reducible refine below_drewN ?_ _) | (with_reducible refine ext_put ?_ _ ?_; rotate_left; (first | with_reducible exact Nat.le_refl _ | with_reducible exact Nat.le_succ _ | omega | (dsimp only; omega)))))).mono ?_
    rintro e w1 ⟨rfl, E1⟩
    go_wp2
    go_ret
    exact ⟨ret_int HR.out.symm, E1.old⟩
  | true =>
  rw [h4] at hW
  cases h5 : ms.all maskB with
  | false =>
    have HR := Lib.hid (show R = 7 by rw [HA.out, if_pos (.inr h5)])
    rw [h5] at hM
    clear hfr hP HA h4 h5
    go_enter Try.func58, Try.ntmps58
    go_wp2_with fail
    refine (hO1 _).mono ?_
    rintro e w1 ⟨rfl, rfl⟩
    go_wp2_with fail
    refine (hO2 _).mono ?_
    rintro e w1 ⟨rfl, rfl⟩
    go_wp2_with fail
    refine (hW _ (by repeat (first | with_reducible exact Ext.refl _ |  (with_reducible refine Ext.alloc ?_ _) | (with_reducible refine Below.drew ?_) | (with_reducible refine below_drewN ?_ _) | (with_reducible refine ext_put ?_ _ ?_; rotate_left; (first | with_reducible exact Nat.le_refl _ | with_reducible exact Nat.le_succ _ | omega | (dsimp only; omega)))))).mono ?_
    rintro e w1 ⟨rfl, E1⟩
    have p0 := Blk.c (Blk.of E1) 0 (v := .slice a1 nm c1) rfl
    have p1 := Blk.c (Blk.of E1) 1 (v := .slice a2 nm c2) rfl
    have p2 := Blk.c (Blk.of E1) 2 (v := .int .i64 en) rfl
    have p3 := Blk.c (Blk.of E1) 3 (v := .int .i64 ex) rfl
    have p4 := Blk.c (Blk.of E1) 4 (v := .int .i64 re) rfl
    have p5 := Blk.c (Blk.of E1) 5 (v := .slice a3 na c3) rfl
    go_wp2_with fail
    refine (hM _ E1.old).mono ?_
    rintro e w2 ⟨rfl, E2⟩
    go_wp2
    go_ret
    exact ⟨ret_int HR.out.symm, E1.old.comp E2⟩
  | true =>
  rw [h5] at hM
  replace HA := Lib.hid (show R = if ([en, ex, re] ++ ar).all (fun p => inB p 0 ((nm : Int) - 1)) = false then 4 else 0 by rw [HA.out, if_neg (by rw [h4, h5]; simp)])
  clear h4 h5
  obtain ⟨i0, hi0, hz0, hz1, hz2⟩ := info_parts Try.infoE
  go_enter Try.func58, Try.ntmps58
  go_wp2_with fail
  refine (hO1 _).mono ?_
  rintro e w1 ⟨rfl, rfl⟩
  go_wp2_with fail
  refine (hO2 _).mono ?_
  rintro e w1 ⟨rfl, rfl⟩
  go_wp2_with fail
  refine (hW _ (by repeat (first | with_reducible exact Ext.refl _ |  (with_reducible refine Ext.alloc ?_ _) | (with_reducible refine Below.drew ?_) | (with_reducible refine below_drewN ?_ _) | (with_reducible refine ext_put ?_ _ ?_; rotate_left; (first | with_reducible exact Nat.le_refl _ | with_reducible exact Nat.le_succ _ | omega | (dsimp only; omega)))))).mono ?_
  rintro e w1 ⟨rfl, E1⟩
  have p0 := Blk.c (Blk.of E1) 0 (v := .slice a1 nm c1) rfl
  have p1 := Blk.c (Blk.of E1) 1 (v := .slice a2 nm c2) rfl
  have p2 := Blk.c (Blk.of E1) 2 (v := .int .i64 en) rfl
  have p3 := Blk.c (Blk.of E1) 3 (v := .int .i64 ex) rfl
  have p4 := Blk.c (Blk.of E1) 4 (v := .int .i64 re) rfl
  have p5 := Blk.c (Blk.of E1) 5 (v := .slice a3 na c3) rfl
  have EA := E1.old
  go_wp2_with fail
  refine (hM _ EA).mono ?_
  rintro e w2 ⟨rfl, E2⟩
  clear p0 p1 p2 p3 p4 p5
  have B0 := (Blk.of E1).ex E2
  have p0 := Blk.c B0 0 (v := .slice a1 nm c1) rfl
  have p1 := Blk.c B0 1 (v := .slice a2 nm c2) rfl
  have p2 := Blk.c B0 2 (v := .int .i64 en) rfl
  have p3 := Blk.c B0 3 (v := .int .i64 ex) rfl
  have p4 := Blk.c B0 4 (v := .int .i64 re) rfl
  have p5 := Blk.c B0 5 (v := .slice a3 na c3) rfl
  have EB := EA.comp E2
  have hlt0 := B0.lt
  clear hW hM hO1 hO2
  have hown := own_lit (w := w2) (e := 3) (sz := 1) (n := 3) (vs := #[.int .i64 en, .int .i64 ex, .int .i64 re]) rfl (by decide) (Ext.refl _)
  have hfw := hfr (w2.alloc (.cells #[.int .i64 en, .int .i64 ex, .int .i64 re] 3)) (EB.alloc _)
  have hlen : (iv ar).length = na * 1 := by rw [iv_length, HNA.out]; omega
  go_wp2_with (at_builtin; refine wpList_app (w0 := w2) rfl _ _ 22 rfl 3 i0 (.int .i64 0) 1 8 Try.underlying22 hi0 hz0 hz1 hz2 rfl (by decide) _ 3 w2.heap.size [.int .i64 en, .int .i64 ex, .int .i64 re] rfl hown ((Ext.refl _).alloc _) (Nat.le_refl _) (by rw [World.size_alloc]; omega) a3 na c3 (iv ar) rfl hlen hfw (iv_one ar) (by unfold maxLen; omega) (by omega) ?_; intro a5 c5 w5 ho5 hE5 _)
  have hI5 : IntsAt w5 a5 ([en, ex, re] ++ ar) := own_intsL (xs := [en, ex, re] ++ ar) ho5
  have B5 := B0.ex hE5
  have hcall := hP w5 w.heap.size a5 (3 + na) c5 ([en, ex, re] ++ ar) (by omega) (fun W' E' => (B5.ex E').c 0 rfl) (by rw [List.length_append, HNA.out]; rfl) hI5 (by omega)
  clear hP hfr hown hfw hlen ho5 hI5
  cases h6 : ([en, ex, re] ++ ar).all (fun p => inB p 0 ((nm : Int) - 1)) with
  | false =>
    have HR := Lib.hid (show R = 4 by rw [HA.out, if_pos h6])
    rw [h6] at hcall
    clear h6 HA
    refine hcall.mono ?_
    rintro e w6 ⟨rfl, E6⟩
    go_wp2
    go_ret
    exact ⟨ret_int HR.out.symm, EB.comp (hE5.comp E6)⟩
  | true =>
    have HR := Lib.hid (show R = 0 by rw [HA.out, if_neg (by rw [h6]; simp)])
    rw [h6] at hcall
    clear h6 HA
    refine hcall.mono ?_
    rintro e w6 ⟨rfl, E6⟩
    go_wp2
    go_ret
    exact ⟨ret_int HR.out.symm, EB.comp (hE5.comp E6)⟩
end Go.Proofs.Ytcijneecjkpebaa
/- Layer 4 in plain Lean, on: a run, and its trace. -/
namespace Go.Q
/-- an order that is done -/
structure Stp where
  at_ : Int
  ord : Ord
  time : Int
  until_ : Int
def runQ : Nat → St → St
  | 0, s => s
  | n + 1, s => if s.why = 0 then runQ n (stepQ s) else s
def traceQ : Nat → St → List Stp
  | 0, _ => []
  | n + 1, s => if s.why = 0 then (if whyAt s = 0 then ⟨s.at_, ordAt s, s.time, untilAt s⟩ :: traceQ n (stepQ s) else []) else []
theorem doQ_same (s : St) (o : Ord) : (doQ s o).tape = s.tape ∧ (doQ s o).time = s.time ∧ (doQ s o).at_ = s.at_ ∧ (doQ s o).done = s.done ∧ (doQ s o).why = s.why := by
  unfold doQ
  dsimp only
  repeat' split
  all_goals exact ⟨rfl, rfl, rfl, rfl, rfl⟩
theorem whyAt_bd (s : St) : 0 ≤ whyAt s ∧ whyAt s ≤ 4 := by
  unfold whyAt
  repeat' split
  all_goals omega
theorem after_mod (t a : Int) : after t a % 16 = a % 16 := by unfold after; omega
theorem after_gt (t a : Int) : t + 1 ≤ after t a ∧ after t a ≤ t + 16 := by unfold after; omega
theorem whenEnd_bd (o : Ord) (t : Int) : t + 1 ≤ whenEnd o t ∧ whenEnd o t ≤ t + 60 := by
  have h1 := after_gt t o.frm
  have h2 := after_gt t o.to
  have h3 := after_gt (after t o.frm) o.to
  have h4 := after_gt (after (after t o.frm) o.to + 12) o.to
  unfold whenEnd
  repeat' split
  all_goals omega
theorem until_bd (o : Ord) (t : Int) (ng : Bool) : t + 2 ≤ whenUntil o t ng ∧ whenUntil o t ng ≤ t + 76 ∧ whenUntil o t ng % 16 = whenAt o ng % 16 := by
  have h1 := whenEnd_bd o t
  have h2 := after_gt (whenEnd o t) (whenAt o ng)
  exact ⟨by unfold whenUntil; omega, by unfold whenUntil; omega, after_mod _ _⟩
theorem set_all {xs : List Int} {P : Int → Prop} (h : ∀ x ∈ xs, P x) (i : Nat) {v : Int} (hv : P v) : ∀ x ∈ xs.set i v, P x := by
  intro x hx
  rcases List.mem_or_eq_of_mem_set hx with h1 | h1
  · exact h x h1
  · exact h1 ▸ hv
theorem doQ_valid {s : St} (h : Valid s) (h7 : ¬((ordAt s).op = 7 ∧ s.printed.length = 200)) (h6 : ¬((ordAt s).op = 6 ∧ s.taken = s.tape.length)) :
    (doQ s (ordAt s)).store.length = 128 ∧ (doQ s (ordAt s)).printed.length ≤ 200 ∧ (∀ x ∈ (doQ s (ordAt s)).store, 0 ≤ x ∧ x ≤ 16777215) ∧ (∀ x ∈ (doQ s (ordAt s)).printed, 0 ≤ x ∧ x ≤ 16777215) ∧
      0 ≤ (doQ s (ordAt s)).taken ∧ (doQ s (ordAt s)).taken ≤ s.tape.length := by
  have ho := h.ord
  generalize ordAt s = o at *
  obtain ⟨_, ⟨a0, a1⟩, ⟨b0, b1⟩, _⟩ : (0 ≤ o.op ∧ o.op ≤ 7) ∧ (0 ≤ o.frm ∧ o.frm ≤ 127) ∧ (0 ≤ o.to ∧ o.to ≤ 127) ∧ 0 ≤ o.nxt ∧ o.nxt ≤ 127 := by
    simp only [ordB, addrB, Bool.and_eq_true] at ho
    exact ⟨inB_bd ho.1.1.1, inB_bd ho.1.1.2, inB_bd ho.1.2, inB_bd ho.2⟩
  have wa := h.word o.frm a0 a1
  have wb := h.word o.to b0 b1
  have st := h.ws
  have pt := h.wp
  have hl := h.len
  have hp := h.plen
  have ht := h.taken
  unfold doQ
  dsimp only
  split
  · exact ⟨by simpa using hl, hp, set_all st _ wa, pt, ht.1, ht.2⟩
  split
  · exact ⟨by simpa using hl, hp, set_all st _ (by omega), pt, ht.1, ht.2⟩
  split
  · exact ⟨by simpa using hl, hp, set_all st _ (by omega), pt, ht.1, ht.2⟩
  split
  · exact ⟨by simpa using hl, hp, set_all st _ (by unfold prod; omega), pt, ht.1, ht.2⟩
  split
  · rename_i e6
    have hlt : s.taken < s.tape.length := by
      rcases Int.lt_or_le s.taken s.tape.length with h | h'
      · exact h
      · exact absurd ⟨e6, by omega⟩ h6
    exact ⟨by simpa using hl, hp, set_all st _ (mem_get (by omega) h.wt), pt, by show 0 ≤ s.taken + 1; omega, by show s.taken + 1 ≤ _; omega⟩
  split
  · rename_i e7
    refine ⟨hl, ?_, st, ?_, ht.1, ht.2⟩
    · have : s.printed.length ≠ 200 := fun e => h7 ⟨e7, e⟩
      simp only [List.length_append, List.length_cons, List.length_nil]
      omega
    · intro x hx
      rcases List.mem_append.1 hx with h1 | h1
      · exact pt x h1
      · simp only [List.mem_singleton] at h1; exact h1 ▸ wa
  · exact ⟨hl, hp, st, pt, ht.1, ht.2⟩
theorem stepQ_valid {s : St} (h : Valid s) : Valid (stepQ s) := by
  unfold stepQ
  split
  · rename_i hw
    have h7 : ¬((ordAt s).op = 7 ∧ s.printed.length = 200) := by
      intro hc; unfold whyAt at hw; rw [if_neg (by omega), if_neg (by omega), if_pos hc] at hw; omega
    have h6 : ¬((ordAt s).op = 6 ∧ s.taken = s.tape.length) := by
      intro hc; unfold whyAt at hw; rw [if_neg (by omega), if_pos hc] at hw; omega
    have hu : untilAt s ≤ 1000000000 := by
      by_cases hc : untilAt s ≤ 1000000000
      · exact hc
      have hc' : 1000000000 < untilAt s := by omega
      by_cases h0 : (ordAt s).op = 0
      · simp [whyAt, h0] at hw
      · simp [whyAt, h0, h6, h7, hc'] at hw
    obtain ⟨d1, d2, d3, d4, d5, d6⟩ := doQ_valid h h7 h6
    obtain ⟨q1, q2, q3, q4, q5⟩ := doQ_same s (ordAt s)
    have ub := until_bd (ordAt s) s.time (negAt s)
    have ue : untilAt s = whenUntil (ordAt s) s.time (negAt s) := rfl
    have ho := h.ord
    simp only [ordB, addrB, Bool.and_eq_true] at ho
    have b1 := inB_bd ho.1.2
    have b2 := inB_bd ho.2
    have hat : 0 ≤ whenAt (ordAt s) (negAt s) ∧ whenAt (ordAt s) (negAt s) ≤ 127 := by unfold whenAt; split <;> assumption
    have ht := h.time
    have hd := h.done
    have hy := h.why
    exact ⟨d1, by show (doQ s (ordAt s)).tape.length ≤ _; rw [q1]; exact h.tlen, d2, d3, by show ∀ x ∈ (doQ s (ordAt s)).tape, _; rw [q1]; exact h.wt, d4,
      ⟨d5, by show _ ≤ ((doQ s (ordAt s)).tape.length : Int); rw [q1]; exact d6⟩, ⟨by show 0 ≤ untilAt s; omega, hu⟩, hat, ⟨by show 0 ≤ s.done + 1; omega, by show s.done + 1 ≤ untilAt s; omega⟩, by show 0 ≤ (doQ s (ordAt s)).why ∧ _; rw [q5]; exact hy, by show untilAt s % 16 = _; rw [ue]; exact ub.2.2⟩
  · have hy := whyAt_bd s
    exact ⟨h.len, h.tlen, h.plen, h.ws, h.wt, h.wp, h.taken, h.time, h.at_, h.done, hy, h.place⟩
theorem runQ_valid : ∀ (n : Nat) {s : St}, Valid s → Valid (runQ n s)
  | 0, _, h => h
  | n + 1, s, h => by
    unfold runQ
    split
    · exact runQ_valid n (stepQ_valid h)
    · exact h
/-- one order more -/
theorem runQ_snoc : ∀ (n : Nat) (s : St), runQ (n + 1) s = if (runQ n s).why = 0 then stepQ (runQ n s) else runQ n s
  | 0, s => rfl
  | n + 1, s => by
    show (if s.why = 0 then runQ (n + 1) (stepQ s) else s) = _
    by_cases h : s.why = 0
    · have e : runQ (n + 1) s = runQ n (stepQ s) := by simp [runQ, h]
      rw [if_pos h, e]; exact runQ_snoc n (stepQ s)
    · have e : runQ (n + 1) s = s := by simp [runQ, h]
      rw [if_neg h, e, if_neg h]
theorem stepQ_why {s : St} (h : s.why = 0) : (stepQ s).why = whyAt s := by
  unfold stepQ
  split
  · rename_i hw; rw [hw]; show (doQ s (ordAt s)).why = 0; rw [(doQ_same s _).2.2.2.2]; exact h
  · rfl
theorem traceQ_snoc : ∀ (n : Nat) (s : St), traceQ (n + 1) s = if (runQ n s).why = 0 ∧ (stepQ (runQ n s)).why = 0 then traceQ n s ++ [⟨(runQ n s).at_, ordAt (runQ n s), (runQ n s).time, (stepQ (runQ n s)).time⟩] else traceQ n s
  | 0, s => by
    by_cases h : s.why = 0
    · by_cases h2 : whyAt s = 0
      · have : (stepQ s).time = untilAt s := by unfold stepQ; rw [if_pos h2]
        simp [traceQ, runQ, h, h2, stepQ_why h, this]
      · simp [traceQ, runQ, h, h2, stepQ_why h]
    · simp [traceQ, runQ, h]
  | n + 1, s => by
    by_cases h : s.why = 0
    · have er : runQ (n + 1) s = runQ n (stepQ s) := by simp [runQ, h]
      by_cases h2 : whyAt s = 0
      · have e1 : traceQ (n + 1 + 1) s = ⟨s.at_, ordAt s, s.time, untilAt s⟩ :: traceQ (n + 1) (stepQ s) := by rw [traceQ]; simp [h, h2]
        have e2 : traceQ (n + 1) s = ⟨s.at_, ordAt s, s.time, untilAt s⟩ :: traceQ n (stepQ s) := by rw [traceQ]; simp [h, h2]
        rw [e1, e2, er, traceQ_snoc n (stepQ s)]
        split <;> simp
      · have e1 : traceQ (n + 1 + 1) s = [] := by rw [traceQ]; simp [h, h2]
        have e2 : traceQ (n + 1) s = [] := by rw [traceQ]; simp [h, h2]
        have hs : (stepQ s).why ≠ 0 := by rw [stepQ_why h]; exact h2
        have e3 : (runQ n (stepQ s)).why ≠ 0 := by
          cases n with
          | zero => exact hs
          | succ n => simp [runQ, hs]
        rw [e1, e2, er, if_neg (fun c => e3 c.1)]
    · have er : runQ (n + 1) s = s := by simp [runQ, h]
      have e1 : traceQ (n + 1 + 1) s = [] := by rw [traceQ]; simp [h]
      have e2 : traceQ (n + 1) s = [] := by rw [traceQ]; simp [h]
      rw [e1, e2, er, if_neg (fun c => h c.1)]
theorem traceQ_le : ∀ (n : Nat) (s : St), (traceQ n s).length ≤ n
  | 0, _ => Nat.le_refl _
  | n + 1, s => by
    have := traceQ_le n (stepQ s)
    unfold traceQ
    repeat' split
    all_goals simp
    omega
end Go.Q
/- Layer 4 in plain Lean, on: what Run, Trace and Begin return. -/
namespace Go.Q
open Go.RowKit
def zst : St := ⟨[], [], 0, [], 0, 0, 0, 0⟩
def runE (s : St) (most : Int) : St × Int := if askedQ s most = 0 then (runQ most.toNat s, 0) else (zst, askedQ s most)
def traceE (s : St) (most : Int) : List Stp × Int := if askedQ s most = 0 then (traceQ most.toNat s, 0) else ([], askedQ s most)
theorem asked_ok {s : St} {most : Int} (h : askedQ s most = 0) : (checkQ s).2.2 = 0 ∧ inB most 0 5000 = true := by
  by_cases h1 : (checkQ s).2.2 = 0
  · refine ⟨h1, ?_⟩
    cases h2 : inB most 0 5000 with
    | true => rfl
    | false => simp [askedQ, h1, h2] at h
  · simp [askedQ, h1] at h
theorem check_zero {s : St} (h : (checkQ s).2.2 = 0) : checkQ s = (0, 0, 0) := by
  unfold checkQ at *
  repeat' split at h
  all_goals first | (simp at h; done) | skip
  simp_all
  rw [if_neg (by omega), if_neg (by omega), if_neg (by omega)]
/-- cells of the block laid second -/
theorem box_at2 {w w1 : World} {o : Obj} {vs : Array Value} {T : TypeId} (h : Ext ((w.alloc o).alloc (.cells vs T)) w1) (i : Nat) {v : Value} (hv : vs[i]? = some v) : w1.cell? ⟨w.heap.size + 1, i, none⟩ = some v := by
  have := box_at h i hv
  simpa using this
theorem box_free2 {w w1 : World} {o : Obj} {vs : Array Value} {T : TypeId} (h : Ext ((w.alloc o).alloc (.cells vs T)) w1) (i : Nat) : w1.frozen? ⟨w.heap.size + 1, i, none⟩ = false := by
  have := box_free h i
  simpa using this
theorem ext_set8 {w w1 : World} {n : Nat} (h : Ext w w1) (hn : w.heap.size ≤ n) (a b c d e f g k : Value) : Ext w ((((((((w1.setCell ⟨n, 0, none⟩ a).setCell ⟨n, 1, none⟩ b).setCell ⟨n, 2, none⟩ c).setCell ⟨n, 3, none⟩ d).setCell ⟨n, 4, none⟩ e).setCell ⟨n, 5, none⟩ f).setCell ⟨n, 6, none⟩ g).setCell ⟨n, 7, none⟩ k) :=
  (((((((h.setCell (p := ⟨n, 0, none⟩) hn a).setCell (p := ⟨n, 1, none⟩) hn b).setCell (p := ⟨n, 2, none⟩) hn c).setCell (p := ⟨n, 3, none⟩) hn d).setCell (p := ⟨n, 4, none⟩) hn e).setCell (p := ⟨n, 5, none⟩) hn f).setCell (p := ⟨n, 6, none⟩) hn g).setCell (p := ⟨n, 7, none⟩) hn k
end Go.Q

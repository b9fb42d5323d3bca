/- Contracts: slices.Clone, machine.from, machine.to. -/
import Derived.Test.YtjfggepgjpdebaaA9
set_option linter.unusedVariables false
set_option linter.unusedSimpArgs false
namespace Go.Proofs.Ytjfggepgjpdebaa
open Go.RowKit Go.Q

theorem Try.infoE : (Try.prog.info? 3).map (fun i => (i.zero, i.size, i.bytes)) = some (some (.int .i64 0), 1, 8) := by kernel_rfl

/-- numbers as values -/
def iv (xs : List Int) : List Value := xs.map (Value.int .i64)
theorem iv_length (xs : List Int) : (iv xs).length = xs.length := by simp [iv]
theorem iv_get (xs : List Int) (i : Nat) (h : i < xs.length) : (iv xs)[i]? = some (.int .i64 (xs[i]?.getD 0)) := by simp [iv, h]
theorem iv_one (xs : List Int) : ∀ u ∈ iv xs, u.oneCell' = true := by
  intro u hu; simp [iv] at hu; obtain ⟨x, _, rfl⟩ := hu; rfl

theorem ownsRow_fresh (w : World) (t : TypeId) : (w.alloc (.cells #[] t)).ownsRow w.heap.size t 1 (.slice (some ⟨w.heap.size, 0, none⟩) 0 0) 0 [] :=
  ⟨rfl, .inr ⟨w.heap.size, 0, #[], rfl, Nat.le_refl _, by show (w.heap.push _)[w.heap.size]? = _; simp, Nat.le_refl _, by simp [maxLen], rfl, rfl⟩⟩

set_option maxHeartbeats 1000000 in
theorem clone_nil (n cap : Nat) (w : World) : Calls Try.prog 52 #[.slice none n cap] w fun e w' => e = .returned (.slice none 0 0) ∧ w = w' := by
  have hnil := fun (W : World) => Lib.run_eql_slice_nil (P := Try.prog) W 22 3 none n cap 0 0 Try.underlying22
  go_enter Try.func52, Try.ntmps52
  go_wp2
  go_ret
  exact ⟨rfl, rfl⟩

/-- the result is a slice of the call's own that holds xs -/
def OwnRes (n : Nat) (xs : List Int) (w : World) (e : Ending) (w' : World) : Prop :=
  ∃ a c, e = .returned (.slice a n c) ∧ w'.ownsRow w.heap.size 3 1 (.slice a n c) n (iv xs) ∧ Ext w w'
theorem own_form {w : World} {nb t n : Nat} {v : Value} {xs : List Value} (h : w.ownsRow nb t 1 v n xs) : ∃ a c, v = .slice a n c := by
  rcases h.2 with ⟨h1, h2⟩ | ⟨g, cap, cur, h1, _⟩
  · exact ⟨none, 0, by rw [h2]; exact h1⟩
  · exact ⟨_, _, h1⟩
set_option maxHeartbeats 1000000 in
theorem clone_some (ad : Addr) (n cap : Nat) (xs : List Int) (w : World) (hn : xs.length = n) (hbig : n ≤ 17592186044416)
    (hI : ∀ j u, (iv xs)[j]? = some u → w.cell? (ad.add j) = some u) :
    Calls Try.prog 52 #[.slice (some ad) n cap] w (OwnRes n xs w) := by
  obtain ⟨i0, hi, hz0, hz1, hz2⟩ := info_parts Try.infoE
  have hnil := fun (W : World) => Lib.run_eql_slice_nil (P := Try.prog) W 22 3 (some ad) n cap 0 0 Try.underlying22
  go_enter Try.func52, Try.ntmps52
  go_wp2_with (at_builtin; refine wpList_append_own _ rfl _ _ 22 rfl w.heap.size 3 i0 (.int .i64 0) 1 8 Try.underlying22 hi hz0 hz1 hz2 rfl (by decide) _ 0 [] rfl (ownsRow_fresh w 3) ad n cap (iv xs) rfl ?c1 ?c2 (iv_one xs) ?c3 ?c4 ?c5 ?_)
  case c1 => simp [iv_length, hn]
  case c2 => exact fun j u hu => cell_later ((Ext.refl w).alloc _) (hI j u hu)
  case c3 => unfold maxLen; omega
  case c4 => omega
  case c5 => simp
  intro v' w1 hown' hgrow _
  have hx : Ext w w1 := ((Ext.refl w).alloc _).grown hgrow (by simp) (fun k e => by simp [Value.ownBlock] at e; omega)
  obtain ⟨a', c', hv'⟩ : ∃ a' c', v' = .slice a' n c' := by
    obtain ⟨a', c', h⟩ := own_form hown'
    exact ⟨a', c', by simpa using h⟩
  rw [hv'] at hown' ⊢
  clear hI hgrow hv'
  go_wp2
  go_ret
  exact ⟨a', c', rfl, by simpa using hown', hx⟩
theorem clone_any (a : Option Addr) (n cap : Nat) (xs : List Int) (w : World) (hn : xs.length = n) (hbig : n ≤ 17592186044416) (hI : IntsAt w a xs) :
    Calls Try.prog 52 #[.slice a n cap] w (OwnRes n xs w) := by
  cases a with
  | none =>
    have hx : xs = [] := by
      rcases hI with h | ⟨b, off, h, _⟩
      · exact h
      · cases h
    subst hx
    obtain rfl : n = 0 := hn.symm
    exact (clone_nil 0 cap w).mono fun e w' ⟨h1, h2⟩ => ⟨none, 0, h1, by rw [← h2]; exact World.ownsRow_nil w _ _ _, by rw [← h2]; exact Ext.refl w⟩
  | some ad =>
    refine clone_some ad n cap xs w hn hbig fun j u hu => ?_
    have hj : j < xs.length := by
      rcases Nat.lt_or_ge j xs.length with h | h
      · exact h
      · rw [List.getElem?_eq_none (by simpa [iv_length] using h)] at hu; cases hu
    rcases hI with h | ⟨b, off, h, hb, hc⟩
    · subst h; simp at hj
    · obtain rfl := Option.some.inj h
      rw [iv_get xs j hj] at hu
      obtain rfl := Option.some.inj hu
      rw [Addr.add_lit]
      exact hc j hj
end Go.Proofs.Ytjfggepgjpdebaa

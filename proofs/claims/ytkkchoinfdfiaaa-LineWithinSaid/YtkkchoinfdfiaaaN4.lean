/- Layer 1 in plain Lean: narrower spans; temperatures within spans. -/
import Derived.Test.YtkkchoinfdfiaaaN3
set_option linter.unusedVariables false
set_option linter.unusedSimpArgs false
namespace Go.Q
/-- spans within spans, one by one -/
def Within : List Sp → List Sp → Prop
  | [], [] => True
  | s :: ss, t :: ts => (t.lo ≤ s.lo ∧ s.lo ≤ s.hi ∧ s.hi ≤ t.hi) ∧ Within ss ts
  | _, _ => False
theorem mem_within {s t : Sp} (h : t.lo ≤ s.lo ∧ s.lo ≤ s.hi ∧ s.hi ≤ t.hi) {x : Int} (hx : x ∈ tempsS s) : x ∈ tempsS t := by
  rw [mem_tempsS] at hx ⊢
  omega
theorem one_within {l : Ln} {s t : Sp} (h : t.lo ≤ s.lo ∧ s.lo ≤ s.hi ∧ s.hi ≤ t.hi) {b : Int} (hb : oneC l s b = true) : oneC l t b = true := by
  obtain ⟨x, hx, hp⟩ := List.any_eq_true.1 hb
  exact List.any_eq_true.2 ⟨x, mem_within h hx, hp⟩
theorem lost_within {l : Ln} {s t : Sp} (h : t.lo ≤ s.lo ∧ s.lo ≤ s.hi ∧ s.hi ≤ t.hi) (hb : lostC l s = true) : lostC l t = true := by
  obtain ⟨x, hx, hp⟩ := List.any_eq_true.1 hb
  exact List.any_eq_true.2 ⟨x, mem_within h hx, hp⟩
theorem next_within {l : Ln} {s t : Sp} (h : t.lo ≤ s.lo ∧ s.lo ≤ s.hi ∧ s.hi ≤ t.hi) {f g : Int → Bool} (hfg : ∀ x, f x = true → g x = true) {x : Int} (hx : nextC l s f x = true) : nextC l t g x = true := by
  obtain ⟨n, hn, hp⟩ := List.any_eq_true.1 hx
  rw [Bool.and_eq_true] at hp
  obtain ⟨b, hb, hq⟩ := List.any_eq_true.1 hp.2
  rw [Bool.and_eq_true] at hq
  refine List.any_eq_true.2 ⟨n, hn, ?_⟩
  rw [Bool.and_eq_true]
  refine ⟨hfg n hp.1, List.any_eq_true.2 ⟨b, hb, ?_⟩⟩
  rw [Bool.and_eq_true]
  exact ⟨one_within h hq.1, hq.2⟩
theorem can_within_go {l : Ln} : ∀ (ss ts : List Sp), Within ss ts → ∀ f g : Int → Bool, (∀ x, f x = true → g x = true) → ∀ x, ss.foldl (fun can s => nextC l s can) f x = true → ts.foldl (fun can s => nextC l s can) g x = true
  | [], [], _, f, g, h, x, hx => h x hx
  | s :: ss, t :: ts, hw, f, g, h, x, hx => can_within_go ss ts hw.2 _ _ (fun y hy => next_within hw.1 h hy) x hx
  | [], _ :: _, hw, _, _, _, _, _ => hw.elim
  | _ :: _, [], hw, _, _, _, _, _ => hw.elim
theorem can_within {l : Ln} {ss ts : List Sp} (h : Within ss ts) {x : Int} (hx : canC l ss x = true) : canC l ts x = true := can_within_go ss ts h _ _ (fun _ h => h) x hx
theorem shifts_within {l : Ln} {ss ts : List Sp} (h : Within ss ts) {x : Int} (hx : x ∈ shiftsC l ss) : x ∈ shiftsC l ts := by
  unfold shiftsC at *
  rw [List.mem_filter] at hx ⊢
  exact ⟨hx.1, can_within h hx.2⟩
theorem anylost_within {l : Ln} : ∀ {ss ts : List Sp}, Within ss ts → ss.any (lostC l) = true → ts.any (lostC l) = true
  | [], [], _, h => h
  | s :: ss, t :: ts, hw, h => by
    rw [List.any_cons, Bool.or_eq_true] at h ⊢
    rcases h with h | h
    · exact .inl (lost_within hw.1 h)
    · exact .inr (anylost_within hw.2 h)
  | [], _ :: _, hw, _ => hw.elim
  | _ :: _, [], hw, _ => hw.elim
theorem within_len : ∀ {ss ts : List Sp}, Within ss ts → ss.length = ts.length
  | [], [], _ => rfl
  | s :: ss, t :: ts, hw => by rw [List.length_cons, List.length_cons, within_len hw.2]
  | [], _ :: _, hw => hw.elim
  | _ :: _, [], hw => hw.elim
theorem span_ok {s : Sp} (h : spanX s = 0) : (-500 ≤ s.lo ∧ s.lo ≤ 1000) ∧ (-500 ≤ s.hi ∧ s.hi ≤ 1000) ∧ s.lo ≤ s.hi := by
  unfold spanX at h
  split at h
  · omega
  · rename_i h1
    split at h
    · omega
    · have h2 : tempB s.lo = true := by cases e : tempB s.lo with | true => rfl | false => exact absurd (.inl e) h1
      have h3 : tempB s.hi = true := by cases e : tempB s.hi with | true => rfl | false => exact absurd (.inr e) h1
      have := inB_bd h2
      have := inB_bd h3
      omega
theorem span_of {s : Sp} (h : (-500 ≤ s.lo ∧ s.lo ≤ 1000) ∧ (-500 ≤ s.hi ∧ s.hi ≤ 1000) ∧ s.lo ≤ s.hi) : spanX s = 0 := by
  have h2 : tempB s.lo = true := by unfold tempB inB; simp; omega
  have h3 : tempB s.hi = true := by unfold tempB inB; simp; omega
  unfold spanX
  rw [if_neg (by rw [h2, h3]; simp), if_neg (by omega)]
theorem spans_within : ∀ {ss ts : List Sp}, Within ss ts → (∀ t ∈ ts, spanX t = 0) → ∀ s ∈ ss, spanX s = 0
  | [], [], _, _, s, hs => by simp at hs
  | s :: ss, t :: ts, hw, h, x, hx => by
    rcases List.mem_cons.1 hx with rfl | hx
    · have := span_ok (h t List.mem_cons_self)
      have := hw.1
      exact span_of (by omega)
    · exact spans_within hw.2 (fun y hy => h y (List.mem_cons_of_mem _ hy)) x hx
  | [], _ :: _, hw, _, _, _ => hw.elim
  | _ :: _, [], hw, _, _, _ => hw.elim
theorem spansX_of {ss : List Sp} (h : ∀ s ∈ ss, spanX s = 0) : spansX ss = 0 := by
  induction ss with
  | nil => rfl
  | cons s ss ih =>
    unfold spansX
    rw [if_neg (by rw [h s List.mem_cons_self]; simp)]
    exact ih (fun x hx => h x (List.mem_cons_of_mem _ hx))
theorem canX_within {l : Ln} {ss ts : List Sp} (hw : Within ss ts) (h : canX l ts = 0) (hall : ∀ t ∈ ts, spanX t = 0) : canX l ss = 0 := by
  unfold canX at *
  rw [within_len hw]
  split at h
  · omega
  · rename_i h1
    rw [if_neg h1]
    split at h
    · omega
    · rename_i h2
      rw [if_neg h2]
      exact spansX_of (spans_within hw hall)
/-- a span made narrower at both ends, in 512ths -/
def lessS (s : Sp) (a b : Int) : Sp := ⟨s.lo + (s.hi - s.lo) * a / 512, s.hi - (s.hi - s.lo) * b / 512⟩
theorem lessS_in {s : Sp} (h : s.lo ≤ s.hi) {a b : Int} (ha : 0 ≤ a ∧ a ≤ 255) (hb : 0 ≤ b ∧ b ≤ 255) : s.lo ≤ (lessS s a b).lo ∧ (lessS s a b).lo ≤ (lessS s a b).hi ∧ (lessS s a b).hi ≤ s.hi := by
  unfold lessS
  have h1 := mul_bd (a := s.hi - s.lo) (b := a) (B := 255) (by omega) (Int.le_refl _) ha.1 ha.2
  have h2 := mul_bd (a := s.hi - s.lo) (b := b) (B := 255) (by omega) (Int.le_refl _) hb.1 hb.2
  dsimp only
  omega
theorem within_snoc : ∀ {ss ts : List Sp} {s t : Sp}, Within ss ts → (t.lo ≤ s.lo ∧ s.lo ≤ s.hi ∧ s.hi ≤ t.hi) → Within (ss ++ [s]) (ts ++ [t])
  | [], [], _, _, _, h => ⟨h, trivial⟩
  | s :: ss, t :: ts, _, _, hw, h => ⟨hw.1, within_snoc hw.2 h⟩
  | [], _ :: _, _, _, hw, _ => hw.elim
  | _ :: _, [], _, _, hw, _ => hw.elim
end Go.Q

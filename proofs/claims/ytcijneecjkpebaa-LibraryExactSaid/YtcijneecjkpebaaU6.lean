import Derived.Deep.RegionHeld3
import Derived.Deep.LoopGhost
import Derived.Test.YtcijneecjkpebaaU5
import Derived.Test.YtcijneecjkpebaaU3
import Derived.Test.YtcijneecjkpebaaU0
set_option linter.unusedVariables false
set_option linter.unusedSimpArgs false
/- Layer 4 in plain Lean: a run that has ended stays; runs one after the other are one run; what a run leaves. -/
namespace Go.Q
theorem runQ_end {s : St} (h : s.why ≠ 0) : ∀ n, runQ n s = s
  | 0 => rfl
  | n + 1 => by simp [runQ, h]
theorem runQ_add (a : Nat) : ∀ (b : Nat) (s : St), runQ (a + b) s = runQ b (runQ a s)
  | 0, s => rfl
  | b + 1, s => by
    rw [← Nat.add_assoc, runQ_snoc (a + b) s, runQ_snoc b (runQ a s), runQ_add a b s]
theorem stepQ_done (s : St) : (whyAt s = 0 ∧ (stepQ s).done = s.done + 1 ∧ (stepQ s).time = untilAt s) ∨ (whyAt s ≠ 0 ∧ stepQ s = { s with why := whyAt s }) := by
  by_cases h : whyAt s = 0
  · exact .inl ⟨h, by unfold stepQ; rw [if_pos h], by unfold stepQ; rw [if_pos h]⟩
  · exact .inr ⟨h, by unfold stepQ; rw [if_neg h]⟩
theorem runQ_done : ∀ (n : Nat) (s : St), s.done ≤ (runQ n s).done ∧ (runQ n s).done ≤ s.done + n ∧ s.time ≤ (runQ n s).time ∧ ((runQ n s).why = 0 → (runQ n s).done = s.done + n)
  | 0, s => by
    show s.done ≤ s.done ∧ s.done ≤ s.done + ((0 : Nat) : Int) ∧ s.time ≤ s.time ∧ (s.why = 0 → s.done = s.done + ((0 : Nat) : Int))
    omega
  | n + 1, s => by
    obtain ⟨h1, h2, h3, h4⟩ := runQ_done n s
    rw [runQ_snoc]
    by_cases h : (runQ n s).why = 0
    · rw [if_pos h]
      have h4' := h4 h
      rcases stepQ_done (runQ n s) with ⟨hw, hd, ht⟩ | ⟨hw, he⟩
      · rw [hd, ht]
        have hu := (until_bd (ordAt (runQ n s)) (runQ n s).time (negAt (runQ n s))).1
        have hu' : (runQ n s).time + 2 ≤ untilAt (runQ n s) := hu
        refine ⟨by omega, by omega, by omega, fun _ => by omega⟩
      · rw [he]
        exact ⟨h1, by show (runQ n s).done ≤ _; omega, h3, fun c => absurd c hw⟩
    · rw [if_neg h]
      exact ⟨h1, by omega, h3, fun c => absurd c h⟩
theorem traceQ_len : ∀ (n : Nat) (s : St), ((traceQ n s).length : Int) = (runQ n s).done - s.done
  | 0, s => by show ((([] : List Stp).length : Nat) : Int) = s.done - s.done; simp
  | n + 1, s => by
    have ih := traceQ_len n s
    rw [traceQ_snoc, runQ_snoc]
    by_cases h : (runQ n s).why = 0
    · rcases stepQ_done (runQ n s) with ⟨hw, hd, _⟩ | ⟨hw, he⟩
      · have hs : (stepQ (runQ n s)).why = 0 := by rw [stepQ_why h]; exact hw
        rw [if_pos ⟨h, hs⟩, if_pos h, hd]
        simp only [List.length_append, List.length_cons, List.length_nil]
        omega
      · have hs : (stepQ (runQ n s)).why ≠ 0 := by rw [stepQ_why h]; exact hw
        rw [if_neg (fun c => hs c.2), if_pos h, he]
        exact ih
    · rw [if_neg (fun c => h c.1), if_neg h]
      exact ih
theorem idxQ_none {p : Int → Bool} {xs : List Int} (h : ∀ x ∈ xs, p x = false) : ¬ 0 ≤ idxQ p xs := by
  have e := idxQ_nonneg p xs
  have : xs.any p = false := List.any_eq_false.2 (fun x hx => by simp [h x hx])
  rw [this] at e
  exact of_decide_eq_false e
theorem check_of_valid {s : St} (h : Valid s) : checkQ s = (0, 0, 0) := by
  have bw : ∀ {xs : List Int}, (∀ x ∈ xs, 0 ≤ x ∧ x ≤ 16777215) → ¬ 0 ≤ idxQ badW xs := fun hx => idxQ_none (fun x hm => by
    have := hx x hm
    simp only [badW, wordB, inB, Bool.not_eq_false', Bool.and_eq_true, decide_eq_true_eq]
    exact this)
  have hl : lensB s = true := by
    simp only [lensB, Bool.and_eq_true, beq_iff_eq, decide_eq_true_eq]
    exact ⟨⟨h.len, h.tlen⟩, h.plen⟩
  have hf : fieldsB s = true := by
    simp only [fieldsB, addrB, inB, Bool.and_eq_true, decide_eq_true_eq]
    exact ⟨⟨⟨⟨h.taken, h.time⟩, h.at_⟩, h.done⟩, h.why⟩
  unfold checkQ
  rw [if_neg (by simp [hl]), if_neg (bw h.ws), if_neg (bw h.wt), if_neg (bw h.wp), if_neg (by simp [hf]), if_neg (by simpa using h.place)]
theorem asked_of_valid {s : St} (h : Valid s) {most : Int} (hm : 0 ≤ most ∧ most ≤ 5000) : askedQ s most = 0 := by
  have hi : inB most 0 5000 = true := by simp only [inB, Bool.and_eq_true, decide_eq_true_eq]; exact hm
  unfold askedQ
  rw [check_of_valid h, if_neg (by simp), if_pos hi]
end Go.Q
/- Layer 8 (library) in plain Lean: an order that is done, by its effect on the store. -/
namespace Go.Q
/-- an order as it is written -/
theorem decode_written {o : Ord} (h : ordB o = true) : decodeQ (written o) = o := by
  simp only [ordB, addrB, inB, Bool.and_eq_true, decide_eq_true_eq] at h
  obtain ⟨a, b, c, d⟩ := o
  unfold decodeQ written
  dsimp only at *
  congr 1 <;> omega
/-- the state between two orders, as far as a program sees it -/
structure Mc where
  st : Int → Int
  at_ : Int
def upd (f : Int → Int) (a v : Int) : Int → Int := fun x => if x = a then v else f x
theorem upd_at (f : Int → Int) (a v : Int) : upd f a v a = v := by unfold upd; rw [if_pos rfl]
theorem upd_ne (f : Int → Int) {a x : Int} (v : Int) (h : x ≠ a) : upd f a v x = f x := by unfold upd; rw [if_neg h]
/-- a state that is like this, has not ended, and has time left -/
structure Rn (s : St) (m : Mc) (n : Nat) : Prop where
  valid : Valid s
  why : s.why = 0
  at_ : s.at_ = m.at_
  st : ∀ a, 0 ≤ a → a ≤ 127 → wordAt s a = m.st a
  time : s.time ≤ 16 + 76 * n
theorem word_set {s : St} (h : Valid s) {t a v : Int} (ht : 0 ≤ t ∧ t ≤ 127) (ha : 0 ≤ a) : (s.store.set t.toNat v)[a.toNat]?.getD 0 = if a = t then v else wordAt s a := by
  unfold wordAt
  by_cases e : a = t
  · subst e
    rw [if_pos rfl, List.getElem?_set_self (by have := h.len; omega)]
    rfl
  · rw [if_neg e, List.getElem?_set_ne (by omega)]
/-- what an order with these numbers does -/
def effQ (m : Mc) (o : Ord) : Mc :=
  ⟨if o.op = 1 then upd m.st o.to (m.st o.frm) else if o.op = 2 then upd m.st o.to ((m.st o.to + m.st o.frm) % 16777216) else if o.op = 3 then upd m.st o.to ((m.st o.to - m.st o.frm) % 16777216) else if o.op = 4 then upd m.st o.to (prod (m.st o.frm) (m.st o.to)) else m.st,
    if o.op = 5 ∧ sgn (m.st o.frm) < 0 then o.to else o.nxt⟩
theorem step_rn {s : St} {m : Mc} {n : Nat} {o : Ord} (h : Rn s m n) (hw : m.st m.at_ = written o) (ho : ordB o = true) (h1 : 1 ≤ o.op ∧ o.op ≤ 5) (hn : n ≤ 10000) : Rn (stepQ s) (effQ m o) (n + 1) ∧ (stepQ s).printed = s.printed ∧ (stepQ s).tape = s.tape ∧ (stepQ s).taken = s.taken ∧ (stepQ s).done = s.done + 1 := by
  have hat := h.valid.at_
  have ha := h.at_
  have hwd : wordAt s s.at_ = written o := by rw [h.st s.at_ hat.1 hat.2, ha]; exact hw
  have hord : ordAt s = o := by unfold ordAt; rw [hwd, decode_written ho]
  have hb := ho
  simp only [ordB, addrB, inB, Bool.and_eq_true, decide_eq_true_eq] at hb
  have hu := until_bd o s.time (negAt s)
  have hut : untilAt s = whenUntil o s.time (negAt s) := by unfold untilAt; rw [hord]
  have htm := h.time
  have hy : whyAt s = 0 := by
    unfold whyAt
    rw [hord, hut]
    rw [if_neg (by omega), if_neg (by omega), if_neg (by omega), if_neg (by omega)]
  have hneg : negAt s = decide (sgn (m.st o.frm) < 0) := by
    unfold negAt
    rw [hord, h.st o.frm (by omega) (by omega)]
  have hstep : stepQ s = { doQ s o with at_ := whenAt o (negAt s), time := untilAt s, done := s.done + 1 } := by
    unfold stepQ
    rw [if_pos hy, hord]
  obtain ⟨q1, q2, q3, q4, q5⟩ := doQ_same s o
  have hv := stepQ_valid h.valid
  have wf := h.st o.frm (by omega) (by omega)
  have wt := h.st o.to (by omega) (by omega)
  have hpr : (doQ s o).printed = s.printed ∧ (doQ s o).taken = s.taken := by
    unfold doQ
    dsimp only
    rw [if_neg (show ¬ o.op = 6 by omega), if_neg (show ¬ o.op = 7 by omega)]
    repeat' split
    all_goals exact ⟨rfl, rfl⟩
  refine ⟨⟨hv, ?_, ?_, fun a h0 h1' => ?_, ?_⟩, ?_, ?_, ?_, ?_⟩
  · rw [hstep]; show (doQ s o).why = 0; rw [q5]; exact h.why
  · rw [hstep]
    show whenAt o (negAt s) = _
    unfold whenAt effQ
    rw [hneg]
    simp only [decide_eq_true_eq]
  · rw [hstep]
    show (doQ s o).store[a.toNat]?.getD 0 = _
    unfold doQ effQ
    dsimp only
    rw [wf, wt, if_neg (show ¬ o.op = 6 by omega), if_neg (show ¬ o.op = 7 by omega)]
    have hs := h.st a h0 h1'
    repeat' split
    all_goals first
      | (show (s.store.set o.to.toNat _)[a.toNat]?.getD 0 = _
         rw [word_set h.valid (by omega) h0]
         unfold upd
         split
         · rfl
         · exact hs)
      | exact hs
  · rw [hstep]
    show untilAt s ≤ _
    rw [hut]
    omega
  · rw [hstep]; exact hpr.1
  · rw [hstep]; exact q1
  · rw [hstep]; exact hpr.2
  · rw [hstep]
end Go.Q
/- Layer 8 (library) in plain Lean: Patch with what Diff returns makes the one catalogue of the other. -/
namespace Go.Q
/-- k of b, the others of a -/
def mixL (a b : List Int) (k : Nat) : List Int := b.take k ++ a.drop k
section
variable {a b : List Int} {k : Nat}
theorem mixL_len (h : a.length = b.length) : (mixL a b k).length = a.length := by
  unfold mixL
  rw [List.length_append, List.length_take, List.length_drop]
  omega
theorem mixL_get (h : a.length = b.length) (hk : k < a.length) : (mixL a b k)[k]?.getD 0 = a[k]?.getD 0 := by
  unfold mixL
  rw [List.getElem?_append_right (by rw [List.length_take]; omega), List.length_take, Nat.min_eq_left (by omega), Nat.sub_self, List.getElem?_drop, Nat.add_zero]
theorem mixL_set (h : a.length = b.length) (hk : k < a.length) : (mixL a b k).set k (b[k]?.getD 0) = mixL a b (k + 1) := by
  unfold mixL
  have hl : (b.take k).length = k := by rw [List.length_take]; omega
  have hb : k < b.length := by omega
  rw [List.set_append_right _ _ (by omega), hl, Nat.sub_self, List.drop_eq_getElem_cons hk, List.set_cons_zero, List.take_succ_eq_append_getElem hb, List.append_assoc, List.getElem?_eq_getElem hb]
  rfl
theorem mixL_same (h : a.length = b.length) (hk : k < a.length) (e : a[k]?.getD 0 = b[k]?.getD 0) : mixL a b (k + 1) = mixL a b k := by
  have hb : k < b.length := by omega
  rw [List.getElem?_eq_getElem hk, List.getElem?_eq_getElem hb] at e
  unfold mixL
  rw [List.drop_eq_getElem_cons hk, List.take_succ_eq_append_getElem hb, List.append_assoc]
  have e2 : a[k] = b[k] := e
  rw [e2]
  rfl
theorem mixL_zero : mixL a b 0 = a := by unfold mixL; simp
theorem mixL_all (h : a.length = b.length) : mixL a b a.length = b := by unfold mixL; rw [List.drop_length, h, List.take_length]; simp
end
def mixE (n : ByteArray) (a b : Rt) (k : Nat) (v : Int) : En := ⟨n, v, { a with words := mixL a.words b.words k, masks := mixL a.masks b.masks k }⟩
theorem find_mid {pre post : List En} {x : En} (h : ∀ y ∈ pre, y.name ≠ x.name) : findN (pre ++ x :: post) x.name = some pre.length := by
  unfold findN
  rw [List.findIdx?_append, List.findIdx?_eq_none_iff.2 (fun y hy => by simpa using h y hy), List.findIdx?_cons, decide_eq_true rfl]
  simp
theorem get_mid {pre post : List En} {x : En} : (pre ++ x :: post)[pre.length]? = some x := by
  rw [List.getElem?_append_right (Nat.le_refl _), Nat.sub_self]; rfl
theorem set_mid {pre post : List En} {x y : En} : (pre ++ x :: post).set pre.length y = pre ++ y :: post := by
  rw [List.set_append_right _ _ (Nat.le_refl _), Nat.sub_self]; rfl
theorem fit_mid {pre post : List En} {x : En} {p : Pt} (h : ∀ y ∈ pre, y.name ≠ x.name) (hn : p.name = x.name) : fitE (pre ++ x :: post) p =
    (if inB p.at_ 0 ((x.code.words.length : Int) - 1) = false then 4
      else if x.ver ≠ p.ver then 181
      else if x.code.w p.at_.toNat ≠ p.old ∨ x.code.m p.at_.toNat ≠ p.oldM then 180
      else if wordB p.new = false ∨ maskB p.newM = false ∨ x.ver = 1000 then 7
      else 0) := by
  unfold fitE
  rw [hn, find_mid h]
  dsimp only
  rw [get_mid]
theorem put_mid {pre post : List En} {x : En} {p : Pt} (h : ∀ y ∈ pre, y.name ≠ x.name) (hn : p.name = x.name) : putE (pre ++ x :: post) p = pre ++ x.patch p :: post := by
  unfold putE
  rw [hn, find_mid h]
  dsimp only
  rw [get_mid]
  dsimp only
  rw [set_mid]
theorem patchN_cons (i : Nat) (cat : List En) (p : Pt) (r : List Pt) : patchN i cat (p :: r) = if fitE cat p = 0 then patchN (i + 1) (putE cat p) r else ([], (i : Int), fitE cat p) := rfl
theorem difK_ver (n : ByteArray) (a b : Rt) : ∀ (f k : Nat) (v : Int), v ≤ (difK n a b f k v).2
  | 0, _, _ => Int.le_refl _
  | f + 1, k, v => by
    unfold difK
    split
    · exact difK_ver n a b f (k + 1) v
    · have := difK_ver n a b f (k + 1) (v + 1)
      dsimp only
      omega
theorem getD_all {l : List Int} {p : Int → Bool} (h : l.all p = true) {k : Nat} (hk : k < l.length) : p (l[k]?.getD 0) = true := by
  rw [List.getElem?_eq_getElem hk]
  exact List.all_eq_true.1 h _ (List.getElem_mem hk)
/-- the patches of one entry, done one after the other -/
theorem dif_done (n : ByteArray) (a b : Rt) (hw : a.words.length = b.words.length) (hma : a.masks.length = a.words.length) (hmb : b.masks.length = b.words.length) (hbw : b.words.all wordB = true) (hbm : b.masks.all maskB = true)
    (pre post : List En) (hpre : ∀ y ∈ pre, y.name ≠ n) (rest : List Pt) : ∀ (f k : Nat) (v : Int) (i : Nat), k + f = a.words.length → (difK n a b f k v).2 ≤ 1000 →
      patchN i (pre ++ mixE n a b k v :: post) ((difK n a b f k v).1 ++ rest) = patchN (i + (difK n a b f k v).1.length) (pre ++ mixE n a b (k + f) (difK n a b f k v).2 :: post) rest
  | 0, k, v, i, _, _ => rfl
  | f + 1, k, v, i, hk, hv => by
    have hk1 : k < a.words.length := by omega
    unfold difK at hv ⊢
    by_cases hc : a.w k = b.w k ∧ a.m k = b.m k
    · rw [if_pos hc] at hv ⊢
      have ih := dif_done n a b hw hma hmb hbw hbm pre post hpre rest f (k + 1) v i (by omega) hv
      have e : mixE n a b (k + 1) v = mixE n a b k v := by
        unfold mixE
        rw [mixL_same hw hk1 hc.1, mixL_same (by omega) (by omega) hc.2]
      rw [e] at ih
      rw [ih, show k + 1 + f = k + (f + 1) by omega]
    · rw [if_neg hc] at hv ⊢
      dsimp only at hv ⊢
      have hle := difK_ver n a b f (k + 1) (v + 1)
      have hv1 : v < 1000 := by omega
      have ih := dif_done n a b hw hma hmb hbw hbm pre post hpre rest f (k + 1) (v + 1) (i + 1) (by omega) hv
      obtain ⟨p, hp⟩ : ∃ p : Pt, p = ⟨n, v, (k : Int), a.w k, b.w k, a.m k, b.m k⟩ := ⟨_, rfl⟩
      rw [← hp]
      have hpn : p.name = (mixE n a b k v).name := by rw [hp]; rfl
      have hx : ∀ y ∈ pre, y.name ≠ (mixE n a b k v).name := hpre
      have hat : p.at_.toNat = k := by rw [hp]; rfl
      have hlw : (mixE n a b k v).code.words.length = a.words.length := mixL_len hw
      have hfit : fitE (pre ++ mixE n a b k v :: post) p = 0 := by
        rw [fit_mid hx hpn, hlw, hat]
        rw [if_neg (by
          have : inB p.at_ 0 ((a.words.length : Int) - 1) = true := by rw [hp]; unfold inB; simp; omega
          rw [this]; simp)]
        rw [if_neg (by rw [hp]; simp [mixE])]
        rw [if_neg (by
          have e1 : (mixE n a b k v).code.w k = a.w k := mixL_get hw hk1
          have e2 : (mixE n a b k v).code.m k = a.m k := mixL_get (by omega) (by omega)
          rw [e1, e2, hp]
          simp)]
        rw [if_neg (by
          have e1 : wordB (b.w k) = true := getD_all hbw (by omega)
          have e2 : maskB (b.m k) = true := getD_all hbm (by omega)
          have e3 : (mixE n a b k v).ver = v := rfl
          rw [hp, e3]
          dsimp only
          rw [e1, e2]
          simp
          omega)]
      have hput : putE (pre ++ mixE n a b k v :: post) p = pre ++ mixE n a b (k + 1) (v + 1) :: post := by
        rw [put_mid hx hpn]
        congr 2
        unfold En.patch mixE
        rw [hat]
        have e1 : (mixL a.words b.words k).set k p.new = mixL a.words b.words (k + 1) := by rw [hp]; exact mixL_set hw hk1
        have e2 : (mixL a.masks b.masks k).set k p.newM = mixL a.masks b.masks (k + 1) := by rw [hp]; exact mixL_set (by omega) (by omega)
        dsimp only
        rw [e1, e2]
      rw [List.cons_append, patchN_cons, if_pos hfit, hput, ih, List.length_cons, show k + 1 + f = k + (f + 1) by omega, show i + 1 + (difK n a b f (k + 1) (v + 1)).1.length = i + ((difK n a b f (k + 1) (v + 1)).1.length + 1) by omega]
theorem check_parts {c : Rt} (h : checkR c = 0) : c.masks.length = c.words.length ∧ c.words.all wordB = true ∧ c.masks.all maskB = true := by
  unfold checkR at h
  split at h
  · omega
  rename_i h1
  split at h
  · omega
  rename_i h2
  refine ⟨?_, ?_, ?_⟩
  · apply Decidable.byContradiction
    intro e
    exact h1 (.inr (.inl e))
  · cases e : c.words.all wordB with
    | true => rfl
    | false => exact absurd (.inl e) h2
  · cases e : c.masks.all maskB with
    | true => rfl
    | false => exact absurd (.inr e) h2
theorem alike_parts {a b : En} (h : alikeB a b = true) : a.name = b.name ∧ a.code.words.length = b.code.words.length ∧ a.code.entry = b.code.entry ∧ a.code.exit = b.code.exit ∧ a.code.result = b.code.result ∧ a.code.args = b.code.args := by
  unfold alikeB at h
  simp only [Bool.and_eq_true, beq_iff_eq, decide_eq_true_eq] at h
  exact ⟨h.1.1.1.1.1, h.1.1.1.1.2, h.1.1.1.2, h.1.1.2, h.1.2, h.2⟩
theorem difs_done : ∀ (old new pre : List En) (i : Nat), alikeL old new = true → difV old new = true → (∀ x ∈ old, Good x) → (∀ x ∈ new, Good x) → (old.Pairwise fun a b => a.name ≠ b.name) → (∀ x ∈ old, ∀ y ∈ pre, y.name ≠ x.name) →
    patchN i (pre ++ old) (difL old new) = (pre ++ new, 0, 0)
  | [], [], pre, i, _, _, _, _, _, _ => rfl
  | [], b :: s, _, _, h, _, _, _, _, _ => by cases h
  | a :: r, [], _, _, h, _, _, _, _, _ => by cases h
  | a :: r, b :: s, pre, i, h, hv, ho, hn, hd, hp => by
    unfold alikeL at h
    unfold difV at hv
    rw [Bool.and_eq_true] at h hv
    obtain ⟨hn1, hw, h3, h4, h5, h6⟩ := alike_parts h.1
    have hva : (difE a b).2 = b.ver := by simpa using hv.1
    have ga := ho a (List.mem_cons_self ..)
    have gb := hn b (List.mem_cons_self ..)
    obtain ⟨ma, -, -⟩ := check_parts ga.code
    obtain ⟨mb, wb, bb⟩ := check_parts gb.code
    rw [List.pairwise_cons] at hd
    have hstart : mixE a.name a.code b.code 0 a.ver = a := by
      unfold mixE
      rw [mixL_zero, mixL_zero]
    have hend : mixE a.name a.code b.code (0 + a.code.words.length) b.ver = b := by
      unfold mixE
      rw [Nat.zero_add, mixL_all hw, show a.code.words.length = a.code.masks.length from ma.symm, mixL_all (by omega)]
      obtain ⟨bn, bv, bc⟩ := b
      obtain ⟨bw, bm, be, bx, br, bar⟩ := bc
      dsimp only at hn1 h3 h4 h5 h6 ⊢
      rw [hn1, h3, h4, h5, h6]
    have hd1 := dif_done a.name a.code b.code hw ma mb wb bb pre r (fun y hy => hp a (List.mem_cons_self ..) y hy) (difL r s) a.code.words.length 0 a.ver i (by omega) (by
      have := hva; unfold difE at this; rw [this]; exact gb.ver.2)
    rw [hstart] at hd1
    have e2 : (difK a.name a.code b.code a.code.words.length 0 a.ver).2 = b.ver := hva
    rw [e2, hend] at hd1
    show patchN i (pre ++ a :: r) ((difE a b).1 ++ difL r s) = _
    unfold difE
    rw [hd1]
    have ih := difs_done r s (pre ++ [b]) (i + (difK a.name a.code b.code a.code.words.length 0 a.ver).1.length) h.2 hv.2 (fun x hx => ho x (List.mem_cons_of_mem _ hx)) (fun x hx => hn x (List.mem_cons_of_mem _ hx)) hd.2 (fun x hx y hy => by
      rw [List.mem_append, List.mem_singleton] at hy
      rcases hy with hy | rfl
      · exact hp x (List.mem_cons_of_mem _ hx) y hy
      · rw [← hn1]; exact hd.1 x hx)
    rw [List.append_assoc, List.append_assoc] at ih
    exact ih
/-- Patch with what Diff returns -/
theorem diff_patch {old new : List En} {l : List Pt} (h : diffE old new = (l, 0)) : patchE old l = (new, 0, 0) := by
  unfold diffE at h
  split at h
  · rename_i h1; exact absurd (Prod.mk.inj h).2 h1
  split at h
  · rename_i _ h1; exact absurd (Prod.mk.inj h).2 h1
  split at h
  · exact absurd (Prod.mk.inj h).2 (by decide)
  split at h
  · exact absurd (Prod.mk.inj h).2 (by decide)
  split at h
  · exact absurd (Prod.mk.inj h).2 (by decide)
  rename_i h1 h2 h3 h4 h5
  obtain rfl : difL old new = l := (Prod.mk.inj h).1
  have s1 : soundE old = 0 := Decidable.byContradiction h1
  have s2 : soundE new = 0 := Decidable.byContradiction h2
  have parts : ∀ {c : List En}, soundE c = 0 → (∀ x ∈ c, Good x) ∧ (c.Pairwise fun a b => a.name ≠ b.name) := fun {c} hs => by
    unfold soundE at hs
    split at hs
    · omega
    · have := sound_good hs
      exact ⟨this.1, this.2.1⟩
  obtain ⟨g1, g2⟩ := parts s1
  obtain ⟨g3, -⟩ := parts s2
  unfold patchE
  rw [if_neg h1, if_neg h4]
  exact difs_done old new [] 0 (by simpa using h3) (by simpa using h5) g1 g3 g2 (fun _ _ y hy => by cases hy)
theorem difK_real (n : ByteArray) (a b : Rt) : ∀ (f k : Nat) (v : Int), ∀ p ∈ (difK n a b f k v).1, ¬ (p.old = p.new ∧ p.oldM = p.newM)
  | 0, _, _, p, hp => by cases hp
  | f + 1, k, v, p, hp => by
    unfold difK at hp
    split at hp
    · exact difK_real n a b f (k + 1) v p hp
    · rename_i hc
      rw [List.mem_cons] at hp
      rcases hp with rfl | hp
      · exact hc
      · exact difK_real n a b f (k + 1) (v + 1) p hp
theorem difL_real : ∀ (old new : List En), ∀ p ∈ difL old new, ¬ (p.old = p.new ∧ p.oldM = p.newM)
  | [], [], p, hp => by cases hp
  | [], _ :: _, p, hp => by cases hp
  | _ :: _, [], p, hp => by cases hp
  | a :: r, b :: s, p, hp => by
    unfold difL at hp
    rw [List.mem_append] at hp
    rcases hp with hp | hp
    · exact difK_real _ _ _ _ _ _ p hp
    · exact difL_real r s p hp
end Go.Q
/- Layer 8: where a routine is placed (the program's side). -/
namespace Go.Q
/-- an address to which a base is added, if a bit is in a mask -/
def movedQ (n m b base : Int) : Int := if m / b % 2 = 1 then (n + base) % 128 else n
/-- a word placed at a base -/
def placeW (base w m : Int) : Int := written ⟨(decodeQ w).op, movedQ (decodeQ w).frm m 1 base, movedQ (decodeQ w).to m 2 base, movedQ (decodeQ w).nxt m 4 base⟩
def placeN (base : Int) (ws ms : List Int) (n : Nat) : List Int := (List.range n).map fun i => placeW base (ws[i]?.getD 0) (ms[i]?.getD 0)
theorem placeN_succ (base : Int) (ws ms : List Int) (n : Nat) : placeN base ws ms (n + 1) = placeN base ws ms n ++ [placeW base (ws[n]?.getD 0) (ms[n]?.getD 0)] := by
  unfold placeN
  rw [List.range_succ, List.map_append]
  rfl
theorem placeN_length (base : Int) (ws ms : List Int) (n : Nat) : (placeN base ws ms n).length = n := by simp [placeN]
/-- the words of a routine at a base -/
def placeL (c : Rt) (base : Int) : List Int := placeN base c.words c.masks c.words.length
/-- what Place returns -/
def placeE (c : Rt) (base : Int) : List Int × Int :=
  if checkR c ≠ 0 then ([], checkR c) else if inB base 0 127 = false then ([], 7) else if 128 < base + c.words.length then ([], 3) else (placeL c base, 0)
theorem mask_cases {m : Int} (h : maskB m = true) : m = 0 ∨ m = 1 ∨ m = 2 ∨ m = 3 ∨ m = 4 ∨ m = 5 ∨ m = 6 ∨ m = 7 := by
  have := inB_bd (show inB m 0 7 = true from h)
  omega
theorem mask_bit {m b : Int} (h : maskB m = true) (hb : b = 1 ∨ b = 2 ∨ b = 4) : (bits .and .i64 m b == 0) = !decide (m / b % 2 = 1) := by
  rcases mask_cases h with rfl | rfl | rfl | rfl | rfl | rfl | rfl | rfl <;> rcases hb with rfl | rfl | rfl <;> decide
theorem moved_bd {n m b base : Int} (h : addrB n = true) : addrB (movedQ n m b base) = true := by
  unfold movedQ
  split
  · unfold addrB inB
    rw [decide_eq_true (by omega), decide_eq_true (by omega)]; rfl
  · exact h
theorem decode_ord {n : Int} (h : wordB n = true) : ordB (decodeQ n) = true := by
  have := wordB_bd h
  unfold ordB addrB inB decodeQ
  dsimp only
  rw [decide_eq_true (by omega), decide_eq_true (by omega), decide_eq_true (by omega), decide_eq_true (by omega), decide_eq_true (by omega), decide_eq_true (by omega), decide_eq_true (by omega), decide_eq_true (by omega)]
  rfl
theorem ord_parts {o : Ord} (h : ordB o = true) : inB o.op 0 7 = true ∧ addrB o.frm = true ∧ addrB o.to = true ∧ addrB o.nxt = true := by
  unfold ordB at h
  simp only [Bool.and_eq_true] at h
  exact ⟨h.1.1.1, h.1.1.2, h.1.2, h.2⟩
theorem placed_ord {n m base : Int} (h : wordB n = true) : ordB ⟨(decodeQ n).op, movedQ (decodeQ n).frm m 1 base, movedQ (decodeQ n).to m 2 base, movedQ (decodeQ n).nxt m 4 base⟩ = true := by
  obtain ⟨h1, h2, h3, h4⟩ := ord_parts (decode_ord h)
  unfold ordB
  dsimp only
  rw [h1, moved_bd h2, moved_bd h3, moved_bd h4]
  rfl
end Go.Q
namespace Go.Proofs.Ytcijneecjkpebaa
open Go.RowKit Go.Q
theorem lb_dec {n : Int} (h : wordB n = true) (w : World) :
    Calls Try.prog 108 #[.int .i64 n] w fun e w' => e = .returned (.tuple #[.agg #[.int .i64 (decodeQ n).op, .int .i64 (decodeQ n).frm, .int .i64 (decodeQ n).to, .int .i64 (decodeQ n).nxt], .int .i64 0]) ∧ Ext w w' := by
  have hd := decodeE_any n w
  have hdq : decQ n = (decodeQ n, 0) := by unfold decQ; rw [if_pos h]
  rw [hdq] at hd
  unfold ovE at hd
  exact hd
theorem lb_enc {a b c d : Int} (h : ordB ⟨a, b, c, d⟩ = true) (w : World) :
    Calls Try.prog 109 #[.agg #[.int .i64 a, .int .i64 b, .int .i64 c, .int .i64 d]] w fun e w' => e = .returned (.tuple #[.int .i64 (Q.written ⟨a, b, c, d⟩), .int .i64 0]) ∧ Ext w w' := by
  have hd := encode_any a b c d w
  have hdq : encodeQ ⟨a, b, c, d⟩ = (Q.written ⟨a, b, c, d⟩, 0) := by unfold encodeQ; rw [if_pos h]
  rw [hdq] at hd
  exact hd
set_option maxHeartbeats 400000 in
theorem lb_address (base n m b : Int) (w : World) (hm : maskB m = true) (hb : b = 1 ∨ b = 2 ∨ b = 4) (hn : addrB n = true) (hbs : 0 ≤ base ∧ base ≤ 127) :
    Calls Try.prog 107 #[.agg #[.int .i64 base], .int .i64 n, .int .i64 m, .int .i64 b] w fun e w' => e = .returned (.int .i64 (movedQ n m b base)) ∧ Ext w w' := by
  have hk := mask_bit hm hb
  obtain ⟨n0, n1⟩ := inB_bd (show inB n 0 127 = true from hn)
  obtain ⟨b0, b1⟩ := hbs
  unfold movedQ
  by_cases h : m / b % 2 = 1
  · rw [decide_eq_true h, Bool.not_true] at hk
    rw [if_pos h]
    clear h hb hm hn
    go_enter Try.func107, Try.ntmps107
    go_wp2
    go_ret
    exact ⟨rfl, (by repeat (first | with_reducible exact Ext.refl _ |  (with_reducible refine Ext.alloc ?_ _) | (with_reducible refine Below.drew ?_) | (with_reducible refine below_drewN ?_ _) | (with_reducible refine ext_put ?_ _ ?_; rotate_left; (first | with_reducible exact Nat.le_refl _ | with_reducible exact Nat.le_succ _ | omega | (dsimp only; omega)))))⟩
  · rw [decide_eq_false h, Bool.not_false] at hk
    rw [if_neg h]
    clear h hb hm hn
    go_enter Try.func107, Try.ntmps107
    go_wp2
    go_ret
    exact ⟨rfl, (by repeat (first | with_reducible exact Ext.refl _ |  (with_reducible refine Ext.alloc ?_ _) | (with_reducible refine Below.drew ?_) | (with_reducible refine below_drewN ?_ _) | (with_reducible refine ext_put ?_ _ ?_; rotate_left; (first | with_reducible exact Nat.le_refl _ | with_reducible exact Nat.le_succ _ | omega | (dsimp only; omega)))))⟩
set_option maxRecDepth 100000 in
set_option maxHeartbeats 4000000 in
theorem lb_place (c : Rt) (l : Lo) (base : Int) (w : World) (h : RtAt w c l) (hck : checkR c = 0) (hbs : 0 ≤ base ∧ base ≤ 127) :
    Calls Try.prog 60 #[.agg #[.slice l.a1 c.words.length l.c1, .slice l.a2 c.masks.length l.c2, .int .i64 c.entry, .int .i64 c.exit, .int .i64 c.result, .slice l.a3 c.args.length l.c3], .int .i64 base] w (OwnRes c.words.length (placeL c base) w) := by
  have hwl : 1 ≤ c.words.length ∧ c.words.length ≤ 40 := by
    unfold checkR at hck
    split at hck
    · omega
    · rename_i hx
      have : inB c.words.length 1 40 = true := by cases hh : inB c.words.length 1 40 with
        | true => rfl
        | false => exact absurd (.inl hh) hx
      have := inB_bd this
      omega
  obtain ⟨hml, hwa, hma⟩ := check_parts hck
  have HPL := Lib.hid (show placeL c base = placeN base c.words c.masks c.words.length from rfl)
  obtain ⟨ws, ms, en, ex, re, ar⟩ := c
  obtain ⟨a1, c1, a2, c2, a3, c3⟩ := l
  obtain ⟨i1, i2, i3⟩ := h
  dsimp only at *
  obtain ⟨bw, ow, rfl, hbw, hcw⟩ : ∃ b off, a1 = some ⟨b, off, none⟩ ∧ b < w.heap.size ∧ ∀ i, i < ws.length → w.cell? ⟨b, off + i, none⟩ = some (.int .i64 (ws[i]?.getD 0)) := by
    rcases i1 with h | h
    · rw [h] at hwl; simp at hwl
    · exact h
  obtain ⟨bm, om, rfl, hbm, hcm⟩ : ∃ b off, a2 = some ⟨b, off, none⟩ ∧ b < w.heap.size ∧ ∀ i, i < ms.length → w.cell? ⟨b, off + i, none⟩ = some (.int .i64 (ms[i]?.getD 0)) := by
    rcases i2 with h | h
    · rw [h] at hml; simp at hml; omega
    · exact h
  obtain ⟨R, hR⟩ : ∃ R, placeL ⟨ws, ms, en, ex, re, ar⟩ base = R := ⟨_, rfl⟩
  rw [hR] at HPL ⊢
  obtain ⟨n, hn⟩ : ∃ n, ws.length = n := ⟨_, rfl⟩
  rw [hn] at hcw hwl hml HPL ⊢
  rw [hml] at hcm ⊢
  have HCW := Lib.hid hcw
  have HCM := Lib.hid hcm
  have HWA := Lib.hid (show ∀ i, i < n → wordB (ws[i]?.getD 0) = true from fun i hi => getD_all hwa (by omega))
  have HMA := Lib.hid (show ∀ i, i < n → maskB (ms[i]?.getD 0) = true from fun i hi => getD_all hma (by omega))
  have hse := placeN_succ base ws ms
  have hsl := placeN_length base ws ms
  have HZ := Lib.hid (show placeN base ws ms 0 = [] from rfl)
  obtain ⟨pl, hpl⟩ : ∃ pl, placeN base ws ms = pl := ⟨_, rfl⟩
  rw [hpl] at HPL hse hsl HZ
  have HSE := Lib.hid hse
  have HSL := Lib.hid hsl
  have HBS := Lib.hid hbs
  obtain ⟨w0, w40⟩ := hwl
  clear hcw hcm hck hwa hma hR hn hml i1 i2 i3 hse hsl hpl hbs
  obtain ⟨i0, hi0, hz0, hz1, hz2⟩ := info_parts Try.infoE
  go_enter Try.func60, Try.ntmps60
  go_upto_region 2 with fail
  obtain ⟨X, hX⟩ : ∃ X, w.alloc (.cells #[.slice (some ⟨bw, ow, none⟩) n c1, .slice (some ⟨bm, om, none⟩) n c2, .int .i64 en, .int .i64 ex, .int .i64 re, .slice a3 ar.length c3] 24) = X := ⟨_, rfl⟩
  have E0 : Ext w X := by rw [← hX]; exact (Ext.refl w).alloc _
  have B0 : Blk X w.heap.size #[.slice (some ⟨bw, ow, none⟩) n c1, .slice (some ⟨bm, om, none⟩) n c2, .int .i64 en, .int .i64 ex, .int .i64 re, .slice a3 ar.length c3] 24 := by rw [← hX]; exact Blk.nw w _ _
  rw [hX]
  clear hX
  have p0 := Blk.c B0 0 (v := .slice (some ⟨bw, ow, none⟩) n c1) rfl
  have p1 := Blk.c B0 1 (v := .slice (some ⟨bm, om, none⟩) n c2) rfl
  have p2 := Blk.c B0 2 (v := .int .i64 en) rfl
  have p3 := Blk.c B0 3 (v := .int .i64 ex) rfl
  have p4 := Blk.c B0 4 (v := .int .i64 re) rfl
  go_wp2
  clear p0 p1 p2 p3 p4
  go_loopw [4, 17] (fun s4 s17 wr => ∃ j : Nat, j ≤ n ∧ s17 = .int .i64 (j : Int) ∧ Aside (Ext X wr) ∧ Aside (wr.ownsRow X.heap.size 3 1 s4 j (iv (pl j)))) (fun _ s _ => n - (intOf s).toNat)
  case atStart => exact ⟨0, Nat.zero_le _, rfl, Ext.refl _, (show World.ownsRow _ _ _ _ _ _ _ by rw [HZ.out]; exact World.ownsRow_nil _ _ _ _)⟩
  case round =>
    obtain ⟨j, hj, rfl, EW, HO⟩ := hrel
    by_cases hlt : j < n
    · have hltz : (j : Int) < (n : Int) := by omega
      have q1 := cell_later (E0.comp EW.out) (HCW.out j hlt)
      have q2 := fun W (E : Ext wr W) => cell_later (E0.comp (EW.out.comp E)) (HCM.out j hlt)
      have hx1 := HWA.out j hlt
      have hy1 := HMA.out j hlt
      have hpj := HSE.out j
      obtain ⟨x, hx⟩ : ∃ x, ws[j]?.getD 0 = x := ⟨_, rfl⟩
      obtain ⟨y, hy⟩ : ∃ y, ms[j]?.getD 0 = y := ⟨_, rfl⟩
      rw [hx] at q1 hx1 hpj
      simp only [hy] at q2
      rw [hy] at hy1 hpj
      have HPJ := Lib.hid hpj
      clear hpj hx hy
      have hdec := fun W => lb_dec hx1 W
      obtain ⟨o1, o2, o3, o4⟩ := ord_parts (decode_ord hx1)
      have hpo := placed_ord (m := y) (base := base) hx1
      have henc := fun W => lb_enc hpo W
      have ha1 := fun W => lb_address base (decodeQ x).frm y 1 W hy1 (.inl rfl) o2 HBS.out
      have ha2 := fun W => lb_address base (decodeQ x).to y 2 W hy1 (.inr (.inl rfl)) o3 HBS.out
      have ha3 := fun W => lb_address base (decodeQ x).nxt y 4 W hy1 (.inr (.inr rfl)) o4 HBS.out
      have HPW := Lib.hid (show placeW base x y = Q.written ⟨(decodeQ x).op, movedQ (decodeQ x).frm y 1 base, movedQ (decodeQ x).to y 2 base, movedQ (decodeQ x).nxt y 4 base⟩ from rfl)
      generalize Q.written ⟨(decodeQ x).op, movedQ (decodeQ x).frm y 1 base, movedQ (decodeQ x).to y 2 base, movedQ (decodeQ x).nxt y 4 base⟩ = z at *
      generalize movedQ (decodeQ x).frm y 1 base = m1 at *
      generalize movedQ (decodeQ x).to y 2 base = m2 at *
      generalize movedQ (decodeQ x).nxt y 4 base = m3 at *
      generalize (decodeQ x).op = op at *
      generalize (decodeQ x).frm = fm at *
      generalize (decodeQ x).to = tm at *
      generalize (decodeQ x).nxt = nx at *
      clear hx1 hy1 o1 o2 o3 o4 hpo
      have BW := B0.ex EW.out
      go_wp2_with fail
      refine (hdec _).mono ?_
      rintro e w1 ⟨rfl, E1⟩
      have B1 := (BW.ex E1).al (.cells #[.int .i64 op, .int .i64 fm, .int .i64 tm, .int .i64 nx] 107)
      have p1 := B1.c 1 (v := .slice (some ⟨bm, om, none⟩) n c2) rfl
      have hlt0 := (BW.ex E1).lt
      have q3 := q2 (w1.alloc (.cells #[.int .i64 op, .int .i64 fm, .int .i64 tm, .int .i64 nx] 107)) (E1.alloc _)
      have BO := Blk.nw w1 #[.int .i64 op, .int .i64 fm, .int .i64 tm, .int .i64 nx] 107
      have EY : Ext wr (w1.alloc (.cells #[.int .i64 op, .int .i64 fm, .int .i64 tm, .int .i64 nx] 107)) := E1.alloc _
      go_upto_region 6 with fail
      generalize hY : w1.alloc (.cells #[.int .i64 op, .int .i64 fm, .int .i64 tm, .int .i64 nx] 107) = Y at *
      generalize hob : w1.heap.size = ob at *
      clear hY hob q1 q2 hdec
      have r0 := Blk.c BO 0 (v := .int .i64 op) rfl
      have r1 := Blk.c BO 1 (v := .int .i64 fm) rfl
      have r2 := Blk.c BO 2 (v := .int .i64 tm) rfl
      have r3 := Blk.c BO 3 (v := .int .i64 nx) rfl
      go_wp2_with fail
      go_region_held3 (fun w' => Ext Y w' ∧ w'.cell? ⟨ob, 0, none⟩ = some (.int .i64 op) ∧ w'.cell? ⟨ob, 1, none⟩ = some (.int .i64 fm) ∧ w'.cell? ⟨ob, 2, none⟩ = some (.int .i64 tm) ∧ w'.cell? ⟨ob, 3, none⟩ = some (.int .i64 nx))
        (first | exact ⟨(Ext.refl Y).drew, r0, r1, r2, r3⟩ | exact ⟨Ext.comp (Ext.refl Y).drew hb', cell_later hb' r0, cell_later hb' r1, cell_later hb' r2, cell_later hb' r3⟩ | (have hh := ‹Ext Y _ ∧ _ ∧ _›; exact ⟨Ext.comp hh.1 hb', cell_later hb' hh.2.1, cell_later hb' hh.2.2.1, cell_later hb' hh.2.2.2.1, cell_later hb' hh.2.2.2.2⟩))
        (first | (go_at_call 109; with_reducible refine (henc _).mono ?_; rintro e w' ⟨rfl, hb'⟩) | (go_at_call 107; with_reducible refine (ha1 _).mono ?_; rintro e w' ⟨rfl, hb'⟩) | (go_at_call 107; with_reducible refine (ha2 _).mono ?_; rintro e w' ⟨rfl, hb'⟩) | (go_at_call 107; with_reducible refine (ha3 _).mono ?_; rintro e w' ⟨rfl, hb'⟩))
      have E5 := EY.comp (‹Ext Y _ ∧ _ ∧ _›).1
      have hxs := EW.out.size
      have hs5 := E5.size
      clear ha1 ha2 ha3 henc r0 r1 r2 r3 p1 q3 BO B1
      have hown := own_extX HO.out (E5.alloc (.cells #[.int .i64 z] 3))
      have hEx : Ext X (w'.alloc (.cells #[.int .i64 z] 3)) := (EW.out.comp E5).alloc _
      have hfr : From (w'.alloc (.cells #[.int .i64 z] 3)) (some ⟨w'.heap.size, 0, none⟩) (iv [z]) := by
        refine .inr ⟨_, rfl, fun i u hu => ?_⟩
        have hn := Blk.nw w' #[.int .i64 z] 3
        rw [Addr.add_lit]
        simp only [Nat.zero_add]
        exact hn.c i (by rw [← hu]; simp [iv])
      go_wp2_with (at_builtin; refine wpList_app (w0 := X) rfl _ _ 22 rfl 3 i0 (.int .i64 0) 1 8 Try.underlying22 hi0 hz0 hz1 hz2 rfl (by decide) _ j X.heap.size (iv (pl j)) rfl hown hEx (Nat.le_refl _) (by rw [World.size_alloc]; omega) (some ⟨w'.heap.size, 0, none⟩) 1 1 (iv [z]) rfl rfl hfr (iv_one [z]) (by unfold maxLen; omega) (by omega) ?_; intro a5 c5 w5 ho5 hE5 _)
      go_roundw
      case rel =>
        refine ⟨j + 1, by omega, by go_num, hE5, (show World.ownsRow _ _ _ _ _ _ _ from ?_)⟩
        rw [HPJ.out, ← iv_app, HPW.out]
        exact ho5
      case measure => simp [intOf]; omega
    · have hltz : ¬ (j : Int) < (n : Int) := by omega
      obtain rfl : n = j := by omega
      obtain ⟨a', c', rfl⟩ := own_slice HO.out
      go_wp2_with fail
      go_ret
      exact ⟨a', c', rfl, by rw [HPL.out]; exact own_le HO.out E0.size, E0.comp EW.out⟩
end Go.Proofs.Ytcijneecjkpebaa
/- Layer 8: greatest, Value, Accept. -/
namespace Go.Q
theorem half_pow (m : Nat) : (2 : Int) ^ (m + 1) / 2 = 2 ^ m := by
  rw [Int.pow_succ]
  omega
theorem pow23 {m : Nat} (h : m ≤ 23) : (1 : Int) ≤ 2 ^ m ∧ (2 : Int) ^ m ≤ 8388608 := by
  have h1 : 2 ^ m ≤ 2 ^ 23 := Nat.pow_le_pow_right (by decide) h
  have h2 := Nat.two_pow_pos m
  have e : ((2 ^ m : Nat) : Int) = 2 ^ m := by simp
  omega
end Go.Q
namespace Go.Proofs.Ytcijneecjkpebaa
open Go.RowKit Go.Q
/-- what a predicate on numbers may do -/
def PredR (P : Program) (g : Nat) (lb : Array Value) (p : Int → Bool) (w : World) : Prop :=
  ∀ (W : World) (x : Int), Ext w W → 0 ≤ x → x ≤ 8388607 → Calls P g (#[.int .i64 x] ++ lb) W fun e w' => e = .returned (.bool (p x)) ∧ Ext w w'
set_option maxHeartbeats 1000000 in
theorem lb_greatest (g : Nat) (lb : Array Value) (p : Int → Bool) (w : World) (eg : ∀ args w, (callFunc g args).run Try.prog w = .ok (.enter g args) w) (hp : PredR Try.prog g lb p w) :
    Calls Try.prog 51 #[.func (.func g) #[] lb] w fun e w' => e = .returned (.int .i64 (greatN p 23 0)) ∧ Ext w w' := by
  obtain ⟨R, hR⟩ : ∃ R, greatN p 23 0 = R := ⟨_, rfl⟩
  rw [hR]
  have HR := Lib.hid hR
  clear hR
  go_enter Try.func51, Try.ntmps51
  go_wp2
  go_loopg [2, 3] 23 (fun gg s2 s3 wr => ∃ (m : Nat) (t s : Int), m ≤ gg ∧ m ≤ 23 ∧ s2 = .int .i64 t ∧ s3 = .int .i64 s ∧ Aside (s = (2 : Int) ^ m / 2) ∧ 0 ≤ t ∧ Aside (t + (2 : Int) ^ m ≤ 8388608) ∧ Aside (greatN p m t = R) ∧ Aside (Ext w wr))
  case atStart => exact ⟨23, 0, 4194304, by omega, by omega, rfl, rfl, (show _ = _ by decide), by omega, (show _ ≤ _ by decide), HR.out, Ext.refl w⟩
  case round =>
    obtain ⟨m, t, s, hm1, hm2, rfl, rfl, hs, ht0, ht1, hG, EW⟩ := hrel
    rcases m with _ | m
    · have hs0 : s = 0 := by rw [hs.out]; decide
      have HT := Lib.hid (show t = R from hG.out)
      clear hs ht1 hG
      subst hs0
      go_wp2
      go_ret
      exact ⟨ret_int HT.out, EW.out⟩
    · have hp2 := pow23 (show m ≤ 23 by omega)
      have hs2 : s = (2 : Int) ^ m := by rw [hs.out, half_pow]
      have hb1 : 1 ≤ s := by omega
      have hb2 : t + 2 * s ≤ 8388608 := by have := ht1.out; rw [Int.pow_succ] at this; omega
      have hG2 : greatN p m (if p (t + s) = true then t + s else t) = R := by rw [hs2]; exact hG.out
      have hc := hp wr (t + s) EW.out (by omega) (by omega)
      have HS := Lib.hid hs2
      have HG := Lib.hid hG2
      clear hs ht1 hG hp2 hs2 hG2
      cases hq : p (t + s) with
      | true =>
        rw [hq] at hc HG
        have HG2 := Lib.hid (show greatN p m (t + s) = R from HG.out)
        clear HG hq
        go_wp2_with (go_at_fn g; refine hc.mono ?_; rintro e w' ⟨rfl, hb'⟩)
        go_roundg m
        case measure => omega
        case rel => exact ⟨m, t + s, s / 2, by omega, by omega, rfl, rfl, (show _ = _ by rw [HS.out]), by omega, (show _ ≤ _ by rw [← HS.out]; omega), HG2.out, hb'⟩
      | false =>
        rw [hq] at hc HG
        have HG2 := Lib.hid (show greatN p m t = R from HG.out)
        clear HG hq
        go_wp2_with (go_at_fn g; refine hc.mono ?_; rintro e w' ⟨rfl, hb'⟩)
        go_roundg m
        case measure => omega
        case rel => exact ⟨m, t, s / 2, by omega, by omega, rfl, rfl, (show _ = _ by rw [HS.out]), by omega, (show _ ≤ _ by rw [← HS.out]; omega), HG2.out, hb'⟩
/-- the test of a kind -/
theorem lb_test (k t : Int) (b off c n : Nat) (xs : List Int) (w : World) (hk : askQ k xs = 0) (ht : 0 ≤ t ∧ t ≤ 8388607) (hn : xs.length = n) (hc : ∀ i, i < xs.length → w.cell? ⟨b, off + i, none⟩ = some (.int .i64 (xs[i]?.getD 0))) :
    Calls Try.prog (kindF k) #[.int .i64 t, .slice (some ⟨b, off, none⟩) n c] w fun e w' => e = .returned (.int .i64 (testQ k xs t)) ∧ w = w' := by
  obtain ⟨h1, h2, h3⟩ := ask_ok hk
  have hb := arg_bd h3 1
  unfold kindF testQ
  rcases h1 with rfl | rfl | rfl
  · rw [if_neg (by decide), if_neg (by decide), if_neg (by decide), if_neg (by decide)]
    exact lb_root t _ w (by omega)
  · rw [if_pos rfl, if_pos rfl]
    have h2n : xs.length = 2 := by
      have : takesQ 2 = 2 := by decide
      omega
    obtain rfl : n = 2 := by omega
    exact lb_quot t b off c xs w (by omega) (by omega) h2n hc
  · rw [if_neg (by decide), if_pos rfl, if_neg (by decide), if_pos rfl]
    exact lb_cube t _ w (by omega)
set_option maxHeartbeats 1000000 in
theorem lb_value1 (k t : Int) (b off c n kb ab : Nat) (xs : List Int) (w : World) (hk : askQ k xs = 0) (ht : 0 ≤ t ∧ t ≤ 8388607) (hn : xs.length = n) (hc : ∀ i, i < xs.length → w.cell? ⟨b, off + i, none⟩ = some (.int .i64 (xs[i]?.getD 0)))
    (h1 : w.cell? ⟨kb, 1, none⟩ = some (.func (.func (kindF k)) #[] #[])) (h2 : w.cell? ⟨ab, 0, none⟩ = some (.slice (some ⟨b, off, none⟩) n c)) :
    Calls Try.prog 52 #[.int .i64 t, .pointer (some ⟨kb, 0, none⟩), .pointer (some ⟨ab, 0, none⟩)] w fun e w' => e = .returned (.bool (fitsP k xs t)) ∧ Ext w w' := by
  have hT : ∀ m, Calls Try.prog (kindF k) #[.int .i64 t, .slice (some ⟨b, off, none⟩) n c] (w.drewN m) fun e w' => e = .returned (.int .i64 (testQ k xs t)) ∧ w' = w.drewN m := fun m => (lb_test k t b off c n xs (w.drewN m) hk ht hn (fun i hi => cell_later (below_drewN (Ext.refl _) _) (hc i hi))).mono fun _ _ h => ⟨h.1, h.2.symm⟩
  have hn0 : 0 < n := by
    obtain ⟨g1, g2, -⟩ := ask_ok hk
    rcases g1 with rfl | rfl | rfl <;> (unfold takesQ at g2; simp at g2; omega)
  have c0 : w.cell? ⟨b, off, none⟩ = some (.int .i64 (argQ xs 0)) := hc 0 (by omega)
  have e : fitsP k xs t = decide (testQ k xs t ≤ argQ xs 0) := rfl
  rw [e]
  have eg : ∀ args w, (callFunc (kindF k) args).run Try.prog w = .ok (.enter (kindF k) args) w := by
    unfold kindF
    split
    · exact enters_of Try.func126 (by kernel_rfl) rfl
    · split
      · exact enters_of Try.func127 (by kernel_rfl) rfl
      · exact enters_of Try.func124 (by kernel_rfl) rfl
  generalize testQ k xs t = y at *
  generalize argQ xs 0 = z at *
  generalize kindF k = g at *
  clear e hc hn hk
  go_enter Try.func52, Try.ntmps52
  go_wp2
  go_quiet ((go_at_fn g; exact Calls.quiet_of_same (hT _)))
  go_wp2
  go_ret
  exact ⟨rfl, below_drewN (Ext.refl _) _⟩
end Go.Proofs.Ytcijneecjkpebaa

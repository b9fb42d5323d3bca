import Derived.Maps.AppendAt
import Derived.Deep.AppendLies
import Derived.Deep.RegionLaw
import Derived.Laws.OwnMore
import Derived.Laws.Strings
import Derived.Lib.SmallJoins
import Derived.Test.YtnhpcoagkmgdoaaGreatShelf
import Derived.Test.YtnhpcoagkmgdoaaGreatX4
import Derived.Test.YtnhpcoagkmgdoaaGreatX3
set_option linter.unusedVariables false
set_option linter.unusedSimpArgs false
/- Append to a row of the call's own, the source nil or not, in a plain region and in one that draws; what such a row reads as. -/
namespace Go.Q
open Go.RowKit
/-- the cells news lie from a on; where there are none nothing is asked -/
def From (w : World) (a : Option Addr) (news : List Value) : Prop := news = [] ∨ ∃ ad, a = some ad ∧ ∀ j u, news[j]? = some u → w.cell? (ad.add j) = some u
theorem ext_drewN {a b : World} (h : Ext a b) (n : Nat) : Ext a (b.drewN n) := below_drewN h n
theorem run_app_nil {P : Program} {w : World} (t ty e : TypeId) {i : TypeInfo} (ht : P.underlying t = some (.slice e)) (hi : P.info? e = some i) {B sz n : Nat} {v : Value} {xs : List Value}
  (hown : w.ownsRow B e sz v n xs) (c : Nat) : (Builtin.append_ #[t, t] ty #[v, .slice none 0 c]).run P w = .ok v w := by
 rcases hown.2 with ⟨h, _⟩ | ⟨g, cap, cur, h, _, _, hle, _⟩ <;> subst h
 ·simp [Builtin.append_, Builtin.lenOf, Builtin.firstCells, run_underlying ht, sizeOf, typeInfo, hi]
 ·simp [Builtin.append_, Builtin.lenOf, Builtin.firstCells, run_underlying ht, sizeOf, typeInfo, hi, hle, storeCells]
theorem run_app {P : Program} {w0 w : World} (t ty e : TypeId) (i : TypeInfo) (z : Value) (sz bytes : Nat) (ht : P.underlying t = some (.slice e)) (hi : P.info? e = some i) (hz : i.zero = some z) (hs : i.size = sz) (hb : i.bytes = bytes) (hzs : z.cells.size = sz) (hsz : 0 < sz)
  (v : Value) (n B : Nat) (xs : List Value) (hown : w.ownsRow B e sz v n xs) (hE : Ext w0 w) (hB0 : w0.heap.size ≤ B) (hB1 : B ≤ w.heap.size)
  (a : Option Addr) (m c : Nat) (news : List Value) (hl : news.length = m * sz) (hf : From w a news) (h1 : ∀ u ∈ news, u.oneCell' = true) (h63 : n + m ≤ maxLen) (hbytes : (n + m) * bytes ≤ 140737488355328) :
  ∃ (a' : Option Addr) (c' : Nat) (w' : World), (Builtin.append_ #[t, t] ty #[v, .slice a m c]).run P w = .ok (.slice a' (n + m) c') w' ∧ w'.ownsRow B e sz (.slice a' (n + m) c') (n + m) (xs ++ news) ∧ Ext w0 w' ∧ w.grownBy w' v.ownBlock := by
 have hrow : ∀ k, v.ownBlock = some k → w0.heap.size ≤ k := fun k hk => Nat.le_trans hB0 (hown.lt k hk).1
 have fin : ∀ (v' : Value) (w' : World), w'.ownsRow B e sz v' (n + m) (xs ++ news) → ∃ a' c', v' = .slice a' (n + m) c' := by
  intro v' w' h
  rcases h.2 with ⟨h1, h2⟩ | ⟨g, cap, cur, h1, _⟩
  ·exact ⟨none, 0, by rw [h2]; exact h1⟩
  ·exact ⟨_, _, h1⟩
 cases a with
 | none =>
  have hn : news = [] := by
   rcases hf with h | ⟨ad, h, _⟩
   ·exact h
   ·cases h
  subst hn
  have hm : m = 0 := by
   rcases Nat.eq_zero_or_pos m with h | h
   ·exact h
   ·have : 0 < m * sz := Nat.mul_pos h hsz
    simp at hl; omega
  subst hm
  have ho : w.ownsRow B e sz v (n + 0) (xs ++ []) := by simpa using hown
  obtain ⟨a', c', hv⟩ := fin v w ho
  exact ⟨a', c', w, by rw [← hv]; exact run_app_nil t ty e ht hi hown c, by rw [← hv]; exact ho, hE, World.grownBy.refl w _⟩
 | some ad =>
  have hc : ∀ j u, news[j]? = some u → w.cell? (ad.add j) = some u := by
   rcases hf with h | ⟨ad', h, hc⟩
   ·subst h; intro j u hu; simp at hu
   ·cases h; exact hc
  obtain ⟨v', w', hr, h2, h3, _, _⟩ := run_append_own_at (P := P) w B t ty e i z sz bytes ht hi hz hs hb hzs hsz v n xs hown ad m c news hl hc h1 h63 hbytes hB1
  obtain ⟨a', c', hv⟩ := fin v' w' h2
  exact ⟨a', c', w', by rw [hr, hv], by rw [← hv]; exact h2, hE.grown h3 hE.size hrow, h3⟩
section
variable {P : Program} {w0 w : World}
theorem wp_app {o : Oper} {act : Act} {K : Act → World → Prop} {Q : Exit → Act → World → Prop} (s x : Operand) (t : TypeId)
  (ho : o.op = .call { callee := .builtin .append, args := #[s, x], argTypes := #[t, t] })
  (e : TypeId) (i : TypeInfo) (z : Value) (sz bytes : Nat) (ht : P.underlying t = some (.slice e)) (hi : P.info? e = some i) (hz : i.zero = some z) (hs : i.size = sz) (hb : i.bytes = bytes) (hzs : z.cells.size = sz) (hsz : 0 < sz)
  (v : Value) (n B : Nat) (xs : List Value) (he : act.eval s = v) (hown : w.ownsRow B e sz v n xs) (hE : Ext w0 w) (hB0 : w0.heap.size ≤ B) (hB1 : B ≤ w.heap.size)
  (a : Option Addr) (m c : Nat) (news : List Value) (hx : act.eval x = .slice a m c) (hl : news.length = m * sz) (hf : From w a news) (h1 : ∀ u ∈ news, u.oneCell' = true) (h63 : n + m ≤ maxLen) (hbytes : (n + m) * bytes ≤ 140737488355328)
  (h : ∀ (a' : Option Addr) (c' : Nat) (w' : World), w'.ownsRow B e sz (.slice a' (n + m) c') (n + m) (xs ++ news) → Ext w0 w' → w.grownBy w' v.ownBlock → K (act.put o.dst (.slice a' (n + m) c')) w') : o.wp P act w K Q := by
 obtain ⟨a', c', w', hr, h2, h3, h4⟩ := run_app (P := P) t o.type e i z sz bytes ht hi hz hs hb hzs hsz v n B xs hown hE hB0 hB1 a m c news hl hf h1 h63 hbytes
 have hk := h a' c' w' h2 h3 h4
 unfold Oper.wp execOp
 simp only [ho, resolve, invoke, builtin, Sem.run_bind, Sem.run_pure, Result.andThen_ok, List.map_toArray, List.map_cons, List.map_nil, he, hx, hr]
 exact hk
theorem wpList_app {ops : Array Oper} {rest : List Oper} {o : Oper} {act : Act} {Q : Exit → Act → World → Prop} (hgd : o.guard = none) (s x : Operand) (t : TypeId)
  (ho : o.op = .call { callee := .builtin .append, args := #[s, x], argTypes := #[t, t] })
  (e : TypeId) (i : TypeInfo) (z : Value) (sz bytes : Nat) (ht : P.underlying t = some (.slice e)) (hi : P.info? e = some i) (hz : i.zero = some z) (hs : i.size = sz) (hb : i.bytes = bytes) (hzs : z.cells.size = sz) (hsz : 0 < sz)
  (v : Value) (n B : Nat) (xs : List Value) (he : act.eval s = v) (hown : w.ownsRow B e sz v n xs) (hE : Ext w0 w) (hB0 : w0.heap.size ≤ B) (hB1 : B ≤ w.heap.size)
  (a : Option Addr) (m c : Nat) (news : List Value) (hx : act.eval x = .slice a m c) (hl : news.length = m * sz) (hf : From w a news) (h1 : ∀ u ∈ news, u.oneCell' = true) (h63 : n + m ≤ maxLen) (hbytes : (n + m) * bytes ≤ 140737488355328)
  (h : ∀ (a' : Option Addr) (c' : Nat) (w' : World), w'.ownsRow B e sz (.slice a' (n + m) c') (n + m) (xs ++ news) → Ext w0 w' → w.grownBy w' v.ownBlock → wpList P ops Q rest (act.put o.dst (.slice a' (n + m) c')) w') : wpList P ops Q (o :: rest) act w :=
 wpList_plain hgd fun _ hK => wp_app s x t ho e i z sz bytes ht hi hz hs hb hzs hsz v n B xs he hown hE hB0 hB1 a m c news hx hl hf h1 h63 hbytes fun a' c' w' h2 h3 h4 => hK _ _ (h a' c' w' h2 h3 h4)
theorem step_app {ops : Array Oper} {o : Oper} {act : Act} {K : Act → World → Prop} {Q : Exit → Act → World → Prop} {E : Prop} (hgd : o.guard = none) (s x : Operand) (t : TypeId)
  (ho : o.op = .call { callee := .builtin .append, args := #[s, x], argTypes := #[t, t] })
  (e : TypeId) (i : TypeInfo) (z : Value) (sz bytes : Nat) (ht : P.underlying t = some (.slice e)) (hi : P.info? e = some i) (hz : i.zero = some z) (hs : i.size = sz) (hb : i.bytes = bytes) (hzs : z.cells.size = sz) (hsz : 0 < sz)
  (v : Value) (n B : Nat) (xs : List Value) (he : act.eval s = v) (hown : w.ownsRow B e sz v n xs) (hE : Ext w0 w) (hB0 : w0.heap.size ≤ B) (hB1 : B ≤ w.heap.size)
  (a : Option Addr) (m c : Nat) (news : List Value) (hx : act.eval x = .slice a m c) (hl : news.length = m * sz) (hf : From w a news) (h1 : ∀ u ∈ news, u.oneCell' = true) (h63 : n + m ≤ maxLen) (hbytes : (n + m) * bytes ≤ 140737488355328)
  (h : ∀ (a' : Option Addr) (c' : Nat) (w' : World), w'.ownsRow B e sz (.slice a' (n + m) c') (n + m) (xs ++ news) → Ext w0 w' → w.grownBy w' v.ownBlock → K (act.put o.dst (.slice a' (n + m) c')) w') :
  if Region.wanted o (yielded ops act.tmps) = true then Oper.wp P o act w K Q else E := by
 rw [if_pos (by simp [Region.wanted, hgd])]
 exact wp_app s x t ho e i z sz bytes ht hi hz hs hb hzs hsz v n B xs he hown hE hB0 hB1 a m c news hx hl hf h1 h63 hbytes h
end
/-- an empty literal -/
theorem own_empty {w w1 : World} {e : TypeId} {sz : Nat} (hE : Ext (w.alloc (.cells #[] e)) w1) : w1.ownsRow w.heap.size e sz (.slice (some ⟨w.heap.size, 0, none⟩) 0 0) 0 [] :=
 ⟨by simp, .inr ⟨w.heap.size, 0, #[], rfl, Nat.le_refl _, (hE.block w.heap.size (by simp)).trans (heap_alloc_new w _), Nat.le_refl _, Nat.zero_le _, by simp, by simp⟩⟩
theorem own_empty2 {w w1 : World} {e : TypeId} {sz n : Nat} (hn : w.heap.size = n) (hE : Ext (w.alloc (.cells #[] e)) w1) : w1.ownsRow n e sz (.slice (some ⟨n, 0, none⟩) 0 0) 0 [] := by
 subst hn; exact own_empty hE
end Go.Q
namespace Go.Proofs.YtnhpcoagkmgdoaaGreat
open Go.RowKit Go.Q
theorem from_ints {w : World} {a : Option Addr} {xs : List Int} (h : IntsAt w a xs) : From w a (iv xs) := by
 rcases h with h | ⟨b, off, ha, hb, hc⟩
 ·subst h; exact .inl rfl
 ·refine .inr ⟨_, ha, fun j u hu => ?_⟩
  have hj : j < xs.length := by
   rcases Nat.lt_or_ge j xs.length with h | h
   ·exact h
   ·rw [List.getElem?_eq_none (by simpa [iv_length] using h)] at hu; cases hu
  rw [iv_get xs j hj] at hu
  obtain rfl := Option.some.inj hu
  rw [Addr.add_lit]
  exact hc j hj
theorem iv_set (xs : List Int) (i : Nat) (x : Int) : (iv xs).set i (.int .i64 x) = iv (xs.set i x) := by unfold iv; rw [List.map_set]
theorem iv_app (xs ys : List Int) : iv xs ++ iv ys = iv (xs ++ ys) := by unfold iv; rw [List.map_append]
end Go.Proofs.YtnhpcoagkmgdoaaGreat
/- Rows of bytes in memory: what a slice of bytes holds, a row owned, a string of bytes (for layers that do not stand on layer 1's texts). -/
namespace Go.Q
open Go.RowKit
def ub (xs : List Int) : List Value := xs.map (Value.int .u8)
def BytesAt (w : World) (a : Option Addr) (xs : List Int) : Prop := xs = [] ∨ ∃ b off, a = some ⟨b, off, none⟩ ∧ b < w.heap.size ∧ ∀ i, i < xs.length → w.cell? ⟨b, off + i, none⟩ = some (.int .u8 (xs[i]?.getD 0))
theorem BytesAt.ext {w w' : World} {a : Option Addr} {xs : List Int} (h : BytesAt w a xs) (E : Ext w w') : BytesAt w' a xs :=
 h.imp id fun ⟨b, off, ha, hb, hc⟩ => ⟨b, off, ha, Nat.lt_of_lt_of_le hb E.size, fun i hi => (E.cell (p := ⟨b, off + i, none⟩) hb).trans (hc i hi)⟩
/-- the string of bytes -/
def strU (xs : List Int) : ByteArray := ⟨(xs.map fun x => UInt8.ofNat x.toNat).toArray⟩
theorem u8_back {x : Int} (h : 0 ≤ x ∧ x ≤ 255) : ((UInt8.ofNat x.toNat).toNat : Int) = x := by
 rw [UInt8.toNat_ofNat']
 omega
end Go.Q
namespace Go.Proofs.YtnhpcoagkmgdoaaGreat
open Go.RowKit Go.Q Go.Joins
theorem own_formU {w : World} {nb t n : Nat} {v : Value} {xs : List Value} (h : w.ownsRow nb t 1 v n xs) : ∃ a c, v = .slice a n c := by
 rcases h.2 with ⟨h1, h2⟩ | ⟨g, cap, cur, h1, _⟩
 ·exact ⟨none, 0, by rw [h2]; exact h1⟩
 ·exact ⟨_, _, h1⟩
theorem ub_get (xs : List Int) (i : Nat) (h : i < xs.length) : (ub xs)[i]? = some (.int .u8 (xs[i]?.getD 0)) := by
 unfold ub
 rw [List.getElem?_map, List.getElem?_eq_getElem h]; rfl
theorem own_bytes {w : World} {B n c : Nat} {a : Option Addr} {xs : List Int} (h : w.ownsRow B 5 1 (.slice a n c) n (ub xs)) : BytesAt w a xs := by
 rcases h.2 with ⟨h1, h2⟩ | ⟨g, cap, cur, h1, h2, h3, h4, h5, h6, h7⟩
 ·left
  have h0 := h.1
  rw [h2] at h0
  simpa [ub] using h0
 ·obtain ⟨rfl, -, -⟩ := Value.slice.inj h1
  refine .inr ⟨g, 0, rfl, (Array.getElem?_eq_some_iff.1 h3).1, fun i hi => ?_⟩
  have := World.ownsRow.cells h (g := g) rfl i (.int .u8 (xs[i]?.getD 0)) (ub_get xs i hi)
  refine Eq.trans (congrArg w.cell? ?_) this
  cases i <;> simp [Addr.add]
theorem Tryz.infoU : (Tryz.prog.info? 5).map (fun i => (i.zero, i.size, i.bytes)) = some (some (.int .u8 0), 1, 1) := by kernel_rfl
theorem own_cap {w : World} {B t sz n c : Nat} {a : Option Addr} {xs : List Value} (h : w.ownsRow B t sz (.slice a n c) n xs) : n ≤ c ∧ c ≤ 9223372036854775807 := by
 rcases h.2 with ⟨h1, h2⟩ | ⟨g, cap, cur, h1, h2, h3, h4, h5, h6⟩
 ·obtain ⟨-, h8, h9⟩ := Value.slice.inj h1
  omega
 ·obtain ⟨-, -, rfl⟩ := Value.slice.inj h1
  unfold maxLen at h5
  omega
theorem conv_bytes {W : World} {a : Option Addr} {c : Nat} {xs : List Int} (hI : BytesAt W a xs) (hx : ∀ x ∈ xs, 0 ≤ x ∧ x ≤ 255) : (convert 63 9 (.slice a xs.length c)).run Tryz.prog W = .ok (.string (strU xs)) W := by
 rcases hI with rfl | ⟨b, off, rfl, hb, hc⟩
 ·have := run_convert_bytes_string (P := Tryz.prog) W 63 9 5 a 0 c Tryz.underlying63 Tryz.underlying5 Tryz.underlying9
  rw [show ([] : List Int).length = 0 from rfl, this]
  cases a with
  | none => simp [Conv.bytesToString, go_sem, strU]; rfl
  | some a => simpa [strU] using (run_convert_bytes_back (P := Tryz.prog) W 63 9 5 a c [] Tryz.underlying63 Tryz.underlying5 Tryz.underlying9 (fun j hj => by simp at hj)).symm.trans (this) |>.symm
 ·have := run_convert_bytes_back (P := Tryz.prog) W 63 9 5 ⟨b, off, none⟩ c (xs.map fun x => UInt8.ofNat x.toNat) Tryz.underlying63 Tryz.underlying5 Tryz.underlying9 (fun j hj => by
   rw [List.length_map] at hj
   rw [Addr.add_lit, hc j hj, List.getElem_map, List.getElem?_eq_getElem hj, u8_back (hx _ (List.getElem_mem hj))]
   rfl)
  rw [List.length_map] at this
  exact this
set_option maxRecDepth 100000 in
theorem conv_own {W : World} {nb n c : Nat} {a : Option Addr} {xs : List Int} (h : W.ownsRow nb 5 1 (.slice a n c) xs.length (ub xs)) (hx : ∀ x ∈ xs, 0 ≤ x ∧ x ≤ 255) : (convert 63 9 (.slice a n c)).run Tryz.prog W = .ok (.string (strU xs)) W := by
 obtain ⟨a', c', e⟩ := own_formU h
 injection e with e1 e2 e3
 subst e2
 exact conv_bytes (own_bytes h) hx
theorem ub_length (xs : List Int) : (ub xs).length = xs.length := by simp [ub]
theorem ub_one (xs : List Int) : ∀ u ∈ ub xs, u.oneCell' = true := by
 intro u hu
 simp only [ub, List.mem_map] at hu
 obtain ⟨x, _, rfl⟩ := hu
 rfl
theorem from_bytes {w : World} {a : Option Addr} {xs : List Int} (h : BytesAt w a xs) : From w a (ub xs) := by
 rcases h with h | ⟨b, off, ha, hb, hc⟩
 ·subst h; exact .inl rfl
 ·refine .inr ⟨_, ha, fun j u hu => ?_⟩
  have hj : j < xs.length := by
   rcases Nat.lt_or_ge j xs.length with h | h
   ·exact h
   ·rw [List.getElem?_eq_none (by simpa [ub_length] using h)] at hu; cases hu
  rw [ub_get xs j hj] at hu
  obtain rfl := Option.some.inj hu
  refine Eq.trans (congrArg w.cell? ?_) (hc j hj)
  cases j <;> simp [Addr.add]
end Go.Proofs.YtnhpcoagkmgdoaaGreat
/- Layer 10 (dump) in plain Lean: rows, blocks, tapes; what Punch and Read return. No program in sight. -/
namespace Go.Q
/-- how many of the lowest k bits are ones -/
def onesN (n : Nat) : Nat → Nat
 | 0 => 0
 | k + 1 => onesN n k + (if n.testBit k = true then 1 else 0)
/-- an odd number of holes among seven -/
def oddP (r : Nat) : Bool := onesN r 7 % 2 == 1
/-- the row of six places -/
def oddR (n : Nat) : Nat := if oddP (n % 64) = true then n % 64 else n % 64 + 64
/-- in which places an odd number of rows has a hole -/
def chk (rs : List Nat) : Nat := rs.foldl (· ^^^ ·) 0 % 64
/-- row j of a word -/
def rowW (n : Int) (j : Nat) : Nat := oddR (n.toNat / 64 ^ j)
def rowsW (n : Int) : List Nat := [rowW n 0, rowW n 1, rowW n 2, rowW n 3]
def blockW (ws : List Int) : List Nat := ws.flatMap rowsW ++ [oddR (chk (ws.flatMap rowsW))]
/-- words, filled up to whole blocks -/
def padW (ws : List Int) : List Int := ((ws.length : Int) :: ws) ++ List.replicate ((16 - (ws.length + 1) % 16) % 16) 0
/-- the blocks of 16 words -/
def chunksW (all : List Int) : List (List Int) := (List.range (all.length / 16)).map fun i => (all.drop (16 * i)).take 16
def tapeW (ws : List Int) : List Nat := (chunksW (padW ws)).flatMap blockW
/-- what Punch returns -/
def punchX (ws : List Int) : Int := if 560 < ws.length then 3 else if ws.any badW = true then 7 else 0
def punchE (ws : List Int) : List Nat × Int := if punchX ws = 0 then (tapeW ws, 0) else ([], punchX ws)
/-- the rows with an even number of holes -/
def evs (b : List Nat) : List Nat := (List.range b.length).filter fun i => !oddP (b[i]?.getD 0)
/-- what is turned over in a row -/
def turnM (b : List Nat) : Nat := if chk b = 0 then 64 else chk b
/-- the row in which a bit is mended (-1: none), whether all is fine, and the block then -/
def mendB (b : List Nat) : Int × Bool × List Nat :=
 match evs b with
 | [] => (-1, chk b == 0, b)
 | [r] => if 1 < onesN (chk b) 6 then (0, false, b) else ((r : Int), true, b.set r (b[r]?.getD 0 ^^^ turnM b))
 | _ => (0, false, b)
/-- the word of four rows -/
def wordR (b : List Nat) (k : Nat) : Int := (((b[4 * k]?.getD 0 % 64) + 64 * (b[4 * k + 1]?.getD 0 % 64) + 4096 * (b[4 * k + 2]?.getD 0 % 64) + 262144 * (b[4 * k + 3]?.getD 0 % 64) : Nat) : Int)
def wordsB (b : List Nat) : List Int := (List.range 16).map (wordR b)
/-- block i of rows -/
def blk (rs : List Nat) (i : Nat) : List Nat := (rs.drop (65 * i)).take 65
def fineB (rs : List Nat) (i : Nat) : Bool := (mendB (blk rs i)).2.1
/-- the mended rows, the right rows, and the words of the first n blocks -/
def mendedN (rs : List Nat) (n : Nat) : List Int := (List.range n).flatMap fun i => if 0 ≤ (mendB (blk rs i)).1 then [(65 * i : Nat) + (mendB (blk rs i)).1] else []
def rightN (rs : List Nat) (n : Nat) : List Nat := (List.range n).flatMap fun i => (mendB (blk rs i)).2.2
def wordsN10 (rs : List Nat) (n : Nat) : List Int := (List.range n).flatMap fun i => wordsB (mendB (blk rs i)).2.2
def firstBad (rs : List Nat) : Option Nat := (List.range (rs.length / 65)).find? fun i => !fineB rs i
/-- the words behind the first one -/
def bodyR (rs : List Nat) : List Int := (wordsN10 rs (rs.length / 65)).drop 1
def manyR (rs : List Nat) : Int := (wordsN10 rs (rs.length / 65))[0]?.getD 0
def readX (rs : List Nat) : Int :=
 if 2400 < rs.length then 3
 else if rs.length = 0 ∨ rs.length % 65 ≠ 0 ∨ rs.any (fun r => decide (127 < r)) = true then 6
 else match firstBad rs with
  | some _ => 200
  | none => if 560 < manyR rs ∨ ((bodyR rs).length : Int) < manyR rs then 6 else if tapeW ((bodyR rs).take (manyR rs).toNat) = rightN rs (rs.length / 65) then 0 else 6
/-- what Read returns: words, the rows that were mended, the block, the error -/
def readE (rs : List Nat) : List Int × List Int × Int × Int :=
 if readX rs = 0 then ((bodyR rs).take (manyR rs).toNat, mendedN rs (rs.length / 65), 0, 0)
 else if readX rs = 200 then ([], [], ((firstBad rs).getD 0 : Nat), 200)
 else ([], [], 0, readX rs)
end Go.Q
/- Layer 10's reference: in, bit, power, Holes, odd. -/
namespace Go.Q
open Go.RowKit
end Go.Q
namespace Go.Proofs.YtnhpcoagkmgdoaaGreat
open Go.RowKit Go.Q
theorem rin10_any (n lo hi : Int) (w : World) : Calls Tryz.prog 40 #[.int .i64 n, .int .i64 lo, .int .i64 hi] w fun e w' => e = .returned (.bool (inB n lo hi)) ∧ w' = w := by
 by_cases h1 : lo ≤ n
 ·by_cases h2 : n ≤ hi
  ·have e : inB n lo hi = true := by unfold inB; rw [decide_eq_true h1, decide_eq_true h2]; rfl
   rw [e]
   go_enter Tryz.func40, Tryz.ntmps40
   go_wp2
   go_ret
   exact ⟨rfl, rfl⟩
  ·have e : inB n lo hi = false := by unfold inB; rw [decide_eq_false h2]; simp
   rw [e]
   go_enter Tryz.func40, Tryz.ntmps40
   go_wp2
   go_ret
   exact ⟨rfl, rfl⟩
 ·have e : inB n lo hi = false := by unfold inB; rw [decide_eq_false h1]; rfl
  rw [e]
  go_enter Tryz.func40, Tryz.ntmps40
  go_wp2
  go_ret
  exact ⟨rfl, rfl⟩
end Go.Proofs.YtnhpcoagkmgdoaaGreat
/- Layer 10's program: out, odd, check. -/
namespace Go.Q
open Go.RowKit
theorem u8_nat {a : Nat} (h : a < 256) : (BitVec.ofInt 8 (a : Int)).toNat = a := by
 rw [BitVec.toNat_ofInt]
 have e : (a : Int) % ((2 ^ 8 : Nat) : Int) = (a : Int) := Int.emod_eq_of_lt (by omega) (by show (a : Int) < 256; omega)
 rw [e]
 exact Int.toNat_natCast a
theorem u8_xor {a b : Nat} (ha : a < 256) (hb : b < 256) : bits .xor .u8 (a : Int) (b : Int) = ((a ^^^ b : Nat) : Int) := by
 show IntKind.u8.wrap (((BitVec.ofInt 8 (a : Int) ^^^ BitVec.ofInt 8 (b : Int)).toNat : Nat) : Int) = _
 have := Nat.xor_lt_two_pow (n := 8) ha hb
 rw [BitVec.toNat_xor, u8_nat ha, u8_nat hb, IntKind.wrap_u8]
 omega
theorem u8_and63 {a : Nat} (ha : a < 256) : bits .and .u8 (a : Int) 63 = ((a % 64 : Nat) : Int) := by
 show IntKind.u8.wrap (((BitVec.ofInt 8 (a : Int) &&& BitVec.ofInt 8 63).toNat : Nat) : Int) = _
 have e : (a &&& 63) = a % 64 := Nat.and_two_pow_sub_one_eq_mod a 6
 rw [BitVec.toNat_and, u8_nat ha, show (BitVec.ofInt 8 63).toNat = 63 from rfl, e, IntKind.wrap_u8]
 omega
theorem or64 : ∀ a : Fin 64, a.1 ||| 64 = a.1 + 64 := by decide
theorem u8_or64 {a : Nat} (ha : a < 64) : bits .or .u8 (a : Int) 64 = ((a + 64 : Nat) : Int) := by
 show IntKind.u8.wrap (((BitVec.ofInt 8 (a : Int) ||| BitVec.ofInt 8 64).toNat : Nat) : Int) = _
 rw [BitVec.toNat_or, u8_nat (by omega), show (BitVec.ofInt 8 64).toNat = 64 from rfl, or64 ⟨a, ha⟩, IntKind.wrap_u8]
 show ((a + 64 : Nat) : Int) % 256 = _
 omega
theorem i64_and63 {n : Int} (h : 0 ≤ n) : bits .and .i64 n 63 = ((n.toNat % 64 : Nat) : Int) := by
 rw [i64_mask n 63 6 (by decide) (by decide)]
 show n % 64 = _
 omega
theorem ones_odd : ∀ r : Fin 128, Go.Lib.onesCount r.1 % 2 = if oddP r.1 = true then 1 else 0 := by decide +kernel
end Go.Q
namespace Go.Proofs.YtnhpcoagkmgdoaaGreat
open Go.RowKit Go.Q
theorem out10_any (n lo hi : Int) (w : World) : Calls Tryz.prog 36 #[.int .i64 n, .int .i64 lo, .int .i64 hi] w fun e w' => e = .returned (.bool (!inB n lo hi)) ∧ w' = w := by
 by_cases h1 : n < lo
 ·have e : inB n lo hi = false := by unfold inB; rw [decide_eq_false (by omega)]; rfl
  rw [e]
  go_enter Tryz.func36, Tryz.ntmps36
  go_wp2
  go_ret
  exact ⟨rfl, rfl⟩
 ·by_cases h2 : hi < n
  ·have e : inB n lo hi = false := by unfold inB; rw [decide_eq_false (show ¬ n ≤ hi by omega)]; simp
   rw [e]
   go_enter Tryz.func36, Tryz.ntmps36
   go_wp2
   go_ret
   exact ⟨rfl, rfl⟩
  ·have e : inB n lo hi = true := by unfold inB; rw [decide_eq_true (show lo ≤ n by omega), decide_eq_true (show n ≤ hi by omega)]; rfl
   rw [e]
   go_enter Tryz.func36, Tryz.ntmps36
   go_wp2
   go_ret
   exact ⟨rfl, rfl⟩
theorem odd_int_any (n : Int) (w : World) (h0 : 0 ≤ n) : Calls Tryz.prog 86 #[.int .i64 n] w fun e w' => e = .returned (.int .u8 (oddR n.toNat : Nat)) ∧ w' = w := by
 have a1 := i64_and63 h0
 obtain ⟨x, hx⟩ : ∃ x, n.toNat % 64 = x := ⟨_, rfl⟩
 have hx64 : x < 64 := by rw [← hx]; exact Nat.mod_lt _ (by decide)
 have hoc := fun W => Tryz.bits_OnesCount8 (x : Int) W (by omega) (by omega)
 rw [Int.toNat_natCast] at hoc
 have hodd := ones_odd ⟨x, by omega⟩
 dsimp only at hodd
 obtain ⟨c, hc⟩ : ∃ c, Go.Lib.onesCount x = c := ⟨_, rfl⟩
 rw [hc] at hoc hodd
 have hw8 : IntKind.u8.wrap (x : Int) = (x : Int) := IntWalk.u8_in _ (by omega)
 have ho := Go.Q.u8_or64 hx64
 rw [hx] at a1
 unfold oddR
 rw [hx]
 cases hp : oddP x with
 | true =>
  rw [hp] at hodd
  have c1 : ((c : Int) % 2 == 0) = false := by have : c % 2 = 1 := hodd; simp; omega
  clear hodd hp hc hx
  go_enter Tryz.func86, Tryz.ntmps86
  go_wp2_with fail
  refine (hoc _).mono ?_
  rintro e w' ⟨rfl, rfl⟩
  go_wp2
  go_ret
  exact ⟨rfl, rfl⟩
 | false =>
  rw [hp] at hodd
  have c1 : ((c : Int) % 2 == 0) = true := by have : c % 2 = 0 := hodd; simp; omega
  clear hodd hp hc hx
  go_enter Tryz.func86, Tryz.ntmps86
  go_wp2_with fail
  refine (hoc _).mono ?_
  rintro e w' ⟨rfl, rfl⟩
  go_wp2
  go_ret
  exact ⟨rfl, rfl⟩
end Go.Proofs.YtnhpcoagkmgdoaaGreat
/- Layer 10 in plain Lean: rows and blocks: what one wrong hole does to a block, and how it is mended. -/
namespace Go.Q
theorem oddR_facts : ∀ x : Fin 64, (oddR x.1 < 128 ∧ oddP (oddR x.1) = true) ∧ oddR x.1 % 64 = x.1 := by decide
theorem oddR_mod (n : Nat) : oddR n = oddR (n % 64) := by unfold oddR; rw [Nat.mod_mod]
theorem oddR_lt (n : Nat) : oddR n < 128 := by rw [oddR_mod]; exact (oddR_facts ⟨n % 64, Nat.mod_lt _ (by decide)⟩).1.1
theorem oddR_odd (n : Nat) : oddP (oddR n) = true := by rw [oddR_mod]; exact (oddR_facts ⟨n % 64, Nat.mod_lt _ (by decide)⟩).1.2
theorem oddR_low (n : Nat) : oddR n % 64 = n % 64 := by rw [oddR_mod]; exact (oddR_facts ⟨n % 64, Nat.mod_lt _ (by decide)⟩).2
/-- the exclusive or of rows -/
def xorL (rs : List Nat) : Nat := rs.foldl (· ^^^ ·) 0
theorem foldl_xor : ∀ (rs : List Nat) (a : Nat), rs.foldl (· ^^^ ·) a = a ^^^ xorL rs
 | [], a => by simp [xorL]
 | r :: rs, a => by
  unfold xorL
  rw [List.foldl_cons, List.foldl_cons, foldl_xor rs, foldl_xor rs, Nat.zero_xor, Nat.xor_assoc]
theorem xorL_cons (r : Nat) (rs : List Nat) : xorL (r :: rs) = r ^^^ xorL rs := by
 unfold xorL
 rw [List.foldl_cons, foldl_xor, Nat.zero_xor]
 rfl
theorem xorL_append (a b : List Nat) : xorL (a ++ b) = xorL a ^^^ xorL b := by
 unfold xorL
 rw [List.foldl_append, foldl_xor]
 rfl
theorem chk_xorL (rs : List Nat) : chk rs = xorL rs % 64 := rfl
theorem xor_mod64 (a b : Nat) : (a ^^^ b) % 64 = (a % 64) ^^^ (b % 64) := by
 have := Nat.xor_mod_two_pow (a := a) (b := b) (n := 6)
 simpa using this
/-- a block as it should be: each row has an odd number of holes, each place an even one -/
structure GoodB (b : List Nat) : Prop where
 len : b.length = 65
 odd : ∀ r ∈ b, oddP r = true
 lt : ∀ r ∈ b, r < 128
 chk : chk b = 0
end Go.Q
/- Layer 10's program: odd of a byte, check. -/
namespace Go.Q
open Go.RowKit
/-- rows as the bytes that they are -/
def natI (rs : List Nat) : List Int := rs.map fun (n : Nat) => (n : Int)
theorem natI_length (rs : List Nat) : (natI rs).length = rs.length := List.length_map ..
theorem natI_get (rs : List Nat) (i : Nat) : (natI rs)[i]?.getD 0 = ((rs[i]?.getD 0 : Nat) : Int) := by
 unfold natI
 rw [List.getElem?_map]
 cases rs[i]? <;> rfl
theorem natI_append (a b : List Nat) : natI (a ++ b) = natI a ++ natI b := List.map_append ..
theorem get_lt {rs : List Nat} {m : Nat} (h : ∀ r ∈ rs, r < m) (hm : 0 < m) (i : Nat) : rs[i]?.getD 0 < m := by
 by_cases hi : i < rs.length
 ·rw [List.getElem?_eq_getElem hi]; exact h _ (List.getElem_mem hi)
 ·rw [List.getElem?_eq_none (by omega)]; exact hm
theorem xorL_lt : ∀ {rs : List Nat}, (∀ r ∈ rs, r < 256) → xorL rs < 256
 | [], _ => by decide
 | r :: rs, h => by
  rw [xorL_cons]
  exact Nat.xor_lt_two_pow (n := 8) (h r (List.mem_cons_self ..)) (xorL_lt fun z hz => h z (List.mem_cons_of_mem _ hz))
theorem xorL_take {rs : List Nat} {i : Nat} (hi : i < rs.length) : xorL (rs.take (i + 1)) = xorL (rs.take i) ^^^ rs[i]?.getD 0 := by
 rw [List.take_add_one, xorL_append, List.getElem?_eq_getElem hi]
 congr 1
 show xorL [rs[i]] = rs[i]
 rw [xorL_cons]
 exact Nat.xor_zero _
end Go.Q
namespace Go.Proofs.YtnhpcoagkmgdoaaGreat
open Go.RowKit Go.Q
theorem odd_byte_any (x : Nat) (w : World) (h : x < 64) : Calls Tryz.prog 87 #[.int .u8 x] w fun e w' => e = .returned (.int .u8 (oddR x : Nat)) ∧ w' = w := by
 have a1 := Go.Q.u8_and63 (a := x) (by omega)
 rw [Nat.mod_eq_of_lt h] at a1
 have hoc := fun W => Tryz.bits_OnesCount8 (x : Int) W (by omega) (by omega)
 rw [Int.toNat_natCast] at hoc
 have hodd := ones_odd ⟨x, by omega⟩
 dsimp only at hodd
 obtain ⟨c, hc⟩ : ∃ c, Go.Lib.onesCount x = c := ⟨_, rfl⟩
 rw [hc] at hoc hodd
 have ho := Go.Q.u8_or64 h
 unfold oddR
 rw [Nat.mod_eq_of_lt h]
 cases hp : oddP x with
 | true =>
  rw [hp] at hodd
  have c1 : ((c : Int) % 2 == 0) = false := by have : c % 2 = 1 := hodd; simp; omega
  clear hodd hp hc
  go_enter Tryz.func87, Tryz.ntmps87
  go_wp2_with fail
  refine (hoc _).mono ?_
  rintro e w' ⟨rfl, rfl⟩
  go_wp2
  go_ret
  exact ⟨rfl, rfl⟩
 | false =>
  rw [hp] at hodd
  have c1 : ((c : Int) % 2 == 0) = true := by have : c % 2 = 0 := hodd; simp; omega
  clear hodd hp hc
  go_enter Tryz.func87, Tryz.ntmps87
  go_wp2_with fail
  refine (hoc _).mono ?_
  rintro e w' ⟨rfl, rfl⟩
  go_wp2
  go_ret
  exact ⟨rfl, rfl⟩
set_option maxHeartbeats 1000000 in
theorem check10_any (a : Option Addr) (n c : Nat) (rs : List Nat) (w : World) (hn : rs.length = n) (hbig : n ≤ 9223372036854775807) (hr : ∀ r ∈ rs, r < 256) (hI : BytesAt w a (natI rs)) :
  Calls Tryz.prog 88 #[.slice a n c] w fun e w' => e = .returned (.int .u8 (chk rs : Nat)) ∧ w' = w := by
 have hcell : ∀ i, i < n → ∃ b off, a = some ⟨b, off, none⟩ ∧ w.cell? ⟨b, off + i, none⟩ = some (.int .u8 ((rs[i]?.getD 0 : Nat) : Int)) := by
  intro i hi
  rcases hI with e | ⟨b, off, ha, hb, hc⟩
  ·have := natI_length rs; rw [e] at this; simp at this; omega
  ·have := hc i (by rw [natI_length]; omega)
   rw [natI_get] at this
   exact ⟨b, off, ha, this⟩
 have HN := Lib.hid hn
 have HR := Lib.hid hr
 have HC := Lib.hid hcell
 obtain ⟨v, hv⟩ : ∃ v, chk rs = v := ⟨_, rfl⟩
 rw [hv]
 have HV := Lib.hid hv
 clear hn hr hI hcell hv
 go_enter Tryz.func88, Tryz.ntmps88
 go_wp2
 go_loopw [2, 7] (fun s2 s7 wr => ∃ i : Nat, i ≤ n ∧ s7 = .int .i64 (i : Int) ∧ s2 = .int .u8 (xorL (rs.take i) : Nat) ∧ wr = w) (fun _ s7 _ => n - (Go.RowKit.intOf s7).toNat)
 case atStart => exact ⟨0, Nat.zero_le _, rfl, rfl, rfl⟩
 case round =>
  obtain ⟨i, hi, rfl, rfl, rfl⟩ := hrel
  have hx := xorL_lt (rs := rs.take i) fun r hr => HR.out r (List.mem_of_mem_take hr)
  by_cases hlt : i < n
  ·have hltz : (i : Int) < (n : Int) := by omega
   obtain ⟨b, off, rfl, hc⟩ := HC.out i hlt
   have HX := Lib.hid (xorL_take (rs := rs) (i := i) (by rw [HN.out]; exact hlt))
   have hy := get_lt HR.out (by decide) i
   obtain ⟨x, hxe⟩ : ∃ x, xorL (rs.take i) = x := ⟨_, rfl⟩
   obtain ⟨y, hye⟩ : ∃ y, rs[i]?.getD 0 = y := ⟨_, rfl⟩
   rw [hxe] at hx HX ⊢
   rw [hye] at hy HX hc
   have hxy := Go.Q.u8_xor hx hy
   obtain ⟨z, hz⟩ : ∃ z, x ^^^ y = z := ⟨_, rfl⟩
   rw [hz] at hxy HX
   clear hxe hye hz
   go_wp2
   go_roundw
   case rel => exact ⟨i + 1, by omega, by go_num, by rw [HX.out], (by first | rfl | trivial)⟩
   case measure => simp [Go.RowKit.intOf]; omega
  ·have hltz : ¬ (i : Int) < (n : Int) := by omega
   obtain rfl : i = n := by omega
   obtain ⟨x, hxe⟩ : ∃ x, xorL (rs.take i) = x := ⟨_, rfl⟩
   rw [hxe] at hx ⊢
   have ha := Go.Q.u8_and63 hx
   obtain ⟨y, hye⟩ : ∃ y, x % 64 = y := ⟨_, rfl⟩
   rw [hye] at ha
   obtain rfl : y = v := by
    rw [← HV.out, chk_xorL, ← hye, ← hxe, List.take_of_length_le (by rw [HN.out]; exact Nat.le_refl _)]
   clear hxe hye
   go_wp2
   exact bodyPost_ret (v := .int .u8 (y : Int)) (by simp [results, Tryz.results88, go_sem]) rfl ⟨rfl, rfl⟩
end Go.Proofs.YtnhpcoagkmgdoaaGreat

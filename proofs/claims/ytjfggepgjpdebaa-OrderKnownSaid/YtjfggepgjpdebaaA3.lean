/- Contracts: decode (both), strange, ref Order, Encode, Decode, Signed (both). -/
import Derived.Test.YtjfggepgjpdebaaA2
import Derived.BigQuiet
import Derived.Deep.QuietTactic
set_option linter.unusedVariables false
set_option linter.unusedSimpArgs false
namespace Go.Proofs.Ytjfggepgjpdebaa
open Go.RowKit Go.Q

/-- an order as a value -/
def ov (o : Ord) : Value := .agg #[.int .i64 o.op, .int .i64 o.frm, .int .i64 o.to, .int .i64 o.nxt]

set_option maxHeartbeats 400000 in
theorem decode_any (n : Int) (w : World) (h0 : 0 ≤ n) :
    Calls Try.prog 90 #[.int .i64 n] w fun e w' => e = .returned (.agg #[.int .i64 (decodeQ n).op, .int .i64 (decodeQ n).frm, .int .i64 (decodeQ n).to, .int .i64 (decodeQ n).nxt]) ∧ Ext w w' := by
  have h1 : 0 ≤ n / 128 := by omega
  have h2 : 0 ≤ n / 128 / 128 := by omega
  go_enter Try.func90, Try.ntmps90
  go_wp2_with (go_at_call 113; refine (unpack_any _ _ (by assumption)).mono ?_; rintro e w' ⟨rfl, rfl⟩)
  refine bodyPost_ret (v := .agg #[.int .i64 (n / 128 / 128 / 128), .int .i64 (n / 128 / 128 % 128), .int .i64 (n / 128 % 128), .int .i64 (n % 128)]) (by simp [results, Try.results90, go_sem]) rfl ⟨rfl, (Ext.refl w).alloc _⟩

set_option maxHeartbeats 400000 in
theorem rdecode_any (n : Int) (w : World) (h0 : 0 ≤ n) (hh : n ≤ 16777215) :
    Calls Try.prog 78 #[.int .i64 n] w fun e w' => e = .returned (.agg #[.int .i64 (decodeQ n).op, .int .i64 (decodeQ n).frm, .int .i64 (decodeQ n).to, .int .i64 (decodeQ n).nxt]) ∧ Ext w w' := by
  have h1 : 0 ≤ n / 128 := by omega
  have h2 : 0 ≤ n / 128 / 128 := by omega
  go_enter Try.func78, Try.ntmps78
  go_wp2
  refine bodyPost_ret (v := .agg #[.int .i64 (n / 128 / 128 / 128), .int .i64 (n / 128 / 128 % 128), .int .i64 (n / 128 % 128), .int .i64 (n % 128)]) (by simp [results, Try.results78, go_sem]) rfl ⟨rfl, (Ext.refl w).alloc _⟩

set_option maxHeartbeats 400000 in
theorem strange_any (a b c d : Int) (w : World) :
    Calls Try.prog 62 #[.agg #[.int .i64 a, .int .i64 b, .int .i64 c, .int .i64 d]] w fun e w' => e = .returned (.bool (!ordB ⟨a, b, c, d⟩)) ∧ Ext w w' := by
  have h3 : outB 127 [b, c, d] = !(addrB b && addrB c && addrB d) := by
    have e : outB 127 [b, c, d] = (outB 127 [b] || outB 127 [c] || outB 127 [d]) := by simp [outB, Bool.or_assoc]
    rw [e, outB_one, outB_one, outB_one]
    simp [addrB]
  cases h1 : inB a 0 7 with
  | false =>
    go_enter Try.func62, Try.ntmps62
    go_wp2_with (go_at_call 51; refine (out_one _ a _ _ (by simp) (by simp)).mono ?_; rintro e w' ⟨rfl, hb'⟩)
    go_ret
    exact ⟨ret_bool (by simp [ordB, h1]), Ext.comp (((Ext.refl w).alloc _).alloc _) hb'⟩
  | true =>
    go_enter Try.func62, Try.ntmps62
    go_wp2_with fail
    refine (out_one _ a _ _ (by simp) (by simp)).mono ?_
    rintro e w1 ⟨rfl, hb1⟩
    have hb := hb1.size
    have hc : ∀ o v, o < 4 → (w.alloc (.cells #[.int .i64 a, .int .i64 b, .int .i64 c, .int .i64 d] 36)).cell? ⟨w.heap.size, o, none⟩ = some v → w1.cell? ⟨w.heap.size, o, none⟩ = some v :=
      fun o v _ h => (hb1.cell (p := ⟨w.heap.size, o, none⟩) (by simp; omega)).trans (((Ext.refl _).alloc _).cell (p := ⟨w.heap.size, o, none⟩) (by simp) |>.trans h)
    have c1 := hc 1 _ (by decide) (by simp; rfl)
    have c2 := hc 2 _ (by decide) (by simp; rfl)
    have c3 := hc 3 _ (by decide) (by simp; rfl)
    clear hc
    go_wp2_with fail
    refine (out_any _ _ 3 3 [b, c, d] _ rfl (by decide) (.inr ⟨_, 0, rfl, by simp, fun i hi => ?_⟩)).mono ?_
    · match i, hi with
      | 0, _ => simp
      | 1, _ => simp
      | 2, _ => simp
    rintro e w2 ⟨rfl, hb2⟩
    rw [h3]
    go_wp2
    go_ret
    exact ⟨ret_bool (by simp [ordB, h1, Bool.or_assoc]), Ext.comp (((((Ext.refl w).alloc _).alloc _).comp hb1).alloc _) hb2⟩
end Go.Proofs.Ytjfggepgjpdebaa

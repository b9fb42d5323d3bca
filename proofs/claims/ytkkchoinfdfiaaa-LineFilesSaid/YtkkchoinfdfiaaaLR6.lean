/- Contracts of layer 1's reference: Write, Read. -/
import Derived.Test.YtkkchoinfdfiaaaLR5
import Derived.Test.YtkkchoinfdfiaaaI1
import Derived.Test.YtkkchoinfdfiaaaH22
set_option linter.unusedVariables false
set_option linter.unusedSimpArgs false
namespace Go.Q
open Go.RowKit
/-- the string of bytes -/
def strU (xs : List Int) : ByteArray := ⟨(xs.map fun x => UInt8.ofNat x.toNat).toArray⟩
theorem u8_back {x : Int} (h : 0 ≤ x ∧ x ≤ 255) : ((UInt8.ofNat x.toNat).toNat : Int) = x := by
  rw [UInt8.toNat_ofNat']
  omega
theorem map_inj : ∀ {xs ys : List Int}, (∀ x ∈ xs, 0 ≤ x ∧ x ≤ 255) → (∀ x ∈ ys, 0 ≤ x ∧ x ≤ 255) → (xs.map fun x => UInt8.ofNat x.toNat) = (ys.map fun x => UInt8.ofNat x.toNat) → xs = ys
  | [], [], _, _, _ => rfl
  | [], y :: ys, _, _, h => by simp at h
  | x :: xs, [], _, _, h => by simp at h
  | x :: xs, y :: ys, hx, hy, h => by
    rw [List.map_cons, List.map_cons] at h
    obtain ⟨h1, h2⟩ := List.cons.inj h
    have e1 := u8_back (hx x (List.mem_cons_self ..))
    have e2 := u8_back (hy y (List.mem_cons_self ..))
    rw [h1] at e1
    rw [map_inj (fun z hz => hx z (List.mem_cons_of_mem _ hz)) (fun z hz => hy z (List.mem_cons_of_mem _ hz)) h2]
    congr 1
    omega
theorem strU_inj {xs ys : List Int} (hx : ∀ x ∈ xs, 0 ≤ x ∧ x ≤ 255) (hy : ∀ x ∈ ys, 0 ≤ x ∧ x ≤ 255) (h : strU xs = strU ys) : xs = ys := by
  unfold strU at h
  injection h with h1
  exact map_inj hx hy (by simpa using h1)
end Go.Q
namespace Go.Proofs.Ytkkchoinfdfiaaa
open Go.RowKit Go.Q Go.Shelf Go.Maps

theorem conv_bytes {W : World} {a : Option Addr} {c : Nat} {xs : List Int} (hI : BytesAt W a xs) (hx : ∀ x ∈ xs, 0 ≤ x ∧ x ≤ 255) : (convert 46 9 (.slice a xs.length c)).run Try.prog W = .ok (.string (strU xs)) W := by
  rcases hI with rfl | ⟨b, off, rfl, hb, hc⟩
  · have := run_convert_bytes_string (P := Try.prog) W 46 9 5 a 0 c Try.underlying46 Try.underlying5 Try.underlying9
    rw [show ([] : List Int).length = 0 from rfl, this]
    cases a with
    | none => simp [Conv.bytesToString, go_sem, strU]; rfl
    | some a => simpa [strU] using (run_convert_bytes_back (P := Try.prog) W 46 9 5 a c [] Try.underlying46 Try.underlying5 Try.underlying9 (fun j hj => by simp at hj)).symm.trans (this) |>.symm
  · have := run_convert_bytes_back (P := Try.prog) W 46 9 5 ⟨b, off, none⟩ c (xs.map fun x => UInt8.ofNat x.toNat) Try.underlying46 Try.underlying5 Try.underlying9 (fun j hj => by
      rw [List.length_map] at hj
      rw [Addr.add_lit, hc j hj, List.getElem_map, List.getElem?_eq_getElem hj, u8_back (hx _ (List.getElem_mem hj))]
      rfl)
    rw [List.length_map] at this
    exact this
set_option maxHeartbeats 1000000 in
theorem rWrite_any (l : Ln) (a : Option Addr) (n c : Nat) (ws : List Int) (w : World) (hn : ws.length = n) (hbig : n ≤ 9223372036854775807) (hI : IntsAt w a ws) :
    Calls Try.prog 50 #[.agg #[.int .i64 l.words, .int .i64 l.bits, .int .i64 l.period, .int .i64 l.delay, .int .i64 l.slope, .int .i64 l.window], .slice a n c] w (WriteRes (writeE l ws) w) := by
  have hck := fun W => rcheck_any l W
  cases hok : okL l with
  | false =>
    rw [writeE_line (by rw [checkL_no hok]; decide), checkL_no hok]
    rw [checkL_no hok] at hck
    clear hok hI hn
    go_enter Try.func50, Try.ntmps50
    go_wp2_with fail
    refine (hck _).mono ?_
    rintro e w1 ⟨rfl, E1⟩
    go_wp2
    go_ret2
    exact ⟨none, 0, rfl, ⟨Nat.le_refl _, by omega⟩, .inl rfl, E1.old⟩
  | true =>
    rw [checkL_of hok] at hck
    have htc := fun W (E : Ext w W) => rwords_any l a n c ws W (okL_ok hok) hn hbig (hI.ext E)
    by_cases hw : wordsE l ws = 0
    · rw [writeE_good (checkL_of hok) hw]
      have hwz := wordsE_zero (okL_ok hok) hw
      have hfl := fun W (E : Ext w W) => rfile_any l a n c ws W (okL_ok hok) hn (hI.ext E) (by rw [← hn]; exact hwz.1) hwz.2
      rw [hw] at htc
      clear hok hI hn hw hwz
      go_enter Try.func50, Try.ntmps50
      go_wp2_with fail
      refine (hck _).mono ?_
      rintro e w1 ⟨rfl, E1⟩
      have q0 := box_at (v := .int .i64 l.words) E1 0 rfl
      have q1 := box_at (v := .int .i64 l.bits) E1 1 rfl
      have q2 := box_at (v := .int .i64 l.period) E1 2 rfl
      have q3 := box_at (v := .int .i64 l.delay) E1 3 rfl
      have q4 := box_at (v := .int .i64 l.slope) E1 4 rfl
      have q5 := box_at (v := .int .i64 l.window) E1 5 rfl
      go_wp2_with fail
      refine (htc _ E1.old).mono ?_
      rintro e w2 ⟨rfl, E2⟩
      have q1 := cell_laterA q1 E2
      go_wp2_with fail
      refine (hfl _ (E1.old.comp E2)).mono ?_
      rintro e w3 ⟨v, rfl, hown, E3⟩
      obtain ⟨av, cv, rfl⟩ := own_formU hown
      go_wp2
      go_ret2
      exact ⟨av, cv, rfl, own_cap hown, own_bytes hown, (E1.old.comp E2).comp E3⟩
    · rw [writeE_words (checkL_of hok) hw]
      obtain ⟨y, hy⟩ : ∃ y, wordsE l ws = y := ⟨_, rfl⟩
      rw [hy] at htc hw ⊢
      have hyb : (y == 0) = false := by simpa using hw
      have hyb2 : (y != 0) = true := by simpa using hw
      clear hok hI hn hy hw
      go_enter Try.func50, Try.ntmps50
      go_wp2_with fail
      refine (hck _).mono ?_
      rintro e w1 ⟨rfl, E1⟩
      have q0 := box_at (v := .int .i64 l.words) E1 0 rfl
      have q1 := box_at (v := .int .i64 l.bits) E1 1 rfl
      have q2 := box_at (v := .int .i64 l.period) E1 2 rfl
      have q3 := box_at (v := .int .i64 l.delay) E1 3 rfl
      have q4 := box_at (v := .int .i64 l.slope) E1 4 rfl
      have q5 := box_at (v := .int .i64 l.window) E1 5 rfl
      go_wp2_with fail
      refine (htc _ E1.old).mono ?_
      rintro e w2 ⟨rfl, E2⟩
      go_wp2
      go_ret2
      exact ⟨none, 0, rfl, ⟨Nat.le_refl _, by omega⟩, .inl rfl, E1.old.comp E2⟩
end Go.Proofs.Ytkkchoinfdfiaaa

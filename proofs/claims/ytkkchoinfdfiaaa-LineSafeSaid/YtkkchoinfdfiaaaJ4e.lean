/- The law LineSafe. -/
import Derived.Test.YtkkchoinfdfiaaaJ4b
import Derived.Test.YtkkchoinfdfiaaaJ4c
import Derived.Test.YtkkchoinfdfiaaaJ4d
set_option linter.unusedVariables false
set_option linter.unusedSimpArgs false
namespace Go.Proofs.Ytkkchoinfdfiaaa
open Go.RowKit Go.Q Go.Shelf Go.Maps
theorem safe_law (l : Ln) (a : Option Addr) (n c : Nat) (ws : List Int) (t : Int) (w : World) (hn : ws.length = n) (hbig : n ≤ 9223372036854775807) (hI : IntsAt w a ws) :
    Calls Try.prog 14 #[.agg #[.int .i64 l.words, .int .i64 l.bits, .int .i64 l.period, .int .i64 l.delay, .int .i64 l.slope, .int .i64 l.window], .slice a n c, .int .i64 t] w fun e w' => e = .returned (.bool true) ∧ Ext w w' := by
  cases ho : okL l with
  | false => exact safelaw_bad l a n c t w ho
  | true =>
    cases ht : tempB t with
    | false => exact safelaw_cold l a n c t w ho ht
    | true =>
      by_cases hs : safeK l 1501 = []
      · exact safelaw_none l a n c ws t w hn hbig hI ho ht hs
      · by_cases h1 : t < loK l 1501
        · exact safelaw_low l a n c ws t w hn hbig hI ho ht hs h1
        · by_cases h2 : hiK l 1501 < t
          · exact safelaw_high l a n c ws t w hn hbig hI ho ht hs (by omega) h2
          · exact safelaw_in l a n c ws t w hn hbig hI ho ht hs ((safe_span (okL_ok ho) hs t).1 ⟨by omega, by omega⟩)
end Go.Proofs.Ytkkchoinfdfiaaa

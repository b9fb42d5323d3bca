import Derived.WalkKit
set_option linter.unusedVariables false
set_option linter.unusedSimpArgs false
/- Layer 4 (order) in plain Lean: what the functions compute; no program in sight. -/
namespace Go.Q
/-- an order: what it does, the addresses of its words, and of the next order -/
structure Ord where
  op : Int
  frm : Int
  to : Int
  nxt : Int
/-- the machine between two orders -/
structure St where
  store : List Int
  tape : List Int
  taken : Int
  printed : List Int
  time : Int
  at_ : Int
  done : Int
  why : Int
/-- one of the numbers is not from 0 to hi -/
def outB (hi : Int) (xs : List Int) : Bool := xs.any fun n => decide (n < 0) || decide (hi < n)
def inB (n lo hi : Int) : Bool := decide (lo ≤ n) && decide (n ≤ hi)
def wordB (n : Int) : Bool := inB n 0 16777215
def addrB (n : Int) : Bool := inB n 0 127
theorem outB_one (hi n : Int) : outB hi [n] = !inB n 0 hi := by
  unfold outB inB
  by_cases h0 : 0 ≤ n <;> by_cases h1 : n ≤ hi <;> simp [h0, h1] <;> omega
def written (o : Ord) : Int := ((o.op * 128 + o.frm) * 128 + o.to) * 128 + o.nxt
def decodeQ (w : Int) : Ord := ⟨w / 128 / 128 / 128, w / 128 / 128 % 128, w / 128 % 128, w % 128⟩
def ordB (o : Ord) : Bool := inB o.op 0 7 && addrB o.frm && addrB o.to && addrB o.nxt
def sgn (w : Int) : Int := if 8388608 ≤ w then w - 16777216 else w
def after (t a : Int) : Int := t + 1 + (a - t - 1) % 16
def whenAt (o : Ord) (neg : Bool) : Int := if o.op = 5 ∧ neg = true then o.to else o.nxt
def whenEnd (o : Ord) (t : Int) : Int :=
  if o.op = 5 ∨ o.op = 7 then after t o.frm
  else if o.op = 6 then after t o.to
  else if o.op = 4 then after (after (after t o.frm) o.to + 12) o.to
  else after (after t o.frm) o.to
def whenUntil (o : Ord) (t : Int) (neg : Bool) : Int := after (whenEnd o t) (whenAt o neg)
def prod (a b : Int) : Int := (sgn a * sgn b / 8388608) % 16777216
/-- what When, Encode, Decode, Signed return: the numbers, and the error's code -/
def whenQ (o : Ord) (t : Int) (ng : Bool) : Int × Int × Int :=
  if ordB o = true ∧ inB t 0 1000000000 = true then (if o.op = 0 then (0, 0, 2) else (whenAt o ng, whenUntil o t ng, 0)) else (0, 0, 7)
def encodeQ (o : Ord) : Int × Int := if ordB o = true then (written o, 0) else (0, 7)
def decQ (n : Int) : Ord × Int := if wordB n = true then (decodeQ n, 0) else (⟨0, 0, 0, 0⟩, 7)
def signedQ (n : Int) : Int × Int := if wordB n = true then (sgn n, 0) else (0, 7)
theorem wordB_bd {n : Int} (h : wordB n = true) : 0 ≤ n ∧ n ≤ 16777215 := by simpa [wordB, inB] using h
theorem inB_bd {n lo hi : Int} (h : inB n lo hi = true) : lo ≤ n ∧ n ≤ hi := by simpa [inB] using h
def badW (n : Int) : Bool := !wordB n
end Go.Q

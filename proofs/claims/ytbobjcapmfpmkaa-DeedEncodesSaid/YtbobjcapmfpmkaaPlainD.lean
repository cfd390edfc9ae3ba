/- Plain deeds: which fields a kind has, when a deed is right, its bytes; no program in sight. Conditions: none. -/
import Derived.Test.YtbobjcapmfpmkaaPlainP
import Derived.Test.YtbobjcapmfpmkaaPlainE
set_option linter.unusedVariables false
set_option linter.unusedSimpArgs false
namespace Go.Bl
open Go.RowKit

structure DeedD where
  kind : Int
  acct : Int
  mem : Int
  to : Int
  amt : Int
  ep : Int
  bits : List Int
  what : Int
  par : ParD
  mot : Int
  yes : Bool
def zeroD : DeedD := ⟨0, 0, 0, 0, 0, 0, [], 0, zeroP, 0, false⟩
/-- the numbers are numbers of their types -/
structure DeedOk (d : DeedD) : Prop where
  n : ∀ z ∈ [d.kind, d.acct, d.mem, d.to, d.ep, d.what, d.mot], -9223372036854775808 ≤ z ∧ z ≤ 9223372036854775807
  a : 0 ≤ d.amt ∧ d.amt ≤ 18446744073709551615
  p : ParOk d.par
/-- the fields that its kind has -/
def bareD (d : DeedD) : DeedD :=
  if d.kind = 1 then { zeroD with kind := d.kind, acct := d.acct, to := d.to, amt := d.amt }
  else if d.kind = 2 then { zeroD with kind := d.kind, acct := d.acct, amt := d.amt }
  else if d.kind = 3 then { zeroD with kind := d.kind, acct := d.acct, mem := d.mem, amt := d.amt }
  else if d.kind = 4 then { zeroD with kind := d.kind, acct := d.acct, mem := d.mem }
  else if d.kind = 5 then { zeroD with kind := d.kind, ep := d.ep, bits := d.bits }
  else if d.kind = 7 then { zeroD with kind := d.kind, acct := d.acct, mem := d.mem, mot := d.mot, yes := d.yes }
  else if d.kind = 6 then (if d.what = 1 then { zeroD with kind := d.kind, acct := d.acct, what := d.what, par := d.par } else if d.what = 2 then { zeroD with kind := d.kind, acct := d.acct, what := d.what, to := d.to, amt := d.amt } else { zeroD with kind := d.kind, acct := d.acct, what := d.what })
  else { zeroD with kind := d.kind, acct := d.acct }
def paidD (d : DeedD) : Bool := wi d.kind 1 3 || (decide (d.kind = 6) && decide (d.what = 2))
def sameD (a b : DeedD) : Bool :=
  decide (a.kind = b.kind) && (decide (a.acct = b.acct) && (decide (a.mem = b.mem) && (decide (a.to = b.to) && (decide (a.amt = b.amt) && (decide (a.ep = b.ep) && (decide (a.what = b.what) && (decide (a.par = b.par) && (decide (a.mot = b.mot) && ((a.yes == b.yes) && decide ((a.bits.length : Int) = b.bits.length))))))))))
def rightD (d : DeedD) : Bool :=
  wi d.kind 1 7 && sameD d (bareD d) && (wi d.acct 0 63 && wi d.to 0 63 && wi d.mem 0 127 && wi d.mot 0 31) &&
  ((paidD d == decide (0 < d.amt)) && decide (d.amt ≤ 4611686018427387904) && wi d.ep 0 1073741824 && decide ((d.bits.length : Int) ≤ 32)) &&
  (decide (d.kind ≠ 6) || (wi d.what 1 4 && (decide (d.what ≠ 1) || parR d.par)))
/-- the fields that the document gives a kind -/
def usesB (k w f : Int) : Bool :=
  if k = 1 then decide (f = 1) || decide (f = 3) || decide (f = 4)
  else if k = 2 then decide (f = 1) || decide (f = 4)
  else if k = 3 then decide (f = 1) || decide (f = 2) || decide (f = 4)
  else if k = 4 then decide (f = 1) || decide (f = 2)
  else if k = 5 then decide (f = 5)
  else if k = 6 then decide (f = 1) || decide (f = 6) || (decide (w = 1) && decide (f = 7)) || (decide (w = 2) && (decide (f = 3) || decide (f = 4)))
  else if k = 7 then decide (f = 1) || decide (f = 2) || decide (f = 8)
  else false
end Go.Bl

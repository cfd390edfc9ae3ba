/- Plain reading of deeds: what bytes read as; no program in sight. Conditions: none. -/
import Derived.Test.YtbobjcapmfpmkaaPG
import Derived.Test.YtbobjcapmfpmkaaPJ
set_option linter.unusedVariables false
set_option linter.unusedSimpArgs false
namespace Go.X
open Go.RowKit Go.Bl

/-- an error that is kept if it isn't so and none came ahead -/
def must (ok : Bool) (n e t : Int) : Int := if ok = false ∧ e = 0 ∧ t = 0 then n else e
/-- a motion: the deed, the reader's state, the error -/
def rdMove (xs : List Int) (d : DeedD) (s : Nat × Int) (e : Int) : DeedD × (Nat × Int) × Int :=
  let w := rNum xs s 255
  let d1 := { d with what := w.1 }
  let e1 := must (wi w.1 1 4) 80 e w.2.2
  if e1 = 0 ∧ w.2.2 = 0 then
    if w.1 = 1 then ({ d1 with par := (pRead xs w.2).1 }, (rPar xs w.2).2, must (decide ((pRead xs w.2).2 = 0)) 70 e1 (rPar xs w.2).2.2)
    else if w.1 = 2 then ({ d1 with to := (rNum xs w.2 63).1 }, (rNum xs w.2 63).2, e1)
    else (d1, w.2, e1)
  else (d1, w.2, e1)
/-- what a kind has, but for the amount -/
def rdBody (xs : List Int) (d : DeedD) (s : Nat × Int) (e : Int) : DeedD × (Nat × Int) × Int :=
  if d.kind = 1 then ({ d with to := (rNum xs s 63).1 }, (rNum xs s 63).2, e)
  else if d.kind = 3 ∨ d.kind = 4 then ({ d with mem := (rNum xs s 127).1 }, (rNum xs s 127).2, e)
  else if d.kind = 6 then rdMove xs d s e
  else if d.kind = 7 then
    let m := rNum xs s 127
    let t := rNum xs m.2 31
    let y := rNum xs t.2 1
    ({ d with mem := m.1, mot := t.1, yes := decide (y.1 = 1) }, y.2, e)
  else (d, s, e)
def rdAmt (xs : List Int) (q : DeedD × (Nat × Int) × Int) : DeedD × (Nat × Int) × Int :=
  if q.2.2 = 0 ∧ q.2.1.2 = 0 ∧ paidD q.1 = true then
    ({ q.1 with amt := (rNum xs q.2.1 4611686018427387904).1 }, (rNum xs q.2.1 4611686018427387904).2, must (decide (0 < (rNum xs q.2.1 4611686018427387904).1)) 80 q.2.2 (rNum xs q.2.1 4611686018427387904).2.2)
  else q
def rdFields (xs : List Int) (d : DeedD) (s : Nat × Int) (e : Int) : DeedD × (Nat × Int) × Int :=
  if d.kind = 5 then ({ d with ep := (rNum xs s 1073741824).1, bits := (rRaw xs (rNum xs s 1073741824).2 32).1 }, (rRaw xs (rNum xs s 1073741824).2 32).2, e)
  else rdAmt xs (rdBody xs { d with acct := (rNum xs s 63).1 } (rNum xs s 63).2 e)
/-- what is read, whatever fails: the deed, the reader's state, the error -/
def rdAll (xs : List Int) (s : Nat × Int) : DeedD × (Nat × Int) × Int :=
  let k := rNum xs s 255
  let e := must (wi k.1 1 7) 80 0 k.2.2
  if e = 0 ∧ k.2.2 = 0 then rdFields xs { zeroD with kind := k.1 } k.2 e else ({ zeroD with kind := k.1 }, k.2, e)
/-- what Read hands back: the deed, an error's number; the state -/
def rdDeed (xs : List Int) (s : Nat × Int) : DeedD × Int × (Nat × Int) :=
  let q := rdAll xs s
  if q.2.1.2 ≠ 0 then (zeroD, q.2.1.2, q.2.1) else if q.2.2 ≠ 0 then (zeroD, q.2.2, q.2.1) else (q.1, 0, q.2.1)
end Go.X

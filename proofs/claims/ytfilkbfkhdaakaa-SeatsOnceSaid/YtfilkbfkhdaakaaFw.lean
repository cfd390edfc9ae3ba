/- How arguments of a law read in the world in which it is called: numbers, bytes, certificates. Conditions: none. -/
import Derived.Test.YtfilkbfkhdaakaaFr
import Derived.Test.YtfilkbfkhdaakaaWF
set_option linter.unusedVariables false
set_option linter.unusedSimpArgs false
namespace Go.X
open Go.RowKit Go.Bl Go.ChangeShapes Go.WideShapes Go.ChangeAt Go.Joins Go.Proofs
theorem own : ownKnob Try.prog.godebug = none := by kernel_rfl
theorem laidOut : laidOutB Try.prog = true := by kernel_rfl
section
variable {H : Type} {enc : TypeId × Value → H} {W : World} {base b0 : Nat} {spare : Nat → Bool} {held : Bool} {r : Reach} {v : Value} {d : DataW H} {p : List MemPlace}
set_option maxRecDepth 100000 in
theorem int_world (hv : Value.okWide Try.prog W r b0 3 v) (h : DataW.Trod enc Try.prog W base spare held 3 v d p) : ∃ n, v = .int .i64 n ∧ -9223372036854775808 ≤ n ∧ n ≤ 9223372036854775807 := by
  obtain ⟨n, hn, _, _, w⟩ := open_int Try.underlying3 hv h
  have : IntKind.i64.min ≤ n ∧ n ≤ IntKind.i64.max := by simpa [Lit.wf] using w
  rw [show IntKind.i64.min = -9223372036854775808 by decide, show IntKind.i64.max = 9223372036854775807 by decide] at this
  exact ⟨n, hn, this⟩
set_option maxRecDepth 100000 in
theorem u64_world (hv : Value.okWide Try.prog W r b0 22 v) (h : DataW.Trod enc Try.prog W base spare held 22 v d p) : ∃ n, v = .int .u64 n ∧ 0 ≤ n ∧ n ≤ 18446744073709551615 := by
  obtain ⟨n, hn, _, _, w⟩ := open_int Try.underlying22 hv h
  have : IntKind.u64.min ≤ n ∧ n ≤ IntKind.u64.max := by simpa [Lit.wf] using w
  rw [show IntKind.u64.min = 0 by decide, show IntKind.u64.max = 18446744073709551615 by decide] at this
  exact ⟨n, hn, this⟩
set_option maxRecDepth 100000 in
theorem bytes_world (hv : Value.okWide Try.prog W r b0 42 v) (h : DataW.Trod enc Try.prog W base spare held 42 v d p) : ∃ zs, Ints (wh W) .u8 v zs := by
  obtain ⟨a, l, c, rfl⟩ := okWide_slice Try.underlying42 hv
  obtain ⟨f, hf⟩ := h
  exact ints_world (k := .u8) Try.underlying42 Try.underlying5 (by kernel_rfl) hf
end
end Go.X

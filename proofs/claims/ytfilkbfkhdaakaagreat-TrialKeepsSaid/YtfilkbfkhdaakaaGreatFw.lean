/- How arguments of a law read in the world in which it is called: numbers, bytes, certificates. Conditions: none. -/
import Derived.Test.YtfilkbfkhdaakaaGreatFr
import Derived.Test.YtfilkbfkhdaakaaGreatWF
set_option linter.unusedVariables false
set_option linter.unusedSimpArgs false
namespace Go.X
open Go.RowKit Go.Bl Go.ChangeShapes Go.WideShapes Go.ChangeAt Go.Joins Go.Proofs
theorem own : ownKnob Tryz.prog.godebug = none := by kernel_rfl
theorem laidOut : laidOutB Tryz.prog = true := by kernel_rfl
section
variable {H : Type} {enc : TypeId × Value → H} {W : World} {base b0 : Nat} {spare : Nat → Bool} {held : Bool} {r : Reach} {v : Value} {d : DataW H} {p : List MemPlace}
set_option maxRecDepth 100000 in
theorem int_world (hv : Value.okWide Tryz.prog W r b0 3 v) (h : DataW.Trod enc Tryz.prog W base spare held 3 v d p) : ∃ n, v = .int .i64 n ∧ -9223372036854775808 ≤ n ∧ n ≤ 9223372036854775807 := by
  obtain ⟨n, hn, _, _, w⟩ := open_int Tryz.underlying3 hv h
  have : IntKind.i64.min ≤ n ∧ n ≤ IntKind.i64.max := by simpa [Lit.wf] using w
  rw [show IntKind.i64.min = -9223372036854775808 by decide, show IntKind.i64.max = 9223372036854775807 by decide] at this
  exact ⟨n, hn, this⟩
set_option maxRecDepth 100000 in
theorem u64_world (hv : Value.okWide Tryz.prog W r b0 22 v) (h : DataW.Trod enc Tryz.prog W base spare held 22 v d p) : ∃ n, v = .int .u64 n ∧ 0 ≤ n ∧ n ≤ 18446744073709551615 := by
  obtain ⟨n, hn, _, _, w⟩ := open_int Tryz.underlying22 hv h
  have : IntKind.u64.min ≤ n ∧ n ≤ IntKind.u64.max := by simpa [Lit.wf] using w
  rw [show IntKind.u64.min = 0 by decide, show IntKind.u64.max = 18446744073709551615 by decide] at this
  exact ⟨n, hn, this⟩
set_option maxRecDepth 100000 in
theorem bytes_world (hv : Value.okWide Tryz.prog W r b0 31 v) (h : DataW.Trod enc Tryz.prog W base spare held 31 v d p) : ∃ zs, Ints (wh W) .u8 v zs := by
  obtain ⟨a, l, c, rfl⟩ := okWide_slice Tryz.underlying31 hv
  obtain ⟨f, hf⟩ := h
  exact ints_world (k := .u8) Tryz.underlying31 Tryz.underlying5 (by kernel_rfl) hf
set_option maxRecDepth 100000 in
theorem cert_world (hv : Value.okWide Tryz.prog W r b0 36 v) (h : DataW.Trod enc Tryz.prog W base spare held 36 v d p) : ∃ c, IsCert (wh W) v c := by
  obtain ⟨v0, v1, v2, v3, y0, y1, y2, y3, n, rfl, rfl, rfl, h0, h1, h2, h3⟩ := open_agg4 Tryz.underlying36 (by kernel_rfl) (by kernel_rfl) hv h
  obtain ⟨a, ha, -, wa⟩ := DataW.trod_int Tryz.underlying3 h0
  obtain ⟨b, hb, -, wb⟩ := DataW.trod_int Tryz.underlying3 h1
  injection ha with ha
  injection hb with hb
  subst ha
  subst hb
  obtain ⟨st, hs⟩ := ints_world (k := .u64) Tryz.underlying25 Tryz.underlying22 (by kernel_rfl) h2
  obtain ⟨bs, hbs⟩ := ints_world (k := .u8) Tryz.underlying31 Tryz.underlying5 (by kernel_rfl) h3
  have ra : IntKind.i64.min ≤ a ∧ a ≤ IntKind.i64.max := by simpa [Lit.wf] using wa
  have rb : IntKind.i64.min ≤ b ∧ b ≤ IntKind.i64.max := by simpa [Lit.wf] using wb
  rw [show IntKind.i64.min = -9223372036854775808 by decide, show IntKind.i64.max = 9223372036854775807 by decide] at ra rb
  exact ⟨⟨a, b, st, bs⟩, _, _, rfl, hs, hbs, ra.1, ra.2, rb.1, rb.2⟩
end
end Go.X

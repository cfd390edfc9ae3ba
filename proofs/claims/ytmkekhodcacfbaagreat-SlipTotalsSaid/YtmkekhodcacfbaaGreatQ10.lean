/- Lemmas and contracts for a statement about the given program. Conditions: as each says. -/
import Derived.Test.YtmkekhodcacfbaaGreatQ08
import Derived.Test.YtmkekhodcacfbaaGreatQ09
set_option linter.unusedVariables false
set_option linter.unusedSimpArgs false
set_option maxHeartbeats 12800000
set_option maxRecDepth 20000
namespace Go.X
open Go.RowKit Go.Bl Go.ChangeShapes Go.WideShapes Go.ChangeAt Go.Joins Go.Proofs
section
variable {P : Program} {H : Type} {enc : TypeId × Value → H} {W : World} {base b0 : Nat} {spare : Nat → Bool} {held : Bool} {r : Reach} {v : Value} {d : DataW H} {p : List MemPlace}
theorem icell {n t off : Nat} {k : IntKind} {cs : List Value} {y : Option (DataW H × List MemPlace)} (ht : P.underlying t = some (.int k)) (hc : P.cellsOf t = 1) (h : DataW.trod enc P W base spare held n t ((cs.drop off).take (P.cellsOf t)) = y) (hy : y.isSome = true) :
  ∃ z, cs[off]? = some (.int k z) ∧ k.min ≤ z ∧ z ≤ k.max := by
 obtain ⟨x, rfl⟩ := Option.isSome_iff_exists.1 hy
 obtain ⟨z, hz, _, w⟩ := DataW.trod_int ht h
 rw [hc] at hz
 have hr : k.min ≤ z ∧ z ≤ k.max := by simpa [Lit.wf] using w
 refine ⟨z, ?_, hr⟩
 have := congrArg (fun l => l[0]?) hz
 simpa using this
theorem bcell {n t off : Nat} {cs : List Value} {y : Option (DataW H × List MemPlace)} (ht : P.underlying t = some .bool) (hc : P.cellsOf t = 1) (h : DataW.trod enc P W base spare held n t ((cs.drop off).take (P.cellsOf t)) = y) (hy : y.isSome = true) :
  ∃ z : Bool, cs[off]? = some (.bool z) := by
 obtain ⟨x, rfl⟩ := Option.isSome_iff_exists.1 hy
 obtain ⟨z, hz, _⟩ := DataW.trod_bool ht h
 rw [hc] at hz
 refine ⟨z, ?_⟩
 have := congrArg (fun l => l[0]?) hz
 simpa using this
theorem recs_world {α : Type} {f : α → List Value} {w : Nat} (z : α) {t e n : Nat} {Q : α → Prop} {x : DataW H × List MemPlace} (ht : P.underlying t = some (.slice e)) (hc : P.cellsOf e = w) (hw : ∀ a, (f a).length = w) (h0w : 0 < w)
  (one : ∀ (n : Nat) (cs : List Value) (x : DataW H × List MemPlace), DataW.trod enc P W base spare held n e cs = some x → ∃ a, cs = f a ∧ Q a) (h : DataW.trod enc P W base spare held n t [v] = some x) : ∃ l, Recs f w (wh W) v l ∧ ∀ a ∈ l, Q a := by
 rcases DataW.trod_slice ht h with ⟨h0, _⟩ | ⟨a, len, cap, elems, rest, n', _, hcs, _, hb, hl, hm, hlen, hel, _, _⟩
 ·injection h0 with h0
  rw [h0]
  exact ⟨[], Recs.nil hw _, fun a ha => by cases ha⟩
 injection hcs with hcs
 rw [hcs]
 rw [hc] at hel
 have one' : ∀ i, i < len → ∃ q : α, (∀ m, m < w → W.cell? (a.add (i * w + m)) = (f q)[m]?) ∧ Q q := by
  intro i hi
  have := hel i hi
  rw [List.getElem?_eq_getElem (by omega)] at this
  obtain ⟨cs, h1, h2⟩ := Option.bind_eq_some_iff.1 this
  obtain ⟨q, rfl, hq⟩ := one _ _ _ h2
  refine ⟨q, fun m hm => ?_, hq⟩
  have := (World.cells?_some h1).2.2 m hm
  rw [add_add] at this
  exact this
 obtain ⟨g, hg⟩ : ∃ g : Nat → α, ∀ i, i < len → (∀ m, m < w → W.cell? (a.add (i * w + m)) = (f (g i))[m]?) ∧ Q (g i) := by
  refine ⟨fun i => if hi : i < len then (one' i hi).choose else z, fun i hi => ?_⟩
  simp only [hi, dif_pos]
  exact (one' i hi).choose_spec
 have hm' : cap ≤ 9223372036854775807 := by simpa [maxLen] using hm
 have hlr : ((List.range len).map g).length = len := by simp
 refine ⟨(List.range len).map g, ⟨hw, ⟨by rw [flatG_len hw], some a, cap, by rw [hlr], by omega, hm', by omega, (fun h => by cases h), fun j c hj => ?_⟩⟩, fun q hq => ?_⟩
 ·have hjl : j < ((List.range len).map g).length * w := by
   have := (List.getElem?_eq_some_iff.1 hj).1
   rwa [flatG_len hw] at this
  rw [hlr] at hjl
  have hd : j = j / w * w + j % w := by have := Nat.div_add_mod j w; rw [Nat.mul_comm] at this; omega
  have hi : j / w < len := (Nat.div_lt_iff_lt_mul h0w).2 hjl
  have hmw : j % w < w := Nat.mod_lt _ h0w
  have h2 := flatG_get hw ((List.range len).map g) (j / w) (j % w) hmw
  rw [← hd] at h2
  have h3 := (hg (j / w) hi).1 (j % w) hmw
  rw [← hd] at h3
  refine elem_world (h3.trans ?_)
  have h4 : ((List.range len).map g)[j / w]? = some (g (j / w)) := by simp [hi]
  rw [h4, Option.bind_some] at h2
  rw [← h2]
  exact hj
 ·obtain ⟨i, hi, rfl⟩ := List.mem_map.1 hq
  exact (hg i (List.mem_range.1 hi)).2
end
section
variable {H : Type} {enc : TypeId × Value → H} {W : World} {base b0 : Nat} {spare : Nat → Bool} {held : Bool} {r : Reach} {v : Value} {d : DataW H} {p : List MemPlace}
theorem u64min : IntKind.u64.min = 0 := by decide
theorem u64max : IntKind.u64.max = 18446744073709551615 := by decide
end
end Go.X

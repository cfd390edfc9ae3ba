/- What a slice or a struct reads as in known cells. Conditions: none (lemmas of no program). -/
import Derived.Test.YtbobjcapmfpmkaaXV
import Derived.Test.YtbobjcapmfpmkaaXR
import Derived.Lib.Hide
import Derived.Test.YtbobjcapmfpmkaaPlainA
set_option linter.unusedVariables false
set_option linter.unusedSimpArgs false
namespace Go.X
open Go.RowKit Go.Bl

def PH.le (h h' : PH) : Prop := ∀ b o v, h b o = some v → h' b o = some v
theorem PH.le_refl (h : PH) : PH.le h h := fun _ _ _ hv => hv
theorem PH.le_trans {a b c : PH} (x : PH.le a b) (y : PH.le b c) : PH.le a c := fun p o v hv => y p o v (x p o v hv)
theorem PH.le.trans {a b c : PH} (x : PH.le a b) (y : PH.le b c) : PH.le a c := PH.le_trans x y
theorem elemCell_up {h h' : PH} (le : PH.le h h') {a : Option Addr} {j : Nat} {v : Value} (hv : elemCell h a j = some v) : elemCell h' a j = some v := by
  cases a with
  | none => simp [elemCell] at hv
  | some q =>
    simp only [elemCell] at hv ⊢
    split at hv
    · rename_i hs; rw [if_pos hs]; exact le _ _ _ hv
    · cases hv
/-- slice value v of n elements, sz cells each, reads the cells cs -/
def Sl (h : PH) (v : Value) (n sz : Nat) (cs : List Value) : Prop :=
  cs.length = n * sz ∧ ∃ a cap, v = .slice a n cap ∧ n ≤ cap ∧ cap ≤ 9223372036854775807 ∧ n ≤ 9223372036854775807 ∧ (a = none → cap = 0) ∧ ∀ (j : Nat) c, cs[j]? = some c → elemCell h a j = some c
def Ints (h : PH) (k : IntKind) (v : Value) (zs : List Int) : Prop := Sl h v zs.length 1 (zs.map (Value.int k)) ∧ ∀ z ∈ zs, k.min ≤ z ∧ z ≤ k.max
theorem Sl.up {h h' : PH} (le : PH.le h h') {v : Value} {n sz : Nat} {cs : List Value} (hs : Sl h v n sz cs) : Sl h' v n sz cs := by
  obtain ⟨h1, a, cap, h2, h3, h4, h4', h5, h6⟩ := hs
  exact ⟨h1, a, cap, h2, h3, h4, h4', h5, fun j c hj => elemCell_up le (h6 j c hj)⟩
theorem Ints.up {h h' : PH} (le : PH.le h h') {k : IntKind} {v : Value} {zs : List Int} (hs : Ints h k v zs) : Ints h' k v zs := ⟨hs.1.up le, hs.2⟩
theorem Ints.open {h : PH} {k : IntKind} {v : Value} {zs : List Int} (hs : Ints h k v zs) :
    ∃ a cap, v = .slice a zs.length cap ∧ zs.length ≤ cap ∧ zs.length ≤ 9223372036854775807 ∧ (a = none → cap = 0) ∧ ∀ j, j < zs.length → elemCell h a j = some (.int k (at0 zs j)) := by
  obtain ⟨⟨_, a, cap, h2, h3, h4, h4', h5, h6⟩, _⟩ := hs
  exact ⟨a, cap, h2, h3, h4', h5, fun j hj => h6 j _ (by simp [at0, List.getD, hj])⟩
theorem Ints.range {h : PH} {k : IntKind} {v : Value} {zs : List Int} (hs : Ints h k v zs) (i : Nat) (hi : i < zs.length) : k.min ≤ at0 zs i ∧ at0 zs i ≤ k.max := hs.2 _ (by simp [at0, List.getD, hi])
theorem Ints.byte {h : PH} {v : Value} {zs : List Int} (hs : Ints h .u8 v zs) (i : Nat) : 0 ≤ at0 zs i ∧ at0 zs i ≤ 255 := by
  by_cases hi : i < zs.length
  · have := hs.range i hi; rwa [show IntKind.u8.min = 0 by decide, show IntKind.u8.max = 255 by decide] at this
  · simp [at0_ge (Nat.le_of_not_lt hi)]
theorem Ints.word {h : PH} {v : Value} {zs : List Int} (hs : Ints h .u64 v zs) (i : Nat) : 0 ≤ at0 zs i ∧ at0 zs i ≤ 18446744073709551615 := by
  by_cases hi : i < zs.length
  · have := hs.range i hi; rwa [show IntKind.u64.min = 0 by decide, show IntKind.u64.max = 18446744073709551615 by decide] at this
  · simp [at0_ge (Nat.le_of_not_lt hi)]
theorem Ints.num {h : PH} {v : Value} {zs : List Int} (hs : Ints h .i64 v zs) (i : Nat) : -9223372036854775808 ≤ at0 zs i ∧ at0 zs i ≤ 9223372036854775807 := by
  by_cases hi : i < zs.length
  · have := hs.range i hi; rwa [show IntKind.i64.min = -9223372036854775808 by decide, show IntKind.i64.max = 9223372036854775807 by decide] at this
  · simp [at0_ge (Nat.le_of_not_lt hi)]
end Go.X

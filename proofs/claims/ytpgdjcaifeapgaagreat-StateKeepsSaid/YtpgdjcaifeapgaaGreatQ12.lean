/- Lemmas and contracts for a statement about the given program. Conditions: as each says. -/
import Derived.Test.YtpgdjcaifeapgaaGreatQ04
import Derived.Test.YtpgdjcaifeapgaaGreatQ06
set_option linter.unusedVariables false
set_option linter.unusedSimpArgs false
set_option maxHeartbeats 12800000
set_option maxRecDepth 20000
namespace Go.X
open Go.RowKit Go.Proofs Go.Bl
variable {L : Own} {h : PH} {K : PK}
def pv (ds : List Int) : Nat → Int
 | 0 => 0
 | k + 1 => pv ds k + at0 ds k * 10 ^ k
def Dg (ds : List Int) : Prop := ∀ j, 0 ≤ at0 ds j ∧ at0 ds j ≤ 9
def vl (ds : List Int) : Int := pv ds ds.length
theorem p10 (k : Nat) : (0 : Int) < 10 ^ k := Int.pow_pos (by decide)
theorem at0_set (ds : List Int) (j : Nat) (s : Int) (i : Nat) (hj : j < ds.length) : at0 (ds.set j s) i = if i = j then s else at0 ds i := by
 simp only [at0, List.getD_eq_getElem?_getD, List.getElem?_set]
 by_cases e : i = j
 ·subst e; simp [hj]
 ·simp [e, Ne.symm e]
theorem Dg.set {ds : List Int} (hd : Dg ds) (j : Nat) (s : Int) (hj : j < ds.length) (h0 : 0 ≤ s) (h1 : s ≤ 9) : Dg (ds.set j s) := by
 intro i
 rw [at0_set ds j s i hj]
 split
 ·exact ⟨h0, h1⟩
 ·exact hd i
theorem at0_append (ds : List Int) (s : Int) (i : Nat) : at0 (ds ++ [s]) i = if i < ds.length then at0 ds i else if i = ds.length then s else 0 := by
 simp only [at0, List.getD_eq_getElem?_getD]
 by_cases e : i < ds.length
 ·simp [e, List.getElem?_append_left e]
 ·rw [if_neg e, List.getElem?_append_right (by omega)]
  by_cases e2 : i = ds.length
  ·subst e2; simp
  ·rw [if_neg e2, List.getElem?_eq_none (by simp; omega)]; rfl
theorem Dg.append {ds : List Int} (hd : Dg ds) {s : Int} (h0 : 0 ≤ s) (h1 : s ≤ 9) : Dg (ds ++ [s]) := by
 intro i
 rw [at0_append]
 have := hd i
 split
 ·exact this
 ·split
  ·exact ⟨h0, h1⟩
  ·omega
def Nt (h : PH) (v : Value) (n : Int) (m : Nat) : Prop := ∃ s ds, v = .agg #[s] ∧ Ints h .i64 s ds ∧ Dg ds ∧ vl ds = n ∧ ds.length ≤ m
theorem Nt.up {h h' : PH} (le : PH.le h h') {v : Value} {n : Int} {m : Nat} (hs : Nt h v n m) : Nt h' v n m := by
 obtain ⟨s, ds, h1, h2, h3⟩ := hs
 exact ⟨s, ds, h1, h2.up le, h3⟩
theorem at0_take (ds : List Int) (k j : Nat) : at0 (ds.take k) j = if j < k then at0 ds j else 0 := by
 simp only [at0, List.getD_eq_getElem?_getD, List.getElem?_take]
 split <;> rfl
end Go.X

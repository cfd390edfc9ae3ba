/- Lemmas and contracts for a statement about the given program. Conditions: as each says. -/
import Derived.Test.YtpgdjcaifeapgaaGreatQ40
set_option linter.unusedVariables false
set_option linter.unusedSimpArgs false
set_option maxHeartbeats 12800000
set_option maxRecDepth 20000
namespace Go.X
open Go.RowKit Go.Proofs Go.Bl
variable {L : Own} {h : PH} {K : PK}
theorem Sl.drop {h : PH} {a : Option Addr} {n c sz : Nat} {cs : List Value} (hs : Sl h (.slice a n c) n sz cs) (i : Nat) (hi : i ≤ n) : Sl h (.slice (cutA a c i sz) (n - i) (c - i)) (n - i) sz (cs.drop (i * sz)) := by
 obtain ⟨h1, a', c', h2, h3, h4, h5, h6, h7⟩ := hs
 injection h2 with e1 e2 e3
 subst e1; subst e3
 refine ⟨by rw [List.length_drop, h1, Nat.sub_mul], cutA a c i sz, c - i, rfl, by omega, by omega, by omega, fun hn => ?_, fun m v hm => ?_⟩
 ·unfold cutA at hn
  split at hn
  ·omega
  ·cases a with
   | none => have := h6 rfl; omega
   | some q => simp at hn
 ·rw [List.getElem?_drop] at hm
  have hlt := (List.getElem?_eq_some_iff.1 hm).1
  have hne : ¬ c = i := fun e => by
   have : n = i := by omega
   subst this
   omega
  have := h7 (i * sz + m) v hm
  unfold cutA
  rw [if_neg hne]
  cases a with
  | none => simp [elemCell] at this
  | some q =>
   simp only [elemCell, Option.map_some, add_add'] at this ⊢
   exact this
end Go.X

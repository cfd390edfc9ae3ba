/- Part of the proof of a statement about the given program: lemmas and contracts. Conditions: as each says. -/
import Derived.Test.YtkmojeioedjfkaaGreatQ17
/- Contracts for lists of deeds: few, Plain, Same of like lists. Conditions: the values read as lists of deeds. -/
set_option linter.unusedVariables false
set_option linter.unusedSimpArgs false
namespace Go.X
open Go.RowKit Go.Proofs Go.Bl
variable {L : Own} {h : PH} {K : PK}
theorem mem_gq {l : List QD} {k : Nat} (hk : k < l.length) : (gq l k).2 ∈ dl l := by rw [gq_lt hk]; exact List.mem_map_of_mem (List.getElem_mem hk)
theorem of_gq {l : List QD} {p : DeedD → Prop} (hp : ∀ j, j < l.length → p (gq l j).2) : ∀ d ∈ dl l, p d := by
  intro d hd
  obtain ⟨q, hq, rfl⟩ := List.mem_map.1 hd
  obtain ⟨i, hi, rfl⟩ := List.getElem_of_mem hq
  have := hp i hi
  rwa [gq_lt hi] at this
theorem dl_gq {l : List QD} {k : Nat} (hk : k < l.length) : (dl l)[k]? = some (gq l k).2 := by rw [gq_lt hk]; simp [dl, hk]
end Go.X

/- Lemmas and contracts for a statement about the given program. Conditions: as each says. -/
import Derived.Test.YtkmojeioedjfkaaGreatQ15
import Derived.Test.YtkmojeioedjfkaaGreatQ19
set_option linter.unusedVariables false
set_option linter.unusedSimpArgs false
set_option maxHeartbeats 12800000
set_option maxRecDepth 20000
namespace Go.X
open Go.RowKit Go.Bl
theorem oent_front (e sz : Nat) (o : Option (Nat × Nat)) (xs : List Value) (A L : Own) : (A ++ oent e sz o xs L).Perm (oent e sz o xs (A ++ L)) := by
 cases o with
 | none => exact List.Perm.refl _
 | some p => exact List.perm_middle
theorem Drop.sub {L L0 : Own} {h : PH} (hs : L0.Sublist L) : Drop L h L0 h := fun W hg =>
 ⟨⟨hg.sub, fun e he => hg.own e (hs.subset he), hg.nodup.sublist (hs.map _), fun e he => hg.apart e (hs.subset he)⟩, fun e he => List.mem_map_of_mem (hs.subset he)⟩
theorem apart_sub {b : Nat} {L0 L : Own} (hs : L0.Sublist L) : Apart b L → Apart b L0 := by
 induction hs with
 | slnil => exact id
 | cons a _ ih => exact fun h => ih h.2
 | cons_cons a _ ih => exact fun h => ⟨h.1, ih h.2⟩
theorem apO_sub {o : Option (Nat × Nat)} {L0 L : Own} {h : PH} (hs : L0.Sublist L) (ha : apO o L h) : apO o L0 h := by
 cases o with
 | none => trivial
 | some p => exact ⟨apart_sub hs ha.1, ha.2⟩
theorem sub2 (a b x y : Blk) (M : Own) : [x, y].Sublist (a :: b :: x :: y :: M) := .cons _ (.cons _ (.cons_cons _ (.cons_cons _ (List.nil_sublist _))))
theorem memC_oneJ (m : MemD) : ∀ u ∈ memC m, u.oneCell' = true := fun u hu => by
 simp only [memC, List.mem_cons, List.not_mem_nil, or_false] at hu
 rcases hu with rfl | rfl | rfl | rfl | rfl | rfl <;> rfl
theorem depC_oneJ (m : DepD) : ∀ u ∈ depC m, u.oneCell' = true := fun u hu => by
 simp only [depC, List.mem_cons, List.not_mem_nil, or_false] at hu
 rcases hu with rfl | rfl | rfl | rfl <;> rfl
theorem dueC_oneJ (m : DueD) : ∀ u ∈ dueC m, u.oneCell' = true := fun u hu => by
 simp only [dueC, List.mem_cons, List.not_mem_nil, or_false] at hu
 rcases hu with rfl | rfl | rfl <;> rfl
end Go.X

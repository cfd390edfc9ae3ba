/- Lemmas and contracts for a statement about the given program. Conditions: as each says. -/
import Derived.Laws.BitsAllLaws
import Derived.Test.YtpgdjcaifeapgaaGreatQ22
import Derived.Test.YtpgdjcaifeapgaaGreatQ24
set_option linter.unusedVariables false
set_option linter.unusedSimpArgs false
set_option maxHeartbeats 12800000
set_option maxRecDepth 20000
namespace Go.X
open Go.RowKit Go.Proofs Go.Bl
variable {L : Own} {h : PH} {K : PK}
@[go_sem ↓] theorem func_one (f : Fn) (a b : Array Value) : (Value.func f a b).oneCell' = true := rfl
theorem Dg.cons {d : Int} {rs : List Int} (h0 : 0 ≤ d ∧ d ≤ 9) (hr : Dg rs) : Dg (d :: rs)
 | 0 => h0
 | j + 1 => hr j
theorem part4_le {t w x : Int} (ht : 0 ≤ t) (hx : 0 ≤ x) (hxw : x ≤ w) : 0 ≤ part4 t w x ∧ part4 t w x ≤ t := by
 unfold part4
 split
 ·rename_i c
  refine ⟨Int.ediv_nonneg (Int.mul_nonneg ht hx) (by omega), ?_⟩
  have h1 : t * x ≤ t * w := Int.mul_le_mul_of_nonneg_left hxw ht
  have h2 : t * x / w ≤ t * w / w := Int.ediv_le_ediv c h1
  rwa [Int.mul_ediv_cancel _ (by omega)] at h2
 ·omega
end Go.X

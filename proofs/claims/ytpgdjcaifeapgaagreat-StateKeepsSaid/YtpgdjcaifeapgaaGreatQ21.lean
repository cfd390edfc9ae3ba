/- Lemmas and contracts for a statement about the given program. Conditions: as each says. -/
import Derived.Shelf.Spec.BitsCarry
import Derived.Test.YtpgdjcaifeapgaaGreatQ11
import Derived.Test.YtpgdjcaifeapgaaGreatQ20
set_option linter.unusedVariables false
set_option linter.unusedSimpArgs false
set_option maxHeartbeats 12800000
set_option maxRecDepth 20000
namespace Go.X
open Go.RowKit Go.Proofs Go.Bl
variable {L : Own} {h : PH} {K : PK}
theorem sub64_any (x y : Nat) (hk : K (.tuple #[.int .u64 (((x + 18446744073709551616 - y) % 18446744073709551616 : Nat) : Int), .int .u64 ((if x < y then 1 else 0 : Nat) : Int)]) L h) : Spec Tryz.prog 268 [.int .u64 x, .int .u64 y, .int .u64 0] L h K :=
 Spec.extern (fun W => by
  show (callFunc 268 #[.int .u64 x, .int .u64 y, .int .u64 ((0 : Nat) : Int)]).run Tryz.prog W = _
  rw [run_callFunc_extern Tryz.func268 (by kernel_rfl) (by kernel_rfl) (by kernel_rfl) (e := sub64Entry) (by kernel_rfl), run_sub64 x y 0 (by decide)]
  rfl) hk
theorem msub_any (x y : Int) (hx : 0 ≤ x ∧ x ≤ 18446744073709551615) (hy : 0 ≤ y ∧ y ≤ 18446744073709551615) (hk : K (if y ≤ x then .tuple #[.int .u64 (x - y), .int .i64 0] else .tuple #[.int .u64 0, .int .i64 11]) L h) : Spec Tryz.prog 220 [.int .u64 x, .int .u64 y] L h K := by
 obtain ⟨m, rfl⟩ := Int.eq_ofNat_of_zero_le hx.1
 obtain ⟨n, rfl⟩ := Int.eq_ofNat_of_zero_le hy.1
 refine x_enter Tryz.func220 rfl (rs := [_, _]) rfl rfl mixed (by kernel_rfl) rfl rfl ?_
 simp -dsimp -implicitDefEqProofs (disch := first|with_reducible assumption|omega) [go_sem]
 refine sub64_any m n ?_
 by_cases c : (n : Int) ≤ m
 ·rw [if_pos c] at hk
  have e1 : (((m + 18446744073709551616 - n) % 18446744073709551616 : Nat) : Int) = m - n := by omega
  rw [e1, if_neg (by omega)]
  simp -dsimp -implicitDefEqProofs (disch := first|with_reducible assumption|omega) [go_sem]
  exact fin_here hk
 ·rw [if_neg c] at hk
  rw [if_pos (by omega)]
  simp -dsimp -implicitDefEqProofs (disch := first|with_reducible assumption|omega) [go_sem]
  exact fin_here hk
end Go.X

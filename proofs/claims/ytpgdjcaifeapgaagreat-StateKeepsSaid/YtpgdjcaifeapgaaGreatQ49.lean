/- Lemmas and contracts for a statement about the given program. Conditions: as each says. -/
import Derived.Test.YtpgdjcaifeapgaaGreatQ03
import Derived.Test.YtpgdjcaifeapgaaGreatQ04
import Derived.Test.YtpgdjcaifeapgaaGreatQ06
import Derived.Test.YtpgdjcaifeapgaaGreatQ07
import Derived.Test.YtpgdjcaifeapgaaGreatQ12
import Derived.Test.YtpgdjcaifeapgaaGreatQ13
set_option linter.unusedVariables false
set_option linter.unusedSimpArgs false
set_option maxHeartbeats 12800000
set_option maxRecDepth 20000
namespace Go.X
open Go.RowKit Go.Proofs Go.Bl
variable {L : Own} {h : PH} {K : PK}
theorem IsCert.range {v : Value} {c : CertD} (hc : IsCert h v c) (i : Nat) : 0 ≤ at0 c.st i ∧ at0 c.st i ≤ 18446744073709551615 := by
 obtain ⟨_, _, _, hs, _⟩ := hc; exact hs.word i
def sgn (c : CertD) (i : Nat) : Bool := getB c.bs i
def pres (c : CertD) : Int := wsum c.st (sgn c) c.st.length
structure IsDeed (h : PH) (bv : Value) (d : DeedD) : Prop where
 i : Ints h .u8 bv d.bits
 ok : DeedOk d
theorem IsDeed.up {h h' : PH} (le : PH.le h h') {bv : Value} {d : DeedD} (hd : IsDeed h bv d) : IsDeed h' bv d := ⟨hd.i.up le, hd.ok⟩
theorem par_ext {p q : ParD} (hpq : wides p ++ narrows p = wides q ++ narrows q) : p = q := by
 cases p; cases q
 simp only [wides, narrows, List.cons_append, List.nil_append, List.cons.injEq] at hpq
 simp only [ParD.mk.injEq]
 simp only [hpq, and_self]
def parK : List IntKind := [.u64, .u64, .u64, .u64, .u64, .u64, .u64, .u64, .u64, .u64, .u64, .u64, .u64, .u64, .i64, .i64, .i64, .i64, .i64, .i64, .i64, .i64, .i64, .i64]
theorem eqPar {T : Nat} (ht : Tryz.prog.underlying T = some (.struct (Tryz.prog.fieldsOf T))) (hp : Tryz.prog.stoodInHeld T = false) (hg : Tryz.prog.eqGuardType Tryz.prog.depth T = false) (hok : okF Tryz.prog (Tryz.prog.fieldsOf T).toList 0 parK = true)
  (p q : ParD) (x y : Operand) (K : Value → Prop) (t : Tok K) : xBin Tryz.prog .eql T x y (parV p) (parV q) K t = K (.bool (decide (p = q))) := by
 have e : decide (p = q) = decide (wides p ++ narrows p = wides q ++ narrows q) := by
  rw [decide_eq_decide]
  exact ⟨fun h => by rw [h], par_ext⟩
 rw [e]
 exact xBin_eqints (ks := parK) ht hp hg hok (wides p ++ narrows p) (wides q ++ narrows q) rfl rfl x y K t
@[go_sem ↓] theorem eqPar_api (p q : ParD) (x y : Operand) (K : Value → Prop) (t : Tok K) : xBin Tryz.prog .eql 24 x y (parV p) (parV q) K t = K (.bool (decide (p = q))) :=
 eqPar (T := 24) (by kernel_rfl) (by kernel_rfl) (by kernel_rfl) (by kernel_rfl) p q x y K t
@[go_sem ↓] theorem eqPar_ref (p q : ParD) (x y : Operand) (K : Value → Prop) (t : Tok K) : xBin Tryz.prog .eql 43 x y (parV p) (parV q) K t = K (.bool (decide (p = q))) :=
 eqPar (T := 43) (by kernel_rfl) (by kernel_rfl) (by kernel_rfl) (by kernel_rfl) p q x y K t
end Go.X

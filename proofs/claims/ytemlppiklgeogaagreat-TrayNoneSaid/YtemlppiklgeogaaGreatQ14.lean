/- Part of the proof of a statement about the given program: lemmas and contracts. Conditions: as each says. -/
import Derived.Test.YtemlppiklgeogaaGreatQ03
import Derived.Test.YtemlppiklgeogaaGreatQ04
import Derived.Test.YtemlppiklgeogaaGreatQ06
import Derived.Test.YtemlppiklgeogaaGreatQ12
/- Contracts of coder.Writer and of param.Write, of a writer that is the first part of a greater struct. Conditions: the struct is the call's own. -/
set_option linter.unusedVariables false
set_option linter.unusedSimpArgs false
set_option maxRecDepth 20000
namespace Go.X
open Go.RowKit Go.Proofs Go.Bl
variable {L : Own} {h : PH} {K : PK}
abbrev wG (T cap : Nat) (rest : List Value) (bw : Nat) (o : Option (Nat × Nat)) (s : List Int × Int) (A L : Own) : Own := ⟨bw, T, ovs o s.1.length :: .int .i64 s.2 :: rest, cap⟩ :: (A ++ oent 5 1 o (s.1.map (.int .u8)) L)
end Go.X

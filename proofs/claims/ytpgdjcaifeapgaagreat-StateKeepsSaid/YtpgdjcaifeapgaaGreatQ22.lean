/- Lemmas and contracts for a statement about the given program. Conditions: as each says. -/
import Derived.Test.YtpgdjcaifeapgaaGreatQ16
import Derived.Test.YtpgdjcaifeapgaaGreatQ17
set_option linter.unusedVariables false
set_option linter.unusedSimpArgs false
set_option maxHeartbeats 12800000
set_option maxRecDepth 20000
namespace Go.X
open Go.RowKit Go.Proofs Go.Bl
variable {L : Own} {h : PH} {K : PK}
theorem Nt.sl {v : Value} {n : Int} {m : Nat} (hs : Nt h v n m) : ∃ a k c, v = .agg #[.slice a k c] := by
 obtain ⟨s, ds, rfl, b, _⟩ := hs
 obtain ⟨a, c, rfl, _⟩ := b.open
 exact ⟨a, _, c, rfl⟩
structure IsMon (h : PH) (s : StD) (r1 r2 r3 r4 : Value) : Prop where
 ok : StOk s
 a : Ints h .u64 r1 (s.members.map MemD.bal)
 b : Ints h .u64 r2 s.purses
 c : Ints h .u64 r3 (s.pool.map DepD.amt)
 d : Ints h .u64 r4 (s.dues.map DueD.amt)
structure FewT (s : StD) : Prop where
 p : s.purses.length ≤ 20000
 m : s.members.length ≤ 20000
 o : s.pool.length ≤ 20000
 d : s.dues.length ≤ 20000
theorem xBin_neintsS {P : Program} {T : Nat} {ks : List IntKind} (ht : P.underlying T = some (.struct (P.fieldsOf T))) (hp : P.stoodInHeld T = false) (hg : P.eqGuardType P.depth T = false) (hok : okF P (P.fieldsOf T).toList 0 ks = true) (ps qs : List Int) (ha : ps.length = ks.length) (hb : qs.length = ks.length)
  (x y : Operand) (K : Value → Prop) (t : Tok K) : xBin P .neq T x y (.agg (List.zipWith Value.int ks ps).toArray) (.agg (List.zipWith Value.int ks qs).toArray) K t = K (.bool (!decide (ps = qs))) :=
 xRun_of (fun W => by
  simp only [Sem.run_bind, run_eqGuard_agg W .neq T x y _ _ hg, Result.andThen_ok, run_neq_struct, run_eq_ints ht hp hok ps qs ha hb W]) K
end Go.X

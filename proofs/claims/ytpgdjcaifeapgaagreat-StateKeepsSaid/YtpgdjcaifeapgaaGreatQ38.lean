/- Lemmas and contracts for a statement about the given program. Conditions: as each says. -/
import Derived.Test.YtpgdjcaifeapgaaGreatQ36
import Derived.Test.YtpgdjcaifeapgaaGreatQ37
set_option linter.unusedVariables false
set_option linter.unusedSimpArgs false
set_option maxHeartbeats 12800000
set_option maxRecDepth 20000
namespace Go.X
open Go.RowKit Go.Proofs Go.Bl
variable {L : Own} {h : PH} {K : PK}
theorem unpubO_le {o : Option (Nat × Nat)} {h h2 : PH} {cs : List Value} (ha : apO o L h) (le : PH.le (pubO h o cs) h2) : PH.le h (unpubO h2 o) := by
 have le2 := (pub_le_o ha cs).trans le
 cases o with
 | none => exact le2
 | some p => exact unpub_le ha.2 le2
theorem mstakesO_any {l : List MemD} {ks : List Int} (om : Option (Nat × Nat)) (ho : okO om l.length) (ha : apO om L h) (kv : Value) (hm : ∀ x ∈ l, MemOk x) (hkv : Ints h .u8 kv ks) (hn : l.length ≤ 1000) (hA : actL l ≤ 18446744073709551615)
  (hk : ∀ h', PH.le h h' → K (.tuple #[.int .u64 (preL l ks), .int .u64 (actL l), .int .i64 0]) (oent 73 6 om (l.flatMap memC) L) h') :
  Spec Tryz.prog 121 [ovs om l.length, kv] (oent 73 6 om (l.flatMap memC) L) h K :=
 Spec.lend_o ho (flatG_len memC_len l) (by omega) fun sl => mstakes_any _ kv (Recs.pub memC_len sl) hm (hkv.up (pub_le_o ha _)) hn hA fun h' le => hk _ (unpubO_le ha le)
theorem bcountO_any {l : List MemD} {ys ns : List Int} (om : Option (Nat × Nat)) (ho : okO om l.length) (ha : apO om L h) (yv nv : Value) (hn : l.length ≤ 1000) (hm : ∀ x ∈ l, MemOk x) (hy : Ints h .u8 yv ys) (hno : Ints h .u8 nv ns) (hA : actL l ≤ 18446744073709551615)
  (hk : ∀ h', PH.le h h' → K (.tuple #[.agg #[.int .u64 (preL l ys), .int .u64 (preL l ns), .int .u64 (actL l)], .int .i64 0]) (oent 73 6 om (l.flatMap memC) L) h') :
  Spec Tryz.prog 230 [ovs om l.length, yv, nv] (oent 73 6 om (l.flatMap memC) L) h K :=
 Spec.lend_o ho (flatG_len memC_len l) (by omega) fun sl => bcount_any _ yv nv (Recs.pub memC_len sl) hn hm (hy.up (pub_le_o ha _)) (hno.up (pub_le_o ha _)) hA fun h' le => hk _ (unpubO_le ha le)
end Go.X

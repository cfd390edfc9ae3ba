/- Lemmas and contracts for a statement about the given program. Conditions: as each says. -/
import Derived.Test.YtpgdjcaifeapgaaGreatQ16
import Derived.Test.YtpgdjcaifeapgaaGreatQ30
set_option linter.unusedVariables false
set_option linter.unusedSimpArgs false
set_option maxHeartbeats 12800000
set_option maxRecDepth 20000
namespace Go.X
open Go.RowKit Go.Proofs Go.Bl
variable {L : Own} {h : PH} {K : PK}
theorem Spec.entr {P : Program} {f : FuncId} {args : List Value} {L : Own} {h : PH} {K : PK} (hs : Ap L h → Nd L → Spec P f args L h K) : Spec P f args L h K :=
 ⟨trivial, fun W hg => (hs (Ap.of hg.apart) (Nd.of hg.nodup)).2 W hg⟩
theorem nd_here {e sz : Nat} {o : Option (Nat × Nat)} {xs : List Value} {x : Blk} {L : Own} (nd : Nd (oent e sz o xs (x :: L))) : apB o x.b ∧ Nd (oent e sz o xs L) := by
 cases o with
 | none => exact ⟨trivial, nd.2⟩
 | some p => exact ⟨Ne.symm nd.1.1, nd.1.2, nd.2.2⟩
theorem oent_swap {e sz e2 sz2 : Nat} (o o2 : Option (Nat × Nat)) (xs ys : List Value) (L : Own) : (oent e sz o xs (oent e2 sz2 o2 ys L)).Perm (oent e2 sz2 o2 ys (oent e sz o xs L)) := by
 cases o with
 | none => exact List.Perm.refl _
 | some p => cases o2 with
  | none => exact List.Perm.refl _
  | some p2 => exact List.Perm.swap _ _ _
theorem ap_here {e sz : Nat} {o : Option (Nat × Nat)} {xs : List Value} {L : Own} {h : PH} (ap : Ap (oent e sz o xs L) h) : apO o [] h := by
 cases o with
 | none => trivial
 | some p => exact ⟨trivial, ap.1⟩
theorem apart_here {e sz b : Nat} {o : Option (Nat × Nat)} {xs : List Value} {L : Own} (ha : Apart b (oent e sz o xs L)) : apB o b := by
 cases o with
 | none => trivial
 | some p => exact ha.1
theorem fits_be {v : SV} {s : StD} (hs : IsSt h v s) (hf : fitsS s = true) : BeOk s.members s.purses ∧ parR s.par = true ∧ (0 ≤ s.ep ∧ s.ep ≤ 1073741824) ∧ (s.purses.length ≤ 64 ∧ s.members.length ≤ 128) ∧ tot s.purses + tot (s.members.map MemD.bal) + tot (s.dues.map DueD.amt) ≤ 4611686018427387904 := by
 simp only [fitsS, Bool.and_eq_true] at hf
 obtain ⟨⟨⟨⟨⟨⟨⟨⟨f1, f2⟩, f3⟩, f4⟩, f5⟩, f6⟩, f7⟩, f8⟩, f9⟩ := hf
 simp only [membersB, Bool.and_eq_true, decide_eq_true_eq, List.all_eq_true] at f5
 simp only [pursesB, Bool.and_eq_true, decide_eq_true_eq, List.all_eq_true] at f4
 simp only [holdsB, Bool.and_eq_true, decide_eq_true_eq] at f9
 rw [wi_iff] at f2
 have f41 := wi_iff.1 f4.1
 have p0 := hs.parts
 have u1 := hs.ok.u s.burn (by simp)
 have u2 := hs.ok.u s.treas (by simp)
 have ht : tot s.purses + tot (s.members.map MemD.bal) + tot (s.dues.map DueD.amt) ≤ 4611686018427387904 := by
  have e := f9.2
  simp only [sAll, sStk, sPur, sPool, sDue] at e p0
  omega
 have p4 : 0 ≤ tot (s.dues.map DueD.amt) := p0.2.2.2
 refine ⟨⟨hs.mo, fun x hx => ?_, fun i => (hs.p.word i).1, by omega⟩, f1, f2, ⟨by omega, f5.1.1.1⟩, ht⟩
 have := (f5.1.1.2 x hx).2
 rw [acctB, wi_iff] at this
 omega
end Go.X

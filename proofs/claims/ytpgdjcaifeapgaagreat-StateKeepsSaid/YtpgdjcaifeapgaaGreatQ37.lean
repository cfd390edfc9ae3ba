/- Lemmas and contracts for a statement about the given program. Conditions: as each says. -/
import Derived.Test.YtpgdjcaifeapgaaGreatQ29
set_option linter.unusedVariables false
set_option linter.unusedSimpArgs false
set_option maxHeartbeats 12800000
set_option maxRecDepth 20000
namespace Go.X
open Go.RowKit
section
variable {P : Program}
def unpub (h : PH) (b : Nat) : PH := fun b' o => if b' = b then none else h b' o
theorem unpub_le {h h2 : PH} {b : Nat} (hb : h b = noC) (le : PH.le h h2) : PH.le h (unpub h2 b) := by
 intro b' o v hv
 simp only [unpub]
 split
 ·rename_i e; rw [e, hb] at hv; cases hv
 ·exact le b' o v hv
theorem unpub_noC (h : PH) (b : Nat) : unpub h b b = noC := by
 funext o
 simp [unpub, noC]
theorem unpub_ne {h : PH} {b c : Nat} (hc : h c = noC) : unpub h b c = noC := by
 funext o
 simp only [unpub]
 split
 ·rfl
 ·exact congrFun hc o
theorem Spec.lend {f : FuncId} {args : List Value} {L : Own} {h : PH} {K : PK} {b t cap : Nat} {cs : List Value} (heT : t ≠ 4294967295)
  (hs : Spec P f args L (pub h b cs) fun v L' h' => K v (⟨b, t, cs, cap⟩ :: L') (unpub h' b)) : Spec P f args (⟨b, t, cs, cap⟩ :: L) h K := by
 refine ⟨trivial, fun W hg => ?_⟩
 obtain ⟨g1, _⟩ := pub_drop b t cap cs L h heT W hg
 have hnd := hg.nodup
 simp only [List.map_cons, List.nodup_cons] at hnd
 have hbW : b < W.heap.size := own_lt hg (e := ⟨b, t, cs, cap⟩) List.mem_cons_self
 refine (hs.2 W g1).mono fun e W' hh => ?_
 obtain ⟨v, L2, h2, e1, hk, g2, kp, hfr⟩ := hh
 have hb2 : ∀ e ∈ L2, e.b ≠ b := fun e he hb => by
  rcases hfr e he with hm | hm
  ·exact hnd.1 (by rw [← hb]; exact hm)
  ·omega
 refine ⟨v, _, _, e1, hk, ⟨fun b' o v hv => ?_, fun e he => ?_, ?_, fun e he => ?_⟩, ⟨kp.os, kp.tape, kp.output, kp.size, fun k hk' hM => kp.block k hk' fun hm => hM ?_⟩, fun e he => ?_⟩
 ·simp only [unpub] at hv
  split at hv
  ·cases hv
  ·exact g2.sub _ _ _ hv
 ·rcases List.mem_cons.1 he with rfl | he
  ·show BlkIs _ W'.heap[b]?
   rw [kp.block b hbW hnd.1]
   exact hg.own _ List.mem_cons_self
  ·exact g2.own e he
 ·simp only [List.map_cons, List.nodup_cons]
  refine ⟨fun hm => ?_, g2.nodup⟩
  obtain ⟨e, he, hb⟩ := List.mem_map.1 hm
  exact hb2 e he hb
 ·rcases List.mem_cons.1 he with rfl | he
  ·exact unpub_noC h2 b
  ·exact unpub_ne (g2.apart e he)
 ·simp only [List.map_cons]
  exact List.mem_cons_of_mem _ hm
 ·rcases List.mem_cons.1 he with rfl | he
  ·exact Or.inl (by simp)
  ·rcases hfr e he with hm | hm
   ·exact Or.inl (by simp only [List.map_cons]; exact List.mem_cons_of_mem _ hm)
   ·exact Or.inr hm
def unpubO (h : PH) : Option (Nat × Nat) → PH
 | none => h
 | some p => unpub h p.1
theorem Spec.lend_o {f : FuncId} {args : List Value} {L : Own} {h : PH} {K : PK} {e sz n : Nat} {o : Option (Nat × Nat)} {cs : List Value} (ho : okO o n) (hl : cs.length = n * sz) (hn : n ≤ 9223372036854775807)
  (hs : Sl (pubO h o cs) (ovs o n) n sz cs → Spec P f args L (pubO h o cs) fun v L' h' => K v (oent e sz o cs L') (unpubO h' o)) (heT : e ≠ 4294967295 := by first | decide | omega) : Spec P f args (oent e sz o cs L) h K := by
 have hs := hs (pub_sl ho hl hn)
 cases o with
 | none => exact hs
 | some p => exact Spec.lend heT hs
end
end Go.X

/- Lemmas and contracts for a statement about the given program. Conditions: as each says. -/
import Derived.Test.YtkmojeioedjfkaaGreatQ22
import Derived.Test.YtkmojeioedjfkaaGreatQ28
set_option linter.unusedVariables false
set_option linter.unusedSimpArgs false
set_option maxHeartbeats 12800000
set_option maxRecDepth 20000
namespace Go.X
open Go.RowKit Go.Proofs Go.Bl
variable {L : Own} {h : PH} {K : PK}
theorem flatI_oneK {α : Type} {f : α → List Value} (h1 : ∀ a, ∀ u ∈ f a, u.oneCell' = true) (l : List α) : ∀ u ∈ l.flatMap f, u.oneCell' = true := fun u hu => by
 obtain ⟨a, _, hb⟩ := List.mem_flatMap.1 hu
 exact h1 a u hb
theorem cloneDepK {l : List DepD} (v : Value) (hv : Recs depC 4 h v l) (hl : l.length ≤ 1000) (hk : ∀ o, okO o l.length → apO o L h → K (ovs o l.length) (oent 116 4 o (l.flatMap depC) L) h) : Spec Tryz.prog 39 [v] L h K := by
 have hx := hv
 obtain ⟨a, ca, rfl, hna, hca, h0, _⟩ := hx.open
 refine x_enter Tryz.func39 rfl (rs := [_]) rfl rfl mixed (by kernel_rfl) rfl rfl ?_
 simp -dsimp -implicitDefEqProofs (disch := first|with_reducible assumption|omega) [go_sem]
 cases ha : a.isNone with
 | true =>
  have ha' : a = none := by simpa using ha
  subst ha'
  have hl0 : l.length = 0 := by have := h0 rfl; omega
  have hx' : l = [] := List.eq_nil_of_length_eq_zero hl0
  subst hx'
  simp -dsimp -implicitDefEqProofs (disch := first|with_reducible assumption|omega) [go_sem]
  exact fin_here (hk none rfl trivial)
 | false =>
  simp -dsimp -implicitDefEqProofs (disch := first|with_reducible assumption|omega) [go_sem]
  refine xnew fun b1 n_b1 h_b1 => ?_
  try simp only [Apart] at n_b1
  simp -dsimp -implicitDefEqProofs (disch := first|with_reducible assumption|omega) [go_sem]
  refine xappend (t := 35) (e := 116) (sz := 4) (bytes := 32) (by kernel_rfl) tI_116 rfl rfl rfl rfl (by decide) [] L (some (b1, 0)) 0 [] ⟨Nat.le_refl _, Nat.zero_le _⟩ rfl (Src.known hx.s) (news := l.flatMap depC) (flatG_len depC_len l) (flatI_oneK depC_oneJ l) (by simp [maxLen]; omega) (by omega) ?_
  intro o' j1 j2 j3
  simp only [Nat.zero_add, List.nil_append] at j1 j2 ⊢
  simp -dsimp -implicitDefEqProofs (disch := first|with_reducible assumption|omega) [go_sem]
  exact fin_here (hk o' j1 j2)
def addP (l : List DepD) (d : DepD) : List DepD × Int := if depB d then (if l.length < 256 then (l ++ [d], 0) else ([], 161)) else ([], 2)
theorem mem_oent {x : Blk} {e sz : Nat} {o : Option (Nat × Nat)} {xs : List Value} {L : Own} (hx : x ∈ L) : x ∈ oent e sz o xs L := by
 cases o with
 | none => exact hx
 | some p => exact List.mem_cons_of_mem _ hx
theorem paddG {l : List DepD} (v : Value) (hv : Recs depC 4 h v l) (hl : l.length ≤ 1000) (d : DepD) (ok : DepOk d) (hk : ∀ h' r, PH.le h h' → Recs depC 4 h' r (addP l d).1 → K (.tuple #[r, .int .i64 (addP l d).2]) L h') : Spec Tryz.prog 146 [v, depV d] L h K := by
 have ua := ok.a
 have hv0 := hv
 obtain ⟨pa, pc, rfl, _⟩ := hv.open
 have bad : depB d = false → K (.tuple #[.slice none 0 0, .int .i64 2]) L h := fun e => by
  have := hk h (.slice none 0 0) (PH.le_refl _) (by rw [addP, e]; exact Recs.nil depC_len h)
  rw [addP, e] at this
  exact this
 obtain ⟨ac, me, am, nw⟩ := d
 simp only at ua
 refine x_enter Tryz.func146 rfl (rs := [_, _]) rfl rfl mixed (by kernel_rfl) rfl rfl ?_
 simp -dsimp -implicitDefEqProofs (disch := first|with_reducible assumption|omega) [go_sem]
 refine xnew fun b1 n_b1 h_b1 => ?_
 try simp only [Apart] at n_b1
 simp -dsimp -implicitDefEqProofs (disch := first|with_reducible assumption|omega) [go_sem]
 refine pwi_any _ _ _ ?_
 cases q1 : wi ac 0 63 with
 | false =>
  have := bad (by simp only [depB, q1, Bool.false_and])
  simp -dsimp -implicitDefEqProofs (disch := first|with_reducible assumption|omega) [go_sem]
  exact fin_tail (fin_here this)
 | true =>
 simp -dsimp -implicitDefEqProofs (disch := first|with_reducible assumption|omega) [go_sem]
 refine pwi_any _ _ _ ?_
 cases q2 : wi me 0 127 with
 | false =>
  have := bad (by simp only [depB, q2, Bool.and_false, Bool.false_and])
  simp -dsimp -implicitDefEqProofs (disch := first|with_reducible assumption|omega) [go_sem]
  exact fin_tail (fin_here this)
 | true =>
 have tail : depB ⟨ac, me, am, nw⟩ = true → l.length < 256 → ∀ h' r, PH.le h h' → Recs depC 4 h' r (l ++ [⟨ac, me, am, nw⟩]) → K (.tuple #[r, .int .i64 0]) L h' := fun e1 e2 h' r le i => by
  have := hk h' r le (by rw [addP, if_pos e1, if_pos e2]; exact i)
  rw [addP, if_pos e1, if_pos e2] at this
  exact this
 have full : depB ⟨ac, me, am, nw⟩ = true → ¬ l.length < 256 → K (.tuple #[.slice none 0 0, .int .i64 161]) L h := fun e1 e2 => by
  have := hk h (.slice none 0 0) (PH.le_refl _) (by rw [addP, if_pos e1, if_neg e2]; exact Recs.nil depC_len h)
  rw [addP, if_pos e1, if_neg e2] at this
  exact this
 clear hk
 cases nw with
 | true =>
  by_cases q4 : me = 0
  ·subst q4
   have rr : depB ⟨ac, 0, am, true⟩ = (decide (1 ≤ am) && decide (am ≤ 4611686018427387904)) := by simp [depB, q1, q2]
   by_cases q5 : 1 ≤ am
   ·by_cases q6 : am ≤ 4611686018427387904
    ·have eB : depB ⟨ac, 0, am, true⟩ = true := by rw [rr, decide_eq_true q5, decide_eq_true q6]; rfl
     by_cases q7 : l.length < 256
     ·have good := tail eB q7
      clear bad tail full rr
      simp -dsimp -implicitDefEqProofs (disch := first|with_reducible assumption|omega) [go_sem]
      have sb : ∀ x : Blk, Drop (x :: L) h [x] h := fun x => Drop.mem List.mem_cons_self
      refine xanyl (.tk 0 (.tkl 2 (.or true 1 (.or true 3 (.or true 4 (.tk 5 (.tk 6 (.fin))) (.nil)) (.nil)) (.or true 3 (.or true 1 (.or true 4 (.tk 5 (.tk 6 (.fin))) (.nil)) (.nil)) (.nil))))) (by kernel_rfl) (by kernel_rfl) _ (sb _) ?_
      simp -dsimp -implicitDefEqProofs (disch := first|with_reducible assumption|omega) [go_sem]
      refine xpl_or ?_ ?_
      ·simp -dsimp -implicitDefEqProofs (disch := first|with_reducible assumption|omega) [go_sem]
       refine cloneDepK _ hv0 hl fun o k1 k2 => ?_
       refine xkp ((Drop.oent _ _ _ _ _ _).trans (sb _)) ?_
       simp -dsimp -implicitDefEqProofs (disch := first|with_reducible assumption|omega) [go_sem]
       refine xnew fun b2 n_b2 h_b2 => ?_
       try simp only [Apart] at n_b2
       refine xkp ((Drop.tail _ _ _).trans ((Drop.oent _ _ _ _ _ _).trans (sb _))) ?_
       simp -dsimp -implicitDefEqProofs (disch := first|with_reducible assumption|omega) [go_sem]
       refine xappend (t := 35) (e := 116) (sz := 4) (bytes := 32) (by kernel_rfl) tI_116 rfl rfl rfl rfl (by decide) [_] _ o l.length (l.flatMap depC) k1 (flatG_len depC_len l) (Src.own (b := b2) List.mem_cons_self) (m := 1) (news := depC ⟨ac, 0, am, true⟩) (by rfl) (depC_oneJ ⟨ac, 0, am, true⟩) (by simp [maxLen]; omega) (by omega) ?_
       intro o' j1 j2 j3
       simp only [List.cons_append, List.nil_append] at j2 ⊢
       refine xkp ((Drop.tail _ _ _).trans ((Drop.oent _ _ _ _ _ _).trans (sb _))) ?_
       simp -dsimp -implicitDefEqProofs (disch := first|with_reducible assumption|omega) [go_sem]
       refine fin_tail (fin_pub (e := 116) (n := l.length + 1) j1 (by rw [List.length_append, flatG_len depC_len]; show l.length * 4 + 4 = (l.length + 1) * 4; omega) (by omega) (apO_tail j2) fun h' le sl => ?_)
       exact fin_tail (fin_here (good h' _ le ⟨depC_len, by simpa using sl⟩))
      ·simp -dsimp -implicitDefEqProofs (disch := first|with_reducible assumption|omega) [go_sem]
       refine xnew fun b2 n_b2 h_b2 => ?_
       try simp only [Apart] at n_b2
       refine xkp ((Drop.tail _ _ _).trans (sb _)) ?_
       simp -dsimp -implicitDefEqProofs (disch := first|with_reducible assumption|omega) [go_sem]
       refine cloneDepK _ hv0 hl fun o k1 k2 => ?_
       refine xkp ((Drop.oent _ _ _ _ _ _).trans ((Drop.tail _ _ _).trans (sb _))) ?_
       simp -dsimp -implicitDefEqProofs (disch := first|with_reducible assumption|omega) [go_sem]
       refine xappend (t := 35) (e := 116) (sz := 4) (bytes := 32) (by kernel_rfl) tI_116 rfl rfl rfl rfl (by decide) [] _ o l.length (l.flatMap depC) k1 (flatG_len depC_len l) (Src.own (b := b2) (mem_oent List.mem_cons_self)) (m := 1) (news := depC ⟨ac, 0, am, true⟩) (by rfl) (depC_oneJ ⟨ac, 0, am, true⟩) (by simp [maxLen]; omega) (by omega) ?_
       intro o' j1 j2 j3
       simp only [List.nil_append] at j2 ⊢
       refine xkp ((Drop.oent _ _ _ _ _ _).trans ((Drop.tail _ _ _).trans (sb _))) ?_
       simp -dsimp -implicitDefEqProofs (disch := first|with_reducible assumption|omega) [go_sem]
       refine fin_pub (e := 116) (n := l.length + 1) j1 (by rw [List.length_append, flatG_len depC_len]; show l.length * 4 + 4 = (l.length + 1) * 4; omega) (by omega) j2 fun h' le sl => ?_
       exact fin_tail (fin_tail (fin_here (good h' _ le ⟨depC_len, by simpa using sl⟩)))
     ·have ff := full eB q7
      simp -dsimp -implicitDefEqProofs (disch := first|with_reducible assumption|omega) [go_sem]
      exact fin_tail (fin_here ff)
    ·have := bad (by rw [rr, decide_eq_false q6, Bool.and_false])
     simp -dsimp -implicitDefEqProofs (disch := first|with_reducible assumption|omega) [go_sem]
     exact fin_tail (fin_here this)
   ·have := bad (by rw [rr, decide_eq_false q5, Bool.false_and])
    simp -dsimp -implicitDefEqProofs (disch := first|with_reducible assumption|omega) [go_sem]
    exact fin_tail (fin_here this)
  ·have := bad (by simp [depB, q4])
   simp -dsimp -implicitDefEqProofs (disch := first|with_reducible assumption|omega) [go_sem]
   exact fin_tail (fin_here this)
 | false =>
  have rr : depB ⟨ac, me, am, false⟩ = (decide (1 ≤ am) && decide (am ≤ 4611686018427387904)) := by simp [depB, q1, q2]
  by_cases q5 : 1 ≤ am
  ·by_cases q6 : am ≤ 4611686018427387904
   ·have eB : depB ⟨ac, me, am, false⟩ = true := by rw [rr, decide_eq_true q5, decide_eq_true q6]; rfl
    by_cases q7 : l.length < 256
    ·have good := tail eB q7
     clear bad tail full rr
     simp -dsimp -implicitDefEqProofs (disch := first|with_reducible assumption|omega) [go_sem]
     have sb : ∀ x : Blk, Drop (x :: L) h [x] h := fun x => Drop.mem List.mem_cons_self
     refine xanyl (.tk 0 (.tkl 2 (.or true 1 (.or true 3 (.or true 4 (.tk 5 (.tk 6 (.fin))) (.nil)) (.nil)) (.or true 3 (.or true 1 (.or true 4 (.tk 5 (.tk 6 (.fin))) (.nil)) (.nil)) (.nil))))) (by kernel_rfl) (by kernel_rfl) _ (sb _) ?_
     simp -dsimp -implicitDefEqProofs (disch := first|with_reducible assumption|omega) [go_sem]
     refine xpl_or ?_ ?_
     ·simp -dsimp -implicitDefEqProofs (disch := first|with_reducible assumption|omega) [go_sem]
      refine cloneDepK _ hv0 hl fun o k1 k2 => ?_
      refine xkp ((Drop.oent _ _ _ _ _ _).trans (sb _)) ?_
      simp -dsimp -implicitDefEqProofs (disch := first|with_reducible assumption|omega) [go_sem]
      refine xnew fun b2 n_b2 h_b2 => ?_
      try simp only [Apart] at n_b2
      refine xkp ((Drop.tail _ _ _).trans ((Drop.oent _ _ _ _ _ _).trans (sb _))) ?_
      simp -dsimp -implicitDefEqProofs (disch := first|with_reducible assumption|omega) [go_sem]
      refine xappend (t := 35) (e := 116) (sz := 4) (bytes := 32) (by kernel_rfl) tI_116 rfl rfl rfl rfl (by decide) [_] _ o l.length (l.flatMap depC) k1 (flatG_len depC_len l) (Src.own (b := b2) List.mem_cons_self) (m := 1) (news := depC ⟨ac, me, am, false⟩) (by rfl) (depC_oneJ ⟨ac, me, am, false⟩) (by simp [maxLen]; omega) (by omega) ?_
      intro o' j1 j2 j3
      simp only [List.cons_append, List.nil_append] at j2 ⊢
      refine xkp ((Drop.tail _ _ _).trans ((Drop.oent _ _ _ _ _ _).trans (sb _))) ?_
      simp -dsimp -implicitDefEqProofs (disch := first|with_reducible assumption|omega) [go_sem]
      refine fin_tail (fin_pub (e := 116) (n := l.length + 1) j1 (by rw [List.length_append, flatG_len depC_len]; show l.length * 4 + 4 = (l.length + 1) * 4; omega) (by omega) (apO_tail j2) fun h' le sl => ?_)
      exact fin_tail (fin_here (good h' _ le ⟨depC_len, by simpa using sl⟩))
     ·simp -dsimp -implicitDefEqProofs (disch := first|with_reducible assumption|omega) [go_sem]
      refine xnew fun b2 n_b2 h_b2 => ?_
      try simp only [Apart] at n_b2
      refine xkp ((Drop.tail _ _ _).trans (sb _)) ?_
      simp -dsimp -implicitDefEqProofs (disch := first|with_reducible assumption|omega) [go_sem]
      refine cloneDepK _ hv0 hl fun o k1 k2 => ?_
      refine xkp ((Drop.oent _ _ _ _ _ _).trans ((Drop.tail _ _ _).trans (sb _))) ?_
      simp -dsimp -implicitDefEqProofs (disch := first|with_reducible assumption|omega) [go_sem]
      refine xappend (t := 35) (e := 116) (sz := 4) (bytes := 32) (by kernel_rfl) tI_116 rfl rfl rfl rfl (by decide) [] _ o l.length (l.flatMap depC) k1 (flatG_len depC_len l) (Src.own (b := b2) (mem_oent List.mem_cons_self)) (m := 1) (news := depC ⟨ac, me, am, false⟩) (by rfl) (depC_oneJ ⟨ac, me, am, false⟩) (by simp [maxLen]; omega) (by omega) ?_
      intro o' j1 j2 j3
      simp only [List.nil_append] at j2 ⊢
      refine xkp ((Drop.oent _ _ _ _ _ _).trans ((Drop.tail _ _ _).trans (sb _))) ?_
      simp -dsimp -implicitDefEqProofs (disch := first|with_reducible assumption|omega) [go_sem]
      refine fin_pub (e := 116) (n := l.length + 1) j1 (by rw [List.length_append, flatG_len depC_len]; show l.length * 4 + 4 = (l.length + 1) * 4; omega) (by omega) j2 fun h' le sl => ?_
      exact fin_tail (fin_tail (fin_here (good h' _ le ⟨depC_len, by simpa using sl⟩)))
    ·have ff := full eB q7
     simp -dsimp -implicitDefEqProofs (disch := first|with_reducible assumption|omega) [go_sem]
     exact fin_tail (fin_here ff)
   ·have := bad (by rw [rr, decide_eq_false q6, Bool.and_false])
    simp -dsimp -implicitDefEqProofs (disch := first|with_reducible assumption|omega) [go_sem]
    exact fin_tail (fin_here this)
  ·have := bad (by rw [rr, decide_eq_false q5, Bool.false_and])
   simp -dsimp -implicitDefEqProofs (disch := first|with_reducible assumption|omega) [go_sem]
   exact fin_tail (fin_here this)
end Go.X

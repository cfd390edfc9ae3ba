/- Part of the proof of a statement about the given program: lemmas and contracts. Conditions: as each says. -/
import Derived.Test.YtemlppiklgeogaaGreatQ17
/- The law TrayNone: in a tray that is none nothing waits. Conditions: none. -/
set_option linter.unusedVariables false
set_option linter.unusedSimpArgs false
set_option maxRecDepth 20000
namespace Go.X
open Go.RowKit Go.Proofs Go.Bl
variable {L : Own} {h : PH} {K : PK}
def opC (k i : Int) (d : DeedD) (bv : Value) (u : Int) : List Value := .int .i64 k :: .int .i64 i :: (deedC d bv ++ [.int .u64 u])
abbrev opV (k i : Int) (d : DeedD) (bv : Value) (u : Int) : Value := .agg (opC k i d bv u).toArray
set_option maxHeartbeats 1600000 in
theorem few33_one {b c cap : Nat} {k i u : Int} {d : DeedD} {x : Option Addr} {y : Nat} (hk : K (.bool (decide (d.bits.length ≤ 100))) (⟨b, 105, opC k i d (.slice x d.bits.length y) u, cap⟩ :: L) h) :
    Spec Tryz.prog 41 [.slice (some ⟨b, 0, none⟩) 1 c, .int .i64 1] (⟨b, 105, opC k i d (.slice x d.bits.length y) u, cap⟩ :: L) h K := by
  refine x_enterA Tryz.func41 rfl (rs := [_]) rfl rfl mixed (by kernel_rfl) rfl rfl fun ap nd => ?_
  obtain ⟨apb, _⟩ := ap
  clear nd
  simp -dsimp -implicitDefEqProofs (disch := first | with_reducible assumption | omega) [go_sem]
  refine xloop' (0 : Nat) (fun k => k ≤ 1 ∧ (k = 1 → d.bits.length ≤ 100)) (fun k => [(9, .int .i64 k), (8, .int .i64 1), (7, .slice (some ⟨b, 0, none⟩) 1 c), (0, .slice (some ⟨b, 0, none⟩) 1 c), (1, .int .i64 1)]) (fun k => 1 - k) ?_ ?_ ?_
  · exact ⟨Nat.zero_le _, fun h => by cases h⟩
  · simp [Ent, List.lookup, xEnv]
  rintro j ⟨j1, j2⟩
  by_cases c1 : j < 1
  · have hj : j = 0 := by omega
    subst hj
    simp -dsimp -implicitDefEqProofs (disch := first | with_reducible assumption | omega) [go_sem, opC, deedC, List.cons_append, List.nil_append]
    refine xnew fun b6 n_b6 h_b6 => ?_
    try simp only [Apart] at n_b6
    simp -dsimp -implicitDefEqProofs (disch := first | with_reducible assumption | omega) [go_sem, opC, deedC, List.cons_append, List.nil_append]
    by_cases c2 : d.bits.length ≤ 100
    · simp -dsimp -implicitDefEqProofs (disch := first | with_reducible assumption | omega) [go_sem]
      exact ⟨1, ⟨by omega, fun _ => c2⟩, by omega, by simp [Ent, List.lookup], Drop.tail _ _ _⟩
    · rw [decide_eq_false c2] at hk
      simp -dsimp -implicitDefEqProofs (disch := first | with_reducible assumption | omega) [go_sem]
      exact fin_tail (fin_here hk)
  · have hj : j = 1 := by omega
    subst hj
    rw [decide_eq_true (j2 rfl)] at hk
    simp -dsimp -implicitDefEqProofs (disch := first | with_reducible assumption | omega) [go_sem]
    exact fin_here hk
set_option maxHeartbeats 6400000 in
theorem traynone_any (w o : Value) (hS : ∃ q : SV × StD, w = stV q.2 q.1 ∧ IsSt h q.1 q.2) (hO : ∃ (k i : Int) (bv : Value) (dd : DeedD) (u : Int), o = opV k i dd bv u ∧ IsDeed h bv dd) (hk : ∀ h', PH.le h h' → K (.bool true) L h') : Spec Tryz.prog 11 [w, o] L h K := by
  obtain ⟨⟨sv0, s⟩, rfl, hs0⟩ := hS
  simp only at hs0 ⊢
  obtain ⟨pa, pc, ma, mc, ea, ec, xa, xc, oa, oc, da, dc, ta, tc, ka, kc, ra, rc, rfl⟩ := hs0.slices
  obtain ⟨k, i, bv, dd, u, rfl, hd⟩ := hO
  obtain ⟨x, y, rfl, _⟩ := hd.i.open
  refine x_enter Tryz.func11 rfl (rs := [_]) rfl rfl mixed (by kernel_rfl) rfl rfl ?_
  simp -dsimp -implicitDefEqProofs (disch := first | with_reducible assumption | omega) [go_sem, opC, deedC, List.cons_append, List.nil_append]
  refine xnew fun b2 n_b2 h_b2 => ?_
  try simp only [Apart] at n_b2
  simp -dsimp -implicitDefEqProofs (disch := first | with_reducible assumption | omega) [go_sem, opC, deedC, List.cons_append, List.nil_append]
  refine xnew fun b3 n_b3 h_b3 => ?_
  try simp only [Apart] at n_b3
  simp -dsimp -implicitDefEqProofs (disch := first | with_reducible assumption | omega) [go_sem, opC, deedC, List.cons_append, List.nil_append]
  refine Spec.ap (awake33_any fun h1 le1 ap => ?_)
  simp only [Ap] at ap
  obtain ⟨a13, a12, _⟩ := ap
  simp -dsimp -implicitDefEqProofs (disch := first | with_reducible assumption | omega) [go_sem]
  refine few24_any (s := s) ⟨.slice pa s.purses.length pc, .slice ma s.members.length mc, .slice ea s.entry.length ec, .slice xa s.exit.length xc, .slice oa s.pool.length oc, .slice da s.dues.length dc, .slice ta s.motions.length tc, .slice ka s.marks.length kc, .slice ra s.ring.length rc⟩ (hs0.up le1) ?_
  cases f1 : fewB s with
  | false =>
    simp -dsimp -implicitDefEqProofs (disch := first | with_reducible assumption | omega) [go_sem]
    exact fin_tail (fin_tail (fin_here (hk h1 le1)))
  | true =>
  simp -dsimp -implicitDefEqProofs (disch := first | with_reducible assumption | omega) [go_sem]
  refine xnew fun b20 n_b20 h_b20 => ?_
  try simp only [Apart] at n_b20
  simp -dsimp -implicitDefEqProofs (disch := first | with_reducible assumption | omega) [go_sem]
  refine few33_one (k := k) (i := i) (d := dd) (u := u) ?_
  by_cases c2 : dd.bits.length ≤ 100
  · rw [decide_eq_true c2]
    simp -dsimp -implicitDefEqProofs (disch := first | with_reducible assumption | omega) [go_sem]
    refine xnew fun b26 n_b26 h_b26 => ?_
    try simp only [Apart] at n_b26
    simp -dsimp -implicitDefEqProofs (disch := first | with_reducible assumption | omega) [go_sem]
    refine xnew fun b27 n_b27 h_b27 => ?_
    try simp only [Apart] at n_b27
    simp -dsimp -implicitDefEqProofs (disch := first | with_reducible assumption | omega) [go_sem]
    refine xloop' (0 : Nat) (fun k => k ≤ 2) (fun k => [(29, .int .i64 k), (28, .int .i64 2), (27, .slice (some ⟨b27, 0, none⟩) 2 2), (2, .pointer (some ⟨b2, 0, none⟩)), (3, .pointer (some ⟨b3, 0, none⟩))]) (fun k => 2 - k) ?_ ?_ ?_
    · exact Nat.zero_le _
    · simp [Ent, List.lookup, xEnv]
    intro j hj
    by_cases c3 : j < 2
    · rcases (show j = 0 ∨ j = 1 by omega) with rfl | rfl
      · simp -dsimp -implicitDefEqProofs (disch := first | with_reducible assumption | omega) [go_sem]
        refine put0_any (d := dd) (Or.inl rfl) ?_
        simp -dsimp -implicitDefEqProofs (disch := first | with_reducible assumption | omega) [go_sem]
        refine build0_any (s := s) (v := ⟨.slice pa s.purses.length pc, .slice ma s.members.length mc, .slice ea s.entry.length ec, .slice xa s.exit.length xc, .slice oa s.pool.length oc, .slice da s.dues.length dc, .slice ta s.motions.length tc, .slice ka s.marks.length kc, .slice ra s.ring.length rc⟩) (Or.inl rfl) ?_
        simp -dsimp -implicitDefEqProofs (disch := first | with_reducible assumption | omega) [go_sem]
        refine xdraw (by kernel_rfl) rfl ?_
        simp -dsimp -implicitDefEqProofs (disch := first | with_reducible assumption | omega) [go_sem]
        refine xdcall _ (drop0_any (Or.inl rfl) ⟨rfl, rfl, rfl⟩) ?_
        simp -dsimp -implicitDefEqProofs (disch := first | with_reducible assumption | omega) [go_sem]
        refine xdcall _ (list0_any (Or.inl rfl) ⟨rfl, rfl, rfl⟩) ?_
        simp -dsimp -implicitDefEqProofs (disch := first | with_reducible assumption | omega) [go_sem]
        refine xdcall _ (len0_any (Or.inl rfl) ⟨rfl, rfl, rfl⟩) ?_
        simp -dsimp -implicitDefEqProofs (disch := first | with_reducible assumption | omega) [go_sem]
        refine xdcall _ (stale0_any (s := s) (v := ⟨.slice pa s.purses.length pc, .slice ma s.members.length mc, .slice ea s.entry.length ec, .slice xa s.exit.length xc, .slice oa s.pool.length oc, .slice da s.dues.length dc, .slice ta s.motions.length tc, .slice ka s.marks.length kc, .slice ra s.ring.length rc⟩) (Or.inl rfl) ⟨rfl, rfl, rfl⟩) ?_
        simp -dsimp -implicitDefEqProofs (disch := first | with_reducible assumption | omega) [go_sem]
        exact ⟨1, by omega, by omega, by simp [Ent, List.lookup], Drop.refl _ _⟩
      · simp -dsimp -implicitDefEqProofs (disch := first | with_reducible assumption | omega) [go_sem]
        refine put0_any (d := dd) (Or.inr ⟨b26, rfl, List.mem_cons_of_mem _ List.mem_cons_self⟩) ?_
        simp -dsimp -implicitDefEqProofs (disch := first | with_reducible assumption | omega) [go_sem]
        refine build0_any (s := s) (v := ⟨.slice pa s.purses.length pc, .slice ma s.members.length mc, .slice ea s.entry.length ec, .slice xa s.exit.length xc, .slice oa s.pool.length oc, .slice da s.dues.length dc, .slice ta s.motions.length tc, .slice ka s.marks.length kc, .slice ra s.ring.length rc⟩) (Or.inr ⟨b26, rfl, List.mem_cons_of_mem _ List.mem_cons_self⟩) ?_
        simp -dsimp -implicitDefEqProofs (disch := first | with_reducible assumption | omega) [go_sem]
        refine xdraw (by kernel_rfl) rfl ?_
        simp -dsimp -implicitDefEqProofs (disch := first | with_reducible assumption | omega) [go_sem]
        refine xdcall _ (drop0_any (Or.inr ⟨b26, rfl, List.mem_cons_of_mem _ List.mem_cons_self⟩) ⟨rfl, rfl, rfl⟩) ?_
        simp -dsimp -implicitDefEqProofs (disch := first | with_reducible assumption | omega) [go_sem]
        refine xdcall _ (list0_any (Or.inr ⟨b26, rfl, List.mem_cons_of_mem _ List.mem_cons_self⟩) ⟨rfl, rfl, rfl⟩) ?_
        simp -dsimp -implicitDefEqProofs (disch := first | with_reducible assumption | omega) [go_sem]
        refine xdcall _ (len0_any (Or.inr ⟨b26, rfl, List.mem_cons_of_mem _ List.mem_cons_self⟩) ⟨rfl, rfl, rfl⟩) ?_
        simp -dsimp -implicitDefEqProofs (disch := first | with_reducible assumption | omega) [go_sem]
        refine xdcall _ (stale0_any (s := s) (v := ⟨.slice pa s.purses.length pc, .slice ma s.members.length mc, .slice ea s.entry.length ec, .slice xa s.exit.length xc, .slice oa s.pool.length oc, .slice da s.dues.length dc, .slice ta s.motions.length tc, .slice ka s.marks.length kc, .slice ra s.ring.length rc⟩) (Or.inr ⟨b26, rfl, List.mem_cons_of_mem _ List.mem_cons_self⟩) ⟨rfl, rfl, rfl⟩) ?_
        simp -dsimp -implicitDefEqProofs (disch := first | with_reducible assumption | omega) [go_sem]
        exact ⟨2, by omega, by omega, by simp [Ent, List.lookup], Drop.refl _ _⟩
    · have hj2 : j = 2 := by omega
      subst hj2
      simp -dsimp -implicitDefEqProofs (disch := first | with_reducible assumption | omega) [go_sem]
      exact fin_tail (fin_tail (fin_tail (fin_tail (fin_tail (fin_here (hk h1 le1))))))
  · rw [decide_eq_false c2]
    simp -dsimp -implicitDefEqProofs (disch := first | with_reducible assumption | omega) [go_sem]
    exact fin_tail (fin_tail (fin_tail (fin_here (hk h1 le1))))
end Go.X

/- Contracts of member.Counts, bullionlaw24.Few. Conditions: the value reads as a member, as a state. -/
import Derived.Test.YtfilkbfkhdaakaaGreatSE
import Derived.Test.YtfilkbfkhdaakaaGreatWI
set_option linter.unusedVariables false
set_option linter.unusedSimpArgs false
set_option maxRecDepth 20000
namespace Go.X
open Go.RowKit Go.Proofs Go.Bl
variable {L : Own} {h : PH} {K : PK}
theorem counts_any (m : MemD) (hk : K (.bool (decide (m.status = 2 ∨ m.status = 3))) L h) : Spec Tryz.prog 62 [memV m] L h K := by
  refine x_enter Tryz.func62 rfl (rs := [_]) rfl rfl mixed (by kernel_rfl) rfl rfl ?_
  simp -dsimp -implicitDefEqProofs (disch := first | with_reducible assumption | omega) [go_sem]
  refine xnew fun b1 n_b1 h_b1 => ?_
  try simp only [Apart] at n_b1
  simp -dsimp -implicitDefEqProofs (disch := first | with_reducible assumption | omega) [go_sem]
  by_cases c : m.status = 2
  · simp -dsimp -implicitDefEqProofs (disch := first | with_reducible assumption | omega) [go_sem]
    exact fin_tail (fin_here (by simpa [c] using hk))
  · simp -dsimp -implicitDefEqProofs (disch := first | with_reducible assumption | omega) [go_sem]
    exact fin_tail (fin_here (by simpa [c] using hk))
def few9 (s : StD) : Bool := decide (s.purses.length ≤ 100) && decide (s.members.length ≤ 200) && decide (s.entry.length ≤ 300) && decide (s.exit.length ≤ 300) && decide (s.pool.length ≤ 300) && decide (s.dues.length ≤ 200) && decide (s.motions.length ≤ 40) && decide (s.ring.length ≤ 20) && decide (s.marks.length ≤ 50)
def fewB (s : StD) : Bool := few9 s && s.ring.all (fun b => decide (b.length ≤ 50)) && s.motions.all (fun m => decide (m.yes.length ≤ 50) && decide (m.no.length ≤ 50))
theorem few9_len {s : StD} (hf : few9 s = true) : s.purses.length ≤ 100 ∧ s.members.length ≤ 200 ∧ s.entry.length ≤ 300 ∧ s.exit.length ≤ 300 ∧ s.pool.length ≤ 300 ∧ s.dues.length ≤ 200 ∧ s.motions.length ≤ 40 ∧ s.ring.length ≤ 20 ∧ s.marks.length ≤ 50 := by
  simp only [few9, Bool.and_eq_true, decide_eq_true_eq] at hf
  omega
theorem fewB_9 {s : StD} (hf : fewB s = true) : few9 s = true := by
  simp only [fewB, Bool.and_eq_true] at hf
  exact hf.1.1
theorem fewB_S {s : StD} (hf : fewB s = true) : FewS s := by
  have := few9_len (fewB_9 hf)
  exact ⟨by omega, by omega, by omega, by omega, by omega, by omega, by omega, by omega⟩
set_option maxHeartbeats 6400000 in
theorem few24_any {s : StD} (v : SV) (hs : IsSt h v s) (hk : K (.bool (fewB s)) L h) : Spec Tryz.prog 14 [stV s v] L h K := by
  obtain ⟨pa, pc, ma, mc, ea, ec, xa, xc, oa, oc, da, dc, ta, tc, ka, kc, ra, rc, rfl⟩ := hs.slices
  have no : fewB s = false → K (.bool false) L h := fun e => by rwa [e] at hk
  refine x_enter Tryz.func14 rfl (rs := [_]) rfl rfl mixed (by kernel_rfl) rfl rfl ?_
  simp -dsimp -implicitDefEqProofs (disch := first | with_reducible assumption | omega) [go_sem]
  refine xnew fun b1 n_b1 h_b1 => ?_
  try simp only [Apart] at n_b1
  simp -dsimp -implicitDefEqProofs (disch := first | with_reducible assumption | omega) [go_sem]
  by_cases c1 : 100 < s.purses.length
  · have := no (by simp only [fewB, few9, decide_eq_false (p := s.purses.length ≤ 100) (by omega), Bool.false_and, Bool.and_false])
    simp -dsimp -implicitDefEqProofs (disch := first | with_reducible assumption | omega) [go_sem]
    exact fin_tail (fin_here this)
  by_cases c2 : 200 < s.members.length
  · have := no (by simp only [fewB, few9, decide_eq_false (p := s.members.length ≤ 200) (by omega), Bool.false_and, Bool.and_false])
    simp -dsimp -implicitDefEqProofs (disch := first | with_reducible assumption | omega) [go_sem]
    exact fin_tail (fin_here this)
  by_cases c3 : 300 < s.entry.length
  · have := no (by simp only [fewB, few9, decide_eq_false (p := s.entry.length ≤ 300) (by omega), Bool.false_and, Bool.and_false])
    simp -dsimp -implicitDefEqProofs (disch := first | with_reducible assumption | omega) [go_sem]
    exact fin_tail (fin_here this)
  by_cases c4 : 300 < s.exit.length
  · have := no (by simp only [fewB, few9, decide_eq_false (p := s.exit.length ≤ 300) (by omega), Bool.false_and, Bool.and_false])
    simp -dsimp -implicitDefEqProofs (disch := first | with_reducible assumption | omega) [go_sem]
    exact fin_tail (fin_here this)
  by_cases c5 : 300 < s.pool.length
  · have := no (by simp only [fewB, few9, decide_eq_false (p := s.pool.length ≤ 300) (by omega), Bool.false_and, Bool.and_false])
    simp -dsimp -implicitDefEqProofs (disch := first | with_reducible assumption | omega) [go_sem]
    exact fin_tail (fin_here this)
  by_cases c6 : 200 < s.dues.length
  · have := no (by simp only [fewB, few9, decide_eq_false (p := s.dues.length ≤ 200) (by omega), Bool.false_and, Bool.and_false])
    simp -dsimp -implicitDefEqProofs (disch := first | with_reducible assumption | omega) [go_sem]
    exact fin_tail (fin_here this)
  by_cases c7 : 40 < s.motions.length
  · have := no (by simp only [fewB, few9, decide_eq_false (p := s.motions.length ≤ 40) (by omega), Bool.false_and, Bool.and_false])
    simp -dsimp -implicitDefEqProofs (disch := first | with_reducible assumption | omega) [go_sem]
    exact fin_tail (fin_here this)
  by_cases c8 : 20 < s.ring.length
  · have := no (by simp only [fewB, few9, decide_eq_false (p := s.ring.length ≤ 20) (by omega), Bool.false_and, Bool.and_false])
    simp -dsimp -implicitDefEqProofs (disch := first | with_reducible assumption | omega) [go_sem]
    exact fin_tail (fin_here this)
  by_cases c9 : 50 < s.marks.length
  · have := no (by simp only [fewB, few9, decide_eq_false (p := s.marks.length ≤ 50) (by omega), Bool.false_and, Bool.and_false])
    simp -dsimp -implicitDefEqProofs (disch := first | with_reducible assumption | omega) [go_sem]
    exact fin_tail (fin_here this)
  have f9 : few9 s = true := by
    simp only [few9, Bool.and_eq_true, decide_eq_true_eq]
    omega
  obtain ⟨qr, hdr, tr⟩ := hs.r
  have hqr : qr.length = s.ring.length := by rw [← tr, xsL_len]
  simp only at hdr
  obtain ⟨_, _, hre, _, _, _, hcr, hdd⟩ := hdr.open
  injection hre with hre1 hre2 hre3
  subst hre1
  subst hre3
  have hcr' : ∀ j, j < s.ring.length → elemCell h ra j = some ((fun j => (gs qr j).1) j) := fun j hj => hcr j (by omega)
  have hgs : ∀ j, j < qr.length → gr [] s.ring j = (gs qr j).2 := fun j hj => by
    rw [← tr, gr_lt (by rw [xsL_len]; exact hj), gs_lt hj]; simp [xsL]
  simp -dsimp -implicitDefEqProofs (disch := first | with_reducible assumption | omega) [go_sem]
  refine xloop (0 : Nat) (fun k => k ≤ s.ring.length ∧ ∀ j, j < k → (fun b : List Int => decide (b.length ≤ 50)) (gr [] s.ring j) = true) (fun k => [(62, .int .i64 k), (61, .int .i64 s.ring.length), (60, .slice ra s.ring.length rc), (1, .pointer (some ⟨b1, 0, none⟩))]) (fun _ => ⟨b1, 34, stC s ⟨.slice pa s.purses.length pc, .slice ma s.members.length mc, .slice ea s.entry.length ec, .slice xa s.exit.length xc, .slice oa s.pool.length oc, .slice da s.dues.length dc, .slice ta s.motions.length tc, .slice ka s.marks.length kc, .slice ra s.ring.length rc⟩, 41⟩ :: L) (fun _ => h) (fun k => s.ring.length - k) ?_ ?_ ?_ ?_
  · exact ⟨Nat.zero_le _, fun j hj => by omega⟩
  · simp [Ent, List.lookup, xEnv]
  · exact Drop.refl _ _
  rintro k ⟨k1, k2⟩
  by_cases d1 : k < s.ring.length
  · have hi := hdd.at (i := k) (by omega)
    obtain ⟨x1, y1, hv1, _⟩ := hi.open
    have hg := hgs k (by omega)
    simp -dsimp -implicitDefEqProofs (disch := first | with_reducible assumption | omega) [go_sem, idx hcr', hv1]
    by_cases d2 : 50 < (gs qr k).2.length
    · have := no (by simp only [fewB, not_all_gr [] (fun b : List Int => decide (b.length ≤ 50)) s.ring d1 (by rw [hg]; exact decide_eq_false (by omega)), Bool.false_and, Bool.and_false])
      simp -dsimp -implicitDefEqProofs (disch := first | with_reducible assumption | omega) [go_sem]
      exact fin_tail (fin_here this)
    · simp -dsimp -implicitDefEqProofs (disch := first | with_reducible assumption | omega) [go_sem]
      refine ⟨k + 1, ⟨by omega, fun j hj => ?_⟩, by omega, by simp [Ent, List.lookup], Drop.refl _ _⟩
      by_cases e : j = k
      · subst e; rw [hg]; first | omega | exact decide_eq_true (by omega)
      · first | exact k2 j (by omega) | simpa using k2 j (by omega)
  have hkl : k = s.ring.length := by omega
  subst hkl
  have rall := all_gr [] (fun b : List Int => decide (b.length ≤ 50)) s.ring k2
  clear k2 d1 k1
  obtain ⟨q, hd, t2, t3⟩ := hs.t
  have hql : q.length = s.motions.length := by rw [← t2, List.length_map]
  have hgr : ∀ k, k < q.length → gr zeroMot s.motions k = (gr zeroQM q k).2.2 := fun k hk => by
    rw [gr_lt hk, gr_lt (by omega)]
    simp only [← t2, List.getElem_map]
  simp only at hd
  simp -dsimp -implicitDefEqProofs (disch := first | with_reducible assumption | omega) [go_sem]
  refine xloop (0 : Nat) (fun k => k ≤ s.motions.length ∧ ∀ j, j < k → (fun m : MotD => decide (m.yes.length ≤ 50) && decide (m.no.length ≤ 50)) (gr zeroMot s.motions j) = true) (fun k => [(73, .int .i64 k), (72, .int .i64 s.motions.length), (71, .slice ta s.motions.length tc), (1, .pointer (some ⟨b1, 0, none⟩))]) (fun _ => ⟨b1, 34, stC s ⟨.slice pa s.purses.length pc, .slice ma s.members.length mc, .slice ea s.entry.length ec, .slice xa s.exit.length xc, .slice oa s.pool.length oc, .slice da s.dues.length dc, .slice ta s.motions.length tc, .slice ka s.marks.length kc, .slice ra s.ring.length rc⟩, 41⟩ :: L) (fun _ => h) (fun k => s.motions.length - k) ?_ ?_ ?_ ?_
  · exact ⟨Nat.zero_le _, fun j hj => by omega⟩
  · simp [Ent, List.lookup, xEnv]
  · exact Drop.refl _ _
  rintro k ⟨k1, k2⟩
  by_cases d1 : k < s.motions.length
  · have hx : IsMot h (gr zeroQM q k) := by rw [gr_lt (by omega)]; exact t3 _ (List.getElem_mem (by omega))
    have hg := hgr k (by omega)
    obtain ⟨x1, y1, hv1, _⟩ := hx.y.open
    obtain ⟨x2, y2, hv2, _⟩ := hx.n.open
    simp -dsimp -implicitDefEqProofs (disch := first | with_reducible assumption | omega) [go_sem, ↓idxR zeroQM (by decide) hd, motC]
    refine xnew fun b2 n_b2 h_b2 => ?_
    try simp only [Apart] at n_b2
    simp -dsimp -implicitDefEqProofs (disch := first | with_reducible assumption | omega) [go_sem, motC, hv1, hv2]
    by_cases d2 : 50 < (gr zeroQM q k).2.2.yes.length
    · have := no (by simp only [fewB, not_all_gr zeroMot (fun m : MotD => decide (m.yes.length ≤ 50) && decide (m.no.length ≤ 50)) s.motions d1 (by rw [hg]; simp; omega), Bool.and_false])
      simp -dsimp -implicitDefEqProofs (disch := first | with_reducible assumption | omega) [go_sem]
      exact fin_tail (fin_tail (fin_here this))
    by_cases d3 : 50 < (gr zeroQM q k).2.2.no.length
    · have := no (by simp only [fewB, not_all_gr zeroMot (fun m : MotD => decide (m.yes.length ≤ 50) && decide (m.no.length ≤ 50)) s.motions d1 (by rw [hg]; simp; omega), Bool.and_false])
      simp -dsimp -implicitDefEqProofs (disch := first | with_reducible assumption | omega) [go_sem]
      exact fin_tail (fin_tail (fin_here this))
    simp -dsimp -implicitDefEqProofs (disch := first | with_reducible assumption | omega) [go_sem]
    refine ⟨k + 1, ⟨by omega, fun j hj => ?_⟩, by omega, by simp [Ent, List.lookup], Drop.tail _ _ _⟩
    by_cases e : j = k
    · subst e; rw [hg]; first | omega | (simp; omega)
    · first | exact k2 j (by omega) | simpa using k2 j (by omega)
  · have hkl : k = s.motions.length := by omega
    subst hkl
    have tall := all_gr zeroMot (fun m : MotD => decide (m.yes.length ≤ 50) && decide (m.no.length ≤ 50)) s.motions k2
    have yes : fewB s = true := by simp only [fewB, f9, rall, tall, Bool.and_self]
    rw [yes] at hk
    simp -dsimp -implicitDefEqProofs (disch := first | with_reducible assumption | omega) [go_sem]
    exact fin_tail (fin_here hk)
/-- what a member has at stake -/
def stkM (m : MemD) : Int := if m.status = 2 ∨ m.status = 3 then m.eff else 0
theorem stkM_ok {m : MemD} (mo : MemOk m) : 0 ≤ stkM m ∧ stkM m ≤ 18446744073709551615 := by
  have := mo.u m.eff (by simp)
  unfold stkM
  split <;> omega
def stkL (s : StD) : List Int := s.members.map stkM
theorem zeros_ints {h : PH} {v : Value} {n : Nat} (sl : Sl h v n 1 (List.replicate n (.int .u8 0))) : Ints h .u8 v (List.replicate n 0) :=
  ⟨by simpa [List.map_replicate] using sl, fun z hz => by rw [List.eq_of_mem_replicate hz]; decide⟩
end Go.X

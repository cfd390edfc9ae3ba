/- Part of the proof of a statement about the given program: lemmas and contracts. Conditions: as each says. -/
import Derived.Test.YtemlppiklgeogaaGreatQ03
import Derived.Test.YtemlppiklgeogaaGreatQ04
import Derived.Test.YtemlppiklgeogaaGreatQ06
import Derived.Test.YtemlppiklgeogaaGreatQ07
import Derived.Test.YtemlppiklgeogaaGreatQ09
import Derived.Test.YtemlppiklgeogaaGreatQ11
/- Contracts of what makes certificates anew: slices.Clone, bits' own and Set, (cert.Cert).own, Sign. Conditions: the values read as certificates, lists not too long. -/
set_option linter.unusedVariables false
set_option linter.unusedSimpArgs false
namespace Go.X
open Go.RowKit Go.Proofs Go.Bl
variable {L : Own} {h : PH} {K : PK}

end Go.X
/-! Contracts of bullionref06.Pack, bullionref40.with and bullionref40.Sign. Conditions: lists of at most some hundreds. -/
namespace Go.X
open Go.RowKit Go.Proofs Go.Bl
variable {L : Own} {h : PH} {K : PK}

def bol (bl : List Bool) (i : Nat) : Bool := bl.getD i false
def Bools (h : PH) (v : Value) (bl : List Bool) : Prop := Sl h v bl.length 1 (bl.map Value.bool)
theorem Bools.open {v : Value} {bl : List Bool} (hs : Bools h v bl) : ∃ a cap, v = .slice a bl.length cap ∧ bl.length ≤ cap ∧ (a = none → cap = 0) ∧ ∀ j, j < bl.length → elemCell h a j = some (.bool (bol bl j)) := by
  obtain ⟨_, a, cap, h2, h3, h4, h4', h5, h6⟩ := hs
  exact ⟨a, cap, h2, h3, h5, fun j hj => h6 j _ (by simp [bol, hj])⟩
/-- byte j of the bits from m on -/
def PackB (bl : List Bool) (m : Nat) (x : Int) (j : Nat) : Prop :=
  0 ≤ x ∧ x < 2 ^ (8 * j + 8 - max (8 * j) m) ∧ ∀ k, k < 8 * j + 8 - max (8 * j) m → (x / 2 ^ k % 2 = 1 ↔ bol bl (max (8 * j) m + k) = true)
theorem PackB.step {bl : List Bool} {m : Nat} {x : Int} {j : Nat} (hp : PackB bl (m + 1) x j) (hj : m / 8 = j) : 2 * x + (if bol bl m then 1 else 0) ≤ 255 ∧ PackB bl m (2 * x + if bol bl m then 1 else 0) j := by
  obtain ⟨h0, h1, h2⟩ := hp
  have e1 : max (8 * j) (m + 1) = m + 1 := by omega
  have e2 : max (8 * j) m = m := by omega
  obtain ⟨w, hw⟩ : ∃ w, 8 * j + 8 - (m + 1) = w := ⟨_, rfl⟩
  have hw2 : 8 * j + 8 - m = w + 1 := by omega
  have hw3 : w ≤ 7 := by omega
  rw [e1, hw] at h1 h2
  have hb : (0 : Int) ≤ (if bol bl m then 1 else 0) ∧ (if bol bl m then (1 : Int) else 0) ≤ 1 := by split <;> omega
  have hp : (2 : Int) ^ (w + 1) = 2 * 2 ^ w := by rw [Int.pow_succ, Int.mul_comm]
  have hp7 : (2 : Int) ^ w ≤ 128 := by
    have : ∀ w, w ≤ 7 → (2 : Int) ^ w ≤ 128 := by decide
    exact this w hw3
  have hc : (if bol bl m then (1 : Int) else 0) = 1 ↔ bol bl m = true := by split <;> rename_i hc <;> simp [hc]
  generalize (if bol bl m then (1 : Int) else 0) = c at hb hc ⊢
  refine ⟨by omega, by omega, ?_, ?_⟩
  · rw [e2, hw2, hp]; omega
  · intro k hk
    rw [e2, hw2] at hk
    rw [e2]
    cases k with
    | zero =>
      simp only [Int.pow_zero, Int.ediv_one, Nat.add_zero]
      rw [← hc]
      omega
    | succ k =>
      have e3 : (2 : Int) ^ (k + 1) = 2 * 2 ^ k := by rw [Int.pow_succ, Int.mul_comm]
      have e : (2 * x + c) / 2 ^ (k + 1) = x / 2 ^ k := by
        rw [e3, ← Int.ediv_ediv_of_nonneg (show (0 : Int) ≤ 2 by decide), show (2 * x + c) / 2 = x by omega]
      rw [e, h2 k (by omega), show m + 1 + k = m + (k + 1) by omega]
theorem idxB {bl : List Bool} {a : Option Addr} (hc : ∀ j, j < bl.length → elemCell h a j = some (.bool (bol bl j))) : ∀ j, j < bl.length → elemCell h a j = some ((fun j => Value.bool (bol bl j)) j) := hc
end Go.X
/-! Contracts of bullionref40.with and bullionref40.Sign. Conditions: certificates; at most 256 places. -/
namespace Go.X
open Go.RowKit Go.Proofs Go.Bl
variable {L : Own} {h : PH} {K : PK}

end Go.X
/-! Contract of bullionref40.Sign: it hands back what cert.Sign does. Conditions: the value reads as a certificate. -/
namespace Go.X
open Go.RowKit Go.Proofs Go.Bl
variable {L : Own} {h : PH} {K : PK}

end Go.X
/- Contracts of package param: within, all, stakes, scores, others. Conditions: the value reads as parameters. -/
set_option linter.unusedVariables false
set_option linter.unusedSimpArgs false
namespace Go.X
open Go.RowKit Go.Proofs Go.Bl
variable {L : Own} {h : PH} {K : PK}

/-- parameters as a value -/
theorem within64_any (n lo hi : Int) (hk : K (.bool (wi n lo hi)) L h) : Spec Tryz.prog 259 [.int .u64 n, .int .u64 lo, .int .u64 hi] L h K := by
  unfold wi at hk
  refine x_enter Tryz.func259 rfl (rs := [_]) rfl rfl mixed (by kernel_rfl) rfl rfl ?_
  simp -dsimp -implicitDefEqProofs (disch := first | with_reducible assumption | omega) [go_sem]
  by_cases c : lo ≤ n
  · simp -dsimp -implicitDefEqProofs (disch := first | with_reducible assumption | omega) [go_sem]
    exact fin_here (by simpa [c] using hk)
  · simp -dsimp -implicitDefEqProofs (disch := first | with_reducible assumption | omega) [go_sem]
    exact fin_here (by simpa [c] using hk)
theorem withini_any (n lo hi : Int) (hk : K (.bool (wi n lo hi)) L h) : Spec Tryz.prog 260 [.int .i64 n, .int .i64 lo, .int .i64 hi] L h K := by
  unfold wi at hk
  refine x_enter Tryz.func260 rfl (rs := [_]) rfl rfl mixed (by kernel_rfl) rfl rfl ?_
  simp -dsimp -implicitDefEqProofs (disch := first | with_reducible assumption | omega) [go_sem]
  by_cases c : lo ≤ n
  · simp -dsimp -implicitDefEqProofs (disch := first | with_reducible assumption | omega) [go_sem]
    exact fin_here (by simpa [c] using hk)
  · simp -dsimp -implicitDefEqProofs (disch := first | with_reducible assumption | omega) [go_sem]
    exact fin_here (by simpa [c] using hk)
theorem all_any' {bl : List Bool} (v : Value) (hb : Bools h v bl) (hl : bl.length ≤ 100) (hk : K (.bool (bl.all id)) L h) : Spec Tryz.prog 258 [v] L h K := by
  have ob := hb.open
  obtain ⟨a, c, rfl, _, _, hcs⟩ := ob
  refine x_enter Tryz.func258 rfl (rs := [_]) rfl rfl mixed (by kernel_rfl) rfl rfl ?_
  simp -dsimp -implicitDefEqProofs (disch := first | with_reducible assumption | omega) [go_sem]
  refine xloop' (0 : Nat) (fun k => k ≤ bl.length ∧ ∀ j, j < k → bol bl j = true) (fun k => [(7, .int .i64 k), (5, .slice a bl.length c), (6, .int .i64 bl.length)]) (fun k => bl.length - k) ?_ ?_ ?_
  · exact ⟨Nat.zero_le _, fun j hj => by omega⟩
  · simp [Ent, List.lookup]
  intro k ⟨k1, k2⟩
  by_cases d : k < bl.length
  · simp -dsimp -implicitDefEqProofs (disch := first | with_reducible assumption | omega) [go_sem, idx (idxB hcs)]
    cases hg : bol bl k with
    | true =>
      simp -dsimp -implicitDefEqProofs (disch := first | with_reducible assumption | omega) [go_sem]
      refine ⟨k + 1, ⟨by omega, fun j hj => ?_⟩, by omega, by simp [Ent, List.lookup], Drop.refl _ _⟩
      by_cases e : j = k
      · subst e; exact hg
      · exact k2 j (by omega)
    | false =>
      have : bl.all id = false := by
        rw [List.all_eq_false]
        refine ⟨bl[k], List.getElem_mem d, ?_⟩
        simp [bol, d] at hg
        simp [hg]
      rw [this] at hk
      simp -dsimp -implicitDefEqProofs (disch := first | with_reducible assumption | omega) [go_sem]
      exact fin_here hk
  · have : bl.all id = true := by
      rw [List.all_eq_true]
      intro x hx
      obtain ⟨j, hj, rfl⟩ := List.mem_iff_getElem.1 hx
      have := k2 j (by omega)
      simp [bol, hj] at this
      simpa using this
    rw [this] at hk
    simp -dsimp -implicitDefEqProofs (disch := first | with_reducible assumption | omega) [go_sem]
    exact fin_here hk
set_option maxHeartbeats 1600000 in
set_option maxRecDepth 20000 in
theorem stakes_any (p : ParD) (ok : ParOk p) (hk : ∀ h', PH.le h h' → K (.bool (stakesB p)) L h') : Spec Tryz.prog 186 [parV p] L h K := by
  refine x_enter Tryz.func186 rfl (rs := [_]) rfl rfl mixed (by kernel_rfl) rfl rfl ?_
  simp -dsimp -implicitDefEqProofs (disch := first | with_reducible assumption | omega) [go_sem]
  refine xnew fun b1 n_b1 h_b1 => ?_
  try simp only [Apart] at n_b1
  simp -dsimp -implicitDefEqProofs (disch := first | with_reducible assumption | omega) [go_sem]
  refine xanyl (.tk 0 (.tk 3 (.tk 5 (.tk 8 (.tk 10 (.tk 13 (.tk 15 (.tk 18 (.tk 20 (.tk 23 (.tk 25 (.tk 28 (.tkl 1 (.tkl 4 (.tkl 6 (.tkl 9 (.tkl 11 (.tk 12 (.tkl 14 (.tkl 16 (.tk 17 (.tkl 19 (.tkl 21 (.tkl 24 (.tkl 26 (.tkl 29 (.tk 30 (.or true 2 (.or true 7 (.or true 22 (.or true 27 (.or true 31 (.or true 32 (.tk 33 (.tk 34 (.tk 36 (.tkl 35 (.tkl 37 (.tk 38 (.tk 39 (.tk 40 (.tk 41 (.fin)))))))))) (.nil)) (.nil)) (.nil)) (.nil)) (.nil)) (.nil))))))))))))))))))))))))))))) (by kernel_rfl) (by kernel_rfl) _ (Drop.refl _ _) ?_
  simp -dsimp -implicitDefEqProofs (disch := first | with_reducible assumption | omega) [go_sem]
  refine within64_any _ _ _ ?_
  simp -dsimp -implicitDefEqProofs (disch := first | with_reducible assumption | omega) [go_sem]
  refine within64_any _ _ _ ?_
  simp -dsimp -implicitDefEqProofs (disch := first | with_reducible assumption | omega) [go_sem]
  refine within64_any _ _ _ ?_
  simp -dsimp -implicitDefEqProofs (disch := first | with_reducible assumption | omega) [go_sem]
  refine within64_any _ _ _ ?_
  simp -dsimp -implicitDefEqProofs (disch := first | with_reducible assumption | omega) [go_sem]
  refine xnew fun b2 n_b2 h_b2 => ?_
  try simp only [Apart] at n_b2
  refine xkp (Drop.tail _ _ _) ?_
  simp -dsimp -implicitDefEqProofs (disch := first | with_reducible assumption | omega) [go_sem]
  refine call_pub_at (sz := 1) (n := 7) (cap := 7) [] ⟨Nat.le_refl _, by decide⟩ rfl (by decide) h_b2 fun h2 le2 s2 f2 => ?_
  refine all_any' (bl := [wi p.inc 1 2147483648, wi p.maxEff p.inc 1099511627776, decide (p.inc ≤ p.floor), decide (p.floor < p.cap), wi p.cap p.maxEff 1099511627776, wi p.up p.inc 1099511627776, decide (p.down ≤ 1099511627776)]) _ s2 (by simp) ?_
  have hs : stakesB p = ([wi p.inc 1 2147483648, wi p.maxEff p.inc 1099511627776, decide (p.inc ≤ p.floor), decide (p.floor < p.cap), wi p.cap p.maxEff 1099511627776, wi p.up p.inc 1099511627776, decide (p.down ≤ 1099511627776)].all id && decide (p.maxEff % p.inc = 0)) := rfl
  rw [hs] at hk
  cases hB : [wi p.inc 1 2147483648, wi p.maxEff p.inc 1099511627776, decide (p.inc ≤ p.floor), decide (p.floor < p.cap), wi p.cap p.maxEff 1099511627776, wi p.up p.inc 1099511627776, decide (p.down ≤ 1099511627776)].all id with
  | false =>
    rw [hB] at hk
    refine xkp (Drop.forget le2) ?_
    simp only [List.nil_append]
    simp -dsimp -implicitDefEqProofs (disch := first | with_reducible assumption | omega) [go_sem]
    exact fin_tail (fin_here (hk h2 le2))
  | true =>
    rw [hB] at hk
    have h1 : 1 ≤ p.inc := by
      simp only [List.all_cons, List.all_nil, id, Bool.and_eq_true, wi_iff, decide_eq_true_eq, and_true] at hB
      omega
    have h3 := ok.w p.maxEff (by simp [wides])
    refine xkp (Drop.forget le2) ?_
    simp only [List.nil_append]
    simp -dsimp -implicitDefEqProofs (disch := first | with_reducible assumption | omega) [go_sem]
    exact fin_tail (fin_here (by simpa using hk h2 le2))
set_option maxHeartbeats 1600000 in
set_option maxRecDepth 20000 in
theorem scores_any (p : ParD) (hk : ∀ h', PH.le h h' → K (.bool (scoresB p)) L h') : Spec Tryz.prog 187 [parV p] L h K := by
  refine x_enter Tryz.func187 rfl (rs := [_]) rfl rfl mixed (by kernel_rfl) rfl rfl ?_
  simp -dsimp -implicitDefEqProofs (disch := first | with_reducible assumption | omega) [go_sem]
  refine xnew fun b1 n_b1 h_b1 => ?_
  try simp only [Apart] at n_b1
  simp -dsimp -implicitDefEqProofs (disch := first | with_reducible assumption | omega) [go_sem]
  refine xanyl (.tk 0 (.tk 3 (.tk 5 (.tk 8 (.tk 11 (.tk 13 (.tk 16 (.tk 19 (.tkl 1 (.tkl 4 (.tkl 6 (.tkl 9 (.tkl 12 (.tkl 14 (.tkl 17 (.tk 18 (.tkl 20 (.or true 2 (.or true 7 (.or true 10 (.or true 15 (.or true 21 (.or true 22 (.or true 23 (.tk 24 (.fin)) (.nil)) (.nil)) (.nil)) (.nil)) (.nil)) (.nil)) (.nil))))))))))))))))))) (by kernel_rfl) (by kernel_rfl) _ (Drop.refl _ _) ?_
  simp -dsimp -implicitDefEqProofs (disch := first | with_reducible assumption | omega) [go_sem]
  refine within64_any _ _ _ ?_
  simp -dsimp -implicitDefEqProofs (disch := first | with_reducible assumption | omega) [go_sem]
  refine within64_any _ _ _ ?_
  simp -dsimp -implicitDefEqProofs (disch := first | with_reducible assumption | omega) [go_sem]
  refine within64_any _ _ _ ?_
  simp -dsimp -implicitDefEqProofs (disch := first | with_reducible assumption | omega) [go_sem]
  refine within64_any _ _ _ ?_
  simp -dsimp -implicitDefEqProofs (disch := first | with_reducible assumption | omega) [go_sem]
  refine within64_any _ _ _ ?_
  simp -dsimp -implicitDefEqProofs (disch := first | with_reducible assumption | omega) [go_sem]
  refine xnew fun b2 n_b2 h_b2 => ?_
  try simp only [Apart] at n_b2
  refine xkp (Drop.tail _ _ _) ?_
  simp -dsimp -implicitDefEqProofs (disch := first | with_reducible assumption | omega) [go_sem]
  refine call_pub_at (sz := 1) (n := 6) (cap := 6) [] ⟨Nat.le_refl _, by decide⟩ rfl (by decide) h_b2 fun h2 le2 s2 f2 => ?_
  refine all_any' (bl := [wi p.bias 1 4294967296, wi p.biasEm p.bias 4294967296, wi p.quot 1 1099511627776, wi p.quotEm 1 p.quot, decide (p.recover ≤ 4294967296), wi p.scoreCap 1 72057594037927936]) _ s2 (by simp) ?_
  have hs : scoresB p = [wi p.bias 1 4294967296, wi p.biasEm p.bias 4294967296, wi p.quot 1 1099511627776, wi p.quotEm 1 p.quot, decide (p.recover ≤ 4294967296), wi p.scoreCap 1 72057594037927936].all id := rfl
  rw [← hs]
  refine xkp (Drop.forget le2) ?_
  simp only [List.nil_append]
  simp -dsimp -implicitDefEqProofs (disch := first | with_reducible assumption | omega) [go_sem]
  exact fin_tail (fin_here (hk h2 le2))
set_option maxHeartbeats 1600000 in
set_option maxRecDepth 20000 in
theorem others_any (p : ParD) (hk : ∀ h', PH.le h h' → K (.bool (othersB p)) L h') : Spec Tryz.prog 188 [parV p] L h K := by
  refine x_enter Tryz.func188 rfl (rs := [_]) rfl rfl mixed (by kernel_rfl) rfl rfl ?_
  simp -dsimp -implicitDefEqProofs (disch := first | with_reducible assumption | omega) [go_sem]
  refine xnew fun b1 n_b1 h_b1 => ?_
  try simp only [Apart] at n_b1
  simp -dsimp -implicitDefEqProofs (disch := first | with_reducible assumption | omega) [go_sem]
  refine xanyl (.tk 0 (.tk 3 (.tk 6 (.tk 9 (.tk 12 (.tk 15 (.tk 18 (.tk 21 (.tk 24 (.tk 27 (.tk 30 (.tk 33 (.tkl 1 (.tk 2 (.tkl 4 (.tk 5 (.tkl 7 (.tkl 10 (.tkl 13 (.tkl 16 (.tkl 19 (.tkl 22 (.tkl 25 (.tkl 28 (.tkl 31 (.tkl 34 (.or true 8 (.or true 11 (.or true 14 (.or true 17 (.or true 20 (.or true 23 (.or true 26 (.or true 29 (.or true 32 (.or true 35 (.or true 36 (.or true 37 (.tk 38 (.fin)) (.nil)) (.nil)) (.nil)) (.nil)) (.nil)) (.nil)) (.nil)) (.nil)) (.nil)) (.nil)) (.nil)) (.nil)))))))))))))))))))))))))))) (by kernel_rfl) (by kernel_rfl) _ (Drop.refl _ _) ?_
  simp -dsimp -implicitDefEqProofs (disch := first | with_reducible assumption | omega) [go_sem]
  iterate 10
    refine withini_any _ _ _ ?_
    simp -dsimp -implicitDefEqProofs (disch := first | with_reducible assumption | omega) [go_sem]
  refine xnew fun b2 n_b2 h_b2 => ?_
  try simp only [Apart] at n_b2
  refine xkp (Drop.tail _ _ _) ?_
  simp -dsimp -implicitDefEqProofs (disch := first | with_reducible assumption | omega) [go_sem]
  refine call_pub_at (sz := 1) (n := 12) (cap := 12) [] ⟨Nat.le_refl _, by decide⟩ rfl (by decide) h_b2 fun h2 le2 s2 f2 => ?_
  refine all_any' (bl := [decide (p.rate ≤ 4294967296), decide (p.bond ≤ 1099511627776), wi p.delay 0 1000, wi p.wait 0 50, wi p.enact 0 1000, wi p.poll 1 1000, wi p.streak 0 64, wi p.boost 0 1000, wi p.absent 0 10000, wi p.burn 0 10000, wi p.quorum 0 10000, wi p.churn 1 64]) _ s2 (by simp) ?_
  have hs : othersB p = [decide (p.rate ≤ 4294967296), decide (p.bond ≤ 1099511627776), wi p.delay 0 1000, wi p.wait 0 50, wi p.enact 0 1000, wi p.poll 1 1000, wi p.streak 0 64, wi p.boost 0 1000, wi p.absent 0 10000, wi p.burn 0 10000, wi p.quorum 0 10000, wi p.churn 1 64].all id := rfl
  rw [← hs]
  refine xkp (Drop.forget le2) ?_
  simp only [List.nil_append]
  simp -dsimp -implicitDefEqProofs (disch := first | with_reducible assumption | omega) [go_sem]
  exact fin_tail (fin_here (hk h2 le2))
/-- sort.Search: the first of the numbers below n of which it is so, where it is so of all behind one -/
theorem search_any (n : Nat) (q : Nat → Bool) (fv : Value) (hn : n ≤ 4611686018427387904) (hq : ∀ i j, i ≤ j → q i = true → q j = true)
    (hf : ∀ i : Nat, i < n → ∀ K : PK, K (.bool (q i)) L h → xCallV Tryz.prog fv [.int .i64 i] L h K)
    (hk : K (.int .i64 (firstN q n 0)) L h) : Spec Tryz.prog 263 [.int .i64 n, fv] L h K := by
  refine x_enter Tryz.func263 rfl (rs := [_]) rfl rfl mixed (by kernel_rfl) rfl rfl ?_
  simp -dsimp -implicitDefEqProofs (disch := first | with_reducible assumption | omega) [go_sem]
  refine xloop' (γ := Nat × Nat) (0, n) (fun g => g.1 ≤ g.2 ∧ g.2 ≤ n ∧ (∀ k, k < g.1 → q k = false) ∧ (g.2 < n → q g.2 = true)) (fun g => [(5, .int .i64 g.1), (6, .int .i64 g.2), (1, fv)]) (fun g => g.2 - g.1) ?_ ?_ ?_
  · exact ⟨Nat.zero_le _, Nat.le_refl _, fun k hk => by simp only at hk; omega, fun h => by simp only at h; omega⟩
  · simp [Ent, List.lookup, xEnv]
  rintro ⟨i, j⟩ ⟨i1, i2, i3, i4⟩
  simp only at i1 i2 i3 i4 ⊢
  by_cases d : i < j
  · obtain ⟨m, hm⟩ : ∃ m, m = (i + j) / 2 := ⟨_, rfl⟩
    have e : ((i : Int) + (j : Int)) / 2 = (m : Int) := by omega
    simp -dsimp -implicitDefEqProofs (disch := first | with_reducible assumption | omega) [go_sem, e]
    refine Or.inl (hf m (by omega) _ ?_)
    cases hg : q m with
    | true =>
      simp -dsimp -implicitDefEqProofs (disch := first | with_reducible assumption | omega) [go_sem]
      exact ⟨i, m, ⟨by omega, by omega, i3, fun _ => hg⟩, by omega, by simp [Ent, List.lookup], Drop.refl _ _⟩
    | false =>
      simp -dsimp -implicitDefEqProofs (disch := first | with_reducible assumption | omega) [go_sem]
      refine ⟨m + 1, j, ⟨by omega, i2, fun k hk => ?_, i4⟩, by omega, by simp [Ent, List.lookup], Drop.refl _ _⟩
      cases hqk : q k with
      | false => rfl
      | true => rw [hq k m (by omega) hqk] at hg; cases hg
  · have : i = j := by omega
    subst this
    have e : firstN q n 0 = i := firstN_unique (Nat.zero_le _) (by omega) (fun k _ hk => i3 k hk) (fun h => i4 (by omega))
    rw [e] at hk
    simp -dsimp -implicitDefEqProofs (disch := first | with_reducible assumption | omega) [go_sem]
    exact fin_here hk
theorem firstN_shift (q : Nat → Bool) : ∀ (m k : Nat), firstN (fun i => q (i + 1)) m k + 1 = firstN q m (k + 1)
  | 0, k => rfl
  | m + 1, k => by
    simp only [firstN]
    split
    · rfl
    · exact firstN_shift q m (k + 1)
set_option maxHeartbeats 1600000 in
set_option maxRecDepth 20000 in
theorem leak_any (p : ParD) (ok : ParOk p) (h1 : stakesB p = true) (h2 : scoresB p = true) (hk : K (.int .i64 (leakT p)) L h) : Spec Tryz.prog 189 [parV p] L h K := by
  have f1 := stakesB_facts h1
  have f2 := scoresB_facts h2
  refine x_enter Tryz.func189 rfl (rs := [_]) rfl rfl mixed (by kernel_rfl) rfl rfl ?_
  simp -dsimp -implicitDefEqProofs (disch := first | with_reducible assumption | omega) [go_sem]
  refine xnew fun b1 n_b1 h_b1 => ?_
  try simp only [Apart] at n_b1
  simp -dsimp -implicitDefEqProofs (disch := first | with_reducible assumption | omega) [go_sem]
  refine search_any 1048576 (fun i => enough p (i + 1)) _ (by omega) (fun i j hij he => enough_mono (by omega) (by omega) (by omega) he) (fun i hi K' hk' => ?_) ?_
  · have hA : 0 ≤ p.inc * p.bias ∧ p.inc * p.bias ≤ 9223372036854775808 :=
      ⟨Int.mul_nonneg (by omega) (by omega), Int.le_trans (Int.mul_le_mul f1.2.1 f2.2.1 (by omega) (by omega)) (by decide)⟩
    have hB : 0 ≤ ((i : Int) + 1) * ((i : Int) + 1 + 1) ∧ ((i : Int) + 1) * ((i : Int) + 1 + 1) ≤ 1099513724929 :=
      ⟨Int.mul_nonneg (by omega) (by omega), Int.le_trans (Int.mul_le_mul (show (i : Int) + 1 ≤ 1048576 by omega) (show (i : Int) + 1 + 1 ≤ 1048577 by omega) (by omega) (by omega)) (by decide)⟩
    simp -dsimp -implicitDefEqProofs (disch := first | with_reducible assumption | omega) [go_sem]
    refine x_enter Tryz.func261 rfl (rs := [_]) rfl rfl mixed (by kernel_rfl) rfl rfl ?_
    simp -dsimp -implicitDefEqProofs (disch := first | with_reducible assumption | omega) [go_sem]
    refine rless_any _ _ _ _ (by omega) (by omega) (by omega) (by omega) ?_
    simp -dsimp -implicitDefEqProofs (disch := first | with_reducible assumption | omega) [go_sem]
    refine fin_here ?_
    have e : enough p (i + 1) = !decide (p.inc * p.bias * (((i : Int) + 1) * ((i : Int) + 1 + 1)) < 2 * p.quot * (p.cap - p.floor)) := by
      unfold enough
      push_cast
      rw [← decide_not, decide_eq_decide]
      omega
    rw [e] at hk'
    simpa using hk'
  · have e := firstN_shift (enough p) 1048576 0
    have hl := (firstN_spec (fun i => enough p (i + 1)) 1048576 0).2.1
    have e2 : leakT p = firstN (fun i => enough p (i + 1)) 1048576 0 + 1 := by rw [e]; rfl
    rw [e2] at hk
    simp -dsimp -implicitDefEqProofs (disch := first | with_reducible assumption | omega) [go_sem]
    exact fin_tail (fin_here (by simpa using hk))
set_option maxHeartbeats 1600000 in
set_option maxRecDepth 20000 in
theorem pcheck_any (p : ParD) (ok : ParOk p) (hk : ∀ h', PH.le h h' → K (.int .i64 (if parR p then 0 else 70)) L h') : Spec Tryz.prog 79 [parV p] L h K := by
  refine x_enter Tryz.func79 rfl (rs := [_]) rfl rfl mixed (by kernel_rfl) rfl rfl ?_
  simp -dsimp -implicitDefEqProofs (disch := first | with_reducible assumption | omega) [go_sem]
  refine xnew fun b1 n_b1 h_b1 => ?_
  try simp only [Apart] at n_b1
  simp -dsimp -implicitDefEqProofs (disch := first | with_reducible assumption | omega) [go_sem]
  refine Spec.ap (stakes_any p ok fun h2 le2 ap => ?_)
  obtain ⟨q2, _⟩ := ap
  cases h1 : stakesB p with
  | false =>
    rw [show parR p = false by simp [parR, h1]] at hk
    simp -dsimp -implicitDefEqProofs (disch := first | with_reducible assumption | omega) [go_sem]
    exact fin_tail (fin_here (hk h2 le2))
  | true =>
    simp -dsimp -implicitDefEqProofs (disch := first | with_reducible assumption | omega) [go_sem]
    refine Spec.ap (scores_any p fun h3 le3 ap => ?_)
    obtain ⟨q3, _⟩ := ap
    cases h2' : scoresB p with
    | false =>
      rw [show parR p = false by simp [parR, h2']] at hk
      simp -dsimp -implicitDefEqProofs (disch := first | with_reducible assumption | omega) [go_sem]
      exact fin_tail (fin_here (hk h3 (le2.trans le3)))
    | true =>
      simp -dsimp -implicitDefEqProofs (disch := first | with_reducible assumption | omega) [go_sem]
      refine Spec.ap (others_any p fun h4 le4 ap => ?_)
      obtain ⟨q4, _⟩ := ap
      cases h3' : othersB p with
      | false =>
        rw [show parR p = false by simp [parR, h3']] at hk
        simp -dsimp -implicitDefEqProofs (disch := first | with_reducible assumption | omega) [go_sem]
        exact fin_tail (fin_here (hk h4 (le2.trans (le3.trans le4))))
      | true =>
        have f1 := stakesB_facts h1
        have f2 := scoresB_facts h2'
        have hl := (firstN_spec (enough p) 1048576 1).2.1
        have hl1 : leakT p ≤ 1048577 := by unfold leakT; omega
        have e : parR p = (decide (leakT p ≤ 1048576) && decide (p.bias * (leakT p : Int) ≤ p.scoreCap)) := by simp [parR, h1, h2', h3']
        have hA : 0 ≤ p.bias * (leakT p : Int) ∧ p.bias * (leakT p : Int) ≤ 4503603922337792 :=
          ⟨Int.mul_nonneg (by omega) (by omega), Int.le_trans (Int.mul_le_mul f2.2.1 (show (leakT p : Int) ≤ 1048577 by omega) (by omega) (by omega)) (by decide)⟩
        rw [e] at hk
        simp -dsimp -implicitDefEqProofs (disch := first | with_reducible assumption | omega) [go_sem]
        refine leak_any p ok h1 h2' ?_
        by_cases d1 : leakT p ≤ 1048576
        · by_cases d2 : p.bias * (leakT p : Int) ≤ p.scoreCap
          · simp -dsimp -implicitDefEqProofs (disch := first | with_reducible assumption | omega) [go_sem]
            exact fin_tail (fin_here (by simpa [d1, d2] using hk h4 (le2.trans (le3.trans le4))))
          · simp -dsimp -implicitDefEqProofs (disch := first | with_reducible assumption | omega) [go_sem]
            exact fin_tail (fin_here (by simpa [d1, d2] using hk h4 (le2.trans (le3.trans le4))))
        · simp -dsimp -implicitDefEqProofs (disch := first | with_reducible assumption | omega) [go_sem]
          exact fin_tail (fin_here (by simpa [d1] using hk h4 (le2.trans (le3.trans le4))))
end Go.X
/- Contracts of certificates' weights: signed, weigh, Weight, Final of package cert; Weight of bullionref40; Plain, few of bullionlaw40. Conditions: the values read as certificates; for weights: right ones. -/
set_option linter.unusedVariables false
set_option linter.unusedSimpArgs false
namespace Go.X
open Go.RowKit Go.Proofs Go.Bl
variable {L : Own} {h : PH} {K : PK}

theorem IsCert.range {v : Value} {c : CertD} (hc : IsCert h v c) (i : Nat) : 0 ≤ at0 c.st i ∧ at0 c.st i ≤ 18446744073709551615 := by
  obtain ⟨_, _, _, hs, _⟩ := hc; exact hs.word i
end Go.X
/- Contracts of package deed: within, paid, bare, same. Conditions: the values read as deeds. -/
set_option linter.unusedVariables false
set_option linter.unusedSimpArgs false
namespace Go.X
open Go.RowKit Go.Proofs Go.Bl
variable {L : Own} {h : PH} {K : PK}

abbrev deedC (d : DeedD) (bv : Value) : List Value := [.int .i64 d.kind, .int .i64 d.acct, .int .i64 d.mem, .int .i64 d.to, .int .u64 d.amt, .int .i64 d.ep, bv, .int .i64 d.what, .int .u64 d.par.inc, .int .u64 d.par.maxEff, .int .u64 d.par.floor, .int .u64 d.par.cap, .int .u64 d.par.up, .int .u64 d.par.down, .int .u64 d.par.bias, .int .u64 d.par.quot, .int .u64 d.par.biasEm, .int .u64 d.par.quotEm, .int .u64 d.par.recover, .int .u64 d.par.scoreCap, .int .u64 d.par.rate, .int .u64 d.par.bond, .int .i64 d.par.delay, .int .i64 d.par.streak, .int .i64 d.par.boost, .int .i64 d.par.absent, .int .i64 d.par.burn, .int .i64 d.par.churn, .int .i64 d.par.wait, .int .i64 d.par.poll, .int .i64 d.par.enact, .int .i64 d.par.quorum, .int .i64 d.mot, .bool d.yes]
abbrev deedV (d : DeedD) (bv : Value) : Value := .agg #[.int .i64 d.kind, .int .i64 d.acct, .int .i64 d.mem, .int .i64 d.to, .int .u64 d.amt, .int .i64 d.ep, bv, .int .i64 d.what, .int .u64 d.par.inc, .int .u64 d.par.maxEff, .int .u64 d.par.floor, .int .u64 d.par.cap, .int .u64 d.par.up, .int .u64 d.par.down, .int .u64 d.par.bias, .int .u64 d.par.quot, .int .u64 d.par.biasEm, .int .u64 d.par.quotEm, .int .u64 d.par.recover, .int .u64 d.par.scoreCap, .int .u64 d.par.rate, .int .u64 d.par.bond, .int .i64 d.par.delay, .int .i64 d.par.streak, .int .i64 d.par.boost, .int .i64 d.par.absent, .int .i64 d.par.burn, .int .i64 d.par.churn, .int .i64 d.par.wait, .int .i64 d.par.poll, .int .i64 d.par.enact, .int .i64 d.par.quorum, .int .i64 d.mot, .bool d.yes]
structure IsDeed (h : PH) (bv : Value) (d : DeedD) : Prop where
  i : Ints h .u8 bv d.bits
  ok : DeedOk d
theorem IsDeed.up {h h' : PH} (le : PH.le h h') {bv : Value} {d : DeedD} (hd : IsDeed h bv d) : IsDeed h' bv d := ⟨hd.i.up le, hd.ok⟩
theorem dwithin_any (n lo hi : Int) (hk : K (.bool (wi n lo hi)) L h) : Spec Tryz.prog 228 [.int .i64 n, .int .i64 lo, .int .i64 hi] L h K := by
  unfold wi at hk
  refine x_enter Tryz.func228 rfl (rs := [_]) rfl rfl mixed (by kernel_rfl) rfl rfl ?_
  simp -dsimp -implicitDefEqProofs (disch := first | with_reducible assumption | omega) [go_sem]
  by_cases c : lo ≤ n
  · simp -dsimp -implicitDefEqProofs (disch := first | with_reducible assumption | omega) [go_sem]
    exact fin_here (by simpa [c] using hk)
  · simp -dsimp -implicitDefEqProofs (disch := first | with_reducible assumption | omega) [go_sem]
    exact fin_here (by simpa [c] using hk)
set_option maxRecDepth 20000 in
theorem paid_any {d : DeedD} (bv : Value) (hd : IsDeed h bv d) (hk : K (.bool (paidD d)) L h) : Spec Tryz.prog 231 [deedV d bv] L h K := by
  have ob := hd.i.open
  obtain ⟨a, c, rfl, _⟩ := ob
  unfold paidD at hk
  refine x_enter Tryz.func231 rfl (rs := [_]) rfl rfl mixed (by kernel_rfl) rfl rfl ?_
  simp -dsimp -implicitDefEqProofs (disch := first | with_reducible assumption | omega) [go_sem]
  refine xnew fun b1 n_b1 h_b1 => ?_
  try simp only [Apart] at n_b1
  simp -dsimp -implicitDefEqProofs (disch := first | with_reducible assumption | omega) [go_sem]
  refine dwithin_any _ _ _ ?_
  cases hw : wi d.kind 1 3 with
  | true =>
    rw [hw] at hk
    simp -dsimp -implicitDefEqProofs (disch := first | with_reducible assumption | omega) [go_sem]
    exact fin_tail (fin_here hk)
  | false =>
    rw [hw] at hk
    by_cases k6 : d.kind = 6
    · simp -dsimp -implicitDefEqProofs (disch := first | with_reducible assumption | omega) [go_sem]
      exact fin_tail (fin_here (by simpa [k6] using hk))
    · simp -dsimp -implicitDefEqProofs (disch := first | with_reducible assumption | omega) [go_sem]
      exact fin_tail (fin_here (by simpa [k6] using hk))
set_option maxHeartbeats 4000000 in
set_option maxRecDepth 20000 in
theorem bare_any {d : DeedD} (bv : Value) (hd : IsDeed h bv d) (hk : K (deedV (bareD d) (if d.kind = 5 then bv else .slice none 0 0)) L h) : Spec Tryz.prog 230 [deedV d bv] L h K := by
  have ob := hd.i.open
  obtain ⟨a, c, rfl, _⟩ := ob
  refine x_enter Tryz.func230 rfl (rs := [_]) rfl rfl mixed (by kernel_rfl) rfl rfl ?_
  simp -dsimp -implicitDefEqProofs (disch := first | with_reducible assumption | omega) [go_sem]
  refine xnew fun b1 n_b1 h_b1 => ?_
  try simp only [Apart] at n_b1
  simp -dsimp -implicitDefEqProofs (disch := first | with_reducible assumption | omega) [go_sem]
  refine xnew fun b2 n_b2 h_b2 => ?_
  try simp only [Apart] at n_b2
  simp -dsimp -implicitDefEqProofs (disch := first | with_reducible assumption | omega) [go_sem]
  refine xnew fun b3 n_b3 h_b3 => ?_
  try simp only [Apart] at n_b3
  simp -dsimp -implicitDefEqProofs (disch := first | with_reducible assumption | omega) [go_sem]
  by_cases k1 : d.kind = 1
  · have e : bareD d = ⟨d.kind, d.acct, 0, d.to, d.amt, 0, [], 0, zeroP, 0, false⟩ := by simp [bareD, zeroD, k1]
    rw [e, if_neg (by omega)] at hk
    simp -dsimp -implicitDefEqProofs (disch := first | with_reducible assumption | omega) [go_sem]
    refine xanyl (.tk 0 (.tk 2 (.tkl 1 (.tk 4 (.or true 3 (.or false 5 (.tk 6 (.or false 7 (.fin) (.nil))) (.nil)) (.or false 5 (.or true 3 (.tk 6 (.or false 7 (.fin) (.nil))) (.nil)) (.nil))))))) (by kernel_rfl) (by kernel_rfl) [⟨b1, 85, deedC d (.slice a d.bits.length c), 34⟩] (Drop.mem (by simp)) ?_
    repeat' first
      | with_reducible refine xpl_or ?_ ?_
      | with_reducible refine xkp (Drop.mem (by simp)) ?_
      | simp -dsimp -implicitDefEqProofs (disch := first | with_reducible assumption | omega) [go_sem]
    all_goals exact fin_tail (fin_tail (fin_tail (fin_here hk)))
  by_cases k2 : d.kind = 2
  · have e : bareD d = ⟨d.kind, d.acct, 0, 0, d.amt, 0, [], 0, zeroP, 0, false⟩ := by simp [bareD, zeroD, k2]
    rw [e, if_neg (by omega)] at hk
    simp -dsimp -implicitDefEqProofs (disch := first | with_reducible assumption | omega) [go_sem]
    exact fin_tail (fin_tail (fin_tail (fin_here hk)))
  by_cases k3 : d.kind = 3
  · have e : bareD d = ⟨d.kind, d.acct, d.mem, 0, d.amt, 0, [], 0, zeroP, 0, false⟩ := by simp [bareD, zeroD, k3]
    rw [e, if_neg (by omega)] at hk
    simp -dsimp -implicitDefEqProofs (disch := first | with_reducible assumption | omega) [go_sem]
    refine xanyl (.tk 0 (.tk 2 (.tkl 1 (.tk 4 (.or true 3 (.or false 5 (.tk 6 (.or false 7 (.fin) (.nil))) (.nil)) (.or false 5 (.or true 3 (.tk 6 (.or false 7 (.fin) (.nil))) (.nil)) (.nil))))))) (by kernel_rfl) (by kernel_rfl) [⟨b1, 85, deedC d (.slice a d.bits.length c), 34⟩] (Drop.mem (by simp)) ?_
    repeat' first
      | with_reducible refine xpl_or ?_ ?_
      | with_reducible refine xkp (Drop.mem (by simp)) ?_
      | simp -dsimp -implicitDefEqProofs (disch := first | with_reducible assumption | omega) [go_sem]
    all_goals exact fin_tail (fin_tail (fin_tail (fin_here hk)))
  by_cases k4 : d.kind = 4
  · have e : bareD d = ⟨d.kind, d.acct, d.mem, 0, 0, 0, [], 0, zeroP, 0, false⟩ := by simp [bareD, zeroD, k4]
    rw [e, if_neg (by omega)] at hk
    simp -dsimp -implicitDefEqProofs (disch := first | with_reducible assumption | omega) [go_sem]
    exact fin_tail (fin_tail (fin_tail (fin_here hk)))
  by_cases k5 : d.kind = 5
  · have e : bareD d = ⟨d.kind, 0, 0, 0, 0, d.ep, d.bits, 0, zeroP, 0, false⟩ := by simp [bareD, zeroD, k5]
    rw [e, if_pos k5] at hk
    simp -dsimp -implicitDefEqProofs (disch := first | with_reducible assumption | omega) [go_sem]
    refine xanyl (.tk 0 (.tk 2 (.tk 4 (.or true 1 (.or true 3 (.or false 5 (.tk 6 (.or false 7 (.tk 8 (.or false 9 (.fin) (.nil))) (.nil))) (.nil)) (.or false 5 (.tk 6 (.or true 3 (.or false 7 (.tk 8 (.or false 9 (.fin) (.nil))) (.nil)) (.or false 7 (.or true 3 (.tk 8 (.or false 9 (.fin) (.nil))) (.nil)) (.nil)))) (.nil))) (.or true 3 (.or true 1 (.or false 5 (.tk 6 (.or false 7 (.tk 8 (.or false 9 (.fin) (.nil))) (.nil))) (.nil)) (.or false 5 (.or true 1 (.tk 6 (.or false 7 (.tk 8 (.or false 9 (.fin) (.nil))) (.nil))) (.nil)) (.nil))) (.or false 5 (.or true 1 (.tk 6 (.or true 3 (.or false 7 (.tk 8 (.or false 9 (.fin) (.nil))) (.nil)) (.or false 7 (.or true 3 (.tk 8 (.or false 9 (.fin) (.nil))) (.nil)) (.nil)))) (.or true 3 (.or true 1 (.tk 6 (.or false 7 (.tk 8 (.or false 9 (.fin) (.nil))) (.nil))) (.nil)) (.nil))) (.nil))))))) (by kernel_rfl) (by kernel_rfl) [⟨b1, 85, deedC d (.slice a d.bits.length c), 34⟩] (Drop.mem (by simp)) ?_
    repeat' first
      | with_reducible refine xpl_or ?_ ?_
      | with_reducible refine xkp (Drop.mem (by simp)) ?_
      | simp -dsimp -implicitDefEqProofs (disch := first | with_reducible assumption | omega) [go_sem]
    all_goals exact fin_tail (fin_tail (fin_tail (fin_here hk)))
  by_cases k7 : d.kind = 7
  · have e : bareD d = ⟨d.kind, d.acct, d.mem, 0, 0, 0, [], 0, zeroP, d.mot, d.yes⟩ := by simp [bareD, zeroD, k7]
    rw [e, if_neg (by omega)] at hk
    simp -dsimp -implicitDefEqProofs (disch := first | with_reducible assumption | omega) [go_sem]
    refine xanyl (.tk 0 (.tk 2 (.tk 4 (.tkl 1 (.tk 6 (.or true 3 (.or true 5 (.or false 7 (.tk 8 (.or false 9 (.tk 10 (.or false 11 (.fin) (.nil))) (.nil))) (.nil)) (.or false 7 (.tk 8 (.or true 5 (.or false 9 (.tk 10 (.or false 11 (.fin) (.nil))) (.nil)) (.or false 9 (.or true 5 (.tk 10 (.or false 11 (.fin) (.nil))) (.nil)) (.nil)))) (.nil))) (.or true 5 (.or true 3 (.or false 7 (.tk 8 (.or false 9 (.tk 10 (.or false 11 (.fin) (.nil))) (.nil))) (.nil)) (.or false 7 (.or true 3 (.tk 8 (.or false 9 (.tk 10 (.or false 11 (.fin) (.nil))) (.nil))) (.nil)) (.nil))) (.or false 7 (.or true 3 (.tk 8 (.or true 5 (.or false 9 (.tk 10 (.or false 11 (.fin) (.nil))) (.nil)) (.or false 9 (.or true 5 (.tk 10 (.or false 11 (.fin) (.nil))) (.nil)) (.nil)))) (.or true 5 (.or true 3 (.tk 8 (.or false 9 (.tk 10 (.or false 11 (.fin) (.nil))) (.nil))) (.nil)) (.nil))) (.nil))))))))) (by kernel_rfl) (by kernel_rfl) [⟨b1, 85, deedC d (.slice a d.bits.length c), 34⟩] (Drop.mem (by simp)) ?_
    repeat' first
      | with_reducible refine xpl_or ?_ ?_
      | with_reducible refine xkp (Drop.mem (by simp)) ?_
      | simp -dsimp -implicitDefEqProofs (disch := first | with_reducible assumption | omega) [go_sem]
    all_goals exact fin_tail (fin_tail (fin_tail (fin_here hk)))
  by_cases k6 : d.kind = 6
  · by_cases w1 : d.what = 1
    · have e : bareD d = ⟨d.kind, d.acct, 0, 0, 0, 0, [], d.what, d.par, 0, false⟩ := by simp [bareD, zeroD, k6, w1]
      rw [e, if_neg (by omega)] at hk
      simp -dsimp -implicitDefEqProofs (disch := first | with_reducible assumption | omega) [go_sem]
      exact fin_tail (fin_tail (fin_tail (fin_here hk)))
    by_cases w2 : d.what = 2
    · have e : bareD d = ⟨d.kind, d.acct, 0, d.to, d.amt, 0, [], d.what, zeroP, 0, false⟩ := by simp [bareD, zeroD, k6, w2]
      rw [e, if_neg (by omega)] at hk
      simp -dsimp -implicitDefEqProofs (disch := first | with_reducible assumption | omega) [go_sem]
      refine xanyl (.tk 0 (.tk 2 (.tkl 1 (.tk 4 (.or true 3 (.or false 5 (.tk 6 (.or false 7 (.fin) (.nil))) (.nil)) (.or false 5 (.or true 3 (.tk 6 (.or false 7 (.fin) (.nil))) (.nil)) (.nil))))))) (by kernel_rfl) (by kernel_rfl) [⟨b1, 85, deedC d (.slice a d.bits.length c), 34⟩] (Drop.mem (by simp)) ?_
      repeat' first
        | with_reducible refine xpl_or ?_ ?_
        | with_reducible refine xkp (Drop.mem (by simp)) ?_
        | simp -dsimp -implicitDefEqProofs (disch := first | with_reducible assumption | omega) [go_sem]
      all_goals exact fin_tail (fin_tail (fin_tail (fin_here hk)))
    have e : bareD d = ⟨d.kind, d.acct, 0, 0, 0, 0, [], d.what, zeroP, 0, false⟩ := by simp [bareD, zeroD, k6, w1, w2]
    rw [e, if_neg (by omega)] at hk
    simp -dsimp -implicitDefEqProofs (disch := first | with_reducible assumption | omega) [go_sem]
    exact fin_tail (fin_tail (fin_tail (fin_here hk)))
  have e : bareD d = ⟨d.kind, d.acct, 0, 0, 0, 0, [], 0, zeroP, 0, false⟩ := by simp [bareD, zeroD, k1, k2, k3, k4, k5, k6, k7]
  rw [e, if_neg (by omega)] at hk
  simp -dsimp -implicitDefEqProofs (disch := first | with_reducible assumption | omega) [go_sem]
  exact fin_tail (fin_tail (fin_tail (fin_here hk)))
end Go.X
/-! Contracts of deed.same and deed.Right. Conditions: the values read as deeds. -/
namespace Go.X
open Go.RowKit Go.Proofs Go.Bl
variable {L : Own} {h : PH} {K : PK}

theorem par_ext {p q : ParD} (hpq : wides p ++ narrows p = wides q ++ narrows q) : p = q := by
  cases p; cases q
  simp only [wides, narrows, List.cons_append, List.nil_append, List.cons.injEq] at hpq
  simp only [ParD.mk.injEq]
  simp only [hpq, and_self]
def parK : List IntKind := [.u64, .u64, .u64, .u64, .u64, .u64, .u64, .u64, .u64, .u64, .u64, .u64, .u64, .u64, .i64, .i64, .i64, .i64, .i64, .i64, .i64, .i64, .i64, .i64]
theorem eqPar {T : Nat} (ht : Tryz.prog.underlying T = some (.struct (Tryz.prog.fieldsOf T))) (hp : Tryz.prog.stoodInHeld T = false) (hg : Tryz.prog.eqGuardType Tryz.prog.depth T = false) (hok : okF Tryz.prog (Tryz.prog.fieldsOf T).toList 0 parK = true)
    (p q : ParD) (x y : Operand) (K : Value → Prop) (t : Tok K) : xBin Tryz.prog .eql T x y (parV p) (parV q) K t = K (.bool (decide (p = q))) := by
  have e : decide (p = q) = decide (wides p ++ narrows p = wides q ++ narrows q) := by
    rw [decide_eq_decide]
    exact ⟨fun h => by rw [h], par_ext⟩
  rw [e]
  exact xBin_eqints (ks := parK) ht hp hg hok (wides p ++ narrows p) (wides q ++ narrows q) rfl rfl x y K t
@[go_sem ↓] theorem eqPar_api (p q : ParD) (x y : Operand) (K : Value → Prop) (t : Tok K) : xBin Tryz.prog .eql 24 x y (parV p) (parV q) K t = K (.bool (decide (p = q))) :=
  eqPar (T := 24) (by kernel_rfl) (by kernel_rfl) (by kernel_rfl) (by kernel_rfl) p q x y K t
@[go_sem ↓] theorem eqPar_ref (p q : ParD) (x y : Operand) (K : Value → Prop) (t : Tok K) : xBin Tryz.prog .eql 40 x y (parV p) (parV q) K t = K (.bool (decide (p = q))) :=
  eqPar (T := 40) (by kernel_rfl) (by kernel_rfl) (by kernel_rfl) (by kernel_rfl) p q x y K t
set_option maxHeartbeats 4000000 in
set_option maxRecDepth 20000 in
theorem dsame_any {a b : DeedD} (bv cv : Value) (ha : Ints h .u8 bv a.bits) (hb : Ints h .u8 cv b.bits) (hk : K (.bool (sameD a b)) L h) : Spec Tryz.prog 229 [deedV a bv, deedV b cv] L h K := by
  have oa := ha.open
  obtain ⟨x1, y1, rfl, _⟩ := oa
  have ob := hb.open
  obtain ⟨x2, y2, rfl, _⟩ := ob
  refine x_enter Tryz.func229 rfl (rs := [_]) rfl rfl mixed (by kernel_rfl) rfl rfl ?_
  simp -dsimp -implicitDefEqProofs (disch := first | with_reducible assumption | omega) [go_sem]
  refine xnew fun b1 n_b1 h_b1 => ?_
  try simp only [Apart] at n_b1
  simp -dsimp -implicitDefEqProofs (disch := first | with_reducible assumption | omega) [go_sem]
  refine xnew fun b2 n_b2 h_b2 => ?_
  try simp only [Apart] at n_b2
  by_cases c1 : a.kind = b.kind
  rotate_left
  · rw [show sameD a b = false by simp [sameD, c1]] at hk
    simp -dsimp -implicitDefEqProofs (disch := first | with_reducible assumption | omega) [go_sem, c1]
    exact fin_tail (fin_tail (fin_here hk))
  by_cases c2 : a.acct = b.acct
  rotate_left
  · rw [show sameD a b = false by simp [sameD, c2]] at hk
    simp -dsimp -implicitDefEqProofs (disch := first | with_reducible assumption | omega) [go_sem, c1, c2]
    exact fin_tail (fin_tail (fin_here hk))
  by_cases c3 : a.mem = b.mem
  rotate_left
  · rw [show sameD a b = false by simp [sameD, c3]] at hk
    simp -dsimp -implicitDefEqProofs (disch := first | with_reducible assumption | omega) [go_sem, c1, c2, c3]
    exact fin_tail (fin_tail (fin_here hk))
  by_cases c4 : a.to = b.to
  rotate_left
  · rw [show sameD a b = false by simp [sameD, c4]] at hk
    simp -dsimp -implicitDefEqProofs (disch := first | with_reducible assumption | omega) [go_sem, c1, c2, c3, c4]
    exact fin_tail (fin_tail (fin_here hk))
  by_cases c5 : a.amt = b.amt
  rotate_left
  · rw [show sameD a b = false by simp [sameD, c5]] at hk
    simp -dsimp -implicitDefEqProofs (disch := first | with_reducible assumption | omega) [go_sem, c1, c2, c3, c4, c5]
    exact fin_tail (fin_tail (fin_here hk))
  by_cases c6 : a.ep = b.ep
  rotate_left
  · rw [show sameD a b = false by simp [sameD, c6]] at hk
    simp -dsimp -implicitDefEqProofs (disch := first | with_reducible assumption | omega) [go_sem, c1, c2, c3, c4, c5, c6]
    exact fin_tail (fin_tail (fin_here hk))
  by_cases c7 : a.what = b.what
  rotate_left
  · rw [show sameD a b = false by simp [sameD, c7]] at hk
    simp -dsimp -implicitDefEqProofs (disch := first | with_reducible assumption | omega) [go_sem, c1, c2, c3, c4, c5, c6, c7]
    exact fin_tail (fin_tail (fin_here hk))
  by_cases c8 : a.par = b.par
  rotate_left
  · rw [show sameD a b = false by simp [sameD, c8]] at hk
    simp -dsimp -implicitDefEqProofs (disch := first | with_reducible assumption | omega) [go_sem, c1, c2, c3, c4, c5, c6, c7, c8]
    exact fin_tail (fin_tail (fin_here hk))
  by_cases c9 : a.mot = b.mot
  rotate_left
  · rw [show sameD a b = false by simp [sameD, c9]] at hk
    simp -dsimp -implicitDefEqProofs (disch := first | with_reducible assumption | omega) [go_sem, c1, c2, c3, c4, c5, c6, c7, c8, c9]
    exact fin_tail (fin_tail (fin_here hk))
  by_cases c10 : (a.yes == b.yes) = true
  rotate_left
  · have c10' : (a.yes == b.yes) = false := (Bool.not_eq_true _).mp c10
    rw [show sameD a b = false by simp only [sameD, c10', Bool.false_and, Bool.and_false]] at hk
    simp -dsimp -implicitDefEqProofs (disch := first | with_reducible assumption | omega) [go_sem, c1, c2, c3, c4, c5, c6, c7, c8, c9, c10']
    exact fin_tail (fin_tail (fin_here hk))
  by_cases c11 : (a.bits.length : Int) = b.bits.length
  rotate_left
  · rw [show sameD a b = false by simp [sameD, c11]] at hk
    simp -dsimp -implicitDefEqProofs (disch := first | with_reducible assumption | omega) [go_sem, c1, c2, c3, c4, c5, c6, c7, c8, c9, c10, c11]
    exact fin_tail (fin_tail (fin_here hk))
  rw [show sameD a b = true by simp only [sameD, c1, c2, c3, c4, c5, c6, c7, c8, c9, c10, c11, decide_true, Bool.and_self]] at hk
  simp -dsimp -implicitDefEqProofs (disch := first | with_reducible assumption | omega) [go_sem, c1, c2, c3, c4, c5, c6, c7, c8, c9, c10, c11]
  exact fin_tail (fin_tail (fin_here hk))
set_option maxHeartbeats 4000000 in
set_option maxRecDepth 20000 in
theorem dright_any {d : DeedD} (bv : Value) (hd : IsDeed h bv d) (hk : ∀ h', PH.le h h' → K (.bool (rightD d)) L h') : Spec Tryz.prog 128 [deedV d bv] L h K := by
  have ob := hd.i.open
  obtain ⟨x1, y1, rfl, _, hlen, _⟩ := ob
  have bad : rightD d = false → K (.bool false) L h := fun e => by
    have := hk h (PH.le_refl h)
    rwa [e] at this
  refine x_enter Tryz.func128 rfl (rs := [_]) rfl rfl mixed (by kernel_rfl) rfl rfl ?_
  simp -dsimp -implicitDefEqProofs (disch := first | with_reducible assumption | omega) [go_sem]
  refine xnew fun b1 n_b1 h_b1 => ?_
  try simp only [Apart] at n_b1
  simp -dsimp -implicitDefEqProofs (disch := first | with_reducible assumption | omega) [go_sem]
  refine xdraw (by kernel_rfl) rfl ?_
  simp -dsimp -implicitDefEqProofs (disch := first | with_reducible assumption | omega) [go_sem]
  refine xdcall _ (dwithin_any _ _ _ ⟨rfl, rfl, rfl⟩) ?_
  cases g1 : wi d.kind 1 7 with
  | false =>
    simp -dsimp -implicitDefEqProofs (disch := first | with_reducible assumption | omega) [go_sem]
    exact fin_tail (fin_here (bad (by simp [rightD, g1])))
  | true =>
  simp -dsimp -implicitDefEqProofs (disch := first | with_reducible assumption | omega) [go_sem]
  refine xdcall _ (bare_any _ hd ⟨rfl, rfl, rfl⟩) ?_
  simp -dsimp -implicitDefEqProofs (disch := first | with_reducible assumption | omega) [go_sem]
  have hbb : Ints h .u8 (if d.kind = 5 then Value.slice x1 d.bits.length y1 else Value.slice none 0 0) (bareD d).bits := by
    by_cases k5 : d.kind = 5
    · rw [if_pos k5, show (bareD d).bits = d.bits by simp [bareD, k5]]
      exact hd.i
    · have eb : (bareD d).bits = [] := by
        unfold bareD
        rw [if_neg k5]
        repeat' split
        all_goals rfl
      rw [if_neg k5, eb]
      exact nil_ints h .u8
  refine xdcall _ (dsame_any _ _ hd.i hbb ⟨rfl, rfl, rfl⟩) ?_
  cases g2 : sameD d (bareD d) with
  | false =>
    simp -dsimp -implicitDefEqProofs (disch := first | with_reducible assumption | omega) [go_sem]
    exact fin_tail (fin_here (bad (by simp [rightD, g2])))
  | true =>
  simp -dsimp -implicitDefEqProofs (disch := first | with_reducible assumption | omega) [go_sem]
  refine dwithin_any _ _ _ ?_
  cases g3 : wi d.acct 0 63 with
  | false =>
    simp -dsimp -implicitDefEqProofs (disch := first | with_reducible assumption | omega) [go_sem]
    exact fin_tail (fin_here (bad (by simp [rightD, g3])))
  | true =>
  simp -dsimp -implicitDefEqProofs (disch := first | with_reducible assumption | omega) [go_sem]
  refine dwithin_any _ _ _ ?_
  cases g4 : wi d.to 0 63 with
  | false =>
    simp -dsimp -implicitDefEqProofs (disch := first | with_reducible assumption | omega) [go_sem]
    exact fin_tail (fin_here (bad (by simp [rightD, g4])))
  | true =>
  simp -dsimp -implicitDefEqProofs (disch := first | with_reducible assumption | omega) [go_sem]
  refine dwithin_any _ _ _ ?_
  cases g5 : wi d.mem 0 127 with
  | false =>
    simp -dsimp -implicitDefEqProofs (disch := first | with_reducible assumption | omega) [go_sem]
    exact fin_tail (fin_here (bad (by simp [rightD, g5])))
  | true =>
  simp -dsimp -implicitDefEqProofs (disch := first | with_reducible assumption | omega) [go_sem]
  refine dwithin_any _ _ _ ?_
  cases g6 : wi d.mot 0 31 with
  | false =>
    simp -dsimp -implicitDefEqProofs (disch := first | with_reducible assumption | omega) [go_sem]
    exact fin_tail (fin_here (bad (by simp [rightD, g6])))
  | true =>
  simp -dsimp -implicitDefEqProofs (disch := first | with_reducible assumption | omega) [go_sem]
  refine xdraw (by kernel_rfl) rfl ?_
  simp -dsimp -implicitDefEqProofs (disch := first | with_reducible assumption | omega) [go_sem]
  refine xdcall _ (paid_any _ hd ⟨rfl, rfl, rfl⟩) ?_
  cases g7 : (paidD d == decide (0 < d.amt)) with
  | false =>
    simp -dsimp -implicitDefEqProofs (disch := first | with_reducible assumption | omega) [go_sem, g7]
    exact fin_tail (fin_here (bad (by simp only [rightD, g7, Bool.false_and, Bool.and_false])))
  | true =>
  by_cases g8 : d.amt ≤ 4611686018427387904
  rotate_left
  · have g7' : paidD d = true := by simpa [show 0 < d.amt by omega] using g7
    simp -dsimp -implicitDefEqProofs (disch := first | with_reducible assumption | omega) [go_sem, g7']
    exact fin_tail (fin_here (bad (by simp [rightD, g8])))
  simp -dsimp -implicitDefEqProofs (disch := first | with_reducible assumption | omega) [go_sem, g7]
  refine xdcall _ (dwithin_any _ _ _ ⟨rfl, rfl, rfl⟩) ?_
  cases g9 : wi d.ep 0 1073741824 with
  | false =>
    simp -dsimp -implicitDefEqProofs (disch := first | with_reducible assumption | omega) [go_sem]
    exact fin_tail (fin_here (bad (by simp [rightD, g9])))
  | true =>
  by_cases g10 : (d.bits.length : Int) ≤ 32
  rotate_left
  · simp -dsimp -implicitDefEqProofs (disch := first | with_reducible assumption | omega) [go_sem]
    exact fin_tail (fin_here (bad (by simp [rightD, g10])))
  have hbase : rightD d = (decide (d.kind ≠ 6) || (wi d.what 1 4 && (decide (d.what ≠ 1) || parR d.par))) := by
    simp only [rightD, g1, g2, g3, g4, g5, g6, g7, g8, g9, g10, decide_true, Bool.and_self, Bool.true_and]
  rw [hbase] at hk
  by_cases k6 : d.kind = 6
  rotate_left
  · simp -dsimp -implicitDefEqProofs (disch := first | with_reducible assumption | omega) [go_sem]
    exact fin_tail (fin_here (by simpa [k6] using hk h (PH.le_refl h)))
  simp -dsimp -implicitDefEqProofs (disch := first | with_reducible assumption | omega) [go_sem]
  refine dwithin_any _ _ _ ?_
  cases g11 : wi d.what 1 4 with
  | false =>
    simp -dsimp -implicitDefEqProofs (disch := first | with_reducible assumption | omega) [go_sem]
    exact fin_tail (fin_here (by simpa [k6, g11] using hk h (PH.le_refl h)))
  | true =>
  by_cases w1 : d.what = 1
  rotate_left
  · simp -dsimp -implicitDefEqProofs (disch := first | with_reducible assumption | omega) [go_sem]
    exact fin_tail (fin_here (by simpa [k6, g11, w1] using hk h (PH.le_refl h)))
  simp -dsimp -implicitDefEqProofs (disch := first | with_reducible assumption | omega) [go_sem]
  refine Spec.ap (pcheck_any d.par hd.ok.p fun h2 le2 ap => ?_)
  cases g12 : parR d.par with
  | false =>
    simp -dsimp -implicitDefEqProofs (disch := first | with_reducible assumption | omega) [go_sem]
    exact fin_tail (fin_here (by simpa [k6, g11, w1, g12] using hk h2 le2))
  | true =>
    simp -dsimp -implicitDefEqProofs (disch := first | with_reducible assumption | omega) [go_sem]
    exact fin_tail (fin_here (by simpa [k6, w1, g12, show wi 1 1 4 = true by decide] using hk h2 le2))
end Go.X

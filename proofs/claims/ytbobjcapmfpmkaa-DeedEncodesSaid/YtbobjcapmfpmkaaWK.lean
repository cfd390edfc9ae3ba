/- Contracts of bullionref06.Pack, bullionref40.with and bullionref40.Sign. Conditions: lists of at most some hundreds. -/
import Derived.Test.YtbobjcapmfpmkaaWJ
import Derived.Test.YtbobjcapmfpmkaaPlainS
set_option linter.unusedVariables false
set_option linter.unusedSimpArgs false
namespace Go.X
open Go.RowKit Go.Proofs Go.Bl
variable {L : Own} {h : PH} {K : PK}

def bol (bl : List Bool) (i : Nat) : Bool := bl.getD i false
def Bools (h : PH) (v : Value) (bl : List Bool) : Prop := Sl h v bl.length 1 (bl.map Value.bool)
theorem Bools.open {v : Value} {bl : List Bool} (hs : Bools h v bl) : ∃ a cap, v = .slice a bl.length cap ∧ bl.length ≤ cap ∧ (a = none → cap = 0) ∧ ∀ j, j < bl.length → elemCell h a j = some (.bool (bol bl j)) := by
  obtain ⟨_, a, cap, h2, h3, h4, h4', h5, h6⟩ := hs
  exact ⟨a, cap, h2, h3, h5, fun j hj => h6 j _ (by simp [bol, hj])⟩
/-- byte j of the bits from m on -/
def PackB (bl : List Bool) (m : Nat) (x : Int) (j : Nat) : Prop :=
  0 ≤ x ∧ x < 2 ^ (8 * j + 8 - max (8 * j) m) ∧ ∀ k, k < 8 * j + 8 - max (8 * j) m → (x / 2 ^ k % 2 = 1 ↔ bol bl (max (8 * j) m + k) = true)
theorem PackB.step {bl : List Bool} {m : Nat} {x : Int} {j : Nat} (hp : PackB bl (m + 1) x j) (hj : m / 8 = j) : 2 * x + (if bol bl m then 1 else 0) ≤ 255 ∧ PackB bl m (2 * x + if bol bl m then 1 else 0) j := by
  obtain ⟨h0, h1, h2⟩ := hp
  have e1 : max (8 * j) (m + 1) = m + 1 := by omega
  have e2 : max (8 * j) m = m := by omega
  obtain ⟨w, hw⟩ : ∃ w, 8 * j + 8 - (m + 1) = w := ⟨_, rfl⟩
  have hw2 : 8 * j + 8 - m = w + 1 := by omega
  have hw3 : w ≤ 7 := by omega
  rw [e1, hw] at h1 h2
  have hb : (0 : Int) ≤ (if bol bl m then 1 else 0) ∧ (if bol bl m then (1 : Int) else 0) ≤ 1 := by split <;> omega
  have hp : (2 : Int) ^ (w + 1) = 2 * 2 ^ w := by rw [Int.pow_succ, Int.mul_comm]
  have hp7 : (2 : Int) ^ w ≤ 128 := by
    have : ∀ w, w ≤ 7 → (2 : Int) ^ w ≤ 128 := by decide
    exact this w hw3
  have hc : (if bol bl m then (1 : Int) else 0) = 1 ↔ bol bl m = true := by split <;> rename_i hc <;> simp [hc]
  generalize (if bol bl m then (1 : Int) else 0) = c at hb hc ⊢
  refine ⟨by omega, by omega, ?_, ?_⟩
  · rw [e2, hw2, hp]; omega
  · intro k hk
    rw [e2, hw2] at hk
    rw [e2]
    cases k with
    | zero =>
      simp only [Int.pow_zero, Int.ediv_one, Nat.add_zero]
      rw [← hc]
      omega
    | succ k =>
      have e3 : (2 : Int) ^ (k + 1) = 2 * 2 ^ k := by rw [Int.pow_succ, Int.mul_comm]
      have e : (2 * x + c) / 2 ^ (k + 1) = x / 2 ^ k := by
        rw [e3, ← Int.ediv_ediv_of_nonneg (show (0 : Int) ≤ 2 by decide), show (2 * x + c) / 2 = x by omega]
      rw [e, h2 k (by omega), show m + 1 + k = m + (k + 1) by omega]
/-- bytes that no bit from m on reaches -/
theorem PackB.same {bl : List Bool} {m : Nat} {x : Int} {j : Nat} (hp : PackB bl (m + 1) x j) (hj : m / 8 ≠ j) : PackB bl m x j := by
  obtain ⟨h0, h1, h2⟩ := hp
  by_cases hlt : m < 8 * j
  · have e1 : max (8 * j) (m + 1) = 8 * j := by omega
    have e2 : max (8 * j) m = 8 * j := by omega
    rw [e1] at h1 h2
    exact ⟨h0, by rw [e2]; exact h1, by rw [e2]; exact h2⟩
  · have e1 : 8 * j + 8 - max (8 * j) (m + 1) = 0 := by omega
    have e2 : 8 * j + 8 - max (8 * j) m = 0 := by omega
    rw [e1] at h1 h2
    exact ⟨h0, by rw [e2]; exact h1, fun k hk => by rw [e2] at hk; omega⟩
theorem idxB {bl : List Bool} {a : Option Addr} (hc : ∀ j, j < bl.length → elemCell h a j = some (.bool (bol bl j))) : ∀ j, j < bl.length → elemCell h a j = some ((fun j => Value.bool (bol bl j)) j) := hc
set_option maxRecDepth 20000 in
theorem pack_any {bl : List Bool} (v : Value) (hb : Bools h v bl) (hl : bl.length ≤ 1000) (hk : ∀ h' r bs, PH.le h h' → Ints h' .u8 r bs → bs.length = (bl.length + 7) / 8 → (∀ i : Nat, getB bs i = bol bl i) → K r L h') :
    Spec Try.prog 128 [v] L h K := by
  have ob := hb.open
  obtain ⟨a, ca, rfl, hna, _, hcx⟩ := ob
  refine x_enter Try.func128 rfl (rs := [_]) rfl rfl mixed (by kernel_rfl) rfl rfl ?_
  simp -dsimp -implicitDefEqProofs (disch := first | with_reducible assumption | omega) [go_sem]
  refine xMS_full (e := 5) (z := .int .u8 0) (by kernel_rfl) tI_5 rfl rfl .i64 .i64 _ (by omega) (by simp; omega) (by omega) ?_
  refine xnew fun b1 n_b1 h_b1 => ?_
  try simp only [Apart] at n_b1
  obtain ⟨N, hN⟩ : ∃ N, N = (bl.length + 7) / 8 := ⟨_, rfl⟩
  have eN : (((bl.length : Int) + 7) / 8).toNat = N := by omega
  simp -dsimp -implicitDefEqProofs (disch := first | with_reducible assumption | omega) [go_sem]
  simp only [eN]
  refine xloop (γ := Nat × List Int) (bl.length, List.replicate N 0)
    (fun s => s.1 ≤ bl.length ∧ s.2.length = N ∧ ∀ j, j < N → at0 s.2 j ≤ 255 ∧ PackB bl s.1 (at0 s.2 j) j)
    (fun s => [(4, .int .i64 ((s.1 : Int) - 1)), (3, .slice (some ⟨b1, 0, none⟩) N N), (0, .slice a bl.length ca)])
    (fun s => ⟨b1, 5, s.2.map (Value.int .u8), N⟩ :: L) (fun _ => h) (fun s => s.1) ?_ ?_ ?_ ?_
  · have z : ∀ j, at0 (List.replicate N 0) j = 0 := fun j => by
      simp only [at0, List.getD_eq_getElem?_getD, List.getElem?_replicate]
      split <;> rfl
    refine ⟨Nat.le_refl _, by simp, fun j hj => ?_⟩
    simp only [z]
    refine ⟨by decide, by decide, Int.pow_pos (by decide), fun k hk => ?_⟩
    have : bol bl (max (8 * j) bl.length + k) = false := by
      simp [bol, List.getD_eq_getElem?_getD, List.getElem?_eq_none (show bl.length ≤ max (8 * j) bl.length + k by omega)]
    rw [this]; simp
  · simp [Ent, List.lookup, xEnv]
  · rw [List.map_replicate]
    exact Drop.refl _ _
  rintro ⟨m, xs⟩ ⟨i1, i2, i3⟩
  simp only at i1 i2 i3
  simp -dsimp -implicitDefEqProofs (disch := first | with_reducible assumption | omega) [go_sem]
  refine xif_dec (fun c1 => ?_) (fun c1 => ?_)
  · obtain ⟨q, rfl⟩ : ∃ q, m = q + 1 := ⟨m - 1, by omega⟩
    have hq8 : q / 8 < N := by omega
    have eq1 : ((q : Int) / 8).toNat = q / 8 := by omega
    have eq2 : (((q + 1 : Nat) : Int) - 1) = q := by omega
    obtain ⟨g1, g2⟩ := i3 (q / 8) hq8
    have st := PackB.step g2 rfl
    have g0 := g2.1
    have next : ∀ z, z = 2 * at0 xs (q / 8) + (if bol bl q then 1 else 0) → ∀ j, j < N → at0 (xs.set (q / 8) z) j ≤ 255 ∧ PackB bl q (at0 (xs.set (q / 8) z) j) j := by
      intro z hz j hj
      rw [at0_set _ _ _ _ (by omega)]
      split
      · rename_i ej
        subst ej
        rw [hz]; exact st
      · rename_i ej
        exact ⟨(i3 j hj).1, (i3 j hj).2.same (fun e => ej e.symm)⟩
    cases hq : bol bl q with
    | true =>
      rw [hq] at st next
      simp only [if_true] at st next
      have s1 := st.1
      simp -dsimp -implicitDefEqProofs (disch := first | with_reducible assumption | omega) [go_sem, idx hcx, xNth_ints, eq1, eq2, hq]
      exact ⟨by omega, q, xs.set (q / 8) (2 * at0 xs (q / 8) + 1), ⟨by omega, by simp [i2], next _ rfl⟩, by omega, by simp [Ent, List.lookup], by rw [List.map_set]; exact Drop.refl _ _⟩
    | false =>
      rw [hq] at st next
      simp only [Bool.false_eq_true, if_false, Int.add_zero] at st next
      have s1 := st.1
      simp -dsimp -implicitDefEqProofs (disch := first | with_reducible assumption | omega) [go_sem, idx hcx, xNth_ints, eq1, eq2, hq]
      exact ⟨by omega, q, xs.set (q / 8) (2 * at0 xs (q / 8)), ⟨by omega, by simp [i2], next _ rfl⟩, by omega, by simp [Ent, List.lookup], by rw [List.map_set]; exact Drop.refl _ _⟩
  · have hm : m = 0 := by omega
    subst hm
    have hr : ∀ z ∈ xs, IntKind.u8.min ≤ z ∧ z ≤ IntKind.u8.max := by
      intro z hz
      obtain ⟨j, hj, rfl⟩ := List.mem_iff_getElem.1 hz
      have := i3 j (by omega)
      rw [at0_lt hj, show IntKind.u8.min = 0 by decide, show IntKind.u8.max = 255 by decide]
      exact ⟨this.2.1, this.1⟩
    have eo : (⟨b1, 5, xs.map (Value.int .u8), N⟩ :: L : Own) = oent 5 1 (some (b1, N)) (xs.map (Value.int .u8)) L := by simp [oent]
    simp -dsimp -implicitDefEqProofs (disch := first | with_reducible assumption | omega) [go_sem]
    rw [eo]
    refine fin_pub (n := N) ⟨Nat.le_refl _, by simp [maxLen]; omega⟩ (by simp [i2]) (by omega) ⟨n_b1, h_b1⟩ fun h' le sl => fin_here (hk h' _ xs le ⟨by rw [i2]; exact sl, hr⟩ (by rw [i2, hN]) fun i => ?_)
    by_cases hi : i / 8 < N
    · obtain ⟨_, _, p1, p2⟩ := i3 (i / 8) hi
      rw [getB_in _ _ (by omega) (by omega)]
      have := p2 (i % 8) (by omega)
      have e1 : ((i : Int) / 8).toNat = i / 8 := by omega
      have e2 : ((i : Int) % 8).toNat = i % 8 := by omega
      have e3 : max (8 * (i / 8)) 0 + i % 8 = i := by omega
      rw [e3] at this
      rw [e1, e2, Bool.eq_iff_iff]
      simpa using this
    · rw [getB_out _ _ (by omega)]
      simp [bol, List.getD_eq_getElem?_getD, List.getElem?_eq_none (show bl.length ≤ i by omega)]
end Go.X

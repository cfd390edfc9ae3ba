/- Contracts of bullionref06.Pack, bullionref40.with and bullionref40.Sign. Conditions: lists of at most some hundreds. -/
import Derived.Test.YtbobjcapmfpmkaaWJ
import Derived.Test.YtbobjcapmfpmkaaPlainA
set_option linter.unusedVariables false
set_option linter.unusedSimpArgs false
namespace Go.X
open Go.RowKit Go.Proofs Go.Bl
variable {L : Own} {h : PH} {K : PK}

def bol (bl : List Bool) (i : Nat) : Bool := bl.getD i false
def Bools (h : PH) (v : Value) (bl : List Bool) : Prop := Sl h v bl.length 1 (bl.map Value.bool)
theorem Bools.open {v : Value} {bl : List Bool} (hs : Bools h v bl) : ∃ a cap, v = .slice a bl.length cap ∧ bl.length ≤ cap ∧ (a = none → cap = 0) ∧ ∀ j, j < bl.length → elemCell h a j = some (.bool (bol bl j)) := by
  obtain ⟨_, a, cap, h2, h3, h4, h4', h5, h6⟩ := hs
  exact ⟨a, cap, h2, h3, h5, fun j hj => h6 j _ (by simp [bol, hj])⟩
/-- byte j of the bits from m on -/
def PackB (bl : List Bool) (m : Nat) (x : Int) (j : Nat) : Prop :=
  0 ≤ x ∧ x < 2 ^ (8 * j + 8 - max (8 * j) m) ∧ ∀ k, k < 8 * j + 8 - max (8 * j) m → (x / 2 ^ k % 2 = 1 ↔ bol bl (max (8 * j) m + k) = true)
theorem PackB.step {bl : List Bool} {m : Nat} {x : Int} {j : Nat} (hp : PackB bl (m + 1) x j) (hj : m / 8 = j) : 2 * x + (if bol bl m then 1 else 0) ≤ 255 ∧ PackB bl m (2 * x + if bol bl m then 1 else 0) j := by
  obtain ⟨h0, h1, h2⟩ := hp
  have e1 : max (8 * j) (m + 1) = m + 1 := by omega
  have e2 : max (8 * j) m = m := by omega
  obtain ⟨w, hw⟩ : ∃ w, 8 * j + 8 - (m + 1) = w := ⟨_, rfl⟩
  have hw2 : 8 * j + 8 - m = w + 1 := by omega
  have hw3 : w ≤ 7 := by omega
  rw [e1, hw] at h1 h2
  have hb : (0 : Int) ≤ (if bol bl m then 1 else 0) ∧ (if bol bl m then (1 : Int) else 0) ≤ 1 := by split <;> omega
  have hp : (2 : Int) ^ (w + 1) = 2 * 2 ^ w := by rw [Int.pow_succ, Int.mul_comm]
  have hp7 : (2 : Int) ^ w ≤ 128 := by
    have : ∀ w, w ≤ 7 → (2 : Int) ^ w ≤ 128 := by decide
    exact this w hw3
  have hc : (if bol bl m then (1 : Int) else 0) = 1 ↔ bol bl m = true := by split <;> rename_i hc <;> simp [hc]
  generalize (if bol bl m then (1 : Int) else 0) = c at hb hc ⊢
  refine ⟨by omega, by omega, ?_, ?_⟩
  · rw [e2, hw2, hp]; omega
  · intro k hk
    rw [e2, hw2] at hk
    rw [e2]
    cases k with
    | zero =>
      simp only [Int.pow_zero, Int.ediv_one, Nat.add_zero]
      rw [← hc]
      omega
    | succ k =>
      have e3 : (2 : Int) ^ (k + 1) = 2 * 2 ^ k := by rw [Int.pow_succ, Int.mul_comm]
      have e : (2 * x + c) / 2 ^ (k + 1) = x / 2 ^ k := by
        rw [e3, ← Int.ediv_ediv_of_nonneg (show (0 : Int) ≤ 2 by decide), show (2 * x + c) / 2 = x by omega]
      rw [e, h2 k (by omega), show m + 1 + k = m + (k + 1) by omega]
/-- bytes that no bit from m on reaches -/
theorem PackB.same {bl : List Bool} {m : Nat} {x : Int} {j : Nat} (hp : PackB bl (m + 1) x j) (hj : m / 8 ≠ j) : PackB bl m x j := by
  obtain ⟨h0, h1, h2⟩ := hp
  by_cases hlt : m < 8 * j
  · have e1 : max (8 * j) (m + 1) = 8 * j := by omega
    have e2 : max (8 * j) m = 8 * j := by omega
    rw [e1] at h1 h2
    exact ⟨h0, by rw [e2]; exact h1, by rw [e2]; exact h2⟩
  · have e1 : 8 * j + 8 - max (8 * j) (m + 1) = 0 := by omega
    have e2 : 8 * j + 8 - max (8 * j) m = 0 := by omega
    rw [e1] at h1 h2
    exact ⟨h0, by rw [e2]; exact h1, fun k hk => by rw [e2] at hk; omega⟩
theorem idxB {bl : List Bool} {a : Option Addr} (hc : ∀ j, j < bl.length → elemCell h a j = some (.bool (bol bl j))) : ∀ j, j < bl.length → elemCell h a j = some ((fun j => Value.bool (bol bl j)) j) := hc
set_option maxRecDepth 20000 in
theorem pack_any {bl : List Bool} (v : Value) (hb : Bools h v bl) (hl : bl.length ≤ 1000) (hk : ∀ h' r bs, PH.le h h' → Ints h' .u8 r bs → bs.length = (bl.length + 7) / 8 → (∀ i : Nat, getB bs i = bol bl i) → K r L h') :
    Spec Try.prog 128 [v] L h K := by
  have ob := hb.open
  obtain ⟨a, ca, rfl, hna, _, hcx⟩ := ob
  refine x_enter Try.func128 rfl (rs := [_]) rfl rfl mixed (by kernel_rfl) rfl rfl ?_
  simp -dsimp -implicitDefEqProofs (disch := first | with_reducible assumption | omega) [go_sem]
  refine xMS_full (e := 5) (z := .int .u8 0) (by kernel_rfl) tI_5 rfl rfl .i64 .i64 _ (by omega) (by simp; omega) (by omega) ?_
  refine xnew fun b1 n_b1 h_b1 => ?_
  try simp only [Apart] at n_b1
  obtain ⟨N, hN⟩ : ∃ N, N = (bl.length + 7) / 8 := ⟨_, rfl⟩
  have eN : (((bl.length : Int) + 7) / 8).toNat = N := by omega
  simp -dsimp -implicitDefEqProofs (disch := first | with_reducible assumption | omega) [go_sem]
  simp only [eN]
  refine xloop (γ := Nat × List Int) (bl.length, List.replicate N 0)
    (fun s => s.1 ≤ bl.length ∧ s.2.length = N ∧ ∀ j, j < N → at0 s.2 j ≤ 255 ∧ PackB bl s.1 (at0 s.2 j) j)
    (fun s => [(4, .int .i64 ((s.1 : Int) - 1)), (3, .slice (some ⟨b1, 0, none⟩) N N), (0, .slice a bl.length ca)])
    (fun s => ⟨b1, 5, s.2.map (Value.int .u8), N⟩ :: L) (fun _ => h) (fun s => s.1) ?_ ?_ ?_ ?_
  · have z : ∀ j, at0 (List.replicate N 0) j = 0 := fun j => by
      simp only [at0, List.getD_eq_getElem?_getD, List.getElem?_replicate]
      split <;> rfl
    refine ⟨Nat.le_refl _, by simp, fun j hj => ?_⟩
    simp only [z]
    refine ⟨by decide, by decide, Int.pow_pos (by decide), fun k hk => ?_⟩
    have : bol bl (max (8 * j) bl.length + k) = false := by
      simp [bol, List.getD_eq_getElem?_getD, List.getElem?_eq_none (show bl.length ≤ max (8 * j) bl.length + k by omega)]
    rw [this]; simp
  · simp [Ent, List.lookup, xEnv]
  · rw [List.map_replicate]
    exact Drop.refl _ _
  rintro ⟨m, xs⟩ ⟨i1, i2, i3⟩
  simp only at i1 i2 i3
  simp -dsimp -implicitDefEqProofs (disch := first | with_reducible assumption | omega) [go_sem]
  refine xif_dec (fun c1 => ?_) (fun c1 => ?_)
  · obtain ⟨q, rfl⟩ : ∃ q, m = q + 1 := ⟨m - 1, by omega⟩
    have hq8 : q / 8 < N := by omega
    have eq1 : ((q : Int) / 8).toNat = q / 8 := by omega
    have eq2 : (((q + 1 : Nat) : Int) - 1) = q := by omega
    obtain ⟨g1, g2⟩ := i3 (q / 8) hq8
    have st := PackB.step g2 rfl
    have g0 := g2.1
    have next : ∀ z, z = 2 * at0 xs (q / 8) + (if bol bl q then 1 else 0) → ∀ j, j < N → at0 (xs.set (q / 8) z) j ≤ 255 ∧ PackB bl q (at0 (xs.set (q / 8) z) j) j := by
      intro z hz j hj
      rw [at0_set _ _ _ _ (by omega)]
      split
      · rename_i ej
        subst ej
        rw [hz]; exact st
      · rename_i ej
        exact ⟨(i3 j hj).1, (i3 j hj).2.same (fun e => ej e.symm)⟩
    cases hq : bol bl q with
    | true =>
      rw [hq] at st next
      simp only [if_true] at st next
      have s1 := st.1
      simp -dsimp -implicitDefEqProofs (disch := first | with_reducible assumption | omega) [go_sem, idx hcx, xNth_ints, eq1, eq2, hq]
      exact ⟨by omega, q, xs.set (q / 8) (2 * at0 xs (q / 8) + 1), ⟨by omega, by simp [i2], next _ rfl⟩, by omega, by simp [Ent, List.lookup], by rw [List.map_set]; exact Drop.refl _ _⟩
    | false =>
      rw [hq] at st next
      simp only [Bool.false_eq_true, if_false, Int.add_zero] at st next
      have s1 := st.1
      simp -dsimp -implicitDefEqProofs (disch := first | with_reducible assumption | omega) [go_sem, idx hcx, xNth_ints, eq1, eq2, hq]
      exact ⟨by omega, q, xs.set (q / 8) (2 * at0 xs (q / 8)), ⟨by omega, by simp [i2], next _ rfl⟩, by omega, by simp [Ent, List.lookup], by rw [List.map_set]; exact Drop.refl _ _⟩
  · have hm : m = 0 := by omega
    subst hm
    have hr : ∀ z ∈ xs, IntKind.u8.min ≤ z ∧ z ≤ IntKind.u8.max := by
      intro z hz
      obtain ⟨j, hj, rfl⟩ := List.mem_iff_getElem.1 hz
      have := i3 j (by omega)
      rw [at0_lt hj, show IntKind.u8.min = 0 by decide, show IntKind.u8.max = 255 by decide]
      exact ⟨this.2.1, this.1⟩
    have eo : (⟨b1, 5, xs.map (Value.int .u8), N⟩ :: L : Own) = oent 5 1 (some (b1, N)) (xs.map (Value.int .u8)) L := by simp [oent]
    simp -dsimp -implicitDefEqProofs (disch := first | with_reducible assumption | omega) [go_sem]
    rw [eo]
    refine fin_pub (n := N) ⟨Nat.le_refl _, by simp [maxLen]; omega⟩ (by simp [i2]) (by omega) ⟨n_b1, h_b1⟩ fun h' le sl => fin_here (hk h' _ xs le ⟨by rw [i2]; exact sl, hr⟩ (by rw [i2, hN]) fun i => ?_)
    by_cases hi : i / 8 < N
    · obtain ⟨_, _, p1, p2⟩ := i3 (i / 8) hi
      rw [getB_in _ _ (by omega) (by omega)]
      have := p2 (i % 8) (by omega)
      have e1 : ((i : Int) / 8).toNat = i / 8 := by omega
      have e2 : ((i : Int) % 8).toNat = i % 8 := by omega
      have e3 : max (8 * (i / 8)) 0 + i % 8 = i := by omega
      rw [e3] at this
      rw [e1, e2, Bool.eq_iff_iff]
      simpa using this
    · rw [getB_out _ _ (by omega)]
      simp [bol, List.getD_eq_getElem?_getD, List.getElem?_eq_none (show bl.length ≤ i by omega)]
end Go.X
/-! Contracts of bullionref40.with and bullionref40.Sign. Conditions: certificates; at most 256 places. -/
namespace Go.X
open Go.RowKit Go.Proofs Go.Bl
variable {L : Own} {h : PH} {K : PK}

theorem bol_append (bl : List Bool) (x : Bool) (i : Nat) : bol (bl ++ [x]) i = if i < bl.length then bol bl i else if i = bl.length then x else false := by
  simp only [bol, List.getD_eq_getElem?_getD]
  by_cases e : i < bl.length
  · simp [e, List.getElem?_append_left e]
  · rw [if_neg e, List.getElem?_append_right (by omega)]
    by_cases e2 : i = bl.length
    · subst e2; simp
    · rw [if_neg e2, List.getElem?_eq_none (by simp; omega)]; rfl
set_option maxRecDepth 20000 in
theorem with_any {ws bs : List Int} (v u : Value) (more n : Int) (ha : Ints h .u8 v ws) (hb : Ints h .u8 u bs) (h0 : 0 ≤ n) (h1 : n ≤ 256)
    (hk : ∀ h' r cs, PH.le h h' → Ints h' .u8 r cs → (cs.length : Int) = (n + 7) / 8 → (∀ i : Nat, getB cs i = (decide ((i : Int) < n) && (decide ((i : Int) = more) || getB ws i || getB bs i))) → K r L h') :
    Spec Try.prog 77 [v, u, .int .i64 more, .int .i64 n] L h K := by
  refine x_enter Try.func77 rfl (rs := [_]) rfl rfl mixed (by kernel_rfl) rfl rfl ?_
  simp -dsimp -implicitDefEqProofs (disch := first | with_reducible assumption | omega) [go_sem]
  refine xloop (γ := Option (Nat × Nat) × List Bool) (none, [])
    (fun s => okO s.1 s.2.length ∧ apO s.1 L h ∧ (s.2.length : Int) ≤ n ∧ ∀ i, i < s.2.length → bol s.2 i = (decide ((i : Int) = more) || getB ws i || getB bs i))
    (fun s => [(10, .int .i64 s.2.length), (9, ovs s.1 s.2.length), (0, v), (1, u), (2, .int .i64 more), (3, .int .i64 n)])
    (fun s => oent 4 1 s.1 (s.2.map Value.bool) L) (fun _ => h) (fun s => n.toNat - s.2.length) ?_ ?_ ?_ ?_
  · exact ⟨rfl, trivial, by simpa using h0, fun i hi => by simp at hi⟩
  · simp [Ent, List.lookup, xEnv, ovs]
  · exact Drop.refl _ _
  rintro ⟨o, bl⟩ ⟨i1, i2, i3, i4⟩
  simp only at i1 i2 i3 i4
  simp -dsimp -implicitDefEqProofs (disch := first | with_reducible assumption | omega) [go_sem]
  refine xif_dec (fun c1 => ?_) (fun c1 => ?_)
  · obtain ⟨x, hx⟩ : ∃ x, x = (decide ((bl.length : Int) = more) || getB ws bl.length || getB bs bl.length) := ⟨_, rfl⟩
    have next : ∀ y, y = x → ∀ i, i < (bl ++ [y]).length → bol (bl ++ [y]) i = (decide ((i : Int) = more) || getB ws i || getB bs i) := by
      intro y hy i hi
      rw [bol_append]
      by_cases e : i < bl.length
      · rw [if_pos e]; exact i4 i e
      · have e2 : i = bl.length := by simp at hi; omega
        subst e2
        simp [hy, hx]
    by_cases c2 : (bl.length : Int) = more
    · have hx1 : x = true := by rw [hx]; simp [c2]
      simp -dsimp -implicitDefEqProofs (disch := first | with_reducible assumption | omega) [go_sem]
      refine xnew fun b4 n_b4 h_b4 => ?_
      try simp only [Apart] at n_b4
      simp -dsimp -implicitDefEqProofs (disch := first | with_reducible assumption | omega) [go_sem]
      refine xappend (t := 69) (e := 4) (sz := 1) (bytes := 1) (z := [.bool false]) (by kernel_rfl) tI_4 rfl rfl rfl rfl (by decide) [_] _ o bl.length _ i1 (by simp) (Src.own List.mem_cons_self) (m := 1) (news := [.bool true]) rfl (fun u hu => by simp at hu; subst hu; rfl) (by simp [maxLen]; omega) (by omega) ?_
      intro o' j1 j2 j3
      simp -dsimp -implicitDefEqProofs (disch := first | with_reducible assumption | omega) [go_sem]
      exact ⟨o', bl ++ [true], ⟨by simpa using j1, apO_tail j2, by simp; omega, next _ hx1.symm⟩, by simp; omega, by simp [Ent, List.lookup], by simpa using Drop.tail _ _ _⟩
    · simp -dsimp -implicitDefEqProofs (disch := first | with_reducible assumption | omega) [go_sem]
      refine rget_any _ _ ha (by omega) ?_
      cases g1 : getB ws bl.length with
      | true =>
        have hx1 : x = true := by rw [hx]; simp [g1]
        simp -dsimp -implicitDefEqProofs (disch := first | with_reducible assumption | omega) [go_sem]
        refine xnew fun b4 n_b4 h_b4 => ?_
        try simp only [Apart] at n_b4
        simp -dsimp -implicitDefEqProofs (disch := first | with_reducible assumption | omega) [go_sem]
        refine xappend (t := 69) (e := 4) (sz := 1) (bytes := 1) (z := [.bool false]) (by kernel_rfl) tI_4 rfl rfl rfl rfl (by decide) [_] _ o bl.length _ i1 (by simp) (Src.own List.mem_cons_self) (m := 1) (news := [.bool true]) rfl (fun u hu => by simp at hu; subst hu; rfl) (by simp [maxLen]; omega) (by omega) ?_
        intro o' j1 j2 j3
        simp -dsimp -implicitDefEqProofs (disch := first | with_reducible assumption | omega) [go_sem]
        exact ⟨o', bl ++ [true], ⟨by simpa using j1, apO_tail j2, by simp; omega, next _ hx1.symm⟩, by simp; omega, by simp [Ent, List.lookup], by simpa using Drop.tail _ _ _⟩
      | false =>
        simp -dsimp -implicitDefEqProofs (disch := first | with_reducible assumption | omega) [go_sem]
        refine rget_any _ _ hb (by omega) ?_
        cases g2 : getB bs bl.length with
        | true =>
          have hx1 : x = true := by rw [hx]; simp [g2]
          simp -dsimp -implicitDefEqProofs (disch := first | with_reducible assumption | omega) [go_sem]
          refine xnew fun b4 n_b4 h_b4 => ?_
          try simp only [Apart] at n_b4
          simp -dsimp -implicitDefEqProofs (disch := first | with_reducible assumption | omega) [go_sem]
          refine xappend (t := 69) (e := 4) (sz := 1) (bytes := 1) (z := [.bool false]) (by kernel_rfl) tI_4 rfl rfl rfl rfl (by decide) [_] _ o bl.length _ i1 (by simp) (Src.own List.mem_cons_self) (m := 1) (news := [.bool true]) rfl (fun u hu => by simp at hu; subst hu; rfl) (by simp [maxLen]; omega) (by omega) ?_
          intro o' j1 j2 j3
          simp -dsimp -implicitDefEqProofs (disch := first | with_reducible assumption | omega) [go_sem]
          exact ⟨o', bl ++ [true], ⟨by simpa using j1, apO_tail j2, by simp; omega, next _ hx1.symm⟩, by simp; omega, by simp [Ent, List.lookup], by simpa using Drop.tail _ _ _⟩
        | false =>
          have hx1 : x = false := by rw [hx]; simp [c2, g1, g2]
          simp -dsimp -implicitDefEqProofs (disch := first | with_reducible assumption | omega) [go_sem]
          refine xnew fun b4 n_b4 h_b4 => ?_
          try simp only [Apart] at n_b4
          simp -dsimp -implicitDefEqProofs (disch := first | with_reducible assumption | omega) [go_sem]
          refine xappend (t := 69) (e := 4) (sz := 1) (bytes := 1) (z := [.bool false]) (by kernel_rfl) tI_4 rfl rfl rfl rfl (by decide) [_] _ o bl.length _ i1 (by simp) (Src.own List.mem_cons_self) (m := 1) (news := [.bool false]) rfl (fun u hu => by simp at hu; subst hu; rfl) (by simp [maxLen]; omega) (by omega) ?_
          intro o' j1 j2 j3
          simp -dsimp -implicitDefEqProofs (disch := first | with_reducible assumption | omega) [go_sem]
          exact ⟨o', bl ++ [false], ⟨by simpa using j1, apO_tail j2, by simp; omega, next _ hx1.symm⟩, by simp; omega, by simp [Ent, List.lookup], by simpa using Drop.tail _ _ _⟩
  · have hn : (bl.length : Int) = n := by omega
    simp -dsimp -implicitDefEqProofs (disch := first | with_reducible assumption | omega) [go_sem]
    refine call_pub (n := bl.length) i1 (by simp) (by omega) i2 fun h1 le1 sl => ?_
    refine pack_any _ sl (by omega) fun h2 r cs le2 ic hl hg => ?_
    simp -dsimp -implicitDefEqProofs (disch := first | with_reducible assumption | omega) [go_sem]
    refine fin_here (hk h2 r cs (le1.trans le2) ic (by omega) fun i => ?_)
    rw [hg i]
    by_cases e : i < bl.length
    · rw [i4 i e, show decide ((i : Int) < n) = true from decide_eq_true (by omega), Bool.true_and]
    · rw [show decide ((i : Int) < n) = false from decide_eq_false (by omega), Bool.false_and]
      simp [bol, List.getD_eq_getElem?_getD, List.getElem?_eq_none (show bl.length ≤ i by omega)]
end Go.X
/-! Contract of bullionref40.Sign: it hands back what cert.Sign does. Conditions: the value reads as a certificate. -/
namespace Go.X
open Go.RowKit Go.Proofs Go.Bl
variable {L : Own} {h : PH} {K : PK}

theorem setB_byte {xs : List Int} (hb : ∀ i, 0 ≤ at0 xs i ∧ at0 xs i ≤ 255) (i : Int) (h1 : (i / 8).toNat < xs.length) (j : Nat) : 0 ≤ at0 (setB xs i) j ∧ at0 (setB xs i) j ≤ 255 := by
  unfold setB
  rw [at0_set _ _ _ _ h1]
  split
  · have := orB_spec (at0 xs (i / 8).toNat) (i % 8).toNat (hb _).1 (hb _).2 (by omega)
    exact ⟨this.1, this.2.1⟩
  · exact hb j
theorem getB_setB {xs : List Int} (hb : ∀ i, 0 ≤ at0 xs i ∧ at0 xs i ≤ 255) (i : Int) (h0 : 0 ≤ i) (h1 : i / 8 < (xs.length : Int)) (j : Nat) : getB (setB xs i) j = (decide ((j : Int) = i) || getB xs j) := by
  have hl : (setB xs i).length = xs.length := by simp [setB]
  by_cases hj : (j : Int) / 8 < (xs.length : Int)
  · rw [getB_in _ _ (by omega) (by omega), getB_in _ _ (by omega) (by omega)]
    unfold setB
    rw [at0_set _ _ _ _ (by omega)]
    by_cases e : ((j : Int) / 8).toNat = (i / 8).toNat
    · rw [if_pos e, e]
      have sp := (orB_spec (at0 xs (i / 8).toNat) (i % 8).toNat (hb _).1 (hb _).2 (by omega)).2.2 ((j : Int) % 8).toNat (by omega)
      rw [Bool.eq_iff_iff]
      simp only [Bool.or_eq_true, decide_eq_true_eq]
      rw [sp]
      constructor
      · intro h
        exact h.imp (fun h => by omega) id
      · intro h
        exact h.imp (fun h => by omega) id
    · rw [if_neg e]
      have : (j : Int) ≠ i := fun h => e (by rw [h])
      simp [this]
  · rw [getB_out _ _ (by omega), getB_out _ _ (by omega)]
    have : (j : Int) ≠ i := fun h => by omega
    simp [this]
theorem right_beyond {c : CertD} (hr : rightC c = true) (j : Nat) (hj : c.mem ≤ (j : Int)) : getB c.bs j = false := by
  have h1 := rightC_head hr
  simp only [headC, rightB, Bool.and_eq_true, decide_eq_true_eq, List.all_eq_true, List.mem_range, Bool.or_eq_true, Bool.not_eq_true'] at h1
  by_cases hl : j < 8 * c.bs.length
  · exact (h1.2.2 j hl).resolve_left (by omega)
  · exact getB_out _ _ (by omega)
theorem nil_ints (h : PH) (k : IntKind) : Ints h k (.slice none 0 0) [] := ⟨⟨rfl, none, 0, rfl, Nat.le_refl _, by decide, by decide, fun _ => rfl, fun j c hj => by simp at hj⟩, fun z hz => by simp at hz⟩
theorem getB_nil (i : Int) : getB [] i = false := getB_out _ _ (by simp; omega)
set_option maxRecDepth 20000 in
theorem refsign_any {c : CertD} (v : Value) (i : Int) (hc : IsCert h v c) (h1 : i ≤ 9223372036854775807) (hk : ∀ h' r, PH.le h h' → IsCert h' r (signC c i).1 → K (.tuple #[r, .int .i64 (signC c i).2]) L h') : Spec Try.prog 26 [v, .int .i64 i] L h K := by
  have hc0 := hc
  obtain ⟨sv, bv, rfl, hs, hb, r1, r2, r3, r4⟩ := hc
  have hsd := hs.word
  have hbd := hb.byte
  have os := hs.open
  obtain ⟨a, ca, rfl, _, _, _, hcx⟩ := os
  have ob := hb.open
  obtain ⟨b, cb, rfl, _⟩ := ob
  have bad : ∀ e, signC c i = (zeroC, e) → K (.tuple #[.agg #[.int .i64 0, .int .i64 0, .slice none 0 0, .slice none 0 0], .int .i64 e]) L h := fun e he => by
    have := hk h _ (PH.le_refl h) (by rw [he]; exact zeroC_is h)
    rwa [he] at this
  refine x_enter Try.func26 rfl (rs := [_, _]) rfl rfl mixed (by kernel_rfl) rfl rfl ?_
  simp -dsimp -implicitDefEqProofs (disch := first | with_reducible assumption | omega) [go_sem]
  refine xnew fun b1 n_b1 h_b1 => ?_
  try simp only [Apart] at n_b1
  simp -dsimp -implicitDefEqProofs (disch := first | with_reducible assumption | omega) [go_sem]
  refine xnew fun b2 n_b2 h_b2 => ?_
  try simp only [Apart] at n_b2
  simp -dsimp -implicitDefEqProofs (disch := first | with_reducible assumption | omega) [go_sem]
  refine right_any _ hc0 ?_
  cases hr : rightC c with
  | false =>
    simp -dsimp -implicitDefEqProofs (disch := first | with_reducible assumption | omega) [go_sem]
    exact fin_tail (fin_tail (fin_here (bad 2 (by simp [signC, hr]))))
  | true =>
    have hh := headC_facts (rightC_head hr)
    have hbl := rightC_len hr
    by_cases c1 : i < 0
    · simp -dsimp -implicitDefEqProofs (disch := first | with_reducible assumption | omega) [go_sem]
      exact fin_tail (fin_tail (fin_here (bad 190 (by simp [signC, hr, c1]))))
    by_cases c2 : c.mem ≤ i
    · simp -dsimp -implicitDefEqProofs (disch := first | with_reducible assumption | omega) [go_sem]
      exact fin_tail (fin_tail (fin_here (bad 190 (by simp [signC, hr, c2]))))
    by_cases c3 : at0 c.st i.toNat = 0
    · simp -dsimp -implicitDefEqProofs (disch := first | with_reducible assumption | omega) [go_sem, idx hcx]
      exact fin_tail (fin_tail (fin_here (bad 190 (by simp [signC, hr, c3]))))
    simp -dsimp -implicitDefEqProofs (disch := first | with_reducible assumption | omega) [go_sem, idx hcx]
    refine rget_any _ _ hb h1 ?_
    cases hg : getB c.bs i with
    | true =>
      simp -dsimp -implicitDefEqProofs (disch := first | with_reducible assumption | omega) [go_sem]
      exact fin_tail (fin_tail (fin_here (bad 231 (by simp [signC, hr, c1, c2, c3, hg]))))
    | false =>
      have es : signC c i = ({ c with bs := setB c.bs i }, 0) := by simp [signC, hr, c1, c2, c3, hg]
      rw [es] at hk
      simp -dsimp -implicitDefEqProofs (disch := first | with_reducible assumption | omega) [go_sem]
      refine Spec.ap (with_any _ _ i c.mem hb (nil_ints h .u8) (by omega) (by omega) fun h2 r cs le2 ic hl hg2 ap => ?_)
      simp only [Ap] at ap
      obtain ⟨a2, a1, _⟩ := ap
      have ecs : cs = setB c.bs i := by
        refine bits_ext ic.byte (setB_byte hbd i (by omega)) ?_ ?_
        · simp [setB]; omega
        · intro j hj
          rw [hg2 j, getB_setB hbd i (by omega) (by omega) j, getB_nil]
          by_cases hjm : (j : Int) < c.mem
          · simp [hjm]
          · have : (j : Int) ≠ i := by omega
            simp [hjm, this, right_beyond hr j (by omega)]
      subst ecs
      have oc := ic.open
      obtain ⟨x3, y3, rfl, _⟩ := oc
      simp -dsimp -implicitDefEqProofs (disch := first | with_reducible assumption | omega) [go_sem]
      exact fin_tail (fin_tail (fin_here (hk h2 _ le2 ⟨_, _, rfl, hs.up le2, ic, r1, r2, r3, r4⟩)))
end Go.X

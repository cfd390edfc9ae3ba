/- Contracts of bullionref40.with and bullionref40.Sign. Conditions: certificates; at most 256 places. -/
import Derived.Test.YtbobjcapmfpmkaaWK
set_option linter.unusedVariables false
set_option linter.unusedSimpArgs false
namespace Go.X
open Go.RowKit Go.Proofs Go.Bl
variable {L : Own} {h : PH} {K : PK}

theorem bol_append (bl : List Bool) (x : Bool) (i : Nat) : bol (bl ++ [x]) i = if i < bl.length then bol bl i else if i = bl.length then x else false := by
  simp only [bol, List.getD_eq_getElem?_getD]
  by_cases e : i < bl.length
  · simp [e, List.getElem?_append_left e]
  · rw [if_neg e, List.getElem?_append_right (by omega)]
    by_cases e2 : i = bl.length
    · subst e2; simp
    · rw [if_neg e2, List.getElem?_eq_none (by simp; omega)]; rfl
set_option maxRecDepth 20000 in
theorem with_any {ws bs : List Int} (v u : Value) (more n : Int) (ha : Ints h .u8 v ws) (hb : Ints h .u8 u bs) (h0 : 0 ≤ n) (h1 : n ≤ 256)
    (hk : ∀ h' r cs, PH.le h h' → Ints h' .u8 r cs → (cs.length : Int) = (n + 7) / 8 → (∀ i : Nat, getB cs i = (decide ((i : Int) < n) && (decide ((i : Int) = more) || getB ws i || getB bs i))) → K r L h') :
    Spec Try.prog 77 [v, u, .int .i64 more, .int .i64 n] L h K := by
  refine x_enter Try.func77 rfl (rs := [_]) rfl rfl mixed (by kernel_rfl) rfl rfl ?_
  simp -dsimp -implicitDefEqProofs (disch := first | with_reducible assumption | omega) [go_sem]
  refine xloop (γ := Option (Nat × Nat) × List Bool) (none, [])
    (fun s => okO s.1 s.2.length ∧ apO s.1 L h ∧ (s.2.length : Int) ≤ n ∧ ∀ i, i < s.2.length → bol s.2 i = (decide ((i : Int) = more) || getB ws i || getB bs i))
    (fun s => [(10, .int .i64 s.2.length), (9, ovs s.1 s.2.length), (0, v), (1, u), (2, .int .i64 more), (3, .int .i64 n)])
    (fun s => oent 4 1 s.1 (s.2.map Value.bool) L) (fun _ => h) (fun s => n.toNat - s.2.length) ?_ ?_ ?_ ?_
  · exact ⟨rfl, trivial, by simpa using h0, fun i hi => by simp at hi⟩
  · simp [Ent, List.lookup, xEnv, ovs]
  · exact Drop.refl _ _
  rintro ⟨o, bl⟩ ⟨i1, i2, i3, i4⟩
  simp only at i1 i2 i3 i4
  simp -dsimp -implicitDefEqProofs (disch := first | with_reducible assumption | omega) [go_sem]
  refine xif_dec (fun c1 => ?_) (fun c1 => ?_)
  · obtain ⟨x, hx⟩ : ∃ x, x = (decide ((bl.length : Int) = more) || getB ws bl.length || getB bs bl.length) := ⟨_, rfl⟩
    have next : ∀ y, y = x → ∀ i, i < (bl ++ [y]).length → bol (bl ++ [y]) i = (decide ((i : Int) = more) || getB ws i || getB bs i) := by
      intro y hy i hi
      rw [bol_append]
      by_cases e : i < bl.length
      · rw [if_pos e]; exact i4 i e
      · have e2 : i = bl.length := by simp at hi; omega
        subst e2
        simp [hy, hx]
    by_cases c2 : (bl.length : Int) = more
    · have hx1 : x = true := by rw [hx]; simp [c2]
      simp -dsimp -implicitDefEqProofs (disch := first | with_reducible assumption | omega) [go_sem]
      refine xnew fun b4 n_b4 h_b4 => ?_
      try simp only [Apart] at n_b4
      simp -dsimp -implicitDefEqProofs (disch := first | with_reducible assumption | omega) [go_sem]
      refine xappend (t := 69) (e := 4) (sz := 1) (bytes := 1) (z := [.bool false]) (by kernel_rfl) tI_4 rfl rfl rfl rfl (by decide) [_] _ o bl.length _ i1 (by simp) (Src.own List.mem_cons_self) (m := 1) (news := [.bool true]) rfl (fun u hu => by simp at hu; subst hu; rfl) (by simp [maxLen]; omega) (by omega) ?_
      intro o' j1 j2 j3
      simp -dsimp -implicitDefEqProofs (disch := first | with_reducible assumption | omega) [go_sem]
      exact ⟨o', bl ++ [true], ⟨by simpa using j1, apO_tail j2, by simp; omega, next _ hx1.symm⟩, by simp; omega, by simp [Ent, List.lookup], by simpa using Drop.tail _ _ _⟩
    · simp -dsimp -implicitDefEqProofs (disch := first | with_reducible assumption | omega) [go_sem]
      refine rget_any _ _ ha (by omega) ?_
      cases g1 : getB ws bl.length with
      | true =>
        have hx1 : x = true := by rw [hx]; simp [g1]
        simp -dsimp -implicitDefEqProofs (disch := first | with_reducible assumption | omega) [go_sem]
        refine xnew fun b4 n_b4 h_b4 => ?_
        try simp only [Apart] at n_b4
        simp -dsimp -implicitDefEqProofs (disch := first | with_reducible assumption | omega) [go_sem]
        refine xappend (t := 69) (e := 4) (sz := 1) (bytes := 1) (z := [.bool false]) (by kernel_rfl) tI_4 rfl rfl rfl rfl (by decide) [_] _ o bl.length _ i1 (by simp) (Src.own List.mem_cons_self) (m := 1) (news := [.bool true]) rfl (fun u hu => by simp at hu; subst hu; rfl) (by simp [maxLen]; omega) (by omega) ?_
        intro o' j1 j2 j3
        simp -dsimp -implicitDefEqProofs (disch := first | with_reducible assumption | omega) [go_sem]
        exact ⟨o', bl ++ [true], ⟨by simpa using j1, apO_tail j2, by simp; omega, next _ hx1.symm⟩, by simp; omega, by simp [Ent, List.lookup], by simpa using Drop.tail _ _ _⟩
      | false =>
        simp -dsimp -implicitDefEqProofs (disch := first | with_reducible assumption | omega) [go_sem]
        refine rget_any _ _ hb (by omega) ?_
        cases g2 : getB bs bl.length with
        | true =>
          have hx1 : x = true := by rw [hx]; simp [g2]
          simp -dsimp -implicitDefEqProofs (disch := first | with_reducible assumption | omega) [go_sem]
          refine xnew fun b4 n_b4 h_b4 => ?_
          try simp only [Apart] at n_b4
          simp -dsimp -implicitDefEqProofs (disch := first | with_reducible assumption | omega) [go_sem]
          refine xappend (t := 69) (e := 4) (sz := 1) (bytes := 1) (z := [.bool false]) (by kernel_rfl) tI_4 rfl rfl rfl rfl (by decide) [_] _ o bl.length _ i1 (by simp) (Src.own List.mem_cons_self) (m := 1) (news := [.bool true]) rfl (fun u hu => by simp at hu; subst hu; rfl) (by simp [maxLen]; omega) (by omega) ?_
          intro o' j1 j2 j3
          simp -dsimp -implicitDefEqProofs (disch := first | with_reducible assumption | omega) [go_sem]
          exact ⟨o', bl ++ [true], ⟨by simpa using j1, apO_tail j2, by simp; omega, next _ hx1.symm⟩, by simp; omega, by simp [Ent, List.lookup], by simpa using Drop.tail _ _ _⟩
        | false =>
          have hx1 : x = false := by rw [hx]; simp [c2, g1, g2]
          simp -dsimp -implicitDefEqProofs (disch := first | with_reducible assumption | omega) [go_sem]
          refine xnew fun b4 n_b4 h_b4 => ?_
          try simp only [Apart] at n_b4
          simp -dsimp -implicitDefEqProofs (disch := first | with_reducible assumption | omega) [go_sem]
          refine xappend (t := 69) (e := 4) (sz := 1) (bytes := 1) (z := [.bool false]) (by kernel_rfl) tI_4 rfl rfl rfl rfl (by decide) [_] _ o bl.length _ i1 (by simp) (Src.own List.mem_cons_self) (m := 1) (news := [.bool false]) rfl (fun u hu => by simp at hu; subst hu; rfl) (by simp [maxLen]; omega) (by omega) ?_
          intro o' j1 j2 j3
          simp -dsimp -implicitDefEqProofs (disch := first | with_reducible assumption | omega) [go_sem]
          exact ⟨o', bl ++ [false], ⟨by simpa using j1, apO_tail j2, by simp; omega, next _ hx1.symm⟩, by simp; omega, by simp [Ent, List.lookup], by simpa using Drop.tail _ _ _⟩
  · have hn : (bl.length : Int) = n := by omega
    simp -dsimp -implicitDefEqProofs (disch := first | with_reducible assumption | omega) [go_sem]
    refine call_pub (n := bl.length) i1 (by simp) (by omega) i2 fun h1 le1 sl => ?_
    refine pack_any _ sl (by omega) fun h2 r cs le2 ic hl hg => ?_
    simp -dsimp -implicitDefEqProofs (disch := first | with_reducible assumption | omega) [go_sem]
    refine fin_here (hk h2 r cs (le1.trans le2) ic (by omega) fun i => ?_)
    rw [hg i]
    by_cases e : i < bl.length
    · rw [i4 i e, show decide ((i : Int) < n) = true from decide_eq_true (by omega), Bool.true_and]
    · rw [show decide ((i : Int) < n) = false from decide_eq_false (by omega), Bool.false_and]
      simp [bol, List.getD_eq_getElem?_getD, List.getElem?_eq_none (show bl.length ≤ i by omega)]
end Go.X

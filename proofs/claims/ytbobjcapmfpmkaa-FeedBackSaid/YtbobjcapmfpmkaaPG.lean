/- The contract of param.Read. Conditions: the reader is the call's own, its bytes are known. -/
import Derived.Test.YtbobjcapmfpmkaaPF
import Derived.Test.YtbobjcapmfpmkaaWX
set_option linter.unusedVariables false
set_option linter.unusedSimpArgs false
namespace Go.X
open Go.RowKit Go.Proofs Go.Bl
variable {L : Own} {h : PH} {K : PK}

/-- so many numbers, whatever fails -/
def rAll (xs : List Int) (most : Int) : Nat → Nat × Int → List Int × (Nat × Int)
  | 0, s => ([], s)
  | k + 1, s => ((rNum xs s most).1 :: (rAll xs most k (rNum xs s most).2).1, (rAll xs most k (rNum xs s most).2).2)
theorem rAll_zero (xs : List Int) (most : Int) (s : Nat × Int) : rAll xs most 0 s = ([], s) := rfl
theorem rAll_len (xs : List Int) (most : Int) : ∀ k s, (rAll xs most k s).1.length = k
  | 0, _ => rfl
  | k + 1, s => by simp [rAll, rAll_len xs most k]
theorem rAll_pos {xs : List Int} {most : Int} (hx : ∀ z ∈ xs, 0 ≤ z ∧ z ≤ 255) (hm : 0 ≤ most) : ∀ (m : Nat) (s : Nat × Int), s.1 ≤ xs.length → (rAll xs most m s).2.1 ≤ xs.length ∧ ∀ z ∈ (rAll xs most m s).1, 0 ≤ z ∧ z ≤ most
  | 0, s, hs => ⟨hs, fun z hz => by simp [rAll] at hz⟩
  | m + 1, s, hs => by
    have hp := rNum_pos xs s most hx hs hm
    have ih := rAll_pos hx hm m (rNum xs s most).2 hp.1
    simp only [rAll]
    refine ⟨ih.1, fun z hz => ?_⟩
    rcases List.mem_cons.1 hz with rfl | hz
    · exact hp.2
    · exact ih.2 z hz
def parL (ws ns : List Int) : ParD := ⟨at0 ws 0, at0 ws 1, at0 ws 2, at0 ws 3, at0 ws 4, at0 ws 5, at0 ws 6, at0 ws 7, at0 ws 8, at0 ws 9, at0 ws 10, at0 ws 11, at0 ws 12, at0 ws 13, at0 ns 0, at0 ns 1, at0 ns 2, at0 ns 3, at0 ns 4, at0 ns 5, at0 ns 6, at0 ns 7, at0 ns 8, at0 ns 9⟩
theorem wides_parL (ws ns : List Int) (hw : ws.length = 14) : wides (parL ws ns) = ws := by
  match ws, hw with
  | [_, _, _, _, _, _, _, _, _, _, _, _, _, _], _ => rfl
theorem narrows_parL (ws ns : List Int) (hn : ns.length = 10) : narrows (parL ws ns) = ns := by
  match ns, hn with
  | [_, _, _, _, _, _, _, _, _, _], _ => rfl
/-- the parameters that are read, behind whatever fails; the state -/
def rPar (xs : List Int) (s : Nat × Int) : ParD × (Nat × Int) :=
  (parL (rAll xs 18446744073709551615 14 s).1 (rAll xs 2147483647 10 (rAll xs 18446744073709551615 14 s).2).1, (rAll xs 2147483647 10 (rAll xs 18446744073709551615 14 s).2).2)
theorem rPar_ok {xs : List Int} {s : Nat × Int} (hx : ∀ z ∈ xs, 0 ≤ z ∧ z ≤ 255) (hs : s.1 ≤ xs.length) : ParOk (rPar xs s).1 ∧ (rPar xs s).2.1 ≤ xs.length := by
  have h1 := rAll_pos hx (most := 18446744073709551615) (by decide) 14 s hs
  have h2 := rAll_pos hx (most := 2147483647) (by decide) 10 _ h1.1
  refine ⟨⟨fun z hz => ?_, fun z hz => ?_⟩, h2.1⟩
  · rw [rPar, wides_parL _ _ (rAll_len _ _ _ _)] at hz
    exact h1.2 z hz
  · rw [rPar, narrows_parL _ _ (rAll_len _ _ _ _)] at hz
    have := h2.2 z hz
    omega
/-- what Read hands back: parameters, an error's number -/
def pRead (xs : List Int) (s : Nat × Int) : ParD × Int :=
  if (rPar xs s).2.2 ≠ 0 then (zeroP, (rPar xs s).2.2) else if parR (rPar xs s).1 then ((rPar xs s).1, 0) else (zeroP, 70)
def cellsP (ws ns : List Int) : List Value := ws.map (.int .u64) ++ (List.replicate (14 - ws.length) (.int .u64 0) ++ (ns.map (.int .i64) ++ List.replicate (10 - ns.length) (.int .i64 0)))
theorem cellsP_w (ws ns : List Int) (v : Int) (h : ws.length < 14) : (cellsP ws ns).set ws.length (.int .u64 v) = cellsP (ws ++ [v]) ns := by
  unfold cellsP
  rw [List.set_append_right _ _ (by simp), List.length_map, Nat.sub_self]
  obtain ⟨k, hk⟩ : ∃ k, 14 - ws.length = k + 1 := ⟨14 - ws.length - 1, by omega⟩
  have hk2 : 14 - (ws.length + 1) = k := by omega
  rw [hk, List.replicate_succ]
  simp [hk2]
theorem cellsP_n (ws ns : List Int) (v : Int) (hw : ws.length = 14) (h : ns.length < 10) : (cellsP ws ns).set (14 + ns.length) (.int .i64 v) = cellsP ws (ns ++ [v]) := by
  unfold cellsP
  obtain ⟨k, hk⟩ : ∃ k, 10 - ns.length = k + 1 := ⟨10 - ns.length - 1, by omega⟩
  have hk2 : 10 - (ns.length + 1) = k := by omega
  rw [hw, Nat.sub_self, List.replicate_zero, List.nil_append, List.set_append_right _ _ (by simp; omega), List.length_map, hw, Nat.add_sub_cancel_left, List.set_append_right _ _ (by simp), List.length_map, Nat.sub_self, hk, List.replicate_succ]
  simp [hk2]
theorem cellsP_full (ws ns : List Int) (hw : ws.length = 14) (hn : ns.length = 10) : cellsP ws ns = parC (parL ws ns) := by
  match ws, hw, ns, hn with
  | [_, _, _, _, _, _, _, _, _, _, _, _, _, _], _, [_, _, _, _, _, _, _, _, _, _], _ => rfl
theorem cellsP_len (ws ns : List Int) (hw : ws.length ≤ 14) (hn : ns.length ≤ 10) : (cellsP ws ns).length = 24 := by
  simp [cellsP]; omega
set_option maxHeartbeats 1600000 in
set_option maxRecDepth 20000 in
theorem pread_any {br : Nat} {v : Value} {xs : List Int} {s : Nat × Int} (hx : Ints h .u8 v xs) (hs : s.1 ≤ xs.length)
    (hk : ∀ h', PH.le h h' → K (.tuple #[parV (pRead xs s).1, .int .i64 (pRead xs s).2]) (rO br v (rPar xs s).2 L) h') :
    Spec Try.prog 161 [.pointer (some ⟨br, 0, none⟩)] (rO br v s L) h K := by
  have hz := byte_of hx
  refine x_enterA Try.func161 rfl (rs := [_, _]) rfl rfl mixed (by kernel_rfl) rfl rfl fun ap nd => ?_
  obtain ⟨ap1, _⟩ := ap
  simp only [wO, rO, dO, List.cons_append, List.nil_append]
  simp -dsimp -implicitDefEqProofs (disch := first | with_reducible assumption | omega) [go_sem]
  refine xnew fun b2 n_b2 h_b2 => ?_
  try simp only [Apart] at n_b2
  simp -dsimp -implicitDefEqProofs (disch := first | with_reducible assumption | omega) [go_sem]
  refine Spec.apn (wides_any b2 fun h3 w le3 sl3 ap nd' => ?_)
  obtain ⟨t2, tr, _⟩ := ap
  obtain ⟨⟨n2, _⟩, _⟩ := nd'
  have op := sl3.openp
  obtain ⟨a1, c1, rfl, _, hcs⟩ := op
  simp only [Nat.zero_add] at hcs
  simp -dsimp -implicitDefEqProofs (disch := first | with_reducible assumption | omega) [go_sem]
  refine xloop (γ := Nat × (Nat × Int) × List Int) (0, s, [])
    (fun g => g.1 ≤ 14 ∧ g.2.2.length = g.1 ∧ g.2.1.1 ≤ xs.length ∧ rAll xs 18446744073709551615 14 s = (g.2.2 ++ (rAll xs 18446744073709551615 (14 - g.1) g.2.1).1, (rAll xs 18446744073709551615 (14 - g.1) g.2.1).2))
    (fun g => [(12, .int .i64 g.1), (11, .int .i64 14), (10, .slice a1 14 c1), (2, .pointer (some ⟨b2, 0, none⟩)), (0, .pointer (some ⟨br, 0, none⟩))])
    (fun g => rO br v g.2.1 (⟨b2, 82, cellsP g.2.2 [], 24⟩ :: L)) (fun _ => h3) (fun g => 14 - g.1) ?_ ?_ ?_ ?_
  · exact ⟨by simp, rfl, hs, by simp⟩
  · simp [Ent, List.lookup, xEnv]
  · exact Drop.perm _ (List.Perm.swap _ _ _)
  rintro ⟨i, s1, ws⟩ ⟨i1, i2, i3, i4⟩
  simp only at i1 i2 i3 i4 ⊢
  by_cases d1 : i < 14
  · have pn := rNum_pos xs s1 18446744073709551615 hz i3 (by decide)
    obtain ⟨k, hkk⟩ : ∃ k, 14 - i = k + 1 := ⟨14 - i - 1, by omega⟩
    have hk2 : 14 - (i + 1) = k := by omega
    have hl := cellsP_len ws [] (by omega) (by simp)
    simp only [wO, rO, dO, List.cons_append, List.nil_append]
    simp -dsimp -implicitDefEqProofs (disch := first | with_reducible assumption | omega) [go_sem, idx hcs]
    refine rnum_any (s := s1) (hx.up le3) i3 ?_
    simp only [wO, rO, dO, List.cons_append, List.nil_append]
    simp -dsimp -implicitDefEqProofs (disch := first | with_reducible assumption | omega) [go_sem]
    subst i2
    rw [cellsP_w ws [] _ d1]
    refine ⟨by omega, ws.length + 1, (rNum xs s1 18446744073709551615).2.1, (rNum xs s1 18446744073709551615).2.2, ws ++ [(rNum xs s1 18446744073709551615).1], ⟨by omega, by simp, pn.1, ?_⟩, by omega, by simp [Ent, List.lookup], Drop.refl _ _⟩
    rw [i4, hkk, hk2]
    simp [rAll]
  · have hi : i = 14 := by omega
    subst hi
    simp only [Nat.sub_self, rAll_zero, List.append_nil] at i4
    simp only [wO, rO, dO, List.cons_append, List.nil_append]
    simp -dsimp -implicitDefEqProofs (disch := first | with_reducible assumption | omega) [go_sem]
    refine Spec.apn (call_p1 (narrows_any b2 fun h4 w le4 sl4 ap nd' => ?_))
    obtain ⟨u2, ur, _⟩ := ap
    have op := sl4.openp
    obtain ⟨a2, c2, rfl, _, hcs2⟩ := op
    simp -dsimp -implicitDefEqProofs (disch := first | with_reducible assumption | omega) [go_sem]
    refine xloop (γ := Nat × (Nat × Int) × List Int) (0, s1, [])
      (fun g => g.1 ≤ 10 ∧ g.2.2.length = g.1 ∧ g.2.1.1 ≤ xs.length ∧ rAll xs 2147483647 10 s1 = (g.2.2 ++ (rAll xs 2147483647 (10 - g.1) g.2.1).1, (rAll xs 2147483647 (10 - g.1) g.2.1).2))
      (fun g => [(23, .int .i64 g.1), (22, .int .i64 10), (21, .slice a2 10 c2), (2, .pointer (some ⟨b2, 0, none⟩)), (0, .pointer (some ⟨br, 0, none⟩))])
      (fun g => rO br v g.2.1 (⟨b2, 82, cellsP ws g.2.2, 24⟩ :: L)) (fun _ => h4) (fun g => 10 - g.1) ?_ ?_ ?_ ?_
    · exact ⟨by simp, rfl, i3, by simp⟩
    · simp [Ent, List.lookup]
    · exact Drop.perm _ (List.Perm.swap _ _ _)
    rintro ⟨j, s2, ns⟩ ⟨j1, j2, j3, j4⟩
    simp only at j1 j2 j3 j4 ⊢
    have hl := cellsP_len ws ns (by omega) (by omega)
    by_cases d2 : j < 10
    · have pn := rNum_pos xs s2 2147483647 hz j3 (by decide)
      obtain ⟨k, hkk⟩ : ∃ k, 10 - j = k + 1 := ⟨10 - j - 1, by omega⟩
      have hk2 : 10 - (j + 1) = k := by omega
      simp only [wO, rO, dO, List.cons_append, List.nil_append]
      simp -dsimp -implicitDefEqProofs (disch := first | with_reducible assumption | omega) [go_sem, idx hcs2]
      refine rint_any (s := s2) (hx.up (le3.trans le4)) j3 (by decide) (by decide) ?_
      simp only [wO, rO, dO, List.cons_append, List.nil_append]
      simp -dsimp -implicitDefEqProofs (disch := first | with_reducible assumption | omega) [go_sem]
      subst j2
      rw [cellsP_n ws ns _ i2 d2]
      refine ⟨by omega, ns.length + 1, (rNum xs s2 2147483647).2.1, (rNum xs s2 2147483647).2.2, ns ++ [(rNum xs s2 2147483647).1], ⟨by omega, by simp, pn.1, ?_⟩, by omega, by simp [Ent, List.lookup], Drop.refl _ _⟩
      rw [j4, hkk, hk2]
      simp [rAll]
    · have hj : j = 10 := by omega
      subst hj
      simp only [Nat.sub_self, rAll_zero, List.append_nil] at j4
      have hp : rPar xs s = (parL ws ns, s2) := by simp only [rPar, i4, j4]
      have hpok := rPar_ok hz hs
      rw [hp] at hpok
      have hr : pRead xs s = if s2.2 ≠ 0 then (zeroP, s2.2) else if parR (parL ws ns) then (parL ws ns, 0) else (zeroP, 70) := by simp only [pRead, hp]
      rw [cellsP_full ws ns i2 j2]
      rw [hp] at hk
      simp only at hk
      simp only [wO, rO, dO, List.cons_append, List.nil_append]
      simp -dsimp -implicitDefEqProofs (disch := first | with_reducible assumption | omega) [go_sem]
      refine rerr_any (s := s2) ?_
      by_cases e : s2.2 = 0
      · rw [if_neg (by simpa using e)] at hr
        simp only [wO, rO, dO, List.cons_append, List.nil_append]
        simp -dsimp -implicitDefEqProofs (disch := first | with_reducible assumption | omega) [go_sem]
        refine Spec.apn (pcheck_any (parL ws ns) hpok.1 fun h5 le5 ap nd' => ?_)
        simp only [Ap] at ap
        obtain ⟨wr, w2, _⟩ := ap
        cases hpr : parR (parL ws ns) with
        | true =>
          rw [if_pos hpr] at hr
          rw [hr] at hk
          simp only [if_true]
          simp -dsimp -implicitDefEqProofs (disch := first | with_reducible assumption | omega) [go_sem]
          exact fin_perm (List.Perm.swap _ _ _) (fin_tail (fin_here (hk h5 (le3.trans (le4.trans le5)))))
        | false =>
          rw [if_neg (by simp [hpr])] at hr
          rw [hr] at hk
          simp only [Bool.false_eq_true, if_false]
          simp -dsimp -implicitDefEqProofs (disch := first | with_reducible assumption | omega) [go_sem]
          exact fin_perm (List.Perm.swap _ _ _) (fin_tail (fin_here (hk h5 (le3.trans (le4.trans le5)))))
      · rw [if_pos e] at hr
        rw [hr] at hk
        simp only [wO, rO, dO, List.cons_append, List.nil_append]
        simp -dsimp -implicitDefEqProofs (disch := first | with_reducible assumption | omega) [go_sem]
        exact fin_perm (List.Perm.swap _ _ _) (fin_tail (fin_here (hk h4 (le3.trans le4))))
end Go.X

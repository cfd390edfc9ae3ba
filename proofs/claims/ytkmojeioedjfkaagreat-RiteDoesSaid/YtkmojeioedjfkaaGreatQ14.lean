/- Lemmas and contracts for a statement about the given program. Conditions: as each says. -/
import Derived.Test.YtkmojeioedjfkaaGreatQ03
import Derived.Test.YtkmojeioedjfkaaGreatQ04
import Derived.Test.YtkmojeioedjfkaaGreatQ07
import Derived.Test.YtkmojeioedjfkaaGreatQ11
import Derived.Test.YtkmojeioedjfkaaGreatQ12
import Derived.Test.YtkmojeioedjfkaaGreatQ13
set_option linter.unusedVariables false
set_option linter.unusedSimpArgs false
set_option maxHeartbeats 12800000
set_option maxRecDepth 20000
namespace Go.X
open Go.RowKit Go.Proofs Go.Bl
variable {L : Own} {h : PH} {K : PK}
theorem IsCert.range {v : Value} {c : CertD} (hc : IsCert h v c) (i : Nat) : 0 ≤ at0 c.st i ∧ at0 c.st i ≤ 18446744073709551615 := by
 obtain ⟨_, _, _, hs, _⟩ := hc; exact hs.word i
def ptrs (b i : Nat) : Nat → List Value
 | 0 => []
 | n + 1 => .pointer (some ⟨b, i, none⟩) :: ptrs b (i + 1) n
theorem ptrs_get (b : Nat) : ∀ (n i j : Nat), j < n → (ptrs b i n)[j]? = some (.pointer (some ⟨b, i + j, none⟩))
 | 0, _, _, h => by omega
 | n + 1, i, 0, _ => rfl
 | n + 1, i, j + 1, h => by
  rw [ptrs, List.getElem?_cons_succ, ptrs_get b n (i + 1) j (by omega), show i + 1 + j = i + (j + 1) by omega]
theorem list64_any (v : Value) (hk : K v L h) : Spec Tryz.prog 238 [v] L h K := by
 refine x_enter Tryz.func238 rfl (rs := [_]) rfl rfl mixed (by kernel_rfl) rfl rfl ?_
 simp -dsimp -implicitDefEqProofs (disch := first|with_reducible assumption|omega) [go_sem]
 exact fin_here hk
theorem listi_any (v : Value) (hk : K v L h) : Spec Tryz.prog 239 [v] L h K := by
 refine x_enter Tryz.func239 rfl (rs := [_]) rfl rfl mixed (by kernel_rfl) rfl rfl ?_
 simp -dsimp -implicitDefEqProofs (disch := first|with_reducible assumption|omega) [go_sem]
 exact fin_here hk
theorem wides_any (b : Nat) (hk : ∀ h' v, PH.le h h' → Sl h' v 14 1 (ptrs b 0 14) → K v L h') : Spec Tryz.prog 236 [.pointer (some ⟨b, 0, none⟩)] L h K := by
 refine x_enter Tryz.func236 rfl (rs := [_]) rfl rfl mixed (by kernel_rfl) rfl rfl ?_
 simp -dsimp -implicitDefEqProofs (disch := first|with_reducible assumption|omega) [go_sem]
 refine xany (.tk 0 (.tk 1 (.tk 2 (.tk 3 (.tk 4 (.tk 5 (.tk 6 (.tk 7 (.tk 8 (.tk 9 (.tk 10 (.tk 11 (.tk 12 (.tk 13 (.tk 14 (.tk 15 (.tk 16 (.tk 17 (.tk 18 (.tk 19 (.tk 20 (.tk 21 (.tk 22 (.tk 23 (.tk 24 (.tk 25 (.tk 26 (.tk 27 (.tk 28 (.tk 29 (.tk 30 (.tk 31 (.tk 32 (.tk 33 (.tk 34 (.tk 35 (.tk 36 (.tk 37 (.tk 38 (.tk 39 (.tk 40 (.tk 41 (.or true 42 (.or true 43 (.tk 44 (.fin)) (.nil)) (.nil)))))))))))))))))))))))))))))))))))))))))))) (by kernel_rfl) (by kernel_rfl) ?_
 simp -dsimp -implicitDefEqProofs (disch := first|with_reducible assumption|omega) [go_sem]
 refine xnew fun b1 n_b1 h_b1 => ?_
 try simp only [Apart] at n_b1
 simp -dsimp -implicitDefEqProofs (disch := first|with_reducible assumption|omega) [go_sem]
 refine call_pub_at (sz := 1) (n := 14) (cap := 14) [] ⟨Nat.le_refl _, by decide⟩ rfl (by decide) h_b1 fun h2 le2 s2 f2 => ?_
 refine list64_any _ ?_
 simp -dsimp -implicitDefEqProofs (disch := first|with_reducible assumption|omega) [go_sem]
 exact fin_here (hk h2 _ le2 s2)
theorem narrows_any (b : Nat) (hk : ∀ h' v, PH.le h h' → Sl h' v 10 1 (ptrs b 14 10) → K v L h') : Spec Tryz.prog 237 [.pointer (some ⟨b, 0, none⟩)] L h K := by
 refine x_enter Tryz.func237 rfl (rs := [_]) rfl rfl mixed (by kernel_rfl) rfl rfl ?_
 simp -dsimp -implicitDefEqProofs (disch := first|with_reducible assumption|omega) [go_sem]
 refine xany (.tk 0 (.tk 1 (.tk 2 (.tk 3 (.tk 4 (.tk 5 (.tk 6 (.tk 7 (.tk 8 (.tk 9 (.tk 10 (.tk 11 (.tk 12 (.tk 13 (.tk 14 (.tk 15 (.tk 16 (.tk 17 (.tk 18 (.tk 19 (.tk 20 (.tk 21 (.tk 22 (.tk 23 (.tk 24 (.tk 25 (.tk 26 (.tk 27 (.tk 28 (.tk 29 (.or true 30 (.or true 31 (.tk 32 (.fin)) (.nil)) (.nil)))))))))))))))))))))))))))))))) (by kernel_rfl) (by kernel_rfl) ?_
 simp -dsimp -implicitDefEqProofs (disch := first|with_reducible assumption|omega) [go_sem]
 refine xnew fun b1 n_b1 h_b1 => ?_
 try simp only [Apart] at n_b1
 simp -dsimp -implicitDefEqProofs (disch := first|with_reducible assumption|omega) [go_sem]
 refine call_pub_at (sz := 1) (n := 10) (cap := 10) [] ⟨Nat.le_refl _, by decide⟩ rfl (by decide) h_b1 fun h2 le2 s2 f2 => ?_
 refine listi_any _ ?_
 simp -dsimp -implicitDefEqProofs (disch := first|with_reducible assumption|omega) [go_sem]
 exact fin_here (hk h2 _ le2 s2)
theorem Sl.openp {v : Value} {b i n : Nat} (hs : Sl h v n 1 (ptrs b i n)) : ∃ a cap, v = .slice a n cap ∧ n ≤ cap ∧ ∀ j, j < n → elemCell h a j = some ((fun j => .pointer (some ⟨b, i + j, none⟩)) j) := by
 obtain ⟨h1, a, cap, h2, h3, h4, h4', h5, h6⟩ := hs
 exact ⟨a, cap, h2, h3, fun j hj => h6 j _ (ptrs_get b n i j hj)⟩
def encP (p : ParD) : List Int := flatN (wides p ++ narrows p)
def rAll (xs : List Int) (most : Int) : Nat → Nat × Int → List Int × (Nat × Int)
 | 0, s => ([], s)
 | k + 1, s => ((rNum xs s most).1 :: (rAll xs most k (rNum xs s most).2).1, (rAll xs most k (rNum xs s most).2).2)
theorem rAll_zero (xs : List Int) (most : Int) (s : Nat × Int) : rAll xs most 0 s = ([], s) := rfl
theorem rAll_len (xs : List Int) (most : Int) : ∀ k s, (rAll xs most k s).1.length = k
 | 0, _ => rfl
 | k + 1, s => by simp [rAll, rAll_len xs most k]
theorem rAll_pos {xs : List Int} {most : Int} (hx : ∀ z ∈ xs, 0 ≤ z ∧ z ≤ 255) (hm : 0 ≤ most) : ∀ (m : Nat) (s : Nat × Int), s.1 ≤ xs.length → (rAll xs most m s).2.1 ≤ xs.length ∧ ∀ z ∈ (rAll xs most m s).1, 0 ≤ z ∧ z ≤ most
 | 0, s, hs => ⟨hs, fun z hz => by simp [rAll] at hz⟩
 | m + 1, s, hs => by
  have hp := rNum_pos xs s most hx hs hm
  have ih := rAll_pos hx hm m (rNum xs s most).2 hp.1
  simp only [rAll]
  refine ⟨ih.1, fun z hz => ?_⟩
  rcases List.mem_cons.1 hz with rfl | hz
  ·exact hp.2
  ·exact ih.2 z hz
def parL (ws ns : List Int) : ParD := ⟨at0 ws 0, at0 ws 1, at0 ws 2, at0 ws 3, at0 ws 4, at0 ws 5, at0 ws 6, at0 ws 7, at0 ws 8, at0 ws 9, at0 ws 10, at0 ws 11, at0 ws 12, at0 ws 13, at0 ns 0, at0 ns 1, at0 ns 2, at0 ns 3, at0 ns 4, at0 ns 5, at0 ns 6, at0 ns 7, at0 ns 8, at0 ns 9⟩
theorem wides_parL (ws ns : List Int) (hw : ws.length = 14) : wides (parL ws ns) = ws := by
 match ws, hw with
 | [_, _, _, _, _, _, _, _, _, _, _, _, _, _], _ => rfl
theorem narrows_parL (ws ns : List Int) (hn : ns.length = 10) : narrows (parL ws ns) = ns := by
 match ns, hn with
 | [_, _, _, _, _, _, _, _, _, _], _ => rfl
def rPar (xs : List Int) (s : Nat × Int) : ParD × (Nat × Int) :=
 (parL (rAll xs 18446744073709551615 14 s).1 (rAll xs 2147483647 10 (rAll xs 18446744073709551615 14 s).2).1, (rAll xs 2147483647 10 (rAll xs 18446744073709551615 14 s).2).2)
theorem rPar_ok {xs : List Int} {s : Nat × Int} (hx : ∀ z ∈ xs, 0 ≤ z ∧ z ≤ 255) (hs : s.1 ≤ xs.length) : ParOk (rPar xs s).1 ∧ (rPar xs s).2.1 ≤ xs.length := by
 have h1 := rAll_pos hx (most := 18446744073709551615) (by decide) 14 s hs
 have h2 := rAll_pos hx (most := 2147483647) (by decide) 10 _ h1.1
 refine ⟨⟨fun z hz => ?_, fun z hz => ?_⟩, h2.1⟩
 ·rw [rPar, wides_parL _ _ (rAll_len _ _ _ _)] at hz
  exact h1.2 z hz
 ·rw [rPar, narrows_parL _ _ (rAll_len _ _ _ _)] at hz
  have := h2.2 z hz
  omega
def pRead (xs : List Int) (s : Nat × Int) : ParD × Int :=
 if (rPar xs s).2.2 ≠ 0 then (zeroP, (rPar xs s).2.2) else if parR (rPar xs s).1 then ((rPar xs s).1, 0) else (zeroP, 70)
def cellsP (ws ns : List Int) : List Value := ws.map (.int .u64) ++ (List.replicate (14 - ws.length) (.int .u64 0) ++ (ns.map (.int .i64) ++ List.replicate (10 - ns.length) (.int .i64 0)))
theorem cellsP_w (ws ns : List Int) (v : Int) (h : ws.length < 14) : (cellsP ws ns).set ws.length (.int .u64 v) = cellsP (ws ++ [v]) ns := by
 unfold cellsP
 rw [List.set_append_right _ _ (by simp), List.length_map, Nat.sub_self]
 obtain ⟨k, hk⟩ : ∃ k, 14 - ws.length = k + 1 := ⟨14 - ws.length - 1, by omega⟩
 have hk2 : 14 - (ws.length + 1) = k := by omega
 rw [hk, List.replicate_succ]
 simp [hk2]
theorem cellsP_n (ws ns : List Int) (v : Int) (hw : ws.length = 14) (h : ns.length < 10) : (cellsP ws ns).set (14 + ns.length) (.int .i64 v) = cellsP ws (ns ++ [v]) := by
 unfold cellsP
 obtain ⟨k, hk⟩ : ∃ k, 10 - ns.length = k + 1 := ⟨10 - ns.length - 1, by omega⟩
 have hk2 : 10 - (ns.length + 1) = k := by omega
 rw [hw, Nat.sub_self, List.replicate_zero, List.nil_append, List.set_append_right _ _ (by simp; omega), List.length_map, hw, Nat.add_sub_cancel_left, List.set_append_right _ _ (by simp), List.length_map, Nat.sub_self, hk, List.replicate_succ]
 simp [hk2]
theorem cellsP_full (ws ns : List Int) (hw : ws.length = 14) (hn : ns.length = 10) : cellsP ws ns = parC (parL ws ns) := by
 match ws, hw, ns, hn with
 | [_, _, _, _, _, _, _, _, _, _, _, _, _, _], _, [_, _, _, _, _, _, _, _, _, _], _ => rfl
theorem cellsP_len (ws ns : List Int) (hw : ws.length ≤ 14) (hn : ns.length ≤ 10) : (cellsP ws ns).length = 24 := by
 simp [cellsP]; omega
theorem pread_any {br : Nat} {v : Value} {xs : List Int} {s : Nat × Int} (hx : Ints h .u8 v xs) (hs : s.1 ≤ xs.length)
  (hk : ∀ h', PH.le h h' → K (.tuple #[parV (pRead xs s).1, .int .i64 (pRead xs s).2]) (rO br v (rPar xs s).2 L) h') :
  Spec Tryz.prog 234 [.pointer (some ⟨br, 0, none⟩)] (rO br v s L) h K := by
 have hz := byte_of hx
 refine x_enterA Tryz.func234 rfl (rs := [_, _]) rfl rfl mixed (by kernel_rfl) rfl rfl fun ap nd => ?_
 obtain ⟨ap1, _⟩ := ap
 simp only [wO, rO, List.cons_append, List.nil_append]
 simp -dsimp -implicitDefEqProofs (disch := first|with_reducible assumption|omega) [go_sem]
 refine xnew fun b2 n_b2 h_b2 => ?_
 try simp only [Apart] at n_b2
 simp -dsimp -implicitDefEqProofs (disch := first|with_reducible assumption|omega) [go_sem]
 refine Spec.apn (wides_any b2 fun h3 w le3 sl3 ap nd' => ?_)
 obtain ⟨t2, tr, _⟩ := ap
 obtain ⟨⟨n2, _⟩, _⟩ := nd'
 have op := sl3.openp
 obtain ⟨a1, c1, rfl, _, hcs⟩ := op
 simp only [Nat.zero_add] at hcs
 simp -dsimp -implicitDefEqProofs (disch := first|with_reducible assumption|omega) [go_sem]
 refine xloop (γ := Nat × (Nat × Int) × List Int) (0, s, [])
  (fun g => g.1 ≤ 14 ∧ g.2.2.length = g.1 ∧ g.2.1.1 ≤ xs.length ∧ rAll xs 18446744073709551615 14 s = (g.2.2 ++ (rAll xs 18446744073709551615 (14 - g.1) g.2.1).1, (rAll xs 18446744073709551615 (14 - g.1) g.2.1).2))
  (fun g => [(12, .int .i64 g.1), (11, .int .i64 14), (10, .slice a1 14 c1), (2, .pointer (some ⟨b2, 0, none⟩)), (0, .pointer (some ⟨br, 0, none⟩))])
  (fun g => rO br v g.2.1 (⟨b2, 25, cellsP g.2.2 [], 24⟩ :: L)) (fun _ => h3) (fun g => 14 - g.1) ?_ ?_ ?_ ?_
 ·exact ⟨by simp, rfl, hs, by simp⟩
 ·simp [Ent, List.lookup, xEnv]
 ·exact Drop.perm _ (List.Perm.swap _ _ _)
 rintro ⟨i, s1, ws⟩ ⟨i1, i2, i3, i4⟩
 simp only at i1 i2 i3 i4 ⊢
 by_cases d1 : i < 14
 ·have pn := rNum_pos xs s1 18446744073709551615 hz i3 (by decide)
  obtain ⟨k, hkk⟩ : ∃ k, 14 - i = k + 1 := ⟨14 - i - 1, by omega⟩
  have hk2 : 14 - (i + 1) = k := by omega
  have hl := cellsP_len ws [] (by omega) (by simp)
  simp only [wO, rO, List.cons_append, List.nil_append]
  simp -dsimp -implicitDefEqProofs (disch := first|with_reducible assumption|omega) [go_sem, idx hcs]
  refine rnum_any (s := s1) (hx.up le3) i3 ?_
  simp only [wO, rO, List.cons_append, List.nil_append]
  simp -dsimp -implicitDefEqProofs (disch := first|with_reducible assumption|omega) [go_sem]
  subst i2
  rw [cellsP_w ws [] _ d1]
  refine ⟨by omega, ws.length + 1, (rNum xs s1 18446744073709551615).2.1, (rNum xs s1 18446744073709551615).2.2, ws ++ [(rNum xs s1 18446744073709551615).1], ⟨by omega, by simp, pn.1, ?_⟩, by omega, by simp [Ent, List.lookup], Drop.refl _ _⟩
  rw [i4, hkk, hk2]
  simp [rAll]
 ·have hi : i = 14 := by omega
  subst hi
  simp only [Nat.sub_self, rAll_zero, List.append_nil] at i4
  simp only [wO, rO, List.cons_append, List.nil_append]
  simp -dsimp -implicitDefEqProofs (disch := first|with_reducible assumption|omega) [go_sem]
  refine Spec.apn (call_p1 (narrows_any b2 fun h4 w le4 sl4 ap nd' => ?_))
  obtain ⟨u2, ur, _⟩ := ap
  have op := sl4.openp
  obtain ⟨a2, c2, rfl, _, hcs2⟩ := op
  simp -dsimp -implicitDefEqProofs (disch := first|with_reducible assumption|omega) [go_sem]
  refine xloop (γ := Nat × (Nat × Int) × List Int) (0, s1, [])
   (fun g => g.1 ≤ 10 ∧ g.2.2.length = g.1 ∧ g.2.1.1 ≤ xs.length ∧ rAll xs 2147483647 10 s1 = (g.2.2 ++ (rAll xs 2147483647 (10 - g.1) g.2.1).1, (rAll xs 2147483647 (10 - g.1) g.2.1).2))
   (fun g => [(23, .int .i64 g.1), (22, .int .i64 10), (21, .slice a2 10 c2), (2, .pointer (some ⟨b2, 0, none⟩)), (0, .pointer (some ⟨br, 0, none⟩))])
   (fun g => rO br v g.2.1 (⟨b2, 25, cellsP ws g.2.2, 24⟩ :: L)) (fun _ => h4) (fun g => 10 - g.1) ?_ ?_ ?_ ?_
  ·exact ⟨by simp, rfl, i3, by simp⟩
  ·simp [Ent, List.lookup]
  ·exact Drop.perm _ (List.Perm.swap _ _ _)
  rintro ⟨j, s2, ns⟩ ⟨j1, j2, j3, j4⟩
  simp only at j1 j2 j3 j4 ⊢
  have hl := cellsP_len ws ns (by omega) (by omega)
  by_cases d2 : j < 10
  ·have pn := rNum_pos xs s2 2147483647 hz j3 (by decide)
   obtain ⟨k, hkk⟩ : ∃ k, 10 - j = k + 1 := ⟨10 - j - 1, by omega⟩
   have hk2 : 10 - (j + 1) = k := by omega
   simp only [wO, rO, List.cons_append, List.nil_append]
   simp -dsimp -implicitDefEqProofs (disch := first|with_reducible assumption|omega) [go_sem, idx hcs2]
   refine rint_any (s := s2) (hx.up (le3.trans le4)) j3 (by decide) (by decide) ?_
   simp only [wO, rO, List.cons_append, List.nil_append]
   simp -dsimp -implicitDefEqProofs (disch := first|with_reducible assumption|omega) [go_sem]
   subst j2
   rw [cellsP_n ws ns _ i2 d2]
   refine ⟨by omega, ns.length + 1, (rNum xs s2 2147483647).2.1, (rNum xs s2 2147483647).2.2, ns ++ [(rNum xs s2 2147483647).1], ⟨by omega, by simp, pn.1, ?_⟩, by omega, by simp [Ent, List.lookup], Drop.refl _ _⟩
   rw [j4, hkk, hk2]
   simp [rAll]
  ·have hj : j = 10 := by omega
   subst hj
   simp only [Nat.sub_self, rAll_zero, List.append_nil] at j4
   have hp : rPar xs s = (parL ws ns, s2) := by simp only [rPar, i4, j4]
   have hpok := rPar_ok hz hs
   rw [hp] at hpok
   have hr : pRead xs s = if s2.2 ≠ 0 then (zeroP, s2.2) else if parR (parL ws ns) then (parL ws ns, 0) else (zeroP, 70) := by simp only [pRead, hp]
   rw [cellsP_full ws ns i2 j2]
   rw [hp] at hk
   simp only at hk
   simp only [wO, rO, List.cons_append, List.nil_append]
   simp -dsimp -implicitDefEqProofs (disch := first|with_reducible assumption|omega) [go_sem]
   refine rerr_any (s := s2) ?_
   by_cases e : s2.2 = 0
   ·rw [if_neg (by simpa using e)] at hr
    simp only [wO, rO, List.cons_append, List.nil_append]
    simp -dsimp -implicitDefEqProofs (disch := first|with_reducible assumption|omega) [go_sem]
    refine Spec.apn (pcheck_any (parL ws ns) hpok.1 fun h5 le5 ap nd' => ?_)
    simp only [Ap] at ap
    obtain ⟨wr, w2, _⟩ := ap
    cases hpr : parR (parL ws ns) with
    | true =>
     rw [if_pos hpr] at hr
     rw [hr] at hk
     simp only [if_true]
     simp -dsimp -implicitDefEqProofs (disch := first|with_reducible assumption|omega) [go_sem]
     exact fin_perm (List.Perm.swap _ _ _) (fin_tail (fin_here (hk h5 (le3.trans (le4.trans le5)))))
    | false =>
     rw [if_neg (by simp [hpr])] at hr
     rw [hr] at hk
     simp only [Bool.false_eq_true, if_false]
     simp -dsimp -implicitDefEqProofs (disch := first|with_reducible assumption|omega) [go_sem]
     exact fin_perm (List.Perm.swap _ _ _) (fin_tail (fin_here (hk h5 (le3.trans (le4.trans le5)))))
   ·rw [if_pos e] at hr
    rw [hr] at hk
    simp only [wO, rO, List.cons_append, List.nil_append]
    simp -dsimp -implicitDefEqProofs (disch := first|with_reducible assumption|omega) [go_sem]
    exact fin_perm (List.Perm.swap _ _ _) (fin_tail (fin_here (hk h4 (le3.trans le4))))
abbrev deedC (d : DeedD) (bv : Value) : List Value := [.int .i64 d.kind, .int .i64 d.acct, .int .i64 d.mem, .int .i64 d.to, .int .u64 d.amt, .int .i64 d.ep, bv, .int .i64 d.what, .int .u64 d.par.inc, .int .u64 d.par.maxEff, .int .u64 d.par.floor, .int .u64 d.par.cap, .int .u64 d.par.up, .int .u64 d.par.down, .int .u64 d.par.bias, .int .u64 d.par.quot, .int .u64 d.par.biasEm, .int .u64 d.par.quotEm, .int .u64 d.par.recover, .int .u64 d.par.scoreCap, .int .u64 d.par.rate, .int .u64 d.par.bond, .int .i64 d.par.delay, .int .i64 d.par.streak, .int .i64 d.par.boost, .int .i64 d.par.absent, .int .i64 d.par.burn, .int .i64 d.par.churn, .int .i64 d.par.wait, .int .i64 d.par.poll, .int .i64 d.par.enact, .int .i64 d.par.quorum, .int .i64 d.mot, .bool d.yes]
abbrev deedV (d : DeedD) (bv : Value) : Value := .agg #[.int .i64 d.kind, .int .i64 d.acct, .int .i64 d.mem, .int .i64 d.to, .int .u64 d.amt, .int .i64 d.ep, bv, .int .i64 d.what, .int .u64 d.par.inc, .int .u64 d.par.maxEff, .int .u64 d.par.floor, .int .u64 d.par.cap, .int .u64 d.par.up, .int .u64 d.par.down, .int .u64 d.par.bias, .int .u64 d.par.quot, .int .u64 d.par.biasEm, .int .u64 d.par.quotEm, .int .u64 d.par.recover, .int .u64 d.par.scoreCap, .int .u64 d.par.rate, .int .u64 d.par.bond, .int .i64 d.par.delay, .int .i64 d.par.streak, .int .i64 d.par.boost, .int .i64 d.par.absent, .int .i64 d.par.burn, .int .i64 d.par.churn, .int .i64 d.par.wait, .int .i64 d.par.poll, .int .i64 d.par.enact, .int .i64 d.par.quorum, .int .i64 d.mot, .bool d.yes]
structure IsDeed (h : PH) (bv : Value) (d : DeedD) : Prop where
 i : Ints h .u8 bv d.bits
 ok : DeedOk d
theorem IsDeed.up {h h' : PH} (le : PH.le h h') {bv : Value} {d : DeedD} (hd : IsDeed h bv d) : IsDeed h' bv d := ⟨hd.i.up le, hd.ok⟩
theorem dwithin_any (n lo hi : Int) (hk : K (.bool (wi n lo hi)) L h) : Spec Tryz.prog 109 [.int .i64 n, .int .i64 lo, .int .i64 hi] L h K := by
 unfold wi at hk
 refine x_enter Tryz.func109 rfl (rs := [_]) rfl rfl mixed (by kernel_rfl) rfl rfl ?_
 simp -dsimp -implicitDefEqProofs (disch := first|with_reducible assumption|omega) [go_sem]
 by_cases c : lo ≤ n
 ·simp -dsimp -implicitDefEqProofs (disch := first|with_reducible assumption|omega) [go_sem]
  exact fin_here (by simpa [c] using hk)
 ·simp -dsimp -implicitDefEqProofs (disch := first|with_reducible assumption|omega) [go_sem]
  exact fin_here (by simpa [c] using hk)
theorem paid_any {d : DeedD} (bv : Value) (hd : IsDeed h bv d) (hk : K (.bool (paidD d)) L h) : Spec Tryz.prog 112 [deedV d bv] L h K := by
 have ob := hd.i.open
 obtain ⟨a, c, rfl, _⟩ := ob
 unfold paidD at hk
 refine x_enter Tryz.func112 rfl (rs := [_]) rfl rfl mixed (by kernel_rfl) rfl rfl ?_
 simp -dsimp -implicitDefEqProofs (disch := first|with_reducible assumption|omega) [go_sem]
 refine xnew fun b1 n_b1 h_b1 => ?_
 try simp only [Apart] at n_b1
 simp -dsimp -implicitDefEqProofs (disch := first|with_reducible assumption|omega) [go_sem]
 refine dwithin_any _ _ _ ?_
 cases hw : wi d.kind 1 3 with
 | true =>
  rw [hw] at hk
  simp -dsimp -implicitDefEqProofs (disch := first|with_reducible assumption|omega) [go_sem]
  exact fin_tail (fin_here hk)
 | false =>
  rw [hw] at hk
  by_cases k6 : d.kind = 6
  ·simp -dsimp -implicitDefEqProofs (disch := first|with_reducible assumption|omega) [go_sem]
   exact fin_tail (fin_here (by simpa [k6] using hk))
  ·simp -dsimp -implicitDefEqProofs (disch := first|with_reducible assumption|omega) [go_sem]
   exact fin_tail (fin_here (by simpa [k6] using hk))
theorem bare_any {d : DeedD} (bv : Value) (hd : IsDeed h bv d) (hk : K (deedV (bareD d) (if d.kind = 5 then bv else .slice none 0 0)) L h) : Spec Tryz.prog 111 [deedV d bv] L h K := by
 have ob := hd.i.open
 obtain ⟨a, c, rfl, _⟩ := ob
 refine x_enter Tryz.func111 rfl (rs := [_]) rfl rfl mixed (by kernel_rfl) rfl rfl ?_
 simp -dsimp -implicitDefEqProofs (disch := first|with_reducible assumption|omega) [go_sem]
 refine xnew fun b1 n_b1 h_b1 => ?_
 try simp only [Apart] at n_b1
 simp -dsimp -implicitDefEqProofs (disch := first|with_reducible assumption|omega) [go_sem]
 refine xnew fun b2 n_b2 h_b2 => ?_
 try simp only [Apart] at n_b2
 simp -dsimp -implicitDefEqProofs (disch := first|with_reducible assumption|omega) [go_sem]
 refine xnew fun b3 n_b3 h_b3 => ?_
 try simp only [Apart] at n_b3
 simp -dsimp -implicitDefEqProofs (disch := first|with_reducible assumption|omega) [go_sem]
 by_cases k1 : d.kind = 1
 ·have e : bareD d = ⟨d.kind, d.acct, 0, d.to, d.amt, 0, [], 0, zeroP, 0, false⟩ := by simp [bareD, zeroD, k1]
  rw [e, if_neg (by omega)] at hk
  simp -dsimp -implicitDefEqProofs (disch := first|with_reducible assumption|omega) [go_sem]
  refine xanyl (.tk 0 (.tk 2 (.tkl 1 (.tk 4 (.or true 3 (.or false 5 (.tk 6 (.or false 7 (.fin) (.nil))) (.nil)) (.or false 5 (.or true 3 (.tk 6 (.or false 7 (.fin) (.nil))) (.nil)) (.nil))))))) (by kernel_rfl) (by kernel_rfl) [⟨b1, 52, deedC d (.slice a d.bits.length c), 34⟩] (Drop.mem (by simp)) ?_
  repeat' first
   | with_reducible refine xpl_or ?_ ?_
   | with_reducible refine xkp (Drop.mem (by simp)) ?_
   | simp -dsimp -implicitDefEqProofs (disch := first|with_reducible assumption|omega) [go_sem]
  all_goals exact fin_tail (fin_tail (fin_tail (fin_here hk)))
 by_cases k2 : d.kind = 2
 ·have e : bareD d = ⟨d.kind, d.acct, 0, 0, d.amt, 0, [], 0, zeroP, 0, false⟩ := by simp [bareD, zeroD, k2]
  rw [e, if_neg (by omega)] at hk
  simp -dsimp -implicitDefEqProofs (disch := first|with_reducible assumption|omega) [go_sem]
  exact fin_tail (fin_tail (fin_tail (fin_here hk)))
 by_cases k3 : d.kind = 3
 ·have e : bareD d = ⟨d.kind, d.acct, d.mem, 0, d.amt, 0, [], 0, zeroP, 0, false⟩ := by simp [bareD, zeroD, k3]
  rw [e, if_neg (by omega)] at hk
  simp -dsimp -implicitDefEqProofs (disch := first|with_reducible assumption|omega) [go_sem]
  refine xanyl (.tk 0 (.tk 2 (.tkl 1 (.tk 4 (.or true 3 (.or false 5 (.tk 6 (.or false 7 (.fin) (.nil))) (.nil)) (.or false 5 (.or true 3 (.tk 6 (.or false 7 (.fin) (.nil))) (.nil)) (.nil))))))) (by kernel_rfl) (by kernel_rfl) [⟨b1, 52, deedC d (.slice a d.bits.length c), 34⟩] (Drop.mem (by simp)) ?_
  repeat' first
   | with_reducible refine xpl_or ?_ ?_
   | with_reducible refine xkp (Drop.mem (by simp)) ?_
   | simp -dsimp -implicitDefEqProofs (disch := first|with_reducible assumption|omega) [go_sem]
  all_goals exact fin_tail (fin_tail (fin_tail (fin_here hk)))
 by_cases k4 : d.kind = 4
 ·have e : bareD d = ⟨d.kind, d.acct, d.mem, 0, 0, 0, [], 0, zeroP, 0, false⟩ := by simp [bareD, zeroD, k4]
  rw [e, if_neg (by omega)] at hk
  simp -dsimp -implicitDefEqProofs (disch := first|with_reducible assumption|omega) [go_sem]
  exact fin_tail (fin_tail (fin_tail (fin_here hk)))
 by_cases k5 : d.kind = 5
 ·have e : bareD d = ⟨d.kind, 0, 0, 0, 0, d.ep, d.bits, 0, zeroP, 0, false⟩ := by simp [bareD, zeroD, k5]
  rw [e, if_pos k5] at hk
  simp -dsimp -implicitDefEqProofs (disch := first|with_reducible assumption|omega) [go_sem]
  refine xanyl (.tk 0 (.tk 2 (.tk 4 (.or true 1 (.or true 3 (.or false 5 (.tk 6 (.or false 7 (.tk 8 (.or false 9 (.fin) (.nil))) (.nil))) (.nil)) (.or false 5 (.tk 6 (.or true 3 (.or false 7 (.tk 8 (.or false 9 (.fin) (.nil))) (.nil)) (.or false 7 (.or true 3 (.tk 8 (.or false 9 (.fin) (.nil))) (.nil)) (.nil)))) (.nil))) (.or true 3 (.or true 1 (.or false 5 (.tk 6 (.or false 7 (.tk 8 (.or false 9 (.fin) (.nil))) (.nil))) (.nil)) (.or false 5 (.or true 1 (.tk 6 (.or false 7 (.tk 8 (.or false 9 (.fin) (.nil))) (.nil))) (.nil)) (.nil))) (.or false 5 (.or true 1 (.tk 6 (.or true 3 (.or false 7 (.tk 8 (.or false 9 (.fin) (.nil))) (.nil)) (.or false 7 (.or true 3 (.tk 8 (.or false 9 (.fin) (.nil))) (.nil)) (.nil)))) (.or true 3 (.or true 1 (.tk 6 (.or false 7 (.tk 8 (.or false 9 (.fin) (.nil))) (.nil))) (.nil)) (.nil))) (.nil))))))) (by kernel_rfl) (by kernel_rfl) [⟨b1, 52, deedC d (.slice a d.bits.length c), 34⟩] (Drop.mem (by simp)) ?_
  repeat' first
   | with_reducible refine xpl_or ?_ ?_
   | with_reducible refine xkp (Drop.mem (by simp)) ?_
   | simp -dsimp -implicitDefEqProofs (disch := first|with_reducible assumption|omega) [go_sem]
  all_goals exact fin_tail (fin_tail (fin_tail (fin_here hk)))
 by_cases k7 : d.kind = 7
 ·have e : bareD d = ⟨d.kind, d.acct, d.mem, 0, 0, 0, [], 0, zeroP, d.mot, d.yes⟩ := by simp [bareD, zeroD, k7]
  rw [e, if_neg (by omega)] at hk
  simp -dsimp -implicitDefEqProofs (disch := first|with_reducible assumption|omega) [go_sem]
  refine xanyl (.tk 0 (.tk 2 (.tk 4 (.tkl 1 (.tk 6 (.or true 3 (.or true 5 (.or false 7 (.tk 8 (.or false 9 (.tk 10 (.or false 11 (.fin) (.nil))) (.nil))) (.nil)) (.or false 7 (.tk 8 (.or true 5 (.or false 9 (.tk 10 (.or false 11 (.fin) (.nil))) (.nil)) (.or false 9 (.or true 5 (.tk 10 (.or false 11 (.fin) (.nil))) (.nil)) (.nil)))) (.nil))) (.or true 5 (.or true 3 (.or false 7 (.tk 8 (.or false 9 (.tk 10 (.or false 11 (.fin) (.nil))) (.nil))) (.nil)) (.or false 7 (.or true 3 (.tk 8 (.or false 9 (.tk 10 (.or false 11 (.fin) (.nil))) (.nil))) (.nil)) (.nil))) (.or false 7 (.or true 3 (.tk 8 (.or true 5 (.or false 9 (.tk 10 (.or false 11 (.fin) (.nil))) (.nil)) (.or false 9 (.or true 5 (.tk 10 (.or false 11 (.fin) (.nil))) (.nil)) (.nil)))) (.or true 5 (.or true 3 (.tk 8 (.or false 9 (.tk 10 (.or false 11 (.fin) (.nil))) (.nil))) (.nil)) (.nil))) (.nil))))))))) (by kernel_rfl) (by kernel_rfl) [⟨b1, 52, deedC d (.slice a d.bits.length c), 34⟩] (Drop.mem (by simp)) ?_
  repeat' first
   | with_reducible refine xpl_or ?_ ?_
   | with_reducible refine xkp (Drop.mem (by simp)) ?_
   | simp -dsimp -implicitDefEqProofs (disch := first|with_reducible assumption|omega) [go_sem]
  all_goals exact fin_tail (fin_tail (fin_tail (fin_here hk)))
 by_cases k6 : d.kind = 6
 ·by_cases w1 : d.what = 1
  ·have e : bareD d = ⟨d.kind, d.acct, 0, 0, 0, 0, [], d.what, d.par, 0, false⟩ := by simp [bareD, zeroD, k6, w1]
   rw [e, if_neg (by omega)] at hk
   simp -dsimp -implicitDefEqProofs (disch := first|with_reducible assumption|omega) [go_sem]
   exact fin_tail (fin_tail (fin_tail (fin_here hk)))
  by_cases w2 : d.what = 2
  ·have e : bareD d = ⟨d.kind, d.acct, 0, d.to, d.amt, 0, [], d.what, zeroP, 0, false⟩ := by simp [bareD, zeroD, k6, w2]
   rw [e, if_neg (by omega)] at hk
   simp -dsimp -implicitDefEqProofs (disch := first|with_reducible assumption|omega) [go_sem]
   refine xanyl (.tk 0 (.tk 2 (.tkl 1 (.tk 4 (.or true 3 (.or false 5 (.tk 6 (.or false 7 (.fin) (.nil))) (.nil)) (.or false 5 (.or true 3 (.tk 6 (.or false 7 (.fin) (.nil))) (.nil)) (.nil))))))) (by kernel_rfl) (by kernel_rfl) [⟨b1, 52, deedC d (.slice a d.bits.length c), 34⟩] (Drop.mem (by simp)) ?_
   repeat' first
    | with_reducible refine xpl_or ?_ ?_
    | with_reducible refine xkp (Drop.mem (by simp)) ?_
    | simp -dsimp -implicitDefEqProofs (disch := first|with_reducible assumption|omega) [go_sem]
   all_goals exact fin_tail (fin_tail (fin_tail (fin_here hk)))
  have e : bareD d = ⟨d.kind, d.acct, 0, 0, 0, 0, [], d.what, zeroP, 0, false⟩ := by simp [bareD, zeroD, k6, w1, w2]
  rw [e, if_neg (by omega)] at hk
  simp -dsimp -implicitDefEqProofs (disch := first|with_reducible assumption|omega) [go_sem]
  exact fin_tail (fin_tail (fin_tail (fin_here hk)))
 have e : bareD d = ⟨d.kind, d.acct, 0, 0, 0, 0, [], 0, zeroP, 0, false⟩ := by simp [bareD, zeroD, k1, k2, k3, k4, k5, k6, k7]
 rw [e, if_neg (by omega)] at hk
 simp -dsimp -implicitDefEqProofs (disch := first|with_reducible assumption|omega) [go_sem]
 exact fin_tail (fin_tail (fin_tail (fin_here hk)))
theorem par_ext {p q : ParD} (hpq : wides p ++ narrows p = wides q ++ narrows q) : p = q := by
 cases p; cases q
 simp only [wides, narrows, List.cons_append, List.nil_append, List.cons.injEq] at hpq
 simp only [ParD.mk.injEq]
 simp only [hpq, and_self]
def parK : List IntKind := [.u64, .u64, .u64, .u64, .u64, .u64, .u64, .u64, .u64, .u64, .u64, .u64, .u64, .u64, .i64, .i64, .i64, .i64, .i64, .i64, .i64, .i64, .i64, .i64]
theorem eqPar {T : Nat} (ht : Tryz.prog.underlying T = some (.struct (Tryz.prog.fieldsOf T))) (hp : Tryz.prog.stoodInHeld T = false) (hg : Tryz.prog.eqGuardType Tryz.prog.depth T = false) (hok : okF Tryz.prog (Tryz.prog.fieldsOf T).toList 0 parK = true)
  (p q : ParD) (x y : Operand) (K : Value → Prop) (t : Tok K) : xBin Tryz.prog .eql T x y (parV p) (parV q) K t = K (.bool (decide (p = q))) := by
 have e : decide (p = q) = decide (wides p ++ narrows p = wides q ++ narrows q) := by
  rw [decide_eq_decide]
  exact ⟨fun h => by rw [h], par_ext⟩
 rw [e]
 exact xBin_eqints (ks := parK) ht hp hg hok (wides p ++ narrows p) (wides q ++ narrows q) rfl rfl x y K t
@[go_sem ↓] theorem eqPar_api (p q : ParD) (x y : Operand) (K : Value → Prop) (t : Tok K) : xBin Tryz.prog .eql 25 x y (parV p) (parV q) K t = K (.bool (decide (p = q))) :=
 eqPar (T := 25) (by kernel_rfl) (by kernel_rfl) (by kernel_rfl) (by kernel_rfl) p q x y K t
@[go_sem ↓] theorem eqPar_ref (p q : ParD) (x y : Operand) (K : Value → Prop) (t : Tok K) : xBin Tryz.prog .eql 57 x y (parV p) (parV q) K t = K (.bool (decide (p = q))) :=
 eqPar (T := 57) (by kernel_rfl) (by kernel_rfl) (by kernel_rfl) (by kernel_rfl) p q x y K t
theorem dsame_any {a b : DeedD} (bv cv : Value) (ha : Ints h .u8 bv a.bits) (hb : Ints h .u8 cv b.bits) (hk : K (.bool (sameD a b)) L h) : Spec Tryz.prog 110 [deedV a bv, deedV b cv] L h K := by
 have oa := ha.open
 obtain ⟨x1, y1, rfl, _⟩ := oa
 have ob := hb.open
 obtain ⟨x2, y2, rfl, _⟩ := ob
 refine x_enter Tryz.func110 rfl (rs := [_]) rfl rfl mixed (by kernel_rfl) rfl rfl ?_
 simp -dsimp -implicitDefEqProofs (disch := first|with_reducible assumption|omega) [go_sem]
 refine xnew fun b1 n_b1 h_b1 => ?_
 try simp only [Apart] at n_b1
 simp -dsimp -implicitDefEqProofs (disch := first|with_reducible assumption|omega) [go_sem]
 refine xnew fun b2 n_b2 h_b2 => ?_
 try simp only [Apart] at n_b2
 by_cases c1 : a.kind = b.kind
 rotate_left
 ·rw [show sameD a b = false by simp [sameD, c1]] at hk
  simp -dsimp -implicitDefEqProofs (disch := first|with_reducible assumption|omega) [go_sem, c1]
  exact fin_tail (fin_tail (fin_here hk))
 by_cases c2 : a.acct = b.acct
 rotate_left
 ·rw [show sameD a b = false by simp [sameD, c2]] at hk
  simp -dsimp -implicitDefEqProofs (disch := first|with_reducible assumption|omega) [go_sem, c1, c2]
  exact fin_tail (fin_tail (fin_here hk))
 by_cases c3 : a.mem = b.mem
 rotate_left
 ·rw [show sameD a b = false by simp [sameD, c3]] at hk
  simp -dsimp -implicitDefEqProofs (disch := first|with_reducible assumption|omega) [go_sem, c1, c2, c3]
  exact fin_tail (fin_tail (fin_here hk))
 by_cases c4 : a.to = b.to
 rotate_left
 ·rw [show sameD a b = false by simp [sameD, c4]] at hk
  simp -dsimp -implicitDefEqProofs (disch := first|with_reducible assumption|omega) [go_sem, c1, c2, c3, c4]
  exact fin_tail (fin_tail (fin_here hk))
 by_cases c5 : a.amt = b.amt
 rotate_left
 ·rw [show sameD a b = false by simp [sameD, c5]] at hk
  simp -dsimp -implicitDefEqProofs (disch := first|with_reducible assumption|omega) [go_sem, c1, c2, c3, c4, c5]
  exact fin_tail (fin_tail (fin_here hk))
 by_cases c6 : a.ep = b.ep
 rotate_left
 ·rw [show sameD a b = false by simp [sameD, c6]] at hk
  simp -dsimp -implicitDefEqProofs (disch := first|with_reducible assumption|omega) [go_sem, c1, c2, c3, c4, c5, c6]
  exact fin_tail (fin_tail (fin_here hk))
 by_cases c7 : a.what = b.what
 rotate_left
 ·rw [show sameD a b = false by simp [sameD, c7]] at hk
  simp -dsimp -implicitDefEqProofs (disch := first|with_reducible assumption|omega) [go_sem, c1, c2, c3, c4, c5, c6, c7]
  exact fin_tail (fin_tail (fin_here hk))
 by_cases c8 : a.par = b.par
 rotate_left
 ·rw [show sameD a b = false by simp [sameD, c8]] at hk
  simp -dsimp -implicitDefEqProofs (disch := first|with_reducible assumption|omega) [go_sem, c1, c2, c3, c4, c5, c6, c7, c8]
  exact fin_tail (fin_tail (fin_here hk))
 by_cases c9 : a.mot = b.mot
 rotate_left
 ·rw [show sameD a b = false by simp [sameD, c9]] at hk
  simp -dsimp -implicitDefEqProofs (disch := first|with_reducible assumption|omega) [go_sem, c1, c2, c3, c4, c5, c6, c7, c8, c9]
  exact fin_tail (fin_tail (fin_here hk))
 by_cases c10 : (a.yes == b.yes) = true
 rotate_left
 ·have c10' : (a.yes == b.yes) = false := (Bool.not_eq_true _).mp c10
  rw [show sameD a b = false by simp only [sameD, c10', Bool.false_and, Bool.and_false]] at hk
  simp -dsimp -implicitDefEqProofs (disch := first|with_reducible assumption|omega) [go_sem, c1, c2, c3, c4, c5, c6, c7, c8, c9, c10']
  exact fin_tail (fin_tail (fin_here hk))
 by_cases c11 : (a.bits.length : Int) = b.bits.length
 rotate_left
 ·rw [show sameD a b = false by simp [sameD, c11]] at hk
  simp -dsimp -implicitDefEqProofs (disch := first|with_reducible assumption|omega) [go_sem, c1, c2, c3, c4, c5, c6, c7, c8, c9, c10, c11]
  exact fin_tail (fin_tail (fin_here hk))
 rw [show sameD a b = true by simp only [sameD, c1, c2, c3, c4, c5, c6, c7, c8, c9, c10, c11, decide_true, Bool.and_self]] at hk
 simp -dsimp -implicitDefEqProofs (disch := first|with_reducible assumption|omega) [go_sem, c1, c2, c3, c4, c5, c6, c7, c8, c9, c10, c11]
 exact fin_tail (fin_tail (fin_here hk))
theorem dright_any {d : DeedD} (bv : Value) (hd : IsDeed h bv d) (hk : ∀ h', PH.le h h' → K (.bool (rightD d)) L h') : Spec Tryz.prog 44 [deedV d bv] L h K := by
 have ob := hd.i.open
 obtain ⟨x1, y1, rfl, _, hlen, _⟩ := ob
 have bad : rightD d = false → K (.bool false) L h := fun e => by
  have := hk h (PH.le_refl h)
  rwa [e] at this
 refine x_enter Tryz.func44 rfl (rs := [_]) rfl rfl mixed (by kernel_rfl) rfl rfl ?_
 simp -dsimp -implicitDefEqProofs (disch := first|with_reducible assumption|omega) [go_sem]
 refine xnew fun b1 n_b1 h_b1 => ?_
 try simp only [Apart] at n_b1
 simp -dsimp -implicitDefEqProofs (disch := first|with_reducible assumption|omega) [go_sem]
 refine xdraw (by kernel_rfl) rfl ?_
 simp -dsimp -implicitDefEqProofs (disch := first|with_reducible assumption|omega) [go_sem]
 refine xdcall _ (dwithin_any _ _ _ ⟨rfl, rfl, rfl⟩) ?_
 cases g1 : wi d.kind 1 7 with
 | false =>
  simp -dsimp -implicitDefEqProofs (disch := first|with_reducible assumption|omega) [go_sem]
  exact fin_tail (fin_here (bad (by simp [rightD, g1])))
 | true =>
 simp -dsimp -implicitDefEqProofs (disch := first|with_reducible assumption|omega) [go_sem]
 refine xdcall _ (bare_any _ hd ⟨rfl, rfl, rfl⟩) ?_
 simp -dsimp -implicitDefEqProofs (disch := first|with_reducible assumption|omega) [go_sem]
 have hbb : Ints h .u8 (if d.kind = 5 then Value.slice x1 d.bits.length y1 else Value.slice none 0 0) (bareD d).bits := by
  by_cases k5 : d.kind = 5
  ·rw [if_pos k5, show (bareD d).bits = d.bits by simp [bareD, k5]]
   exact hd.i
  ·have eb : (bareD d).bits = [] := by
    unfold bareD
    rw [if_neg k5]
    repeat' split
    all_goals rfl
   rw [if_neg k5, eb]
   exact nil_ints h .u8
 refine xdcall _ (dsame_any _ _ hd.i hbb ⟨rfl, rfl, rfl⟩) ?_
 cases g2 : sameD d (bareD d) with
 | false =>
  simp -dsimp -implicitDefEqProofs (disch := first|with_reducible assumption|omega) [go_sem]
  exact fin_tail (fin_here (bad (by simp [rightD, g2])))
 | true =>
 simp -dsimp -implicitDefEqProofs (disch := first|with_reducible assumption|omega) [go_sem]
 refine dwithin_any _ _ _ ?_
 cases g3 : wi d.acct 0 63 with
 | false =>
  simp -dsimp -implicitDefEqProofs (disch := first|with_reducible assumption|omega) [go_sem]
  exact fin_tail (fin_here (bad (by simp [rightD, g3])))
 | true =>
 simp -dsimp -implicitDefEqProofs (disch := first|with_reducible assumption|omega) [go_sem]
 refine dwithin_any _ _ _ ?_
 cases g4 : wi d.to 0 63 with
 | false =>
  simp -dsimp -implicitDefEqProofs (disch := first|with_reducible assumption|omega) [go_sem]
  exact fin_tail (fin_here (bad (by simp [rightD, g4])))
 | true =>
 simp -dsimp -implicitDefEqProofs (disch := first|with_reducible assumption|omega) [go_sem]
 refine dwithin_any _ _ _ ?_
 cases g5 : wi d.mem 0 127 with
 | false =>
  simp -dsimp -implicitDefEqProofs (disch := first|with_reducible assumption|omega) [go_sem]
  exact fin_tail (fin_here (bad (by simp [rightD, g5])))
 | true =>
 simp -dsimp -implicitDefEqProofs (disch := first|with_reducible assumption|omega) [go_sem]
 refine dwithin_any _ _ _ ?_
 cases g6 : wi d.mot 0 31 with
 | false =>
  simp -dsimp -implicitDefEqProofs (disch := first|with_reducible assumption|omega) [go_sem]
  exact fin_tail (fin_here (bad (by simp [rightD, g6])))
 | true =>
 simp -dsimp -implicitDefEqProofs (disch := first|with_reducible assumption|omega) [go_sem]
 refine xdraw (by kernel_rfl) rfl ?_
 simp -dsimp -implicitDefEqProofs (disch := first|with_reducible assumption|omega) [go_sem]
 refine xdcall _ (paid_any _ hd ⟨rfl, rfl, rfl⟩) ?_
 cases g7 : (paidD d == decide (0 < d.amt)) with
 | false =>
  simp -dsimp -implicitDefEqProofs (disch := first|with_reducible assumption|omega) [go_sem, g7]
  exact fin_tail (fin_here (bad (by simp only [rightD, g7, Bool.false_and, Bool.and_false])))
 | true =>
 by_cases g8 : d.amt ≤ 4611686018427387904
 rotate_left
 ·have g7' : paidD d = true := by simpa [show 0 < d.amt by omega] using g7
  simp -dsimp -implicitDefEqProofs (disch := first|with_reducible assumption|omega) [go_sem, g7']
  exact fin_tail (fin_here (bad (by simp [rightD, g8])))
 simp -dsimp -implicitDefEqProofs (disch := first|with_reducible assumption|omega) [go_sem, g7]
 refine xdcall _ (dwithin_any _ _ _ ⟨rfl, rfl, rfl⟩) ?_
 cases g9 : wi d.ep 0 1073741824 with
 | false =>
  simp -dsimp -implicitDefEqProofs (disch := first|with_reducible assumption|omega) [go_sem]
  exact fin_tail (fin_here (bad (by simp [rightD, g9])))
 | true =>
 by_cases g10 : (d.bits.length : Int) ≤ 32
 rotate_left
 ·simp -dsimp -implicitDefEqProofs (disch := first|with_reducible assumption|omega) [go_sem]
  exact fin_tail (fin_here (bad (by simp [rightD, g10])))
 have hbase : rightD d = (decide (d.kind ≠ 6) || (wi d.what 1 4 && (decide (d.what ≠ 1) || parR d.par))) := by
  simp only [rightD, g1, g2, g3, g4, g5, g6, g7, g8, g9, g10, decide_true, Bool.and_self, Bool.true_and]
 rw [hbase] at hk
 by_cases k6 : d.kind = 6
 rotate_left
 ·simp -dsimp -implicitDefEqProofs (disch := first|with_reducible assumption|omega) [go_sem]
  exact fin_tail (fin_here (by simpa [k6] using hk h (PH.le_refl h)))
 simp -dsimp -implicitDefEqProofs (disch := first|with_reducible assumption|omega) [go_sem]
 refine dwithin_any _ _ _ ?_
 cases g11 : wi d.what 1 4 with
 | false =>
  simp -dsimp -implicitDefEqProofs (disch := first|with_reducible assumption|omega) [go_sem]
  exact fin_tail (fin_here (by simpa [k6, g11] using hk h (PH.le_refl h)))
 | true =>
 by_cases w1 : d.what = 1
 rotate_left
 ·simp -dsimp -implicitDefEqProofs (disch := first|with_reducible assumption|omega) [go_sem]
  exact fin_tail (fin_here (by simpa [k6, g11, w1] using hk h (PH.le_refl h)))
 simp -dsimp -implicitDefEqProofs (disch := first|with_reducible assumption|omega) [go_sem]
 refine Spec.ap (pcheck_any d.par hd.ok.p fun h2 le2 ap => ?_)
 cases g12 : parR d.par with
 | false =>
  simp -dsimp -implicitDefEqProofs (disch := first|with_reducible assumption|omega) [go_sem]
  exact fin_tail (fin_here (by simpa [k6, g11, w1, g12] using hk h2 le2))
 | true =>
  simp -dsimp -implicitDefEqProofs (disch := first|with_reducible assumption|omega) [go_sem]
  exact fin_tail (fin_here (by simpa [k6, w1, g12, show wi 1 1 4 = true by decide] using hk h2 le2))
def encD (d : DeedD) : List Int :=
 formN d.kind.toNat ++ ((if d.kind = 5 then [] else formN d.acct.toNat) ++
 ((if d.kind = 1 then formN d.to.toNat else if d.kind = 3 ∨ d.kind = 4 then formN d.mem.toNat else if d.kind = 5 then formN d.ep.toNat ++ rawN d.bits
  else if d.kind = 6 then formN d.what.toNat ++ (if d.what = 1 then encP d.par else if d.what = 2 then formN d.to.toNat else [])
  else if d.kind = 7 then formN d.mem.toNat ++ (formN d.mot.toNat ++ formN d.yes.toNat) else []) ++
 (if paidD d then formN d.amt.toNat else [])))
end Go.X

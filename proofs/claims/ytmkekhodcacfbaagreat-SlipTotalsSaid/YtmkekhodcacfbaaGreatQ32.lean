/- Lemmas and contracts for a statement about the given program. Conditions: as each says. -/
import Derived.Test.YtmkekhodcacfbaaGreatQ18
import Derived.Test.YtmkekhodcacfbaaGreatQ31
set_option linter.unusedVariables false
set_option linter.unusedSimpArgs false
set_option maxHeartbeats 12800000
set_option maxRecDepth 20000
namespace Go.X
open Go.RowKit Go.Proofs Go.Bl
variable {L : Own} {h : PH} {K : PK}
theorem empty_own (hk : ∀ b, Apart b L → h b = noC → K (.slice (some ⟨b, 0, none⟩) 16 16) (⟨b, 5, List.replicate 16 (.int .u8 0), 16⟩ :: L) h) : Spec Tryz.prog 70 [] L h K := by
 refine x_enter Tryz.func70 rfl (rs := [_]) rfl rfl mixed (by kernel_rfl) rfl rfl ?_
 simp -dsimp -implicitDefEqProofs (disch := first|with_reducible assumption|omega) [go_sem]
 refine size_any _ (by decide) (by decide) ?_
 rw [show sizeB 128 = 16 by decide]
 simp -dsimp -implicitDefEqProofs (disch := first|with_reducible assumption|omega) [go_sem]
 refine xMS_full (e := 5) (z := .int .u8 0) (by kernel_rfl) tI_5 rfl rfl .i64 .i64 16 (by decide) (by decide) (by decide) ?_
 refine xnew fun b n_b h_b => ?_
 simp -dsimp -implicitDefEqProofs (disch := first|with_reducible assumption|omega) [go_sem]
 exact fin_here (hk b n_b h_b)
theorem apO_drop2 {e sz : Nat} {o o2 : Option (Nat × Nat)} {xs : List Value} {a b : Blk} {L : Own} {h : PH} (ha : apO o2 (oent e sz o xs (a :: b :: L)) h) : apO o2 (oent e sz o xs L) h := by
 cases o with
 | none => exact apO_tail (apO_tail ha)
 | some p => exact apO_sub (.cons_cons _ (.cons _ (.cons _ (List.Sublist.refl _)))) ha
theorem apart_drop2 {e sz e2 sz2 c : Nat} {o o2 : Option (Nat × Nat)} {xs ys : List Value} {a b : Blk} {L : Own} (ha : Apart c (oent e sz o xs (oent e2 sz2 o2 ys (a :: b :: L)))) : Apart c (oent e sz o xs (oent e2 sz2 o2 ys L)) := by
 cases o with
 | none =>
  cases o2 with
  | none => exact ha.2.2
  | some p => exact ⟨ha.1, ha.2.2.2⟩
 | some q =>
  cases o2 with
  | none => exact ⟨ha.1, ha.2.2.2⟩
  | some p => exact ⟨ha.1, ha.2.1, ha.2.2.2.2⟩
theorem drop2 {e sz e2 sz2 : Nat} {o o2 : Option (Nat × Nat)} {xs ys : List Value} (c a b : Blk) (L : Own) (h : PH) : Drop (c :: oent e sz o xs (oent e2 sz2 o2 ys (a :: b :: L))) h (c :: oent e sz o xs (oent e2 sz2 o2 ys L)) h := by
 apply Drop.sub
 apply List.Sublist.cons_cons
 cases o with
 | none =>
  cases o2 with
  | none => exact .cons _ (.cons _ (List.Sublist.refl _))
  | some p => exact .cons_cons _ (.cons _ (.cons _ (List.Sublist.refl _)))
 | some q =>
  cases o2 with
  | none => exact .cons_cons _ (.cons _ (.cons _ (List.Sublist.refl _)))
  | some p => exact .cons_cons _ (.cons_cons _ (.cons _ (.cons _ (List.Sublist.refl _))))
theorem newo_any {g : GenD} (pv fv : Value) (hg : IsGen h pv fv g) (np : g.purses.length ≤ 1000) (hB : newB g = true) (hk : ∀ h' bm op om, PH.le h h' → okO op g.purses.length → okO om g.founders.length → apO om L h' → apO op (oent 91 6 om ((g.founders.map (memF g.par)).flatMap memC) L) h' → Apart bm (oent 22 1 op (g.purses.map (.int .u64)) (oent 91 6 om ((g.founders.map (memF g.par)).flatMap memC) L)) → h' bm = noC → K (.tuple #[stV (newS g) ⟨ovs op g.purses.length, ovs om g.founders.length, .slice none 0 0, .slice none 0 0, .slice none 0 0, .slice none 0 0, .slice none 0 0, .slice (some ⟨bm, 0, none⟩) 16 16, .slice none 0 0⟩, .int .i64 0]) (⟨bm, 5, List.replicate 16 (.int .u8 0), 16⟩ :: oent 22 1 op (g.purses.map (.int .u64)) (oent 91 6 om ((g.founders.map (memF g.par)).flatMap memC) L)) h') : Spec Tryz.prog 19 [genV g pv fv] L h K := by
 have no : newB g = false → ∀ h', PH.le h h' → K (.tuple #[stV zeroS nilV, .int .i64 240]) L h' := fun e => by rw [hB] at e; cases e
 have ok := hg.ok
 have gm := hg.m
 have hp := hg.p
 have hpw := hp.word
 obtain ⟨pa, pc, rfl, _⟩ := hp.open
 have hf := hg.f
 obtain ⟨fa, fc, rfl, _, hfl, _, hfd⟩ := hf.open
 refine x_enter Tryz.func19 rfl (rs := [_, _]) rfl rfl mixed (by kernel_rfl) rfl rfl ?_
 simp -dsimp -implicitDefEqProofs (disch := first|with_reducible assumption|omega) [go_sem]
 refine xnew fun b1 n_b1 h_b1 => ?_
 try simp only [Apart] at n_b1
 simp -dsimp -implicitDefEqProofs (disch := first|with_reducible assumption|omega) [go_sem]
 refine xnew fun b2 n_b2 h_b2 => ?_
 try simp only [Apart] at n_b2
 simp -dsimp -implicitDefEqProofs (disch := first|with_reducible assumption|omega) [go_sem]
 refine pcheck0 g.par ok ?_
 cases q1 : parR g.par with
 | false =>
  have := no (by simp only [newB, q1, Bool.false_and]) h (PH.le_refl h)
  simp -dsimp -implicitDefEqProofs (disch := first|with_reducible assumption|omega) [go_sem]
  exact fin_tail (fin_tail (fin_here this))
 | true =>
 by_cases q2 : 4611686018427387904 < g.most
 ·have := no (by simp only [newB, decide_eq_false (p := g.most ≤ 4611686018427387904) (by omega), Bool.and_false, Bool.false_and]) h (PH.le_refl h)
  simp -dsimp -implicitDefEqProofs (disch := first|with_reducible assumption|omega) [go_sem]
  exact fin_tail (fin_tail (fin_here this))
 simp -dsimp -implicitDefEqProofs (disch := first|with_reducible assumption|omega) [go_sem]
 refine swi_any _ _ _ ?_
 cases q3 : wi g.purses.length 1 64 with
 | false =>
  have := no (by simp only [newB, q3, Bool.and_false, Bool.false_and]) h (PH.le_refl h)
  simp -dsimp -implicitDefEqProofs (disch := first|with_reducible assumption|omega) [go_sem]
  exact fin_tail (fin_tail (fin_here this))
 | true =>
 have q3' := wi_iff.1 q3
 by_cases q4 : 128 < g.founders.length
 ·have := no (by simp only [newB, decide_eq_false (p := g.founders.length ≤ 128) (by omega), Bool.and_false, Bool.false_and]) h (PH.le_refl h)
  simp -dsimp -implicitDefEqProofs (disch := first|with_reducible assumption|omega) [go_sem]
  exact fin_tail (fin_tail (fin_here this))
 simp -dsimp -implicitDefEqProofs (disch := first|with_reducible assumption|omega) [go_sem]
 refine clone64_own _ hp (by omega) fun o0 k0 a0 => ?_
 have m1 : apB o0 b1 := (apO_tail a0).head
 have e0 : g.purses.map (.int .u64) = allK g 0 := by simp [allK]
 rw [e0]
 simp -dsimp -implicitDefEqProofs (disch := first|with_reducible assumption|omega) [go_sem, xFind_oent m1]
 refine xloop (γ := Nat × Option (Nat × Nat) × Option (Nat × Nat)) (0, o0, none)
  (fun q => q.1 ≤ g.founders.length ∧ okO q.2.1 (g.purses.length + q.1) ∧ okO q.2.2 q.1 ∧ apO q.2.1 (oent 91 6 q.2.2 (memK g q.1) (⟨b2, 34, stC zeroS nilV, 41⟩ :: ⟨b1, 66, genC g (.slice pa g.purses.length pc) (.slice fa g.founders.length fc), 27⟩ :: L)) h ∧ apO q.2.2 (⟨b2, 34, stC zeroS nilV, 41⟩ :: ⟨b1, 66, genC g (.slice pa g.purses.length pc) (.slice fa g.founders.length fc), 27⟩ :: L) h ∧ ∀ j, j < q.1 → fouB g (gr zeroFou g.founders j) = true)
  (fun q => [(39, .int .i64 q.1), (38, .int .i64 g.founders.length), (37, .slice fa g.founders.length fc), (4, ovs q.2.1 (g.purses.length + q.1)), (5, ovs q.2.2 q.1), (1, .pointer (some ⟨b1, 0, none⟩)), (2, .pointer (some ⟨b2, 0, none⟩))])
  (fun q => oent 22 1 q.2.1 (allK g q.1) (oent 91 6 q.2.2 (memK g q.1) (⟨b2, 34, stC zeroS nilV, 41⟩ :: ⟨b1, 66, genC g (.slice pa g.purses.length pc) (.slice fa g.founders.length fc), 27⟩ :: L))) (fun _ => h) (fun q => g.founders.length - q.1) ?_ ?_ ?_ ?_
 ·exact ⟨Nat.zero_le _, k0, rfl, a0, trivial, fun j hj => by simp only at hj; omega⟩
 ·simp [Ent, List.lookup, xEnv, ovs]
 ·exact Drop.refl _ _
 rintro ⟨k, o1, o2⟩ ⟨i1, i2, i3, i4, i5, i6⟩
 simp only at i1 i2 i3 i4 i5 i6 ⊢
 have i4' := apO_oent i4
 have m1b : apB o1 b1 := (apO_tail i4').head
 have m1a : apB o1 b2 := i4'.head
 have m2b : apB o2 b1 := (apO_tail i5).head
 have m2a : apB o2 b2 := i5.head
 by_cases c1 : k < g.founders.length
 ·have hfo := hg.fo (gr zeroFou g.founders k) (by rw [gr_lt c1]; exact List.getElem_mem c1)
  have hfb := hfo.b
  have bad : fouB g (gr zeroFou g.founders k) = false → K (.tuple #[stV zeroS nilV, .int .i64 240]) L h := fun e => no (by simp only [newB, not_all_gr zeroFou (fouB g) g.founders c1 e, Bool.and_false, Bool.false_and]) h (PH.le_refl h)
  simp -dsimp -implicitDefEqProofs (disch := first|with_reducible assumption|omega) [go_sem, ↓idxR zeroFou (by decide) hfd, fouC]
  refine xnew fun b7 n_b7 h_b7 => ?_
  try simp only [Apart] at n_b7
  have n7 := apart_oent (apart_oent n_b7)
  simp only [Apart] at n7
  obtain ⟨n72, n71, _⟩ := n7
  simp -dsimp -implicitDefEqProofs (disch := first|with_reducible assumption|omega) [go_sem, fouC, xFind_oent m1b, xFind_oent m2b]
  refine swi_any _ _ _ ?_
  cases q5 : wi (gr zeroFou g.founders k).own 0 ((g.purses.length : Int) - 1) with
  | false =>
   have := bad (by simp only [fouB, q5, Bool.false_and])
   simp -dsimp -implicitDefEqProofs (disch := first|with_reducible assumption|omega) [go_sem, xSet_oent m1a, xSet_oent m2a, xFind_oent m1a, xFind_oent m2a]
   exact fin_tail (fin_oent (fin_oent (fin_tail (fin_tail (fin_here this)))))
  | true =>
  by_cases q6 : (gr zeroFou g.founders k).bal ≤ g.par.floor
  ·have := bad (by simp only [fouB, decide_eq_false (p := g.par.floor < (gr zeroFou g.founders k).bal) (by omega), Bool.and_false, Bool.false_and])
   simp -dsimp -implicitDefEqProofs (disch := first|with_reducible assumption|omega) [go_sem, xSet_oent m1a, xSet_oent m2a, xFind_oent m1a, xFind_oent m2a, xFind_oent m1b, xFind_oent m2b]
   exact fin_tail (fin_oent (fin_oent (fin_tail (fin_tail (fin_here this)))))
  by_cases q7 : g.par.cap < (gr zeroFou g.founders k).bal
  ·have := bad (by simp only [fouB, decide_eq_false (p := (gr zeroFou g.founders k).bal ≤ g.par.cap) (by omega), Bool.and_false])
   simp -dsimp -implicitDefEqProofs (disch := first|with_reducible assumption|omega) [go_sem, xSet_oent m1a, xSet_oent m2a, xFind_oent m1a, xFind_oent m2a, xFind_oent m1b, xFind_oent m2b]
   exact fin_tail (fin_oent (fin_oent (fin_tail (fin_tail (fin_here this)))))
  have yes : fouB g (gr zeroFou g.founders k) = true := by
   simp only [fouB, q5, Bool.true_and, Bool.and_eq_true, decide_eq_true_eq]; omega
  simp -dsimp -implicitDefEqProofs (disch := first|with_reducible assumption|omega) [go_sem, xFind_oent m1a, xFind_oent m2a, xFind_oent m1b, xFind_oent m2b]
  refine xnew fun b8 n_b8 h_b8 => ?_
  try simp only [Apart] at n_b8
  have n8 := apart_oent (apart_oent n_b8.2)
  simp only [Apart] at n8
  obtain ⟨n82, n81, _⟩ := n8
  simp -dsimp -implicitDefEqProofs (disch := first|with_reducible assumption|omega) [go_sem]
  refine xappend (t := 25) (e := 22) (sz := 1) (bytes := 8) (by kernel_rfl) tI_22 rfl rfl rfl rfl (by decide) [_, _] _ o1 (g.purses.length + k) (allK g k) i2 (allK_len i1) (Src.own List.mem_cons_self) (m := 1) (news := [.int .u64 (gr zeroFou g.founders k).bal]) rfl (by intro u hu; simp only [List.mem_singleton] at hu; subst hu; rfl) (by simp [maxLen]; omega) (by omega) ?_
  intro o1' j1 j2 j3
  have j4 := apO_tail (apO_tail j2)
  have j4' := apO_oent j4
  have m1b' : apB o1' b1 := (apO_tail j4').head
  have m1a' : apB o1' b2 := j4'.head
  simp -dsimp -implicitDefEqProofs (disch := first|with_reducible assumption|omega) [go_sem, xFind_oent m1b', xFind_oent m2b]
  refine founded_any g.par ok q1 _ hfo ?_
  simp -dsimp -implicitDefEqProofs (disch := first|with_reducible assumption|omega) [go_sem]
  refine xnew fun b9 n_b9 h_b9 => ?_
  try simp only [Apart] at n_b9
  simp -dsimp -implicitDefEqProofs (disch := first|with_reducible assumption|omega) [go_sem]
  rw [oent_split (e := 22) o1']
  refine xappend (t := 26) (e := 91) (sz := 6) (bytes := 48) (by kernel_rfl) tI_91 rfl rfl rfl rfl (by decide) (_ :: _ :: _ :: oent 22 1 o1' _ []) _ o2 k (memK g k) i3 (memK_len i1) (Src.own List.mem_cons_self) (m := 1) (news := memC (memF g.par (gr zeroFou g.founders k))) rfl (by intro u hu; simp only [memC, List.mem_cons, List.not_mem_nil, or_false] at hu; rcases hu with rfl | rfl | rfl | rfl | rfl | rfl <;> rfl) (by simp [maxLen]; omega) (by omega) ?_
  intro o2' l1 l2 l3
  have l4 := apO_tail (apO_tail (apO_tail l2))
  have l5 := apO_swap (e2 := 91) (sz2 := 6) (cs2 := memK g (k + 1)) j4' l4
  simp -dsimp -implicitDefEqProofs (disch := first|with_reducible assumption|omega) [go_sem]
  refine ⟨k + 1, o1', o2', ⟨by omega, by rw [← Nat.add_assoc]; exact j1, l1, l5.1, l5.2, fun j hj => ?_⟩, by omega, by simp [Ent, List.lookup, Nat.add_assoc], ?_⟩
  ·by_cases e : j = k
   ·subst e; exact yes
   ·exact i6 j (by omega)
  ·rw [memK_succ c1, allK_succ c1, ← oent_split]
   exact (Drop.tail _ _ _).trans ((Drop.tail _ _ _).trans (Drop.tail _ _ _))
 ·have hkl : k = g.founders.length := by omega
  subst hkl
  have fall := all_gr zeroFou (fouB g) g.founders i6
  have eA : allK g g.founders.length = (genAll g).map (.int .u64) := by simp [allK, genAll]
  have lA : (genAll g).length = g.purses.length + g.founders.length := by simp [genAll]
  obtain ⟨ma, mc, em, _⟩ := ovs_open i3
  rw [eA, em]
  simp -dsimp -implicitDefEqProofs (disch := first|with_reducible assumption|omega) [go_sem]
  refine call_pub (n := g.purses.length + g.founders.length) i2 (by simp [lA]) (by omega) i4 fun h1 le1 sl1 => ?_
  have iA : Ints h1 .u64 (ovs o1 (g.purses.length + g.founders.length)) (genAll g) := ⟨by rw [lA]; exact sl1, fun z hz => by
   rw [show IntKind.u64.min = 0 by decide, show IntKind.u64.max = 18446744073709551615 by decide]
   rcases List.mem_append.1 hz with hz | hz
   ·have := hp.2 z hz
    rwa [show IntKind.u64.min = 0 by decide, show IntKind.u64.max = 18446744073709551615 by decide] at this
   ·obtain ⟨f, hf1, rfl⟩ := List.mem_map.1 hz
    exact (hg.fo f hf1).b⟩
  refine Spec.ap (msum_any _ iA fun ap => ?_)
  have i5' := apO_next i5 ap
  have ap2 := Ap.oent ap
  simp only [Ap] at ap2
  obtain ⟨p2, p1, _⟩ := ap2
  have no1 : newB g = false → K (.tuple #[stV zeroS nilV, .int .i64 240]) L h1 := fun e => no e h1 le1
  by_cases c2 : tot (genAll g) ≤ 18446744073709551615
  ·rw [sumV_ok c2]
   by_cases c3 : g.most < tot (genAll g)
   ·have := no1 (by simp only [newB, decide_eq_false (p := tot (genAll g) ≤ g.most) (by omega), Bool.and_false])
    simp -dsimp -implicitDefEqProofs (disch := first|with_reducible assumption|omega) [go_sem, xSet_oent m2a, xFind_oent m2a, xFind_oent m2b]
    exact fin_oent (fin_tail (fin_tail (fin_here this)))
   have yes : newB g = true := by
    simp only [newB, q1, q3, fall, Bool.true_and, Bool.and_true, Bool.and_eq_true, decide_eq_true_eq]
    omega
   simp -dsimp -implicitDefEqProofs (disch := first|with_reducible assumption|omega) [go_sem, xSet_oent m2a, xFind_oent m2a, xFind_oent m2b]
   refine xanyl (.tk 0 (.tk 2 (.tk 4 (.tk 5 (.tk 8 (.tkl 1 (.tkl 3 (.tkl 6 (.or true 7 (.or true 9 (.tk 10 (.or false 11 (.tk 12 (.fin)) (.nil))) (.nil)) (.nil)))))))))) (by kernel_rfl) (by kernel_rfl) _ (Drop.refl _ _) ?_
   simp -dsimp -implicitDefEqProofs (disch := first|with_reducible assumption|omega) [go_sem, xSet_oent m2a, xFind_oent m2a, xFind_oent m2b]
   refine clone64_own _ (hp.up le1) (by omega) fun op kop aop => ?_
   have mo2 : apB op b2 := (apO_oent aop).head
   have mo1 : apB op b1 := (apO_tail (apO_oent aop)).head
   refine xkp (Drop.oent _ _ _ _ _ _) ?_
   obtain ⟨oa2, oc2, eo2, _⟩ := ovs_open kop
   rw [eo2]
   simp -dsimp -implicitDefEqProofs (disch := first|with_reducible assumption|omega) [go_sem, xSet_oent m2a, xFind_oent m2a, xFind_oent m2b, xSet_oent mo2, xFind_oent mo2, xFind_oent mo1]
   refine empty_own fun bm n_bm h_bm => ?_
   refine xkp ((Drop.tail _ _ _).trans (Drop.oent _ _ _ _ _ _)) ?_
   have nm := apart_oent (apart_oent n_bm)
   simp only [Apart] at nm
   obtain ⟨nm2, nm1, nmL⟩ := nm
   simp -dsimp -implicitDefEqProofs (disch := first|with_reducible assumption|omega) [go_sem, xSet_oent m2a, xFind_oent m2a, xFind_oent m2b, xSet_oent mo2, xFind_oent mo2, xFind_oent mo1]
   have eK : memK g g.founders.length = (g.founders.map (memF g.par)).flatMap memC := by simp [memK]
   have hk2 := hk h1 bm op o2 le1 kop i3 (apO_tail (apO_tail i5')) (by rw [← eK]; exact apO_drop2 aop) (by rw [← eK]; exact apart_drop2 n_bm) h_bm
   rw [← eK, eo2, em] at hk2
   exact ⟨_, _, drop2 _ _ _ _ _, hk2⟩
  ·rw [sumV_no c2]
   have := no1 (by simp only [newB, decide_eq_false (p := tot (genAll g) ≤ g.most) (by omega), Bool.and_false])
   simp -dsimp -implicitDefEqProofs (disch := first|with_reducible assumption|omega) [go_sem, xSet_oent m2a, xFind_oent m2a, xFind_oent m2b]
   exact fin_oent (fin_tail (fin_tail (fin_here this)))
def simpP : ParD where
 inc := 10
 maxEff := 30
 floor := 10
 cap := 40
 up := 10
 down := 5
 bias := 4
 quot := 100
 biasEm := 8
 quotEm := 50
 recover := 2
 scoreCap := 100
 rate := 1048576
 bond := 1
 delay := 2
 streak := 4
 boost := 100
 absent := 100
 burn := 5000
 churn := 2
 wait := 2
 poll := 2
 enact := 1
 quorum := 3000
def simpG : GenD := ⟨simpP, 1073741824, [500, 200], [⟨0, 25⟩, ⟨1, 40⟩]⟩
theorem simpP_ok : ParOk simpP := by
 constructor
 ·intro z hz
  simp only [wides, simpP, List.mem_cons, List.not_mem_nil, or_false] at hz
  omega
 ·intro z hz
  simp only [narrows, simpP, List.mem_cons, List.not_mem_nil, or_false] at hz
  omega
theorem simple07_any (hk : K (parV simpP) L h) : Spec Tryz.prog 120 [] L h K := by
 refine x_enter Tryz.func120 rfl (rs := [_]) rfl rfl mixed (by kernel_rfl) rfl rfl ?_
 simp -dsimp -implicitDefEqProofs (disch := first|with_reducible assumption|omega) [go_sem]
 refine xnew fun b0 n_b0 h_b0 => ?_
 try simp only [Apart] at n_b0
 simp -dsimp -implicitDefEqProofs (disch := first|with_reducible assumption|omega) [go_sem]
 exact fin_tail (fin_here hk)
theorem simple24_any (hk : ∀ h' pa pc fa fc, PH.le h h' → IsGen h' (.slice pa 2 pc) (.slice fa 2 fc) simpG → K (genV simpG (.slice pa 2 pc) (.slice fa 2 fc)) L h') : Spec Tryz.prog 30 [] L h K := by
 refine x_enter Tryz.func30 rfl (rs := [_]) rfl rfl mixed (by kernel_rfl) rfl rfl ?_
 simp -dsimp -implicitDefEqProofs (disch := first|with_reducible assumption|omega) [go_sem]
 refine xnew fun b0 n_b0 h_b0 => ?_
 try simp only [Apart] at n_b0
 simp -dsimp -implicitDefEqProofs (disch := first|with_reducible assumption|omega) [go_sem]
 refine simple07_any ?_
 simp -dsimp -implicitDefEqProofs (disch := first|with_reducible assumption|omega) [go_sem]
 refine xnew fun b1 n_b1 h_b1 => ?_
 try simp only [Apart] at n_b1
 simp -dsimp -implicitDefEqProofs (disch := first|with_reducible assumption|omega) [go_sem]
 refine xnew fun b2 n_b2 h_b2 => ?_
 try simp only [Apart] at n_b2
 simp -dsimp -implicitDefEqProofs (disch := first|with_reducible assumption|omega) [go_sem]
 have s1 : Sl (pub h b1 [.int .u64 500, .int .u64 200]) (.slice (some ⟨b1, 0, none⟩) 2 2) 2 1 [.int .u64 500, .int .u64 200] := pub_sl (o := some (b1, 2)) ⟨Nat.le_refl _, by simp [maxLen]⟩ rfl (by decide)
 have s2 : Sl (pub (pub h b1 [.int .u64 500, .int .u64 200]) b2 [.int .i64 0, .int .u64 25, .int .i64 1, .int .u64 40]) (.slice (some ⟨b2, 0, none⟩) 2 2) 2 2 [.int .i64 0, .int .u64 25, .int .i64 1, .int .u64 40] := pub_sl (o := some (b2, 2)) ⟨Nat.le_refl _, by simp [maxLen]⟩ rfl (by decide)
 have n2 : (pub h b1 [.int .u64 500, .int .u64 200]) b2 = noC := pubO_noC (o := some (b1, 2)) (by first | exact n_b2.1 | exact Ne.symm n_b2.1) h_b2
 have l1 := pub_le (h := h) h_b1 [.int .u64 500, .int .u64 200]
 have l2 := pub_le n2 [.int .i64 0, .int .u64 25, .int .i64 1, .int .u64 40]
 refine ⟨L, _, ?_, hk _ _ _ _ _ (l1.trans l2) ⟨simpP_ok, by decide, ⟨s1.up l2, fun z hz => ?_⟩, ⟨fouC_len, s2⟩, fun x hx => ?_⟩⟩
 ·first
  | exact (Drop.perm _ (List.Perm.swap _ _ _)).trans ((pub_drop_at b1 _ _ _ [] _ h (by decide)).trans ((pub_drop_at b2 _ _ _ [] _ _ (by decide)).trans (Drop.tail _ _ _)))
  | exact (pub_drop_at b1 _ _ _ [_] _ h (by decide)).trans ((pub_drop_at b2 _ _ _ [] _ _ (by decide)).trans (Drop.tail _ _ _))
 ·simp only [simpG, List.mem_cons, List.not_mem_nil, or_false] at hz
  rw [show IntKind.u64.min = 0 by decide, show IntKind.u64.max = 18446744073709551615 by decide]
  omega
 ·simp only [simpG, List.mem_cons, List.not_mem_nil, or_false] at hx
  rcases hx with rfl | rfl
  ·exact ⟨by decide, by decide⟩
  ·exact ⟨by decide, by decide⟩
def simpS : StD := ⟨simpP, 1073741824, 765, 0, 0, 0, 0, 0, false, [500, 200], [⟨25, 20, 0, 0, 0, 2⟩, ⟨40, 30, 0, 0, 1, 2⟩], [], [], [], [], [], List.replicate 16 0, []⟩
theorem simp_newB : newB simpG = true := by decide +kernel
theorem simp_new : newR simpG = simpS := by
 rw [newR, simp_newB]
 show newS simpG = simpS
 have e1 : tot (genAll simpG) = 765 := by decide +kernel
 have e2 : wholeP simpP 25 = 20 := by decide +kernel
 have e3 : wholeP simpP 40 = 30 := by decide +kernel
 rw [newS, e1]
 simp only [simpS, simpG, List.map_cons, List.map_nil, memF, e2, e3]
end Go.X

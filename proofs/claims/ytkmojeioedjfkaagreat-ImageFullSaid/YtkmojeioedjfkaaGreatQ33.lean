/- Lemmas and contracts for a statement about the given program. Conditions: as each says. -/
import Derived.Test.YtkmojeioedjfkaaGreatQ09
import Derived.Test.YtkmojeioedjfkaaGreatQ22
import Derived.Test.YtkmojeioedjfkaaGreatQ27
import Derived.Test.YtkmojeioedjfkaaGreatQ31
import Derived.Test.YtkmojeioedjfkaaGreatQ32
set_option linter.unusedVariables false
set_option linter.unusedSimpArgs false
set_option maxHeartbeats 12800000
set_option maxRecDepth 20000
namespace Go.X
open Go.RowKit Go.Proofs Go.Bl
variable {L : Own} {h : PH} {K : PK}
theorem ienc2_any {s : StD} (v : SV) (hs : IsSt h v s) (few : FewS s) (hw : fitsS s = true → StW s) (hb : ∀ z ∈ encS s, 0 ≤ z ∧ z ≤ 255)
  (hk : ∀ h' r, PH.le h h' → (fitsS s = true → Ints h' .u8 r (encS s) ∧ (encS s).length ≤ 90000) → (fitsS s = false → r = .slice none 0 0) → K (.tuple #[r, .int .i64 (if fitsS s then 0 else 291)]) L h') :
  Spec Tryz.prog 9 [stV s v] L h K := by
 obtain ⟨pa, pc, ma, mc, ea, ec, xa, xc, oa, oc, da, dc, ta, tc, ka, kc, ra, rc, rfl⟩ := hs.slices
 refine x_enter Tryz.func9 rfl (rs := [_, _]) rfl rfl mixed (by kernel_rfl) rfl rfl ?_
 simp -dsimp -implicitDefEqProofs (disch := first|with_reducible assumption|omega) [go_sem]
 refine xnew fun b1 n_b1 h_b1 => ?_
 try simp only [Apart] at n_b1
 simp -dsimp -implicitDefEqProofs (disch := first|with_reducible assumption|omega) [go_sem]
 refine fits_any (s := s) ⟨.slice pa s.purses.length pc, .slice ma s.members.length mc, .slice ea s.entry.length ec, .slice xa s.exit.length xc, .slice oa s.pool.length oc, .slice da s.dues.length dc, .slice ta s.motions.length tc, .slice ka s.marks.length kc, .slice ra s.ring.length rc⟩ hs few ?_
 cases f1 : fitsS s with
 | false =>
  have := hk h (.slice none 0 0) (PH.le_refl _) (fun e => by rw [f1] at e; cases e) (fun _ => rfl)
  rw [f1] at this
  simp -dsimp -implicitDefEqProofs (disch := first|with_reducible assumption|omega) [go_sem]
  exact fin_tail (fin_here this)
 | true =>
  simp -dsimp -implicitDefEqProofs (disch := first|with_reducible assumption|omega) [go_sem]
  refine xnew fun b4 n_b4 h_b4 => ?_
  try simp only [Apart] at n_b4
  simp -dsimp -implicitDefEqProofs (disch := first|with_reducible assumption|omega) [go_sem, xMI_ptr (show Tryz.prog.underlying 94 = some (.pointer 100) by kernel_rfl)]
  refine Spec.apn (through_w (bw := b4) (b1 := b1) (o := none) (B := []) [stB b1 s ⟨.slice pa s.purses.length pc, .slice ma s.members.length mc, .slice ea s.entry.length ec, .slice xa s.exit.length xc, .slice oa s.pool.length oc, .slice da s.dues.length dc, .slice ta s.motions.length tc, .slice ka s.marks.length kc, .slice ra s.ring.length rc⟩] ⟨.slice pa s.purses.length pc, .slice ma s.members.length mc, .slice ea s.entry.length ec, .slice xa s.exit.length xc, .slice oa s.pool.length oc, .slice da s.dues.length dc, .slice ta s.motions.length tc, .slice ka s.marks.length kc, .slice ra s.ring.length rc⟩ List.mem_cons_self hs (hw f1) rfl (by decide) fun h2 o2 B2 le2 e2 k2 l2 ap nd => ?_)
  obtain ⟨a4, ap⟩ := ap
  simp only at a4
  rw [List.nil_append] at e2
  subst e2
  simp -dsimp -implicitDefEqProofs (disch := first|with_reducible assumption|omega) [go_sem]
  refine woutG (T := 100) (s := (encS s, 0)) (by decide) [_] hb k2 (by simp only; omega) fun h3 r le3 i3 _ => ?_
  have i4 := i3 rfl
  obtain ⟨ra', rc', rfl, _⟩ := i4.open
  simp -dsimp -implicitDefEqProofs (disch := first|with_reducible assumption|omega) [go_sem]
  have hk1 := hk h3 _ (le2.trans le3) (fun _ => ⟨i4, l2⟩) (fun e => by rw [f1] at e; cases e)
  rw [f1] at hk1
  exact fin_tail (fin_tail (fin_oent (fin_here hk1)))
theorem empty_own (hk : ∀ b, Apart b L → h b = noC → K (.slice (some ⟨b, 0, none⟩) 16 16) (⟨b, 5, List.replicate 16 (.int .u8 0), 16⟩ :: L) h) : Spec Tryz.prog 31 [] L h K := by
 refine x_enter Tryz.func31 rfl (rs := [_]) rfl rfl mixed (by kernel_rfl) rfl rfl ?_
 simp -dsimp -implicitDefEqProofs (disch := first|with_reducible assumption|omega) [go_sem]
 refine size_any _ (by decide) (by decide) ?_
 rw [show sizeB 128 = 16 by decide]
 simp -dsimp -implicitDefEqProofs (disch := first|with_reducible assumption|omega) [go_sem]
 refine xMS_full (e := 5) (z := .int .u8 0) (by kernel_rfl) tI_5 rfl rfl .i64 .i64 16 (by decide) (by decide) (by decide) ?_
 refine xnew fun b n_b h_b => ?_
 simp -dsimp -implicitDefEqProofs (disch := first|with_reducible assumption|omega) [go_sem]
 exact fin_here (hk b n_b h_b)
theorem apO_drop2 {e sz : Nat} {o o2 : Option (Nat × Nat)} {xs : List Value} {a b : Blk} {L : Own} {h : PH} (ha : apO o2 (oent e sz o xs (a :: b :: L)) h) : apO o2 (oent e sz o xs L) h := by
 cases o with
 | none => exact apO_tail (apO_tail ha)
 | some p => exact apO_sub (.cons_cons _ (.cons _ (.cons _ (List.Sublist.refl _)))) ha
theorem apart_drop2 {e sz e2 sz2 c : Nat} {o o2 : Option (Nat × Nat)} {xs ys : List Value} {a b : Blk} {L : Own} (ha : Apart c (oent e sz o xs (oent e2 sz2 o2 ys (a :: b :: L)))) : Apart c (oent e sz o xs (oent e2 sz2 o2 ys L)) := by
 cases o with
 | none =>
  cases o2 with
  | none => exact ha.2.2
  | some p => exact ⟨ha.1, ha.2.2.2⟩
 | some q =>
  cases o2 with
  | none => exact ⟨ha.1, ha.2.2.2⟩
  | some p => exact ⟨ha.1, ha.2.1, ha.2.2.2.2⟩
theorem drop2 {e sz e2 sz2 : Nat} {o o2 : Option (Nat × Nat)} {xs ys : List Value} (c a b : Blk) (L : Own) (h : PH) : Drop (c :: oent e sz o xs (oent e2 sz2 o2 ys (a :: b :: L))) h (c :: oent e sz o xs (oent e2 sz2 o2 ys L)) h := by
 apply Drop.sub
 apply List.Sublist.cons_cons
 cases o with
 | none =>
  cases o2 with
  | none => exact .cons _ (.cons _ (List.Sublist.refl _))
  | some p => exact .cons_cons _ (.cons _ (.cons _ (List.Sublist.refl _)))
 | some q =>
  cases o2 with
  | none => exact .cons_cons _ (.cons _ (.cons _ (List.Sublist.refl _)))
  | some p => exact .cons_cons _ (.cons_cons _ (.cons _ (.cons _ (List.Sublist.refl _))))
theorem newo_any {g : GenD} (pv fv : Value) (hg : IsGen h pv fv g) (np : g.purses.length ≤ 1000) (hB : newB g = true) (hk : ∀ h' bm op om, PH.le h h' → okO op g.purses.length → okO om g.founders.length → apO om L h' → apO op (oent 89 6 om ((g.founders.map (memF g.par)).flatMap memC) L) h' → Apart bm (oent 23 1 op (g.purses.map (.int .u64)) (oent 89 6 om ((g.founders.map (memF g.par)).flatMap memC) L)) → h' bm = noC → K (.tuple #[stV (newS g) ⟨ovs op g.purses.length, ovs om g.founders.length, .slice none 0 0, .slice none 0 0, .slice none 0 0, .slice none 0 0, .slice none 0 0, .slice (some ⟨bm, 0, none⟩) 16 16, .slice none 0 0⟩, .int .i64 0]) (⟨bm, 5, List.replicate 16 (.int .u8 0), 16⟩ :: oent 23 1 op (g.purses.map (.int .u64)) (oent 89 6 om ((g.founders.map (memF g.par)).flatMap memC) L)) h') : Spec Tryz.prog 8 [genV g pv fv] L h K := by
 have no : newB g = false → ∀ h', PH.le h h' → K (.tuple #[stV zeroS nilV, .int .i64 240]) L h' := fun e => by rw [hB] at e; cases e
 have ok := hg.ok
 have gm := hg.m
 have hp := hg.p
 have hpw := hp.word
 obtain ⟨pa, pc, rfl, _⟩ := hp.open
 have hf := hg.f
 obtain ⟨fa, fc, rfl, _, hfl, _, hfd⟩ := hf.open
 refine x_enter Tryz.func8 rfl (rs := [_, _]) rfl rfl mixed (by kernel_rfl) rfl rfl ?_
 simp -dsimp -implicitDefEqProofs (disch := first|with_reducible assumption|omega) [go_sem]
 refine xnew fun b1 n_b1 h_b1 => ?_
 try simp only [Apart] at n_b1
 simp -dsimp -implicitDefEqProofs (disch := first|with_reducible assumption|omega) [go_sem]
 refine xnew fun b2 n_b2 h_b2 => ?_
 try simp only [Apart] at n_b2
 simp -dsimp -implicitDefEqProofs (disch := first|with_reducible assumption|omega) [go_sem]
 refine pcheck0 g.par ok ?_
 cases q1 : parR g.par with
 | false =>
  have := no (by simp only [newB, q1, Bool.false_and]) h (PH.le_refl h)
  simp -dsimp -implicitDefEqProofs (disch := first|with_reducible assumption|omega) [go_sem]
  exact fin_tail (fin_tail (fin_here this))
 | true =>
 by_cases q2 : 4611686018427387904 < g.most
 ·have := no (by simp only [newB, decide_eq_false (p := g.most ≤ 4611686018427387904) (by omega), Bool.and_false, Bool.false_and]) h (PH.le_refl h)
  simp -dsimp -implicitDefEqProofs (disch := first|with_reducible assumption|omega) [go_sem]
  exact fin_tail (fin_tail (fin_here this))
 simp -dsimp -implicitDefEqProofs (disch := first|with_reducible assumption|omega) [go_sem]
 refine swi_any _ _ _ ?_
 cases q3 : wi g.purses.length 1 64 with
 | false =>
  have := no (by simp only [newB, q3, Bool.and_false, Bool.false_and]) h (PH.le_refl h)
  simp -dsimp -implicitDefEqProofs (disch := first|with_reducible assumption|omega) [go_sem]
  exact fin_tail (fin_tail (fin_here this))
 | true =>
 have q3' := wi_iff.1 q3
 by_cases q4 : 128 < g.founders.length
 ·have := no (by simp only [newB, decide_eq_false (p := g.founders.length ≤ 128) (by omega), Bool.and_false, Bool.false_and]) h (PH.le_refl h)
  simp -dsimp -implicitDefEqProofs (disch := first|with_reducible assumption|omega) [go_sem]
  exact fin_tail (fin_tail (fin_here this))
 simp -dsimp -implicitDefEqProofs (disch := first|with_reducible assumption|omega) [go_sem]
 refine clone64_own _ hp (by omega) fun o0 k0 a0 => ?_
 have m1 : apB o0 b1 := (apO_tail a0).head
 have e0 : g.purses.map (.int .u64) = allK g 0 := by simp [allK]
 rw [e0]
 simp -dsimp -implicitDefEqProofs (disch := first|with_reducible assumption|omega) [go_sem, xFind_oent m1]
 refine xloop (γ := Nat × Option (Nat × Nat) × Option (Nat × Nat)) (0, o0, none)
  (fun q => q.1 ≤ g.founders.length ∧ okO q.2.1 (g.purses.length + q.1) ∧ okO q.2.2 q.1 ∧ apO q.2.1 (oent 89 6 q.2.2 (memK g q.1) (⟨b2, 41, stC zeroS nilV, 41⟩ :: ⟨b1, 29, genC g (.slice pa g.purses.length pc) (.slice fa g.founders.length fc), 27⟩ :: L)) h ∧ apO q.2.2 (⟨b2, 41, stC zeroS nilV, 41⟩ :: ⟨b1, 29, genC g (.slice pa g.purses.length pc) (.slice fa g.founders.length fc), 27⟩ :: L) h ∧ ∀ j, j < q.1 → fouB g (gr zeroFou g.founders j) = true)
  (fun q => [(39, .int .i64 q.1), (38, .int .i64 g.founders.length), (37, .slice fa g.founders.length fc), (4, ovs q.2.1 (g.purses.length + q.1)), (5, ovs q.2.2 q.1), (1, .pointer (some ⟨b1, 0, none⟩)), (2, .pointer (some ⟨b2, 0, none⟩))])
  (fun q => oent 23 1 q.2.1 (allK g q.1) (oent 89 6 q.2.2 (memK g q.1) (⟨b2, 41, stC zeroS nilV, 41⟩ :: ⟨b1, 29, genC g (.slice pa g.purses.length pc) (.slice fa g.founders.length fc), 27⟩ :: L))) (fun _ => h) (fun q => g.founders.length - q.1) ?_ ?_ ?_ ?_
 ·exact ⟨Nat.zero_le _, k0, rfl, a0, trivial, fun j hj => by simp only at hj; omega⟩
 ·simp [Ent, List.lookup, xEnv, ovs]
 ·exact Drop.refl _ _
 rintro ⟨k, o1, o2⟩ ⟨i1, i2, i3, i4, i5, i6⟩
 simp only at i1 i2 i3 i4 i5 i6 ⊢
 have i4' := apO_oent i4
 have m1b : apB o1 b1 := (apO_tail i4').head
 have m1a : apB o1 b2 := i4'.head
 have m2b : apB o2 b1 := (apO_tail i5).head
 have m2a : apB o2 b2 := i5.head
 by_cases c1 : k < g.founders.length
 ·have hfo := hg.fo (gr zeroFou g.founders k) (by rw [gr_lt c1]; exact List.getElem_mem c1)
  have hfb := hfo.b
  have bad : fouB g (gr zeroFou g.founders k) = false → K (.tuple #[stV zeroS nilV, .int .i64 240]) L h := fun e => no (by simp only [newB, not_all_gr zeroFou (fouB g) g.founders c1 e, Bool.and_false, Bool.false_and]) h (PH.le_refl h)
  simp -dsimp -implicitDefEqProofs (disch := first|with_reducible assumption|omega) [go_sem, ↓idxR zeroFou (by decide) hfd, fouC]
  refine xnew fun b7 n_b7 h_b7 => ?_
  try simp only [Apart] at n_b7
  have n7 := apart_oent (apart_oent n_b7)
  simp only [Apart] at n7
  obtain ⟨n72, n71, _⟩ := n7
  simp -dsimp -implicitDefEqProofs (disch := first|with_reducible assumption|omega) [go_sem, fouC, xFind_oent m1b, xFind_oent m2b]
  refine swi_any _ _ _ ?_
  cases q5 : wi (gr zeroFou g.founders k).own 0 ((g.purses.length : Int) - 1) with
  | false =>
   have := bad (by simp only [fouB, q5, Bool.false_and])
   simp -dsimp -implicitDefEqProofs (disch := first|with_reducible assumption|omega) [go_sem, xSet_oent m1a, xSet_oent m2a, xFind_oent m1a, xFind_oent m2a]
   exact fin_tail (fin_oent (fin_oent (fin_tail (fin_tail (fin_here this)))))
  | true =>
  by_cases q6 : (gr zeroFou g.founders k).bal ≤ g.par.floor
  ·have := bad (by simp only [fouB, decide_eq_false (p := g.par.floor < (gr zeroFou g.founders k).bal) (by omega), Bool.and_false, Bool.false_and])
   simp -dsimp -implicitDefEqProofs (disch := first|with_reducible assumption|omega) [go_sem, xSet_oent m1a, xSet_oent m2a, xFind_oent m1a, xFind_oent m2a, xFind_oent m1b, xFind_oent m2b]
   exact fin_tail (fin_oent (fin_oent (fin_tail (fin_tail (fin_here this)))))
  by_cases q7 : g.par.cap < (gr zeroFou g.founders k).bal
  ·have := bad (by simp only [fouB, decide_eq_false (p := (gr zeroFou g.founders k).bal ≤ g.par.cap) (by omega), Bool.and_false])
   simp -dsimp -implicitDefEqProofs (disch := first|with_reducible assumption|omega) [go_sem, xSet_oent m1a, xSet_oent m2a, xFind_oent m1a, xFind_oent m2a, xFind_oent m1b, xFind_oent m2b]
   exact fin_tail (fin_oent (fin_oent (fin_tail (fin_tail (fin_here this)))))
  have yes : fouB g (gr zeroFou g.founders k) = true := by
   simp only [fouB, q5, Bool.true_and, Bool.and_eq_true, decide_eq_true_eq]; omega
  simp -dsimp -implicitDefEqProofs (disch := first|with_reducible assumption|omega) [go_sem, xFind_oent m1a, xFind_oent m2a, xFind_oent m1b, xFind_oent m2b]
  refine xnew fun b8 n_b8 h_b8 => ?_
  try simp only [Apart] at n_b8
  have n8 := apart_oent (apart_oent n_b8.2)
  simp only [Apart] at n8
  obtain ⟨n82, n81, _⟩ := n8
  simp -dsimp -implicitDefEqProofs (disch := first|with_reducible assumption|omega) [go_sem]
  refine xappend (t := 26) (e := 23) (sz := 1) (bytes := 8) (by kernel_rfl) tI_23 rfl rfl rfl rfl (by decide) [_, _] _ o1 (g.purses.length + k) (allK g k) i2 (allK_len i1) (Src.own List.mem_cons_self) (m := 1) (news := [.int .u64 (gr zeroFou g.founders k).bal]) rfl (by intro u hu; simp only [List.mem_singleton] at hu; subst hu; rfl) (by simp [maxLen]; omega) (by omega) ?_
  intro o1' j1 j2 j3
  have j4 := apO_tail (apO_tail j2)
  have j4' := apO_oent j4
  have m1b' : apB o1' b1 := (apO_tail j4').head
  have m1a' : apB o1' b2 := j4'.head
  simp -dsimp -implicitDefEqProofs (disch := first|with_reducible assumption|omega) [go_sem, xFind_oent m1b', xFind_oent m2b]
  refine founded_any g.par ok q1 _ hfo ?_
  simp -dsimp -implicitDefEqProofs (disch := first|with_reducible assumption|omega) [go_sem]
  refine xnew fun b9 n_b9 h_b9 => ?_
  try simp only [Apart] at n_b9
  simp -dsimp -implicitDefEqProofs (disch := first|with_reducible assumption|omega) [go_sem]
  rw [oent_split (e := 23) o1']
  refine xappend (t := 33) (e := 89) (sz := 6) (bytes := 48) (by kernel_rfl) tI_89 rfl rfl rfl rfl (by decide) (_ :: _ :: _ :: oent 23 1 o1' _ []) _ o2 k (memK g k) i3 (memK_len i1) (Src.own List.mem_cons_self) (m := 1) (news := memC (memF g.par (gr zeroFou g.founders k))) rfl (by intro u hu; simp only [memC, List.mem_cons, List.not_mem_nil, or_false] at hu; rcases hu with rfl | rfl | rfl | rfl | rfl | rfl <;> rfl) (by simp [maxLen]; omega) (by omega) ?_
  intro o2' l1 l2 l3
  have l4 := apO_tail (apO_tail (apO_tail l2))
  have l5 := apO_swap (e2 := 89) (sz2 := 6) (cs2 := memK g (k + 1)) j4' l4
  simp -dsimp -implicitDefEqProofs (disch := first|with_reducible assumption|omega) [go_sem]
  refine ⟨k + 1, o1', o2', ⟨by omega, by rw [← Nat.add_assoc]; exact j1, l1, l5.1, l5.2, fun j hj => ?_⟩, by omega, by simp [Ent, List.lookup, Nat.add_assoc], ?_⟩
  ·by_cases e : j = k
   ·subst e; exact yes
   ·exact i6 j (by omega)
  ·rw [memK_succ c1, allK_succ c1, ← oent_split]
   exact (Drop.tail _ _ _).trans ((Drop.tail _ _ _).trans (Drop.tail _ _ _))
 ·have hkl : k = g.founders.length := by omega
  subst hkl
  have fall := all_gr zeroFou (fouB g) g.founders i6
  have eA : allK g g.founders.length = (genAll g).map (.int .u64) := by simp [allK, genAll]
  have lA : (genAll g).length = g.purses.length + g.founders.length := by simp [genAll]
  obtain ⟨ma, mc, em, _⟩ := ovs_open i3
  rw [eA, em]
  simp -dsimp -implicitDefEqProofs (disch := first|with_reducible assumption|omega) [go_sem]
  refine call_pub (n := g.purses.length + g.founders.length) i2 (by simp [lA]) (by omega) i4 fun h1 le1 sl1 => ?_
  have iA : Ints h1 .u64 (ovs o1 (g.purses.length + g.founders.length)) (genAll g) := ⟨by rw [lA]; exact sl1, fun z hz => by
   rw [show IntKind.u64.min = 0 by decide, show IntKind.u64.max = 18446744073709551615 by decide]
   rcases List.mem_append.1 hz with hz | hz
   ·have := hp.2 z hz
    rwa [show IntKind.u64.min = 0 by decide, show IntKind.u64.max = 18446744073709551615 by decide] at this
   ·obtain ⟨f, hf1, rfl⟩ := List.mem_map.1 hz
    exact (hg.fo f hf1).b⟩
  refine Spec.ap (msum_any _ iA fun ap => ?_)
  have i5' := apO_next i5 ap
  have ap2 := Ap.oent ap
  simp only [Ap] at ap2
  obtain ⟨p2, p1, _⟩ := ap2
  have no1 : newB g = false → K (.tuple #[stV zeroS nilV, .int .i64 240]) L h1 := fun e => no e h1 le1
  by_cases c2 : tot (genAll g) ≤ 18446744073709551615
  ·rw [sumV_ok c2]
   by_cases c3 : g.most < tot (genAll g)
   ·have := no1 (by simp only [newB, decide_eq_false (p := tot (genAll g) ≤ g.most) (by omega), Bool.and_false])
    simp -dsimp -implicitDefEqProofs (disch := first|with_reducible assumption|omega) [go_sem, xSet_oent m2a, xFind_oent m2a, xFind_oent m2b]
    exact fin_oent (fin_tail (fin_tail (fin_here this)))
   have yes : newB g = true := by
    simp only [newB, q1, q3, fall, Bool.true_and, Bool.and_true, Bool.and_eq_true, decide_eq_true_eq]
    omega
   simp -dsimp -implicitDefEqProofs (disch := first|with_reducible assumption|omega) [go_sem, xSet_oent m2a, xFind_oent m2a, xFind_oent m2b]
   refine xanyl (.tk 0 (.tk 2 (.tk 4 (.tk 5 (.tk 8 (.tkl 1 (.tkl 3 (.tkl 6 (.or true 7 (.or true 9 (.tk 10 (.or false 11 (.tk 12 (.fin)) (.nil))) (.nil)) (.nil)))))))))) (by kernel_rfl) (by kernel_rfl) _ (Drop.refl _ _) ?_
   simp -dsimp -implicitDefEqProofs (disch := first|with_reducible assumption|omega) [go_sem, xSet_oent m2a, xFind_oent m2a, xFind_oent m2b]
   refine clone64_own _ (hp.up le1) (by omega) fun op kop aop => ?_
   have mo2 : apB op b2 := (apO_oent aop).head
   have mo1 : apB op b1 := (apO_tail (apO_oent aop)).head
   refine xkp (Drop.oent _ _ _ _ _ _) ?_
   obtain ⟨oa2, oc2, eo2, _⟩ := ovs_open kop
   rw [eo2]
   simp -dsimp -implicitDefEqProofs (disch := first|with_reducible assumption|omega) [go_sem, xSet_oent m2a, xFind_oent m2a, xFind_oent m2b, xSet_oent mo2, xFind_oent mo2, xFind_oent mo1]
   refine empty_own fun bm n_bm h_bm => ?_
   refine xkp ((Drop.tail _ _ _).trans (Drop.oent _ _ _ _ _ _)) ?_
   have nm := apart_oent (apart_oent n_bm)
   simp only [Apart] at nm
   obtain ⟨nm2, nm1, nmL⟩ := nm
   simp -dsimp -implicitDefEqProofs (disch := first|with_reducible assumption|omega) [go_sem, xSet_oent m2a, xFind_oent m2a, xFind_oent m2b, xSet_oent mo2, xFind_oent mo2, xFind_oent mo1]
   have eK : memK g g.founders.length = (g.founders.map (memF g.par)).flatMap memC := by simp [memK]
   have hk2 := hk h1 bm op o2 le1 kop i3 (apO_tail (apO_tail i5')) (by rw [← eK]; exact apO_drop2 aop) (by rw [← eK]; exact apart_drop2 n_bm) h_bm
   rw [← eK, eo2, em] at hk2
   exact ⟨_, _, drop2 _ _ _ _ _, hk2⟩
  ·rw [sumV_no c2]
   have := no1 (by simp only [newB, decide_eq_false (p := tot (genAll g) ≤ g.most) (by omega), Bool.and_false])
   simp -dsimp -implicitDefEqProofs (disch := first|with_reducible assumption|omega) [go_sem, xSet_oent m2a, xFind_oent m2a, xFind_oent m2b]
   exact fin_oent (fin_tail (fin_tail (fin_here this)))
theorem sumK_sumRF (zs : List Int) : ∀ k, k ≤ zs.length → sumK zs k = (zs.take k).sum
 | 0, _ => by simp [sumK]
 | k + 1, hk => by
  rw [sumK, sumK_sumRF zs k (by omega), List.take_succ_eq_append_getElem hk, List.sum_append, at0_lt hk]
  simp
theorem tot_sumRF (zs : List Int) : tot zs = zs.sum := by
 rw [tot, sumK_sumRF zs _ (Nat.le_refl _), List.take_length]
theorem tot_snocRF (zs : List Int) (a : Int) : tot (zs ++ [a]) = tot zs + a := by
 rw [tot_sumRF, tot_sumRF, List.sum_append]; simp
theorem at0_neRF (xs : List Int) {i j : Nat} (v : Int) (hij : j ≠ i) : at0 (xs.set i v) j = at0 xs j := by
 by_cases hi : i < xs.length
 ·rw [at0_set _ _ _ _ hi, if_neg (fun e => hij e)]
 ·rw [List.set_eq_of_length_le (by omega)]
theorem sumK_set_ltRF {xs : List Int} {i : Nat} {v : Int} : ∀ k, k ≤ i → sumK (xs.set i v) k = sumK xs k
 | 0, _ => rfl
 | k + 1, hk => by rw [sumK, sumK, sumK_set_ltRF k (by omega), at0_neRF xs v (show k ≠ i by omega)]
theorem sumK_set_geRF {xs : List Int} {i : Nat} {v : Int} (hi : i < xs.length) : ∀ k, i < k → sumK (xs.set i v) k = sumK xs k + (v - at0 xs i)
 | k + 1, hk => by
  rw [sumK, sumK]
  by_cases c : k = i
  ·subst c
   rw [sumK_set_ltRF k (Nat.le_refl _), at0_set _ _ _ _ hi, if_pos rfl]
   omega
  ·rw [sumK_set_geRF hi k (by omega), at0_neRF xs v (by omega : k ≠ i)]
   omega
theorem tot_setRF {xs : List Int} {i : Nat} {v : Int} (hi : i < xs.length) : tot (xs.set i v) = tot xs + (v - at0 xs i) := by
 rw [tot, List.length_set, sumK_set_geRF hi _ hi]; rfl
theorem fitsS_iffF {s : StD} : fitsS s = true ↔ parR s.par = true ∧ wi s.ep 0 1073741824 = true ∧ wi s.calm 0 1073741824 = true ∧ pursesB s = true ∧ membersB s = true ∧ poolsB s = true ∧ motionsB s = true ∧ marksB s = true ∧ holdsB s = true := by
 simp only [fitsS, Bool.and_eq_true, and_assoc]
theorem purses_iffF {s : StD} : pursesB s = true ↔ (1 ≤ s.purses.length ∧ s.purses.length ≤ 64) ∧ ∀ z ∈ s.purses, z ≤ 4611686018427387904 := by
 simp only [pursesB, Bool.and_eq_true, wi_iff, List.all_eq_true, decide_eq_true_eq]
 exact and_congr (by omega) Iff.rfl
theorem acct_iffF {s : StD} {i : Int} : acctB s i = true ↔ 0 ≤ i ∧ i < s.purses.length := by
 rw [acctB, wi_iff]; omega
def fouF (m : Nat) : List FouD := (List.range m).map fun i => ⟨((i % 64 : Nat) : Int), 30⟩
def fullG (m : Nat) : GenD := ⟨simpP, 4611686018427387904, List.replicate 64 1125899906842624, fouF m⟩
def purF (k : Nat) : List Int := (List.range 64).map fun b => 1125899906842624 - 8796093022208 * (((k + 63 - b) / 64 : Nat) : Int)
def dueF (k : Nat) : List DueD := (List.range k).map fun j => ⟨((j % 64 : Nat) : Int), 1073741724 + ((j / 64 : Nat) : Int), 8796093022208⟩
def fullS (m k : Nat) : StD := { newS (fullG m) with ep := 1073741724, purses := purF k, dues := dueF k }
theorem fouF_succ (m : Nat) : fouF (m + 1) = fouF m ++ [⟨((m % 64 : Nat) : Int), 30⟩] := by
 rw [fouF, fouF, List.range_succ, List.map_append]; rfl
theorem fouF_len (m : Nat) : (fouF m).length = m := by simp [fouF]
theorem dueF_succ (k : Nat) : dueF (k + 1) = dueF k ++ [⟨((k % 64 : Nat) : Int), 1073741724 + ((k / 64 : Nat) : Int), 8796093022208⟩] := by
 rw [dueF, dueF, List.range_succ, List.map_append]; rfl
theorem dueF_len (k : Nat) : (dueF k).length = k := by simp [dueF]
theorem purF_len (k : Nat) : (purF k).length = 64 := by simp [purF]
theorem purF_at {k b : Nat} (hb : b < 64) : at0 (purF k) b = 1125899906842624 - 8796093022208 * (((k + 63 - b) / 64 : Nat) : Int) := by
 rw [← at0_lt (by rw [purF_len]; exact hb)]
 simp [purF]
theorem purF_zero : purF 0 = List.replicate 64 1125899906842624 := by decide +kernel
theorem purF_succ (k : Nat) : purF (k + 1) = (purF k).set (k % 64) (at0 (purF k) (k % 64) - 8796093022208) := by
 apply List.ext_getElem (by rw [List.length_set, purF_len, purF_len])
 intro b h1 h2
 rw [purF_len] at h1
 rw [at0_lt (by rw [purF_len]; exact h1), purF_at h1, List.getElem_set]
 split
 ·rename_i e
  subst e
  rw [purF_at (by omega)]
  have : (k + 1 + 63 - k % 64) / 64 = (k + 63 - k % 64) / 64 + 1 := by omega
  rw [this]
  push_cast
  omega
 ·rename_i e
  rw [at0_lt (by rw [purF_len]; exact h1), purF_at h1]
  have : (k + 1 + 63 - b) / 64 = (k + 63 - b) / 64 := by omega
  rw [this]
theorem tot_purF : ∀ k, tot (purF k) = 72057594037927936 - 8796093022208 * (k : Int)
 | 0 => by rw [purF_zero]; decide +kernel
 | k + 1 => by
  rw [purF_succ, tot_setRF (by rw [purF_len]; omega), tot_purF k]
  push_cast
  omega
theorem tot_dueF : ∀ k, tot ((dueF k).map DueD.amt) = 8796093022208 * (k : Int)
 | 0 => by rfl
 | k + 1 => by
  rw [dueF_succ, List.map_append, List.map_cons, List.map_nil, tot_snocRF, tot_dueF k]
  push_cast
  omega
theorem tot_fouF : ∀ m, tot ((fouF m).map FouD.bal) = 30 * (m : Int)
 | 0 => by rfl
 | m + 1 => by
  rw [fouF_succ, List.map_append, List.map_cons, List.map_nil, tot_snocRF, tot_fouF m]
  push_cast
  omega
theorem simpP_right : parR simpP = true := by decide +kernel
theorem full_gen (m : Nat) : tot (genAll (fullG m)) = 72057594037927936 + 30 * (m : Int) := by
 have h0 := tot_purF 0
 rw [purF_zero, tot_sumRF] at h0
 have h1 := tot_fouF m
 rw [tot_sumRF] at h1
 rw [genAll, tot_sumRF, List.sum_append]
 show (List.replicate 64 1125899906842624).sum + ((fouF m).map FouD.bal).sum = _
 rw [h0, h1]
 omega
theorem full_newB {m : Nat} (hm : m ≤ 128) : newB (fullG m) = true := by
 have hg := full_gen m
 simp only [newB, Bool.and_eq_true, decide_eq_true_eq, List.all_eq_true]
 refine ⟨⟨⟨⟨⟨simpP_right, by show (4611686018427387904 : Int) ≤ _; omega⟩, wi_iff.2 ⟨?_, ?_⟩⟩, ?_⟩, fun x hx => ?_⟩, ?_⟩
 ·show (1 : Int) ≤ ((List.replicate 64 (1125899906842624 : Int)).length : Int); simp
 ·show ((List.replicate 64 (1125899906842624 : Int)).length : Int) ≤ 64; simp
 ·show (fouF m).length ≤ 128; rw [fouF_len]; exact hm
 ·obtain ⟨i, _, rfl⟩ := List.mem_map.1 (show x ∈ fouF m from hx)
  simp only [fouB, Bool.and_eq_true, decide_eq_true_eq]
  refine ⟨⟨wi_iff.2 ⟨by omega, ?_⟩, (by decide : simpP.floor < 30)⟩, (by decide : (30 : Int) ≤ simpP.cap)⟩
  show ((i % 64 : Nat) : Int) ≤ ((List.replicate 64 (1125899906842624 : Int)).length : Int) - 1
  rw [List.length_replicate]; omega
 ·rw [hg]; show _ ≤ (4611686018427387904 : Int); omega
theorem full_mem {m : Nat} : ∀ x ∈ (newS (fullG m)).members, ∃ o : Int, 0 ≤ o ∧ o < 64 ∧ x = ⟨30, 30, 0, 0, o, 2⟩ := fun x hx => by
 obtain ⟨f, hf, rfl⟩ := List.mem_map.1 (show x ∈ (fouF m).map (memF simpP) from hx)
 obtain ⟨i, _, rfl⟩ := List.mem_map.1 hf
 refine ⟨((i % 64 : Nat) : Int), by omega, by omega, ?_⟩
 have e : wholeP simpP 30 = 30 := by decide +kernel
 simp only [memF, e]
theorem full_len (m : Nat) : (newS (fullG m)).members.length = m := by
 show ((fouF m).map (memF simpP)).length = m
 rw [List.length_map, fouF_len]
theorem cntS_none {l : List MemD} {st : Int} (hl : ∀ j, j < l.length → (gr zeroM l j).status ≠ st) : ∀ k, k ≤ l.length → cntS l st k = 0
 | 0, _ => rfl
 | k + 1, hk => by rw [cntS, cntS_none hl k (by omega), if_neg (hl k (by omega))]
theorem tot_bal (m : Nat) : tot ((newS (fullG m)).members.map MemD.bal) = 30 * (m : Int) := by
 have e : (newS (fullG m)).members.map MemD.bal = (fouF m).map FouD.bal := by
  show ((fouF m).map (memF simpP)).map MemD.bal = _
  rw [List.map_map]; rfl
 rw [e, tot_fouF]
theorem full_fits {m k : Nat} (hm : m ≤ 128) (hk : k ≤ 3200) : fitsS (fullS m k) = true := by
 have hst : ∀ j, j < (fullS m k).members.length → (gr zeroM (fullS m k).members j).status = 2 := fun j hj => by
  obtain ⟨o, _, _, e⟩ := full_mem (gr zeroM (fullS m k).members j) (by rw [gr_lt hj]; exact List.getElem_mem hj)
  rw [e]
 have hlen : (fullS m k).members.length = m := full_len m
 have hrow : ∀ st : Int, st ≠ 2 → rowB (fullS m k) [] st = true := fun st h2 => by
  rw [rowB, Bool.and_eq_true, decide_eq_true_eq]
  refine ⟨hasB_true fun j hj e => absurd ((hst j hj).symm.trans e) (Ne.symm h2), ?_⟩
  rw [cntS_none (fun j hj e => h2 ((hst j hj).symm.trans e).symm) _ (Nat.le_refl _)]
  rfl
 have hdl : (fullS m k).dues.length = k := dueF_len k
 have hdu : ∀ j, j < k → gr zeroDue (fullS m k).dues j = ⟨((j % 64 : Nat) : Int), 1073741724 + ((j / 64 : Nat) : Int), 8796093022208⟩ := fun j hj => by
  rw [gr_lt (by rw [hdl]; exact hj)]
  show (dueF k)[j]'_ = _
  simp [dueF]
 have hac : ∀ i : Int, 0 ≤ i → i < 64 → acctB (fullS m k) i = true := fun i h0 h1 => acct_iffF.2 ⟨h0, by show i < ((purF k).length : Int); rw [purF_len]; exact h1⟩
 refine fitsS_iffF.2 ⟨simpP_right, by show wi 1073741724 0 1073741824 = true; decide, by show wi 0 0 1073741824 = true; decide, purses_iffF.2 ⟨?_, fun z hz => ?_⟩, ?_, ?_, ?_, ?_, ?_⟩
 ·show 1 ≤ (purF k).length ∧ (purF k).length ≤ 64
  rw [purF_len]; omega
 ·obtain ⟨b, _, rfl⟩ := List.mem_map.1 (show z ∈ purF k from hz)
  omega
 ·simp only [membersB, Bool.and_eq_true, decide_eq_true_eq, List.all_eq_true]
  refine ⟨⟨⟨by rw [hlen]; exact hm, fun x hx => ?_⟩, hrow 1 (by decide)⟩, hrow 3 (by decide)⟩
  obtain ⟨o, h0, h1, rfl⟩ := full_mem x hx
  refine ⟨?_, hac o h0 h1⟩
  show mfitsB simpP ⟨30, 30, 0, 0, o, 2⟩ = true
  simp only [mfitsB, Bool.and_eq_true, decide_eq_true_eq]
  refine ⟨⟨⟨h0, h1⟩, ?_⟩, ?_⟩
  ·simp only [stdL, trimM, simpP]; decide
  ·show shapeB simpP ⟨30, 30, 0, 0, 0, 2⟩ = true
   decide +kernel
 ·simp only [poolsB, Bool.and_eq_true, decide_eq_true_eq, List.all_eq_true, duesB, List.mem_range]
  refine ⟨⟨Nat.zero_le _, fun x hx => by cases hx⟩, fun j hj => ?_⟩
  rw [hdl] at hj
  have e := hdu j hj
  simp only [dueB, Bool.and_eq_true, due1B, e, decide_eq_true_eq]
  refine ⟨⟨⟨⟨⟨hac _ (by omega) (by omega), wi_iff.2 ⟨by omega, by omega⟩⟩, by omega⟩, by omega⟩, ?_⟩, ?_⟩
  ·rw [Bool.not_eq_true', metB, List.any_eq_false]
   intro i hi
   rw [List.mem_range] at hi
   rw [e, hdu i (by omega)]
   simp only [Bool.and_eq_true, decide_eq_true_eq]
   omega
  ·rw [ordB, Bool.or_eq_true, decide_eq_true_eq, decide_eq_true_eq]
   by_cases c : j = 0
   ·exact Or.inl c
   ·right
    rw [e, hdu (j - 1) (by omega)]
    simp only
    omega
 ·simp only [motionsB, Bool.and_eq_true, decide_eq_true_eq, List.all_eq_true]
  exact ⟨Nat.zero_le _, fun x hx => by cases hx⟩
 ·simp only [marksB, rollB, Bool.and_eq_true, decide_eq_true_eq, List.all_eq_true]
  refine ⟨⟨⟨Nat.zero_le _, by show chkB (List.replicate 16 0) 128 = true; decide⟩, fun x hx => by cases hx⟩, fun i hi => ?_⟩
  have hz : (List.range 128).all (fun i : Nat => !getB (List.replicate 16 0) (i : Int)) = true := by decide +kernel
  rw [Bool.or_eq_true]
  exact Or.inr (List.all_eq_true.1 hz i hi)
 ·simp only [holdsB, Bool.and_eq_true, decide_eq_true_eq]
  have g1 : (fullS m k).gen = 72057594037927936 + 30 * (m : Int) := full_gen m
  have g2 : sStk (fullS m k) = 30 * (m : Int) := tot_bal m
  have g3 : sPur (fullS m k) = 72057594037927936 - 8796093022208 * (k : Int) := tot_purF k
  have g4 : sDue (fullS m k) = 8796093022208 * (k : Int) := tot_dueF k
  have g5 : sPool (fullS m k) = 0 := rfl
  have g6 : (fullS m k).mint = 0 ∧ (fullS m k).burn = 0 ∧ (fullS m k).treas = 0 ∧ (fullS m k).most = 4611686018427387904 := ⟨rfl, rfl, rfl, rfl⟩
  rw [sAll, g1, g2, g3, g4, g5, g6.1, g6.2.1, g6.2.2.1, g6.2.2.2]
  omega
abbrev gB (b : Nat) (pv fv : Value) : Blk := ⟨b, 29, genC ⟨simpP, 4611686018427387904, [], []⟩ pv fv, 27⟩
def rep50 (k : Nat) : List Int := List.replicate k 1125899906842624
theorem rep50_len (k : Nat) : (rep50 k).length = k := List.length_replicate
theorem rep50_succ (k : Nat) : rep50 (k + 1) = rep50 k ++ [1125899906842624] := List.replicate_succ'
theorem apO_headF {o : Option (Nat × Nat)} {b t cap t' cap' : Nat} {cs cs' : List Value} {L : Own} {h : PH} (ha : apO o (⟨b, t, cs, cap⟩ :: L) h) : apO o (⟨b, t', cs', cap'⟩ :: L) h := by
 cases o with
 | none => trivial
 | some p => exact ⟨⟨ha.1.1, ha.1.2⟩, ha.2⟩
theorem two_ofF {e1 s1 e2 s2 : Nat} {o1 o2 : Option (Nat × Nat)} {x1 x2 : List Value} {M L : Own} {h : PH} (a1 : apO o1 (M ++ oent e2 s2 o2 x2 L) h) (a2 : ∀ b c, o2 = some (b, c) → h b = noC) :
  Ap (oent e1 s1 o1 x1 (oent e2 s2 o2 x2 [])) h ∧ Nd (oent e1 s1 o1 x1 (oent e2 s2 o2 x2 [])) := by
 cases o1 with
 | none =>
  cases o2 with
  | none => exact ⟨trivial, trivial⟩
  | some q => exact ⟨⟨a2 q.1 q.2 rfl, trivial⟩, ⟨trivial, trivial⟩⟩
 | some p =>
  cases o2 with
  | none => exact ⟨⟨a1.2, trivial⟩, ⟨trivial, trivial⟩⟩
  | some q =>
   have hne : q.1 ≠ p.1 := of_apart a1.1 ⟨q.1, e2, x2, q.2 * s2⟩ (List.mem_append_right _ List.mem_cons_self)
   exact ⟨⟨a1.2, a2 q.1 q.2 rfl, trivial⟩, ⟨⟨hne, trivial⟩, trivial, trivial⟩⟩
theorem oent_permF {e sz : Nat} {o : Option (Nat × Nat)} {xs : List Value} {X Y : Own} (hp : X.Perm Y) : (oent e sz o xs X).Perm (oent e sz o xs Y) := by
 cases o with
 | none => exact hp
 | some p => exact hp.cons _
theorem call_pub2F {f : FuncId} {args : List Value} {x : Blk} {e1 sz1 n1 e2 sz2 n2 : Nat} {o1 o2 : Option (Nat × Nat)} {xs1 xs2 : List Value} {L : Own} {h : PH} {K : PK} (ok1 : okO o1 n1) (hl1 : xs1.length = n1 * sz1) (hn1 : n1 ≤ 9223372036854775807) (ok2 : okO o2 n2) (hl2 : xs2.length = n2 * sz2) (hn2 : n2 ≤ 9223372036854775807)
  (two : Ap (oent e1 sz1 o1 xs1 (oent e2 sz2 o2 xs2 [])) h ∧ Nd (oent e1 sz1 o1 xs1 (oent e2 sz2 o2 xs2 []))) (hx : apB o1 x.b ∧ apB o2 x.b) (hb : h x.b = noC)
  (hk : ∀ h', PH.le h h' → Sl h' (ovs o1 n1) n1 sz1 xs1 → Sl h' (ovs o2 n2) n2 sz2 xs2 → h' x.b = noC → (∀ b, h b = noC → apB o1 b → apB o2 b → h' b = noC) → Spec Tryz.prog f args (x :: L) h' K) (he1 : e1 ≠ 4294967295 := by first | decide | omega) (he2 : e2 ≠ 4294967295 := by first | decide | omega) : Spec Tryz.prog f args (x :: oent e1 sz1 o1 xs1 (oent e2 sz2 o2 xs2 L)) h K := by
 obtain ⟨ap, nd⟩ := two
 have a1 : apO o1 [] h := by
  cases o1 with
  | none => trivial
  | some p => exact ⟨trivial, ap.1⟩
 have a2 : apO o2 [] (pubO h o1 xs1) := by
  cases o2 with
  | none => trivial
  | some q =>
   cases o1 with
   | none => exact ⟨trivial, ap.1⟩
   | some p => exact ⟨trivial, pubO_noC (o := some p) (Ne.symm nd.1.1) ap.2.1⟩
 have le1 := pub_le_o a1 xs1
 have le2 := pub_le_o a2 xs2
 have hp : (x :: oent e1 sz1 o1 xs1 (oent e2 sz2 o2 xs2 L)).Perm (oent e1 sz1 o1 xs1 (oent e2 sz2 o2 xs2 (x :: L))) := (oent_front e1 sz1 o1 xs1 [x] _).trans (oent_permF (oent_front e2 sz2 o2 xs2 [x] L))
 exact Spec.weaken ((Drop.perm h hp).trans ((pub_drop_o o1 xs1 _ h he1).trans (pub_drop_o o2 xs2 (x :: L) _ he2))) (hk _ (le1.trans le2) ((pub_sl ok1 hl1 hn1).up le2) (pub_sl ok2 hl2 hn2) (pubO_noC hx.2 (pubO_noC hx.1 hb)) fun b q1 q2 q3 => pubO_noC q3 (pubO_noC q2 q1))
abbrev fV (bm bp cp k : Nat) (ma : Option Addr) (mc : Nat) (o : Option (Nat × Nat)) (q : Nat) : SV := ⟨.slice (some ⟨bp, 0, none⟩) 64 cp, .slice ma k mc, .slice none 0 0, .slice none 0 0, .slice none 0 0, ovs o q, .slice none 0 0, .slice (some ⟨bm, 0, none⟩) 16 16, .slice none 0 0⟩
abbrev fB (b7 bm bp cp k : Nat) (ma : Option Addr) (mc : Nat) (o : Option (Nat × Nat)) (q : Nat) : Blk := ⟨b7, 41, stC (fullS k 0) (fV bm bp cp k ma mc o q), 41⟩
abbrev fM (bm : Nat) : Blk := ⟨bm, 5, List.replicate 16 (.int .u8 0), 16⟩
abbrev fP (bp cp q : Nat) : Blk := ⟨bp, 23, (purF q).map (.int .u64), cp⟩
abbrev fO (b7 bm bp cp k : Nat) (ma : Option Addr) (mc : Nat) (R : Own) (o : Option (Nat × Nat)) (q : Nat) : Own := fB b7 bm bp cp k ma mc o q :: oent 46 3 o ((dueF q).flatMap dueC) (fM bm :: fP bp cp q :: R)
abbrev gz (b : Nat) : Blk := ⟨b, 0, [], 0⟩
theorem apO_headsF {o : Option (Nat × Nat)} {b t cap t' cap' b2 t2 cap2 t2' cap2' b3 t3 cap3 t3' cap3' : Nat} {cs cs' cs2 cs2' cs3 cs3' : List Value} {L : Own} {h : PH} (ha : apO o (⟨b, t, cs, cap⟩ :: ⟨b2, t2, cs2, cap2⟩ :: ⟨b3, t3, cs3, cap3⟩ :: L) h) : apO o (⟨b, t', cs', cap'⟩ :: ⟨b2, t2', cs2', cap2'⟩ :: ⟨b3, t3', cs3', cap3'⟩ :: L) h := by
 cases o with
 | none => trivial
 | some p => exact ⟨⟨ha.1.1, ha.1.2.1, ha.1.2.2.1, ha.1.2.2.2⟩, ha.2⟩
theorem full_st {h : PH} {bp cp bm k q mc dc : Nat} {ma da : Option Addr} (hk : k ≤ 128) (hq : q ≤ 3200) (sp : Sl h (.slice (some ⟨bp, 0, none⟩) 64 cp) 64 1 ((purF q).map (.int .u64))) (sm : Sl h (.slice ma k mc) k 6 ((newS (fullG k)).members.flatMap memC)) (sd : Sl h (.slice da q dc) q 3 ((dueF q).flatMap dueC)) (sk : Sl h (.slice (some ⟨bm, 0, none⟩) 16 16) 16 1 (List.replicate 16 (.int .u8 0))) :
  IsSt h ⟨.slice (some ⟨bp, 0, none⟩) 64 cp, .slice ma k mc, .slice none 0 0, .slice none 0 0, .slice none 0 0, .slice da q dc, .slice none 0 0, .slice (some ⟨bm, 0, none⟩) 16 16, .slice none 0 0⟩ (fullS k q) := by
 have g1 := full_gen k
 refine ⟨⟨simpP_ok, fun z hz => ?_, fun z hz => ?_⟩, ⟨?_, fun z hz => ?_⟩, ⟨memC_len, ?_⟩, fun x hx => ?_, nil_ints h .i64, nil_ints h .i64, Recs.nil depC_len h, (fun x hx => by cases hx), ⟨dueC_len, ?_⟩, fun x hx => ?_, ⟨[], Recs.nil motC_len h, rfl, (fun x hx => by cases hx)⟩, ⟨sk, fun z hz => ?_⟩, ⟨[], strs_nil h, rfl⟩⟩
 ·have hz' : z ∈ [(4611686018427387904 : Int), tot (genAll (fullG k)), 0, 0, 0] := hz
  simp only [List.mem_cons, List.not_mem_nil, or_false] at hz'
  omega
 ·have hz' : z ∈ [(1073741724 : Int), 0] := hz
  simp only [List.mem_cons, List.not_mem_nil, or_false] at hz'
  omega
 ·show Sl h _ (purF q).length 1 _
  rw [purF_len]; exact sp
 ·obtain ⟨b, hb, rfl⟩ := List.mem_map.1 (show z ∈ purF q from hz)
  rw [List.mem_range] at hb
  rw [show IntKind.u64.min = 0 by decide, show IntKind.u64.max = 18446744073709551615 by decide]
  omega
 ·show Sl h _ (newS (fullG k)).members.length 6 _
  rw [full_len]; exact sm
 ·obtain ⟨o, h0, h1, rfl⟩ := full_mem x hx
  refine ⟨fun z hz => ?_, fun z hz => ?_⟩
  ·simp only [List.mem_cons, List.not_mem_nil, or_false] at hz
   omega
  ·simp only [List.mem_cons, List.not_mem_nil, or_false] at hz
   omega
 ·show Sl h _ (dueF q).length 3 _
  rw [dueF_len]; exact sd
 ·obtain ⟨j, hj, rfl⟩ := List.mem_map.1 (show x ∈ dueF q from hx)
  rw [List.mem_range] at hj
  refine ⟨by simp only; omega, fun z hz => ?_⟩
  simp only [List.mem_cons, List.not_mem_nil, or_false] at hz
  omega
 ·have := List.eq_of_mem_replicate (show z ∈ List.replicate 16 (0 : Int) from hz)
  rw [this]
  exact ⟨by decide, by decide⟩
theorem imagefull_any (m n : Int) (hm0 : -9223372036854775808 ≤ m ∧ m ≤ 9223372036854775807) (hn0 : -9223372036854775808 ≤ n ∧ n ≤ 9223372036854775807) (hk : ∀ h', PH.le h h' → K (.bool true) L h') : Spec Tryz.prog 3 [.int .i64 m, .int .i64 n] L h K := by
 refine x_enter Tryz.func3 rfl (rs := [_]) rfl rfl mixed (by kernel_rfl) rfl rfl ?_
 simp -dsimp -implicitDefEqProofs (disch := first|with_reducible assumption|omega) [go_sem]
 refine awake26_any fun h1 le1 => ?_
 simp -dsimp -implicitDefEqProofs (disch := first|with_reducible assumption|omega) [go_sem]
 by_cases c1 : m < 0
 ·simp -dsimp -implicitDefEqProofs (disch := first|with_reducible assumption|omega) [go_sem]
  exact fin_here (hk h1 le1)
 by_cases c2 : 128 < m
 ·simp -dsimp -implicitDefEqProofs (disch := first|with_reducible assumption|omega) [go_sem]
  exact fin_here (hk h1 le1)
 by_cases c3 : n < 0
 ·simp -dsimp -implicitDefEqProofs (disch := first|with_reducible assumption|omega) [go_sem]
  exact fin_here (hk h1 le1)
 by_cases c4 : 50 < n
 ·simp -dsimp -implicitDefEqProofs (disch := first|with_reducible assumption|omega) [go_sem]
  exact fin_here (hk h1 le1)
 obtain ⟨M, rfl⟩ := Int.eq_ofNat_of_zero_le (Int.not_lt.1 c1)
 obtain ⟨N, rfl⟩ := Int.eq_ofNat_of_zero_le (Int.not_lt.1 c3)
 simp -dsimp -implicitDefEqProofs (disch := first|with_reducible assumption|omega) [go_sem]
 refine simple24_any fun h2 pa pc fa fc le2 ig => ?_
 simp -dsimp -implicitDefEqProofs (disch := first|with_reducible assumption|omega) [go_sem]
 refine xnew fun b5 n_b5 h_b5 => ?_
 try simp only [Apart] at n_b5
 simp -dsimp -implicitDefEqProofs (disch := first|with_reducible assumption|omega) [go_sem]
 refine xloop (γ := Nat × Option (Nat × Nat)) (0, none) (fun x => x.1 ≤ 64 ∧ okO x.2 x.1 ∧ apO x.2 (gB b5 (.slice none 0 0) (.slice none 0 0) :: L) h2)
  (fun x => [(35, .int .i64 x.1), (5, .pointer (some ⟨b5, 0, none⟩)), (1, .int .i64 N), (0, .int .i64 M)])
  (fun x => gB b5 (ovs x.2 x.1) (.slice none 0 0) :: oent 23 1 x.2 ((rep50 x.1).map (.int .u64)) L) (fun _ => h2) (fun x => 64 - x.1) ?_ ?_ ?_ ?_
 ·exact ⟨Nat.zero_le _, rfl, trivial⟩
 ·simp [Ent, List.lookup, xEnv]
 ·exact Drop.refl _ _
 rintro ⟨k, o⟩ ⟨i1, i2, i3⟩
 simp only at i1 i2 i3 ⊢
 obtain ⟨oa, oc, eo, _⟩ := ovs_open i2
 by_cases c5 : k < 64
 ·simp -dsimp -implicitDefEqProofs (disch := first|with_reducible assumption|omega) [go_sem]
  refine xnew fun b9 n_b9 h_b9 => ?_
  try simp only [Apart] at n_b9
  simp -dsimp -implicitDefEqProofs (disch := first|with_reducible assumption|omega) [go_sem]
  refine xappend (t := 26) (e := 23) (sz := 1) (bytes := 8) (by kernel_rfl) tI_23 rfl rfl rfl rfl (by decide) [_, _] L o k ((rep50 k).map (.int .u64)) i2 (by rw [List.length_map, rep50_len, Nat.mul_one]) (Src.own (b := b9) (t := 23) (cap := 1) List.mem_cons_self) (m := 1) (news := [.int .u64 1125899906842624]) rfl (by intro u hu; simp only [List.mem_singleton] at hu; subst hu; rfl) (by simp [maxLen]; omega) (by omega) ?_
  intro o' j1 j2 j3
  simp only [List.cons_append, List.nil_append] at j2 ⊢
  obtain ⟨oa2, oc2, eo2, _⟩ := ovs_open j1
  rw [eo2]
  simp -dsimp -implicitDefEqProofs (disch := first|with_reducible assumption|omega) [go_sem]
  refine ⟨k + 1, o', ⟨by omega, j1, apO_headF (apO_tail j2)⟩, by omega, by simp [Ent, List.lookup], ?_⟩
  rw [← eo2, rep50_succ, List.map_append]
  exact Drop.tail _ _ _
 ·have hke : k = 64 := by omega
  subst hke
  simp -dsimp -implicitDefEqProofs (disch := first|with_reducible assumption|omega) [go_sem]
  refine xloop (γ := Nat × Option (Nat × Nat)) (0, none) (fun x => x.1 ≤ M ∧ okO x.2 x.1 ∧ apO x.2 (gB b5 (.slice none 0 0) (.slice none 0 0) :: oent 23 1 o ((rep50 64).map (.int .u64)) L) h2)
   (fun x => [(44, .int .i64 x.1), (43, .int .i64 M), (5, .pointer (some ⟨b5, 0, none⟩)), (1, .int .i64 N), (0, .int .i64 M)])
   (fun x => gB b5 (ovs o 64) (ovs x.2 x.1) :: oent 32 2 x.2 ((fouF x.1).flatMap fouC) (oent 23 1 o ((rep50 64).map (.int .u64)) L)) (fun _ => h2) (fun x => M - x.1) ?_ ?_ ?_ ?_
  ·exact ⟨Nat.zero_le _, rfl, trivial⟩
  ·simp [Ent, List.lookup, xEnv]
  ·exact Drop.refl _ _
  rintro ⟨k, o2⟩ ⟨k1, k2, k3⟩
  simp only at k1 k2 k3 ⊢
  rw [eo]
  by_cases c6 : k < M
  ·simp -dsimp -implicitDefEqProofs (disch := first|with_reducible assumption|omega) [go_sem]
   refine xnew fun b9 n_b9 h_b9 => ?_
   try simp only [Apart] at n_b9
   simp -dsimp -implicitDefEqProofs (disch := first|with_reducible assumption|omega) [go_sem]
   have hmod : Int.tmod (k : Int) 64 = ((k % 64 : Nat) : Int) := by
    rw [Int.tmod_eq_emod_of_nonneg (by omega)]
    omega
   refine xappend (t := 27) (e := 32) (sz := 2) (bytes := 16) (by kernel_rfl) tI_32 rfl rfl rfl rfl (by decide) [_, _] (oent 23 1 o ((rep50 64).map (.int .u64)) L) o2 k ((fouF k).flatMap fouC) k2 (by rw [flatG_len fouC_len, fouF_len]) (Src.own (b := b9) (t := 32) (cap := 2) List.mem_cons_self) (m := 1) (news := [.int .i64 ((k : Int) % 64), .int .u64 30]) rfl (by intro u hu; simp only [List.mem_cons, List.not_mem_nil, or_false] at hu; rcases hu with rfl | rfl <;> rfl) (by simp [maxLen]; omega) (by omega) ?_
   intro o' j1 j2 j3
   simp only [List.cons_append, List.nil_append] at j2 ⊢
   obtain ⟨oa2, oc2, eo2, _⟩ := ovs_open j1
   rw [eo2]
   simp -dsimp -implicitDefEqProofs (disch := first|with_reducible assumption|omega) [go_sem]
   refine ⟨k + 1, o', ⟨by omega, j1, apO_headF (apO_tail j2)⟩, by omega, by simp [Ent, List.lookup], ?_⟩
   have e9 : fouC ⟨((k % 64 : Nat) : Int), 30⟩ = [.int .i64 ((k : Int) % 64), .int .u64 30] := by simp [fouC]
   rw [← eo2, fouF_succ, List.flatMap_append, List.flatMap_cons, List.flatMap_nil, List.append_nil, e9, ← eo]
   exact Drop.tail _ _ _
  ·have hke : k = M := by omega
   subst hke
   obtain ⟨fa2, fc2, ef, _⟩ := ovs_open k2
   have two := two_ofF (e1 := 32) (s1 := 2) (x1 := (fouF k).flatMap fouC) (M := [_]) k3 (fun b c e => by subst e; exact i3.2)
   rw [ef]
   simp -dsimp -implicitDefEqProofs (disch := first|with_reducible assumption|omega) [go_sem]
   have hbx : apB o2 b5 ∧ apB o b5 := ⟨apO.head k3, apO.head i3⟩
   refine call_pub2F (n1 := k) (n2 := 64) k2 (by rw [flatG_len fouC_len, fouF_len]) (by omega) i2 (by rw [List.length_map, rep50_len]) (by omega) two hbx h_b5 fun h3 le3 sf sp h3b _ => ?_
   rw [ef] at sf
   rw [eo] at sp
   have ig3 : IsGen h3 (.slice oa 64 oc) (.slice fa2 k fc2) (fullG k) := by
    refine ⟨simpP_ok, by show (0 : Int) ≤ 4611686018427387904 ∧ (4611686018427387904 : Int) ≤ 18446744073709551615; omega, ?_, ?_, fun x hx => ?_⟩
    ·refine ⟨by show Sl h3 _ (List.replicate 64 (1125899906842624 : Int)).length 1 _; rw [List.length_replicate]; exact sp, fun z hz => ?_⟩
     have := List.eq_of_mem_replicate (show z ∈ List.replicate 64 (1125899906842624 : Int) from hz)
     rw [this]
     exact ⟨by decide, by decide⟩
    ·refine ⟨fouC_len, ?_⟩
     show Sl h3 _ (fouF k).length 2 _
     rw [fouF_len]
     exact sf
    ·obtain ⟨i, _, rfl⟩ := List.mem_map.1 (show x ∈ fouF k from hx)
     exact ⟨⟨by simp only; omega, by simp only; omega⟩, (by decide : (0 : Int) ≤ 30 ∧ (30 : Int) ≤ 18446744073709551615)⟩
   refine Spec.ap (newo_any (g := fullG k) (.slice oa 64 oc) (.slice fa2 k fc2) ig3 (by show (List.replicate 64 (1125899906842624 : Int)).length ≤ 1000; simp) (full_newB (by omega)) fun h4 bm op om le4 ok1 ok2 a1 a2 a3 a4 ap => ?_)
   obtain ⟨bp, cp, rfl⟩ : ∃ bp cp, op = some (bp, cp) := by
    cases op with
    | none =>
     have q : (List.replicate 64 (1125899906842624 : Int)).length = 0 := ok1
     simp at q
    | some p => exact ⟨_, _, rfl⟩
   have lG : (fullG k).purses.length = 64 := List.length_replicate
   have lF : (fullG k).founders.length = k := fouF_len k
   rw [lG] at ok1
   rw [lF] at ok2
   simp only [Ap] at ap
   have h4m : h4 bm = noC := a4
   have h4p : h4 bp = noC := a2.2
   have e_pm : bp ≠ bm := of_apart a3 ⟨bp, 23, (fullG k).purses.map (.int .u64), cp * 1⟩ List.mem_cons_self
   obtain ⟨ma, mc, em, _⟩ := ovs_open ok2
   rw [lG, lF, em]
   simp -dsimp -implicitDefEqProofs (disch := first|with_reducible assumption|omega) [go_sem]
   refine xnew fun b7 n_b7 h_b7 => ?_
   try simp only [Apart] at n_b7
   have e_7m : bm ≠ b7 := n_b7.1
   have e_7p : bp ≠ b7 := n_b7.2.1
   have f7m : NeB b7 bm := Ne.symm e_7m
   have f7p : NeB b7 bp := Ne.symm e_7p
   have fmp : NeB bm bp := Ne.symm e_pm
   have e_7o : apB om b7 := by
    cases om with
    | none => trivial
    | some p => exact of_apart n_b7.2.2 ⟨p.1, 89, ((fullG k).founders.map (memF (fullG k).par)).flatMap memC, p.2 * 6⟩ List.mem_cons_self
   clear n_b7 e_7m e_7p e_pm n_b5
   simp -dsimp -implicitDefEqProofs (disch := first|with_reducible assumption|omega) [go_sem]
   obtain ⟨R, eR⟩ : ∃ R, R = oent 89 6 om (((fullG k).founders.map (memF (fullG k).par)).flatMap memC) (gB b5 (.slice oa 64 oc) (.slice fa2 k fc2) :: L) := ⟨_, rfl⟩
   refine xloop (γ := Nat × Option (Nat × Nat)) (0, none) (fun x => x.1 ≤ N ∧ okO x.2 (64 * x.1) ∧ apO x.2 (gz b7 :: fM bm :: fP bp cp 0 :: R) h4)
    (fun x => [(65, .int .i64 x.1), (64, .int .i64 N), (7, .pointer (some ⟨b7, 0, none⟩)), (1, .int .i64 N), (0, .int .i64 k)])
    (fun x => fO b7 bm bp cp k ma mc R x.2 (64 * x.1)) (fun _ => h4) (fun x => N - x.1) ?_ ?_ ?_ ?_
   ·exact ⟨Nat.zero_le _, rfl, trivial⟩
   ·simp [Ent, List.lookup, xEnv]
   ·simp only [Nat.mul_zero]
    rw [fO, fP, purF_zero, eR]
    first
    | exact Drop.refl _ _
    | (rw [oent_some, Nat.mul_one]; exact Drop.refl _ _)
    | (simp only [oent_some, Nat.mul_one]; exact Drop.refl _ _)
   rintro ⟨t, od⟩ ⟨t1, t2, t3⟩
   simp only at t1 t2 t3 ⊢
   by_cases c7 : t < N
   ·simp -dsimp -implicitDefEqProofs (disch := first|with_reducible assumption|omega) [go_sem]
    refine xloop (γ := Nat × Option (Nat × Nat)) (0, od) (fun x => x.1 ≤ 64 ∧ okO x.2 (64 * t + x.1) ∧ apO x.2 (gz b7 :: fM bm :: fP bp cp 0 :: R) h4)
     (fun x => [(68, .int .i64 x.1), (9, .int .i64 t), (65, .int .i64 t), (64, .int .i64 N), (7, .pointer (some ⟨b7, 0, none⟩)), (1, .int .i64 N), (0, .int .i64 k)])
     (fun x => fO b7 bm bp cp k ma mc R x.2 (64 * t + x.1)) (fun _ => h4) (fun x => 64 - x.1) ?_ ?_ ?_ ?_
    ·exact ⟨Nat.zero_le _, t2, t3⟩
    ·simp [Ent, List.lookup, xEnv]
    ·exact Drop.refl _ _
    rintro ⟨a, oi⟩ ⟨u1, u2, u3⟩
    simp only at u1 u2 u3 ⊢
    have w_m : apB oi bm := apO.head (apO_tail u3)
    have w_p : apB oi bp := apO.head (apO_tail (apO_tail u3))
    obtain ⟨da, dc, ed, _⟩ := ovs_open u2
    by_cases c8 : a < 64
    ·have hat : at0 (purF (64 * t + a)) a = 1125899906842624 - 8796093022208 * (t : Int) := by
      rw [purF_at c8]
      have : (64 * t + a + 63 - a) / 64 = t := by omega
      rw [this]
     have hpl := purF_len (64 * t + a)
     simp -dsimp -implicitDefEqProofs (disch := first|with_reducible assumption|omega) [go_sem, xFind_oent w_m, xFind_oent w_p, xNth_ints, hat]
     have hset : ((purF (64 * t + a)).map (Value.int .u64)).set a (.int .u64 (1125899906842624 - 8796093022208 * (t : Int) - 8796093022208)) = (purF (64 * t + a + 1)).map (.int .u64) := by
      rw [purF_succ, show (64 * t + a) % 64 = a by omega, hat, List.map_set]
     have hep : (fullS k 0).ep = 1073741724 := rfl
     simp -dsimp -implicitDefEqProofs (disch := first|with_reducible assumption|omega) [go_sem, xSet_oent w_m, xSet_oent w_p]
     refine ⟨by omega, ?_⟩
     rw [hset]
     simp -dsimp -implicitDefEqProofs (disch := first|with_reducible assumption|omega) [go_sem, hep]
     refine xnew fun b9 n_b9 h_b9 => ?_
     try simp only [Apart] at n_b9
     simp -dsimp -implicitDefEqProofs (disch := first|with_reducible assumption|omega) [go_sem, hep]
     refine xappend (t := 36) (e := 46) (sz := 3) (bytes := 24) (by kernel_rfl) tI_46 rfl rfl rfl rfl (by decide) [_, _] (fM bm :: fP bp cp (64 * t + a + 1) :: R) oi (64 * t + a) ((dueF (64 * t + a)).flatMap dueC) u2 (by rw [flatG_len dueC_len, dueF_len]) (Src.own (b := b9) (t := 46) (cap := 3) List.mem_cons_self) (m := 1) (news := [.int .i64 a, .int .i64 (1073741724 + (t : Int)), .int .u64 8796093022208]) rfl (by intro u hu; simp only [List.mem_cons, List.not_mem_nil, or_false] at hu; rcases hu with rfl | rfl | rfl <;> rfl) (by simp [maxLen]; omega) (by omega) ?_
     intro o' j1 j2 j3
     simp only [List.cons_append, List.nil_append] at j2 ⊢
     obtain ⟨oa2, oc2, eo2, _⟩ := ovs_open j1
     rw [eo2]
     simp -dsimp -implicitDefEqProofs (disch := first|with_reducible assumption|omega) [go_sem]
     refine ⟨a + 1, o', ⟨by omega, j1, apO_headsF (apO_tail j2)⟩, by omega, by simp [Ent, List.lookup], ?_⟩
     have e9 : dueC ⟨(((64 * t + a) % 64 : Nat) : Int), 1073741724 + (((64 * t + a) / 64 : Nat) : Int), 8796093022208⟩ = [.int .i64 a, .int .i64 (1073741724 + (t : Int)), .int .u64 8796093022208] := by
      rw [show (64 * t + a) % 64 = a by omega, show (64 * t + a) / 64 = t by omega]; rfl
     rw [fO, fB, fV, show 64 * t + (a + 1) = 64 * t + a + 1 by omega, ← eo2, dueF_succ, List.flatMap_append, List.flatMap_cons, List.flatMap_nil, List.append_nil, e9]
     exact Drop.tail _ _ _
    ·have hae : a = 64 := by omega
     subst hae
     simp -dsimp -implicitDefEqProofs (disch := first|with_reducible assumption|omega) [go_sem]
     have e64 : 64 * (t + 1) = 64 * t + 64 := by omega
     exact ⟨t + 1, oi, ⟨by omega, by rw [e64]; exact u2, u3⟩, by omega, by simp [Ent, List.lookup], by rw [e64]; exact Drop.refl _ _⟩
   ·have hte : t = N := by omega
    subst hte
    obtain ⟨da, dc, ed, _⟩ := ovs_open t2
    have w_7 : apB od b7 := apO.head t3
    have w_m : apB od bm := apO.head (apO_tail t3)
    have w_p : apB od bp := apO.head (apO_tail (apO_tail t3))
    simp -dsimp -implicitDefEqProofs (disch := first|with_reducible assumption|omega) [go_sem]
    rw [ed]
    subst eR
    rw [show fO b7 bm bp cp k ma mc (oent 89 6 om (((fullG k).founders.map (memF (fullG k).par)).flatMap memC) (gB b5 (.slice oa 64 oc) (.slice fa2 k fc2) :: L)) od (64 * t) = fB b7 bm bp cp k ma mc od (64 * t) :: oent 46 3 od ((dueF (64 * t)).flatMap dueC) (oent 5 1 (some (bm, 16)) (List.replicate 16 (.int .u8 0)) (oent 23 1 (some (bp, cp)) ((purF (64 * t)).map (.int .u64)) (oent 89 6 om (((fullG k).founders.map (memF (fullG k).par)).flatMap memC) (gB b5 (.slice oa 64 oc) (.slice fa2 k fc2) :: L)))) from by simp only [fO, fM, fP, oent_some, Nat.mul_one]]
    have two1 := two_ofF (e1 := 46) (s1 := 3) (x1 := (dueF (64 * t)).flatMap dueC) (o1 := od) (M := [gz b7]) (o2 := some (bm, 16)) (e2 := 5) (s2 := 1) (x2 := List.replicate 16 (.int .u8 0)) (h := h4) t3 (fun b c e => by cases e; exact h4m)
    have n_7m : bm ≠ b7 := Ne.symm f7m
    have n_7p : bp ≠ b7 := Ne.symm f7p
    have n_mp : bm ≠ bp := fmp
    refine call_pub2F (x := fB b7 bm bp cp k ma mc od (64 * t)) (n1 := 64 * t) (n2 := 16) (o1 := od) (o2 := some (bm, 16)) (e1 := 46) (sz1 := 3) (e2 := 5) (sz2 := 1) (xs1 := (dueF (64 * t)).flatMap dueC) (xs2 := List.replicate 16 (.int .u8 0)) t2 (by rw [flatG_len dueC_len, dueF_len]) (by omega) ⟨Nat.le_refl _, by simp [maxLen]⟩ rfl (by decide) two1 ⟨w_7, n_7m⟩ h_b7 fun h5 le5 sd sk h5b keep5 => ?_
    have h5p : h5 bp = noC := keep5 bp h4p w_p n_mp
    have h5o : ∀ b c, om = some (b, c) → h5 b = noC := fun b c e => by
     subst e
     refine keep5 b a1.2 ?_ ?_
     ·cases od with
      | none => trivial
      | some p => exact Ne.symm (of_apart t3.1 ⟨b, 89, ((fullG k).founders.map (memF (fullG k).par)).flatMap memC, c * 6⟩ (List.mem_cons_of_mem _ (List.mem_cons_of_mem _ (List.mem_cons_of_mem _ List.mem_cons_self))))
     ·exact Ne.symm (of_apart a3 ⟨b, 89, ((fullG k).founders.map (memF (fullG k).par)).flatMap memC, c * 6⟩ (List.mem_cons_of_mem _ List.mem_cons_self))
    have two2 := two_ofF (e1 := 23) (s1 := 1) (x1 := (purF (64 * t)).map (.int .u64)) (o1 := some (bp, cp)) (M := []) (L := gB b5 (.slice oa 64 oc) (.slice fa2 k fc2) :: L) (o2 := om) (e2 := 89) (s2 := 6) (x2 := ((fullG k).founders.map (memF (fullG k).par)).flatMap memC) (h := h5) ⟨a2.1, h5p⟩ h5o
    refine call_pub2F (x := fB b7 bm bp cp k ma mc od (64 * t)) (n1 := 64) (n2 := k) (o1 := some (bp, cp)) (o2 := om) (e1 := 23) (sz1 := 1) (e2 := 89) (sz2 := 6) (xs1 := (purF (64 * t)).map (.int .u64)) (xs2 := ((fullG k).founders.map (memF (fullG k).par)).flatMap memC) ok1 (by rw [List.length_map, purF_len]) (by decide) ok2 (by rw [flatG_len memC_len, List.length_map, lF]) (by omega) two2 ⟨n_7p, e_7o⟩ h5b fun h6 le6 sp sm h6b _ => ?_
    rw [em] at sm
    rw [ed] at sd
    have hN : t ≤ 50 := by omega
    have hs := full_st (bp := bp) (cp := cp) (bm := bm) (k := k) (q := 64 * t) (ma := ma) (mc := mc) (da := da) (dc := dc) (by omega) (by omega) sp sm (sd.up le6) (sk.up le6)
    have hf := full_fits (m := k) (k := 64 * t) (by omega) (by omega)
    have hdl : (fullS k (64 * t)).dues.length = 64 * t := dueF_len _
    have hml : (fullS k (64 * t)).members.length = k := full_len k
    have few : FewS (fullS k (64 * t)) := ⟨by show (purF (64 * t)).length ≤ _; rw [purF_len]; omega, by rw [hml]; omega, Nat.zero_le _, Nat.zero_le _, Nat.zero_le _, by rw [hdl]; omega, Nat.zero_le _, Nat.zero_le _⟩
    have hdec : decS (encS (fullS k (64 * t))) = (fullS k (64 * t), 0) := decS_enc (stp_of hs (by rw [hdl]; omega) hf) hf (encS_byte hs)
    refine Spec.ap (ienc2_any (s := fullS k (64 * t)) ⟨.slice (some ⟨bp, 0, none⟩) 64 cp, .slice ma k mc, .slice none 0 0, .slice none 0 0, .slice none 0 0, .slice da (64 * t) dc, .slice none 0 0, .slice (some ⟨bm, 0, none⟩) 16 16, .slice none 0 0⟩ hs few (fun _ => stw_of hs (by rw [hdl]; omega) hf) (encS_byte hs) fun h7 r le7 hr _ ap => ?_)
    obtain ⟨ir, il⟩ := hr hf
    simp only [Ap] at ap
    obtain ⟨a77, _⟩ := ap
    have ir0 := ir
    obtain ⟨ra, rc, rfl, _⟩ := ir0.open
    rw [hf]
    simp -dsimp -implicitDefEqProofs (disch := first|with_reducible assumption|omega) [go_sem]
    refine Spec.ap (idec_any _ ir (by omega) fun h8 w le8 id ap => ?_)
    simp only [Ap] at ap
    obtain ⟨a87, _⟩ := ap
    rw [hdec] at id ⊢
    simp only at id ⊢
    obtain ⟨S, eS⟩ : ∃ S, S = fullS k (64 * t) := ⟨_, rfl⟩
    rw [← eS] at id hdl hml il ⊢
    obtain ⟨pa2, pc2, ma2, mc2, ea2, ec2, xa2, xc2, oa2, oc2, da2, dc2, ta2, tc2, ka2, kc2, ra2, rc2, rfl⟩ := id.slices
    simp -dsimp -implicitDefEqProofs (disch := first|with_reducible assumption|omega) [go_sem]
    refine xnew fun b13 n_b13 h_b13 => ?_
    try simp only [Apart] at n_b13
    simp -dsimp -implicitDefEqProofs (disch := first|with_reducible assumption|omega) [go_sem, hdl, hml]
    exact fin_tail (fin_tail (fin_tail (fin_here (hk h8 (le1.trans (le2.trans (le3.trans (le4.trans (le5.trans (le6.trans (le7.trans le8)))))))))))
end Go.X

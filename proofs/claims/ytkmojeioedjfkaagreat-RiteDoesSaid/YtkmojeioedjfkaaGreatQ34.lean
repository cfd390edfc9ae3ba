/- Lemmas and contracts for a statement about the given program. Conditions: as each says. -/
import Derived.Test.YtkmojeioedjfkaaGreatQ29
import Derived.Test.YtkmojeioedjfkaaGreatQ31
import Derived.Test.YtkmojeioedjfkaaGreatQ33
set_option linter.unusedVariables false
set_option linter.unusedSimpArgs false
set_option maxHeartbeats 12800000
set_option maxRecDepth 20000
namespace Go.X
open Go.RowKit Go.Proofs Go.Bl
variable {L : Own} {h : PH} {K : PK}
theorem rown23_any {l : List QM} (v : Value) (hv : Recs motC 33 h v l) (hm : MotsOk h l) (hl : l.length ≤ 1000) (hk : ∀ o, okO o l.length → apO o L h → K (ovs o l.length) (oent 146 33 o (l.flatMap motC) L) h) : Spec Tryz.prog 141 [v] L h K := by
 have hx := hv
 obtain ⟨a, ca, rfl, hna, hca, h0, _⟩ := hx.open
 refine x_enter Tryz.func141 rfl (rs := [_]) rfl rfl mixed (by kernel_rfl) rfl rfl ?_
 simp -dsimp -implicitDefEqProofs (disch := first|with_reducible assumption|omega) [go_sem]
 refine xappend (t := 61) (e := 146) (sz := 33) (bytes := 296) (by kernel_rfl) tI_146 rfl rfl rfl rfl (by decide) [] L none 0 [] rfl rfl (Src.known hx.s) (news := l.flatMap motC) (flatG_len motC_len l) (fun u hu => by obtain ⟨a, hq, hb⟩ := List.mem_flatMap.1 hu; exact motC_one (hm a hq) u hb) (by simp [maxLen]; omega) (by omega) ?_
 intro o' j1 j2 j3
 simp only [Nat.zero_add, List.nil_append] at j1 j2 ⊢
 simp -dsimp -implicitDefEqProofs (disch := first|with_reducible assumption|omega) [go_sem]
 exact fin_here (hk o' j1 j2)
abbrev Z16 : List Value := List.replicate 16 (.int .u8 0)
theorem pub2 {h : PH} {bY bN : Nat} (ne : bY ≠ bN) (hY : h bY = noC) (hN : h bN = noC) :
  PH.le h (pub (pub h bY Z16) bN Z16) ∧ Ints (pub (pub h bY Z16) bN Z16) .u8 (.slice (some ⟨bY, 0, none⟩) 16 16) (List.replicate 16 0) ∧ Ints (pub (pub h bY Z16) bN Z16) .u8 (.slice (some ⟨bN, 0, none⟩) 16 16) (List.replicate 16 0) ∧ ∀ b, b ≠ bY → b ≠ bN → h b = noC → pub (pub h bY Z16) bN Z16 b = noC := by
 have l1 := pub_le hY Z16
 have hN' : pub h bY Z16 bN = noC := by funext o; simp [pub, Ne.symm ne, hN, noC]
 have l2 := pub_le hN' Z16
 refine ⟨l1.trans l2, (zeros_ints (pub_sl (n := 16) (o := some (bY, 16)) ⟨Nat.le_refl _, by simp [maxLen]⟩ rfl (by decide))).up l2, zeros_ints (pub_sl (n := 16) (o := some (bN, 16)) ⟨Nat.le_refl _, by simp [maxLen]⟩ rfl (by decide)), fun b n1 n2 hb => by funext o; simp [pub, n1, n2, hb, noC]⟩
theorem drop2 {h : PH} {bY bN : Nat} {M x y : Blk} {A L : Own} (hp : A.Perm (⟨bY, 5, Z16, 16⟩ :: ⟨bN, 5, Z16, 16⟩ :: M :: x :: y :: L)) : Drop A h (M :: L) (pub (pub h bY Z16) bN Z16) :=
 (Drop.perm h hp).trans ((pub_drop bY 5 16 _ _ h (by decide)).trans ((pub_drop bN 5 16 _ _ _ (by decide)).trans (Drop.sub (.cons_cons _ (.cons _ (.cons _ (List.Sublist.refl _)))))))
theorem atO_drop (ms : List MotD) {j : Nat} (hj : j < ms.length) : (ms.drop j).findIdx overB = if overB (gr zeroMot ms j) then 0 else (ms.drop (j + 1)).findIdx overB + 1 := by
 rw [List.drop_eq_getElem_cons hj, List.findIdx_cons, gr_lt hj]
 cases overB ms[j] <;> simp
theorem ropen_any {ql : List QM} {ms : List MotD} {p : ParD} {d : DeedD} (v bv : Value) (ok : ParOk p) (hv : Recs motC 33 h v ql) (hq : ql.map (fun x => x.2.2) = ms) (hm : MotsOk h ql) (hl : ql.length ≤ 1000) (hd : IsDeed h bv d) (ep : Int)
  (hk : ∀ h' r ql', PH.le h h' → Recs motC 33 h' r ql' → ql'.map (fun x => x.2.2) = (openP p ms d ep).1 → MotsOk h' ql' → K (.tuple #[r, .int .i64 (openP p ms d ep).2.1, .int .i64 (openP p ms d ep).2.2]) L h') :
  Spec Tryz.prog 74 [parV p, v, deedV d bv, .int .i64 ep] L h K := by
 have hql : ql.length = ms.length := by rw [← hq, List.length_map]
 have hv0 := hv
 obtain ⟨va, vc, rfl, _⟩ := hv.open
 obtain ⟨x1, y1, rfl, _⟩ := hd.i.open
 have bad : ∀ h' i e, PH.le h h' → openP p ms d ep = ([], i, e) → K (.tuple #[.slice none 0 0, .int .i64 i, .int .i64 e]) L h' := fun h' i e le eq => by
  have := hk h' (.slice none 0 0) [] le (Recs.nil motC_len h') (by rw [eq]; rfl) (fun x hx => by cases hx)
  rw [eq] at this
  exact this
 refine x_enter Tryz.func74 rfl (rs := [_, _, _]) rfl rfl mixed (by kernel_rfl) rfl rfl ?_
 simp -dsimp -implicitDefEqProofs (disch := first|with_reducible assumption|omega) [go_sem]
 refine xnew fun b4 n_b4 h_b4 => ?_
 try simp only [Apart] at n_b4
 simp -dsimp -implicitDefEqProofs (disch := first|with_reducible assumption|omega) [go_sem]
 refine xnew fun b6 n_b6 h_b6 => ?_
 try simp only [Apart] at n_b6
 simp -dsimp -implicitDefEqProofs (disch := first|with_reducible assumption|omega) [go_sem]
 refine Spec.ap (right7_any p ok fun h0 le0 ap => ?_)
 simp only [Ap] at ap
 obtain ⟨a06, a04, _⟩ := ap
 cases q1 : parR p with
 | false =>
  have := bad h0 0 70 le0 (by rw [openP, q1]; rfl)
  simp -dsimp -implicitDefEqProofs (disch := first|with_reducible assumption|omega) [go_sem]
  exact fin_tail (fin_tail (fin_here this))
 | true =>
 by_cases q2 : d.kind = 6
 ·simp -dsimp -implicitDefEqProofs (disch := first|with_reducible assumption|omega) [go_sem]
  refine Spec.ap (right8_any _ (hd.up le0) fun h1 le1 ap => ?_)
  simp only [Ap] at ap
  replace le1 := le0.trans le1
  obtain ⟨a6, a4, _⟩ := ap
  cases q3 : rightD d with
  | false =>
   have := bad h1 0 80 le1 (by rw [openP, q1, q3, Bool.and_false]; rfl)
   simp -dsimp -implicitDefEqProofs (disch := first|with_reducible assumption|omega) [go_sem]
   exact fin_tail (fin_tail (fin_here this))
  | true =>
  simp -dsimp -implicitDefEqProofs (disch := first|with_reducible assumption|omega) [go_sem]
  refine in23_any _ _ _ ?_
  cases q4 : wi ep 0 1073741824 with
  | false =>
   have := bad h1 0 2 le1 (by rw [openP, q1, q3, q4, decide_eq_true q2]; rfl)
   simp -dsimp -implicitDefEqProofs (disch := first|with_reducible assumption|omega) [go_sem]
   exact fin_tail (fin_tail (fin_here this))
  | true =>
  have q4' := wi_iff.1 q4
  have ale := atO_le ms
  have eO : openP p ms d ep = if 31 < atO ms then ([], 0, 161) else if atO ms = ms.length then (ms ++ [openM p d ep], (atO ms : Int), 0) else (ms.set (atO ms) (openM p d ep), (atO ms : Int), 0) := by
   rw [openP, q1, q3, q4, decide_eq_true q2]; rfl
  rw [eO] at bad hk
  simp -dsimp -implicitDefEqProofs (disch := first|with_reducible assumption|omega) [go_sem]
  have hv1 := hv0.up le1
  refine xloop (γ := Nat × Nat) (ql.length, ql.length) (fun q => q.1 ≤ ql.length ∧ q.2 = q.1 + (ms.drop q.1).findIdx overB)
   (fun q => [(11, .int .i64 q.2), (12, .int .i64 ((q.1 : Int) - 1)), (1, .slice va ql.length vc), (3, .int .i64 ep), (4, .pointer (some ⟨b4, 0, none⟩)), (6, .pointer (some ⟨b6, 0, none⟩))]) (fun _ => _) (fun _ => h1) (fun q => q.1) ?_ ?_ (Drop.refl _ _) ?_
  ·exact ⟨Nat.le_refl _, by rw [hql, List.drop_length]; rfl⟩
  ·simp [Ent, List.lookup, xEnv]
  rintro ⟨j, at'⟩ ⟨k1, k2⟩
  simp only at k1 k2 ⊢
  by_cases c1 : j = 0
  ·subst c1
   have hat : at' = atO ms := by rw [k2, Nat.zero_add, List.drop_zero]; rfl
   rw [← hat] at ale bad hk
   clear k2
   simp -dsimp -implicitDefEqProofs (disch := first|with_reducible assumption|omega) [go_sem]
   by_cases c6 : 31 < at'
   ·have := bad h1 0 161 le1 (by rw [if_pos c6])
    simp -dsimp -implicitDefEqProofs (disch := first|with_reducible assumption|omega) [go_sem]
    exact fin_tail (fin_tail (fin_here this))
   rw [if_neg c6] at hk
   simp -dsimp -implicitDefEqProofs (disch := first|with_reducible assumption|omega) [go_sem]
   refine xany_cut (.tk 0 (.tk 2 (.tk 4 (.tk 6 (.tk 8 (.tk 10 (.tk 11 (.tkl 1 (.tkl 3 (.tkl 5 (.tkl 7 (.tkl 9 (.tkl 12 (.tk 13 (.or true 14 (.or true 15 (.tk 16 (.or true 17 (.or false 18 (.fin) (.nil)) (.nil))) (.or true 17 (.or true 15 (.tk 16 (.or false 18 (.fin) (.nil))) (.nil)) (.nil))) (.or true 15 (.or true 14 (.tk 16 (.or true 17 (.or false 18 (.fin) (.nil)) (.nil))) (.or true 17 (.or true 14 (.tk 16 (.or false 18 (.fin) (.nil))) (.nil)) (.nil))) (.or true 17 (.or true 14 (.or true 15 (.tk 16 (.or false 18 (.fin) (.nil))) (.nil)) (.or true 15 (.or true 14 (.tk 16 (.or false 18 (.fin) (.nil))) (.nil)) (.nil))) (.nil)))))))))))))))))) (by kernel_rfl) (by kernel_rfl) [(1, .slice va ql.length vc), (3, .int .i64 ep), (4, .pointer (some ⟨b4, 0, none⟩)), (6, .pointer (some ⟨b6, 0, none⟩)), (11, .int .i64 at')] _ (γ := Nat × QM × PH)
    (fun q => PH.le h1 q.2.2 ∧ IsMot q.2.2 q.2.1 ∧ q.2.1.2.2 = openM p d ep ∧ Apart q.1 L ∧ q.2.2 q.1 = noC)
    (fun q => [(1, .slice va ql.length vc), (11, .int .i64 at'), (13, .pointer (some ⟨q.1, 0, none⟩))])
    (fun q => ⟨q.1, 146, motC q.2.1, 33⟩ :: L) (fun q => q.2.2) (by simp [Ent, List.lookup, xEnv] <;> omega) (Drop.refl _ _) ?_ ?_
   ·have mo : MotOk (openM p d ep) := openM_ok ok hd.ok q1 q4
    have bp := openM_poll q1
    simp -dsimp -implicitDefEqProofs (disch := first|with_reducible assumption|omega) [go_sem]
    refine xpl_or ?_ ?_
    ·first | simp -dsimp -implicitDefEqProofs (disch := first|with_reducible assumption|omega) [go_sem] | skip
     refine xMS_full (e := 5) (z := .int .u8 0) (by kernel_rfl) tI_5 rfl rfl .i64 .i64 16 (by decide) (by decide) (by decide) ?_
     refine xnew fun bY n_bY h_bY => ?_
     try simp only [Apart] at n_bY
     first | refine xkp (Drop.tail _ _ _) ?_ | skip
     simp -dsimp -implicitDefEqProofs (disch := first|with_reducible assumption|omega) [go_sem]
     refine xpl_or ?_ ?_
     ·first | simp -dsimp -implicitDefEqProofs (disch := first|with_reducible assumption|omega) [go_sem] | skip
      refine xMS_full (e := 5) (z := .int .u8 0) (by kernel_rfl) tI_5 rfl rfl .i64 .i64 16 (by decide) (by decide) (by decide) ?_
      refine xnew fun bN n_bN h_bN => ?_
      try simp only [Apart] at n_bN
      first | refine xkp ((Drop.tail _ _ _).trans (Drop.tail _ _ _)) ?_ | skip
      simp -dsimp -implicitDefEqProofs (disch := first|with_reducible assumption|omega) [go_sem]
      refine xnew fun bM n_bM h_bM => ?_
      try simp only [Apart] at n_bM
      first | refine xkp ((Drop.tail _ _ _).trans ((Drop.tail _ _ _).trans (Drop.tail _ _ _))) ?_ | skip
      simp -dsimp -implicitDefEqProofs (disch := first|with_reducible assumption|omega) [go_sem]
      obtain ⟨l2, iy, in', f2⟩ := pub2 (h := h1) (bY := bY) (bN := bN) (by omega) h_bY h_bN
      exact ⟨bM, .slice (some ⟨bY, 0, none⟩) 16 16, .slice (some ⟨bN, 0, none⟩) 16 16, openM p d ep, _, ⟨l2, ⟨iy, in', mo⟩, rfl, n_bM.2.2.2.2, f2 bM (by omega) (by omega) h_bM⟩, by simp [Ent, List.lookup], drop2 ((List.Perm.swap _ _ _).trans ((List.Perm.cons _ (List.Perm.swap _ _ _)).trans (List.Perm.swap _ _ _)))⟩
     ·first | simp -dsimp -implicitDefEqProofs (disch := first|with_reducible assumption|omega) [go_sem] | skip
      refine xnew fun bM n_bM h_bM => ?_
      try simp only [Apart] at n_bM
      first | refine xkp ((Drop.tail _ _ _).trans (Drop.tail _ _ _)) ?_ | skip
      simp -dsimp -implicitDefEqProofs (disch := first|with_reducible assumption|omega) [go_sem]
      refine xMS_full (e := 5) (z := .int .u8 0) (by kernel_rfl) tI_5 rfl rfl .i64 .i64 16 (by decide) (by decide) (by decide) ?_
      refine xnew fun bN n_bN h_bN => ?_
      try simp only [Apart] at n_bN
      first | refine xkp ((Drop.tail _ _ _).trans ((Drop.tail _ _ _).trans (Drop.tail _ _ _))) ?_ | skip
      simp -dsimp -implicitDefEqProofs (disch := first|with_reducible assumption|omega) [go_sem]
      obtain ⟨l2, iy, in', f2⟩ := pub2 (h := h1) (bY := bY) (bN := bN) (by omega) h_bY h_bN
      exact ⟨bM, .slice (some ⟨bY, 0, none⟩) 16 16, .slice (some ⟨bN, 0, none⟩) 16 16, openM p d ep, _, ⟨l2, ⟨iy, in', mo⟩, rfl, n_bM.2.2.2, f2 bM (by omega) (by omega) h_bM⟩, by simp [Ent, List.lookup], drop2 ((List.Perm.cons _ (List.Perm.swap _ _ _)).trans (List.Perm.swap _ _ _))⟩
    ·first | simp -dsimp -implicitDefEqProofs (disch := first|with_reducible assumption|omega) [go_sem] | skip
     refine xpl_or ?_ ?_
     ·first | simp -dsimp -implicitDefEqProofs (disch := first|with_reducible assumption|omega) [go_sem] | skip
      refine xMS_full (e := 5) (z := .int .u8 0) (by kernel_rfl) tI_5 rfl rfl .i64 .i64 16 (by decide) (by decide) (by decide) ?_
      refine xnew fun bN n_bN h_bN => ?_
      try simp only [Apart] at n_bN
      first | refine xkp (Drop.tail _ _ _) ?_ | skip
      simp -dsimp -implicitDefEqProofs (disch := first|with_reducible assumption|omega) [go_sem]
      refine xpl_or ?_ ?_
      ·first | simp -dsimp -implicitDefEqProofs (disch := first|with_reducible assumption|omega) [go_sem] | skip
       refine xMS_full (e := 5) (z := .int .u8 0) (by kernel_rfl) tI_5 rfl rfl .i64 .i64 16 (by decide) (by decide) (by decide) ?_
       refine xnew fun bY n_bY h_bY => ?_
       try simp only [Apart] at n_bY
       first | refine xkp ((Drop.tail _ _ _).trans (Drop.tail _ _ _)) ?_ | skip
       simp -dsimp -implicitDefEqProofs (disch := first|with_reducible assumption|omega) [go_sem]
       refine xnew fun bM n_bM h_bM => ?_
       try simp only [Apart] at n_bM
       first | refine xkp ((Drop.tail _ _ _).trans ((Drop.tail _ _ _).trans (Drop.tail _ _ _))) ?_ | skip
       simp -dsimp -implicitDefEqProofs (disch := first|with_reducible assumption|omega) [go_sem]
       obtain ⟨l2, iy, in', f2⟩ := pub2 (h := h1) (bY := bY) (bN := bN) (by omega) h_bY h_bN
       exact ⟨bM, .slice (some ⟨bY, 0, none⟩) 16 16, .slice (some ⟨bN, 0, none⟩) 16 16, openM p d ep, _, ⟨l2, ⟨iy, in', mo⟩, rfl, n_bM.2.2.2.2, f2 bM (by omega) (by omega) h_bM⟩, by simp [Ent, List.lookup], drop2 ((List.Perm.swap _ _ _).trans (List.Perm.cons _ (List.Perm.swap _ _ _)))⟩
      ·first | simp -dsimp -implicitDefEqProofs (disch := first|with_reducible assumption|omega) [go_sem] | skip
       refine xnew fun bM n_bM h_bM => ?_
       try simp only [Apart] at n_bM
       first | refine xkp ((Drop.tail _ _ _).trans (Drop.tail _ _ _)) ?_ | skip
       simp -dsimp -implicitDefEqProofs (disch := first|with_reducible assumption|omega) [go_sem]
       refine xMS_full (e := 5) (z := .int .u8 0) (by kernel_rfl) tI_5 rfl rfl .i64 .i64 16 (by decide) (by decide) (by decide) ?_
       refine xnew fun bY n_bY h_bY => ?_
       try simp only [Apart] at n_bY
       first | refine xkp ((Drop.tail _ _ _).trans ((Drop.tail _ _ _).trans (Drop.tail _ _ _))) ?_ | skip
       simp -dsimp -implicitDefEqProofs (disch := first|with_reducible assumption|omega) [go_sem]
       obtain ⟨l2, iy, in', f2⟩ := pub2 (h := h1) (bY := bY) (bN := bN) (by omega) h_bY h_bN
       exact ⟨bM, .slice (some ⟨bY, 0, none⟩) 16 16, .slice (some ⟨bN, 0, none⟩) 16 16, openM p d ep, _, ⟨l2, ⟨iy, in', mo⟩, rfl, n_bM.2.2.2, f2 bM (by omega) (by omega) h_bM⟩, by simp [Ent, List.lookup], drop2 (List.Perm.cons _ (List.Perm.swap _ _ _))⟩
     ·first | simp -dsimp -implicitDefEqProofs (disch := first|with_reducible assumption|omega) [go_sem] | skip
      refine xnew fun bM n_bM h_bM => ?_
      try simp only [Apart] at n_bM
      first | refine xkp (Drop.tail _ _ _) ?_ | skip
      simp -dsimp -implicitDefEqProofs (disch := first|with_reducible assumption|omega) [go_sem]
      refine xpl_or ?_ ?_
      ·first | simp -dsimp -implicitDefEqProofs (disch := first|with_reducible assumption|omega) [go_sem] | skip
       refine xMS_full (e := 5) (z := .int .u8 0) (by kernel_rfl) tI_5 rfl rfl .i64 .i64 16 (by decide) (by decide) (by decide) ?_
       refine xnew fun bY n_bY h_bY => ?_
       try simp only [Apart] at n_bY
       first | refine xkp ((Drop.tail _ _ _).trans (Drop.tail _ _ _)) ?_ | skip
       simp -dsimp -implicitDefEqProofs (disch := first|with_reducible assumption|omega) [go_sem]
       refine xMS_full (e := 5) (z := .int .u8 0) (by kernel_rfl) tI_5 rfl rfl .i64 .i64 16 (by decide) (by decide) (by decide) ?_
       refine xnew fun bN n_bN h_bN => ?_
       try simp only [Apart] at n_bN
       first | refine xkp ((Drop.tail _ _ _).trans ((Drop.tail _ _ _).trans (Drop.tail _ _ _))) ?_ | skip
       simp -dsimp -implicitDefEqProofs (disch := first|with_reducible assumption|omega) [go_sem]
       obtain ⟨l2, iy, in', f2⟩ := pub2 (h := h1) (bY := bY) (bN := bN) (by omega) h_bY h_bN
       exact ⟨bM, .slice (some ⟨bY, 0, none⟩) 16 16, .slice (some ⟨bN, 0, none⟩) 16 16, openM p d ep, _, ⟨l2, ⟨iy, in', mo⟩, rfl, n_bM.2.2, f2 bM (by omega) (by omega) h_bM⟩, by simp [Ent, List.lookup], drop2 (List.Perm.swap _ _ _)⟩
      ·first | simp -dsimp -implicitDefEqProofs (disch := first|with_reducible assumption|omega) [go_sem] | skip
       refine xMS_full (e := 5) (z := .int .u8 0) (by kernel_rfl) tI_5 rfl rfl .i64 .i64 16 (by decide) (by decide) (by decide) ?_
       refine xnew fun bN n_bN h_bN => ?_
       try simp only [Apart] at n_bN
       first | refine xkp ((Drop.tail _ _ _).trans (Drop.tail _ _ _)) ?_ | skip
       simp -dsimp -implicitDefEqProofs (disch := first|with_reducible assumption|omega) [go_sem]
       refine xMS_full (e := 5) (z := .int .u8 0) (by kernel_rfl) tI_5 rfl rfl .i64 .i64 16 (by decide) (by decide) (by decide) ?_
       refine xnew fun bY n_bY h_bY => ?_
       try simp only [Apart] at n_bY
       first | refine xkp ((Drop.tail _ _ _).trans ((Drop.tail _ _ _).trans (Drop.tail _ _ _))) ?_ | skip
       simp -dsimp -implicitDefEqProofs (disch := first|with_reducible assumption|omega) [go_sem]
       obtain ⟨l2, iy, in', f2⟩ := pub2 (h := h1) (bY := bY) (bN := bN) (by omega) h_bY h_bN
       exact ⟨bM, .slice (some ⟨bY, 0, none⟩) 16 16, .slice (some ⟨bN, 0, none⟩) 16 16, openM p d ep, _, ⟨l2, ⟨iy, in', mo⟩, rfl, n_bM.2.2, f2 bM (by omega) (by omega) h_bM⟩, by simp [Ent, List.lookup], drop2 (List.Perm.refl _)⟩
   ·rintro ⟨b12, qm, h4⟩ ⟨le4, im, eM, n12, hb12⟩
    simp only at le4 im eM n12 hb12 ⊢
    have le04 := le1.trans le4
    simp -dsimp -implicitDefEqProofs (disch := first|with_reducible assumption|omega) [go_sem]
    refine rown23_any _ (hv0.up le04) (fun x hx => (hm x hx).up le04) hl fun o oko apo => ?_
    obtain ⟨vy, vn, md⟩ := qm
    simp only at eM
    subst eM
    rw [hql] at oko ⊢
    obtain ⟨mta, mtc, emt, _⟩ := ovs_open oko
    have m12 : apB o b12 := apo.head
    have hfl : (ql.flatMap motC).length = ms.length * 33 := by rw [flatG_len motC_len, hql]
    by_cases c5 : at' = ms.length
    ·rw [if_pos c5] at hk
     rw [emt]
     simp -dsimp -implicitDefEqProofs (disch := first|with_reducible assumption|omega) [go_sem, xFind_oent m12, motC, parC, List.cons_append, List.nil_append]
     refine xnew fun bx n_bx h_bx => ?_
     try simp only [Apart] at n_bx
     simp -dsimp -implicitDefEqProofs (disch := first|with_reducible assumption|omega) [go_sem]
     rw [← emt]
     refine xappend (t := 61) (e := 146) (sz := 33) (bytes := 296) (by kernel_rfl) tI_146 rfl rfl rfl rfl (by decide) [_] _ o ms.length (ql.flatMap motC) oko hfl (Src.own (b := bx) List.mem_cons_self) (m := 1) (news := motC (vy, vn, openM p d ep)) (by rfl) (motC_one im) (by simp [maxLen]; omega) (by omega) ?_
     intro o' j1 j2 j3
     simp only [List.cons_append, List.nil_append] at j2 ⊢
     simp -dsimp -implicitDefEqProofs (disch := first|with_reducible assumption|omega) [go_sem]
     refine fin_tail (fin_pub (e := 146) (sz := 33) (n := ms.length + 1) j1 (by rw [List.length_append, hfl]; show ms.length * 33 + 33 = (ms.length + 1) * 33; omega) (by omega) (apO_tail j2) fun h6 le6 sl => ?_)
     have le06 := le04.trans le6
     refine fin_tail (fin_here (hk h6 _ (ql ++ [(vy, vn, openM p d ep)]) le06 ?_ ?_ ?_))
     ·have := Recs.pub (f := motC) (w := 33) (l := ql ++ [(vy, vn, openM p d ep)]) (o := o') motC_len (by rw [List.length_append, hql]; simpa using sl)
      rwa [List.length_append, hql] at this
     ·simp [hq]
     ·intro x hx
      rcases List.mem_append.1 hx with hx | hx
      ·exact (hm x hx).up le06
      ·rw [List.mem_singleton.1 hx]
       exact im.up le6
    ·rw [if_neg c5] at hk
     have c5' : at' < ms.length := by omega
     obtain ⟨bo, co, rfl⟩ : ∃ bt cap, o = some (bt, cap) := by
      cases o with
      | none => have : ms.length = 0 := oko; omega
      | some p => exact ⟨_, _, rfl⟩
     have n12' : bo ≠ b12 := m12
     have hbo : h4 bo = noC := apo.2
     simp -dsimp -implicitDefEqProofs (disch := first|with_reducible assumption|omega) [go_sem, oent_some, motC, parC, List.cons_append, List.nil_append]
     have hfl2 : (ql.map fun a => (motC a).length).sum = ms.length * 33 := by rw [← List.length_flatMap, hfl]
     have hk33 := flat_lt (n := ms.length) (w := 33) c5' (m := 32) (by decide)
     rw [oent_some]
     simp only [ovs]
     simp -dsimp -implicitDefEqProofs (disch := first|with_reducible assumption|omega) [go_sem]
     refine ⟨by omega, ⟨slice_one im.y, slice_one im.n⟩, ?_⟩
     refine finCs (flatG_wrK motC_len ql (i := at') (by omega) (vy, vn, openM p d ep)) ?_
     refine fin_pub (e := 146) (sz := 33) (n := ms.length) (o := some (bo, co)) oko (by rw [flatG_len motC_len, List.length_set, hql]) (by omega) apo fun h6 le6 sl => fin_tail (fin_here ?_)
     have le06 := le04.trans le6
     refine hk h6 _ (ql.set at' (vy, vn, openM p d ep)) le06 ?_ ?_ ?_
     ·have := Recs.pub (f := motC) (w := 33) (l := ql.set at' (vy, vn, openM p d ep)) (o := some (bo, co)) motC_len (by rw [List.length_set, hql]; exact sl)
      rwa [List.length_set, hql] at this
     ·rw [List.map_set, hq]
     ·intro x hx
      rcases List.mem_or_eq_of_mem_set hx with hx | rfl
      ·exact (hm x hx).up le06
      ·exact im.up le6
  ·obtain ⟨j', rfl⟩ : ∃ j', j = j' + 1 := ⟨j - 1, by omega⟩
   have hj : j' < ql.length := by omega
   have hdr := atO_drop ms (j := j') (by omega)
   have eg : gr zeroMot ms j' = (gr zeroQM ql j').2.2 := by
    rw [gr_lt (by omega), gr_lt hj]
    subst hq
    simp
   rw [eg] at hdr
   have g30 : ∀ (L : Own) (K : Value → Prop) (t : Tok K), xCell L h1 (elem va (j' * 33 + 30)) 0 K t = K (.int .i64 (gr zeroQM ql j').2.2.state) := fun L K t => xCell_elem (j := 0) (by
    have := hv1.cell (z := zeroQM) hj (m := 30) (by decide)
    rw [Nat.add_zero, this]; rfl) K
   simp -dsimp -implicitDefEqProofs (disch := first|with_reducible assumption|omega) [go_sem, ↓idxR zeroQM (by decide) hv1, g30]
   by_cases c2 : (gr zeroQM ql j').2.2.state = 3
   ·have e3 : overB (gr zeroQM ql j').2.2 = true := by simp [overB, c2]
    rw [e3, if_pos rfl] at hdr
    simp -dsimp -implicitDefEqProofs (disch := first|with_reducible assumption|omega) [go_sem, ↓idxR zeroQM (by decide) hv1, g30]
    exact ⟨j', j', ⟨by omega, by omega⟩, by omega, by simp [Ent, List.lookup] <;> omega, Drop.refl _ _⟩
   ·by_cases c3 : (gr zeroQM ql j').2.2.state = 4
    ·have e3 : overB (gr zeroQM ql j').2.2 = true := by simp [overB, c3]
     rw [e3, if_pos rfl] at hdr
     simp -dsimp -implicitDefEqProofs (disch := first|with_reducible assumption|omega) [go_sem, ↓idxR zeroQM (by decide) hv1, g30]
     exact ⟨j', j', ⟨by omega, by omega⟩, by omega, by simp [Ent, List.lookup] <;> omega, Drop.refl _ _⟩
    ·have e3 : overB (gr zeroQM ql j').2.2 = false := by simp [overB, c2, c3]
     rw [e3, if_neg (by decide)] at hdr
     simp -dsimp -implicitDefEqProofs (disch := first|with_reducible assumption|omega) [go_sem, ↓idxR zeroQM (by decide) hv1, g30]
     exact ⟨j', at', ⟨by omega, by omega⟩, by omega, by simp [Ent, List.lookup] <;> omega, Drop.refl _ _⟩
 ·have := bad h0 0 80 le0 (by rw [openP, q1, decide_eq_false q2, Bool.false_and]; rfl)
  simp -dsimp -implicitDefEqProofs (disch := first|with_reducible assumption|omega) [go_sem]
  exact fin_tail (fin_tail (fin_here this))
theorem with23_any {xs : List Int} (v : Value) (more : Int) (ha : Ints h .u8 v xs) (hl : xs.length ≤ 100) (h0 : 0 ≤ more) (h1 : more / 8 < (xs.length : Int))
  (hk : ∀ h' r, PH.le h h' → Ints h' .u8 r (setB xs more) → K r L h') :
  Spec Tryz.prog 142 [v, .int .i64 more] L h K := by
 have ha0 := ha
 obtain ⟨xa, xc, rfl, _⟩ := ha.open
 have bx := ha0.byte
 refine x_enter Tryz.func142 rfl (rs := [_]) rfl rfl mixed (by kernel_rfl) rfl rfl ?_
 simp -dsimp -implicitDefEqProofs (disch := first|with_reducible assumption|omega) [go_sem]
 refine xloop (γ := Option (Nat × Nat) × List Bool) (none, [])
  (fun s => okO s.1 s.2.length ∧ apO s.1 L h ∧ s.2.length ≤ 8 * xs.length ∧ ∀ i, i < s.2.length → bol s.2 i = (decide ((i : Int) = more) || getB xs i))
  (fun s => [(6, .int .i64 s.2.length), (5, ovs s.1 s.2.length), (0, .slice xa xs.length xc), (1, .int .i64 more)])
  (fun s => oent 4 1 s.1 (s.2.map Value.bool) L) (fun _ => h) (fun s => 8 * xs.length - s.2.length) ?_ ?_ ?_ ?_
 ·exact ⟨rfl, trivial, by simp, fun i hi => by simp at hi⟩
 ·simp [Ent, List.lookup, xEnv, ovs]
 ·exact Drop.refl _ _
 rintro ⟨o, bl⟩ ⟨i1, i2, i3, i4⟩
 simp only at i1 i2 i3 i4
 simp -dsimp -implicitDefEqProofs (disch := first|with_reducible assumption|omega) [go_sem]
 refine xif_dec (fun c1 => ?_) (fun c1 => ?_)
 ·obtain ⟨x, hx⟩ : ∃ x, x = (decide ((bl.length : Int) = more) || getB xs bl.length) := ⟨_, rfl⟩
  have next : ∀ y, y = x → ∀ i, i < (bl ++ [y]).length → bol (bl ++ [y]) i = (decide ((i : Int) = more) || getB xs i) := by
   intro y hy i hi
   rw [bol_append]
   by_cases e : i < bl.length
   ·rw [if_pos e]; exact i4 i e
   ·have e2 : i = bl.length := by simp at hi; omega
    subst e2
    simp [hy, hx]
  by_cases c2 : (bl.length : Int) = more
  ·have hx1 : x = true := by rw [hx]; simp [c2]
   simp -dsimp -implicitDefEqProofs (disch := first|with_reducible assumption|omega) [go_sem]
   refine xnew fun b4 n_b4 h_b4 => ?_
   try simp only [Apart] at n_b4
   simp -dsimp -implicitDefEqProofs (disch := first|with_reducible assumption|omega) [go_sem]
   refine xappend (t := 233) (e := 4) (sz := 1) (bytes := 1) (z := [.bool false]) (by kernel_rfl) tI_4 rfl rfl rfl rfl (by decide) [_] _ o bl.length _ i1 (by simp) (Src.own List.mem_cons_self) (m := 1) (news := [.bool true]) rfl (fun u hu => by simp at hu; subst hu; rfl) (by simp [maxLen]; omega) (by omega) ?_
   intro o' j1 j2 j3
   simp -dsimp -implicitDefEqProofs (disch := first|with_reducible assumption|omega) [go_sem]
   exact ⟨o', bl ++ [true], ⟨by simpa using j1, apO_tail j2, by simp; omega, next _ hx1.symm⟩, by simp; omega, by simp [Ent, List.lookup], by simpa using Drop.tail _ _ _⟩
  ·simp -dsimp -implicitDefEqProofs (disch := first|with_reducible assumption|omega) [go_sem]
   refine rget_any _ _ ha0 (by omega) ?_
   cases g1 : getB xs bl.length with
   | true =>
    have hx1 : x = true := by rw [hx]; simp [g1]
    simp -dsimp -implicitDefEqProofs (disch := first|with_reducible assumption|omega) [go_sem]
    refine xnew fun b4 n_b4 h_b4 => ?_
    try simp only [Apart] at n_b4
    simp -dsimp -implicitDefEqProofs (disch := first|with_reducible assumption|omega) [go_sem]
    refine xappend (t := 233) (e := 4) (sz := 1) (bytes := 1) (z := [.bool false]) (by kernel_rfl) tI_4 rfl rfl rfl rfl (by decide) [_] _ o bl.length _ i1 (by simp) (Src.own List.mem_cons_self) (m := 1) (news := [.bool true]) rfl (fun u hu => by simp at hu; subst hu; rfl) (by simp [maxLen]; omega) (by omega) ?_
    intro o' j1 j2 j3
    simp -dsimp -implicitDefEqProofs (disch := first|with_reducible assumption|omega) [go_sem]
    exact ⟨o', bl ++ [true], ⟨by simpa using j1, apO_tail j2, by simp; omega, next _ hx1.symm⟩, by simp; omega, by simp [Ent, List.lookup], by simpa using Drop.tail _ _ _⟩
   | false =>
    have hx1 : x = false := by rw [hx]; simp [c2, g1]
    simp -dsimp -implicitDefEqProofs (disch := first|with_reducible assumption|omega) [go_sem]
    refine xnew fun b4 n_b4 h_b4 => ?_
    try simp only [Apart] at n_b4
    simp -dsimp -implicitDefEqProofs (disch := first|with_reducible assumption|omega) [go_sem]
    refine xappend (t := 233) (e := 4) (sz := 1) (bytes := 1) (z := [.bool false]) (by kernel_rfl) tI_4 rfl rfl rfl rfl (by decide) [_] _ o bl.length _ i1 (by simp) (Src.own List.mem_cons_self) (m := 1) (news := [.bool false]) rfl (fun u hu => by simp at hu; subst hu; rfl) (by simp [maxLen]; omega) (by omega) ?_
    intro o' j1 j2 j3
    simp -dsimp -implicitDefEqProofs (disch := first|with_reducible assumption|omega) [go_sem]
    exact ⟨o', bl ++ [false], ⟨by simpa using j1, apO_tail j2, by simp; omega, next _ hx1.symm⟩, by simp; omega, by simp [Ent, List.lookup], by simpa using Drop.tail _ _ _⟩
 ·have hn : bl.length = 8 * xs.length := by omega
  simp -dsimp -implicitDefEqProofs (disch := first|with_reducible assumption|omega) [go_sem]
  refine call_pub (n := bl.length) i1 (by simp) (by omega) i2 fun h1' le1 sl => ?_
  refine pack_any _ sl (by omega) fun h2 r cs le2 ic hl2 hg => ?_
  have ecs : cs = setB xs more := by
   refine bits_ext ic.byte (fun i => setB_byte bx more (by omega) i) (by simp [setB]; omega) fun i hi => ?_
   rw [getB_setB bx more h0 h1, hg i, i4 i (by omega)]
  subst ecs
  simp -dsimp -implicitDefEqProofs (disch := first|with_reducible assumption|omega) [go_sem]
  exact fin_here (hk h2 r (le1.trans le2) ic)
theorem rvote_any {ql : List QM} {ms : List MotD} (v : Value) (hv : Recs motC 33 h v ql) (hq : ql.map (fun x => x.2.2) = ms) (hm : MotsOk h ql) (hl : ql.length ≤ 1000) (hb : ∀ m ∈ ms, m.yes.length = 16 ∧ m.no.length = 16) (i mem : Int) (hi : -9223372036854775808 ≤ i ∧ i ≤ 9223372036854775807) (hmem : 0 ≤ mem ∧ mem ≤ 127) (yes : Bool)
  (hk : ∀ h' r ql', PH.le h h' → Recs motC 33 h' r ql' → ql'.map (fun x => x.2.2) = (voteP ms i mem yes).1 → MotsOk h' ql' → K (.tuple #[r, .int .i64 (voteP ms i mem yes).2]) L h') :
  Spec Tryz.prog 76 [v, .int .i64 i, .int .i64 mem, .bool yes] L h K := by
 have hql : ql.length = ms.length := by rw [← hq, List.length_map]
 have hv0 := hv
 obtain ⟨va, vc, rfl, _⟩ := hv.open
 have bad : ∀ h' e, PH.le h h' → voteP ms i mem yes = ([], e) → K (.tuple #[.slice none 0 0, .int .i64 e]) L h' := fun h' e le eq => by
  have := hk h' (.slice none 0 0) [] le (Recs.nil motC_len h') (by rw [eq]; rfl) (fun x hx => by cases hx)
  rw [eq] at this
  exact this
 rw [hql] at hv0 ⊢
 refine x_enter Tryz.func76 rfl (rs := [_, _]) rfl rfl mixed (by kernel_rfl) rfl rfl ?_
 by_cases c1 : i < 0
 ·have := bad h 230 (PH.le_refl _) (by rw [voteP, if_neg (by simp only [wi_iff]; omega)])
  simp -dsimp -implicitDefEqProofs (disch := first|with_reducible assumption|omega) [go_sem]
  exact fin_here this
 by_cases c2 : (ms.length : Int) ≤ i
 ·have := bad h 230 (PH.le_refl _) (by rw [voteP, if_neg (by simp only [wi_iff]; omega)])
  simp -dsimp -implicitDefEqProofs (disch := first|with_reducible assumption|omega) [go_sem]
  exact fin_here this
 obtain ⟨k, rfl⟩ := Int.eq_ofNat_of_zero_le (Int.not_lt.1 c1)
 have hkl : k < ms.length := by omega
 have ev : voteP ms k mem yes = if (voteC (gr zeroMot ms k) mem yes).2 = 0 then (ms.set k (voteC (gr zeroMot ms k) mem yes).1, 0) else ([], (voteC (gr zeroMot ms k) mem yes).2) := by
  rw [voteP, if_pos (by simp only [wi_iff]; omega)]; rfl
 have eg : gr zeroMot ms k = (gr zeroQM ql k).2.2 := by
  rw [gr_lt hkl, gr_lt (by omega)]
  subst hq
  simp
 obtain ⟨qk, hqk⟩ : ∃ qk, qk = gr zeroQM ql k := ⟨_, rfl⟩
 have hmem' : qk ∈ ql := by rw [hqk, gr_lt (by omega)]; exact List.getElem_mem _
 have hmk : IsMot h qk := hm qk hmem'
 have hvk := hb qk.2.2 (by rw [← hq]; exact List.mem_map_of_mem hmem')
 rw [eg, ← hqk] at ev
 obtain ⟨vy, vn, md⟩ := qk
 have hy := hmk.y
 have hn := hmk.n
 have hok := hmk.ok
 simp only at hy hn hvk hok ev
 have hyl : md.yes.length = 16 := hvk.1
 have hnl : md.no.length = 16 := hvk.2
 have b1 := byte_of hy
 have b2 := byte_of hn
 have sy : (setB md.yes mem).length = md.yes.length := by simp [setB]
 have sn : (setB md.no mem).length = md.no.length := by simp [setB]
 obtain ⟨ya, yc, rfl, _⟩ := hy.open
 obtain ⟨na, nc, rfl, _⟩ := hn.open
 simp -dsimp -implicitDefEqProofs (disch := first|with_reducible assumption|omega) [go_sem, ↓idxR zeroQM (by decide) (hql ▸ hv0), ← hqk, motC, parC, List.cons_append, List.nil_append]
 refine xnew fun b10 n_b10 h_b10 => ?_
 try simp only [Apart] at n_b10
 simp -dsimp -implicitDefEqProofs (disch := first|with_reducible assumption|omega) [go_sem, ← hqk, motC, parC, List.cons_append, List.nil_append]
 by_cases c3 : md.state = 1
 ·simp -dsimp -implicitDefEqProofs (disch := first|with_reducible assumption|omega) [go_sem]
  refine in23_any _ _ _ ?_
  rw [show wi mem 0 127 = true from wi_iff.2 hmem]
  simp -dsimp -implicitDefEqProofs (disch := first|with_reducible assumption|omega) [go_sem]
  refine rget_any _ _ hy (by omega) ?_
  have fin1 : ∀ e, e = 231 → (getB md.yes mem || getB md.no mem) = true → voteC md mem yes = (md, e) := fun e he hb => by
   rw [voteC, if_neg (by simp [c3]), hb, if_pos rfl, he]
  have fin2 : (getB md.yes mem || getB md.no mem) = false → voteC md mem yes = if yes then ({ md with yes := setB md.yes mem }, 0) else ({ md with no := setB md.no mem }, 0) := fun hb => by
   rw [voteC, if_neg (by simp [c3]), hb, if_neg (by decide)]
  cases g1 : getB md.yes mem with
  | true =>
   have := bad h 231 (PH.le_refl _) (by rw [ev, fin1 _ rfl (by rw [g1]; rfl)]; rfl)
   simp -dsimp -implicitDefEqProofs (disch := first|with_reducible assumption|omega) [go_sem]
   exact fin_tail (fin_here this)
  | false =>
  simp -dsimp -implicitDefEqProofs (disch := first|with_reducible assumption|omega) [go_sem]
  refine rget_any _ _ hn (by omega) ?_
  cases g2 : getB md.no mem with
  | true =>
   have := bad h 231 (PH.le_refl _) (by rw [ev, fin1 _ rfl (by rw [g1, g2]; rfl)]; rfl)
   simp -dsimp -implicitDefEqProofs (disch := first|with_reducible assumption|omega) [go_sem]
   exact fin_tail (fin_here this)
  | false =>
   have f2 := fin2 (by rw [g1, g2]; rfl)
   cases yes
   ·rw [if_neg (by decide)] at f2
    rw [f2] at ev
    simp only [if_true] at ev
    simp -dsimp -implicitDefEqProofs (disch := first|with_reducible assumption|omega) [go_sem]
    refine Spec.ap (with23_any _ mem hn (by omega) hmem.1 (by omega) fun h2 r2 le2 i2 ap => ?_)
    simp only [Ap] at ap
    obtain ⟨a210, _⟩ := ap
    obtain ⟨ra2, rc2, rfl, _⟩ := i2.open
    have im : IsMot h2 (.slice ya md.yes.length yc, .slice ra2 (setB md.no mem).length rc2, { md with no := setB md.no mem }) := ⟨hy.up le2, i2, ⟨hok.a, hok.n, hok.p⟩⟩
    simp -dsimp -implicitDefEqProofs (disch := first|with_reducible assumption|omega) [go_sem]
    refine rown23_any _ (hv0.up le2) (fun x hx => (hm x hx).up le2) hl fun o oko apo => ?_
    rw [hql] at oko ⊢
    have hfl : (ql.flatMap motC).length = ms.length * 33 := by rw [flatG_len motC_len, hql]
    obtain ⟨bo, co, rfl⟩ : ∃ bt cap, o = some (bt, cap) := by
     cases o with
     | none => have : ms.length = 0 := oko; omega
     | some p => exact ⟨_, _, rfl⟩
    have n10 : bo ≠ b10 := Ne.symm apo.1.1
    have hbo : h2 bo = noC := apo.2
    have hfl2 : (ql.map fun a => (motC a).length).sum = ms.length * 33 := by rw [← List.length_flatMap, hfl]
    have hk33 := flat_lt (n := ms.length) (w := 33) hkl (m := 32) (by decide)
    rw [oent_some]
    simp only [ovs]
    simp -dsimp -implicitDefEqProofs (disch := first|with_reducible assumption|omega) [go_sem]
    refine ⟨by omega, ?_⟩
    refine finCs (flatG_wrK motC_len ql (i := k) (by omega) (.slice ya md.yes.length yc, .slice ra2 (setB md.no mem).length rc2, { md with no := setB md.no mem })) ?_
    refine fin_pub (e := 146) (sz := 33) (n := ms.length) (o := some (bo, co)) oko (by rw [flatG_len motC_len, List.length_set, hql]) (by omega) apo fun h6 le6 sl => fin_tail (fin_here ?_)
    have le06 := le2.trans le6
    have := hk h6 (.slice (some ⟨bo, 0, none⟩) ms.length co) (ql.set k (.slice ya md.yes.length yc, .slice ra2 (setB md.no mem).length rc2, { md with no := setB md.no mem })) le06 ?_ ?_ ?_
    ·rw [ev] at this
     exact this
    ·have := Recs.pub (f := motC) (w := 33) (l := ql.set k (.slice ya md.yes.length yc, .slice ra2 (setB md.no mem).length rc2, { md with no := setB md.no mem })) (o := some (bo, co)) motC_len (by rw [List.length_set, hql]; exact sl)
     rwa [List.length_set, hql] at this
    ·rw [List.map_set, hq, ev]
    ·intro x hx
     rcases List.mem_or_eq_of_mem_set hx with hx | rfl
     ·exact (hm x hx).up le06
     ·exact im.up le6
   ·rw [if_pos rfl] at f2
    rw [f2] at ev
    simp only [if_true] at ev
    simp -dsimp -implicitDefEqProofs (disch := first|with_reducible assumption|omega) [go_sem]
    refine Spec.ap (with23_any _ mem hy (by omega) hmem.1 (by omega) fun h2 r2 le2 i2 ap => ?_)
    simp only [Ap] at ap
    obtain ⟨a210, _⟩ := ap
    obtain ⟨ra2, rc2, rfl, _⟩ := i2.open
    have im : IsMot h2 (.slice ra2 (setB md.yes mem).length rc2, .slice na md.no.length nc, { md with yes := setB md.yes mem }) := ⟨i2, hn.up le2, ⟨hok.a, hok.n, hok.p⟩⟩
    simp -dsimp -implicitDefEqProofs (disch := first|with_reducible assumption|omega) [go_sem]
    refine rown23_any _ (hv0.up le2) (fun x hx => (hm x hx).up le2) hl fun o oko apo => ?_
    rw [hql] at oko ⊢
    have hfl : (ql.flatMap motC).length = ms.length * 33 := by rw [flatG_len motC_len, hql]
    obtain ⟨bo, co, rfl⟩ : ∃ bt cap, o = some (bt, cap) := by
     cases o with
     | none => have : ms.length = 0 := oko; omega
     | some p => exact ⟨_, _, rfl⟩
    have n10 : bo ≠ b10 := Ne.symm apo.1.1
    have hbo : h2 bo = noC := apo.2
    have hfl2 : (ql.map fun a => (motC a).length).sum = ms.length * 33 := by rw [← List.length_flatMap, hfl]
    have hk33 := flat_lt (n := ms.length) (w := 33) hkl (m := 32) (by decide)
    rw [oent_some]
    simp only [ovs]
    simp -dsimp -implicitDefEqProofs (disch := first|with_reducible assumption|omega) [go_sem]
    refine ⟨by omega, ?_⟩
    refine finCs (flatG_wrK motC_len ql (i := k) (by omega) (.slice ra2 (setB md.yes mem).length rc2, .slice na md.no.length nc, { md with yes := setB md.yes mem })) ?_
    refine fin_pub (e := 146) (sz := 33) (n := ms.length) (o := some (bo, co)) oko (by rw [flatG_len motC_len, List.length_set, hql]) (by omega) apo fun h6 le6 sl => fin_tail (fin_here ?_)
    have le06 := le2.trans le6
    have := hk h6 (.slice (some ⟨bo, 0, none⟩) ms.length co) (ql.set k (.slice ra2 (setB md.yes mem).length rc2, .slice na md.no.length nc, { md with yes := setB md.yes mem })) le06 ?_ ?_ ?_
    ·rw [ev] at this
     exact this
    ·have := Recs.pub (f := motC) (w := 33) (l := ql.set k (.slice ra2 (setB md.yes mem).length rc2, .slice na md.no.length nc, { md with yes := setB md.yes mem })) (o := some (bo, co)) motC_len (by rw [List.length_set, hql]; exact sl)
     rwa [List.length_set, hql] at this
    ·rw [List.map_set, hq, ev]
    ·intro x hx
     rcases List.mem_or_eq_of_mem_set hx with hx | rfl
     ·exact (hm x hx).up le06
     ·exact im.up le6
 ·have := bad h 232 (PH.le_refl _) (by rw [ev, voteC, if_pos c3]; rfl)
  simp -dsimp -implicitDefEqProofs (disch := first|with_reducible assumption|omega) [go_sem]
  exact fin_tail (fin_here this)
end Go.X

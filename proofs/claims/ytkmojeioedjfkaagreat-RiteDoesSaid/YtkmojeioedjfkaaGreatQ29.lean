/- Lemmas and contracts for a statement about the given program. Conditions: as each says. -/
import Derived.Test.YtkmojeioedjfkaaGreatQ12
import Derived.Test.YtkmojeioedjfkaaGreatQ14
import Derived.Test.YtkmojeioedjfkaaGreatQ27
import Derived.Test.YtkmojeioedjfkaaGreatQ28
set_option linter.unusedVariables false
set_option linter.unusedSimpArgs false
set_option maxHeartbeats 12800000
set_option maxRecDepth 20000
namespace Go.X
open Go.RowKit Go.Proofs Go.Bl
variable {L : Own} {h : PH} {K : PK}
theorem finCs {b t c : Nat} {cs cs' : List Value} {v : Value} (e : cs = cs') (hk : fin K v (⟨b, t, cs', c⟩ :: L) h) : fin K v (⟨b, t, cs, c⟩ :: L) h := e ▸ hk
theorem flatG_wrK {α : Type} {f : α → List Value} {w : Nat} (hf : ∀ a, (f a).length = w) (l : List α) {i : Nat} (hi : i < l.length) (a' : α) : wr (l.flatMap f) (i * w) (f a') = (l.set i a').flatMap f := by
 have h1 : l.flatMap f = (l.take i).flatMap f ++ (f l[i] ++ (l.drop (i + 1)).flatMap f) := by
  conv => lhs; rw [← List.take_append_drop i l, List.drop_eq_getElem_cons hi]
  rw [List.flatMap_append, List.flatMap_cons]
 have h2 : ((l.take i).flatMap f).length = i * w := by rw [flatG_len hf, List.length_take, Nat.min_eq_left (by omega)]
 rw [wr_eq _ _ _ (by rw [h1]; simp only [List.length_append, h2, hf]; omega), hf]
 rw [List.set_eq_take_append_cons_drop, if_pos hi, List.flatMap_append, List.flatMap_cons]
 rw [h1, ← h2, List.take_left, List.append_assoc]
 congr 2
 rw [← List.drop_drop, List.drop_left]
 rw [← hf l[i], List.drop_left]
theorem openM_poll {p : ParD} (q1 : parR p = true) : 1 ≤ p.poll ∧ p.poll ≤ 1000 := by
 simp only [parR, Bool.and_eq_true] at q1
 have := q1.1.2
 simp only [othersB, List.all_cons, List.all_nil, id, Bool.and_eq_true, wi_iff, decide_eq_true_eq, and_true] at this
 omega
theorem openM_ok {p : ParD} {d : DeedD} {ep : Int} (_ok : ParOk p) (hd : DeedOk d) (q1 : parR p = true) (q4 : wi ep 0 1073741824 = true) : MotOk (openM p d ep) := by
 have q4' := wi_iff.1 q4
 have q5 := openM_poll q1
 have hn := hd.n
 simp only [List.forall_mem_cons] at hn
 obtain ⟨n1, n2, n3, n4, n5, n6, n7, _⟩ := hn
 refine ⟨hd.a, ?_, hd.p⟩
 simp only [openM, List.forall_mem_cons, List.not_mem_nil, false_implies, implies_true, and_true]
 omega
theorem mopen_any {ql : List QM} {ms : List MotD} {p : ParD} {d : DeedD} (v bv : Value) (ok : ParOk p) (hv : Recs motC 33 h v ql) (hq : ql.map (fun x => x.2.2) = ms) (hm : MotsOk h ql) (hl : ql.length ≤ 1000) (hb : ∀ m ∈ ms, m.yes.length ≤ 1000 ∧ m.no.length ≤ 1000) (hd : IsDeed h bv d) (ep : Int)
  (hk : ∀ h' r ql', PH.le h h' → Recs motC 33 h' r ql' → ql'.map (fun x => x.2.2) = (openP p ms d ep).1 → MotsOk h' ql' → K (.tuple #[r, .int .i64 (openP p ms d ep).2.1, .int .i64 (openP p ms d ep).2.2]) L h') :
  Spec Tryz.prog 172 [parV p, v, deedV d bv, .int .i64 ep] L h K := by
 have hql : ql.length = ms.length := by rw [← hq, List.length_map]
 have hv0 := hv
 obtain ⟨va, vc, rfl, _⟩ := hv.open
 obtain ⟨x1, y1, rfl, _⟩ := hd.i.open
 have bad : ∀ h' i e, PH.le h h' → openP p ms d ep = ([], i, e) → K (.tuple #[.slice none 0 0, .int .i64 i, .int .i64 e]) L h' := fun h' i e le eq => by
  have := hk h' (.slice none 0 0) [] le (Recs.nil motC_len h') (by rw [eq]; rfl) (fun x hx => by cases hx)
  rw [eq] at this
  exact this
 refine x_enter Tryz.func172 rfl (rs := [_, _, _]) rfl rfl mixed (by kernel_rfl) rfl rfl ?_
 simp -dsimp -implicitDefEqProofs (disch := first|with_reducible assumption|omega) [go_sem]
 refine xnew fun b4 n_b4 h_b4 => ?_
 try simp only [Apart] at n_b4
 simp -dsimp -implicitDefEqProofs (disch := first|with_reducible assumption|omega) [go_sem]
 refine xnew fun b6 n_b6 h_b6 => ?_
 try simp only [Apart] at n_b6
 simp -dsimp -implicitDefEqProofs (disch := first|with_reducible assumption|omega) [go_sem]
 refine pcheck0 p ok ?_
 cases q1 : parR p with
 | false =>
  have := bad h 0 70 (PH.le_refl _) (by rw [openP, q1]; rfl)
  simp -dsimp -implicitDefEqProofs (disch := first|with_reducible assumption|omega) [go_sem]
  exact fin_tail (fin_tail (fin_here this))
 | true =>
 by_cases q2 : d.kind = 6
 ·simp -dsimp -implicitDefEqProofs (disch := first|with_reducible assumption|omega) [go_sem]
  refine Spec.ap (dright_any _ hd fun h1 le1 ap => ?_)
  simp only [Ap] at ap
  obtain ⟨a6, a4, _⟩ := ap
  cases q3 : rightD d with
  | false =>
   have := bad h1 0 80 le1 (by rw [openP, q1, q3, Bool.and_false]; rfl)
   simp -dsimp -implicitDefEqProofs (disch := first|with_reducible assumption|omega) [go_sem]
   exact fin_tail (fin_tail (fin_here this))
  | true =>
  simp -dsimp -implicitDefEqProofs (disch := first|with_reducible assumption|omega) [go_sem]
  refine mwi_any _ _ _ ?_
  cases q4 : wi ep 0 1073741824 with
  | false =>
   have := bad h1 0 2 le1 (by rw [openP, q1, q3, q4, decide_eq_true q2]; rfl)
   simp -dsimp -implicitDefEqProofs (disch := first|with_reducible assumption|omega) [go_sem]
   exact fin_tail (fin_tail (fin_here this))
  | true =>
  have q4' := wi_iff.1 q4
  simp -dsimp -implicitDefEqProofs (disch := first|with_reducible assumption|omega) [go_sem]
  refine ioverM_any _ (hv0.up le1) hq ?_
  have ale := atO_le ms
  have eO : openP p ms d ep = if 31 < atO ms then ([], 0, 161) else if atO ms = ms.length then (ms ++ [openM p d ep], (atO ms : Int), 0) else (ms.set (atO ms) (openM p d ep), (atO ms : Int), 0) := by
   rw [openP, q1, q3, q4, decide_eq_true q2]; rfl
  rw [eO] at bad hk
  obtain ⟨at', hat⟩ : ∃ n, n = atO ms := ⟨_, rfl⟩
  rw [← hat] at ale bad hk ⊢
  have rest : ∀ (E : Env) (Kc : Env → Own → PH → Prop), True := fun _ _ => trivial
  clear rest
  by_cases c5 : at' < ms.length
  ·rw [if_pos c5]
   simp -dsimp -implicitDefEqProofs (disch := first|with_reducible assumption|omega) [go_sem]
   by_cases c6 : 31 < at'
   ·have := bad h1 0 161 le1 (by rw [if_pos c6])
    simp -dsimp -implicitDefEqProofs (disch := first|with_reducible assumption|omega) [go_sem]
    exact fin_tail (fin_tail (fin_here this))
   rw [if_neg c6, if_neg (by omega)] at hk
   simp -dsimp -implicitDefEqProofs (disch := first|with_reducible assumption|omega) [go_sem]
   refine size_any _ (by decide) (by decide) ?_
   rw [show sizeB 128 = 16 by decide]
   simp -dsimp -implicitDefEqProofs (disch := first|with_reducible assumption|omega) [go_sem]
   refine xMS_full (e := 5) (z := .int .u8 0) (by kernel_rfl) tI_5 rfl rfl .i64 .i64 16 (by decide) (by decide) (by decide) ?_
   refine xnew fun b39 n_b39 h_b39 => ?_
   have n39 := n_b39
   simp only [Apart] at n39
   simp -dsimp -implicitDefEqProofs (disch := first|with_reducible assumption|omega) [go_sem]
   refine xany_cut (.tk 0 (.tk 2 (.tk 4 (.tk 6 (.tk 8 (.tk 10 (.tk 11 (.tk 14 (.tk 15 (.tkl 1 (.tkl 3 (.tkl 5 (.tkl 7 (.tkl 9 (.tkl 12 (.tk 13 (.or true 16 (.tk 17 (.or true 18 (.or false 19 (.fin) (.nil)) (.nil))) (.or true 18 (.or true 16 (.tk 17 (.or false 19 (.fin) (.nil))) (.nil)) (.nil))))))))))))))))))) (by kernel_rfl) (by kernel_rfl) [(1, .slice va ql.length vc), (3, .int .i64 ep), (4, .pointer (some ⟨b4, 0, none⟩)), (6, .pointer (some ⟨b6, 0, none⟩)), (9, .int .i64 at'), (11, .slice (some ⟨b39, 0, none⟩) 16 16)] _ (γ := Nat × QM × PH)
    (fun q => PH.le h1 q.2.2 ∧ IsMot q.2.2 q.2.1 ∧ q.2.1.2.2 = openM p d ep ∧ Apart q.1 L ∧ q.2.2 q.1 = noC)
    (fun q => [(1, .slice va ql.length vc), (9, .int .i64 at'), (12, .pointer (some ⟨q.1, 0, none⟩))])
    (fun q => ⟨q.1, 111, motC q.2.1, 33⟩ :: L) (fun q => q.2.2) (by simp [Ent, List.lookup, xEnv] <;> omega) (Drop.sub (.cons _ (.cons_cons _ (.cons_cons _ (List.nil_sublist _))))) ?_ ?_
   ·have mo : MotOk (openM p d ep) := openM_ok ok hd.ok q1 q4
    have bp := openM_poll q1
    simp -dsimp -implicitDefEqProofs (disch := first|with_reducible assumption|omega) [go_sem]
    refine xpl_or ?_ ?_
    ·simp -dsimp -implicitDefEqProofs (disch := first|with_reducible assumption|omega) [go_sem]
     refine call_pub (o := some (b39, 16)) (n := 16) (e := 5) (sz := 1) (xs := List.replicate 16 (.int .u8 0)) ⟨Nat.le_refl _, by show 16 ≤ maxLen; decide⟩ rfl (by decide) ⟨n_b39, h_b39⟩ fun h2 le2 sl2 => ?_
     have z2 := zeros_ints (n := 16) sl2
     refine Spec.ap (clone8_any _ z2 (by simp) fun h3 r3 le3 i3 ap => ?_)
     simp only [Ap] at ap
     obtain ⟨a36, a34, _⟩ := ap
     obtain ⟨ra3, rc3, rfl, _⟩ := i3.open
     refine xkp ((Drop.forget (le2.trans le3)).trans (Drop.sub (.cons_cons _ (.cons_cons _ (List.nil_sublist _))))) ?_
     simp -dsimp -implicitDefEqProofs (disch := first|with_reducible assumption|omega) [go_sem]
     refine xnew fun b12 n_b12 h_b12 => ?_
     try simp only [Apart] at n_b12
     first | refine xkp ((Drop.tail _ _ _).trans ((Drop.forget (le2.trans le3)).trans (Drop.sub (.cons_cons _ (.cons_cons _ (List.nil_sublist _)))))) ?_ | skip
     simp -dsimp -implicitDefEqProofs (disch := first|with_reducible assumption|omega) [go_sem]
     exact ⟨b12, .slice (some ⟨b39, 0, none⟩) 16 16, .slice ra3 16 rc3, openM p d ep, h3, ⟨le2.trans le3, ⟨z2.up le3, i3, mo⟩, rfl, n_b12.2.2, h_b12⟩, by simp [Ent, List.lookup], Drop.sub (.cons_cons _ (.cons _ (.cons _ (List.Sublist.refl _))))⟩
    ·simp -dsimp -implicitDefEqProofs (disch := first|with_reducible assumption|omega) [go_sem]
     refine xnew fun b12 n_b12 h_b12 => ?_
     try simp only [Apart] at n_b12
     refine xkp ((Drop.tail _ _ _).trans (Drop.sub (.cons _ (.cons_cons _ (.cons_cons _ (List.nil_sublist _)))))) ?_
     simp -dsimp -implicitDefEqProofs (disch := first|with_reducible assumption|omega) [go_sem]
     refine call_pub_at (b := b39) (cap := 16) (n := 16) (e := 5) (sz := 1) (xs := List.replicate 16 (.int .u8 0)) [_] ⟨Nat.le_refl _, by show 16 ≤ maxLen; decide⟩ rfl (by decide) h_b39 fun h2 le2 sl2 o2 => ?_
     have z2 := zeros_ints (n := 16) sl2
     refine Spec.ap (clone8_any _ z2 (by simp) fun h3 r3 le3 i3 ap => ?_)
     simp only [Ap, List.cons_append, List.nil_append] at ap
     obtain ⟨a3c, _⟩ := ap
     obtain ⟨ra3, rc3, rfl, _⟩ := i3.open
     first | refine xkp ((Drop.tail _ _ _).trans ((Drop.forget (le2.trans le3)).trans (Drop.sub (.cons_cons _ (.cons_cons _ (List.nil_sublist _)))))) ?_ | skip
     simp -dsimp -implicitDefEqProofs (disch := first|with_reducible assumption|omega) [go_sem]
     exact ⟨b12, .slice (some ⟨b39, 0, none⟩) 16 16, .slice ra3 16 rc3, openM p d ep, h3, ⟨le2.trans le3, ⟨z2.up le3, i3, mo⟩, rfl, n_b12.2.2.2, a3c⟩, by simp [Ent, List.lookup], Drop.sub (.cons_cons _ (.cons _ (.cons _ (List.Sublist.refl _))))⟩
   ·rintro ⟨b12, qm, h4⟩ ⟨le4, im, eM, n12, hb12⟩
    simp only at le4 im eM n12 hb12 ⊢
    have le04 := le1.trans le4
    simp -dsimp -implicitDefEqProofs (disch := first|with_reducible assumption|omega) [go_sem]
    refine Spec.ap (mown_any _ (hv0.up le04) hq (fun x hx => (hm x hx).up le04) hl hb fun h5 o ql' le5 oko apo eq' mo' ap => ?_)
    obtain ⟨a512, _⟩ := Ap.oent ap
    simp only at a512
    have hql' : ql'.length = ms.length := by rw [← eq', List.length_map]
    obtain ⟨vy, vn, md⟩ := qm
    simp only at eM
    subst eM
    obtain ⟨mta, mtc, emt, _⟩ := ovs_open oko
    have m12 : apB o b12 := apo.head
    obtain ⟨bo, co, rfl⟩ : ∃ bt cap, o = some (bt, cap) := by
     cases o with
     | none => have : ms.length = 0 := oko; omega
     | some p => exact ⟨_, _, rfl⟩
    have n12' : bo ≠ b12 := m12
    have hbo : h5 bo = noC := apo.2
    simp -dsimp -implicitDefEqProofs (disch := first|with_reducible assumption|omega) [go_sem, oent_some, motC, parC, List.cons_append, List.nil_append]
    have hfl : (ql'.flatMap motC).length = ms.length * 33 := by rw [flatG_len motC_len, hql']
    have hfl2 : (ql'.map fun a => (motC a).length).sum = ms.length * 33 := by rw [← List.length_flatMap, hfl]
    have hk33 := flat_lt (n := ms.length) (w := 33) c5 (m := 32) (by decide)
    rw [oent_some]
    simp only [ovs]
    simp -dsimp -implicitDefEqProofs (disch := first|with_reducible assumption|omega) [go_sem]
    refine ⟨by omega, ⟨slice_one im.y, slice_one im.n⟩, ?_⟩
    refine finCs (flatG_wrK motC_len ql' (i := at') (by omega) (vy, vn, openM p d ep)) ?_
    refine fin_pub (e := 111) (sz := 33) (n := ms.length) (o := some (bo, co)) oko (by rw [flatG_len motC_len, List.length_set, hql']) (by omega) apo fun h6 le6 sl => fin_tail (fin_here ?_)
    have le06 := (le04.trans le5).trans le6
    refine hk h6 _ (ql'.set at' (vy, vn, openM p d ep)) le06 ?_ ?_ ?_
    ·have := Recs.pub (f := motC) (w := 33) (l := ql'.set at' (vy, vn, openM p d ep)) (o := some (bo, co)) motC_len (by rw [List.length_set, hql']; exact sl)
     rwa [List.length_set, hql'] at this
    ·rw [List.map_set, eq']
    ·intro x hx
     rcases List.mem_or_eq_of_mem_set hx with hx | rfl
     ·exact (mo' x hx).up le6
     ·exact (im.up le5).up le6
  ·rw [if_neg c5]
   have c7 : at' = ms.length := by omega
   simp -dsimp -implicitDefEqProofs (disch := first|with_reducible assumption|omega) [go_sem]
   by_cases c6 : 31 < at'
   ·have := bad h1 0 161 le1 (by rw [if_pos c6])
    simp -dsimp -implicitDefEqProofs (disch := first|with_reducible assumption|omega) [go_sem]
    exact fin_tail (fin_tail (fin_here this))
   rw [if_neg c6, if_pos c7] at hk
   simp -dsimp -implicitDefEqProofs (disch := first|with_reducible assumption|omega) [go_sem]
   refine size_any _ (by decide) (by decide) ?_
   rw [show sizeB 128 = 16 by decide]
   simp -dsimp -implicitDefEqProofs (disch := first|with_reducible assumption|omega) [go_sem]
   refine xMS_full (e := 5) (z := .int .u8 0) (by kernel_rfl) tI_5 rfl rfl .i64 .i64 16 (by decide) (by decide) (by decide) ?_
   refine xnew fun b39 n_b39 h_b39 => ?_
   have n39 := n_b39
   simp only [Apart] at n39
   simp -dsimp -implicitDefEqProofs (disch := first|with_reducible assumption|omega) [go_sem]
   refine xany_cut (.tk 0 (.tk 2 (.tk 4 (.tk 6 (.tk 8 (.tk 10 (.tk 11 (.tk 14 (.tk 15 (.tkl 1 (.tkl 3 (.tkl 5 (.tkl 7 (.tkl 9 (.tkl 12 (.tk 13 (.or true 16 (.tk 17 (.or true 18 (.or false 19 (.fin) (.nil)) (.nil))) (.or true 18 (.or true 16 (.tk 17 (.or false 19 (.fin) (.nil))) (.nil)) (.nil))))))))))))))))))) (by kernel_rfl) (by kernel_rfl) [(1, .slice va ql.length vc), (3, .int .i64 ep), (4, .pointer (some ⟨b4, 0, none⟩)), (6, .pointer (some ⟨b6, 0, none⟩)), (9, .int .i64 at'), (11, .slice (some ⟨b39, 0, none⟩) 16 16)] _ (γ := Nat × QM × PH)
    (fun q => PH.le h1 q.2.2 ∧ IsMot q.2.2 q.2.1 ∧ q.2.1.2.2 = openM p d ep ∧ Apart q.1 L ∧ q.2.2 q.1 = noC)
    (fun q => [(1, .slice va ql.length vc), (9, .int .i64 at'), (12, .pointer (some ⟨q.1, 0, none⟩))])
    (fun q => ⟨q.1, 111, motC q.2.1, 33⟩ :: L) (fun q => q.2.2) (by simp [Ent, List.lookup, xEnv] <;> omega) (Drop.sub (.cons _ (.cons_cons _ (.cons_cons _ (List.nil_sublist _))))) ?_ ?_
   ·have mo : MotOk (openM p d ep) := openM_ok ok hd.ok q1 q4
    have bp := openM_poll q1
    simp -dsimp -implicitDefEqProofs (disch := first|with_reducible assumption|omega) [go_sem]
    refine xpl_or ?_ ?_
    ·simp -dsimp -implicitDefEqProofs (disch := first|with_reducible assumption|omega) [go_sem]
     refine call_pub (o := some (b39, 16)) (n := 16) (e := 5) (sz := 1) (xs := List.replicate 16 (.int .u8 0)) ⟨Nat.le_refl _, by show 16 ≤ maxLen; decide⟩ rfl (by decide) ⟨n_b39, h_b39⟩ fun h2 le2 sl2 => ?_
     have z2 := zeros_ints (n := 16) sl2
     refine Spec.ap (clone8_any _ z2 (by simp) fun h3 r3 le3 i3 ap => ?_)
     simp only [Ap] at ap
     obtain ⟨a36, a34, _⟩ := ap
     obtain ⟨ra3, rc3, rfl, _⟩ := i3.open
     refine xkp ((Drop.forget (le2.trans le3)).trans (Drop.sub (.cons_cons _ (.cons_cons _ (List.nil_sublist _))))) ?_
     simp -dsimp -implicitDefEqProofs (disch := first|with_reducible assumption|omega) [go_sem]
     refine xnew fun b12 n_b12 h_b12 => ?_
     try simp only [Apart] at n_b12
     first | refine xkp ((Drop.tail _ _ _).trans ((Drop.forget (le2.trans le3)).trans (Drop.sub (.cons_cons _ (.cons_cons _ (List.nil_sublist _)))))) ?_ | skip
     simp -dsimp -implicitDefEqProofs (disch := first|with_reducible assumption|omega) [go_sem]
     exact ⟨b12, .slice (some ⟨b39, 0, none⟩) 16 16, .slice ra3 16 rc3, openM p d ep, h3, ⟨le2.trans le3, ⟨z2.up le3, i3, mo⟩, rfl, n_b12.2.2, h_b12⟩, by simp [Ent, List.lookup], Drop.sub (.cons_cons _ (.cons _ (.cons _ (List.Sublist.refl _))))⟩
    ·simp -dsimp -implicitDefEqProofs (disch := first|with_reducible assumption|omega) [go_sem]
     refine xnew fun b12 n_b12 h_b12 => ?_
     try simp only [Apart] at n_b12
     refine xkp ((Drop.tail _ _ _).trans (Drop.sub (.cons _ (.cons_cons _ (.cons_cons _ (List.nil_sublist _)))))) ?_
     simp -dsimp -implicitDefEqProofs (disch := first|with_reducible assumption|omega) [go_sem]
     refine call_pub_at (b := b39) (cap := 16) (n := 16) (e := 5) (sz := 1) (xs := List.replicate 16 (.int .u8 0)) [_] ⟨Nat.le_refl _, by show 16 ≤ maxLen; decide⟩ rfl (by decide) h_b39 fun h2 le2 sl2 o2 => ?_
     have z2 := zeros_ints (n := 16) sl2
     refine Spec.ap (clone8_any _ z2 (by simp) fun h3 r3 le3 i3 ap => ?_)
     simp only [Ap, List.cons_append, List.nil_append] at ap
     obtain ⟨a3c, _⟩ := ap
     obtain ⟨ra3, rc3, rfl, _⟩ := i3.open
     first | refine xkp ((Drop.tail _ _ _).trans ((Drop.forget (le2.trans le3)).trans (Drop.sub (.cons_cons _ (.cons_cons _ (List.nil_sublist _)))))) ?_ | skip
     simp -dsimp -implicitDefEqProofs (disch := first|with_reducible assumption|omega) [go_sem]
     exact ⟨b12, .slice (some ⟨b39, 0, none⟩) 16 16, .slice ra3 16 rc3, openM p d ep, h3, ⟨le2.trans le3, ⟨z2.up le3, i3, mo⟩, rfl, n_b12.2.2.2, a3c⟩, by simp [Ent, List.lookup], Drop.sub (.cons_cons _ (.cons _ (.cons _ (List.Sublist.refl _))))⟩
   ·rintro ⟨b12, qm, h4⟩ ⟨le4, im, eM, n12, hb12⟩
    simp only at le4 im eM n12 hb12 ⊢
    have le04 := le1.trans le4
    simp -dsimp -implicitDefEqProofs (disch := first|with_reducible assumption|omega) [go_sem]
    refine Spec.ap (mown_any _ (hv0.up le04) hq (fun x hx => (hm x hx).up le04) hl hb fun h5 o ql' le5 oko apo eq' mo' ap => ?_)
    obtain ⟨a512, _⟩ := Ap.oent ap
    simp only at a512
    have hql' : ql'.length = ms.length := by rw [← eq', List.length_map]
    obtain ⟨vy, vn, md⟩ := qm
    simp only at eM
    subst eM
    obtain ⟨mta, mtc, emt, _⟩ := ovs_open oko
    have m12 : apB o b12 := apo.head
    rw [emt]
    simp -dsimp -implicitDefEqProofs (disch := first|with_reducible assumption|omega) [go_sem, xFind_oent m12, motC, parC, List.cons_append, List.nil_append]
    refine xnew fun bx n_bx h_bx => ?_
    try simp only [Apart] at n_bx
    simp -dsimp -implicitDefEqProofs (disch := first|with_reducible assumption|omega) [go_sem]
    rw [← emt]
    have hfl : (ql'.flatMap motC).length = ms.length * 33 := by rw [flatG_len motC_len, hql']
    refine xappend (t := 37) (e := 111) (sz := 33) (bytes := 296) (by kernel_rfl) tI_111 rfl rfl rfl rfl (by decide) [_] _ o ms.length (ql'.flatMap motC) oko hfl (Src.own (b := bx) List.mem_cons_self) (m := 1) (news := motC (vy, vn, openM p d ep)) (by rfl) (motC_one im) (by simp [maxLen]; omega) (by omega) ?_
    intro o' j1 j2 j3
    simp only [List.cons_append, List.nil_append] at j2 ⊢
    simp -dsimp -implicitDefEqProofs (disch := first|with_reducible assumption|omega) [go_sem]
    refine fin_tail (fin_pub (e := 111) (sz := 33) (n := ms.length + 1) j1 (by rw [List.length_append, hfl]; show ms.length * 33 + 33 = (ms.length + 1) * 33; omega) (by omega) (apO_tail j2) fun h6 le6 sl => ?_)
    have le06 := (le04.trans le5).trans le6
    refine fin_tail (fin_here (hk h6 _ (ql' ++ [(vy, vn, openM p d ep)]) le06 ?_ ?_ ?_))
    ·have := Recs.pub (f := motC) (w := 33) (l := ql' ++ [(vy, vn, openM p d ep)]) (o := o') motC_len (by rw [List.length_append, hql']; simpa using sl)
     rwa [List.length_append, hql'] at this
    ·simp [eq']
    ·intro x hx
     rcases List.mem_append.1 hx with hx | hx
     ·exact (mo' x hx).up le6
     ·rw [List.mem_singleton.1 hx]
      exact (im.up le5).up le6
 ·have := bad h 0 80 (PH.le_refl _) (by rw [openP, q1, decide_eq_false q2, Bool.false_and]; rfl)
  simp -dsimp -implicitDefEqProofs (disch := first|with_reducible assumption|omega) [go_sem]
  exact fin_tail (fin_tail (fin_here this))
def voteC (m : MotD) (mem : Int) (yes : Bool) : MotD × Int :=
 if m.state ≠ 1 then (m, 232) else if getB m.yes mem || getB m.no mem then (m, 231) else if yes then ({ m with yes := setB m.yes mem }, 0) else ({ m with no := setB m.no mem }, 0)
abbrev mvB (bo cap : Nat) (ql : List QM) : Blk := ⟨bo, 111, ql.flatMap motC, cap⟩
abbrev mvN (b6 : Nat) (mem : Int) : Blk := ⟨b6, 3, [.int .i64 mem], 1⟩
abbrev mvY (b7 : Nat) (yes : Bool) : Blk := ⟨b7, 4, [.bool yes], 1⟩
theorem setQ_map {ql : List QM} {k : Nat} (hk : k < ql.length) (a b : Value) (m : MotD) : (ql.set k (a, b, m)).map (fun x => x.2.2) = (ql.map (fun x => x.2.2)).set k m := by rw [List.map_set]
theorem setQ_ok {ql : List QM} {k : Nat} {q : QM} {h : PH} (hm : MotsOk h ql) (hq : IsMot h q) : MotsOk h (ql.set k q) := fun x hx => by
 rcases List.mem_or_eq_of_mem_set hx with hx | rfl
 ·exact hm x hx
 ·exact hq
theorem vcl_any {ql : List QM} {bo cap b6 b7 k : Nat} {mem : Int} {yes : Bool} (hkl : k < ql.length) (hl : ql.length ≤ 1000) (hm : MotsOk h ql) (hv : ∀ x ∈ ql, x.2.2.yes.length = 16 ∧ x.2.2.no.length = 16) (hmem : 0 ≤ mem ∧ mem ≤ 127)
  (hk : ∀ h' ql', PH.le h h' → ql'.length = ql.length → ql'.map (fun x => x.2.2) = (ql.map (fun x => x.2.2)).set k (voteC (gr zeroQM ql k).2.2 mem yes).1 → MotsOk h' ql' → K (.int .i64 (voteC (gr zeroQM ql k).2.2 mem yes).2) (mvB bo cap ql' :: mvY b7 yes :: mvN b6 mem :: L) h') :
  Spec Tryz.prog 213 [.pointer (some ⟨bo, k * 33, none⟩), .pointer (some ⟨b6, 0, none⟩), .pointer (some ⟨b7, 0, none⟩)] (mvB bo cap ql :: mvY b7 yes :: mvN b6 mem :: L) h K := by
 obtain ⟨qk, hqk⟩ : ∃ qk, qk = gr zeroQM ql k := ⟨_, rfl⟩
 have hmem' : qk ∈ ql := by rw [hqk, gr_lt hkl]; exact List.getElem_mem _
 have hmk : IsMot h qk := hm qk hmem'
 have hvk := hv qk hmem'
 rw [← hqk] at hk
 have hset0 : (ql.map (fun x => x.2.2)).set k qk.2.2 = ql.map (fun x => x.2.2) := by
  rw [hqk, gr_lt hkl]
  apply List.ext_getElem?
  intro n
  rw [List.getElem?_set]
  split
  ·rename_i e
   subst e
   simp [hkl]
  ·rfl
 obtain ⟨vy, vn, md⟩ := qk
 have hy := hmk.y
 have hn := hmk.n
 have hok := hmk.ok
 simp only at hy hn hk hvk hset0 hok
 obtain ⟨ya, yc, rfl, _⟩ := hy.open
 obtain ⟨na, nc, rfl, _⟩ := hn.open
 have g30 : ∀ (K : Value → Prop) (t : Tok K), xNth (ql.flatMap motC) (k * 33 + 30) K t = K (.int .i64 md.state) := fun K t => xNth_rec motC_len zeroQM ql hkl (by decide) (by rw [← hqk]; rfl) K t
 have g31 : ∀ (K : Value → Prop) (t : Tok K), xNth (ql.flatMap motC) (k * 33 + 31) K t = K (.slice ya md.yes.length yc) := fun K t => xNth_rec motC_len zeroQM ql hkl (by decide) (by rw [← hqk]; rfl) K t
 have g32 : ∀ (K : Value → Prop) (t : Tok K), xNth (ql.flatMap motC) (k * 33 + 32) K t = K (.slice na md.no.length nc) := fun K t => xNth_rec motC_len zeroQM ql hkl (by decide) (by rw [← hqk]; rfl) K t
 have hset1 : ∀ a ac b bc (m : MotD), m.acct = md.acct → m.what = md.what → m.par = md.par → m.to = md.to → m.amt = md.amt → m.ends = md.ends → m.due = md.due → m.state = md.state → b = na → bc = nc → m.no = md.no → m.yes.length = md.yes.length → (ql.flatMap motC).set (k * 33 + 31) (.slice a md.yes.length ac) = (ql.set k (.slice a m.yes.length ac, .slice b m.no.length bc, m)).flatMap motC := fun a ac b bc m e1 e2 e3 e4 e5 e6 e7 e8 e9 e10 e11 e12 =>
  flatG_set motC_len zeroQM ql (i := k) (m := 31) hkl (by decide) (by rw [← hqk]; simp [motC, parC, e1, e2, e3, e4, e5, e6, e7, e8, e9, e10, e11, e12])
 have hset2 : ∀ a ac b bc (m : MotD), m.acct = md.acct → m.what = md.what → m.par = md.par → m.to = md.to → m.amt = md.amt → m.ends = md.ends → m.due = md.due → m.state = md.state → a = ya → ac = yc → m.yes = md.yes → m.no.length = md.no.length → (ql.flatMap motC).set (k * 33 + 32) (.slice b md.no.length bc) = (ql.set k (.slice a m.yes.length ac, .slice b m.no.length bc, m)).flatMap motC := fun a ac b bc m e1 e2 e3 e4 e5 e6 e7 e8 e9 e10 e11 e12 =>
  flatG_set motC_len zeroQM ql (i := k) (m := 32) hkl (by decide) (by rw [← hqk]; simp [motC, parC, e1, e2, e3, e4, e5, e6, e7, e8, e9, e10, e11, e12])
 have stay : ∀ h' e, PH.le h h' → voteC md mem yes = (md, e) → K (.int .i64 e) (mvB bo cap ql :: mvY b7 yes :: mvN b6 mem :: L) h' := fun h' e le eq => by
  have := hk h' ql le rfl (by rw [eq, hset0]) (fun x hx => (hm x hx).up le)
  rw [eq] at this
  exact this
 refine x_enterA Tryz.func213 rfl (rs := [_]) rfl rfl mixed (by kernel_rfl) rfl rfl fun ap nd => ?_
 obtain ⟨apo, ap7, ap6, apl⟩ := ap
 simp only [Nd, Apart] at nd
 obtain ⟨⟨nd1, nd2, nd3⟩, ⟨nd4, nd5⟩, _⟩ := nd
 have hfl : (ql.flatMap motC).length = ql.length * 33 := flatG_len motC_len ql
 have hk33 := flat_lt (n := ql.length) (w := 33) hkl (m := 32) (by decide)
 have hsum : (ql.map fun a => (motC a).length).sum = ql.length * 33 := by rw [← List.length_flatMap, hfl]
 simp -dsimp -implicitDefEqProofs (disch := first|with_reducible assumption|omega) [go_sem, g30, g31, g32]
 by_cases c1 : md.state = 1
 ·simp -dsimp -implicitDefEqProofs (disch := first|with_reducible assumption|omega) [go_sem, c1]
  refine xanyl (.tk 0 (.tk 1 (.tk 2 (.tkl 3 (.tkl 4 (.or true 5 (.tk 6 (.tk 7 (.tk 8 (.tk 9 (.tk 10 (.fin)))))) (.nil))))))) (by kernel_rfl) (by kernel_rfl) _ (Drop.refl _ _) ?_
  simp -dsimp -implicitDefEqProofs (disch := first|with_reducible assumption|omega) [go_sem, g30, g31, g32]
  have b1 := byte_of hy
  have b2 := byte_of hn
  have sy : (setB md.yes mem).length = md.yes.length := by simp [setB]
  have sn : (setB md.no mem).length = md.no.length := by simp [setB]
  refine Spec.ap (set_any _ _ hy (by omega) hmem.1 (by omega) (by omega) fun h2 r2 le2 i2 ap => ?_)
  simp only [Ap] at ap
  obtain ⟨ap2o, ap27, ap26, _⟩ := ap
  obtain ⟨ra2, rc2, rfl, _⟩ := i2.open
  refine xkp (Drop.forget le2) ?_
  simp -dsimp -implicitDefEqProofs (disch := first|with_reducible assumption|omega) [go_sem, g30, g31, g32]
  refine xanyl (.tk 0 (.tk 1 (.tk 2 (.tkl 3 (.tkl 4 (.or true 5 (.tk 6 (.tk 7 (.tk 8 (.tk 9 (.tk 10 (.fin)))))) (.nil))))))) (by kernel_rfl) (by kernel_rfl) _ (Drop.refl _ _) ?_
  simp -dsimp -implicitDefEqProofs (disch := first|with_reducible assumption|omega) [go_sem, g30, g31, g32]
  refine Spec.ap (set_any _ _ (hn.up le2) (by omega) hmem.1 (by omega) (by omega) fun h3 r3 le3 i3 ap => ?_)
  simp only [Ap] at ap
  obtain ⟨ap3o, ap37, ap36, _⟩ := ap
  obtain ⟨ra3, rc3, rfl, _⟩ := i3.open
  have le23 := le2.trans le3
  first | refine xkp (Drop.forget le3) ?_ | skip
  simp -dsimp -implicitDefEqProofs (disch := first|with_reducible assumption|omega) [go_sem, g30, g31, g32]
  refine mwi_any _ _ _ ?_
  rw [show wi mem 0 127 = true from wi_iff.2 hmem]
  simp -dsimp -implicitDefEqProofs (disch := first|with_reducible assumption|omega) [go_sem, g30, g31, g32]
  refine xanyl (.tk 0 (.tk 1 (.tk 2 (.tkl 3 (.tkl 4 (.or true 5 (.tk 6 (.tk 7 (.tk 8 (.tk 9 (.tkl 10 (.tkl 11 (.or true 12 (.tk 13 (.tk 14 (.fin))) (.nil)))))))) (.nil))))))) (by kernel_rfl) (by kernel_rfl) _ (Drop.refl _ _) ?_
  simp -dsimp -implicitDefEqProofs (disch := first|with_reducible assumption|omega) [go_sem, g30, g31, g32]
  refine get_any _ _ (hy.up le23) (by omega) ?_
  first | refine xkp (Drop.refl _ _) ?_ | skip
  have fin1 : ∀ e, e = 231 → (getB md.yes mem || getB md.no mem) = true → voteC md mem yes = (md, e) := fun e he hb => by
   rw [voteC, if_neg (by simp [c1]), hb, if_pos rfl, he]
  have fin2 : (getB md.yes mem || getB md.no mem) = false → voteC md mem yes = if yes then ({ md with yes := setB md.yes mem }, 0) else ({ md with no := setB md.no mem }, 0) := fun hb => by
   rw [voteC, if_neg (by simp [c1]), hb, if_neg (by decide)]
  cases g1 : getB md.yes mem with
  | true =>
   have := stay h3 231 le23 (fin1 _ rfl (by rw [g1]; rfl))
   simp -dsimp -implicitDefEqProofs (disch := first|with_reducible assumption|omega) [go_sem, g30, g31, g32]
   exact fin_here this
  | false =>
  simp -dsimp -implicitDefEqProofs (disch := first|with_reducible assumption|omega) [go_sem, g30, g31, g32]
  refine get_any _ _ (hn.up le23) (by omega) ?_
  first | refine xkp (Drop.refl _ _) ?_ | skip
  cases g2 : getB md.no mem with
  | true =>
   have := stay h3 231 le23 (fin1 _ rfl (by rw [g1, g2]; rfl))
   simp -dsimp -implicitDefEqProofs (disch := first|with_reducible assumption|omega) [go_sem, g30, g31, g32]
   exact fin_here this
  | false =>
  have f2 := fin2 (by rw [g1, g2]; rfl)
  have hyl : md.yes.length = 16 := hvk.1
  have hnl : md.no.length = 16 := hvk.2
  cases yes with
  | true =>
   rw [if_pos rfl] at f2
   rw [sy]
   simp -dsimp -implicitDefEqProofs (disch := first|with_reducible assumption|omega) [go_sem, g30, g31, g32]
   have e1 := hset1 ra2 rc2 na nc { md with yes := setB md.yes mem } rfl rfl rfl rfl rfl rfl rfl rfl rfl rfl rfl sy
   refine ⟨by omega, ?_⟩
   refine finCs e1 (fin_here ?_)
   have := hk h3 (ql.set k (.slice ra2 (setB md.yes mem).length rc2, .slice na md.no.length nc, { md with yes := setB md.yes mem })) le23 (by rw [List.length_set]) (by rw [setQ_map hkl, f2]) (setQ_ok (fun x hx => (hm x hx).up le23) ⟨i2.up le3, hn.up le23, ⟨hok.a, hok.n, hok.p⟩⟩)
   rw [f2] at this
   exact this
  | false =>
   rw [if_neg (by decide)] at f2
   rw [sn]
   simp -dsimp -implicitDefEqProofs (disch := first|with_reducible assumption|omega) [go_sem, g30, g31, g32]
   have e1 := hset2 ya yc ra3 rc3 { md with no := setB md.no mem } rfl rfl rfl rfl rfl rfl rfl rfl rfl rfl rfl sn
   refine ⟨by omega, ?_⟩
   refine finCs e1 (fin_here ?_)
   have := hk h3 (ql.set k (.slice ya md.yes.length yc, .slice ra3 (setB md.no mem).length rc3, { md with no := setB md.no mem })) le23 (by rw [List.length_set]) (by rw [setQ_map hkl, f2]) (setQ_ok (fun x hx => (hm x hx).up le23) ⟨hy.up le23, i3, ⟨hok.a, hok.n, hok.p⟩⟩)
   rw [f2] at this
   exact this
 ·have := stay h 232 (PH.le_refl _) (by rw [voteC, if_pos c1])
  simp -dsimp -implicitDefEqProofs (disch := first|with_reducible assumption|omega) [go_sem]
  exact fin_here this
def voteP (ms : List MotD) (i mem : Int) (yes : Bool) : List MotD × Int :=
 if wi i 0 ((ms.length : Int) - 1) then (if (voteC (gr zeroMot ms i.toNat) mem yes).2 = 0 then (ms.set i.toNat (voteC (gr zeroMot ms i.toNat) mem yes).1, 0) else ([], (voteC (gr zeroMot ms i.toNat) mem yes).2)) else ([], 230)
theorem voteC_code (m : MotD) (mem : Int) (yes : Bool) : (voteC m mem yes).2 = 0 ∨ (voteC m mem yes).2 = 231 ∨ (voteC m mem yes).2 = 232 := by
 unfold voteC
 split
 ·exact Or.inr (Or.inr rfl)
 ·split
  ·exact Or.inr (Or.inl rfl)
  ·split <;> exact Or.inl rfl
theorem mchV_any {ql : List QM} {ms : List MotD} {b6 b7 : Nat} (v : Value) (hv : Recs motC 33 h v ql) (hq : ql.map (fun x => x.2.2) = ms) (hm : MotsOk h ql) (hl : ql.length ≤ 1000) (hb : ∀ m ∈ ms, m.yes.length = 16 ∧ m.no.length = 16) (i mem : Int) (hi : -9223372036854775808 ≤ i ∧ i ≤ 9223372036854775807) (hmem : 0 ≤ mem ∧ mem ≤ 127) (yes : Bool)
  (hk : ∀ h' r ql', PH.le h h' → Recs motC 33 h' r ql' → ql'.map (fun x => x.2.2) = (voteP ms i mem yes).1 → MotsOk h' ql' → K (.tuple #[r, .int .i64 (voteP ms i mem yes).2]) L h') :
  Spec Tryz.prog 212 [v, .int .i64 i, .func (.func 213) #[] #[.pointer (some ⟨b6, 0, none⟩), .pointer (some ⟨b7, 0, none⟩)]] (mvY b7 yes :: mvN b6 mem :: L) h K := by
 have hql : ql.length = ms.length := by rw [← hq, List.length_map]
 have hv0 := hv
 obtain ⟨va, vc, rfl, _⟩ := hv.open
 have bad : ∀ h' e, PH.le h h' → voteP ms i mem yes = ([], e) → K (.tuple #[.slice none 0 0, .int .i64 e]) L h' := fun h' e le eq => by
  have := hk h' (.slice none 0 0) [] le (Recs.nil motC_len h') (by rw [eq]; rfl) (fun x hx => by cases hx)
  rw [eq] at this
  exact this
 refine x_enterA Tryz.func212 rfl (rs := [_, _]) rfl rfl mixed (by kernel_rfl) rfl rfl fun ap nd => ?_
 obtain ⟨ap7, ap6, apl⟩ := ap
 simp only [Nd, Apart] at nd
 obtain ⟨⟨nd1, nd2⟩, _⟩ := nd
 simp -dsimp -implicitDefEqProofs (disch := first|with_reducible assumption|omega) [go_sem]
 refine mwi_any _ _ _ ?_
 rw [hql] at hv0 ⊢
 cases q1 : wi i 0 ((ms.length : Int) - 1) with
 | false =>
  have := bad h 230 (PH.le_refl _) (by rw [voteP, q1]; rfl)
  simp -dsimp -implicitDefEqProofs (disch := first|with_reducible assumption|omega) [go_sem]
  exact fin_tail (fin_tail (fin_here this))
 | true =>
 have q1' := wi_iff.1 q1
 obtain ⟨k, rfl⟩ := Int.eq_ofNat_of_zero_le q1'.1
 have hkl : k < ms.length := by omega
 have ev : voteP ms k mem yes = if (voteC (gr zeroMot ms k) mem yes).2 = 0 then (ms.set k (voteC (gr zeroMot ms k) mem yes).1, 0) else ([], (voteC (gr zeroMot ms k) mem yes).2) := by
  rw [voteP, q1, if_pos rfl]; rfl
 simp -dsimp -implicitDefEqProofs (disch := first|with_reducible assumption|omega) [go_sem]
 refine Spec.apn (mown_any _ hv0 hq hm hl (fun m hm => by have := hb m hm; omega) fun h5 o ql' le5 oko apo eq' mo' ap nd => ?_)
 have hql' : ql'.length = ms.length := by rw [← eq', List.length_map]
 obtain ⟨bo, co, rfl⟩ : ∃ bt cap, o = some (bt, cap) := by
  cases o with
  | none => have : ms.length = 0 := oko; omega
  | some p => exact ⟨_, _, rfl⟩
 have hbo : h5 bo = noC := apo.2
 obtain ⟨_, ap57, ap56, _⟩ := ap
 rw [oent_some]
 simp only [ovs]
 simp -dsimp -implicitDefEqProofs (disch := first|with_reducible assumption|omega) [go_sem]
 have egr : (gr zeroQM ql' k).2.2 = gr zeroMot ms k := by
  rw [gr_lt (by omega), gr_lt hkl]
  subst eq'
  simp
 refine Spec.ap (vcl_any (by omega) (by omega) mo' (fun x hx => hb _ (by rw [← eq']; exact List.mem_map_of_mem hx)) hmem fun h6 ql2 le6 l2 e2 m2 ap => ?_)
 have hbo6 : h6 bo = noC := ap.1
 clear ap
 rw [egr] at e2 ⊢
 rw [eq'] at e2
 have ec := voteC_code (gr zeroMot ms k) mem yes
 obtain ⟨c, hc⟩ : ∃ c, c = voteC (gr zeroMot ms k) mem yes := ⟨_, rfl⟩
 rw [← hc] at e2 ev ec ⊢
 obtain ⟨cm, ce⟩ := c
 simp only at e2 ev ec ⊢
 by_cases c0 : ce = 0
 ·subst c0
  rw [if_pos rfl] at ev
  simp -dsimp -implicitDefEqProofs (disch := first|with_reducible assumption|omega) [go_sem]
  have hl2 : ql2.length = ms.length := by rw [l2, hql']
  refine fin_pub (e := 111) (sz := 33) (n := ms.length) (o := some (bo, co)) oko (by rw [flatG_len motC_len, hl2]) (by omega) (L0 := []) ⟨trivial, hbo6⟩ fun h7 le7 sl => fin_tail (fin_tail (fin_here ?_))
  have := hk h7 _ ql2 ((le5.trans le6).trans le7) (by have := Recs.pub (f := motC) (w := 33) (l := ql2) (o := some (bo, co)) motC_len (by rw [hl2]; exact sl); rwa [hl2] at this) (by rw [ev]; exact e2) (fun x hx => (m2 x hx).up le7)
  rw [ev] at this
  exact this
 ·rw [if_neg c0] at ev
  have := bad h6 ce (le5.trans le6) ev
  simp -dsimp -implicitDefEqProofs (disch := first|with_reducible assumption|omega) [go_sem]
  exact fin_tail (fin_tail (fin_tail (fin_here this)))
theorem mvote_any {ql : List QM} {ms : List MotD} (v : Value) (hv : Recs motC 33 h v ql) (hq : ql.map (fun x => x.2.2) = ms) (hm : MotsOk h ql) (hl : ql.length ≤ 1000) (hb : ∀ m ∈ ms, m.yes.length = 16 ∧ m.no.length = 16) (i mem : Int) (hi : -9223372036854775808 ≤ i ∧ i ≤ 9223372036854775807) (hmem : 0 ≤ mem ∧ mem ≤ 127) (yes : Bool)
  (hk : ∀ h' r ql', PH.le h h' → Recs motC 33 h' r ql' → ql'.map (fun x => x.2.2) = (voteP ms i mem yes).1 → MotsOk h' ql' → K (.tuple #[r, .int .i64 (voteP ms i mem yes).2]) L h') :
  Spec Tryz.prog 174 [v, .int .i64 i, .int .i64 mem, .bool yes] L h K := by
 refine x_enter Tryz.func174 rfl (rs := [_, _]) rfl rfl mixed (by kernel_rfl) rfl rfl ?_
 simp -dsimp -implicitDefEqProofs (disch := first|with_reducible assumption|omega) [go_sem]
 refine xnew fun b6 n_b6 h_b6 => ?_
 try simp only [Apart] at n_b6
 simp -dsimp -implicitDefEqProofs (disch := first|with_reducible assumption|omega) [go_sem]
 refine xnew fun b7 n_b7 h_b7 => ?_
 try simp only [Apart] at n_b7
 simp -dsimp -implicitDefEqProofs (disch := first|with_reducible assumption|omega) [go_sem]
 refine mchV_any v hv hq hm hl hb i mem hi hmem yes fun h' r ql' le i1 i2 i3 => ?_
 have := hk h' r ql' le i1 i2 i3
 simp -dsimp -implicitDefEqProofs (disch := first|with_reducible assumption|omega) [go_sem]
 exact fin_here this
end Go.X

/- Lemmas and contracts for a statement about the given program. Conditions: as each says. -/
import Derived.Test.YtkmojeioedjfkaaGreatQ28
set_option linter.unusedVariables false
set_option linter.unusedSimpArgs false
set_option maxHeartbeats 12800000
set_option maxRecDepth 20000
namespace Go.X
open Go.RowKit Go.Proofs Go.Bl
variable {L : Own} {h : PH} {K : PK}
theorem apO_upJ {e sz : Nat} {o : Option (Nat × Nat)} {xs : List Value} {M L : Own} {h h' : PH} (ha : apO o M h) (ap : Ap (oent e sz o xs L) h') : apO o M h' := by
 cases o with
 | none => trivial
 | some p => exact ⟨ha.1, ap.1⟩
theorem slice_oneJ {v : Value} {h : PH} {k : IntKind} {xs : List Int} (hx : Ints h k v xs) : v.oneCell' = true := by
 obtain ⟨a, c, rfl, _⟩ := hx.open
 rfl
theorem motC_oneJ {h : PH} (y n : Value) (m : MotD) (hy : Ints h .u8 y m.yes) (hn : Ints h .u8 n m.no) : ∀ u ∈ motC (y, n, m), u.oneCell' = true := fun u hu => by
 have h1 := slice_oneJ hy
 have h2 := slice_oneJ hn
 simp only [motC, parC, List.mem_cons, List.mem_append, List.not_mem_nil, or_false] at hu
 rcases hu with rfl | rfl | hu | hu
 ·rfl
 ·rfl
 ·obtain rfl | rfl | rfl | rfl | rfl | rfl | rfl | rfl | rfl | rfl | rfl | rfl | rfl | rfl | rfl | rfl | rfl | rfl | rfl | rfl | rfl | rfl | rfl | rfl := hu <;> rfl
 ·obtain rfl | rfl | rfl | rfl | rfl | rfl | rfl := hu
  ·rfl
  ·rfl
  ·rfl
  ·rfl
  ·rfl
  ·exact h1
  ·exact h2
def MotI (h : PH) (x : QM) : Prop := Ints h .u8 x.1 x.2.2.yes ∧ Ints h .u8 x.2.1 x.2.2.no
theorem MotI.up {h h' : PH} (le : PH.le h h') {x : QM} (hx : MotI h x) : MotI h' x := ⟨hx.1.up le, hx.2.up le⟩
def StrI (h : PH) (x : QS) : Prop := Ints h .u8 x.1 x.2
theorem StrI.up {h h' : PH} (le : PH.le h h') {x : QS} (hx : StrI h x) : StrI h' x := Ints.up le hx
theorem lmot_r {bx br b1 b2 ty cp off : Nat} {v : Value} {xs : List Int} {r : RS} {cs : List Value} (hx : Ints h .u8 v xs) (hs : r.1.1 ≤ xs.length) (hty : ty ≠ 4294967295) (hn : cs[off]? = some (.slice none 0 0))
  (hk : ∀ h' w (l : List QM), PH.le h h' → l.map (fun x => x.2.2) = (lsR xs (rdMot xs) r).1 → Recs motC 33 h' w l → (∀ x ∈ l, MotI h' x) → K (.tuple #[]) (irO bx br v (lsR xs (rdMot xs) r).2 (⟨b1, ty, cs.set off w, cp⟩ :: penBr b2 bx :: L)) h') :
  Spec Tryz.prog 103 [penR bx, .pointer (some ⟨b1, off, none⟩), .func (.func 104) #[] #[.pointer (some ⟨b2, 0, none⟩)]] (irO bx br v r (⟨b1, ty, cs, cp⟩ :: penBr b2 bx :: L)) h K := by
 have hz := byte_of hx
 have hoc := (List.getElem?_eq_some_iff.1 hn).1
 refine x_enterA Tryz.func103 rfl (rs := []) rfl rfl mixed (by kernel_rfl) rfl rfl fun ap nd => ?_
 obtain ⟨apr, apx, ap1, ap2, apl⟩ := ap
 simp only [Nd, Apart] at nd
 obtain ⟨⟨nd1, nd2, nd3, nd4⟩, ⟨nd5, nd6, nd7⟩, ⟨nd8, nd9⟩, ndL⟩ := nd
 simp -dsimp -implicitDefEqProofs (disch := first|with_reducible assumption|omega) [go_sem]
 refine xanyl (.tk 0 (.tk 1 (.tk 2 (.tk 5 (.tk 6 (.tk 7 (.tkl 3 (.tk 4 (.or true 8 (.tk 9 (.fin)) (.nil)))))))))) (by kernel_rfl) (by kernel_rfl) [⟨b1, ty, cs, cp⟩] (Drop.mem (by simp)) ?_
 simp -dsimp -implicitDefEqProofs (disch := first|with_reducible assumption|omega) [go_sem, xNth_of hn, pnR_count bx]
 refine xcallI (penR_count bx) ?_
 refine icount_r _ hx hs ?_
 have s1 := (cod_num hz (most := 131072) (by decide) (by decide)).pos r hs
 unfold lsR at hk
 obtain ⟨q, eq⟩ : ∃ q, q = iN xs 131072 r := ⟨_, rfl⟩
 rw [← eq] at s1 hk ⊢
 obtain ⟨z, r1⟩ := q
 simp only at s1 hk ⊢
 obtain ⟨s1, s2, s3⟩ := s1
 obtain ⟨N, rfl⟩ := Int.eq_ofNat_of_zero_le s2
 rw [Int.toNat_natCast] at hk
 refine xkp (Drop.mem (by simp)) ?_
 simp -dsimp -implicitDefEqProofs (disch := first|with_reducible assumption|omega) [go_sem]
 refine xloop (γ := Nat × PH × Option (Nat × Nat) × List QM × RS) (0, h, none, [], r1)
  (fun x => x.1 ≤ N ∧ PH.le h x.2.1 ∧ x.2.2.2.1.length = x.1 ∧ okO x.2.2.1 x.1 ∧ x.2.2.2.2.1.1 ≤ xs.length ∧ lpR (rdMot xs) N r1 = (x.2.2.2.1.map (fun x => x.2.2) ++ (lpR (rdMot xs) (N - x.1) x.2.2.2.2).1, (lpR (rdMot xs) (N - x.1) x.2.2.2.2).2) ∧ apO x.2.2.1 (irO bx br v x.2.2.2.2 (⟨b1, ty, cs.set off (ovs x.2.2.1 x.1), cp⟩ :: penBr b2 bx :: L)) x.2.1 ∧ (∀ a ∈ x.2.2.2.1, MotI x.2.1 a) ∧ x.2.1 br = noC ∧ x.2.1 bx = noC ∧ x.2.1 b1 = noC ∧ x.2.1 b2 = noC)
  (fun x => [(21, .int .i64 x.1), (20, .int .i64 N), (0, penR bx), (1, .pointer (some ⟨b1, off, none⟩)), (2, .func (.func 104) #[] #[.pointer (some ⟨b2, 0, none⟩)])])
  (fun x => irO bx br v x.2.2.2.2 (⟨b1, ty, cs.set off (ovs x.2.2.1 x.1), cp⟩ :: penBr b2 bx :: oent 111 33 x.2.2.1 (x.2.2.2.1.flatMap motC) L)) (fun x => x.2.1) (fun x => N - x.1) ?_ ?_ ?_ ?_
 ·exact ⟨Nat.zero_le _, PH.le_refl _, rfl, rfl, s1, by simp, trivial, (fun a ha => by cases ha), apr, apx, ap1, ap2⟩
 ·simp [Ent, List.lookup, xEnv]
 ·show Drop _ _ (irO bx br v r1 (⟨b1, ty, cs.set off (.slice none 0 0), cp⟩ :: penBr b2 bx :: L)) _
  rw [set_self hn]
  exact Drop.refl _ _
 clear apr apx ap1 ap2
 rintro ⟨k, hh, o, l, rr⟩ ⟨i1, ile, i2, i3, i4, i5, i6, i7, apr, apx, ap1, ap2⟩
 simp only at i1 ile i2 i3 i4 i5 i6 i7 apr apx ap1 ap2 ⊢
 have hst : (cs.set off (ovs o k))[off]? = some (ovs o k) := by rw [List.getElem?_set_self hoc]
 have fin : lpR (rdMot xs) N r1 = (l.map (fun x => x.2.2), rr) → K (.tuple #[]) (irO bx br v rr (⟨b1, ty, cs.set off (ovs o k), cp⟩ :: penBr b2 bx :: L)) (pubO hh o (l.flatMap motC)) := fun e => by
  have sl := pub_sl (h := hh) (sz := 33) (n := k) (o := o) (xs := l.flatMap motC) i3 (by rw [flatG_len motC_len, i2]) (by omega)
  have lep := pub_le_o i6 (l.flatMap motC)
  have := hk (pubO hh o (l.flatMap motC)) (ovs o k) l (ile.trans lep) (by rw [e]) (⟨motC_len, by simpa [i2] using sl⟩) (fun x hx => (i7 x hx).up lep)
  rw [e] at this
  exact this
 have dr : Drop (irO bx br v rr (⟨b1, ty, cs.set off (ovs o k), cp⟩ :: penBr b2 bx :: oent 111 33 o (l.flatMap motC) L)) hh (irO bx br v rr (⟨b1, ty, cs.set off (ovs o k), cp⟩ :: penBr b2 bx :: L)) (pubO hh o (l.flatMap motC)) :=
  (Drop.perm hh (oent_front 111 33 o (l.flatMap motC) [_, _, _, _] L)).trans (pub_drop_o o (l.flatMap motC) _ hh (by decide))
 by_cases c1 : k < N
 ·obtain ⟨oa, oc, eo, _⟩ := ovs_open i3
  have hlen : ∀ (K : Value → Prop) (t : Tok K), xLen Tryz.prog 3 #[37] (ovs o k) K t = K (.int .i64 k) := fun K t => by rw [eo]; exact xLen_slice (e := 111) (by kernel_rfl) oa k oc
  simp -dsimp -implicitDefEqProofs (disch := first|with_reducible assumption|omega) [go_sem, xNth_of hst, xTA_reader bx, hlen]
  refine igood_r ?_
  by_cases g : Gd rr
  ·obtain ⟨g1, g2⟩ := g
   simp -dsimp -implicitDefEqProofs (disch := first|with_reducible assumption|omega) [go_sem, g1, g2]
   refine xnew fun bn n_bn h_bn => ?_
   simp only [Apart] at n_bn
   obtain ⟨n_br, n_bx, n_b1, n_b2, n_bo⟩ := n_bn
   simp -dsimp -implicitDefEqProofs (disch := first|with_reducible assumption|omega) [go_sem]
   refine Spec.weaken (Drop.perm hh ((List.Perm.swap _ _ _).trans (List.Perm.cons _ (List.Perm.swap _ _ _)))) ?_
   have pp := (cod_mot hz).pos rr i4
   have nx : lpR (rdMot xs) (N - k) rr = (((rdMot xs) rr).1 :: (lpR (rdMot xs) (N - (k + 1)) ((rdMot xs) rr).2).1, (lpR (rdMot xs) (N - (k + 1)) ((rdMot xs) rr).2).2) := by
    rw [show N - k = (N - (k + 1)) + 1 by omega, lpR, if_pos ⟨g1, g2⟩]
   rw [nx] at i5
   obtain ⟨q, eq2⟩ : ∃ q, q = (rdMot xs) rr := ⟨_, rfl⟩
   rw [← eq2] at pp i5
   clear apr apx ap1 ap2 h_bn
   refine Spec.apn (cl7_r (hx.up ile) i4 (List.mem_cons_of_mem _ List.mem_cons_self) fun h2 wy wn le2 iy in1 ap nd => ?_)
   obtain ⟨apr, apx, h_bn, ap1, ap2, apo⟩ := ap
   clear nd
   rw [← eq2] at iy in1 ⊢
   have i6' := apO_upJ i6 apo
   skip
   have i7' : ∀ x ∈ l ++ [(wy, wn, q.1)], MotI h2 x := fun x hx => by
    rcases List.mem_append.1 hx with hx | hx
    ·exact (i7 x hx).up le2
    ·rw [List.mem_singleton.1 hx]; exact ⟨iy, in1⟩
   simp -dsimp -implicitDefEqProofs (disch := first|with_reducible assumption|omega) [go_sem]
   refine xanyl (.tk 0 (.tk 1 (.tk 2 (.tkl 3 (.tkl 4 (.or true 5 (.or true 6 (.tk 7 (.or false 8 (.fin) (.nil))) (.nil)) (.nil))))))) (by kernel_rfl) (by kernel_rfl) [⟨bn, 111, motC (wy, wn, q.1), 33⟩, ⟨b1, ty, cs.set off (ovs o k), cp⟩] (Drop.sub (sub2 _ _ _ _ _)) ?_
   simp -dsimp -implicitDefEqProofs (disch := first|with_reducible assumption|omega) [go_sem, xNth_of hst, motC]
   refine xnew fun b5 n_b5 h_b5 => ?_
   simp only [Apart] at n_b5
   obtain ⟨n_5r, n_5x, n_5n, n_51, n_52, n_5o⟩ := n_b5
   first | refine xkp ((Drop.tail _ _ _).trans (Drop.sub (sub2 _ _ _ _ _))) ?_ | skip
   simp -dsimp -implicitDefEqProofs (disch := first|with_reducible assumption|omega) [go_sem]
   refine xappend (t := 37) (e := 111) (sz := 33) (bytes := 296) (by kernel_rfl) tI_111 rfl rfl rfl rfl (by decide) [_, _, _, _, _, _] L o k (l.flatMap motC) i3 (by rw [flatG_len motC_len, i2]) (Src.own List.mem_cons_self) (m := 1) (news := motC (wy, wn, q.1)) rfl (motC_oneJ wy wn q.1 iy in1) (by simp [maxLen]; omega) (by omega) ?_
   intro o' j1 j2 j3
   simp only [List.cons_append, List.nil_append] at j2 ⊢
   refine xkp ((Drop.tail _ _ _).trans (Drop.sub (sub2 _ _ _ _ _))) ?_
   have hlen2 : off + 1 ≤ (cs.set off (ovs o k)).length := by rw [List.length_set]; omega
   obtain ⟨oa2, oc2, eo2, _⟩ := ovs_open j1
   rw [eo2]
   simp -dsimp -implicitDefEqProofs (disch := first|with_reducible assumption|omega) [go_sem]
   refine ⟨by omega, ?_⟩
   first | rw [← eo2, List.set_set] | rw [← eo2]
   first | refine xkp (Drop.refl _ _) ?_ | skip
   first | simp -dsimp -implicitDefEqProofs (disch := first|with_reducible assumption|omega) [go_sem] | skip
   refine ⟨k + 1, h2, o', l ++ [(wy, wn, q.1)], q.2.1.1, q.2.1.2, q.2.2, ⟨by omega, ile.trans le2, by simp [i2], j1, pp.1, ?_, apO_sub (.cons _ (.cons_cons _ (.cons_cons _ (.cons _ (List.Sublist.refl _))))) j2, fun a b c hx => i7' _ hx, apr, apx, ap1, ap2⟩, by omega, by simp [Ent, List.lookup], ?_⟩
   ·rw [i5]; simp
   ·rw [List.flatMap_append, List.flatMap_cons, List.flatMap_nil, List.append_nil]
    exact Drop.sub (.cons _ (.cons_cons _ (.cons_cons _ (.cons _ (List.Sublist.refl _)))))
  ·have e0 := lpR_bad (f := (rdMot xs)) g (N - k)
   rw [e0, List.append_nil] at i5
   have gg : (decide (rr.2 = 0) && decide (rr.1.2 = 0)) = false := by
    cases hh : (decide (rr.2 = 0) && decide (rr.1.2 = 0)) with
    | false => rfl
    | true =>
     simp only [Bool.and_eq_true, decide_eq_true_eq] at hh
     exact absurd ⟨hh.1, hh.2⟩ g
   simp -dsimp -implicitDefEqProofs (disch := first|with_reducible assumption|omega) [go_sem, gg]
   exact ⟨_, _, dr, fin i5⟩
 ·have hkN : k = N := by omega
  subst hkN
  rw [Nat.sub_self] at i5
  simp only [lpR, List.append_nil] at i5
  simp -dsimp -implicitDefEqProofs (disch := first|with_reducible assumption|omega) [go_sem]
  exact ⟨_, _, dr, fin i5⟩
theorem lstr_r {bx br b1 b2 ty cp off : Nat} {v : Value} {xs : List Int} {r : RS} {cs : List Value} (hx : Ints h .u8 v xs) (hs : r.1.1 ≤ xs.length) (hty : ty ≠ 4294967295) (hn : cs[off]? = some (.slice none 0 0))
  (hk : ∀ h' w (l : List QS), PH.le h h' → l.map (fun x => x.2) = (lsR xs (iR xs) r).1 → Sl h' w l.length 1 (vsL l) → (∀ x ∈ l, StrI h' x) → K (.tuple #[]) (irO bx br v (lsR xs (iR xs) r).2 (⟨b1, ty, cs.set off w, cp⟩ :: penBr b2 bx :: L)) h') :
  Spec Tryz.prog 106 [penR bx, .pointer (some ⟨b1, off, none⟩), .func (.func 107) #[] #[.pointer (some ⟨b2, 0, none⟩)]] (irO bx br v r (⟨b1, ty, cs, cp⟩ :: penBr b2 bx :: L)) h K := by
 have hz := byte_of hx
 have hoc := (List.getElem?_eq_some_iff.1 hn).1
 refine x_enterA Tryz.func106 rfl (rs := []) rfl rfl mixed (by kernel_rfl) rfl rfl fun ap nd => ?_
 obtain ⟨apr, apx, ap1, ap2, apl⟩ := ap
 simp only [Nd, Apart] at nd
 obtain ⟨⟨nd1, nd2, nd3, nd4⟩, ⟨nd5, nd6, nd7⟩, ⟨nd8, nd9⟩, ndL⟩ := nd
 simp -dsimp -implicitDefEqProofs (disch := first|with_reducible assumption|omega) [go_sem]
 refine xanyl (.tk 0 (.tk 1 (.tk 2 (.tk 5 (.tk 6 (.tk 7 (.tkl 3 (.tk 4 (.or true 8 (.tk 9 (.fin)) (.nil)))))))))) (by kernel_rfl) (by kernel_rfl) [⟨b1, ty, cs, cp⟩] (Drop.mem (by simp)) ?_
 simp -dsimp -implicitDefEqProofs (disch := first|with_reducible assumption|omega) [go_sem, xNth_of hn, pnR_count bx]
 refine xcallI (penR_count bx) ?_
 refine icount_r _ hx hs ?_
 have s1 := (cod_num hz (most := 131072) (by decide) (by decide)).pos r hs
 unfold lsR at hk
 obtain ⟨q, eq⟩ : ∃ q, q = iN xs 131072 r := ⟨_, rfl⟩
 rw [← eq] at s1 hk ⊢
 obtain ⟨z, r1⟩ := q
 simp only at s1 hk ⊢
 obtain ⟨s1, s2, s3⟩ := s1
 obtain ⟨N, rfl⟩ := Int.eq_ofNat_of_zero_le s2
 rw [Int.toNat_natCast] at hk
 refine xkp (Drop.mem (by simp)) ?_
 simp -dsimp -implicitDefEqProofs (disch := first|with_reducible assumption|omega) [go_sem]
 refine xloop (γ := Nat × PH × Option (Nat × Nat) × List QS × RS) (0, h, none, [], r1)
  (fun x => x.1 ≤ N ∧ PH.le h x.2.1 ∧ x.2.2.2.1.length = x.1 ∧ okO x.2.2.1 x.1 ∧ x.2.2.2.2.1.1 ≤ xs.length ∧ lpR (iR xs) N r1 = (x.2.2.2.1.map (fun x => x.2) ++ (lpR (iR xs) (N - x.1) x.2.2.2.2).1, (lpR (iR xs) (N - x.1) x.2.2.2.2).2) ∧ apO x.2.2.1 (irO bx br v x.2.2.2.2 (⟨b1, ty, cs.set off (ovs x.2.2.1 x.1), cp⟩ :: penBr b2 bx :: L)) x.2.1 ∧ (∀ a ∈ x.2.2.2.1, StrI x.2.1 a) ∧ x.2.1 br = noC ∧ x.2.1 bx = noC ∧ x.2.1 b1 = noC ∧ x.2.1 b2 = noC)
  (fun x => [(21, .int .i64 x.1), (20, .int .i64 N), (0, penR bx), (1, .pointer (some ⟨b1, off, none⟩)), (2, .func (.func 107) #[] #[.pointer (some ⟨b2, 0, none⟩)])])
  (fun x => irO bx br v x.2.2.2.2 (⟨b1, ty, cs.set off (ovs x.2.2.1 x.1), cp⟩ :: penBr b2 bx :: oent 38 1 x.2.2.1 (vsL x.2.2.2.1) L)) (fun x => x.2.1) (fun x => N - x.1) ?_ ?_ ?_ ?_
 ·exact ⟨Nat.zero_le _, PH.le_refl _, rfl, rfl, s1, by simp, trivial, (fun a ha => by cases ha), apr, apx, ap1, ap2⟩
 ·simp [Ent, List.lookup, xEnv]
 ·show Drop _ _ (irO bx br v r1 (⟨b1, ty, cs.set off (.slice none 0 0), cp⟩ :: penBr b2 bx :: L)) _
  rw [set_self hn]
  exact Drop.refl _ _
 clear apr apx ap1 ap2
 rintro ⟨k, hh, o, l, rr⟩ ⟨i1, ile, i2, i3, i4, i5, i6, i7, apr, apx, ap1, ap2⟩
 simp only at i1 ile i2 i3 i4 i5 i6 i7 apr apx ap1 ap2 ⊢
 have hst : (cs.set off (ovs o k))[off]? = some (ovs o k) := by rw [List.getElem?_set_self hoc]
 have fin : lpR (iR xs) N r1 = (l.map (fun x => x.2), rr) → K (.tuple #[]) (irO bx br v rr (⟨b1, ty, cs.set off (ovs o k), cp⟩ :: penBr b2 bx :: L)) (pubO hh o (vsL l)) := fun e => by
  have sl := pub_sl (h := hh) (sz := 1) (n := k) (o := o) (xs := vsL l) i3 (by rw [vsL_len, i2]; omega) (by omega)
  have lep := pub_le_o i6 (vsL l)
  have := hk (pubO hh o (vsL l)) (ovs o k) l (ile.trans lep) (by rw [e]) (by simpa [i2] using sl) (fun x hx => (i7 x hx).up lep)
  rw [e] at this
  exact this
 have dr : Drop (irO bx br v rr (⟨b1, ty, cs.set off (ovs o k), cp⟩ :: penBr b2 bx :: oent 38 1 o (vsL l) L)) hh (irO bx br v rr (⟨b1, ty, cs.set off (ovs o k), cp⟩ :: penBr b2 bx :: L)) (pubO hh o (vsL l)) :=
  (Drop.perm hh (oent_front 38 1 o (vsL l) [_, _, _, _] L)).trans (pub_drop_o o (vsL l) _ hh (by decide))
 by_cases c1 : k < N
 ·obtain ⟨oa, oc, eo, _⟩ := ovs_open i3
  have hlen : ∀ (K : Value → Prop) (t : Tok K), xLen Tryz.prog 3 #[39] (ovs o k) K t = K (.int .i64 k) := fun K t => by rw [eo]; exact xLen_slice (e := 38) (by kernel_rfl) oa k oc
  simp -dsimp -implicitDefEqProofs (disch := first|with_reducible assumption|omega) [go_sem, xNth_of hst, xTA_reader bx, hlen]
  refine igood_r ?_
  by_cases g : Gd rr
  ·obtain ⟨g1, g2⟩ := g
   simp -dsimp -implicitDefEqProofs (disch := first|with_reducible assumption|omega) [go_sem, g1, g2]
   refine xnew fun bn n_bn h_bn => ?_
   simp only [Apart] at n_bn
   obtain ⟨n_br, n_bx, n_b1, n_b2, n_bo⟩ := n_bn
   simp -dsimp -implicitDefEqProofs (disch := first|with_reducible assumption|omega) [go_sem]
   refine Spec.weaken (Drop.perm hh ((List.Perm.swap _ _ _).trans (List.Perm.cons _ (List.Perm.swap _ _ _)))) ?_
   have pp := (cod_raw hz).pos rr i4
   have nx : lpR (iR xs) (N - k) rr = (((iR xs) rr).1 :: (lpR (iR xs) (N - (k + 1)) ((iR xs) rr).2).1, (lpR (iR xs) (N - (k + 1)) ((iR xs) rr).2).2) := by
    rw [show N - k = (N - (k + 1)) + 1 by omega, lpR, if_pos ⟨g1, g2⟩]
   rw [nx] at i5
   obtain ⟨q, eq2⟩ : ∃ q, q = (iR xs) rr := ⟨_, rfl⟩
   rw [← eq2] at pp i5
   clear apr apx ap1 ap2 h_bn
   refine Spec.apn (cl8_r (hx.up ile) i4 (List.mem_cons_of_mem _ List.mem_cons_self) fun h2 wv le2 iv ap nd => ?_)
   obtain ⟨apr, apx, h_bn, ap1, ap2, apo⟩ := ap
   clear nd
   rw [← eq2] at iv ⊢
   have i6' := apO_upJ i6 apo
   obtain ⟨va, vc, rfl, _⟩ := iv.open
   have i7' : ∀ x ∈ l ++ [(.slice va q.1.length vc, q.1)], StrI h2 x := fun x hx => by
    rcases List.mem_append.1 hx with hx | hx
    ·exact (i7 x hx).up le2
    ·rw [List.mem_singleton.1 hx]; exact iv
   simp -dsimp -implicitDefEqProofs (disch := first|with_reducible assumption|omega) [go_sem]
   refine xanyl (.tk 0 (.tk 1 (.tk 2 (.tkl 3 (.tkl 4 (.or true 5 (.or true 6 (.tk 7 (.or false 8 (.fin) (.nil))) (.nil)) (.nil))))))) (by kernel_rfl) (by kernel_rfl) [⟨bn, 38, [.slice va q.1.length vc], 1⟩, ⟨b1, ty, cs.set off (ovs o k), cp⟩] (Drop.sub (sub2 _ _ _ _ _)) ?_
   simp -dsimp -implicitDefEqProofs (disch := first|with_reducible assumption|omega) [go_sem, xNth_of hst]
   refine xnew fun b5 n_b5 h_b5 => ?_
   simp only [Apart] at n_b5
   obtain ⟨n_5r, n_5x, n_5n, n_51, n_52, n_5o⟩ := n_b5
   first | refine xkp ((Drop.tail _ _ _).trans (Drop.sub (sub2 _ _ _ _ _))) ?_ | skip
   simp -dsimp -implicitDefEqProofs (disch := first|with_reducible assumption|omega) [go_sem]
   refine xappend (t := 39) (e := 38) (sz := 1) (bytes := 24) (by kernel_rfl) tI_38 rfl rfl rfl rfl (by decide) [_, _, _, _, _, _] L o k (vsL l) i3 (by rw [vsL_len, i2]; omega) (Src.own List.mem_cons_self) (m := 1) (news := [.slice va q.1.length vc]) rfl (by intro u hu; simp only [List.mem_singleton] at hu; subst hu; exact slice_oneJ iv) (by simp [maxLen]; omega) (by omega) ?_
   intro o' j1 j2 j3
   simp only [List.cons_append, List.nil_append] at j2 ⊢
   refine xkp ((Drop.tail _ _ _).trans (Drop.sub (sub2 _ _ _ _ _))) ?_
   have hlen2 : off + 1 ≤ (cs.set off (ovs o k)).length := by rw [List.length_set]; omega
   obtain ⟨oa2, oc2, eo2, _⟩ := ovs_open j1
   rw [eo2]
   simp -dsimp -implicitDefEqProofs (disch := first|with_reducible assumption|omega) [go_sem]
   refine ⟨by omega, ?_⟩
   first | rw [← eo2, List.set_set] | rw [← eo2]
   first | refine xkp (Drop.refl _ _) ?_ | skip
   first | simp -dsimp -implicitDefEqProofs (disch := first|with_reducible assumption|omega) [go_sem] | skip
   refine ⟨k + 1, h2, o', l ++ [(.slice va q.1.length vc, q.1)], q.2.1.1, q.2.1.2, q.2.2, ⟨by omega, ile.trans le2, by simp [i2], j1, pp.1, ?_, apO_sub (.cons _ (.cons_cons _ (.cons_cons _ (.cons _ (List.Sublist.refl _))))) j2, fun a b hx => i7' _ hx, apr, apx, ap1, ap2⟩, by omega, by simp [Ent, List.lookup], ?_⟩
   ·rw [i5]; simp
   ·rw [show vsL (l ++ [(.slice va q.1.length vc, q.1)]) = vsL l ++ [.slice va q.1.length vc] by simp [vsL]]
    exact Drop.sub (.cons _ (.cons_cons _ (.cons_cons _ (.cons _ (List.Sublist.refl _)))))
  ·have e0 := lpR_bad (f := (iR xs)) g (N - k)
   rw [e0, List.append_nil] at i5
   have gg : (decide (rr.2 = 0) && decide (rr.1.2 = 0)) = false := by
    cases hh : (decide (rr.2 = 0) && decide (rr.1.2 = 0)) with
    | false => rfl
    | true =>
     simp only [Bool.and_eq_true, decide_eq_true_eq] at hh
     exact absurd ⟨hh.1, hh.2⟩ g
   simp -dsimp -implicitDefEqProofs (disch := first|with_reducible assumption|omega) [go_sem, gg]
   exact ⟨_, _, dr, fin i5⟩
 ·have hkN : k = N := by omega
  subst hkN
  rw [Nat.sub_self] at i5
  simp only [lpR, List.append_nil] at i5
  simp -dsimp -implicitDefEqProofs (disch := first|with_reducible assumption|omega) [go_sem]
  exact ⟨_, _, dr, fin i5⟩
def scc (p : ParD) (v24 v25 v26 v27 v28 v29 v30 v31 v32 v33 v34 v35 v36 v37 v38 v39 v40 : Value) : List Value := parC p ++ [v24, v25, v26, v27, v28, v29, v30, v31, v32, v33, v34, v35, v36, v37, v38, v39, v40]
section
variable (p p' : ParD) (v24 v25 v26 v27 v28 v29 v30 v31 v32 v33 v34 v35 v36 v37 v38 v39 v40 x : Value)
theorem scc_len : (scc p v24 v25 v26 v27 v28 v29 v30 v31 v32 v33 v34 v35 v36 v37 v38 v39 v40).length = 41 := rfl
theorem scc_wr : wr (scc p v24 v25 v26 v27 v28 v29 v30 v31 v32 v33 v34 v35 v36 v37 v38 v39 v40) 0 (parC p') = scc p' v24 v25 v26 v27 v28 v29 v30 v31 v32 v33 v34 v35 v36 v37 v38 v39 v40 := by simp [scc, parC, wr]
theorem scc_s29 : (scc p v24 v25 v26 v27 v28 v29 v30 v31 v32 v33 v34 v35 v36 v37 v38 v39 v40).set 29 x = scc p v24 v25 v26 v27 v28 x v30 v31 v32 v33 v34 v35 v36 v37 v38 v39 v40 := rfl
theorem scc_g29 : (scc p v24 v25 v26 v27 v28 v29 v30 v31 v32 v33 v34 v35 v36 v37 v38 v39 v40)[29]? = some v29 := rfl
theorem scc_s30 : (scc p v24 v25 v26 v27 v28 v29 v30 v31 v32 v33 v34 v35 v36 v37 v38 v39 v40).set 30 x = scc p v24 v25 v26 v27 v28 v29 x v31 v32 v33 v34 v35 v36 v37 v38 v39 v40 := rfl
theorem scc_g30 : (scc p v24 v25 v26 v27 v28 v29 v30 v31 v32 v33 v34 v35 v36 v37 v38 v39 v40)[30]? = some v30 := rfl
theorem scc_s31 : (scc p v24 v25 v26 v27 v28 v29 v30 v31 v32 v33 v34 v35 v36 v37 v38 v39 v40).set 31 x = scc p v24 v25 v26 v27 v28 v29 v30 x v32 v33 v34 v35 v36 v37 v38 v39 v40 := rfl
theorem scc_g31 : (scc p v24 v25 v26 v27 v28 v29 v30 v31 v32 v33 v34 v35 v36 v37 v38 v39 v40)[31]? = some v31 := rfl
theorem scc_s32 : (scc p v24 v25 v26 v27 v28 v29 v30 v31 v32 v33 v34 v35 v36 v37 v38 v39 v40).set 32 x = scc p v24 v25 v26 v27 v28 v29 v30 v31 x v33 v34 v35 v36 v37 v38 v39 v40 := rfl
theorem scc_g32 : (scc p v24 v25 v26 v27 v28 v29 v30 v31 v32 v33 v34 v35 v36 v37 v38 v39 v40)[32]? = some v32 := rfl
theorem scc_s33 : (scc p v24 v25 v26 v27 v28 v29 v30 v31 v32 v33 v34 v35 v36 v37 v38 v39 v40).set 33 x = scc p v24 v25 v26 v27 v28 v29 v30 v31 v32 x v34 v35 v36 v37 v38 v39 v40 := rfl
theorem scc_g33 : (scc p v24 v25 v26 v27 v28 v29 v30 v31 v32 v33 v34 v35 v36 v37 v38 v39 v40)[33]? = some v33 := rfl
theorem scc_s34 : (scc p v24 v25 v26 v27 v28 v29 v30 v31 v32 v33 v34 v35 v36 v37 v38 v39 v40).set 34 x = scc p v24 v25 v26 v27 v28 v29 v30 v31 v32 v33 x v35 v36 v37 v38 v39 v40 := rfl
theorem scc_g34 : (scc p v24 v25 v26 v27 v28 v29 v30 v31 v32 v33 v34 v35 v36 v37 v38 v39 v40)[34]? = some v34 := rfl
theorem scc_s35 : (scc p v24 v25 v26 v27 v28 v29 v30 v31 v32 v33 v34 v35 v36 v37 v38 v39 v40).set 35 x = scc p v24 v25 v26 v27 v28 v29 v30 v31 v32 v33 v34 x v36 v37 v38 v39 v40 := rfl
theorem scc_g35 : (scc p v24 v25 v26 v27 v28 v29 v30 v31 v32 v33 v34 v35 v36 v37 v38 v39 v40)[35]? = some v35 := rfl
theorem scc_s36 : (scc p v24 v25 v26 v27 v28 v29 v30 v31 v32 v33 v34 v35 v36 v37 v38 v39 v40).set 36 x = scc p v24 v25 v26 v27 v28 v29 v30 v31 v32 v33 v34 v35 x v37 v38 v39 v40 := rfl
theorem scc_g36 : (scc p v24 v25 v26 v27 v28 v29 v30 v31 v32 v33 v34 v35 v36 v37 v38 v39 v40)[36]? = some v36 := rfl
theorem scc_s37 : (scc p v24 v25 v26 v27 v28 v29 v30 v31 v32 v33 v34 v35 v36 v37 v38 v39 v40).set 37 x = scc p v24 v25 v26 v27 v28 v29 v30 v31 v32 v33 v34 v35 v36 x v38 v39 v40 := rfl
theorem scc_g37 : (scc p v24 v25 v26 v27 v28 v29 v30 v31 v32 v33 v34 v35 v36 v37 v38 v39 v40)[37]? = some v37 := rfl
theorem scc_s38 : (scc p v24 v25 v26 v27 v28 v29 v30 v31 v32 v33 v34 v35 v36 v37 v38 v39 v40).set 38 x = scc p v24 v25 v26 v27 v28 v29 v30 v31 v32 v33 v34 v35 v36 v37 x v39 v40 := rfl
theorem scc_g38 : (scc p v24 v25 v26 v27 v28 v29 v30 v31 v32 v33 v34 v35 v36 v37 v38 v39 v40)[38]? = some v38 := rfl
theorem scc_s39 : (scc p v24 v25 v26 v27 v28 v29 v30 v31 v32 v33 v34 v35 v36 v37 v38 v39 v40).set 39 x = scc p v24 v25 v26 v27 v28 v29 v30 v31 v32 v33 v34 v35 v36 v37 v38 x v40 := rfl
theorem scc_g39 : (scc p v24 v25 v26 v27 v28 v29 v30 v31 v32 v33 v34 v35 v36 v37 v38 v39 v40)[39]? = some v39 := rfl
theorem scc_s40 : (scc p v24 v25 v26 v27 v28 v29 v30 v31 v32 v33 v34 v35 v36 v37 v38 v39 v40).set 40 x = scc p v24 v25 v26 v27 v28 v29 v30 v31 v32 v33 v34 v35 v36 v37 v38 v39 x := rfl
theorem scc_g40 : (scc p v24 v25 v26 v27 v28 v29 v30 v31 v32 v33 v34 v35 v36 v37 v38 v39 v40)[40]? = some v40 := rfl
end
theorem pmB (p a b c : Blk) (M : Own) : (p :: a :: b :: c :: M).Perm (a :: b :: c :: p :: M) := (List.perm_middle (l₁ := [a, b, c])).symm
theorem pmem (a b c p : Blk) (M : Own) : p ∈ a :: b :: c :: p :: M := by simp
def nth5 (xs : List Int) (r : RS) : Nat → RS
 | 0 => r
 | k + 1 => (i64 xs (nth5 xs r k)).2
theorem nth5_pos {xs : List Int} (hz : ∀ z ∈ xs, 0 ≤ z ∧ z ≤ 255) {r : RS} (hs : r.1.1 ≤ xs.length) : ∀ k, (nth5 xs r k).1.1 ≤ xs.length
 | 0 => hs
 | k + 1 => ((cod_64 hz).pos _ (nth5_pos hz hs k)).1
def c5 (xs : List Int) (r : RS) (j k : Nat) : Value := .int .u64 (if j < k then (i64 xs (nth5 xs r j)).1 else 0)
theorem through_r {bx br b1 : Nat} {v : Value} {xs : List Int} {r : RS} (hx : Ints h .u8 v xs) (hs : r.1.1 ≤ xs.length)
  (hk : ∀ h' w, PH.le h h' → IsSt h' w (rdS xs r).1 → K (.tuple #[]) (irO bx br v (rdS xs r).2 (⟨b1, 41, stC (rdS xs r).1 w, 41⟩ :: L)) h') :
  Spec Tryz.prog 32 [penR bx, .pointer (some ⟨b1, 0, none⟩)] (irO bx br v r (⟨b1, 41, stC zeroS nilV, 41⟩ :: L)) h K := by
 have hz := byte_of hx
 have hR := ((cod_st hz).pos r hs).2
 rw [show stC zeroS nilV = scc zeroP (.int .u64 0) (.int .u64 0) (.int .u64 0) (.int .u64 0) (.int .u64 0) (.int .i64 0) (.int .i64 0) (.bool false) (.slice none 0 0) (.slice none 0 0) (.slice none 0 0) (.slice none 0 0) (.slice none 0 0) (.slice none 0 0) (.slice none 0 0) (.slice none 0 0) (.slice none 0 0) from rfl]
 refine x_enterA Tryz.func32 rfl (rs := []) rfl rfl mixed (by kernel_rfl) rfl rfl fun ap nd => ?_
 obtain ⟨apr, apx, ap1, apl⟩ := ap
 simp only [Nd, Apart] at nd
 obtain ⟨⟨nd1, nd2, nd4⟩, ⟨nd5, nd7⟩, ⟨nd8, nd9⟩⟩ := nd
 simp -dsimp -implicitDefEqProofs (disch := first|with_reducible assumption|omega) [go_sem]
 refine xnew fun b2 n_b2 h_b2 => ?_
 simp only [Apart] at n_b2
 obtain ⟨n_2r, n_2x, n_21, n_2L⟩ := n_b2
 simp -dsimp -implicitDefEqProofs (disch := first|with_reducible assumption|omega) [go_sem]
 refine xanyl (.tk 1 (.tk 2 (.tk 3 (.tkl 0 (.tk 4 (.tk 5 (.tk 6 (.or true 7 (.fin) (.nil))))))))) (by kernel_rfl) (by kernel_rfl) [penBr b2 bx] (Drop.mem List.mem_cons_self) ?_
 simp -dsimp -implicitDefEqProofs (disch := first|with_reducible assumption|omega) [go_sem, pnR_params bx]
 refine xcallI (penR_params bx) ?_
 refine Spec.weaken (Drop.perm h (pmB _ _ _ _ _)) (Spec.apn (iparams_r hx hs (by decide) (by rw [scc_len]; decide) (scc_wr _ _ _ _ _ _ _ _ _ _ _ _ _ _ _ _ _ _ _ ) fun h1 le1 ap nd => ?_))
 obtain ⟨apr, apx, ap1, ap2, apl⟩ := ap
 clear nd
 rw [scc_wr]
 have s0 := ((cod_par hz).pos r hs)
 obtain ⟨q0, f0⟩ : ∃ q, q = iP xs r := ⟨_, rfl⟩
 rw [← f0] at s0 ⊢
 obtain ⟨s0, sp⟩ := s0
 refine xkp ((Drop.forget le1).trans (Drop.mem (pmem _ _ _ _ _))) ?_
 simp -dsimp -implicitDefEqProofs (disch := first|with_reducible assumption|omega) [go_sem]
 refine xany (.tk 0 (.tk 1 (.tk 2 (.tk 3 (.tk 4 (.tk 5 (.tk 6 (.tk 7 (.tk 8 (.tk 9 (.tk 10 (.tk 11 (.tk 12 (.tk 13 (.tk 14 (.tk 17 (.or true 15 (.tk 16 (.fin)) (.nil)))))))))))))))))) (by kernel_rfl) (by kernel_rfl) ?_
 simp -dsimp -implicitDefEqProofs (disch := first|with_reducible assumption|omega) [go_sem]
 refine xnew fun b29 n_b29 h_b29 => ?_
 simp only [Apart] at n_b29
 obtain ⟨n_9r, n_9x, n_91, n_92, n_9L⟩ := n_b29
 simp -dsimp -implicitDefEqProofs (disch := first|with_reducible assumption|omega) [go_sem]
 have aO : apO (some (b29, 5)) L h1 := ⟨n_9L, h_b29⟩
 have le2 := pub_le_o aO (ptrs b1 24 5)
 have sl := pub_sl (h := h1) (sz := 1) (n := 5) (o := some (b29, 5)) (xs := ptrs b1 24 5) ⟨Nat.le_refl _, by show 5 ≤ maxLen; decide⟩ rfl (by decide)
 obtain ⟨ax, cx, ex, _, hcs⟩ := sl.openp
 injection ex with ex1 _ ex2
 subst ex1 ex2
 have apr := pubO_noC (o := some (b29, 5)) (xs := ptrs b1 24 5) (fun e => n_9r e.symm) apr
 have apx := pubO_noC (o := some (b29, 5)) (xs := ptrs b1 24 5) (fun e => n_9x e.symm) apx
 have ap1 := pubO_noC (o := some (b29, 5)) (xs := ptrs b1 24 5) (fun e => n_91 e.symm) ap1
 have ap2 := pubO_noC (o := some (b29, 5)) (xs := ptrs b1 24 5) (fun e => n_92 e.symm) ap2
 obtain ⟨h2, eh2⟩ : ∃ g, g = pubO h1 (some (b29, 5)) (ptrs b1 24 5) := ⟨_, rfl⟩
 rw [← eh2] at apr apx ap1 ap2 le2 sl hcs
 have lp := nth5_pos hz s0
 refine xloop (γ := Nat) 0 (fun k => k ≤ 5)
  (fun k => [(31, .int .i64 k), (30, .int .i64 5), (29, .slice (some ⟨b29, 0, none⟩) 5 5), (1, .pointer (some ⟨b1, 0, none⟩)), (2, .pointer (some ⟨b2, 0, none⟩))])
  (fun k => irO bx br v (nth5 xs q0.2 k) (⟨b1, 41, scc q0.1 (c5 xs q0.2 0 k) (c5 xs q0.2 1 k) (c5 xs q0.2 2 k) (c5 xs q0.2 3 k) (c5 xs q0.2 4 k) (.int .i64 0) (.int .i64 0) (.bool false) (.slice none 0 0) (.slice none 0 0) (.slice none 0 0) (.slice none 0 0) (.slice none 0 0) (.slice none 0 0) (.slice none 0 0) (.slice none 0 0) (.slice none 0 0), 41⟩ :: penBr b2 bx :: L)) (fun _ => h2) (fun k => 5 - k) ?_ ?_ ?_ ?_
 ·exact Nat.zero_le _
 ·simp [Ent, List.lookup, xEnv]
 ·rw [eh2]
  exact pub_drop_o (e := 180) (sz := 1) (some (b29, 5)) (ptrs b1 24 5) _ h1 (by decide)
 intro k i1
 have i1 : k ≤ 5 := i1
 by_cases c1 : k < 5
 ·simp -dsimp -implicitDefEqProofs (disch := first|with_reducible assumption|omega) [go_sem, idx hcs]
  refine xcallI (penR_num bx) ?_
  have hg : (scc q0.1 (c5 xs q0.2 0 k) (c5 xs q0.2 1 k) (c5 xs q0.2 2 k) (c5 xs q0.2 3 k) (c5 xs q0.2 4 k) (.int .i64 0) (.int .i64 0) (.bool false) (.slice none 0 0) (.slice none 0 0) (.slice none 0 0) (.slice none 0 0) (.slice none 0 0) (.slice none 0 0) (.slice none 0 0) (.slice none 0 0) (.slice none 0 0))[24 + k]? = some (.int .u64 0) := by
   rcases (show k = 0 ∨ k = 1 ∨ k = 2 ∨ k = 3 ∨ k = 4 by omega) with rfl | rfl | rfl | rfl | rfl <;> rfl
  have hset : (scc q0.1 (c5 xs q0.2 0 k) (c5 xs q0.2 1 k) (c5 xs q0.2 2 k) (c5 xs q0.2 3 k) (c5 xs q0.2 4 k) (.int .i64 0) (.int .i64 0) (.bool false) (.slice none 0 0) (.slice none 0 0) (.slice none 0 0) (.slice none 0 0) (.slice none 0 0) (.slice none 0 0) (.slice none 0 0) (.slice none 0 0) (.slice none 0 0)).set (24 + k) (.int .u64 (i64 xs (nth5 xs q0.2 k)).1) = scc q0.1 (c5 xs q0.2 0 (k + 1)) (c5 xs q0.2 1 (k + 1)) (c5 xs q0.2 2 (k + 1)) (c5 xs q0.2 3 (k + 1)) (c5 xs q0.2 4 (k + 1)) (.int .i64 0) (.int .i64 0) (.bool false) (.slice none 0 0) (.slice none 0 0) (.slice none 0 0) (.slice none 0 0) (.slice none 0 0) (.slice none 0 0) (.slice none 0 0) (.slice none 0 0) (.slice none 0 0) := by
   rcases (show k = 0 ∨ k = 1 ∨ k = 2 ∨ k = 3 ∨ k = 4 by omega) with rfl | rfl | rfl | rfl | rfl <;> rfl
  refine inum_r (hx.up (le1.trans le2)) (lp k) (by decide) hg ?_
  rw [hset]
  simp -dsimp -implicitDefEqProofs (disch := first|with_reducible assumption|omega) [go_sem]
  exact ⟨k + 1, by omega, by omega, by simp [Ent, List.lookup], Drop.refl _ _⟩
 have hk5 : k = 5 := by omega
 subst hk5
 have le02 := le1.trans le2
 have lp5 := lp 5
 obtain ⟨q5, f5⟩ : ∃ q, q = nth5 xs q0.2 5 := ⟨_, rfl⟩
 rw [← f5] at lp5 ⊢
 clear sl hcs aO lp c1 i1
 first | simp -dsimp -implicitDefEqProofs (disch := first|with_reducible assumption|omega) [go_sem] | skip
 refine xanyl (.tk 1 (.tk 2 (.tk 3 (.tkl 0 (.tk 4 (.tk 5 (.tk 6 (.or true 7 (.fin) (.nil))))))))) (by kernel_rfl) (by kernel_rfl) [penBr b2 bx] (Drop.mem (pmem _ _ _ _ _)) ?_
 simp -dsimp -implicitDefEqProofs (disch := first|with_reducible assumption|omega) [go_sem, pnR_int bx]
 refine xcallI (penR_int bx) ?_
 refine iint_r (hx.up le02) lp5 (by decide) (scc_g29 _ _ _ _ _ _ _ _ _ _ _ _ _ _ _ _ _ _ ) ?_
 rw [scc_s29]
 have s6 := ((cod_31 hz).pos q5 lp5).1
 obtain ⟨q6, f6⟩ : ∃ q, q = i31 xs q5 := ⟨_, rfl⟩
 rw [← f6] at s6 ⊢
 refine xkp (Drop.mem (pmem _ _ _ _ _)) ?_
 first | simp -dsimp -implicitDefEqProofs (disch := first|with_reducible assumption|omega) [go_sem] | skip
 refine xanyl (.tk 1 (.tk 2 (.tk 3 (.tkl 0 (.tk 4 (.tk 5 (.tk 6 (.or true 7 (.fin) (.nil))))))))) (by kernel_rfl) (by kernel_rfl) [penBr b2 bx] (Drop.mem (pmem _ _ _ _ _)) ?_
 simp -dsimp -implicitDefEqProofs (disch := first|with_reducible assumption|omega) [go_sem, pnR_int bx]
 refine xcallI (penR_int bx) ?_
 refine iint_r (hx.up le02) s6 (by decide) (scc_g30 _ _ _ _ _ _ _ _ _ _ _ _ _ _ _ _ _ _ ) ?_
 rw [scc_s30]
 have s7 := ((cod_31 hz).pos q6.2 s6).1
 obtain ⟨q7, f7⟩ : ∃ q, q = i31 xs q6.2 := ⟨_, rfl⟩
 rw [← f7] at s7 ⊢
 refine xkp (Drop.mem (pmem _ _ _ _ _)) ?_
 first | simp -dsimp -implicitDefEqProofs (disch := first|with_reducible assumption|omega) [go_sem] | skip
 refine xanyl (.tk 1 (.tk 2 (.tk 3 (.tkl 0 (.tk 4 (.tk 5 (.tk 6 (.or true 7 (.fin) (.nil))))))))) (by kernel_rfl) (by kernel_rfl) [penBr b2 bx] (Drop.mem (pmem _ _ _ _ _)) ?_
 simp -dsimp -implicitDefEqProofs (disch := first|with_reducible assumption|omega) [go_sem, pnR_flag bx]
 refine xcallI (penR_flag bx) ?_
 refine iflag_r (hx.up le02) s7 (by decide) (scc_g31 _ _ _ _ _ _ _ _ _ _ _ _ _ _ _ _ _ _ ) ?_
 rw [scc_s31]
 have s8 := ((cod_flag hz).pos q7.2 s7).1
 obtain ⟨q8, f8⟩ : ∃ q, q = iF xs q7.2 := ⟨_, rfl⟩
 rw [← f8] at s8 ⊢
 refine xkp (Drop.mem (pmem _ _ _ _ _)) ?_
 first | simp -dsimp -implicitDefEqProofs (disch := first|with_reducible assumption|omega) [go_sem] | skip
 refine xanyl (.tk 1 (.tk 2 (.tk 3 (.tk 4 (.tkl 0 (.or true 5 (.fin) (.nil))))))) (by kernel_rfl) (by kernel_rfl) [penBr b2 bx] (Drop.mem (pmem _ _ _ _ _)) ?_
 first | simp -dsimp -implicitDefEqProofs (disch := first|with_reducible assumption|omega) [go_sem] | skip
 refine Spec.apn (lnum_r (hx.up le02) s8 (by decide) (scc_g32 _ _ _ _ _ _ _ _ _ _ _ _ _ _ _ _ _ _ ) fun g9 w9 l9 r9 ap nd => ?_)
 obtain ⟨apr, apx, ap1, ap2, apl⟩ := ap
 clear nd
 rw [scc_s32]
 have s9 := ((cod_ls hz (cod_64 hz)).pos q8.2 s8).1
 obtain ⟨q9, f9⟩ : ∃ q, q = lsR xs (i64 xs) q8.2 := ⟨_, rfl⟩
 rw [← f9] at s9 r9 ⊢
 refine xkp ((Drop.forget l9).trans (Drop.mem (pmem _ _ _ _ _))) ?_
 first | simp -dsimp -implicitDefEqProofs (disch := first|with_reducible assumption|omega) [go_sem] | skip
 refine xanyl (.tk 1 (.tk 2 (.tk 3 (.tk 4 (.tkl 0 (.or true 5 (.fin) (.nil))))))) (by kernel_rfl) (by kernel_rfl) [penBr b2 bx] (Drop.mem (pmem _ _ _ _ _)) ?_
 first | simp -dsimp -implicitDefEqProofs (disch := first|with_reducible assumption|omega) [go_sem] | skip
 refine Spec.apn (lmem_r (hx.up (le02.trans l9)) s9 (by decide) (scc_g33 _ _ _ _ _ _ _ _ _ _ _ _ _ _ _ _ _ _ ) fun g10 w10 l10 r10 ap nd => ?_)
 obtain ⟨apr, apx, ap1, ap2, apl⟩ := ap
 clear nd
 rw [scc_s33]
 have s10 := ((cod_ls hz (cod_mem hz)).pos q9.2 s9).1
 obtain ⟨q10, f10⟩ : ∃ q, q = lsR xs (rdMem xs) q9.2 := ⟨_, rfl⟩
 rw [← f10] at s10 r10 ⊢
 refine xkp ((Drop.forget l10).trans (Drop.mem (pmem _ _ _ _ _))) ?_
 first | simp -dsimp -implicitDefEqProofs (disch := first|with_reducible assumption|omega) [go_sem] | skip
 refine xanyl (.tk 1 (.tk 2 (.tk 3 (.tk 4 (.tkl 0 (.or true 5 (.fin) (.nil))))))) (by kernel_rfl) (by kernel_rfl) [penBr b2 bx] (Drop.mem (pmem _ _ _ _ _)) ?_
 first | simp -dsimp -implicitDefEqProofs (disch := first|with_reducible assumption|omega) [go_sem] | skip
 refine Spec.apn (lint3_r (hx.up ((le02.trans l9).trans l10)) s10 (by decide) (scc_g34 _ _ _ _ _ _ _ _ _ _ _ _ _ _ _ _ _ _ ) fun g11 w11 l11 r11 ap nd => ?_)
 obtain ⟨apr, apx, ap1, ap2, apl⟩ := ap
 clear nd
 rw [scc_s34]
 have s11 := ((cod_ls hz (cod_31 hz)).pos q10.2 s10).1
 obtain ⟨q11, f11⟩ : ∃ q, q = lsR xs (i31 xs) q10.2 := ⟨_, rfl⟩
 rw [← f11] at s11 r11 ⊢
 refine xkp ((Drop.forget l11).trans (Drop.mem (pmem _ _ _ _ _))) ?_
 first | simp -dsimp -implicitDefEqProofs (disch := first|with_reducible assumption|omega) [go_sem] | skip
 refine xanyl (.tk 1 (.tk 2 (.tk 3 (.tk 4 (.tkl 0 (.or true 5 (.fin) (.nil))))))) (by kernel_rfl) (by kernel_rfl) [penBr b2 bx] (Drop.mem (pmem _ _ _ _ _)) ?_
 first | simp -dsimp -implicitDefEqProofs (disch := first|with_reducible assumption|omega) [go_sem] | skip
 refine Spec.apn (lint4_r (hx.up (((le02.trans l9).trans l10).trans l11)) s11 (by decide) (scc_g35 _ _ _ _ _ _ _ _ _ _ _ _ _ _ _ _ _ _ ) fun g12 w12 l12 r12 ap nd => ?_)
 obtain ⟨apr, apx, ap1, ap2, apl⟩ := ap
 clear nd
 rw [scc_s35]
 have s12 := ((cod_ls hz (cod_31 hz)).pos q11.2 s11).1
 obtain ⟨q12, f12⟩ : ∃ q, q = lsR xs (i31 xs) q11.2 := ⟨_, rfl⟩
 rw [← f12] at s12 r12 ⊢
 refine xkp ((Drop.forget l12).trans (Drop.mem (pmem _ _ _ _ _))) ?_
 first | simp -dsimp -implicitDefEqProofs (disch := first|with_reducible assumption|omega) [go_sem] | skip
 refine xanyl (.tk 1 (.tk 2 (.tk 3 (.tk 4 (.tkl 0 (.or true 5 (.fin) (.nil))))))) (by kernel_rfl) (by kernel_rfl) [penBr b2 bx] (Drop.mem (pmem _ _ _ _ _)) ?_
 first | simp -dsimp -implicitDefEqProofs (disch := first|with_reducible assumption|omega) [go_sem] | skip
 refine Spec.apn (ldep_r (hx.up ((((le02.trans l9).trans l10).trans l11).trans l12)) s12 (by decide) (scc_g36 _ _ _ _ _ _ _ _ _ _ _ _ _ _ _ _ _ _ ) fun g13 w13 l13 r13 ap nd => ?_)
 obtain ⟨apr, apx, ap1, ap2, apl⟩ := ap
 clear nd
 rw [scc_s36]
 have s13 := ((cod_ls hz (cod_dep hz)).pos q12.2 s12).1
 obtain ⟨q13, f13⟩ : ∃ q, q = lsR xs (rdDep xs) q12.2 := ⟨_, rfl⟩
 rw [← f13] at s13 r13 ⊢
 refine xkp ((Drop.forget l13).trans (Drop.mem (pmem _ _ _ _ _))) ?_
 first | simp -dsimp -implicitDefEqProofs (disch := first|with_reducible assumption|omega) [go_sem] | skip
 refine xanyl (.tk 1 (.tk 2 (.tk 3 (.tk 4 (.tkl 0 (.or true 5 (.fin) (.nil))))))) (by kernel_rfl) (by kernel_rfl) [penBr b2 bx] (Drop.mem (pmem _ _ _ _ _)) ?_
 first | simp -dsimp -implicitDefEqProofs (disch := first|with_reducible assumption|omega) [go_sem] | skip
 refine Spec.apn (ldue_r (hx.up (((((le02.trans l9).trans l10).trans l11).trans l12).trans l13)) s13 (by decide) (scc_g37 _ _ _ _ _ _ _ _ _ _ _ _ _ _ _ _ _ _ ) fun g14 w14 l14 r14 ap nd => ?_)
 obtain ⟨apr, apx, ap1, ap2, apl⟩ := ap
 clear nd
 rw [scc_s37]
 have s14 := ((cod_ls hz (cod_due hz)).pos q13.2 s13).1
 obtain ⟨q14, f14⟩ : ∃ q, q = lsR xs (rdDue xs) q13.2 := ⟨_, rfl⟩
 rw [← f14] at s14 r14 ⊢
 refine xkp ((Drop.forget l14).trans (Drop.mem (pmem _ _ _ _ _))) ?_
 first | simp -dsimp -implicitDefEqProofs (disch := first|with_reducible assumption|omega) [go_sem] | skip
 refine xanyl (.tk 1 (.tk 2 (.tk 3 (.tk 4 (.tkl 0 (.or true 5 (.fin) (.nil))))))) (by kernel_rfl) (by kernel_rfl) [penBr b2 bx] (Drop.mem (pmem _ _ _ _ _)) ?_
 first | simp -dsimp -implicitDefEqProofs (disch := first|with_reducible assumption|omega) [go_sem] | skip
 refine Spec.apn (lmot_r (hx.up ((((((le02.trans l9).trans l10).trans l11).trans l12).trans l13).trans l14)) s14 (by decide) (scc_g38 _ _ _ _ _ _ _ _ _ _ _ _ _ _ _ _ _ _ ) fun g15 w15 y15 l15 e15 r15 m15 ap nd => ?_)
 obtain ⟨apr, apx, ap1, ap2, apl⟩ := ap
 clear nd
 rw [scc_s38]
 have s15 := ((cod_ls hz (cod_mot hz)).pos q14.2 s14).1
 obtain ⟨q15, f15⟩ : ∃ q, q = lsR xs (rdMot xs) q14.2 := ⟨_, rfl⟩
 rw [← f15] at s15 e15 ⊢
 refine xkp ((Drop.forget l15).trans (Drop.mem (pmem _ _ _ _ _))) ?_
 first | simp -dsimp -implicitDefEqProofs (disch := first|with_reducible assumption|omega) [go_sem] | skip
 refine xanyl (.tk 1 (.tk 2 (.tk 3 (.tkl 0 (.tk 4 (.tk 5 (.tk 6 (.or true 7 (.fin) (.nil))))))))) (by kernel_rfl) (by kernel_rfl) [penBr b2 bx] (Drop.mem (pmem _ _ _ _ _)) ?_
 simp -dsimp -implicitDefEqProofs (disch := first|with_reducible assumption|omega) [go_sem, pnR_raw bx]
 refine xcallI (penR_raw bx) ?_
 refine Spec.apn (iraw_r (hx.up (((((((le02.trans l9).trans l10).trans l11).trans l12).trans l13).trans l14).trans l15)) s15 (by decide) (scc_g39 _ _ _ _ _ _ _ _ _ _ _ _ _ _ _ _ _ _ ) fun g16 w16 l16 r16 ap nd => ?_)
 obtain ⟨apr, apx, ap1, ap2, apl⟩ := ap
 clear nd
 rw [scc_s39]
 have s16 := ((cod_raw hz).pos q15.2 s15).1
 obtain ⟨q16, f16⟩ : ∃ q, q = iR xs q15.2 := ⟨_, rfl⟩
 rw [← f16] at s16 r16 ⊢
 refine xkp ((Drop.forget l16).trans (Drop.mem (pmem _ _ _ _ _))) ?_
 first | simp -dsimp -implicitDefEqProofs (disch := first|with_reducible assumption|omega) [go_sem] | skip
 refine xanyl (.tk 1 (.tk 2 (.tk 3 (.tk 4 (.tkl 0 (.or true 5 (.fin) (.nil))))))) (by kernel_rfl) (by kernel_rfl) [penBr b2 bx] (Drop.mem (pmem _ _ _ _ _)) ?_
 first | simp -dsimp -implicitDefEqProofs (disch := first|with_reducible assumption|omega) [go_sem] | skip
 refine Spec.apn (lstr_r (hx.up ((((((((le02.trans l9).trans l10).trans l11).trans l12).trans l13).trans l14).trans l15).trans l16)) s16 (by decide) (scc_g40 _ _ _ _ _ _ _ _ _ _ _ _ _ _ _ _ _ _ ) fun g17 w17 y17 l17 e17 r17 m17 ap nd => ?_)
 obtain ⟨apr, apx, ap1, ap2, apl⟩ := ap
 clear nd
 rw [scc_s40]
 have s17 := ((cod_ls hz (cod_raw hz)).pos q16.2 s16).1
 obtain ⟨q17, f17⟩ : ∃ q, q = lsR xs (iR xs) q16.2 := ⟨_, rfl⟩
 rw [← f17] at s17 e17 ⊢
 refine xkp ((Drop.forget l17).trans (Drop.mem (pmem _ _ _ _ _))) ?_
 first | simp -dsimp -implicitDefEqProofs (disch := first|with_reducible assumption|omega) [go_sem] | skip
 have eE : rdS xs r = (⟨q0.1, (i64 xs (nth5 xs q0.2 0)).1, (i64 xs (nth5 xs q0.2 1)).1, (i64 xs (nth5 xs q0.2 2)).1, (i64 xs (nth5 xs q0.2 3)).1, (i64 xs (nth5 xs q0.2 4)).1, q6.1, q7.1, q8.1, q9.1, q10.1, q11.1, q12.1, q13.1, q14.1, q15.1, q16.1, q17.1⟩, q17.2) := by
  simp only [nth5] at f5 ⊢
  simp only [rdS, mp, sq, ← f0, ← f5, ← f6, ← f7, ← f8, ← f9, ← f10, ← f11, ← f12, ← f13, ← f14, ← f15, ← f16, ← f17]
 rw [eE] at hk hR
 obtain ⟨z0, z1, z2, z3, z4, z5, z6, z7, _, z9, z10, z11, z12, z13, z14, z15, z16, z17⟩ := hR
 unfold w64 at z1 z2 z3 z4 z5
 unfold w31 at z6 z7
 simp only at z0 z1 z2 z3 z4 z5 z6 z7
 have hk2 := hk g17 ⟨w9, w10, w11, w12, w13, w14, w15, w16, w17⟩ (((((((((le02.trans l9).trans l10).trans l11).trans l12).trans l13).trans l14).trans l15).trans l16).trans l17) ⟨⟨z0, fun z hz => ?_, fun z hz => ?_⟩, r9.up (((((((l10.trans l11).trans l12).trans l13).trans l14).trans l15).trans l16).trans l17), r10.up ((((((l11.trans l12).trans l13).trans l14).trans l15).trans l16).trans l17), fun x hx => (z10.2 x hx).ok, r11.up (((((l12.trans l13).trans l14).trans l15).trans l16).trans l17), r12.up ((((l13.trans l14).trans l15).trans l16).trans l17), r13.up (((l14.trans l15).trans l16).trans l17), fun x hx => (z13.2 x hx).ok, r14.up ((l15.trans l16).trans l17), fun x hx => (z14.2 x hx).ok,
  ⟨y15, r15.up (l16.trans l17), e15, fun x hx => ⟨((m15 x hx).up (l16.trans l17)).1, ((m15 x hx).up (l16.trans l17)).2, (z15.2 x.2.2 (by rw [← e15]; exact List.mem_map_of_mem hx)).ok⟩⟩, r16.up l17, ⟨y17, ⟨r17, m17⟩, e17⟩⟩
 ·refine ⟨_, _, Drop.sub (.cons_cons _ (.cons_cons _ (.cons_cons _ (.cons _ (List.Sublist.refl _))))), ?_⟩
  exact hk2
 ·simp only [List.mem_cons, List.not_mem_nil, or_false] at hz
  rcases hz with rfl | rfl | rfl | rfl | rfl <;> assumption
 ·simp only [List.mem_cons, List.not_mem_nil, or_false] at hz
  rcases hz with rfl | rfl <;> omega
end Go.X

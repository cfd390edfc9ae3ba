/- Lemmas and contracts for a statement about the given program. Conditions: as each says. -/
import Derived.Test.YtkmojeioedjfkaaGreatQ26
import Derived.Test.YtkmojeioedjfkaaGreatQ27
set_option linter.unusedVariables false
set_option linter.unusedSimpArgs false
set_option maxHeartbeats 12800000
set_option maxRecDepth 20000
namespace Go.X
open Go.RowKit Go.Proofs Go.Bl
variable {L : Own} {h : PH} {K : PK}
theorem isReader (bx : Nat) (W : World) : (Instr.typeAssert (penR bx) 177 104 true).run Tryz.prog W = .ok (.tuple #[.pointer (some ⟨bx, 0, none⟩), .bool true]) W := by kernel_rfl
theorem xTA_reader (bx : Nat) (K : Value → Prop) (t : Tok K) : xTA Tryz.prog (penR bx) 177 104 true K t = K (.tuple #[.pointer (some ⟨bx, 0, none⟩), .bool true]) := xRun_of (isReader bx) K
theorem lnum_r {bx br b1 b2 ty cp off : Nat} {v : Value} {xs : List Int} {r : RS} {cs : List Value} (hx : Ints h .u8 v xs) (hs : r.1.1 ≤ xs.length) (hty : ty ≠ 4294967295) (hn : cs[off]? = some (.slice none 0 0))
  (hk : ∀ h' w, PH.le h h' → Ints h' .u64 w (lsR xs (i64 xs) r).1 → K (.tuple #[]) (irO bx br v (lsR xs (i64 xs) r).2 (⟨b1, ty, cs.set off w, cp⟩ :: penBr b2 bx :: L)) h') :
  Spec Tryz.prog 92 [penR bx, .pointer (some ⟨b1, off, none⟩), .func (.func 93) #[] #[.pointer (some ⟨b2, 0, none⟩)]] (irO bx br v r (⟨b1, ty, cs, cp⟩ :: penBr b2 bx :: L)) h K := by
 have hz := byte_of hx
 have hoc := (List.getElem?_eq_some_iff.1 hn).1
 refine x_enterA Tryz.func92 rfl (rs := []) rfl rfl mixed (by kernel_rfl) rfl rfl fun ap nd => ?_
 obtain ⟨apr, apx, ap1, ap2, apl⟩ := ap
 simp only [Nd, Apart] at nd
 obtain ⟨⟨nd1, nd2, nd3, nd4⟩, ⟨nd5, nd6, nd7⟩, ⟨nd8, nd9⟩, ndL⟩ := nd
 simp -dsimp -implicitDefEqProofs (disch := first|with_reducible assumption|omega) [go_sem]
 refine xanyl (.tk 0 (.tk 1 (.tk 2 (.tk 5 (.tk 6 (.tk 7 (.tkl 3 (.tk 4 (.or true 8 (.tk 9 (.fin)) (.nil)))))))))) (by kernel_rfl) (by kernel_rfl) [⟨b1, ty, cs, cp⟩] (Drop.mem (by simp)) ?_
 simp -dsimp -implicitDefEqProofs (disch := first|with_reducible assumption|omega) [go_sem, xNth_of hn, pnR_count bx]
 refine xcallI (penR_count bx) ?_
 refine icount_r _ hx hs ?_
 have s1 := (cod_num hz (most := 131072) (by decide) (by decide)).pos r hs
 unfold lsR at hk
 obtain ⟨q, eq⟩ : ∃ q, q = iN xs 131072 r := ⟨_, rfl⟩
 rw [← eq] at s1 hk ⊢
 obtain ⟨z, r1⟩ := q
 simp only at s1 hk ⊢
 obtain ⟨s1, s2, s3⟩ := s1
 obtain ⟨N, rfl⟩ := Int.eq_ofNat_of_zero_le s2
 rw [Int.toNat_natCast] at hk
 refine xkp (Drop.mem (by simp)) ?_
 simp -dsimp -implicitDefEqProofs (disch := first|with_reducible assumption|omega) [go_sem]
 refine xloop (γ := Nat × Option (Nat × Nat) × List Int × RS) (0, none, [], r1)
  (fun x => x.1 ≤ N ∧ x.2.2.1.length = x.1 ∧ okO x.2.1 x.1 ∧ x.2.2.2.1.1 ≤ xs.length ∧ lpR (i64 xs) N r1 = (x.2.2.1 ++ (lpR (i64 xs) (N - x.1) x.2.2.2).1, (lpR (i64 xs) (N - x.1) x.2.2.2).2) ∧ apO x.2.1 (irO bx br v x.2.2.2 (⟨b1, ty, cs.set off (ovs x.2.1 x.1), cp⟩ :: penBr b2 bx :: L)) h ∧ (∀ a ∈ x.2.2.1, w64 a))
  (fun x => [(21, .int .i64 x.1), (20, .int .i64 N), (0, penR bx), (1, .pointer (some ⟨b1, off, none⟩)), (2, .func (.func 93) #[] #[.pointer (some ⟨b2, 0, none⟩)])])
  (fun x => irO bx br v x.2.2.2 (⟨b1, ty, cs.set off (ovs x.2.1 x.1), cp⟩ :: penBr b2 bx :: oent 23 1 x.2.1 (x.2.2.1.map (.int .u64)) L)) (fun _ => h) (fun x => N - x.1) ?_ ?_ ?_ ?_
 ·exact ⟨Nat.zero_le _, rfl, rfl, s1, by simp, trivial, fun a ha => by cases ha⟩
 ·simp [Ent, List.lookup, xEnv]
 ·show Drop _ _ (irO bx br v r1 (⟨b1, ty, cs.set off (.slice none 0 0), cp⟩ :: penBr b2 bx :: L)) _
  rw [set_self hn]
  exact Drop.refl _ _
 rintro ⟨k, o, l, rr⟩ ⟨i1, i2, i3, i4, i5, i6, i7⟩
 simp only at i1 i2 i3 i4 i5 i6 i7 ⊢
 have hst : (cs.set off (ovs o k))[off]? = some (ovs o k) := by rw [List.getElem?_set_self hoc]
 have fin : lpR (i64 xs) N r1 = (l, rr) → K (.tuple #[]) (irO bx br v rr (⟨b1, ty, cs.set off (ovs o k), cp⟩ :: penBr b2 bx :: L)) (pubO h o (l.map (.int .u64))) := fun e => by
  have sl := pub_sl (h := h) (sz := 1) (n := k) (o := o) (xs := l.map (.int .u64)) i3 (by rw [List.length_map, i2]; omega) (by omega)
  have := hk (pubO h o (l.map (.int .u64))) (ovs o k) (pub_le_o i6 _) (by rw [e]; exact ⟨by simpa [i2] using sl, i7⟩)
  rw [e] at this
  exact this
 have dr : Drop (irO bx br v rr (⟨b1, ty, cs.set off (ovs o k), cp⟩ :: penBr b2 bx :: oent 23 1 o (l.map (.int .u64)) L)) h (irO bx br v rr (⟨b1, ty, cs.set off (ovs o k), cp⟩ :: penBr b2 bx :: L)) (pubO h o (l.map (.int .u64))) :=
  (Drop.perm h (oent_front 23 1 o (l.map (.int .u64)) [_, _, _, _] L)).trans (pub_drop_o o (l.map (.int .u64)) _ h (by decide))
 by_cases c1 : k < N
 ·obtain ⟨oa, oc, eo, _⟩ := ovs_open i3
  have hlen : ∀ (K : Value → Prop) (t : Tok K), xLen Tryz.prog 3 #[26] (ovs o k) K t = K (.int .i64 k) := fun K t => by rw [eo]; exact xLen_slice (e := 23) (by kernel_rfl) oa k oc
  simp -dsimp -implicitDefEqProofs (disch := first|with_reducible assumption|omega) [go_sem, xNth_of hst, xTA_reader bx, hlen]
  refine igood_r ?_
  by_cases g : Gd rr
  ·obtain ⟨g1, g2⟩ := g
   simp -dsimp -implicitDefEqProofs (disch := first|with_reducible assumption|omega) [go_sem, g1, g2]
   refine xnew fun bn n_bn h_bn => ?_
   simp only [Apart] at n_bn
   obtain ⟨n_br, n_bx, n_b1, n_b2, n_bo⟩ := n_bn
   simp -dsimp -implicitDefEqProofs (disch := first|with_reducible assumption|omega) [go_sem]
   refine Spec.weaken (Drop.perm h ((List.Perm.swap _ _ _).trans (List.Perm.cons _ (List.Perm.swap _ _ _)))) ?_
   refine cl1_r hx i4 (List.mem_cons_of_mem _ List.mem_cons_self) ?_
   have pp := (cod_64 hz).pos rr i4
   have nx : lpR (i64 xs) (N - k) rr = (((i64 xs) rr).1 :: (lpR (i64 xs) (N - (k + 1)) ((i64 xs) rr).2).1, (lpR (i64 xs) (N - (k + 1)) ((i64 xs) rr).2).2) := by
    rw [show N - k = (N - (k + 1)) + 1 by omega, lpR, if_pos ⟨g1, g2⟩]
   rw [nx] at i5
   obtain ⟨q, eq2⟩ : ∃ q, q = (i64 xs) rr := ⟨_, rfl⟩
   rw [← eq2] at pp i5 ⊢
   simp -dsimp -implicitDefEqProofs (disch := first|with_reducible assumption|omega) [go_sem]
   refine xanyl (.tk 0 (.tk 1 (.tk 2 (.tkl 3 (.tkl 4 (.or true 5 (.or true 6 (.tk 7 (.or false 8 (.fin) (.nil))) (.nil)) (.nil))))))) (by kernel_rfl) (by kernel_rfl) [⟨bn, 23, [.int .u64 q.1], 1⟩, ⟨b1, ty, cs.set off (ovs o k), cp⟩] (Drop.sub (sub2 _ _ _ _ _)) ?_
   simp -dsimp -implicitDefEqProofs (disch := first|with_reducible assumption|omega) [go_sem, xNth_of hst]
   refine xnew fun b5 n_b5 h_b5 => ?_
   simp only [Apart] at n_b5
   obtain ⟨n_5r, n_5x, n_5n, n_51, n_52, n_5o⟩ := n_b5
   first | refine xkp ((Drop.tail _ _ _).trans (Drop.sub (sub2 _ _ _ _ _))) ?_ | skip
   simp -dsimp -implicitDefEqProofs (disch := first|with_reducible assumption|omega) [go_sem]
   refine xappend (t := 26) (e := 23) (sz := 1) (bytes := 8) (by kernel_rfl) tI_23 rfl rfl rfl rfl (by decide) [_, _, _, _, _, _] L o k (l.map (.int .u64)) i3 (by rw [List.length_map, i2]; omega) (Src.own List.mem_cons_self) (m := 1) (news := [.int .u64 q.1]) rfl (by intro u hu; simp only [List.mem_singleton] at hu; subst hu; rfl) (by simp [maxLen]; omega) (by omega) ?_
   intro o' j1 j2 j3
   simp only [List.cons_append, List.nil_append] at j2 ⊢
   refine xkp ((Drop.tail _ _ _).trans (Drop.sub (sub2 _ _ _ _ _))) ?_
   have hlen2 : off + 1 ≤ (cs.set off (ovs o k)).length := by rw [List.length_set]; omega
   obtain ⟨oa2, oc2, eo2, _⟩ := ovs_open j1
   rw [eo2]
   simp -dsimp -implicitDefEqProofs (disch := first|with_reducible assumption|omega) [go_sem]
   refine ⟨by omega, ?_⟩
   first | rw [← eo2, List.set_set] | rw [← eo2]
   first | refine xkp (Drop.refl _ _) ?_ | skip
   first | simp -dsimp -implicitDefEqProofs (disch := first|with_reducible assumption|omega) [go_sem] | skip
   refine ⟨k + 1, o', l ++ [q.1], q.2.1.1, q.2.1.2, q.2.2, ⟨by omega, by simp [i2], j1, pp.1, ?_, apO_sub (.cons _ (.cons_cons _ (.cons_cons _ (.cons _ (List.Sublist.refl _))))) j2, fun a ha => ?_⟩, by omega, by simp [Ent, List.lookup], ?_⟩
   ·rw [i5]; simp
   ·rcases List.mem_append.1 ha with ha | ha
    ·exact i7 a ha
    ·rw [List.mem_singleton.1 ha]; exact pp.2
   ·rw [List.map_append]
    exact Drop.sub (.cons _ (.cons_cons _ (.cons_cons _ (.cons _ (List.Sublist.refl _)))))
  ·have e0 := lpR_bad (f := (i64 xs)) g (N - k)
   rw [e0, List.append_nil] at i5
   have gg : (decide (rr.2 = 0) && decide (rr.1.2 = 0)) = false := by
    cases hh : (decide (rr.2 = 0) && decide (rr.1.2 = 0)) with
    | false => rfl
    | true =>
     simp only [Bool.and_eq_true, decide_eq_true_eq] at hh
     exact absurd ⟨hh.1, hh.2⟩ g
   simp -dsimp -implicitDefEqProofs (disch := first|with_reducible assumption|omega) [go_sem, gg]
   exact ⟨_, _, dr, fin i5⟩
 ·have hkN : k = N := by omega
  subst hkN
  rw [Nat.sub_self] at i5
  simp only [lpR, List.append_nil] at i5
  simp -dsimp -implicitDefEqProofs (disch := first|with_reducible assumption|omega) [go_sem]
  exact ⟨_, _, dr, fin i5⟩
theorem lint3_r {bx br b1 b2 ty cp off : Nat} {v : Value} {xs : List Int} {r : RS} {cs : List Value} (hx : Ints h .u8 v xs) (hs : r.1.1 ≤ xs.length) (hty : ty ≠ 4294967295) (hn : cs[off]? = some (.slice none 0 0))
  (hk : ∀ h' w, PH.le h h' → Ints h' .i64 w (lsR xs (i31 xs) r).1 → K (.tuple #[]) (irO bx br v (lsR xs (i31 xs) r).2 (⟨b1, ty, cs.set off w, cp⟩ :: penBr b2 bx :: L)) h') :
  Spec Tryz.prog 96 [penR bx, .pointer (some ⟨b1, off, none⟩), .func (.func 97) #[] #[.pointer (some ⟨b2, 0, none⟩)]] (irO bx br v r (⟨b1, ty, cs, cp⟩ :: penBr b2 bx :: L)) h K := by
 have hz := byte_of hx
 have hoc := (List.getElem?_eq_some_iff.1 hn).1
 refine x_enterA Tryz.func96 rfl (rs := []) rfl rfl mixed (by kernel_rfl) rfl rfl fun ap nd => ?_
 obtain ⟨apr, apx, ap1, ap2, apl⟩ := ap
 simp only [Nd, Apart] at nd
 obtain ⟨⟨nd1, nd2, nd3, nd4⟩, ⟨nd5, nd6, nd7⟩, ⟨nd8, nd9⟩, ndL⟩ := nd
 simp -dsimp -implicitDefEqProofs (disch := first|with_reducible assumption|omega) [go_sem]
 refine xanyl (.tk 0 (.tk 1 (.tk 2 (.tk 5 (.tk 6 (.tk 7 (.tkl 3 (.tk 4 (.or true 8 (.tk 9 (.fin)) (.nil)))))))))) (by kernel_rfl) (by kernel_rfl) [⟨b1, ty, cs, cp⟩] (Drop.mem (by simp)) ?_
 simp -dsimp -implicitDefEqProofs (disch := first|with_reducible assumption|omega) [go_sem, xNth_of hn, pnR_count bx]
 refine xcallI (penR_count bx) ?_
 refine icount_r _ hx hs ?_
 have s1 := (cod_num hz (most := 131072) (by decide) (by decide)).pos r hs
 unfold lsR at hk
 obtain ⟨q, eq⟩ : ∃ q, q = iN xs 131072 r := ⟨_, rfl⟩
 rw [← eq] at s1 hk ⊢
 obtain ⟨z, r1⟩ := q
 simp only at s1 hk ⊢
 obtain ⟨s1, s2, s3⟩ := s1
 obtain ⟨N, rfl⟩ := Int.eq_ofNat_of_zero_le s2
 rw [Int.toNat_natCast] at hk
 refine xkp (Drop.mem (by simp)) ?_
 simp -dsimp -implicitDefEqProofs (disch := first|with_reducible assumption|omega) [go_sem]
 refine xloop (γ := Nat × Option (Nat × Nat) × List Int × RS) (0, none, [], r1)
  (fun x => x.1 ≤ N ∧ x.2.2.1.length = x.1 ∧ okO x.2.1 x.1 ∧ x.2.2.2.1.1 ≤ xs.length ∧ lpR (i31 xs) N r1 = (x.2.2.1 ++ (lpR (i31 xs) (N - x.1) x.2.2.2).1, (lpR (i31 xs) (N - x.1) x.2.2.2).2) ∧ apO x.2.1 (irO bx br v x.2.2.2 (⟨b1, ty, cs.set off (ovs x.2.1 x.1), cp⟩ :: penBr b2 bx :: L)) h ∧ (∀ a ∈ x.2.2.1, w31 a))
  (fun x => [(21, .int .i64 x.1), (20, .int .i64 N), (0, penR bx), (1, .pointer (some ⟨b1, off, none⟩)), (2, .func (.func 97) #[] #[.pointer (some ⟨b2, 0, none⟩)])])
  (fun x => irO bx br v x.2.2.2 (⟨b1, ty, cs.set off (ovs x.2.1 x.1), cp⟩ :: penBr b2 bx :: oent 3 1 x.2.1 (x.2.2.1.map (.int .i64)) L)) (fun _ => h) (fun x => N - x.1) ?_ ?_ ?_ ?_
 ·exact ⟨Nat.zero_le _, rfl, rfl, s1, by simp, trivial, fun a ha => by cases ha⟩
 ·simp [Ent, List.lookup, xEnv]
 ·show Drop _ _ (irO bx br v r1 (⟨b1, ty, cs.set off (.slice none 0 0), cp⟩ :: penBr b2 bx :: L)) _
  rw [set_self hn]
  exact Drop.refl _ _
 rintro ⟨k, o, l, rr⟩ ⟨i1, i2, i3, i4, i5, i6, i7⟩
 simp only at i1 i2 i3 i4 i5 i6 i7 ⊢
 have hst : (cs.set off (ovs o k))[off]? = some (ovs o k) := by rw [List.getElem?_set_self hoc]
 have fin : lpR (i31 xs) N r1 = (l, rr) → K (.tuple #[]) (irO bx br v rr (⟨b1, ty, cs.set off (ovs o k), cp⟩ :: penBr b2 bx :: L)) (pubO h o (l.map (.int .i64))) := fun e => by
  have sl := pub_sl (h := h) (sz := 1) (n := k) (o := o) (xs := l.map (.int .i64)) i3 (by rw [List.length_map, i2]; omega) (by omega)
  have := hk (pubO h o (l.map (.int .i64))) (ovs o k) (pub_le_o i6 _) (by rw [e]; exact ⟨by simpa [i2] using sl, fun a ha => ⟨by have := (i7 a ha).1; rw [show IntKind.i64.min = -9223372036854775808 from rfl]; omega, by have := (i7 a ha).2; rw [show IntKind.i64.max = 9223372036854775807 from rfl]; omega⟩⟩)
  rw [e] at this
  exact this
 have dr : Drop (irO bx br v rr (⟨b1, ty, cs.set off (ovs o k), cp⟩ :: penBr b2 bx :: oent 3 1 o (l.map (.int .i64)) L)) h (irO bx br v rr (⟨b1, ty, cs.set off (ovs o k), cp⟩ :: penBr b2 bx :: L)) (pubO h o (l.map (.int .i64))) :=
  (Drop.perm h (oent_front 3 1 o (l.map (.int .i64)) [_, _, _, _] L)).trans (pub_drop_o o (l.map (.int .i64)) _ h (by decide))
 by_cases c1 : k < N
 ·obtain ⟨oa, oc, eo, _⟩ := ovs_open i3
  have hlen : ∀ (K : Value → Prop) (t : Tok K), xLen Tryz.prog 3 #[34] (ovs o k) K t = K (.int .i64 k) := fun K t => by rw [eo]; exact xLen_slice (e := 3) (by kernel_rfl) oa k oc
  simp -dsimp -implicitDefEqProofs (disch := first|with_reducible assumption|omega) [go_sem, xNth_of hst, xTA_reader bx, hlen]
  refine igood_r ?_
  by_cases g : Gd rr
  ·obtain ⟨g1, g2⟩ := g
   simp -dsimp -implicitDefEqProofs (disch := first|with_reducible assumption|omega) [go_sem, g1, g2]
   refine xnew fun bn n_bn h_bn => ?_
   simp only [Apart] at n_bn
   obtain ⟨n_br, n_bx, n_b1, n_b2, n_bo⟩ := n_bn
   simp -dsimp -implicitDefEqProofs (disch := first|with_reducible assumption|omega) [go_sem]
   refine Spec.weaken (Drop.perm h ((List.Perm.swap _ _ _).trans (List.Perm.cons _ (List.Perm.swap _ _ _)))) ?_
   refine cl3_r hx i4 (List.mem_cons_of_mem _ List.mem_cons_self) ?_
   have pp := (cod_31 hz).pos rr i4
   have nx : lpR (i31 xs) (N - k) rr = (((i31 xs) rr).1 :: (lpR (i31 xs) (N - (k + 1)) ((i31 xs) rr).2).1, (lpR (i31 xs) (N - (k + 1)) ((i31 xs) rr).2).2) := by
    rw [show N - k = (N - (k + 1)) + 1 by omega, lpR, if_pos ⟨g1, g2⟩]
   rw [nx] at i5
   obtain ⟨q, eq2⟩ : ∃ q, q = (i31 xs) rr := ⟨_, rfl⟩
   rw [← eq2] at pp i5 ⊢
   simp -dsimp -implicitDefEqProofs (disch := first|with_reducible assumption|omega) [go_sem]
   refine xanyl (.tk 0 (.tk 1 (.tk 2 (.tkl 3 (.tkl 4 (.or true 5 (.or true 6 (.tk 7 (.or false 8 (.fin) (.nil))) (.nil)) (.nil))))))) (by kernel_rfl) (by kernel_rfl) [⟨bn, 3, [.int .i64 q.1], 1⟩, ⟨b1, ty, cs.set off (ovs o k), cp⟩] (Drop.sub (sub2 _ _ _ _ _)) ?_
   simp -dsimp -implicitDefEqProofs (disch := first|with_reducible assumption|omega) [go_sem, xNth_of hst]
   refine xnew fun b5 n_b5 h_b5 => ?_
   simp only [Apart] at n_b5
   obtain ⟨n_5r, n_5x, n_5n, n_51, n_52, n_5o⟩ := n_b5
   first | refine xkp ((Drop.tail _ _ _).trans (Drop.sub (sub2 _ _ _ _ _))) ?_ | skip
   simp -dsimp -implicitDefEqProofs (disch := first|with_reducible assumption|omega) [go_sem]
   refine xappend (t := 34) (e := 3) (sz := 1) (bytes := 8) (by kernel_rfl) tI_3 rfl rfl rfl rfl (by decide) [_, _, _, _, _, _] L o k (l.map (.int .i64)) i3 (by rw [List.length_map, i2]; omega) (Src.own List.mem_cons_self) (m := 1) (news := [.int .i64 q.1]) rfl (by intro u hu; simp only [List.mem_singleton] at hu; subst hu; rfl) (by simp [maxLen]; omega) (by omega) ?_
   intro o' j1 j2 j3
   simp only [List.cons_append, List.nil_append] at j2 ⊢
   refine xkp ((Drop.tail _ _ _).trans (Drop.sub (sub2 _ _ _ _ _))) ?_
   have hlen2 : off + 1 ≤ (cs.set off (ovs o k)).length := by rw [List.length_set]; omega
   obtain ⟨oa2, oc2, eo2, _⟩ := ovs_open j1
   rw [eo2]
   simp -dsimp -implicitDefEqProofs (disch := first|with_reducible assumption|omega) [go_sem]
   refine ⟨by omega, ?_⟩
   first | rw [← eo2, List.set_set] | rw [← eo2]
   first | refine xkp (Drop.refl _ _) ?_ | skip
   first | simp -dsimp -implicitDefEqProofs (disch := first|with_reducible assumption|omega) [go_sem] | skip
   refine ⟨k + 1, o', l ++ [q.1], q.2.1.1, q.2.1.2, q.2.2, ⟨by omega, by simp [i2], j1, pp.1, ?_, apO_sub (.cons _ (.cons_cons _ (.cons_cons _ (.cons _ (List.Sublist.refl _))))) j2, fun a ha => ?_⟩, by omega, by simp [Ent, List.lookup], ?_⟩
   ·rw [i5]; simp
   ·rcases List.mem_append.1 ha with ha | ha
    ·exact i7 a ha
    ·rw [List.mem_singleton.1 ha]; exact pp.2
   ·rw [List.map_append]
    exact Drop.sub (.cons _ (.cons_cons _ (.cons_cons _ (.cons _ (List.Sublist.refl _)))))
  ·have e0 := lpR_bad (f := (i31 xs)) g (N - k)
   rw [e0, List.append_nil] at i5
   have gg : (decide (rr.2 = 0) && decide (rr.1.2 = 0)) = false := by
    cases hh : (decide (rr.2 = 0) && decide (rr.1.2 = 0)) with
    | false => rfl
    | true =>
     simp only [Bool.and_eq_true, decide_eq_true_eq] at hh
     exact absurd ⟨hh.1, hh.2⟩ g
   simp -dsimp -implicitDefEqProofs (disch := first|with_reducible assumption|omega) [go_sem, gg]
   exact ⟨_, _, dr, fin i5⟩
 ·have hkN : k = N := by omega
  subst hkN
  rw [Nat.sub_self] at i5
  simp only [lpR, List.append_nil] at i5
  simp -dsimp -implicitDefEqProofs (disch := first|with_reducible assumption|omega) [go_sem]
  exact ⟨_, _, dr, fin i5⟩
theorem lint4_r {bx br b1 b2 ty cp off : Nat} {v : Value} {xs : List Int} {r : RS} {cs : List Value} (hx : Ints h .u8 v xs) (hs : r.1.1 ≤ xs.length) (hty : ty ≠ 4294967295) (hn : cs[off]? = some (.slice none 0 0))
  (hk : ∀ h' w, PH.le h h' → Ints h' .i64 w (lsR xs (i31 xs) r).1 → K (.tuple #[]) (irO bx br v (lsR xs (i31 xs) r).2 (⟨b1, ty, cs.set off w, cp⟩ :: penBr b2 bx :: L)) h') :
  Spec Tryz.prog 96 [penR bx, .pointer (some ⟨b1, off, none⟩), .func (.func 98) #[] #[.pointer (some ⟨b2, 0, none⟩)]] (irO bx br v r (⟨b1, ty, cs, cp⟩ :: penBr b2 bx :: L)) h K := by
 have hz := byte_of hx
 have hoc := (List.getElem?_eq_some_iff.1 hn).1
 refine x_enterA Tryz.func96 rfl (rs := []) rfl rfl mixed (by kernel_rfl) rfl rfl fun ap nd => ?_
 obtain ⟨apr, apx, ap1, ap2, apl⟩ := ap
 simp only [Nd, Apart] at nd
 obtain ⟨⟨nd1, nd2, nd3, nd4⟩, ⟨nd5, nd6, nd7⟩, ⟨nd8, nd9⟩, ndL⟩ := nd
 simp -dsimp -implicitDefEqProofs (disch := first|with_reducible assumption|omega) [go_sem]
 refine xanyl (.tk 0 (.tk 1 (.tk 2 (.tk 5 (.tk 6 (.tk 7 (.tkl 3 (.tk 4 (.or true 8 (.tk 9 (.fin)) (.nil)))))))))) (by kernel_rfl) (by kernel_rfl) [⟨b1, ty, cs, cp⟩] (Drop.mem (by simp)) ?_
 simp -dsimp -implicitDefEqProofs (disch := first|with_reducible assumption|omega) [go_sem, xNth_of hn, pnR_count bx]
 refine xcallI (penR_count bx) ?_
 refine icount_r _ hx hs ?_
 have s1 := (cod_num hz (most := 131072) (by decide) (by decide)).pos r hs
 unfold lsR at hk
 obtain ⟨q, eq⟩ : ∃ q, q = iN xs 131072 r := ⟨_, rfl⟩
 rw [← eq] at s1 hk ⊢
 obtain ⟨z, r1⟩ := q
 simp only at s1 hk ⊢
 obtain ⟨s1, s2, s3⟩ := s1
 obtain ⟨N, rfl⟩ := Int.eq_ofNat_of_zero_le s2
 rw [Int.toNat_natCast] at hk
 refine xkp (Drop.mem (by simp)) ?_
 simp -dsimp -implicitDefEqProofs (disch := first|with_reducible assumption|omega) [go_sem]
 refine xloop (γ := Nat × Option (Nat × Nat) × List Int × RS) (0, none, [], r1)
  (fun x => x.1 ≤ N ∧ x.2.2.1.length = x.1 ∧ okO x.2.1 x.1 ∧ x.2.2.2.1.1 ≤ xs.length ∧ lpR (i31 xs) N r1 = (x.2.2.1 ++ (lpR (i31 xs) (N - x.1) x.2.2.2).1, (lpR (i31 xs) (N - x.1) x.2.2.2).2) ∧ apO x.2.1 (irO bx br v x.2.2.2 (⟨b1, ty, cs.set off (ovs x.2.1 x.1), cp⟩ :: penBr b2 bx :: L)) h ∧ (∀ a ∈ x.2.2.1, w31 a))
  (fun x => [(21, .int .i64 x.1), (20, .int .i64 N), (0, penR bx), (1, .pointer (some ⟨b1, off, none⟩)), (2, .func (.func 98) #[] #[.pointer (some ⟨b2, 0, none⟩)])])
  (fun x => irO bx br v x.2.2.2 (⟨b1, ty, cs.set off (ovs x.2.1 x.1), cp⟩ :: penBr b2 bx :: oent 3 1 x.2.1 (x.2.2.1.map (.int .i64)) L)) (fun _ => h) (fun x => N - x.1) ?_ ?_ ?_ ?_
 ·exact ⟨Nat.zero_le _, rfl, rfl, s1, by simp, trivial, fun a ha => by cases ha⟩
 ·simp [Ent, List.lookup, xEnv]
 ·show Drop _ _ (irO bx br v r1 (⟨b1, ty, cs.set off (.slice none 0 0), cp⟩ :: penBr b2 bx :: L)) _
  rw [set_self hn]
  exact Drop.refl _ _
 rintro ⟨k, o, l, rr⟩ ⟨i1, i2, i3, i4, i5, i6, i7⟩
 simp only at i1 i2 i3 i4 i5 i6 i7 ⊢
 have hst : (cs.set off (ovs o k))[off]? = some (ovs o k) := by rw [List.getElem?_set_self hoc]
 have fin : lpR (i31 xs) N r1 = (l, rr) → K (.tuple #[]) (irO bx br v rr (⟨b1, ty, cs.set off (ovs o k), cp⟩ :: penBr b2 bx :: L)) (pubO h o (l.map (.int .i64))) := fun e => by
  have sl := pub_sl (h := h) (sz := 1) (n := k) (o := o) (xs := l.map (.int .i64)) i3 (by rw [List.length_map, i2]; omega) (by omega)
  have := hk (pubO h o (l.map (.int .i64))) (ovs o k) (pub_le_o i6 _) (by rw [e]; exact ⟨by simpa [i2] using sl, fun a ha => ⟨by have := (i7 a ha).1; rw [show IntKind.i64.min = -9223372036854775808 from rfl]; omega, by have := (i7 a ha).2; rw [show IntKind.i64.max = 9223372036854775807 from rfl]; omega⟩⟩)
  rw [e] at this
  exact this
 have dr : Drop (irO bx br v rr (⟨b1, ty, cs.set off (ovs o k), cp⟩ :: penBr b2 bx :: oent 3 1 o (l.map (.int .i64)) L)) h (irO bx br v rr (⟨b1, ty, cs.set off (ovs o k), cp⟩ :: penBr b2 bx :: L)) (pubO h o (l.map (.int .i64))) :=
  (Drop.perm h (oent_front 3 1 o (l.map (.int .i64)) [_, _, _, _] L)).trans (pub_drop_o o (l.map (.int .i64)) _ h (by decide))
 by_cases c1 : k < N
 ·obtain ⟨oa, oc, eo, _⟩ := ovs_open i3
  have hlen : ∀ (K : Value → Prop) (t : Tok K), xLen Tryz.prog 3 #[34] (ovs o k) K t = K (.int .i64 k) := fun K t => by rw [eo]; exact xLen_slice (e := 3) (by kernel_rfl) oa k oc
  simp -dsimp -implicitDefEqProofs (disch := first|with_reducible assumption|omega) [go_sem, xNth_of hst, xTA_reader bx, hlen]
  refine igood_r ?_
  by_cases g : Gd rr
  ·obtain ⟨g1, g2⟩ := g
   simp -dsimp -implicitDefEqProofs (disch := first|with_reducible assumption|omega) [go_sem, g1, g2]
   refine xnew fun bn n_bn h_bn => ?_
   simp only [Apart] at n_bn
   obtain ⟨n_br, n_bx, n_b1, n_b2, n_bo⟩ := n_bn
   simp -dsimp -implicitDefEqProofs (disch := first|with_reducible assumption|omega) [go_sem]
   refine Spec.weaken (Drop.perm h ((List.Perm.swap _ _ _).trans (List.Perm.cons _ (List.Perm.swap _ _ _)))) ?_
   refine cl4_r hx i4 (List.mem_cons_of_mem _ List.mem_cons_self) ?_
   have pp := (cod_31 hz).pos rr i4
   have nx : lpR (i31 xs) (N - k) rr = (((i31 xs) rr).1 :: (lpR (i31 xs) (N - (k + 1)) ((i31 xs) rr).2).1, (lpR (i31 xs) (N - (k + 1)) ((i31 xs) rr).2).2) := by
    rw [show N - k = (N - (k + 1)) + 1 by omega, lpR, if_pos ⟨g1, g2⟩]
   rw [nx] at i5
   obtain ⟨q, eq2⟩ : ∃ q, q = (i31 xs) rr := ⟨_, rfl⟩
   rw [← eq2] at pp i5 ⊢
   simp -dsimp -implicitDefEqProofs (disch := first|with_reducible assumption|omega) [go_sem]
   refine xanyl (.tk 0 (.tk 1 (.tk 2 (.tkl 3 (.tkl 4 (.or true 5 (.or true 6 (.tk 7 (.or false 8 (.fin) (.nil))) (.nil)) (.nil))))))) (by kernel_rfl) (by kernel_rfl) [⟨bn, 3, [.int .i64 q.1], 1⟩, ⟨b1, ty, cs.set off (ovs o k), cp⟩] (Drop.sub (sub2 _ _ _ _ _)) ?_
   simp -dsimp -implicitDefEqProofs (disch := first|with_reducible assumption|omega) [go_sem, xNth_of hst]
   refine xnew fun b5 n_b5 h_b5 => ?_
   simp only [Apart] at n_b5
   obtain ⟨n_5r, n_5x, n_5n, n_51, n_52, n_5o⟩ := n_b5
   first | refine xkp ((Drop.tail _ _ _).trans (Drop.sub (sub2 _ _ _ _ _))) ?_ | skip
   simp -dsimp -implicitDefEqProofs (disch := first|with_reducible assumption|omega) [go_sem]
   refine xappend (t := 34) (e := 3) (sz := 1) (bytes := 8) (by kernel_rfl) tI_3 rfl rfl rfl rfl (by decide) [_, _, _, _, _, _] L o k (l.map (.int .i64)) i3 (by rw [List.length_map, i2]; omega) (Src.own List.mem_cons_self) (m := 1) (news := [.int .i64 q.1]) rfl (by intro u hu; simp only [List.mem_singleton] at hu; subst hu; rfl) (by simp [maxLen]; omega) (by omega) ?_
   intro o' j1 j2 j3
   simp only [List.cons_append, List.nil_append] at j2 ⊢
   refine xkp ((Drop.tail _ _ _).trans (Drop.sub (sub2 _ _ _ _ _))) ?_
   have hlen2 : off + 1 ≤ (cs.set off (ovs o k)).length := by rw [List.length_set]; omega
   obtain ⟨oa2, oc2, eo2, _⟩ := ovs_open j1
   rw [eo2]
   simp -dsimp -implicitDefEqProofs (disch := first|with_reducible assumption|omega) [go_sem]
   refine ⟨by omega, ?_⟩
   first | rw [← eo2, List.set_set] | rw [← eo2]
   first | refine xkp (Drop.refl _ _) ?_ | skip
   first | simp -dsimp -implicitDefEqProofs (disch := first|with_reducible assumption|omega) [go_sem] | skip
   refine ⟨k + 1, o', l ++ [q.1], q.2.1.1, q.2.1.2, q.2.2, ⟨by omega, by simp [i2], j1, pp.1, ?_, apO_sub (.cons _ (.cons_cons _ (.cons_cons _ (.cons _ (List.Sublist.refl _))))) j2, fun a ha => ?_⟩, by omega, by simp [Ent, List.lookup], ?_⟩
   ·rw [i5]; simp
   ·rcases List.mem_append.1 ha with ha | ha
    ·exact i7 a ha
    ·rw [List.mem_singleton.1 ha]; exact pp.2
   ·rw [List.map_append]
    exact Drop.sub (.cons _ (.cons_cons _ (.cons_cons _ (.cons _ (List.Sublist.refl _)))))
  ·have e0 := lpR_bad (f := (i31 xs)) g (N - k)
   rw [e0, List.append_nil] at i5
   have gg : (decide (rr.2 = 0) && decide (rr.1.2 = 0)) = false := by
    cases hh : (decide (rr.2 = 0) && decide (rr.1.2 = 0)) with
    | false => rfl
    | true =>
     simp only [Bool.and_eq_true, decide_eq_true_eq] at hh
     exact absurd ⟨hh.1, hh.2⟩ g
   simp -dsimp -implicitDefEqProofs (disch := first|with_reducible assumption|omega) [go_sem, gg]
   exact ⟨_, _, dr, fin i5⟩
 ·have hkN : k = N := by omega
  subst hkN
  rw [Nat.sub_self] at i5
  simp only [lpR, List.append_nil] at i5
  simp -dsimp -implicitDefEqProofs (disch := first|with_reducible assumption|omega) [go_sem]
  exact ⟨_, _, dr, fin i5⟩
theorem lmem_r {bx br b1 b2 ty cp off : Nat} {v : Value} {xs : List Int} {r : RS} {cs : List Value} (hx : Ints h .u8 v xs) (hs : r.1.1 ≤ xs.length) (hty : ty ≠ 4294967295) (hn : cs[off]? = some (.slice none 0 0))
  (hk : ∀ h' w, PH.le h h' → Recs memC 6 h' w (lsR xs (rdMem xs) r).1 → K (.tuple #[]) (irO bx br v (lsR xs (rdMem xs) r).2 (⟨b1, ty, cs.set off w, cp⟩ :: penBr b2 bx :: L)) h') :
  Spec Tryz.prog 94 [penR bx, .pointer (some ⟨b1, off, none⟩), .func (.func 95) #[] #[.pointer (some ⟨b2, 0, none⟩)]] (irO bx br v r (⟨b1, ty, cs, cp⟩ :: penBr b2 bx :: L)) h K := by
 have hz := byte_of hx
 have hoc := (List.getElem?_eq_some_iff.1 hn).1
 refine x_enterA Tryz.func94 rfl (rs := []) rfl rfl mixed (by kernel_rfl) rfl rfl fun ap nd => ?_
 obtain ⟨apr, apx, ap1, ap2, apl⟩ := ap
 simp only [Nd, Apart] at nd
 obtain ⟨⟨nd1, nd2, nd3, nd4⟩, ⟨nd5, nd6, nd7⟩, ⟨nd8, nd9⟩, ndL⟩ := nd
 simp -dsimp -implicitDefEqProofs (disch := first|with_reducible assumption|omega) [go_sem]
 refine xanyl (.tk 0 (.tk 1 (.tk 2 (.tk 5 (.tk 6 (.tk 7 (.tkl 3 (.tk 4 (.or true 8 (.tk 9 (.fin)) (.nil)))))))))) (by kernel_rfl) (by kernel_rfl) [⟨b1, ty, cs, cp⟩] (Drop.mem (by simp)) ?_
 simp -dsimp -implicitDefEqProofs (disch := first|with_reducible assumption|omega) [go_sem, xNth_of hn, pnR_count bx]
 refine xcallI (penR_count bx) ?_
 refine icount_r _ hx hs ?_
 have s1 := (cod_num hz (most := 131072) (by decide) (by decide)).pos r hs
 unfold lsR at hk
 obtain ⟨q, eq⟩ : ∃ q, q = iN xs 131072 r := ⟨_, rfl⟩
 rw [← eq] at s1 hk ⊢
 obtain ⟨z, r1⟩ := q
 simp only at s1 hk ⊢
 obtain ⟨s1, s2, s3⟩ := s1
 obtain ⟨N, rfl⟩ := Int.eq_ofNat_of_zero_le s2
 rw [Int.toNat_natCast] at hk
 refine xkp (Drop.mem (by simp)) ?_
 simp -dsimp -implicitDefEqProofs (disch := first|with_reducible assumption|omega) [go_sem]
 refine xloop (γ := Nat × Option (Nat × Nat) × List MemD × RS) (0, none, [], r1)
  (fun x => x.1 ≤ N ∧ x.2.2.1.length = x.1 ∧ okO x.2.1 x.1 ∧ x.2.2.2.1.1 ≤ xs.length ∧ lpR (rdMem xs) N r1 = (x.2.2.1 ++ (lpR (rdMem xs) (N - x.1) x.2.2.2).1, (lpR (rdMem xs) (N - x.1) x.2.2.2).2) ∧ apO x.2.1 (irO bx br v x.2.2.2 (⟨b1, ty, cs.set off (ovs x.2.1 x.1), cp⟩ :: penBr b2 bx :: L)) h ∧ (∀ a ∈ x.2.2.1, MemP a))
  (fun x => [(21, .int .i64 x.1), (20, .int .i64 N), (0, penR bx), (1, .pointer (some ⟨b1, off, none⟩)), (2, .func (.func 95) #[] #[.pointer (some ⟨b2, 0, none⟩)])])
  (fun x => irO bx br v x.2.2.2 (⟨b1, ty, cs.set off (ovs x.2.1 x.1), cp⟩ :: penBr b2 bx :: oent 89 6 x.2.1 (x.2.2.1.flatMap memC) L)) (fun _ => h) (fun x => N - x.1) ?_ ?_ ?_ ?_
 ·exact ⟨Nat.zero_le _, rfl, rfl, s1, by simp, trivial, fun a ha => by cases ha⟩
 ·simp [Ent, List.lookup, xEnv]
 ·show Drop _ _ (irO bx br v r1 (⟨b1, ty, cs.set off (.slice none 0 0), cp⟩ :: penBr b2 bx :: L)) _
  rw [set_self hn]
  exact Drop.refl _ _
 rintro ⟨k, o, l, rr⟩ ⟨i1, i2, i3, i4, i5, i6, i7⟩
 simp only at i1 i2 i3 i4 i5 i6 i7 ⊢
 have hst : (cs.set off (ovs o k))[off]? = some (ovs o k) := by rw [List.getElem?_set_self hoc]
 have fin : lpR (rdMem xs) N r1 = (l, rr) → K (.tuple #[]) (irO bx br v rr (⟨b1, ty, cs.set off (ovs o k), cp⟩ :: penBr b2 bx :: L)) (pubO h o (l.flatMap memC)) := fun e => by
  have sl := pub_sl (h := h) (sz := 6) (n := k) (o := o) (xs := l.flatMap memC) i3 (by rw [flatG_len memC_len, i2]) (by omega)
  have := hk (pubO h o (l.flatMap memC)) (ovs o k) (pub_le_o i6 _) (by rw [e]; exact ⟨memC_len, by simpa [i2] using sl⟩)
  rw [e] at this
  exact this
 have dr : Drop (irO bx br v rr (⟨b1, ty, cs.set off (ovs o k), cp⟩ :: penBr b2 bx :: oent 89 6 o (l.flatMap memC) L)) h (irO bx br v rr (⟨b1, ty, cs.set off (ovs o k), cp⟩ :: penBr b2 bx :: L)) (pubO h o (l.flatMap memC)) :=
  (Drop.perm h (oent_front 89 6 o (l.flatMap memC) [_, _, _, _] L)).trans (pub_drop_o o (l.flatMap memC) _ h (by decide))
 by_cases c1 : k < N
 ·obtain ⟨oa, oc, eo, _⟩ := ovs_open i3
  have hlen : ∀ (K : Value → Prop) (t : Tok K), xLen Tryz.prog 3 #[33] (ovs o k) K t = K (.int .i64 k) := fun K t => by rw [eo]; exact xLen_slice (e := 89) (by kernel_rfl) oa k oc
  simp -dsimp -implicitDefEqProofs (disch := first|with_reducible assumption|omega) [go_sem, xNth_of hst, xTA_reader bx, hlen]
  refine igood_r ?_
  by_cases g : Gd rr
  ·obtain ⟨g1, g2⟩ := g
   simp -dsimp -implicitDefEqProofs (disch := first|with_reducible assumption|omega) [go_sem, g1, g2]
   refine xnew fun bn n_bn h_bn => ?_
   simp only [Apart] at n_bn
   obtain ⟨n_br, n_bx, n_b1, n_b2, n_bo⟩ := n_bn
   simp -dsimp -implicitDefEqProofs (disch := first|with_reducible assumption|omega) [go_sem]
   refine Spec.weaken (Drop.perm h ((List.Perm.swap _ _ _).trans (List.Perm.cons _ (List.Perm.swap _ _ _)))) ?_
   refine cl2_r hx i4 (List.mem_cons_of_mem _ List.mem_cons_self) ?_
   have pp := (cod_mem hz).pos rr i4
   have nx : lpR (rdMem xs) (N - k) rr = (((rdMem xs) rr).1 :: (lpR (rdMem xs) (N - (k + 1)) ((rdMem xs) rr).2).1, (lpR (rdMem xs) (N - (k + 1)) ((rdMem xs) rr).2).2) := by
    rw [show N - k = (N - (k + 1)) + 1 by omega, lpR, if_pos ⟨g1, g2⟩]
   rw [nx] at i5
   obtain ⟨q, eq2⟩ : ∃ q, q = (rdMem xs) rr := ⟨_, rfl⟩
   rw [← eq2] at pp i5 ⊢
   simp -dsimp -implicitDefEqProofs (disch := first|with_reducible assumption|omega) [go_sem]
   refine xanyl (.tk 0 (.tk 1 (.tk 2 (.tkl 3 (.tkl 4 (.or true 5 (.or true 6 (.tk 7 (.or false 8 (.fin) (.nil))) (.nil)) (.nil))))))) (by kernel_rfl) (by kernel_rfl) [⟨bn, 89, memC q.1, 6⟩, ⟨b1, ty, cs.set off (ovs o k), cp⟩] (Drop.sub (sub2 _ _ _ _ _)) ?_
   simp -dsimp -implicitDefEqProofs (disch := first|with_reducible assumption|omega) [go_sem, xNth_of hst, memC]
   refine xnew fun b5 n_b5 h_b5 => ?_
   simp only [Apart] at n_b5
   obtain ⟨n_5r, n_5x, n_5n, n_51, n_52, n_5o⟩ := n_b5
   first | refine xkp ((Drop.tail _ _ _).trans (Drop.sub (sub2 _ _ _ _ _))) ?_ | skip
   simp -dsimp -implicitDefEqProofs (disch := first|with_reducible assumption|omega) [go_sem]
   refine xappend (t := 33) (e := 89) (sz := 6) (bytes := 48) (by kernel_rfl) tI_89 rfl rfl rfl rfl (by decide) [_, _, _, _, _, _] L o k (l.flatMap memC) i3 (by rw [flatG_len memC_len, i2]) (Src.own List.mem_cons_self) (m := 1) (news := memC q.1) rfl (memC_oneJ q.1) (by simp [maxLen]; omega) (by omega) ?_
   intro o' j1 j2 j3
   simp only [List.cons_append, List.nil_append] at j2 ⊢
   refine xkp ((Drop.tail _ _ _).trans (Drop.sub (sub2 _ _ _ _ _))) ?_
   have hlen2 : off + 1 ≤ (cs.set off (ovs o k)).length := by rw [List.length_set]; omega
   obtain ⟨oa2, oc2, eo2, _⟩ := ovs_open j1
   rw [eo2]
   simp -dsimp -implicitDefEqProofs (disch := first|with_reducible assumption|omega) [go_sem]
   refine ⟨by omega, ?_⟩
   first | rw [← eo2, List.set_set] | rw [← eo2]
   first | refine xkp (Drop.refl _ _) ?_ | skip
   first | simp -dsimp -implicitDefEqProofs (disch := first|with_reducible assumption|omega) [go_sem] | skip
   refine ⟨k + 1, o', l ++ [q.1], q.2.1.1, q.2.1.2, q.2.2, ⟨by omega, by simp [i2], j1, pp.1, ?_, apO_sub (.cons _ (.cons_cons _ (.cons_cons _ (.cons _ (List.Sublist.refl _))))) j2, fun a ha => ?_⟩, by omega, by simp [Ent, List.lookup], ?_⟩
   ·rw [i5]; simp
   ·rcases List.mem_append.1 ha with ha | ha
    ·exact i7 a ha
    ·rw [List.mem_singleton.1 ha]; exact pp.2
   ·rw [List.flatMap_append, List.flatMap_cons, List.flatMap_nil, List.append_nil]
    exact Drop.sub (.cons _ (.cons_cons _ (.cons_cons _ (.cons _ (List.Sublist.refl _)))))
  ·have e0 := lpR_bad (f := (rdMem xs)) g (N - k)
   rw [e0, List.append_nil] at i5
   have gg : (decide (rr.2 = 0) && decide (rr.1.2 = 0)) = false := by
    cases hh : (decide (rr.2 = 0) && decide (rr.1.2 = 0)) with
    | false => rfl
    | true =>
     simp only [Bool.and_eq_true, decide_eq_true_eq] at hh
     exact absurd ⟨hh.1, hh.2⟩ g
   simp -dsimp -implicitDefEqProofs (disch := first|with_reducible assumption|omega) [go_sem, gg]
   exact ⟨_, _, dr, fin i5⟩
 ·have hkN : k = N := by omega
  subst hkN
  rw [Nat.sub_self] at i5
  simp only [lpR, List.append_nil] at i5
  simp -dsimp -implicitDefEqProofs (disch := first|with_reducible assumption|omega) [go_sem]
  exact ⟨_, _, dr, fin i5⟩
theorem ldep_r {bx br b1 b2 ty cp off : Nat} {v : Value} {xs : List Int} {r : RS} {cs : List Value} (hx : Ints h .u8 v xs) (hs : r.1.1 ≤ xs.length) (hty : ty ≠ 4294967295) (hn : cs[off]? = some (.slice none 0 0))
  (hk : ∀ h' w, PH.le h h' → Recs depC 4 h' w (lsR xs (rdDep xs) r).1 → K (.tuple #[]) (irO bx br v (lsR xs (rdDep xs) r).2 (⟨b1, ty, cs.set off w, cp⟩ :: penBr b2 bx :: L)) h') :
  Spec Tryz.prog 99 [penR bx, .pointer (some ⟨b1, off, none⟩), .func (.func 100) #[] #[.pointer (some ⟨b2, 0, none⟩)]] (irO bx br v r (⟨b1, ty, cs, cp⟩ :: penBr b2 bx :: L)) h K := by
 have hz := byte_of hx
 have hoc := (List.getElem?_eq_some_iff.1 hn).1
 refine x_enterA Tryz.func99 rfl (rs := []) rfl rfl mixed (by kernel_rfl) rfl rfl fun ap nd => ?_
 obtain ⟨apr, apx, ap1, ap2, apl⟩ := ap
 simp only [Nd, Apart] at nd
 obtain ⟨⟨nd1, nd2, nd3, nd4⟩, ⟨nd5, nd6, nd7⟩, ⟨nd8, nd9⟩, ndL⟩ := nd
 simp -dsimp -implicitDefEqProofs (disch := first|with_reducible assumption|omega) [go_sem]
 refine xanyl (.tk 0 (.tk 1 (.tk 2 (.tk 5 (.tk 6 (.tk 7 (.tkl 3 (.tk 4 (.or true 8 (.tk 9 (.fin)) (.nil)))))))))) (by kernel_rfl) (by kernel_rfl) [⟨b1, ty, cs, cp⟩] (Drop.mem (by simp)) ?_
 simp -dsimp -implicitDefEqProofs (disch := first|with_reducible assumption|omega) [go_sem, xNth_of hn, pnR_count bx]
 refine xcallI (penR_count bx) ?_
 refine icount_r _ hx hs ?_
 have s1 := (cod_num hz (most := 131072) (by decide) (by decide)).pos r hs
 unfold lsR at hk
 obtain ⟨q, eq⟩ : ∃ q, q = iN xs 131072 r := ⟨_, rfl⟩
 rw [← eq] at s1 hk ⊢
 obtain ⟨z, r1⟩ := q
 simp only at s1 hk ⊢
 obtain ⟨s1, s2, s3⟩ := s1
 obtain ⟨N, rfl⟩ := Int.eq_ofNat_of_zero_le s2
 rw [Int.toNat_natCast] at hk
 refine xkp (Drop.mem (by simp)) ?_
 simp -dsimp -implicitDefEqProofs (disch := first|with_reducible assumption|omega) [go_sem]
 refine xloop (γ := Nat × Option (Nat × Nat) × List DepD × RS) (0, none, [], r1)
  (fun x => x.1 ≤ N ∧ x.2.2.1.length = x.1 ∧ okO x.2.1 x.1 ∧ x.2.2.2.1.1 ≤ xs.length ∧ lpR (rdDep xs) N r1 = (x.2.2.1 ++ (lpR (rdDep xs) (N - x.1) x.2.2.2).1, (lpR (rdDep xs) (N - x.1) x.2.2.2).2) ∧ apO x.2.1 (irO bx br v x.2.2.2 (⟨b1, ty, cs.set off (ovs x.2.1 x.1), cp⟩ :: penBr b2 bx :: L)) h ∧ (∀ a ∈ x.2.2.1, DepP a))
  (fun x => [(21, .int .i64 x.1), (20, .int .i64 N), (0, penR bx), (1, .pointer (some ⟨b1, off, none⟩)), (2, .func (.func 100) #[] #[.pointer (some ⟨b2, 0, none⟩)])])
  (fun x => irO bx br v x.2.2.2 (⟨b1, ty, cs.set off (ovs x.2.1 x.1), cp⟩ :: penBr b2 bx :: oent 116 4 x.2.1 (x.2.2.1.flatMap depC) L)) (fun _ => h) (fun x => N - x.1) ?_ ?_ ?_ ?_
 ·exact ⟨Nat.zero_le _, rfl, rfl, s1, by simp, trivial, fun a ha => by cases ha⟩
 ·simp [Ent, List.lookup, xEnv]
 ·show Drop _ _ (irO bx br v r1 (⟨b1, ty, cs.set off (.slice none 0 0), cp⟩ :: penBr b2 bx :: L)) _
  rw [set_self hn]
  exact Drop.refl _ _
 rintro ⟨k, o, l, rr⟩ ⟨i1, i2, i3, i4, i5, i6, i7⟩
 simp only at i1 i2 i3 i4 i5 i6 i7 ⊢
 have hst : (cs.set off (ovs o k))[off]? = some (ovs o k) := by rw [List.getElem?_set_self hoc]
 have fin : lpR (rdDep xs) N r1 = (l, rr) → K (.tuple #[]) (irO bx br v rr (⟨b1, ty, cs.set off (ovs o k), cp⟩ :: penBr b2 bx :: L)) (pubO h o (l.flatMap depC)) := fun e => by
  have sl := pub_sl (h := h) (sz := 4) (n := k) (o := o) (xs := l.flatMap depC) i3 (by rw [flatG_len depC_len, i2]) (by omega)
  have := hk (pubO h o (l.flatMap depC)) (ovs o k) (pub_le_o i6 _) (by rw [e]; exact ⟨depC_len, by simpa [i2] using sl⟩)
  rw [e] at this
  exact this
 have dr : Drop (irO bx br v rr (⟨b1, ty, cs.set off (ovs o k), cp⟩ :: penBr b2 bx :: oent 116 4 o (l.flatMap depC) L)) h (irO bx br v rr (⟨b1, ty, cs.set off (ovs o k), cp⟩ :: penBr b2 bx :: L)) (pubO h o (l.flatMap depC)) :=
  (Drop.perm h (oent_front 116 4 o (l.flatMap depC) [_, _, _, _] L)).trans (pub_drop_o o (l.flatMap depC) _ h (by decide))
 by_cases c1 : k < N
 ·obtain ⟨oa, oc, eo, _⟩ := ovs_open i3
  have hlen : ∀ (K : Value → Prop) (t : Tok K), xLen Tryz.prog 3 #[35] (ovs o k) K t = K (.int .i64 k) := fun K t => by rw [eo]; exact xLen_slice (e := 116) (by kernel_rfl) oa k oc
  simp -dsimp -implicitDefEqProofs (disch := first|with_reducible assumption|omega) [go_sem, xNth_of hst, xTA_reader bx, hlen]
  refine igood_r ?_
  by_cases g : Gd rr
  ·obtain ⟨g1, g2⟩ := g
   simp -dsimp -implicitDefEqProofs (disch := first|with_reducible assumption|omega) [go_sem, g1, g2]
   refine xnew fun bn n_bn h_bn => ?_
   simp only [Apart] at n_bn
   obtain ⟨n_br, n_bx, n_b1, n_b2, n_bo⟩ := n_bn
   simp -dsimp -implicitDefEqProofs (disch := first|with_reducible assumption|omega) [go_sem]
   refine Spec.weaken (Drop.perm h ((List.Perm.swap _ _ _).trans (List.Perm.cons _ (List.Perm.swap _ _ _)))) ?_
   refine cl5_r hx i4 (List.mem_cons_of_mem _ List.mem_cons_self) ?_
   have pp := (cod_dep hz).pos rr i4
   have nx : lpR (rdDep xs) (N - k) rr = (((rdDep xs) rr).1 :: (lpR (rdDep xs) (N - (k + 1)) ((rdDep xs) rr).2).1, (lpR (rdDep xs) (N - (k + 1)) ((rdDep xs) rr).2).2) := by
    rw [show N - k = (N - (k + 1)) + 1 by omega, lpR, if_pos ⟨g1, g2⟩]
   rw [nx] at i5
   obtain ⟨q, eq2⟩ : ∃ q, q = (rdDep xs) rr := ⟨_, rfl⟩
   rw [← eq2] at pp i5 ⊢
   simp -dsimp -implicitDefEqProofs (disch := first|with_reducible assumption|omega) [go_sem]
   refine xanyl (.tk 0 (.tk 1 (.tk 2 (.tkl 3 (.tkl 4 (.or true 5 (.or true 6 (.tk 7 (.or false 8 (.fin) (.nil))) (.nil)) (.nil))))))) (by kernel_rfl) (by kernel_rfl) [⟨bn, 116, depC q.1, 4⟩, ⟨b1, ty, cs.set off (ovs o k), cp⟩] (Drop.sub (sub2 _ _ _ _ _)) ?_
   simp -dsimp -implicitDefEqProofs (disch := first|with_reducible assumption|omega) [go_sem, xNth_of hst, depC]
   refine xnew fun b5 n_b5 h_b5 => ?_
   simp only [Apart] at n_b5
   obtain ⟨n_5r, n_5x, n_5n, n_51, n_52, n_5o⟩ := n_b5
   first | refine xkp ((Drop.tail _ _ _).trans (Drop.sub (sub2 _ _ _ _ _))) ?_ | skip
   simp -dsimp -implicitDefEqProofs (disch := first|with_reducible assumption|omega) [go_sem]
   refine xappend (t := 35) (e := 116) (sz := 4) (bytes := 32) (by kernel_rfl) tI_116 rfl rfl rfl rfl (by decide) [_, _, _, _, _, _] L o k (l.flatMap depC) i3 (by rw [flatG_len depC_len, i2]) (Src.own List.mem_cons_self) (m := 1) (news := depC q.1) rfl (depC_oneJ q.1) (by simp [maxLen]; omega) (by omega) ?_
   intro o' j1 j2 j3
   simp only [List.cons_append, List.nil_append] at j2 ⊢
   refine xkp ((Drop.tail _ _ _).trans (Drop.sub (sub2 _ _ _ _ _))) ?_
   have hlen2 : off + 1 ≤ (cs.set off (ovs o k)).length := by rw [List.length_set]; omega
   obtain ⟨oa2, oc2, eo2, _⟩ := ovs_open j1
   rw [eo2]
   simp -dsimp -implicitDefEqProofs (disch := first|with_reducible assumption|omega) [go_sem]
   refine ⟨by omega, ?_⟩
   first | rw [← eo2, List.set_set] | rw [← eo2]
   first | refine xkp (Drop.refl _ _) ?_ | skip
   first | simp -dsimp -implicitDefEqProofs (disch := first|with_reducible assumption|omega) [go_sem] | skip
   refine ⟨k + 1, o', l ++ [q.1], q.2.1.1, q.2.1.2, q.2.2, ⟨by omega, by simp [i2], j1, pp.1, ?_, apO_sub (.cons _ (.cons_cons _ (.cons_cons _ (.cons _ (List.Sublist.refl _))))) j2, fun a ha => ?_⟩, by omega, by simp [Ent, List.lookup], ?_⟩
   ·rw [i5]; simp
   ·rcases List.mem_append.1 ha with ha | ha
    ·exact i7 a ha
    ·rw [List.mem_singleton.1 ha]; exact pp.2
   ·rw [List.flatMap_append, List.flatMap_cons, List.flatMap_nil, List.append_nil]
    exact Drop.sub (.cons _ (.cons_cons _ (.cons_cons _ (.cons _ (List.Sublist.refl _)))))
  ·have e0 := lpR_bad (f := (rdDep xs)) g (N - k)
   rw [e0, List.append_nil] at i5
   have gg : (decide (rr.2 = 0) && decide (rr.1.2 = 0)) = false := by
    cases hh : (decide (rr.2 = 0) && decide (rr.1.2 = 0)) with
    | false => rfl
    | true =>
     simp only [Bool.and_eq_true, decide_eq_true_eq] at hh
     exact absurd ⟨hh.1, hh.2⟩ g
   simp -dsimp -implicitDefEqProofs (disch := first|with_reducible assumption|omega) [go_sem, gg]
   exact ⟨_, _, dr, fin i5⟩
 ·have hkN : k = N := by omega
  subst hkN
  rw [Nat.sub_self] at i5
  simp only [lpR, List.append_nil] at i5
  simp -dsimp -implicitDefEqProofs (disch := first|with_reducible assumption|omega) [go_sem]
  exact ⟨_, _, dr, fin i5⟩
theorem ldue_r {bx br b1 b2 ty cp off : Nat} {v : Value} {xs : List Int} {r : RS} {cs : List Value} (hx : Ints h .u8 v xs) (hs : r.1.1 ≤ xs.length) (hty : ty ≠ 4294967295) (hn : cs[off]? = some (.slice none 0 0))
  (hk : ∀ h' w, PH.le h h' → Recs dueC 3 h' w (lsR xs (rdDue xs) r).1 → K (.tuple #[]) (irO bx br v (lsR xs (rdDue xs) r).2 (⟨b1, ty, cs.set off w, cp⟩ :: penBr b2 bx :: L)) h') :
  Spec Tryz.prog 101 [penR bx, .pointer (some ⟨b1, off, none⟩), .func (.func 102) #[] #[.pointer (some ⟨b2, 0, none⟩)]] (irO bx br v r (⟨b1, ty, cs, cp⟩ :: penBr b2 bx :: L)) h K := by
 have hz := byte_of hx
 have hoc := (List.getElem?_eq_some_iff.1 hn).1
 refine x_enterA Tryz.func101 rfl (rs := []) rfl rfl mixed (by kernel_rfl) rfl rfl fun ap nd => ?_
 obtain ⟨apr, apx, ap1, ap2, apl⟩ := ap
 simp only [Nd, Apart] at nd
 obtain ⟨⟨nd1, nd2, nd3, nd4⟩, ⟨nd5, nd6, nd7⟩, ⟨nd8, nd9⟩, ndL⟩ := nd
 simp -dsimp -implicitDefEqProofs (disch := first|with_reducible assumption|omega) [go_sem]
 refine xanyl (.tk 0 (.tk 1 (.tk 2 (.tk 5 (.tk 6 (.tk 7 (.tkl 3 (.tk 4 (.or true 8 (.tk 9 (.fin)) (.nil)))))))))) (by kernel_rfl) (by kernel_rfl) [⟨b1, ty, cs, cp⟩] (Drop.mem (by simp)) ?_
 simp -dsimp -implicitDefEqProofs (disch := first|with_reducible assumption|omega) [go_sem, xNth_of hn, pnR_count bx]
 refine xcallI (penR_count bx) ?_
 refine icount_r _ hx hs ?_
 have s1 := (cod_num hz (most := 131072) (by decide) (by decide)).pos r hs
 unfold lsR at hk
 obtain ⟨q, eq⟩ : ∃ q, q = iN xs 131072 r := ⟨_, rfl⟩
 rw [← eq] at s1 hk ⊢
 obtain ⟨z, r1⟩ := q
 simp only at s1 hk ⊢
 obtain ⟨s1, s2, s3⟩ := s1
 obtain ⟨N, rfl⟩ := Int.eq_ofNat_of_zero_le s2
 rw [Int.toNat_natCast] at hk
 refine xkp (Drop.mem (by simp)) ?_
 simp -dsimp -implicitDefEqProofs (disch := first|with_reducible assumption|omega) [go_sem]
 refine xloop (γ := Nat × Option (Nat × Nat) × List DueD × RS) (0, none, [], r1)
  (fun x => x.1 ≤ N ∧ x.2.2.1.length = x.1 ∧ okO x.2.1 x.1 ∧ x.2.2.2.1.1 ≤ xs.length ∧ lpR (rdDue xs) N r1 = (x.2.2.1 ++ (lpR (rdDue xs) (N - x.1) x.2.2.2).1, (lpR (rdDue xs) (N - x.1) x.2.2.2).2) ∧ apO x.2.1 (irO bx br v x.2.2.2 (⟨b1, ty, cs.set off (ovs x.2.1 x.1), cp⟩ :: penBr b2 bx :: L)) h ∧ (∀ a ∈ x.2.2.1, DueP a))
  (fun x => [(21, .int .i64 x.1), (20, .int .i64 N), (0, penR bx), (1, .pointer (some ⟨b1, off, none⟩)), (2, .func (.func 102) #[] #[.pointer (some ⟨b2, 0, none⟩)])])
  (fun x => irO bx br v x.2.2.2 (⟨b1, ty, cs.set off (ovs x.2.1 x.1), cp⟩ :: penBr b2 bx :: oent 46 3 x.2.1 (x.2.2.1.flatMap dueC) L)) (fun _ => h) (fun x => N - x.1) ?_ ?_ ?_ ?_
 ·exact ⟨Nat.zero_le _, rfl, rfl, s1, by simp, trivial, fun a ha => by cases ha⟩
 ·simp [Ent, List.lookup, xEnv]
 ·show Drop _ _ (irO bx br v r1 (⟨b1, ty, cs.set off (.slice none 0 0), cp⟩ :: penBr b2 bx :: L)) _
  rw [set_self hn]
  exact Drop.refl _ _
 rintro ⟨k, o, l, rr⟩ ⟨i1, i2, i3, i4, i5, i6, i7⟩
 simp only at i1 i2 i3 i4 i5 i6 i7 ⊢
 have hst : (cs.set off (ovs o k))[off]? = some (ovs o k) := by rw [List.getElem?_set_self hoc]
 have fin : lpR (rdDue xs) N r1 = (l, rr) → K (.tuple #[]) (irO bx br v rr (⟨b1, ty, cs.set off (ovs o k), cp⟩ :: penBr b2 bx :: L)) (pubO h o (l.flatMap dueC)) := fun e => by
  have sl := pub_sl (h := h) (sz := 3) (n := k) (o := o) (xs := l.flatMap dueC) i3 (by rw [flatG_len dueC_len, i2]) (by omega)
  have := hk (pubO h o (l.flatMap dueC)) (ovs o k) (pub_le_o i6 _) (by rw [e]; exact ⟨dueC_len, by simpa [i2] using sl⟩)
  rw [e] at this
  exact this
 have dr : Drop (irO bx br v rr (⟨b1, ty, cs.set off (ovs o k), cp⟩ :: penBr b2 bx :: oent 46 3 o (l.flatMap dueC) L)) h (irO bx br v rr (⟨b1, ty, cs.set off (ovs o k), cp⟩ :: penBr b2 bx :: L)) (pubO h o (l.flatMap dueC)) :=
  (Drop.perm h (oent_front 46 3 o (l.flatMap dueC) [_, _, _, _] L)).trans (pub_drop_o o (l.flatMap dueC) _ h (by decide))
 by_cases c1 : k < N
 ·obtain ⟨oa, oc, eo, _⟩ := ovs_open i3
  have hlen : ∀ (K : Value → Prop) (t : Tok K), xLen Tryz.prog 3 #[36] (ovs o k) K t = K (.int .i64 k) := fun K t => by rw [eo]; exact xLen_slice (e := 46) (by kernel_rfl) oa k oc
  simp -dsimp -implicitDefEqProofs (disch := first|with_reducible assumption|omega) [go_sem, xNth_of hst, xTA_reader bx, hlen]
  refine igood_r ?_
  by_cases g : Gd rr
  ·obtain ⟨g1, g2⟩ := g
   simp -dsimp -implicitDefEqProofs (disch := first|with_reducible assumption|omega) [go_sem, g1, g2]
   refine xnew fun bn n_bn h_bn => ?_
   simp only [Apart] at n_bn
   obtain ⟨n_br, n_bx, n_b1, n_b2, n_bo⟩ := n_bn
   simp -dsimp -implicitDefEqProofs (disch := first|with_reducible assumption|omega) [go_sem]
   refine Spec.weaken (Drop.perm h ((List.Perm.swap _ _ _).trans (List.Perm.cons _ (List.Perm.swap _ _ _)))) ?_
   refine cl6_r hx i4 (List.mem_cons_of_mem _ List.mem_cons_self) ?_
   have pp := (cod_due hz).pos rr i4
   have nx : lpR (rdDue xs) (N - k) rr = (((rdDue xs) rr).1 :: (lpR (rdDue xs) (N - (k + 1)) ((rdDue xs) rr).2).1, (lpR (rdDue xs) (N - (k + 1)) ((rdDue xs) rr).2).2) := by
    rw [show N - k = (N - (k + 1)) + 1 by omega, lpR, if_pos ⟨g1, g2⟩]
   rw [nx] at i5
   obtain ⟨q, eq2⟩ : ∃ q, q = (rdDue xs) rr := ⟨_, rfl⟩
   rw [← eq2] at pp i5 ⊢
   simp -dsimp -implicitDefEqProofs (disch := first|with_reducible assumption|omega) [go_sem]
   refine xanyl (.tk 0 (.tk 1 (.tk 2 (.tkl 3 (.tkl 4 (.or true 5 (.or true 6 (.tk 7 (.or false 8 (.fin) (.nil))) (.nil)) (.nil))))))) (by kernel_rfl) (by kernel_rfl) [⟨bn, 46, dueC q.1, 3⟩, ⟨b1, ty, cs.set off (ovs o k), cp⟩] (Drop.sub (sub2 _ _ _ _ _)) ?_
   simp -dsimp -implicitDefEqProofs (disch := first|with_reducible assumption|omega) [go_sem, xNth_of hst, dueC]
   refine xnew fun b5 n_b5 h_b5 => ?_
   simp only [Apart] at n_b5
   obtain ⟨n_5r, n_5x, n_5n, n_51, n_52, n_5o⟩ := n_b5
   first | refine xkp ((Drop.tail _ _ _).trans (Drop.sub (sub2 _ _ _ _ _))) ?_ | skip
   simp -dsimp -implicitDefEqProofs (disch := first|with_reducible assumption|omega) [go_sem]
   refine xappend (t := 36) (e := 46) (sz := 3) (bytes := 24) (by kernel_rfl) tI_46 rfl rfl rfl rfl (by decide) [_, _, _, _, _, _] L o k (l.flatMap dueC) i3 (by rw [flatG_len dueC_len, i2]) (Src.own List.mem_cons_self) (m := 1) (news := dueC q.1) rfl (dueC_oneJ q.1) (by simp [maxLen]; omega) (by omega) ?_
   intro o' j1 j2 j3
   simp only [List.cons_append, List.nil_append] at j2 ⊢
   refine xkp ((Drop.tail _ _ _).trans (Drop.sub (sub2 _ _ _ _ _))) ?_
   have hlen2 : off + 1 ≤ (cs.set off (ovs o k)).length := by rw [List.length_set]; omega
   obtain ⟨oa2, oc2, eo2, _⟩ := ovs_open j1
   rw [eo2]
   simp -dsimp -implicitDefEqProofs (disch := first|with_reducible assumption|omega) [go_sem]
   refine ⟨by omega, ?_⟩
   first | rw [← eo2, List.set_set] | rw [← eo2]
   first | refine xkp (Drop.refl _ _) ?_ | skip
   first | simp -dsimp -implicitDefEqProofs (disch := first|with_reducible assumption|omega) [go_sem] | skip
   refine ⟨k + 1, o', l ++ [q.1], q.2.1.1, q.2.1.2, q.2.2, ⟨by omega, by simp [i2], j1, pp.1, ?_, apO_sub (.cons _ (.cons_cons _ (.cons_cons _ (.cons _ (List.Sublist.refl _))))) j2, fun a ha => ?_⟩, by omega, by simp [Ent, List.lookup], ?_⟩
   ·rw [i5]; simp
   ·rcases List.mem_append.1 ha with ha | ha
    ·exact i7 a ha
    ·rw [List.mem_singleton.1 ha]; exact pp.2
   ·rw [List.flatMap_append, List.flatMap_cons, List.flatMap_nil, List.append_nil]
    exact Drop.sub (.cons _ (.cons_cons _ (.cons_cons _ (.cons _ (List.Sublist.refl _)))))
  ·have e0 := lpR_bad (f := (rdDue xs)) g (N - k)
   rw [e0, List.append_nil] at i5
   have gg : (decide (rr.2 = 0) && decide (rr.1.2 = 0)) = false := by
    cases hh : (decide (rr.2 = 0) && decide (rr.1.2 = 0)) with
    | false => rfl
    | true =>
     simp only [Bool.and_eq_true, decide_eq_true_eq] at hh
     exact absurd ⟨hh.1, hh.2⟩ g
   simp -dsimp -implicitDefEqProofs (disch := first|with_reducible assumption|omega) [go_sem, gg]
   exact ⟨_, _, dr, fin i5⟩
 ·have hkN : k = N := by omega
  subst hkN
  rw [Nat.sub_self] at i5
  simp only [lpR, List.append_nil] at i5
  simp -dsimp -implicitDefEqProofs (disch := first|with_reducible assumption|omega) [go_sem]
  exact ⟨_, _, dr, fin i5⟩
end Go.X

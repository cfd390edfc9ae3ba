/- Lemmas and contracts for a statement about the given program. Conditions: as each says. -/
import Derived.Test.YtmkekhodcacfbaaGreatQ18
import Derived.Test.YtmkekhodcacfbaaGreatQ19
set_option linter.unusedVariables false
set_option linter.unusedSimpArgs false
set_option maxHeartbeats 12800000
set_option maxRecDepth 20000
namespace Go.X
open Go.RowKit Go.Proofs Go.Bl
variable {L : Own} {h : PH} {K : PK}
theorem radd_any {n m : Int} {k l : Nat} (v u : Value) (ha : Nt h v n k) (hb : Nt h u m l) (hkl : k ≤ 200000 ∧ l ≤ 200000) (hk : ∀ h' r, PH.le h h' → Nt h' r (n + m) (max k l + 1) → K r L h') : Spec Tryz.prog 62 [v, u] L h K := by
 obtain ⟨s, ds, rfl, hs, hd, rfl, hdl⟩ := ha
 obtain ⟨r, es, rfl, hr, he, rfl, hel⟩ := hb
 have hs0 := hs
 have hr0 := hr
 obtain ⟨a, ca, rfl, hna, hca, _, hcx⟩ := hs.open
 obtain ⟨b, cb, rfl, hnb, hcb, _, hcy⟩ := hr.open
 obtain ⟨N, hN⟩ : ∃ N, N = max ds.length es.length := ⟨_, rfl⟩
 have eN : max (ds.length : Int) (es.length : Int) = (N : Int) := by omega
 refine x_enter Tryz.func62 rfl (rs := [_]) rfl rfl mixed (by kernel_rfl) rfl rfl ?_
 simp -dsimp -implicitDefEqProofs (disch := first|with_reducible assumption|omega) [go_sem]
 refine xnew fun b1 n_b1 h_b1 => ?_
 try simp only [Apart] at n_b1
 simp -dsimp -implicitDefEqProofs (disch := first|with_reducible assumption|omega) [go_sem]
 refine xnew fun b2 n_b2 h_b2 => ?_
 try simp only [Apart] at n_b2
 simp -dsimp -implicitDefEqProofs (disch := first|with_reducible assumption|omega) [go_sem]
 refine xnew fun b3 n_b3 h_b3 => ?_
 try simp only [Apart] at n_b3
 simp -dsimp -implicitDefEqProofs (disch := first|with_reducible assumption|omega) [go_sem]
 refine xloop (γ := Nat × Int × Option (Nat × Nat) × List Int) (0, 0, none, [])
  (fun s => s.1 ≤ N + 1 ∧ (s.1 = N + 1 → s.2.1 = 0) ∧ 0 ≤ s.2.1 ∧ s.2.1 ≤ 1 ∧ s.2.2.2.length = s.1 ∧ okO s.2.2.1 s.2.2.2.length ∧ apO s.2.2.1 (⟨b3, 136, [.slice none 0 0], 1⟩ :: ⟨b2, 136, [.slice b es.length cb], 1⟩ :: ⟨b1, 136, [.slice a ds.length ca], 1⟩ :: L) h ∧ Dg s.2.2.2 ∧ vl s.2.2.2 + s.2.1 * 10 ^ s.1 = pv ds s.1 + pv es s.1)
  (fun s => [(7, .int .i64 s.1), (6, .int .i64 s.2.1), (5, ovs s.2.2.1 s.2.2.2.length), (4, .pointer (some ⟨b3, 0, none⟩)), (3, .pointer (some ⟨b2, 0, none⟩)), (2, .pointer (some ⟨b1, 0, none⟩))])
  (fun s => oent 3 1 s.2.2.1 (s.2.2.2.map (Value.int .i64)) (⟨b3, 136, [.slice none 0 0], 1⟩ :: ⟨b2, 136, [.slice b es.length cb], 1⟩ :: ⟨b1, 136, [.slice a ds.length ca], 1⟩ :: L))
  (fun _ => h) (fun s => N + 1 - s.1) ?_ ?_ ?_ ?_
 ·exact ⟨Nat.zero_le _, fun _ => rfl, Int.le_refl _, by simp, rfl, rfl, trivial, fun j => by simp [at0], by simp [vl, pv]⟩
 ·simp [Ent, List.lookup, ovs]
 ·exact Drop.refl _ _
 rintro ⟨i, c, o, fs⟩ ⟨i1, i2, i3, i4, i5, i6, i7, i8, i9⟩
 simp only at i1 i2 i3 i4 i5 i6 i7 i8 i9 ⊢
 have m3 : apB o b3 := i7.head
 have m2 : apB o b2 := (apO_tail i7).head
 have m1 : apB o b1 := (apO_tail (apO_tail i7)).head
 have q1 := hd i
 have q2 := he i
 have hpd : pv ds (i + 1) = pv ds i + at0 ds i * 10 ^ i := rfl
 have hpe : pv es (i + 1) = pv es i + at0 es i * 10 ^ i := rfl
 by_cases c1 : (i : Int) < (N : Int) ∨ 0 < c
 ·have hi : i < N + 1 := by
   by_cases e : i = N + 1
   ·have := i2 e; omega
   ·omega
  obtain ⟨t, ht⟩ : ∃ t, t = at0 ds i + at0 es i + c := ⟨_, rfl⟩
  have hz : i = N → at0 ds i = 0 ∧ at0 es i = 0 := fun e => ⟨at0_ge (by omega), at0_ge (by omega)⟩
  have f1 : vl (fs ++ [t % 10]) + t / 10 * 10 ^ (i + 1) = pv ds (i + 1) + pv es (i + 1) := by
   rw [vl_append, i5, hpd, hpe, Int.pow_succ]
   have e : t = t / 10 * 10 + t % 10 := by omega
   have e2 : t * 10 ^ i = t / 10 * (10 ^ i * 10) + t % 10 * 10 ^ i := by
    conv => lhs; rw [e]
    rw [Int.add_mul, Int.mul_assoc, Int.mul_comm 10]
   have e3 : t * 10 ^ i = at0 ds i * 10 ^ i + at0 es i * 10 ^ i + c * 10 ^ i := by rw [ht, Int.add_mul, Int.add_mul]
   omega
  by_cases c2 : (i : Int) < (N : Int)
  all_goals
   simp -dsimp -implicitDefEqProofs (disch := first|with_reducible assumption|omega) [go_sem, xFind_oent m2, xFind_oent m1, xBuiltin_max, eN]
   refine xdraw (by kernel_rfl) rfl ?_
   simp -dsimp -implicitDefEqProofs (disch := first|with_reducible assumption|omega) [go_sem, xFind_oent m2, xFind_oent m1]
   refine xdcall _ (at_any _ i hs0 (by omega) (by omega) ⟨rfl, rfl, rfl⟩) ?_
   simp only [Int.toNat_natCast]
   simp -dsimp -implicitDefEqProofs (disch := first|with_reducible assumption|omega) [go_sem, xFind_oent m2, xFind_oent m1]
   refine xdcall _ (at_any _ i hr0 (by omega) (by omega) ⟨rfl, rfl, rfl⟩) ?_
   simp only [Int.toNat_natCast]
   simp -dsimp -implicitDefEqProofs (disch := first|with_reducible assumption|omega) [go_sem, ← ht]
   refine xnew fun b4 n_b4 h_b4 => ?_
   try simp only [Apart] at n_b4
   simp -dsimp -implicitDefEqProofs (disch := first|with_reducible assumption|omega) [go_sem, ← ht]
   refine xappend (t := 27) (e := 3) (sz := 1) (bytes := 8) (z := [.int .i64 0]) (by kernel_rfl) tI_3 rfl rfl rfl rfl (by decide) [_] _ o fs.length (fs.map (Value.int .i64)) i6 (by simp) (Src.own List.mem_cons_self) (m := 1) (news := [.int .i64 (t % 10)]) rfl (fun u hu => by simp at hu; subst hu; rfl) (by simp [maxLen]; omega) (by omega) ?_
   intro o' j1 j2 j3
   simp -dsimp -implicitDefEqProofs (disch := first|with_reducible assumption|omega) [go_sem, ← ht]
   refine ⟨i + 1, t / 10, o', fs ++ [t % 10], ⟨by omega, fun e => ?_, by omega, by omega, by simp [i5], by simpa using j1, apO_tail j2, i8.append (by omega) (by omega), f1⟩, by omega, by simp [Ent, List.lookup], by simpa using Drop.tail _ _ _⟩
   have := hz (by omega)
   omega
 ·have hc0 : c = 0 := by omega
  subst hc0
  have hv : vl fs = vl ds + vl es := by
   rw [← pv_more ds i (by omega), ← pv_more es i (by omega)]
   omega
  simp -dsimp -implicitDefEqProofs (disch := first|with_reducible assumption|omega) [go_sem, xFind_oent m2, xFind_oent m1, xBuiltin_max, eN]
  refine call_pub (n := fs.length) i6 (by simp) (by omega) i7 fun h' le sl => ?_
  refine Spec.ap (trim_any (ds := fs) (m := max k l + 1) _ ⟨sl, digit_range i8⟩ i8 (by omega) fun r hr ap => ?_)
  simp only [Ap] at ap
  obtain ⟨a3, a2, a1, _⟩ := ap
  obtain ⟨s', fs', rfl, g1, g2, g3, g4⟩ := hr
  simp -dsimp -implicitDefEqProofs (disch := first|with_reducible assumption|omega) [go_sem]
  refine ⟨by obtain ⟨_, _, rfl, _⟩ := g1.open; rfl, fin_tail (fin_tail (fin_tail (fin_here (hk h' _ le ⟨s', fs', rfl, g1, g2, by rw [g3, hv], g4⟩))))⟩
theorem nt_zero (h : PH) (m : Nat) : Nt h (.agg #[.slice none 0 0]) 0 m := ⟨_, [], rfl, nil_ints h .i64, fun j => by simp [at0], rfl, Nat.zero_le _⟩
theorem Nt.sl {v : Value} {n : Int} {m : Nat} (hs : Nt h v n m) : ∃ a k c, v = .agg #[.slice a k c] := by
 obtain ⟨s, ds, rfl, b, _⟩ := hs
 obtain ⟨a, c, rfl, _⟩ := b.open
 exact ⟨a, _, c, rfl⟩
theorem rsum_any {zs : List Int} (v : Value) (hz : Ints h .u64 v zs) (hn : zs.length ≤ 100000) (hk : ∀ h' r, PH.le h h' → Nt h' r (tot zs) (zs.length + 20) → K r L h') : Spec Tryz.prog 73 [v] L h K := by
 have hw := hz.word
 obtain ⟨a, c, rfl, hcap, hlen, _, hcs⟩ := hz.open
 refine x_enter Tryz.func73 rfl (rs := [_]) rfl rfl mixed (by kernel_rfl) rfl rfl ?_
 simp -dsimp -implicitDefEqProofs (disch := first|with_reducible assumption|omega) [go_sem]
 refine xnew fun b2 n_b2 h_b2 => ?_
 try simp only [Apart] at n_b2
 simp -dsimp -implicitDefEqProofs (disch := first|with_reducible assumption|omega) [go_sem]
 refine xnew fun b3 n_b3 h_b3 => ?_
 try simp only [Apart] at n_b3
 simp -dsimp -implicitDefEqProofs (disch := first|with_reducible assumption|omega) [go_sem]
 refine xloop (γ := Nat × Value × PH) (0, .slice none 0 0, h)
  (fun s => s.1 ≤ zs.length ∧ PH.le h s.2.2 ∧ s.2.2 b3 = noC ∧ s.2.2 b2 = noC ∧ Nt s.2.2 (.agg #[s.2.1]) (sumK zs s.1) (s.1 + 20))
  (fun s => [(4, .int .i64 s.1), (3, .pointer (some ⟨b3, 0, none⟩)), (2, .pointer (some ⟨b2, 0, none⟩)), (0, .slice a zs.length c)])
  (fun s => ⟨b3, 136, [s.2.1], 1⟩ :: ⟨b2, 136, [.slice none 0 0], 1⟩ :: L)
  (fun s => s.2.2) (fun s => zs.length - s.1) ?_ ?_ ?_ ?_
 ·exact ⟨Nat.zero_le _, PH.le_refl _, h_b3, h_b2, nt_zero h _⟩
 ·simp [Ent, List.lookup, xEnv]
 ·exact Drop.refl _ _
 rintro ⟨k, sv, hh⟩ ⟨k1, le0, a3, a2, nt⟩
 simp only at k1 le0 a3 a2 nt ⊢
 obtain ⟨sa, sk, sc, es⟩ := nt.sl
 obtain rfl : sv = .slice sa sk sc := by simpa using es
 have hcs' : ∀ j, j < zs.length → elemCell hh a j = some (.int .u64 (at0 zs j)) := fun j hj => elemCell_up le0 (hcs j hj)
 by_cases c1 : k < zs.length
 ·simp -dsimp -implicitDefEqProofs (disch := first|with_reducible assumption|omega) [go_sem]
  refine xanyl (.tk 1 (.tk 2 (.tk 3 (.tkl 0 (.tkl 4 (.or true 5 (.or true 6 (.or false 7 (.fin) (.nil)) (.nil)) (.nil))))))) (by kernel_rfl) (by kernel_rfl) _ (Drop.refl _ _) ?_
  simp -dsimp -implicitDefEqProofs (disch := first|with_reducible assumption|omega) [go_sem, idx hcs']
  refine Spec.apn (of_any (at0 zs k) (hw k).1 (hw k).2 fun h4 r4 le4 n4 ap nd => ?_)
  obtain ⟨p3, p2, _⟩ := ap
  refine xkp (Drop.forget le4) ?_
  obtain ⟨ra, rk, rc, rfl⟩ := n4.sl
  simp -dsimp -implicitDefEqProofs (disch := first|with_reducible assumption|omega) [go_sem]
  refine Spec.apn (radd_any _ _ (nt.up le4) n4 ⟨by omega, by omega⟩ fun h5 r5 le5 n5 ap nd => ?_)
  obtain ⟨p3, p2, _⟩ := ap
  refine xkp (Drop.forget (le4.trans le5)) ?_
  obtain ⟨ta, tk, tc, rfl⟩ := n5.sl
  simp -dsimp -implicitDefEqProofs (disch := first|with_reducible assumption|omega) [go_sem]
  exact ⟨k + 1, _, h5, ⟨by omega, le0.trans (le4.trans le5), p3, p2, n5.more (by omega)⟩, by omega, by simp [Ent, List.lookup], Drop.refl _ _⟩
 ·have hkl : k = zs.length := by omega
  subst hkl
  simp -dsimp -implicitDefEqProofs (disch := first|with_reducible assumption|omega) [go_sem]
  exact fin_tail (fin_tail (fin_here (hk _ _ le0 nt)))
theorem add21_any {n m : Int} {k l : Nat} (v u : Value) (ha : Nt h v n k) (hb : Nt h u m l) (hkl : k ≤ 200000 ∧ l ≤ 200000) (hk : ∀ h' r, PH.le h h' → Nt h' r (n + m) (max k l + 1) → K r L h') : Spec Tryz.prog 207 [v, u] L h K := by
 obtain ⟨va, vk, vc, rfl⟩ := ha.sl
 obtain ⟨ua, uk, uc, rfl⟩ := hb.sl
 refine x_enter Tryz.func207 rfl (rs := [_]) rfl rfl mixed (by kernel_rfl) rfl rfl ?_
 simp -dsimp -implicitDefEqProofs (disch := first|with_reducible assumption|omega) [go_sem]
 refine xnew fun b1 n_b1 h_b1 => ?_
 try simp only [Apart] at n_b1
 simp -dsimp -implicitDefEqProofs (disch := first|with_reducible assumption|omega) [go_sem]
 refine xnew fun b2 n_b2 h_b2 => ?_
 try simp only [Apart] at n_b2
 simp -dsimp -implicitDefEqProofs (disch := first|with_reducible assumption|omega) [go_sem]
 refine xnew fun b3 n_b3 h_b3 => ?_
 try simp only [Apart] at n_b3
 simp -dsimp -implicitDefEqProofs (disch := first|with_reducible assumption|omega) [go_sem]
 refine Spec.apn (radd_any _ _ ha hb hkl fun h5 r5 le5 n5 ap nd => ?_)
 obtain ⟨p3, p2, p1, _⟩ := ap
 obtain ⟨ta, tk, tc, rfl⟩ := n5.sl
 simp -dsimp -implicitDefEqProofs (disch := first|with_reducible assumption|omega) [go_sem]
 exact fin_tail (fin_tail (fin_tail (fin_here (hk _ _ le5 n5))))
abbrev monV (s : StD) (r1 r2 r3 r4 : Value) : Value := .agg #[.int .u64 s.most, .int .u64 s.gen, .int .u64 s.mint, .int .u64 s.burn, .int .u64 s.treas, r1, r2, r3, r4]
structure IsMon (h : PH) (s : StD) (r1 r2 r3 r4 : Value) : Prop where
 ok : StOk s
 a : Ints h .u64 r1 (s.members.map MemD.bal)
 b : Ints h .u64 r2 s.purses
 c : Ints h .u64 r3 (s.pool.map DepD.amt)
 d : Ints h .u64 r4 (s.dues.map DueD.amt)
theorem issued_any {s : StD} (r1 r2 r3 r4 : Value) (hm : IsMon h s r1 r2 r3 r4) (hk : ∀ h' r, PH.le h h' → Nt h' r (s.gen + s.mint) 21 → K r L h') : Spec Tryz.prog 206 [monV s r1 r2 r3 r4] L h K := by
 have ug : 0 ≤ s.gen ∧ s.gen ≤ 18446744073709551615 := hm.ok.u _ (by simp)
 have ui : 0 ≤ s.mint ∧ s.mint ≤ 18446744073709551615 := hm.ok.u _ (by simp)
 obtain ⟨a1, c1, rfl, _⟩ := hm.a.open
 obtain ⟨a2, c2, rfl, _⟩ := hm.b.open
 obtain ⟨a3, c3, rfl, _⟩ := hm.c.open
 obtain ⟨a4, c4, rfl, _⟩ := hm.d.open
 refine x_enter Tryz.func206 rfl (rs := [_]) rfl rfl mixed (by kernel_rfl) rfl rfl ?_
 simp -dsimp -implicitDefEqProofs (disch := first|with_reducible assumption|omega) [go_sem]
 refine xnew fun b1 n_b1 h_b1 => ?_
 try simp only [Apart] at n_b1
 simp -dsimp -implicitDefEqProofs (disch := first|with_reducible assumption|omega) [go_sem]
 refine xnew fun b2 n_b2 h_b2 => ?_
 try simp only [Apart] at n_b2
 simp -dsimp -implicitDefEqProofs (disch := first|with_reducible assumption|omega) [go_sem]
 refine xanyl (.tk 0 (.tk 3 (.tkl 1 (.tkl 4 (.or true 2 (.or true 5 (.or true 6 (.or false 7 (.fin) (.nil)) (.nil)) (.nil)) (.nil)))))) (by kernel_rfl) (by kernel_rfl) _ (Drop.refl _ _) ?_
 simp -dsimp -implicitDefEqProofs (disch := first|with_reducible assumption|omega) [go_sem]
 refine Spec.apn (of_any s.gen ug.1 ug.2 fun h4 r4 le4 n4 ap nd => ?_)
 obtain ⟨p2, p1, _⟩ := ap
 refine xkp (Drop.forget le4) ?_
 obtain ⟨ra, rk, rc, rfl⟩ := n4.sl
 simp -dsimp -implicitDefEqProofs (disch := first|with_reducible assumption|omega) [go_sem]
 refine Spec.apn (of_any s.mint ui.1 ui.2 fun h5 r5 le5 n5 ap nd => ?_)
 obtain ⟨p2, p1, _⟩ := ap
 refine xkp (Drop.forget (le4.trans le5)) ?_
 obtain ⟨ta, tk, tc, rfl⟩ := n5.sl
 simp -dsimp -implicitDefEqProofs (disch := first|with_reducible assumption|omega) [go_sem]
 refine Spec.apn (add21_any _ _ (n4.up le5) n5 ⟨by omega, by omega⟩ fun h6 r6 le6 n6 ap nd => ?_)
 obtain ⟨p2, p1, _⟩ := ap
 refine xkp (Drop.forget ((le4.trans le5).trans le6)) ?_
 obtain ⟨ua, uk, uc, rfl⟩ := n6.sl
 simp -dsimp -implicitDefEqProofs (disch := first|with_reducible assumption|omega) [go_sem]
 exact fin_tail (fin_tail (fin_here (hk _ _ ((le4.trans le5).trans le6) n6)))
structure FewT (s : StD) : Prop where
 p : s.purses.length ≤ 20000
 m : s.members.length ≤ 20000
 o : s.pool.length ≤ 20000
 d : s.dues.length ≤ 20000
theorem total21_any {s : StD} (r1 r2 r3 r4 : Value) (hm : IsMon h s r1 r2 r3 r4) (few : FewT s) (hk : ∀ h' r, PH.le h h' → Nt h' r (sAll s) 100000 → K r L h') : Spec Tryz.prog 208 [monV s r1 r2 r3 r4] L h K := by
  have ut : 0 ≤ s.treas ∧ s.treas ≤ 18446744073709551615 := hm.ok.u _ (by simp)
  obtain ⟨f1, f2, f3, f4⟩ := few
  have ha := hm.a
  have hb := hm.b
  have hc := hm.c
  have hd := hm.d
  have l1 : (s.members.map MemD.bal).length = s.members.length := by simp
  have l3 : (s.pool.map DepD.amt).length = s.pool.length := by simp
  have l4 : (s.dues.map DueD.amt).length = s.dues.length := by simp
  obtain ⟨a1, c1, rfl, _⟩ := ha.open
  obtain ⟨a2, c2, rfl, _⟩ := hb.open
  obtain ⟨a3, c3, rfl, _⟩ := hc.open
  obtain ⟨a4, c4, rfl, _⟩ := hd.open
  refine x_enter Tryz.func208 rfl (rs := [_]) rfl rfl mixed (by kernel_rfl) rfl rfl ?_
  simp -dsimp -implicitDefEqProofs (disch := first|with_reducible assumption|omega) [go_sem]
  refine xnew fun b1 n_b1 h_b1 => ?_
  try simp only [Apart] at n_b1
  simp -dsimp -implicitDefEqProofs (disch := first|with_reducible assumption|omega) [go_sem]
  refine xnew fun b2 n_b2 h_b2 => ?_
  try simp only [Apart] at n_b2
  simp -dsimp -implicitDefEqProofs (disch := first|with_reducible assumption|omega) [go_sem]
  simp only [l1, l3, l4] at ha hc hd
  refine xany_cut (.tk 0 (.tk 3 (.tkl 1 (.tkl 4 (.or true 2 (.or true 5 (.or true 6 (.or true 7 (.or false 8 (.fin) (.nil)) (.nil)) (.or true 7 (.or true 6 (.or false 8 (.fin) (.nil)) (.nil)) (.nil))) (.or true 7 (.or true 5 (.or true 6 (.or false 8 (.fin) (.nil)) (.nil)) (.nil)) (.nil))) (.or true 7 (.or true 2 (.or true 5 (.or true 6 (.or false 8 (.fin) (.nil)) (.nil)) (.nil)) (.nil)) (.nil))))))) (by kernel_rfl) (by kernel_rfl) [(1, .pointer (some ⟨b1, 0, none⟩)), (2, .pointer (some ⟨b2, 0, none⟩))] [⟨b1, 181, [.int .u64 s.most, .int .u64 s.gen, .int .u64 s.mint, .int .u64 s.burn, .int .u64 s.treas, .slice a1 s.members.length c1, .slice a2 s.purses.length c2, .slice a3 s.pool.length c3, .slice a4 s.dues.length c4], 9⟩] (γ := Value × Nat × PH)
    (fun q => PH.le h q.2.2 ∧ Nt q.2.2 (.agg #[q.1]) (sStk s + sPur s) 40000 ∧ q.2.2 b1 = noC ∧ q.2.2 b2 = noC ∧ q.2.2 q.2.1 = noC ∧ b1 ≠ q.2.1 ∧ b2 ≠ q.2.1)
    (fun q => [(1, .pointer (some ⟨b1, 0, none⟩)), (2, .pointer (some ⟨b2, 0, none⟩)), (3, .pointer (some ⟨q.2.1, 0, none⟩))])
    (fun q => ⟨q.2.1, 136, [q.1], 1⟩ :: ⟨b2, 136, [.slice none 0 0], 1⟩ :: ⟨b1, 181, [.int .u64 s.most, .int .u64 s.gen, .int .u64 s.mint, .int .u64 s.burn, .int .u64 s.treas, .slice a1 s.members.length c1, .slice a2 s.purses.length c2, .slice a3 s.pool.length c3, .slice a4 s.dues.length c4], 9⟩ :: L) (fun q => q.2.2) (by simp [Ent, List.lookup]) (Drop.mem (by simp)) ?_ ?_
  · repeat' first
      | with_reducible refine xpl_or ?_ ?_
      | with_reducible refine xkp (Drop.mem (by simp)) ?_
      | with_reducible refine xkp ((Drop.forget le6').trans (Drop.mem (by simp))) ?_
      | with_reducible refine xkp ((Drop.forget le5').trans (Drop.mem (by simp))) ?_
      | with_reducible refine xkp ((Drop.forget le4).trans (Drop.mem (by simp))) ?_
      | (with_reducible refine xnew fun b3 n_b3 h_b3 => ?_
         simp only [Apart] at n_b3)
      | simp -dsimp -implicitDefEqProofs (disch := first|with_reducible assumption|omega) [go_sem]
      | (with_reducible show xCall Tryz.prog 73 [.slice a1 s.members.length c1] _ _ _
         refine Spec.ap (rsum_any _ ha (by omega) fun h4 r4 le4 n4 ap4 => ?_)
         obtain ⟨ra, rk, rc, rfl⟩ := n4.sl)
      | (with_reducible show xCall Tryz.prog 73 [.slice a2 s.purses.length c2] _ _ _
         refine Spec.ap (rsum_any _ (hb.up le4) (by omega) fun h5 r5 le5 n5 ap5 => ?_)
         have le5' := PH.le.trans le4 le5
         obtain ⟨ta, tk, tc, rfl⟩ := n5.sl)
      | (with_reducible show xCall Tryz.prog 207 _ _ _ _
         refine Spec.ap (add21_any _ _ (n4.up le5) n5 ⟨by omega, by omega⟩ fun h6 r6 le6 n6 ap6 => ?_)
         have le6' := PH.le.trans le5' le6
         simp only [Ap] at ap6
         obtain ⟨ua, uk, uc, rfl⟩ := n6.sl)
    all_goals
      refine ⟨_, b3, h6, ⟨le6', n6.more (by omega), ?_, ?_, ?_, n_b3.2.1, n_b3.1⟩, by simp [Ent, List.lookup], Drop.refl _ _⟩
      · simp only [ap6]
      · simp only [ap6]
      · simp only [ap6, h_b3]
  rintro ⟨sA, b3, h6⟩ ⟨le, n6', p1, p2, p3, n13, n23⟩
  simp only at le n6' p1 p2 p3 n13 n23 ⊢
  obtain ⟨ua, uk, uc, es⟩ := n6'.sl
  obtain rfl : sA = .slice ua uk uc := by simpa using es
  have n_b3 : b2 ≠ b3 ∧ b1 ≠ b3 := ⟨n23, n13⟩
  simp -dsimp -implicitDefEqProofs (disch := first|with_reducible assumption|omega) [go_sem]
  refine xanyl (.tk 1 (.tk 4 (.tkl 0 (.tkl 2 (.tkl 5 (.or true 3 (.or true 6 (.or true 7 (.or true 8 (.or false 9 (.fin) (.nil)) (.nil)) (.nil)) (.nil)) (.nil))))))) (by kernel_rfl) (by kernel_rfl) _ (Drop.refl _ _) ?_
  simp -dsimp -implicitDefEqProofs (disch := first|with_reducible assumption|omega) [go_sem]
  refine Spec.apn (rsum_any _ (hc.up le) (by omega) fun g4 r4 me4 n4 ap nd => ?_)
  obtain ⟨p3, p2, p1, _⟩ := ap
  refine xkp (Drop.forget me4) ?_
  obtain ⟨ra, rk, rc, rfl⟩ := n4.sl
  simp -dsimp -implicitDefEqProofs (disch := first|with_reducible assumption|omega) [go_sem]
  refine Spec.apn (rsum_any _ (hd.up (le.trans me4)) (by omega) fun g5 r5 me5 n5 ap nd => ?_)
  obtain ⟨p3, p2, p1, _⟩ := ap
  refine xkp (Drop.forget (me4.trans me5)) ?_
  obtain ⟨ta, tk, tc, rfl⟩ := n5.sl
  simp -dsimp -implicitDefEqProofs (disch := first|with_reducible assumption|omega) [go_sem]
  refine Spec.apn (add21_any _ _ (n4.up me5) n5 ⟨by omega, by omega⟩ fun g6 r6 me6 m6 ap nd => ?_)
  obtain ⟨p3, p2, p1, _⟩ := ap
  refine xkp (Drop.forget ((me4.trans me5).trans me6)) ?_
  obtain ⟨va, vk, vc, rfl⟩ := m6.sl
  simp -dsimp -implicitDefEqProofs (disch := first|with_reducible assumption|omega) [go_sem]
  have m6' : Nt g6 (.agg #[.slice va vk vc]) (sPool s + sDue s) 40000 := m6.more (by omega)
  refine Spec.apn (add21_any _ _ (n6'.up ((me4.trans me5).trans me6)) m6' ⟨by omega, by omega⟩ fun g7 r7 me7 m7 ap nd => ?_)
  obtain ⟨p3, p2, p1, _⟩ := ap
  have me := ((me4.trans me5).trans me6).trans me7
  refine xkp (Drop.forget me) ?_
  obtain ⟨wa, wk, wc, rfl⟩ := m7.sl
  simp -dsimp -implicitDefEqProofs (disch := first|with_reducible assumption|omega) [go_sem]
  refine xanyl (.tk 1 (.tkl 0 (.tkl 2 (.or true 3 (.or true 4 (.or false 5 (.fin) (.nil)) (.nil)) (.nil))))) (by kernel_rfl) (by kernel_rfl) _ (Drop.refl _ _) ?_
  simp -dsimp -implicitDefEqProofs (disch := first|with_reducible assumption|omega) [go_sem]
  refine Spec.apn (of_any s.treas ut.1 ut.2 fun g8 r8 me8 n8 ap nd => ?_)
  obtain ⟨p3, p2, p1, _⟩ := ap
  refine xkp (Drop.forget me8) ?_
  obtain ⟨xa, xk, xc, rfl⟩ := n8.sl
  simp -dsimp -implicitDefEqProofs (disch := first|with_reducible assumption|omega) [go_sem]
  refine Spec.apn (add21_any _ _ (m7.up me8) n8 ⟨by omega, by omega⟩ fun g9 r9 me9 n9 ap nd => ?_)
  obtain ⟨p3, p2, p1, _⟩ := ap
  refine xkp (Drop.forget (me8.trans me9)) ?_
  obtain ⟨ya, yk, yc, rfl⟩ := n9.sl
  simp -dsimp -implicitDefEqProofs (disch := first|with_reducible assumption|omega) [go_sem]
  refine fin_tail (fin_tail (fin_tail (fin_here (hk _ _ (le.trans (me.trans (me8.trans me9))) ?_))))
  rw [show sAll s = sStk s + sPur s + (sPool s + sDue s) + s.treas by simp only [sAll]; omega]
  exact n9.more (by omega)
theorem holds21_any {s : StD} (r1 r2 r3 r4 : Value) (hm : IsMon h s r1 r2 r3 r4) (few : FewT s) (hk : ∀ h', PH.le h h' → K (.bool (holdsB s)) L h') : Spec Tryz.prog 113 [monV s r1 r2 r3 r4] L h K := by
 have um : 0 ≤ s.most ∧ s.most ≤ 18446744073709551615 := hm.ok.u _ (by simp)
 have ub : 0 ≤ s.burn ∧ s.burn ≤ 18446744073709551615 := hm.ok.u _ (by simp)
 have hm0 := hm
 obtain ⟨a1, c1, rfl, _⟩ := hm.a.open
 obtain ⟨a2, c2, rfl, _⟩ := hm.b.open
 obtain ⟨a3, c3, rfl, _⟩ := hm.c.open
 obtain ⟨a4, c4, rfl, _⟩ := hm.d.open
 simp only [List.length_map] at hm0
 have up : ∀ h', PH.le h h' → IsMon h' s (.slice a1 s.members.length c1) (.slice a2 s.purses.length c2) (.slice a3 s.pool.length c3) (.slice a4 s.dues.length c4) := fun h' le => ⟨hm0.ok, hm0.a.up le, hm0.b.up le, hm0.c.up le, hm0.d.up le⟩
 refine x_enter Tryz.func113 rfl (rs := [_]) rfl rfl mixed (by kernel_rfl) rfl rfl ?_
 simp -dsimp -implicitDefEqProofs (disch := first|with_reducible assumption|omega) [go_sem]
 refine xnew fun b1 n_b1 h_b1 => ?_
 try simp only [Apart] at n_b1
 simp -dsimp -implicitDefEqProofs (disch := first|with_reducible assumption|omega) [go_sem]
 refine xanyl (.tk 2 (.tkl 0 (.tkl 3 (.or true 1 (.or true 4 (.or true 5 (.tk 6 (.tk 7 (.tk 8 (.tkl 9 (.tk 10 (.tk 11 (.tk 12 (.tk 15 (.tkl 13 (.tkl 16 (.tkl 19 (.or true 14 (.or true 17 (.or true 18 (.or true 20 (.or true 21 (.tk 22 (.tk 23 (.tk 24 (.fin)))) (.nil)) (.nil)) (.nil)) (.nil)) (.nil))))))))))))) (.nil)) (.nil)) (.nil))))) (by kernel_rfl) (by kernel_rfl) _ (Drop.refl _ _) ?_
 simp -dsimp -implicitDefEqProofs (disch := first|with_reducible assumption|omega) [go_sem]
 refine Spec.apn (issued_any (s := s) _ _ _ _ hm0 fun h4 r4 le4 n4 ap nd => ?_)
 obtain ⟨p1, _⟩ := ap
 refine xkp (Drop.forget le4) ?_
 obtain ⟨ra, rk, rc, rfl⟩ := n4.sl
 simp -dsimp -implicitDefEqProofs (disch := first|with_reducible assumption|omega) [go_sem]
 refine Spec.apn (of_any s.most um.1 um.2 fun h5 r5 le5 n5 ap nd => ?_)
 obtain ⟨p1, _⟩ := ap
 refine xkp (Drop.forget (le4.trans le5)) ?_
 obtain ⟨ta, tk, tc, rfl⟩ := n5.sl
 simp -dsimp -implicitDefEqProofs (disch := first|with_reducible assumption|omega) [go_sem]
 refine cmp_any _ _ (n4.up le5) n5 ?_
 refine xkp (Drop.forget (le4.trans le5)) ?_
 by_cases q1 : s.gen + s.mint ≤ s.most
 ·have e1 : cmp3 (s.gen + s.mint) s.most ≤ 0 := by unfold cmp3; split <;> (try split) <;> omega
  simp -dsimp -implicitDefEqProofs (disch := first|with_reducible assumption|omega) [go_sem]
  by_cases q2 : s.most ≤ 4611686018427387904
  ·simp -dsimp -implicitDefEqProofs (disch := first|with_reducible assumption|omega) [go_sem]
   refine Spec.apn (total21_any (s := s) _ _ _ _ (up _ (le4.trans le5)) few fun g4 r4 me4 m4 ap nd => ?_)
   obtain ⟨p1, _⟩ := ap
   refine xkp (Drop.forget ((le4.trans le5).trans me4)) ?_
   obtain ⟨ua, uk, uc, rfl⟩ := m4.sl
   simp -dsimp -implicitDefEqProofs (disch := first|with_reducible assumption|omega) [go_sem]
   refine Spec.apn (of_any s.burn ub.1 ub.2 fun g5 r5 me5 m5 ap nd => ?_)
   obtain ⟨p1, _⟩ := ap
   refine xkp (Drop.forget ((le4.trans le5).trans (me4.trans me5))) ?_
   obtain ⟨va, vk, vc, rfl⟩ := m5.sl
   simp -dsimp -implicitDefEqProofs (disch := first|with_reducible assumption|omega) [go_sem]
   refine Spec.apn (add21_any _ _ (m4.up me5) m5 ⟨by omega, by omega⟩ fun g6 r6 me6 m6 ap nd => ?_)
   obtain ⟨p1, _⟩ := ap
   refine xkp (Drop.forget ((le4.trans le5).trans ((me4.trans me5).trans me6))) ?_
   obtain ⟨wa, wk, wc, rfl⟩ := m6.sl
   simp -dsimp -implicitDefEqProofs (disch := first|with_reducible assumption|omega) [go_sem]
   refine Spec.apn (issued_any (s := s) _ _ _ _ (up _ ((le4.trans le5).trans ((me4.trans me5).trans me6))) fun g7 r7 me7 m7 ap nd => ?_)
   obtain ⟨p1, _⟩ := ap
   have le := (le4.trans le5).trans (((me4.trans me5).trans me6).trans me7)
   refine xkp (Drop.forget le) ?_
   obtain ⟨xa, xk, xc, rfl⟩ := m7.sl
   simp -dsimp -implicitDefEqProofs (disch := first|with_reducible assumption|omega) [go_sem]
   refine cmp_any _ _ (m6.up me7) m7 ?_
   refine xkp (Drop.forget le) ?_
   have e3 : decide (cmp3 (sAll s + s.burn) (s.gen + s.mint) = 0) = holdsB s := by
    simp only [holdsB, decide_eq_true q1, decide_eq_true q2, Bool.true_and]
    apply decide_eq_decide.2
    unfold cmp3
    split <;> (try split) <;> omega
   have hk' := hk _ le
   rw [← e3] at hk'
   simp -dsimp -implicitDefEqProofs (disch := first|with_reducible assumption|omega) [go_sem]
   exact fin_tail (fin_here hk')
  ·rw [show holdsB s = false by simp [holdsB, q2]] at hk
   repeat' first
    | with_reducible refine xkp (Drop.forget (le4.trans le5)) ?_
    | simp -dsimp -implicitDefEqProofs (disch := first|with_reducible assumption|omega) [go_sem]
   exact fin_tail (fin_here (hk _ (le4.trans le5)))
 ·have e1 : ¬ cmp3 (s.gen + s.mint) s.most ≤ 0 := by unfold cmp3; split <;> (try split) <;> omega
  rw [show holdsB s = false by simp [holdsB, q1]] at hk
  repeat' first
   | with_reducible refine xkp (Drop.forget (le4.trans le5)) ?_
   | simp -dsimp -implicitDefEqProofs (disch := first|with_reducible assumption|omega) [go_sem]
  exact fin_tail (fin_here (hk _ (le4.trans le5)))
theorem pubO_ints {α : Type} {f : α → Int} {l : List α} {h : PH} {o : Option (Nat × Nat)} (ho : okO o l.length) (hn : l.length ≤ 100000) (hm : ∀ x ∈ l, 0 ≤ f x ∧ f x ≤ 18446744073709551615) : Ints (pubO h o (colU f l l.length)) .u64 (ovs o l.length) (l.map f) :=
 colU_ints (pub_sl ho (colU_len (Nat.le_refl _)) (by omega)) hm
theorem money_any {s : StD} (v : SV) (hs : IsSt h v s) (few : FewS s) (hk : ∀ h' r1 r2 r3 r4, PH.le h h' → IsMon h' s r1 r2 r3 r4 → K (monV s r1 r2 r3 r4) L h') : Spec Tryz.prog 114 [stV s v] L h K := by
 obtain ⟨pa, pc, ma, mc, ea, ec, xa, xc, oa, oc, da, dc, ta, tc, ka, kc, ra, rc, rfl⟩ := hs.slices
 have hp : Ints h .u64 (.slice pa s.purses.length pc) s.purses := hs.p
 have hm : Recs memC 6 h (.slice ma s.members.length mc) s.members := hs.m
 have ho0 : Recs depC 4 h (.slice oa s.pool.length oc) s.pool := hs.o
 have hd0 : Recs dueC 3 h (.slice da s.dues.length dc) s.dues := hs.d
 have fm := few.m
 have fo := few.o
 have fd := few.d
 refine x_enter Tryz.func114 rfl (rs := [_]) rfl rfl mixed (by kernel_rfl) rfl rfl ?_
 simp -dsimp -implicitDefEqProofs (disch := first|with_reducible assumption|omega) [go_sem]
 refine xnew fun b1 n_b1 h_b1 => ?_
 try simp only [Apart] at n_b1
 simp -dsimp -implicitDefEqProofs (disch := first|with_reducible assumption|omega) [go_sem]
 refine xnew fun b2 n_b2 h_b2 => ?_
 try simp only [Apart] at n_b2
 simp -dsimp -implicitDefEqProofs (disch := first|with_reducible assumption|omega) [go_sem]
 refine xnew fun b3 n_b3 h_b3 => ?_
 try simp only [Apart] at n_b3
 simp -dsimp -implicitDefEqProofs (disch := first|with_reducible assumption|omega) [go_sem]
 refine xloop (γ := Nat × Option (Nat × Nat)) (0, none) (fun q => q.1 ≤ s.members.length ∧ okO q.2 q.1 ∧ apO q.2 (⟨b3, 181, [.int .u64 s.most, .int .u64 s.gen, .int .u64 s.mint, .int .u64 s.burn, .int .u64 s.treas, (ovs q.2 q.1), .slice pa s.purses.length pc, .slice none 0 0, .slice none 0 0], 9⟩ :: ⟨b2, 181, [.int .u64 0, .int .u64 0, .int .u64 0, .int .u64 0, .int .u64 0, .slice none 0 0, .slice none 0 0, .slice none 0 0, .slice none 0 0], 9⟩ :: ⟨b1, 54, stC s ⟨.slice pa s.purses.length pc, .slice ma s.members.length mc, .slice ea s.entry.length ec, .slice xa s.exit.length xc, .slice oa s.pool.length oc, .slice da s.dues.length dc, .slice ta s.motions.length tc, .slice ka s.marks.length kc, .slice ra s.ring.length rc⟩, 41⟩ :: L) h)
  (fun q => [(4, .int .i64 q.1), (1, .pointer (some ⟨b1, 0, none⟩)), (2, .pointer (some ⟨b2, 0, none⟩)), (3, .pointer (some ⟨b3, 0, none⟩))])
  (fun q => oent 22 1 q.2 (colU MemD.bal s.members q.1) (⟨b3, 181, [.int .u64 s.most, .int .u64 s.gen, .int .u64 s.mint, .int .u64 s.burn, .int .u64 s.treas, (ovs q.2 q.1), .slice pa s.purses.length pc, .slice none 0 0, .slice none 0 0], 9⟩ :: ⟨b2, 181, [.int .u64 0, .int .u64 0, .int .u64 0, .int .u64 0, .int .u64 0, .slice none 0 0, .slice none 0 0, .slice none 0 0, .slice none 0 0], 9⟩ :: ⟨b1, 54, stC s ⟨.slice pa s.purses.length pc, .slice ma s.members.length mc, .slice ea s.entry.length ec, .slice xa s.exit.length xc, .slice oa s.pool.length oc, .slice da s.dues.length dc, .slice ta s.motions.length tc, .slice ka s.marks.length kc, .slice ra s.ring.length rc⟩, 41⟩ :: L)) (fun _ => h) (fun q => s.members.length - q.1) ?_ ?_ ?_ ?_
 ·exact ⟨Nat.zero_le _, rfl, trivial⟩
 ·simp [Ent, List.lookup, ovs]
 ·exact Drop.refl _ _
 rintro ⟨k, o⟩ ⟨k1, k2, k3⟩
 simp only at k1 k2 k3 ⊢
 have m3 : apB o b3 := k3.head
 have m2 : apB o b2 := (apO_tail k3).head
 have m1 : apB o b1 := (apO_tail (apO_tail k3)).head
 by_cases c1 : k < s.members.length
 ·simp -dsimp -implicitDefEqProofs (disch := first|with_reducible assumption|omega) [go_sem, xFind_oent m3, xFind_oent m2, xFind_oent m1]
  refine xanyl (.tk 0 (.tk 2 (.tk 4 (.tkl 1 (.tkl 3 (.tk 5 (.tk 6 (.tk 7 (.tkl 8 (.or true 9 (.or true 10 (.tk 11 (.or false 12 (.fin) (.nil))) (.nil)) (.nil))))))))))) (by kernel_rfl) (by kernel_rfl) _ (Drop.oent _ _ _ _ _ _) ?_
  simp -dsimp -implicitDefEqProofs (disch := first|with_reducible assumption|omega) [go_sem, xFind_oent m3, xFind_oent m2, xFind_oent m1, ↓idxR zeroM (by decide) hm]
  refine (Recs.fld zeroM hm (j := k) (o := 0) c1 (u := .int .u64 (gr zeroM s.members k).bal) rfl _ _ _).mpr ?_
  simp -dsimp -implicitDefEqProofs (disch := first|with_reducible assumption|omega) [go_sem, xFind_oent m3, xFind_oent m2, xFind_oent m1]
  refine xnew fun b4 n_b4 h_b4 => ?_
  try simp only [Apart] at n_b4
  have n4 := apart_oent n_b4
  simp only [Apart] at n4
  obtain ⟨n43, n42, n41, _⟩ := n4
  refine xkp (Drop.trans (Drop.tail _ _ _) (Drop.oent _ _ _ _ _ _)) ?_
  simp -dsimp -implicitDefEqProofs (disch := first|with_reducible assumption|omega) [go_sem]
  refine xappend (t := 25) (e := 22) (sz := 1) (bytes := 8) (by kernel_rfl) tI_22 rfl rfl rfl rfl (by decide) [_] _ o k (colU MemD.bal s.members k) k2 (colU_len k1) (Src.own (b := b4) List.mem_cons_self) (m := 1) (news := [.int .u64 (gr zeroM s.members k).bal]) rfl (by intro u hu; simp only [List.mem_singleton] at hu; subst hu; rfl) (by simp [maxLen]; omega) (by omega) ?_
  intro o' j1 j2 j3
  have j4 := apO_tail j2
  have m3' : apB o' b3 := j4.head
  simp -dsimp -implicitDefEqProofs (disch := first|with_reducible assumption|omega) [go_sem]
  refine xkp (Drop.trans (Drop.tail _ _ _) (Drop.oent _ _ _ _ _ _)) ?_
  simp -dsimp -implicitDefEqProofs (disch := first|with_reducible assumption|omega) [go_sem, xSet_oent m3']
  refine ⟨k + 1, o', ⟨by omega, j1, ?_⟩, by omega, by simp [Ent, List.lookup], ?_⟩
  ·cases o' with
   | none => trivial
   | some p => exact ⟨⟨j4.1.1, j4.1.2⟩, j4.2⟩
  ·rw [colU_succ zeroM c1]
   exact Drop.tail _ _ _
 ·have hkl : k = s.members.length := by omega
  subst hkl
  obtain ⟨h1, eh1⟩ : ∃ h1, h1 = pubO h o (colU MemD.bal s.members s.members.length) := ⟨_, rfl⟩
  have g1 : Ints h1 .u64 (ovs o s.members.length) (s.members.map MemD.bal) := by rw [eh1]; exact pubO_ints k2 fm fun x hx => (hs.mo x hx).u _ (by simp)
  have le1 : PH.le h h1 := by rw [eh1]; exact pub_le_o k3 _
  have w3 : h1 b3 = noC := by rw [eh1]; exact pubO_noC m3 h_b3
  have w2 : h1 b2 = noC := by rw [eh1]; exact pubO_noC m2 h_b2
  have w1 : h1 b1 = noC := by rw [eh1]; exact pubO_noC m1 h_b1
  have ho : Recs depC 4 h1 (.slice oa s.pool.length oc) s.pool := ho0.up le1
  obtain ⟨ta1, tc1, er1, _⟩ := g1.open
  rw [List.length_map] at er1
  simp -dsimp -implicitDefEqProofs (disch := first|with_reducible assumption|omega) [go_sem, xFind_oent m3, xFind_oent m2, xFind_oent m1]
  refine xloop (γ := Nat × Option (Nat × Nat)) (0, none) (fun q => q.1 ≤ s.pool.length ∧ okO q.2 q.1 ∧ apO q.2 (⟨b3, 181, [.int .u64 s.most, .int .u64 s.gen, .int .u64 s.mint, .int .u64 s.burn, .int .u64 s.treas, (.slice ta1 s.members.length tc1), .slice pa s.purses.length pc, (ovs q.2 q.1), .slice none 0 0], 9⟩ :: ⟨b2, 181, [.int .u64 0, .int .u64 0, .int .u64 0, .int .u64 0, .int .u64 0, .slice none 0 0, .slice none 0 0, .slice none 0 0, .slice none 0 0], 9⟩ :: ⟨b1, 54, stC s ⟨.slice pa s.purses.length pc, .slice ma s.members.length mc, .slice ea s.entry.length ec, .slice xa s.exit.length xc, .slice oa s.pool.length oc, .slice da s.dues.length dc, .slice ta s.motions.length tc, .slice ka s.marks.length kc, .slice ra s.ring.length rc⟩, 41⟩ :: L) h1)
   (fun q => [(5, .int .i64 q.1), (1, .pointer (some ⟨b1, 0, none⟩)), (2, .pointer (some ⟨b2, 0, none⟩)), (3, .pointer (some ⟨b3, 0, none⟩))])
   (fun q => oent 22 1 q.2 (colU DepD.amt s.pool q.1) (⟨b3, 181, [.int .u64 s.most, .int .u64 s.gen, .int .u64 s.mint, .int .u64 s.burn, .int .u64 s.treas, (.slice ta1 s.members.length tc1), .slice pa s.purses.length pc, (ovs q.2 q.1), .slice none 0 0], 9⟩ :: ⟨b2, 181, [.int .u64 0, .int .u64 0, .int .u64 0, .int .u64 0, .int .u64 0, .slice none 0 0, .slice none 0 0, .slice none 0 0, .slice none 0 0], 9⟩ :: ⟨b1, 54, stC s ⟨.slice pa s.purses.length pc, .slice ma s.members.length mc, .slice ea s.entry.length ec, .slice xa s.exit.length xc, .slice oa s.pool.length oc, .slice da s.dues.length dc, .slice ta s.motions.length tc, .slice ka s.marks.length kc, .slice ra s.ring.length rc⟩, 41⟩ :: L)) (fun _ => h1) (fun q => s.pool.length - q.1) ?_ ?_ ?_ ?_
  ·exact ⟨Nat.zero_le _, rfl, trivial⟩
  ·simp [Ent, List.lookup, ovs]
  ·rw [er1, eh1]
   exact pub_drop_o _ _ _ _ (by decide)
  rintro ⟨k, o⟩ ⟨k1, k2, k3⟩
  simp only at k1 k2 k3 ⊢
  have m3 : apB o b3 := k3.head
  have m2 : apB o b2 := (apO_tail k3).head
  have m1 : apB o b1 := (apO_tail (apO_tail k3)).head
  by_cases c1 : k < s.pool.length
  ·simp -dsimp -implicitDefEqProofs (disch := first|with_reducible assumption|omega) [go_sem, xFind_oent m3, xFind_oent m2, xFind_oent m1]
   refine xanyl (.tk 0 (.tk 2 (.tk 4 (.tkl 1 (.tkl 3 (.tk 5 (.tk 6 (.tkl 7 (.or true 8 (.or true 9 (.tk 10 (.or false 11 (.fin) (.nil))) (.nil)) (.nil)))))))))) (by kernel_rfl) (by kernel_rfl) _ (Drop.oent _ _ _ _ _ _) ?_
   simp -dsimp -implicitDefEqProofs (disch := first|with_reducible assumption|omega) [go_sem, xFind_oent m3, xFind_oent m2, xFind_oent m1, ↓idxR zeroDep (by decide) ho]
   refine (Recs.fld zeroDep ho (j := k) (o := 2) c1 (u := .int .u64 (gr zeroDep s.pool k).amt) rfl _ _ _).mpr ?_
   simp -dsimp -implicitDefEqProofs (disch := first|with_reducible assumption|omega) [go_sem, xFind_oent m3, xFind_oent m2, xFind_oent m1]
   refine xnew fun b4 n_b4 h_b4 => ?_
   try simp only [Apart] at n_b4
   have n4 := apart_oent n_b4
   simp only [Apart] at n4
   obtain ⟨n43, n42, n41, _⟩ := n4
   refine xkp (Drop.trans (Drop.tail _ _ _) (Drop.oent _ _ _ _ _ _)) ?_
   simp -dsimp -implicitDefEqProofs (disch := first|with_reducible assumption|omega) [go_sem]
   refine xappend (t := 25) (e := 22) (sz := 1) (bytes := 8) (by kernel_rfl) tI_22 rfl rfl rfl rfl (by decide) [_] _ o k (colU DepD.amt s.pool k) k2 (colU_len k1) (Src.own (b := b4) List.mem_cons_self) (m := 1) (news := [.int .u64 (gr zeroDep s.pool k).amt]) rfl (by intro u hu; simp only [List.mem_singleton] at hu; subst hu; rfl) (by simp [maxLen]; omega) (by omega) ?_
   intro o' j1 j2 j3
   have j4 := apO_tail j2
   have m3' : apB o' b3 := j4.head
   simp -dsimp -implicitDefEqProofs (disch := first|with_reducible assumption|omega) [go_sem]
   refine xkp (Drop.trans (Drop.tail _ _ _) (Drop.oent _ _ _ _ _ _)) ?_
   simp -dsimp -implicitDefEqProofs (disch := first|with_reducible assumption|omega) [go_sem, xSet_oent m3']
   refine ⟨k + 1, o', ⟨by omega, j1, ?_⟩, by omega, by simp [Ent, List.lookup], ?_⟩
   ·cases o' with
    | none => trivial
    | some p => exact ⟨⟨j4.1.1, j4.1.2⟩, j4.2⟩
   ·rw [colU_succ zeroDep c1]
    exact Drop.tail _ _ _
  ·have hkl : k = s.pool.length := by omega
   subst hkl
   obtain ⟨h3, eh3⟩ : ∃ h3, h3 = pubO h1 o (colU DepD.amt s.pool s.pool.length) := ⟨_, rfl⟩
   have g3 : Ints h3 .u64 (ovs o s.pool.length) (s.pool.map DepD.amt) := by rw [eh3]; exact pubO_ints k2 fo fun x hx => (hs.oo x hx).a
   have le3 : PH.le h1 h3 := by rw [eh3]; exact pub_le_o k3 _
   have y3 : h3 b3 = noC := by rw [eh3]; exact pubO_noC m3 w3
   have y2 : h3 b2 = noC := by rw [eh3]; exact pubO_noC m2 w2
   have y1 : h3 b1 = noC := by rw [eh3]; exact pubO_noC m1 w1
   have hd : Recs dueC 3 h3 (.slice da s.dues.length dc) s.dues := hd0.up (le1.trans le3)
   obtain ⟨ta3, tc3, er3, _⟩ := g3.open
   rw [List.length_map] at er3
   simp -dsimp -implicitDefEqProofs (disch := first|with_reducible assumption|omega) [go_sem, xFind_oent m3, xFind_oent m2, xFind_oent m1]
   refine xloop (γ := Nat × Option (Nat × Nat)) (0, none) (fun q => q.1 ≤ s.dues.length ∧ okO q.2 q.1 ∧ apO q.2 (⟨b3, 181, [.int .u64 s.most, .int .u64 s.gen, .int .u64 s.mint, .int .u64 s.burn, .int .u64 s.treas, (.slice ta1 s.members.length tc1), .slice pa s.purses.length pc, (.slice ta3 s.pool.length tc3), (ovs q.2 q.1)], 9⟩ :: ⟨b2, 181, [.int .u64 0, .int .u64 0, .int .u64 0, .int .u64 0, .int .u64 0, .slice none 0 0, .slice none 0 0, .slice none 0 0, .slice none 0 0], 9⟩ :: ⟨b1, 54, stC s ⟨.slice pa s.purses.length pc, .slice ma s.members.length mc, .slice ea s.entry.length ec, .slice xa s.exit.length xc, .slice oa s.pool.length oc, .slice da s.dues.length dc, .slice ta s.motions.length tc, .slice ka s.marks.length kc, .slice ra s.ring.length rc⟩, 41⟩ :: L) h3)
    (fun q => [(6, .int .i64 q.1), (1, .pointer (some ⟨b1, 0, none⟩)), (2, .pointer (some ⟨b2, 0, none⟩)), (3, .pointer (some ⟨b3, 0, none⟩))])
    (fun q => oent 22 1 q.2 (colU DueD.amt s.dues q.1) (⟨b3, 181, [.int .u64 s.most, .int .u64 s.gen, .int .u64 s.mint, .int .u64 s.burn, .int .u64 s.treas, (.slice ta1 s.members.length tc1), .slice pa s.purses.length pc, (.slice ta3 s.pool.length tc3), (ovs q.2 q.1)], 9⟩ :: ⟨b2, 181, [.int .u64 0, .int .u64 0, .int .u64 0, .int .u64 0, .int .u64 0, .slice none 0 0, .slice none 0 0, .slice none 0 0, .slice none 0 0], 9⟩ :: ⟨b1, 54, stC s ⟨.slice pa s.purses.length pc, .slice ma s.members.length mc, .slice ea s.entry.length ec, .slice xa s.exit.length xc, .slice oa s.pool.length oc, .slice da s.dues.length dc, .slice ta s.motions.length tc, .slice ka s.marks.length kc, .slice ra s.ring.length rc⟩, 41⟩ :: L)) (fun _ => h3) (fun q => s.dues.length - q.1) ?_ ?_ ?_ ?_
   ·exact ⟨Nat.zero_le _, rfl, trivial⟩
   ·simp [Ent, List.lookup, ovs]
   ·rw [er3, eh3]
    exact pub_drop_o _ _ _ _ (by decide)
   rintro ⟨k, o⟩ ⟨k1, k2, k3⟩
   simp only at k1 k2 k3 ⊢
   have m3 : apB o b3 := k3.head
   have m2 : apB o b2 := (apO_tail k3).head
   have m1 : apB o b1 := (apO_tail (apO_tail k3)).head
   by_cases c1 : k < s.dues.length
   ·simp -dsimp -implicitDefEqProofs (disch := first|with_reducible assumption|omega) [go_sem, xFind_oent m3, xFind_oent m2, xFind_oent m1]
    refine xanyl (.tk 0 (.tk 2 (.tk 4 (.tkl 1 (.tkl 3 (.tk 5 (.tk 6 (.tkl 7 (.or true 8 (.or true 9 (.tk 10 (.or false 11 (.fin) (.nil))) (.nil)) (.nil)))))))))) (by kernel_rfl) (by kernel_rfl) _ (Drop.oent _ _ _ _ _ _) ?_
    simp -dsimp -implicitDefEqProofs (disch := first|with_reducible assumption|omega) [go_sem, xFind_oent m3, xFind_oent m2, xFind_oent m1, ↓idxR zeroDue (by decide) hd]
    refine (Recs.fld zeroDue hd (j := k) (o := 2) c1 (u := .int .u64 (gr zeroDue s.dues k).amt) rfl _ _ _).mpr ?_
    simp -dsimp -implicitDefEqProofs (disch := first|with_reducible assumption|omega) [go_sem, xFind_oent m3, xFind_oent m2, xFind_oent m1]
    refine xnew fun b4 n_b4 h_b4 => ?_
    try simp only [Apart] at n_b4
    have n4 := apart_oent n_b4
    simp only [Apart] at n4
    obtain ⟨n43, n42, n41, _⟩ := n4
    refine xkp (Drop.trans (Drop.tail _ _ _) (Drop.oent _ _ _ _ _ _)) ?_
    simp -dsimp -implicitDefEqProofs (disch := first|with_reducible assumption|omega) [go_sem]
    refine xappend (t := 25) (e := 22) (sz := 1) (bytes := 8) (by kernel_rfl) tI_22 rfl rfl rfl rfl (by decide) [_] _ o k (colU DueD.amt s.dues k) k2 (colU_len k1) (Src.own (b := b4) List.mem_cons_self) (m := 1) (news := [.int .u64 (gr zeroDue s.dues k).amt]) rfl (by intro u hu; simp only [List.mem_singleton] at hu; subst hu; rfl) (by simp [maxLen]; omega) (by omega) ?_
    intro o' j1 j2 j3
    have j4 := apO_tail j2
    have m3' : apB o' b3 := j4.head
    simp -dsimp -implicitDefEqProofs (disch := first|with_reducible assumption|omega) [go_sem]
    refine xkp (Drop.trans (Drop.tail _ _ _) (Drop.oent _ _ _ _ _ _)) ?_
    simp -dsimp -implicitDefEqProofs (disch := first|with_reducible assumption|omega) [go_sem, xSet_oent m3']
    refine ⟨k + 1, o', ⟨by omega, j1, ?_⟩, by omega, by simp [Ent, List.lookup], ?_⟩
    ·cases o' with
     | none => trivial
     | some p => exact ⟨⟨j4.1.1, j4.1.2⟩, j4.2⟩
    ·rw [colU_succ zeroDue c1]
     exact Drop.tail _ _ _
   ·have hkl : k = s.dues.length := by omega
    subst hkl
    simp -dsimp -implicitDefEqProofs (disch := first|with_reducible assumption|omega) [go_sem, xFind_oent m3, xFind_oent m2, xFind_oent m1, xSet_oent m2]
    rw [er1] at g1
    rw [er3] at g3
    exact fin_pub (n := s.dues.length) k2 (colU_len (Nat.le_refl _)) (by omega) k3 fun h' le sl => fin_tail (fin_tail (fin_tail (fin_here (hk h' _ _ _ _ ((le1.trans le3).trans le) ⟨hs.ok, g1.up (le3.trans le), hp.up ((le1.trans le3).trans le), g3.up le, colU_ints sl fun x hx => (hs.dd x hx).a⟩))))
end Go.X

/- Lemmas and contracts for a statement about the given program. Conditions: as each says. -/
import Derived.Test.YtmkekhodcacfbaaGreatQ11
set_option linter.unusedVariables false
set_option linter.unusedSimpArgs false
set_option maxHeartbeats 12800000
set_option maxRecDepth 20000
namespace Go.X
open Go.RowKit Go.Proofs Go.Bl
variable {L : Own} {h : PH} {K : PK}
@[go_sem ↓] theorem eqParF (p : ParD) (x y : Operand) (K : Value → Prop) (t : Tok K) : xBin Tryz.prog .eql 48 x y (parV p) (parV p) K t = K (.bool true) := xBin_eqflat _ (by kernel_rfl) (by kernel_rfl) x y K t
@[go_sem ↓] theorem neParF (p : ParD) (x y : Operand) (K : Value → Prop) (t : Tok K) : xBin Tryz.prog .neq 48 x y (parV p) (parV p) K t = K (.bool false) := xBin_neflat _ (by kernel_rfl) (by kernel_rfl) x y K t
theorem plain24_any {s : StD} {v : SV} (hs : IsSt h v s) (hn1 : s.members.length ≤ 100000) (hn2 : s.pool.length ≤ 100000) (hn3 : s.dues.length ≤ 100000) (hn4 : s.motions.length ≤ 100000) (hk : ∀ h' u, PH.le h h' → IsSt h' u s → K (stV s u) L h') : Spec Tryz.prog 13 [stV s v] L h K := by
 obtain ⟨vp, vm, ve, vx, vo, vd, vt, vk, vr⟩ := v
 obtain ⟨ok1, p1, m1, mo1, e1, x1, o1, oo1, d1, dd1, ⟨q1, t1, t1e, t1m⟩, k1, ⟨r1, r1s, r1e⟩⟩ := hs
 simp only at p1 m1 e1 x1 o1 d1 t1 k1 r1s
 have cp1 := p1.open
 obtain ⟨ap1, zp1, rfl, _⟩ := cp1
 have cm1 := m1.open
 obtain ⟨am1, zm1, rfl, _⟩ := cm1
 have ce1 := e1.open
 obtain ⟨ae1, ze1, rfl, _⟩ := ce1
 have cx1 := x1.open
 obtain ⟨ax1, zx1, rfl, _⟩ := cx1
 have co1 := o1.open
 obtain ⟨ao1, zo1, rfl, _⟩ := co1
 have cd1 := d1.open
 obtain ⟨ad1, zd1, rfl, _⟩ := cd1
 have ct1 := t1.open
 obtain ⟨at1, zt1, rfl, _⟩ := ct1
 have ck1 := k1.open
 obtain ⟨ak1, zk1, rfl, _⟩ := ck1
 obtain ⟨ar1, zr1, rfl, _, _, _, _, r1t⟩ := r1s.open
 have hql : q1.length ≤ 100000 := by have := congrArg List.length t1e; simp at this; omega
 refine x_enter Tryz.func13 rfl (rs := [_]) rfl rfl mixed (by kernel_rfl) rfl rfl ?_
 simp -dsimp -implicitDefEqProofs (disch := first|with_reducible assumption|omega) [go_sem]
 refine xnew fun b1 n_b1 h_b1 => ?_
 try simp only [Apart] at n_b1
 simp -dsimp -implicitDefEqProofs (disch := first|with_reducible assumption|omega) [go_sem]
 refine xnew fun b2 n_b2 h_b2 => ?_
 try simp only [Apart] at n_b2
 simp -dsimp -implicitDefEqProofs (disch := first|with_reducible assumption|omega) [go_sem]
 refine xanyl (.tk 0 (.tk 2 (.tk 4 (.tk 6 (.tk 8 (.tk 10 (.tk 12 (.tk 14 (.tk 16 (.tk 18 (.tk 20 (.tk 23 (.tk 25 (.tk 27 (.tk 30 (.tk 33 (.tk 36 (.tk 38 (.tkl 1 (.tkl 3 (.tkl 5 (.tkl 7 (.tkl 9 (.tkl 11 (.tkl 13 (.tkl 15 (.tkl 17 (.tkl 19 (.tkl 21 (.tkl 24 (.tkl 26 (.tkl 28 (.tkl 31 (.tkl 34 (.tkl 37 (.tkl 39 (.or true 22 (.or true 29 (.or true 32 (.or true 35 (.tk 40 (.or false 41 (.fin) (.nil))) (.nil)) (.nil)) (.nil)) (.nil)))))))))))))))))))))))))))))))))))))) (by kernel_rfl) (by kernel_rfl) _ (Drop.refl _ _) ?_
 simp -dsimp -implicitDefEqProofs (disch := first|with_reducible assumption|omega) [go_sem]
 refine Spec.apn (mplain_any _ m1 hn1 fun h2 r2 le2 hr2 ap nd => ?_)
 simp only [Ap] at ap
 obtain ⟨u1, u2, _⟩ := ap
 have hr2' := hr2
 obtain ⟨am2, zm2, rfl, _⟩ := hr2'.open
 simp -dsimp -implicitDefEqProofs (disch := first|with_reducible assumption|omega) [go_sem]
 refine xkp (Drop.forget le2) ?_
 simp -dsimp -implicitDefEqProofs (disch := first|with_reducible assumption|omega) [go_sem]
 refine Spec.apn (depplain_any _ (o1.up le2) hn2 fun h5 r5 le5 hr5 ap nd => ?_)
 simp only [Ap] at ap
 obtain ⟨v5, w5, _⟩ := ap
 have hr5' := hr5
 obtain ⟨as5, zs5, rfl, _⟩ := hr5'.open
 simp -dsimp -implicitDefEqProofs (disch := first|with_reducible assumption|omega) [go_sem]
 refine xkp (Drop.forget (le2.trans le5)) ?_
 simp -dsimp -implicitDefEqProofs (disch := first|with_reducible assumption|omega) [go_sem]
 refine Spec.apn (dueplain_any _ (d1.up (le2.trans le5)) hn3 fun h6 r6 le6 hr6 ap nd => ?_)
 simp only [Ap] at ap
 obtain ⟨v6, w6, _⟩ := ap
 have hr6' := hr6
 obtain ⟨as6, zs6, rfl, _⟩ := hr6'.open
 simp -dsimp -implicitDefEqProofs (disch := first|with_reducible assumption|omega) [go_sem]
 refine xkp (Drop.forget ((le2.trans le5).trans le6)) ?_
 simp -dsimp -implicitDefEqProofs (disch := first|with_reducible assumption|omega) [go_sem]
 refine Spec.apn (motplain_any _ (t1.up (le2.trans (le5.trans le6))) (fun x hx => (t1m x hx).up (le2.trans (le5.trans le6))) hql fun h7 r7 le7 hr7 ap nd => ?_)
 simp only [Ap] at ap
 obtain ⟨v7, w7, _⟩ := ap
 have hr7' := hr7
 obtain ⟨as7, zs7, rfl, _⟩ := hr7'.open
 simp -dsimp -implicitDefEqProofs (disch := first|with_reducible assumption|omega) [go_sem]
 refine xkp (Drop.forget ((le2.trans (le5.trans le6)).trans le7)) ?_
 simp -dsimp -implicitDefEqProofs (disch := first|with_reducible assumption|omega) [go_sem]
 have LE := le2.trans (le5.trans (le6.trans le7))
 have hu : IsSt h7 ⟨.slice ap1 s.purses.length zp1, .slice am2 s.members.length zm2, .slice ae1 s.entry.length ze1, .slice ax1 s.exit.length zx1, .slice as5 s.pool.length zs5, .slice as6 s.dues.length zs6, .slice as7 q1.length zs7, .slice ak1 s.marks.length zk1, .slice ar1 r1.length zr1⟩ s :=
  ⟨ok1, p1.up LE, hr2.up (le5.trans (le6.trans le7)), mo1, e1.up LE, x1.up LE, hr5.up (le6.trans le7), oo1, hr6.up le7, dd1, ⟨q1, hr7, t1e, fun x hx => (t1m x hx).up LE⟩, k1.up LE, ⟨r1, r1t.up LE, r1e⟩⟩
 exact fin_tail (fin_tail (fin_here (hk h7 _ LE hu)))
end Go.X

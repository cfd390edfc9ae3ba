/- The contract of trial.Adopt. Conditions: a state of few parts that fits, right parameters. -/
import Derived.Test.YtfilkbfkhdaakaaGreatUI
set_option linter.unusedVariables false
set_option linter.unusedSimpArgs false
set_option maxRecDepth 20000
namespace Go.X
open Go.RowKit Go.Proofs Go.Bl
variable {L : Own} {h : PH} {K : PK}
theorem Nd.nodup : ∀ {L : Own}, Nd L → (L.map Blk.b).Nodup
  | [], _ => List.nodup_nil
  | e :: L, hn => by
    rw [List.map_cons, List.nodup_cons]
    refine ⟨fun hm => ?_, Nd.nodup hn.2⟩
    obtain ⟨x, hx, hb⟩ := List.mem_map.1 hm
    exact of_apart hn.1 x hx hb
theorem Nd.perm {L L' : Own} (p : L.Perm L') (nd : Nd L) : Nd L' := Nd.of ((p.map Blk.b).nodup_iff.1 nd.nodup)
theorem Ap.mem {h : PH} : ∀ {L : Own}, Ap L h → ∀ e ∈ L, h e.b = noC
  | [], _, e, he => by cases he
  | x :: L, ha, e, he => by
    rcases List.mem_cons.1 he with rfl | he
    · exact ha.1
    · exact Ap.mem ha.2 e he
theorem Ap.perm {L L' : Own} {h : PH} (p : L.Perm L') (ap : Ap L h) : Ap L' h := Ap.of fun e he => ap.mem e (p.mem_iff.2 he)
theorem perm_bench {e sz e2 sz2 : Nat} {o o2 : Option (Nat × Nat)} {xs ys : List Value} {x a b c : Blk} {L : Own} : (x :: oent e sz o xs (oent e2 sz2 o2 ys (a :: b :: c :: L))).Perm (c :: x :: oent e2 sz2 o2 ys (oent e sz o xs (a :: b :: L))) := by
  have p1 : (x :: oent e sz o xs (oent e2 sz2 o2 ys (a :: b :: c :: L))).Perm (x :: oent e2 sz2 o2 ys (oent e sz o xs (a :: b :: c :: L))) := List.Perm.cons _ (oent_swap o o2 xs ys _)
  have p2 : (a :: b :: c :: L).Perm (c :: a :: b :: L) := (List.perm_middle (l₁ := [a, b]) (l₂ := L) (a := c))
  have p3 : (oent e2 sz2 o2 ys (oent e sz o xs (c :: a :: b :: L))).Perm (c :: oent e2 sz2 o2 ys (oent e sz o xs (a :: b :: L))) := ((oent_congr o2 ys oent_perm.symm).trans oent_perm.symm)
  exact p1.trans ((List.Perm.cons x ((oent_congr o2 ys (oent_congr o xs p2)).trans p3)).trans (List.Perm.swap _ _ _))
section
variable {e1 s1 e2 s2 e3 s3 : Nat} {oo om ox : Option (Nat × Nat)} {outs ms xs : List Value} {x a b : Blk} {L : Own} {h : PH}
theorem nd_own2 (nd : Nd (x :: oent e1 s1 oo outs (oent e2 s2 om ms (oent e3 s3 ox xs (a :: b :: L))))) :
    (apB oo x.b ∧ apB oo a.b ∧ apB oo b.b) ∧ (apB om x.b ∧ apB om a.b ∧ apB om b.b) ∧ (apB ox x.b ∧ apB ox a.b ∧ apB ox b.b) ∧ Nd (oent e1 s1 oo outs (oent e2 s2 om ms L)) ∧ Nd (oent e1 s1 oo outs (oent e3 s3 ox xs L)) ∧ Nd (oent e2 s2 om ms (oent e3 s3 ox xs L)) := by
  obtain ⟨n1, nd⟩ := nd
  have q1 := apart_here n1
  have q2 := apart_here (apart_oent n1)
  have q3 := apart_here (apart_oent (apart_oent n1))
  obtain ⟨r1, r2⟩ := nd_in nd
  obtain ⟨r3, r4⟩ := nd_in r1
  obtain ⟨r5, _⟩ := nd_in r2
  obtain ⟨t1, u1⟩ := nd_here r3
  obtain ⟨t2, u2⟩ := nd_here u1
  obtain ⟨t3, u3⟩ := nd_here r5
  obtain ⟨t4, u4⟩ := nd_here u3
  obtain ⟨t5, u5⟩ := nd_here r4
  obtain ⟨t6, u6⟩ := nd_here u5
  have two : ∀ {e sz e' sz' : Nat} {o o' : Option (Nat × Nat)} {ys zs : List Value}, Nd (oent e sz o ys (oent e' sz' o' zs (a :: b :: L))) → Nd (oent e sz o ys (oent e' sz' o' zs L)) := fun {e sz e' sz' o o' ys zs} nn => by
    have p := oent_congr (e := e) (sz := sz) o ys (oent_perm_app (e := e') (sz := sz') (o := o') (xs := zs) [a, b] (L := L)).symm
    have p2 := p.trans (oent_perm_app (e := e) (sz := sz) (o := o) (xs := ys) [a, b] (L := oent e' sz' o' zs L)).symm
    exact (Nd.perm p2 nn).2.2
  have s1 : Nd (oent e1 s1 oo outs (oent e2 s2 om ms (a :: b :: L))) := by
    have := Nd.perm (oent_congr (e := e1) (sz := s1) oo outs (oent_swap om ox ms xs (a :: b :: L))) nd
    cases oo with
    | none => cases ox with
      | none => exact nd
      | some p => exact this.2
    | some p0 => cases ox with
      | none => exact nd
      | some p => exact ⟨this.1.2, this.2.2⟩
  exact ⟨⟨q1, t1, t2⟩, ⟨q2, t3, t4⟩, ⟨q3, t5, t6⟩, two s1, two r1, two r2⟩
theorem ap_own2 (ap : Ap (x :: oent e1 s1 oo outs (oent e2 s2 om ms (oent e3 s3 ox xs (a :: b :: L)))) h) : h x.b = noC ∧ h a.b = noC ∧ h b.b = noC ∧ apO oo [] h ∧ apO om [] h ∧ apO ox [] h := by
  obtain ⟨p1, ap⟩ := ap
  have q1 := ap_here ap
  have ap := Ap.oent ap
  have q2 := ap_here ap
  have ap := Ap.oent ap
  have q3 := ap_here ap
  obtain ⟨p2, p3, _⟩ := Ap.oent ap
  exact ⟨p1, p2, p3, q1, q2, q3⟩
end
theorem apO_pub' {e sz e2 sz2 : Nat} {o o2 : Option (Nat × Nat)} {xs ys zs : List Value} {L : Own} {h : PH} (nd : Nd (oent e2 sz2 o2 ys (oent e sz o xs L))) (h1 : apO o [] h) : apO o [] (pubO h o2 zs) := by
  cases o with
  | none => trivial
  | some p => cases o2 with
    | none => exact h1
    | some p2 => exact ⟨trivial, pubO_noC (o := some p2) (Ne.symm nd.1.1) h1.2⟩
theorem par_wait {p : ParD} (hr : parR p = true) : 0 ≤ p.wait ∧ p.wait ≤ 50 := by
  simp only [parR, othersB, List.all_cons, List.all_nil, Bool.and_eq_true, id] at hr
  have h1 : wi p.wait 0 50 = true := by simp_all
  exact wi_iff.1 h1
theorem okO_le {o : Option (Nat × Nat)} {m n : Nat} (ho : okO o n) (h : m ≤ n) : okO o m := by
  cases o with
  | none =>
    have h0 : n = 0 := ho
    show m = 0
    omega
  | some p => exact ⟨Nat.le_trans h ho.1, ho.2⟩
theorem ouN_mem {q : ParD} {cs : List MemD} : ∀ {k : Nat} {x : Int}, x ∈ ouN q cs k → 0 ≤ x ∧ x < k
  | 0, _, hx => by cases hx
  | k + 1, x, hx => by
    rw [ouN] at hx
    split at hx
    · rcases List.mem_append.1 hx with hx | hx
      · have := ouN_mem hx; omega
      · simp at hx; omega
    · have := ouN_mem hx; omega
theorem settleP_any {s : StD} {e sz : Nat} {oo : Option (Nat × Nat)} {outs : List Value} (u : SV) (hr : parR s.par = true) (ok : ParOk s.par) (ms : List MemD) (hm : ∀ x ∈ ms, MemOk x) (bb : Nat) (o : Option (Nat × Nat)) (w out : Value) (n : Nat) (hn : ms.length = n) (ho : okO o n) (hml : n ≤ 1000) (k : Nat) (hk1 : k < n)
    (hk : K (.tuple #[]) (⟨bb, 192, stC s (setM u (ovs o n)) ++ [w, out], 43⟩ :: oent 94 6 o ((ms.set k (settleM s.par (gr zeroM ms k))).flatMap memC) (oent e sz oo outs L)) h) :
    Spec Tryz.prog 113 [.pointer (some ⟨bb, 0, none⟩), .int .i64 k] (⟨bb, 192, stC s (setM u (ovs o n)) ++ [w, out], 43⟩ :: oent e sz oo outs (oent 94 6 o (ms.flatMap memC) L)) h K :=
  Spec.weaken (Drop.perm h (List.Perm.cons _ (oent_swap _ _ _ _ _))) (settleO_any u hr ok ms hm bb o w out n hn ho hml k hk1 hk)
theorem setF_upN (q : ParD) (Y : List MemD) {k : Nat} (hk : k < Y.length) (e : cntM (gr zeroM Y k)) : (upN (setF q) Y k).set k (settleM q (gr zeroM (upN (setF q) Y k) k)) = upN (setF q) Y (k + 1) := by
  rw [upN, upN_at _ _ hk, setF, if_pos e]
theorem adX_tot {s : StD} {q : ParD} (okq : ParOk q) (be : BeOk s.members s.purses) : tot (adX s q).2 + tot ((adX s q).1.map MemD.bal) = tot s.purses + tot (s.members.map MemD.bal) := clN_tot okq be s.members.length (Nat.le_refl _)
def adMem (s : StD) (q : ParD) : List MemD := upN (setF q) (upN (ejF q) (adX s q).1 s.members.length) s.members.length
def adDues (s : StD) (q : ParD) : List DueD := duN q (adX s q).1 (s.ep + s.par.wait) s.dues s.members.length
def adExit (s : StD) (q : ParD) : List Int := exN q (adX s q).1 s.exit s.members.length
def adOut (s : StD) (q : ParD) : List Int := ouN q (adX s q).1 s.members.length
/-- a state with other parameters -/
def adS (s : StD) (q : ParD) : StD := { s with par := q, members := adMem s q, purses := (adX s q).2, dues := adDues s q, exit := adExit s q }
theorem fewB_own {s : StD} (hf : fewB s = true) : OwnFew s := by
  have := few9_len (fewB_9 hf)
  simp only [fewB, Bool.and_eq_true, List.all_eq_true, decide_eq_true_eq] at hf
  exact ⟨by omega, by omega, by omega, by omega, by omega, by omega, by omega, by omega, by omega, fun m hm => by have := hf.2 m hm; omega, fun b hb => by have := hf.1.2 b hb; omega⟩
set_option maxHeartbeats 12800000 in
theorem adopt_any {s : StD} (v : SV) (hs : IsSt h v s) (fe : fewB s = true) (hf : fitsS s = true) (q : ParD) (hq : parR q = true) (okq : ParOk q)
    (hk : ∀ h' u r, PH.le h h' → IsSt h' u (adS s q) → Ints h' .i64 r (adOut s q) → K (.tuple #[stV (adS s q) u, r, .int .i64 0]) L h') : Spec Tryz.prog 38 [stV s v, parV q] L h K := by
  obtain ⟨be, hr, hep, hlen, htot⟩ := fits_be hs hf
  have few := fewB_S fe
  have own := fewB_own fe
  have flen := few9_len (fewB_9 fe)
  have hwt := par_wait hr
  obtain ⟨pa, pc, ma, mc, ea, ec, xa, xc, oa, oc, da, dc, ta, tc, ka, kc, ra, rc, rfl⟩ := hs.slices
  refine x_enter Tryz.func38 rfl (rs := [_, _, _]) rfl rfl mixed (by kernel_rfl) rfl rfl ?_
  simp -dsimp -implicitDefEqProofs (disch := first | with_reducible assumption | omega) [go_sem]
  refine xnew fun b2 n_b2 h_b2 => ?_
  try simp only [Apart] at n_b2
  simp -dsimp -implicitDefEqProofs (disch := first | with_reducible assumption | omega) [go_sem]
  refine xnew fun b3 n_b3 h_b3 => ?_
  try simp only [Apart] at n_b3
  simp -dsimp -implicitDefEqProofs (disch := first | with_reducible assumption | omega) [go_sem]
  refine xnew fun b4 n_b4 h_b4 => ?_
  try simp only [Apart] at n_b4
  simp -dsimp -implicitDefEqProofs (disch := first | with_reducible assumption | omega) [go_sem]
  refine fits_any (s := s) ⟨.slice pa s.purses.length pc, .slice ma s.members.length mc, .slice ea s.entry.length ec, .slice xa s.exit.length xc, .slice oa s.pool.length oc, .slice da s.dues.length dc, .slice ta s.motions.length tc, .slice ka s.marks.length kc, .slice ra s.ring.length rc⟩ hs few ?_
  rw [hf]
  simp -dsimp -implicitDefEqProofs (disch := first | with_reducible assumption | omega) [go_sem]
  refine pcheck0 q okq ?_
  rw [hq]
  simp -dsimp -implicitDefEqProofs (disch := first | with_reducible assumption | omega) [go_sem]
  refine xanyl (.tk 2 (.tk 3 (.tkl 0 (.tkl 4 (.or true 1 (.tk 5 (.or true 6 (.tk 7 (.fin)) (.nil))) (.nil)))))) (by kernel_rfl) (by kernel_rfl) _ (Drop.refl _ _) ?_
  simp -dsimp -implicitDefEqProofs (disch := first | with_reducible assumption | omega) [go_sem]
  refine Spec.apn (own24_any (s := s) ⟨.slice pa s.purses.length pc, .slice ma s.members.length mc, .slice ea s.entry.length ec, .slice xa s.exit.length xc, .slice oa s.pool.length oc, .slice da s.dues.length dc, .slice ta s.motions.length tc, .slice ka s.marks.length kc, .slice ra s.ring.length rc⟩ hs own fun h1 u om ox le1 okm okx hS ap nd => ?_)
  obtain ⟨nx, nm⟩ := nd_in nd
  obtain ⟨x4, nx⟩ := nd_here nx
  obtain ⟨x3, nx⟩ := nd_here nx
  obtain ⟨x2, _⟩ := nd_here nx
  obtain ⟨m4, nm⟩ := nd_here nm
  obtain ⟨m3, nm⟩ := nd_here nm
  obtain ⟨m2, _⟩ := nd_here nm
  clear nx nm
  have nd0 := nd
  have ap0 := ap
  have ax1 : apO ox [] h1 := ap_here ap
  obtain ⟨a4, a3, a2, _⟩ := Ap.oent (Ap.oent ap)
  simp only at x4 x3 x2 m4 m3 m2 a4 a3 a2
  obtain ⟨up, um, ue, ux, uo, ud, ut, uk, ur⟩ := u
  have hS0 := hS
  obtain ⟨pa1, pc1, ma1, mc1, ea1, ec1, xa1, xc1, oa1, oc1, da1, dc1, ta1, tc1, ka1, kc1, ra1, rc1, eS⟩ := hS.slices
  injection eS with q1 _ q3 _ q5 q6 q7 q8 q9
  simp only [noMX] at q1 q3 q5 q6 q7 q8 q9
  subst q1 q3 q5 q6 q7 q8 q9
  have le10 := le1
  refine xkp ((Drop.oent _ _ _ _ _ _).trans ((Drop.oent _ _ _ _ _ _).trans (Drop.forget le1))) ?_
  simp -dsimp -implicitDefEqProofs (disch := first | with_reducible assumption | omega) [go_sem]
  refine xnew fun b7 n_b7 h_b7 => ?_
  try simp only [Apart] at n_b7
  have n7 := apart_oent (apart_oent n_b7)
  simp only [Apart] at n7
  have m7 : apB om b7 := apart_here (apart_oent n_b7)
  have am1 : apO om [] h1 := ap_here (Ap.oent ap)
  simp -dsimp -implicitDefEqProofs (disch := first | with_reducible assumption | omega) [go_sem]
  refine xkp ((Drop.tail _ _ _).trans ((Drop.oent _ _ _ _ _ _).trans ((Drop.oent _ _ _ _ _ _).trans (Drop.forget le1)))) ?_
  simp -dsimp -implicitDefEqProofs (disch := first | with_reducible assumption | omega) [go_sem, xSet_oent x4, xFind_oent x4, xSet_oent x3, xFind_oent x3, xSet_oent x2, xFind_oent x2, xSet_oent m4, xFind_oent m4, xSet_oent m3, xFind_oent m3, xSet_oent m2, xFind_oent m2]
  obtain ⟨em0, emc, emm, _⟩ := ovs_open okm
  have emn : ∃ a c, ovs om s.members.length = .slice a s.members.length c := ⟨em0, emc, emm⟩
  rw [emm]
  simp -dsimp -implicitDefEqProofs (disch := first | with_reducible assumption | omega) [go_sem, xSet_oent x4, xFind_oent x4, xSet_oent x3, xFind_oent x3, xSet_oent x2, xFind_oent x2, xSet_oent m4, xFind_oent m4, xSet_oent m3, xFind_oent m3, xSet_oent m2, xFind_oent m2]
  rw [← emm]
  obtain ⟨N, hN⟩ : ∃ N, N = s.members.length := ⟨_, rfl⟩
  obtain ⟨U, hU⟩ : ∃ U : SV, U = ⟨.slice none 0 0, .slice none 0 0, .slice ea1 s.entry.length ec1, ovs ox s.exit.length, .slice oa1 s.pool.length oc1, .slice da1 s.dues.length dc1, .slice ta1 s.motions.length tc1, .slice ka1 s.marks.length kc1, .slice ra1 s.ring.length rc1⟩ := ⟨_, rfl⟩
  obtain ⟨OW1, hOW1⟩ : ∃ OW1 : Nat → Value → Own, OW1 = fun k vp => ⟨b7, 192, stC (setPar s q) (setP (setM U (ovs om s.members.length)) vp) ++ [.int .i64 s.par.wait, .slice none 0 0], 43⟩ :: oent 94 6 om ((clN q (s.members, s.purses) k).1.flatMap memC) (oent 3 1 ox (s.exit.map (.int .i64)) (⟨b4, 34, stC zeroS nilV, 41⟩ :: ⟨b3, 24, parC q, 24⟩ :: L)) := ⟨_, rfl⟩
  refine xloop (γ := Nat × PH × Value) (0, h1, .slice pa1 s.purses.length pc1) (fun x => x.1 ≤ s.members.length ∧ PH.le h1 x.2.1 ∧ Ints x.2.1 .u64 x.2.2 (clN q (s.members, s.purses) x.1).2 ∧ Ap (OW1 x.1 x.2.2) x.2.1 ∧ Nd (OW1 x.1 x.2.2))
    (fun x => [(40, .int .i64 x.1), (39, .int .i64 s.members.length), (7, .pointer (some ⟨b7, 0, none⟩)), (4, .pointer (some ⟨b4, 0, none⟩)), (3, .pointer (some ⟨b3, 0, none⟩))])
    (fun x => OW1 x.1 x.2.2)
    (fun x => x.2.1) (fun x => s.members.length - x.1) ?_ ?_ ?_ ?_
  · subst hOW1
    exact ⟨Nat.zero_le _, PH.le_refl _, hS0.p, (Ap.perm perm_bench (⟨h_b7, ap0⟩ : Ap (_ :: _) h1)).2, (Nd.perm perm_bench (⟨n_b7, nd0⟩ : Nd (_ :: _))).2⟩
  · simp [Ent, List.lookup, xEnv]
  · subst hU; subst hOW1; exact drop_bench
  rintro ⟨k, hp, wp⟩ ⟨k1, lep, ip, apW, ndW⟩
  simp only at k1 lep ip apW ndW ⊢
  have hOWk : OW1 k wp = _ := congrFun (congrFun hOW1 k) wp
  rw [hOWk] at apW ndW ⊢
  have hp7 : hp b7 = noC := apW.1
  have hcl := clN_len q (s.members, s.purses) k
  by_cases c1 : k < s.members.length
  · simp -dsimp -implicitDefEqProofs (disch := first | with_reducible assumption | omega) [go_sem]
    refine Spec.apn (clampO_any (s := setPar s q) (setP (setM U (ovs om s.members.length)) wp) hq okq (clN q (s.members, s.purses) k).1 (clN q (s.members, s.purses) k).2 (clN_ok okq be k k1) b7 om (.int .i64 s.par.wait) (.slice none 0 0) s.members.length hcl.1 okm (by omega) ip (by rw [hcl.2]; simp only; omega) k c1 fun h3 r3 le3 i3 ap nd => ?_)
    simp -dsimp -implicitDefEqProofs (disch := first | with_reducible assumption | omega) [go_sem]
    refine ⟨k + 1, h3, r3, ⟨by omega, lep.trans le3, i3, ?_, ?_⟩, by omega, by simp [Ent, List.lookup], ?_⟩
    · rw [hOW1]; exact ap
    · rw [hOW1]; exact nd
    · rw [hOW1]; exact Drop.refl _ _
  have hkl : k = s.members.length := by omega
  subst hkl
  have eX : clN q (s.members, s.purses) s.members.length = adX s q := rfl
  rw [eX] at ip apW ndW ⊢
  have hX : BeOk (adX s q).1 (adX s q).2 := clN_ok okq be s.members.length (Nat.le_refl _)
  have hXl : (adX s q).1.length = s.members.length := (clN_len q (s.members, s.purses) s.members.length).1
  have hXp : (adX s q).2.length = s.purses.length := (clN_len q (s.members, s.purses) s.members.length).2
  have hXt := adX_tot okq be
  obtain ⟨X, eX'⟩ : ∃ X, X = adX s q := ⟨_, rfl⟩
  obtain ⟨t, et⟩ : ∃ t, t = s.ep + s.par.wait := ⟨_, rfl⟩
  have eR : adS s q = { s with par := q, members := upN (setF q) (upN (ejF q) X.1 s.members.length) s.members.length, purses := X.2, dues := duN q X.1 t s.dues s.members.length, exit := exN q X.1 s.exit s.members.length } := by rw [eX', et]; rfl
  have eO : adOut s q = ouN q X.1 s.members.length := by rw [eX']; rfl
  rw [eR, eO] at hk
  rw [← eX'] at ip hX hXl hXp hXt apW ndW ⊢
  clear eX eR eO eX'
  have hX2 : 0 ≤ tot X.2 := tot_nonneg hX.p
  have hdu := fun k hk => duN_ok (q := q) (cs := X.1) (t := t) (ds := s.dues) (n := 300) (M := dTot s.dues) hX.m (by omega) ⟨hs.dd, Int.le_refl _, by omega⟩ (by rw [dTot]; omega) k hk
  obtain ⟨hp7, hp4, hp3, _, hpm0, hpx0⟩ := ap_own2 (e1 := 0) (s1 := 0) (oo := none) (outs := []) apW
  obtain ⟨wpa, wpc, rfl, _⟩ := ip.open
  rw [hXp] at ip apW ndW ⊢
  simp only [List.cons_append, List.nil_append]
  rw [emm]
  simp -dsimp -implicitDefEqProofs (disch := first | with_reducible assumption | omega) [go_sem]
  rw [← emm]
  obtain ⟨OW2, hOW2⟩ : ∃ OW2 : Nat → Value → Option (Nat × Nat) → Own, OW2 = fun k vd oo => ⟨b7, 192, stC (setPar s q) (setD (setX (setP (setM U (ovs om s.members.length)) (.slice wpa s.purses.length wpc)) (ovs ox (exN q X.1 s.exit k).length)) vd) ++ [.int .i64 s.par.wait, ovs oo (ouN q X.1 k).length], 43⟩ :: oent 3 1 oo ((ouN q X.1 k).map (.int .i64)) (oent 94 6 om ((upN (ejF q) X.1 k).flatMap memC) (oent 3 1 ox ((exN q X.1 s.exit k).map (.int .i64)) (⟨b4, 34, stC zeroS nilV, 41⟩ :: ⟨b3, 24, parC q, 24⟩ :: L))) := ⟨_, rfl⟩
  refine xloop (γ := Nat × PH × Value × Option (Nat × Nat)) (0, hp, .slice da1 s.dues.length dc1, none) (fun x => x.1 ≤ s.members.length ∧ PH.le hp x.2.1 ∧ Recs dueC 3 x.2.1 x.2.2.1 (duN q X.1 t s.dues x.1) ∧ okO x.2.2.2 (ouN q X.1 x.1).length ∧ Ap (OW2 x.1 x.2.2.1 x.2.2.2) x.2.1 ∧ Nd (OW2 x.1 x.2.2.1 x.2.2.2))
    (fun x => [(53, .int .i64 x.1), (52, .int .i64 s.members.length), (7, .pointer (some ⟨b7, 0, none⟩)), (4, .pointer (some ⟨b4, 0, none⟩)), (3, .pointer (some ⟨b3, 0, none⟩))])
    (fun x => OW2 x.1 x.2.2.1 x.2.2.2)
    (fun x => x.2.1) (fun x => s.members.length - x.1) ?_ ?_ ?_ ?_
  · subst hOW2
    subst hU
    exact ⟨Nat.zero_le _, PH.le_refl _, hS0.d.up lep, rfl, apW, ndW⟩
  · simp [Ent, List.lookup]
  · subst hOW2
    subst hU
    exact Drop.refl _ _
  rintro ⟨k, hq2, vd, oo⟩ ⟨k1, leq, iq, okk, apV, ndV⟩
  simp only at k1 leq iq okk apV ndV ⊢
  have hOWk : OW2 k vd oo = _ := congrFun (congrFun (congrFun hOW2 k) vd) oo
  have hYl := upN_len (ejF q) X.1 k
  have hol := ouN_len q X.1 k
  have hxl := exN_len q X.1 s.exit k
  obtain ⟨vda, vdc, rfl, _⟩ := iq.open
  by_cases c1 : k < s.members.length
  · obtain ⟨bm, cap, rfl⟩ : ∃ bm cap, om = some (bm, cap) := by
      cases om with
      | none => have : s.members.length = 0 := okm; omega
      | some p => exact ⟨_, _, rfl⟩
    rw [hOWk] at apV ndV ⊢
    obtain ⟨z7, z4, z3, zo, zm, zx⟩ := ap_own2 apV
    obtain ⟨⟨o7, o4, o3⟩, ⟨nb7, nb4, nb3⟩, ⟨y7, y4, y3⟩, nom, nox, nmx⟩ := nd_own2 ndV
    have hbm : hq2 bm = noC := zm.2
    have obm : apB oo bm := (nd_here nom).1
    have nb7 : bm ≠ b7 := nb7
    have nb4 : bm ≠ b4 := nb4
    have nb3 : bm ≠ b3 := nb3
    have hat := upN_at (ejF q) X.1 (k := k) (by omega)
    obtain ⟨m, hm⟩ : ∃ m, m = gr zeroM (upN (ejF q) X.1 k) k := ⟨_, rfl⟩
    have hm2 : m = gr zeroM X.1 k := by rw [hm, hat]
    have g0 : ∀ (K : Value → Prop) (t : Tok K), xNth ((upN (ejF q) X.1 k).flatMap memC) (k * 6) K t = K (.int .u64 m.bal) := fun K t => xNth_rec memC_len zeroM _ (m := 0) (by omega) (by decide) (by rw [← hm]; rfl) K t
    have g1 : ∀ (K : Value → Prop) (t : Tok K), xNth ((upN (ejF q) X.1 k).flatMap memC) (k * 6 + 1) K t = K (.int .u64 m.eff) := fun K t => xNth_rec memC_len zeroM _ (m := 1) (by omega) (by decide) (by rw [← hm]; rfl) K t
    have g2 : ∀ (K : Value → Prop) (t : Tok K), xNth ((upN (ejF q) X.1 k).flatMap memC) (k * 6 + 2) K t = K (.int .u64 m.score) := fun K t => xNth_rec memC_len zeroM _ (m := 2) (by omega) (by decide) (by rw [← hm]; rfl) K t
    have g3 : ∀ (K : Value → Prop) (t : Tok K), xNth ((upN (ejF q) X.1 k).flatMap memC) (k * 6 + 3) K t = K (.int .i64 m.streak) := fun K t => xNth_rec memC_len zeroM _ (m := 3) (by omega) (by decide) (by rw [← hm]; rfl) K t
    have g4 : ∀ (K : Value → Prop) (t : Tok K), xNth ((upN (ejF q) X.1 k).flatMap memC) (k * 6 + 4) K t = K (.int .i64 m.owner) := fun K t => xNth_rec memC_len zeroM _ (m := 4) (by omega) (by decide) (by rw [← hm]; rfl) K t
    have g5 : ∀ (K : Value → Prop) (t : Tok K), xNth ((upN (ejF q) X.1 k).flatMap memC) (k * 6 + 5) K t = K (.int .i64 m.status) := fun K t => xNth_rec memC_len zeroM _ (m := 5) (by omega) (by decide) (by rw [← hm]; rfl) K t
    simp only [List.cons_append, List.nil_append, ovs_some, oent_some] at z7 z4 z3 ⊢
    simp -dsimp -implicitDefEqProofs (disch := first | with_reducible assumption | omega) [go_sem, g0, g1, g2, g3, g4, g5, xFind_oent obm]
    refine xnew fun b10 n_b10 h_b10 => ?_
    try simp only [Apart] at n_b10
    have n10 := apart_oent n_b10.2
    have n11 := apart_oent n10.2
    simp only [Apart] at n11
    have nm10 : bm ≠ b10 := n10.1
    simp -dsimp -implicitDefEqProofs (disch := first | with_reducible assumption | omega) [go_sem, g0, g1, g2, g3, g4, g5, xFind_oent obm]
    refine counts_any m ?_
    have same : ¬ ejP q m → Drop (OW2 k (.slice vda (duN q X.1 t s.dues k).length vdc) oo) hq2 (OW2 (k + 1) (.slice vda (duN q X.1 t s.dues k).length vdc) oo) hq2 ∧ Ap (OW2 (k + 1) (.slice vda (duN q X.1 t s.dues k).length vdc) oo) hq2 ∧ Nd (OW2 (k + 1) (.slice vda (duN q X.1 t s.dues k).length vdc) oo) ∧ okO oo (ouN q X.1 (k + 1)).length ∧ duN q X.1 t s.dues (k + 1) = duN q X.1 t s.dues k := fun hn => by
      rw [hm2] at hn
      have d1 : duN q X.1 t s.dues (k + 1) = duN q X.1 t s.dues k := by rw [duN, if_neg hn]
      have d2 : exN q X.1 s.exit (k + 1) = exN q X.1 s.exit k := by rw [exN, if_neg hn]
      have d3 : ouN q X.1 (k + 1) = ouN q X.1 k := by rw [ouN, if_neg hn]
      have d4 : upN (ejF q) X.1 (k + 1) = upN (ejF q) X.1 k := upN_same _ _ (by omega) (by rw [ejF, if_neg hn])
      have d5 : OW2 (k + 1) (.slice vda (duN q X.1 t s.dues k).length vdc) oo = OW2 k (.slice vda (duN q X.1 t s.dues k).length vdc) oo := by rw [hOW2]; simp only [d2, d3, d4]
      rw [d5, d3, hOWk]
      exact ⟨Drop.refl _ _, apV, ndV, okk, d1⟩
    by_cases e : m.status = 2 ∨ m.status = 3
    · rw [decide_eq_true e]
      by_cases e2 : m.bal ≤ q.floor
      · simp -dsimp -implicitDefEqProofs (disch := first | with_reducible assumption | omega) [go_sem, xFind_oent o3, xFind_oent y3]
        have hj : ejP q (gr zeroM X.1 k) := by rw [← hm2]; exact ⟨e, e2⟩
        have d1 : duN q X.1 t s.dues (k + 1) = oweL (duN q X.1 t s.dues k) (dueOf t m) := by rw [duN, if_pos hj, hm2]
        have d2 : exN q X.1 s.exit (k + 1) = flt (exN q X.1 s.exit k) k := by rw [exN, if_pos hj]; rfl
        have d3 : ouN q X.1 (k + 1) = ouN q X.1 k ++ [(k : Int)] := by rw [ouN, if_pos hj]
        have d4 : upN (ejF q) X.1 (k + 1) = (upN (ejF q) X.1 k).set k (endM (gr zeroM (upN (ejF q) X.1 k) k)) := by rw [upN, hat, ejF, if_pos hj]
        have hmo := hX.o m (by rw [hm2]; exact gr_mem (by omega))
        have hbk := at0_bal (ms := X.1) (k := k) (by omega)
        have hsk : sumK (X.1.map MemD.bal) (k + 1) = sumK (X.1.map MemD.bal) k + m.bal := by rw [sumK, hbk, hm2]
        have htk := tot_take (bal_pos hX.m) (k + 1) (by simp; omega)
        have hdk := hdu k (by omega)
        have hdt := hdk.t
        have hYo := upN_ok MemOk (f := ejF q) (l := X.1) (fun x hx => ejF_ok hx) hX.m k (by omega)
        have eD : dTot s.dues = tot (s.dues.map DueD.amt) := rfl
        refine Spec.weaken (Drop.tail _ _ _) (Spec.apn (ejectB_any (s := setPar s q) ⟨.slice wpa s.purses.length wpc, U.m, U.e, U.x, U.o, .slice vda (duN q X.1 t s.dues k).length vdc, U.t, U.k, U.r⟩ (upN (ejF q) X.1 k) hYo b7 (some (bm, cap)) ox oo s.members.length (by omega) okm (by omega)
          (exN q X.1 s.exit k) (okO_le okx hxl) (by omega) ((ouN q X.1 k).map (.int .i64)) (ouN q X.1 k).length okk (by simp) (by omega) s.par.wait (by omega) hep (duN q X.1 t s.dues k) iq hdk.d (by have := hdk.n; omega) k c1 (by rw [← hm]; omega) (by rw [← hm]; omega) fun h4 r4 oo4 le4 i4 ok4 ap nd => ?_))
        have d5 : OW2 (k + 1) r4 oo4 = _ := congrFun (congrFun (congrFun hOW2 (k + 1)) r4) oo4
        rw [d2, d3, d4, List.map_append, List.length_append] at d5
        rw [← hm] at i4
        simp -dsimp -implicitDefEqProofs (disch := first | with_reducible assumption | omega) [go_sem]
        refine ⟨k + 1, h4, r4, oo4, ⟨by omega, leq.trans le4, by rw [d1, et]; rw [et] at i4; exact i4, by rw [d3, List.length_append]; exact ok4, ?_, ?_⟩, by omega, by simp [Ent, List.lookup], ?_⟩
        · rw [d5]; exact ap
        · rw [d5]; exact nd
        · rw [d5]; exact Drop.refl _ _
      · obtain ⟨f1, f2, f3, f4, f5⟩ := same (fun x => e2 x.2)
        simp -dsimp -implicitDefEqProofs (disch := first | with_reducible assumption | omega) [go_sem, xFind_oent o3, xFind_oent y3]
        refine ⟨k + 1, hq2, _, oo, ⟨by omega, leq, by rw [f5]; exact iq, f4, f2, f3⟩, by omega, by simp [Ent, List.lookup], ?_⟩
        rw [hOWk] at f1
        exact (Drop.tail _ _ _).trans f1
    · obtain ⟨f1, f2, f3, f4, f5⟩ := same (fun x => e x.1)
      rw [decide_eq_false e]
      simp -dsimp -implicitDefEqProofs (disch := first | with_reducible assumption | omega) [go_sem, xFind_oent o3, xFind_oent y3]
      refine ⟨k + 1, hq2, _, oo, ⟨by omega, leq, by rw [f5]; exact iq, f4, f2, f3⟩, by omega, by simp [Ent, List.lookup], ?_⟩
      rw [hOWk] at f1
      exact (Drop.tail _ _ _).trans f1
  have hkl : k = s.members.length := by omega
  subst hkl
  rw [hOWk] at apV ndV ⊢
  obtain ⟨z7, z4, z3, zo, zm, zx⟩ := ap_own2 apV
  obtain ⟨⟨o7, o4, o3⟩, ⟨nb7, nb4, nb3⟩, ⟨y7, y4, y3⟩, nom, nox, nmx⟩ := nd_own2 ndV
  clear hOWk
  have hD := hdu s.members.length (by omega)
  have hYo := upN_ok MemOk (f := ejF q) (l := X.1) (fun x hx => ejF_ok hx) hX.m s.members.length (by omega)
  have hEm : ∀ x ∈ exN q X.1 s.exit s.members.length, x ∈ s.exit := fun x hx => exN_mem hx
  have hOm : ∀ x ∈ ouN q X.1 s.members.length, 0 ≤ x ∧ x < s.members.length := fun x hx => ouN_mem hx
  obtain ⟨Y, hY⟩ : ∃ Y, Y = upN (ejF q) X.1 s.members.length := ⟨_, rfl⟩
  obtain ⟨D, hDe⟩ : ∃ D, D = duN q X.1 t s.dues s.members.length := ⟨_, rfl⟩
  obtain ⟨E, hE⟩ : ∃ E, E = exN q X.1 s.exit s.members.length := ⟨_, rfl⟩
  obtain ⟨O, hO⟩ : ∃ O, O = ouN q X.1 s.members.length := ⟨_, rfl⟩
  rw [← hY] at hk hYl hYo apV ndV ⊢
  rw [← hDe] at hk hD iq apV ndV ⊢
  rw [← hE] at hk hEm hxl apV ndV ⊢
  rw [← hO] at hk hOm hol okk apV ndV ⊢
  clear hY hDe hE hO hdu
  have okE := okO_le okx hxl
  simp only [List.cons_append, List.nil_append]
  rw [emm]
  simp -dsimp -implicitDefEqProofs (disch := first | with_reducible assumption | omega) [go_sem]
  rw [← emm]
  obtain ⟨OW3, hOW3⟩ : ∃ OW3 : Nat → Own, OW3 = fun k => ⟨b7, 192, stC (setPar s q) (setD (setX (setP (setM U (ovs om s.members.length)) (.slice wpa s.purses.length wpc)) (ovs ox E.length)) (.slice vda D.length vdc)) ++ [.int .i64 s.par.wait, ovs oo O.length], 43⟩ :: oent 3 1 oo (O.map (.int .i64)) (oent 94 6 om ((upN (setF q) Y k).flatMap memC) (oent 3 1 ox (E.map (.int .i64)) (⟨b4, 34, stC zeroS nilV, 41⟩ :: ⟨b3, 24, parC q, 24⟩ :: L))) := ⟨_, rfl⟩
  refine xloop (γ := Nat) 0 (fun k => k ≤ s.members.length)
    (fun k => [(84, .int .i64 k), (83, .int .i64 s.members.length), (7, .pointer (some ⟨b7, 0, none⟩)), (4, .pointer (some ⟨b4, 0, none⟩)), (3, .pointer (some ⟨b3, 0, none⟩))])
    OW3
    (fun _ => hq2) (fun k => s.members.length - k) ?_ ?_ ?_ ?_
  · exact Nat.zero_le _
  · simp [Ent, List.lookup]
  · subst hOW3
    exact Drop.refl _ _
  rintro k k3
  have hOWk : OW3 k = _ := congrFun hOW3 k
  rw [hOWk]
  have hZl := upN_len (setF q) Y k
  by_cases c1 : k < s.members.length
  · obtain ⟨bm, cap, rfl⟩ : ∃ bm cap, om = some (bm, cap) := by
      cases om with
      | none => have : s.members.length = 0 := okm; omega
      | some p => exact ⟨_, _, rfl⟩
    have hbm : hq2 bm = noC := zm.2
    have obm : apB oo bm := (nd_here nom).1
    have nb7 : bm ≠ b7 := nb7
    have nb4 : bm ≠ b4 := nb4
    have nb3 : bm ≠ b3 := nb3
    have hat := upN_at (setF q) Y (k := k) (by omega)
    obtain ⟨m, hm⟩ : ∃ m, m = gr zeroM (upN (setF q) Y k) k := ⟨_, rfl⟩
    have hZo := upN_ok MemOk (f := setF q) (l := Y) (fun x hx => setF_ok okq hq hx) hYo k (by omega)
    have g0 : ∀ (K : Value → Prop) (t : Tok K), xNth ((upN (setF q) Y k).flatMap memC) (k * 6) K t = K (.int .u64 m.bal) := fun K t => xNth_rec memC_len zeroM _ (m := 0) (by omega) (by decide) (by rw [← hm]; rfl) K t
    have g1 : ∀ (K : Value → Prop) (t : Tok K), xNth ((upN (setF q) Y k).flatMap memC) (k * 6 + 1) K t = K (.int .u64 m.eff) := fun K t => xNth_rec memC_len zeroM _ (m := 1) (by omega) (by decide) (by rw [← hm]; rfl) K t
    have g2 : ∀ (K : Value → Prop) (t : Tok K), xNth ((upN (setF q) Y k).flatMap memC) (k * 6 + 2) K t = K (.int .u64 m.score) := fun K t => xNth_rec memC_len zeroM _ (m := 2) (by omega) (by decide) (by rw [← hm]; rfl) K t
    have g3 : ∀ (K : Value → Prop) (t : Tok K), xNth ((upN (setF q) Y k).flatMap memC) (k * 6 + 3) K t = K (.int .i64 m.streak) := fun K t => xNth_rec memC_len zeroM _ (m := 3) (by omega) (by decide) (by rw [← hm]; rfl) K t
    have g4 : ∀ (K : Value → Prop) (t : Tok K), xNth ((upN (setF q) Y k).flatMap memC) (k * 6 + 4) K t = K (.int .i64 m.owner) := fun K t => xNth_rec memC_len zeroM _ (m := 4) (by omega) (by decide) (by rw [← hm]; rfl) K t
    have g5 : ∀ (K : Value → Prop) (t : Tok K), xNth ((upN (setF q) Y k).flatMap memC) (k * 6 + 5) K t = K (.int .i64 m.status) := fun K t => xNth_rec memC_len zeroM _ (m := 5) (by omega) (by decide) (by rw [← hm]; rfl) K t
    simp only [List.cons_append, List.nil_append, ovs_some, oent_some]
    simp -dsimp -implicitDefEqProofs (disch := first | with_reducible assumption | omega) [go_sem, g0, g1, g2, g3, g4, g5, xFind_oent obm]
    refine counts_any m ?_
    by_cases e : m.status = 2 ∨ m.status = 3
    · rw [decide_eq_true e]
      simp -dsimp -implicitDefEqProofs (disch := first | with_reducible assumption | omega) [go_sem]
      refine settleP_any (s := setPar s q) (o := some (bm, cap)) (setD (setX (setP (setM U (ovs (some (bm, cap)) s.members.length)) (.slice wpa s.purses.length wpc)) (ovs ox E.length)) (.slice vda D.length vdc)) hq okq (upN (setF q) Y k) hZo b7 (.int .i64 s.par.wait) (ovs oo O.length) s.members.length (by omega) okm (by omega) k c1 ?_
      have es := setF_upN q Y (k := k) (by omega) (by rw [← hat, ← hm]; exact e)
      rw [es]
      simp -dsimp -implicitDefEqProofs (disch := first | with_reducible assumption | omega) [go_sem]
      refine ⟨k + 1, by omega, by omega, by simp [Ent, List.lookup], ?_⟩
      rw [hOW3]
      exact Drop.perm _ (List.Perm.cons _ (oent_swap _ _ _ _ _))
    · rw [decide_eq_false e]
      have es : upN (setF q) Y (k + 1) = upN (setF q) Y k := upN_same _ _ (by omega) (by rw [setF, if_neg (show ¬ cntM (gr zeroM Y k) by rw [← hat, ← hm]; exact e)])
      simp -dsimp -implicitDefEqProofs (disch := first | with_reducible assumption | omega) [go_sem]
      exact ⟨k + 1, by omega, by omega, by simp [Ent, List.lookup], by rw [hOW3]; simp only [es]; exact Drop.refl _ _⟩
  have hkl : k = s.members.length := by omega
  subst hkl
  simp only [List.cons_append, List.nil_append]
  subst hU
  simp -dsimp -implicitDefEqProofs (disch := first | with_reducible assumption | omega) [go_sem]
  refine xanyl (.tk 0 (.tk 1 (.tk 2 (.tk 4 (.tk 5 (.tk 6 (.tkl 3 (.or true 7 (.or false 8 (.tk 9 (.tk 10 (.fin))) (.nil)) (.or false 8 (.or true 7 (.tk 9 (.tk 10 (.fin))) (.nil)) (.nil)))))))))) (by kernel_rfl) (by kernel_rfl) [_] (Drop.mem List.mem_cons_self) ?_
  repeat' first
    | refine xpl_or ?_ ?_
    | simp -dsimp -implicitDefEqProofs (disch := first | with_reducible assumption | omega) [go_sem, xFind_oent o4, xSet_oent o4, xFind_oent y4, xSet_oent y4, xFind_oent (show apB om b4 from nb4), xSet_oent (show apB om b4 from nb4), xSet_oent o7, xSet_oent (show apB om b7 from nb7), xSet_oent y7]
    | refine xkp (Drop.mem List.mem_cons_self) ?_
  all_goals
    have hZl := upN_len (setF q) Y s.members.length
    have leA := pub_le_o zo (O.map (.int .i64))
    have zm1 : apO om [] (pubO hq2 oo (O.map (.int .i64))) := apO_pub' nom zm
    have zx1 : apO ox [] (pubO hq2 oo (O.map (.int .i64))) := apO_pub' nox zx
    have leB := pub_le_o zm1 ((upN (setF q) Y s.members.length).flatMap memC)
    have zx2 : apO ox [] (pubO (pubO hq2 oo (O.map (.int .i64))) om ((upN (setF q) Y s.members.length).flatMap memC)) := apO_pub' nmx zx1
    have leC := pub_le_o zx2 (E.map (.int .i64))
    have slo := pub_sl (h := hq2) (sz := 1) (n := O.length) (o := oo) (xs := O.map (.int .i64)) okk (by simp) (by omega)
    have slm := pub_sl (h := pubO hq2 oo (O.map (.int .i64))) (sz := 6) (n := s.members.length) (o := om) (xs := (upN (setF q) Y s.members.length).flatMap memC) okm (by rw [flatG_len memC_len, hZl, hYl, hXl]) (by omega)
    have slx := pub_sl (h := pubO (pubO hq2 oo (O.map (.int .i64))) om ((upN (setF q) Y s.members.length).flatMap memC)) (sz := 1) (n := E.length) (o := ox) (xs := E.map (.int .i64)) okE (by simp) (by have := own.x; omega)
    have rm := Recs.pub (f := memC) (w := 6) (l := upN (setF q) Y s.members.length) (o := om) memC_len (by rw [hZl, hYl, hXl]; exact slm.up leC)
    rw [hZl, hYl, hXl] at rm
    have le4 := lep.trans (leq.trans (leA.trans (leB.trans leC)))
    have le5 := leA.trans (leB.trans leC)
    obtain ⟨qt, t1, t2, t3⟩ := hS0.t
    obtain ⟨qr, r1, r2⟩ := hS0.r
    have io : Ints _ .i64 (ovs oo O.length) O := ⟨slo.up (leB.trans leC), fun z hz => by have := hOm z hz; exact ⟨by have : IntKind.i64.min = -9223372036854775808 := rfl; omega, by have : IntKind.i64.max = 9223372036854775807 := rfl; omega⟩⟩
    exact fin_tail ⟨L, _, (pub_drop_o oo _ _ hq2 (by decide)).trans ((pub_drop_o om _ _ _ (by decide)).trans ((pub_drop_o ox _ _ _ (by decide)).trans ((Drop.tail _ _ _).trans (Drop.tail _ _ _)))),
      hk _ ⟨.slice wpa s.purses.length wpc, ovs om s.members.length, .slice ea1 s.entry.length ec1, ovs ox E.length, .slice oa1 s.pool.length oc1, .slice vda D.length vdc, .slice ta1 s.motions.length tc1, .slice ka1 s.marks.length kc1, .slice ra1 s.ring.length rc1⟩ (ovs oo O.length) (le1.trans le4)
        { ok := ⟨okq, hs.ok.u, hs.ok.n⟩, p := ip.up (leq.trans le5), m := rm, mo := upN_ok MemOk (f := setF q) (l := Y) (fun x hx => setF_ok okq hq hx) hYo s.members.length (by omega), e := hS0.e.up le4, x := ⟨slx, fun z hz => hs.x.2 z (hEm z hz)⟩, o := hS0.o.up le4, oo := hs.oo, d := iq.up le5, dd := hD.d, t := ⟨qt, t1.up le4, t2, fun x hx => (t3 x hx).up le4⟩, k := hS0.k.up le4, r := ⟨qr, r1.up le4, r2⟩ } io⟩
end Go.X

/- The contract of trial.Adopt, where nobody is put out. Conditions: a state that fits, right parameters. -/
import Derived.Test.YtfilkbfkhdaakaaGreatUE
import Derived.Test.YtfilkbfkhdaakaaGreatSM0
import Derived.Test.YtfilkbfkhdaakaaGreatSE
set_option linter.unusedVariables false
set_option linter.unusedSimpArgs false
set_option maxRecDepth 20000
namespace Go.X
open Go.RowKit Go.Proofs Go.Bl
variable {L : Own} {h : PH} {K : PK}
/-- at a call: own blocks are not among known cells, and unlike -/
theorem Spec.entr {P : Program} {f : FuncId} {args : List Value} {L : Own} {h : PH} {K : PK} (hs : Ap L h → Nd L → Spec P f args L h K) : Spec P f args L h K :=
  ⟨trivial, fun W hg => (hs (Ap.of hg.apart) (Nd.of hg.nodup)).2 W hg⟩
theorem nd_here {e sz : Nat} {o : Option (Nat × Nat)} {xs : List Value} {x : Blk} {L : Own} (nd : Nd (oent e sz o xs (x :: L))) : apB o x.b ∧ Nd (oent e sz o xs L) := by
  cases o with
  | none => exact ⟨trivial, nd.2⟩
  | some p => exact ⟨Ne.symm nd.1.1, nd.1.2, nd.2.2⟩
theorem nd_in {e sz e2 sz2 : Nat} {o o2 : Option (Nat × Nat)} {xs ys : List Value} {L : Own} (nd : Nd (oent e sz o xs (oent e2 sz2 o2 ys L))) : Nd (oent e sz o xs L) ∧ Nd (oent e2 sz2 o2 ys L) := by
  cases o with
  | none => cases o2 with
    | none => exact ⟨nd, nd⟩
    | some p => exact ⟨nd.2, nd⟩
  | some p => cases o2 with
    | none => exact ⟨nd, nd.2⟩
    | some p2 => exact ⟨⟨nd.1.2, nd.2.2⟩, nd.2⟩
theorem oent_swap {e sz e2 sz2 : Nat} (o o2 : Option (Nat × Nat)) (xs ys : List Value) (L : Own) : (oent e sz o xs (oent e2 sz2 o2 ys L)).Perm (oent e2 sz2 o2 ys (oent e sz o xs L)) := by
  cases o with
  | none => exact List.Perm.refl _
  | some p => cases o2 with
    | none => exact List.Perm.refl _
    | some p2 => exact List.Perm.swap _ _ _
theorem drop_bench {e sz e2 sz2 : Nat} {o o2 : Option (Nat × Nat)} {xs ys : List Value} {x a b c : Blk} {L : Own} {h : PH} : Drop (x :: oent e sz o xs (oent e2 sz2 o2 ys (a :: b :: c :: L))) h (x :: oent e2 sz2 o2 ys (oent e sz o xs (a :: b :: L))) h := by
  have p1 : (x :: oent e sz o xs (oent e2 sz2 o2 ys (a :: b :: c :: L))).Perm (x :: oent e2 sz2 o2 ys (oent e sz o xs (a :: b :: c :: L))) := List.Perm.cons _ (oent_swap o o2 xs ys _)
  have p2 : (a :: b :: c :: L).Perm (c :: a :: b :: L) := (List.perm_middle (l₁ := [a, b]) (l₂ := L) (a := c))
  have p3 : (oent e2 sz2 o2 ys (oent e sz o xs (c :: a :: b :: L))).Perm (c :: oent e2 sz2 o2 ys (oent e sz o xs (a :: b :: L))) := ((oent_congr o2 ys oent_perm.symm).trans oent_perm.symm)
  exact (Drop.perm h (p1.trans ((List.Perm.cons x ((oent_congr o2 ys (oent_congr o xs p2)).trans p3)).trans (List.Perm.swap _ _ _)))).trans (Drop.tail _ _ _)
theorem ap_here {e sz : Nat} {o : Option (Nat × Nat)} {xs : List Value} {L : Own} {h : PH} (ap : Ap (oent e sz o xs L) h) : apO o [] h := by
  cases o with
  | none => trivial
  | some p => exact ⟨trivial, ap.1⟩
theorem apO_pub {e sz e2 sz2 : Nat} {o o2 : Option (Nat × Nat)} {xs ys zs : List Value} {L : Own} {h : PH} (nd : Nd (oent e sz o xs (oent e2 sz2 o2 ys L))) (h1 : apO o [] h) : apO o [] (pubO h o2 zs) := by
  cases o with
  | none => trivial
  | some p => cases o2 with
    | none => exact h1
    | some p2 => exact ⟨trivial, pubO_noC (o := some p2) nd.1.1 h1.2⟩
theorem apart_here {e sz b : Nat} {o : Option (Nat × Nat)} {xs : List Value} {L : Own} (ha : Apart b (oent e sz o xs L)) : apB o b := by
  cases o with
  | none => trivial
  | some p => exact ha.1
theorem fits_be {v : SV} {s : StD} (hs : IsSt h v s) (hf : fitsS s = true) : BeOk s.members s.purses ∧ parR s.par = true ∧ (0 ≤ s.ep ∧ s.ep ≤ 1073741824) ∧ (s.purses.length ≤ 64 ∧ s.members.length ≤ 128) ∧ tot s.purses + tot (s.members.map MemD.bal) + tot (s.dues.map DueD.amt) ≤ 4611686018427387904 := by
  simp only [fitsS, Bool.and_eq_true] at hf
  obtain ⟨⟨⟨⟨⟨⟨⟨⟨f1, f2⟩, f3⟩, f4⟩, f5⟩, f6⟩, f7⟩, f8⟩, f9⟩ := hf
  simp only [membersB, Bool.and_eq_true, decide_eq_true_eq, List.all_eq_true] at f5
  simp only [pursesB, Bool.and_eq_true, decide_eq_true_eq, List.all_eq_true] at f4
  simp only [holdsB, Bool.and_eq_true, decide_eq_true_eq] at f9
  rw [wi_iff] at f2
  have f41 := wi_iff.1 f4.1
  have p0 := hs.parts
  have u1 := hs.ok.u s.burn (by simp)
  have u2 := hs.ok.u s.treas (by simp)
  have ht : tot s.purses + tot (s.members.map MemD.bal) + tot (s.dues.map DueD.amt) ≤ 4611686018427387904 := by
    have e := f9.2
    simp only [sAll, sStk, sPur, sPool, sDue] at e p0
    omega
  have p4 : 0 ≤ tot (s.dues.map DueD.amt) := p0.2.2.2
  refine ⟨⟨hs.mo, fun x hx => ?_, fun i => (hs.p.word i).1, by omega⟩, f1, f2, ⟨by omega, f5.1.1.1⟩, ht⟩
  have := (f5.1.1.2 x hx).2
  rw [acctB, wi_iff] at this
  omega
/-- the members and the purses, brought within the parameters -/
def adX (s : StD) (q : ParD) : List MemD × List Int := clN q (s.members, s.purses) s.members.length
def adS0 (s : StD) (q : ParD) : StD := { s with par := q, members := upN (setF q) (adX s q).1 s.members.length, purses := (adX s q).2 }
theorem clampO_any {s : StD} (u : SV) (hr : parR s.par = true) (ok : ParOk s.par) (ms : List MemD) (ps : List Int) (be : BeOk ms ps) (bb : Nat) (o : Option (Nat × Nat)) (w out : Value) (n : Nat) (hn : ms.length = n) (ho : okO o n) (hml : n ≤ 1000)
    (hp : Ints h .u64 u.p ps) (hl : ps.length ≤ 1000) (k : Nat) (hk1 : k < n)
    (hk : ∀ h' r, PH.le h h' → Ints h' .u64 r (clStep s.par (ms, ps) k).2 → K (.tuple #[]) (⟨bb, 192, stC s (setP (setM u (ovs o n)) r) ++ [w, out], 43⟩ :: oent 94 6 o ((clStep s.par (ms, ps) k).1.flatMap memC) L) h') :
    Spec Tryz.prog 111 [.pointer (some ⟨bb, 0, none⟩), .int .i64 k] (⟨bb, 192, stC s (setM u (ovs o n)) ++ [w, out], 43⟩ :: oent 94 6 o (ms.flatMap memC) L) h K := by
  subst hn
  cases o with
  | none => have : ms.length = 0 := ho; omega
  | some p =>
    obtain ⟨bm, cap⟩ := p
    refine Spec.entr fun ap nd => ?_
    have h1 := be.o _ (gr_mem (z := zeroM) hk1)
    exact clampB_any u hr ok ms be.m ps bb bm cap w out (Ne.symm nd.1.1) ap.1 ap.2.1 ho.1 hml hp hl k hk1 (gr zeroM ms k).owner.toNat (by omega) (by omega) (cl_room ok (x := (ms, ps)) be hk1) hk
theorem settleO_any {s : StD} (u : SV) (hr : parR s.par = true) (ok : ParOk s.par) (ms : List MemD) (hm : ∀ x ∈ ms, MemOk x) (bb : Nat) (o : Option (Nat × Nat)) (w out : Value) (n : Nat) (hn : ms.length = n) (ho : okO o n) (hml : n ≤ 1000) (k : Nat) (hk1 : k < n)
    (hk : K (.tuple #[]) (⟨bb, 192, stC s (setM u (ovs o n)) ++ [w, out], 43⟩ :: oent 94 6 o ((ms.set k (settleM s.par (gr zeroM ms k))).flatMap memC) L) h) :
    Spec Tryz.prog 113 [.pointer (some ⟨bb, 0, none⟩), .int .i64 k] (⟨bb, 192, stC s (setM u (ovs o n)) ++ [w, out], 43⟩ :: oent 94 6 o (ms.flatMap memC) L) h K := by
  subst hn
  cases o with
  | none => have : ms.length = 0 := ho; omega
  | some p =>
    obtain ⟨bm, cap⟩ := p
    refine Spec.entr fun ap nd => ?_
    exact settleB_any u hr ok ms hm bb bm cap w out (Ne.symm nd.1.1) ap.1 ap.2.1 ho.1 hml k hk1 hk
set_option maxHeartbeats 12800000 in
theorem adopt0_any {s : StD} (v : SV) (hs : IsSt h v s) (few : FewS s) (own : OwnFew s) (hf : fitsS s = true) (q : ParD) (hq : parR q = true) (okq : ParOk q)
    (hno : ∀ k, k < s.members.length → ¬ ejP q (gr zeroM (adX s q).1 k))
    (hk : ∀ h' u, PH.le h h' → IsSt h' u (adS0 s q) → K (.tuple #[stV (adS0 s q) u, .slice none 0 0, .int .i64 0]) L h') : Spec Tryz.prog 38 [stV s v, parV q] L h K := by
  obtain ⟨be, hr, hep, hlen, htot⟩ := fits_be hs hf
  obtain ⟨pa, pc, ma, mc, ea, ec, xa, xc, oa, oc, da, dc, ta, tc, ka, kc, ra, rc, rfl⟩ := hs.slices
  refine x_enter Tryz.func38 rfl (rs := [_, _, _]) rfl rfl mixed (by kernel_rfl) rfl rfl ?_
  simp -dsimp -implicitDefEqProofs (disch := first | with_reducible assumption | omega) [go_sem]
  refine xnew fun b2 n_b2 h_b2 => ?_
  try simp only [Apart] at n_b2
  simp -dsimp -implicitDefEqProofs (disch := first | with_reducible assumption | omega) [go_sem]
  refine xnew fun b3 n_b3 h_b3 => ?_
  try simp only [Apart] at n_b3
  simp -dsimp -implicitDefEqProofs (disch := first | with_reducible assumption | omega) [go_sem]
  refine xnew fun b4 n_b4 h_b4 => ?_
  try simp only [Apart] at n_b4
  simp -dsimp -implicitDefEqProofs (disch := first | with_reducible assumption | omega) [go_sem]
  refine fits_any (s := s) ⟨.slice pa s.purses.length pc, .slice ma s.members.length mc, .slice ea s.entry.length ec, .slice xa s.exit.length xc, .slice oa s.pool.length oc, .slice da s.dues.length dc, .slice ta s.motions.length tc, .slice ka s.marks.length kc, .slice ra s.ring.length rc⟩ hs few ?_
  rw [hf]
  simp -dsimp -implicitDefEqProofs (disch := first | with_reducible assumption | omega) [go_sem]
  refine pcheck0 q okq ?_
  rw [hq]
  simp -dsimp -implicitDefEqProofs (disch := first | with_reducible assumption | omega) [go_sem]
  refine xanyl (.tk 2 (.tk 3 (.tkl 0 (.tkl 4 (.or true 1 (.tk 5 (.or true 6 (.tk 7 (.fin)) (.nil))) (.nil)))))) (by kernel_rfl) (by kernel_rfl) _ (Drop.refl _ _) ?_
  simp -dsimp -implicitDefEqProofs (disch := first | with_reducible assumption | omega) [go_sem]
  refine Spec.apn (own24_any (s := s) ⟨.slice pa s.purses.length pc, .slice ma s.members.length mc, .slice ea s.entry.length ec, .slice xa s.exit.length xc, .slice oa s.pool.length oc, .slice da s.dues.length dc, .slice ta s.motions.length tc, .slice ka s.marks.length kc, .slice ra s.ring.length rc⟩ hs own fun h1 u om ox le1 okm okx hS ap nd => ?_)
  obtain ⟨nx, nm⟩ := nd_in nd
  obtain ⟨x4, nx⟩ := nd_here nx
  obtain ⟨x3, nx⟩ := nd_here nx
  obtain ⟨x2, _⟩ := nd_here nx
  obtain ⟨m4, nm⟩ := nd_here nm
  obtain ⟨m3, nm⟩ := nd_here nm
  obtain ⟨m2, _⟩ := nd_here nm
  clear nx nm
  have nd0 := nd
  have ax1 : apO ox [] h1 := ap_here ap
  obtain ⟨a4, a3, a2, _⟩ := Ap.oent (Ap.oent ap)
  simp only at x4 x3 x2 m4 m3 m2 a4 a3 a2
  obtain ⟨up, um, ue, ux, uo, ud, ut, uk, ur⟩ := u
  have hS0 := hS
  obtain ⟨pa1, pc1, ma1, mc1, ea1, ec1, xa1, xc1, oa1, oc1, da1, dc1, ta1, tc1, ka1, kc1, ra1, rc1, eS⟩ := hS.slices
  injection eS with q1 _ q3 _ q5 q6 q7 q8 q9
  simp only [noMX] at q1 q3 q5 q6 q7 q8 q9
  subst q1 q3 q5 q6 q7 q8 q9
  have le10 := le1
  refine xkp ((Drop.oent _ _ _ _ _ _).trans ((Drop.oent _ _ _ _ _ _).trans (Drop.forget le1))) ?_
  simp -dsimp -implicitDefEqProofs (disch := first | with_reducible assumption | omega) [go_sem]
  refine xnew fun b7 n_b7 h_b7 => ?_
  try simp only [Apart] at n_b7
  have n7 := apart_oent (apart_oent n_b7)
  simp only [Apart] at n7
  have m7 : apB om b7 := apart_here (apart_oent n_b7)
  have am1 : apO om [] h1 := ap_here (Ap.oent ap)
  simp -dsimp -implicitDefEqProofs (disch := first | with_reducible assumption | omega) [go_sem]
  refine xkp ((Drop.tail _ _ _).trans ((Drop.oent _ _ _ _ _ _).trans ((Drop.oent _ _ _ _ _ _).trans (Drop.forget le1)))) ?_
  simp -dsimp -implicitDefEqProofs (disch := first | with_reducible assumption | omega) [go_sem, xSet_oent x4, xFind_oent x4, xSet_oent x3, xFind_oent x3, xSet_oent x2, xFind_oent x2, xSet_oent m4, xFind_oent m4, xSet_oent m3, xFind_oent m3, xSet_oent m2, xFind_oent m2]
  obtain ⟨em0, emc, emm, _⟩ := ovs_open okm
  have emn : ∃ a c, ovs om s.members.length = .slice a s.members.length c := ⟨em0, emc, emm⟩
  rw [emm]
  simp -dsimp -implicitDefEqProofs (disch := first | with_reducible assumption | omega) [go_sem, xSet_oent x4, xFind_oent x4, xSet_oent x3, xFind_oent x3, xSet_oent x2, xFind_oent x2, xSet_oent m4, xFind_oent m4, xSet_oent m3, xFind_oent m3, xSet_oent m2, xFind_oent m2]
  rw [← emm]
  obtain ⟨N, hN⟩ : ∃ N, N = s.members.length := ⟨_, rfl⟩
  obtain ⟨U, hU⟩ : ∃ U : SV, U = ⟨.slice none 0 0, .slice none 0 0, .slice ea1 s.entry.length ec1, ovs ox s.exit.length, .slice oa1 s.pool.length oc1, .slice da1 s.dues.length dc1, .slice ta1 s.motions.length tc1, .slice ka1 s.marks.length kc1, .slice ra1 s.ring.length rc1⟩ := ⟨_, rfl⟩
  refine xloop (γ := Nat × PH × Value) (0, h1, .slice pa1 s.purses.length pc1) (fun x => x.1 ≤ s.members.length ∧ PH.le h1 x.2.1 ∧ Ints x.2.1 .u64 x.2.2 (clN q (s.members, s.purses) x.1).2 ∧ x.2.1 b7 = noC ∧ x.2.1 b4 = noC ∧ x.2.1 b3 = noC ∧ apO om [] x.2.1 ∧ apO ox [] x.2.1)
    (fun x => [(40, .int .i64 x.1), (39, .int .i64 s.members.length), (7, .pointer (some ⟨b7, 0, none⟩)), (4, .pointer (some ⟨b4, 0, none⟩)), (3, .pointer (some ⟨b3, 0, none⟩))])
    (fun x => ⟨b7, 192, stC (setPar s q) (setP (setM U (ovs om s.members.length)) x.2.2) ++ [.int .i64 s.par.wait, .slice none 0 0], 43⟩ :: oent 94 6 om ((clN q (s.members, s.purses) x.1).1.flatMap memC) (oent 3 1 ox (s.exit.map (.int .i64)) (⟨b4, 34, stC zeroS nilV, 41⟩ :: ⟨b3, 24, parC q, 24⟩ :: L)))
    (fun x => x.2.1) (fun x => s.members.length - x.1) ?_ ?_ ?_ ?_
  · exact ⟨Nat.zero_le _, PH.le_refl _, hS0.p, h_b7, a4, a3, am1, ax1⟩
  · simp [Ent, List.lookup, xEnv]
  · subst hU; exact drop_bench
  rintro ⟨k, hp, wp⟩ ⟨k1, lep, ip, hp7, hp4, hp3, hpm, hpx⟩
  simp only at k1 lep ip hp7 hp4 hp3 hpm hpx ⊢
  have hcl := clN_len q (s.members, s.purses) k
  by_cases c1 : k < s.members.length
  · simp -dsimp -implicitDefEqProofs (disch := first | with_reducible assumption | omega) [go_sem]
    refine Spec.apn (clampO_any (s := setPar s q) (setP (setM U (ovs om s.members.length)) wp) hq okq (clN q (s.members, s.purses) k).1 (clN q (s.members, s.purses) k).2 (clN_ok okq be k k1) b7 om (.int .i64 s.par.wait) (.slice none 0 0) s.members.length hcl.1 okm (by omega) ip (by rw [hcl.2]; simp only; omega) k c1 fun h3 r3 le3 i3 ap nd => ?_)
    obtain ⟨p7, ap⟩ := ap
    obtain ⟨p4, p3, _⟩ := Ap.oent (Ap.oent ap)
    simp -dsimp -implicitDefEqProofs (disch := first | with_reducible assumption | omega) [go_sem]
    exact ⟨k + 1, h3, r3, ⟨by omega, lep.trans le3, i3, p7, p4, p3, ap_here ap, ap_here (Ap.oent ap)⟩, by omega, by simp [Ent, List.lookup], Drop.refl _ _⟩
  have hkl : k = s.members.length := by omega
  subst hkl
  have eX : clN q (s.members, s.purses) s.members.length = adX s q := rfl
  rw [eX] at ip ⊢
  have hX : BeOk (adX s q).1 (adX s q).2 := clN_ok okq be s.members.length (Nat.le_refl _)
  have hXl : (adX s q).1.length = s.members.length := (clN_len q (s.members, s.purses) s.members.length).1
  have hXp : (adX s q).2.length = s.purses.length := (clN_len q (s.members, s.purses) s.members.length).2
  obtain ⟨X, eX'⟩ : ∃ X, X = adX s q := ⟨_, rfl⟩
  have eR : adS0 s q = { s with par := q, members := upN (setF q) X.1 s.members.length, purses := X.2 } := by rw [eX']; rfl
  rw [eR] at hk
  rw [← eX'] at hno ip hX hXl hXp ⊢
  clear eX eX' eR
  obtain ⟨wpa, wpc, rfl, _⟩ := ip.open
  simp only [List.cons_append, List.nil_append]
  rw [emm]
  simp -dsimp -implicitDefEqProofs (disch := first | with_reducible assumption | omega) [go_sem]
  rw [← emm]
  rw [hXp]
  refine xloop (γ := Nat) 0 (fun k => k ≤ s.members.length)
    (fun k => [(53, .int .i64 k), (52, .int .i64 s.members.length), (7, .pointer (some ⟨b7, 0, none⟩)), (4, .pointer (some ⟨b4, 0, none⟩)), (3, .pointer (some ⟨b3, 0, none⟩))])
    (fun _ => ⟨b7, 192, stC (setPar s q) (setP (setM U (ovs om s.members.length)) (.slice wpa s.purses.length wpc)) ++ [.int .i64 s.par.wait, .slice none 0 0], 43⟩ :: oent 94 6 om (X.1.flatMap memC) (oent 3 1 ox (s.exit.map (.int .i64)) (⟨b4, 34, stC zeroS nilV, 41⟩ :: ⟨b3, 24, parC q, 24⟩ :: L)))
    (fun _ => hp) (fun k => s.members.length - k) ?_ ?_ ?_ ?_
  · exact Nat.zero_le _
  · simp [Ent, List.lookup]
  · exact Drop.refl _ _
  rintro k k1
  by_cases c1 : k < s.members.length
  · obtain ⟨bm, cap, rfl⟩ : ∃ bm cap, om = some (bm, cap) := by
      cases om with
      | none => have : s.members.length = 0 := okm; omega
      | some p => exact ⟨_, _, rfl⟩
    have hbm : hp bm = noC := hpm.2
    have nb7 : bm ≠ b7 := m7
    have nb4 : bm ≠ b4 := m4
    have nb3 : bm ≠ b3 := m3
    obtain ⟨m, hm⟩ : ∃ m, m = gr zeroM X.1 k := ⟨_, rfl⟩
    have hn1 := hno k c1
    rw [← hm] at hn1
    have g0 : ∀ (K : Value → Prop) (t : Tok K), xNth (X.1.flatMap memC) (k * 6) K t = K (.int .u64 m.bal) := fun K t => xNth_rec memC_len zeroM _ (m := 0) (by omega) (by decide) (by rw [← hm]; rfl) K t
    have g1 : ∀ (K : Value → Prop) (t : Tok K), xNth (X.1.flatMap memC) (k * 6 + 1) K t = K (.int .u64 m.eff) := fun K t => xNth_rec memC_len zeroM _ (m := 1) (by omega) (by decide) (by rw [← hm]; rfl) K t
    have g2 : ∀ (K : Value → Prop) (t : Tok K), xNth (X.1.flatMap memC) (k * 6 + 2) K t = K (.int .u64 m.score) := fun K t => xNth_rec memC_len zeroM _ (m := 2) (by omega) (by decide) (by rw [← hm]; rfl) K t
    have g3 : ∀ (K : Value → Prop) (t : Tok K), xNth (X.1.flatMap memC) (k * 6 + 3) K t = K (.int .i64 m.streak) := fun K t => xNth_rec memC_len zeroM _ (m := 3) (by omega) (by decide) (by rw [← hm]; rfl) K t
    have g4 : ∀ (K : Value → Prop) (t : Tok K), xNth (X.1.flatMap memC) (k * 6 + 4) K t = K (.int .i64 m.owner) := fun K t => xNth_rec memC_len zeroM _ (m := 4) (by omega) (by decide) (by rw [← hm]; rfl) K t
    have g5 : ∀ (K : Value → Prop) (t : Tok K), xNth (X.1.flatMap memC) (k * 6 + 5) K t = K (.int .i64 m.status) := fun K t => xNth_rec memC_len zeroM _ (m := 5) (by omega) (by decide) (by rw [← hm]; rfl) K t
    simp only [List.cons_append, List.nil_append, ovs_some, oent_some]
    simp -dsimp -implicitDefEqProofs (disch := first | with_reducible assumption | omega) [go_sem, g0, g1, g2, g3, g4, g5]
    refine xnew fun b10 n_b10 h_b10 => ?_
    try simp only [Apart] at n_b10
    have n10 := apart_oent n_b10.2.2
    simp only [Apart] at n10
    simp -dsimp -implicitDefEqProofs (disch := first | with_reducible assumption | omega) [go_sem, g0, g1, g2, g3, g4, g5]
    refine counts_any m ?_
    by_cases e : m.status = 2 ∨ m.status = 3
    · have e2 : ¬ m.bal ≤ q.floor := fun x => hn1 ⟨e, x⟩
      rw [decide_eq_true e]
      simp -dsimp -implicitDefEqProofs (disch := first | with_reducible assumption | omega) [go_sem, xFind_oent x3, xSet_oent x3]
      exact ⟨k + 1, by omega, by omega, by simp [Ent, List.lookup], Drop.tail _ _ _⟩
    · rw [decide_eq_false e]
      simp -dsimp -implicitDefEqProofs (disch := first | with_reducible assumption | omega) [go_sem, xFind_oent x3, xSet_oent x3]
      exact ⟨k + 1, by omega, by omega, by simp [Ent, List.lookup], Drop.tail _ _ _⟩
  have hkl : k = s.members.length := by omega
  subst hkl
  simp only [List.cons_append, List.nil_append]
  rw [emm]
  simp -dsimp -implicitDefEqProofs (disch := first | with_reducible assumption | omega) [go_sem]
  rw [← emm]
  refine xloop (γ := Nat) 0 (fun k => k ≤ s.members.length)
    (fun k => [(84, .int .i64 k), (83, .int .i64 s.members.length), (7, .pointer (some ⟨b7, 0, none⟩)), (4, .pointer (some ⟨b4, 0, none⟩)), (3, .pointer (some ⟨b3, 0, none⟩))])
    (fun k => ⟨b7, 192, stC (setPar s q) (setP (setM U (ovs om s.members.length)) (.slice wpa s.purses.length wpc)) ++ [.int .i64 s.par.wait, .slice none 0 0], 43⟩ :: oent 94 6 om ((upN (setF q) X.1 k).flatMap memC) (oent 3 1 ox (s.exit.map (.int .i64)) (⟨b4, 34, stC zeroS nilV, 41⟩ :: ⟨b3, 24, parC q, 24⟩ :: L)))
    (fun _ => hp) (fun k => s.members.length - k) ?_ ?_ ?_ ?_
  · exact Nat.zero_le _
  · simp [Ent, List.lookup]
  · exact Drop.refl _ _
  rintro k k1
  have hYl := upN_len (setF q) X.1 k
  by_cases c1 : k < s.members.length
  · obtain ⟨bm, cap, rfl⟩ : ∃ bm cap, om = some (bm, cap) := by
      cases om with
      | none => have : s.members.length = 0 := okm; omega
      | some p => exact ⟨_, _, rfl⟩
    have hbm : hp bm = noC := hpm.2
    have nb7 : bm ≠ b7 := m7
    have nb4 : bm ≠ b4 := m4
    have nb3 : bm ≠ b3 := m3
    have hat := upN_at (setF q) X.1 (k := k) (by omega)
    obtain ⟨m, hm⟩ : ∃ m, m = gr zeroM (upN (setF q) X.1 k) k := ⟨_, rfl⟩
    have hYo := upN_ok MemOk (f := setF q) (l := X.1) (fun x hx => setF_ok okq hq hx) hX.m k (by omega)
    have g0 : ∀ (K : Value → Prop) (t : Tok K), xNth ((upN (setF q) X.1 k).flatMap memC) (k * 6) K t = K (.int .u64 m.bal) := fun K t => xNth_rec memC_len zeroM _ (m := 0) (by omega) (by decide) (by rw [← hm]; rfl) K t
    have g1 : ∀ (K : Value → Prop) (t : Tok K), xNth ((upN (setF q) X.1 k).flatMap memC) (k * 6 + 1) K t = K (.int .u64 m.eff) := fun K t => xNth_rec memC_len zeroM _ (m := 1) (by omega) (by decide) (by rw [← hm]; rfl) K t
    have g2 : ∀ (K : Value → Prop) (t : Tok K), xNth ((upN (setF q) X.1 k).flatMap memC) (k * 6 + 2) K t = K (.int .u64 m.score) := fun K t => xNth_rec memC_len zeroM _ (m := 2) (by omega) (by decide) (by rw [← hm]; rfl) K t
    have g3 : ∀ (K : Value → Prop) (t : Tok K), xNth ((upN (setF q) X.1 k).flatMap memC) (k * 6 + 3) K t = K (.int .i64 m.streak) := fun K t => xNth_rec memC_len zeroM _ (m := 3) (by omega) (by decide) (by rw [← hm]; rfl) K t
    have g4 : ∀ (K : Value → Prop) (t : Tok K), xNth ((upN (setF q) X.1 k).flatMap memC) (k * 6 + 4) K t = K (.int .i64 m.owner) := fun K t => xNth_rec memC_len zeroM _ (m := 4) (by omega) (by decide) (by rw [← hm]; rfl) K t
    have g5 : ∀ (K : Value → Prop) (t : Tok K), xNth ((upN (setF q) X.1 k).flatMap memC) (k * 6 + 5) K t = K (.int .i64 m.status) := fun K t => xNth_rec memC_len zeroM _ (m := 5) (by omega) (by decide) (by rw [← hm]; rfl) K t
    simp only [List.cons_append, List.nil_append, ovs_some, oent_some]
    simp -dsimp -implicitDefEqProofs (disch := first | with_reducible assumption | omega) [go_sem, g0, g1, g2, g3, g4, g5]
    refine counts_any m ?_
    by_cases e : m.status = 2 ∨ m.status = 3
    · rw [decide_eq_true e]
      simp -dsimp -implicitDefEqProofs (disch := first | with_reducible assumption | omega) [go_sem]
      refine settleO_any (s := setPar s q) (o := some (bm, cap)) (setP (setM U (ovs (some (bm, cap)) s.members.length)) (.slice wpa s.purses.length wpc)) hq okq (upN (setF q) X.1 k) hYo b7 (.int .i64 s.par.wait) (.slice none 0 0) s.members.length (by omega) okm (by omega) k c1 ?_
      have es : (upN (setF q) X.1 k).set k (settleM q (gr zeroM (upN (setF q) X.1 k) k)) = upN (setF q) X.1 (k + 1) := by
        rw [upN, hat, setF, if_pos (show cntM (gr zeroM X.1 k) by rw [← hat, ← hm]; exact e)]
      rw [es]
      simp -dsimp -implicitDefEqProofs (disch := first | with_reducible assumption | omega) [go_sem]
      exact ⟨k + 1, by omega, by omega, by simp [Ent, List.lookup], Drop.refl _ _⟩
    · rw [decide_eq_false e]
      have es : upN (setF q) X.1 (k + 1) = upN (setF q) X.1 k := upN_same _ _ (by omega) (by rw [setF, if_neg (show ¬ cntM (gr zeroM X.1 k) by rw [← hat, ← hm]; exact e)])
      simp -dsimp -implicitDefEqProofs (disch := first | with_reducible assumption | omega) [go_sem]
      exact ⟨k + 1, by omega, by omega, by simp [Ent, List.lookup], by rw [es]; exact Drop.refl _ _⟩
  have hkl : k = s.members.length := by omega
  subst hkl
  simp only [List.cons_append, List.nil_append]
  subst hU
  simp -dsimp -implicitDefEqProofs (disch := first | with_reducible assumption | omega) [go_sem]
  refine xanyl (.tk 0 (.tk 1 (.tk 2 (.tk 4 (.tk 5 (.tk 6 (.tkl 3 (.or true 7 (.or false 8 (.tk 9 (.tk 10 (.fin))) (.nil)) (.or false 8 (.or true 7 (.tk 9 (.tk 10 (.fin))) (.nil)) (.nil)))))))))) (by kernel_rfl) (by kernel_rfl) [_] (Drop.mem List.mem_cons_self) ?_
  repeat' first
    | refine xpl_or ?_ ?_
    | simp -dsimp -implicitDefEqProofs (disch := first | with_reducible assumption | omega) [go_sem, xFind_oent x4, xSet_oent x4, xFind_oent m4, xSet_oent m4]
    | refine xkp (Drop.mem List.mem_cons_self) ?_
  all_goals
    rw [hXp] at ip
    have le2 := pub_le_o hpm ((upN (setF q) X.1 s.members.length).flatMap memC)
    have hpx2 : apO ox [] (pubO hp om ((upN (setF q) X.1 s.members.length).flatMap memC)) := apO_pub nd0 hpx
    have le3 := pub_le_o hpx2 (s.exit.map (.int .i64))
    have slm := pub_sl (h := hp) (sz := 6) (n := s.members.length) (o := om) (xs := (upN (setF q) X.1 s.members.length).flatMap memC) okm (by rw [flatG_len memC_len, hYl, hXl]) (by omega)
    have slx := pub_sl (h := pubO hp om ((upN (setF q) X.1 s.members.length).flatMap memC)) (sz := 1) (n := s.exit.length) (o := ox) (xs := s.exit.map (.int .i64)) okx (by simp) (by have := own.x; omega)
    have rm : Recs memC 6 (pubO (pubO hp om ((upN (setF q) X.1 s.members.length).flatMap memC)) ox (s.exit.map (.int .i64))) (ovs om s.members.length) (upN (setF q) X.1 s.members.length) := by
      have := Recs.pub (f := memC) (w := 6) (l := upN (setF q) X.1 s.members.length) (o := om) memC_len (by rw [hYl, hXl]; exact slm.up le3)
      rwa [hYl, hXl] at this
    have le4 := lep.trans (le2.trans le3)
    obtain ⟨qt, t1, t2, t3⟩ := hS0.t
    obtain ⟨qr, r1, r2⟩ := hS0.r
    exact fin_tail ⟨L, _, (pub_drop_o om _ _ hp (by decide)).trans ((pub_drop_o ox _ _ _ (by decide)).trans ((Drop.tail _ _ _).trans (Drop.tail _ _ _))),
      hk _ ⟨.slice wpa s.purses.length wpc, ovs om s.members.length, .slice ea1 s.entry.length ec1, ovs ox s.exit.length, .slice oa1 s.pool.length oc1, .slice da1 s.dues.length dc1, .slice ta1 s.motions.length tc1, .slice ka1 s.marks.length kc1, .slice ra1 s.ring.length rc1⟩ (le1.trans le4)
        { ok := ⟨okq, hs.ok.u, hs.ok.n⟩, p := ip.up (le2.trans le3), m := rm, mo := upN_ok MemOk (f := setF q) (l := X.1) (fun x hx => setF_ok okq hq hx) hX.m s.members.length (by omega), e := hS0.e.up le4, x := ⟨slx, hs.x.2⟩, o := hS0.o.up le4, oo := hs.oo, d := hS0.d.up le4, dd := hs.dd, t := ⟨qt, t1.up le4, t2, fun x hx => (t3 x hx).up le4⟩, k := hS0.k.up le4, r := ⟨qr, r1.up le4, r2⟩ }⟩
end Go.X

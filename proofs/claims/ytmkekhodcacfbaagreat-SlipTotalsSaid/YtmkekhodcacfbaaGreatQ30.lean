/- Lemmas and contracts for a statement about the given program. Conditions: as each says. -/
import Derived.Test.YtmkekhodcacfbaaGreatQ29
set_option linter.unusedVariables false
set_option linter.unusedSimpArgs false
set_option maxHeartbeats 12800000
set_option maxRecDepth 20000
namespace Go.X
open Go.RowKit Go.Proofs Go.Bl
variable {L : Own} {h : PH} {K : PK}
theorem fineS_b {s : StD} (H : SlH s) {i : Nat} (hi : i < s.members.length) : 0 ≤ fineS s i ∧ fineS s i ≤ (nowM s i).bal ∧ (nowM s i).bal ≤ 18446744073709551615 ∧ 0 ≤ burnP s.par (fineS s i) ∧ burnP s.par (fineS s i) ≤ fineS s i := by
 have hno := now_ok H hi
 have f := fine_b H.ok H.r hno (modeS s)
 have ub := hno.u (nowM s i).bal (by simp)
 have hs := parR_streak H.r
 have := burn_le (p := s.par) (n := fineS s i) ⟨f.1, by have := f.2; unfold fineS; omega⟩ (by omega)
 exact ⟨f.1, f.2, ub.2, this.1, this.2.1⟩
theorem sfines_pos {s : StD} (v : SV) (hs0 : IsSt h v s) (H : SlH s) (bh bs cs bn cn : Nat) (hcs : (cI s).length ≤ cs) (hcn : (cI s).length ≤ cn)
  (hk : K (.tuple #[]) (shB bh s v (modeS s) (actS s) (.slice (some ⟨bs, 0, none⟩) (cI s).length cs) (.slice (some ⟨bn, 0, none⟩) (cI s).length cn) :: slB bs cs ((cI s).map (slip1 s)) :: nwB bn cn ((cI s).map (endM' s)) :: L) h) :
  Spec Tryz.prog 33 [.pointer (some ⟨bh, 0, none⟩)] (shB bh s v (modeS s) (actS s) (.slice (some ⟨bs, 0, none⟩) (cI s).length cs) (.slice (some ⟨bn, 0, none⟩) (cI s).length cn) :: slB bs cs ((cI s).map (slipP s)) :: nwB bn cn ((cI s).map (nowP s)) :: L) h K := by
 have hs := hs0
 obtain ⟨pa, pc, ma, mc, ea, ec, xa, xc, oa, oc, da, dc, ta, tc, ka, kc, ra, rc, rfl⟩ := hs.slices
 have hl := H.len
 have hcl : (cI s).length ≤ s.members.length := cP_len _ _
 obtain ⟨n, hn⟩ : ∃ n, n = (cI s).length := ⟨_, rfl⟩
 simp only [shB, stC, slB, nwB, List.cons_append, List.nil_append, ← hn] at hk hcs hcn ⊢
 refine x_enterA Tryz.func33 rfl (rs := []) rfl rfl mixed (by kernel_rfl) rfl rfl fun ap nd => ?_
 have hbh : h bh = noC := ap.1
 have hbs : h bs = noC := ap.2.1
 have hbn : h bn = noC := ap.2.2.1
 have nsh : bs ≠ bh := nd.1.1
 have nnh : bn ≠ bh := nd.1.2.1
 have nns : bn ≠ bs := nd.2.1.1
 clear ap nd
 simp -dsimp -implicitDefEqProofs (disch := first|with_reducible assumption|omega) [go_sem]
 refine xloop (γ := Nat) 0 (fun k => k ≤ n) (fun k => [(12, .int .i64 k), (11, .int .i64 n), (0, .pointer (some ⟨bh, 0, none⟩))])
  (fun k => shB bh s ⟨.slice pa s.purses.length pc, .slice ma s.members.length mc, .slice ea s.entry.length ec, .slice xa s.exit.length xc, .slice oa s.pool.length oc, .slice da s.dues.length dc, .slice ta s.motions.length tc, .slice ka s.marks.length kc, .slice ra s.ring.length rc⟩ (modeS s) (actS s) (.slice (some ⟨bs, 0, none⟩) n cs) (.slice (some ⟨bn, 0, none⟩) n cn) :: slB bs cs (mixL (slip1 s) (slipP s) (cI s) k) :: nwB bn cn (mixL (endM' s) (nowP s) (cI s) k) :: L) (fun _ => h) (fun k => n - k) ?_ ?_ ?_ ?_
 ·exact Nat.zero_le _
 ·simp [Ent, List.lookup, xEnv]
 ·rw [mixL_0, mixL_0]
  exact Drop.refl _ _
 intro k i1
 simp only [shB, stC, slB, nwB, List.cons_append, List.nil_append] at i1 ⊢
 by_cases c1 : k < n
 ·have c1' : k < (cI s).length := by omega
  obtain ⟨i, hi⟩ : ∃ i, i = (cI s)[k] := ⟨_, rfl⟩
  have hil : i < s.members.length := by rw [hi]; exact cI_lt c1'
  have gs : gr zeroSl (mixL (slip1 s) (slipP s) (cI s) k) k = slipP s i := by rw [mixL_at zeroSl c1', hi]
  have gn : gr zeroM (mixL (endM' s) (nowP s) (cI s) k) k = nowP s i := by rw [mixL_at zeroM c1', hi]
  have kl1 : k < (mixL (slip1 s) (slipP s) (cI s) k).length := by rw [mixL_len]; exact c1'
  have kl2 : k < (mixL (endM' s) (nowP s) (cI s) k).length := by rw [mixL_len]; exact c1'
  have hst1 := mixL_set (f := slip1 s) (g := slipP s) c1'
  have hst2 := mixL_set (f := endM' s) (g := nowP s) c1'
  have hsm1 := mixL_same (f := slip1 s) (g := slipP s) c1'
  have hsm2 := mixL_same (f := endM' s) (g := nowP s) c1'
  have ml1 : (mixL (slip1 s) (slipP s) (cI s) k).length = n := by rw [mixL_len, hn]
  have ml2 : (mixL (endM' s) (nowP s) (cI s) k).length = n := by rw [mixL_len, hn]
  rw [← hi] at hst1 hst2 hsm1 hsm2
  have hno := now_ok H hil
  have hfb := fineS_b H hil
  generalize mixL (slip1 s) (slipP s) (cI s) k = M1 at *
  generalize mixL (endM' s) (nowP s) (cI s) k = M2 at *
  have g1 : ∀ (K : Value → Prop) (t : Tok K), xNth (M1.flatMap slC) (k * 8 + 1) K t = K (.bool (thB s i)) := fun K t => xNth_rec slC_len zeroSl _ (m := 1) kl1 (by decide) (by rw [gs]; unfold slipP; split <;> rfl) K t
  simp -dsimp -implicitDefEqProofs (disch := first|with_reducible assumption|omega) [go_sem, g1]
  cases ct : thB s i with
  | true =>
   simp -dsimp -implicitDefEqProofs (disch := first|with_reducible assumption|omega) [go_sem]
   refine ⟨k + 1, by omega, by omega, by simp [Ent, List.lookup], ?_⟩
   rw [hsm1 (by simp [slip1, slipP, slip0, ct]), hsm2 (by simp [endM', nowP, ct])]
   exact Drop.refl _ _
  | false =>
   have en : nowP s i = nowM s i := by rw [nowP, if_neg (by rw [ct]; decide)]
   have es : slipP s i = slip0 s i := by rw [slipP, if_neg (by rw [ct]; decide)]
   rw [en] at gn
   rw [es] at gs
   have w0 : ∀ (K : Value → Prop) (t : Tok K), xNth (M2.flatMap sdC) (k * 4) K t = K (.int .u64 (nowM s i).bal) := fun K t => xNth_rec sdC_len zeroM _ (m := 0) kl2 (by decide) (by rw [gn]; rfl) K t
   have w1 : ∀ (K : Value → Prop) (t : Tok K), xNth (M2.flatMap sdC) (k * 4 + 1) K t = K (.int .u64 (nowM s i).eff) := fun K t => xNth_rec sdC_len zeroM _ (m := 1) kl2 (by decide) (by rw [gn]; rfl) K t
   have w2 : ∀ (K : Value → Prop) (t : Tok K), xNth (M2.flatMap sdC) (k * 4 + 2) K t = K (.int .u64 (nowM s i).score) := fun K t => xNth_rec sdC_len zeroM _ (m := 2) kl2 (by decide) (by rw [gn]; rfl) K t
   have w3 : ∀ (K : Value → Prop) (t : Tok K), xNth (M2.flatMap sdC) (k * 4 + 3) K t = K (.int .i64 (nowM s i).streak) := fun K t => xNth_rec sdC_len zeroM _ (m := 3) kl2 (by decide) (by rw [gn]; rfl) K t
   simp -dsimp -implicitDefEqProofs (disch := first|with_reducible assumption|omega) [go_sem]
   refine xanyl (.tk 0 (.tk 1 (.tk 2 (.tk 3 (.tk 5 (.tk 6 (.tk 7 (.tk 9 (.tk 12 (.tk 13 (.tk 14 (.tkl 4 (.tkl 8 (.tk 10 (.tkl 11 (.tkl 15 (.or true 16 (.tk 17 (.tk 18 (.tk 19 (.tk 20 (.or true 21 (.or false 22 (.tk 23 (.tk 24 (.fin))) (.nil)) (.nil)))))) (.or true 21 (.or true 16 (.tk 17 (.tk 18 (.tk 19 (.tk 20 (.or false 22 (.tk 23 (.tk 24 (.fin))) (.nil)))))) (.nil)) (.nil))))))))))))))))))) (by kernel_rfl) (by kernel_rfl) _ (Drop.refl _ _) ?_
   have esum : burnP s.par (fineS s i) + (fineS s i - burnP s.par (fineS s i)) = fineS s i := by omega
   obtain ⟨a1, ha1⟩ : ∃ a1 : SlD, a1 = { slip0 s i with fine := fineS s i } := ⟨_, rfl⟩
   have ha2 : slip1 s i = { slip0 s i with fine := fineS s i, burned := burnP s.par (fineS s i) } := by rw [slip1, if_neg (by rw [ct]; decide)]; simp only [slip0, ct]
   have hem : endM' s i = fineM s.par (nowM s i) (modeS s) := by rw [endM', if_neg (by rw [ct]; decide)]; rfl
   have hset0 : (M1.flatMap slC).set (k * 8 + 4) (.int .u64 (fineS s i)) = (M1.set k a1).flatMap slC := flatG_set slC_len zeroSl M1 (m := 4) kl1 (by decide) (by rw [gs, ha1]; rfl)
   have kl1' : k < (M1.set k a1).length := by rw [List.length_set]; exact kl1
   have gs' : gr zeroSl (M1.set k a1) k = a1 := by rw [gr_lt kl1', List.getElem_set_self]
   have hset1 : ((M1.set k a1).flatMap slC).set (k * 8 + 5) (.int .u64 (burnP s.par (fineS s i))) = (M1.set k (slip1 s i)).flatMap slC := by
    rw [flatG_set slC_len zeroSl (M1.set k a1) (m := 5) kl1' (by decide) (a' := slip1 s i) (by rw [gs', ha1, ha2]; rfl), List.set_set]
   have hk8 := flat_lt (w := 8) c1 (show 5 < 8 by decide)
   have hk4 := flat_lt (w := 4) c1 (show 3 < 4 by decide)
   have hsum1 : (M1.map fun a => (slC a).length).sum = n * 8 := by rw [← List.length_flatMap, flatG_len slC_len, ml1]
   have hsum2 : (M2.map fun a => (sdC a).length).sum = n * 4 := by rw [← List.length_flatMap, flatG_len sdC_len, ml2]
   simp -dsimp -implicitDefEqProofs (disch := first|with_reducible assumption|omega) [go_sem, w0, w1, w2, w3]
   refine xpl_or ?_ ?_
   ·simp -dsimp -implicitDefEqProofs (disch := first|with_reducible assumption|omega) [go_sem]
    refine ftake_any s.par H.ok H.r (nowM s i) hno (modeS s) ?_
    rw [show fineP s.par (nowM s i) (modeS s) = fineS s i from rfl]
    refine xkp (Drop.refl _ _) ?_
    simp -dsimp -implicitDefEqProofs (disch := first|with_reducible assumption|omega) [go_sem]
    refine xnew fun b4 n_b4 h_b4 => ?_
    try simp only [Apart] at n_b4
    have nb4 : bh ≠ b4 ∧ bs ≠ b4 ∧ bn ≠ b4 := ⟨n_b4.1, n_b4.2.1, n_b4.2.2.1⟩
    clear n_b4
    refine xkp (Drop.tail _ _ _) ?_
    simp -dsimp -implicitDefEqProofs (disch := first|with_reducible assumption|omega) [go_sem]
    refine xanyl (.tk 0 (.tk 1 (.tk 2 (.tk 4 (.tk 5 (.tk 6 (.tk 8 (.tk 9 (.tk 10 (.tk 11 (.tkl 3 (.tkl 7 (.tk 12 (.or false 13 (.tk 14 (.tk 15 (.or false 16 (.tk 17 (.tk 18 (.or false 19 (.fin) (.nil)))) (.nil)))) (.nil))))))))))))))) (by kernel_rfl) (by kernel_rfl) _ (Drop.refl _ _) ?_
    simp -dsimp -implicitDefEqProofs (disch := first|with_reducible assumption|omega) [go_sem, esum]
    refine ⟨by omega, by omega, by omega, ?_⟩
    refine ⟨k + 1, by omega, by omega, by simp [Ent, List.lookup], ?_⟩
    rw [hset0, hset1, sdset4 kl2 (fineM s.par (nowM s i) (modeS s)), ← hem, hst1, hst2]
    exact Drop.tail _ _ _
   ·simp -dsimp -implicitDefEqProofs (disch := first|with_reducible assumption|omega) [go_sem]
    refine xnew fun b4 n_b4 h_b4 => ?_
    try simp only [Apart] at n_b4
    have nb4 : bh ≠ b4 ∧ bs ≠ b4 ∧ bn ≠ b4 := ⟨n_b4.1, n_b4.2.1, n_b4.2.2.1⟩
    clear n_b4
    refine xkp (Drop.tail _ _ _) ?_
    simp -dsimp -implicitDefEqProofs (disch := first|with_reducible assumption|omega) [go_sem]
    refine ftake_any s.par H.ok H.r (nowM s i) hno (modeS s) ?_
    rw [show fineP s.par (nowM s i) (modeS s) = fineS s i from rfl]
    refine xkp (Drop.tail _ _ _) ?_
    simp -dsimp -implicitDefEqProofs (disch := first|with_reducible assumption|omega) [go_sem]
    refine xanyl (.tk 0 (.tk 1 (.tk 2 (.tk 4 (.tk 5 (.tk 6 (.tk 8 (.tk 9 (.tk 10 (.tk 11 (.tkl 3 (.tkl 7 (.tk 12 (.or false 13 (.tk 14 (.tk 15 (.or false 16 (.tk 17 (.tk 18 (.or false 19 (.fin) (.nil)))) (.nil)))) (.nil))))))))))))))) (by kernel_rfl) (by kernel_rfl) _ (Drop.refl _ _) ?_
    simp -dsimp -implicitDefEqProofs (disch := first|with_reducible assumption|omega) [go_sem, esum]
    refine ⟨by omega, by omega, by omega, ?_⟩
    refine ⟨k + 1, by omega, by omega, by simp [Ent, List.lookup], ?_⟩
    rw [hset0, hset1, sdset4 kl2 (fineM s.par (nowM s i) (modeS s)), ← hem, hst1, hst2]
    exact Drop.tail _ _ _
 ·obtain rfl : n = k := by omega
  rw [hn] at hk ⊢
  rw [mixL_all, mixL_all]
  simp -dsimp -implicitDefEqProofs (disch := first|with_reducible assumption|omega) [go_sem]
  exact fin_here hk
def slipO (s : StD) (i : Nat) : SlD := { slip1 s i with ends := if outB s i then 4 else 0 }
def exK (s : StD) (k : Nat) : List Int := exF s s.exit ((cI s).take k)
theorem exK_succ {s : StD} {k : Nat} (hk : k < (cI s).length) : exK s (k + 1) = if outB s (cI s)[k] then flt (exK s k) (cI s)[k] else exK s k := by
 unfold exK exF
 rw [List.take_succ_eq_append_getElem hk, List.foldl_append]
 rfl
theorem exK_sub (s : StD) : ∀ k, (exK s k).Sublist s.exit
 | 0 => by simp [exK, exF]
 | k + 1 => by
  by_cases hk : k < (cI s).length
  ·rw [exK_succ hk]
   split
   ·exact List.filter_sublist.trans (exK_sub s k)
   ·exact exK_sub s k
  ·have e : (cI s).take (k + 1) = (cI s).take k := by rw [List.take_of_length_le (by omega), List.take_of_length_le (by omega)]
   unfold exK
   rw [e]
   exact exK_sub s k
theorem exK_all (s : StD) : exK s (cI s).length = exF s s.exit (cI s) := by unfold exK; rw [List.take_length]
theorem nd_oentM {e sz : Nat} {o : Option (Nat × Nat)} {xs : List Value} {L : Own} (nd : Nd (oent e sz o xs L)) : ∀ x ∈ L, apB o x.b := by
 cases o with
 | none => exact fun _ _ => trivial
 | some p => exact fun x hx => Ne.symm (of_apart nd.1 x hx)
theorem okO_leM {o : Option (Nat × Nat)} {n m : Nat} (ho : okO o n) (hm : m ≤ n) : okO o m := by
 cases o with
 | none => have : n = 0 := ho; show m = 0; omega
 | some p => exact ⟨Nat.le_trans hm ho.1, ho.2⟩
theorem slip1_f (s : StD) (i : Nat) : (slip1 s i).mem = i ∧ (slip1 s i).there = thB s i ∧ (slip1 s i).ends = 0 ∧ (slip1 s i).paid = 0 := by
 unfold slip1
 split
 ·rename_i c; exact ⟨rfl, c.symm, rfl, rfl⟩
 ·rename_i c; exact ⟨rfl, by simpa using c, rfl, rfl⟩
theorem sends_pos {s : StD} (v : SV) (hs0 : IsSt h v s) (H : SlH s) (bh bs cs bn cn : Nat) (hcs : (cI s).length ≤ cs) (hcn : (cI s).length ≤ cn)
  (hk : ∀ h', PH.le h h' → K (.tuple #[]) (shB bh s v (modeS s) (actS s) (.slice (some ⟨bs, 0, none⟩) (cI s).length cs) (.slice (some ⟨bn, 0, none⟩) (cI s).length cn) :: slB bs cs ((cI s).map (slip2 s)) :: nwB bn cn ((cI s).map (endM' s)) :: L) h') :
  Spec Tryz.prog 34 [.pointer (some ⟨bh, 0, none⟩)] (shB bh s v (modeS s) (actS s) (.slice (some ⟨bs, 0, none⟩) (cI s).length cs) (.slice (some ⟨bn, 0, none⟩) (cI s).length cn) :: slB bs cs ((cI s).map (slip1 s)) :: nwB bn cn ((cI s).map (endM' s)) :: L) h K := by
 have hs := hs0
 obtain ⟨pa, pc, ma, mc, ea, ec, xa, xc, oa, oc, da, dc, ta, tc, ka, kc, ra, rc, rfl⟩ := hs.slices
 have hxv := hs0.x
 have hl := H.len
 have hxl := H.xl
 have hcl : (cI s).length ≤ s.members.length := cP_len _ _
 have hch := parR_streak H.r
 obtain ⟨n, hn⟩ : ∃ n, n = (cI s).length := ⟨_, rfl⟩
 simp only [shB, stC, slB, nwB, List.cons_append, List.nil_append, ← hn] at hk hcs hcn ⊢
 refine x_enterA Tryz.func34 rfl (rs := []) rfl rfl mixed (by kernel_rfl) rfl rfl fun ap nd => ?_
 have hbh : h bh = noC := ap.1
 have hbs : h bs = noC := ap.2.1
 have hbn : h bn = noC := ap.2.2.1
 have nsh : bs ≠ bh := nd.1.1
 have nnh : bn ≠ bh := nd.1.2.1
 have nns : bn ≠ bs := nd.2.1.1
 clear ap nd
 simp -dsimp -implicitDefEqProofs (disch := first|with_reducible assumption|omega) [go_sem]
 refine Spec.apn (lnew_any _ hxv (by omega) (fun z hz => (H.xb z hz).1) H.xn fun bl o _ _ ho ap nd => ?_)
 have hbl : h bl = noC := ap.1
 have nl := apart_oent nd.1
 simp only [Apart] at nl
 have nlh : bh ≠ bl := nl.1
 have nls : bs ≠ bl := nl.2.1
 have nln : bn ≠ bl := nl.2.2.1
 have no := nd_oentM nd.2
 have mh : apB o bh := no _ List.mem_cons_self
 have ms : apB o bs := no _ (List.mem_cons_of_mem _ List.mem_cons_self)
 have mn : apB o bn := no _ (List.mem_cons_of_mem _ (List.mem_cons_of_mem _ List.mem_cons_self))
 clear ap nd nl no
 simp -dsimp -implicitDefEqProofs (disch := first|with_reducible assumption|omega) [go_sem, xFind_oent mh, xFind_oent ms, xFind_oent mn]
 refine xloop (γ := Nat × PH) (0, h) (fun q => q.1 ≤ n ∧ okO o (exK s q.1).length ∧ PH.le h q.2 ∧ q.2 bl = noC ∧ q.2 bh = noC ∧ q.2 bs = noC ∧ q.2 bn = noC)
  (fun q => [(23, .int .i64 q.1), (22, .int .i64 n), (2, .pointer (some ⟨bl, 0, none⟩)), (0, .pointer (some ⟨bh, 0, none⟩))])
  (fun q => lnB bl o (exK s q.1).length :: lnL o (exK s q.1) (shB bh s ⟨.slice pa s.purses.length pc, .slice ma s.members.length mc, .slice ea s.entry.length ec, .slice xa s.exit.length xc, .slice oa s.pool.length oc, .slice da s.dues.length dc, .slice ta s.motions.length tc, .slice ka s.marks.length kc, .slice ra s.ring.length rc⟩ (modeS s) (actS s) (.slice (some ⟨bs, 0, none⟩) n cs) (.slice (some ⟨bn, 0, none⟩) n cn) :: slB bs cs (mixL (slipO s) (slip1 s) (cI s) q.1) :: nwB bn cn ((cI s).map (endM' s)) :: L)) (fun q => q.2) (fun q => n - q.1) ?_ ?_ ?_ ?_
 ·exact ⟨Nat.zero_le _, by simpa [exK, exF] using ho, PH.le_refl h, hbl, hbh, hbs, hbn⟩
 ·simp [Ent, List.lookup, xEnv]
 ·rw [mixL_0, show exK s 0 = s.exit by simp [exK, exF]]
  exact Drop.refl _ _
 rintro ⟨k, h1⟩ ⟨i1, i2, i3, i4, i5, i6, i7⟩
 simp only [shB, stC, slB, nwB, lnB, lnL, List.cons_append, List.nil_append] at i1 i2 i3 i4 i5 i6 i7 ⊢
 by_cases c1 : k < n
 ·have c1' : k < (cI s).length := by omega
  have hsub := exK_sub s k
  have hxs := exK_succ c1'
  obtain ⟨i, hi⟩ : ∃ i, i = (cI s)[k] := ⟨_, rfl⟩
  rw [← hi] at hxs
  have hil : i < s.members.length := by rw [hi]; exact cI_lt c1'
  have gs : gr zeroSl (mixL (slipO s) (slip1 s) (cI s) k) k = slip1 s i := by rw [mixL_at zeroSl c1', hi]
  have gn : gr zeroM ((cI s).map (endM' s)) k = endM' s i := by rw [gr_map zeroM _ c1', hi]
  have kl1 : k < (mixL (slipO s) (slip1 s) (cI s) k).length := by rw [mixL_len]; exact c1'
  have kl2 : k < ((cI s).map (endM' s)).length := by simpa using c1'
  have hst1 := mixL_set (f := slipO s) (g := slip1 s) c1'
  have hsm1 := mixL_same (f := slipO s) (g := slip1 s) c1'
  have ml1 : (mixL (slipO s) (slip1 s) (cI s) k).length = n := by rw [mixL_len, hn]
  rw [← hi] at hst1 hsm1
  have hf := slip1_f s i
  generalize mixL (slipO s) (slip1 s) (cI s) k = M1 at *
  have g0 : ∀ (K : Value → Prop) (t : Tok K), xNth (M1.flatMap slC) (k * 8) K t = K (.int .i64 i) := fun K t => xNth_rec slC_len zeroSl _ (m := 0) kl1 (by decide) (by rw [gs, ← hf.1]; rfl) K t
  have w0 : ∀ (K : Value → Prop) (t : Tok K), xNth (((cI s).map (endM' s)).flatMap sdC) (k * 4) K t = K (.int .u64 (endM' s i).bal) := fun K t => xNth_rec sdC_len zeroM _ (m := 0) kl2 (by decide) (by rw [gn]; rfl) K t
  simp -dsimp -implicitDefEqProofs (disch := first|with_reducible assumption|omega) [go_sem, xFind_oent mh, xFind_oent ms, xFind_oent mn]
  refine xanyl (.tk 0 (.tk 1 (.tk 2 (.tk 4 (.tk 8 (.tk 9 (.tk 10 (.tk 11 (.tk 12 (.tkl 3 (.tk 5 (.tk 6 (.tkl 7 (.tkl 13 (.tk 14 (.fin)))))))))))))))) (by kernel_rfl) (by kernel_rfl) _ (Drop.refl _ _) ?_
  simp -dsimp -implicitDefEqProofs (disch := first|with_reducible assumption|omega) [go_sem, xFind_oent mh, xFind_oent ms, xFind_oent mn, w0]
  by_cases c2 : (endM' s i).bal ≤ s.par.floor
  ·have co : outB s i = true := decide_eq_true c2
   rw [if_pos co] at hxs
   simp -dsimp -implicitDefEqProofs (disch := first|with_reducible assumption|omega) [go_sem, xFind_oent mh, xFind_oent ms, xFind_oent mn, g0]
   refine Spec.ap (ldrop_any o i2 (Nat.le_trans hsub.length_le (by omega)) i (by omega) (fun z hz => by have := H.xb z (hsub.mem hz); omega) (hsub.nodup H.xn) fun h2 b2 le2 ap => ?_)
   have hbl2 : h2 bl = noC := ap.1
   have ap2 := Ap.oent ap.2
   simp only [Ap] at ap2
   obtain ⟨hbh2, hbs2, hbn2, _⟩ := ap2
   clear ap
   rw [← hxs]
   simp -dsimp -implicitDefEqProofs (disch := first|with_reducible assumption|omega) [go_sem, xFind_oent mh, xFind_oent ms, xFind_oent mn, xSet_oent ms]
   have hset0 : (M1.flatMap slC).set (k * 8 + 6) (.int .i64 4) = (M1.set k (slipO s i)).flatMap slC := flatG_set slC_len zeroSl M1 (m := 6) kl1 (by decide) (by rw [gs, slipO, if_pos co]; rfl)
   have hsum1 : (M1.map fun a => (slC a).length).sum = n * 8 := by rw [← List.length_flatMap, flatG_len slC_len, ml1]
   have hk8 := flat_lt (w := 8) c1 (show 6 < 8 by decide)
   refine ⟨by omega, k + 1, h2, ⟨by omega, okO_leM i2 (by rw [hxs]; exact List.length_filter_le _ _), i3.trans le2, hbl2, hbh2, hbs2, hbn2⟩, by omega, by simp [Ent, List.lookup], ?_⟩
   rw [hset0, hst1]
   exact Drop.refl _ _
  ·have co : outB s i = false := decide_eq_false c2
   rw [co, if_neg (by decide)] at hxs
   simp -dsimp -implicitDefEqProofs (disch := first|with_reducible assumption|omega) [go_sem]
   refine ⟨k + 1, h1, ⟨by omega, by rw [hxs]; exact i2, i3, i4, i5, i6, i7⟩, by omega, by simp [Ent, List.lookup], ?_⟩
   rw [hsm1 (by unfold slipO; rw [co]; simp only [Bool.false_eq_true, if_false]; rw [← hf.2.2.1]), hxs]
   exact Drop.refl _ _
 obtain rfl : n = k := by omega
 clear c1 i1
 have hsub := exK_sub s n
 rw [show mixL (slipO s) (slip1 s) (cI s) n = (cI s).map (slipO s) by rw [hn, mixL_all]]
 simp -dsimp -implicitDefEqProofs (disch := first|with_reducible assumption|omega) [go_sem, xFind_oent mh, xFind_oent ms, xFind_oent mn]
 refine Spec.ap (lpop_any o i2 (Nat.le_trans hsub.length_le (by omega)) s.par.churn (by omega) (fun z hz => by have := H.xb z (hsub.mem hz); omega) fun h2 r2 le2 il ap => ?_)
 have ap2 := Ap.oent ap.2
 simp only [Ap] at ap2
 obtain ⟨hbh2, hbs2, hbn2, _⟩ := ap2
 clear ap
 have hexl : (exK s n).take s.par.churn.toNat = leftS s := by rw [leftS, hn, exK_all]
 rw [hexl] at il
 obtain ⟨la, lc, rfl, _⟩ := il.open
 simp -dsimp -implicitDefEqProofs (disch := first|with_reducible assumption|omega) [go_sem, xFind_oent mh, xFind_oent ms, xFind_oent mn]
 refine xloop (γ := Nat) 0 (fun k => k ≤ n) (fun k => [(70, .int .i64 k), (69, .int .i64 n), (6, .slice la (leftS s).length lc), (0, .pointer (some ⟨bh, 0, none⟩))])
  (fun k => shB bh s ⟨.slice pa s.purses.length pc, .slice ma s.members.length mc, .slice ea s.entry.length ec, .slice xa s.exit.length xc, .slice oa s.pool.length oc, .slice da s.dues.length dc, .slice ta s.motions.length tc, .slice ka s.marks.length kc, .slice ra s.ring.length rc⟩ (modeS s) (actS s) (.slice (some ⟨bs, 0, none⟩) n cs) (.slice (some ⟨bn, 0, none⟩) n cn) :: slB bs cs (mixL (slip2 s) (slipO s) (cI s) k) :: nwB bn cn ((cI s).map (endM' s)) :: L) (fun _ => h2) (fun k => n - k) ?_ ?_ ?_ ?_
 ·exact Nat.zero_le _
 ·simp [Ent, List.lookup]
 ·rw [mixL_0]
  exact (Drop.tail _ _ _).trans (Drop.oent _ _ _ _ _ _)
 intro k i1
 simp only [shB, stC, slB, nwB, List.cons_append, List.nil_append] at i1 ⊢
 by_cases c1 : k < n
 ·have c1' : k < (cI s).length := by omega
  obtain ⟨i, hi⟩ : ∃ i, i = (cI s)[k] := ⟨_, rfl⟩
  have hil : i < s.members.length := by rw [hi]; exact cI_lt c1'
  have gs : gr zeroSl (mixL (slip2 s) (slipO s) (cI s) k) k = slipO s i := by rw [mixL_at zeroSl c1', hi]
  have gn : gr zeroM ((cI s).map (endM' s)) k = endM' s i := by rw [gr_map zeroM _ c1', hi]
  have kl1 : k < (mixL (slip2 s) (slipO s) (cI s) k).length := by rw [mixL_len]; exact c1'
  have kl2 : k < ((cI s).map (endM' s)).length := by simpa using c1'
  have hst1 := mixL_set (f := slip2 s) (g := slipO s) c1'
  have hsm1 := mixL_same (f := slip2 s) (g := slipO s) c1'
  have ml1 : (mixL (slip2 s) (slipO s) (cI s) k).length = n := by rw [mixL_len, hn]
  rw [← hi] at hst1 hsm1
  have hf := slip1_f s i
  generalize mixL (slip2 s) (slipO s) (cI s) k = M1 at *
  have g0 : ∀ (K : Value → Prop) (t : Tok K), xNth (M1.flatMap slC) (k * 8) K t = K (.int .i64 i) := fun K t => xNth_rec slC_len zeroSl _ (m := 0) kl1 (by decide) (by rw [gs, ← hf.1]; rfl) K t
  have g6 : ∀ (K : Value → Prop) (t : Tok K), xNth (M1.flatMap slC) (k * 8 + 6) K t = K (.int .i64 (if outB s i then 4 else 0)) := fun K t => xNth_rec slC_len zeroSl _ (m := 6) kl1 (by decide) (by rw [gs]; rfl) K t
  have w0 : ∀ (K : Value → Prop) (t : Tok K), xNth (((cI s).map (endM' s)).flatMap sdC) (k * 4) K t = K (.int .u64 (endM' s i).bal) := fun K t => xNth_rec sdC_len zeroM _ (m := 0) kl2 (by decide) (by rw [gn]; rfl) K t
  have hsum1 : (M1.map fun a => (slC a).length).sum = n * 8 := by rw [← List.length_flatMap, flatG_len slC_len, ml1]
  have hk8 := flat_lt (w := 8) c1 (show 7 < 8 by decide)
  simp -dsimp -implicitDefEqProofs (disch := first|with_reducible assumption|omega) [go_sem, g0]
  refine contains_any _ i il (by omega) ?_
  by_cases c2 : (i : Int) ∈ leftS s
  ·rw [decide_eq_true c2]
   have ee : endsS s i = 5 := by rw [endsS, if_pos c2]
   obtain ⟨a1, ha1⟩ : ∃ a1 : SlD, a1 = { slipO s i with ends := 5 } := ⟨_, rfl⟩
   have ha2 : slip2 s i = { slipO s i with ends := 5, paid := (endM' s i).bal } := by rw [slip2, ee, if_pos (by decide)]; rfl
   have hset0 : (M1.flatMap slC).set (k * 8 + 6) (.int .i64 5) = (M1.set k a1).flatMap slC := flatG_set slC_len zeroSl M1 (m := 6) kl1 (by decide) (by rw [gs, ha1]; rfl)
   have kl1' : k < (M1.set k a1).length := by rw [List.length_set]; exact kl1
   have gs' : gr zeroSl (M1.set k a1) k = a1 := by rw [gr_lt kl1', List.getElem_set_self]
   have g6' : ∀ (K : Value → Prop) (t : Tok K), xNth ((M1.set k a1).flatMap slC) (k * 8 + 6) K t = K (.int .i64 5) := fun K t => xNth_rec slC_len zeroSl _ (m := 6) kl1' (by decide) (by rw [gs', ha1]; rfl) K t
   have hset1 : ((M1.set k a1).flatMap slC).set (k * 8 + 7) (.int .u64 (endM' s i).bal) = (M1.set k (slip2 s i)).flatMap slC := by
    rw [flatG_set slC_len zeroSl (M1.set k a1) (m := 7) kl1' (by decide) (a' := slip2 s i) (by rw [gs', ha1, ha2]; rfl), List.set_set]
   have hsum1' : ((M1.map fun a => (slC a).length).set k (slC a1).length).sum = n * 8 := by
    have : ((M1.set k a1).map fun a => (slC a).length).sum = n * 8 := by rw [← List.length_flatMap, flatG_len slC_len, List.length_set, ml1]
    rwa [List.map_set] at this
   simp -dsimp -implicitDefEqProofs (disch := first|with_reducible assumption|omega) [go_sem]
   refine ⟨by omega, ?_⟩
   rw [hset0]
   simp -dsimp -implicitDefEqProofs (disch := first|with_reducible assumption|omega) [go_sem, g6', w0]
   refine ⟨by omega, k + 1, by omega, by omega, by simp [Ent, List.lookup], ?_⟩
   rw [hset1, hst1]
   exact Drop.refl _ _
  ·rw [decide_eq_false c2]
   by_cases c3 : outB s i = true
   ·rw [c3, if_pos rfl] at g6
    have ee : endsS s i = 4 := by rw [endsS, if_neg c2, if_pos c3]
    have ha2 : slip2 s i = { slipO s i with paid := (endM' s i).bal } := by rw [slip2, ee, if_pos (by decide), slipO, if_pos c3]
    have hset1 : (M1.flatMap slC).set (k * 8 + 7) (.int .u64 (endM' s i).bal) = (M1.set k (slip2 s i)).flatMap slC := flatG_set slC_len zeroSl M1 (m := 7) kl1 (by decide) (by rw [gs, ha2]; rfl)
    simp -dsimp -implicitDefEqProofs (disch := first|with_reducible assumption|omega) [go_sem, g6, w0]
    refine ⟨by omega, k + 1, by omega, by omega, by simp [Ent, List.lookup], ?_⟩
    rw [hset1, hst1]
    exact Drop.refl _ _
   ·rw [if_neg c3] at g6
    have ee : endsS s i = 0 := by rw [endsS, if_neg c2, if_neg c3]
    simp -dsimp -implicitDefEqProofs (disch := first|with_reducible assumption|omega) [go_sem, g6]
    refine ⟨k + 1, by omega, by omega, by simp [Ent, List.lookup], ?_⟩
    rw [hsm1 (by rw [slip2, ee, slipO, if_neg c3, if_neg (by decide), ← hf.2.2.2])]
    exact Drop.refl _ _
 ·obtain rfl : n = k := by omega
  rw [hn] at hk ⊢
  rw [mixL_all]
  simp -dsimp -implicitDefEqProofs (disch := first|with_reducible assumption|omega) [go_sem]
  exact fin_here (hk h2 (i3.trans le2))
theorem sprizes_nil {s : StD} (v : SV) (hs0 : IsSt h v s) (H : SlH s) (bh : Nat) (sa na : Option Addr) (sc nc : Nat)
  (hk : ∀ h', PH.le h h' → K (.tuple #[]) (shB bh s v (modeS s) (actS s) (.slice sa 0 sc) (.slice na 0 nc) :: L) h') :
  Spec Tryz.prog 32 [.pointer (some ⟨bh, 0, none⟩)] (shB bh s v (modeS s) (actS s) (.slice sa 0 sc) (.slice na 0 nc) :: L) h K := by
 have hs := hs0
 obtain ⟨pa, pc, ma, mc, ea, ec, xa, xc, oa, oc, da, dc, ta, tc, ka, kc, ra, rc, rfl⟩ := hs.slices
 have hgm := H.gm
 have hmo := H.most
 have hac := actS_b H
 simp only [shB, stC, List.cons_append, List.nil_append] at hk ⊢
 refine x_enterA Tryz.func32 rfl (rs := []) rfl rfl mixed (by kernel_rfl) rfl rfl fun ap nd => ?_
 have hbh : h bh = noC := ap.1
 clear ap nd
 simp -dsimp -implicitDefEqProofs (disch := first|with_reducible assumption|omega) [go_sem]
 refine xloop' (γ := Unit) () (fun _ => True) (fun _ => [(16, .int .i64 0), (15, .int .i64 0), (2, .slice none 0 0), (0, .pointer (some ⟨bh, 0, none⟩))]) (fun _ => 0) trivial (by simp [Ent, List.lookup, xEnv]) ?_
 intro _ _
 simp -dsimp -implicitDefEqProofs (disch := first|with_reducible assumption|omega) [go_sem]
 refine xanyl (.tk 0 (.tk 1 (.tk 2 (.tk 3 (.tk 5 (.tk 6 (.tk 7 (.tk 9 (.tk 10 (.tk 11 (.tk 12 (.tk 14 (.tk 15 (.tk 16 (.tk 17 (.tk 20 (.tk 21 (.tk 22 (.tk 23 (.tk 25 (.tk 26 (.tk 27 (.tkl 4 (.tkl 8 (.tkl 13 (.tkl 18 (.tk 19 (.tkl 24 (.tkl 28 (.or true 29 (.tk 30 (.fin)) (.nil))))))))))))))))))))))))))))))) (by kernel_rfl) (by kernel_rfl) _ (Drop.refl _ _) ?_
 simp -dsimp -implicitDefEqProofs (disch := first|with_reducible assumption|omega) [go_sem]
 refine Spec.ap (bmint_any s.par H.ok H.r (actS s) (s.gen + s.mint) s.most (modeS s) (by omega) (by omega) (by omega) fun h1 le1 ap => ?_)
 have hbh1 : h1 bh = noC := ap.1
 clear ap
 rw [show mintP s.par (actS s) (s.gen + s.mint) s.most (modeS s) = mintS s from rfl]
 refine xkp (Drop.forget le1) ?_
 have hmb := mintS_b H
 simp -dsimp -implicitDefEqProofs (disch := first|with_reducible assumption|omega) [go_sem]
 refine Spec.ap (prizes_any (l := []) s.par H.ok H.r _ (Recs.nil sdC_len h1) (fun x hx => by cases hx) (by decide) (mintS s) hmb fun h3 r3 le3 i4 ap => ?_)
 have hbh3 : h3 bh = noC := ap.1
 clear ap
 obtain ⟨pa0, pc0, rfl, _⟩ := i4.open
 simp -dsimp -implicitDefEqProofs (disch := first|with_reducible assumption|omega) [go_sem]
 refine xloop' (γ := Unit) () (fun _ => True) (fun _ => [(83, .int .i64 0), (82, .int .i64 0)]) (fun _ => 0) trivial (by simp [Ent, List.lookup]) ?_
 intro _ _
 simp -dsimp -implicitDefEqProofs (disch := first|with_reducible assumption|omega) [go_sem]
 exact fin_here (hk h3 (le1.trans le3))
theorem sfines_nil {s : StD} (v : SV) (hs0 : IsSt h v s) (bh : Nat) (sa na : Option Addr) (sc nc : Nat)
  (hk : K (.tuple #[]) (shB bh s v (modeS s) (actS s) (.slice sa 0 sc) (.slice na 0 nc) :: L) h) :
  Spec Tryz.prog 33 [.pointer (some ⟨bh, 0, none⟩)] (shB bh s v (modeS s) (actS s) (.slice sa 0 sc) (.slice na 0 nc) :: L) h K := by
 have hs := hs0
 obtain ⟨pa, pc, ma, mc, ea, ec, xa, xc, oa, oc, da, dc, ta, tc, ka, kc, ra, rc, rfl⟩ := hs.slices
 simp only [shB, stC, List.cons_append, List.nil_append] at hk ⊢
 refine x_enterA Tryz.func33 rfl (rs := []) rfl rfl mixed (by kernel_rfl) rfl rfl fun ap nd => ?_
 have hbh : h bh = noC := ap.1
 clear ap nd
 simp -dsimp -implicitDefEqProofs (disch := first|with_reducible assumption|omega) [go_sem]
 refine xloop' (γ := Unit) () (fun _ => True) (fun _ => [(12, .int .i64 0), (11, .int .i64 0)]) (fun _ => 0) trivial (by simp [Ent, List.lookup, xEnv]) ?_
 intro _ _
 simp -dsimp -implicitDefEqProofs (disch := first|with_reducible assumption|omega) [go_sem]
 exact fin_here hk
theorem sends_nil {s : StD} (v : SV) (hs0 : IsSt h v s) (H : SlH s) (bh : Nat) (sa na : Option Addr) (sc nc : Nat)
  (hk : ∀ h', PH.le h h' → K (.tuple #[]) (shB bh s v (modeS s) (actS s) (.slice sa 0 sc) (.slice na 0 nc) :: L) h') :
  Spec Tryz.prog 34 [.pointer (some ⟨bh, 0, none⟩)] (shB bh s v (modeS s) (actS s) (.slice sa 0 sc) (.slice na 0 nc) :: L) h K := by
 have hs := hs0
 obtain ⟨pa, pc, ma, mc, ea, ec, xa, xc, oa, oc, da, dc, ta, tc, ka, kc, ra, rc, rfl⟩ := hs.slices
 have hxv := hs0.x
 have hxl := H.xl
 have hch := parR_streak H.r
 simp only [shB, stC, List.cons_append, List.nil_append] at hk ⊢
 refine x_enterA Tryz.func34 rfl (rs := []) rfl rfl mixed (by kernel_rfl) rfl rfl fun ap nd => ?_
 have hbh : h bh = noC := ap.1
 clear ap nd
 simp -dsimp -implicitDefEqProofs (disch := first|with_reducible assumption|omega) [go_sem]
 refine Spec.apn (lnew_any _ hxv (by omega) (fun z hz => (H.xb z hz).1) H.xn fun bl o _ _ ho ap nd => ?_)
 have nl := apart_oent nd.1
 simp only [Apart] at nl
 have nlh : bh ≠ bl := nl.1
 have no := nd_oentM nd.2
 have mh : apB o bh := no _ List.mem_cons_self
 clear ap nd nl no
 simp -dsimp -implicitDefEqProofs (disch := first|with_reducible assumption|omega) [go_sem, xFind_oent mh]
 refine xloop' (γ := Unit) () (fun _ => True) (fun _ => [(23, .int .i64 0), (22, .int .i64 0), (2, .pointer (some ⟨bl, 0, none⟩)), (0, .pointer (some ⟨bh, 0, none⟩))]) (fun _ => 0) trivial (by simp [Ent, List.lookup, xEnv]) ?_
 intro _ _
 simp -dsimp -implicitDefEqProofs (disch := first|with_reducible assumption|omega) [go_sem, xFind_oent mh]
 refine Spec.ap (lpop_any o ho (by omega) s.par.churn (by omega) (fun z hz => by have := H.xb z hz; omega) fun h2 r2 le2 il ap => ?_)
 have ap2 := Ap.oent ap.2
 simp only [Ap] at ap2
 obtain ⟨hbh2, _⟩ := ap2
 clear ap
 obtain ⟨la, lc, rfl, _⟩ := il.open
 simp -dsimp -implicitDefEqProofs (disch := first|with_reducible assumption|omega) [go_sem, xFind_oent mh]
 refine xloop' (γ := Unit) () (fun _ => True) (fun _ => [(70, .int .i64 0), (69, .int .i64 0)]) (fun _ => 0) trivial (by simp [Ent, List.lookup]) ?_
 intro _ _
 simp -dsimp -implicitDefEqProofs (disch := first|with_reducible assumption|omega) [go_sem]
 exact fin_tail (fin_oent (fin_here (hk h2 le2)))
theorem recs_empty {α : Type} {f : α → List Value} {w : Nat} (hw : ∀ a, (f a).length = w) {o : Option (Nat × Nat)} (ho : okO o 0) (h : PH) : Recs f w h (ovs o 0) [] := by
 cases o with
 | none => exact Recs.nil hw h
 | some p => exact ⟨hw, ⟨by simp, _, p.2, rfl, ho.1, ho.2, Nat.zero_le _, (fun e => by cases e), fun j c hj => by simp at hj⟩⟩
theorem slips_any {s : StD} (v : SV) (hs0 : IsSt h v s) (few : FewS s) (fk : s.marks.length ≤ 1000)
  (hk : ∀ h' r, PH.le h h' → Recs slC 8 h' r (slipsL s) → K (.tuple #[r, .int .i64 (slipsE s)]) L h') : Spec Tryz.prog 10 [stV s v] L h K := by
 have hs := hs0
 obtain ⟨pa, pc, ma, mc, ea, ec, xa, xc, oa, oc, da, dc, ta, tc, ka, kc, ra, rc, rfl⟩ := hs.slices
 have nilr : ∀ e, slipsE s = e → e ≠ 0 → K (.tuple #[.slice none 0 0, .int .i64 e]) L h := fun e he hne => by
  have := hk h (.slice none 0 0) (PH.le_refl h) (by rw [slipsL, if_neg (by rw [he]; exact hne)]; exact Recs.nil slC_len h)
  rwa [he] at this
 refine x_enter Tryz.func10 rfl (rs := [_, _]) rfl rfl mixed (by kernel_rfl) rfl rfl ?_
 simp -dsimp -implicitDefEqProofs (disch := first|with_reducible assumption|omega) [go_sem]
 refine xnew fun b1 n_b1 h_b1 => ?_
 try simp only [Apart] at n_b1
 simp -dsimp -implicitDefEqProofs (disch := first|with_reducible assumption|omega) [go_sem]
 refine fits_any (s := s) ⟨.slice pa s.purses.length pc, .slice ma s.members.length mc, .slice ea s.entry.length ec, .slice xa s.exit.length xc, .slice oa s.pool.length oc, .slice da s.dues.length dc, .slice ta s.motions.length tc, .slice ka s.marks.length kc, .slice ra s.ring.length rc⟩ hs0 few ?_
 cases hf : fitsS s with
 | false =>
  have := nilr 291 (by rw [slipsE, hf]; rfl) (by decide)
  simp -dsimp -implicitDefEqProofs (disch := first|with_reducible assumption|omega) [go_sem]
  exact fin_tail (fin_here this)
 | true =>
 by_cases c1 : 1073741824 ≤ s.ep
 ·have := nilr 200 (by rw [slipsE, hf, if_pos rfl, if_pos c1]) (by decide)
  simp -dsimp -implicitDefEqProofs (disch := first|with_reducible assumption|omega) [go_sem]
  exact fin_tail (fin_here this)
 have he : slipsE s = 0 := by rw [slipsE, hf, if_pos rfl, if_neg c1]
 have hls : slipsL s = (cI s).map (slip2 s) := by rw [slipsL, if_pos he]
 rw [he, hls] at hk
 have H := slH_of hs0 hf
 simp -dsimp -implicitDefEqProofs (disch := first|with_reducible assumption|omega) [go_sem]
 refine xnew fun b2 n_b2 h_b2 => ?_
 try simp only [Apart] at n_b2
 simp -dsimp -implicitDefEqProofs (disch := first|with_reducible assumption|omega) [go_sem]
 refine sweigh_any (s := s) ⟨.slice pa s.purses.length pc, .slice ma s.members.length mc, .slice ea s.entry.length ec, .slice xa s.exit.length xc, .slice oa s.pool.length oc, .slice da s.dues.length dc, .slice ta s.motions.length tc, .slice ka s.marks.length kc, .slice ra s.ring.length rc⟩ hs0 H fk b2 fun h1 o1 o2 le1 k1 k2 => ?_
 have hs1 := hs0.up le1
 obtain ⟨n, hn⟩ : ∃ n, n = (cI s).length := ⟨_, rfl⟩
 by_cases c2 : n = 0
 ·obtain ⟨x1, y1, e1, _⟩ := ovs_open k1
  obtain ⟨x2, y2, e2, _⟩ := ovs_open k2
  have hnil : cI s = [] := List.eq_nil_of_length_eq_zero (by omega)
  rw [e1, e2, ← hn, c2]
  simp -dsimp -implicitDefEqProofs (disch := first|with_reducible assumption|omega) [go_sem]
  have d0 : ∀ (A : Blk) (P Q : List Value) (M : Own), Drop (A :: oent 42 8 o1 P (oent 89 4 o2 Q M)) h1 (A :: M) h1 := fun A P Q M =>
   (Drop.perm h1 (oent_perm.trans (oent_congr _ _ oent_perm))).trans ((Drop.oent _ _ _ _ _ _).trans (Drop.oent _ _ _ _ _ _))
  refine Spec.weaken (d0 _ _ _ _) ?_
  refine sprizes_nil (s := s) ⟨.slice pa s.purses.length pc, .slice ma s.members.length mc, .slice ea s.entry.length ec, .slice xa s.exit.length xc, .slice oa s.pool.length oc, .slice da s.dues.length dc, .slice ta s.motions.length tc, .slice ka s.marks.length kc, .slice ra s.ring.length rc⟩ hs1 H b2 x1 x2 y1 y2 fun h2 le2 => ?_
  have hs2 := hs1.up le2
  simp -dsimp -implicitDefEqProofs (disch := first|with_reducible assumption|omega) [go_sem]
  refine sfines_nil (s := s) ⟨.slice pa s.purses.length pc, .slice ma s.members.length mc, .slice ea s.entry.length ec, .slice xa s.exit.length xc, .slice oa s.pool.length oc, .slice da s.dues.length dc, .slice ta s.motions.length tc, .slice ka s.marks.length kc, .slice ra s.ring.length rc⟩ hs2 b2 x1 x2 y1 y2 ?_
  simp -dsimp -implicitDefEqProofs (disch := first|with_reducible assumption|omega) [go_sem]
  refine Spec.ap (sends_nil (s := s) ⟨.slice pa s.purses.length pc, .slice ma s.members.length mc, .slice ea s.entry.length ec, .slice xa s.exit.length xc, .slice oa s.pool.length oc, .slice da s.dues.length dc, .slice ta s.motions.length tc, .slice ka s.marks.length kc, .slice ra s.ring.length rc⟩ hs2 H b2 x1 x2 y1 y2 fun h3 le3 ap => ?_)
  have hb23 : h3 b2 = noC := ap.1
  clear ap
  simp only [shB, stC, List.cons_append, List.nil_append]
  simp -dsimp -implicitDefEqProofs (disch := first|with_reducible assumption|omega) [go_sem]
  have kk : okO o1 0 := by rw [hn.symm.trans c2] at k1; exact k1
  have rr := recs_empty slC_len kk h3
  rw [show ovs o1 0 = .slice x1 0 y1 by have := e1; rw [← hn, c2] at this; exact this] at rr
  have := hk h3 _ (le1.trans (le2.trans le3)) (by rw [hnil]; exact rr)
  exact fin_tail (fin_tail (fin_here this))
 ·obtain ⟨bs, cs, rfl⟩ : ∃ bs cs, o1 = some (bs, cs) := by
   cases o1 with
   | none => have : (cI s).length = 0 := k1; omega
   | some p => exact ⟨p.1, p.2, rfl⟩
  obtain ⟨bn, cn, rfl⟩ : ∃ bn cn, o2 = some (bn, cn) := by
   cases o2 with
   | none => have : (cI s).length = 0 := k2; omega
   | some p => exact ⟨p.1, p.2, rfl⟩
  have hcs : (cI s).length ≤ cs := k1.1
  have hcn : (cI s).length ≤ cn := k2.1
  simp only [ovs_some, oent_some]
  simp -dsimp -implicitDefEqProofs (disch := first|with_reducible assumption|omega) [go_sem]
  refine sprizes_pos (s := s) ⟨.slice pa s.purses.length pc, .slice ma s.members.length mc, .slice ea s.entry.length ec, .slice xa s.exit.length xc, .slice oa s.pool.length oc, .slice da s.dues.length dc, .slice ta s.motions.length tc, .slice ka s.marks.length kc, .slice ra s.ring.length rc⟩ hs1 H b2 bs cs bn cn hcs hcn fun h2 le2 => ?_
  have hs2 := hs1.up le2
  simp -dsimp -implicitDefEqProofs (disch := first|with_reducible assumption|omega) [go_sem]
  refine sfines_pos (s := s) ⟨.slice pa s.purses.length pc, .slice ma s.members.length mc, .slice ea s.entry.length ec, .slice xa s.exit.length xc, .slice oa s.pool.length oc, .slice da s.dues.length dc, .slice ta s.motions.length tc, .slice ka s.marks.length kc, .slice ra s.ring.length rc⟩ hs2 H b2 bs cs bn cn hcs hcn ?_
  simp -dsimp -implicitDefEqProofs (disch := first|with_reducible assumption|omega) [go_sem]
  refine Spec.ap (sends_pos (s := s) ⟨.slice pa s.purses.length pc, .slice ma s.members.length mc, .slice ea s.entry.length ec, .slice xa s.exit.length xc, .slice oa s.pool.length oc, .slice da s.dues.length dc, .slice ta s.motions.length tc, .slice ka s.marks.length kc, .slice ra s.ring.length rc⟩ hs2 H b2 bs cs bn cn hcs hcn fun h3 le3 ap => ?_)
  have hb23 : h3 b2 = noC := ap.1
  have hbs3 : h3 bs = noC := ap.2.1
  clear ap
  simp only [shB, stC, slB, nwB, List.cons_append, List.nil_append]
  simp -dsimp -implicitDefEqProofs (disch := first|with_reducible assumption|omega) [go_sem]
  refine fin_tail ?_
  have hml : ((cI s).map (slip2 s)).length = (cI s).length := List.length_map _
  have := fin_pub (K := K) (v := .tuple #[.slice (some ⟨bs, 0, none⟩) (cI s).length cs, .int .i64 0]) (e := 42) (sz := 8) (n := (cI s).length) (o := some (bs, cs)) (xs := ((cI s).map (slip2 s)).flatMap slC) (L := nwB bn cn ((cI s).map (endM' s)) :: ⟨b1, 34, stC s ⟨.slice pa s.purses.length pc, .slice ma s.members.length mc, .slice ea s.entry.length ec, .slice xa s.exit.length xc, .slice oa s.pool.length oc, .slice da s.dues.length dc, .slice ta s.motions.length tc, .slice ka s.marks.length kc, .slice ra s.ring.length rc⟩, 41⟩ :: L) (L0 := []) (h := h3) k1 (by rw [flatG_len slC_len, hml]) (by have := H.len; have := cP_len s.members s.members.length; show (cP s.members s.members.length).length ≤ _; omega) ⟨trivial, hbs3⟩ fun h4 le4 sl => fin_tail (fin_tail (fin_here (hk h4 _ (le1.trans (le2.trans (le3.trans le4))) ⟨slC_len, by rw [hml]; exact sl⟩)))
  exact this
end Go.X

/- Lemmas and contracts for a statement about the given program. Conditions: as each says. -/
import Derived.Test.YtkmojeioedjfkaaGreatQ11
import Derived.Test.YtkmojeioedjfkaaGreatQ18
import Derived.Test.YtkmojeioedjfkaaGreatQ19
import Derived.Test.YtkmojeioedjfkaaGreatQ21
set_option linter.unusedVariables false
set_option linter.unusedSimpArgs false
set_option maxHeartbeats 12800000
set_option maxRecDepth 20000
namespace Go.X
open Go.RowKit Go.Proofs Go.Bl
variable {L : Own} {h : PH} {K : PK}
def encS (s : StD) : List Int := encP s.par ++ flatN [s.most, s.gen, s.mint, s.burn, s.treas] ++ formN s.ep.toNat ++ formN s.calm.toNat ++ formN s.emer.toNat ++ (formN s.purses.length ++ s.purses.flatMap numEnc) ++ (formN s.members.length ++ s.members.flatMap memEnc) ++ (formN s.entry.length ++ s.entry.flatMap numEnc) ++ (formN s.exit.length ++ s.exit.flatMap numEnc) ++ (formN s.pool.length ++ s.pool.flatMap depEnc) ++ (formN s.dues.length ++ s.dues.flatMap dueEnc) ++ (formN s.motions.length ++ s.motions.flatMap motEnc) ++ rawN s.marks ++ (formN s.ring.length ++ s.ring.flatMap rawN)
structure StW (s : StD) : Prop where
 par : parR s.par = true
 ep : 0 ≤ s.ep
 calm : 0 ≤ s.calm
 m : ∀ x ∈ s.members, 0 ≤ x.streak ∧ 0 ≤ x.owner ∧ 0 ≤ x.status
 e : ∀ x ∈ s.entry, 0 ≤ x
 x : ∀ x ∈ s.exit, 0 ≤ x
 o : ∀ x ∈ s.pool, 0 ≤ x.acct ∧ 0 ≤ x.mem
 d : ∀ x ∈ s.dues, 0 ≤ x.acct ∧ 0 ≤ x.at' ∧ x.acct ≤ 63 ∧ x.at' ≤ 2147483647
 t : ∀ x ∈ s.motions, MotW x
 k : s.marks.length ≤ 50
 r : ∀ x ∈ s.ring, x.length ≤ 50
 lp : s.purses.length ≤ 64
 lm : s.members.length ≤ 128
 le : s.entry.length ≤ 128
 lx : s.exit.length ≤ 128
 lo : s.pool.length ≤ 256
 ld : s.dues.length ≤ 3200
 lt : s.motions.length ≤ 32
 lr : s.ring.length ≤ 8
abbrev stB (b : Nat) (s : StD) (v : SV) : Blk := ⟨b, 41, stC s v, 41⟩
theorem through_w {bw b1 : Nat} {o : Option (Nat × Nat)} {B : List Int} (A : Own) {s : StD} (v : SV) (hx : stB b1 s v ∈ A) (hs : IsSt h v s) (hw : StW s) (ho : okO o B.length) (hl : B.length ≤ 10)
  (hk : ∀ h' o' B', PH.le h h' → B' = B ++ encS s → okO o' B'.length → B'.length ≤ 90000 → K (.tuple #[]) (iwO bw o' B' A L) h') :
  Spec Tryz.prog 32 [penW bw, .pointer (some ⟨b1, 0, none⟩)] (iwO bw o B A L) h K := by
 obtain ⟨pa, pc, ma, mc, ea, ec, xa, xc, oa, oc, da, dc, ta, tc, ka, kc, ra, rc, rfl⟩ := hs.slices
 obtain ⟨qm, qm1, qm2, qm3⟩ := hs.t
 obtain ⟨qr, qr1, qr2⟩ := hs.r
 have qml : qm.length = s.motions.length := by rw [← qm2, List.length_map]
 have qrl : qr.length = s.ring.length := by rw [← qr2, xsL_len]
 simp only at qm1 qr1
 obtain ⟨wpar, wep, wcalm, wm, we, wx, wo, wd, wt, wk, wr, lp, lm, lle, lx, lo, ld, ltt, lr⟩ := hw
 refine x_enterA Tryz.func32 rfl (rs := []) rfl rfl mixed (by kernel_rfl) rfl rfl fun ap nd => ?_
 have hb1 : h b1 = noC := Ap.mem' (L := iwO bw o B A L) ap _ (List.mem_cons_of_mem _ (List.mem_append_left _ hx))
 clear ap nd
 simp -dsimp -implicitDefEqProofs (disch := first|with_reducible assumption|omega) [go_sem]
 refine xnew fun b2 n_b2 h_b2 => ?_
 simp -dsimp -implicitDefEqProofs (disch := first|with_reducible assumption|omega) [go_sem]
 refine xanyl (.tk 1 (.tk 2 (.tk 3 (.tkl 0 (.tk 4 (.tk 5 (.tk 6 (.or true 7 (.fin) (.nil))))))))) (by kernel_rfl) (by kernel_rfl) [penB b2 bw] (Drop.mem List.mem_cons_self) ?_
 simp -dsimp -implicitDefEqProofs (disch := first|with_reducible assumption|omega) [go_sem, pnW_params bw]
 refine xcallI (penW_params bw) ?_
 refine Spec.weaken (Drop.perm h (List.Perm.swap _ _ _)) (Spec.apn (iparams_w (penB b2 bw :: A) [stB b1 s ⟨.slice pa s.purses.length pc, .slice ma s.members.length mc, .slice ea s.entry.length ec, .slice xa s.exit.length xc, .slice oa s.pool.length oc, .slice da s.dues.length dc, .slice ta s.motions.length tc, .slice ka s.marks.length kc, .slice ra s.ring.length rc⟩] (RdW.mem L h (List.mem_cons_of_mem _ hx)) ⟨b1, 0, none⟩ s.par hs.ok.p wpar (fun zz by' K t => by rw [xLd_agg]; simp -dsimp -implicitDefEqProofs (disch := first|with_reducible assumption|omega) [go_sem]) ho (by omega) fun h1 o1 B1 le1 e1 k1 l1 ap nd => ?_))
 have hmb : ∀ o B, penB b2 bw ∈ iwO bw o B (penB b2 bw :: A) L := fun o B => by simp
 have hms : ∀ o B, stB b1 s ⟨.slice pa s.purses.length pc, .slice ma s.members.length mc, .slice ea s.entry.length ec, .slice xa s.exit.length xc, .slice oa s.pool.length oc, .slice da s.dues.length dc, .slice ta s.motions.length tc, .slice ka s.marks.length kc, .slice ra s.ring.length rc⟩ ∈ iwO bw o B (penB b2 bw :: A) L := fun o B => List.mem_cons_of_mem _ (List.mem_append_left _ (List.mem_cons_of_mem _ hx))
 refine xkp ((Drop.forget le1).trans (Drop.mem (hmb _ _))) ?_
 simp -dsimp -implicitDefEqProofs (disch := first|with_reducible assumption|omega) [go_sem]
 refine xany (.tk 0 (.tk 1 (.tk 2 (.tk 3 (.tk 4 (.tk 5 (.tk 6 (.tk 7 (.tk 8 (.tk 9 (.tk 10 (.tk 11 (.tk 12 (.tk 13 (.tk 14 (.tk 17 (.or true 15 (.tk 16 (.fin)) (.nil)))))))))))))))))) (by kernel_rfl) (by kernel_rfl) ?_
 simp -dsimp -implicitDefEqProofs (disch := first|with_reducible assumption|omega) [go_sem]
 refine xnew fun b29 n_b29 h_b29 => ?_
 have app := ap
 have nbb : b29 ≠ b1 := fun e => by
  have := of_apart n_b29 _ (hms o1 B1)
  exact this e.symm
 simp -dsimp -implicitDefEqProofs (disch := first|with_reducible assumption|omega) [go_sem]
 obtain ⟨ws, hws⟩ : ∃ ws : List Int, ws = [s.most, s.gen, s.mint, s.burn, s.treas] := ⟨_, rfl⟩
 have wl : ws.length = 5 := by rw [hws]; rfl
 have wu : ∀ z ∈ ws, 0 ≤ z ∧ z ≤ 18446744073709551615 := by rw [hws]; exact hs.ok.u
 have aO : apO (some (b29, 5)) (iwO bw o1 B1 (penB b2 bw :: A) L) h1 := ⟨n_b29, h_b29⟩
 have le2 := pub_le_o aO (ptrs b1 24 5)
 have sl := pub_sl (h := h1) (sz := 1) (n := 5) (o := some (b29, 5)) (xs := ptrs b1 24 5) ⟨Nat.le_refl _, by show 5 ≤ maxLen; decide⟩ rfl (by decide)
 obtain ⟨ax, cx, ex, _, hcs⟩ := sl.openp
 injection ex with ex1 _ ex2
 subst ex1 ex2
 refine xloop (γ := Nat × PH × Option (Nat × Nat) × List Int) (0, pubO h1 (some (b29, 5)) (ptrs b1 24 5), o1, B1)
  (fun x => x.1 ≤ 5 ∧ PH.le (pubO h1 (some (b29, 5)) (ptrs b1 24 5)) x.2.1 ∧ okO x.2.2.1 x.2.2.2.length ∧ x.2.2.2 = B1 ++ flatN (ws.take x.1) ∧ x.2.2.2.length ≤ B1.length + 10 * x.1 ∧ Ap (iwO bw x.2.2.1 x.2.2.2 (penB b2 bw :: A) L) x.2.1 ∧ Nd (iwO bw x.2.2.1 x.2.2.2 (penB b2 bw :: A) L))
  (fun x => [(31, .int .i64 x.1), (30, .int .i64 5), (29, .slice (some ⟨b29, 0, none⟩) 5 5), (1, .pointer (some ⟨b1, 0, none⟩)), (2, .pointer (some ⟨b2, 0, none⟩))])
  (fun x => iwO bw x.2.2.1 x.2.2.2 (penB b2 bw :: A) L) (fun x => x.2.1) (fun x => 5 - x.1) ?_ ?_ ?_ ?_
 ·refine ⟨Nat.zero_le _, PH.le_refl _, k1, by simp [flatN], by simp, Ap.of fun e he => ?_, nd⟩
  have h2 := Ap.mem' app e he
  have hne : apB (some (b29, 5)) e.b := Ne.symm (of_apart n_b29 e he)
  exact pubO_noC hne h2
 ·simp [Ent, List.lookup, xEnv]
 ·exact pub_drop_o (e := 180) (sz := 1) (some (b29, 5)) (ptrs b1 24 5) _ h1 (by decide)
 rintro ⟨k, hh, oo, BB⟩ ⟨i1, i2, i3, i4, i5, ap, nd⟩
 simp only at i1 i2 i3 i4 i5 ap nd ⊢
 have hbb1 : hh b1 = noC := Ap.mem' ap _ (hms oo BB)
 have hbb2 : hh b2 = noC := Ap.mem' ap _ (hmb oo BB)
 have fb := xFind_mem (i := 0) (by decide) nd (hmb oo BB) rfl
 have hcs' : ∀ j, j < 5 → elemCell hh (some ⟨b29, 0, none⟩) j = some ((fun j => .pointer (some ⟨b1, 24 + j, none⟩)) j) := fun j hj => elemCell_up i2 (hcs j hj)
 by_cases c1 : k < 5
 ·have hr1 := wu _ (at0_mem (zs := ws) (k := k) (by omega))
  have es := flatN_snoc ws k (by omega)
  simp -dsimp -implicitDefEqProofs (disch := first|with_reducible assumption|omega) [go_sem, idx hcs', fb]
  have hrd : ∀ (K : Value → Prop) (t : Tok K), xCell [stB b1 s ⟨.slice pa s.purses.length pc, .slice ma s.members.length mc, .slice ea s.entry.length ec, .slice xa s.exit.length xc, .slice oa s.pool.length oc, .slice da s.dues.length dc, .slice ta s.motions.length tc, .slice ka s.marks.length kc, .slice ra s.ring.length rc⟩] hh (some ⟨b1, 24 + k, none⟩) 0 K t = K (.int .u64 (at0 ws k)) := fun K t => by
   have hv : (stC s ⟨.slice pa s.purses.length pc, .slice ma s.members.length mc, .slice ea s.entry.length ec, .slice xa s.exit.length xc, .slice oa s.pool.length oc, .slice da s.dues.length dc, .slice ta s.motions.length tc, .slice ka s.marks.length kc, .slice ra s.ring.length rc⟩)[24 + k]? = some (.int .u64 (at0 ws k)) := by
    rw [hws]
    rcases (show k = 0 ∨ k = 1 ∨ k = 2 ∨ k = 3 ∨ k = 4 by omega) with rfl | rfl | rfl | rfl | rfl <;> rfl
   rw [xCell_own _ _ _ hbb1]
   exact xFind_mem (L := [stB b1 s ⟨.slice pa s.purses.length pc, .slice ma s.members.length mc, .slice ea s.entry.length ec, .slice xa s.exit.length xc, .slice oa s.pool.length oc, .slice da s.dues.length dc, .slice ta s.motions.length tc, .slice ka s.marks.length kc, .slice ra s.ring.length rc⟩]) (by decide) ⟨trivial, trivial⟩ List.mem_cons_self hv K ⟨⟩
  refine xcallI (penW_num bw) ?_
  refine Spec.apn (inum_w (penB b2 bw :: A) [stB b1 s ⟨.slice pa s.purses.length pc, .slice ma s.members.length mc, .slice ea s.entry.length ec, .slice xa s.exit.length xc, .slice oa s.pool.length oc, .slice da s.dues.length dc, .slice ta s.motions.length tc, .slice ka s.marks.length kc, .slice ra s.ring.length rc⟩] (RdW.mem L hh (List.mem_cons_of_mem _ hx)) ⟨b1, 24 + k, none⟩ (at0 ws k) hrd hr1.1 hr1.2 i3 (by omega) fun h5 o5 B5 le5 e5 k5 l5 ap5 nd5 => ?_)
  simp -dsimp -implicitDefEqProofs (disch := first|with_reducible assumption|omega) [go_sem]
  exact ⟨k + 1, h5, o5, B5, ⟨by omega, i2.trans le5, k5, by rw [e5, i4, es, List.append_assoc], by omega, ap5, nd5⟩, by omega, by simp [Ent, List.lookup], Drop.refl _ _⟩
 have hk5 : k = 5 := by omega
 subst hk5
 rw [show ws.take 5 = ws by rw [← wl, List.take_length]] at i4
 have le02 := le1.trans (le2.trans i2)
 clear sl hcs hcs' n_b29 h_b29 aO app n_b2 h_b2
 have un := hs.ok.n
 have hA := List.mem_cons_of_mem (penB b2 bw) hx
 first | simp -dsimp -implicitDefEqProofs (disch := first|with_reducible assumption|omega) [go_sem] | skip
 have x1a : hh b1 = noC := Ap.mem' ap _ (hms _ _)
 have x1b : hh b2 = noC := Ap.mem' ap _ (hmb _ _)
 refine xanyl (.tk 1 (.tk 2 (.tk 3 (.tkl 0 (.tk 4 (.tk 5 (.tk 6 (.or true 7 (.fin) (.nil))))))))) (by kernel_rfl) (by kernel_rfl) [penB b2 bw] (Drop.mem (hmb _ _)) ?_
 simp -dsimp -implicitDefEqProofs (disch := first|with_reducible assumption|omega) [go_sem, pnW_int bw]
 refine xcallI (penW_int bw) ?_
 refine Spec.apn (iint_w (penB b2 bw :: A) [stB b1 s ⟨.slice pa s.purses.length pc, .slice ma s.members.length mc, .slice ea s.entry.length ec, .slice xa s.exit.length xc, .slice oa s.pool.length oc, .slice da s.dues.length dc, .slice ta s.motions.length tc, .slice ka s.marks.length kc, .slice ra s.ring.length rc⟩] (RdW.mem L hh hA) ⟨b1, 29, none⟩ s.ep (fun K t => by rw [xCell_own _ _ _ x1a]; exact xFind_mem (L := [stB b1 s ⟨.slice pa s.purses.length pc, .slice ma s.members.length mc, .slice ea s.entry.length ec, .slice xa s.exit.length xc, .slice oa s.pool.length oc, .slice da s.dues.length dc, .slice ta s.motions.length tc, .slice ka s.marks.length kc, .slice ra s.ring.length rc⟩]) (i := 29) (by decide) ⟨trivial, trivial⟩ List.mem_cons_self rfl K ⟨⟩) wep (un s.ep (by simp)).2 i3 (by omega) fun g1 p1 C1 ln1 en1 kn1 bn1 an1 dn1 => ?_)
 refine xkp ((Drop.forget ln1).trans (Drop.mem (hmb _ _))) ?_
 first | simp -dsimp -implicitDefEqProofs (disch := first|with_reducible assumption|omega) [go_sem] | skip
 have x2a : g1 b1 = noC := Ap.mem' an1 _ (hms _ _)
 have x2b : g1 b2 = noC := Ap.mem' an1 _ (hmb _ _)
 refine xanyl (.tk 1 (.tk 2 (.tk 3 (.tkl 0 (.tk 4 (.tk 5 (.tk 6 (.or true 7 (.fin) (.nil))))))))) (by kernel_rfl) (by kernel_rfl) [penB b2 bw] (Drop.mem (hmb _ _)) ?_
 simp -dsimp -implicitDefEqProofs (disch := first|with_reducible assumption|omega) [go_sem, pnW_int bw]
 refine xcallI (penW_int bw) ?_
 refine Spec.apn (iint_w (penB b2 bw :: A) [stB b1 s ⟨.slice pa s.purses.length pc, .slice ma s.members.length mc, .slice ea s.entry.length ec, .slice xa s.exit.length xc, .slice oa s.pool.length oc, .slice da s.dues.length dc, .slice ta s.motions.length tc, .slice ka s.marks.length kc, .slice ra s.ring.length rc⟩] (RdW.mem L g1 hA) ⟨b1, 30, none⟩ s.calm (fun K t => by rw [xCell_own _ _ _ x2a]; exact xFind_mem (L := [stB b1 s ⟨.slice pa s.purses.length pc, .slice ma s.members.length mc, .slice ea s.entry.length ec, .slice xa s.exit.length xc, .slice oa s.pool.length oc, .slice da s.dues.length dc, .slice ta s.motions.length tc, .slice ka s.marks.length kc, .slice ra s.ring.length rc⟩]) (i := 30) (by decide) ⟨trivial, trivial⟩ List.mem_cons_self rfl K ⟨⟩) wcalm (un s.calm (by simp)).2 kn1 (by omega) fun g2 p2 C2 ln2 en2 kn2 bn2 an2 dn2 => ?_)
 refine xkp ((Drop.forget ln2).trans (Drop.mem (hmb _ _))) ?_
 first | simp -dsimp -implicitDefEqProofs (disch := first|with_reducible assumption|omega) [go_sem] | skip
 have x3a : g2 b1 = noC := Ap.mem' an2 _ (hms _ _)
 have x3b : g2 b2 = noC := Ap.mem' an2 _ (hmb _ _)
 refine xanyl (.tk 1 (.tk 2 (.tk 3 (.tkl 0 (.tk 4 (.tk 5 (.tk 6 (.or true 7 (.fin) (.nil))))))))) (by kernel_rfl) (by kernel_rfl) [penB b2 bw] (Drop.mem (hmb _ _)) ?_
 simp -dsimp -implicitDefEqProofs (disch := first|with_reducible assumption|omega) [go_sem, pnW_flag bw]
 refine xcallI (penW_flag bw) ?_
 refine Spec.apn (iflag_w (penB b2 bw :: A) [stB b1 s ⟨.slice pa s.purses.length pc, .slice ma s.members.length mc, .slice ea s.entry.length ec, .slice xa s.exit.length xc, .slice oa s.pool.length oc, .slice da s.dues.length dc, .slice ta s.motions.length tc, .slice ka s.marks.length kc, .slice ra s.ring.length rc⟩] (RdW.mem L g2 hA) ⟨b1, 31, none⟩ s.emer (fun K t => by rw [xCell_own _ _ _ x3a]; exact xFind_mem (L := [stB b1 s ⟨.slice pa s.purses.length pc, .slice ma s.members.length mc, .slice ea s.entry.length ec, .slice xa s.exit.length xc, .slice oa s.pool.length oc, .slice da s.dues.length dc, .slice ta s.motions.length tc, .slice ka s.marks.length kc, .slice ra s.ring.length rc⟩]) (i := 31) (by decide) ⟨trivial, trivial⟩ List.mem_cons_self rfl K ⟨⟩) kn2 (by omega) fun g3 p3 C3 ln3 en3 kn3 bn3 an3 dn3 => ?_)
 refine xkp ((Drop.forget ln3).trans (Drop.mem (hmb _ _))) ?_
 first | simp -dsimp -implicitDefEqProofs (disch := first|with_reducible assumption|omega) [go_sem] | skip
 have x4a : g3 b1 = noC := Ap.mem' an3 _ (hms _ _)
 have x4b : g3 b2 = noC := Ap.mem' an3 _ (hmb _ _)
 refine xanyl (.tk 1 (.tk 2 (.tk 3 (.tk 4 (.tkl 0 (.or true 5 (.fin) (.nil))))))) (by kernel_rfl) (by kernel_rfl) [penB b2 bw] (Drop.mem (hmb _ _)) ?_
 simp -dsimp -implicitDefEqProofs (disch := first|with_reducible assumption|omega) [go_sem]
 refine Spec.apn (lnum_w (b1 := b1) (b2 := b2) (penB b2 bw :: A) List.mem_cons_self hA (by decide) 32 s.purses pa pc rfl (ints_recs (hs.p.up (((le02.trans ln1).trans ln2).trans ln3))) (fun x hx1 => hs.p.2 x hx1) (by omega) kn3 (by omega) fun g4 p4 C4 ln4 en4 kn4 bn4 an4 dn4 => ?_)
 refine xkp ((Drop.forget ln4).trans (Drop.mem (hmb _ _))) ?_
 first | simp -dsimp -implicitDefEqProofs (disch := first|with_reducible assumption|omega) [go_sem] | skip
 have x5a : g4 b1 = noC := Ap.mem' an4 _ (hms _ _)
 have x5b : g4 b2 = noC := Ap.mem' an4 _ (hmb _ _)
 refine xanyl (.tk 1 (.tk 2 (.tk 3 (.tk 4 (.tkl 0 (.or true 5 (.fin) (.nil))))))) (by kernel_rfl) (by kernel_rfl) [penB b2 bw] (Drop.mem (hmb _ _)) ?_
 simp -dsimp -implicitDefEqProofs (disch := first|with_reducible assumption|omega) [go_sem]
 refine Spec.apn (lmem_w (b1 := b1) (b2 := b2) (penB b2 bw :: A) List.mem_cons_self hA (by decide) 33 s.members ma mc rfl (hs.m.up ((((le02.trans ln1).trans ln2).trans ln3).trans ln4)) (fun x hx1 => ⟨hs.mo x hx1, wm x hx1⟩) (by omega) kn4 (by omega) fun g5 p5 C5 ln5 en5 kn5 bn5 an5 dn5 => ?_)
 refine xkp ((Drop.forget ln5).trans (Drop.mem (hmb _ _))) ?_
 first | simp -dsimp -implicitDefEqProofs (disch := first|with_reducible assumption|omega) [go_sem] | skip
 have x6a : g5 b1 = noC := Ap.mem' an5 _ (hms _ _)
 have x6b : g5 b2 = noC := Ap.mem' an5 _ (hmb _ _)
 refine xanyl (.tk 1 (.tk 2 (.tk 3 (.tk 4 (.tkl 0 (.or true 5 (.fin) (.nil))))))) (by kernel_rfl) (by kernel_rfl) [penB b2 bw] (Drop.mem (hmb _ _)) ?_
 simp -dsimp -implicitDefEqProofs (disch := first|with_reducible assumption|omega) [go_sem]
 refine Spec.apn (lint3_w (b1 := b1) (b2 := b2) (penB b2 bw :: A) List.mem_cons_self hA (by decide) 34 s.entry ea ec rfl (ints_recs (hs.e.up (((((le02.trans ln1).trans ln2).trans ln3).trans ln4).trans ln5))) (fun x hx1 => ⟨we x hx1, (hs.e.2 x hx1).2⟩) (by omega) kn5 (by omega) fun g6 p6 C6 ln6 en6 kn6 bn6 an6 dn6 => ?_)
 refine xkp ((Drop.forget ln6).trans (Drop.mem (hmb _ _))) ?_
 first | simp -dsimp -implicitDefEqProofs (disch := first|with_reducible assumption|omega) [go_sem] | skip
 have x7a : g6 b1 = noC := Ap.mem' an6 _ (hms _ _)
 have x7b : g6 b2 = noC := Ap.mem' an6 _ (hmb _ _)
 refine xanyl (.tk 1 (.tk 2 (.tk 3 (.tk 4 (.tkl 0 (.or true 5 (.fin) (.nil))))))) (by kernel_rfl) (by kernel_rfl) [penB b2 bw] (Drop.mem (hmb _ _)) ?_
 simp -dsimp -implicitDefEqProofs (disch := first|with_reducible assumption|omega) [go_sem]
 refine Spec.apn (lint4_w (b1 := b1) (b2 := b2) (penB b2 bw :: A) List.mem_cons_self hA (by decide) 35 s.exit xa xc rfl (ints_recs (hs.x.up ((((((le02.trans ln1).trans ln2).trans ln3).trans ln4).trans ln5).trans ln6))) (fun x hx1 => ⟨wx x hx1, (hs.x.2 x hx1).2⟩) (by omega) kn6 (by omega) fun g7 p7 C7 ln7 en7 kn7 bn7 an7 dn7 => ?_)
 refine xkp ((Drop.forget ln7).trans (Drop.mem (hmb _ _))) ?_
 first | simp -dsimp -implicitDefEqProofs (disch := first|with_reducible assumption|omega) [go_sem] | skip
 have x8a : g7 b1 = noC := Ap.mem' an7 _ (hms _ _)
 have x8b : g7 b2 = noC := Ap.mem' an7 _ (hmb _ _)
 refine xanyl (.tk 1 (.tk 2 (.tk 3 (.tk 4 (.tkl 0 (.or true 5 (.fin) (.nil))))))) (by kernel_rfl) (by kernel_rfl) [penB b2 bw] (Drop.mem (hmb _ _)) ?_
 simp -dsimp -implicitDefEqProofs (disch := first|with_reducible assumption|omega) [go_sem]
 refine Spec.apn (ldep_w (b1 := b1) (b2 := b2) (penB b2 bw :: A) List.mem_cons_self hA (by decide) 36 s.pool oa oc rfl (hs.o.up (((((((le02.trans ln1).trans ln2).trans ln3).trans ln4).trans ln5).trans ln6).trans ln7)) (fun x hx1 => ⟨hs.oo x hx1, wo x hx1⟩) (by omega) kn7 (by omega) fun g8 p8 C8 ln8 en8 kn8 bn8 an8 dn8 => ?_)
 refine xkp ((Drop.forget ln8).trans (Drop.mem (hmb _ _))) ?_
 first | simp -dsimp -implicitDefEqProofs (disch := first|with_reducible assumption|omega) [go_sem] | skip
 have x9a : g8 b1 = noC := Ap.mem' an8 _ (hms _ _)
 have x9b : g8 b2 = noC := Ap.mem' an8 _ (hmb _ _)
 refine xanyl (.tk 1 (.tk 2 (.tk 3 (.tk 4 (.tkl 0 (.or true 5 (.fin) (.nil))))))) (by kernel_rfl) (by kernel_rfl) [penB b2 bw] (Drop.mem (hmb _ _)) ?_
 simp -dsimp -implicitDefEqProofs (disch := first|with_reducible assumption|omega) [go_sem]
 refine Spec.apn (ldue_w (b1 := b1) (b2 := b2) (penB b2 bw :: A) List.mem_cons_self hA (by decide) 37 s.dues da dc rfl (hs.d.up ((((((((le02.trans ln1).trans ln2).trans ln3).trans ln4).trans ln5).trans ln6).trans ln7).trans ln8)) (fun x hx1 => ⟨hs.dd x hx1, wd x hx1⟩) (by omega) kn8 (by omega) fun g9 p9 C9 ln9 en9 kn9 bn9 an9 dn9 => ?_)
 refine xkp ((Drop.forget ln9).trans (Drop.mem (hmb _ _))) ?_
 first | simp -dsimp -implicitDefEqProofs (disch := first|with_reducible assumption|omega) [go_sem] | skip
 have x10a : g9 b1 = noC := Ap.mem' an9 _ (hms _ _)
 have x10b : g9 b2 = noC := Ap.mem' an9 _ (hmb _ _)
 refine xanyl (.tk 1 (.tk 2 (.tk 3 (.tk 4 (.tkl 0 (.or true 5 (.fin) (.nil))))))) (by kernel_rfl) (by kernel_rfl) [penB b2 bw] (Drop.mem (hmb _ _)) ?_
 simp -dsimp -implicitDefEqProofs (disch := first|with_reducible assumption|omega) [go_sem]
 refine Spec.apn (lmot_w (b1 := b1) (b2 := b2) (penB b2 bw :: A) List.mem_cons_self hA (by decide) 38 qm ta tc (by rw [qml]; rfl) (by rw [qml]; exact qm1.up (((((((((le02.trans ln1).trans ln2).trans ln3).trans ln4).trans ln5).trans ln6).trans ln7).trans ln8).trans ln9)) (fun x hx1 => ⟨(qm3 x hx1).up (((((((((le02.trans ln1).trans ln2).trans ln3).trans ln4).trans ln5).trans ln6).trans ln7).trans ln8).trans ln9), wt _ (by rw [← qm2]; exact List.mem_map_of_mem hx1)⟩) (by omega) kn9 (by omega) fun g10 p10 C10 ln10 en10 kn10 bn10 an10 dn10 => ?_)
 refine xkp ((Drop.forget ln10).trans (Drop.mem (hmb _ _))) ?_
 first | simp -dsimp -implicitDefEqProofs (disch := first|with_reducible assumption|omega) [go_sem] | skip
 have x11a : g10 b1 = noC := Ap.mem' an10 _ (hms _ _)
 have x11b : g10 b2 = noC := Ap.mem' an10 _ (hmb _ _)
 refine xanyl (.tk 1 (.tk 2 (.tk 3 (.tkl 0 (.tk 4 (.tk 5 (.tk 6 (.or true 7 (.fin) (.nil))))))))) (by kernel_rfl) (by kernel_rfl) [penB b2 bw] (Drop.mem (hmb _ _)) ?_
 simp -dsimp -implicitDefEqProofs (disch := first|with_reducible assumption|omega) [go_sem, pnW_raw bw]
 refine xcallI (penW_raw bw) ?_
 refine Spec.apn (iraw_w (penB b2 bw :: A) [stB b1 s ⟨.slice pa s.purses.length pc, .slice ma s.members.length mc, .slice ea s.entry.length ec, .slice xa s.exit.length xc, .slice oa s.pool.length oc, .slice da s.dues.length dc, .slice ta s.motions.length tc, .slice ka s.marks.length kc, .slice ra s.ring.length rc⟩] (RdW.mem L g10 hA) ⟨b1, 39, none⟩ (.slice ka s.marks.length kc) s.marks (fun K t => by rw [xCell_own _ _ _ x11a]; exact xFind_mem (L := [stB b1 s ⟨.slice pa s.purses.length pc, .slice ma s.members.length mc, .slice ea s.entry.length ec, .slice xa s.exit.length xc, .slice oa s.pool.length oc, .slice da s.dues.length dc, .slice ta s.motions.length tc, .slice ka s.marks.length kc, .slice ra s.ring.length rc⟩]) (i := 39) (by decide) ⟨trivial, trivial⟩ List.mem_cons_self rfl K ⟨⟩) (hs.k.up ((((((((((le02.trans ln1).trans ln2).trans ln3).trans ln4).trans ln5).trans ln6).trans ln7).trans ln8).trans ln9).trans ln10)) (by omega) kn10 (by omega) fun g11 p11 C11 ln11 en11 kn11 bn11 an11 dn11 => ?_)
 refine xkp ((Drop.forget ln11).trans (Drop.mem (hmb _ _))) ?_
 first | simp -dsimp -implicitDefEqProofs (disch := first|with_reducible assumption|omega) [go_sem] | skip
 have x12a : g11 b1 = noC := Ap.mem' an11 _ (hms _ _)
 have x12b : g11 b2 = noC := Ap.mem' an11 _ (hmb _ _)
 refine xanyl (.tk 1 (.tk 2 (.tk 3 (.tk 4 (.tkl 0 (.or true 5 (.fin) (.nil))))))) (by kernel_rfl) (by kernel_rfl) [penB b2 bw] (Drop.mem (hmb _ _)) ?_
 simp -dsimp -implicitDefEqProofs (disch := first|with_reducible assumption|omega) [go_sem]
 refine Spec.apn (lstr_w (b1 := b1) (b2 := b2) (penB b2 bw :: A) List.mem_cons_self hA (by decide) 40 qr ra rc (by rw [qrl]; rfl) (by rw [qrl]; exact strs_recs (qr1.up (((((((((((le02.trans ln1).trans ln2).trans ln3).trans ln4).trans ln5).trans ln6).trans ln7).trans ln8).trans ln9).trans ln10).trans ln11))) (fun x hx1 => ⟨(qr1.d x hx1).up (((((((((((le02.trans ln1).trans ln2).trans ln3).trans ln4).trans ln5).trans ln6).trans ln7).trans ln8).trans ln9).trans ln10).trans ln11), wr _ (by rw [← qr2]; exact List.mem_map_of_mem hx1)⟩) (by omega) kn11 (by omega) fun g12 p12 C12 ln12 en12 kn12 bn12 an12 dn12 => ?_)
 refine xkp ((Drop.forget ln12).trans (Drop.mem (hmb _ _))) ?_
 first | simp -dsimp -implicitDefEqProofs (disch := first|with_reducible assumption|omega) [go_sem] | skip
 have fq : qm.flatMap motEncQ = s.motions.flatMap motEnc := by rw [← qm2, List.flatMap_map]; rfl
 have fr : qr.flatMap rawEncQ = s.ring.flatMap rawN := by rw [← qr2, xsL, List.flatMap_map]; rfl
 have hB : C12 = B ++ encS s := by
  rw [en12, en11, en10, en9, en8, en7, en6, en5, en4, en3, en2, en1, i4, e1, fq, fr, qml, qrl, hws, encS]
  simp only [List.append_assoc]
 refine ⟨iwO bw p12 C12 A L, g12, ?_, hk g12 p12 C12 (((((((((((((le02.trans ln1).trans ln2).trans ln3).trans ln4).trans ln5).trans ln6).trans ln7).trans ln8).trans ln9).trans ln10).trans ln11).trans ln12)) hB kn12 (by omega)⟩
 exact (Drop.perm _ (List.Perm.swap _ _ _)).trans (Drop.tail _ _ _)
abbrev depV (d : DepD) : Value := .agg #[.int .i64 d.acct, .int .i64 d.mem, .int .u64 d.amt, .bool d.new]
def depB (d : DepD) : Bool := wi d.acct 0 63 && wi d.mem 0 127 && !(d.new && decide (d.mem ≠ 0)) && decide (1 ≤ d.amt) && decide (d.amt ≤ 4611686018427387904)
theorem cloneDep_nil (hk : K (.slice none 0 0) L h) : Spec Tryz.prog 39 [.slice none 0 0] L h K := by
 refine x_enter Tryz.func39 rfl (rs := [_]) rfl rfl mixed (by kernel_rfl) rfl rfl ?_
 simp -dsimp -implicitDefEqProofs (disch := first|with_reducible assumption|omega) [go_sem]
 exact fin_here hk
theorem padd_any (d : DepD) (ok : DepOk d) (hk : ∀ a n c, K (.tuple #[.slice a n c, .int .i64 (if depB d then 0 else 2)]) L h) : Spec Tryz.prog 146 [.slice none 0 0, depV d] L h K := by
 have ua := ok.a
 refine x_enter Tryz.func146 rfl (rs := [_, _]) rfl rfl mixed (by kernel_rfl) rfl rfl ?_
 simp -dsimp -implicitDefEqProofs (disch := first|with_reducible assumption|omega) [go_sem]
 refine xnew fun b1 n_b1 h_b1 => ?_
 try simp only [Apart] at n_b1
 simp -dsimp -implicitDefEqProofs (disch := first|with_reducible assumption|omega) [go_sem]
 refine pwi_any _ _ _ ?_
 cases q1 : wi d.acct 0 63 with
 | false =>
  simp only [depB, q1, Bool.false_and, Bool.false_eq_true, if_false] at hk
  simp -dsimp -implicitDefEqProofs (disch := first|with_reducible assumption|omega) [go_sem]
  exact fin_tail (fin_here (hk none 0 0))
 | true =>
 simp -dsimp -implicitDefEqProofs (disch := first|with_reducible assumption|omega) [go_sem]
 refine pwi_any _ _ _ ?_
 cases q2 : wi d.mem 0 127 with
 | false =>
  simp only [depB, q2, Bool.and_false, Bool.false_and, Bool.false_eq_true, if_false] at hk
  simp -dsimp -implicitDefEqProofs (disch := first|with_reducible assumption|omega) [go_sem]
  exact fin_tail (fin_here (hk none 0 0))
 | true =>
 have fin1 : (d.new && decide (d.mem ≠ 0)) = true → depB d = false := fun e => by simp only [depB, e, Bool.not_true, Bool.and_false, Bool.false_and]
 have rest : (d.new && decide (d.mem ≠ 0)) = false → depB d = (decide (1 ≤ d.amt) && decide (d.amt ≤ 4611686018427387904)) := fun e => by simp only [depB, e, q1, q2, Bool.not_false, Bool.true_and]
 cases q3 : d.new with
 | true =>
  have q3' := q3
  by_cases q4 : d.mem = 0
  ·rw [rest (by simp [q4])] at hk
   by_cases q5 : 1 ≤ d.amt
   ·by_cases q6 : d.amt ≤ 4611686018427387904
    ·rw [decide_eq_true q5, decide_eq_true q6] at hk
     simp -dsimp -implicitDefEqProofs (disch := first|with_reducible assumption|omega) [go_sem]
     refine xanyl (.tk 0 (.tkl 2 (.or true 1 (.or true 3 (.or true 4 (.tk 5 (.tk 6 (.fin))) (.nil)) (.nil)) (.or true 3 (.or true 1 (.or true 4 (.tk 5 (.tk 6 (.fin))) (.nil)) (.nil)) (.nil))))) (by kernel_rfl) (by kernel_rfl) _ (Drop.refl _ _) ?_
     simp -dsimp -implicitDefEqProofs (disch := first|with_reducible assumption|omega) [go_sem]
     refine xpl_or ?_ ?_
     ·simp -dsimp -implicitDefEqProofs (disch := first|with_reducible assumption|omega) [go_sem]
      refine cloneDep_nil ?_
      refine xkp (Drop.refl _ _) ?_
      simp -dsimp -implicitDefEqProofs (disch := first|with_reducible assumption|omega) [go_sem]
      refine xnew fun b2 n_b2 h_b2 => ?_
      try simp only [Apart] at n_b2
      refine xkp (Drop.tail _ _ _) ?_
      simp -dsimp -implicitDefEqProofs (disch := first|with_reducible assumption|omega) [go_sem]
      refine xappend (t := 35) (e := 116) (sz := 4) (bytes := 32) (by kernel_rfl) tI_116 rfl rfl rfl rfl (by decide) [_] _ none 0 [] rfl rfl (Src.own (b := b2) List.mem_cons_self) (m := 1) (news := [.int .i64 d.acct, .int .i64 d.mem, .int .u64 d.amt, .bool true]) rfl (by intro u hu; simp only [List.mem_cons, List.not_mem_nil, or_false] at hu; rcases hu with rfl | rfl | rfl | rfl <;> rfl) (by decide) (by decide) ?_
      intro o' j1 j2 j3
      have ho := ovs_open j1
      obtain ⟨a', c', e', _⟩ := ho
      rw [e']
      simp -dsimp -implicitDefEqProofs (disch := first|with_reducible assumption|omega) [go_sem]
      refine xkp (Drop.trans (Drop.tail _ _ _) (Drop.oent _ _ _ _ _ _)) ?_
      simp -dsimp -implicitDefEqProofs (disch := first|with_reducible assumption|omega) [go_sem]
      exact fin_tail (fin_oent (fin_tail (fin_here (hk _ _ _))))
     ·simp -dsimp -implicitDefEqProofs (disch := first|with_reducible assumption|omega) [go_sem]
      refine xnew fun b2 n_b2 h_b2 => ?_
      try simp only [Apart] at n_b2
      refine xkp (Drop.tail _ _ _) ?_
      simp -dsimp -implicitDefEqProofs (disch := first|with_reducible assumption|omega) [go_sem]
      refine cloneDep_nil ?_
      refine xkp (Drop.tail _ _ _) ?_
      simp -dsimp -implicitDefEqProofs (disch := first|with_reducible assumption|omega) [go_sem]
      refine xappend (t := 35) (e := 116) (sz := 4) (bytes := 32) (by kernel_rfl) tI_116 rfl rfl rfl rfl (by decide) [_] _ none 0 [] rfl rfl (Src.own (b := b2) List.mem_cons_self) (m := 1) (news := [.int .i64 d.acct, .int .i64 d.mem, .int .u64 d.amt, .bool true]) rfl (by intro u hu; simp only [List.mem_cons, List.not_mem_nil, or_false] at hu; rcases hu with rfl | rfl | rfl | rfl <;> rfl) (by decide) (by decide) ?_
      intro o' j1 j2 j3
      have ho := ovs_open j1
      obtain ⟨a', c', e', _⟩ := ho
      rw [e']
      simp -dsimp -implicitDefEqProofs (disch := first|with_reducible assumption|omega) [go_sem]
      refine xkp (Drop.trans (Drop.tail _ _ _) (Drop.oent _ _ _ _ _ _)) ?_
      simp -dsimp -implicitDefEqProofs (disch := first|with_reducible assumption|omega) [go_sem]
      exact fin_tail (fin_oent (fin_tail (fin_here (hk _ _ _))))
    ·simp only [decide_eq_false q6, Bool.and_false, Bool.false_eq_true, if_false] at hk
     simp -dsimp -implicitDefEqProofs (disch := first|with_reducible assumption|omega) [go_sem]
     exact fin_tail (fin_here (hk none 0 0))
   ·simp only [decide_eq_false q5, Bool.false_and, Bool.false_eq_true, if_false] at hk
    simp -dsimp -implicitDefEqProofs (disch := first|with_reducible assumption|omega) [go_sem]
    exact fin_tail (fin_here (hk none 0 0))
  ·rw [fin1 (by simp [q3, q4])] at hk
   simp -dsimp -implicitDefEqProofs (disch := first|with_reducible assumption|omega) [go_sem]
   exact fin_tail (fin_here (hk none 0 0))
 | false =>
  rw [rest (by simp [q3])] at hk
  by_cases q5 : 1 ≤ d.amt
  ·by_cases q6 : d.amt ≤ 4611686018427387904
   ·rw [decide_eq_true q5, decide_eq_true q6] at hk
    simp -dsimp -implicitDefEqProofs (disch := first|with_reducible assumption|omega) [go_sem]
    refine xanyl (.tk 0 (.tkl 2 (.or true 1 (.or true 3 (.or true 4 (.tk 5 (.tk 6 (.fin))) (.nil)) (.nil)) (.or true 3 (.or true 1 (.or true 4 (.tk 5 (.tk 6 (.fin))) (.nil)) (.nil)) (.nil))))) (by kernel_rfl) (by kernel_rfl) _ (Drop.refl _ _) ?_
    simp -dsimp -implicitDefEqProofs (disch := first|with_reducible assumption|omega) [go_sem]
    refine xpl_or ?_ ?_
    ·simp -dsimp -implicitDefEqProofs (disch := first|with_reducible assumption|omega) [go_sem]
     refine cloneDep_nil ?_
     refine xkp (Drop.refl _ _) ?_
     simp -dsimp -implicitDefEqProofs (disch := first|with_reducible assumption|omega) [go_sem]
     refine xnew fun b2 n_b2 h_b2 => ?_
     try simp only [Apart] at n_b2
     refine xkp (Drop.tail _ _ _) ?_
     simp -dsimp -implicitDefEqProofs (disch := first|with_reducible assumption|omega) [go_sem]
     refine xappend (t := 35) (e := 116) (sz := 4) (bytes := 32) (by kernel_rfl) tI_116 rfl rfl rfl rfl (by decide) [_] _ none 0 [] rfl rfl (Src.own (b := b2) List.mem_cons_self) (m := 1) (news := [.int .i64 d.acct, .int .i64 d.mem, .int .u64 d.amt, .bool false]) rfl (by intro u hu; simp only [List.mem_cons, List.not_mem_nil, or_false] at hu; rcases hu with rfl | rfl | rfl | rfl <;> rfl) (by decide) (by decide) ?_
     intro o' j1 j2 j3
     have ho := ovs_open j1
     obtain ⟨a', c', e', _⟩ := ho
     rw [e']
     simp -dsimp -implicitDefEqProofs (disch := first|with_reducible assumption|omega) [go_sem]
     refine xkp (Drop.trans (Drop.tail _ _ _) (Drop.oent _ _ _ _ _ _)) ?_
     simp -dsimp -implicitDefEqProofs (disch := first|with_reducible assumption|omega) [go_sem]
     exact fin_tail (fin_oent (fin_tail (fin_here (hk _ _ _))))
    ·simp -dsimp -implicitDefEqProofs (disch := first|with_reducible assumption|omega) [go_sem]
     refine xnew fun b2 n_b2 h_b2 => ?_
     try simp only [Apart] at n_b2
     refine xkp (Drop.tail _ _ _) ?_
     simp -dsimp -implicitDefEqProofs (disch := first|with_reducible assumption|omega) [go_sem]
     refine cloneDep_nil ?_
     refine xkp (Drop.tail _ _ _) ?_
     simp -dsimp -implicitDefEqProofs (disch := first|with_reducible assumption|omega) [go_sem]
     refine xappend (t := 35) (e := 116) (sz := 4) (bytes := 32) (by kernel_rfl) tI_116 rfl rfl rfl rfl (by decide) [_] _ none 0 [] rfl rfl (Src.own (b := b2) List.mem_cons_self) (m := 1) (news := [.int .i64 d.acct, .int .i64 d.mem, .int .u64 d.amt, .bool false]) rfl (by intro u hu; simp only [List.mem_cons, List.not_mem_nil, or_false] at hu; rcases hu with rfl | rfl | rfl | rfl <;> rfl) (by decide) (by decide) ?_
     intro o' j1 j2 j3
     have ho := ovs_open j1
     obtain ⟨a', c', e', _⟩ := ho
     rw [e']
     simp -dsimp -implicitDefEqProofs (disch := first|with_reducible assumption|omega) [go_sem]
     refine xkp (Drop.trans (Drop.tail _ _ _) (Drop.oent _ _ _ _ _ _)) ?_
     simp -dsimp -implicitDefEqProofs (disch := first|with_reducible assumption|omega) [go_sem]
     exact fin_tail (fin_oent (fin_tail (fin_here (hk _ _ _))))
   ·simp only [decide_eq_false q6, Bool.and_false, Bool.false_eq_true, if_false] at hk
    simp -dsimp -implicitDefEqProofs (disch := first|with_reducible assumption|omega) [go_sem]
    exact fin_tail (fin_here (hk none 0 0))
  ·simp only [decide_eq_false q5, Bool.false_and, Bool.false_eq_true, if_false] at hk
   simp -dsimp -implicitDefEqProofs (disch := first|with_reducible assumption|omega) [go_sem]
   exact fin_tail (fin_here (hk none 0 0))
def dep1B (s : StD) (d : DepD) : Bool := depB d && acctB s d.acct && (d.new || wi d.mem 0 ((s.members.length : Int) - 1))
def due1B (s : StD) (d : DueD) : Bool := acctB s d.acct && wi d.at' 0 2147483647 && decide (1 ≤ d.amt) && decide (d.amt ≤ 4611686018427387904)
def metB (l : List DueD) (k : Nat) : Bool := (List.range k).any fun j => decide ((gr zeroDue l k).acct = (gr zeroDue l j).acct) && decide ((gr zeroDue l k).at' = (gr zeroDue l j).at')
def ordB (l : List DueD) (k : Nat) : Bool := decide (k = 0) || decide ((gr zeroDue l (k - 1)).at' ≤ (gr zeroDue l k).at')
def dueB (s : StD) (k : Nat) : Bool := due1B s (gr zeroDue s.dues k) && !metB s.dues k && ordB s.dues k
def duesB (s : StD) : Bool := (List.range s.dues.length).all (dueB s)
def poolsB (s : StD) : Bool := decide (s.pool.length ≤ 256) && s.pool.all (dep1B s) && duesB s
theorem dueMap : Tryz.prog.underlying 243 = some (.map 46 4) := by kernel_rfl
theorem dueKey : KeyT Tryz.prog 46 [.i64, .i64, .u64] := ⟨by kernel_rfl, by kernel_rfl, by kernel_rfl⟩
theorem zeroBool (W : World) : (zeroValue 4 : Sem Value).run Tryz.prog W = .ok (.bool false) W := by kernel_rfl
def keyD (d : DueD) : List Int := [d.acct, d.at', 0]
def esD (l : List DueD) (k : Nat) : List (List Int × Value) := (l.take k).map fun d => (keyD d, .bool true)
theorem esD_succ {l : List DueD} {k : Nat} (hk : k < l.length) : esD l (k + 1) = esD l k ++ [(keyD (gr zeroDue l k), .bool true)] := by
 rw [gr_lt hk, esD, esD, List.take_succ_eq_append_getElem hk, List.map_append]; rfl
theorem esD_len (l : List DueD) (k : Nat) : ∀ e ∈ esD l k, e.1.length = 3 := fun e he => by
 obtain ⟨d, _, rfl⟩ := List.mem_map.1 he; rfl
theorem getK_none {es : List (List Int × Value)} {n : List Int} (h : ∀ e ∈ es, e.1 ≠ n) : getK es n = none := by
 induction es with
 | nil => rfl
 | cons e es ih => rw [getK, if_neg (fun c => h e (by simp) c.symm)]; exact ih fun x hx => h x (by simp [hx])
theorem getK_some {es : List (List Int × Value)} {n : List Int} {v : Value} (h : ∃ e ∈ es, e.1 = n) (hv : ∀ e ∈ es, e.2 = v) : getK es n = some v := by
 induction es with
 | nil => obtain ⟨e, he, _⟩ := h; cases he
 | cons e es ih =>
  rw [getK]
  split
  ·rw [hv e (by simp)]
  ·rename_i c
   refine ih ?_ fun x hx => hv x (by simp [hx])
   obtain ⟨x, hx, hxe⟩ := h
   rcases List.mem_cons.1 hx with rfl | hx
   ·exact absurd hxe.symm c
   ·exact ⟨x, hx, hxe⟩
theorem keyD_eq {a b : DueD} : keyD a = keyD b ↔ a.acct = b.acct ∧ a.at' = b.at' := by simp [keyD]
theorem met_get {l : List DueD} {k : Nat} (hk : k < l.length) : (metB l k = false → getK (esD l k) (keyD (gr zeroDue l k)) = none) ∧ (metB l k = true → getK (esD l k) (keyD (gr zeroDue l k)) = some (.bool true)) := by
 constructor
 ·intro hm
  rw [metB, List.any_eq_false] at hm
  refine getK_none fun e he hc => ?_
  obtain ⟨d, hd, rfl⟩ := List.mem_map.1 he
  obtain ⟨j, hj, rfl⟩ := List.mem_iff_getElem.1 hd
  simp only [List.length_take] at hj
  have := hm j (List.mem_range.2 (by omega))
  rw [List.getElem_take] at hc
  have hc' := keyD_eq.1 hc
  rw [gr_lt (l := l) (i := j) (by omega)] at this
  simp [hc'.1, hc'.2] at this
 ·intro hm
  rw [metB, List.any_eq_true] at hm
  obtain ⟨j, hj, hq⟩ := hm
  have hj' := List.mem_range.1 hj
  simp only [Bool.and_eq_true, decide_eq_true_eq] at hq
  refine getK_some ⟨(keyD (gr zeroDue l j), .bool true), ?_, keyD_eq.2 ⟨hq.1.symm, hq.2.symm⟩⟩ fun e he => ?_
  ·refine List.mem_map.2 ⟨gr zeroDue l j, ?_, rfl⟩
   rw [gr_lt (by omega)]
   exact List.mem_iff_getElem.2 ⟨j, by simp; omega, by simp⟩
  ·obtain ⟨d, _, rfl⟩ := List.mem_map.1 he; rfl
theorem met_val {l : List DueD} {k : Nat} (hk : k < l.length) : (getK (esD l k) (keyD (gr zeroDue l k))).getD (.bool false) = .bool (metB l k) := by
 cases hm : metB l k with
 | false => rw [(met_get hk).1 hm]; rfl
 | true => rw [(met_get hk).2 hm]; rfl
theorem not_duesB {s : StD} {k : Nat} (hk : k < s.dues.length) (hq : dueB s k = false) : duesB s = false := by
 rw [duesB, List.all_eq_false]; exact ⟨k, List.mem_range.2 hk, by simp [hq]⟩
theorem pools_any {s : StD} (v : SV) (hs : IsSt h v s) (few : FewS s) (hk : K (.bool (poolsB s)) L h) : Spec Tryz.prog 79 [stV s v] L h K := by
 obtain ⟨pa, pc, ma, mc, ea, ec, xa, xc, oa, oc, da, dc, ta, tc, ka, kc, ra, rc, rfl⟩ := hs.slices
 have ho : Recs depC 4 h (.slice oa s.pool.length oc) s.pool := hs.o
 have hd : Recs dueC 3 h (.slice da s.dues.length dc) s.dues := hs.d
 have fm := few.m
 have fo := few.o
 have fd := few.d
 unfold poolsB at hk
 refine x_enter Tryz.func79 rfl (rs := [_]) rfl rfl mixed (by kernel_rfl) rfl rfl ?_
 simp -dsimp -implicitDefEqProofs (disch := first|with_reducible assumption|omega) [go_sem]
 refine xnew fun b1 n_b1 h_b1 => ?_
 try simp only [Apart] at n_b1
 simp -dsimp -implicitDefEqProofs (disch := first|with_reducible assumption|omega) [go_sem]
 by_cases c0 : s.pool.length ≤ 256
 ·rw [decide_eq_true c0, Bool.true_and] at hk
  simp -dsimp -implicitDefEqProofs (disch := first|with_reducible assumption|omega) [go_sem]
  refine xloop (0 : Nat) (fun k => k ≤ s.pool.length ∧ ∀ j, j < k → dep1B s (gr zeroDep s.pool j) = true) (fun k => [(20, .int .i64 k), (19, .int .i64 s.pool.length), (18, .slice oa s.pool.length oc), (1, .pointer (some ⟨b1, 0, none⟩))]) (fun _ => ⟨b1, 166, stC s ⟨.slice pa s.purses.length pc, .slice ma s.members.length mc, .slice ea s.entry.length ec, .slice xa s.exit.length xc, .slice oa s.pool.length oc, .slice da s.dues.length dc, .slice ta s.motions.length tc, .slice ka s.marks.length kc, .slice ra s.ring.length rc⟩, 41⟩ :: L) (fun _ => h) (fun k => s.pool.length - k) ?_ ?_ ?_ ?_
  ·exact ⟨Nat.zero_le _, fun j hj => by omega⟩
  ·simp [Ent, List.lookup, xEnv]
  ·exact Drop.refl _ _
  rintro k ⟨k1, k2⟩
  by_cases c1 : k < s.pool.length
  ·have hxo := hs.oo (gr zeroDep s.pool k) (by rw [gr_lt c1]; exact List.getElem_mem c1)
   simp -dsimp -implicitDefEqProofs (disch := first|with_reducible assumption|omega) [go_sem, ↓idxR zeroDep (by decide) ho, depC]
   refine xnew fun b2 n_b2 h_b2 => ?_
   try simp only [Apart] at n_b2
   simp -dsimp -implicitDefEqProofs (disch := first|with_reducible assumption|omega) [go_sem, depC]
   refine padd_any (gr zeroDep s.pool k) hxo fun a' n' c' => ?_
   cases q1 : depB (gr zeroDep s.pool k) with
   | false =>
    rw [not_all_gr zeroDep _ _ c1 (by simp only [dep1B, q1, Bool.false_and])] at hk
    simp -dsimp -implicitDefEqProofs (disch := first|with_reducible assumption|omega) [go_sem]
    exact fin_tail (fin_tail (fin_here (by simpa using hk)))
   | true =>
   simp -dsimp -implicitDefEqProofs (disch := first|with_reducible assumption|omega) [go_sem]
   refine account_any _ hs few _ ?_
   cases q2 : acctB s (gr zeroDep s.pool k).acct with
   | false =>
    rw [not_all_gr zeroDep _ _ c1 (by simp only [dep1B, q2, Bool.and_false, Bool.false_and])] at hk
    simp -dsimp -implicitDefEqProofs (disch := first|with_reducible assumption|omega) [go_sem]
    exact fin_tail (fin_tail (fin_here (by simpa using hk)))
   | true =>
   have next : dep1B s (gr zeroDep s.pool k) = true → ∀ j, j < k + 1 → dep1B s (gr zeroDep s.pool j) = true := fun hq j hj => by
    by_cases e : j = k
    ·subst e; exact hq
    ·exact k2 j (by omega)
   cases q3 : (gr zeroDep s.pool k).new with
   | true =>
    simp -dsimp -implicitDefEqProofs (disch := first|with_reducible assumption|omega) [go_sem]
    exact ⟨k + 1, ⟨by omega, next (by simp only [dep1B, q1, q2, q3, Bool.true_and, Bool.true_or])⟩, by omega, by simp [Ent, List.lookup], Drop.tail _ _ _⟩
   | false =>
    simp -dsimp -implicitDefEqProofs (disch := first|with_reducible assumption|omega) [go_sem]
    refine swi_any _ _ _ ?_
    cases q4 : wi (gr zeroDep s.pool k).mem 0 ((s.members.length : Int) - 1) with
    | false =>
     rw [not_all_gr zeroDep _ _ c1 (by simp only [dep1B, q3, q4, Bool.or_self, Bool.and_false])] at hk
     simp -dsimp -implicitDefEqProofs (disch := first|with_reducible assumption|omega) [go_sem]
     exact fin_tail (fin_tail (fin_here (by simpa using hk)))
    | true =>
     simp -dsimp -implicitDefEqProofs (disch := first|with_reducible assumption|omega) [go_sem]
     exact ⟨k + 1, ⟨by omega, next (by simp only [dep1B, q1, q2, q3, q4, Bool.true_and, Bool.false_or])⟩, by omega, by simp [Ent, List.lookup], Drop.tail _ _ _⟩
  ·have hkl : k = s.pool.length := by omega
   subst hkl
   rw [all_gr zeroDep _ _ k2, Bool.true_and] at hk
   simp -dsimp -implicitDefEqProofs (disch := first|with_reducible assumption|omega) [go_sem]
   refine xnewmap fun bm n_bm h_bm => ?_
   try simp only [Apart] at n_bm
   simp -dsimp -implicitDefEqProofs (disch := first|with_reducible assumption|omega) [go_sem]
   refine xloop (0 : Nat) (fun k => k ≤ s.dues.length ∧ ∀ j, j < k → dueB s j = true) (fun k => [(60, .int .i64 k), (59, .int .i64 s.dues.length), (58, .slice da s.dues.length dc), (7, .map (some bm)), (1, .pointer (some ⟨b1, 0, none⟩))]) (fun k => ⟨bm, 4294967295, entK [.i64, .i64, .u64] (esD s.dues k), 0⟩ :: ⟨b1, 166, stC s ⟨.slice pa s.purses.length pc, .slice ma s.members.length mc, .slice ea s.entry.length ec, .slice xa s.exit.length xc, .slice oa s.pool.length oc, .slice da s.dues.length dc, .slice ta s.motions.length tc, .slice ka s.marks.length kc, .slice ra s.ring.length rc⟩, 41⟩ :: L) (fun _ => h) (fun k => s.dues.length - k) ?_ ?_ ?_ ?_
   ·exact ⟨Nat.zero_le _, fun j hj => by omega⟩
   ·simp [Ent, List.lookup, xEnv]
   ·exact Drop.refl _ _
   rintro k ⟨k1, k2⟩
   by_cases c1 : k < s.dues.length
   ·have hxo := hs.dd (gr zeroDue s.dues k) (by rw [gr_lt c1]; exact List.getElem_mem c1)
    have ua := hxo.a
    simp -dsimp -implicitDefEqProofs (disch := first|with_reducible assumption|omega) [go_sem, ↓idxR zeroDue (by decide) hd, dueC]
    refine xnew fun b9 n_b9 h_b9 => ?_
    try simp only [Apart] at n_b9
    simp -dsimp -implicitDefEqProofs (disch := first|with_reducible assumption|omega) [go_sem, dueC]
    refine xnew fun b10 n_b10 h_b10 => ?_
    try simp only [Apart] at n_b10
    simp -dsimp -implicitDefEqProofs (disch := first|with_reducible assumption|omega) [go_sem, dueC]
    refine xdraw (by kernel_rfl) rfl ?_
    simp -dsimp -implicitDefEqProofs (disch := first|with_reducible assumption|omega) [go_sem]
    have key : dueB s k = true → ∀ j, j < k + 1 → dueB s j = true := fun hq j hj => by
     by_cases e : j = k
     ·subst e; exact hq
     ·exact k2 j (by omega)
    refine xdcall _ (account_any _ hs few _ ⟨rfl, rfl, rfl⟩) ?_
    cases q1 : acctB s (gr zeroDue s.dues k).acct with
    | false =>
     rw [not_duesB c1 (by simp only [dueB, due1B, q1, Bool.and_false, Bool.false_and, Bool.not_true])] at hk
     simp -dsimp -implicitDefEqProofs (disch := first|with_reducible assumption|omega) [go_sem]
     exact fin_tail (fin_tail (fin_tail (fin_tail (fin_here hk))))
    | true =>
    simp -dsimp -implicitDefEqProofs (disch := first|with_reducible assumption|omega) [go_sem]
    refine xdcall _ (swi_any _ _ _ ⟨rfl, rfl, rfl⟩) ?_
    cases q2 : wi (gr zeroDue s.dues k).at' 0 2147483647 with
    | false =>
     rw [not_duesB c1 (by simp only [dueB, due1B, q2, Bool.and_false, Bool.false_and, Bool.not_true])] at hk
     simp -dsimp -implicitDefEqProofs (disch := first|with_reducible assumption|omega) [go_sem]
     exact fin_tail (fin_tail (fin_tail (fin_tail (fin_here hk))))
    | true =>
    by_cases q3 : 1 ≤ (gr zeroDue s.dues k).amt
    ·by_cases q4 : (gr zeroDue s.dues k).amt ≤ 4611686018427387904
     ·simp -dsimp -implicitDefEqProofs (disch := first|with_reducible assumption|omega) [go_sem]
      refine xlookup_k (n := keyD (gr zeroDue s.dues k)) dueMap dueKey zeroBool rfl (esD s.dues k) (esD_len _ _) (List.mem_cons_of_mem _ (List.mem_cons_of_mem _ List.mem_cons_self)) ?_
      rw [met_val c1]
      simp only [Bool.false_eq_true, if_false]
      cases q5 : metB s.dues k with
      | true =>
       rw [not_duesB c1 (by simp only [dueB, due1B, q5, Bool.and_false, Bool.false_and, Bool.not_true])] at hk
       simp -dsimp -implicitDefEqProofs (disch := first|with_reducible assumption|omega) [go_sem]
       exact fin_tail (fin_tail (fin_tail (fin_tail (fin_here hk))))
      | false =>
      by_cases c2 : k = 0
      ·have q6 : ordB s.dues k = true := by simp [ordB, c2]
       have c3 : ¬ (0 < (k : Int)) := by omega
       simp -dsimp -implicitDefEqProofs (disch := first|with_reducible assumption|omega) [go_sem]
       refine xupdate_k (n := keyD (gr zeroDue s.dues k)) dueMap dueKey rfl [_, _] _ (esD s.dues k) (esD_len _ _) ((met_get c1).1 q5) ?_
       rw [← esD_succ c1]
       simp -dsimp -implicitDefEqProofs (disch := first|with_reducible assumption|omega) [go_sem]
       exact ⟨k + 1, ⟨by omega, key (by simp only [dueB, due1B, q1, q2, q5, q6, decide_eq_true q3, decide_eq_true q4, Bool.and_self, Bool.not_false])⟩, by omega, by simp [Ent, List.lookup], Drop.trans (Drop.tail _ _ _) (Drop.tail _ _ _)⟩
      ·have e1 : ((k : Int) - 1).toNat = k - 1 := by omega
       by_cases c4 : (gr zeroDue s.dues (k - 1)).at' ≤ (gr zeroDue s.dues k).at'
       ·have q6 : ordB s.dues k = true := by simp [ordB, c4]
        simp -dsimp -implicitDefEqProofs (disch := first|with_reducible assumption|omega) [go_sem, ↓idxR zeroDue (by decide) hd, e1]
        refine (Recs.fld zeroDue hd (j := k - 1) (o := 1) (by omega) (u := .int .i64 (gr zeroDue s.dues (k - 1)).at') rfl _ _ _).mpr ?_
        simp -dsimp -implicitDefEqProofs (disch := first|with_reducible assumption|omega) [go_sem]
        refine xupdate_k (n := keyD (gr zeroDue s.dues k)) dueMap dueKey rfl [_, _] _ (esD s.dues k) (esD_len _ _) ((met_get c1).1 q5) ?_
        rw [← esD_succ c1]
        simp -dsimp -implicitDefEqProofs (disch := first|with_reducible assumption|omega) [go_sem]
        exact ⟨k + 1, ⟨by omega, key (by simp only [dueB, due1B, q1, q2, q5, q6, decide_eq_true q3, decide_eq_true q4, Bool.and_self, Bool.not_false])⟩, by omega, by simp [Ent, List.lookup], Drop.trans (Drop.tail _ _ _) (Drop.tail _ _ _)⟩
       ·have q6 : ordB s.dues k = false := by simp [ordB, c2, c4]
        simp -dsimp -implicitDefEqProofs (disch := first|with_reducible assumption|omega) [go_sem, ↓idxR zeroDue (by decide) hd, e1]
        refine (Recs.fld zeroDue hd (j := k - 1) (o := 1) (by omega) (u := .int .i64 (gr zeroDue s.dues (k - 1)).at') rfl _ _ _).mpr ?_
        rw [not_duesB c1 (by simp only [dueB, due1B, q6, Bool.and_false, Bool.false_and, Bool.not_true])] at hk
        simp -dsimp -implicitDefEqProofs (disch := first|with_reducible assumption|omega) [go_sem]
        exact fin_tail (fin_tail (fin_tail (fin_tail (fin_here hk))))
     ·have q4' := decide_eq_false q4
      rw [not_duesB c1 (by simp only [dueB, due1B, q4', Bool.and_false, Bool.false_and, Bool.not_true])] at hk
      simp -dsimp -implicitDefEqProofs (disch := first|with_reducible assumption|omega) [go_sem]
      exact fin_tail (fin_tail (fin_tail (fin_tail (fin_here hk))))
    ·have q3' := decide_eq_false q3
     rw [not_duesB c1 (by simp only [dueB, due1B, q3', Bool.and_false, Bool.false_and, Bool.not_true])] at hk
     simp -dsimp -implicitDefEqProofs (disch := first|with_reducible assumption|omega) [go_sem]
     exact fin_tail (fin_tail (fin_tail (fin_tail (fin_here hk))))
   ·have hkl : k = s.dues.length := by omega
    subst hkl
    have hq : duesB s = true := by
     rw [duesB, List.all_eq_true]
     exact fun j hj => k2 j (List.mem_range.1 hj)
    rw [hq] at hk
    simp -dsimp -implicitDefEqProofs (disch := first|with_reducible assumption|omega) [go_sem]
    exact fin_tail (fin_tail (fin_here hk))
 ·rw [decide_eq_false c0] at hk
  simp -dsimp -implicitDefEqProofs (disch := first|with_reducible assumption|omega) [go_sem]
  exact fin_tail (fin_here (by simpa using hk))
def fitsS (s : StD) : Bool := parR s.par && wi s.ep 0 1073741824 && wi s.calm 0 1073741824 && pursesB s && membersB s && poolsB s && motionsB s && marksB s && holdsB s
theorem fits_any {s : StD} (v : SV) (hs : IsSt h v s) (few : FewS s) (hk : K (.bool (fitsS s)) L h) : Spec Tryz.prog 21 [stV s v] L h K := by
 obtain ⟨pa, pc, ma, mc, ea, ec, xa, xc, oa, oc, da, dc, ta, tc, ka, kc, ra, rc, rfl⟩ := hs.slices
 refine x_enter Tryz.func21 rfl (rs := [_]) rfl rfl mixed (by kernel_rfl) rfl rfl ?_
 simp -dsimp -implicitDefEqProofs (disch := first|with_reducible assumption|omega) [go_sem]
 refine xnew fun b1 n_b1 h_b1 => ?_
 try simp only [Apart] at n_b1
 simp -dsimp -implicitDefEqProofs (disch := first|with_reducible assumption|omega) [go_sem]
 refine xnew fun b2 n_b2 h_b2 => ?_
 try simp only [Apart] at n_b2
 simp -dsimp -implicitDefEqProofs (disch := first|with_reducible assumption|omega) [go_sem]
 refine pcheck0 s.par hs.ok.p ?_
 cases q1 : parR s.par with
 | false =>
  simp only [fitsS, q1, Bool.false_and] at hk
  simp -dsimp -implicitDefEqProofs (disch := first|with_reducible assumption|omega) [go_sem]
  exact fin_tail (fin_tail (fin_here hk))
 | true =>
 simp -dsimp -implicitDefEqProofs (disch := first|with_reducible assumption|omega) [go_sem]
 refine swi_any _ _ _ ?_
 cases q2 : wi s.ep 0 1073741824 with
 | false =>
  simp only [fitsS, q2, Bool.and_false, Bool.false_and] at hk
  simp -dsimp -implicitDefEqProofs (disch := first|with_reducible assumption|omega) [go_sem]
  exact fin_tail (fin_tail (fin_here hk))
 | true =>
 simp -dsimp -implicitDefEqProofs (disch := first|with_reducible assumption|omega) [go_sem]
 refine swi_any _ _ _ ?_
 cases q3 : wi s.calm 0 1073741824 with
 | false =>
  simp only [fitsS, q3, Bool.and_false, Bool.false_and] at hk
  simp -dsimp -implicitDefEqProofs (disch := first|with_reducible assumption|omega) [go_sem]
  exact fin_tail (fin_tail (fin_here hk))
 | true =>
 simp -dsimp -implicitDefEqProofs (disch := first|with_reducible assumption|omega) [go_sem]
 refine purses_any (s := s) ⟨.slice pa s.purses.length pc, .slice ma s.members.length mc, .slice ea s.entry.length ec, .slice xa s.exit.length xc, .slice oa s.pool.length oc, .slice da s.dues.length dc, .slice ta s.motions.length tc, .slice ka s.marks.length kc, .slice ra s.ring.length rc⟩ hs few ?_
 cases q4 : pursesB s with
 | false =>
  simp only [fitsS, q4, Bool.and_false, Bool.false_and] at hk
  simp -dsimp -implicitDefEqProofs (disch := first|with_reducible assumption|omega) [go_sem]
  exact fin_tail (fin_tail (fin_here hk))
 | true =>
 simp -dsimp -implicitDefEqProofs (disch := first|with_reducible assumption|omega) [go_sem]
 refine members_any (s := s) ⟨.slice pa s.purses.length pc, .slice ma s.members.length mc, .slice ea s.entry.length ec, .slice xa s.exit.length xc, .slice oa s.pool.length oc, .slice da s.dues.length dc, .slice ta s.motions.length tc, .slice ka s.marks.length kc, .slice ra s.ring.length rc⟩ hs few q1 ?_
 cases q5 : membersB s with
 | false =>
  simp only [fitsS, q5, Bool.and_false, Bool.false_and] at hk
  simp -dsimp -implicitDefEqProofs (disch := first|with_reducible assumption|omega) [go_sem]
  exact fin_tail (fin_tail (fin_here hk))
 | true =>
 simp -dsimp -implicitDefEqProofs (disch := first|with_reducible assumption|omega) [go_sem]
 refine pools_any (s := s) ⟨.slice pa s.purses.length pc, .slice ma s.members.length mc, .slice ea s.entry.length ec, .slice xa s.exit.length xc, .slice oa s.pool.length oc, .slice da s.dues.length dc, .slice ta s.motions.length tc, .slice ka s.marks.length kc, .slice ra s.ring.length rc⟩ hs few ?_
 cases q6 : poolsB s with
 | false =>
  simp only [fitsS, q6, Bool.and_false, Bool.false_and] at hk
  simp -dsimp -implicitDefEqProofs (disch := first|with_reducible assumption|omega) [go_sem]
  exact fin_tail (fin_tail (fin_here hk))
 | true =>
 simp -dsimp -implicitDefEqProofs (disch := first|with_reducible assumption|omega) [go_sem]
 refine motions_any (s := s) ⟨.slice pa s.purses.length pc, .slice ma s.members.length mc, .slice ea s.entry.length ec, .slice xa s.exit.length xc, .slice oa s.pool.length oc, .slice da s.dues.length dc, .slice ta s.motions.length tc, .slice ka s.marks.length kc, .slice ra s.ring.length rc⟩ hs few ?_
 cases q7 : motionsB s with
 | false =>
  simp only [fitsS, q7, Bool.and_false, Bool.false_and] at hk
  simp -dsimp -implicitDefEqProofs (disch := first|with_reducible assumption|omega) [go_sem]
  exact fin_tail (fin_tail (fin_here hk))
 | true =>
 simp -dsimp -implicitDefEqProofs (disch := first|with_reducible assumption|omega) [go_sem]
 refine marks_any (s := s) ⟨.slice pa s.purses.length pc, .slice ma s.members.length mc, .slice ea s.entry.length ec, .slice xa s.exit.length xc, .slice oa s.pool.length oc, .slice da s.dues.length dc, .slice ta s.motions.length tc, .slice ka s.marks.length kc, .slice ra s.ring.length rc⟩ hs few ?_
 cases q8 : marksB s with
 | false =>
  simp only [fitsS, q8, Bool.and_false, Bool.false_and] at hk
  simp -dsimp -implicitDefEqProofs (disch := first|with_reducible assumption|omega) [go_sem]
  exact fin_tail (fin_tail (fin_here hk))
 | true =>
 simp only [fitsS, q1, q2, q3, q4, q5, q6, q7, q8, Bool.and_self, Bool.true_and] at hk
 simp -dsimp -implicitDefEqProofs (disch := first|with_reducible assumption|omega) [go_sem]
 refine holds_any (s := s) ⟨.slice pa s.purses.length pc, .slice ma s.members.length mc, .slice ea s.entry.length ec, .slice xa s.exit.length xc, .slice oa s.pool.length oc, .slice da s.dues.length dc, .slice ta s.motions.length tc, .slice ka s.marks.length kc, .slice ra s.ring.length rc⟩ hs few ?_
 simp -dsimp -implicitDefEqProofs (disch := first|with_reducible assumption|omega) [go_sem]
 exact fin_tail (fin_tail (fin_here hk))
end Go.X

/- Lemmas and contracts for a statement about the given program. Conditions: as each says. -/
import Derived.Test.YtmkekhodcacfbaaGreatQ35
set_option linter.unusedVariables false
set_option linter.unusedSimpArgs false
set_option maxHeartbeats 12800000
set_option maxRecDepth 20000
namespace Go.X
open Go.RowKit Go.Proofs Go.Bl
variable {L : Own} {h : PH} {K : PK}
theorem sprizes_nil {s : StD} (v : SV) (hs0 : IsSt h v s) (H : SlH s) (bh : Nat) (sa na : Option Addr) (sc nc : Nat)
  (hk : ∀ h', PH.le h h' → K (.tuple #[]) (shB bh s v (modeS s) (actS s) (.slice sa 0 sc) (.slice na 0 nc) :: L) h') :
  Spec Tryz.prog 32 [.pointer (some ⟨bh, 0, none⟩)] (shB bh s v (modeS s) (actS s) (.slice sa 0 sc) (.slice na 0 nc) :: L) h K := by
 have hs := hs0
 obtain ⟨pa, pc, ma, mc, ea, ec, xa, xc, oa, oc, da, dc, ta, tc, ka, kc, ra, rc, rfl⟩ := hs.slices
 have hgm := H.gm
 have hmo := H.most
 have hac := actS_b H
 simp only [shB, stC, List.cons_append, List.nil_append] at hk ⊢
 refine x_enterA Tryz.func32 rfl (rs := []) rfl rfl mixed (by kernel_rfl) rfl rfl fun ap nd => ?_
 have hbh : h bh = noC := ap.1
 clear ap nd
 simp -dsimp -implicitDefEqProofs (disch := first|with_reducible assumption|omega) [go_sem]
 refine xloop' (γ := Unit) () (fun _ => True) (fun _ => [(16, .int .i64 0), (15, .int .i64 0), (2, .slice none 0 0), (0, .pointer (some ⟨bh, 0, none⟩))]) (fun _ => 0) trivial (by simp [Ent, List.lookup, xEnv]) ?_
 intro _ _
 simp -dsimp -implicitDefEqProofs (disch := first|with_reducible assumption|omega) [go_sem]
 refine xanyl (.tk 0 (.tk 1 (.tk 2 (.tk 3 (.tk 5 (.tk 6 (.tk 7 (.tk 9 (.tk 10 (.tk 11 (.tk 12 (.tk 14 (.tk 15 (.tk 16 (.tk 17 (.tk 20 (.tk 21 (.tk 22 (.tk 23 (.tk 25 (.tk 26 (.tk 27 (.tkl 4 (.tkl 8 (.tkl 13 (.tkl 18 (.tk 19 (.tkl 24 (.tkl 28 (.or true 29 (.tk 30 (.fin)) (.nil))))))))))))))))))))))))))))))) (by kernel_rfl) (by kernel_rfl) _ (Drop.refl _ _) ?_
 simp -dsimp -implicitDefEqProofs (disch := first|with_reducible assumption|omega) [go_sem]
 refine Spec.ap (bmint_any s.par H.ok H.r (actS s) (s.gen + s.mint) s.most (modeS s) (by omega) (by omega) (by omega) fun h1 le1 ap => ?_)
 have hbh1 : h1 bh = noC := ap.1
 clear ap
 rw [show mintP s.par (actS s) (s.gen + s.mint) s.most (modeS s) = mintS s from rfl]
 refine xkp (Drop.forget le1) ?_
 have hmb := mintS_b H
 simp -dsimp -implicitDefEqProofs (disch := first|with_reducible assumption|omega) [go_sem]
 refine Spec.ap (prizes_any (l := []) s.par H.ok H.r _ (Recs.nil sdC_len h1) (fun x hx => by cases hx) (by decide) (mintS s) hmb fun h3 r3 le3 i4 ap => ?_)
 have hbh3 : h3 bh = noC := ap.1
 clear ap
 obtain ⟨pa0, pc0, rfl, _⟩ := i4.open
 simp -dsimp -implicitDefEqProofs (disch := first|with_reducible assumption|omega) [go_sem]
 refine xloop' (γ := Unit) () (fun _ => True) (fun _ => [(83, .int .i64 0), (82, .int .i64 0)]) (fun _ => 0) trivial (by simp [Ent, List.lookup]) ?_
 intro _ _
 simp -dsimp -implicitDefEqProofs (disch := first|with_reducible assumption|omega) [go_sem]
 exact fin_here (hk h3 (le1.trans le3))
theorem sfines_nil {s : StD} (v : SV) (hs0 : IsSt h v s) (bh : Nat) (sa na : Option Addr) (sc nc : Nat)
  (hk : K (.tuple #[]) (shB bh s v (modeS s) (actS s) (.slice sa 0 sc) (.slice na 0 nc) :: L) h) :
  Spec Tryz.prog 33 [.pointer (some ⟨bh, 0, none⟩)] (shB bh s v (modeS s) (actS s) (.slice sa 0 sc) (.slice na 0 nc) :: L) h K := by
 have hs := hs0
 obtain ⟨pa, pc, ma, mc, ea, ec, xa, xc, oa, oc, da, dc, ta, tc, ka, kc, ra, rc, rfl⟩ := hs.slices
 simp only [shB, stC, List.cons_append, List.nil_append] at hk ⊢
 refine x_enterA Tryz.func33 rfl (rs := []) rfl rfl mixed (by kernel_rfl) rfl rfl fun ap nd => ?_
 have hbh : h bh = noC := ap.1
 clear ap nd
 simp -dsimp -implicitDefEqProofs (disch := first|with_reducible assumption|omega) [go_sem]
 refine xloop' (γ := Unit) () (fun _ => True) (fun _ => [(12, .int .i64 0), (11, .int .i64 0)]) (fun _ => 0) trivial (by simp [Ent, List.lookup, xEnv]) ?_
 intro _ _
 simp -dsimp -implicitDefEqProofs (disch := first|with_reducible assumption|omega) [go_sem]
 exact fin_here hk
theorem sends_nil {s : StD} (v : SV) (hs0 : IsSt h v s) (H : SlH s) (bh : Nat) (sa na : Option Addr) (sc nc : Nat)
  (hk : ∀ h', PH.le h h' → K (.tuple #[]) (shB bh s v (modeS s) (actS s) (.slice sa 0 sc) (.slice na 0 nc) :: L) h') :
  Spec Tryz.prog 34 [.pointer (some ⟨bh, 0, none⟩)] (shB bh s v (modeS s) (actS s) (.slice sa 0 sc) (.slice na 0 nc) :: L) h K := by
 have hs := hs0
 obtain ⟨pa, pc, ma, mc, ea, ec, xa, xc, oa, oc, da, dc, ta, tc, ka, kc, ra, rc, rfl⟩ := hs.slices
 have hxv := hs0.x
 have hxl := H.xl
 have hch := parR_streak H.r
 simp only [shB, stC, List.cons_append, List.nil_append] at hk ⊢
 refine x_enterA Tryz.func34 rfl (rs := []) rfl rfl mixed (by kernel_rfl) rfl rfl fun ap nd => ?_
 have hbh : h bh = noC := ap.1
 clear ap nd
 simp -dsimp -implicitDefEqProofs (disch := first|with_reducible assumption|omega) [go_sem]
 refine Spec.apn (lnew_any _ hxv (by omega) (fun z hz => (H.xb z hz).1) H.xn fun bl o _ _ ho ap nd => ?_)
 have nl := apart_oent nd.1
 simp only [Apart] at nl
 have nlh : bh ≠ bl := nl.1
 have no := nd_oentM nd.2
 have mh : apB o bh := no _ List.mem_cons_self
 clear ap nd nl no
 simp -dsimp -implicitDefEqProofs (disch := first|with_reducible assumption|omega) [go_sem, xFind_oent mh]
 refine xloop' (γ := Unit) () (fun _ => True) (fun _ => [(23, .int .i64 0), (22, .int .i64 0), (2, .pointer (some ⟨bl, 0, none⟩)), (0, .pointer (some ⟨bh, 0, none⟩))]) (fun _ => 0) trivial (by simp [Ent, List.lookup, xEnv]) ?_
 intro _ _
 simp -dsimp -implicitDefEqProofs (disch := first|with_reducible assumption|omega) [go_sem, xFind_oent mh]
 refine Spec.ap (lpop_any o ho (by omega) s.par.churn (by omega) (fun z hz => by have := H.xb z hz; omega) fun h2 r2 le2 il ap => ?_)
 have ap2 := Ap.oent ap.2
 simp only [Ap] at ap2
 obtain ⟨hbh2, _⟩ := ap2
 clear ap
 obtain ⟨la, lc, rfl, _⟩ := il.open
 simp -dsimp -implicitDefEqProofs (disch := first|with_reducible assumption|omega) [go_sem, xFind_oent mh]
 refine xloop' (γ := Unit) () (fun _ => True) (fun _ => [(70, .int .i64 0), (69, .int .i64 0)]) (fun _ => 0) trivial (by simp [Ent, List.lookup]) ?_
 intro _ _
 simp -dsimp -implicitDefEqProofs (disch := first|with_reducible assumption|omega) [go_sem]
 exact fin_tail (fin_oent (fin_here (hk h2 le2)))
theorem recs_empty {α : Type} {f : α → List Value} {w : Nat} (hw : ∀ a, (f a).length = w) {o : Option (Nat × Nat)} (ho : okO o 0) (h : PH) : Recs f w h (ovs o 0) [] := by
 cases o with
 | none => exact Recs.nil hw h
 | some p => exact ⟨hw, ⟨by simp, _, p.2, rfl, ho.1, ho.2, Nat.zero_le _, (fun e => by cases e), fun j c hj => by simp at hj⟩⟩
theorem slips_any {s : StD} (v : SV) (hs0 : IsSt h v s) (few : FewS s) (fk : s.marks.length ≤ 1000)
  (hk : ∀ h' r, PH.le h h' → Recs slC 8 h' r (slipsL s) → K (.tuple #[r, .int .i64 (slipsE s)]) L h') : Spec Tryz.prog 10 [stV s v] L h K := by
 have hs := hs0
 obtain ⟨pa, pc, ma, mc, ea, ec, xa, xc, oa, oc, da, dc, ta, tc, ka, kc, ra, rc, rfl⟩ := hs.slices
 have nilr : ∀ e, slipsE s = e → e ≠ 0 → K (.tuple #[.slice none 0 0, .int .i64 e]) L h := fun e he hne => by
  have := hk h (.slice none 0 0) (PH.le_refl h) (by rw [slipsL, if_neg (by rw [he]; exact hne)]; exact Recs.nil slC_len h)
  rwa [he] at this
 refine x_enter Tryz.func10 rfl (rs := [_, _]) rfl rfl mixed (by kernel_rfl) rfl rfl ?_
 simp -dsimp -implicitDefEqProofs (disch := first|with_reducible assumption|omega) [go_sem]
 refine xnew fun b1 n_b1 h_b1 => ?_
 try simp only [Apart] at n_b1
 simp -dsimp -implicitDefEqProofs (disch := first|with_reducible assumption|omega) [go_sem]
 refine fits_any (s := s) ⟨.slice pa s.purses.length pc, .slice ma s.members.length mc, .slice ea s.entry.length ec, .slice xa s.exit.length xc, .slice oa s.pool.length oc, .slice da s.dues.length dc, .slice ta s.motions.length tc, .slice ka s.marks.length kc, .slice ra s.ring.length rc⟩ hs0 few ?_
 cases hf : fitsS s with
 | false =>
  have := nilr 291 (by rw [slipsE, hf]; rfl) (by decide)
  simp -dsimp -implicitDefEqProofs (disch := first|with_reducible assumption|omega) [go_sem]
  exact fin_tail (fin_here this)
 | true =>
 by_cases c1 : 1073741824 ≤ s.ep
 ·have := nilr 200 (by rw [slipsE, hf, if_pos rfl, if_pos c1]) (by decide)
  simp -dsimp -implicitDefEqProofs (disch := first|with_reducible assumption|omega) [go_sem]
  exact fin_tail (fin_here this)
 have he : slipsE s = 0 := by rw [slipsE, hf, if_pos rfl, if_neg c1]
 have hls : slipsL s = (cI s).map (slip2 s) := by rw [slipsL, if_pos he]
 rw [he, hls] at hk
 have H := slH_of hs0 hf
 simp -dsimp -implicitDefEqProofs (disch := first|with_reducible assumption|omega) [go_sem]
 refine xnew fun b2 n_b2 h_b2 => ?_
 try simp only [Apart] at n_b2
 simp -dsimp -implicitDefEqProofs (disch := first|with_reducible assumption|omega) [go_sem]
 refine sweigh_any (s := s) ⟨.slice pa s.purses.length pc, .slice ma s.members.length mc, .slice ea s.entry.length ec, .slice xa s.exit.length xc, .slice oa s.pool.length oc, .slice da s.dues.length dc, .slice ta s.motions.length tc, .slice ka s.marks.length kc, .slice ra s.ring.length rc⟩ hs0 H fk b2 fun h1 o1 o2 le1 k1 k2 => ?_
 have hs1 := hs0.up le1
 obtain ⟨n, hn⟩ : ∃ n, n = (cI s).length := ⟨_, rfl⟩
 by_cases c2 : n = 0
 ·obtain ⟨x1, y1, e1, _⟩ := ovs_open k1
  obtain ⟨x2, y2, e2, _⟩ := ovs_open k2
  have hnil : cI s = [] := List.eq_nil_of_length_eq_zero (by omega)
  rw [e1, e2, ← hn, c2]
  simp -dsimp -implicitDefEqProofs (disch := first|with_reducible assumption|omega) [go_sem]
  have d0 : ∀ (A : Blk) (P Q : List Value) (M : Own), Drop (A :: oent 42 8 o1 P (oent 89 4 o2 Q M)) h1 (A :: M) h1 := fun A P Q M =>
   (Drop.perm h1 (oent_perm.trans (oent_congr _ _ oent_perm))).trans ((Drop.oent _ _ _ _ _ _).trans (Drop.oent _ _ _ _ _ _))
  refine Spec.weaken (d0 _ _ _ _) ?_
  refine sprizes_nil (s := s) ⟨.slice pa s.purses.length pc, .slice ma s.members.length mc, .slice ea s.entry.length ec, .slice xa s.exit.length xc, .slice oa s.pool.length oc, .slice da s.dues.length dc, .slice ta s.motions.length tc, .slice ka s.marks.length kc, .slice ra s.ring.length rc⟩ hs1 H b2 x1 x2 y1 y2 fun h2 le2 => ?_
  have hs2 := hs1.up le2
  simp -dsimp -implicitDefEqProofs (disch := first|with_reducible assumption|omega) [go_sem]
  refine sfines_nil (s := s) ⟨.slice pa s.purses.length pc, .slice ma s.members.length mc, .slice ea s.entry.length ec, .slice xa s.exit.length xc, .slice oa s.pool.length oc, .slice da s.dues.length dc, .slice ta s.motions.length tc, .slice ka s.marks.length kc, .slice ra s.ring.length rc⟩ hs2 b2 x1 x2 y1 y2 ?_
  simp -dsimp -implicitDefEqProofs (disch := first|with_reducible assumption|omega) [go_sem]
  refine Spec.ap (sends_nil (s := s) ⟨.slice pa s.purses.length pc, .slice ma s.members.length mc, .slice ea s.entry.length ec, .slice xa s.exit.length xc, .slice oa s.pool.length oc, .slice da s.dues.length dc, .slice ta s.motions.length tc, .slice ka s.marks.length kc, .slice ra s.ring.length rc⟩ hs2 H b2 x1 x2 y1 y2 fun h3 le3 ap => ?_)
  have hb23 : h3 b2 = noC := ap.1
  clear ap
  simp only [shB, stC, List.cons_append, List.nil_append]
  simp -dsimp -implicitDefEqProofs (disch := first|with_reducible assumption|omega) [go_sem]
  have kk : okO o1 0 := by rw [hn.symm.trans c2] at k1; exact k1
  have rr := recs_empty slC_len kk h3
  rw [show ovs o1 0 = .slice x1 0 y1 by have := e1; rw [← hn, c2] at this; exact this] at rr
  have := hk h3 _ (le1.trans (le2.trans le3)) (by rw [hnil]; exact rr)
  exact fin_tail (fin_tail (fin_here this))
 ·obtain ⟨bs, cs, rfl⟩ : ∃ bs cs, o1 = some (bs, cs) := by
   cases o1 with
   | none => have : (cI s).length = 0 := k1; omega
   | some p => exact ⟨p.1, p.2, rfl⟩
  obtain ⟨bn, cn, rfl⟩ : ∃ bn cn, o2 = some (bn, cn) := by
   cases o2 with
   | none => have : (cI s).length = 0 := k2; omega
   | some p => exact ⟨p.1, p.2, rfl⟩
  have hcs : (cI s).length ≤ cs := k1.1
  have hcn : (cI s).length ≤ cn := k2.1
  simp only [ovs_some, oent_some]
  simp -dsimp -implicitDefEqProofs (disch := first|with_reducible assumption|omega) [go_sem]
  refine sprizes_pos (s := s) ⟨.slice pa s.purses.length pc, .slice ma s.members.length mc, .slice ea s.entry.length ec, .slice xa s.exit.length xc, .slice oa s.pool.length oc, .slice da s.dues.length dc, .slice ta s.motions.length tc, .slice ka s.marks.length kc, .slice ra s.ring.length rc⟩ hs1 H b2 bs cs bn cn hcs hcn fun h2 le2 => ?_
  have hs2 := hs1.up le2
  simp -dsimp -implicitDefEqProofs (disch := first|with_reducible assumption|omega) [go_sem]
  refine sfines_pos (s := s) ⟨.slice pa s.purses.length pc, .slice ma s.members.length mc, .slice ea s.entry.length ec, .slice xa s.exit.length xc, .slice oa s.pool.length oc, .slice da s.dues.length dc, .slice ta s.motions.length tc, .slice ka s.marks.length kc, .slice ra s.ring.length rc⟩ hs2 H b2 bs cs bn cn hcs hcn ?_
  simp -dsimp -implicitDefEqProofs (disch := first|with_reducible assumption|omega) [go_sem]
  refine Spec.ap (sends_pos (s := s) ⟨.slice pa s.purses.length pc, .slice ma s.members.length mc, .slice ea s.entry.length ec, .slice xa s.exit.length xc, .slice oa s.pool.length oc, .slice da s.dues.length dc, .slice ta s.motions.length tc, .slice ka s.marks.length kc, .slice ra s.ring.length rc⟩ hs2 H b2 bs cs bn cn hcs hcn fun h3 le3 ap => ?_)
  have hb23 : h3 b2 = noC := ap.1
  have hbs3 : h3 bs = noC := ap.2.1
  clear ap
  simp only [shB, stC, slB, nwB, List.cons_append, List.nil_append]
  simp -dsimp -implicitDefEqProofs (disch := first|with_reducible assumption|omega) [go_sem]
  refine fin_tail ?_
  have hml : ((cI s).map (slip2 s)).length = (cI s).length := List.length_map _
  have := fin_pub (K := K) (v := .tuple #[.slice (some ⟨bs, 0, none⟩) (cI s).length cs, .int .i64 0]) (e := 42) (sz := 8) (n := (cI s).length) (o := some (bs, cs)) (xs := ((cI s).map (slip2 s)).flatMap slC) (L := nwB bn cn ((cI s).map (endM' s)) :: ⟨b1, 34, stC s ⟨.slice pa s.purses.length pc, .slice ma s.members.length mc, .slice ea s.entry.length ec, .slice xa s.exit.length xc, .slice oa s.pool.length oc, .slice da s.dues.length dc, .slice ta s.motions.length tc, .slice ka s.marks.length kc, .slice ra s.ring.length rc⟩, 41⟩ :: L) (L0 := []) (h := h3) k1 (by rw [flatG_len slC_len, hml]) (by have := H.len; have := cP_len s.members s.members.length; show (cP s.members s.members.length).length ≤ _; omega) ⟨trivial, hbs3⟩ fun h4 le4 sl => fin_tail (fin_tail (fin_here (hk h4 _ (le1.trans (le2.trans (le3.trans le4))) ⟨slC_len, by rw [hml]; exact sl⟩)))
  exact this
end Go.X

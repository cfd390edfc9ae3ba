/- Lemmas and contracts for a statement about the given program. Conditions: as each says. -/
import Derived.Test.YtpgdjcaifeapgaaGreatQ13
import Derived.Test.YtpgdjcaifeapgaaGreatQ50
import Derived.Test.YtpgdjcaifeapgaaGreatQ51
import Derived.Test.YtpgdjcaifeapgaaGreatQ52
set_option linter.unusedVariables false
set_option linter.unusedSimpArgs false
set_option maxHeartbeats 12800000
set_option maxRecDepth 20000
namespace Go.X
open Go.RowKit Go.Proofs Go.Bl
variable {L : Own} {h : PH} {K : PK}
theorem few_own {s : StD} (hf : fewB s = true) : OwnFew s := by
 have h9 := few9_len (fewB_9 hf)
 simp only [fewB, Bool.and_eq_true, List.all_eq_true, decide_eq_true_eq] at hf
 exact ⟨by omega, by omega, by omega, by omega, by omega, by omega, by omega, by omega, by omega, fun m hm => by have := hf.2 m hm; omega, fun b hb => by have := hf.1.2 b hb; omega⟩
theorem few_S {s : StD} (ho : OwnFew s) : FewS s := ⟨by have := ho.p; omega, by have := ho.m; omega, by have := ho.e; omega, by have := ho.x; omega, by have := ho.o; omega, by have := ho.d; omega, by have := ho.t; omega, by have := ho.r; omega⟩
structure RepS (q : RV) (r : RepD) (oa : Option Addr) (oc : Nat) (la : Option Addr) (lc : Nat) (sa : Option Addr) (sc : Nat) (da : Option Addr) (dc : Nat) : Prop where
 e : q = ⟨.slice oa r.out.length oc, .slice la r.left.length lc, .slice sa r.started.length sc, .slice da r.done.length dc⟩
theorem RepIs.slices {q : RV} {r : RepD} (hq : RepIs h q r) : ∃ oa oc la lc sa sc da dc, q = ⟨.slice oa r.out.length oc, .slice la r.left.length lc, .slice sa r.started.length sc, .slice da r.done.length dc⟩ := by
 obtain ⟨qo, ql, qs, qd⟩ := q
 obtain ⟨h1, h2, h3, h4⟩ := hq
 simp only at h1 h2 h3 h4
 obtain ⟨oa, oc, rfl, _⟩ := h1.open
 obtain ⟨la, lc, rfl, _⟩ := h2.open
 obtain ⟨sa, sc, rfl, _⟩ := h3.open
 obtain ⟨da, dc, rfl, _⟩ := h4.open
 exact ⟨oa, oc, la, lc, sa, sc, da, dc, rfl⟩
theorem RepIs.up {h h' : PH} (le : PH.le h h') {q : RV} {r : RepD} (hq : RepIs h q r) : RepIs h' q r := ⟨hq.o.up le, hq.l.up le, hq.s.up le, hq.d.up le⟩
abbrev nilR : RV := ⟨.slice none 0 0, .slice none 0 0, .slice none 0 0, .slice none 0 0⟩
theorem tick_any {s : StD} (v : SV) (hs : IsSt h v s) (few : OwnFew s) (fd : s.dues.length ≤ 20000)
  (hk : tickE s = 0 → fitsS s = true → s.ep < 1073741824 → ∀ h' u q, PH.le h h' → IsSt h' u (tickS s) → RepIs h' q (tickR s) → K (.tuple #[stV (tickS s) u, rpV (tickR s) q, .int .i64 0]) L h')
  (hno : tickE s ≠ 0 → K (.tuple #[stV zeroS nilV, rpV zeroR nilR, .int .i64 (tickE s)]) L h) :
  Spec Tryz.prog 18 [stV s v] L h K := by
 by_cases hf : fitsS s = true
 ·by_cases he : s.ep < 1073741824
  ·have e0 : tickE s = 0 := by rw [tickE, if_pos hf, if_neg (by omega)]
   have ti := ti_of hs hf he (Nat.le_refl s.dues.length)
   have ms := ms_of hs hf
   have t8 := tick8 ti fun m hm => (ms m hm).1
   exact tickW_any v hs few fd hf he (act_le ti.ml fun m hm => (ms m hm).1) (by
    have := act_le t8.2.2.2.2.2.2 fun m hm => (t8.2.2.2.1 m hm).1
    show actL (tk8 s).1.members ≤ _
    omega) (hk e0 hf he)
  ·have e0 : tickE s = 200 := by rw [tickE, if_pos hf, if_pos (by omega)]
   have hno := hno (by omega)
   rw [e0] at hno
   have fewS := few_S few
   obtain ⟨pa, pc, ma, mc, ea, ec, xa, xc, oa, oc, da, dc, ta, tc, ka, kc, ra, rc, rfl⟩ := hs.slices
   refine x_enterA Tryz.func18 rfl (rs := [_, _, _]) rfl rfl mixed (by kernel_rfl) rfl rfl fun ap nd => ?_
   clear ap nd
   simp -dsimp -implicitDefEqProofs (disch := first|with_reducible assumption|omega) [go_sem]
   refine xnew fun b1 n_b1 h_b1 => ?_
   try simp only [Apart] at n_b1
   simp -dsimp -implicitDefEqProofs (disch := first|with_reducible assumption|omega) [go_sem]
   refine xnew fun b2 n_b2 h_b2 => ?_
   try simp only [Apart] at n_b2
   simp -dsimp -implicitDefEqProofs (disch := first|with_reducible assumption|omega) [go_sem]
   refine xnew fun b3 n_b3 h_b3 => ?_
   try simp only [Apart] at n_b3
   simp -dsimp -implicitDefEqProofs (disch := first|with_reducible assumption|omega) [go_sem]
   refine fits_any (s := s) ⟨.slice pa s.purses.length pc, .slice ma s.members.length mc, .slice ea s.entry.length ec, .slice xa s.exit.length xc, .slice oa s.pool.length oc, .slice da s.dues.length dc, .slice ta s.motions.length tc, .slice ka s.marks.length kc, .slice ra s.ring.length rc⟩ hs fewS ?_
   rw [hf]
   simp -dsimp -implicitDefEqProofs (disch := first|with_reducible assumption|omega) [go_sem]
   exact fin_tail (fin_tail (fin_tail (fin_here hno)))
 ·have hf' : fitsS s = false := by simpa using hf
  have e0 : tickE s = 291 := by rw [tickE, if_neg hf]
  have hno := hno (by omega)
  rw [e0] at hno
  have fewS := few_S few
  obtain ⟨pa, pc, ma, mc, ea, ec, xa, xc, oa, oc, da, dc, ta, tc, ka, kc, ra, rc, rfl⟩ := hs.slices
  refine x_enterA Tryz.func18 rfl (rs := [_, _, _]) rfl rfl mixed (by kernel_rfl) rfl rfl fun ap nd => ?_
  clear ap nd
  simp -dsimp -implicitDefEqProofs (disch := first|with_reducible assumption|omega) [go_sem]
  refine xnew fun b1 n_b1 h_b1 => ?_
  try simp only [Apart] at n_b1
  simp -dsimp -implicitDefEqProofs (disch := first|with_reducible assumption|omega) [go_sem]
  refine xnew fun b2 n_b2 h_b2 => ?_
  try simp only [Apart] at n_b2
  simp -dsimp -implicitDefEqProofs (disch := first|with_reducible assumption|omega) [go_sem]
  refine xnew fun b3 n_b3 h_b3 => ?_
  try simp only [Apart] at n_b3
  simp -dsimp -implicitDefEqProofs (disch := first|with_reducible assumption|omega) [go_sem]
  refine fits_any (s := s) ⟨.slice pa s.purses.length pc, .slice ma s.members.length mc, .slice ea s.entry.length ec, .slice xa s.exit.length xc, .slice oa s.pool.length oc, .slice da s.dues.length dc, .slice ta s.motions.length tc, .slice ka s.marks.length kc, .slice ra s.ring.length rc⟩ hs fewS ?_
  rw [hf']
  simp -dsimp -implicitDefEqProofs (disch := first|with_reducible assumption|omega) [go_sem]
  exact fin_tail (fin_tail (fin_tail (fin_here hno)))
theorem simpS_ownfew : OwnFew simpS := by constructor <;> decide
theorem en_ep (s : StD) (r : RepD) (t : Int) : (enS s r t).ep = s.ep := by
 unfold enS
 split <;> rfl
theorem ej_ep (s : StD) (r : RepD) (t : Int) : (ejP2 t (ajS s, r)).1.ep = s.ep := rfl
theorem mo_ep (s : StD) (r : RepD) : (moS s r).ep = s.ep := rfl
theorem se_ep (s : StD) : (seS s).ep = s.ep + 1 := rfl
theorem ep7 (s : StD) : (tk7 s).1.ep = s.ep := rfl
theorem tick_ep (s : StD) : (tickS s).ep = s.ep + 1 := by
 have e8 : (tk8 s).1.ep = s.ep := (en_ep (tk7 s).1 (tk7 s).2 (atP s)).trans (ep7 s)
 have e9 : (tk9 s).1.ep = (tk8 s).1.ep := mo_ep (tk8 s).1 (tk8 s).2
 have e10 : (tk10 s).1.ep = (tk9 s).1.ep := by
  by_cases c : (tk9 s).1.par = s.par
  ·rw [tk10, if_pos c]
  ·rw [tk10, if_neg c]; exact ej_ep _ _ _
 have eS : (tickS s).ep = (tk10 s).1.ep + 1 := se_ep (tk10 s).1
 rw [eS, e10, e9, e8]
theorem simpS_tick : tickE simpS = 0 ∧ (tickS simpS).ep = 1 ∧ (tickS simpS).calm = 1 ∧ (tickR simpS).act = 50 ∧ (tickR simpS).quo = false ∧ (tickR simpS).mode = 2 := by
 obtain ⟨r1, r2, r3, r4, r5, _⟩ := tick_rep simpS
 rw [r2, r3, r5, tick_calm, tick_ep]
 refine ⟨by decide +kernel, by decide +kernel, by decide +kernel, by decide +kernel, by decide +kernel, by decide +kernel⟩
theorem awake24_any (hk : ∀ h', PH.le h h' → K (.bool true) L h') : Spec Tryz.prog 8 [] L h K := by
 obtain ⟨t0, t1, t2, t3, t4, t5⟩ := simpS_tick
 refine x_enter Tryz.func8 rfl (rs := [_]) rfl rfl mixed (by kernel_rfl) rfl rfl ?_
 simp -dsimp -implicitDefEqProofs (disch := first|with_reducible assumption|omega) [go_sem]
 refine simple24_any fun h1 pa0 pc0 fa0 fc0 le1 ig => ?_
 simp -dsimp -implicitDefEqProofs (disch := first|with_reducible assumption|omega) [go_sem]
 refine newsimp_any ig fun h2 u le2 is => ?_
 obtain ⟨pa, pc, ma, mc, ea, ec, xa, xc, oa, oc, da, dc, ta, tc, ka, kc, ra, rc, rfl⟩ := is.slices
 simp -dsimp -implicitDefEqProofs (disch := first|with_reducible assumption|omega) [go_sem]
 refine xnew fun b1 n_b1 h_b1 => ?_
 try simp only [Apart] at n_b1
 have hl : simpS.members.length = 2 := rfl
 have hg : simpS.gen = 765 := rfl
 have g0 : (gr zeroM simpS.members 0).eff = 20 := rfl
 have g1 : (gr zeroM simpS.members 1).eff = 30 := rfl
 have hms : Recs memC 6 h2 (.slice ma simpS.members.length mc) simpS.members := is.m
 have ha : ma ≠ none := fun e => by
  have := hms.cell (z := zeroM) (i := 0) (m := 0) (by decide) (by decide)
  rw [e] at this
  simp [elemCell] at this
  cases this
 have I := (idxR zeroM (by decide) hms).1
 have A : ∀ (j o : Nat) (K : Value → Prop) (t : Tok K), xAddO (.pointer (elem ma j)) o K t = K (.pointer (elem ma (j + o))) := fun j o K t => xAddO_elem ha _ _ K
 have P : ∀ (j : Nat) (K : Option Addr → Prop) (t : Tok K), xPtr (.pointer (elem ma j)) K t = K (elem ma j) := fun j K t => xPtr_elem ha K
 have C1 : ∀ (L : Own) (K : Value → Prop) (t : Tok K), xCell L h2 (elem ma 1) 0 K t = K (.int .u64 20) := fun L K t => Recs.fld zeroM hms (j := 0) (o := 1) (by decide) rfl L K t
 have C7 : ∀ (L : Own) (K : Value → Prop) (t : Tok K), xCell L h2 (elem ma 7) 0 K t = K (.int .u64 30) := fun L K t => Recs.fld zeroM hms (j := 1) (o := 1) (by decide) rfl L K t
 simp -dsimp -implicitDefEqProofs (disch := first|with_reducible assumption|omega) [go_sem, hl, hg]
 simp -dsimp -implicitDefEqProofs (disch := first|with_reducible assumption|omega) [go_sem, I, A, P, C1, C7, hl, hg]
 refine Spec.ap (tick_any (s := simpS) ⟨.slice pa simpS.purses.length pc, .slice ma simpS.members.length mc, .slice ea simpS.entry.length ec, .slice xa simpS.exit.length xc, .slice oa simpS.pool.length oc, .slice da simpS.dues.length dc, .slice ta simpS.motions.length tc, .slice ka simpS.marks.length kc, .slice ra simpS.ring.length rc⟩ is simpS_ownfew (by decide) (fun _ _ _ h3 u3 q3 le3 it ir ap => ?_) (fun c => absurd t0 c))
 have a1 : h3 b1 = noC := ap.1
 clear ap
 obtain ⟨pa3, pc3, ma3, mc3, ea3, ec3, xa3, xc3, oa3, oc3, da3, dc3, ta3, tc3, ka3, kc3, ra3, rc3, rfl⟩ := it.slices
 obtain ⟨qoa, qoc, qla, qlc, qsa, qsc, qda, qdc, rfl⟩ := ir.slices
 simp -dsimp -implicitDefEqProofs (disch := first|with_reducible assumption|omega) [go_sem]
 refine xnew fun b3 n_b3 h_b3 => ?_
 try simp only [Apart] at n_b3
 have n3 := n_b3.1
 simp -dsimp -implicitDefEqProofs (disch := first|with_reducible assumption|omega) [go_sem]
 refine xnew fun b4 n_b4 h_b4 => ?_
 try simp only [Apart] at n_b4
 have n4 := n_b4.1
 have n42 := n_b4.2.1
 simp -dsimp -implicitDefEqProofs (disch := first|with_reducible assumption|omega) [go_sem, t1, t2, t3, t4, t5]
 refine fits_any (s := simpS) ⟨.slice pa simpS.purses.length pc, .slice ma simpS.members.length mc, .slice ea simpS.entry.length ec, .slice xa simpS.exit.length xc, .slice oa simpS.pool.length oc, .slice da simpS.dues.length dc, .slice ta simpS.motions.length tc, .slice ka simpS.marks.length kc, .slice ra simpS.ring.length rc⟩ (is.up le3) simpS_few ?_
 rw [simpS_fits]
 simp -dsimp -implicitDefEqProofs (disch := first|with_reducible assumption|omega) [go_sem]
 exact fin_tail (fin_tail (fin_tail (fin_here (hk h3 (le1.trans (le2.trans le3))))))
def mkP (g : List Int) : Nat → List Int
 | 0 => List.replicate 16 0
 | k + 1 => if (k / 8 < g.length ∧ k / 8 < 16) ∧ at0 g (k / 8) / 2 ^ (k % 8) % 2 = 1 then setB (mkP g k) k else mkP g k
structure MkOk (l : List Int) (k : Nat) : Prop where
 n : l.length = 16
 b : ∀ i, 0 ≤ at0 l i ∧ at0 l i ≤ 255
 g : ∀ j : Nat, k ≤ j → getB l j = false
theorem mkP_ok (g : List Int) : ∀ k, k ≤ 128 → MkOk (mkP g k) k
 | 0, _ => ⟨rfl, fun i => by
   have : at0 (List.replicate 16 (0 : Int)) i = 0 := by
    unfold at0
    rw [List.getD_eq_getElem?_getD, List.getElem?_replicate]
    split <;> rfl
   show 0 ≤ at0 (List.replicate 16 (0 : Int)) i ∧ at0 (List.replicate 16 (0 : Int)) i ≤ 255
   rw [this]; decide, fun j _ => by
   by_cases hj : j < 128
   ·exact get0 j hj
   ·exact getB_out _ _ (by show ¬ (0 ≤ (j : Int) ∧ (j : Int) / 8 < ((List.replicate 16 (0 : Int)).length : Int)); rw [List.length_replicate]; omega)⟩
 | k + 1, hk => by
  have ih := mkP_ok g k (by omega)
  rw [mkP]
  split
  ·have hin : (k : Int) / 8 < ((mkP g k).length : Int) := by rw [ih.n]; omega
   have hb := ih.b ((k : Int) / 8).toNat
   have ob := orB_spec (at0 (mkP g k) ((k : Int) / 8).toNat) ((k : Int) % 8).toNat hb.1 hb.2 (by omega)
   refine ⟨by rw [setB, List.length_set]; exact ih.n, fun i => ?_, fun j hj => ?_⟩
   ·rw [setB, at0_set _ _ _ _ (by omega)]
    split
    ·exact ⟨ob.1, ob.2.1⟩
    ·exact ih.b i
   ·rw [getB_setB ih.b k (by omega) hin, ih.g j (by omega), Bool.or_false, decide_eq_false_iff_not]
    omega
  ·exact ⟨ih.n, ih.b, fun j hj => ih.g j (by omega)⟩
theorem bit_one (x : Int) (i : Nat) (h0 : 0 ≤ x) (h1 : x ≤ 255) (hi : i < 8) : bits .and .u8 (x / 2 ^ i) 1 = x / 2 ^ i % 2 := by
 obtain ⟨n, rfl⟩ := Int.eq_ofNat_of_zero_le h0
 have hn : n < 256 := by omega
 have key : ∀ i : Nat, i < 8 → ∀ n : Nat, n < 256 → bits .and .u8 ((n : Int) / 2 ^ i) 1 = (n : Int) / 2 ^ i % 2 := by decide +kernel
 exact key i hi n hn
theorem marked_any {s : StD} {g : List Int} (v gv : Value) (w : SV) (hv : v = stV s w) (hs : IsSt h w s) (hg : Ints h .u8 gv g) (hl : s.members.length ≤ 128)
  (hk : ∀ h' r, PH.le h h' → Ints h' .u8 r (mkP g s.members.length) → K r L h') : Spec Tryz.prog 23 [v, gv] L h K := by
 subst hv
 obtain ⟨pa, pc, ma, mc, ea, ec, xa, xc, oa, oc, da, dc, ta, tc, ka, kc, ra, rc, rfl⟩ := hs.slices
 have hgb := hg.byte
 obtain ⟨ga, gc, rfl, _, _, _, hcs⟩ := hg.open
 refine x_enter Tryz.func23 rfl (rs := [_]) rfl rfl mixed (by kernel_rfl) rfl rfl ?_
 simp -dsimp -implicitDefEqProofs (disch := first|with_reducible assumption|omega) [go_sem]
 refine xnew fun b2 n_b2 h_b2 => ?_
 try simp only [Apart] at n_b2
 simp -dsimp -implicitDefEqProofs (disch := first|with_reducible assumption|omega) [go_sem]
 refine xMS_full (e := 5) (z := .int .u8 0) (by kernel_rfl) tI_5 rfl rfl .i64 .i64 16 (by decide) (by decide) (by decide) ?_
 refine xnew fun b5 n_b5 h_b5 => ?_
 try simp only [Apart] at n_b5
 have n52 := n_b5.1
 clear n_b5
 simp -dsimp -implicitDefEqProofs (disch := first|with_reducible assumption|omega) [go_sem]
 refine xloop (γ := Nat) 0 (fun k => k ≤ s.members.length)
  (fun k => [(11, .int .i64 k), (10, .int .i64 s.members.length), (1, .slice ga g.length gc), (5, .slice (some ⟨b5, 0, none⟩) 16 16)])
  (fun k => ⟨b5, 5, (mkP g k).map (.int .u8), 16⟩ :: ⟨b2, 39, stC s ⟨.slice pa s.purses.length pc, .slice ma s.members.length mc, .slice ea s.entry.length ec, .slice xa s.exit.length xc, .slice oa s.pool.length oc, .slice da s.dues.length dc, .slice ta s.motions.length tc, .slice ka s.marks.length kc, .slice ra s.ring.length rc⟩, 41⟩ :: L) (fun _ => h) (fun k => s.members.length - k) ?_ ?_ ?_ ?_
 ·exact Nat.zero_le _
 ·simp [Ent, List.lookup, xEnv]
 ·exact Drop.refl _ _
 intro k hk0
 have mk := mkP_ok g k (by omega)
 have mkn := mk.n
 by_cases c1 : k < s.members.length
 ·have eb := hgb (k / 8)
  have e1 : ((k : Int) / 8).toNat = k / 8 := by omega
  have e2 : min ((k : Int) % 8).toNat 8 = k % 8 := by omega
  by_cases c2 : k / 8 < g.length
  ·have hb1 := bit_one (at0 g (k / 8)) (k % 8) eb.1 eb.2 (by omega)
   by_cases c3 : at0 g (k / 8) / 2 ^ (k % 8) % 2 = 1
   ·simp -dsimp -implicitDefEqProofs (disch := first|with_reducible assumption|omega) [go_sem, idx hcs, IntKind.bits, e1, e2, hb1]
    refine xanyl (.tk 0 (.tk 1 (.tk 2 (.tk 3 (.tk 5 (.tk 6 (.tk 7 (.tkl 4 (.tk 8 (.tk 9 (.or false 10 (.fin) (.nil)))))))))))) (by kernel_rfl) (by kernel_rfl) _ (Drop.refl _ _) ?_
    simp -dsimp -implicitDefEqProofs (disch := first|with_reducible assumption|omega) [go_sem, xNth_ints, IntKind.bits, e1, e2, Int.one_mul]
    rw [wrap_u8_mod]
    refine ⟨by omega, k + 1, by omega, by omega, by simp [Ent, List.lookup], ?_⟩
    have e3 : mkP g (k + 1) = setB (mkP g k) k := by rw [mkP, if_pos ⟨⟨c2, by omega⟩, c3⟩]
    have e4 : ((k : Int) % 8).toNat = k % 8 := by omega
    rw [e3, setB, orB, e1, e4, List.map_set]
    exact Drop.refl _ _
   ·simp -dsimp -implicitDefEqProofs (disch := first|with_reducible assumption|omega) [go_sem, idx hcs, IntKind.bits, e1, e2, hb1]
    refine ⟨k + 1, by omega, by omega, by simp [Ent, List.lookup], ?_⟩
    rw [mkP, if_neg (fun c => c3 c.2)]
    exact Drop.refl _ _
  ·simp -dsimp -implicitDefEqProofs (disch := first|with_reducible assumption|omega) [go_sem]
   refine ⟨k + 1, by omega, by omega, by simp [Ent, List.lookup], ?_⟩
   rw [mkP, if_neg (fun c => c2 c.1.1)]
   exact Drop.refl _ _
 ·obtain rfl : k = s.members.length := by omega
  simp -dsimp -implicitDefEqProofs (disch := first|with_reducible assumption|omega) [go_sem]
  have := fin_pub (K := K) (L := ⟨b2, 39, stC s ⟨.slice pa s.purses.length pc, .slice ma s.members.length mc, .slice ea s.entry.length ec, .slice xa s.exit.length xc, .slice oa s.pool.length oc, .slice da s.dues.length dc, .slice ta s.motions.length tc, .slice ka s.marks.length kc, .slice ra s.ring.length rc⟩, 41⟩ :: L) (v := .slice (some ⟨b5, 0, none⟩) 16 16) (e := 5) (sz := 1) (o := some (b5, 16)) (n := 16) (xs := (mkP g s.members.length).map (.int .u8)) (h := h) (L0 := []) ⟨Nat.le_refl _, by simp [maxLen]⟩ (by simp [mkn]) (by decide) ⟨trivial, h_b5⟩ fun h' le sl => fin_tail (fin_here (hk h' _ le ⟨by rw [mkn]; exact sl, fun z hz => by
   rw [show IntKind.u8.min = 0 by decide, show IntKind.u8.max = 255 by decide]
   obtain ⟨j, hj, rfl⟩ := List.mem_iff_getElem.1 hz
   rw [at0_lt hj]
   exact mk.b j⟩))
  simpa only [oent, Nat.mul_one] using this
theorem mark_fits {s : StD} (hf : fitsS s = true) (hl : s.members.length ≤ 128) (g : List Int) : fitsS { s with marks := mkP g s.members.length } = true := by
 have mk := mkP_ok g _ hl
 obtain ⟨f1, f2, f3, f4, f5, f6, f7, f8, f9⟩ := fitsT_iff.1 hf
 refine fitsT_iff.2 ⟨f1, f2, f3, f4, f5, f6, f7, ?_, f9⟩
 simp only [marksB, rollB, Bool.and_eq_true, List.all_eq_true, decide_eq_true_eq] at f8 ⊢
 refine ⟨⟨⟨f8.1.1.1, ?_⟩, f8.1.2⟩, fun i hi => ?_⟩
 ·have e : sizeB 128 = 16 := by decide
  rw [chkB, mk.n, e]; simp
 ·by_cases c : i < s.members.length
  ·simp [c]
  ·simp only [Bool.or_eq_true, decide_eq_true_eq, Bool.not_eq_true']
   exact .inr (mk.g i (by omega))
structure Mn (a b : StD) : Prop where
 mint : b.mint = a.mint
 burn : b.burn = a.burn
 gen : b.gen = a.gen
 most : b.most = a.most
theorem Mn.next {a b c : StD} (h : Mn a b) (h2 : Mn b c) : Mn a c := ⟨h2.mint.trans h.mint, h2.burn.trans h.burn, h2.gen.trans h.gen, h2.most.trans h.most⟩
theorem mn_ej (s : StD) (t : Int) (k : Nat) : Mn s (ejS s t k) := ⟨rfl, rfl, rfl, rfl⟩
theorem mn_lv (s : StD) (t : Int) : Mn s (lvS s t) := ⟨rfl, rfl, rfl, rfl⟩
theorem mn_en (s : StD) (r : RepD) (t : Int) : Mn s (enS s r t) := by
 unfold enS
 split <;> exact ⟨rfl, rfl, rfl, rfl⟩
theorem mn_mo (s : StD) (r : RepD) : Mn s (moS s r) := ⟨rfl, rfl, rfl, rfl⟩
theorem mn_aj (s : StD) : Mn s (ajS s) := ⟨rfl, rfl, rfl, rfl⟩
theorem mn_se (s : StD) : Mn s (seS s) := ⟨rfl, rfl, rfl, rfl⟩
theorem mn_tick (s : StD) : Mn (tk4 s).1 (tickS s) := by
 have h5 : Mn (tk4 s).1 (tk5 s).1 := mn_ej (tk4 s).1 (atP s) (tk4 s).1.members.length
 have h7 : Mn (tk4 s).1 (tk7 s).1 := h5.next (mn_lv (tk5 s).1 (atP s))
 have h8 : Mn (tk4 s).1 (tk8 s).1 := h7.next (mn_en (tk7 s).1 (tk7 s).2 (atP s))
 have h9 : Mn (tk4 s).1 (tk9 s).1 := h8.next (mn_mo (tk8 s).1 (tk8 s).2)
 have h10 : Mn (tk4 s).1 (tk10 s).1 := by
  by_cases c : (tk9 s).1.par = s.par
  ·rw [show tk10 s = tk9 s by rw [tk10, if_pos c]]; exact h9
  ·rw [show (tk10 s).1 = ejS (ajS (tk9 s).1) (atP s) (ajS (tk9 s).1).members.length by rw [tk10, if_neg c]; rfl]
   exact h9.next ((mn_aj (tk9 s).1).next (mn_ej _ _ _))
 exact h10.next (mn_se (tk10 s).1)
theorem burned7 (s : StD) : (tk7 s).2.burned = (tk4 s).2.burned := rfl
theorem burned_en (s : StD) (r : RepD) (t : Int) : (enR s r t).burned = r.burned := by
 unfold enR
 split <;> rfl
theorem burned_mo (s : StD) (r : RepD) : (moR s r).burned = r.burned := rfl
theorem burned_ej (t : Int) (x : StD × RepD) : (ejP2 t x).2.burned = x.2.burned := rfl
theorem tick_burned (s : StD) : (tickR s).burned = (tk4 s).2.burned := by
 have h8 : (tk8 s).2.burned = (tk4 s).2.burned := (burned_en (tk7 s).1 (tk7 s).2 (atP s)).trans (burned7 s)
 have h9 : (tk9 s).2.burned = (tk4 s).2.burned := (burned_mo (tk8 s).1 (tk8 s).2).trans h8
 by_cases c : (tk9 s).1.par = s.par
 ·rw [tickR, tk10, if_pos c]; exact h9
 ·rw [tickR, tk10, if_neg c, burned_ej]; exact h9
theorem money4 (s : StD) (r : RepD) (r2 : RepD) : (fnS (mtS s r) r2).mint = s.mint + mtN s r ∧ (fnS (mtS s r) r2).gen = s.gen ∧ (fnS (mtS s r) r2).most = s.most ∧ (fnS (mtS s r) r2).burn = s.burn + (fnR (mtS s r) r2 (mtS s r).members.length).burned := ⟨rfl, rfl, rfl, rfl⟩
theorem tick_money (s : StD) : (tickS s).mint = s.mint + (tickR s).mint ∧ (tickS s).burn = s.burn + (tickR s).burned ∧ (tickS s).gen = s.gen ∧ (tickS s).most = s.most := by
 have h := mn_tick s
 have r6 := (tick_rep s).2.2.2.2.2.1
 have m4 := money4 (wgS s) (wgR s (r0P s)) (mtR (wgS s) (wgR s (r0P s)))
 rw [tick_burned, r6, h.mint, h.burn, h.gen, h.most]
 exact ⟨m4.1, m4.2.2.2, m4.2.1, m4.2.2.1⟩
theorem chk16 {bs : List Int} (hb : chkB bs 128 = true) : bs.length = 16 := by
 simp only [chkB, Bool.and_eq_true, decide_eq_true_eq] at hb
 have e : sizeB 128 = 16 := by decide
 omega
theorem se_dues (s : StD) : (seS s).dues = s.dues := rfl
theorem fits_own {s : StD} (hf : fitsS s = true) (hd : s.dues.length ≤ 34000) : OwnFew s := by
 obtain ⟨f1, f2, f3, f4, f5, f6, f7, f8, f9⟩ := fitsT_iff.1 hf
 simp only [pursesB, Bool.and_eq_true, wi_iff] at f4
 simp only [membersB, Bool.and_eq_true, decide_eq_true_eq] at f5
 have h1 := row_len (row_iffB.1 f5.1.2)
 have h3 := row_len (row_iffB.1 f5.2)
 have h5 := f5.1.1.1
 simp only [poolsB, Bool.and_eq_true, decide_eq_true_eq] at f6
 simp only [motionsB, Bool.and_eq_true, decide_eq_true_eq, List.all_eq_true] at f7
 simp only [marksB, rollB, Bool.and_eq_true, decide_eq_true_eq, List.all_eq_true] at f8
 have hk := chk16 f8.1.1.2
 refine ⟨by omega, by omega, by omega, by omega, by have := f6.1.1; omega, hd, by have := f7.1; omega, by omega, by omega, fun m hm => ?_, fun b hb => by have := chk16 (f8.1.2 b hb); omega⟩
 obtain ⟨g1, g2, g3, g4, g5⟩ := motFits_iff.1 (f7.2 m hm).1.1
 have := chk16 g3
 have := chk16 g4
 omega
theorem fits_parts {s : StD} (hf : fitsS s = true) : parR s.par = true ∧ holdsB s = true ∧ s.members.length ≤ 128 := by
 obtain ⟨f1, f2, f3, f4, f5, f6, f7, f8, f9⟩ := fitsT_iff.1 hf
 simp only [membersB, Bool.and_eq_true, decide_eq_true_eq] at f5
 exact ⟨f1, f9, f5.1.1.1⟩
theorem tick_dues {h : PH} {v : SV} {s : StD} (hs : IsSt h v s) (hf : fitsS s = true) (he : s.ep < 1073741824) : (tickS s).dues.length ≤ s.dues.length + 384 := by
 have ti := ti_of hs hf he (Nat.le_refl s.dues.length)
 have t10 := (tick10 ti fun m hm => (ms_of hs hf m hm).1).1
 have e : (tickS s).dues = (tk10 s).1.dues := se_dues (tk10 s).1
 rw [e]
 exact t10.dn
structure KpG where
 k : Nat
 h : PH
 u : SV
 s : StD
theorem statekeeps_any (w gv : Value) (hS : ∃ q : SV × StD, w = stV q.2 q.1 ∧ IsSt h q.1 q.2) (hG : ∃ q, Strs h gv q) (hk : ∀ h', PH.le h h' → K (.bool true) L h') : Spec Tryz.prog 6 [w, gv] L h K := by
 obtain ⟨⟨v, s⟩, rfl, hs⟩ := hS
 obtain ⟨gl, hg⟩ := hG
 simp only at hs ⊢
 obtain ⟨ga, gc, rfl, _, _, _, hgc, hgd⟩ := hg.open
 obtain ⟨pa, pc, ma, mc, ea, ec, xa, xc, oa, oc, da, dc, ta, tc, ka, kc, ra, rc, rfl⟩ := hs.slices
 refine x_enter Tryz.func6 rfl (rs := [_]) rfl rfl mixed (by kernel_rfl) rfl rfl ?_
 simp -dsimp -implicitDefEqProofs (disch := first|with_reducible assumption|omega) [go_sem]
 refine xnew fun b2 n_b2 h_b2 => ?_
 try simp only [Apart] at n_b2
 simp -dsimp -implicitDefEqProofs (disch := first|with_reducible assumption|omega) [go_sem]
 refine Spec.ap (awake24_any fun h1 le1 ap => ?_)
 have a1 : h1 b2 = noC := ap.1
 clear ap
 simp -dsimp -implicitDefEqProofs (disch := first|with_reducible assumption|omega) [go_sem]
 refine few24_any (s := s) ⟨.slice pa s.purses.length pc, .slice ma s.members.length mc, .slice ea s.entry.length ec, .slice xa s.exit.length xc, .slice oa s.pool.length oc, .slice da s.dues.length dc, .slice ta s.motions.length tc, .slice ka s.marks.length kc, .slice ra s.ring.length rc⟩ (hs.up le1) ?_
 cases hf : fewB s with
 | false =>
  simp -dsimp -implicitDefEqProofs (disch := first|with_reducible assumption|omega) [go_sem]
  exact fin_tail (fin_here (hk h1 le1))
 | true =>
 simp -dsimp -implicitDefEqProofs (disch := first|with_reducible assumption|omega) [go_sem]
 refine fits_any (s := s) ⟨.slice pa s.purses.length pc, .slice ma s.members.length mc, .slice ea s.entry.length ec, .slice xa s.exit.length xc, .slice oa s.pool.length oc, .slice da s.dues.length dc, .slice ta s.motions.length tc, .slice ka s.marks.length kc, .slice ra s.ring.length rc⟩ (hs.up le1) (few_S (few_own hf)) ?_
 cases hft : fitsS s with
 | false =>
  simp -dsimp -implicitDefEqProofs (disch := first|with_reducible assumption|omega) [go_sem]
  exact fin_tail (fin_here (hk h1 le1))
 | true =>
 have fd := few9_len (fewB_9 hf)
 by_cases c30 : 30 < gl.length
 ·simp -dsimp -implicitDefEqProofs (disch := first|with_reducible assumption|omega) [go_sem]
  exact fin_tail (fin_here (hk h1 le1))
 by_cases he : 1073741784 < s.ep
 ·simp -dsimp -implicitDefEqProofs (disch := first|with_reducible assumption|omega) [go_sem]
  exact fin_tail (fin_here (hk h1 le1))
 simp -dsimp -implicitDefEqProofs (disch := first|with_reducible assumption|omega) [go_sem]
 refine xloop (γ := KpG) ⟨0, h1, ⟨.slice pa s.purses.length pc, .slice ma s.members.length mc, .slice ea s.entry.length ec, .slice xa s.exit.length xc, .slice oa s.pool.length oc, .slice da s.dues.length dc, .slice ta s.motions.length tc, .slice ka s.marks.length kc, .slice ra s.ring.length rc⟩, s⟩ (fun y => y.k ≤ gl.length ∧ PH.le h1 y.h ∧ IsSt y.h y.u y.s ∧ fitsS y.s = true ∧ y.s.ep + gl.length ≤ 1073741814 + y.k ∧ y.s.dues.length ≤ 200 + 384 * y.k ∧ y.h b2 = noC)
  (fun y => [(34, .int .i64 y.k), (33, .int .i64 gl.length), (32, .slice ga gl.length gc), (2, .pointer (some ⟨b2, 0, none⟩))])
  (fun y => ⟨b2, 39, stC y.s y.u, 41⟩ :: L) (fun y => y.h) (fun y => gl.length - y.k) ?_ ?_ ?_ ?_
 ·exact ⟨Nat.zero_le _, PH.le_refl _, hs.up le1, hft, by simp only; omega, by simp only; omega, a1⟩
 ·simp [Ent, List.lookup, xEnv]
 ·exact Drop.refl _ _
 clear hs hf hft fd he
 rintro ⟨k, h2, u, st⟩ ⟨k1, le2, is, hf, hep, hdl, a2⟩
 simp only at k1 le2 is hf hep hdl a2 ⊢
 by_cases c1 : k < gl.length
 rotate_left
 ·obtain rfl : k = gl.length := by omega
  simp -dsimp -implicitDefEqProofs (disch := first|with_reducible assumption|omega) [go_sem]
  exact fin_tail (fin_here (hk h2 (le1.trans le2)))
 have is0 := is
 obtain ⟨pa2, pc2, ma2, mc2, ea2, ec2, xa2, xc2, oa2, oc2, da2, dc2, ta2, tc2, ka2, kc2, ra2, rc2, rfl⟩ := is.slices
 obtain ⟨fp, fh, fl⟩ := fits_parts hf
 have hgc2 : ∀ j, j < gl.length → elemCell h2 ga j = some (gs gl j).1 := fun j hj => elemCell_up (le1.trans le2) (hgc j hj)
 have hgk := (hg.at c1).up (le1.trans le2)
 obtain ⟨g, hgg⟩ : ∃ g, g = gs gl k := ⟨_, rfl⟩
 rw [← hgg] at hgk
 obtain ⟨gv1, gl1⟩ := g
 simp only at hgk
 obtain ⟨g1a, g1c, rfl, _⟩ := hgk.open
 simp -dsimp -implicitDefEqProofs (disch := first|with_reducible assumption|omega) [go_sem, idx hgc2]
 rw [← hgg]
 simp -dsimp -implicitDefEqProofs (disch := first|with_reducible assumption|omega) [go_sem]
 refine Spec.ap (marked_any (s := st) (g := gl1) _ _ ⟨.slice pa2 st.purses.length pc2, .slice ma2 st.members.length mc2, .slice ea2 st.entry.length ec2, .slice xa2 st.exit.length xc2, .slice oa2 st.pool.length oc2, .slice da2 st.dues.length dc2, .slice ta2 st.motions.length tc2, .slice ka2 st.marks.length kc2, .slice ra2 st.ring.length rc2⟩ rfl is0 hgk fl fun h3 r3 le3 ir3 ap => ?_)
 have a3 : h3 b2 = noC := ap.1
 clear ap
 have is1 := is0.up le3
 obtain ⟨mka, mkc, rfl, _⟩ := ir3.open
 have is3 : IsSt h3 ⟨.slice pa2 st.purses.length pc2, .slice ma2 st.members.length mc2, .slice ea2 st.entry.length ec2, .slice xa2 st.exit.length xc2, .slice oa2 st.pool.length oc2, .slice da2 st.dues.length dc2, .slice ta2 st.motions.length tc2, .slice mka (mkP gl1 st.members.length).length mkc, .slice ra2 st.ring.length rc2⟩ { st with marks := mkP gl1 st.members.length } :=
  ⟨⟨is1.ok.p, is1.ok.u, is1.ok.n⟩, is1.p, is1.m, is1.mo, is1.e, is1.x, is1.o, is1.oo, is1.d, is1.dd, is1.t, ir3, is1.r⟩
 have hf1 : fitsS { st with marks := mkP gl1 st.members.length } = true := mark_fits hf fl gl1
 have own1 : OwnFew { st with marks := mkP gl1 st.members.length } := fits_own hf1 (by show st.dues.length ≤ _; omega)
 have he1 : st.ep < 1073741824 := by omega
 have e0 : tickE { st with marks := mkP gl1 st.members.length } = 0 := by rw [tickE, if_pos hf1, if_neg (by show ¬ 1073741824 ≤ st.ep; omega)]
 simp -dsimp -implicitDefEqProofs (disch := first|with_reducible assumption|omega) [go_sem]
 refine fits_any (s := { st with marks := mkP gl1 st.members.length }) ⟨.slice pa2 st.purses.length pc2, .slice ma2 st.members.length mc2, .slice ea2 st.entry.length ec2, .slice xa2 st.exit.length xc2, .slice oa2 st.pool.length oc2, .slice da2 st.dues.length dc2, .slice ta2 st.motions.length tc2, .slice mka (mkP gl1 st.members.length).length mkc, .slice ra2 st.ring.length rc2⟩ is3 (few_S own1) ?_
 rw [hf1]
 simp -dsimp -implicitDefEqProofs (disch := first|with_reducible assumption|omega) [go_sem]
 refine Spec.ap (tick_any (s := { st with marks := mkP gl1 st.members.length }) ⟨.slice pa2 st.purses.length pc2, .slice ma2 st.members.length mc2, .slice ea2 st.entry.length ec2, .slice xa2 st.exit.length xc2, .slice oa2 st.pool.length oc2, .slice da2 st.dues.length dc2, .slice ta2 st.motions.length tc2, .slice mka (mkP gl1 st.members.length).length mkc, .slice ra2 st.ring.length rc2⟩ is3 own1 (by show st.dues.length ≤ _; omega) (fun _ _ _ h4 u4 q4 le4 it ir ap => ?_) (fun c => absurd e0 c))
 have a4 : h4 b2 = noC := ap.1
 clear ap
 have tf := tick_fits is3 hf1 he1
 have td := tick_dues is3 hf1 he1
 have te := tick_ep { st with marks := mkP gl1 st.members.length }
 obtain ⟨tm1, tm2, tm3, tm4⟩ := tick_money { st with marks := mkP gl1 st.members.length }
 have tr := (tick_rep { st with marks := mkP gl1 st.members.length }).1
 simp only at td te tm1 tm2 tm3 tm4 tr
 obtain ⟨T, hT⟩ : ∃ T, T = tickS { st with marks := mkP gl1 st.members.length } := ⟨_, rfl⟩
 obtain ⟨R, hR⟩ : ∃ R, R = tickR { st with marks := mkP gl1 st.members.length } := ⟨_, rfl⟩
 rw [← hT] at it tf td te tm1 tm2 tm3 tm4 ⊢
 rw [← hR] at ir tm1 tm2 tr ⊢
 have it0 := it
 obtain ⟨pa3, pc3, ma3, mc3, ea3, ec3, xa3, xc3, oa3, oc3, da3, dc3, ta3, tc3, ka3, kc3, ra3, rc3, rfl⟩ := it.slices
 obtain ⟨qoa, qoc, qla, qlc, qsa, qsc, qda, qdc, rfl⟩ := ir.slices
 obtain ⟨tp, thh, tl⟩ := fits_parts tf
 have ownT : OwnFew T := fits_own tf (by omega)
 simp -dsimp -implicitDefEqProofs (disch := first|with_reducible assumption|omega) [go_sem]
 refine xnew fun b7 n_b7 h_b7 => ?_
 try simp only [Apart] at n_b7
 have n7 := n_b7.1
 simp -dsimp -implicitDefEqProofs (disch := first|with_reducible assumption|omega) [go_sem]
 refine xnew fun b8 n_b8 h_b8 => ?_
 try simp only [Apart] at n_b8
 have n8 := n_b8.1
 have n82 := n_b8.2.1
 clear n_b7 n_b8
 simp -dsimp -implicitDefEqProofs (disch := first|with_reducible assumption|omega) [go_sem]
 refine fits_any (s := T) ⟨.slice pa3 T.purses.length pc3, .slice ma3 T.members.length mc3, .slice ea3 T.entry.length ec3, .slice xa3 T.exit.length xc3, .slice oa3 T.pool.length oc3, .slice da3 T.dues.length dc3, .slice ta3 T.motions.length tc3, .slice ka3 T.marks.length kc3, .slice ra3 T.ring.length rc3⟩ it0 (few_S ownT) ?_
 rw [tf]
 simp -dsimp -implicitDefEqProofs (disch := first|with_reducible assumption|omega) [go_sem]
 refine holds_any (s := T) ⟨.slice pa3 T.purses.length pc3, .slice ma3 T.members.length mc3, .slice ea3 T.entry.length ec3, .slice xa3 T.exit.length xc3, .slice oa3 T.pool.length oc3, .slice da3 T.dues.length dc3, .slice ta3 T.motions.length tc3, .slice ka3 T.marks.length kc3, .slice ra3 T.ring.length rc3⟩ it0 (few_S ownT) ?_
 rw [thh]
 have hmu := it0.ok.u
 simp only [List.forall_mem_cons] at hmu
 have hsu := is0.ok.u
 simp only [List.forall_mem_cons] at hsu
 have hep0 := (wi_iff.1 (fitsT_iff.1 hf).2.1).1
 simp -dsimp -implicitDefEqProofs (disch := first|with_reducible assumption|omega) [go_sem]
 have hmT : Recs memC 6 h4 (.slice ma3 T.members.length mc3) T.members := it0.m
 refine xloop (γ := Nat) 0 (fun j => j ≤ T.members.length)
  (fun j => [(113, .int .i64 j), (112, .int .i64 T.members.length), (111, .slice ma3 T.members.length mc3), (2, .pointer (some ⟨b2, 0, none⟩)), (7, .pointer (some ⟨b7, 0, none⟩)), (34, .int .i64 k), (33, .int .i64 gl.length), (32, .slice ga gl.length gc)])
  (fun _ => ⟨b8, 61, rpC R ⟨.slice qoa R.out.length qoc, .slice qla R.left.length qlc, .slice qsa R.started.length qsc, .slice qda R.done.length qdc⟩, 14⟩ :: ⟨b7, 39, stC T ⟨.slice pa3 T.purses.length pc3, .slice ma3 T.members.length mc3, .slice ea3 T.entry.length ec3, .slice xa3 T.exit.length xc3, .slice oa3 T.pool.length oc3, .slice da3 T.dues.length dc3, .slice ta3 T.motions.length tc3, .slice ka3 T.marks.length kc3, .slice ra3 T.ring.length rc3⟩, 41⟩ :: ⟨b2, 39, stC { st with marks := mkP gl1 st.members.length } ⟨.slice pa2 st.purses.length pc2, .slice ma2 st.members.length mc2, .slice ea2 st.entry.length ec2, .slice xa2 st.exit.length xc2, .slice oa2 st.pool.length oc2, .slice da2 st.dues.length dc2, .slice ta2 st.motions.length tc2, .slice mka (mkP gl1 st.members.length).length mkc, .slice ra2 st.ring.length rc2⟩, 41⟩ :: L) (fun _ => h4) (fun j => T.members.length - j) ?_ ?_ ?_ ?_
 ·exact Nat.zero_le _
 ·simp [Ent, List.lookup]
 ·exact Drop.refl _ _
 intro j hj
 by_cases c2 : j < T.members.length
 ·obtain ⟨m, hm⟩ : ∃ m, m = gr zeroM T.members j := ⟨_, rfl⟩
  have hmm : m ∈ T.members := by rw [hm]; exact gr_mem c2
  have hmf := (fits_mem tf m hmm).1
  have hmo := it0.mo m hmm
  have ub := hmo.u m.bal (by simp)
  have ue := hmo.u m.eff (by simp)
  obtain ⟨_, _, _, hsh⟩ := mfits_facts hmf
  simp -dsimp -implicitDefEqProofs (disch := first|with_reducible assumption|omega) [go_sem, ↓idxR zeroM (by decide) hmT, memC]
  rw [← hm]
  refine xnew fun b11 n_b11 h_b11 => ?_
  try simp only [Apart] at n_b11
  have n11 := n_b11.1
  have n12 := n_b11.2.1
  have n13 := n_b11.2.2.1
  clear n_b11
  simp -dsimp -implicitDefEqProofs (disch := first|with_reducible assumption|omega) [go_sem, memC]
  refine counts_any m ?_
  by_cases c3 : m.status = 2 ∨ m.status = 3
  ·rw [shapeB, if_pos c3] at hsh
   simp only [Bool.and_eq_true, decide_eq_true_eq] at hsh
   rw [decide_eq_true c3]
   simp -dsimp -implicitDefEqProofs (disch := first|with_reducible assumption|omega) [go_sem, memC]
   refine gfits_any T.par it0.ok.p m.eff m.bal ue ub ?_
   rw [tp, hsh.2]
   simp -dsimp -implicitDefEqProofs (disch := first|with_reducible assumption|omega) [go_sem]
   exact ⟨j + 1, by omega, by omega, by simp [Ent, List.lookup], Drop.tail _ _ _⟩
  ·rw [decide_eq_false c3]
   simp -dsimp -implicitDefEqProofs (disch := first|with_reducible assumption|omega) [go_sem, memC]
   exact ⟨j + 1, by omega, by omega, by simp [Ent, List.lookup], Drop.tail _ _ _⟩
 obtain rfl : j = T.members.length := by omega
 simp -dsimp -implicitDefEqProofs (disch := first|with_reducible assumption|omega) [go_sem]
 refine ⟨⟨k + 1, h4, ⟨.slice pa3 T.purses.length pc3, .slice ma3 T.members.length mc3, .slice ea3 T.entry.length ec3, .slice xa3 T.exit.length xc3, .slice oa3 T.pool.length oc3, .slice da3 T.dues.length dc3, .slice ta3 T.motions.length tc3, .slice ka3 T.marks.length kc3, .slice ra3 T.ring.length rc3⟩, T⟩, ⟨by simp only; omega, le2.trans (le3.trans le4), it0, tf, by simp only; omega, by simp only; omega, a4⟩, by simp only; omega, by simp [Ent, List.lookup], (Drop.tail _ _ _).trans (Drop.tail _ _ _)⟩
end Go.X

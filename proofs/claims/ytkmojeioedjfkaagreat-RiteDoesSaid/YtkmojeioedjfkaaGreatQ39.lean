/- Lemmas and contracts for a statement about the given program. Conditions: as each says. -/
import Derived.Test.YtkmojeioedjfkaaGreatQ37
import Derived.Test.YtkmojeioedjfkaaGreatQ38
set_option linter.unusedVariables false
set_option linter.unusedSimpArgs false
set_option maxHeartbeats 12800000
set_option maxRecDepth 20000
namespace Go.X
open Go.RowKit Go.Proofs Go.Bl
variable {L : Own} {h : PH} {K : PK}
def runB (s : StD) : List DeedD → Nat → StD × Int × Int
 | [], _ => (s, 0, 0)
 | d :: l, i => if (doP s d).2 = 0 then runB (doP s d).1 l (i + 1) else (zeroS, (i : Int), (doP s d).2)
def blockP (s : StD) (xs : List Int) : StD × Int × Int :=
 if fitsS s then (if (bdec xs).2.2 = 0 then runB s (bdec xs).1 0 else (zeroS, (bdec xs).2.1, (bdec xs).2.2)) else (zeroS, 0, 291)
theorem full2_facts {e1 s1 e2 s2 : Nat} {o1 o2 : Option (Nat × Nat)} {x1 x2 : List Value} {a b : Blk} {L : Own} {h : PH} (ap : Ap (oent e1 s1 o1 x1 (oent e2 s2 o2 x2 (a :: b :: L))) h) (nd : Nd (oent e1 s1 o1 x1 (oent e2 s2 o2 x2 (a :: b :: L)))) :
  (h a.b = noC ∧ h b.b = noC) ∧ (apB o1 a.b ∧ apB o1 b.b) ∧ apB o2 a.b ∧ apB o2 b.b := by
 cases o1 with
 | none =>
  cases o2 with
  | none => exact ⟨⟨ap.1, ap.2.1⟩, ⟨trivial, trivial⟩, trivial, trivial⟩
  | some q => exact ⟨⟨ap.2.1, ap.2.2.1⟩, ⟨trivial, trivial⟩, Ne.symm nd.1.1, Ne.symm nd.1.2.1⟩
 | some p =>
  cases o2 with
  | none => exact ⟨⟨ap.2.1, ap.2.2.1⟩, ⟨Ne.symm nd.1.1, Ne.symm nd.1.2.1⟩, trivial, trivial⟩
  | some q => exact ⟨⟨ap.2.2.1, ap.2.2.2.1⟩, ⟨Ne.symm nd.1.2.1, Ne.symm nd.1.2.2.1⟩, Ne.symm nd.2.1.1, Ne.symm nd.2.1.2.1⟩
abbrev zB (b : Nat) : Blk := ⟨b, 41, stC zeroS nilV, 41⟩
abbrev sB (b : Nat) (s : StD) (v : SV) : Blk := ⟨b, 41, stC s v, 41⟩
theorem ap_sub {L0 L : Own} {h : PH} (hs : L0.Sublist L) : Ap L h → Ap L0 h := by
 induction hs with
 | slnil => exact id
 | cons a _ ih => exact fun q => ih q.2
 | cons_cons a _ ih => exact fun q => ⟨q.1, ih q.2⟩
theorem nd_sub {L0 L : Own} (hs : L0.Sublist L) : Nd L → Nd L0 := by
 induction hs with
 | slnil => exact id
 | cons a _ ih => exact fun q => ih q.2
 | cons_cons a hs ih => exact fun q => ⟨apart_sub hs q.1, ih q.2⟩
theorem full_sub (x y : Blk) (e1 s1 e2 s2 : Nat) (o1 o2 : Option (Nat × Nat)) (x1 x2 : List Value) (L : Own) : (x :: oent e1 s1 o1 x1 (oent e2 s2 o2 x2 L)).Sublist (x :: oent e1 s1 o1 x1 (oent e2 s2 o2 x2 (y :: L))) := by
 refine List.Sublist.cons_cons _ ?_
 have h2 : (oent e2 s2 o2 x2 L).Sublist (oent e2 s2 o2 x2 (y :: L)) := by
  cases o2 with
  | none => exact List.Sublist.cons _ (List.Sublist.refl _)
  | some q => exact List.Sublist.cons_cons _ (List.Sublist.cons _ (List.Sublist.refl _))
 cases o1 with
 | none => exact h2
 | some p => exact List.Sublist.cons_cons _ h2
structure BlkG where
 k : Nat
 t : StD
 h : PH
 v : SV
 ox : Option (Nat × Nat)
theorem rblock_any {s : StD} {v : SV} {xs : List Int} {bv : Value} (hs : IsSt h v s) (few : OwnFew s) (hb : Ints h .u8 bv xs)
  (hk : ∀ h' v', PH.le h h' → IsSt h' v' (blockP s xs).1 → K (.tuple #[stV (blockP s xs).1 v', .int .i64 (blockP s xs).2.1, .int .i64 (blockP s xs).2.2]) L h') :
  Spec Tryz.prog 24 [stV s v, bv] L h K := by
 have hb0 := hb
 obtain ⟨pa, pc, ma, mc, ea, ec, xa, xc, oa, oc, da, dc, ta, tc, ka, kc, ra, rc, rfl⟩ := hs.slices
 obtain ⟨x1, y1, rfl, _⟩ := hb.open
 refine x_enterA Tryz.func24 rfl (rs := [_, _, _]) rfl rfl mixed (by kernel_rfl) rfl rfl fun ap nd => ?_
 simp -dsimp -implicitDefEqProofs (disch := first|with_reducible assumption|omega) [go_sem]
 refine xnew fun b2 n_b2 h_b2 => ?_
 try simp only [Apart] at n_b2
 simp -dsimp -implicitDefEqProofs (disch := first|with_reducible assumption|omega) [go_sem]
 refine xnew fun b4 n_b4 h_b4 => ?_
 try simp only [Apart] at n_b4
 simp -dsimp -implicitDefEqProofs (disch := first|with_reducible assumption|omega) [go_sem]
 refine fits_any (s := s) ⟨.slice pa s.purses.length pc, .slice ma s.members.length mc, .slice ea s.entry.length ec, .slice xa s.exit.length xc, .slice oa s.pool.length oc, .slice da s.dues.length dc, .slice ta s.motions.length tc, .slice ka s.marks.length kc, .slice ra s.ring.length rc⟩ hs (own_fewS few) ?_
 unfold blockP at hk
 cases c1 : fitsS s with
 | false =>
  rw [c1, if_neg (by decide)] at hk
  simp -dsimp -implicitDefEqProofs (disch := first|with_reducible assumption|omega) [go_sem]
  exact fin_tail (fin_tail (fin_here (hk h nilV (PH.le_refl _) (isSt_zero h))))
 | true =>
 rw [c1, if_pos rfl] at hk
 simp -dsimp -implicitDefEqProofs (disch := first|with_reducible assumption|omega) [go_sem]
 refine Spec.ap (bdec_any _ hb0 fun h2 r l le2 hd2 hl2 ap => ?_)
 simp only [Ap] at ap
 obtain ⟨a24, a22, _⟩ := ap
 have hsound := bdec_sound (byte_of hb0)
 obtain ⟨ds, at', e, hB⟩ : ∃ ds at' e, bdec xs = (ds, at', e) := ⟨_, _, _, rfl⟩
 rw [hB] at hk hl2 hsound ⊢
 simp only at hk hl2 hsound
 by_cases c2 : e = 0
 case neg =>
  rw [if_neg c2] at hk
  simp -dsimp -implicitDefEqProofs (disch := first|with_reducible assumption|omega) [go_sem]
  exact fin_tail (fin_tail (fin_here (hk h2 nilV le2 (isSt_zero h2))))
 subst c2
 rw [if_pos rfl] at hk
 obtain ⟨allr, hlen, _⟩ := hsound rfl
 obtain ⟨la, lc, er, _⟩ := hd2.open
 subst er
 simp -dsimp -implicitDefEqProofs (disch := first|with_reducible assumption|omega) [go_sem]
 refine Spec.apn (own24_any (s := s) ⟨.slice pa s.purses.length pc, .slice ma s.members.length mc, .slice ea s.entry.length ec, .slice xa s.exit.length xc, .slice oa s.pool.length oc, .slice da s.dues.length dc, .slice ta s.motions.length tc, .slice ka s.marks.length kc, .slice ra s.ring.length rc⟩ (hs.up le2) few fun h5 u om ox le5 ok1 ok2 hn ap5 nd5 => ?_)
 obtain ⟨⟨a54, a52⟩, ⟨p14, p12⟩, p24, p22⟩ := full2_facts ap5 nd5
 simp only at a54 a52 p14 p12 p24 p22
 have hh5 := Hd.of (hs.up le2) hn ok1 ok2
 simp -dsimp -implicitDefEqProofs (disch := first|with_reducible assumption|omega) [go_sem]
 refine xnew fun bh n_bh h_bh => ?_
 try simp only [Apart] at n_bh
 have nh4 : b4 ≠ bh := of_apart n_bh _ (mem_oent (mem_oent List.mem_cons_self))
 have nh2 : b2 ≠ bh := of_apart n_bh _ (mem_oent (mem_oent (List.mem_cons_of_mem _ List.mem_cons_self)))
 simp -dsimp -implicitDefEqProofs (disch := first|with_reducible assumption|omega) [go_sem]
 have hap : Ap (fullO bh ox om s (setMX u (ovs om s.members.length) (ovs ox s.exit.length)) (zB b4 :: sB b2 s ⟨.slice pa s.purses.length pc, .slice ma s.members.length mc, .slice ea s.entry.length ec, .slice xa s.exit.length xc, .slice oa s.pool.length oc, .slice da s.dues.length dc, .slice ta s.motions.length tc, .slice ka s.marks.length kc, .slice ra s.ring.length rc⟩ :: L)) h5 := ⟨h_bh, ap5⟩
 have hnd : Nd (fullO bh ox om s (setMX u (ovs om s.members.length) (ovs ox s.exit.length)) (zB b4 :: sB b2 s ⟨.slice pa s.purses.length pc, .slice ma s.members.length mc, .slice ea s.entry.length ec, .slice xa s.exit.length xc, .slice oa s.pool.length oc, .slice da s.dues.length dc, .slice ta s.motions.length tc, .slice ka s.marks.length kc, .slice ra s.ring.length rc⟩ :: L)) := ⟨n_bh, nd5⟩
 have hdl : (dl l).length = l.length := dl_len l
 have le25 := le2.trans le5
 rw [hl2] at hdl
 refine xloop (γ := BlkG) ⟨0, s, h5, setMX u (ovs om s.members.length) (ovs ox s.exit.length), ox⟩
  (fun x => x.k ≤ l.length ∧ PH.le h5 x.h ∧ Hd x.h x.v x.t ∧ x.v.m = ovs om x.t.members.length ∧ okO om x.t.members.length ∧ x.v.x = ovs x.ox x.t.exit.length ∧ okO x.ox x.t.exit.length ∧ fitsS x.t = true ∧ x.t.dues.length ≤ 1000 ∧ (∀ z ∈ x.t.exit, -9223372036854775808 ≤ z ∧ z ≤ 9223372036854775807) ∧ runB s ds 0 = runB x.t (ds.drop x.k) x.k ∧
   Ap (fullO bh x.ox om x.t x.v (zB b4 :: sB b2 s ⟨.slice pa s.purses.length pc, .slice ma s.members.length mc, .slice ea s.entry.length ec, .slice xa s.exit.length xc, .slice oa s.pool.length oc, .slice da s.dues.length dc, .slice ta s.motions.length tc, .slice ka s.marks.length kc, .slice ra s.ring.length rc⟩ :: L)) x.h ∧ Nd (fullO bh x.ox om x.t x.v (zB b4 :: sB b2 s ⟨.slice pa s.purses.length pc, .slice ma s.members.length mc, .slice ea s.entry.length ec, .slice xa s.exit.length xc, .slice oa s.pool.length oc, .slice da s.dues.length dc, .slice ta s.motions.length tc, .slice ka s.marks.length kc, .slice ra s.ring.length rc⟩ :: L)))
  (fun x => [(33, .int .i64 x.k), (32, .int .i64 l.length), (31, .slice la l.length lc), (8, .pointer (some ⟨bh, 0, none⟩)), (4, .pointer (some ⟨b4, 0, none⟩))])
  (fun x => fullO bh x.ox om x.t x.v (zB b4 :: sB b2 s ⟨.slice pa s.purses.length pc, .slice ma s.members.length mc, .slice ea s.entry.length ec, .slice xa s.exit.length xc, .slice oa s.pool.length oc, .slice da s.dues.length dc, .slice ta s.motions.length tc, .slice ka s.marks.length kc, .slice ra s.ring.length rc⟩ :: L)) (fun x => x.h) (fun x => l.length - x.k) ?_ ?_ ?_ ?_
 ·exact ⟨Nat.zero_le _, PH.le_refl _, hh5, rfl, ok1, rfl, ok2, c1, few.d, fun z hz => by have := hs.x.2 z hz; rwa [i64minR, i64maxR] at this, rfl, hap, hnd⟩
 ·simp [Ent, List.lookup, xEnv]
 ·exact Drop.refl _ _
 clear hap hnd ap5 nd5 n_bh h_bh
 rintro ⟨k, t, hg, vg, oxg⟩ ⟨i1, i2, i3, i4, i5, i6, i7, i8, i9, i10, i11, iap, ind⟩
 simp only at i1 i2 i3 i4 i5 i6 i7 i8 i9 i10 i11 iap ind ⊢
 have f2 := full2_facts iap.2 ind.2
 have ghh : hg bh = noC := iap.1
 have g4h : hg b4 = noC := f2.1.1
 have w14 : apB oxg b4 := f2.2.1.1
 have w24 : apB om b4 := f2.2.2.1
 have hdg : Deeds hg (.slice la l.length lc) l := hd2.up (le5.trans i2)
 by_cases ck : k < l.length
 ·simp -dsimp -implicitDefEqProofs (disch := first|with_reducible assumption|omega) [go_sem, ↓idxD hdg]
  refine xnew fun b10 n_b10 h_b10 => ?_
  try simp only [Apart] at n_b10
  have m10 : b4 ≠ b10 := of_apart n_b10.2 _ (mem_oent (mem_oent List.mem_cons_self))
  simp -dsimp -implicitDefEqProofs (disch := first|with_reducible assumption|omega) [go_sem, ↓idxD hdg]
  have hdk : IsDeed hg (gq l k).1 (gq l k).2 := hdg.at ck
  have hck : k < ds.length := by omega
  have hdd : (gq l k).2 = ds[k] := by
   subst hl2
   rw [gq_lt ck]
   simp [dl]
  have hmem : (gq l k).2 ∈ ds := by rw [hdd]; exact List.getElem_mem hck
  have hright := (allr _ hmem).2
  have hdrop : ds.drop k = (gq l k).2 :: ds.drop (k + 1) := by rw [hdd]; exact List.drop_eq_getElem_cons hck
  obtain ⟨u1, u2, u3, u4⟩ := i3.use i8
  have rf := right_facts hright
  obtain ⟨xq, yq, eq, _⟩ := hdk.i.open
  refine ⟨by rw [eq]; rfl, ?_⟩
  refine Spec.fin (Spec.apn (Spec.weaken (Drop.perm hg (full_perm _ _ _ _ _ _ _ _ _ _ _)) (hdo_any (d := (gq l k).2) (s := t) (v := vg) (om := om) (ox := oxg) i3 (own_few i8 i9) hdk i4 i5 i6 i7 u1 u2 u3 rf.1 fun h6 v6 ox6 le6 g1 g2 g3 g4 g5 ap6 nd6 => ⟨_, _, Drop.perm h6 (full_perm _ _ _ _ _ _ _ _ _ _ _).symm, ?_⟩)))
  have ap7 := ap_sub (full_sub _ _ _ _ _ _ _ _ _ _ _) ap6
  have nd7 := nd_sub (full_sub _ _ _ _ _ _ _ _ _ _ _) nd6
  clear ap6 nd6
  rw [hdrop, runB] at i11
  by_cases e : (doP t (gq l k).2).2 = 0
  ·rw [if_pos e] at i11
   rw [e]
   simp -dsimp -implicitDefEqProofs (disch := first|with_reducible assumption|omega) [go_sem]
   refine ⟨⟨k + 1, (doP t (gq l k).2).1, h6, v6, ox6⟩, ⟨by simp only; omega, i2.trans le6, g1, g2, by simp only [g5]; exact i5, g3, g4, doP_fits i8 hright hdk.ok.a.1 u4 (fun i => i3.k.byte i) (fun i => hdk.i.byte i) e, by simp only [doP_dues]; exact i9, fun z hz => ?_, i11, ap7, nd7⟩, by simp only; omega, by simp [Ent, List.lookup], Drop.tail _ _ _⟩
   rcases doP_exit z hz with q | q
   ·exact i10 z q
   ·rw [q]; exact hdk.ok.n _ (by simp)
  ·rw [if_neg e] at i11
   rw [i11] at hk
   have f7 := full2_facts ap7.2 nd7.2
   have a64 : h6 b4 = noC := f7.1.1
   have v14 : apB ox6 b4 := f7.2.1.1
   have v24 : apB om b4 := f7.2.2.1
   have n4h : b4 ≠ bh := of_apart nd7.1 _ (mem_oent (mem_oent List.mem_cons_self))
   simp -dsimp -implicitDefEqProofs (disch := first|with_reducible assumption|omega) [go_sem, xFind_oent v14, xFind_oent v24, xSet_oent v14, xSet_oent v24]
   exact fin_tail (fin_tail (fin_oent (fin_oent (fin_tail (fin_tail (fin_here (hk h6 nilV (le25.trans (i2.trans le6)) (isSt_zero h6))))))))
 ·have hke : k = l.length := by omega
  subst hke
  rw [List.drop_of_length_le (by omega), runB] at i11
  rw [i11] at hk
  have n4h : b4 ≠ bh := of_apart ind.1 _ (mem_oent (mem_oent List.mem_cons_self))
  obtain ⟨two1, two2⟩ := ap_two iap ind
  simp -dsimp -implicitDefEqProofs (disch := first|with_reducible assumption|omega) [go_sem, xFind_oent w14, xFind_oent w24, xSet_oent w14, xSet_oent w24]
  refine ⟨i3.ones, ?_⟩
  refine fin_tail (fin_pub2 (n1 := t.exit.length) (n2 := t.members.length) i7 (by simp) (okO_le i7) i5 (by rw [flatG_len memC_len]) (okO_le i5) two1 two2 fun h7 le7 sx sm => fin_tail (fin_tail (fin_here ?_)))
  refine hk h7 vg (le25.trans (i2.trans le7)) (Hd.st (i3.up le7) ?_ ?_)
  ·rw [i4]; exact Recs.pub memC_len sm
  ·rw [i6]
   refine ⟨by simpa using sx, fun z hz => ?_⟩
   rw [i64minR, i64maxR]
   exact i10 z hz
end Go.X

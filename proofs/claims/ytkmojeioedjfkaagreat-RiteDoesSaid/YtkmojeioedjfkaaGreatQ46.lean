/- Lemmas and contracts for a statement about the given program. Conditions: as each says. -/
import Derived.Test.YtkmojeioedjfkaaGreatQ26
import Derived.Test.YtkmojeioedjfkaaGreatQ27
import Derived.Test.YtkmojeioedjfkaaGreatQ33
import Derived.Test.YtkmojeioedjfkaaGreatQ34
import Derived.Test.YtkmojeioedjfkaaGreatQ43
import Derived.Test.YtkmojeioedjfkaaGreatQ45
set_option linter.unusedVariables false
set_option linter.unusedSimpArgs false
set_option maxHeartbeats 12800000
set_option maxRecDepth 20000
namespace Go.X
open Go.RowKit Go.Proofs Go.Bl
variable {L : Own} {h : PH} {K : PK}
theorem Hd.slices {v : SV} {s : StD} (hs : Hd h v s) : ∃ pa pc ma mc ea ec xa xc oa oc da dc ta tc ka kc ra rc,
  v = ⟨.slice pa s.purses.length pc, .slice ma s.members.length mc, .slice ea s.entry.length ec, .slice xa s.exit.length xc, .slice oa s.pool.length oc, .slice da s.dues.length dc, .slice ta s.motions.length tc, .slice ka s.marks.length kc, .slice ra s.ring.length rc⟩ := by
 obtain ⟨pa, pc, hp, _⟩ := hs.p.open
 obtain ⟨ma, mc, hm⟩ := hs.m
 obtain ⟨ea, ec, he, _⟩ := hs.e.open
 obtain ⟨xa, xc, hx⟩ := hs.x
 obtain ⟨oa, oc, ho, _⟩ := hs.o.open
 obtain ⟨da, dc, hd, _⟩ := hs.d.open
 obtain ⟨q, t1, t2, _⟩ := hs.t
 obtain ⟨ta, tc, ht, _⟩ := t1.open
 obtain ⟨ka, kc, hk, _⟩ := hs.k.open
 obtain ⟨r, r1, r2⟩ := hs.r
 obtain ⟨ra, rc, hr, _⟩ := r1.open
 refine ⟨pa, pc, ma, mc, ea, ec, xa, xc, oa, oc, da, dc, ta, tc, ka, kc, ra, rc, ?_⟩
 rw [← t2, ← r2, List.length_map, xsL_len]
 cases v
 simp only at hp hm he hx ho hd ht hk hr
 simp only [hp, hm, he, hx, ho, hd, ht, hk, hr]
theorem rstake_any {s : StD} {v : SV} {p : DepD} (hs : Hd h v s) (few : OwnFew s) (hp : DepOk p)
  (hk : ∀ h' v', PH.le h h' → (drawP s.purses p.acct p.amt).2 = 0 → (addP s.pool p).2 = 0 → Hd h' v' { s with purses := (drawP s.purses p.acct p.amt).1, pool := (addP s.pool p).1 } → v'.m = v.m → v'.x = v.x → K (.tuple #[stV { s with purses := (drawP s.purses p.acct p.amt).1, pool := (addP s.pool p).1 } v', .int .i64 0]) L h')
  (hk1 : ∀ h', PH.le h h' → (drawP s.purses p.acct p.amt).2 ≠ 0 → K (.tuple #[stV s v, .int .i64 (drawP s.purses p.acct p.amt).2]) L h')
  (hk2 : ∀ h', PH.le h h' → (drawP s.purses p.acct p.amt).2 = 0 → (addP s.pool p).2 ≠ 0 → K (.tuple #[stV s v, .int .i64 (addP s.pool p).2]) L h') :
  Spec Tryz.prog 71 [stV s v, depV p] L h K := by
 have ua := hp.a
 have fp := few.p
 have fo := few.o
 obtain ⟨pa, pc, ma, mc, ea, ec, xa, xc, oa, oc, da, dc, ta, tc, ka, kc, ra, rc, rfl⟩ := hs.slices
 refine x_enter Tryz.func71 rfl (rs := [_, _]) rfl rfl mixed (by kernel_rfl) rfl rfl ?_
 simp -dsimp -implicitDefEqProofs (disch := first|with_reducible assumption|omega) [go_sem]
 refine xnew fun b2 n_b2 h_b2 => ?_
 try simp only [Apart] at n_b2
 simp -dsimp -implicitDefEqProofs (disch := first|with_reducible assumption|omega) [go_sem]
 refine xnew fun b3 n_b3 h_b3 => ?_
 try simp only [Apart] at n_b3
 simp -dsimp -implicitDefEqProofs (disch := first|with_reducible assumption|omega) [go_sem]
 refine xnew fun b4 n_b4 h_b4 => ?_
 try simp only [Apart] at n_b4
 simp -dsimp -implicitDefEqProofs (disch := first|with_reducible assumption|omega) [go_sem]
 refine Spec.ap (rdraw_any _ hs.p (by omega) p.acct p.amt ua fun h2 r2 le2 i2 ap => ?_)
 simp only [Ap] at ap
 obtain ⟨a24, a23, a22, _⟩ := ap
 have i20 := i2
 obtain ⟨qa, qc, rfl, _⟩ := i2.open
 by_cases c1 : (drawP s.purses p.acct p.amt).2 = 0
 case neg =>
  simp -dsimp -implicitDefEqProofs (disch := first|with_reducible assumption|omega) [go_sem]
  exact fin_tail (fin_tail (fin_tail (fin_here (hk1 h2 le2 c1))))
 rw [c1]
 simp -dsimp -implicitDefEqProofs (disch := first|with_reducible assumption|omega) [go_sem]
 refine Spec.ap (radd18 _ (hs.o.up le2) (by omega) p hp fun h3 r3 le3 i3 ap => ?_)
 simp only [Ap] at ap
 obtain ⟨a34, a33, a32, _⟩ := ap
 have i30 := i3
 obtain ⟨wa, wc, rfl, _⟩ := i3.open
 by_cases c2 : (addP s.pool p).2 = 0
 case neg =>
  simp -dsimp -implicitDefEqProofs (disch := first|with_reducible assumption|omega) [go_sem]
  exact fin_tail (fin_tail (fin_tail (fin_here (hk2 h3 (le2.trans le3) c1 c2))))
 rw [c2]
 simp -dsimp -implicitDefEqProofs (disch := first|with_reducible assumption|omega) [go_sem]
 have hu := hs.up (le2.trans le3)
 have := hk h3 { (⟨.slice pa s.purses.length pc, .slice ma s.members.length mc, .slice ea s.entry.length ec, .slice xa s.exit.length xc, .slice oa s.pool.length oc, .slice da s.dues.length dc, .slice ta s.motions.length tc, .slice ka s.marks.length kc, .slice ra s.ring.length rc⟩ : SV) with p := .slice qa (drawP s.purses p.acct p.amt).1.length qc, o := .slice wa (addP s.pool p).1.length wc } (le2.trans le3) c1 c2 ((hu.setP (i20.up le3)).setO i30 (addP_ok hs.oo hp)) rfl rfl
 exact fin_tail (fin_tail (fin_tail (fin_here this)))
theorem perm3 {e1 s1 e2 s2 : Nat} {o1 o2 : Option (Nat × Nat)} {x1 x2 : List Value} {a b c : Blk} {L : Own} : (oent e1 s1 o1 x1 (oent e2 s2 o2 x2 (a :: b :: c :: L))).Perm (a :: b :: c :: oent e1 s1 o1 x1 (oent e2 s2 o2 x2 L)) :=
 (oent_permL (oent_front e2 s2 o2 x2 [a, b, c] L)).symm.trans (oent_front e1 s1 o1 x1 [a, b, c] _).symm
theorem ap_two0 {e1 s1 e2 s2 : Nat} {o1 o2 : Option (Nat × Nat)} {x1 x2 : List Value} {L : Own} {h : PH} (ap : Ap (oent e1 s1 o1 x1 (oent e2 s2 o2 x2 L)) h) (nd : Nd (oent e1 s1 o1 x1 (oent e2 s2 o2 x2 L))) :
  Ap (oent e1 s1 o1 x1 (oent e2 s2 o2 x2 [])) h ∧ Nd (oent e1 s1 o1 x1 (oent e2 s2 o2 x2 [])) := by
 cases o1 with
 | none =>
  cases o2 with
  | none => exact ⟨trivial, trivial⟩
  | some q => exact ⟨⟨ap.1, trivial⟩, ⟨trivial, trivial⟩⟩
 | some p =>
  cases o2 with
  | none => exact ⟨⟨ap.1, trivial⟩, ⟨trivial, trivial⟩⟩
  | some q => exact ⟨⟨ap.1, ap.2.1, trivial⟩, ⟨⟨nd.1.1, trivial⟩, trivial, trivial⟩⟩
theorem two_of {e1 s1 e2 s2 : Nat} {o1 o2 : Option (Nat × Nat)} {x1 x2 : List Value} {M L : Own} {h : PH} (a1 : apO o1 (M ++ oent e2 s2 o2 x2 L) h) (a2 : ∀ b c, o2 = some (b, c) → h b = noC) :
  Ap (oent e1 s1 o1 x1 (oent e2 s2 o2 x2 [])) h ∧ Nd (oent e1 s1 o1 x1 (oent e2 s2 o2 x2 [])) := by
 cases o1 with
 | none =>
  cases o2 with
  | none => exact ⟨trivial, trivial⟩
  | some q => exact ⟨⟨a2 q.1 q.2 rfl, trivial⟩, ⟨trivial, trivial⟩⟩
 | some p =>
  cases o2 with
  | none => exact ⟨⟨a1.2, trivial⟩, ⟨trivial, trivial⟩⟩
  | some q =>
   have hne : q.1 ≠ p.1 := of_apart a1.1 ⟨q.1, e2, x2, q.2 * s2⟩ (List.mem_append_right _ List.mem_cons_self)
   exact ⟨⟨a1.2, a2 q.1 q.2 rfl, trivial⟩, ⟨⟨hne, trivial⟩, trivial, trivial⟩⟩
theorem do_end {om ox : Option (Nat × Nat)} {s : StD} {v : SV} {x y z : Blk} (hh : Hd h v s) (em : v.m = ovs om s.members.length) (okm : okO om s.members.length) (ex : v.x = ovs ox s.exit.length) (okx : okO ox s.exit.length) (hr : ∀ w ∈ s.exit, -9223372036854775808 ≤ w ∧ w ≤ 9223372036854775807)
  (two : Ap (oent 3 1 ox (s.exit.map (.int .i64)) (oent 128 6 om (s.members.flatMap memC) [])) h ∧ Nd (oent 3 1 ox (s.exit.map (.int .i64)) (oent 128 6 om (s.members.flatMap memC) [])))
  (hk : ∀ h', PH.le h h' → IsSt h' v s → K (.tuple #[stV s v, .int .i64 0]) L h') : fin K (.tuple #[stV s v, .int .i64 0]) (x :: y :: z :: oent 3 1 ox (s.exit.map (.int .i64)) (oent 128 6 om (s.members.flatMap memC) L)) h := by
 refine fin_tail (fin_tail (fin_tail (fin_pub2 (n1 := s.exit.length) (n2 := s.members.length) okx (by simp) (okO_le okx) okm (by rw [flatG_len memC_len]) (okO_le okm) two.1 two.2 fun h7 le7 sx sm => fin_here ?_)))
 refine hk h7 le7 (Hd.st (hh.up le7) ?_ ?_)
 ·rw [em]; exact Recs.pub memC_len sm
 ·rw [ex]
  refine ⟨by simpa using sx, fun w hw => ?_⟩
  rw [i64minR, i64maxR]
  exact hr w hw
theorem do_end2 {bm cm : Nat} {ox : Option (Nat × Nat)} {s : StD} {v : SV} {x y z : Blk} (hh : Hd h v s) (em : v.m = ovs (some (bm, cm)) s.members.length) (okm : okO (some (bm, cm)) s.members.length) (ex : v.x = ovs ox s.exit.length) (okx : okO ox s.exit.length) (hr : ∀ w ∈ s.exit, -9223372036854775808 ≤ w ∧ w ≤ 9223372036854775807)
  (two : Ap (oent 3 1 ox (s.exit.map (.int .i64)) (oent 128 6 (some (bm, cm)) (s.members.flatMap memC) [])) h ∧ Nd (oent 3 1 ox (s.exit.map (.int .i64)) (oent 128 6 (some (bm, cm)) (s.members.flatMap memC) [])))
  (hk : ∀ h', PH.le h h' → IsSt h' v s → K (.tuple #[stV s v, .int .i64 0]) L h') : fin K (.tuple #[stV s v, .int .i64 0]) (x :: y :: z :: oent 3 1 ox (s.exit.map (.int .i64)) (⟨bm, 128, s.members.flatMap memC, cm * 6⟩ :: L)) h :=
 do_end (om := some (bm, cm)) hh em okm ex okx hr two hk
abbrev OnesV (v : SV) : Prop := v.p.oneCell' = true ∧ v.m.oneCell' = true ∧ v.e.oneCell' = true ∧ v.x.oneCell' = true ∧ v.o.oneCell' = true ∧ v.d.oneCell' = true ∧ v.t.oneCell' = true ∧ v.k.oneCell' = true ∧ v.r.oneCell' = true
theorem two_facts {e1 s1 e2 s2 : Nat} {o1 : Option (Nat × Nat)} {x1 x2 : List Value} {bm cm : Nat} {h : PH} (two : Ap (oent e1 s1 o1 x1 (oent e2 s2 (some (bm, cm)) x2 [])) h ∧ Nd (oent e1 s1 o1 x1 (oent e2 s2 (some (bm, cm)) x2 []))) : h bm = noC ∧ apB o1 bm := by
 cases o1 with
 | none => exact ⟨two.1.1, trivial⟩
 | some p => exact ⟨two.1.2.1, Ne.symm two.2.1.1⟩
theorem rdo25_any {s : StD} {v : SV} {d : DeedD} {bv : Value} (hs : IsSt h v s) (few : OwnFew s) (hf : fitsS s = true) (hr : rightD d = true) (hd : IsDeed h bv d)
  (hk : ∀ h' v', PH.le h h' → (doP s d).2 = 0 → IsSt h' v' (doP s d).1 → K (.tuple #[stV (doP s d).1 v', .int .i64 0]) L h')
  (hk2 : ∀ h' t u, PH.le h h' → OnesV u → (doP s d).2 ≠ 0 → K (.tuple #[stV t u, .int .i64 (doP s d).2]) L h') :
  Spec Tryz.prog 20 [stV s v, deedV d bv] L h K := by
 have hd0 := hd
 obtain ⟨pa, pc, ma, mc, ea, ec, xa, xc, oa, oc, da, dc, ta, tc, ka, kc, ra, rc, rfl⟩ := hs.slices
 obtain ⟨x1, y1, rfl, _⟩ := hd.i.open
 have rf := right_facts hr
 have ua := hd.ok.a
 refine x_enter Tryz.func20 rfl (rs := [_, _]) rfl rfl mixed (by kernel_rfl) rfl rfl ?_
 simp -dsimp -implicitDefEqProofs (disch := first|with_reducible assumption|omega) [go_sem]
 refine xnew fun b2 n_b2 h_b2 => ?_
 try simp only [Apart] at n_b2
 simp -dsimp -implicitDefEqProofs (disch := first|with_reducible assumption|omega) [go_sem]
 refine xnew fun b3 n_b3 h_b3 => ?_
 try simp only [Apart] at n_b3
 simp -dsimp -implicitDefEqProofs (disch := first|with_reducible assumption|omega) [go_sem]
 refine xnew fun b4 n_b4 h_b4 => ?_
 try simp only [Apart] at n_b4
 simp -dsimp -implicitDefEqProofs (disch := first|with_reducible assumption|omega) [go_sem]
 refine rfirst_any (s := s) (v := ⟨.slice pa s.purses.length pc, .slice ma s.members.length mc, .slice ea s.entry.length ec, .slice xa s.exit.length xc, .slice oa s.pool.length oc, .slice da s.dues.length dc, .slice ta s.motions.length tc, .slice ka s.marks.length kc, .slice ra s.ring.length rc⟩) (d := d) (bv := .slice x1 d.bits.length y1) hs few hd0 (right_what hr) ?_
 by_cases c1 : accP s d = 0
 case neg =>
  have e : doP s d = (s, accP s d) := by rw [doP, if_pos c1]
  rw [if_pos c1]
  simp -dsimp -implicitDefEqProofs (disch := first|with_reducible assumption|omega) [go_sem]
  have := hk2 h s ⟨.slice pa s.purses.length pc, .slice ma s.members.length mc, .slice ea s.entry.length ec, .slice xa s.exit.length xc, .slice oa s.pool.length oc, .slice da s.dues.length dc, .slice ta s.motions.length tc, .slice ka s.marks.length kc, .slice ra s.ring.length rc⟩ (PH.le_refl _) ⟨rfl, rfl, rfl, rfl, rfl, rfl, rfl, rfl, rfl⟩ (by rw [e]; exact c1)
  rw [e] at this
  exact fin_tail (fin_tail (fin_tail (fin_here this)))
 rw [if_neg (fun q => q c1)]
 by_cases c2 : memP s d = 0
 case neg =>
  have e : doP s d = (s, memP s d) := by rw [doP, if_neg (by simp [c1]), if_pos c2]
  simp -dsimp -implicitDefEqProofs (disch := first|with_reducible assumption|omega) [go_sem]
  have := hk2 h s ⟨.slice pa s.purses.length pc, .slice ma s.members.length mc, .slice ea s.entry.length ec, .slice xa s.exit.length xc, .slice oa s.pool.length oc, .slice da s.dues.length dc, .slice ta s.motions.length tc, .slice ka s.marks.length kc, .slice ra s.ring.length rc⟩ (PH.le_refl _) ⟨rfl, rfl, rfl, rfl, rfl, rfl, rfl, rfl, rfl⟩ (by rw [e]; exact c2)
  rw [e] at this
  exact fin_tail (fin_tail (fin_tail (fin_here this)))
 rw [c2]
 have edo : doP s d = if d.kind = 1 then sendP s d else if d.kind = 2 ∨ d.kind = 3 then stakeP s d else if d.kind = 4 then leaveP s d else if d.kind = 5 then markSP s d else if d.kind = 6 then motP s d else voteSP s d := by
  rw [doP, if_neg (by simp [c1]), if_neg (by simp [c2])]
 simp -dsimp -implicitDefEqProofs (disch := first|with_reducible assumption|omega) [go_sem]
 refine Spec.fin (Spec.apn (rown24_any (s := s) ⟨.slice pa s.purses.length pc, .slice ma s.members.length mc, .slice ea s.entry.length ec, .slice xa s.exit.length xc, .slice oa s.pool.length oc, .slice da s.dues.length dc, .slice ta s.motions.length tc, .slice ka s.marks.length kc, .slice ra s.ring.length rc⟩ hs few fun h5 u om ox le5 ok1 ok2 hn ap5 nd5 => ⟨_, _, Drop.perm h5 perm3, ?_⟩))
 obtain ⟨⟨a54, a53, a52⟩, ⟨p14, p13, p12⟩, p24, p23, p22⟩ := full3_facts ap5 nd5
 simp only at a54 a53 a52 p14 p13 p12 p24 p23 p22
 have fx := few.x
 have two5 := ap_two0 ap5 nd5
 have f43 : NeB b4 b3 := Ne.symm n_b4.1
 have f42 : NeB b4 b2 := Ne.symm n_b4.2.1
 have f32 : NeB b3 b2 := Ne.symm n_b3.1
 clear n_b4 n_b3 n_b2
 have hh5 := Hd.of hs hn ok1 ok2
 have hd5 := hd0.up le5
 clear hn
 obtain ⟨w, ew⟩ : ∃ w : SV, w = setMX u (ovs om s.members.length) (ovs ox s.exit.length) := ⟨_, rfl⟩
 rw [← ew] at hh5 ⊢
 have em : w.m = ovs om s.members.length := by rw [ew]
 have ex : w.x = ovs ox s.exit.length := by rw [ew]
 clear ew
 obtain ⟨pa2, pc2, ma2, mc2, ea2, ec2, xa2, xc2, oa2, oc2, da2, dc2, ta2, tc2, ka2, kc2, ra2, rc2, rfl⟩ := hh5.slices
 simp only at em ex
 obtain ⟨q1, q2, q3, q4⟩ := hh5.use hf
 have ub : 0 ≤ s.par.bond ∧ s.par.bond ≤ 18446744073709551615 := hh5.ok.p.1 _ (by simp [wides])
 have ut : 0 ≤ s.treas ∧ s.treas ≤ 18446744073709551615 := hh5.ok.u _ (by simp)
 have hxr : ∀ z ∈ (doP s d).1.exit, -9223372036854775808 ≤ z ∧ z ≤ 9223372036854775807 := fun z hz => by
  rcases doP_exit z hz with q | q
  ·have := hs.x.2 z q
   rwa [i64minR, i64maxR] at this
  ·rw [q]; exact hd0.ok.n _ (by simp)
 have err : ∀ (h' : PH) (t : StD) (w : SV) (x y z : Blk) (o1 o2 : Option (Nat × Nat)) (x1 x2 : List Value), PH.le h5 h' → OnesV w → (doP s d).2 ≠ 0 → fin K (.tuple #[stV t w, .int .i64 (doP s d).2]) (x :: y :: z :: oent 3 1 o1 x1 (oent 128 6 o2 x2 L)) h' := fun h' t w x y z o1 o2 x1 x2 le on ne =>
  fin_tail (fin_tail (fin_tail (fin_oent (fin_oent (fin_here (hk2 h' t w (le5.trans le) on ne))))))
 have err2 : ∀ (h' : PH) (t : StD) (w : SV) (x y z b : Blk) (o1 : Option (Nat × Nat)) (x1 : List Value), PH.le h5 h' → OnesV w → (doP s d).2 ≠ 0 → fin K (.tuple #[stV t w, .int .i64 (doP s d).2]) (x :: y :: z :: oent 3 1 o1 x1 (b :: L)) h' := fun h' t w x y z b o1 x1 le on ne =>
  fin_tail (fin_tail (fin_tail (fin_oent (fin_tail (fin_here (hk2 h' t w (le5.trans le) on ne))))))
 simp -dsimp -implicitDefEqProofs (disch := first|with_reducible assumption|omega) [go_sem]
 by_cases k1 : d.kind = 1
 ·rw [if_pos k1] at edo
  simp -dsimp -implicitDefEqProofs (disch := first|with_reducible assumption|omega) [go_sem]
  refine Spec.apn (rmove_any _ hh5.p few.p d.acct d.to d.amt ua fun h6 r6 le6 i6 ap nd => ?_)
  have two := ap_two0 ap.2.2.2 nd.2.2.2
  obtain ⟨a64, a63, a62, _⟩ := ap
  clear nd
  have i60 := i6
  obtain ⟨qa, qc, rfl, _⟩ := i6.open
  rw [edo, sendP] at hk hxr err
  by_cases e : (moveP s.purses d.acct d.to d.amt).2 = 0
  ·rw [if_pos e] at hk hxr
   rw [e]
   simp -dsimp -implicitDefEqProofs (disch := first|with_reducible assumption|omega) [go_sem]
   exact do_end (s := { s with purses := (moveP s.purses d.acct d.to d.amt).1 }) (v := { (⟨.slice pa2 s.purses.length pc2, .slice ma2 s.members.length mc2, .slice ea2 s.entry.length ec2, .slice xa2 s.exit.length xc2, .slice oa2 s.pool.length oc2, .slice da2 s.dues.length dc2, .slice ta2 s.motions.length tc2, .slice ka2 s.marks.length kc2, .slice ra2 s.ring.length rc2⟩ : SV) with p := .slice qa (moveP s.purses d.acct d.to d.amt).1.length qc }) ((hh5.up le6).setP i60) em ok1 ex ok2 hxr two fun h' le i => hk h' _ (le5.trans (le6.trans le)) rfl i
  ·rw [if_neg e] at err
   simp -dsimp -implicitDefEqProofs (disch := first|with_reducible assumption|omega) [go_sem]
   exact err h6 s { (⟨.slice pa2 s.purses.length pc2, .slice ma2 s.members.length mc2, .slice ea2 s.entry.length ec2, .slice xa2 s.exit.length xc2, .slice oa2 s.pool.length oc2, .slice da2 s.dues.length dc2, .slice ta2 s.motions.length tc2, .slice ka2 s.marks.length kc2, .slice ra2 s.ring.length rc2⟩ : SV) with p := .slice qa (moveP s.purses d.acct d.to d.amt).1.length qc } _ _ _ _ _ _ _ le6 ⟨rfl, rfl, rfl, rfl, rfl, rfl, rfl, rfl, rfl⟩ e
 rw [if_neg k1] at edo
 simp -dsimp -implicitDefEqProofs (disch := first|with_reducible assumption|omega) [go_sem]
 by_cases k2 : d.kind = 2
 ·rw [if_pos (Or.inl k2)] at edo
  have hm0 := right_mem hr k2
  have dok : DepOk ⟨d.acct, 0, d.amt, true⟩ := ⟨ua, fun z hz => by
   simp only [List.mem_cons, List.not_mem_nil, or_false] at hz
   rcases hz with rfl | rfl <;> omega⟩
  rw [edo, stakeP, decide_eq_true k2, hm0] at hk hxr err
  by_cases c5 : d.amt ≤ s.par.floor
  ·rw [if_pos ⟨k2, c5⟩] at err
   simp -dsimp -implicitDefEqProofs (disch := first|with_reducible assumption|omega) [go_sem]
   exact err h5 s ⟨.slice pa2 s.purses.length pc2, .slice ma2 s.members.length mc2, .slice ea2 s.entry.length ec2, .slice xa2 s.exit.length xc2, .slice oa2 s.pool.length oc2, .slice da2 s.dues.length dc2, .slice ta2 s.motions.length tc2, .slice ka2 s.marks.length kc2, .slice ra2 s.ring.length rc2⟩ _ _ _ _ _ _ _ (PH.le_refl _) ⟨rfl, rfl, rfl, rfl, rfl, rfl, rfl, rfl, rfl⟩ (by simp)
  rw [if_neg (fun q => c5 q.2)] at hk hxr err
  simp -dsimp -implicitDefEqProofs (disch := first|with_reducible assumption|omega) [go_sem]
  refine Spec.apn (rstake_any (s := s) (v := ⟨.slice pa2 s.purses.length pc2, .slice ma2 s.members.length mc2, .slice ea2 s.entry.length ec2, .slice xa2 s.exit.length xc2, .slice oa2 s.pool.length oc2, .slice da2 s.dues.length dc2, .slice ta2 s.motions.length tc2, .slice ka2 s.marks.length kc2, .slice ra2 s.ring.length rc2⟩) (p := ⟨d.acct, 0, d.amt, true⟩) hh5 few dok (fun h6 v6 le6 z1 z2 g1 g2 g3 ap nd => ?_) (fun h6 le6 z1 ap nd => ?_) (fun h6 le6 z1 z2 ap nd => ?_))
  ·have two := ap_two0 ap.2.2.2 nd.2.2.2
   obtain ⟨a64, a63, a62, _⟩ := ap
   clear nd
   rw [if_pos z1, if_pos z2] at hk hxr
   simp -dsimp -implicitDefEqProofs (disch := first|with_reducible assumption|omega) [go_sem]
   refine ⟨g1.ones, ?_⟩
   exact do_end (s := { s with purses := (drawP s.purses d.acct d.amt).1, pool := (addP s.pool ⟨d.acct, 0, d.amt, true⟩).1 }) (v := v6) g1 (g2.trans em) ok1 (g3.trans ex) ok2 hxr two fun h' le i => hk h' _ (le5.trans (le6.trans le)) rfl i
  ·obtain ⟨a64, a63, a62, _⟩ := ap
   clear nd
   rw [if_neg z1] at err
   simp -dsimp -implicitDefEqProofs (disch := first|with_reducible assumption|omega) [go_sem]
   exact err h6 s ⟨.slice pa2 s.purses.length pc2, .slice ma2 s.members.length mc2, .slice ea2 s.entry.length ec2, .slice xa2 s.exit.length xc2, .slice oa2 s.pool.length oc2, .slice da2 s.dues.length dc2, .slice ta2 s.motions.length tc2, .slice ka2 s.marks.length kc2, .slice ra2 s.ring.length rc2⟩ _ _ _ _ _ _ _ le6 ⟨rfl, rfl, rfl, rfl, rfl, rfl, rfl, rfl, rfl⟩ z1
  ·obtain ⟨a64, a63, a62, _⟩ := ap
   clear nd
   rw [if_pos z1, if_neg z2] at err
   simp -dsimp -implicitDefEqProofs (disch := first|with_reducible assumption|omega) [go_sem]
   exact err h6 s ⟨.slice pa2 s.purses.length pc2, .slice ma2 s.members.length mc2, .slice ea2 s.entry.length ec2, .slice xa2 s.exit.length xc2, .slice oa2 s.pool.length oc2, .slice da2 s.dues.length dc2, .slice ta2 s.motions.length tc2, .slice ka2 s.marks.length kc2, .slice ra2 s.ring.length rc2⟩ _ _ _ _ _ _ _ le6 ⟨rfl, rfl, rfl, rfl, rfl, rfl, rfl, rfl, rfl⟩ z2
 simp -dsimp -implicitDefEqProofs (disch := first|with_reducible assumption|omega) [go_sem]
 by_cases k3 : d.kind = 3
 ·rw [if_pos (Or.inr k3)] at edo
  have hn := hd0.ok.n
  have dok : DepOk ⟨d.acct, d.mem, d.amt, false⟩ := ⟨ua, fun z hz => by
   simp only [List.mem_cons, List.not_mem_nil, or_false] at hz
   rcases hz with rfl | rfl
   ·exact hn _ (by simp)
   ·exact hn _ (by simp)⟩
  rw [edo, stakeP, decide_eq_false k2, if_neg (fun q => k2 q.1)] at hk hxr err
  simp -dsimp -implicitDefEqProofs (disch := first|with_reducible assumption|omega) [go_sem]
  refine Spec.apn (rstake_any (s := s) (v := ⟨.slice pa2 s.purses.length pc2, .slice ma2 s.members.length mc2, .slice ea2 s.entry.length ec2, .slice xa2 s.exit.length xc2, .slice oa2 s.pool.length oc2, .slice da2 s.dues.length dc2, .slice ta2 s.motions.length tc2, .slice ka2 s.marks.length kc2, .slice ra2 s.ring.length rc2⟩) (p := ⟨d.acct, d.mem, d.amt, false⟩) hh5 few dok (fun h6 v6 le6 z1 z2 g1 g2 g3 ap nd => ?_) (fun h6 le6 z1 ap nd => ?_) (fun h6 le6 z1 z2 ap nd => ?_))
  ·have two := ap_two0 ap.2.2.2 nd.2.2.2
   obtain ⟨a64, a63, a62, _⟩ := ap
   clear nd
   rw [if_pos z1, if_pos z2] at hk hxr
   simp -dsimp -implicitDefEqProofs (disch := first|with_reducible assumption|omega) [go_sem]
   refine ⟨g1.ones, ?_⟩
   exact do_end (s := { s with purses := (drawP s.purses d.acct d.amt).1, pool := (addP s.pool ⟨d.acct, d.mem, d.amt, false⟩).1 }) (v := v6) g1 (g2.trans em) ok1 (g3.trans ex) ok2 hxr two fun h' le i => hk h' _ (le5.trans (le6.trans le)) rfl i
  ·obtain ⟨a64, a63, a62, _⟩ := ap
   clear nd
   rw [if_neg z1] at err
   simp -dsimp -implicitDefEqProofs (disch := first|with_reducible assumption|omega) [go_sem]
   exact err h6 s ⟨.slice pa2 s.purses.length pc2, .slice ma2 s.members.length mc2, .slice ea2 s.entry.length ec2, .slice xa2 s.exit.length xc2, .slice oa2 s.pool.length oc2, .slice da2 s.dues.length dc2, .slice ta2 s.motions.length tc2, .slice ka2 s.marks.length kc2, .slice ra2 s.ring.length rc2⟩ _ _ _ _ _ _ _ le6 ⟨rfl, rfl, rfl, rfl, rfl, rfl, rfl, rfl, rfl⟩ z1
  ·obtain ⟨a64, a63, a62, _⟩ := ap
   clear nd
   rw [if_pos z1, if_neg z2] at err
   simp -dsimp -implicitDefEqProofs (disch := first|with_reducible assumption|omega) [go_sem]
   exact err h6 s ⟨.slice pa2 s.purses.length pc2, .slice ma2 s.members.length mc2, .slice ea2 s.entry.length ec2, .slice xa2 s.exit.length xc2, .slice oa2 s.pool.length oc2, .slice da2 s.dues.length dc2, .slice ta2 s.motions.length tc2, .slice ka2 s.marks.length kc2, .slice ra2 s.ring.length rc2⟩ _ _ _ _ _ _ _ le6 ⟨rfl, rfl, rfl, rfl, rfl, rfl, rfl, rfl, rfl⟩ z2
 rw [if_neg (by omega)] at edo
 simp -dsimp -implicitDefEqProofs (disch := first|with_reducible assumption|omega) [go_sem]
 have some_of : d.kind = 4 ∨ d.kind = 7 → ∃ bm cm, om = some (bm, cm) := fun q => by
  have hin := memP_in (Or.inr q) c2
  cases om with
  | none => have : s.members.length = 0 := ok1; omega
  | some p => exact ⟨_, _, rfl⟩
 by_cases k4 : d.kind = 4
 ·rw [if_pos k4] at edo
  obtain ⟨bm, cm, rfl⟩ := some_of (Or.inl k4)
  have hin := memP_in (Or.inr (Or.inl k4)) c2
  clear k1 k2 k3 some_of c2
  have em0 := em
  simp only [ovs, Value.slice.injEq] at em
  obtain ⟨rfl, _, rfl⟩ := em
  obtain ⟨hbm, nxm⟩ := two_facts two5
  have n4 : NeB b4 bm := Ne.symm p24
  have n3 : NeB b3 bm := Ne.symm p23
  have n2 : NeB b2 bm := Ne.symm p22
  have hjl := hin.2
  have h0m := hin.1
  have hfl : (s.members.flatMap memC).length = s.members.length * 6 := flatG_len memC_len _
  have hsum : (s.members.map fun a => (memC a).length).sum = s.members.length * 6 := by rw [← List.length_flatMap, hfl]
  have hj6 := flat_lt (n := s.members.length) (w := 6) hjl (m := 5) (by decide)
  obtain ⟨g0, g1, g2, g3, g4, g5⟩ := memX hjl
  rw [edo, leaveP] at hk hxr err2
  simp -dsimp -implicitDefEqProofs (disch := first|with_reducible assumption|omega) [go_sem, xFind_oent nxm, oent_some, g5]
  by_cases c5 : (gr zeroM s.members d.mem.toNat).status = 2
  ·rw [if_pos c5] at hk hxr
   simp -dsimp -implicitDefEqProofs (disch := first|with_reducible assumption|omega) [go_sem, xFind_oent nxm, xSet_oent nxm, oent_some]
   refine ⟨by omega, ?_⟩
   rw [flatG_set (m := 5) memC_len zeroM s.members hjl (by decide) (a' := { gr zeroM s.members d.mem.toNat with status := 3 }) rfl]
   simp -dsimp -implicitDefEqProofs (disch := first|with_reducible assumption|omega) [go_sem]
   refine xnew fun b9 n_b9 h_b9 => ?_
   try simp only [Apart] at n_b9
   have m94 : NeB b9 b4 := by first | exact n_b9.1 | exact Ne.symm n_b9.1
   have m93 : NeB b9 b3 := by first | exact n_b9.2.1 | exact Ne.symm n_b9.2.1
   have m92 : NeB b9 b2 := by first | exact n_b9.2.2.1 | exact Ne.symm n_b9.2.2.1
   clear n_b9
   simp -dsimp -implicitDefEqProofs (disch := first|with_reducible assumption|omega) [go_sem]
   rw [ex]
   refine xappend (t := 34) (e := 3) (sz := 1) (bytes := 8) (by kernel_rfl) tI_3 rfl rfl rfl rfl (by decide) [_, _, _, _] _ ox s.exit.length (s.exit.map (.int .i64)) ok2 (by simp) (Src.own (b := b9) (t := 3) (cap := 1) List.mem_cons_self) (m := 1) (news := [.int .i64 d.mem]) rfl (by intro u hu; simp only [List.mem_singleton] at hu; subst hu; rfl) (by simp [maxLen]; omega) (by omega) ?_
   intro o' j1 j2 j3
   have two4 := two_of (e1 := 3) (s1 := 1) (x1 := s.exit.map (.int .i64) ++ [.int .i64 d.mem]) (M := [_, _, _, _]) (o2 := some (bm, mc2)) (e2 := 128) (s2 := 6) (x2 := (s.members.set d.mem.toNat { gr zeroM s.members d.mem.toNat with status := 3 }).flatMap memC) j2 (fun b c e => by cases e; exact hbm)
   simp only [List.cons_append, List.nil_append] at j2 ⊢
   obtain ⟨xa3, xc3, ex3, _⟩ := ovs_open j1
   simp -dsimp -implicitDefEqProofs (disch := first|with_reducible assumption|omega) [go_sem, ex3]
   have hold : MemOk (gr zeroM s.members d.mem.toNat) := hh5.mo _ (by rw [gr_lt hjl]; exact List.getElem_mem hjl)
   have hnew : MemOk { gr zeroM s.members d.mem.toNat with status := 3 } := ⟨hold.u, fun z hz => by
    simp only [List.mem_cons, List.not_mem_nil, or_false] at hz
    rcases hz with rfl | rfl | rfl
    ·exact hold.n _ (by simp)
    ·exact hold.n _ (by simp)
    ·omega⟩
   have hlen : (s.exit ++ [d.mem]).length = s.exit.length + 1 := by simp
   have hHd : Hd h5 (⟨.slice pa2 s.purses.length pc2, .slice (some ⟨bm, 0, none⟩) s.members.length mc2, .slice ea2 s.entry.length ec2, .slice xa3 (s.exit.length + 1) xc3, .slice oa2 s.pool.length oc2, .slice da2 s.dues.length dc2, .slice ta2 s.motions.length tc2, .slice ka2 s.marks.length kc2, .slice ra2 s.ring.length rc2⟩ : SV) { s with members := s.members.set d.mem.toNat { gr zeroM s.members d.mem.toNat with status := 3 }, exit := s.exit ++ [d.mem] } :=
    ⟨⟨hh5.ok.p, hh5.ok.u, hh5.ok.n⟩, hh5.p, ⟨some ⟨bm, 0, none⟩, mc2, by simp only [List.length_set]⟩, fun x hx => (List.mem_or_eq_of_mem_set hx).elim (hh5.mo x) (fun e => e ▸ hnew), hh5.e, ⟨xa3, xc3, by simp only [hlen]⟩, hh5.o, hh5.oo, hh5.d, hh5.dd, hh5.t, hh5.k, hh5.r⟩
   have fin4 := fun (x y z : Blk) => do_end2 (x := x) (y := y) (z := z) (L := L) (K := K) (bm := bm) (cm := mc2) (ox := o') hHd (by simp only [List.length_set]; exact em0) (by simp only [List.length_set]; exact ok1) (by simp only [hlen]; exact ex3.symm) (by simp only [hlen]; exact j1) hxr (by simp only [List.map_append, List.map_cons, List.map_nil]; exact two4) fun h' le i => hk h' _ (le5.trans le) rfl i
   simp only [List.map_append, List.map_cons, List.map_nil] at fin4
   exact fin_tail (fin4 _ _ _)
  ·rw [if_neg c5] at err2
   simp -dsimp -implicitDefEqProofs (disch := first|with_reducible assumption|omega) [go_sem]
   exact err2 h5 s (⟨.slice pa2 s.purses.length pc2, .slice (some ⟨bm, 0, none⟩) s.members.length mc2, .slice ea2 s.entry.length ec2, .slice xa2 s.exit.length xc2, .slice oa2 s.pool.length oc2, .slice da2 s.dues.length dc2, .slice ta2 s.motions.length tc2, .slice ka2 s.marks.length kc2, .slice ra2 s.ring.length rc2⟩ : SV) _ _ _ _ _ _ (PH.le_refl _) ⟨rfl, rfl, rfl, rfl, rfl, rfl, rfl, rfl, rfl⟩ (by simp)
 rw [if_neg k4] at edo
 simp -dsimp -implicitDefEqProofs (disch := first|with_reducible assumption|omega) [go_sem]
 by_cases k5 : d.kind = 5
 ·rw [if_pos k5] at edo
  rw [edo, markSP] at hk hxr err
  by_cases c5 : d.ep = s.ep
  ·rw [if_pos c5] at hk hxr err
   simp -dsimp -implicitDefEqProofs (disch := first|with_reducible assumption|omega) [go_sem]
   refine Spec.apn (rmark_any _ _ hh5.k hd5.i s.members.length (by omega) fun h6 r6 le6 i6 ap nd => ?_)
   have two := ap_two0 ap.2.2.2 nd.2.2.2
   obtain ⟨a64, a63, a62, _⟩ := ap
   clear nd
   have i60 := i6
   obtain ⟨qa, qc, rfl, _⟩ := i6.open
   by_cases e : (markP s.marks d.bits s.members.length).2 = 0
   ·rw [if_pos e] at hk hxr
    rw [e]
    simp -dsimp -implicitDefEqProofs (disch := first|with_reducible assumption|omega) [go_sem]
    exact do_end (s := { s with marks := (markP s.marks d.bits s.members.length).1 }) (v := { (⟨.slice pa2 s.purses.length pc2, .slice ma2 s.members.length mc2, .slice ea2 s.entry.length ec2, .slice xa2 s.exit.length xc2, .slice oa2 s.pool.length oc2, .slice da2 s.dues.length dc2, .slice ta2 s.motions.length tc2, .slice ka2 s.marks.length kc2, .slice ra2 s.ring.length rc2⟩ : SV) with k := .slice qa (markP s.marks d.bits s.members.length).1.length qc }) ((hh5.up le6).setK i60) em ok1 ex ok2 hxr two fun h' le i => hk h' _ (le5.trans (le6.trans le)) rfl i
   ·rw [if_neg e] at err
    simp -dsimp -implicitDefEqProofs (disch := first|with_reducible assumption|omega) [go_sem]
    exact err h6 s { (⟨.slice pa2 s.purses.length pc2, .slice ma2 s.members.length mc2, .slice ea2 s.entry.length ec2, .slice xa2 s.exit.length xc2, .slice oa2 s.pool.length oc2, .slice da2 s.dues.length dc2, .slice ta2 s.motions.length tc2, .slice ka2 s.marks.length kc2, .slice ra2 s.ring.length rc2⟩ : SV) with k := .slice qa (markP s.marks d.bits s.members.length).1.length qc } _ _ _ _ _ _ _ le6 ⟨rfl, rfl, rfl, rfl, rfl, rfl, rfl, rfl, rfl⟩ e
  ·rw [if_neg c5] at err
   simp -dsimp -implicitDefEqProofs (disch := first|with_reducible assumption|omega) [go_sem]
   exact err h5 s ⟨.slice pa2 s.purses.length pc2, .slice ma2 s.members.length mc2, .slice ea2 s.entry.length ec2, .slice xa2 s.exit.length xc2, .slice oa2 s.pool.length oc2, .slice da2 s.dues.length dc2, .slice ta2 s.motions.length tc2, .slice ka2 s.marks.length kc2, .slice ra2 s.ring.length rc2⟩ _ _ _ _ _ _ _ (PH.le_refl _) ⟨rfl, rfl, rfl, rfl, rfl, rfl, rfl, rfl, rfl⟩ (by simp)
 rw [if_neg k5] at edo
 simp -dsimp -implicitDefEqProofs (disch := first|with_reducible assumption|omega) [go_sem]
 by_cases k6 : d.kind = 6
 ·rw [if_pos k6] at edo
  rw [edo, motP] at hk hxr err
  simp -dsimp -implicitDefEqProofs (disch := first|with_reducible assumption|omega) [go_sem]
  refine Spec.apn (rdraw_any _ hh5.p few.p d.acct s.par.bond ub fun h6 r6 le6 i6 ap nd => ?_)
  have two := ap_two0 ap.2.2.2 nd.2.2.2
  obtain ⟨a64, a63, a62, _⟩ := ap
  clear nd
  have i60 := i6
  obtain ⟨qa, qc, rfl, _⟩ := i6.open
  by_cases e : (drawP s.purses d.acct s.par.bond).2 = 0
  ·rw [if_pos e] at hk hxr err
   rw [e]
   simp -dsimp -implicitDefEqProofs (disch := first|with_reducible assumption|omega) [go_sem]
   obtain ⟨q, t1, t2, t3⟩ := hh5.t
   have hql : q.length = s.motions.length := by rw [← t2, List.length_map]
   have ft := few.t
   refine Spec.apn (ropen_any _ (.slice x1 d.bits.length y1) hh5.ok.p (t1.up le6) t2 (fun x hx => (t3 x hx).up le6) (by omega) (hd5.up le6) s.ep fun h7 r7 q7 le7 i7 e7 m7 ap nd => ?_)
   have two := ap_two0 ap.2.2.2 nd.2.2.2
   obtain ⟨a74, a73, a72, _⟩ := ap
   clear nd
   have i70 := i7
   obtain ⟨wa, wc, rfl, _⟩ := i7.open
   by_cases e2 : (openP s.par s.motions d s.ep).2.2 = 0
   ·rw [if_pos e2] at hk hxr
    rw [e2]
    simp -dsimp -implicitDefEqProofs (disch := first|with_reducible assumption|omega) [go_sem]
    have eql : q7.length = (openP s.par s.motions d s.ep).1.length := by rw [← e7, List.length_map]
    exact do_end (s := { s with purses := (drawP s.purses d.acct s.par.bond).1, motions := (openP s.par s.motions d s.ep).1, treas := s.treas + s.par.bond }) (v := { (⟨.slice pa2 s.purses.length pc2, .slice ma2 s.members.length mc2, .slice ea2 s.entry.length ec2, .slice xa2 s.exit.length xc2, .slice oa2 s.pool.length oc2, .slice da2 s.dues.length dc2, .slice ta2 s.motions.length tc2, .slice ka2 s.marks.length kc2, .slice ra2 s.ring.length rc2⟩ : SV) with p := .slice qa (drawP s.purses d.acct s.par.bond).1.length qc, t := .slice wa q7.length wc }) ((((hh5.up (le6.trans le7)).setP (i60.up le7)).setT i70 e7 m7).setTr ⟨by omega, q3⟩) em ok1 ex ok2 hxr two fun h' le i => hk h' _ (le5.trans (le6.trans (le7.trans le))) rfl i
   ·rw [if_neg e2] at err
    simp -dsimp -implicitDefEqProofs (disch := first|with_reducible assumption|omega) [go_sem]
    exact err h7 { s with treas := s.treas + s.par.bond } { (⟨.slice pa2 s.purses.length pc2, .slice ma2 s.members.length mc2, .slice ea2 s.entry.length ec2, .slice xa2 s.exit.length xc2, .slice oa2 s.pool.length oc2, .slice da2 s.dues.length dc2, .slice ta2 s.motions.length tc2, .slice ka2 s.marks.length kc2, .slice ra2 s.ring.length rc2⟩ : SV) with p := .slice qa (drawP s.purses d.acct s.par.bond).1.length qc, t := .slice wa q7.length wc } _ _ _ _ _ _ _ (le6.trans le7) ⟨rfl, rfl, rfl, rfl, rfl, rfl, rfl, rfl, rfl⟩ e2
  ·rw [if_neg e] at err
   simp -dsimp -implicitDefEqProofs (disch := first|with_reducible assumption|omega) [go_sem]
   exact err h6 { s with treas := s.treas + s.par.bond } { (⟨.slice pa2 s.purses.length pc2, .slice ma2 s.members.length mc2, .slice ea2 s.entry.length ec2, .slice xa2 s.exit.length xc2, .slice oa2 s.pool.length oc2, .slice da2 s.dues.length dc2, .slice ta2 s.motions.length tc2, .slice ka2 s.marks.length kc2, .slice ra2 s.ring.length rc2⟩ : SV) with p := .slice qa (drawP s.purses d.acct s.par.bond).1.length qc } _ _ _ _ _ _ _ le6 ⟨rfl, rfl, rfl, rfl, rfl, rfl, rfl, rfl, rfl⟩ e
 rw [if_neg k6] at edo
 simp -dsimp -implicitDefEqProofs (disch := first|with_reducible assumption|omega) [go_sem]
 have k7 : d.kind = 7 := by omega
 obtain ⟨bm, cm, rfl⟩ := some_of (Or.inr k7)
 have hin := memP_in (Or.inr (Or.inr k7)) c2
 clear k1 k2 k3 k4 k5 k6 some_of c2
 have em0 := em
 simp only [ovs, Value.slice.injEq] at em
 obtain ⟨rfl, _, rfl⟩ := em
 obtain ⟨hbm, nxm⟩ := two_facts two5
 have n4 : NeB b4 bm := Ne.symm p24
 have n3 : NeB b3 bm := Ne.symm p23
 have n2 : NeB b2 bm := Ne.symm p22
 have hjl := hin.2
 have h0m := hin.1
 have hfl : (s.members.flatMap memC).length = s.members.length * 6 := flatG_len memC_len _
 have hsum : (s.members.map fun a => (memC a).length).sum = s.members.length * 6 := by rw [← List.length_flatMap, hfl]
 have hj6 := flat_lt (n := s.members.length) (w := 6) hjl (m := 5) (by decide)
 obtain ⟨g0, g1, g2, g3, g4, g5⟩ := memX hjl
 rw [edo, voteSP] at hk hxr err2
 simp -dsimp -implicitDefEqProofs (disch := first|with_reducible assumption|omega) [go_sem, xFind_oent nxm, oent_some, g0, g1, g2, g3, g4, g5]
 refine counts19_any (gr zeroM s.members d.mem.toNat) ?_
 by_cases c5 : (gr zeroM s.members d.mem.toNat).status = 2 ∨ (gr zeroM s.members d.mem.toNat).status = 3
 ·rw [if_pos c5] at hk hxr err2
  rw [decide_eq_true c5]
  clear c5
  simp -dsimp -implicitDefEqProofs (disch := first|with_reducible assumption|omega) [go_sem]
  obtain ⟨q, t1, t2, t3⟩ := hh5.t
  have hql : q.length = s.motions.length := by rw [← t2, List.length_map]
  have ft := few.t
  have um : -9223372036854775808 ≤ d.mot ∧ d.mot ≤ 9223372036854775807 := hd5.ok.n _ (by simp)
  refine Spec.apn (rvote_any _ t1 t2 t3 (by omega) q2 d.mot d.mem um (by omega) d.yes fun h7 r7 q7 le7 i7 e7 m7 ap nd => ?_)
  have two := ap_two0 (o2 := some (bm, mc2)) (e2 := 128) (s2 := 6) (x2 := s.members.flatMap memC) ap.2.2.2 nd.2.2.2
  obtain ⟨a74, a73, a72, _⟩ := ap
  clear nd
  have i70 := i7
  obtain ⟨wa, wc, rfl, _⟩ := i7.open
  by_cases e2 : (voteP s.motions d.mot d.mem d.yes).2 = 0
  ·rw [if_pos e2] at hk hxr
   rw [e2]
   simp -dsimp -implicitDefEqProofs (disch := first|with_reducible assumption|omega) [go_sem]
   exact do_end2 (s := { s with motions := (voteP s.motions d.mot d.mem d.yes).1 }) (v := { (⟨.slice pa2 s.purses.length pc2, .slice (some ⟨bm, 0, none⟩) s.members.length mc2, .slice ea2 s.entry.length ec2, .slice xa2 s.exit.length xc2, .slice oa2 s.pool.length oc2, .slice da2 s.dues.length dc2, .slice ta2 s.motions.length tc2, .slice ka2 s.marks.length kc2, .slice ra2 s.ring.length rc2⟩ : SV) with t := .slice wa q7.length wc }) ((hh5.up le7).setT i70 e7 m7) em0 ok1 ex ok2 hxr two fun h' le i => hk h' _ (le5.trans (le7.trans le)) rfl i
  ·rw [if_neg e2] at err2
   simp -dsimp -implicitDefEqProofs (disch := first|with_reducible assumption|omega) [go_sem]
   exact err2 h7 s { (⟨.slice pa2 s.purses.length pc2, .slice (some ⟨bm, 0, none⟩) s.members.length mc2, .slice ea2 s.entry.length ec2, .slice xa2 s.exit.length xc2, .slice oa2 s.pool.length oc2, .slice da2 s.dues.length dc2, .slice ta2 s.motions.length tc2, .slice ka2 s.marks.length kc2, .slice ra2 s.ring.length rc2⟩ : SV) with t := .slice wa q7.length wc } _ _ _ _ _ _ le7 ⟨rfl, rfl, rfl, rfl, rfl, rfl, rfl, rfl, rfl⟩ e2
 ·rw [if_neg c5] at err2
  rw [decide_eq_false c5]
  simp -dsimp -implicitDefEqProofs (disch := first|with_reducible assumption|omega) [go_sem]
  exact err2 h5 s (⟨.slice pa2 s.purses.length pc2, .slice (some ⟨bm, 0, none⟩) s.members.length mc2, .slice ea2 s.entry.length ec2, .slice xa2 s.exit.length xc2, .slice oa2 s.pool.length oc2, .slice da2 s.dues.length dc2, .slice ta2 s.motions.length tc2, .slice ka2 s.marks.length kc2, .slice ra2 s.ring.length rc2⟩ : SV) _ _ _ _ _ _ (PH.le_refl _) ⟨rfl, rfl, rfl, rfl, rfl, rfl, rfl, rfl, rfl⟩ (by simp)
end Go.X

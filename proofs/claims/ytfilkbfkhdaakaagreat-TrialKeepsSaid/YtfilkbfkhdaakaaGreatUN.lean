/- The contract of bullionref42.Adopt. Conditions: a state of few parts that fits, right parameters. -/
import Derived.Test.YtfilkbfkhdaakaaGreatUM
import Derived.Test.YtfilkbfkhdaakaaGreatSL
import Derived.Test.YtfilkbfkhdaakaaGreatXZ
set_option linter.unusedVariables false
set_option linter.unusedSimpArgs false
set_option maxRecDepth 20000
namespace Go.X
open Go.RowKit Go.Proofs Go.Bl
variable {L : Own} {h : PH} {K : PK}
theorem fewB_T' {s : StD} (hf : fewB s = true) : FewT s := by
  have := few9_len (fewB_9 hf)
  exact ⟨by omega, by omega, by omega, by omega⟩
theorem memG {l : List MemD} {k : Nat} {m : MemD} (hk : k < l.length) (hm : m = gr zeroM l k) :
    (∀ (K : Value → Prop) (t : Tok K), xNth (l.flatMap memC) (k * 6) K t = K (.int .u64 m.bal)) ∧ (∀ (K : Value → Prop) (t : Tok K), xNth (l.flatMap memC) (k * 6 + 1) K t = K (.int .u64 m.eff)) ∧
    (∀ (K : Value → Prop) (t : Tok K), xNth (l.flatMap memC) (k * 6 + 2) K t = K (.int .u64 m.score)) ∧ (∀ (K : Value → Prop) (t : Tok K), xNth (l.flatMap memC) (k * 6 + 3) K t = K (.int .i64 m.streak)) ∧
    (∀ (K : Value → Prop) (t : Tok K), xNth (l.flatMap memC) (k * 6 + 4) K t = K (.int .i64 m.owner)) ∧ (∀ (K : Value → Prop) (t : Tok K), xNth (l.flatMap memC) (k * 6 + 5) K t = K (.int .i64 m.status)) :=
  ⟨fun K t => xNth_rec memC_len zeroM _ (m := 0) hk (by decide) (by rw [← hm]; rfl) K t, fun K t => xNth_rec memC_len zeroM _ (m := 1) hk (by decide) (by rw [← hm]; rfl) K t, fun K t => xNth_rec memC_len zeroM _ (m := 2) hk (by decide) (by rw [← hm]; rfl) K t,
   fun K t => xNth_rec memC_len zeroM _ (m := 3) hk (by decide) (by rw [← hm]; rfl) K t, fun K t => xNth_rec memC_len zeroM _ (m := 4) hk (by decide) (by rw [← hm]; rfl) K t, fun K t => xNth_rec memC_len zeroM _ (m := 5) hk (by decide) (by rw [← hm]; rfl) K t⟩
def bothF (q : ParD) (m : MemD) : MemD := if cntM m then (if m.bal ≤ q.floor then endM m else settleM q m) else m
theorem both_one (q : ParD) (m : MemD) : setF q (ejF q m) = bothF q m := by
  unfold setF ejF bothF
  by_cases c1 : cntM m
  · by_cases c2 : m.bal ≤ q.floor
    · rw [if_pos (show ejP q m from ⟨c1, c2⟩), if_pos c1, if_pos c2, if_neg (by simp [cntM, endM])]
    · rw [if_neg (show ¬ ejP q m from fun x => c2 x.2), if_pos c1, if_pos c1, if_neg c2]
  · rw [if_neg (show ¬ ejP q m from fun x => c1 x.1), if_neg c1, if_neg c1]
theorem both_all (q : ParD) (l : List MemD) : upN (bothF q) l l.length = upN (setF q) (upN (ejF q) l l.length) l.length := by
  have h1 : l.length = (l.map (ejF q)).length := (List.length_map _).symm
  rw [upN_all, upN_all]
  conv => rhs; rw [h1]
  rw [upN_all, List.map_map]
  exact List.map_congr_left fun m _ => (both_one q m).symm
theorem bothF_ok {q : ParD} (ok : ParOk q) (hr : parR q = true) {m : MemD} (hm : MemOk m) : MemOk (bothF q m) := by
  rw [← both_one]; exact setF_ok ok hr (ejF_ok hm)
theorem set_self0 {l : List Int} {i : Nat} {b : Int} (hi : i < l.length) : l.set i (at0 l i + (b - b)) = l := by
  have e : at0 l i + (b - b) = l[i] := by rw [← at0_lt hi]; omega
  rw [e, List.set_getElem_self]
theorem hsum6 (l : List MemD) : (l.map fun _ => 6).sum = l.length * 6 := by
  have : (l.map fun a => (memC a).length).sum = l.length * 6 := by rw [← List.length_flatMap, flatG_len memC_len]
  exact this
theorem hsum6' (l : List MemD) : (l.map fun a => (memC a).length).sum = l.length * 6 := by
  rw [← List.length_flatMap, flatG_len memC_len]
theorem oent_b (e sz : Nat) (o : Option (Nat × Nat)) (xs : List Value) (L : Own) : (oent e sz o xs L).map Blk.b = (o.toList.map Prod.fst) ++ L.map Blk.b := by
  cases o <;> rfl
theorem Nd.congr {L L' : Own} (e : L.map Blk.b = L'.map Blk.b) (nd : Nd L) : Nd L' := Nd.of (e ▸ nd.nodup)
theorem Ap.congr {L L' : Own} {h : PH} (e : L.map Blk.b = L'.map Blk.b) (ap : Ap L h) : Ap L' h := Ap.of fun x hx => by
  have : x.b ∈ L.map Blk.b := e ▸ List.mem_map_of_mem hx
  obtain ⟨y, hy, hb⟩ := List.mem_map.1 this
  rw [← hb]
  exact ap.mem y hy
theorem nd_oent_in {e sz : Nat} {o : Option (Nat × Nat)} {xs : List Value} {L : Own} {h : PH} (ha : apO o L h) (nd : Nd L) : Nd (oent e sz o xs L) := by
  cases o with
  | none => exact nd
  | some p => exact ⟨ha.1, nd⟩
theorem ap_oent_in {e sz : Nat} {o : Option (Nat × Nat)} {xs : List Value} {L : Own} {h : PH} (ha : apO o L h) (ap : Ap L h) : Ap (oent e sz o xs L) h := by
  cases o with
  | none => exact ap
  | some p => exact ⟨ha.2, ap⟩
theorem nd_out {e sz : Nat} {o : Option (Nat × Nat)} {xs : List Value} {x : Blk} {L : Own} (nd : Nd (x :: oent e sz o xs L)) : Nd (x :: L) := by
  refine ⟨apart_oent nd.1, ?_⟩
  cases o with
  | none => exact nd.2
  | some p => exact nd.2.2
theorem nd_two3 {e1 s1 e2 s2 : Nat} {om op : Option (Nat × Nat)} {ms ps : List Value} {a b c : Blk} {L : Own} (nd : Nd (oent e1 s1 om ms (oent e2 s2 op ps (a :: b :: c :: L)))) :
    (apB om a.b ∧ apB om b.b ∧ apB om c.b) ∧ (apB op a.b ∧ apB op b.b ∧ apB op c.b) := by
  obtain ⟨x, y⟩ := nd_in nd
  obtain ⟨x1, x⟩ := nd_here x
  obtain ⟨x2, x⟩ := nd_here x
  obtain ⟨x3, _⟩ := nd_here x
  obtain ⟨y1, y⟩ := nd_here y
  obtain ⟨y2, y⟩ := nd_here y
  obtain ⟨y3, _⟩ := nd_here y
  exact ⟨⟨x1, x2, x3⟩, ⟨y1, y2, y3⟩⟩
set_option maxHeartbeats 12800000 in
theorem radopt_any {s : StD} (v : SV) (hs : IsSt h v s) (fe : fewB s = true) (hf : fitsS s = true) (q : ParD) (hq : parR q = true) (okq : ParOk q)
    (hk : ∀ h' u r, PH.le h h' → IsSt h' u (adS s q) → Ints h' .i64 r (adOut s q) → K (.tuple #[stV (adS s q) u, r, .int .i64 0]) L h') : Spec Tryz.prog 39 [stV s v, parV q] L h K := by
  obtain ⟨be, hr, hep, hlen, htot⟩ := fits_be hs hf
  have few := fewB_S fe
  have fT := fewB_T' fe
  have own := fewB_own fe
  have flen := few9_len (fewB_9 fe)
  have hwt := par_wait hr
  have hs0 := hs
  obtain ⟨pa, pc, ma, mc, ea, ec, xa, xc, oa, oc, da, dc, ta, tc, ka, kc, ra, rc, rfl⟩ := hs.slices
  refine x_enter Tryz.func39 rfl (rs := [_, _, _]) rfl rfl mixed (by kernel_rfl) rfl rfl ?_
  simp -dsimp -implicitDefEqProofs (disch := first | with_reducible assumption | omega) [go_sem]
  refine xnew fun b2 n_b2 h_b2 => ?_
  try simp only [Apart] at n_b2
  simp -dsimp -implicitDefEqProofs (disch := first | with_reducible assumption | omega) [go_sem]
  refine xnew fun b3 n_b3 h_b3 => ?_
  try simp only [Apart] at n_b3
  simp -dsimp -implicitDefEqProofs (disch := first | with_reducible assumption | omega) [go_sem]
  refine xnew fun b4 n_b4 h_b4 => ?_
  try simp only [Apart] at n_b4
  simp -dsimp -implicitDefEqProofs (disch := first | with_reducible assumption | omega) [go_sem]
  refine Spec.ap (fits24_any (s := s) ⟨.slice pa s.purses.length pc, .slice ma s.members.length mc, .slice ea s.entry.length ec, .slice xa s.exit.length xc, .slice oa s.pool.length oc, .slice da s.dues.length dc, .slice ta s.motions.length tc, .slice ka s.marks.length kc, .slice ra s.ring.length rc⟩ hs few fT fun h1 le1 ap => ?_)
  simp only [Ap] at ap
  obtain ⟨a14, a13, a12, _⟩ := ap
  rw [hf]
  simp -dsimp -implicitDefEqProofs (disch := first | with_reducible assumption | omega) [go_sem]
  refine Spec.ap (right7_any q okq fun h2 le2 ap => ?_)
  simp only [Ap] at ap
  obtain ⟨a24, a23, a22, _⟩ := ap
  rw [hq]
  simp -dsimp -implicitDefEqProofs (disch := first | with_reducible assumption | omega) [go_sem]
  refine Spec.apn (own24r_any (s := s) ⟨.slice pa s.purses.length pc, .slice ma s.members.length mc, .slice ea s.entry.length ec, .slice xa s.exit.length xc, .slice oa s.pool.length oc, .slice da s.dues.length dc, .slice ta s.motions.length tc, .slice ka s.marks.length kc, .slice ra s.ring.length rc⟩ (hs.up (le1.trans le2)) own fun h3 ve vx op om le3 okp okm ie ix ap nd => ?_)
  have hS0 := hs.up (le1.trans (le2.trans le3))
  have le13 := le1.trans (le2.trans le3)
  obtain ⟨⟨m4, m3, m2⟩, ⟨p4, p3, p2⟩⟩ := nd_two3 nd
  obtain ⟨a34, a33, a32, _⟩ := Ap.oent (Ap.oent ap)
  simp only at m4 m3 m2 p4 p3 p2 a34 a33 a32
  obtain ⟨vea, vec, rfl, _⟩ := ie.open
  obtain ⟨vxa, vxc, rfl, _⟩ := ix.open
  simp -dsimp -implicitDefEqProofs (disch := first | with_reducible assumption | omega) [go_sem, xSet_oent m4, xFind_oent m4, xSet_oent m3, xFind_oent m3, xSet_oent m2, xFind_oent m2, xSet_oent p4, xFind_oent p4, xSet_oent p3, xFind_oent p3, xSet_oent p2, xFind_oent p2]
  refine xnew fun b7 n_b7 h_b7 => ?_
  try simp only [Apart] at n_b7
  have m7 : apB om b7 := apart_here n_b7
  have p7 : apB op b7 := apart_here (apart_oent n_b7)
  have n7 := apart_oent (apart_oent n_b7)
  simp only [Apart] at n7
  simp -dsimp -implicitDefEqProofs (disch := first | with_reducible assumption | omega) [go_sem, xSet_oent m4, xFind_oent m4, xSet_oent m3, xFind_oent m3, xSet_oent m2, xFind_oent m2, xSet_oent p4, xFind_oent p4, xSet_oent p3, xFind_oent p3, xSet_oent p2, xFind_oent p2]
  have nd0 := nd
  obtain ⟨em0, emc, emm, _⟩ := ovs_open okm
  obtain ⟨OW1, hOW1⟩ : ∃ OW1 : Nat → Own, OW1 = fun k => ⟨b7, 49, stC (setPar s q) ⟨ovs op s.purses.length, ovs om s.members.length, .slice vea s.entry.length vec, .slice vxa s.exit.length vxc, .slice oa s.pool.length oc, .slice da s.dues.length dc, .slice ta s.motions.length tc, .slice ka s.marks.length kc, .slice ra s.ring.length rc⟩, 41⟩ :: oent 142 6 om ((clN q (s.members, s.purses) k).1.flatMap memC) (oent 22 1 op ((clN q (s.members, s.purses) k).2.map (.int .u64)) (⟨b4, 49, stC zeroS nilV, 41⟩ :: ⟨b3, 43, parC q, 24⟩ :: ⟨b2, 49, stC s ⟨.slice pa s.purses.length pc, .slice ma s.members.length mc, .slice ea s.entry.length ec, .slice xa s.exit.length xc, .slice oa s.pool.length oc, .slice da s.dues.length dc, .slice ta s.motions.length tc, .slice ka s.marks.length kc, .slice ra s.ring.length rc⟩, 41⟩ :: L)) := ⟨_, rfl⟩
  refine xloop (γ := Nat) 0 (fun k => k ≤ s.members.length)
    (fun k => [(9, .int .i64 k), (8, .slice none 0 0), (7, .pointer (some ⟨b7, 0, none⟩)), (4, .pointer (some ⟨b4, 0, none⟩)), (3, .pointer (some ⟨b3, 0, none⟩)), (2, .pointer (some ⟨b2, 0, none⟩))])
    OW1 (fun _ => h3) (fun k => s.members.length - k) ?_ ?_ ?_ ?_
  · exact Nat.zero_le _
  · simp [Ent, List.lookup, xEnv]
  · subst hOW1
    exact Drop.refl _ _
  rintro k k1
  have hOWk : OW1 k = _ := congrFun hOW1 k
  have hOWk1 : OW1 (k + 1) = _ := congrFun hOW1 (k + 1)
  rw [hOWk]
  have hcl := clN_len q (s.members, s.purses) k
  simp only at hcl
  by_cases c1 : k < s.members.length
  · have hB := clN_ok (x := (s.members, s.purses)) okq be k k1
    obtain ⟨m, hm⟩ : ∃ m, m = gr zeroM (clN q (s.members, s.purses) k).1 k := ⟨_, rfl⟩
    have hmm : m ∈ (clN q (s.members, s.purses) k).1 := by rw [hm]; exact gr_mem (by omega)
    have hmo := hB.m m hmm
    have how := hB.o m hmm
    obtain ⟨j, hj⟩ : ∃ j : Nat, m.owner = (j : Int) := ⟨m.owner.toNat, by omega⟩
    have hst : clN q (s.members, s.purses) (k + 1) = ((clN q (s.members, s.purses) k).1.set k (clampM q m), (clN q (s.members, s.purses) k).2.set j (at0 (clN q (s.members, s.purses) k).2 j + (m.bal - min m.bal q.cap))) := by
      show clStep q _ k = _
      rw [clStep, ← hm, hj]
      simp
    obtain ⟨bm, cm, rfl⟩ : ∃ bm cap, om = some (bm, cap) := by
      cases om with
      | none => have : s.members.length = 0 := okm; omega
      | some p => exact ⟨_, _, rfl⟩
    obtain ⟨bp, cp, rfl⟩ : ∃ bp cap, op = some (bp, cap) := by
      cases op with
      | none => have : s.purses.length = 0 := okp; omega
      | some p => exact ⟨_, _, rfl⟩
    have am := ap_here ap
    have apx := ap_here (Ap.oent ap)
    have hbm : h3 bm = noC := am.2
    have hbp : h3 bp = noC := apx.2
    have e7m : NeB b7 bm := Ne.symm m7
    have e7p : NeB b7 bp := Ne.symm p7
    have emp : NeB bm bp := Ne.symm nd.1.1
    have e73 : NeB b7 b3 := Ne.symm n7.2.1
    have em3 : NeB bm b3 := m3
    have ep3 : NeB bp b3 := p3
    have e43 : NeB b4 b3 := Ne.symm n_b4.1
    clear n_b2 n_b3 n_b4 n7 m7 p7 m4 m3 m2 p4 p3 p2
    have hub := hmo.u m.bal (by simp)
    have hcb := okq.w q.cap (by simp [wides])
    have hpj := at0_le_tot hB.p j
    have hpj0 := hB.p j
    have hbk := at0_le_tot (bal_pos hB.m) k
    rw [at0_bal (by omega), ← hm] at hbk
    have htt := hB.t
    have hk6 := flat_lt (w := 6) c1 (show 5 < 6 by decide)
    have hsum := hsum6 (clN q (s.members, s.purses) k).1
    have hsum' := hsum6' (clN q (s.members, s.purses) k).1
    obtain ⟨M, hM⟩ : ∃ M, M = (clN q (s.members, s.purses) k).1 := ⟨_, rfl⟩
    obtain ⟨P, hP⟩ : ∃ P, P = (clN q (s.members, s.purses) k).2 := ⟨_, rfl⟩
    rw [← hM] at hcl hm hbk htt hsum hsum' ⊢
    rw [← hP] at hcl how hpj hpj0 htt ⊢
    rw [← hM, ← hP] at hst
    rw [hst] at hOWk1
    clear hst hB hmm hOWk
    have mg := memG (l := M) (k := k) (m := m) (by omega) hm
    simp only [List.cons_append, List.nil_append, ovs_some, oent_some]
    simp -dsimp -implicitDefEqProofs (disch := first | with_reducible assumption | omega) [go_sem, mg]
    refine xnew fun b10 n_b10 h_b10 => ?_
    have e107 : NeB b10 b7 := Ne.symm n_b10.1
    have e10m : NeB b10 bm := Ne.symm n_b10.2.1
    have e10p : NeB b10 bp := Ne.symm n_b10.2.2.1
    have e103 : NeB b10 b3 := Ne.symm n_b10.2.2.2.2.1
    simp -dsimp -implicitDefEqProofs (disch := first | with_reducible assumption | omega) [go_sem, mg]
    by_cases c2 : q.cap < m.bal
    · simp -dsimp -implicitDefEqProofs (disch := first | with_reducible assumption | omega) [go_sem, mg]
      refine xanyl (.tk 0 (.tk 2 (.tk 4 (.tk 6 (.tk 10 (.tk 11 (.tk 14 (.tkl 1 (.tkl 3 (.tkl 5 (.tkl 7 (.tk 8 (.tkl 9 (.tkl 12 (.tk 13 (.tkl 15 (.tk 16 (.tk 17 (.or false 18 (.fin) (.nil)))))))))))))))))))) (by kernel_rfl) (by kernel_rfl) _ (Drop.refl _ _) ?_
      repeat' first
        | with_reducible refine xpl_or ?_ ?_
        | with_reducible refine xkp (Drop.refl _ _) ?_
        | simp -dsimp -implicitDefEqProofs (disch := first | with_reducible assumption | omega) [go_sem, hj, xNth_ints]
      all_goals
        refine ⟨by omega, ?_⟩
        refine trim11_any q { m with bal := q.cap } ?_
        rw [← hj]
        simp -dsimp -implicitDefEqProofs (disch := first | with_reducible assumption | omega) [go_sem]
        refine ⟨by omega, ?_⟩
        refine ⟨k + 1, by omega, by omega, by simp [Ent, List.lookup], ?_⟩
        have hset : ((((((M.flatMap memC).set (k * 6) (Value.int .u64 (clampM q m).bal)).set (k * 6 + 1) (.int .u64 (clampM q m).eff)).set (k * 6 + 1 + 1) (.int .u64 (clampM q m).score)).set (k * 6 + 1 + 1 + 1) (.int .i64 (clampM q m).streak)).set (k * 6 + 1 + 1 + 1 + 1) (.int .i64 (clampM q m).owner)).set (k * 6 + 1 + 1 + 1 + 1 + 1) (.int .i64 (clampM q m).status) = (M.set k (clampM q m)).flatMap memC := flatG_wr memC_len M (by omega) (clampM q m)
        have hmin : min m.bal q.cap = q.cap := by omega
        have hcm : clampM q m = trimM q { m with bal := q.cap } := by rw [clampM, hmin]
        rw [hOWk1]
        simp only
        rw [← hset, hcm, List.map_set, hmin, show at0 P j + (m.bal - q.cap) = at0 P j + m.bal - q.cap from by omega]
        simp only [ovs_some, oent_some, Nat.mul_one]
        exact Drop.tail _ _ _
    · simp -dsimp -implicitDefEqProofs (disch := first | with_reducible assumption | omega) [go_sem, mg]
      refine trim11_any q { m with bal := m.bal } ?_
      simp -dsimp -implicitDefEqProofs (disch := first | with_reducible assumption | omega) [go_sem]
      refine ⟨by omega, ?_⟩
      refine ⟨k + 1, by omega, by omega, by simp [Ent, List.lookup], ?_⟩
      have hset : ((((((M.flatMap memC).set (k * 6) (Value.int .u64 (clampM q m).bal)).set (k * 6 + 1) (.int .u64 (clampM q m).eff)).set (k * 6 + 1 + 1) (.int .u64 (clampM q m).score)).set (k * 6 + 1 + 1 + 1) (.int .i64 (clampM q m).streak)).set (k * 6 + 1 + 1 + 1 + 1) (.int .i64 (clampM q m).owner)).set (k * 6 + 1 + 1 + 1 + 1 + 1) (.int .i64 (clampM q m).status) = (M.set k (clampM q m)).flatMap memC := flatG_wr memC_len M (by omega) (clampM q m)
      have hmin : min m.bal q.cap = m.bal := by omega
      have hcm : clampM q m = trimM q { m with bal := m.bal } := by rw [clampM, hmin]
      rw [hOWk1]
      simp only
      rw [← hset, hcm, hmin, set_self0 (by omega)]
      simp only [ovs_some, oent_some, Nat.mul_one]
      exact Drop.tail _ _ _
  have hkl : k = s.members.length := by omega
  subst hkl
  have eX : clN q (s.members, s.purses) s.members.length = adX s q := rfl
  have hX : BeOk (adX s q).1 (adX s q).2 := clN_ok (x := (s.members, s.purses)) okq be s.members.length (Nat.le_refl _)
  have hXt := adX_tot okq be
  rw [eX] at hcl ⊢
  obtain ⟨hXl, hXp⟩ := hcl
  obtain ⟨X, eX'⟩ : ∃ X, X = adX s q := ⟨_, rfl⟩
  obtain ⟨t, et⟩ : ∃ t, t = s.ep + s.par.wait := ⟨_, rfl⟩
  have eR : adS s q = { s with par := q, members := upN (bothF q) X.1 s.members.length, purses := X.2, dues := duN q X.1 t s.dues s.members.length, exit := exN q X.1 s.exit s.members.length } := by
    have := both_all q (adX s q).1
    rw [hXl] at this
    rw [eX', et, this]; rfl
  have eO : adOut s q = ouN q X.1 s.members.length := by rw [eX']; rfl
  rw [eR, eO] at hk
  rw [← eX'] at hX hXl hXp hXt ⊢
  clear eX eR eO eX' hOWk hOWk1 hOW1
  have hX2 : 0 ≤ tot X.2 := tot_nonneg hX.p
  have hdu := fun k hk => duN_ok (q := q) (cs := X.1) (t := t) (ds := s.dues) (n := 300) (M := dTot s.dues) hX.m (by omega) ⟨hs0.dd, Int.le_refl _, by omega⟩ (by rw [dTot]; omega) k hk
  have e72 : NeB b7 b2 := Ne.symm n7.2.2.1
  have e73 : NeB b7 b3 := Ne.symm n7.2.1
  have e74 : NeB b7 b4 := Ne.symm n7.1
  have e43 : NeB b4 b3 := Ne.symm n_b4.1
  have e42 : NeB b4 b2 := Ne.symm n_b4.2.1
  have e32 : NeB b3 b2 := Ne.symm n_b3.1
  obtain ⟨OW2, hOW2⟩ : ∃ OW2 : Nat → Value → Value → Option (Nat × Nat) → Own, OW2 = fun k vx vd oo => ⟨b7, 49, stC (setPar s q) ⟨ovs op s.purses.length, ovs om s.members.length, .slice vea s.entry.length vec, vx, .slice oa s.pool.length oc, vd, .slice ta s.motions.length tc, .slice ka s.marks.length kc, .slice ra s.ring.length rc⟩, 41⟩ :: oent 3 1 oo ((ouN q X.1 k).map (.int .i64)) (oent 142 6 om ((upN (bothF q) X.1 k).flatMap memC) (oent 22 1 op (X.2.map (.int .u64)) (⟨b4, 49, stC zeroS nilV, 41⟩ :: ⟨b3, 43, parC q, 24⟩ :: ⟨b2, 49, stC s ⟨.slice pa s.purses.length pc, .slice ma s.members.length mc, .slice ea s.entry.length ec, .slice xa s.exit.length xc, .slice oa s.pool.length oc, .slice da s.dues.length dc, .slice ta s.motions.length tc, .slice ka s.marks.length kc, .slice ra s.ring.length rc⟩, 41⟩ :: L))) := ⟨_, rfl⟩
  have apW : Ap (OW2 0 (.slice vxa s.exit.length vxc) (.slice da s.dues.length dc) none) h3 := by
    refine Ap.congr ?_ (show Ap ((⟨b7, 0, [], 0⟩ : Blk) :: _) h3 from ⟨h_b7, ap⟩)
    rw [hOW2]
    simp [oent_b]
  have ndW : Nd (OW2 0 (.slice vxa s.exit.length vxc) (.slice da s.dues.length dc) none) := by
    refine Nd.congr ?_ (show Nd ((⟨b7, 0, [], 0⟩ : Blk) :: _) from ⟨n_b7, nd0⟩)
    rw [hOW2]
    simp [oent_b]
  clear n_b2 n_b3 n_b4 n7 nd nd0 ap n_b7
  rw [emm]
  simp -dsimp -implicitDefEqProofs (disch := first | with_reducible assumption | omega) [go_sem]
  rw [← emm]
  refine xloop (γ := Nat × PH × Value × Value × Option (Nat × Nat)) (0, h3, .slice vxa s.exit.length vxc, .slice da s.dues.length dc, none)
    (fun x => x.1 ≤ s.members.length ∧ PH.le h3 x.2.1 ∧ Ints x.2.1 .i64 x.2.2.1 (exN q X.1 s.exit x.1) ∧ Recs dueC 3 x.2.1 x.2.2.2.1 (duN q X.1 t s.dues x.1) ∧ okO x.2.2.2.2 (ouN q X.1 x.1).length ∧ Ap (OW2 x.1 x.2.2.1 x.2.2.2.1 x.2.2.2.2) x.2.1 ∧ Nd (OW2 x.1 x.2.2.1 x.2.2.2.1 x.2.2.2.2))
    (fun x => [(11, .int .i64 x.1), (8, ovs x.2.2.2.2 (ouN q X.1 x.1).length), (7, .pointer (some ⟨b7, 0, none⟩)), (4, .pointer (some ⟨b4, 0, none⟩)), (3, .pointer (some ⟨b3, 0, none⟩)), (2, .pointer (some ⟨b2, 0, none⟩))])
    (fun x => OW2 x.1 x.2.2.1 x.2.2.2.1 x.2.2.2.2) (fun x => x.2.1) (fun x => s.members.length - x.1) ?_ ?_ ?_ ?_
  · exact ⟨Nat.zero_le _, PH.le_refl _, ix, hS0.d, rfl, apW, ndW⟩
  · simp [Ent, List.lookup, ovs]
  · subst hOW2
    exact Drop.refl _ _
  clear apW ndW
  rintro ⟨k, h4, wx, wd, oo⟩ ⟨k1, le4, jx, jd, okk, apV, ndV⟩
  simp only at k1 le4 jx jd okk apV ndV ⊢
  have hOWk : OW2 k wx wd oo = _ := congrFun (congrFun (congrFun (congrFun hOW2 k) wx) wd) oo
  have hYl := upN_len (bothF q) X.1 k
  have hol := ouN_len q X.1 k
  have hxl := exN_len q X.1 s.exit k
  obtain ⟨wxa, wxc, rfl, _⟩ := jx.open
  obtain ⟨wda, wdc, rfl, _⟩ := jd.open
  rw [hOWk] at apV ndV ⊢
  obtain ⟨z7, z4, z3, zo, zm, zp⟩ := ap_own2 apV
  obtain ⟨⟨o7, o4, o3⟩, ⟨nb7, nb4, nb3⟩, ⟨y7, y4, y3⟩, nom, nop, nmp⟩ := nd_own2 ndV
  obtain ⟨o2, _⟩ := nd_here (nd_in nom).1
  obtain ⟨m2', _⟩ := nd_here (nd_in nom).2
  obtain ⟨y2, _⟩ := nd_here (nd_in nop).2
  have z2 : h4 b2 = noC := (Ap.oent (Ap.oent (Ap.oent apV.2))).2.2.1
  simp only at z7 z4 z3 o7 o4 o3 nb7 nb4 nb3 y7 y4 y3 o2 m2' y2
  by_cases c1 : k < s.members.length
  · obtain ⟨bm, cm, rfl⟩ : ∃ bm cap, om = some (bm, cap) := by
      cases om with
      | none => have : s.members.length = 0 := okm; omega
      | some p => exact ⟨_, _, rfl⟩
    have hbm : h4 bm = noC := zm.2
    have obm : apB oo bm := (nd_here nom).1
    have e7m : NeB b7 bm := Ne.symm nb7
    have em3 : NeB bm b3 := nb3
    have em2 : NeB bm b2 := m2'
    have hat := upN_at (bothF q) X.1 (k := k) (by omega)
    obtain ⟨m, hm⟩ : ∃ m, m = gr zeroM (upN (bothF q) X.1 k) k := ⟨_, rfl⟩
    have hm2 : m = gr zeroM X.1 k := by rw [hm, hat]
    have hmX : m ∈ X.1 := by rw [hm2]; exact gr_mem (by omega)
    have hmo := hX.m m hmX
    have how := hX.o m hmX
    have ub := hmo.u m.bal (by simp)
    have ue := hmo.u m.eff (by simp)
    have hY : (upN (bothF q) X.1 k).length = s.members.length := by omega
    have mg := memG (l := upN (bothF q) X.1 k) (k := k) (m := m) (by omega) hm
    have hsum := hsum6 (upN (bothF q) X.1 k)
    have hsum' := hsum6' (upN (bothF q) X.1 k)
    have hk6 := flat_lt (w := 6) c1 (show 5 < 6 by decide)
    have hbk := at0_bal (ms := X.1) (k := k) (by omega)
    have hsk : sumK (X.1.map MemD.bal) (k + 1) = sumK (X.1.map MemD.bal) k + m.bal := by rw [sumK, hbk, hm2]
    have htk := tot_take (bal_pos hX.m) (k + 1) (by simp; omega)
    have hdk := hdu k (by omega)
    have hdt := hdk.t
    have hdd := hdk.d
    have hdn := hdk.n
    have eD : dTot s.dues = tot (s.dues.map DueD.amt) := rfl
    have same : ¬ ejP q m → duN q X.1 t s.dues (k + 1) = duN q X.1 t s.dues k ∧ exN q X.1 s.exit (k + 1) = exN q X.1 s.exit k ∧ ouN q X.1 (k + 1) = ouN q X.1 k := fun hn => by
      rw [hm2] at hn
      exact ⟨by rw [duN, if_neg hn], by rw [exN, if_neg hn], by rw [ouN, if_neg hn]⟩
    simp only [List.cons_append, List.nil_append, ovs_some, oent_some]
    simp -dsimp -implicitDefEqProofs (disch := first | with_reducible assumption | omega) [go_sem, mg, xFind_oent obm, xFind_oent o3, xFind_oent y3]
    refine xnew fun b12 n_b12 h_b12 => ?_
    have q7 : NeB b12 b7 := Ne.symm n_b12.1
    have n12 := apart_oent n_b12.2
    have o12 : apB oo b12 := apart_here n_b12.2
    have qm : NeB b12 bm := Ne.symm n12.1
    have y12 : apB op b12 := apart_here n12.2
    have n12 := apart_oent n12.2
    have q3 : NeB b12 b3 := Ne.symm n12.2.1
    have q2 : NeB b12 b2 := Ne.symm n12.2.2.1
    simp -dsimp -implicitDefEqProofs (disch := first | with_reducible assumption | omega) [go_sem, mg, xFind_oent obm, xFind_oent o3, xFind_oent y3]
    refine counts19_any m ?_
    by_cases e : m.status = 2 ∨ m.status = 3
    · rw [decide_eq_true e]
      by_cases e2 : m.bal ≤ q.floor
      · simp -dsimp -implicitDefEqProofs (disch := first | with_reducible assumption | omega) [go_sem, mg, xFind_oent obm, xFind_oent o3, xFind_oent y3]
        refine end19_any m ?_
        simp -dsimp -implicitDefEqProofs (disch := first | with_reducible assumption | omega) [go_sem]
        refine xnew fun b13 n_b13 h_b13 => ?_
        have r12 : NeB b13 b12 := Ne.symm n_b13.1
        have r7 : NeB b13 b7 := Ne.symm n_b13.2.1
        have n13 := apart_oent n_b13.2.2
        have o13 : apB oo b13 := apart_here n_b13.2.2
        have rm : NeB b13 bm := Ne.symm n13.1
        have y13 : apB op b13 := apart_here n13.2
        have n13 := apart_oent n13.2
        have r3 : NeB b13 b3 := Ne.symm n13.2.1
        have r2 : NeB b13 b2 := Ne.symm n13.2.2.1
        simp -dsimp -implicitDefEqProofs (disch := first | with_reducible assumption | omega) [go_sem, xFind_oent obm, xSet_oent obm]
        refine ⟨by omega, ?_⟩
        have hj : ejP q (gr zeroM X.1 k) := by rw [← hm2]; exact ⟨e, e2⟩
        have d1 : duN q X.1 t s.dues (k + 1) = oweL (duN q X.1 t s.dues k) (dueOf t m) := by rw [duN, if_pos hj, hm2]
        have d2 : exN q X.1 s.exit (k + 1) = flt (exN q X.1 s.exit k) k := by rw [exN, if_pos hj]; rfl
        have d3 : ouN q X.1 (k + 1) = ouN q X.1 k ++ [(k : Int)] := by rw [ouN, if_pos hj]
        have d4 : upN (bothF q) X.1 (k + 1) = (upN (bothF q) X.1 k).set k (endM m) := by rw [upN, ← hm2, bothF, if_pos e, if_pos e2]
        have hset := flatG_wr memC_len (upN (bothF q) X.1 k) (i := k) (by omega) (endM m)
        simp only [wr, memC] at hset
        rw [hset]
        refine Spec.apn (drop16_any _ jx k (by omega) fun h5 r5 le5 i5 ap nd => ?_)
        obtain ⟨w13, w12, w7, ap⟩ := ap
        obtain ⟨wm, ap⟩ := Ap.oent ap
        obtain ⟨w4, w3, w2, _⟩ := Ap.oent ap
        clear ap nd
        simp only at w13 w12 w7 wm w4 w3 w2
        obtain ⟨va5, vc5, rfl, _⟩ := i5.open
        simp -dsimp -implicitDefEqProofs (disch := first | with_reducible assumption | omega) [go_sem, xFind_oent o2, xFind_oent y2]
        rw [← et]
        refine Spec.apn (owe18_any (d := dueOf t m) _ (jd.up le5) hdd (by omega) (by show 0 ≤ m.owner ∧ m.owner ≤ 63; omega) (by show 0 ≤ t ∧ t ≤ _; omega) ub.1 (by show _ + m.bal ≤ _; omega) fun h6 r6 le6 i6 ap nd => ?_)
        have ap6 := ap
        have nd6 := nd
        obtain ⟨w13, w12, w7, ap⟩ := ap
        obtain ⟨wm, ap⟩ := Ap.oent ap
        obtain ⟨w4, w3, w2, _⟩ := Ap.oent ap
        clear ap nd
        simp only at w13 w12 w7 wm w4 w3 w2
        obtain ⟨va6, vc6, rfl, _⟩ := i6.open
        simp -dsimp -implicitDefEqProofs (disch := first | with_reducible assumption | omega) [go_sem]
        have ap7 := ap6.2.2
        have nd7 := nd_out nd6.2.2
        have ap8 : Ap (_ :: _) h6 := ⟨ap7.1, Ap.oent ap7.2⟩
        clear ap6 nd6 ap7
        refine xnew fun bs n_bs h_bs => ?_
        simp -dsimp -implicitDefEqProofs (disch := first | with_reducible assumption | omega) [go_sem]
        refine xappend (t := 27) (e := 3) (sz := 1) (bytes := 8) (z := [.int .i64 0]) (by kernel_rfl) tI_3 rfl rfl rfl rfl (by decide) [_, _, _, _] _ oo (ouN q X.1 k).length ((ouN q X.1 k).map (.int .i64)) okk (by simp) (Src.own List.mem_cons_self) (m := 1) (news := [.int .i64 k]) rfl (fun u hu => by simp at hu; subst hu; rfl) (by simp [maxLen]; omega) (by omega) ?_
        intro o' j1 j2 j3
        simp only [List.cons_append, List.nil_append] at j2 ⊢
        have j4 := apO_tail (apO_tail (apO_tail j2))
        have hO : OW2 (k + 1) (.slice va5 (flt (exN q X.1 s.exit k) k).length vc5) (.slice va6 (oweL (duN q X.1 t s.dues k) (dueOf t m)).length vc6) o' = _ := congrFun (congrFun (congrFun (congrFun hOW2 (k + 1)) _) _) _
        rw [d3, d4, List.map_append] at hO
        have d5 : (ouN q X.1 (k + 1)).length = (ouN q X.1 k).length + 1 := by rw [d3, List.length_append]; rfl
        simp -dsimp -implicitDefEqProofs (disch := first | with_reducible assumption | omega) [go_sem]
        refine ⟨k + 1, h6, _, _, o', ⟨by omega, le4.trans (le5.trans le6), by rw [d2]; exact i5.up le6, by rw [d1]; exact i6, by rw [d5]; exact j1, ?_, ?_⟩, by omega, by simp [Ent, List.lookup, d5], ?_⟩
        · rw [hO]; exact Ap.congr (by simp [oent_b]) (Ap.perm (oent_perm (e := 3) (sz := 1) (xs := [])).symm (ap_oent_in (e := 3) (sz := 1) (xs := []) j4 ap8))
        · rw [hO]; exact Nd.congr (by simp [oent_b]) (Nd.perm (oent_perm (e := 3) (sz := 1) (xs := [])).symm (nd_oent_in (e := 3) (sz := 1) (xs := []) j4 nd7))
        · rw [hO]; exact (Drop.tail _ _ _).trans ((Drop.tail _ _ _).trans (Drop.tail _ _ _))
      · have hb1 : bothF q m = settleM q m := by rw [bothF, if_pos e, if_neg e2]
        have hst := settleM_ok okq hq hmo
        have hw := wholeP_ok (inc_pos hq) okq ub
        have hne : 0 ≤ nextP q m.eff m.bal ∧ nextP q m.eff m.bal ≤ 18446744073709551615 := by
          unfold nextP; split
          · exact hw
          · exact ue
        simp -dsimp -implicitDefEqProofs (disch := first | with_reducible assumption | omega) [go_sem, mg, xFind_oent obm, xFind_oent o3, xFind_oent y3]
        refine next10_any q okq (inc_pos hq) m.eff m.bal ue ub ?_
        simp -dsimp -implicitDefEqProofs (disch := first | with_reducible assumption | omega) [go_sem, xFind_oent obm, xFind_oent o3, xFind_oent y3]
        refine fits10_any q okq (inc_pos hq) (nextP q m.eff m.bal) m.bal hne ub ?_
        simp -dsimp -implicitDefEqProofs (disch := first | with_reducible assumption | omega) [go_sem, xFind_oent obm, xFind_oent o3, xFind_oent y3]
        have d4 : ∀ m', m' = settleM q m → upN (bothF q) X.1 (k + 1) = (upN (bothF q) X.1 k).set k m' := fun m' hm' => by rw [upN, ← hm2, hb1, hm']
        cases e3 : gfitsP q (nextP q m.eff m.bal) m.bal with
        | true =>
          simp -dsimp -implicitDefEqProofs (disch := first | with_reducible assumption | omega) [go_sem, xFind_oent obm, xSet_oent obm]
          obtain ⟨f1, f2, f3⟩ := same fun x => e2 x.2
          have hm' : ({ m with eff := nextP q m.eff m.bal } : MemD) = settleM q m := by simp [settleM, e3]
          have hset := flatG_wr memC_len (upN (bothF q) X.1 k) (i := k) (by omega) ({ m with eff := nextP q m.eff m.bal } : MemD)
          simp only [wr, memC] at hset
          have hO : OW2 (k + 1) (.slice wxa (exN q X.1 s.exit k).length wxc) (.slice wda (duN q X.1 t s.dues k).length wdc) oo = _ := congrFun (congrFun (congrFun (congrFun hOW2 (k + 1)) _) _) _
          rw [f3, d4 _ hm', ← hset] at hO
          refine ⟨by omega, k + 1, h4, _, _, oo, ⟨by omega, le4, by rw [f2]; exact jx, by rw [f1]; exact jd, by rw [f3]; exact okk, ?_, ?_⟩, by omega, by simp [Ent, List.lookup, f3], ?_⟩
          · rw [hO]; exact Ap.congr (by simp [oent_b]) apV
          · rw [hO]; exact Nd.congr (by simp [oent_b]) ndV
          · rw [hO]; exact Drop.tail _ _ _
        | false =>
          simp -dsimp -implicitDefEqProofs (disch := first | with_reducible assumption | omega) [go_sem, xFind_oent obm, xSet_oent obm, xFind_oent o3, xFind_oent y3]
          refine whole10_any q m.bal (inc_pos hq) ub ?_
          simp -dsimp -implicitDefEqProofs (disch := first | with_reducible assumption | omega) [go_sem, xFind_oent obm, xSet_oent obm]
          obtain ⟨f1, f2, f3⟩ := same fun x => e2 x.2
          have hm' : ({ m with eff := wholeP q m.bal } : MemD) = settleM q m := by simp [settleM, e3]
          have hset := flatG_wr memC_len (upN (bothF q) X.1 k) (i := k) (by omega) ({ m with eff := wholeP q m.bal } : MemD)
          simp only [wr, memC] at hset
          have hO : OW2 (k + 1) (.slice wxa (exN q X.1 s.exit k).length wxc) (.slice wda (duN q X.1 t s.dues k).length wdc) oo = _ := congrFun (congrFun (congrFun (congrFun hOW2 (k + 1)) _) _) _
          rw [f3, d4 _ hm', ← hset] at hO
          refine ⟨by omega, k + 1, h4, _, _, oo, ⟨by omega, le4, by rw [f2]; exact jx, by rw [f1]; exact jd, by rw [f3]; exact okk, ?_, ?_⟩, by omega, by simp [Ent, List.lookup, f3], ?_⟩
          · rw [hO]; exact Ap.congr (by simp [oent_b]) apV
          · rw [hO]; exact Nd.congr (by simp [oent_b]) ndV
          · rw [hO]; exact Drop.tail _ _ _
    · obtain ⟨f1, f2, f3⟩ := same fun x => e x.1
      have f4 : upN (bothF q) X.1 (k + 1) = upN (bothF q) X.1 k := upN_same _ _ (by omega) (by rw [← hm2, bothF, if_neg e])
      have f5 : OW2 (k + 1) (.slice wxa (exN q X.1 s.exit k).length wxc) (.slice wda (duN q X.1 t s.dues k).length wdc) oo = OW2 k (.slice wxa (exN q X.1 s.exit k).length wxc) (.slice wda (duN q X.1 t s.dues k).length wdc) oo := by rw [hOW2]; simp only [f3, f4]
      rw [decide_eq_false e]
      simp -dsimp -implicitDefEqProofs (disch := first | with_reducible assumption | omega) [go_sem]
      refine ⟨k + 1, h4, _, _, oo, ⟨by omega, le4, by rw [f2]; exact jx, by rw [f1]; exact jd, by rw [f3]; exact okk, ?_, ?_⟩, by omega, by simp [Ent, List.lookup, f3], ?_⟩
      · rw [f5, hOWk]; exact apV
      · rw [f5, hOWk]; exact ndV
      · rw [f5, hOWk]; exact Drop.tail _ _ _
  have hkl : k = s.members.length := by omega
  subst hkl
  clear hOWk hOW2
  have hD := hdu s.members.length (by omega)
  have hYo := upN_ok MemOk (f := bothF q) (l := X.1) (fun x hx => bothF_ok okq hq hx) hX.m s.members.length (by omega)
  have hEm : ∀ x ∈ exN q X.1 s.exit s.members.length, x ∈ s.exit := fun x hx => exN_mem hx
  have hOm : ∀ x ∈ ouN q X.1 s.members.length, 0 ≤ x ∧ x < s.members.length := fun x hx => ouN_mem hx
  obtain ⟨Y, hY⟩ : ∃ Y, Y = upN (bothF q) X.1 s.members.length := ⟨_, rfl⟩
  obtain ⟨D, hDe⟩ : ∃ D, D = duN q X.1 t s.dues s.members.length := ⟨_, rfl⟩
  obtain ⟨E, hE⟩ : ∃ E, E = exN q X.1 s.exit s.members.length := ⟨_, rfl⟩
  obtain ⟨O, hO⟩ : ∃ O, O = ouN q X.1 s.members.length := ⟨_, rfl⟩
  rw [← hY] at hk hYl hYo apV ndV ⊢
  rw [← hDe] at hk hD jd apV ndV ⊢
  rw [← hE] at hk hEm hxl jx apV ndV ⊢
  rw [← hO] at hk hOm hol okk apV ndV ⊢
  clear hY hDe hE hO hdu
  rw [emm]
  simp -dsimp -implicitDefEqProofs (disch := first | with_reducible assumption | omega) [go_sem]
  rw [← emm]
  simp -dsimp -implicitDefEqProofs (disch := first | with_reducible assumption | omega) [go_sem, xSet_oent o4, xSet_oent y4, xSet_oent (show apB om b4 from nb4), xFind_oent o4, xFind_oent y4, xFind_oent (show apB om b4 from nb4)]
  have leA := pub_le_o zo (O.map (.int .i64))
  have zm1 : apO om [] (pubO h4 oo (O.map (.int .i64))) := apO_pub' nom zm
  have zp1 : apO op [] (pubO h4 oo (O.map (.int .i64))) := apO_pub' nop zp
  have leB := pub_le_o zm1 (Y.flatMap memC)
  have zp2 : apO op [] (pubO (pubO h4 oo (O.map (.int .i64))) om (Y.flatMap memC)) := apO_pub' nmp zp1
  have leC := pub_le_o zp2 (X.2.map (.int .u64))
  have slo := pub_sl (h := h4) (sz := 1) (n := O.length) (o := oo) (xs := O.map (.int .i64)) okk (by simp) (by omega)
  have slm := pub_sl (h := pubO h4 oo (O.map (.int .i64))) (sz := 6) (n := s.members.length) (o := om) (xs := Y.flatMap memC) okm (by rw [flatG_len memC_len, hYl, hXl]) (by omega)
  have slp := pub_sl (h := pubO (pubO h4 oo (O.map (.int .i64))) om (Y.flatMap memC)) (sz := 1) (n := s.purses.length) (o := op) (xs := X.2.map (.int .u64)) okp (by simp; exact hXp) (by omega)
  have rm := Recs.pub (f := memC) (w := 6) (l := Y) (o := om) memC_len (by rw [hYl, hXl]; exact slm.up leC)
  rw [hYl, hXl] at rm
  have le5 := leA.trans (leB.trans leC)
  have le6 := le4.trans le5
  have hpx := fun i => hX.p i
  have hpt := fun i => at0_le_tot hX.p i
  have hmt := tot_nonneg (bal_pos hX.m)
  have htt := hX.t
  have ipp : Ints _ .u64 (ovs op s.purses.length) X.2 := ⟨by rw [hXp]; exact slp, fun z hz => by
    obtain ⟨i, hi, rfl⟩ := List.mem_iff_getElem.1 hz
    have h1 := hpx i
    have h2 := hpt i
    rw [← at0_lt hi] at h1 h2
    exact ⟨h1, by have : IntKind.u64.max = 18446744073709551615 := rfl; omega⟩⟩
  obtain ⟨qt, t1, t2, t3⟩ := hS0.t
  obtain ⟨qr, r1, r2⟩ := hS0.r
  have io : Ints _ .i64 (ovs oo O.length) O := ⟨slo.up (leB.trans leC), fun z hz => by have := hOm z hz; exact ⟨by have : IntKind.i64.min = -9223372036854775808 := rfl; omega, by have : IntKind.i64.max = 9223372036854775807 := rfl; omega⟩⟩
  exact fin_tail ⟨L, _, (pub_drop_o oo _ _ h4 (by decide)).trans ((pub_drop_o om _ _ _ (by decide)).trans ((pub_drop_o op _ _ _ (by decide)).trans ((Drop.tail _ _ _).trans ((Drop.tail _ _ _).trans (Drop.tail _ _ _))))),
    hk _ ⟨ovs op s.purses.length, ovs om s.members.length, .slice vea s.entry.length vec, .slice wxa E.length wxc, .slice oa s.pool.length oc, .slice wda D.length wdc, .slice ta s.motions.length tc, .slice ka s.marks.length kc, .slice ra s.ring.length rc⟩ (ovs oo O.length) (le13.trans le6)
      { ok := ⟨okq, hs0.ok.u, hs0.ok.n⟩, p := ipp, m := rm, mo := hYo, e := ie.up le6, x := jx.up le5, o := hS0.o.up le6, oo := hs0.oo, d := jd.up le5, dd := hD.d, t := ⟨qt, t1.up le6, t2, fun x hx => (t3 x hx).up le6⟩, k := hS0.k.up le6, r := ⟨qr, r1.up le6, r2⟩ } io⟩
end Go.X

/- Contracts of bullionref40.Form and Decode. Conditions: the values read as certificates and as bytes. -/
import Derived.Test.YtfilkbfkhdaakaaGreatWX
import Derived.Test.YtfilkbfkhdaakaaGreatPF
set_option linter.unusedVariables false
set_option linter.unusedSimpArgs false
set_option maxRecDepth 20000
namespace Go.X
open Go.RowKit Go.Proofs Go.Bl
variable {L : Own} {h : PH} {K : PK}
theorem xact_mono {m : Sem Value} {K' : PK} (hx : xAct Tryz.prog m L h K) (hk : ∀ v L' h', K v L' h' → Drop L' h' L' h' → K' v L' h') : xAct Tryz.prog m L h K' := fun W hg => by
  obtain ⟨r, L', h', W', h1, h2, h3⟩ := hx W hg
  exact ⟨r, L', h', W', h1, hk _ _ _ h2 (Drop.refl _ _), h3⟩
/-- what an operation leaves may be told with less -/
theorem xact_drop {m : Sem Value} {K' : PK} (hx : xAct Tryz.prog m L h K) (hk : ∀ v L' h', K v L' h' → ∃ L2 h2, Drop L' h' L2 h2 ∧ K' v L2 h2) : xAct Tryz.prog m L h K' := fun W hg => by
  obtain ⟨r, L', h', W', h1, h2, st⟩ := hx W hg
  obtain ⟨L2, h2', hd, hk2⟩ := hk _ _ _ h2
  obtain ⟨g2, f2⟩ := hd W' st.1
  refine ⟨r, L2, h2', W', h1, hk2, g2, st.2.1, fun e he => ?_⟩
  obtain ⟨e', he', hb⟩ := List.mem_map.1 (f2 e he)
  rw [← hb]
  exact st.2.2 e' he'
/-- bytes of a call's own are appended to others of its own; their block is let go -/
theorem append_ownA {ty : Nat} (A : Own) {L : Own} {h : PH} {K : PK} (o o2 : Option (Nat × Nat)) (bs ys : List Int) (ho : okO o bs.length) (ho2 : okO o2 ys.length) (hy : 0 < ys.length) (hl : bs.length + ys.length ≤ 1000000)
    (hk : ∀ o', okO o' (bs ++ ys).length → apO o' (A ++ L) h → K (ovs o' (bs ++ ys).length) (A ++ oent 5 1 o' ((bs ++ ys).map (.int .u8)) L) h) :
    xAct Tryz.prog (Builtin.append_ #[31, 31] ty #[ovs o bs.length, ovs o2 ys.length]) (oent 5 1 o2 (ys.map (.int .u8)) (A ++ oent 5 1 o (bs.map (.int .u8)) L)) h K :=
  xact_drop (append_own (K := fun v L' h' => ∃ o' x, v = ovs o' (bs ++ ys).length ∧ L' = x :: (A ++ oent 5 1 o' ((bs ++ ys).map (.int .u8)) L) ∧ h' = h ∧ okO o' (bs ++ ys).length ∧ apO o' (A ++ L) h) A o o2 bs ys ho ho2 hy hl fun o' x i1 i2 => ⟨o', x, rfl, rfl, rfl, i1, i2⟩) fun v L' h' ⟨o', x, e1, e2, e3, i1, i2⟩ => by
    subst e1 e2 e3
    exact ⟨_, _, Drop.tail _ _ _, hk o' i1 i2⟩
set_option maxHeartbeats 3200000 in
theorem form40_any {c : CertD} (v : Value) (hc : IsCert h v c) (hr : rightC c = true) (hk : ∀ h' r, PH.le h h' → Ints h' .u8 r (encC c) → K r L h') : Spec Tryz.prog 26 [v] L h K := by
  obtain ⟨sv, bv, rfl, hs, hb, r1, r2, r3, r4⟩ := hc
  have hsw := hs.word
  have os := hs.open
  obtain ⟨a, ca, rfl, _, _, _, hcx⟩ := os
  have ob := hb.open
  obtain ⟨b, cb, rfl, _⟩ := ob
  have hf := headC_facts (rightC_head hr)
  have hz := right_bounds (fun i => (hsw i).1) hr
  have hbl := right_bs hr
  have l1 := formN_len 10 c.ep.toNat (by have : (128 : Nat) ^ 10 = 1180591620717411303424 := by decide
                                         omega) (by decide)
  have l2 := formN_len 10 c.mem.toNat (by have : (128 : Nat) ^ 10 = 1180591620717411303424 := by decide
                                          omega) (by decide)
  have l3 := flatN_len c.st (fun z hzz => by have := hz z hzz; omega)
  have l5 : (rawN c.bs).length ≤ 26 := by
    have l4 := formN_len 10 c.bs.length (by have : (128 : Nat) ^ 10 = 1180591620717411303424 := by decide
                                            omega) (by decide)
    simp [rawN]; omega
  have p5 : 0 < (rawN c.bs).length := by have := formN_pos c.bs.length; simp [rawN]; omega
  obtain ⟨B, hB⟩ : ∃ B : Nat → List Int, ∀ i, B i = formN c.ep.toNat ++ formN c.mem.toNat ++ flatN (c.st.take i) := ⟨_, fun _ => rfl⟩
  have e0 : formN c.ep.toNat ++ formN c.mem.toNat = B 0 := by rw [hB]; simp [flatN]
  have hBl : ∀ i, (B i).length ≤ 1300 := fun i => by
    have hfl : (flatN (c.st.take i)).length ≤ 1280 := by
      have := flatN_len (c.st.take i) (fun z hzz => by have := hz z (List.mem_of_mem_take hzz); omega)
      have h2 : (c.st.take i).length ≤ c.st.length := by simp; omega
      omega
    rw [hB]; simp only [List.length_append]; omega
  refine x_enter Tryz.func26 rfl (rs := [_]) rfl rfl mixed (by kernel_rfl) rfl rfl ?_
  simp -dsimp -implicitDefEqProofs (disch := first | with_reducible assumption | omega) [go_sem]
  refine xnew fun b1 n_b1 h_b1 => ?_
  try simp only [Apart] at n_b1
  simp -dsimp -implicitDefEqProofs (disch := first | with_reducible assumption | omega) [go_sem]
  refine xanyl (.tk 0 (.tk 4 (.tkl 1 (.tk 2 (.tkl 5 (.tk 6 (.or true 3 (.or true 7 (.or true 8 (.tk 9 (.fin)) (.nil)) (.nil)) (.nil)))))))) (by kernel_rfl) (by kernel_rfl) _ (Drop.refl _ _) ?_
  simp -dsimp -implicitDefEqProofs (disch := first | with_reducible assumption | omega) [go_sem]
  refine rformI_any c.ep (by omega) (by omega) fun o1 k1 a1 => ?_
  have m1 : apB o1 b1 := a1.head
  refine xkp (Drop.oent _ _ _ _ _ _) ?_
  simp -dsimp -implicitDefEqProofs (disch := first | with_reducible assumption | omega) [go_sem]
  refine rformI_any c.mem (by omega) (by omega) fun o2 k2 a2 => ?_
  refine xkp ((Drop.oent _ _ _ _ _ _).trans (Drop.oent _ _ _ _ _ _)) ?_
  simp -dsimp -implicitDefEqProofs (disch := first | with_reducible assumption | omega) [go_sem]
  refine append_ownA [] o1 o2 _ _ k1 k2 (formN_pos _) (by omega) fun o3 k3 a3 => ?_
  rw [e0] at k3 ⊢
  simp only [List.nil_append] at a3 ⊢
  refine xkp (Drop.oent _ _ _ _ _ _) ?_
  simp -dsimp -implicitDefEqProofs (disch := first | with_reducible assumption | omega) [go_sem]
  refine xloop (γ := Nat × Option (Nat × Nat)) (0, o3)
    (fun q => q.1 ≤ c.st.length ∧ okO q.2 (B q.1).length ∧ apO q.2 (⟨b1, 53, [.int .i64 c.ep, .int .i64 c.mem, .slice a c.st.length ca, .slice b c.bs.length cb], 4⟩ :: L) h)
    (fun q => [(4, .int .i64 q.1), (3, ovs q.2 (B q.1).length), (1, .pointer (some ⟨b1, 0, none⟩))])
    (fun q => oent 5 1 q.2 ((B q.1).map (.int .u8)) (⟨b1, 53, [.int .i64 c.ep, .int .i64 c.mem, .slice a c.st.length ca, .slice b c.bs.length cb], 4⟩ :: L)) (fun _ => h) (fun q => c.st.length - q.1) ?_ ?_ ?_ ?_
  · exact ⟨Nat.zero_le _, k3, a3⟩
  · simp [Ent, List.lookup]
  · exact Drop.refl _ _
  rintro ⟨i, o⟩ ⟨i1, i2, i3⟩
  simp only at i1 i2 i3 ⊢
  have n1 : apB o b1 := i3.head
  have hb1 := hBl i
  by_cases d1 : i < c.st.length
  · have hw := hsw i
    have es := flatN_snoc c.st i d1
    have eB : B i ++ formN (at0 c.st i).toNat = B (i + 1) := by rw [hB, hB, es]; simp
    have lm := formN_len 10 (at0 c.st i).toNat (by have : (128 : Nat) ^ 10 = 1180591620717411303424 := by decide
                                                   omega) (by decide)
    simp -dsimp -implicitDefEqProofs (disch := first | with_reducible assumption | omega) [go_sem, xFind_oent n1, idx hcx]
    refine rformI_any (at0 c.st i) hw.1 hw.2 fun o4 k4 a4 => ?_
    simp -dsimp -implicitDefEqProofs (disch := first | with_reducible assumption | omega) [go_sem]
    refine append_ownA [] o o4 _ _ i2 k4 (formN_pos _) (by omega) fun o5 k5 a5 => ?_
    rw [eB] at k5 ⊢
    simp only [List.nil_append] at a5 ⊢
    simp -dsimp -implicitDefEqProofs (disch := first | with_reducible assumption | omega) [go_sem]
    exact ⟨i + 1, o5, ⟨by omega, k5, a5⟩, by omega, by simp [Ent, List.lookup], Drop.refl _ _⟩
  · have hi : i = c.st.length := by omega
    subst hi
    have ee : B c.st.length ++ rawN c.bs = encC c := by rw [hB]; simp [encC]
    simp -dsimp -implicitDefEqProofs (disch := first | with_reducible assumption | omega) [go_sem, xFind_oent n1]
    refine rawd_any _ hb (by omega) fun o4 k4 a4 => ?_
    simp -dsimp -implicitDefEqProofs (disch := first | with_reducible assumption | omega) [go_sem]
    refine append_ownA [] o o4 _ _ i2 k4 p5 (by omega) fun o5 k5 a5 => ?_
    rw [ee] at k5 ⊢
    simp only [List.nil_append] at a5 ⊢
    have el : (encC c).length ≤ 131072 := by rw [← ee]; simp only [List.length_append]; omega
    have eb : ∀ z ∈ encC c, 0 ≤ z ∧ z ≤ 255 := by
      intro z hzz
      simp only [encC, List.mem_append, rawN] at hzz
      rcases hzz with hzz | hzz | hzz | hzz | hzz
      · exact formN_byte _ z hzz
      · exact formN_byte _ z hzz
      · exact flatN_byte _ z hzz
      · exact formN_byte _ z hzz
      · have := hb.2 z hzz
        rwa [show IntKind.u8.min = 0 by decide, show IntKind.u8.max = 255 by decide] at this
    simp -dsimp -implicitDefEqProofs (disch := first | with_reducible assumption | omega) [go_sem]
    exact fin_pub (e := 5) (n := (encC c).length) k5 (by simp) (by omega) a5 fun h' le sl => fin_tail (fin_here (hk h' _ le ⟨sl, fun z hzz => by
      have := eb z hzz
      rwa [show IntKind.u8.min = 0 by decide, show IntKind.u8.max = 255 by decide]⟩))
set_option maxHeartbeats 3200000 in
theorem decode40_any {xs : List Int} (v : Value) (hx : Ints h .u8 v xs) (hlen : xs.length ≤ 900000) (hk : ∀ h' r, PH.le h h' → IsCert h' r (decC xs).1 → K (.tuple #[r, .int .i64 (decC xs).2]) L h') : Spec Tryz.prog 28 [v] L h K := by
  have hz := byte_of hx
  have ox := hx.open
  obtain ⟨xa', xc', rfl, _⟩ := ox
  obtain ⟨ra, hra⟩ : ∃ ra, ra = rNum xs (0, 0) 1073741824 := ⟨_, rfl⟩
  obtain ⟨rb, hrb⟩ : ∃ rb, rb = rNum xs ra.2 128 := ⟨_, rfl⟩
  obtain ⟨rc, hrc⟩ : ∃ rc, rc = rSt xs 1099511627776 rb.1.toNat rb.2 := ⟨_, rfl⟩
  obtain ⟨rd, hrd⟩ : ∃ rd, rd = rRaw xs rc.2 32 := ⟨_, rfl⟩
  have hdec : decC xs = if rDone xs rd.2 ≠ 0 then (nilC, rDone xs rd.2) else if rightC ⟨ra.1, rb.1, rc.1, rd.1⟩ then (⟨ra.1, rb.1, rc.1, rd.1⟩, 0) else (nilC, 2) := by
    rw [hrd, hrc, hrb, hra]; rfl
  have pa := rNum_pos xs (0, 0) 1073741824 hz (Nat.zero_le _) (by decide)
  rw [← hra] at pa
  have pb := rNum_pos xs ra.2 128 hz pa.1 (by decide)
  rw [← hrb] at pb
  have pc := rSt_pos hz (most := 1099511627776) (by decide) rb.1.toNat rb.2 pb.1
  rw [← hrc] at pc
  refine x_enter Tryz.func28 rfl (rs := [_, _]) rfl rfl mixed (by kernel_rfl) rfl rfl ?_
  simp -dsimp -implicitDefEqProofs (disch := first | with_reducible assumption | omega) [go_sem]
  refine xnew fun b1 n_b1 h_b1 => ?_
  try simp only [Apart] at n_b1
  simp -dsimp -implicitDefEqProofs (disch := first | with_reducible assumption | omega) [go_sem]
  refine xnew fun br n_br h_br => ?_
  try simp only [Apart] at n_br
  simp -dsimp -implicitDefEqProofs (disch := first | with_reducible assumption | omega) [go_sem]
  refine xnew fun b5 n_b5 h_b5 => ?_
  try simp only [Apart] at n_b5
  simp -dsimp -implicitDefEqProofs (disch := first | with_reducible assumption | omega) [go_sem]
  refine call_p1 (dint_any (s := (0, 0)) hx (by omega) (Nat.zero_le _) (by decide) (by decide) ?_)
  rw [← hra]
  simp only [wO, rO, dO, List.cons_append, List.nil_append]
  simp -dsimp -implicitDefEqProofs (disch := first | with_reducible assumption | omega) [go_sem]
  refine dint_any (s := ra.2) hx (by omega) pa.1 (by decide) (by decide) ?_
  rw [← hrb]
  simp only [wO, rO, dO, List.cons_append, List.nil_append]
  simp -dsimp -implicitDefEqProofs (disch := first | with_reducible assumption | omega) [go_sem]
  refine xloop (γ := Nat × (Nat × Int) × Option (Nat × Nat) × List Int) (0, rb.2, none, [])
    (fun g => g.1 ≤ rb.1.toNat ∧ g.2.2.2.length = g.1 ∧ okO g.2.2.1 g.1 ∧ g.2.1.1 ≤ xs.length ∧ (∀ z ∈ g.2.2.2, 0 ≤ z ∧ z ≤ 1099511627776) ∧ rc = (g.2.2.2 ++ (rSt xs 1099511627776 (rb.1.toNat - g.1) g.2.1).1, (rSt xs 1099511627776 (rb.1.toNat - g.1) g.2.1).2))
    (fun g => [(6, .int .i64 g.1), (5, .pointer (some ⟨b5, 0, none⟩)), (4, .pointer (some ⟨br, 0, none⟩)), (2, .pointer (some ⟨b1, 0, none⟩))])
    (fun g => dO br (.slice xa' xs.length xc') g.2.1 (⟨b5, 53, [.int .i64 ra.1, .int .i64 rb.1, ovs g.2.2.1 g.1, .slice none 0 0], 4⟩ :: ⟨b1, 53, [.int .i64 0, .int .i64 0, .slice none 0 0, .slice none 0 0], 4⟩ :: oent 22 1 g.2.2.1 (g.2.2.2.map (.int .u64)) L)) (fun _ => h) (fun g => rb.1.toNat - g.1) ?_ ?_ ?_ ?_
  · exact ⟨Nat.zero_le _, rfl, rfl, pb.1, fun z hz => by simp at hz, by simp only [List.nil_append, Nat.sub_zero]; exact hrc⟩
  · simp [Ent, List.lookup]
  · exact Drop.refl _ _
  rintro ⟨i, s, o, st⟩ ⟨i1, i2, i3, i4, i5, i6⟩
  simp only at i1 i2 i3 i4 i5 i6 ⊢
  by_cases d1 : i < rb.1.toNat ∧ s.2 = 0
  · obtain ⟨d1, d2⟩ := d1
    obtain ⟨k, hkk⟩ : ∃ k, rb.1.toNat - i = k + 1 := ⟨rb.1.toNat - i - 1, by omega⟩
    have hk2 : rb.1.toNat - (i + 1) = k := by omega
    rw [hkk] at i6
    simp only [rSt, d2, ne_eq, not_true_eq_false, if_false] at i6
    have pn := rNum_pos xs s 1099511627776 hz i4 (by decide)
    simp only [wO, rO, dO, List.cons_append, List.nil_append]
    simp -dsimp -implicitDefEqProofs (disch := first | with_reducible assumption | omega) [go_sem]
    refine xanyl (.tk 0 (.tk 2 (.tkl 1 (.or true 3 (.or true 4 (.or true 5 (.tk 6 (.or false 7 (.fin) (.nil))) (.nil)) (.nil)) (.nil))))) (by kernel_rfl) (by kernel_rfl) [⟨b5, 53, [.int .i64 ra.1, .int .i64 rb.1, ovs o i, .slice none 0 0], 4⟩] (Drop.mem (by simp)) ?_
    simp -dsimp -implicitDefEqProofs (disch := first | with_reducible assumption | omega) [go_sem]
    refine dnum_any (s := s) hx (by omega) i4 ?_
    simp only [wO, rO, dO, List.cons_append, List.nil_append]
    refine xkp (Drop.mem (by simp)) ?_
    simp -dsimp -implicitDefEqProofs (disch := first | with_reducible assumption | omega) [go_sem]
    refine xnew fun b6 n_b6 h_b6 => ?_
    try simp only [Apart] at n_b6
    refine xkp (Drop.mem (by simp)) ?_
    simp -dsimp -implicitDefEqProofs (disch := first | with_reducible assumption | omega) [go_sem]
    refine xappend (t := 25) (e := 22) (sz := 1) (bytes := 8) (z := [.int .u64 0]) (by kernel_rfl) tI_22 rfl rfl rfl rfl (by decide) [⟨b6, 22, [.int .u64 (rNum xs s 1099511627776).1], 1⟩, ⟨br, 167, [.slice xa' xs.length xc', .int .i64 (rNum xs s 1099511627776).2.1, .int .i64 (rNum xs s 1099511627776).2.2], 3⟩, ⟨b5, 53, [.int .i64 ra.1, .int .i64 rb.1, ovs o i, .slice none 0 0], 4⟩, ⟨b1, 53, [.int .i64 0, .int .i64 0, .slice none 0 0, .slice none 0 0], 4⟩] L o i (st.map (.int .u64)) i3 (by simp [i2]) (m := 1) (news := [.int .u64 (rNum xs s 1099511627776).1]) (Src.own (b := b6) (t := 22) (cap := 1) (by simp)) (by simp) (by simp [Value.oneCell']) (by simp only [maxLen]; omega) (by omega) ?_
    intro o2 j1 j2 j3
    simp only [List.cons_append, List.nil_append]
    refine xkp (Drop.mem (by simp)) ?_
    simp -dsimp -implicitDefEqProofs (disch := first | with_reducible assumption | omega) [go_sem]
    refine ⟨i + 1, (rNum xs s 1099511627776).2.1, (rNum xs s 1099511627776).2.2, o2, st ++ [(rNum xs s 1099511627776).1], ⟨by omega, by simp [i2], j1, pn.1, ?_, ?_⟩, by omega, by simp [Ent, List.lookup], ?_⟩
    · intro z hzz
      rcases List.mem_append.1 hzz with hzz | hzz
      · exact i5 z hzz
      · rw [List.mem_singleton.1 hzz]; exact pn.2
    · rw [hk2, i6]; simp
    · simp only [List.map_append, List.map_cons, List.map_nil]
      exact Drop.tail _ _ _
  · have hfin : rc = (st, s) := by
      rw [i6]
      by_cases d2 : s.2 = 0
      · have : rb.1.toNat - i = 0 := by omega
        rw [this]; simp [rSt]
      · rw [rSt_stop d2]; simp
    have hrd' : rd = rRaw xs s 32 := by rw [hrd, hfin]
    have hc1 : rc.1 = st := by rw [hfin]
    rw [hc1] at hdec
    have hi : i ≤ 128 := by omega
    subst i2
    by_cases d2 : st.length < rb.1.toNat
    all_goals
      simp only [wO, rO, dO, List.cons_append, List.nil_append]
      simp -dsimp -implicitDefEqProofs (disch := first | with_reducible assumption | omega) [go_sem]
      refine Spec.apn (draw_any (s := s) hx (by omega) i4 (by decide) (by decide) fun h2 r le2 hr2 ap nd => ?_)
      rw [← hrd'] at hr2 ap nd ⊢
      obtain ⟨p3, p5, p1, _⟩ := ap
      obtain ⟨⟨n1, n2, _⟩, ⟨n3, _⟩, _⟩ := nd
      have hr2' := hr2
      have or2 := hr2.open
      obtain ⟨y1, y2, rfl, _⟩ := or2
      simp only [wO, rO, dO, List.cons_append, List.nil_append]
      simp -dsimp -implicitDefEqProofs (disch := first | with_reducible assumption | omega) [go_sem]
      refine ddone_any (s := rd.2) (hx.up le2) ?_
      by_cases e : rDone xs rd.2 = 0
      · rw [if_neg (by simpa using e)] at hdec
        simp only [wO, rO, dO, List.cons_append, List.nil_append]
        simp -dsimp -implicitDefEqProofs (disch := first | with_reducible assumption | omega) [go_sem]
        refine call_pub_o (n := st.length) [_, _, _] i3 (by simp) (by omega) (fun h3 le3 sl => ?_) ⟨Tryz.f24, Tryz.func24, by decide +kernel, rfl⟩
        have ic : IsCert h3 (.agg #[.int .i64 ra.1, .int .i64 rb.1, ovs o st.length, .slice y1 rd.1.length y2]) ⟨ra.1, rb.1, st, rd.1⟩ :=
          ⟨_, _, rfl, ⟨by simpa using sl, fun z hzz => by
            have := i5 z hzz
            rw [show IntKind.u64.min = 0 by decide, show IntKind.u64.max = 18446744073709551615 by decide]; omega⟩, hr2'.up le3, by simp only; omega, by simp only; omega, by simp only; omega, by simp only; omega⟩
        refine Spec.apn (right_any _ ic fun ap nd => ?_)
        simp only [List.cons_append, List.nil_append, Ap] at ap
        obtain ⟨w3, w5, w1, _⟩ := ap
        cases hr : rightC ⟨ra.1, rb.1, st, rd.1⟩ with
        | true =>
          rw [if_pos hr] at hdec
          rw [hdec] at hk
          simp only [if_true, List.cons_append, List.nil_append]
          simp -dsimp -implicitDefEqProofs (disch := first | with_reducible assumption | omega) [go_sem]
          exact fin_tail (fin_tail (fin_tail (fin_here (hk h3 _ (le2.trans le3) ic))))
        | false =>
          rw [if_neg (by simp [hr])] at hdec
          rw [hdec] at hk
          simp only [Bool.false_eq_true, if_false, List.cons_append, List.nil_append]
          simp -dsimp -implicitDefEqProofs (disch := first | with_reducible assumption | omega) [go_sem]
          exact fin_tail (fin_tail (fin_tail (fin_here (hk h3 _ (le2.trans le3) (zeroC_is h3)))))
      · rw [if_pos e] at hdec
        rw [hdec] at hk
        simp only [wO, rO, dO, List.cons_append, List.nil_append]
        simp -dsimp -implicitDefEqProofs (disch := first | with_reducible assumption | omega) [go_sem]
        exact fin_tail (fin_tail (fin_tail (fin_oent (fin_here (hk h2 _ (le2) (zeroC_is h2))))))
end Go.X

/- Contract of bullionref24.Money. Conditions: the value reads as a state. -/
import Derived.Test.YtfilkbfkhdaakaaGreatSF
import Derived.Test.YtfilkbfkhdaakaaGreatXY
set_option linter.unusedVariables false
set_option linter.unusedSimpArgs false
namespace Go.X
open Go.RowKit Go.Proofs Go.Bl
variable {L : Own} {h : PH} {K : PK}
theorem pubO_ints {α : Type} {f : α → Int} {l : List α} {h : PH} {o : Option (Nat × Nat)} (ho : okO o l.length) (hn : l.length ≤ 100000) (hm : ∀ x ∈ l, 0 ≤ f x ∧ f x ≤ 18446744073709551615) : Ints (pubO h o (colU f l l.length)) .u64 (ovs o l.length) (l.map f) :=
  colU_ints (pub_sl ho (colU_len (Nat.le_refl _)) (by omega)) hm
set_option maxHeartbeats 6400000 in
set_option maxRecDepth 20000 in
theorem money_any {s : StD} (v : SV) (hs : IsSt h v s) (few : FewS s) (hk : ∀ h' r1 r2 r3 r4, PH.le h h' → IsMon h' s r1 r2 r3 r4 → K (monV s r1 r2 r3 r4) L h') : Spec Tryz.prog 68 [stV s v] L h K := by
  obtain ⟨pa, pc, ma, mc, ea, ec, xa, xc, oa, oc, da, dc, ta, tc, ka, kc, ra, rc, rfl⟩ := hs.slices
  have hp : Ints h .u64 (.slice pa s.purses.length pc) s.purses := hs.p
  have hm : Recs memC 6 h (.slice ma s.members.length mc) s.members := hs.m
  have ho0 : Recs depC 4 h (.slice oa s.pool.length oc) s.pool := hs.o
  have hd0 : Recs dueC 3 h (.slice da s.dues.length dc) s.dues := hs.d
  have fm := few.m
  have fo := few.o
  have fd := few.d
  refine x_enter Tryz.func68 rfl (rs := [_]) rfl rfl mixed (by kernel_rfl) rfl rfl ?_
  simp -dsimp -implicitDefEqProofs (disch := first | with_reducible assumption | omega) [go_sem]
  refine xnew fun b1 n_b1 h_b1 => ?_
  try simp only [Apart] at n_b1
  simp -dsimp -implicitDefEqProofs (disch := first | with_reducible assumption | omega) [go_sem]
  refine xnew fun b2 n_b2 h_b2 => ?_
  try simp only [Apart] at n_b2
  simp -dsimp -implicitDefEqProofs (disch := first | with_reducible assumption | omega) [go_sem]
  refine xnew fun b3 n_b3 h_b3 => ?_
  try simp only [Apart] at n_b3
  simp -dsimp -implicitDefEqProofs (disch := first | with_reducible assumption | omega) [go_sem]
  refine xloop (γ := Nat × Option (Nat × Nat)) (0, none) (fun q => q.1 ≤ s.members.length ∧ okO q.2 q.1 ∧ apO q.2 (⟨b3, 136, [.int .u64 s.most, .int .u64 s.gen, .int .u64 s.mint, .int .u64 s.burn, .int .u64 s.treas, (ovs q.2 q.1), .slice pa s.purses.length pc, .slice none 0 0, .slice none 0 0], 9⟩ :: ⟨b2, 136, [.int .u64 0, .int .u64 0, .int .u64 0, .int .u64 0, .int .u64 0, .slice none 0 0, .slice none 0 0, .slice none 0 0, .slice none 0 0], 9⟩ :: ⟨b1, 49, stC s ⟨.slice pa s.purses.length pc, .slice ma s.members.length mc, .slice ea s.entry.length ec, .slice xa s.exit.length xc, .slice oa s.pool.length oc, .slice da s.dues.length dc, .slice ta s.motions.length tc, .slice ka s.marks.length kc, .slice ra s.ring.length rc⟩, 41⟩ :: L) h)
    (fun q => [(4, .int .i64 q.1), (1, .pointer (some ⟨b1, 0, none⟩)), (2, .pointer (some ⟨b2, 0, none⟩)), (3, .pointer (some ⟨b3, 0, none⟩))])
    (fun q => oent 22 1 q.2 (colU MemD.bal s.members q.1) (⟨b3, 136, [.int .u64 s.most, .int .u64 s.gen, .int .u64 s.mint, .int .u64 s.burn, .int .u64 s.treas, (ovs q.2 q.1), .slice pa s.purses.length pc, .slice none 0 0, .slice none 0 0], 9⟩ :: ⟨b2, 136, [.int .u64 0, .int .u64 0, .int .u64 0, .int .u64 0, .int .u64 0, .slice none 0 0, .slice none 0 0, .slice none 0 0, .slice none 0 0], 9⟩ :: ⟨b1, 49, stC s ⟨.slice pa s.purses.length pc, .slice ma s.members.length mc, .slice ea s.entry.length ec, .slice xa s.exit.length xc, .slice oa s.pool.length oc, .slice da s.dues.length dc, .slice ta s.motions.length tc, .slice ka s.marks.length kc, .slice ra s.ring.length rc⟩, 41⟩ :: L)) (fun _ => h) (fun q => s.members.length - q.1) ?_ ?_ ?_ ?_
  · exact ⟨Nat.zero_le _, rfl, trivial⟩
  · simp [Ent, List.lookup, ovs]
  · exact Drop.refl _ _
  rintro ⟨k, o⟩ ⟨k1, k2, k3⟩
  simp only at k1 k2 k3 ⊢
  have m3 : apB o b3 := k3.head
  have m2 : apB o b2 := (apO_tail k3).head
  have m1 : apB o b1 := (apO_tail (apO_tail k3)).head
  by_cases c1 : k < s.members.length
  · simp -dsimp -implicitDefEqProofs (disch := first | with_reducible assumption | omega) [go_sem, xFind_oent m3, xFind_oent m2, xFind_oent m1]
    refine xanyl (.tk 0 (.tk 2 (.tk 4 (.tkl 1 (.tkl 3 (.tk 5 (.tk 6 (.tk 7 (.tkl 8 (.or true 9 (.or true 10 (.tk 11 (.or false 12 (.fin) (.nil))) (.nil)) (.nil))))))))))) (by kernel_rfl) (by kernel_rfl) _ (Drop.oent _ _ _ _ _ _) ?_
    simp -dsimp -implicitDefEqProofs (disch := first | with_reducible assumption | omega) [go_sem, xFind_oent m3, xFind_oent m2, xFind_oent m1, ↓idxR zeroM (by decide) hm]
    refine (Recs.fld zeroM hm (j := k) (o := 0) c1 (u := .int .u64 (gr zeroM s.members k).bal) rfl _ _ _).mpr ?_
    simp -dsimp -implicitDefEqProofs (disch := first | with_reducible assumption | omega) [go_sem, xFind_oent m3, xFind_oent m2, xFind_oent m1]
    refine xnew fun b4 n_b4 h_b4 => ?_
    try simp only [Apart] at n_b4
    have n4 := apart_oent n_b4
    simp only [Apart] at n4
    obtain ⟨n43, n42, n41, _⟩ := n4
    refine xkp (Drop.trans (Drop.tail _ _ _) (Drop.oent _ _ _ _ _ _)) ?_
    simp -dsimp -implicitDefEqProofs (disch := first | with_reducible assumption | omega) [go_sem]
    refine xappend (t := 25) (e := 22) (sz := 1) (bytes := 8) (by kernel_rfl) tI_22 rfl rfl rfl rfl (by decide) [_] _ o k (colU MemD.bal s.members k) k2 (colU_len k1) (Src.own (b := b4) List.mem_cons_self) (m := 1) (news := [.int .u64 (gr zeroM s.members k).bal]) rfl (by intro u hu; simp only [List.mem_singleton] at hu; subst hu; rfl) (by simp [maxLen]; omega) (by omega) ?_
    intro o' j1 j2 j3
    have j4 := apO_tail j2
    have m3' : apB o' b3 := j4.head
    simp -dsimp -implicitDefEqProofs (disch := first | with_reducible assumption | omega) [go_sem]
    refine xkp (Drop.trans (Drop.tail _ _ _) (Drop.oent _ _ _ _ _ _)) ?_
    simp -dsimp -implicitDefEqProofs (disch := first | with_reducible assumption | omega) [go_sem, xSet_oent m3']
    refine ⟨k + 1, o', ⟨by omega, j1, ?_⟩, by omega, by simp [Ent, List.lookup], ?_⟩
    · cases o' with
      | none => trivial
      | some p => exact ⟨⟨j4.1.1, j4.1.2⟩, j4.2⟩
    · rw [colU_succ zeroM c1]
      exact Drop.tail _ _ _
  · have hkl : k = s.members.length := by omega
    subst hkl
    obtain ⟨h1, eh1⟩ : ∃ h1, h1 = pubO h o (colU MemD.bal s.members s.members.length) := ⟨_, rfl⟩
    have g1 : Ints h1 .u64 (ovs o s.members.length) (s.members.map MemD.bal) := by rw [eh1]; exact pubO_ints k2 fm fun x hx => (hs.mo x hx).u _ (by simp)
    have le1 : PH.le h h1 := by rw [eh1]; exact pub_le_o k3 _
    have w3 : h1 b3 = noC := by rw [eh1]; exact pubO_noC m3 h_b3
    have w2 : h1 b2 = noC := by rw [eh1]; exact pubO_noC m2 h_b2
    have w1 : h1 b1 = noC := by rw [eh1]; exact pubO_noC m1 h_b1
    have ho : Recs depC 4 h1 (.slice oa s.pool.length oc) s.pool := ho0.up le1
    obtain ⟨ta1, tc1, er1, _⟩ := g1.open
    rw [List.length_map] at er1
    simp -dsimp -implicitDefEqProofs (disch := first | with_reducible assumption | omega) [go_sem, xFind_oent m3, xFind_oent m2, xFind_oent m1]
    refine xloop (γ := Nat × Option (Nat × Nat)) (0, none) (fun q => q.1 ≤ s.pool.length ∧ okO q.2 q.1 ∧ apO q.2 (⟨b3, 136, [.int .u64 s.most, .int .u64 s.gen, .int .u64 s.mint, .int .u64 s.burn, .int .u64 s.treas, (.slice ta1 s.members.length tc1), .slice pa s.purses.length pc, (ovs q.2 q.1), .slice none 0 0], 9⟩ :: ⟨b2, 136, [.int .u64 0, .int .u64 0, .int .u64 0, .int .u64 0, .int .u64 0, .slice none 0 0, .slice none 0 0, .slice none 0 0, .slice none 0 0], 9⟩ :: ⟨b1, 49, stC s ⟨.slice pa s.purses.length pc, .slice ma s.members.length mc, .slice ea s.entry.length ec, .slice xa s.exit.length xc, .slice oa s.pool.length oc, .slice da s.dues.length dc, .slice ta s.motions.length tc, .slice ka s.marks.length kc, .slice ra s.ring.length rc⟩, 41⟩ :: L) h1)
      (fun q => [(5, .int .i64 q.1), (1, .pointer (some ⟨b1, 0, none⟩)), (2, .pointer (some ⟨b2, 0, none⟩)), (3, .pointer (some ⟨b3, 0, none⟩))])
      (fun q => oent 22 1 q.2 (colU DepD.amt s.pool q.1) (⟨b3, 136, [.int .u64 s.most, .int .u64 s.gen, .int .u64 s.mint, .int .u64 s.burn, .int .u64 s.treas, (.slice ta1 s.members.length tc1), .slice pa s.purses.length pc, (ovs q.2 q.1), .slice none 0 0], 9⟩ :: ⟨b2, 136, [.int .u64 0, .int .u64 0, .int .u64 0, .int .u64 0, .int .u64 0, .slice none 0 0, .slice none 0 0, .slice none 0 0, .slice none 0 0], 9⟩ :: ⟨b1, 49, stC s ⟨.slice pa s.purses.length pc, .slice ma s.members.length mc, .slice ea s.entry.length ec, .slice xa s.exit.length xc, .slice oa s.pool.length oc, .slice da s.dues.length dc, .slice ta s.motions.length tc, .slice ka s.marks.length kc, .slice ra s.ring.length rc⟩, 41⟩ :: L)) (fun _ => h1) (fun q => s.pool.length - q.1) ?_ ?_ ?_ ?_
    · exact ⟨Nat.zero_le _, rfl, trivial⟩
    · simp [Ent, List.lookup, ovs]
    · rw [er1, eh1]
      exact pub_drop_o _ _ _ _ (by decide)
    rintro ⟨k, o⟩ ⟨k1, k2, k3⟩
    simp only at k1 k2 k3 ⊢
    have m3 : apB o b3 := k3.head
    have m2 : apB o b2 := (apO_tail k3).head
    have m1 : apB o b1 := (apO_tail (apO_tail k3)).head
    by_cases c1 : k < s.pool.length
    · simp -dsimp -implicitDefEqProofs (disch := first | with_reducible assumption | omega) [go_sem, xFind_oent m3, xFind_oent m2, xFind_oent m1]
      refine xanyl (.tk 0 (.tk 2 (.tk 4 (.tkl 1 (.tkl 3 (.tk 5 (.tk 6 (.tkl 7 (.or true 8 (.or true 9 (.tk 10 (.or false 11 (.fin) (.nil))) (.nil)) (.nil)))))))))) (by kernel_rfl) (by kernel_rfl) _ (Drop.oent _ _ _ _ _ _) ?_
      simp -dsimp -implicitDefEqProofs (disch := first | with_reducible assumption | omega) [go_sem, xFind_oent m3, xFind_oent m2, xFind_oent m1, ↓idxR zeroDep (by decide) ho]
      refine (Recs.fld zeroDep ho (j := k) (o := 2) c1 (u := .int .u64 (gr zeroDep s.pool k).amt) rfl _ _ _).mpr ?_
      simp -dsimp -implicitDefEqProofs (disch := first | with_reducible assumption | omega) [go_sem, xFind_oent m3, xFind_oent m2, xFind_oent m1]
      refine xnew fun b4 n_b4 h_b4 => ?_
      try simp only [Apart] at n_b4
      have n4 := apart_oent n_b4
      simp only [Apart] at n4
      obtain ⟨n43, n42, n41, _⟩ := n4
      refine xkp (Drop.trans (Drop.tail _ _ _) (Drop.oent _ _ _ _ _ _)) ?_
      simp -dsimp -implicitDefEqProofs (disch := first | with_reducible assumption | omega) [go_sem]
      refine xappend (t := 25) (e := 22) (sz := 1) (bytes := 8) (by kernel_rfl) tI_22 rfl rfl rfl rfl (by decide) [_] _ o k (colU DepD.amt s.pool k) k2 (colU_len k1) (Src.own (b := b4) List.mem_cons_self) (m := 1) (news := [.int .u64 (gr zeroDep s.pool k).amt]) rfl (by intro u hu; simp only [List.mem_singleton] at hu; subst hu; rfl) (by simp [maxLen]; omega) (by omega) ?_
      intro o' j1 j2 j3
      have j4 := apO_tail j2
      have m3' : apB o' b3 := j4.head
      simp -dsimp -implicitDefEqProofs (disch := first | with_reducible assumption | omega) [go_sem]
      refine xkp (Drop.trans (Drop.tail _ _ _) (Drop.oent _ _ _ _ _ _)) ?_
      simp -dsimp -implicitDefEqProofs (disch := first | with_reducible assumption | omega) [go_sem, xSet_oent m3']
      refine ⟨k + 1, o', ⟨by omega, j1, ?_⟩, by omega, by simp [Ent, List.lookup], ?_⟩
      · cases o' with
        | none => trivial
        | some p => exact ⟨⟨j4.1.1, j4.1.2⟩, j4.2⟩
      · rw [colU_succ zeroDep c1]
        exact Drop.tail _ _ _
    · have hkl : k = s.pool.length := by omega
      subst hkl
      obtain ⟨h3, eh3⟩ : ∃ h3, h3 = pubO h1 o (colU DepD.amt s.pool s.pool.length) := ⟨_, rfl⟩
      have g3 : Ints h3 .u64 (ovs o s.pool.length) (s.pool.map DepD.amt) := by rw [eh3]; exact pubO_ints k2 fo fun x hx => (hs.oo x hx).a
      have le3 : PH.le h1 h3 := by rw [eh3]; exact pub_le_o k3 _
      have y3 : h3 b3 = noC := by rw [eh3]; exact pubO_noC m3 w3
      have y2 : h3 b2 = noC := by rw [eh3]; exact pubO_noC m2 w2
      have y1 : h3 b1 = noC := by rw [eh3]; exact pubO_noC m1 w1
      have hd : Recs dueC 3 h3 (.slice da s.dues.length dc) s.dues := hd0.up (le1.trans le3)
      obtain ⟨ta3, tc3, er3, _⟩ := g3.open
      rw [List.length_map] at er3
      simp -dsimp -implicitDefEqProofs (disch := first | with_reducible assumption | omega) [go_sem, xFind_oent m3, xFind_oent m2, xFind_oent m1]
      refine xloop (γ := Nat × Option (Nat × Nat)) (0, none) (fun q => q.1 ≤ s.dues.length ∧ okO q.2 q.1 ∧ apO q.2 (⟨b3, 136, [.int .u64 s.most, .int .u64 s.gen, .int .u64 s.mint, .int .u64 s.burn, .int .u64 s.treas, (.slice ta1 s.members.length tc1), .slice pa s.purses.length pc, (.slice ta3 s.pool.length tc3), (ovs q.2 q.1)], 9⟩ :: ⟨b2, 136, [.int .u64 0, .int .u64 0, .int .u64 0, .int .u64 0, .int .u64 0, .slice none 0 0, .slice none 0 0, .slice none 0 0, .slice none 0 0], 9⟩ :: ⟨b1, 49, stC s ⟨.slice pa s.purses.length pc, .slice ma s.members.length mc, .slice ea s.entry.length ec, .slice xa s.exit.length xc, .slice oa s.pool.length oc, .slice da s.dues.length dc, .slice ta s.motions.length tc, .slice ka s.marks.length kc, .slice ra s.ring.length rc⟩, 41⟩ :: L) h3)
        (fun q => [(6, .int .i64 q.1), (1, .pointer (some ⟨b1, 0, none⟩)), (2, .pointer (some ⟨b2, 0, none⟩)), (3, .pointer (some ⟨b3, 0, none⟩))])
        (fun q => oent 22 1 q.2 (colU DueD.amt s.dues q.1) (⟨b3, 136, [.int .u64 s.most, .int .u64 s.gen, .int .u64 s.mint, .int .u64 s.burn, .int .u64 s.treas, (.slice ta1 s.members.length tc1), .slice pa s.purses.length pc, (.slice ta3 s.pool.length tc3), (ovs q.2 q.1)], 9⟩ :: ⟨b2, 136, [.int .u64 0, .int .u64 0, .int .u64 0, .int .u64 0, .int .u64 0, .slice none 0 0, .slice none 0 0, .slice none 0 0, .slice none 0 0], 9⟩ :: ⟨b1, 49, stC s ⟨.slice pa s.purses.length pc, .slice ma s.members.length mc, .slice ea s.entry.length ec, .slice xa s.exit.length xc, .slice oa s.pool.length oc, .slice da s.dues.length dc, .slice ta s.motions.length tc, .slice ka s.marks.length kc, .slice ra s.ring.length rc⟩, 41⟩ :: L)) (fun _ => h3) (fun q => s.dues.length - q.1) ?_ ?_ ?_ ?_
      · exact ⟨Nat.zero_le _, rfl, trivial⟩
      · simp [Ent, List.lookup, ovs]
      · rw [er3, eh3]
        exact pub_drop_o _ _ _ _ (by decide)
      rintro ⟨k, o⟩ ⟨k1, k2, k3⟩
      simp only at k1 k2 k3 ⊢
      have m3 : apB o b3 := k3.head
      have m2 : apB o b2 := (apO_tail k3).head
      have m1 : apB o b1 := (apO_tail (apO_tail k3)).head
      by_cases c1 : k < s.dues.length
      · simp -dsimp -implicitDefEqProofs (disch := first | with_reducible assumption | omega) [go_sem, xFind_oent m3, xFind_oent m2, xFind_oent m1]
        refine xanyl (.tk 0 (.tk 2 (.tk 4 (.tkl 1 (.tkl 3 (.tk 5 (.tk 6 (.tkl 7 (.or true 8 (.or true 9 (.tk 10 (.or false 11 (.fin) (.nil))) (.nil)) (.nil)))))))))) (by kernel_rfl) (by kernel_rfl) _ (Drop.oent _ _ _ _ _ _) ?_
        simp -dsimp -implicitDefEqProofs (disch := first | with_reducible assumption | omega) [go_sem, xFind_oent m3, xFind_oent m2, xFind_oent m1, ↓idxR zeroDue (by decide) hd]
        refine (Recs.fld zeroDue hd (j := k) (o := 2) c1 (u := .int .u64 (gr zeroDue s.dues k).amt) rfl _ _ _).mpr ?_
        simp -dsimp -implicitDefEqProofs (disch := first | with_reducible assumption | omega) [go_sem, xFind_oent m3, xFind_oent m2, xFind_oent m1]
        refine xnew fun b4 n_b4 h_b4 => ?_
        try simp only [Apart] at n_b4
        have n4 := apart_oent n_b4
        simp only [Apart] at n4
        obtain ⟨n43, n42, n41, _⟩ := n4
        refine xkp (Drop.trans (Drop.tail _ _ _) (Drop.oent _ _ _ _ _ _)) ?_
        simp -dsimp -implicitDefEqProofs (disch := first | with_reducible assumption | omega) [go_sem]
        refine xappend (t := 25) (e := 22) (sz := 1) (bytes := 8) (by kernel_rfl) tI_22 rfl rfl rfl rfl (by decide) [_] _ o k (colU DueD.amt s.dues k) k2 (colU_len k1) (Src.own (b := b4) List.mem_cons_self) (m := 1) (news := [.int .u64 (gr zeroDue s.dues k).amt]) rfl (by intro u hu; simp only [List.mem_singleton] at hu; subst hu; rfl) (by simp [maxLen]; omega) (by omega) ?_
        intro o' j1 j2 j3
        have j4 := apO_tail j2
        have m3' : apB o' b3 := j4.head
        simp -dsimp -implicitDefEqProofs (disch := first | with_reducible assumption | omega) [go_sem]
        refine xkp (Drop.trans (Drop.tail _ _ _) (Drop.oent _ _ _ _ _ _)) ?_
        simp -dsimp -implicitDefEqProofs (disch := first | with_reducible assumption | omega) [go_sem, xSet_oent m3']
        refine ⟨k + 1, o', ⟨by omega, j1, ?_⟩, by omega, by simp [Ent, List.lookup], ?_⟩
        · cases o' with
          | none => trivial
          | some p => exact ⟨⟨j4.1.1, j4.1.2⟩, j4.2⟩
        · rw [colU_succ zeroDue c1]
          exact Drop.tail _ _ _
      · have hkl : k = s.dues.length := by omega
        subst hkl
        simp -dsimp -implicitDefEqProofs (disch := first | with_reducible assumption | omega) [go_sem, xFind_oent m3, xFind_oent m2, xFind_oent m1, xSet_oent m2]
        rw [er1] at g1
        rw [er3] at g3
        exact fin_pub (n := s.dues.length) k2 (colU_len (Nat.le_refl _)) (by omega) k3 fun h' le sl => fin_tail (fin_tail (fin_tail (fin_here (hk h' _ _ _ _ ((le1.trans le3).trans le) ⟨hs.ok, g1.up (le3.trans le), hp.up ((le1.trans le3).trans le), g3.up le, colU_ints sl fun x hx => (hs.dd x hx).a⟩))))
end Go.X

/- Lemmas and contracts for a statement about the given program. Conditions: as each says. -/
import Derived.Test.YtkmojeioedjfkaaGreatQ37
import Derived.Test.YtkmojeioedjfkaaGreatQ42
set_option linter.unusedVariables false
set_option linter.unusedSimpArgs false
set_option maxHeartbeats 12800000
set_option maxRecDepth 20000
namespace Go.X
open Go.RowKit Go.Proofs Go.Bl
variable {L : Own} {h : PH} {K : PK}
theorem rown24_any {s : StD} (v : SV) (hs : IsSt h v s) (few : OwnFew s)
  (hk : ∀ (h' : PH) (u : SV) (om ox : Option (Nat × Nat)), PH.le h h' → okO om s.members.length → okO ox s.exit.length → IsSt h' (setMX u (.slice none 0 0) (.slice none 0 0)) (noMX s) → K (stV s (setMX u (ovs om s.members.length) (ovs ox s.exit.length))) (oent 3 1 ox (s.exit.map (.int .i64)) (oent 128 6 om (s.members.flatMap memC) L)) h') : Spec Tryz.prog 69 [stV s v] L h K := by
 obtain ⟨pa, pc, ma, mc, ea, ec, xa, xc, oa, oc, da, dc, ta, tc, ka, kc, ra, rc, rfl⟩ := hs.slices
 have fm := few.m
 have fp := few.p
 have fe := few.e
 have fx := few.x
 refine x_enter Tryz.func69 rfl (rs := [_]) rfl rfl mixed (by kernel_rfl) rfl rfl ?_
 simp -dsimp -implicitDefEqProofs (disch := first|with_reducible assumption|omega) [go_sem]
 refine xnew fun b1 n_b1 h_b1 => ?_
 try simp only [Apart] at n_b1
 simp -dsimp -implicitDefEqProofs (disch := first|with_reducible assumption|omega) [go_sem]
 refine xnew fun b2 n_b2 h_b2 => ?_
 try simp only [Apart] at n_b2
 simp -dsimp -implicitDefEqProofs (disch := first|with_reducible assumption|omega) [go_sem]
 refine xappend (t := 26) (e := 23) (sz := 1) (bytes := 8) (by kernel_rfl) tI_23 rfl rfl rfl rfl (by decide) [] _ none 0 [] rfl rfl (Src.known hs.p.1) (news := s.purses.map (.int .u64)) (by simp) (ints_one _ _) (by simp [maxLen]; omega) (by omega) ?_
 intro op k1 k2 k3
 simp only [Nat.zero_add, List.nil_append] at k1 k2 ⊢
 have p2 : apB op b2 := k2.head
 have p1 : apB op b1 := (apO_tail k2).head
 obtain ⟨pa1, pc1, ep, _⟩ := ovs_open k1
 simp -dsimp -implicitDefEqProofs (disch := first|with_reducible assumption|omega) [go_sem, xSet_oent p1, xFind_oent p1, ep]
 refine xact_weaken (pub_drop_o (e := 23) (sz := 1) op (s.purses.map (.int .u64)) _ h (by decide)) ?_
 have le1 := pub_le_o k2 (s.purses.map (.int .u64))
 have sl1 := pub_sl (h := h) (sz := 1) (n := s.purses.length) (o := op) (xs := s.purses.map (.int .u64)) k1 (by simp) (by omega)
 have q1 := pubO_noC (xs := s.purses.map (.int .u64)) p1 h_b1
 have q2 := pubO_noC (xs := s.purses.map (.int .u64)) p2 h_b2
 rw [ep] at sl1
 generalize pubO h op (s.purses.map (.int .u64)) = h1 at le1 sl1 q1 q2 ⊢
 refine xappend (t := 58) (e := 128) (sz := 6) (bytes := 48) (by kernel_rfl) tI_128 rfl rfl rfl rfl (by decide) [] _ none 0 [] rfl rfl (Src.known (hs.m.up le1).s) (news := s.members.flatMap memC) (flatG_len memC_len _) (flatI_one memC_one _) (by simp [maxLen]; omega) (by omega) ?_
 intro om k4 k5 k6
 simp only [Nat.zero_add, List.nil_append] at k4 k5 ⊢
 have m2 : apB om b2 := k5.head
 have m1 : apB om b1 := (apO_tail k5).head
 obtain ⟨ma1, mc1, em, _⟩ := ovs_open k4
 simp -dsimp -implicitDefEqProofs (disch := first|with_reducible assumption|omega) [go_sem, xSet_oent m1, xFind_oent m1, em]
 refine xappend (t := 34) (e := 3) (sz := 1) (bytes := 8) (by kernel_rfl) tI_3 rfl rfl rfl rfl (by decide) [] (oent 128 6 om (s.members.flatMap memC) (_ :: _ :: L)) none 0 [] rfl rfl (Src.known (hs.e.up le1).1) (news := s.entry.map (.int .i64)) (by simp) (ints_one _ _) (by simp [maxLen]; omega) (by omega) ?_
 intro oe k7 k8 k9
 simp only [Nat.zero_add, List.nil_append] at k7 k8 ⊢
 have k8' := apO_oent k8
 have e2 : apB oe b2 := k8'.head
 have e1 : apB oe b1 := (apO_tail k8').head
 obtain ⟨ea1, ec1, ee, _⟩ := ovs_open k7
 simp -dsimp -implicitDefEqProofs (disch := first|with_reducible assumption|omega) [go_sem, xSet_oent e1, xFind_oent e1, xSet_oent m1, xFind_oent m1, ee]
 refine xact_weaken (pub_drop_o (e := 3) (sz := 1) oe (s.entry.map (.int .i64)) _ h1 (by decide)) ?_
 have le2 := pub_le_o k8' (s.entry.map (.int .i64))
 have sl2 := pub_sl (h := h1) (sz := 1) (n := s.entry.length) (o := oe) (xs := s.entry.map (.int .i64)) k7 (by simp) (by omega)
 have r1 := pubO_noC (xs := s.entry.map (.int .i64)) e1 q1
 have r2 := pubO_noC (xs := s.entry.map (.int .i64)) e2 q2
 rw [ee] at sl2
 generalize pubO h1 oe (s.entry.map (.int .i64)) = h2 at le2 sl2 r1 r2 ⊢
 refine xappend (t := 34) (e := 3) (sz := 1) (bytes := 8) (by kernel_rfl) tI_3 rfl rfl rfl rfl (by decide) [] (oent 128 6 om (s.members.flatMap memC) (_ :: _ :: L)) none 0 [] rfl rfl (Src.known (hs.x.up (le1.trans le2)).1) (news := s.exit.map (.int .i64)) (by simp) (ints_one _ _) (by simp [maxLen]; omega) (by omega) ?_
 intro ox k10 k11 k12
 simp only [Nat.zero_add, List.nil_append] at k10 k11 ⊢
 have k11' := apO_oent k11
 have x2 : apB ox b2 := k11'.head
 have x1 : apB ox b1 := (apO_tail k11').head
 obtain ⟨xa1, xc1, ex, _⟩ := ovs_open k10
 simp -dsimp -implicitDefEqProofs (disch := first|with_reducible assumption|omega) [go_sem, xSet_oent x1, xFind_oent x1, xSet_oent m1, xFind_oent m1, xSet_oent x2, xFind_oent x2, xSet_oent m2, xFind_oent m2, ex]
 have hu := hs.up (le1.trans le2)
 have i1 : Ints h2 .u64 (.slice pa1 s.purses.length pc1) s.purses := ⟨sl1.up le2, hs.p.2⟩
 have i2 : Ints h2 .i64 (.slice ea1 s.entry.length ec1) s.entry := ⟨sl2, hs.e.2⟩
 have hS : IsSt h2 (setMX ⟨.slice pa1 s.purses.length pc1, .slice none 0 0, .slice ea1 s.entry.length ec1, .slice none 0 0, .slice oa s.pool.length oc, .slice da s.dues.length dc, .slice ta s.motions.length tc, .slice ka s.marks.length kc, .slice ra s.ring.length rc⟩ (.slice none 0 0) (.slice none 0 0)) (noMX s) :=
  { ok := ⟨hs.ok.p, hs.ok.u, hs.ok.n⟩, p := i1, m := Recs.nil memC_len _, mo := (fun x hx => by cases hx), e := i2, x := nil_ints _ .i64, o := hu.o, oo := hs.oo, d := hu.d, dd := hs.dd, t := hu.t, k := hu.k, r := hu.r }
 refine ⟨_, _, oent_drop3, ?_⟩
 rw [← em, ← ex]
 exact hk h2 ⟨.slice pa1 s.purses.length pc1, .slice none 0 0, .slice ea1 s.entry.length ec1, .slice none 0 0, .slice oa s.pool.length oc, .slice da s.dues.length dc, .slice ta s.motions.length tc, .slice ka s.marks.length kc, .slice ra s.ring.length rc⟩ om ox (le1.trans le2) k4 k10 hS
end Go.X

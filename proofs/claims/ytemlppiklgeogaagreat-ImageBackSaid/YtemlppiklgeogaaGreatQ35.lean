/- Part of the proof of a statement about the given program: lemmas and contracts. Conditions: as each says. -/
import Derived.Test.YtemlppiklgeogaaGreatQ31
import Derived.Test.YtemlppiklgeogaaGreatQ32
/- The law ImageBack: what is encoded is decoded as it was; cut off it is not all there; with a byte more it is refused. Conditions: none. -/
set_option linter.unusedVariables false
set_option linter.unusedSimpArgs false
set_option maxRecDepth 20000
namespace Go.X
open Go.RowKit Go.Proofs Go.Bl
variable {L : Own} {h : PH} {K : PK}
theorem encS_pos (s : StD) : 0 < (encS s).length := by
  have := formN_pos s.ep.toNat
  unfold encS
  simp only [List.length_append]
  omega
set_option maxHeartbeats 6400000 in
theorem ienc2_any {s : StD} (v : SV) (hs : IsSt h v s) (few : FewS s) (hw : fitsS s = true → StW s) (hb : ∀ z ∈ encS s, 0 ≤ z ∧ z ≤ 255)
    (hk : ∀ h' r, PH.le h h' → (fitsS s = true → Ints h' .u8 r (encS s) ∧ (encS s).length ≤ 90000) → (fitsS s = false → r = .slice none 0 0) → K (.tuple #[r, .int .i64 (if fitsS s then 0 else 291)]) L h') :
    Spec Tryz.prog 14 [stV s v] L h K := by
  obtain ⟨pa, pc, ma, mc, ea, ec, xa, xc, oa, oc, da, dc, ta, tc, ka, kc, ra, rc, rfl⟩ := hs.slices
  refine x_enter Tryz.func14 rfl (rs := [_, _]) rfl rfl mixed (by kernel_rfl) rfl rfl ?_
  simp -dsimp -implicitDefEqProofs (disch := first | with_reducible assumption | omega) [go_sem]
  refine xnew fun b1 n_b1 h_b1 => ?_
  try simp only [Apart] at n_b1
  simp -dsimp -implicitDefEqProofs (disch := first | with_reducible assumption | omega) [go_sem]
  refine fits_any (s := s) ⟨.slice pa s.purses.length pc, .slice ma s.members.length mc, .slice ea s.entry.length ec, .slice xa s.exit.length xc, .slice oa s.pool.length oc, .slice da s.dues.length dc, .slice ta s.motions.length tc, .slice ka s.marks.length kc, .slice ra s.ring.length rc⟩ hs few ?_
  cases f1 : fitsS s with
  | false =>
    have := hk h (.slice none 0 0) (PH.le_refl _) (fun e => by rw [f1] at e; cases e) (fun _ => rfl)
    rw [f1] at this
    simp -dsimp -implicitDefEqProofs (disch := first | with_reducible assumption | omega) [go_sem]
    exact fin_tail (fin_here this)
  | true =>
    simp -dsimp -implicitDefEqProofs (disch := first | with_reducible assumption | omega) [go_sem]
    refine xnew fun b4 n_b4 h_b4 => ?_
    try simp only [Apart] at n_b4
    simp -dsimp -implicitDefEqProofs (disch := first | with_reducible assumption | omega) [go_sem, xMI_ptr (show Tryz.prog.underlying 124 = some (.pointer 130) by kernel_rfl)]
    refine Spec.apn (through_w (bw := b4) (b1 := b1) (o := none) (B := []) [stB b1 s ⟨.slice pa s.purses.length pc, .slice ma s.members.length mc, .slice ea s.entry.length ec, .slice xa s.exit.length xc, .slice oa s.pool.length oc, .slice da s.dues.length dc, .slice ta s.motions.length tc, .slice ka s.marks.length kc, .slice ra s.ring.length rc⟩] ⟨.slice pa s.purses.length pc, .slice ma s.members.length mc, .slice ea s.entry.length ec, .slice xa s.exit.length xc, .slice oa s.pool.length oc, .slice da s.dues.length dc, .slice ta s.motions.length tc, .slice ka s.marks.length kc, .slice ra s.ring.length rc⟩ List.mem_cons_self hs (hw f1) rfl (by decide) fun h2 o2 B2 le2 e2 k2 l2 ap nd => ?_)
    obtain ⟨a4, ap⟩ := ap
    simp only at a4
    rw [List.nil_append] at e2
    subst e2
    simp -dsimp -implicitDefEqProofs (disch := first | with_reducible assumption | omega) [go_sem]
    refine woutG (T := 130) (s := (encS s, 0)) (by decide) [_] hb k2 (by simp only; omega) fun h3 r le3 i3 _ => ?_
    have i4 := i3 rfl
    obtain ⟨ra', rc', rfl, _⟩ := i4.open
    simp -dsimp -implicitDefEqProofs (disch := first | with_reducible assumption | omega) [go_sem]
    have hk1 := hk h3 _ (le2.trans le3) (fun _ => ⟨i4, l2⟩) (fun e => by rw [f1] at e; cases e)
    rw [f1] at hk1
    exact fin_tail (fin_tail (fin_oent (fin_here hk1)))
set_option maxHeartbeats 6400000 in
theorem imageback_any (w : Value) (cut mo : Int) (hS : ∃ q : SV × StD, w = stV q.2 q.1 ∧ IsSt h q.1 q.2) (hcut : -9223372036854775808 ≤ cut ∧ cut ≤ 9223372036854775807) (hmo : 0 ≤ mo ∧ mo ≤ 255) (hk : ∀ h', PH.le h h' → K (.bool true) L h') : Spec Tryz.prog 4 [w, .int .i64 cut, .int .u8 mo] L h K := by
  obtain ⟨⟨sv0, s⟩, rfl, hs0⟩ := hS
  simp only at hs0 ⊢
  obtain ⟨pa, pc, ma, mc, ea, ec, xa, xc, oa, oc, da, dc, ta, tc, ka, kc, ra, rc, rfl⟩ := hs0.slices
  refine x_enter Tryz.func4 rfl (rs := [_]) rfl rfl mixed (by kernel_rfl) rfl rfl ?_
  simp -dsimp -implicitDefEqProofs (disch := first | with_reducible assumption | omega) [go_sem]
  refine xnew fun b1 n_b1 h_b1 => ?_
  try simp only [Apart] at n_b1
  simp -dsimp -implicitDefEqProofs (disch := first | with_reducible assumption | omega) [go_sem]
  refine Spec.ap (awake26_any fun h1 le1 ap => ?_)
  simp only [Ap] at ap
  obtain ⟨a11, _⟩ := ap
  simp -dsimp -implicitDefEqProofs (disch := first | with_reducible assumption | omega) [go_sem]
  refine few24_any (s := s) ⟨.slice pa s.purses.length pc, .slice ma s.members.length mc, .slice ea s.entry.length ec, .slice xa s.exit.length xc, .slice oa s.pool.length oc, .slice da s.dues.length dc, .slice ta s.motions.length tc, .slice ka s.marks.length kc, .slice ra s.ring.length rc⟩ (hs0.up le1) ?_
  cases f1 : fewB s with
  | false =>
    simp -dsimp -implicitDefEqProofs (disch := first | with_reducible assumption | omega) [go_sem]
    exact fin_tail (fin_here (hk h1 le1))
  | true =>
  have fS := fewB_S f1
  have fd := few9_len (fewB_9 f1)
  by_cases c0 : cut < 0
  · simp -dsimp -implicitDefEqProofs (disch := first | with_reducible assumption | omega) [go_sem]
    exact fin_tail (fin_here (hk h1 le1))
  simp -dsimp -implicitDefEqProofs (disch := first | with_reducible assumption | omega) [go_sem]
  refine Spec.ap (ienc2_any (s := s) ⟨.slice pa s.purses.length pc, .slice ma s.members.length mc, .slice ea s.entry.length ec, .slice xa s.exit.length xc, .slice oa s.pool.length oc, .slice da s.dues.length dc, .slice ta s.motions.length tc, .slice ka s.marks.length kc, .slice ra s.ring.length rc⟩ (hs0.up le1) fS (fun hf => stw_of hs0 (by omega) hf) (encS_byte hs0) fun h2 r le2 i1 i2 ap => ?_)
  simp only [Ap] at ap
  obtain ⟨a21, _⟩ := ap
  have le02 := le1.trans le2
  cases f2 : fitsS s with
  | false =>
    have er := i2 f2
    subst er
    simp -dsimp -implicitDefEqProofs (disch := first | with_reducible assumption | omega) [go_sem]
    exact fin_tail (fin_here (hk h2 le02))
  | true =>
    obtain ⟨ir, hlen⟩ := i1 f2
    have ir0 := ir
    obtain ⟨y1, y2, rfl, y3, y4, _⟩ := ir0.open
    have hW := stp_of hs0 (by omega) f2
    have hb := encS_byte hs0
    have hpos := encS_pos s
    obtain ⟨cu, rfl⟩ := Int.eq_ofNat_of_zero_le (show 0 ≤ cut by omega)
    simp -dsimp -implicitDefEqProofs (disch := first | with_reducible assumption | omega) [go_sem]
    refine Spec.ap (idec_any _ ir (by omega) fun h3 w3 le3 id3 ap => ?_)
    simp only [Ap] at ap
    obtain ⟨a31, _⟩ := ap
    rw [decS_enc hW f2 hb] at id3 ⊢
    simp only at id3 ⊢
    obtain ⟨pa2, pc2, ma2, mc2, ea2, ec2, xa2, xc2, oa2, oc2, da2, dc2, ta2, tc2, ka2, kc2, ra2, rc2, rfl⟩ := id3.slices
    simp -dsimp -implicitDefEqProofs (disch := first | with_reducible assumption | omega) [go_sem]
    refine xnew fun b9 n_b9 h_b9 => ?_
    try simp only [Apart] at n_b9
    simp -dsimp -implicitDefEqProofs (disch := first | with_reducible assumption | omega) [go_sem]
    have hm : ((cu : Int) % ((encS s).length : Int)) = ((cu % (encS s).length : Nat) : Int) := (Int.natCast_emod _ _).symm
    have hkl := Nat.mod_lt cu hpos
    rw [hm]
    generalize cu % (encS s).length = kk at hkl ⊢
    have ip := ir.take kk (by omega)
    simp -dsimp -implicitDefEqProofs (disch := first | with_reducible assumption | omega) [go_sem]
    refine Spec.ap (idec_any _ (ip.up le3) (by rw [List.length_take]; omega) fun h4 w4 le4 id4 ap => ?_)
    simp only [Ap] at ap
    obtain ⟨a49, a41, _⟩ := ap
    rw [decS_cut hW hb hkl] at id4 ⊢
    simp only at id4 ⊢
    obtain ⟨pa4, pc4, ma4, mc4, ea4, ec4, xa4, xc4, oa4, oc4, da4, dc4, ta4, tc4, ka4, kc4, ra4, rc4, rfl⟩ := id4.slices
    simp -dsimp -implicitDefEqProofs (disch := first | with_reducible assumption | omega) [go_sem]
    refine xnew fun b11 n_b11 h_b11 => ?_
    try simp only [Apart] at n_b11
    simp -dsimp -implicitDefEqProofs (disch := first | with_reducible assumption | omega) [go_sem]
    refine xnew fun b50 n_b50 h_b50 => ?_
    try simp only [Apart] at n_b50
    simp -dsimp -implicitDefEqProofs (disch := first | with_reducible assumption | omega) [go_sem]
    refine xappend (t := 31) (e := 5) (sz := 1) (bytes := 1) (z := [.int .u8 0]) (by kernel_rfl) tI_5 rfl rfl rfl rfl (by decide) [] _ (some (b50, 0)) 0 [] ⟨Nat.le_refl _, Nat.zero_le _⟩ rfl (Src.known (ir.up (le3.trans le4)).1) (by simp) (ints_one _ _) (by simp [maxLen]; omega) (by omega) ?_
    intro o j1 j2 j3
    rw [Nat.zero_add] at j1 ⊢
    simp only [List.nil_append] at j2 ⊢
    simp -dsimp -implicitDefEqProofs (disch := first | with_reducible assumption | omega) [go_sem]
    refine xnew fun b54 n_b54 h_b54 => ?_
    try simp only [Apart] at n_b54
    simp -dsimp -implicitDefEqProofs (disch := first | with_reducible assumption | omega) [go_sem]
    refine xappend (t := 31) (e := 5) (sz := 1) (bytes := 1) (z := [.int .u8 0]) (by kernel_rfl) tI_5 rfl rfl rfl rfl (by decide) [_] _ o (encS s).length ((encS s).map (.int .u8)) j1 (by simp) (Src.own List.mem_cons_self) (m := 1) (news := [.int .u8 mo]) rfl (by intro u hu; simp only [List.mem_singleton] at hu; subst hu; rfl) (by simp [maxLen]; omega) (by omega) ?_
    intro o2 m1 m2 m3
    simp only [List.cons_append, List.nil_append] at m2 ⊢
    simp -dsimp -implicitDefEqProofs (disch := first | with_reducible assumption | omega) [go_sem]
    refine call_drop ?_
    refine call_pub (n := (encS s).length + 1) m1 (by simp) (by omega) (apO_tail m2) fun h5 le5 sl => ?_
    have hb2 : Byt (encS s ++ [mo]) := fun z hz => by
      rcases List.mem_append.1 hz with hz | hz
      · exact hb z hz
      · rw [List.mem_singleton.1 hz]; exact hmo
    have ix : Ints h5 .u8 (ovs o2 ((encS s).length + 1)) (encS s ++ [mo]) := by
      have := form_ints (b := encS s ++ [mo]) (o := o2) (h := h5) hb2 (by simpa using sl)
      simpa using this
    refine Spec.ap (idec_any _ ix (by rw [List.length_append, List.length_singleton]; omega) fun h6 w6 le6 id6 ap => ?_)
    simp only [Ap] at ap
    obtain ⟨a6b, a69, a61, _⟩ := ap
    rw [decS_more hW hb hmo] at id6 ⊢
    simp only at id6 ⊢
    obtain ⟨pa6, pc6, ma6, mc6, ea6, ec6, xa6, xc6, oa6, oc6, da6, dc6, ta6, tc6, ka6, kc6, ra6, rc6, rfl⟩ := id6.slices
    simp -dsimp -implicitDefEqProofs (disch := first | with_reducible assumption | omega) [go_sem]
    refine xnew fun b13 n_b13 h_b13 => ?_
    try simp only [Apart] at n_b13
    simp -dsimp -implicitDefEqProofs (disch := first | with_reducible assumption | omega) [go_sem]
    refine xanyl (.tk 0 (.tk 1 (.tk 2 (.tkl 3 (.tkl 5 (.or true 4 (.or true 6 (.or true 7 (.tk 8 (.tk 9 (.tkl 10 (.or true 11 (.tk 12 (.tk 13 (.tk 14 (.tk 15 (.tk 16 (.tk 17 (.tk 18 (.tk 19 (.tk 20 (.tk 21 (.fin))))))))))) (.nil))))) (.nil)) (.nil)) (.nil))))))) (by kernel_rfl) (by kernel_rfl) [⟨b9, 34, stC s ⟨.slice pa2 s.purses.length pc2, .slice ma2 s.members.length mc2, .slice ea2 s.entry.length ec2, .slice xa2 s.exit.length xc2, .slice oa2 s.pool.length oc2, .slice da2 s.dues.length dc2, .slice ta2 s.motions.length tc2, .slice ka2 s.marks.length kc2, .slice ra2 s.ring.length rc2⟩, 41⟩, ⟨b1, 34, stC s ⟨.slice pa s.purses.length pc, .slice ma s.members.length mc, .slice ea s.entry.length ec, .slice xa s.exit.length xc, .slice oa s.pool.length oc, .slice da s.dues.length dc, .slice ta s.motions.length tc, .slice ka s.marks.length kc, .slice ra s.ring.length rc⟩, 41⟩] (Drop.sub (.cons _ (.cons _ (.cons_cons _ (.cons_cons _ (List.nil_sublist _)))))) ?_
    simp -dsimp -implicitDefEqProofs (disch := first | with_reducible assumption | omega) [go_sem]
    have le36 := le4.trans (le5.trans le6)
    refine plain24_any (s := s) (v := ⟨.slice pa2 s.purses.length pc2, .slice ma2 s.members.length mc2, .slice ea2 s.entry.length ec2, .slice xa2 s.exit.length xc2, .slice oa2 s.pool.length oc2, .slice da2 s.dues.length dc2, .slice ta2 s.motions.length tc2, .slice ka2 s.marks.length kc2, .slice ra2 s.ring.length rc2⟩) (id3.up le36) fS.m fS.o fS.d fS.t fun h7 u7 le7 is7 => ?_
    refine xkp ((Drop.forget le7).trans (Drop.sub (.cons _ (.cons _ (.cons_cons _ (.cons_cons _ (List.nil_sublist _))))))) ?_
    simp -dsimp -implicitDefEqProofs (disch := first | with_reducible assumption | omega) [go_sem]
    refine plain24_any (s := s) (v := ⟨.slice pa s.purses.length pc, .slice ma s.members.length mc, .slice ea s.entry.length ec, .slice xa s.exit.length xc, .slice oa s.pool.length oc, .slice da s.dues.length dc, .slice ta s.motions.length tc, .slice ka s.marks.length kc, .slice ra s.ring.length rc⟩) (hs0.up ((le02.trans le3).trans (le36.trans le7))) fS.m fS.o fS.d fS.t fun h8 u8 le8 is8 => ?_
    refine xkp ((Drop.forget (le7.trans le8)).trans (Drop.sub (.cons _ (.cons _ (.cons_cons _ (.cons_cons _ (List.nil_sublist _))))))) ?_
    simp -dsimp -implicitDefEqProofs (disch := first | with_reducible assumption | omega) [go_sem]
    refine same24_like (is7.up le8) is8 ?_
    refine xkp ((Drop.forget (le7.trans le8)).trans (Drop.sub (.cons _ (.cons _ (.cons_cons _ (.cons_cons _ (List.nil_sublist _))))))) ?_
    simp -dsimp -implicitDefEqProofs (disch := first | with_reducible assumption | omega) [go_sem]
    refine fits_any (s := s) ⟨.slice pa2 s.purses.length pc2, .slice ma2 s.members.length mc2, .slice ea2 s.entry.length ec2, .slice xa2 s.exit.length xc2, .slice oa2 s.pool.length oc2, .slice da2 s.dues.length dc2, .slice ta2 s.motions.length tc2, .slice ka2 s.marks.length kc2, .slice ra2 s.ring.length rc2⟩ (id3.up (le36.trans (le7.trans le8))) fS ?_
    rw [f2]
    refine xkp ((Drop.forget (le7.trans le8)).trans (Drop.sub (.cons _ (.cons _ (.cons_cons _ (.cons_cons _ (List.nil_sublist _))))))) ?_
    simp -dsimp -implicitDefEqProofs (disch := first | with_reducible assumption | omega) [go_sem]
    exact fin_tail (fin_tail (fin_tail (fin_tail (fin_here (hk h8 ((le02.trans le3).trans (le36.trans (le7.trans le8))))))))
end Go.X

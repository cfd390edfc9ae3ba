/- Lemmas and contracts for a statement about the given program. Conditions: as each says. -/
import Derived.Test.YtmkekhodcacfbaaGreatQ37
import Derived.Test.YtmkekhodcacfbaaGreatQ39
set_option linter.unusedVariables false
set_option linter.unusedSimpArgs false
set_option maxHeartbeats 12800000
set_option maxRecDepth 20000
namespace Go.X
open Go.RowKit Go.Proofs Go.Bl
variable {L : Own} {h : PH} {K : PK}
theorem of1_any (x : SlD) (i : Int) (b : Nat) (hb : (⟨b, 3, [.int .i64 i], 1⟩ : Blk) ∈ L) (hk : K (.bool (decide (x.mem = i))) L h) : Spec Tryz.prog 36 [slV x, .pointer (some ⟨b, 0, none⟩)] L h K := by
 refine Spec.frame1 hb ?_ hk
 refine x_enterA Tryz.func36 rfl (rs := [_]) rfl rfl mixed (by kernel_rfl) rfl rfl fun ap nd => ?_
 have hn : h b = noC := ap.1
 clear ap nd
 simp -dsimp -implicitDefEqProofs (disch := first|with_reducible assumption|omega) [go_sem]
 refine xnew fun b2 n_b2 h_b2 => ?_
 try simp only [Apart] at n_b2
 simp -dsimp -implicitDefEqProofs (disch := first|with_reducible assumption|omega) [go_sem]
 exact fin_tail (fin_here ⟨rfl, rfl, rfl⟩)
def memsL (l : List SlD) : List Int := l.map SlD.mem
theorem memsL_at {l : List SlD} {k : Nat} (hk : k < l.length) : at0 (memsL l) k = (gr zeroSl l k).mem := by
 rw [← at0_lt (by simpa [memsL] using hk), gr_lt hk]
 simp [memsL]
theorem sidx_any {l : List SlD} (v : Value) (hd0 : Recs slC 8 h v l) (hl : l.length ≤ 1000) (i : Int) (b : Nat) (hb : (⟨b, 3, [.int .i64 i], 1⟩ : Blk) ∈ L) (hk : K (.int .i64 (fI (memsL l) i)) L h) :
  Spec Tryz.prog 35 [v, .func (.func 36) #[] #[.pointer (some ⟨b, 0, none⟩)]] L h K := by
 obtain ⟨a, c, rfl, hc, hln, _, hd⟩ := hd0.open
 have hml : (memsL l).length = l.length := by simp [memsL]
 refine x_enter Tryz.func35 rfl (rs := [_]) rfl rfl mixed (by kernel_rfl) rfl rfl ?_
 simp -dsimp -implicitDefEqProofs (disch := first|with_reducible assumption|omega) [go_sem]
 refine xloop' (0 : Nat) (fun k => k ≤ l.length ∧ ∀ j, j < k → at0 (memsL l) j ≠ i) (fun k => [(8, .int .i64 k), (7, .int .i64 l.length), (0, .slice a l.length c), (1, .func (.func 36) #[] #[.pointer (some ⟨b, 0, none⟩)])]) (fun k => l.length - k) ?_ ?_ ?_
 ·exact ⟨Nat.zero_le _, fun j hj => by omega⟩
 ·simp [Ent, List.lookup, xEnv]
 rintro k ⟨k1, k2⟩
 by_cases c1 : k < l.length
 ·have hm := memsL_at c1
  simp -dsimp -implicitDefEqProofs (disch := first|with_reducible assumption|omega) [go_sem, ↓idxR zeroSl (by decide) hd, slC]
  refine of1_any (gr zeroSl l k) i b hb ?_
  by_cases c2 : (gr zeroSl l k).mem = i
  ·have e := fI_at (xs := memsL l) (x := i) (k := k) (by omega) (by rw [hm]; exact c2) k2
   rw [decide_eq_true c2]
   simp -dsimp -implicitDefEqProofs (disch := first|with_reducible assumption|omega) [go_sem]
   rw [e] at hk
   exact fin_here hk
  ·rw [decide_eq_false c2]
   simp -dsimp -implicitDefEqProofs (disch := first|with_reducible assumption|omega) [go_sem]
   refine ⟨k + 1, ⟨by omega, fun j hj => ?_⟩, by omega, by simp [Ent, List.lookup], Drop.refl _ _⟩
   by_cases e : j = k
   ·subst e; rw [hm]; exact c2
   ·exact k2 j (by omega)
 ·have e := fI_no (xs := memsL l) (x := i) fun j hj => k2 j (by omega)
  rw [e] at hk
  simp -dsimp -implicitDefEqProofs (disch := first|with_reducible assumption|omega) [go_sem]
  exact fin_here hk
def ofP (s : StD) (i : Int) : SlD × Int := if slipsE s ≠ 0 then (zeroSl, slipsE s) else if 0 ≤ fI (memsL (slipsL s)) i then (gr zeroSl (slipsL s) (fI (memsL (slipsL s)) i).toNat, 0) else (zeroSl, 190)
theorem slipsL_len (s : StD) : (slipsL s).length ≤ s.members.length := by
 unfold slipsL
 split
 ·rw [List.length_map]; exact cP_len _ _
 ·exact Nat.zero_le _
theorem sof_any {s : StD} (v : SV) (hs0 : IsSt h v s) (few : FewS s) (fk : s.marks.length ≤ 1000) (fm : s.members.length ≤ 1000) (i : Int)
  (hk : ∀ h', PH.le h h' → K (.tuple #[slV (ofP s i).1, .int .i64 (ofP s i).2]) L h') : Spec Tryz.prog 11 [stV s v, .int .i64 i] L h K := by
 have hs := hs0
 obtain ⟨pa, pc, ma, mc, ea, ec, xa, xc, oa, oc, da, dc, ta, tc, ka, kc, ra, rc, rfl⟩ := hs.slices
 have hll := slipsL_len s
 unfold ofP at hk
 refine x_enter Tryz.func11 rfl (rs := [_, _]) rfl rfl mixed (by kernel_rfl) rfl rfl ?_
 simp -dsimp -implicitDefEqProofs (disch := first|with_reducible assumption|omega) [go_sem]
 refine xnew fun b1 n_b1 h_b1 => ?_
 try simp only [Apart] at n_b1
 simp -dsimp -implicitDefEqProofs (disch := first|with_reducible assumption|omega) [go_sem]
 refine xnew fun b2 n_b2 h_b2 => ?_
 try simp only [Apart] at n_b2
 simp -dsimp -implicitDefEqProofs (disch := first|with_reducible assumption|omega) [go_sem]
 refine xnew fun b3 n_b3 h_b3 => ?_
 try simp only [Apart] at n_b3
 simp -dsimp -implicitDefEqProofs (disch := first|with_reducible assumption|omega) [go_sem]
 refine Spec.ap (slips_any (s := s) ⟨.slice pa s.purses.length pc, .slice ma s.members.length mc, .slice ea s.entry.length ec, .slice xa s.exit.length xc, .slice oa s.pool.length oc, .slice da s.dues.length dc, .slice ta s.motions.length tc, .slice ka s.marks.length kc, .slice ra s.ring.length rc⟩ hs0 few fk fun h1 r1 le1 i1 ap => ?_)
 simp only [Ap] at ap
 obtain ⟨p3, p2, p1, _⟩ := ap
 have hk := hk h1 le1
 obtain ⟨ra, rc, rfl, hrc, hrl, _, hrd⟩ := i1.open
 by_cases c1 : slipsE s = 0
 ·rw [if_neg (by simpa using c1)] at hk
  simp -dsimp -implicitDefEqProofs (disch := first|with_reducible assumption|omega) [go_sem]
  refine sidx_any _ i1 (by omega) i b2 (by simp) ?_
  by_cases c2 : 0 ≤ fI (memsL (slipsL s)) i
  ·rw [if_pos c2] at hk
   obtain ⟨k, k1, k2, _⟩ := fI_get c2
   have hk1 : k < (slipsL s).length := by simpa [memsL] using k1
   rw [k2, Int.toNat_natCast] at hk
   rw [k2]
   simp -dsimp -implicitDefEqProofs (disch := first|with_reducible assumption|omega) [go_sem, ↓idxR zeroSl (by decide) hrd, slC]
   exact fin_tail (fin_tail (fin_tail (fin_here hk)))
  ·rw [if_neg c2] at hk
   simp -dsimp -implicitDefEqProofs (disch := first|with_reducible assumption|omega) [go_sem]
   exact fin_tail (fin_tail (fin_tail (fin_here hk)))
 ·rw [if_pos (by simpa using c1)] at hk
  simp -dsimp -implicitDefEqProofs (disch := first|with_reducible assumption|omega) [go_sem]
  exact fin_tail (fin_tail (fin_tail (fin_here hk)))
def simpM : StD := { simpS with marks := 3 :: List.replicate 15 0 }
theorem simpM_slips : slipsE simpM = 0 ∧ slipsL simpM = [⟨0, true, 2, 0, 0, 0, 0, 0⟩, ⟨1, true, 4, 4, 0, 0, 0, 0⟩] := by
 have h1 : slipsE simpM = 0 := by decide +kernel
 refine ⟨h1, ?_⟩
 decide +kernel
theorem simpM_few : FewS simpM := by
 constructor <;> first | decide | (intro x hx; cases hx)
theorem newS_simp : newS simpG = simpS := by
 have e := simp_new
 unfold newR at e
 rwa [simp_newB, if_pos rfl] at e
theorem simpM_ok : StOk simpM := ⟨simpP_ok, fun z hz => by
  simp only [simpM, simpS, List.mem_cons, List.not_mem_nil, or_false] at hz
  omega, fun z hz => by
  simp only [simpM, simpS, List.mem_cons, List.not_mem_nil, or_false] at hz
  omega⟩
theorem simpM_mo : ∀ x ∈ simpM.members, MemOk x := fun x hx => by
 simp only [simpM, simpS, List.mem_cons, List.not_mem_nil, or_false] at hx
 rcases hx with rfl | rfl <;> exact ⟨fun z hz => by
  simp only [List.mem_cons, List.not_mem_nil, or_false] at hz
  omega, fun z hz => by
  simp only [List.mem_cons, List.not_mem_nil, or_false] at hz
  omega⟩
theorem simpM_mem : simpG.founders.map (memF simpG.par) = simpM.members := by
 have e2 : wholeP simpP 25 = 20 := by decide +kernel
 have e3 : wholeP simpP 40 = 30 := by decide +kernel
 simp only [simpM, simpS, simpG, List.map_cons, List.map_nil, memF, e2, e3]
theorem awake41_any (hk : ∀ h', PH.le h h' → K (.bool true) L h') : Spec Tryz.prog 8 [] L h K := by
 refine x_enter Tryz.func8 rfl (rs := [_]) rfl rfl mixed (by kernel_rfl) rfl rfl ?_
 simp -dsimp -implicitDefEqProofs (disch := first|with_reducible assumption|omega) [go_sem]
 refine simple24_any fun h1 pa pc fa fc le1 g1 => ?_
 simp -dsimp -implicitDefEqProofs (disch := first|with_reducible assumption|omega) [go_sem]
 refine newo_any _ _ g1 (by decide) simp_newB fun h2 bm op om le2 kop kom aom aop nbm hbm => ?_
 rw [newS_simp]
 obtain ⟨s, es⟩ : ∃ s, s = simpS := ⟨_, rfl⟩
 rw [← es]
 have gp : simpG.purses.length = 2 := rfl
 have gf : simpG.founders.length = 2 := rfl
 have gpl : (simpG.purses.map (Value.int .u64)).length = 2 := rfl
 have gfl : ((simpG.founders.map (memF simpG.par)).flatMap memC).length = 2 * 6 := rfl
 rw [gp] at kop ⊢
 rw [gf] at kom ⊢
 obtain ⟨x1, y1, e1, _⟩ := ovs_open kop
 obtain ⟨x2, y2, e2, _⟩ := ovs_open kom
 rw [e1, e2]
 simp -dsimp -implicitDefEqProofs (disch := first|with_reducible assumption|omega) [go_sem]
 refine xnew fun b1 n_b1 h_b1 => ?_
 try simp only [Apart] at n_b1
 have nb1 : bm ≠ b1 := n_b1.1
 clear n_b1
 simp -dsimp -implicitDefEqProofs (disch := first|with_reducible assumption|omega) [go_sem]
 refine call_pub_at (sz := 1) (n := 16) (cap := 16) [_] ⟨Nat.le_refl _, by decide⟩ rfl (by decide) hbm fun h3 le3 s3 f3 => ?_
 simp only [List.cons_append, List.nil_append]
 refine call_pub_o (n := 2) [_] kop gpl (by decide) (fun h4 le4 s4 => ?_) ⟨Tryz.f10, Tryz.func10, by decide +kernel, rfl⟩
 refine call_pub_o (n := 2) [_] kom gfl (by decide) (fun h5 le5 s5 => ?_) ⟨Tryz.f10, Tryz.func10, by decide +kernel, rfl⟩
 simp only [List.cons_append, List.nil_append]
 have le05 : PH.le h h5 := le1.trans (le2.trans (le3.trans (le4.trans le5)))
 rw [simpM_mem] at s5
 have is : IsSt h5 ⟨.slice x1 2 y1, .slice x2 2 y2, .slice none 0 0, .slice none 0 0, .slice none 0 0, .slice none 0 0, .slice none 0 0, .slice (some ⟨bm, 0, none⟩) 16 16, .slice none 0 0⟩ simpM := by
  refine ⟨simpM_ok, ?_, ?_, simpM_mo, nil_ints h5 .i64, nil_ints h5 .i64, Recs.nil depC_len h5, (fun x hx => by cases hx), Recs.nil dueC_len h5, (fun x hx => by cases hx), ⟨[], Recs.nil motC_len h5, rfl, fun x hx => by cases hx⟩, ?_, ⟨[], strs_nil h5, rfl⟩⟩
  ·have := s4.up le5
   rw [e1] at this
   exact ⟨this, fun z hz => by
    have : z = 500 ∨ z = 200 := by simpa [simpM, simpS] using hz
    rw [show IntKind.u64.min = 0 by decide, show IntKind.u64.max = 18446744073709551615 by decide]
    omega⟩
  ·rw [e2] at s5
   exact ⟨memC_len, s5⟩
  ·refine ⟨s3.up (le4.trans le5), fun z hz => ?_⟩
   have hz2 : z = 3 ∨ z = 0 := by
    simp only [simpM, List.mem_cons, List.mem_replicate] at hz
    rcases hz with hz | hz
    ·exact .inl hz
    ·exact .inr hz.2
   rw [show IntKind.u8.min = 0 by decide, show IntKind.u8.max = 255 by decide]
   omega
 obtain ⟨ks, eks⟩ : ∃ ks, ks = (3 :: List.replicate 15 0 : List Int) := ⟨_, rfl⟩
 have eM : { s with marks := ks } = simpM := by rw [es, eks]; rfl
 rw [← eM] at is
 have fM : FewS { s with marks := ks } := by rw [eM]; exact simpM_few
 have kM : ks.length ≤ 1000 := by rw [eks]; decide
 obtain ⟨m1, m2⟩ := simpM_slips
 rw [← eM] at m1 m2
 clear es eks eM
 refine slips_any (s := { s with marks := ks }) ⟨.slice x1 2 y1, .slice x2 2 y2, .slice none 0 0, .slice none 0 0, .slice none 0 0, .slice none 0 0, .slice none 0 0, .slice (some ⟨bm, 0, none⟩) 16 16, .slice none 0 0⟩ is fM kM fun h6 r6 le6 i6 => ?_
 rw [m2] at i6
 rw [m1]
 obtain ⟨ra, rc, rfl, hrc, _, hrn, hrd⟩ := i6.open
 have hlen : ([⟨0, true, 2, 0, 0, 0, 0, 0⟩, ⟨1, true, 4, 4, 0, 0, 0, 0⟩] : List SlD).length = 2 := rfl
 rw [hlen] at hrd hrc ⊢
 have hne : ra ≠ none := fun e => by have := hrn e; omega
 have A0 : ∀ (o : Nat) (K : Value → Prop) (t : Tok K), xAddO (.pointer (elem ra 0)) o K t = K (.pointer (elem ra o)) := fun o K t => by
  have := xAddO_elem hne 0 o K
  rwa [Nat.zero_add] at this
 have A8 : ∀ (o : Nat) (K : Value → Prop) (t : Tok K), xAddO (.pointer (elem ra 8)) o K t = K (.pointer (elem ra (8 + o))) := fun o K t => xAddO_elem hne 8 o K
 have P0 : ∀ (i : Nat) (K : Option Addr → Prop) (t : Tok K), xPtr (.pointer (elem ra i)) K t = K (elem ra i) := fun i K t => xPtr_elem hne K
 have C2 : ∀ (L : Own) (K : Value → Prop) (t : Tok K), xCell L h6 (elem ra 2) 0 K t = K (.int .u64 2) := fun L K t => hrd.fld zeroSl (j := 0) (o := 2) (by decide) rfl L K t
 have C3 : ∀ (L : Own) (K : Value → Prop) (t : Tok K), xCell L h6 (elem ra 3) 0 K t = K (.int .u64 0) := fun L K t => hrd.fld zeroSl (j := 0) (o := 3) (by decide) rfl L K t
 have C10 : ∀ (L : Own) (K : Value → Prop) (t : Tok K), xCell L h6 (elem ra 10) 0 K t = K (.int .u64 4) := fun L K t => hrd.fld zeroSl (j := 1) (o := 2) (by decide) rfl L K t
 have C11 : ∀ (L : Own) (K : Value → Prop) (t : Tok K), xCell L h6 (elem ra 11) 0 K t = K (.int .u64 4) := fun L K t => hrd.fld zeroSl (j := 1) (o := 3) (by decide) rfl L K t
 simp -dsimp -implicitDefEqProofs (disch := first|with_reducible assumption|omega) [go_sem, ↓idxR zeroSl (by decide) hrd, slC, ↓A0, ↓A8, ↓P0, ↓C2, ↓C3, ↓C10, ↓C11]
 exact fin_tail (fin_here (hk h6 (le05.trans le6)))
end Go.X

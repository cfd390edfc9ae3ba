/- Lemmas and contracts for a statement about the given program. Conditions: as each says. -/
import Derived.Test.YtmkekhodcacfbaaGreatQ27
import Derived.Test.YtmkekhodcacfbaaGreatQ30
import Derived.Test.YtmkekhodcacfbaaGreatQ32
set_option linter.unusedVariables false
set_option linter.unusedSimpArgs false
set_option maxHeartbeats 12800000
set_option maxRecDepth 20000
namespace Go.X
open Go.RowKit Go.Proofs Go.Bl
variable {L : Own} {h : PH} {K : PK}
def simpM : StD := { simpS with marks := 3 :: List.replicate 15 0 }
theorem simpM_slips : slipsE simpM = 0 ∧ slipsL simpM = [⟨0, true, 2, 0, 0, 0, 0, 0⟩, ⟨1, true, 4, 4, 0, 0, 0, 0⟩] := by
 have h1 : slipsE simpM = 0 := by decide +kernel
 refine ⟨h1, ?_⟩
 decide +kernel
theorem simpM_few : FewS simpM := by
 constructor <;> first | decide | (intro x hx; cases hx)
theorem newS_simp : newS simpG = simpS := by
 have e := simp_new
 unfold newR at e
 rwa [simp_newB, if_pos rfl] at e
theorem simpM_ok : StOk simpM := ⟨simpP_ok, fun z hz => by
  simp only [simpM, simpS, List.mem_cons, List.not_mem_nil, or_false] at hz
  omega, fun z hz => by
  simp only [simpM, simpS, List.mem_cons, List.not_mem_nil, or_false] at hz
  omega⟩
theorem simpM_mo : ∀ x ∈ simpM.members, MemOk x := fun x hx => by
 simp only [simpM, simpS, List.mem_cons, List.not_mem_nil, or_false] at hx
 rcases hx with rfl | rfl <;> exact ⟨fun z hz => by
  simp only [List.mem_cons, List.not_mem_nil, or_false] at hz
  omega, fun z hz => by
  simp only [List.mem_cons, List.not_mem_nil, or_false] at hz
  omega⟩
theorem simpM_mem : simpG.founders.map (memF simpG.par) = simpM.members := by
 have e2 : wholeP simpP 25 = 20 := by decide +kernel
 have e3 : wholeP simpP 40 = 30 := by decide +kernel
 simp only [simpM, simpS, simpG, List.map_cons, List.map_nil, memF, e2, e3]
theorem awake41_any (hk : ∀ h', PH.le h h' → K (.bool true) L h') : Spec Tryz.prog 8 [] L h K := by
 refine x_enter Tryz.func8 rfl (rs := [_]) rfl rfl mixed (by kernel_rfl) rfl rfl ?_
 simp -dsimp -implicitDefEqProofs (disch := first|with_reducible assumption|omega) [go_sem]
 refine simple24_any fun h1 pa pc fa fc le1 g1 => ?_
 simp -dsimp -implicitDefEqProofs (disch := first|with_reducible assumption|omega) [go_sem]
 refine newo_any _ _ g1 (by decide) simp_newB fun h2 bm op om le2 kop kom aom aop nbm hbm => ?_
 rw [newS_simp]
 obtain ⟨s, es⟩ : ∃ s, s = simpS := ⟨_, rfl⟩
 rw [← es]
 have gp : simpG.purses.length = 2 := rfl
 have gf : simpG.founders.length = 2 := rfl
 have gpl : (simpG.purses.map (Value.int .u64)).length = 2 := rfl
 have gfl : ((simpG.founders.map (memF simpG.par)).flatMap memC).length = 2 * 6 := rfl
 rw [gp] at kop ⊢
 rw [gf] at kom ⊢
 obtain ⟨x1, y1, e1, _⟩ := ovs_open kop
 obtain ⟨x2, y2, e2, _⟩ := ovs_open kom
 rw [e1, e2]
 simp -dsimp -implicitDefEqProofs (disch := first|with_reducible assumption|omega) [go_sem]
 refine xnew fun b1 n_b1 h_b1 => ?_
 try simp only [Apart] at n_b1
 have nb1 : bm ≠ b1 := n_b1.1
 clear n_b1
 simp -dsimp -implicitDefEqProofs (disch := first|with_reducible assumption|omega) [go_sem]
 refine call_pub_at (sz := 1) (n := 16) (cap := 16) [_] ⟨Nat.le_refl _, by decide⟩ rfl (by decide) hbm fun h3 le3 s3 f3 => ?_
 simp only [List.cons_append, List.nil_append]
 refine call_pub_o (n := 2) [_] kop gpl (by decide) (fun h4 le4 s4 => ?_) ⟨Tryz.f10, Tryz.func10, by decide +kernel, rfl⟩
 refine call_pub_o (n := 2) [_] kom gfl (by decide) (fun h5 le5 s5 => ?_) ⟨Tryz.f10, Tryz.func10, by decide +kernel, rfl⟩
 simp only [List.cons_append, List.nil_append]
 have le05 : PH.le h h5 := le1.trans (le2.trans (le3.trans (le4.trans le5)))
 rw [simpM_mem] at s5
 have is : IsSt h5 ⟨.slice x1 2 y1, .slice x2 2 y2, .slice none 0 0, .slice none 0 0, .slice none 0 0, .slice none 0 0, .slice none 0 0, .slice (some ⟨bm, 0, none⟩) 16 16, .slice none 0 0⟩ simpM := by
  refine ⟨simpM_ok, ?_, ?_, simpM_mo, nil_ints h5 .i64, nil_ints h5 .i64, Recs.nil depC_len h5, (fun x hx => by cases hx), Recs.nil dueC_len h5, (fun x hx => by cases hx), ⟨[], Recs.nil motC_len h5, rfl, fun x hx => by cases hx⟩, ?_, ⟨[], strs_nil h5, rfl⟩⟩
  ·have := s4.up le5
   rw [e1] at this
   exact ⟨this, fun z hz => by
    have : z = 500 ∨ z = 200 := by simpa [simpM, simpS] using hz
    rw [show IntKind.u64.min = 0 by decide, show IntKind.u64.max = 18446744073709551615 by decide]
    omega⟩
  ·rw [e2] at s5
   exact ⟨memC_len, s5⟩
  ·refine ⟨s3.up (le4.trans le5), fun z hz => ?_⟩
   have hz2 : z = 3 ∨ z = 0 := by
    simp only [simpM, List.mem_cons, List.mem_replicate] at hz
    rcases hz with hz | hz
    ·exact .inl hz
    ·exact .inr hz.2
   rw [show IntKind.u8.min = 0 by decide, show IntKind.u8.max = 255 by decide]
   omega
 obtain ⟨ks, eks⟩ : ∃ ks, ks = (3 :: List.replicate 15 0 : List Int) := ⟨_, rfl⟩
 have eM : { s with marks := ks } = simpM := by rw [es, eks]; rfl
 rw [← eM] at is
 have fM : FewS { s with marks := ks } := by rw [eM]; exact simpM_few
 have kM : ks.length ≤ 1000 := by rw [eks]; decide
 obtain ⟨m1, m2⟩ := simpM_slips
 rw [← eM] at m1 m2
 clear es eks eM
 refine slips_any (s := { s with marks := ks }) ⟨.slice x1 2 y1, .slice x2 2 y2, .slice none 0 0, .slice none 0 0, .slice none 0 0, .slice none 0 0, .slice none 0 0, .slice (some ⟨bm, 0, none⟩) 16 16, .slice none 0 0⟩ is fM kM fun h6 r6 le6 i6 => ?_
 rw [m2] at i6
 rw [m1]
 obtain ⟨ra, rc, rfl, hrc, _, hrn, hrd⟩ := i6.open
 have hlen : ([⟨0, true, 2, 0, 0, 0, 0, 0⟩, ⟨1, true, 4, 4, 0, 0, 0, 0⟩] : List SlD).length = 2 := rfl
 rw [hlen] at hrd hrc ⊢
 have hne : ra ≠ none := fun e => by have := hrn e; omega
 have A0 : ∀ (o : Nat) (K : Value → Prop) (t : Tok K), xAddO (.pointer (elem ra 0)) o K t = K (.pointer (elem ra o)) := fun o K t => by
  have := xAddO_elem hne 0 o K
  rwa [Nat.zero_add] at this
 have A8 : ∀ (o : Nat) (K : Value → Prop) (t : Tok K), xAddO (.pointer (elem ra 8)) o K t = K (.pointer (elem ra (8 + o))) := fun o K t => xAddO_elem hne 8 o K
 have P0 : ∀ (i : Nat) (K : Option Addr → Prop) (t : Tok K), xPtr (.pointer (elem ra i)) K t = K (elem ra i) := fun i K t => xPtr_elem hne K
 have C2 : ∀ (L : Own) (K : Value → Prop) (t : Tok K), xCell L h6 (elem ra 2) 0 K t = K (.int .u64 2) := fun L K t => hrd.fld zeroSl (j := 0) (o := 2) (by decide) rfl L K t
 have C3 : ∀ (L : Own) (K : Value → Prop) (t : Tok K), xCell L h6 (elem ra 3) 0 K t = K (.int .u64 0) := fun L K t => hrd.fld zeroSl (j := 0) (o := 3) (by decide) rfl L K t
 have C10 : ∀ (L : Own) (K : Value → Prop) (t : Tok K), xCell L h6 (elem ra 10) 0 K t = K (.int .u64 4) := fun L K t => hrd.fld zeroSl (j := 1) (o := 2) (by decide) rfl L K t
 have C11 : ∀ (L : Own) (K : Value → Prop) (t : Tok K), xCell L h6 (elem ra 11) 0 K t = K (.int .u64 4) := fun L K t => hrd.fld zeroSl (j := 1) (o := 3) (by decide) rfl L K t
 simp -dsimp -implicitDefEqProofs (disch := first|with_reducible assumption|omega) [go_sem, ↓idxR zeroSl (by decide) hrd, slC, ↓A0, ↓A8, ↓P0, ↓C2, ↓C3, ↓C10, ↓C11]
 exact fin_tail (fin_here (hk h6 (le05.trans le6)))
@[go_sem] theorem xIA_arr (n e sz b o : Nat) (k : IntKind) (j : Int) (h0 : 0 ≤ j) (h1 : j < (n : Int)) (K : Value → Prop) (t : Tok K) :
  xIA (.ar n e sz) (.pointer (some ⟨b, o, none⟩)) (.int k j) K t = K (.pointer (some ⟨b, o + j.toNat * sz, none⟩)) := by
 apply propext; constructor
 ·rintro ⟨q, k', j', e1, e2, _, _, hk⟩
  cases e1; cases e2
  rw [add_none] at hk; exact hk
 ·intro hk
  exact ⟨_, _, _, rfl, rfl, h0, h1, by rw [add_none]; exact hk⟩
structure SlOk (x : SlD) : Prop where
 prize : 0 ≤ x.prize ∧ x.prize ≤ 18446744073709551615
 over : 0 ≤ x.over ∧ x.over ≤ 18446744073709551615
 fine : 0 ≤ x.fine ∧ x.fine ≤ 18446744073709551615
 burned : 0 ≤ x.burned ∧ x.burned ≤ 18446744073709551615
 paid : 0 ≤ x.paid ∧ x.paid ≤ 18446744073709551615
def colC (p : SlD → Int) (l : List SlD) (k : Nat) : List Int := (l.take k).map p
theorem colC_len {p : SlD → Int} {l : List SlD} {k : Nat} (hk : k ≤ l.length) : (colC p l k).length = k := by simp [colC, hk]
theorem colC_succ {p : SlD → Int} {l : List SlD} {k : Nat} (hk : k < l.length) : colC p l (k + 1) = colC p l k ++ [p (gr zeroSl l k)] := by
 rw [colC, colC, List.take_add_one, List.getElem?_eq_getElem hk, gr_lt hk, List.map_append]
 rfl
theorem colC_all {p : SlD → Int} {l : List SlD} : colC p l l.length = l.map p := by rw [colC, List.take_length]
theorem col_ints {p : SlD → Int} {l : List SlD} (hp : ∀ x ∈ l, 0 ≤ p x ∧ p x ≤ 18446744073709551615) {h : PH} {v : Value} (sl : Sl h v l.length 1 ((colC p l l.length).map (.int .u64))) : Ints h .u64 v (l.map p) := by
 rw [colC_all] at sl
 refine ⟨by rw [List.length_map]; exact sl, fun z hz => ?_⟩
 obtain ⟨x, hx, rfl⟩ := List.mem_map.1 hz
 rw [show IntKind.u64.min = 0 by decide, show IntKind.u64.max = 18446744073709551615 by decide]
 exact hp x hx
theorem tcl0_any (x : SlD) (hk : K (.int .u64 x.prize) L h) : Spec Tryz.prog 56 [slV x] L h K := by
 refine x_enter Tryz.func56 rfl (rs := [_]) rfl rfl mixed (by kernel_rfl) rfl rfl ?_
 simp -dsimp -implicitDefEqProofs (disch := first|with_reducible assumption|omega) [go_sem]
 refine xnew fun b1 n_b1 h_b1 => ?_
 try simp only [Apart] at n_b1
 simp -dsimp -implicitDefEqProofs (disch := first|with_reducible assumption|omega) [go_sem]
 exact fin_tail (fin_here hk)
theorem tot0_any {l : List SlD} (v : Value) (hd0 : Recs slC 8 h v l) (hl : l.length ≤ 1000) (hp : ∀ x ∈ l, SlOk x) (hk : ∀ h', PH.le h h' → K (sumV (tot (l.map SlD.prize))) L h') : Spec Tryz.prog 61 [v, .func (.func 56) #[] #[]] L h K := by
 obtain ⟨va, vc, rfl, hc, hln, _, hd⟩ := hd0.open
 refine x_enter Tryz.func61 rfl (rs := [_, _]) rfl rfl mixed (by kernel_rfl) rfl rfl ?_
 simp -dsimp -implicitDefEqProofs (disch := first|with_reducible assumption|omega) [go_sem]
 refine xloop (γ := Nat × Option (Nat × Nat)) (0, none) (fun q => q.1 ≤ l.length ∧ okO q.2 q.1 ∧ apO q.2 L h) (fun q => [(11, .int .i64 q.1), (10, .int .i64 l.length), (9, .slice va l.length vc), (6, ovs q.2 q.1), (1, .func (.func 56) #[] #[])]) (fun q => oent 22 1 q.2 ((colC SlD.prize l q.1).map (.int .u64)) L) (fun _ => h) (fun q => l.length - q.1) ?_ ?_ ?_ ?_
 ·exact ⟨Nat.zero_le _, rfl, trivial⟩
 ·simp [Ent, List.lookup, xEnv, ovs]
 ·exact Drop.refl _ _
 rintro ⟨j, o⟩ ⟨j1, j2, j3⟩
 simp only at j1 j2 j3 ⊢
 by_cases c1 : j < l.length
 ·have hs := colC_succ (p := SlD.prize) c1
  have hcl := colC_len (p := SlD.prize) j1
  simp -dsimp -implicitDefEqProofs (disch := first|with_reducible assumption|omega) [go_sem, ↓idxR zeroSl (by decide) hd, slC]
  refine xnew fun b8 n_b8 h_b8 => ?_
  try simp only [Apart] at n_b8
  have n8 := apart_oent n_b8
  simp -dsimp -implicitDefEqProofs (disch := first|with_reducible assumption|omega) [go_sem, slC]
  refine tcl0_any (gr zeroSl l j) ?_
  simp -dsimp -implicitDefEqProofs (disch := first|with_reducible assumption|omega) [go_sem]
  refine xnew fun b9 n_b9 h_b9 => ?_
  try simp only [Apart] at n_b9
  simp -dsimp -implicitDefEqProofs (disch := first|with_reducible assumption|omega) [go_sem]
  refine xappend (t := 25) (e := 22) (sz := 1) (bytes := 8) (by kernel_rfl) tI_22 rfl rfl rfl rfl (by decide) [_, _] L o j _ j2 (by simp [hcl]) (Src.own List.mem_cons_self) (m := 1) (news := [.int .u64 (gr zeroSl l j).prize]) rfl (fun u hu => by simp at hu; subst hu; rfl) (by simp [maxLen]; omega) (by omega) ?_
  intro o' i1 i2 i3
  simp -dsimp -implicitDefEqProofs (disch := first|with_reducible assumption|omega) [go_sem]
  refine ⟨j + 1, o', ⟨by omega, i1, apO_tail (apO_tail i2)⟩, by omega, by simp [Ent, List.lookup], ?_⟩
  simp only [hs, List.map_append, List.map_cons, List.map_nil]
  exact (Drop.tail _ _ _).trans (Drop.tail _ _ _)
 ·obtain rfl : j = l.length := by omega
  have hcl := colC_len (p := SlD.prize) j1
  simp -dsimp -implicitDefEqProofs (disch := first|with_reducible assumption|omega) [go_sem]
  have hxl : ((colC SlD.prize l l.length).map (Value.int .u64)).length = l.length * 1 := by simp [hcl]
  refine call_pub_o (e := 22) (n := l.length) [] j2 hxl (by omega) (fun h1 le1 sl1 => ?_) ⟨Tryz.f69, Tryz.func69, by decide +kernel, rfl⟩
  refine msum_any _ (col_ints (fun x hx => (hp x hx).prize) sl1) ?_
  have hk := hk h1 le1
  by_cases c : tot (l.map SlD.prize) ≤ 18446744073709551615
  ·rw [sumV_ok c] at hk ⊢
   simp -dsimp -implicitDefEqProofs (disch := first|with_reducible assumption|omega) [go_sem]
   exact fin_here hk
  ·rw [sumV_no c] at hk ⊢
   simp -dsimp -implicitDefEqProofs (disch := first|with_reducible assumption|omega) [go_sem]
   exact fin_here hk
theorem tcl1_any (x : SlD) (hk : K (.int .u64 x.over) L h) : Spec Tryz.prog 57 [slV x] L h K := by
 refine x_enter Tryz.func57 rfl (rs := [_]) rfl rfl mixed (by kernel_rfl) rfl rfl ?_
 simp -dsimp -implicitDefEqProofs (disch := first|with_reducible assumption|omega) [go_sem]
 refine xnew fun b1 n_b1 h_b1 => ?_
 try simp only [Apart] at n_b1
 simp -dsimp -implicitDefEqProofs (disch := first|with_reducible assumption|omega) [go_sem]
 exact fin_tail (fin_here hk)
theorem tot1_any {l : List SlD} (v : Value) (hd0 : Recs slC 8 h v l) (hl : l.length ≤ 1000) (hp : ∀ x ∈ l, SlOk x) (hk : ∀ h', PH.le h h' → K (sumV (tot (l.map SlD.over))) L h') : Spec Tryz.prog 61 [v, .func (.func 57) #[] #[]] L h K := by
 obtain ⟨va, vc, rfl, hc, hln, _, hd⟩ := hd0.open
 refine x_enter Tryz.func61 rfl (rs := [_, _]) rfl rfl mixed (by kernel_rfl) rfl rfl ?_
 simp -dsimp -implicitDefEqProofs (disch := first|with_reducible assumption|omega) [go_sem]
 refine xloop (γ := Nat × Option (Nat × Nat)) (0, none) (fun q => q.1 ≤ l.length ∧ okO q.2 q.1 ∧ apO q.2 L h) (fun q => [(11, .int .i64 q.1), (10, .int .i64 l.length), (9, .slice va l.length vc), (6, ovs q.2 q.1), (1, .func (.func 57) #[] #[])]) (fun q => oent 22 1 q.2 ((colC SlD.over l q.1).map (.int .u64)) L) (fun _ => h) (fun q => l.length - q.1) ?_ ?_ ?_ ?_
 ·exact ⟨Nat.zero_le _, rfl, trivial⟩
 ·simp [Ent, List.lookup, xEnv, ovs]
 ·exact Drop.refl _ _
 rintro ⟨j, o⟩ ⟨j1, j2, j3⟩
 simp only at j1 j2 j3 ⊢
 by_cases c1 : j < l.length
 ·have hs := colC_succ (p := SlD.over) c1
  have hcl := colC_len (p := SlD.over) j1
  simp -dsimp -implicitDefEqProofs (disch := first|with_reducible assumption|omega) [go_sem, ↓idxR zeroSl (by decide) hd, slC]
  refine xnew fun b8 n_b8 h_b8 => ?_
  try simp only [Apart] at n_b8
  have n8 := apart_oent n_b8
  simp -dsimp -implicitDefEqProofs (disch := first|with_reducible assumption|omega) [go_sem, slC]
  refine tcl1_any (gr zeroSl l j) ?_
  simp -dsimp -implicitDefEqProofs (disch := first|with_reducible assumption|omega) [go_sem]
  refine xnew fun b9 n_b9 h_b9 => ?_
  try simp only [Apart] at n_b9
  simp -dsimp -implicitDefEqProofs (disch := first|with_reducible assumption|omega) [go_sem]
  refine xappend (t := 25) (e := 22) (sz := 1) (bytes := 8) (by kernel_rfl) tI_22 rfl rfl rfl rfl (by decide) [_, _] L o j _ j2 (by simp [hcl]) (Src.own List.mem_cons_self) (m := 1) (news := [.int .u64 (gr zeroSl l j).over]) rfl (fun u hu => by simp at hu; subst hu; rfl) (by simp [maxLen]; omega) (by omega) ?_
  intro o' i1 i2 i3
  simp -dsimp -implicitDefEqProofs (disch := first|with_reducible assumption|omega) [go_sem]
  refine ⟨j + 1, o', ⟨by omega, i1, apO_tail (apO_tail i2)⟩, by omega, by simp [Ent, List.lookup], ?_⟩
  simp only [hs, List.map_append, List.map_cons, List.map_nil]
  exact (Drop.tail _ _ _).trans (Drop.tail _ _ _)
 ·obtain rfl : j = l.length := by omega
  have hcl := colC_len (p := SlD.over) j1
  simp -dsimp -implicitDefEqProofs (disch := first|with_reducible assumption|omega) [go_sem]
  have hxl : ((colC SlD.over l l.length).map (Value.int .u64)).length = l.length * 1 := by simp [hcl]
  refine call_pub_o (e := 22) (n := l.length) [] j2 hxl (by omega) (fun h1 le1 sl1 => ?_) ⟨Tryz.f69, Tryz.func69, by decide +kernel, rfl⟩
  refine msum_any _ (col_ints (fun x hx => (hp x hx).over) sl1) ?_
  have hk := hk h1 le1
  by_cases c : tot (l.map SlD.over) ≤ 18446744073709551615
  ·rw [sumV_ok c] at hk ⊢
   simp -dsimp -implicitDefEqProofs (disch := first|with_reducible assumption|omega) [go_sem]
   exact fin_here hk
  ·rw [sumV_no c] at hk ⊢
   simp -dsimp -implicitDefEqProofs (disch := first|with_reducible assumption|omega) [go_sem]
   exact fin_here hk
theorem tcl2_any (x : SlD) (hk : K (.int .u64 x.fine) L h) : Spec Tryz.prog 58 [slV x] L h K := by
 refine x_enter Tryz.func58 rfl (rs := [_]) rfl rfl mixed (by kernel_rfl) rfl rfl ?_
 simp -dsimp -implicitDefEqProofs (disch := first|with_reducible assumption|omega) [go_sem]
 refine xnew fun b1 n_b1 h_b1 => ?_
 try simp only [Apart] at n_b1
 simp -dsimp -implicitDefEqProofs (disch := first|with_reducible assumption|omega) [go_sem]
 exact fin_tail (fin_here hk)
theorem tot2_any {l : List SlD} (v : Value) (hd0 : Recs slC 8 h v l) (hl : l.length ≤ 1000) (hp : ∀ x ∈ l, SlOk x) (hk : ∀ h', PH.le h h' → K (sumV (tot (l.map SlD.fine))) L h') : Spec Tryz.prog 61 [v, .func (.func 58) #[] #[]] L h K := by
 obtain ⟨va, vc, rfl, hc, hln, _, hd⟩ := hd0.open
 refine x_enter Tryz.func61 rfl (rs := [_, _]) rfl rfl mixed (by kernel_rfl) rfl rfl ?_
 simp -dsimp -implicitDefEqProofs (disch := first|with_reducible assumption|omega) [go_sem]
 refine xloop (γ := Nat × Option (Nat × Nat)) (0, none) (fun q => q.1 ≤ l.length ∧ okO q.2 q.1 ∧ apO q.2 L h) (fun q => [(11, .int .i64 q.1), (10, .int .i64 l.length), (9, .slice va l.length vc), (6, ovs q.2 q.1), (1, .func (.func 58) #[] #[])]) (fun q => oent 22 1 q.2 ((colC SlD.fine l q.1).map (.int .u64)) L) (fun _ => h) (fun q => l.length - q.1) ?_ ?_ ?_ ?_
 ·exact ⟨Nat.zero_le _, rfl, trivial⟩
 ·simp [Ent, List.lookup, xEnv, ovs]
 ·exact Drop.refl _ _
 rintro ⟨j, o⟩ ⟨j1, j2, j3⟩
 simp only at j1 j2 j3 ⊢
 by_cases c1 : j < l.length
 ·have hs := colC_succ (p := SlD.fine) c1
  have hcl := colC_len (p := SlD.fine) j1
  simp -dsimp -implicitDefEqProofs (disch := first|with_reducible assumption|omega) [go_sem, ↓idxR zeroSl (by decide) hd, slC]
  refine xnew fun b8 n_b8 h_b8 => ?_
  try simp only [Apart] at n_b8
  have n8 := apart_oent n_b8
  simp -dsimp -implicitDefEqProofs (disch := first|with_reducible assumption|omega) [go_sem, slC]
  refine tcl2_any (gr zeroSl l j) ?_
  simp -dsimp -implicitDefEqProofs (disch := first|with_reducible assumption|omega) [go_sem]
  refine xnew fun b9 n_b9 h_b9 => ?_
  try simp only [Apart] at n_b9
  simp -dsimp -implicitDefEqProofs (disch := first|with_reducible assumption|omega) [go_sem]
  refine xappend (t := 25) (e := 22) (sz := 1) (bytes := 8) (by kernel_rfl) tI_22 rfl rfl rfl rfl (by decide) [_, _] L o j _ j2 (by simp [hcl]) (Src.own List.mem_cons_self) (m := 1) (news := [.int .u64 (gr zeroSl l j).fine]) rfl (fun u hu => by simp at hu; subst hu; rfl) (by simp [maxLen]; omega) (by omega) ?_
  intro o' i1 i2 i3
  simp -dsimp -implicitDefEqProofs (disch := first|with_reducible assumption|omega) [go_sem]
  refine ⟨j + 1, o', ⟨by omega, i1, apO_tail (apO_tail i2)⟩, by omega, by simp [Ent, List.lookup], ?_⟩
  simp only [hs, List.map_append, List.map_cons, List.map_nil]
  exact (Drop.tail _ _ _).trans (Drop.tail _ _ _)
 ·obtain rfl : j = l.length := by omega
  have hcl := colC_len (p := SlD.fine) j1
  simp -dsimp -implicitDefEqProofs (disch := first|with_reducible assumption|omega) [go_sem]
  have hxl : ((colC SlD.fine l l.length).map (Value.int .u64)).length = l.length * 1 := by simp [hcl]
  refine call_pub_o (e := 22) (n := l.length) [] j2 hxl (by omega) (fun h1 le1 sl1 => ?_) ⟨Tryz.f69, Tryz.func69, by decide +kernel, rfl⟩
  refine msum_any _ (col_ints (fun x hx => (hp x hx).fine) sl1) ?_
  have hk := hk h1 le1
  by_cases c : tot (l.map SlD.fine) ≤ 18446744073709551615
  ·rw [sumV_ok c] at hk ⊢
   simp -dsimp -implicitDefEqProofs (disch := first|with_reducible assumption|omega) [go_sem]
   exact fin_here hk
  ·rw [sumV_no c] at hk ⊢
   simp -dsimp -implicitDefEqProofs (disch := first|with_reducible assumption|omega) [go_sem]
   exact fin_here hk
theorem tcl3_any (x : SlD) (hk : K (.int .u64 x.burned) L h) : Spec Tryz.prog 59 [slV x] L h K := by
 refine x_enter Tryz.func59 rfl (rs := [_]) rfl rfl mixed (by kernel_rfl) rfl rfl ?_
 simp -dsimp -implicitDefEqProofs (disch := first|with_reducible assumption|omega) [go_sem]
 refine xnew fun b1 n_b1 h_b1 => ?_
 try simp only [Apart] at n_b1
 simp -dsimp -implicitDefEqProofs (disch := first|with_reducible assumption|omega) [go_sem]
 exact fin_tail (fin_here hk)
theorem tot3_any {l : List SlD} (v : Value) (hd0 : Recs slC 8 h v l) (hl : l.length ≤ 1000) (hp : ∀ x ∈ l, SlOk x) (hk : ∀ h', PH.le h h' → K (sumV (tot (l.map SlD.burned))) L h') : Spec Tryz.prog 61 [v, .func (.func 59) #[] #[]] L h K := by
 obtain ⟨va, vc, rfl, hc, hln, _, hd⟩ := hd0.open
 refine x_enter Tryz.func61 rfl (rs := [_, _]) rfl rfl mixed (by kernel_rfl) rfl rfl ?_
 simp -dsimp -implicitDefEqProofs (disch := first|with_reducible assumption|omega) [go_sem]
 refine xloop (γ := Nat × Option (Nat × Nat)) (0, none) (fun q => q.1 ≤ l.length ∧ okO q.2 q.1 ∧ apO q.2 L h) (fun q => [(11, .int .i64 q.1), (10, .int .i64 l.length), (9, .slice va l.length vc), (6, ovs q.2 q.1), (1, .func (.func 59) #[] #[])]) (fun q => oent 22 1 q.2 ((colC SlD.burned l q.1).map (.int .u64)) L) (fun _ => h) (fun q => l.length - q.1) ?_ ?_ ?_ ?_
 ·exact ⟨Nat.zero_le _, rfl, trivial⟩
 ·simp [Ent, List.lookup, xEnv, ovs]
 ·exact Drop.refl _ _
 rintro ⟨j, o⟩ ⟨j1, j2, j3⟩
 simp only at j1 j2 j3 ⊢
 by_cases c1 : j < l.length
 ·have hs := colC_succ (p := SlD.burned) c1
  have hcl := colC_len (p := SlD.burned) j1
  simp -dsimp -implicitDefEqProofs (disch := first|with_reducible assumption|omega) [go_sem, ↓idxR zeroSl (by decide) hd, slC]
  refine xnew fun b8 n_b8 h_b8 => ?_
  try simp only [Apart] at n_b8
  have n8 := apart_oent n_b8
  simp -dsimp -implicitDefEqProofs (disch := first|with_reducible assumption|omega) [go_sem, slC]
  refine tcl3_any (gr zeroSl l j) ?_
  simp -dsimp -implicitDefEqProofs (disch := first|with_reducible assumption|omega) [go_sem]
  refine xnew fun b9 n_b9 h_b9 => ?_
  try simp only [Apart] at n_b9
  simp -dsimp -implicitDefEqProofs (disch := first|with_reducible assumption|omega) [go_sem]
  refine xappend (t := 25) (e := 22) (sz := 1) (bytes := 8) (by kernel_rfl) tI_22 rfl rfl rfl rfl (by decide) [_, _] L o j _ j2 (by simp [hcl]) (Src.own List.mem_cons_self) (m := 1) (news := [.int .u64 (gr zeroSl l j).burned]) rfl (fun u hu => by simp at hu; subst hu; rfl) (by simp [maxLen]; omega) (by omega) ?_
  intro o' i1 i2 i3
  simp -dsimp -implicitDefEqProofs (disch := first|with_reducible assumption|omega) [go_sem]
  refine ⟨j + 1, o', ⟨by omega, i1, apO_tail (apO_tail i2)⟩, by omega, by simp [Ent, List.lookup], ?_⟩
  simp only [hs, List.map_append, List.map_cons, List.map_nil]
  exact (Drop.tail _ _ _).trans (Drop.tail _ _ _)
 ·obtain rfl : j = l.length := by omega
  have hcl := colC_len (p := SlD.burned) j1
  simp -dsimp -implicitDefEqProofs (disch := first|with_reducible assumption|omega) [go_sem]
  have hxl : ((colC SlD.burned l l.length).map (Value.int .u64)).length = l.length * 1 := by simp [hcl]
  refine call_pub_o (e := 22) (n := l.length) [] j2 hxl (by omega) (fun h1 le1 sl1 => ?_) ⟨Tryz.f69, Tryz.func69, by decide +kernel, rfl⟩
  refine msum_any _ (col_ints (fun x hx => (hp x hx).burned) sl1) ?_
  have hk := hk h1 le1
  by_cases c : tot (l.map SlD.burned) ≤ 18446744073709551615
  ·rw [sumV_ok c] at hk ⊢
   simp -dsimp -implicitDefEqProofs (disch := first|with_reducible assumption|omega) [go_sem]
   exact fin_here hk
  ·rw [sumV_no c] at hk ⊢
   simp -dsimp -implicitDefEqProofs (disch := first|with_reducible assumption|omega) [go_sem]
   exact fin_here hk
theorem tcl4_any (x : SlD) (hk : K (.int .u64 x.paid) L h) : Spec Tryz.prog 60 [slV x] L h K := by
 refine x_enter Tryz.func60 rfl (rs := [_]) rfl rfl mixed (by kernel_rfl) rfl rfl ?_
 simp -dsimp -implicitDefEqProofs (disch := first|with_reducible assumption|omega) [go_sem]
 refine xnew fun b1 n_b1 h_b1 => ?_
 try simp only [Apart] at n_b1
 simp -dsimp -implicitDefEqProofs (disch := first|with_reducible assumption|omega) [go_sem]
 exact fin_tail (fin_here hk)
theorem tot4_any {l : List SlD} (v : Value) (hd0 : Recs slC 8 h v l) (hl : l.length ≤ 1000) (hp : ∀ x ∈ l, SlOk x) (hk : ∀ h', PH.le h h' → K (sumV (tot (l.map SlD.paid))) L h') : Spec Tryz.prog 61 [v, .func (.func 60) #[] #[]] L h K := by
 obtain ⟨va, vc, rfl, hc, hln, _, hd⟩ := hd0.open
 refine x_enter Tryz.func61 rfl (rs := [_, _]) rfl rfl mixed (by kernel_rfl) rfl rfl ?_
 simp -dsimp -implicitDefEqProofs (disch := first|with_reducible assumption|omega) [go_sem]
 refine xloop (γ := Nat × Option (Nat × Nat)) (0, none) (fun q => q.1 ≤ l.length ∧ okO q.2 q.1 ∧ apO q.2 L h) (fun q => [(11, .int .i64 q.1), (10, .int .i64 l.length), (9, .slice va l.length vc), (6, ovs q.2 q.1), (1, .func (.func 60) #[] #[])]) (fun q => oent 22 1 q.2 ((colC SlD.paid l q.1).map (.int .u64)) L) (fun _ => h) (fun q => l.length - q.1) ?_ ?_ ?_ ?_
 ·exact ⟨Nat.zero_le _, rfl, trivial⟩
 ·simp [Ent, List.lookup, xEnv, ovs]
 ·exact Drop.refl _ _
 rintro ⟨j, o⟩ ⟨j1, j2, j3⟩
 simp only at j1 j2 j3 ⊢
 by_cases c1 : j < l.length
 ·have hs := colC_succ (p := SlD.paid) c1
  have hcl := colC_len (p := SlD.paid) j1
  simp -dsimp -implicitDefEqProofs (disch := first|with_reducible assumption|omega) [go_sem, ↓idxR zeroSl (by decide) hd, slC]
  refine xnew fun b8 n_b8 h_b8 => ?_
  try simp only [Apart] at n_b8
  have n8 := apart_oent n_b8
  simp -dsimp -implicitDefEqProofs (disch := first|with_reducible assumption|omega) [go_sem, slC]
  refine tcl4_any (gr zeroSl l j) ?_
  simp -dsimp -implicitDefEqProofs (disch := first|with_reducible assumption|omega) [go_sem]
  refine xnew fun b9 n_b9 h_b9 => ?_
  try simp only [Apart] at n_b9
  simp -dsimp -implicitDefEqProofs (disch := first|with_reducible assumption|omega) [go_sem]
  refine xappend (t := 25) (e := 22) (sz := 1) (bytes := 8) (by kernel_rfl) tI_22 rfl rfl rfl rfl (by decide) [_, _] L o j _ j2 (by simp [hcl]) (Src.own List.mem_cons_self) (m := 1) (news := [.int .u64 (gr zeroSl l j).paid]) rfl (fun u hu => by simp at hu; subst hu; rfl) (by simp [maxLen]; omega) (by omega) ?_
  intro o' i1 i2 i3
  simp -dsimp -implicitDefEqProofs (disch := first|with_reducible assumption|omega) [go_sem]
  refine ⟨j + 1, o', ⟨by omega, i1, apO_tail (apO_tail i2)⟩, by omega, by simp [Ent, List.lookup], ?_⟩
  simp only [hs, List.map_append, List.map_cons, List.map_nil]
  exact (Drop.tail _ _ _).trans (Drop.tail _ _ _)
 ·obtain rfl : j = l.length := by omega
  have hcl := colC_len (p := SlD.paid) j1
  simp -dsimp -implicitDefEqProofs (disch := first|with_reducible assumption|omega) [go_sem]
  have hxl : ((colC SlD.paid l l.length).map (Value.int .u64)).length = l.length * 1 := by simp [hcl]
  refine call_pub_o (e := 22) (n := l.length) [] j2 hxl (by omega) (fun h1 le1 sl1 => ?_) ⟨Tryz.f69, Tryz.func69, by decide +kernel, rfl⟩
  refine msum_any _ (col_ints (fun x hx => (hp x hx).paid) sl1) ?_
  have hk := hk h1 le1
  by_cases c : tot (l.map SlD.paid) ≤ 18446744073709551615
  ·rw [sumV_ok c] at hk ⊢
   simp -dsimp -implicitDefEqProofs (disch := first|with_reducible assumption|omega) [go_sem]
   exact fin_here hk
  ·rw [sumV_no c] at hk ⊢
   simp -dsimp -implicitDefEqProofs (disch := first|with_reducible assumption|omega) [go_sem]
   exact fin_here hk
def totOk (l : List SlD) : Prop := tot (l.map SlD.prize) ≤ 18446744073709551615 ∧ tot (l.map SlD.over) ≤ 18446744073709551615 ∧ tot (l.map SlD.fine) ≤ 18446744073709551615 ∧ tot (l.map SlD.burned) ≤ 18446744073709551615 ∧ tot (l.map SlD.paid) ≤ 18446744073709551615
def tcell (l : List SlD) (p : SlD → Int) (i k : Nat) : Int := if i < k then tot (l.map p) else 0
def tcells (l : List SlD) (k : Nat) : List Value := [.int .u64 (tcell l SlD.prize 0 k), .int .u64 (tcell l SlD.over 1 k), .int .u64 (tcell l SlD.fine 2 k), .int .u64 (tcell l SlD.burned 3 k), .int .u64 (tcell l SlD.paid 4 k)]
def tfit (l : List SlD) (k : Nat) : Prop := (0 < k → tot (l.map SlD.prize) ≤ 18446744073709551615) ∧ (1 < k → tot (l.map SlD.over) ≤ 18446744073709551615) ∧ (2 < k → tot (l.map SlD.fine) ≤ 18446744073709551615) ∧ (3 < k → tot (l.map SlD.burned) ≤ 18446744073709551615) ∧ (4 < k → tot (l.map SlD.paid) ≤ 18446744073709551615)
theorem stotals_any {l : List SlD} (v : Value) (hd0 : Recs slC 8 h v l) (hl : l.length ≤ 1000) (hp : ∀ x ∈ l, SlOk x)
  (hk : totOk l → ∀ h', PH.le h h' → K (.tuple #[.int .u64 (tot (l.map SlD.prize)), .int .u64 (tot (l.map SlD.over)), .int .u64 (tot (l.map SlD.fine)), .int .u64 (tot (l.map SlD.burned)), .int .u64 (tot (l.map SlD.paid)), .int .i64 0]) L h')
  (hno : ¬ totOk l → ∀ h', PH.le h h' → K (.tuple #[.int .u64 0, .int .u64 0, .int .u64 0, .int .u64 0, .int .u64 0, .int .i64 10]) L h') : Spec Tryz.prog 14 [v] L h K := by
 have hd0' := hd0
 obtain ⟨va, vc, rfl, hc, hln, _, hd⟩ := hd0.open
 refine x_enter Tryz.func14 rfl (rs := [_, _, _, _, _, _]) rfl rfl mixed (by kernel_rfl) rfl rfl ?_
 simp -dsimp -implicitDefEqProofs (disch := first|with_reducible assumption|omega) [go_sem]
 refine xnew fun b8 n_b8 h_b8 => ?_
 try simp only [Apart] at n_b8
 simp -dsimp -implicitDefEqProofs (disch := first|with_reducible assumption|omega) [go_sem]
 refine xnew fun b13 n_b13 h_b13 => ?_
 try simp only [Apart] at n_b13
 have n13 := n_b13.1
 clear n_b13
 simp -dsimp -implicitDefEqProofs (disch := first|with_reducible assumption|omega) [go_sem]
 refine xloop (γ := Nat × PH) (0, h) (fun q => q.1 ≤ 5 ∧ PH.le h q.2 ∧ q.2 b13 = noC ∧ q.2 b8 = noC ∧ tfit l q.1) (fun q => [(15, .int .i64 q.1), (14, .int .i64 5), (13, .slice (some ⟨b13, 0, none⟩) 5 5), (8, .pointer (some ⟨b8, 0, none⟩)), (0, .slice va l.length vc)])
  (fun q => ⟨b13, 130, [.func (.func 56) #[] #[], .func (.func 57) #[] #[], .func (.func 58) #[] #[], .func (.func 59) #[] #[], .func (.func 60) #[] #[]], 5⟩ :: ⟨b8, 129, tcells l q.1, 5⟩ :: L) (fun q => q.2) (fun q => 5 - q.1) ?_ ?_ ?_ ?_
 ·exact ⟨by omega, PH.le_refl h, h_b13, h_b8, by simp [tfit]⟩
 ·simp [Ent, List.lookup, xEnv]
 ·exact Drop.refl _ _
 rintro ⟨k, h1⟩ ⟨i1, i2, i3, i4, i5⟩
 simp only at i1 i2 i3 i4 i5 ⊢
 have ks : k = 0 ∨ k = 1 ∨ k = 2 ∨ k = 3 ∨ k = 4 ∨ k = 5 := by omega
 rcases ks with rfl | rfl | rfl | rfl | rfl | rfl
 ·simp only [tcells, tcell, tfit, Nat.lt_irrefl, Nat.not_lt_zero, if_false, if_true, Nat.reduceLT, show ((0 : Nat) : Int) = 0 from rfl, false_implies, true_implies, true_and, and_true] at i5 ⊢
  simp -dsimp -implicitDefEqProofs (disch := first|with_reducible assumption|omega) [go_sem]
  refine Spec.ap (tot0_any _ (hd0'.up i2) hl hp fun h2 le2 ap => ?_)
  simp only [Ap] at ap
  obtain ⟨a13, a8, _⟩ := ap
  by_cases c : tot (l.map SlD.prize) ≤ 18446744073709551615
  ·rw [sumV_ok c]
   simp -dsimp -implicitDefEqProofs (disch := first|with_reducible assumption|omega) [go_sem]
   refine ⟨1, h2, ⟨by omega, i2.trans le2, a13, a8, ?_⟩, by omega, by simp [Ent, List.lookup], ?_⟩
   ·simp [c, i5]
   ·simp [tcell, tcells]
    exact Drop.refl _ _
  ·rw [sumV_no c]
   simp -dsimp -implicitDefEqProofs (disch := first|with_reducible assumption|omega) [go_sem]
   exact fin_tail (fin_tail (fin_here (hno (fun t => c (by simp only [totOk] at t; omega)) h2 (i2.trans le2))))
 ·simp only [tcells, tcell, tfit, Nat.lt_irrefl, Nat.not_lt_zero, if_false, if_true, Nat.reduceLT, show ((1 : Nat) : Int) = 1 from rfl, false_implies, true_implies, true_and, and_true] at i5 ⊢
  simp -dsimp -implicitDefEqProofs (disch := first|with_reducible assumption|omega) [go_sem]
  refine Spec.ap (tot1_any _ (hd0'.up i2) hl hp fun h2 le2 ap => ?_)
  simp only [Ap] at ap
  obtain ⟨a13, a8, _⟩ := ap
  by_cases c : tot (l.map SlD.over) ≤ 18446744073709551615
  ·rw [sumV_ok c]
   simp -dsimp -implicitDefEqProofs (disch := first|with_reducible assumption|omega) [go_sem]
   refine ⟨2, h2, ⟨by omega, i2.trans le2, a13, a8, ?_⟩, by omega, by simp [Ent, List.lookup], ?_⟩
   ·simp [c, i5]
   ·simp [tcell, tcells]
    exact Drop.refl _ _
  ·rw [sumV_no c]
   simp -dsimp -implicitDefEqProofs (disch := first|with_reducible assumption|omega) [go_sem]
   exact fin_tail (fin_tail (fin_here (hno (fun t => c (by simp only [totOk] at t; omega)) h2 (i2.trans le2))))
 ·simp only [tcells, tcell, tfit, Nat.lt_irrefl, Nat.not_lt_zero, if_false, if_true, Nat.reduceLT, show ((2 : Nat) : Int) = 2 from rfl, false_implies, true_implies, true_and, and_true] at i5 ⊢
  simp -dsimp -implicitDefEqProofs (disch := first|with_reducible assumption|omega) [go_sem]
  refine Spec.ap (tot2_any _ (hd0'.up i2) hl hp fun h2 le2 ap => ?_)
  simp only [Ap] at ap
  obtain ⟨a13, a8, _⟩ := ap
  by_cases c : tot (l.map SlD.fine) ≤ 18446744073709551615
  ·rw [sumV_ok c]
   simp -dsimp -implicitDefEqProofs (disch := first|with_reducible assumption|omega) [go_sem]
   refine ⟨3, h2, ⟨by omega, i2.trans le2, a13, a8, ?_⟩, by omega, by simp [Ent, List.lookup], ?_⟩
   ·simp [c, i5]
   ·simp [tcell, tcells]
    exact Drop.refl _ _
  ·rw [sumV_no c]
   simp -dsimp -implicitDefEqProofs (disch := first|with_reducible assumption|omega) [go_sem]
   exact fin_tail (fin_tail (fin_here (hno (fun t => c (by simp only [totOk] at t; omega)) h2 (i2.trans le2))))
 ·simp only [tcells, tcell, tfit, Nat.lt_irrefl, Nat.not_lt_zero, if_false, if_true, Nat.reduceLT, show ((3 : Nat) : Int) = 3 from rfl, false_implies, true_implies, true_and, and_true] at i5 ⊢
  simp -dsimp -implicitDefEqProofs (disch := first|with_reducible assumption|omega) [go_sem]
  refine Spec.ap (tot3_any _ (hd0'.up i2) hl hp fun h2 le2 ap => ?_)
  simp only [Ap] at ap
  obtain ⟨a13, a8, _⟩ := ap
  by_cases c : tot (l.map SlD.burned) ≤ 18446744073709551615
  ·rw [sumV_ok c]
   simp -dsimp -implicitDefEqProofs (disch := first|with_reducible assumption|omega) [go_sem]
   refine ⟨4, h2, ⟨by omega, i2.trans le2, a13, a8, ?_⟩, by omega, by simp [Ent, List.lookup], ?_⟩
   ·simp [c, i5]
   ·simp [tcell, tcells]
    exact Drop.refl _ _
  ·rw [sumV_no c]
   simp -dsimp -implicitDefEqProofs (disch := first|with_reducible assumption|omega) [go_sem]
   exact fin_tail (fin_tail (fin_here (hno (fun t => c (by simp only [totOk] at t; omega)) h2 (i2.trans le2))))
 ·simp only [tcells, tcell, tfit, Nat.lt_irrefl, Nat.not_lt_zero, if_false, if_true, Nat.reduceLT, show ((4 : Nat) : Int) = 4 from rfl, false_implies, true_implies, true_and, and_true] at i5 ⊢
  simp -dsimp -implicitDefEqProofs (disch := first|with_reducible assumption|omega) [go_sem]
  refine Spec.ap (tot4_any _ (hd0'.up i2) hl hp fun h2 le2 ap => ?_)
  simp only [Ap] at ap
  obtain ⟨a13, a8, _⟩ := ap
  by_cases c : tot (l.map SlD.paid) ≤ 18446744073709551615
  ·rw [sumV_ok c]
   simp -dsimp -implicitDefEqProofs (disch := first|with_reducible assumption|omega) [go_sem]
   refine ⟨5, h2, ⟨by omega, i2.trans le2, a13, a8, ?_⟩, by omega, by simp [Ent, List.lookup], ?_⟩
   ·simp [c, i5]
   ·simp [tcell, tcells]
    exact Drop.refl _ _
  ·rw [sumV_no c]
   simp -dsimp -implicitDefEqProofs (disch := first|with_reducible assumption|omega) [go_sem]
   exact fin_tail (fin_tail (fin_here (hno (fun t => c (by simp only [totOk] at t; omega)) h2 (i2.trans le2))))
 ·simp only [tcells, tcell, tfit, if_true, Nat.reduceLT, show ((5 : Nat) : Int) = 5 from rfl, true_implies] at i5 ⊢
  simp -dsimp -implicitDefEqProofs (disch := first|with_reducible assumption|omega) [go_sem]
  refine xanyl (.tk 0 (.tk 2 (.tk 4 (.tk 6 (.tk 8 (.tkl 1 (.tk 10 (.tkl 3 (.tk 11 (.tkl 5 (.tk 12 (.tkl 7 (.tk 13 (.tkl 9 (.tk 14 (.tk 15 (.fin))))))))))))))))) (by kernel_rfl) (by kernel_rfl) _ (Drop.refl _ _) ?_
  simp -dsimp -implicitDefEqProofs (disch := first|with_reducible assumption|omega) [go_sem]
  exact fin_tail (fin_tail (fin_here (hk i5 h1 i2)))
end Go.X

/- Lemmas and contracts for a statement about the given program. Conditions: as each says. -/
import Derived.Test.YtmmfajokfdaokaaGreatQ45
import Derived.Test.YtmmfajokfdaokaaGreatQ46
set_option linter.unusedVariables false
set_option linter.unusedSimpArgs false
set_option maxHeartbeats 12800000
set_option maxRecDepth 20000
namespace Go.X
open Go.RowKit Go.Proofs Go.Bl
variable {L:Own} {h:PH} {K:PK}
theorem chk0b:chkB (List.replicate 16 0) 128=true:=by decide
theorem get0b:∀ i:Nat,i<128→getB (List.replicate 16 0) i=false:=by decide +kernel
def fouK (g:GenD) (k:Nat):List Value:=(g.founders.take k).flatMap fouC
theorem fouK_len {g:GenD} {k:Nat} (hk:k≤g.founders.length):(fouK g k).length=k*2:=by
 rw [fouK,flatG_len fouC_len]; simp [hk]
theorem fouK_succ {g:GenD} {k:Nat} (hk:k<g.founders.length):fouK g (k+1)=fouK g k++fouC (gr zeroFou g.founders k):=by
 rw [fouK,List.take_succ_eq_append_getElem hk,gr_lt hk,fouK,List.flatMap_append]
 simp only [List.flatMap_cons,List.flatMap_nil,List.append_nil]
theorem gen24_any {g:GenD} (pv fv:Value) (hg:IsGen h pv fv g) (nf:g.founders.length≤1000) (hk:∀ h' qv gv,PH.le h h'→IsGen h' qv gv g→K (genV g qv gv) L h'):Spec Tryz.prog 13 [genV g pv fv] L h K:=by
 have hp:=hg.p
 obtain ⟨pa,pc,rfl,_⟩:=hp.open
 have hf:=hg.f
 obtain ⟨fa,fc,rfl,_,hfl,_,hfd⟩:=hf.open
 refine x_enter Tryz.func13 rfl (rs:=[_]) rfl rfl mixed (by kernel_rfl) rfl rfl ?_
 refine xx ?_
 refine xnew fun b1 n_b1 h_b1=>?_
 try simp only [Apart] at n_b1
 refine xx ?_
 refine xnew fun b2 n_b2 h_b2=>?_
 try simp only [Apart] at n_b2
 have n21:=n_b2.1
 refine xx ?_
 refine xnew fun b3 n_b3 h_b3=>?_
 try simp only [Apart] at n_b3
 have n32:=n_b3.1
 have n31:=n_b3.2.1
 clear n_b1 n_b2 n_b3
 refine xx ?_
 refine xloop (γ:=Nat×Option (Nat×Nat)) (0,none) (fun y=>y.1≤g.founders.length∧okO y.2 y.1∧apO y.2 [] h)
  (fun y=>[(16,.int .i64 y.1),(15,.int .i64 g.founders.length),(14,.slice fa g.founders.length fc),(1,.pointer (some ⟨b1,0,none⟩)),(2,.pointer (some ⟨b2,0,none⟩)),(3,.pointer (some ⟨b3,0,none⟩))])
  (fun y=>⟨b3,54,genC g (.slice pa g.purses.length pc) (ovs y.2 y.1),27⟩::⟨b2,54,genC ⟨zeroP,0,[],[]⟩ (.slice none 0 0) (.slice none 0 0),27⟩::⟨b1,28,genC g (.slice pa g.purses.length pc) (.slice fa g.founders.length fc),27⟩::oent 114 2 y.2 (fouK g y.1) L) (fun _=>h) (fun y=>g.founders.length-y.1) ?_ ?_ ?_ ?_
 ·exact ⟨Nat.zero_le _,rfl,trivial⟩
 ·simp [Ent,List.lookup,xEnv]
 ·exact Drop.refl _ _
 rintro ⟨k,o⟩ ⟨k1,k2,k3⟩
 simp only at k1 k2 k3 ⊢
 by_cases c1:k<g.founders.length
 ·simp -dsimp -implicitDefEqProofs (disch:=first|with_reducible assumption|omega) [go_sem,↓idxR zeroFou (by decide) hfd,fouC]
  refine xnew fun b5 n_b5 h_b5=>?_
  try simp only [Apart] at n_b5
  have n53:=n_b5.1
  have n52:=n_b5.2.1
  have n51:=n_b5.2.2.1
  clear n_b5
  simp -dsimp -implicitDefEqProofs (disch:=first|with_reducible assumption|omega) [go_sem,fouC]
  refine xnew fun b9 n_b9 h_b9=>?_
  try simp only [Apart] at n_b9
  have n93:=n_b9.2.1
  clear n_b9
  refine xx ?_
  refine xappend (t:=52) (e:=114) (sz:=2) (bytes:=16) (by kernel_rfl) tI_114 rfl rfl rfl rfl (by decide) [_,_,_,_,_] _ o k (fouK g k) k2 (fouK_len k1) (Src.own (b:=b9) (t:=114) (cap:=2) List.mem_cons_self) (m:=1) (news:=fouC (gr zeroFou g.founders k)) rfl (by intro u hu; simp only [fouC,List.mem_cons,List.not_mem_nil,or_false] at hu; rcases hu with rfl | rfl<;>rfl) (by simp [maxLen]; omega) (by omega) ?_
  intro o' l1 l2 l3
  simp only [List.cons_append,List.nil_append]
  have l4:apO o' [] h:=by
   cases o' with
   | none=>trivial
   | some p=>exact ⟨trivial,l2.2⟩
  refine xx ?_
  refine ⟨k+1,o',⟨by omega,l1,l4⟩,by omega,by simp [Ent,List.lookup],?_⟩
  rw [fouK_succ c1]
  exact (Drop.tail _ _ _).trans (Drop.tail _ _ _)
 ·obtain rfl:k=g.founders.length:=by omega
  obtain ⟨oa,oc,eo,_⟩:=ovs_open k2
  rw [eo]
  refine xx ?_
  refine fin_tail (fin_tail (fin_tail (fin_pub (e:=114) (sz:=2) (n:=g.founders.length) k2 (fouK_len (Nat.le_refl _)) (by omega) (L0:=[]) k3 fun h' le sl=>fin_here (hk h' _ _ le ⟨hg.ok,hg.m,hp.up le,⟨fouC_len,?_⟩,hg.fo⟩))))
  rw [eo] at sl
  have e:fouK g g.founders.length=g.founders.flatMap fouC:=by simp [fouK]
  rw [e] at sl
  exact sl
theorem small24_any {g:GenD} (pv fv:Value) (hg:IsGen h pv fv g) (hk:K (.bool (decide (g.purses.length≤100)&&decide (g.founders.length≤200))) L h):Spec Tryz.prog 10 [genV g pv fv] L h K:=by
 have hp:=hg.p
 obtain ⟨pa,pc,rfl,_⟩:=hp.open
 have hf:=hg.f
 obtain ⟨fa,fc,rfl,_⟩:=hf.open
 refine x_enter Tryz.func10 rfl (rs:=[_]) rfl rfl mixed (by kernel_rfl) rfl rfl ?_
 refine xx ?_
 refine xnew fun b1 n_b1 h_b1=>?_
 try simp only [Apart] at n_b1
 refine xx ?_
 by_cases c1:g.purses.length≤100
 ·by_cases c2:g.founders.length≤200
  ·rw [decide_eq_true c1,decide_eq_true c2] at hk
   refine xx ?_
   exact fin_tail (fin_here hk)
  ·rw [decide_eq_false c2,Bool.and_false] at hk
   refine xx ?_
   exact fin_tail (fin_here hk)
 ·rw [decide_eq_false c1,Bool.false_and] at hk
  refine xx ?_
  exact fin_tail (fin_here hk)
theorem new_fits {h:PH} {pv fv:Value} {g:GenD} (hg:IsGen h pv fv g) (hb:newB g=true):fitsS (newS g)=true:=by
 simp only [newB,Bool.and_eq_true,decide_eq_true_eq,List.all_eq_true,wi_iff] at hb
 obtain ⟨⟨⟨⟨⟨b1,b2⟩,b3⟩,b4⟩,b5⟩,b6⟩:=hb
 have hpw:=hg.p.word
 have hpos:∀ i,0≤at0 g.purses i:=fun i=>(hpw i).1
 have hbal:0≤tot (g.founders.map FouD.bal):=tot_nonneg (at0_map FouD.bal g.founders fun f hf=>(hg.fo f hf).b.1)
 have hst:∀ j,j<(newS g).members.length→(gr zeroM (newS g).members j).status=2:=fun j hj=>by
  have:gr zeroM (newS g).members j∈g.founders.map (memF g.par):=gr_mem hj
  obtain ⟨f,_,e⟩:=List.mem_map.1 this
  rw [← e]; rfl
 have eA:tot (genAll g)=tot g.purses+tot (g.founders.map FouD.bal):=tot_append _ _
 have eM:(newS g).members.map MemD.bal=g.founders.map FouD.bal:=by
  show (g.founders.map (memF g.par)).map MemD.bal=_
  rw [List.map_map]; rfl
 refine fitsT_iff.2 ⟨b1,by show wi 0 0 1073741824=true; decide,by show wi 0 0 1073741824=true; decide,?_,?_,by rfl,by rfl,?_,?_⟩
 ·simp only [pursesB,Bool.and_eq_true,List.all_eq_true,decide_eq_true_eq,wi_iff]
  refine ⟨b3,fun z hz=>?_⟩
  obtain ⟨k,hk,rfl⟩:=List.mem_iff_getElem.1 (show z∈g.purses from hz)
  have:=at0_le_tot hpos k
  rw [at0_lt hk]
  omega
 ·simp only [membersB,Bool.and_eq_true,List.all_eq_true,decide_eq_true_eq]
  refine ⟨⟨⟨by show (g.founders.map (memF g.par)).length≤128; rw [List.length_map]; exact b4,fun m hm=>?_⟩,?_⟩,?_⟩
  ·obtain ⟨f,hf,rfl⟩:=List.mem_map.1 (show m∈g.founders.map (memF g.par) from hm)
   have h1:=b5 f hf
   simp only [fouB,Bool.and_eq_true,decide_eq_true_eq,wi_iff] at h1
   have hw:=whole_facts b1 h1.1.2
   obtain ⟨s1,s2⟩:=parR_all b1
   have f2:=scoresB_facts s2
   have f3:=parR_streak b1
   refine ⟨?_,?_⟩
   ·have hsh:shapeB g.par (memF g.par f)=true:=by
     rw [shapeB,if_pos (.inl rfl)]
     simp only [Bool.and_eq_true,decide_eq_true_eq]
     exact ⟨⟨h1.1.2,h1.2⟩,hw⟩
    have hstd:stdL (trimM g.par (memF g.par f))=stdL (memF g.par f):=by
     simp only [stdL,trimM,memF,List.cons.injEq,and_true,true_and]
     omega
    have ho:0≤(memF g.par f).owner∧(memF g.par f).owner<64:=by show 0≤f.own∧f.own<64; omega
    show mfitsB g.par (memF g.par f)=true
    rw [mfitsB,decide_eq_true ho.1,decide_eq_true ho.2,decide_eq_true hstd,hsh]; rfl
   ·rw [acctT_iff]
    show 0≤f.own∧f.own<(g.purses.length:Int)
    omega
  ·rw [row_iffB]
   exact ⟨List.nodup_nil,fun z=>⟨fun hz=>(by cases hz),fun ⟨j,_,hj,e⟩=>by rw [hst j hj] at e; cases e⟩⟩
  ·rw [row_iffB]
   exact ⟨List.nodup_nil,fun z=>⟨fun hz=>(by cases hz),fun ⟨j,_,hj,e⟩=>by rw [hst j hj] at e; cases e⟩⟩
 ·simp only [marksB,rollB,Bool.and_eq_true,List.all_eq_true,decide_eq_true_eq]
  refine ⟨⟨⟨by show (0:Nat)≤8; decide,chk0b⟩,fun b hb=>(by cases hb)⟩,fun i hi=>?_⟩
  rw [Bool.or_eq_true,Bool.not_eq_true']
  exact .inr (get0b i (List.mem_range.1 hi))
 ·simp only [holdsB,Bool.and_eq_true,decide_eq_true_eq]
  refine ⟨⟨by show tot (genAll g)+0≤g.most; omega,b2⟩,?_⟩
  have e1:sStk (newS g)=tot (g.founders.map FouD.bal):=by rw [sStk,eM]
  have e2:sPur (newS g)=tot g.purses:=rfl
  have e3:sPool (newS g)=0:=rfl
  have e4:sDue (newS g)=0:=rfl
  rw [sAll,e1,e2,e3,e4]
  show tot (g.founders.map FouD.bal)+tot g.purses+0+0+0+0=tot (genAll g)+0
  omega
theorem statebegins_any (w:Value) (hG:∃ q:(Value×Value)×GenD,w=genV q.2 q.1.1 q.1.2∧IsGen h q.1.1 q.1.2 q.2) (hk:∀ h',PH.le h h'→K (.bool true) L h'):Spec Tryz.prog 3 [w] L h K:=by
 obtain ⟨⟨⟨pv,fv⟩,g⟩,rfl,hg⟩:=hG
 simp only at hg ⊢
 have hp:=hg.p
 obtain ⟨pa,pc,rfl,_⟩:=hp.open
 have hf:=hg.f
 obtain ⟨fa,fc,rfl,_,hfl,_,hfd⟩:=hf.open
 refine x_enter Tryz.func3 rfl (rs:=[_]) rfl rfl mixed (by kernel_rfl) rfl rfl ?_
 refine xx ?_
 refine xnew fun b1 n_b1 h_b1=>?_
 try simp only [Apart] at n_b1
 refine xx ?_
 refine Spec.ap (awake24_any fun h1 le1 ap=>?_)
 have a1:h1 b1=noC:=ap.1
 clear ap
 refine xx ?_
 refine small24_any _ _ (hg.up le1) ?_
 by_cases c1:g.purses.length≤100
 rotate_left
 ·rw [decide_eq_false c1,Bool.false_and]
  refine xx ?_
  exact fin_tail (fin_here (hk h1 le1))
 by_cases c2:g.founders.length≤200
 rotate_left
 ·rw [decide_eq_false c2,Bool.and_false]
  refine xx ?_
  exact fin_tail (fin_here (hk h1 le1))
 rw [decide_eq_true c1,decide_eq_true c2]
 refine xx ?_
 refine Spec.ap (new_any _ _ (hg.up le1) (by omega) fun h2 u2 le2 i2 ap=>?_)
 have a2:h2 b1=noC:=ap.1
 clear ap
 obtain ⟨S,hS⟩:∃ S,S=newR g:=⟨_,rfl⟩
 rw [← hS] at i2 ⊢
 have i20:=i2
 obtain ⟨pa2,pc2,ma2,mc2,ea2,ec2,xa2,xc2,oa2,oc2,da2,dc2,ta2,tc2,ka2,kc2,ra2,rc2,rfl⟩:=i2.slices
 refine xx ?_
 refine xnew fun b3 n_b3 h_b3=>?_
 try simp only [Apart] at n_b3
 have n31:=n_b3.1
 refine xx ?_
 refine Spec.ap (gen24_any _ _ (hg.up (le1.trans le2)) (by omega) fun h3 qv gv le3 ig ap=>?_)
 have a33:h3 b3=noC:=ap.1
 have a31:h3 b1=noC:=ap.2.1
 clear ap
 have gs:=ig.p.open
 obtain ⟨qa,qc,rfl,_⟩:=gs
 have gs:=ig.f.open
 obtain ⟨ra9,rc9,rfl,_⟩:=gs
 refine xx ?_
 refine Spec.ap (rnew_any _ _ ig (by omega) (by omega) fun h4 u4 le4 i4 ap=>?_)
 have a43:h4 b3=noC:=ap.1
 have a41:h4 b1=noC:=ap.2.1
 clear ap
 rw [← hS] at i4 ⊢
 have i40:=i4
 obtain ⟨pa3,pc3,ma3,mc3,ea3,ec3,xa3,xc3,oa3,oc3,da3,dc3,ta3,tc3,ka3,kc3,ra3,rc3,rfl⟩:=i4.slices
 refine xx ?_
 refine xnew fun b5 n_b5 h_b5=>?_
 try simp only [Apart] at n_b5
 have n53:=n_b5.1
 have n51:=n_b5.2.1
 refine xx ?_
 have few:S.members.length≤200∧S.pool.length=0∧S.dues.length=0∧S.motions.length=0:=by
  rw [hS,newR]
  split
  ·exact ⟨by show (g.founders.map (memF g.par)).length≤200; rw [List.length_map]; exact c2,rfl,rfl,rfl⟩
  ·exact ⟨by decide,rfl,rfl,rfl⟩
 have le04:=le1.trans (le2.trans (le3.trans le4))
 cases hb:newB g with
 | false =>
  have eS:S=zeroS:=by rw [hS,newR,hb]; rfl
  refine xx ?_
  refine Spec.ap (plain24_any (s:=S) (v:=⟨.slice pa2 S.purses.length pc2,.slice ma2 S.members.length mc2,.slice ea2 S.entry.length ec2,.slice xa2 S.exit.length xc2,.slice oa2 S.pool.length oc2,.slice da2 S.dues.length dc2,.slice ta2 S.motions.length tc2,.slice ka2 S.marks.length kc2,.slice ra2 S.ring.length rc2⟩) (i20.up (le3.trans le4)) (by omega) (by omega) (by omega) (by omega) fun h5 u5 le5 i5 ap=>?_)
  clear ap
  have i50:=i5
  obtain ⟨pa4,pc4,ma4,mc4,ea4,ec4,xa4,xc4,oa4,oc4,da4,dc4,ta4,tc4,ka4,kc4,ra4,rc4,rfl⟩:=i5.slices
  refine xx ?_
  subst eS
  refine same24_like (s:=zeroS) (v:=⟨.slice pa4 zeroS.purses.length pc4,.slice ma4 zeroS.members.length mc4,.slice ea4 zeroS.entry.length ec4,.slice xa4 zeroS.exit.length xc4,.slice oa4 zeroS.pool.length oc4,.slice da4 zeroS.dues.length dc4,.slice ta4 zeroS.motions.length tc4,.slice ka4 zeroS.marks.length kc4,.slice ra4 zeroS.ring.length rc4⟩) (u:=nilV) i50 (isSt_zero h5) ?_
  refine xx ?_
  exact fin_tail (fin_tail (fin_tail (fin_here (hk h5 (le04.trans le5)))))
 | true =>
  have eS:S=newS g:=by rw [hS,newR,hb]; rfl
  have hft:fitsS S=true:=by rw [eS]; exact new_fits hg hb
  have fewS:FewS S:=by
   rw [eS]
   have:(newS g).members.length=g.founders.length:=List.length_map _
   exact ⟨by show g.purses.length≤_; omega,by omega,Nat.zero_le _,Nat.zero_le _,Nat.zero_le _,Nat.zero_le _,Nat.zero_le _,Nat.zero_le _⟩
  refine xx ?_
  refine xanyl (.tk 0 (.tk 1 (.tk 2 (.tkl 3 (.tkl 5 (.or true 4 (.or true 6 (.tk 7 (.tk 8 (.tkl 9 (.or true 10 (.tk 11 (.tk 12 (.fin))) (.nil))))) (.nil)) (.nil))))))) (by kernel_rfl) (by kernel_rfl) _ (Drop.refl _ _) ?_
  refine xx ?_
  refine Spec.ap (plain24_any (s:=S) (v:=⟨.slice pa2 S.purses.length pc2,.slice ma2 S.members.length mc2,.slice ea2 S.entry.length ec2,.slice xa2 S.exit.length xc2,.slice oa2 S.pool.length oc2,.slice da2 S.dues.length dc2,.slice ta2 S.motions.length tc2,.slice ka2 S.marks.length kc2,.slice ra2 S.ring.length rc2⟩) (i20.up (le3.trans le4)) (by omega) (by omega) (by omega) (by omega) fun h5 u5 le5 i5 ap=>?_)
  clear ap
  have i50:=i5
  obtain ⟨pa4,pc4,ma4,mc4,ea4,ec4,xa4,xc4,oa4,oc4,da4,dc4,ta4,tc4,ka4,kc4,ra4,rc4,rfl⟩:=i5.slices
  refine xkp (Drop.forget le5) ?_
  refine xx ?_
  refine same24_like (s:=S) (v:=⟨.slice pa4 S.purses.length pc4,.slice ma4 S.members.length mc4,.slice ea4 S.entry.length ec4,.slice xa4 S.exit.length xc4,.slice oa4 S.pool.length oc4,.slice da4 S.dues.length dc4,.slice ta4 S.motions.length tc4,.slice ka4 S.marks.length kc4,.slice ra4 S.ring.length rc4⟩) (u:=⟨.slice pa3 S.purses.length pc3,.slice ma3 S.members.length mc3,.slice ea3 S.entry.length ec3,.slice xa3 S.exit.length xc3,.slice oa3 S.pool.length oc3,.slice da3 S.dues.length dc3,.slice ta3 S.motions.length tc3,.slice ka3 S.marks.length kc3,.slice ra3 S.ring.length rc3⟩) i50 (i40.up le5) ?_
  first
  | refine xkp (Drop.forget le5) ?_
  | skip
  refine xx ?_
  refine fits_any (s:=S) ⟨.slice pa2 S.purses.length pc2,.slice ma2 S.members.length mc2,.slice ea2 S.entry.length ec2,.slice xa2 S.exit.length xc2,.slice oa2 S.pool.length oc2,.slice da2 S.dues.length dc2,.slice ta2 S.motions.length tc2,.slice ka2 S.marks.length kc2,.slice ra2 S.ring.length rc2⟩ (i20.up (le3.trans (le4.trans le5))) fewS ?_
  rw [hft]
  first
  | refine xkp (Drop.forget le5) ?_
  | skip
  refine xx ?_
  exact fin_tail (fin_tail (fin_tail (fin_here (hk h5 (le04.trans le5)))))
end Go.X

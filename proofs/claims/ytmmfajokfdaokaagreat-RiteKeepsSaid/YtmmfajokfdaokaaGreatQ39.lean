/- Lemmas and contracts. Conditions: as each says. -/
import Derived.Test.YtmmfajokfdaokaaGreatQ38
set_option linter.unusedVariables false
set_option linter.unusedSimpArgs false
set_option maxHeartbeats 12800000
set_option maxRecDepth 20000
namespace Go.X
open Go.RowKit Go.Proofs Go.Bl
variable {L:Own} {h:PH} {K:PK}
def Ygz (l:List Zwa):Bool:=decide (l.length≤60)&&l.all (fun a=>Zfa (dl a.2.2))
theorem Znw {l:List Zwa}{i:Nat}(hi:i<l.length):gr Ub l i∈l:=by rw[Yl hi];exact List.getElem_mem hi
theorem fewA_iff {l:List Zwa}:Ygz l=true↔l.length≤60∧∀i,i<l.length→Zfa (dl (gr Ub l i).2.2)=true:=by
 simp only[Ygz,Bool.and_eq_true,decide_eq_true_eq,List.all_eq_true];refine and_congr Iff.rfl ⟨fun q i hi=>q _ (Znw hi),fun q a ha=>?_⟩;obtain⟨i,hi,rfl⟩:=List.mem_iff_getElem.1 ha;rw[← Yl (z:=Ub) hi];exact q i hi
theorem Zsw {l:List Zwa}{a:Option Addr}{c:Nat}(hA:Wjw h (.slice a l.length c) l)(hk:K (.bool (Ygz l)) L h):Zb Tryz.prog 31 [.slice a l.length c,.int .i64 60] L h K:=by
 have no:Ygz l=false→K (.bool false) L h:=fun e=>by rwa [e]at hk
 have hs:=hA.r;obtain⟨_,_,_,_,hln,_⟩:=hA.r.open;refine ZR Tryz.func31 rfl (rs:=[_]) rfl rfl ZY (by kernel_rfl) rfl rfl ?_;refine xx ?_;refine Vj (0:Nat) (fun k=>k≤l.length∧∀i,i<k→Zfa (dl (gr Ub l i).2.2)=true) (fun k=>[(11,.int .i64 k),(10,.int .i64 l.length),(9,.slice a l.length c),(1,.int .i64 60),(0,.slice a l.length c)]) (fun k=>l.length-k) ?_ ?_ ?_
 ·exact⟨by omega,fun e=>by omega⟩
 ·simp [Ent,List.lookup,WM]
 rintro k ⟨k1,k2⟩;by_cases c1:k<l.length
 ·obtain⟨A,hgA⟩:∃A,A=gr Ub l k:=⟨_,rfl⟩
  have hd0:Zr h A.2.1 A.2.2:=by rw[hgA];exact hA.d _ (Znw c1)
  have nf:Zfa (dl A.2.2)=false→Ygz l=false:=fun e=>by
   cases hh:Ygz l with
   | false=>rfl
   | true=>have:=(fewA_iff.1 hh).2 k c1;rw[← hgA,e]at this;cases this
  obtain⟨kd,dv,ds⟩:=A;simp only at hd0 nf;obtain⟨a2,c2,rfl,hc,hl,_,hd⟩:=hd0.open;simp -dsimp -implicitDefEqProofs (disch:=first|with_reducible assumption|omega) [go_sem,↓Zam Ub (by decide) hs,Zfj,← hgA];refine Z6 fun b6 nb6 zb6=>?_;(try simp only[ZU]at nb6);simp -dsimp -implicitDefEqProofs (disch:=first|with_reducible assumption|omega) [go_sem,↓Zam Ub (by decide) hs,Zfj,← hgA];by_cases c3:(64:Int)<ds.length
  ·have hf:Zfa (dl ds)=false:=by
    cases hh:Zfa (dl ds) with
    | false=>rfl
    | true=>have:=(few25_iff.1 hh).1;omega
   refine xx ?_;exact ZP (ZO (no (nf hf)))
  refine xx ?_;refine Vj (0:Nat) (fun j=>j≤ds.length∧∀i,i<j→(gq ds i).2.bits.length≤100) (fun j=>[(22,.int .i64 j),(21,.int .i64 ds.length),(20,.slice a2 ds.length c2),(11,.int .i64 k),(10,.int .i64 l.length),(9,.slice a l.length c),(1,.int .i64 60),(0,.slice a l.length c)]) (fun j=>ds.length-j) ?_ ?_ ?_
  ·exact⟨by omega,fun e=>by omega⟩
  ·simp [Ent,List.lookup,WM]
  rintro j ⟨j1,j2⟩;by_cases c4:j<ds.length
  ·have hi:=(hd.at c4).i;obtain⟨x1,y1,hv,hy,hly,_⟩:=hi.open;simp -dsimp -implicitDefEqProofs (disch:=first|with_reducible assumption|omega) [go_sem,↓Yvn hd];refine Z6 fun b8 nb8 zb8=>?_;(try simp only[ZU]at nb8);simp -dsimp -implicitDefEqProofs (disch:=first|with_reducible assumption|omega) [go_sem,hv];by_cases c5:(100:Int)<(gq ds j).2.bits.length
   ·have hf:Zfa (dl ds)=false:=by
     cases hh:Zfa (dl ds) with
     | false=>rfl
     | true=>have:=(few25_iff.1 hh).2 j c4;omega
    refine xx ?_;exact ZP (ZP (ZO (no (nf hf))))
   ·refine xx ?_;refine⟨j+1,⟨by omega,fun i hi=>?_⟩,by omega,by simp [Ent,List.lookup],Za.tail _ _ _⟩;by_cases e:i=j
    ·subst e;omega
    ·exact j2 i (by omega)
  ·refine xx ?_;refine⟨k+1,⟨by omega,fun i hi=>?_⟩,by omega,by simp [Ent,List.lookup],Za.tail _ _ _⟩;by_cases e:i=k
   ·subst e;rw[← hgA];exact(few25_iff (l:=ds)).2 ⟨by omega,fun i hi=>j2 i (by omega)⟩
   ·exact k2 i (by omega)
 ·have hkl:k=l.length:=by omega
  subst hkl;have e:Ygz l=decide ((l.length:Int)≤60):=by
   by_cases c:l.length≤60
   ·rw[fewA_iff.2 ⟨c,k2⟩,decide_eq_true (by omega)]
   ·rw[decide_eq_false (by omega)]
    cases hh:Ygz l with
    | false=>rfl
    | true=>exact absurd (fewA_iff.1 hh).1 c
  rw[e]at hk;refine xx ?_;exact ZO hk
theorem Yye (a b c d:Int)(x y:Operand)(K:Value→Prop)(t:Zq K):Uj Tryz.prog .neq 71 x y (.agg #[.int .u64 a,.int .u64 b,.int .u64 c,.int .i64 d]) (.agg #[.int .u64 a,.int .u64 b,.int .u64 c,.int .i64 d]) K t=K (.bool false):=Zpl _ (by kernel_rfl) (by kernel_rfl) x y K t
structure RkG where
 b:Nat
 h:PH
 u:SV
theorem Ziw (w av:Value)(hG:∃q:(Value×Value)×ZA,w=Ytd q.2 q.1.1 q.1.2∧ZD h q.1.1 q.1.2 q.2)(hA:∃l,Wjw h av l)(hk:∀h',PH.le h h'→K (.bool true) L h'):Zb Tryz.prog 8 [w,av] L h K:=by
 obtain⟨⟨⟨pv,fv⟩,g⟩,rfl,hg⟩:=hG;obtain⟨l,ha⟩:=hA;simp only at hg ⊢;obtain⟨pa,pc,rfl,_⟩:=hg.p.open;obtain⟨fa,fc,rfl,_⟩:=hg.f.open;obtain⟨aa,ac,rfl,_⟩:=ha.r.open;refine ZR Tryz.func8 rfl (rs:=[_]) rfl rfl ZY (by kernel_rfl) rfl rfl ?_;refine xx ?_;refine Z6 fun b2 nb2 zb2=>?_;(try simp only[ZU]at nb2);refine xx ?_;refine Zb.ap (Zpd fun h1 le1 ap=>?_);have a1:h1 b2=noC:=ap.1;clear ap;refine xx ?_;refine Znq _ _ (hg.up le1) ?_;by_cases c1:g.purses.length≤100
 rotate_left
 ·rw[decide_eq_false c1,Bool.false_and];refine xx ?_;exact ZP (ZO (hk h1 le1))
 by_cases c2:g.founders.length≤200
 rotate_left
 ·rw[decide_eq_false c2,Bool.and_false];refine xx ?_;exact ZP (ZO (hk h1 le1))
 rw[decide_eq_true c1,decide_eq_true c2];refine xx ?_;refine Zsw (ha.up le1) ?_
 cases hfa:Ygz l with
 | false =>
  refine xx ?_;exact ZP (ZO (hk h1 le1))
 | true =>
 obtain⟨hl60,hfa⟩:=fewA_iff.1 hfa;refine xx ?_;refine Zb.ap (Zyp _ _ (hg.up le1) (by omega) fun h2 u2 le2 i2 ap=>?_);have a2:h2 b2=noC:=ap.1;clear ap;obtain⟨S,hS⟩:∃S,S=Yev g:=⟨_,rfl⟩
 rw[← hS]at i2 ⊢;have i20:=i2;obtain⟨pa2,pc2,ma2,mc2,ea2,ec2,xa2,xc2,oa2,oc2,da2,dc2,ta2,tc2,ka2,kc2,ra2,rc2,rfl⟩:=i2.slices;have le02:=le1.trans le2
 cases hb:Zjg g with
 | false =>
  refine xx ?_;refine Z6 fun b5 nb5 zb5=>?_;(try simp only[ZU]at nb5);refine xx ?_;exact ZP (ZP (ZO (hk h2 le02)))
 | true =>
 have eS:S=Zjb g:=by rw[hS,Yev,hb];rfl
 have hft:YQ S=true:=by rw[eS];exact Yjl hg hb
 have hSd:S.dues.length=0:=by rw[eS];rfl
 have hSe:S.ep=0:=by rw[eS];rfl
 clear hS eS;refine xx ?_;refine Z6 fun b5 nb5 zb5=>?_;(try simp only[ZU]at nb5);have n52:=nb5.1;clear nb5;refine xx ?_;refine YZ (γ:=KpG) ⟨0,h2,⟨.slice pa2 S.purses.length pc2,.slice ma2 S.members.length mc2,.slice ea2 S.entry.length ec2,.slice xa2 S.exit.length xc2,.slice oa2 S.pool.length oc2,.slice da2 S.dues.length dc2,.slice ta2 S.motions.length tc2,.slice ka2 S.marks.length kc2,.slice ra2 S.ring.length rc2⟩,S⟩ (fun y=>y.k≤l.length∧PH.le h2 y.h∧Zs y.h y.u y.s∧YQ y.s=true∧y.s.ep≤y.k∧y.s.dues.length≤384*y.k∧y.h b5=noC)
  (fun y=>[(36,.int .i64 y.k),(35,.int .i64 l.length),(34,.slice aa l.length ac),(5,.pointer (some ⟨b5,0,none⟩))])
  (fun y=>⟨b5,39,stC y.s y.u,41⟩::L) (fun y=>y.h) (fun y=>l.length-y.k) ?_ ?_ ?_ ?_
 ·exact⟨Nat.zero_le _,PH.le_refl _,i20,hft,by simp only;omega,by simp only;omega,zb5⟩
 ·simp [Ent,List.lookup,WM]
 ·exact(Za.perm _ (List.Perm.swap _ _ _)).trans (Za.tail _ _ _)
 clear i20 i2 hft hSd hSe hb zb5;rintro⟨k,h3,u,s⟩ ⟨k1,le3,is,hf,hep,hdl,a5⟩;simp only at k1 le3 is hf hep hdl a5 ⊢;have le03:=le02.trans le3;have own:=Zqo hf (by omega);by_cases c3:k<l.length
 rotate_left
 ·obtain rfl:k=l.length:=by omega
  have is0:=is;obtain⟨pa3,pc3,ma3,mc3,ea3,ec3,xa3,xc3,oa3,oc3,da3,dc3,ta3,tc3,ka3,kc3,ra3,rc3,rfl⟩:=is.slices;refine xx ?_;refine U8 (s:=s) ⟨.slice pa3 s.purses.length pc3,.slice ma3 s.members.length mc3,.slice ea3 s.entry.length ec3,.slice xa3 s.exit.length xc3,.slice oa3 s.pool.length oc3,.slice da3 s.dues.length dc3,.slice ta3 s.motions.length tc3,.slice ka3 s.marks.length kc3,.slice ra3 s.ring.length rc3⟩ is0 (Ydc own) ?_;rw[hf];refine xx ?_;exact ZP (ZO (hk h3 le03))
 obtain⟨A,hgA⟩:∃A,A=gr Ub l k:=⟨_,rfl⟩
 have hd0:Zr h A.2.1 A.2.2:=by rw[hgA];exact ha.d _ (Znw c3)
 have hfk:=hfa k c3;rw[← hgA]at hfk;obtain⟨kd,dv,ds⟩:=A;simp only at hd0 hfk;obtain⟨a2',c2',rfl,hc,hl,_,_⟩:=hd0.open;have hds:=(few25_iff.1 hfk).1;have har:Zh Zfj 2 h3 (.slice aa l.length ac) l:=ha.r.up le03;have is0:=is;obtain⟨pa3,pc3,ma3,mc3,ea3,ec3,xa3,xc3,oa3,oc3,da3,dc3,ta3,tc3,ka3,kc3,ra3,rc3,rfl⟩:=is.slices;simp -dsimp -implicitDefEqProofs (disch:=first|with_reducible assumption|omega) [go_sem,↓Zam Ub (by decide) har,Zfj,← hgA];refine Z6 fun b8 nb8 zb8=>?_;(try simp only[ZU]at nb8);have n85:=nb8.1;clear nb8;simp -dsimp -implicitDefEqProofs (disch:=first|with_reducible assumption|omega) [go_sem,↓Zam Ub (by decide) har,Zfj,← hgA];by_cases c4:kd=1
 rotate_left
 ·refine xx ?_;have he:s.ep<1073741824:=by omega
  have e0:Zdc s=0:=by rw[Zdc,if_pos hf,if_neg (by omega)]
  refine Zb.ap (Ygs (s:=s) ⟨.slice pa3 s.purses.length pc3,.slice ma3 s.members.length mc3,.slice ea3 s.entry.length ec3,.slice xa3 s.exit.length xc3,.slice oa3 s.pool.length oc3,.slice da3 s.dues.length dc3,.slice ta3 s.motions.length tc3,.slice ka3 s.marks.length kc3,.slice ra3 s.ring.length rc3⟩ is0 own (by omega) (fun _ _ _ h4 u4 q4 le4 it ir ap=>?_) (fun c=>absurd e0 c));have a45:h4 b5=noC:=ap.2.1;clear ap;have tf:=Zwk is0 hf he;have td:=Yan is0 hf he;have te:=Ynf s;obtain⟨T,hT⟩:∃T,T=UC s:=⟨_,rfl⟩
  obtain⟨R,hR⟩:∃R,R=Zcz s:=⟨_,rfl⟩
  rw[← hT]at it tf td te ⊢;rw[← hR]at ir ⊢;have it0:=it;obtain⟨pa4,pc4,ma4,mc4,ea4,ec4,xa4,xc4,oa4,oc4,da4,dc4,ta4,tc4,ka4,kc4,ra4,rc4,rfl⟩:=it.slices;obtain⟨qoa,qoc,qla,qlc,qsa,qsc,qda,qdc,rfl⟩:=ir.slices;refine xx ?_;refine Z6 fun b9 nb9 zb9=>?_;(try simp only[ZU]at nb9);have n98:=nb9.1;have n95:=nb9.2.1;refine xx ?_;refine Z6 fun b10 nb10 zb10=>?_;(try simp only[ZU]at nb10);have n109:=nb10.1;have n108:=nb10.2.1;have n105:=nb10.2.2.1;clear nb9 nb10;refine xx ?_;exact⟨⟨k+1,h4,⟨.slice pa4 T.purses.length pc4,.slice ma4 T.members.length mc4,.slice ea4 T.entry.length ec4,.slice xa4 T.exit.length xc4,.slice oa4 T.pool.length oc4,.slice da4 T.dues.length dc4,.slice ta4 T.motions.length tc4,.slice ka4 T.marks.length kc4,.slice ra4 T.ring.length rc4⟩,T⟩,⟨by simp only;omega,le3.trans le4,it0,tf,by simp only;omega,by simp only;omega,a45⟩,by simp only;omega,by simp [Ent,List.lookup],(Za.tail _ _ _).trans ((Za.tail _ _ _).trans (Za.tail _ _ _))⟩
 subst c4;refine xx ?_;have kdq:=Zyg (s:=s) (xs:=V3 (dl ds));obtain⟨T,hT⟩:∃T,T=(Vm s (V3 (dl ds))).1:=⟨_,rfl⟩
 obtain⟨E,hE⟩:∃E,E=(Vm s (V3 (dl ds))).2.2:=⟨_,rfl⟩
 rw[← hT,← hE]at kdq;refine Wr (.tk 1 (.tkl 0 (.tkl 2 (.o1 3 (.o1 4 (.tk 5 (.tk 6 (.tk 7 (.tk 8 (.o1 9 (.o2 10 (.tk 11 (.tk 12 (.fin))) (.nil)) (.nil)))))) (.o1 9 (.o1 4 (.tk 5 (.tk 6 (.tk 7 (.tk 8 (.o2 10 (.tk 11 (.tk 12 (.fin))) (.nil)))))) (.nil)) (.nil))) (.o1 9 (.o1 3 (.o1 4 (.tk 5 (.tk 6 (.tk 7 (.tk 8 (.o2 10 (.tk 11 (.tk 12 (.fin))) (.nil)))))) (.nil)) (.nil)) (.nil)))))) (by kernel_rfl) (by kernel_rfl) [(36,.int .i64 k),(35,.int .i64 l.length),(34,.slice aa l.length ac),(5,.pointer (some ⟨b5,0,none⟩)),(8,.pointer (some ⟨b8,0,none⟩))] _ (γ:=RkG)
  (fun y=>PH.le h3 y.h∧Zs y.h y.u T∧(E=0→YQ T=true)∧y.h b5=noC∧y.h y.b=noC∧b8≠y.b∧b5≠y.b)
  (fun y=>[(36,.int .i64 k),(35,.int .i64 l.length),(34,.slice aa l.length ac),(5,.pointer (some ⟨b5,0,none⟩)),(8,.pointer (some ⟨b8,0,none⟩)),(12,.pointer (some ⟨y.b,0,none⟩)),(14,.int .i64 E)])
  (fun y=>⟨y.b,39,stC T y.u,41⟩::⟨b8,95,[.int .i64 1,.slice a2' ds.length c2'],2⟩::⟨b5,39,stC s ⟨.slice pa3 s.purses.length pc3,.slice ma3 s.members.length mc3,.slice ea3 s.entry.length ec3,.slice xa3 s.exit.length xc3,.slice oa3 s.pool.length oc3,.slice da3 s.dues.length dc3,.slice ta3 s.motions.length tc3,.slice ka3 s.marks.length kc3,.slice ra3 s.ring.length rc3⟩,41⟩::L) (fun y=>y.h) (by simp [Ent,List.lookup]) (Za.refl _ _) ?_ ?_
 ·refine xx ?_;refine YF ?_ ?_
  ·refine xx ?_;refine Zb.ap (Zet (hd0.up le03) hds fun h4 r le4 ib ap=>?_);have a48:h4 b8=noC:=ap.1;have a45:h4 b5=noC:=ap.2.1;clear ap;have ib0:=ib;obtain⟨ba,bc,rfl,_⟩:=ib0.open;refine xkp (Za.forget le4) ?_;refine xx ?_;refine YF ?_ ?_
   ·refine xx ?_;refine Zb.ap (U9 (s:=s) (v:=⟨.slice pa3 s.purses.length pc3,.slice ma3 s.members.length mc3,.slice ea3 s.entry.length ec3,.slice xa3 s.exit.length xc3,.slice oa3 s.pool.length oc3,.slice da3 s.dues.length dc3,.slice ta3 s.motions.length tc3,.slice ka3 s.marks.length kc3,.slice ra3 s.ring.length rc3⟩) (xs:=V3 (dl ds)) (is0.up le4) own ib fun h5 v5 le5 i5 ft ap=>?_);rw[← hT]at i5;rw[← hT,← hE]at ft;rw[← hT,← hE];have a58:h5 b8=noC:=ap.1;have a55:h5 b5=noC:=ap.2.1;clear ap;have i50:=i5;obtain⟨pa5,pc5,ma5,mc5,ea5,ec5,xa5,xc5,oa5,oc5,da5,dc5,ta5,tc5,ka5,kc5,ra5,rc5,rfl⟩:=i5.slices;refine xkp (Za.forget (le4.trans le5)) ?_;refine xx ?_;refine Z6 fun b12 nb12 zb12=>?_;(try simp only[ZU]at nb12);refine xkp ((Za.tail _ _ _).trans (Za.forget (le4.trans le5))) ?_;refine xx ?_;exact⟨⟨b12,h5,⟨.slice pa5 T.purses.length pc5,.slice ma5 T.members.length mc5,.slice ea5 T.entry.length ec5,.slice xa5 T.exit.length xc5,.slice oa5 T.pool.length oc5,.slice da5 T.dues.length dc5,.slice ta5 T.motions.length tc5,.slice ka5 T.marks.length kc5,.slice ra5 T.ring.length rc5⟩⟩,⟨le4.trans le5,i50,ft,a55,zb12,nb12.1,nb12.2.1⟩,by simp [Ent,List.lookup],Za.refl _ _⟩
   ·refine xx ?_;refine Z6 fun b12 nb12 zb12=>?_;(try simp only[ZU]at nb12);refine xkp ((Za.tail _ _ _).trans (Za.forget le4)) ?_;refine xx ?_;refine Zb.ap (U9 (s:=s) (v:=⟨.slice pa3 s.purses.length pc3,.slice ma3 s.members.length mc3,.slice ea3 s.entry.length ec3,.slice xa3 s.exit.length xc3,.slice oa3 s.pool.length oc3,.slice da3 s.dues.length dc3,.slice ta3 s.motions.length tc3,.slice ka3 s.marks.length kc3,.slice ra3 s.ring.length rc3⟩) (xs:=V3 (dl ds)) (is0.up le4) own ib fun h5 v5 le5 i5 ft ap=>?_);rw[← hT]at i5;rw[← hT,← hE]at ft;rw[← hT,← hE];have a512:h5 b12=noC:=ap.1;have a55:h5 b5=noC:=ap.2.2.1;clear ap;have i50:=i5;obtain⟨pa5,pc5,ma5,mc5,ea5,ec5,xa5,xc5,oa5,oc5,da5,dc5,ta5,tc5,ka5,kc5,ra5,rc5,rfl⟩:=i5.slices;refine xkp ((Za.tail _ _ _).trans (Za.forget (le4.trans le5))) ?_;refine xx ?_;exact⟨⟨b12,h5,⟨.slice pa5 T.purses.length pc5,.slice ma5 T.members.length mc5,.slice ea5 T.entry.length ec5,.slice xa5 T.exit.length xc5,.slice oa5 T.pool.length oc5,.slice da5 T.dues.length dc5,.slice ta5 T.motions.length tc5,.slice ka5 T.marks.length kc5,.slice ra5 T.ring.length rc5⟩⟩,⟨le4.trans le5,i50,ft,a55,a512,nb12.1,nb12.2.1⟩,by simp [Ent,List.lookup],Za.refl _ _⟩
  ·refine xx ?_;refine Z6 fun b12 nb12 zb12=>?_;(try simp only[ZU]at nb12);refine xkp (Za.tail _ _ _) ?_;refine xx ?_;refine Zb.ap (Zet (hd0.up le03) hds fun h4 r le4 ib ap=>?_);clear ap;have ib0:=ib;obtain⟨ba,bc,rfl,_⟩:=ib0.open;refine xkp ((Za.tail _ _ _).trans (Za.forget le4)) ?_;refine xx ?_;refine Zb.ap (U9 (s:=s) (v:=⟨.slice pa3 s.purses.length pc3,.slice ma3 s.members.length mc3,.slice ea3 s.entry.length ec3,.slice xa3 s.exit.length xc3,.slice oa3 s.pool.length oc3,.slice da3 s.dues.length dc3,.slice ta3 s.motions.length tc3,.slice ka3 s.marks.length kc3,.slice ra3 s.ring.length rc3⟩) (xs:=V3 (dl ds)) (is0.up le4) own ib fun h5 v5 le5 i5 ft ap=>?_);rw[← hT]at i5;rw[← hT,← hE]at ft;rw[← hT,← hE];have a512:h5 b12=noC:=ap.1;have a55:h5 b5=noC:=ap.2.2.1;clear ap;have i50:=i5;obtain⟨pa5,pc5,ma5,mc5,ea5,ec5,xa5,xc5,oa5,oc5,da5,dc5,ta5,tc5,ka5,kc5,ra5,rc5,rfl⟩:=i5.slices;refine xkp ((Za.tail _ _ _).trans (Za.forget (le4.trans le5))) ?_;refine xx ?_;exact⟨⟨b12,h5,⟨.slice pa5 T.purses.length pc5,.slice ma5 T.members.length mc5,.slice ea5 T.entry.length ec5,.slice xa5 T.exit.length xc5,.slice oa5 T.pool.length oc5,.slice da5 T.dues.length dc5,.slice ta5 T.motions.length tc5,.slice ka5 T.marks.length kc5,.slice ra5 T.ring.length rc5⟩⟩,⟨le4.trans le5,i50,ft,a55,a512,nb12.1,nb12.2.1⟩,by simp [Ent,List.lookup],Za.refl _ _⟩
 rintro⟨b12,h5,u5⟩ ⟨le5,i5,ft,a55,a512,m812,m512⟩;simp only at le5 i5 ft a55 a512 m812 m512 ⊢;have i50:=i5;obtain⟨pa5,pc5,ma5,mc5,ea5,ec5,xa5,xc5,oa5,oc5,da5,dc5,ta5,tc5,ka5,kc5,ra5,rc5,rfl⟩:=i5.slices;by_cases c5:E=0
 rotate_left
 ·refine xx ?_;exact⟨⟨k+1,h5,⟨.slice pa3 s.purses.length pc3,.slice ma3 s.members.length mc3,.slice ea3 s.entry.length ec3,.slice xa3 s.exit.length xc3,.slice oa3 s.pool.length oc3,.slice da3 s.dues.length dc3,.slice ta3 s.motions.length tc3,.slice ka3 s.marks.length kc3,.slice ra3 s.ring.length rc3⟩,s⟩,⟨by simp only;omega,le3.trans le5,is0.up le5,hf,by simp only;omega,by simp only;omega,a55⟩,by simp only;omega,by simp [Ent,List.lookup],(Za.tail _ _ _).trans (Za.tail _ _ _)⟩
 have kd:=kdq c5;have tf:=ft c5;have hTd:T.dues.length=s.dues.length:=by rw[kd.dues]
 obtain⟨fp,fh,fl⟩:=Zui tf;have ownT:=Zqo tf (by omega);have hml:=Zwt kd.std;have emq:(T.emer == s.emer)=true:=by rw[kd.emer];simp
 subst c5;refine xx ?_;refine U8 (s:=T) ⟨.slice pa5 T.purses.length pc5,.slice ma5 T.members.length mc5,.slice ea5 T.entry.length ec5,.slice xa5 T.exit.length xc5,.slice oa5 T.pool.length oc5,.slice da5 T.dues.length dc5,.slice ta5 T.motions.length tc5,.slice ka5 T.marks.length kc5,.slice ra5 T.ring.length rc5⟩ i50 (Ydc ownT) ?_;rw[tf];refine xx ?_;refine Zml (s:=T) ⟨.slice pa5 T.purses.length pc5,.slice ma5 T.members.length mc5,.slice ea5 T.entry.length ec5,.slice xa5 T.exit.length xc5,.slice oa5 T.pool.length oc5,.slice da5 T.dues.length dc5,.slice ta5 T.motions.length tc5,.slice ka5 T.marks.length kc5,.slice ra5 T.ring.length rc5⟩ i50 (Ydc ownT) ?_;rw[fh];simp -dsimp -implicitDefEqProofs (disch:=first|with_reducible assumption|omega) [go_sem,Ymm,eq_true kd.mint,eq_true kd.burn,eq_true kd.par,eq_true kd.ep,eq_true kd.calm,emq,eq_true hml];have hmT:Zh YK 6 h5 (.slice ma5 T.members.length mc5) T.members:=i50.m;have hmS:Zh YK 6 h5 (.slice ma3 s.members.length mc3) s.members:=is0.m.up le5;refine YZ (γ:=Nat) 0 (fun j=>j≤T.members.length)
  (fun j=>[(125,.int .i64 j),(124,.int .i64 T.members.length),(123,.slice ma5 T.members.length mc5),(36,.int .i64 k),(35,.int .i64 l.length),(34,.slice aa l.length ac),(5,.pointer (some ⟨b5,0,none⟩)),(12,.pointer (some ⟨b12,0,none⟩))])
  (fun _=>⟨b12,39,stC T ⟨.slice pa5 T.purses.length pc5,.slice ma5 T.members.length mc5,.slice ea5 T.entry.length ec5,.slice xa5 T.exit.length xc5,.slice oa5 T.pool.length oc5,.slice da5 T.dues.length dc5,.slice ta5 T.motions.length tc5,.slice ka5 T.marks.length kc5,.slice ra5 T.ring.length rc5⟩,41⟩::⟨b8,95,[.int .i64 1,.slice a2' ds.length c2'],2⟩::⟨b5,39,stC s ⟨.slice pa3 s.purses.length pc3,.slice ma3 s.members.length mc3,.slice ea3 s.entry.length ec3,.slice xa3 s.exit.length xc3,.slice oa3 s.pool.length oc3,.slice da3 s.dues.length dc3,.slice ta3 s.motions.length tc3,.slice ka3 s.marks.length kc3,.slice ra3 s.ring.length rc3⟩,41⟩::L) (fun _=>h5) (fun j=>T.members.length-j) ?_ ?_ ?_ ?_
 ·exact Nat.zero_le _
 ·simp [Ent,List.lookup]
 ·exact Za.refl _ _
 intro j hj;by_cases c6:j<T.members.length
 ·obtain⟨e1,e2,e3,e4,e5⟩:=Ywy kd.std (j:=j) (by omega);have c7:j<s.members.length:=by omega
  simp -dsimp -implicitDefEqProofs (disch:=first|with_reducible assumption|omega) [go_sem,↓Zam ZS (by decide) hmT,YK];refine Z6 fun b16 nb16 zb16=>?_;(try simp only[ZU]at nb16);have n1612:=nb16.1;have n168:=nb16.2.1;have n165:=nb16.2.2.1;clear nb16;simp -dsimp -implicitDefEqProofs (disch:=first|with_reducible assumption|omega) [go_sem,YK];have C:∀(m:Nat) (v:Value),(YK (gr ZS s.members j))[m]?=some v→m<6→∀(L:Own) (K:Value→Prop) (t:Zq K),Zbb L h5 (J4 ma3 (j*6)) m K t=K v:=fun m v hv hm L K t=>UM (by rw[hmS.cell (z:=ZS) c7 hm];exact hv) K;have C0:=C 0 _ rfl (by decide);have C1:=C 1 _ rfl (by decide);have C2:=C 2 _ rfl (by decide);have C3:=C 3 _ rfl (by decide);have C4:∀(L:Own) (K:Value→Prop) (t:Zq K),Zbb L h5 (J4 ma3 (j*6+4)) 0 K t=K (.int .i64 (gr ZS s.members j).owner):=fun L K t=>Zh.fld ZS hmS (j:=j) (o:=4) c7 rfl L K t;refine Yr (.tk 0 (.tk 2 (.tk 4 (.tkl 1 (.tkl 3 (.tk 5 (.tk 6 (.tkl 7 (.tk 8 (.tk 9 (.tk 10 (.tk 12 (.tk 14 (.tkl 11 (.tkl 13 (.tk 15 (.tk 16 (.tkl 17 (.tk 18 (.tk 19 (.fin))))))))))))))))))))) (by kernel_rfl) (by kernel_rfl) _ (Za.refl _ _) ?_;simp -dsimp -implicitDefEqProofs (disch:=first|with_reducible assumption|omega) [go_sem,↓Zam ZS (by decide) hmS,C0,C1,C2,C3,C4,e1,e2,e3,e4,e5,Yye];exact⟨j+1,by omega,by omega,by simp [Ent,List.lookup],Za.tail _ _ _⟩
 obtain rfl:j=T.members.length:=by omega
 refine xx ?_;exact⟨⟨k+1,h5,⟨.slice pa5 T.purses.length pc5,.slice ma5 T.members.length mc5,.slice ea5 T.entry.length ec5,.slice xa5 T.exit.length xc5,.slice oa5 T.pool.length oc5,.slice da5 T.dues.length dc5,.slice ta5 T.motions.length tc5,.slice ka5 T.marks.length kc5,.slice ra5 T.ring.length rc5⟩,T⟩,⟨by simp only;omega,le3.trans le5,i50,tf,by simp only[kd.ep];omega,by simp only[hTd];omega,a55⟩,by simp only;omega,by simp [Ent,List.lookup],(Za.tail _ _ _).trans (Za.tail _ _ _)⟩
end Go.X

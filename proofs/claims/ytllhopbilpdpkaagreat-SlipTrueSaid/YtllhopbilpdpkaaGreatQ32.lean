/- Lemmas and contracts. Conditions: as each says. -/
import Derived.Test.YtllhopbilpdpkaaGreatQ31
set_option linter.unusedVariables false
set_option linter.unusedSimpArgs false
set_option maxHeartbeats 12800000
set_option maxRecDepth 20000
set_option maxRecDepth 100000
namespace Go.X
open Go.RowKit Go.Proofs Go.Bl
variable {L:Own} {h:PH} {K:PK}
theorem Zfu {zs:List Int}(v:Value)(x:Int)(hz:Ints h .i64 v zs)(hk:K (.bool (decide (x∈zs))) L h):Zc Tryz.prog 27 [v,.int .i64 x] L h K:=by
 obtain⟨a,c,rfl,hcap,hl,_,hcs⟩:=hz.open;refine ZS Tryz.func27 rfl (rs:=[_]) rfl rfl ZW (by kernel_rfl) rfl rfl ?_;refine xx ?_;refine WP (0:Nat) (fun k=>k≤zs.length∧∀j,j<k→at0 zs j≠x) (fun k=>[(9,.int .i64 k),(8,.int .i64 zs.length),(7,.slice a zs.length c),(1,.int .i64 x)]) (fun k=>zs.length-k) ?_ ?_ ?_
 ·exact⟨Nat.zero_le _,fun j hj=>by omega⟩
 ·simp [Ent,List.lookup,Wo]
 rintro k ⟨k1,k2⟩;by_cases c1:k<zs.length
 ·by_cases c2:at0 zs k=x
  ·have hm:x∈zs:=by rw[← c2,← Yf c1];exact List.getElem_mem c1
   rw[decide_eq_true hm]at hk;simp -dsimp -implicitDefEqProofs (disch:=first|with_reducible assumption|omega) [go_sem,idx hcs];exact ZO hk
  ·simp -dsimp -implicitDefEqProofs (disch:=first|with_reducible assumption|omega) [go_sem,idx hcs];refine⟨k+1,⟨by omega,fun j hj=>?_⟩,by omega,by simp [Ent,List.lookup],Za.refl _ _⟩;by_cases e:j=k
   ·subst e;exact c2
   ·exact k2 j (by omega)
 ·have hn:¬x∈zs:=fun hm=>by
   obtain⟨j,hj,e⟩:=List.mem_iff_getElem.1 hm;exact absurd (by rw[← Yf hj,e]) (k2 j (by omega))
  rw[decide_eq_false hn]at hk;refine xx ?_;exact ZO hk
def Zqs (s:Zd):Nat→Nat
 | 0=>0
 | k+1=>Zqs s k+if WX s ((cI s).getD k 0)=5 then 1 else 0
theorem Zsx (s:Zd):∀k,Zqs s k≤k
 | 0=>Nat.le_refl _
 | k+1=>by have:=Zsx s k;rw[Zqs];split<;>omega
theorem Zhg (s:Zd):∀k,k≤(cI s).length→Zqs s k=(((cI s).take k).filter fun i=>decide (WX s i=5)).length
 | 0,_=>by simp [Zqs]
 | k+1,hk=>by
  have e:(cI s).getD k 0=(cI s)[k]'(by omega):=by rw[List.getD_eq_getElem?_getD,List.getElem?_eq_getElem (by omega),Option.getD_some]
  rw[Zqs,Zhg s k (by omega),List.take_succ_eq_append_getElem (by omega),List.filter_append,List.length_append,e];by_cases c:WX s ((cI s)[k]'(by omega))=5
  ·rw[if_pos c];simp [c]
  ·rw[if_neg c];simp [c]
theorem Yfe {s:Zd}{D:Nat}(ti:Zp s D)(ms:∀m∈s.members,MI s.par m∧MF s.par m):s.members.length≤(Vp s).members.length:=by
 obtain⟨_,z10,_⟩:=Ydv ti fun m hm=>(ms m hm).1;have eS:Vp s=seS (Vx s).1:=rfl;have hl:(Vp s).members.length=(Vx s).1.members.length:=by rw[eS];exact Yed _
 rw[hl];exact z10.ml
theorem Zzr {l:List Zb}{a:Option Addr}{n c:Nat}(hd:Zh Yv 6 h (.slice a n c) l){j o:Nat}(hj:j<l.length){u:Value}(ho:(Yv (gr ZQ l j))[o]?=some u)(hm:o<6)(L:Own)(K:Value→Prop)(t:Zk K):Jb L h (UN a (j*6)) o K t=K u :=
 U0 (by rw[hd.cell (z:=ZQ) hj hm,ho]) K
theorem Zyv (s:Zd)(i:Nat):(Yk s i).mem=i:=by
 show (Y6 s i).mem=i;rw[Y6];split<;>rfl
theorem Zqh (s:Zd)(i:Nat):WX s i=5∨WX s i=4∨WX s i=0:=by
 unfold WX;split
 ·exact .inl rfl
 ·split
  ·exact .inr (.inl rfl)
  ·exact .inr (.inr rfl)
theorem Yio {s:Zd}{i:Nat}(h:WX s i=5):(i:Int)∈Ji s:=by
 unfold WX at h;split at h
 ·assumption
 ·split at h<;>omega
theorem Zzp {s:Zd}{i:Nat}(h:WX s i=4):Zmx s i=true:=by
 unfold WX at h;split at h
 ·omega
 ·split at h
  ·assumption
  ·omega
theorem Yhf {α β:Type}(z:α){f:β→α}{l:List β}{k:Nat}(hk:k<l.length):gr z (l.map f) k=f (l[k]'hk):=by
 show (l.map f).getD k z=_;rw[List.getD_eq_getElem?_getD,List.getElem?_map,List.getElem?_eq_getElem hk];rfl
theorem Znl {s:Zd}{D:Nat}(ti:Zp s D)(ms:∀m∈s.members,MI s.par m∧MF s.par m)(i:Nat):(Yk s i).prize≤4611686018427387904:=by
 obtain⟨_,p1,p2,p3,p4⟩:=Zmj ti ms;have hpz:YW s i≤4611686018427387904:=by
  have h1:=p1 (thI s.members s.marks i).length;have h2:=Yl p1 (thI s.members s.marks i).length;unfold YW;omega
 cases ht:thB s i with
 | true =>
  have e1:(Yk s i).prize=YW s i:=by simp [Yk,Y6,ht]
  rw[e1];exact hpz
 | false =>
  have e1:(Yk s i).prize=0:=by simp [Yk,Y6,ht]
  rw[e1];decide
theorem Zgo (av:Value)(hA:∃q:SV×Zd,av=stV q.2 q.1∧Zr h q.1 q.2)(hk:∀h',PH.le h h'→K (.bool true) L h'):Zc Tryz.prog 5 [av] L h K:=by
 obtain⟨⟨v,s⟩,rfl,hs⟩:=hA;simp only at hs ⊢;have hs0:=hs;obtain⟨pa,pc,ma,mc,ea,ec,xa,xc,oa,oc,da,dc,ta,tc,ka,kc,ra,rc,rfl⟩:=hs.slices;refine ZS Tryz.func5 rfl (rs:=[_]) rfl rfl ZW (by kernel_rfl) rfl rfl ?_;refine xx ?_;refine Z2 fun b1 nb1 zb1=>?_;(try simp only[ZT]at nb1);refine xx ?_;refine Zc.ap (Zjv fun h1 le1 ap=>?_);have p1:h1 b1=noC:=ap.1;clear ap;have hk1:=hk h1 le1;refine xx ?_;refine Zro (s:=s) ⟨.slice pa s.purses.length pc,.slice ma s.members.length mc,.slice ea s.entry.length ec,.slice xa s.exit.length xc,.slice oa s.pool.length oc,.slice da s.dues.length dc,.slice ta s.motions.length tc,.slice ka s.marks.length kc,.slice ra s.ring.length rc⟩ (hs0.up le1) ?_
 cases hf:Zbf s with
 | false =>
  refine xx ?_;exact ZP (ZO hk1)
 | true =>
 have few:=Yiu hf;have f9:=Zmp (Yfa hf);refine xx ?_;refine JV (s:=s) ⟨.slice pa s.purses.length pc,.slice ma s.members.length mc,.slice ea s.entry.length ec,.slice xa s.exit.length xc,.slice oa s.pool.length oc,.slice da s.dues.length dc,.slice ta s.motions.length tc,.slice ka s.marks.length kc,.slice ra s.ring.length rc⟩ (hs0.up le1) (Ycr few) ?_
 cases hft:WK s with
 | false =>
  refine xx ?_;exact ZP (ZO hk1)
 | true =>
 by_cases he:1073741824≤s.ep
 ·refine xx ?_;exact ZP (ZO hk1)
 clear hk1;have he':s.ep<1073741824:=by omega
 have e0:GQ s=0:=by rw[GQ,if_pos hft,if_neg he]
 have es:Us s=0:=by rw[Us,if_pos hft,if_neg he]
 have ti:=Yhb hs0 hft he' (Nat.le_refl s.dues.length);have ms:=Ysz hs0 hft;obtain⟨t1,t2,t3,t4,t5,t6⟩:=Zsr ti ms es;refine xx ?_;refine Zc.ap (Zgs (s:=s) ⟨.slice pa s.purses.length pc,.slice ma s.members.length mc,.slice ea s.entry.length ec,.slice xa s.exit.length xc,.slice oa s.pool.length oc,.slice da s.dues.length dc,.slice ta s.motions.length tc,.slice ka s.marks.length kc,.slice ra s.ring.length rc⟩ (hs0.up le1) (Ycr few) (by omega) fun h2 r2 le2 rec2 ap=>?_);have p2:h2 b1=noC:=ap.1;clear ap;rw[es];have rec20:=rec2;obtain⟨la,lc,rfl,_⟩:=rec2.open;refine xx ?_;obtain⟨T1,hT1⟩:∃x,x=Vp s:=⟨_,rfl⟩
 obtain⟨R1,hR1⟩:∃x,x=YF s:=⟨_,rfl⟩
 refine Zc.ap (Yaj (s:=s) ⟨.slice pa s.purses.length pc,.slice ma s.members.length mc,.slice ea s.entry.length ec,.slice xa s.exit.length xc,.slice oa s.pool.length oc,.slice da s.dues.length dc,.slice ta s.motions.length tc,.slice ka s.marks.length kc,.slice ra s.ring.length rc⟩ (hs0.up (le1.trans le2)) few (by omega) (fun _ _ _ h3 u3 q3 le3 it ir ap=>?_) (fun c=>absurd e0 c));have p3:h3 b1=noC:=ap.1;clear ap;rw[← hT1]at it ⊢;rw[← hR1]at ir ⊢;rw[← hR1]at t1 t2 t3;have it0:=it;have ir0:=ir;obtain⟨pa3,pc3,ma3,mc3,ea3,ec3,xa3,xc3,oa3,oc3,da3,dc3,ta3,tc3,ka3,kc3,ra3,rc3,rfl⟩:=it.slices;obtain⟨qoa,qoc,qla,qlc,qsa,qsc,qda,qdc,rfl⟩:=ir.slices;refine xx ?_;refine Z2 fun b5 nb5 zb5=>?_;(try simp only[ZT]at nb5);have n51:=nb5.1;refine xx ?_;refine Z2 fun b6 nb6 zb6=>?_;(try simp only[ZT]at nb6);have n65:=nb6.1;have n61:=nb6.2.1;refine xx ?_;have rok:ZI R1:=by rw[hR1];exact Zod ti ms
 obtain⟨rk1,rk2,rk3,rk4,rk5,rk6,rk7,rk8⟩:=rok.nums;have fsum:R1.burned+R1.fees≤18446744073709551615:=by rw[← t3];exact t4.2.2.1
 refine Zc.ap (Zjb (l:=YJ s) _ (rec20.up le3) (by omega) t6 (fun _ h4 le4 ap=>?_) (fun c=>absurd t4 c));have p46:h4 b6=noC:=ap.1;have p45:h4 b5=noC:=ap.2.1;have p41:h4 b1=noC:=ap.2.2.1;clear ap;rw[t1,t2,t3];have hk4:=hk h4 (le1.trans (le2.trans (le3.trans le4)));refine xx ?_;have rec4:Zh slC 8 h4 (.slice la (YJ s).length lc) (YJ s):=rec20.up (le3.trans le4);have eL:YJ s=(cI s).map (Yk s):=by rw[YJ,if_pos es]
 have hn:(YJ s).length=(cI s).length:=by rw[eL,List.length_map]
 have hmT:Zh Yv 6 h4 (.slice ma3 T1.members.length mc3) T1.members:=it0.m.up le4;have hmS:Zh Yv 6 h4 (.slice ma s.members.length mc) s.members:=hs0.m.up (le1.trans (le2.trans (le3.trans le4)));have hol:Ints h4 .i64 (.slice qla R1.left.length qlc) R1.left:=ir0.l.up le4;have hoo:Ints h4 .i64 (.slice qoa R1.out.length qoc) R1.out:=ir0.o.up le4;have eleft:R1.left=Ji s:=by rw[hR1];exact Zwe ti ms
 have hml:s.members.length≤T1.members.length:=by rw[hT1];exact Yfe ti ms
 refine WP (0:Nat) (fun k=>k≤(YJ s).length) (fun k=>[(86,.int .i64 k),(85,.int .i64 (YJ s).length),(84,.slice la (YJ s).length lc),(14,.int .i64 (Zqs s k:Nat)),(1,.pointer (some ⟨b1,0,none⟩)),(5,.pointer (some ⟨b5,0,none⟩)),(6,.pointer (some ⟨b6,0,none⟩))]) (fun k=>(YJ s).length-k) ?_ ?_ ?_
 ·exact Nat.zero_le _
 ·simp [Ent,List.lookup,Wo,Zqs]
 rintro k k1;have lk:=Zsx s k;by_cases d1:k<(YJ s).length
 ·have d2:k<(cI s).length:=by omega
  obtain⟨i,hi⟩:∃i,i=(cI s)[k]:=⟨_,rfl⟩
  have him:i∈cI s:=by rw[hi];exact List.getElem_mem d2
  obtain⟨i1,i2⟩:=Zfa him;have hgd:(cI s).getD k 0=i:=by rw[List.getD_eq_getElem?_getD,List.getElem?_eq_getElem d2,Option.getD_some,hi]
  have hlc:Zqs s (k+1)=Zqs s k+if WX s i=5 then 1 else 0:=by rw[Zqs,hgd]
  have i3:i<T1.members.length:=by omega
  obtain⟨x,hx⟩:∃x,x=Yk s i:=⟨_,rfl⟩
  have eg:gr Yb (YJ s) k=x:=by rw[eL,Yhf Yb d2,hx,hi]
  have xm:x.mem=i:=by rw[hx];exact Zyv s i
  have xo:ZG x:=by rw[hx];exact(Zie ti ms i1 i2).1
  rcases Zqh s i with ce|ce|ce
  ·have xe:x.ends=5:=by rw[hx];exact ce
   have hl:(i:Int)∈R1.left:=by rw[eleft];exact(Yio ce)
   rw[if_pos ce]at hlc;simp -dsimp -implicitDefEqProofs (disch:=first|with_reducible assumption|omega) [go_sem,↓Uw Yb (by decide) rec4,eg,slC];refine Z2 fun b16 nb16 zb16=>?_;(try simp only[ZT]at nb16);have n166:=nb16.1;have n165:=nb16.2.1;have n161:=nb16.2.2.1;simp -dsimp -implicitDefEqProofs (disch:=first|with_reducible assumption|omega) [go_sem,eg,slC,xe,xm];refine Zfu (zs:=R1.left) _ _ hol ?_;rw[decide_eq_true hl];simp -dsimp -implicitDefEqProofs (disch:=first|with_reducible assumption|omega) [go_sem,eg,slC,xe,xm,↓Uw ZQ (by decide) hmT,Yv];refine Z2 fun b17 nb17 zb17=>?_;(try simp only[ZT]at nb17);have n1716:=nb17.1;simp -dsimp -implicitDefEqProofs (disch:=first|with_reducible assumption|omega) [go_sem,xe,xm,Yv];refine⟨k+1,by omega,by omega,by simp [Ent,List.lookup,hlc],?_⟩;exact(Za.tail _ _ _).trans (Za.tail _ _ _)
  ·have xe:x.ends=4:=by rw[hx];exact ce
   have ho:(i:Int)∈R1.out:=by rw[hR1];exact Yfb ti ms i1 i2 (Zzp ce)
   rw[if_neg (by omega)]at hlc;simp -dsimp -implicitDefEqProofs (disch:=first|with_reducible assumption|omega) [go_sem,↓Uw Yb (by decide) rec4,eg,slC];refine Z2 fun b16 nb16 zb16=>?_;(try simp only[ZT]at nb16);have n166:=nb16.1;have n165:=nb16.2.1;have n161:=nb16.2.2.1;simp -dsimp -implicitDefEqProofs (disch:=first|with_reducible assumption|omega) [go_sem,eg,slC,xe,xm];refine Zfu (zs:=R1.out) _ _ hoo ?_;rw[decide_eq_true ho];simp -dsimp -implicitDefEqProofs (disch:=first|with_reducible assumption|omega) [go_sem,eg,slC,xe,xm,↓Uw ZQ (by decide) hmT,Yv];refine Z2 fun b17 nb17 zb17=>?_;(try simp only[ZT]at nb17);have n1716:=nb17.1;simp -dsimp -implicitDefEqProofs (disch:=first|with_reducible assumption|omega) [go_sem,xe,xm,Yv];refine⟨k+1,by omega,by omega,by simp [Ent,List.lookup,hlc],?_⟩;exact(Za.tail _ _ _).trans (Za.tail _ _ _)
  ·have xe:x.ends=0:=by rw[hx];exact ce
   rw[if_neg (by omega)]at hlc;simp -dsimp -implicitDefEqProofs (disch:=first|with_reducible assumption|omega) [go_sem,↓Uw Yb (by decide) rec4,eg,slC];refine Z2 fun b16 nb16 zb16=>?_;(try simp only[ZT]at nb16);have n166:=nb16.1;have n165:=nb16.2.1;have n161:=nb16.2.2.1;simp -dsimp -implicitDefEqProofs (disch:=first|with_reducible assumption|omega) [go_sem,eg,slC,xe,xm,↓Uw ZQ (by decide) hmT,Yv];refine Z2 fun b17 nb17 zb17=>?_;(try simp only[ZT]at nb17);have n1716:=nb17.1;have n176:=nb17.2.1;have n175:=nb17.2.2.1;have n171:=nb17.2.2.2.1;obtain⟨so1,so2,so3,so4⟩:=Zie ti ms i1 i2;obtain⟨m1,m2⟩:=Ycy ti ms i1 i2;have m3:=Yfs (s:=s) (i:=i);rw[← hx]at so2 so3 so4 m3;have sp:=xo.prize;have sv:=xo.over;have sf:=xo.fine;have mk:=ti.be.m _ (Yq (z:=ZQ) i1);have C0:∀(L:Own) (K:Value→Prop) (t:Zk K),Jb L h4 (UN ma (i*6)) 0 K t=K (.int .u64 (gr ZQ s.members i).bal):=Zzr hmS i1 (o:=0) rfl (by decide);clear rk1 rk2 rk3 rk4 rk5 rk6 rk7 rk8;have v1:NeB b17 b16:=Ne.symm n1716;have v2:NeB b17 b6:=Ne.symm n176;have v3:NeB b17 b5:=Ne.symm n175;have v4:NeB b17 b1:=Ne.symm n171;have v5:NeB b16 b6:=Ne.symm n166;have v6:NeB b16 b5:=Ne.symm n165;have v7:NeB b16 b1:=Ne.symm n161;have v8:NeB b6 b5:=Ne.symm n65;have v9:NeB b6 b1:=Ne.symm n61;have v0:NeB b5 b1:=Ne.symm n51;clear n1716 n176 n175 n171 n166 n165 n161 n65 n61 n51 nb17 nb16 nb5 nb6;have hp41:h4 b1=noC:=p41;simp -dsimp -implicitDefEqProofs (disch:=first|with_reducible assumption|omega) [go_sem,xe,xm,Zlo,Yv];have noq:(s.pool=[]∨R1.quo=false)→True:=fun _=>trivial;clear noq;refine VI (fun c7=>?_) (fun c7=>?_)
   ·refine xx ?_
    cases hq:R1.quo with
    | true =>
     refine xx ?_;refine⟨k+1,by omega,by omega,by simp [Ent,List.lookup,hlc],?_⟩;exact(Za.tail _ _ _).trans (Za.tail _ _ _)
    | false =>
     simp -dsimp -implicitDefEqProofs (disch:=first|with_reducible assumption|omega) [go_sem,Zlo];refine VI (fun c8=>?_) (fun c8=>?_)
     rotate_left
     ·refine xx ?_;refine⟨k+1,by omega,by omega,by simp [Ent,List.lookup,hlc],?_⟩;exact(Za.tail _ _ _).trans (Za.tail _ _ _)
     obtain⟨w1,w2⟩:=Ztx ti ms (by rw[← hT1];exact c8) (.inr (by rw[← hR1];exact hq)) i1 i2 ce;rw[← hT1]at w1 w2;obtain⟨m,hm⟩:∃m,m=gr ZQ T1.members i:=⟨_,rfl⟩
     rw[← hm]at w2 ⊢;have hcm:m.status=2∨m.status=3:=by rw[w2.s];exact i2
     have hmb:m.bal=(gr ZQ s.members i).bal+x.prize-x.over-x.fine:=by rw[w2.b,m3]
     have ub:=mk.u (gr ZQ s.members i).bal (by simp);have hpl9:=Znl ti ms i;rw[← hx]at hpl9;have hbb9:=(ti.be.bl (i:=i) i1).2;have hsm9:=ti.sum;obtain⟨y1,y2,y3,y4,y5,y6⟩:=ti.parts;have hb9:(gr ZQ s.members i).bal≤4611686018427387904:=by omega
     clear hbb9 hsm9 y1 y2 y3 y4 y5 y6;have um:0≤m.bal∧m.bal≤4611686018427387904:=by rw[w2.b];exact⟨m1,m2⟩
     refine xx ?_;refine Yn (.tkl 0 (.o1 1 (.tk 2 (.tk 3 (.tk 4 (.tk 5 (.tk 7 (.tk 9 (.tk 15 (.tk 18 (.tk 21 (.tkl 6 (.tkl 8 (.tkl 10 (.tk 11 (.tk 12 (.tk 13 (.tkl 14 (.tkl 16 (.tk 17 (.tkl 19 (.tk 20 (.tkl 22 (.tk 23 (.tk 24 (.tk 25 (.fin))))))))))))))))))))))))) (.nil))) (by kernel_rfl) (by kernel_rfl) _ (Za.refl _ _) ?_;refine xx ?_;refine W7 m ?_;rw[decide_eq_true hcm]
     repeat' first
      | with_reducible refine Y4 ?_ ?_
      | with_reducible refine xkp (Za.refl _ _) ?_
      | simp -dsimp -implicitDefEqProofs (disch:=first|with_reducible assumption|omega) [go_sem,xm,C0,↓Uw ZQ (by decide) hmS]
      | fail
     refine⟨k+1,by omega,by omega,by simp [Ent,List.lookup,hlc],?_⟩;exact(Za.tail _ _ _).trans (Za.tail _ _ _)
   ·simp -dsimp -implicitDefEqProofs (disch:=first|with_reducible assumption|omega) [go_sem,Zlo];refine VI (fun c8=>?_) (fun c8=>?_)
    rotate_left
    ·refine xx ?_;refine⟨k+1,by omega,by omega,by simp [Ent,List.lookup,hlc],?_⟩;exact(Za.tail _ _ _).trans (Za.tail _ _ _)
    have hpe:s.pool=[]:=by
     cases hz:s.pool with
     | nil=>rfl
     | cons a l=>rw[hz]at c7;simp at c7
    obtain⟨w1,w2⟩:=Ztx ti ms (by rw[← hT1];exact c8) (.inl hpe) i1 i2 ce;rw[← hT1]at w1 w2;obtain⟨m,hm⟩:∃m,m=gr ZQ T1.members i:=⟨_,rfl⟩
    rw[← hm]at w2 ⊢;have hcm:m.status=2∨m.status=3:=by rw[w2.s];exact i2
    have hmb:m.bal=(gr ZQ s.members i).bal+x.prize-x.over-x.fine:=by rw[w2.b,m3]
    have ub:=mk.u (gr ZQ s.members i).bal (by simp);have hpl9:=Znl ti ms i;rw[← hx]at hpl9;have hbb9:=(ti.be.bl (i:=i) i1).2;have hsm9:=ti.sum;obtain⟨y1,y2,y3,y4,y5,y6⟩:=ti.parts;have hb9:(gr ZQ s.members i).bal≤4611686018427387904:=by omega
    clear hbb9 hsm9 y1 y2 y3 y4 y5 y6;have um:0≤m.bal∧m.bal≤4611686018427387904:=by rw[w2.b];exact⟨m1,m2⟩
    refine xx ?_;refine Yn (.tkl 0 (.o1 1 (.tk 2 (.tk 3 (.tk 4 (.tk 5 (.tk 7 (.tk 9 (.tk 15 (.tk 18 (.tk 21 (.tkl 6 (.tkl 8 (.tkl 10 (.tk 11 (.tk 12 (.tk 13 (.tkl 14 (.tkl 16 (.tk 17 (.tkl 19 (.tk 20 (.tkl 22 (.tk 23 (.tk 24 (.tk 25 (.fin))))))))))))))))))))))))) (.nil))) (by kernel_rfl) (by kernel_rfl) _ (Za.refl _ _) ?_;refine xx ?_;refine W7 m ?_;rw[decide_eq_true hcm]
    repeat' first
     | with_reducible refine Y4 ?_ ?_
     | with_reducible refine xkp (Za.refl _ _) ?_
     | simp -dsimp -implicitDefEqProofs (disch:=first|with_reducible assumption|omega) [go_sem,xm,C0,↓Uw ZQ (by decide) hmS]
     | fail
    refine⟨k+1,by omega,by omega,by simp [Ent,List.lookup,hlc],?_⟩;exact(Za.tail _ _ _).trans (Za.tail _ _ _)
 ·obtain rfl:k=(YJ s).length:=by omega
  have hcl:Zqs s (YJ s).length=R1.left.length:=by
   rw[Zhg s _ (by omega),hn,List.take_length,Zqg ti ms,eleft]
  refine xx ?_;exact ZP (ZP (ZP (ZO hk4)))
end Go.X

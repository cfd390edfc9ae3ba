/- Lemmas and contracts. Conditions: as each says. -/
import Derived.Test.YtllhopbilpdpkaaGreatQ37
set_option linter.unusedVariables false
set_option linter.unusedSimpArgs false
set_option maxHeartbeats 12800000
set_option maxRecDepth 20000
namespace Go.X
open Go.RowKit Go.Proofs Go.Bl Go.Proofs.Tryz
variable {L:Own} {h:PH} {K:PK}
theorem Yne {s:Zg}(hf:Zec s=true):Zu s:=by
 have h9:=Zpd (Yhi hf);simp only[Zec,Bool.and_eq_true,List.all_eq_true,decide_eq_true_eq]at hf;exact⟨qf,qf,qf,qf,qf,qf,qf,qf,qf,fun m hm=>by have:=hf.2 m hm;omega,fun b hb=>by have:=hf.1.2 b hb;omega⟩
theorem Zue {s:Zg}(ho:Zu s):Zy s:=⟨by have:=ho.p;omega,by have:=ho.m;omega,by have:=ho.e;omega,by have:=ho.x;omega,by have:=ho.o;omega,by have:=ho.d;omega,by have:=ho.t;omega,by have:=ho.r;omega⟩
theorem Zt.slices {q:RV}{r:Zi}(hq:Zt h q r):∃oa oc la lc sa sc da dc,q=⟨.slice oa r.out.length oc,.slice la r.left.length lc,.slice sa r.started.length sc,.slice da r.done.length dc⟩:=by
 obtain⟨qo,ql,qs,qd⟩:=q;obtain⟨h1,h2,h3,h4⟩:=hq;simp only at h1 h2 h3 h4;obtain⟨oa,oc,rfl,_⟩:=h1.open;obtain⟨la,lc,rfl,_⟩:=h2.open;obtain⟨sa,sc,rfl,_⟩:=h3.open;obtain⟨da,dc,rfl,_⟩:=h4.open;exact⟨oa,oc,la,lc,sa,sc,da,dc,rfl⟩
theorem Zt.up {h h':PH}(le:PH.le h h'){q:RV}{r:Zi}(hq:Zt h q r):Zt h' q r:=⟨hq.o.up le,hq.l.up le,hq.s.up le,hq.d.up le⟩
abbrev Yue:RV:=⟨.slice none 0 0,.slice none 0 0,.slice none 0 0,.slice none 0 0⟩
theorem Zqd {s:Zg}(v:SV)(hs:Zp h v s)(few:Zu s)(fd:s.ai.length<=29000)
  (hk:VC s=0->YY s=true->s.ep<1073741824->∀h' u q,PH.le h h'->Zp h' u (WM s)->Zt h' q (WH s)->K (.tuple #[stV (WM s) u,rpV (WH s) q,.int .i64 0]) L h')
  (hno:VC s≠0->K (.tuple #[stV JB Zlm,rpV Ydt Yue,.int .i64 (VC s)]) L h) :
  Zb prog 25 [stV s v] L h K:=by
 by_cases hf:YY s=true
 ·by_cases he:s.ep<1073741824
  ·have e0:VC s=0:=by rw[VC,if_pos hf,if_neg qf]
   have ti:=Zts hs hf he (Nat.le_refl s.ai.length);have ms:=Yfn hs hf;have t8:=Yjt ti fun m hm=>(ms m hm).1
   exact Zws v hs few fd hf he (Zer ti.ml fun m hm=>(ms m hm).1) (by
    have:=Zer t8.2.2.2.2.2.2 fun m hm=>(t8.2.2.2.1 m hm).1;show Uu (tk8 s).1.ae<=_
    omega) (hk e0 hf he)
  ·have e0:VC s=200:=by rw[VC,if_pos hf,if_pos qf]
   have hno:=hno qf;rw[e0]at hno;have fewS:=Zue few;obtain⟨pa,pc,ma,mc,ea,ec,xa,xc,oa,oc,da,dc,ta,tc,ka,kc,ra,rc,rfl⟩:=hs.slices;refine eU func25 fun ap nd=>?_;clear ap nd;refine xx ?_;refine ZY fun b1 nb1 zb1=>?_;(try simp only[ZS]at nb1);refine xx ?_;refine ZY fun b2 nb2 zb2=>?_;(try simp only[ZS]at nb2);refine xx ?_;refine ZY fun b3 nb3 zb3=>?_;(try simp only[ZS]at nb3);refine xx ?_;refine GH (s:=s) ⟨.slice pa s.ag.length pc,.slice ma s.ae.length mc,.slice ea s.entry.length ec,.slice xa s.exit.length xc,.slice oa s.aj.length oc,.slice da s.ai.length dc,.slice ta s.ah.length tc,.slice ka s.marks.length kc,.slice ra s.ring.length rc⟩ hs fewS ?_;rw[hf];refine xx ?_;exact ZO (ZO (ZO (ZP hno)))
 ·have hf':YY s=false:=by simpa using hf
  have e0:VC s=291:=by rw[VC,if_neg hf]
  have hno:=hno qf;rw[e0]at hno;have fewS:=Zue few;obtain⟨pa,pc,ma,mc,ea,ec,xa,xc,oa,oc,da,dc,ta,tc,ka,kc,ra,rc,rfl⟩:=hs.slices;refine eU func25 fun ap nd=>?_;clear ap nd;refine xx ?_;refine ZY fun b1 nb1 zb1=>?_;(try simp only[ZS]at nb1);refine xx ?_;refine ZY fun b2 nb2 zb2=>?_;(try simp only[ZS]at nb2);refine xx ?_;refine ZY fun b3 nb3 zb3=>?_;(try simp only[ZS]at nb3);refine xx ?_;refine GH (s:=s) ⟨.slice pa s.ag.length pc,.slice ma s.ae.length mc,.slice ea s.entry.length ec,.slice xa s.exit.length xc,.slice oa s.aj.length oc,.slice da s.ai.length dc,.slice ta s.ah.length tc,.slice ka s.marks.length kc,.slice ra s.ring.length rc⟩ hs fewS ?_;rw[hf'];refine xx ?_;exact ZO (ZO (ZO (ZP hno)))
theorem Zkk:Zu simpS:=by constructor<;>decide
theorem en_ep (s:Zg)(r:Zi)(t:Int):(enS s r t).ep=s.ep:=by
 unfold enS;split<;>rfl
theorem ej_ep (s:Zg)(r:Zi)(t:Int):(Yfz t (ajS s,r)).1.ep=s.ep:=rfl
theorem mo_ep (s:Zg)(r:Zi):(moS s r).ep=s.ep:=rfl
theorem se_ep (s:Zg):(seS s).ep=s.ep+1:=rfl
theorem ep7 (s:Zg):(tk7 s).1.ep=s.ep:=rfl
theorem Yjn (s:Zg):(WM s).ep=s.ep+1:=by
 have e8:(tk8 s).1.ep=s.ep:=(en_ep (tk7 s).1 (tk7 s).2 (atP s)).trans (ep7 s);have e9:(tk9 s).1.ep=(tk8 s).1.ep:=mo_ep (tk8 s).1 (tk8 s).2;have e10:(US s).1.ep=(tk9 s).1.ep:=by
  by_cases c:(tk9 s).1.par=s.par
  ·rw[US,if_pos c]
  ·rw[US,if_neg c];exact ej_ep _ _ _
 have eS:(WM s).ep=(US s).1.ep+1:=se_ep (US s).1;rw[eS,e10,e9,e8]
theorem Ztz:VC simpS=0/\(WM simpS).ep=1/\(WM simpS).calm=1/\(WH simpS).act=50/\(WH simpS).quo=false/\(WH simpS).mode=2:=by
 obtain⟨r1,r2,r3,r4,r5,_⟩:=Ydr simpS;rw[r2,r3,r5,Zjb,Yjn];refine⟨qE,qE,qE,qE,qE,qE⟩
theorem Znq (hk:∀h',PH.le h h'->K (.bool true) L h'):Zb prog 29 [] L h K:=by
 obtain⟨t0,t1,t2,t3,t4,t5⟩:=Ztz;refine ed func29 ?_;refine xx ?_;refine Zja fun h1 pa0 pc0 fa0 fc0 le1 ig=>?_;refine xx ?_;refine Znb ig fun h2 u le2 is=>?_;obtain⟨pa,pc,ma,mc,ea,ec,xa,xc,oa,oc,da,dc,ta,tc,ka,kc,ra,rc,rfl⟩:=is.slices;refine xx ?_;refine ZY fun b1 nb1 zb1=>?_;(try simp only[ZS]at nb1);have hl:simpS.ae.length=2:=rfl;have hg:simpS.gen=765:=rfl;have g0:(gr ZQ simpS.ae 0).eff=20:=rfl;have g1:(gr ZQ simpS.ae 1).eff=30:=rfl;have hms:Zd YD 6 h2 (.slice ma simpS.ae.length mc) simpS.ae:=is.m;have ha:ma≠none:=fun e=>by
  have:=hms.cell (z:=ZQ) (i:=0) (m:=0) qh qh;rw[e]at this;simp [Z9]at this
  cases this
 have I:=(Us ZQ qh hms).1;have A:∀(j o:Nat) (K:Value->Prop) (t:Zm K),Zkh (.pointer (UI ma j)) o K t=K (.pointer (UI ma (j+o))):=fun j o K t=>Zgd ha _ _ K;have P:∀(j:Nat) (K:Option Addr->Prop) (t:Zm K),Zqb (.pointer (UI ma j)) K t=K (UI ma j):=fun j K t=>GA ha K;have C1:∀(L:Own) (K:Value->Prop) (t:Zm K),Um L h2 (UI ma 1) 0 K t=K (.int .u64 20):=fun L K t=>Zd.fld ZQ hms (j:=0) (o:=1) qh rfl L K t;have C7:∀(L:Own) (K:Value->Prop) (t:Zm K),Um L h2 (UI ma 7) 0 K t=K (.int .u64 30):=fun L K t=>Zd.fld ZQ hms (j:=1) (o:=1) qh rfl L K t;simp -dsimp -implicitDefEqProofs (disch:=first|exact dD|fail) [go_sem,hl,hg];simp -dsimp -implicitDefEqProofs (disch:=first|exact dD|fail) [go_sem,I,A,P,C1,C7,hl,hg];refine Zb.ap (Zqd (s:=simpS) ⟨.slice pa simpS.ag.length pc,.slice ma simpS.ae.length mc,.slice ea simpS.entry.length ec,.slice xa simpS.exit.length xc,.slice oa simpS.aj.length oc,.slice da simpS.ai.length dc,.slice ta simpS.ah.length tc,.slice ka simpS.marks.length kc,.slice ra simpS.ring.length rc⟩ is Zkk qh (fun _ _ _ h3 u3 q3 le3 it ir ap=>?_) (fun c=>absurd t0 c));have a1:h3 b1=noC:=ap.1;clear ap;obtain⟨pa3,pc3,ma3,mc3,ea3,ec3,xa3,xc3,oa3,oc3,da3,dc3,ta3,tc3,ka3,kc3,ra3,rc3,rfl⟩:=it.slices;obtain⟨qoa,qoc,qla,qlc,qsa,qsc,qda,qdc,rfl⟩:=ir.slices;refine xx ?_;refine ZY fun b3 nb3 zb3=>?_;(try simp only[ZS]at nb3);have n3:=nb3.1;refine xx ?_;refine ZY fun b4 nb4 zb4=>?_;(try simp only[ZS]at nb4);have n4:=nb4.1;have n42:=nb4.2.1;simp -dsimp -implicitDefEqProofs (disch:=first|exact dD|fail) [go_sem,t1,t2,t3,t4,t5];refine GH (s:=simpS) ⟨.slice pa simpS.ag.length pc,.slice ma simpS.ae.length mc,.slice ea simpS.entry.length ec,.slice xa simpS.exit.length xc,.slice oa simpS.aj.length oc,.slice da simpS.ai.length dc,.slice ta simpS.ah.length tc,.slice ka simpS.marks.length kc,.slice ra simpS.ring.length rc⟩ (is.up le3) Zwk ?_
 rw[Ztb];refine xx ?_;exact ZO (ZO (ZO (ZP (hk h3 (le1.trans (le2.trans le3))))))
theorem Yte (p q:Ze)(x y:Operand)(K:Value->Prop)(t:Zm K):VO prog .neq 39 x y (WS p) (WS q) K t=K (.bool (!decide (p=q))):=by
 have e:decide (p=q)=decide (WZ p++YA p=WZ q++YA q):=by
  rw[decide_eq_decide];exact⟨fun h=>by rw[h],Zxl⟩
 rw[e];exact Jz (T:=39) (ks:=parK) qg qg qg qg (WZ p++YA p) (WZ q++YA q) rfl rfl x y K t
theorem GD (A:Own){e sz n:Nat}{o:Option (Nat×Nat)}{xs:List Value}{L:Own}(ok:okO o n)(hl:xs.length=n*sz)(hn:n<=9223372036854775807)(ap:Ap (A++oent e sz o xs L) h)(nd:Nd (A++oent e sz o xs L))(he:e≠4294967295:=by first|decide|omega) :
  ∃h',PH.le h h'/\Za (A++oent e sz o xs L) h (A++L) h'/\Sl h' (ovs o n) n sz xs/\Ap (A++L) h'/\Nd (A++L):=by
 have ap2:=Ap.perm (Z6 A) ap;have nd2:=Nd.perm (Z6 A) nd;have ao:apO o [] h:=Yk ap2;exact⟨Jh h o xs,YL ao xs,(Za.perm h (Z6 A)).trans (YG o xs _ h he),WE ok hl hn,Zot (Ap.oent ap2) (Yhg nd2),Zho nd2⟩
theorem Ygv {a b x y z:Zn}{bp cp n e:Nat}{xs:List Value}{L:Own}(ok:okO (some (bp,cp)) n)(hl:xs.length=n)(hn:n<=9223372036854775807)(ap:Ap (a::b::x::y::z::⟨bp,e,xs,cp⟩::L) h)(nd:Nd (a::b::x::y::z::⟨bp,e,xs,cp⟩::L))(he:e≠4294967295:=by first|decide|omega) :
  ∃h',PH.le h h'/\Za (a::b::x::y::z::⟨bp,e,xs,cp⟩::L) h (a::b::x::y::z::L) h'/\Sl h' (.slice (some ⟨bp,0,none⟩) n cp) n 1 xs/\Ap (a::b::x::y::z::L) h'/\Nd (a::b::x::y::z::L):=by
 have e2:((⟨bp,e,xs,cp⟩:Zn)::L:Own)=oent e 1 (some (bp,cp)) xs L:=by rw[Z7,Nat.mul_one]
 rw[e2]at ap nd ⊢;exact GD [a,b,x,y,z] ok qf hn ap nd he
section
variable {e0 s0 e1 s1 e2 s2 e3 s3 e4 s4:Nat} {o0 o1 o2 o3 o4:Option (Nat×Nat)} {X0 X1 X2 X3 X4:List Value} {a b c d x y z:Zn}
theorem Ysc:(b::a::oent e0 s0 o0 X0 (oent e1 s1 o1 X1 (c::x::y::z::L))).Perm (a::b::c::oent e1 s1 o1 X1 (oent e0 s0 o0 X0 (x::y::z::L))):=by
 refine(List.Perm.swap _ _ _).trans (List.Perm.cons _ (List.Perm.cons _ ?_));refine(Yq o0 o1 X0 X1 _).trans ?_;exact(Z2 o1 X1 oent_perm.symm).trans oent_perm.symm
theorem Yur:(a::b::c::oent e0 s0 o0 X0 (oent e1 s1 o1 X1 (oent e2 s2 o2 X2 L))).Perm (a::b::c::oent e0 s0 o0 X0 (oent e2 s2 o2 X2 (oent e1 s1 o1 X1 L))) :=
 (((Z2 o0 X0 (Yq o1 o2 X1 X2 L)).cons c).cons b).cons a
theorem permE2:(a::b::c::oent e0 s0 o0 X0 (oent e1 s1 o1 X1 (oent e2 s2 o2 X2 (oent e3 s3 o3 X3 (x::y::z::L))))).Perm (a::b::c::x::y::z::oent e0 s0 o0 X0 (oent e1 s1 o1 X1 (oent e2 s2 o2 X2 (oent e3 s3 o3 X3 L)))):=by
 refine List.Perm.cons _ (List.Perm.cons _ (List.Perm.cons _ ?_));have u3:∀ {e s:Nat} {o:Option (Nat×Nat)} {X:List Value} {R:Own},(oent e s o X (x::y::z::R)).Perm (x::y::z::oent e s o X R):=fun {e s o X R}=>(Z6 [x,y,z]).symm;refine(Z2 o0 X0 (Z2 o1 X1 (Z2 o2 X2 u3))).trans ?_;refine(Z2 o0 X0 (Z2 o1 X1 u3)).trans ?_;exact(Z2 o0 X0 u3).trans u3
theorem permE3:(a::b::c::x::y::z::oent e0 s0 o0 X0 (oent e1 s1 o1 X1 (oent e2 s2 o2 X2 (oent e3 s3 o3 X3 L)))).Perm (a::b::c::oent e0 s0 o0 X0 (oent e2 s2 o2 X2 (oent e1 s1 o1 X1 (oent e3 s3 o3 X3 (x::y::z::L))))) :=
 permE2.symm.trans (((Z2 o0 X0 (Yq o1 o2 X1 X2 _)).cons c).cons b |>.cons a)
theorem permE4:(a::b::c::x::y::z::oent e0 s0 o0 X0 L).Perm (a::oent e0 s0 o0 X0 (b::c::x::y::z::L)):=List.Perm.cons _ (Z6 [b,c,x,y,z])
theorem Zgi:(a::b::c::x::y::z::L).Perm (a::b::x::y::z::c::L):=(((List.perm_middle (l₁:=[x,y,z])).symm.cons b)).cons a
end
theorem Zur {s:Zg}(v:SV)(hs:Zp h v s)(few:Zu s)(fd:s.ai.length<=15000)(hf:YY s=true)(he:s.ep<1073741824)(hA1:Vi s<=140737488355328)(hA8:Vi (tk8 s).1<=18446744073709551615)
  (hk:∀h' u q,PH.le h h'->Zp h' u (WM s)->Zt h' q (WH s)->K (.tuple #[stV (WM s) u,rpV (WH s) q,.int .i64 0]) L h') :
  Zb prog 31 [stV s v] L h K:=by
 have hv0:=hs;have fd0:=fd
 replace fd:s.ai.length<=29000:=qf
 have ti:Zq s 29000:=Zts hs hf he fd;have hp1:0<s.ag.length:=by
  obtain⟨be,hr,hep,hlen,htot⟩:=Yah hs hf;obtain⟨f1,f2,f3,f4,f5,f6,f7,f8,f9⟩:=fitsT_iff.1 hf;simp only[VG,Bool.and_eq_true,wi_iff]at f4;omega
 obtain⟨pa,pc,ma,mc,ea,ec,xa,xc,oa,oc,da,dc,ta,tc,ka,kc,ra,rc,rfl⟩:=hs.slices;have fewS:Zy s:=Zue few;have fewT:Yyy s:=⟨by have:=few.p;omega,by have:=few.m;omega,by have:=few.o;omega,qf⟩
 have hpc:=Yc ti.r;have hep:=ti.ep;have hml:=ti.ml;have hw:0<=s.par.wait/\s.par.wait<=1000:=qf;have ht:0<=min (s.ep+s.par.wait) 2147483647/\min (s.ep+s.par.wait) 2147483647<=2147483647:=qf;obtain⟨t,hte⟩:∃t,t=min (s.ep+s.par.wait) 2147483647:=⟨_,rfl⟩
 rw[<- hte]at ht;have hact:0<=Vi s:=by have:=Uj (ks:=s.marks) ti.be.m;show 0<=Uu s.ae;omega
 obtain⟨S2,hS2⟩:∃x,x=wgS s:=⟨_,rfl⟩
 obtain⟨R2,hR2⟩:∃x,x=wgR s (r0P s):=⟨_,rfl⟩
 have e2:tk2 s=(S2,R2):=by rw[hS2,hR2];rfl
 have ti2:Zq S2 29000:=hS2 ▸ Ydm ti;have f2:Fr s S2:=hS2 ▸ Yde s;have ra2:0<=R2.act/\R2.act<=18446744073709551615:=by rw[hR2];show 0<=Vi s/\Vi s<=_;omega
 have rp2:R2.aU=0:=by rw[hR2];rfl
 obtain⟨S3,hS3⟩:∃x,x=mtS S2 R2:=⟨_,rfl⟩
 obtain⟨R3,hR3⟩:∃x,x=mtR S2 R2:=⟨_,rfl⟩
 have e3:tk3 s=(S3,R3):=by rw[hS3,hR3];show (mtS (tk2 s).1 (tk2 s).2,mtR (tk2 s).1 (tk2 s).2)=_;rw[e2]
 have ti3:Zq S3 29000:=hS3 ▸ Yga ti2 ra2;have f3:Fr s S3:=f2.next (hS3 ▸ Ygc S2 R2);have rb3:R3.aC=0:=by rw[hR3,hR2];rfl
 have rf3:R3.aV=0:=by rw[hR3,hR2];rfl
 obtain⟨S4,hS4⟩:∃x,x=fnS S3 R3:=⟨_,rfl⟩
 obtain⟨R4,hR4⟩:∃x,x=fnR S3 R3 S3.ae.length:=⟨_,rfl⟩
 have e4:tk4 s=(S4,R4):=by rw[hS4,hR4];show (fnS (tk3 s).1 (tk3 s).2,fnR (tk3 s).1 (tk3 s).2 (tk3 s).1.ae.length)=_;rw[e3]
 have ti4:Zq S4 29000:=hS4 ▸ Yfy ti3 rb3;have f4:Fr s S4:=f3.next (hS4 ▸ Ygm S3 R3);have p4:S4.ag=S3.ag:=by rw[hS4];rfl
 have d4:S4.ai=s.ai:=by rw[hS4,hS3,hS2];rfl
 have x4:S4.exit=s.exit:=by rw[hS4,hS3,hS2];rfl
 have ro4:R4.out=[]/\R4.left=[]/\R4.started=[]/\R4.done=[]:=by rw[hR4,hR3,hR2];exact⟨rfl,rfl,rfl,rfl⟩
 obtain⟨S5,hS5⟩:∃x,x=ejS S4 t S4.ae.length:=⟨_,rfl⟩
 obtain⟨R5,hR5⟩:∃x,x=ejR S4 R4 S4.ae.length:=⟨_,rfl⟩
 have e5:tk5 s=(S5,R5):=by rw[hS5,hR5];show Yfz (atP s) (tk4 s)=_;rw[e4,show atP s=t from hte.symm];rfl
 have f5:Fr s S5:=f4.next (hS5 ▸ Ztj S4 t);have ti5:Zq S5 29128:=by have:=Zcx ti4 ht (Nat.le_refl S4.ae.length);rw[hS5];exact this.mono (by have:=f4.l;omega)
 have p5:S5.ag=S4.ag:=by rw[hS5];rfl
 have ro5:R5.left=[]/\R5.started=[]/\R5.done=[]/\R5.out=ouN S4.par S4.ae S4.ae.length:=by
  rw[hR5];refine⟨ro4.2.1,ro4.2.2.1,ro4.2.2.2,?_⟩;show R4.out++_=_;rw[ro4.1];rfl
 have ol5:R5.out.length<=128:=by rw[ro5.2.2.2];have:=Gg S4.par S4.ae S4.ae.length;have:=f4.l;omega
 have ob5:∀z∈R5.out,0<=z/\z<((128:Nat):Int):=by rw[ro5.2.2.2];intro z hz;have:=Ypg S4.par S4.ae S4.ae.length z hz;have:=f4.l;omega
 obtain⟨S7,hS7⟩:∃x,x=lvS S5 t:=⟨_,rfl⟩
 obtain⟨R7,hR7⟩:∃x,x=lvR S5 R5:=⟨_,rfl⟩
 have e7:tk7 s=(S7,R7):=by rw[hS7,hR7];show (lvS (tk5 s).1 (atP s),lvR (tk5 s).1 (tk5 s).2)=_;rw[e5,show atP s=t from hte.symm]
 have ti7:Zq S7 29192:=hS7 ▸ Yna ti5 ht;have f7:Fr s S7:=f5.next (hS7 ▸ Ydx S5 t);have ro7:R7.out=R5.out/\R7.left=lvW S5/\R7.started=[]/\R7.done=[]:=by rw[hR7];exact⟨rfl,rfl,ro5.2.1,ro5.2.2.1⟩
 obtain⟨S8,hS8⟩:∃x,x=enS S7 R7 t:=⟨_,rfl⟩
 obtain⟨R8,hR8⟩:∃x,x=enR S7 R7 t:=⟨_,rfl⟩
 have e8:tk8 s=(S8,R8):=by rw[hS8,hR8];show (enS (tk7 s).1 (tk7 s).2 (atP s),enR (tk7 s).1 (tk7 s).2 (atP s))=_;rw[e7,show atP s=t from hte.symm]
 have ti8:Zq S8 29256:=hS8 ▸ Ylj ti7 R7 ht;obtain⟨a8,b8,c8,d8,g8⟩:=Ynb S7 R7 t;rw[<- hS8]at a8 b8 c8 d8 g8;have ro8:R8.left=lvW S5/\R8.done=[]/\(∀z∈R8.out,0<=z/\z<((128:Nat):Int))/\(∀z∈R8.started,0<=z/\z<((128:Nat):Int))/\R8.out.length<=300/\R8.started.length<=300:=by
  rw[hR8];unfold enR;split
  ·have hx:=(Yei ti7).1;have hwl:=(Ysp ti7).1
   obtain⟨u1,u2,u3,u4⟩:=st_b (p:=S7.par) (t:=t) (n:=128) qh (enW S7) (x:=⟨(enX S7).ms,S7.ai,S7.exit,R7.out,R7.started⟩) (fun z hz=>by
    have h1:=VL hx.e (List.mem_of_mem_take hz);have h2:(enX S7).ms.length<=128:=hx.l1
    omega) wL (fun z hz=>zO) (enW S7).length (Nat.le_refl _)
   simp only[ro7.1,ro7.2.2.1,List.length_nil]at u3 u4;refine⟨ro7.2.1,ro7.2.2.2,u1,u2,?_,?_⟩
   ·show (enY S7 R7 t).out.length<=300;have:(enY S7 R7 t).out.length<=R5.out.length+(enW S7).length:=by rw[enY,ro7.1,ro7.2.2.1];exact u3
    omega
   ·show (enY S7 R7 t).go.length<=300;have:(enY S7 R7 t).go.length<=0+(enW S7).length:=by rw[enY,ro7.1,ro7.2.2.1];exact u4
    omega
  ·exact⟨ro7.2.1,ro7.2.2.2,wL,(fun z hz=>zO),by rw[ro7.1];omega,by rw[ro7.2.2.1];simp⟩
 obtain⟨S9,hS9⟩:∃x,x=moS S8 R8:=⟨_,rfl⟩
 obtain⟨R9,hR9⟩:∃x,x=moR S8 R8:=⟨_,rfl⟩
 have e9:tk9 s=(S9,R9):=by rw[hS9,hR9];show (moS (tk8 s).1 (tk8 s).2,moR (tk8 s).1 (tk8 s).2)=_;rw[e8]
 have ti9:Zq S9 29256:=hS9 ▸ Zzb ti8 R8 (Nat.le_refl _);rw[e8]at hA8;simp only at hA8;refine eU func31 fun ap nd=>?_;clear ap nd;refine xx ?_;refine ZY fun b1 nb1 zb1=>?_;(try simp only[ZS]at nb1);refine xx ?_;refine ZY fun b2 nb2 zb2=>?_;(try simp only[ZS]at nb2);have n21:NeB b2 b1:=Ne.symm nb2.1;refine xx ?_;refine ZY fun b3 nb3 zb3=>?_;(try simp only[ZS]at nb3);have n32:NeB b3 b2:=Ne.symm nb3.1;have n31:NeB b3 b1:=Ne.symm nb3.2.1;clear nb1 nb2 nb3;refine xx ?_;refine Zb.ap (JJ (s:=s) ⟨.slice pa s.ag.length pc,.slice ma s.ae.length mc,.slice ea s.entry.length ec,.slice xa s.exit.length xc,.slice oa s.aj.length oc,.slice da s.ai.length dc,.slice ta s.ah.length tc,.slice ka s.marks.length kc,.slice ra s.ring.length rc⟩ hs fewS fewT fun h0 le0 ap=>?_);have q3:h0 b3=noC:=ap.1;have q2:h0 b2=noC:=ap.2.1;have q1:h0 b1=noC:=ap.2.2.1;clear ap;rw[hf];refine xx ?_;refine Zb.apn (Zod (s:=s) ⟨.slice pa s.ag.length pc,.slice ma s.ae.length mc,.slice ea s.entry.length ec,.slice xa s.exit.length xc,.slice oa s.aj.length oc,.slice da s.ai.length dc,.slice ta s.ah.length tc,.slice ka s.marks.length kc,.slice ra s.ring.length rc⟩ (hs.up le0) few hp1 fun h1 bp cp om oe xv le1 okp okm oke ixv ap nd=>?_);have ap:=Ap.oent (Ap.oent ap);have nd:=Zho (Zho nd);have q1p:h1 bp=noC:=ap.1;have q13:h1 b3=noC:=ap.2.1;have q12:h1 b2=noC:=ap.2.2.1;have q11:h1 b1=noC:=ap.2.2.2.1;have np3:NeB bp b3:=Ne.symm nd.1.1;have np2:NeB bp b2:=Ne.symm nd.1.2.1;have np1:NeB bp b1:=Ne.symm nd.1.2.2.1;clear ap nd;obtain⟨xa1,xc1,rfl,_⟩:=ixv.open;have le0':=PH.le_refl h1
 replace le1:=le0.trans le1
 have htw:0<=s.ep+s.par.wait/\s.ep+s.par.wait<=9223372036854775807:=qf;refine xx ?_;refine ZY fun b5 nb5 zb5=>?_;(try simp only[ZS]at nb5);clear nb5;refine xx ?_;refine ZY fun b6 nb6 zb6=>?_;(try simp only[ZS]at nb6);have n65:NeB b6 b5:=Ne.symm nb6.1;clear nb6;refine xx ?_;have hs1:=hv0.up le1;obtain⟨uq,it1,it2,it3⟩:=hs1.t;obtain⟨uqr,ir1,ir2⟩:=hs1.r;have ik:=hs1.k;have io:=hs1.o;have idd:=hs1.d;refine Zb.fin (Zb.weaken (Za.perm _ Ysc) (Zb.apn (Zsx (s:=s) (v:=⟨.slice (some ⟨bp,0,none⟩) s.ag.length cp,ovs om s.ae.length,ovs oe s.entry.length,.slice xa1 s.exit.length xc1,.slice oa s.aj.length oc,.slice da s.ai.length dc,.slice ta s.ah.length tc,.slice ka s.marks.length kc,.slice ra s.ring.length rc⟩) (r:=r0P s) (q:=⟨.slice none 0 0,.slice none 0 0,.slice none 0 0,.slice none 0 0⟩) (om:=om) ti hA1 ik rfl okm fun h2 le2 ap nd=>ZP ?_)));clear ap nd;have p2:S2.ag=s.ag:=by rw[hS2];rfl
 rw[<- hS2,<- hR2,show dP bp cp s.ag=dP bp cp S2.ag by rw[p2]];refine xx ?_;refine Ybo (s:=S2) (v:=⟨.slice (some ⟨bp,0,none⟩) s.ag.length cp,ovs om s.ae.length,ovs oe s.entry.length,.slice xa1 s.exit.length xc1,.slice oa s.aj.length oc,.slice da s.ai.length dc,.slice ta s.ah.length tc,.slice ka s.marks.length kc,.slice ra s.ring.length rc⟩) (om:=om) ti2 ra2 rp2 (by rw[p2]) (by rw[f2.k];exact ik.up le2) (by rw[f2.l]) (by rw[f2.l];exact okm) fun h3 le3=>?_;rw[<- hS3,<- hR3];refine xx ?_;have le13:=le2.trans le3;have l3:S3.ag.length=s.ag.length:=by
  rw[hS3,<- p2];exact(Ymd ti2 ra2 (Nat.le_refl (mtW S2).length)).l2
 refine Zb.fin (Zb.weaken (Za.perm _ permD1) (Zb.apn (Zud (s:=S3) (v:=⟨.slice (some ⟨bp,0,none⟩) s.ag.length cp,ovs om s.ae.length,ovs oe s.entry.length,.slice xa1 s.exit.length xc1,.slice oa s.aj.length oc,.slice da s.ai.length dc,.slice ta s.ah.length tc,.slice ka s.marks.length kc,.slice ra s.ring.length rc⟩) (r:=R3) (om:=om) ti3 rb3 rf3 (by rw[f3.k];exact ik.up le13) (by rw[f3.l]) (by rw[f3.l];exact okm) fun h4 le4 ap nd=>⟨_,_,Za.perm _ permD1.symm,?_⟩)));clear ap nd;rw[<- hS4,<- hR4,show dP bp cp S3.ag=dP bp cp S4.ag by rw[p4]];have le14:=le13.trans le4;refine xx ?_;refine Zb.fin (Zb.weaken (Za.perm _ permD1) (Zb.apn (Zey (s:=S4) (v:=⟨.slice (some ⟨bp,0,none⟩) s.ag.length cp,ovs om s.ae.length,ovs oe s.entry.length,.slice xa1 s.exit.length xc1,.slice oa s.aj.length oc,.slice da s.ai.length dc,.slice ta s.ah.length tc,.slice ka s.marks.length kc,.slice ra s.ring.length rc⟩) (r:=R4) (q:=⟨.slice none 0 0,.slice none 0 0,.slice none 0 0,.slice none 0 0⟩) (om:=om) (oo:=none) ti4 qh (by rw[d4];exact idd.up le14) (by rw[f4.l]) (by rw[f4.l];exact okm) (s.ep+s.par.wait) htw (by rw[x4];exact ixv.up (le0'.trans le14)) (by rw[ro4.1];rfl) (by rw[ro4.1];rfl) (by rw[ro4.1];simp) fun h5 dv5 xv5 oo5 le5 i5 ix5 ok5 ap nd=>⟨_,_,Za.perm _ permD4.symm,?_⟩)));rw[<- hte,<- hS5]at i5 ix5;rw[<- hR5]at ok5;rw[<- hte,<- hS5,<- hR5,show dP bp cp S4.ag=dP bp cp S5.ag by rw[p5]];obtain⟨da5,dc5,rfl,_⟩:=i5.open;obtain⟨xa5,xc5,rfl,_⟩:=ix5.open;have le15:=le14.trans le5;have pl5:S5.ag.length=s.ag.length:=by rw[p5,p4,l3]
 refine xx ?_;refine Zua (s:=S5) (v:=⟨.slice (some ⟨bp,0,none⟩) s.ag.length cp,ovs om s.ae.length,ovs oe s.entry.length,.slice xa5 S5.exit.length xc5,.slice oa s.aj.length oc,.slice da5 S5.ai.length dc5,.slice ta s.ah.length tc,.slice ka s.marks.length kc,.slice ra s.ring.length rc⟩) (r:=R5) (q:=⟨ovs oo5 R5.out.length,.slice none 0 0,.slice none 0 0,.slice none 0 0⟩) (om:=om) ti5 qh (by rw[pl5]) i5 (by rw[f5.l]) (by rw[f5.l];exact okm) ix5 (s.ep+s.par.wait) htw fun h7 dv7 xv7 lv7 le7 i7d i7x i7l=>?_;rw[<- hte,<- hS7]at i7d i7x;rw[<- hte,<- hS7,<- hR7];obtain⟨da7,dc7,rfl,_⟩:=i7d.open;obtain⟨xa7,xc7,rfl,_⟩:=i7x.open;obtain⟨la7,lc7,rfl,_⟩:=i7l.open;have le17:=le15.trans le7;have pl7:S7.ag.length=s.ag.length:=by
  rw[hS7,<- pl5];exact(Zbd ti5.be.p (Yps ti5 ht) _ (Nat.le_refl _)).1
 refine xx ?_;rw[<- f7.e,<- ro7.1];refine Zb.fin (Zb.weaken (Za.perm _ Yur) (Zb.apn (Zte (s:=S7) (v:=⟨.slice (some ⟨bp,0,none⟩) s.ag.length cp,ovs om s.ae.length,ovs oe S7.entry.length,.slice xa7 S7.exit.length xc7,.slice oa s.aj.length oc,.slice da7 S7.ai.length dc7,.slice ta s.ah.length tc,.slice ka s.marks.length kc,.slice ra s.ring.length rc⟩) (om:=om) (oe:=oe) (os:=none) (oo:=oo5) (r:=R7) (q:=⟨ovs oo5 R7.out.length,.slice la7 (lvW S5).length lc7,.slice none 0 0,.slice none 0 0⟩) ti7 qh (s.ep+s.par.wait) htw (by rw[ro7.1];omega) (by rw[ro7.2.2.1];simp) (by rw[pl7]) i7d (by rw[f7.o];exact io.up (le0'.trans le17)) (by rw[f7.l]) (by rw[f7.l];exact okm) rfl (by rw[f7.e];exact oke) i7x rfl (by rw[ro7.1];exact ok5) (by rw[ro7.2.2.1];rfl) (by rw[ro7.2.2.1];rfl) fun h8 dv8 xv8 ov8 ev8 om8 oo8 os8 le8 i8d i8x i8o i8e okm8 oko8 oks8 ap nd=>ZP ?_)));clear ap nd;rw[<- hte,<- hS8]at i8d i8x i8o i8e okm8;rw[<- hte,<- hR8]at oko8 oks8;rw[<- hte,<- hS8,<- hR8];obtain⟨da8,dc8,rfl,_⟩:=i8d.open;obtain⟨xa8,xc8,rfl,_⟩:=i8x.open;obtain⟨oa8,oc8,rfl,_⟩:=i8o.open;obtain⟨ea8,ec8,rfl,_⟩:=i8e.open;have le18:=le17.trans le8;have pl8:S8.ag.length=s.ag.length:=by
  rw[hS8,<- pl7];unfold enS;split
  ·exact(Yei ti7).1.l2
  ·rfl
 refine xx ?_;refine Zb.fin (Zb.apn (Zrw (s:=S8) (v:=⟨.slice (some ⟨bp,0,none⟩) s.ag.length cp,ovs om8 S8.ae.length,.slice ea8 S8.entry.length ec8,.slice xa8 S8.exit.length xc8,.slice oa8 S8.aj.length oc8,.slice da8 S8.ai.length dc8,.slice ta s.ah.length tc,.slice ka s.marks.length kc,.slice ra s.ring.length rc⟩) (om:=om8) (od:=none) (r:=R8) (q:=⟨ovs oo8 R8.out.length,.slice la7 (lvW S5).length lc7,ovs os8 R8.started.length,.slice none 0 0⟩) ti8 hA8 (by rw[ro8.2.1];simp) (by rw[pl8]) ⟨uq,it1.up (le0'.trans le18),it2.trans (g8.trans f7.t).symm,fun x hx=>(it3 x hx).up (le0'.trans le18)⟩ rfl okm8 (by rw[ro8.2.1];rfl) (by rw[ro8.2.1];rfl) fun h9 tv9 od9 le9 i9t okd9 ap nd=>⟨_,_,Za.perm _ permE2,?_⟩));have ap:=Ap.perm permE2 ap;have hb5:h9 b5=noC:=ap.1;have hb6:h9 b6=noC:=ap.2.1;have hbp:h9 bp=noC:=ap.2.2.1;have hb3:h9 b3=noC:=ap.2.2.2.1;have hb2:h9 b2=noC:=ap.2.2.2.2.1;have hb1:h9 b1=noC:=ap.2.2.2.2.2.1;have nd:=Nd.perm permE2 nd;have d56:NeB b5 b6:=Ne.symm nd.1.1;have d5p:NeB b5 bp:=Ne.symm nd.1.2.1;have d53:NeB b5 b3:=Ne.symm nd.1.2.2.1;have d52:NeB b5 b2:=Ne.symm nd.1.2.2.2.1;have d51:NeB b5 b1:=Ne.symm nd.1.2.2.2.2.1;have d6p:NeB b6 bp:=Ne.symm nd.2.1.1;have d63:NeB b6 b3:=Ne.symm nd.2.1.2.1;have d62:NeB b6 b2:=Ne.symm nd.2.1.2.2.1;have d61:NeB b6 b1:=Ne.symm nd.2.1.2.2.2.1;clear ap nd;rw[<- hS9]at i9t;rw[<- hR9]at okd9;rw[<- hS9,<- hR9];have m9:S9.ae=S8.ae:=by rw[hS9];rfl
 have en9:S9.entry=S8.entry:=by rw[hS9];rfl
 have x9:S9.exit=S8.exit:=by rw[hS9];rfl
 have d9:S9.ai=S8.ai:=by rw[hS9];rfl
 have o9:S9.aj=S8.aj:=by rw[hS9];rfl
 have k9:S9.marks=s.marks:=by rw[hS9];exact c8.trans f7.k
 have r9:S9.ring=s.ring:=by rw[hS9];exact d8.trans f7.r
 have ep9:S9.ep=s.ep:=by rw[hS9];exact b8.trans f7.ep
 have ro9:R9.out=R8.out/\R9.left=R8.left/\R9.started=R8.started:=by rw[hR9];exact⟨rfl,rfl,rfl⟩
 have dn9:(∀z∈R9.done,0<=z/\z<((128:Nat):Int)):=by
  rw[hR9];have hmn:=ti8.mn;have hL:(moL S8).length=S8.ah.length:=List.length_map _;exact Yjg qh (fun z hz=>by have:=(Zeo (s:=S8) R8).2 z hz;omega) (fun z hz=>by rw[ro8.2.1]at hz;cases hz) _ (Nat.le_refl _)
 have pl9:S9.ag.length=s.ag.length:=by
  rw[hS9,<- pl8];exact(Yrg ti8 R8 (Nat.le_refl _)).l2
 rw[<- m9]at okm8;rw[<- ro9.1]at oko8;rw[<- ro9.2.2]at oks8;rw[<- m9,<- ro9.1,<- ro9.2.2];obtain⟨q9,i9t1,i9t2,i9t3⟩:=i9t;obtain⟨ta9,tc9,rfl,_⟩:=i9t1.open;have le19:=le18.trans le9;have i8d9:Zd Yh 3 h9 (.slice da8 S8.ai.length dc8) S9.ai:=by rw[d9];exact i8d.up le9
 have i8o9:Zd UK 4 h9 (.slice oa8 S8.aj.length oc8) S9.aj:=by rw[o9];exact i8o.up le9
 have i8x9:Ints h9 .i64 (.slice xa8 S8.exit.length xc8) S9.exit:=by rw[x9];exact i8x.up le9
 have i8e9:Ints h9 .i64 (.slice ea8 S8.entry.length ec8) S9.entry:=by rw[en9];exact i8e.up le9
 simp -dsimp -implicitDefEqProofs (disch:=first|exact dD|fail) [go_sem,Yte];refine Y6 (fun c=>?_) (fun c=>?_)
 ·have e10:US s=(S9,R9):=by rw[US,e9,if_pos c]
  have eT:WM s=seS S9:=by rw[WM,e10]
  have eR:WH s=R9:=by rw[WH,e10]
  have tiE:Zq S9 29400:=ti9.mono qh;have iD:=i8d9;have iX:=i8x9;have kE:=k9;have rE:=r9;have plE:=pl9;have mE:S9.ah=S9.ah:=rfl;have oE:S9.aj=S9.aj:=rfl;have nE:S9.entry=S9.entry:=rfl;have okmE:=okm8;have okoE:=oko8;have obE:∀z∈R9.out,0<=z/\z<((128:Nat):Int):=by rw[ro9.1];exact ro8.2.2.1
  have olE:R9.out.length<=1000:=by rw[ro9.1];omega
  have leE:=le19;have leE9:=PH.le_refl h9;have lE:R9.left=lvW S5/\R9.started=R9.started/\R9.done=R9.done:=⟨ro9.2.1.trans ro8.1,rfl,rfl⟩
  refine xx ?_;have ml10:S9.ae.length<=128:=tiE.ml;have lenS:(seS S9).ae.length=S9.ae.length:=Wp _ _ _;refine Zb.fin (Zb.weaken (Za.perm _ permE4) (Zb.apn (Zdq (s:=S9) (v:=⟨.slice (some ⟨bp,0,none⟩) s.ag.length cp,ovs om8 S9.ae.length,.slice ea8 S8.entry.length ec8,.slice xa8 S8.exit.length xc8,.slice oa8 S8.aj.length oc8,.slice da8 S8.ai.length dc8,.slice ta9 q9.length tc9,.slice ka s.marks.length kc,.slice ra s.ring.length rc⟩) (om:=om8) tiE (by rw[kE];exact ik.up (le0'.trans leE)) ⟨uqr,ir1.up (le0'.trans leE),ir2.trans rE.symm⟩ (by rw[rE];have:=few.r;omega) rfl okmE fun hz kvz rvz lez iz1 iz2 ap nd=>?_)));obtain⟨kza,kzc,rfl,_⟩:=iz1.open;obtain⟨qz,z1,z2⟩:=iz2;obtain⟨rza,rzc,rfl,_⟩:=z1.open;have ap:=Ap.perm (permE4.symm.trans Zgi) ap;have nd:=Nd.perm (permE4.symm.trans Zgi) nd;obtain⟨g0,l0,dr0,sl0,ap,nd⟩:=Ygv (n:=s.ag.length) okp (by rw[List.length_map];exact plE) (by have:=few.p;omega) ap nd;obtain⟨g1,l1,dr1,sl1,ap,nd⟩:=GD [_,_,_,_,_] (n:=(seS S9).ae.length) wM (Z1 Z8 _) qf ap nd;obtain⟨g2,l2,dr2,sl2,ap,nd⟩:=GD [_,_,_,_,_] (n:=R9.done.length) (sz:=1) okd9 qj (Un okd9) ap nd;obtain⟨g3,l3',dr3,sl3,ap,nd⟩:=GD [_,_,_,_,_] (n:=R9.out.length) (sz:=1) okoE qj qf ap nd;obtain⟨g4,l4,dr4,sl4,ap,nd⟩:=GD [_,_,_,_,_] (n:=R9.started.length) (sz:=1) oks8 qj (Un oks8) ap nd;refine⟨_,_,(Za.perm _ (permE4.symm.trans Zgi)).trans (dr0.trans (dr1.trans (dr2.trans (dr3.trans dr4)))),?_⟩;obtain⟨hc5,hc6,hc3,hc2,hc1,_⟩:=ap;simp only at hc5 hc6 hc3 hc2 hc1;clear nd dr0 dr1 dr2 dr3 dr4;have m34:=l3'.trans l4;have m24:=l2.trans m34;have m14:=l1.trans m24;have mz4:=lez.trans (l0.trans m14)
  have hIS:Zp g4 ⟨.slice (some ⟨bp,0,none⟩) s.ag.length cp,ovs om8 S9.ae.length,.slice ea8 S8.entry.length ec8,.slice xa8 S8.exit.length xc8,.slice oa8 S8.aj.length oc8,.slice da8 S8.ai.length dc8,.slice ta9 q9.length tc9,.slice kza (List.replicate 16 (0:Int)).length kzc,.slice rza qz.length rzc⟩ (WM s):=by
   rw[eT];have hn:=tiE.ok.n;have hp1:=tiE.ep;simp only[List.forall_mem_cons]at hn;refine⟨⟨tiE.ok.p,tiE.ok.u,?_⟩,?_,?_,?_,?_,?_,?_,fun x hx=>(tiE.oo x hx).1,iD.up mz4,fun x hx=>(tiE.dd x hx).1,⟨q9,i9t1.up (leE9.trans mz4),i9t2.trans mE.symm,fun x hx=>(i9t3 x hx).up (leE9.trans mz4)⟩,iz1.up (l0.trans m14),?_⟩
   ·show ∀z∈[S9.ep+1,S9.calm],_;simp only[List.forall_mem_cons];exact⟨qf,hn.2⟩
   ·show Ints g4 .u64 _ S9.ag;refine⟨by rw[plE];exact sl0.up m14,fun z hz=>?_⟩;rw[show IntKind.u64.min=0 from qh,show IntKind.u64.max=18446744073709551615 from qh];obtain⟨j,hj,rfl⟩:=List.mem_iff_getElem.1 hz;have h1:=(tiE.be.le j)
    rw[Ys hj];have h2:=tiE.sum;obtain⟨u1,u2,u3,u4,u5,u6⟩:=tiE.parts;omega
   ·have:=Zd.pub (f:=YD) (w:=6) (l:=(seS S9).ae) (o:=om8) Z8 (sl1.up m24);rw[lenS]at this;exact(this)
   ·exact Zaw Zf (fun m hm=>Zaa tiE.ok.p tiE.r hm) tiE.be.m _ (Nat.le_refl _)
   ·show Ints g4 .i64 _ S9.entry;rw[nE];exact i8e9.up (leE9.trans mz4)
   ·show Ints g4 .i64 _ S9.exit;exact iX.up mz4
   ·show Zd UK 4 g4 _ S9.aj;rw[oE];exact i8o9.up (leE9.trans mz4)
   ·exact⟨qz,z1.up (l0.trans m14),z2⟩
  have hRP:Zt g4 ⟨ovs oo8 R9.out.length,.slice la7 (lvW S5).length lc7,ovs os8 R9.started.length,ovs od9 R9.done.length⟩ (WH s):=by
   rw[eR];refine⟨Zva (sl3.up l4) fun z hz=>wJ,by rw[lE.1];exact i7l.up ((le8.trans (le9.trans leE9)).trans mz4),?_,?_⟩
   ·rw[lE.2.1];exact Zva sl4 fun z hz=>by have:=ro8.2.2.2.1 z wB;omega
   ·rw[lE.2.2];exact Zva (sl2.up m34) fun z hz=>by have:=dn9 z hz;omega
  have hk:=hk g4 _ _ (le1.trans (leE.trans mz4)) hIS hRP;rw[eT,eR]at hk;refine xx ?_;refine Z4 (.tkl 0 (.o1 1 (.o2 2 (.o2 3 (.tk 4 (.fin)) (.nil)) (.nil)) (.o2 2 (.o1 1 (.o2 3 (.tk 4 (.fin)) (.nil)) (.nil)) (.nil)))) qg qg _ (Za.refl _ _) ?_
  repeat' first
   | with_reducible refine Yf ?_ ?_
   | simp -dsimp -implicitDefEqProofs (disch:=first|exact dD|fail) [go_sem]
   | fail
  all_goals exact ZO (ZO (ZO (ZO (ZO (ZP hk)))))
 ·have e10:US s=Yfz t (ajS S9,R9):=by rw[US,e9,if_neg c,show atP s=t from hte.symm]
  refine xx ?_;refine Zb.fin (Zb.weaken (Za.perm _ permE3) (Zb.apn (Znt (s:=S9) (v:=⟨.slice (some ⟨bp,0,none⟩) s.ag.length cp,ovs om8 S9.ae.length,.slice ea8 S8.entry.length ec8,.slice xa8 S8.exit.length xc8,.slice oa8 S8.aj.length oc8,.slice da8 S8.ai.length dc8,.slice ta9 q9.length tc9,.slice ka s.marks.length kc,.slice ra s.ring.length rc⟩) (om:=om8) (oo:=oo8) (r:=R9) (q:=⟨ovs oo8 R9.out.length,.slice la7 (lvW S5).length lc7,ovs os8 R9.started.length,ovs od9 R9.done.length⟩) ti9 qh (by rw[pl9]) i8d9 rfl okm8 (s.ep+s.par.wait) htw i8x9 rfl oko8 (by rw[ro9.1];omega) fun h10 d10 x10v oo10 le10 i10d i10x ok10 ap nd=>⟨_,_,Za.perm _ permE3.symm,?_⟩)));clear ap nd;rw[<- hte]at i10d i10x ⊢;have tiE:Zq (ejS (ajS S9) t (ajS S9).ae.length) 29400:=by
   have h1:Zq (ajS S9) 29256:=Zfb ti9 (Nat.le_refl _);exact(Zcx h1 ht (Nat.le_refl _)).mono (by have:=h1.ml;omega)
  have l10:(ejS (ajS S9) t (ajS S9).ae.length).ae.length=S9.ae.length:=(Ztj (ajS S9) t).l.trans (Vl S9.par (S9.ae,S9.ag) S9.ae.length).1;have ou10:(ejR (ajS S9) R9 (ajS S9).ae.length).out=R9.out++ouN (ajS S9).par (ajS S9).ae (ajS S9).ae.length:=rfl;have la10:(ajS S9).ae.length<=128:=by rw[show (ajS S9).ae.length=S9.ae.length from(Vl S9.par (S9.ae,S9.ag) S9.ae.length).1];exact ti9.ml
  have plA:(ajS S9).ag.length=s.ag.length:=by rw[<- pl9];exact(Vl S9.par (S9.ae,S9.ag) S9.ae.length).2
  obtain⟨S10,hS10⟩:∃x,x=ejS (ajS S9) t (ajS S9).ae.length:=⟨_,rfl⟩
  obtain⟨R10,hR10⟩:∃x,x=ejR (ajS S9) R9 (ajS S9).ae.length:=⟨_,rfl⟩
  have eP10:(ajS S9).ag=S10.ag:=by rw[hS10];rfl
  rw[eP10]at plA;rw[<- hS10]at i10d i10x tiE l10;rw[<- hR10]at ok10 ou10;rw[<- hS10,<- hR10,show dP bp cp (ajS S9).ag=dP bp cp S10.ag by rw[eP10]];have eT:WM s=seS S10:=by rw[WM,e10,hS10];rfl
  have eR:WH s=R10:=by rw[WH,e10,hR10];rfl
  obtain⟨da10,dc10,rfl,_⟩:=i10d.open;obtain⟨xa10,xc10,rfl,_⟩:=i10x.open;have iD:=i10d;have iX:=i10x;have kE:S10.marks=s.marks:=by rw[hS10];exact k9
  have rE:S10.ring=s.ring:=by rw[hS10];exact r9
  have plE:S10.ag.length=s.ag.length:=plA;have mE:S10.ah=S9.ah:=by rw[hS10];rfl
  have oE:S10.aj=S9.aj:=by rw[hS10];rfl
  have nE:S10.entry=S9.entry:=by rw[hS10];rfl
  have okmE:okO om8 S10.ae.length:=by rw[l10];exact okm8
  have okoE:=ok10;have obE:∀z∈R10.out,0<=z/\z<((128:Nat):Int):=fun z hz=>by
   rw[ou10]at hz;rcases List.mem_append.1 hz with hz|hz
   ·rw[ro9.1]at hz;exact ro8.2.2.1 z hz
   ·have:=Ypg _ _ _ z hz;omega
  have olE:R10.out.length<=1000:=by
   rw[ou10,List.length_append,ro9.1];have:=Gg (ajS S9).par (ajS S9).ae (ajS S9).ae.length;omega
  have leE:=le19.trans le10;have leE9:=le10;have lE:R10.left=lvW S5/\R10.started=R9.started/\R10.done=R9.done:=by rw[hR10];exact⟨ro9.2.1.trans ro8.1,rfl,rfl⟩
  refine xx ?_;have ml10:S10.ae.length<=128:=tiE.ml;have lenS:(seS S10).ae.length=S10.ae.length:=Wp _ _ _;refine Zb.fin (Zb.weaken (Za.perm _ permE4) (Zb.apn (Zdq (s:=S10) (v:=⟨.slice (some ⟨bp,0,none⟩) s.ag.length cp,ovs om8 S9.ae.length,.slice ea8 S8.entry.length ec8,.slice xa10 S10.exit.length xc10,.slice oa8 S8.aj.length oc8,.slice da10 S10.ai.length dc10,.slice ta9 q9.length tc9,.slice ka s.marks.length kc,.slice ra s.ring.length rc⟩) (om:=om8) tiE (by rw[kE];exact ik.up (le0'.trans leE)) ⟨uqr,ir1.up (le0'.trans leE),ir2.trans rE.symm⟩ (by rw[rE];have:=few.r;omega) (by rw[l10]) okmE fun hz kvz rvz lez iz1 iz2 ap nd=>?_)));obtain⟨kza,kzc,rfl,_⟩:=iz1.open;obtain⟨qz,z1,z2⟩:=iz2;obtain⟨rza,rzc,rfl,_⟩:=z1.open;have ap:=Ap.perm (permE4.symm.trans Zgi) ap;have nd:=Nd.perm (permE4.symm.trans Zgi) nd;obtain⟨g0,l0,dr0,sl0,ap,nd⟩:=Ygv (n:=s.ag.length) okp (by rw[List.length_map];exact plE) (by have:=few.p;omega) ap nd;obtain⟨g1,l1,dr1,sl1,ap,nd⟩:=GD [_,_,_,_,_] (n:=(seS S10).ae.length) wM (Z1 Z8 _) qf ap nd;obtain⟨g2,l2,dr2,sl2,ap,nd⟩:=GD [_,_,_,_,_] (n:=R9.done.length) (sz:=1) okd9 qj (Un okd9) ap nd;obtain⟨g3,l3',dr3,sl3,ap,nd⟩:=GD [_,_,_,_,_] (n:=R10.out.length) (sz:=1) okoE qj qf ap nd;obtain⟨g4,l4,dr4,sl4,ap,nd⟩:=GD [_,_,_,_,_] (n:=R9.started.length) (sz:=1) oks8 qj (Un oks8) ap nd;refine⟨_,_,(Za.perm _ (permE4.symm.trans Zgi)).trans (dr0.trans (dr1.trans (dr2.trans (dr3.trans dr4)))),?_⟩;obtain⟨hc5,hc6,hc3,hc2,hc1,_⟩:=ap;simp only at hc5 hc6 hc3 hc2 hc1;clear nd dr0 dr1 dr2 dr3 dr4;have m34:=l3'.trans l4;have m24:=l2.trans m34;have m14:=l1.trans m24;have mz4:=lez.trans (l0.trans m14)
  have hIS:Zp g4 ⟨.slice (some ⟨bp,0,none⟩) s.ag.length cp,ovs om8 S9.ae.length,.slice ea8 S8.entry.length ec8,.slice xa10 S10.exit.length xc10,.slice oa8 S8.aj.length oc8,.slice da10 S10.ai.length dc10,.slice ta9 q9.length tc9,.slice kza (List.replicate 16 (0:Int)).length kzc,.slice rza qz.length rzc⟩ (WM s):=by
   rw[eT];have hn:=tiE.ok.n;have hp1:=tiE.ep;simp only[List.forall_mem_cons]at hn;refine⟨⟨tiE.ok.p,tiE.ok.u,?_⟩,?_,?_,?_,?_,?_,?_,fun x hx=>(tiE.oo x hx).1,iD.up mz4,fun x hx=>(tiE.dd x hx).1,⟨q9,i9t1.up (leE9.trans mz4),i9t2.trans mE.symm,fun x hx=>(i9t3 x hx).up (leE9.trans mz4)⟩,iz1.up (l0.trans m14),?_⟩
   ·show ∀z∈[S10.ep+1,S10.calm],_;simp only[List.forall_mem_cons];exact⟨qf,hn.2⟩
   ·show Ints g4 .u64 _ S10.ag;refine⟨by rw[plE];exact sl0.up m14,fun z hz=>?_⟩;rw[show IntKind.u64.min=0 from qh,show IntKind.u64.max=18446744073709551615 from qh];obtain⟨j,hj,rfl⟩:=List.mem_iff_getElem.1 hz;have h1:=(tiE.be.le j)
    rw[Ys hj];have h2:=tiE.sum;obtain⟨u1,u2,u3,u4,u5,u6⟩:=tiE.parts;omega
   ·have:=Zd.pub (f:=YD) (w:=6) (l:=(seS S10).ae) (o:=om8) Z8 (sl1.up m24);rw[lenS]at this;exact(by rw[l10]at this;exact this)
   ·exact Zaw Zf (fun m hm=>Zaa tiE.ok.p tiE.r hm) tiE.be.m _ (Nat.le_refl _)
   ·show Ints g4 .i64 _ S10.entry;rw[nE];exact i8e9.up (leE9.trans mz4)
   ·show Ints g4 .i64 _ S10.exit;exact iX.up mz4
   ·show Zd UK 4 g4 _ S10.aj;rw[oE];exact i8o9.up (leE9.trans mz4)
   ·exact⟨qz,z1.up (l0.trans m14),z2⟩
  have hRP:Zt g4 ⟨ovs oo10 R10.out.length,.slice la7 (lvW S5).length lc7,ovs os8 R9.started.length,ovs od9 R9.done.length⟩ (WH s):=by
   rw[eR];refine⟨Zva (sl3.up l4) fun z hz=>wJ,by rw[lE.1];exact i7l.up ((le8.trans (le9.trans leE9)).trans mz4),?_,?_⟩
   ·rw[lE.2.1];exact Zva sl4 fun z hz=>by have:=ro8.2.2.2.1 z wB;omega
   ·rw[lE.2.2];exact Zva (sl2.up m34) fun z hz=>by have:=dn9 z hz;omega
  have hk:=hk g4 _ _ (le1.trans (leE.trans mz4)) hIS hRP;rw[eT,eR]at hk;refine xx ?_;refine Z4 (.tkl 0 (.o1 1 (.o2 2 (.o2 3 (.tk 4 (.fin)) (.nil)) (.nil)) (.o2 2 (.o1 1 (.o2 3 (.tk 4 (.fin)) (.nil)) (.nil)) (.nil)))) qg qg _ (Za.refl _ _) ?_
  repeat' first
   | with_reducible refine Yf ?_ ?_
   | simp -dsimp -implicitDefEqProofs (disch:=first|exact dD|fail) [go_sem]
   | fail
  all_goals exact ZO (ZO (ZO (ZO (ZO (ZP hk)))))
open Go.RowKit Go.Proofs Go.Bl Go.Proofs.Tryz
def DuP (l:List Zh):Prop:=Zbi l/\∀x∈l,(0<=x.at'/\x.at'<=2147483647)/\1<=x.amt
theorem Zme {l:List Zh}(h:DuP l){d:Zh}(ht:0<=d.at'/\d.at'<=2147483647)(h0:0<=d.amt):DuP (V3 l d):=by
 refine⟨Yev h.1 d,fun x hx=>?_⟩;by_cases c:d.amt=0
 ·rw[V3,if_pos c]at hx;exact h.2 x hx
 ·rcases Zgs hx with hx|rfl | ⟨h1,rfl⟩
  ·exact h.2 x hx
  ·exact⟨ht,qf⟩
  ·have h2:=h.2 _ (J3 h1);refine⟨h2.1,?_⟩;show 1<=(gr ZT l (Zis l d)).amt+d.amt;omega
theorem Ylb {l:List Zh}(h:DuP l)(q:Zh->Bool):DuP (l.filter q) :=
 ⟨h.1.sublist (List.filter_sublist.map Zef),fun x hx=>h.2 x (List.mem_filter.1 hx).1⟩
theorem bal0 {m:Zc}(mo:Zf m):0<=m.bal:=(mo.u m.bal qj).1
theorem Yhf {q:Ze}{cs:List Zc}(hm:∀m∈cs,Zf m){t:Int}(ht:0<=t/\t<=2147483647){ds:List Zh}(h:DuP ds):∀k,k<=cs.length->DuP (duN q cs t ds k)
 | 0,_=>h
 | k+1,hk=>by
  have ih:=Yhf (q:=q) hm ht h k qf;rw[duN];split
  ·exact Zme ih ht (bal0 (hm _ (Yp (z:=ZQ) (k:=k) qf)))
  ·exact ih
theorem Yiw {s:Zg}{D:Nat}(ti:Zq s D){t:Int}(ht:0<=t/\t<=2147483647)(h:DuP s.ai):∀k,k<=(lvW s).length->DuP (lvK t (lvW s) (s.ae,s.ai) k).2
 | 0,_=>h
 | k+1,hk=>by
  have ih:=Yiw ti ht h k qf;have lv:=(Zmx ti ht (k:=k) qf).1;show DuP (V3 (lvK t (lvW s) (s.ae,s.ai) k).2 (VB t (gr ZQ (lvK t (lvW s) (s.ae,s.ai) k).1 (at0 (lvW s) k).toNat)));refine Zme ih ht ?_;have hw:=(Yrj ti).2.2 (at0 (lvW s) k) wR;have l1:=lv.l1;exact bal0 (lv.m _ (Yp (z:=ZQ) (k:=(at0 (lvW s) k).toNat) (by simp only at l1;omega)))
theorem Yir {s:Zg}{D:Nat}(ti:Zq s D)(r:Zi){t:Int}(ht:0<=t/\t<=2147483647)(h:DuP s.ai):∀k,k<=(enW s).length->DuP (stK s.par t (enW s) ⟨(enX s).ms,s.ai,s.exit,r.out,r.started⟩ k).ds
 | 0,_=>h
 | k+1,hk=>by
  have ih:=Yir ti r ht h k qf;have st:=Ztf ti r ht (k:=k) qf;have hd0:(enW s).drop k=at0 (enW s) k::(enW s).drop (k+1):=wQ;have hin:=VL st.e (z:=at0 (enW s) k) (by rw[hd0];simp);rw[stK,J0];split
  ·exact ih
  ·refine Zme ih ht ?_;exact bal0 (st.m _ (Yp (z:=ZQ) (k:=(at0 (enW s) k).toNat) qf))
structure Fz (s S:Zg):Prop where
 k:S.marks=s.marks
 r:S.ring=s.ring
 pn:S.ag.length=s.ag.length
 ml:s.ae.length<=S.ae.length
 o:S.aj=s.aj\/S.aj=[]
 du:DuP s.ai->DuP S.ai
theorem Fz.next {s S S':Zg}(h:Fz s S)(h2:Fz S S'):Fz s S' :=
 ⟨h2.k.trans h.k,h2.r.trans h.r,h2.pn.trans h.pn,Nat.le_trans h.ml h2.ml,by
  rcases h2.o with e|e
  ·rw[e];exact h.o
  ·exact .inr e,fun x=>h2.du (h.du x)⟩
theorem fz_wg (s:Zg):Fz s (wgS s):=⟨rfl,rfl,rfl,Nat.le_of_eq (Yde s).l.symm,.inl rfl,id⟩
theorem fz_mt {s:Zg}{D:Nat}(ti:Zq s D){r:Zi}(ha:0<=r.act/\r.act<=18446744073709551615):Fz s (mtS s r) :=
 ⟨rfl,rfl,(Ymd ti ha (Nat.le_refl _)).l2,Nat.le_of_eq (Ygc s r).l.symm,.inl rfl,id⟩
theorem fz_fn (s:Zg)(r:Zi):Fz s (fnS s r):=⟨rfl,rfl,rfl,Nat.le_of_eq (Ygm s r).l.symm,.inl rfl,id⟩
theorem Yvb {s:Zg}{D:Nat}(ti:Zq s D){t:Int}(ht:0<=t/\t<=2147483647):Fz s (ejS s t s.ae.length) :=
 ⟨rfl,rfl,rfl,Nat.le_of_eq (Ztj s t).l.symm,.inl rfl,fun h=>Yhf ti.be.m ht h _ (Nat.le_refl _)⟩
theorem fz_lv {s:Zg}{D:Nat}(ti:Zq s D){t:Int}(ht:0<=t/\t<=2147483647):Fz s (lvS s t) :=
 ⟨rfl,rfl,(Zbd ti.be.p (Yps ti ht) _ (Nat.le_refl _)).1,Nat.le_of_eq (Ydx s t).l.symm,.inl rfl,fun h=>Ylb (Yiw ti ht h _ (Nat.le_refl _)) _⟩
theorem fz_en {s:Zg}{D:Nat}(ti:Zq s D)(r:Zi){t:Int}(ht:0<=t/\t<=2147483647):Fz s (enS s r t):=by
 have hx:=Yei ti;have st:=Ztf ti r ht (Nat.le_refl (enW s).length);unfold enS;split
 ·refine⟨rfl,rfl,hx.1.l2,?_,.inr rfl,fun h=>Yir ti r ht h _ (Nat.le_refl _)⟩;show s.ae.length<=(enY s r t).ms.length;have h1:(enY s r t).ms.length=(enX s).ms.length:=st.l1;omega
 ·exact⟨rfl,rfl,rfl,Nat.le_refl _,.inl rfl,id⟩
theorem fz_mo {s:Zg}{D:Nat}(ti:Zq s D)(r:Zi):Fz s (moS s r) :=
 ⟨rfl,rfl,(Yrg ti r (Nat.le_refl _)).l2,Nat.le_refl _,.inl rfl,id⟩
theorem fz_aj (s:Zg):Fz s (ajS s) :=
 ⟨rfl,rfl,(Vl s.par (s.ae,s.ag) s.ae.length).2,Nat.le_of_eq (Vl s.par (s.ae,s.ag) s.ae.length).1.symm,.inl rfl,id⟩
theorem Yid {s:Zg}{D:Nat}(ti:Zq s D)(ms:∀m∈s.ae,MI s.par m):Zq (US s).1 (D+384)/\Fz s (US s).1/\∀m∈(US s).1.ae,MI (US s).1.par m/\MF (US s).1.par m:=by
 obtain⟨ti7,f7,ti8,m8,p8,e8,l8⟩:=Yjt ti ms;have hpc:=Yc ti.r;have hep:=ti.ep;have hml:=ti.ml;have hA:=Zer ti.ml ms;have ht:0<=atP s/\atP s<=2147483647:=by unfold atP;omega
 have hact:0<=Vi s/\Vi s<=18446744073709551615:=by
  have:=Uj (ks:=s.marks) ti.be.m;have e:Vi s=Uu s.ae:=rfl;omega
 have ti2:Zq (tk2 s).1 D:=Ydm ti;have z2:Fz s (tk2 s).1:=fz_wg s;have ra2:0<=(tk2 s).2.act/\(tk2 s).2.act<=18446744073709551615:=hact;obtain⟨S2,hS2⟩:∃x,x=(tk2 s).1:=⟨_,rfl⟩
 obtain⟨R2,hR2⟩:∃x,x=(tk2 s).2:=⟨_,rfl⟩
 have rb2:R2.aC=0:=by rw[hR2];rfl
 have e3:tk3 s=(mtS S2 R2,mtR S2 R2):=by rw[hS2,hR2];rfl
 rw[<- hS2]at ti2 z2;rw[<- hR2]at ra2;have ti3:=Yga ti2 ra2;have z3:=z2.next (fz_mt ti2 ra2);have rb3:(mtR S2 R2).aC=0:=rb2;obtain⟨S3,hS3⟩:∃x,x=mtS S2 R2:=⟨_,rfl⟩
 obtain⟨R3,hR3⟩:∃x,x=mtR S2 R2:=⟨_,rfl⟩
 rw[<- hS3]at ti3 z3 e3;rw[<- hR3]at rb3 e3;have e4:tk4 s=(fnS S3 R3,fnR S3 R3 S3.ae.length):=by unfold tk4;rw[e3]
 have ti4:=Yfy ti3 rb3;have z4:=z3.next (fz_fn S3 R3);obtain⟨S4,hS4⟩:∃x,x=fnS S3 R3:=⟨_,rfl⟩
 rw[<- hS4]at ti4 z4 e4;have e5:(tk5 s).1=ejS S4 (atP s) S4.ae.length:=by unfold tk5;rw[e4];rfl
 have ti5:=Zcx ti4 ht (Nat.le_refl S4.ae.length);have z5:=z4.next (Yvb ti4 ht);rw[<- e5]at ti5 z5;have z7:Fz s (tk7 s).1:=z5.next (fz_lv ti5 ht);have z8:Fz s (tk8 s).1:=z7.next (fz_en ti7 (tk7 s).2 ht);have ti9:Zq (tk9 s).1 (D+256):=Zzb ti8 (tk8 s).2 (Nat.le_refl _);have z9:Fz s (tk9 s).1:=z8.next (fz_mo ti8 (tk8 s).2);have m9:∀m∈(tk9 s).1.ae,MI s.par m/\MF s.par m:=m8;obtain⟨S9,hS9⟩:∃x,x=(tk9 s).1:=⟨_,rfl⟩
 rw[<- hS9]at ti9 z9 m9;by_cases c:(tk9 s).1.par=s.par
 ·have e10:(US s).1=S9:=by rw[US,if_pos c,hS9]
  rw[<- hS9]at c;rw[e10];refine⟨ti9.mono qf,z9,?_⟩;rw[c];exact m9
 ·have e10:(US s).1=ejS (ajS S9) (atP s) (ajS S9).ae.length:=by rw[US,if_neg c,hS9];rfl
  have tj:Zq (ajS S9) (D+256):=Zfb ti9 (Nat.le_refl _);rw[e10];refine⟨(Zcx tj ht (Nat.le_refl _)).mono (by have:=tj.ml;omega),z9.next ((fz_aj S9).next (Yvb tj ht)),?_⟩;exact Yry tj.r _ (aj_ms (p:=s.par) ti9.r fun m hm=>(m9 m hm).1)
theorem J4 (q:Ze)(m:Zc):(Gm q m).status=m.status/\(Gm q m).owner=m.owner:=by
 unfold Gm;split<;>exact⟨rfl,rfl⟩
theorem chk0:Gn (List.replicate 16 0) 128=true:=by decide
theorem get0:∀ i:Nat,i<128->Wm (List.replicate 16 0) i=false:=by decide +kernel
theorem Yvf (s:Zg)(r:Zi)(t:Int):(enS s r t).ep=s.ep:=by
 unfold enS;split<;>rfl
theorem Ytj (s:Zg)(r:Zi)(t:Int):(Yfz t (ajS s,r)).1.ep=s.ep:=rfl
theorem Ytw (s:Zg)(r:Zi):(moS s r).ep=s.ep:=rfl
theorem Yth (s:Zg):(seS s).ep=s.ep+1:=rfl
theorem ep7' (s:Zg):(tk7 s).1.ep=s.ep:=rfl
theorem Yfv (s:Zg):(WM s).ep=s.ep+1:=by
 have e8:(tk8 s).1.ep=s.ep:=(Yvf (tk7 s).1 (tk7 s).2 (atP s)).trans (ep7' s);have e9:(tk9 s).1.ep=(tk8 s).1.ep:=Ytw (tk8 s).1 (tk8 s).2;have e10:(US s).1.ep=(tk9 s).1.ep:=by
  by_cases c:(tk9 s).1.par=s.par
  ·rw[US,if_pos c]
  ·rw[US,if_neg c];exact Ytj _ _ _
 have eS:(WM s).ep=(US s).1.ep+1:=Yth (US s).1;rw[eS,e10,e9,e8]
theorem Yar {h:PH}{v:SV}{s:Zg}(hs:Zp h v s)(hf:YY s=true)(he:s.ep<1073741824):YY (WM s)=true:=by
 have ti:=Zts hs hf he (Nat.le_refl s.ai.length);obtain⟨t10,z10,m10⟩:=Yid ti fun m hm=>(Yfn hs hf m hm).1;obtain⟨f1,f2,f3,f4,f5,f6,f7,f8,f9⟩:=fitsT_iff.1 hf;have hc:=Zjb s;have hcb:=Yaw (calm:=s.calm) (pr:=Je s) (ac:=Vi s);have hpe:=Yfv s;have eS:WM s=seS (US s).1:=rfl;obtain⟨S,hS⟩:∃x,x=(US s).1:=⟨_,rfl⟩
 rw[<- hS]at t10 z10 m10 eS;have hl:(seS S).ae.length=S.ae.length:=Wp _ _ _;have hsum:=t10.sum;obtain⟨b1,b2,b3,b4,b5,b6⟩:=t10.parts;have hep:=t10.ep;have hac:∀i,Y8 (seS S) i=true↔0<=i/\i<(s.ag.length:Int):=fun i=>by
  rw[acctT_iff,<- z10.pn];exact Iff.rfl
 simp only[VI,Bool.and_eq_true,List.all_eq_true,decide_eq_true_eq,JX,Zed,List.mem_range,Bool.not_eq_true']at f6
 have hdu0:DuP s.ai:=⟨line_iff.2 fun k hk=>⟨(f6.2 k hk).1.2,(f6.2 k hk).2⟩,fun x hx=>by
  obtain⟨k,hk,rfl⟩:=List.mem_iff_getElem.1 hx;have:=(f6.2 k hk).1.1;rw[Ye hk]at this;simp only[V4,Bool.and_eq_true,wi_iff,decide_eq_true_eq]at this
  exact⟨this.1.1.2,this.1.2⟩⟩
 have hdu:=z10.du hdu0;rw[fitsT_iff,hc,hpe,eS];refine⟨t10.r,?_,?_,?_,?_,?_,?_,?_,?_⟩
 ·rw[wi_iff];have:=ti.ep;omega
 ·rw[wi_iff];exact hcb
 ·simp only[VG,Bool.and_eq_true,List.all_eq_true,decide_eq_true_eq,wi_iff]at f4 ⊢;refine⟨?_,fun z hz=>?_⟩
  ·show 1<=(S.ag.length:Int)/\(S.ag.length:Int)<=64;rw[z10.pn];exact f4.1
  ·obtain⟨k,hk,rfl⟩:=List.mem_iff_getElem.1 (show z∈S.ag from hz);have:=Yj t10.be.p k;rw[Ys hk];omega
 ·simp only[WU,Bool.and_eq_true,List.all_eq_true,decide_eq_true_eq];refine⟨⟨⟨by rw[hl];exact t10.ml,fun m hm=>?_⟩,?_⟩,?_⟩
  ·have e:(seS S).ae=S.ae.map (Gm S.par):=Zgt _ _;rw[e]at hm;obtain⟨x,hx,rfl⟩:=List.mem_map.1 hm;have h1:=m10 x hx;have h2:=t10.be.o x hx;refine⟨Yme t10.r h1.1 h1.2,?_⟩;rw[(J4 _ _).2,hac,<- z10.pn];exact h2
  ·rw[row_iffB];exact Gu t10.en hl fun j hj=>by
    show (gr ZQ (upN (Gm S.par) S.ae S.ae.length) j).status=1↔_;rw[Zca _ _ _ (Nat.le_refl _),if_pos hj,(J4 _ _).1]
  ·rw[row_iffB];exact Gu t10.ex hl fun j hj=>by
    show (gr ZQ (upN (Gm S.par) S.ae S.ae.length) j).status=3↔_;rw[Zca _ _ _ (Nat.le_refl _),if_pos hj,(J4 _ _).1]
 ·simp only[VI,Bool.and_eq_true,List.all_eq_true,decide_eq_true_eq,JX,Zed,List.mem_range,Bool.not_eq_true'];refine⟨⟨t10.on,fun d hd=>?_⟩,fun k hk=>?_⟩
  ·have hd':d∈s.aj:=by
    have hd2:d∈S.aj:=hd;rcases z10.o with e|e
    ·rw[<- e];exact hd2
    ·rw[e]at hd2;cases hd2
   have h1:=f6.1.2 d hd';have hmm:=z10.ml;simp only[Uo,Bool.and_eq_true,Bool.or_eq_true,wi_iff]at h1 ⊢;refine⟨⟨h1.1.1,(hac _).2 (acctT_iff.1 h1.1.2)⟩,h1.2.imp id fun c=>?_⟩;rw[hl];omega
  ·have hk':k<S.ai.length:=hk;have h1:=(line_iff.1 hdu.1) k hk';refine⟨⟨?_,h1.1⟩,h1.2⟩;have h2:=hdu.2 _ (J3 hk');have h3:=t10.dd _ (J3 hk');have h4:=Zrj (fun x hx=>(t10.dd x hx).1) hk';show V4 (seS S) (gr ZT S.ai k)=true;simp only[V4,Bool.and_eq_true,decide_eq_true_eq,wi_iff];refine⟨⟨⟨(hac _).2 (by rw[<- z10.pn];exact h3.2),h2.1⟩,h2.2⟩,qf⟩
 ·simp only[Ve,Bool.and_eq_true,List.all_eq_true,decide_eq_true_eq];refine⟨t10.mn,fun m hm=>?_⟩;have h1:=t10.mm m hm;exact⟨⟨h1.f,(hac _).2 (by rw[<- z10.pn];exact h1.a)⟩,(hac _).2 (by rw[<- z10.pn];exact h1.t)⟩
 ·simp only[J1,Ziw,Bool.and_eq_true,List.all_eq_true,decide_eq_true_eq]at f8 ⊢;refine⟨⟨⟨?_,chk0⟩,fun b hb=>?_⟩,fun i hi=>?_⟩
  ·show (GE S.ring S.marks).length<=8;rw[GE,List.length_cons,List.length_take];omega
  ·rcases List.mem_cons.1 (show b∈GE S.ring S.marks from hb) with rfl|hb
   ·rw[z10.k];exact f8.1.1.2
   ·rw[z10.r]at hb;exact f8.1.2 b (List.mem_of_mem_take hb)
  ·rw[Bool.or_eq_true,Bool.not_eq_true'];exact .inr (get0 i (List.mem_range.1 hi))
 ·simp only[Wn,Bool.and_eq_true,decide_eq_true_eq];refine⟨t10.top,?_⟩;have hm:=t10.mon;have e1:Zra (seS S)=tot (S.ae.map Zc.bal):=by
   show tot ((upN (Gm S.par) S.ae S.ae.length).map Zc.bal)=_;rw[Ynd _ _ rfl]
  have e2:Zoy (seS S)=tot S.ag:=rfl;have e3:GB (seS S)=tot (S.aj.map Zk.amt):=rfl;have e4:Zqk (seS S)=Y9 S.ai:=rfl;rw[Zlo,e1,e2,e3,e4];show _+S.an+S.aG=S.gen+S.aB;omega
variable {L:Own} {h:PH} {K:PK}
structure Mn (a b:Zg):Prop where
 aB:b.aB=a.aB
 aG:b.aG=a.aG
 gen:b.gen=a.gen
 most:b.most=a.most
theorem Mn.next {a b c:Zg}(h:Mn a b)(h2:Mn b c):Mn a c:=⟨h2.aB.trans h.aB,h2.aG.trans h.aG,h2.gen.trans h.gen,h2.most.trans h.most⟩
theorem Ygu {bs:List Int}(hb:Gn bs 128=true):bs.length=16:=by
 simp only[Gn,Bool.and_eq_true,decide_eq_true_eq]at hb;have e:Zjw 128=16:=qh;omega
theorem Ymc (s:Zg):(seS s).ai=s.ai:=rfl
theorem Ydb {s:Zg}(hf:YY s=true)(hd:s.ai.length<=34000):Zu s:=by
 obtain⟨f1,f2,f3,f4,f5,f6,f7,f8,f9⟩:=fitsT_iff.1 hf;simp only[VG,Bool.and_eq_true,wi_iff]at f4;simp only[WU,Bool.and_eq_true,decide_eq_true_eq]at f5;have h1:=WR (row_iffB.1 f5.1.2);have h3:=WR (row_iffB.1 f5.2);have h5:=f5.1.1.1;simp only[VI,Bool.and_eq_true,decide_eq_true_eq]at f6;simp only[Ve,Bool.and_eq_true,decide_eq_true_eq,List.all_eq_true]at f7;simp only[J1,Ziw,Bool.and_eq_true,decide_eq_true_eq,List.all_eq_true]at f8;have hk:=Ygu f8.1.1.2;refine⟨qf,qf,qf,qf,by have:=f6.1.1;omega,hd,by have:=f7.1;omega,qf,qf,fun m hm=>?_,fun b hb=>by have:=Ygu (f8.1.2 b hb);omega⟩;obtain⟨g1,g2,g3,g4,g5⟩:=motFits_iff.1 (f7.2 m hm).1.1;have:=Ygu g3;have:=Ygu g4;omega
theorem Zyl {h:PH}{v:SV}{s:Zg}(hs:Zp h v s)(hf:YY s=true)(he:s.ep<1073741824):(WM s).ai.length<=s.ai.length+384:=by
 have ti:=Zts hs hf he (Nat.le_refl s.ai.length);have t10:=(Yid ti fun m hm=>(Yfn hs hf m hm).1).1;have e:(WM s).ai=(US s).1.ai:=Ymc (US s).1;rw[e];exact t10.dn
def mkF (g m:List Int):Nat->List Int
 | 0=>m
 | k+1=>if Wm g k=true then setB (mkF g m k) k else mkF g m k
def mkS (g:List Int)(s:Zg):Zg:={ s with marks:=mkF g s.marks s.ae.length }
def Yrp (plan:List (List Int))(i:Nat):List Int:=plan.getD (min i (plan.length-1)) []
def itS (plan:List (List Int))(s:Zg):Nat->Zg
 | 0=>s
 | k+1=>WM (mkS (Yrp plan k) (itS plan s k))
structure ItI (plan:List (List Int))(s:Zg)(h:PH)(u:SV)(k:Nat):Prop where
 i:Zp h u (itS plan s k)
 f:YY (itS plan s k)=true
 d:(itS plan s k).ai.length<=s.ai.length+384*k
theorem ItI.up {plan:List (List Int)}{s:Zg}{h h':PH}{u:SV}{k:Nat}(le:PH.le h h')(x:ItI plan s h u k):ItI plan s h' u k:=⟨x.i.up le,x.f,x.d⟩
theorem Zuu {s:Zg}(v:SV)(hs:Zp h v s)(few:Zu s)(hk:∀h' u,PH.le h h'->Zp h' u s->K (stV s u) L h'):Zb prog 30 [stV s v] L h K:=by
 refine Zb.fin (Zb.apn (Zwc v hs few fun h1 u o ox le ok1 ok2 hn ap nd=>?_));refine GL (n1:=s.exit.length) (n2:=s.ae.length) ok2 qj (by have:=few.x;omega) ok1 (by rw[Z1 Z8]) (by have:=few.m;omega) ?_ ?_ fun h2 le2 sx sm=>ZP (hk h2 _ (le.trans le2) ?_)
 ·cases ox with
  | none=>trivial
  | some p=>exact⟨nd.1,ap.1⟩
 ·cases o with
  | none=>trivial
  | some q =>
   cases ox with
   | none=>exact⟨nd.1,ap.1⟩
   | some p=>exact⟨nd.2.1,ap.2.1⟩
 ·have hn2:=hn.up le2;exact { ok:=hs.ok,p:=hn2.p,m:=Zd.pub Z8 sm,mo:=hs.mo,e:=hn2.e,x:=⟨by simpa using sx,hs.x.2⟩,o:=hn2.o,oo:=hs.oo,d:=hn2.d,dd:=hs.dd,t:=hn2.t,k:=hn2.k,r:=hn2.r }
theorem YSpec.fin {l:Nat}{args:List Value}{L:Own}{h:PH}{K:PK}(hs:YSpec prog l args L h fun v L' h'=>fin K v L' h'):YSpec prog l args L h K :=
 ⟨trivial,fun W hg=>by
  obtain⟨fn,tmps,assign,body,hy,hR⟩:=hs.2 W hg;refine⟨fn,tmps,assign,body,hy,hR.mono fun e W' ⟨r,L',h',he,⟨L2,h2,hd,hk⟩,st⟩=>?_⟩;obtain⟨g,f⟩:=hd W' st.1;refine⟨r,L2,h2,he,hk,g,st.2.1,fun e he=>?_⟩;obtain⟨e',he',hb⟩:=List.mem_map.1 (f e he)
  rw[<- hb];exact st.2.2 e' he'⟩
def tkS (s:Zg):Zg:=if VC s=0 then WM s else JB
def tkR (s:Zg):Zi:=if VC s=0 then WH s else Ydt
theorem Zfy (h:PH):Zt h Yue Ydt:=⟨Y7 h .i64,Y7 h .i64,Y7 h .i64,Y7 h .i64⟩
theorem Zyg {s:Zg}(v:SV)(hs:Zp h v s)(few:Zu s)(fd:s.ai.length<=29000)
  (hk:∀h' u q,PH.le h h'->Zp h' u (tkS s)->Zt h' q (tkR s)->K (.tuple #[stV (tkS s) u,rpV (tkR s) q,.int .i64 (VC s)]) L h'):Zb prog 25 [stV s v] L h K:=by
 refine Zqd v hs few fd (fun e0 _ _ h' u q le i r=>?_) (fun e0=>?_)
 ·have:=hk h' u q le (by rw[tkS,if_pos e0];exact i) (by rw[tkR,if_pos e0];exact r);rw[tkS,tkR,if_pos e0,if_pos e0,e0]at this;exact this
 ·have:=hk h Zlm Yue (PH.le_refl _) (by rw[tkS,if_neg e0];exact Zcp h) (by rw[tkR,if_neg e0];exact Zfy h);rw[tkS,tkR,if_neg e0,if_neg e0]at this;exact this
end Go.X
set_option maxRecDepth 100000
namespace Go.X
open Go.RowKit Go.Proofs Go.Bl Go.Proofs.Tryz
variable {L:Own} {h:PH} {K:PK}
theorem Zon {s:Zg}(few:Zu s)(fd:s.ai.length<=15000):Yyy s:=⟨by have:=few.p;omega,by have:=few.m;omega,by have:=few.o;omega,qf⟩
theorem Zwh {s:Zg}(v:SV)(hs:Zp h v s)(few:Zu s)(fd:s.ai.length<=15000)
  (hk:VC s=0->YY s=true->s.ep<1073741824->∀h' u q,PH.le h h'->Zp h' u (WM s)->Zt h' q (WH s)->K (.tuple #[stV (WM s) u,rpV (WH s) q,.int .i64 0]) L h')
  (hno:VC s≠0->∀h',PH.le h h'->K (.tuple #[stV JB Zlm,rpV Ydt Yue,.int .i64 (VC s)]) L h') :
  Zb prog 31 [stV s v] L h K:=by
 by_cases hf:YY s=true
 ·by_cases he:s.ep<1073741824
  ·have e0:VC s=0:=by rw[VC,if_pos hf,if_neg qf]
   have ti:=Zts hs hf he (Nat.le_refl s.ai.length);have ms:=Yfn hs hf;have t8:=Yjt ti fun m hm=>(ms m hm).1
   exact Zur v hs few fd hf he (Zer ti.ml fun m hm=>(ms m hm).1) (by
    have:=Zer t8.2.2.2.2.2.2 fun m hm=>(t8.2.2.2.1 m hm).1;show Uu (tk8 s).1.ae<=_
    omega) (hk e0 hf he)
  ·have e0:VC s=200:=by rw[VC,if_pos hf,if_pos qf]
   have hno:=hno qf;rw[e0]at hno;have fewS:=Zue few;have fewT:=Zon few fd;obtain⟨pa,pc,ma,mc,ea,ec,xa,xc,oa,oc,da,dc,ta,tc,ka,kc,ra,rc,rfl⟩:=hs.slices;refine eU func31 fun ap nd=>?_;clear ap nd;refine xx ?_;refine ZY fun b1 nb1 zb1=>?_;(try simp only[ZS]at nb1);refine xx ?_;refine ZY fun b2 nb2 zb2=>?_;(try simp only[ZS]at nb2);refine xx ?_;refine ZY fun b3 nb3 zb3=>?_;(try simp only[ZS]at nb3);refine xx ?_;refine Zb.ap (JJ (s:=s) ⟨.slice pa s.ag.length pc,.slice ma s.ae.length mc,.slice ea s.entry.length ec,.slice xa s.exit.length xc,.slice oa s.aj.length oc,.slice da s.ai.length dc,.slice ta s.ah.length tc,.slice ka s.marks.length kc,.slice ra s.ring.length rc⟩ hs fewS fewT fun h0 le0 ap=>?_);have q3:h0 b3=noC:=ap.1;have q2:h0 b2=noC:=ap.2.1;have q1:h0 b1=noC:=ap.2.2.1;clear ap;have hno:=hno h0 le0;rw[hf];refine xx ?_;exact ZO (ZO (ZO (ZP hno)))
 ·have hf':YY s=false:=by simpa using hf
  have e0:VC s=291:=by rw[VC,if_neg hf]
  have hno:=hno qf;rw[e0]at hno;have fewS:=Zue few;have fewT:=Zon few fd;obtain⟨pa,pc,ma,mc,ea,ec,xa,xc,oa,oc,da,dc,ta,tc,ka,kc,ra,rc,rfl⟩:=hs.slices;refine eU func31 fun ap nd=>?_;clear ap nd;refine xx ?_;refine ZY fun b1 nb1 zb1=>?_;(try simp only[ZS]at nb1);refine xx ?_;refine ZY fun b2 nb2 zb2=>?_;(try simp only[ZS]at nb2);refine xx ?_;refine ZY fun b3 nb3 zb3=>?_;(try simp only[ZS]at nb3);refine xx ?_;refine Zb.ap (JJ (s:=s) ⟨.slice pa s.ag.length pc,.slice ma s.ae.length mc,.slice ea s.entry.length ec,.slice xa s.exit.length xc,.slice oa s.aj.length oc,.slice da s.ai.length dc,.slice ta s.ah.length tc,.slice ka s.marks.length kc,.slice ra s.ring.length rc⟩ hs fewS fewT fun h0 le0 ap=>?_);have q3:h0 b3=noC:=ap.1;have q2:h0 b2=noC:=ap.2.1;have q1:h0 b1=noC:=ap.2.2.1;clear ap;have hno:=hno h0 le0;rw[hf'];refine xx ?_;exact ZO (ZO (ZO (ZP hno)))
theorem Zsc {s:Zg}(v:SV)(hs:Zp h v s)(few:Zu s)(fd:s.ai.length<=15000)
  (hk:∀h' u q,PH.le h h'->Zp h' u (tkS s)->Zt h' q (tkR s)->K (.tuple #[stV (tkS s) u,rpV (tkR s) q,.int .i64 (VC s)]) L h'):Zb prog 31 [stV s v] L h K:=by
 refine Zwh v hs few fd (fun e0 _ _ h' u q le i r=>?_) (fun e0 h' le=>?_)
 ·have:=hk h' u q le (by rw[tkS,if_pos e0];exact i) (by rw[tkR,if_pos e0];exact r);rw[tkS,tkR,if_pos e0,if_pos e0,e0]at this;exact this
 ·have:=hk h' Zlm Yue le (by rw[tkS,if_neg e0];exact Zcp h') (by rw[tkR,if_neg e0];exact Zfy h');rw[tkS,tkR,if_neg e0,if_neg e0]at this;exact this
theorem Yfs {s:Zg}{v:SV}(hs:Zp h v s)(hd:s.ai.length<=29000):(tkS s).ae.length<=100000/\(tkS s).aj.length<=100000/\(tkS s).ai.length<=100000/\(tkS s).ah.length<=100000:=by
 by_cases e0:VC s=0
 ·have hft:YY s=true:=by
   by_cases c:YY s=true
   ·exact c
   ·rw[VC,if_neg c]at e0;omega
  have he:s.ep<1073741824:=by
   by_cases c:1073741824<=s.ep
   ·rw[VC,if_pos hft,if_pos c]at e0;omega
   ·omega
  have hd2:=Zyl hs hft he;have fo:=Ydb (Yar hs hft he) qf;rw[tkS,if_pos e0];exact⟨by have:=fo.m;omega,by have:=fo.o;omega,qf,by have:=fo.t;omega⟩
 ·rw[tkS,if_neg e0];exact⟨Nat.zero_le _,Nat.zero_le _,Nat.zero_le _,Nat.zero_le _⟩
end Go.X
set_option maxRecDepth 100000
namespace Go.X
open Go.RowKit Go.Proofs Go.Bl Go.Proofs.Tryz
variable {L:Own} {h:PH} {K:PK}
theorem Zek (w:Value)(hS:∃q:SV×Zg,w=stV q.2 q.1/\Zp h q.1 q.2)(hk:∀h',PH.le h h'->K (.bool true) L h'):Zb prog 6 [w] L h K:=by
 obtain⟨⟨v,s⟩,rfl,hs⟩:=hS;simp only at hs ⊢;have hs0:=hs;obtain⟨pa,pc,ma,mc,ea,ec,xa,xc,oa,oc,da,dc,ta,tc,ka,kc,ra,rc,rfl⟩:=hs.slices;refine ed func6 ?_;refine xx ?_;refine ZY fun b1 nb1 zb1=>?_;(try simp only[ZS]at nb1);refine xx ?_;refine Zb.ap (Znq fun h1 le1 ap=>?_);have a1:h1 b1=noC:=ap.1;clear ap;refine xx ?_;refine Zzu (s:=s) ⟨.slice pa s.ag.length pc,.slice ma s.ae.length mc,.slice ea s.entry.length ec,.slice xa s.exit.length xc,.slice oa s.aj.length oc,.slice da s.ai.length dc,.slice ta s.ah.length tc,.slice ka s.marks.length kc,.slice ra s.ring.length rc⟩ (hs0.up le1) ?_
 cases hf:Zec s with
 | false =>
  refine xx ?_;exact ZO (ZP (hk h1 le1))
 | true =>
 have few:=Yne hf;have fd:=Zpd (Yhi hf);have fewS:=Zue few;have fewT:=Zon few qf;refine xx ?_;refine Zb.ap (Zuu (s:=s) ⟨.slice pa s.ag.length pc,.slice ma s.ae.length mc,.slice ea s.entry.length ec,.slice xa s.exit.length xc,.slice oa s.aj.length oc,.slice da s.ai.length dc,.slice ta s.ah.length tc,.slice ka s.marks.length kc,.slice ra s.ring.length rc⟩ (hs0.up le1) few fun h2 u2 le2 i2 ap=>?_);have a2:h2 b1=noC:=ap.1;clear ap;have i20:=i2;obtain⟨pa2,pc2,ma2,mc2,ea2,ec2,xa2,xc2,oa2,oc2,da2,dc2,ta2,tc2,ka2,kc2,ra2,rc2,rfl⟩:=i2.slices;refine xx ?_;refine ZY fun b3 nb3 zb3=>?_;(try simp only[ZS]at nb3);have n31:NeB b3 b1:=Ne.symm nb3.1;clear nb3;refine xx ?_;obtain⟨T,hT⟩:∃T,T=tkS s:=⟨_,rfl⟩
 obtain⟨R,hR⟩:∃R,R=tkR s:=⟨_,rfl⟩
 have hTl:=Yfs (s:=s) hs0 qf;rw[<- hT]at hTl;refine Zb.ap (Zyg (s:=s) ⟨.slice pa2 s.ag.length pc2,.slice ma2 s.ae.length mc2,.slice ea2 s.entry.length ec2,.slice xa2 s.exit.length xc2,.slice oa2 s.aj.length oc2,.slice da2 s.ai.length dc2,.slice ta2 s.ah.length tc2,.slice ka2 s.marks.length kc2,.slice ra2 s.ring.length rc2⟩ i20 few qf fun h3 u3 q3 le3 i3 r3 ap=>?_);have a33:h3 b3=noC:=ap.1;have a31:h3 b1=noC:=ap.2.1;clear ap;rw[<- hT]at i3 ⊢;rw[<- hR]at r3 ⊢;have i30:=i3;have r30:=r3;obtain⟨pa3,pc3,ma3,mc3,ea3,ec3,xa3,xc3,oa3,oc3,da3,dc3,ta3,tc3,ka3,kc3,ra3,rc3,rfl⟩:=i3.slices;obtain⟨qoa,qoc,qla,qlc,qsa,qsc,qda,qdc,rfl⟩:=r3.slices;refine xx ?_;refine ZY fun b4 nb4 zb4=>?_;(try simp only[ZS]at nb4);have n43:NeB b4 b3:=Ne.symm nb4.1;have n41:NeB b4 b1:=Ne.symm nb4.2.1;clear nb4;refine xx ?_;refine ZY fun b5 nb5 zb5=>?_;(try simp only[ZS]at nb5);have n54:NeB b5 b4:=Ne.symm nb5.1;have n53:NeB b5 b3:=Ne.symm nb5.2.1;have n51:NeB b5 b1:=Ne.symm nb5.2.2.1;clear nb5;refine xx ?_;refine Zb.ap (VY (s:=s) (v:=⟨.slice pa s.ag.length pc,.slice ma s.ae.length mc,.slice ea s.entry.length ec,.slice xa s.exit.length xc,.slice oa s.aj.length oc,.slice da s.ai.length dc,.slice ta s.ah.length tc,.slice ka s.marks.length kc,.slice ra s.ring.length rc⟩) (hs0.up (le1.trans (le2.trans le3))) fewS.m fewS.o fewS.d fewS.t fun h4 u4 le4 i4 ap=>?_);obtain⟨a45,a44,a43,a41,_⟩:=ap;have i40:=i4;obtain⟨pa4,pc4,ma4,mc4,ea4,ec4,xa4,xc4,oa4,oc4,da4,dc4,ta4,tc4,ka4,kc4,ra4,rc4,rfl⟩:=i4.slices;refine xx ?_;refine Zb.ap (Zsc (s:=s) ⟨.slice pa4 s.ag.length pc4,.slice ma4 s.ae.length mc4,.slice ea4 s.entry.length ec4,.slice xa4 s.exit.length xc4,.slice oa4 s.aj.length oc4,.slice da4 s.ai.length dc4,.slice ta4 s.ah.length tc4,.slice ka4 s.marks.length kc4,.slice ra4 s.ring.length rc4⟩ i40 few qf fun h5 u5 q5 le5 i5 r5 ap=>?_);obtain⟨a55,a54,a53,a51,_⟩:=ap;rw[<- hT]at i5 ⊢
 rw[<- hR]at r5 ⊢;have i50:=i5;have r50:=r5;obtain⟨pa5,pc5,ma5,mc5,ea5,ec5,xa5,xc5,oa5,oc5,da5,dc5,ta5,tc5,ka5,kc5,ra5,rc5,rfl⟩:=i5.slices;obtain⟨poa,poc,pla,plc,psa,psc,pda,pdc,rfl⟩:=r5.slices;refine xx ?_;refine ZY fun b7 nb7 zb7=>?_;(try simp only[ZS]at nb7);have n75:NeB b7 b5:=Ne.symm nb7.1;have n74:NeB b7 b4:=Ne.symm nb7.2.1;have n73:NeB b7 b3:=Ne.symm nb7.2.2.1;have n71:NeB b7 b1:=Ne.symm nb7.2.2.2.1;clear nb7;refine xx ?_;refine ZY fun b8 nb8 zb8=>?_;(try simp only[ZS]at nb8);have n87:NeB b8 b7:=Ne.symm nb8.1;have n85:NeB b8 b5:=Ne.symm nb8.2.1;have n84:NeB b8 b4:=Ne.symm nb8.2.2.1;have n83:NeB b8 b3:=Ne.symm nb8.2.2.2.1;have n81:NeB b8 b1:=Ne.symm nb8.2.2.2.2.1;clear nb8;refine xx ?_;have le15:=le1.trans (le2.trans (le3.trans (le4.trans le5)));refine Z4 (.tkl 0 (.tkl 2 (.o1 1 (.o1 3 (.o1 4 (.tk 5 (.tk 6 (.tkl 7 (.tkl 9 (.o1 8 (.o1 10 (.o1 11 (.tk 12 (.tk 13 (.tk 14 (.tk 15 (.tk 16 (.tk 17 (.tk 18 (.tkl 19 (.tkl 21 (.o1 20 (.o1 22 (.tk 23 (.tk 24 (.tkl 25 (.tkl 27 (.o1 26 (.o1 28 (.tk 29 (.tk 30 (.fin))) (.nil)) (.nil)))))) (.nil)) (.nil))))))))))) (.nil)) (.nil)) (.nil)))))) (.nil)) (.nil)) (.nil)))) qg qg _ (Za.refl _ _) ?_;refine xx ?_;refine GH (s:=s) ⟨.slice pa s.ag.length pc,.slice ma s.ae.length mc,.slice ea s.entry.length ec,.slice xa s.exit.length xc,.slice oa s.aj.length oc,.slice da s.ai.length dc,.slice ta s.ah.length tc,.slice ka s.marks.length kc,.slice ra s.ring.length rc⟩ (hs0.up le15) fewS ?_
 repeat' first
  | with_reducible refine xkp (Za.refl _ _) ?_
  | simp -dsimp -implicitDefEqProofs (disch:=first|exact dD|fail) [go_sem]
  | fail
 refine Zb.ap (VY (s:=s) (v:=⟨.slice pa s.ag.length pc,.slice ma s.ae.length mc,.slice ea s.entry.length ec,.slice xa s.exit.length xc,.slice oa s.aj.length oc,.slice da s.ai.length dc,.slice ta s.ah.length tc,.slice ka s.marks.length kc,.slice ra s.ring.length rc⟩) (hs0.up le15) fewS.m fewS.o fewS.d fewS.t fun h6 u6 le6 i6 ap=>?_);obtain⟨a68,a67,a65,a64,a63,a61,_⟩:=ap;have i60:=i6;obtain⟨pa6,pc6,ma6,mc6,ea6,ec6,xa6,xc6,oa6,oc6,da6,dc6,ta6,tc6,ka6,kc6,ra6,rc6,rfl⟩:=i6.slices
 repeat' first
  | with_reducible refine xkp (Za.refl _ _) ?_
  | with_reducible refine xkp (Za.forget le6) ?_
  | simp -dsimp -implicitDefEqProofs (disch:=first|exact dD|fail) [go_sem]
  | fail
 refine Zb.ap (JJ (s:=s) ⟨.slice pa6 s.ag.length pc6,.slice ma6 s.ae.length mc6,.slice ea6 s.entry.length ec6,.slice xa6 s.exit.length xc6,.slice oa6 s.aj.length oc6,.slice da6 s.ai.length dc6,.slice ta6 s.ah.length tc6,.slice ka6 s.marks.length kc6,.slice ra6 s.ring.length rc6⟩ i60 fewS fewT fun h7 le7 ap=>?_);obtain⟨a78,a77,a75,a74,a73,a71,_⟩:=ap;have le67:=le6.trans le7
 repeat' first
  | with_reducible refine xkp (Za.refl _ _) ?_
  | with_reducible refine xkp (Za.forget le67) ?_
  | simp -dsimp -implicitDefEqProofs (disch:=first|exact dD|fail) [go_sem]
  | fail
 refine Zb.ap (VY (s:=s) (v:=⟨.slice pa2 s.ag.length pc2,.slice ma2 s.ae.length mc2,.slice ea2 s.entry.length ec2,.slice xa2 s.exit.length xc2,.slice oa2 s.aj.length oc2,.slice da2 s.ai.length dc2,.slice ta2 s.ah.length tc2,.slice ka2 s.marks.length kc2,.slice ra2 s.ring.length rc2⟩) (i20.up (le3.trans (le4.trans (le5.trans le67)))) fewS.m fewS.o fewS.d fewS.t fun h8 u8 le8 i8 ap=>?_);obtain⟨a88,a87,a85,a84,a83,a81,_⟩:=ap;have i80:=i8;obtain⟨pa7,pc7,ma7,mc7,ea7,ec7,xa7,xc7,oa7,oc7,da7,dc7,ta7,tc7,ka7,kc7,ra7,rc7,rfl⟩:=i8.slices;have le68:=le67.trans le8
 repeat' first
  | with_reducible refine xkp (Za.refl _ _) ?_
  | with_reducible refine xkp (Za.forget le68) ?_
  | simp -dsimp -implicitDefEqProofs (disch:=first|exact dD|fail) [go_sem]
  | fail
 refine Zb.ap (VY (s:=s) (v:=⟨.slice pa s.ag.length pc,.slice ma s.ae.length mc,.slice ea s.entry.length ec,.slice xa s.exit.length xc,.slice oa s.aj.length oc,.slice da s.ai.length dc,.slice ta s.ah.length tc,.slice ka s.marks.length kc,.slice ra s.ring.length rc⟩) (hs0.up (le15.trans le68)) fewS.m fewS.o fewS.d fewS.t fun h9 u9 le9 i9 ap=>?_);obtain⟨a98,a97,a95,a94,a93,a91,_⟩:=ap;have i90:=i9;obtain⟨pa8,pc8,ma8,mc8,ea8,ec8,xa8,xc8,oa8,oc8,da8,dc8,ta8,tc8,ka8,kc8,ra8,rc8,rfl⟩:=i9.slices;have le69:=le68.trans le9
 repeat' first
  | with_reducible refine xkp (Za.refl _ _) ?_
  | with_reducible refine xkp (Za.forget le69) ?_
  | simp -dsimp -implicitDefEqProofs (disch:=first|exact dD|fail) [go_sem]
  | fail
 refine Zda (s:=s) (v:=⟨.slice pa7 s.ag.length pc7,.slice ma7 s.ae.length mc7,.slice ea7 s.entry.length ec7,.slice xa7 s.exit.length xc7,.slice oa7 s.aj.length oc7,.slice da7 s.ai.length dc7,.slice ta7 s.ah.length tc7,.slice ka7 s.marks.length kc7,.slice ra7 s.ring.length rc7⟩) (u:=⟨.slice pa8 s.ag.length pc8,.slice ma8 s.ae.length mc8,.slice ea8 s.entry.length ec8,.slice xa8 s.exit.length xc8,.slice oa8 s.aj.length oc8,.slice da8 s.ai.length dc8,.slice ta8 s.ah.length tc8,.slice ka8 s.marks.length kc8,.slice ra8 s.ring.length rc8⟩) (i80.up le9) i90 ?_
 repeat' first
  | with_reducible refine xkp (Za.refl _ _) ?_
  | with_reducible refine xkp (Za.forget le69) ?_
  | simp -dsimp -implicitDefEqProofs (disch:=first|exact dD|fail) [go_sem]
  | fail
 refine Zb.ap (VY (s:=T) (v:=⟨.slice pa3 T.ag.length pc3,.slice ma3 T.ae.length mc3,.slice ea3 T.entry.length ec3,.slice xa3 T.exit.length xc3,.slice oa3 T.aj.length oc3,.slice da3 T.ai.length dc3,.slice ta3 T.ah.length tc3,.slice ka3 T.marks.length kc3,.slice ra3 T.ring.length rc3⟩) (i30.up (le4.trans (le5.trans le69))) hTl.1 hTl.2.1 hTl.2.2.1 hTl.2.2.2 fun h10 u10 le10 i10 ap=>?_);obtain⟨a108,a107,a105,a104,a103,a101,_⟩:=ap;have i100:=i10;obtain⟨pa9,pc9,ma9,mc9,ea9,ec9,xa9,xc9,oa9,oc9,da9,dc9,ta9,tc9,ka9,kc9,ra9,rc9,rfl⟩:=i10.slices;have le610:=le69.trans le10
 repeat' first
  | with_reducible refine xkp (Za.refl _ _) ?_
  | with_reducible refine xkp (Za.forget le610) ?_
  | simp -dsimp -implicitDefEqProofs (disch:=first|exact dD|fail) [go_sem]
  | fail
 refine Zda (s:=T) (v:=⟨.slice pa9 T.ag.length pc9,.slice ma9 T.ae.length mc9,.slice ea9 T.entry.length ec9,.slice xa9 T.exit.length xc9,.slice oa9 T.aj.length oc9,.slice da9 T.ai.length dc9,.slice ta9 T.ah.length tc9,.slice ka9 T.marks.length kc9,.slice ra9 T.ring.length rc9⟩) (u:=⟨.slice pa5 T.ag.length pc5,.slice ma5 T.ae.length mc5,.slice ea5 T.entry.length ec5,.slice xa5 T.exit.length xc5,.slice oa5 T.aj.length oc5,.slice da5 T.ai.length dc5,.slice ta5 T.ah.length tc5,.slice ka5 T.marks.length kc5,.slice ra5 T.ring.length rc5⟩) i100 (i50.up le610) ?_
 repeat' first
  | with_reducible refine xkp (Za.refl _ _) ?_
  | with_reducible refine xkp (Za.forget le610) ?_
  | simp -dsimp -implicitDefEqProofs (disch:=first|exact dD|fail) [go_sem]
  | fail
 refine Zkd (r:=R) (q:=⟨.slice qoa R.out.length qoc,.slice qla R.left.length qlc,.slice qsa R.started.length qsc,.slice qda R.done.length qdc⟩) (r30.up (le4.trans (le5.trans le610))) ?_
 repeat' first
  | with_reducible refine xkp (Za.refl _ _) ?_
  | with_reducible refine xkp (Za.forget le610) ?_
  | simp -dsimp -implicitDefEqProofs (disch:=first|exact dD|fail) [go_sem]
  | fail
 refine Zlj (r:=R) (q:=⟨.slice qoa R.out.length qoc,.slice qla R.left.length qlc,.slice qsa R.started.length qsc,.slice qda R.done.length qdc⟩) (u:=⟨.slice poa R.out.length poc,.slice pla R.left.length plc,.slice psa R.started.length psc,.slice pda R.done.length pdc⟩) (r30.up (le4.trans (le5.trans le610))) (r50.up le610) ?_
 repeat' first
  | with_reducible refine xkp (Za.refl _ _) ?_
  | with_reducible refine xkp (Za.forget le610) ?_
  | simp -dsimp -implicitDefEqProofs (disch:=first|exact dD|fail) [go_sem]
  | fail
 have hk:=hk _ (le15.trans le610);exact ZO (ZO (ZO (ZO (ZO (ZO (ZP hk))))))
end Go.X

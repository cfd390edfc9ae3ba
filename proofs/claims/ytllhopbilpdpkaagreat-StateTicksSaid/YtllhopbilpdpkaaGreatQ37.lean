/- Lemmas and contracts. Conditions: as each says. -/
import Derived.Test.YtllhopbilpdpkaaGreatQ36
set_option linter.unusedVariables false
set_option linter.unusedSimpArgs false
set_option maxHeartbeats 12800000
set_option maxRecDepth 20000
namespace Go.X
open Go.RowKit Go.Proofs Go.Bl Go.Proofs.Tryz
variable {L:Own} {h:PH} {K:PK}
theorem Yie {b t c:Nat}{cs cs':List Value}{M:Own}{h':PH}(e:cs=cs')(hd:Za (⟨b,t,cs',c⟩::L) h M h'):Za (⟨b,t,cs,c⟩::L) h M h':=e ▸ hd
section
variable {e0 s0 e1 s1:Nat} {o0 o1:Option (Nat×Nat)} {X0 X1:List Value} {a b c d x y z:Zn}
theorem permD7:(a::b::c::oent e0 s0 o0 X0 L).Perm (oent e0 s0 o0 X0 (a::b::c::L)):=Z6 [a,b,c]
theorem Yjc:(a::b::c::oent e0 s0 o0 X0 (oent e1 s1 o1 X1 L)).Perm (a::b::c::oent e1 s1 o1 X1 (oent e0 s0 o0 X0 L)):=(((Yq o0 o1 X0 X1 L).cons c).cons b).cons a
end
abbrev dT (o:Option (Nat×Nat))(q:List QM)(L:Own):Own:=oent 184 33 o (q.flatMap YQ) L
theorem Zys {l:List QM}{i j:Nat}{m:QM}(hi:i<l.length):gr Z0 (l.set i m) j=if j=i then m else gr Z0 l j:=by
 by_cases e:j=i
 ·subst e;rw[Ye zn,if_pos rfl,List.getElem_set_self]
 ·rw[if_neg e];by_cases hj:j<l.length
  ·rw[Ye zC,Ye hj,List.getElem_set_ne (Ne.symm e)]
  ·unfold gr;rw[List.getD_eq_getElem?_getD,List.getD_eq_getElem?_getD,List.getElem?_eq_none zC,List.getElem?_eq_none qf]
theorem Zog {ql:List QM}{ms:List Zl}{l:List Zc}{om:Option (Nat×Nat)}(p:Ze)(ok:Zj p)(hen:0<=p.aN/\p.aN<=1000000)(ep:Int)(hep:0<=ep/\ep<=1073741824)(v:Value)(hv:Zd YQ 33 h v ql)(hq:ql.map (fun x=>x.2.2)=ms)(hm:YU h ql)(hl:ql.length<=1000)(okm:okO om l.length)(hml:l.length<=1000)(mo:∀x∈l,Zf x)(hA:Uu l<=18446744073709551615)
  (hk:∀h' r ql',PH.le h h'->Zd YQ 33 h' r ql'->ql'.map (fun x=>x.2.2)=Zlc p l ep ms->YU h' ql'->K r (dMo om l L) h') :
  Zb prog 247 [WS p,v,ovs om l.length,.int .i64 ep] (dMo om l L) h K:=by
 have hql:ql.length=ms.length:=qW;have hv0:=hv;obtain⟨va,vc,rfl,_,_,_,hd0⟩:=hv.open;rw[hql]at hv0 hd0 ⊢;have hqo : -9223372036854775808<=p.aI/\p.aI<=9223372036854775807:=ok.n _ (by simp [YA]);obtain⟨f,hf⟩:∃f,f=Jm p l ep:=⟨_,rfl⟩
 obtain⟨N,hN⟩:∃N,N=ms.length:=⟨_,rfl⟩
 refine eH func247 fun ap nd=>?_;have hom:apO om [] h:=Yk ap;clear ap nd;refine xx ?_;refine ZY fun b4 nb4 zb4=>?_;(try simp only[ZS]at nb4);have nm4:apB om b4:=Z3 nb4;clear nb4;refine xx ?_;refine Zb.apn (Zgc _ (hql ▸ hv0) hm hl fun o oko apo ap nd=>?_);rw[hql]at oko ⊢;have no4:apB o b4:=(Zha nd).1;have nod:Nd (oent 184 33 o (ql.flatMap YQ) (dMo om l L)):=(Zha nd).2;have hb4:h b4=noC:=(Ap.oent ap).1;have homo:apO o [] h:=Yk ap;clear ap nd apo;obtain⟨oa,oc,eo,_⟩:=Z5 oko;rw[eo];refine xx ?_;rw[<- hN];refine Yi (γ:=ClG) ⟨0,h,ql⟩ (fun y=>y.k<=N/\PH.le h y.h/\y.q.map (fun x=>x.2.2)=csN f ms y.k/\YU y.h y.q/\(∀j,y.k<=j->gr Z0 y.q j=gr Z0 ql j)/\y.h b4=noC/\apO om [] y.h/\apO o [] y.h)
  (fun y=>[(10,.int .i64 y.k),(9,.slice oa N oc),(1,.slice va N vc),(2,ovs om l.length),(3,.int .i64 ep),(4,.pointer (some ⟨b4,0,none⟩))])
  (fun y=>dT o y.q (⟨b4,39,Jj p,24⟩::dMo om l L)) (fun y=>y.h) (fun y=>N-y.k) ?_ ?_ ?_ ?_
 ·exact⟨Nat.zero_le _,PH.le_refl _,hq,hm,fun _ _=>rfl,hb4,hom,homo⟩
 ·simp [Ent,List.lookup,YT,hN]
 ·exact Za.refl _ _
 rintro⟨k,h6,q⟩ ⟨k1,le6,eq6,mo6,same6,hb46,hom7,hom8⟩;simp only at k1 le6 eq6 mo6 same6 hb46 hom7 hom8 ⊢;have hql6:q.length=N:=by rw[<- List.length_map (f:=fun x:QM=>x.2.2),eq6,UP,hN]
 by_cases c1:k<N
 ·obtain⟨bo,co,rfl⟩:∃bt cap,o=some (bt,cap):=by
   cases o with
   | none=>have:ms.length=0:=oko;omega
   | some p=>exact⟨_,_,rfl⟩
  simp only[Yl,Value.slice.injEq]at eo;obtain⟨rfl,_,rfl⟩:=eo;have hbo:h6 bo=noC:=hom8.2;have no4':bo≠b4:=no4;have nob:apB om bo:=by
   cases om with
   | none=>trivial
   | some p=>exact nod.1.1
  obtain⟨qk,hqk⟩:∃qk,qk=gr Z0 ql k:=⟨_,rfl⟩
  have hkq:k<q.length:=qf;have hkq0:k<ql.length:=qf;have hqk6:qk=gr Z0 q k:=by rw[hqk,same6 k (Nat.le_refl _)]
  have hmk:Zr h6 qk:=by rw[hqk6,Ye hkq];exact mo6 _ (List.getElem_mem _)
  obtain⟨md,hmd⟩:∃md,md=qk.2.2:=⟨_,rfl⟩
  have egr:md=gr Yb ms k:=by
   rw[hmd,hqk6,G1 eq6 (by rw[UP];omega),Zjx _ _ _ qf,if_neg qf]
  have hcs:csN f ms (k+1)=(csN f ms k).set k (f md):=by rw[csN,egr]
  have hsame:f md=md->csN f ms (k+1)=csN f ms k:=fun e=>Zqj f ms qf (by rw[<- egr];exact e);have hk33:=YC (n:=q.length) (w:=33) hkq (m:=32) qh;have hsum:(q.map fun a=>(YQ a).length).sum=q.length*33:=zy;have hy:=hmk.y;have hn:=hmk.n;have hd6:=hd0.up le6;obtain⟨vy,vn,md'⟩:=qk;simp only at hmd hy hn;subst hmd;obtain⟨ya,yc,rfl,_⟩:=hy.open;obtain⟨na,nc,rfl,_⟩:=hn.open;simp only[Z7];simp -dsimp -implicitDefEqProofs (disch:=first|exact dD|fail) [go_sem,↓Us Z0 qh hd6,<- hqk,YQ,Jj,List.cons_append,List.nil_append];refine ZY fun b11 nb11 zb11=>?_;(try simp only[ZS]at nb11);have n11o:=nb11.1;have n114:=nb11.2.1;have n11m:apB om b11:=Z3 nb11.2.2;clear nb11;by_cases s12:md.state=1/\md.ends<=ep
  rotate_left
  ·have e1:f md=md:=by rw[hf,Jm,if_neg s12]
   have e2:=hsame e1;by_cases s1:md.state=1
   ·have s2:ep<md.ends:=by
     have:=fun c=>s12 ⟨s1,c⟩;omega
    refine cZ ?_;exact⟨⟨k+1,h6,q⟩,⟨qp,le6,by rw[e2];exact eq6,mo6,fun j hj=>same6 j wF,hb46,hom7,hom8⟩,qp,qi,Za.tail _ _ _⟩
   ·refine df ?_;exact⟨⟨k+1,h6,q⟩,⟨qp,le6,by rw[e2];exact eq6,mo6,fun j hj=>same6 j wF,hb46,hom7,hom8⟩,qp,qi,Za.tail _ _ _⟩
  obtain⟨s1,s2⟩:=s12;refine cZ ?_;refine Zb.apn (Zb.fin (Zb.weaken (Za.perm _ permD7) (Zic om okm hml mo fun h7 r7 le7 n7=>⟨_,_,Za.perm _ permD7.symm,fun ap nd=>?_⟩)));have hb117:h7 b11=noC:=ap.1;have hbo7:h7 bo=noC:=ap.2.1;have hb47:h7 b4=noC:=ap.2.2.1;have hom7':apO om [] h7:=Yk ap.2.2.2;clear ap nd;refine xx ?_;refine Zb.ap (Ua _ n7 fun h8 le8 ap=>?_);have hb118:h8 b11=noC:=ap.1;have hbo8:h8 bo=noC:=ap.2.1;have hb48:h8 b4=noC:=ap.2.2.1;clear ap;rw[show GZ (Uu l)=Uu l from if_pos hA,show Zik (Uu l)=true from(decide_eq_true hA:decide (Uu l<=18446744073709551615)=true)];have le68:=le7.trans le8;have upy:=Uj (ks:=md.yes) mo;have upn:=Uj (ks:=md.no) mo;refine xx ?_;refine Zb.apn (Zb.fin (Zb.weaken (Za.perm _ permD7) (Zfe om okm hml mo _ (hy.up le68) fun h9 r9 le9 n9=>⟨_,_,Za.perm _ permD7.symm,fun ap nd=>?_⟩)));have hb119:h9 b11=noC:=ap.1;have hbo9:h9 bo=noC:=ap.2.1;have hb49:h9 b4=noC:=ap.2.2.1;clear ap nd;refine xx ?_;refine Zb.ap (Ua _ n9 fun h10 le10 ap=>?_);have hb1110:h10 b11=noC:=ap.1;have hbo10:h10 bo=noC:=ap.2.1;have hb410:h10 b4=noC:=ap.2.2.1;clear ap;rw[show GZ (Jd l md.yes)=Jd l md.yes from if_pos qf];have le610:=le68.trans (le9.trans le10);refine xx ?_;refine Zb.apn (Zb.fin (Zb.weaken (Za.perm _ permD7) (Zfe om okm hml mo _ (hn.up le610) fun h11 r11 le11 n11=>⟨_,_,Za.perm _ permD7.symm,fun ap nd=>?_⟩)));have hb1111:h11 b11=noC:=ap.1;have hbo11:h11 bo=noC:=ap.2.1;have hb411:h11 b4=noC:=ap.2.2.1;clear ap nd;refine xx ?_;refine Zb.ap (Ua _ n11 fun h12 le12 ap=>?_);have hb1112:h12 b11=noC:=ap.1;have hbo12:h12 bo=noC:=ap.2.1;have hb412:h12 b4=noC:=ap.2.2.1;clear ap;rw[show GZ (Jd l md.no)=Jd l md.no from if_pos qf];have le612:=le610.trans (le11.trans le12);refine xx ?_;refine Zb.ap (Zrs p.aI (Jd l md.yes) (Jd l md.no) (Uu l) hqo ⟨upy.1,qf⟩ ⟨upn.1,qf⟩ ⟨qf,hA⟩ fun h13 le13 ap=>?_);have hb1113:h13 b11=noC:=ap.1
  have hbo13:h13 bo=noC:=ap.2.1;have hb413:h13 b4=noC:=ap.2.2.1;have hom13:apO om [] h13:=Yk ap.2.2.2;clear ap;have le613:=le612.trans le13;have mo13:YU h13 q:=fun x hx=>(mo6 x hx).up le613;have hmk13:=hmk.up le613
  cases hpb:Znj p.aI (Jd l md.yes) (Jd l md.no) (Uu l) with
  | false =>
   have e1:f md={ md with state:=4 }:=by rw[hf,Jm,if_pos ⟨s1,s2⟩,hpb];rfl
   refine xx ?_;refine⟨qf,?_⟩;have s4:=Gw Ya q hkq (.slice ya md.yes.length yc,.slice na md.no.length nc,{ md with state:=4 });refine⟨⟨k+1,h13,q.set k (.slice ya md.yes.length yc,.slice na md.no.length nc,{ md with state:=4 })⟩,⟨qp,le6.trans le613,zu,GP mo13 (JI hmk13 (st:=4) qh (hmk13.ok.n _ qj)),fun j hj=>?_,hb413,hom13,trivial,hbo13⟩,qp,qi,(Za.tail _ _ _).trans (Yie s4 (Za.refl _ _))⟩;simp only at hj ⊢;rw[Zys hkq,if_neg qf];exact same6 j qf
  | true =>
   have e1:f md={ md with state:=2,due:=min (ep+p.aN) 2147483647 }:=by rw[hf,Jm,if_pos ⟨s1,s2⟩,hpb];rfl
   have em:min (ep+p.aN) 2147483647=ep+p.aN:=qf;rw[em]at e1;refine xx ?_;refine⟨qf,?_⟩;have s4:=Gw Ya q hkq (.slice ya md.yes.length yc,.slice na md.no.length nc,{ md with state:=2,due:=ep+p.aN });refine⟨⟨k+1,h13,q.set k (.slice ya md.yes.length yc,.slice na md.no.length nc,{ md with state:=2,due:=ep+p.aN })⟩,⟨qp,le6.trans le613,zu,GP mo13 (JI hmk13 (st:=2) qh qf),fun j hj=>?_,hb413,hom13,trivial,hbo13⟩,qp,qi,(Za.tail _ _ _).trans (Yie s4 (Za.refl _ _))⟩;simp only at hj ⊢;rw[Zys hkq,if_neg qf];exact same6 j qf
 have hkN:k=N:=qf;subst hkN;rw[hN,Yav]at eq6;rw[hN]at hql6;refine xx ?_;refine Yv (e:=184) (sz:=33) (n:=ms.length) (o:=o) oko (by rw[Z1 Ya,hql6]) qf hom8 fun h7 le7 sl=>ZO (ZP ?_);refine hk h7 _ q (le6.trans le7) (by have:=Zd.pub (f:=YQ) (w:=33) (l:=q) (o:=o) Ya (by rw[hql6];exact sl);rw[hql6,eo,<- hN]at this;exact this) (by rw[eq6,hf];rfl) (fun x hx=>(mo6 x hx).up le7)
theorem Yet {a b:Zn}{v:Value}(hk:fin K v (b::a::L) h):fin K v (a::b::L) h:=let ⟨M,h2,d,k⟩:=hk; ⟨M,h2,(Za.perm h (List.Perm.swap _ _ _)).trans d,k⟩
theorem W6 {ql:List QM}{ms:List Zl}(v:Value)(hv:Zd YQ 33 h v ql)(hq:ql.map (fun x=>x.2.2)=ms)(hm:YU h ql)(hl:ql.length<=1000)(i:Int)(hi : -9223372036854775808<=i/\i<=9223372036854775807)(done:Bool)
  (hk:∀h' r ql',PH.le h h'->Zd YQ 33 h' r ql'->ql'.map (fun x=>x.2.2)=(Zhw ms i done).1->YU h' ql'->K (.tuple #[r,.int .i64 (Zhw ms i done).2]) L h') :
  Zb prog 249 [v,.int .i64 i,.bool done] L h K:=by
 have hql:ql.length=ms.length:=qW;have hv0:=hv;obtain⟨va,vc,rfl,_⟩:=hv.open;have bad:∀h' e,PH.le h h'->Zhw ms i done=([],e)->K (.tuple #[.slice none 0 0,.int .i64 e]) L h':=fun h' e le eq=>by
  have:=hk h' (.slice none 0 0) [] le (Zd.nil Ya h') (by rw[eq];rfl) (fun x hx=>zh);rw[eq]at this;exact this
 rw[hql]at hv0 ⊢;refine eF func249 ?_;by_cases c1:i<0
 ·have:=bad h 230 (PH.le_refl _) (by rw[Zhw,if_neg qf]);refine xx ?_;exact ZP this
 by_cases c2:(ms.length:Int)<=i
 ·have:=bad h 230 (PH.le_refl _) (by rw[Zhw,if_neg qf]);refine xx ?_;exact ZP this
 obtain⟨k,rfl⟩:=Int.eq_ofNat_of_zero_le (Int.not_lt.1 c1);have hkl:k<ms.length:=qf;have ev:Zhw ms k done=if (gr Yb ms k).state=2 then (ms.set k (Zea (gr Yb ms k) done),0) else ([],291):=by
  rw[Zhw,if_pos qf];rfl
 have hd0:=(hql ▸ hv0)
 have eg:gr Yb ms k=(gr Z0 ql k).2.2:=(G1 hq hkl).symm;obtain⟨qk,hqk⟩:∃qk,qk=gr Z0 ql k:=⟨_,rfl⟩
 have hmem':qk∈ql:=by rw[hqk,Ye qf];exact List.getElem_mem _
 have hmk:Zr h qk:=hm qk hmem';rw[eg,<- hqk]at ev;have g30:∀(L:Own) (K:Value->Prop) (t:Zm K),Um L h (UI va (k*33+30)) 0 K t=K (.int .i64 qk.2.2.state):=fun L K t=>hv0.fld Z0 qf qM L K t;obtain⟨vy,vn,md⟩:=qk;have hy:=hmk.y;have hn:=hmk.n;have hok:=hmk.ok;simp only at hy hn hok ev g30;obtain⟨ya,yc,rfl,_⟩:=hy.open;obtain⟨na,nc,rfl,_⟩:=hn.open;by_cases c3:md.state=2
 ·rw[if_pos c3]at ev;simp -dsimp -implicitDefEqProofs (disch:=first|exact dD|fail) [go_sem,↓Us Z0 qh hv0,g30,c3];refine Zgc _ (hql ▸ hv0) hm hl fun o oko apo=>?_;rw[hql]at oko ⊢;have hfl:(ql.flatMap YQ).length=ms.length*33:=by rw[Z1 Ya,hql]
  obtain⟨bo,co,rfl⟩:∃bt cap,o=some (bt,cap):=by
   cases o with
   | none=>have:ms.length=0:=oko;omega
   | some p=>exact⟨_,_,rfl⟩
  have hbo:h bo=noC:=apo.2;have hfl2:(ql.map fun a=>(YQ a).length).sum=ms.length*33:=zI;have hk33:=YC (n:=ms.length) (w:=33) hkl (m:=32) qh;rw[Z7];simp only[ovs];simp -dsimp -implicitDefEqProofs (disch:=first|exact dD|fail) [go_sem,↓Us Z0 qh hv0,<- hqk,YQ,Jj,List.cons_append,List.nil_append];refine ZY fun b9 nb9 zb9=>?_;(try simp only[ZS]at nb9);have n9o:=nb9.1;refine df ?_;have fin:∀st:Int,(0<=st/\st<=100)->Zea md done={ md with state:=st }->∀x:Zn,fin K (.tuple #[.slice (some ⟨bo,0,none⟩) ms.length co,.int .i64 0]) (x::⟨bo,184,(ql.set k (.slice ya md.yes.length yc,.slice na md.no.length nc,{ md with state:=st })).flatMap YQ,co*33⟩::L) h:=fun st hst he x=>by
   refine ZO (Yv (e:=184) (sz:=33) (n:=ms.length) (o:=some (bo,co)) oko (by rw[Z1 Ya,List.length_set,hql]) qf apo fun h6 le6 sl=>ZP ?_);have:=hk h6 (.slice (some ⟨bo,0,none⟩) ms.length co) (ql.set k (.slice ya md.yes.length yc,.slice na md.no.length nc,{ md with state:=st })) le6 ?_ ?_ ?_
   ·rw[ev]at this;exact this
   ·have:=Zd.pub (f:=YQ) (w:=33) (l:=ql.set k (.slice ya md.yes.length yc,.slice na md.no.length nc,{ md with state:=st })) (o:=some (bo,co)) Ya (by rw[List.length_set,hql];exact sl)
    rwa [List.length_set,hql]at this
   ·rw[List.map_set,hq,ev,he]
   ·intro x hx;rcases List.mem_or_eq_of_mem_set hx with hx|rfl
    ·exact(hm x hx).up le6
    ·exact(JI hmk (st:=st) hst (hok.n _ qj)).up le6
  cases done with
  | false =>
   have f4:=fin 4 qh rfl;refine xx ?_;refine⟨qf,?_⟩;exact Yet (Yrf (Gw Ya ql (i:=k) qf (.slice ya md.yes.length yc,.slice na md.no.length nc,{ md with state:=4 })) (Yet (f4 _)))
  | true =>
   have f3:=fin 3 qh rfl;refine xx ?_;refine⟨qf,?_⟩;exact Yet (Yrf (Gw Ya ql (i:=k) qf (.slice ya md.yes.length yc,.slice na md.no.length nc,{ md with state:=3 })) (Yet (f3 _)))
 ·rw[if_neg c3]at ev;have:=bad h 291 (PH.le_refl _) ev;simp -dsimp -implicitDefEqProofs (disch:=first|exact dD|fail) [go_sem,↓Us Z0 qh hv0,g30];exact ZP this
open Go.RowKit Go.Proofs Go.Bl Go.Proofs.Tryz
variable {L:Own} {h:PH} {K:PK}
theorem Zgo {l:List Zc}{ks:List Int}(om:Option (Nat×Nat))(ho:okO om l.length)(ha:apO om L h)(kv:Value)(hm:∀x∈l,Zf x)(hkv:Ints h .u8 kv ks)(hn:l.length<=1000)(hA:Uu l<=18446744073709551615)
  (hk:∀h',PH.le h h'->K (.tuple #[.int .u64 (Jd l ks),.int .u64 (Uu l),.int .i64 0]) (oent 124 6 om (l.flatMap YD) L) h') :
  Zb prog 230 [ovs om l.length,kv] (oent 124 6 om (l.flatMap YD) L) h K :=
 Zb.lend_o ho (Z1 Z8 l) qf fun sl=>Zkg _ kv (Zd.pub Z8 sl) hm (hkv.up (YL ha _)) hn hA fun h' le=>hk _ (Zcb ha le)
def wmS (s:Zg)(k:Nat):Zg:={ s with calm:=(Vo s.calm (Je s) (Vi s)).1,ae:=upI (wgF s.par s.marks (Vn s)) s.ae k }
theorem Zsx {bb br bp cp D:Nat}{om:Option (Nat×Nat)}{s:Zg}{v:SV}{r:Zi}{q:RV}(ti:Zq s D)(hA:Vi s<=140737488355328)(hk0:Ints h .u8 v.k s.marks)(hm:v.m=ovs om s.ae.length)(okm:okO om s.ae.length)
    (hk:∀h',PH.le h h'->K (.tuple #[]) (dB bb (wgS s) v::dR br (wgR s r) q::dP bp cp s.ag::dMo om (wgS s).ae L) h') :
    Zb prog 107 [.pointer (some ⟨bb,0,none⟩),.pointer (some ⟨br,0,none⟩)] (dB bb s v::dR br r q::dP bp cp s.ag::dMo om s.ae L) h K:=by
  obtain⟨vp,vm,ve,vx,vo,vd,vt,vk,vr⟩:=v;simp only at hm hk0 hk ⊢;subst hm;have hml:=ti.ml;have hpre:=Uj (ks:=s.marks) ti.be.m;have bP:0<=Je s/\Je s<=18446744073709551615:=by have:0<=Je s/\Je s<=Vi s:=hpre;omega
  have bA:0<=Vi s/\Vi s<=18446744073709551615:=by have:0<=Je s/\Je s<=Vi s:=hpre;omega
  obtain⟨a1,a2,a3,a4,a5,a6,a7⟩:=ti.ok.all;obtain⟨N,hN⟩:∃N,N=s.ae.length:=⟨_,rfl⟩
  refine eG func107 fun ap nd=>?_;have hbb:h bb=noC:=ap.1;have hbr:h br=noC:=ap.2.1;have hbp:h bp=noC:=ap.2.2.1;have hbm:apO om [] h:=Yk ap.2.2.2;have nrb:NeB bb br:=Ne.symm nd.1.1;have npb:NeB bb bp:=Ne.symm nd.1.2.1;have nmb:apB om bb:=Z3 nd.1.2.2;have npr:NeB br bp:=Ne.symm nd.2.1.1;have nmr:apB om br:=Z3 nd.2.1.2;have nmp:apB om bp:=Z3 nd.2.2.1;have hapO:apO om (dB bb s ⟨vp,ovs om s.ae.length,ve,vx,vo,vd,vt,vk,vr⟩::dR br r q::dP bp cp s.ag::L) h:=by
    have ap2:=Ap.perm permD7 ap;have nd2:=Nd.perm permD7 nd
    cases om with
    | none=>trivial
    | some p=>exact⟨nd2.1,ap2.1⟩
  clear ap nd;refine xx ?_;refine YN (.tk 0 (.tk 1 (.tk 2 (.tk 3 (.tk 4 (.tk 6 (.tk 7 (.tk 8 (.tkl 5 (.tkl 9 (.o1 10 (.tk 11 (.tk 12 (.tk 13 (.tk 14 (.tk 15 (.tk 16 (.o2 17 (.tk 18 (.tk 19 (.o2 20 (.fin) (.nil)))) (.nil)))))))) (.nil)))))))))))) qg qg [(0,.pointer (some ⟨bb,0,none⟩)),(1,.pointer (some ⟨br,0,none⟩))] _ (γ:=PH) (fun h1=>PH.le h h1/\h1 bb=noC/\apO om [] h1/\h1 br=noC/\h1 bp=noC) (fun _=>[(0,.pointer (some ⟨bb,0,none⟩)),(1,.pointer (some ⟨br,0,none⟩))])
    (fun _=>dB bb s ⟨vp,ovs om s.ae.length,ve,vx,vo,vd,vt,vk,vr⟩::dR br { r with pres:=Je s,act:=Vi s } q::dP bp cp s.ag::dMo om s.ae L) (fun h1=>h1) qx (Za.refl _ _) ?_ ?_
  · repeat' first
      | with_reducible refine Yf ?_ ?_
      | simp -dsimp -implicitDefEqProofs (disch:=first|exact dD|fail) [go_sem]
      | (with_reducible show WW prog 230 _ _ _ _
         refine Zb.fin (Zb.weaken (Za.perm h permD7) (Zb.ap (Zgo (l:=s.ae) (ks:=s.marks) om okm hapO _ ti.be.m hk0 qf (by show Vi s<=_;omega) fun h1 le1 ap=>⟨_,_,Za.perm _ permD7.symm,?_⟩)));have hbm1:apO om [] h1:=Yk ap;have hbb1:h1 bb=noC:=(Ap.oent ap).1;have hbr1:h1 br=noC:=(Ap.oent ap).2.1;have hbp1:h1 bp=noC:=(Ap.oent ap).2.2.1
         clear ap)
      | with_reducible refine xkp (Za.forget le1) ?_
      | fail
    all_goals exact⟨h1,⟨le1,hbb1,hbm1,hbr1,hbp1⟩,qi,Za.refl _ _⟩
  rintro h1 ⟨le1,hbb1,hbm1,hbr1,hbp1⟩
  try simp only
  refine xx ?_;refine YN (.tk 0 (.tk 1 (.tk 2 (.tk 3 (.tk 4 (.tk 6 (.tk 7 (.tk 8 (.tk 10 (.tk 11 (.tk 12 (.tkl 5 (.tkl 9 (.tkl 13 (.o1 14 (.tk 15 (.tk 16 (.tk 17 (.tk 18 (.tk 19 (.o2 20 (.tk 21 (.tk 22 (.o2 23 (.fin) (.nil)))) (.nil))))))) (.nil)))))))))))))))) qg qg [(0,.pointer (some ⟨bb,0,none⟩)),(1,.pointer (some ⟨br,0,none⟩))] _ (γ:=PH) (fun h2=>PH.le h h2/\h2 bb=noC/\apO om [] h2/\h2 br=noC/\h2 bp=noC) (fun _=>[(0,.pointer (some ⟨bb,0,none⟩)),(1,.pointer (some ⟨br,0,none⟩))])
    (fun _=>dB bb { s with calm:=(Vo s.calm (Je s) (Vi s)).1 } ⟨vp,ovs om s.ae.length,ve,vx,vo,vd,vt,vk,vr⟩::dR br { r with pres:=Je s,act:=Vi s,quo:=(Vo s.calm (Je s) (Vi s)).2 } q::dP bp cp s.ag::dMo om s.ae L) (fun h2=>h2) qx (Za.refl _ _) ?_ ?_
  · repeat' first
      | with_reducible refine Yf ?_ ?_
      | simp -dsimp -implicitDefEqProofs (disch:=first|exact dD|fail) [go_sem]
      | (with_reducible show WW prog 231 _ _ _ _
         refine Zb.ap (Zul s.calm (Je s) (Vi s) bP bA a7 fun h2 le2 ap=>?_);have hbb2:h2 bb=noC:=ap.1;have hbr2:h2 br=noC:=ap.2.1;have hbp2:h2 bp=noC:=ap.2.2.1;have hbm2:apO om [] h2:=Yk ap.2.2.2
         clear ap)
      | with_reducible refine xkp (Za.forget le2) ?_
      | fail
    all_goals exact⟨h2,⟨le1.trans le2,hbb2,hbm2,hbr2,hbp2⟩,qi,Za.refl _ _⟩
  rintro h2 ⟨le2,hbb2,hbm2,hbr2,hbp2⟩
  try simp only
  refine xx ?_;refine Z4 (.tk 0 (.tk 1 (.tk 2 (.tk 3 (.tk 4 (.tk 6 (.tk 7 (.tk 8 (.tk 10 (.tk 11 (.tk 12 (.tkl 5 (.tkl 9 (.tkl 13 (.o1 14 (.tk 15 (.tk 16 (.o2 17 (.fin) (.nil)))) (.nil)))))))))))))))) qg qg _ (Za.refl _ _) ?_;refine xx ?_;refine Yeq s.par.delay (Vo s.calm (Je s) (Vi s)).1 s.aT ?_;rw[show Zuw s.par.delay (Vo s.calm (Je s) (Vi s)).1 s.aT=Vn s from rfl]
  repeat' first
    | with_reducible refine xkp (Za.refl _ _) ?_
    | simp -dsimp -implicitDefEqProofs (disch:=first|exact dD|fail) [go_sem]
    | fail
  obtain⟨ea,ec,em,_⟩:=Z5 okm;rw[<- hN]at em;refine Yi (γ:=Nat) 0 (fun k=>k<=N)
    (fun k=>[(0,.pointer (some ⟨bb,0,none⟩)),(1,.pointer (some ⟨br,0,none⟩)),(4,.int .i64 k)])
    (fun k=>dB bb (wmS s k) ⟨vp,ovs om N,ve,vx,vo,vd,vt,vk,vr⟩::dR br (wgR s r) q::dP bp cp s.ag::dMo om (wmS s k).ae L) (fun _=>h2) (fun k=>N-k) ?_ ?_ ?_ ?_
  · exact Nat.zero_le _
  · simp [Ent,List.lookup,YT]
  · rw[hN];exact Za.refl _ _
  intro k k1;have hl:(wmS s k).ae.length=s.ae.length:=WY _ _ _;by_cases c1:k<N
  · obtain ⟨bm,cm,rfl⟩ : ∃ bm cm,om = some (bm,cm) := by
      cases om with
      | none=>have:s.ae.length=0:=okm;omega
      | some p=>exact⟨_,_,rfl⟩
    simp only[Yl,Value.slice.injEq]at em;obtain⟨rfl,_,rfl⟩:=em;have hbm':h2 bm=noC:=hbm2.2;have e1:NeB bb bm:=Ne.symm nmb;have e2:NeB br bm:=Ne.symm nmr;have e3:NeB bp bm:=Ne.symm nmp;obtain⟨MS,hMS⟩:∃MS,MS=(wmS s k).ae:=⟨_,rfl⟩
    have hkl:k<MS.length:=by rw[hMS];omega
    have hat:gr ZQ MS k=gr ZQ s.ae k:=by rw[hMS];exact Jn (wgF s.par s.marks (Vn s)) s.ae (k:=k) qf
    have hMo:∀x∈MS,Zf x:=by rw[hMS];exact Zft Zf (fun k m hm=>Zvj ti.ok.p ti.r _ _ k hm) ti.be.m k qf
    obtain⟨m,hmm⟩:∃m,m=gr ZQ MS k:=⟨_,rfl⟩
    have mo:Zf m:=by rw[hmm];exact hMo _ (Yp hkl)
    have hg:=Zah hkl;rw[<- hmm]at hg;obtain⟨g0,g1,g2,g3,g4,g5⟩:=hg;have hi6:=YC (w:=6) hkl (show 5<6 from qh);have hsm:=Zbl (ms:=MS) rfl;simp only[dMo,Z7,Yl];rw[<- hMS];refine l9 ?_;refine Y3 m ?_;by_cases c:m.status=2\/m.status=3
    · have c4:Uf (gr ZQ s.ae k):=by rw[<- hat,<- hmm];exact c
      rw[decide_eq_true c];have u:upI (wgF s.par s.marks (Vn s)) s.ae (k+1)=MS.set k (W8 s.par m (Wm s.marks k) (Vn s)):=by
        rw[upI,<- Jn (wgF s.par s.marks (Vn s)) s.ae (k:=k) qf,wgF,if_pos (by rw[Jn _ _ qf];exact c4)];rw[show upI (wgF s.par s.marks (Vn s)) s.ae k=MS from hMS.symm,<- hmm]
      have s1:wmS s (k+1)={ wmS s k with ae:=MS.set k (W8 s.par m (Wm s.marks k) (Vn s)) }:=by
        show ({ s with calm:=(Vo s.calm (Je s) (Vi s)).1,ae:=upI (wgF s.par s.marks (Vn s)) s.ae (k+1) }:Zg)=_;rw[u];rfl
      obtain⟨A,hAf⟩:∃A,A=W8 s.par m (Wm s.marks k) (Vn s):=⟨_,rfl⟩
      have hst4:=Zev hkl A (by rw[hAf,hmm];unfold W8;split<;>rfl) (by rw[hAf,hmm];unfold W8;split<;>rfl);rw[<- hAf]at s1;refine xx ?_;refine Z4 (.tk 0 (.tk 1 (.tk 2 (.tk 4 (.tk 5 (.tk 6 (.tk 7 (.tk 9 (.tk 10 (.tk 11 (.tk 13 (.tk 17 (.tk 18 (.tk 20 (.tk 21 (.tk 22 (.tkl 3 (.tkl 8 (.tkl 12 (.tk 14 (.tk 15 (.tkl 16 (.tkl 23 (.o1 19 (.o1 24 (.tk 25 (.tk 26 (.o2 27 (.fin) (.nil)))) (.nil)) (.nil))))))))))))))))))))))))) qg qg _ (Za.refl _ _) ?_;refine l9 ?_;rw[hMS];refine Gi (s:=wmS s k) (v:=⟨vp,.slice (some ⟨bm,0,none⟩) N cm,ve,vx,vo,vd,vt,vk,vr⟩) (by rw[hl,hN]) qf (hk0.up le2) k qf ?_;have hcg:(decide (Uf (gr ZQ (wmS s k).ae k))&&Wm (wmS s k).marks k)=Wm s.marks k:=by
        have e:gr ZQ (wmS s k).ae k=m:=by rw[hmm,hMS]
        rw[e,decide_eq_true (show Uf m from c),Bool.true_and];rfl
      rw[hcg,<- hMS]
      repeat' first
        | with_reducible refine xkp (Za.refl _ _) ?_
        | simp -dsimp -implicitDefEqProofs (disch:=first|exact dD|fail) [go_sem]
        | fail
      refine Zlq s.par ti.ok.p ti.r m mo (Wm s.marks k) (Vn s) ?_;rw[<- hAf]
      repeat' first
        | with_reducible refine xkp (Za.refl _ _) ?_
        | simp -dsimp -implicitDefEqProofs (disch:=first|exact dD|fail) [go_sem]
        | fail
      refine⟨qf,?_⟩;refine⟨k+1,qf,qf,qi,?_⟩;rw[hst4,s1];exact Za.refl _ _
    · have c4:¬Uf (gr ZQ s.ae k):=by rw[<- hat,<- hmm];exact c
      rw[decide_eq_false c];have s1:wmS s (k+1)=wmS s k:=by
        unfold wmS;rw[Gx _ _ qf (if_neg c4)]
      refine xx ?_;refine⟨k+1,qf,qf,qi,?_⟩;rw[s1,<- hMS];exact Za.refl _ _
  obtain rfl:N=k:=qf;have eS:wmS s N=wgS s:=by rw[hN];rfl
  have hk:=hk h2 le2;rw[<- hN,em]at hk;rw[eS,em];refine xx ?_;exact ZP hk
theorem Yae {bb bm cm:Nat}{x y:Zn}{s:Zg}{v:SV}(hm:v.m = .slice (some ⟨bm,0,none⟩) s.ae.length cm)(hml:s.ae.length<=1000)(mo:∀x∈s.ae,Zf x)(hd:Zd Yh 3 h v.d s.ai)(hdo:∀x∈s.ai,Zs x)(hl:s.ai.length<=32000)(i:Nat)(hi:i<s.ae.length)
  (how:0<=(gr ZQ s.ae i).owner/\(gr ZQ s.ae i).owner<=63) (st t:Int) (ht:0<=t/\t<=9223372036854775807) (hs:Y9 s.ai+(gr ZQ s.ae i).bal<=4611686018427387904)
  (hk:∀h' r',PH.le h h'->Zd Yh 3 h' r' (V3 s.ai (VB (min t 2147483647) (gr ZQ s.ae i)))->K (.tuple #[]) (dB bb { s with ae:=s.ae.set i (V5 (gr ZQ s.ae i) st),ai:=V3 s.ai (VB (min t 2147483647) (gr ZQ s.ae i)) } { v with d:=r' }::x::y::dM bm cm (s.ae.set i (V5 (gr ZQ s.ae i) st))::L) h') :
  Zb prog 243 [.pointer (some ⟨bb,0,none⟩),.int .i64 i,.int .i64 st,.int .i64 t] (dB bb s v::x::y::dM bm cm s.ae::L) h K :=
 Zb.fin (Zb.weaken (Za.perm _ permD2) (Zpi hm hml mo hd hdo hl i hi how st t ht hs fun h' r' le i'=>⟨_,_,Za.perm _ permD2.symm,hk h' r' le i'⟩))
theorem Zua {bb br bp cp D:Nat}{om:Option (Nat×Nat)}{s:Zg}{v:SV}{r:Zi}{q:RV}(ti:Zq s D)(hD:D<=30000)(hpv:v.p = .slice (some ⟨bp,0,none⟩) s.ag.length cp)(hd:Zd Yh 3 h v.d s.ai)(hm:v.m=ovs om s.ae.length)(okm:okO om s.ae.length)(hx:Ints h .i64 v.x s.exit)(t0:Int)(ht0:0<=t0/\t0<=9223372036854775807)
  (hk:∀h' dv xv lv,PH.le h h'->Zd Yh 3 h' dv (lvS s (min t0 2147483647)).ai->Ints h' .i64 xv (lvS s (min t0 2147483647)).exit->Ints h' .i64 lv (lvW s) ->
   K (.tuple #[]) (dB bb (lvS s (min t0 2147483647)) { v with d:=dv,x:=xv }::dR br (lvR s r) { q with l:=lv }::dP bp cp (lvS s (min t0 2147483647)).ag::dMo om (lvS s (min t0 2147483647)).ae L) h') :
  Zb prog 111 [.pointer (some ⟨bb,0,none⟩),.pointer (some ⟨br,0,none⟩),.int .i64 t0] (dB bb s v::dR br r q::dP bp cp s.ag::dMo om s.ae L) h K:=by
 obtain⟨vp,vm,ve,vx,vo,vd,vt,vk,vr⟩:=v;obtain⟨qo,ql,qs,qd⟩:=q;simp only at hpv hm hd hx hk ⊢;subst hpv hm;obtain⟨t,hte⟩:∃t,t=min t0 2147483647:=⟨_,rfl⟩
 rw[<- hte]at hk;have htb:0<=t/\t<=2147483647:=qf;have hep:=ti.ep;have hml:=ti.ml;have hpl:=ti.pl;have hdn:=ti.dn;have hxl:=WR ti.ex;obtain⟨w1,w2,w3⟩:=Yrj ti;have hpc:=Yc ti.r;have hsum:=ti.sum;obtain⟨p1,p2,p3,p4,p5,p6⟩:=ti.parts;have hx0:=hx;obtain⟨xa,xc,rfl,_⟩:=hx.open;refine eG func111 fun ap nd=>?_;have hbb:h bb=noC:=ap.1;have hbr:h br=noC:=ap.2.1;have hbp:h bp=noC:=ap.2.2.1;have hbm:apO om [] h:=Yk ap.2.2.2;have nrb:NeB bb br:=Ne.symm nd.1.1;have npb:NeB bb bp:=Ne.symm nd.1.2.1;have nmb:apB om bb:=Z3 nd.1.2.2;have npr:NeB br bp:=Ne.symm nd.2.1.1;have nmr:apB om br:=Z3 nd.2.1.2;have nmp:apB om bp:=Z3 nd.2.2.1;clear ap nd;refine xx ?_;refine Z4 (.tk 0 (.tk 1 (.tk 2 (.tk 4 (.tk 5 (.tk 6 (.tk 7 (.tkl 3 (.tkl 8 (.o1 9 (.tk 10 (.tk 11 (.tk 12 (.tk 13 (.tk 14 (.fin)))))) (.nil))))))))))) qg qg _ (Za.refl _ _) ?_;refine xx ?_;refine Zb.ap (Zky _ hx0 qf s.par.aK ⟨qf,qf⟩ fun h1 r1 r2 le1 iw ix ap=>?_);have hbb1:h1 bb=noC:=ap.1;have hbr1:h1 br=noC:=ap.2.1;have hbp1:h1 bp=noC:=ap.2.2.1;have hbm1:apO om [] h1:=Yk ap.2.2.2;clear ap;have eW:s.exit.take s.par.aK.toNat=lvW s:=rfl;rw[eW]at iw;obtain⟨N,hN⟩:∃N,N=(lvW s).length:=⟨_,rfl⟩
 obtain⟨R,hR⟩:∃R,R=s.exit.drop s.par.aK.toNat:=⟨_,rfl⟩
 rw[<- hR]at ix;have ix0:=ix;have iw0:=iw;obtain⟨wa,wc,rfl,_,_,_,hws⟩:=iw.open;obtain⟨ra,rc,rfl,_⟩:=ix.open;rw[<- hN]at hws w1 iw0 ⊢
 first
 | refine xkp (Za.forget le1) ?_
 | skip
 refine xx ?_;refine Yi (γ:=LvG) ⟨0,h1,vd⟩ (fun y=>y.k<=N/\PH.le h1 y.h/\Zd Yh 3 y.h y.d (lvK t (lvW s) (s.ae,s.ai) y.k).2/\y.h bb=noC/\y.h br=noC/\y.h bp=noC/\apO om [] y.h)
  (fun y=>[(8,.int .i64 y.k),(6,.slice wa N wc),(7,.slice ra R.length rc),(0,.pointer (some ⟨bb,0,none⟩)),(1,.pointer (some ⟨br,0,none⟩)),(2,.int .i64 t0)])
  (fun y=>dB bb { s with exit:=R,ae:=(lvK t (lvW s) (s.ae,s.ai) y.k).1,ai:=(lvK t (lvW s) (s.ae,s.ai) y.k).2 } ⟨.slice (some ⟨bp,0,none⟩) s.ag.length cp,ovs om s.ae.length,ve,.slice ra R.length rc,vo,y.d,vt,vk,vr⟩::dR br r ⟨qo,ql,qs,qd⟩::dP bp cp s.ag::dMo om (lvK t (lvW s) (s.ae,s.ai) y.k).1 L) (fun y=>y.h) (fun y=>N-y.k) ?_ ?_ ?_ ?_
 ·exact⟨Nat.zero_le _,PH.le_refl _,hd.up le1,hbb1,hbr1,hbp1,hbm1⟩
 ·simp [Ent,List.lookup,YT]
 ·exact Za.refl _ _
 rintro⟨k,h2,d2⟩ ⟨k1,le2,id2,hbb2,hbr2,hbp2,hbm2⟩;simp only at k1 le2 id2 hbb2 hbr2 hbp2 hbm2 ⊢;have lv:=(Zmx ti htb (k:=k) qf).1;have lr:=(Zmx ti htb (k:=k) qf).2;have hXl:(lvK t (lvW s) (s.ae,s.ai) k).1.length=s.ae.length:=lv.l1;by_cases c1:k<N
 ·have hin:=w3 (at0 (lvW s) k) wS;obtain⟨i,hi⟩:=Int.eq_ofNat_of_zero_le hin.1;rw[hi]at hin;have hws2:∀j,j<N->Z9 h2 wa j=some (.int .i64 (at0 (lvW s) j)):=fun j hj=>Yr le2 (hws j hj);have hi2:i<(lvK t (lvW s) (s.ae,s.ai) k).1.length:=qf;have hoo:=lr.o _ (Yp (z:=ZQ) hi2);have hbt:=Yj (WA lv.m) i;rw[WI hi2]at hbt;have h3:=lv.t;have h4:=lv.n;have eK:lvK t (lvW s) (s.ae,s.ai) (k+1)=Zat t i (lvK t (lvW s) (s.ae,s.ai) k):=by rw[lvK,hi,Int.toNat_natCast]
  obtain⟨bm,cm,rfl⟩:∃bm cm,om=some (bm,cm):=by
   cases om with
   | none=>have:s.ae.length=0:=okm;omega
   | some p=>exact⟨_,_,rfl⟩
  obtain⟨X,hX⟩:∃X,X=lvK t (lvW s) (s.ae,s.ai) k:=⟨_,rfl⟩
  rw[<- hX]at id2 lv hXl hi2 hoo hbt h3 h4 eK lr ⊢;simp only[dMo,Z7,Yl];refine lL ?_;rw[hi];simp only at h3 h4;have how2:0<=(gr ZQ X.1 i).owner/\(gr ZQ X.1 i).owner<=63:=qf;refine Zb.ap (Yae (s:={ s with exit:=R,ae:=X.1,ai:=X.2 }) (v:=⟨.slice (some ⟨bp,0,none⟩) s.ag.length cp,.slice (some ⟨bm,0,none⟩) s.ae.length cm,ve,.slice ra R.length rc,vo,d2,vt,vk,vr⟩) (by rw[hXl]) (by show X.1.length<=1000;omega) lv.m id2 lv.d (by show X.2.length<=32000;omega) i hi2 how2 5 t0 ht0 (by show Y9 X.2+(gr ZQ X.1 i).bal<=_;omega) fun h5 r5 le5 i5 ap=>?_);have hbb5:h5 bb=noC:=ap.1;have hbr5:h5 br=noC:=ap.2.1;have hbp5:h5 bp=noC:=ap.2.2.1;have hbm5:apO (some (bm,cm)) [] h5:=⟨trivial,ap.2.2.2.1⟩
  clear ap;refine xx ?_;refine⟨⟨k+1,h5,r5⟩,⟨qp,le2.trans le5,by rw[eK,hte];exact i5,hbb5,hbr5,hbp5,hbm5⟩,qp,qi,?_⟩;simp only;rw[eK,hte];exact Za.refl _ _
 obtain rfl:N=k:=qf;have eX:lvK t (lvW s) (s.ae,s.ai) N=lvX s t:=by rw[hN];rfl
 rw[eX]at id2 lv lr hXl ⊢;have lvn:=lv.n;simp only at lvn;refine xx ?_;refine Z4 (.tk 0 (.tk 1 (.tk 2 (.tk 4 (.tk 5 (.tk 6 (.tkl 3 (.tkl 7 (.o1 8 (.tk 9 (.tk 10 (.tk 11 (.tk 12 (.tk 13 (.fin)))))) (.nil)))))))))) qg qg _ (Za.refl _ _) ?_;refine xx ?_;refine Zb.ap (Zsl _ id2 qf s.ep fun h3 r3 d3 le3 i3 j3 ap=>?_);have hbb3:h3 bb=noC:=ap.1;have hbr3:h3 br=noC:=ap.2.1;have hbp3:h3 bp=noC:=ap.2.2.1;clear ap;have i30:=i3;have j30:=j3;obtain⟨ya,yc,rfl,_,_,_,hrs⟩:=i3.open;obtain⟨da,dc,rfl,_⟩:=j3.open
 first
 | refine xkp (Za.forget le3) ?_
 | skip
 have eD:(lvX s t).2.filter (Ut s.ep true)=lvD s t:=rfl;rw[eD]at i30 hrs ⊢;obtain⟨M,hM⟩:∃M,M=(lvD s t).length:=⟨_,rfl⟩
 have hld:=Yps ti htb;have hMl:M<=32000:=by
  have:(lvD s t).length<=(lvX s t).2.length:=List.length_filter_le _ _;omega
 rw[<- hM]at hrs ⊢;refine xx ?_;have ltot:tot s.ag+Y9 (lvD s t)<=4611686018427387904:=by
  have a1:=Zns (lvX s t).2 s.ep;rw[eD]at a1;have a2:=lv.t;simp only at a2;have a3:0<=Y9 ((lvX s t).2.filter (Ut s.ep false)):=Ym (Zam fun x hx=>lv.d x (List.mem_filter.1 hx).1);have a4:=Ym (WA lv.m);have a5:Y9 s.ai+tot (s.ae.map Zc.bal)=Y9 (lvX s t).2+tot ((lvX s t).1.map Zc.bal):=a2.symm;omega
 refine Yi (γ:=Nat) 0 (fun k=>k<=M)
  (fun k=>[(11,.int .i64 k),(9,.slice ya M yc),(0,.pointer (some ⟨bb,0,none⟩))])
  (fun k=>dB bb { s with exit:=R,ae:=(lvX s t).1,ai:=(lvX s t).2.filter (Ut s.ep false),ag:=dpK (lvD s t) s.ag k } ⟨.slice (some ⟨bp,0,none⟩) s.ag.length cp,ovs om s.ae.length,ve,.slice ra R.length rc,vo,.slice da ((lvX s t).2.filter (Ut s.ep false)).length dc,vt,vk,vr⟩::dR br (lvR s r) ⟨qo,.slice wa N wc,qs,qd⟩::dP bp cp (dpK (lvD s t) s.ag k)::dMo om (lvX s t).1 L) (fun _=>h3) (fun k=>M-k) ?_ ?_ ?_ ?_
 ·exact Nat.zero_le _
 ·simp [Ent,List.lookup]
 ·exact Za.refl _ _
 intro k k1;obtain⟨y1,y2,y3⟩:=Zbd ti.be.p hld k qf;by_cases c1:k<M
 ·obtain⟨d,hdd⟩:∃d,d=gr ZT (lvD s t) k:=⟨_,rfl⟩
  have hx:=hld d (by rw[hdd];exact Yp qf);obtain⟨z1,z2,z3⟩:=Zbd ti.be.p hld (k+1) qf;have eK:dpK (lvD s t) s.ag (k+1)=(dpK (lvD s t) s.ag k).set d.au.toNat (at0 (dpK (lvD s t) s.ag k) d.au.toNat+d.amt):=by rw[dpK,<- hdd]
  have hroom:at0 (dpK (lvD s t) s.ag k) d.au.toNat+d.amt<=4611686018427387904:=by
   have b1:=Yj z2 d.au.toNat;rw[eK,Wz _ _ _ _ qf,if_pos rfl,<- eK,z3]at b1;have b2:=(Zhk (l:=(lvD s t).map Zh.amt) (fun i=>W9 Zh.amt _ (fun x hx=>(hld x hx).2.2) i) (k:=k+1) qI).2;have b3:tot ((lvD s t).map Zh.amt)=Y9 (lvD s t):=rfl;omega
  have hpos:=y2 d.au.toNat;obtain⟨PK',hPK⟩:∃PK',PK'=dpK (lvD s t) s.ag k:=⟨_,rfl⟩
  rw[<- hPK]at y1 eK hroom hpos ⊢;obtain⟨j,hj⟩:=Int.eq_ofNat_of_zero_le hx.1;have hjl:j<PK'.length:=qf;have hjt:d.au.toNat=j:=qf;rw[hjt]at eK hroom hpos;have gp:∀(K:Value->Prop) (t:Zm K),VE (PK'.map (.int .u64)) j K t=K (.int .u64 (at0 PK' j)):=fun K t=>Vd .u64 _ j K t hjl;have g0:∀(L:Own) (K:Value->Prop) (t:Zm K),Um L h3 (UI ya (k*3)) 0 K t=K (.int .i64 j):=fun L K t=>hrs.fld ZT (o:=0) qf (by rw[<- hdd,<- hj];rfl) L K t;have g2:∀(L:Own) (K:Value->Prop) (t:Zm K),Um L h3 (UI ya (k*3+2)) 0 K t=K (.int .u64 d.amt):=fun L K t=>hrs.fld ZT qf (by rw[<- hdd];rfl) L K t;refine xx ?_;refine Z4 (.tk 0 (.tk 1 (.tk 2 (.tk 4 (.tk 5 (.tk 6 (.tk 7 (.tk 9 (.tk 10 (.tk 11 (.tk 13 (.tk 14 (.tk 15 (.tk 16 (.tk 20 (.tk 21 (.tk 22 (.tk 23 (.tkl 3 (.tkl 8 (.tkl 12 (.tkl 17 (.tk 18 (.tkl 19 (.tkl 24 (.tk 25 (.tk 26 (.o2 27 (.fin) (.nil))))))))))))))))))))))))))))) qg qg _ (Za.refl _ _) ?_;simp -dsimp -implicitDefEqProofs (disch:=first|exact dD|fail) [go_sem,↓Us ZT qh hrs,g0,g2,gp];have hps:(PK'.map (Value.int .u64)).set j (.int .u64 (at0 PK' j+d.amt))=(PK'.set j (at0 PK' j+d.amt)).map (Value.int .u64):=zU;refine⟨qf,k+1,qf,qf,qi,?_⟩;rw[hps,eK];exact Za.refl _ _
 obtain rfl:M=k:=qf;have eS:lvS s t={ s with exit:=R,ae:=(lvX s t).1,ai:=(lvX s t).2.filter (Ut s.ep false),ag:=dpK (lvD s t) s.ag M }:=by rw[hM,hR];rfl
 have hk:=hk h3 (.slice da ((lvX s t).2.filter (Ut s.ep false)).length dc) (.slice ra R.length rc) (.slice wa N wc) (le1.trans (le2.trans le3)) (by rw[eS];exact j30) (by rw[eS];exact ix0.up (le2.trans le3)) (iw0.up (le2.trans le3));rw[eS]at hk;refine xx ?_;exact ZP hk
theorem Znw {bb br bp cp pn:Nat}{r:Zi}{q:RV}{om oe:Option (Nat×Nat)}{s:Zg}{v:SV}{d:Zk}{ex:List Int}{T:Int}(ok:Zj s.par)(hpn:pn<=64)(cr:ZF ex ⟨s.ae,s.ag,s.entry⟩ pn T)(hT:T+d.amt<=4611686018427387904)(hda:0<=d.amt)(hac:0<=d.au/\d.au<pn)(hmem:d.new=true\/(0<=d.mem/\d.mem<s.ae.length))(hpv:v.p = .slice (some ⟨bp,0,none⟩) s.ag.length cp)(hm:v.m=ovs om s.ae.length)(okm:okO om s.ae.length)(he:v.e=ovs oe s.entry.length)(oke:okO oe s.entry.length)
    (hk:∀om' oe',okO om' (YM s.par d ⟨s.ae,s.ag,s.entry⟩).ms.length->okO oe' (YM s.par d ⟨s.ae,s.ag,s.entry⟩).en.length ->
      K (.tuple #[]) (dB bb { s with ae:=(YM s.par d ⟨s.ae,s.ag,s.entry⟩).ms,ag:=(YM s.par d ⟨s.ae,s.ag,s.entry⟩).ps,entry:=(YM s.par d ⟨s.ae,s.ag,s.entry⟩).en } { v with m:=ovs om' (YM s.par d ⟨s.ae,s.ag,s.entry⟩).ms.length,e:=ovs oe' (YM s.par d ⟨s.ae,s.ag,s.entry⟩).en.length }::dR br r q::dP bp cp (YM s.par d ⟨s.ae,s.ag,s.entry⟩).ps::dMo om' (YM s.par d ⟨s.ae,s.ag,s.entry⟩).ms (oent 3 1 oe' ((YM s.par d ⟨s.ae,s.ag,s.entry⟩).en.map (.int .i64)) L)) h) :
    Zb prog 245 [.pointer (some ⟨bb,0,none⟩),Yvu d] (dB bb s v::dR br r q::dP bp cp s.ag::dMo om s.ae (oent 3 1 oe (s.entry.map (.int .i64)) L)) h K:=by
  obtain⟨vp,vm,ve,vx,vo,vd,vt,vk,vr⟩:=v;simp only at hpv hm he hk ⊢;subst hpv hm he;have crl:=cr.l1;have crp:=cr.l2;have crn:=WR cr.e;have crt:=cr.t;have crb:=cr.b.bal;have crq:=cr.b.pur;simp only at crl crp crn crt crb crq;have crs:=Zcq ok (p:=s.par) qf cr hda hac hmem;obtain⟨X,hX⟩:∃X,X=YM s.par d ⟨s.ae,s.ag,s.entry⟩:=⟨_,rfl⟩
  rw[<- hX]at crs hk;have xt:=crs.t;have xb:=crs.b.bal;have xp:=(crs.b.le d.au.toNat).2;obtain⟨J,hJ⟩:=Int.eq_ofNat_of_zero_le hac.1;have hJl:J<s.ag.length:=qf;have hJt:d.au.toNat=J:=qf;have hpos:=cr.b.p J;simp only at hpos;have gp:∀(K:Value->Prop) (t:Zm K),VE (s.ag.map (.int .u64)) J K t=K (.int .u64 (at0 s.ag J)):=fun K t=>Vd .u64 _ J K t hJl;refine eG func245 fun ap nd=>?_;have hbb:h bb=noC:=ap.1;have hby:h br=noC:=ap.2.1;have hbp:h bp=noC:=ap.2.2.1;have hom:apO om [] h:=Yk ap.2.2.2;have npb:NeB bb bp:=Ne.symm nd.1.2.1;have nrb:NeB bb br:=Ne.symm nd.1.1;have nrp:NeB br bp:=Ne.symm nd.2.1.1;have nmr:apB om br:=Z3 nd.2.1.2;have nmb:apB om bb:=Z3 nd.1.2.2;have nmp:apB om bp:=Z3 nd.2.2.1;clear ap nd;refine xx ?_;refine ZY fun b3 nb3 zb3=>?_;(try simp only[ZS]at nb3);have n3b:NeB b3 bb:=Ne.symm nb3.1;have n3p:NeB b3 bp:=Ne.symm nb3.2.2.1;have n3r:NeB b3 br:=Ne.symm nb3.2.1;have nm3:apB om b3:=Z3 nb3.2.2.2;clear nb3;refine xx ?_
  cases hnew:d.new with
  | true =>
    have eX:X=if 128<=s.ae.length then ⟨s.ae,s.ag.set d.au.toNat (at0 s.ag d.au.toNat+d.amt),s.entry⟩ else Zln s.par s.ae.length d.amt d.au ⟨s.ae++[⟨0,0,0,0,d.au,4⟩],s.ag,s.entry⟩:=by rw[hX,YM,hnew,if_pos rfl]
    obtain⟨ma,mc,em,_⟩:=Z5 okm;by_cases c1:128<=s.ae.length
    · rw[if_pos c1]at eX;rw[eX]at hk xp xt;simp only at hk xp xt;rw[hJt]at xp xt;rw[Wz _ _ _ _ qf,if_pos rfl]at xp;have b0:=cr.b.bal;simp only at b0;refine lM ?_;rw[<- em];refine Z4 (.tk 0 (.tk 1 (.tk 2 (.tk 4 (.tk 6 (.tk 7 (.tk 8 (.tk 10 (.tk 14 (.tkl 3 (.tkl 5 (.tkl 9 (.tkl 11 (.tk 12 (.tkl 13 (.tkl 15 (.tk 16 (.tk 17 (.o2 18 (.fin) (.nil)))))))))))))))))))) qg qg _ (Za.refl _ _) ?_;refine dh ?_;have hps:(s.ag.map (Value.int .u64)).set J (.int .u64 (at0 s.ag J+d.amt))=(s.ag.set J (at0 s.ag J+d.amt)).map (Value.int .u64):=zU;rw[hJt]at hk;refine⟨qf,?_⟩;rw[hps];exact ZO (ZP (hk om oe okm oke))
    rw[if_neg c1]at eX;refine lM ?_;rw[<- em];refine YN (.tk 0 (.tk 1 (.tk 2 (.tk 3 (.tk 5 (.tkl 4 (.tkl 6 (.tk 7 (.o1 8 (.o1 9 (.tk 10 (.tk 11 (.o2 12 (.fin) (.nil)))) (.nil)) (.nil)))))))))) qg qg [(0,.pointer (some ⟨bb,0,none⟩)),(3,.pointer (some ⟨b3,0,none⟩)),(4,.int .i64 s.ae.length)] [_,_] (γ:=Option (Nat×Nat)) (fun om'=>okO om' (s.ae.length+1)/\apO om' [] h/\apB om' bb/\apB om' b3/\apB om' bp/\apB om' br) (fun _=>[(0,.pointer (some ⟨bb,0,none⟩)),(3,.pointer (some ⟨b3,0,none⟩)),(4,.int .i64 s.ae.length)])
      (fun om'=>⟨b3,233,[.int .i64 d.au,.int .i64 d.mem,.int .u64 d.amt,.bool true],4⟩::dB bb s ⟨.slice (some ⟨bp,0,none⟩) s.ag.length cp,ovs om' (s.ae.length+1),ovs oe s.entry.length,vx,vo,vd,vt,vk,vr⟩::dR br r q::dP bp cp s.ag::dMo om' (s.ae++[⟨0,0,0,0,d.au,4⟩]) (oent 3 1 oe (s.entry.map (.int .i64)) L)) (fun _=>h) qx drop2Z ?_ ?_
    · refine xx ?_;refine ZY fun b40 nb40 zb40=>?_;(try simp only[ZS]at nb40);refine xkp ((Za.tail _ _ _).trans drop2Z) ?_;refine xx ?_;refine ZZ (t:=40) (e:=124) (sz:=6) (bytes:=48) qg Zpr rfl rfl rfl rfl qh [_,_,_,_,_] _ om s.ae.length (s.ae.flatMap YD) okm (Z1 Z8 _) (Src.own (b:=b40) (t:=124) (cap:=6) List.mem_cons_self) (m:=1) (news:=YD ⟨0,0,0,0,d.au,4⟩) rfl (Zbs _) qm qf ?_;intro om' j1 j2 j3;simp only[List.cons_append,List.nil_append]at j2 ⊢;refine xkp ((Za.tail _ _ _).trans drop2Z) ?_;refine xx ?_;refine⟨om',⟨j1,?_,?_,?_,?_,?_⟩,qi,?_⟩
      · cases om' with
        | none=>trivial
        | some p=>exact⟨trivial,j2.2⟩
      · cases om' with
        | none=>trivial
        | some p=>exact Ne.symm j2.1.2.2.1
      · cases om' with
        | none=>trivial
        | some p=>exact Ne.symm j2.1.2.1
      · cases om' with
        | none=>trivial
        | some p=>exact Ne.symm j2.1.2.2.2.2.1
      · cases om' with
        | none=>trivial
        | some p=>exact Ne.symm j2.1.2.2.2.1
      · simp only[dMo,List.flatMap_append,List.flatMap_cons,List.flatMap_nil,List.append_nil];exact Za.tail _ _ _
    rintro om' ⟨okm',hom',nmb',nm3',nmp',nmr'⟩;clear hom nmb nm3 nmp nmr em;obtain⟨bm,cm,rfl⟩:∃bm cm,om'=some (bm,cm):=by
      cases om' with
      | none=>have:s.ae.length+1=0:=okm';omega
      | some p=>exact⟨_,_,rfl⟩
    obtain⟨MS,hMS⟩:∃MS,MS=s.ae++[(⟨0,0,0,0,d.au,4⟩:Zc)]:=⟨_,rfl⟩
    obtain⟨I,hI⟩:∃I,I=s.ae.length:=⟨_,rfl⟩
    have hIl:I<MS.length:=by rw[hMS,List.length_append,hI];simp
    have eMl:s.ae.length+1=MS.length:=by rw[hMS,List.length_append];rfl
    rw[<- hMS,<- hI]at eX;rw[<- hMS];rw[eMl]at okm' ⊢;rw[<- hI];have hMo:∀x∈MS,Zf x:=fun y hy=>by
      rw[hMS]at hy;rcases List.mem_append.1 hy with hy|hy
      · exact cr.b.m y hy
      · rw[List.mem_singleton]at hy;subst hy
        exact⟨fun z hz=>by simp at hz;omega,fun z hz=>by
          simp only[List.mem_cons,List.not_mem_nil,or_false]at hz
          rcases hz with rfl|rfl|rfl<;>omega⟩
    have hMt:tot (MS.map Zc.bal)=tot (s.ae.map Zc.bal):=by
      rw[hMS];simp only[List.map_append,List.map_cons,List.map_nil,UF,Wv,Zaf];omega
    have hMl:MS.length<=128:=by rw[<- eMl];omega
    have hbm:h bm=noC:=hom'.2;clear hmem;have e1:NeB bb bm:=Ne.symm nmb';have e2:NeB b3 bm:=Ne.symm nm3';have e3:NeB bp bm:=Ne.symm nmp';have e4:NeB br bm:=Ne.symm nmr';clear nm3' nmb' nmp' nmr' hom';obtain⟨m,hmm⟩:∃m,m=gr ZQ MS I:=⟨_,rfl⟩
    have mo:Zf m:=hMo m wu;have ub:=mo.u m.bal qj;have hbt:=Yj (WA hMo) I;rw[WI hIl,<- hmm]at hbt;obtain⟨g1',g2',g3',g4',g5',g6'⟩:=GU ok mo hda;rw[Zht hmm]at eX;rw[eX]at hk xp xt xb;simp only at hk xp xt xb;rw[hJt]at xp xt;rw[Wz _ _ _ _ qf,if_pos rfl]at xp;have hg:=Zah hIl;rw[<- hmm]at hg;obtain⟨g0,g1,g2,g3,g4,g5⟩:=hg;have hi6:=YC (w:=6) hIl (show 5<6 from qh);have hsm:=Zbl (ms:=MS) rfl;simp only[dMo,Z7,Yl];refine lN ?_;obtain⟨M,hM⟩:∃M,M=Ur s.par m d.amt:=⟨_,rfl⟩
    obtain⟨Z,hZ⟩:∃Z,Z=d.amt-YS s.par m d.amt:=⟨_,rfl⟩
    rw[<- hM]at hk xt xb g6';rw[<- hZ,hJt]at hk;rw[<- hZ]at xp xt;refine YN (.tk 0 (.tk 1 (.tk 2 (.tk 4 (.tk 5 (.tk 6 (.tk 8 (.tk 11 (.tkl 3 (.tkl 7 (.tk 9 (.tkl 10 (.tkl 12 (.o1 13 (.tk 14 (.tk 15 (.tk 16 (.o1 17 (.o2 18 (.tk 19 (.fin)) (.nil)) (.nil))))) (.o1 17 (.o1 13 (.tk 14 (.tk 15 (.tk 16 (.o2 18 (.tk 19 (.fin)) (.nil))))) (.nil)) (.nil)))))))))))))))) qg qg [(0,.pointer (some ⟨bb,0,none⟩)),(3,.pointer (some ⟨b3,0,none⟩)),(4,.int .i64 I),(5,.bool (decide (m.status=1)))] _ (γ:=Nat) (fun b6=>bb≠b6/\bp≠b6/\bm≠b6/\b3≠b6/\br≠b6/\h b6=noC)
      (fun b6=>[(0,.pointer (some ⟨bb,0,none⟩)),(3,.pointer (some ⟨b3,0,none⟩)),(4,.int .i64 I),(5,.bool (decide (m.status=1))),(6,.pointer (some ⟨b6,0,none⟩)),(7,.int .u64 Z)])
      (fun b6=>⟨b6,124,YD M,6⟩::⟨b3,233,[.int .i64 d.au,.int .i64 d.mem,.int .u64 d.amt,.bool true],4⟩::dB bb s ⟨.slice (some ⟨bp,0,none⟩) s.ag.length cp,.slice (some ⟨bm,0,none⟩) MS.length cm,ovs oe s.entry.length,vx,vo,vd,vt,vk,vr⟩::dR br r q::dP bp cp s.ag::dM bm cm MS::oent 3 1 oe (s.entry.map (.int .i64)) L) (fun _=>h) qx (Za.refl _ _) ?_ ?_
    · repeat' first
        | with_reducible refine Yf ?_ ?_
        | simp -dsimp -implicitDefEqProofs (disch:=first|exact dD|fail) [go_sem,g0,g1,g2,g3,g4,g5]
        | (with_reducible refine ZY fun b6 nb6 zb6 => ?_
           simp only[ZS]at nb6)
        | (with_reducible show WW prog 334 _ _ _ _
           refine Zfx s.par ok m mo d.amt ⟨hda,qf⟩ qf ?_
           rw[<- hM,<- hZ])
        | with_reducible refine xkp (Za.refl _ _) ?_
        | with_reducible refine xkp (Za.tail _ _ _) ?_
        | fail
      all_goals exact⟨b6,⟨nb6.2.1,nb6.2.2.2.1,nb6.2.2.2.2.1,nb6.1,nb6.2.2.1,zb6⟩,qi,Za.refl _ _⟩
    rintro b6 ⟨n6b,n6p,n6m,n63,n6r,h6⟩;have f4:NeB b6 bb:=Ne.symm n6b;have f5:NeB b6 bm:=Ne.symm n6m;have f6:NeB b6 b3:=Ne.symm n63;have f7:NeB b6 bp:=Ne.symm n6p;have f9:NeB b6 br:=Ne.symm n6r;clear n6b n6m n63 n6p n6r;have hset:=Yoh MS I hIl M;simp only[YD];refine xx ?_;refine Z4 (.tk 0 (.tk 1 (.tk 2 (.tk 4 (.tkl 3 (.tkl 5 (.tk 6 (.o2 7 (.fin) (.nil))))))))) qg qg _ (Za.refl _ _) ?_;refine xx ?_;refine⟨qf,?_⟩;rw[hset];refine Z4 (.tk 0 (.tk 1 (.tk 2 (.tk 4 (.tk 6 (.tk 7 (.tk 8 (.tk 10 (.tk 14 (.tkl 3 (.tkl 5 (.tkl 9 (.tkl 11 (.tk 12 (.tkl 13 (.tk 15 (.tk 16 (.o2 17 (.fin) (.nil))))))))))))))))))) qg qg _ (Za.refl _ _) ?_;refine dh ?_;have hps:(s.ag.map (Value.int .u64)).set J (.int .u64 (at0 s.ag J+Z))=(s.ag.set J (at0 s.ag J+Z)).map (Value.int .u64):=zU;refine⟨qf,?_⟩;rw[hps];have hMl2:(MS.set I M).length=MS.length:=List.length_set;by_cases c2:M.status=m.status
    · rw[if_pos c2]at hk;have hk:=hk (some (bm,cm)) oe qZ oke;rw[hMl2]at hk;by_cases c3:m.status=1
      · have c4:M.status=1:=c2.trans c3;refine di ?_;exact ZO (ZO (ZP zV))
      · have c4:¬M.status=1:=fun e=>c3 (c2.symm.trans e);refine di ?_;exact ZO (ZO (ZP zV))
    · rw[if_neg c2]at hk;have c4:M.status=1:=by
        rcases g6' with c|c
        · exact absurd c c2
        · exact c.2
      have c3:¬m.status=1:=fun e=>c2 (c4.trans e.symm);refine di ?_;refine ZY fun b98 nb98 zb98=>?_;(try simp only[ZS]at nb98);have f8:NeB b98 bb:=Ne.symm nb98.2.2.1;clear nb98;refine xx ?_;refine ZZ (t:=27) (e:=3) (sz:=1) (bytes:=8) (z:=[.int .i64 0]) qg V6 rfl rfl rfl rfl qh [_,_,_,_,_,_,_] _ oe s.entry.length (s.entry.map (.int .i64)) oke qj (Src.own (b:=b98) (t:=3) (cap:=1) List.mem_cons_self) (m:=1) (news:=[.int .i64 I]) rfl (fun u hu=>qw) qm qf ?_;intro oe' j1 j2 j3;simp only[List.cons_append,List.nil_append];refine xx ?_;have hk:=hk (some (bm,cm)) oe' qZ zf;rw[hMl2]at hk;simp only[List.map_append,List.map_cons,List.map_nil,List.length_append,List.length_singleton]at hk;exact ZO (ZO (ZO (ZP zV)))
  | false =>
    have hme:0<=d.mem/\d.mem<s.ae.length:=by
      rcases hmem with c|c
      · rw[hnew]at c;cases c
      · exact c
    obtain⟨I,hI⟩:=Int.eq_ofNat_of_zero_le hme.1;have eX:X=Zln s.par I d.amt d.au ⟨s.ae,s.ag,s.entry⟩:=by rw[hX,YM,hnew,if_neg qh,hI,Int.toNat_natCast]
    obtain⟨bm,cm,rfl⟩:∃bm cm,om=some (bm,cm):=by
      cases om with
      | none=>have:s.ae.length=0:=okm;omega
      | some p=>exact⟨_,_,rfl⟩
    have okm':=okm;have hbm:h bm=noC:=hom.2;have e1:NeB bb bm:=Ne.symm nmb;have e2:NeB b3 bm:=Ne.symm nm3;have e3:NeB bp bm:=Ne.symm nmp;have e4:NeB br bm:=Ne.symm nmr;clear hom nmb nm3 nmp nmr;obtain⟨MS,hMS⟩:∃MS,MS=s.ae:=⟨_,rfl⟩
    have hIl:I<MS.length:=by rw[hMS];omega
    rw[<- hMS]at eX okm';rw[<- hMS];have hMo:∀x∈MS,Zf x:=fun y hy=>cr.b.m y (by rw[hMS]at hy;exact hy);have hMt:tot (MS.map Zc.bal)=tot (s.ae.map Zc.bal):=by rw[hMS]
    have hMl:MS.length<=128:=by rw[hMS];omega
    rw[hI];refine xx ?_;obtain⟨m,hmm⟩:∃m,m=gr ZQ MS I:=⟨_,rfl⟩
    have mo:Zf m:=hMo m wu;have ub:=mo.u m.bal qj;have hbt:=Yj (WA hMo) I;rw[WI hIl,<- hmm]at hbt;obtain⟨g1',g2',g3',g4',g5',g6'⟩:=GU ok mo hda;rw[Zht hmm]at eX;rw[eX]at hk xp xt xb;simp only at hk xp xt xb;rw[hJt]at xp xt;rw[Wz _ _ _ _ qf,if_pos rfl]at xp;have hg:=Zah hIl;rw[<- hmm]at hg;obtain⟨g0,g1,g2,g3,g4,g5⟩:=hg;have hi6:=YC (w:=6) hIl (show 5<6 from qh);have hsm:=Zbl (ms:=MS) rfl;simp only[dMo,Z7,Yl];refine lN ?_;obtain⟨M,hM⟩:∃M,M=Ur s.par m d.amt:=⟨_,rfl⟩
    obtain⟨Z,hZ⟩:∃Z,Z=d.amt-YS s.par m d.amt:=⟨_,rfl⟩
    rw[<- hM]at hk xt xb g6';rw[<- hZ,hJt]at hk;rw[<- hZ]at xp xt;refine YN (.tk 0 (.tk 1 (.tk 2 (.tk 4 (.tk 5 (.tk 6 (.tk 8 (.tk 11 (.tkl 3 (.tkl 7 (.tk 9 (.tkl 10 (.tkl 12 (.o1 13 (.tk 14 (.tk 15 (.tk 16 (.o1 17 (.o2 18 (.tk 19 (.fin)) (.nil)) (.nil))))) (.o1 17 (.o1 13 (.tk 14 (.tk 15 (.tk 16 (.o2 18 (.tk 19 (.fin)) (.nil))))) (.nil)) (.nil)))))))))))))))) qg qg [(0,.pointer (some ⟨bb,0,none⟩)),(3,.pointer (some ⟨b3,0,none⟩)),(4,.int .i64 I),(5,.bool (decide (m.status=1)))] _ (γ:=Nat) (fun b6=>bb≠b6/\bp≠b6/\bm≠b6/\b3≠b6/\br≠b6/\h b6=noC)
      (fun b6=>[(0,.pointer (some ⟨bb,0,none⟩)),(3,.pointer (some ⟨b3,0,none⟩)),(4,.int .i64 I),(5,.bool (decide (m.status=1))),(6,.pointer (some ⟨b6,0,none⟩)),(7,.int .u64 Z)])
      (fun b6=>⟨b6,124,YD M,6⟩::⟨b3,233,[.int .i64 d.au,.int .i64 I,.int .u64 d.amt,.bool false],4⟩::dB bb s ⟨.slice (some ⟨bp,0,none⟩) s.ag.length cp,.slice (some ⟨bm,0,none⟩) MS.length cm,ovs oe s.entry.length,vx,vo,vd,vt,vk,vr⟩::dR br r q::dP bp cp s.ag::dM bm cm MS::oent 3 1 oe (s.entry.map (.int .i64)) L) (fun _=>h) qx (Za.refl _ _) ?_ ?_
    · repeat' first
        | with_reducible refine Yf ?_ ?_
        | simp -dsimp -implicitDefEqProofs (disch:=first|exact dD|fail) [go_sem,g0,g1,g2,g3,g4,g5]
        | (with_reducible refine ZY fun b6 nb6 zb6 => ?_
           simp only[ZS]at nb6)
        | (with_reducible show WW prog 334 _ _ _ _
           refine Zfx s.par ok m mo d.amt ⟨hda,qf⟩ qf ?_
           rw[<- hM,<- hZ])
        | with_reducible refine xkp (Za.refl _ _) ?_
        | with_reducible refine xkp (Za.tail _ _ _) ?_
        | fail
      all_goals exact⟨b6,⟨nb6.2.1,nb6.2.2.2.1,nb6.2.2.2.2.1,nb6.1,nb6.2.2.1,zb6⟩,qi,Za.refl _ _⟩
    rintro b6 ⟨n6b,n6p,n6m,n63,n6r,h6⟩;have f4:NeB b6 bb:=Ne.symm n6b;have f5:NeB b6 bm:=Ne.symm n6m;have f6:NeB b6 b3:=Ne.symm n63;have f7:NeB b6 bp:=Ne.symm n6p;have f9:NeB b6 br:=Ne.symm n6r;clear n6b n6m n63 n6p n6r;have hset:=Yoh MS I hIl M;simp only[YD];refine xx ?_;refine Z4 (.tk 0 (.tk 1 (.tk 2 (.tk 4 (.tkl 3 (.tkl 5 (.tk 6 (.o2 7 (.fin) (.nil))))))))) qg qg _ (Za.refl _ _) ?_;refine xx ?_;refine⟨qf,?_⟩;rw[hset];refine Z4 (.tk 0 (.tk 1 (.tk 2 (.tk 4 (.tk 6 (.tk 7 (.tk 8 (.tk 10 (.tk 14 (.tkl 3 (.tkl 5 (.tkl 9 (.tkl 11 (.tk 12 (.tkl 13 (.tk 15 (.tk 16 (.o2 17 (.fin) (.nil))))))))))))))))))) qg qg _ (Za.refl _ _) ?_;refine dh ?_;have hps:(s.ag.map (Value.int .u64)).set J (.int .u64 (at0 s.ag J+Z))=(s.ag.set J (at0 s.ag J+Z)).map (Value.int .u64):=zU;refine⟨qf,?_⟩;rw[hps];have hMl2:(MS.set I M).length=MS.length:=List.length_set;by_cases c2:M.status=m.status
    · rw[if_pos c2]at hk;have hk:=hk (some (bm,cm)) oe qZ oke;rw[hMl2]at hk;by_cases c3:m.status=1
      · have c4:M.status=1:=c2.trans c3;refine di ?_;exact ZO (ZO (ZP zV))
      · have c4:¬M.status=1:=fun e=>c3 (c2.symm.trans e);refine di ?_;exact ZO (ZO (ZP zV))
    · rw[if_neg c2]at hk;have c4:M.status=1:=by
        rcases g6' with c|c
        · exact absurd c c2
        · exact c.2
      have c3:¬m.status=1:=fun e=>c2 (c4.trans e.symm);refine di ?_;refine ZY fun b98 nb98 zb98=>?_;(try simp only[ZS]at nb98);have f8:NeB b98 bb:=Ne.symm nb98.2.2.1;clear nb98;refine xx ?_;refine ZZ (t:=27) (e:=3) (sz:=1) (bytes:=8) (z:=[.int .i64 0]) qg V6 rfl rfl rfl rfl qh [_,_,_,_,_,_,_] _ oe s.entry.length (s.entry.map (.int .i64)) oke qj (Src.own (b:=b98) (t:=3) (cap:=1) List.mem_cons_self) (m:=1) (news:=[.int .i64 I]) rfl (fun u hu=>qw) qm qf ?_;intro oe' j1 j2 j3;simp only[List.cons_append,List.nil_append];refine xx ?_;have hk:=hk (some (bm,cm)) oe' qZ zf;rw[hMl2]at hk;simp only[List.map_append,List.map_cons,List.map_nil,List.length_append,List.length_singleton]at hk;exact ZO (ZO (ZO (ZP zV)))
section
variable {e0 s0 e1 s1:Nat} {o0 o1:Option (Nat×Nat)} {X0 X1:List Value} {a b c d x y z:Zn}
theorem permD5:(z::a::b::c::d::oent e0 s0 o0 X0 L).Perm (a::d::b::oent e0 s0 o0 X0 (z::c::L)):=by
 have h1:(z::a::b::c::d::oent e0 s0 o0 X0 L).Perm (a::z::b::c::d::oent e0 s0 o0 X0 L):=List.Perm.swap _ _ _;have h2:(z::b::c::d::oent e0 s0 o0 X0 L).Perm (d::z::b::c::oent e0 s0 o0 X0 L):=List.perm_middle (l₁:=[z,b,c]);have h3:(z::b::c::oent e0 s0 o0 X0 L).Perm (b::z::c::oent e0 s0 o0 X0 L):=List.Perm.swap _ _ _;have h4:(z::c::oent e0 s0 o0 X0 L).Perm (oent e0 s0 o0 X0 (z::c::L)):=Z6 [z,c];exact h1.trans ((h2.trans ((h3.trans (h4.cons b)).cons d)).cons a)
end
theorem permD9 {e0 s0 e1 s1:Nat}{o0 o1:Option (Nat×Nat)}{X0 X1:List Value}{a b c d x y:Zn}:(x::y::a::b::c::d::oent e0 s0 o0 X0 (oent e1 s1 o1 X1 L)).Perm (x::y::a::b::c::d::oent e1 s1 o1 X1 (oent e0 s0 o0 X0 L)):=((((((Yq o0 o1 X0 X1 L).cons d).cons c).cons b).cons a).cons y).cons x
theorem Zzj {bb br bp cp bm cm:Nat}{z:Zn}{oo:Option (Nat×Nat)}{s:Zg}{v:SV}{r:Zi}{q:RV}(hm:v.m = .slice (some ⟨bm,0,none⟩) s.ae.length cm)(hml:s.ae.length<=900)(mo:∀x∈s.ae,Zf x)(hd:Zd Yh 3 h v.d s.ai)(hdo:∀x∈s.ai,Zs x)(hl:s.ai.length<=32000)(i:Nat)(hi:i<s.ae.length)
  (how:0<=(gr ZQ s.ae i).owner/\(gr ZQ s.ae i).owner<=63) (t:Int) (ht:0<=t/\t<=9223372036854775807) (hs:Y9 s.ai+(gr ZQ s.ae i).bal<=4611686018427387904)
  (hx:Ints h .i64 v.x s.exit) (hxl:s.exit.length<=900) (ho:q.o=ovs oo r.out.length) (oko:okO oo r.out.length) (hol:r.out.length<=900)
  (hk:∀h' r' x' oo',PH.le h h'->Zd Yh 3 h' r' (Yct s t i).ai->Ints h' .i64 x' (Yct s t i).exit->okO oo' (r.out.length+1)->K (.tuple #[]) (z::dB bb (Yct s t i) { v with d:=r',x:=x' }::dR br { r with out:=r.out++[(i:Int)] } { q with o:=ovs oo' (r.out.length+1) }::dP bp cp s.ag::dM bm cm (Yct s t i).ae::oent 3 1 oo' ((r.out++[(i:Int)]).map (.int .i64)) L) h') :
  Zb prog 241 [.pointer (some ⟨bb,0,none⟩),.pointer (some ⟨br,0,none⟩),.int .i64 i,.int .i64 t] (z::dB bb s v::dR br r q::dP bp cp s.ag::dM bm cm s.ae::oent 3 1 oo (r.out.map (.int .i64)) L) h K :=
 Zb.fin (Zb.weaken (Za.perm _ permD5) (Zqn hm hml mo hd hdo hl i hi how t ht hs hx hxl ho oko hol fun h' r' x' oo' le i1 i2 ok=>⟨_,_,Za.perm _ permD5.symm,hk h' r' x' oo' le i1 i2 ok⟩))
structure CrH where
 k:Nat
 om:Option (Nat×Nat)
 oe:Option (Nat×Nat)
structure StH where
 k:Nat
 h:PH
 d:Value
 x:Value
 oo:Option (Nat×Nat)
 os:Option (Nat×Nat)
theorem Zte {bb br bp cp D:Nat}{om oe os oo:Option (Nat×Nat)}{s:Zg}{v:SV}{r:Zi}{q:RV}(ti:Zq s D)(hD:D<=30000)(t0:Int)(ht0:0<=t0/\t0<=9223372036854775807)(hol:r.out.length<=700)(hsl:r.started.length<=700)(hpv:v.p = .slice (some ⟨bp,0,none⟩) s.ag.length cp)(hd:Zd Yh 3 h v.d s.ai)(hpo:Zd UK 4 h v.o s.aj)
    (hm:v.m=ovs om s.ae.length) (okm:okO om s.ae.length) (he:v.e=ovs oe s.entry.length) (oke:okO oe s.entry.length) (hx:Ints h .i64 v.x s.exit) (ho:q.o=ovs oo r.out.length) (oko:okO oo r.out.length) (hs:q.s=ovs os r.started.length) (oks:okO os r.started.length)
    (hk:∀h' dv xv ov ev om' oo' os',PH.le h h'->Zd Yh 3 h' dv (enS s r (min t0 2147483647)).ai->Ints h' .i64 xv (enS s r (min t0 2147483647)).exit->Zd UK 4 h' ov (enS s r (min t0 2147483647)).aj->Ints h' .i64 ev (enS s r (min t0 2147483647)).entry ->
      okO om' (enS s r (min t0 2147483647)).ae.length->okO oo' (enR s r (min t0 2147483647)).out.length->okO os' (enR s r (min t0 2147483647)).started.length ->
      K (.tuple #[]) (dB bb (enS s r (min t0 2147483647)) { v with d:=dv,x:=xv,o:=ov,e:=ev,m:=ovs om' (enS s r (min t0 2147483647)).ae.length }::dR br (enR s r (min t0 2147483647)) { q with o:=ovs oo' (enR s r (min t0 2147483647)).out.length,s:=ovs os' (enR s r (min t0 2147483647)).started.length }::dP bp cp (enS s r (min t0 2147483647)).ag::dMo om' (enS s r (min t0 2147483647)).ae (oent 3 1 oo' ((enR s r (min t0 2147483647)).out.map (.int .i64)) (oent 3 1 os' ((enR s r (min t0 2147483647)).started.map (.int .i64)) L))) h') :
    Zb prog 112 [.pointer (some ⟨bb,0,none⟩),.pointer (some ⟨br,0,none⟩),.int .i64 t0] (dB bb s v::dR br r q::dP bp cp s.ag::dMo om s.ae (oent 3 1 oe (s.entry.map (.int .i64)) (oent 3 1 oo (r.out.map (.int .i64)) (oent 3 1 os (r.started.map (.int .i64)) L)))) h K:=by
  obtain⟨vp,vm,ve,vx,vo,vd,vt,vk,vr⟩:=v;obtain⟨qo,ql,qs,qd⟩:=q;simp only at hpv hm hd hpo he hx ho hs hk ⊢;subst hpv hm he ho hs;obtain⟨t,hte⟩:∃t,t=min t0 2147483647:=⟨_,rfl⟩
  rw[<- hte]at hk;have hep:=ti.ep;have htb:0<=t/\t<=2147483647:=qf;have hml:=ti.ml;have hpl:=ti.pl;have hdn:=ti.dn;have hon:=ti.on;have hen:=WR ti.en;have hpc:=Yc ti.r;have hsum:=ti.sum;obtain⟨p1,p2,p3,p4,p5,p6⟩:=ti.parts;refine eG func112 fun ap nd=>?_;have hbb:h bb=noC:=ap.1;have hbr:h br=noC:=ap.2.1;have hbp:h bp=noC:=ap.2.2.1;have nrb:NeB bb br:=Ne.symm nd.1.1;have npb:NeB bb bp:=Ne.symm nd.1.2.1;have npr:NeB br bp:=Ne.symm nd.2.1.1;have aoe:apO oe [] h:=Yk (Ap.oent ap.2.2.2);clear ap nd;refine xx ?_;refine xif (fun hq=>?_) (fun hq=>?_)
  rotate_left
  · have hq':r.quo=false:=by simpa using hq
    have eS:enS s r t=s:=by unfold enS;rw[hq'];rfl
    have eR:enR s r t=r:=by unfold enR;rw[hq'];rfl
    rw[eS,eR]at hk;have lx:=YL aoe (s.entry.map (.int .i64));have sx:=WE (h:=h) (sz:=1) (n:=s.entry.length) (o:=oe) (xs:=s.entry.map (.int .i64)) oke qj qf;have ix:=Uh ti.en hml sx;have hk:=hk _ vd vx vo _ om oo os lx (hd.up lx) (hx.up lx) (hpo.up lx) ix okm oko oks;refine xx ?_;exact⟨_,_,(Za.perm h Zqh).trans (YG oe _ _ h qh),hk⟩
  have hq':r.quo=true:=by simpa using hq
  have eS:enS s r t={ s with aj:=[],ae:=(enY s r t).ms,ag:=(enX s).ps,entry:=(enX s).en.drop s.par.aK.toNat,ai:=(enY s r t).ds,exit:=(enY s r t).ex }:=by unfold enS;rw[hq'];rfl
  have eR:enR s r t={ r with out:=(enY s r t).out,started:=(enY s r t).go }:=by unfold enR;rw[hq'];rfl
  rw[eS,eR]at hk;simp only at hk;obtain⟨oa,oc,rfl,_,_,_,hos⟩:=hpo.open;refine xx ?_;obtain⟨N,hN⟩:∃N,N=s.aj.length:=⟨_,rfl⟩
  rw[<- hN];refine Yi (γ:=CrH) ⟨0,om,oe⟩ (fun y=>y.k<=N/\okO y.om (crK s.par s.aj ⟨s.ae,s.ag,s.entry⟩ y.k).ms.length/\okO y.oe (crK s.par s.aj ⟨s.ae,s.ag,s.entry⟩ y.k).en.length)
    (fun y=>[(6,.int .i64 y.k),(0,.pointer (some ⟨bb,0,none⟩)),(1,.pointer (some ⟨br,0,none⟩)),(2,.int .i64 t0)])
    (fun y=>dB bb { s with ae:=(crK s.par s.aj ⟨s.ae,s.ag,s.entry⟩ y.k).ms,ag:=(crK s.par s.aj ⟨s.ae,s.ag,s.entry⟩ y.k).ps,entry:=(crK s.par s.aj ⟨s.ae,s.ag,s.entry⟩ y.k).en } ⟨.slice (some ⟨bp,0,none⟩) s.ag.length cp,ovs y.om (crK s.par s.aj ⟨s.ae,s.ag,s.entry⟩ y.k).ms.length,ovs y.oe (crK s.par s.aj ⟨s.ae,s.ag,s.entry⟩ y.k).en.length,vx,.slice oa N oc,vd,vt,vk,vr⟩::dR br r ⟨ovs oo r.out.length,ql,ovs os r.started.length,qd⟩::dP bp cp (crK s.par s.aj ⟨s.ae,s.ag,s.entry⟩ y.k).ps::dMo y.om (crK s.par s.aj ⟨s.ae,s.ag,s.entry⟩ y.k).ms (oent 3 1 y.oe ((crK s.par s.aj ⟨s.ae,s.ag,s.entry⟩ y.k).en.map (.int .i64)) (oent 3 1 oo (r.out.map (.int .i64)) (oent 3 1 os (r.started.map (.int .i64)) L)))) (fun _=>h) (fun y=>N-y.k) ?_ ?_ ?_ ?_
  · exact⟨Nat.zero_le _,okm,oke⟩
  · simp [Ent,List.lookup,YT]
  · exact Za.refl _ _
  rintro⟨k,om1,oe1⟩ ⟨k1,okm1,oke1⟩;simp only at k1 okm1 oke1 ⊢;obtain⟨cr,crl⟩:=Yek ti (k:=k) qf;by_cases c1:k<N
  · obtain⟨d,hdd⟩:∃d,d=gr Yg s.aj k:=⟨_,rfl⟩
    have hdm:d∈s.aj:=by rw[hdd];exact Yp qf
    obtain⟨d1,d2,d3,d4⟩:=ti.oo d hdm;have hsk:=(Zhk (l:=s.aj.map Zk.amt) (fun i=>W9 Zk.amt s.aj (fun x hx=>(ti.oo x hx).1.a.1) i) (k:=k+1) qI).2;have esk:YE (s.aj.map Zk.amt) (k+1)=YE (s.aj.map Zk.amt) k+d.amt:=by
      rw[YE,hdd,Ye qf,<- Ys qI,List.getElem_map]
    have eK:crK s.par s.aj ⟨s.ae,s.ag,s.entry⟩ (k+1)=YM s.par d (crK s.par s.aj ⟨s.ae,s.ag,s.entry⟩ k):=by rw[crK,hdd]
    obtain⟨X,hX⟩:∃X,X=crK s.par s.aj ⟨s.ae,s.ag,s.entry⟩ k:=⟨_,rfl⟩
    rw[<- hX]at okm1 oke1 cr crl eK ⊢;simp -dsimp -implicitDefEqProofs (disch:=first|exact dD|fail) [go_sem,↓Us Yg qh hos,UK];rw[<- hdd];have crX:ZF s.exit ⟨X.ms,X.ps,X.en⟩ s.ag.length (tot s.ag+tot (s.ae.map Zc.bal)+YE (s.aj.map Zk.amt) k):=cr;have hXp:X.ps.length=s.ag.length:=cr.l2;refine Zb.ap (Znw (s:={ s with ae:=X.ms,ag:=X.ps,entry:=X.en }) (v:=⟨.slice (some ⟨bp,0,none⟩) s.ag.length cp,ovs om1 X.ms.length,ovs oe1 X.en.length,vx,.slice oa N oc,vd,vt,vk,vr⟩) (om:=om1) (oe:=oe1) (d:=d) ti.ok.p hpl crX qf d1.a.1 ⟨d2,d3⟩ (d4.imp id fun c=>⟨c.1,by show d.mem<(X.ms.length:Int);omega⟩) (by show _=Value.slice _ X.ps.length _;rw[hXp]) rfl okm1 rfl oke1 fun om2 oe2 ok2 ok3 ap=>?_);clear ap;have eX:YM s.par d ⟨X.ms,X.ps,X.en⟩=YM s.par d X:=rfl;rw[eX]at ok2 ok3 ⊢;refine xx ?_;refine⟨⟨k+1,om2,oe2⟩,⟨qp,by rw[eK];exact ok2,by rw[eK];exact ok3⟩,qp,qi,?_⟩;simp only;rw[eK];exact Za.refl _ _
  obtain rfl:N=k:=qf;have eXX:crK s.par s.aj ⟨s.ae,s.ag,s.entry⟩ N=enX s:=by rw[hN];rfl
  obtain⟨cx,cxl⟩:=Yei ti;obtain⟨ew1,ew2⟩:=Ysp ti;rw[eXX]at okm1 oke1 ⊢;have cl1:=cx.l1;refine xx ?_;refine Z4 (.tk 0 (.tk 1 (.tk 2 (.tk 4 (.tk 5 (.tk 6 (.tk 7 (.tkl 3 (.tkl 8 (.o1 9 (.tk 10 (.tk 11 (.tk 12 (.tk 13 (.tk 14 (.fin)))))) (.nil))))))))))) qg qg [_,_,_] (drop_left [_,_,_] _ _) ?_;refine xx ?_;refine Zb.entr fun ap nd=>?_;have aoe1:=Yk (Ap.oent ap.2.2.2);clear ap nd;have lx:=YL aoe1 ((enX s).en.map (.int .i64));have sx:=WE (h:=h) (sz:=1) (n:=(enX s).en.length) (o:=oe1) (xs:=(enX s).en.map (.int .i64)) oke1 qj qf;refine Zb.weaken ((Za.perm h Zqh).trans (YG oe1 _ _ h qh)) ?_
  generalize Jh h oe1 ((enX s).en.map (.int .i64))=h2 at lx sx ⊢
  have ix:=Uh cx.e cl1 sx;clear aoe1 sx;obtain⟨R,hR⟩:∃R,R=(enX s).en.drop s.par.aK.toNat:=⟨_,rfl⟩
  refine Zb.apn (Zky _ ix qf s.par.aK ⟨qf,qf⟩ fun h3 r1 r2 le3 iw iR ap nd=>?_);have hbb3:h3 bb=noC:=ap.1;have hbr3:h3 br=noC:=ap.2.1;have hbp3:h3 bp=noC:=ap.2.2.1;have hom3:apO om1 [] h3:=Yk ap.2.2.2;have nmb:apB om1 bb:=Z3 nd.1.2.2;have nmr:apB om1 br:=Z3 nd.2.1.2;have nmp:apB om1 bp:=Z3 nd.2.2.1;clear ap nd;have le13:=lx.trans le3;refine xkp ((drop_left [_,_,_] _ _).trans (Za.forget le13)) ?_;have eW:(enX s).en.take s.par.aK.toNat=enW s:=rfl;rw[eW]at iw;rw[<- hR]at hk iR;obtain⟨N,hN2⟩:∃N,N=(enW s).length:=⟨_,rfl⟩
  obtain⟨wa,wc,rfl,_,_,_,hws⟩:=iw.open;have iR0:=iR;obtain⟨ra,rc,rfl,_⟩:=iR.open;rw[<- hN2]at hws ew1 ⊢;have hpx:tot (enX s).ps+tot ((enX s).ms.map Zc.bal)=tot s.ag+tot (s.ae.map Zc.bal)+tot (s.aj.map Zk.amt):=cx.t;have hpp:=cx.b.pur;obtain⟨X0,hX0⟩:∃X0:StX,X0=⟨(enX s).ms,s.ai,s.exit,r.out,r.started⟩:=⟨_,rfl⟩
  have hst:=fun k (hk:k<=N)=>Ztf ti r htb (k:=k) qf;rw[<- hX0,<- hR]at hst;have hda:=Zhv (p:=s.par) htb (enW s) (x:=X0) (rest:=R) (by rw[hX0];exact ti.dd) (fun k hk=>hst k qf) (by rw[hX0];show Y9 s.ai+tot ((enX s).ms.map Zc.bal)<=_;omega);refine xx ?_;refine Yi (γ:=StH) ⟨0,h3,vd,vx,oo,os⟩ (fun y=>y.k<=N/\PH.le h3 y.h/\Zd Yh 3 y.h y.d (stK s.par t (enW s) X0 y.k).ds/\Ints y.h .i64 y.x (stK s.par t (enW s) X0 y.k).ex/\okO y.oo (stK s.par t (enW s) X0 y.k).out.length/\okO y.os (stK s.par t (enW s) X0 y.k).go.length/\y.h bb=noC/\y.h br=noC/\y.h bp=noC/\apO om1 [] y.h)
    (fun y=>[(9,.int .i64 y.k),(7,.slice wa N wc),(0,.pointer (some ⟨bb,0,none⟩)),(1,.pointer (some ⟨br,0,none⟩)),(2,.int .i64 t0)])
    (fun y=>dB bb { s with aj:=[],ae:=(stK s.par t (enW s) X0 y.k).ms,ag:=(enX s).ps,entry:=R,ai:=(stK s.par t (enW s) X0 y.k).ds,exit:=(stK s.par t (enW s) X0 y.k).ex } ⟨.slice (some ⟨bp,0,none⟩) s.ag.length cp,ovs om1 (enX s).ms.length,.slice ra R.length rc,y.x,.slice none 0 0,y.d,vt,vk,vr⟩::dR br { r with out:=(stK s.par t (enW s) X0 y.k).out,started:=(stK s.par t (enW s) X0 y.k).go } ⟨ovs y.oo (stK s.par t (enW s) X0 y.k).out.length,ql,ovs y.os (stK s.par t (enW s) X0 y.k).go.length,qd⟩::dP bp cp (enX s).ps ::
      dMo om1 (stK s.par t (enW s) X0 y.k).ms (oent 3 1 y.oo ((stK s.par t (enW s) X0 y.k).out.map (.int .i64)) (oent 3 1 y.os ((stK s.par t (enW s) X0 y.k).go.map (.int .i64)) L))) (fun y=>y.h) (fun y=>N-y.k) ?_ ?_ ?_ ?_
  · refine⟨Nat.zero_le _,PH.le_refl _,?_,?_,?_,?_,hbb3,hbr3,hbp3,hom3⟩
    · rw[show stK s.par t (enW s) X0 0=X0 from rfl,hX0];exact hd.up le13
    · rw[show stK s.par t (enW s) X0 0=X0 from rfl,hX0];exact hx.up le13
    · rw[show stK s.par t (enW s) X0 0=X0 from rfl,hX0];exact oko
    · rw[show stK s.par t (enW s) X0 0=X0 from rfl,hX0];exact oks
  · simp [Ent,List.lookup]
  · rw[show stK s.par t (enW s) X0 0=X0 from rfl,hX0];rw[hR];exact Za.refl _ _
  rintro⟨k,h4,dv,xv,oo1,os1⟩ ⟨k1,le4,id4,ix4,oko1,oks1,hbb4,hbr4,hbp4,hom4⟩;simp only at k1 le4 id4 ix4 oko1 oks1 hbb4 hbr4 hbp4 hom4 ⊢;have st:=hst k k1;have sl:(stK s.par t (enW s) X0 k).ms.length=(enX s).ms.length:=by rw[st.l1,hX0]
  have su:(stK s.par t (enW s) X0 k).out.length<=r.out.length+k:=by have:=st.u;rw[hX0]at this ⊢;exact this
  have sg:(stK s.par t (enW s) X0 k).go.length<=r.started.length+k:=by have:=st.g;rw[hX0]at this ⊢;exact this
  have sn:(stK s.par t (enW s) X0 k).ds.length<=s.ai.length+k:=by have:=st.n;rw[hX0]at this ⊢;exact this
  have stt:Y9 (stK s.par t (enW s) X0 k).ds+tot ((stK s.par t (enW s) X0 k).ms.map Zc.bal)=Y9 s.ai+tot ((enX s).ms.map Zc.bal):=by have:=st.t;rw[hX0]at this ⊢;exact this
  have sxl:=WR st.rx;by_cases c1:k<N
  · have hd0:(enW s).drop k=at0 (enW s) k::(enW s).drop (k+1):=wQ;have hin:=VL st.e (z:=at0 (enW s) k) (by rw[hd0];simp);obtain⟨i,hi⟩:=Int.eq_ofNat_of_zero_le hin.1;rw[hi]at hin;have hws4:∀j,j<N->Z9 h4 wa j=some (.int .i64 (at0 (enW s) j)):=fun j hj=>Yr le4 (hws j hj);have eK:stK s.par t (enW s) X0 (k+1)=J0 s.par t i (stK s.par t (enW s) X0 k):=by rw[stK,hi,Int.toNat_natCast]
    have hda1:=hda k qf;obtain⟨X,hX⟩:∃X,X=stK s.par t (enW s) X0 k:=⟨_,rfl⟩
    rw[<- hX]at id4 ix4 oko1 oks1 st sl su sg sn stt sxl hin hda1 eK ⊢;have hi2:i<X.ms.length:=qf;obtain⟨bm,cm,rfl⟩:∃bm cm,om1=some (bm,cm):=by
      cases om1 with
      | none=>have:(enX s).ms.length=0:=okm1;omega
      | some p=>exact⟨_,_,rfl⟩
    have hbm4:h4 bm=noC:=hom4.2;have e1:NeB bb bm:=Ne.symm nmb;have e2:NeB br bm:=Ne.symm nmr;have e3:NeB bp bm:=Ne.symm nmp;obtain⟨m,hmm⟩:∃m,m=gr ZQ X.ms i:=⟨_,rfl⟩
    have mo:Zf m:=by rw[hmm];exact st.m _ (Yp hi2)
    have hoo:=st.o _ (Yp (z:=ZQ) hi2);have hg:=Zah hi2;rw[<- hmm]at hg;obtain⟨g0,g1,g2,g3,g4,g5⟩:=hg;have hi6:=YC (w:=6) hi2 (show 5<6 from qh);have hsm:=Zbl (ms:=X.ms) rfl;have ix40:=ix4;have id40:=id4;obtain⟨xa,xc,rfl,_⟩:=ix4.open;obtain⟨da,dc,rfl,_⟩:=id4.open;simp only[dMo,Z7,Yl];refine xx ?_;obtain⟨M,hM⟩:∃M,M=Wo s.par m:=⟨_,rfl⟩
    refine YN (.tk 0 (.tk 1 (.tk 2 (.tk 4 (.tk 5 (.tk 6 (.tk 8 (.tk 9 (.tk 10 (.tkl 3 (.tkl 7 (.tkl 11 (.tk 12 (.tkl 13 (.o1 14 (.tk 15 (.tk 16 (.tk 17 (.o1 18 (.o2 19 (.tk 20 (.fin)) (.nil)) (.nil))))) (.o1 18 (.o1 14 (.tk 15 (.tk 16 (.tk 17 (.o2 19 (.tk 20 (.fin)) (.nil))))) (.nil)) (.nil))))))))))))))))) qg qg [(0,.pointer (some ⟨bb,0,none⟩)),(1,.pointer (some ⟨br,0,none⟩)),(2,.int .i64 t0),(9,.int .i64 k),(7,.slice wa N wc)] _ (γ:=Nat) (fun b10=>bb≠b10/\br≠b10/\bp≠b10/\bm≠b10/\h4 b10=noC)
      (fun b10=>[(0,.pointer (some ⟨bb,0,none⟩)),(1,.pointer (some ⟨br,0,none⟩)),(2,.int .i64 t0),(9,.int .i64 k),(7,.slice wa N wc),(10,.pointer (some ⟨b10,0,none⟩)),(11,.bool M.2)])
      (fun b10=>⟨b10,124,YD M.1,6⟩::dB bb { s with aj:=[],ae:=X.ms,ag:=(enX s).ps,entry:=R,ai:=X.ds,exit:=X.ex } ⟨.slice (some ⟨bp,0,none⟩) s.ag.length cp,.slice (some ⟨bm,0,none⟩) (enX s).ms.length cm,.slice ra R.length rc,.slice xa X.ex.length xc,.slice none 0 0,.slice da X.ds.length dc,vt,vk,vr⟩::dR br { r with out:=X.out,started:=X.go } ⟨ovs oo1 X.out.length,ql,ovs os1 X.go.length,qd⟩::dP bp cp (enX s).ps ::
        dM bm cm X.ms::oent 3 1 oo1 (X.out.map (.int .i64)) (oent 3 1 os1 (X.go.map (.int .i64)) L)) (fun _=>h4) qi (Za.refl _ _) ?_ ?_
    · repeat' first
        | with_reducible refine Yf ?_ ?_
        | simp -dsimp -implicitDefEqProofs (disch:=first|exact dD|fail) [go_sem,idx hws4,hi,g0,g1,g2,g3,g4,g5]
        | (with_reducible refine ZY fun b10 nb10 zb10 => ?_
           simp only[ZS]at nb10)
        | (with_reducible show WW prog 246 _ _ _ _
           refine Zoi s.par ti.r m mo ?_
           rw[<- hM])
        | with_reducible refine xkp (Za.refl _ _) ?_
        | with_reducible refine xkp (Za.tail _ _ _) ?_
        | fail
      all_goals exact⟨b10,⟨nb10.1,nb10.2.1,nb10.2.2.1,nb10.2.2.2.1,zb10⟩,qi,Za.refl _ _⟩
    rintro b10 ⟨n0b,n0r,n0p,n0m,h10⟩;have f3:NeB b10 bb:=Ne.symm n0b;have f4:NeB b10 br:=Ne.symm n0r;have f5:NeB b10 bp:=Ne.symm n0p;have f6:NeB b10 bm:=Ne.symm n0m;clear n0b n0r n0p n0m;obtain⟨M1,M2⟩:=M;simp only;have stp:=Zdw ti.ok.p ti.r mo;rw[<- hM]at stp;simp only at stp;have eK2:stK s.par t (enW s) X0 (k+1)=if M2 then { X with ms:=X.ms.set i M1,go:=X.go++[(i:Int)] } else ⟨X.ms.set i (Zqm m),V3 X.ds (VB t m),flt X.ex i,X.out++[(i:Int)],X.go⟩:=by
      rw[eK,J0,<- hmm,<- hM]
    have hbt:=Yj (WA st.m) i;rw[WI hi2,<- hmm]at hbt
    cases M2 with
    | true =>
      rw[if_pos rfl]at eK2;have hset:=Yoh X.ms i hi2 M1;simp only[YD];refine xx ?_;refine Z4 (.tk 0 (.tk 1 (.tk 2 (.tk 4 (.tk 5 (.tk 6 (.tkl 3 (.tkl 7 (.tkl 8 (.tk 9 (.o2 10 (.fin) (.nil)))))))))))) qg qg _ (Za.refl _ _) ?_;refine dm ?_;refine⟨qf,?_⟩;rw[hset];refine Z4 (.tk 0 (.tk 1 (.tk 2 (.tk 3 (.tk 5 (.tk 6 (.tk 7 (.tkl 4 (.tkl 8 (.o1 9 (.o1 10 (.tk 11 (.tk 12 (.o2 13 (.fin) (.nil)))) (.nil)) (.nil))))))))))) qg qg [_,_,_,_] (drop_left [_,_,_,_] _ _) ?_;refine dm ?_;refine ZY fun b99 nb99 zb99=>?_;(try simp only[ZS]at nb99);have f7:NeB b99 b10:=Ne.symm nb99.1;have f8:NeB b99 bb:=Ne.symm nb99.2.1;have f9:NeB b99 br:=Ne.symm nb99.2.2.1;clear nb99
      first
      | refine xkp ((Za.tail _ _ _).trans (drop_left [_,_,_,_] _ _)) ?_
      | skip
      refine xx ?_;refine Zhl (V2 (Za.perm _ permD9) (ZZ (t:=27) (e:=3) (sz:=1) (bytes:=8) (z:=[.int .i64 0]) qg V6 rfl rfl rfl rfl qh [_,_,_,_,_,_] _ os1 X.go.length (X.go.map (.int .i64)) oks1 qj (Src.own (b:=b99) (t:=3) (cap:=1) List.mem_cons_self) (m:=1) (news:=[.int .i64 i]) rfl (fun u hu=>qw) qm qf fun os2 j1 j2 j3=>⟨_,_,Za.perm _ permD9.symm,?_⟩))
      first
      | refine xkp ((Za.tail _ _ _).trans (drop_left [_,_,_,_] _ _)) ?_
      | skip
      refine xx ?_;refine⟨⟨k+1,h4,_,_,oo1,os2⟩,⟨qp,le4,by rw[eK2];exact id40,by rw[eK2];exact ix40,by rw[eK2];exact oko1,by rw[eK2];simpa using j1,hbb4,hbr4,hbp4,hom4⟩,qp,qi,?_⟩;simp only;rw[eK2];simp only[List.map_append,List.map_cons,List.map_nil,List.length_append,List.length_singleton,dMo,Z7,Yl];exact(Za.tail _ _ _).trans (Za.tail _ _ _)
    | false =>
      rw[if_neg qh]at eK2;refine lQ ?_;rw[hi];have how2:0<=(gr ZQ X.ms i).owner/\(gr ZQ X.ms i).owner<=63:=qf;have hbt2:Y9 X.ds+(gr ZQ X.ms i).bal<=4611686018427387904:=by rw[<- hmm];omega
      have hpl3:(enX s).ps.length=s.ag.length:=cx.l2;refine Zb.ap (Zzj (s:={ s with aj:=[],ae:=X.ms,ag:=(enX s).ps,entry:=R,ai:=X.ds,exit:=X.ex }) (v:=⟨.slice (some ⟨bp,0,none⟩) s.ag.length cp,.slice (some ⟨bm,0,none⟩) (enX s).ms.length cm,.slice ra R.length rc,.slice xa X.ex.length xc,.slice none 0 0,.slice da X.ds.length dc,vt,vk,vr⟩) (r:={ r with out:=X.out,started:=X.go }) (q:=⟨ovs oo1 X.out.length,ql,ovs os1 X.go.length,qd⟩) (by rw[sl]) (by show X.ms.length<=900;omega) st.m id40 st.d (by show X.ds.length<=32000;omega) i hi2 how2 t0 ht0 hbt2 ix40 (by show X.ex.length<=900;omega) rfl oko1 (by show X.out.length<=900;omega) fun h5 d5 x5 oo5 le5 i5 x5i ok5 ap=>?_);have hbb5:h5 bb=noC:=ap.2.1;have hbr5:h5 br=noC:=ap.2.2.1;have hbp5:h5 bp=noC:=ap.2.2.2.1;have hbm5:apO (some (bm,cm)) [] h5:=⟨trivial,ap.2.2.2.2.1⟩
      clear ap;refine xx ?_;have ew:V3 X.ds (VB t m)=V3 X.ds (VB (min t0 2147483647) (gr ZQ X.ms i)):=by rw[hte,hmm]
      have em:Zqm m=V5 (gr ZQ X.ms i) 4:=by rw[hmm];rfl
      refine⟨⟨k+1,h5,d5,x5,oo5,os1⟩,⟨qp,le4.trans le5,by rw[eK2,ew];exact i5,by rw[eK2];exact x5i,by rw[eK2];simpa using ok5,by rw[eK2];exact oks1,hbb5,hbr5,hbp5,hbm5⟩,qp,qi,?_⟩;simp only;rw[eK2,ew,em];simp only[List.map_append,List.map_cons,List.map_nil,List.length_append,List.length_singleton,dMo,Z7,Yl];exact Za.tail _ _ _
  obtain rfl:N=k:=qf;have eY:stK s.par t (enW s) X0 N=enY s r t:=by rw[hN2,hX0];rfl
  rw[eY]at id4 ix4 oko1 oks1 sl ⊢;have hk:=hk h4 dv xv (.slice none 0 0) (.slice ra R.length rc) om1 oo1 os1 (le13.trans le4) id4 ix4 (Zd.nil VM _) (iR0.up le4) (by rw[sl];exact okm1) oko1 oks1;rw[sl]at hk;refine xx ?_;exact ZP hk
open Go.RowKit Go.Proofs Go.Bl Go.Proofs.Tryz
variable {L:Own} {h:PH} {K:PK}
structure MoH where
 k:Nat
 h:PH
 t:Value
 q:List QM
 od:Option (Nat×Nat)
theorem Zrw {bb br bp cp D:Nat}{om od:Option (Nat×Nat)}{s:Zg}{v:SV}{r:Zi}{q:RV}(ti:Zq s D)(hA:Vi s<=18446744073709551615)(hdl:r.done.length<=700)(hpv:v.p = .slice (some ⟨bp,0,none⟩) s.ag.length cp)(ht:∃ql:List QM,Zd YQ 33 h v.t ql/\ql.map (fun x=>x.2.2)=s.ah/\YU h ql)
  (hm:v.m=ovs om s.ae.length) (okm:okO om s.ae.length) (hd:q.d=ovs od r.done.length) (okd:okO od r.done.length)
  (hk:∀h' tv od',PH.le h h'->(∃ql:List QM,Zd YQ 33 h' tv ql/\ql.map (fun x=>x.2.2)=(moS s r).ah/\YU h' ql)->okO od' (moR s r).done.length ->
   K (.tuple #[]) (dB bb (moS s r) { v with t:=tv }::dR br (moR s r) { q with d:=ovs od' (moR s r).done.length }::dP bp cp (moS s r).ag::dMo om s.ae (oent 3 1 od' ((moR s r).done.map (.int .i64)) L)) h') :
  Zb prog 113 [.pointer (some ⟨bb,0,none⟩),.pointer (some ⟨br,0,none⟩)] (dB bb s v::dR br r q::dP bp cp s.ag::dMo om s.ae (oent 3 1 od (r.done.map (.int .i64)) L)) h K:=by
 obtain⟨vp,vm,ve,vx,vo,vd,vt,vk,vr⟩:=v;obtain⟨qo,ql,qs,qd⟩:=q;simp only at hpv hm ht hd hk ⊢;subst hpv hm hd;obtain⟨qs0,t1,t2,t3⟩:=ht;have hq0:qs0.length=s.ah.length:=zF;have hep:=ti.ep;have hml:=ti.ml;have hpl:=ti.pl;have hmn:=ti.mn;have hsum:=ti.sum;obtain⟨p1,p2,p3,p4,p5,p6⟩:=ti.parts;have hen:=Zct ti.r;have hmm:∀m∈s.ah,m.yes.length<=1000/\m.no.length<=1000:=fun m hm=>Zmb (ti.mm m hm);have hmr:=ti.mm;refine eG func113 fun ap nd=>?_;have hbb:h bb=noC:=ap.1;have hbr:h br=noC:=ap.2.1;have hbp:h bp=noC:=ap.2.2.1;have nrb:NeB bb br:=Ne.symm nd.1.1;have npb:NeB bb bp:=Ne.symm nd.1.2.1;have npr:NeB br bp:=Ne.symm nd.2.1.1;clear ap nd;have t10:=t1;obtain⟨ta0,tc0,rfl,_⟩:=t10.open;refine xx ?_;refine Z4 (.tk 0 (.tk 1 (.tk 2 (.tk 3 (.tk 5 (.tk 6 (.tk 7 (.tk 9 (.tk 10 (.tk 11 (.tk 13 (.tk 14 (.tk 15 (.tkl 4 (.tkl 8 (.tkl 12 (.tkl 16 (.o1 17 (.tk 18 (.tk 19 (.o2 20 (.fin) (.nil)))) (.nil))))))))))))))))))) qg qg _ (Za.refl _ _) ?_;refine xx ?_;refine Zb.apn (Zb.fin (Zb.weaken (Za.perm _ permD7) (Zog s.par ti.ok.p hen s.ep qf _ t1 t2 t3 qf okm qf ti.be.m hA fun h1 tv q1 le1 i1 e1 m1=>⟨_,_,Za.perm _ permD7.symm,fun ap nd=>?_⟩)));have hbb1:h1 bb=noC:=ap.1;have hbr1:h1 br=noC:=ap.2.1;have hbp1:h1 bp=noC:=ap.2.2.1;clear ap nd;have i10:=i1;obtain⟨ta,tc,rfl,_⟩:=i1.open
 first
 | refine xkp (Za.forget le1) ?_
 | skip
 refine xx ?_;have eL:Zlc s.par s.ae s.ep s.ah=moL s:=rfl;rw[eL]at e1;have hmL:(moL s).length=s.ah.length:=List.length_map _;have hq1:q1.length=(moL s).length:=by rw[<- e1,List.length_map]
 refine Z4 (.tk 0 (.tk 1 (.tk 2 (.tk 4 (.tk 5 (.tk 6 (.tk 8 (.tk 9 (.tk 10 (.tkl 3 (.tkl 7 (.tkl 11 (.o1 12 (.tk 13 (.fin)) (.nil)))))))))))))) qg qg _ (Za.refl _ _) ?_;refine xx ?_;refine Zb.ap (Ztc _ i10 e1 m1 qf s.ep r.quo fun h2 wv le2 iw ap=>?_);have hbb2:h2 bb=noC:=ap.1;have hbr2:h2 br=noC:=ap.2.1;have hbp2:h2 bp=noC:=ap.2.2.1;clear ap;have eW:Wh (moL s) s.ep r.quo (moL s).length=moW s r:=rfl;rw[eW]at iw;obtain⟨W,hW⟩:∃W,W=moW s r:=⟨_,rfl⟩
 have hWin:=(Zeo (s:=s) r).2;have hX:=fun k (hk:k<=(moW s r).length)=>Yrg ti r hk;have eS:moS s r=Yjz s r (moW s r).length:=rfl;have eR:moR s r=Yuw s r (moW s r).length:=rfl;rw[eS,eR]at hk;rw[<- hW]at iw hWin hX hk;have hWl:W.length<=(moL s).length:=by rw[hW];exact GQ _ _ _ _
 obtain⟨wa,wc,rfl,_,_,_,hws⟩:=iw.open;obtain⟨N,hN⟩:∃N,N=W.length:=⟨_,rfl⟩
 rw[<- hN]at hws hk hX ⊢
 first
 | refine xkp (Za.forget le2) ?_
 | skip
 refine xx ?_;have e0:moX s r 0=⟨s.par,s.an,s.ag,s.aT,moL s,r.done⟩:=rfl;refine Yi (γ:=MoH) ⟨0,h2,.slice ta q1.length tc,q1,od⟩ (fun y=>y.k<=N/\PH.le h2 y.h/\Zd YQ 33 y.h y.t y.q/\y.q.map (fun x=>x.2.2)=(moX s r y.k).mo/\YU y.h y.q/\okO y.od (moX s r y.k).dn.length/\y.h bb=noC/\y.h br=noC/\y.h bp=noC)
  (fun y=>[(5,.int .i64 y.k),(4,.slice wa N wc),(0,.pointer (some ⟨bb,0,none⟩)),(1,.pointer (some ⟨br,0,none⟩))])
  (fun y=>dB bb { s with par:=(moX s r y.k).par,an:=(moX s r y.k).tr,ag:=(moX s r y.k).ps,aT:=(moX s r y.k).em,ah:=(moX s r y.k).mo } ⟨.slice (some ⟨bp,0,none⟩) s.ag.length cp,ovs om s.ae.length,ve,vx,vo,vd,y.t,vk,vr⟩::dR br { r with done:=(moX s r y.k).dn } ⟨qo,ql,qs,ovs y.od (moX s r y.k).dn.length⟩::dP bp cp (moX s r y.k).ps::oent 3 1 y.od ((moX s r y.k).dn.map (.int .i64)) (dMo om s.ae L)) (fun y=>y.h) (fun y=>N-y.k) ?_ ?_ ?_ ?_
 ·exact⟨Nat.zero_le _,PH.le_refl _,i10.up le2,e1,fun x hx=>(m1 x hx).up le2,okd,hbb2,hbr2,hbp2⟩
 ·simp [Ent,List.lookup,YT]
 ·exact Za.perm _ Yjc
 rintro⟨k,h3,tv,q3,od3⟩ ⟨k1,le3,j3,e3,m3,okd3,hbb3,hbr3,hbp3⟩;simp only at k1 le3 j3 e3 m3 okd3 hbb3 hbr3 hbp3 ⊢;have hx:=hX k k1;obtain⟨X,hXX⟩:∃X,X=moX s r k:=⟨_,rfl⟩
 by_cases c1:k<N
 ·have hz:=hWin (at0 W k) wR;have hst:=hx.s k (Nat.le_refl _) qf;obtain⟨i,hi⟩:=Int.eq_ofNat_of_zero_le hz.1;rw[hi]at hz hst;rw[Int.toNat_natCast]at hst;have hws3:∀j,j<N->Z9 h3 wa j=some (.int .i64 (at0 W j)):=fun j hj=>Yr le3 (hws j hj);have eK:moX s r (k+1)=Zco i (moX s r k):=by
   show moK (moW s r) _ (k+1)=_;rw[moK,<- hW,hi,Int.toNat_natCast,hW];rfl
  rw[<- hXX]at e3 okd3 hx hst eK ⊢;have hxn:X.mo.length=(moL s).length:=hx.n;have hxl:X.ps.length=s.ag.length:=hx.l2;have hq3:q3.length=X.mo.length:=by rw[<- e3,List.length_map]
  have hi3:i<q3.length:=qf;obtain⟨qk,hqk⟩:∃qk,qk=gr Z0 q3 i:=⟨_,rfl⟩
  have egr:qk.2.2=gr Yb X.mo i:=by rw[hqk];exact G1 e3 qf
  have hmo:ZC s.ag.length qk.2.2:=by rw[egr];exact hx.m _ (Yp qf)
  have hma:=hmo.ok.a;have hmt:=hmo.t;have hxt:tot X.ps+X.tr=tot s.ag+s.an:=hx.t;have hpx:=Yj hx.p qk.2.2.to.toNat;have hp0:=hx.p qk.2.2.to.toNat;have htx:=Ym hx.p;have htr:=hx.tr;have hdx:X.dn.length<=r.done.length+k:=hx.d;obtain⟨J,hJ⟩:=Int.eq_ofNat_of_zero_le hmt.1;have hJt:qk.2.2.to.toNat=J:=qf;have hJl:J<X.ps.length:=qf;rw[hJt]at hpx hp0;have gp:∀(K:Value->Prop) (t:Zm K),VE (X.ps.map (.int .u64)) J K t=K (.int .u64 (at0 X.ps J)):=fun K t=>Vd .u64 _ J K t hJl;have hps:∀z,(X.ps.map (Value.int .u64)).set J (.int .u64 z)=(X.ps.set J z).map (Value.int .u64):=fun z=>zU;have hfi:∀B,Zhw X.mo i B=(X.mo.set i (Zea qk.2.2 B),0):=fun B=>by
   rw[Zhw,if_pos qf,Int.toNat_natCast,if_pos hst,egr]
  have eK2:moX s r (k+1)={ YX qk.2.2 X with mo:=X.mo.set i (Zea qk.2.2 (moB qk.2.2 X.tr)),dn:=if moB qk.2.2 X.tr then X.dn++[(i:Int)] else X.dn }:=by
   rw[eK,Zco,<- egr]
  have j30:=j3;obtain⟨ma,mc,rfl,_,_,_,hms⟩:=j3.open;have hmk:Zr h3 qk:=by rw[hqk,Ye hi3];exact m3 _ (List.getElem_mem _)
  have hy:=hmk.y;have hn:=hmk.n;obtain⟨vy,vn,m⟩:=qk;simp only at egr hmo hma hmt hJ hJt hfi eK2 hy hn;obtain⟨ya,yc,rfl,_⟩:=hy.open;obtain⟨na,nc,rfl,_⟩:=hn.open;refine xx ?_;refine Z4 (.tk 0 (.tk 1 (.tk 2 (.tk 4 (.tk 5 (.tk 6 (.tkl 3 (.tkl 7 (.tk 8 (.tkl 9 (.o1 10 (.o2 11 (.fin) (.nil)) (.nil)))))))))))) qg qg _ (Za.refl _ _) ?_;simp -dsimp -implicitDefEqProofs (disch:=first|exact dD|fail) [go_sem,idx hws3,hi,↓Us Z0 qh hms,<- hqk,YQ,Jj,List.cons_append,List.nil_append];refine ZY fun b6 nb6 zb6=>?_;(try simp only[ZS]at nb6);have n6b:NeB b6 bb:=Ne.symm nb6.1;have n6r:NeB b6 br:=Ne.symm nb6.2.1;have n6p:NeB b6 bp:=Ne.symm nb6.2.2.1;clear nb6
  first
  | refine xkp (Za.tail _ _ _) ?_
  | skip
  refine df ?_;by_cases w1:m.what=1
  ·have e1:YX m X={ X with par:=m.par }:=by rw[YX,if_neg qf,if_neg qf,if_pos w1]
   have e2:moB m X.tr=true:=by simp [moB,w1]
   refine lV ?_;have eK3:moX s r (k+1)=⟨m.par,X.tr,X.ps,X.em,X.mo.set i (Zea m true),X.dn++[(i:Int)]⟩:=by rw[eK2,e2,e1];rfl
   refine Z4 (.tk 0 (.tk 1 (.tk 2 (.tk 3 (.tk 5 (.tk 6 (.tk 7 (.tk 9 (.tkl 4 (.tkl 8 (.o1 10 (.tk 11 (.tk 12 (.tk 13 (.tk 14 (.tk 15 (.o2 16 (.fin) (.nil))))))) (.nil)))))))))))) qg qg [_,_] drop2Z ?_;refine dw ?_;refine Zb.ap (W6 _ j30 e3 m3 qf i qf true fun h5 tv5 q5 le5 j5 e5 m5 ap=>?_);have hb65:h5 b6=noC:=ap.1;have hbb5:h5 bb=noC:=ap.2.1;have hbr5:h5 br=noC:=ap.2.2.1;have hbp5:h5 bp=noC:=ap.2.2.2.1;clear ap;have hws5:∀j,j<N->Z9 h5 wa j=some (.int .i64 (at0 W j)):=fun j hj=>Yr le5 (hws3 j hj);rw[hfi]at e5 ⊢;simp only at e5 ⊢;obtain⟨ma5,mc5,rfl,_⟩:=j5.open
   first
   | refine xkp (drop2Z.trans (Za.forget le5)) ?_
   | skip
   refine xx ?_;refine Z4 (.tk 0 (.tk 1 (.tk 2 (.tk 3 (.tk 5 (.tk 6 (.tk 7 (.tkl 4 (.tkl 8 (.o1 9 (.o1 10 (.tk 11 (.tk 12 (.o2 13 (.fin) (.nil)))) (.nil)) (.nil))))))))))) qg qg [_,_,_,_] (drop_left [_,_,_,_] _ _) ?_;refine dA ?_;refine ZY fun b99 nb99 zb99=>?_;(try simp only[ZS]at nb99);have n99:NeB b99 bb:=Ne.symm nb99.2.1;have n98:NeB b99 br:=Ne.symm nb99.2.2.1;have n97:NeB b99 b6:=Ne.symm nb99.1;clear nb99
   first
   | refine xkp ((Za.tail _ _ _).trans (drop_left [_,_,_,_] _ _)) ?_
   | skip
   refine xx ?_;refine ZZ (t:=27) (e:=3) (sz:=1) (bytes:=8) (z:=[.int .i64 0]) qg V6 rfl rfl rfl rfl qh [_,_,_,_,_] _ od3 X.dn.length (X.dn.map (.int .i64)) okd3 qj (Src.own (b:=b99) (t:=3) (cap:=1) List.mem_cons_self) (m:=1) (news:=[.int .i64 i]) rfl (fun u hu=>qw) qm qf ?_;intro od4 j1 j2 j3;simp only[List.cons_append,List.nil_append]
   first
   | refine xkp ((Za.tail _ _ _).trans (drop_left [_,_,_,_] _ _)) ?_
   | skip
   refine xx ?_;refine⟨⟨k+1,h5,.slice ma5 q5.length mc5,q5,od4⟩,⟨qp,le3.trans le5,j5,zW,m5,zL,hbb5,hbr5,hbp5⟩,qp,qi,?_⟩;simp only;rw[eK3];simp only[List.map_append,List.map_cons,List.map_nil,List.length_append,List.length_singleton];exact(Za.tail _ _ _).trans (Za.tail _ _ _)
  by_cases w2:m.what=2
  ·by_cases c:m.amt<=X.tr
   ·have e1:YX m X={ X with tr:=X.tr-m.amt,ps:=X.ps.set J (at0 X.ps J+m.amt) }:=by rw[YX,if_neg qf,if_neg qf,if_neg w1,if_pos ⟨w2,c⟩,hJt]
    have e2:moB m X.tr=true:=by simp [moB,c]
    refine lW ?_;refine Z4 (.tk 0 (.tk 1 (.tk 2 (.tk 4 (.tkl 3 (.tkl 5 (.tk 6 (.tk 7 (.fin))))))))) qg qg _ (Za.refl _ _) ?_;refine dC ?_;refine Z4 (.tk 0 (.tk 1 (.tk 2 (.tk 4 (.tkl 3 (.tkl 5 (.tk 6 (.tk 7 (.tk 8 (.o2 9 (.fin) (.nil))))))))))) qg qg _ (Za.refl _ _) ?_;refine xx ?_;refine Z4 (.tk 0 (.tk 1 (.tk 2 (.tk 4 (.tk 6 (.tk 7 (.tk 8 (.tk 10 (.tk 14 (.tkl 3 (.tkl 5 (.tkl 9 (.tkl 11 (.tk 12 (.tkl 13 (.tkl 15 (.tk 16 (.tk 17 (.o2 18 (.fin) (.nil)))))))))))))))))))) qg qg _ (Za.refl _ _) ?_;refine dh ?_;refine⟨qf,?_⟩;have eK3:moX s r (k+1)=⟨X.par,X.tr-m.amt,X.ps.set J (at0 X.ps J+m.amt),X.em,X.mo.set i (Zea m true),X.dn++[(i:Int)]⟩:=by rw[eK2,e2,e1];rfl
    refine Z4 (.tk 0 (.tk 1 (.tk 2 (.tk 3 (.tk 5 (.tk 6 (.tk 7 (.tk 9 (.tkl 4 (.tkl 8 (.o1 10 (.tk 11 (.tk 12 (.tk 13 (.tk 14 (.tk 15 (.o2 16 (.fin) (.nil))))))) (.nil)))))))))))) qg qg [_,_] drop2Z ?_;refine dw ?_;refine Zb.ap (W6 _ j30 e3 m3 qf i qf true fun h5 tv5 q5 le5 j5 e5 m5 ap=>?_);have hb65:h5 b6=noC:=ap.1;have hbb5:h5 bb=noC:=ap.2.1;have hbr5:h5 br=noC:=ap.2.2.1;have hbp5:h5 bp=noC:=ap.2.2.2.1;clear ap;have hws5:∀j,j<N->Z9 h5 wa j=some (.int .i64 (at0 W j)):=fun j hj=>Yr le5 (hws3 j hj);rw[hfi]at e5 ⊢;simp only at e5 ⊢;obtain⟨ma5,mc5,rfl,_⟩:=j5.open
    first
    | refine xkp (drop2Z.trans (Za.forget le5)) ?_
    | skip
    refine xx ?_;refine Z4 (.tk 0 (.tk 1 (.tk 2 (.tk 3 (.tk 5 (.tk 6 (.tk 7 (.tkl 4 (.tkl 8 (.o1 9 (.o1 10 (.tk 11 (.tk 12 (.o2 13 (.fin) (.nil)))) (.nil)) (.nil))))))))))) qg qg [_,_,_,_] (drop_left [_,_,_,_] _ _) ?_;refine dA ?_;refine ZY fun b99 nb99 zb99=>?_;(try simp only[ZS]at nb99);have n99:NeB b99 bb:=Ne.symm nb99.2.1;have n98:NeB b99 br:=Ne.symm nb99.2.2.1;have n97:NeB b99 b6:=Ne.symm nb99.1;clear nb99
    first
    | refine xkp ((Za.tail _ _ _).trans (drop_left [_,_,_,_] _ _)) ?_
    | skip
    refine xx ?_;refine ZZ (t:=27) (e:=3) (sz:=1) (bytes:=8) (z:=[.int .i64 0]) qg V6 rfl rfl rfl rfl qh [_,_,_,_,_] _ od3 X.dn.length (X.dn.map (.int .i64)) okd3 qj (Src.own (b:=b99) (t:=3) (cap:=1) List.mem_cons_self) (m:=1) (news:=[.int .i64 i]) rfl (fun u hu=>qw) qm qf ?_;intro od4 j1 j2 j3;simp only[List.cons_append,List.nil_append]
    first
    | refine xkp ((Za.tail _ _ _).trans (drop_left [_,_,_,_] _ _)) ?_
    | skip
    refine xx ?_;refine⟨⟨k+1,h5,.slice ma5 q5.length mc5,q5,od4⟩,⟨qp,le3.trans le5,j5,zW,m5,zL,hbb5,hbr5,hbp5⟩,qp,qi,?_⟩;simp only;rw[eK3];simp only[List.map_append,List.map_cons,List.map_nil,List.length_append,List.length_singleton];rw[hps];exact(Za.tail _ _ _).trans (Za.tail _ _ _)
   ·have e1:YX m X=X:=by rw[YX,if_neg qf,if_neg qf,if_neg w1,if_neg (fun x=>c x.2)]
    have e2:moB m X.tr=false:=by simp [moB,w2,c]
    refine lW ?_;refine Z4 (.tk 0 (.tk 1 (.tk 2 (.tk 4 (.tkl 3 (.tkl 5 (.tk 6 (.tk 7 (.fin))))))))) qg qg _ (Za.refl _ _) ?_;refine dC ?_;have eK3:moX s r (k+1)=⟨X.par,X.tr,X.ps,X.em,X.mo.set i (Zea m false),X.dn⟩:=by rw[eK2,e2,e1];rfl
    refine Z4 (.tk 0 (.tk 1 (.tk 2 (.tk 3 (.tk 5 (.tk 6 (.tk 7 (.tk 9 (.tkl 4 (.tkl 8 (.o1 10 (.tk 11 (.tk 12 (.tk 13 (.tk 14 (.tk 15 (.o2 16 (.fin) (.nil))))))) (.nil)))))))))))) qg qg [_,_] drop2Z ?_;refine dw ?_;refine Zb.ap (W6 _ j30 e3 m3 qf i qf false fun h5 tv5 q5 le5 j5 e5 m5 ap=>?_);have hb65:h5 b6=noC:=ap.1;have hbb5:h5 bb=noC:=ap.2.1;have hbr5:h5 br=noC:=ap.2.2.1;have hbp5:h5 bp=noC:=ap.2.2.2.1;clear ap;have hws5:∀j,j<N->Z9 h5 wa j=some (.int .i64 (at0 W j)):=fun j hj=>Yr le5 (hws3 j hj);rw[hfi]at e5 ⊢;simp only at e5 ⊢;obtain⟨ma5,mc5,rfl,_⟩:=j5.open
    first
    | refine xkp (drop2Z.trans (Za.forget le5)) ?_
    | skip
    refine xx ?_;refine⟨⟨k+1,h5,.slice ma5 q5.length mc5,q5,od3⟩,⟨qp,le3.trans le5,j5,zW,m5,by rw[eK3];exact okd3,hbb5,hbr5,hbp5⟩,qp,qi,?_⟩;simp only;rw[eK3];exact Za.tail _ _ _
  by_cases w3:m.what=3
  ·have e1:YX m X={ X with em:=true }:=by rw[YX,if_pos w3]
   have e2:moB m X.tr=true:=by simp [moB,w3]
   refine lT ?_;have eK3:moX s r (k+1)=⟨X.par,X.tr,X.ps,true,X.mo.set i (Zea m true),X.dn++[(i:Int)]⟩:=by rw[eK2,e2,e1];rfl
   refine Z4 (.tk 0 (.tk 1 (.tk 2 (.tk 3 (.tk 5 (.tk 6 (.tk 7 (.tk 9 (.tkl 4 (.tkl 8 (.o1 10 (.tk 11 (.tk 12 (.tk 13 (.tk 14 (.tk 15 (.o2 16 (.fin) (.nil))))))) (.nil)))))))))))) qg qg [_,_] drop2Z ?_;refine dw ?_;refine Zb.ap (W6 _ j30 e3 m3 qf i qf true fun h5 tv5 q5 le5 j5 e5 m5 ap=>?_);have hb65:h5 b6=noC:=ap.1;have hbb5:h5 bb=noC:=ap.2.1;have hbr5:h5 br=noC:=ap.2.2.1;have hbp5:h5 bp=noC:=ap.2.2.2.1;clear ap;have hws5:∀j,j<N->Z9 h5 wa j=some (.int .i64 (at0 W j)):=fun j hj=>Yr le5 (hws3 j hj);rw[hfi]at e5 ⊢;simp only at e5 ⊢;obtain⟨ma5,mc5,rfl,_⟩:=j5.open
   first
   | refine xkp (drop2Z.trans (Za.forget le5)) ?_
   | skip
   refine xx ?_;refine Z4 (.tk 0 (.tk 1 (.tk 2 (.tk 3 (.tk 5 (.tk 6 (.tk 7 (.tkl 4 (.tkl 8 (.o1 9 (.o1 10 (.tk 11 (.tk 12 (.o2 13 (.fin) (.nil)))) (.nil)) (.nil))))))))))) qg qg [_,_,_,_] (drop_left [_,_,_,_] _ _) ?_;refine dA ?_;refine ZY fun b99 nb99 zb99=>?_;(try simp only[ZS]at nb99);have n99:NeB b99 bb:=Ne.symm nb99.2.1;have n98:NeB b99 br:=Ne.symm nb99.2.2.1;have n97:NeB b99 b6:=Ne.symm nb99.1;clear nb99
   first
   | refine xkp ((Za.tail _ _ _).trans (drop_left [_,_,_,_] _ _)) ?_
   | skip
   refine xx ?_;refine ZZ (t:=27) (e:=3) (sz:=1) (bytes:=8) (z:=[.int .i64 0]) qg V6 rfl rfl rfl rfl qh [_,_,_,_,_] _ od3 X.dn.length (X.dn.map (.int .i64)) okd3 qj (Src.own (b:=b99) (t:=3) (cap:=1) List.mem_cons_self) (m:=1) (news:=[.int .i64 i]) rfl (fun u hu=>qw) qm qf ?_;intro od4 j1 j2 j3;simp only[List.cons_append,List.nil_append]
   first
   | refine xkp ((Za.tail _ _ _).trans (drop_left [_,_,_,_] _ _)) ?_
   | skip
   refine xx ?_;refine⟨⟨k+1,h5,.slice ma5 q5.length mc5,q5,od4⟩,⟨qp,le3.trans le5,j5,zW,m5,zL,hbb5,hbr5,hbp5⟩,qp,qi,?_⟩;simp only;rw[eK3];simp only[List.map_append,List.map_cons,List.map_nil,List.length_append,List.length_singleton];exact(Za.tail _ _ _).trans (Za.tail _ _ _)
  by_cases w4:m.what=4
  ·have e1:YX m X={ X with em:=false }:=by rw[YX,if_neg w3,if_pos w4]
   have e2:moB m X.tr=true:=by simp [moB,w4]
   refine lU ?_;have eK3:moX s r (k+1)=⟨X.par,X.tr,X.ps,false,X.mo.set i (Zea m true),X.dn++[(i:Int)]⟩:=by rw[eK2,e2,e1];rfl
   refine Z4 (.tk 0 (.tk 1 (.tk 2 (.tk 3 (.tk 5 (.tk 6 (.tk 7 (.tk 9 (.tkl 4 (.tkl 8 (.o1 10 (.tk 11 (.tk 12 (.tk 13 (.tk 14 (.tk 15 (.o2 16 (.fin) (.nil))))))) (.nil)))))))))))) qg qg [_,_] drop2Z ?_;refine dw ?_;refine Zb.ap (W6 _ j30 e3 m3 qf i qf true fun h5 tv5 q5 le5 j5 e5 m5 ap=>?_);have hb65:h5 b6=noC:=ap.1;have hbb5:h5 bb=noC:=ap.2.1;have hbr5:h5 br=noC:=ap.2.2.1;have hbp5:h5 bp=noC:=ap.2.2.2.1;clear ap;have hws5:∀j,j<N->Z9 h5 wa j=some (.int .i64 (at0 W j)):=fun j hj=>Yr le5 (hws3 j hj);rw[hfi]at e5 ⊢;simp only at e5 ⊢;obtain⟨ma5,mc5,rfl,_⟩:=j5.open
   first
   | refine xkp (drop2Z.trans (Za.forget le5)) ?_
   | skip
   refine xx ?_;refine Z4 (.tk 0 (.tk 1 (.tk 2 (.tk 3 (.tk 5 (.tk 6 (.tk 7 (.tkl 4 (.tkl 8 (.o1 9 (.o1 10 (.tk 11 (.tk 12 (.o2 13 (.fin) (.nil)))) (.nil)) (.nil))))))))))) qg qg [_,_,_,_] (drop_left [_,_,_,_] _ _) ?_;refine dA ?_;refine ZY fun b99 nb99 zb99=>?_;(try simp only[ZS]at nb99);have n99:NeB b99 bb:=Ne.symm nb99.2.1;have n98:NeB b99 br:=Ne.symm nb99.2.2.1;have n97:NeB b99 b6:=Ne.symm nb99.1;clear nb99
   first
   | refine xkp ((Za.tail _ _ _).trans (drop_left [_,_,_,_] _ _)) ?_
   | skip
   refine xx ?_;refine ZZ (t:=27) (e:=3) (sz:=1) (bytes:=8) (z:=[.int .i64 0]) qg V6 rfl rfl rfl rfl qh [_,_,_,_,_] _ od3 X.dn.length (X.dn.map (.int .i64)) okd3 qj (Src.own (b:=b99) (t:=3) (cap:=1) List.mem_cons_self) (m:=1) (news:=[.int .i64 i]) rfl (fun u hu=>qw) qm qf ?_;intro od4 j1 j2 j3;simp only[List.cons_append,List.nil_append]
   first
   | refine xkp ((Za.tail _ _ _).trans (drop_left [_,_,_,_] _ _)) ?_
   | skip
   refine xx ?_;refine⟨⟨k+1,h5,.slice ma5 q5.length mc5,q5,od4⟩,⟨qp,le3.trans le5,j5,zW,m5,zL,hbb5,hbr5,hbp5⟩,qp,qi,?_⟩;simp only;rw[eK3];simp only[List.map_append,List.map_cons,List.map_nil,List.length_append,List.length_singleton];exact(Za.tail _ _ _).trans (Za.tail _ _ _)
  ·have e1:YX m X=X:=by rw[YX,if_neg w3,if_neg w4,if_neg w1,if_neg (fun x=>w2 x.1)]
   have e2:moB m X.tr=true:=by simp [moB,w2]
   simp -dsimp -implicitDefEqProofs (disch:=first|exact dD|fail) [go_sem,w1,w2,w3,w4];have eK3:moX s r (k+1)=⟨X.par,X.tr,X.ps,X.em,X.mo.set i (Zea m true),X.dn++[(i:Int)]⟩:=by rw[eK2,e2,e1];rfl
   refine Z4 (.tk 0 (.tk 1 (.tk 2 (.tk 3 (.tk 5 (.tk 6 (.tk 7 (.tk 9 (.tkl 4 (.tkl 8 (.o1 10 (.tk 11 (.tk 12 (.tk 13 (.tk 14 (.tk 15 (.o2 16 (.fin) (.nil))))))) (.nil)))))))))))) qg qg [_,_] drop2Z ?_;refine dw ?_;refine Zb.ap (W6 _ j30 e3 m3 qf i qf true fun h5 tv5 q5 le5 j5 e5 m5 ap=>?_);have hb65:h5 b6=noC:=ap.1;have hbb5:h5 bb=noC:=ap.2.1;have hbr5:h5 br=noC:=ap.2.2.1;have hbp5:h5 bp=noC:=ap.2.2.2.1;clear ap;have hws5:∀j,j<N->Z9 h5 wa j=some (.int .i64 (at0 W j)):=fun j hj=>Yr le5 (hws3 j hj);rw[hfi]at e5 ⊢;simp only at e5 ⊢;obtain⟨ma5,mc5,rfl,_⟩:=j5.open
   first
   | refine xkp (drop2Z.trans (Za.forget le5)) ?_
   | skip
   refine xx ?_;refine Z4 (.tk 0 (.tk 1 (.tk 2 (.tk 3 (.tk 5 (.tk 6 (.tk 7 (.tkl 4 (.tkl 8 (.o1 9 (.o1 10 (.tk 11 (.tk 12 (.o2 13 (.fin) (.nil)))) (.nil)) (.nil))))))))))) qg qg [_,_,_,_] (drop_left [_,_,_,_] _ _) ?_;refine dA ?_;refine ZY fun b99 nb99 zb99=>?_;(try simp only[ZS]at nb99);have n99:NeB b99 bb:=Ne.symm nb99.2.1;have n98:NeB b99 br:=Ne.symm nb99.2.2.1;have n97:NeB b99 b6:=Ne.symm nb99.1;clear nb99
   first
   | refine xkp ((Za.tail _ _ _).trans (drop_left [_,_,_,_] _ _)) ?_
   | skip
   refine xx ?_;refine ZZ (t:=27) (e:=3) (sz:=1) (bytes:=8) (z:=[.int .i64 0]) qg V6 rfl rfl rfl rfl qh [_,_,_,_,_] _ od3 X.dn.length (X.dn.map (.int .i64)) okd3 qj (Src.own (b:=b99) (t:=3) (cap:=1) List.mem_cons_self) (m:=1) (news:=[.int .i64 i]) rfl (fun u hu=>qw) qm qf ?_;intro od4 j1 j2 j3;simp only[List.cons_append,List.nil_append]
   first
   | refine xkp ((Za.tail _ _ _).trans (drop_left [_,_,_,_] _ _)) ?_
   | skip
   refine xx ?_;refine⟨⟨k+1,h5,.slice ma5 q5.length mc5,q5,od4⟩,⟨qp,le3.trans le5,j5,zW,m5,zL,hbb5,hbr5,hbp5⟩,qp,qi,?_⟩;simp only;rw[eK3];simp only[List.map_append,List.map_cons,List.map_nil,List.length_append,List.length_singleton];exact(Za.tail _ _ _).trans (Za.tail _ _ _)
 obtain rfl:N=k:=qf;have hxN:(moX s r N).mo.length=(moL s).length:=hx.n;have hk:=hk h3 tv od3 (le1.trans (le2.trans le3)) ⟨q3,j3,e3,m3⟩ okd3;have e1':Yjz s r N={ s with par:=(moX s r N).par,an:=(moX s r N).tr,ag:=(moX s r N).ps,aT:=(moX s r N).em,ah:=(moX s r N).mo }:=rfl;have e2':Yuw s r N={ r with done:=(moX s r N).dn }:=rfl;rw[e1',e2']at hk;rw[<- hXX]at hk ⊢;simp only at hk;refine xx ?_;exact⟨_,_,Za.perm _ Yjc,hk⟩
structure Hd (h:PH)(v:SV)(s:Zg):Prop where
 ok:ZB s
 p:Ints h .u64 v.p s.ag
 m:∃a c,v.m = .slice a s.ae.length c
 mo:∀x∈s.ae,Zf x
 e:Ints h .i64 v.e s.entry
 x:∃a c,v.x = .slice a s.exit.length c
 o:Zd UK 4 h v.o s.aj
 oo:∀x∈s.aj,ZG x
 d:Zd Yh 3 h v.d s.ai
 dd:∀x∈s.ai,Zs x
 t:∃q:List QM,Zd YQ 33 h v.t q/\q.map (fun x=>x.2.2)=s.ah/\YU h q
 k:Ints h .u8 v.k s.marks
 r:∃q,Zx h v.r q/\xsL q=s.ring
theorem Hd.up {h h':PH}(le:PH.le h h'){v:SV}{s:Zg}(hs:Hd h v s):Hd h' v s:=by
 obtain⟨q,t1,t2,t3⟩:=hs.t;obtain⟨r,r1,r2⟩:=hs.r;exact⟨hs.ok,hs.p.up le,hs.m,hs.mo,hs.e.up le,hs.x,hs.o.up le,hs.oo,hs.d.up le,hs.dd,⟨q,t1.up le,t2,fun x hx=>(t3 x hx).up le⟩,hs.k.up le,⟨r,r1.up le,r2⟩⟩
theorem Hd.st {v:SV}{s:Zg}(hh:Hd h v s)(hm:Zd YD 6 h v.m s.ae)(hx:Ints h .i64 v.x s.exit):Zp h v s :=
 ⟨hh.ok,hh.p,hm,hh.mo,hh.e,hx,hh.o,hh.oo,hh.d,hh.dd,hh.t,hh.k,hh.r⟩
theorem Hd.parts {v:SV}{s:Zg}(hs:Hd h v s):0<=Zra s/\0<=Zoy s/\0<=GB s/\0<=Zqk s :=
 ⟨Ym fun i=>W9 _ _ (fun x hx=>((hs.mo x hx).u _ qj).1) i,Ym fun i=>(hs.p.word i).1,Ym fun i=>W9 _ _ (fun x hx=>(hs.oo x hx).a.1) i,Ym fun i=>W9 _ _ (fun x hx=>(hs.dd x hx).a.1) i⟩
theorem Hd.of {u:SV}{s:Zg}{h h':PH}{v:SV}{o ox:Option (Nat×Nat)}(hs:Zp h v s)(hn:Zp h' (Yca u (.slice none 0 0) (.slice none 0 0)) (noMX s))(ok1:okO o s.ae.length)(ok2:okO ox s.exit.length):Hd h' (Yca u (ovs o s.ae.length) (ovs ox s.exit.length)) s:=by
 obtain⟨a,c,e,_⟩:=Z5 ok1;obtain⟨a2,c2,e2,_⟩:=Z5 ok2;exact⟨⟨hs.ok.p,hs.ok.u,hs.ok.n⟩,hn.p,⟨a,c,e⟩,hs.mo,hn.e,⟨a2,c2,e2⟩,hn.o,hs.oo,hn.d,hs.dd,hn.t,hn.k,hn.r⟩
theorem Zod {s:Zg}(v:SV)(hs:Zp h v s)(few:Zu s)(hp1:0<s.ag.length)
  (hk:∀(h':PH) (bp cp:Nat) (om oe:Option (Nat×Nat)) (xv:Value),PH.le h h'->okO (some (bp,cp)) s.ag.length->okO om s.ae.length->okO oe s.entry.length->Ints h' .i64 xv s.exit->K (stV s ⟨.slice (some ⟨bp,0,none⟩) s.ag.length cp,ovs om s.ae.length,ovs oe s.entry.length,xv,v.o,v.d,v.t,v.k,v.r⟩) (oent 3 1 oe (s.entry.map (.int .i64)) (oent 124 6 om (s.ae.flatMap YD) (dP bp cp s.ag::L))) h'):Zb prog 106 [stV s v] L h K:=by
 obtain⟨pa,pc,ma,mc,ea,ec,xa,xc,oa,oc,da,dc,ta,tc,ka,kc,ra,rc,rfl⟩:=hs.slices;have fm:=few.m;have fp:=few.p;have fe:=few.e;have fx:=few.x;refine ed func106 ?_;refine xx ?_;refine ZY fun b1 nb1 zb1=>?_;(try simp only[ZS]at nb1);refine xx ?_;refine ZY fun b2 nb2 zb2=>?_;(try simp only[ZS]at nb2);have n12:=nb2.1;refine xx ?_;refine ZZ (t:=25) (e:=22) (sz:=1) (bytes:=8) qg Vw rfl rfl rfl rfl qh [] _ none 0 [] rfl rfl (Src.known hs.p.1) (news:=s.ag.map (.int .u64)) qj (Vr _ _) qm qf ?_;intro op k1 k2 k3;simp only[Nat.zero_add,List.nil_append]at k1 k2 ⊢;obtain⟨bp,cp,rfl⟩:∃bp cp,op=some (bp,cp):=by
  cases op with
  | none=>have:s.ag.length=0:=k1;omega
  | some p=>exact⟨_,_,rfl⟩
 have p2:b2≠bp:=k2.1.1;have p1:b1≠bp:=k2.1.2.1;have hbp:h bp=noC:=k2.2;simp only[Z7,Yl,Nat.mul_one];refine xx ?_;refine ZZ (t:=40) (e:=124) (sz:=6) (bytes:=48) qg Zpr rfl rfl rfl rfl qh [] _ none 0 [] rfl rfl (Src.known hs.m.s) (news:=s.ae.flatMap YD) (Z1 Z8 _) (Vy Zbs _) qm qf ?_;intro om k4 k5 k6;simp only[Nat.zero_add,List.nil_append]at k4 k5 ⊢;have mp:apB om bp:=k5.head;have m2:apB om b2:=(ZV k5).head;have m1:apB om b1:=(ZV (ZV k5)).head;obtain⟨ma1,mc1,em,_⟩:=Z5 k4;simp -dsimp -implicitDefEqProofs (disch:=first|exact dD|fail) [go_sem,ZX m1,ZR m1,em];refine ZZ (t:=27) (e:=3) (sz:=1) (bytes:=8) qg V6 rfl rfl rfl rfl qh [] (oent 124 6 om (s.ae.flatMap YD) (_::_::_::L)) none 0 [] rfl rfl (Src.known hs.e.1) (news:=s.entry.map (.int .i64)) qj (Vr _ _) qm qf ?_;intro oe k7 k8 k9;simp only[Nat.zero_add,List.nil_append]at k7 k8 ⊢;have k8':=YH k8;have ep':apB oe bp:=k8'.head;have e2:apB oe b2:=(ZV k8').head;have e1:apB oe b1:=(ZV (ZV k8')).head;obtain⟨ea1,ec1,ee,_⟩:=Z5 k7;simp -dsimp -implicitDefEqProofs (disch:=first|exact dD|fail) [go_sem,ZX e1,ZR e1,ZX m1,ZR m1,ee];refine ZZ (t:=27) (e:=3) (sz:=1) (bytes:=8) qg V6 rfl rfl rfl rfl qh [] (oent 3 1 oe (s.entry.map (.int .i64)) (oent 124 6 om (s.ae.flatMap YD) (_::_::_::L))) none 0 [] rfl rfl (Src.known hs.x.1) (news:=s.exit.map (.int .i64)) qj (Vr _ _) qm qf ?_;intro ox k10 k11 k12;simp only[Nat.zero_add,List.nil_append]at k10 k11 ⊢;have k11':=YH (YH k11);have xp:apB ox bp:=k11'.head;have x2:apB ox b2:=(ZV k11').head;have x1:apB ox b1:=(ZV (ZV k11')).head;obtain⟨xa1,xc1,ex,_⟩:=Z5 k10
 simp -dsimp -implicitDefEqProofs (disch:=first|exact dD|fail) [go_sem,ZX x1,ZR x1,ZX e1,ZR e1,ZX m1,ZR m1,ZX x2,ZR x2,ZX e2,ZR e2,ZX m2,ZR m2,ex];have le1:=YL k11' (s.exit.map (.int .i64));have sl1:=WE (h:=h) (sz:=1) (n:=s.exit.length) (o:=ox) (xs:=s.exit.map (.int .i64)) k10 qj qf;have ix:Ints (Jh h ox (s.exit.map (.int .i64))) .i64 (ovs ox s.exit.length) s.exit:=⟨sl1,hs.x.2⟩
 have hk:=hk _ bp cp om oe _ le1 k1 k4 k7 ix;rw[ex,em,ee]at hk;refine⟨_,_,(YG (e:=3) (sz:=1) ox (s.exit.map (.int .i64)) _ h qh).trans (Za.sub (V9 _ (V9 _ (.cons_cons _ (.cons _ (List.sublist_cons_self _ _)))))),?_⟩;exact hk
theorem Yby {B:Int}:∀(xs:List Int),(∀x∈xs,x<=B)->tot xs<=xs.length*B
 | [],_=>by simp [tot,YE]
 | x::xs,hx=>by
  have ih:=Yby xs fun y hy=>hx y (List.mem_cons_of_mem _ hy);have h1:=hx x List.mem_cons_self;rw[Wv,List.length_cons];have:(((xs.length+1:Nat)):Int)*B=xs.length*B+B:=by
   rw[Int.natCast_add,Int.add_mul];simp
  omega
theorem Zer {p:Ze}{l:List Zc}(hl:l.length<=128)(h:∀m∈l,MI p m):Uu l<=140737488355328:=by
 have h1:=Yby (B:=1099511627776) ((cP l l.length).map (Zeg l)) fun x hx=>by
  obtain⟨i,hi,rfl⟩:=List.mem_map.1 hx;have:=Yrt hi;exact(h _ (Yp this)).e.2
 rw[List.length_map]at h1;have h2:=Zbc l l.length;unfold Uu;omega
theorem Yfn {h:PH}{v:SV}{s:Zg}(hs:Zp h v s)(hf:YY s=true):∀m∈s.ae,MI s.par m/\MF s.par m:=fun m hm=>by
 have hr:Yo s.par=true:=(fitsT_iff.1 hf).1;exact mi_of hr (hs.mo m hm) (Yed hf m hm).1
theorem wg_ms {s:Zg}{D:Nat}(ti:Zq s D)(h:∀m∈s.ae,MI s.par m):∀m∈(wgS s).ae,MI s.par m :=
 Zft (MI s.par) (fun k _ hm=>wg_mi ti.r ti.ok.p _ _ k hm) h _ (Nat.le_refl _)
theorem Ypy {s:Zg}{D:Nat}(ti:Zq s D){r:Zi}(ha:0<=r.act/\r.act<=18446744073709551615)(h:∀m∈s.ae,MI s.par m):∀k,k<=(mtW s).length->∀m∈(mtX s r k).1,MI s.par m
 | 0,_=>h
 | k+1,hk=>by
  have ih:=Ypy ti ha h k qf;have hx:=Ymd ti ha (k:=k) qf;have hW:(mtW s).getD k 0∈mtW s:=by
   rw[List.getD_eq_getElem?_getD,List.getElem?_eq_getElem qf,Option.getD_some];exact List.getElem_mem _
  have hc:=(Ykm hW).1;show ∀m∈((mtX s r k).1.set ((mtW s).getD k 0) (Uq s.par (gr ZQ (mtX s r k).1 ((mtW s).getD k 0)) (at0 (mtP s r) k)).1),MI s.par m;refine Ybp ih fun hi=>Ypw (grP ih hi) ((Yjm ti ha).1 k).1 ?_;show _\/_;rw[(hx.s _).1];exact hc
theorem fn_ms {s:Zg}{D:Nat}(ti:Zq s D)(r:Zi)(h:∀m∈s.ae,MI s.par m):∀m∈(fnS s r).ae,MI s.par m:=fun m hm =>
 (Zft (fun m=>Zf m/\MI s.par m) (fun k _ hm=>⟨Yhz ti.ok.p ti.r _ _ k hm.1,Ymu ti.ok.p ti.r _ _ k hm.1 hm.2⟩) (fun m hm=>⟨ti.be.m m hm,h m hm⟩) _ (Nat.le_refl _) m hm).2
theorem Yry {s:Zg}(hr:Yo s.par=true)(t:Int)(h:∀m∈s.ae,MI s.par m):∀m∈(ejS s t s.ae.length).ae,MI s.par m/\MF s.par m:=fun m hm=>by
 have e:(ejS s t s.ae.length).ae=s.ae.map (ejF s.par):=Zgt _ _;rw[e]at hm;obtain⟨x,hx,rfl⟩:=List.mem_map.1 hm;exact ej_mi hr (h x hx)
theorem Ysh {s:Zg}(hr:Yo s.par=true)(t:Int)(W:List Int){ds:List Zh}(h:∀m∈s.ae,MI s.par m/\MF s.par m):∀k,∀m∈(lvK t W (s.ae,ds) k).1,MI s.par m/\MF s.par m
 | 0=>h
 | k+1=>by
  have ih:=Ysh hr t W (ds:=ds) h k;show ∀m∈((lvK t W (s.ae,ds) k).1.set (at0 W k).toNat (V5 (gr ZQ (lvK t W (s.ae,ds) k).1 (at0 W k).toNat) 5)),_;exact Ybp (P:=fun m=>MI s.par m/\MF s.par m) ih fun hi=>Zig hr (grP (P:=fun m=>MI s.par m/\MF s.par m) ih hi).1 (.inr rfl)
theorem Ytt {p:Ze}(hr:Yo p=true){a:Int}(ha:0<=a/\a<64):MI p ⟨0,0,0,0,a,4⟩/\MF p ⟨0,0,0,0,a,4⟩:=by
 obtain⟨s1,s2⟩:=Gr hr;have f1:=YK s1;have f2:=Wd s2;have f3:=Yc hr;exact⟨⟨qp,qj,qp,qp,ha,.inr (.inr ⟨.inl rfl,rfl,rfl⟩)⟩,fun c=>by simp [Uf]at c⟩
theorem Zyw {p:Ze}(hr:Yo p=true){i:Nat}{a au:Int}(ha:0<=a){x:ZK}(h:∀m∈x.ms,MI p m/\MF p m):∀m∈(Zln p i a au x).ms,MI p m/\MF p m :=
 Ybp (P:=fun m=>MI p m/\MF p m) h fun hi=>by
  have g:=grP (P:=fun m=>MI p m/\MF p m) h hi;exact Yls hr g.1 g.2 ha
theorem Ybb {p:Ze}(hr:Yo p=true){d:Zk}(ha:0<=d.amt)(hd:0<=d.au/\d.au<64){x:ZK}(h:∀m∈x.ms,MI p m/\MF p m):∀m∈(YM p d x).ms,MI p m/\MF p m:=by
 unfold YM;split
 ·split
  ·exact h
  ·refine Zyw hr ha fun m hm=>?_;rcases List.mem_append.1 hm with hm|hm
   ·exact h m hm
   ·rw[List.mem_singleton]at hm;subst hm;exact Ytt hr hd
 ·exact Zyw hr ha h
theorem Yja {p:Ze}(hr:Yo p=true){l:List Zk}(hl:∀d∈l,0<=d.amt/\0<=d.au/\d.au<64){x:ZK}(h:∀m∈x.ms,MI p m/\MF p m):∀k,k<=l.length->∀m∈(crK p l x k).ms,MI p m/\MF p m
 | 0,_=>h
 | k+1,hk=>by
  have hd:=hl (gr Yg l k) (Yp qf);exact Ybb hr hd.1 hd.2 (Yja hr hl h k qf)
theorem Yib {p:Ze}(hr:Yo p=true)(t:Int)(W:List Int){x:StX}(h:∀m∈x.ms,MI p m/\MF p m):∀k,∀m∈(stK p t W x k).ms,MI p m/\MF p m
 | 0=>h
 | k+1=>by
  have ih:=Yib hr t W h k;rw[stK,J0];split
  ·exact Ybp (P:=fun m=>MI p m/\MF p m) ih fun hi=>by
    have g:=grP (P:=fun m=>MI p m/\MF p m) ih hi;exact Ydw hr g.1 g.2
  ·exact Ybp (P:=fun m=>MI p m/\MF p m) ih fun hi=>Zig hr (grP (P:=fun m=>MI p m/\MF p m) ih hi).1 (.inl rfl)
theorem en_ms {s:Zg}{D:Nat}(ti:Zq s D)(r:Zi)(t:Int)(h:∀m∈s.ae,MI s.par m/\MF s.par m):∀m∈(enS s r t).ae,MI s.par m/\MF s.par m:=by
 unfold enS;split
 ·have hpl:=ti.pl;have hx:∀m∈(enX s).ms,MI s.par m/\MF s.par m:=Yja ti.r (fun d hd=>by have:=ti.oo d hd;exact⟨this.1.a.1,this.2.1,qf⟩) h _ (Nat.le_refl _);exact Yib ti.r t _ hx _
 ·exact h
theorem aj_ms {s:Zg}{p:Ze}(hr:Yo s.par=true)(h:∀m∈s.ae,MI p m):∀m∈(ajS s).ae,MI s.par m:=fun m hm=>by
 have e:(ajS s).ae=s.ae.map (W7 s.par):=by
  show (clN s.par (s.ae,s.ag) s.ae.length).1=_;rw[Zyo _ _ _ (Nat.le_refl _)];exact Zgt _ _
 rw[e]at hm;obtain⟨x,hx,rfl⟩:=List.mem_map.1 hm;exact Yeu hr (h x hx)
theorem oneO (o:Option (Nat×Nat))(n:Nat):(ovs o n).oneCell'=true:=Yai o n
theorem Yra (p q:Ze)(x y:Operand)(K:Value->Prop)(t:Zm K):VO prog .neq 24 x y (WS p) (WS q) K t=K (.bool (!decide (p=q))):=by
 have e:decide (p=q)=decide (WZ p++YA p=WZ q++YA q):=by
  rw[decide_eq_decide];exact⟨fun h=>by rw[h],Zxl⟩
 rw[e];exact Jz (T:=24) (ks:=parK) qg qg qg qg (WZ p++YA p) (WZ q++YA q) rfl rfl x y K t
theorem Zq.mono {s:Zg}{D D':Nat}(h:Zq s D)(hd:D<=D'):Zq s D' :=
 ⟨h.r,h.ok,h.ep,h.be,h.ml,h.pl,h.en,h.ex,h.dd,Nat.le_trans h.dn hd,h.oo,h.on,h.mm,h.mn,h.mon,h.top⟩
theorem lv_ml {s:Zg}{t:Int}:(lvS s t).ae.length=s.ae.length:=by
 have:∀(W:List Int) (x:List Zc×List Zh) k,(lvK t W x k).1.length=x.1.length:=fun W x k=>by
  induction k with
  | zero=>rfl
  | succ k ih=>rw[lvK,Zat];simp only[List.length_set];exact ih
 exact this _ _ _
structure Fr (s S:Zg):Prop where
 par:S.par=s.par
 ep:S.ep=s.ep
 k:S.marks=s.marks
 r:S.ring=s.ring
 t:S.ah=s.ah
 o:S.aj=s.aj
 e:S.entry=s.entry
 l:S.ae.length=s.ae.length
theorem Fr.next {s S S':Zg}(h:Fr s S)(h2:Fr S S'):Fr s S':=⟨h2.par.trans h.par,h2.ep.trans h.ep,h2.k.trans h.k,h2.r.trans h.r,h2.t.trans h.t,h2.o.trans h.o,h2.e.trans h.e,h2.l.trans h.l⟩
theorem Yde (s:Zg):Fr s (wgS s):=⟨rfl,rfl,rfl,rfl,rfl,rfl,rfl,WY _ _ _⟩
theorem Ygc (s:Zg)(r:Zi):Fr s (mtS s r):=⟨rfl,rfl,rfl,rfl,rfl,rfl,rfl,by
 have:∀(p:Ze) (W:List Nat) (P:List Int) (x:List Zc×List Int) k,(mtK p W P x k).1.length=x.1.length:=fun p W P x k=>by
  induction k with
  | zero=>rfl
  | succ k ih=>rw[mtK,Jx];simp only[List.length_set];exact ih
 exact this _ _ _ _ _⟩
theorem Ygm (s:Zg)(r:Zi):Fr s (fnS s r):=⟨rfl,rfl,rfl,rfl,rfl,rfl,rfl,WY _ _ _⟩
theorem Ztj (s:Zg)(t:Int):Fr s (ejS s t s.ae.length):=⟨rfl,rfl,rfl,rfl,rfl,rfl,rfl,Wp _ _ _⟩
theorem Ydx (s:Zg)(t:Int):Fr s (lvS s t):=⟨rfl,rfl,rfl,rfl,rfl,rfl,rfl,lv_ml⟩
theorem Ynb (s:Zg)(r:Zi)(t:Int):(enS s r t).par=s.par/\(enS s r t).ep=s.ep/\(enS s r t).marks=s.marks/\(enS s r t).ring=s.ring/\(enS s r t).ah=s.ah:=by
 unfold enS;split
 ·exact⟨rfl,rfl,rfl,rfl,rfl⟩
 ·exact⟨rfl,rfl,rfl,rfl,rfl⟩
theorem Un {o:Option (Nat×Nat)}{n:Nat}(ho:okO o n):n<=9223372036854775807:=by
 cases o with
 | none=>have:n=0:=ho;omega
 | some p=>have:=ho.2;have:=ho.1;simp only[maxLen]at *;omega
theorem Zws {s:Zg}(v:SV)(hs:Zp h v s)(few:Zu s)(fd:s.ai.length<=29000)(hf:YY s=true)(he:s.ep<1073741824)(hA1:Vi s<=140737488355328)(hA8:Vi (tk8 s).1<=18446744073709551615)
  (hk:∀h' u q,PH.le h h'->Zp h' u (WM s)->Zt h' q (WH s)->K (.tuple #[stV (WM s) u,rpV (WH s) q,.int .i64 0]) L h') :
  Zb prog 25 [stV s v] L h K:=by
 have hv0:=hs;have ti:Zq s 29000:=Zts hs hf he fd;obtain⟨pa,pc,ma,mc,ea,ec,xa,xc,oa,oc,da,dc,ta,tc,ka,kc,ra,rc,rfl⟩:=hs.slices;have fewS:Zy s:=by
  have f1:=few.p;have f2:=few.m;have f3:=few.e;have f4:=few.x;have f5:=few.o;have f6:=few.d;have f7:=few.t;have f8:=few.r
  constructor<;>omega
 have hpc:=Yc ti.r;have hep:=ti.ep;have hml:=ti.ml;have hw:0<=s.par.wait/\s.par.wait<=1000:=qf;have ht:0<=min (s.ep+s.par.wait) 2147483647/\min (s.ep+s.par.wait) 2147483647<=2147483647:=qf;obtain⟨t,hte⟩:∃t,t=min (s.ep+s.par.wait) 2147483647:=⟨_,rfl⟩
 rw[<- hte]at ht;have hact:0<=Vi s:=by have:=Uj (ks:=s.marks) ti.be.m;show 0<=Uu s.ae;omega
 obtain⟨S2,hS2⟩:∃x,x=wgS s:=⟨_,rfl⟩
 obtain⟨R2,hR2⟩:∃x,x=wgR s (r0P s):=⟨_,rfl⟩
 have e2:tk2 s=(S2,R2):=by rw[hS2,hR2];rfl
 have ti2:Zq S2 29000:=hS2 ▸ Ydm ti;have f2:Fr s S2:=hS2 ▸ Yde s;have ra2:0<=R2.act/\R2.act<=18446744073709551615:=by rw[hR2];show 0<=Vi s/\Vi s<=_;omega
 have rp2:R2.aU=0:=by rw[hR2];rfl
 obtain⟨S3,hS3⟩:∃x,x=mtS S2 R2:=⟨_,rfl⟩
 obtain⟨R3,hR3⟩:∃x,x=mtR S2 R2:=⟨_,rfl⟩
 have e3:tk3 s=(S3,R3):=by rw[hS3,hR3];show (mtS (tk2 s).1 (tk2 s).2,mtR (tk2 s).1 (tk2 s).2)=_;rw[e2]
 have ti3:Zq S3 29000:=hS3 ▸ Yga ti2 ra2;have f3:Fr s S3:=f2.next (hS3 ▸ Ygc S2 R2);have rb3:R3.aC=0:=by rw[hR3,hR2];rfl
 have rf3:R3.aV=0:=by rw[hR3,hR2];rfl
 obtain⟨S4,hS4⟩:∃x,x=fnS S3 R3:=⟨_,rfl⟩
 obtain⟨R4,hR4⟩:∃x,x=fnR S3 R3 S3.ae.length:=⟨_,rfl⟩
 have e4:tk4 s=(S4,R4):=by rw[hS4,hR4];show (fnS (tk3 s).1 (tk3 s).2,fnR (tk3 s).1 (tk3 s).2 (tk3 s).1.ae.length)=_;rw[e3]
 have ti4:Zq S4 29000:=hS4 ▸ Yfy ti3 rb3;have f4:Fr s S4:=f3.next (hS4 ▸ Ygm S3 R3);have p4:S4.ag=S3.ag:=by rw[hS4];rfl
 have d4:S4.ai=s.ai:=by rw[hS4,hS3,hS2];rfl
 have x4:S4.exit=s.exit:=by rw[hS4,hS3,hS2];rfl
 have ro4:R4.out=[]/\R4.left=[]/\R4.started=[]/\R4.done=[]:=by rw[hR4,hR3,hR2];exact⟨rfl,rfl,rfl,rfl⟩
 obtain⟨S5,hS5⟩:∃x,x=ejS S4 t S4.ae.length:=⟨_,rfl⟩
 obtain⟨R5,hR5⟩:∃x,x=ejR S4 R4 S4.ae.length:=⟨_,rfl⟩
 have e5:tk5 s=(S5,R5):=by rw[hS5,hR5];show Yfz (atP s) (tk4 s)=_;rw[e4,show atP s=t from hte.symm];rfl
 have f5:Fr s S5:=f4.next (hS5 ▸ Ztj S4 t);have ti5:Zq S5 29128:=by have:=Zcx ti4 ht (Nat.le_refl S4.ae.length);rw[hS5];exact this.mono (by have:=f4.l;omega)
 have p5:S5.ag=S4.ag:=by rw[hS5];rfl
 have ro5:R5.left=[]/\R5.started=[]/\R5.done=[]/\R5.out=ouN S4.par S4.ae S4.ae.length:=by
  rw[hR5];refine⟨ro4.2.1,ro4.2.2.1,ro4.2.2.2,?_⟩;show R4.out++_=_;rw[ro4.1];rfl
 have ol5:R5.out.length<=128:=by rw[ro5.2.2.2];have:=Gg S4.par S4.ae S4.ae.length;have:=f4.l;omega
 have ob5:∀z∈R5.out,0<=z/\z<((128:Nat):Int):=by rw[ro5.2.2.2];intro z hz;have:=Ypg S4.par S4.ae S4.ae.length z hz;have:=f4.l;omega
 obtain⟨S7,hS7⟩:∃x,x=lvS S5 t:=⟨_,rfl⟩
 obtain⟨R7,hR7⟩:∃x,x=lvR S5 R5:=⟨_,rfl⟩
 have e7:tk7 s=(S7,R7):=by rw[hS7,hR7];show (lvS (tk5 s).1 (atP s),lvR (tk5 s).1 (tk5 s).2)=_;rw[e5,show atP s=t from hte.symm]
 have ti7:Zq S7 29192:=hS7 ▸ Yna ti5 ht;have f7:Fr s S7:=f5.next (hS7 ▸ Ydx S5 t);have ro7:R7.out=R5.out/\R7.left=lvW S5/\R7.started=[]/\R7.done=[]:=by rw[hR7];exact⟨rfl,rfl,ro5.2.1,ro5.2.2.1⟩
 obtain⟨S8,hS8⟩:∃x,x=enS S7 R7 t:=⟨_,rfl⟩
 obtain⟨R8,hR8⟩:∃x,x=enR S7 R7 t:=⟨_,rfl⟩
 have e8:tk8 s=(S8,R8):=by rw[hS8,hR8];show (enS (tk7 s).1 (tk7 s).2 (atP s),enR (tk7 s).1 (tk7 s).2 (atP s))=_;rw[e7,show atP s=t from hte.symm]
 have ti8:Zq S8 29256:=hS8 ▸ Ylj ti7 R7 ht;obtain⟨a8,b8,c8,d8,g8⟩:=Ynb S7 R7 t;rw[<- hS8]at a8 b8 c8 d8 g8;have ro8:R8.left=lvW S5/\R8.done=[]/\(∀z∈R8.out,0<=z/\z<((128:Nat):Int))/\(∀z∈R8.started,0<=z/\z<((128:Nat):Int))/\R8.out.length<=300/\R8.started.length<=300:=by
  rw[hR8];unfold enR;split
  ·have hx:=(Yei ti7).1;have hwl:=(Ysp ti7).1
   obtain⟨u1,u2,u3,u4⟩:=st_b (p:=S7.par) (t:=t) (n:=128) qh (enW S7) (x:=⟨(enX S7).ms,S7.ai,S7.exit,R7.out,R7.started⟩) (fun z hz=>by
    have h1:=VL hx.e (List.mem_of_mem_take hz);have h2:(enX S7).ms.length<=128:=hx.l1
    omega) wL (fun z hz=>zO) (enW S7).length (Nat.le_refl _)
   simp only[ro7.1,ro7.2.2.1,List.length_nil]at u3 u4;refine⟨ro7.2.1,ro7.2.2.2,u1,u2,?_,?_⟩
   ·show (enY S7 R7 t).out.length<=300;have:(enY S7 R7 t).out.length<=R5.out.length+(enW S7).length:=by rw[enY,ro7.1,ro7.2.2.1];exact u3
    omega
   ·show (enY S7 R7 t).go.length<=300;have:(enY S7 R7 t).go.length<=0+(enW S7).length:=by rw[enY,ro7.1,ro7.2.2.1];exact u4
    omega
  ·exact⟨ro7.2.1,ro7.2.2.2,wL,(fun z hz=>zO),by rw[ro7.1];omega,by rw[ro7.2.2.1];simp⟩
 obtain⟨S9,hS9⟩:∃x,x=moS S8 R8:=⟨_,rfl⟩
 obtain⟨R9,hR9⟩:∃x,x=moR S8 R8:=⟨_,rfl⟩
 have e9:tk9 s=(S9,R9):=by rw[hS9,hR9];show (moS (tk8 s).1 (tk8 s).2,moR (tk8 s).1 (tk8 s).2)=_;rw[e8]
 have ti9:Zq S9 29256:=hS9 ▸ Zzb ti8 R8 (Nat.le_refl _);rw[e8]at hA8;simp only at hA8;refine eU func25 fun ap nd=>?_;clear ap nd;refine xx ?_;refine ZY fun b1 nb1 zb1=>?_;(try simp only[ZS]at nb1);refine xx ?_;refine ZY fun b2 nb2 zb2=>?_;(try simp only[ZS]at nb2);have n21:=nb2.1;refine xx ?_;refine ZY fun b3 nb3 zb3=>?_;(try simp only[ZS]at nb3);have n32:=nb3.1;have n31:=nb3.2.1;clear nb1 nb2 nb3;refine xx ?_;refine GH (s:=s) ⟨.slice pa s.ag.length pc,.slice ma s.ae.length mc,.slice ea s.entry.length ec,.slice xa s.exit.length xc,.slice oa s.aj.length oc,.slice da s.ai.length dc,.slice ta s.ah.length tc,.slice ka s.marks.length kc,.slice ra s.ring.length rc⟩ hs fewS ?_;rw[hf];refine xx ?_;refine Z4 (.tk 2 (.tk 5 (.tk 6 (.tkl 0 (.tkl 3 (.tk 4 (.tkl 7 (.o1 1 (.tk 8 (.o1 9 (.tk 10 (.fin)) (.nil))) (.nil))))))))) qg qg _ (Za.refl _ _) ?_;refine xx ?_;refine Ztv (s:=s) ⟨.slice pa s.ag.length pc,.slice ma s.ae.length mc,.slice ea s.entry.length ec,.slice xa s.exit.length xc,.slice oa s.aj.length oc,.slice da s.ai.length dc,.slice ta s.ah.length tc,.slice ka s.marks.length kc,.slice ra s.ring.length rc⟩ hs few fun h1 u om oe ox le1 okm oke okx i1=>?_
 first
 | refine xkp ((Za.oent _ _ _ _ _ _).trans ((Za.oent _ _ _ _ _ _).trans ((Za.oent _ _ _ _ _ _).trans (Za.forget le1)))) ?_
 | skip
 refine xx ?_;refine ZY fun b5 nb5 zb5=>?_;(try simp only[ZS]at nb5);have n5:=Yx (Yx (Yx nb5));simp only[ZS]at n5;have n53:=n5.1;have n52:=n5.2.1;have n51:=n5.2.2.1;clear nb5 n5;obtain⟨up,um,ue,ux,uo,ud,ut,uk,ur⟩:=u;obtain⟨iok,ip,_,_,_,_,io,ioo,idd,iddo,it,ik,ir⟩:=i1;simp only[Yju]at ip io ioo idd iddo it ik ir;obtain⟨upa,upc,rfl,_⟩:=ip.open;obtain⟨uoa,uoc,rfl,_⟩:=io.open;obtain⟨uda,udc,rfl,_⟩:=idd.open;obtain⟨uka,ukc,rfl,_⟩:=ik.open;obtain⟨uq,it1,it2,it3⟩:=it;obtain⟨uta,utc,rfl,_⟩:=it1.open;obtain⟨uqr,ir1,ir2⟩:=ir;obtain⟨ura,urc,rfl,_⟩:=ir1.open;have hqm:uq.length=s.ah.length:=by rw[<- it2,List.length_map]
 have hqr:uqr.length=s.ring.length:=by rw[<- ir2,Wu]
 rw[hqm]at it1 ⊢;rw[hqr]at ir1 ⊢;refine xx ?_;refine xkp ((Za.tail _ _ _).trans ((Za.oent _ _ _ _ _ _).trans ((Za.oent _ _ _ _ _ _).trans ((Za.oent _ _ _ _ _ _).trans (Za.forget le1))))) ?_;refine xx ?_;obtain⟨N,hN⟩:∃N,N=s.ae.length:=⟨_,rfl⟩
 obtain⟨V0,hV0⟩:∃V0:SV,V0=⟨.slice upa s.ag.length upc,ovs om s.ae.length,ovs oe s.entry.length,ovs ox s.exit.length,.slice uoa s.aj.length uoc,.slice uda s.ai.length udc,.slice uta s.ah.length utc,.slice uka s.marks.length ukc,.slice ura s.ring.length urc⟩:=⟨_,rfl⟩
 refine Zb.fin (Zb.weaken (Za.perm _ Yup) (Zum (s:=s) (v:=⟨.slice upa s.ag.length upc,ovs om s.ae.length,ovs oe s.entry.length,ovs ox s.exit.length,.slice uoa s.aj.length uoc,.slice uda s.ai.length udc,.slice uta s.ah.length utc,.slice uka s.marks.length ukc,.slice ura s.ring.length urc⟩) (r:=r0P s) (q:=⟨.slice none 0 0,.slice none 0 0,.slice none 0 0,.slice none 0 0⟩) (w:=s.par.wait) (om:=om) ti hA1 ik rfl okm fun h2 le2=>ZP ?_));rw[<- hS2,<- hR2];refine xx ?_;have one:∀(a b c d e:Value),a.oneCell'=true->b.oneCell'=true->c.oneCell'=true->d.oneCell'=true->e.oneCell'=true->∀(n1 n2 n3:Nat) (f:Value),f.oneCell'=true->Yjy ⟨a,ovs om n1,ovs oe n2,ovs ox n3,b,c,d,e,f⟩:=fun a b c d e ha hb hc hd he n1 n2 n3 f hf=>⟨ha,oneO _ _,oneO _ _,oneO _ _,hb,hc,hd,he,hf⟩
 have p2:S2.ag=s.ag:=by rw[hS2];rfl
 refine Zvp (s:=S2) (v:=⟨.slice upa s.ag.length upc,ovs om s.ae.length,ovs oe s.entry.length,ovs ox s.exit.length,.slice uoa s.aj.length uoc,.slice uda s.ai.length udc,.slice uta s.ah.length utc,.slice uka s.marks.length ukc,.slice ura s.ring.length urc⟩) (om:=om) ti2 ra2 rp2 (one _ _ _ _ _ rfl rfl rfl rfl rfl _ _ _ _ rfl) (by rw[p2];exact ip.up le2) (by rw[f2.k];exact ik.up le2) (by rw[f2.l]) (by rw[f2.l];exact okm) fun h3 pv3 le3 i3=>?_;rw[<- hS3]at i3;rw[<- hS3,<- hR3];obtain⟨pa3,pc3,rfl,_⟩:=i3.open;have le13:=le2.trans le3;refine xx ?_;refine Zsm (s:=S3) (v:=⟨.slice pa3 S3.ag.length pc3,ovs om s.ae.length,ovs oe s.entry.length,ovs ox s.exit.length,.slice uoa s.aj.length uoc,.slice uda s.ai.length udc,.slice uta s.ah.length utc,.slice uka s.marks.length ukc,.slice ura s.ring.length urc⟩) (om:=om) ti3 rb3 rf3 (one _ _ _ _ _ rfl rfl rfl rfl rfl _ _ _ _ rfl) (by rw[f3.k];exact ik.up le13) (by rw[f3.l]) (by rw[f3.l];exact okm) ?_;rw[<- hS4,<- hR4,<- x4];refine xx ?_;refine Zb.fin (Zb.weaken (Za.perm _ Yhv) (Zfq (s:=S4) (v:=⟨.slice pa3 S3.ag.length pc3,ovs om s.ae.length,ovs oe s.entry.length,ovs ox S4.exit.length,.slice uoa s.aj.length uoc,.slice uda s.ai.length udc,.slice uta s.ah.length utc,.slice uka s.marks.length ukc,.slice ura s.ring.length urc⟩) (om:=om) (oo:=none) (ox:=ox) ti4 qh (by rw[d4];exact idd.up le13) (by rw[f4.l]) (by rw[f4.l];exact okm) hw rfl (by rw[x4];exact okx) rfl (by rw[ro4.1];rfl) (by rw[ro4.1];simp) fun h5 dv5 oo5 le5 i5 ok5=>ZP ?_));rw[f4.ep,<- hte,<- hS5]at i5;rw[<- hR5]at ok5;rw[f4.ep,<- hte,<- hS5,<- hR5];obtain⟨da5,dc5,rfl,_⟩:=i5.open;have le15:=le13.trans le5;have okx5:okO ox S5.exit.length:=Zkn okx (by rw[hS5,<- x4];exact Zdd _ _ _ _);refine xx ?_
 refine Zb.fin (Zb.weaken (Za.perm _ Yst) (Zux (s:=S5) (v:=⟨.slice pa3 S3.ag.length pc3,ovs om s.ae.length,ovs oe s.entry.length,ovs ox S5.exit.length,.slice uoa s.aj.length uoc,.slice da5 S5.ai.length dc5,.slice uta s.ah.length utc,.slice uka s.marks.length ukc,.slice ura s.ring.length urc⟩) (om:=om) (ox:=ox) ti5 qh hw (by rw[p5,p4];exact i3.up le5) i5 (by rw[f5.l]) (by rw[f5.l];exact okm) rfl okx5 fun h7 xo pv7 dv7 lv7 le7 okx7 i7p i7d i7l=>ZP ?_));rw[f5.ep,<- hte,<- hS7]at okx7 i7p i7d;rw[f5.ep,<- hte,<- hS7,<- hR7];obtain⟨pa7,pc7,rfl,_⟩:=i7p.open;obtain⟨da7,dc7,rfl,_⟩:=i7d.open;obtain⟨la7,lc7,rfl,_⟩:=i7l.open;have le17:=le15.trans le7;refine xx ?_;rw[<- f7.e,<- ro7.1];refine Zb.fin (Zb.weaken (Za.perm _ Yrl) (Zug (s:=S7) (v:=⟨.slice pa7 S7.ag.length pc7,ovs om s.ae.length,ovs oe S7.entry.length,ovs xo S7.exit.length,.slice uoa s.aj.length uoc,.slice da7 S7.ai.length dc7,.slice uta s.ah.length utc,.slice uka s.marks.length ukc,.slice ura s.ring.length urc⟩) (om:=om) (oe:=oe) (os:=none) (oo:=oo5) (ox:=xo) (r:=R7) ti7 qh hw (by rw[ro7.1];omega) (by rw[ro7.2.2.1];simp) i7p i7d (by rw[f7.o];exact io.up le17) (by rw[f7.l]) (by rw[f7.l];exact okm) rfl (by rw[f7.e];exact oke) rfl okx7 rfl (by rw[ro7.1];exact ok5) rfl (by rw[ro7.2.2.1];rfl) fun h8 pv8 dv8 ov8 om8 oe8 os8 oo8 le8 i8p i8d i8o okm8 oke8 oks8 oko8 okx8=>ZP ?_));rw[f7.ep,<- hte,<- hS8]at i8p i8d i8o okm8 oke8 okx8;rw[f7.ep,<- hte,<- hR8]at oks8 oko8;rw[f7.ep,<- hte,<- hS8,<- hR8];obtain⟨pa8,pc8,rfl,_⟩:=i8p.open;obtain⟨da8,dc8,rfl,_⟩:=i8d.open;obtain⟨oa8,oc8,rfl,_⟩:=i8o.open;have le18:=le17.trans le8;refine xx ?_
 refine Zb.fin (Zb.weaken (Za.perm _ Yhv) (Zb.apn (Zty (s:=S8) (v:=⟨.slice pa8 S8.ag.length pc8,ovs om8 S8.ae.length,ovs oe8 S8.entry.length,ovs xo S8.exit.length,.slice oa8 S8.aj.length oc8,.slice da8 S8.ai.length dc8,.slice uta s.ah.length utc,.slice uka s.marks.length ukc,.slice ura s.ring.length urc⟩) (om:=om8) (od:=none) (r:=R8) ti8 hA8 (by rw[ro8.2.1];simp) i8p ⟨uq,it1.up le18,it2.trans (g8.trans f7.t).symm,fun x hx=>(it3 x hx).up le18⟩ rfl okm8 rfl (by rw[ro8.2.1];rfl) fun h9 pv9 tv9 od9 le9 i9p i9t okd9 ap nd=>⟨_,_,Za.perm _ Yui,?_⟩)));have hb5:h9 b5=noC:=ap.1;obtain⟨hb3,hb2,hb1,_⟩:=Ap.oent (Ap.oent (Ap.oent (Ap.oent (Ap.oent (Ap.oent ap.2)))));simp only at hb3 hb2 hb1;clear ap nd;rw[<- hS9]at i9p i9t;rw[<- hR9]at okd9;rw[<- hS9,<- hR9];have m9:S9.ae=S8.ae:=by rw[hS9];rfl
 have en9:S9.entry=S8.entry:=by rw[hS9];rfl
 have x9:S9.exit=S8.exit:=by rw[hS9];rfl
 have d9:S9.ai=S8.ai:=by rw[hS9];rfl
 have o9:S9.aj=S8.aj:=by rw[hS9];rfl
 have k9:S9.marks=s.marks:=by rw[hS9];exact c8.trans f7.k
 have r9:S9.ring=s.ring:=by rw[hS9];exact d8.trans f7.r
 have ep9:S9.ep=s.ep:=by rw[hS9];exact b8.trans f7.ep
 have ro9:R9.out=R8.out/\R9.left=R8.left/\R9.started=R8.started:=by rw[hR9];exact⟨rfl,rfl,rfl⟩
 have dn9:(∀z∈R9.done,0<=z/\z<((128:Nat):Int)):=by
  rw[hR9];have hmn:=ti8.mn;have hL:(moL S8).length=S8.ah.length:=List.length_map _;exact Yjg qh (fun z hz=>by have:=(Zeo (s:=S8) R8).2 z hz;omega) (fun z hz=>by rw[ro8.2.1]at hz;cases hz) _ (Nat.le_refl _)
 rw[<- m9]at okm8;rw[<- en9]at oke8;rw[<- x9]at okx8;rw[<- ro9.1]at oko8;rw[<- ro9.2.2]at oks8;rw[<- m9,<- en9,<- x9,<- ro9.1,<- ro9.2.2];obtain⟨pa9,pc9,rfl,_⟩:=i9p.open;obtain⟨q9,i9t1,i9t2,i9t3⟩:=i9t;obtain⟨ta9,tc9,rfl,_⟩:=i9t1.open;have le19:=le18.trans le9;have i8d9:Zd Yh 3 h9 (.slice da8 S8.ai.length dc8) S9.ai:=by rw[d9];exact i8d.up le9
 have i8o9:Zd UK 4 h9 (.slice oa8 S8.aj.length oc8) S9.aj:=by rw[o9];exact i8o.up le9
 refine xx ?_;refine Z4 (.tk 0 (.tk 1 (.tk 2 (.tk 3 (.tk 5 (.tkl 4 (.tkl 6 (.tk 7 (.fin))))))))) qg qg _ (Za.refl _ _) ?_;simp -dsimp -implicitDefEqProofs (disch:=first|exact dD|fail) [go_sem,Yra];refine Y6 (fun c=>?_) (fun c=>?_)
 ·have e10:US s=(S9,R9):=by rw[US,e9,if_pos c]
  have eT:WM s=seS S9:=by rw[WM,e10]
  have eR:WH s=R9:=by rw[WH,e10]
  have tiE:Zq S9 29400:=ti9.mono qh;have iP:=i9p;have iD:=i8d9;have kE:=k9;have rE:=r9;have mE:S9.ah=S9.ah:=rfl;have oE:S9.aj=S9.aj:=rfl;have nE:S9.entry=S9.entry:=rfl;have okmE:=okm8;have okxE:=okx8;have okoE:=oko8;have obE:∀z∈R9.out,0<=z/\z<((128:Nat):Int):=by rw[ro9.1];exact ro8.2.2.1
  have olE:R9.out.length<=1000:=by rw[ro9.1];omega
  have leE:=le19;have leE9:=PH.le_refl h9;have lE:R9.left=lvW S5/\R9.started=R9.started/\R9.done=R9.done:=⟨ro9.2.1.trans ro8.1,rfl,rfl⟩
  refine xx ?_;have ml10:S9.ae.length<=128:=tiE.ml;have lenS:(seS S9).ae.length=S9.ae.length:=Wp _ _ _;refine Zb.fin (Zb.weaken (Za.perm _ Yil) (Zb.apn (Zcm (s:=S9) (v:=⟨.slice pa9 S9.ag.length pc9,ovs om8 S9.ae.length,ovs oe8 S9.entry.length,ovs xo S9.exit.length,.slice oa8 S8.aj.length oc8,.slice da8 S8.ai.length dc8,.slice ta9 q9.length tc9,.slice uka s.marks.length ukc,.slice ura s.ring.length urc⟩) (om:=om8) (r:=R9) (q:=⟨ovs oo8 R9.out.length,.slice la7 (lvW S5).length lc7,ovs os8 R9.started.length,ovs od9 R9.done.length⟩) tiE (by rw[kE];exact ik.up leE) ⟨uqr,ir1.up leE,ir2.trans rE.symm⟩ (by rw[rE];exact few.r) (by rw[rE];exact few.b) (by rw[kE];exact few.k) rfl okmE fun hz kvz rvz lez iz1 iz2 ap nd=>?_)));obtain⟨kza,kzc,rfl,_⟩:=iz1.open;obtain⟨qz,z1,z2⟩:=iz2;obtain⟨rza,rzc,rfl,_⟩:=z1.open;have ap:=Ap.perm Zgj ap;have nd:=Nd.perm Zgj nd;have eln:=WR tiE.en;have elx:=WR tiE.ex;obtain⟨g1,l1,dr1,sl1,ap,nd⟩:=Jc (n:=(seS S9).ae.length) wM (Z1 Z8 _) qf ap nd;obtain⟨g2,l2,dr2,sl2,ap,nd⟩:=Jc (n:=R9.out.length) (sz:=1) okoE qj qf ap nd;obtain⟨g3,l3,dr3,sl3,ap,nd⟩:=Jc (n:=S9.exit.length) (sz:=1) okxE qj qf ap nd;obtain⟨g4,l4,dr4,sl4,ap,nd⟩:=Jc (n:=R9.done.length) (sz:=1) okd9 qj (Un okd9) ap nd;obtain⟨g5,l5,dr5,sl5,ap,nd⟩:=Jc (n:=S9.entry.length) (sz:=1) oke8 qj (Un oke8) ap nd;obtain⟨g6,l6,dr6,sl6,ap,nd⟩:=Jc (n:=R9.started.length) (sz:=1) oks8 qj (Un oks8) ap nd;refine⟨_,_,(Za.perm _ Zgj).trans (dr1.trans (dr2.trans (dr3.trans (dr4.trans (dr5.trans dr6))))),?_⟩;obtain⟨hc5,hc3,hc2,hc1,_⟩:=ap;simp only at hc5 hc3 hc2 hc1;clear nd dr1 dr2 dr3 dr4 dr5 dr6;have m56:=l5.trans l6;have m46:=l4.trans m56;have m36:=l3.trans m46;have m26:=l2.trans m36;have mz6:=lez.trans (l1.trans m26)
  have hIS:Zp g6 ⟨.slice pa9 S9.ag.length pc9,ovs om8 S9.ae.length,ovs oe8 S9.entry.length,ovs xo S9.exit.length,.slice oa8 S8.aj.length oc8,.slice da8 S8.ai.length dc8,.slice ta9 q9.length tc9,.slice kza (List.replicate 16 (0:Int)).length kzc,.slice rza qz.length rzc⟩ (WM s):=by
   rw[eT];have hn:=tiE.ok.n;have hp1:=tiE.ep;simp only[List.forall_mem_cons]at hn;refine⟨⟨tiE.ok.p,tiE.ok.u,?_⟩,iP.up mz6,?_,?_,?_,?_,?_,fun x hx=>(tiE.oo x hx).1,iD.up mz6,fun x hx=>(tiE.dd x hx).1,⟨q9,i9t1.up (leE9.trans mz6),i9t2.trans mE.symm,fun x hx=>(i9t3 x hx).up (leE9.trans mz6)⟩,iz1.up (l1.trans m26),?_⟩
   ·show ∀z∈[S9.ep+1,S9.calm],_;simp only[List.forall_mem_cons];exact⟨qf,hn.2⟩
   ·have:=Zd.pub (f:=YD) (w:=6) (l:=(seS S9).ae) (o:=om8) Z8 (sl1.up m26);rw[lenS]at this;exact this
   ·exact Zaw Zf (fun m hm=>Zaa tiE.ok.p tiE.r hm) tiE.be.m _ (Nat.le_refl _)
   ·exact Uh (st:=1) (by show JU S9.ae S9.entry 1;exact tiE.en) ml10 (by show Sl _ _ S9.entry.length 1 (S9.entry.map _);rw[nE];exact sl5.up l6)
   ·exact Uh (st:=3) (by show JU S9.ae S9.exit 3;exact tiE.ex) ml10 (sl3.up m46)
   ·show Zd UK 4 g6 _ S9.aj;rw[oE];exact i8o9.up (leE9.trans mz6)
   ·exact⟨qz,z1.up (l1.trans m26),z2⟩
  have hRP:Zt g6 ⟨ovs oo8 R9.out.length,.slice la7 (lvW S5).length lc7,ovs os8 R9.started.length,ovs od9 R9.done.length⟩ (WH s):=by
   rw[eR];refine⟨Zva (sl2.up m36) fun z hz=>wJ,by rw[lE.1];exact i7l.up ((le8.trans (le9.trans leE9)).trans mz6),?_,?_⟩
   ·rw[lE.2.1];exact Zva sl6 fun z hz=>by have:=ro8.2.2.2.1 z wB;omega
   ·rw[lE.2.2];exact Zva (sl4.up m56) fun z hz=>by have:=dn9 z hz;omega
  have hk:=hk g6 _ _ (le1.trans (leE.trans mz6)) hIS hRP;rw[eT,eR]at hk;refine xx ?_;refine Z4 (.tk 0 (.tk 1 (.tk 2 (.tk 4 (.tk 5 (.tk 6 (.tkl 3 (.o1 7 (.o2 8 (.o2 9 (.tk 10 (.fin)) (.nil)) (.nil)) (.o2 8 (.o1 7 (.o2 9 (.tk 10 (.fin)) (.nil)) (.nil)) (.nil)))))))))) qg qg _ (Za.refl _ _) ?_
  repeat' first
   | with_reducible refine Yf ?_ ?_
   | simp -dsimp -implicitDefEqProofs (disch:=first|exact dD|fail) [go_sem]
   | fail
  all_goals exact ZO (ZO (ZO (ZO (ZP hk))))
 ·have e10:US s=Yfz t (ajS S9,R9):=by rw[US,e9,if_neg c,show atP s=t from hte.symm]
  refine xx ?_;refine Zb.fin (Zb.weaken (Za.perm _ permT5) (Zno (s:=S9) (v:=⟨.slice pa9 S9.ag.length pc9,ovs om8 S9.ae.length,ovs oe8 S9.entry.length,ovs xo S9.exit.length,.slice oa8 S8.aj.length oc8,.slice da8 S8.ai.length dc8,.slice ta9 q9.length tc9,.slice uka s.marks.length ukc,.slice ura s.ring.length urc⟩) (om:=om8) (oo:=oo8) (ox:=xo) (r:=R9) (q:=⟨ovs oo8 R9.out.length,.slice la7 (lvW S5).length lc7,ovs os8 R9.started.length,ovs od9 R9.done.length⟩) ti9 qh i9p i8d9 rfl okm8 hw rfl okx8 rfl oko8 (by rw[ro9.1];omega) fun h10 pv10 d10 oo10 le10 i10p i10d ok10=>⟨_,_,Za.perm _ permT5.symm,?_⟩));rw[ep9,<- hte]at i10d ⊢;have tiE:Zq (ejS (ajS S9) t (ajS S9).ae.length) 29400:=by
   have h1:Zq (ajS S9) 29256:=Zfb ti9 (Nat.le_refl _);exact(Zcx h1 ht (Nat.le_refl _)).mono (by have:=h1.ml;omega)
  have l10:(ejS (ajS S9) t (ajS S9).ae.length).ae.length=S9.ae.length:=(Ztj (ajS S9) t).l.trans (Vl S9.par (S9.ae,S9.ag) S9.ae.length).1;have x10:(ejS (ajS S9) t (ajS S9).ae.length).exit.length<=S9.exit.length:=Zdd _ _ _ _;have ou10:(ejR (ajS S9) R9 (ajS S9).ae.length).out=R9.out++ouN (ajS S9).par (ajS S9).ae (ajS S9).ae.length:=rfl;have la10:(ajS S9).ae.length<=128:=by rw[show (ajS S9).ae.length=S9.ae.length from(Vl S9.par (S9.ae,S9.ag) S9.ae.length).1];exact ti9.ml
  obtain⟨S10,hS10⟩:∃x,x=ejS (ajS S9) t (ajS S9).ae.length:=⟨_,rfl⟩
  obtain⟨R10,hR10⟩:∃x,x=ejR (ajS S9) R9 (ajS S9).ae.length:=⟨_,rfl⟩
  rw[<- hS10]at i10d tiE l10 x10;rw[<- hR10]at ok10 ou10;rw[<- hS10,<- hR10];have eT:WM s=seS S10:=by rw[WM,e10,hS10];rfl
  have eR:WH s=R10:=by rw[WH,e10,hR10];rfl
  have eP10:(ajS S9).ag=S10.ag:=by rw[hS10];rfl
  rw[eP10]at i10p;obtain⟨pa10,pc10,rfl,_⟩:=i10p.open;obtain⟨da10,dc10,rfl,_⟩:=i10d.open;have iP:=i10p;have iD:=i10d;have kE:S10.marks=s.marks:=by rw[hS10];exact k9
  have rE:S10.ring=s.ring:=by rw[hS10];exact r9
  have mE:S10.ah=S9.ah:=by rw[hS10];rfl
  have oE:S10.aj=S9.aj:=by rw[hS10];rfl
  have nE:S10.entry=S9.entry:=by rw[hS10];rfl
  have okmE:okO om8 S10.ae.length:=by rw[l10];exact okm8
  have okxE:okO xo S10.exit.length:=Zkn okx8 x10;have okoE:=ok10;have obE:∀z∈R10.out,0<=z/\z<((128:Nat):Int):=fun z hz=>by
   rw[ou10]at hz;rcases List.mem_append.1 hz with hz|hz
   ·rw[ro9.1]at hz;exact ro8.2.2.1 z hz
   ·have:=Ypg _ _ _ z hz;omega
  have olE:R10.out.length<=1000:=by
   rw[ou10,List.length_append,ro9.1];have:=Gg (ajS S9).par (ajS S9).ae (ajS S9).ae.length;omega
  have leE:=le19.trans le10;have leE9:=le10;have lE:R10.left=lvW S5/\R10.started=R9.started/\R10.done=R9.done:=by rw[hR10];exact⟨ro9.2.1.trans ro8.1,rfl,rfl⟩
  refine xx ?_;have ml10:S10.ae.length<=128:=tiE.ml;have lenS:(seS S10).ae.length=S10.ae.length:=Wp _ _ _;refine Zb.fin (Zb.weaken (Za.perm _ Yil) (Zb.apn (Zcm (s:=S10) (v:=⟨.slice pa10 S10.ag.length pc10,ovs om8 S9.ae.length,ovs oe8 S9.entry.length,ovs xo S10.exit.length,.slice oa8 S8.aj.length oc8,.slice da10 S10.ai.length dc10,.slice ta9 q9.length tc9,.slice uka s.marks.length ukc,.slice ura s.ring.length urc⟩) (om:=om8) (r:=R10) (q:=⟨ovs oo10 R10.out.length,.slice la7 (lvW S5).length lc7,ovs os8 R9.started.length,ovs od9 R9.done.length⟩) tiE (by rw[kE];exact ik.up leE) ⟨uqr,ir1.up leE,ir2.trans rE.symm⟩ (by rw[rE];exact few.r) (by rw[rE];exact few.b) (by rw[kE];exact few.k) (by rw[l10]) okmE fun hz kvz rvz lez iz1 iz2 ap nd=>?_)));obtain⟨kza,kzc,rfl,_⟩:=iz1.open;obtain⟨qz,z1,z2⟩:=iz2;obtain⟨rza,rzc,rfl,_⟩:=z1.open;have ap:=Ap.perm Zgj ap;have nd:=Nd.perm Zgj nd;have eln:=WR tiE.en;have elx:=WR tiE.ex;obtain⟨g1,l1,dr1,sl1,ap,nd⟩:=Jc (n:=(seS S10).ae.length) wM (Z1 Z8 _) qf ap nd;obtain⟨g2,l2,dr2,sl2,ap,nd⟩:=Jc (n:=R10.out.length) (sz:=1) okoE qj qf ap nd;obtain⟨g3,l3,dr3,sl3,ap,nd⟩:=Jc (n:=S10.exit.length) (sz:=1) okxE qj qf ap nd;obtain⟨g4,l4,dr4,sl4,ap,nd⟩:=Jc (n:=R9.done.length) (sz:=1) okd9 qj (Un okd9) ap nd;obtain⟨g5,l5,dr5,sl5,ap,nd⟩:=Jc (n:=S9.entry.length) (sz:=1) oke8 qj (Un oke8) ap nd;obtain⟨g6,l6,dr6,sl6,ap,nd⟩:=Jc (n:=R9.started.length) (sz:=1) oks8 qj (Un oks8) ap nd;refine⟨_,_,(Za.perm _ Zgj).trans (dr1.trans (dr2.trans (dr3.trans (dr4.trans (dr5.trans dr6))))),?_⟩;obtain⟨hc5,hc3,hc2,hc1,_⟩:=ap;simp only at hc5 hc3 hc2 hc1;clear nd dr1 dr2 dr3 dr4 dr5 dr6;have m56:=l5.trans l6;have m46:=l4.trans m56;have m36:=l3.trans m46;have m26:=l2.trans m36;have mz6:=lez.trans (l1.trans m26)
  have hIS:Zp g6 ⟨.slice pa10 S10.ag.length pc10,ovs om8 S9.ae.length,ovs oe8 S9.entry.length,ovs xo S10.exit.length,.slice oa8 S8.aj.length oc8,.slice da10 S10.ai.length dc10,.slice ta9 q9.length tc9,.slice kza (List.replicate 16 (0:Int)).length kzc,.slice rza qz.length rzc⟩ (WM s):=by
   rw[eT];have hn:=tiE.ok.n;have hp1:=tiE.ep;simp only[List.forall_mem_cons]at hn;refine⟨⟨tiE.ok.p,tiE.ok.u,?_⟩,iP.up mz6,?_,?_,?_,?_,?_,fun x hx=>(tiE.oo x hx).1,iD.up mz6,fun x hx=>(tiE.dd x hx).1,⟨q9,i9t1.up (leE9.trans mz6),i9t2.trans mE.symm,fun x hx=>(i9t3 x hx).up (leE9.trans mz6)⟩,iz1.up (l1.trans m26),?_⟩
   ·show ∀z∈[S10.ep+1,S10.calm],_;simp only[List.forall_mem_cons];exact⟨qf,hn.2⟩
   ·have:=Zd.pub (f:=YD) (w:=6) (l:=(seS S10).ae) (o:=om8) Z8 (sl1.up m26);rw[lenS]at this;exact(by rw[l10]at this;exact this)
   ·exact Zaw Zf (fun m hm=>Zaa tiE.ok.p tiE.r hm) tiE.be.m _ (Nat.le_refl _)
   ·exact Uh (st:=1) (by show JU S10.ae S10.entry 1;exact tiE.en) ml10 (by show Sl _ _ S10.entry.length 1 (S10.entry.map _);rw[nE];exact sl5.up l6)
   ·exact Uh (st:=3) (by show JU S10.ae S10.exit 3;exact tiE.ex) ml10 (sl3.up m46)
   ·show Zd UK 4 g6 _ S10.aj;rw[oE];exact i8o9.up (leE9.trans mz6)
   ·exact⟨qz,z1.up (l1.trans m26),z2⟩
  have hRP:Zt g6 ⟨ovs oo10 R10.out.length,.slice la7 (lvW S5).length lc7,ovs os8 R9.started.length,ovs od9 R9.done.length⟩ (WH s):=by
   rw[eR];refine⟨Zva (sl2.up m36) fun z hz=>wJ,by rw[lE.1];exact i7l.up ((le8.trans (le9.trans leE9)).trans mz6),?_,?_⟩
   ·rw[lE.2.1];exact Zva sl6 fun z hz=>by have:=ro8.2.2.2.1 z wB;omega
   ·rw[lE.2.2];exact Zva (sl4.up m56) fun z hz=>by have:=dn9 z hz;omega
  have hk:=hk g6 _ _ (le1.trans (leE.trans mz6)) hIS hRP;rw[eT,eR]at hk;refine xx ?_;refine Z4 (.tk 0 (.tk 1 (.tk 2 (.tk 4 (.tk 5 (.tk 6 (.tkl 3 (.o1 7 (.o2 8 (.o2 9 (.tk 10 (.fin)) (.nil)) (.nil)) (.o2 8 (.o1 7 (.o2 9 (.tk 10 (.fin)) (.nil)) (.nil)) (.nil)))))))))) qg qg _ (Za.refl _ _) ?_
  repeat' first
   | with_reducible refine Yf ?_ ?_
   | simp -dsimp -implicitDefEqProofs (disch:=first|exact dD|fail) [go_sem]
   | fail
  all_goals exact ZO (ZO (ZO (ZO (ZP hk))))
theorem Yjt {s:Zg}{D:Nat}(ti:Zq s D)(ms:∀m∈s.ae,MI s.par m):Zq (tk7 s).1 (D+192)/\Fr s (tk7 s).1/\Zq (tk8 s).1 (D+256)/\(∀m∈(tk8 s).1.ae,MI s.par m/\MF s.par m)/\(tk8 s).1.par=s.par/\(tk8 s).1.ep=s.ep/\(tk8 s).1.ae.length<=128:=by
 have hpc:=Yc ti.r;have hep:=ti.ep;have hml:=ti.ml;have hA:=Zer ti.ml ms;have ht:0<=atP s/\atP s<=2147483647:=by unfold atP;omega
 have hact:0<=Vi s/\Vi s<=18446744073709551615:=by
  have:=Uj (ks:=s.marks) ti.be.m;have e:Vi s=Uu s.ae:=rfl;omega
 have ti2:Zq (tk2 s).1 D:=Ydm ti;have f2:Fr s (tk2 s).1:=Yde s;have m2:∀m∈(tk2 s).1.ae,MI s.par m:=wg_ms ti ms;have ra2:0<=(tk2 s).2.act/\(tk2 s).2.act<=18446744073709551615:=hact;obtain⟨S2,hS2⟩:∃x,x=(tk2 s).1:=⟨_,rfl⟩
 obtain⟨R2,hR2⟩:∃x,x=(tk2 s).2:=⟨_,rfl⟩
 have rb2:R2.aC=0:=by rw[hR2];rfl
 have e3:tk3 s=(mtS S2 R2,mtR S2 R2):=by rw[hS2,hR2];rfl
 rw[<- hS2]at ti2 f2 m2;rw[<- hR2]at ra2;have ti3:=Yga ti2 ra2;have f3:=f2.next (Ygc S2 R2);have m3:∀m∈(mtS S2 R2).ae,MI s.par m:=by
  rw[<- f2.par]at m2 ⊢;exact Ypy ti2 ra2 m2 _ (Nat.le_refl _)
 have rb3:(mtR S2 R2).aC=0:=rb2;obtain⟨S3,hS3⟩:∃x,x=mtS S2 R2:=⟨_,rfl⟩
 obtain⟨R3,hR3⟩:∃x,x=mtR S2 R2:=⟨_,rfl⟩
 rw[<- hS3]at ti3 f3 m3 e3;rw[<- hR3]at rb3 e3;have e4:tk4 s=(fnS S3 R3,fnR S3 R3 S3.ae.length):=by unfold tk4;rw[e3]
 have ti4:=Yfy ti3 rb3;have f4:=f3.next (Ygm S3 R3);have m4:∀m∈(fnS S3 R3).ae,MI s.par m:=by
  rw[<- f3.par]at m3 ⊢;exact fn_ms ti3 R3 m3
 obtain⟨S4,hS4⟩:∃x,x=fnS S3 R3:=⟨_,rfl⟩
 rw[<- hS4]at ti4 f4 m4 e4;have e5:(tk5 s).1=ejS S4 (atP s) S4.ae.length:=by unfold tk5;rw[e4];rfl
 have ti5:=Zcx ti4 ht (Nat.le_refl S4.ae.length);have f5:=f4.next (Ztj S4 (atP s));have m5:∀m∈(ejS S4 (atP s) S4.ae.length).ae,MI s.par m/\MF s.par m:=by
  rw[<- f4.par]at m4 ⊢;exact Yry ti4.r _ m4
 rw[<- e5]at ti5 f5 m5;have l4:=f4.l;have ti7:Zq (tk7 s).1 (D+192):=(Yna ti5 ht).mono qf;have f7:Fr s (tk7 s).1:=f5.next (Ydx (tk5 s).1 (atP s));have m7:∀m∈(tk7 s).1.ae,MI s.par m/\MF s.par m:=by
  rw[<- f5.par]at m5 ⊢;exact Ysh ti5.r (atP s) _ m5 _
 have ti8:Zq (tk8 s).1 (D+256):=Ylj ti7 (tk7 s).2 ht;have m8:∀m∈(tk8 s).1.ae,MI s.par m/\MF s.par m:=by
  rw[<- f7.par]at m7 ⊢;exact en_ms ti7 (tk7 s).2 (atP s) m7
 obtain⟨a8,b8,_⟩:=Ynb (tk7 s).1 (tk7 s).2 (atP s);exact⟨ti7,f7,ti8,m8,a8.trans f7.par,b8.trans f7.ep,ti8.ml⟩
structure Rs (a b:Zi):Prop where
 ep:b.ep=a.ep
 mode:b.mode=a.mode
 quo:b.quo=a.quo
 pres:b.pres=a.pres
 act:b.act=a.act
 aB:b.aB=a.aB
 aU:b.aU=a.aU
 kept:b.kept=a.kept
theorem Rs.next {a b c:Zi}(h:Rs a b)(h2:Rs b c):Rs a c:=⟨h2.ep.trans h.ep,h2.mode.trans h.mode,h2.quo.trans h.quo,h2.pres.trans h.pres,h2.act.trans h.act,h2.aB.trans h.aB,h2.aU.trans h.aU,h2.kept.trans h.kept⟩
theorem rs7 (s:Zg):Rs (tk3 s).2 (tk7 s).2:=⟨rfl,rfl,rfl,rfl,rfl,rfl,rfl,rfl⟩
theorem rs8 (s:Zg):Rs (tk7 s).2 (tk8 s).2:=by
 show Rs _ (enR (tk7 s).1 (tk7 s).2 (atP s));unfold enR;split
 ·exact⟨rfl,rfl,rfl,rfl,rfl,rfl,rfl,rfl⟩
 ·exact⟨rfl,rfl,rfl,rfl,rfl,rfl,rfl,rfl⟩
theorem rs9 (s:Zg):Rs (tk8 s).2 (tk9 s).2:=⟨rfl,rfl,rfl,rfl,rfl,rfl,rfl,rfl⟩
theorem rs10 (s:Zg):Rs (tk9 s).2 (WH s):=by
 unfold WH US;split
 ·exact⟨rfl,rfl,rfl,rfl,rfl,rfl,rfl,rfl⟩
 ·exact⟨rfl,rfl,rfl,rfl,rfl,rfl,rfl,rfl⟩
theorem rsT (s:Zg):Rs (tk3 s).2 (WH s):=(rs7 s).next ((rs8 s).next ((rs9 s).next (rs10 s)))
theorem Ydr (s:Zg):(WH s).ep=s.ep/\(WH s).mode=Vn s/\(WH s).quo=(Vo s.calm (Je s) (Vi s)).2/\(WH s).pres=Je s/\(WH s).act=Vi s /\
  (WH s).aB=mtN (wgS s) (wgR s (r0P s))/\(WH s).aU=tot (mtP (wgS s) (wgR s (r0P s)))/\(WH s).kept=mtN (wgS s) (wgR s (r0P s))-tot (mtP (wgS s) (wgR s (r0P s))):=by
 have h:=rsT s;refine⟨h.ep,h.mode,h.quo,h.pres,h.act,h.aB,?_,h.kept⟩;rw[h.aU];show (0:Int)+YE (mtP (wgS s) (wgR s (r0P s))) (mtW (wgS s)).length=_;have e:(mtP (wgS s) (wgR s (r0P s))).length=(mtW (wgS s)).length:=by rw[mtP,UD,mtL,List.length_map];rfl
 rw[tot,e];omega
theorem calm7 (s:Zg):(tk7 s).1.calm=(Vo s.calm (Je s) (Vi s)).1:=rfl
theorem Yji (s:Zg)(r:Zi)(t:Int):(enS s r t).calm=s.calm:=by
 unfold enS;split<;>rfl
theorem Yje (s:Zg)(r:Zi)(t:Int):(Yfz t (ajS s,r)).1.calm=s.calm:=rfl
theorem Yko (s:Zg)(r:Zi):(moS s r).calm=s.calm:=rfl
theorem Ylu (s:Zg):(seS s).calm=s.calm:=rfl
theorem Zjb (s:Zg):(WM s).calm=(Vo s.calm (Je s) (Vi s)).1:=by
 have e8:(tk8 s).1.calm=(Vo s.calm (Je s) (Vi s)).1:=(Yji (tk7 s).1 (tk7 s).2 (atP s)).trans (calm7 s);have e9:(tk9 s).1.calm=(tk8 s).1.calm:=Yko (tk8 s).1 (tk8 s).2;have e10:(US s).1.calm=(tk9 s).1.calm:=by
  by_cases c:(tk9 s).1.par=s.par
  ·rw[US,if_pos c]
  ·rw[US,if_neg c];exact Yje _ _ _
 have eS:(WM s).calm=(US s).1.calm:=Ylu (US s).1;rw[eS,e10,e9,e8]
def Zlb:Ze where
 inc:=10
 aF:=30
 floor:=10
 cap:=40
 up:=10
 down:=5
 aP:=4
 aQ:=100
 aO:=8
 aH:=50
 recover:=2
 aA:=100
 rate:=1048576
 aX:=1
 delay:=2
 ak:=4
 aS:=100
 aJ:=100
 aG:=5000
 aK:=2
 wait:=2
 aW:=2
 aN:=1
 aI:=3000
def Zcy:ZA:=⟨Zlb,1073741824,[500,200],[⟨0,25⟩,⟨1,40⟩]⟩
theorem Yfi:Zj Zlb:=by
 constructor
 ·intro z hz;simp only[WZ,Zlb,List.mem_cons,List.not_mem_nil,or_false]at hz;omega
 ·intro z hz;simp only[YA,Zlb,List.mem_cons,List.not_mem_nil,or_false]at hz;omega
theorem Ziv (hk:K (WS Zlb) L h):Zb prog 135 [] L h K:=by
 refine ed func135 ?_;refine xx ?_;refine ZY fun b0 nb0 zb0=>?_;(try simp only[ZS]at nb0);refine xx ?_;exact ZO (ZP hk)
theorem Zja (hk:∀h' pa pc fa fc,PH.le h h'->ZH h' (.slice pa 2 pc) (.slice fa 2 fc) Zcy->K (genV Zcy (.slice pa 2 pc) (.slice fa 2 fc)) L h'):Zb prog 51 [] L h K:=by
 refine ed func51 ?_;refine xx ?_;refine ZY fun b0 nb0 zb0=>?_;(try simp only[ZS]at nb0);refine xx ?_;refine Ziv ?_;refine xx ?_;refine ZY fun b1 nb1 zb1=>?_;(try simp only[ZS]at nb1);refine xx ?_;refine ZY fun b2 nb2 zb2=>?_;(try simp only[ZS]at nb2);refine xx ?_;have s1:Sl (pub h b1 [.int .u64 500,.int .u64 200]) (.slice (some ⟨b1,0,none⟩) 2 2) 2 1 [.int .u64 500,.int .u64 200]:=WE (o:=some (b1,2)) ⟨Nat.le_refl _,zX⟩ rfl qh;have s2:Sl (pub (pub h b1 [.int .u64 500,.int .u64 200]) b2 [.int .i64 0,.int .u64 25,.int .i64 1,.int .u64 40]) (.slice (some ⟨b2,0,none⟩) 2 2) 2 2 [.int .i64 0,.int .u64 25,.int .i64 1,.int .u64 40]:=WE (o:=some (b2,2)) ⟨Nat.le_refl _,zX⟩ rfl qh;have n2:(pub h b1 [.int .u64 500,.int .u64 200]) b2=noC:=Vt (o:=some (b1,2)) (by first|exact nb2.1|exact Ne.symm nb2.1) zb2;have l1:=GO (h:=h) zb1 [.int .u64 500,.int .u64 200];have l2:=GO n2 [.int .i64 0,.int .u64 25,.int .i64 1,.int .u64 40];refine⟨L,_,?_,hk _ _ _ _ _ (l1.trans l2) ⟨Yfi,qh,⟨s1.up l2,fun z hz=>?_⟩,⟨Ydh,s2⟩,fun x hx=>?_⟩⟩
 ·first
  | exact(Za.perm _ (List.Perm.swap _ _ _)).trans ((WJ b1 _ _ _ [] _ h qh).trans ((WJ b2 _ _ _ [] _ _ qh).trans (Za.tail _ _ _)))
  | exact(WJ b1 _ _ _ [_] _ h qh).trans ((WJ b2 _ _ _ [] _ _ qh).trans (Za.tail _ _ _))
 ·simp only[Zcy,List.mem_cons,List.not_mem_nil,or_false]at hz;rw[show IntKind.u64.min=0 from qh,show IntKind.u64.max=18446744073709551615 from qh];omega
 ·simp only[Zcy,List.mem_cons,List.not_mem_nil,or_false]at hx;rcases hx with rfl|rfl
  ·exact⟨qh,qh⟩
  ·exact⟨qh,qh⟩
def simpS:Zg:=⟨Zlb,1073741824,765,0,0,0,0,0,false,[500,200],[⟨25,20,0,0,0,2⟩,⟨40,30,0,0,1,2⟩],[],[],[],[],[],List.replicate 16 0,[]⟩
theorem Zio:Zrl Zcy=true:=by decide +kernel
theorem Yes:Yha Zcy=simpS:=by
 rw[Yha,Zio];show Yia Zcy=simpS;have e1:tot (Ue Zcy)=765:=qE;have e2:Wi Zlb 25=20:=qE;have e3:Wi Zlb 40=30:=qE;rw[Yia,e1];simp only[simpS,Zcy,List.map_cons,List.map_nil,Zvw,e2,e3]
theorem Zwk:Zy simpS:=by
 constructor<;>decide
theorem Ztb:YY simpS=true:=by decide +kernel
theorem Znb {pv fv:Value}(hg:ZH h pv fv Zcy)(hk:∀h' u,PH.le h h'->Zp h' u simpS->K (.tuple #[stV simpS u,.int .i64 0]) L h'):Zb prog 50 [genV Zcy pv fv] L h K:=by
 have e:=Yes;refine Ylz pv fv hg qh fun h' u le hs=>?_;rw[e,Zio]at *;exact hk h' u le hs
end Go.X

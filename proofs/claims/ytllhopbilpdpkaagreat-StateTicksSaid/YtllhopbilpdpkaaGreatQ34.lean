/- Lemmas and contracts. Conditions: as each says. -/
import Derived.Test.YtllhopbilpdpkaaGreatQ33
set_option linter.unusedVariables false
set_option linter.unusedSimpArgs false
set_option maxHeartbeats 12800000
set_option maxRecDepth 20000
namespace Go.X
open Go.RowKit Go.Proofs Go.Bl Go.Proofs.Tryz
variable {L:Own} {h:PH} {K:PK}
def csN (f:Zl->Zl)(l:List Zl):Nat->List Zl
 | 0=>l
 | k+1=>(csN f l k).set k (f (gr Yb l k))
theorem UP (f:Zl->Zl)(l:List Zl):∀k,(csN f l k).length=l.length
 | 0=>rfl
 | k+1=>by rw[csN,List.length_set];exact UP f l k
theorem Zjx (f:Zl->Zl)(l:List Zl):∀k,k<=l.length->∀j,gr Yb (csN f l k) j=if j<k then f (gr Yb l j) else gr Yb l j
 | 0,_,j=>by simp [csN]
 | k+1,hk,j=>by
  rw[csN,Ybh (by rw[UP];omega)];by_cases e:j=k
  ·subst e;rw[if_pos rfl,if_pos qf]
  ·rw[if_neg e,Zjx f l k qf j];by_cases c:j<k
   ·rw[if_pos c,if_pos qf]
   ·rw[if_neg c,if_neg qf]
theorem Yav (f:Zl->Zl)(l:List Zl):csN f l l.length=l.map f:=by
 refine List.ext_getElem (by rw[UP,List.length_map]) fun j h1 h2=>?_;have hj:j<l.length:=by rwa [UP]at h1
 rw[<- Ye (z:=Yb) h1,Zjx f l _ (Nat.le_refl _),if_pos hj,Ye hj,List.getElem_map]
theorem Zqj (f:Zl->Zl)(l:List Zl){k:Nat}(hk:k<l.length)(hf:f (gr Yb l k)=gr Yb l k):csN f l (k+1)=csN f l k:=by
 have hl:=UP f l k;have h1:=Zjx f l k qf k;rw[if_neg qf,Ye qf]at h1;rw[csN,hf,<- h1,List.set_getElem_self]
structure ClG where
 k:Nat
 h:PH
 q:List QM
theorem permCl {e0 s0:Nat}{o0:Option (Nat×Nat)}{X0:List Value}{a b:Zn}{L:Own}:(a::b::oent e0 s0 o0 X0 L).Perm (oent e0 s0 o0 X0 (a::b::L)):=Z6 [a,b]
theorem permCl3 {e0 s0:Nat}{o0:Option (Nat×Nat)}{X0:List Value}{a b c:Zn}{L:Own}:(a::b::c::oent e0 s0 o0 X0 L).Perm (oent e0 s0 o0 X0 (a::b::c::L)):=Z6 [a,b,c]
theorem Zxn {e sz:Nat}{o:Option (Nat×Nat)}{xs:List Value}(A:Own){L:Own}(ap:Ap (A++oent e sz o xs L) h)(nd:Nd (A++oent e sz o xs L)):apO o (A++L) h:=by
 have ap:=ap.perm (Z6 A);have nd:=nd.perm (Z6 A)
 cases o with
 | none=>trivial
 | some p=>exact⟨nd.1,ap.1⟩
theorem Yff {e sz:Nat}{o:Option (Nat×Nat)}{xs:List Value}{a b:Zn}{L:Own}(ap:Ap (a::b::oent e sz o xs L) h)(nd:Nd (a::b::oent e sz o xs L)):apO o (a::b::L) h:=Zxn [a,b] ap nd
theorem Yfo {e sz:Nat}{o:Option (Nat×Nat)}{xs:List Value}{a b c:Zn}{L:Own}(ap:Ap (a::b::c::oent e sz o xs L) h)(nd:Nd (a::b::c::oent e sz o xs L)):apO o (a::b::c::L) h:=Zxn [a,b,c] ap nd
theorem Zuv {ql:List QM}{ms:List Zl}{l:List Zc}{om:Option (Nat×Nat)}(p:Ze)(ok:Zj p)(hen:0<=p.aN/\p.aN<=1000000)(ep:Int)(hep:0<=ep/\ep<=1073741824)(v:Value)(hv:Zd YQ 33 h v ql)(hq:ql.map (fun x=>x.2.2)=ms)(hm:YU h ql)(hl:ql.length<=1000)(hb:∀m∈ms,m.yes.length<=1000/\m.no.length<=1000)(okm:okO om l.length)(hml:l.length<=1000)(mo:∀x∈l,Zf x)(hA:Uu l<=18446744073709551615)
    (hk:∀h' r ql',PH.le h h'->Zd YQ 33 h' r ql'->ql'.map (fun x=>x.2.2)=Zlc p l ep ms->YU h' ql'->K r (tMo om l L) h') :
    Zb prog 219 [WS p,v,ovs om l.length,.int .i64 ep] (tMo om l L) h K:=by
  have hql:ql.length=ms.length:=qW;have hv0:=hv;obtain⟨va,vc,rfl,_⟩:=hv.open;rw[hql]at hv0 ⊢;obtain⟨f,hf⟩:∃f,f=Jm p l ep:=⟨_,rfl⟩
  obtain⟨N,hN⟩:∃N,N=ms.length:=⟨_,rfl⟩
  refine eH func219 fun ap nd=>?_;have hom:apO om [] h:=Yk ap;have ndo:=nd;clear ap nd;refine xx ?_;refine ZY fun b4 nb4 zb4=>?_;(try simp only[ZS]at nb4);have nm4:apB om b4:=Z3 nb4;clear nb4;refine xx ?_;refine Zb.apn (Zqv _ hv0 hq hm hl hb fun h5 o ql' le5 oko apo eq' mo' ap nd=>?_);have hql':ql'.length=ms.length:=by rw[<- eq',List.length_map]
  have no4:apB o b4:=(Zha nd).1;have nod:Nd (oent 120 33 o (ql'.flatMap YQ) (tMo om l L)):=(Zha nd).2;have hb45:h5 b4=noC:=(Ap.oent ap).1;have hom5:apO om [] h5:=Yk (Ap.oent ap).2;have hom6:apO o [] h5:=Yk ap;clear ap nd apo;obtain⟨oa,oc,eo,_⟩:=Z5 oko;rw[eo];refine xx ?_;rw[<- hN];refine Yi (γ:=ClG) ⟨0,h5,ql'⟩ (fun y=>y.k<=N/\PH.le h5 y.h/\y.q.map (fun x=>x.2.2)=csN f ms y.k/\YU y.h y.q/\y.h b4=noC/\apO om [] y.h/\apO o [] y.h)
    (fun y=>[(18,.int .i64 y.k),(17,.int .i64 N),(9,.slice oa N oc),(2,ovs om l.length),(3,.int .i64 ep),(4,.pointer (some ⟨b4,0,none⟩))])
    (fun y=>oent 120 33 o (y.q.flatMap YQ) (⟨b4,24,Jj p,24⟩::tMo om l L)) (fun y=>y.h) (fun y=>N-y.k) ?_ ?_ ?_ ?_
  · exact⟨Nat.zero_le _,PH.le_refl _,eq',mo',hb45,hom5,hom6⟩
  · simp [Ent,List.lookup,YT,hN]
  · exact Za.refl _ _
  rintro⟨k,h6,q⟩ ⟨k1,le6,eq6,mo6,hb46,hom7,hom8⟩;simp only at k1 le6 eq6 mo6 hb46 hom7 hom8 ⊢;have hql6:q.length=N:=by rw[<- List.length_map (f:=fun x:QM=>x.2.2),eq6,UP,hN]
  by_cases c1:k<N
  · obtain ⟨bo,co,rfl⟩ : ∃ bt cap,o = some (bt,cap) := by
      cases o with
      | none=>have:ms.length=0:=oko;omega
      | some p=>exact⟨_,_,rfl⟩
    simp only[Yl,Value.slice.injEq]at eo;obtain⟨rfl,_,rfl⟩:=eo;have hbo:h6 bo=noC:=hom8.2;have no4':bo≠b4:=no4;have nob:apB om bo:=by
      cases om with
      | none=>trivial
      | some p=>exact nod.1.1
    obtain⟨qk,hqk⟩:∃qk,qk=gr Z0 q k:=⟨_,rfl⟩
    have hkq:k<q.length:=qf;have hmk:Zr h6 qk:=by rw[hqk,Ye hkq];exact mo6 _ (List.getElem_mem _)
    obtain⟨md,hmd⟩:∃md,md=qk.2.2:=⟨_,rfl⟩
    have egr:md=gr Yb ms k:=by
      rw[hmd,hqk,G1 eq6 (by rw[UP];omega),Zjx _ _ _ qf,if_neg qf]
    have hcs:csN f ms (k+1)=(csN f ms k).set k (f md):=by rw[csN,egr]
    have hsame:f md=md->csN f ms (k+1)=csN f ms k:=fun e=>Zqj f ms qf (by rw[<- egr];exact e);have g29:∀(K:Value->Prop) (t:Zm K),VE (q.flatMap YQ) (k*33+28) K t=K (.int .i64 md.ends):=fun K t=>Yu Ya Z0 q hkq qh (by rw[<- hqk,hmd];rfl) K t;have g30:∀(K:Value->Prop) (t:Zm K),VE (q.flatMap YQ) (k*33+30) K t=K (.int .i64 md.state):=fun K t=>Yu Ya Z0 q hkq qh (by rw[<- hqk,hmd];rfl) K t;have g31:∀(K:Value->Prop) (t:Zm K),VE (q.flatMap YQ) (k*33+31) K t=K qk.1:=fun K t=>Yu Ya Z0 q hkq qh qM K t;have g32:∀(K:Value->Prop) (t:Zm K),VE (q.flatMap YQ) (k*33+32) K t=K qk.2.1:=fun K t=>Yu Ya Z0 q hkq qh qM K t;have hk33:=YC (n:=q.length) (w:=33) hkq (m:=32) qh;have hsum:(q.map fun a=>(YQ a).length).sum=q.length*33:=zy;simp only[Z7];by_cases s12:md.state=1/\md.ends<=ep
    rotate_left
    · have e1:f md=md:=by rw[hf,Jm,if_neg s12]
      have e2:=hsame e1;have fin:∀E,Ent E [(18,.int .i64 (k+1:Nat)),(17,.int .i64 N),(9,.slice (some ⟨bo,0,none⟩) N co),(2,ovs om l.length),(3,.int .i64 ep),(4,.pointer (some ⟨b4,0,none⟩))]->True:=fun _ _=>trivial;by_cases s1:md.state=1
      · have s2 : ep < md.ends := by
          have:=fun c=>s12 ⟨s1,c⟩;omega
        refine lS ?_;exact⟨⟨k+1,h6,q⟩,⟨qp,le6,by rw[e2];exact eq6,mo6,hb46,hom7,hom8⟩,qp,qi,Za.refl _ _⟩
      · simp -dsimp -implicitDefEqProofs (disch:=first|exact dD|fail) [go_sem,g29,g30];exact⟨⟨k+1,h6,q⟩,⟨qp,le6,by rw[e2];exact eq6,mo6,hb46,hom7,hom8⟩,qp,qi,Za.refl _ _⟩
    obtain⟨s1,s2⟩:=s12;have hy:=hmk.y;have hn:=hmk.n;obtain⟨ya,yc,ey,_⟩:=hy.open;obtain⟨na,nc,en,_⟩:=hn.open;rw[<- hmd]at hy hn ey en;refine lS ?_;refine YN (.tk 0 (.tk 1 (.tk 2 (.tk 3 (.tk 5 (.tk 6 (.tk 7 (.tkl 4 (.tkl 8 (.o1 9 (.tk 10 (.tk 11 (.tk 12 (.o1 13 (.o2 14 (.tk 15 (.fin)) (.nil)) (.nil))))) (.o1 13 (.o1 9 (.tk 10 (.tk 11 (.tk 12 (.o2 14 (.tk 15 (.fin)) (.nil))))) (.nil)) (.nil)))))))))))) qg qg [(2,ovs om l.length),(3,.int .i64 ep),(4,.pointer (some ⟨b4,0,none⟩)),(9,.slice (some ⟨bo,0,none⟩) N co),(11,.pointer (some ⟨bo,k*33,none⟩)),(17,.int .i64 N),(18,.int .i64 k)] [⟨bo,120,q.flatMap YQ,co*33⟩] (γ:=Nat×PH) (fun y=>PH.le h6 y.2/\y.2 y.1=noC/\b4≠y.1/\bo≠y.1/\apB om y.1/\y.2 b4=noC/\y.2 bo=noC/\apO om [] y.2)
      (fun y=>[(2,ovs om l.length),(3,.int .i64 ep),(4,.pointer (some ⟨b4,0,none⟩)),(9,.slice (some ⟨bo,0,none⟩) N co),(11,.pointer (some ⟨bo,k*33,none⟩)),(17,.int .i64 N),(18,.int .i64 k),(12,.pointer (some ⟨y.1,0,none⟩)),(13,.int .i64 0)])
      (fun y=>⟨y.1,386,[.int .u64 (Jd l md.yes),.int .u64 (Jd l md.no),.int .u64 (Uu l)],3⟩::⟨bo,120,q.flatMap YQ,co*33⟩::⟨b4,24,Jj p,24⟩::tMo om l L) (fun y=>y.2) qi drop1 ?_ ?_
    · repeat' first
        | with_reducible refine Yf ?_ ?_
        | simp -dsimp -implicitDefEqProofs (disch:=first|exact dD|fail) [go_sem,g31,g32]
        | (with_reducible refine ZY fun b12 nb12 zb12 => ?_
           simp only[ZS]at nb12)
        | (with_reducible show WW prog 317 _ _ _ _
           refine Zb.entr fun ap nd=>?_;refine Zb.fin (Zb.weaken (Za.perm _ permCl) (Zb.apn (Zcv om okm (Yff ap nd) _ _ hml mo hy hn hA fun h7 le7 ap nd=>⟨_,_,Za.perm _ permCl.symm,?_⟩)));have hom9:apO om [] h7:=Yk ap;have hbo7:h7 bo=noC:=(Ap.oent ap).1;have hb47:h7 b4=noC:=(Ap.oent ap).2.1
           clear ap nd)
        | (with_reducible show WW prog 317 _ _ _ _
           refine Zb.entr fun ap nd=>?_;refine Zb.fin (Zb.weaken (Za.perm _ permCl3) (Zb.apn (Zcv om okm (Yfo ap nd) _ _ hml mo hy hn hA fun h7 le7 ap nd=>⟨_,_,Za.perm _ permCl3.symm,?_⟩)));have hom9:apO om [] h7:=Yk ap;have hb127:h7 b12=noC:=(Ap.oent ap).1;have hbo7:h7 bo=noC:=(Ap.oent ap).2.1;have hb47:h7 b4=noC:=(Ap.oent ap).2.2.1
           clear ap nd)
        | with_reducible refine xkp drop1 ?_
        | with_reducible refine xkp (drop1.trans (Za.forget le7)) ?_
        | with_reducible refine xkp ((Za.tail _ _ _).trans drop1) ?_
        | with_reducible refine xkp ((Za.tail _ _ _).trans (drop1.trans (Za.forget le7))) ?_
        | fail
      · exact⟨b12,h7,⟨le7,zb12,nb12.2.1,nb12.1,Z3 nb12.2.2,hb47,hbo7,hom9⟩,qi,Za.refl _ _⟩
      · exact⟨b12,h7,⟨le7,hb127,nb12.2.1,nb12.1,Z3 nb12.2.2,hb47,hbo7,hom9⟩,qi,Za.refl _ _⟩
    rintro⟨b12,h7⟩ ⟨le7,h12,n412,no12,nm12,hb47,hbo7,hom9⟩;simp only at le7 h12 n412 no12 nm12 hb47 hbo7 hom9 ⊢;have up:=Uj (ks:=md.yes) mo;have un:=Uj (ks:=md.no) mo;have mo7:YU h7 q:=fun x hx=>(mo6 x hx).up le7;have hmk7:Zr h7 qk:=hmk.up le7;refine xx ?_;refine Zzn p ok (Jd l md.yes) (Jd l md.no) (Uu l) ⟨up.1,qf⟩ ⟨un.1,qf⟩ ⟨qf,hA⟩ ?_;have hql3:∀X:QM,(q.set k X).length=N:=fun X=>by rw[List.length_set];exact hql6
    cases hpb:Znj p.aI (Jd l md.yes) (Jd l md.no) (Uu l) with
    | false =>
      have e1:f md={ md with state:=4 }:=by rw[hf,Jm,if_pos ⟨s1,s2⟩,hpb];rfl
      have s4:=Zrd hkq 4;rw[<- hqk,<- hmd]at s4;refine xx ?_;refine⟨qf,?_⟩;rw[s4];refine⟨⟨k+1,h7,q.set k (qk.1,qk.2.1,{ md with state:=4 })⟩,⟨qp,le6.trans le7,zu,GP mo7 (by rw[hmd];exact JI hmk7 (st:=4) qh (hmk7.ok.n _ qj)),hb47,hom9,trivial,hbo7⟩,qp,qi,Za.tail _ _ _⟩
    | true =>
      have hmx:min ep (2147483647-p.aN)+p.aN=min (ep+p.aN) 2147483647:=qf;have e1:f md={ md with state:=2,due:=min (ep+p.aN) 2147483647 }:=by rw[hf,Jm,if_pos ⟨s1,s2⟩,hpb];rfl
      have s4:=Zrd hkq 2;rw[<- hqk,<- hmd]at s4;have hk2:k<(q.set k (qk.1,qk.2.1,{ md with state:=2 })).length:=by rw[List.length_set];exact hkq
      have s5:=Ykh hk2 (min (ep+p.aN) 2147483647);have eg:gr Z0 (q.set k (qk.1,qk.2.1,{ md with state:=2 })) k=(qk.1,qk.2.1,{ md with state:=2 }):=by rw[Ye hk2,List.getElem_set_self]
      rw[eg,List.set_set]at s5;have mx1:max ep (-2147483647)=ep:=qf;have mx2:max p.aN 0=p.aN:=qf;simp -dsimp -implicitDefEqProofs (disch:=first|exact dD|fail) [go_sem,W5,mx1,mx2];refine⟨qf,?_⟩;rw[s4];simp -dsimp -implicitDefEqProofs (disch:=first|exact dD|fail) [go_sem,W5,mx1,mx2,hmx];refine⟨by rw[hsum];omega,?_⟩;rw[s5];refine⟨⟨k+1,h7,q.set k (qk.1,qk.2.1,{ md with state:=2,due:=min (ep+p.aN) 2147483647 })⟩,⟨qp,le6.trans le7,zu,GP mo7 (by rw[hmd];exact JI hmk7 (st:=2) qh qf),hb47,hom9,trivial,hbo7⟩,qp,qi,Za.tail _ _ _⟩
  have hkN:k=N:=qf;subst hkN;rw[hN,Yav]at eq6;rw[hN]at hql6;refine xx ?_;refine Yv (e:=120) (sz:=33) (n:=ms.length) (o:=o) oko (by rw[Z1 Ya,hql6]) qf hom8 fun h7 le7 sl=>ZO (ZP ?_);refine hk h7 _ q (le5.trans (le6.trans le7)) (by have:=Zd.pub (f:=YQ) (w:=33) (l:=q) (o:=o) Ya (by rw[hql6];exact sl);rw[hql6,eo,<- hN]at this;exact this) (by rw[eq6,hf];rfl) (fun x hx=>(mo6 x hx).up le7)
theorem Zuj {bb:Nat}{s:Zg}{v:SV}{r:Zi}{q:RV}{w:Int}{m:Zl}(y n:Value)(mo:List Zl)(dn:List Int)(hp:Ints h .u64 v.p s.ag)(hl:s.ag.length<=1000)(hto:0<=m.to/\m.to<s.ag.length)(ha:0<=m.amt/\m.amt<=18446744073709551615)(htr:0<=s.an/\s.an<=4611686018427387904)(hs:at0 s.ag m.to.toNat+s.an<=4611686018427387904)
  (hk:∀h' pv,PH.le h h'->Ints h' .u64 pv (YX m ⟨s.par,s.an,s.ag,s.aT,mo,dn⟩).ps->K (.bool (moB m s.an)) (tB bb { s with par:=(YX m ⟨s.par,s.an,s.ag,s.aT,mo,dn⟩).par,an:=(YX m ⟨s.par,s.an,s.ag,s.aT,mo,dn⟩).tr,ag:=(YX m ⟨s.par,s.an,s.ag,s.aT,mo,dn⟩).ps,aT:=(YX m ⟨s.par,s.an,s.ag,s.aT,mo,dn⟩).em } { v with p:=pv } r q w::L) h') :
  Zb prog 221 [.pointer (some ⟨bb,0,none⟩),motV m y n] (tB bb s v r q w::L) h K:=by
 refine eH func221 fun ap nd=>?_;have hbb:h bb=noC:=ap.1;clear ap nd;refine xx ?_;refine ZY fun b3 nb3 zb3=>?_;(try simp only[ZS]at nb3);have n3:=nb3.1;clear nb3;refine xx ?_;by_cases w3:m.what=3
 ·have e1:YX m ⟨s.par,s.an,s.ag,s.aT,mo,dn⟩=⟨s.par,s.an,s.ag,true,mo,dn⟩:=by rw[YX,if_pos w3]
  have e2:moB m s.an=true:=by simp [moB,w3]
  rw[e1,e2]at hk;have hk:=hk h v.p (PH.le_refl _) hp;refine lT ?_;exact ZO (ZP hk)
 by_cases w4:m.what=4
 ·have e1:YX m ⟨s.par,s.an,s.ag,s.aT,mo,dn⟩=⟨s.par,s.an,s.ag,false,mo,dn⟩:=by rw[YX,if_neg w3,if_pos w4]
  have e2:moB m s.an=true:=by simp [moB,w4]
  rw[e1,e2]at hk;have hk:=hk h v.p (PH.le_refl _) hp;refine lU ?_;exact ZO (ZP hk)
 by_cases w1:m.what=1
 ·have e1:YX m ⟨s.par,s.an,s.ag,s.aT,mo,dn⟩=⟨m.par,s.an,s.ag,s.aT,mo,dn⟩:=by rw[YX,if_neg w3,if_neg w4,if_pos w1]
  have e2:moB m s.an=true:=by simp [moB,w1]
  rw[e1,e2]at hk;have hk:=hk h v.p (PH.le_refl _) hp;refine lV ?_;exact ZO (ZP hk)
 by_cases w2:m.what=2
 ·by_cases c:m.amt<=s.an
  ·have e1:YX m ⟨s.par,s.an,s.ag,s.aT,mo,dn⟩=⟨s.par,s.an-m.amt,s.ag.set m.to.toNat (at0 s.ag m.to.toNat+m.amt),s.aT,mo,dn⟩:=by rw[YX,if_neg w3,if_neg w4,if_neg w1,if_pos ⟨w2,c⟩]
   have e2:moB m s.an=true:=by simp [moB,c]
   rw[e1,e2]at hk;simp only at hk;refine lW ?_;refine Z4 (.tk 0 (.tk 1 (.tk 2 (.tk 3 (.tk 5 (.tkl 4 (.tkl 6 (.tk 7 (.fin))))))))) qg qg _ (Za.refl _ _) ?_;refine xx ?_;refine Z4 (.tk 0 (.tk 1 (.tk 2 (.tk 3 (.tk 5 (.tkl 4 (.tkl 6 (.tk 7 (.tk 8 (.tk 9 (.tk 10 (.o2 11 (.fin) (.nil))))))))))))) qg qg _ (Za.refl _ _) ?_;refine xx ?_;refine Zb.fin (Zb.weaken (Za.perm _ (List.Perm.swap _ _ _)) (UQ (s:={ s with an:=s.an-m.amt }) hp hl m.to hto m.amt ha.1 (by show at0 s.ag m.to.toNat+m.amt<=_;omega) fun h1 pv le1 i1=>⟨_,_,Za.perm _ (List.Perm.swap _ _ _),?_⟩));have hk:=hk h1 pv le1 i1;refine xx ?_;exact ZO (ZP hk)
  ·have e1:YX m ⟨s.par,s.an,s.ag,s.aT,mo,dn⟩=⟨s.par,s.an,s.ag,s.aT,mo,dn⟩:=by rw[YX,if_neg w3,if_neg w4,if_neg w1,if_neg (fun x=>c x.2)]
   have e2:moB m s.an=false:=by simp [moB,w2,c]
   rw[e1,e2]at hk;have hk:=hk h v.p (PH.le_refl _) hp;refine lW ?_;refine Z4 (.tk 0 (.tk 1 (.tk 2 (.tk 3 (.tk 5 (.tkl 4 (.tkl 6 (.tk 7 (.fin))))))))) qg qg _ (Za.refl _ _) ?_;refine xx ?_;exact ZO (ZP hk)
 ·have e1:YX m ⟨s.par,s.an,s.ag,s.aT,mo,dn⟩=⟨s.par,s.an,s.ag,s.aT,mo,dn⟩:=by rw[YX,if_neg w3,if_neg w4,if_neg w1,if_neg (fun x=>w2 x.1)]
  have e2:moB m s.an=true:=by simp [moB,w2]
  rw[e1,e2]at hk;have hk:=hk h v.p (PH.le_refl _) hp;refine xx ?_;exact ZO (ZP hk)
theorem Zct {p:Ze}(h:Yo p=true):0<=p.aN/\p.aN<=1000000:=by
 simp only[Yo,Bool.and_eq_true]at h;have h2:=h.1.2;simp only[We,List.all_cons,List.all_nil,id,Bool.and_eq_true,wi_iff,decide_eq_true_eq,and_true]at h2;omega
theorem Zmb {n:Nat}{m:Zl}(h:ZC n m):m.yes.length<=1000/\m.no.length<=1000:=by
 obtain⟨f1,f2,f3,f4,f5⟩:=motFits_iff.1 h.f;simp only[Gn,Bool.and_eq_true,decide_eq_true_eq]at f3 f4;have e:Zjw 128=16:=qh;omega
structure MoG where
 k:Nat
 h:PH
 p:Value
 t:Value
 q:List QM
 od:Option (Nat×Nat)
theorem Zty {bb D:Nat}{om od:Option (Nat×Nat)}{s:Zg}{v:SV}{r:Zi}{q:RV}{w:Int}(ti:Zq s D)(hA:Vi s<=18446744073709551615)(hdl:r.done.length<=700)(hp:Ints h .u64 v.p s.ag)(ht:∃ql:List QM,Zd YQ 33 h v.t ql/\ql.map (fun x=>x.2.2)=s.ah/\YU h ql)
  (hm:v.m=ovs om s.ae.length) (okm:okO om s.ae.length) (hd:q.d=ovs od r.done.length) (okd:okO od r.done.length)
  (hk:∀h' pv tv od',PH.le h h'->Ints h' .u64 pv (moS s r).ag->(∃ql:List QM,Zd YQ 33 h' tv ql/\ql.map (fun x=>x.2.2)=(moS s r).ah/\YU h' ql)->okO od' (moR s r).done.length ->
   K (.tuple #[]) (tB bb (moS s r) { v with p:=pv,t:=tv } (moR s r) { q with d:=ovs od' (moR s r).done.length } w::tMo om s.ae (oent 3 1 od' ((moR s r).done.map (.int .i64)) L)) h') :
  Zb prog 89 [.pointer (some ⟨bb,0,none⟩)] (tB bb s v r q w::tMo om s.ae (oent 3 1 od (r.done.map (.int .i64)) L)) h K:=by
 obtain⟨vp,vm,ve,vx,vo,vd,vt,vk,vr⟩:=v;obtain⟨qo,ql,qs,qd⟩:=q;simp only at hm hp ht hd hk ⊢;subst hm;subst hd;obtain⟨qs0,t1,t2,t3⟩:=ht;have hq0:qs0.length=s.ah.length:=zF;have hep:=ti.ep;have hml:=ti.ml;have hpl:=ti.pl;have hmn:=ti.mn;have hsum:=ti.sum;obtain⟨p1,p2,p3,p4,p5,p6⟩:=ti.parts;have hen:=Zct ti.r;have hmm:∀m∈s.ah,m.yes.length<=1000/\m.no.length<=1000:=fun m hm=>Zmb (ti.mm m hm);have hmr:=ti.mm;refine eG func89 fun ap nd=>?_;have hbb:h bb=noC:=ap.1;clear ap nd;refine xx ?_;refine Z4 (.tk 0 (.tk 1 (.tk 2 (.tk 3 (.tk 4 (.tk 6 (.tk 7 (.tk 8 (.tk 9 (.tk 11 (.tk 12 (.tk 13 (.tk 14 (.tk 16 (.tk 17 (.tk 18 (.tk 19 (.tkl 5 (.tkl 10 (.tkl 15 (.tkl 20 (.o1 21 (.tk 22 (.tk 23 (.tk 24 (.o2 25 (.fin) (.nil))))) (.nil))))))))))))))))))))))) qg qg [_] drop1 ?_;refine xx ?_;refine Zb.apn (Zb.fin (Zb.weaken (Za.perm _ oent_perm) (Zuv s.par ti.ok.p hen s.ep qf _ t1 t2 t3 qf hmm okm qf ti.be.m hA fun h1 tv q1 le1 i1 e1 m1=>⟨_,_,Za.perm _ oent_perm.symm,fun ap nd=>?_⟩)));have hbb1:h1 bb=noC:=ap.1;clear ap nd;obtain⟨ta,tc,rfl,_⟩:=i1.open
 first
 | refine xkp (drop1.trans (Za.forget le1)) ?_
 | refine xkp (Za.forget le1) ?_
 | skip
 refine xx ?_;have eL:Zlc s.par s.ae s.ep s.ah=moL s:=rfl;rw[eL]at e1;have hmL:(moL s).length=s.ah.length:=List.length_map _;have hq1:q1.length=(moL s).length:=by rw[<- e1,List.length_map]
 refine Z4 (.tk 0 (.tk 1 (.tk 2 (.tk 3 (.tk 5 (.tk 6 (.tk 7 (.tk 8 (.tk 10 (.tk 11 (.tk 12 (.tk 13 (.tk 17 (.tkl 4 (.tkl 9 (.tkl 14 (.o1 15 (.tk 16 (.fin)) (.nil)))))))))))))))))) qg qg [_] drop1 ?_;refine xx ?_;refine Zb.ap (Zxt _ i1 e1 m1 qf s.ep r.quo fun h2 wv le2 iw ap=>?_);have hbb2:h2 bb=noC:=ap.1;clear ap;have eW:Wh (moL s) s.ep r.quo (moL s).length=moW s r:=rfl;rw[eW]at iw;obtain⟨W,hW⟩:∃W,W=moW s r:=⟨_,rfl⟩
 have hWin:=(Zeo (s:=s) r).2;have hX:=fun k (hk:k<=(moW s r).length)=>Yrg ti r hk;have eS:moS s r=Yjz s r (moW s r).length:=rfl;have eR:moR s r=Yuw s r (moW s r).length:=rfl;rw[eS,eR]at hk;rw[<- hW]at iw hWin hX hk;have hWl:W.length<=(moL s).length:=by rw[hW];exact GQ _ _ _ _
 obtain⟨wa,wc,rfl,_,_,_,hws⟩:=iw.open;obtain⟨N,hN⟩:∃N,N=W.length:=⟨_,rfl⟩
 rw[<- hN]at hws hk hX ⊢
 first
 | refine xkp (drop1.trans (Za.forget le2)) ?_
 | refine xkp (Za.forget le2) ?_
 | skip
 refine xx ?_;have e0:moX s r 0=⟨s.par,s.an,s.ag,s.aT,moL s,r.done⟩:=rfl;refine Yi (γ:=MoG) ⟨0,h2,vp,.slice ta q1.length tc,q1,od⟩ (fun y=>y.k<=N/\PH.le h2 y.h/\Ints y.h .u64 y.p (moX s r y.k).ps/\Zd YQ 33 y.h y.t y.q/\y.q.map (fun x=>x.2.2)=(moX s r y.k).mo/\YU y.h y.q/\okO y.od (moX s r y.k).dn.length/\y.h bb=noC)
  (fun y=>[(49,.int .i64 y.k),(48,.int .i64 N),(47,.slice wa N wc),(0,.pointer (some ⟨bb,0,none⟩))])
  (fun y=>tB bb { s with par:=(moX s r y.k).par,an:=(moX s r y.k).tr,ag:=(moX s r y.k).ps,aT:=(moX s r y.k).em,ah:=(moX s r y.k).mo } ⟨y.p,ovs om s.ae.length,ve,vx,vo,vd,y.t,vk,vr⟩ { r with done:=(moX s r y.k).dn } ⟨qo,ql,qs,ovs y.od (moX s r y.k).dn.length⟩ w::oent 3 1 y.od ((moX s r y.k).dn.map (.int .i64)) (tMo om s.ae L)) (fun y=>y.h) (fun y=>N-y.k) ?_ ?_ ?_ ?_
 ·exact⟨Nat.zero_le _,PH.le_refl _,hp.up (le1.trans le2),i1.up le2,e1,fun x hx=>(m1 x hx).up le2,okd,hbb2⟩
 ·simp [Ent,List.lookup,YT]
 ·exact Za.perm _ (List.Perm.cons _ (Yq om od _ _ _))
 rintro⟨k,h3,pv,tv,q3,od3⟩ ⟨k1,le3,i3,j3,e3,m3,okd3,hbb3⟩;simp only at k1 le3 i3 j3 e3 m3 okd3 hbb3 ⊢;have hx:=hX k k1;obtain⟨X,hXX⟩:∃X,X=moX s r k:=⟨_,rfl⟩
 by_cases c1:k<N
 ·have hz:=hWin (at0 W k) wR;have hst:=hx.s k (Nat.le_refl _) qf;obtain⟨i,hi⟩:=Int.eq_ofNat_of_zero_le hz.1;rw[hi]at hz hst;rw[Int.toNat_natCast]at hst;have hws3:∀j,j<N->Z9 h3 wa j=some (.int .i64 (at0 W j)):=fun j hj=>Yr (le3) (hws j hj);have eK:moX s r (k+1)=Zco i (moX s r k):=by
   show moK (moW s r) _ (k+1)=_;rw[moK,<- hW,hi,Int.toNat_natCast,hW];rfl
  rw[<- hXX]at i3 e3 okd3 hx hst eK ⊢;have hxn:X.mo.length=(moL s).length:=hx.n;have hxl:X.ps.length=s.ag.length:=hx.l2;have hq3:q3.length=X.mo.length:=by rw[<- e3,List.length_map]
  have hi3:i<q3.length:=qf;obtain⟨qk,hqk⟩:∃qk,qk=gr Z0 q3 i:=⟨_,rfl⟩
  have egr:qk.2.2=gr Yb X.mo i:=by rw[hqk];exact G1 e3 qf
  obtain⟨m,hm⟩:∃m,m=qk.2.2:=⟨_,rfl⟩
  have hmo:ZC s.ag.length m:=by rw[hm,egr];exact hx.m _ (Yp qf)
  have hma:=hmo.ok.a;have hmt:=hmo.t;have hxt:tot X.ps+X.tr=tot s.ag+s.an:=hx.t;have hpx:=Yj hx.p m.to.toNat;have hp0:=hx.p m.to.toNat;have htx:=Ym hx.p;have htr:=hx.tr;have j30:=j3;obtain⟨ma,mc,rfl,_,_,_,hms⟩:=j3.open;simp -dsimp -implicitDefEqProofs (disch:=first|exact dD|fail) [go_sem,idx hws3];rw[hi];simp -dsimp -implicitDefEqProofs (disch:=first|exact dD|fail) [go_sem,↓Us Z0 qh hms,YQ];rw[<- hqk,<- hm];have hpt:at0 X.ps m.to.toNat+X.tr<=4611686018427387904:=qf;refine Zb.ap (Zuj (s:={ s with par:=X.par,an:=X.tr,ag:=X.ps,aT:=X.em,ah:=X.mo }) (m:=m) _ _ X.mo X.dn i3 (by show X.ps.length<=1000;omega) (by show 0<=m.to/\m.to<(X.ps.length:Int);omega) hma ⟨htr,by show X.tr<=_;omega⟩ hpt fun h4 pv4 le4 i4 ap=>?_);have hbb4:h4 bb=noC:=ap.1;clear ap;obtain⟨Y,hY⟩:∃Y,Y=YX m X:=⟨_,rfl⟩
  have eY:YX m ⟨X.par,X.tr,X.ps,X.em,X.mo,X.dn⟩=Y:=by rw[hY]
  obtain⟨B,hB⟩:∃B,B=moB m X.tr:=⟨_,rfl⟩
  simp only at eY i4 ⊢;rw[eY]at i4 ⊢;rw[<- hB];refine xx ?_;have hfi:Zhw X.mo i B=(X.mo.set i (Zea m B),0):=by
   rw[Zhw,if_pos qf,Int.toNat_natCast,if_pos hst,hm,egr]
  have eK2:moX s r (k+1)={ Y with mo:=X.mo.set i (Zea m B),dn:=if B then X.dn++[(i:Int)] else X.dn }:=by
   rw[eK,Zco,<- egr,<- hm,<- hB,<- hY]
  refine Zb.ap (Zol _ (j30.up le4) e3 (fun x hx=>(m3 x hx).up le4) qf (fun m hm=>Zmb (hx.m m hm)) i qf B fun h5 tv5 q5 le5 j5 e5 m5 ap=>?_);have hbb5:h5 bb=noC:=ap.1;clear ap;rw[hfi]at e5 ⊢;simp only at e5 ⊢;obtain⟨ma5,mc5,rfl,_⟩:=j5.open;have hdx:X.dn.length<=r.done.length+k:=hx.d
  cases B with
  | false =>
   simp only[Bool.false_eq_true,if_false]at eK2;refine xx ?_;refine⟨⟨k+1,h5,pv4,.slice ma5 q5.length mc5,q5,od3⟩,⟨qp,le3.trans (le4.trans le5),by rw[eK2];exact i4.up le5,j5,by rw[eK2];exact e5,m5,by rw[eK2];exact okd3,hbb5⟩,qp,qi,?_⟩;simp only;rw[eK2];exact Za.refl _ _
  | true =>
   simp only[if_true]at eK2;refine xx ?_;refine ZY fun b99 nb99 zb99=>?_;(try simp only[ZS]at nb99);have n99:bb≠b99:=nb99.1;clear nb99;refine xx ?_;refine ZZ (t:=27) (e:=3) (sz:=1) (bytes:=8) (z:=[.int .i64 0]) qg V6 rfl rfl rfl rfl qh [_,_] _ od3 X.dn.length (X.dn.map (.int .i64)) okd3 qj (Src.own (b:=b99) (t:=3) (cap:=1) List.mem_cons_self) (m:=1) (news:=[.int .i64 i]) rfl (fun u hu=>qw) qm qf ?_;intro od4 j1 j2 j3;simp only[List.cons_append,List.nil_append];refine xx ?_;refine⟨⟨k+1,h5,pv4,.slice ma5 q5.length mc5,q5,od4⟩,⟨qp,le3.trans (le4.trans le5),by rw[eK2];exact i4.up le5,j5,by rw[eK2];exact e5,m5,by rw[eK2];simpa using j1,hbb5⟩,qp,qi,?_⟩;simp only;rw[eK2];simp only[List.map_append,List.map_cons,List.map_nil,List.length_append,List.length_singleton];exact Za.tail _ _ _
 obtain rfl:N=k:=qf;have hxN:(moX s r N).mo.length=(moL s).length:=hx.n;have hk:=hk h3 pv tv od3 (le1.trans (le2.trans le3)) i3 ⟨q3,j3,e3,m3⟩ okd3;have e1':Yjz s r N={ s with par:=(moX s r N).par,an:=(moX s r N).tr,ag:=(moX s r N).ps,aT:=(moX s r N).em,ah:=(moX s r N).mo }:=rfl;have e2':Yuw s r N={ r with done:=(moX s r N).dn }:=rfl;rw[e1',e2']at hk;rw[<- hXX]at hk ⊢;simp only at hk;refine xx ?_;exact⟨_,_,Za.perm _ (List.Perm.cons _ (Yq od3 om _ _ _)),hk⟩
structure AjG where
 k:Nat
 h:PH
 p:Value
theorem Zno {bb D:Nat}{om oo ox:Option (Nat×Nat)}{s:Zg}{v:SV}{r:Zi}{q:RV}{w:Int}(ti:Zq s D)(hD:D<=30000)(hp:Ints h .u64 v.p s.ag)(hd:Zd Yh 3 h v.d s.ai)(hm:v.m=ovs om s.ae.length)(okm:okO om s.ae.length)(hw:0<=w/\w<=1000)
    (hx:v.x=ovs ox s.exit.length) (okx:okO ox s.exit.length) (ho:q.o=ovs oo r.out.length) (oko:okO oo r.out.length) (hol:r.out.length<=700)
    (hk:∀h' pv d' oo',PH.le h h'->Ints h' .u64 pv (ajS s).ag->Zd Yh 3 h' d' (ejS (ajS s) (min (s.ep+w) 2147483647) (ajS s).ae.length).ai->okO oo' (ejR (ajS s) r (ajS s).ae.length).out.length->K (.tuple #[]) (tB bb (ejS (ajS s) (min (s.ep+w) 2147483647) (ajS s).ae.length) { v with p:=pv,d:=d',x:=ovs ox (ejS (ajS s) (min (s.ep+w) 2147483647) (ajS s).ae.length).exit.length } (ejR (ajS s) r (ajS s).ae.length) { q with o:=ovs oo' (ejR (ajS s) r (ajS s).ae.length).out.length } w::tMo om (ejS (ajS s) (min (s.ep+w) 2147483647) (ajS s).ae.length).ae (oent 3 1 oo' ((ejR (ajS s) r (ajS s).ae.length).out.map (.int .i64)) (oent 3 1 ox ((ejS (ajS s) (min (s.ep+w) 2147483647) (ajS s).ae.length).exit.map (.int .i64)) L))) h') :
    Zb prog 90 [.pointer (some ⟨bb,0,none⟩)] (tB bb s v r q w::tMo om s.ae (oent 3 1 oo (r.out.map (.int .i64)) (oent 3 1 ox (s.exit.map (.int .i64)) L))) h K:=by
  obtain⟨vp,vm,ve,vx,vo,vd,vt,vk,vr⟩:=v;simp only at hm hp hd hx hk ⊢;subst hm;have hep:=ti.ep;have hml:=ti.ml;have hpl:=ti.pl;have hcap:=ti.ok.p.w s.par.cap qB;obtain⟨b1,b2,b3,b4,b5,b6⟩:=ti.parts;have hsum:=ti.sum;obtain⟨N,hN⟩:∃N,N=s.ae.length:=⟨_,rfl⟩
  have hbe:ZD s.ae s.ag:=ti.be.ok qf;refine eG func90 fun ap nd=>?_;have hbb:h bb=noC:=ap.1;have hbm:apO om [] h:=Yk ap.2;have nmb:apB om bb:=Z3 nd.1;clear ap nd;obtain⟨ea,ec,em,_⟩:=Z5 okm;rw[<- hN]at em okm hk ⊢;rw[em];refine xx ?_;rw[<- em];refine Yi (γ:=AjG) ⟨0,h,vp⟩ (fun y=>y.k<=N/\PH.le h y.h/\Ints y.h .u64 y.p (clN s.par (s.ae,s.ag) y.k).2/\y.h bb=noC/\apO om [] y.h)
    (fun y=>[(12,.int .i64 y.k),(11,.int .i64 N),(0,.pointer (some ⟨bb,0,none⟩))])
    (fun y=>tB bb { s with ae:=(clN s.par (s.ae,s.ag) y.k).1,ag:=(clN s.par (s.ae,s.ag) y.k).2 } ⟨y.p,ovs om N,ve,vx,vo,vd,vt,vk,vr⟩ r q w::tMo om (clN s.par (s.ae,s.ag) y.k).1 (oent 3 1 oo (r.out.map (.int .i64)) (oent 3 1 ox (s.exit.map (.int .i64)) L))) (fun y=>y.h) (fun y=>N-y.k) ?_ ?_ ?_ ?_
  · exact⟨Nat.zero_le _,PH.le_refl _,hp,hbb,hbm⟩
  · simp [Ent,List.lookup,YT]
  · exact Za.refl _ _
  rintro⟨k,h1,pv⟩ ⟨k1,le1,i1,hbb1,hbm1⟩;simp only at k1 le1 i1 hbb1 hbm1 ⊢;have hx1:=Zkb (q:=s.par) ti.ok.p (x:=(s.ae,s.ag)) hbe k (by show k<=s.ae.length;omega);obtain⟨hl1,hl2⟩:=Vl s.par (s.ae,s.ag) k;simp only at hl1 hl2;by_cases c1:k<N
  · have eK:clN s.par (s.ae,s.ag) (k+1)=Uc s.par (clN s.par (s.ae,s.ag) k) k:=rfl;obtain⟨X,hX⟩:∃X,X=clN s.par (s.ae,s.ag) k:=⟨_,rfl⟩
    rw[<- hX]at i1 hx1 hl1 hl2 eK ⊢;obtain⟨MS,PS⟩:=X;simp only at i1 hx1 hl1 hl2 ⊢;obtain⟨bm,cm,rfl⟩:∃bm cm,om=some (bm,cm):=by
      cases om with
      | none=>have:N=0:=okm;omega
      | some p=>exact⟨_,_,rfl⟩
    have hbm1':h1 bm=noC:=hbm1.2;have nmb':bm≠bb:=nmb;have hkl:k<MS.length:=qf;obtain⟨m,hmk⟩:∃m,m=gr ZQ MS k:=⟨_,rfl⟩
    have hmo:Zf m:=by rw[hmk];exact hx1.m _ (Yp hkl)
    have how:0<=m.owner/\m.owner<(PS.length:Int):=by rw[hmk];exact hx1.o _ (Yp hkl)
    have ub:=hmo.u m.bal qj;have hroom:=Zxs ti.ok.p (x:=(MS,PS)) hx1 hkl;simp only at hroom;rw[<- hmk]at hroom;have eK2:clN s.par (s.ae,s.ag) (k+1)=(MS.set k (W7 s.par m),PS.set m.owner.toNat (at0 PS m.owner.toNat+(m.bal-min m.bal s.par.cap))):=by rw[eK,Uc,<- hmk]
    have hg:=Zah hkl;rw[<- hmk]at hg;obtain⟨g0,g1,g2,g3,g4,g5⟩:=hg;have hi6:=YC (w:=6) hkl (show 5<6 from qh);have hsm:=Zbl (ms:=MS) rfl;simp only[tMo,Z7,Yl];refine xx ?_;refine YN (.tk 0 (.tk 1 (.tk 2 (.tk 3 (.tk 5 (.tk 6 (.tk 7 (.tk 8 (.tkl 4 (.tkl 9 (.o1 10 (.tk 11 (.tk 12 (.tk 13 (.tk 14 (.tk 15 (.fin)))))) (.nil)))))))))))) qg qg [(0,.pointer (some ⟨bb,0,none⟩)),(3,.pointer (some ⟨bm,k*6,none⟩)),(12,.int .i64 k),(11,.int .i64 N)] [_,_] (γ:=Unit) (fun _=>True)
      (fun _=>[(0,.pointer (some ⟨bb,0,none⟩)),(3,.pointer (some ⟨bm,k*6,none⟩)),(12,.int .i64 k),(11,.int .i64 N),(4,.int .u64 (min m.bal s.par.cap)),(5,.int .u64 (m.bal-min m.bal s.par.cap))])
      (fun _=>tB bb { s with ae:=MS,ag:=PS } ⟨pv,.slice (some ⟨bm,0,none⟩) N cm,ve,vx,vo,vd,vt,vk,vr⟩ r q w::tM bm cm MS::oent 3 1 oo (r.out.map (.int .i64)) (oent 3 1 ox (s.exit.map (.int .i64)) L)) (fun _=>h1) qi drop2Z ?_ ?_
    · repeat' first
        | with_reducible refine Yf ?_ ?_
        | simp -dsimp -implicitDefEqProofs (disch:=first|exact dD|fail) [go_sem,g0,g1,g2,g3,g4,g5]
        | (with_reducible show WW prog 223 _ _ _ _
           refine Zru s.par ti.ok.p ti.r m.bal ub ?_)
        | with_reducible refine xkp (Za.refl _ _) ?_
        | with_reducible refine xkp drop2Z ?_
        | fail
      all_goals exact⟨qi,Za.refl _ _⟩
    rintro _ _
    try simp only
    refine xx ?_;refine⟨qf,?_⟩;obtain⟨m1,hm1⟩:∃m1:Zc,m1={ m with bal:=min m.bal s.par.cap }:=⟨_,rfl⟩
    have hset1:(MS.flatMap YD).set (k*6) (.int .u64 (min m.bal s.par.cap))=(MS.set k m1).flatMap YD:=Wj (m:=0) Z8 ZQ MS hkl qh (by rw[<- hmk,hm1];rfl);rw[hset1];have hkl2:k<(MS.set k m1).length:=by rw[List.length_set];exact hkl
    have hg1:gr ZQ (MS.set k m1) k=m1:=by rw[Ye hkl2,List.getElem_set_self]
    have hg:=Zah hkl2;rw[hg1]at hg;obtain⟨f0,f1,f2,f3,f4,f5⟩:=hg;have em1:m1.owner=m.owner:=by rw[hm1]
    rw[em1]at f4;have hsm2:=Zbl (ms:=MS.set k m1) (n:=MS.length) (by rw[List.length_set]);refine lX ?_;refine Zb.ap (UQ (s:={ s with ae:=MS.set k m1,ag:=PS }) (v:=⟨pv,.slice (some ⟨bm,0,none⟩) N cm,ve,vx,vo,vd,vt,vk,vr⟩) i1 (by show PS.length<=1000;omega) m.owner how _ qf hroom fun h2 pv2 le2 i2 ap=>?_);have hbb2:h2 bb=noC:=ap.1;have hbm2:h2 bm=noC:=ap.2.1;clear ap;simp only at i2 ⊢;refine xx ?_;refine Z4 (.tk 0 (.tk 1 (.tk 2 (.tk 3 (.tk 4 (.tk 6 (.tk 7 (.tk 8 (.tkl 5 (.tkl 9 (.o1 10 (.tk 11 (.tk 12 (.o2 13 (.fin) (.nil)))) (.nil)))))))))))) qg qg _ (Za.refl _ _) ?_;refine lX ?_;refine Zkc s.par ti.ok.p m1 ?_;rw[ti.r,if_pos rfl];have eC:JV s.par m1=W7 s.par m:=by rw[hm1];rfl
    rw[eC]
    first
    | refine xkp (Za.refl _ _) ?_
    | skip
    refine xx ?_;have hsm3:(((MS.map fun a=>(YD a).length)).set k (YD m1).length).sum=MS.length*6:=by
      rwa [List.map_set]at hsm2
    refine⟨qf,?_⟩;have hst:=Zev hkl2 (W7 s.par m) (by rw[hg1,hm1];rfl) (by rw[hg1,hm1];rfl);rw[List.set_set]at hst;rw[hst];refine⟨⟨k+1,h2,pv2⟩,⟨qp,le1.trans le2,by rw[eK2];exact i2,hbb2,trivial,hbm2⟩,qp,qi,?_⟩;simp only;rw[eK2];exact Za.refl _ _
  obtain rfl:N=k:=qf;have eA:ajS s={ s with ae:=(clN s.par (s.ae,s.ag) N).1,ag:=(clN s.par (s.ae,s.ag) N).2 }:=by rw[hN];rfl
  have ti2:=Zfb ti (Nat.le_refl s.ae.length);have eA2:Zyd s s.ae.length=ajS s:=rfl;rw[eA2]at ti2;have eL1:(ajS s).ae.length=N:=by rw[eA];show (clN s.par (s.ae,s.ag) N).1.length=N;omega
  have eX:(ajS s).exit=s.exit:=rfl;obtain⟨A,hA⟩:∃A,A=ajS s:=⟨_,rfl⟩
  rw[<- hA]at eA ti2 eL1 eX hk;have eP:(clN s.par (s.ae,s.ag) N).2=A.ag:=by rw[eA]
  have eM:(clN s.par (s.ae,s.ag) N).1=A.ae:=by rw[eA]
  rw[<- eA,eM,<- eX];rw[eP]at i1;have eE:A.ep=s.ep:=by rw[eA]
  refine xx ?_;refine Zfq (s:=A) (v:=⟨pv,ovs om N,ve,vx,vo,vd,vt,vk,vr⟩) (om:=om) (oo:=oo) (ox:=ox) ti2 hD (by rw[eA];exact hd.up le1) (by rw[eL1]) (by rw[eL1];exact okm) hw (by rw[eX];exact hx) (by rw[eX];exact okx) ho oko hol fun h2 d2 o2 le2 i2 ok2=>?_;rw[eE]at i2 ⊢;have hk:=hk h2 pv d2 o2 (le1.trans le2) (i1.up le2) i2 ok2;refine xx ?_;exact ZP hk
def Yju (s:Zg):Zg:={ s with ae:=[],entry:=[],exit:=[] }
abbrev Zwb (u:SV)(m e x:Value):SV:=⟨u.p,m,e,x,u.o,u.d,u.t,u.k,u.r⟩
theorem Zsu {e sz e2 sz2 e3 sz3:Nat}{o o2 o3:Option (Nat×Nat)}{xs ys zs:List Value}{x y:Zn}{L:Own}{h:PH}:Za (oent e sz o xs (oent e2 sz2 o2 ys (oent e3 sz3 o3 zs (x::y::L)))) h (oent e sz o xs (oent e2 sz2 o2 ys (oent e3 sz3 o3 zs L))) h:=by
 have p1:(x::y::oent e sz o xs (oent e2 sz2 o2 ys (oent e3 sz3 o3 zs L))).Perm (oent e sz o xs (x::y::oent e2 sz2 o2 ys (oent e3 sz3 o3 zs L))):=Z6 [x,y];have p2:=Z2 (e:=e) (sz:=sz) o xs (Z6 (e:=e2) (sz:=sz2) (o:=o2) (xs:=ys) [x,y] (L:=oent e3 sz3 o3 zs L));have p3:=Z2 (e:=e) (sz:=sz) o xs (Z2 (e:=e2) (sz:=sz2) o2 ys (Z6 (e:=e3) (sz:=sz3) (o:=o3) (xs:=zs) [x,y] (L:=L)));exact(Za.perm h ((p1.trans p2).trans p3).symm).trans ((Za.tail _ _ _).trans (Za.tail _ _ _))
theorem Ztv {s:Zg}(v:SV)(hs:Zp h v s)(few:Zu s)
    (hk:∀(h':PH) (u:SV) (o oe ox:Option (Nat×Nat)),PH.le h h'->okO o s.ae.length->okO oe s.entry.length->okO ox s.exit.length->Zp h' (Zwb u (.slice none 0 0) (.slice none 0 0) (.slice none 0 0)) (Yju s)->K (stV s (Zwb u (ovs o s.ae.length) (ovs oe s.entry.length) (ovs ox s.exit.length))) (oent 3 1 ox (s.exit.map (.int .i64)) (oent 3 1 oe (s.entry.map (.int .i64)) (oent 74 6 o (s.ae.flatMap YD) L))) h'):Zb prog 30 [stV s v] L h K:=by
  obtain⟨pa,pc,ma,mc,ea,ec,xa,xc,oa,oc,da,dc,ta,tc,ka,kc,ra,rc,rfl⟩:=hs.slices;have fm:=few.m;have fp:=few.p;have fe:=few.e;have fx:=few.x;have fo:=few.o;have fd:=few.d;have ft:=few.t;have fk:=few.k;have fr:=few.r;obtain⟨ql,q1,q2,q3⟩:=hs.t;obtain⟨rl,r1,r2⟩:=hs.r;have q1':Zd YQ 33 h (.slice ta s.ah.length tc) ql:=q1;have r1':Zx h (.slice ra s.ring.length rc) rl:=r1;have hql:ql.length=s.ah.length:=by rw[<- q2,List.length_map]
  have hrl:rl.length=s.ring.length:=by rw[<- r2];simp [xsL]
  refine ed func30 ?_;refine xx ?_;refine ZY fun b1 nb1 zb1=>?_;(try simp only[ZS]at nb1);refine xx ?_;refine ZY fun b2 nb2 zb2=>?_;(try simp only[ZS]at nb2);refine xx ?_;refine Zb.ap (Gj _ hs.p qf fun h1 v1 le1 i1 ap=>?_);simp only[Ap]at ap;obtain⟨a12,a11,_⟩:=ap;obtain⟨pa1,pc1,rfl,_⟩:=i1.open;refine xx ?_;refine Zex _ (hs.m.up le1) qf fun om ok1 am1=>?_;have m2:apB om b2:=am1.head;have m1:apB om b1:=(ZV am1).head;refine fC ?_;refine Z4 (.tk 0 (.tk 3 (.tkl 1 (.tkl 4 (.o1 2 (.tk 6 (.o1 5 (.o2 7 (.tk 8 (.o2 9 (.fin) (.nil))) (.nil)) (.nil))) (.nil)))))) qg qg _ (Za.refl _ _) ?_;refine fC ?_;refine Zae _ (hs.e.up le1) qf fun oe oke ame=>?_;have ame0:=YH ame;have e2:apB oe b2:=ame0.head;have e1:apB oe b1:=(ZV ame0).head;obtain⟨ea1,ec1,exe,_⟩:=Z5 oke;rw[exe]
  first
  | refine xkp (Za.oent _ _ _ _ _ _) ?_
  | skip
  simp -dsimp -implicitDefEqProofs (disch:=first|exact dD|fail) [go_sem,ZX e1,ZR e1,ZX m1,ZR m1];refine Zae _ (hs.x.up le1) qf fun ox okx amx=>?_;have amx0:=YH (YH amx);have x2:apB ox b2:=amx0.head;have x1:apB ox b1:=(ZV amx0).head;obtain⟨xa1,xc1,exx,_⟩:=Z5 okx;rw[exx]
  first
  | refine xkp ((Za.oent _ _ _ _ _ _).trans (Za.oent _ _ _ _ _ _)) ?_
  | refine xkp (Za.oent _ _ _ _ _ _) ?_
  | skip
  refine lY ?_;refine Z4 (.tk 0 (.tk 3 (.tkl 1 (.tkl 4 (.o1 2 (.tk 6 (.o1 5 (.o2 7 (.tk 8 (.o2 9 (.fin) (.nil))) (.nil)) (.nil))) (.nil)))))) qg qg _ (Za.refl _ _) ?_;refine lY ?_;have le13:=le1;refine Zb.ap (Zfs _ (hs.o.up le13) qf fun h4 v4 le4 i4 ap=>?_);obtain⟨a42,a41,_⟩:=Ap.oent (Ap.oent (Ap.oent ap));obtain⟨oa1,oc1,rfl,_⟩:=i4.open;refine xkp (Za.forget le4) ?_;refine lY ?_;have le14:=le13.trans le4;refine Zb.ap (G6 _ (hs.d.up le14) qf fun h5 v5 le5 i5 ap=>?_);obtain⟨a52,a51,_⟩:=Ap.oent (Ap.oent (Ap.oent ap));obtain⟨da1,dc1,rfl,_⟩:=i5.open
  first
  | refine xkp (Za.forget (le4.trans le5)) ?_
  | skip
  refine lY ?_;have le15:=le14.trans le5;refine Zab _ (q1'.up le15) (fun x hx=>(q3 x hx).up le15) qf fun ot ok2 at0'=>?_;rw[hql]at ok2 ⊢;have at1:=YH (YH (YH at0'));have t2:apB ot b2:=at1.head;have t1:apB ot b1:=(ZV at1).head
  replace at1:=ZV (ZV at1)
  refine lZ ?_;obtain⟨mta,mtc,emt,_⟩:=Z5 ok2;rw[emt];refine xx ?_;obtain⟨vv,hvv⟩:∃vv:SV,vv=⟨.slice pa1 s.ag.length pc1,ovs om s.ae.length,.slice ea1 s.entry.length ec1,.slice xa1 s.exit.length xc1,.slice oa1 s.aj.length oc1,.slice da1 s.ai.length dc1,.slice mta s.ah.length mtc,.slice ka s.marks.length kc,.slice ra s.ring.length rc⟩:=⟨_,rfl⟩
  refine Yi (γ:=Nat×List QM×PH) (0,ql,h5)
    (fun q=>q.1<=s.ah.length/\q.2.1.map (fun x=>x.2.2)=s.ah/\YU q.2.2 q.2.1/\PH.le h5 q.2.2/\q.2.2 b2=noC/\q.2.2 b1=noC/\apO ot L q.2.2)
    (fun q=>[(36,.int .i64 q.1),(35,.int .i64 s.ah.length),(1,.pointer (some ⟨b1,0,none⟩)),(2,.pointer (some ⟨b2,0,none⟩))])
    (fun q=>oent 120 33 ot (q.2.1.flatMap YQ) (oent 3 1 ox (s.exit.map (.int .i64)) (oent 3 1 oe (s.entry.map (.int .i64)) (oent 74 6 om (s.ae.flatMap YD) (⟨b2,34,stC JB Zlm,41⟩::⟨b1,34,stC s vv,41⟩::L))))) (fun q=>q.2.2) (fun q=>s.ah.length-q.1) ?_ ?_ ?_ ?_
  · exact⟨Nat.zero_le _,q2,fun x hx=>(q3 x hx).up le15,PH.le_refl _,a52,a51,at1⟩
  · simp [Ent,List.lookup,YT]
  · subst hvv;exact Za.refl _ _
  rintro⟨k,ql',h6⟩ ⟨k1,k2,k3,k4,k5,k6,k8⟩;simp only at k1 k2 k3 k4 k5 k6 k8 ⊢;have hql':ql'.length=s.ah.length:=by rw[<- k2,List.length_map]
  subst hvv;by_cases c1:k<s.ah.length
  · obtain ⟨bt,cap,rfl⟩ : ∃ bt cap,ot = some (bt,cap) := by
      cases ot with
      | none=>have:s.ah.length=0:=ok2;omega
      | some p=>exact⟨_,_,rfl⟩
    simp only[ovs,Value.slice.injEq]at emt;obtain⟨rfl,_,rfl⟩:=emt;have hbt:h6 bt=noC:=k8.2;have n21:bt≠b2:=t2;have n11:bt≠b1:=t1;obtain⟨qk,hqk⟩:∃qk,qk=gr Z0 ql' k:=⟨_,rfl⟩
    have hmem:qk∈ql':=by rw[hqk,Ye qf];exact List.getElem_mem _
    have hmk:Zr h6 qk:=k3 qk hmem;have hmdm:qk.2.2∈s.ah:=by rw[<- k2];exact List.mem_map.2 ⟨qk,hmem,rfl⟩
    obtain⟨vy,vn,md⟩:=qk;have hy:=hmk.y;have hn:=hmk.n;simp only at hy hn;obtain⟨ya,yc,rfl,_⟩:=hy.open;obtain⟨na,nc,rfl,_⟩:=hn.open;simp only at hmdm;have fv:=few.v md hmdm;have g31:∀(K:Value->Prop) (t:Zm K),VE (ql'.flatMap YQ) (k*33+31) K t=K (.slice ya md.yes.length yc):=fun K t=>Yu Ya Z0 ql' qf qh qM K t;have g32:∀(K:Value->Prop) (t:Zm K),VE (ql'.flatMap YQ) (k*33+32) K t=K (.slice na md.no.length nc):=fun K t=>Yu Ya Z0 ql' qf qh qM K t;have hfl:(ql'.flatMap YQ).length=s.ah.length*33:=zq;rw[Z7];refine lY ?_
    refine Z4 (.tk 0 (.tk 2 (.tk 3 (.tk 5 (.tk 6 (.tk 8 (.tk 13 (.tk 15 (.tkl 1 (.tkl 7 (.tk 9 (.tk 10 (.tkl 11 (.o1 4 (.o1 12 (.o1 14 (.tk 16 (.tk 17 (.tkl 18 (.o1 19 (.tk 20 (.tk 21 (.o2 22 (.tk 23 (.tk 24 (.o2 25 (.fin) (.nil)))) (.nil)))) (.nil))))) (.nil)) (.o1 14 (.tk 16 (.tk 17 (.tkl 18 (.o1 12 (.o1 19 (.tk 20 (.tk 21 (.o2 22 (.tk 23 (.tk 24 (.o2 25 (.fin) (.nil)))) (.nil)))) (.nil)) (.nil))))) (.nil))) (.o1 12 (.o1 4 (.o1 14 (.tk 16 (.tk 17 (.tkl 18 (.o1 19 (.tk 20 (.tk 21 (.o2 22 (.tk 23 (.tk 24 (.o2 25 (.fin) (.nil)))) (.nil)))) (.nil))))) (.nil)) (.o1 14 (.tk 16 (.tk 17 (.tkl 18 (.o1 4 (.o1 19 (.tk 20 (.tk 21 (.o2 22 (.tk 23 (.tk 24 (.o2 25 (.fin) (.nil)))) (.nil)))) (.nil)) (.o1 19 (.tk 20 (.tk 21 (.o1 4 (.o2 22 (.tk 23 (.tk 24 (.o2 25 (.fin) (.nil)))) (.nil)) (.o2 22 (.o1 4 (.tk 23 (.tk 24 (.o2 25 (.fin) (.nil)))) (.nil)) (.nil))))) (.nil)))))) (.nil))) (.o1 14 (.tk 16 (.tk 17 (.tkl 18 (.o1 4 (.o1 12 (.o1 19 (.tk 20 (.tk 21 (.o2 22 (.tk 23 (.tk 24 (.o2 25 (.fin) (.nil)))) (.nil)))) (.nil)) (.nil)) (.o1 12 (.o1 4 (.o1 19 (.tk 20 (.tk 21 (.o2 22 (.tk 23 (.tk 24 (.o2 25 (.fin) (.nil)))) (.nil)))) (.nil)) (.o1 19 (.tk 20 (.tk 21 (.o1 4 (.o2 22 (.tk 23 (.tk 24 (.o2 25 (.fin) (.nil)))) (.nil)) (.o2 22 (.o1 4 (.tk 23 (.tk 24 (.o2 25 (.fin) (.nil)))) (.nil)) (.nil))))) (.nil))) (.nil)))))) (.nil))))))))))))))))) qg qg _ (Za.refl _ _) ?_;simp -dsimp -implicitDefEqProofs (disch:=first|exact dD|fail) [go_sem,ZX x1,ZR x1,ZX e1,ZR e1,ZX m1,ZR m1,g31,g32]
    have hset:∀a ac b bc,((ql'.flatMap YQ).set (k*33+31) (.slice a md.yes.length ac)).set (k*33+32) (.slice b md.no.length bc)=(ql'.set k (.slice a md.yes.length ac,.slice b md.no.length bc,md)).flatMap YQ:=fun a ac b bc=>by
      rw[Wj Ya Z0 ql' (i:=k) (m:=31) (a':=(.slice a md.yes.length ac,.slice na md.no.length nc,md)) qf qh qM];rw[Wj Ya Z0 _ (i:=k) (m:=32) (a':=(.slice a md.yes.length ac,.slice b md.no.length bc,md)) zg qh wT,List.set_set]
    have hmd:s.ah[k]?=some md:=by
      rw[<- k2,List.getElem?_map,List.getElem?_eq_getElem qf,<- Ye (z:=Z0) qf,<- hqk]
      rfl
    have hmap:∀(a b:Value),(ql'.set k (a,b,md)).map (fun x=>x.2.2)=s.ah:=fun a b=>by
      rw[List.map_set,k2];apply List.ext_getElem?;intro n;rw[List.getElem?_set];split
      · rename_i e;subst e
        first
        | exact hmd.symm
        | (split
           · exact hmd.symm
           · rw[List.getElem?_eq_none qf])
      · rfl
    repeat' first
      | refine Yf ?_ ?_
      | simp -dsimp -implicitDefEqProofs (disch:=first|exact dD|fail) [go_sem,ZX x1,ZR x1,ZX e1,ZR e1,ZX m1,ZR m1,g31,g32]
    all_goals
      refine Zb.ap (Ww _ hy qf fun h7 v7 le7 i7 ap=>?_);obtain⟨y1,y2⟩:=ap;obtain⟨y3,y4,_⟩:=Ap.oent (Ap.oent (Ap.oent y2));obtain⟨wa,wc,rfl,_⟩:=i7.open
      first
      | refine xkp (Za.forget le7) ?_
      | skip
    repeat' first
      | refine Yf ?_ ?_
      | simp -dsimp -implicitDefEqProofs (disch:=first|exact dD|fail) [go_sem,ZX x1,ZR x1,ZX e1,ZR e1,ZX m1,ZR m1,g31,g32]
      | refine xkp (Za.forget le7) ?_
    all_goals
      refine Zb.ap (Ww _ (hn.up le7) qf fun h8 v8 le8 i8 ap=>?_);obtain⟨z1,z2⟩:=ap;obtain⟨z3,z4,_⟩:=Ap.oent (Ap.oent (Ap.oent z2));obtain⟨ua,uc,rfl,_⟩:=i8.open
      first
      | refine xkp (Za.forget (le7.trans le8)) ?_
      | skip
    repeat' first
      | refine Yf ?_ ?_
      | simp -dsimp -implicitDefEqProofs (disch:=first|exact dD|fail) [go_sem,ZX x1,ZR x1,ZX e1,ZR e1,ZX m1,ZR m1,g31,g32]
      | refine xkp (Za.forget (le7.trans le8)) ?_
    all_goals
      have hsum:(ql'.map fun a=>(YQ a).length).sum=s.ah.length*33:=zI;have hk33:=YC (n:=s.ah.length) (w:=33) c1 (m:=32) qh;refine⟨qf,qf,k+1,ql'.set k (.slice wa md.yes.length wc,.slice ua md.no.length uc,md),h8,⟨qf,hmap _ _,fun x hx=>?_,k4.trans (le7.trans le8),z3,z4,⟨k8.1,z1⟩⟩,qf,qi,?_⟩
      · rcases List.mem_or_eq_of_mem_set hx with hx|rfl
        · exact(k3 x hx).up (le7.trans le8)
        · exact⟨i7.up le8,i8,hmk.ok⟩
      · rw[hset];exact Za.refl _ _
  have hkl:k=s.ah.length:=qf;subst hkl;refine lZ ?_;refine WT (e:=120) (sz:=33) (n:=s.ah.length) ok2 zq qf k8 fun h7 le7 sl7=>?_;have le17:PH.le h h7:=(le15.trans k4).trans le7;have kq2:=k2;have kq4:=k4;refine Zb.ap (Ww _ (hs.k.up le17) qf fun h8 v8 le8 i8 ap=>?_);obtain⟨a82,a81,_⟩:=Ap.oent (Ap.oent (Ap.oent ap));obtain⟨ka1,kc1,rfl,_⟩:=i8.open;have rmot:Zd YQ 33 h8 (.slice mta s.ah.length mtc) ql':=by
    have:=Zd.pub (f:=YQ) (w:=33) (l:=ql') (o:=ot) Ya (by rw[hql'];exact sl7);rw[hql',emt]at this;exact this.up le8
  have imot:YU h8 ql':=fun x hx=>(k3 x hx).up (le7.trans le8);have le18:=le17.trans le8;refine lY ?_;refine Zen _ (r1'.up le18) qf fun orr ok3 ar=>?_;rw[hrl]at ok3 ⊢;have ar1:=YH (YH (YH ar));have rb2:apB orr b2:=ar1.head;have rb1:apB orr b1:=(ZV ar1).head
  replace ar1:=ZV (ZV ar1)
  simp -dsimp -implicitDefEqProofs (disch:=first|exact dD|fail) [go_sem,ZX rb1,ZR rb1,ZX x1,ZR x1,ZX e1,ZR e1,ZX m1,ZR m1];obtain⟨rta,rtc,ert,_⟩:=Z5 ok3;rw[ert];refine xx ?_;refine Yi (γ:=Nat×List QS×PH) (0,rl,h8)
    (fun q=>q.1<=s.ring.length/\xsL q.2.1=s.ring/\Yic q.2.2 q.2.1/\PH.le h8 q.2.2/\q.2.2 b2=noC/\q.2.2 b1=noC/\apO orr L q.2.2)
    (fun q=>[(75,.int .i64 q.1),(74,.int .i64 s.ring.length),(1,.pointer (some ⟨b1,0,none⟩)),(2,.pointer (some ⟨b2,0,none⟩))])
    (fun q=>oent 31 1 orr (vsL q.2.1) (oent 3 1 ox (s.exit.map (.int .i64)) (oent 3 1 oe (s.entry.map (.int .i64)) (oent 74 6 om (s.ae.flatMap YD) (⟨b2,34,stC JB Zlm,41⟩::⟨b1,34,stC s ⟨.slice pa1 s.ag.length pc1,ovs om s.ae.length,.slice ea1 s.entry.length ec1,.slice xa1 s.exit.length xc1,.slice oa1 s.aj.length oc1,.slice da1 s.ai.length dc1,.slice mta s.ah.length mtc,.slice ka1 s.marks.length kc1,.slice rta s.ring.length rtc⟩,41⟩::L))))) (fun q=>q.2.2) (fun q=>s.ring.length-q.1) ?_ ?_ ?_ ?_
  · exact⟨Nat.zero_le _,r2,fun x hx=>(r1'.d x hx).up le18,PH.le_refl _,a82,a81,ar1⟩
  · simp [Ent,List.lookup,YT]
  · exact Za.refl _ _
  rintro⟨k,rl',h9⟩ ⟨k1,k2,k3,k4,k5,k6,k8⟩;simp only at k1 k2 k3 k4 k5 k6 k8 ⊢;have hrl':rl'.length=s.ring.length:=by rw[<- k2];simp [xsL]
  by_cases c2:k<s.ring.length
  · obtain ⟨bt,cap,rfl⟩ : ∃ bt cap,orr = some (bt,cap) := by
      cases orr with
      | none=>have:s.ring.length=0:=ok3;omega
      | some p=>exact⟨_,_,rfl⟩
    simp only[ovs,Value.slice.injEq]at ert;obtain⟨rfl,_,rfl⟩:=ert;have hbt:h9 bt=noC:=k8.2;have n21:bt≠b2:=rb2;have n11:bt≠b1:=rb1;obtain⟨qk,hqk⟩:∃qk,qk=gs rl' k:=⟨_,rfl⟩
    have hmem:qk∈rl':=by rw[hqk,G4 qf];exact List.getElem_mem _
    have hy:=k3 qk hmem;have hbm:qk.2∈s.ring:=by rw[<- k2];exact List.mem_map.2 ⟨qk,hmem,rfl⟩
    have fv:=few.b _ hbm;obtain⟨vy,by'⟩:=qk;simp only at hy hbm fv;obtain⟨ya,yc,rfl,_⟩:=hy.open;have g1:∀(K:Value->Prop) (t:Zm K),VE (vsL rl') k K t=K (.slice ya by'.length yc):=fun K t=>Zmf (by rw[vsL,List.getElem?_map,List.getElem?_eq_getElem qf,<- G4 qf,<- hqk];rfl);have hfl:(vsL rl').length=s.ring.length:=by simp [vsL,hrl']
    rw[Z7];refine lY ?_;refine Z4 (.tk 0 (.tk 2 (.tk 3 (.tk 5 (.tkl 1 (.tkl 4 (.tk 6 (.tkl 7 (.o1 8 (.tk 9 (.o2 10 (.fin) (.nil))) (.nil)))))))))) qg qg _ (Za.refl _ _) ?_;simp -dsimp -implicitDefEqProofs (disch:=first|exact dD|fail) [go_sem,ZX x1,ZR x1,ZX e1,ZR e1,ZX m1,ZR m1,g1]
    repeat' first
      | refine Yf ?_ ?_
      | simp -dsimp -implicitDefEqProofs (disch:=first|exact dD|fail) [go_sem,ZX x1,ZR x1,ZX e1,ZR e1,ZX m1,ZR m1,g1]
    all_goals
      refine Zb.ap (Ww _ hy qf fun h10 v10 le10 i10 ap=>?_);obtain⟨y1,y2⟩:=ap;obtain⟨y3,y4,_⟩:=Ap.oent (Ap.oent (Ap.oent y2));obtain⟨wa,wc,rfl,_⟩:=i10.open
      first
      | refine xkp (Za.forget le10) ?_
      | skip
    repeat' first
      | refine Yf ?_ ?_
      | simp -dsimp -implicitDefEqProofs (disch:=first|exact dD|fail) [go_sem,ZX x1,ZR x1,ZX e1,ZR e1,ZX m1,ZR m1,g1]
      | refine xkp (Za.forget le10) ?_
    all_goals
      refine⟨by rw[hfl];exact c2,k+1,rl'.set k (.slice wa by'.length wc,by'),h10,⟨qf,?_,fun x hx=>?_,k4.trans le10,y3,y4,⟨k8.1,y1⟩⟩,qf,qi,?_⟩
      · rw[<- k2,xsL,xsL,List.map_set];apply List.ext_getElem?;intro n;rw[List.getElem?_set];split
        · rename_i e;subst e;have:(rl'.map (fun x:QS=>x.2))[k]?=some by':=by
            rw[List.getElem?_map,List.getElem?_eq_getElem qf,<- G4 qf,<- hqk];rfl
          first
          | exact this.symm
          | (split
             · exact this.symm
             · rename_i hh;exfalso;apply hh;simp;omega)
        · rfl
      · rcases List.mem_or_eq_of_mem_set hx with hx|rfl
        · exact(k3 x hx).up le10
        · exact i10
      · rw[vsL,vsL,List.map_set,Z7,Nat.mul_one];exact Za.refl _ _
  have hkl:k=s.ring.length:=qf;subst hkl;simp -dsimp -implicitDefEqProofs (disch:=first|exact dD|fail) [go_sem,ZX rb1,ZR rb1,ZX rb2,ZR rb2,ZX x1,ZR x1,ZX e1,ZR e1,ZX m1,ZR m1,ZX x2,ZR x2,ZX e2,ZR e2,ZX m2,ZR m2];have le10:=YL (h:=h9) k8 (vsL rl');have sl10:=WE (h:=h9) (sz:=1) (n:=s.ring.length) (o:=orr) (xs:=vsL rl') ok3 (by simp [vsL,hrl']) qf;have le8':PH.le h8 (Jh h9 orr (vsL rl')):=k4.trans le10;have hst:Zx (Jh h9 orr (vsL rl')) (.slice rta s.ring.length rtc) rl':=by
    rw[<- ert];rw[<- hrl']at sl10 ⊢;exact Zqo sl10 fun p hp=>(k3 p hp).up le10
  have le5':=kq4.trans (le7.trans (le8.trans le8'));have le4':=le5.trans le5';have le2':=le4.trans le4';have hS:Zp (Jh h9 orr (vsL rl')) (Zwb ⟨.slice pa1 s.ag.length pc1,.slice none 0 0,.slice none 0 0,.slice none 0 0,.slice oa1 s.aj.length oc1,.slice da1 s.ai.length dc1,.slice mta s.ah.length mtc,.slice ka1 s.marks.length kc1,.slice rta s.ring.length rtc⟩ (.slice none 0 0) (.slice none 0 0) (.slice none 0 0)) (Yju s) :=
    { ok:=⟨hs.ok.p,hs.ok.u,hs.ok.n⟩,p:=i1.up le2',m:=Zd.nil Z8 _,mo:=(fun x hx=>zh),e:=Y7 _ .i64,x:=Y7 _ .i64,o:=i4.up le4',oo:=hs.oo,d:=i5.up le5',dd:=hs.dd,t:=⟨ql',rmot.up le8',kq2,fun x hx=>(imot x hx).up le8'⟩,k:=i8.up le8',r:=⟨rl',hst,k2⟩ }
  exact⟨_,_,(YG orr (vsL rl') _ h9 qh).trans Zsu,by rw[<- exx,<- exe];exact hk _ ⟨.slice pa1 s.ag.length pc1,.slice none 0 0,.slice none 0 0,.slice none 0 0,.slice oa1 s.aj.length oc1,.slice da1 s.ai.length dc1,.slice mta s.ah.length mtc,.slice ka1 s.marks.length kc1,.slice rta s.ring.length rtc⟩ om oe ox (le18.trans le8') ok1 oke okx hS⟩
structure MI (p:Ze)(m:Zc):Prop where
 b:0<=m.bal/\m.bal<=p.cap
 e:0<=m.eff/\m.eff<=1099511627776
 sc:0<=m.score/\m.score<=p.aA
 st:0<=m.ak/\m.ak<=p.ak
 ow:0<=m.owner/\m.owner<64
 s:(m.status=2\/m.status=3)\/(m.status=1/\1<=m.bal/\m.eff=0)\/((m.status=4\/m.status=5)/\m.bal=0/\m.eff=0)
abbrev MF (p:Ze)(m:Zc):Prop:=Uf m->p.floor<m.bal
theorem Ybp {P:Zc->Prop}{l:List Zc}(h:∀x∈l,P x){i:Nat}{m:Zc}(hf:i<l.length->P m):∀x∈l.set i m,P x:=fun x hx=>by
 by_cases c:i<l.length
 ·rcases List.mem_or_eq_of_mem_set hx with hx|rfl
  ·exact h x hx
  ·exact hf c
 ·rw[List.set_eq_of_length_le qf]at hx;exact h x hx
theorem grP {P:Zc->Prop}{l:List Zc}(h:∀x∈l,P x){i:Nat}(hi:i<l.length):P (gr ZQ l i):=h _ (Yp hi)
theorem Gr {p:Ze}(hr:Yo p=true):Wa p=true/\WB p=true:=by
 simp only[Yo,Bool.and_eq_true]at hr;exact⟨hr.1.1.1,hr.1.1.2⟩
theorem mi_of {p:Ze}(hr:Yo p=true){m:Zc}(mo:Zf m)(hm:Y2 p m=true):MI p m/\MF p m:=by
 obtain⟨h1,h2,h3,h4⟩:=Zor hm;obtain⟨s1,s2⟩:=Gr hr;have f1:=YK s1;have f2:=Wd s2;have f3:=Yc hr;have u1:=mo.u m.bal qj;have u2:=mo.u m.eff qj;have u3:=mo.u m.score qj;have hc:=Zwf hr h4;unfold V1 at h4;by_cases c1:m.status=2\/m.status=3
 ·rw[if_pos c1]at h4;simp only[Bool.and_eq_true,decide_eq_true_eq,VJ]at h4;exact⟨⟨⟨u1.1,hc⟩,qf,qf,qf,h1,.inl c1⟩,fun _=>qf⟩
 ·rw[if_neg c1]at h4;refine⟨?_,fun c=>absurd c c1⟩;by_cases c2:m.status=1
  ·rw[if_pos c2]at h4;simp only[Bool.and_eq_true,decide_eq_true_eq]at h4;exact⟨⟨u1.1,hc⟩,qf,qf,qf,h1,.inr (.inl ⟨c2,h4.1.1,h4.2⟩)⟩
  ·rw[if_neg c2]at h4;by_cases c3:m.status=4\/m.status=5
   ·rw[if_pos c3]at h4;simp only[Bool.and_eq_true,decide_eq_true_eq]at h4;exact⟨⟨u1.1,hc⟩,qf,qf,qf,h1,.inr (.inr ⟨c3,h4.1,h4.2⟩)⟩
   ·rw[if_neg c3]at h4;cases h4
theorem wg_mi {p:Ze}(hr:Yo p=true)(ok:Zj p)(ks:List Int)(mode:Int)(k:Nat){m:Zc}(h:MI p m):MI p (wgF p ks mode k m):=by
 obtain⟨s1,s2⟩:=Gr hr;have f2:=Wd s2;have f3:=Yc hr;have h1:=h.sc;have h2:=h.st;have o1:=ok.w p.recover qB;unfold wgF;split
 ·unfold W8;split
  ·refine⟨h.b,h.e,?_,?_,h.ow,h.s⟩
   ·show 0<=Wf m.score p.recover/\Wf m.score p.recover<=_;unfold Wf;split<;>omega
   ·show 0<=(if max m.ak 0<p.ak then max m.ak 0+1 else p.ak)/\(if max m.ak 0<p.ak then max m.ak 0+1 else p.ak)<=p.ak;by_cases c:max m.ak 0<p.ak
    ·rw[if_pos c];omega
    ·rw[if_neg c];omega
  ·refine⟨h.b,h.e,?_,?_,h.ow,h.s⟩
   ·show 0<=(if mode=3 then Gs m.score p.aP p.aA else if mode=4 then Gs m.score p.aO p.aA else m.score)/\(if mode=3 then Gs m.score p.aP p.aA else if mode=4 then Gs m.score p.aO p.aA else m.score)<=p.aA;unfold Gs;by_cases c:mode=3
    ·rw[if_pos c];omega
    ·rw[if_neg c];by_cases c2:mode=4
     ·rw[if_pos c2];omega
     ·rw[if_neg c2];omega
   ·show (0:Int)<=0/\(0:Int)<=p.ak;omega
 ·exact h
theorem Ypw {p:Ze}{m:Zc}(h:MI p m){n:Int}(hn:0<=n)(hc:Uf m):MI p (Uq p m n).1:=by
 have h1:=h.b;refine⟨?_,h.e,h.sc,h.st,h.ow,.inl hc⟩;show 0<=m.bal+min n (Wf p.cap m.bal)/\m.bal+min n (Wf p.cap m.bal)<=p.cap;unfold Wf;split<;>omega
theorem Ymu {p:Ze}(ok:Zj p)(hr:Yo p=true)(ks:List Int)(mode:Int)(k:Nat){m:Zc}(mo:Zf m)(h:MI p m):MI p (fnF p ks mode k m):=by
 have h1:=h.b;have h2:=Ybl ok hr mo mode;unfold fnF;split
 ·rename_i c;refine⟨?_,h.e,h.sc,h.st,h.ow,.inl c.1⟩;show 0<=m.bal-YV p m mode/\m.bal-YV p m mode<=p.cap;omega
 ·exact h
theorem Zig {p:Ze}{m:Zc}(hr:Yo p=true)(h:MI p m){st:Int}(hs:st=4\/st=5):MI p (V5 m st)/\MF p (V5 m st):=by
 have h1:=h.b;have h2:=h.st;refine⟨⟨?_,by simp [V5],h.sc,?_,h.ow,.inr (.inr ⟨hs,rfl,rfl⟩)⟩,fun c=>?_⟩
 ·show (0:Int)<=0/\(0:Int)<=p.cap;omega
 ·show (0:Int)<=0/\(0:Int)<=p.ak;omega
 ·simp only[Uf,V5]at c;omega
theorem ej_mi {p:Ze}(hr:Yo p=true){m:Zc}(h:MI p m):MI p (ejF p m)/\MF p (ejF p m):=by
 unfold ejF;split
 ·exact Zig hr h (st:=4) (.inl rfl)
 ·rename_i c
  exact⟨h,fun hc=>by
   have:¬m.bal<=p.floor:=fun x=>c ⟨hc,x⟩
   omega⟩
theorem Yls {p:Ze}(hr:Yo p=true){m:Zc}(h:MI p m)(hf:MF p m){a:Int}(ha:0<=a):MI p (Ur p m a)/\MF p (Ur p m a):=by
 have h1:=h.b;have h2:=h.s;have ht:0<=YS p m a/\m.bal+YS p m a<=p.cap:=by
  unfold YS Wf;split<;>omega
 unfold Ur;split
 ·rename_i c;exact⟨⟨qp,qj,h.sc,h.st,h.ow,.inr (.inl ⟨rfl,qp,rfl⟩)⟩,fun x=>by simp [Uf]at x⟩
 ·rename_i c;refine⟨⟨qp,h.e,h.sc,h.st,h.ow,?_⟩,fun x=>?_⟩
  ·rcases h2 with h2|h2|h2
   ·exact .inl h2
   ·exact .inr (.inl ⟨h2.1,qp,h2.2.2⟩)
   ·refine .inr (.inr ⟨h2.1,?_,h2.2.2⟩);simp only;by_cases z:0<m.bal+YS p m a
    ·exact absurd ⟨z,h2.1⟩ c
    ·omega
  ·have:=hf x;simp only;omega
theorem Ydw {p:Ze}(hr:Yo p=true){m:Zc}(h:MI p m)(hf:MF p m):MI p (Wo p m).1/\MF p (Wo p m).1:=by
 obtain⟨s1,s2⟩:=Gr hr;have f1:=YK s1;have f3:=Yc hr;have h1:=h.b;unfold Wo;split
 ·rename_i c;have g:=Zds hr c.2.1;simp only[VJ,Bool.and_eq_true,decide_eq_true_eq]at g;refine⟨⟨h.b,?_,h.sc,?_,h.ow,.inl (.inl rfl)⟩,fun _=>c.2.1⟩
  ·show 0<=Wi p m.bal/\Wi p m.bal<=_;omega
  ·show (0:Int)<=0/\(0:Int)<=p.ak;omega
 ·exact⟨h,hf⟩
theorem Yeu {p q:Ze}(hq:Yo q=true){m:Zc}(h:MI p m):MI q (W7 q m):=by
 obtain⟨s1,s2⟩:=Gr hq;have f1:=YK s1;have f2:=Wd s2;have f3:=Yc hq;have h1:=h.b;have h2:=h.sc;have h3:=h.st;refine⟨?_,h.e,?_,?_,h.ow,?_⟩
 ·show 0<=min m.bal q.cap/\min m.bal q.cap<=q.cap;omega
 ·show 0<=min m.score q.aA/\min m.score q.aA<=q.aA;omega
 ·show 0<=min (max m.ak 0) q.ak/\min (max m.ak 0) q.ak<=q.ak;omega
 ·rcases h.s with h4|h4|h4
  ·exact .inl h4
  ·exact .inr (.inl ⟨h4.1,by show 1<=min m.bal q.cap;omega,h4.2.2⟩)
  ·exact .inr (.inr ⟨h4.1,by show min m.bal q.cap=0;omega,h4.2.2⟩)
theorem Yme {p:Ze}(hr:Yo p=true){m:Zc}(h:MI p m)(hf:MF p m):Y2 p (Gm p m)=true:=by
 have h1:=h.b;have h2:=h.sc;have h3:=h.st;have h4:=h.ow;have base:∀m',m'.owner=m.owner->m'.score=m.score->m'.ak=m.ak->V1 p m'=true->Y2 p m'=true:=fun m' e1 e2 e3 e4=>by
  simp only[Y2,Bool.and_eq_true,decide_eq_true_eq,e4,and_true,Zfi,JV,List.cons.injEq,true_and];omega
 unfold Gm;by_cases c1:Uf m
 ·rw[if_pos c1];refine base _ rfl rfl rfl ?_;have hg:=Znz hr (hf c1);rw[V1,if_pos (by show m.status=2\/m.status=3;exact c1)];simp only[Bool.and_eq_true,decide_eq_true_eq];exact⟨⟨hf c1,h1.2⟩,hg⟩
 ·rw[if_neg c1];refine base _ rfl rfl rfl ?_;rw[V1,if_neg c1];rcases h.s with h5|h5|h5
  ·exact absurd h5 c1
  ·rw[if_pos h5.1];simp only[Bool.and_eq_true,decide_eq_true_eq];omega
  ·rw[if_neg qf,if_pos h5.1];simp only[Bool.and_eq_true,decide_eq_true_eq];omega
theorem IsCert.range {v:Value}{c:ZI}(hc:IsCert h v c)(i:Nat):0<=at0 c.st i/\at0 c.st i<=18446744073709551615:=by
 obtain⟨_,_,_,hs,_⟩:=hc;exact hs.word i
def sgn (c:ZI)(i:Nat):Bool:=Wm c.bs i
def pres (c:ZI):Int:=wsum c.st (sgn c) c.st.length
structure ZL (h:PH)(bv:Value)(d:Yyw):Prop where
 i:Ints h .u8 bv d.bits
 ok:Yza d
theorem ZL.up {h h':PH}(le:PH.le h h'){bv:Value}{d:Yyw}(hd:ZL h bv d):ZL h' bv d:=⟨hd.i.up le,hd.ok⟩
theorem Zxl {p q:Ze}(hpq:WZ p++YA p=WZ q++YA q):p=q:=by
 cases p;cases q
 simp only[WZ,YA,List.cons_append,List.nil_append,List.cons.injEq]at hpq;simp only[Ze.mk.injEq];simp only[hpq,and_self]
def parK:List IntKind:=[.u64,.u64,.u64,.u64,.u64,.u64,.u64,.u64,.u64,.u64,.u64,.u64,.u64,.u64,.i64,.i64,.i64,.i64,.i64,.i64,.i64,.i64,.i64,.i64]
end Go.X

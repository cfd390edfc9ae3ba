/- Lemmas and contracts. Conditions: as each says. -/
import Derived.Test.YtllhopbilpdpkaaGreatQ14
import Derived.Test.YtllhopbilpdpkaaGreatQ15
set_option linter.unusedVariables false
set_option linter.unusedSimpArgs false
set_option maxHeartbeats 12800000
set_option maxRecDepth 20000
namespace Go.X
open Go.RowKit Go.Proofs Go.Bl Go.Proofs.Tryz
variable {L:Own} {h:PH} {K:PK}
theorem Ja {α:Type}(z:α)(q:α->Bool)(l:List α)(hq:∀j,j<l.length->q (gr z l j)=true):l.all q=true:=by
 rw[List.all_eq_true];intro x hx;obtain⟨j,hj,rfl⟩:=List.mem_iff_getElem.1 hx;have:=hq j hj
 rwa [Ye hj]at this
theorem YF {α:Type}(z:α)(q:α->Bool)(l:List α){k:Nat}(hk:k<l.length)(hq:q (gr z l k)=false):l.all q=false:=by
 rw[List.all_eq_false];rw[Ye hk]at hq;exact⟨l[k],List.getElem_mem hk,by simp [hq]⟩
theorem Yin (q:Int->Bool)(l:List Int)(hq:∀j,j<l.length->q (at0 l j)=true):l.all q=true:=Ja 0 q l hq
theorem Zfd (q:Int->Bool)(l:List Int){k:Nat}(hk:k<l.length)(hq:q (at0 l k)=false):l.all q=false:=YF 0 q l hk hq
theorem Zp.slices {v:SV}{s:Zg}(hs:Zp h v s):∃pa pc ma mc ea ec xa xc oa oc da dc ta tc ka kc ra rc,
  v=⟨.slice pa s.ag.length pc,.slice ma s.ae.length mc,.slice ea s.entry.length ec,.slice xa s.exit.length xc,.slice oa s.aj.length oc,.slice da s.ai.length dc,.slice ta s.ah.length tc,.slice ka s.marks.length kc,.slice ra s.ring.length rc⟩:=by
 obtain⟨pa,pc,hp,_⟩:=hs.p.open;obtain⟨ma,mc,hm,_⟩:=hs.m.open;obtain⟨ea,ec,he,_⟩:=hs.e.open;obtain⟨xa,xc,hx,_⟩:=hs.x.open;obtain⟨oa,oc,ho,_⟩:=hs.o.open;obtain⟨da,dc,hd,_⟩:=hs.d.open;obtain⟨q,t1,t2,_⟩:=hs.t;obtain⟨ta,tc,ht,_⟩:=t1.open;obtain⟨ka,kc,hk,_⟩:=hs.k.open;obtain⟨r,r1,r2⟩:=hs.r;obtain⟨ra,rc,hr,_⟩:=r1.open;refine⟨pa,pc,ma,mc,ea,ec,xa,xc,oa,oc,da,dc,ta,tc,ka,kc,ra,rc,?_⟩;rw[<- t2,<- r2,List.length_map,Wu];obtain⟨vp,vm,ve,vx,vo,vd,vt,vk,vr⟩:=v;simp only at hp hm he hx ho hd ht hk hr;subst hp hm he hx ho hd ht hk hr
 rfl
theorem Js (n lo hi:Int)(hk:K (.bool (wi n lo hi)) L h):Zb prog 59 [.int .i64 n,.int .i64 lo,.int .i64 hi] L h K:=by
 unfold wi at hk;refine ed func59 ?_;refine xx ?_;by_cases c:lo<=n
 ·refine xx ?_;exact ZP qC
 ·refine xx ?_;exact ZP qC
theorem Gh (n lo hi:Int)(hk:K (.bool (wi n lo hi)) L h):Zb prog 283 [.int .i64 n,.int .i64 lo,.int .i64 hi] L h K:=by
 unfold wi at hk;refine ed func283 ?_;refine xx ?_;by_cases c:lo<=n
 ·refine xx ?_;exact ZP qC
 ·refine xx ?_;exact ZP qC
theorem Zma (n lo hi:Int)(hk:K (.bool (wi n lo hi)) L h):Zb prog 282 [.int .i64 n,.int .i64 lo,.int .i64 hi] L h K:=by
 unfold wi at hk;refine ed func282 ?_;refine xx ?_;by_cases c:lo<=n
 ·refine xx ?_;exact ZP qC
 ·refine xx ?_;exact ZP qC
def Y8 (s:Zg)(i:Int):Bool:=wi i 0 ((s.ag.length:Int)-1)
theorem VQ {s:Zg}(v:SV)(hs:Zp h v s)(few:Zy s)(i:Int)(hk:K (.bool (Y8 s i)) L h):Zb prog 170 [stV s v,.int .i64 i] L h K:=by
 obtain⟨pa,pc,hp,_⟩:=hs.p.open;have fp:=few.p;unfold Y8 at hk;refine ed func170 ?_;refine xx ?_;refine ZY fun b1 nb1 zb1=>?_;(try simp only[ZS]at nb1);refine xF ?_;refine Js _ _ _ ?_;refine xx ?_;exact ZO (ZP hk)
def VG (s:Zg):Bool:=wi s.ag.length 1 64&&s.ag.all fun z=>decide (z<=4611686018427387904)
theorem Zsw {s:Zg}(v:SV)(hs:Zp h v s)(few:Zy s)(hk:K (.bool (VG s)) L h):Zb prog 60 [stV s v] L h K:=by
 have hw:=hs.p.word;obtain⟨pa,pc,hp,hc,hl,_,hcs⟩:=hs.p.open;have fp:=few.p;unfold VG at hk;refine ed func60 ?_;refine xx ?_;refine ZY fun b1 nb1 zb1=>?_;(try simp only[ZS]at nb1);refine xF ?_;refine Js _ _ _ ?_
 cases hq:wi s.ag.length 1 64 with
 | false =>
  rw[hq]at hk;refine xx ?_;exact ZO (ZP qA)
 | true =>
  rw[hq,Bool.true_and]at hk;refine xF ?_;refine Yi (0:Nat) (fun k=>k<=s.ag.length/\∀j,j<k->at0 s.ag j<=4611686018427387904) (fun k=>[(15,.int .i64 k),(14,.int .i64 s.ag.length),(13,.slice pa s.ag.length pc)]) (fun _=>L) (fun _=>h) (fun k=>s.ag.length-k) ?_ ?_ ?_ ?_
  ·exact⟨Nat.zero_le _,fun j hj=>qf⟩
  ·simp [Ent,List.lookup,YT,hp]
  ·exact Za.tail _ _ _
  rintro k ⟨k1,k2⟩;have hwk:=hw k;by_cases c1:k<s.ag.length
  ·by_cases c2:at0 s.ag k<=4611686018427387904
   ·refine xe ?_;refine⟨k+1,⟨qf,fun j hj=>?_⟩,qf,qi,Za.refl _ _⟩;by_cases e:j=k
    ·subst e;exact c2
    ·exact k2 j qf
   ·rw[Zfd _ _ c1 (decide_eq_false c2)]at hk;refine xe ?_;exact ZP hk
  ·rw[Yin _ _ (fun j hj=>decide_eq_true (k2 j qf))]at hk;refine xx ?_;exact ZP hk
theorem Zko {zs:List Int}(v:Value)(x:Int)(hz:Ints h .i64 v zs)(hx : -9223372036854775808<=x/\x<=9223372036854775807)(hk:∀i:Int,-1<=i->i<=9223372036854775807->(0<=i↔x∈zs)->K (.int .i64 i) L h):Zb prog 307 [v,.int .i64 x] L h K:=by
 have hn:=hz.num;obtain⟨a,c,rfl,hcap,hl,_,hcs⟩:=hz.open;refine ed func307 ?_;refine xx ?_;refine Y1 (0:Nat) (fun k=>k<=zs.length/\∀j,j<k->at0 zs j≠x) (fun k=>[(8,.int .i64 k),(7,.int .i64 zs.length),(0,.slice a zs.length c),(1,.int .i64 x)]) (fun k=>zs.length-k) ?_ ?_ ?_
 ·exact⟨Nat.zero_le _,fun j hj=>qf⟩
 ·simp [Ent,List.lookup,YT]
 rintro k ⟨k1,k2⟩;by_cases c1:k<zs.length
 ·by_cases c2:x=at0 zs k
  ·refine xe ?_;refine ZP (hk k qf qf ⟨fun _=>?_,fun _=>qf⟩);rw[c2,<- Ys c1];exact List.getElem_mem c1
  ·refine xe ?_;refine⟨k+1,⟨qf,fun j hj=>?_⟩,qf,qi,Za.refl _ _⟩;by_cases e:j=k
   ·subst e;exact fun e=>c2 e.symm
   ·exact k2 j qf
 ·refine xx ?_;refine ZP (hk (-1) qf qf ⟨fun hh=>qf,fun hm=>?_⟩);obtain⟨j,hj,e⟩:=List.mem_iff_getElem.1 hm;exact absurd (by rw[<- Ys hj,e]) (k2 j qf)
theorem Zjy {zs:List Int}(v:Value)(x:Int)(hz:Ints h .i64 v zs)(hx : -9223372036854775808<=x/\x<=9223372036854775807)(hk:K (.bool (decide (x∈zs))) L h):Zb prog 203 [v,.int .i64 x] L h K:=by
 have hz':=hz;obtain⟨a,c,rfl,hcap,hl,_,hcs⟩:=hz.open;refine ed func203 ?_;refine xx ?_;refine Zko _ x hz' hx fun i i1 i2 i3=>?_;refine xx ?_;have:decide (0<=i)=decide (x∈zs):=by simp only[i3]
 refine ZP ?_;rw[this];exact hk
def Zpm (l:List Zc)(st:Int):Nat->Nat
 | 0=>0
 | k+1=>Zpm l st k+if (gr ZQ l k).status=st then 1 else 0
theorem Zwu (l:List Zc)(st:Int):∀k,Zpm l st k<=k
 | 0=>Nat.le_refl _
 | k+1=>by have:=Zwu l st k;simp only[Zpm];split<;>omega
def Yhb (s:Zg)(l:List Int)(st:Int):Bool:=(List.range s.ae.length).all fun j => !decide ((gr ZQ s.ae j).status=st)||decide ((j:Int)∈l)
def Zfz (s:Zg)(l:List Int)(st:Int):Bool:=Yhb s l st&&decide (l.length=Zpm s.ae st s.ae.length)
theorem Zcj {s:Zg}{l:List Int}{st:Int}(hq:∀j,j<s.ae.length->(gr ZQ s.ae j).status=st->(j:Int)∈l):Yhb s l st=true:=by
 rw[Yhb,List.all_eq_true];intro j hj;by_cases e:(gr ZQ s.ae j).status=st
 ·simp [e,hq j (List.mem_range.1 hj) e]
 ·simp [e]
theorem Zus {s:Zg}{l:List Int}{st:Int}{k:Nat}(hk:k<s.ae.length)(e:(gr ZQ s.ae k).status=st)(hn:(k:Int) ∉ l):Yhb s l st=false:=by
 rw[Yhb,List.all_eq_false];exact⟨k,List.mem_range.2 hk,by simp [e,hn]⟩
theorem Zwt {s:Zg}(v:SV)(hs:Zp h v s)(few:Zy s){l:List Int}(lv:Value)(hlv:Ints h .i64 lv l)(st:Int)(hst : -9223372036854775808<=st/\st<=9223372036854775807)(hk:K (.bool (Zfz s l st)) L h):Zb prog 171 [stV s v,lv,.int .i64 st] L h K:=by
 obtain⟨ma,mc,hm,hmc,hml,_,hd⟩:=hs.m.open;have fm:=few.m;have hlv':=hlv;obtain⟨la,lc,rfl,hlc,hll,_,hcs⟩:=hlv.open;refine ed func171 ?_;refine xx ?_;refine ZY fun b1 nb1 zb1=>?_;(try simp only[ZS]at nb1);refine xH ?_;refine Yi (0:Nat) (fun k=>k<=s.ae.length/\∀j,j<k->(gr ZQ s.ae j).status=st->(j:Int)∈l) (fun k=>[(14,.int .i64 k),(13,.int .i64 s.ae.length),(12,.slice ma s.ae.length mc),(7,.int .i64 (Zpm s.ae st k)),(1,.slice la l.length lc),(2,.int .i64 st)]) (fun _=>L) (fun _=>h) (fun k=>s.ae.length-k) ?_ ?_ ?_ ?_
 ·exact⟨Nat.zero_le _,fun j hj=>qf⟩
 ·simp [Ent,List.lookup,YT,hm,Zpm]
 ·exact Za.tail _ _ _
 rintro k ⟨k1,k2⟩;have hcl:=Zwu s.ae st k;by_cases c1:k<s.ae.length
 ·have hxo:=hs.mo (gr ZQ s.ae k) qG;refine xh ?_;refine ZY fun b2 nb2 zb2=>?_;(try simp only[ZS]at nb2);by_cases c2:(gr ZQ s.ae k).status=st
  ·refine xm ?_;refine Zjy _ k hlv' ⟨qf,qf⟩ ?_;by_cases c3:(k:Int)∈l
   ·rw[decide_eq_true c3];refine xx ?_;refine⟨k+1,⟨qf,fun j hj=>?_⟩,qf,by simp [Ent,List.lookup,Zpm,c2],Za.tail _ _ _⟩;by_cases e:j=k
    ·subst e;exact fun _=>c3
    ·exact k2 j qf
   ·rw[Zfz,Zus c1 c2 c3]at hk;rw[decide_eq_false c3];refine xx ?_;exact ZO (ZP hk)
  ·refine xm ?_;refine⟨k+1,⟨qf,fun j hj=>?_⟩,qf,by simp [Ent,List.lookup,Zpm,c2],Za.tail _ _ _⟩;by_cases e:j=k
   ·subst e;exact fun e=>absurd e c2
   ·exact k2 j qf
 ·have hkl:k=s.ae.length:=qf;subst hkl;rw[Zfz,Zcj k2,Bool.true_and]at hk;refine xx ?_;refine ZP ?_;have e:decide ((l.length:Int)=(Zpm s.ae st s.ae.length:Nat))=decide (l.length=Zpm s.ae st s.ae.length):=by simp only[Int.natCast_inj]
  first
   | exact hk
   | (rw[e];exact hk)
def WU (s:Zg):Bool:=decide (s.ae.length<=128)&&s.ae.all (fun m=>Y2 s.par m&&Y8 s m.owner)&&Zfz s s.entry 1&&Zfz s s.exit 3
theorem Znl {s:Zg}(v:SV)(hs:Zp h v s)(few:Zy s)(hr:Yo s.par=true)(hk:K (.bool (WU s)) L h):Zb prog 61 [stV s v] L h K:=by
 obtain⟨pa,pc,ma,mc,ea,ec,xa,xc,oa,oc,da,dc,ta,tc,ka,kc,ra,rc,rfl⟩:=hs.slices;have hd:Zd YD 6 h (.slice ma s.ae.length mc) s.ae:=hs.m;have fm:=few.m;unfold WU at hk;refine ed func61 ?_;refine xx ?_;refine ZY fun b1 nb1 zb1=>?_;(try simp only[ZS]at nb1);refine xx ?_;by_cases c0:s.ae.length<=128
 ·rw[decide_eq_true c0,Bool.true_and]at hk;refine xx ?_;refine Yi (0:Nat) (fun k=>k<=s.ae.length/\∀j,j<k->(fun m:Zc=>Y2 s.par m&&Y8 s m.owner) (gr ZQ s.ae j)=true) (fun k=>[(14,.int .i64 k),(13,.int .i64 s.ae.length),(12,.slice ma s.ae.length mc),(1,.pointer (some ⟨b1,0,none⟩))]) (fun _=>⟨b1,132,stC s ⟨.slice pa s.ag.length pc,.slice ma s.ae.length mc,.slice ea s.entry.length ec,.slice xa s.exit.length xc,.slice oa s.aj.length oc,.slice da s.ai.length dc,.slice ta s.ah.length tc,.slice ka s.marks.length kc,.slice ra s.ring.length rc⟩,41⟩::L) (fun _=>h) (fun k=>s.ae.length-k) ?_ ?_ ?_ ?_
  ·exact⟨Nat.zero_le _,fun j hj=>qf⟩
  ·simp [Ent,List.lookup,YT]
  ·exact Za.refl _ _
  rintro k ⟨k1,k2⟩;by_cases c1:k<s.ae.length
  ·have hxo:=hs.mo (gr ZQ s.ae k) qG;refine xh ?_;refine ZY fun b2 nb2 zb2=>?_;(try simp only[ZS]at nb2);refine xm ?_;refine Zzh s.par hs.ok.p (gr ZQ s.ae k) hxo ?_;rw[hr,Bool.true_and]
   cases hq:Y2 s.par (gr ZQ s.ae k) with
   | false =>
    rw[YF ZQ _ _ c1 (by rw[hq];rfl)]at hk;refine xx ?_;exact ZO (ZO (ZP qA))
   | true =>
    refine xx ?_;refine VQ _ hs few _ ?_
    cases hq2:Y8 s (gr ZQ s.ae k).owner with
    | false =>
     rw[YF ZQ _ _ c1 (by rw[hq,hq2];rfl)]at hk;refine xx ?_;exact ZO (ZO (ZP qA))
    | true =>
     refine xx ?_;refine⟨k+1,⟨qf,fun j hj=>?_⟩,qf,qi,Za.tail _ _ _⟩;by_cases e:j=k
     ·subst e;first|exact⟨hq,hq2⟩ | (simp only[hq,hq2];rfl)|simp [hq,hq2]
     ·first|exact k2 j qf|simpa using k2 j qf
  ·have hkl:k=s.ae.length:=qf;subst hkl;rw[Ja ZQ _ _ k2,Bool.true_and]at hk;refine xx ?_;refine Zwt _ hs few _ hs.e 1 qh ?_
   cases hq:Zfz s s.entry 1 with
   | false =>
    rw[hq]at hk;refine xx ?_;exact ZO (ZP qA)
   | true =>
    rw[hq]at hk;refine xx ?_;refine Zwt _ hs few _ hs.x 3 qh ?_;refine xx ?_;exact ZO (ZP qA)
 ·rw[decide_eq_false c0]at hk;refine xx ?_;exact ZO (ZP qA)
def Ytr:List IntKind:=[.u64,.u64,.u64,.u64,.u64,.u64,.u64,.u64,.u64,.u64,.u64,.u64,.u64,.u64,.i64,.i64,.i64,.i64,.i64,.i64,.i64,.i64,.i64,.i64]
abbrev motV (m:Zl)(y n:Value):Value := .agg #[.int .i64 m.au,.int .i64 m.what,.int .u64 m.par.inc,.int .u64 m.par.aF,.int .u64 m.par.floor,.int .u64 m.par.cap,.int .u64 m.par.up,.int .u64 m.par.down,.int .u64 m.par.aP,.int .u64 m.par.aQ,.int .u64 m.par.aO,.int .u64 m.par.aH,.int .u64 m.par.recover,.int .u64 m.par.aA,.int .u64 m.par.rate,.int .u64 m.par.aX,.int .i64 m.par.delay,.int .i64 m.par.ak,.int .i64 m.par.aS,.int .i64 m.par.aJ,.int .i64 m.par.aG,.int .i64 m.par.aK,.int .i64 m.par.wait,.int .i64 m.par.aW,.int .i64 m.par.aN,.int .i64 m.par.aI,.int .i64 m.to,.int .u64 m.amt,.int .i64 m.ends,.int .i64 m.due,.int .i64 m.state,y,n]
def YP (m:Zl):Bool:=wi m.au 0 63&&wi m.to 0 63&&wi m.what 1 4&&wi m.state 1 4
def WF (m:Zl):Bool:=wi m.ends 0 2147483647&&wi m.due 0 2147483647&&decide (m.amt<=4611686018427387904)
def WP (m:Zl):Bool:=YP m&&WF m&&Gn m.yes 128&&Gn m.no 128&&(if m.what=1 then Yo m.par else decide (m.par=Zhq))
theorem Yht (p q:Ze):decide (WZ p++YA p=WZ q++YA q)=decide (p=q):=by
 apply decide_eq_decide.2
 constructor
 ·intro e;simp only[WZ,YA,List.cons_append,List.nil_append,List.cons.injEq,and_true]at e
  cases p;cases q;simp only at e;simp only[Ze.mk.injEq];exact e
 ·rintro rfl;rfl
theorem Yqd (p q:Ze)(x y:Operand)(K:Value->Prop)(t:Zm K):VO prog .eql 24 x y (WS p) (WS q) K t=K (.bool (decide (p=q))):=by
 rw[<- Yht];exact Gc (T:=24) (ks:=Ytr) qg qg qg qg (WZ p++YA p) (WZ q++YA q) rfl rfl x y K t
theorem Zls (m:Zl)(y n:Value)(hy:Ints h .u8 y m.yes)(hn:Ints h .u8 n m.no)(ok:Yyq m)(hk:K (.bool (WP m)) L h):Zb prog 173 [motV m y n] L h K:=by
 have hy':=hy;have hn':=hn;obtain⟨ya,yc,rfl,_⟩:=hy.open;obtain⟨na,nc,rfl,_⟩:=hn.open;have ua:=ok.a;unfold WP at hk;refine ed func173 ?_;refine xx ?_;refine ZY fun b1 nb1 zb1=>?_;(try simp only[ZS]at nb1);refine xx ?_;have no1:∀X:Bool,YP m=false->K (.bool (YP m&&X)) L h->K (.bool false) L h:=fun X e k=>by rwa [e]at k
 refine Gh _ _ _ ?_
 cases q1:wi m.au 0 63 with
 | false =>
  rw[show YP m=false by simp [YP,q1]]at hk;refine xx ?_;exact ZO (ZP qA)
 | true =>
 refine xx ?_;refine Gh _ _ _ ?_
 cases q2:wi m.to 0 63 with
 | false =>
  rw[show YP m=false by simp [YP,q2]]at hk;refine xx ?_;exact ZO (ZP qA)
 | true =>
 refine xx ?_;refine Gh _ _ _ ?_
 cases q3:wi m.what 1 4 with
 | false =>
  rw[show YP m=false by simp [YP,q3]]at hk;refine xx ?_;exact ZO (ZP qA)
 | true =>
 refine xx ?_;refine Gh _ _ _ ?_
 cases q4:wi m.state 1 4 with
 | false =>
  rw[show YP m=false by simp [YP,q4]]at hk;refine xx ?_;exact ZO (ZP qA)
 | true =>
 rw[show YP m=true by simp [YP,q1,q2,q3,q4],Bool.true_and]at hk;refine xx ?_;refine Gh _ _ _ ?_
 cases q5:wi m.ends 0 2147483647 with
 | false =>
  rw[show WF m=false by simp [WF,q5]]at hk;refine xx ?_;exact ZO (ZP qA)
 | true =>
 refine xx ?_;refine Gh _ _ _ ?_
 cases q6:wi m.due 0 2147483647 with
 | false =>
  rw[show WF m=false by simp [WF,q6]]at hk;refine xx ?_;exact ZO (ZP qA)
 | true =>
 by_cases q7:m.amt<=4611686018427387904
 ·rw[show WF m=true by simp [WF,q5,q6,q7],Bool.true_and]at hk;refine xx ?_;refine Zlt _ 128 hy' qh qh ?_
  cases q8:Gn m.yes 128 with
  | false =>
   rw[q8]at hk;refine xx ?_;exact ZO (ZP qA)
  | true =>
  rw[q8,Bool.true_and]at hk;refine xx ?_;refine Zlt _ 128 hn' qh qh ?_
  cases q9:Gn m.no 128 with
  | false =>
   rw[q9]at hk;refine xx ?_;exact ZO (ZP qA)
  | true =>
  rw[q9,Bool.true_and]at hk;by_cases c:m.what=1
  ·rw[if_pos c]at hk;refine xx ?_;refine Vg m.par ok.p ?_
   cases hr:Yo m.par with
   | false =>
    rw[hr]at hk;refine xx ?_;exact ZO (ZP hk)
   | true =>
    rw[hr]at hk;refine xx ?_;exact ZO (ZP hk)
  ·rw[if_neg c]at hk;refine xx ?_;refine(Yqd m.par Zhq _ _ _ _).mpr ?_;refine xx ?_;exact ZO (ZP hk)
 ·rw[show WF m=false by simp [WF,q7]]at hk;refine xx ?_;exact ZO (ZP qA)
def Ve (s:Zg):Bool:=decide (s.ah.length<=32)&&s.ah.all (fun m=>WP m&&Y8 s m.au&&Y8 s m.to)
theorem Znc {s:Zg}(v:SV)(hs:Zp h v s)(few:Zy s)(hk:K (.bool (Ve s)) L h):Zb prog 63 [stV s v] L h K:=by
 obtain⟨pa,pc,ma,mc,ea,ec,xa,xc,oa,oc,da,dc,ta,tc,ka,kc,ra,rc,rfl⟩:=hs.slices;obtain⟨q,hd,t2,t3⟩:=hs.t;have fm:=few.t;have hql:q.length=s.ah.length:=zF;have hgr:∀k,k<q.length->gr Yb s.ah k=(gr Z0 q k).2.2:=fun k hk=>by
  rw[Ye hk,Ye qf];simp only[<- t2,List.getElem_map]
 unfold Ve at hk;refine ed func63 ?_;refine xx ?_;refine ZY fun b1 nb1 zb1=>?_;(try simp only[ZS]at nb1);refine xx ?_;by_cases c0:s.ah.length<=32
 ·rw[decide_eq_true c0,Bool.true_and]at hk;refine xx ?_;refine Yi (0:Nat) (fun k=>k<=s.ah.length/\∀j,j<k->(fun m:Zl=>WP m&&Y8 s m.au&&Y8 s m.to) (gr Yb s.ah j)=true) (fun k=>[(14,.int .i64 k),(13,.int .i64 s.ah.length),(12,.slice ta s.ah.length tc),(1,.pointer (some ⟨b1,0,none⟩))]) (fun _=>⟨b1,132,stC s ⟨.slice pa s.ag.length pc,.slice ma s.ae.length mc,.slice ea s.entry.length ec,.slice xa s.exit.length xc,.slice oa s.aj.length oc,.slice da s.ai.length dc,.slice ta s.ah.length tc,.slice ka s.marks.length kc,.slice ra s.ring.length rc⟩,41⟩::L) (fun _=>h) (fun k=>s.ah.length-k) ?_ ?_ ?_ ?_
  ·exact⟨Nat.zero_le _,fun j hj=>qf⟩
  ·simp [Ent,List.lookup,YT]
  ·exact Za.refl _ _
  rintro k ⟨k1,k2⟩;by_cases c1:k<s.ah.length
  ·have hx:Zr h (gr Z0 q k):=by rw[Ye qf];exact t3 _ (List.getElem_mem qf)
   have hg:=hgr k qf;obtain⟨x1,y1,hv1,_⟩:=hx.y.open;obtain⟨x2,y2,hv2,_⟩:=hx.n.open;refine xy ?_;refine ZY fun b2 nb2 zb2=>?_;(try simp only[ZS]at nb2);refine xA ?_;have m1:=hx.y;have m2:=hx.n;rw[hv1]at m1;rw[hv2]at m2;refine Zls (gr Z0 q k).2.2 _ _ m1 m2 hx.ok ?_
   cases hq:WP (gr Z0 q k).2.2 with
   | false =>
    rw[YF Yb _ _ c1 (by rw[hg,hq];rfl)]at hk;refine xx ?_;exact ZO (ZO (ZP qA))
   | true =>
   refine xx ?_;refine VQ _ hs few _ ?_
   cases hq2:Y8 s (gr Z0 q k).2.2.au with
   | false =>
    rw[YF Yb _ _ c1 (by rw[hg,hq,hq2];rfl)]at hk;refine xx ?_;exact ZO (ZO (ZP qA))
   | true =>
   refine xx ?_;refine VQ _ hs few _ ?_
   cases hq3:Y8 s (gr Z0 q k).2.2.to with
   | false =>
    rw[YF Yb _ _ c1 (by rw[hg,hq,hq2,hq3];rfl)]at hk;refine xx ?_;exact ZO (ZO (ZP qA))
   | true =>
   refine xx ?_;refine⟨k+1,⟨qf,fun j hj=>?_⟩,qf,qi,Za.tail _ _ _⟩;by_cases e:j=k
   ·subst e;first|exact⟨⟨hq,hq2⟩,hq3⟩ | simp [hg,hq,hq2,hq3]
   ·first|exact k2 j qf|simpa using k2 j qf
  ·have hkl:k=s.ah.length:=qf;subst hkl;rw[Ja Yb _ _ k2]at hk;refine xx ?_;exact ZO (ZP hk)
 ·rw[decide_eq_false c0]at hk;refine xx ?_;exact ZO (ZP qA)
theorem Zbe {bs:List Int}(v:Value)(hb:Ints h .u8 v bs)(hk:K (.bool (Gn bs 128)) L h):Zb prog 284 [v] L h K:=by
 have hb':=hb;obtain⟨a,c,rfl,_⟩:=hb.open;refine ed func284 ?_;refine xx ?_;refine Zlt _ 128 hb' qh qh ?_
 cases hc:Gn bs 128 with
 | false =>
  rw[hc]at hk;refine xx ?_;exact ZP hk
 | true =>
  rw[hc]at hk;refine xx ?_;exact ZP hk
def Ziw (ring:List (List Int))(marks:List Int):Bool:=decide (ring.length<=8)&&Gn marks 128&&ring.all (fun b=>Gn b 128)
theorem Ybu {l:List QS}{bs:List Int}(v u:Value)(hv:Zx h v l)(hu:Ints h .u8 u bs)(hn:l.length<=100000)(hk:K (.int .i64 (if Ziw (xsL l) bs then 0 else 60)) L h):Zb prog 174 [v,u] L h K:=by
 have hu':=hu;obtain⟨a,c,rfl,hc,hl,_,hcx,hd⟩:=hv.open;obtain⟨b,c',rfl,_⟩:=hu.open;unfold Ziw at hk;rw[Wu]at hk;refine ed func174 ?_;refine xx ?_;by_cases c0:l.length<=8
 ·rw[decide_eq_true c0,Bool.true_and]at hk;refine xx ?_;refine Zbe _ hu' ?_
  cases h1:Gn bs 128 with
  | false =>
   rw[h1]at hk;refine xx ?_;exact ZP qA
  | true =>
  rw[h1,Bool.true_and]at hk;refine xx ?_;refine Y1 (0:Nat) (fun k=>k<=l.length/\∀j,j<k->Gn (gs l j).2 128=true) (fun k=>[(17,.int .i64 k),(16,.int .i64 l.length),(15,.slice a l.length c)]) (fun k=>l.length-k) ?_ ?_ ?_
  ·exact⟨Nat.zero_le _,fun j hj=>qf⟩
  ·simp [Ent,List.lookup,YT]
  rintro k ⟨k1,k2⟩;have hgs:∀j,j<l.length->gr [] (xsL l) j=(gs l j).2:=fun j hj=>by
   rw[Ye (by rw[Wu];exact hj),G4 hj];simp [xsL]
  by_cases c1:k<l.length
  ·have hi:=hd.at c1;have hi':=hi;obtain⟨x1,y1,hv1,_⟩:=hi.open;simp -dsimp -implicitDefEqProofs (disch:=first|exact dD|fail) [go_sem,idx hcx,hv1];rw[hv1]at hi';refine Zbe _ hi' ?_
   cases h2:Gn (gs l k).2 128 with
   | false =>
    rw[YF [] _ _ (k:=k) (by rw[Wu];exact c1) (by rw[hgs k c1,h2])]at hk;refine xx ?_;exact ZP qA
   | true =>
    refine xx ?_;refine⟨k+1,⟨qf,fun j hj=>?_⟩,qf,qi,Za.refl _ _⟩;by_cases e:j=k
    ·subst e;exact h2
    ·exact k2 j qf
  ·rw[Ja [] _ _ (fun j hj=>by rw[Wu]at hj;rw[hgs j hj];exact k2 j qf)]at hk;refine xx ?_;exact ZP qA
 ·rw[decide_eq_false c0]at hk;refine xx ?_;exact ZP qA
def J1 (s:Zg):Bool:=Ziw s.ring s.marks&&(List.range 128).all fun i=>decide (i<s.ae.length) || !Wm s.marks i
theorem Zwz {s:Zg}(v:SV)(hs:Zp h v s)(few:Zy s)(hk:K (.bool (J1 s)) L h):Zb prog 64 [stV s v] L h K:=by
 obtain⟨pa,pc,ma,mc,ea,ec,xa,xc,oa,oc,da,dc,ta,tc,ka,kc,ra,rc,rfl⟩:=hs.slices;obtain⟨q,hd,t2⟩:=hs.r;have fm:=few.m;have fr:=few.r;have hql:q.length=s.ring.length:=by rw[<- t2,Wu]
 have hkk:=hs.k;simp only at hd hkk;unfold J1 at hk;refine ed func64 ?_;refine xx ?_;refine ZY fun b1 nb1 zb1=>?_;(try simp only[ZS]at nb1);refine xx ?_;refine Ybu _ _ hd hkk qf ?_;rw[t2]
 cases h1:Ziw s.ring s.marks with
 | false =>
  rw[h1]at hk;refine xx ?_;exact ZO (ZP qA)
 | true =>
 rw[h1,Bool.true_and]at hk;refine xx ?_;refine Yi s.ae.length (fun k=>s.ae.length<=k/\k<=100000/\∀j,s.ae.length<=j->j<k->Wm s.marks (j:Int)=false) (fun k=>[(3,.int .i64 k),(1,.pointer (some ⟨b1,0,none⟩))]) (fun _=>⟨b1,132,stC s ⟨.slice pa s.ag.length pc,.slice ma s.ae.length mc,.slice ea s.entry.length ec,.slice xa s.exit.length xc,.slice oa s.aj.length oc,.slice da s.ai.length dc,.slice ta s.ah.length tc,.slice ka s.marks.length kc,.slice ra s.ring.length rc⟩,41⟩::L) (fun _=>h) (fun k=>100000-k) ?_ ?_ ?_ ?_
 ·exact⟨Nat.le_refl _,fm,fun j hj=>qf⟩
 ·simp [Ent,List.lookup,YT]
 ·exact Za.refl _ _
 rintro k ⟨k0,k1,k2⟩;by_cases c1:k<128
 ·refine xx ?_;refine Zhg _ k hkk qf ?_
  cases h2:Wm s.marks (k:Int) with
  | true =>
   have:((List.range 128).all fun i=>decide (i<s.ae.length) || !Wm s.marks i)=false:=by
    rw[List.all_eq_false];exact⟨k,List.mem_range.2 c1,by simp [h2];omega⟩
   rw[this]at hk;refine xx ?_;exact ZO (ZP hk)
  | false =>
   refine xx ?_;refine⟨k+1,⟨qf,qf,fun j hj hj2=>?_⟩,qf,qi,Za.refl _ _⟩;by_cases e:j=k
   ·subst e;exact h2
   ·exact k2 j hj qf
 ·have:((List.range 128).all fun i=>decide (i<s.ae.length) || !Wm s.marks i)=true:=by
   rw[List.all_eq_true];intro i hi;have:=List.mem_range.1 hi;by_cases e:i<s.ae.length
   ·simp [e]
   ·simp [k2 i qf qf]
  rw[this]at hk;refine xx ?_;exact ZO (ZP hk)
abbrev Yvu (d:Zk):Value := .agg #[.int .i64 d.au,.int .i64 d.mem,.int .u64 d.amt,.bool d.new]
def Zij (d:Zk):Bool:=wi d.au 0 63&&wi d.mem 0 127 && !(d.new&&decide (d.mem≠0))&&decide (1<=d.amt)&&decide (d.amt<=4611686018427387904)
theorem V7 (hk:K (.slice none 0 0) L h):Zb prog 101 [.slice none 0 0] L h K:=by
 refine ed func101 ?_;refine xx ?_;exact ZP hk
theorem Ydi (d:Zk)(ok:ZG d)(hk:∀a n c,K (.tuple #[.slice a n c,.int .i64 (if Zij d then 0 else 2)]) L h):Zb prog 172 [.slice none 0 0,Yvu d] L h K:=by
 have ua:=ok.a;refine eF func172 ?_;refine xx ?_;refine ZY fun b1 nb1 zb1=>?_;(try simp only[ZS]at nb1);refine xx ?_;refine Zma _ _ _ ?_
 cases q1:wi d.au 0 63 with
 | false =>
  simp only[Zij,q1,Bool.false_and,Bool.false_eq_true,if_false]at hk;refine xx ?_;exact ZO (ZP (hk none 0 0))
 | true =>
 refine xx ?_;refine Zma _ _ _ ?_
 cases q2:wi d.mem 0 127 with
 | false =>
  simp only[Zij,q2,Bool.and_false,Bool.false_and,Bool.false_eq_true,if_false]at hk;refine xx ?_;exact ZO (ZP (hk none 0 0))
 | true =>
 have fin1:(d.new&&decide (d.mem≠0))=true->Zij d=false:=fun e=>by simp only[Zij,e,Bool.not_true,Bool.and_false,Bool.false_and]
 have rest:(d.new&&decide (d.mem≠0))=false->Zij d=(decide (1<=d.amt)&&decide (d.amt<=4611686018427387904)):=fun e=>by simp only[Zij,e,q1,q2,Bool.not_false,Bool.true_and]
 cases q3:d.new with
 | true =>
  have q3':=q3;by_cases q4:d.mem=0
  ·rw[rest (by simp [q4])]at hk;by_cases q5:1<=d.amt
   ·by_cases q6:d.amt<=4611686018427387904
    ·rw[decide_eq_true q5,decide_eq_true q6]at hk;refine xx ?_;refine Z4 (.tk 0 (.tkl 2 (.o1 1 (.o1 3 (.o1 4 (.tk 5 (.tk 6 (.fin))) (.nil)) (.nil)) (.o1 3 (.o1 1 (.o1 4 (.tk 5 (.tk 6 (.fin))) (.nil)) (.nil)) (.nil))))) qg qg _ (Za.refl _ _) ?_;refine xx ?_;refine Yf ?_ ?_
     ·refine xx ?_;refine V7 ?_;refine xkp (Za.refl _ _) ?_;refine xx ?_;refine ZY fun b2 nb2 zb2=>?_;(try simp only[ZS]at nb2);refine xkp (Za.tail _ _ _) ?_;refine xx ?_;refine ZZ (t:=28) (e:=164) (sz:=4) (bytes:=32) qg Zgf rfl rfl rfl rfl qh [_] _ none 0 [] rfl rfl (Src.own (b:=b2) List.mem_cons_self) (m:=1) (news:=[.int .i64 d.au,.int .i64 d.mem,.int .u64 d.amt,.bool true]) rfl (by intro u hu;simp only[List.mem_cons,List.not_mem_nil,or_false]at hu;rcases hu with rfl|rfl|rfl|rfl<;>rfl) qh qh ?_;intro o' j1 j2 j3;have ho:=Z5 j1;obtain⟨a',c',e',_⟩:=ho;rw[e'];refine xx ?_;refine xkp (Za.trans (Za.tail _ _ _) (Za.oent _ _ _ _ _ _)) ?_;refine xx ?_;exact ZO (WC (ZO (ZP (hk _ _ _))))
     ·refine xx ?_;refine ZY fun b2 nb2 zb2=>?_;(try simp only[ZS]at nb2);refine xkp (Za.tail _ _ _) ?_;refine xx ?_;refine V7 ?_;refine xkp (Za.tail _ _ _) ?_;refine xx ?_;refine ZZ (t:=28) (e:=164) (sz:=4) (bytes:=32) qg Zgf rfl rfl rfl rfl qh [_] _ none 0 [] rfl rfl (Src.own (b:=b2) List.mem_cons_self) (m:=1) (news:=[.int .i64 d.au,.int .i64 d.mem,.int .u64 d.amt,.bool true]) rfl (by intro u hu;simp only[List.mem_cons,List.not_mem_nil,or_false]at hu;rcases hu with rfl|rfl|rfl|rfl<;>rfl) qh qh ?_;intro o' j1 j2 j3;have ho:=Z5 j1;obtain⟨a',c',e',_⟩:=ho;rw[e'];refine xx ?_;refine xkp (Za.trans (Za.tail _ _ _) (Za.oent _ _ _ _ _ _)) ?_;refine xx ?_;exact ZO (WC (ZO (ZP (hk _ _ _))))
    ·simp only[decide_eq_false q6,Bool.and_false,Bool.false_eq_true,if_false]at hk;refine xx ?_;exact ZO (ZP (hk none 0 0))
   ·simp only[decide_eq_false q5,Bool.false_and,Bool.false_eq_true,if_false]at hk;refine xx ?_;exact ZO (ZP (hk none 0 0))
  ·rw[fin1 (by simp [q3,q4])]at hk;refine xx ?_;exact ZO (ZP (hk none 0 0))
 | false =>
  rw[rest (by simp [q3])]at hk;by_cases q5:1<=d.amt
  ·by_cases q6:d.amt<=4611686018427387904
   ·rw[decide_eq_true q5,decide_eq_true q6]at hk;refine xx ?_;refine Z4 (.tk 0 (.tkl 2 (.o1 1 (.o1 3 (.o1 4 (.tk 5 (.tk 6 (.fin))) (.nil)) (.nil)) (.o1 3 (.o1 1 (.o1 4 (.tk 5 (.tk 6 (.fin))) (.nil)) (.nil)) (.nil))))) qg qg _ (Za.refl _ _) ?_;refine xx ?_;refine Yf ?_ ?_
    ·refine xx ?_;refine V7 ?_;refine xkp (Za.refl _ _) ?_;refine xx ?_;refine ZY fun b2 nb2 zb2=>?_;(try simp only[ZS]at nb2);refine xkp (Za.tail _ _ _) ?_;refine xx ?_;refine ZZ (t:=28) (e:=164) (sz:=4) (bytes:=32) qg Zgf rfl rfl rfl rfl qh [_] _ none 0 [] rfl rfl (Src.own (b:=b2) List.mem_cons_self) (m:=1) (news:=[.int .i64 d.au,.int .i64 d.mem,.int .u64 d.amt,.bool false]) rfl (by intro u hu;simp only[List.mem_cons,List.not_mem_nil,or_false]at hu;rcases hu with rfl|rfl|rfl|rfl<;>rfl) qh qh ?_;intro o' j1 j2 j3;have ho:=Z5 j1;obtain⟨a',c',e',_⟩:=ho;rw[e'];refine xx ?_;refine xkp (Za.trans (Za.tail _ _ _) (Za.oent _ _ _ _ _ _)) ?_;refine xx ?_;exact ZO (WC (ZO (ZP (hk _ _ _))))
    ·refine xx ?_;refine ZY fun b2 nb2 zb2=>?_;(try simp only[ZS]at nb2);refine xkp (Za.tail _ _ _) ?_;refine xx ?_;refine V7 ?_;refine xkp (Za.tail _ _ _) ?_;refine xx ?_;refine ZZ (t:=28) (e:=164) (sz:=4) (bytes:=32) qg Zgf rfl rfl rfl rfl qh [_] _ none 0 [] rfl rfl (Src.own (b:=b2) List.mem_cons_self) (m:=1) (news:=[.int .i64 d.au,.int .i64 d.mem,.int .u64 d.amt,.bool false]) rfl (by intro u hu;simp only[List.mem_cons,List.not_mem_nil,or_false]at hu;rcases hu with rfl|rfl|rfl|rfl<;>rfl) qh qh ?_;intro o' j1 j2 j3;have ho:=Z5 j1;obtain⟨a',c',e',_⟩:=ho;rw[e'];refine xx ?_;refine xkp (Za.trans (Za.tail _ _ _) (Za.oent _ _ _ _ _ _)) ?_;refine xx ?_;exact ZO (WC (ZO (ZP (hk _ _ _))))
   ·simp only[decide_eq_false q6,Bool.and_false,Bool.false_eq_true,if_false]at hk;refine xx ?_;exact ZO (ZP (hk none 0 0))
  ·simp only[decide_eq_false q5,Bool.false_and,Bool.false_eq_true,if_false]at hk;refine xx ?_;exact ZO (ZP (hk none 0 0))
def Uo (s:Zg)(d:Zk):Bool:=Zij d&&Y8 s d.au&&(d.new||wi d.mem 0 ((s.ae.length:Int)-1))
def V4 (s:Zg)(d:Zh):Bool:=Y8 s d.au&&wi d.at' 0 2147483647&&decide (1<=d.amt)&&decide (d.amt<=4611686018427387904)
def Zsv (l:List Zh)(k:Nat):Bool:=(List.range k).any fun j=>decide ((gr ZT l k).au=(gr ZT l j).au)&&decide ((gr ZT l k).at'=(gr ZT l j).at')
def Zss (l:List Zh)(k:Nat):Bool:=decide (k=0)||decide ((gr ZT l (k-1)).at'<=(gr ZT l k).at')
def Zed (s:Zg)(k:Nat):Bool:=V4 s (gr ZT s.ai k) && !Zsv s.ai k&&Zss s.ai k
def JX (s:Zg):Bool:=(List.range s.ai.length).all (Zed s)
def VI (s:Zg):Bool:=decide (s.aj.length<=256)&&s.aj.all (Uo s)&&JX s
theorem Zzr:prog.underlying 240=some (.map 167 4):=by kernel_rfl
theorem Ycb:Yyt prog 167 [.i64,.i64,.u64]:=⟨qg,qg,qg⟩
theorem Yfq (W:World):(zeroValue 4:Sem Value).run prog W = .ok (.bool false) W:=by kernel_rfl
def Zvc (d:Zh):List Int:=[d.au,d.at',0]
def esD (l:List Zh)(k:Nat):List (List Int×Value):=(l.take k).map fun d=>(Zvc d,.bool true)
theorem Zpg {l:List Zh}{k:Nat}(hk:k<l.length):esD l (k+1)=esD l k++[(Zvc (gr ZT l k),.bool true)]:=by
 rw[Ye hk,esD,esD,List.take_succ_eq_append_getElem hk,List.map_append];rfl
theorem Znx (l:List Zh)(k:Nat):∀e∈esD l k,e.1.length=3:=fun e he=>by
 obtain⟨d,_,rfl⟩:=List.mem_map.1 he;rfl
theorem Zzx {es:List (List Int×Value)}{n:List Int}(h:∀e∈es,e.1≠n):Zqz es n=none:=by
 induction es with
 | nil=>rfl
 | cons e es ih=>rw[Zqz,if_neg (fun c=>h e qj c.symm)];exact ih fun x hx=>h x wE
theorem Zyt {es:List (List Int×Value)}{n:List Int}{v:Value}(h:∃e∈es,e.1=n)(hv:∀e∈es,e.2=v):Zqz es n=some v:=by
 induction es with
 | nil=>obtain⟨e,he,_⟩:=h;cases he
 | cons e es ih =>
  rw[Zqz];split
  ·rw[hv e qj]
  ·rename_i c;refine ih ?_ fun x hx=>hv x wE;obtain⟨x,hx,hxe⟩:=h;rcases List.mem_cons.1 hx with rfl|hx
   ·exact absurd hxe.symm c
   ·exact⟨x,hx,hxe⟩
theorem keyD_eq {a b:Zh}:Zvc a=Zvc b↔a.au=b.au/\a.at'=b.at':=by simp [Zvc]
theorem Zgz {l:List Zh}{k:Nat}(hk:k<l.length):(Zsv l k=false->Zqz (esD l k) (Zvc (gr ZT l k))=none)/\(Zsv l k=true->Zqz (esD l k) (Zvc (gr ZT l k))=some (.bool true)):=by
 constructor
 ·intro hm;rw[Zsv,List.any_eq_false]at hm;refine Zzx fun e he hc=>?_;obtain⟨d,hd,rfl⟩:=List.mem_map.1 he;obtain⟨j,hj,rfl⟩:=List.mem_iff_getElem.1 hd;simp only[List.length_take]at hj;have:=hm j (List.mem_range.2 qf);rw[List.getElem_take]at hc;have hc':=keyD_eq.1 hc;rw[Ye (l:=l) (i:=j) qf]at this;simp [hc'.1,hc'.2]at this
 ·intro hm;rw[Zsv,List.any_eq_true]at hm;obtain⟨j,hj,hq⟩:=hm;have hj':=List.mem_range.1 hj;simp only[Bool.and_eq_true,decide_eq_true_eq]at hq;refine Zyt ⟨(Zvc (gr ZT l j),.bool true),?_,keyD_eq.2 ⟨hq.1.symm,hq.2.symm⟩⟩ fun e he=>?_
  ·refine List.mem_map.2 ⟨gr ZT l j,?_,rfl⟩;rw[Ye qf];exact List.mem_iff_getElem.2 ⟨j,qF,qj⟩
  ·obtain⟨d,_,rfl⟩:=List.mem_map.1 he;rfl
theorem Ylr {l:List Zh}{k:Nat}(hk:k<l.length):(Zqz (esD l k) (Zvc (gr ZT l k))).getD (.bool false) = .bool (Zsv l k):=by
 cases hm:Zsv l k with
 | false=>rw[(Zgz hk).1 hm];rfl
 | true=>rw[(Zgz hk).2 hm];rfl
theorem VX {s:Zg}{k:Nat}(hk:k<s.ai.length)(hq:Zed s k=false):JX s=false:=by
 rw[JX,List.all_eq_false];exact⟨k,List.mem_range.2 hk,by simp [hq]⟩
theorem Yaa {s:Zg}(v:SV)(hs:Zp h v s)(few:Zy s)(hk:K (.bool (VI s)) L h):Zb prog 62 [stV s v] L h K:=by
 obtain⟨pa,pc,ma,mc,ea,ec,xa,xc,oa,oc,da,dc,ta,tc,ka,kc,ra,rc,rfl⟩:=hs.slices;have ho:Zd UK 4 h (.slice oa s.aj.length oc) s.aj:=hs.o;have hd:Zd Yh 3 h (.slice da s.ai.length dc) s.ai:=hs.d;have fm:=few.m;have fo:=few.o;have fd:=few.d;unfold VI at hk;refine ed func62 ?_;refine xx ?_;refine ZY fun b1 nb1 zb1=>?_;(try simp only[ZS]at nb1);refine xx ?_;by_cases c0:s.aj.length<=256
 ·rw[decide_eq_true c0,Bool.true_and]at hk;refine xx ?_;refine Yi (0:Nat) (fun k=>k<=s.aj.length/\∀j,j<k->Uo s (gr Yg s.aj j)=true) (fun k=>[(20,.int .i64 k),(19,.int .i64 s.aj.length),(18,.slice oa s.aj.length oc),(1,.pointer (some ⟨b1,0,none⟩))]) (fun _=>⟨b1,132,stC s ⟨.slice pa s.ag.length pc,.slice ma s.ae.length mc,.slice ea s.entry.length ec,.slice xa s.exit.length xc,.slice oa s.aj.length oc,.slice da s.ai.length dc,.slice ta s.ah.length tc,.slice ka s.marks.length kc,.slice ra s.ring.length rc⟩,41⟩::L) (fun _=>h) (fun k=>s.aj.length-k) ?_ ?_ ?_ ?_
  ·exact⟨Nat.zero_le _,fun j hj=>qf⟩
  ·simp [Ent,List.lookup,YT]
  ·exact Za.refl _ _
  rintro k ⟨k1,k2⟩;by_cases c1:k<s.aj.length
  ·have hxo:=hs.oo (gr Yg s.aj k) qG;refine xI ?_;refine ZY fun b2 nb2 zb2=>?_;(try simp only[ZS]at nb2);refine xq ?_;refine Ydi (gr Yg s.aj k) hxo fun a' n' c'=>?_
   cases q1:Zij (gr Yg s.aj k) with
   | false =>
    rw[YF Yg _ _ c1 (by simp only[Uo,q1,Bool.false_and])]at hk;refine xx ?_;exact ZO (ZO (ZP qA))
   | true =>
   refine xx ?_;refine VQ _ hs few _ ?_
   cases q2:Y8 s (gr Yg s.aj k).au with
   | false =>
    rw[YF Yg _ _ c1 (by simp only[Uo,q2,Bool.and_false,Bool.false_and])]at hk;refine xx ?_;exact ZO (ZO (ZP qA))
   | true =>
   have next:Uo s (gr Yg s.aj k)=true->∀j,j<k+1->Uo s (gr Yg s.aj j)=true:=fun hq j hj=>by
    by_cases e:j=k
    ·subst e;exact hq
    ·exact k2 j qf
   cases q3:(gr Yg s.aj k).new with
   | true =>
    refine xx ?_;exact⟨k+1,⟨qf,next (by simp only[Uo,q1,q2,q3,Bool.true_and,Bool.true_or])⟩,qf,qi,Za.tail _ _ _⟩
   | false =>
    refine xx ?_;refine Js _ _ _ ?_
    cases q4:wi (gr Yg s.aj k).mem 0 ((s.ae.length:Int)-1) with
    | false =>
     rw[YF Yg _ _ c1 (by simp only[Uo,q3,q4,Bool.or_self,Bool.and_false])]at hk;refine xx ?_;exact ZO (ZO (ZP qA))
    | true =>
     refine xx ?_;exact⟨k+1,⟨qf,next (by simp only[Uo,q1,q2,q3,q4,Bool.true_and,Bool.false_or])⟩,qf,qi,Za.tail _ _ _⟩
  ·have hkl:k=s.aj.length:=qf;subst hkl;rw[Ja Yg _ _ k2,Bool.true_and]at hk;refine xx ?_;refine Zyr fun bm n_bm h_bm=>?_;(try simp only[ZS]at n_bm);refine xx ?_;refine Yi (0:Nat) (fun k=>k<=s.ai.length/\∀j,j<k->Zed s j=true) (fun k=>[(60,.int .i64 k),(59,.int .i64 s.ai.length),(58,.slice da s.ai.length dc),(7,.map (some bm)),(1,.pointer (some ⟨b1,0,none⟩))]) (fun k=>⟨bm,4294967295,Zvb [.i64,.i64,.u64] (esD s.ai k),0⟩::⟨b1,132,stC s ⟨.slice pa s.ag.length pc,.slice ma s.ae.length mc,.slice ea s.entry.length ec,.slice xa s.exit.length xc,.slice oa s.aj.length oc,.slice da s.ai.length dc,.slice ta s.ah.length tc,.slice ka s.marks.length kc,.slice ra s.ring.length rc⟩,41⟩::L) (fun _=>h) (fun k=>s.ai.length-k) ?_ ?_ ?_ ?_
   ·exact⟨Nat.zero_le _,fun j hj=>qf⟩
   ·simp [Ent,List.lookup,YT]
   ·exact Za.refl _ _
   rintro k ⟨k1,k2⟩;by_cases c1:k<s.ai.length
   ·have hxo:=hs.dd (gr ZT s.ai k) qG;have ua:=hxo.a;refine xu ?_;refine ZY fun b9 nb9 zb9=>?_;(try simp only[ZS]at nb9);refine xw ?_;refine ZY fun b10 nb10 zb10=>?_;(try simp only[ZS]at nb10);refine xw ?_;refine WX qg rfl ?_;refine xx ?_;have key:Zed s k=true->∀j,j<k+1->Zed s j=true:=fun hq j hj=>by
     by_cases e:j=k
     ·subst e;exact hq
     ·exact k2 j qf
    refine VK _ (VQ _ hs few _ ⟨rfl,rfl,rfl⟩) ?_
    cases q1:Y8 s (gr ZT s.ai k).au with
    | false =>
     rw[VX c1 (by simp only[Zed,V4,q1,Bool.and_false,Bool.false_and,Bool.not_true])]at hk;refine xx ?_;exact ZO (ZO (ZO (ZO (ZP hk))))
    | true =>
    refine xx ?_;refine VK _ (Js _ _ _ ⟨rfl,rfl,rfl⟩) ?_
    cases q2:wi (gr ZT s.ai k).at' 0 2147483647 with
    | false =>
     rw[VX c1 (by simp only[Zed,V4,q2,Bool.and_false,Bool.false_and,Bool.not_true])]at hk;refine xx ?_;exact ZO (ZO (ZO (ZO (ZP hk))))
    | true =>
    by_cases q3:1<=(gr ZT s.ai k).amt
    ·by_cases q4:(gr ZT s.ai k).amt<=4611686018427387904
     ·refine xx ?_;refine Zyz (n:=Zvc (gr ZT s.ai k)) Zzr Ycb Yfq rfl (esD s.ai k) (Znx _ _) (List.mem_cons_of_mem _ (List.mem_cons_of_mem _ List.mem_cons_self)) ?_;rw[Ylr c1];simp only[Bool.false_eq_true,if_false]
      cases q5:Zsv s.ai k with
      | true =>
       rw[VX c1 (by simp only[Zed,V4,q5,Bool.and_false,Bool.false_and,Bool.not_true])]at hk;refine xx ?_;exact ZO (ZO (ZO (ZO (ZP hk))))
      | false =>
      by_cases c2:k=0
      ·have q6:Zss s.ai k=true:=by simp [Zss,c2]
       have c3:¬(0<(k:Int)):=qf;refine xx ?_;refine Zip (n:=Zvc (gr ZT s.ai k)) Zzr Ycb rfl [_,_] _ (esD s.ai k) (Znx _ _) ((Zgz c1).1 q5) ?_;rw[<- Zpg c1];refine xx ?_;exact⟨k+1,⟨qf,key (by simp only[Zed,V4,q1,q2,q5,q6,decide_eq_true q3,decide_eq_true q4,Bool.and_self,Bool.not_false])⟩,qf,qi,Za.trans (Za.tail _ _ _) (Za.tail _ _ _)⟩
      ·have e1:((k:Int)-1).toNat=k-1:=qf;by_cases c4:(gr ZT s.ai (k-1)).at'<=(gr ZT s.ai k).at'
       ·have q6:Zss s.ai k=true:=by simp [Zss,c4]
        refine xJ ?_;refine(Zd.fld ZT hd (j:=k-1) (o:=1) qf (u:=.int .i64 (gr ZT s.ai (k-1)).at') rfl _ _ _).mpr ?_;refine xx ?_;refine Zip (n:=Zvc (gr ZT s.ai k)) Zzr Ycb rfl [_,_] _ (esD s.ai k) (Znx _ _) ((Zgz c1).1 q5) ?_;rw[<- Zpg c1];refine xx ?_;exact⟨k+1,⟨qf,key (by simp only[Zed,V4,q1,q2,q5,q6,decide_eq_true q3,decide_eq_true q4,Bool.and_self,Bool.not_false])⟩,qf,qi,Za.trans (Za.tail _ _ _) (Za.tail _ _ _)⟩
       ·have q6:Zss s.ai k=false:=by simp [Zss,c2,c4]
        refine xJ ?_;refine(Zd.fld ZT hd (j:=k-1) (o:=1) qf (u:=.int .i64 (gr ZT s.ai (k-1)).at') rfl _ _ _).mpr ?_;rw[VX c1 (by simp only[Zed,V4,q6,Bool.and_false,Bool.false_and,Bool.not_true])]at hk;refine xx ?_;exact ZO (ZO (ZO (ZO (ZP hk))))
     ·have q4':=decide_eq_false q4;rw[VX c1 (by simp only[Zed,V4,q4',Bool.and_false,Bool.false_and,Bool.not_true])]at hk;refine xx ?_;exact ZO (ZO (ZO (ZO (ZP hk))))
    ·have q3':=decide_eq_false q3;rw[VX c1 (by simp only[Zed,V4,q3',Bool.and_false,Bool.false_and,Bool.not_true])]at hk;refine xx ?_;exact ZO (ZO (ZO (ZO (ZP hk))))
   ·have hkl:k=s.ai.length:=qf;subst hkl;have hq:JX s=true:=by
     rw[JX,List.all_eq_true];exact fun j hj=>k2 j (List.mem_range.1 hj)
    rw[hq]at hk;refine xx ?_;exact ZO (ZO (ZP hk))
 ·rw[decide_eq_false c0]at hk;refine xx ?_;exact ZO (ZP qA)
def YY (s:Zg):Bool:=Yo s.par&&wi s.ep 0 1073741824&&wi s.calm 0 1073741824&&VG s&&WU s&&VI s&&Ve s&&J1 s&&Wn s
theorem GH {s:Zg}(v:SV)(hs:Zp h v s)(few:Zy s)(hk:K (.bool (YY s)) L h):Zb prog 16 [stV s v] L h K:=by
 obtain⟨pa,pc,ma,mc,ea,ec,xa,xc,oa,oc,da,dc,ta,tc,ka,kc,ra,rc,rfl⟩:=hs.slices;refine ed func16 ?_;refine xx ?_;refine ZY fun b1 nb1 zb1=>?_;(try simp only[ZS]at nb1);refine xx ?_;refine ZY fun b2 nb2 zb2=>?_;(try simp only[ZS]at nb2);refine xx ?_;refine Vg s.par hs.ok.p ?_
 cases q1:Yo s.par with
 | false =>
  simp only[YY,q1,Bool.false_and]at hk;refine xx ?_;exact ZO (ZO (ZP hk))
 | true =>
 refine xx ?_;refine Js _ _ _ ?_
 cases q2:wi s.ep 0 1073741824 with
 | false =>
  simp only[YY,q2,Bool.and_false,Bool.false_and]at hk;refine xx ?_;exact ZO (ZO (ZP hk))
 | true =>
 refine xx ?_;refine Js _ _ _ ?_
 cases q3:wi s.calm 0 1073741824 with
 | false =>
  simp only[YY,q3,Bool.and_false,Bool.false_and]at hk;refine xx ?_;exact ZO (ZO (ZP hk))
 | true =>
 refine xx ?_;refine Zsw (s:=s) ⟨.slice pa s.ag.length pc,.slice ma s.ae.length mc,.slice ea s.entry.length ec,.slice xa s.exit.length xc,.slice oa s.aj.length oc,.slice da s.ai.length dc,.slice ta s.ah.length tc,.slice ka s.marks.length kc,.slice ra s.ring.length rc⟩ hs few ?_
 cases q4:VG s with
 | false =>
  simp only[YY,q4,Bool.and_false,Bool.false_and]at hk;refine xx ?_;exact ZO (ZO (ZP hk))
 | true =>
 refine xx ?_;refine Znl (s:=s) ⟨.slice pa s.ag.length pc,.slice ma s.ae.length mc,.slice ea s.entry.length ec,.slice xa s.exit.length xc,.slice oa s.aj.length oc,.slice da s.ai.length dc,.slice ta s.ah.length tc,.slice ka s.marks.length kc,.slice ra s.ring.length rc⟩ hs few q1 ?_
 cases q5:WU s with
 | false =>
  simp only[YY,q5,Bool.and_false,Bool.false_and]at hk;refine xx ?_;exact ZO (ZO (ZP hk))
 | true =>
 refine xx ?_;refine Yaa (s:=s) ⟨.slice pa s.ag.length pc,.slice ma s.ae.length mc,.slice ea s.entry.length ec,.slice xa s.exit.length xc,.slice oa s.aj.length oc,.slice da s.ai.length dc,.slice ta s.ah.length tc,.slice ka s.marks.length kc,.slice ra s.ring.length rc⟩ hs few ?_
 cases q6:VI s with
 | false =>
  simp only[YY,q6,Bool.and_false,Bool.false_and]at hk;refine xx ?_;exact ZO (ZO (ZP hk))
 | true =>
 refine xx ?_;refine Znc (s:=s) ⟨.slice pa s.ag.length pc,.slice ma s.ae.length mc,.slice ea s.entry.length ec,.slice xa s.exit.length xc,.slice oa s.aj.length oc,.slice da s.ai.length dc,.slice ta s.ah.length tc,.slice ka s.marks.length kc,.slice ra s.ring.length rc⟩ hs few ?_
 cases q7:Ve s with
 | false =>
  simp only[YY,q7,Bool.and_false,Bool.false_and]at hk;refine xx ?_;exact ZO (ZO (ZP hk))
 | true =>
 refine xx ?_;refine Zwz (s:=s) ⟨.slice pa s.ag.length pc,.slice ma s.ae.length mc,.slice ea s.entry.length ec,.slice xa s.exit.length xc,.slice oa s.aj.length oc,.slice da s.ai.length dc,.slice ta s.ah.length tc,.slice ka s.marks.length kc,.slice ra s.ring.length rc⟩ hs few ?_
 cases q8:J1 s with
 | false =>
  simp only[YY,q8,Bool.and_false,Bool.false_and]at hk;refine xx ?_;exact ZO (ZO (ZP hk))
 | true =>
 simp only[YY,q1,q2,q3,q4,q5,q6,q7,q8,Bool.and_self,Bool.true_and]at hk;refine xx ?_;refine Zwy (s:=s) ⟨.slice pa s.ag.length pc,.slice ma s.ae.length mc,.slice ea s.entry.length ec,.slice xa s.exit.length xc,.slice oa s.aj.length oc,.slice da s.ai.length dc,.slice ta s.ah.length tc,.slice ka s.marks.length kc,.slice ra s.ring.length rc⟩ hs few ?_;refine xx ?_;exact ZO (ZO (ZP hk))
theorem JF (m:Zc)(hk:K (.bool (decide (m.status=2\/m.status=3))) L h):Zb prog 28 [Zeu m] L h K:=by
 refine ed func28 ?_;refine xx ?_;refine ZY fun b1 nb1 zb1=>?_;(try simp only[ZS]at nb1);refine xx ?_;by_cases c:m.status=2
 ·refine xx ?_;exact ZO (ZP qC)
 ·refine xx ?_;exact ZO (ZP qC)
def Zlz (s:Zg):Bool:=decide (s.ag.length<=100)&&decide (s.ae.length<=200)&&decide (s.entry.length<=300)&&decide (s.exit.length<=300)&&decide (s.aj.length<=300)&&decide (s.ai.length<=200)&&decide (s.ah.length<=40)&&decide (s.ring.length<=20)&&decide (s.marks.length<=50)
def Zec (s:Zg):Bool:=Zlz s&&s.ring.all (fun b=>decide (b.length<=50))&&s.ah.all (fun m=>decide (m.yes.length<=50)&&decide (m.no.length<=50))
theorem Zpd {s:Zg}(hf:Zlz s=true):s.ag.length<=100/\s.ae.length<=200/\s.entry.length<=300/\s.exit.length<=300/\s.aj.length<=300/\s.ai.length<=200/\s.ah.length<=40/\s.ring.length<=20/\s.marks.length<=50:=by
 simp only[Zlz,Bool.and_eq_true,decide_eq_true_eq]at hf;omega
theorem Yhi {s:Zg}(hf:Zec s=true):Zlz s=true:=by
 simp only[Zec,Bool.and_eq_true]at hf;exact hf.1.1
theorem Zzu {s:Zg}(v:SV)(hs:Zp h v s)(hk:K (.bool (Zec s)) L h):Zb prog 10 [stV s v] L h K:=by
 obtain⟨pa,pc,ma,mc,ea,ec,xa,xc,oa,oc,da,dc,ta,tc,ka,kc,ra,rc,rfl⟩:=hs.slices;have no:Zec s=false->K (.bool false) L h:=fun e=>by rwa [e]at hk
 refine ed func10 ?_;refine xx ?_;refine ZY fun b1 nb1 zb1=>?_;(try simp only[ZS]at nb1);refine xx ?_;by_cases c1:100<s.ag.length
 ·have:=no (by simp only[Zec,Zlz,decide_eq_false (p:=s.ag.length<=100) qf,Bool.false_and,Bool.and_false]);refine xx ?_;exact ZO (ZP this)
 by_cases c2:200<s.ae.length
 ·have:=no (by simp only[Zec,Zlz,decide_eq_false (p:=s.ae.length<=200) qf,Bool.false_and,Bool.and_false]);refine xx ?_;exact ZO (ZP this)
 by_cases c3:300<s.entry.length
 ·have:=no (by simp only[Zec,Zlz,decide_eq_false (p:=s.entry.length<=300) qf,Bool.false_and,Bool.and_false]);refine xx ?_;exact ZO (ZP this)
 by_cases c4:300<s.exit.length
 ·have:=no (by simp only[Zec,Zlz,decide_eq_false (p:=s.exit.length<=300) qf,Bool.false_and,Bool.and_false]);refine xx ?_;exact ZO (ZP this)
 by_cases c5:300<s.aj.length
 ·have:=no (by simp only[Zec,Zlz,decide_eq_false (p:=s.aj.length<=300) qf,Bool.false_and,Bool.and_false]);refine xx ?_;exact ZO (ZP this)
 by_cases c6:200<s.ai.length
 ·have:=no (by simp only[Zec,Zlz,decide_eq_false (p:=s.ai.length<=200) qf,Bool.false_and,Bool.and_false]);refine xx ?_;exact ZO (ZP this)
 by_cases c7:40<s.ah.length
 ·have:=no (by simp only[Zec,Zlz,decide_eq_false (p:=s.ah.length<=40) qf,Bool.false_and,Bool.and_false]);refine xx ?_;exact ZO (ZP this)
 by_cases c8:20<s.ring.length
 ·have:=no (by simp only[Zec,Zlz,decide_eq_false (p:=s.ring.length<=20) qf,Bool.false_and,Bool.and_false]);refine xx ?_;exact ZO (ZP this)
 by_cases c9:50<s.marks.length
 ·have:=no (by simp only[Zec,Zlz,decide_eq_false (p:=s.marks.length<=50) qf,Bool.false_and,Bool.and_false]);refine xx ?_;exact ZO (ZP this)
 have f9:Zlz s=true:=by
  simp only[Zlz,Bool.and_eq_true,decide_eq_true_eq];omega
 obtain⟨qr,hdr,tr⟩:=hs.r;have hqr:qr.length=s.ring.length:=by rw[<- tr,Wu]
 simp only at hdr;obtain⟨_,_,hre,_,_,_,hcr,hdd⟩:=hdr.open;injection hre with hre1 hre2 hre3
 subst hre1;subst hre3;have hcr':∀j,j<s.ring.length->Z9 h ra j=some ((fun j=>(gs qr j).1) j):=fun j hj=>hcr j qf;have hgs:∀j,j<qr.length->gr [] s.ring j=(gs qr j).2:=fun j hj=>by
  rw[<- tr,Ye (by rw[Wu];exact hj),G4 hj];simp [xsL]
 refine xx ?_;refine Yi (0:Nat) (fun k=>k<=s.ring.length/\∀j,j<k->(fun b:List Int=>decide (b.length<=50)) (gr [] s.ring j)=true) (fun k=>[(62,.int .i64 k),(61,.int .i64 s.ring.length),(60,.slice ra s.ring.length rc),(1,.pointer (some ⟨b1,0,none⟩))]) (fun _=>⟨b1,34,stC s ⟨.slice pa s.ag.length pc,.slice ma s.ae.length mc,.slice ea s.entry.length ec,.slice xa s.exit.length xc,.slice oa s.aj.length oc,.slice da s.ai.length dc,.slice ta s.ah.length tc,.slice ka s.marks.length kc,.slice ra s.ring.length rc⟩,41⟩::L) (fun _=>h) (fun k=>s.ring.length-k) ?_ ?_ ?_ ?_
 ·exact⟨Nat.zero_le _,fun j hj=>qf⟩
 ·simp [Ent,List.lookup,YT]
 ·exact Za.refl _ _
 rintro k ⟨k1,k2⟩;by_cases d1:k<s.ring.length
 ·have hi:=hdd.at (i:=k) qf;obtain⟨x1,y1,hv1,_⟩:=hi.open;have hg:=hgs k qf;refine xK ?_;by_cases d2:50<(gs qr k).2.length
  ·have:=no (by simp only[Zec,YF [] (fun b:List Int=>decide (b.length<=50)) s.ring d1 (by rw[hg];exact decide_eq_false qf),Bool.false_and,Bool.and_false]);refine xx ?_;exact ZO (ZP this)
  ·refine xx ?_;refine⟨k+1,⟨qf,fun j hj=>?_⟩,qf,qi,Za.refl _ _⟩;by_cases e:j=k
   ·subst e;rw[hg];first|omega|exact decide_eq_true qf
   ·first|exact k2 j qf|simpa using k2 j qf
 have hkl:k=s.ring.length:=qf;subst hkl;have rall:=Ja [] (fun b:List Int=>decide (b.length<=50)) s.ring k2;clear k2 d1 k1;obtain⟨q,hd,t2,t3⟩:=hs.t;have hql:q.length=s.ah.length:=zF;have hgr:∀k,k<q.length->gr Yb s.ah k=(gr Z0 q k).2.2:=fun k hk=>by
  rw[Ye hk,Ye qf];simp only[<- t2,List.getElem_map]
 simp only at hd;refine xx ?_;refine Yi (0:Nat) (fun k=>k<=s.ah.length/\∀j,j<k->(fun m:Zl=>decide (m.yes.length<=50)&&decide (m.no.length<=50)) (gr Yb s.ah j)=true) (fun k=>[(73,.int .i64 k),(72,.int .i64 s.ah.length),(71,.slice ta s.ah.length tc),(1,.pointer (some ⟨b1,0,none⟩))]) (fun _=>⟨b1,34,stC s ⟨.slice pa s.ag.length pc,.slice ma s.ae.length mc,.slice ea s.entry.length ec,.slice xa s.exit.length xc,.slice oa s.aj.length oc,.slice da s.ai.length dc,.slice ta s.ah.length tc,.slice ka s.marks.length kc,.slice ra s.ring.length rc⟩,41⟩::L) (fun _=>h) (fun k=>s.ah.length-k) ?_ ?_ ?_ ?_
 ·exact⟨Nat.zero_le _,fun j hj=>qf⟩
 ·simp [Ent,List.lookup,YT]
 ·exact Za.refl _ _
 rintro k ⟨k1,k2⟩;by_cases d1:k<s.ah.length
 ·have hx:Zr h (gr Z0 q k):=by rw[Ye qf];exact t3 _ (List.getElem_mem qf)
  have hg:=hgr k qf;obtain⟨x1,y1,hv1,_⟩:=hx.y.open;obtain⟨x2,y2,hv2,_⟩:=hx.n.open;refine xy ?_;refine ZY fun b2 nb2 zb2=>?_;(try simp only[ZS]at nb2);refine xA ?_;by_cases d2:50<(gr Z0 q k).2.2.yes.length
  ·have:=no (by simp only[Zec,YF Yb (fun m:Zl=>decide (m.yes.length<=50)&&decide (m.no.length<=50)) s.ah d1 (by rw[hg];simp;omega),Bool.and_false]);refine xx ?_;exact ZO (ZO (ZP this))
  by_cases d3:50<(gr Z0 q k).2.2.no.length
  ·have:=no (by simp only[Zec,YF Yb (fun m:Zl=>decide (m.yes.length<=50)&&decide (m.no.length<=50)) s.ah d1 (by rw[hg];simp;omega),Bool.and_false]);refine xx ?_;exact ZO (ZO (ZP this))
  refine xx ?_;refine⟨k+1,⟨qf,fun j hj=>?_⟩,qf,qi,Za.tail _ _ _⟩;by_cases e:j=k
  ·subst e;rw[hg];first|omega|(simp;omega)
  ·first|exact k2 j qf|simpa using k2 j qf
 ·have hkl:k=s.ah.length:=qf;subst hkl;have tall:=Ja Yb (fun m:Zl=>decide (m.yes.length<=50)&&decide (m.no.length<=50)) s.ah k2;have yes:Zec s=true:=by simp only[Zec,f9,rall,tall,Bool.and_self]
  rw[yes]at hk;refine xx ?_;exact ZO (ZP hk)
theorem G9 {h:PH}{v:Value}{n:Nat}(sl:Sl h v n 1 (List.replicate n (.int .u8 0))):Ints h .u8 v (List.replicate n 0) :=
 ⟨by simpa [List.map_replicate] using sl,fun z hz=>by rw[List.eq_of_mem_replicate hz];decide⟩
open Go.RowKit
section
variable {P:Program} {L:Own} {h:PH} {E:Env} {K:PK} {l:Nat} {rec:LoopState->Option Code->Obj}
@[go_sem ↓] theorem Yex:Zvv l rec K .normal E L h=Yni K true l (rec .ready none) L h:=rfl
@[go_sem ↓] theorem Yny (p:Tmp)(ps:List Tmp)(v:Value)(vs:List Value):Zeh (p::ps) (v::vs) E=Zeh ps vs ((p,v)::E):=rfl
@[go_sem ↓] theorem Ypo (vs:List Value):Zeh [] vs E=E:=by cases vs<;>rfl
theorem Zyc {v:Bool}{o:Obj}{L':Own}{h':PH}(hd:Za L h L' h')(hk:K (.bool v) (Zmi l o::L') h'):Yni K v l o L h:=⟨L',h',hd,hk⟩
end
theorem Yqo {P:Program}(hm:P.follows .mixedOrders=true){l D fn:Nat}{tmps:Array Value}{ps:List Tmp}{assign body:Code}{E:Env}{args:List Value}{L:Own}{h:PH}{K:PK}
  (he:∀i v,E.lookup i=some v->tmps.getD i undef=v) (hp:(ps.toArray.all fun p=>decide (p<tmps.size))=true) (ha:wfC tmps.size assign=true) (hb:wfC tmps.size body=true)
  (na:UH assign=true) (nb:UH body=true) (hl:ps.length=args.length)
  (hx:xC P assign (thn (xC P body (Zvv l (Zbh fn tmps ps.toArray assign body D) K)) fun _ _ _ _=>False) (Zeh ps args E) L h) :
  YSpec P l args (Zmi l (Zbh fn tmps ps.toArray assign body D .ready none)::L) h K:=by
 refine Zlx hm he hp ha hb na nb (by simpa using hl) ?_;have key:∀Q1 Q2:G5,Q1=Q2->xC P assign Q2 (Zeh ps args E) L h->xC P assign Q1 (Zeh ps args E) L h:=fun _ _ e hx=>e ▸ hx;refine key _ _ ?_ hx
 funext e E1 L1 h1
 cases e<;>rfl
theorem YSpec.apn {P:Program}{l:Nat}{args:List Value}{L:Own}{h:PH}{K:PK}(hs:YSpec P l args L h fun v L' h'=>Ap L' h'->Nd L'->K v L' h'):YSpec P l args L h K :=
 ⟨trivial,fun W hg=>by
  obtain⟨fn,tmps,assign,body,hy,hR⟩:=hs.2 W hg
  exact⟨fn,tmps,assign,body,hy,hR.mono fun _ _ ⟨r,L',h',e,k,st⟩=>⟨r,L',h',e,k (Ap.of st.1.apart) (Nd.of st.1.nodup),st⟩⟩⟩
theorem Ap.app {h:PH}:∀ {A B:Own},Ap (A++B) h->Ap A h/\Ap B h
 | [],_,hb=>⟨trivial,hb⟩
 | _::_,_,ha=>⟨⟨ha.1,(Ap.app ha.2).1⟩,(Ap.app ha.2).2⟩
theorem Zlf {A B:Own}:(B++A).Perm (A++B):=List.perm_append_comm
@[go_sem ↓] theorem Ynz {Q:G5}{E:Env}{L:Own}{h:PH}:Yka Q E L h none=Q .normal E L h:=rfl
theorem Ytb {P:Program}{gf:Nat}{lb:Array Value}{ps:Array Tmp}{assign body:Code}{Q:G5}{E:Env}{L:Own}{h:PH}(hc:UN P gf)
  (hs:∀(l D fn:Nat) (tmps:Array Value),(∀i v,E.lookup i=some v->tmps.getD i undef=v)->(ps.all fun p=>decide (p<tmps.size))=true->wfC tmps.size assign=true->wfC tmps.size body=true->ZS l L->h l=noC ->
   Zb P gf (.func (.yield l) #[] #[]::lb.toList) (Zmi l (Zbh fn tmps ps assign body D .ready none)::L) h fun _ L' h' =>
    ∃st jump L1,L'=Zmi l (Zbh fn tmps ps assign body D st jump)::L1/\st ≠ .busy/\Yka Q E L1 h' jump):Zxm P (.func (.func gf) #[] lb) ps assign body Q E L h :=
 ⟨gf,lb,rfl,hc,hs⟩
theorem Zpb {e sz:Nat}(o:Option (Nat×Nat))(xs:List Value)(A B:Own):oent e sz o xs A++B=oent e sz o xs (A++B):=by
 cases o<;>rfl
theorem Zfj {b:Nat}:∀ {A B:Own},ZS b (A++B)->ZS b A
 | [],_,_=>trivial
 | _::_,_,h=>⟨h.1,Zfj h.2⟩
theorem Yfj {o:Option (Nat×Nat)}{A B:Own}{h:PH}(ha:apO o (A++B) h):apO o A h:=by
 cases o with
 | none=>trivial
 | some p=>exact⟨Zfj ha.1,ha.2⟩
theorem Yx {b e sz:Nat}{o:Option (Nat×Nat)}{xs:List Value}{L:Own}(ha:ZS b (oent e sz o xs L)):ZS b L:=by
 cases o with
 | none=>exact ha
 | some p=>exact ha.2
theorem Vt {h:PH}{o:Option (Nat×Nat)}{xs:List Value}{b:Nat}(hb:apB o b)(hh:h b=noC):Jh h o xs b=noC:=by
 cases o with
 | none=>exact hh
 | some p =>
  have:p.1≠b:=hb
  funext i
  simp only[Jh,pub,if_neg (Ne.symm this),hh]
end Go.X

/- Lemmas and contracts. Conditions: as each says. -/
import Derived.Test.YtllhopbilpdpkaaGreatQ24
import Derived.Test.YtllhopbilpdpkaaGreatQ27
set_option linter.unusedVariables false
set_option linter.unusedSimpArgs false
set_option maxHeartbeats 12800000
set_option maxRecDepth 20000
namespace Go.X
open Go.RowKit Go.Proofs Go.Bl Go.Proofs.Tryz
variable {L:Own} {h:PH} {K:PK}
theorem Zkv {s:Ze}(v:SV)(hs:Zo h v s)(few:Zv s)(hk:K (.bool (VJ s)) L h):Zb prog 124 [stV s v] L h K:=by
 obtain⟨pa,pc,ma,mc,ea,ec,xa,xc,oa,oc,da,dc,ta,tc,ka,kc,ra,rc,rfl⟩:=hs.slices;have ho:Zh Ua 4 h (.slice oa s.pool.length oc) s.pool:=hs.o;have hd:Zh YB 3 h (.slice da s.dues.length dc) s.dues:=hs.d;have fm:=few.m;have fo:=few.o;have fd:=few.d;have fp:=few.p;have bad1:∀k,k<s.pool.length→V4 s (gr Z4 s.pool k)=false→VJ s=false:=fun k hk hq=>by
  simp only[VJ,YC Z4 _ _ hk hq,Bool.and_false,Bool.false_and]
 have bad2:Jw s=false→VJ s=false:=fun hq=>by simp only[VJ,hq,Bool.and_false]
 refine ZS func124 rfl (rs:=[_]) rfl rfl ZX (by kernel_rfl) rfl rfl ?_;refine xx ?_;refine Z0 fun b1 nb1 zb1=>?_;(try simp only[ZT]at nb1);refine xx ?_;refine Yu (0:Nat) (fun k=>k≤s.pool.length∧∀j,j<k→V4 s (gr Z4 s.pool j)=true) (fun k=>[(3,.int .i64 k),(1,.pointer (some ⟨b1,0,none⟩))]) (fun _=>⟨b1,45,stC s ⟨.slice pa s.purses.length pc,.slice ma s.members.length mc,.slice ea s.entry.length ec,.slice xa s.exit.length xc,.slice oa s.pool.length oc,.slice da s.dues.length dc,.slice ta s.motions.length tc,.slice ka s.marks.length kc,.slice ra s.ring.length rc⟩,41⟩::L) (fun _=>h) (fun k=>s.pool.length-k) ?_ ?_ ?_ ?_
 ·exact⟨Nat.zero_le _,fun j hj=>by omega⟩
 ·simp [Ent,List.lookup,Y3]
 ·exact Za.refl _ _
 rintro k ⟨k1,k2⟩;by_cases c1:k<s.pool.length
 ·have hxo:=hs.oo (gr Z4 s.pool k) (by rw[Z9 c1];exact List.getElem_mem c1);simp -dsimp -implicitDefEqProofs (disch:=first|with_reducible assumption|omega) [go_sem,↓WQ Z4 (by decide) ho,Ua];refine Z0 fun b2 nb2 zb2=>?_;(try simp only[ZT]at nb2);simp -dsimp -implicitDefEqProofs (disch:=first|with_reducible assumption|omega) [go_sem,Ua];refine Yag (gr Z4 s.pool k) hxo fun a' n' c'=>?_
  cases q1:Zbk (gr Z4 s.pool k) with
  | false =>
   rw[bad1 k c1 (by simp only[V4,q1,Bool.false_and])]at hk;refine xx ?_;exact ZO (ZO (ZP hk))
  | true =>
  refine xx ?_;refine VZ _ _ _ ?_
  cases q2:wi (gr Z4 s.pool k).acct 0 ((s.purses.length:Int)-1) with
  | false =>
   rw[bad1 k c1 (by simp only[V4,Y1,q2,Bool.and_false,Bool.false_and])]at hk;refine xx ?_;exact ZO (ZO (ZP hk))
  | true =>
  have next:V4 s (gr Z4 s.pool k)=true→∀j,j<k+1→V4 s (gr Z4 s.pool j)=true:=fun hq j hj=>by
   by_cases e:j=k
   ·subst e;exact hq
   ·exact k2 j (by omega)
  cases q3:(gr Z4 s.pool k).new with
  | true =>
   refine xx ?_;exact⟨k+1,⟨by omega,next (by simp only[V4,Y1,q1,q2,q3,Bool.true_and,Bool.true_or])⟩,by omega,by simp [Ent,List.lookup],Za.tail _ _ _⟩
  | false =>
   refine xx ?_;refine VZ _ _ _ ?_
   cases q4:wi (gr Z4 s.pool k).mem 0 ((s.members.length:Int)-1) with
   | false =>
    rw[bad1 k c1 (by simp only[V4,q3,q4,Bool.or_self,Bool.and_false])]at hk;refine xx ?_;exact ZO (ZO (ZP hk))
   | true =>
    refine xx ?_;exact⟨k+1,⟨by omega,next (by simp only[V4,Y1,q1,q2,q3,q4,Bool.true_and,Bool.false_or])⟩,by omega,by simp [Ent,List.lookup],Za.tail _ _ _⟩
 ·have hkl:k=s.pool.length:=by omega
  subst hkl;have pall:s.pool.all (V4 s)=true:=UK Z4 _ _ k2;refine xx ?_;refine Yu (0:Nat) (fun k=>k≤s.dues.length∧∀j,j<k→VR s (gr ZV s.dues j)=true∧∀i,i<j→JX s.dues j i=true) (fun k=>[(7,.int .i64 k),(1,.pointer (some ⟨b1,0,none⟩))]) (fun _=>⟨b1,45,stC s ⟨.slice pa s.purses.length pc,.slice ma s.members.length mc,.slice ea s.entry.length ec,.slice xa s.exit.length xc,.slice oa s.pool.length oc,.slice da s.dues.length dc,.slice ta s.motions.length tc,.slice ka s.marks.length kc,.slice ra s.ring.length rc⟩,41⟩::L) (fun _=>h) (fun k=>s.dues.length-k) ?_ ?_ ?_ ?_
  ·exact⟨Nat.zero_le _,fun j hj=>by omega⟩
  ·simp [Ent,List.lookup,Y3]
  ·exact Za.refl _ _
  rintro k ⟨m1,m2⟩;by_cases c1:k<s.dues.length
  ·have hxo:=hs.dd (gr ZV s.dues k) (by rw[Z9 c1];exact List.getElem_mem c1);have ua:=hxo.a;simp -dsimp -implicitDefEqProofs (disch:=first|with_reducible assumption|omega) [go_sem,↓WQ ZV (by decide) hd,YB];refine Z0 fun b2 nb2 zb2=>?_;(try simp only[ZT]at nb2);simp -dsimp -implicitDefEqProofs (disch:=first|with_reducible assumption|omega) [go_sem,YB];refine VZ _ _ _ ?_
   cases q1:wi (gr ZV s.dues k).acct 0 ((s.purses.length:Int)-1) with
   | false =>
    rw[bad2 (Zgf c1 (by simp only[VR,Y1,q1,Bool.false_and]))]at hk;refine xx ?_;exact ZO (ZO (ZP hk))
   | true =>
   refine xx ?_;refine VZ _ _ _ ?_
   cases q2:wi (gr ZV s.dues k).at' 0 2147483647 with
   | false =>
    rw[bad2 (Zgf c1 (by simp only[VR,q2,Bool.and_false,Bool.false_and]))]at hk;refine xx ?_;exact ZO (ZO (ZP hk))
   | true =>
   by_cases q3:(gr ZV s.dues k).amt=0
   ·rw[bad2 (Zgf c1 (by simp [VR,q3]))]at hk;refine xx ?_;exact ZO (ZO (ZP hk))
   by_cases q4:4611686018427387904<(gr ZV s.dues k).amt
   ·rw[bad2 (Zgf c1 (by rw[VR,decide_eq_false (p:=_≤(4611686018427387904:Int)) (by omega),Bool.and_false]))]at hk;refine xx ?_;exact ZO (ZO (ZP hk))
   have d1:VR s (gr ZV s.dues k)=true:=by
    simp only[VR,Y1,q1,q2,Bool.true_and,Bool.and_eq_true,decide_eq_true_eq];omega
   refine xx ?_;refine Yu (0:Nat) (fun i=>i≤k∧∀j,j<i→JX s.dues k j=true) (fun i=>[(9,.int .i64 i),(7,.int .i64 k),(8,.pointer (some ⟨b2,0,none⟩)),(1,.pointer (some ⟨b1,0,none⟩))]) (fun _=>⟨b2,216,[.int .i64 (gr ZV s.dues k).acct,.int .i64 (gr ZV s.dues k).at',.int .u64 (gr ZV s.dues k).amt],3⟩::⟨b1,45,stC s ⟨.slice pa s.purses.length pc,.slice ma s.members.length mc,.slice ea s.entry.length ec,.slice xa s.exit.length xc,.slice oa s.pool.length oc,.slice da s.dues.length dc,.slice ta s.motions.length tc,.slice ka s.marks.length kc,.slice ra s.ring.length rc⟩,41⟩::L) (fun _=>h) (fun i=>k-i) ?_ ?_ ?_ ?_
   ·exact⟨Nat.zero_le _,fun j hj=>by omega⟩
   ·simp [Ent,List.lookup,Y3]
   ·exact Za.refl _ _
   rintro i ⟨i1,i2⟩;by_cases c2:i<k
   ·refine xx ?_;refine Uh (by kernel_rfl) rfl ?_;simp -dsimp -implicitDefEqProofs (disch:=first|with_reducible assumption|omega) [go_sem,↓WQ ZV (by decide) hd];refine(Zh.fld ZV hd (j:=i) (o:=1) (by omega) (u:=.int .i64 (gr ZV s.dues i).at') rfl _ _ _).mpr ?_;by_cases c3:(gr ZV s.dues k).at'<(gr ZV s.dues i).at'
    ·have:JX s.dues k i=false:=by
      rw[JX,decide_eq_false (by omega),Bool.false_and]
     rw[bad2 (Zqa c1 c2 this)]at hk;refine xx ?_;exact ZO (ZO (ZP hk))
    ·simp -dsimp -implicitDefEqProofs (disch:=first|with_reducible assumption|omega) [go_sem,↓WQ ZV (by decide) hd];refine(Zh.fld ZV hd (j:=i) (o:=1) (by omega) (u:=.int .i64 (gr ZV s.dues i).at') rfl _ _ _).mpr ?_;have step:JX s.dues k i=true→∀j,j<i+1→JX s.dues k j=true:=fun hq j hj=>by
      by_cases e:j=i
      ·subst e;exact hq
      ·exact i2 j (by omega)
     by_cases c4:(gr ZV s.dues i).at'=(gr ZV s.dues k).at'
     ·simp -dsimp -implicitDefEqProofs (disch:=first|with_reducible assumption|omega) [go_sem,↓WQ ZV (by decide) hd];refine(Zh.fld ZV hd (j:=i) (o:=0) (by omega) (u:=.int .i64 (gr ZV s.dues i).acct) rfl _ _ _).mpr ?_;by_cases c5:(gr ZV s.dues i).acct=(gr ZV s.dues k).acct
      ·have:JX s.dues k i=false:=by
        rw[JX,decide_eq_true c4,decide_eq_true c5,Bool.and_self,Bool.not_true,Bool.and_false]
       rw[bad2 (Zqa c1 c2 this)]at hk;refine xx ?_;exact ZO (ZO (ZP hk))
      ·refine xx ?_;refine⟨i+1,⟨by omega,step ?_⟩,by omega,by simp [Ent,List.lookup],Za.refl _ _⟩;rw[JX,decide_eq_true (by omega),decide_eq_false c5,Bool.and_false,Bool.not_false,Bool.and_self]
     ·refine xx ?_;refine⟨i+1,⟨by omega,step ?_⟩,by omega,by simp [Ent,List.lookup],Za.refl _ _⟩;rw[JX,decide_eq_true (by omega),decide_eq_false c4,Bool.false_and,Bool.not_false,Bool.and_self]
   ·refine xx ?_;refine⟨k+1,⟨by omega,fun j hj=>?_⟩,by omega,by simp [Ent,List.lookup],Za.tail _ _ _⟩;by_cases e:j=k
    ·subst e;exact⟨d1,fun x hx=>i2 x (by omega)⟩
    ·exact m2 j (by omega)
  ·have hkl:k=s.dues.length:=by omega
   subst hkl;have hq:Jw s=true:=dues_pairs.2 m2;rw[VJ,pall,hq,Bool.and_true,Bool.and_true]at hk;refine xx ?_;have e:decide ((s.pool.length:Int)≤256)=decide (s.pool.length≤256):=by apply decide_eq_decide.2;omega
   exact ZO (ZP (by first|exact hk|(rw[e];exact hk)))
theorem Gn {s:Ze}(v:SV)(hs0:Zo h v s)(few:Zv s)(fw:ZN s)(hk:∀h',PH.le h h'→K (.bool (Yb s)) L h'):Zb prog 32 [stV s v] L h K:=by
 obtain⟨pa,pc,ma,mc,ea,ec,xa,xc,oa,oc,da,dc,ta,tc,ka,kc,ra,rc,rfl⟩:=hs0.slices;have fm:=few.m;have fo:=few.o;have fd:=few.d;have fp:=few.p;have ft:=few.t;have fr:=few.r;refine ZS func32 rfl (rs:=[_]) rfl rfl ZX (by kernel_rfl) rfl rfl ?_;refine xx ?_;refine Z0 fun b1 nb1 zb1=>?_;(try simp only[ZT]at nb1);refine xx ?_;refine Zb.ap (Zef s.par hs0.ok.p fun h1 le1 ap=>?_);simp only[Ap]at ap;obtain⟨a1,_⟩:=ap
 cases q1:Yd s.par with
 | false =>
  have:=hk h1 le1;simp only[Yb,q1,Bool.false_and]at this;refine xx ?_;exact ZO (ZP this)
 | true =>
 refine xx ?_;refine Zb.ap (Zuu (s:=s) ⟨.slice pa s.purses.length pc,.slice ma s.members.length mc,.slice ea s.entry.length ec,.slice xa s.exit.length xc,.slice oa s.pool.length oc,.slice da s.dues.length dc,.slice ta s.motions.length tc,.slice ka s.marks.length kc,.slice ra s.ring.length rc⟩ (hs0.up le1) few fun h2 r1 r2 r3 r4 le2 mon ap=>?_);simp only[Ap]at ap;obtain⟨a2,_⟩:=ap;refine xx ?_;refine Zb.ap (Zmf (s:=s) r1 r2 r3 r4 mon fw fun h3 le3 ap=>?_);simp only[Ap]at ap;obtain⟨a3,_⟩:=ap;have le03:=le1.trans (le2.trans le3);have hs:=hs0.up le03;have no:∀b:Bool,(b=false→Yb s=false)→b=false→K (.bool false) L h3:=fun b hb e=>by have:=hk h3 le03;rwa [hb e]at this
 cases q2:Wc s with
 | false =>
  have:=no _ (fun e=>by simp only[Yb,e,Bool.and_false]) q2;refine xx ?_;exact ZO (ZP this)
 | true =>
 refine xx ?_;refine VZ _ _ _ ?_
 cases q3:wi s.ep 0 1073741824 with
 | false =>
  have:=no _ (fun e=>by simp only[Yb,e,Bool.and_false,Bool.false_and]) q3;refine xx ?_;exact ZO (ZP this)
 | true =>
 refine xx ?_;refine VZ _ _ _ ?_
 cases q4:wi s.calm 0 1073741824 with
 | false =>
  have:=no _ (fun e=>by simp only[Yb,e,Bool.and_false,Bool.false_and]) q4;refine xx ?_;exact ZO (ZP this)
 | true =>
 refine xx ?_;refine VZ _ _ _ ?_
 cases q5:wi s.purses.length 1 64 with
 | false =>
  have:=no _ (fun e=>by simp only[Yb,V2,e,Bool.and_false,Bool.false_and]) q5;refine xx ?_;exact ZO (ZP this)
 | true =>
 by_cases q6:128<s.members.length
 ·have:=no (decide (s.members.length≤128)) (fun e=>by simp only[Yb,We,e,Bool.and_false,Bool.false_and]) (decide_eq_false (by omega));refine xx ?_;exact ZO (ZP this)
 by_cases q7:32<s.motions.length
 ·have:=no (decide (s.motions.length≤32)) (fun e=>by simp only[Yb,Vk,e,Bool.and_false,Bool.false_and]) (decide_eq_false (by omega));refine xx ?_;exact ZO (ZP this)
 by_cases q8:8<s.ring.length
 ·have:=no (decide (s.ring.length≤8)) (fun e=>by simp only[Yb,U8,Zfr,e,Bool.and_false,Bool.false_and]) (decide_eq_false (by omega));refine xx ?_;exact ZO (ZP this)
 have hpr:Ints h3 .u64 (.slice pa s.purses.length pc) s.purses:=hs.p;have hpw:=hpr.word;obtain⟨_,_,hpe,_,_,_,hcp⟩:=hpr.open;injection hpe with hpe1 _ hpe3
 subst hpe1;subst hpe3;have hm:Zh Ym 6 h3 (.slice ma s.members.length mc) s.members:=hs.m;refine xx ?_;refine Yu (0:Nat) (fun k=>k≤s.purses.length∧∀j,j<k→(fun z:Int=>decide (z≤4611686018427387904)) (at0 s.purses j)=true) (fun k=>[(3,.int .i64 k),(1,.pointer (some ⟨b1,0,none⟩))]) (fun _=>⟨b1,45,stC s ⟨.slice pa s.purses.length pc,.slice ma s.members.length mc,.slice ea s.entry.length ec,.slice xa s.exit.length xc,.slice oa s.pool.length oc,.slice da s.dues.length dc,.slice ta s.motions.length tc,.slice ka s.marks.length kc,.slice ra s.ring.length rc⟩,41⟩::L) (fun _=>h3) (fun k=>s.purses.length-k) ?_ ?_ ?_ ?_
 ·exact⟨Nat.zero_le _,fun j hj=>by omega⟩
 ·simp [Ent,List.lookup,Y3]
 ·exact Za.refl _ _
 rintro k ⟨k1,k2⟩;by_cases c1:k<s.purses.length
 ·by_cases c2:4611686018427387904<at0 s.purses k
  ·have:=no (s.purses.all fun z=>decide (z≤4611686018427387904)) (fun e=>by simp only[Yb,V2,e,Bool.and_false,Bool.false_and]) (Zel _ _ c1 (decide_eq_false (by omega)));simp -dsimp -implicitDefEqProofs (disch:=first|with_reducible assumption|omega) [go_sem,idx hcp];exact ZO (ZP this)
  ·simp -dsimp -implicitDefEqProofs (disch:=first|with_reducible assumption|omega) [go_sem,idx hcp];refine⟨k+1,⟨by omega,fun j hj=>?_⟩,by omega,by simp [Ent,List.lookup],Za.refl _ _⟩;by_cases e:j=k
   ·subst e;first|omega|exact decide_eq_true (by omega)
   ·first|exact k2 j (by omega)|simpa using k2 j (by omega)
 have hkl:k=s.purses.length:=by omega
 subst hkl;have pall:=Yhn (fun z:Int=>decide (z≤4611686018427387904)) s.purses k2;refine xx ?_;clear k2 c1 k1;refine Yu (0:Nat) (fun k=>k≤s.members.length∧∀j,j<k→(fun m:Zc=>YV s.par m&&Y1 s m.owner) (gr ZQ s.members j)=true) (fun k=>[(4,.int .i64 k),(1,.pointer (some ⟨b1,0,none⟩))]) (fun _=>⟨b1,45,stC s ⟨.slice pa s.purses.length pc,.slice ma s.members.length mc,.slice ea s.entry.length ec,.slice xa s.exit.length xc,.slice oa s.pool.length oc,.slice da s.dues.length dc,.slice ta s.motions.length tc,.slice ka s.marks.length kc,.slice ra s.ring.length rc⟩,41⟩::L) (fun _=>h3) (fun k=>s.members.length-k) ?_ ?_ ?_ ?_
 ·exact⟨Nat.zero_le _,fun j hj=>by omega⟩
 ·simp [Ent,List.lookup,Y3]
 ·exact Za.refl _ _
 rintro k ⟨k1,k2⟩;by_cases c1:k<s.members.length
 ·have hxo:=hs.mo (gr ZQ s.members k) (by rw[Z9 c1];exact List.getElem_mem c1);have badm:(fun m:Zc=>YV s.par m&&Y1 s m.owner) (gr ZQ s.members k)=false→K (.bool false) L h3:=fun e=>no (s.members.all fun m=>YV s.par m&&Y1 s m.owner) (fun e=>by simp only[Yb,We,e,Bool.and_false,Bool.false_and]) (YC ZQ _ _ c1 e);refine xx ?_;refine Uh (by kernel_rfl) rfl ?_;simp -dsimp -implicitDefEqProofs (disch:=first|with_reducible assumption|omega) [go_sem,↓WQ ZQ (by decide) hm,Ym];refine VE _ (Zlv s.par hs.ok.p q1 (gr ZQ s.members k) hxo ⟨rfl,rfl,rfl⟩) ?_
  cases q9:YV s.par (gr ZQ s.members k) with
  | false =>
   have:=badm (by simp only[q9,Bool.false_and]);refine xx ?_;exact ZO (ZP this)
  | true =>
  have q9':=q9;simp only[YV,Bool.and_eq_true,decide_eq_true_eq]at q9';simp -dsimp -implicitDefEqProofs (disch:=first|with_reducible assumption|omega) [go_sem,↓WQ ZQ (by decide) hm];refine(Zh.fld ZQ hm (j:=k) (o:=4) c1 (u:=.int .i64 (gr ZQ s.members k).owner) rfl _ _ _).mpr ?_;by_cases c2:(s.purses.length:Int)≤(gr ZQ s.members k).owner
  ·have:=badm (by simp only[Y1,wi,decide_eq_false (p:=(gr ZQ s.members k).owner≤(s.purses.length:Int)-1) (by omega),Bool.and_false]);refine xx ?_;exact ZO (ZP this)
  ·refine xx ?_;refine⟨k+1,⟨by omega,fun j hj=>?_⟩,by omega,by simp [Ent,List.lookup],Za.refl _ _⟩;by_cases e:j=k
   ·subst e;have:Y1 s (gr ZQ s.members j).owner=true:=by rw[Y1,wi_iff];omega
    first|(simp only[q9,this];rfl)|exact⟨q9,this⟩ | simp [q9,this]
   ·first|exact k2 j (by omega)|simpa using k2 j (by omega)
 have hkl:k=s.members.length:=by omega
 subst hkl;have mall:=UK ZQ (fun m:Zc=>YV s.par m&&Y1 s m.owner) s.members k2;clear k2 c1 k1;obtain⟨q,hd,t2,t3⟩:=hs.t;have hql:q.length=s.motions.length:=by rw[← t2,List.length_map]
 have hgr:∀k,k<q.length→gr Z5 s.motions k=(gr Z2 q k).2.2:=fun k hk=>by
  rw[Z9 hk,Z9 (by omega)];simp only[← t2,List.getElem_map]
 simp only at hd;refine xx ?_;refine Yu (γ:=Nat×PH) (0,h3) (fun g=>g.1≤s.motions.length∧PH.le h3 g.2∧g.2 b1=noC∧∀j,j<g.1→(fun m:Zl=>WF m&&Y1 s m.acct&&Y1 s m.to) (gr Z5 s.motions j)=true) (fun g=>[(5,.int .i64 g.1),(1,.pointer (some ⟨b1,0,none⟩))]) (fun _=>⟨b1,45,stC s ⟨.slice pa s.purses.length pc,.slice ma s.members.length mc,.slice ea s.entry.length ec,.slice xa s.exit.length xc,.slice oa s.pool.length oc,.slice da s.dues.length dc,.slice ta s.motions.length tc,.slice ka s.marks.length kc,.slice ra s.ring.length rc⟩,41⟩::L) (fun g=>g.2) (fun g=>s.motions.length-g.1) ?_ ?_ ?_ ?_
 ·exact⟨Nat.zero_le _,PH.le_refl _,a3,fun j hj=>by simp only at hj;omega⟩
 ·simp [Ent,List.lookup,Y3]
 ·exact Za.refl _ _
 rintro⟨k,h4⟩ ⟨k1,le4,a4,k2⟩;simp only at k1 le4 a4 k2 ⊢;by_cases c1:k<s.motions.length
 ·have hx0:Zs h3 (gr Z2 q k):=by rw[Z9 (by omega)];exact t3 _ (List.getElem_mem (by omega))
  have hx:=hx0.up le4;have hd4:=hd.up le4;have hg:=hgr k (by omega);obtain⟨x1,y1,hv1,_⟩:=hx.y.open;obtain⟨x2,y2,hv2,_⟩:=hx.n.open;have m1:=hx.y;have m2:=hx.n;rw[hv1]at m1;rw[hv2]at m2;have badm:∀h5,PH.le h3 h5→(fun m:Zl=>WF m&&Y1 s m.acct&&Y1 s m.to) (gr Z5 s.motions k)=false→K (.bool false) L h5:=fun h5 le5 e=>by
   have:=hk h5 (le03.trans le5);have e2:Yb s=false:=by simp only[Yb,Vk,YC Z5 (fun m:Zl=>WF m&&Y1 s m.acct&&Y1 s m.to) s.motions c1 e,Bool.and_false,Bool.false_and]
   rwa [e2]at this
  simp -dsimp -implicitDefEqProofs (disch:=first|with_reducible assumption|omega) [go_sem,↓WQ Z2 (by decide) hd4,Wk];refine Z0 fun b2 nb2 zb2=>?_;(try simp only[ZT]at nb2);simp -dsimp -implicitDefEqProofs (disch:=first|with_reducible assumption|omega) [go_sem,Wk,hv1,hv2];refine Zb.ap (Zsx (gr Z2 q k).2.2 _ _ m1 m2 hx.ok fun h5 le5 ap=>?_);simp only[Ap]at ap;obtain⟨p2,p1,_⟩:=ap
  cases hq:WF (gr Z2 q k).2.2 with
  | false =>
   have:=badm h5 (le4.trans le5) (by simp only[hg,hq,Bool.false_and]);refine xx ?_;exact ZO (ZO (ZP this))
  | true =>
  have hq':=hq;simp only[WF,YJ,Bool.and_eq_true,wi_iff]at hq';by_cases c2:(s.purses.length:Int)≤(gr Z2 q k).2.2.acct
  ·have:=badm h5 (le4.trans le5) (by simp only[hg,Y1,wi,decide_eq_false (p:=(gr Z2 q k).2.2.acct≤(s.purses.length:Int)-1) (by omega),Bool.and_false,Bool.false_and]);refine xx ?_;exact ZO (ZO (ZP this))
  by_cases c3:(s.purses.length:Int)≤(gr Z2 q k).2.2.to
  ·have:=badm h5 (le4.trans le5) (by simp only[hg,Y1,wi,decide_eq_false (p:=(gr Z2 q k).2.2.to≤(s.purses.length:Int)-1) (by omega),Bool.and_false]);refine xx ?_;exact ZO (ZO (ZP this))
  refine xx ?_;refine⟨k+1,h5,⟨by omega,le4.trans le5,p1,fun j hj=>?_⟩,by omega,by simp [Ent,List.lookup],Za.tail _ _ _⟩;by_cases e:j=k
  ·subst e;have e1:Y1 s (gr Z2 q j).2.2.acct=true:=by rw[Y1,wi_iff];omega
   have e2:Y1 s (gr Z2 q j).2.2.to=true:=by rw[Y1,wi_iff];omega
   simp [hg,hq,e1,e2]
  ·first|exact k2 j (by omega)|simpa using k2 j (by omega)
 have hkl:k=s.motions.length:=by omega
 subst hkl;have tall:=UK Z5 (fun m:Zl=>WF m&&Y1 s m.acct&&Y1 s m.to) s.motions k2;clear k2 c1 k1;have le04:=le03.trans le4;have hs4:=hs.up le4;obtain⟨qr,hdr,tr⟩:=hs4.r;have hqr:qr.length=s.ring.length:=by rw[← tr,WZ]
 simp only at hdr;have hdr0:=hdr;obtain⟨_,_,hre,_,_,_,hcr,hdd⟩:=hdr.open;injection hre with hre1 hre2 hre3
 subst hre1;subst hre3;have hcr':∀j,j<s.ring.length→Z8 h4 ra j=some ((fun j=>(gs qr j).1) j):=fun j hj=>hcr j (by omega);have no4:∀b:Bool,(b=false→Yb s=false)→b=false→K (.bool false) L h4:=fun b hb e=>by have:=hk h4 le04;rwa [hb e]at this
 have hgs:∀j,j<qr.length→gr [] s.ring j=(gs qr j).2:=fun j hj=>by
  rw[← tr,Z9 (by rw[WZ];exact hj),Zdb hj];simp [xsL]
 refine xx ?_;refine Yu (0:Nat) (fun k=>k≤s.ring.length∧∀j,j<k→Jz (gr [] s.ring j) 128=true) (fun k=>[(7,.int .i64 k),(1,.pointer (some ⟨b1,0,none⟩))]) (fun _=>⟨b1,45,stC s ⟨.slice pa s.purses.length pc,.slice ma s.members.length mc,.slice ea s.entry.length ec,.slice xa s.exit.length xc,.slice oa s.pool.length oc,.slice da s.dues.length dc,.slice ta s.motions.length tc,.slice ka s.marks.length kc,.slice ra s.ring.length rc⟩,41⟩::L) (fun _=>h4) (fun k=>s.ring.length-k) ?_ ?_ ?_ ?_
 ·exact⟨Nat.zero_le _,fun j hj=>by omega⟩
 ·simp [Ent,List.lookup,Y3]
 ·exact Za.refl _ _
 rintro k ⟨k1,k2⟩;by_cases c1:k<s.ring.length
 ·have hi:=hdd.at (i:=k) (by omega);have hi':=hi;obtain⟨x1,y1,hv1,_⟩:=hi.open;rw[hv1]at hi';simp -dsimp -implicitDefEqProofs (disch:=first|with_reducible assumption|omega) [go_sem,idx hcr',hv1];refine Ur _ hi' ?_
  cases hc2:Jz (gs qr k).2 128 with
  | false =>
   have:=no4 (s.ring.all fun b=>Jz b 128) (fun e=>by simp only[Yb,U8,Zfr,e,Bool.and_false,Bool.false_and]) (YC [] _ _ c1 (by rw[hgs k (by omega),hc2]));refine xx ?_;exact ZO (ZP this)
  | true =>
   refine xx ?_;refine⟨k+1,⟨by omega,fun j hj=>?_⟩,by omega,by simp [Ent,List.lookup],Za.refl _ _⟩;by_cases e:j=k
   ·subst e;rw[hgs j (by omega)];exact hc2
   ·exact k2 j (by omega)
 have hkl:k=s.ring.length:=by omega
 subst hkl;have rall:s.ring.all (fun b=>Jz b 128)=true:=UK [] _ _ k2;clear k2 c1 k1;have hkk:Ints h4 .u8 (.slice ka s.marks.length kc) s.marks:=hs4.k;refine xx ?_;refine Ur _ hkk ?_
 cases q9:Jz s.marks 128 with
 | false =>
  have:=no4 _ (fun e=>by simp only[Yb,U8,Zfr,e,Bool.and_false,Bool.false_and]) q9;refine xx ?_;exact ZO (ZP this)
 | true =>
 refine xx ?_;refine Zjw (s:=s) ⟨.slice pa s.purses.length pc,.slice ma s.members.length mc,.slice ea s.entry.length ec,.slice xa s.exit.length xc,.slice oa s.pool.length oc,.slice da s.dues.length dc,.slice ta s.motions.length tc,.slice ka s.marks.length kc,.slice ra s.ring.length rc⟩ hs4 few _ hs4.e 1 (by decide) ?_
 cases q10:Zdz s s.entry 1 with
 | false =>
  have:=no4 _ (fun e=>by simp only[Yb,We,e,Bool.and_false,Bool.false_and]) q10;refine xx ?_;exact ZO (ZP this)
 | true =>
 refine xx ?_;refine Zjw (s:=s) ⟨.slice pa s.purses.length pc,.slice ma s.members.length mc,.slice ea s.entry.length ec,.slice xa s.exit.length xc,.slice oa s.pool.length oc,.slice da s.dues.length dc,.slice ta s.motions.length tc,.slice ka s.marks.length kc,.slice ra s.ring.length rc⟩ hs4 few _ hs4.x 3 (by decide) ?_
 cases q11:Zdz s s.exit 3 with
 | false =>
  have:=no4 _ (fun e=>by simp only[Yb,We,e,Bool.and_false,Bool.false_and]) q11;refine xx ?_;exact ZO (ZP this)
 | true =>
 refine xx ?_;refine Zkv (s:=s) ⟨.slice pa s.purses.length pc,.slice ma s.members.length mc,.slice ea s.entry.length ec,.slice xa s.exit.length xc,.slice oa s.pool.length oc,.slice da s.dues.length dc,.slice ta s.motions.length tc,.slice ka s.marks.length kc,.slice ra s.ring.length rc⟩ hs4 few ?_
 cases q12:VJ s with
 | false =>
  have:=no4 _ (fun e=>by simp only[Yb,e,Bool.and_false,Bool.false_and]) q12;refine xx ?_;exact ZO (ZP this)
 | true =>
 refine xx ?_;refine Yu s.members.length (fun k=>s.members.length≤k∧k≤100000∧∀j,s.members.length≤j→j<k→WH s.marks (j:Int)=false) (fun k=>[(8,.int .i64 k),(1,.pointer (some ⟨b1,0,none⟩))]) (fun _=>⟨b1,45,stC s ⟨.slice pa s.purses.length pc,.slice ma s.members.length mc,.slice ea s.entry.length ec,.slice xa s.exit.length xc,.slice oa s.pool.length oc,.slice da s.dues.length dc,.slice ta s.motions.length tc,.slice ka s.marks.length kc,.slice ra s.ring.length rc⟩,41⟩::L) (fun _=>h4) (fun k=>100000-k) ?_ ?_ ?_ ?_
 ·exact⟨Nat.le_refl _,fm,fun j hj=>by omega⟩
 ·simp [Ent,List.lookup,Y3]
 ·exact Za.refl _ _
 rintro k ⟨k0,k1,k2⟩;by_cases c1:k<128
 ·refine xx ?_;refine Zgh _ k hkk (by omega) ?_
  cases h2':WH s.marks (k:Int) with
  | true =>
   have:=no4 ((List.range 128).all fun i=>decide (i<s.members.length) || !WH s.marks i) (fun e=>by simp only[Yb,U8,e,Bool.and_false,Bool.false_and]) (by
    rw[List.all_eq_false]
    exact⟨k,List.mem_range.2 c1,by simp [h2'];omega⟩)
   refine xx ?_;exact ZO (ZP this)
  | false =>
   refine xx ?_;refine⟨k+1,⟨by omega,by omega,fun j hj hj2=>?_⟩,by omega,by simp [Ent,List.lookup],Za.refl _ _⟩;by_cases e:j=k
   ·subst e;exact h2'
   ·exact k2 j hj (by omega)
 ·have last:((List.range 128).all fun i=>decide (i<s.members.length) || !WH s.marks i)=true:=by
   rw[List.all_eq_true];intro i hi;have:=List.mem_range.1 hi;by_cases e:i<s.members.length
   ·simp [e]
   ·simp [k2 i (by omega) (by omega)]
  have yes:Yb s=true:=by
   have e1:decide (s.members.length≤128)=true:=decide_eq_true (by omega);have e2:decide (s.motions.length≤32)=true:=decide_eq_true (by omega);have e3:decide (s.ring.length≤8)=true:=decide_eq_true (by omega);simp only[Yb,V2,We,Vk,U8,Zfr,q1,q2,q3,q4,q5,q9,q10,q11,q12,e1,e2,e3,pall,mall,tall,rall,last,Bool.and_self]
  have:=hk h4 le04;rw[yes]at this;refine xx ?_;exact ZO (ZP this)
def G3 (m:Zc):Bool:=decide (m.status=2∨m.status=3)
def cP (l:List Zc)(i:Nat):List Nat:=(List.range i).filter fun j=>G3 (gr ZQ l j)
theorem Zky (l:List Zc)(i:Nat):cP l (i+1)=if G3 (gr ZQ l i) then cP l i++[i] else cP l i:=by
 unfold cP;rw[List.range_succ,List.filter_append];by_cases c:G3 (gr ZQ l i)=true
 ·simp [c]
 ·simp [c]
theorem Yzr {l:List Zc}{i j:Nat}(hj:j∈cP l i):j<i:=by
 unfold cP at hj;exact List.mem_range.1 (List.mem_filter.1 hj).1
theorem Zey (l:List Zc)(i:Nat):(cP l i).length≤i:=by
 have:=List.length_filter_le (fun j=>G3 (gr ZQ l j)) (List.range i)
 rwa [List.length_range]at this
theorem Ypn {l:List Zc}{i j:Nat}(hj:j∈cP l i):G3 (gr ZQ l j)=true:=by
 unfold cP at hj;exact(List.mem_filter.1 hj).2
def thI (l:List Zc)(ks:List Int)(i:Nat):List Nat:=(cP l i).filter fun(j:Nat)=>WH ks j
theorem Zaz (l:List Zc)(ks:List Int)(i:Nat):(thI l ks i).length≤i:=Nat.le_trans (List.length_filter_le _ _) (Zey l i)
theorem Zah (l:List Zc)(ks:List Int)(i:Nat):thI l ks (i+1)=if G3 (gr ZQ l i)&&WH ks i then thI l ks i++[i] else thI l ks i:=by
 unfold thI;rw[Zky];by_cases c:G3 (gr ZQ l i)=true
 ·by_cases c2:WH ks i=true
  ·simp [c,c2]
  ·simp [c,c2]
 ·simp [c]
def Zlu (l:List Zc)(i:Nat):Int:=(gr ZQ l i).eff
def VA (l:List Zc):Int:=tot ((cP l l.length).map (Zlu l))
def UR (l:List Zc)(ks:List Int):Int:=tot ((thI l ks l.length).map (Zlu l))
theorem WJ (x:Int)(xs:List Int):tot (x::xs)=x+tot xs:=by
 have:∀k,YK (x::xs) (k+1)=x+YK xs k:=fun k=>by
  induction k with
  | zero=>simp [YK,at0]
  | succ k ih=>rw[YK,ih,YK];simp only[at0,List.getD_cons_succ];omega
 exact this xs.length
theorem Zds {α:Type}(f:α→Int)(q:α→Bool):∀(xs:List α),(∀x∈xs,0≤f x)→0≤tot ((xs.filter q).map f)∧tot ((xs.filter q).map f)≤tot (xs.map f)
 | [],_=>⟨Int.le_refl _,Int.le_refl _⟩
 | x::xs,h0=>by
  have ih:=Zds f q xs fun y hy=>h0 y (List.mem_cons_of_mem _ hy);have hx:=h0 x List.mem_cons_self;rw[List.filter_cons];split
  ·rw[List.map_cons,List.map_cons,WJ,WJ];omega
  ·rw[List.map_cons,WJ];omega
theorem Yhr {l:List Zc}(hm:∀x∈l,Zg x)(i:Nat):0≤Zlu l i∧Zlu l i≤18446744073709551615:=by
 unfold Zlu;by_cases c:i<l.length
 ·rw[Z9 c];exact(hm _ (List.getElem_mem c)).u _ (by simp)
 ·have:gr ZQ l i=ZQ:=by
   unfold gr;rw[List.getD_eq_getElem?_getD,List.getElem?_eq_none (by omega)];rfl
  rw[this];decide
theorem VX {l:List Zc}{ks:List Int}(hm:∀x∈l,Zg x):0≤UR l ks∧UR l ks≤VA l:=Zds _ _ _ fun x _=>(Yhr hm x).1
def JB (s:Ze):Int:=UR s.members s.marks
def W6 (s:Ze):Int:=VA s.members
def V3 (s:Ze):Int:=Ycc s.par.delay (Vx s.calm (JB s) (W6 s)).1 s.emer
def efC (l:List Zc)(ix:List Nat):List Value:=(ix.map (Zlu l)).map (.int .u64)
theorem Jb (l:List Zc)(ix:List Nat):(efC l ix).length=ix.length*1:=by simp [efC]
theorem Zao (l:List Zc)(ix:List Nat)(k:Nat):efC l (ix++[k])=efC l ix++[.int .u64 (Zlu l k)]:=by simp [efC]
theorem Zhg {l:List Zc}(hm:∀x∈l,Zg x){ix:List Nat}{h:PH}{v:Value}(sl:Sl h v ix.length 1 (efC l ix)):Ints h .u64 v (ix.map (Zlu l)):=by
 refine⟨by rw[List.length_map];exact sl,fun z hz=>?_⟩;obtain⟨i,_,rfl⟩:=List.mem_map.1 hz;rw[show IntKind.u64.min=0 by decide,show IntKind.u64.max=18446744073709551615 by decide];exact Yhr hm i
theorem Wj {e sz:Nat}(o:Option (Nat×Nat))(xs:List Value)(L:Own):oent e sz o xs L=oent e sz o xs []++L:=by cases o<;>rfl
theorem Waa {ks:List Int}{k:Nat}{b:Bool}(e:WH ks k=b):WH ks (k:Int)=b:=e
theorem Zbc {l:List Zc}{ks:List Int}(v kv:Value)(hd0:Zh Ym 6 h v l)(hm:∀x∈l,Zg x)(hkv:Ints h .u8 kv ks)(hn:l.length≤1000)(hA:VA l≤18446744073709551615)
  (hk:∀h',PH.le h h'→K (.tuple #[.int .u64 (UR l ks),.int .u64 (VA l),.int .i64 0]) L h'):Zb prog 137 [v,kv] L h K:=by
 have hP:=VX (ks:=ks) hm;have hkv0:=hkv;obtain⟨a,c,rfl,hc,hl,_,hd⟩:=hd0.open;obtain⟨ka,kc,rfl,_⟩:=hkv.open;refine ZS func137 rfl (rs:=[_,_,_]) rfl rfl ZX (by kernel_rfl) rfl rfl ?_;refine xx ?_;refine Yu (γ:=Nat×Option (Nat×Nat)×Option (Nat×Nat)) (0,none,none) (fun s=>s.1≤l.length∧okO s.2.1 (cP l s.1).length∧okO s.2.2 (thI l ks s.1).length∧apO s.2.1 (oent 22 1 s.2.2 (efC l (thI l ks s.1)) L) h∧apO s.2.2 L h)
  (fun s=>[(13,.int .i64 s.1),(12,.int .i64 l.length),(11,.slice a l.length c),(8,ovs s.2.1 (cP l s.1).length),(7,ovs s.2.2 (thI l ks s.1).length),(1,.slice ka ks.length kc)])
  (fun s=>oent 22 1 s.2.1 (efC l (cP l s.1)) (oent 22 1 s.2.2 (efC l (thI l ks s.1)) L)) (fun _=>h) (fun s=>l.length-s.1) ?_ ?_ ?_ ?_
 ·exact⟨Nat.zero_le _,rfl,rfl,trivial,trivial⟩
 ·simp [Ent,List.lookup,Y3,ovs,cP,thI]
 ·exact Za.refl _ _
 rintro⟨k,o1,o2⟩ ⟨i1,i2,i3,i4,i5⟩;simp only at i1 i2 i3 i4 i5 ⊢;by_cases c1:k<l.length
 ·have hcn:(cP l k).length≤k:=Zey l k;have htn:(thI l ks k).length≤k:=Zaz l ks k;have hs1:=Zky l k;have hs2:=Zah l ks k;simp -dsimp -implicitDefEqProofs (disch:=first|with_reducible assumption|omega) [go_sem,↓WQ ZQ (by decide) hd,Ym];refine Z0 fun b7 nb7 zb7=>?_;(try simp only[ZT]at nb7);have n7:=Yr (Yr nb7);simp -dsimp -implicitDefEqProofs (disch:=first|with_reducible assumption|omega) [go_sem,Ym];refine VD (gr ZQ l k) ?_;by_cases c2:G3 (gr ZQ l k)=true
  ·have c2':(gr ZQ l k).status=2∨(gr ZQ l k).status=3:=by simpa [G3] using c2
   rw[decide_eq_true c2'];rw[if_pos c2]at hs1;rw[c2,Bool.true_and]at hs2;simp -dsimp -implicitDefEqProofs (disch:=first|with_reducible assumption|omega) [go_sem,Ym];refine Z0 fun b8 nb8 zb8=>?_;(try simp only[ZT]at nb8);refine xx ?_;refine Z3 (t:=25) (e:=22) (sz:=1) (bytes:=8) (by kernel_rfl) Ug rfl rfl rfl rfl (by decide) [_,_] _ o1 (cP l k).length (efC l (cP l k)) i2 (Jb _ _) (Src.own List.mem_cons_self) (m:=1) (news:=[.int .u64 (gr ZQ l k).eff]) rfl (by intro u hu;simp only[List.mem_singleton]at hu;subst hu;rfl) (by simp [maxLen];omega) (by omega) ?_;intro o1' j1 j2 j3;have j4:=ZZ (ZZ j2);have e1:efC l (cP l k)++[.int .u64 (gr ZQ l k).eff]=efC l (cP l (k+1)):=by rw[hs1,Zao];rfl
   have e2:(cP l k).length+1=(cP l (k+1)).length:=by rw[hs1];simp
   rw[e2]at j1 ⊢;rw[e1];refine xx ?_;refine Gv (bs:=ks) _ k hkv0 (by omega) ?_;by_cases c3:WH ks k=true
   ·rw[if_pos c3]at hs2;rw[c3];refine xx ?_;refine Z0 fun b9 nb9 zb9=>?_;(try simp only[ZT]at nb9);refine xx ?_;rw[Wj (e:=22) o1'];refine Z3 (t:=25) (e:=22) (sz:=1) (bytes:=8) (by kernel_rfl) Ug rfl rfl rfl rfl (by decide) (_::_::_::oent 22 1 o1' _ []) _ o2 (thI l ks k).length (efC l (thI l ks k)) i3 (Jb _ _) (Src.own List.mem_cons_self) (m:=1) (news:=[.int .u64 (gr ZQ l k).eff]) rfl (by intro u hu;simp only[List.mem_singleton]at hu;subst hu;rfl) (by simp [maxLen];omega) (by omega) ?_;intro o2' l1 l2 l3;have l4:=ZZ (ZZ (ZZ l2));have l5:=Zgt (e2:=22) (sz2:=1) (cs2:=efC l (thI l ks (k+1))) (Wp j4) l4;have e3:efC l (thI l ks k)++[.int .u64 (gr ZQ l k).eff]=efC l (thI l ks (k+1)):=by rw[hs2,Zao];rfl
    have e4:(thI l ks k).length+1=(thI l ks (k+1)).length:=by rw[hs2];simp
    rw[e4]at l1 ⊢;rw[e3];refine xx ?_;refine⟨k+1,o1',o2',⟨by omega,j1,l1,l5.1,l5.2⟩,by omega,by simp [Ent,List.lookup],?_⟩;rw[← Wj];exact(Za.tail _ _ _).trans ((Za.tail _ _ _).trans (Za.tail _ _ _))
   ·rw[if_neg c3]at hs2;rw[show WH ks k=false by simpa using c3];refine xx ?_;refine⟨k+1,o1',o2,⟨by omega,j1,by rw[hs2];exact i3,by rw[hs2];exact j4,i5⟩,by omega,by simp [Ent,List.lookup,hs2],?_⟩;rw[hs2];exact(Za.tail _ _ _).trans (Za.tail _ _ _)
  ·have c2':¬((gr ZQ l k).status=2∨(gr ZQ l k).status=3):=by simpa [G3] using c2
   rw[decide_eq_false c2'];rw[if_neg c2]at hs1;rw[show G3 (gr ZQ l k)=false by simpa using c2,Bool.false_and]at hs2;simp only[Bool.false_eq_true,if_false]at hs2;refine xx ?_;refine⟨k+1,o1,o2,⟨by omega,by rw[hs1];exact i2,by rw[hs2];exact i3,by rw[hs2];exact i4,i5⟩,by omega,by simp [Ent,List.lookup,hs1,hs2],?_⟩;rw[hs1,hs2];exact Za.tail _ _ _
 ·obtain rfl:k=l.length:=by omega
  refine xx ?_;have hcn:(cP l l.length).length≤l.length:=Zey l l.length;have htn:(thI l ks l.length).length≤l.length:=Zaz l ks l.length;rw[Wj (e:=22) o1];refine GF (n:=(thI l ks l.length).length) (oent 22 1 o1 (efC l (cP l l.length)) []) i3 (Jb _ _) (by omega) (fun h1 le1 sl1=>?_) ⟨f153,func153,by decide +kernel,rfl⟩;rw[← Wj (e:=22) o1];have it:=Zhg hm sl1;refine Wq _ it ?_;rw[show tot ((thI l ks l.length).map (Zlu l))=UR l ks from rfl,YF (by omega)];refine xx ?_;refine GF (n:=(cP l l.length).length) [] i2 (Jb _ _) (by omega) (fun h2 le2 sl2=>?_) ⟨f153,func153,by decide +kernel,rfl⟩;have ia:=Zhg hm sl2;refine Wq _ ia ?_;rw[show tot ((cP l l.length).map (Zlu l))=VA l from rfl,YF hA];refine xx ?_;exact ZP (hk h2 (le1.trans le2))
theorem Yfo {p:Zd}(ok:Zj p)(hr:Yd p=true){m:Zc}(mo:Zg m)(there:Bool)(mode:Int):Zg (VS p m there mode):=by
 have hs:=Z6 hr;have us:=mo.u m.score (by simp);have un:=mo.n m.streak (by simp);have ur:=ok.w p.recover (by simp [Ys]);have u1:=ok.w p.bias (by simp [Ys]);have u2:=ok.w p.biasEm (by simp [Ys]);have u3:=ok.w p.scoreCap (by simp [Ys])
 cases there with
 | true =>
  rw[Zvx];refine⟨fun z hz=>?_,fun z hz=>?_⟩
  ·simp only[List.mem_cons,List.not_mem_nil,or_false]at hz;rcases hz with rfl|rfl|rfl
   ·exact mo.u _ (by simp)
   ·exact mo.u _ (by simp)
   ·unfold Y8;split<;>omega
  ·simp only[List.mem_cons,List.not_mem_nil,or_false]at hz;rcases hz with rfl|rfl|rfl
   ·unfold Ywp;split<;>omega
   ·exact mo.n _ (by simp)
   ·exact mo.n _ (by simp)
 | false =>
  rw[Zxm];refine⟨fun z hz=>?_,fun z hz=>?_⟩
  ·simp only[List.mem_cons,List.not_mem_nil,or_false]at hz;rcases hz with rfl|rfl|rfl
   ·exact mo.u _ (by simp)
   ·exact mo.u _ (by simp)
   ·unfold Wcq GZ;split
    ·omega
    ·split<;>omega
  ·simp only[List.mem_cons,List.not_mem_nil,or_false]at hz;rcases hz with rfl|rfl|rfl
   ·omega
   ·exact mo.n _ (by simp)
   ·exact mo.n _ (by simp)
theorem Yiv {o:Option (Nat×Nat)}{n m:Nat}(ho:okO o n)(hm:m≤n):okO o m:=by
 cases o with
 | none=>have:n=0:=ho;show m=0;omega
 | some p=>exact⟨Nat.le_trans hm ho.1,ho.2⟩
open Go.RowKit Go.Bl
theorem Za.sub {L L0:Own}{h:PH}(hs:L0.Sublist L):Za L h L0 h:=fun W hg =>
 ⟨⟨hg.sub,fun e he=>hg.own e (hs.subset he),hg.nodup.sublist (hs.map _),fun e he=>hg.apart e (hs.subset he)⟩,fun e he=>List.mem_map_of_mem (hs.subset he)⟩
theorem Zqr {xs:List Int}{bl:Nat}(o:Option (Nat×Nat))(ho:okO o xs.length)(hl:xs.length≤1000)
  (hk:∀o',okO o' xs.length→apO o' L h→K (ovs o' xs.length) (oent 3 1 o' (xs.map (.int .i64)) L) h) :
  Zb prog 312 [.pointer (some ⟨bl,0,none⟩)] (lnB bl o xs.length::lnL o xs L) h K:=by
 obtain⟨a,c,ea,hac⟩:=Yg ho;refine Ya func312 rfl (rs:=[_]) rfl rfl ZX (by kernel_rfl) rfl rfl fun ap nd=>?_;have hb:h bl=noC:=ap.1;clear ap nd;refine xx ?_;have hsrc:Src (lnB bl o xs.length::lnL o xs L) h (ovs o xs.length) xs.length (xs.map (.int .i64)):=by
  cases o with
  | none =>
   have h0:xs.length=0:=ho;rw[List.length_eq_zero_iff.1 h0];exact Or.inl ⟨rfl,rfl,rfl⟩
  | some p=>exact Src.own (b:=p.1) (t:=3) (cap:=p.2*1) (by simp [lnL,oent])
 refine Z3 (t:=27) (e:=3) (sz:=1) (bytes:=8) (z:=[.int .i64 0]) (by kernel_rfl) GE rfl rfl rfl rfl (by decide) [] _ none 0 [] rfl rfl hsrc (m:=xs.length) (by simp) (fun u hu=>?_) (by simp [maxLen];omega) (by omega) ?_
 ·obtain⟨w,_,rfl⟩:=List.mem_map.1 hu
  rfl
 intro o1 j1 j2 j3;simp only[List.nil_append,Nat.zero_add]at j1 j2 ⊢;obtain⟨x1,y1,e1,_⟩:=Yg j1;rw[e1];refine xx ?_;have k1:=hk o1 j1 (Wp (ZZ j2));rw[e1]at k1;refine⟨_,h,Za.sub ?_,k1⟩;rw[Wj o1 _ L,Wj o1 _ (lnB bl o xs.length::lnL o xs L)];refine List.Sublist.append (List.Sublist.refl _) (List.Sublist.cons _ ?_);rw[lnL,Wj o];exact List.sublist_append_right _ _
theorem Zeu {xs:List Int}(v:Value)(hv:Ints h .i64 v xs)(hl:xs.length≤256)(h0:∀z∈xs,0≤z)(hn:xs.Nodup)(m:Int)(hm:0≤m∧m≤9223372036854775807)
  (hk:∀h' r o',PH.le h h'→Ints h' .i64 r (xs.take m.toNat)→okO o' (xs.drop m.toNat).length→apO o' L h'→K (.tuple #[r,ovs o' (xs.drop m.toNat).length]) (oent 3 1 o' ((xs.drop m.toNat).map (.int .i64)) L) h') :
  Zb prog 214 [v,.int .i64 m] L h K:=by
 have hr:=hv.2;have hv0:=hv;obtain⟨va,vc,rfl,hcap,hln,_,hcs⟩:=hv.open;refine ZS func214 rfl (rs:=[_,_]) rfl rfl ZX (by kernel_rfl) rfl rfl ?_;refine xx ?_;refine Ycj _ hv0 hl h0 hn fun bl o nb hb ho=>?_;refine xx ?_;refine Yfk o ho (by omega) m hm hr fun h1 r le1 it=>?_;have hdl:(xs.drop m.toNat).length≤xs.length:=by rw[List.length_drop];omega
 obtain⟨ys,hys⟩:∃ys,ys=xs.drop m.toNat:=⟨_,rfl⟩
 rw[← hys]at hk hdl ⊢;refine xx ?_;refine Zqr (xs:=ys) o (Yiv ho hdl) (by omega) fun o' k1 k2=>?_;refine xx ?_;exact ZP (hk h1 r o' le1 it k1 k2)
theorem Zuf {e1 sz1 n1 e2 sz2 n2:Nat}{o1 o2:Option (Nat×Nat)}{xs1 xs2:List Value}{L:Own}{h:PH}{K:PK}{v:Value}(ok1:okO o1 n1)(hl1:xs1.length=n1*sz1)(hn1:n1≤9223372036854775807)(ok2:okO o2 n2)(hl2:xs2.length=n2*sz2)(hn2:n2≤9223372036854775807)
  (ha1:apO o1 (oent e2 sz2 o2 xs2 L) h) (ha2:apO o2 L h)
  (hk:∀h',PH.le h h'→Sl h' (ovs o1 n1) n1 sz1 xs1→Sl h' (ovs o2 n2) n2 sz2 xs2→fin K v L h') (he1:e1≠4294967295:=by first|decide|omega) (he2:e2≠4294967295:=by first|decide|omega):fin K v (oent e1 sz1 o1 xs1 (oent e2 sz2 o2 xs2 L)) h:=by
 have a1:apO o1 [] h:=by
  cases o1 with
  | none=>trivial
  | some p=>exact⟨trivial,ha1.2⟩
 have a2:apO o2 [] (JV h o1 xs1):=by
  cases o2 with
  | none=>trivial
  | some q =>
   cases o1 with
   | none=>exact⟨trivial,ha2.2⟩
   | some p=>exact⟨trivial,Vi (o:=some p) (Ne.symm ha1.1.1) ha2.2⟩
 have le1:=Y9 a1 xs1;have le2:=Y9 a2 xs2;obtain⟨L',h',hd,hk⟩:=hk _ (le1.trans le2) ((Vv ok1 hl1 hn1).up le2) (Vv ok2 hl2 hn2);exact⟨L',h',((Y4 o1 xs1 _ h he1).trans (Y4 o2 xs2 L _ he2)).trans hd,hk⟩
def Jx (e:Int)(b:Bool)(d:Zi):Bool:=decide (d.at'≤e) == b
def JA (l:List Zi)(e:Int)(b:Bool)(k:Nat):List Zi:=(l.take k).filter (Jx e b)
theorem Zon (l:List Zi)(e:Int)(b:Bool)(k:Nat):(JA l e b k).length≤l.length:=by
 unfold JA;exact Nat.le_trans (List.length_filter_le _ _) (by rw[List.length_take];omega)
theorem Zjj {l:List Zi}{e:Int}{b:Bool}{k:Nat}(hk:k<l.length):JA l e b (k+1)=JA l e b k++(if Jx e b (gr ZV l k) then [gr ZV l k] else []):=by
 unfold JA;rw[List.take_add_one,List.getElem?_eq_getElem hk,Z9 hk,List.filter_append]
 congr 1
 simp only[Option.toList,List.filter]
 cases Jx e b l[k]<;>rfl
theorem Gj (l:List Zi)(e:Int)(b:Bool)(k:Nat):((JA l e b k).flatMap YB).length=(JA l e b k).length*3:=Z1 Yy _
theorem Zyf {l:List Zi}(v:Value)(hv:Zh YB 3 h v l)(hl:l.length≤34000)(e:Int)
  (hk:∀h' r1 r2,PH.le h h'→Zh YB 3 h' r1 (l.filter (Jx e true))→Zh YB 3 h' r2 (l.filter (Jx e false))→K (.tuple #[r1,r2]) L h'):Zb prog 216 [v,.int .i64 e] L h K:=by
 obtain⟨a,c,rfl,hcap,hln,_,hcs⟩:=hv.open;refine ZS func216 rfl (rs:=[_,_]) rfl rfl ZX (by kernel_rfl) rfl rfl ?_;refine xx ?_;refine Yu (γ:=Nat×Option (Nat×Nat)×Option (Nat×Nat)) (0,none,none) (fun q=>q.1≤l.length∧okO q.2.1 (JA l e true q.1).length∧okO q.2.2 (JA l e false q.1).length∧apO q.2.1 (oent 167 3 q.2.2 ((JA l e false q.1).flatMap YB) L) h∧apO q.2.2 L h)
  (fun q=>[(10,.int .i64 q.1),(9,.int .i64 l.length),(8,.slice a l.length c),(1,.int .i64 e),(4,ovs q.2.1 (JA l e true q.1).length),(5,ovs q.2.2 (JA l e false q.1).length)])
  (fun q=>oent 167 3 q.2.1 ((JA l e true q.1).flatMap YB) (oent 167 3 q.2.2 ((JA l e false q.1).flatMap YB) L)) (fun _=>h) (fun q=>l.length-q.1) ?_ ?_ ?_ ?_
 ·exact⟨Nat.zero_le _,by show (JA l e true 0).length=0;simp [JA],by show (JA l e false 0).length=0;simp [JA],trivial,trivial⟩
 ·simp [Ent,List.lookup,Y3,ovs,JA]
 ·exact Za.refl _ _
 rintro⟨k,o1,o2⟩ ⟨i1,i2,i3,i4,i5⟩;simp only at i1 i2 i3 i4 i5 ⊢;have tl:=Zon l e true k;have dl:=Zon l e false k;by_cases c1:k<l.length
 ·have ht:=Zjj (e:=e) (b:=true) c1;have hf:=Zjj (e:=e) (b:=false) c1;simp -dsimp -implicitDefEqProofs (disch:=first|with_reducible assumption|omega) [go_sem,↓WQ ZV (by decide) hcs,YB];refine Z0 fun b7 nb7 zb7=>?_;(try simp only[ZT]at nb7);have n7:=Yr (Yr nb7);simp -dsimp -implicitDefEqProofs (disch:=first|with_reducible assumption|omega) [go_sem,YB];by_cases c2:(gr ZV l k).at'≤e
  ·rw[if_pos (by simp [Jx,c2])]at ht;rw[if_neg (by simp [Jx,c2]),List.append_nil]at hf;have e3:(JA l e true k).length+1=(JA l e true (k+1)).length:=by rw[ht];simp
   simp -dsimp -implicitDefEqProofs (disch:=first|with_reducible assumption|omega) [go_sem,YB];refine Z0 fun b1 nb1 zb1=>?_;(try simp only[ZT]at nb1);refine xx ?_;refine Z3 (t:=29) (e:=167) (sz:=3) (bytes:=24) (by kernel_rfl) UI rfl rfl rfl rfl (by decide) [_,_] _ o1 _ _ i2 (Gj l e true k) (Src.own List.mem_cons_self) (m:=1) (news:=YB (gr ZV l k)) rfl (by intro u hu;simp only[YB,List.mem_cons,List.not_mem_nil,or_false]at hu;rcases hu with rfl|rfl|rfl<;>rfl) (by simp [maxLen];omega) (by omega) ?_;intro o1' j1 j2 j3;rw[e3]at j1;rw[e3,show (JA l e true k).flatMap YB++YB (gr ZV l k)=(JA l e true (k+1)).flatMap YB by rw[ht,List.flatMap_append];simp];refine xx ?_;exact⟨k+1,o1',o2,⟨by omega,j1,by rw[hf];exact i3,by rw[hf];exact ZZ (ZZ j2),i5⟩,by omega,by simp [Ent,List.lookup,hf],by rw[hf];exact(Za.tail _ _ _).trans (Za.tail _ _ _)⟩
  ·rw[if_neg (by simp [Jx,c2]),List.append_nil]at ht;rw[if_pos (by simp [Jx,c2])]at hf;have e3:(JA l e false k).length+1=(JA l e false (k+1)).length:=by rw[hf];simp
   simp -dsimp -implicitDefEqProofs (disch:=first|with_reducible assumption|omega) [go_sem,YB];refine Z0 fun b1 nb1 zb1=>?_;(try simp only[ZT]at nb1);refine xx ?_;rw[Wj (e:=167) o1];refine Z3 (t:=29) (e:=167) (sz:=3) (bytes:=24) (by kernel_rfl) UI rfl rfl rfl rfl (by decide) (_::_::oent 167 3 o1 _ []) _ o2 _ _ i3 (Gj l e false k) (Src.own List.mem_cons_self) (m:=1) (news:=YB (gr ZV l k)) rfl (by intro u hu;simp only[YB,List.mem_cons,List.not_mem_nil,or_false]at hu;rcases hu with rfl|rfl|rfl<;>rfl) (by simp [maxLen];omega) (by omega) ?_;intro o2' j1 j2 j3;rw[e3]at j1;rw[e3,show (JA l e false k).flatMap YB++YB (gr ZV l k)=(JA l e false (k+1)).flatMap YB by rw[hf,List.flatMap_append];simp];simp only[List.cons_append];rw[← Wj (e:=167) o1];refine xx ?_;have l5:=Zgt (e2:=167) (sz2:=3) (cs2:=(JA l e false (k+1)).flatMap YB) (Wp i4) (ZZ (ZZ j2));exact⟨k+1,o1,o2',⟨by omega,by rw[ht];exact i2,j1,l5.1,l5.2⟩,by omega,by simp [Ent,List.lookup,ht],by rw[ht];exact(Za.tail _ _ _).trans (Za.tail _ _ _)⟩
 ·obtain rfl:l.length=k:=by omega
  have e1:JA l e true l.length=l.filter (Jx e true):=by unfold JA;rw[List.take_length]
  have e2:JA l e false l.length=l.filter (Jx e false):=by unfold JA;rw[List.take_length]
  have f1:=Gj l e true l.length;have f2:=Gj l e false l.length;rw[e1]at i2 tl f1;rw[e2]at i3 i4 dl f2;rw[e1,e2];obtain⟨x1,y1,q1,_⟩:=Yg i2;obtain⟨x2,y2,q2,_⟩:=Yg i3;rw[q1,q2];refine xx ?_;refine Zuf (n1:=(l.filter (Jx e true)).length) (n2:=(l.filter (Jx e false)).length) i2 f1 (by omega) i3 f2 (by omega) i4 i5 fun h1 le1 s1 s2=>ZP ?_;have:=hk h1 _ _ le1 (Zh.pub Yy s1) (Zh.pub Yy s2)
  rwa [q1,q2]at this
theorem Zim {xs:List Int}(v:Value)(hx:Ints h .u8 v xs)(hl:xs.length≤1000)(hk:∀h' r,PH.le h h'→Ints h' .u8 r xs→K r L h'):Zb prog 325 [v] L h K:=by
 have hx0:=hx;obtain⟨a,c,rfl,_⟩:=hx.open;refine ZS func325 rfl (rs:=[_]) rfl rfl ZX (by kernel_rfl) rfl rfl ?_;refine xx ?_;refine Z3 (t:=31) (e:=5) (sz:=1) (bytes:=1) (z:=[.int .u8 0]) (by kernel_rfl) Wax rfl rfl rfl rfl (by decide) [] _ none 0 [] rfl rfl (Src.known hx0.1) (by simp) (Jj _ _) (by simp [maxLen];omega) (by omega) ?_;intro o k1 k2 k3;simp only[Nat.zero_add,List.nil_append]at k1 k2 ⊢;refine xx ?_;refine YR (n:=xs.length) k1 (by simp) (by omega) k2 fun h1 le1 sl=>ZP (hk h1 _ le1 ⟨sl,hx0.2⟩)
def Zjz (ring:List (List Int))(marks:List Int):List (List Int):=marks::ring.take 7
def QsOk (h:PH)(q:List QS):Prop:=∀p∈q,Ints h .u8 p.1 p.2
theorem Yez {l:List QS}{marks:List Int}(v u:Value)(hv:Zx h v l)(hu:Ints h .u8 u marks)(hl:l.length≤1000)(hb:∀b∈xsL l,b.length≤1000)(hm:marks.length≤1000)
  (hk:∀h' r q,PH.le h h'→Zx h' r q→xsL q=Zjz (xsL l) marks→K r L h'):Zb prog 229 [v,u] L h K:=by
 have hu0:=hu;obtain⟨a,c,rfl,hcap,hln,_,hcs,hd⟩:=hv.open;obtain⟨ua,uc,rfl,_⟩:=hu.open;refine ZS func229 rfl (rs:=[_]) rfl rfl ZX (by kernel_rfl) rfl rfl ?_;refine xx ?_;refine Zb.ap (Zim _ hu0 hm fun h1 r1 le1 i1 ap=>?_);obtain⟨xa,xc,rfl,_⟩:=i1.open;refine xx ?_;refine Z0 fun b5 nb5 zb5=>?_;(try simp only[ZT]at nb5);refine xx ?_;refine Yu (γ:=Nat×PH×Option (Nat×Nat)×List QS) (0,h1,some (b5,1),[(.slice xa marks.length xc,marks)])
  (fun q=>q.1≤l.length∧PH.le h1 q.2.1∧okO q.2.2.1 q.2.2.2.length∧apO q.2.2.1 L q.2.1∧xsL q.2.2.2=marks::(xsL l).take (min q.1 7)∧QsOk q.2.1 q.2.2.2)
  (fun q=>[(13,.int .i64 q.1),(12,.int .i64 l.length),(11,.slice a l.length c),(5,ovs q.2.2.1 q.2.2.2.length)])
  (fun q=>oent 31 1 q.2.2.1 (vsL q.2.2.2) L) (fun q=>q.2.1) (fun q=>l.length-q.1) ?_ ?_ ?_ ?_
 ·refine⟨Nat.zero_le _,PH.le_refl _,(show 1≤1∧1≤maxLen by decide),⟨nb5,zb5⟩,by simp [xsL],fun p hp=>?_⟩;rw[List.mem_singleton]at hp;subst hp;exact i1
 ·simp [Ent,List.lookup,Y3,ovs]
 ·exact Za.refl _ _
 rintro⟨k,h2,o,q⟩ ⟨k1,k2,k3,k4,k5,k6⟩;simp only at k1 k2 k3 k4 k5 k6 ⊢;have hxl:(xsL l).length=l.length:=WZ l;have hql:q.length=1+min k 7:=by
  rw[← WZ q,k5,List.length_cons,List.length_take];omega
 by_cases c1:k<l.length
 ·have hg:=(hd.at c1).up (le1.trans k2);have hcs2:∀j,j<l.length→Z8 h2 a j=some (gs l j).1:=(hd.up (le1.trans k2)).open.elim fun a' ⟨cap',e,_,_,_,hc2,_⟩=>by
   cases e
   exact hc2
  have hmem:(gs l k).2∈xsL l:=by rw[Zdb c1];exact List.mem_map.2 ⟨_,List.getElem_mem c1,rfl⟩
  have hbl:=hb _ hmem;have htk:(xsL l)[k]?=some (gs l k).2:=Yxz c1;obtain⟨x1,y1,e1,_⟩:=Yg k3;have hlen:∀(K:Value→Prop) (t:Zm K),Zae prog 3 #[32] (ovs o q.length) K t=K (.int .i64 q.length):=fun K t=>by rw[e1];exact Yx (e:=31) (by kernel_rfl) _ _ _
  simp -dsimp -implicitDefEqProofs (disch:=first|with_reducible assumption|omega) [go_sem,idx hcs2,hlen];by_cases c2:k<7
  ·have hm1:min k 7=k:=by omega
   have hm2:min (k+1) 7=k+1:=by omega
   rw[hm1]at k5 hql;simp -dsimp -implicitDefEqProofs (disch:=first|with_reducible assumption|omega) [go_sem,idx hcs2,hlen];refine Zb.ap (Zim _ hg hbl fun h3 r3 le3 i3 ap=>?_);obtain⟨ya,yc,rfl,_⟩:=i3.open;have k4':=G5 k4 ap;refine xx ?_;refine Z0 fun b6 nb6 zb6=>?_;(try simp only[ZT]at nb6);refine xx ?_;refine Z3 (t:=32) (e:=31) (sz:=1) (bytes:=24) (by kernel_rfl) Yks rfl rfl rfl rfl (by decide) [_] L o q.length (vsL q) k3 (by simp [vsL]) (Src.own List.mem_cons_self) (m:=1) (news:=[.slice ya (gs l k).2.length yc]) rfl (fun u hu=>by simp at hu;subst hu;rfl) (by simp [maxLen];omega) (by omega) ?_;intro o' j1 j2 j3;refine xx ?_;refine⟨k+1,h3,o',q++[(.slice ya (gs l k).2.length yc,(gs l k).2)],⟨by omega,k2.trans le3,by simpa using j1,ZZ j2,?_,fun p hp=>?_⟩,by omega,by simp [Ent,List.lookup],?_⟩
   ·rw[hm2,List.take_add_one,htk];simp only[xsL,List.map_append,List.map_cons,List.map_nil]at k5 ⊢;rw[k5]
    rfl
   ·rcases List.mem_append.1 hp with hp|hp
    ·exact(k6 p hp).up le3
    ·rw[List.mem_singleton]at hp;subst hp;exact i3
   ·simp only[vsL,List.map_append,List.map_cons,List.map_nil];exact Za.tail _ _ _
  ·have hm1:min k 7=7:=by omega
   have hm2:min (k+1) 7=7:=by omega
   rw[hm1]at k5 hql;refine xx ?_;exact⟨k+1,h2,o,q,⟨by omega,k2,k3,k4,by rw[hm2];exact k5,k6⟩,by omega,by simp [Ent,List.lookup],Za.refl _ _⟩
 ·obtain rfl:l.length=k:=by omega
  refine xx ?_;obtain⟨x1,y1,e1,_⟩:=Yg k3;rw[e1]
  try simp -dsimp -implicitDefEqProofs (disch:=first|with_reducible assumption|omega) [go_sem]
  refine YR (n:=q.length) k3 (by simp [vsL]) (by omega) k4 fun h3 le3 sl=>ZP ?_;rw[e1]at sl;refine hk h3 _ q (le1.trans (k2.trans le3)) ⟨sl,fun p hp=>(k6 p hp).up le3⟩ ?_;rw[k5,Zjz]
  congr 1
  by_cases c2:l.length≤7
  ·rw[Nat.min_eq_left c2,List.take_of_length_le (by omega),List.take_of_length_le (by omega)]
  ·rw[Nat.min_eq_right (by omega)]
theorem Zpz {ql:List QM}{ms:List Zl}(v:Value)(hv:Zh Wk 33 h v ql)(hq:ql.map (fun x=>x.2.2)=ms)(hm:WI h ql)(hl:ql.length≤1000)(hb:∀m∈ms,m.yes.length≤1000∧m.no.length≤1000)
    (hk:∀h' o ql',PH.le h h'→okO o ms.length→apO o L h'→ql'.map (fun x=>x.2.2)=ms→WI h' ql'→K (ovs o ms.length) (oent 120 33 o (ql'.flatMap Wk) L) h') :
    Zb prog 316 [v] L h K:=by
  have hql:ql.length=ms.length:=by rw[← hq,List.length_map]
  have hv0:=hv;obtain⟨va,vc,rfl,_⟩:=hv.open;refine ZS func316 rfl (rs:=[_]) rfl rfl ZX (by kernel_rfl) rfl rfl ?_;refine xx ?_;refine Zek _ hv0 hm hl fun ot ok2 at1=>?_;rw[hql]at ok2 ⊢;obtain⟨mta,mtc,emt,_⟩:=Yg ok2;rw[emt];refine xx ?_;refine Yu (γ:=Nat×List QM×PH) (0,ql,h)
    (fun q=>q.1≤ms.length∧q.2.1.map (fun x=>x.2.2)=ms∧WI q.2.2 q.2.1∧PH.le h q.2.2∧apO ot L q.2.2)
    (fun q=>[(9,.int .i64 q.1),(8,.int .i64 ms.length),(3,.slice mta ms.length mtc)])
    (fun q=>oent 120 33 ot (q.2.1.flatMap Wk) L) (fun q=>q.2.2) (fun q=>ms.length-q.1) ?_ ?_ ?_ ?_
  · exact⟨Nat.zero_le _,hq,hm,PH.le_refl _,at1⟩
  · simp [Ent,List.lookup,Y3]
  · exact Za.refl _ _
  rintro⟨k,ql',h6⟩ ⟨k1,k2,k3,k4,k8⟩;simp only at k1 k2 k3 k4 k8 ⊢;have hql':ql'.length=ms.length:=by rw[← k2,List.length_map]
  by_cases c1:k<ms.length
  · obtain ⟨bt,cap,rfl⟩ : ∃ bt cap,ot = some (bt,cap) := by
      cases ot with
      | none=>have:ms.length=0:=ok2;omega
      | some p=>exact⟨_,_,rfl⟩
    simp only[ovs,Value.slice.injEq]at emt;obtain⟨rfl,_,rfl⟩:=emt;have hbt:h6 bt=noC:=k8.2;obtain⟨qk,hqk⟩:∃qk,qk=gr Z2 ql' k:=⟨_,rfl⟩
    have hmem:qk∈ql':=by rw[hqk,Z9 (by omega)];exact List.getElem_mem _
    have hmk:Zs h6 qk:=k3 qk hmem;have hmdm:qk.2.2∈ms:=by rw[← k2];exact List.mem_map.2 ⟨qk,hmem,rfl⟩
    obtain⟨vy,vn,md⟩:=qk;have hy:=hmk.y;have hn:=hmk.n;simp only at hy hn;obtain⟨ya,yc,rfl,_⟩:=hy.open;obtain⟨na,nc,rfl,_⟩:=hn.open;simp only at hmdm;have fv:=hb md hmdm;have g31:∀(K:Value→Prop) (t:Zm K),Uy (ql'.flatMap Wk) (k*33+31) K t=K (.slice ya md.yes.length yc):=fun K t=>YH Yl Z2 ql' (by omega) (by decide) (by rw[← hqk];rfl) K t;have g32:∀(K:Value→Prop) (t:Zm K),Uy (ql'.flatMap Wk) (k*33+32) K t=K (.slice na md.no.length nc):=fun K t=>YH Yl Z2 ql' (by omega) (by decide) (by rw[← hqk];rfl) K t;have hfl:(ql'.flatMap Wk).length=ms.length*33:=by rw[Z1 Yl,hql']
    rw[Yh];refine xx ?_;refine Yj (.tk 0 (.tk 1 (.tk 2 (.tk 3 (.tk 4 (.tk 5 (.tk 6 (.tk 7 (.tk 10 (.tk 11 (.tk 12 (.tk 13 (.tkl 8 (.tkl 14 (.o1 9 (.o1 15 (.tk 16 (.tk 17 (.o2 18 (.tk 19 (.tk 20 (.o2 21 (.fin) (.nil)))) (.nil)))) (.nil)) (.nil)))))))))))))))) (by kernel_rfl) (by kernel_rfl) _ (Za.refl _ _) ?_;simp -dsimp -implicitDefEqProofs (disch:=first|with_reducible assumption|omega) [go_sem,g31,g32];have hset:∀a ac b bc,((ql'.flatMap Wk).set (k*33+31) (.slice a md.yes.length ac)).set (k*33+32) (.slice b md.no.length bc)=(ql'.set k (.slice a md.yes.length ac,.slice b md.no.length bc,md)).flatMap Wk:=fun a ac b bc=>by
      rw[WK Yl Z2 ql' (i:=k) (m:=31) (a':=(.slice a md.yes.length ac,.slice na md.no.length nc,md)) (by omega) (by decide) (by rw[← hqk];rfl)];rw[WK Yl Z2 _ (i:=k) (m:=32) (a':=(.slice a md.yes.length ac,.slice b md.no.length bc,md)) (by rw[List.length_set];omega) (by decide) (by rw[Z9 (by rw[List.length_set];omega),List.getElem_set_self];rfl),List.set_set]
    have hmd:ms[k]?=some md:=by
      rw[← k2,List.getElem?_map,List.getElem?_eq_getElem (by omega),← Z9 (z:=Z2) (by omega),← hqk]
      rfl
    have hmap:∀(a b:Value),(ql'.set k (a,b,md)).map (fun x=>x.2.2)=ms:=fun a b=>by
      rw[List.map_set,k2];apply List.ext_getElem?;intro n;rw[List.getElem?_set];split
      · rename_i e;subst e
        first
        | exact hmd.symm
        | (split
           · exact hmd.symm
           · rw[List.getElem?_eq_none (by omega)])
      · rfl
    repeat' first
      | refine Y0 ?_ ?_
      | simp -dsimp -implicitDefEqProofs (disch:=first|with_reducible assumption|omega) [go_sem,g31,g32]
    all_goals
      refine Zb.ap (VB _ hy (by omega) fun h7 v7 le7 i7 ap=>?_);obtain⟨y1,y2⟩:=ap;obtain⟨wa,wc,rfl,_⟩:=i7.open
      first
      | refine xkp (Za.forget le7) ?_
      | skip
    repeat' first
      | refine Y0 ?_ ?_
      | simp -dsimp -implicitDefEqProofs (disch:=first|with_reducible assumption|omega) [go_sem,g31,g32]
      | refine xkp (Za.forget le7) ?_
    all_goals
      refine Zb.ap (VB _ (hn.up le7) (by omega) fun h8 v8 le8 i8 ap=>?_);obtain⟨z1,z2⟩:=ap;obtain⟨ua,uc,rfl,_⟩:=i8.open
      first
      | refine xkp (Za.forget (le7.trans le8)) ?_
      | skip
    repeat' first
      | refine Y0 ?_ ?_
      | simp -dsimp -implicitDefEqProofs (disch:=first|with_reducible assumption|omega) [go_sem,g31,g32]
      | refine xkp (Za.forget (le7.trans le8)) ?_
    all_goals
      have hsum:(ql'.map fun a=>(Wk a).length).sum=ms.length*33:=by rw[← List.length_flatMap,hfl]
      have hk33:=WM (n:=ms.length) (w:=33) c1 (m:=32) (by decide);refine⟨by omega,by omega,k+1,ql'.set k (.slice wa md.yes.length wc,.slice ua md.no.length uc,md),h8,⟨by omega,hmap _ _,fun x hx=>?_,k4.trans (le7.trans le8),⟨k8.1,z1⟩⟩,by omega,by simp [Ent,List.lookup],?_⟩
      · rcases List.mem_or_eq_of_mem_set hx with hx|rfl
        · exact(k3 x hx).up (le7.trans le8)
        · exact⟨i7.up le8,i8,hmk.ok⟩
      · rw[hset];exact Za.refl _ _
  have hkl:k=ms.length:=by omega
  subst hkl;rw[← emt];refine xx ?_;exact ZP (hk h6 ot ql' k4 ok2 k8 k2 k3)
end Go.X

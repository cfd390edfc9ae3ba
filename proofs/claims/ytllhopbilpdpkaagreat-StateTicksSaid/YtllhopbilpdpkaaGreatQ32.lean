/- Lemmas and contracts. Conditions: as each says. -/
import Derived.Test.YtllhopbilpdpkaaGreatQ30
set_option linter.unusedVariables false
set_option linter.unusedSimpArgs false
set_option maxHeartbeats 12800000
set_option maxRecDepth 20000
namespace Go.X
open Go.RowKit Go.Proofs Go.Bl
variable {L:Own} {h:PH} {K:PK}
theorem Ztp {xs:List Int}(v:Value)(hv:Ints h .i64 v xs)(k:Int)(hl:xs.length<=1000)(hk:∀h' r,PH.le h h'->Ints h' .i64 r (flt xs k)->K r L h'):Zb Tryz.prog 143 [v,.int .i64 k] L h K:=by
 have hr:=hv.2;obtain⟨va,vc,rfl,hna,hca,_,hcx⟩:=hv.open;refine ed Tryz.func143 ?_;refine xx ?_;refine Yi (γ:=Nat×Option (Nat×Nat)) (0,none) (fun q=>q.1<=xs.length/\okO q.2 (flt (xs.take q.1) k).length/\apO q.2 L h) (fun q=>[(6,.int .i64 q.1),(5,ovs q.2 (flt (xs.take q.1) k).length),(0,.slice va xs.length vc),(1,.int .i64 k)]) (fun q=>oent 3 1 q.2 ((flt (xs.take q.1) k).map (.int .i64)) L) (fun _=>h) (fun q=>xs.length-q.1) ?_ ?_ ?_ ?_
 ·exact⟨Nat.zero_le _,rfl,trivial⟩
 ·simp [Ent,List.lookup,YT,ovs]
 ·exact Za.refl _ _
 rintro⟨j,o⟩ ⟨j1,j2,j3⟩;simp only at j1 j2 j3 ⊢;have hfl:=Znn (xs.take j) k;rw[List.length_take,Nat.min_eq_left j1]at hfl;by_cases c1:j<xs.length
 ·have hs:=Zie (k:=k) c1;by_cases c2:at0 xs j=k
  ·rw[if_neg ww,List.append_nil]at hs;refine lC ?_;exact⟨j+1,o,⟨qf,zJ,j3⟩,qf,qK,zx⟩
  ·rw[if_pos c2]at hs;refine lC ?_;refine ZY fun bs n_bs h_bs=>?_;(try simp only[ZS]at n_bs);refine lC ?_;refine ZZ (t:=27) (e:=3) (sz:=1) (bytes:=8) qg V6 rfl rfl rfl rfl qh [_] L o (flt (xs.take j) k).length _ j2 qj (Src.own List.mem_cons_self) (m:=1) (news:=[.int .i64 (at0 xs j)]) rfl (fun u hu=>qw) qm qf ?_;intro o' i1 i2 i3;refine xx ?_;have hsl:(flt (xs.take (j+1)) k).length=(flt (xs.take j) k).length+1:=by rw[hs,List.length_append];rfl
   refine⟨j+1,o',⟨qf,zG,ZV i2⟩,qf,qR,?_⟩;simp only[hs,List.map_append,List.map_cons,List.map_nil];exact Za.tail _ _ _
 ·have hj:j=xs.length:=qf;subst hj;rw[List.take_length]at j2 hfl ⊢;refine xx ?_;refine Yv (e:=3) (n:=(flt xs k).length) j2 qj qf j3 fun h' le sl=>ZP (hk h' _ le ⟨sl,fun z hz=>hr z (List.mem_filter.1 hz).1⟩)
theorem Sl.drop {h:PH}{a:Option Addr}{n c sz:Nat}{cs:List Value}(hs:Sl h (.slice a n c) n sz cs)(i:Nat)(hi:i<=n):Sl h (.slice (Gk a c i sz) (n-i) (c-i)) (n-i) sz (cs.drop (i*sz)):=by
 obtain⟨h1,a',c',h2,h3,h4,h5,h6,h7⟩:=hs;injection h2 with e1 e2 e3
 subst e1;subst e3;refine⟨by rw[List.length_drop,h1,Nat.sub_mul],Gk a c i sz,c-i,rfl,qf,qf,qf,fun hn=>?_,fun m v hm=>?_⟩
 ·unfold Gk at hn;split at hn
  ·omega
  ·cases a with
   | none=>have:=h6 rfl;omega
   | some q=>simp at hn
 ·rw[List.getElem?_drop]at hm;have hlt:=(List.getElem?_eq_some_iff.1 hm).1;have hne:¬c=i:=fun e=>by
   have:n=i:=qf;subst this;omega
  have:=h7 (i*sz+m) v hm;unfold Gk;rw[if_neg hne]
  cases a with
  | none=>simp [Z9]at this
  | some q =>
   simp only[Z9,Option.map_some,Zqx]at this ⊢;exact this
theorem Yjw {o:Option (Nat×Nat)}{n m:Nat}(ho:okO o n)(hm:m<=n):∃a c,ovs o n = .slice a n c/\ovs o m = .slice a m c/\n<=c:=by
 cases o with
 | none =>
  have h0:n=0:=ho;have h1:m=0:=qf;subst h0 h1;exact⟨none,0,rfl,rfl,Nat.le_refl _⟩
 | some p=>obtain⟨b,cap⟩:=p;exact⟨_,_,rfl,rfl,ho.1⟩
theorem Zjd (A:Own)(e sz m:Nat)(o:Option (Nat×Nat))(cs:List Value)(L:Own)(h:PH)(ht:e≠4294967295:=by first|decide|omega):Za (A++oent e sz o cs L) h (A++oent e sz o (cs.take m) L) h :=
 (Za.perm h (Z6 A)).trans ((Znv e sz m o cs (A++L) h ht).trans (Za.perm h (Z6 A).symm))
theorem due46:tSh Tryz.prog 42 = .sl 216 3 24:=by kernel_rfl
theorem Gb:Tryz.prog.underlying 42=some (.slice 216):=by kernel_rfl
theorem Zxz {l:List Zh}{d:Zh}(v:Value)(hv:Zd Yh 3 h v l)(hd:∀x∈l,Zs x)(hl:l.length<=32000)(hacct:0<=d.au/\d.au<=63)(hat:0<=d.at'/\d.at'<=9223372036854775807)(hamt:0<=d.amt)(hs:Y9 l+d.amt<=4611686018427387904)
  (hk:∀h' r,PH.le h h'->Zd Yh 3 h' r (V3 l d)->K (.tuple #[r,.int .i64 0]) L h'):Zb Tryz.prog 144 [v,dueV d] L h K:=by
 have hv0:=hv;have ht0:0<=Y9 l:=Ym (Zam hd);obtain⟨va,vc,rfl,hna,hca,_,hvR⟩:=hv.open;refine eF Tryz.func144 ?_;refine xx ?_;refine ZY fun b3 nb3 zb3=>?_;(try simp only[ZS]at nb3);refine xx ?_;refine ZZ (t:=42) (e:=216) (sz:=3) (bytes:=24) Gb Zcn rfl rfl rfl rfl qh [] _ none 0 [] rfl rfl (Src.known hv0.s) (news:=l.flatMap Yh) (Z1 Yd l) (Vy Ug l) qm qf ?_;intro o ok1 ap1 i3;simp only[Nat.zero_add,List.nil_append]at ok1 ap1 ⊢;have n3:apB o b3:=ap1.head;refine lq ?_;by_cases c0:d.amt=0
 ·rw[V3,if_pos c0]at hk;refine lq ?_;refine Yv (e:=216) (n:=l.length) ok1 (Z1 Yd l) qf ap1 fun h' le sl=>ZO (ZP (hk h' _ le (Zd.pub Yd sl)))
 obtain⟨a,c,ea,hc⟩:=Z5 ok1;refine lq ?_;refine Yi (γ:=Nat) 0 (fun j=>j<=l.length/\∀i,i<j->JT d (gr ZT l i)=false) (fun j=>[(7,.int .i64 j),(6,ovs o l.length),(3,.pointer (some ⟨b3,0,none⟩)),(0,.slice va l.length vc)]) (fun _=>oent 216 3 o (l.flatMap Yh) (⟨b3,216,Yh d,3⟩::L)) (fun _=>h) (fun j=>l.length-j) ?_ ?_ ?_ ?_
 ·exact⟨Nat.zero_le _,fun i hi=>qf⟩
 ·simp [Ent,List.lookup,YT]
 ·exact Za.refl _ _
 rintro j ⟨j1,j2⟩;by_cases c1:j<l.length
 ·obtain⟨bx,cap,rfl⟩:∃bx cap,o=some (bx,cap):=by
   cases o with
   | none=>have:l.length=0:=ok1;omega
   | some p=>exact⟨_,_,rfl⟩
  have hbx:h bx=noC:=ap1.2;have nbx:bx≠b3:=n3;obtain⟨x,hx⟩:∃x,x=gr ZT l j:=⟨_,rfl⟩
  have hxo:=hd x (by rw[hx];exact J3 c1);have ha:=hxo.a;have hxt:=Zrj hd c1;rw[<- hx]at hxt;have g0:∀(K:Value->Prop) (t:Zm K),VE (l.flatMap Yh) (j*3) K t=K (.int .i64 x.au):=fun K t=>Yu Yd ZT _ (m:=0) c1 qh zt K t;have g1:∀(K:Value->Prop) (t:Zm K),VE (l.flatMap Yh) (j*3+1) K t=K (.int .i64 x.at'):=fun K t=>Yu Yd ZT _ (m:=1) c1 qh zt K t;have g2:∀(K:Value->Prop) (t:Zm K),VE (l.flatMap Yh) (j*3+2) K t=K (.int .u64 x.amt):=fun K t=>Yu Yd ZT _ (m:=2) c1 qh zt K t;simp only[Yl,Z7];by_cases d1:x.au=d.au
  ·by_cases d2:x.at'=d.at'
   ·have hfk:Zis l d=j:=Yau c1 (by rw[<- hx];simp [JT,d1,d2]) j2;rw[V3,if_neg c0,hfk,if_pos c1,<- hx]at hk;refine xx ?_;refine WX qg rfl ?_;refine lD ?_;refine WX qg rfl ?_;refine lD ?_;refine Z4 (.tk 0 (.tk 1 (.tk 2 (.tk 4 (.tk 6 (.tk 7 (.tk 8 (.tk 9 (.tk 11 (.tkl 3 (.tkl 5 (.tkl 10 (.tkl 12 (.tk 13 (.tk 14 (.tk 15 (.o2 16 (.fin) (.nil)))))))))))))))))) qg qg _ (Za.refl _ _) ?_
    repeat' first
     | with_reducible refine Yf ?_ ?_
     | with_reducible refine xkp (Za.refl _ _) ?_
     | simp -dsimp -implicitDefEqProofs (disch:=first|exact dD|fail) [go_sem,g0,g1,g2,Yh]
    all_goals
     have hsum:(l.map fun _=>3).sum=l.length*3:=by
      have:(l.map fun a=>(Yh a).length).sum=l.length*3:=by rw[<- List.length_flatMap,Z1 Yd]
      exact this
     have hk3:=YC (w:=3) c1 (show 2<3 from qh);refine⟨qf,?_⟩;have hset:(((l.flatMap Yh).set (j*3) (.int .i64 d.au)).set (j*3+1) (.int .i64 d.at')).set (j*3+1+1) (.int .u64 (x.amt+d.amt))=(l.set j (Zzq x d)).flatMap Yh:=by
      rw[<- d1,<- d2];exact U0 Yd l c1 (Zzq x d)
     rw[hset];refine Yv (e:=216) (n:=l.length) (o:=some (bx,cap)) ok1 (by rw[Z1 Yd,List.length_set]) qf ap1 fun h' le sl=>ZO (ZP (hk h' _ le ?_));have:=Zd.pub (f:=Yh) (w:=3) (l:=l.set j (Zzq x d)) (o:=some (bx,cap)) Yd (by rw[List.length_set];exact sl)
     rwa [List.length_set]at this
   ·have nx:JT d x=false:=by simp [JT,d2]
    refine xx ?_;refine WX qg rfl ?_;refine lD ?_;refine⟨j+1,⟨qf,fun i hi=>?_⟩,qf,qi,Za.refl _ _⟩;by_cases e:i=j
    ·subst e;rw[<- hx];exact nx
    ·exact j2 i qf
  ·have nx:JT d x=false:=by simp [JT,d1]
   refine xx ?_;refine WX qg rfl ?_;refine lD ?_;refine⟨j+1,⟨qf,fun i hi=>?_⟩,qf,qi,Za.refl _ _⟩;by_cases e:i=j
   ·subst e;rw[<- hx];exact nx
   ·exact j2 i qf
 have hj:j=l.length:=qf;subst hj;rw[V3,if_neg c0,if_neg (Zvm j2)]at hk;rw[ea];refine xx ?_;rw[<- ea];refine Yi (γ:=Nat) 0 (fun j=>j<=l.length) (fun j=>[(9,.int .i64 j),(8,.int .i64 (Wg l d.at' j)),(6,ovs o l.length),(3,.pointer (some ⟨b3,0,none⟩)),(0,.slice va l.length vc)]) (fun _=>oent 216 3 o (l.flatMap Yh) (⟨b3,216,Yh d,3⟩::L)) (fun _=>h) (fun j=>l.length-j) ?_ ?_ ?_ ?_
 ·exact Nat.zero_le _
 ·simp [Ent,List.lookup,Wg]
 ·exact Za.refl _ _
 rintro j j1;by_cases c1:j<l.length
 ·obtain⟨x,hx⟩:∃x,x=gr ZT l j:=⟨_,rfl⟩
  have f1:∀(L:Own) (K:Value->Prop) (t:Zm K),Um L h (UI va (j*3+1)) 0 K t=K (.int .i64 x.at'):=fun L K t=>Zd.fld ZT hvR c1 (o:=1) zt L K t;by_cases c2:x.at'<=d.at'
  ·have e1:Wg l d.at' (j+1)=j+1:=Zdh (by rw[<- hx];exact c2);refine xx ?_;refine WX qg rfl ?_;refine lF ?_;exact⟨j+1,qf,qf,by simp [Ent,List.lookup,e1],Za.refl _ _⟩
  ·have e1:Wg l d.at' (j+1)=Wg l d.at' j:=Zbv (by rw[<- hx];exact c2);refine xx ?_;refine WX qg rfl ?_;refine lF ?_;exact⟨j+1,qf,qf,by simp [Ent,List.lookup,e1],Za.refl _ _⟩
 have hj:j=l.length:=qf;subst hj;obtain⟨p,hp⟩:∃p,p=Wg l d.at' l.length:=⟨_,rfl⟩
 have hpl:=GF l d.at' l.length;have hins:Ztt l d=l.take p++d::l.drop p:=by rw[hp];rfl
 rw[hins]at hk;rw[<- hp]at hpl ⊢;obtain⟨a2,c2,ea2,eb2,hc2⟩:=Yjw ok1 hpl;refine xx ?_;refine Z4 (.tk 0 (.tk 1 (.tk 2 (.tkl 3 (.o1 4 (.o1 5 (.tk 6 (.fin)) (.nil)) (.nil)))))) qg qg [⟨b3,216,Yh d,3⟩] (Za.oent _ _ _ _ _ _ |>.trans (drop_left [_] _ _)) ?_;refine xx ?_;rw[ea2]
 repeat' first
  | with_reducible refine Yf ?_ ?_
  | with_reducible refine xkp ((Za.tail _ _ _).trans ((Za.oent _ _ _ _ _ _).trans (drop_left [_] _ _))) ?_
  | simp -dsimp -implicitDefEqProofs (disch:=first|exact dD|fail) [go_sem,Yh]
  | with_reducible refine ZY fun bv n_bv h_bv=>?_
 rw[<- eb2];have e2:((l.take p).flatMap Yh).length=p*3:=by rw[Z1 Yd,List.length_take,Nat.min_eq_left hpl]
 have e1:(l.flatMap Yh).take (p*3)=(l.take p).flatMap Yh:=by
  conv=>lhs;rw[<- List.take_append_drop p l]
  rw[List.flatMap_append,List.take_append_of_le_length qf,<- e2,List.take_length]
 refine V2 (Zjd [_] 216 3 (p*3) o _ _ _) ?_;rw[e1];refine ZZ (t:=42) (e:=216) (sz:=3) (bytes:=24) Gb Zcn rfl rfl rfl rfl qh [_] _ o p _ (Zkn ok1 hpl) e2 (Src.own List.mem_cons_self) (m:=1) (news:=Yh d) rfl (Ug d) qm qf ?_;intro o2 k1 k2 k3;simp only[List.cons_append,List.nil_append]at k2 ⊢
 first
 | refine xkp ((Za.tail _ _ _).trans ((Za.oent _ _ _ _ _ _).trans (drop_left [_] _ _))) ?_
 | skip
 simp -dsimp -implicitDefEqProofs (disch:=first|exact dD|fail) [go_sem,Zaz due46];have hdr:=(hv0.s.drop p hpl)
 have e3:(l.flatMap Yh).drop (p*3)=(l.drop p).flatMap Yh:=by
  conv=>lhs;rw[<- List.take_append_drop p l]
  rw[List.flatMap_append,<- e2,List.drop_left]
 rw[e3]at hdr;refine ZZ (t:=42) (e:=216) (sz:=3) (bytes:=24) Gb Zcn rfl rfl rfl rfl qh [_] _ o2 (p+1) _ k1 (by rw[List.length_append,e2,show (Yh d).length=3 from rfl];omega) (Src.known hdr) (m:=l.length-p) (news:=(l.drop p).flatMap Yh) (by rw[Z1 Yd,List.length_drop]) (Vy Ug _) qm qf ?_;intro o3 m1 m2 m3;refine xx ?_;have e4:(l.take p).flatMap Yh++(Yh d++(l.drop p).flatMap Yh)=(l.take p++d::l.drop p).flatMap Yh:=by
  rw[List.flatMap_append,List.flatMap_cons]
 have e5:p+1+(l.length-p)=(l.take p++d::l.drop p).length:=by simp;omega
 rw[e5]at m1 ⊢;rw[e4];refine ZO (Yv (e:=216) m1 (Z1 Yd _) qF (ZV m2) fun h' le sl=>ZO (ZP (hk h' _ le (Zd.pub Yd sl))))
end Go.X

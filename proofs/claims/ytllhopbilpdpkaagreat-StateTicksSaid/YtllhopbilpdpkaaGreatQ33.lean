/- Lemmas and contracts. Conditions: as each says. -/
import Derived.Test.YtllhopbilpdpkaaGreatQ31
import Derived.Test.YtllhopbilpdpkaaGreatQ32
set_option linter.unusedVariables false
set_option linter.unusedSimpArgs false
set_option maxHeartbeats 12800000
set_option maxRecDepth 20000
namespace Go.X
open Go.RowKit Go.Proofs Go.Bl Go.Proofs.Tryz
variable {L:Own} {h:PH} {K:PK}
structure RV where
 o:Value
 l:Value
 s:Value
 d:Value
abbrev rpC (r:Zi)(q:RV):List Value:=[.int .i64 r.ep,.int .i64 r.mode,.bool r.quo,.int .u64 r.pres,.int .u64 r.act,.int .u64 r.aB,.int .u64 r.aU,.int .u64 r.kept,.int .u64 r.aC,.int .u64 r.aV,q.o,q.l,q.s,q.d]
abbrev rpV (r:Zi)(q:RV):Value := .agg #[.int .i64 r.ep,.int .i64 r.mode,.bool r.quo,.int .u64 r.pres,.int .u64 r.act,.int .u64 r.aB,.int .u64 r.aU,.int .u64 r.kept,.int .u64 r.aC,.int .u64 r.aV,q.o,q.l,q.s,q.d]
abbrev tC (s:Zg)(v:SV)(r:Zi)(q:RV)(w:Int):List Value:=[.int .u64 s.par.inc,.int .u64 s.par.aF,.int .u64 s.par.floor,.int .u64 s.par.cap,.int .u64 s.par.up,.int .u64 s.par.down,.int .u64 s.par.aP,.int .u64 s.par.aQ,.int .u64 s.par.aO,.int .u64 s.par.aH,.int .u64 s.par.recover,.int .u64 s.par.aA,.int .u64 s.par.rate,.int .u64 s.par.aX,.int .i64 s.par.delay,.int .i64 s.par.ak,.int .i64 s.par.aS,.int .i64 s.par.aJ,.int .i64 s.par.aG,.int .i64 s.par.aK,.int .i64 s.par.wait,.int .i64 s.par.aW,.int .i64 s.par.aN,.int .i64 s.par.aI,.int .u64 s.most,.int .u64 s.gen,.int .u64 s.aB,.int .u64 s.aG,.int .u64 s.an,.int .i64 s.ep,.int .i64 s.calm,.bool s.aT,v.p,v.m,v.e,v.x,v.o,v.d,v.t,v.k,v.r,.int .i64 r.ep,.int .i64 r.mode,.bool r.quo,.int .u64 r.pres,.int .u64 r.act,.int .u64 r.aB,.int .u64 r.aU,.int .u64 r.kept,.int .u64 r.aC,.int .u64 r.aV,q.o,q.l,q.s,q.d,.int .i64 w]
abbrev tB (bb:Nat)(s:Zg)(v:SV)(r:Zi)(q:RV)(w:Int):Zn:=⟨bb,154,tC s v r q w,56⟩
abbrev tM (bm cm:Nat)(ms:List Zc):Zn:=⟨bm,74,ms.flatMap YD,cm*6⟩
abbrev tX (bx bb:Nat):Zn:=⟨bx,152,[.pointer (some ⟨bb,0,none⟩)],1⟩
theorem Zb.imp {P:Program}{f:FuncId}{args:List Value}{K K':PK}(hs:Zb P f args L h K)(hk:∀v L' h',K v L' h'->K' v L' h'):Zb P f args L h K' :=
 ⟨hs.1,fun W hg=>(hs.2 W hg).mono fun _ _ ⟨r,L',h',e,k,st⟩=>⟨r,L',h',e,hk _ _ _ k,st⟩⟩
theorem Zah {ms:List Zc}{j:Nat}(hj:j<ms.length):(∀(K:Value->Prop) (t:Zm K),VE (ms.flatMap YD) (j*6) K t=K (.int .u64 (gr ZQ ms j).bal))/\(∀(K:Value->Prop) (t:Zm K),VE (ms.flatMap YD) (j*6+1) K t=K (.int .u64 (gr ZQ ms j).eff)) /\
  (∀(K:Value->Prop) (t:Zm K),VE (ms.flatMap YD) (j*6+2) K t=K (.int .u64 (gr ZQ ms j).score))/\(∀(K:Value->Prop) (t:Zm K),VE (ms.flatMap YD) (j*6+3) K t=K (.int .i64 (gr ZQ ms j).ak)) /\
  (∀(K:Value->Prop) (t:Zm K),VE (ms.flatMap YD) (j*6+4) K t=K (.int .i64 (gr ZQ ms j).owner))/\(∀(K:Value->Prop) (t:Zm K),VE (ms.flatMap YD) (j*6+5) K t=K (.int .i64 (gr ZQ ms j).status)) :=
 ⟨fun K t=>Yu Z8 ZQ ms hj (m:=0) qh rfl K t,fun K t=>Yu Z8 ZQ ms hj qh rfl K t,fun K t=>Yu Z8 ZQ ms hj qh rfl K t,fun K t=>Yu Z8 ZQ ms hj qh rfl K t,fun K t=>Yu Z8 ZQ ms hj qh rfl K t,fun K t=>Yu Z8 ZQ ms hj qh rfl K t⟩
theorem Zbl {ms:List Zc}{n:Nat}(hn:ms.length=n):(ms.map fun a=>(YD a).length).sum=n*6:=by
 rw[<- List.length_flatMap,Z1 Z8,hn]
structure Td (h:PH)(v:SV)(s:Zg):Prop where
 p:Ints h .u64 v.p s.ag
 o:Zd UK 4 h v.o s.aj
 d:Zd Yh 3 h v.d s.ai
 t:∃q:List QM,Zd YQ 33 h v.t q/\q.map (fun x=>x.2.2)=s.ah/\YU h q
 k:Ints h .u8 v.k s.marks
 r:∃q,Zx h v.r q/\xsL q=s.ring
theorem Td.up {h h':PH}(le:PH.le h h'){v:SV}{s:Zg}(hs:Td h v s):Td h' v s:=by
 obtain⟨q,t1,t2,t3⟩:=hs.t;obtain⟨r,r1,r2⟩:=hs.r;exact⟨hs.p.up le,hs.o.up le,hs.d.up le,⟨q,t1.up le,t2,fun x hx=>(t3 x hx).up le⟩,hs.k.up le,⟨r,r1.up le,r2⟩⟩
theorem G8 {bb:Nat}{s:Zg}{v:SV}{r:Zi}{q:RV}{w:Int}(hk0:Ints h .u8 v.k s.marks)(i:Nat)(hi:i<=1000)(hk:K (.bool (Wm s.marks i)) (tB bb s v r q w::L) h) :
  Zb prog 206 [.pointer (some ⟨bb,0,none⟩),.int .i64 i] (tB bb s v r q w::L) h K:=by
 refine eH func206 fun ap nd=>?_;have hbb:h bb=noC:=ap.1;clear ap nd;refine xx ?_;refine Zhg _ i hk0 qf ?_;refine xx ?_;exact ZP hk
theorem UQ {bb:Nat}{s:Zg}{v:SV}{r:Zi}{q:RV}{w:Int}(hp:Ints h .u64 v.p s.ag)(hl:s.ag.length<=1000)(i:Int)(hi:0<=i/\i<s.ag.length)(a:Int)(ha:0<=a)(hr:at0 s.ag i.toNat+a<=4611686018427387904)
  (hk:∀h' r',PH.le h h'->Ints h' .u64 r' (s.ag.set i.toNat (at0 s.ag i.toNat+a))->K (.tuple #[]) (tB bb { s with ag:=s.ag.set i.toNat (at0 s.ag i.toNat+a) } { v with p:=r' } r q w::L) h') :
  Zb prog 209 [.pointer (some ⟨bb,0,none⟩),.int .i64 i,.int .u64 a] (tB bb s v r q w::L) h K:=by
 obtain⟨j,rfl⟩:=Int.eq_ofNat_of_zero_le hi.1;rw[Int.toNat_natCast]at hr hk;refine eG func209 fun ap nd=>?_;have hbb:h bb=noC:=ap.1;clear ap nd;refine xx ?_;refine Zb.ap (Ynf _ hp hl j qf a ha hr fun h1 r1 le1 i1 ap=>?_);have hbb1:h1 bb=noC:=ap.1;clear ap;obtain⟨pa,pc,rfl,_⟩:=i1.open;refine xx ?_;rw[List.length_set]at i1;exact ZP (hk h1 _ le1 i1)
theorem Ydq {bb:Nat}{s:Zg}{v:SV}{r:Zi}{q:RV}{w:Int}(hd:Zd Yh 3 h v.d s.ai)(hdo:∀x∈s.ai,Zs x)(hl:s.ai.length<=32000)(au:Int)(hac:0<=au/\au<=63)(a:Int)(ha:0<=a)(hw:0<=w/\w<=1000)(hep:0<=s.ep/\s.ep<=1073741824)(hs:Y9 s.ai+a<=4611686018427387904)
  (hk:∀h' r',PH.le h h'->Zd Yh 3 h' r' (V3 s.ai ⟨au,min (s.ep+w) 2147483647,a⟩)->K (.tuple #[]) (tB bb { s with ai:=V3 s.ai ⟨au,min (s.ep+w) 2147483647,a⟩ } { v with d:=r' } r q w::L) h') :
  Zb prog 314 [.pointer (some ⟨bb,0,none⟩),.int .i64 au,.int .u64 a] (tB bb s v r q w::L) h K:=by
 refine eG func314 fun ap nd=>?_;have hbb:h bb=noC:=ap.1;clear ap nd;refine xx ?_;refine Z4 (.tk 0 (.tk 1 (.tk 2 (.tk 3 (.tk 5 (.tk 6 (.tk 7 (.tk 8 (.tk 9 (.tk 11 (.tk 12 (.tk 13 (.tk 17 (.tkl 4 (.tkl 10 (.tkl 14 (.tk 15 (.o1 16 (.tk 18 (.o1 19 (.tk 20 (.tk 21 (.tk 22 (.tk 23 (.tk 24 (.fin)))))) (.nil))) (.nil))))))))))))))))))) qg qg _ (Za.refl _ _) ?_;refine xx ?_;refine Zb.ap (Yli (d:=⟨au,min (s.ep+w) 2147483647,a⟩) _ hd hdo hl hac ⟨by show 0<=min (s.ep+w) 2147483647;omega,by show min (s.ep+w) 2147483647<=_;omega⟩ ha hs fun h1 r1 le1 i1 ap=>?_);have hbb1:h1 bb=noC:=ap.1;clear ap;obtain⟨ra,rc,rfl,_⟩:=i1.open
 first
 | refine xkp (Za.forget le1) ?_
 | skip
 refine xx ?_;exact ZP (hk h1 _ le1 i1)
theorem Zpj {bb bm cm:Nat}{s:Zg}{v:SV}{r:Zi}{q:RV}{w:Int}(hm:v.m = .slice (some ⟨bm,0,none⟩) s.ae.length cm)(hml:s.ae.length<=1000)(mo:∀x∈s.ae,Zf x)(hd:Zd Yh 3 h v.d s.ai)(hdo:∀x∈s.ai,Zs x)(hl:s.ai.length<=32000)(i:Nat)(hi:i<s.ae.length)(how:0<=(gr ZQ s.ae i).owner/\(gr ZQ s.ae i).owner<=63)(st:Int)(hw:0<=w/\w<=1000)(hep:0<=s.ep/\s.ep<=1073741824)(hs:Y9 s.ai+(gr ZQ s.ae i).bal<=4611686018427387904)
  (hk:∀h' r',PH.le h h'->Zd Yh 3 h' r' (V3 s.ai (VB (min (s.ep+w) 2147483647) (gr ZQ s.ae i)))->K (.tuple #[]) (tB bb { s with ae:=s.ae.set i (V5 (gr ZQ s.ae i) st),ai:=V3 s.ai (VB (min (s.ep+w) 2147483647) (gr ZQ s.ae i)) } { v with d:=r' } r q w::tM bm cm (s.ae.set i (V5 (gr ZQ s.ae i) st))::L) h') :
  Zb prog 215 [.pointer (some ⟨bb,0,none⟩),.int .i64 i,.int .i64 st] (tB bb s v r q w::tM bm cm s.ae::L) h K:=by
 have ub:=(mo _ (Yp (z:=ZQ) hi)).u (gr ZQ s.ae i).bal qj;refine eG func215 fun ap nd=>?_;have hbb:h bb=noC:=ap.1;have hbm:h bm=noC:=ap.2.1;have nmb:bm≠bb:=nd.1.1;clear ap nd;obtain⟨g0,g1,g2,g3,g4,g5⟩:=Zah hi;have hi6:=YC (w:=6) hi (show 5<6 from qh);have hsum:=Zbl (ms:=s.ae) rfl;refine lG ?_;refine Yab (gr ZQ s.ae i) st ?_;refine xx ?_;refine ZY fun b6 nb6 zb6=>?_;(try simp only[ZS]at nb6);have n6b:=nb6.1;have n6m:=nb6.2.1;clear nb6;refine xx ?_;refine Z4 (.tk 0 (.tk 1 (.tk 2 (.tk 3 (.tk 5 (.tkl 4 (.tkl 6 (.tk 7 (.o2 8 (.fin) (.nil)))))))))) qg qg _ (Za.refl _ _) ?_;refine xH ?_;refine⟨qf,?_⟩;have hset:((((((s.ae.flatMap YD).set (i*6) (Value.int .u64 (V5 (gr ZQ s.ae i) st).bal)).set (i*6+1) (.int .u64 (V5 (gr ZQ s.ae i) st).eff)).set (i*6+1+1) (.int .u64 (V5 (gr ZQ s.ae i) st).score)).set (i*6+1+1+1) (.int .i64 (V5 (gr ZQ s.ae i) st).ak)).set (i*6+1+1+1+1) (.int .i64 (V5 (gr ZQ s.ae i) st).owner)).set (i*6+1+1+1+1+1) (.int .i64 (V5 (gr ZQ s.ae i) st).status)=(s.ae.set i (V5 (gr ZQ s.ae i) st)).flatMap YD:=U0 Z8 s.ae hi (V5 (gr ZQ s.ae i) st);rw[hset]
 try simp -dsimp -implicitDefEqProofs (disch:=first|exact dD|fail) [go_sem]
 refine Zcz (Ydq (s:={ s with ae:=s.ae.set i (V5 (gr ZQ s.ae i) st) }) hd hdo hl _ how _ ub.1 hw hep hs fun h1 r1 le1 i1=>?_);refine xx ?_;exact⟨_,_,(Za.perm _ (List.Perm.swap _ _ _)).trans (Za.tail _ _ _),hk h1 r1 le1 i1⟩
abbrev tMo (om:Option (Nat×Nat))(ms:List Zc)(L:Own):Own:=oent 74 6 om (ms.flatMap YD) L
theorem Vx {γ:Type}{cl:Nat}{cap:List Value}{bb n:Nat}{om:Option (Nat×Nat)}{w:Int}(inv:Nat->γ->Prop)(S:γ->Zg)(V:γ->SV)(R:γ->Zi)(Q:γ->RV)(T:γ->Own)(H:γ->PH)(x0:γ)(hn:n<=1000)(okm:okO om n)
  (hi:∀k x,inv k x->(V x).m=ovs om n/\(S x).ae.length=n/\H x bb=noC/\apO om [] (H x)) (hne:apB om bb)
  (hrd:∀bm cm,om=some (bm,cm)->∀k x,k<n->inv k x->Uf (gr ZQ (S x).ae k)->Zb prog cl (.int .i64 k :: .pointer (some ⟨bm,k*6,none⟩)::cap) (tB bb (S x) (V x) (R x) (Q x) w::tM bm cm (S x).ae::T x) (H x) fun _ L' h'=>∃x',inv (k+1) x'/\Za L' h' (tB bb (S x') (V x') (R x') (Q x') w::tM bm cm (S x').ae::T x') (H x'))
  (hsk:∀k x,k<n->inv k x->¬Uf (gr ZQ (S x).ae k)->∃x',inv (k+1) x'/\Za (tB bb (S x) (V x) (R x) (Q x) w::tMo om (S x).ae (T x)) (H x) (tB bb (S x') (V x') (R x') (Q x') w::tMo om (S x').ae (T x')) (H x')) (h0:inv 0 x0)
  (hk:∀x,inv n x->K (.tuple #[]) (tB bb (S x) (V x) (R x) (Q x) w::tMo om (S x).ae (T x)) (H x)) :
  Zb prog 204 [.pointer (some ⟨bb,0,none⟩),.func (.func cl) #[] cap.toArray] (tB bb (S x0) (V x0) (R x0) (Q x0) w::tMo om (S x0).ae (T x0)) (H x0) K:=by
 obtain⟨m0,_,hb0,hm0⟩:=hi 0 x0 h0;obtain⟨ea,ec,em,_⟩:=Z5 okm;refine UW func204 rfl (rs:=[]) rfl rfl G7 qg rfl rfl ?_;simp -dsimp -implicitDefEqProofs (disch:=first|exact dD|fail) [go_sem,m0,em];refine Yi (γ:=Nat×γ) (0,x0) (fun y=>y.1<=n/\inv y.1 y.2) (fun y=>[(11,.int .i64 y.1),(10,.int .i64 n),(0,.pointer (some ⟨bb,0,none⟩)),(1,.func (.func cl) #[] cap.toArray)])
  (fun y=>tB bb (S y.2) (V y.2) (R y.2) (Q y.2) w::tMo om (S y.2).ae (T y.2)) (fun y=>H y.2) (fun y=>n-y.1) ?_ ?_ ?_ ?_
 ·exact⟨Nat.zero_le _,h0⟩
 ·simp [Ent,List.lookup,YT]
 ·exact Za.refl _ _
 rintro⟨k,x⟩ ⟨k1,k2⟩;simp only at k1 k2 ⊢;obtain⟨m1,l1,hb1,hm1⟩:=hi k x k2;by_cases c1:k<n
 ·have hkl:k<(S x).ae.length:=qf;obtain⟨g0,g1,g2,g3,g4,g5⟩:=Zah hkl;clear em;obtain⟨bm,cm,rfl⟩:∃bm cm,om=some (bm,cm):=by
   cases om with
   | none=>have:n=0:=okm;omega
   | some p=>exact⟨_,_,rfl⟩
  have hbm1:H x bm=noC:=hm1.2;have hne':bm≠bb:=hne;have m1':(V x).m = .slice (some ⟨bm,0,none⟩) n cm:=m1;simp only[tMo,Z7];simp -dsimp -implicitDefEqProofs (disch:=first|exact dD|fail) [go_sem,m1',g0,g1,g2,g3,g4,g5];refine JF (gr ZQ (S x).ae k) ?_;by_cases c2:Uf (gr ZQ (S x).ae k)
  ·rw[decide_eq_true c2];simp -dsimp -implicitDefEqProofs (disch:=first|exact dD|fail) [go_sem,m1'];refine Zb.imp (hrd bm cm rfl k x c1 k2 c2) fun v' L' h' ⟨x',i',d'⟩=>?_;refine xx ?_;exact⟨k+1,x',⟨qf,i'⟩,qf,qi,d'⟩
  ·rw[decide_eq_false c2];obtain⟨x',i',d'⟩:=hsk k x c1 k2 c2;refine xx ?_;exact⟨k+1,x',⟨qf,i'⟩,qf,qi,d'⟩
 ·obtain rfl:n=k:=qf;refine xx ?_;exact ZP (hk x k2)
theorem Zqf (x k:Int)(b:Nat)(hb:(⟨b,3,[.int .i64 k],1⟩:Zn)∈L)(hk:K (.bool (decide (x=k))) L h):Zb prog 311 [.int .i64 x,.pointer (some ⟨b,0,none⟩)] L h K:=by
 refine Zb.frame1 hb ?_ hk;refine Zb.entr fun ap _=>?_;have hn:h b=noC:=ap.1;refine ed func311 ?_;refine xx ?_;exact ZP ⟨rfl,rfl,rfl⟩
theorem Zzf {xs:List Int}(o:Option (Nat×Nat))(ho:okO o xs.length)(hl:xs.length<=1000)(k:Int)(b:Nat)(hb:(⟨b,3,[.int .i64 k],1⟩:Zn)∈L)
  (hyes:∀i:Nat,i<xs.length->at0 xs i=k->(∀j,j<i->at0 xs j≠k)->K (.int .i64 i) (oent 3 1 o (xs.map (.int .i64)) L) h)
  (hno:(∀j,j<xs.length->at0 xs j≠k)->K (.int .i64 (-1)) (oent 3 1 o (xs.map (.int .i64)) L) h) :
  Zb prog 364 [ovs o xs.length,.func (.func 311) #[] #[.pointer (some ⟨b,0,none⟩)]] (oent 3 1 o (xs.map (.int .i64)) L) h K:=by
 refine Zb.entr fun ap _=>?_;have ax:=Yk ap;have hb2:=VW (e:=3) (sz:=1) (o:=o) (cs:=xs.map (.int .i64)) hb;obtain⟨a,c,ea,_⟩:=Z5 ho;refine ed func364 ?_;refine xx ?_;rw[ea];refine xx ?_;rw[<- ea];refine Yi (γ:=Nat) 0 (fun j=>j<=xs.length/\∀i,i<j->at0 xs i≠k) (fun j=>[(8,.int .i64 j),(7,.int .i64 xs.length),(0,ovs o xs.length),(1,.func (.func 311) #[] #[.pointer (some ⟨b,0,none⟩)])]) (fun _=>oent 3 1 o (xs.map (.int .i64)) L) (fun _=>h) (fun j=>xs.length-j) ?_ ?_ ?_ ?_
 ·exact⟨Nat.zero_le _,fun i hi=>qf⟩
 ·simp [Ent,List.lookup,YT]
 ·exact Za.refl _ _
 rintro j ⟨j1,j2⟩;by_cases c1:j<xs.length
 ·obtain⟨bx,cap,rfl⟩:∃bx cap,o=some (bx,cap):=by
   cases o with
   | none=>have:xs.length=0:=ho;omega
   | some p=>exact⟨_,_,rfl⟩
  have hbx:h bx=noC:=ax.2;simp only[Yl,Z7,Nat.mul_one]at hb2 hyes ⊢;refine fJ ?_;refine Zqf (at0 xs j) k b hb2 ?_;by_cases c2:at0 xs j=k
  ·rw[decide_eq_true c2];refine xx ?_;exact ZP (hyes j c1 c2 j2)
  ·rw[decide_eq_false c2];refine xx ?_;refine⟨j+1,⟨qf,fun i hi=>?_⟩,qf,qi,Za.refl _ _⟩;by_cases e:i=j
   ·subst e;exact c2
   ·exact j2 i qf
 ·refine xx ?_;exact ZP (hno fun i hi=>j2 i qf)
theorem Zyk {xs:List Int}(o:Option (Nat×Nat))(ho:okO o xs.length)(hl:xs.length<=1000)(k:Int)(b:Nat)(hb:(⟨b,3,[.int .i64 k],1⟩:Zn)∈L)
  (hk:K (ovs o (flt xs k).length) (oent 3 1 o ((flt xs k).map (.int .i64)) L) h) :
  Zb prog 310 [ovs o xs.length,.func (.func 311) #[] #[.pointer (some ⟨b,0,none⟩)]] (oent 3 1 o (xs.map (.int .i64)) L) h K:=by
 refine Zb.entr fun ap _=>?_;have ax:=Yk ap;refine ed func310 ?_;refine xx ?_;refine Zzf o ho hl k b hb (fun i0 i1 i2 i3=>?_) (fun hn=>?_)
 ·obtain⟨bx,cap,rfl⟩:∃bx cap,o=some (bx,cap):=by
   cases o with
   | none=>have:xs.length=0:=ho;omega
   | some p=>exact⟨_,_,rfl⟩
  have hbx:h bx=noC:=ax.2;have hcap:xs.length<=cap:=ho.1;simp only[Yl,Z7,Nat.mul_one]at hk ⊢;refine xx ?_;refine Yi (γ:=Nat×Nat×List Int) (i0+1,i0,xs) (fun q=>q.2.1<q.1/\q.1<=xs.length/\q.2.2.length=xs.length/\q.2.2.take q.2.1=flt (xs.take q.1) k/\(flt (xs.take q.1) k).length=q.2.1/\∀m,q.1<=m->at0 q.2.2 m=at0 xs m)
   (fun q=>[(6,.int .i64 q.1),(5,.int .i64 q.2.1),(0,.slice (some ⟨bx,0,none⟩) xs.length cap),(1,.func (.func 311) #[] #[.pointer (some ⟨b,0,none⟩)])])
   (fun q=>⟨bx,3,q.2.2.map (.int .i64),cap⟩::L) (fun _=>h) (fun q=>xs.length-q.1) ?_ ?_ ?_ ?_
  ·have e1:=Zie (k:=k) i1;rw[if_neg (by simpa using i2),List.append_nil,Yac qf i3]at e1;exact⟨Nat.lt_succ_self i0,i1,rfl,e1.symm,by show (flt (xs.take (i0+1)) k).length=i0;rw[e1,List.length_take];omega,fun _ _=>rfl⟩
  ·simp [Ent,List.lookup,YT]
  ·exact Za.refl _ _
  rintro⟨j,i,cs⟩ ⟨j1,j2,j3,j4,j5,j6⟩;simp only at j1 j2 j3 j4 j5 j6 ⊢;by_cases c1:j<xs.length
  ·have hat:=j6 j (Nat.le_refl _);have hs:=Zie (k:=k) c1;refine fJ ?_;rw[hat];refine Zqf (at0 xs j) k b (List.mem_cons_of_mem _ hb) ?_;by_cases c2:at0 xs j=k
   ·rw[decide_eq_true c2];rw[if_neg ww,List.append_nil]at hs;refine xx ?_;exact⟨j+1,i,cs,⟨qf,qf,j3,by rw[hs];exact j4,by rw[hs];exact j5,fun m hm=>j6 m qf⟩,qf,qi,Za.refl _ _⟩
   ·rw[decide_eq_false c2];rw[if_pos c2]at hs;refine xx ?_;refine⟨qf,?_⟩;refine⟨j+1,i+1,cs.set i (at0 xs j),⟨qf,qf,by rw[List.length_set];exact j3,by rw[Zgy qf,j4,hs],by rw[hs,List.length_append,j5];rfl,fun m hm=>?_⟩,qf,qi,by rw[List.map_set];exact Za.refl _ _⟩;rw[Ybm _ _ qf];exact j6 m qf
  ·have hj:j=xs.length:=qf;subst hj;rw[List.take_length]at j4 j5;have hcut:Gk (some ⟨bx,0,none⟩) cap i 1=some ⟨bx,i,none⟩:=by
    unfold Gk;rw[if_neg qf];simp [Addr.add]
    try (intro e;exact e.symm)
   simp -dsimp -implicitDefEqProofs (disch:=first|exact dD|fail) [go_sem,Zaz int27,hcut];refine Yis qg V6 rfl qf ?_;refine xx ?_;refine⟨qf,?_⟩;have e2:(wr (cs.map (Value.int .i64)) i (List.replicate (xs.length-i) (Value.int .i64 0))).take i=(flt xs k).map (.int .i64):=by
    rw[J7 _ _ _ qF,List.append_assoc,List.take_append_of_le_length qF,List.take_take,Nat.min_self,<- List.map_take,j4]
   have e3:=GS bx 3 cap i (wr (cs.map (Value.int .i64)) i (List.replicate (xs.length-i) (Value.int .i64 0))) L h;rw[e2]at e3;rw[j5]at hk;exact⟨_,_,e3,hk⟩
 ·obtain⟨a,c,ea,_⟩:=Z5 ho;rw[Zpa hn]at hk;rw[ea];refine xx ?_;rw[<- ea];exact ZP hk
theorem Zgr {e sz e2 sz2:Nat}{o o2:Option (Nat×Nat)}{xs ys:List Value}(A:Own){L:Own}:(A++oent e sz o xs (oent e2 sz2 o2 ys L)).Perm (oent e2 sz2 o2 ys (A++oent e sz o xs L)) :=
 (List.Perm.append_left A (Yq o o2 xs ys L)).trans (Z6 A)
theorem two_perm3 {e sz e2 sz2:Nat}{o o2:Option (Nat×Nat)}{xs ys:List Value}{a b c:Zn}{L:Own}:(a::b::c::oent e sz o xs (oent e2 sz2 o2 ys L)).Perm (oent e2 sz2 o2 ys (a::b::c::oent e sz o xs L)):=Zgr [a,b,c]
theorem perm3 {a b c:Zn}{L:Own}:(c::a::b::L).Perm (a::b::c::L):=(List.perm_middle (l₁:=[a,b])).symm
theorem Yej {x y z:Zn}{e1 s1 e2 s2:Nat}{o1 o2:Option (Nat×Nat)}{X1 X2:List Value}(ap:Ap (x::y::oent e1 s1 o1 X1 (oent e2 s2 o2 X2 (z::L))) h)(nd:Nd (x::y::oent e1 s1 o1 X1 (oent e2 s2 o2 X2 (z::L)))) :
  h x.b=noC/\h y.b=noC/\h z.b=noC/\y.b≠x.b/\x.b≠z.b/\y.b≠z.b/\apB o1 z.b/\apB o2 z.b:=by
 have hz:z∈oent e1 s1 o1 X1 (oent e2 s2 o2 X2 (z::L)):=VW (VW List.mem_cons_self);refine⟨ap.1,ap.2.1,Ap.mem ap z (List.mem_cons_of_mem _ (List.mem_cons_of_mem _ hz)),nd.1.1,Ne.symm (GG nd.1.2 z hz),Ne.symm (GG nd.2.1 z hz),?_,?_⟩
 ·have n:=nd.2.2
  cases o1 with
  | none=>trivial
  | some p=>exact Ne.symm (GG n.1 z (VW List.mem_cons_self))
 ·have n:=nd.2.2
  cases o2 with
  | none=>trivial
  | some p2 =>
   cases o1 with
   | none=>exact Ne.symm n.1.1
   | some p=>exact Ne.symm n.2.1.1
abbrev Yjd (s:Zg)(w:Int)(i:Nat):Zg:={ s with exit:=flt s.exit i,ae:=s.ae.set i (V5 (gr ZQ s.ae i) 4),ai:=V3 s.ai (VB (min (s.ep+w) 2147483647) (gr ZQ s.ae i)) }
theorem Zpz {bb bm cm:Nat}{oo ox:Option (Nat×Nat)}{s:Zg}{v:SV}{r:Zi}{q:RV}{w:Int}(hm:v.m = .slice (some ⟨bm,0,none⟩) s.ae.length cm)(hml:s.ae.length<=900)(mo:∀x∈s.ae,Zf x)(hd:Zd Yh 3 h v.d s.ai)(hdo:∀x∈s.ai,Zs x)(hl:s.ai.length<=32000)(i:Nat)(hi:i<s.ae.length)(how:0<=(gr ZQ s.ae i).owner/\(gr ZQ s.ae i).owner<=63)(hw:0<=w/\w<=1000)(hep:0<=s.ep/\s.ep<=1073741824)(hs:Y9 s.ai+(gr ZQ s.ae i).bal<=4611686018427387904)
  (hx:v.x=ovs ox s.exit.length) (okx:okO ox s.exit.length) (hxl:s.exit.length<=900) (ho:q.o=ovs oo r.out.length) (oko:okO oo r.out.length) (hol:r.out.length<=900)
  (hk:∀h' r' oo',PH.le h h'->Zd Yh 3 h' r' (Yjd s w i).ai->okO oo' (r.out.length+1)->K (.tuple #[]) (tB bb (Yjd s w i) { v with d:=r',x:=ovs ox (flt s.exit i).length } { r with out:=r.out++[(i:Int)] } { q with o:=ovs oo' (r.out.length+1) } w::tM bm cm (Yjd s w i).ae::oent 3 1 oo' ((r.out++[(i:Int)]).map (.int .i64)) (oent 3 1 ox ((flt s.exit i).map (.int .i64)) L)) h') :
  Zb prog 213 [.pointer (some ⟨bb,0,none⟩),.int .i64 i] (tB bb s v r q w::tM bm cm s.ae::oent 3 1 oo (r.out.map (.int .i64)) (oent 3 1 ox (s.exit.map (.int .i64)) L)) h K:=by
 have hfk:=Znn s.exit i;refine eG func213 fun ap nd=>?_;have hbb:h bb=noC:=ap.1;have hbm:h bm=noC:=ap.2.1;have nmb:bm≠bb:=nd.1.1;clear ap nd;refine xx ?_;refine ZY fun b3 nb3 zb3=>?_;(try simp only[ZS]at nb3);have n3b:=nb3.1;have n3m:=nb3.2.1;clear nb3;simp -dsimp -implicitDefEqProofs (disch:=first|exact dD|fail) [go_sem,hx];refine Zb.fin (Zb.weaken (Za.perm h two_perm3) (Zyk ox okx qf i b3 List.mem_cons_self ⟨_,_,Za.perm h two_perm3.symm,?_⟩));obtain⟨ys,hys⟩:∃ys,ys=flt s.exit i:=⟨_,rfl⟩
 simp only[Yjd,<- hys]at hk hfk ⊢
 try simp only[List.cons_append,List.nil_append]
 refine xx ?_;refine Zb.fin (Zb.weaken (Za.perm h perm3) (Zb.ap (Zpj (s:={ s with exit:=ys }) (v:={ v with x:=ovs ox ys.length }) hm (by show s.ae.length<=_;omega) mo hd hdo hl i hi how 4 hw hep hs fun h1 r1 le1 i1 ap=>⟨_,_,Za.perm _ perm3.symm,?_⟩)));have hbb1:h1 bb=noC:=ap.1;have hbm1:h1 bm=noC:=ap.2.1;have hb31:h1 b3=noC:=ap.2.2.1;clear ap
 try simp only[List.cons_append,List.nil_append]
 refine xx ?_;refine Z4 (.tk 0 (.tk 1 (.tk 2 (.tk 3 (.tk 4 (.tkl 5 (.tkl 6 (.o1 7 (.o1 8 (.tk 9 (.tk 10 (.tk 11 (.o2 12 (.fin) (.nil))))) (.nil)) (.nil))))))))) qg qg [_,_,_] (drop_left [_,_,_] _ _) ?_;refine lH ?_;refine ZY fun b7 nb7 zb7=>?_;(try simp only[ZS]at nb7);have n7b:=nb7.2.1;have n73:=nb7.1;clear nb7
 first
 | refine xkp ((Za.tail _ _ _).trans (drop_left [_,_,_] _ _)) ?_
 | skip
 refine lH ?_;refine ZZ (t:=27) (e:=3) (sz:=1) (bytes:=8) (z:=[.int .i64 0]) qg V6 rfl rfl rfl rfl qh [_,_,_,_] _ oo r.out.length (r.out.map (.int .i64)) oko qj (Src.own (b:=b7) (t:=3) (cap:=1) List.mem_cons_self) (m:=1) (news:=[.int .i64 i]) rfl (fun u hu=>qw) qm qf ?_;intro o' j1 j2 j3
 try simp only[List.cons_append,List.nil_append]
 first
 | refine xkp ((Za.tail _ _ _).trans (drop_left [_,_,_] _ _)) ?_
 | skip
 refine xx ?_;have:=hk h1 r1 o' le1 i1 j1;simp only[List.map_append,List.map_cons,List.map_nil]at this;exact ZO (ZO (ZP this))
theorem Yfu {bb bm cm bx:Nat}{oo ox:Option (Nat×Nat)}{s:Zg}{v:SV}{r:Zi}{q:RV}{w:Int}(hm:v.m = .slice (some ⟨bm,0,none⟩) s.ae.length cm)(hml:s.ae.length<=900)(mo:∀x∈s.ae,Zf x)(hd:Zd Yh 3 h v.d s.ai)(hdo:∀x∈s.ai,Zs x)(hl:s.ai.length<=32000)(i:Nat)(hi:i<s.ae.length)(how:0<=(gr ZQ s.ae i).owner/\(gr ZQ s.ae i).owner<=63)(hw:0<=w/\w<=1000)(hep:0<=s.ep/\s.ep<=1073741824)(hs:Y9 s.ai+(gr ZQ s.ae i).bal<=4611686018427387904)
  (hx:v.x=ovs ox s.exit.length) (okx:okO ox s.exit.length) (hxl:s.exit.length<=900) (ho:q.o=ovs oo r.out.length) (oko:okO oo r.out.length) (hol:r.out.length<=900)
  (hk:(gr ZQ s.ae i).bal<=s.par.floor->∀h' r' oo',PH.le h h'->Zd Yh 3 h' r' (Yjd s w i).ai->okO oo' (r.out.length+1)->K (.tuple #[]) (tB bb (Yjd s w i) { v with d:=r',x:=ovs ox (flt s.exit i).length } { r with out:=r.out++[(i:Int)] } { q with o:=ovs oo' (r.out.length+1) } w::tM bm cm (Yjd s w i).ae::oent 3 1 oo' ((r.out++[(i:Int)]).map (.int .i64)) (oent 3 1 ox ((flt s.exit i).map (.int .i64)) (tX bx bb::L))) h')
  (hno:¬(gr ZQ s.ae i).bal<=s.par.floor->K (.tuple #[]) (tB bb s v r q w::tM bm cm s.ae::oent 3 1 oo (r.out.map (.int .i64)) (oent 3 1 ox (s.exit.map (.int .i64)) (tX bx bb::L))) h) :
  Zb prog 212 [.int .i64 i,.pointer (some ⟨bm,i*6,none⟩),.pointer (some ⟨bx,0,none⟩)] (tB bb s v r q w::tM bm cm s.ae::oent 3 1 oo (r.out.map (.int .i64)) (oent 3 1 ox (s.exit.map (.int .i64)) (tX bx bb::L))) h K:=by
 refine eG func212 fun ap nd=>?_;obtain⟨hbb,hbm,hbx,nmb,nbx,nmx,pox,pxx⟩:=Yej ap nd;simp only at hbb hbm hbx nmb nbx nmx pox pxx;clear ap nd;obtain⟨g0,g1,g2,g3,g4,g5⟩:=Zah hi;refine xx ?_;refine WX qg rfl ?_;simp -dsimp -implicitDefEqProofs (disch:=first|exact dD|fail) [go_sem,g0,ZR pox,ZR pxx];by_cases c:(gr ZQ s.ae i).bal<=s.par.floor
 ·have hk:=hk c;simp -dsimp -implicitDefEqProofs (disch:=first|exact dD|fail) [go_sem,ZR pox,ZR pxx];refine Zpz hm hml mo hd hdo hl i hi how hw hep hs hx okx hxl ho oko hol fun h' r' oo' le' i' ok'=>?_;have hk:=hk h' r' oo' le' i' ok';simp only[List.map_append,List.map_cons,List.map_nil]at hk;refine xx ?_;exact ZP hk
 ·have hno:=hno c;refine xx ?_;exact ZP hno
structure EjG where
 k:Nat
 h:PH
 d:Value
 o:Option (Nat×Nat)
theorem Zmo {q:Ze}{cs:List Zc}{xs:List Int}{k:Nat}:exN q cs xs (k+1)=if ejP q (gr ZQ cs k) then flt (exN q cs xs k) k else exN q cs xs k:=rfl
theorem Zpu {s:Zg}{t:Int}{k:Nat}(hk:k<s.ae.length)(c4:¬ejP s.par (gr ZQ s.ae k)):ejS s t (k+1)=ejS s t k:=by
 have u1:upN (ejF s.par) s.ae (k+1)=upN (ejF s.par) s.ae k:=Zrh _ _ qf (if_neg c4);have u2:duN s.par s.ae t s.ai (k+1)=duN s.par s.ae t s.ai k:=by rw[duN,if_neg c4]
 have u3:exN s.par s.ae s.exit (k+1)=exN s.par s.ae s.exit k:=by rw[Zmo,if_neg c4]
 simp only[ejS,u1,u2,u3]
theorem Zqu {s:Zg}{r:Zi}{k:Nat}(c4:¬ejP s.par (gr ZQ s.ae k)):ejR s r (k+1)=ejR s r k:=by
 unfold ejR;rw[ouN,if_neg c4]
theorem V9 {e sz:Nat}{o:Option (Nat×Nat)}(xs:List Value){X Y:Own}(hp:X.Sublist Y):(oent e sz o xs X).Sublist (oent e sz o xs Y):=by
 cases o with
 | none=>exact hp
 | some p=>exact hp.cons_cons _
theorem Zfq {bb D:Nat}{om oo ox:Option (Nat×Nat)}{s:Zg}{v:SV}{r:Zi}{q:RV}{w:Int}(ti:Zq s D)(hD:D<=30000)(hd:Zd Yh 3 h v.d s.ai)(hm:v.m=ovs om s.ae.length)(okm:okO om s.ae.length)(hw:0<=w/\w<=1000)
  (hx:v.x=ovs ox s.exit.length) (okx:okO ox s.exit.length) (ho:q.o=ovs oo r.out.length) (oko:okO oo r.out.length) (hol:r.out.length<=700)
  (hk:∀h' d' oo',PH.le h h'->Zd Yh 3 h' d' (ejS s (min (s.ep+w) 2147483647) s.ae.length).ai->okO oo' (ejR s r s.ae.length).out.length->K (.tuple #[]) (tB bb (ejS s (min (s.ep+w) 2147483647) s.ae.length) { v with d:=d',x:=ovs ox (ejS s (min (s.ep+w) 2147483647) s.ae.length).exit.length } (ejR s r s.ae.length) { q with o:=ovs oo' (ejR s r s.ae.length).out.length } w::tMo om (ejS s (min (s.ep+w) 2147483647) s.ae.length).ae (oent 3 1 oo' ((ejR s r s.ae.length).out.map (.int .i64)) (oent 3 1 ox ((ejS s (min (s.ep+w) 2147483647) s.ae.length).exit.map (.int .i64)) L))) h') :
  Zb prog 86 [.pointer (some ⟨bb,0,none⟩)] (tB bb s v r q w::tMo om s.ae (oent 3 1 oo (r.out.map (.int .i64)) (oent 3 1 ox (s.exit.map (.int .i64)) L))) h K:=by
 have hep:=ti.ep;have ht:0<=min (s.ep+w) 2147483647/\min (s.ep+w) 2147483647<=2147483647:=qf;have hml:=ti.ml;have hxl:=WR ti.ex;have hdn:=ti.dn;obtain⟨b1,b2,b3,b4,b5,b6⟩:=ti.parts;have hsum:=ti.sum;obtain⟨t,hte⟩:∃t,t=min (s.ep+w) 2147483647:=⟨_,rfl⟩
 rw[<- hte]at hk ht;obtain⟨n,hn⟩:∃n,n=s.ae.length:=⟨_,rfl⟩
 rw[<- hn]at hk;have hej:=fun k (hk:k<=s.ae.length)=>Ydo (q:=s.par) (t:=t) ti.be ti.ex ti.dd ht qf k hk;have hll:=fun k=>Wp (ejF s.par) s.ae k;refine eG func86 fun ap nd=>?_;have hbb:h bb=noC:=ap.1;have hbm:apO om [] h:=Yk ap.2;have nmb:apB om bb:=Z3 nd.1;clear ap nd;refine xx ?_;refine ZY fun bx n_bx h_bx=>?_;(try simp only[ZS]at n_bx);have nxb:=n_bx.1;refine xx ?_;have eR:ejR s r 0=r:=by simp [ejR,ouN]
 have eV:({ v with d:=v.d,x:=ovs ox (ejS s t 0).exit.length }:SV)=v:=by rw[show (ejS s t 0).exit=s.exit from rfl,<- hx]
 have eQ:({ q with o:=ovs oo (ejR s r 0).out.length }:RV)=q:=by rw[eR,<- ho]
 refine Zb.weaken (L':=tB bb (ejS s t 0) { v with d:=v.d,x:=ovs ox (ejS s t 0).exit.length } (ejR s r 0) { q with o:=ovs oo (ejR s r 0).out.length } w::tMo om (ejS s t 0).ae (oent 3 1 oo ((ejR s r 0).out.map (.int .i64)) (oent 3 1 ox ((ejS s t 0).exit.map (.int .i64)) (tX bx bb::L)))) (Za.perm h ?_) ?_
 ·rw[eV,eQ,eR];exact(List.Perm.swap _ _ _).trans (List.Perm.cons _ (oent_perm.trans (Z2 om _ (oent_perm.trans (Z2 oo _ oent_perm)))))
 refine Vx (cl:=212) (cap:=[.pointer (some ⟨bx,0,none⟩)]) (n:=n) (γ:=EjG)
  (fun j x=>x.k=j/\j<=n/\PH.le h x.h/\Zd Yh 3 x.h x.d (ejS s t x.k).ai/\okO x.o (ejR s r x.k).out.length/\x.h bb=noC/\apO om [] x.h)
  (fun x=>ejS s t x.k) (fun x=>{ v with d:=x.d,x:=ovs ox (ejS s t x.k).exit.length }) (fun x=>ejR s r x.k) (fun x=>{ q with o:=ovs x.o (ejR s r x.k).out.length })
  (fun x=>oent 3 1 x.o ((ejR s r x.k).out.map (.int .i64)) (oent 3 1 ox ((ejS s t x.k).exit.map (.int .i64)) (tX bx bb::L))) (fun x=>x.h) ⟨0,h,v.d,oo⟩ qf wI ?_ nmb ?_ ?_ ?_ ?_
 ·rintro k x ⟨rfl,e2,e3,e4,e5,e6,e7⟩;exact⟨by rw[hn];exact hm,by rw[hn];exact hll _,e6,e7⟩
 ·rintro bm cm rfl k ⟨k,h1,d1,o1⟩ c1 ⟨rfl,e2,e3,e4,e5,e6,e7⟩ c2;simp only at c1 e2 e3 e4 e5 e6 e7 c2 ⊢;have eo:=hej k qf;have hlk:=hll k;have hat:=JZ (ejF s.par) s.ae (k:=k) qf;have hbe:Zz (upN (ejF s.par) s.ae k) s.ag:=ti.be.upN (fun m hm=>⟨Zpf hm,Ydu _ m⟩) qf;have hbl:=hbe.bl (i:=k) qf;have how:=(hbe.at (i:=k) qf).2;have hpl:=ti.pl;have how2:0<=(gr ZQ (upN (ejF s.par) s.ae k) k).owner/\(gr ZQ (upN (ejF s.par) s.ae k) k).owner<=63:=qf;have hep2:0<=s.ep/\s.ep<=1073741824:=qf;have eot:=eo.t;have eon:=eo.n;have hexl:=Zdd s.par s.ae s.exit k;have houl:=Gg s.par s.ae k;have hrl:(ejR s r k).out.length=r.out.length+(ouN s.par s.ae k).length:=List.length_append;have c2':Uf (gr ZQ s.ae k):=by rw[<- hat];exact c2
  refine Zb.apn (Yfu (s:=ejS s t k) (v:={ v with d:=d1,x:=ovs ox (ejS s t k).exit.length }) (r:=ejR s r k) (q:={ q with o:=ovs o1 (ejR s r k).out.length }) (oo:=o1) (ox:=ox) (by show v.m=_;rw[hm];show Value.slice _ s.ae.length cm = .slice _ (upN (ejF s.par) s.ae k).length cm;rw[hlk]) (by show (upN (ejF s.par) s.ae k).length<=900;omega) hbe.m e4 (fun x hx=>(eo.d x hx).1) (by show (duN s.par s.ae t s.ai k).length<=32000;omega) k (by show k<(upN (ejF s.par) s.ae k).length;omega) how2 hw hep2 (by show Y9 (duN s.par s.ae t s.ai k)+(gr ZQ (upN (ejF s.par) s.ae k) k).bal<=_;omega) rfl (Zkn okx hexl) (by show (exN s.par s.ae s.exit k).length<=900;omega) rfl e5 (by rw[hrl];omega) (fun c3 h2 d2 o2 le2 i2 ok2 ap nd=>?_) (fun c3 ap nd=>?_))
  ·have c4:ejP s.par (gr ZQ s.ae k):=⟨c2',by rw[<- hat];exact c3⟩
   have s1:ejS s t (k+1)=Yjd (ejS s t k) w k:=by
    have u1:upN (ejF s.par) s.ae (k+1)=(upN (ejF s.par) s.ae k).set k (V5 (gr ZQ (upN (ejF s.par) s.ae k) k) 4):=by
     rw[upN,hat,ejF,if_pos c4];rfl
    have u2:duN s.par s.ae t s.ai (k+1)=V3 (duN s.par s.ae t s.ai k) (VB t (gr ZQ (upN (ejF s.par) s.ae k) k)):=by rw[duN,if_pos c4,hat]
    have u3:exN s.par s.ae s.exit (k+1)=flt (exN s.par s.ae s.exit k) k:=by rw[Zmo,if_pos c4]
    show ({ s with ae:=upN (ejF s.par) s.ae (k+1),ai:=duN s.par s.ae t s.ai (k+1),exit:=exN s.par s.ae s.exit (k+1) }:Zg)={ s with ae:=(upN (ejF s.par) s.ae k).set k (V5 (gr ZQ (upN (ejF s.par) s.ae k) k) 4),ai:=V3 (duN s.par s.ae t s.ai k) (VB (min (s.ep+w) 2147483647) (gr ZQ (upN (ejF s.par) s.ae k) k)),exit:=flt (exN s.par s.ae s.exit k) k };rw[u1,u2,u3,<- hte]
   have s2:(ejR s r (k+1)).out=(ejR s r k).out++[(k:Int)]:=by
    show r.out++ouN s.par s.ae (k+1)=r.out++ouN s.par s.ae k++[(k:Int)];rw[ouN,if_pos c4,List.append_assoc]
   have s3:(ejR s r (k+1)).out.length=(ejR s r k).out.length+1:=by rw[s2,List.length_append];rfl
   have s4:ejR s r (k+1)={ ejR s r k with out:=(ejR s r k).out++[(k:Int)] }:=by rw[<- s2];rfl
   refine⟨⟨k+1,h2,d2,o2⟩,⟨rfl,qf,e3.trans le2,by rw[s1];exact i2,by rw[s3];exact ok2,ap.1,trivial,ap.2.1⟩,?_⟩;simp only;rw[s1,s3,s4];exact Za.refl _ _
  ·have c4:¬ejP s.par (gr ZQ s.ae k):=fun c=>c3 (by show (gr ZQ (upN (ejF s.par) s.ae k) k).bal<=_;rw[hat];exact c.2);have s1:ejS s t (k+1)=ejS s t k:=Zpu qf c4;have s4:ejR s r (k+1)=ejR s r k:=Zqu c4;refine⟨⟨k+1,h1,d1,o1⟩,⟨rfl,qf,e3,wo,by rw[s4];exact e5,e6,e7⟩,?_⟩;simp only;rw[s1,s4];exact Za.refl _ _
 ·rintro k ⟨k,h1,d1,o1⟩ c1 ⟨rfl,e2,e3,e4,e5,e6,e7⟩ c2;simp only at c1 e2 e3 e4 e5 e6 e7 c2 ⊢;have hat:=JZ (ejF s.par) s.ae (k:=k) qf;have c4:¬ejP s.par (gr ZQ s.ae k):=fun c=>c2 (by show Uf (gr ZQ (upN (ejF s.par) s.ae k) k);rw[hat];exact c.1);have s1:ejS s t (k+1)=ejS s t k:=Zpu qf c4;have s4:ejR s r (k+1)=ejR s r k:=Zqu c4;refine⟨⟨k+1,h1,d1,o1⟩,⟨rfl,qf,e3,wo,by rw[s4];exact e5,e6,e7⟩,?_⟩;simp only;rw[s1,s4];exact Za.refl _ _
 ·exact⟨rfl,Nat.zero_le _,PH.le_refl _,hd,by simpa [ejR,ouN] using oko,hbb,hbm⟩
 ·rintro⟨k,h1,d1,o1⟩ ⟨e1,e2,e3,e4,e5,e6,e7⟩;simp only at e1 e2 e3 e4 e5 e6 e7 ⊢;subst e1;refine xx ?_;exact⟨_,_,Za.sub (.cons_cons _ (V9 _ (V9 _ (V9 _ (List.sublist_cons_self _ _))))),hk h1 d1 o1 e3 e4 e5⟩
theorem Zev {ms:List Zc}{i:Nat}(hi:i<ms.length)(m:Zc)(ho:m.owner=(gr ZQ ms i).owner)(hs:m.status=(gr ZQ ms i).status) :
  ((((ms.flatMap YD).set (i*6) (.int .u64 m.bal)).set (i*6+1) (.int .u64 m.eff)).set (i*6+1+1) (.int .u64 m.score)).set (i*6+1+1+1) (.int .i64 m.ak)=(ms.set i m).flatMap YD:=by
 have h1:=fset4 hi (gr ZQ ms i) m ho hs;have e:ms.set i (gr ZQ ms i)=ms:=by rw[Ye hi,List.set_getElem_self]
 rw[e]at h1;exact h1
theorem perm2o {e sz:Nat}{o:Option (Nat×Nat)}{xs:List Value}{a b:Zn}{L:Own}:(a::b::oent e sz o xs L).Perm (oent e sz o xs (a::b::L)):=Z6 [a,b]
theorem perm2m {e sz:Nat}{o:Option (Nat×Nat)}{xs:List Value}{a b:Zn}{L:Own}:(a::b::oent e sz o xs L).Perm (b::oent e sz o xs (a::L)):=(List.Perm.swap _ _ _).trans (List.Perm.cons _ oent_perm)
theorem Ykg {e sz:Nat}{o:Option (Nat×Nat)}{xs:List Value}{x y:Zn}(hx:apB o x.b)(hy:apB o y.b)(nd:Nd (oent e sz o xs L))(ha:apO o [] h):apO o (x::y::L) h:=by
 cases o with
 | none=>trivial
 | some p=>exact⟨⟨Ne.symm hx,Ne.symm hy,nd.1⟩,ha.2⟩
theorem Zhu {x y z:Zn}(ap:Ap (x::y::z::L) h)(nd:Nd (x::y::z::L)):h x.b=noC/\h y.b=noC/\h z.b=noC/\y.b≠x.b/\x.b≠z.b/\y.b≠z.b :=
 ⟨ap.1,ap.2.1,ap.2.2.1,nd.1.1,Ne.symm nd.1.2.1,Ne.symm nd.2.1.1⟩
theorem Ycw {bb bm cm bx:Nat}{s:Zg}{v:SV}{r:Zi}{q:RV}{w:Int}(ok:Zj s.par)(hr:Yo s.par=true)(hk0:Ints h .u8 v.k s.marks)(mo:∀x∈s.ae,Zf x)(i:Nat)(hi:i<s.ae.length)(hml:s.ae.length<=900)
  (hk:K (.tuple #[]) (tB bb { s with ae:=s.ae.set i (W8 s.par (gr ZQ s.ae i) (Wm s.marks i) r.mode) } v r q w::tM bm cm (s.ae.set i (W8 s.par (gr ZQ s.ae i) (Wm s.marks i) r.mode))::tX bx bb::L) h) :
  Zb prog 205 [.int .i64 i,.pointer (some ⟨bm,i*6,none⟩),.pointer (some ⟨bx,0,none⟩)] (tB bb s v r q w::tM bm cm s.ae::tX bx bb::L) h K:=by
 refine eG func205 fun ap nd=>?_;obtain⟨hbb,hbm,hbx,nmb,nbx,nmx⟩:=Zhu ap nd;simp only at hbb hbm hbx nmb nbx nmx;clear ap nd;obtain⟨g0,g1,g2,g3,g4,g5⟩:=Zah hi;have hi6:=YC (w:=6) hi (show 3<6 from qh);have hsum:=Zbl (ms:=s.ae) rfl;refine Z4 (.tk 0 (.tk 6 (.tk 7 (.tk 8 (.tk 11 (.tkl 1 (.tk 2 (.tk 3 (.tk 4 (.tkl 5 (.tkl 9 (.tkl 10 (.tkl 13 (.tk 14 (.tk 15 (.tk 16 (.tkl 17 (.o1 12 (.o1 18 (.tk 19 (.tk 20 (.o2 21 (.fin) (.nil)))) (.nil)) (.nil))))))))))))))))))) qg qg _ (Za.refl _ _) ?_;refine lI ?_;refine G8 hk0 i qf ?_;refine xx ?_;refine Zuy s.par ok hr (gr ZQ s.ae i) (mo _ (Yp hi)) (Wm s.marks i) r.mode ?_;refine xx ?_;refine⟨qf,?_⟩;rw[Zev hi (W8 s.par (gr ZQ s.ae i) (Wm s.marks i) r.mode) (by unfold W8;split<;>rfl) (by unfold W8;split<;>rfl)];exact ZP hk
theorem Zum {bb D:Nat}{om:Option (Nat×Nat)}{s:Zg}{v:SV}{r:Zi}{q:RV}{w:Int}(ti:Zq s D)(hA:Vi s<=140737488355328)(hk0:Ints h .u8 v.k s.marks)(hm:v.m=ovs om s.ae.length)(okm:okO om s.ae.length)
    (hk:∀h',PH.le h h'->K (.tuple #[]) (tB bb (wgS s) v (wgR s r) q w::tMo om (wgS s).ae L) h') :
    Zb prog 83 [.pointer (some ⟨bb,0,none⟩)] (tB bb s v r q w::tMo om s.ae L) h K:=by
  obtain⟨vp,vm,ve,vx,vo,vd,vt,vk,vr⟩:=v;simp only at hm hk0 hk ⊢;subst hm;have hml:=ti.ml;have hpre:=Uj (ks:=s.marks) ti.be.m;obtain⟨a1,a2,a3,a4,a5,a6,a7⟩:=ti.ok.all;obtain⟨n,hn⟩:∃n,n=s.ae.length:=⟨_,rfl⟩
  refine eG func83 fun ap nd=>?_;have hbb:h bb=noC:=ap.1;have hbm:apO om [] h:=Yk ap.2;have nmb:apB om bb:=Z3 nd.1;have ndo:=nd.2;clear ap nd;refine xx ?_;refine ZY fun bx n_bx h_bx=>?_;(try simp only[ZS]at n_bx);have nbx:=n_bx.1;have nmx:apB om bx:=Z3 n_bx.2;refine xx ?_;have hapO:apO om (tX bx bb::tB bb s ⟨vp,ovs om s.ae.length,ve,vx,vo,vd,vt,vk,vr⟩ r q w::L) h:=Ykg nmx nmb ndo hbm;refine YN (.tkl 0 (.tkl 2 (.tk 3 (.tk 4 (.tk 5 (.tkl 6 (.tkl 7 (.tk 8 (.tk 9 (.tk 10 (.tkl 11 (.o1 1 (.o1 12 (.tk 13 (.tk 14 (.tk 15 (.tk 16 (.tk 17 (.tk 18 (.tk 19 (.o2 20 (.tk 21 (.tk 22 (.tk 23 (.o2 24 (.fin) (.nil))))) (.nil))))))))) (.nil)) (.o1 12 (.tk 13 (.tk 14 (.tk 15 (.tk 16 (.tk 17 (.tk 18 (.tk 19 (.o1 1 (.o2 20 (.tk 21 (.tk 22 (.tk 23 (.o2 24 (.fin) (.nil))))) (.nil)) (.o2 20 (.o1 1 (.tk 21 (.tk 22 (.tk 23 (.o2 24 (.fin) (.nil))))) (.nil)) (.nil)))))))))) (.nil)))))))))))))) qg qg [(1,.pointer (some ⟨bx,0,none⟩))] _ (γ:=PH) (fun h1=>PH.le h h1/\h1 bb=noC/\apO om [] h1/\h1 bx=noC) (fun _=>[(1,.pointer (some ⟨bx,0,none⟩))])
    (fun _=>tX bx bb::tB bb s ⟨vp,ovs om s.ae.length,ve,vx,vo,vd,vt,vk,vr⟩ { r with pres:=Je s,act:=Vi s } q w::tMo om s.ae L) (fun h1=>h1) qx (Za.refl _ _) ?_ ?_
  · repeat' first
      | with_reducible refine Yf ?_ ?_
      | simp -dsimp -implicitDefEqProofs (disch:=first|exact dD|fail) [go_sem]
      | (with_reducible show WW prog 137 _ _ _ _
         refine Zb.fin (Zb.weaken (Za.perm h perm2o) (Zb.ap (Zje (l:=s.ae) (ks:=s.marks) om okm hapO _ ti.be.m hk0 qf (by show Vi s<=_;omega) fun h1 le1 ap=>⟨_,_,Za.perm _ perm2o.symm,?_⟩)));have hbm1:apO om [] h1:=Yk ap;have hbx1:h1 bx=noC:=(Ap.oent ap).1;have hbb1:h1 bb=noC:=(Ap.oent ap).2.1
         clear ap)
      | with_reducible refine xkp (Za.forget le1) ?_
    all_goals exact⟨h1,⟨le1,hbb1,hbm1,hbx1⟩,qi,Za.refl _ _⟩
  rintro h1 ⟨le1,hbb1,hbm1,hbx1⟩
  try simp only
  refine xx ?_;refine YN (.tkl 0 (.tkl 2 (.tk 3 (.tk 4 (.tk 5 (.tkl 6 (.tkl 7 (.tk 8 (.tk 9 (.tk 10 (.tkl 11 (.tkl 12 (.tk 13 (.tk 14 (.tk 15 (.tkl 16 (.tkl 17 (.tk 18 (.tk 19 (.tk 20 (.tkl 21 (.o1 1 (.o1 22 (.tk 23 (.tk 24 (.tk 25 (.tk 26 (.tk 27 (.tk 28 (.o2 29 (.tk 30 (.tk 31 (.tk 32 (.o2 33 (.fin) (.nil))))) (.nil)))))))) (.nil)) (.o1 22 (.tk 23 (.tk 24 (.tk 25 (.tk 26 (.tk 27 (.tk 28 (.o1 1 (.o2 29 (.tk 30 (.tk 31 (.tk 32 (.o2 33 (.fin) (.nil))))) (.nil)) (.o2 29 (.o1 1 (.tk 30 (.tk 31 (.tk 32 (.o2 33 (.fin) (.nil))))) (.nil)) (.nil))))))))) (.nil)))))))))))))))))))))))) qg qg [(1,.pointer (some ⟨bx,0,none⟩))] _ (γ:=Unit) (fun _=>True) (fun _=>[(1,.pointer (some ⟨bx,0,none⟩))])
    (fun _=>tX bx bb::tB bb { s with calm:=(Vo s.calm (Je s) (Vi s)).1 } ⟨vp,ovs om s.ae.length,ve,vx,vo,vd,vt,vk,vr⟩ { r with pres:=Je s,act:=Vi s,quo:=(Vo s.calm (Je s) (Vi s)).2 } q w::tMo om s.ae L) (fun _=>h1) qx (Za.refl _ _) ?_ ?_
  · repeat' first
      | with_reducible refine Yf ?_ ?_
      | simp -dsimp -implicitDefEqProofs (disch:=first|exact dD|fail) [go_sem]
      | (with_reducible show WW prog 193 _ _ _ _
         refine Zvs s.par s.calm (Je s) (Vi s) ⟨hpre.1,by have:Je s<=Vi s:=hpre.2;omega⟩ ⟨by have:0<=Je s/\Je s<=Vi s:=hpre;omega,qf⟩ a7 ?_)
      | with_reducible refine xkp (Za.refl _ _) ?_
    all_goals exact⟨qi,Za.refl _ _⟩
  rintro _ _;refine xx ?_;refine Z4 (.tkl 0 (.tkl 1 (.tk 2 (.tk 3 (.tk 4 (.tkl 5 (.tkl 6 (.tk 7 (.tk 8 (.tk 9 (.tkl 10 (.tkl 11 (.tk 12 (.tk 13 (.tk 14 (.tkl 15 (.o1 16 (.tk 17 (.tk 18 (.tk 19 (.o2 20 (.fin) (.nil))))) (.nil)))))))))))))))))) qg qg _ (Za.refl _ _) ?_;refine xx ?_;refine Ykw s.par (Vo s.calm (Je s) (Vi s)).1 s.aT ?_;refine xx ?_;refine Zb.weaken (Za.perm h1 perm2m) ?_;refine Vx (cl:=205) (cap:=[.pointer (some ⟨bx,0,none⟩)]) (n:=n) (γ:=Nat) (fun j x=>x=j/\j<=n) (fun k=>{ s with calm:=(Vo s.calm (Je s) (Vi s)).1,ae:=upI (wgF s.par s.marks (Vn s)) s.ae k }) (fun _=>⟨vp,ovs om s.ae.length,ve,vx,vo,vd,vt,vk,vr⟩) (fun _=>wgR s r) (fun _=>q) (fun _=>tX bx bb::L) (fun _=>h1) 0 qf wI ?_ nmb ?_ ?_ ?_ ?_
  · rintro k x ⟨rfl,e2⟩;exact⟨by rw[hn],by rw[hn];exact WY _ _ _,hbb1,hbm1⟩
  · rintro bm cm rfl k x c1 ⟨rfl,e2⟩ c2;have hat:=Jn (wgF s.par s.marks (Vn s)) s.ae (k:=x) qf;have c3:Uf (gr ZQ s.ae x):=by rw[<- hat];exact c2
    have hl:=WY (wgF s.par s.marks (Vn s)) s.ae x;refine Ycw (s:={ s with calm:=(Vo s.calm (Je s) (Vi s)).1,ae:=upI (wgF s.par s.marks (Vn s)) s.ae x }) ti.ok.p ti.r (hk0.up le1) (Zft Zf (fun k m hm=>Zvj ti.ok.p ti.r _ _ k hm) ti.be.m x qf) x (by show x<(upI (wgF s.par s.marks (Vn s)) s.ae x).length;omega) (by show (upI (wgF s.par s.marks (Vn s)) s.ae x).length<=900;omega) ⟨x+1,⟨rfl,qf⟩,?_⟩;have e:upI (wgF s.par s.marks (Vn s)) s.ae (x+1)=(upI (wgF s.par s.marks (Vn s)) s.ae x).set x (W8 s.par (gr ZQ (upI (wgF s.par s.marks (Vn s)) s.ae x) x) (Wm s.marks x) (Vn s)):=by
      rw[upI,hat,wgF,if_pos c3]
    rw[e];exact Za.refl _ _
  · rintro k x c1 ⟨rfl,e2⟩ c2;have hat:=Jn (wgF s.par s.marks (Vn s)) s.ae (k:=x) qf;have c3:¬Uf (gr ZQ s.ae x):=by rw[<- hat];exact c2
    refine⟨x+1,⟨rfl,qf⟩,?_⟩;have e:upI (wgF s.par s.marks (Vn s)) s.ae (x+1)=upI (wgF s.par s.marks (Vn s)) s.ae x:=Gx _ _ qf (if_neg c3);rw[e];exact Za.refl _ _
  · exact⟨rfl,Nat.zero_le _⟩
  · rintro k ⟨e1,e2⟩;subst e1;refine xx ?_;refine⟨_,_,Za.sub (.cons_cons _ (V9 _ (List.sublist_cons_self _ _))),?_⟩;subst hn;exact hk h1 le1
theorem Ygp {bb bm cm bx:Nat}{s:Zg}{v:SV}{r:Zi}{q:RV}{w:Int}(ok:Zj s.par)(hr:Yo s.par=true)(hk0:Ints h .u8 v.k s.marks)(mo:∀x∈s.ae,Zf x)(i:Nat)(hi:i<s.ae.length)(hml:s.ae.length<=900)
    (h1:0<=s.an/\s.an+YV s.par (gr ZQ s.ae i) r.mode<=18446744073709551615) (h2:0<=r.aC/\r.aC+YV s.par (gr ZQ s.ae i) r.mode<=18446744073709551615) (h3:0<=r.aV/\r.aV+YV s.par (gr ZQ s.ae i) r.mode<=18446744073709551615)
    (hk:Wm s.marks i=false->K (.tuple #[]) (tB bb { s with an:=s.an+YV s.par (gr ZQ s.ae i) r.mode,ae:=s.ae.set i (U4 s.par (gr ZQ s.ae i) r.mode) } v { r with aC:=r.aC+VR s.par (YV s.par (gr ZQ s.ae i) r.mode),aV:=r.aV+(YV s.par (gr ZQ s.ae i) r.mode-VR s.par (YV s.par (gr ZQ s.ae i) r.mode)) } q w::tM bm cm (s.ae.set i (U4 s.par (gr ZQ s.ae i) r.mode))::tX bx bb::L) h)
    (hno:Wm s.marks i=true->K (.tuple #[]) (tB bb s v r q w::tM bm cm s.ae::tX bx bb::L) h) :
    Zb prog 210 [.int .i64 i,.pointer (some ⟨bm,i*6,none⟩),.pointer (some ⟨bx,0,none⟩)] (tB bb s v r q w::tM bm cm s.ae::tX bx bb::L) h K:=by
  refine eG func210 fun ap nd=>?_;obtain⟨hbb,hbm,hbx,nmb,nbx,nmx⟩:=Zhu ap nd;simp only at hbb hbm hbx nmb nbx nmx;clear ap nd;obtain⟨g0,g1,g2,g3,g4,g5⟩:=Zah hi;have hi6:=YC (w:=6) hi (show 3<6 from qh);have hsum:=Zbl (ms:=s.ae) rfl;refine xx ?_;refine G8 hk0 i qf ?_
  cases c:Wm s.marks i with
  | true =>
    have hno:=hno c;refine xx ?_;exact ZP hno
  | false =>
  have hk:=hk c;clear hno;obtain⟨_,b1,b2,b3,b4⟩:=GV ok hr (mo _ (Yp (z:=ZQ) hi)) r.mode;have hst:=Zev hi (U4 s.par (gr ZQ s.ae i) r.mode) rfl rfl;refine xx ?_;refine YN (.tk 5 (.tk 6 (.tk 7 (.tkl 0 (.tk 1 (.tk 2 (.tk 3 (.tkl 4 (.tkl 8 (.tkl 9 (.tk 10 (.tk 11 (.tk 12 (.tkl 13 (.o1 14 (.tk 15 (.tk 16 (.tk 17 (.tk 18 (.o1 19 (.o2 20 (.tk 21 (.tk 22 (.fin))) (.nil)) (.nil)))))) (.o1 19 (.o1 14 (.tk 15 (.tk 16 (.tk 17 (.tk 18 (.o2 20 (.tk 21 (.tk 22 (.fin))) (.nil)))))) (.nil)) (.nil))))))))))))))))) qg qg [(0,.int .i64 i),(1,.pointer (some ⟨bm,i*6,none⟩)),(2,.pointer (some ⟨bx,0,none⟩))] _ (γ:=Nat) (fun b5=>bb≠b5/\bm≠b5/\bx≠b5/\h b5=noC)
    (fun b5=>[(1,.pointer (some ⟨bm,i*6,none⟩)),(2,.pointer (some ⟨bx,0,none⟩)),(5,.pointer (some ⟨b5,0,none⟩)),(6,.int .u64 (VR s.par (YV s.par (gr ZQ s.ae i) r.mode))),(7,.int .u64 (YV s.par (gr ZQ s.ae i) r.mode-VR s.par (YV s.par (gr ZQ s.ae i) r.mode)))])
    (fun b5=>⟨b5,72,sdC (U4 s.par (gr ZQ s.ae i) r.mode),4⟩::tB bb s v r q w::tM bm cm s.ae::tX bx bb::L) (fun _=>h) qx (Za.refl _ _) ?_ ?_
  · repeat' first
      | with_reducible refine Yf ?_ ?_
      | simp -dsimp -implicitDefEqProofs (disch:=first|exact dD|fail) [go_sem,g0,g1,g2,g3]
      | (with_reducible refine ZY fun b5 nb5 zb5 => ?_
         simp only[ZS]at nb5)
      | (with_reducible show WW prog 199 _ _ _ _
         refine Zxa s.par ok hr (gr ZQ s.ae i) (mo _ (Yp hi)) r.mode ?_)
      | with_reducible refine xkp (Za.refl _ _) ?_
      | with_reducible refine xkp (Za.tail _ _ _) ?_
    all_goals exact⟨b5,⟨nb5.1,nb5.2.1,nb5.2.2.1,zb5⟩,qi,Za.refl _ _⟩
  rintro b5 ⟨n1,n2,n3,h5⟩;have hm:(U4 s.par (gr ZQ s.ae i) r.mode).bal=(gr ZQ s.ae i).bal-YV s.par (gr ZQ s.ae i) r.mode/\(U4 s.par (gr ZQ s.ae i) r.mode).eff=(gr ZQ s.ae i).eff:=⟨rfl,rfl⟩
  generalize U4 s.par (gr ZQ s.ae i) r.mode=fm at *
  obtain⟨f,hf⟩:∃f,f=YV s.par (gr ZQ s.ae i) r.mode:=⟨_,rfl⟩
  rw[<- hf]at h1 h2 h3 b1 b2 b3 b4 hk ⊢;obtain⟨b,hb⟩:∃b,b=VR s.par f:=⟨_,rfl⟩
  rw[<- hb]at b3 b4 hk ⊢;have e1:s.an+(b+(f-b))=s.an+f:=qf;simp only[sdC];refine xx ?_;refine⟨qf,?_⟩;rw[hst,e1];exact ZO (ZP hk)
theorem Zxi {s:Zg}{r:Zi}{k:Nat}(hk:k<s.ae.length)(c:fnC s.marks k (gr ZQ s.ae k)) :
  UJ s r (k+1)={ UJ s r k with an:=(UJ s r k).an+YV s.par (gr ZQ s.ae k) r.mode,ae:=(UJ s r k).ae.set k (U4 s.par (gr ZQ (UJ s r k).ae k) r.mode) } /\
  fnR s r (k+1)={ fnR s r k with aC:=(fnR s r k).aC+VR s.par (YV s.par (gr ZQ s.ae k) r.mode),aV:=(fnR s r k).aV+(YV s.par (gr ZQ s.ae k) r.mode-VR s.par (YV s.par (gr ZQ s.ae k) r.mode)) }:=by
 have hat:=Jn (fnF s.par s.marks r.mode) s.ae hk;have u1:upI (fnF s.par s.marks r.mode) s.ae (k+1)=(upI (fnF s.par s.marks r.mode) s.ae k).set k (U4 s.par (gr ZQ (upI (fnF s.par s.marks r.mode) s.ae k) k) r.mode):=by
  rw[upI,hat,fnF,if_pos c]
 have u2:Zbb s r (k+1)=Zbb s r k+YV s.par (gr ZQ s.ae k) r.mode:=by rw[Zbb,fnT,if_pos c]
 have u3:Gl s r (k+1)=Gl s r k+VR s.par (YV s.par (gr ZQ s.ae k) r.mode):=by rw[Gl,fnU,if_pos c]
 constructor
 ·show ({ s with an:=s.an+Zbb s r (k+1),ae:=upI (fnF s.par s.marks r.mode) s.ae (k+1) }:Zg)={ s with an:=s.an+Zbb s r k+YV s.par (gr ZQ s.ae k) r.mode,ae:=(upI (fnF s.par s.marks r.mode) s.ae k).set k (U4 s.par (gr ZQ (upI (fnF s.par s.marks r.mode) s.ae k) k) r.mode) };rw[u1,u2,Int.add_assoc]
 ·show ({ r with aC:=r.aC+Gl s r (k+1),aV:=r.aV+(Zbb s r (k+1)-Gl s r (k+1)) }:Zi)={ r with aC:=r.aC+Gl s r k+VR s.par (YV s.par (gr ZQ s.ae k) r.mode),aV:=r.aV+(Zbb s r k-Gl s r k)+(YV s.par (gr ZQ s.ae k) r.mode-VR s.par (YV s.par (gr ZQ s.ae k) r.mode)) };rw[u2,u3]
  congr 1<;>omega
theorem Zrc {s:Zg}{r:Zi}{k:Nat}(hk:k<s.ae.length)(c:¬fnC s.marks k (gr ZQ s.ae k)):UJ s r (k+1)=UJ s r k/\fnR s r (k+1)=fnR s r k:=by
 have u1:upI (fnF s.par s.marks r.mode) s.ae (k+1)=upI (fnF s.par s.marks r.mode) s.ae k:=Gx _ _ hk (if_neg c);have u2:Zbb s r (k+1)=Zbb s r k:=by rw[Zbb,fnT,if_neg c]
 have u3:Gl s r (k+1)=Gl s r k:=by rw[Gl,fnU,if_neg c]
 unfold UJ fnR;rw[u1,u2,u3];exact⟨rfl,rfl⟩
theorem Zsm {bb D:Nat}{om:Option (Nat×Nat)}{s:Zg}{v:SV}{r:Zi}{q:RV}{w:Int}(ti:Zq s D)(hb0:r.aC=0)(hf0:r.aV=0)(hv:Yjy v)(hk0:Ints h .u8 v.k s.marks)(hm:v.m=ovs om s.ae.length)(okm:okO om s.ae.length)
    (hk:K (.tuple #[]) (tB bb (fnS s r) v (fnR s r s.ae.length) q w::tMo om (fnS s r).ae L) h) :
    Zb prog 85 [.pointer (some ⟨bb,0,none⟩)] (tB bb s v r q w::tMo om s.ae L) h K:=by
  have hml:=ti.ml;obtain⟨n,hn⟩:∃n,n=s.ae.length:=⟨_,rfl⟩
  obtain⟨p1,p2,p3,p4,p5,p6⟩:=ti.parts;have hsum:=ti.sum;have hgo:=Ypt ti hb0;have hen:=Zes ti r (Nat.le_refl s.ae.length);obtain⟨c1,c2,c3⟩:=Yjj ti r (Nat.le_refl s.ae.length);rw[<- hn]at hk hgo hen c1 c2 c3;refine eG func85 fun ap nd=>?_;have hbb:h bb=noC:=ap.1;have hbm:apO om [] h:=Yk ap.2;have nmb:apB om bb:=Z3 nd.1;clear ap nd;refine xx ?_;refine ZY fun bx n_bx h_bx=>?_;(try simp only[ZS]at n_bx);have nbx:=n_bx.1;have nmx:apB om bx:=Z3 n_bx.2;refine xx ?_;refine Zb.weaken (Za.perm h perm2m) ?_;have e0:UJ s r 0=s/\fnR s r 0=r:=by
    unfold UJ fnR;simp [fnT,fnU,upI]
  have key:∀K':PK,K' (.tuple #[]) (tB bb (UJ s r n) v (fnR s r n) q w::tMo om (UJ s r n).ae (tX bx bb::L)) h->Zb prog 204 [.pointer (some ⟨bb,0,none⟩),.func (.func 210) #[] #[.pointer (some ⟨bx,0,none⟩)]] (tB bb s v r q w::tMo om s.ae (tX bx bb::L)) h K':=by
    intro K' hK';have hcm:=Vx (K:=K') (cl:=210) (cap:=[.pointer (some ⟨bx,0,none⟩)]) (bb:=bb) (om:=om) (w:=w) (n:=n) (γ:=Nat) (fun j x=>x=j/\j<=n) (fun k=>UJ s r k) (fun _=>v) (fun k=>fnR s r k) (fun _=>q) (fun _=>tX bx bb::L) (fun _=>h) 0 qf wI ?_ nmb ?_ ?_ ?_ ?_
    · rw[e0.1,e0.2]at hcm;exact hcm
    · rintro k x ⟨rfl,e2⟩;exact⟨by rw[hn];exact hm,by rw[hn];exact WY _ _ _,hbb,hbm⟩
    · rintro bm cm rfl k x d1 ⟨rfl,e2⟩ d2;have hat:=Jn (fnF s.par s.marks r.mode) s.ae (k:=x) qf;have hat':gr ZQ (UJ s r x).ae x=gr ZQ s.ae x:=hat;have d3:Uf (gr ZQ s.ae x):=by rw[<- hat];exact d2
      have hl:(UJ s r x).ae.length=s.ae.length:=WY _ _ _;have tk:=Zes ti r (k:=x) qf;obtain⟨t1,t2,t3,t4,t5,t6⟩:=tk.parts;have ts:=tk.sum;have hbl:=tk.be.bl (i:=x) qf;rw[hat']at hbl;obtain⟨_,b1,b2,b3,b4⟩:=GV ti.ok.p ti.r (ti.be.m _ (Yp (z:=ZQ) (k:=x) qf)) r.mode;obtain⟨u1,u2,u3⟩:=Yjj ti r (k:=x) qf;have w1:0<=(UJ s r x).an/\(UJ s r x).an+YV s.par (gr ZQ s.ae x) r.mode<=18446744073709551615:=qf;have u4:Zbb s r x+tot ((UJ s r x).ae.map Zc.bal)=tot (s.ae.map Zc.bal):=u3;have w2:0<=(fnR s r x).aC/\(fnR s r x).aC+YV s.par (gr ZQ s.ae x) r.mode<=18446744073709551615:=by
        show 0<=r.aC+Gl s r x/\r.aC+Gl s r x+_<=_;omega
      have w3:0<=(fnR s r x).aV/\(fnR s r x).aV+YV s.par (gr ZQ s.ae x) r.mode<=18446744073709551615:=by
        show 0<=r.aV+(Zbb s r x-Gl s r x)/\r.aV+(Zbb s r x-Gl s r x)+_<=_;omega
      rw[<- hat']at w1 w2 w3;refine Ygp (s:=UJ s r x) (r:=fnR s r x) ti.ok.p ti.r hk0 tk.be.m x qf qf w1 w2 w3 (fun g=>?_) (fun g=>?_)
      · have cc:fnC s.marks x (gr ZQ s.ae x):=⟨d3,g⟩
        obtain⟨e1,e2'⟩:=Zxi (r:=r) (show x<s.ae.length from qf) cc;refine⟨x+1,⟨rfl,qf⟩,?_⟩;rw[e1,e2',<- hat'];exact Za.refl _ _
      · have cc : ¬ fnC s.marks x (gr ZQ s.ae x) := fun cc => by
          have:Wm s.marks x=false:=cc.2;have g':Wm s.marks x=true:=g;rw[this]at g';cases g'
        obtain⟨e1,e2'⟩:=Zrc (r:=r) (show x<s.ae.length from qf) cc;refine⟨x+1,⟨rfl,qf⟩,?_⟩;rw[e1,e2'];exact Za.refl _ _
    · rintro k x d1 ⟨rfl,e2⟩ d2;have hat:=Jn (fnF s.par s.marks r.mode) s.ae (k:=x) qf;have cc:¬fnC s.marks x (gr ZQ s.ae x):=fun cc=>d2 (by show Uf (gr ZQ (upI (fnF s.par s.marks r.mode) s.ae x) x);rw[hat];exact cc.1);obtain⟨e1,e2'⟩:=Zrc (r:=r) (show x<s.ae.length from qf) cc;refine⟨x+1,⟨rfl,qf⟩,?_⟩;rw[e1,e2'];exact Za.refl _ _
    · exact⟨rfl,Nat.zero_le _⟩
    · rintro k ⟨e1,e2⟩;subst e1;exact hK'
  refine Zb.fin (key _ ⟨_,_,Za.perm h perm2m.symm,?_⟩);obtain⟨S1,hS1⟩:∃S1,S1=UJ s r n:=⟨_,rfl⟩
  obtain⟨R1,hR1⟩:∃R1,R1=fnR s r n:=⟨_,rfl⟩
  have eS:fnS s r=Zmv S1 R1.aC:=by rw[hS1,hR1,hn];rfl
  have hrb:0<=R1.aC/\R1.aC<=18446744073709551615:=by
    rw[hR1];have c4:0<=tot ((UJ s r n).ae.map Zc.bal):=hen.be.bal;have c5:Zbb s r n+tot ((UJ s r n).ae.map Zc.bal)=tot (s.ae.map Zc.bal):=c3;show 0<=r.aC+Gl s r n/\r.aC+Gl s r n<=_;omega
  rw[eS,<- hR1]at hk;rw[<- hS1,<- hR1]at hgo;rw[<- hS1]at hen;rw[<- hS1,<- hR1];clear eS hS1 hR1 key e0 c1 c2 c3;have hv1:=hv;unfold Yjy at hv1;refine xx ?_;refine YN (.tkl 0 (.tk 1 (.tk 2 (.tkl 3 (.tkl 4 (.tk 5 (.tk 6 (.tk 7 (.tkl 8 (.o1 9 (.tk 10 (.tk 11 (.tk 12 (.o1 13 (.o2 14 (.tk 15 (.fin)) (.nil)) (.nil))))) (.o1 13 (.o1 9 (.tk 10 (.tk 11 (.tk 12 (.o2 14 (.tk 15 (.fin)) (.nil))))) (.nil)) (.nil)))))))))))) qg qg [(1,.pointer (some ⟨bx,0,none⟩))] _ (γ:=Nat) (fun b2=>bx≠b2/\bb≠b2/\h b2=noC)
    (fun b2=>[(1,.pointer (some ⟨bx,0,none⟩)),(2,.pointer (some ⟨b2,0,none⟩)),(3,.int .i64 0)])
    (fun b2=>⟨b2,34,stC (Zmv S1 R1.aC) v,41⟩::tX bx bb::tB bb S1 v R1 q w::tMo om S1.ae L) (fun _=>h) qx (Za.refl _ _) ?_ ?_
  · repeat' first
      | with_reducible refine Yf ?_ ?_
      | simp -dsimp -implicitDefEqProofs (disch:=first|exact dD|fail) [go_sem]
      | (with_reducible refine ZY fun b2 nb2 zb2 => ?_
         simp only[ZS]at nb2)
      | (with_reducible show WW prog 211 _ _ _ _
         refine Yag v hv hen.ok R1.aC hrb hgo ?_)
      | with_reducible refine xkp (Za.refl _ _) ?_
      | with_reducible refine xkp (Za.tail _ _ _) ?_
      | with_reducible refine⟨hv1,?_⟩
      | fail
    all_goals exact⟨b2,⟨nb2.1,nb2.2.1,zb2⟩,qi,Za.refl _ _⟩
  rintro b2 ⟨n1,n2,h2⟩;simp only[stC];refine xx ?_;refine⟨hv,?_⟩;exact ZO (ZO (ZP hk))
theorem Yep {bb bm cm bx:Nat}{s:Zg}{v:SV}{r:Zi}{q:RV}{w:Int}(ok:Zj s.par)(hr:Yo s.par=true)(mo:∀x∈s.ae,Zf x)(i:Nat)(hi:i<s.ae.length)(hml:s.ae.length<=900)
  (hk:K (.tuple #[]) (tB bb { s with ae:=s.ae.set i (Y5 s.par (gr ZQ s.ae i)) } v r q w::tM bm cm (s.ae.set i (Y5 s.par (gr ZQ s.ae i)))::tX bx bb::L) h) :
  Zb prog 225 [.int .i64 i,.pointer (some ⟨bm,i*6,none⟩),.pointer (some ⟨bx,0,none⟩)] (tB bb s v r q w::tM bm cm s.ae::tX bx bb::L) h K:=by
 obtain⟨m,hmk⟩:∃m,m=gr ZQ s.ae i:=⟨_,rfl⟩
 have hmo:Zf m:=mo m (by rw[hmk];exact Yp hi);have ub:=hmo.u m.bal qj;have ue:=hmo.u m.eff qj;rw[<- hmk]at hk;refine eG func225 fun ap nd=>?_;obtain⟨hbb,hbm,hbx,nmb,nbx,nmx⟩:=Zhu ap nd;simp only at hbb hbm hbx nmb nbx nmx;clear ap nd;obtain⟨g0,g1,g2,g3,g4,g5⟩:=Zah hi;rw[<- hmk]at g0 g1;have hi6:=YC (w:=6) hi (show 3<6 from qh);have hsum:=Zbl (ms:=s.ae) rfl;refine xx ?_;refine Z4 (.tk 0 (.tk 6 (.tk 7 (.tk 8 (.tk 9 (.tk 11 (.tk 12 (.tk 13 (.tk 14 (.tkl 1 (.tk 2 (.tk 3 (.tk 4 (.tkl 5 (.tkl 10 (.tkl 15 (.o1 16 (.tk 17 (.tk 18 (.tk 19 (.o2 20 (.fin) (.nil))))) (.nil)))))))))))))))))) qg qg _ (Za.refl _ _) ?_;simp -dsimp -implicitDefEqProofs (disch:=first|exact dD|fail) [go_sem,g0,g1];refine Zxg s.par ok hr m.eff m.bal ue ub ?_
 first
 | refine xkp (Za.refl _ _) ?_
 | skip
 refine xx ?_;obtain⟨n1,hn1⟩:∃n1,n1=UL s.par m.eff m.bal:=⟨_,rfl⟩
 have hw:=Ji (Ul hr) ok ub;have un:0<=n1/\n1<=18446744073709551615:=by
  rw[hn1];unfold UL;split
  ·exact hw
  ·exact ue
 obtain⟨m1,hm1⟩:∃m1:Zc,m1={ m with eff:=n1 }:=⟨_,rfl⟩
 have hset1:(s.ae.flatMap YD).set (i*6+1) (.int .u64 n1)=(s.ae.set i m1).flatMap YD:=Wj Z8 ZQ s.ae hi qh (by rw[<- hmk,hm1];rfl);rw[<- hn1,hset1];refine⟨qf,?_⟩;have hk1':i<(s.ae.set i m1).length:=by rw[List.length_set];exact hi
 have hg1:gr ZQ (s.ae.set i m1) i=m1:=by rw[Ye hk1',List.getElem_set_self]
 have e1:m1.bal=m.bal:=by rw[hm1]
 have r0:∀(K:Value->Prop) (t:Zm K),VE ((s.ae.set i m1).flatMap YD) (i*6) K t=K (.int .u64 m.bal):=fun K t=>Yu Z8 ZQ _ (m:=0) hk1' qh (by rw[hg1,<- e1];rfl) K t;have r1:∀(K:Value->Prop) (t:Zm K),VE ((s.ae.set i m1).flatMap YD) (i*6+1) K t=K (.int .u64 n1):=fun K t=>Yu Z8 ZQ _ (m:=1) hk1' qh (by rw[hg1,hm1];rfl) K t;refine WX qg rfl ?_;refine lJ ?_;refine VK _ (Ziu s.par ok n1 m.bal un ub ⟨rfl,rfl,rfl⟩) ?_;rw[hr,Bool.true_and]
 cases hgf:VJ s.par n1 m.bal with
 | true =>
  have es:Y5 s.par m=m1:=by rw[Y5,<- hn1,hgf,if_pos rfl,hm1]
  rw[es]at hk;refine lJ ?_;exact ZP hk
 | false =>
  have es:Y5 s.par m={ m with eff:=Wi s.par m.bal }:=by rw[Y5,<- hn1,hgf];rfl
  rw[es]at hk;refine lJ ?_;refine Z4 (.tk 0 (.tk 6 (.tk 7 (.tk 8 (.tk 9 (.tkl 1 (.tk 2 (.tk 3 (.tk 4 (.tkl 5 (.tkl 10 (.o1 11 (.tk 12 (.tk 13 (.tk 14 (.o2 15 (.fin) (.nil))))) (.nil))))))))))))) qg qg _ (Za.refl _ _) ?_;refine lJ ?_;refine G0 s.par ok m.bal ub ?_;rw[hr,if_pos rfl]
  first
  | refine xkp (Za.refl _ _) ?_
  | skip
  refine xx ?_;have hset2:((s.ae.set i m1).flatMap YD).set (i*6+1) (.int .u64 (Wi s.par m.bal))=(s.ae.set i { m with eff:=Wi s.par m.bal }).flatMap YD:=Ysz hi qh (by rw[hm1];rfl);have hsum2:(((s.ae.map fun a=>(YD a).length)).set i (YD m1).length).sum=s.ae.length*6:=by
   have:((s.ae.set i m1).map fun a=>(YD a).length).sum=(s.ae.set i m1).length*6:=by rw[<- List.length_flatMap,Z1 Z8]
   rwa [List.map_set,List.length_set]at this
  rw[hset2];exact⟨qf,ZP hk⟩
theorem Zms {s:Zg}{k:Nat}(hk:k<s.ae.length)(c:Uf (gr ZQ s.ae k)):WN s (k+1)={ WN s k with ae:=(WN s k).ae.set k (Y5 s.par (gr ZQ (WN s k).ae k)) }:=by
 have hat:=JZ (Gm s.par) s.ae hk;have u1:upN (Gm s.par) s.ae (k+1)=(upN (Gm s.par) s.ae k).set k (Y5 s.par (gr ZQ (upN (Gm s.par) s.ae k) k)):=by
  rw[upN,hat,Gm,if_pos c]
 show ({ s with ae:=upN (Gm s.par) s.ae (k+1) }:Zg)={ s with ae:=(upN (Gm s.par) s.ae k).set k (Y5 s.par (gr ZQ (upN (Gm s.par) s.ae k) k)) };rw[u1]
theorem Yig {s:Zg}{k:Nat}(hk:k<s.ae.length)(c:¬Uf (gr ZQ s.ae k)):WN s (k+1)=WN s k:=by
 unfold WN;rw[Zrh (Gm s.par) s.ae hk (show Gm s.par (gr ZQ s.ae k)=gr ZQ s.ae k from if_neg c)]
theorem Zcm {bb D:Nat}{om:Option (Nat×Nat)}{s:Zg}{v:SV}{r:Zi}{q:RV}{w:Int}(ti:Zq s D)(hk0:Ints h .u8 v.k s.marks)(hr0:∃ql,Zx h v.r ql/\xsL ql=s.ring)(hrl:s.ring.length<=1000)(hrb:∀b∈s.ring,b.length<=1000)(hml2:s.marks.length<=1000)(hm:v.m=ovs om s.ae.length)(okm:okO om s.ae.length)
  (hk:∀h' kv rv,PH.le h h'->Ints h' .u8 kv (List.replicate 16 0)->(∃ql,Zx h' rv ql/\xsL ql=GE s.ring s.marks)->K (.tuple #[]) (tB bb (seS s) { v with k:=kv,r:=rv } r q w::tMo om (seS s).ae L) h') :
  Zb prog 91 [.pointer (some ⟨bb,0,none⟩)] (tB bb s v r q w::tMo om s.ae L) h K:=by
 obtain⟨vp,vm,ve,vx,vo,vd,vt,vk,vr⟩:=v;simp only at hm hk0 hr0 hk ⊢;subst hm;have hml:=ti.ml;have hep:=ti.ep;obtain⟨n,hn⟩:∃n,n=s.ae.length:=⟨_,rfl⟩
 rw[<- hn]at hk ⊢;obtain⟨ql,q1,q2⟩:=hr0;have hql:ql.length=s.ring.length:=by rw[<- q2,Wu]
 refine eG func91 fun ap nd=>?_;have hbb:h bb=noC:=ap.1;have hbm:apO om [] h:=Yk ap.2;have nmb:apB om bb:=Z3 nd.1;clear ap nd;refine xx ?_;refine ZY fun bx n_bx h_bx=>?_;(try simp only[ZS]at n_bx);have nbx:=n_bx.1;have nmx:apB om bx:=Z3 n_bx.2;refine xx ?_;refine Zb.fin (Zb.weaken (Za.perm h perm2m) ?_);refine Vx (cl:=225) (cap:=[.pointer (some ⟨bx,0,none⟩)]) (bb:=bb) (om:=om) (w:=w) (n:=n) (γ:=Nat) (fun j x=>x=j/\j<=n) (fun k=>WN s k) (fun _=>⟨vp,ovs om n,ve,vx,vo,vd,vt,vk,vr⟩) (fun _=>r) (fun _=>q) (fun _=>tX bx bb::L) (fun _=>h) 0 qf wI ?_ nmb ?_ ?_ ?_ ?_
 ·rintro k x ⟨rfl,e2⟩;exact⟨rfl,by rw[hn];exact Wp _ _ _,hbb,hbm⟩
 ·rintro bm cm rfl k x d1 ⟨rfl,e2⟩ d2;have hat:=JZ (Gm s.par) s.ae (k:=x) qf;have d3:Uf (gr ZQ s.ae x):=by rw[<- hat];exact d2
  have hl:(WN s x).ae.length=s.ae.length:=Wp _ _ _;refine Yep (s:=WN s x) ti.ok.p ti.r (Zaw Zf (fun m hm=>Zaa ti.ok.p ti.r hm) ti.be.m x qf) x qf qf ⟨x+1,⟨rfl,qf⟩,?_⟩;rw[Zms qf d3];exact Za.refl _ _
 ·rintro k x d1 ⟨rfl,e2⟩ d2;have hat:=JZ (Gm s.par) s.ae (k:=x) qf;have d3:¬Uf (gr ZQ s.ae x):=fun d=>d2 (by show Uf (gr ZQ (upN (Gm s.par) s.ae x) x);rw[hat];exact d);refine⟨x+1,⟨rfl,qf⟩,?_⟩;rw[Yig qf d3];exact Za.refl _ _
 ·exact⟨rfl,Nat.zero_le _⟩
 rintro k ⟨e1,e2⟩;subst e1;refine⟨_,_,Za.perm h perm2m.symm,?_⟩;have eS:seS s={ WN s k with ring:=GE s.ring s.marks,marks:=List.replicate 16 0,ep:=s.ep+1 }:=by rw[hn];rfl
 rw[eS]at hk;obtain⟨S1,hS1⟩:∃S1,S1=(WN s k).ae:=⟨_,rfl⟩
 have eK:WN s k={ s with ae:=S1 }:=by rw[hS1];rfl
 rw[eK]at hk ⊢;simp only at hk ⊢;clear eS eK;refine xx ?_;refine Z4 (.tkl 0 (.tkl 1 (.tk 2 (.tk 3 (.tk 4 (.tkl 5 (.tkl 6 (.tk 7 (.tk 8 (.tk 9 (.tkl 10 (.o1 11 (.tk 12 (.tk 13 (.tk 14 (.o2 15 (.fin) (.nil))))) (.nil))))))))))))) qg qg _ (Za.refl _ _) ?_;refine xx ?_;refine Zb.ap (Yew (l:=ql) (marks:=s.marks) _ _ q1 hk0 qf (by rw[q2];exact hrb) hml2 fun h1 rv q3 le1 i1 j1 ap=>?_);have hbx1:h1 bx=noC:=ap.1;have hbb1:h1 bb=noC:=ap.2.1;clear ap;have i10:=i1;obtain⟨ra,rc,rfl,_⟩:=i1.open
 first
 | refine xkp (Za.forget le1) ?_
 | skip
 refine xx ?_;refine Z4 (.tkl 0 (.o1 1 (.tk 2 (.tk 3 (.tk 4 (.o2 5 (.fin) (.nil))))) (.nil))) qg qg _ (Za.refl _ _) ?_;refine xx ?_;refine Zb.ap (Zkf fun h2 kv le2 i2 ap=>?_);have hbx2:h2 bx=noC:=ap.1;have hbb2:h2 bb=noC:=ap.2.1;clear ap;have i20:=i2;obtain⟨ka,kc,rfl,_⟩:=i2.open
 first
 | refine xkp (Za.forget le2) ?_
 | skip
 refine xx ?_;rw[q2]at j1;exact ZO (ZP (hk h2 _ _ (le1.trans le2) i20 ⟨q3,i10.up le2,j1⟩))
theorem Zhl {P:Program}{m:Sem Value}(hx:Zii P m L h (fun v L' h'=>fin K v L' h') ⟨⟩):Zii P m L h K ⟨⟩:=fun W hg=>by
 obtain⟨r,L',h',W',hr,⟨L2,h2,hd,hk⟩,st⟩:=hx W hg;obtain⟨g,f⟩:=hd W' st.1
 exact⟨r,L2,h2,W',hr,hk,g,st.2.1,fun e he=>by
  obtain⟨e',he',hb⟩:=List.mem_map.1 (f e he)
  rw[<- hb];exact st.2.2 e' he'⟩
theorem two_perm6 {e sz e2 sz2:Nat}{o o2:Option (Nat×Nat)}{xs ys:List Value}{a b c d x y:Zn}{L:Own}:(a::b::c::d::x::y::oent e sz o xs (oent e2 sz2 o2 ys L)).Perm (oent e2 sz2 o2 ys (a::b::c::d::x::y::oent e sz o xs L)):=Zgr [a,b,c,d,x,y]
theorem two_perm7 {e sz e2 sz2:Nat}{o o2:Option (Nat×Nat)}{xs ys:List Value}{a b c d x y z:Zn}{L:Own}:(a::b::c::d::x::y::z::oent e sz o xs (oent e2 sz2 o2 ys L)).Perm (oent e2 sz2 o2 ys (a::b::c::d::x::y::z::oent e sz o xs L)):=Zgr [a,b,c,d,x,y,z]
abbrev whB (b5:Nat)(o:Option (Nat×Nat))(n:Nat):Zn:=⟨b5,27,[ovs o n],1⟩
abbrev Ydn (b6:Nat)(o:Option (Nat×Nat))(n:Nat):Zn:=⟨b6,149,[ovs o n],1⟩
theorem Ytx {a b c d e:Zn}{L:Own}{h:PH}:Za (a::b::c::d::e::L) h [a,b,c,d,e] h:=drop_left [a,b,c,d,e] L h
theorem Yhl {x a b c d e:Zn}{L:Own}{h:PH}:Za (x::a::b::c::d::e::L) h [a,b,c,d,e] h:=(Za.tail _ _ _).trans Ytx
theorem Yve {x y a b c d e:Zn}{L:Own}{h:PH}:Za (x::y::a::b::c::d::e::L) h [a,b,c,d,e] h:=(Za.tail _ _ _).trans Yhl
theorem Zmt (m:Zc):∀u∈sdC m,u.oneCell'=true:=fun u hu=>by
 simp only[sdC,List.mem_cons,List.not_mem_nil,or_false]at hu;rcases hu with rfl|rfl|rfl|rfl<;>rfl
theorem Ygf {bb bm cm bx b5 b6:Nat}{ow ol:Option (Nat×Nat)}{s:Zg}{v:SV}{r:Zi}{q:RV}{w:Int}{N:Nat}{W Z:List Value}(hk0:Ints h .u8 v.k s.marks)(i:Nat)(hi:i<s.ae.length)(hml:s.ae.length<=900)
    (hN:N<=900) (okw:okO ow N) (hW:W.length=N) (okl:okO ol N) (hZ:Z.length=N*4)
    (hk:Wm s.marks i=true->∀ow' ol',okO ow' (N+1)->okO ol' (N+1)->K (.tuple #[]) (tB bb s v r q w::tM bm cm s.ae::tX bx bb::whB b5 ow' (N+1)::Ydn b6 ol' (N+1)::oent 3 1 ow' (W++[.int .i64 i]) (oent 72 4 ol' (Z++sdC (gr ZQ s.ae i)) L)) h)
    (hno:Wm s.marks i=false->K (.tuple #[]) (tB bb s v r q w::tM bm cm s.ae::tX bx bb::whB b5 ow N::Ydn b6 ol N::oent 3 1 ow W (oent 72 4 ol Z L)) h) :
    Zb prog 208 [.int .i64 i,.pointer (some ⟨bm,i*6,none⟩),.pointer (some ⟨bx,0,none⟩),.pointer (some ⟨b5,0,none⟩),.pointer (some ⟨b6,0,none⟩)] (tB bb s v r q w::tM bm cm s.ae::tX bx bb::whB b5 ow N::Ydn b6 ol N::oent 3 1 ow W (oent 72 4 ol Z L)) h K:=by
  refine eG func208 fun ap nd=>?_;have hbb:h bb=noC:=ap.1;have hbm:h bm=noC:=ap.2.1;have hbx:h bx=noC:=ap.2.2.1;have hb5:h b5=noC:=ap.2.2.2.1;have hb6:h b6=noC:=ap.2.2.2.2.1;have ebm:NeB bb bm:=Ne.symm nd.1.1;have ebx:NeB bb bx:=Ne.symm nd.1.2.1;have eb5:NeB bb b5:=Ne.symm nd.1.2.2.1;have eb6:NeB bb b6:=Ne.symm nd.1.2.2.2.1;have emx:NeB bm bx:=Ne.symm nd.2.1.1;have em5:NeB bm b5:=Ne.symm nd.2.1.2.1;have em6:NeB bm b6:=Ne.symm nd.2.1.2.2.1;have ex5:NeB bx b5:=Ne.symm nd.2.2.1.1;have ex6:NeB bx b6:=Ne.symm nd.2.2.1.2.1;have e56:NeB b5 b6:=Ne.symm nd.2.2.2.1.1;clear ap nd;obtain⟨g0,g1,g2,g3,g4,g5⟩:=Zah hi;have hi6:=YC (w:=6) hi (show 3<6 from qh);have hsum:=Zbl (ms:=s.ae) rfl;refine xx ?_;refine G8 hk0 i qf ?_
  cases c:Wm s.marks i with
  | false =>
    have hno:=hno c;refine xx ?_;exact ZP hno
  | true =>
  have hk:=hk c;clear hno;refine xx ?_;obtain⟨m,hm⟩:∃m,m=gr ZQ s.ae i:=⟨_,rfl⟩
  rw[<- hm]at hk g0 g1 g2 g3;simp only[tB,tM]at hk ⊢;obtain⟨C,hC⟩:∃C,C=tC s v r q w:=⟨_,rfl⟩
  rw[<- hC]at hk
  first
  | rw[<- hC]
  | (simp only [tC] at hC
     rw[<- hC])
  clear hC
  refine YN (.tk 1 (.tk 5 (.tk 6 (.tk 7 (.tkl 0 (.o1 2 (.o1 3 (.o1 4 (.o1 8 (.o1 9 (.o1 10 (.o2 11 (.o2 12 (.fin) (.nil)) (.nil)) (.nil)) (.nil)) (.nil)) (.o1 8 (.o1 4 (.o1 9 (.o1 10 (.o2 11 (.o2 12 (.fin) (.nil)) (.nil)) (.nil)) (.nil)) (.o1 9 (.o1 4 (.o1 10 (.o2 11 (.o2 12 (.fin) (.nil)) (.nil)) (.nil)) (.nil)) (.nil))) (.nil))) (.o1 4 (.o1 3 (.o1 8 (.o1 9 (.o1 10 (.o2 11 (.o2 12 (.fin) (.nil)) (.nil)) (.nil)) (.nil)) (.nil)) (.o1 8 (.o1 3 (.o1 9 (.o1 10 (.o2 11 (.o2 12 (.fin) (.nil)) (.nil)) (.nil)) (.nil)) (.o1 9 (.o1 3 (.o1 10 (.o2 11 (.o2 12 (.fin) (.nil)) (.nil)) (.nil)) (.nil)) (.nil))) (.nil))) (.o1 8 (.o1 3 (.o1 4 (.o1 9 (.o1 10 (.o2 11 (.o2 12 (.fin) (.nil)) (.nil)) (.nil)) (.nil)) (.o1 9 (.o1 4 (.o1 10 (.o2 11 (.o2 12 (.fin) (.nil)) (.nil)) (.nil)) (.nil)) (.nil))) (.o1 4 (.o1 3 (.o1 9 (.o1 10 (.o2 11 (.o2 12 (.fin) (.nil)) (.nil)) (.nil)) (.nil)) (.o1 9 (.o1 3 (.o1 10 (.o2 11 (.o2 12 (.fin) (.nil)) (.nil)) (.nil)) (.nil)) (.nil))) (.o1 9 (.o1 3 (.o1 4 (.o1 10 (.o2 11 (.o2 12 (.fin) (.nil)) (.nil)) (.nil)) (.nil)) (.o1 4 (.o1 3 (.o1 10 (.o2 11 (.o2 12 (.fin) (.nil)) (.nil)) (.nil)) (.nil)) (.nil))) (.nil)))) (.nil)))) (.o1 4 (.o1 2 (.o1 3 (.o1 8 (.o1 9 (.o1 10 (.o2 11 (.o2 12 (.fin) (.nil)) (.nil)) (.nil)) (.nil)) (.nil)) (.o1 8 (.o1 3 (.o1 9 (.o1 10 (.o2 11 (.o2 12 (.fin) (.nil)) (.nil)) (.nil)) (.nil)) (.o1 9 (.o1 3 (.o1 10 (.o2 11 (.o2 12 (.fin) (.nil)) (.nil)) (.nil)) (.nil)) (.nil))) (.nil))) (.o1 8 (.o1 2 (.o1 3 (.o1 9 (.o1 10 (.o2 11 (.o2 12 (.fin) (.nil)) (.nil)) (.nil)) (.nil)) (.o1 9 (.o1 3 (.o1 10 (.o2 11 (.o2 12 (.fin) (.nil)) (.nil)) (.nil)) (.nil)) (.nil))) (.o1 9 (.o1 2 (.o1 3 (.o1 10 (.o2 11 (.o2 12 (.fin) (.nil)) (.nil)) (.nil)) (.nil)) (.nil)) (.nil))) (.nil))) (.o1 8 (.o1 2 (.o1 3 (.o1 4 (.o1 9 (.o1 10 (.o2 11 (.o2 12 (.fin) (.nil)) (.nil)) (.nil)) (.nil)) (.o1 9 (.o1 4 (.o1 10 (.o2 11 (.o2 12 (.fin) (.nil)) (.nil)) (.nil)) (.nil)) (.nil))) (.o1 4 (.o1 3 (.o1 9 (.o1 10 (.o2 11 (.o2 12 (.fin) (.nil)) (.nil)) (.nil)) (.nil)) (.o1 9 (.o1 3 (.o1 10 (.o2 11 (.o2 12 (.fin) (.nil)) (.nil)) (.nil)) (.nil)) (.nil))) (.o1 9 (.o1 3 (.o1 4 (.o1 10 (.o2 11 (.o2 12 (.fin) (.nil)) (.nil)) (.nil)) (.nil)) (.o1 4 (.o1 3 (.o1 10 (.o2 11 (.o2 12 (.fin) (.nil)) (.nil)) (.nil)) (.nil)) (.nil))) (.nil)))) (.o1 4 (.o1 2 (.o1 3 (.o1 9 (.o1 10 (.o2 11 (.o2 12 (.fin) (.nil)) (.nil)) (.nil)) (.nil)) (.o1 9 (.o1 3 (.o1 10 (.o2 11 (.o2 12 (.fin) (.nil)) (.nil)) (.nil)) (.nil)) (.nil))) (.o1 9 (.o1 2 (.o1 3 (.o1 10 (.o2 11 (.o2 12 (.fin) (.nil)) (.nil)) (.nil)) (.nil)) (.nil)) (.nil))) (.o1 9 (.o1 2 (.o1 3 (.o1 4 (.o1 10 (.o2 11 (.o2 12 (.fin) (.nil)) (.nil)) (.nil)) (.nil)) (.o1 4 (.o1 3 (.o1 10 (.o2 11 (.o2 12 (.fin) (.nil)) (.nil)) (.nil)) (.nil)) (.nil))) (.o1 4 (.o1 2 (.o1 3 (.o1 10 (.o2 11 (.o2 12 (.fin) (.nil)) (.nil)) (.nil)) (.nil)) (.nil)) (.nil))) (.nil)))) (.nil))))))))) qg qg [(0,.int .i64 i),(1,.pointer (some ⟨bm,i*6,none⟩)),(2,.pointer (some ⟨bx,0,none⟩)),(3,.pointer (some ⟨b5,0,none⟩)),(4,.pointer (some ⟨b6,0,none⟩))] [⟨bb,154,C,56⟩,⟨bm,74,s.ae.flatMap YD,cm*6⟩,tX bx bb,whB b5 ow N,Ydn b6 ol N] (γ:=Option (Nat×Nat)×Option (Nat×Nat)) (fun x=>okO x.1 (N+1)/\okO x.2 (N+1)) (fun _=>[])
    (fun x=>⟨bb,154,C,56⟩::⟨bm,74,s.ae.flatMap YD,cm*6⟩::tX bx bb::whB b5 x.1 (N+1)::Ydn b6 x.2 (N+1)::oent 3 1 x.1 (W++[.int .i64 i]) (oent 72 4 x.2 (Z++sdC m) L)) (fun _=>h) qx (drop_left [_,_,_,_,_] _ _) ?_ ?_
  · repeat' first
      | with_reducible refine Yf ?_ ?_
      | simp -dsimp -implicitDefEqProofs (disch:=first|exact dD|fail) [go_sem,g0,g1,g2,g3]
      | (with_reducible show Zzz _ _ 3 _ _ _
         refine ZY fun b12 nb12 zb12=>?_;simp only[ZS]at nb12
         first
         | (have e12m : NeB b12 bm := Ne.symm nb12.2.1
            have e125:NeB b12 b5:=Ne.symm nb12.2.2.2.1
            have e126:NeB b12 b6:=Ne.symm nb12.2.2.2.2.1)
         | (have e12m : NeB b12 bm := Ne.symm nb12.2.2.1
            have e125:NeB b12 b5:=Ne.symm nb12.2.2.2.2.1
            have e126:NeB b12 b6:=Ne.symm nb12.2.2.2.2.2.1)
         clear nb12)
      | (with_reducible show Zzz _ _ 72 _ _ _
         refine ZY fun b19 nb19 zb19=>?_;simp only[ZS]at nb19
         first
         | (have e19m : NeB b19 bm := Ne.symm nb19.2.1
            have e195:NeB b19 b5:=Ne.symm nb19.2.2.2.1
            have e196:NeB b19 b6:=Ne.symm nb19.2.2.2.2.1)
         | (have e19m : NeB b19 bm := Ne.symm nb19.2.2.1
            have e195:NeB b19 b5:=Ne.symm nb19.2.2.2.2.1
            have e196:NeB b19 b6:=Ne.symm nb19.2.2.2.2.2.1)
         clear nb19)
      | (with_reducible show UO _ _ #[27,_] _ _ _ _ _
         first
         | refine ZZ (t:=27) (e:=3) (sz:=1) (bytes:=8) (z:=[.int .i64 0]) qg V6 rfl rfl rfl rfl qh [_,_,_,_,_,_] _ ow N W okw qf (Src.own (b:=b12) (t:=3) (cap:=1) qH) (m:=1) (news:=[.int .i64 i]) rfl (fun u hu=>qw) qm qf fun ow1 jw1 jw2 jw3=>?_
         | refine ZZ (t:=27) (e:=3) (sz:=1) (bytes:=8) (z:=[.int .i64 0]) qg V6 rfl rfl rfl rfl qh [_,_,_,_,_,_,_] _ ow N W okw qf (Src.own (b:=b12) (t:=3) (cap:=1) qH) (m:=1) (news:=[.int .i64 i]) rfl (fun u hu=>qw) qm qf fun ow1 jw1 jw2 jw3=>?_
         simp only[List.cons_append,List.nil_append])
      | (with_reducible show UO _ _ #[149,_] _ _ _ _ _
         first
         | refine Zhl (V2 (Za.perm _ two_perm7) (ZZ (t:=149) (e:=72) (sz:=4) (bytes:=32) qg Ylv rfl rfl rfl rfl qh [] _ ol N Z okl hZ (Src.own (b:=b19) (t:=72) (cap:=4) (VW qH)) (m:=1) (news:=sdC m) rfl (Zmt m) qm qf fun ol1 jl1 jl2 jl3=>⟨_,_,Za.perm _ two_perm7.symm,?_⟩))
         | refine Zhl (V2 (Za.perm _ two_perm6) (ZZ (t:=149) (e:=72) (sz:=4) (bytes:=32) qg Ylv rfl rfl rfl rfl qh [] _ ol N Z okl hZ (Src.own (b:=b19) (t:=72) (cap:=4) (VW qH)) (m:=1) (news:=sdC m) rfl (Zmt m) qm qf fun ol1 jl1 jl2 jl3=>⟨_,_,Za.perm _ two_perm6.symm,?_⟩)))
      | with_reducible refine xkp Ytx ?_
      | with_reducible refine xkp Yhl ?_
      | with_reducible refine xkp Yve ?_
      | fail
    all_goals exact⟨ow1,ol1,⟨jw1,jl1⟩,by simp [Ent],(Za.tail _ _ _).trans (Za.tail _ _ _)⟩
  rintro⟨ow1,ol1⟩ ⟨jw1,jl1⟩;simp only at jw1 jl1 ⊢;refine xx ?_;exact ZP (hk ow1 ol1 jw1 jl1)
theorem dropG {e0 s0 e sz e2 sz2:Nat}{o0 o o2:Option (Nat×Nat)}{X0 xs ys:List Value}{a c d x y:Zn}{L:Own}{h:PH}(h1:e≠4294967295)(h2:e2≠4294967295) :
  Za (a::oent e0 s0 o0 X0 (c::d::x::oent e sz o xs (oent e2 sz2 o2 ys (y::L)))) h (a::c::d::x::oent e0 s0 o0 X0 L) (Jh (Jh h o xs) o2 ys):=by
 have q1:∀ {e sz:Nat} {o:Option (Nat×Nat)} {xs:List Value} {R:Own},(a::oent e0 s0 o0 X0 (c::d::x::oent e sz o xs R)).Perm (oent e sz o xs (a::oent e0 s0 o0 X0 (c::d::x::R))):=fun {e sz o xs R} =>
  (List.Perm.cons _ ((Z2 o0 X0 (Z6 [c,d,x])).trans (Yq o0 o X0 xs _))).trans oent_perm
 have q2:(a::oent e0 s0 o0 X0 (c::d::x::y::L)).Perm (y::a::c::d::x::oent e0 s0 o0 X0 L):=by
  have r1:(oent e0 s0 o0 X0 (c::d::x::y::L)).Perm (c::d::x::y::oent e0 s0 o0 X0 L):=(Z6 [c,d,x,y]).symm;refine(List.Perm.cons _ r1).trans ?_;exact List.perm_middle (l₁:=[a,c,d,x])
 exact(Za.perm h q1).trans ((YG o xs _ h h1).trans ((Za.perm _ q1).trans ((YG o2 ys _ _ h2).trans ((Za.perm _ q2).trans (Za.tail _ _ _)))))
theorem ap_G {e0 s0 e sz e2 sz2:Nat}{o0 o o2:Option (Nat×Nat)}{X0 xs ys:List Value}{a c d x y:Zn}{L:Own}{h:PH}(ap:Ap (a::oent e0 s0 o0 X0 (c::d::x::oent e sz o xs (oent e2 sz2 o2 ys (y::L)))) h)(nd:Nd (a::oent e0 s0 o0 X0 (c::d::x::oent e sz o xs (oent e2 sz2 o2 ys (y::L))))):apO o [] h/\apO o2 [] (Jh h o xs):=by
 have a1:Ap (oent e sz o xs (oent e2 sz2 o2 ys (y::L))) h:=(Ap.oent ap.2).2.2.2;have n1:Nd (oent e sz o xs (oent e2 sz2 o2 ys (y::L))):=by
  have n0:Nd (c::d::x::oent e sz o xs (oent e2 sz2 o2 ys (y::L))):=by
   have:=nd.2
   cases o0 with
   | none=>exact this
   | some p=>exact this.2
  exact n0.2.2.2
 have h2:apO o2 [] h:=Yk (Ap.oent a1);refine⟨Yk a1,?_⟩
 cases o2 with
 | none=>trivial
 | some p2 =>
  refine⟨trivial,?_⟩
  cases o with
  | none=>exact h2.2
  | some p=>exact Vt (o:=some p) (Ne.symm n1.1.1) h2.2
theorem Zbr {s:Zg}{k:Nat}:mtL s (k+1)=if Jf (gr ZQ s.ae k)&&Wm s.marks k then mtL s k++[gr ZQ s.ae k] else mtL s k:=by
 unfold mtL;rw[Vc];split
 ·rw[List.map_append];rfl
 ·rfl
def Zdz (s:Zg)(k:Nat):List Int:=(thI s.ae s.marks k).map fun i:Nat=>(i:Int)
theorem Zcr {s:Zg}{k:Nat}:Zdz s (k+1)=if Jf (gr ZQ s.ae k)&&Wm s.marks k then Zdz s k++[(k:Int)] else Zdz s k:=by
 unfold Zdz;rw[Vc];split
 ·rw[List.map_append];rfl
 ·rfl
theorem UM (s:Zg)(k:Nat):(Zdz s k).length=(mtL s k).length/\(mtL s k).length<=k/\(mtL s k).length=(thI s.ae s.marks k).length:=by
 have:=J8 s.ae s.marks k;unfold Zdz mtL;rw[List.length_map,List.length_map];exact⟨rfl,this,rfl⟩
theorem Zoq {bb bx b5 b6 D:Nat}{om:Option (Nat×Nat)}{y:Zn}{s:Zg}{v:SV}{r:Zi}{q:RV}{w:Int}(ti:Zq s D)(hk0:Ints h .u8 v.k s.marks)(hm:v.m=ovs om s.ae.length)(okm:okO om s.ae.length)(hbb:h bb=noC)(hbm:apO om [] h)(nmb:apB om bb)
  (hk:∀ow ol,okO ow (mtW s).length->okO ol (mtW s).length->K (.tuple #[]) (tB bb s v r q w::tMo om s.ae (tX bx bb::whB b5 ow (mtW s).length::Ydn b6 ol (mtW s).length::oent 3 1 ow ((Zdz s s.ae.length).map (.int .i64)) (oent 72 4 ol ((mtL s s.ae.length).flatMap sdC) (y::L)))) h) :
  Zb prog 204 [.pointer (some ⟨bb,0,none⟩),.func (.func 208) #[] #[.pointer (some ⟨bx,0,none⟩),.pointer (some ⟨b5,0,none⟩),.pointer (some ⟨b6,0,none⟩)]]
   (tB bb s v r q w::tMo om s.ae (tX bx bb::whB b5 none 0::Ydn b6 none 0::y::L)) h K:=by
 have hml:=ti.ml;obtain⟨n,hn⟩:∃n,n=s.ae.length:=⟨_,rfl⟩
 have eW:(mtW s).length=(mtL s n).length:=by rw[(UM s n).2.2,hn];rfl
 rw[<- hn,eW]at hk;refine Vx (cl:=208) (cap:=[.pointer (some ⟨bx,0,none⟩),.pointer (some ⟨b5,0,none⟩),.pointer (some ⟨b6,0,none⟩)]) (bb:=bb) (om:=om) (w:=w) (n:=n) (γ:=Nat×Option (Nat×Nat)×Option (Nat×Nat)) (fun j x=>x.1=j/\j<=n/\okO x.2.1 (mtL s x.1).length/\okO x.2.2 (mtL s x.1).length) (fun _=>s) (fun _=>v) (fun _=>r) (fun _=>q)
  (fun x=>tX bx bb::whB b5 x.2.1 (mtL s x.1).length::Ydn b6 x.2.2 (mtL s x.1).length::oent 3 1 x.2.1 ((Zdz s x.1).map (.int .i64)) (oent 72 4 x.2.2 ((mtL s x.1).flatMap sdC) (y::L))) (fun _=>h) (0,none,none) qf wI ?_ nmb ?_ ?_ ?_ ?_
 ·rintro k x ⟨e1,e2,e3,e4⟩;exact⟨by rw[hn];exact hm,hn.symm,hbb,hbm⟩
 ·rintro bm cm rfl k ⟨x,ow,ol⟩ d1 ⟨rfl,e2,e3,e4⟩ d2;simp only at d1 e2 e3 e4 d2 ⊢;obtain⟨l1,l2,l3⟩:=UM s x;have hc:Jf (gr ZQ s.ae x)=true:=by simpa [Jf] using d2
  refine Ygf (W:=(Zdz s x).map (.int .i64)) (Z:=(mtL s x).flatMap sdC) hk0 x qf qf qf e3 (by rw[List.length_map,l1]) e4 (Z1 G3 _) (fun g ow1 ol1 j1 j2=>?_) (fun g=>?_)
  ·have s1:=Zbr (s:=s) (k:=x);have s2:=Zcr (s:=s) (k:=x);rw[hc,g,if_pos qh]at s1 s2;have s3:(mtL s (x+1)).length=(mtL s x).length+1:=by rw[s1,List.length_append];rfl
   refine⟨(x+1,ow1,ol1),⟨rfl,qf,by rw[s3];exact j1,by rw[s3];exact j2⟩,?_⟩;simp only;rw[s3,s1,s2,List.map_append,List.flatMap_append];simp only[List.map_cons,List.map_nil,List.flatMap_cons,List.flatMap_nil,List.append_nil];exact Za.refl _ _
  ·have s1:=Zbr (s:=s) (k:=x);have s2:=Zcr (s:=s) (k:=x);rw[hc,g,if_neg qh]at s1 s2;refine⟨(x+1,ow,ol),⟨rfl,qf,by rw[s1];exact e3,wo⟩,?_⟩;simp only;rw[s1,s2];exact Za.refl _ _
 ·rintro k ⟨x,ow,ol⟩ d1 ⟨rfl,e2,e3,e4⟩ d2;simp only at d1 e2 e3 e4 d2 ⊢;have hc:Jf (gr ZQ s.ae x)=false:=by simpa [Jf] using d2
  have s1:=Zbr (s:=s) (k:=x);have s2:=Zcr (s:=s) (k:=x);rw[hc,Bool.false_and,if_neg qh]at s1 s2;refine⟨(x+1,ow,ol),⟨rfl,qf,by rw[s1];exact e3,wo⟩,?_⟩;simp only;rw[s1,s2];exact Za.refl _ _
 ·exact⟨rfl,Nat.zero_le _,rfl,rfl⟩
 ·rintro⟨x,ow,ol⟩ ⟨e1,e2,e3,e4⟩;simp only at e1 e2 e3 e4 ⊢;subst e1;exact hk ow ol e3 e4
theorem Zpo (s:Zg)(r:Zi)(k:Nat):mtX s r (k+1)=Jx s.par ((mtW s).getD k 0) (at0 (mtP s r) k) (mtX s r k):=rfl
theorem Ylk {s:Zg}{k:Nat}(hk:k<(mtW s).length):at0 (Zdz s s.ae.length) k=((mtW s).getD k 0:Nat):=by
 have h1:(Zdz s s.ae.length).length=(mtW s).length:=by unfold Zdz mtW;rw[List.length_map]
 rw[<- Ys qf];simp only[Zdz,List.getElem_map];rw[List.getD_eq_getElem?_getD,List.getElem?_eq_getElem hk]
 rfl
theorem Zvx {s:Zg}{r:Zi}{D:Nat}(ti:Zq s D)(ha:0<=r.act/\r.act<=18446744073709551615){k:Nat}(hk:k<(mtW s).length){i:Nat}(hi:i=(mtW s).getD k 0){m:Zc}(hm:m=gr ZQ (mtX s r k).1 i){a:Int}(haa:a=at0 (mtP s r) k) :
  i<s.ae.length/\i<(mtX s r k).1.length/\Zf m/\(0<=m.owner/\m.owner<s.ag.length)/\(mtX s r k).2.length=s.ag.length/\(0<=a/\a<=4611686018427387904)/\at0 (mtX s r k).2 m.owner.toNat+(Uq s.par m a).2<=4611686018427387904/\0<=(Uq s.par m a).2/\(0<=s.an+mtN s r-YE (mtP s r) k-a/\s.an+mtN s r-YE (mtP s r) k<=4611686018427387904)/\(0<=YE (mtP s r) k/\YE (mtP s r) k+a<=4611686018427387904) /\
  (mtX s r (k+1)).1=(mtX s r k).1.set i (Uq s.par m a).1/\(mtX s r (k+1)).2=(mtX s r k).2.set m.owner.toNat (at0 (mtX s r k).2 m.owner.toNat+(Uq s.par m a).2)/\YE (mtP s r) (k+1)=YE (mtP s r) k+a/\(Uq s.par m a).1.owner=m.owner:=by
 have h0:=Ymd ti ha (k:=k) qf;have h1:=Zrn ti ha (k:=k) qf;have h2:=Zrn ti ha (k:=k+1) qf;have hw:i<s.ae.length:=by
  rw[hi,List.getD_eq_getElem?_getD,List.getElem?_eq_getElem hk,Option.getD_some];exact Yhx _ (List.getElem_mem hk)
 have hi2:i<(mtX s r k).1.length:=by rw[h0.l1];exact hw
 obtain⟨mo,o1,o2⟩:=h0.b.at hi2;rw[<- hm]at mo o1 o2;have hn:=Yrn ti ha;obtain⟨p1,p2,p3⟩:=Yjm ti ha;have pa:=p1 k;rw[<- haa]at pa;have ht:=ti.top;have hgm:0<=s.gen+s.aB:=by
  have u1:=ti.ok.u s.gen qj;have u2:=ti.ok.u s.aB qj;omega
 have hl2:(mtX s r k).2.length=s.ag.length:=h0.l2;rw[hl2]at o2;obtain⟨g1,g2,g3,g4,g5,g6⟩:=Ycf ti.ok.p mo pa.1;have e1:(mtX s r (k+1)).1=(mtX s r k).1.set i (Uq s.par m a).1:=by rw[Zpo,<- hi,<- haa,hm];rfl
 have e2:(mtX s r (k+1)).2=(mtX s r k).2.set m.owner.toNat (at0 (mtX s r k).2 m.owner.toNat+(Uq s.par m a).2):=by rw[Zpo,<- hi,<- haa,hm];rfl
 have e3:YE (mtP s r) (k+1)=YE (mtP s r) k+a:=by rw[YE,<- haa]
 have q1:=h1.parts;have q2:=h2.parts;have s1:=h1.sum;have s2:=h2.sum;have t1:(Zil s r k).an=s.an+mtN s r-YE (mtP s r) k:=rfl;have t2:(Zil s r (k+1)).an=s.an+mtN s r-YE (mtP s r) (k+1):=rfl;have b1:=(h2.be.le m.owner.toNat).2;have b2:(Zil s r (k+1)).ag=(mtX s r (k+1)).2:=rfl;rw[b2,e2,Wz _ _ _ _ qf,if_pos rfl]at b1;have b3:tot (Zil s r (k+1)).ag=tot ((mtX s r k).2.set m.owner.toNat (at0 (mtX s r k).2 m.owner.toNat+(Uq s.par m a).2)):=by rw[b2,e2]
 have sk:=p3 k qf;have sk1:=p3 (k+1) qf;rw[e3]at t2 sk1;exact⟨hw,hi2,mo,⟨o1,o2⟩,hl2,⟨pa.1,qf⟩,qf,g4,⟨qf,qf⟩,⟨sk.1,qf⟩,e1,e2,e3,g2⟩
theorem permM {e0 s0:Nat}{o0:Option (Nat×Nat)}{X0:List Value}{a b c d x:Zn}{L:Own}:(a::b::c::d::x::oent e0 s0 o0 X0 L).Perm (x::oent e0 s0 o0 X0 (d::b::a::c::L)):=by
 have h1:(a::b::c::d::x::oent e0 s0 o0 X0 L).Perm (x::a::b::c::d::oent e0 s0 o0 X0 L):=List.perm_middle (l₁:=[a,b,c,d]);refine h1.trans (List.Perm.cons _ ?_);have h2:(a::b::c::d::L).Perm (d::a::b::c::L):=List.perm_middle (l₁:=[a,b,c]);exact(Z6 [a,b,c,d]).trans (Z2 o0 X0 (h2.trans (List.Perm.cons _ (List.Perm.swap _ _ _))))
theorem Yao {s:Zg}{r:Zi}{k:Nat}{i:Nat}{m:Zc}{a:Int}(e1:(mtX s r (k+1)).1=(mtX s r k).1.set i (Uq s.par m a).1)(e2:(mtX s r (k+1)).2=(mtX s r k).2.set m.owner.toNat (at0 (mtX s r k).2 m.owner.toNat+(Uq s.par m a).2))(e3:YE (mtP s r) (k+1)=YE (mtP s r) k+a) :
  Zil s r (k+1)={ Zil s r k with an:=(Zil s r k).an-a,ae:=(mtX s r k).1.set i (Uq s.par m a).1,ag:=(mtX s r k).2.set m.owner.toNat (at0 (mtX s r k).2 m.owner.toNat+(Uq s.par m a).2) }/\Zlp s r (k+1)={ Zlp s r k with aU:=(Zlp s r k).aU+a }:=by
 constructor
 ·show ({ s with aB:=s.aB+mtN s r,an:=s.an+mtN s r-YE (mtP s r) (k+1),ae:=(mtX s r (k+1)).1,ag:=(mtX s r (k+1)).2 }:Zg)={ s with aB:=s.aB+mtN s r,an:=s.an+mtN s r-YE (mtP s r) k-a,ae:=(mtX s r k).1.set i (Uq s.par m a).1,ag:=(mtX s r k).2.set m.owner.toNat (at0 (mtX s r k).2 m.owner.toNat+(Uq s.par m a).2) };rw[e1,e2,e3,Int.sub_sub]
 ·show ({ r with aB:=mtN s r,aU:=r.aU+YE (mtP s r) (k+1) }:Zi)={ r with aB:=mtN s r,aU:=r.aU+YE (mtP s r) k+a };rw[e3,Int.add_assoc]
theorem Zvp {bb D:Nat}{om:Option (Nat×Nat)}{s:Zg}{v:SV}{r:Zi}{q:RV}{w:Int}(ti:Zq s D)(ha:0<=r.act/\r.act<=18446744073709551615)(hp0:r.aU=0)(hv:Yjy v)(hp:Ints h .u64 v.p s.ag)(hk0:Ints h .u8 v.k s.marks)(hm:v.m=ovs om s.ae.length)(okm:okO om s.ae.length)
  (hk:∀h' pv,PH.le h h'->Ints h' .u64 pv (mtS s r).ag->K (.tuple #[]) (tB bb (mtS s r) { v with p:=pv } (mtR s r) q w::tMo om (mtS s r).ae L) h') :
  Zb prog 84 [.pointer (some ⟨bb,0,none⟩)] (tB bb s v r q w::tMo om s.ae L) h K:=by
 obtain⟨vp,vm,ve,vx,vo,vd,vt,vk,vr⟩:=v;simp only at hm hk0 hp hk ⊢;subst hm;have hml:=ti.ml;have ht:=ti.top;have u1:=ti.ok.u s.gen qj;have u2:=ti.ok.u s.aB qj;have u3:=ti.ok.u s.most qj;have u4:=ti.ok.u s.an qj;have hn:=Yrn ti ha;have hsum:=ti.sum;obtain⟨p1,p2,p3,p4,p5,p6⟩:=ti.parts;obtain⟨n,en⟩:∃n,n=mtN s r:=⟨_,rfl⟩
 have hv1:=hv;unfold Yjy at hv1;simp only at hv1;obtain⟨o1,o2,o3,o4,o5,o6,o7,o8,o9⟩:=hv1;refine eG func84 fun ap nd=>?_;have hbb:h bb=noC:=ap.1;have hbm:apO om [] h:=Yk ap.2;have nmb:apB om bb:=Z3 nd.1;clear ap nd;refine xx ?_;refine ZY fun bx n_bx h_bx=>?_;(try simp only[ZS]at n_bx);have nbx:=n_bx.1;have nmx:apB om bx:=Z3 n_bx.2;clear n_bx;refine xx ?_;refine Z4 (.tkl 0 (.tk 1 (.tk 2 (.tk 3 (.tkl 4 (.tkl 5 (.tk 6 (.tk 7 (.tk 8 (.tkl 9 (.tkl 10 (.tk 11 (.tk 12 (.tk 13 (.tkl 14 (.tkl 15 (.tk 16 (.tk 17 (.tk 18 (.tkl 19 (.tk 20 (.tkl 21 (.tk 22 (.tk 23 (.tk 24 (.tkl 25 (.tkl 26 (.tk 27 (.tk 28 (.tk 29 (.tkl 30 (.o1 31 (.tk 32 (.fin)) (.nil))))))))))))))))))))))))))))))))) qg qg _ (Za.refl _ _) ?_;refine xx ?_;refine Zb.ap (Yaf s.par ti.ok.p ti.r r.act (s.gen+s.aB) s.most r.mode ha qf qf fun h1 le1 ap=>?_);have hbx1:h1 bx=noC:=ap.1;have hbb1:h1 bb=noC:=ap.2.1;have hbm1:apO om [] h1:=Yk ap.2.2;clear ap;rw[show Zbg s.par r.act (s.gen+s.aB) s.most r.mode=n from en.symm];rw[<- en]at hn
 first
 | refine xkp (Za.forget le1) ?_
 | skip
 refine xx ?_;refine Zb.ap (Yap (s:=s) ⟨vp,ovs om s.ae.length,ve,vx,vo,vd,vt,vk,vr⟩ hv ti.ok n qf (fun _ h2 le2 ap=>?_) (fun hno=>absurd ?_ hno))
 rotate_left
 ·have e:tot [s.gen,s.aB,n]=s.gen+s.aB+n:=by simp [tot,YE,at0]
  refine⟨?_,qf⟩;rw[e];omega
 have hbx2:h2 bx=noC:=ap.1;have hbb2:h2 bb=noC:=ap.2.1;have hbm2:apO om [] h2:=Yk ap.2.2;clear ap;refine xx ?_;refine ZY fun b3 nb3 zb3=>?_;(try simp only[ZS]at nb3);have n3x:=nb3.1;have n3b:=nb3.2.1;clear nb3;obtain⟨V,eV⟩:∃V:SV,V=⟨vp,ovs om s.ae.length,ve,vx,vo,vd,vt,vk,vr⟩:=⟨_,rfl⟩
 simp -dsimp -implicitDefEqProofs (disch:=first|exact dD|fail) [go_sem,o1,o2,o3,o4,o5,o6,o7,o8,o9];refine YN (.tk 3 (.tkl 0 (.tkl 2 (.tk 4 (.tk 5 (.o1 1 (.o2 6 (.tk 7 (.tk 8 (.tk 9 (.o2 10 (.fin) (.nil))))) (.nil)) (.o2 6 (.o1 1 (.tk 7 (.tk 8 (.tk 9 (.o2 10 (.fin) (.nil))))) (.nil)) (.nil)))))))) qg qg [(1,.pointer (some ⟨bx,0,none⟩)),(2,.int .u64 n),(3,.pointer (some ⟨b3,0,none⟩))] _ (γ:=Unit) (fun _=>True) (fun _=>[(1,.pointer (some ⟨bx,0,none⟩)),(2,.int .u64 n)])
  (fun _=>⟨b3,34,stC (Znp s n) V,41⟩::tX bx bb::tB bb (Znp s n) V { r with aB:=n } q w::tMo om s.ae L) (fun _=>h2) qx (Za.refl _ _) ?_ ?_
 ·subst eV
  repeat' first
   | with_reducible refine Yf ?_ ?_
   | simp -dsimp -implicitDefEqProofs (disch:=first|exact dD|fail) [go_sem,o1,o2,o3,o4,o5,o6,o7,o8,o9]
   | with_reducible refine xkp (Za.refl _ _) ?_
   | fail
  all_goals exact⟨qi,Za.refl _ _⟩
 rintro _ _;refine xx ?_;refine ZY fun b5 nb5 zb5=>?_;(try simp only[ZS]at nb5);have n53:=nb5.1;have n5x:=nb5.2.1;have n5b:=nb5.2.2.1;have n5m:apB om b5:=Z3 nb5.2.2.2;clear nb5;refine xx ?_;refine ZY fun b6 nb6 zb6=>?_;(try simp only[ZS]at nb6);have n65:=nb6.1;have n63:=nb6.2.1;have n6x:=nb6.2.2.1;have n6b:=nb6.2.2.2.1;clear nb6;refine xx ?_;have tk0:=Zrn ti ha (Nat.zero_le (mtW s).length);have e0:Zil s r 0=Znp s n:=by
  rw[en];show ({ s with aB:=s.aB+mtN s r,an:=s.an+mtN s r-YE (mtP s r) 0 }:Zg)=_;rw[show YE (mtP s r) 0=0 from rfl,Int.sub_zero]
  rfl
 have e1:Zlp s r 0={ r with aB:=n }:=by
  rw[en];show ({ r with aB:=mtN s r,aU:=r.aU+YE (mtP s r) 0 }:Zi)=_;rw[show YE (mtP s r) 0=0 from rfl,Int.add_zero]
 rw[e0]at tk0;have eWm:(mtW (Znp s n)).length=(mtW s).length:=rfl;have le12:=le1.trans le2;obtain⟨N,hN⟩:∃N,N=(mtW s).length:=⟨_,rfl⟩
 have hNl:(Zdz s s.ae.length).length=N/\(mtL s s.ae.length).length=N:=by
  have:=UM s s.ae.length;rw[hN];exact⟨by rw[this.1,this.2.2];rfl,this.2.2⟩
 have hN128:N<=128:=by
  have:=(UM s s.ae.length).2.1;omega
 refine Zb.apn (Zb.fin (Zb.weaken (Za.perm _ permM) (Zb.apn (Zoq (s:=Znp s n) (v:=V) (r:={ r with aB:=n }) (bx:=bx) (b5:=b5) (b6:=b6) tk0 (by rw[eV];exact hk0.up le12) (by rw[eV];rfl) okm hbb2 hbm2 nmb fun ow ol j1 j2 ap nd=>⟨_,Jh (Jh h2 ow ((Zdz s s.ae.length).map (.int .i64))) ol ((mtL s s.ae.length).flatMap sdC),dropG qh qh,fun ap2 nd2=>?_⟩))));obtain⟨aw,al⟩:=ap_G ap nd;clear ap nd;rw[eWm,<- hN]at j1 j2;have sw:=WE (h:=h2) (sz:=1) (n:=N) (o:=ow) (xs:=(Zdz s s.ae.length).map (.int .i64)) j1 (by rw[List.length_map,hNl.1,Nat.mul_one]) qf;have sl:=WE (h:=Jh h2 ow ((Zdz s s.ae.length).map (.int .i64))) (sz:=4) (n:=N) (o:=ol) (xs:=(mtL s s.ae.length).flatMap sdC) j2 (by rw[Z1 G3,hNl.2]) qf;have aw2:apO ow [] h2:=aw;have al2:apO ol [] (Jh h2 ow ((Zdz s s.ae.length).map (.int .i64))):=al;have lw:=YL aw2 ((Zdz s s.ae.length).map (.int .i64));have ll:=YL al2 ((mtL s s.ae.length).flatMap sdC);clear aw al aw2 al2 nd2;have sw:=sw.up ll;have le3:=lw.trans ll;clear lw ll
 generalize Jh (Jh h2 ow ((Zdz s s.ae.length).map (.int .i64))) ol ((mtL s s.ae.length).flatMap sdC)=h3 at ap2 sw sl le3 ⊢
 have iw:Ints h3 .i64 (ovs ow N) (Zdz s s.ae.length):=⟨by rw[hNl.1];exact sw,fun z hz=>by
  rw[show IntKind.i64.min = -9223372036854775808 from qh,show IntKind.i64.max=9223372036854775807 from qh];obtain⟨j,hj,rfl⟩:=List.mem_map.1 hz;have:=Yax hj
  omega⟩
 have rl:Zd sdC 4 h3 (ovs ol N) (mtL s s.ae.length):=by
  have:=Zd.pub (f:=sdC) (w:=4) (l:=mtL s s.ae.length) (o:=ol) (h:=h3) G3 (by rw[hNl.2];exact sl)
  rwa [hNl.2]at this
 have hbb3:h3 bb=noC:=ap2.1;have hbx3:h3 bx=noC:=ap2.2.1;have hb53:h3 b5=noC:=ap2.2.2.1;have hb63:h3 b6=noC:=ap2.2.2.2.1;clear ap2 sw sl;obtain⟨wa,wc,ew,_,_,_,hws⟩:=iw.open;obtain⟨la,lc,el,_⟩:=rl.open;rw[hNl.1]at ew hws;rw[hNl.2]at el;have iw0:=iw;rw[el]at rl;simp only[whB,Ydn];rw[eWm,<- hN,ew,el];subst eV;refine xx ?_;refine Z4 (.tk 5 (.tkl 0 (.tk 1 (.tk 2 (.tk 3 (.tkl 4 (.tkl 6 (.o1 7 (.tk 8 (.tk 9 (.tk 10 (.tk 11 (.tk 12 (.tk 13 (.tk 14 (.fin)))))))) (.nil))))))))) qg qg _ (Za.refl _ _) ?_;refine xx ?_;have le13:=le12.trans le3;refine Zb.ap (Zrr s.par ti.ok.p ti.r _ rl (Zwl ti _ (Nat.le_refl _)) (by rw[hNl.2];exact hN128) n qf fun h4 rv le4 iv ap=>?_);have hbb4:h4 bb=noC:=ap.1;have hbx4:h4 bx=noC:=ap.2.1;have hb54:h4 b5=noC:=ap.2.2.1;have hbm4:apO om [] h4:=Yk ap.2.2.2.2;clear ap;have eP:Ui s.par n (mtL s s.ae.length)=mtP s r:=by rw[en];rfl
 rw[eP]at iv ⊢;have hPl:(mtP s r).length=N:=by rw[(Yjm ti ha).2.1,hN]
 obtain⟨ra,rc,rfl,_,_,_,hrs⟩:=iv.open;rw[hPl]at hrs ⊢
 first
 | refine xkp (Za.forget le4) ?_
 | skip
 refine xx ?_;refine Yi (γ:=Nat×PH×Value) (0,h4,vp) (fun y=>y.1<=N/\PH.le h4 y.2.1/\Ints y.2.1 .u64 y.2.2 (mtX s r y.1).2/\y.2.1 bb=noC/\apO om [] y.2.1/\y.2.1 bx=noC/\y.2.1 b5=noC)
  (fun y=>[(83,.int .i64 y.1),(82,.int .i64 N),(81,.slice ra N rc),(8,.int .u64 (n-tot (mtP s r))),(2,.int .u64 n),(1,.pointer (some ⟨bx,0,none⟩)),(5,.pointer (some ⟨b5,0,none⟩))])
  (fun y=>tB bb (Zil s r y.1) ⟨y.2.2,ovs om s.ae.length,ve,vx,vo,vd,vt,vk,vr⟩ (Zlp s r y.1) q w::tX bx bb::⟨b5,27,[.slice wa N wc],1⟩::tMo om (Zil s r y.1).ae L) (fun y=>y.2.1) (fun y=>N-y.1) ?_ ?_ ?_ ?_
 ·exact⟨Nat.zero_le _,PH.le_refl _,hp.up (le13.trans le4),hbb4,hbm4,hbx4,hb54⟩
 ·simp [Ent,List.lookup]
 ·rw[e0,e1];exact Za.sub (.cons_cons _ (.cons_cons _ (.cons_cons _ (List.sublist_cons_self _ _))))
 clear n3x n3b n53 n63 n65 n6x n6b hbb hbm h_bx zb3 zb5 zb6 hbb1 hbm1 hbx1 hbb2 hbm2 hbx2 hbb3 hbx3 hb53 hb63;have ebb:NeB bb bx:=nbx;have e5b:NeB bb b5:=n5b;have e5x:NeB bx b5:=n5x;clear nbx n5x n5b;rintro⟨k,h5,pv⟩ ⟨k1,le5,ip,hbb5,hbm5,hbx5,hb55⟩;simp only at k1 le5 ip hbb5 hbm5 hbx5 hb55 ⊢;by_cases c1:k<N
 ·have ewk:=Ylk (s:=s) (k:=k) qf;obtain⟨i,hi⟩:∃i,i=(mtW s).getD k 0:=⟨_,rfl⟩
  rw[<- hi]at ewk;obtain⟨m,hmm⟩:∃m,m=gr ZQ (mtX s r k).1 i:=⟨_,rfl⟩
  obtain⟨a,haa⟩:∃a,a=at0 (mtP s r) k:=⟨_,rfl⟩
  obtain⟨z1,z2,z3,z4,z5,z6,z7,z8,z9,z10,z11,z12,z13,z14⟩:=Zvx ti ha (show k<(mtW s).length from qf) hi hmm haa;obtain⟨f1,f2⟩:=Yao z11 z12 z13;have hws5:∀j,j<N->Z9 h5 wa j=some (.int .i64 (at0 (Zdz s s.ae.length) j)):=fun j hj=>Yr (le4.trans le5) (hws j hj);have hrs5:∀j,j<N->Z9 h5 ra j=some (.int .u64 (at0 (mtP s r) j)):=fun j hj=>Yr le5 (hrs j hj);have hg:=Zah (ms:=(mtX s r k).1) z2;rw[<- hmm]at hg;obtain⟨g0,g1,g2,g3,g4,g5⟩:=hg;have hi6:=YC (w:=6) z2 (show 5<6 from qh);have hsm:=Zbl (ms:=(mtX s r k).1) rfl;have hXl:(mtX s r k).1.length=s.ae.length:=(Ymd ti ha (k:=k) qf).l1;obtain⟨bm,cm,rfl⟩:∃bm cm,om=some (bm,cm):=by
   cases om with
   | none=>have:s.ae.length=0:=okm;omega
   | some p=>exact⟨_,_,rfl⟩
  have ebm:NeB bb bm:=Ne.symm nmb;have exm:NeB bx bm:=Ne.symm nmx;have e5m:NeB b5 bm:=Ne.symm n5m;have hbm5':h5 bm=noC:=hbm5.2;simp only[tMo,Z7,Yl]at *;have hst:=Zev z2 (Uq s.par m a).1 (by rw[z14,hmm]) (by rw[hmm];rfl);have hX2:i<((mtX s r k).1.set i (Uq s.par m a).1).length:=by rw[List.length_set];exact z2
  have hgr2:gr ZQ ((mtX s r k).1.set i (Uq s.par m a).1) i=(Uq s.par m a).1:=by rw[Ye hX2,List.getElem_set_self]
  have q4:∀(K:Value->Prop) (t:Zm K),VE (((mtX s r k).1.set i (Uq s.par m a).1).flatMap YD) (i*6+4) K t=K (.int .i64 m.owner):=fun K t=>Yu Z8 ZQ _ (m:=4) hX2 qh (by rw[hgr2,<- z14];rfl) K t;obtain⟨S,hS⟩:∃S,S=Zil s r k:=⟨_,rfl⟩
  obtain⟨R,hR⟩:∃R,R=Zlp s r k:=⟨_,rfl⟩
  have t1:S.an=s.an+mtN s r-YE (mtP s r) k:=by rw[hS];rfl
  have t2:S.par=s.par:=by rw[hS];rfl
  have t3:S.ae=(mtX s r k).1:=by rw[hS];rfl
  have t4:S.ag=(mtX s r k).2:=by rw[hS];rfl
  have t5:R.aU=YE (mtP s r) k:=by
   rw[hR];show r.aU+YE (mtP s r) k=_;omega
  rw[<- t1]at z9;rw[<- t5]at z10;rw[<- hS,<- hR];rw[<- hS]at f1;rw[<- hR]at f2;rw[t3];obtain⟨M,hM⟩:∃M,M=(mtX s r k).1:=⟨_,rfl⟩
  rw[<- hM]at g0 g1 g2 g3 g4 g5 hi6 hsm hst q4 z2 f1 t3 hXl ⊢;obtain⟨P5,hP5⟩:∃P5,P5=(mtX s r k).2:=⟨_,rfl⟩
  rw[<- hP5]at ip z5 z7 f1 t4 z12;have ip':Ints h5 .u64 pv S.ag:=by rw[t4];exact ip
  simp -dsimp -implicitDefEqProofs (disch:=first|exact dD|fail) [go_sem,idx hrs5,idx hws5];rw[<- haa];refine WX qg rfl ?_;simp -dsimp -implicitDefEqProofs (disch:=first|exact dD|fail) [go_sem,idx hrs5,idx hws5,ewk];refine Z4 (.tk 0 (.tk 6 (.tk 7 (.tk 8 (.tk 10 (.tkl 1 (.tk 2 (.tk 3 (.tk 4 (.tkl 5 (.tkl 9 (.o1 11 (.tk 12 (.tk 13 (.tk 14 (.tk 15 (.tk 16 (.o2 17 (.tk 18 (.fin)) (.nil))))))) (.nil))))))))))))) qg qg _ (Za.refl _ _) ?_;refine lI ?_;have okS:Zj S.par:=by rw[t2];exact ti.ok.p
  have rS:Yo S.par=true:=by rw[t2];exact ti.r
  rw[<- t2]at hst q4 z7 z8 z14 f1 z12;refine Ydp S.par okS rS m z3 a qf ?_
  first
  | refine xkp (Za.refl _ _) ?_
  | skip
  refine xx ?_;refine⟨qf,?_⟩;rw[hst];refine Z4 (.tk 1 (.tk 2 (.tk 3 (.tk 5 (.tkl 0 (.tkl 4 (.o1 6 (.fin) (.nil)))))))) qg qg [_,_,_] (Za.sub (.cons _ (.cons_cons _ (.cons_cons _ (.cons_cons _ (List.nil_sublist _)))))) ?_;simp -dsimp -implicitDefEqProofs (disch:=first|exact dD|fail) [go_sem,q4];have ip2:Ints h5 .u64 pv S.ag:=ip';refine Zb.ap (UQ (s:={ S with an:=S.an-a,ae:=M.set i (Uq S.par m a).1 }) (v:=⟨pv,.slice (some ⟨bm,0,none⟩) s.ae.length cm,ve,vx,vo,vd,vt,vk,vr⟩) ip2 (by show S.ag.length<=1000;rw[t4,z5];have:=ti.pl;omega) m.owner ⟨z4.1,by show m.owner<S.ag.length;rw[t4,z5];exact z4.2⟩ (Uq S.par m a).2 z8 (by show at0 S.ag _+_<=_;rw[t4];exact z7) fun h6 r6 le6 i6 ap=>?_);have hbb6:h6 bb=noC:=ap.1;have hbx6:h6 bx=noC:=ap.2.1;have hb56:h6 b5=noC:=ap.2.2.1;have hbm6:apO (some (bm,cm)) [] h6:=⟨trivial,ap.2.2.2.1⟩
  clear ap;obtain⟨pa6,pc6,rfl,_⟩:=i6.open;refine xkp ((Za.sub (.cons _ (.cons_cons _ (.cons_cons _ (.cons_cons _ (List.nil_sublist _)))))).trans (Za.forget le6)) ?_;refine xx ?_;simp only[t4]at i6 ⊢;rw[List.length_set]at i6;refine⟨k+1,h6,_,⟨qf,le5.trans le6,by rw[z12];exact i6,hbb6,hbm6,hbx6,hb56⟩,qf,qi,?_⟩;rw[f1,f2];exact Za.refl _ _
 obtain rfl:N=k:=qf;have eR:mtR s r={ Zlp s r N with kept:=n-tot (mtP s r) }:=by rw[hN,en];rfl
 have eS:mtS s r=Zil s r N:=by rw[hN];rfl
 have hk:=hk h5 pv (le13.trans (le4.trans le5)) (by rw[eS];exact ip);rw[eS,eR]at hk;refine xx ?_;exact⟨_,_,Za.sub (.cons_cons _ (.cons _ (List.sublist_cons_self _ _))),hk⟩
theorem permL {e0 s0 e sz:Nat}{o0 o:Option (Nat×Nat)}{X0 xs:List Value}{a:Zn}{L:Own}:(a::oent e0 s0 o0 X0 (oent e sz o xs L)).Perm (oent e sz o xs (a::oent e0 s0 o0 X0 L)):=(List.Perm.cons _ (Yq o0 o X0 xs L)).trans oent_perm
theorem Uh {ms:List Zc}{l:List Int}{st:Int}(hr:JU ms l st)(hm:ms.length<=128){v:Value}(sl:Sl h v l.length 1 (l.map (.int .i64))):Ints h .i64 v l:=⟨sl,fun z hz=>by
 rw[show IntKind.i64.min = -9223372036854775808 from qh,show IntKind.i64.max=9223372036854775807 from qh];have:=VL hr hz
 omega⟩
theorem drop2Z {a b:Zn}{L:Own}{h:PH}:Za (a::b::L) h [a,b] h:=drop_left [a,b] L h
theorem drop1 {a:Zn}{L:Own}{h:PH}:Za (a::L) h [a] h:=drop_left [a] L h
structure LvG where
 k:Nat
 h:PH
 d:Value
theorem Zux {bb D:Nat}{om ox:Option (Nat×Nat)}{s:Zg}{v:SV}{r:Zi}{q:RV}{w:Int}(ti:Zq s D)(hD:D<=30000)(hw:0<=w/\w<=1000)(hp:Ints h .u64 v.p s.ag)(hd:Zd Yh 3 h v.d s.ai)(hm:v.m=ovs om s.ae.length)(okm:okO om s.ae.length)(hx:v.x=ovs ox s.exit.length)(okx:okO ox s.exit.length)
  (hk:∀h' xo pv dv lv,PH.le h h'->okO xo (lvS s (min (s.ep+w) 2147483647)).exit.length->Ints h' .u64 pv (lvS s (min (s.ep+w) 2147483647)).ag->Zd Yh 3 h' dv (lvS s (min (s.ep+w) 2147483647)).ai->Ints h' .i64 lv (lvW s) ->
   K (.tuple #[]) (tB bb (lvS s (min (s.ep+w) 2147483647)) { v with p:=pv,d:=dv,x:=ovs xo (lvS s (min (s.ep+w) 2147483647)).exit.length } (lvR s r) { q with l:=lv } w::tMo om (lvS s (min (s.ep+w) 2147483647)).ae (oent 3 1 xo ((lvS s (min (s.ep+w) 2147483647)).exit.map (.int .i64)) L)) h') :
  Zb prog 87 [.pointer (some ⟨bb,0,none⟩)] (tB bb s v r q w::tMo om s.ae (oent 3 1 ox (s.exit.map (.int .i64)) L)) h K:=by
 obtain⟨vp,vm,ve,vx,vo,vd,vt,vk,vr⟩:=v;simp only at hm hp hd hx hk ⊢;subst hm;subst hx;obtain⟨t,ht⟩:∃t,t=min (s.ep+w) 2147483647:=⟨_,rfl⟩
 rw[<- ht]at hk;have hep:=ti.ep;have htb:0<=t/\t<=2147483647:=qf;have hml:=ti.ml;have hpl:=ti.pl;have hdn:=ti.dn;have hxl:=WR ti.ex;obtain⟨w1,w2,w3⟩:=Yrj ti;have hpc:=Yc ti.r;have hsum:=ti.sum;obtain⟨p1,p2,p3,p4,p5,p6⟩:=ti.parts;refine Zb.entr fun ap nd=>?_;have aox:=Yk (Ap.oent ap.2);have lx:=YL aox (s.exit.map (.int .i64));have sx:=WE (h:=h) (sz:=1) (n:=s.exit.length) (o:=ox) (xs:=s.exit.map (.int .i64)) okx qj qf;refine Zb.weaken ((Za.perm h permL).trans (YG ox _ _ h qh)) ?_
 generalize Jh h ox (s.exit.map (.int .i64))=h0 at lx sx ⊢
 have ix:=Uh ti.ex hml sx;clear aox sx ap nd;obtain⟨xa,xc,ex,_⟩:=ix.open;rw[ex]at ix ⊢;have hxr:∀z∈s.exit,0<=z:=fun z hz=>(VL ti.ex hz).1;refine eG func87 fun ap nd=>?_;have hbb:h0 bb=noC:=ap.1;have nmb:apB om bb:=Z3 nd.1;clear ap nd;refine xx ?_;refine Z4 (.tk 0 (.tk 1 (.tk 2 (.tk 3 (.tk 5 (.tk 6 (.tk 7 (.tk 8 (.tk 9 (.tkl 4 (.tkl 10 (.o1 11 (.tk 12 (.tk 13 (.tk 14 (.tk 15 (.tk 16 (.fin)))))) (.nil))))))))))))) qg qg [_] drop1 ?_;refine xx ?_;refine Zb.apn (Zb.fin (Zel _ ix qf hxr ti.ex.1 s.par.aK ⟨qf,qf⟩ fun h1 rv xo le1 iw ok1 ap1=>⟨_,_,Za.perm _ permL.symm,fun ap nd=>?_⟩));have hbb1:h1 bb=noC:=ap.1;have hbm1:apO om [] h1:=Yk ap.2;clear ap nd ap1;refine xkp (drop1.trans (Za.forget le1)) ?_;have le01:=lx.trans le1;have eW:s.exit.take s.par.aK.toNat=lvW s:=rfl;rw[eW]at iw;obtain⟨N,hN⟩:∃N,N=(lvW s).length:=⟨_,rfl⟩
 obtain⟨R,hR⟩:∃R,R=s.exit.drop s.par.aK.toNat:=⟨_,rfl⟩
 rw[<- hR]at ok1 ⊢;obtain⟨wa,wc,rfl,_,_,_,hws⟩:=iw.open;rw[<- hN]at hws w1 ⊢;have iw0:=iw;rw[<- hN]at iw0;refine xx ?_;refine Yi (γ:=LvG) ⟨0,h1,vd⟩ (fun y=>y.k<=N/\PH.le h1 y.h/\Zd Yh 3 y.h y.d (lvK t (lvW s) (s.ae,s.ai) y.k).2/\y.h bb=noC/\apO om [] y.h)
  (fun y=>[(32,.int .i64 y.k),(31,.int .i64 N),(30,.slice wa N wc),(2,.slice wa N wc),(0,.pointer (some ⟨bb,0,none⟩))])
  (fun y=>tB bb { s with exit:=R,ae:=(lvK t (lvW s) (s.ae,s.ai) y.k).1,ai:=(lvK t (lvW s) (s.ae,s.ai) y.k).2 } ⟨vp,ovs om s.ae.length,ve,ovs xo R.length,vo,y.d,vt,vk,vr⟩ r q w::tMo om (lvK t (lvW s) (s.ae,s.ai) y.k).1 (oent 3 1 xo (R.map (.int .i64)) L)) (fun y=>y.h) (fun y=>N-y.k) ?_ ?_ ?_ ?_
 ·exact⟨Nat.zero_le _,PH.le_refl _,hd.up le01,hbb1,hbm1⟩
 ·simp [Ent,List.lookup,YT]
 ·exact Za.refl _ _
 rintro⟨k,h2,d2⟩ ⟨k1,le2,id2,hbb2,hbm2⟩;simp only at k1 le2 id2 hbb2 hbm2 ⊢;have lv:=(Zmx ti htb (k:=k) qf).1;have lr:=(Zmx ti htb (k:=k) qf).2;have hXl:(lvK t (lvW s) (s.ae,s.ai) k).1.length=s.ae.length:=lv.l1;by_cases c1:k<N
 ·have hin:=w3 (at0 (lvW s) k) wS;obtain⟨i,hi⟩:=Int.eq_ofNat_of_zero_le hin.1;rw[hi]at hin;have hws2:∀j,j<N->Z9 h2 wa j=some (.int .i64 (at0 (lvW s) j)):=fun j hj=>Yr le2 (hws j hj);have hi2:i<(lvK t (lvW s) (s.ae,s.ai) k).1.length:=qf;have hoo:=lr.o _ (Yp (z:=ZQ) hi2);have hbt:=Yj (WA lv.m) i;rw[WI hi2]at hbt;have h3:=lv.t;have h4:=lv.n;have eK:lvK t (lvW s) (s.ae,s.ai) (k+1)=Zat t i (lvK t (lvW s) (s.ae,s.ai) k):=by rw[lvK,hi,Int.toNat_natCast]
  obtain⟨bm,cm,rfl⟩:∃bm cm,om=some (bm,cm):=by
   cases om with
   | none=>have:s.ae.length=0:=okm;omega
   | some p=>exact⟨_,_,rfl⟩
  have nmb':bm≠bb:=nmb;have hbm2':h2 bm=noC:=hbm2.2;obtain⟨X,hX⟩:∃X,X=lvK t (lvW s) (s.ae,s.ai) k:=⟨_,rfl⟩
  rw[<- hX]at id2 lv hXl hi2 hoo hbt h3 h4 eK lr ⊢;simp only[tMo,Z7,Yl];refine lL ?_;rw[hi];simp only at h3 h4;have how2:0<=(gr ZQ X.1 i).owner/\(gr ZQ X.1 i).owner<=63:=qf;refine Zb.ap (Zpj (s:={ s with exit:=R,ae:=X.1,ai:=X.2 }) (v:=⟨vp,.slice (some ⟨bm,0,none⟩) s.ae.length cm,ve,ovs xo R.length,vo,d2,vt,vk,vr⟩) (by rw[hXl]) (by show X.1.length<=1000;omega) lv.m id2 lv.d (by show X.2.length<=32000;omega) i hi2 how2 5 hw (by show 0<=s.ep/\s.ep<=_;omega) (by show Y9 X.2+(gr ZQ X.1 i).bal<=_;omega) fun h5 r5 le5 i5 ap=>?_);have hbb5:h5 bb=noC:=ap.1;have hbm5:apO (some (bm,cm)) [] h5:=⟨trivial,ap.2.1⟩
  clear ap;refine xx ?_;refine⟨⟨k+1,h5,r5⟩,⟨qp,le2.trans le5,by rw[eK,ht];exact i5,hbb5,hbm5⟩,qp,qi,?_⟩;simp only;rw[eK,ht];exact Za.refl _ _
 obtain rfl:N=k:=qf;have eX:lvK t (lvW s) (s.ae,s.ai) N=lvX s t:=by rw[hN];rfl
 rw[eX]at id2 lv lr hXl ⊢;have lvn:=lv.n;simp only at lvn;refine xx ?_;refine Z4 (.tk 0 (.tk 1 (.tk 2 (.tk 3 (.tk 5 (.tk 6 (.tk 7 (.tk 8 (.tkl 4 (.tkl 9 (.o1 10 (.tk 11 (.tk 12 (.tk 13 (.tk 14 (.tk 15 (.fin)))))) (.nil)))))))))))) qg qg _ (Za.refl _ _) ?_;refine xx ?_;refine Zb.ap (Zwx _ id2 qf s.ep fun h3 r3 d3 le3 i3 j3 ap=>?_);have hbb3:h3 bb=noC:=ap.1;clear ap;have i30:=i3;have j30:=j3;obtain⟨ra,rc,rfl,_,_,_,hrs⟩:=i3.open;obtain⟨da,dc,rfl,_⟩:=j3.open
 first
 | refine xkp (Za.forget le3) ?_
 | skip
 have eD:(lvX s t).2.filter (Ut s.ep true)=lvD s t:=rfl;rw[eD]at i30 hrs ⊢;obtain⟨M,hM⟩:∃M,M=(lvD s t).length:=⟨_,rfl⟩
 have hld:=Yps ti htb;have hMl:M<=32000:=by
  have:(lvD s t).length<=(lvX s t).2.length:=List.length_filter_le _ _;omega
 rw[<- hM]at hrs ⊢;refine xx ?_;have ltot:tot s.ag+Y9 (lvD s t)<=4611686018427387904:=by
  have a1:=Zns (lvX s t).2 s.ep;rw[eD]at a1;have a2:=lv.t;simp only at a2;have a3:0<=Y9 ((lvX s t).2.filter (Ut s.ep false)):=Ym (Zam fun x hx=>lv.d x (List.mem_filter.1 hx).1);have a4:=Ym (WA lv.m);have a5:Y9 s.ai+tot (s.ae.map Zc.bal)=Y9 (lvX s t).2+tot ((lvX s t).1.map Zc.bal):=a2.symm;omega
 refine Yi (γ:=LvG) ⟨0,h3,vp⟩ (fun y=>y.k<=M/\PH.le h3 y.h/\Ints y.h .u64 y.d (dpK (lvD s t) s.ag y.k)/\y.h bb=noC)
  (fun y=>[(66,.int .i64 y.k),(65,.int .i64 M),(64,.slice ra M rc),(0,.pointer (some ⟨bb,0,none⟩))])
  (fun y=>tB bb { s with exit:=R,ae:=(lvX s t).1,ai:=(lvX s t).2.filter (Ut s.ep false),ag:=dpK (lvD s t) s.ag y.k } ⟨y.d,ovs om s.ae.length,ve,ovs xo R.length,vo,.slice da ((lvX s t).2.filter (Ut s.ep false)).length dc,vt,vk,vr⟩ (lvR s r) { q with l := .slice wa N wc } w::tMo om (lvX s t).1 (oent 3 1 xo (R.map (.int .i64)) L)) (fun y=>y.h) (fun y=>M-y.k) ?_ ?_ ?_ ?_
 ·exact⟨Nat.zero_le _,PH.le_refl _,hp.up (le01.trans (le2.trans le3)),hbb3⟩
 ·simp [Ent,List.lookup]
 ·exact Za.refl _ _
 rintro⟨k,h4,pv⟩ ⟨k1,le4,ip,hbb4⟩;simp only at k1 le4 ip hbb4 ⊢;obtain⟨y1,y2,y3⟩:=Zbd ti.be.p hld k qf;by_cases c1:k<M
 ·obtain⟨d,hdd⟩:∃d,d=gr ZT (lvD s t) k:=⟨_,rfl⟩
  have hx:=hld d (by rw[hdd];exact Yp qf);obtain⟨z1,z2,z3⟩:=Zbd ti.be.p hld (k+1) qf;have eK:dpK (lvD s t) s.ag (k+1)=(dpK (lvD s t) s.ag k).set d.au.toNat (at0 (dpK (lvD s t) s.ag k) d.au.toNat+d.amt):=by rw[dpK,<- hdd]
  have hroom:at0 (dpK (lvD s t) s.ag k) d.au.toNat+d.amt<=4611686018427387904:=by
   have b1:=Yj z2 d.au.toNat;rw[eK,Wz _ _ _ _ qf,if_pos rfl,<- eK,z3]at b1;have b2:=(Zhk (l:=(lvD s t).map Zh.amt) (fun i=>W9 Zh.amt _ (fun x hx=>(hld x hx).2.2) i) (k:=k+1) qI).2;have b3:tot ((lvD s t).map Zh.amt)=Y9 (lvD s t):=rfl;omega
  have hrs4:=hrs.up le4;have ip':Ints h4 .u64 pv (dpK (lvD s t) s.ag k):=ip;obtain⟨PK',hPK⟩:∃PK',PK'=dpK (lvD s t) s.ag k:=⟨_,rfl⟩
  rw[<- hPK]at ip y1 eK hroom ⊢;simp -dsimp -implicitDefEqProofs (disch:=first|exact dD|fail) [go_sem,↓Us ZT qh hrs4,Yh];rw[<- hdd];refine ZY fun b9 nb9 zb9=>?_;(try simp only[ZS]at nb9);have n9:=nb9.1;clear nb9;refine xw ?_;refine Zcz (Zb.ap (UQ (s:={ s with exit:=R,ae:=(lvX s t).1,ai:=(lvX s t).2.filter (Ut s.ep false),ag:=PK' }) (v:=⟨pv,ovs om s.ae.length,ve,ovs xo R.length,vo,.slice da ((lvX s t).2.filter (Ut s.ep false)).length dc,vt,vk,vr⟩) ip (by show PK'.length<=1000;omega) d.au (by show 0<=d.au/\d.au<PK'.length;omega) d.amt hx.2.2 hroom fun h5 r5 le5 i5 ap=>?_));have hbb5:h5 bb=noC:=ap.1;clear ap;refine xx ?_;refine⟨⟨k+1,h5,r5⟩,⟨qp,le4.trans le5,by simp only;rw[eK];exact i5,hbb5⟩,qp,qi,?_⟩;simp only;rw[eK];exact(Za.perm _ (List.Perm.swap _ _ _)).trans (Za.tail _ _ _)
 obtain rfl:M=k:=qf;have eS:lvS s t={ s with exit:=R,ae:=(lvX s t).1,ai:=(lvX s t).2.filter (Ut s.ep false),ag:=dpK (lvD s t) s.ag M }:=by rw[hM,hR];rfl
 have hk:=hk h4 xo pv (.slice da ((lvX s t).2.filter (Ut s.ep false)).length dc) (.slice wa N wc) (le01.trans (le2.trans (le3.trans le4))) (by rw[eS];exact ok1) (by rw[eS];exact ip) (by rw[eS];exact j30.up le4) (iw0.up (le2.trans (le3.trans le4)));rw[eS]at hk;refine xx ?_;exact ZP hk
theorem Zht {p:Ze}{i:Nat}{a au:Int}{x:ZK}{m:Zc}(hm:m=gr ZQ x.ms i):Zln p i a au x=⟨x.ms.set i (Ur p m a),x.ps.set au.toNat (at0 x.ps au.toNat+(a-YS p m a)),if (Ur p m a).status=m.status then x.en else x.en++[(i:Int)]⟩:=by rw[hm];rfl
theorem Zoa {bb pn:Nat}{om oe:Option (Nat×Nat)}{s:Zg}{v:SV}{r:Zi}{q:RV}{w:Int}{d:Zk}{ex:List Int}{T:Int}(ok:Zj s.par)(hr:Yo s.par=true)(hpn:pn<=64)(cr:ZF ex ⟨s.ae,s.ag,s.entry⟩ pn T)(hT:T+d.amt<=4611686018427387904)(hda:0<=d.amt)(hac:0<=d.au/\d.au<pn)(hmem:d.new=true\/(0<=d.mem/\d.mem<s.ae.length))(hp:Ints h .u64 v.p s.ag)(hm:v.m=ovs om s.ae.length)(okm:okO om s.ae.length)(he:v.e=ovs oe s.entry.length)(oke:okO oe s.entry.length)
    (hk:∀h' pv om' oe',PH.le h h'->okO om' (YM s.par d ⟨s.ae,s.ag,s.entry⟩).ms.length->okO oe' (YM s.par d ⟨s.ae,s.ag,s.entry⟩).en.length->Ints h' .u64 pv (YM s.par d ⟨s.ae,s.ag,s.entry⟩).ps ->
      K (.tuple #[]) (tB bb { s with ae:=(YM s.par d ⟨s.ae,s.ag,s.entry⟩).ms,ag:=(YM s.par d ⟨s.ae,s.ag,s.entry⟩).ps,entry:=(YM s.par d ⟨s.ae,s.ag,s.entry⟩).en } { v with p:=pv,m:=ovs om' (YM s.par d ⟨s.ae,s.ag,s.entry⟩).ms.length,e:=ovs oe' (YM s.par d ⟨s.ae,s.ag,s.entry⟩).en.length } r q w::tMo om' (YM s.par d ⟨s.ae,s.ag,s.entry⟩).ms (oent 3 1 oe' ((YM s.par d ⟨s.ae,s.ag,s.entry⟩).en.map (.int .i64)) L)) h') :
    Zb prog 217 [.pointer (some ⟨bb,0,none⟩),Yvu d] (tB bb s v r q w::tMo om s.ae (oent 3 1 oe (s.entry.map (.int .i64)) L)) h K:=by
  obtain⟨vp,vm,ve,vx,vo,vd,vt,vk,vr⟩:=v;simp only at hm hp he hk ⊢;subst hm;subst he;have crl:=cr.l1;have crp:=cr.l2;have crn:=WR cr.e;have crt:=cr.t;have crb:=cr.b.bal;have crq:=cr.b.pur;simp only at crl crp crn crt crb crq;have crs:=Zcq ok (p:=s.par) qf cr hda hac hmem;obtain⟨X,hX⟩:∃X,X=YM s.par d ⟨s.ae,s.ag,s.entry⟩:=⟨_,rfl⟩
  rw[<- hX]at crs hk;have xt:=crs.t;have xb:=crs.b.bal;have xp:=(crs.b.le d.au.toNat).2;refine eG func217 fun ap nd=>?_;have hbb:h bb=noC:=ap.1;have hom:apO om [] h:=Yk ap.2;have nmb:apB om bb:=Z3 nd.1;clear ap nd;refine xx ?_;refine ZY fun b3 nb3 zb3=>?_;(try simp only[ZS]at nb3);have n3b:=nb3.1;have nm3:apB om b3:=Z3 nb3.2;clear nb3;refine xx ?_
  cases hnew:d.new with
  | true =>
    have eX:X=if 128<=s.ae.length then ⟨s.ae,s.ag.set d.au.toNat (at0 s.ag d.au.toNat+d.amt),s.entry⟩ else Zln s.par s.ae.length d.amt d.au ⟨s.ae++[⟨0,0,0,0,d.au,4⟩],s.ag,s.entry⟩:=by rw[hX,YM,hnew,if_pos rfl]
    obtain⟨ma,mc,em,_⟩:=Z5 okm;by_cases c1:128<=s.ae.length
    · rw[if_pos c1]at eX;rw[eX]at hk xp xt;simp only at hk xp xt;rw[Wz _ _ _ _ qf,if_pos rfl]at xp;have b0:=cr.b.bal;simp only at b0;refine lM ?_;rw[<- em];refine Zcz (UQ (s:=s) hp qf d.au qf d.amt hda qf fun h1 r1 le1 i1=>?_);refine xx ?_;exact⟨_,_,(Za.perm _ (List.Perm.swap _ _ _)).trans (Za.tail _ _ _),hk h1 r1 om oe le1 okm oke i1⟩
    rw[if_neg c1]at eX;refine lM ?_;rw[<- em];refine YN (.tk 0 (.tk 1 (.tk 2 (.tk 3 (.tk 4 (.tk 6 (.tkl 5 (.tkl 7 (.tk 8 (.o1 9 (.o1 10 (.tk 11 (.tk 12 (.tk 13 (.o2 14 (.fin) (.nil))))) (.nil)) (.nil))))))))))) qg qg [(0,.pointer (some ⟨bb,0,none⟩)),(3,.pointer (some ⟨b3,0,none⟩)),(4,.int .i64 s.ae.length)] [_,_] (γ:=Option (Nat×Nat)) (fun om'=>okO om' (s.ae.length+1)/\apO om' [] h/\apB om' bb/\apB om' b3) (fun _=>[(0,.pointer (some ⟨bb,0,none⟩)),(3,.pointer (some ⟨b3,0,none⟩)),(4,.int .i64 s.ae.length)])
      (fun om'=>⟨b3,164,[.int .i64 d.au,.int .i64 d.mem,.int .u64 d.amt,.bool true],4⟩::tB bb s ⟨vp,ovs om' (s.ae.length+1),ovs oe s.entry.length,vx,vo,vd,vt,vk,vr⟩ r q w::tMo om' (s.ae++[⟨0,0,0,0,d.au,4⟩]) (oent 3 1 oe (s.entry.map (.int .i64)) L)) (fun _=>h) qx drop2Z ?_ ?_
    · refine xx ?_;refine ZY fun b40 nb40 zb40=>?_;(try simp only[ZS]at nb40);refine xkp ((Za.tail _ _ _).trans drop2Z) ?_;refine xx ?_;refine ZZ (t:=26) (e:=74) (sz:=6) (bytes:=48) qg Yer rfl rfl rfl rfl qh [_,_,_] _ om s.ae.length (s.ae.flatMap YD) okm (Z1 Z8 _) (Src.own (b:=b40) (t:=74) (cap:=6) List.mem_cons_self) (m:=1) (news:=YD ⟨0,0,0,0,d.au,4⟩) rfl (Zbs _) qm qf ?_;intro om' j1 j2 j3;simp only[List.cons_append,List.nil_append]at j2 ⊢;refine xkp ((Za.tail _ _ _).trans drop2Z) ?_;refine xx ?_;refine⟨om',⟨j1,?_,?_,?_⟩,qi,?_⟩
      · cases om' with
        | none=>trivial
        | some p=>exact⟨trivial,j2.2⟩
      · cases om' with
        | none=>trivial
        | some p=>exact Ne.symm j2.1.2.2.1
      · cases om' with
        | none=>trivial
        | some p=>exact Ne.symm j2.1.2.1
      · simp only[tMo,List.flatMap_append,List.flatMap_cons,List.flatMap_nil,List.append_nil];exact Za.tail _ _ _
    rintro om' ⟨okm',hom',nmb',nm3'⟩;clear hom nmb nm3 em;obtain⟨bm,cm,rfl⟩:∃bm cm,om'=some (bm,cm):=by
      cases om' with
      | none=>have:s.ae.length+1=0:=okm';omega
      | some p=>exact⟨_,_,rfl⟩
    obtain⟨MS,hMS⟩:∃MS,MS=s.ae++[(⟨0,0,0,0,d.au,4⟩:Zc)]:=⟨_,rfl⟩
    obtain⟨I,hI⟩:∃I,I=s.ae.length:=⟨_,rfl⟩
    have hIl:I<MS.length:=by rw[hMS,List.length_append,hI];simp
    have eMl:s.ae.length+1=MS.length:=by rw[hMS,List.length_append];rfl
    rw[<- hMS,<- hI]at eX;rw[<- hMS];rw[eMl]at okm' ⊢;rw[<- hI];have hMo:∀x∈MS,Zf x:=fun y hy=>by
      rw[hMS]at hy;rcases List.mem_append.1 hy with hy|hy
      · exact cr.b.m y hy
      · rw[List.mem_singleton]at hy;subst hy
        exact⟨fun z hz=>by simp at hz;omega,fun z hz=>by
          simp only[List.mem_cons,List.not_mem_nil,or_false]at hz
          rcases hz with rfl|rfl|rfl<;>omega⟩
    have hMt:tot (MS.map Zc.bal)=tot (s.ae.map Zc.bal):=by
      rw[hMS];simp only[List.map_append,List.map_cons,List.map_nil,UF,Wv,Zaf];omega
    have hMl:MS.length<=128:=by rw[<- eMl];omega
    have hbm:h bm=noC:=hom'.2;have e1:NeB bb b3:=n3b;have e2:NeB bm b3:=nm3';have e3:NeB bb bm:=Ne.symm nmb';have e4:NeB b3 bm:=Ne.symm nm3';have e5:NeB b3 bb:=Ne.symm n3b;clear n3b nm3' nmb' hom';obtain⟨m,hmm⟩:∃m,m=gr ZQ MS I:=⟨_,rfl⟩
    have mo:Zf m:=hMo m wu;have ub:=mo.u m.bal qj;have hbt:=Yj (WA hMo) I;rw[WI hIl,<- hmm]at hbt;obtain⟨g1',g2',g3',g4',g5',g6'⟩:=GU ok mo hda;rw[Zht hmm]at eX;rw[eX]at hk xp xt xb;simp only at hk xp xt xb;rw[Wz _ _ _ _ qf,if_pos rfl]at xp;have hg:=Zah hIl;rw[<- hmm]at hg;obtain⟨g0,g1,g2,g3,g4,g5⟩:=hg;have hi6:=YC (w:=6) hIl (show 5<6 from qh);have hsm:=Zbl (ms:=MS) rfl;simp only[tMo,Z7,Yl];refine lN ?_;obtain⟨M,hM⟩:∃M,M=Ur s.par m d.amt:=⟨_,rfl⟩
    obtain⟨Z,hZ⟩:∃Z,Z=d.amt-YS s.par m d.amt:=⟨_,rfl⟩
    rw[<- hM]at hk xt xb g6';rw[<- hZ]at hk xp xt;refine YN (.tk 0 (.tk 1 (.tk 2 (.tk 3 (.tk 5 (.tk 6 (.tk 7 (.tk 8 (.tk 10 (.tk 13 (.tkl 4 (.tkl 9 (.tk 11 (.tkl 12 (.tkl 14 (.o1 15 (.tk 16 (.tk 17 (.tk 18 (.o1 19 (.o2 20 (.tk 21 (.fin)) (.nil)) (.nil))))) (.o1 19 (.o1 15 (.tk 16 (.tk 17 (.tk 18 (.o2 20 (.tk 21 (.fin)) (.nil))))) (.nil)) (.nil)))))))))))))))))) qg qg [(0,.pointer (some ⟨bb,0,none⟩)),(3,.pointer (some ⟨b3,0,none⟩)),(4,.int .i64 I),(5,.int .i64 m.status)] _ (γ:=Nat) (fun b6=>bb≠b6/\bm≠b6/\b3≠b6/\h b6=noC)
      (fun b6=>[(0,.pointer (some ⟨bb,0,none⟩)),(3,.pointer (some ⟨b3,0,none⟩)),(4,.int .i64 I),(5,.int .i64 m.status),(6,.pointer (some ⟨b6,0,none⟩)),(7,.int .u64 Z)])
      (fun b6=>⟨b6,74,YD M,6⟩::⟨b3,164,[.int .i64 d.au,.int .i64 d.mem,.int .u64 d.amt,.bool true],4⟩::tB bb s ⟨vp,.slice (some ⟨bm,0,none⟩) MS.length cm,ovs oe s.entry.length,vx,vo,vd,vt,vk,vr⟩ r q w::tM bm cm MS::oent 3 1 oe (s.entry.map (.int .i64)) L) (fun _=>h) qx (Za.refl _ _) ?_ ?_
    · repeat' first
        | with_reducible refine Yf ?_ ?_
        | simp -dsimp -implicitDefEqProofs (disch:=first|exact dD|fail) [go_sem,g0,g1,g2,g3,g4,g5]
        | (with_reducible refine ZY fun b6 nb6 zb6 => ?_
           simp only[ZS]at nb6)
        | (with_reducible show WW prog 315 _ _ _ _
           refine Zdc s.par ok hr m mo d.amt ⟨hda,qf⟩ qf ?_
           rw[<- hM,<- hZ])
        | with_reducible refine xkp (Za.refl _ _) ?_
        | with_reducible refine xkp (Za.tail _ _ _) ?_
        | fail
      all_goals exact⟨b6,⟨nb6.2.1,nb6.2.2.1,nb6.1,zb6⟩,qi,Za.refl _ _⟩
    rintro b6 ⟨n6b,n6m,n63,h6⟩;have f1:NeB bb b6:=n6b;have f2:NeB bm b6:=n6m;have f3:NeB b3 b6:=n63;have f4:NeB b6 bb:=Ne.symm n6b;have f5:NeB b6 bm:=Ne.symm n6m;have f6:NeB b6 b3:=Ne.symm n63;clear n6b n6m n63;simp only[YD];refine xx ?_;refine Z4 (.tk 0 (.tk 1 (.tk 2 (.tk 3 (.tk 5 (.tkl 4 (.tkl 6 (.tk 7 (.o2 8 (.fin) (.nil)))))))))) qg qg _ (Za.refl _ _) ?_;refine xx ?_;refine⟨qf,?_⟩;have hset:((((((MS.flatMap YD).set (I*6) (Value.int .u64 M.bal)).set (I*6+1) (.int .u64 M.eff)).set (I*6+1+1) (.int .u64 M.score)).set (I*6+1+1+1) (.int .i64 M.ak)).set (I*6+1+1+1+1) (.int .i64 M.owner)).set (I*6+1+1+1+1+1) (.int .i64 M.status)=(MS.set I M).flatMap YD:=U0 Z8 MS hIl M
    first
    | rw[hset]
    | (have hset' := hset
       simp only[YD]at hset'
       rw[hset'])
    try simp -dsimp -implicitDefEqProofs (disch:=first|exact dD|fail) [go_sem]
    refine Zyb (Zb.ap (UQ (s:={ s with ae:=MS.set I M }) (v:=⟨vp,.slice (some ⟨bm,0,none⟩) MS.length cm,ovs oe s.entry.length,vx,vo,vd,vt,vk,vr⟩) hp (by show s.ag.length<=1000;omega) d.au (by show 0<=d.au/\d.au<s.ag.length;omega) Z qf (by show at0 s.ag d.au.toNat+Z<=_;omega) fun h1 r1 le1 i1 ap=>?_));have hbb1:h1 bb=noC:=ap.1;have hb61:h1 b6=noC:=ap.2.1;have hb31:h1 b3=noC:=ap.2.2.1;clear ap
    try simp only
    refine xx ?_;have hMl2:(MS.set I M).length=MS.length:=List.length_set;by_cases c2:M.status=m.status
    · rw[if_pos c2]at hk;have hk:=hk h1 r1 (some (bm,cm)) oe le1 qZ oke i1;rw[hMl2]at hk;refine xx ?_;exact⟨_,_,(Za.perm _ (List.perm_middle (l₁:=[_,_])).symm).trans ((Za.tail _ _ _).trans (Za.tail _ _ _)),hk⟩
    · rw[if_neg c2]at hk;refine xx ?_;refine ZY fun b98 nb98 zb98=>?_;(try simp only[ZS]at nb98);have f7:NeB b98 bb:=Ne.symm nb98.1;clear nb98;refine xx ?_;refine ZZ (t:=27) (e:=3) (sz:=1) (bytes:=8) (z:=[.int .i64 0]) qg V6 rfl rfl rfl rfl qh [_,_,_,_,_] _ oe s.entry.length (s.entry.map (.int .i64)) oke qj (Src.own (b:=b98) (t:=3) (cap:=1) List.mem_cons_self) (m:=1) (news:=[.int .i64 I]) rfl (fun u hu=>qw) qm qf ?_;intro oe' j1 j2 j3;simp only[List.cons_append,List.nil_append];refine xx ?_;have hk:=hk h1 r1 (some (bm,cm)) oe' le1 qZ zf i1;rw[hMl2]at hk;simp only[List.map_append,List.map_cons,List.map_nil,List.length_append,List.length_singleton]at hk;exact ZO ⟨_,_,(Za.perm _ (List.perm_middle (l₁:=[_,_])).symm).trans ((Za.tail _ _ _).trans (Za.tail _ _ _)),hk⟩
  | false =>
    have hme:0<=d.mem/\d.mem<s.ae.length:=by
      rcases hmem with c|c
      · rw[hnew]at c;cases c
      · exact c
    obtain⟨I,hI⟩:=Int.eq_ofNat_of_zero_le hme.1;have eX:X=Zln s.par I d.amt d.au ⟨s.ae,s.ag,s.entry⟩:=by rw[hX,YM,hnew,if_neg qh,hI,Int.toNat_natCast]
    obtain⟨bm,cm,rfl⟩:∃bm cm,om=some (bm,cm):=by
      cases om with
      | none=>have:s.ae.length=0:=okm;omega
      | some p=>exact⟨_,_,rfl⟩
    have okm':=okm;have hom':=hom;have nmb':=nmb;have nm3':=nm3;clear hom nmb nm3;obtain⟨MS,hMS⟩:∃MS,MS=s.ae:=⟨_,rfl⟩
    have hIl:I<MS.length:=by rw[hMS];omega
    rw[<- hMS]at eX okm';rw[<- hMS];have hMo:∀x∈MS,Zf x:=fun y hy=>cr.b.m y (by rw[hMS]at hy;exact hy);have hMt:tot (MS.map Zc.bal)=tot (s.ae.map Zc.bal):=by rw[hMS]
    have hMl:MS.length<=128:=by rw[hMS];omega
    rw[hI];have hbm:h bm=noC:=hom'.2;have e1:NeB bb b3:=n3b;have e2:NeB bm b3:=nm3';have e3:NeB bb bm:=Ne.symm nmb';have e4:NeB b3 bm:=Ne.symm nm3';have e5:NeB b3 bb:=Ne.symm n3b;clear n3b nm3' nmb' hom';obtain⟨m,hmm⟩:∃m,m=gr ZQ MS I:=⟨_,rfl⟩
    have mo:Zf m:=hMo m wu;have ub:=mo.u m.bal qj;have hbt:=Yj (WA hMo) I;rw[WI hIl,<- hmm]at hbt;obtain⟨g1',g2',g3',g4',g5',g6'⟩:=GU ok mo hda;rw[Zht hmm]at eX;rw[eX]at hk xp xt xb;simp only at hk xp xt xb;rw[Wz _ _ _ _ qf,if_pos rfl]at xp;have hg:=Zah hIl;rw[<- hmm]at hg;obtain⟨g0,g1,g2,g3,g4,g5⟩:=hg;have hi6:=YC (w:=6) hIl (show 5<6 from qh);have hsm:=Zbl (ms:=MS) rfl;simp only[tMo,Z7,Yl];refine lN ?_;obtain⟨M,hM⟩:∃M,M=Ur s.par m d.amt:=⟨_,rfl⟩
    obtain⟨Z,hZ⟩:∃Z,Z=d.amt-YS s.par m d.amt:=⟨_,rfl⟩
    rw[<- hM]at hk xt xb g6';rw[<- hZ]at hk xp xt;refine YN (.tk 0 (.tk 1 (.tk 2 (.tk 3 (.tk 5 (.tk 6 (.tk 7 (.tk 8 (.tk 10 (.tk 13 (.tkl 4 (.tkl 9 (.tk 11 (.tkl 12 (.tkl 14 (.o1 15 (.tk 16 (.tk 17 (.tk 18 (.o1 19 (.o2 20 (.tk 21 (.fin)) (.nil)) (.nil))))) (.o1 19 (.o1 15 (.tk 16 (.tk 17 (.tk 18 (.o2 20 (.tk 21 (.fin)) (.nil))))) (.nil)) (.nil)))))))))))))))))) qg qg [(0,.pointer (some ⟨bb,0,none⟩)),(3,.pointer (some ⟨b3,0,none⟩)),(4,.int .i64 I),(5,.int .i64 m.status)] _ (γ:=Nat) (fun b6=>bb≠b6/\bm≠b6/\b3≠b6/\h b6=noC)
      (fun b6=>[(0,.pointer (some ⟨bb,0,none⟩)),(3,.pointer (some ⟨b3,0,none⟩)),(4,.int .i64 I),(5,.int .i64 m.status),(6,.pointer (some ⟨b6,0,none⟩)),(7,.int .u64 Z)])
      (fun b6=>⟨b6,74,YD M,6⟩::⟨b3,164,[.int .i64 d.au,.int .i64 I,.int .u64 d.amt,.bool false],4⟩::tB bb s ⟨vp,.slice (some ⟨bm,0,none⟩) MS.length cm,ovs oe s.entry.length,vx,vo,vd,vt,vk,vr⟩ r q w::tM bm cm MS::oent 3 1 oe (s.entry.map (.int .i64)) L) (fun _=>h) qx (Za.refl _ _) ?_ ?_
    · repeat' first
        | with_reducible refine Yf ?_ ?_
        | simp -dsimp -implicitDefEqProofs (disch:=first|exact dD|fail) [go_sem,g0,g1,g2,g3,g4,g5]
        | (with_reducible refine ZY fun b6 nb6 zb6 => ?_
           simp only[ZS]at nb6)
        | (with_reducible show WW prog 315 _ _ _ _
           refine Zdc s.par ok hr m mo d.amt ⟨hda,qf⟩ qf ?_
           rw[<- hM,<- hZ])
        | with_reducible refine xkp (Za.refl _ _) ?_
        | with_reducible refine xkp (Za.tail _ _ _) ?_
        | fail
      all_goals exact⟨b6,⟨nb6.2.1,nb6.2.2.1,nb6.1,zb6⟩,qi,Za.refl _ _⟩
    rintro b6 ⟨n6b,n6m,n63,h6⟩;have f1:NeB bb b6:=n6b;have f2:NeB bm b6:=n6m;have f3:NeB b3 b6:=n63;have f4:NeB b6 bb:=Ne.symm n6b;have f5:NeB b6 bm:=Ne.symm n6m;have f6:NeB b6 b3:=Ne.symm n63;clear n6b n6m n63;simp only[YD];refine xx ?_;refine Z4 (.tk 0 (.tk 1 (.tk 2 (.tk 3 (.tk 5 (.tkl 4 (.tkl 6 (.tk 7 (.o2 8 (.fin) (.nil)))))))))) qg qg _ (Za.refl _ _) ?_;refine xx ?_;refine⟨qf,?_⟩;have hset:((((((MS.flatMap YD).set (I*6) (Value.int .u64 M.bal)).set (I*6+1) (.int .u64 M.eff)).set (I*6+1+1) (.int .u64 M.score)).set (I*6+1+1+1) (.int .i64 M.ak)).set (I*6+1+1+1+1) (.int .i64 M.owner)).set (I*6+1+1+1+1+1) (.int .i64 M.status)=(MS.set I M).flatMap YD:=U0 Z8 MS hIl M
    first
    | rw[hset]
    | (have hset' := hset
       simp only[YD]at hset'
       rw[hset'])
    try simp -dsimp -implicitDefEqProofs (disch:=first|exact dD|fail) [go_sem]
    refine Zyb (Zb.ap (UQ (s:={ s with ae:=MS.set I M }) (v:=⟨vp,.slice (some ⟨bm,0,none⟩) MS.length cm,ovs oe s.entry.length,vx,vo,vd,vt,vk,vr⟩) hp (by show s.ag.length<=1000;omega) d.au (by show 0<=d.au/\d.au<s.ag.length;omega) Z qf (by show at0 s.ag d.au.toNat+Z<=_;omega) fun h1 r1 le1 i1 ap=>?_));have hbb1:h1 bb=noC:=ap.1;have hb61:h1 b6=noC:=ap.2.1;have hb31:h1 b3=noC:=ap.2.2.1;clear ap
    try simp only
    refine xx ?_;have hMl2:(MS.set I M).length=MS.length:=List.length_set;by_cases c2:M.status=m.status
    · rw[if_pos c2]at hk;have hk:=hk h1 r1 (some (bm,cm)) oe le1 qZ oke i1;rw[hMl2]at hk;refine xx ?_;exact⟨_,_,(Za.perm _ (List.perm_middle (l₁:=[_,_])).symm).trans ((Za.tail _ _ _).trans (Za.tail _ _ _)),hk⟩
    · rw[if_neg c2]at hk;refine xx ?_;refine ZY fun b98 nb98 zb98=>?_;(try simp only[ZS]at nb98);have f7:NeB b98 bb:=Ne.symm nb98.1;clear nb98;refine xx ?_;refine ZZ (t:=27) (e:=3) (sz:=1) (bytes:=8) (z:=[.int .i64 0]) qg V6 rfl rfl rfl rfl qh [_,_,_,_,_] _ oe s.entry.length (s.entry.map (.int .i64)) oke qj (Src.own (b:=b98) (t:=3) (cap:=1) List.mem_cons_self) (m:=1) (news:=[.int .i64 I]) rfl (fun u hu=>qw) qm qf ?_;intro oe' j1 j2 j3;simp only[List.cons_append,List.nil_append];refine xx ?_;have hk:=hk h1 r1 (some (bm,cm)) oe' le1 qZ zf i1;rw[hMl2]at hk;simp only[List.map_append,List.map_cons,List.map_nil,List.length_append,List.length_singleton]at hk;exact ZO ⟨_,_,(Za.perm _ (List.perm_middle (l₁:=[_,_])).symm).trans ((Za.tail _ _ _).trans (Za.tail _ _ _)),hk⟩
section
variable {e0 s0 e1 s1 e2 s2 e3 s3 e4 s4:Nat} {o0 o1 o2 o3 o4:Option (Nat×Nat)} {X0 X1 X2 X3 X4:List Value} {a b c:Zn}
theorem permF:(oent e4 s4 o4 X4 (a::oent e0 s0 o0 X0 (oent e1 s1 o1 X1 (oent e2 s2 o2 X2 (oent e3 s3 o3 X3 L))))).Perm (a::oent e0 s0 o0 X0 (oent e1 s1 o1 X1 (oent e2 s2 o2 X2 (oent e3 s3 o3 X3 (oent e4 s4 o4 X4 L))))):=by
 refine oent_perm.symm.trans (List.Perm.cons _ ?_);refine(Yq o4 o0 X4 X0 _).trans (Z2 o0 X0 ?_);refine(Yq o4 o1 X4 X1 _).trans (Z2 o1 X1 ?_);refine(Yq o4 o2 X4 X2 _).trans (Z2 o2 X2 ?_);exact Yq o4 o3 X4 X3 _
theorem Yto:(a::oent e0 s0 o0 X0 (oent e1 s1 o1 X1 (oent e2 s2 o2 X2 (oent e3 s3 o3 X3 (oent e4 s4 o4 X4 L))))).Perm (a::oent e0 s0 o0 X0 (oent e4 s4 o4 X4 (oent e1 s1 o1 X1 (oent e2 s2 o2 X2 (oent e3 s3 o3 X3 L))))):=by
 refine permF.symm.trans ?_;refine oent_perm.symm.trans (List.Perm.cons _ ?_);exact Yq o4 o0 X4 X0 _
theorem permO:(c::a::b::oent e1 s1 o1 X1 (oent e2 s2 o2 X2 (oent e3 s3 o3 X3 L))).Perm (a::b::oent e2 s2 o2 X2 (oent e3 s3 o3 X3 (c::oent e1 s1 o1 X1 L))):=by
 refine perm3.trans (List.Perm.cons _ (List.Perm.cons _ ?_));refine(List.Perm.cons _ ((Yq o1 o2 X1 X2 _).trans (Z2 o2 X2 (Yq o1 o3 X1 X3 _)))).trans ?_;exact oent_perm.trans (Z2 o2 X2 oent_perm)
end
structure StG where
 k:Nat
 h:PH
 d:Value
 oo:Option (Nat×Nat)
 os:Option (Nat×Nat)
structure CrG where
 k:Nat
 h:PH
 p:Value
 om:Option (Nat×Nat)
 oe:Option (Nat×Nat)
theorem Zug {bb D:Nat}{om oe os oo ox:Option (Nat×Nat)}{s:Zg}{v:SV}{r:Zi}{q:RV}{w:Int}(ti:Zq s D)(hD:D<=30000)(hw:0<=w/\w<=1000)(hol:r.out.length<=700)(hsl:r.started.length<=700)(hp:Ints h .u64 v.p s.ag)(hd:Zd Yh 3 h v.d s.ai)(hpo:Zd UK 4 h v.o s.aj)
    (hm:v.m=ovs om s.ae.length) (okm:okO om s.ae.length) (he:v.e=ovs oe s.entry.length) (oke:okO oe s.entry.length) (hx:v.x=ovs ox s.exit.length) (okx:okO ox s.exit.length) (ho:q.o=ovs oo r.out.length) (oko:okO oo r.out.length) (hs:q.s=ovs os r.started.length) (oks:okO os r.started.length)
    (hk:∀h' pv dv ov om' oe' os' oo',PH.le h h'->Ints h' .u64 pv (enS s r (min (s.ep+w) 2147483647)).ag->Zd Yh 3 h' dv (enS s r (min (s.ep+w) 2147483647)).ai->Zd UK 4 h' ov (enS s r (min (s.ep+w) 2147483647)).aj ->
      okO om' (enS s r (min (s.ep+w) 2147483647)).ae.length->okO oe' (enS s r (min (s.ep+w) 2147483647)).entry.length->okO os' (enR s r (min (s.ep+w) 2147483647)).started.length->okO oo' (enR s r (min (s.ep+w) 2147483647)).out.length->okO ox (enS s r (min (s.ep+w) 2147483647)).exit.length ->
      K (.tuple #[]) (tB bb (enS s r (min (s.ep+w) 2147483647)) { v with p:=pv,d:=dv,o:=ov,m:=ovs om' (enS s r (min (s.ep+w) 2147483647)).ae.length,e:=ovs oe' (enS s r (min (s.ep+w) 2147483647)).entry.length,x:=ovs ox (enS s r (min (s.ep+w) 2147483647)).exit.length } (enR s r (min (s.ep+w) 2147483647)) { q with o:=ovs oo' (enR s r (min (s.ep+w) 2147483647)).out.length,s:=ovs os' (enR s r (min (s.ep+w) 2147483647)).started.length } w::tMo om' (enS s r (min (s.ep+w) 2147483647)).ae (oent 3 1 oe' ((enS s r (min (s.ep+w) 2147483647)).entry.map (.int .i64)) (oent 3 1 os' ((enR s r (min (s.ep+w) 2147483647)).started.map (.int .i64)) (oent 3 1 oo' ((enR s r (min (s.ep+w) 2147483647)).out.map (.int .i64)) (oent 3 1 ox ((enS s r (min (s.ep+w) 2147483647)).exit.map (.int .i64)) L))))) h') :
    Zb prog 88 [.pointer (some ⟨bb,0,none⟩)] (tB bb s v r q w::tMo om s.ae (oent 3 1 oe (s.entry.map (.int .i64)) (oent 3 1 os (r.started.map (.int .i64)) (oent 3 1 oo (r.out.map (.int .i64)) (oent 3 1 ox (s.exit.map (.int .i64)) L))))) h K:=by
  obtain⟨vp,vm,ve,vx,vo,vd,vt,vk,vr⟩:=v;obtain⟨qo,ql,qs,qd⟩:=q;simp only at hm hp hd hpo he hx ho hs hk ⊢;subst hm;subst he;subst hx;subst ho;subst hs;obtain⟨t,ht⟩:∃t,t=min (s.ep+w) 2147483647:=⟨_,rfl⟩
  rw[<- ht]at hk;have hep:=ti.ep;have htb:0<=t/\t<=2147483647:=qf;have hml:=ti.ml;have hpl:=ti.pl;have hdn:=ti.dn;have hon:=ti.on;have hpc:=Yc ti.r;have hsum:=ti.sum;obtain⟨p1,p2,p3,p4,p5,p6⟩:=ti.parts;refine eG func88 fun ap nd=>?_;have hbb:h bb=noC:=ap.1;clear ap nd;refine xx ?_;refine xif (fun hq=>?_) (fun hq=>?_)
  rotate_left
  · have eS:enS s r t=s:=by unfold enS;rw[hq];rfl
    have eR:enR s r t=r:=by unfold enR;rw[hq];rfl
    rw[eS,eR]at hk;have hk:=hk h vp vd vo om oe os oo (PH.le_refl _) hp hd hpo okm oke oks oko okx;refine xx ?_;exact ZP hk
  have eS:enS s r t={ s with aj:=[],ae:=(enY s r t).ms,ag:=(enX s).ps,entry:=(enX s).en.drop s.par.aK.toNat,ai:=(enY s r t).ds,exit:=(enY s r t).ex }:=by unfold enS;rw[hq];rfl
  have eR:enR s r t={ r with out:=(enY s r t).out,started:=(enY s r t).go }:=by unfold enR;rw[hq];rfl
  rw[eS,eR]at hk;simp only at hk;obtain⟨oa,oc,rfl,_,_,_,hos⟩:=hpo.open;refine xx ?_;obtain⟨N,hN⟩:∃N,N=s.aj.length:=⟨_,rfl⟩
  rw[<- hN];refine Yi (γ:=CrG) ⟨0,h,vp,om,oe⟩ (fun y=>y.k<=N/\PH.le h y.h/\Ints y.h .u64 y.p (crK s.par s.aj ⟨s.ae,s.ag,s.entry⟩ y.k).ps/\okO y.om (crK s.par s.aj ⟨s.ae,s.ag,s.entry⟩ y.k).ms.length/\okO y.oe (crK s.par s.aj ⟨s.ae,s.ag,s.entry⟩ y.k).en.length/\y.h bb=noC)
    (fun y=>[(28,.int .i64 y.k),(27,.int .i64 N),(26,.slice oa N oc),(0,.pointer (some ⟨bb,0,none⟩))])
    (fun y=>tB bb { s with aj:=[],ae:=(crK s.par s.aj ⟨s.ae,s.ag,s.entry⟩ y.k).ms,ag:=(crK s.par s.aj ⟨s.ae,s.ag,s.entry⟩ y.k).ps,entry:=(crK s.par s.aj ⟨s.ae,s.ag,s.entry⟩ y.k).en } ⟨y.p,ovs y.om (crK s.par s.aj ⟨s.ae,s.ag,s.entry⟩ y.k).ms.length,ovs y.oe (crK s.par s.aj ⟨s.ae,s.ag,s.entry⟩ y.k).en.length,ovs ox s.exit.length,.slice none 0 0,vd,vt,vk,vr⟩ r ⟨ovs oo r.out.length,ql,ovs os r.started.length,qd⟩ w::tMo y.om (crK s.par s.aj ⟨s.ae,s.ag,s.entry⟩ y.k).ms (oent 3 1 y.oe ((crK s.par s.aj ⟨s.ae,s.ag,s.entry⟩ y.k).en.map (.int .i64)) (oent 3 1 os (r.started.map (.int .i64)) (oent 3 1 oo (r.out.map (.int .i64)) (oent 3 1 ox (s.exit.map (.int .i64)) L))))) (fun y=>y.h) (fun y=>N-y.k) ?_ ?_ ?_ ?_
  · exact⟨Nat.zero_le _,PH.le_refl _,hp,okm,oke,hbb⟩
  · simp [Ent,List.lookup,YT]
  · exact Za.refl _ _
  rintro⟨k,h1,pv,om1,oe1⟩ ⟨k1,le1,ip,okm1,oke1,hbb1⟩;simp only at k1 le1 ip okm1 oke1 hbb1 ⊢;obtain⟨cr,crl⟩:=Yek ti (k:=k) qf;by_cases c1:k<N
  · obtain⟨d,hdd⟩:∃d,d=gr Yg s.aj k:=⟨_,rfl⟩
    have hdm:d∈s.aj:=by rw[hdd];exact Yp qf
    obtain⟨d1,d2,d3,d4⟩:=ti.oo d hdm;obtain⟨cr2,_⟩:=Yek ti (k:=k+1) qf;have hsk:=(Zhk (l:=s.aj.map Zk.amt) (fun i=>W9 Zk.amt s.aj (fun x hx=>(ti.oo x hx).1.a.1) i) (k:=k+1) qI).2;have esk:YE (s.aj.map Zk.amt) (k+1)=YE (s.aj.map Zk.amt) k+d.amt:=by
      rw[YE,hdd,Ye qf,<- Ys qI,List.getElem_map]
    have eK:crK s.par s.aj ⟨s.ae,s.ag,s.entry⟩ (k+1)=YM s.par d (crK s.par s.aj ⟨s.ae,s.ag,s.entry⟩ k):=by rw[crK,hdd]
    obtain⟨X,hX⟩:∃X,X=crK s.par s.aj ⟨s.ae,s.ag,s.entry⟩ k:=⟨_,rfl⟩
    rw[<- hX]at ip okm1 oke1 cr crl eK ⊢;have hos1:=hos.up le1;simp -dsimp -implicitDefEqProofs (disch:=first|exact dD|fail) [go_sem,↓Us Yg qh hos1,UK];rw[<- hdd];refine ZY fun b4 nb4 zb4=>?_;(try simp only[ZS]at nb4);have n4:=nb4.1;clear nb4;refine xq ?_;refine Zb.weaken (Za.perm _ ((List.Perm.swap _ _ _).trans (List.Perm.cons _ (oent_perm.trans (Z2 _ _ oent_perm))))) ?_;have crX:ZF s.exit ⟨X.ms,X.ps,X.en⟩ s.ag.length (tot s.ag+tot (s.ae.map Zc.bal)+YE (s.aj.map Zk.amt) k):=cr;refine Zb.ap (Zoa (s:={ s with aj:=[],ae:=X.ms,ag:=X.ps,entry:=X.en }) (v:=⟨pv,ovs om1 X.ms.length,ovs oe1 X.en.length,ovs ox s.exit.length,.slice none 0 0,vd,vt,vk,vr⟩) (om:=om1) (oe:=oe1) (d:=d) ti.ok.p ti.r hpl crX qf d1.a.1 ⟨d2,d3⟩ (d4.imp id fun c=>⟨c.1,by show d.mem<(X.ms.length:Int);omega⟩) ip rfl okm1 rfl oke1 fun h2 p2 om2 oe2 le2 ok2 ok3 i2 ap=>?_);have hbb2:h2 bb=noC:=ap.1;clear ap;have eX:YM s.par d ⟨X.ms,X.ps,X.en⟩=YM s.par d X:=rfl;rw[eX]at ok2 ok3 i2 ⊢;refine xx ?_;refine⟨⟨k+1,h2,p2,om2,oe2⟩,⟨qp,le1.trans le2,by rw[eK];exact i2,by rw[eK];exact ok2,by rw[eK];exact ok3,hbb2⟩,qp,qi,?_⟩;simp only;rw[eK];exact Za.sub (.cons_cons _ (V9 _ (V9 _ (List.sublist_cons_self _ _))))
  obtain rfl:N=k:=qf;have eXX:crK s.par s.aj ⟨s.ae,s.ag,s.entry⟩ N=enX s:=by rw[hN];rfl
  obtain⟨cx,cxl⟩:=Yei ti;obtain⟨ew1,ew2⟩:=Ysp ti;rw[eXX]at ip okm1 oke1 ⊢;have cl1:=cx.l1;refine xx ?_;refine Z4 (.tk 0 (.tk 1 (.tk 2 (.tk 3 (.tk 5 (.tk 6 (.tk 7 (.tk 8 (.tk 9 (.tkl 4 (.tkl 10 (.o1 11 (.tk 12 (.tk 13 (.tk 14 (.tk 15 (.tk 16 (.fin)))))) (.nil))))))))))))) qg qg [_] drop1 ?_;refine xx ?_;refine Zb.entr fun ap nd=>?_;have aoe:=Yk (Ap.oent ap.2);clear ap nd;have lx:=YL aoe ((enX s).en.map (.int .i64));have sx:=WE (h:=h1) (sz:=1) (n:=(enX s).en.length) (o:=oe1) (xs:=(enX s).en.map (.int .i64)) oke1 qj qf;refine Zb.weaken ((Za.perm h1 permL).trans (YG oe1 _ _ h1 qh)) ?_
  generalize Jh h1 oe1 ((enX s).en.map (.int .i64))=h2 at lx sx ⊢
  have ix:=Uh cx.e cl1 sx;clear aoe sx;obtain⟨R,hR⟩:∃R,R=(enX s).en.drop s.par.aK.toNat:=⟨_,rfl⟩
  refine Zb.apn (Zb.fin (Zel _ ix qf (fun z hz=>(VL cx.e hz).1) cx.e.1 s.par.aK ⟨qf,qf⟩ fun h3 rv oe3 le3 iw ok3 ap3=>⟨_,_,Za.perm _ permF,fun ap nd=>?_⟩));have hbb3:h3 bb=noC:=ap.1;have hom3:apO om1 [] h3:=Yk ap.2;have nmb:apB om1 bb:=Z3 nd.1;clear ap nd ap3;have le13:=lx.trans le3;refine xkp (drop1.trans (Za.forget le13)) ?_;have eW:(enX s).en.take s.par.aK.toNat=enW s:=rfl;rw[eW]at iw;rw[<- hR]at ok3 hk ⊢;obtain⟨N,hN2⟩:∃N,N=(enW s).length:=⟨_,rfl⟩
  obtain⟨wa,wc,rfl,_,_,_,hws⟩:=iw.open;rw[<- hN2]at hws ew1 ⊢;have hpx:tot (enX s).ps+tot ((enX s).ms.map Zc.bal)=tot s.ag+tot (s.ae.map Zc.bal)+tot (s.aj.map Zk.amt):=cx.t;have hpp:=cx.b.pur;obtain⟨X0,hX0⟩:∃X0:StX,X0=⟨(enX s).ms,s.ai,s.exit,r.out,r.started⟩:=⟨_,rfl⟩
  have hst:=fun k (hk:k<=N)=>Ztf ti r htb (k:=k) qf;rw[<- hX0,<- hR]at hst;have hda:=Zhv (p:=s.par) htb (enW s) (x:=X0) (rest:=R) (by rw[hX0];exact ti.dd) (fun k hk=>hst k qf) (by rw[hX0];show Y9 s.ai+tot ((enX s).ms.map Zc.bal)<=_;omega);refine xx ?_;refine Yi (γ:=StG) ⟨0,h3,vd,oo,os⟩ (fun y=>y.k<=N/\PH.le h3 y.h/\Zd Yh 3 y.h y.d (stK s.par t (enW s) X0 y.k).ds/\okO y.oo (stK s.par t (enW s) X0 y.k).out.length/\okO y.os (stK s.par t (enW s) X0 y.k).go.length/\okO ox (stK s.par t (enW s) X0 y.k).ex.length/\y.h bb=noC/\apO om1 [] y.h)
    (fun y=>[(58,.int .i64 y.k),(57,.int .i64 N),(56,.slice wa N wc),(0,.pointer (some ⟨bb,0,none⟩))])
    (fun y=>tB bb { s with aj:=[],ae:=(stK s.par t (enW s) X0 y.k).ms,ag:=(enX s).ps,entry:=R,ai:=(stK s.par t (enW s) X0 y.k).ds,exit:=(stK s.par t (enW s) X0 y.k).ex } ⟨pv,ovs om1 (enX s).ms.length,ovs oe3 R.length,ovs ox (stK s.par t (enW s) X0 y.k).ex.length,.slice none 0 0,y.d,vt,vk,vr⟩ { r with out:=(stK s.par t (enW s) X0 y.k).out,started:=(stK s.par t (enW s) X0 y.k).go } ⟨ovs y.oo (stK s.par t (enW s) X0 y.k).out.length,ql,ovs y.os (stK s.par t (enW s) X0 y.k).go.length,qd⟩ w ::
      tMo om1 (stK s.par t (enW s) X0 y.k).ms (oent 3 1 y.os ((stK s.par t (enW s) X0 y.k).go.map (.int .i64)) (oent 3 1 y.oo ((stK s.par t (enW s) X0 y.k).out.map (.int .i64)) (oent 3 1 ox ((stK s.par t (enW s) X0 y.k).ex.map (.int .i64)) (oent 3 1 oe3 (R.map (.int .i64)) L))))) (fun y=>y.h) (fun y=>N-y.k) ?_ ?_ ?_ ?_
  · refine⟨Nat.zero_le _,PH.le_refl _,?_,?_,?_,?_,hbb3,hom3⟩
    · rw[show stK s.par t (enW s) X0 0=X0 from rfl,hX0];exact hd.up (le1.trans le13)
    · rw[show stK s.par t (enW s) X0 0=X0 from rfl,hX0];exact oko
    · rw[show stK s.par t (enW s) X0 0=X0 from rfl,hX0];exact oks
    · rw[show stK s.par t (enW s) X0 0=X0 from rfl,hX0];exact okx
  · simp [Ent,List.lookup]
  · rw[show stK s.par t (enW s) X0 0=X0 from rfl,hX0];exact Za.refl _ _
  rintro⟨k,h4,dv,oo1,os1⟩ ⟨k1,le4,id4,oko1,oks1,okx1,hbb4,hom4⟩;simp only at k1 le4 id4 oko1 oks1 okx1 hbb4 hom4 ⊢;have st:=hst k k1;have sl:(stK s.par t (enW s) X0 k).ms.length=(enX s).ms.length:=by rw[st.l1,hX0]
  have su:(stK s.par t (enW s) X0 k).out.length<=r.out.length+k:=by have:=st.u;rw[hX0]at this ⊢;exact this
  have sg:(stK s.par t (enW s) X0 k).go.length<=r.started.length+k:=by have:=st.g;rw[hX0]at this ⊢;exact this
  have sn:(stK s.par t (enW s) X0 k).ds.length<=s.ai.length+k:=by have:=st.n;rw[hX0]at this ⊢;exact this
  have stt:Y9 (stK s.par t (enW s) X0 k).ds+tot ((stK s.par t (enW s) X0 k).ms.map Zc.bal)=Y9 s.ai+tot ((enX s).ms.map Zc.bal):=by have:=st.t;rw[hX0]at this ⊢;exact this
  have sxl:=WR st.rx;by_cases c1:k<N
  · have hd0:(enW s).drop k=at0 (enW s) k::(enW s).drop (k+1):=wQ;have hin:=VL st.e (z:=at0 (enW s) k) (by rw[hd0];simp);obtain⟨i,hi⟩:=Int.eq_ofNat_of_zero_le hin.1;rw[hi]at hin;have hws4:∀j,j<N->Z9 h4 wa j=some (.int .i64 (at0 (enW s) j)):=fun j hj=>Yr le4 (hws j hj);have eK:stK s.par t (enW s) X0 (k+1)=J0 s.par t i (stK s.par t (enW s) X0 k):=by rw[stK,hi,Int.toNat_natCast]
    have hda1:=hda k qf;obtain⟨X,hX⟩:∃X,X=stK s.par t (enW s) X0 k:=⟨_,rfl⟩
    rw[<- hX]at id4 oko1 oks1 okx1 st sl su sg sn stt sxl hin hda1 eK ⊢;have hi2:i<X.ms.length:=qf;obtain⟨bm,cm,rfl⟩:∃bm cm,om1=some (bm,cm):=by
      cases om1 with
      | none=>have:(enX s).ms.length=0:=okm1;omega
      | some p=>exact⟨_,_,rfl⟩
    have nmb':bm≠bb:=nmb;have hbm4:h4 bm=noC:=hom4.2;obtain⟨m,hmm⟩:∃m,m=gr ZQ X.ms i:=⟨_,rfl⟩
    have mo:Zf m:=by rw[hmm];exact st.m _ (Yp hi2)
    have hoo:=st.o _ (Yp (z:=ZQ) hi2);have hg:=Zah hi2;rw[<- hmm]at hg;obtain⟨g0,g1,g2,g3,g4,g5⟩:=hg;have hi6:=YC (w:=6) hi2 (show 5<6 from qh);have hsm:=Zbl (ms:=X.ms) rfl;simp only[tMo,Z7,Yl];refine lQ ?_;rw[hi];obtain⟨M,hM⟩:∃M,M=Wo s.par m:=⟨_,rfl⟩
    refine YN (.tk 0 (.tk 1 (.tk 2 (.tk 3 (.tk 5 (.tk 6 (.tk 7 (.tk 8 (.tk 10 (.tkl 4 (.tkl 9 (.tk 11 (.tkl 12 (.o1 13 (.tk 14 (.tk 15 (.tk 16 (.o1 17 (.o2 18 (.tk 19 (.fin)) (.nil)) (.nil))))) (.o1 17 (.o1 13 (.tk 14 (.tk 15 (.tk 16 (.o2 18 (.tk 19 (.fin)) (.nil))))) (.nil)) (.nil)))))))))))))))) qg qg [(0,.pointer (some ⟨bb,0,none⟩)),(8,.int .i64 i),(58,.int .i64 k),(57,.int .i64 N),(56,.slice wa N wc)] _ (γ:=Nat) (fun b9=>bb≠b9/\bm≠b9/\h4 b9=noC)
      (fun b9=>[(0,.pointer (some ⟨bb,0,none⟩)),(8,.int .i64 i),(58,.int .i64 k),(57,.int .i64 N),(56,.slice wa N wc),(9,.pointer (some ⟨b9,0,none⟩)),(10,.bool M.2)])
      (fun b9=>⟨b9,74,YD M.1,6⟩::tB bb { s with aj:=[],ae:=X.ms,ag:=(enX s).ps,entry:=R,ai:=X.ds,exit:=X.ex } ⟨pv,.slice (some ⟨bm,0,none⟩) (enX s).ms.length cm,ovs oe3 R.length,ovs ox X.ex.length,.slice none 0 0,dv,vt,vk,vr⟩ { r with out:=X.out,started:=X.go } ⟨ovs oo1 X.out.length,ql,ovs os1 X.go.length,qd⟩ w ::
        tM bm cm X.ms::oent 3 1 os1 (X.go.map (.int .i64)) (oent 3 1 oo1 (X.out.map (.int .i64)) (oent 3 1 ox (X.ex.map (.int .i64)) (oent 3 1 oe3 (R.map (.int .i64)) L)))) (fun _=>h4) qi (Za.refl _ _) ?_ ?_
    · repeat' first
        | with_reducible refine Yf ?_ ?_
        | simp -dsimp -implicitDefEqProofs (disch:=first|exact dD|fail) [go_sem,g0,g1,g2,g3,g4,g5]
        | (with_reducible refine ZY fun b9 nb9 zb9 => ?_
           simp only[ZS]at nb9)
        | (with_reducible show WW prog 218 _ _ _ _
           refine Ztk s.par ti.ok.p ti.r m mo ?_
           rw[<- hM])
        | with_reducible refine xkp (Za.refl _ _) ?_
        | with_reducible refine xkp (Za.tail _ _ _) ?_
        | fail
      all_goals exact⟨b9,⟨nb9.1,nb9.2.1,zb9⟩,qi,Za.refl _ _⟩
    rintro b9 ⟨n9b,n9m,h9⟩;obtain⟨M1,M2⟩:=M;simp only;have stp:=Zdw ti.ok.p ti.r mo;rw[<- hM]at stp;simp only at stp;have eK2:stK s.par t (enW s) X0 (k+1)=if M2 then { X with ms:=X.ms.set i M1,go:=X.go++[(i:Int)] } else ⟨X.ms.set i (Zqm m),V3 X.ds (VB t m),flt X.ex i,X.out++[(i:Int)],X.go⟩:=by
      rw[eK,J0,<- hmm,<- hM]
    have hbt:=Yj (WA st.m) i;rw[WI hi2,<- hmm]at hbt
    cases M2 with
    | true =>
      rw[if_pos rfl]at eK2;simp only[YD];refine xx ?_;refine Z4 (.tk 0 (.tk 1 (.tk 2 (.tk 3 (.tk 5 (.tkl 4 (.tkl 6 (.tk 7 (.o2 8 (.fin) (.nil)))))))))) qg qg _ (Za.refl _ _) ?_;refine xx ?_;refine⟨qf,?_⟩;have hset:((((((X.ms.flatMap YD).set (i*6) (Value.int .u64 M1.bal)).set (i*6+1) (.int .u64 M1.eff)).set (i*6+1+1) (.int .u64 M1.score)).set (i*6+1+1+1) (.int .i64 M1.ak)).set (i*6+1+1+1+1) (.int .i64 M1.owner)).set (i*6+1+1+1+1+1) (.int .i64 M1.status)=(X.ms.set i M1).flatMap YD:=U0 Z8 X.ms hi2 M1
      first
      | rw[hset]
      | (have hset' := hset
         simp only[YD]at hset'
         rw[hset'])
      try simp -dsimp -implicitDefEqProofs (disch:=first|exact dD|fail) [go_sem]
      refine ZY fun b99 nb99 zb99=>?_;(try simp only[ZS]at nb99);have n99:bb≠b99:=nb99.2.1;clear nb99;refine xx ?_;refine ZZ (t:=27) (e:=3) (sz:=1) (bytes:=8) (z:=[.int .i64 0]) qg V6 rfl rfl rfl rfl qh [_,_,_,_] _ os1 X.go.length (X.go.map (.int .i64)) oks1 qj (Src.own (b:=b99) (t:=3) (cap:=1) List.mem_cons_self) (m:=1) (news:=[.int .i64 i]) rfl (fun u hu=>qw) qm qf ?_;intro os2 j1 j2 j3;simp only[List.cons_append,List.nil_append];refine xx ?_;refine⟨⟨k+1,h4,dv,oo1,os2⟩,⟨qp,le4,by rw[eK2];exact id4,by rw[eK2];exact oko1,by rw[eK2];simpa using j1,by rw[eK2];exact okx1,hbb4,hom4⟩,qp,qi,?_⟩;simp only;rw[eK2];simp only[List.map_append,List.map_cons,List.map_nil,List.length_append,List.length_singleton,tMo,Z7,Yl];exact(Za.tail _ _ _).trans (Za.tail _ _ _)
    | false =>
      rw[if_neg qh]at eK2;refine xx ?_;have how2:0<=(gr ZQ X.ms i).owner/\(gr ZQ X.ms i).owner<=63:=qf;have hbt2:Y9 X.ds+(gr ZQ X.ms i).bal<=4611686018427387904:=by rw[<- hmm];omega
      refine Zb.fin (Zb.weaken (Za.perm _ permO) (Zb.ap (Zpz (s:={ s with aj:=[],ae:=X.ms,ag:=(enX s).ps,entry:=R,ai:=X.ds,exit:=X.ex }) (v:=⟨pv,.slice (some ⟨bm,0,none⟩) (enX s).ms.length cm,ovs oe3 R.length,ovs ox X.ex.length,.slice none 0 0,dv,vt,vk,vr⟩) (r:={ r with out:=X.out,started:=X.go }) (q:=⟨ovs oo1 X.out.length,ql,ovs os1 X.go.length,qd⟩) (by rw[sl]) (by show X.ms.length<=900;omega) st.m id4 st.d (by show X.ds.length<=32000;omega) i hi2 how2 hw (by show 0<=s.ep/\s.ep<=_;omega) hbt2 rfl okx1 (by show X.ex.length<=900;omega) rfl oko1 (by show X.out.length<=900;omega) fun h5 d5 oo5 le5 i5 ok5 ap=>⟨_,_,Za.perm _ permO.symm,?_⟩)));have hbb5:h5 bb=noC:=ap.1;have hbm5:apO (some (bm,cm)) [] h5:=⟨trivial,ap.2.1⟩
      clear ap;refine xx ?_;have ew:V3 X.ds (VB t m)=V3 X.ds (VB (min (s.ep+w) 2147483647) (gr ZQ X.ms i)):=by rw[ht,hmm]
      have em:Zqm m=V5 (gr ZQ X.ms i) 4:=by rw[hmm];rfl
      refine⟨⟨k+1,h5,d5,oo5,os1⟩,⟨qp,le4.trans le5,by rw[eK2,ew];exact i5,by rw[eK2];simpa using ok5,by rw[eK2];exact oks1,by rw[eK2];exact Zkn okx1 (Znn _ _),hbb5,hbm5⟩,qp,qi,?_⟩;simp only;rw[eK2,ew,em];simp only[List.map_append,List.map_cons,List.map_nil,List.length_append,List.length_singleton,tMo,Z7,Yl];exact Za.tail _ _ _
  obtain rfl:N=k:=qf;have eY:stK s.par t (enW s) X0 N=enY s r t:=by rw[hN2,hX0];rfl
  rw[eY]at id4 oko1 oks1 okx1 sl ⊢;have hk:=hk h4 pv dv (.slice none 0 0) om1 oe3 os1 oo1 (le1.trans (le13.trans le4)) (ip.up (le13.trans le4)) id4 (Zd.nil VM _) (by rw[sl];exact okm1) ok3 oks1 oko1 okx1;rw[sl]at hk;refine xx ?_;exact⟨_,_,Za.perm _ Yto,hk⟩
end Go.X

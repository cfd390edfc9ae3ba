/- Lemmas and contracts. Conditions: as each says. -/
import Derived.Test.YtllhopbilpdpkaaGreatQ26
set_option linter.unusedVariables false
set_option linter.unusedSimpArgs false
set_option maxHeartbeats 12800000
set_option maxRecDepth 20000
namespace Go.X
open Go.RowKit Go.Proofs Go.Bl Go.Proofs.Tryz
variable {L:Own} {h:PH} {K:PK}
structure RV where
 o:Value
 l:Value
 s:Value
 d:Value
abbrev rpV (r:Zi)(q:RV):Value := .agg #[.int .i64 r.ep,.int .i64 r.mode,.bool r.quo,.int .u64 r.pres,.int .u64 r.act,.int .u64 r.mint,.int .u64 r.paid,.int .u64 r.kept,.int .u64 r.burned,.int .u64 r.fees,q.o,q.l,q.s,q.d]
abbrev tC (s:Zd)(v:SV)(r:Zi)(q:RV)(w:Int):List Value:=[.int .u64 s.par.inc,.int .u64 s.par.maxEff,.int .u64 s.par.floor,.int .u64 s.par.cap,.int .u64 s.par.up,.int .u64 s.par.down,.int .u64 s.par.bias,.int .u64 s.par.quot,.int .u64 s.par.biasEm,.int .u64 s.par.quotEm,.int .u64 s.par.recover,.int .u64 s.par.scoreCap,.int .u64 s.par.rate,.int .u64 s.par.bond,.int .i64 s.par.delay,.int .i64 s.par.streak,.int .i64 s.par.boost,.int .i64 s.par.absent,.int .i64 s.par.burn,.int .i64 s.par.churn,.int .i64 s.par.wait,.int .i64 s.par.poll,.int .i64 s.par.enact,.int .i64 s.par.quorum,.int .u64 s.most,.int .u64 s.gen,.int .u64 s.mint,.int .u64 s.burn,.int .u64 s.treas,.int .i64 s.ep,.int .i64 s.calm,.bool s.emer,v.p,v.m,v.e,v.x,v.o,v.d,v.t,v.k,v.r,.int .i64 r.ep,.int .i64 r.mode,.bool r.quo,.int .u64 r.pres,.int .u64 r.act,.int .u64 r.mint,.int .u64 r.paid,.int .u64 r.kept,.int .u64 r.burned,.int .u64 r.fees,q.o,q.l,q.s,q.d,.int .i64 w]
abbrev tB (bb:Nat)(s:Zd)(v:SV)(r:Zi)(q:RV)(w:Int):Zm:=⟨bb,154,tC s v r q w,56⟩
abbrev tM (bm cm:Nat)(ms:List Zb):Zm:=⟨bm,74,ms.flatMap Yv,cm*6⟩
abbrev tX (bx bb:Nat):Zm:=⟨bx,152,[.pointer (some ⟨bb,0,none⟩)],1⟩
theorem Zc.imp {P:Program}{f:FuncId}{args:List Value}{K K':PK}(hs:Zc P f args L h K)(hk:∀v L' h',K v L' h'→K' v L' h'):Zc P f args L h K' :=
 ⟨hs.1,fun W hg=>(hs.2 W hg).mono fun _ _ ⟨r,L',h',e,k,st⟩=>⟨r,L',h',e,hk _ _ _ k,st⟩⟩
theorem Zql {ms:List Zb}{j:Nat}(hj:j<ms.length):(∀(K:Value→Prop) (t:Zk K),Wz (ms.flatMap Yv) (j*6) K t=K (.int .u64 (gr ZQ ms j).bal))∧(∀(K:Value→Prop) (t:Zk K),Wz (ms.flatMap Yv) (j*6+1) K t=K (.int .u64 (gr ZQ ms j).eff)) ∧
  (∀(K:Value→Prop) (t:Zk K),Wz (ms.flatMap Yv) (j*6+2) K t=K (.int .u64 (gr ZQ ms j).score))∧(∀(K:Value→Prop) (t:Zk K),Wz (ms.flatMap Yv) (j*6+3) K t=K (.int .i64 (gr ZQ ms j).streak)) ∧
  (∀(K:Value→Prop) (t:Zk K),Wz (ms.flatMap Yv) (j*6+4) K t=K (.int .i64 (gr ZQ ms j).owner))∧(∀(K:Value→Prop) (t:Zk K),Wz (ms.flatMap Yv) (j*6+5) K t=K (.int .i64 (gr ZQ ms j).status)) :=
 ⟨fun K t=>Z1 Yg ZQ ms hj (m:=0) (by decide) rfl K t,fun K t=>Z1 Yg ZQ ms hj (by decide) rfl K t,fun K t=>Z1 Yg ZQ ms hj (by decide) rfl K t,fun K t=>Z1 Yg ZQ ms hj (by decide) rfl K t,fun K t=>Z1 Yg ZQ ms hj (by decide) rfl K t,fun K t=>Z1 Yg ZQ ms hj (by decide) rfl K t⟩
theorem Zwg {ms:List Zb}{n:Nat}(hn:ms.length=n):(ms.map fun a=>(Yv a).length).sum=n*6:=by
 rw[← List.length_flatMap,Z0 Yg,hn]
structure Td (h:PH)(v:SV)(s:Zd):Prop where
 p:Ints h .u64 v.p s.purses
 o:Zh Zaf 4 h v.o s.pool
 d:Zh Yz 3 h v.d s.dues
 t:∃q:List QM,Zh WE 33 h v.t q∧q.map (fun x=>x.2.2)=s.motions∧WF h q
 k:Ints h .u8 v.k s.marks
 r:∃q,Zw h v.r q∧xsL q=s.ring
theorem Td.up {h h':PH}(le:PH.le h h'){v:SV}{s:Zd}(hs:Td h v s):Td h' v s:=by
 obtain⟨q,t1,t2,t3⟩:=hs.t;obtain⟨r,r1,r2⟩:=hs.r;exact⟨hs.p.up le,hs.o.up le,hs.d.up le,⟨q,t1.up le,t2,fun x hx=>(t3 x hx).up le⟩,hs.k.up le,⟨r,r1.up le,r2⟩⟩
theorem J8 {bb:Nat}{s:Zd}{v:SV}{r:Zi}{q:RV}{w:Int}(hk0:Ints h .u8 v.k s.marks)(i:Nat)(hi:i≤1000)(hk:K (.bool (Vm s.marks i)) (tB bb s v r q w::L) h) :
  Zc prog 206 [.pointer (some ⟨bb,0,none⟩),.int .i64 i] (tB bb s v r q w::L) h K:=by
 refine Z3 func206 rfl (rs:=[_]) rfl rfl ZW (by kernel_rfl) rfl rfl fun ap nd=>?_;have hbb:h bb=noC:=ap.1;clear ap nd;refine xx ?_;refine GY _ i hk0 (by omega) ?_;refine xx ?_;exact ZO hk
theorem V8 {bb:Nat}{s:Zd}{v:SV}{r:Zi}{q:RV}{w:Int}(hp:Ints h .u64 v.p s.purses)(hl:s.purses.length≤1000)(i:Int)(hi:0≤i∧i<s.purses.length)(a:Int)(ha:0≤a)(hr:at0 s.purses i.toNat+a≤4611686018427387904)
  (hk:∀h' r',PH.le h h'→Ints h' .u64 r' (s.purses.set i.toNat (at0 s.purses i.toNat+a))→K (.tuple #[]) (tB bb { s with purses:=s.purses.set i.toNat (at0 s.purses i.toNat+a) } { v with p:=r' } r q w::L) h') :
  Zc prog 209 [.pointer (some ⟨bb,0,none⟩),.int .i64 i,.int .u64 a] (tB bb s v r q w::L) h K:=by
 obtain⟨j,rfl⟩:=Int.eq_ofNat_of_zero_le hi.1;rw[Int.toNat_natCast]at hr hk;refine Z3 func209 rfl (rs:=[]) rfl rfl ZW (by kernel_rfl) rfl rfl fun ap nd=>?_;have hbb:h bb=noC:=ap.1;clear ap nd;refine xx ?_;refine Zc.ap (Ygm _ hp hl j (by omega) a ha hr fun h1 r1 le1 i1 ap=>?_);have hbb1:h1 bb=noC:=ap.1;clear ap;obtain⟨pa,pc,rfl,_⟩:=i1.open;refine xx ?_;rw[List.length_set]at i1;exact ZO (hk h1 _ le1 i1)
theorem Ycd {bb:Nat}{s:Zd}{v:SV}{r:Zi}{q:RV}{w:Int}(hd:Zh Yz 3 h v.d s.dues)(hdo:∀x∈s.dues,Zs x)(hl:s.dues.length≤32000)(acct:Int)(hac:0≤acct∧acct≤63)(a:Int)(ha:0≤a)(hw:0≤w∧w≤1000)(hep:0≤s.ep∧s.ep≤1073741824)(hs:Wp s.dues+a≤4611686018427387904)
  (hk:∀h' r',PH.le h h'→Zh Yz 3 h' r' (Jv s.dues ⟨acct,min (s.ep+w) 2147483647,a⟩)→K (.tuple #[]) (tB bb { s with dues:=Jv s.dues ⟨acct,min (s.ep+w) 2147483647,a⟩ } { v with d:=r' } r q w::L) h') :
  Zc prog 314 [.pointer (some ⟨bb,0,none⟩),.int .i64 acct,.int .u64 a] (tB bb s v r q w::L) h K:=by
 refine Z3 func314 rfl (rs:=[]) rfl rfl ZW (by kernel_rfl) rfl rfl fun ap nd=>?_;have hbb:h bb=noC:=ap.1;clear ap nd;refine xx ?_;refine Yn (.tk 0 (.tk 1 (.tk 2 (.tk 3 (.tk 5 (.tk 6 (.tk 7 (.tk 8 (.tk 9 (.tk 11 (.tk 12 (.tk 13 (.tk 17 (.tkl 4 (.tkl 10 (.tkl 14 (.tk 15 (.o1 16 (.tk 18 (.o1 19 (.tk 20 (.tk 21 (.tk 22 (.tk 23 (.tk 24 (.fin)))))) (.nil))) (.nil))))))))))))))))))) (by kernel_rfl) (by kernel_rfl) _ (Za.refl _ _) ?_;refine xx ?_;refine Zc.ap (Yfc (d:=⟨acct,min (s.ep+w) 2147483647,a⟩) _ hd hdo hl hac ⟨by show 0≤min (s.ep+w) 2147483647;omega,by show min (s.ep+w) 2147483647≤_;omega⟩ ha hs fun h1 r1 le1 i1 ap=>?_);have hbb1:h1 bb=noC:=ap.1;clear ap;obtain⟨ra,rc,rfl,_⟩:=i1.open
 first
 | refine xkp (Za.forget le1) ?_
 | skip
 refine xx ?_;exact ZO (hk h1 _ le1 i1)
theorem Zml {bb bm cm:Nat}{s:Zd}{v:SV}{r:Zi}{q:RV}{w:Int}(hm:v.m = .slice (some ⟨bm,0,none⟩) s.members.length cm)(hml:s.members.length≤1000)(mo:∀x∈s.members,Zf x)(hd:Zh Yz 3 h v.d s.dues)(hdo:∀x∈s.dues,Zs x)(hl:s.dues.length≤32000)(i:Nat)(hi:i<s.members.length)(how:0≤(gr ZQ s.members i).owner∧(gr ZQ s.members i).owner≤63)(st:Int)(hw:0≤w∧w≤1000)(hep:0≤s.ep∧s.ep≤1073741824)(hs:Wp s.dues+(gr ZQ s.members i).bal≤4611686018427387904)
  (hk:∀h' r',PH.le h h'→Zh Yz 3 h' r' (Jv s.dues (U8 (min (s.ep+w) 2147483647) (gr ZQ s.members i)))→K (.tuple #[]) (tB bb { s with members:=s.members.set i (Ga (gr ZQ s.members i) st),dues:=Jv s.dues (U8 (min (s.ep+w) 2147483647) (gr ZQ s.members i)) } { v with d:=r' } r q w::tM bm cm (s.members.set i (Ga (gr ZQ s.members i) st))::L) h') :
  Zc prog 215 [.pointer (some ⟨bb,0,none⟩),.int .i64 i,.int .i64 st] (tB bb s v r q w::tM bm cm s.members::L) h K:=by
 have ub:=(mo _ (Yq (z:=ZQ) hi)).u (gr ZQ s.members i).bal (by simp);refine Z3 func215 rfl (rs:=[]) rfl rfl ZW (by kernel_rfl) rfl rfl fun ap nd=>?_;have hbb:h bb=noC:=ap.1;have hbm:h bm=noC:=ap.2.1;have nmb:bm≠bb:=nd.1.1;clear ap nd;obtain⟨g0,g1,g2,g3,g4,g5⟩:=Zql hi;have hi6:=Y5 (w:=6) hi (show 5<6 by decide);have hsum:=Zwg (ms:=s.members) rfl;simp -dsimp -implicitDefEqProofs (disch:=first|with_reducible assumption|omega) [go_sem,hm,g0,g1,g2,g3,g4,g5];refine Zuv (gr ZQ s.members i) st ?_;refine xx ?_;refine Z2 fun b6 nb6 zb6=>?_;(try simp only[ZT]at nb6);have n6b:=nb6.1;have n6m:=nb6.2.1;clear nb6;refine xx ?_;refine Yn (.tk 0 (.tk 1 (.tk 2 (.tk 3 (.tk 5 (.tkl 4 (.tkl 6 (.tk 7 (.o2 8 (.fin) (.nil)))))))))) (by kernel_rfl) (by kernel_rfl) _ (Za.refl _ _) ?_;simp -dsimp -implicitDefEqProofs (disch:=first|with_reducible assumption|omega) [go_sem,hm];refine⟨by omega,?_⟩;have hset:((((((s.members.flatMap Yv).set (i*6) (Value.int .u64 (Ga (gr ZQ s.members i) st).bal)).set (i*6+1) (.int .u64 (Ga (gr ZQ s.members i) st).eff)).set (i*6+1+1) (.int .u64 (Ga (gr ZQ s.members i) st).score)).set (i*6+1+1+1) (.int .i64 (Ga (gr ZQ s.members i) st).streak)).set (i*6+1+1+1+1) (.int .i64 (Ga (gr ZQ s.members i) st).owner)).set (i*6+1+1+1+1+1) (.int .i64 (Ga (gr ZQ s.members i) st).status)=(s.members.set i (Ga (gr ZQ s.members i) st)).flatMap Yv:=GB Yg s.members hi (Ga (gr ZQ s.members i) st);rw[hset]
 try simp -dsimp -implicitDefEqProofs (disch:=first|with_reducible assumption|omega) [go_sem]
 refine Zeo (Ycd (s:={ s with members:=s.members.set i (Ga (gr ZQ s.members i) st) }) hd hdo hl _ how _ ub.1 hw hep hs fun h1 r1 le1 i1=>?_);refine xx ?_;exact⟨_,_,(Za.perm _ (List.Perm.swap _ _ _)).trans (Za.tail _ _ _),hk h1 r1 le1 i1⟩
abbrev tMo (om:Option (Nat×Nat))(ms:List Zb)(L:Own):Own:=oent 74 6 om (ms.flatMap Yv) L
theorem Ve {γ:Type}{cl:Nat}{cap:List Value}{bb n:Nat}{om:Option (Nat×Nat)}{w:Int}(inv:Nat→γ→Prop)(S:γ→Zd)(V:γ→SV)(R:γ→Zi)(Q:γ→RV)(T:γ→Own)(H:γ→PH)(x0:γ)(hn:n≤1000)(okm:okO om n)
  (hi:∀k x,inv k x→(V x).m=ovs om n∧(S x).members.length=n∧H x bb=noC∧apO om [] (H x)) (hne:apB om bb)
  (hrd:∀bm cm,om=some (bm,cm)→∀k x,k<n→inv k x→Uu (gr ZQ (S x).members k)→Zc prog cl (.int .i64 k :: .pointer (some ⟨bm,k*6,none⟩)::cap) (tB bb (S x) (V x) (R x) (Q x) w::tM bm cm (S x).members::T x) (H x) fun _ L' h'=>∃x',inv (k+1) x'∧Za L' h' (tB bb (S x') (V x') (R x') (Q x') w::tM bm cm (S x').members::T x') (H x'))
  (hsk:∀k x,k<n→inv k x→¬Uu (gr ZQ (S x).members k)→∃x',inv (k+1) x'∧Za (tB bb (S x) (V x) (R x) (Q x) w::tMo om (S x).members (T x)) (H x) (tB bb (S x') (V x') (R x') (Q x') w::tMo om (S x').members (T x')) (H x')) (h0:inv 0 x0)
  (hk:∀x,inv n x→K (.tuple #[]) (tB bb (S x) (V x) (R x) (Q x) w::tMo om (S x).members (T x)) (H x)) :
  Zc prog 204 [.pointer (some ⟨bb,0,none⟩),.func (.func cl) #[] cap.toArray] (tB bb (S x0) (V x0) (R x0) (Q x0) w::tMo om (S x0).members (T x0)) (H x0) K:=by
 obtain⟨m0,_,hb0,hm0⟩:=hi 0 x0 h0;obtain⟨ea,ec,em,_⟩:=Z9 okm;refine ZS func204 rfl (rs:=[]) rfl rfl ZW (by kernel_rfl) rfl rfl ?_;simp -dsimp -implicitDefEqProofs (disch:=first|with_reducible assumption|omega) [go_sem,m0,em];refine YO (γ:=Nat×γ) (0,x0) (fun y=>y.1≤n∧inv y.1 y.2) (fun y=>[(11,.int .i64 y.1),(10,.int .i64 n),(0,.pointer (some ⟨bb,0,none⟩)),(1,.func (.func cl) #[] cap.toArray)])
  (fun y=>tB bb (S y.2) (V y.2) (R y.2) (Q y.2) w::tMo om (S y.2).members (T y.2)) (fun y=>H y.2) (fun y=>n-y.1) ?_ ?_ ?_ ?_
 ·exact⟨Nat.zero_le _,h0⟩
 ·simp [Ent,List.lookup,Wo]
 ·exact Za.refl _ _
 rintro⟨k,x⟩ ⟨k1,k2⟩;simp only at k1 k2 ⊢;obtain⟨m1,l1,hb1,hm1⟩:=hi k x k2;by_cases c1:k<n
 ·have hkl:k<(S x).members.length:=by omega
  obtain⟨g0,g1,g2,g3,g4,g5⟩:=Zql hkl;clear em;obtain⟨bm,cm,rfl⟩:∃bm cm,om=some (bm,cm):=by
   cases om with
   | none=>have:n=0:=okm;omega
   | some p=>exact⟨_,_,rfl⟩
  have hbm1:H x bm=noC:=hm1.2;have hne':bm≠bb:=hne;have m1':(V x).m = .slice (some ⟨bm,0,none⟩) n cm:=m1;simp only[tMo,Ye];simp -dsimp -implicitDefEqProofs (disch:=first|with_reducible assumption|omega) [go_sem,m1',g0,g1,g2,g3,g4,g5];refine W7 (gr ZQ (S x).members k) ?_;by_cases c2:Uu (gr ZQ (S x).members k)
  ·rw[decide_eq_true c2];simp -dsimp -implicitDefEqProofs (disch:=first|with_reducible assumption|omega) [go_sem,m1'];refine Zc.imp (hrd bm cm rfl k x c1 k2 c2) fun v' L' h' ⟨x',i',d'⟩=>?_;refine xx ?_;exact⟨k+1,x',⟨by omega,i'⟩,by omega,by simp [Ent,List.lookup],d'⟩
  ·rw[decide_eq_false c2];obtain⟨x',i',d'⟩:=hsk k x c1 k2 c2;refine xx ?_;exact⟨k+1,x',⟨by omega,i'⟩,by omega,by simp [Ent,List.lookup],d'⟩
 ·obtain rfl:n=k:=by omega
  refine xx ?_;exact ZO (hk x k2)
theorem Zmg (x k:Int)(b:Nat)(hb:(⟨b,3,[.int .i64 k],1⟩:Zm)∈L)(hk:K (.bool (decide (x=k))) L h):Zc prog 311 [.int .i64 x,.pointer (some ⟨b,0,none⟩)] L h K:=by
 refine Zc.frame1 hb ?_ hk;refine Zc.entr fun ap _=>?_;have hn:h b=noC:=ap.1;refine ZS func311 rfl (rs:=[_]) rfl rfl ZW (by kernel_rfl) rfl rfl ?_;refine xx ?_;exact ZO ⟨rfl,rfl,rfl⟩
theorem Zxe {xs:List Int}(o:Option (Nat×Nat))(ho:okO o xs.length)(hl:xs.length≤1000)(k:Int)(b:Nat)(hb:(⟨b,3,[.int .i64 k],1⟩:Zm)∈L)
  (hyes:∀i:Nat,i<xs.length→at0 xs i=k→(∀j,j<i→at0 xs j≠k)→K (.int .i64 i) (oent 3 1 o (xs.map (.int .i64)) L) h)
  (hno:(∀j,j<xs.length→at0 xs j≠k)→K (.int .i64 (-1)) (oent 3 1 o (xs.map (.int .i64)) L) h) :
  Zc prog 364 [ovs o xs.length,.func (.func 311) #[] #[.pointer (some ⟨b,0,none⟩)]] (oent 3 1 o (xs.map (.int .i64)) L) h K:=by
 refine Zc.entr fun ap _=>?_;have ax:=YH ap;have hb2:=Vz (e:=3) (sz:=1) (o:=o) (cs:=xs.map (.int .i64)) hb;obtain⟨a,c,ea,_⟩:=Z9 ho;refine ZS func364 rfl (rs:=[_]) rfl rfl ZW (by kernel_rfl) rfl rfl ?_;refine xx ?_;rw[ea];refine xx ?_;rw[← ea];refine YO (γ:=Nat) 0 (fun j=>j≤xs.length∧∀i,i<j→at0 xs i≠k) (fun j=>[(8,.int .i64 j),(7,.int .i64 xs.length),(0,ovs o xs.length),(1,.func (.func 311) #[] #[.pointer (some ⟨b,0,none⟩)])]) (fun _=>oent 3 1 o (xs.map (.int .i64)) L) (fun _=>h) (fun j=>xs.length-j) ?_ ?_ ?_ ?_
 ·exact⟨Nat.zero_le _,fun i hi=>by omega⟩
 ·simp [Ent,List.lookup,Wo]
 ·exact Za.refl _ _
 rintro j ⟨j1,j2⟩;by_cases c1:j<xs.length
 ·obtain⟨bx,cap,rfl⟩:∃bx cap,o=some (bx,cap):=by
   cases o with
   | none=>have:xs.length=0:=ho;omega
   | some p=>exact⟨_,_,rfl⟩
  have hbx:h bx=noC:=ax.2;simp only[YE,Ye,Nat.mul_one]at hb2 hyes ⊢;simp -dsimp -implicitDefEqProofs (disch:=first|with_reducible assumption|omega) [go_sem,UH];refine Zmg (at0 xs j) k b hb2 ?_;by_cases c2:at0 xs j=k
  ·rw[decide_eq_true c2];refine xx ?_;exact ZO (hyes j c1 c2 j2)
  ·rw[decide_eq_false c2];refine xx ?_;refine⟨j+1,⟨by omega,fun i hi=>?_⟩,by omega,by simp [Ent,List.lookup],Za.refl _ _⟩;by_cases e:i=j
   ·subst e;exact c2
   ·exact j2 i (by omega)
 ·refine xx ?_;exact ZO (hno fun i hi=>j2 i (by omega))
theorem Zvv {xs:List Int}(o:Option (Nat×Nat))(ho:okO o xs.length)(hl:xs.length≤1000)(k:Int)(b:Nat)(hb:(⟨b,3,[.int .i64 k],1⟩:Zm)∈L)
  (hk:K (ovs o (flt xs k).length) (oent 3 1 o ((flt xs k).map (.int .i64)) L) h) :
  Zc prog 310 [ovs o xs.length,.func (.func 311) #[] #[.pointer (some ⟨b,0,none⟩)]] (oent 3 1 o (xs.map (.int .i64)) L) h K:=by
 refine Zc.entr fun ap _=>?_;have ax:=YH ap;refine ZS func310 rfl (rs:=[_]) rfl rfl ZW (by kernel_rfl) rfl rfl ?_;refine xx ?_;refine Zxe o ho hl k b hb (fun i0 i1 i2 i3=>?_) (fun hn=>?_)
 ·obtain⟨bx,cap,rfl⟩:∃bx cap,o=some (bx,cap):=by
   cases o with
   | none=>have:xs.length=0:=ho;omega
   | some p=>exact⟨_,_,rfl⟩
  have hbx:h bx=noC:=ax.2;have hcap:xs.length≤cap:=ho.1;simp only[YE,Ye,Nat.mul_one]at hk ⊢;refine xx ?_;refine YO (γ:=Nat×Nat×List Int) (i0+1,i0,xs) (fun q=>q.2.1<q.1∧q.1≤xs.length∧q.2.2.length=xs.length∧q.2.2.take q.2.1=flt (xs.take q.1) k∧(flt (xs.take q.1) k).length=q.2.1∧∀m,q.1≤m→at0 q.2.2 m=at0 xs m)
   (fun q=>[(6,.int .i64 q.1),(5,.int .i64 q.2.1),(0,.slice (some ⟨bx,0,none⟩) xs.length cap),(1,.func (.func 311) #[] #[.pointer (some ⟨b,0,none⟩)])])
   (fun q=>⟨bx,3,q.2.2.map (.int .i64),cap⟩::L) (fun _=>h) (fun q=>xs.length-q.1) ?_ ?_ ?_ ?_
  ·have e1:=Zls (k:=k) i1;rw[if_neg (by simpa using i2),List.append_nil,Zxt (by omega) i3]at e1;exact⟨Nat.lt_succ_self i0,i1,rfl,e1.symm,by show (flt (xs.take (i0+1)) k).length=i0;rw[e1,List.length_take];omega,fun _ _=>rfl⟩
  ·simp [Ent,List.lookup,Wo]
  ·exact Za.refl _ _
  rintro⟨j,i,cs⟩ ⟨j1,j2,j3,j4,j5,j6⟩;simp only at j1 j2 j3 j4 j5 j6 ⊢;by_cases c1:j<xs.length
  ·have hat:=j6 j (Nat.le_refl _);have hs:=Zls (k:=k) c1;simp -dsimp -implicitDefEqProofs (disch:=first|with_reducible assumption|omega) [go_sem,UH];rw[hat];refine Zmg (at0 xs j) k b (List.mem_cons_of_mem _ hb) ?_;by_cases c2:at0 xs j=k
   ·rw[decide_eq_true c2];rw[if_neg (by simpa using c2),List.append_nil]at hs;refine xx ?_;exact⟨j+1,i,cs,⟨by omega,by omega,j3,by rw[hs];exact j4,by rw[hs];exact j5,fun m hm=>j6 m (by omega)⟩,by omega,by simp [Ent,List.lookup],Za.refl _ _⟩
   ·rw[decide_eq_false c2];rw[if_pos c2]at hs;refine xx ?_;refine⟨by omega,?_⟩;refine⟨j+1,i+1,cs.set i (at0 xs j),⟨by omega,by omega,by rw[List.length_set];exact j3,by rw[Zdb (by omega),j4,hs],by rw[hs,List.length_append,j5];rfl,fun m hm=>?_⟩,by omega,by simp [Ent,List.lookup],by rw[List.map_set];exact Za.refl _ _⟩;rw[Zxa _ _ (by omega)];exact j6 m (by omega)
  ·have hj:j=xs.length:=by omega
   subst hj;rw[List.take_length]at j4 j5;have hcut:Ju (some ⟨bx,0,none⟩) cap i 1=some ⟨bx,i,none⟩:=by
    unfold Ju;rw[if_neg (by omega)];simp [Addr.add]
    try (intro e;exact e.symm)
   simp -dsimp -implicitDefEqProofs (disch:=first|with_reducible assumption|omega) [go_sem,VX int27,hcut];refine Ydt (by kernel_rfl) Zds rfl (by omega) ?_;refine xx ?_;refine⟨by omega,?_⟩;have e2:(wr (cs.map (Value.int .i64)) i (List.replicate (xs.length-i) (Value.int .i64 0))).take i=(flt xs k).map (.int .i64):=by
    rw[JM _ _ _ (by simp;omega),List.append_assoc,List.take_append_of_le_length (by simp;omega),List.take_take,Nat.min_self,← List.map_take,j4]
   have e3:=GO bx 3 cap i (wr (cs.map (Value.int .i64)) i (List.replicate (xs.length-i) (Value.int .i64 0))) L h;rw[e2]at e3;rw[j5]at hk;exact⟨_,_,e3,hk⟩
 ·obtain⟨a,c,ea,_⟩:=Z9 ho;rw[Zdv hn]at hk;rw[ea];refine xx ?_;rw[← ea];exact ZO hk
theorem Zdi {e sz e2 sz2:Nat}{o o2:Option (Nat×Nat)}{xs ys:List Value}(A:Own){L:Own}:(A++oent e sz o xs (oent e2 sz2 o2 ys L)).Perm (oent e2 sz2 o2 ys (A++oent e sz o xs L)) :=
 (List.Perm.append_left A (Yt o o2 xs ys L)).trans (Yj A)
theorem two_perm3 {e sz e2 sz2:Nat}{o o2:Option (Nat×Nat)}{xs ys:List Value}{a b c:Zm}{L:Own}:(a::b::c::oent e sz o xs (oent e2 sz2 o2 ys L)).Perm (oent e2 sz2 o2 ys (a::b::c::oent e sz o xs L)):=Zdi [a,b,c]
theorem perm3 {a b c:Zm}{L:Own}:(c::a::b::L).Perm (a::b::c::L):=(List.perm_middle (l₁:=[a,b])).symm
theorem Yba {x y z:Zm}{e1 s1 e2 s2:Nat}{o1 o2:Option (Nat×Nat)}{X1 X2:List Value}(ap:Ap (x::y::oent e1 s1 o1 X1 (oent e2 s2 o2 X2 (z::L))) h)(nd:Nd (x::y::oent e1 s1 o1 X1 (oent e2 s2 o2 X2 (z::L)))) :
  h x.b=noC∧h y.b=noC∧h z.b=noC∧y.b≠x.b∧x.b≠z.b∧y.b≠z.b∧apB o1 z.b∧apB o2 z.b:=by
 have hz:z∈oent e1 s1 o1 X1 (oent e2 s2 o2 X2 (z::L)):=Vz (Vz List.mem_cons_self);refine⟨ap.1,ap.2.1,Ap.mem ap z (List.mem_cons_of_mem _ (List.mem_cons_of_mem _ hz)),nd.1.1,Ne.symm (U2 nd.1.2 z hz),Ne.symm (U2 nd.2.1 z hz),?_,?_⟩
 ·have n:=nd.2.2
  cases o1 with
  | none=>trivial
  | some p=>exact Ne.symm (U2 n.1 z (Vz List.mem_cons_self))
 ·have n:=nd.2.2
  cases o2 with
  | none=>trivial
  | some p2 =>
   cases o1 with
   | none=>exact Ne.symm n.1.1
   | some p=>exact Ne.symm n.2.1.1
abbrev Ydg (s:Zd)(w:Int)(i:Nat):Zd:={ s with exit:=flt s.exit i,members:=s.members.set i (Ga (gr ZQ s.members i) 4),dues:=Jv s.dues (U8 (min (s.ep+w) 2147483647) (gr ZQ s.members i)) }
theorem Znk {bb bm cm:Nat}{oo ox:Option (Nat×Nat)}{s:Zd}{v:SV}{r:Zi}{q:RV}{w:Int}(hm:v.m = .slice (some ⟨bm,0,none⟩) s.members.length cm)(hml:s.members.length≤900)(mo:∀x∈s.members,Zf x)(hd:Zh Yz 3 h v.d s.dues)(hdo:∀x∈s.dues,Zs x)(hl:s.dues.length≤32000)(i:Nat)(hi:i<s.members.length)(how:0≤(gr ZQ s.members i).owner∧(gr ZQ s.members i).owner≤63)(hw:0≤w∧w≤1000)(hep:0≤s.ep∧s.ep≤1073741824)(hs:Wp s.dues+(gr ZQ s.members i).bal≤4611686018427387904)
  (hx:v.x=ovs ox s.exit.length) (okx:okO ox s.exit.length) (hxl:s.exit.length≤900) (ho:q.o=ovs oo r.out.length) (oko:okO oo r.out.length) (hol:r.out.length≤900)
  (hk:∀h' r' oo',PH.le h h'→Zh Yz 3 h' r' (Ydg s w i).dues→okO oo' (r.out.length+1)→K (.tuple #[]) (tB bb (Ydg s w i) { v with d:=r',x:=ovs ox (flt s.exit i).length } { r with out:=r.out++[(i:Int)] } { q with o:=ovs oo' (r.out.length+1) } w::tM bm cm (Ydg s w i).members::oent 3 1 oo' ((r.out++[(i:Int)]).map (.int .i64)) (oent 3 1 ox ((flt s.exit i).map (.int .i64)) L)) h') :
  Zc prog 213 [.pointer (some ⟨bb,0,none⟩),.int .i64 i] (tB bb s v r q w::tM bm cm s.members::oent 3 1 oo (r.out.map (.int .i64)) (oent 3 1 ox (s.exit.map (.int .i64)) L)) h K:=by
 have hfk:=Zyb s.exit i;refine Z3 func213 rfl (rs:=[]) rfl rfl ZW (by kernel_rfl) rfl rfl fun ap nd=>?_;have hbb:h bb=noC:=ap.1;have hbm:h bm=noC:=ap.2.1;have nmb:bm≠bb:=nd.1.1;clear ap nd;refine xx ?_;refine Z2 fun b3 nb3 zb3=>?_;(try simp only[ZT]at nb3);have n3b:=nb3.1;have n3m:=nb3.2.1;clear nb3;simp -dsimp -implicitDefEqProofs (disch:=first|with_reducible assumption|omega) [go_sem,hx];refine Zc.fin (Zc.weaken (Za.perm h two_perm3) (Zvv ox okx (by omega) i b3 List.mem_cons_self ⟨_,_,Za.perm h two_perm3.symm,?_⟩));obtain⟨ys,hys⟩:∃ys,ys=flt s.exit i:=⟨_,rfl⟩
 simp only[Ydg,← hys]at hk hfk ⊢
 try simp only[List.cons_append,List.nil_append]
 refine xx ?_;refine Zc.fin (Zc.weaken (Za.perm h perm3) (Zc.ap (Zml (s:={ s with exit:=ys }) (v:={ v with x:=ovs ox ys.length }) hm (by show s.members.length≤_;omega) mo hd hdo hl i hi how 4 hw hep hs fun h1 r1 le1 i1 ap=>⟨_,_,Za.perm _ perm3.symm,?_⟩)));have hbb1:h1 bb=noC:=ap.1;have hbm1:h1 bm=noC:=ap.2.1;have hb31:h1 b3=noC:=ap.2.2.1;clear ap
 try simp only[List.cons_append,List.nil_append]
 refine xx ?_;refine Yn (.tk 0 (.tk 1 (.tk 2 (.tk 3 (.tk 4 (.tkl 5 (.tkl 6 (.o1 7 (.o1 8 (.tk 9 (.tk 10 (.tk 11 (.o2 12 (.fin) (.nil))))) (.nil)) (.nil))))))))) (by kernel_rfl) (by kernel_rfl) [_,_,_] (drop_left [_,_,_] _ _) ?_;simp -dsimp -implicitDefEqProofs (disch:=first|with_reducible assumption|omega) [go_sem,ho];refine Z2 fun b7 nb7 zb7=>?_;(try simp only[ZT]at nb7);have n7b:=nb7.2.1;have n73:=nb7.1;clear nb7
 first
 | refine xkp ((Za.tail _ _ _).trans (drop_left [_,_,_] _ _)) ?_
 | skip
 simp -dsimp -implicitDefEqProofs (disch:=first|with_reducible assumption|omega) [go_sem,ho];refine Z4 (t:=27) (e:=3) (sz:=1) (bytes:=8) (z:=[.int .i64 0]) (by kernel_rfl) Zds rfl rfl rfl rfl (by decide) [_,_,_,_] _ oo r.out.length (r.out.map (.int .i64)) oko (by simp) (Src.own (b:=b7) (t:=3) (cap:=1) List.mem_cons_self) (m:=1) (news:=[.int .i64 i]) rfl (fun u hu=>by simp at hu;subst hu;rfl) (by simp [maxLen];omega) (by omega) ?_;intro o' j1 j2 j3
 try simp only[List.cons_append,List.nil_append]
 first
 | refine xkp ((Za.tail _ _ _).trans (drop_left [_,_,_] _ _)) ?_
 | skip
 refine xx ?_;have:=hk h1 r1 o' le1 i1 j1;simp only[List.map_append,List.map_cons,List.map_nil]at this;exact ZP (ZP (ZO this))
theorem Yal {bb bm cm bx:Nat}{oo ox:Option (Nat×Nat)}{s:Zd}{v:SV}{r:Zi}{q:RV}{w:Int}(hm:v.m = .slice (some ⟨bm,0,none⟩) s.members.length cm)(hml:s.members.length≤900)(mo:∀x∈s.members,Zf x)(hd:Zh Yz 3 h v.d s.dues)(hdo:∀x∈s.dues,Zs x)(hl:s.dues.length≤32000)(i:Nat)(hi:i<s.members.length)(how:0≤(gr ZQ s.members i).owner∧(gr ZQ s.members i).owner≤63)(hw:0≤w∧w≤1000)(hep:0≤s.ep∧s.ep≤1073741824)(hs:Wp s.dues+(gr ZQ s.members i).bal≤4611686018427387904)
  (hx:v.x=ovs ox s.exit.length) (okx:okO ox s.exit.length) (hxl:s.exit.length≤900) (ho:q.o=ovs oo r.out.length) (oko:okO oo r.out.length) (hol:r.out.length≤900)
  (hk:(gr ZQ s.members i).bal≤s.par.floor→∀h' r' oo',PH.le h h'→Zh Yz 3 h' r' (Ydg s w i).dues→okO oo' (r.out.length+1)→K (.tuple #[]) (tB bb (Ydg s w i) { v with d:=r',x:=ovs ox (flt s.exit i).length } { r with out:=r.out++[(i:Int)] } { q with o:=ovs oo' (r.out.length+1) } w::tM bm cm (Ydg s w i).members::oent 3 1 oo' ((r.out++[(i:Int)]).map (.int .i64)) (oent 3 1 ox ((flt s.exit i).map (.int .i64)) (tX bx bb::L))) h')
  (hno:¬(gr ZQ s.members i).bal≤s.par.floor→K (.tuple #[]) (tB bb s v r q w::tM bm cm s.members::oent 3 1 oo (r.out.map (.int .i64)) (oent 3 1 ox (s.exit.map (.int .i64)) (tX bx bb::L))) h) :
  Zc prog 212 [.int .i64 i,.pointer (some ⟨bm,i*6,none⟩),.pointer (some ⟨bx,0,none⟩)] (tB bb s v r q w::tM bm cm s.members::oent 3 1 oo (r.out.map (.int .i64)) (oent 3 1 ox (s.exit.map (.int .i64)) (tX bx bb::L))) h K:=by
 refine Z3 func212 rfl (rs:=[]) rfl rfl ZW (by kernel_rfl) rfl rfl fun ap nd=>?_;obtain⟨hbb,hbm,hbx,nmb,nbx,nmx,pox,pxx⟩:=Yba ap nd;simp only at hbb hbm hbx nmb nbx nmx pox pxx;clear ap nd;obtain⟨g0,g1,g2,g3,g4,g5⟩:=Zql hi;refine xx ?_;refine Zgl (by kernel_rfl) rfl ?_;simp -dsimp -implicitDefEqProofs (disch:=first|with_reducible assumption|omega) [go_sem,g0,ZR pox,ZR pxx];by_cases c:(gr ZQ s.members i).bal≤s.par.floor
 ·have hk:=hk c;simp -dsimp -implicitDefEqProofs (disch:=first|with_reducible assumption|omega) [go_sem,ZR pox,ZR pxx];refine Znk hm hml mo hd hdo hl i hi how hw hep hs hx okx hxl ho oko hol fun h' r' oo' le' i' ok'=>?_;have hk:=hk h' r' oo' le' i' ok';simp only[List.map_append,List.map_cons,List.map_nil]at hk;refine xx ?_;exact ZO hk
 ·have hno:=hno c;refine xx ?_;exact ZO hno
structure EjG where
 k:Nat
 h:PH
 d:Value
 o:Option (Nat×Nat)
theorem Zxh {q:Ze}{cs:List Zb}{xs:List Int}{k:Nat}:exN q cs xs (k+1)=if ejP q (gr ZQ cs k) then flt (exN q cs xs k) k else exN q cs xs k:=rfl
theorem Ydw {s:Zd}{t:Int}{k:Nat}(hk:k<s.members.length)(c4:¬ejP s.par (gr ZQ s.members k)):ejS s t (k+1)=ejS s t k:=by
 have u1:upN (ejF s.par) s.members (k+1)=upN (ejF s.par) s.members k:=Zlk _ _ (by omega) (if_neg c4);have u2:duN s.par s.members t s.dues (k+1)=duN s.par s.members t s.dues k:=by rw[duN,if_neg c4]
 have u3:exN s.par s.members s.exit (k+1)=exN s.par s.members s.exit k:=by rw[Zxh,if_neg c4]
 simp only[ejS,u1,u2,u3]
theorem Ydj {s:Zd}{r:Zi}{k:Nat}(c4:¬ejP s.par (gr ZQ s.members k)):ejR s r (k+1)=ejR s r k:=by
 unfold ejR;rw[ouN,if_neg c4]
theorem U5 {e sz:Nat}{o:Option (Nat×Nat)}(xs:List Value){X Y:Own}(hp:X.Sublist Y):(oent e sz o xs X).Sublist (oent e sz o xs Y):=by
 cases o with
 | none=>exact hp
 | some p=>exact hp.cons_cons _
theorem Zcq {bb D:Nat}{om oo ox:Option (Nat×Nat)}{s:Zd}{v:SV}{r:Zi}{q:RV}{w:Int}(ti:Zp s D)(hD:D≤30000)(hd:Zh Yz 3 h v.d s.dues)(hm:v.m=ovs om s.members.length)(okm:okO om s.members.length)(hw:0≤w∧w≤1000)
  (hx:v.x=ovs ox s.exit.length) (okx:okO ox s.exit.length) (ho:q.o=ovs oo r.out.length) (oko:okO oo r.out.length) (hol:r.out.length≤700)
  (hk:∀h' d' oo',PH.le h h'→Zh Yz 3 h' d' (ejS s (min (s.ep+w) 2147483647) s.members.length).dues→okO oo' (ejR s r s.members.length).out.length→K (.tuple #[]) (tB bb (ejS s (min (s.ep+w) 2147483647) s.members.length) { v with d:=d',x:=ovs ox (ejS s (min (s.ep+w) 2147483647) s.members.length).exit.length } (ejR s r s.members.length) { q with o:=ovs oo' (ejR s r s.members.length).out.length } w::tMo om (ejS s (min (s.ep+w) 2147483647) s.members.length).members (oent 3 1 oo' ((ejR s r s.members.length).out.map (.int .i64)) (oent 3 1 ox ((ejS s (min (s.ep+w) 2147483647) s.members.length).exit.map (.int .i64)) L))) h') :
  Zc prog 86 [.pointer (some ⟨bb,0,none⟩)] (tB bb s v r q w::tMo om s.members (oent 3 1 oo (r.out.map (.int .i64)) (oent 3 1 ox (s.exit.map (.int .i64)) L))) h K:=by
 have hep:=ti.ep;have ht:0≤min (s.ep+w) 2147483647∧min (s.ep+w) 2147483647≤2147483647:=by omega
 have hml:=ti.ml;have hxl:=V5 ti.ex;have hdn:=ti.dn;obtain⟨b1,b2,b3,b4,b5,b6⟩:=ti.parts;have hsum:=ti.sum;obtain⟨t,hte⟩:∃t,t=min (s.ep+w) 2147483647:=⟨_,rfl⟩
 rw[← hte]at hk ht;obtain⟨n,hn⟩:∃n,n=s.members.length:=⟨_,rfl⟩
 rw[← hn]at hk;have hej:=fun k (hk:k≤s.members.length)=>Yfq (q:=s.par) (t:=t) ti.be ti.ex ti.dd ht (by omega) k hk;have hll:=fun k=>WJ (ejF s.par) s.members k;refine Z3 func86 rfl (rs:=[]) rfl rfl ZW (by kernel_rfl) rfl rfl fun ap nd=>?_;have hbb:h bb=noC:=ap.1;have hbm:apO om [] h:=YH ap.2;have nmb:apB om bb:=Yp nd.1;clear ap nd;refine xx ?_;refine Z2 fun bx n_bx h_bx=>?_;(try simp only[ZT]at n_bx);have nxb:=n_bx.1;refine xx ?_;have eR:ejR s r 0=r:=by simp [ejR,ouN]
 have eV:({ v with d:=v.d,x:=ovs ox (ejS s t 0).exit.length }:SV)=v:=by rw[show (ejS s t 0).exit=s.exit from rfl,← hx]
 have eQ:({ q with o:=ovs oo (ejR s r 0).out.length }:RV)=q:=by rw[eR,← ho]
 refine Zc.weaken (L':=tB bb (ejS s t 0) { v with d:=v.d,x:=ovs ox (ejS s t 0).exit.length } (ejR s r 0) { q with o:=ovs oo (ejR s r 0).out.length } w::tMo om (ejS s t 0).members (oent 3 1 oo ((ejR s r 0).out.map (.int .i64)) (oent 3 1 ox ((ejS s t 0).exit.map (.int .i64)) (tX bx bb::L)))) (Za.perm h ?_) ?_
 ·rw[eV,eQ,eR];exact(List.Perm.swap _ _ _).trans (List.Perm.cons _ (oent_perm.trans (Z5 om _ (oent_perm.trans (Z5 oo _ oent_perm)))))
 refine Ve (cl:=212) (cap:=[.pointer (some ⟨bx,0,none⟩)]) (n:=n) (γ:=EjG)
  (fun j x=>x.k=j∧j≤n∧PH.le h x.h∧Zh Yz 3 x.h x.d (ejS s t x.k).dues∧okO x.o (ejR s r x.k).out.length∧x.h bb=noC∧apO om [] x.h)
  (fun x=>ejS s t x.k) (fun x=>{ v with d:=x.d,x:=ovs ox (ejS s t x.k).exit.length }) (fun x=>ejR s r x.k) (fun x=>{ q with o:=ovs x.o (ejR s r x.k).out.length })
  (fun x=>oent 3 1 x.o ((ejR s r x.k).out.map (.int .i64)) (oent 3 1 ox ((ejS s t x.k).exit.map (.int .i64)) (tX bx bb::L))) (fun x=>x.h) ⟨0,h,v.d,oo⟩ (by omega) (by rw[hn];exact okm) ?_ nmb ?_ ?_ ?_ ?_
 ·rintro k x ⟨rfl,e2,e3,e4,e5,e6,e7⟩;exact⟨by rw[hn];exact hm,by rw[hn];exact hll _,e6,e7⟩
 ·rintro bm cm rfl k ⟨k,h1,d1,o1⟩ c1 ⟨rfl,e2,e3,e4,e5,e6,e7⟩ c2;simp only at c1 e2 e3 e4 e5 e6 e7 c2 ⊢;have eo:=hej k (by omega);have hlk:=hll k;have hat:=Gj (ejF s.par) s.members (k:=k) (by omega);have hbe:Zy (upN (ejF s.par) s.members k) s.purses:=ti.be.upN (fun m hm=>⟨Zul hm,Yhw _ m⟩) (by omega);have hbl:=hbe.bl (i:=k) (by omega);have how:=(hbe.at (i:=k) (by omega)).2;have hpl:=ti.pl;have how2:0≤(gr ZQ (upN (ejF s.par) s.members k) k).owner∧(gr ZQ (upN (ejF s.par) s.members k) k).owner≤63:=by omega
  have hep2:0≤s.ep∧s.ep≤1073741824:=by omega
  have eot:=eo.t;have eon:=eo.n;have hexl:=Zdl s.par s.members s.exit k;have houl:=Zek s.par s.members k;have hrl:(ejR s r k).out.length=r.out.length+(ouN s.par s.members k).length:=List.length_append;have c2':Uu (gr ZQ s.members k):=by rw[← hat];exact c2
  refine Zc.apn (Yal (s:=ejS s t k) (v:={ v with d:=d1,x:=ovs ox (ejS s t k).exit.length }) (r:=ejR s r k) (q:={ q with o:=ovs o1 (ejR s r k).out.length }) (oo:=o1) (ox:=ox) (by show v.m=_;rw[hm];show Value.slice _ s.members.length cm = .slice _ (upN (ejF s.par) s.members k).length cm;rw[hlk]) (by show (upN (ejF s.par) s.members k).length≤900;omega) hbe.m e4 (fun x hx=>(eo.d x hx).1) (by show (duN s.par s.members t s.dues k).length≤32000;omega) k (by show k<(upN (ejF s.par) s.members k).length;omega) how2 hw hep2 (by show Wp (duN s.par s.members t s.dues k)+(gr ZQ (upN (ejF s.par) s.members k) k).bal≤_;omega) rfl (Zlw okx hexl) (by show (exN s.par s.members s.exit k).length≤900;omega) rfl e5 (by rw[hrl];omega) (fun c3 h2 d2 o2 le2 i2 ok2 ap nd=>?_) (fun c3 ap nd=>?_))
  ·have c4:ejP s.par (gr ZQ s.members k):=⟨c2',by rw[← hat];exact c3⟩
   have s1:ejS s t (k+1)=Ydg (ejS s t k) w k:=by
    have u1:upN (ejF s.par) s.members (k+1)=(upN (ejF s.par) s.members k).set k (Ga (gr ZQ (upN (ejF s.par) s.members k) k) 4):=by
     rw[upN,hat,ejF,if_pos c4];rfl
    have u2:duN s.par s.members t s.dues (k+1)=Jv (duN s.par s.members t s.dues k) (U8 t (gr ZQ (upN (ejF s.par) s.members k) k)):=by rw[duN,if_pos c4,hat]
    have u3:exN s.par s.members s.exit (k+1)=flt (exN s.par s.members s.exit k) k:=by rw[Zxh,if_pos c4]
    show ({ s with members:=upN (ejF s.par) s.members (k+1),dues:=duN s.par s.members t s.dues (k+1),exit:=exN s.par s.members s.exit (k+1) }:Zd)={ s with members:=(upN (ejF s.par) s.members k).set k (Ga (gr ZQ (upN (ejF s.par) s.members k) k) 4),dues:=Jv (duN s.par s.members t s.dues k) (U8 (min (s.ep+w) 2147483647) (gr ZQ (upN (ejF s.par) s.members k) k)),exit:=flt (exN s.par s.members s.exit k) k };rw[u1,u2,u3,← hte]
   have s2:(ejR s r (k+1)).out=(ejR s r k).out++[(k:Int)]:=by
    show r.out++ouN s.par s.members (k+1)=r.out++ouN s.par s.members k++[(k:Int)];rw[ouN,if_pos c4,List.append_assoc]
   have s3:(ejR s r (k+1)).out.length=(ejR s r k).out.length+1:=by rw[s2,List.length_append];rfl
   have s4:ejR s r (k+1)={ ejR s r k with out:=(ejR s r k).out++[(k:Int)] }:=by rw[← s2];rfl
   refine⟨⟨k+1,h2,d2,o2⟩,⟨rfl,by omega,e3.trans le2,by rw[s1];exact i2,by rw[s3];exact ok2,ap.1,trivial,ap.2.1⟩,?_⟩;simp only;rw[s1,s3,s4];exact Za.refl _ _
  ·have c4:¬ejP s.par (gr ZQ s.members k):=fun c=>c3 (by show (gr ZQ (upN (ejF s.par) s.members k) k).bal≤_;rw[hat];exact c.2);have s1:ejS s t (k+1)=ejS s t k:=Ydw (by omega) c4;have s4:ejR s r (k+1)=ejR s r k:=Ydj c4;refine⟨⟨k+1,h1,d1,o1⟩,⟨rfl,by omega,e3,by rw[s1];exact e4,by rw[s4];exact e5,e6,e7⟩,?_⟩;simp only;rw[s1,s4];exact Za.refl _ _
 ·rintro k ⟨k,h1,d1,o1⟩ c1 ⟨rfl,e2,e3,e4,e5,e6,e7⟩ c2;simp only at c1 e2 e3 e4 e5 e6 e7 c2 ⊢;have hat:=Gj (ejF s.par) s.members (k:=k) (by omega);have c4:¬ejP s.par (gr ZQ s.members k):=fun c=>c2 (by show Uu (gr ZQ (upN (ejF s.par) s.members k) k);rw[hat];exact c.1);have s1:ejS s t (k+1)=ejS s t k:=Ydw (by omega) c4;have s4:ejR s r (k+1)=ejR s r k:=Ydj c4;refine⟨⟨k+1,h1,d1,o1⟩,⟨rfl,by omega,e3,by rw[s1];exact e4,by rw[s4];exact e5,e6,e7⟩,?_⟩;simp only;rw[s1,s4];exact Za.refl _ _
 ·exact⟨rfl,Nat.zero_le _,PH.le_refl _,hd,by simpa [ejR,ouN] using oko,hbb,hbm⟩
 ·rintro⟨k,h1,d1,o1⟩ ⟨e1,e2,e3,e4,e5,e6,e7⟩;simp only at e1 e2 e3 e4 e5 e6 e7 ⊢;subst e1;refine xx ?_;exact⟨_,_,Za.sub (.cons_cons _ (U5 _ (U5 _ (U5 _ (List.sublist_cons_self _ _))))),hk h1 d1 o1 e3 e4 e5⟩
theorem Zlv {ms:List Zb}{i:Nat}(hi:i<ms.length)(m:Zb)(ho:m.owner=(gr ZQ ms i).owner)(hs:m.status=(gr ZQ ms i).status) :
  ((((ms.flatMap Yv).set (i*6) (.int .u64 m.bal)).set (i*6+1) (.int .u64 m.eff)).set (i*6+1+1) (.int .u64 m.score)).set (i*6+1+1+1) (.int .i64 m.streak)=(ms.set i m).flatMap Yv:=by
 have h1:=fset4 hi (gr ZQ ms i) m ho hs;have e:ms.set i (gr ZQ ms i)=ms:=by rw[Z8 hi,List.set_getElem_self]
 rw[e]at h1;exact h1
theorem perm2o {e sz:Nat}{o:Option (Nat×Nat)}{xs:List Value}{a b:Zm}{L:Own}:(a::b::oent e sz o xs L).Perm (oent e sz o xs (a::b::L)):=Yj [a,b]
theorem perm2m {e sz:Nat}{o:Option (Nat×Nat)}{xs:List Value}{a b:Zm}{L:Own}:(a::b::oent e sz o xs L).Perm (b::oent e sz o xs (a::L)):=(List.Perm.swap _ _ _).trans (List.Perm.cons _ oent_perm)
theorem Yfw {e sz:Nat}{o:Option (Nat×Nat)}{xs:List Value}{x y:Zm}(hx:apB o x.b)(hy:apB o y.b)(nd:Nd (oent e sz o xs L))(ha:apO o [] h):apO o (x::y::L) h:=by
 cases o with
 | none=>trivial
 | some p=>exact⟨⟨Ne.symm hx,Ne.symm hy,nd.1⟩,ha.2⟩
theorem Zee {x y z:Zm}(ap:Ap (x::y::z::L) h)(nd:Nd (x::y::z::L)):h x.b=noC∧h y.b=noC∧h z.b=noC∧y.b≠x.b∧x.b≠z.b∧y.b≠z.b :=
 ⟨ap.1,ap.2.1,ap.2.2.1,nd.1.1,Ne.symm nd.1.2.1,Ne.symm nd.2.1.1⟩
theorem Ybd {bb bm cm bx:Nat}{s:Zd}{v:SV}{r:Zi}{q:RV}{w:Int}(ok:Zj s.par)(hr:YM s.par=true)(hk0:Ints h .u8 v.k s.marks)(mo:∀x∈s.members,Zf x)(i:Nat)(hi:i<s.members.length)(hml:s.members.length≤900)
  (hk:K (.tuple #[]) (tB bb { s with members:=s.members.set i (Vc s.par (gr ZQ s.members i) (Vm s.marks i) r.mode) } v r q w::tM bm cm (s.members.set i (Vc s.par (gr ZQ s.members i) (Vm s.marks i) r.mode))::tX bx bb::L) h) :
  Zc prog 205 [.int .i64 i,.pointer (some ⟨bm,i*6,none⟩),.pointer (some ⟨bx,0,none⟩)] (tB bb s v r q w::tM bm cm s.members::tX bx bb::L) h K:=by
 refine Z3 func205 rfl (rs:=[]) rfl rfl ZW (by kernel_rfl) rfl rfl fun ap nd=>?_;obtain⟨hbb,hbm,hbx,nmb,nbx,nmx⟩:=Zee ap nd;simp only at hbb hbm hbx nmb nbx nmx;clear ap nd;obtain⟨g0,g1,g2,g3,g4,g5⟩:=Zql hi;have hi6:=Y5 (w:=6) hi (show 3<6 by decide);have hsum:=Zwg (ms:=s.members) rfl;refine Yn (.tk 0 (.tk 6 (.tk 7 (.tk 8 (.tk 11 (.tkl 1 (.tk 2 (.tk 3 (.tk 4 (.tkl 5 (.tkl 9 (.tkl 10 (.tkl 13 (.tk 14 (.tk 15 (.tk 16 (.tkl 17 (.o1 12 (.o1 18 (.tk 19 (.tk 20 (.o2 21 (.fin) (.nil)))) (.nil)) (.nil))))))))))))))))))) (by kernel_rfl) (by kernel_rfl) _ (Za.refl _ _) ?_;simp -dsimp -implicitDefEqProofs (disch:=first|with_reducible assumption|omega) [go_sem,g0,g1,g2,g3];refine J8 hk0 i (by omega) ?_;refine xx ?_;refine Zck s.par ok hr (gr ZQ s.members i) (mo _ (Yq hi)) (Vm s.marks i) r.mode ?_;refine xx ?_;refine⟨by omega,?_⟩;rw[Zlv hi (Vc s.par (gr ZQ s.members i) (Vm s.marks i) r.mode) (by unfold Vc;split<;>rfl) (by unfold Vc;split<;>rfl)];exact ZO hk
theorem Zoq {bb D:Nat}{om:Option (Nat×Nat)}{s:Zd}{v:SV}{r:Zi}{q:RV}{w:Int}(ti:Zp s D)(hA:Y7 s≤140737488355328)(hk0:Ints h .u8 v.k s.marks)(hm:v.m=ovs om s.members.length)(okm:okO om s.members.length)
    (hk:∀h',PH.le h h'→K (.tuple #[]) (tB bb (wgS s) v (wgR s r) q w::tMo om (wgS s).members L) h') :
    Zc prog 83 [.pointer (some ⟨bb,0,none⟩)] (tB bb s v r q w::tMo om s.members L) h K:=by
  obtain⟨vp,vm,ve,vx,vo,vd,vt,vk,vr⟩:=v;simp only at hm hk0 hk ⊢;subst hm;have hml:=ti.ml;have hpre:=Vg (ks:=s.marks) ti.be.m;obtain⟨a1,a2,a3,a4,a5,a6,a7⟩:=ti.ok.all;obtain⟨n,hn⟩:∃n,n=s.members.length:=⟨_,rfl⟩
  refine Z3 func83 rfl (rs:=[]) rfl rfl ZW (by kernel_rfl) rfl rfl fun ap nd=>?_;have hbb:h bb=noC:=ap.1;have hbm:apO om [] h:=YH ap.2;have nmb:apB om bb:=Yp nd.1;have ndo:=nd.2;clear ap nd;refine xx ?_;refine Z2 fun bx n_bx h_bx=>?_;(try simp only[ZT]at n_bx);have nbx:=n_bx.1;have nmx:apB om bx:=Yp n_bx.2;refine xx ?_;have hapO:apO om (tX bx bb::tB bb s ⟨vp,ovs om s.members.length,ve,vx,vo,vd,vt,vk,vr⟩ r q w::L) h:=Yfw nmx nmb ndo hbm;refine WH (.tkl 0 (.tkl 2 (.tk 3 (.tk 4 (.tk 5 (.tkl 6 (.tkl 7 (.tk 8 (.tk 9 (.tk 10 (.tkl 11 (.o1 1 (.o1 12 (.tk 13 (.tk 14 (.tk 15 (.tk 16 (.tk 17 (.tk 18 (.tk 19 (.o2 20 (.tk 21 (.tk 22 (.tk 23 (.o2 24 (.fin) (.nil))))) (.nil))))))))) (.nil)) (.o1 12 (.tk 13 (.tk 14 (.tk 15 (.tk 16 (.tk 17 (.tk 18 (.tk 19 (.o1 1 (.o2 20 (.tk 21 (.tk 22 (.tk 23 (.o2 24 (.fin) (.nil))))) (.nil)) (.o2 20 (.o1 1 (.tk 21 (.tk 22 (.tk 23 (.o2 24 (.fin) (.nil))))) (.nil)) (.nil)))))))))) (.nil)))))))))))))) (by kernel_rfl) (by kernel_rfl) [(1,.pointer (some ⟨bx,0,none⟩))] _ (γ:=PH) (fun h1=>PH.le h h1∧h1 bb=noC∧apO om [] h1∧h1 bx=noC) (fun _=>[(1,.pointer (some ⟨bx,0,none⟩))])
    (fun _=>tX bx bb::tB bb s ⟨vp,ovs om s.members.length,ve,vx,vo,vd,vt,vk,vr⟩ { r with pres:=GR s,act:=Y7 s } q w::tMo om s.members L) (fun h1=>h1) (by simp [Ent,List.lookup,Wo]) (Za.refl _ _) ?_ ?_
  · repeat' first
      | with_reducible refine Y4 ?_ ?_
      | simp -dsimp -implicitDefEqProofs (disch:=first|with_reducible assumption|omega) [go_sem]
      | (with_reducible show JX prog 137 _ _ _ _
         refine Zc.fin (Zc.weaken (Za.perm h perm2o) (Zc.ap (Zfo (l:=s.members) (ks:=s.marks) om okm hapO _ ti.be.m hk0 (by omega) (by show Y7 s≤_;omega) fun h1 le1 ap=>⟨_,_,Za.perm _ perm2o.symm,?_⟩)));have hbm1:apO om [] h1:=YH ap;have hbx1:h1 bx=noC:=(Ap.oent ap).1;have hbb1:h1 bb=noC:=(Ap.oent ap).2.1
         clear ap)
      | with_reducible refine xkp (Za.forget le1) ?_
    all_goals exact⟨h1,⟨le1,hbb1,hbm1,hbx1⟩,by simp [Ent,List.lookup],Za.refl _ _⟩
  rintro h1 ⟨le1,hbb1,hbm1,hbx1⟩
  try simp only
  refine xx ?_;refine WH (.tkl 0 (.tkl 2 (.tk 3 (.tk 4 (.tk 5 (.tkl 6 (.tkl 7 (.tk 8 (.tk 9 (.tk 10 (.tkl 11 (.tkl 12 (.tk 13 (.tk 14 (.tk 15 (.tkl 16 (.tkl 17 (.tk 18 (.tk 19 (.tk 20 (.tkl 21 (.o1 1 (.o1 22 (.tk 23 (.tk 24 (.tk 25 (.tk 26 (.tk 27 (.tk 28 (.o2 29 (.tk 30 (.tk 31 (.tk 32 (.o2 33 (.fin) (.nil))))) (.nil)))))))) (.nil)) (.o1 22 (.tk 23 (.tk 24 (.tk 25 (.tk 26 (.tk 27 (.tk 28 (.o1 1 (.o2 29 (.tk 30 (.tk 31 (.tk 32 (.o2 33 (.fin) (.nil))))) (.nil)) (.o2 29 (.o1 1 (.tk 30 (.tk 31 (.tk 32 (.o2 33 (.fin) (.nil))))) (.nil)) (.nil))))))))) (.nil)))))))))))))))))))))))) (by kernel_rfl) (by kernel_rfl) [(1,.pointer (some ⟨bx,0,none⟩))] _ (γ:=Unit) (fun _=>True) (fun _=>[(1,.pointer (some ⟨bx,0,none⟩))])
    (fun _=>tX bx bb::tB bb { s with calm:=(VJ s.calm (GR s) (Y7 s)).1 } ⟨vp,ovs om s.members.length,ve,vx,vo,vd,vt,vk,vr⟩ { r with pres:=GR s,act:=Y7 s,quo:=(VJ s.calm (GR s) (Y7 s)).2 } q w::tMo om s.members L) (fun _=>h1) (by simp [Ent,List.lookup,Wo]) (Za.refl _ _) ?_ ?_
  · repeat' first
      | with_reducible refine Y4 ?_ ?_
      | simp -dsimp -implicitDefEqProofs (disch:=first|with_reducible assumption|omega) [go_sem]
      | (with_reducible show JX prog 193 _ _ _ _
         refine Zfv s.par s.calm (GR s) (Y7 s) ⟨hpre.1,by have:GR s≤Y7 s:=hpre.2;omega⟩ ⟨by have:0≤GR s∧GR s≤Y7 s:=hpre;omega,by omega⟩ a7 ?_)
      | with_reducible refine xkp (Za.refl _ _) ?_
    all_goals exact⟨by simp [Ent,List.lookup],Za.refl _ _⟩
  rintro _ _;refine xx ?_;refine Yn (.tkl 0 (.tkl 1 (.tk 2 (.tk 3 (.tk 4 (.tkl 5 (.tkl 6 (.tk 7 (.tk 8 (.tk 9 (.tkl 10 (.tkl 11 (.tk 12 (.tk 13 (.tk 14 (.tkl 15 (.o1 16 (.tk 17 (.tk 18 (.tk 19 (.o2 20 (.fin) (.nil))))) (.nil)))))))))))))))))) (by kernel_rfl) (by kernel_rfl) _ (Za.refl _ _) ?_;refine xx ?_;refine Zrw s.par (VJ s.calm (GR s) (Y7 s)).1 s.emer ?_;refine xx ?_;refine Zc.weaken (Za.perm h1 perm2m) ?_;refine Ve (cl:=205) (cap:=[.pointer (some ⟨bx,0,none⟩)]) (n:=n) (γ:=Nat) (fun j x=>x=j∧j≤n) (fun k=>{ s with calm:=(VJ s.calm (GR s) (Y7 s)).1,members:=upI (wgF s.par s.marks (Ym s)) s.members k }) (fun _=>⟨vp,ovs om s.members.length,ve,vx,vo,vd,vt,vk,vr⟩) (fun _=>wgR s r) (fun _=>q) (fun _=>tX bx bb::L) (fun _=>h1) 0 (by omega) (by rw[hn];exact okm) ?_ nmb ?_ ?_ ?_ ?_
  · rintro k x ⟨rfl,e2⟩;exact⟨by rw[hn],by rw[hn];exact WW _ _ _,hbb1,hbm1⟩
  · rintro bm cm rfl k x c1 ⟨rfl,e2⟩ c2;have hat:=GV (wgF s.par s.marks (Ym s)) s.members (k:=x) (by omega);have c3:Uu (gr ZQ s.members x):=by rw[← hat];exact c2
    have hl:=WW (wgF s.par s.marks (Ym s)) s.members x;refine Ybd (s:={ s with calm:=(VJ s.calm (GR s) (Y7 s)).1,members:=upI (wgF s.par s.marks (Ym s)) s.members x }) ti.ok.p ti.r (hk0.up le1) (Zaq Zf (fun k m hm=>Ydz ti.ok.p ti.r _ _ k hm) ti.be.m x (by omega)) x (by show x<(upI (wgF s.par s.marks (Ym s)) s.members x).length;omega) (by show (upI (wgF s.par s.marks (Ym s)) s.members x).length≤900;omega) ⟨x+1,⟨rfl,by omega⟩,?_⟩;have e:upI (wgF s.par s.marks (Ym s)) s.members (x+1)=(upI (wgF s.par s.marks (Ym s)) s.members x).set x (Vc s.par (gr ZQ (upI (wgF s.par s.marks (Ym s)) s.members x) x) (Vm s.marks x) (Ym s)):=by
      rw[upI,hat,wgF,if_pos c3]
    rw[e];exact Za.refl _ _
  · rintro k x c1 ⟨rfl,e2⟩ c2;have hat:=GV (wgF s.par s.marks (Ym s)) s.members (k:=x) (by omega);have c3:¬Uu (gr ZQ s.members x):=by rw[← hat];exact c2
    refine⟨x+1,⟨rfl,by omega⟩,?_⟩;have e:upI (wgF s.par s.marks (Ym s)) s.members (x+1)=upI (wgF s.par s.marks (Ym s)) s.members x:=Znr _ _ (by omega) (if_neg c3);rw[e];exact Za.refl _ _
  · exact⟨rfl,Nat.zero_le _⟩
  · rintro k ⟨e1,e2⟩;subst e1;refine xx ?_;refine⟨_,_,Za.sub (.cons_cons _ (U5 _ (List.sublist_cons_self _ _))),?_⟩;subst hn;exact hk h1 le1
theorem Zzc {bb bm cm bx:Nat}{s:Zd}{v:SV}{r:Zi}{q:RV}{w:Int}(ok:Zj s.par)(hr:YM s.par=true)(hk0:Ints h .u8 v.k s.marks)(mo:∀x∈s.members,Zf x)(i:Nat)(hi:i<s.members.length)(hml:s.members.length≤900)
    (h1:0≤s.treas∧s.treas+YR s.par (gr ZQ s.members i) r.mode≤18446744073709551615) (h2:0≤r.burned∧r.burned+YR s.par (gr ZQ s.members i) r.mode≤18446744073709551615) (h3:0≤r.fees∧r.fees+YR s.par (gr ZQ s.members i) r.mode≤18446744073709551615)
    (hk:Vm s.marks i=false→K (.tuple #[]) (tB bb { s with treas:=s.treas+YR s.par (gr ZQ s.members i) r.mode,members:=s.members.set i (Ua s.par (gr ZQ s.members i) r.mode) } v { r with burned:=r.burned+WQ s.par (YR s.par (gr ZQ s.members i) r.mode),fees:=r.fees+(YR s.par (gr ZQ s.members i) r.mode-WQ s.par (YR s.par (gr ZQ s.members i) r.mode)) } q w::tM bm cm (s.members.set i (Ua s.par (gr ZQ s.members i) r.mode))::tX bx bb::L) h)
    (hno:Vm s.marks i=true→K (.tuple #[]) (tB bb s v r q w::tM bm cm s.members::tX bx bb::L) h) :
    Zc prog 210 [.int .i64 i,.pointer (some ⟨bm,i*6,none⟩),.pointer (some ⟨bx,0,none⟩)] (tB bb s v r q w::tM bm cm s.members::tX bx bb::L) h K:=by
  refine Z3 func210 rfl (rs:=[]) rfl rfl ZW (by kernel_rfl) rfl rfl fun ap nd=>?_;obtain⟨hbb,hbm,hbx,nmb,nbx,nmx⟩:=Zee ap nd;simp only at hbb hbm hbx nmb nbx nmx;clear ap nd;obtain⟨g0,g1,g2,g3,g4,g5⟩:=Zql hi;have hi6:=Y5 (w:=6) hi (show 3<6 by decide);have hsum:=Zwg (ms:=s.members) rfl;refine xx ?_;refine J8 hk0 i (by omega) ?_
  cases c:Vm s.marks i with
  | true =>
    have hno:=hno c;refine xx ?_;exact ZO hno
  | false =>
  have hk:=hk c;clear hno;obtain⟨_,b1,b2,b3,b4⟩:=Jx ok hr (mo _ (Yq (z:=ZQ) hi)) r.mode;have hst:=Zlv hi (Ua s.par (gr ZQ s.members i) r.mode) rfl rfl;refine xx ?_;refine WH (.tk 5 (.tk 6 (.tk 7 (.tkl 0 (.tk 1 (.tk 2 (.tk 3 (.tkl 4 (.tkl 8 (.tkl 9 (.tk 10 (.tk 11 (.tk 12 (.tkl 13 (.o1 14 (.tk 15 (.tk 16 (.tk 17 (.tk 18 (.o1 19 (.o2 20 (.tk 21 (.tk 22 (.fin))) (.nil)) (.nil)))))) (.o1 19 (.o1 14 (.tk 15 (.tk 16 (.tk 17 (.tk 18 (.o2 20 (.tk 21 (.tk 22 (.fin))) (.nil)))))) (.nil)) (.nil))))))))))))))))) (by kernel_rfl) (by kernel_rfl) [(0,.int .i64 i),(1,.pointer (some ⟨bm,i*6,none⟩)),(2,.pointer (some ⟨bx,0,none⟩))] _ (γ:=Nat) (fun b5=>bb≠b5∧bm≠b5∧bx≠b5∧h b5=noC)
    (fun b5=>[(1,.pointer (some ⟨bm,i*6,none⟩)),(2,.pointer (some ⟨bx,0,none⟩)),(5,.pointer (some ⟨b5,0,none⟩)),(6,.int .u64 (WQ s.par (YR s.par (gr ZQ s.members i) r.mode))),(7,.int .u64 (YR s.par (gr ZQ s.members i) r.mode-WQ s.par (YR s.par (gr ZQ s.members i) r.mode)))])
    (fun b5=>⟨b5,72,sdC (Ua s.par (gr ZQ s.members i) r.mode),4⟩::tB bb s v r q w::tM bm cm s.members::tX bx bb::L) (fun _=>h) (by simp [Ent,List.lookup,Wo]) (Za.refl _ _) ?_ ?_
  · repeat' first
      | with_reducible refine Y4 ?_ ?_
      | simp -dsimp -implicitDefEqProofs (disch:=first|with_reducible assumption|omega) [go_sem,g0,g1,g2,g3]
      | (with_reducible refine Z2 fun b5 nb5 zb5 => ?_
         simp only[ZT]at nb5)
      | (with_reducible show JX prog 199 _ _ _ _
         refine Zah s.par ok hr (gr ZQ s.members i) (mo _ (Yq hi)) r.mode ?_)
      | with_reducible refine xkp (Za.refl _ _) ?_
      | with_reducible refine xkp (Za.tail _ _ _) ?_
    all_goals exact⟨b5,⟨nb5.1,nb5.2.1,nb5.2.2.1,zb5⟩,by simp [Ent,List.lookup],Za.refl _ _⟩
  rintro b5 ⟨n1,n2,n3,h5⟩;have hm:(Ua s.par (gr ZQ s.members i) r.mode).bal=(gr ZQ s.members i).bal-YR s.par (gr ZQ s.members i) r.mode∧(Ua s.par (gr ZQ s.members i) r.mode).eff=(gr ZQ s.members i).eff:=⟨rfl,rfl⟩
  generalize Ua s.par (gr ZQ s.members i) r.mode=fm at *
  obtain⟨f,hf⟩:∃f,f=YR s.par (gr ZQ s.members i) r.mode:=⟨_,rfl⟩
  rw[← hf]at h1 h2 h3 b1 b2 b3 b4 hk ⊢;obtain⟨b,hb⟩:∃b,b=WQ s.par f:=⟨_,rfl⟩
  rw[← hb]at b3 b4 hk ⊢;have e1:s.treas+(b+(f-b))=s.treas+f:=by omega
  simp only[sdC];refine xx ?_;refine⟨by omega,?_⟩;rw[hst,e1];exact ZP (ZO hk)
theorem Yik {s:Zd}{r:Zi}{k:Nat}(hk:k<s.members.length)(c:fnC s.marks k (gr ZQ s.members k)) :
  Uv s r (k+1)={ Uv s r k with treas:=(Uv s r k).treas+YR s.par (gr ZQ s.members k) r.mode,members:=(Uv s r k).members.set k (Ua s.par (gr ZQ (Uv s r k).members k) r.mode) } ∧
  fnR s r (k+1)={ fnR s r k with burned:=(fnR s r k).burned+WQ s.par (YR s.par (gr ZQ s.members k) r.mode),fees:=(fnR s r k).fees+(YR s.par (gr ZQ s.members k) r.mode-WQ s.par (YR s.par (gr ZQ s.members k) r.mode)) }:=by
 have hat:=GV (fnF s.par s.marks r.mode) s.members hk;have u1:upI (fnF s.par s.marks r.mode) s.members (k+1)=(upI (fnF s.par s.marks r.mode) s.members k).set k (Ua s.par (gr ZQ (upI (fnF s.par s.marks r.mode) s.members k) k) r.mode):=by
  rw[upI,hat,fnF,if_pos c]
 have u2:Zbo s r (k+1)=Zbo s r k+YR s.par (gr ZQ s.members k) r.mode:=by rw[Zbo,fnT,if_pos c]
 have u3:GF s r (k+1)=GF s r k+WQ s.par (YR s.par (gr ZQ s.members k) r.mode):=by rw[GF,fnU,if_pos c]
 constructor
 ·show ({ s with treas:=s.treas+Zbo s r (k+1),members:=upI (fnF s.par s.marks r.mode) s.members (k+1) }:Zd)={ s with treas:=s.treas+Zbo s r k+YR s.par (gr ZQ s.members k) r.mode,members:=(upI (fnF s.par s.marks r.mode) s.members k).set k (Ua s.par (gr ZQ (upI (fnF s.par s.marks r.mode) s.members k) k) r.mode) };rw[u1,u2,Int.add_assoc]
 ·show ({ r with burned:=r.burned+GF s r (k+1),fees:=r.fees+(Zbo s r (k+1)-GF s r (k+1)) }:Zi)={ r with burned:=r.burned+GF s r k+WQ s.par (YR s.par (gr ZQ s.members k) r.mode),fees:=r.fees+(Zbo s r k-GF s r k)+(YR s.par (gr ZQ s.members k) r.mode-WQ s.par (YR s.par (gr ZQ s.members k) r.mode)) };rw[u2,u3]
  congr 1<;>omega
theorem Yeq {s:Zd}{r:Zi}{k:Nat}(hk:k<s.members.length)(c:¬fnC s.marks k (gr ZQ s.members k)):Uv s r (k+1)=Uv s r k∧fnR s r (k+1)=fnR s r k:=by
 have u1:upI (fnF s.par s.marks r.mode) s.members (k+1)=upI (fnF s.par s.marks r.mode) s.members k:=Znr _ _ hk (if_neg c);have u2:Zbo s r (k+1)=Zbo s r k:=by rw[Zbo,fnT,if_neg c]
 have u3:GF s r (k+1)=GF s r k:=by rw[GF,fnU,if_neg c]
 unfold Uv fnR;rw[u1,u2,u3];exact⟨rfl,rfl⟩
theorem Zos {bb D:Nat}{om:Option (Nat×Nat)}{s:Zd}{v:SV}{r:Zi}{q:RV}{w:Int}(ti:Zp s D)(hb0:r.burned=0)(hf0:r.fees=0)(hv:Yit v)(hk0:Ints h .u8 v.k s.marks)(hm:v.m=ovs om s.members.length)(okm:okO om s.members.length)
    (hk:K (.tuple #[]) (tB bb (fnS s r) v (fnR s r s.members.length) q w::tMo om (fnS s r).members L) h) :
    Zc prog 85 [.pointer (some ⟨bb,0,none⟩)] (tB bb s v r q w::tMo om s.members L) h K:=by
  have hml:=ti.ml;obtain⟨n,hn⟩:∃n,n=s.members.length:=⟨_,rfl⟩
  obtain⟨p1,p2,p3,p4,p5,p6⟩:=ti.parts;have hsum:=ti.sum;have hgo:=Ynl ti hb0;have hen:=Zme ti r (Nat.le_refl s.members.length);obtain⟨c1,c2,c3⟩:=Ypc ti r (Nat.le_refl s.members.length);rw[← hn]at hk hgo hen c1 c2 c3;refine Z3 func85 rfl (rs:=[]) rfl rfl ZW (by kernel_rfl) rfl rfl fun ap nd=>?_;have hbb:h bb=noC:=ap.1;have hbm:apO om [] h:=YH ap.2;have nmb:apB om bb:=Yp nd.1;clear ap nd;refine xx ?_;refine Z2 fun bx n_bx h_bx=>?_;(try simp only[ZT]at n_bx);have nbx:=n_bx.1;have nmx:apB om bx:=Yp n_bx.2;refine xx ?_;refine Zc.weaken (Za.perm h perm2m) ?_;have e0:Uv s r 0=s∧fnR s r 0=r:=by
    unfold Uv fnR;simp [fnT,fnU,upI]
  have key:∀K':PK,K' (.tuple #[]) (tB bb (Uv s r n) v (fnR s r n) q w::tMo om (Uv s r n).members (tX bx bb::L)) h→Zc prog 204 [.pointer (some ⟨bb,0,none⟩),.func (.func 210) #[] #[.pointer (some ⟨bx,0,none⟩)]] (tB bb s v r q w::tMo om s.members (tX bx bb::L)) h K':=by
    intro K' hK';have hcm:=Ve (K:=K') (cl:=210) (cap:=[.pointer (some ⟨bx,0,none⟩)]) (bb:=bb) (om:=om) (w:=w) (n:=n) (γ:=Nat) (fun j x=>x=j∧j≤n) (fun k=>Uv s r k) (fun _=>v) (fun k=>fnR s r k) (fun _=>q) (fun _=>tX bx bb::L) (fun _=>h) 0 (by omega) (by rw[hn];exact okm) ?_ nmb ?_ ?_ ?_ ?_
    · rw[e0.1,e0.2]at hcm;exact hcm
    · rintro k x ⟨rfl,e2⟩;exact⟨by rw[hn];exact hm,by rw[hn];exact WW _ _ _,hbb,hbm⟩
    · rintro bm cm rfl k x d1 ⟨rfl,e2⟩ d2;have hat:=GV (fnF s.par s.marks r.mode) s.members (k:=x) (by omega);have hat':gr ZQ (Uv s r x).members x=gr ZQ s.members x:=hat;have d3:Uu (gr ZQ s.members x):=by rw[← hat];exact d2
      have hl:(Uv s r x).members.length=s.members.length:=WW _ _ _;have tk:=Zme ti r (k:=x) (by omega);obtain⟨t1,t2,t3,t4,t5,t6⟩:=tk.parts;have ts:=tk.sum;have hbl:=tk.be.bl (i:=x) (by omega);rw[hat']at hbl;obtain⟨_,b1,b2,b3,b4⟩:=Jx ti.ok.p ti.r (ti.be.m _ (Yq (z:=ZQ) (k:=x) (by omega))) r.mode;obtain⟨u1,u2,u3⟩:=Ypc ti r (k:=x) (by omega);have w1:0≤(Uv s r x).treas∧(Uv s r x).treas+YR s.par (gr ZQ s.members x) r.mode≤18446744073709551615:=by omega
      have u4:Zbo s r x+tot ((Uv s r x).members.map Zb.bal)=tot (s.members.map Zb.bal):=u3;have w2:0≤(fnR s r x).burned∧(fnR s r x).burned+YR s.par (gr ZQ s.members x) r.mode≤18446744073709551615:=by
        show 0≤r.burned+GF s r x∧r.burned+GF s r x+_≤_;omega
      have w3:0≤(fnR s r x).fees∧(fnR s r x).fees+YR s.par (gr ZQ s.members x) r.mode≤18446744073709551615:=by
        show 0≤r.fees+(Zbo s r x-GF s r x)∧r.fees+(Zbo s r x-GF s r x)+_≤_;omega
      rw[← hat']at w1 w2 w3;refine Zzc (s:=Uv s r x) (r:=fnR s r x) ti.ok.p ti.r hk0 tk.be.m x (by omega) (by omega) w1 w2 w3 (fun g=>?_) (fun g=>?_)
      · have cc:fnC s.marks x (gr ZQ s.members x):=⟨d3,g⟩
        obtain⟨e1,e2'⟩:=Yik (r:=r) (show x<s.members.length by omega) cc;refine⟨x+1,⟨rfl,by omega⟩,?_⟩;rw[e1,e2',← hat'];exact Za.refl _ _
      · have cc : ¬ fnC s.marks x (gr ZQ s.members x) := fun cc => by
          have:Vm s.marks x=false:=cc.2;have g':Vm s.marks x=true:=g;rw[this]at g';cases g'
        obtain⟨e1,e2'⟩:=Yeq (r:=r) (show x<s.members.length by omega) cc;refine⟨x+1,⟨rfl,by omega⟩,?_⟩;rw[e1,e2'];exact Za.refl _ _
    · rintro k x d1 ⟨rfl,e2⟩ d2;have hat:=GV (fnF s.par s.marks r.mode) s.members (k:=x) (by omega);have cc:¬fnC s.marks x (gr ZQ s.members x):=fun cc=>d2 (by show Uu (gr ZQ (upI (fnF s.par s.marks r.mode) s.members x) x);rw[hat];exact cc.1);obtain⟨e1,e2'⟩:=Yeq (r:=r) (show x<s.members.length by omega) cc;refine⟨x+1,⟨rfl,by omega⟩,?_⟩;rw[e1,e2'];exact Za.refl _ _
    · exact⟨rfl,Nat.zero_le _⟩
    · rintro k ⟨e1,e2⟩;subst e1;exact hK'
  refine Zc.fin (key _ ⟨_,_,Za.perm h perm2m.symm,?_⟩);obtain⟨S1,hS1⟩:∃S1,S1=Uv s r n:=⟨_,rfl⟩
  obtain⟨R1,hR1⟩:∃R1,R1=fnR s r n:=⟨_,rfl⟩
  have eS:fnS s r=Ztg S1 R1.burned:=by rw[hS1,hR1,hn];rfl
  have hrb:0≤R1.burned∧R1.burned≤18446744073709551615:=by
    rw[hR1];have c4:0≤tot ((Uv s r n).members.map Zb.bal):=hen.be.bal;have c5:Zbo s r n+tot ((Uv s r n).members.map Zb.bal)=tot (s.members.map Zb.bal):=c3;show 0≤r.burned+GF s r n∧r.burned+GF s r n≤_;omega
  rw[eS,← hR1]at hk;rw[← hS1,← hR1]at hgo;rw[← hS1]at hen;rw[← hS1,← hR1];clear eS hS1 hR1 key e0 c1 c2 c3;have hv1:=hv;unfold Yit at hv1;refine xx ?_;refine WH (.tkl 0 (.tk 1 (.tk 2 (.tkl 3 (.tkl 4 (.tk 5 (.tk 6 (.tk 7 (.tkl 8 (.o1 9 (.tk 10 (.tk 11 (.tk 12 (.o1 13 (.o2 14 (.tk 15 (.fin)) (.nil)) (.nil))))) (.o1 13 (.o1 9 (.tk 10 (.tk 11 (.tk 12 (.o2 14 (.tk 15 (.fin)) (.nil))))) (.nil)) (.nil)))))))))))) (by kernel_rfl) (by kernel_rfl) [(1,.pointer (some ⟨bx,0,none⟩))] _ (γ:=Nat) (fun b2=>bx≠b2∧bb≠b2∧h b2=noC)
    (fun b2=>[(1,.pointer (some ⟨bx,0,none⟩)),(2,.pointer (some ⟨b2,0,none⟩)),(3,.int .i64 0)])
    (fun b2=>⟨b2,34,stC (Ztg S1 R1.burned) v,41⟩::tX bx bb::tB bb S1 v R1 q w::tMo om S1.members L) (fun _=>h) (by simp [Ent,List.lookup,Wo]) (Za.refl _ _) ?_ ?_
  · repeat' first
      | with_reducible refine Y4 ?_ ?_
      | simp -dsimp -implicitDefEqProofs (disch:=first|with_reducible assumption|omega) [go_sem]
      | (with_reducible refine Z2 fun b2 nb2 zb2 => ?_
         simp only[ZT]at nb2)
      | (with_reducible show JX prog 211 _ _ _ _
         refine Zrg v hv hen.ok R1.burned hrb hgo ?_)
      | with_reducible refine xkp (Za.refl _ _) ?_
      | with_reducible refine xkp (Za.tail _ _ _) ?_
      | with_reducible refine⟨hv1,?_⟩
      | fail
    all_goals exact⟨b2,⟨nb2.1,nb2.2.1,zb2⟩,by simp [Ent,List.lookup],Za.refl _ _⟩
  rintro b2 ⟨n1,n2,h2⟩;simp only[stC];refine xx ?_;refine⟨hv,?_⟩;exact ZP (ZP (ZO hk))
theorem Zzm {bb bm cm bx:Nat}{s:Zd}{v:SV}{r:Zi}{q:RV}{w:Int}(ok:Zj s.par)(hr:YM s.par=true)(mo:∀x∈s.members,Zf x)(i:Nat)(hi:i<s.members.length)(hml:s.members.length≤900)
  (hk:K (.tuple #[]) (tB bb { s with members:=s.members.set i (WM s.par (gr ZQ s.members i)) } v r q w::tM bm cm (s.members.set i (WM s.par (gr ZQ s.members i)))::tX bx bb::L) h) :
  Zc prog 225 [.int .i64 i,.pointer (some ⟨bm,i*6,none⟩),.pointer (some ⟨bx,0,none⟩)] (tB bb s v r q w::tM bm cm s.members::tX bx bb::L) h K:=by
 obtain⟨m,hmk⟩:∃m,m=gr ZQ s.members i:=⟨_,rfl⟩
 have hmo:Zf m:=mo m (by rw[hmk];exact Yq hi);have ub:=hmo.u m.bal (by simp);have ue:=hmo.u m.eff (by simp);rw[← hmk]at hk;refine Z3 func225 rfl (rs:=[]) rfl rfl ZW (by kernel_rfl) rfl rfl fun ap nd=>?_;obtain⟨hbb,hbm,hbx,nmb,nbx,nmx⟩:=Zee ap nd;simp only at hbb hbm hbx nmb nbx nmx;clear ap nd;obtain⟨g0,g1,g2,g3,g4,g5⟩:=Zql hi;rw[← hmk]at g0 g1;have hi6:=Y5 (w:=6) hi (show 3<6 by decide);have hsum:=Zwg (ms:=s.members) rfl;refine xx ?_;refine Yn (.tk 0 (.tk 6 (.tk 7 (.tk 8 (.tk 9 (.tk 11 (.tk 12 (.tk 13 (.tk 14 (.tkl 1 (.tk 2 (.tk 3 (.tk 4 (.tkl 5 (.tkl 10 (.tkl 15 (.o1 16 (.tk 17 (.tk 18 (.tk 19 (.o2 20 (.fin) (.nil))))) (.nil)))))))))))))))))) (by kernel_rfl) (by kernel_rfl) _ (Za.refl _ _) ?_;simp -dsimp -implicitDefEqProofs (disch:=first|with_reducible assumption|omega) [go_sem,g0,g1];refine Zvx s.par ok hr m.eff m.bal ue ub ?_
 first
 | refine xkp (Za.refl _ _) ?_
 | skip
 refine xx ?_;obtain⟨n1,hn1⟩:∃n1,n1=Zab s.par m.eff m.bal:=⟨_,rfl⟩
 have hw:=Zap (J6 hr) ok ub;have un:0≤n1∧n1≤18446744073709551615:=by
  rw[hn1];unfold Zab;split
  ·exact hw
  ·exact ue
 obtain⟨m1,hm1⟩:∃m1:Zb,m1={ m with eff:=n1 }:=⟨_,rfl⟩
 have hset1:(s.members.flatMap Yv).set (i*6+1) (.int .u64 n1)=(s.members.set i m1).flatMap Yv:=Yx Yg ZQ s.members hi (by decide) (by rw[← hmk,hm1];rfl);rw[← hn1,hset1];refine⟨by omega,?_⟩;have hk1':i<(s.members.set i m1).length:=by rw[List.length_set];exact hi
 have hg1:gr ZQ (s.members.set i m1) i=m1:=by rw[Z8 hk1',List.getElem_set_self]
 have e1:m1.bal=m.bal:=by rw[hm1]
 have r0:∀(K:Value→Prop) (t:Zk K),Wz ((s.members.set i m1).flatMap Yv) (i*6) K t=K (.int .u64 m.bal):=fun K t=>Z1 Yg ZQ _ (m:=0) hk1' (by decide) (by rw[hg1,← e1];rfl) K t;have r1:∀(K:Value→Prop) (t:Zk K),Wz ((s.members.set i m1).flatMap Yv) (i*6+1) K t=K (.int .u64 n1):=fun K t=>Z1 Yg ZQ _ (m:=1) hk1' (by decide) (by rw[hg1,hm1];rfl) K t;refine Zgl (by kernel_rfl) rfl ?_;simp -dsimp -implicitDefEqProofs (disch:=first|with_reducible assumption|omega) [go_sem,r0,r1];refine Zsg _ (Zhh s.par ok n1 m.bal un ub ⟨rfl,rfl,rfl⟩) ?_;rw[hr,Bool.true_and]
 cases hgf:VV s.par n1 m.bal with
 | true =>
  have es:WM s.par m=m1:=by rw[WM,← hn1,hgf,if_pos rfl,hm1]
  rw[es]at hk;simp -dsimp -implicitDefEqProofs (disch:=first|with_reducible assumption|omega) [go_sem,r0,r1];exact ZO hk
 | false =>
  have es:WM s.par m={ m with eff:=Wi s.par m.bal }:=by rw[WM,← hn1,hgf];rfl
  rw[es]at hk;simp -dsimp -implicitDefEqProofs (disch:=first|with_reducible assumption|omega) [go_sem,r0,r1];refine Yn (.tk 0 (.tk 6 (.tk 7 (.tk 8 (.tk 9 (.tkl 1 (.tk 2 (.tk 3 (.tk 4 (.tkl 5 (.tkl 10 (.o1 11 (.tk 12 (.tk 13 (.tk 14 (.o2 15 (.fin) (.nil))))) (.nil))))))))))))) (by kernel_rfl) (by kernel_rfl) _ (Za.refl _ _) ?_;simp -dsimp -implicitDefEqProofs (disch:=first|with_reducible assumption|omega) [go_sem,r0,r1];refine JZ s.par ok m.bal ub ?_;rw[hr,if_pos rfl]
  first
  | refine xkp (Za.refl _ _) ?_
  | skip
  refine xx ?_;have hset2:((s.members.set i m1).flatMap Yv).set (i*6+1) (.int .u64 (Wi s.par m.bal))=(s.members.set i { m with eff:=Wi s.par m.bal }).flatMap Yv:=Yon hi (by decide) (by rw[hm1];rfl);have hsum2:(((s.members.map fun a=>(Yv a).length)).set i (Yv m1).length).sum=s.members.length*6:=by
   have:((s.members.set i m1).map fun a=>(Yv a).length).sum=(s.members.set i m1).length*6:=by rw[← List.length_flatMap,Z0 Yg]
   rwa [List.map_set,List.length_set]at this
  rw[hset2];exact⟨by omega,ZO hk⟩
theorem Yja {s:Zd}{k:Nat}(hk:k<s.members.length)(c:Uu (gr ZQ s.members k)):Znn s (k+1)={ Znn s k with members:=(Znn s k).members.set k (WM s.par (gr ZQ (Znn s k).members k)) }:=by
 have hat:=Gj (Zex s.par) s.members hk;have u1:upN (Zex s.par) s.members (k+1)=(upN (Zex s.par) s.members k).set k (WM s.par (gr ZQ (upN (Zex s.par) s.members k) k)):=by
  rw[upN,hat,Zex,if_pos c]
 show ({ s with members:=upN (Zex s.par) s.members (k+1) }:Zd)={ s with members:=(upN (Zex s.par) s.members k).set k (WM s.par (gr ZQ (upN (Zex s.par) s.members k) k)) };rw[u1]
theorem Ytl {s:Zd}{k:Nat}(hk:k<s.members.length)(c:¬Uu (gr ZQ s.members k)):Znn s (k+1)=Znn s k:=by
 unfold Znn;rw[Zlk (Zex s.par) s.members hk (show Zex s.par (gr ZQ s.members k)=gr ZQ s.members k from if_neg c)]
theorem G4 {bb D:Nat}{om:Option (Nat×Nat)}{s:Zd}{v:SV}{r:Zi}{q:RV}{w:Int}(ti:Zp s D)(hk0:Ints h .u8 v.k s.marks)(hr0:∃ql,Zw h v.r ql∧xsL ql=s.ring)(hrl:s.ring.length≤1000)(hrb:∀b∈s.ring,b.length≤1000)(hml2:s.marks.length≤1000)(hm:v.m=ovs om s.members.length)(okm:okO om s.members.length)
  (hk:∀h' kv rv,PH.le h h'→Ints h' .u8 kv (List.replicate 16 0)→(∃ql,Zw h' rv ql∧xsL ql=Zxs s.ring s.marks)→K (.tuple #[]) (tB bb (seS s) { v with k:=kv,r:=rv } r q w::tMo om (seS s).members L) h') :
  Zc prog 91 [.pointer (some ⟨bb,0,none⟩)] (tB bb s v r q w::tMo om s.members L) h K:=by
 obtain⟨vp,vm,ve,vx,vo,vd,vt,vk,vr⟩:=v;simp only at hm hk0 hr0 hk ⊢;subst hm;have hml:=ti.ml;have hep:=ti.ep;obtain⟨n,hn⟩:∃n,n=s.members.length:=⟨_,rfl⟩
 rw[← hn]at hk ⊢;obtain⟨ql,q1,q2⟩:=hr0;have hql:ql.length=s.ring.length:=by rw[← q2,Vk]
 refine Z3 func91 rfl (rs:=[]) rfl rfl ZW (by kernel_rfl) rfl rfl fun ap nd=>?_;have hbb:h bb=noC:=ap.1;have hbm:apO om [] h:=YH ap.2;have nmb:apB om bb:=Yp nd.1;clear ap nd;refine xx ?_;refine Z2 fun bx n_bx h_bx=>?_;(try simp only[ZT]at n_bx);have nbx:=n_bx.1;have nmx:apB om bx:=Yp n_bx.2;refine xx ?_;refine Zc.fin (Zc.weaken (Za.perm h perm2m) ?_);refine Ve (cl:=225) (cap:=[.pointer (some ⟨bx,0,none⟩)]) (bb:=bb) (om:=om) (w:=w) (n:=n) (γ:=Nat) (fun j x=>x=j∧j≤n) (fun k=>Znn s k) (fun _=>⟨vp,ovs om n,ve,vx,vo,vd,vt,vk,vr⟩) (fun _=>r) (fun _=>q) (fun _=>tX bx bb::L) (fun _=>h) 0 (by omega) (by rw[hn];exact okm) ?_ nmb ?_ ?_ ?_ ?_
 ·rintro k x ⟨rfl,e2⟩;exact⟨rfl,by rw[hn];exact WJ _ _ _,hbb,hbm⟩
 ·rintro bm cm rfl k x d1 ⟨rfl,e2⟩ d2;have hat:=Gj (Zex s.par) s.members (k:=x) (by omega);have d3:Uu (gr ZQ s.members x):=by rw[← hat];exact d2
  have hl:(Znn s x).members.length=s.members.length:=WJ _ _ _;refine Zzm (s:=Znn s x) ti.ok.p ti.r (Zhs Zf (fun m hm=>Zkl ti.ok.p ti.r hm) ti.be.m x (by omega)) x (by omega) (by omega) ⟨x+1,⟨rfl,by omega⟩,?_⟩;rw[Yja (by omega) d3];exact Za.refl _ _
 ·rintro k x d1 ⟨rfl,e2⟩ d2;have hat:=Gj (Zex s.par) s.members (k:=x) (by omega);have d3:¬Uu (gr ZQ s.members x):=fun d=>d2 (by show Uu (gr ZQ (upN (Zex s.par) s.members x) x);rw[hat];exact d);refine⟨x+1,⟨rfl,by omega⟩,?_⟩;rw[Ytl (by omega) d3];exact Za.refl _ _
 ·exact⟨rfl,Nat.zero_le _⟩
 rintro k ⟨e1,e2⟩;subst e1;refine⟨_,_,Za.perm h perm2m.symm,?_⟩;have eS:seS s={ Znn s k with ring:=Zxs s.ring s.marks,marks:=List.replicate 16 0,ep:=s.ep+1 }:=by rw[hn];rfl
 rw[eS]at hk;obtain⟨S1,hS1⟩:∃S1,S1=(Znn s k).members:=⟨_,rfl⟩
 have eK:Znn s k={ s with members:=S1 }:=by rw[hS1];rfl
 rw[eK]at hk ⊢;simp only at hk ⊢;clear eS eK;refine xx ?_;refine Yn (.tkl 0 (.tkl 1 (.tk 2 (.tk 3 (.tk 4 (.tkl 5 (.tkl 6 (.tk 7 (.tk 8 (.tk 9 (.tkl 10 (.o1 11 (.tk 12 (.tk 13 (.tk 14 (.o2 15 (.fin) (.nil))))) (.nil))))))))))))) (by kernel_rfl) (by kernel_rfl) _ (Za.refl _ _) ?_;refine xx ?_;refine Zc.ap (Yaz (l:=ql) (marks:=s.marks) _ _ q1 hk0 (by omega) (by rw[q2];exact hrb) hml2 fun h1 rv q3 le1 i1 j1 ap=>?_);have hbx1:h1 bx=noC:=ap.1;have hbb1:h1 bb=noC:=ap.2.1;clear ap;have i10:=i1;obtain⟨ra,rc,rfl,_⟩:=i1.open
 first
 | refine xkp (Za.forget le1) ?_
 | skip
 refine xx ?_;refine Yn (.tkl 0 (.o1 1 (.tk 2 (.tk 3 (.tk 4 (.o2 5 (.fin) (.nil))))) (.nil))) (by kernel_rfl) (by kernel_rfl) _ (Za.refl _ _) ?_;refine xx ?_;refine Zc.ap (Zua fun h2 kv le2 i2 ap=>?_);have hbx2:h2 bx=noC:=ap.1;have hbb2:h2 bb=noC:=ap.2.1;clear ap;have i20:=i2;obtain⟨ka,kc,rfl,_⟩:=i2.open
 first
 | refine xkp (Za.forget le2) ?_
 | skip
 refine xx ?_;rw[q2]at j1;exact ZP (ZO (hk h2 _ _ (le1.trans le2) i20 ⟨q3,i10.up le2,j1⟩))
theorem Zmm {P:Program}{m:Sem Value}(hx:Zez P m L h (fun v L' h'=>fin K v L' h') ⟨⟩):Zez P m L h K ⟨⟩:=fun W hg=>by
 obtain⟨r,L',h',W',hr,⟨L2,h2,hd,hk⟩,st⟩:=hx W hg;obtain⟨g,f⟩:=hd W' st.1
 exact⟨r,L2,h2,W',hr,hk,g,st.2.1,fun e he=>by
  obtain⟨e',he',hb⟩:=List.mem_map.1 (f e he)
  rw[← hb];exact st.2.2 e' he'⟩
theorem two_perm6 {e sz e2 sz2:Nat}{o o2:Option (Nat×Nat)}{xs ys:List Value}{a b c d x y:Zm}{L:Own}:(a::b::c::d::x::y::oent e sz o xs (oent e2 sz2 o2 ys L)).Perm (oent e2 sz2 o2 ys (a::b::c::d::x::y::oent e sz o xs L)):=Zdi [a,b,c,d,x,y]
theorem two_perm7 {e sz e2 sz2:Nat}{o o2:Option (Nat×Nat)}{xs ys:List Value}{a b c d x y z:Zm}{L:Own}:(a::b::c::d::x::y::z::oent e sz o xs (oent e2 sz2 o2 ys L)).Perm (oent e2 sz2 o2 ys (a::b::c::d::x::y::z::oent e sz o xs L)):=Zdi [a,b,c,d,x,y,z]
abbrev whB (b5:Nat)(o:Option (Nat×Nat))(n:Nat):Zm:=⟨b5,27,[ovs o n],1⟩
abbrev Yct (b6:Nat)(o:Option (Nat×Nat))(n:Nat):Zm:=⟨b6,149,[ovs o n],1⟩
theorem Yls {a b c d e:Zm}{L:Own}{h:PH}:Za (a::b::c::d::e::L) h [a,b,c,d,e] h:=drop_left [a,b,c,d,e] L h
theorem Yeb {x a b c d e:Zm}{L:Own}{h:PH}:Za (x::a::b::c::d::e::L) h [a,b,c,d,e] h:=(Za.tail _ _ _).trans Yls
theorem Ylg {x y a b c d e:Zm}{L:Own}{h:PH}:Za (x::y::a::b::c::d::e::L) h [a,b,c,d,e] h:=(Za.tail _ _ _).trans Yeb
theorem Zud (m:Zb):∀u∈sdC m,u.oneCell'=true:=fun u hu=>by
 simp only[sdC,List.mem_cons,List.not_mem_nil,or_false]at hu;rcases hu with rfl|rfl|rfl|rfl<;>rfl
theorem Zzk {bb bm cm bx b5 b6:Nat}{ow ol:Option (Nat×Nat)}{s:Zd}{v:SV}{r:Zi}{q:RV}{w:Int}{N:Nat}{W Z:List Value}(hk0:Ints h .u8 v.k s.marks)(i:Nat)(hi:i<s.members.length)(hml:s.members.length≤900)
    (hN:N≤900) (okw:okO ow N) (hW:W.length=N) (okl:okO ol N) (hZ:Z.length=N*4)
    (hk:Vm s.marks i=true→∀ow' ol',okO ow' (N+1)→okO ol' (N+1)→K (.tuple #[]) (tB bb s v r q w::tM bm cm s.members::tX bx bb::whB b5 ow' (N+1)::Yct b6 ol' (N+1)::oent 3 1 ow' (W++[.int .i64 i]) (oent 72 4 ol' (Z++sdC (gr ZQ s.members i)) L)) h)
    (hno:Vm s.marks i=false→K (.tuple #[]) (tB bb s v r q w::tM bm cm s.members::tX bx bb::whB b5 ow N::Yct b6 ol N::oent 3 1 ow W (oent 72 4 ol Z L)) h) :
    Zc prog 208 [.int .i64 i,.pointer (some ⟨bm,i*6,none⟩),.pointer (some ⟨bx,0,none⟩),.pointer (some ⟨b5,0,none⟩),.pointer (some ⟨b6,0,none⟩)] (tB bb s v r q w::tM bm cm s.members::tX bx bb::whB b5 ow N::Yct b6 ol N::oent 3 1 ow W (oent 72 4 ol Z L)) h K:=by
  refine Z3 func208 rfl (rs:=[]) rfl rfl ZW (by kernel_rfl) rfl rfl fun ap nd=>?_;have hbb:h bb=noC:=ap.1;have hbm:h bm=noC:=ap.2.1;have hbx:h bx=noC:=ap.2.2.1;have hb5:h b5=noC:=ap.2.2.2.1;have hb6:h b6=noC:=ap.2.2.2.2.1;have ebm:NeB bb bm:=Ne.symm nd.1.1;have ebx:NeB bb bx:=Ne.symm nd.1.2.1;have eb5:NeB bb b5:=Ne.symm nd.1.2.2.1;have eb6:NeB bb b6:=Ne.symm nd.1.2.2.2.1;have emx:NeB bm bx:=Ne.symm nd.2.1.1;have em5:NeB bm b5:=Ne.symm nd.2.1.2.1;have em6:NeB bm b6:=Ne.symm nd.2.1.2.2.1;have ex5:NeB bx b5:=Ne.symm nd.2.2.1.1;have ex6:NeB bx b6:=Ne.symm nd.2.2.1.2.1;have e56:NeB b5 b6:=Ne.symm nd.2.2.2.1.1;clear ap nd;obtain⟨g0,g1,g2,g3,g4,g5⟩:=Zql hi;have hi6:=Y5 (w:=6) hi (show 3<6 by decide);have hsum:=Zwg (ms:=s.members) rfl;refine xx ?_;refine J8 hk0 i (by omega) ?_
  cases c:Vm s.marks i with
  | false =>
    have hno:=hno c;refine xx ?_;exact ZO hno
  | true =>
  have hk:=hk c;clear hno;refine xx ?_;obtain⟨m,hm⟩:∃m,m=gr ZQ s.members i:=⟨_,rfl⟩
  rw[← hm]at hk g0 g1 g2 g3;simp only[tB,tM]at hk ⊢;obtain⟨C,hC⟩:∃C,C=tC s v r q w:=⟨_,rfl⟩
  rw[← hC]at hk
  first
  | rw[← hC]
  | (simp only [tC] at hC
     rw[← hC])
  clear hC
  refine WH (.tk 1 (.tk 5 (.tk 6 (.tk 7 (.tkl 0 (.o1 2 (.o1 3 (.o1 4 (.o1 8 (.o1 9 (.o1 10 (.o2 11 (.o2 12 (.fin) (.nil)) (.nil)) (.nil)) (.nil)) (.nil)) (.o1 8 (.o1 4 (.o1 9 (.o1 10 (.o2 11 (.o2 12 (.fin) (.nil)) (.nil)) (.nil)) (.nil)) (.o1 9 (.o1 4 (.o1 10 (.o2 11 (.o2 12 (.fin) (.nil)) (.nil)) (.nil)) (.nil)) (.nil))) (.nil))) (.o1 4 (.o1 3 (.o1 8 (.o1 9 (.o1 10 (.o2 11 (.o2 12 (.fin) (.nil)) (.nil)) (.nil)) (.nil)) (.nil)) (.o1 8 (.o1 3 (.o1 9 (.o1 10 (.o2 11 (.o2 12 (.fin) (.nil)) (.nil)) (.nil)) (.nil)) (.o1 9 (.o1 3 (.o1 10 (.o2 11 (.o2 12 (.fin) (.nil)) (.nil)) (.nil)) (.nil)) (.nil))) (.nil))) (.o1 8 (.o1 3 (.o1 4 (.o1 9 (.o1 10 (.o2 11 (.o2 12 (.fin) (.nil)) (.nil)) (.nil)) (.nil)) (.o1 9 (.o1 4 (.o1 10 (.o2 11 (.o2 12 (.fin) (.nil)) (.nil)) (.nil)) (.nil)) (.nil))) (.o1 4 (.o1 3 (.o1 9 (.o1 10 (.o2 11 (.o2 12 (.fin) (.nil)) (.nil)) (.nil)) (.nil)) (.o1 9 (.o1 3 (.o1 10 (.o2 11 (.o2 12 (.fin) (.nil)) (.nil)) (.nil)) (.nil)) (.nil))) (.o1 9 (.o1 3 (.o1 4 (.o1 10 (.o2 11 (.o2 12 (.fin) (.nil)) (.nil)) (.nil)) (.nil)) (.o1 4 (.o1 3 (.o1 10 (.o2 11 (.o2 12 (.fin) (.nil)) (.nil)) (.nil)) (.nil)) (.nil))) (.nil)))) (.nil)))) (.o1 4 (.o1 2 (.o1 3 (.o1 8 (.o1 9 (.o1 10 (.o2 11 (.o2 12 (.fin) (.nil)) (.nil)) (.nil)) (.nil)) (.nil)) (.o1 8 (.o1 3 (.o1 9 (.o1 10 (.o2 11 (.o2 12 (.fin) (.nil)) (.nil)) (.nil)) (.nil)) (.o1 9 (.o1 3 (.o1 10 (.o2 11 (.o2 12 (.fin) (.nil)) (.nil)) (.nil)) (.nil)) (.nil))) (.nil))) (.o1 8 (.o1 2 (.o1 3 (.o1 9 (.o1 10 (.o2 11 (.o2 12 (.fin) (.nil)) (.nil)) (.nil)) (.nil)) (.o1 9 (.o1 3 (.o1 10 (.o2 11 (.o2 12 (.fin) (.nil)) (.nil)) (.nil)) (.nil)) (.nil))) (.o1 9 (.o1 2 (.o1 3 (.o1 10 (.o2 11 (.o2 12 (.fin) (.nil)) (.nil)) (.nil)) (.nil)) (.nil)) (.nil))) (.nil))) (.o1 8 (.o1 2 (.o1 3 (.o1 4 (.o1 9 (.o1 10 (.o2 11 (.o2 12 (.fin) (.nil)) (.nil)) (.nil)) (.nil)) (.o1 9 (.o1 4 (.o1 10 (.o2 11 (.o2 12 (.fin) (.nil)) (.nil)) (.nil)) (.nil)) (.nil))) (.o1 4 (.o1 3 (.o1 9 (.o1 10 (.o2 11 (.o2 12 (.fin) (.nil)) (.nil)) (.nil)) (.nil)) (.o1 9 (.o1 3 (.o1 10 (.o2 11 (.o2 12 (.fin) (.nil)) (.nil)) (.nil)) (.nil)) (.nil))) (.o1 9 (.o1 3 (.o1 4 (.o1 10 (.o2 11 (.o2 12 (.fin) (.nil)) (.nil)) (.nil)) (.nil)) (.o1 4 (.o1 3 (.o1 10 (.o2 11 (.o2 12 (.fin) (.nil)) (.nil)) (.nil)) (.nil)) (.nil))) (.nil)))) (.o1 4 (.o1 2 (.o1 3 (.o1 9 (.o1 10 (.o2 11 (.o2 12 (.fin) (.nil)) (.nil)) (.nil)) (.nil)) (.o1 9 (.o1 3 (.o1 10 (.o2 11 (.o2 12 (.fin) (.nil)) (.nil)) (.nil)) (.nil)) (.nil))) (.o1 9 (.o1 2 (.o1 3 (.o1 10 (.o2 11 (.o2 12 (.fin) (.nil)) (.nil)) (.nil)) (.nil)) (.nil)) (.nil))) (.o1 9 (.o1 2 (.o1 3 (.o1 4 (.o1 10 (.o2 11 (.o2 12 (.fin) (.nil)) (.nil)) (.nil)) (.nil)) (.o1 4 (.o1 3 (.o1 10 (.o2 11 (.o2 12 (.fin) (.nil)) (.nil)) (.nil)) (.nil)) (.nil))) (.o1 4 (.o1 2 (.o1 3 (.o1 10 (.o2 11 (.o2 12 (.fin) (.nil)) (.nil)) (.nil)) (.nil)) (.nil)) (.nil))) (.nil)))) (.nil))))))))) (by kernel_rfl) (by kernel_rfl) [(0,.int .i64 i),(1,.pointer (some ⟨bm,i*6,none⟩)),(2,.pointer (some ⟨bx,0,none⟩)),(3,.pointer (some ⟨b5,0,none⟩)),(4,.pointer (some ⟨b6,0,none⟩))] [⟨bb,154,C,56⟩,⟨bm,74,s.members.flatMap Yv,cm*6⟩,tX bx bb,whB b5 ow N,Yct b6 ol N] (γ:=Option (Nat×Nat)×Option (Nat×Nat)) (fun x=>okO x.1 (N+1)∧okO x.2 (N+1)) (fun _=>[])
    (fun x=>⟨bb,154,C,56⟩::⟨bm,74,s.members.flatMap Yv,cm*6⟩::tX bx bb::whB b5 x.1 (N+1)::Yct b6 x.2 (N+1)::oent 3 1 x.1 (W++[.int .i64 i]) (oent 72 4 x.2 (Z++sdC m) L)) (fun _=>h) (by simp [Ent,List.lookup,Wo]) (drop_left [_,_,_,_,_] _ _) ?_ ?_
  · repeat' first
      | with_reducible refine Y4 ?_ ?_
      | simp -dsimp -implicitDefEqProofs (disch:=first|with_reducible assumption|omega) [go_sem,g0,g1,g2,g3]
      | (with_reducible show Zsc _ _ 3 _ _ _
         refine Z2 fun b12 nb12 zb12=>?_;simp only[ZT]at nb12
         first
         | (have e12m : NeB b12 bm := Ne.symm nb12.2.1
            have e125:NeB b12 b5:=Ne.symm nb12.2.2.2.1
            have e126:NeB b12 b6:=Ne.symm nb12.2.2.2.2.1)
         | (have e12m : NeB b12 bm := Ne.symm nb12.2.2.1
            have e125:NeB b12 b5:=Ne.symm nb12.2.2.2.2.1
            have e126:NeB b12 b6:=Ne.symm nb12.2.2.2.2.2.1)
         clear nb12)
      | (with_reducible show Zsc _ _ 72 _ _ _
         refine Z2 fun b19 nb19 zb19=>?_;simp only[ZT]at nb19
         first
         | (have e19m : NeB b19 bm := Ne.symm nb19.2.1
            have e195:NeB b19 b5:=Ne.symm nb19.2.2.2.1
            have e196:NeB b19 b6:=Ne.symm nb19.2.2.2.2.1)
         | (have e19m : NeB b19 bm := Ne.symm nb19.2.2.1
            have e195:NeB b19 b5:=Ne.symm nb19.2.2.2.2.1
            have e196:NeB b19 b6:=Ne.symm nb19.2.2.2.2.2.1)
         clear nb19)
      | (with_reducible show Ub _ _ #[27,_] _ _ _ _ _
         first
         | refine Z4 (t:=27) (e:=3) (sz:=1) (bytes:=8) (z:=[.int .i64 0]) (by kernel_rfl) Zds rfl rfl rfl rfl (by decide) [_,_,_,_,_,_] _ ow N W okw (by omega) (Src.own (b:=b12) (t:=3) (cap:=1) (by first|exact List.mem_cons_self|exact List.mem_cons_of_mem _ List.mem_cons_self)) (m:=1) (news:=[.int .i64 i]) rfl (fun u hu=>by simp at hu;subst hu;rfl) (by simp [maxLen];omega) (by omega) fun ow1 jw1 jw2 jw3=>?_
         | refine Z4 (t:=27) (e:=3) (sz:=1) (bytes:=8) (z:=[.int .i64 0]) (by kernel_rfl) Zds rfl rfl rfl rfl (by decide) [_,_,_,_,_,_,_] _ ow N W okw (by omega) (Src.own (b:=b12) (t:=3) (cap:=1) (by first|exact List.mem_cons_self|exact List.mem_cons_of_mem _ List.mem_cons_self)) (m:=1) (news:=[.int .i64 i]) rfl (fun u hu=>by simp at hu;subst hu;rfl) (by simp [maxLen];omega) (by omega) fun ow1 jw1 jw2 jw3=>?_
         simp only[List.cons_append,List.nil_append])
      | (with_reducible show Ub _ _ #[149,_] _ _ _ _ _
         first
         | refine Zmm (Jk (Za.perm _ two_perm7) (Z4 (t:=149) (e:=72) (sz:=4) (bytes:=32) (by kernel_rfl) Zvq rfl rfl rfl rfl (by decide) [] _ ol N Z okl hZ (Src.own (b:=b19) (t:=72) (cap:=4) (Vz (by first|exact List.mem_cons_self|exact List.mem_cons_of_mem _ List.mem_cons_self))) (m:=1) (news:=sdC m) rfl (Zud m) (by simp [maxLen];omega) (by omega) fun ol1 jl1 jl2 jl3=>⟨_,_,Za.perm _ two_perm7.symm,?_⟩))
         | refine Zmm (Jk (Za.perm _ two_perm6) (Z4 (t:=149) (e:=72) (sz:=4) (bytes:=32) (by kernel_rfl) Zvq rfl rfl rfl rfl (by decide) [] _ ol N Z okl hZ (Src.own (b:=b19) (t:=72) (cap:=4) (Vz (by first|exact List.mem_cons_self|exact List.mem_cons_of_mem _ List.mem_cons_self))) (m:=1) (news:=sdC m) rfl (Zud m) (by simp [maxLen];omega) (by omega) fun ol1 jl1 jl2 jl3=>⟨_,_,Za.perm _ two_perm6.symm,?_⟩)))
      | with_reducible refine xkp Yls ?_
      | with_reducible refine xkp Yeb ?_
      | with_reducible refine xkp Ylg ?_
      | fail
    all_goals exact⟨ow1,ol1,⟨jw1,jl1⟩,by simp [Ent],(Za.tail _ _ _).trans (Za.tail _ _ _)⟩
  rintro⟨ow1,ol1⟩ ⟨jw1,jl1⟩;simp only at jw1 jl1 ⊢;refine xx ?_;exact ZO (hk ow1 ol1 jw1 jl1)
theorem dropG {e0 s0 e sz e2 sz2:Nat}{o0 o o2:Option (Nat×Nat)}{X0 xs ys:List Value}{a c d x y:Zm}{L:Own}{h:PH}(h1:e≠4294967295)(h2:e2≠4294967295) :
  Za (a::oent e0 s0 o0 X0 (c::d::x::oent e sz o xs (oent e2 sz2 o2 ys (y::L)))) h (a::c::d::x::oent e0 s0 o0 X0 L) (Gn (Gn h o xs) o2 ys):=by
 have q1:∀ {e sz:Nat} {o:Option (Nat×Nat)} {xs:List Value} {R:Own},(a::oent e0 s0 o0 X0 (c::d::x::oent e sz o xs R)).Perm (oent e sz o xs (a::oent e0 s0 o0 X0 (c::d::x::R))):=fun {e sz o xs R} =>
  (List.Perm.cons _ ((Z5 o0 X0 (Yj [c,d,x])).trans (Yt o0 o X0 xs _))).trans oent_perm
 have q2:(a::oent e0 s0 o0 X0 (c::d::x::y::L)).Perm (y::a::c::d::x::oent e0 s0 o0 X0 L):=by
  have r1:(oent e0 s0 o0 X0 (c::d::x::y::L)).Perm (c::d::x::y::oent e0 s0 o0 X0 L):=(Yj [c,d,x,y]).symm;refine(List.Perm.cons _ r1).trans ?_;exact List.perm_middle (l₁:=[a,c,d,x])
 exact(Za.perm h q1).trans ((Wk o xs _ h h1).trans ((Za.perm _ q1).trans ((Wk o2 ys _ _ h2).trans ((Za.perm _ q2).trans (Za.tail _ _ _)))))
theorem ap_G {e0 s0 e sz e2 sz2:Nat}{o0 o o2:Option (Nat×Nat)}{X0 xs ys:List Value}{a c d x y:Zm}{L:Own}{h:PH}(ap:Ap (a::oent e0 s0 o0 X0 (c::d::x::oent e sz o xs (oent e2 sz2 o2 ys (y::L)))) h)(nd:Nd (a::oent e0 s0 o0 X0 (c::d::x::oent e sz o xs (oent e2 sz2 o2 ys (y::L))))):apO o [] h∧apO o2 [] (Gn h o xs):=by
 have a1:Ap (oent e sz o xs (oent e2 sz2 o2 ys (y::L))) h:=(Ap.oent ap.2).2.2.2;have n1:Nd (oent e sz o xs (oent e2 sz2 o2 ys (y::L))):=by
  have n0:Nd (c::d::x::oent e sz o xs (oent e2 sz2 o2 ys (y::L))):=by
   have:=nd.2
   cases o0 with
   | none=>exact this
   | some p=>exact this.2
  exact n0.2.2.2
 have h2:apO o2 [] h:=YH (Ap.oent a1);refine⟨YH a1,?_⟩
 cases o2 with
 | none=>trivial
 | some p2 =>
  refine⟨trivial,?_⟩
  cases o with
  | none=>exact h2.2
  | some p=>exact GC (o:=some p) (Ne.symm n1.1.1) h2.2
theorem Zdx {s:Zd}{k:Nat}:mtL s (k+1)=if VH (gr ZQ s.members k)&&Vm s.marks k then mtL s k++[gr ZQ s.members k] else mtL s k:=by
 unfold mtL;rw[V4];split
 ·rw[List.map_append];rfl
 ·rfl
def Zbc (s:Zd)(k:Nat):List Int:=(thI s.members s.marks k).map fun i:Nat=>(i:Int)
theorem Zay {s:Zd}{k:Nat}:Zbc s (k+1)=if VH (gr ZQ s.members k)&&Vm s.marks k then Zbc s k++[(k:Int)] else Zbc s k:=by
 unfold Zbc;rw[V4];split
 ·rw[List.map_append];rfl
 ·rfl
theorem GD (s:Zd)(k:Nat):(Zbc s k).length=(mtL s k).length∧(mtL s k).length≤k∧(mtL s k).length=(thI s.members s.marks k).length:=by
 have:=J5 s.members s.marks k;unfold Zbc mtL;rw[List.length_map,List.length_map];exact⟨rfl,this,rfl⟩
theorem Zjf {bb bx b5 b6 D:Nat}{om:Option (Nat×Nat)}{y:Zm}{s:Zd}{v:SV}{r:Zi}{q:RV}{w:Int}(ti:Zp s D)(hk0:Ints h .u8 v.k s.marks)(hm:v.m=ovs om s.members.length)(okm:okO om s.members.length)(hbb:h bb=noC)(hbm:apO om [] h)(nmb:apB om bb)
  (hk:∀ow ol,okO ow (mtW s).length→okO ol (mtW s).length→K (.tuple #[]) (tB bb s v r q w::tMo om s.members (tX bx bb::whB b5 ow (mtW s).length::Yct b6 ol (mtW s).length::oent 3 1 ow ((Zbc s s.members.length).map (.int .i64)) (oent 72 4 ol ((mtL s s.members.length).flatMap sdC) (y::L)))) h) :
  Zc prog 204 [.pointer (some ⟨bb,0,none⟩),.func (.func 208) #[] #[.pointer (some ⟨bx,0,none⟩),.pointer (some ⟨b5,0,none⟩),.pointer (some ⟨b6,0,none⟩)]]
   (tB bb s v r q w::tMo om s.members (tX bx bb::whB b5 none 0::Yct b6 none 0::y::L)) h K:=by
 have hml:=ti.ml;obtain⟨n,hn⟩:∃n,n=s.members.length:=⟨_,rfl⟩
 have eW:(mtW s).length=(mtL s n).length:=by rw[(GD s n).2.2,hn];rfl
 rw[← hn,eW]at hk;refine Ve (cl:=208) (cap:=[.pointer (some ⟨bx,0,none⟩),.pointer (some ⟨b5,0,none⟩),.pointer (some ⟨b6,0,none⟩)]) (bb:=bb) (om:=om) (w:=w) (n:=n) (γ:=Nat×Option (Nat×Nat)×Option (Nat×Nat)) (fun j x=>x.1=j∧j≤n∧okO x.2.1 (mtL s x.1).length∧okO x.2.2 (mtL s x.1).length) (fun _=>s) (fun _=>v) (fun _=>r) (fun _=>q)
  (fun x=>tX bx bb::whB b5 x.2.1 (mtL s x.1).length::Yct b6 x.2.2 (mtL s x.1).length::oent 3 1 x.2.1 ((Zbc s x.1).map (.int .i64)) (oent 72 4 x.2.2 ((mtL s x.1).flatMap sdC) (y::L))) (fun _=>h) (0,none,none) (by omega) (by rw[hn];exact okm) ?_ nmb ?_ ?_ ?_ ?_
 ·rintro k x ⟨e1,e2,e3,e4⟩;exact⟨by rw[hn];exact hm,hn.symm,hbb,hbm⟩
 ·rintro bm cm rfl k ⟨x,ow,ol⟩ d1 ⟨rfl,e2,e3,e4⟩ d2;simp only at d1 e2 e3 e4 d2 ⊢;obtain⟨l1,l2,l3⟩:=GD s x;have hc:VH (gr ZQ s.members x)=true:=by simpa [VH] using d2
  refine Zzk (W:=(Zbc s x).map (.int .i64)) (Z:=(mtL s x).flatMap sdC) hk0 x (by omega) (by omega) (by omega) e3 (by rw[List.length_map,l1]) e4 (Z0 YQ _) (fun g ow1 ol1 j1 j2=>?_) (fun g=>?_)
  ·have s1:=Zdx (s:=s) (k:=x);have s2:=Zay (s:=s) (k:=x);rw[hc,g,if_pos (by decide)]at s1 s2;have s3:(mtL s (x+1)).length=(mtL s x).length+1:=by rw[s1,List.length_append];rfl
   refine⟨(x+1,ow1,ol1),⟨rfl,by omega,by rw[s3];exact j1,by rw[s3];exact j2⟩,?_⟩;simp only;rw[s3,s1,s2,List.map_append,List.flatMap_append];simp only[List.map_cons,List.map_nil,List.flatMap_cons,List.flatMap_nil,List.append_nil];exact Za.refl _ _
  ·have s1:=Zdx (s:=s) (k:=x);have s2:=Zay (s:=s) (k:=x);rw[hc,g,if_neg (by decide)]at s1 s2;refine⟨(x+1,ow,ol),⟨rfl,by omega,by rw[s1];exact e3,by rw[s1];exact e4⟩,?_⟩;simp only;rw[s1,s2];exact Za.refl _ _
 ·rintro k ⟨x,ow,ol⟩ d1 ⟨rfl,e2,e3,e4⟩ d2;simp only at d1 e2 e3 e4 d2 ⊢;have hc:VH (gr ZQ s.members x)=false:=by simpa [VH] using d2
  have s1:=Zdx (s:=s) (k:=x);have s2:=Zay (s:=s) (k:=x);rw[hc,Bool.false_and,if_neg (by decide)]at s1 s2;refine⟨(x+1,ow,ol),⟨rfl,by omega,by rw[s1];exact e3,by rw[s1];exact e4⟩,?_⟩;simp only;rw[s1,s2];exact Za.refl _ _
 ·exact⟨rfl,Nat.zero_le _,rfl,rfl⟩
 ·rintro⟨x,ow,ol⟩ ⟨e1,e2,e3,e4⟩;simp only at e1 e2 e3 e4 ⊢;subst e1;exact hk ow ol e3 e4
theorem Znf (s:Zd)(r:Zi)(k:Nat):mtX s r (k+1)=UF s.par ((mtW s).getD k 0) (at0 (mtP s r) k) (mtX s r k):=rfl
theorem Yix {s:Zd}{k:Nat}(hk:k<(mtW s).length):at0 (Zbc s s.members.length) k=((mtW s).getD k 0:Nat):=by
 have h1:(Zbc s s.members.length).length=(mtW s).length:=by unfold Zbc mtW;rw[List.length_map]
 rw[← Yf (by omega)];simp only[Zbc,List.getElem_map];rw[List.getD_eq_getElem?_getD,List.getElem?_eq_getElem hk]
 rfl
theorem Ygd {s:Zd}{r:Zi}{D:Nat}(ti:Zp s D)(ha:0≤r.act∧r.act≤18446744073709551615){k:Nat}(hk:k<(mtW s).length){i:Nat}(hi:i=(mtW s).getD k 0){m:Zb}(hm:m=gr ZQ (mtX s r k).1 i){a:Int}(haa:a=at0 (mtP s r) k) :
  i<s.members.length∧i<(mtX s r k).1.length∧Zf m∧(0≤m.owner∧m.owner<s.purses.length)∧(mtX s r k).2.length=s.purses.length∧(0≤a∧a≤4611686018427387904)∧at0 (mtX s r k).2 m.owner.toNat+(VK s.par m a).2≤4611686018427387904∧0≤(VK s.par m a).2∧(0≤s.treas+mtN s r-Yy (mtP s r) k-a∧s.treas+mtN s r-Yy (mtP s r) k≤4611686018427387904)∧(0≤Yy (mtP s r) k∧Yy (mtP s r) k+a≤4611686018427387904) ∧
  (mtX s r (k+1)).1=(mtX s r k).1.set i (VK s.par m a).1∧(mtX s r (k+1)).2=(mtX s r k).2.set m.owner.toNat (at0 (mtX s r k).2 m.owner.toNat+(VK s.par m a).2)∧Yy (mtP s r) (k+1)=Yy (mtP s r) k+a∧(VK s.par m a).1.owner=m.owner:=by
 have h0:=Ykw ti ha (k:=k) (by omega);have h1:=Zku ti ha (k:=k) (by omega);have h2:=Zku ti ha (k:=k+1) (by omega);have hw:i<s.members.length:=by
  rw[hi,List.getD_eq_getElem?_getD,List.getElem?_eq_getElem hk,Option.getD_some];exact Ydm _ (List.getElem_mem hk)
 have hi2:i<(mtX s r k).1.length:=by rw[h0.l1];exact hw
 obtain⟨mo,o1,o2⟩:=h0.b.at hi2;rw[← hm]at mo o1 o2;have hn:=Yla ti ha;obtain⟨p1,p2,p3⟩:=Ygn ti ha;have pa:=p1 k;rw[← haa]at pa;have ht:=ti.top;have hgm:0≤s.gen+s.mint:=by
  have u1:=ti.ok.u s.gen (by simp);have u2:=ti.ok.u s.mint (by simp);omega
 have hl2:(mtX s r k).2.length=s.purses.length:=h0.l2;rw[hl2]at o2;obtain⟨g1,g2,g3,g4,g5,g6⟩:=Zvf ti.ok.p mo pa.1;have e1:(mtX s r (k+1)).1=(mtX s r k).1.set i (VK s.par m a).1:=by rw[Znf,← hi,← haa,hm];rfl
 have e2:(mtX s r (k+1)).2=(mtX s r k).2.set m.owner.toNat (at0 (mtX s r k).2 m.owner.toNat+(VK s.par m a).2):=by rw[Znf,← hi,← haa,hm];rfl
 have e3:Yy (mtP s r) (k+1)=Yy (mtP s r) k+a:=by rw[Yy,← haa]
 have q1:=h1.parts;have q2:=h2.parts;have s1:=h1.sum;have s2:=h2.sum;have t1:(Zew s r k).treas=s.treas+mtN s r-Yy (mtP s r) k:=rfl;have t2:(Zew s r (k+1)).treas=s.treas+mtN s r-Yy (mtP s r) (k+1):=rfl;have b1:=(h2.be.le m.owner.toNat).2;have b2:(Zew s r (k+1)).purses=(mtX s r (k+1)).2:=rfl;rw[b2,e2,VG _ _ _ _ (by omega),if_pos rfl]at b1;have b3:tot (Zew s r (k+1)).purses=tot ((mtX s r k).2.set m.owner.toNat (at0 (mtX s r k).2 m.owner.toNat+(VK s.par m a).2)):=by rw[b2,e2]
 have sk:=p3 k (by omega);have sk1:=p3 (k+1) (by omega);rw[e3]at t2 sk1;exact⟨hw,hi2,mo,⟨o1,o2⟩,hl2,⟨pa.1,by omega⟩,by omega,g4,⟨by omega,by omega⟩,⟨sk.1,by omega⟩,e1,e2,e3,g2⟩
end Go.X

/- Lemmas and contracts. Conditions: as each says. -/
import Derived.Test.YtmmfajokfdaokaaGreatQ35
set_option linter.unusedVariables false
set_option linter.unusedSimpArgs false
set_option maxHeartbeats 12800000
set_option maxRecDepth 20000
namespace Go.X
open Go.RowKit Go.Proofs Go.Bl Go.Proofs.Tryz
variable {L:Own} {h:PH} {K:PK}
structure RV where
 o:Value
 l:Value
 s:Value
 d:Value
abbrev rpV (r:Zk)(q:RV):Value := .agg #[.int .i64 r.ep,.int .i64 r.mode,.bool r.quo,.int .u64 r.pres,.int .u64 r.act,.int .u64 r.mint,.int .u64 r.paid,.int .u64 r.kept,.int .u64 r.burned,.int .u64 r.fees,q.o,q.l,q.s,q.d]
abbrev tC (s:Zf)(v:SV)(r:Zk)(q:RV)(w:Int):List Value:=[.int .u64 s.par.inc,.int .u64 s.par.maxEff,.int .u64 s.par.floor,.int .u64 s.par.cap,.int .u64 s.par.up,.int .u64 s.par.down,.int .u64 s.par.bias,.int .u64 s.par.quot,.int .u64 s.par.biasEm,.int .u64 s.par.quotEm,.int .u64 s.par.recover,.int .u64 s.par.scoreCap,.int .u64 s.par.rate,.int .u64 s.par.bond,.int .i64 s.par.delay,.int .i64 s.par.streak,.int .i64 s.par.boost,.int .i64 s.par.absent,.int .i64 s.par.burn,.int .i64 s.par.churn,.int .i64 s.par.wait,.int .i64 s.par.poll,.int .i64 s.par.enact,.int .i64 s.par.quorum,.int .u64 s.most,.int .u64 s.gen,.int .u64 s.mint,.int .u64 s.burn,.int .u64 s.treas,.int .i64 s.ep,.int .i64 s.calm,.bool s.emer,v.p,v.m,v.e,v.x,v.o,v.d,v.t,v.k,v.r,.int .i64 r.ep,.int .i64 r.mode,.bool r.quo,.int .u64 r.pres,.int .u64 r.act,.int .u64 r.mint,.int .u64 r.paid,.int .u64 r.kept,.int .u64 r.burned,.int .u64 r.fees,q.o,q.l,q.s,q.d,.int .i64 w]
abbrev tB (bb:Nat)(s:Zf)(v:SV)(r:Zk)(q:RV)(w:Int):Zo:=⟨bb,148,tC s v r q w,56⟩
abbrev tM (bm cm:Nat)(ms:List Zc):Zo:=⟨bm,73,ms.flatMap YK,cm*6⟩
abbrev tX (bx bb:Nat):Zo:=⟨bx,146,[.pointer (some ⟨bb,0,none⟩)],1⟩
theorem Zb.imp {P:Program}{f:FuncId}{args:List Value}{K K':PK}(hs:Zb P f args L h K)(hk:∀v L' h',K v L' h'→K' v L' h'):Zb P f args L h K' :=
 ⟨hs.1,fun W hg=>(hs.2 W hg).mono fun _ _ ⟨r,L',h',e,k,st⟩=>⟨r,L',h',e,hk _ _ _ k,st⟩⟩
theorem Zuh {ms:List Zc}{j:Nat}(hj:j<ms.length):(∀(K:Value→Prop) (t:Zq K),VP (ms.flatMap YK) (j*6) K t=K (.int .u64 (gr ZS ms j).bal))∧(∀(K:Value→Prop) (t:Zq K),VP (ms.flatMap YK) (j*6+1) K t=K (.int .u64 (gr ZS ms j).eff)) ∧
  (∀(K:Value→Prop) (t:Zq K),VP (ms.flatMap YK) (j*6+2) K t=K (.int .u64 (gr ZS ms j).score))∧(∀(K:Value→Prop) (t:Zq K),VP (ms.flatMap YK) (j*6+3) K t=K (.int .i64 (gr ZS ms j).streak)) ∧
  (∀(K:Value→Prop) (t:Zq K),VP (ms.flatMap YK) (j*6+4) K t=K (.int .i64 (gr ZS ms j).owner))∧(∀(K:Value→Prop) (t:Zq K),VP (ms.flatMap YK) (j*6+5) K t=K (.int .i64 (gr ZS ms j).status)) :=
 ⟨fun K t=>Yq Yb ZS ms hj (m:=0) (by decide) rfl K t,fun K t=>Yq Yb ZS ms hj (by decide) rfl K t,fun K t=>Yq Yb ZS ms hj (by decide) rfl K t,fun K t=>Yq Yb ZS ms hj (by decide) rfl K t,fun K t=>Yq Yb ZS ms hj (by decide) rfl K t,fun K t=>Yq Yb ZS ms hj (by decide) rfl K t⟩
theorem Yea {ms:List Zc}{n:Nat}(hn:ms.length=n):(ms.map fun a=>(YK a).length).sum=n*6:=by
 rw[← List.length_flatMap,Z3 Yb,hn]
structure Td (h:PH)(v:SV)(s:Zf):Prop where
 p:Ints h .u64 v.p s.purses
 o:Zh UY 4 h v.o s.pool
 d:Zh YT 3 h v.d s.dues
 t:∃q:List QM,Zh Y2 33 h v.t q∧q.map (fun x=>x.2.2)=s.motions∧Y7 h q
 k:Ints h .u8 v.k s.marks
 r:∃q,Zz h v.r q∧xsL q=s.ring
theorem Td.up {h h':PH}(le:PH.le h h'){v:SV}{s:Zf}(hs:Td h v s):Td h' v s:=by
 obtain⟨q,t1,t2,t3⟩:=hs.t;obtain⟨r,r1,r2⟩:=hs.r;exact⟨hs.p.up le,hs.o.up le,hs.d.up le,⟨q,t1.up le,t2,fun x hx=>(t3 x hx).up le⟩,hs.k.up le,⟨r,r1.up le,r2⟩⟩
theorem Zah {bb:Nat}{s:Zf}{v:SV}{r:Zk}{q:RV}{w:Int}(hk0:Ints h .u8 v.k s.marks)(i:Nat)(hi:i≤1000)(hk:K (.bool (Vs s.marks i)) (tB bb s v r q w::L) h) :
  Zb prog 142 [.pointer (some ⟨bb,0,none⟩),.int .i64 i] (tB bb s v r q w::L) h K:=by
 refine Z4 func142 rfl (rs:=[_]) rfl rfl ZY (by kernel_rfl) rfl rfl fun ap nd=>?_;have hbb:h bb=noC:=ap.1;clear ap nd;refine xx ?_;refine Zan _ i hk0 (by omega) ?_;refine xx ?_;exact ZO hk
theorem U4 {bb:Nat}{s:Zf}{v:SV}{r:Zk}{q:RV}{w:Int}(hp:Ints h .u64 v.p s.purses)(hl:s.purses.length≤1000)(i:Int)(hi:0≤i∧i<s.purses.length)(a:Int)(ha:0≤a)(hr:at0 s.purses i.toNat+a≤4611686018427387904)
  (hk:∀h' r',PH.le h h'→Ints h' .u64 r' (s.purses.set i.toNat (at0 s.purses i.toNat+a))→K (.tuple #[]) (tB bb { s with purses:=s.purses.set i.toNat (at0 s.purses i.toNat+a) } { v with p:=r' } r q w::L) h') :
  Zb prog 148 [.pointer (some ⟨bb,0,none⟩),.int .i64 i,.int .u64 a] (tB bb s v r q w::L) h K:=by
 obtain⟨j,rfl⟩:=Int.eq_ofNat_of_zero_le hi.1;rw[Int.toNat_natCast]at hr hk;refine Z4 func148 rfl (rs:=[]) rfl rfl ZY (by kernel_rfl) rfl rfl fun ap nd=>?_;have hbb:h bb=noC:=ap.1;clear ap nd;refine xx ?_;refine Zb.ap (Yre _ hp hl j (by omega) a ha hr fun h1 r1 le1 i1 ap=>?_);have hbb1:h1 bb=noC:=ap.1;clear ap;obtain⟨pa,pc,rfl,_⟩:=i1.open;refine xx ?_;rw[List.length_set]at i1;exact ZO (hk h1 _ le1 i1)
theorem Yjn {bb:Nat}{s:Zf}{v:SV}{r:Zk}{q:RV}{w:Int}(hd:Zh YT 3 h v.d s.dues)(hdo:∀x∈s.dues,Zv x)(hl:s.dues.length≤32000)(acct:Int)(hac:0≤acct∧acct≤63)(a:Int)(ha:0≤a)(hw:0≤w∧w≤1000)(hep:0≤s.ep∧s.ep≤1073741824)(hs:WP s.dues+a≤4611686018427387904)
  (hk:∀h' r',PH.le h h'→Zh YT 3 h' r' (GH s.dues ⟨acct,min (s.ep+w) 2147483647,a⟩)→K (.tuple #[]) (tB bb { s with dues:=GH s.dues ⟨acct,min (s.ep+w) 2147483647,a⟩ } { v with d:=r' } r q w::L) h') :
  Zb prog 267 [.pointer (some ⟨bb,0,none⟩),.int .i64 acct,.int .u64 a] (tB bb s v r q w::L) h K:=by
 refine Z4 func267 rfl (rs:=[]) rfl rfl ZY (by kernel_rfl) rfl rfl fun ap nd=>?_;have hbb:h bb=noC:=ap.1;clear ap nd;refine xx ?_;refine Yr (.tk 0 (.tk 1 (.tk 2 (.tk 3 (.tk 5 (.tk 6 (.tk 7 (.tk 8 (.tk 9 (.tk 11 (.tk 12 (.tk 13 (.tk 17 (.tkl 4 (.tkl 10 (.tkl 14 (.tk 15 (.o1 16 (.tk 18 (.o1 19 (.tk 20 (.tk 21 (.tk 22 (.tk 23 (.tk 24 (.fin)))))) (.nil))) (.nil))))))))))))))))))) (by kernel_rfl) (by kernel_rfl) _ (Za.refl _ _) ?_;refine xx ?_;refine Zb.ap (Yqg (d:=⟨acct,min (s.ep+w) 2147483647,a⟩) _ hd hdo hl hac ⟨by show 0≤min (s.ep+w) 2147483647;omega,by show min (s.ep+w) 2147483647≤_;omega⟩ ha hs fun h1 r1 le1 i1 ap=>?_);have hbb1:h1 bb=noC:=ap.1;clear ap;obtain⟨ra,rc,rfl,_⟩:=i1.open
 first
 | refine xkp (Za.forget le1) ?_
 | skip
 refine xx ?_;exact ZO (hk h1 _ le1 i1)
theorem Zre {bb bm cm:Nat}{s:Zf}{v:SV}{r:Zk}{q:RV}{w:Int}(hm:v.m = .slice (some ⟨bm,0,none⟩) s.members.length cm)(hml:s.members.length≤1000)(mo:∀x∈s.members,Zg x)(hd:Zh YT 3 h v.d s.dues)(hdo:∀x∈s.dues,Zv x)(hl:s.dues.length≤32000)(i:Nat)(hi:i<s.members.length)(how:0≤(gr ZS s.members i).owner∧(gr ZS s.members i).owner≤63)(st:Int)(hw:0≤w∧w≤1000)(hep:0≤s.ep∧s.ep≤1073741824)(hs:WP s.dues+(gr ZS s.members i).bal≤4611686018427387904)
  (hk:∀h' r',PH.le h h'→Zh YT 3 h' r' (GH s.dues (Gc (min (s.ep+w) 2147483647) (gr ZS s.members i)))→K (.tuple #[]) (tB bb { s with members:=s.members.set i (Zaf (gr ZS s.members i) st),dues:=GH s.dues (Gc (min (s.ep+w) 2147483647) (gr ZS s.members i)) } { v with d:=r' } r q w::tM bm cm (s.members.set i (Zaf (gr ZS s.members i) st))::L) h') :
  Zb prog 155 [.pointer (some ⟨bb,0,none⟩),.int .i64 i,.int .i64 st] (tB bb s v r q w::tM bm cm s.members::L) h K:=by
 have ub:=(mo _ (YM (z:=ZS) hi)).u (gr ZS s.members i).bal (by simp);refine Z4 func155 rfl (rs:=[]) rfl rfl ZY (by kernel_rfl) rfl rfl fun ap nd=>?_;have hbb:h bb=noC:=ap.1;have hbm:h bm=noC:=ap.2.1;have nmb:bm≠bb:=nd.1.1;clear ap nd;obtain⟨g0,g1,g2,g3,g4,g5⟩:=Zuh hi;have hi6:=Wv (w:=6) hi (show 5<6 by decide);have hsum:=Yea (ms:=s.members) rfl;simp -dsimp -implicitDefEqProofs (disch:=first|with_reducible assumption|omega) [go_sem,hm,g0,g1,g2,g3,g4,g5];refine Yao (gr ZS s.members i) st ?_;refine xx ?_;refine Z6 fun b6 nb6 zb6=>?_;(try simp only[ZU]at nb6);have n6b:=nb6.1;have n6m:=nb6.2.1;clear nb6;refine xx ?_;refine Yr (.tk 0 (.tk 1 (.tk 2 (.tk 3 (.tk 5 (.tkl 4 (.tkl 6 (.tk 7 (.o2 8 (.fin) (.nil)))))))))) (by kernel_rfl) (by kernel_rfl) _ (Za.refl _ _) ?_;simp -dsimp -implicitDefEqProofs (disch:=first|with_reducible assumption|omega) [go_sem,hm];refine⟨by omega,?_⟩;have hset:((((((s.members.flatMap YK).set (i*6) (Value.int .u64 (Zaf (gr ZS s.members i) st).bal)).set (i*6+1) (.int .u64 (Zaf (gr ZS s.members i) st).eff)).set (i*6+1+1) (.int .u64 (Zaf (gr ZS s.members i) st).score)).set (i*6+1+1+1) (.int .i64 (Zaf (gr ZS s.members i) st).streak)).set (i*6+1+1+1+1) (.int .i64 (Zaf (gr ZS s.members i) st).owner)).set (i*6+1+1+1+1+1) (.int .i64 (Zaf (gr ZS s.members i) st).status)=(s.members.set i (Zaf (gr ZS s.members i) st)).flatMap YK:=Zcm Yb s.members hi (Zaf (gr ZS s.members i) st);rw[hset]
 try simp -dsimp -implicitDefEqProofs (disch:=first|with_reducible assumption|omega) [go_sem]
 refine YV (Yjn (s:={ s with members:=s.members.set i (Zaf (gr ZS s.members i) st) }) hd hdo hl _ how _ ub.1 hw hep hs fun h1 r1 le1 i1=>?_);refine xx ?_;exact⟨_,_,(Za.perm _ (List.Perm.swap _ _ _)).trans (Za.tail _ _ _),hk h1 r1 le1 i1⟩
abbrev tMo (om:Option (Nat×Nat))(ms:List Zc)(L:Own):Own:=oent 73 6 om (ms.flatMap YK) L
theorem VO {γ:Type}{cl:Nat}{cap:List Value}{bb n:Nat}{om:Option (Nat×Nat)}{w:Int}(inv:Nat→γ→Prop)(S:γ→Zf)(V:γ→SV)(R:γ→Zk)(Q:γ→RV)(T:γ→Own)(H:γ→PH)(x0:γ)(hn:n≤1000)(okm:okO om n)
  (hi:∀k x,inv k x→(V x).m=ovs om n∧(S x).members.length=n∧H x bb=noC∧apO om [] (H x)) (hne:apB om bb)
  (hrd:∀bm cm,om=some (bm,cm)→∀k x,k<n→inv k x→Zbv (gr ZS (S x).members k)→Zb prog cl (.int .i64 k :: .pointer (some ⟨bm,k*6,none⟩)::cap) (tB bb (S x) (V x) (R x) (Q x) w::tM bm cm (S x).members::T x) (H x) fun _ L' h'=>∃x',inv (k+1) x'∧Za L' h' (tB bb (S x') (V x') (R x') (Q x') w::tM bm cm (S x').members::T x') (H x'))
  (hsk:∀k x,k<n→inv k x→¬Zbv (gr ZS (S x).members k)→∃x',inv (k+1) x'∧Za (tB bb (S x) (V x) (R x) (Q x) w::tMo om (S x).members (T x)) (H x) (tB bb (S x') (V x') (R x') (Q x') w::tMo om (S x').members (T x')) (H x')) (h0:inv 0 x0)
  (hk:∀x,inv n x→K (.tuple #[]) (tB bb (S x) (V x) (R x) (Q x) w::tMo om (S x).members (T x)) (H x)) :
  Zb prog 139 [.pointer (some ⟨bb,0,none⟩),.func (.func cl) #[] cap.toArray] (tB bb (S x0) (V x0) (R x0) (Q x0) w::tMo om (S x0).members (T x0)) (H x0) K:=by
 obtain⟨m0,_,hb0,hm0⟩:=hi 0 x0 h0;obtain⟨ea,ec,em,_⟩:=Yh okm;refine ZR func139 rfl (rs:=[]) rfl rfl ZY (by kernel_rfl) rfl rfl ?_;simp -dsimp -implicitDefEqProofs (disch:=first|with_reducible assumption|omega) [go_sem,m0,em];refine YZ (γ:=Nat×γ) (0,x0) (fun y=>y.1≤n∧inv y.1 y.2) (fun y=>[(11,.int .i64 y.1),(10,.int .i64 n),(0,.pointer (some ⟨bb,0,none⟩)),(1,.func (.func cl) #[] cap.toArray)])
  (fun y=>tB bb (S y.2) (V y.2) (R y.2) (Q y.2) w::tMo om (S y.2).members (T y.2)) (fun y=>H y.2) (fun y=>n-y.1) ?_ ?_ ?_ ?_
 ·exact⟨Nat.zero_le _,h0⟩
 ·simp [Ent,List.lookup,WM]
 ·exact Za.refl _ _
 rintro⟨k,x⟩ ⟨k1,k2⟩;simp only at k1 k2 ⊢;obtain⟨m1,l1,hb1,hm1⟩:=hi k x k2;by_cases c1:k<n
 ·have hkl:k<(S x).members.length:=by omega
  obtain⟨g0,g1,g2,g3,g4,g5⟩:=Zuh hkl;clear em;obtain⟨bm,cm,rfl⟩:∃bm cm,om=some (bm,cm):=by
   cases om with
   | none=>have:n=0:=okm;omega
   | some p=>exact⟨_,_,rfl⟩
  have hbm1:H x bm=noC:=hm1.2;have hne':bm≠bb:=hne;have m1':(V x).m = .slice (some ⟨bm,0,none⟩) n cm:=m1;simp only[tMo,Yg];simp -dsimp -implicitDefEqProofs (disch:=first|with_reducible assumption|omega) [go_sem,m1',g0,g1,g2,g3,g4,g5];refine UL (gr ZS (S x).members k) ?_;by_cases c2:Zbv (gr ZS (S x).members k)
  ·rw[decide_eq_true c2];simp -dsimp -implicitDefEqProofs (disch:=first|with_reducible assumption|omega) [go_sem,m1'];refine Zb.imp (hrd bm cm rfl k x c1 k2 c2) fun v' L' h' ⟨x',i',d'⟩=>?_;refine xx ?_;exact⟨k+1,x',⟨by omega,i'⟩,by omega,by simp [Ent,List.lookup],d'⟩
  ·rw[decide_eq_false c2];obtain⟨x',i',d'⟩:=hsk k x c1 k2 c2;refine xx ?_;exact⟨k+1,x',⟨by omega,i'⟩,by omega,by simp [Ent,List.lookup],d'⟩
 ·obtain rfl:n=k:=by omega
  refine xx ?_;exact ZO (hk x k2)
theorem Zqq (x k:Int)(b:Nat)(hb:(⟨b,3,[.int .i64 k],1⟩:Zo)∈L)(hk:K (.bool (decide (x=k))) L h):Zb prog 262 [.int .i64 x,.pointer (some ⟨b,0,none⟩)] L h K:=by
 refine Zb.frame1 hb ?_ hk;refine Zb.entr fun ap _=>?_;have hn:h b=noC:=ap.1;refine ZR func262 rfl (rs:=[_]) rfl rfl ZY (by kernel_rfl) rfl rfl ?_;refine xx ?_;exact ZO ⟨rfl,rfl,rfl⟩
theorem Yco {xs:List Int}(o:Option (Nat×Nat))(ho:okO o xs.length)(hl:xs.length≤1000)(k:Int)(b:Nat)(hb:(⟨b,3,[.int .i64 k],1⟩:Zo)∈L)
  (hyes:∀i:Nat,i<xs.length→at0 xs i=k→(∀j,j<i→at0 xs j≠k)→K (.int .i64 i) (oent 3 1 o (xs.map (.int .i64)) L) h)
  (hno:(∀j,j<xs.length→at0 xs j≠k)→K (.int .i64 (-1)) (oent 3 1 o (xs.map (.int .i64)) L) h) :
  Zb prog 331 [ovs o xs.length,.func (.func 262) #[] #[.pointer (some ⟨b,0,none⟩)]] (oent 3 1 o (xs.map (.int .i64)) L) h K:=by
 refine Zb.entr fun ap _=>?_;have ax:=Y1 ap;have hb2:=V4 (e:=3) (sz:=1) (o:=o) (cs:=xs.map (.int .i64)) hb;obtain⟨a,c,ea,_⟩:=Yh ho;refine ZR func331 rfl (rs:=[_]) rfl rfl ZY (by kernel_rfl) rfl rfl ?_;refine xx ?_;rw[ea];refine xx ?_;rw[← ea];refine YZ (γ:=Nat) 0 (fun j=>j≤xs.length∧∀i,i<j→at0 xs i≠k) (fun j=>[(8,.int .i64 j),(7,.int .i64 xs.length),(0,ovs o xs.length),(1,.func (.func 262) #[] #[.pointer (some ⟨b,0,none⟩)])]) (fun _=>oent 3 1 o (xs.map (.int .i64)) L) (fun _=>h) (fun j=>xs.length-j) ?_ ?_ ?_ ?_
 ·exact⟨Nat.zero_le _,fun i hi=>by omega⟩
 ·simp [Ent,List.lookup,WM]
 ·exact Za.refl _ _
 rintro j ⟨j1,j2⟩;by_cases c1:j<xs.length
 ·obtain⟨bx,cap,rfl⟩:∃bx cap,o=some (bx,cap):=by
   cases o with
   | none=>have:xs.length=0:=ho;omega
   | some p=>exact⟨_,_,rfl⟩
  have hbx:h bx=noC:=ax.2;simp only[YX,Yg,Nat.mul_one]at hb2 hyes ⊢;simp -dsimp -implicitDefEqProofs (disch:=first|with_reducible assumption|omega) [go_sem,WQ];refine Zqq (at0 xs j) k b hb2 ?_;by_cases c2:at0 xs j=k
  ·rw[decide_eq_true c2];refine xx ?_;exact ZO (hyes j c1 c2 j2)
  ·rw[decide_eq_false c2];refine xx ?_;refine⟨j+1,⟨by omega,fun i hi=>?_⟩,by omega,by simp [Ent,List.lookup],Za.refl _ _⟩;by_cases e:i=j
   ·subst e;exact c2
   ·exact j2 i (by omega)
 ·refine xx ?_;exact ZO (hno fun i hi=>j2 i (by omega))
theorem Zzc {xs:List Int}(o:Option (Nat×Nat))(ho:okO o xs.length)(hl:xs.length≤1000)(k:Int)(b:Nat)(hb:(⟨b,3,[.int .i64 k],1⟩:Zo)∈L)
  (hk:K (ovs o (flt xs k).length) (oent 3 1 o ((flt xs k).map (.int .i64)) L) h) :
  Zb prog 261 [ovs o xs.length,.func (.func 262) #[] #[.pointer (some ⟨b,0,none⟩)]] (oent 3 1 o (xs.map (.int .i64)) L) h K:=by
 refine Zb.entr fun ap _=>?_;have ax:=Y1 ap;refine ZR func261 rfl (rs:=[_]) rfl rfl ZY (by kernel_rfl) rfl rfl ?_;refine xx ?_;refine Yco o ho hl k b hb (fun i0 i1 i2 i3=>?_) (fun hn=>?_)
 ·obtain⟨bx,cap,rfl⟩:∃bx cap,o=some (bx,cap):=by
   cases o with
   | none=>have:xs.length=0:=ho;omega
   | some p=>exact⟨_,_,rfl⟩
  have hbx:h bx=noC:=ax.2;have hcap:xs.length≤cap:=ho.1;simp only[YX,Yg,Nat.mul_one]at hk ⊢;refine xx ?_;refine YZ (γ:=Nat×Nat×List Int) (i0+1,i0,xs) (fun q=>q.2.1<q.1∧q.1≤xs.length∧q.2.2.length=xs.length∧q.2.2.take q.2.1=flt (xs.take q.1) k∧(flt (xs.take q.1) k).length=q.2.1∧∀m,q.1≤m→at0 q.2.2 m=at0 xs m)
   (fun q=>[(6,.int .i64 q.1),(5,.int .i64 q.2.1),(0,.slice (some ⟨bx,0,none⟩) xs.length cap),(1,.func (.func 262) #[] #[.pointer (some ⟨b,0,none⟩)])])
   (fun q=>⟨bx,3,q.2.2.map (.int .i64),cap⟩::L) (fun _=>h) (fun q=>xs.length-q.1) ?_ ?_ ?_ ?_
  ·have e1:=Zra (k:=k) i1;rw[if_neg (by simpa using i2),List.append_nil,Yak (by omega) i3]at e1;exact⟨Nat.lt_succ_self i0,i1,rfl,e1.symm,by show (flt (xs.take (i0+1)) k).length=i0;rw[e1,List.length_take];omega,fun _ _=>rfl⟩
  ·simp [Ent,List.lookup,WM]
  ·exact Za.refl _ _
  rintro⟨j,i,cs⟩ ⟨j1,j2,j3,j4,j5,j6⟩;simp only at j1 j2 j3 j4 j5 j6 ⊢;by_cases c1:j<xs.length
  ·have hat:=j6 j (Nat.le_refl _);have hs:=Zra (k:=k) c1;simp -dsimp -implicitDefEqProofs (disch:=first|with_reducible assumption|omega) [go_sem,WQ];rw[hat];refine Zqq (at0 xs j) k b (List.mem_cons_of_mem _ hb) ?_;by_cases c2:at0 xs j=k
   ·rw[decide_eq_true c2];rw[if_neg (by simpa using c2),List.append_nil]at hs;refine xx ?_;exact⟨j+1,i,cs,⟨by omega,by omega,j3,by rw[hs];exact j4,by rw[hs];exact j5,fun m hm=>j6 m (by omega)⟩,by omega,by simp [Ent,List.lookup],Za.refl _ _⟩
   ·rw[decide_eq_false c2];rw[if_pos c2]at hs;refine xx ?_;refine⟨by omega,?_⟩;refine⟨j+1,i+1,cs.set i (at0 xs j),⟨by omega,by omega,by rw[List.length_set];exact j3,by rw[Zim (by omega),j4,hs],by rw[hs,List.length_append,j5];rfl,fun m hm=>?_⟩,by omega,by simp [Ent,List.lookup],by rw[List.map_set];exact Za.refl _ _⟩;rw[Zxx _ _ (by omega)];exact j6 m (by omega)
  ·have hj:j=xs.length:=by omega
   subst hj;rw[List.take_length]at j4 j5;have hcut:Gr (some ⟨bx,0,none⟩) cap i 1=some ⟨bx,i,none⟩:=by
    unfold Gr;rw[if_neg (by omega)];simp [Addr.add]
    try (intro e;exact e.symm)
   simp -dsimp -implicitDefEqProofs (disch:=first|with_reducible assumption|omega) [go_sem,Jj int27,hcut];refine Ymb (by kernel_rfl) Zem rfl (by omega) ?_;refine xx ?_;refine⟨by omega,?_⟩;have e2:(wr (cs.map (Value.int .i64)) i (List.replicate (xs.length-i) (Value.int .i64 0))).take i=(flt xs k).map (.int .i64):=by
    rw[J9 _ _ _ (by simp;omega),List.append_assoc,List.take_append_of_le_length (by simp;omega),List.take_take,Nat.min_self,← List.map_take,j4]
   have e3:=Zee bx 3 cap i (wr (cs.map (Value.int .i64)) i (List.replicate (xs.length-i) (Value.int .i64 0))) L h;rw[e2]at e3;rw[j5]at hk;exact⟨_,_,e3,hk⟩
 ·obtain⟨a,c,ea,_⟩:=Yh ho;rw[Zpw hn]at hk;rw[ea];refine xx ?_;rw[← ea];exact ZO hk
theorem Zik {e sz e2 sz2:Nat}{o o2:Option (Nat×Nat)}{xs ys:List Value}(A:Own){L:Own}:(A++oent e sz o xs (oent e2 sz2 o2 ys L)).Perm (oent e2 sz2 o2 ys (A++oent e sz o xs L)) :=
 (List.Perm.append_left A (YL o o2 xs ys L)).trans (Yv A)
theorem two_perm3 {e sz e2 sz2:Nat}{o o2:Option (Nat×Nat)}{xs ys:List Value}{a b c:Zo}{L:Own}:(a::b::c::oent e sz o xs (oent e2 sz2 o2 ys L)).Perm (oent e2 sz2 o2 ys (a::b::c::oent e sz o xs L)):=Zik [a,b,c]
theorem perm3 {a b c:Zo}{L:Own}:(c::a::b::L).Perm (a::b::c::L):=(List.perm_middle (l₁:=[a,b])).symm
theorem Yhe {x y z:Zo}{e1 s1 e2 s2:Nat}{o1 o2:Option (Nat×Nat)}{X1 X2:List Value}(ap:Ap (x::y::oent e1 s1 o1 X1 (oent e2 s2 o2 X2 (z::L))) h)(nd:Nd (x::y::oent e1 s1 o1 X1 (oent e2 s2 o2 X2 (z::L)))) :
  h x.b=noC∧h y.b=noC∧h z.b=noC∧y.b≠x.b∧x.b≠z.b∧y.b≠z.b∧apB o1 z.b∧apB o2 z.b:=by
 have hz:z∈oent e1 s1 o1 X1 (oent e2 s2 o2 X2 (z::L)):=V4 (V4 List.mem_cons_self);refine⟨ap.1,ap.2.1,Ap.mem ap z (List.mem_cons_of_mem _ (List.mem_cons_of_mem _ hz)),nd.1.1,Ne.symm (Ww nd.1.2 z hz),Ne.symm (Ww nd.2.1 z hz),?_,?_⟩
 ·have n:=nd.2.2
  cases o1 with
  | none=>trivial
  | some p=>exact Ne.symm (Ww n.1 z (V4 List.mem_cons_self))
 ·have n:=nd.2.2
  cases o2 with
  | none=>trivial
  | some p2 =>
   cases o1 with
   | none=>exact Ne.symm n.1.1
   | some p=>exact Ne.symm n.2.1.1
abbrev Ykf (s:Zf)(w:Int)(i:Nat):Zf:={ s with exit:=flt s.exit i,members:=s.members.set i (Zaf (gr ZS s.members i) 4),dues:=GH s.dues (Gc (min (s.ep+w) 2147483647) (gr ZS s.members i)) }
theorem Zrl {bb bm cm:Nat}{oo ox:Option (Nat×Nat)}{s:Zf}{v:SV}{r:Zk}{q:RV}{w:Int}(hm:v.m = .slice (some ⟨bm,0,none⟩) s.members.length cm)(hml:s.members.length≤900)(mo:∀x∈s.members,Zg x)(hd:Zh YT 3 h v.d s.dues)(hdo:∀x∈s.dues,Zv x)(hl:s.dues.length≤32000)(i:Nat)(hi:i<s.members.length)(how:0≤(gr ZS s.members i).owner∧(gr ZS s.members i).owner≤63)(hw:0≤w∧w≤1000)(hep:0≤s.ep∧s.ep≤1073741824)(hs:WP s.dues+(gr ZS s.members i).bal≤4611686018427387904)
  (hx:v.x=ovs ox s.exit.length) (okx:okO ox s.exit.length) (hxl:s.exit.length≤900) (ho:q.o=ovs oo r.out.length) (oko:okO oo r.out.length) (hol:r.out.length≤900)
  (hk:∀h' r' oo',PH.le h h'→Zh YT 3 h' r' (Ykf s w i).dues→okO oo' (r.out.length+1)→K (.tuple #[]) (tB bb (Ykf s w i) { v with d:=r',x:=ovs ox (flt s.exit i).length } { r with out:=r.out++[(i:Int)] } { q with o:=ovs oo' (r.out.length+1) } w::tM bm cm (Ykf s w i).members::oent 3 1 oo' ((r.out++[(i:Int)]).map (.int .i64)) (oent 3 1 ox ((flt s.exit i).map (.int .i64)) L)) h') :
  Zb prog 153 [.pointer (some ⟨bb,0,none⟩),.int .i64 i] (tB bb s v r q w::tM bm cm s.members::oent 3 1 oo (r.out.map (.int .i64)) (oent 3 1 ox (s.exit.map (.int .i64)) L)) h K:=by
 have hfk:=Yau s.exit i;refine Z4 func153 rfl (rs:=[]) rfl rfl ZY (by kernel_rfl) rfl rfl fun ap nd=>?_;have hbb:h bb=noC:=ap.1;have hbm:h bm=noC:=ap.2.1;have nmb:bm≠bb:=nd.1.1;clear ap nd;refine xx ?_;refine Z6 fun b3 nb3 zb3=>?_;(try simp only[ZU]at nb3);have n3b:=nb3.1;have n3m:=nb3.2.1;clear nb3;simp -dsimp -implicitDefEqProofs (disch:=first|with_reducible assumption|omega) [go_sem,hx];refine Zb.fin (Zb.weaken (Za.perm h two_perm3) (Zzc ox okx (by omega) i b3 List.mem_cons_self ⟨_,_,Za.perm h two_perm3.symm,?_⟩));obtain⟨ys,hys⟩:∃ys,ys=flt s.exit i:=⟨_,rfl⟩
 simp only[Ykf,← hys]at hk hfk ⊢
 try simp only[List.cons_append,List.nil_append]
 refine xx ?_;refine Zb.fin (Zb.weaken (Za.perm h perm3) (Zb.ap (Zre (s:={ s with exit:=ys }) (v:={ v with x:=ovs ox ys.length }) hm (by show s.members.length≤_;omega) mo hd hdo hl i hi how 4 hw hep hs fun h1 r1 le1 i1 ap=>⟨_,_,Za.perm _ perm3.symm,?_⟩)));have hbb1:h1 bb=noC:=ap.1;have hbm1:h1 bm=noC:=ap.2.1;have hb31:h1 b3=noC:=ap.2.2.1;clear ap
 try simp only[List.cons_append,List.nil_append]
 refine xx ?_;refine Yr (.tk 0 (.tk 1 (.tk 2 (.tk 3 (.tk 4 (.tkl 5 (.tkl 6 (.o1 7 (.o1 8 (.tk 9 (.tk 10 (.tk 11 (.o2 12 (.fin) (.nil))))) (.nil)) (.nil))))))))) (by kernel_rfl) (by kernel_rfl) [_,_,_] (drop_left [_,_,_] _ _) ?_;simp -dsimp -implicitDefEqProofs (disch:=first|with_reducible assumption|omega) [go_sem,ho];refine Z6 fun b7 nb7 zb7=>?_;(try simp only[ZU]at nb7);have n7b:=nb7.2.1;have n73:=nb7.1;clear nb7
 first
 | refine xkp ((Za.tail _ _ _).trans (drop_left [_,_,_] _ _)) ?_
 | skip
 simp -dsimp -implicitDefEqProofs (disch:=first|with_reducible assumption|omega) [go_sem,ho];refine Z8 (t:=32) (e:=3) (sz:=1) (bytes:=8) (z:=[.int .i64 0]) (by kernel_rfl) Zem rfl rfl rfl rfl (by decide) [_,_,_,_] _ oo r.out.length (r.out.map (.int .i64)) oko (by simp) (Src.own (b:=b7) (t:=3) (cap:=1) List.mem_cons_self) (m:=1) (news:=[.int .i64 i]) rfl (fun u hu=>by simp at hu;subst hu;rfl) (by simp [maxLen];omega) (by omega) ?_;intro o' j1 j2 j3
 try simp only[List.cons_append,List.nil_append]
 first
 | refine xkp ((Za.tail _ _ _).trans (drop_left [_,_,_] _ _)) ?_
 | skip
 refine xx ?_;have:=hk h1 r1 o' le1 i1 j1;simp only[List.map_append,List.map_cons,List.map_nil]at this;exact ZP (ZP (ZO this))
theorem Yfg {bb bm cm bx:Nat}{oo ox:Option (Nat×Nat)}{s:Zf}{v:SV}{r:Zk}{q:RV}{w:Int}(hm:v.m = .slice (some ⟨bm,0,none⟩) s.members.length cm)(hml:s.members.length≤900)(mo:∀x∈s.members,Zg x)(hd:Zh YT 3 h v.d s.dues)(hdo:∀x∈s.dues,Zv x)(hl:s.dues.length≤32000)(i:Nat)(hi:i<s.members.length)(how:0≤(gr ZS s.members i).owner∧(gr ZS s.members i).owner≤63)(hw:0≤w∧w≤1000)(hep:0≤s.ep∧s.ep≤1073741824)(hs:WP s.dues+(gr ZS s.members i).bal≤4611686018427387904)
  (hx:v.x=ovs ox s.exit.length) (okx:okO ox s.exit.length) (hxl:s.exit.length≤900) (ho:q.o=ovs oo r.out.length) (oko:okO oo r.out.length) (hol:r.out.length≤900)
  (hk:(gr ZS s.members i).bal≤s.par.floor→∀h' r' oo',PH.le h h'→Zh YT 3 h' r' (Ykf s w i).dues→okO oo' (r.out.length+1)→K (.tuple #[]) (tB bb (Ykf s w i) { v with d:=r',x:=ovs ox (flt s.exit i).length } { r with out:=r.out++[(i:Int)] } { q with o:=ovs oo' (r.out.length+1) } w::tM bm cm (Ykf s w i).members::oent 3 1 oo' ((r.out++[(i:Int)]).map (.int .i64)) (oent 3 1 ox ((flt s.exit i).map (.int .i64)) (tX bx bb::L))) h')
  (hno:¬(gr ZS s.members i).bal≤s.par.floor→K (.tuple #[]) (tB bb s v r q w::tM bm cm s.members::oent 3 1 oo (r.out.map (.int .i64)) (oent 3 1 ox (s.exit.map (.int .i64)) (tX bx bb::L))) h) :
  Zb prog 152 [.int .i64 i,.pointer (some ⟨bm,i*6,none⟩),.pointer (some ⟨bx,0,none⟩)] (tB bb s v r q w::tM bm cm s.members::oent 3 1 oo (r.out.map (.int .i64)) (oent 3 1 ox (s.exit.map (.int .i64)) (tX bx bb::L))) h K:=by
 refine Z4 func152 rfl (rs:=[]) rfl rfl ZY (by kernel_rfl) rfl rfl fun ap nd=>?_;obtain⟨hbb,hbm,hbx,nmb,nbx,nmx,pox,pxx⟩:=Yhe ap nd;simp only at hbb hbm hbx nmb nbx nmx pox pxx;clear ap nd;obtain⟨g0,g1,g2,g3,g4,g5⟩:=Zuh hi;refine xx ?_;refine Wx (by kernel_rfl) rfl ?_;simp -dsimp -implicitDefEqProofs (disch:=first|with_reducible assumption|omega) [go_sem,g0,ZQ pox,ZQ pxx];by_cases c:(gr ZS s.members i).bal≤s.par.floor
 ·have hk:=hk c;simp -dsimp -implicitDefEqProofs (disch:=first|with_reducible assumption|omega) [go_sem,ZQ pox,ZQ pxx];refine Zrl hm hml mo hd hdo hl i hi how hw hep hs hx okx hxl ho oko hol fun h' r' oo' le' i' ok'=>?_;have hk:=hk h' r' oo' le' i' ok';simp only[List.map_append,List.map_cons,List.map_nil]at hk;refine xx ?_;exact ZO hk
 ·have hno:=hno c;refine xx ?_;exact ZO hno
structure EjG where
 k:Nat
 h:PH
 d:Value
 o:Option (Nat×Nat)
theorem Zzj {q:Ze}{cs:List Zc}{xs:List Int}{k:Nat}:exN q cs xs (k+1)=if ejP q (gr ZS cs k) then flt (exN q cs xs k) k else exN q cs xs k:=rfl
theorem Yme {s:Zf}{t:Int}{k:Nat}(hk:k<s.members.length)(c4:¬ejP s.par (gr ZS s.members k)):ejS s t (k+1)=ejS s t k:=by
 have u1:upN (ejF s.par) s.members (k+1)=upN (ejF s.par) s.members k:=Zrr _ _ (by omega) (if_neg c4);have u2:duN s.par s.members t s.dues (k+1)=duN s.par s.members t s.dues k:=by rw[duN,if_neg c4]
 have u3:exN s.par s.members s.exit (k+1)=exN s.par s.members s.exit k:=by rw[Zzj,if_neg c4]
 simp only[ejS,u1,u2,u3]
theorem Ykt {s:Zf}{r:Zk}{k:Nat}(c4:¬ejP s.par (gr ZS s.members k)):ejR s r (k+1)=ejR s r k:=by
 unfold ejR;rw[ouN,if_neg c4]
theorem J0 {e sz:Nat}{o:Option (Nat×Nat)}(xs:List Value){X Y:Own}(hp:X.Sublist Y):(oent e sz o xs X).Sublist (oent e sz o xs Y):=by
 cases o with
 | none=>exact hp
 | some p=>exact hp.cons_cons _
theorem Zgv {bb D:Nat}{om oo ox:Option (Nat×Nat)}{s:Zf}{v:SV}{r:Zk}{q:RV}{w:Int}(ti:Zt s D)(hD:D≤30000)(hd:Zh YT 3 h v.d s.dues)(hm:v.m=ovs om s.members.length)(okm:okO om s.members.length)(hw:0≤w∧w≤1000)
  (hx:v.x=ovs ox s.exit.length) (okx:okO ox s.exit.length) (ho:q.o=ovs oo r.out.length) (oko:okO oo r.out.length) (hol:r.out.length≤700)
  (hk:∀h' d' oo',PH.le h h'→Zh YT 3 h' d' (ejS s (min (s.ep+w) 2147483647) s.members.length).dues→okO oo' (ejR s r s.members.length).out.length→K (.tuple #[]) (tB bb (ejS s (min (s.ep+w) 2147483647) s.members.length) { v with d:=d',x:=ovs ox (ejS s (min (s.ep+w) 2147483647) s.members.length).exit.length } (ejR s r s.members.length) { q with o:=ovs oo' (ejR s r s.members.length).out.length } w::tMo om (ejS s (min (s.ep+w) 2147483647) s.members.length).members (oent 3 1 oo' ((ejR s r s.members.length).out.map (.int .i64)) (oent 3 1 ox ((ejS s (min (s.ep+w) 2147483647) s.members.length).exit.map (.int .i64)) L))) h') :
  Zb prog 74 [.pointer (some ⟨bb,0,none⟩)] (tB bb s v r q w::tMo om s.members (oent 3 1 oo (r.out.map (.int .i64)) (oent 3 1 ox (s.exit.map (.int .i64)) L))) h K:=by
 have hep:=ti.ep;have ht:0≤min (s.ep+w) 2147483647∧min (s.ep+w) 2147483647≤2147483647:=by omega
 have hml:=ti.ml;have hxl:=V8 ti.ex;have hdn:=ti.dn;obtain⟨b1,b2,b3,b4,b5,b6⟩:=ti.parts;have hsum:=ti.sum;obtain⟨t,hte⟩:∃t,t=min (s.ep+w) 2147483647:=⟨_,rfl⟩
 rw[← hte]at hk ht;obtain⟨n,hn⟩:∃n,n=s.members.length:=⟨_,rfl⟩
 rw[← hn]at hk;have hej:=fun k (hk:k≤s.members.length)=>Yof (q:=s.par) (t:=t) ti.be ti.ex ti.dd ht (by omega) k hk;have hll:=fun k=>Vd (ejF s.par) s.members k;refine Z4 func74 rfl (rs:=[]) rfl rfl ZY (by kernel_rfl) rfl rfl fun ap nd=>?_;have hbb:h bb=noC:=ap.1;have hbm:apO om [] h:=Y1 ap.2;have nmb:apB om bb:=YH nd.1;clear ap nd;refine xx ?_;refine Z6 fun bx n_bx h_bx=>?_;(try simp only[ZU]at n_bx);have nxb:=n_bx.1;refine xx ?_;have eR:ejR s r 0=r:=by simp [ejR,ouN]
 have eV:({ v with d:=v.d,x:=ovs ox (ejS s t 0).exit.length }:SV)=v:=by rw[show (ejS s t 0).exit=s.exit from rfl,← hx]
 have eQ:({ q with o:=ovs oo (ejR s r 0).out.length }:RV)=q:=by rw[eR,← ho]
 refine Zb.weaken (L':=tB bb (ejS s t 0) { v with d:=v.d,x:=ovs ox (ejS s t 0).exit.length } (ejR s r 0) { q with o:=ovs oo (ejR s r 0).out.length } w::tMo om (ejS s t 0).members (oent 3 1 oo ((ejR s r 0).out.map (.int .i64)) (oent 3 1 ox ((ejS s t 0).exit.map (.int .i64)) (tX bx bb::L)))) (Za.perm h ?_) ?_
 ·rw[eV,eQ,eR];exact(List.Perm.swap _ _ _).trans (List.Perm.cons _ (oent_perm.trans (Yf om _ (oent_perm.trans (Yf oo _ oent_perm)))))
 refine VO (cl:=152) (cap:=[.pointer (some ⟨bx,0,none⟩)]) (n:=n) (γ:=EjG)
  (fun j x=>x.k=j∧j≤n∧PH.le h x.h∧Zh YT 3 x.h x.d (ejS s t x.k).dues∧okO x.o (ejR s r x.k).out.length∧x.h bb=noC∧apO om [] x.h)
  (fun x=>ejS s t x.k) (fun x=>{ v with d:=x.d,x:=ovs ox (ejS s t x.k).exit.length }) (fun x=>ejR s r x.k) (fun x=>{ q with o:=ovs x.o (ejR s r x.k).out.length })
  (fun x=>oent 3 1 x.o ((ejR s r x.k).out.map (.int .i64)) (oent 3 1 ox ((ejS s t x.k).exit.map (.int .i64)) (tX bx bb::L))) (fun x=>x.h) ⟨0,h,v.d,oo⟩ (by omega) (by rw[hn];exact okm) ?_ nmb ?_ ?_ ?_ ?_
 ·rintro k x ⟨rfl,e2,e3,e4,e5,e6,e7⟩;exact⟨by rw[hn];exact hm,by rw[hn];exact hll _,e6,e7⟩
 ·rintro bm cm rfl k ⟨k,h1,d1,o1⟩ c1 ⟨rfl,e2,e3,e4,e5,e6,e7⟩ c2;simp only at c1 e2 e3 e4 e5 e6 e7 c2 ⊢;have eo:=hej k (by omega);have hlk:=hll k;have hat:=Zbg (ejF s.par) s.members (k:=k) (by omega);have hbe:ZC (upN (ejF s.par) s.members k) s.purses:=ti.be.upN (fun m hm=>⟨Yas hm,Yny _ m⟩) (by omega);have hbl:=hbe.bl (i:=k) (by omega);have how:=(hbe.at (i:=k) (by omega)).2;have hpl:=ti.pl;have how2:0≤(gr ZS (upN (ejF s.par) s.members k) k).owner∧(gr ZS (upN (ejF s.par) s.members k) k).owner≤63:=by omega
  have hep2:0≤s.ep∧s.ep≤1073741824:=by omega
  have eot:=eo.t;have eon:=eo.n;have hexl:=Ziq s.par s.members s.exit k;have houl:=Zhs s.par s.members k;have hrl:(ejR s r k).out.length=r.out.length+(ouN s.par s.members k).length:=List.length_append;have c2':Zbv (gr ZS s.members k):=by rw[← hat];exact c2
  refine Zb.apn (Yfg (s:=ejS s t k) (v:={ v with d:=d1,x:=ovs ox (ejS s t k).exit.length }) (r:=ejR s r k) (q:={ q with o:=ovs o1 (ejR s r k).out.length }) (oo:=o1) (ox:=ox) (by show v.m=_;rw[hm];show Value.slice _ s.members.length cm = .slice _ (upN (ejF s.par) s.members k).length cm;rw[hlk]) (by show (upN (ejF s.par) s.members k).length≤900;omega) hbe.m e4 (fun x hx=>(eo.d x hx).1) (by show (duN s.par s.members t s.dues k).length≤32000;omega) k (by show k<(upN (ejF s.par) s.members k).length;omega) how2 hw hep2 (by show WP (duN s.par s.members t s.dues k)+(gr ZS (upN (ejF s.par) s.members k) k).bal≤_;omega) rfl (Zru okx hexl) (by show (exN s.par s.members s.exit k).length≤900;omega) rfl e5 (by rw[hrl];omega) (fun c3 h2 d2 o2 le2 i2 ok2 ap nd=>?_) (fun c3 ap nd=>?_))
  ·have c4:ejP s.par (gr ZS s.members k):=⟨c2',by rw[← hat];exact c3⟩
   have s1:ejS s t (k+1)=Ykf (ejS s t k) w k:=by
    have u1:upN (ejF s.par) s.members (k+1)=(upN (ejF s.par) s.members k).set k (Zaf (gr ZS (upN (ejF s.par) s.members k) k) 4):=by
     rw[upN,hat,ejF,if_pos c4];rfl
    have u2:duN s.par s.members t s.dues (k+1)=GH (duN s.par s.members t s.dues k) (Gc t (gr ZS (upN (ejF s.par) s.members k) k)):=by rw[duN,if_pos c4,hat]
    have u3:exN s.par s.members s.exit (k+1)=flt (exN s.par s.members s.exit k) k:=by rw[Zzj,if_pos c4]
    show ({ s with members:=upN (ejF s.par) s.members (k+1),dues:=duN s.par s.members t s.dues (k+1),exit:=exN s.par s.members s.exit (k+1) }:Zf)={ s with members:=(upN (ejF s.par) s.members k).set k (Zaf (gr ZS (upN (ejF s.par) s.members k) k) 4),dues:=GH (duN s.par s.members t s.dues k) (Gc (min (s.ep+w) 2147483647) (gr ZS (upN (ejF s.par) s.members k) k)),exit:=flt (exN s.par s.members s.exit k) k };rw[u1,u2,u3,← hte]
   have s2:(ejR s r (k+1)).out=(ejR s r k).out++[(k:Int)]:=by
    show r.out++ouN s.par s.members (k+1)=r.out++ouN s.par s.members k++[(k:Int)];rw[ouN,if_pos c4,List.append_assoc]
   have s3:(ejR s r (k+1)).out.length=(ejR s r k).out.length+1:=by rw[s2,List.length_append];rfl
   have s4:ejR s r (k+1)={ ejR s r k with out:=(ejR s r k).out++[(k:Int)] }:=by rw[← s2];rfl
   refine⟨⟨k+1,h2,d2,o2⟩,⟨rfl,by omega,e3.trans le2,by rw[s1];exact i2,by rw[s3];exact ok2,ap.1,trivial,ap.2.1⟩,?_⟩;simp only;rw[s1,s3,s4];exact Za.refl _ _
  ·have c4:¬ejP s.par (gr ZS s.members k):=fun c=>c3 (by show (gr ZS (upN (ejF s.par) s.members k) k).bal≤_;rw[hat];exact c.2);have s1:ejS s t (k+1)=ejS s t k:=Yme (by omega) c4;have s4:ejR s r (k+1)=ejR s r k:=Ykt c4;refine⟨⟨k+1,h1,d1,o1⟩,⟨rfl,by omega,e3,by rw[s1];exact e4,by rw[s4];exact e5,e6,e7⟩,?_⟩;simp only;rw[s1,s4];exact Za.refl _ _
 ·rintro k ⟨k,h1,d1,o1⟩ c1 ⟨rfl,e2,e3,e4,e5,e6,e7⟩ c2;simp only at c1 e2 e3 e4 e5 e6 e7 c2 ⊢;have hat:=Zbg (ejF s.par) s.members (k:=k) (by omega);have c4:¬ejP s.par (gr ZS s.members k):=fun c=>c2 (by show Zbv (gr ZS (upN (ejF s.par) s.members k) k);rw[hat];exact c.1);have s1:ejS s t (k+1)=ejS s t k:=Yme (by omega) c4;have s4:ejR s r (k+1)=ejR s r k:=Ykt c4;refine⟨⟨k+1,h1,d1,o1⟩,⟨rfl,by omega,e3,by rw[s1];exact e4,by rw[s4];exact e5,e6,e7⟩,?_⟩;simp only;rw[s1,s4];exact Za.refl _ _
 ·exact⟨rfl,Nat.zero_le _,PH.le_refl _,hd,by simpa [ejR,ouN] using oko,hbb,hbm⟩
 ·rintro⟨k,h1,d1,o1⟩ ⟨e1,e2,e3,e4,e5,e6,e7⟩;simp only at e1 e2 e3 e4 e5 e6 e7 ⊢;subst e1;refine xx ?_;exact⟨_,_,Za.sub (.cons_cons _ (J0 _ (J0 _ (J0 _ (List.sublist_cons_self _ _))))),hk h1 d1 o1 e3 e4 e5⟩
theorem Zsl {ms:List Zc}{i:Nat}(hi:i<ms.length)(m:Zc)(ho:m.owner=(gr ZS ms i).owner)(hs:m.status=(gr ZS ms i).status) :
  ((((ms.flatMap YK).set (i*6) (.int .u64 m.bal)).set (i*6+1) (.int .u64 m.eff)).set (i*6+1+1) (.int .u64 m.score)).set (i*6+1+1+1) (.int .i64 m.streak)=(ms.set i m).flatMap YK:=by
 have h1:=fset4 hi (gr ZS ms i) m ho hs;have e:ms.set i (gr ZS ms i)=ms:=by rw[Yl hi,List.set_getElem_self]
 rw[e]at h1;exact h1
theorem perm2o {e sz:Nat}{o:Option (Nat×Nat)}{xs:List Value}{a b:Zo}{L:Own}:(a::b::oent e sz o xs L).Perm (oent e sz o xs (a::b::L)):=Yv [a,b]
theorem perm2m {e sz:Nat}{o:Option (Nat×Nat)}{xs:List Value}{a b:Zo}{L:Own}:(a::b::oent e sz o xs L).Perm (b::oent e sz o xs (a::L)):=(List.Perm.swap _ _ _).trans (List.Perm.cons _ oent_perm)
theorem Ymw {e sz:Nat}{o:Option (Nat×Nat)}{xs:List Value}{x y:Zo}(hx:apB o x.b)(hy:apB o y.b)(nd:Nd (oent e sz o xs L))(ha:apO o [] h):apO o (x::y::L) h:=by
 cases o with
 | none=>trivial
 | some p=>exact⟨⟨Ne.symm hx,Ne.symm hy,nd.1⟩,ha.2⟩
theorem Zhq {x y z:Zo}(ap:Ap (x::y::z::L) h)(nd:Nd (x::y::z::L)):h x.b=noC∧h y.b=noC∧h z.b=noC∧y.b≠x.b∧x.b≠z.b∧y.b≠z.b :=
 ⟨ap.1,ap.2.1,ap.2.2.1,nd.1.1,Ne.symm nd.1.2.1,Ne.symm nd.2.1.1⟩
theorem Ygf {bb bm cm bx:Nat}{s:Zf}{v:SV}{r:Zk}{q:RV}{w:Int}(ok:Zj s.par)(hr:Ym s.par=true)(hk0:Ints h .u8 v.k s.marks)(mo:∀x∈s.members,Zg x)(i:Nat)(hi:i<s.members.length)(hml:s.members.length≤900)
  (hk:K (.tuple #[]) (tB bb { s with members:=s.members.set i (UN s.par (gr ZS s.members i) (Vs s.marks i) r.mode) } v r q w::tM bm cm (s.members.set i (UN s.par (gr ZS s.members i) (Vs s.marks i) r.mode))::tX bx bb::L) h) :
  Zb prog 140 [.int .i64 i,.pointer (some ⟨bm,i*6,none⟩),.pointer (some ⟨bx,0,none⟩)] (tB bb s v r q w::tM bm cm s.members::tX bx bb::L) h K:=by
 refine Z4 func140 rfl (rs:=[]) rfl rfl ZY (by kernel_rfl) rfl rfl fun ap nd=>?_;obtain⟨hbb,hbm,hbx,nmb,nbx,nmx⟩:=Zhq ap nd;simp only at hbb hbm hbx nmb nbx nmx;clear ap nd;obtain⟨g0,g1,g2,g3,g4,g5⟩:=Zuh hi;have hi6:=Wv (w:=6) hi (show 3<6 by decide);have hsum:=Yea (ms:=s.members) rfl;refine Yr (.tk 0 (.tk 6 (.tk 7 (.tk 8 (.tk 11 (.tkl 1 (.tk 2 (.tk 3 (.tk 4 (.tkl 5 (.tkl 9 (.tkl 10 (.tkl 13 (.tk 14 (.tk 15 (.tk 16 (.tkl 17 (.o1 12 (.o1 18 (.tk 19 (.tk 20 (.o2 21 (.fin) (.nil)))) (.nil)) (.nil))))))))))))))))))) (by kernel_rfl) (by kernel_rfl) _ (Za.refl _ _) ?_;simp -dsimp -implicitDefEqProofs (disch:=first|with_reducible assumption|omega) [go_sem,g0,g1,g2,g3];refine Zah hk0 i (by omega) ?_;refine xx ?_;refine Zux s.par ok hr (gr ZS s.members i) (mo _ (YM hi)) (Vs s.marks i) r.mode ?_;refine xx ?_;refine⟨by omega,?_⟩;rw[Zsl hi (UN s.par (gr ZS s.members i) (Vs s.marks i) r.mode) (by unfold UN;split<;>rfl) (by unfold UN;split<;>rfl)];exact ZO hk
theorem Ztd {bb D:Nat}{om:Option (Nat×Nat)}{s:Zf}{v:SV}{r:Zk}{q:RV}{w:Int}(ti:Zt s D)(hA:Gg s≤140737488355328)(hk0:Ints h .u8 v.k s.marks)(hm:v.m=ovs om s.members.length)(okm:okO om s.members.length)
    (hk:∀h',PH.le h h'→K (.tuple #[]) (tB bb (wgS s) v (wgR s r) q w::tMo om (wgS s).members L) h') :
    Zb prog 71 [.pointer (some ⟨bb,0,none⟩)] (tB bb s v r q w::tMo om s.members L) h K:=by
  obtain⟨vp,vm,ve,vx,vo,vd,vt,vk,vr⟩:=v;simp only at hm hk0 hk ⊢;subst hm;have hml:=ti.ml;have hpre:=GR (ks:=s.marks) ti.be.m;obtain⟨a1,a2,a3,a4,a5,a6,a7⟩:=ti.ok.all;obtain⟨n,hn⟩:∃n,n=s.members.length:=⟨_,rfl⟩
  refine Z4 func71 rfl (rs:=[]) rfl rfl ZY (by kernel_rfl) rfl rfl fun ap nd=>?_;have hbb:h bb=noC:=ap.1;have hbm:apO om [] h:=Y1 ap.2;have nmb:apB om bb:=YH nd.1;have ndo:=nd.2;clear ap nd;refine xx ?_;refine Z6 fun bx n_bx h_bx=>?_;(try simp only[ZU]at n_bx);have nbx:=n_bx.1;have nmx:apB om bx:=YH n_bx.2;refine xx ?_;have hapO:apO om (tX bx bb::tB bb s ⟨vp,ovs om s.members.length,ve,vx,vo,vd,vt,vk,vr⟩ r q w::L) h:=Ymw nmx nmb ndo hbm;refine Wr (.tkl 0 (.tkl 2 (.tk 3 (.tk 4 (.tk 5 (.tkl 6 (.tkl 7 (.tk 8 (.tk 9 (.tk 10 (.tkl 11 (.o1 1 (.o1 12 (.tk 13 (.tk 14 (.tk 15 (.tk 16 (.tk 17 (.tk 18 (.tk 19 (.o2 20 (.tk 21 (.tk 22 (.tk 23 (.o2 24 (.fin) (.nil))))) (.nil))))))))) (.nil)) (.o1 12 (.tk 13 (.tk 14 (.tk 15 (.tk 16 (.tk 17 (.tk 18 (.tk 19 (.o1 1 (.o2 20 (.tk 21 (.tk 22 (.tk 23 (.o2 24 (.fin) (.nil))))) (.nil)) (.o2 20 (.o1 1 (.tk 21 (.tk 22 (.tk 23 (.o2 24 (.fin) (.nil))))) (.nil)) (.nil)))))))))) (.nil)))))))))))))) (by kernel_rfl) (by kernel_rfl) [(1,.pointer (some ⟨bx,0,none⟩))] _ (γ:=PH) (fun h1=>PH.le h h1∧h1 bb=noC∧apO om [] h1∧h1 bx=noC) (fun _=>[(1,.pointer (some ⟨bx,0,none⟩))])
    (fun _=>tX bx bb::tB bb s ⟨vp,ovs om s.members.length,ve,vx,vo,vd,vt,vk,vr⟩ { r with pres:=Zgt s,act:=Gg s } q w::tMo om s.members L) (fun h1=>h1) (by simp [Ent,List.lookup,WM]) (Za.refl _ _) ?_ ?_
  · repeat' first
      | with_reducible refine YF ?_ ?_
      | simp -dsimp -implicitDefEqProofs (disch:=first|with_reducible assumption|omega) [go_sem]
      | (with_reducible show UX prog 136 _ _ _ _
         refine Zb.fin (Zb.weaken (Za.perm h perm2o) (Zb.ap (Zlq (l:=s.members) (ks:=s.marks) om okm hapO _ ti.be.m hk0 (by omega) (by show Gg s≤_;omega) fun h1 le1 ap=>⟨_,_,Za.perm _ perm2o.symm,?_⟩)));have hbm1:apO om [] h1:=Y1 ap;have hbx1:h1 bx=noC:=(Ap.oent ap).1;have hbb1:h1 bb=noC:=(Ap.oent ap).2.1
         clear ap)
      | with_reducible refine xkp (Za.forget le1) ?_
    all_goals exact⟨h1,⟨le1,hbb1,hbm1,hbx1⟩,by simp [Ent,List.lookup],Za.refl _ _⟩
  rintro h1 ⟨le1,hbb1,hbm1,hbx1⟩
  try simp only
  refine xx ?_;refine Wr (.tkl 0 (.tkl 2 (.tk 3 (.tk 4 (.tk 5 (.tkl 6 (.tkl 7 (.tk 8 (.tk 9 (.tk 10 (.tkl 11 (.tkl 12 (.tk 13 (.tk 14 (.tk 15 (.tkl 16 (.tkl 17 (.tk 18 (.tk 19 (.tk 20 (.tkl 21 (.o1 1 (.o1 22 (.tk 23 (.tk 24 (.tk 25 (.tk 26 (.tk 27 (.tk 28 (.o2 29 (.tk 30 (.tk 31 (.tk 32 (.o2 33 (.fin) (.nil))))) (.nil)))))))) (.nil)) (.o1 22 (.tk 23 (.tk 24 (.tk 25 (.tk 26 (.tk 27 (.tk 28 (.o1 1 (.o2 29 (.tk 30 (.tk 31 (.tk 32 (.o2 33 (.fin) (.nil))))) (.nil)) (.o2 29 (.o1 1 (.tk 30 (.tk 31 (.tk 32 (.o2 33 (.fin) (.nil))))) (.nil)) (.nil))))))))) (.nil)))))))))))))))))))))))) (by kernel_rfl) (by kernel_rfl) [(1,.pointer (some ⟨bx,0,none⟩))] _ (γ:=Unit) (fun _=>True) (fun _=>[(1,.pointer (some ⟨bx,0,none⟩))])
    (fun _=>tX bx bb::tB bb { s with calm:=(JS s.calm (Zgt s) (Gg s)).1 } ⟨vp,ovs om s.members.length,ve,vx,vo,vd,vt,vk,vr⟩ { r with pres:=Zgt s,act:=Gg s,quo:=(JS s.calm (Zgt s) (Gg s)).2 } q w::tMo om s.members L) (fun _=>h1) (by simp [Ent,List.lookup,WM]) (Za.refl _ _) ?_ ?_
  · repeat' first
      | with_reducible refine YF ?_ ?_
      | simp -dsimp -implicitDefEqProofs (disch:=first|with_reducible assumption|omega) [go_sem]
      | (with_reducible show UX prog 137 _ _ _ _
         refine Zyh s.par s.calm (Zgt s) (Gg s) ⟨hpre.1,by have:Zgt s≤Gg s:=hpre.2;omega⟩ ⟨by have:0≤Zgt s∧Zgt s≤Gg s:=hpre;omega,by omega⟩ a7 ?_)
      | with_reducible refine xkp (Za.refl _ _) ?_
    all_goals exact⟨by simp [Ent,List.lookup],Za.refl _ _⟩
  rintro _ _;refine xx ?_;refine Yr (.tkl 0 (.tkl 1 (.tk 2 (.tk 3 (.tk 4 (.tkl 5 (.tkl 6 (.tk 7 (.tk 8 (.tk 9 (.tkl 10 (.tkl 11 (.tk 12 (.tk 13 (.tk 14 (.tkl 15 (.o1 16 (.tk 17 (.tk 18 (.tk 19 (.o2 20 (.fin) (.nil))))) (.nil)))))))))))))))))) (by kernel_rfl) (by kernel_rfl) _ (Za.refl _ _) ?_;refine xx ?_;refine Yow s.par (JS s.calm (Zgt s) (Gg s)).1 s.emer ?_;refine xx ?_;refine Zb.weaken (Za.perm h1 perm2m) ?_;refine VO (cl:=140) (cap:=[.pointer (some ⟨bx,0,none⟩)]) (n:=n) (γ:=Nat) (fun j x=>x=j∧j≤n) (fun k=>{ s with calm:=(JS s.calm (Zgt s) (Gg s)).1,members:=upI (wgF s.par s.marks (Gu s)) s.members k }) (fun _=>⟨vp,ovs om s.members.length,ve,vx,vo,vd,vt,vk,vr⟩) (fun _=>wgR s r) (fun _=>q) (fun _=>tX bx bb::L) (fun _=>h1) 0 (by omega) (by rw[hn];exact okm) ?_ nmb ?_ ?_ ?_ ?_
  · rintro k x ⟨rfl,e2⟩;exact⟨by rw[hn],by rw[hn];exact VB _ _ _,hbb1,hbm1⟩
  · rintro bm cm rfl k x c1 ⟨rfl,e2⟩ c2;have hat:=Zer (wgF s.par s.marks (Gu s)) s.members (k:=x) (by omega);have c3:Zbv (gr ZS s.members x):=by rw[← hat];exact c2
    have hl:=VB (wgF s.par s.marks (Gu s)) s.members x;refine Ygf (s:={ s with calm:=(JS s.calm (Zgt s) (Gg s)).1,members:=upI (wgF s.par s.marks (Gu s)) s.members x }) ti.ok.p ti.r (hk0.up le1) (Zjy Zg (fun k m hm=>Ykm ti.ok.p ti.r _ _ k hm) ti.be.m x (by omega)) x (by show x<(upI (wgF s.par s.marks (Gu s)) s.members x).length;omega) (by show (upI (wgF s.par s.marks (Gu s)) s.members x).length≤900;omega) ⟨x+1,⟨rfl,by omega⟩,?_⟩;have e:upI (wgF s.par s.marks (Gu s)) s.members (x+1)=(upI (wgF s.par s.marks (Gu s)) s.members x).set x (UN s.par (gr ZS (upI (wgF s.par s.marks (Gu s)) s.members x) x) (Vs s.marks x) (Gu s)):=by
      rw[upI,hat,wgF,if_pos c3]
    rw[e];exact Za.refl _ _
  · rintro k x c1 ⟨rfl,e2⟩ c2;have hat:=Zer (wgF s.par s.marks (Gu s)) s.members (k:=x) (by omega);have c3:¬Zbv (gr ZS s.members x):=by rw[← hat];exact c2
    refine⟨x+1,⟨rfl,by omega⟩,?_⟩;have e:upI (wgF s.par s.marks (Gu s)) s.members (x+1)=upI (wgF s.par s.marks (Gu s)) s.members x:=Zsm _ _ (by omega) (if_neg c3);rw[e];exact Za.refl _ _
  · exact⟨rfl,Nat.zero_le _⟩
  · rintro k ⟨e1,e2⟩;subst e1;refine xx ?_;refine⟨_,_,Za.sub (.cons_cons _ (J0 _ (List.sublist_cons_self _ _))),?_⟩;subst hn;exact hk h1 le1
theorem Ygk {bb bm cm bx:Nat}{s:Zf}{v:SV}{r:Zk}{q:RV}{w:Int}(ok:Zj s.par)(hr:Ym s.par=true)(hk0:Ints h .u8 v.k s.marks)(mo:∀x∈s.members,Zg x)(i:Nat)(hi:i<s.members.length)(hml:s.members.length≤900)
    (h1:0≤s.treas∧s.treas+Wl s.par (gr ZS s.members i) r.mode≤18446744073709551615) (h2:0≤r.burned∧r.burned+Wl s.par (gr ZS s.members i) r.mode≤18446744073709551615) (h3:0≤r.fees∧r.fees+Wl s.par (gr ZS s.members i) r.mode≤18446744073709551615)
    (hk:Vs s.marks i=false→K (.tuple #[]) (tB bb { s with treas:=s.treas+Wl s.par (gr ZS s.members i) r.mode,members:=s.members.set i (Gf s.par (gr ZS s.members i) r.mode) } v { r with burned:=r.burned+UD s.par (Wl s.par (gr ZS s.members i) r.mode),fees:=r.fees+(Wl s.par (gr ZS s.members i) r.mode-UD s.par (Wl s.par (gr ZS s.members i) r.mode)) } q w::tM bm cm (s.members.set i (Gf s.par (gr ZS s.members i) r.mode))::tX bx bb::L) h)
    (hno:Vs s.marks i=true→K (.tuple #[]) (tB bb s v r q w::tM bm cm s.members::tX bx bb::L) h) :
    Zb prog 149 [.int .i64 i,.pointer (some ⟨bm,i*6,none⟩),.pointer (some ⟨bx,0,none⟩)] (tB bb s v r q w::tM bm cm s.members::tX bx bb::L) h K:=by
  refine Z4 func149 rfl (rs:=[]) rfl rfl ZY (by kernel_rfl) rfl rfl fun ap nd=>?_;obtain⟨hbb,hbm,hbx,nmb,nbx,nmx⟩:=Zhq ap nd;simp only at hbb hbm hbx nmb nbx nmx;clear ap nd;obtain⟨g0,g1,g2,g3,g4,g5⟩:=Zuh hi;have hi6:=Wv (w:=6) hi (show 3<6 by decide);have hsum:=Yea (ms:=s.members) rfl;refine xx ?_;refine Zah hk0 i (by omega) ?_
  cases c:Vs s.marks i with
  | true =>
    have hno:=hno c;refine xx ?_;exact ZO hno
  | false =>
  have hk:=hk c;clear hno;obtain⟨_,b1,b2,b3,b4⟩:=Zcn ok hr (mo _ (YM (z:=ZS) hi)) r.mode;have hst:=Zsl hi (Gf s.par (gr ZS s.members i) r.mode) rfl rfl;refine xx ?_;refine Wr (.tk 5 (.tk 6 (.tk 7 (.tkl 0 (.tk 1 (.tk 2 (.tk 3 (.tkl 4 (.tkl 8 (.tkl 9 (.tk 10 (.tk 11 (.tk 12 (.tkl 13 (.o1 14 (.tk 15 (.tk 16 (.tk 17 (.tk 18 (.o1 19 (.o2 20 (.tk 21 (.tk 22 (.fin))) (.nil)) (.nil)))))) (.o1 19 (.o1 14 (.tk 15 (.tk 16 (.tk 17 (.tk 18 (.o2 20 (.tk 21 (.tk 22 (.fin))) (.nil)))))) (.nil)) (.nil))))))))))))))))) (by kernel_rfl) (by kernel_rfl) [(0,.int .i64 i),(1,.pointer (some ⟨bm,i*6,none⟩)),(2,.pointer (some ⟨bx,0,none⟩))] _ (γ:=Nat) (fun b5=>bb≠b5∧bm≠b5∧bx≠b5∧h b5=noC)
    (fun b5=>[(1,.pointer (some ⟨bm,i*6,none⟩)),(2,.pointer (some ⟨bx,0,none⟩)),(5,.pointer (some ⟨b5,0,none⟩)),(6,.int .u64 (UD s.par (Wl s.par (gr ZS s.members i) r.mode))),(7,.int .u64 (Wl s.par (gr ZS s.members i) r.mode-UD s.par (Wl s.par (gr ZS s.members i) r.mode)))])
    (fun b5=>⟨b5,71,sdC (Gf s.par (gr ZS s.members i) r.mode),4⟩::tB bb s v r q w::tM bm cm s.members::tX bx bb::L) (fun _=>h) (by simp [Ent,List.lookup,WM]) (Za.refl _ _) ?_ ?_
  · repeat' first
      | with_reducible refine YF ?_ ?_
      | simp -dsimp -implicitDefEqProofs (disch:=first|with_reducible assumption|omega) [go_sem,g0,g1,g2,g3]
      | (with_reducible refine Z6 fun b5 nb5 zb5 => ?_
         simp only[ZU]at nb5)
      | (with_reducible show UX prog 150 _ _ _ _
         refine Yej s.par ok hr (gr ZS s.members i) (mo _ (YM hi)) r.mode ?_)
      | with_reducible refine xkp (Za.refl _ _) ?_
      | with_reducible refine xkp (Za.tail _ _ _) ?_
    all_goals exact⟨b5,⟨nb5.1,nb5.2.1,nb5.2.2.1,zb5⟩,by simp [Ent,List.lookup],Za.refl _ _⟩
  rintro b5 ⟨n1,n2,n3,h5⟩;have hm:(Gf s.par (gr ZS s.members i) r.mode).bal=(gr ZS s.members i).bal-Wl s.par (gr ZS s.members i) r.mode∧(Gf s.par (gr ZS s.members i) r.mode).eff=(gr ZS s.members i).eff:=⟨rfl,rfl⟩
  generalize Gf s.par (gr ZS s.members i) r.mode=fm at *
  obtain⟨f,hf⟩:∃f,f=Wl s.par (gr ZS s.members i) r.mode:=⟨_,rfl⟩
  rw[← hf]at h1 h2 h3 b1 b2 b3 b4 hk ⊢;obtain⟨b,hb⟩:∃b,b=UD s.par f:=⟨_,rfl⟩
  rw[← hb]at b3 b4 hk ⊢;have e1:s.treas+(b+(f-b))=s.treas+f:=by omega
  simp only[sdC];refine xx ?_;refine⟨by omega,?_⟩;rw[hst,e1];exact ZP (ZO hk)
theorem Ync {s:Zf}{r:Zk}{k:Nat}(hk:k<s.members.length)(c:fnC s.marks k (gr ZS s.members k)) :
  Jp s r (k+1)={ Jp s r k with treas:=(Jp s r k).treas+Wl s.par (gr ZS s.members k) r.mode,members:=(Jp s r k).members.set k (Gf s.par (gr ZS (Jp s r k).members k) r.mode) } ∧
  fnR s r (k+1)={ fnR s r k with burned:=(fnR s r k).burned+UD s.par (Wl s.par (gr ZS s.members k) r.mode),fees:=(fnR s r k).fees+(Wl s.par (gr ZS s.members k) r.mode-UD s.par (Wl s.par (gr ZS s.members k) r.mode)) }:=by
 have hat:=Zer (fnF s.par s.marks r.mode) s.members hk;have u1:upI (fnF s.par s.marks r.mode) s.members (k+1)=(upI (fnF s.par s.marks r.mode) s.members k).set k (Gf s.par (gr ZS (upI (fnF s.par s.marks r.mode) s.members k) k) r.mode):=by
  rw[upI,hat,fnF,if_pos c]
 have u2:Zfv s r (k+1)=Zfv s r k+Wl s.par (gr ZS s.members k) r.mode:=by rw[Zfv,fnT,if_pos c]
 have u3:Zey s r (k+1)=Zey s r k+UD s.par (Wl s.par (gr ZS s.members k) r.mode):=by rw[Zey,fnU,if_pos c]
 constructor
 ·show ({ s with treas:=s.treas+Zfv s r (k+1),members:=upI (fnF s.par s.marks r.mode) s.members (k+1) }:Zf)={ s with treas:=s.treas+Zfv s r k+Wl s.par (gr ZS s.members k) r.mode,members:=(upI (fnF s.par s.marks r.mode) s.members k).set k (Gf s.par (gr ZS (upI (fnF s.par s.marks r.mode) s.members k) k) r.mode) };rw[u1,u2,Int.add_assoc]
 ·show ({ r with burned:=r.burned+Zey s r (k+1),fees:=r.fees+(Zfv s r (k+1)-Zey s r (k+1)) }:Zk)={ r with burned:=r.burned+Zey s r k+UD s.par (Wl s.par (gr ZS s.members k) r.mode),fees:=r.fees+(Zfv s r k-Zey s r k)+(Wl s.par (gr ZS s.members k) r.mode-UD s.par (Wl s.par (gr ZS s.members k) r.mode)) };rw[u2,u3]
  congr 1<;>omega
theorem Ykz {s:Zf}{r:Zk}{k:Nat}(hk:k<s.members.length)(c:¬fnC s.marks k (gr ZS s.members k)):Jp s r (k+1)=Jp s r k∧fnR s r (k+1)=fnR s r k:=by
 have u1:upI (fnF s.par s.marks r.mode) s.members (k+1)=upI (fnF s.par s.marks r.mode) s.members k:=Zsm _ _ hk (if_neg c);have u2:Zfv s r (k+1)=Zfv s r k:=by rw[Zfv,fnT,if_neg c]
 have u3:Zey s r (k+1)=Zey s r k:=by rw[Zey,fnU,if_neg c]
 unfold Jp fnR;rw[u1,u2,u3];exact⟨rfl,rfl⟩
theorem Zuj {bb D:Nat}{om:Option (Nat×Nat)}{s:Zf}{v:SV}{r:Zk}{q:RV}{w:Int}(ti:Zt s D)(hb0:r.burned=0)(hf0:r.fees=0)(hv:Ypg v)(hk0:Ints h .u8 v.k s.marks)(hm:v.m=ovs om s.members.length)(okm:okO om s.members.length)
    (hk:K (.tuple #[]) (tB bb (fnS s r) v (fnR s r s.members.length) q w::tMo om (fnS s r).members L) h) :
    Zb prog 73 [.pointer (some ⟨bb,0,none⟩)] (tB bb s v r q w::tMo om s.members L) h K:=by
  have hml:=ti.ml;obtain⟨n,hn⟩:∃n,n=s.members.length:=⟨_,rfl⟩
  obtain⟨p1,p2,p3,p4,p5,p6⟩:=ti.parts;have hsum:=ti.sum;have hgo:=Wba ti hb0;have hen:=Zry ti r (Nat.le_refl s.members.length);obtain⟨c1,c2,c3⟩:=Wam ti r (Nat.le_refl s.members.length);rw[← hn]at hk hgo hen c1 c2 c3;refine Z4 func73 rfl (rs:=[]) rfl rfl ZY (by kernel_rfl) rfl rfl fun ap nd=>?_;have hbb:h bb=noC:=ap.1;have hbm:apO om [] h:=Y1 ap.2;have nmb:apB om bb:=YH nd.1;clear ap nd;refine xx ?_;refine Z6 fun bx n_bx h_bx=>?_;(try simp only[ZU]at n_bx);have nbx:=n_bx.1;have nmx:apB om bx:=YH n_bx.2;refine xx ?_;refine Zb.weaken (Za.perm h perm2m) ?_;have e0:Jp s r 0=s∧fnR s r 0=r:=by
    unfold Jp fnR;simp [fnT,fnU,upI]
  have key:∀K':PK,K' (.tuple #[]) (tB bb (Jp s r n) v (fnR s r n) q w::tMo om (Jp s r n).members (tX bx bb::L)) h→Zb prog 139 [.pointer (some ⟨bb,0,none⟩),.func (.func 149) #[] #[.pointer (some ⟨bx,0,none⟩)]] (tB bb s v r q w::tMo om s.members (tX bx bb::L)) h K':=by
    intro K' hK';have hcm:=VO (K:=K') (cl:=149) (cap:=[.pointer (some ⟨bx,0,none⟩)]) (bb:=bb) (om:=om) (w:=w) (n:=n) (γ:=Nat) (fun j x=>x=j∧j≤n) (fun k=>Jp s r k) (fun _=>v) (fun k=>fnR s r k) (fun _=>q) (fun _=>tX bx bb::L) (fun _=>h) 0 (by omega) (by rw[hn];exact okm) ?_ nmb ?_ ?_ ?_ ?_
    · rw[e0.1,e0.2]at hcm;exact hcm
    · rintro k x ⟨rfl,e2⟩;exact⟨by rw[hn];exact hm,by rw[hn];exact VB _ _ _,hbb,hbm⟩
    · rintro bm cm rfl k x d1 ⟨rfl,e2⟩ d2;have hat:=Zer (fnF s.par s.marks r.mode) s.members (k:=x) (by omega);have hat':gr ZS (Jp s r x).members x=gr ZS s.members x:=hat;have d3:Zbv (gr ZS s.members x):=by rw[← hat];exact d2
      have hl:(Jp s r x).members.length=s.members.length:=VB _ _ _;have tk:=Zry ti r (k:=x) (by omega);obtain⟨t1,t2,t3,t4,t5,t6⟩:=tk.parts;have ts:=tk.sum;have hbl:=tk.be.bl (i:=x) (by omega);rw[hat']at hbl;obtain⟨_,b1,b2,b3,b4⟩:=Zcn ti.ok.p ti.r (ti.be.m _ (YM (z:=ZS) (k:=x) (by omega))) r.mode;obtain⟨u1,u2,u3⟩:=Wam ti r (k:=x) (by omega);have w1:0≤(Jp s r x).treas∧(Jp s r x).treas+Wl s.par (gr ZS s.members x) r.mode≤18446744073709551615:=by omega
      have u4:Zfv s r x+tot ((Jp s r x).members.map Zc.bal)=tot (s.members.map Zc.bal):=u3;have w2:0≤(fnR s r x).burned∧(fnR s r x).burned+Wl s.par (gr ZS s.members x) r.mode≤18446744073709551615:=by
        show 0≤r.burned+Zey s r x∧r.burned+Zey s r x+_≤_;omega
      have w3:0≤(fnR s r x).fees∧(fnR s r x).fees+Wl s.par (gr ZS s.members x) r.mode≤18446744073709551615:=by
        show 0≤r.fees+(Zfv s r x-Zey s r x)∧r.fees+(Zfv s r x-Zey s r x)+_≤_;omega
      rw[← hat']at w1 w2 w3;refine Ygk (s:=Jp s r x) (r:=fnR s r x) ti.ok.p ti.r hk0 tk.be.m x (by omega) (by omega) w1 w2 w3 (fun g=>?_) (fun g=>?_)
      · have cc:fnC s.marks x (gr ZS s.members x):=⟨d3,g⟩
        obtain⟨e1,e2'⟩:=Ync (r:=r) (show x<s.members.length by omega) cc;refine⟨x+1,⟨rfl,by omega⟩,?_⟩;rw[e1,e2',← hat'];exact Za.refl _ _
      · have cc : ¬ fnC s.marks x (gr ZS s.members x) := fun cc => by
          have:Vs s.marks x=false:=cc.2;have g':Vs s.marks x=true:=g;rw[this]at g';cases g'
        obtain⟨e1,e2'⟩:=Ykz (r:=r) (show x<s.members.length by omega) cc;refine⟨x+1,⟨rfl,by omega⟩,?_⟩;rw[e1,e2'];exact Za.refl _ _
    · rintro k x d1 ⟨rfl,e2⟩ d2;have hat:=Zer (fnF s.par s.marks r.mode) s.members (k:=x) (by omega);have cc:¬fnC s.marks x (gr ZS s.members x):=fun cc=>d2 (by show Zbv (gr ZS (upI (fnF s.par s.marks r.mode) s.members x) x);rw[hat];exact cc.1);obtain⟨e1,e2'⟩:=Ykz (r:=r) (show x<s.members.length by omega) cc;refine⟨x+1,⟨rfl,by omega⟩,?_⟩;rw[e1,e2'];exact Za.refl _ _
    · exact⟨rfl,Nat.zero_le _⟩
    · rintro k ⟨e1,e2⟩;subst e1;exact hK'
  refine Zb.fin (key _ ⟨_,_,Za.perm h perm2m.symm,?_⟩);obtain⟨S1,hS1⟩:∃S1,S1=Jp s r n:=⟨_,rfl⟩
  obtain⟨R1,hR1⟩:∃R1,R1=fnR s r n:=⟨_,rfl⟩
  have eS:fnS s r=Zww S1 R1.burned:=by rw[hS1,hR1,hn];rfl
  have hrb:0≤R1.burned∧R1.burned≤18446744073709551615:=by
    rw[hR1];have c4:0≤tot ((Jp s r n).members.map Zc.bal):=hen.be.bal;have c5:Zfv s r n+tot ((Jp s r n).members.map Zc.bal)=tot (s.members.map Zc.bal):=c3;show 0≤r.burned+Zey s r n∧r.burned+Zey s r n≤_;omega
  rw[eS,← hR1]at hk;rw[← hS1,← hR1]at hgo;rw[← hS1]at hen;rw[← hS1,← hR1];clear eS hS1 hR1 key e0 c1 c2 c3;have hv1:=hv;unfold Ypg at hv1;refine xx ?_;refine Wr (.tkl 0 (.tk 1 (.tk 2 (.tkl 3 (.tkl 4 (.tk 5 (.tk 6 (.tk 7 (.tkl 8 (.o1 9 (.tk 10 (.tk 11 (.tk 12 (.o1 13 (.o2 14 (.tk 15 (.fin)) (.nil)) (.nil))))) (.o1 13 (.o1 9 (.tk 10 (.tk 11 (.tk 12 (.o2 14 (.tk 15 (.fin)) (.nil))))) (.nil)) (.nil)))))))))))) (by kernel_rfl) (by kernel_rfl) [(1,.pointer (some ⟨bx,0,none⟩))] _ (γ:=Nat) (fun b2=>bx≠b2∧bb≠b2∧h b2=noC)
    (fun b2=>[(1,.pointer (some ⟨bx,0,none⟩)),(2,.pointer (some ⟨b2,0,none⟩)),(3,.int .i64 0)])
    (fun b2=>⟨b2,39,stC (Zww S1 R1.burned) v,41⟩::tX bx bb::tB bb S1 v R1 q w::tMo om S1.members L) (fun _=>h) (by simp [Ent,List.lookup,WM]) (Za.refl _ _) ?_ ?_
  · repeat' first
      | with_reducible refine YF ?_ ?_
      | simp -dsimp -implicitDefEqProofs (disch:=first|with_reducible assumption|omega) [go_sem]
      | (with_reducible refine Z6 fun b2 nb2 zb2 => ?_
         simp only[ZU]at nb2)
      | (with_reducible show UX prog 151 _ _ _ _
         refine Zzf v hv hen.ok R1.burned hrb hgo ?_)
      | with_reducible refine xkp (Za.refl _ _) ?_
      | with_reducible refine xkp (Za.tail _ _ _) ?_
      | with_reducible refine⟨hv1,?_⟩
      | fail
    all_goals exact⟨b2,⟨nb2.1,nb2.2.1,zb2⟩,by simp [Ent,List.lookup],Za.refl _ _⟩
  rintro b2 ⟨n1,n2,h2⟩;simp only[stC];refine xx ?_;refine⟨hv,?_⟩;exact ZP (ZP (ZO hk))
theorem Yic {bb bm cm bx:Nat}{s:Zf}{v:SV}{r:Zk}{q:RV}{w:Int}(ok:Zj s.par)(hr:Ym s.par=true)(mo:∀x∈s.members,Zg x)(i:Nat)(hi:i<s.members.length)(hml:s.members.length≤900)
  (hk:K (.tuple #[]) (tB bb { s with members:=s.members.set i (WR s.par (gr ZS s.members i)) } v r q w::tM bm cm (s.members.set i (WR s.par (gr ZS s.members i)))::tX bx bb::L) h) :
  Zb prog 165 [.int .i64 i,.pointer (some ⟨bm,i*6,none⟩),.pointer (some ⟨bx,0,none⟩)] (tB bb s v r q w::tM bm cm s.members::tX bx bb::L) h K:=by
 obtain⟨m,hmk⟩:∃m,m=gr ZS s.members i:=⟨_,rfl⟩
 have hmo:Zg m:=mo m (by rw[hmk];exact YM hi);have ub:=hmo.u m.bal (by simp);have ue:=hmo.u m.eff (by simp);rw[← hmk]at hk;refine Z4 func165 rfl (rs:=[]) rfl rfl ZY (by kernel_rfl) rfl rfl fun ap nd=>?_;obtain⟨hbb,hbm,hbx,nmb,nbx,nmx⟩:=Zhq ap nd;simp only at hbb hbm hbx nmb nbx nmx;clear ap nd;obtain⟨g0,g1,g2,g3,g4,g5⟩:=Zuh hi;rw[← hmk]at g0 g1;have hi6:=Wv (w:=6) hi (show 3<6 by decide);have hsum:=Yea (ms:=s.members) rfl;refine xx ?_;refine Yr (.tk 0 (.tk 6 (.tk 7 (.tk 8 (.tk 9 (.tk 11 (.tk 12 (.tk 13 (.tk 14 (.tkl 1 (.tk 2 (.tk 3 (.tk 4 (.tkl 5 (.tkl 10 (.tkl 15 (.o1 16 (.tk 17 (.tk 18 (.tk 19 (.o2 20 (.fin) (.nil))))) (.nil)))))))))))))))))) (by kernel_rfl) (by kernel_rfl) _ (Za.refl _ _) ?_;simp -dsimp -implicitDefEqProofs (disch:=first|with_reducible assumption|omega) [go_sem,g0,g1];refine Ycg s.par ok hr m.eff m.bal ue ub ?_
 first
 | refine xkp (Za.refl _ _) ?_
 | skip
 refine xx ?_;obtain⟨n1,hn1⟩:∃n1,n1=Zeq s.par m.eff m.bal:=⟨_,rfl⟩
 have hw:=GK (Gn hr) ok ub;have un:0≤n1∧n1≤18446744073709551615:=by
  rw[hn1];unfold Zeq;split
  ·exact hw
  ·exact ue
 obtain⟨m1,hm1⟩:∃m1:Zc,m1={ m with eff:=n1 }:=⟨_,rfl⟩
 have hset1:(s.members.flatMap YK).set (i*6+1) (.int .u64 n1)=(s.members.set i m1).flatMap YK:=Wm Yb ZS s.members hi (by decide) (by rw[← hmk,hm1];rfl);rw[← hn1,hset1];refine⟨by omega,?_⟩;have hk1':i<(s.members.set i m1).length:=by rw[List.length_set];exact hi
 have hg1:gr ZS (s.members.set i m1) i=m1:=by rw[Yl hk1',List.getElem_set_self]
 have e1:m1.bal=m.bal:=by rw[hm1]
 have r0:∀(K:Value→Prop) (t:Zq K),VP ((s.members.set i m1).flatMap YK) (i*6) K t=K (.int .u64 m.bal):=fun K t=>Yq Yb ZS _ (m:=0) hk1' (by decide) (by rw[hg1,← e1];rfl) K t;have r1:∀(K:Value→Prop) (t:Zq K),VP ((s.members.set i m1).flatMap YK) (i*6+1) K t=K (.int .u64 n1):=fun K t=>Yq Yb ZS _ (m:=1) hk1' (by decide) (by rw[hg1,hm1];rfl) K t;refine Wx (by kernel_rfl) rfl ?_;simp -dsimp -implicitDefEqProofs (disch:=first|with_reducible assumption|omega) [go_sem,r0,r1];refine Yz _ (Zmp s.par ok n1 m.bal un ub ⟨rfl,rfl,rfl⟩) ?_;rw[hr,Bool.true_and]
 cases hgf:UG s.par n1 m.bal with
 | true =>
  have es:WR s.par m=m1:=by rw[WR,← hn1,hgf,if_pos rfl,hm1]
  rw[es]at hk;simp -dsimp -implicitDefEqProofs (disch:=first|with_reducible assumption|omega) [go_sem,r0,r1];exact ZO hk
 | false =>
  have es:WR s.par m={ m with eff:=WW s.par m.bal }:=by rw[WR,← hn1,hgf];rfl
  rw[es]at hk;simp -dsimp -implicitDefEqProofs (disch:=first|with_reducible assumption|omega) [go_sem,r0,r1];refine Yr (.tk 0 (.tk 6 (.tk 7 (.tk 8 (.tk 9 (.tkl 1 (.tk 2 (.tk 3 (.tk 4 (.tkl 5 (.tkl 10 (.o1 11 (.tk 12 (.tk 13 (.tk 14 (.o2 15 (.fin) (.nil))))) (.nil))))))))))))) (by kernel_rfl) (by kernel_rfl) _ (Za.refl _ _) ?_;simp -dsimp -implicitDefEqProofs (disch:=first|with_reducible assumption|omega) [go_sem,r0,r1];refine Zar s.par ok m.bal ub ?_;rw[hr,if_pos rfl]
  first
  | refine xkp (Za.refl _ _) ?_
  | skip
  refine xx ?_;have hset2:((s.members.set i m1).flatMap YK).set (i*6+1) (.int .u64 (WW s.par m.bal))=(s.members.set i { m with eff:=WW s.par m.bal }).flatMap YK:=Yxq hi (by decide) (by rw[hm1];rfl);have hsum2:(((s.members.map fun a=>(YK a).length)).set i (YK m1).length).sum=s.members.length*6:=by
   have:((s.members.set i m1).map fun a=>(YK a).length).sum=(s.members.set i m1).length*6:=by rw[← List.length_flatMap,Z3 Yb]
   rwa [List.map_set,List.length_set]at this
  rw[hset2];exact⟨by omega,ZO hk⟩
theorem Yqw {s:Zf}{k:Nat}(hk:k<s.members.length)(c:Zbv (gr ZS s.members k)):Zrk s (k+1)={ Zrk s k with members:=(Zrk s k).members.set k (WR s.par (gr ZS (Zrk s k).members k)) }:=by
 have hat:=Zbg (Zaa s.par) s.members hk;have u1:upN (Zaa s.par) s.members (k+1)=(upN (Zaa s.par) s.members k).set k (WR s.par (gr ZS (upN (Zaa s.par) s.members k) k)):=by
  rw[upN,hat,Zaa,if_pos c]
 show ({ s with members:=upN (Zaa s.par) s.members (k+1) }:Zf)={ s with members:=(upN (Zaa s.par) s.members k).set k (WR s.par (gr ZS (upN (Zaa s.par) s.members k) k)) };rw[u1]
theorem Yyg {s:Zf}{k:Nat}(hk:k<s.members.length)(c:¬Zbv (gr ZS s.members k)):Zrk s (k+1)=Zrk s k:=by
 unfold Zrk;rw[Zrr (Zaa s.par) s.members hk (show Zaa s.par (gr ZS s.members k)=gr ZS s.members k from if_neg c)]
theorem Zeu {bb D:Nat}{om:Option (Nat×Nat)}{s:Zf}{v:SV}{r:Zk}{q:RV}{w:Int}(ti:Zt s D)(hk0:Ints h .u8 v.k s.marks)(hr0:∃ql,Zz h v.r ql∧xsL ql=s.ring)(hrl:s.ring.length≤1000)(hrb:∀b∈s.ring,b.length≤1000)(hml2:s.marks.length≤1000)(hm:v.m=ovs om s.members.length)(okm:okO om s.members.length)
  (hk:∀h' kv rv,PH.le h h'→Ints h' .u8 kv (List.replicate 16 0)→(∃ql,Zz h' rv ql∧xsL ql=Zle s.ring s.marks)→K (.tuple #[]) (tB bb (seS s) { v with k:=kv,r:=rv } r q w::tMo om (seS s).members L) h') :
  Zb prog 79 [.pointer (some ⟨bb,0,none⟩)] (tB bb s v r q w::tMo om s.members L) h K:=by
 obtain⟨vp,vm,ve,vx,vo,vd,vt,vk,vr⟩:=v;simp only at hm hk0 hr0 hk ⊢;subst hm;have hml:=ti.ml;have hep:=ti.ep;obtain⟨n,hn⟩:∃n,n=s.members.length:=⟨_,rfl⟩
 rw[← hn]at hk ⊢;obtain⟨ql,q1,q2⟩:=hr0;have hql:ql.length=s.ring.length:=by rw[← q2,UB]
 refine Z4 func79 rfl (rs:=[]) rfl rfl ZY (by kernel_rfl) rfl rfl fun ap nd=>?_;have hbb:h bb=noC:=ap.1;have hbm:apO om [] h:=Y1 ap.2;have nmb:apB om bb:=YH nd.1;clear ap nd;refine xx ?_;refine Z6 fun bx n_bx h_bx=>?_;(try simp only[ZU]at n_bx);have nbx:=n_bx.1;have nmx:apB om bx:=YH n_bx.2;refine xx ?_;refine Zb.fin (Zb.weaken (Za.perm h perm2m) ?_);refine VO (cl:=165) (cap:=[.pointer (some ⟨bx,0,none⟩)]) (bb:=bb) (om:=om) (w:=w) (n:=n) (γ:=Nat) (fun j x=>x=j∧j≤n) (fun k=>Zrk s k) (fun _=>⟨vp,ovs om n,ve,vx,vo,vd,vt,vk,vr⟩) (fun _=>r) (fun _=>q) (fun _=>tX bx bb::L) (fun _=>h) 0 (by omega) (by rw[hn];exact okm) ?_ nmb ?_ ?_ ?_ ?_
 ·rintro k x ⟨rfl,e2⟩;exact⟨rfl,by rw[hn];exact Vd _ _ _,hbb,hbm⟩
 ·rintro bm cm rfl k x d1 ⟨rfl,e2⟩ d2;have hat:=Zbg (Zaa s.par) s.members (k:=x) (by omega);have d3:Zbv (gr ZS s.members x):=by rw[← hat];exact d2
  have hl:(Zrk s x).members.length=s.members.length:=Vd _ _ _;refine Yic (s:=Zrk s x) ti.ok.p ti.r (Zmj Zg (fun m hm=>Zpe ti.ok.p ti.r hm) ti.be.m x (by omega)) x (by omega) (by omega) ⟨x+1,⟨rfl,by omega⟩,?_⟩;rw[Yqw (by omega) d3];exact Za.refl _ _
 ·rintro k x d1 ⟨rfl,e2⟩ d2;have hat:=Zbg (Zaa s.par) s.members (k:=x) (by omega);have d3:¬Zbv (gr ZS s.members x):=fun d=>d2 (by show Zbv (gr ZS (upN (Zaa s.par) s.members x) x);rw[hat];exact d);refine⟨x+1,⟨rfl,by omega⟩,?_⟩;rw[Yyg (by omega) d3];exact Za.refl _ _
 ·exact⟨rfl,Nat.zero_le _⟩
 rintro k ⟨e1,e2⟩;subst e1;refine⟨_,_,Za.perm h perm2m.symm,?_⟩;have eS:seS s={ Zrk s k with ring:=Zle s.ring s.marks,marks:=List.replicate 16 0,ep:=s.ep+1 }:=by rw[hn];rfl
 rw[eS]at hk;obtain⟨S1,hS1⟩:∃S1,S1=(Zrk s k).members:=⟨_,rfl⟩
 have eK:Zrk s k={ s with members:=S1 }:=by rw[hS1];rfl
 rw[eK]at hk ⊢;simp only at hk ⊢;clear eS eK;refine xx ?_;refine Yr (.tkl 0 (.tkl 1 (.tk 2 (.tk 3 (.tk 4 (.tkl 5 (.tkl 6 (.tk 7 (.tk 8 (.tk 9 (.tkl 10 (.o1 11 (.tk 12 (.tk 13 (.tk 14 (.o2 15 (.fin) (.nil))))) (.nil))))))))))))) (by kernel_rfl) (by kernel_rfl) _ (Za.refl _ _) ?_;refine xx ?_;refine Zb.ap (Yji (l:=ql) (marks:=s.marks) _ _ q1 hk0 (by omega) (by rw[q2];exact hrb) hml2 fun h1 rv q3 le1 i1 j1 ap=>?_);have hbx1:h1 bx=noC:=ap.1;have hbb1:h1 bb=noC:=ap.2.1;clear ap;have i10:=i1;obtain⟨ra,rc,rfl,_⟩:=i1.open
 first
 | refine xkp (Za.forget le1) ?_
 | skip
 refine xx ?_;refine Yr (.tkl 0 (.o1 1 (.tk 2 (.tk 3 (.tk 4 (.o2 5 (.fin) (.nil))))) (.nil))) (by kernel_rfl) (by kernel_rfl) _ (Za.refl _ _) ?_;refine xx ?_;refine Zb.ap (Zmo fun h2 kv le2 i2 ap=>?_);have hbx2:h2 bx=noC:=ap.1;have hbb2:h2 bb=noC:=ap.2.1;clear ap;have i20:=i2;obtain⟨ka,kc,rfl,_⟩:=i2.open
 first
 | refine xkp (Za.forget le2) ?_
 | skip
 refine xx ?_;rw[q2]at j1;exact ZP (ZO (hk h2 _ _ (le1.trans le2) i20 ⟨q3,i10.up le2,j1⟩))
theorem Zrm {P:Program}{m:Sem Value}(hx:Zgz P m L h (fun v L' h'=>fin K v L' h') ⟨⟩):Zgz P m L h K ⟨⟩:=fun W hg=>by
 obtain⟨r,L',h',W',hr,⟨L2,h2,hd,hk⟩,st⟩:=hx W hg;obtain⟨g,f⟩:=hd W' st.1
 exact⟨r,L2,h2,W',hr,hk,g,st.2.1,fun e he=>by
  obtain⟨e',he',hb⟩:=List.mem_map.1 (f e he)
  rw[← hb];exact st.2.2 e' he'⟩
theorem two_perm6 {e sz e2 sz2:Nat}{o o2:Option (Nat×Nat)}{xs ys:List Value}{a b c d x y:Zo}{L:Own}:(a::b::c::d::x::y::oent e sz o xs (oent e2 sz2 o2 ys L)).Perm (oent e2 sz2 o2 ys (a::b::c::d::x::y::oent e sz o xs L)):=Zik [a,b,c,d,x,y]
theorem two_perm7 {e sz e2 sz2:Nat}{o o2:Option (Nat×Nat)}{xs ys:List Value}{a b c d x y z:Zo}{L:Own}:(a::b::c::d::x::y::z::oent e sz o xs (oent e2 sz2 o2 ys L)).Perm (oent e2 sz2 o2 ys (a::b::c::d::x::y::z::oent e sz o xs L)):=Zik [a,b,c,d,x,y,z]
abbrev whB (b5:Nat)(o:Option (Nat×Nat))(n:Nat):Zo:=⟨b5,32,[ovs o n],1⟩
abbrev Yjf (b6:Nat)(o:Option (Nat×Nat))(n:Nat):Zo:=⟨b6,231,[ovs o n],1⟩
theorem Yuk {a b c d e:Zo}{L:Own}{h:PH}:Za (a::b::c::d::e::L) h [a,b,c,d,e] h:=drop_left [a,b,c,d,e] L h
theorem Ymk {x a b c d e:Zo}{L:Own}{h:PH}:Za (x::a::b::c::d::e::L) h [a,b,c,d,e] h:=(Za.tail _ _ _).trans Yuk
theorem Yyz {x y a b c d e:Zo}{L:Own}{h:PH}:Za (x::y::a::b::c::d::e::L) h [a,b,c,d,e] h:=(Za.tail _ _ _).trans Ymk
theorem Zzq (m:Zc):∀u∈sdC m,u.oneCell'=true:=fun u hu=>by
 simp only[sdC,List.mem_cons,List.not_mem_nil,or_false]at hu;rcases hu with rfl|rfl|rfl|rfl<;>rfl
theorem Yjj {bb bm cm bx b5 b6:Nat}{ow ol:Option (Nat×Nat)}{s:Zf}{v:SV}{r:Zk}{q:RV}{w:Int}{N:Nat}{W Z:List Value}(hk0:Ints h .u8 v.k s.marks)(i:Nat)(hi:i<s.members.length)(hml:s.members.length≤900)
    (hN:N≤900) (okw:okO ow N) (hW:W.length=N) (okl:okO ol N) (hZ:Z.length=N*4)
    (hk:Vs s.marks i=true→∀ow' ol',okO ow' (N+1)→okO ol' (N+1)→K (.tuple #[]) (tB bb s v r q w::tM bm cm s.members::tX bx bb::whB b5 ow' (N+1)::Yjf b6 ol' (N+1)::oent 3 1 ow' (W++[.int .i64 i]) (oent 71 4 ol' (Z++sdC (gr ZS s.members i)) L)) h)
    (hno:Vs s.marks i=false→K (.tuple #[]) (tB bb s v r q w::tM bm cm s.members::tX bx bb::whB b5 ow N::Yjf b6 ol N::oent 3 1 ow W (oent 71 4 ol Z L)) h) :
    Zb prog 145 [.int .i64 i,.pointer (some ⟨bm,i*6,none⟩),.pointer (some ⟨bx,0,none⟩),.pointer (some ⟨b5,0,none⟩),.pointer (some ⟨b6,0,none⟩)] (tB bb s v r q w::tM bm cm s.members::tX bx bb::whB b5 ow N::Yjf b6 ol N::oent 3 1 ow W (oent 71 4 ol Z L)) h K:=by
  refine Z4 func145 rfl (rs:=[]) rfl rfl ZY (by kernel_rfl) rfl rfl fun ap nd=>?_;have hbb:h bb=noC:=ap.1;have hbm:h bm=noC:=ap.2.1;have hbx:h bx=noC:=ap.2.2.1;have hb5:h b5=noC:=ap.2.2.2.1;have hb6:h b6=noC:=ap.2.2.2.2.1;have ebm:NeB bb bm:=Ne.symm nd.1.1;have ebx:NeB bb bx:=Ne.symm nd.1.2.1;have eb5:NeB bb b5:=Ne.symm nd.1.2.2.1;have eb6:NeB bb b6:=Ne.symm nd.1.2.2.2.1;have emx:NeB bm bx:=Ne.symm nd.2.1.1;have em5:NeB bm b5:=Ne.symm nd.2.1.2.1;have em6:NeB bm b6:=Ne.symm nd.2.1.2.2.1;have ex5:NeB bx b5:=Ne.symm nd.2.2.1.1;have ex6:NeB bx b6:=Ne.symm nd.2.2.1.2.1;have e56:NeB b5 b6:=Ne.symm nd.2.2.2.1.1;clear ap nd;obtain⟨g0,g1,g2,g3,g4,g5⟩:=Zuh hi;have hi6:=Wv (w:=6) hi (show 3<6 by decide);have hsum:=Yea (ms:=s.members) rfl;refine xx ?_;refine Zah hk0 i (by omega) ?_
  cases c:Vs s.marks i with
  | false =>
    have hno:=hno c;refine xx ?_;exact ZO hno
  | true =>
  have hk:=hk c;clear hno;refine xx ?_;obtain⟨m,hm⟩:∃m,m=gr ZS s.members i:=⟨_,rfl⟩
  rw[← hm]at hk g0 g1 g2 g3;simp only[tB,tM]at hk ⊢;obtain⟨C,hC⟩:∃C,C=tC s v r q w:=⟨_,rfl⟩
  rw[← hC]at hk
  first
  | rw[← hC]
  | (simp only [tC] at hC
     rw[← hC])
  clear hC
  refine Wr (.tk 1 (.tk 5 (.tk 6 (.tk 7 (.tkl 0 (.o1 2 (.o1 3 (.o1 4 (.o1 8 (.o1 9 (.o1 10 (.o2 11 (.o2 12 (.fin) (.nil)) (.nil)) (.nil)) (.nil)) (.nil)) (.o1 8 (.o1 4 (.o1 9 (.o1 10 (.o2 11 (.o2 12 (.fin) (.nil)) (.nil)) (.nil)) (.nil)) (.o1 9 (.o1 4 (.o1 10 (.o2 11 (.o2 12 (.fin) (.nil)) (.nil)) (.nil)) (.nil)) (.nil))) (.nil))) (.o1 4 (.o1 3 (.o1 8 (.o1 9 (.o1 10 (.o2 11 (.o2 12 (.fin) (.nil)) (.nil)) (.nil)) (.nil)) (.nil)) (.o1 8 (.o1 3 (.o1 9 (.o1 10 (.o2 11 (.o2 12 (.fin) (.nil)) (.nil)) (.nil)) (.nil)) (.o1 9 (.o1 3 (.o1 10 (.o2 11 (.o2 12 (.fin) (.nil)) (.nil)) (.nil)) (.nil)) (.nil))) (.nil))) (.o1 8 (.o1 3 (.o1 4 (.o1 9 (.o1 10 (.o2 11 (.o2 12 (.fin) (.nil)) (.nil)) (.nil)) (.nil)) (.o1 9 (.o1 4 (.o1 10 (.o2 11 (.o2 12 (.fin) (.nil)) (.nil)) (.nil)) (.nil)) (.nil))) (.o1 4 (.o1 3 (.o1 9 (.o1 10 (.o2 11 (.o2 12 (.fin) (.nil)) (.nil)) (.nil)) (.nil)) (.o1 9 (.o1 3 (.o1 10 (.o2 11 (.o2 12 (.fin) (.nil)) (.nil)) (.nil)) (.nil)) (.nil))) (.o1 9 (.o1 3 (.o1 4 (.o1 10 (.o2 11 (.o2 12 (.fin) (.nil)) (.nil)) (.nil)) (.nil)) (.o1 4 (.o1 3 (.o1 10 (.o2 11 (.o2 12 (.fin) (.nil)) (.nil)) (.nil)) (.nil)) (.nil))) (.nil)))) (.nil)))) (.o1 4 (.o1 2 (.o1 3 (.o1 8 (.o1 9 (.o1 10 (.o2 11 (.o2 12 (.fin) (.nil)) (.nil)) (.nil)) (.nil)) (.nil)) (.o1 8 (.o1 3 (.o1 9 (.o1 10 (.o2 11 (.o2 12 (.fin) (.nil)) (.nil)) (.nil)) (.nil)) (.o1 9 (.o1 3 (.o1 10 (.o2 11 (.o2 12 (.fin) (.nil)) (.nil)) (.nil)) (.nil)) (.nil))) (.nil))) (.o1 8 (.o1 2 (.o1 3 (.o1 9 (.o1 10 (.o2 11 (.o2 12 (.fin) (.nil)) (.nil)) (.nil)) (.nil)) (.o1 9 (.o1 3 (.o1 10 (.o2 11 (.o2 12 (.fin) (.nil)) (.nil)) (.nil)) (.nil)) (.nil))) (.o1 9 (.o1 2 (.o1 3 (.o1 10 (.o2 11 (.o2 12 (.fin) (.nil)) (.nil)) (.nil)) (.nil)) (.nil)) (.nil))) (.nil))) (.o1 8 (.o1 2 (.o1 3 (.o1 4 (.o1 9 (.o1 10 (.o2 11 (.o2 12 (.fin) (.nil)) (.nil)) (.nil)) (.nil)) (.o1 9 (.o1 4 (.o1 10 (.o2 11 (.o2 12 (.fin) (.nil)) (.nil)) (.nil)) (.nil)) (.nil))) (.o1 4 (.o1 3 (.o1 9 (.o1 10 (.o2 11 (.o2 12 (.fin) (.nil)) (.nil)) (.nil)) (.nil)) (.o1 9 (.o1 3 (.o1 10 (.o2 11 (.o2 12 (.fin) (.nil)) (.nil)) (.nil)) (.nil)) (.nil))) (.o1 9 (.o1 3 (.o1 4 (.o1 10 (.o2 11 (.o2 12 (.fin) (.nil)) (.nil)) (.nil)) (.nil)) (.o1 4 (.o1 3 (.o1 10 (.o2 11 (.o2 12 (.fin) (.nil)) (.nil)) (.nil)) (.nil)) (.nil))) (.nil)))) (.o1 4 (.o1 2 (.o1 3 (.o1 9 (.o1 10 (.o2 11 (.o2 12 (.fin) (.nil)) (.nil)) (.nil)) (.nil)) (.o1 9 (.o1 3 (.o1 10 (.o2 11 (.o2 12 (.fin) (.nil)) (.nil)) (.nil)) (.nil)) (.nil))) (.o1 9 (.o1 2 (.o1 3 (.o1 10 (.o2 11 (.o2 12 (.fin) (.nil)) (.nil)) (.nil)) (.nil)) (.nil)) (.nil))) (.o1 9 (.o1 2 (.o1 3 (.o1 4 (.o1 10 (.o2 11 (.o2 12 (.fin) (.nil)) (.nil)) (.nil)) (.nil)) (.o1 4 (.o1 3 (.o1 10 (.o2 11 (.o2 12 (.fin) (.nil)) (.nil)) (.nil)) (.nil)) (.nil))) (.o1 4 (.o1 2 (.o1 3 (.o1 10 (.o2 11 (.o2 12 (.fin) (.nil)) (.nil)) (.nil)) (.nil)) (.nil)) (.nil))) (.nil)))) (.nil))))))))) (by kernel_rfl) (by kernel_rfl) [(0,.int .i64 i),(1,.pointer (some ⟨bm,i*6,none⟩)),(2,.pointer (some ⟨bx,0,none⟩)),(3,.pointer (some ⟨b5,0,none⟩)),(4,.pointer (some ⟨b6,0,none⟩))] [⟨bb,148,C,56⟩,⟨bm,73,s.members.flatMap YK,cm*6⟩,tX bx bb,whB b5 ow N,Yjf b6 ol N] (γ:=Option (Nat×Nat)×Option (Nat×Nat)) (fun x=>okO x.1 (N+1)∧okO x.2 (N+1)) (fun _=>[])
    (fun x=>⟨bb,148,C,56⟩::⟨bm,73,s.members.flatMap YK,cm*6⟩::tX bx bb::whB b5 x.1 (N+1)::Yjf b6 x.2 (N+1)::oent 3 1 x.1 (W++[.int .i64 i]) (oent 71 4 x.2 (Z++sdC m) L)) (fun _=>h) (by simp [Ent,List.lookup,WM]) (drop_left [_,_,_,_,_] _ _) ?_ ?_
  · repeat' first
      | with_reducible refine YF ?_ ?_
      | simp -dsimp -implicitDefEqProofs (disch:=first|with_reducible assumption|omega) [go_sem,g0,g1,g2,g3]
      | (with_reducible show Zxl _ _ 3 _ _ _
         refine Z6 fun b12 nb12 zb12=>?_;simp only[ZU]at nb12
         first
         | (have e12m : NeB b12 bm := Ne.symm nb12.2.1
            have e125:NeB b12 b5:=Ne.symm nb12.2.2.2.1
            have e126:NeB b12 b6:=Ne.symm nb12.2.2.2.2.1)
         | (have e12m : NeB b12 bm := Ne.symm nb12.2.2.1
            have e125:NeB b12 b5:=Ne.symm nb12.2.2.2.2.1
            have e126:NeB b12 b6:=Ne.symm nb12.2.2.2.2.2.1)
         clear nb12)
      | (with_reducible show Zxl _ _ 71 _ _ _
         refine Z6 fun b19 nb19 zb19=>?_;simp only[ZU]at nb19
         first
         | (have e19m : NeB b19 bm := Ne.symm nb19.2.1
            have e195:NeB b19 b5:=Ne.symm nb19.2.2.2.1
            have e196:NeB b19 b6:=Ne.symm nb19.2.2.2.2.1)
         | (have e19m : NeB b19 bm := Ne.symm nb19.2.2.1
            have e195:NeB b19 b5:=Ne.symm nb19.2.2.2.2.1
            have e196:NeB b19 b6:=Ne.symm nb19.2.2.2.2.2.1)
         clear nb19)
      | (with_reducible show U0 _ _ #[32,_] _ _ _ _ _
         first
         | refine Z8 (t:=32) (e:=3) (sz:=1) (bytes:=8) (z:=[.int .i64 0]) (by kernel_rfl) Zem rfl rfl rfl rfl (by decide) [_,_,_,_,_,_] _ ow N W okw (by omega) (Src.own (b:=b12) (t:=3) (cap:=1) (by first|exact List.mem_cons_self|exact List.mem_cons_of_mem _ List.mem_cons_self)) (m:=1) (news:=[.int .i64 i]) rfl (fun u hu=>by simp at hu;subst hu;rfl) (by simp [maxLen];omega) (by omega) fun ow1 jw1 jw2 jw3=>?_
         | refine Z8 (t:=32) (e:=3) (sz:=1) (bytes:=8) (z:=[.int .i64 0]) (by kernel_rfl) Zem rfl rfl rfl rfl (by decide) [_,_,_,_,_,_,_] _ ow N W okw (by omega) (Src.own (b:=b12) (t:=3) (cap:=1) (by first|exact List.mem_cons_self|exact List.mem_cons_of_mem _ List.mem_cons_self)) (m:=1) (news:=[.int .i64 i]) rfl (fun u hu=>by simp at hu;subst hu;rfl) (by simp [maxLen];omega) (by omega) fun ow1 jw1 jw2 jw3=>?_
         simp only[List.cons_append,List.nil_append])
      | (with_reducible show U0 _ _ #[231,_] _ _ _ _ _
         first
         | refine Zrm (Gq (Za.perm _ two_perm7) (Z8 (t:=231) (e:=71) (sz:=4) (bytes:=32) (by kernel_rfl) Yqn rfl rfl rfl rfl (by decide) [] _ ol N Z okl hZ (Src.own (b:=b19) (t:=71) (cap:=4) (V4 (by first|exact List.mem_cons_self|exact List.mem_cons_of_mem _ List.mem_cons_self))) (m:=1) (news:=sdC m) rfl (Zzq m) (by simp [maxLen];omega) (by omega) fun ol1 jl1 jl2 jl3=>⟨_,_,Za.perm _ two_perm7.symm,?_⟩))
         | refine Zrm (Gq (Za.perm _ two_perm6) (Z8 (t:=231) (e:=71) (sz:=4) (bytes:=32) (by kernel_rfl) Yqn rfl rfl rfl rfl (by decide) [] _ ol N Z okl hZ (Src.own (b:=b19) (t:=71) (cap:=4) (V4 (by first|exact List.mem_cons_self|exact List.mem_cons_of_mem _ List.mem_cons_self))) (m:=1) (news:=sdC m) rfl (Zzq m) (by simp [maxLen];omega) (by omega) fun ol1 jl1 jl2 jl3=>⟨_,_,Za.perm _ two_perm6.symm,?_⟩)))
      | with_reducible refine xkp Yuk ?_
      | with_reducible refine xkp Ymk ?_
      | with_reducible refine xkp Yyz ?_
      | fail
    all_goals exact⟨ow1,ol1,⟨jw1,jl1⟩,by simp [Ent],(Za.tail _ _ _).trans (Za.tail _ _ _)⟩
  rintro⟨ow1,ol1⟩ ⟨jw1,jl1⟩;simp only at jw1 jl1 ⊢;refine xx ?_;exact ZO (hk ow1 ol1 jw1 jl1)
theorem dropG {e0 s0 e sz e2 sz2:Nat}{o0 o o2:Option (Nat×Nat)}{X0 xs ys:List Value}{a c d x y:Zo}{L:Own}{h:PH}(h1:e≠4294967295)(h2:e2≠4294967295) :
  Za (a::oent e0 s0 o0 X0 (c::d::x::oent e sz o xs (oent e2 sz2 o2 ys (y::L)))) h (a::c::d::x::oent e0 s0 o0 X0 L) (GG (GG h o xs) o2 ys):=by
 have q1:∀ {e sz:Nat} {o:Option (Nat×Nat)} {xs:List Value} {R:Own},(a::oent e0 s0 o0 X0 (c::d::x::oent e sz o xs R)).Perm (oent e sz o xs (a::oent e0 s0 o0 X0 (c::d::x::R))):=fun {e sz o xs R} =>
  (List.Perm.cons _ ((Yf o0 X0 (Yv [c,d,x])).trans (YL o0 o X0 xs _))).trans oent_perm
 have q2:(a::oent e0 s0 o0 X0 (c::d::x::y::L)).Perm (y::a::c::d::x::oent e0 s0 o0 X0 L):=by
  have r1:(oent e0 s0 o0 X0 (c::d::x::y::L)).Perm (c::d::x::y::oent e0 s0 o0 X0 L):=(Yv [c,d,x,y]).symm;refine(List.Perm.cons _ r1).trans ?_;exact List.perm_middle (l₁:=[a,c,d,x])
 exact(Za.perm h q1).trans ((Wi o xs _ h h1).trans ((Za.perm _ q1).trans ((Wi o2 ys _ _ h2).trans ((Za.perm _ q2).trans (Za.tail _ _ _)))))
theorem ap_G {e0 s0 e sz e2 sz2:Nat}{o0 o o2:Option (Nat×Nat)}{X0 xs ys:List Value}{a c d x y:Zo}{L:Own}{h:PH}(ap:Ap (a::oent e0 s0 o0 X0 (c::d::x::oent e sz o xs (oent e2 sz2 o2 ys (y::L)))) h)(nd:Nd (a::oent e0 s0 o0 X0 (c::d::x::oent e sz o xs (oent e2 sz2 o2 ys (y::L))))):apO o [] h∧apO o2 [] (GG h o xs):=by
 have a1:Ap (oent e sz o xs (oent e2 sz2 o2 ys (y::L))) h:=(Ap.oent ap.2).2.2.2;have n1:Nd (oent e sz o xs (oent e2 sz2 o2 ys (y::L))):=by
  have n0:Nd (c::d::x::oent e sz o xs (oent e2 sz2 o2 ys (y::L))):=by
   have:=nd.2
   cases o0 with
   | none=>exact this
   | some p=>exact this.2
  exact n0.2.2.2
 have h2:apO o2 [] h:=Y1 (Ap.oent a1);refine⟨Y1 a1,?_⟩
 cases o2 with
 | none=>trivial
 | some p2 =>
  refine⟨trivial,?_⟩
  cases o with
  | none=>exact h2.2
  | some p=>exact GJ (o:=some p) (Ne.symm n1.1.1) h2.2
theorem Zhf {s:Zf}{k:Nat}:mtL s (k+1)=if Zbu (gr ZS s.members k)&&Vs s.marks k then mtL s k++[gr ZS s.members k] else mtL s k:=by
 unfold mtL;rw[Zcd];split
 ·rw[List.map_append];rfl
 ·rfl
def Zex (s:Zf)(k:Nat):List Int:=(thI s.members s.marks k).map fun i:Nat=>(i:Int)
theorem Zds {s:Zf}{k:Nat}:Zex s (k+1)=if Zbu (gr ZS s.members k)&&Vs s.marks k then Zex s k++[(k:Int)] else Zex s k:=by
 unfold Zex;rw[Zcd];split
 ·rw[List.map_append];rfl
 ·rfl
theorem Zby (s:Zf)(k:Nat):(Zex s k).length=(mtL s k).length∧(mtL s k).length≤k∧(mtL s k).length=(thI s.members s.marks k).length:=by
 have:=Zcx s.members s.marks k;unfold Zex mtL;rw[List.length_map,List.length_map];exact⟨rfl,this,rfl⟩
theorem Zom {bb bx b5 b6 D:Nat}{om:Option (Nat×Nat)}{y:Zo}{s:Zf}{v:SV}{r:Zk}{q:RV}{w:Int}(ti:Zt s D)(hk0:Ints h .u8 v.k s.marks)(hm:v.m=ovs om s.members.length)(okm:okO om s.members.length)(hbb:h bb=noC)(hbm:apO om [] h)(nmb:apB om bb)
  (hk:∀ow ol,okO ow (mtW s).length→okO ol (mtW s).length→K (.tuple #[]) (tB bb s v r q w::tMo om s.members (tX bx bb::whB b5 ow (mtW s).length::Yjf b6 ol (mtW s).length::oent 3 1 ow ((Zex s s.members.length).map (.int .i64)) (oent 71 4 ol ((mtL s s.members.length).flatMap sdC) (y::L)))) h) :
  Zb prog 139 [.pointer (some ⟨bb,0,none⟩),.func (.func 145) #[] #[.pointer (some ⟨bx,0,none⟩),.pointer (some ⟨b5,0,none⟩),.pointer (some ⟨b6,0,none⟩)]]
   (tB bb s v r q w::tMo om s.members (tX bx bb::whB b5 none 0::Yjf b6 none 0::y::L)) h K:=by
 have hml:=ti.ml;obtain⟨n,hn⟩:∃n,n=s.members.length:=⟨_,rfl⟩
 have eW:(mtW s).length=(mtL s n).length:=by rw[(Zby s n).2.2,hn];rfl
 rw[← hn,eW]at hk;refine VO (cl:=145) (cap:=[.pointer (some ⟨bx,0,none⟩),.pointer (some ⟨b5,0,none⟩),.pointer (some ⟨b6,0,none⟩)]) (bb:=bb) (om:=om) (w:=w) (n:=n) (γ:=Nat×Option (Nat×Nat)×Option (Nat×Nat)) (fun j x=>x.1=j∧j≤n∧okO x.2.1 (mtL s x.1).length∧okO x.2.2 (mtL s x.1).length) (fun _=>s) (fun _=>v) (fun _=>r) (fun _=>q)
  (fun x=>tX bx bb::whB b5 x.2.1 (mtL s x.1).length::Yjf b6 x.2.2 (mtL s x.1).length::oent 3 1 x.2.1 ((Zex s x.1).map (.int .i64)) (oent 71 4 x.2.2 ((mtL s x.1).flatMap sdC) (y::L))) (fun _=>h) (0,none,none) (by omega) (by rw[hn];exact okm) ?_ nmb ?_ ?_ ?_ ?_
 ·rintro k x ⟨e1,e2,e3,e4⟩;exact⟨by rw[hn];exact hm,hn.symm,hbb,hbm⟩
 ·rintro bm cm rfl k ⟨x,ow,ol⟩ d1 ⟨rfl,e2,e3,e4⟩ d2;simp only at d1 e2 e3 e4 d2 ⊢;obtain⟨l1,l2,l3⟩:=Zby s x;have hc:Zbu (gr ZS s.members x)=true:=by simpa [Zbu] using d2
  refine Yjj (W:=(Zex s x).map (.int .i64)) (Z:=(mtL s x).flatMap sdC) hk0 x (by omega) (by omega) (by omega) e3 (by rw[List.length_map,l1]) e4 (Z3 Zol _) (fun g ow1 ol1 j1 j2=>?_) (fun g=>?_)
  ·have s1:=Zhf (s:=s) (k:=x);have s2:=Zds (s:=s) (k:=x);rw[hc,g,if_pos (by decide)]at s1 s2;have s3:(mtL s (x+1)).length=(mtL s x).length+1:=by rw[s1,List.length_append];rfl
   refine⟨(x+1,ow1,ol1),⟨rfl,by omega,by rw[s3];exact j1,by rw[s3];exact j2⟩,?_⟩;simp only;rw[s3,s1,s2,List.map_append,List.flatMap_append];simp only[List.map_cons,List.map_nil,List.flatMap_cons,List.flatMap_nil,List.append_nil];exact Za.refl _ _
  ·have s1:=Zhf (s:=s) (k:=x);have s2:=Zds (s:=s) (k:=x);rw[hc,g,if_neg (by decide)]at s1 s2;refine⟨(x+1,ow,ol),⟨rfl,by omega,by rw[s1];exact e3,by rw[s1];exact e4⟩,?_⟩;simp only;rw[s1,s2];exact Za.refl _ _
 ·rintro k ⟨x,ow,ol⟩ d1 ⟨rfl,e2,e3,e4⟩ d2;simp only at d1 e2 e3 e4 d2 ⊢;have hc:Zbu (gr ZS s.members x)=false:=by simpa [Zbu] using d2
  have s1:=Zhf (s:=s) (k:=x);have s2:=Zds (s:=s) (k:=x);rw[hc,Bool.false_and,if_neg (by decide)]at s1 s2;refine⟨(x+1,ow,ol),⟨rfl,by omega,by rw[s1];exact e3,by rw[s1];exact e4⟩,?_⟩;simp only;rw[s1,s2];exact Za.refl _ _
 ·exact⟨rfl,Nat.zero_le _,rfl,rfl⟩
 ·rintro⟨x,ow,ol⟩ ⟨e1,e2,e3,e4⟩;simp only at e1 e2 e3 e4 ⊢;subst e1;exact hk ow ol e3 e4
theorem Zsf (s:Zf)(r:Zk)(k:Nat):mtX s r (k+1)=Ju s.par ((mtW s).getD k 0) (at0 (mtP s r) k) (mtX s r k):=rfl
theorem Yqz {s:Zf}{k:Nat}(hk:k<(mtW s).length):at0 (Zex s s.members.length) k=((mtW s).getD k 0:Nat):=by
 have h1:(Zex s s.members.length).length=(mtW s).length:=by unfold Zex mtW;rw[List.length_map]
 rw[← Yx (by omega)];simp only[Zex,List.getElem_map];rw[List.getD_eq_getElem?_getD,List.getElem?_eq_getElem hk]
 rfl
theorem Yni {s:Zf}{r:Zk}{D:Nat}(ti:Zt s D)(ha:0≤r.act∧r.act≤18446744073709551615){k:Nat}(hk:k<(mtW s).length){i:Nat}(hi:i=(mtW s).getD k 0){m:Zc}(hm:m=gr ZS (mtX s r k).1 i){a:Int}(haa:a=at0 (mtP s r) k) :
  i<s.members.length∧i<(mtX s r k).1.length∧Zg m∧(0≤m.owner∧m.owner<s.purses.length)∧(mtX s r k).2.length=s.purses.length∧(0≤a∧a≤4611686018427387904)∧at0 (mtX s r k).2 m.owner.toNat+(Jq s.par m a).2≤4611686018427387904∧0≤(Jq s.par m a).2∧(0≤s.treas+mtN s r-YP (mtP s r) k-a∧s.treas+mtN s r-YP (mtP s r) k≤4611686018427387904)∧(0≤YP (mtP s r) k∧YP (mtP s r) k+a≤4611686018427387904) ∧
  (mtX s r (k+1)).1=(mtX s r k).1.set i (Jq s.par m a).1∧(mtX s r (k+1)).2=(mtX s r k).2.set m.owner.toNat (at0 (mtX s r k).2 m.owner.toNat+(Jq s.par m a).2)∧YP (mtP s r) (k+1)=YP (mtP s r) k+a∧(Jq s.par m a).1.owner=m.owner:=by
 have h0:=Yzm ti ha (k:=k) (by omega);have h1:=Zqr ti ha (k:=k) (by omega);have h2:=Zqr ti ha (k:=k+1) (by omega);have hw:i<s.members.length:=by
  rw[hi,List.getD_eq_getElem?_getD,List.getElem?_eq_getElem hk,Option.getD_some];exact Ykb _ (List.getElem_mem hk)
 have hi2:i<(mtX s r k).1.length:=by rw[h0.l1];exact hw
 obtain⟨mo,o1,o2⟩:=h0.b.at hi2;rw[← hm]at mo o1 o2;have hn:=Wgu ti ha;obtain⟨p1,p2,p3⟩:=Wct ti ha;have pa:=p1 k;rw[← haa]at pa;have ht:=ti.top;have hgm:0≤s.gen+s.mint:=by
  have u1:=ti.ok.u s.gen (by simp);have u2:=ti.ok.u s.mint (by simp);omega
 have hl2:(mtX s r k).2.length=s.purses.length:=h0.l2;rw[hl2]at o2;obtain⟨g1,g2,g3,g4,g5,g6⟩:=Ydq ti.ok.p mo pa.1;have e1:(mtX s r (k+1)).1=(mtX s r k).1.set i (Jq s.par m a).1:=by rw[Zsf,← hi,← haa,hm];rfl
 have e2:(mtX s r (k+1)).2=(mtX s r k).2.set m.owner.toNat (at0 (mtX s r k).2 m.owner.toNat+(Jq s.par m a).2):=by rw[Zsf,← hi,← haa,hm];rfl
 have e3:YP (mtP s r) (k+1)=YP (mtP s r) k+a:=by rw[YP,← haa]
 have q1:=h1.parts;have q2:=h2.parts;have s1:=h1.sum;have s2:=h2.sum;have t1:(Zja s r k).treas=s.treas+mtN s r-YP (mtP s r) k:=rfl;have t2:(Zja s r (k+1)).treas=s.treas+mtN s r-YP (mtP s r) (k+1):=rfl;have b1:=(h2.be.le m.owner.toNat).2;have b2:(Zja s r (k+1)).purses=(mtX s r (k+1)).2:=rfl;rw[b2,e2,VF _ _ _ _ (by omega),if_pos rfl]at b1;have b3:tot (Zja s r (k+1)).purses=tot ((mtX s r k).2.set m.owner.toNat (at0 (mtX s r k).2 m.owner.toNat+(Jq s.par m a).2)):=by rw[b2,e2]
 have sk:=p3 k (by omega);have sk1:=p3 (k+1) (by omega);rw[e3]at t2 sk1;exact⟨hw,hi2,mo,⟨o1,o2⟩,hl2,⟨pa.1,by omega⟩,by omega,g4,⟨by omega,by omega⟩,⟨sk.1,by omega⟩,e1,e2,e3,g2⟩
theorem permM {e0 s0:Nat}{o0:Option (Nat×Nat)}{X0:List Value}{a b c d x:Zo}{L:Own}:(a::b::c::d::x::oent e0 s0 o0 X0 L).Perm (x::oent e0 s0 o0 X0 (d::b::a::c::L)):=by
 have h1:(a::b::c::d::x::oent e0 s0 o0 X0 L).Perm (x::a::b::c::d::oent e0 s0 o0 X0 L):=List.perm_middle (l₁:=[a,b,c,d]);refine h1.trans (List.Perm.cons _ ?_);have h2:(a::b::c::d::L).Perm (d::a::b::c::L):=List.perm_middle (l₁:=[a,b,c]);exact(Yv [a,b,c,d]).trans (Yf o0 X0 (h2.trans (List.Perm.cons _ (List.Perm.swap _ _ _))))
theorem Yec {s:Zf}{r:Zk}{k:Nat}{i:Nat}{m:Zc}{a:Int}(e1:(mtX s r (k+1)).1=(mtX s r k).1.set i (Jq s.par m a).1)(e2:(mtX s r (k+1)).2=(mtX s r k).2.set m.owner.toNat (at0 (mtX s r k).2 m.owner.toNat+(Jq s.par m a).2))(e3:YP (mtP s r) (k+1)=YP (mtP s r) k+a) :
  Zja s r (k+1)={ Zja s r k with treas:=(Zja s r k).treas-a,members:=(mtX s r k).1.set i (Jq s.par m a).1,purses:=(mtX s r k).2.set m.owner.toNat (at0 (mtX s r k).2 m.owner.toNat+(Jq s.par m a).2) }∧Ylj s r (k+1)={ Ylj s r k with paid:=(Ylj s r k).paid+a }:=by
 constructor
 ·show ({ s with mint:=s.mint+mtN s r,treas:=s.treas+mtN s r-YP (mtP s r) (k+1),members:=(mtX s r (k+1)).1,purses:=(mtX s r (k+1)).2 }:Zf)={ s with mint:=s.mint+mtN s r,treas:=s.treas+mtN s r-YP (mtP s r) k-a,members:=(mtX s r k).1.set i (Jq s.par m a).1,purses:=(mtX s r k).2.set m.owner.toNat (at0 (mtX s r k).2 m.owner.toNat+(Jq s.par m a).2) };rw[e1,e2,e3,Int.sub_sub]
 ·show ({ r with mint:=mtN s r,paid:=r.paid+YP (mtP s r) (k+1) }:Zk)={ r with mint:=mtN s r,paid:=r.paid+YP (mtP s r) k+a };rw[e3,Int.add_assoc]
theorem Yeq {bb D:Nat}{om:Option (Nat×Nat)}{s:Zf}{v:SV}{r:Zk}{q:RV}{w:Int}(ti:Zt s D)(ha:0≤r.act∧r.act≤18446744073709551615)(hp0:r.paid=0)(hv:Ypg v)(hp:Ints h .u64 v.p s.purses)(hk0:Ints h .u8 v.k s.marks)(hm:v.m=ovs om s.members.length)(okm:okO om s.members.length)
  (hk:∀h' pv,PH.le h h'→Ints h' .u64 pv (mtS s r).purses→K (.tuple #[]) (tB bb (mtS s r) { v with p:=pv } (mtR s r) q w::tMo om (mtS s r).members L) h') :
  Zb prog 72 [.pointer (some ⟨bb,0,none⟩)] (tB bb s v r q w::tMo om s.members L) h K:=by
 obtain⟨vp,vm,ve,vx,vo,vd,vt,vk,vr⟩:=v;simp only at hm hk0 hp hk ⊢;subst hm;have hml:=ti.ml;have ht:=ti.top;have u1:=ti.ok.u s.gen (by simp);have u2:=ti.ok.u s.mint (by simp);have u3:=ti.ok.u s.most (by simp);have u4:=ti.ok.u s.treas (by simp);have hn:=Wgu ti ha;have hsum:=ti.sum;obtain⟨p1,p2,p3,p4,p5,p6⟩:=ti.parts;obtain⟨n,en⟩:∃n,n=mtN s r:=⟨_,rfl⟩
 have hv1:=hv;unfold Ypg at hv1;simp only at hv1;obtain⟨o1,o2,o3,o4,o5,o6,o7,o8,o9⟩:=hv1;refine Z4 func72 rfl (rs:=[]) rfl rfl ZY (by kernel_rfl) rfl rfl fun ap nd=>?_;have hbb:h bb=noC:=ap.1;have hbm:apO om [] h:=Y1 ap.2;have nmb:apB om bb:=YH nd.1;clear ap nd;refine xx ?_;refine Z6 fun bx n_bx h_bx=>?_;(try simp only[ZU]at n_bx);have nbx:=n_bx.1;have nmx:apB om bx:=YH n_bx.2;clear n_bx;refine xx ?_;refine Yr (.tkl 0 (.tk 1 (.tk 2 (.tk 3 (.tkl 4 (.tkl 5 (.tk 6 (.tk 7 (.tk 8 (.tkl 9 (.tkl 10 (.tk 11 (.tk 12 (.tk 13 (.tkl 14 (.tkl 15 (.tk 16 (.tk 17 (.tk 18 (.tkl 19 (.tk 20 (.tkl 21 (.tk 22 (.tk 23 (.tk 24 (.tkl 25 (.tkl 26 (.tk 27 (.tk 28 (.tk 29 (.tkl 30 (.o1 31 (.tk 32 (.fin)) (.nil))))))))))))))))))))))))))))))))) (by kernel_rfl) (by kernel_rfl) _ (Za.refl _ _) ?_;refine xx ?_;refine Zb.ap (Yaa s.par ti.ok.p ti.r r.act (s.gen+s.mint) s.most r.mode ha (by omega) (by omega) fun h1 le1 ap=>?_);have hbx1:h1 bx=noC:=ap.1;have hbb1:h1 bb=noC:=ap.2.1;have hbm1:apO om [] h1:=Y1 ap.2.2;clear ap;rw[show Znx s.par r.act (s.gen+s.mint) s.most r.mode=n from en.symm];rw[← en]at hn
 first
 | refine xkp (Za.forget le1) ?_
 | skip
 refine xx ?_;refine Zb.ap (Zys (s:=s) ⟨vp,ovs om s.members.length,ve,vx,vo,vd,vt,vk,vr⟩ hv ti.ok n (by omega) (fun _ h2 le2 ap=>?_) (fun hno=>absurd ?_ hno))
 rotate_left
 ·have e:tot [s.gen,s.mint,n]=s.gen+s.mint+n:=by simp [tot,YP,at0]
  refine⟨?_,by omega⟩;rw[e];omega
 have hbx2:h2 bx=noC:=ap.1;have hbb2:h2 bb=noC:=ap.2.1;have hbm2:apO om [] h2:=Y1 ap.2.2;clear ap;refine xx ?_;refine Z6 fun b3 nb3 zb3=>?_;(try simp only[ZU]at nb3);have n3x:=nb3.1;have n3b:=nb3.2.1;clear nb3;obtain⟨V,eV⟩:∃V:SV,V=⟨vp,ovs om s.members.length,ve,vx,vo,vd,vt,vk,vr⟩:=⟨_,rfl⟩
 simp -dsimp -implicitDefEqProofs (disch:=first|with_reducible assumption|omega) [go_sem,o1,o2,o3,o4,o5,o6,o7,o8,o9];refine Wr (.tk 3 (.tkl 0 (.tkl 2 (.tk 4 (.tk 5 (.o1 1 (.o2 6 (.tk 7 (.tk 8 (.tk 9 (.o2 10 (.fin) (.nil))))) (.nil)) (.o2 6 (.o1 1 (.tk 7 (.tk 8 (.tk 9 (.o2 10 (.fin) (.nil))))) (.nil)) (.nil)))))))) (by kernel_rfl) (by kernel_rfl) [(1,.pointer (some ⟨bx,0,none⟩)),(2,.int .u64 n),(3,.pointer (some ⟨b3,0,none⟩))] _ (γ:=Unit) (fun _=>True) (fun _=>[(1,.pointer (some ⟨bx,0,none⟩)),(2,.int .u64 n)])
  (fun _=>⟨b3,39,stC (Zoq s n) V,41⟩::tX bx bb::tB bb (Zoq s n) V { r with mint:=n } q w::tMo om s.members L) (fun _=>h2) (by simp [Ent,List.lookup,WM]) (Za.refl _ _) ?_ ?_
 ·subst eV
  repeat' first
   | with_reducible refine YF ?_ ?_
   | simp -dsimp -implicitDefEqProofs (disch:=first|with_reducible assumption|omega) [go_sem,o1,o2,o3,o4,o5,o6,o7,o8,o9]
   | with_reducible refine xkp (Za.refl _ _) ?_
   | fail
  all_goals exact⟨by simp [Ent,List.lookup],Za.refl _ _⟩
 rintro _ _;refine xx ?_;refine Z6 fun b5 nb5 zb5=>?_;(try simp only[ZU]at nb5);have n53:=nb5.1;have n5x:=nb5.2.1;have n5b:=nb5.2.2.1;have n5m:apB om b5:=YH nb5.2.2.2;clear nb5;refine xx ?_;refine Z6 fun b6 nb6 zb6=>?_;(try simp only[ZU]at nb6);have n65:=nb6.1;have n63:=nb6.2.1;have n6x:=nb6.2.2.1;have n6b:=nb6.2.2.2.1;clear nb6;refine xx ?_;have tk0:=Zqr ti ha (Nat.zero_le (mtW s).length);have e0:Zja s r 0=Zoq s n:=by
  rw[en];show ({ s with mint:=s.mint+mtN s r,treas:=s.treas+mtN s r-YP (mtP s r) 0 }:Zf)=_;rw[show YP (mtP s r) 0=0 from rfl,Int.sub_zero]
  rfl
 have e1:Ylj s r 0={ r with mint:=n }:=by
  rw[en];show ({ r with mint:=mtN s r,paid:=r.paid+YP (mtP s r) 0 }:Zk)=_;rw[show YP (mtP s r) 0=0 from rfl,Int.add_zero]
 rw[e0]at tk0;have eWm:(mtW (Zoq s n)).length=(mtW s).length:=rfl;have le12:=le1.trans le2;obtain⟨N,hN⟩:∃N,N=(mtW s).length:=⟨_,rfl⟩
 have hNl:(Zex s s.members.length).length=N∧(mtL s s.members.length).length=N:=by
  have:=Zby s s.members.length;rw[hN];exact⟨by rw[this.1,this.2.2];rfl,this.2.2⟩
 have hN128:N≤128:=by
  have:=(Zby s s.members.length).2.1;omega
 refine Zb.apn (Zb.fin (Zb.weaken (Za.perm _ permM) (Zb.apn (Zom (s:=Zoq s n) (v:=V) (r:={ r with mint:=n }) (bx:=bx) (b5:=b5) (b6:=b6) tk0 (by rw[eV];exact hk0.up le12) (by rw[eV];rfl) okm hbb2 hbm2 nmb fun ow ol j1 j2 ap nd=>⟨_,GG (GG h2 ow ((Zex s s.members.length).map (.int .i64))) ol ((mtL s s.members.length).flatMap sdC),dropG (by decide) (by decide),fun ap2 nd2=>?_⟩))));obtain⟨aw,al⟩:=ap_G ap nd;clear ap nd;rw[eWm,← hN]at j1 j2;have sw:=Vt (h:=h2) (sz:=1) (n:=N) (o:=ow) (xs:=(Zex s s.members.length).map (.int .i64)) j1 (by rw[List.length_map,hNl.1,Nat.mul_one]) (by omega);have sl:=Vt (h:=GG h2 ow ((Zex s s.members.length).map (.int .i64))) (sz:=4) (n:=N) (o:=ol) (xs:=(mtL s s.members.length).flatMap sdC) j2 (by rw[Z3 Zol,hNl.2]) (by omega);have aw2:apO ow [] h2:=aw;have al2:apO ol [] (GG h2 ow ((Zex s s.members.length).map (.int .i64))):=al;have lw:=Ws aw2 ((Zex s s.members.length).map (.int .i64));have ll:=Ws al2 ((mtL s s.members.length).flatMap sdC);clear aw al aw2 al2 nd2;have sw:=sw.up ll;have le3:=lw.trans ll;clear lw ll
 generalize GG (GG h2 ow ((Zex s s.members.length).map (.int .i64))) ol ((mtL s s.members.length).flatMap sdC)=h3 at ap2 sw sl le3 ⊢
 have iw:Ints h3 .i64 (ovs ow N) (Zex s s.members.length):=⟨by rw[hNl.1];exact sw,fun z hz=>by
  rw[show IntKind.i64.min = -9223372036854775808 by decide,show IntKind.i64.max=9223372036854775807 by decide];obtain⟨j,hj,rfl⟩:=List.mem_map.1 hz;have:=Zwr hj
  omega⟩
 have rl:Zh sdC 4 h3 (ovs ol N) (mtL s s.members.length):=by
  have:=Zh.pub (f:=sdC) (w:=4) (l:=mtL s s.members.length) (o:=ol) (h:=h3) Zol (by rw[hNl.2];exact sl)
  rwa [hNl.2]at this
 have hbb3:h3 bb=noC:=ap2.1;have hbx3:h3 bx=noC:=ap2.2.1;have hb53:h3 b5=noC:=ap2.2.2.1;have hb63:h3 b6=noC:=ap2.2.2.2.1;clear ap2 sw sl;obtain⟨wa,wc,ew,_,_,_,hws⟩:=iw.open;obtain⟨la,lc,el,_⟩:=rl.open;rw[hNl.1]at ew hws;rw[hNl.2]at el;have iw0:=iw;rw[el]at rl;simp only[whB,Yjf];rw[eWm,← hN,ew,el];subst eV;refine xx ?_;refine Yr (.tk 5 (.tkl 0 (.tk 1 (.tk 2 (.tk 3 (.tkl 4 (.tkl 6 (.o1 7 (.tk 8 (.tk 9 (.tk 10 (.tk 11 (.tk 12 (.tk 13 (.tk 14 (.fin)))))))) (.nil))))))))) (by kernel_rfl) (by kernel_rfl) _ (Za.refl _ _) ?_;refine xx ?_;have le13:=le12.trans le3;refine Zb.ap (Zvf s.par ti.ok.p ti.r _ rl (Ylt ti _ (Nat.le_refl _)) (by rw[hNl.2];exact hN128) n (by omega) fun h4 rv le4 iv ap=>?_);have hbb4:h4 bb=noC:=ap.1;have hbx4:h4 bx=noC:=ap.2.1;have hb54:h4 b5=noC:=ap.2.2.1;have hbm4:apO om [] h4:=Y1 ap.2.2.2.2;clear ap;have eP:JC s.par n (mtL s s.members.length)=mtP s r:=by rw[en];rfl
 rw[eP]at iv ⊢;have hPl:(mtP s r).length=N:=by rw[(Wct ti ha).2.1,hN]
 obtain⟨ra,rc,rfl,_,_,_,hrs⟩:=iv.open;rw[hPl]at hrs ⊢
 first
 | refine xkp (Za.forget le4) ?_
 | skip
 refine xx ?_;refine YZ (γ:=Nat×PH×Value) (0,h4,vp) (fun y=>y.1≤N∧PH.le h4 y.2.1∧Ints y.2.1 .u64 y.2.2 (mtX s r y.1).2∧y.2.1 bb=noC∧apO om [] y.2.1∧y.2.1 bx=noC∧y.2.1 b5=noC)
  (fun y=>[(83,.int .i64 y.1),(82,.int .i64 N),(81,.slice ra N rc),(8,.int .u64 (n-tot (mtP s r))),(2,.int .u64 n),(1,.pointer (some ⟨bx,0,none⟩)),(5,.pointer (some ⟨b5,0,none⟩))])
  (fun y=>tB bb (Zja s r y.1) ⟨y.2.2,ovs om s.members.length,ve,vx,vo,vd,vt,vk,vr⟩ (Ylj s r y.1) q w::tX bx bb::⟨b5,32,[.slice wa N wc],1⟩::tMo om (Zja s r y.1).members L) (fun y=>y.2.1) (fun y=>N-y.1) ?_ ?_ ?_ ?_
 ·exact⟨Nat.zero_le _,PH.le_refl _,hp.up (le13.trans le4),hbb4,hbm4,hbx4,hb54⟩
 ·simp [Ent,List.lookup]
 ·rw[e0,e1];exact Za.sub (.cons_cons _ (.cons_cons _ (.cons_cons _ (List.sublist_cons_self _ _))))
 clear n3x n3b n53 n63 n65 n6x n6b hbb hbm h_bx zb3 zb5 zb6 hbb1 hbm1 hbx1 hbb2 hbm2 hbx2 hbb3 hbx3 hb53 hb63;have ebb:NeB bb bx:=nbx;have e5b:NeB bb b5:=n5b;have e5x:NeB bx b5:=n5x;clear nbx n5x n5b;rintro⟨k,h5,pv⟩ ⟨k1,le5,ip,hbb5,hbm5,hbx5,hb55⟩;simp only at k1 le5 ip hbb5 hbm5 hbx5 hb55 ⊢;by_cases c1:k<N
 ·have ewk:=Yqz (s:=s) (k:=k) (by omega);obtain⟨i,hi⟩:∃i,i=(mtW s).getD k 0:=⟨_,rfl⟩
  rw[← hi]at ewk;obtain⟨m,hmm⟩:∃m,m=gr ZS (mtX s r k).1 i:=⟨_,rfl⟩
  obtain⟨a,haa⟩:∃a,a=at0 (mtP s r) k:=⟨_,rfl⟩
  obtain⟨z1,z2,z3,z4,z5,z6,z7,z8,z9,z10,z11,z12,z13,z14⟩:=Yni ti ha (show k<(mtW s).length by omega) hi hmm haa;obtain⟨f1,f2⟩:=Yec z11 z12 z13;have hws5:∀j,j<N→Yo h5 wa j=some (.int .i64 (at0 (Zex s s.members.length) j)):=fun j hj=>Ve (le4.trans le5) (hws j hj);have hrs5:∀j,j<N→Yo h5 ra j=some (.int .u64 (at0 (mtP s r) j)):=fun j hj=>Ve le5 (hrs j hj);have hg:=Zuh (ms:=(mtX s r k).1) z2;rw[← hmm]at hg;obtain⟨g0,g1,g2,g3,g4,g5⟩:=hg;have hi6:=Wv (w:=6) z2 (show 5<6 by decide);have hsm:=Yea (ms:=(mtX s r k).1) rfl;have hXl:(mtX s r k).1.length=s.members.length:=(Yzm ti ha (k:=k) (by omega)).l1;obtain⟨bm,cm,rfl⟩:∃bm cm,om=some (bm,cm):=by
   cases om with
   | none=>have:s.members.length=0:=okm;omega
   | some p=>exact⟨_,_,rfl⟩
  have ebm:NeB bb bm:=Ne.symm nmb;have exm:NeB bx bm:=Ne.symm nmx;have e5m:NeB b5 bm:=Ne.symm n5m;have hbm5':h5 bm=noC:=hbm5.2;simp only[tMo,Yg,YX]at *;have hst:=Zsl z2 (Jq s.par m a).1 (by rw[z14,hmm]) (by rw[hmm];rfl);have hX2:i<((mtX s r k).1.set i (Jq s.par m a).1).length:=by rw[List.length_set];exact z2
  have hgr2:gr ZS ((mtX s r k).1.set i (Jq s.par m a).1) i=(Jq s.par m a).1:=by rw[Yl hX2,List.getElem_set_self]
  have q4:∀(K:Value→Prop) (t:Zq K),VP (((mtX s r k).1.set i (Jq s.par m a).1).flatMap YK) (i*6+4) K t=K (.int .i64 m.owner):=fun K t=>Yq Yb ZS _ (m:=4) hX2 (by decide) (by rw[hgr2,← z14];rfl) K t;obtain⟨S,hS⟩:∃S,S=Zja s r k:=⟨_,rfl⟩
  obtain⟨R,hR⟩:∃R,R=Ylj s r k:=⟨_,rfl⟩
  have t1:S.treas=s.treas+mtN s r-YP (mtP s r) k:=by rw[hS];rfl
  have t2:S.par=s.par:=by rw[hS];rfl
  have t3:S.members=(mtX s r k).1:=by rw[hS];rfl
  have t4:S.purses=(mtX s r k).2:=by rw[hS];rfl
  have t5:R.paid=YP (mtP s r) k:=by
   rw[hR];show r.paid+YP (mtP s r) k=_;omega
  rw[← t1]at z9;rw[← t5]at z10;rw[← hS,← hR];rw[← hS]at f1;rw[← hR]at f2;rw[t3];obtain⟨M,hM⟩:∃M,M=(mtX s r k).1:=⟨_,rfl⟩
  rw[← hM]at g0 g1 g2 g3 g4 g5 hi6 hsm hst q4 z2 f1 t3 hXl ⊢;obtain⟨P5,hP5⟩:∃P5,P5=(mtX s r k).2:=⟨_,rfl⟩
  rw[← hP5]at ip z5 z7 f1 t4 z12;have ip':Ints h5 .u64 pv S.purses:=by rw[t4];exact ip
  simp -dsimp -implicitDefEqProofs (disch:=first|with_reducible assumption|omega) [go_sem,idx hrs5,idx hws5];rw[← haa];refine Wx (by kernel_rfl) rfl ?_;simp -dsimp -implicitDefEqProofs (disch:=first|with_reducible assumption|omega) [go_sem,idx hrs5,idx hws5,ewk];refine Yr (.tk 0 (.tk 6 (.tk 7 (.tk 8 (.tk 10 (.tkl 1 (.tk 2 (.tk 3 (.tk 4 (.tkl 5 (.tkl 9 (.o1 11 (.tk 12 (.tk 13 (.tk 14 (.tk 15 (.tk 16 (.o2 17 (.tk 18 (.fin)) (.nil))))))) (.nil))))))))))))) (by kernel_rfl) (by kernel_rfl) _ (Za.refl _ _) ?_;simp -dsimp -implicitDefEqProofs (disch:=first|with_reducible assumption|omega) [go_sem,g0,g1,g2,g3];have okS:Zj S.par:=by rw[t2];exact ti.ok.p
  have rS:Ym S.par=true:=by rw[t2];exact ti.r
  rw[← t2]at hst q4 z7 z8 z14 f1 z12;refine Yij S.par okS rS m z3 a (by omega) ?_
  first
  | refine xkp (Za.refl _ _) ?_
  | skip
  refine xx ?_;refine⟨by omega,?_⟩;rw[hst];refine Yr (.tk 1 (.tk 2 (.tk 3 (.tk 5 (.tkl 0 (.tkl 4 (.o1 6 (.fin) (.nil)))))))) (by kernel_rfl) (by kernel_rfl) [_,_,_] (Za.sub (.cons _ (.cons_cons _ (.cons_cons _ (.cons_cons _ (List.nil_sublist _)))))) ?_;simp -dsimp -implicitDefEqProofs (disch:=first|with_reducible assumption|omega) [go_sem,q4];have ip2:Ints h5 .u64 pv S.purses:=ip';refine Zb.ap (U4 (s:={ S with treas:=S.treas-a,members:=M.set i (Jq S.par m a).1 }) (v:=⟨pv,.slice (some ⟨bm,0,none⟩) s.members.length cm,ve,vx,vo,vd,vt,vk,vr⟩) ip2 (by show S.purses.length≤1000;rw[t4,z5];have:=ti.pl;omega) m.owner ⟨z4.1,by show m.owner<S.purses.length;rw[t4,z5];exact z4.2⟩ (Jq S.par m a).2 z8 (by show at0 S.purses _+_≤_;rw[t4];exact z7) fun h6 r6 le6 i6 ap=>?_);have hbb6:h6 bb=noC:=ap.1;have hbx6:h6 bx=noC:=ap.2.1;have hb56:h6 b5=noC:=ap.2.2.1;have hbm6:apO (some (bm,cm)) [] h6:=⟨trivial,ap.2.2.2.1⟩
  clear ap;obtain⟨pa6,pc6,rfl,_⟩:=i6.open;refine xkp ((Za.sub (.cons _ (.cons_cons _ (.cons_cons _ (.cons_cons _ (List.nil_sublist _)))))).trans (Za.forget le6)) ?_;refine xx ?_;simp only[t4]at i6 ⊢;rw[List.length_set]at i6;refine⟨k+1,h6,_,⟨by omega,le5.trans le6,by rw[z12];exact i6,hbb6,hbm6,hbx6,hb56⟩,by omega,by simp [Ent,List.lookup],?_⟩;rw[f1,f2];exact Za.refl _ _
 obtain rfl:N=k:=by omega
 have eR:mtR s r={ Ylj s r N with kept:=n-tot (mtP s r) }:=by rw[hN,en];rfl
 have eS:mtS s r=Zja s r N:=by rw[hN];rfl
 have hk:=hk h5 pv (le13.trans (le4.trans le5)) (by rw[eS];exact ip);rw[eS,eR]at hk;refine xx ?_;exact⟨_,_,Za.sub (.cons_cons _ (.cons _ (List.sublist_cons_self _ _))),hk⟩
theorem permL {e0 s0 e sz:Nat}{o0 o:Option (Nat×Nat)}{X0 xs:List Value}{a:Zo}{L:Own}:(a::oent e0 s0 o0 X0 (oent e sz o xs L)).Perm (oent e sz o xs (a::oent e0 s0 o0 X0 L)):=(List.Perm.cons _ (YL o0 o X0 xs L)).trans oent_perm
theorem J6 {ms:List Zc}{l:List Int}{st:Int}(hr:Gd ms l st)(hm:ms.length≤128){v:Value}(sl:Sl h v l.length 1 (l.map (.int .i64))):Ints h .i64 v l:=⟨sl,fun z hz=>by
 rw[show IntKind.i64.min = -9223372036854775808 by decide,show IntKind.i64.max=9223372036854775807 by decide];have:=Uv hr hz
 omega⟩
theorem Zkx {a b:Zo}{L:Own}{h:PH}:Za (a::b::L) h [a,b] h:=drop_left [a,b] L h
theorem drop1 {a:Zo}{L:Own}{h:PH}:Za (a::L) h [a] h:=drop_left [a] L h
structure LvG where
 k:Nat
 h:PH
 d:Value
theorem Zsr {bb D:Nat}{om ox:Option (Nat×Nat)}{s:Zf}{v:SV}{r:Zk}{q:RV}{w:Int}(ti:Zt s D)(hD:D≤30000)(hw:0≤w∧w≤1000)(hp:Ints h .u64 v.p s.purses)(hd:Zh YT 3 h v.d s.dues)(hm:v.m=ovs om s.members.length)(okm:okO om s.members.length)(hx:v.x=ovs ox s.exit.length)(okx:okO ox s.exit.length)
  (hk:∀h' xo pv dv lv,PH.le h h'→okO xo (lvS s (min (s.ep+w) 2147483647)).exit.length→Ints h' .u64 pv (lvS s (min (s.ep+w) 2147483647)).purses→Zh YT 3 h' dv (lvS s (min (s.ep+w) 2147483647)).dues→Ints h' .i64 lv (lvW s) →
   K (.tuple #[]) (tB bb (lvS s (min (s.ep+w) 2147483647)) { v with p:=pv,d:=dv,x:=ovs xo (lvS s (min (s.ep+w) 2147483647)).exit.length } (lvR s r) { q with l:=lv } w::tMo om (lvS s (min (s.ep+w) 2147483647)).members (oent 3 1 xo ((lvS s (min (s.ep+w) 2147483647)).exit.map (.int .i64)) L)) h') :
  Zb prog 75 [.pointer (some ⟨bb,0,none⟩)] (tB bb s v r q w::tMo om s.members (oent 3 1 ox (s.exit.map (.int .i64)) L)) h K:=by
 obtain⟨vp,vm,ve,vx,vo,vd,vt,vk,vr⟩:=v;simp only at hm hp hd hx hk ⊢;subst hm;subst hx;obtain⟨t,ht⟩:∃t,t=min (s.ep+w) 2147483647:=⟨_,rfl⟩
 rw[← ht]at hk;have hep:=ti.ep;have htb:0≤t∧t≤2147483647:=by omega
 have hml:=ti.ml;have hpl:=ti.pl;have hdn:=ti.dn;have hxl:=V8 ti.ex;obtain⟨w1,w2,w3⟩:=Wir ti;have hpc:=Ys ti.r;have hsum:=ti.sum;obtain⟨p1,p2,p3,p4,p5,p6⟩:=ti.parts;refine Zb.entr fun ap nd=>?_;have aox:=Y1 (Ap.oent ap.2);have lx:=Ws aox (s.exit.map (.int .i64));have sx:=Vt (h:=h) (sz:=1) (n:=s.exit.length) (o:=ox) (xs:=s.exit.map (.int .i64)) okx (by simp) (by omega);refine Zb.weaken ((Za.perm h permL).trans (Wi ox _ _ h (by decide))) ?_
 generalize GG h ox (s.exit.map (.int .i64))=h0 at lx sx ⊢
 have ix:=J6 ti.ex hml sx;clear aox sx ap nd;obtain⟨xa,xc,ex,_⟩:=ix.open;rw[ex]at ix ⊢;have hxr:∀z∈s.exit,0≤z:=fun z hz=>(Uv ti.ex hz).1;refine Z4 func75 rfl (rs:=[]) rfl rfl ZY (by kernel_rfl) rfl rfl fun ap nd=>?_;have hbb:h0 bb=noC:=ap.1;have nmb:apB om bb:=YH nd.1;clear ap nd;refine xx ?_;refine Yr (.tk 0 (.tk 1 (.tk 2 (.tk 3 (.tk 5 (.tk 6 (.tk 7 (.tk 8 (.tk 9 (.tkl 4 (.tkl 10 (.o1 11 (.tk 12 (.tk 13 (.tk 14 (.tk 15 (.tk 16 (.fin)))))) (.nil))))))))))))) (by kernel_rfl) (by kernel_rfl) [_] drop1 ?_;refine xx ?_;refine Zb.apn (Zb.fin (Zgk _ ix (by omega) hxr ti.ex.1 s.par.churn ⟨by omega,by omega⟩ fun h1 rv xo le1 iw ok1 ap1=>⟨_,_,Za.perm _ permL.symm,fun ap nd=>?_⟩));have hbb1:h1 bb=noC:=ap.1;have hbm1:apO om [] h1:=Y1 ap.2;clear ap nd ap1;refine xkp (drop1.trans (Za.forget le1)) ?_;have le01:=lx.trans le1;have eW:s.exit.take s.par.churn.toNat=lvW s:=rfl;rw[eW]at iw;obtain⟨N,hN⟩:∃N,N=(lvW s).length:=⟨_,rfl⟩
 obtain⟨R,hR⟩:∃R,R=s.exit.drop s.par.churn.toNat:=⟨_,rfl⟩
 rw[← hR]at ok1 ⊢;obtain⟨wa,wc,rfl,_,_,_,hws⟩:=iw.open;rw[← hN]at hws w1 ⊢;have iw0:=iw;rw[← hN]at iw0;refine xx ?_;refine YZ (γ:=LvG) ⟨0,h1,vd⟩ (fun y=>y.k≤N∧PH.le h1 y.h∧Zh YT 3 y.h y.d (lvK t (lvW s) (s.members,s.dues) y.k).2∧y.h bb=noC∧apO om [] y.h)
  (fun y=>[(32,.int .i64 y.k),(31,.int .i64 N),(30,.slice wa N wc),(2,.slice wa N wc),(0,.pointer (some ⟨bb,0,none⟩))])
  (fun y=>tB bb { s with exit:=R,members:=(lvK t (lvW s) (s.members,s.dues) y.k).1,dues:=(lvK t (lvW s) (s.members,s.dues) y.k).2 } ⟨vp,ovs om s.members.length,ve,ovs xo R.length,vo,y.d,vt,vk,vr⟩ r q w::tMo om (lvK t (lvW s) (s.members,s.dues) y.k).1 (oent 3 1 xo (R.map (.int .i64)) L)) (fun y=>y.h) (fun y=>N-y.k) ?_ ?_ ?_ ?_
 ·exact⟨Nat.zero_le _,PH.le_refl _,hd.up le01,hbb1,hbm1⟩
 ·simp [Ent,List.lookup,WM]
 ·exact Za.refl _ _
 rintro⟨k,h2,d2⟩ ⟨k1,le2,id2,hbb2,hbm2⟩;simp only at k1 le2 id2 hbb2 hbm2 ⊢;have lv:=(Zym ti htb (k:=k) (by omega)).1;have lr:=(Zym ti htb (k:=k) (by omega)).2;have hXl:(lvK t (lvW s) (s.members,s.dues) k).1.length=s.members.length:=lv.l1;by_cases c1:k<N
 ·have hin:=w3 (at0 (lvW s) k) (by rw[← Yx (by omega)];exact List.getElem_mem (by omega));obtain⟨i,hi⟩:=Int.eq_ofNat_of_zero_le hin.1;rw[hi]at hin;have hws2:∀j,j<N→Yo h2 wa j=some (.int .i64 (at0 (lvW s) j)):=fun j hj=>Ve le2 (hws j hj);have hi2:i<(lvK t (lvW s) (s.members,s.dues) k).1.length:=by omega
  have hoo:=lr.o _ (YM (z:=ZS) hi2);have hbt:=YC (VC lv.m) i;rw[VD hi2]at hbt;have h3:=lv.t;have h4:=lv.n;have eK:lvK t (lvW s) (s.members,s.dues) (k+1)=Zeo t i (lvK t (lvW s) (s.members,s.dues) k):=by rw[lvK,hi,Int.toNat_natCast]
  obtain⟨bm,cm,rfl⟩:∃bm cm,om=some (bm,cm):=by
   cases om with
   | none=>have:s.members.length=0:=okm;omega
   | some p=>exact⟨_,_,rfl⟩
  have nmb':bm≠bb:=nmb;have hbm2':h2 bm=noC:=hbm2.2;obtain⟨X,hX⟩:∃X,X=lvK t (lvW s) (s.members,s.dues) k:=⟨_,rfl⟩
  rw[← hX]at id2 lv hXl hi2 hoo hbt h3 h4 eK lr ⊢;simp only[tMo,Yg,YX];simp -dsimp -implicitDefEqProofs (disch:=first|with_reducible assumption|omega) [go_sem,idx hws2];rw[hi];simp only at h3 h4;have how2:0≤(gr ZS X.1 i).owner∧(gr ZS X.1 i).owner≤63:=by omega
  refine Zb.ap (Zre (s:={ s with exit:=R,members:=X.1,dues:=X.2 }) (v:=⟨vp,.slice (some ⟨bm,0,none⟩) s.members.length cm,ve,ovs xo R.length,vo,d2,vt,vk,vr⟩) (by rw[hXl]) (by show X.1.length≤1000;omega) lv.m id2 lv.d (by show X.2.length≤32000;omega) i hi2 how2 5 hw (by show 0≤s.ep∧s.ep≤_;omega) (by show WP X.2+(gr ZS X.1 i).bal≤_;omega) fun h5 r5 le5 i5 ap=>?_);have hbb5:h5 bb=noC:=ap.1;have hbm5:apO (some (bm,cm)) [] h5:=⟨trivial,ap.2.1⟩
  clear ap;refine xx ?_;refine⟨⟨k+1,h5,r5⟩,⟨by simp only;omega,le2.trans le5,by rw[eK,ht];exact i5,hbb5,hbm5⟩,by simp only;omega,by simp [Ent,List.lookup],?_⟩;simp only;rw[eK,ht];exact Za.refl _ _
 obtain rfl:N=k:=by omega
 have eX:lvK t (lvW s) (s.members,s.dues) N=lvX s t:=by rw[hN];rfl
 rw[eX]at id2 lv lr hXl ⊢;have lvn:=lv.n;simp only at lvn;refine xx ?_;refine Yr (.tk 0 (.tk 1 (.tk 2 (.tk 3 (.tk 5 (.tk 6 (.tk 7 (.tk 8 (.tkl 4 (.tkl 9 (.o1 10 (.tk 11 (.tk 12 (.tk 13 (.tk 14 (.tk 15 (.fin)))))) (.nil)))))))))))) (by kernel_rfl) (by kernel_rfl) _ (Za.refl _ _) ?_;refine xx ?_;refine Zb.ap (Zyj _ id2 (by omega) s.ep fun h3 r3 d3 le3 i3 j3 ap=>?_);have hbb3:h3 bb=noC:=ap.1;clear ap;have i30:=i3;have j30:=j3;obtain⟨ra,rc,rfl,_,_,_,hrs⟩:=i3.open;obtain⟨da,dc,rfl,_⟩:=j3.open
 first
 | refine xkp (Za.forget le3) ?_
 | skip
 have eD:(lvX s t).2.filter (Gh s.ep true)=lvD s t:=rfl;rw[eD]at i30 hrs ⊢;obtain⟨M,hM⟩:∃M,M=(lvD s t).length:=⟨_,rfl⟩
 have hld:=lv_d ti htb;have hMl:M≤32000:=by
  have:(lvD s t).length≤(lvX s t).2.length:=List.length_filter_le _ _;omega
 rw[← hM]at hrs ⊢;refine xx ?_;have ltot:tot s.purses+WP (lvD s t)≤4611686018427387904:=by
  have a1:=Zxu (lvX s t).2 s.ep;rw[eD]at a1;have a2:=lv.t;simp only at a2;have a3:0≤WP ((lvX s t).2.filter (Gh s.ep false)):=Yy (Zhy fun x hx=>lv.d x (List.mem_filter.1 hx).1);have a4:=Yy (VC lv.m);have a5:WP s.dues+tot (s.members.map Zc.bal)=WP (lvX s t).2+tot ((lvX s t).1.map Zc.bal):=a2.symm;omega
 refine YZ (γ:=LvG) ⟨0,h3,vp⟩ (fun y=>y.k≤M∧PH.le h3 y.h∧Ints y.h .u64 y.d (dpK (lvD s t) s.purses y.k)∧y.h bb=noC)
  (fun y=>[(66,.int .i64 y.k),(65,.int .i64 M),(64,.slice ra M rc),(0,.pointer (some ⟨bb,0,none⟩))])
  (fun y=>tB bb { s with exit:=R,members:=(lvX s t).1,dues:=(lvX s t).2.filter (Gh s.ep false),purses:=dpK (lvD s t) s.purses y.k } ⟨y.d,ovs om s.members.length,ve,ovs xo R.length,vo,.slice da ((lvX s t).2.filter (Gh s.ep false)).length dc,vt,vk,vr⟩ (lvR s r) { q with l := .slice wa N wc } w::tMo om (lvX s t).1 (oent 3 1 xo (R.map (.int .i64)) L)) (fun y=>y.h) (fun y=>M-y.k) ?_ ?_ ?_ ?_
 ·exact⟨Nat.zero_le _,PH.le_refl _,hp.up (le01.trans (le2.trans le3)),hbb3⟩
 ·simp [Ent,List.lookup]
 ·exact Za.refl _ _
 rintro⟨k,h4,pv⟩ ⟨k1,le4,ip,hbb4⟩;simp only at k1 le4 ip hbb4 ⊢;obtain⟨y1,y2,y3⟩:=Zlb ti.be.p hld k (by omega);by_cases c1:k<M
 ·obtain⟨d,hdd⟩:∃d,d=gr Z5 (lvD s t) k:=⟨_,rfl⟩
  have hx:=hld d (by rw[hdd];exact YM (by omega));obtain⟨z1,z2,z3⟩:=Zlb ti.be.p hld (k+1) (by omega);have eK:dpK (lvD s t) s.purses (k+1)=(dpK (lvD s t) s.purses k).set d.acct.toNat (at0 (dpK (lvD s t) s.purses k) d.acct.toNat+d.amt):=by rw[dpK,← hdd]
  have hroom:at0 (dpK (lvD s t) s.purses k) d.acct.toNat+d.amt≤4611686018427387904:=by
   have b1:=YC z2 d.acct.toNat;rw[eK,VF _ _ _ _ (by omega),if_pos rfl,← eK,z3]at b1;have b2:=(Yac (l:=(lvD s t).map Zi.amt) (fun i=>Vw Zi.amt _ (fun x hx=>(hld x hx).2.2) i) (k:=k+1) (by rw[List.length_map];omega)).2;have b3:tot ((lvD s t).map Zi.amt)=WP (lvD s t):=rfl;omega
  have hrs4:=hrs.up le4;have ip':Ints h4 .u64 pv (dpK (lvD s t) s.purses k):=ip;obtain⟨PK',hPK⟩:∃PK',PK'=dpK (lvD s t) s.purses k:=⟨_,rfl⟩
  rw[← hPK]at ip y1 eK hroom ⊢;simp -dsimp -implicitDefEqProofs (disch:=first|with_reducible assumption|omega) [go_sem,↓Zam Z5 (by decide) hrs4,YT];rw[← hdd];refine Z6 fun b9 nb9 zb9=>?_;(try simp only[ZU]at nb9);have n9:=nb9.1;clear nb9;simp -dsimp -implicitDefEqProofs (disch:=first|with_reducible assumption|omega) [go_sem,YT];refine YV (Zb.ap (U4 (s:={ s with exit:=R,members:=(lvX s t).1,dues:=(lvX s t).2.filter (Gh s.ep false),purses:=PK' }) (v:=⟨pv,ovs om s.members.length,ve,ovs xo R.length,vo,.slice da ((lvX s t).2.filter (Gh s.ep false)).length dc,vt,vk,vr⟩) ip (by show PK'.length≤1000;omega) d.acct (by show 0≤d.acct∧d.acct<PK'.length;omega) d.amt hx.2.2 hroom fun h5 r5 le5 i5 ap=>?_));have hbb5:h5 bb=noC:=ap.1;clear ap;refine xx ?_;refine⟨⟨k+1,h5,r5⟩,⟨by simp only;omega,le4.trans le5,by simp only;rw[eK];exact i5,hbb5⟩,by simp only;omega,by simp [Ent,List.lookup],?_⟩;simp only;rw[eK];exact(Za.perm _ (List.Perm.swap _ _ _)).trans (Za.tail _ _ _)
 obtain rfl:M=k:=by omega
 have eS:lvS s t={ s with exit:=R,members:=(lvX s t).1,dues:=(lvX s t).2.filter (Gh s.ep false),purses:=dpK (lvD s t) s.purses M }:=by rw[hM,hR];rfl
 have hk:=hk h4 xo pv (.slice da ((lvX s t).2.filter (Gh s.ep false)).length dc) (.slice wa N wc) (le01.trans (le2.trans (le3.trans le4))) (by rw[eS];exact ok1) (by rw[eS];exact ip) (by rw[eS];exact j30.up le4) (iw0.up (le2.trans (le3.trans le4)));rw[eS]at hk;refine xx ?_;exact ZO hk
end Go.X

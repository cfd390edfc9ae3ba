/- Lemmas and contracts for a statement about the given program. Conditions: as each says. -/
import Derived.Test.YtmmfajokfdaokaaGreatQ31
set_option linter.unusedVariables false
set_option linter.unusedSimpArgs false
set_option maxHeartbeats 12800000
set_option maxRecDepth 20000
namespace Go.X
open Go.RowKit Go.Proofs Go.Bl
variable {L:Own} {h:PH} {K:PK}
structure RV where
 o:Value
 l:Value
 s:Value
 d:Value
abbrev rpV (r:RepD) (q:RV):Value := .agg #[.int .i64 r.ep,.int .i64 r.mode,.bool r.quo,.int .u64 r.pres,.int .u64 r.act,.int .u64 r.mint,.int .u64 r.paid,.int .u64 r.kept,.int .u64 r.burned,.int .u64 r.fees,q.o,q.l,q.s,q.d]
abbrev tC (s:StD) (v:SV) (r:RepD) (q:RV) (w:Int):List Value:=[.int .u64 s.par.inc,.int .u64 s.par.maxEff,.int .u64 s.par.floor,.int .u64 s.par.cap,.int .u64 s.par.up,.int .u64 s.par.down,.int .u64 s.par.bias,.int .u64 s.par.quot,.int .u64 s.par.biasEm,.int .u64 s.par.quotEm,.int .u64 s.par.recover,.int .u64 s.par.scoreCap,.int .u64 s.par.rate,.int .u64 s.par.bond,.int .i64 s.par.delay,.int .i64 s.par.streak,.int .i64 s.par.boost,.int .i64 s.par.absent,.int .i64 s.par.burn,.int .i64 s.par.churn,.int .i64 s.par.wait,.int .i64 s.par.poll,.int .i64 s.par.enact,.int .i64 s.par.quorum,.int .u64 s.most,.int .u64 s.gen,.int .u64 s.mint,.int .u64 s.burn,.int .u64 s.treas,.int .i64 s.ep,.int .i64 s.calm,.bool s.emer,v.p,v.m,v.e,v.x,v.o,v.d,v.t,v.k,v.r,.int .i64 r.ep,.int .i64 r.mode,.bool r.quo,.int .u64 r.pres,.int .u64 r.act,.int .u64 r.mint,.int .u64 r.paid,.int .u64 r.kept,.int .u64 r.burned,.int .u64 r.fees,q.o,q.l,q.s,q.d,.int .i64 w]
abbrev tB (bb:Nat) (s:StD) (v:SV) (r:RepD) (q:RV) (w:Int):Blk:=⟨bb,148,tC s v r q w,56⟩
abbrev tM (bm cm:Nat) (ms:List MemD):Blk:=⟨bm,73,ms.flatMap memC,cm*6⟩
abbrev tX (bx bb:Nat):Blk:=⟨bx,146,[.pointer (some ⟨bb,0,none⟩)],1⟩
theorem Spec.imp {P:Program} {f:FuncId} {args:List Value} {K K':PK} (hs:Spec P f args L h K) (hk:∀ v L' h',K v L' h'→K' v L' h'):Spec P f args L h K' :=
 ⟨hs.1,fun W hg=>(hs.2 W hg).mono fun _ _ ⟨r,L',h',e,k,st⟩=>⟨r,L',h',e,hk _ _ _ k,st⟩⟩
theorem memT {ms:List MemD} {j:Nat} (hj:j<ms.length):(∀ (K:Value→Prop) (t:Tok K),xNth (ms.flatMap memC) (j*6) K t=K (.int .u64 (gr zeroM ms j).bal))∧(∀ (K:Value→Prop) (t:Tok K),xNth (ms.flatMap memC) (j*6+1) K t=K (.int .u64 (gr zeroM ms j).eff)) ∧
  (∀ (K:Value→Prop) (t:Tok K),xNth (ms.flatMap memC) (j*6+2) K t=K (.int .u64 (gr zeroM ms j).score))∧(∀ (K:Value→Prop) (t:Tok K),xNth (ms.flatMap memC) (j*6+3) K t=K (.int .i64 (gr zeroM ms j).streak)) ∧
  (∀ (K:Value→Prop) (t:Tok K),xNth (ms.flatMap memC) (j*6+4) K t=K (.int .i64 (gr zeroM ms j).owner))∧(∀ (K:Value→Prop) (t:Tok K),xNth (ms.flatMap memC) (j*6+5) K t=K (.int .i64 (gr zeroM ms j).status)) :=
 ⟨fun K t=>xNth_rec memC_len zeroM ms hj (m:=0) (by decide) rfl K t,fun K t=>xNth_rec memC_len zeroM ms hj (by decide) rfl K t,fun K t=>xNth_rec memC_len zeroM ms hj (by decide) rfl K t,fun K t=>xNth_rec memC_len zeroM ms hj (by decide) rfl K t,fun K t=>xNth_rec memC_len zeroM ms hj (by decide) rfl K t,fun K t=>xNth_rec memC_len zeroM ms hj (by decide) rfl K t⟩
theorem memS {ms:List MemD} {n:Nat} (hn:ms.length=n):(ms.map fun a=>(memC a).length).sum=n*6:=by
 rw [← List.length_flatMap,flatG_len memC_len,hn]
structure Td (h:PH) (v:SV) (s:StD):Prop where
 p:Ints h .u64 v.p s.purses
 o:Recs depC 4 h v.o s.pool
 d:Recs dueC 3 h v.d s.dues
 t:∃ q:List QM,Recs motC 33 h v.t q∧q.map (fun x=>x.2.2)=s.motions∧MotsOk h q
 k:Ints h .u8 v.k s.marks
 r:∃ q,Strs h v.r q∧xsL q=s.ring
theorem Td.up {h h':PH} (le:PH.le h h') {v:SV} {s:StD} (hs:Td h v s):Td h' v s:=by
 obtain ⟨q,t1,t2,t3⟩:=hs.t
 obtain ⟨r,r1,r2⟩:=hs.r
 exact ⟨hs.p.up le,hs.o.up le,hs.d.up le,⟨q,t1.up le,t2,fun x hx=>(t3 x hx).up le⟩,hs.k.up le,⟨r,r1.up le,r2⟩⟩
theorem tthere_any {bb:Nat} {s:StD} {v:SV} {r:RepD} {q:RV} {w:Int} (hk0:Ints h .u8 v.k s.marks) (i:Nat) (hi:i≤1000) (hk:K (.bool (getB s.marks i)) (tB bb s v r q w::L) h) :
  Spec Tryz.prog 142 [.pointer (some ⟨bb,0,none⟩),.int .i64 i] (tB bb s v r q w::L) h K:=by
 refine x_enterA Tryz.func142 rfl (rs:=[_]) rfl rfl mixed (by kernel_rfl) rfl rfl fun ap nd=>?_
 have hbb:h bb=noC:=ap.1
 clear ap nd
 refine xx ?_
 refine get_any _ i hk0 (by omega) ?_
 refine xx ?_
 exact fin_here hk
theorem tpay_any {bb:Nat} {s:StD} {v:SV} {r:RepD} {q:RV} {w:Int} (hp:Ints h .u64 v.p s.purses) (hl:s.purses.length≤1000) (i:Int) (hi:0≤i∧i<s.purses.length) (a:Int) (ha:0≤a) (hr:at0 s.purses i.toNat+a≤4611686018427387904)
  (hk:∀ h' r',PH.le h h'→Ints h' .u64 r' (s.purses.set i.toNat (at0 s.purses i.toNat+a))→K (.tuple #[]) (tB bb { s with purses:=s.purses.set i.toNat (at0 s.purses i.toNat+a) } { v with p:=r' } r q w::L) h') :
  Spec Tryz.prog 148 [.pointer (some ⟨bb,0,none⟩),.int .i64 i,.int .u64 a] (tB bb s v r q w::L) h K:=by
 obtain ⟨j,rfl⟩:=Int.eq_ofNat_of_zero_le hi.1
 rw [Int.toNat_natCast] at hr hk
 refine x_enterA Tryz.func148 rfl (rs:=[]) rfl rfl mixed (by kernel_rfl) rfl rfl fun ap nd=>?_
 have hbb:h bb=noC:=ap.1
 clear ap nd
 refine xx ?_
 refine Spec.ap (pay_any _ hp hl j (by omega) a ha hr fun h1 r1 le1 i1 ap=>?_)
 have hbb1:h1 bb=noC:=ap.1
 clear ap
 obtain ⟨pa,pc,rfl,_⟩:=i1.open
 refine xx ?_
 rw [List.length_set] at i1
 exact fin_here (hk h1 _ le1 i1)
theorem towe_any {bb:Nat} {s:StD} {v:SV} {r:RepD} {q:RV} {w:Int} (hd:Recs dueC 3 h v.d s.dues) (hdo:∀ x∈s.dues,DueOk x) (hl:s.dues.length≤32000) (acct:Int) (hac:0≤acct∧acct≤63) (a:Int) (ha:0≤a) (hw:0≤w∧w≤1000) (hep:0≤s.ep∧s.ep≤1073741824) (hs:dTot s.dues+a≤4611686018427387904)
  (hk:∀ h' r',PH.le h h'→Recs dueC 3 h' r' (oweL s.dues ⟨acct,min (s.ep+w) 2147483647,a⟩)→K (.tuple #[]) (tB bb { s with dues:=oweL s.dues ⟨acct,min (s.ep+w) 2147483647,a⟩ } { v with d:=r' } r q w::L) h') :
  Spec Tryz.prog 267 [.pointer (some ⟨bb,0,none⟩),.int .i64 acct,.int .u64 a] (tB bb s v r q w::L) h K:=by
 refine x_enterA Tryz.func267 rfl (rs:=[]) rfl rfl mixed (by kernel_rfl) rfl rfl fun ap nd=>?_
 have hbb:h bb=noC:=ap.1
 clear ap nd
 refine xx ?_
 refine xanyl (.tk 0 (.tk 1 (.tk 2 (.tk 3 (.tk 5 (.tk 6 (.tk 7 (.tk 8 (.tk 9 (.tk 11 (.tk 12 (.tk 13 (.tk 17 (.tkl 4 (.tkl 10 (.tkl 14 (.tk 15 (.or true 16 (.tk 18 (.or true 19 (.tk 20 (.tk 21 (.tk 22 (.tk 23 (.tk 24 (.fin)))))) (.nil))) (.nil))))))))))))))))))) (by kernel_rfl) (by kernel_rfl) _ (Drop.refl _ _) ?_
 refine xx ?_
 refine Spec.ap (owe_any (d:=⟨acct,min (s.ep+w) 2147483647,a⟩) _ hd hdo hl hac ⟨by show 0≤min (s.ep+w) 2147483647; omega,by show min (s.ep+w) 2147483647≤_; omega⟩ ha hs fun h1 r1 le1 i1 ap=>?_)
 have hbb1:h1 bb=noC:=ap.1
 clear ap
 obtain ⟨ra,rc,rfl,_⟩:=i1.open
 first
 | refine xkp (Drop.forget le1) ?_
 | skip
 refine xx ?_
 exact fin_here (hk h1 _ le1 i1)
theorem tend_any {bb bm cm:Nat} {s:StD} {v:SV} {r:RepD} {q:RV} {w:Int} (hm:v.m = .slice (some ⟨bm,0,none⟩) s.members.length cm) (hml:s.members.length≤1000) (mo:∀ x∈s.members,MemOk x) (hd:Recs dueC 3 h v.d s.dues) (hdo:∀ x∈s.dues,DueOk x) (hl:s.dues.length≤32000) (i:Nat) (hi:i<s.members.length) (how:0≤(gr zeroM s.members i).owner∧(gr zeroM s.members i).owner≤63) (st:Int) (hw:0≤w∧w≤1000) (hep:0≤s.ep∧s.ep≤1073741824) (hs:dTot s.dues+(gr zeroM s.members i).bal≤4611686018427387904)
  (hk:∀ h' r',PH.le h h'→Recs dueC 3 h' r' (oweL s.dues (dueOf (min (s.ep+w) 2147483647) (gr zeroM s.members i)))→K (.tuple #[]) (tB bb { s with members:=s.members.set i (endR (gr zeroM s.members i) st),dues:=oweL s.dues (dueOf (min (s.ep+w) 2147483647) (gr zeroM s.members i)) } { v with d:=r' } r q w::tM bm cm (s.members.set i (endR (gr zeroM s.members i) st))::L) h') :
  Spec Tryz.prog 155 [.pointer (some ⟨bb,0,none⟩),.int .i64 i,.int .i64 st] (tB bb s v r q w::tM bm cm s.members::L) h K:=by
 have ub:=(mo _ (gr_mem (z:=zeroM) hi)).u (gr zeroM s.members i).bal (by simp)
 refine x_enterA Tryz.func155 rfl (rs:=[]) rfl rfl mixed (by kernel_rfl) rfl rfl fun ap nd=>?_
 have hbb:h bb=noC:=ap.1
 have hbm:h bm=noC:=ap.2.1
 have nmb:bm≠bb:=nd.1.1
 clear ap nd
 obtain ⟨g0,g1,g2,g3,g4,g5⟩:=memT hi
 have hi6:=flat_lt (w:=6) hi (show 5<6 by decide)
 have hsum:=memS (ms:=s.members) rfl
 simp -dsimp -implicitDefEqProofs (disch:=first|with_reducible assumption|omega) [go_sem,hm,g0,g1,g2,g3,g4,g5]
 refine mendR_any (gr zeroM s.members i) st ?_
 refine xx ?_
 refine xnew fun b6 n_b6 h_b6=>?_
 try simp only [Apart] at n_b6
 have n6b:=n_b6.1
 have n6m:=n_b6.2.1
 clear n_b6
 refine xx ?_
 refine xanyl (.tk 0 (.tk 1 (.tk 2 (.tk 3 (.tk 5 (.tkl 4 (.tkl 6 (.tk 7 (.or false 8 (.fin) (.nil)))))))))) (by kernel_rfl) (by kernel_rfl) _ (Drop.refl _ _) ?_
 simp -dsimp -implicitDefEqProofs (disch:=first|with_reducible assumption|omega) [go_sem,hm]
 refine ⟨by omega,?_⟩
 have hset:((((((s.members.flatMap memC).set (i*6) (Value.int .u64 (endR (gr zeroM s.members i) st).bal)).set (i*6+1) (.int .u64 (endR (gr zeroM s.members i) st).eff)).set (i*6+1+1) (.int .u64 (endR (gr zeroM s.members i) st).score)).set (i*6+1+1+1) (.int .i64 (endR (gr zeroM s.members i) st).streak)).set (i*6+1+1+1+1) (.int .i64 (endR (gr zeroM s.members i) st).owner)).set (i*6+1+1+1+1+1) (.int .i64 (endR (gr zeroM s.members i) st).status)=(s.members.set i (endR (gr zeroM s.members i) st)).flatMap memC:=flatG_wr memC_len s.members hi (endR (gr zeroM s.members i) st)
 rw [hset]
 try simp -dsimp -implicitDefEqProofs (disch:=first|with_reducible assumption|omega) [go_sem]
 refine call_p1 (towe_any (s:={ s with members:=s.members.set i (endR (gr zeroM s.members i) st) }) hd hdo hl _ how _ ub.1 hw hep hs fun h1 r1 le1 i1=>?_)
 refine xx ?_
 exact ⟨_,_,(Drop.perm _ (List.Perm.swap _ _ _)).trans (Drop.tail _ _ _),hk h1 r1 le1 i1⟩
abbrev tMo (om:Option (Nat×Nat)) (ms:List MemD) (L:Own):Own:=oent 73 6 om (ms.flatMap memC) L
theorem counting_any {γ:Type} {cl:Nat} {cap:List Value} {bb n:Nat} {om:Option (Nat×Nat)} {w:Int} (inv:Nat→γ→Prop) (S:γ→StD) (V:γ→SV) (R:γ→RepD) (Q:γ→RV) (T:γ→Own) (H:γ→PH) (x0:γ) (hn:n≤1000) (okm:okO om n)
  (hi:∀ k x,inv k x→(V x).m=ovs om n∧(S x).members.length=n∧H x bb=noC∧apO om [] (H x)) (hne:apB om bb)
  (hrd:∀ bm cm,om=some (bm,cm)→∀ k x,k<n→inv k x→cntM (gr zeroM (S x).members k)→Spec Tryz.prog cl (.int .i64 k :: .pointer (some ⟨bm,k*6,none⟩)::cap) (tB bb (S x) (V x) (R x) (Q x) w::tM bm cm (S x).members::T x) (H x) fun _ L' h'=>∃ x',inv (k+1) x'∧Drop L' h' (tB bb (S x') (V x') (R x') (Q x') w::tM bm cm (S x').members::T x') (H x'))
  (hsk:∀ k x,k<n→inv k x→¬ cntM (gr zeroM (S x).members k)→∃ x',inv (k+1) x'∧Drop (tB bb (S x) (V x) (R x) (Q x) w::tMo om (S x).members (T x)) (H x) (tB bb (S x') (V x') (R x') (Q x') w::tMo om (S x').members (T x')) (H x')) (h0:inv 0 x0)
  (hk:∀ x,inv n x→K (.tuple #[]) (tB bb (S x) (V x) (R x) (Q x) w::tMo om (S x).members (T x)) (H x)) :
  Spec Tryz.prog 139 [.pointer (some ⟨bb,0,none⟩),.func (.func cl) #[] cap.toArray] (tB bb (S x0) (V x0) (R x0) (Q x0) w::tMo om (S x0).members (T x0)) (H x0) K:=by
 obtain ⟨m0,_,hb0,hm0⟩:=hi 0 x0 h0
 obtain ⟨ea,ec,em,_⟩:=ovs_open okm
 refine x_enter Tryz.func139 rfl (rs:=[]) rfl rfl mixed (by kernel_rfl) rfl rfl ?_
 simp -dsimp -implicitDefEqProofs (disch:=first|with_reducible assumption|omega) [go_sem,m0,em]
 refine xloop (γ:=Nat×γ) (0,x0) (fun y=>y.1≤n∧inv y.1 y.2) (fun y=>[(11,.int .i64 y.1),(10,.int .i64 n),(0,.pointer (some ⟨bb,0,none⟩)),(1,.func (.func cl) #[] cap.toArray)])
  (fun y=>tB bb (S y.2) (V y.2) (R y.2) (Q y.2) w::tMo om (S y.2).members (T y.2)) (fun y=>H y.2) (fun y=>n-y.1) ?_ ?_ ?_ ?_
 ·exact ⟨Nat.zero_le _,h0⟩
 ·simp [Ent,List.lookup,xEnv]
 ·exact Drop.refl _ _
 rintro ⟨k,x⟩ ⟨k1,k2⟩
 simp only at k1 k2 ⊢
 obtain ⟨m1,l1,hb1,hm1⟩:=hi k x k2
 by_cases c1:k<n
 ·have hkl:k<(S x).members.length:=by omega
  obtain ⟨g0,g1,g2,g3,g4,g5⟩:=memT hkl
  clear em
  obtain ⟨bm,cm,rfl⟩:∃ bm cm,om=some (bm,cm):=by
   cases om with
   | none=>have:n=0:=okm; omega
   | some p=>exact ⟨_,_,rfl⟩
  have hbm1:H x bm=noC:=hm1.2
  have hne':bm≠bb:=hne
  have m1':(V x).m = .slice (some ⟨bm,0,none⟩) n cm:=m1
  simp only [tMo,oent_some]
  simp -dsimp -implicitDefEqProofs (disch:=first|with_reducible assumption|omega) [go_sem,m1',g0,g1,g2,g3,g4,g5]
  refine counts_any (gr zeroM (S x).members k) ?_
  by_cases c2:cntM (gr zeroM (S x).members k)
  ·rw [decide_eq_true c2]
   simp -dsimp -implicitDefEqProofs (disch:=first|with_reducible assumption|omega) [go_sem,m1']
   refine Spec.imp (hrd bm cm rfl k x c1 k2 c2) fun v' L' h' ⟨x',i',d'⟩=>?_
   refine xx ?_
   exact ⟨k+1,x',⟨by omega,i'⟩,by omega,by simp [Ent,List.lookup],d'⟩
  ·rw [decide_eq_false c2]
   obtain ⟨x',i',d'⟩:=hsk k x c1 k2 c2
   refine xx ?_
   exact ⟨k+1,x',⟨by omega,i'⟩,by omega,by simp [Ent,List.lookup],d'⟩
 ·obtain rfl:n=k:=by omega
  refine xx ?_
  exact fin_here (hk x k2)
theorem ej1T_any (x k:Int) (b:Nat) (hb:(⟨b,3,[.int .i64 k],1⟩:Blk)∈L) (hk:K (.bool (decide (x=k))) L h):Spec Tryz.prog 262 [.int .i64 x,.pointer (some ⟨b,0,none⟩)] L h K:=by
 refine Spec.frame1 hb ?_ hk
 refine Spec.entr fun ap _=>?_
 have hn:h b=noC:=ap.1
 refine x_enter Tryz.func262 rfl (rs:=[_]) rfl rfl mixed (by kernel_rfl) rfl rfl ?_
 refine xx ?_
 exact fin_here ⟨rfl,rfl,rfl⟩
theorem idxfT_any {xs:List Int} (o:Option (Nat×Nat)) (ho:okO o xs.length) (hl:xs.length≤1000) (k:Int) (b:Nat) (hb:(⟨b,3,[.int .i64 k],1⟩:Blk)∈L)
  (hyes:∀ i:Nat,i<xs.length→at0 xs i=k→(∀ j,j<i→at0 xs j≠k)→K (.int .i64 i) (oent 3 1 o (xs.map (.int .i64)) L) h)
  (hno:(∀ j,j<xs.length→at0 xs j≠k)→K (.int .i64 (-1)) (oent 3 1 o (xs.map (.int .i64)) L) h) :
  Spec Tryz.prog 331 [ovs o xs.length,.func (.func 262) #[] #[.pointer (some ⟨b,0,none⟩)]] (oent 3 1 o (xs.map (.int .i64)) L) h K:=by
 refine Spec.entr fun ap _=>?_
 have ax:=ap_here ap
 have hb2:=mem_oentU (e:=3) (sz:=1) (o:=o) (cs:=xs.map (.int .i64)) hb
 obtain ⟨a,c,ea,_⟩:=ovs_open ho
 refine x_enter Tryz.func331 rfl (rs:=[_]) rfl rfl mixed (by kernel_rfl) rfl rfl ?_
 refine xx ?_
 rw [ea]
 refine xx ?_
 rw [← ea]
 refine xloop (γ:=Nat) 0 (fun j=>j≤xs.length∧∀ i,i<j→at0 xs i≠k) (fun j=>[(8,.int .i64 j),(7,.int .i64 xs.length),(0,ovs o xs.length),(1,.func (.func 262) #[] #[.pointer (some ⟨b,0,none⟩)])]) (fun _=>oent 3 1 o (xs.map (.int .i64)) L) (fun _=>h) (fun j=>xs.length-j) ?_ ?_ ?_ ?_
 ·exact ⟨Nat.zero_le _,fun i hi=>by omega⟩
 ·simp [Ent,List.lookup,xEnv]
 ·exact Drop.refl _ _
 rintro j ⟨j1,j2⟩
 by_cases c1:j<xs.length
 ·obtain ⟨bx,cap,rfl⟩:∃ bx cap,o=some (bx,cap):=by
   cases o with
   | none=>have:xs.length=0:=ho; omega
   | some p=>exact ⟨_,_,rfl⟩
  have hbx:h bx=noC:=ax.2
  simp only [ovs_some,oent_some,Nat.mul_one] at hb2 hyes ⊢
  simp -dsimp -implicitDefEqProofs (disch:=first|with_reducible assumption|omega) [go_sem,xNth_ints]
  refine ej1T_any (at0 xs j) k b hb2 ?_
  by_cases c2:at0 xs j=k
  ·rw [decide_eq_true c2]
   refine xx ?_
   exact fin_here (hyes j c1 c2 j2)
  ·rw [decide_eq_false c2]
   refine xx ?_
   refine ⟨j+1,⟨by omega,fun i hi=>?_⟩,by omega,by simp [Ent,List.lookup],Drop.refl _ _⟩
   by_cases e:i=j
   ·subst e; exact c2
   ·exact j2 i (by omega)
 ·refine xx ?_
  exact fin_here (hno fun i hi=>j2 i (by omega))
theorem delfT_any {xs:List Int} (o:Option (Nat×Nat)) (ho:okO o xs.length) (hl:xs.length≤1000) (k:Int) (b:Nat) (hb:(⟨b,3,[.int .i64 k],1⟩:Blk)∈L)
  (hk:K (ovs o (flt xs k).length) (oent 3 1 o ((flt xs k).map (.int .i64)) L) h) :
  Spec Tryz.prog 261 [ovs o xs.length,.func (.func 262) #[] #[.pointer (some ⟨b,0,none⟩)]] (oent 3 1 o (xs.map (.int .i64)) L) h K:=by
 refine Spec.entr fun ap _=>?_
 have ax:=ap_here ap
 refine x_enter Tryz.func261 rfl (rs:=[_]) rfl rfl mixed (by kernel_rfl) rfl rfl ?_
 refine xx ?_
 refine idxfT_any o ho hl k b hb (fun i0 i1 i2 i3=>?_) (fun hn=>?_)
 ·obtain ⟨bx,cap,rfl⟩:∃ bx cap,o=some (bx,cap):=by
   cases o with
   | none=>have:xs.length=0:=ho; omega
   | some p=>exact ⟨_,_,rfl⟩
  have hbx:h bx=noC:=ax.2
  have hcap:xs.length≤cap:=ho.1
  simp only [ovs_some,oent_some,Nat.mul_one] at hk ⊢
  refine xx ?_
  refine xloop (γ:=Nat×Nat×List Int) (i0+1,i0,xs) (fun q=>q.2.1<q.1∧q.1≤xs.length∧q.2.2.length=xs.length∧q.2.2.take q.2.1=flt (xs.take q.1) k∧(flt (xs.take q.1) k).length=q.2.1∧∀ m,q.1≤m→at0 q.2.2 m=at0 xs m)
   (fun q=>[(6,.int .i64 q.1),(5,.int .i64 q.2.1),(0,.slice (some ⟨bx,0,none⟩) xs.length cap),(1,.func (.func 262) #[] #[.pointer (some ⟨b,0,none⟩)])])
   (fun q=>⟨bx,3,q.2.2.map (.int .i64),cap⟩::L) (fun _=>h) (fun q=>xs.length-q.1) ?_ ?_ ?_ ?_
  ·have e1:=flt_succ (k:=k) i1
   rw [if_neg (by simpa using i2),List.append_nil,flt_first (by omega) i3] at e1
   exact ⟨Nat.lt_succ_self i0,i1,rfl,e1.symm,by show (flt (xs.take (i0+1)) k).length=i0; rw [e1,List.length_take]; omega,fun _ _=>rfl⟩
  ·simp [Ent,List.lookup,xEnv]
  ·exact Drop.refl _ _
  rintro ⟨j,i,cs⟩ ⟨j1,j2,j3,j4,j5,j6⟩
  simp only at j1 j2 j3 j4 j5 j6 ⊢
  by_cases c1:j<xs.length
  ·have hat:=j6 j (Nat.le_refl _)
   have hs:=flt_succ (k:=k) c1
   simp -dsimp -implicitDefEqProofs (disch:=first|with_reducible assumption|omega) [go_sem,xNth_ints]
   rw [hat]
   refine ej1T_any (at0 xs j) k b (List.mem_cons_of_mem _ hb) ?_
   by_cases c2:at0 xs j=k
   ·rw [decide_eq_true c2]
    rw [if_neg (by simpa using c2),List.append_nil] at hs
    refine xx ?_
    exact ⟨j+1,i,cs,⟨by omega,by omega,j3,by rw [hs]; exact j4,by rw [hs]; exact j5,fun m hm=>j6 m (by omega)⟩,by omega,by simp [Ent,List.lookup],Drop.refl _ _⟩
   ·rw [decide_eq_false c2]
    rw [if_pos c2] at hs
    refine xx ?_
    refine ⟨by omega,?_⟩
    refine ⟨j+1,i+1,cs.set i (at0 xs j),⟨by omega,by omega,by rw [List.length_set]; exact j3,by rw [take_set_succ (by omega),j4,hs],by rw [hs,List.length_append,j5]; rfl,fun m hm=>?_⟩,by omega,by simp [Ent,List.lookup],by rw [List.map_set]; exact Drop.refl _ _⟩
    rw [at0_ne _ _ (by omega)]
    exact j6 m (by omega)
  ·have hj:j=xs.length:=by omega
   subst hj
   rw [List.take_length] at j4 j5
   have hcut:cutA (some ⟨bx,0,none⟩) cap i 1=some ⟨bx,i,none⟩:=by
    unfold cutA
    rw [if_neg (by omega)]
    simp [Addr.add]
    try (intro e; exact e.symm)
   simp -dsimp -implicitDefEqProofs (disch:=first|with_reducible assumption|omega) [go_sem,xSl_lo int27,hcut]
   refine xclear (by kernel_rfl) tI_3 rfl (by omega) ?_
   refine xx ?_
   refine ⟨by omega,?_⟩
   have e2:(wr (cs.map (Value.int .i64)) i (List.replicate (xs.length-i) (Value.int .i64 0))).take i=(flt xs k).map (.int .i64):=by
    rw [wr_eq _ _ _ (by simp; omega),List.append_assoc,List.take_append_of_le_length (by simp; omega),List.take_take,Nat.min_self,← List.map_take,j4]
   have e3:=drop_take bx 3 cap i (wr (cs.map (Value.int .i64)) i (List.replicate (xs.length-i) (Value.int .i64 0))) L h
   rw [e2] at e3
   rw [j5] at hk
   exact ⟨_,_,e3,hk⟩
 ·obtain ⟨a,c,ea,_⟩:=ovs_open ho
  rw [flt_none hn] at hk
  rw [ea]
  refine xx ?_
  rw [← ea]
  exact fin_here hk
theorem two_perm {e sz e2 sz2:Nat} {o o2:Option (Nat×Nat)} {xs ys:List Value} (A:Own) {L:Own}:(A++oent e sz o xs (oent e2 sz2 o2 ys L)).Perm (oent e2 sz2 o2 ys (A++oent e sz o xs L)) :=
 (List.Perm.append_left A (oent_swap o o2 xs ys L)).trans (oent_perm_app A)
theorem two_perm3 {e sz e2 sz2:Nat} {o o2:Option (Nat×Nat)} {xs ys:List Value} {a b c:Blk} {L:Own}:(a::b::c::oent e sz o xs (oent e2 sz2 o2 ys L)).Perm (oent e2 sz2 o2 ys (a::b::c::oent e sz o xs L)):=two_perm [a,b,c]
theorem perm3 {a b c:Blk} {L:Own}:(c::a::b::L).Perm (a::b::c::L):=(List.perm_middle (l₁:=[a,b])).symm
theorem tw_facts {x y z:Blk} {e1 s1 e2 s2:Nat} {o1 o2:Option (Nat×Nat)} {X1 X2:List Value} (ap:Ap (x::y::oent e1 s1 o1 X1 (oent e2 s2 o2 X2 (z::L))) h) (nd:Nd (x::y::oent e1 s1 o1 X1 (oent e2 s2 o2 X2 (z::L)))) :
  h x.b=noC∧h y.b=noC∧h z.b=noC∧y.b≠x.b∧x.b≠z.b∧y.b≠z.b∧apB o1 z.b∧apB o2 z.b:=by
 have hz:z∈oent e1 s1 o1 X1 (oent e2 s2 o2 X2 (z::L)):=mem_oentU (mem_oentU List.mem_cons_self)
 refine ⟨ap.1,ap.2.1,Ap.mem ap z (List.mem_cons_of_mem _ (List.mem_cons_of_mem _ hz)),nd.1.1,Ne.symm (of_apart nd.1.2 z hz),Ne.symm (of_apart nd.2.1 z hz),?_,?_⟩
 ·have n:=nd.2.2
  cases o1 with
  | none=>trivial
  | some p=>exact Ne.symm (of_apart n.1 z (mem_oentU List.mem_cons_self))
 ·have n:=nd.2.2
  cases o2 with
  | none=>trivial
  | some p2 =>
   cases o1 with
   | none=>exact Ne.symm n.1.1
   | some p=>exact Ne.symm n.2.1.1
abbrev outS (s:StD) (w:Int) (i:Nat):StD:={ s with exit:=flt s.exit i,members:=s.members.set i (endR (gr zeroM s.members i) 4),dues:=oweL s.dues (dueOf (min (s.ep+w) 2147483647) (gr zeroM s.members i)) }
theorem tout_any {bb bm cm:Nat} {oo ox:Option (Nat×Nat)} {s:StD} {v:SV} {r:RepD} {q:RV} {w:Int} (hm:v.m = .slice (some ⟨bm,0,none⟩) s.members.length cm) (hml:s.members.length≤900) (mo:∀ x∈s.members,MemOk x) (hd:Recs dueC 3 h v.d s.dues) (hdo:∀ x∈s.dues,DueOk x) (hl:s.dues.length≤32000) (i:Nat) (hi:i<s.members.length) (how:0≤(gr zeroM s.members i).owner∧(gr zeroM s.members i).owner≤63) (hw:0≤w∧w≤1000) (hep:0≤s.ep∧s.ep≤1073741824) (hs:dTot s.dues+(gr zeroM s.members i).bal≤4611686018427387904)
  (hx:v.x=ovs ox s.exit.length) (okx:okO ox s.exit.length) (hxl:s.exit.length≤900) (ho:q.o=ovs oo r.out.length) (oko:okO oo r.out.length) (hol:r.out.length≤900)
  (hk:∀ h' r' oo',PH.le h h'→Recs dueC 3 h' r' (outS s w i).dues→okO oo' (r.out.length+1)→K (.tuple #[]) (tB bb (outS s w i) { v with d:=r',x:=ovs ox (flt s.exit i).length } { r with out:=r.out++[(i:Int)] } { q with o:=ovs oo' (r.out.length+1) } w::tM bm cm (outS s w i).members::oent 3 1 oo' ((r.out++[(i:Int)]).map (.int .i64)) (oent 3 1 ox ((flt s.exit i).map (.int .i64)) L)) h') :
  Spec Tryz.prog 153 [.pointer (some ⟨bb,0,none⟩),.int .i64 i] (tB bb s v r q w::tM bm cm s.members::oent 3 1 oo (r.out.map (.int .i64)) (oent 3 1 ox (s.exit.map (.int .i64)) L)) h K:=by
 have hfk:=flt_len s.exit i
 refine x_enterA Tryz.func153 rfl (rs:=[]) rfl rfl mixed (by kernel_rfl) rfl rfl fun ap nd=>?_
 have hbb:h bb=noC:=ap.1
 have hbm:h bm=noC:=ap.2.1
 have nmb:bm≠bb:=nd.1.1
 clear ap nd
 refine xx ?_
 refine xnew fun b3 n_b3 h_b3=>?_
 try simp only [Apart] at n_b3
 have n3b:=n_b3.1
 have n3m:=n_b3.2.1
 clear n_b3
 simp -dsimp -implicitDefEqProofs (disch:=first|with_reducible assumption|omega) [go_sem,hx]
 refine Spec.fin (Spec.weaken (Drop.perm h two_perm3) (delfT_any ox okx (by omega) i b3 List.mem_cons_self ⟨_,_,Drop.perm h two_perm3.symm,?_⟩))
 obtain ⟨ys,hys⟩:∃ ys,ys=flt s.exit i:=⟨_,rfl⟩
 simp only [outS,← hys] at hk hfk ⊢
 try simp only [List.cons_append,List.nil_append]
 refine xx ?_
 refine Spec.fin (Spec.weaken (Drop.perm h perm3) (Spec.ap (tend_any (s:={ s with exit:=ys }) (v:={ v with x:=ovs ox ys.length }) hm (by show s.members.length≤_; omega) mo hd hdo hl i hi how 4 hw hep hs fun h1 r1 le1 i1 ap=>⟨_,_,Drop.perm _ perm3.symm,?_⟩)))
 have hbb1:h1 bb=noC:=ap.1
 have hbm1:h1 bm=noC:=ap.2.1
 have hb31:h1 b3=noC:=ap.2.2.1
 clear ap
 try simp only [List.cons_append,List.nil_append]
 refine xx ?_
 refine xanyl (.tk 0 (.tk 1 (.tk 2 (.tk 3 (.tk 4 (.tkl 5 (.tkl 6 (.or true 7 (.or true 8 (.tk 9 (.tk 10 (.tk 11 (.or false 12 (.fin) (.nil))))) (.nil)) (.nil))))))))) (by kernel_rfl) (by kernel_rfl) [_,_,_] (drop_left [_,_,_] _ _) ?_
 simp -dsimp -implicitDefEqProofs (disch:=first|with_reducible assumption|omega) [go_sem,ho]
 refine xnew fun b7 n_b7 h_b7=>?_
 try simp only [Apart] at n_b7
 have n7b:=n_b7.2.1
 have n73:=n_b7.1
 clear n_b7
 first
 | refine xkp ((Drop.tail _ _ _).trans (drop_left [_,_,_] _ _)) ?_
 | skip
 simp -dsimp -implicitDefEqProofs (disch:=first|with_reducible assumption|omega) [go_sem,ho]
 refine xappend (t:=32) (e:=3) (sz:=1) (bytes:=8) (z:=[.int .i64 0]) (by kernel_rfl) tI_3 rfl rfl rfl rfl (by decide) [_,_,_,_] _ oo r.out.length (r.out.map (.int .i64)) oko (by simp) (Src.own (b:=b7) (t:=3) (cap:=1) List.mem_cons_self) (m:=1) (news:=[.int .i64 i]) rfl (fun u hu=>by simp at hu; subst hu; rfl) (by simp [maxLen]; omega) (by omega) ?_
 intro o' j1 j2 j3
 try simp only [List.cons_append,List.nil_append]
 first
 | refine xkp ((Drop.tail _ _ _).trans (drop_left [_,_,_] _ _)) ?_
 | skip
 refine xx ?_
 have:=hk h1 r1 o' le1 i1 j1
 simp only [List.map_append,List.map_cons,List.map_nil] at this
 exact fin_tail (fin_tail (fin_here this))
theorem tej1_any {bb bm cm bx:Nat} {oo ox:Option (Nat×Nat)} {s:StD} {v:SV} {r:RepD} {q:RV} {w:Int} (hm:v.m = .slice (some ⟨bm,0,none⟩) s.members.length cm) (hml:s.members.length≤900) (mo:∀ x∈s.members,MemOk x) (hd:Recs dueC 3 h v.d s.dues) (hdo:∀ x∈s.dues,DueOk x) (hl:s.dues.length≤32000) (i:Nat) (hi:i<s.members.length) (how:0≤(gr zeroM s.members i).owner∧(gr zeroM s.members i).owner≤63) (hw:0≤w∧w≤1000) (hep:0≤s.ep∧s.ep≤1073741824) (hs:dTot s.dues+(gr zeroM s.members i).bal≤4611686018427387904)
  (hx:v.x=ovs ox s.exit.length) (okx:okO ox s.exit.length) (hxl:s.exit.length≤900) (ho:q.o=ovs oo r.out.length) (oko:okO oo r.out.length) (hol:r.out.length≤900)
  (hk:(gr zeroM s.members i).bal≤s.par.floor→∀ h' r' oo',PH.le h h'→Recs dueC 3 h' r' (outS s w i).dues→okO oo' (r.out.length+1)→K (.tuple #[]) (tB bb (outS s w i) { v with d:=r',x:=ovs ox (flt s.exit i).length } { r with out:=r.out++[(i:Int)] } { q with o:=ovs oo' (r.out.length+1) } w::tM bm cm (outS s w i).members::oent 3 1 oo' ((r.out++[(i:Int)]).map (.int .i64)) (oent 3 1 ox ((flt s.exit i).map (.int .i64)) (tX bx bb::L))) h')
  (hno:¬ (gr zeroM s.members i).bal≤s.par.floor→K (.tuple #[]) (tB bb s v r q w::tM bm cm s.members::oent 3 1 oo (r.out.map (.int .i64)) (oent 3 1 ox (s.exit.map (.int .i64)) (tX bx bb::L))) h) :
  Spec Tryz.prog 152 [.int .i64 i,.pointer (some ⟨bm,i*6,none⟩),.pointer (some ⟨bx,0,none⟩)] (tB bb s v r q w::tM bm cm s.members::oent 3 1 oo (r.out.map (.int .i64)) (oent 3 1 ox (s.exit.map (.int .i64)) (tX bx bb::L))) h K:=by
 refine x_enterA Tryz.func152 rfl (rs:=[]) rfl rfl mixed (by kernel_rfl) rfl rfl fun ap nd=>?_
 obtain ⟨hbb,hbm,hbx,nmb,nbx,nmx,pox,pxx⟩:=tw_facts ap nd
 simp only at hbb hbm hbx nmb nbx nmx pox pxx
 clear ap nd
 obtain ⟨g0,g1,g2,g3,g4,g5⟩:=memT hi
 refine xx ?_
 refine xdraw (by kernel_rfl) rfl ?_
 simp -dsimp -implicitDefEqProofs (disch:=first|with_reducible assumption|omega) [go_sem,g0,xFind_oent pox,xFind_oent pxx]
 by_cases c:(gr zeroM s.members i).bal≤s.par.floor
 ·have hk:=hk c
  simp -dsimp -implicitDefEqProofs (disch:=first|with_reducible assumption|omega) [go_sem,xFind_oent pox,xFind_oent pxx]
  refine tout_any hm hml mo hd hdo hl i hi how hw hep hs hx okx hxl ho oko hol fun h' r' oo' le' i' ok'=>?_
  have hk:=hk h' r' oo' le' i' ok'
  simp only [List.map_append,List.map_cons,List.map_nil] at hk
  refine xx ?_
  exact fin_here hk
 ·have hno:=hno c
  refine xx ?_
  exact fin_here hno
structure EjG where
 k:Nat
 h:PH
 d:Value
 o:Option (Nat×Nat)
theorem exN_flt {q:ParD} {cs:List MemD} {xs:List Int} {k:Nat}:exN q cs xs (k+1)=if ejP q (gr zeroM cs k) then flt (exN q cs xs k) k else exN q cs xs k:=rfl
theorem ejS_no {s:StD} {t:Int} {k:Nat} (hk:k<s.members.length) (c4:¬ ejP s.par (gr zeroM s.members k)):ejS s t (k+1)=ejS s t k:=by
 have u1:upN (ejF s.par) s.members (k+1)=upN (ejF s.par) s.members k:=upN_same _ _ (by omega) (if_neg c4)
 have u2:duN s.par s.members t s.dues (k+1)=duN s.par s.members t s.dues k:=by rw [duN,if_neg c4]
 have u3:exN s.par s.members s.exit (k+1)=exN s.par s.members s.exit k:=by rw [exN_flt,if_neg c4]
 simp only [ejS,u1,u2,u3]
theorem ejR_no {s:StD} {r:RepD} {k:Nat} (c4:¬ ejP s.par (gr zeroM s.members k)):ejR s r (k+1)=ejR s r k:=by
 unfold ejR
 rw [ouN,if_neg c4]
theorem oent_sub {e sz:Nat} {o:Option (Nat×Nat)} (xs:List Value) {X Y:Own} (hp:X.Sublist Y):(oent e sz o xs X).Sublist (oent e sz o xs Y):=by
 cases o with
 | none=>exact hp
 | some p=>exact hp.cons_cons _
theorem teject_any {bb D:Nat} {om oo ox:Option (Nat×Nat)} {s:StD} {v:SV} {r:RepD} {q:RV} {w:Int} (ti:TkI s D) (hD:D≤30000) (hd:Recs dueC 3 h v.d s.dues) (hm:v.m=ovs om s.members.length) (okm:okO om s.members.length) (hw:0≤w∧w≤1000)
  (hx:v.x=ovs ox s.exit.length) (okx:okO ox s.exit.length) (ho:q.o=ovs oo r.out.length) (oko:okO oo r.out.length) (hol:r.out.length≤700)
  (hk:∀ h' d' oo',PH.le h h'→Recs dueC 3 h' d' (ejS s (min (s.ep+w) 2147483647) s.members.length).dues→okO oo' (ejR s r s.members.length).out.length→K (.tuple #[]) (tB bb (ejS s (min (s.ep+w) 2147483647) s.members.length) { v with d:=d',x:=ovs ox (ejS s (min (s.ep+w) 2147483647) s.members.length).exit.length } (ejR s r s.members.length) { q with o:=ovs oo' (ejR s r s.members.length).out.length } w::tMo om (ejS s (min (s.ep+w) 2147483647) s.members.length).members (oent 3 1 oo' ((ejR s r s.members.length).out.map (.int .i64)) (oent 3 1 ox ((ejS s (min (s.ep+w) 2147483647) s.members.length).exit.map (.int .i64)) L))) h') :
  Spec Tryz.prog 74 [.pointer (some ⟨bb,0,none⟩)] (tB bb s v r q w::tMo om s.members (oent 3 1 oo (r.out.map (.int .i64)) (oent 3 1 ox (s.exit.map (.int .i64)) L))) h K:=by
 have hep:=ti.ep
 have ht:0≤min (s.ep+w) 2147483647∧min (s.ep+w) 2147483647≤2147483647:=by omega
 have hml:=ti.ml
 have hxl:=row_len ti.ex
 have hdn:=ti.dn
 obtain ⟨b1,b2,b3,b4,b5,b6⟩:=ti.parts
 have hsum:=ti.sum
 obtain ⟨t,hte⟩:∃ t,t=min (s.ep+w) 2147483647:=⟨_,rfl⟩
 rw [← hte] at hk ht
 obtain ⟨n,hn⟩:∃ n,n=s.members.length:=⟨_,rfl⟩
 rw [← hn] at hk
 have hej:=fun k (hk:k≤s.members.length)=>ej_ok (q:=s.par) (t:=t) ti.be ti.ex ti.dd ht (by omega) k hk
 have hll:=fun k=>upN_len (ejF s.par) s.members k
 refine x_enterA Tryz.func74 rfl (rs:=[]) rfl rfl mixed (by kernel_rfl) rfl rfl fun ap nd=>?_
 have hbb:h bb=noC:=ap.1
 have hbm:apO om [] h:=ap_here ap.2
 have nmb:apB om bb:=apart_here nd.1
 clear ap nd
 refine xx ?_
 refine xnew fun bx n_bx h_bx=>?_
 try simp only [Apart] at n_bx
 have nxb:=n_bx.1
 refine xx ?_
 have eR:ejR s r 0=r:=by simp [ejR,ouN]
 have eV:({ v with d:=v.d,x:=ovs ox (ejS s t 0).exit.length }:SV)=v:=by rw [show (ejS s t 0).exit=s.exit from rfl,← hx]
 have eQ:({ q with o:=ovs oo (ejR s r 0).out.length }:RV)=q:=by rw [eR,← ho]
 refine Spec.weaken (L':=tB bb (ejS s t 0) { v with d:=v.d,x:=ovs ox (ejS s t 0).exit.length } (ejR s r 0) { q with o:=ovs oo (ejR s r 0).out.length } w::tMo om (ejS s t 0).members (oent 3 1 oo ((ejR s r 0).out.map (.int .i64)) (oent 3 1 ox ((ejS s t 0).exit.map (.int .i64)) (tX bx bb::L)))) (Drop.perm h ?_) ?_
 ·rw [eV,eQ,eR]
  exact (List.Perm.swap _ _ _).trans (List.Perm.cons _ (oent_perm.trans (oent_congr om _ (oent_perm.trans (oent_congr oo _ oent_perm)))))
 refine counting_any (cl:=152) (cap:=[.pointer (some ⟨bx,0,none⟩)]) (n:=n) (γ:=EjG)
  (fun j x=>x.k=j∧j≤n∧PH.le h x.h∧Recs dueC 3 x.h x.d (ejS s t x.k).dues∧okO x.o (ejR s r x.k).out.length∧x.h bb=noC∧apO om [] x.h)
  (fun x=>ejS s t x.k) (fun x=>{ v with d:=x.d,x:=ovs ox (ejS s t x.k).exit.length }) (fun x=>ejR s r x.k) (fun x=>{ q with o:=ovs x.o (ejR s r x.k).out.length })
  (fun x=>oent 3 1 x.o ((ejR s r x.k).out.map (.int .i64)) (oent 3 1 ox ((ejS s t x.k).exit.map (.int .i64)) (tX bx bb::L))) (fun x=>x.h) ⟨0,h,v.d,oo⟩ (by omega) (by rw [hn]; exact okm) ?_ nmb ?_ ?_ ?_ ?_
 ·rintro k x ⟨rfl,e2,e3,e4,e5,e6,e7⟩
  exact ⟨by rw [hn]; exact hm,by rw [hn]; exact hll _,e6,e7⟩
 ·rintro bm cm rfl k ⟨k,h1,d1,o1⟩ c1 ⟨rfl,e2,e3,e4,e5,e6,e7⟩ c2
  simp only at c1 e2 e3 e4 e5 e6 e7 c2 ⊢
  have eo:=hej k (by omega)
  have hlk:=hll k
  have hat:=upN_at (ejF s.par) s.members (k:=k) (by omega)
  have hbe:BeM (upN (ejF s.par) s.members k) s.purses:=ti.be.upN (fun m hm=>⟨ejF_ok hm,ejF_f _ m⟩) (by omega)
  have hbl:=hbe.bl (i:=k) (by omega)
  have how:=(hbe.at (i:=k) (by omega)).2
  have hpl:=ti.pl
  have how2:0≤(gr zeroM (upN (ejF s.par) s.members k) k).owner∧(gr zeroM (upN (ejF s.par) s.members k) k).owner≤63:=by omega
  have hep2:0≤s.ep∧s.ep≤1073741824:=by omega
  have eot:=eo.t
  have eon:=eo.n
  have hexl:=exN_len s.par s.members s.exit k
  have houl:=ouN_len s.par s.members k
  have hrl:(ejR s r k).out.length=r.out.length+(ouN s.par s.members k).length:=List.length_append
  have c2':cntM (gr zeroM s.members k):=by rw [← hat]; exact c2
  refine Spec.apn (tej1_any (s:=ejS s t k) (v:={ v with d:=d1,x:=ovs ox (ejS s t k).exit.length }) (r:=ejR s r k) (q:={ q with o:=ovs o1 (ejR s r k).out.length }) (oo:=o1) (ox:=ox) (by show v.m=_; rw [hm]; show Value.slice _ s.members.length cm = .slice _ (upN (ejF s.par) s.members k).length cm; rw [hlk]) (by show (upN (ejF s.par) s.members k).length≤900; omega) hbe.m e4 (fun x hx=>(eo.d x hx).1) (by show (duN s.par s.members t s.dues k).length≤32000; omega) k (by show k<(upN (ejF s.par) s.members k).length; omega) how2 hw hep2 (by show dTot (duN s.par s.members t s.dues k)+(gr zeroM (upN (ejF s.par) s.members k) k).bal≤_; omega) rfl (okO_le okx hexl) (by show (exN s.par s.members s.exit k).length≤900; omega) rfl e5 (by rw [hrl]; omega) (fun c3 h2 d2 o2 le2 i2 ok2 ap nd=>?_) (fun c3 ap nd=>?_))
  ·have c4:ejP s.par (gr zeroM s.members k):=⟨c2',by rw [← hat]; exact c3⟩
   have s1:ejS s t (k+1)=outS (ejS s t k) w k:=by
    have u1:upN (ejF s.par) s.members (k+1)=(upN (ejF s.par) s.members k).set k (endR (gr zeroM (upN (ejF s.par) s.members k) k) 4):=by
     rw [upN,hat,ejF,if_pos c4]; rfl
    have u2:duN s.par s.members t s.dues (k+1)=oweL (duN s.par s.members t s.dues k) (dueOf t (gr zeroM (upN (ejF s.par) s.members k) k)):=by rw [duN,if_pos c4,hat]
    have u3:exN s.par s.members s.exit (k+1)=flt (exN s.par s.members s.exit k) k:=by rw [exN_flt,if_pos c4]
    show ({ s with members:=upN (ejF s.par) s.members (k+1),dues:=duN s.par s.members t s.dues (k+1),exit:=exN s.par s.members s.exit (k+1) }:StD)={ s with members:=(upN (ejF s.par) s.members k).set k (endR (gr zeroM (upN (ejF s.par) s.members k) k) 4),dues:=oweL (duN s.par s.members t s.dues k) (dueOf (min (s.ep+w) 2147483647) (gr zeroM (upN (ejF s.par) s.members k) k)),exit:=flt (exN s.par s.members s.exit k) k }
    rw [u1,u2,u3,← hte]
   have s2:(ejR s r (k+1)).out=(ejR s r k).out++[(k:Int)]:=by
    show r.out++ouN s.par s.members (k+1)=r.out++ouN s.par s.members k++[(k:Int)]
    rw [ouN,if_pos c4,List.append_assoc]
   have s3:(ejR s r (k+1)).out.length=(ejR s r k).out.length+1:=by rw [s2,List.length_append]; rfl
   have s4:ejR s r (k+1)={ ejR s r k with out:=(ejR s r k).out++[(k:Int)] }:=by rw [← s2]; rfl
   refine ⟨⟨k+1,h2,d2,o2⟩,⟨rfl,by omega,e3.trans le2,by rw [s1]; exact i2,by rw [s3]; exact ok2,ap.1,trivial,ap.2.1⟩,?_⟩
   simp only
   rw [s1,s3,s4]
   exact Drop.refl _ _
  ·have c4:¬ ejP s.par (gr zeroM s.members k):=fun c=>c3 (by show (gr zeroM (upN (ejF s.par) s.members k) k).bal≤_; rw [hat]; exact c.2)
   have s1:ejS s t (k+1)=ejS s t k:=ejS_no (by omega) c4
   have s4:ejR s r (k+1)=ejR s r k:=ejR_no c4
   refine ⟨⟨k+1,h1,d1,o1⟩,⟨rfl,by omega,e3,by rw [s1]; exact e4,by rw [s4]; exact e5,e6,e7⟩,?_⟩
   simp only
   rw [s1,s4]
   exact Drop.refl _ _
 ·rintro k ⟨k,h1,d1,o1⟩ c1 ⟨rfl,e2,e3,e4,e5,e6,e7⟩ c2
  simp only at c1 e2 e3 e4 e5 e6 e7 c2 ⊢
  have hat:=upN_at (ejF s.par) s.members (k:=k) (by omega)
  have c4:¬ ejP s.par (gr zeroM s.members k):=fun c=>c2 (by show cntM (gr zeroM (upN (ejF s.par) s.members k) k); rw [hat]; exact c.1)
  have s1:ejS s t (k+1)=ejS s t k:=ejS_no (by omega) c4
  have s4:ejR s r (k+1)=ejR s r k:=ejR_no c4
  refine ⟨⟨k+1,h1,d1,o1⟩,⟨rfl,by omega,e3,by rw [s1]; exact e4,by rw [s4]; exact e5,e6,e7⟩,?_⟩
  simp only
  rw [s1,s4]
  exact Drop.refl _ _
 ·exact ⟨rfl,Nat.zero_le _,PH.le_refl _,hd,by simpa [ejR,ouN] using oko,hbb,hbm⟩
 ·rintro ⟨k,h1,d1,o1⟩ ⟨e1,e2,e3,e4,e5,e6,e7⟩
  simp only at e1 e2 e3 e4 e5 e6 e7 ⊢
  subst e1
  refine xx ?_
  exact ⟨_,_,Drop.sub (.cons_cons _ (oent_sub _ (oent_sub _ (oent_sub _ (List.sublist_cons_self _ _))))),hk h1 d1 o1 e3 e4 e5⟩
theorem stdSet {ms:List MemD} {i:Nat} (hi:i<ms.length) (m:MemD) (ho:m.owner=(gr zeroM ms i).owner) (hs:m.status=(gr zeroM ms i).status) :
  ((((ms.flatMap memC).set (i*6) (.int .u64 m.bal)).set (i*6+1) (.int .u64 m.eff)).set (i*6+1+1) (.int .u64 m.score)).set (i*6+1+1+1) (.int .i64 m.streak)=(ms.set i m).flatMap memC:=by
 have h1:=fset4 hi (gr zeroM ms i) m ho hs
 have e:ms.set i (gr zeroM ms i)=ms:=by rw [gr_lt hi,List.set_getElem_self]
 rw [e] at h1
 exact h1
theorem perm2o {e sz:Nat} {o:Option (Nat×Nat)} {xs:List Value} {a b:Blk} {L:Own}:(a::b::oent e sz o xs L).Perm (oent e sz o xs (a::b::L)):=oent_perm_app [a,b]
theorem perm2m {e sz:Nat} {o:Option (Nat×Nat)} {xs:List Value} {a b:Blk} {L:Own}:(a::b::oent e sz o xs L).Perm (b::oent e sz o xs (a::L)):=(List.Perm.swap _ _ _).trans (List.Perm.cons _ oent_perm)
theorem apO_two {e sz:Nat} {o:Option (Nat×Nat)} {xs:List Value} {x y:Blk} (hx:apB o x.b) (hy:apB o y.b) (nd:Nd (oent e sz o xs L)) (ha:apO o [] h):apO o (x::y::L) h:=by
 cases o with
 | none=>trivial
 | some p=>exact ⟨⟨Ne.symm hx,Ne.symm hy,nd.1⟩,ha.2⟩
theorem th_facts {x y z:Blk} (ap:Ap (x::y::z::L) h) (nd:Nd (x::y::z::L)):h x.b=noC∧h y.b=noC∧h z.b=noC∧y.b≠x.b∧x.b≠z.b∧y.b≠z.b :=
 ⟨ap.1,ap.2.1,ap.2.2.1,nd.1.1,Ne.symm nd.1.2.1,Ne.symm nd.2.1.1⟩
theorem twgc_any {bb bm cm bx:Nat} {s:StD} {v:SV} {r:RepD} {q:RV} {w:Int} (ok:ParOk s.par) (hr:parR s.par=true) (hk0:Ints h .u8 v.k s.marks) (mo:∀ x∈s.members,MemOk x) (i:Nat) (hi:i<s.members.length) (hml:s.members.length≤900)
  (hk:K (.tuple #[]) (tB bb { s with members:=s.members.set i (afterM s.par (gr zeroM s.members i) (getB s.marks i) r.mode) } v r q w::tM bm cm (s.members.set i (afterM s.par (gr zeroM s.members i) (getB s.marks i) r.mode))::tX bx bb::L) h) :
  Spec Tryz.prog 140 [.int .i64 i,.pointer (some ⟨bm,i*6,none⟩),.pointer (some ⟨bx,0,none⟩)] (tB bb s v r q w::tM bm cm s.members::tX bx bb::L) h K:=by
 refine x_enterA Tryz.func140 rfl (rs:=[]) rfl rfl mixed (by kernel_rfl) rfl rfl fun ap nd=>?_
 obtain ⟨hbb,hbm,hbx,nmb,nbx,nmx⟩:=th_facts ap nd
 simp only at hbb hbm hbx nmb nbx nmx
 clear ap nd
 obtain ⟨g0,g1,g2,g3,g4,g5⟩:=memT hi
 have hi6:=flat_lt (w:=6) hi (show 3<6 by decide)
 have hsum:=memS (ms:=s.members) rfl
 refine xanyl (.tk 0 (.tk 6 (.tk 7 (.tk 8 (.tk 11 (.tkl 1 (.tk 2 (.tk 3 (.tk 4 (.tkl 5 (.tkl 9 (.tkl 10 (.tkl 13 (.tk 14 (.tk 15 (.tk 16 (.tkl 17 (.or true 12 (.or true 18 (.tk 19 (.tk 20 (.or false 21 (.fin) (.nil)))) (.nil)) (.nil))))))))))))))))))) (by kernel_rfl) (by kernel_rfl) _ (Drop.refl _ _) ?_
 simp -dsimp -implicitDefEqProofs (disch:=first|with_reducible assumption|omega) [go_sem,g0,g1,g2,g3]
 refine tthere_any hk0 i (by omega) ?_
 refine xx ?_
 refine safter_any s.par ok hr (gr zeroM s.members i) (mo _ (gr_mem hi)) (getB s.marks i) r.mode ?_
 refine xx ?_
 refine ⟨by omega,?_⟩
 rw [stdSet hi (afterM s.par (gr zeroM s.members i) (getB s.marks i) r.mode) (by unfold afterM; split<;>rfl) (by unfold afterM; split<;>rfl)]
 exact fin_here hk
theorem tweigh_any {bb D : Nat} {om : Option (Nat × Nat)} {s : StD} {v : SV} {r : RepD} {q : RV} {w : Int} (ti : TkI s D) (hA : actS s ≤ 140737488355328) (hk0 : Ints h .u8 v.k s.marks) (hm : v.m = ovs om s.members.length) (okm : okO om s.members.length)
    (hk:∀ h',PH.le h h'→K (.tuple #[]) (tB bb (wgS s) v (wgR s r) q w::tMo om (wgS s).members L) h') :
    Spec Tryz.prog 71 [.pointer (some ⟨bb,0,none⟩)] (tB bb s v r q w::tMo om s.members L) h K:=by
  obtain ⟨vp,vm,ve,vx,vo,vd,vt,vk,vr⟩:=v
  simp only at hm hk0 hk ⊢
  subst hm
  have hml:=ti.ml
  have hpre:=pre_le (ks:=s.marks) ti.be.m
  obtain ⟨a1,a2,a3,a4,a5,a6,a7⟩:=ti.ok.all
  obtain ⟨n,hn⟩:∃ n,n=s.members.length:=⟨_,rfl⟩
  refine x_enterA Tryz.func71 rfl (rs:=[]) rfl rfl mixed (by kernel_rfl) rfl rfl fun ap nd=>?_
  have hbb:h bb=noC:=ap.1
  have hbm:apO om [] h:=ap_here ap.2
  have nmb:apB om bb:=apart_here nd.1
  have ndo:=nd.2
  clear ap nd
  refine xx ?_
  refine xnew fun bx n_bx h_bx=>?_
  try simp only [Apart] at n_bx
  have nbx:=n_bx.1
  have nmx:apB om bx:=apart_here n_bx.2
  refine xx ?_
  have hapO:apO om (tX bx bb::tB bb s ⟨vp,ovs om s.members.length,ve,vx,vo,vd,vt,vk,vr⟩ r q w::L) h:=apO_two nmx nmb ndo hbm
  refine xany_cut (.tkl 0 (.tkl 2 (.tk 3 (.tk 4 (.tk 5 (.tkl 6 (.tkl 7 (.tk 8 (.tk 9 (.tk 10 (.tkl 11 (.or true 1 (.or true 12 (.tk 13 (.tk 14 (.tk 15 (.tk 16 (.tk 17 (.tk 18 (.tk 19 (.or false 20 (.tk 21 (.tk 22 (.tk 23 (.or false 24 (.fin) (.nil))))) (.nil))))))))) (.nil)) (.or true 12 (.tk 13 (.tk 14 (.tk 15 (.tk 16 (.tk 17 (.tk 18 (.tk 19 (.or true 1 (.or false 20 (.tk 21 (.tk 22 (.tk 23 (.or false 24 (.fin) (.nil))))) (.nil)) (.or false 20 (.or true 1 (.tk 21 (.tk 22 (.tk 23 (.or false 24 (.fin) (.nil))))) (.nil)) (.nil)))))))))) (.nil)))))))))))))) (by kernel_rfl) (by kernel_rfl) [(1,.pointer (some ⟨bx,0,none⟩))] _ (γ:=PH) (fun h1=>PH.le h h1∧h1 bb=noC∧apO om [] h1∧h1 bx=noC) (fun _=>[(1,.pointer (some ⟨bx,0,none⟩))])
    (fun _=>tX bx bb::tB bb s ⟨vp,ovs om s.members.length,ve,vx,vo,vd,vt,vk,vr⟩ { r with pres:=preS s,act:=actS s } q w::tMo om s.members L) (fun h1=>h1) (by simp [Ent,List.lookup,xEnv]) (Drop.refl _ _) ?_ ?_
  · repeat' first
      | with_reducible refine xpl_or ?_ ?_
      | simp -dsimp -implicitDefEqProofs (disch:=first|with_reducible assumption|omega) [go_sem]
      | (with_reducible show xCall Tryz.prog 136 _ _ _ _
         refine Spec.fin (Spec.weaken (Drop.perm h perm2o) (Spec.ap (mstakesO_any (l:=s.members) (ks:=s.marks) om okm hapO _ ti.be.m hk0 (by omega) (by show actS s≤_; omega) fun h1 le1 ap=>⟨_,_,Drop.perm _ perm2o.symm,?_⟩)))
         have hbm1:apO om [] h1:=ap_here ap
         have hbx1:h1 bx=noC:=(Ap.oent ap).1
         have hbb1:h1 bb=noC:=(Ap.oent ap).2.1
         clear ap)
      | with_reducible refine xkp (Drop.forget le1) ?_
    all_goals exact ⟨h1,⟨le1,hbb1,hbm1,hbx1⟩,by simp [Ent,List.lookup],Drop.refl _ _⟩
  rintro h1 ⟨le1,hbb1,hbm1,hbx1⟩
  try simp only
  refine xx ?_
  refine xany_cut (.tkl 0 (.tkl 2 (.tk 3 (.tk 4 (.tk 5 (.tkl 6 (.tkl 7 (.tk 8 (.tk 9 (.tk 10 (.tkl 11 (.tkl 12 (.tk 13 (.tk 14 (.tk 15 (.tkl 16 (.tkl 17 (.tk 18 (.tk 19 (.tk 20 (.tkl 21 (.or true 1 (.or true 22 (.tk 23 (.tk 24 (.tk 25 (.tk 26 (.tk 27 (.tk 28 (.or false 29 (.tk 30 (.tk 31 (.tk 32 (.or false 33 (.fin) (.nil))))) (.nil)))))))) (.nil)) (.or true 22 (.tk 23 (.tk 24 (.tk 25 (.tk 26 (.tk 27 (.tk 28 (.or true 1 (.or false 29 (.tk 30 (.tk 31 (.tk 32 (.or false 33 (.fin) (.nil))))) (.nil)) (.or false 29 (.or true 1 (.tk 30 (.tk 31 (.tk 32 (.or false 33 (.fin) (.nil))))) (.nil)) (.nil))))))))) (.nil)))))))))))))))))))))))) (by kernel_rfl) (by kernel_rfl) [(1,.pointer (some ⟨bx,0,none⟩))] _ (γ:=Unit) (fun _=>True) (fun _=>[(1,.pointer (some ⟨bx,0,none⟩))])
    (fun _=>tX bx bb::tB bb { s with calm:=(stepP s.calm (preS s) (actS s)).1 } ⟨vp,ovs om s.members.length,ve,vx,vo,vd,vt,vk,vr⟩ { r with pres:=preS s,act:=actS s,quo:=(stepP s.calm (preS s) (actS s)).2 } q w::tMo om s.members L) (fun _=>h1) (by simp [Ent,List.lookup,xEnv]) (Drop.refl _ _) ?_ ?_
  · repeat' first
      | with_reducible refine xpl_or ?_ ?_
      | simp -dsimp -implicitDefEqProofs (disch:=first|with_reducible assumption|omega) [go_sem]
      | (with_reducible show xCall Tryz.prog 137 _ _ _ _
         refine mstep_any s.par s.calm (preS s) (actS s) ⟨hpre.1,by have:preS s≤actS s:=hpre.2; omega⟩ ⟨by have:0≤preS s∧preS s≤actS s:=hpre; omega,by omega⟩ a7 ?_)
      | with_reducible refine xkp (Drop.refl _ _) ?_
    all_goals exact ⟨by simp [Ent,List.lookup],Drop.refl _ _⟩
  rintro _ _
  refine xx ?_
  refine xanyl (.tkl 0 (.tkl 1 (.tk 2 (.tk 3 (.tk 4 (.tkl 5 (.tkl 6 (.tk 7 (.tk 8 (.tk 9 (.tkl 10 (.tkl 11 (.tk 12 (.tk 13 (.tk 14 (.tkl 15 (.or true 16 (.tk 17 (.tk 18 (.tk 19 (.or false 20 (.fin) (.nil))))) (.nil)))))))))))))))))) (by kernel_rfl) (by kernel_rfl) _ (Drop.refl _ _) ?_
  refine xx ?_
  refine mof_any s.par (stepP s.calm (preS s) (actS s)).1 s.emer ?_
  refine xx ?_
  refine Spec.weaken (Drop.perm h1 perm2m) ?_
  refine counting_any (cl:=140) (cap:=[.pointer (some ⟨bx,0,none⟩)]) (n:=n) (γ:=Nat) (fun j x=>x=j∧j≤n) (fun k=>{ s with calm:=(stepP s.calm (preS s) (actS s)).1,members:=upI (wgF s.par s.marks (modeS s)) s.members k }) (fun _=>⟨vp,ovs om s.members.length,ve,vx,vo,vd,vt,vk,vr⟩) (fun _=>wgR s r) (fun _=>q) (fun _=>tX bx bb::L) (fun _=>h1) 0 (by omega) (by rw [hn]; exact okm) ?_ nmb ?_ ?_ ?_ ?_
  · rintro k x ⟨rfl,e2⟩
    exact ⟨by rw [hn],by rw [hn]; exact upI_len _ _ _,hbb1,hbm1⟩
  · rintro bm cm rfl k x c1 ⟨rfl,e2⟩ c2
    have hat:=upI_at (wgF s.par s.marks (modeS s)) s.members (k:=x) (by omega)
    have c3:cntM (gr zeroM s.members x):=by rw [← hat]; exact c2
    have hl:=upI_len (wgF s.par s.marks (modeS s)) s.members x
    refine twgc_any (s:={ s with calm:=(stepP s.calm (preS s) (actS s)).1,members:=upI (wgF s.par s.marks (modeS s)) s.members x }) ti.ok.p ti.r (hk0.up le1) (upI_ok MemOk (fun k m hm=>wgF_ok ti.ok.p ti.r _ _ k hm) ti.be.m x (by omega)) x (by show x<(upI (wgF s.par s.marks (modeS s)) s.members x).length; omega) (by show (upI (wgF s.par s.marks (modeS s)) s.members x).length≤900; omega) ⟨x+1,⟨rfl,by omega⟩,?_⟩
    have e:upI (wgF s.par s.marks (modeS s)) s.members (x+1)=(upI (wgF s.par s.marks (modeS s)) s.members x).set x (afterM s.par (gr zeroM (upI (wgF s.par s.marks (modeS s)) s.members x) x) (getB s.marks x) (modeS s)):=by
      rw [upI,hat,wgF,if_pos c3]
    rw [e]
    exact Drop.refl _ _
  · rintro k x c1 ⟨rfl,e2⟩ c2
    have hat:=upI_at (wgF s.par s.marks (modeS s)) s.members (k:=x) (by omega)
    have c3:¬ cntM (gr zeroM s.members x):=by rw [← hat]; exact c2
    refine ⟨x+1,⟨rfl,by omega⟩,?_⟩
    have e:upI (wgF s.par s.marks (modeS s)) s.members (x+1)=upI (wgF s.par s.marks (modeS s)) s.members x:=upI_same _ _ (by omega) (if_neg c3)
    rw [e]
    exact Drop.refl _ _
  · exact ⟨rfl,Nat.zero_le _⟩
  · rintro k ⟨e1,e2⟩
    subst e1
    refine xx ?_
    refine ⟨_,_,Drop.sub (.cons_cons _ (oent_sub _ (List.sublist_cons_self _ _))),?_⟩
    subst hn
    exact hk h1 le1
end Go.X

/- Lemmas and contracts for a statement about the given program. Conditions: as each says. -/
import Derived.Test.YtmmfajokfdaokaaGreatQ18
import Derived.Test.YtmmfajokfdaokaaGreatQ19
set_option linter.unusedVariables false
set_option linter.unusedSimpArgs false
set_option maxHeartbeats 12800000
set_option maxRecDepth 20000
namespace Go.X
open Go.RowKit Go.Proofs Go.Bl
variable {L:Own} {h:PH} {K:PK}
theorem radd_any {n m:Int} {k l:Nat} (v u:Value) (ha:Nt h v n k) (hb:Nt h u m l) (hkl:k≤200000∧l≤200000) (hk:∀ h' r,PH.le h h'→Nt h' r (n+m) (max k l+1)→K r L h'):Spec Tryz.prog 45 [v,u] L h K:=by
 obtain ⟨s,ds,rfl,hs,hd,rfl,hdl⟩:=ha
 obtain ⟨r,es,rfl,hr,he,rfl,hel⟩:=hb
 have hs0:=hs
 have hr0:=hr
 obtain ⟨a,ca,rfl,hna,hca,_,hcx⟩:=hs.open
 obtain ⟨b,cb,rfl,hnb,hcb,_,hcy⟩:=hr.open
 obtain ⟨N,hN⟩:∃ N,N=max ds.length es.length:=⟨_,rfl⟩
 have eN:max (ds.length:Int) (es.length:Int)=(N:Int):=by omega
 refine x_enter Tryz.func45 rfl (rs:=[_]) rfl rfl mixed (by kernel_rfl) rfl rfl ?_
 refine xx ?_
 refine xnew fun b1 n_b1 h_b1=>?_
 try simp only [Apart] at n_b1
 refine xx ?_
 refine xnew fun b2 n_b2 h_b2=>?_
 try simp only [Apart] at n_b2
 refine xx ?_
 refine xnew fun b3 n_b3 h_b3=>?_
 try simp only [Apart] at n_b3
 refine xx ?_
 refine xloop (γ:=Nat×Int×Option (Nat×Nat)×List Int) (0,0,none,[])
  (fun s=>s.1≤N+1∧(s.1=N+1→s.2.1=0)∧0≤s.2.1∧s.2.1≤1∧s.2.2.2.length=s.1∧okO s.2.2.1 s.2.2.2.length∧apO s.2.2.1 (⟨b3,112,[.slice none 0 0],1⟩::⟨b2,112,[.slice b es.length cb],1⟩::⟨b1,112,[.slice a ds.length ca],1⟩::L) h∧Dg s.2.2.2∧vl s.2.2.2+s.2.1*10 ^ s.1=pv ds s.1+pv es s.1)
  (fun s=>[(7,.int .i64 s.1),(6,.int .i64 s.2.1),(5,ovs s.2.2.1 s.2.2.2.length),(4,.pointer (some ⟨b3,0,none⟩)),(3,.pointer (some ⟨b2,0,none⟩)),(2,.pointer (some ⟨b1,0,none⟩))])
  (fun s=>oent 3 1 s.2.2.1 (s.2.2.2.map (Value.int .i64)) (⟨b3,112,[.slice none 0 0],1⟩::⟨b2,112,[.slice b es.length cb],1⟩::⟨b1,112,[.slice a ds.length ca],1⟩::L))
  (fun _=>h) (fun s=>N+1-s.1) ?_ ?_ ?_ ?_
 ·exact ⟨Nat.zero_le _,fun _=>rfl,Int.le_refl _,by simp,rfl,rfl,trivial,fun j=>by simp [at0],by simp [vl,pv]⟩
 ·simp [Ent,List.lookup,ovs]
 ·exact Drop.refl _ _
 rintro ⟨i,c,o,fs⟩ ⟨i1,i2,i3,i4,i5,i6,i7,i8,i9⟩
 simp only at i1 i2 i3 i4 i5 i6 i7 i8 i9 ⊢
 have m3:apB o b3:=i7.head
 have m2:apB o b2:=(apO_tail i7).head
 have m1:apB o b1:=(apO_tail (apO_tail i7)).head
 have q1:=hd i
 have q2:=he i
 have hpd:pv ds (i+1)=pv ds i+at0 ds i*10 ^ i:=rfl
 have hpe:pv es (i+1)=pv es i+at0 es i*10 ^ i:=rfl
 by_cases c1:(i:Int)<(N:Int)∨0<c
 ·have hi:i<N+1:=by
   by_cases e:i=N+1
   ·have:=i2 e; omega
   ·omega
  obtain ⟨t,ht⟩:∃ t,t=at0 ds i+at0 es i+c:=⟨_,rfl⟩
  have hz:i=N→at0 ds i=0∧at0 es i=0:=fun e=>⟨at0_ge (by omega),at0_ge (by omega)⟩
  have f1:vl (fs++[t%10])+t/10*10 ^ (i+1)=pv ds (i+1)+pv es (i+1):=by
   rw [vl_append,i5,hpd,hpe,Int.pow_succ]
   have e:t=t/10*10+t%10:=by omega
   have e2:t*10 ^ i=t/10*(10 ^ i*10)+t%10*10 ^ i:=by
    conv=>lhs; rw [e]
    rw [Int.add_mul,Int.mul_assoc,Int.mul_comm 10]
   have e3:t*10 ^ i=at0 ds i*10 ^ i+at0 es i*10 ^ i+c*10 ^ i:=by rw [ht,Int.add_mul,Int.add_mul]
   omega
  by_cases c2:(i:Int)<(N:Int)
  all_goals
   simp -dsimp -implicitDefEqProofs (disch:=first|with_reducible assumption|omega) [go_sem,xFind_oent m2,xFind_oent m1,xBuiltin_max,eN]
   refine xdraw (by kernel_rfl) rfl ?_
   simp -dsimp -implicitDefEqProofs (disch:=first|with_reducible assumption|omega) [go_sem,xFind_oent m2,xFind_oent m1]
   refine xdcall _ (at_any _ i hs0 (by omega) (by omega) ⟨rfl,rfl,rfl⟩) ?_
   simp only [Int.toNat_natCast]
   simp -dsimp -implicitDefEqProofs (disch:=first|with_reducible assumption|omega) [go_sem,xFind_oent m2,xFind_oent m1]
   refine xdcall _ (at_any _ i hr0 (by omega) (by omega) ⟨rfl,rfl,rfl⟩) ?_
   simp only [Int.toNat_natCast]
   simp -dsimp -implicitDefEqProofs (disch:=first|with_reducible assumption|omega) [go_sem,← ht]
   refine xnew fun b4 n_b4 h_b4=>?_
   try simp only [Apart] at n_b4
   simp -dsimp -implicitDefEqProofs (disch:=first|with_reducible assumption|omega) [go_sem,← ht]
   refine xappend (t:=32) (e:=3) (sz:=1) (bytes:=8) (z:=[.int .i64 0]) (by kernel_rfl) tI_3 rfl rfl rfl rfl (by decide) [_] _ o fs.length (fs.map (Value.int .i64)) i6 (by simp) (Src.own List.mem_cons_self) (m:=1) (news:=[.int .i64 (t%10)]) rfl (fun u hu=>by simp at hu; subst hu; rfl) (by simp [maxLen]; omega) (by omega) ?_
   intro o' j1 j2 j3
   simp -dsimp -implicitDefEqProofs (disch:=first|with_reducible assumption|omega) [go_sem,← ht]
   refine ⟨i+1,t/10,o',fs++[t%10],⟨by omega,fun e=>?_,by omega,by omega,by simp [i5],by simpa using j1,apO_tail j2,i8.append (by omega) (by omega),f1⟩,by omega,by simp [Ent,List.lookup],by simpa using Drop.tail _ _ _⟩
   have:=hz (by omega)
   omega
 ·have hc0:c=0:=by omega
  subst hc0
  have hv:vl fs=vl ds+vl es:=by
   rw [← pv_more ds i (by omega),← pv_more es i (by omega)]
   omega
  simp -dsimp -implicitDefEqProofs (disch:=first|with_reducible assumption|omega) [go_sem,xFind_oent m2,xFind_oent m1,xBuiltin_max,eN]
  refine call_pub (n:=fs.length) i6 (by simp) (by omega) i7 fun h' le sl=>?_
  refine Spec.ap (trim_any (ds:=fs) (m:=max k l+1) _ ⟨sl,digit_range i8⟩ i8 (by omega) fun r hr ap=>?_)
  simp only [Ap] at ap
  obtain ⟨a3,a2,a1,_⟩:=ap
  obtain ⟨s',fs',rfl,g1,g2,g3,g4⟩:=hr
  refine xx ?_
  refine ⟨by obtain ⟨_,_,rfl,_⟩:=g1.open; rfl,fin_tail (fin_tail (fin_tail (fin_here (hk h' _ le ⟨s',fs',rfl,g1,g2,by rw [g3,hv],g4⟩))))⟩
theorem nt_zero (h:PH) (m:Nat):Nt h (.agg #[.slice none 0 0]) 0 m:=⟨_,[],rfl,nil_ints h .i64,fun j=>by simp [at0],rfl,Nat.zero_le _⟩
theorem Nt.sl {v:Value} {n:Int} {m:Nat} (hs:Nt h v n m):∃ a k c,v = .agg #[.slice a k c]:=by
 obtain ⟨s,ds,rfl,b,_⟩:=hs
 obtain ⟨a,c,rfl,_⟩:=b.open
 exact ⟨a,_,c,rfl⟩
theorem rsum_any {zs:List Int} (v:Value) (hz:Ints h .u64 v zs) (hn:zs.length≤100000) (hk:∀ h' r,PH.le h h'→Nt h' r (tot zs) (zs.length+20)→K r L h'):Spec Tryz.prog 44 [v] L h K:=by
 have hw:=hz.word
 obtain ⟨a,c,rfl,hcap,hlen,_,hcs⟩:=hz.open
 refine x_enter Tryz.func44 rfl (rs:=[_]) rfl rfl mixed (by kernel_rfl) rfl rfl ?_
 refine xx ?_
 refine xnew fun b2 n_b2 h_b2=>?_
 try simp only [Apart] at n_b2
 refine xx ?_
 refine xnew fun b3 n_b3 h_b3=>?_
 try simp only [Apart] at n_b3
 refine xx ?_
 refine xloop (γ:=Nat×Value×PH) (0,.slice none 0 0,h)
  (fun s=>s.1≤zs.length∧PH.le h s.2.2∧s.2.2 b3=noC∧s.2.2 b2=noC∧Nt s.2.2 (.agg #[s.2.1]) (sumK zs s.1) (s.1+20))
  (fun s=>[(4,.int .i64 s.1),(3,.pointer (some ⟨b3,0,none⟩)),(2,.pointer (some ⟨b2,0,none⟩)),(0,.slice a zs.length c)])
  (fun s=>⟨b3,112,[s.2.1],1⟩::⟨b2,112,[.slice none 0 0],1⟩::L)
  (fun s=>s.2.2) (fun s=>zs.length-s.1) ?_ ?_ ?_ ?_
 ·exact ⟨Nat.zero_le _,PH.le_refl _,h_b3,h_b2,nt_zero h _⟩
 ·simp [Ent,List.lookup,xEnv]
 ·exact Drop.refl _ _
 rintro ⟨k,sv,hh⟩ ⟨k1,le0,a3,a2,nt⟩
 simp only at k1 le0 a3 a2 nt ⊢
 obtain ⟨sa,sk,sc,es⟩:=nt.sl
 obtain rfl:sv = .slice sa sk sc:=by simpa using es
 have hcs':∀ j,j<zs.length→elemCell hh a j=some (.int .u64 (at0 zs j)):=fun j hj=>elemCell_up le0 (hcs j hj)
 by_cases c1:k<zs.length
 ·refine xx ?_
  refine xanyl (.tk 1 (.tk 2 (.tk 3 (.tkl 0 (.tkl 4 (.or true 5 (.or true 6 (.or false 7 (.fin) (.nil)) (.nil)) (.nil))))))) (by kernel_rfl) (by kernel_rfl) _ (Drop.refl _ _) ?_
  simp -dsimp -implicitDefEqProofs (disch:=first|with_reducible assumption|omega) [go_sem,idx hcs']
  refine Spec.apn (of_any (at0 zs k) (hw k).1 (hw k).2 fun h4 r4 le4 n4 ap nd=>?_)
  obtain ⟨p3,p2,_⟩:=ap
  refine xkp (Drop.forget le4) ?_
  obtain ⟨ra,rk,rc,rfl⟩:=n4.sl
  refine xx ?_
  refine Spec.apn (radd_any _ _ (nt.up le4) n4 ⟨by omega,by omega⟩ fun h5 r5 le5 n5 ap nd=>?_)
  obtain ⟨p3,p2,_⟩:=ap
  refine xkp (Drop.forget (le4.trans le5)) ?_
  obtain ⟨ta,tk,tc,rfl⟩:=n5.sl
  refine xx ?_
  exact ⟨k+1,_,h5,⟨by omega,le0.trans (le4.trans le5),p3,p2,n5.more (by omega)⟩,by omega,by simp [Ent,List.lookup],Drop.refl _ _⟩
 ·have hkl:k=zs.length:=by omega
  subst hkl
  refine xx ?_
  exact fin_tail (fin_tail (fin_here (hk _ _ le0 nt)))
theorem whole10_any (p:ParD) (b:Int) (h1:1≤p.inc) (hb:0≤b∧b≤18446744073709551615) (hk:K (.int .u64 (wholeP p b)) L h):Spec Tryz.prog 47 [parV p,.int .u64 b] L h K:=by
 have e1:=Int.emod_nonneg b (show p.inc≠0 by omega)
 have e3:b/p.inc*p.inc=b-b%p.inc:=by rw [Int.emod_def,Int.mul_comm]; omega
 have e2:0≤b/p.inc*p.inc:=Int.mul_nonneg (Int.ediv_nonneg hb.1 (by omega)) (by omega)
 have e4:=Int.ediv_nonneg hb.1 (show 0≤p.inc by omega)
 have e5:b/p.inc≤18446744073709551615:=Int.le_trans (Int.ediv_le_self _ hb.1) hb.2
 have e6:b/p.inc*p.inc≤18446744073709551615:=by rw [e3]; omega
 unfold wholeP at hk
 rw [← e3] at hk
 refine x_enter Tryz.func47 rfl (rs:=[_]) rfl rfl mixed (by kernel_rfl) rfl rfl ?_
 refine xx ?_
 refine xnew fun b1 n_b1 h_b1=>?_
 try simp only [Apart] at n_b1
 refine xx ?_
 refine xanyl (.tk 0 (.tk 1 (.tk 4 (.tkl 2 (.tk 3 (.tkl 5 (.tk 6 (.tk 7 (.fin))))))))) (by kernel_rfl) (by kernel_rfl) _ (Drop.refl _ _) ?_
 refine xx ?_
 by_cases c:p.maxEff<b/p.inc*p.inc
 ·rw [Int.min_eq_right (by omega)] at hk
  refine xx ?_
  exact fin_tail (fin_here hk)
 ·rw [Int.min_eq_left (by omega)] at hk
  refine xx ?_
  exact fin_tail (fin_here hk)
theorem xBin_neintsS {P:Program} {T:Nat} {ks:List IntKind} (ht:P.underlying T=some (.struct (P.fieldsOf T))) (hp:P.stoodInHeld T=false) (hg:P.eqGuardType P.depth T=false) (hok:okF P (P.fieldsOf T).toList 0 ks=true) (ps qs:List Int) (ha:ps.length=ks.length) (hb:qs.length=ks.length)
  (x y:Operand) (K:Value→Prop) (t:Tok K):xBin P .neq T x y (.agg (List.zipWith Value.int ks ps).toArray) (.agg (List.zipWith Value.int ks qs).toArray) K t=K (.bool (!decide (ps=qs))) :=
 xRun_of (fun W=>by
  simp only [Sem.run_bind,run_eqGuard_agg W .neq T x y _ _ hg,Result.andThen_ok,run_neq_struct,run_eq_ints ht hp hok ps qs ha hb W]) K
end Go.X

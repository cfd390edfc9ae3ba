/- Lemmas and contracts for a statement about the given program. Conditions: as each says. -/
import Derived.Test.YtmmfajokfdaokaaGreatQ30
import Derived.Test.YtmmfajokfdaokaaGreatQ34
set_option linter.unusedVariables false
set_option linter.unusedSimpArgs false
set_option maxHeartbeats 12800000
set_option maxRecDepth 20000
namespace Go.X
open Go.RowKit Go.Proofs Go.Bl
variable {L:Own} {h:PH} {K:PK}
section
variable {e0 s0 e1 s1 e2 s2 e3 s3 e4 s4:Nat} {o0 o1 o2 o3 o4:Option (Nat×Nat)} {X0 X1 X2 X3 X4:List Value} {a b c:Blk}
theorem permF:(oent e4 s4 o4 X4 (a::oent e0 s0 o0 X0 (oent e1 s1 o1 X1 (oent e2 s2 o2 X2 (oent e3 s3 o3 X3 L))))).Perm (a::oent e0 s0 o0 X0 (oent e1 s1 o1 X1 (oent e2 s2 o2 X2 (oent e3 s3 o3 X3 (oent e4 s4 o4 X4 L))))):=by
 refine oent_perm.symm.trans (List.Perm.cons _ ?_)
 refine (oent_swap o4 o0 X4 X0 _).trans (oent_congr o0 X0 ?_)
 refine (oent_swap o4 o1 X4 X1 _).trans (oent_congr o1 X1 ?_)
 refine (oent_swap o4 o2 X4 X2 _).trans (oent_congr o2 X2 ?_)
 exact oent_swap o4 o3 X4 X3 _
theorem permFe:(a::oent e0 s0 o0 X0 (oent e1 s1 o1 X1 (oent e2 s2 o2 X2 (oent e3 s3 o3 X3 (oent e4 s4 o4 X4 L))))).Perm (a::oent e0 s0 o0 X0 (oent e4 s4 o4 X4 (oent e1 s1 o1 X1 (oent e2 s2 o2 X2 (oent e3 s3 o3 X3 L))))):=by
 refine permF.symm.trans ?_
 refine oent_perm.symm.trans (List.Perm.cons _ ?_)
 exact oent_swap o4 o0 X4 X0 _
theorem permO:(c::a::b::oent e1 s1 o1 X1 (oent e2 s2 o2 X2 (oent e3 s3 o3 X3 L))).Perm (a::b::oent e2 s2 o2 X2 (oent e3 s3 o3 X3 (c::oent e1 s1 o1 X1 L))):=by
 refine perm3.trans (List.Perm.cons _ (List.Perm.cons _ ?_))
 refine (List.Perm.cons _ ((oent_swap o1 o2 X1 X2 _).trans (oent_congr o2 X2 (oent_swap o1 o3 X1 X3 _)))).trans ?_
 exact oent_perm.trans (oent_congr o2 X2 oent_perm)
end
structure StG where
 k:Nat
 h:PH
 d:Value
 oo:Option (Nat×Nat)
 os:Option (Nat×Nat)
structure CrG where
 k:Nat
 h:PH
 p:Value
 om:Option (Nat×Nat)
 oe:Option (Nat×Nat)
theorem tenter_any {bb D : Nat} {om oe os oo ox : Option (Nat × Nat)} {s : StD} {v : SV} {r : RepD} {q : RV} {w : Int} (ti : TkI s D) (hD : D ≤ 30000) (hw : 0 ≤ w ∧ w ≤ 1000) (hol : r.out.length ≤ 700) (hsl : r.started.length ≤ 700) (hp : Ints h .u64 v.p s.purses) (hd : Recs dueC 3 h v.d s.dues) (hpo : Recs depC 4 h v.o s.pool)
    (hm:v.m=ovs om s.members.length) (okm:okO om s.members.length) (he:v.e=ovs oe s.entry.length) (oke:okO oe s.entry.length) (hx:v.x=ovs ox s.exit.length) (okx:okO ox s.exit.length) (ho:q.o=ovs oo r.out.length) (oko:okO oo r.out.length) (hs:q.s=ovs os r.started.length) (oks:okO os r.started.length)
    (hk:∀ h' pv dv ov om' oe' os' oo',PH.le h h'→Ints h' .u64 pv (enS s r (min (s.ep+w) 2147483647)).purses→Recs dueC 3 h' dv (enS s r (min (s.ep+w) 2147483647)).dues→Recs depC 4 h' ov (enS s r (min (s.ep+w) 2147483647)).pool →
      okO om' (enS s r (min (s.ep+w) 2147483647)).members.length→okO oe' (enS s r (min (s.ep+w) 2147483647)).entry.length→okO os' (enR s r (min (s.ep+w) 2147483647)).started.length→okO oo' (enR s r (min (s.ep+w) 2147483647)).out.length→okO ox (enS s r (min (s.ep+w) 2147483647)).exit.length →
      K (.tuple #[]) (tB bb (enS s r (min (s.ep+w) 2147483647)) { v with p:=pv,d:=dv,o:=ov,m:=ovs om' (enS s r (min (s.ep+w) 2147483647)).members.length,e:=ovs oe' (enS s r (min (s.ep+w) 2147483647)).entry.length,x:=ovs ox (enS s r (min (s.ep+w) 2147483647)).exit.length } (enR s r (min (s.ep+w) 2147483647)) { q with o:=ovs oo' (enR s r (min (s.ep+w) 2147483647)).out.length,s:=ovs os' (enR s r (min (s.ep+w) 2147483647)).started.length } w::tMo om' (enS s r (min (s.ep+w) 2147483647)).members (oent 3 1 oe' ((enS s r (min (s.ep+w) 2147483647)).entry.map (.int .i64)) (oent 3 1 os' ((enR s r (min (s.ep+w) 2147483647)).started.map (.int .i64)) (oent 3 1 oo' ((enR s r (min (s.ep+w) 2147483647)).out.map (.int .i64)) (oent 3 1 ox ((enS s r (min (s.ep+w) 2147483647)).exit.map (.int .i64)) L))))) h') :
    Spec Tryz.prog 76 [.pointer (some ⟨bb,0,none⟩)] (tB bb s v r q w::tMo om s.members (oent 3 1 oe (s.entry.map (.int .i64)) (oent 3 1 os (r.started.map (.int .i64)) (oent 3 1 oo (r.out.map (.int .i64)) (oent 3 1 ox (s.exit.map (.int .i64)) L))))) h K:=by
  obtain ⟨vp,vm,ve,vx,vo,vd,vt,vk,vr⟩:=v
  obtain ⟨qo,ql,qs,qd⟩:=q
  simp only at hm hp hd hpo he hx ho hs hk ⊢
  subst hm
  subst he
  subst hx
  subst ho
  subst hs
  obtain ⟨t,ht⟩:∃ t,t=min (s.ep+w) 2147483647:=⟨_,rfl⟩
  rw [← ht] at hk
  have hep:=ti.ep
  have htb:0≤t∧t≤2147483647:=by omega
  have hml:=ti.ml
  have hpl:=ti.pl
  have hdn:=ti.dn
  have hon:=ti.on
  have hpc:=parR_streak ti.r
  have hsum:=ti.sum
  obtain ⟨p1,p2,p3,p4,p5,p6⟩:=ti.parts
  refine x_enterA Tryz.func76 rfl (rs:=[]) rfl rfl mixed (by kernel_rfl) rfl rfl fun ap nd=>?_
  have hbb:h bb=noC:=ap.1
  clear ap nd
  refine xx ?_
  refine xif (fun hq=>?_) (fun hq=>?_)
  rotate_left
  · have eS:enS s r t=s:=by unfold enS; rw [hq]; rfl
    have eR:enR s r t=r:=by unfold enR; rw [hq]; rfl
    rw [eS,eR] at hk
    have hk:=hk h vp vd vo om oe os oo (PH.le_refl _) hp hd hpo okm oke oks oko okx
    refine xx ?_
    exact fin_here hk
  have eS:enS s r t={ s with pool:=[],members:=(enY s r t).ms,purses:=(enX s).ps,entry:=(enX s).en.drop s.par.churn.toNat,dues:=(enY s r t).ds,exit:=(enY s r t).ex }:=by unfold enS; rw [hq]; rfl
  have eR:enR s r t={ r with out:=(enY s r t).out,started:=(enY s r t).go }:=by unfold enR; rw [hq]; rfl
  rw [eS,eR] at hk
  simp only at hk
  obtain ⟨oa,oc,rfl,_,_,_,hos⟩:=hpo.open
  refine xx ?_
  obtain ⟨N,hN⟩:∃ N,N=s.pool.length:=⟨_,rfl⟩
  rw [← hN]
  refine xloop (γ:=CrG) ⟨0,h,vp,om,oe⟩ (fun y=>y.k≤N∧PH.le h y.h∧Ints y.h .u64 y.p (crK s.par s.pool ⟨s.members,s.purses,s.entry⟩ y.k).ps∧okO y.om (crK s.par s.pool ⟨s.members,s.purses,s.entry⟩ y.k).ms.length∧okO y.oe (crK s.par s.pool ⟨s.members,s.purses,s.entry⟩ y.k).en.length∧y.h bb=noC)
    (fun y=>[(28,.int .i64 y.k),(27,.int .i64 N),(26,.slice oa N oc),(0,.pointer (some ⟨bb,0,none⟩))])
    (fun y=>tB bb { s with pool:=[],members:=(crK s.par s.pool ⟨s.members,s.purses,s.entry⟩ y.k).ms,purses:=(crK s.par s.pool ⟨s.members,s.purses,s.entry⟩ y.k).ps,entry:=(crK s.par s.pool ⟨s.members,s.purses,s.entry⟩ y.k).en } ⟨y.p,ovs y.om (crK s.par s.pool ⟨s.members,s.purses,s.entry⟩ y.k).ms.length,ovs y.oe (crK s.par s.pool ⟨s.members,s.purses,s.entry⟩ y.k).en.length,ovs ox s.exit.length,.slice none 0 0,vd,vt,vk,vr⟩ r ⟨ovs oo r.out.length,ql,ovs os r.started.length,qd⟩ w::tMo y.om (crK s.par s.pool ⟨s.members,s.purses,s.entry⟩ y.k).ms (oent 3 1 y.oe ((crK s.par s.pool ⟨s.members,s.purses,s.entry⟩ y.k).en.map (.int .i64)) (oent 3 1 os (r.started.map (.int .i64)) (oent 3 1 oo (r.out.map (.int .i64)) (oent 3 1 ox (s.exit.map (.int .i64)) L))))) (fun y=>y.h) (fun y=>N-y.k) ?_ ?_ ?_ ?_
  · exact ⟨Nat.zero_le _,PH.le_refl _,hp,okm,oke,hbb⟩
  · simp [Ent,List.lookup,xEnv]
  · exact Drop.refl _ _
  rintro ⟨k,h1,pv,om1,oe1⟩ ⟨k1,le1,ip,okm1,oke1,hbb1⟩
  simp only at k1 le1 ip okm1 oke1 hbb1 ⊢
  obtain ⟨cr,crl⟩:=cr_ok ti (k:=k) (by omega)
  by_cases c1:k<N
  · obtain ⟨d,hdd⟩:∃ d,d=gr zeroDep s.pool k:=⟨_,rfl⟩
    have hdm:d∈s.pool:=by rw [hdd]; exact gr_mem (by omega)
    obtain ⟨d1,d2,d3,d4⟩:=ti.oo d hdm
    obtain ⟨cr2,_⟩:=cr_ok ti (k:=k+1) (by omega)
    have hsk:=(sumK_le (l:=s.pool.map DepD.amt) (fun i=>at0_map DepD.amt s.pool (fun x hx=>(ti.oo x hx).1.a.1) i) (k:=k+1) (by rw [List.length_map]; omega)).2
    have esk:sumK (s.pool.map DepD.amt) (k+1)=sumK (s.pool.map DepD.amt) k+d.amt:=by
      rw [sumK,hdd,gr_lt (by omega),← at0_lt (by rw [List.length_map]; omega),List.getElem_map]
    have eK:crK s.par s.pool ⟨s.members,s.purses,s.entry⟩ (k+1)=crStep s.par d (crK s.par s.pool ⟨s.members,s.purses,s.entry⟩ k):=by rw [crK,hdd]
    obtain ⟨X,hX⟩:∃ X,X=crK s.par s.pool ⟨s.members,s.purses,s.entry⟩ k:=⟨_,rfl⟩
    rw [← hX] at ip okm1 oke1 cr crl eK ⊢
    have hos1:=hos.up le1
    simp -dsimp -implicitDefEqProofs (disch:=first|with_reducible assumption|omega) [go_sem,↓idxR zeroDep (by decide) hos1,depC]
    rw [← hdd]
    refine xnew fun b4 n_b4 h_b4=>?_
    try simp only [Apart] at n_b4
    have n4:=n_b4.1
    clear n_b4
    simp -dsimp -implicitDefEqProofs (disch:=first|with_reducible assumption|omega) [go_sem,depC]
    refine Spec.weaken (Drop.perm _ ((List.Perm.swap _ _ _).trans (List.Perm.cons _ (oent_perm.trans (oent_congr _ _ oent_perm))))) ?_
    have crX:CrOk s.exit ⟨X.ms,X.ps,X.en⟩ s.purses.length (tot s.purses+tot (s.members.map MemD.bal)+sumK (s.pool.map DepD.amt) k):=cr
    refine Spec.ap (tcredit_any (s:={ s with pool:=[],members:=X.ms,purses:=X.ps,entry:=X.en }) (v:=⟨pv,ovs om1 X.ms.length,ovs oe1 X.en.length,ovs ox s.exit.length,.slice none 0 0,vd,vt,vk,vr⟩) (om:=om1) (oe:=oe1) (d:=d) ti.ok.p ti.r hpl crX (by omega) d1.a.1 ⟨d2,d3⟩ (d4.imp id fun c=>⟨c.1,by show d.mem<(X.ms.length:Int); omega⟩) ip rfl okm1 rfl oke1 fun h2 p2 om2 oe2 le2 ok2 ok3 i2 ap=>?_)
    have hbb2:h2 bb=noC:=ap.1
    clear ap
    have eX:crStep s.par d ⟨X.ms,X.ps,X.en⟩=crStep s.par d X:=rfl
    rw [eX] at ok2 ok3 i2 ⊢
    refine xx ?_
    refine ⟨⟨k+1,h2,p2,om2,oe2⟩,⟨by simp only; omega,le1.trans le2,by rw [eK]; exact i2,by rw [eK]; exact ok2,by rw [eK]; exact ok3,hbb2⟩,by simp only; omega,by simp [Ent,List.lookup],?_⟩
    simp only
    rw [eK]
    exact Drop.sub (.cons_cons _ (oent_sub _ (oent_sub _ (List.sublist_cons_self _ _))))
  obtain rfl:N=k:=by omega
  have eXX:crK s.par s.pool ⟨s.members,s.purses,s.entry⟩ N=enX s:=by rw [hN]; rfl
  obtain ⟨cx,cxl⟩:=en_x ti
  obtain ⟨ew1,ew2⟩:=en_w ti
  rw [eXX] at ip okm1 oke1 ⊢
  have cl1:=cx.l1
  refine xx ?_
  refine xanyl (.tk 0 (.tk 1 (.tk 2 (.tk 3 (.tk 5 (.tk 6 (.tk 7 (.tk 8 (.tk 9 (.tkl 4 (.tkl 10 (.or true 11 (.tk 12 (.tk 13 (.tk 14 (.tk 15 (.tk 16 (.fin)))))) (.nil))))))))))))) (by kernel_rfl) (by kernel_rfl) [_] drop1 ?_
  refine xx ?_
  refine Spec.entr fun ap nd=>?_
  have aoe:=ap_here (Ap.oent ap.2)
  clear ap nd
  have lx:=pub_le_o aoe ((enX s).en.map (.int .i64))
  have sx:=pub_sl (h:=h1) (sz:=1) (n:=(enX s).en.length) (o:=oe1) (xs:=(enX s).en.map (.int .i64)) oke1 (by simp) (by omega)
  refine Spec.weaken ((Drop.perm h1 permL).trans (pub_drop_o oe1 _ _ h1 (by decide))) ?_
  generalize pubO h1 oe1 ((enX s).en.map (.int .i64))=h2 at lx sx ⊢
  have ix:=row_ints cx.e cl1 sx
  clear aoe sx
  obtain ⟨R,hR⟩:∃ R,R=(enX s).en.drop s.par.churn.toNat:=⟨_,rfl⟩
  refine Spec.apn (Spec.fin (sfirst_any _ ix (by omega) (fun z hz=>(row_in cx.e hz).1) cx.e.1 s.par.churn ⟨by omega,by omega⟩ fun h3 rv oe3 le3 iw ok3 ap3=>⟨_,_,Drop.perm _ permF,fun ap nd=>?_⟩))
  have hbb3:h3 bb=noC:=ap.1
  have hom3:apO om1 [] h3:=ap_here ap.2
  have nmb:apB om1 bb:=apart_here nd.1
  clear ap nd ap3
  have le13:=lx.trans le3
  refine xkp (drop1.trans (Drop.forget le13)) ?_
  have eW:(enX s).en.take s.par.churn.toNat=enW s:=rfl
  rw [eW] at iw
  rw [← hR] at ok3 hk ⊢
  obtain ⟨N,hN2⟩:∃ N,N=(enW s).length:=⟨_,rfl⟩
  obtain ⟨wa,wc,rfl,_,_,_,hws⟩:=iw.open
  rw [← hN2] at hws ew1 ⊢
  have hpx:tot (enX s).ps+tot ((enX s).ms.map MemD.bal)=tot s.purses+tot (s.members.map MemD.bal)+tot (s.pool.map DepD.amt):=cx.t
  have hpp:=cx.b.pur
  obtain ⟨X0,hX0⟩:∃ X0:StX,X0=⟨(enX s).ms,s.dues,s.exit,r.out,r.started⟩:=⟨_,rfl⟩
  have hst:=fun k (hk:k≤N)=>st_ok ti r htb (k:=k) (by omega)
  rw [← hX0,← hR] at hst
  have hda:=st_acct (p:=s.par) htb (enW s) (x:=X0) (rest:=R) (by rw [hX0]; exact ti.dd) (fun k hk=>hst k (by omega)) (by rw [hX0]; show dTot s.dues+tot ((enX s).ms.map MemD.bal)≤_; omega)
  refine xx ?_
  refine xloop (γ:=StG) ⟨0,h3,vd,oo,os⟩ (fun y=>y.k≤N∧PH.le h3 y.h∧Recs dueC 3 y.h y.d (stK s.par t (enW s) X0 y.k).ds∧okO y.oo (stK s.par t (enW s) X0 y.k).out.length∧okO y.os (stK s.par t (enW s) X0 y.k).go.length∧okO ox (stK s.par t (enW s) X0 y.k).ex.length∧y.h bb=noC∧apO om1 [] y.h)
    (fun y=>[(58,.int .i64 y.k),(57,.int .i64 N),(56,.slice wa N wc),(0,.pointer (some ⟨bb,0,none⟩))])
    (fun y=>tB bb { s with pool:=[],members:=(stK s.par t (enW s) X0 y.k).ms,purses:=(enX s).ps,entry:=R,dues:=(stK s.par t (enW s) X0 y.k).ds,exit:=(stK s.par t (enW s) X0 y.k).ex } ⟨pv,ovs om1 (enX s).ms.length,ovs oe3 R.length,ovs ox (stK s.par t (enW s) X0 y.k).ex.length,.slice none 0 0,y.d,vt,vk,vr⟩ { r with out:=(stK s.par t (enW s) X0 y.k).out,started:=(stK s.par t (enW s) X0 y.k).go } ⟨ovs y.oo (stK s.par t (enW s) X0 y.k).out.length,ql,ovs y.os (stK s.par t (enW s) X0 y.k).go.length,qd⟩ w ::
      tMo om1 (stK s.par t (enW s) X0 y.k).ms (oent 3 1 y.os ((stK s.par t (enW s) X0 y.k).go.map (.int .i64)) (oent 3 1 y.oo ((stK s.par t (enW s) X0 y.k).out.map (.int .i64)) (oent 3 1 ox ((stK s.par t (enW s) X0 y.k).ex.map (.int .i64)) (oent 3 1 oe3 (R.map (.int .i64)) L))))) (fun y=>y.h) (fun y=>N-y.k) ?_ ?_ ?_ ?_
  · refine ⟨Nat.zero_le _,PH.le_refl _,?_,?_,?_,?_,hbb3,hom3⟩
    · rw [show stK s.par t (enW s) X0 0=X0 from rfl,hX0]
      exact hd.up (le1.trans le13)
    · rw [show stK s.par t (enW s) X0 0=X0 from rfl,hX0]; exact oko
    · rw [show stK s.par t (enW s) X0 0=X0 from rfl,hX0]; exact oks
    · rw [show stK s.par t (enW s) X0 0=X0 from rfl,hX0]; exact okx
  · simp [Ent,List.lookup]
  · rw [show stK s.par t (enW s) X0 0=X0 from rfl,hX0]
    exact Drop.refl _ _
  rintro ⟨k,h4,dv,oo1,os1⟩ ⟨k1,le4,id4,oko1,oks1,okx1,hbb4,hom4⟩
  simp only at k1 le4 id4 oko1 oks1 okx1 hbb4 hom4 ⊢
  have st:=hst k k1
  have sl:(stK s.par t (enW s) X0 k).ms.length=(enX s).ms.length:=by rw [st.l1,hX0]
  have su:(stK s.par t (enW s) X0 k).out.length≤r.out.length+k:=by have:=st.u; rw [hX0] at this ⊢; exact this
  have sg:(stK s.par t (enW s) X0 k).go.length≤r.started.length+k:=by have:=st.g; rw [hX0] at this ⊢; exact this
  have sn:(stK s.par t (enW s) X0 k).ds.length≤s.dues.length+k:=by have:=st.n; rw [hX0] at this ⊢; exact this
  have stt:dTot (stK s.par t (enW s) X0 k).ds+tot ((stK s.par t (enW s) X0 k).ms.map MemD.bal)=dTot s.dues+tot ((enX s).ms.map MemD.bal):=by have:=st.t; rw [hX0] at this ⊢; exact this
  have sxl:=row_len st.rx
  by_cases c1:k<N
  · have hd0:(enW s).drop k=at0 (enW s) k::(enW s).drop (k+1):=by rw [List.drop_eq_getElem_cons (by omega),at0_lt (by omega)]
    have hin:=row_in st.e (z:=at0 (enW s) k) (by rw [hd0]; simp)
    obtain ⟨i,hi⟩:=Int.eq_ofNat_of_zero_le hin.1
    rw [hi] at hin
    have hws4:∀ j,j<N→elemCell h4 wa j=some (.int .i64 (at0 (enW s) j)):=fun j hj=>elemCell_up le4 (hws j hj)
    have eK:stK s.par t (enW s) X0 (k+1)=stStep s.par t i (stK s.par t (enW s) X0 k):=by rw [stK,hi,Int.toNat_natCast]
    have hda1:=hda k (by omega)
    obtain ⟨X,hX⟩:∃ X,X=stK s.par t (enW s) X0 k:=⟨_,rfl⟩
    rw [← hX] at id4 oko1 oks1 okx1 st sl su sg sn stt sxl hin hda1 eK ⊢
    have hi2:i<X.ms.length:=by omega
    obtain ⟨bm,cm,rfl⟩:∃ bm cm,om1=some (bm,cm):=by
      cases om1 with
      | none=>have:(enX s).ms.length=0:=okm1; omega
      | some p=>exact ⟨_,_,rfl⟩
    have nmb':bm≠bb:=nmb
    have hbm4:h4 bm=noC:=hom4.2
    obtain ⟨m,hmm⟩:∃ m,m=gr zeroM X.ms i:=⟨_,rfl⟩
    have mo:MemOk m:=by rw [hmm]; exact st.m _ (gr_mem hi2)
    have hoo:=st.o _ (gr_mem (z:=zeroM) hi2)
    have hg:=memT hi2
    rw [← hmm] at hg
    obtain ⟨g0,g1,g2,g3,g4,g5⟩:=hg
    have hi6:=flat_lt (w:=6) hi2 (show 5<6 by decide)
    have hsm:=memS (ms:=X.ms) rfl
    simp only [tMo,oent_some,ovs_some]
    simp -dsimp -implicitDefEqProofs (disch:=first|with_reducible assumption|omega) [go_sem,idx hws4]
    rw [hi]
    obtain ⟨M,hM⟩:∃ M,M=startM s.par m:=⟨_,rfl⟩
    refine xany_cut (.tk 0 (.tk 1 (.tk 2 (.tk 3 (.tk 5 (.tk 6 (.tk 7 (.tk 8 (.tk 10 (.tkl 4 (.tkl 9 (.tk 11 (.tkl 12 (.or true 13 (.tk 14 (.tk 15 (.tk 16 (.or true 17 (.or false 18 (.tk 19 (.fin)) (.nil)) (.nil))))) (.or true 17 (.or true 13 (.tk 14 (.tk 15 (.tk 16 (.or false 18 (.tk 19 (.fin)) (.nil))))) (.nil)) (.nil)))))))))))))))) (by kernel_rfl) (by kernel_rfl) [(0,.pointer (some ⟨bb,0,none⟩)),(8,.int .i64 i),(58,.int .i64 k),(57,.int .i64 N),(56,.slice wa N wc)] _ (γ:=Nat) (fun b9=>bb≠b9∧bm≠b9∧h4 b9=noC)
      (fun b9=>[(0,.pointer (some ⟨bb,0,none⟩)),(8,.int .i64 i),(58,.int .i64 k),(57,.int .i64 N),(56,.slice wa N wc),(9,.pointer (some ⟨b9,0,none⟩)),(10,.bool M.2)])
      (fun b9=>⟨b9,73,memC M.1,6⟩::tB bb { s with pool:=[],members:=X.ms,purses:=(enX s).ps,entry:=R,dues:=X.ds,exit:=X.ex } ⟨pv,.slice (some ⟨bm,0,none⟩) (enX s).ms.length cm,ovs oe3 R.length,ovs ox X.ex.length,.slice none 0 0,dv,vt,vk,vr⟩ { r with out:=X.out,started:=X.go } ⟨ovs oo1 X.out.length,ql,ovs os1 X.go.length,qd⟩ w ::
        tM bm cm X.ms::oent 3 1 os1 (X.go.map (.int .i64)) (oent 3 1 oo1 (X.out.map (.int .i64)) (oent 3 1 ox (X.ex.map (.int .i64)) (oent 3 1 oe3 (R.map (.int .i64)) L)))) (fun _=>h4) (by simp [Ent,List.lookup]) (Drop.refl _ _) ?_ ?_
    · repeat' first
        | with_reducible refine xpl_or ?_ ?_
        | simp -dsimp -implicitDefEqProofs (disch:=first|with_reducible assumption|omega) [go_sem,g0,g1,g2,g3,g4,g5]
        | (with_reducible refine xnew fun b9 n_b9 h_b9 => ?_
           simp only [Apart] at n_b9)
        | (with_reducible show xCall Tryz.prog 158 _ _ _ _
           refine mstart_any s.par ti.ok.p ti.r m mo ?_
           rw [← hM])
        | with_reducible refine xkp (Drop.refl _ _) ?_
        | with_reducible refine xkp (Drop.tail _ _ _) ?_
        | fail
      all_goals exact ⟨b9,⟨n_b9.1,n_b9.2.1,h_b9⟩,by simp [Ent,List.lookup],Drop.refl _ _⟩
    rintro b9 ⟨n9b,n9m,h9⟩
    obtain ⟨M1,M2⟩:=M
    simp only
    have stp:=startM_ok ti.ok.p ti.r mo
    rw [← hM] at stp
    simp only at stp
    have eK2:stK s.par t (enW s) X0 (k+1)=if M2 then { X with ms:=X.ms.set i M1,go:=X.go++[(i:Int)] } else ⟨X.ms.set i (endM m),oweL X.ds (dueOf t m),flt X.ex i,X.out++[(i:Int)],X.go⟩:=by
      rw [eK,stStep,← hmm,← hM]
    have hbt:=at0_le_tot (bal_pos st.m) i
    rw [at0_bal hi2,← hmm] at hbt
    cases M2 with
    | true =>
      rw [if_pos rfl] at eK2
      simp only [memC]
      refine xx ?_
      refine xanyl (.tk 0 (.tk 1 (.tk 2 (.tk 3 (.tk 5 (.tkl 4 (.tkl 6 (.tk 7 (.or false 8 (.fin) (.nil)))))))))) (by kernel_rfl) (by kernel_rfl) _ (Drop.refl _ _) ?_
      refine xx ?_
      refine ⟨by omega,?_⟩
      have hset:((((((X.ms.flatMap memC).set (i*6) (Value.int .u64 M1.bal)).set (i*6+1) (.int .u64 M1.eff)).set (i*6+1+1) (.int .u64 M1.score)).set (i*6+1+1+1) (.int .i64 M1.streak)).set (i*6+1+1+1+1) (.int .i64 M1.owner)).set (i*6+1+1+1+1+1) (.int .i64 M1.status)=(X.ms.set i M1).flatMap memC:=flatG_wr memC_len X.ms hi2 M1
      first
      | rw [hset]
      | (have hset' := hset
         simp only [memC] at hset'
         rw [hset'])
      try simp -dsimp -implicitDefEqProofs (disch:=first|with_reducible assumption|omega) [go_sem]
      refine xnew fun b99 n_b99 h_b99=>?_
      try simp only [Apart] at n_b99
      have n99:bb≠b99:=n_b99.2.1
      clear n_b99
      refine xx ?_
      refine xappend (t:=32) (e:=3) (sz:=1) (bytes:=8) (z:=[.int .i64 0]) (by kernel_rfl) tI_3 rfl rfl rfl rfl (by decide) [_,_,_,_] _ os1 X.go.length (X.go.map (.int .i64)) oks1 (by simp) (Src.own (b:=b99) (t:=3) (cap:=1) List.mem_cons_self) (m:=1) (news:=[.int .i64 i]) rfl (fun u hu=>by simp at hu; subst hu; rfl) (by simp [maxLen]; omega) (by omega) ?_
      intro os2 j1 j2 j3
      simp only [List.cons_append,List.nil_append]
      refine xx ?_
      refine ⟨⟨k+1,h4,dv,oo1,os2⟩,⟨by simp only; omega,le4,by rw [eK2]; exact id4,by rw [eK2]; exact oko1,by rw [eK2]; simpa using j1,by rw [eK2]; exact okx1,hbb4,hom4⟩,by simp only; omega,by simp [Ent,List.lookup],?_⟩
      simp only
      rw [eK2]
      simp only [List.map_append,List.map_cons,List.map_nil,List.length_append,List.length_singleton,tMo,oent_some,ovs_some]
      exact (Drop.tail _ _ _).trans (Drop.tail _ _ _)
    | false =>
      rw [if_neg (by decide)] at eK2
      refine xx ?_
      have how2:0≤(gr zeroM X.ms i).owner∧(gr zeroM X.ms i).owner≤63:=by omega
      have hbt2:dTot X.ds+(gr zeroM X.ms i).bal≤4611686018427387904:=by rw [← hmm]; omega
      refine Spec.fin (Spec.weaken (Drop.perm _ permO) (Spec.ap (tout_any (s:={ s with pool:=[],members:=X.ms,purses:=(enX s).ps,entry:=R,dues:=X.ds,exit:=X.ex }) (v:=⟨pv,.slice (some ⟨bm,0,none⟩) (enX s).ms.length cm,ovs oe3 R.length,ovs ox X.ex.length,.slice none 0 0,dv,vt,vk,vr⟩) (r:={ r with out:=X.out,started:=X.go }) (q:=⟨ovs oo1 X.out.length,ql,ovs os1 X.go.length,qd⟩) (by rw [sl]) (by show X.ms.length≤900; omega) st.m id4 st.d (by show X.ds.length≤32000; omega) i hi2 how2 hw (by show 0≤s.ep∧s.ep≤_; omega) hbt2 rfl okx1 (by show X.ex.length≤900; omega) rfl oko1 (by show X.out.length≤900; omega) fun h5 d5 oo5 le5 i5 ok5 ap=>⟨_,_,Drop.perm _ permO.symm,?_⟩)))
      have hbb5:h5 bb=noC:=ap.1
      have hbm5:apO (some (bm,cm)) [] h5:=⟨trivial,ap.2.1⟩
      clear ap
      refine xx ?_
      have ew:oweL X.ds (dueOf t m)=oweL X.ds (dueOf (min (s.ep+w) 2147483647) (gr zeroM X.ms i)):=by rw [ht,hmm]
      have em:endM m=endR (gr zeroM X.ms i) 4:=by rw [hmm]; rfl
      refine ⟨⟨k+1,h5,d5,oo5,os1⟩,⟨by simp only; omega,le4.trans le5,by rw [eK2,ew]; exact i5,by rw [eK2]; simpa using ok5,by rw [eK2]; exact oks1,by rw [eK2]; exact okO_le okx1 (flt_len _ _),hbb5,hbm5⟩,by simp only; omega,by simp [Ent,List.lookup],?_⟩
      simp only
      rw [eK2,ew,em]
      simp only [List.map_append,List.map_cons,List.map_nil,List.length_append,List.length_singleton,tMo,oent_some,ovs_some]
      exact Drop.tail _ _ _
  obtain rfl:N=k:=by omega
  have eY:stK s.par t (enW s) X0 N=enY s r t:=by rw [hN2,hX0]; rfl
  rw [eY] at id4 oko1 oks1 okx1 sl ⊢
  have hk:=hk h4 pv dv (.slice none 0 0) om1 oe3 os1 oo1 (le1.trans (le13.trans le4)) (ip.up (le13.trans le4)) id4 (Recs.nil depC_len _) (by rw [sl]; exact okm1) ok3 oks1 oko1 okx1
  rw [sl] at hk
  refine xx ?_
  exact ⟨_,_,Drop.perm _ permFe,hk⟩
open Go.RowKit Go.Proofs Go.Bl
variable {L:Own} {h:PH} {K:PK}
def csN (f:MotD→MotD) (l:List MotD):Nat→List MotD
 | 0=>l
 | k+1=>(csN f l k).set k (f (gr zeroMot l k))
theorem csN_len (f:MotD→MotD) (l:List MotD):∀ k,(csN f l k).length=l.length
 | 0=>rfl
 | k+1=>by rw [csN,List.length_set]; exact csN_len f l k
theorem csN_gr (f:MotD→MotD) (l:List MotD):∀ k,k≤l.length→∀ j,gr zeroMot (csN f l k) j=if j<k then f (gr zeroMot l j) else gr zeroMot l j
 | 0,_,j=>by simp [csN]
 | k+1,hk,j=>by
  rw [csN,gr_setT (by rw [csN_len]; omega)]
  by_cases e:j=k
  ·subst e; rw [if_pos rfl,if_pos (by omega)]
  ·rw [if_neg e,csN_gr f l k (by omega) j]
   by_cases c:j<k
   ·rw [if_pos c,if_pos (by omega)]
   ·rw [if_neg c,if_neg (by omega)]
theorem csN_all (f:MotD→MotD) (l:List MotD):csN f l l.length=l.map f:=by
 refine List.ext_getElem (by rw [csN_len,List.length_map]) fun j h1 h2=>?_
 have hj:j<l.length:=by rwa [csN_len] at h1
 rw [← gr_lt (z:=zeroMot) h1,csN_gr f l _ (Nat.le_refl _),if_pos hj,gr_lt hj,List.getElem_map]
theorem csN_same (f:MotD→MotD) (l:List MotD) {k:Nat} (hk:k<l.length) (hf:f (gr zeroMot l k)=gr zeroMot l k):csN f l (k+1)=csN f l k:=by
 have hl:=csN_len f l k
 have h1:=csN_gr f l k (by omega) k
 rw [if_neg (by omega),gr_lt (by omega)] at h1
 rw [csN,hf,← h1,List.set_getElem_self]
structure ClG where
 k:Nat
 h:PH
 q:List QM
theorem permCl {e0 s0:Nat} {o0:Option (Nat×Nat)} {X0:List Value} {a b:Blk} {L:Own}:(a::b::oent e0 s0 o0 X0 L).Perm (oent e0 s0 o0 X0 (a::b::L)):=oent_perm_app [a,b]
theorem permCl3 {e0 s0:Nat} {o0:Option (Nat×Nat)} {X0:List Value} {a b c:Blk} {L:Own}:(a::b::c::oent e0 s0 o0 X0 L).Perm (oent e0 s0 o0 X0 (a::b::c::L)):=oent_perm_app [a,b,c]
theorem apO_fwd {e sz:Nat} {o:Option (Nat×Nat)} {xs:List Value} (A:Own) {L:Own} (ap:Ap (A++oent e sz o xs L) h) (nd:Nd (A++oent e sz o xs L)):apO o (A++L) h:=by
 have ap:=ap.perm (oent_perm_app A)
 have nd:=nd.perm (oent_perm_app A)
 cases o with
 | none=>trivial
 | some p=>exact ⟨nd.1,ap.1⟩
theorem apO_fwd2 {e sz:Nat} {o:Option (Nat×Nat)} {xs:List Value} {a b:Blk} {L:Own} (ap:Ap (a::b::oent e sz o xs L) h) (nd:Nd (a::b::oent e sz o xs L)):apO o (a::b::L) h:=apO_fwd [a,b] ap nd
theorem apO_fwd3 {e sz:Nat} {o:Option (Nat×Nat)} {xs:List Value} {a b c:Blk} {L:Own} (ap:Ap (a::b::c::oent e sz o xs L) h) (nd:Nd (a::b::c::oent e sz o xs L)):apO o (a::b::c::L) h:=apO_fwd [a,b,c] ap nd
theorem mclose_any {ql : List QM} {ms : List MotD} {l : List MemD} {om : Option (Nat × Nat)} (p : ParD) (ok : ParOk p) (hen : 0 ≤ p.enact ∧ p.enact ≤ 1000000) (ep : Int) (hep : 0 ≤ ep ∧ ep ≤ 1073741824) (v : Value) (hv : Recs motC 33 h v ql) (hq : ql.map (fun x => x.2.2) = ms) (hm : MotsOk h ql) (hl : ql.length ≤ 1000) (hb : ∀ m ∈ ms,m.yes.length ≤ 1000 ∧ m.no.length ≤ 1000) (okm : okO om l.length) (hml : l.length ≤ 1000) (mo : ∀ x ∈ l,MemOk x) (hA : actL l ≤ 18446744073709551615)
    (hk:∀ h' r ql',PH.le h h'→Recs motC 33 h' r ql'→ql'.map (fun x=>x.2.2)=closeL p l ep ms→MotsOk h' ql'→K r (tMo om l L) h') :
    Spec Tryz.prog 159 [parV p,v,ovs om l.length,.int .i64 ep] (tMo om l L) h K:=by
  have hql:ql.length=ms.length:=by rw [← hq,List.length_map]
  have hv0:=hv
  obtain ⟨va,vc,rfl,_⟩:=hv.open
  rw [hql] at hv0 ⊢
  obtain ⟨f,hf⟩:∃ f,f=closeM p l ep:=⟨_,rfl⟩
  obtain ⟨N,hN⟩:∃ N,N=ms.length:=⟨_,rfl⟩
  refine x_enterA Tryz.func159 rfl (rs:=[_]) rfl rfl mixed (by kernel_rfl) rfl rfl fun ap nd=>?_
  have hom:apO om [] h:=ap_here ap
  have ndo:=nd
  clear ap nd
  refine xx ?_
  refine xnew fun b4 n_b4 h_b4=>?_
  try simp only [Apart] at n_b4
  have nm4:apB om b4:=apart_here n_b4
  clear n_b4
  refine xx ?_
  refine Spec.apn (mown_any _ hv0 hq hm hl hb fun h5 o ql' le5 oko apo eq' mo' ap nd=>?_)
  have hql':ql'.length=ms.length:=by rw [← eq',List.length_map]
  have no4:apB o b4:=(nd_here nd).1
  have nod:Nd (oent 75 33 o (ql'.flatMap motC) (tMo om l L)):=(nd_here nd).2
  have hb45:h5 b4=noC:=(Ap.oent ap).1
  have hom5:apO om [] h5:=ap_here (Ap.oent ap).2
  have hom6:apO o [] h5:=ap_here ap
  clear ap nd apo
  obtain ⟨oa,oc,eo,_⟩:=ovs_open oko
  rw [eo]
  refine xx ?_
  rw [← hN]
  refine xloop (γ:=ClG) ⟨0,h5,ql'⟩ (fun y=>y.k≤N∧PH.le h5 y.h∧y.q.map (fun x=>x.2.2)=csN f ms y.k∧MotsOk y.h y.q∧y.h b4=noC∧apO om [] y.h∧apO o [] y.h)
    (fun y=>[(18,.int .i64 y.k),(17,.int .i64 N),(9,.slice oa N oc),(2,ovs om l.length),(3,.int .i64 ep),(4,.pointer (some ⟨b4,0,none⟩))])
    (fun y=>oent 75 33 o (y.q.flatMap motC) (⟨b4,24,parC p,24⟩::tMo om l L)) (fun y=>y.h) (fun y=>N-y.k) ?_ ?_ ?_ ?_
  · exact ⟨Nat.zero_le _,PH.le_refl _,eq',mo',hb45,hom5,hom6⟩
  · simp [Ent,List.lookup,xEnv,hN]
  · exact Drop.refl _ _
  rintro ⟨k,h6,q⟩ ⟨k1,le6,eq6,mo6,hb46,hom7,hom8⟩
  simp only at k1 le6 eq6 mo6 hb46 hom7 hom8 ⊢
  have hql6:q.length=N:=by rw [← List.length_map (f:=fun x:QM=>x.2.2),eq6,csN_len,hN]
  by_cases c1:k<N
  · obtain ⟨bo,co,rfl⟩ : ∃ bt cap,o = some (bt,cap) := by
      cases o with
      | none=>have:ms.length=0:=oko; omega
      | some p=>exact ⟨_,_,rfl⟩
    simp only [ovs_some,Value.slice.injEq] at eo
    obtain ⟨rfl,_,rfl⟩:=eo
    have hbo:h6 bo=noC:=hom8.2
    have no4':bo≠b4:=no4
    have nob:apB om bo:=by
      cases om with
      | none=>trivial
      | some p=>exact nod.1.1
    obtain ⟨qk,hqk⟩:∃ qk,qk=gr zeroQM q k:=⟨_,rfl⟩
    have hkq:k<q.length:=by omega
    have hmk:IsMot h6 qk:=by rw [hqk,gr_lt hkq]; exact mo6 _ (List.getElem_mem _)
    obtain ⟨md,hmd⟩:∃ md,md=qk.2.2:=⟨_,rfl⟩
    have egr:md=gr zeroMot ms k:=by
      rw [hmd,hqk,grQ_map eq6 (by rw [csN_len]; omega),csN_gr _ _ _ (by omega),if_neg (by omega)]
    have hcs:csN f ms (k+1)=(csN f ms k).set k (f md):=by rw [csN,egr]
    have hsame:f md=md→csN f ms (k+1)=csN f ms k:=fun e=>csN_same f ms (by omega) (by rw [← egr]; exact e)
    have g29:∀ (K:Value→Prop) (t:Tok K),xNth (q.flatMap motC) (k*33+28) K t=K (.int .i64 md.ends):=fun K t=>xNth_rec motC_len zeroQM q hkq (by decide) (by rw [← hqk,hmd]; rfl) K t
    have g30:∀ (K:Value→Prop) (t:Tok K),xNth (q.flatMap motC) (k*33+30) K t=K (.int .i64 md.state):=fun K t=>xNth_rec motC_len zeroQM q hkq (by decide) (by rw [← hqk,hmd]; rfl) K t
    have g31:∀ (K:Value→Prop) (t:Tok K),xNth (q.flatMap motC) (k*33+31) K t=K qk.1:=fun K t=>xNth_rec motC_len zeroQM q hkq (by decide) (by rw [← hqk]; rfl) K t
    have g32:∀ (K:Value→Prop) (t:Tok K),xNth (q.flatMap motC) (k*33+32) K t=K qk.2.1:=fun K t=>xNth_rec motC_len zeroQM q hkq (by decide) (by rw [← hqk]; rfl) K t
    have hk33:=flat_lt (n:=q.length) (w:=33) hkq (m:=32) (by decide)
    have hsum:(q.map fun a=>(motC a).length).sum=q.length*33:=by rw [← List.length_flatMap,flatG_len motC_len]
    simp only [oent_some]
    by_cases s12:md.state=1∧md.ends≤ep
    rotate_left
    · have e1:f md=md:=by rw [hf,closeM,if_neg s12]
      have e2:=hsame e1
      have fin:∀ E,Ent E [(18,.int .i64 (k+1:Nat)),(17,.int .i64 N),(9,.slice (some ⟨bo,0,none⟩) N co),(2,ovs om l.length),(3,.int .i64 ep),(4,.pointer (some ⟨b4,0,none⟩))]→True:=fun _ _=>trivial
      by_cases s1:md.state=1
      · have s2 : ep < md.ends := by
          have:=fun c=>s12 ⟨s1,c⟩
          omega
        simp -dsimp -implicitDefEqProofs (disch:=first|with_reducible assumption|omega) [go_sem,g29,g30,s1]
        exact ⟨⟨k+1,h6,q⟩,⟨by simp only; omega,le6,by rw [e2]; exact eq6,mo6,hb46,hom7,hom8⟩,by simp only; omega,by simp [Ent,List.lookup],Drop.refl _ _⟩
      · simp -dsimp -implicitDefEqProofs (disch:=first|with_reducible assumption|omega) [go_sem,g29,g30]
        exact ⟨⟨k+1,h6,q⟩,⟨by simp only; omega,le6,by rw [e2]; exact eq6,mo6,hb46,hom7,hom8⟩,by simp only; omega,by simp [Ent,List.lookup],Drop.refl _ _⟩
    obtain ⟨s1,s2⟩:=s12
    have hy:=hmk.y
    have hn:=hmk.n
    obtain ⟨ya,yc,ey,_⟩:=hy.open
    obtain ⟨na,nc,en,_⟩:=hn.open
    rw [← hmd] at hy hn ey en
    simp -dsimp -implicitDefEqProofs (disch:=first|with_reducible assumption|omega) [go_sem,g29,g30,s1]
    refine xany_cut (.tk 0 (.tk 1 (.tk 2 (.tk 3 (.tk 5 (.tk 6 (.tk 7 (.tkl 4 (.tkl 8 (.or true 9 (.tk 10 (.tk 11 (.tk 12 (.or true 13 (.or false 14 (.tk 15 (.fin)) (.nil)) (.nil))))) (.or true 13 (.or true 9 (.tk 10 (.tk 11 (.tk 12 (.or false 14 (.tk 15 (.fin)) (.nil))))) (.nil)) (.nil)))))))))))) (by kernel_rfl) (by kernel_rfl) [(2,ovs om l.length),(3,.int .i64 ep),(4,.pointer (some ⟨b4,0,none⟩)),(9,.slice (some ⟨bo,0,none⟩) N co),(11,.pointer (some ⟨bo,k*33,none⟩)),(17,.int .i64 N),(18,.int .i64 k)] [⟨bo,75,q.flatMap motC,co*33⟩] (γ:=Nat×PH) (fun y=>PH.le h6 y.2∧y.2 y.1=noC∧b4≠y.1∧bo≠y.1∧apB om y.1∧y.2 b4=noC∧y.2 bo=noC∧apO om [] y.2)
      (fun y=>[(2,ovs om l.length),(3,.int .i64 ep),(4,.pointer (some ⟨b4,0,none⟩)),(9,.slice (some ⟨bo,0,none⟩) N co),(11,.pointer (some ⟨bo,k*33,none⟩)),(17,.int .i64 N),(18,.int .i64 k),(12,.pointer (some ⟨y.1,0,none⟩)),(13,.int .i64 0)])
      (fun y=>⟨y.1,348,[.int .u64 (preL l md.yes),.int .u64 (preL l md.no),.int .u64 (actL l)],3⟩::⟨bo,75,q.flatMap motC,co*33⟩::⟨b4,24,parC p,24⟩::tMo om l L) (fun y=>y.2) (by simp [Ent,List.lookup]) drop1 ?_ ?_
    · repeat' first
        | with_reducible refine xpl_or ?_ ?_
        | simp -dsimp -implicitDefEqProofs (disch:=first|with_reducible assumption|omega) [go_sem,g31,g32]
        | (with_reducible refine xnew fun b12 n_b12 h_b12 => ?_
           simp only [Apart] at n_b12)
        | (with_reducible show xCall Tryz.prog 270 _ _ _ _
           refine Spec.entr fun ap nd=>?_
           refine Spec.fin (Spec.weaken (Drop.perm _ permCl) (Spec.apn (bcountO_any om okm (apO_fwd2 ap nd) _ _ hml mo hy hn hA fun h7 le7 ap nd=>⟨_,_,Drop.perm _ permCl.symm,?_⟩)))
           have hom9:apO om [] h7:=ap_here ap
           have hbo7:h7 bo=noC:=(Ap.oent ap).1
           have hb47:h7 b4=noC:=(Ap.oent ap).2.1
           clear ap nd)
        | (with_reducible show xCall Tryz.prog 270 _ _ _ _
           refine Spec.entr fun ap nd=>?_
           refine Spec.fin (Spec.weaken (Drop.perm _ permCl3) (Spec.apn (bcountO_any om okm (apO_fwd3 ap nd) _ _ hml mo hy hn hA fun h7 le7 ap nd=>⟨_,_,Drop.perm _ permCl3.symm,?_⟩)))
           have hom9:apO om [] h7:=ap_here ap
           have hb127:h7 b12=noC:=(Ap.oent ap).1
           have hbo7:h7 bo=noC:=(Ap.oent ap).2.1
           have hb47:h7 b4=noC:=(Ap.oent ap).2.2.1
           clear ap nd)
        | with_reducible refine xkp drop1 ?_
        | with_reducible refine xkp (drop1.trans (Drop.forget le7)) ?_
        | with_reducible refine xkp ((Drop.tail _ _ _).trans drop1) ?_
        | with_reducible refine xkp ((Drop.tail _ _ _).trans (drop1.trans (Drop.forget le7))) ?_
        | fail
      · exact ⟨b12,h7,⟨le7,h_b12,n_b12.2.1,n_b12.1,apart_here n_b12.2.2,hb47,hbo7,hom9⟩,by simp [Ent,List.lookup],Drop.refl _ _⟩
      · exact ⟨b12,h7,⟨le7,hb127,n_b12.2.1,n_b12.1,apart_here n_b12.2.2,hb47,hbo7,hom9⟩,by simp [Ent,List.lookup],Drop.refl _ _⟩
    rintro ⟨b12,h7⟩ ⟨le7,h12,n412,no12,nm12,hb47,hbo7,hom9⟩
    simp only at le7 h12 n412 no12 nm12 hb47 hbo7 hom9 ⊢
    have up:=pre_le (ks:=md.yes) mo
    have un:=pre_le (ks:=md.no) mo
    have mo7:MotsOk h7 q:=fun x hx=>(mo6 x hx).up le7
    have hmk7:IsMot h7 qk:=hmk.up le7
    refine xx ?_
    refine bpass_any p ok (preL l md.yes) (preL l md.no) (actL l) ⟨up.1,by omega⟩ ⟨un.1,by omega⟩ ⟨by omega,hA⟩ ?_
    have hql3:∀ X:QM,(q.set k X).length=N:=fun X=>by rw [List.length_set]; exact hql6
    cases hpb:passB p.quorum (preL l md.yes) (preL l md.no) (actL l) with
    | false =>
      have e1:f md={ md with state:=4 }:=by rw [hf,closeM,if_pos ⟨s1,s2⟩,hpb]; rfl
      have s4:=motSet hkq 4
      rw [← hqk,← hmd] at s4
      refine xx ?_
      refine ⟨by omega,?_⟩
      rw [s4]
      refine ⟨⟨k+1,h7,q.set k (qk.1,qk.2.1,{ md with state:=4 })⟩,⟨by simp only; omega,le6.trans le7,by simp only; rw [setQ_map',eq6,hcs,e1],setQ_ok' mo7 (by rw [hmd]; exact isMot_st hmk7 (st:=4) (by decide) (hmk7.ok.n _ (by simp))),hb47,hom9,trivial,hbo7⟩,by simp only; omega,by simp [Ent,List.lookup],Drop.tail _ _ _⟩
    | true =>
      have hmx:min ep (2147483647-p.enact)+p.enact=min (ep+p.enact) 2147483647:=by omega
      have e1:f md={ md with state:=2,due:=min (ep+p.enact) 2147483647 }:=by rw [hf,closeM,if_pos ⟨s1,s2⟩,hpb]; rfl
      have s4:=motSet hkq 2
      rw [← hqk,← hmd] at s4
      have hk2:k<(q.set k (qk.1,qk.2.1,{ md with state:=2 })).length:=by rw [List.length_set]; exact hkq
      have s5:=motSetD hk2 (min (ep+p.enact) 2147483647)
      have eg:gr zeroQM (q.set k (qk.1,qk.2.1,{ md with state:=2 })) k=(qk.1,qk.2.1,{ md with state:=2 }):=by rw [gr_lt hk2,List.getElem_set_self]
      rw [eg,List.set_set] at s5
      have mx1:max ep (-2147483647)=ep:=by omega
      have mx2:max p.enact 0=p.enact:=by omega
      simp -dsimp -implicitDefEqProofs (disch:=first|with_reducible assumption|omega) [go_sem,xBuiltin_max,mx1,mx2]
      refine ⟨by omega,?_⟩
      rw [s4]
      simp -dsimp -implicitDefEqProofs (disch:=first|with_reducible assumption|omega) [go_sem,xBuiltin_max,mx1,mx2,hmx]
      refine ⟨by rw [hsum]; omega,?_⟩
      rw [s5]
      refine ⟨⟨k+1,h7,q.set k (qk.1,qk.2.1,{ md with state:=2,due:=min (ep+p.enact) 2147483647 })⟩,⟨by simp only; omega,le6.trans le7,by simp only; rw [setQ_map',eq6,hcs,e1],setQ_ok' mo7 (by rw [hmd]; exact isMot_st hmk7 (st:=2) (by decide) (by omega)),hb47,hom9,trivial,hbo7⟩,by simp only; omega,by simp [Ent,List.lookup],Drop.tail _ _ _⟩
  have hkN:k=N:=by omega
  subst hkN
  rw [hN,csN_all] at eq6
  rw [hN] at hql6
  refine xx ?_
  refine fin_pub (e:=75) (sz:=33) (n:=ms.length) (o:=o) oko (by rw [flatG_len motC_len,hql6]) (by omega) hom8 fun h7 le7 sl=>fin_tail (fin_here ?_)
  refine hk h7 _ q (le5.trans (le6.trans le7)) (by have:=Recs.pub (f:=motC) (w:=33) (l:=q) (o:=o) motC_len (by rw [hql6]; exact sl); rw [hql6,eo,← hN] at this; exact this) (by rw [eq6,hf]; rfl) (fun x hx=>(mo6 x hx).up le7)
theorem tenact_any {bb:Nat} {s:StD} {v:SV} {r:RepD} {q:RV} {w:Int} {m:MotD} (y n:Value) (mo:List MotD) (dn:List Int) (hp:Ints h .u64 v.p s.purses) (hl:s.purses.length≤1000) (hto:0≤m.to∧m.to<s.purses.length) (ha:0≤m.amt∧m.amt≤18446744073709551615) (htr:0≤s.treas∧s.treas≤4611686018427387904) (hs:at0 s.purses m.to.toNat+s.treas≤4611686018427387904)
  (hk:∀ h' pv,PH.le h h'→Ints h' .u64 pv (enactX m ⟨s.par,s.treas,s.purses,s.emer,mo,dn⟩).ps→K (.bool (moB m s.treas)) (tB bb { s with par:=(enactX m ⟨s.par,s.treas,s.purses,s.emer,mo,dn⟩).par,treas:=(enactX m ⟨s.par,s.treas,s.purses,s.emer,mo,dn⟩).tr,purses:=(enactX m ⟨s.par,s.treas,s.purses,s.emer,mo,dn⟩).ps,emer:=(enactX m ⟨s.par,s.treas,s.purses,s.emer,mo,dn⟩).em } { v with p:=pv } r q w::L) h') :
  Spec Tryz.prog 161 [.pointer (some ⟨bb,0,none⟩),motV m y n] (tB bb s v r q w::L) h K:=by
 refine x_enterA Tryz.func161 rfl (rs:=[_]) rfl rfl mixed (by kernel_rfl) rfl rfl fun ap nd=>?_
 have hbb:h bb=noC:=ap.1
 clear ap nd
 refine xx ?_
 refine xnew fun b3 n_b3 h_b3=>?_
 try simp only [Apart] at n_b3
 have n3:=n_b3.1
 clear n_b3
 refine xx ?_
 by_cases w3:m.what=3
 ·have e1:enactX m ⟨s.par,s.treas,s.purses,s.emer,mo,dn⟩=⟨s.par,s.treas,s.purses,true,mo,dn⟩:=by rw [enactX,if_pos w3]
  have e2:moB m s.treas=true:=by simp [moB,w3]
  rw [e1,e2] at hk
  have hk:=hk h v.p (PH.le_refl _) hp
  simp -dsimp -implicitDefEqProofs (disch:=first|with_reducible assumption|omega) [go_sem,w3]
  exact fin_tail (fin_here hk)
 by_cases w4:m.what=4
 ·have e1:enactX m ⟨s.par,s.treas,s.purses,s.emer,mo,dn⟩=⟨s.par,s.treas,s.purses,false,mo,dn⟩:=by rw [enactX,if_neg w3,if_pos w4]
  have e2:moB m s.treas=true:=by simp [moB,w4]
  rw [e1,e2] at hk
  have hk:=hk h v.p (PH.le_refl _) hp
  simp -dsimp -implicitDefEqProofs (disch:=first|with_reducible assumption|omega) [go_sem,w4]
  exact fin_tail (fin_here hk)
 by_cases w1:m.what=1
 ·have e1:enactX m ⟨s.par,s.treas,s.purses,s.emer,mo,dn⟩=⟨m.par,s.treas,s.purses,s.emer,mo,dn⟩:=by rw [enactX,if_neg w3,if_neg w4,if_pos w1]
  have e2:moB m s.treas=true:=by simp [moB,w1]
  rw [e1,e2] at hk
  have hk:=hk h v.p (PH.le_refl _) hp
  simp -dsimp -implicitDefEqProofs (disch:=first|with_reducible assumption|omega) [go_sem,w1]
  exact fin_tail (fin_here hk)
 by_cases w2:m.what=2
 ·by_cases c:m.amt≤s.treas
  ·have e1:enactX m ⟨s.par,s.treas,s.purses,s.emer,mo,dn⟩=⟨s.par,s.treas-m.amt,s.purses.set m.to.toNat (at0 s.purses m.to.toNat+m.amt),s.emer,mo,dn⟩:=by rw [enactX,if_neg w3,if_neg w4,if_neg w1,if_pos ⟨w2,c⟩]
   have e2:moB m s.treas=true:=by simp [moB,c]
   rw [e1,e2] at hk
   simp only at hk
   simp -dsimp -implicitDefEqProofs (disch:=first|with_reducible assumption|omega) [go_sem,w2]
   refine xanyl (.tk 0 (.tk 1 (.tk 2 (.tk 3 (.tk 5 (.tkl 4 (.tkl 6 (.tk 7 (.fin))))))))) (by kernel_rfl) (by kernel_rfl) _ (Drop.refl _ _) ?_
   refine xx ?_
   refine xanyl (.tk 0 (.tk 1 (.tk 2 (.tk 3 (.tk 5 (.tkl 4 (.tkl 6 (.tk 7 (.tk 8 (.tk 9 (.tk 10 (.or false 11 (.fin) (.nil))))))))))))) (by kernel_rfl) (by kernel_rfl) _ (Drop.refl _ _) ?_
   refine xx ?_
   refine Spec.fin (Spec.weaken (Drop.perm _ (List.Perm.swap _ _ _)) (tpay_any (s:={ s with treas:=s.treas-m.amt }) hp hl m.to hto m.amt ha.1 (by show at0 s.purses m.to.toNat+m.amt≤_; omega) fun h1 pv le1 i1=>⟨_,_,Drop.perm _ (List.Perm.swap _ _ _),?_⟩))
   have hk:=hk h1 pv le1 i1
   refine xx ?_
   exact fin_tail (fin_here hk)
  ·have e1:enactX m ⟨s.par,s.treas,s.purses,s.emer,mo,dn⟩=⟨s.par,s.treas,s.purses,s.emer,mo,dn⟩:=by rw [enactX,if_neg w3,if_neg w4,if_neg w1,if_neg (fun x=>c x.2)]
   have e2:moB m s.treas=false:=by simp [moB,w2,c]
   rw [e1,e2] at hk
   have hk:=hk h v.p (PH.le_refl _) hp
   simp -dsimp -implicitDefEqProofs (disch:=first|with_reducible assumption|omega) [go_sem,w2]
   refine xanyl (.tk 0 (.tk 1 (.tk 2 (.tk 3 (.tk 5 (.tkl 4 (.tkl 6 (.tk 7 (.fin))))))))) (by kernel_rfl) (by kernel_rfl) _ (Drop.refl _ _) ?_
   refine xx ?_
   exact fin_tail (fin_here hk)
 ·have e1:enactX m ⟨s.par,s.treas,s.purses,s.emer,mo,dn⟩=⟨s.par,s.treas,s.purses,s.emer,mo,dn⟩:=by rw [enactX,if_neg w3,if_neg w4,if_neg w1,if_neg (fun x=>w2 x.1)]
  have e2:moB m s.treas=true:=by simp [moB,w2]
  rw [e1,e2] at hk
  have hk:=hk h v.p (PH.le_refl _) hp
  refine xx ?_
  exact fin_tail (fin_here hk)
theorem parR_enact2 {p:ParD} (h:parR p=true):0≤p.enact∧p.enact≤1000000:=by
 simp only [parR,Bool.and_eq_true] at h
 have h2:=h.1.2
 simp only [othersB,List.all_cons,List.all_nil,id,Bool.and_eq_true,wi_iff,decide_eq_true_eq,and_true] at h2
 omega
theorem mot_len {n:Nat} {m:MotD} (h:MotR n m):m.yes.length≤1000∧m.no.length≤1000:=by
 obtain ⟨f1,f2,f3,f4,f5⟩:=motFits_iff.1 h.f
 simp only [chkB,Bool.and_eq_true,decide_eq_true_eq] at f3 f4
 have e:sizeB 128=16:=by decide
 omega
structure MoG where
 k:Nat
 h:PH
 p:Value
 t:Value
 q:List QM
 od:Option (Nat×Nat)
theorem tmoots_any {bb D:Nat} {om od:Option (Nat×Nat)} {s:StD} {v:SV} {r:RepD} {q:RV} {w:Int} (ti:TkI s D) (hA:actS s≤18446744073709551615) (hdl:r.done.length≤700) (hp:Ints h .u64 v.p s.purses) (ht:∃ ql:List QM,Recs motC 33 h v.t ql∧ql.map (fun x=>x.2.2)=s.motions∧MotsOk h ql)
  (hm:v.m=ovs om s.members.length) (okm:okO om s.members.length) (hd:q.d=ovs od r.done.length) (okd:okO od r.done.length)
  (hk:∀ h' pv tv od',PH.le h h'→Ints h' .u64 pv (moS s r).purses→(∃ ql:List QM,Recs motC 33 h' tv ql∧ql.map (fun x=>x.2.2)=(moS s r).motions∧MotsOk h' ql)→okO od' (moR s r).done.length →
   K (.tuple #[]) (tB bb (moS s r) { v with p:=pv,t:=tv } (moR s r) { q with d:=ovs od' (moR s r).done.length } w::tMo om s.members (oent 3 1 od' ((moR s r).done.map (.int .i64)) L)) h') :
  Spec Tryz.prog 77 [.pointer (some ⟨bb,0,none⟩)] (tB bb s v r q w::tMo om s.members (oent 3 1 od (r.done.map (.int .i64)) L)) h K:=by
 obtain ⟨vp,vm,ve,vx,vo,vd,vt,vk,vr⟩:=v
 obtain ⟨qo,ql,qs,qd⟩:=q
 simp only at hm hp ht hd hk ⊢
 subst hm
 subst hd
 obtain ⟨qs0,t1,t2,t3⟩:=ht
 have hq0:qs0.length=s.motions.length:=by rw [← t2,List.length_map]
 have hep:=ti.ep
 have hml:=ti.ml
 have hpl:=ti.pl
 have hmn:=ti.mn
 have hsum:=ti.sum
 obtain ⟨p1,p2,p3,p4,p5,p6⟩:=ti.parts
 have hen:=parR_enact2 ti.r
 have hmm:∀ m∈s.motions,m.yes.length≤1000∧m.no.length≤1000:=fun m hm=>mot_len (ti.mm m hm)
 have hmr:=ti.mm
 refine x_enterA Tryz.func77 rfl (rs:=[]) rfl rfl mixed (by kernel_rfl) rfl rfl fun ap nd=>?_
 have hbb:h bb=noC:=ap.1
 clear ap nd
 refine xx ?_
 refine xanyl (.tk 0 (.tk 1 (.tk 2 (.tk 3 (.tk 4 (.tk 6 (.tk 7 (.tk 8 (.tk 9 (.tk 11 (.tk 12 (.tk 13 (.tk 14 (.tk 16 (.tk 17 (.tk 18 (.tk 19 (.tkl 5 (.tkl 10 (.tkl 15 (.tkl 20 (.or true 21 (.tk 22 (.tk 23 (.tk 24 (.or false 25 (.fin) (.nil))))) (.nil))))))))))))))))))))))) (by kernel_rfl) (by kernel_rfl) [_] drop1 ?_
 refine xx ?_
 refine Spec.apn (Spec.fin (Spec.weaken (Drop.perm _ oent_perm) (mclose_any s.par ti.ok.p hen s.ep (by omega) _ t1 t2 t3 (by omega) hmm okm (by omega) ti.be.m hA fun h1 tv q1 le1 i1 e1 m1=>⟨_,_,Drop.perm _ oent_perm.symm,fun ap nd=>?_⟩)))
 have hbb1:h1 bb=noC:=ap.1
 clear ap nd
 obtain ⟨ta,tc,rfl,_⟩:=i1.open
 first
 | refine xkp (drop1.trans (Drop.forget le1)) ?_
 | refine xkp (Drop.forget le1) ?_
 | skip
 refine xx ?_
 have eL:closeL s.par s.members s.ep s.motions=moL s:=rfl
 rw [eL] at e1
 have hmL:(moL s).length=s.motions.length:=List.length_map _
 have hq1:q1.length=(moL s).length:=by rw [← e1,List.length_map]
 refine xanyl (.tk 0 (.tk 1 (.tk 2 (.tk 3 (.tk 5 (.tk 6 (.tk 7 (.tk 8 (.tk 10 (.tk 11 (.tk 12 (.tk 13 (.tk 17 (.tkl 4 (.tkl 9 (.tkl 14 (.or true 15 (.tk 16 (.fin)) (.nil)))))))))))))))))) (by kernel_rfl) (by kernel_rfl) [_] drop1 ?_
 refine xx ?_
 refine Spec.ap (mripe_any _ i1 e1 m1 (by omega) s.ep r.quo fun h2 wv le2 iw ap=>?_)
 have hbb2:h2 bb=noC:=ap.1
 clear ap
 have eW:ripeI (moL s) s.ep r.quo (moL s).length=moW s r:=rfl
 rw [eW] at iw
 obtain ⟨W,hW⟩:∃ W,W=moW s r:=⟨_,rfl⟩
 have hWin:=(moW_in (s:=s) r).2
 have hX:=fun k (hk:k≤(moW s r).length)=>mo_k ti r hk
 have eS:moS s r=moSk s r (moW s r).length:=rfl
 have eR:moR s r=moRk s r (moW s r).length:=rfl
 rw [eS,eR] at hk
 rw [← hW] at iw hWin hX hk
 have hWl:W.length≤(moL s).length:=by rw [hW]; exact ripeI_len _ _ _ _
 obtain ⟨wa,wc,rfl,_,_,_,hws⟩:=iw.open
 obtain ⟨N,hN⟩:∃ N,N=W.length:=⟨_,rfl⟩
 rw [← hN] at hws hk hX ⊢
 first
 | refine xkp (drop1.trans (Drop.forget le2)) ?_
 | refine xkp (Drop.forget le2) ?_
 | skip
 refine xx ?_
 have e0:moX s r 0=⟨s.par,s.treas,s.purses,s.emer,moL s,r.done⟩:=rfl
 refine xloop (γ:=MoG) ⟨0,h2,vp,.slice ta q1.length tc,q1,od⟩ (fun y=>y.k≤N∧PH.le h2 y.h∧Ints y.h .u64 y.p (moX s r y.k).ps∧Recs motC 33 y.h y.t y.q∧y.q.map (fun x=>x.2.2)=(moX s r y.k).mo∧MotsOk y.h y.q∧okO y.od (moX s r y.k).dn.length∧y.h bb=noC)
  (fun y=>[(49,.int .i64 y.k),(48,.int .i64 N),(47,.slice wa N wc),(0,.pointer (some ⟨bb,0,none⟩))])
  (fun y=>tB bb { s with par:=(moX s r y.k).par,treas:=(moX s r y.k).tr,purses:=(moX s r y.k).ps,emer:=(moX s r y.k).em,motions:=(moX s r y.k).mo } ⟨y.p,ovs om s.members.length,ve,vx,vo,vd,y.t,vk,vr⟩ { r with done:=(moX s r y.k).dn } ⟨qo,ql,qs,ovs y.od (moX s r y.k).dn.length⟩ w::oent 3 1 y.od ((moX s r y.k).dn.map (.int .i64)) (tMo om s.members L)) (fun y=>y.h) (fun y=>N-y.k) ?_ ?_ ?_ ?_
 ·exact ⟨Nat.zero_le _,PH.le_refl _,hp.up (le1.trans le2),i1.up le2,e1,fun x hx=>(m1 x hx).up le2,okd,hbb2⟩
 ·simp [Ent,List.lookup,xEnv]
 ·exact Drop.perm _ (List.Perm.cons _ (oent_swap om od _ _ _))
 rintro ⟨k,h3,pv,tv,q3,od3⟩ ⟨k1,le3,i3,j3,e3,m3,okd3,hbb3⟩
 simp only at k1 le3 i3 j3 e3 m3 okd3 hbb3 ⊢
 have hx:=hX k k1
 obtain ⟨X,hXX⟩:∃ X,X=moX s r k:=⟨_,rfl⟩
 by_cases c1:k<N
 ·have hz:=hWin (at0 W k) (by rw [← at0_lt (by omega)]; exact List.getElem_mem _)
  have hst:=hx.s k (Nat.le_refl _) (by omega)
  obtain ⟨i,hi⟩:=Int.eq_ofNat_of_zero_le hz.1
  rw [hi] at hz hst
  rw [Int.toNat_natCast] at hst
  have hws3:∀ j,j<N→elemCell h3 wa j=some (.int .i64 (at0 W j)):=fun j hj=>elemCell_up (le3) (hws j hj)
  have eK:moX s r (k+1)=moStep i (moX s r k):=by
   show moK (moW s r) _ (k+1)=_
   rw [moK,← hW,hi,Int.toNat_natCast,hW]; rfl
  rw [← hXX] at i3 e3 okd3 hx hst eK ⊢
  have hxn:X.mo.length=(moL s).length:=hx.n
  have hxl:X.ps.length=s.purses.length:=hx.l2
  have hq3:q3.length=X.mo.length:=by rw [← e3,List.length_map]
  have hi3:i<q3.length:=by omega
  obtain ⟨qk,hqk⟩:∃ qk,qk=gr zeroQM q3 i:=⟨_,rfl⟩
  have egr:qk.2.2=gr zeroMot X.mo i:=by rw [hqk]; exact grQ_map e3 (by omega)
  obtain ⟨m,hm⟩:∃ m,m=qk.2.2:=⟨_,rfl⟩
  have hmo:MotR s.purses.length m:=by rw [hm,egr]; exact hx.m _ (gr_mem (by omega))
  have hma:=hmo.ok.a
  have hmt:=hmo.t
  have hxt:tot X.ps+X.tr=tot s.purses+s.treas:=hx.t
  have hpx:=at0_le_tot hx.p m.to.toNat
  have hp0:=hx.p m.to.toNat
  have htx:=tot_nonneg hx.p
  have htr:=hx.tr
  have j30:=j3
  obtain ⟨ma,mc,rfl,_,_,_,hms⟩:=j3.open
  simp -dsimp -implicitDefEqProofs (disch:=first|with_reducible assumption|omega) [go_sem,idx hws3]
  rw [hi]
  simp -dsimp -implicitDefEqProofs (disch:=first|with_reducible assumption|omega) [go_sem,↓idxR zeroQM (by decide) hms,motC]
  rw [← hqk,← hm]
  have hpt:at0 X.ps m.to.toNat+X.tr≤4611686018427387904:=by omega
  refine Spec.ap (tenact_any (s:={ s with par:=X.par,treas:=X.tr,purses:=X.ps,emer:=X.em,motions:=X.mo }) (m:=m) _ _ X.mo X.dn i3 (by show X.ps.length≤1000; omega) (by show 0≤m.to∧m.to<(X.ps.length:Int); omega) hma ⟨htr,by show X.tr≤_; omega⟩ hpt fun h4 pv4 le4 i4 ap=>?_)
  have hbb4:h4 bb=noC:=ap.1
  clear ap
  obtain ⟨Y,hY⟩:∃ Y,Y=enactX m X:=⟨_,rfl⟩
  have eY:enactX m ⟨X.par,X.tr,X.ps,X.em,X.mo,X.dn⟩=Y:=by rw [hY]
  obtain ⟨B,hB⟩:∃ B,B=moB m X.tr:=⟨_,rfl⟩
  simp only at eY i4 ⊢
  rw [eY] at i4 ⊢
  rw [← hB]
  refine xx ?_
  have hfi:finP X.mo i B=(X.mo.set i (finM m B),0):=by
   rw [finP,if_pos (by omega),Int.toNat_natCast,if_pos hst,hm,egr]
  have eK2:moX s r (k+1)={ Y with mo:=X.mo.set i (finM m B),dn:=if B then X.dn++[(i:Int)] else X.dn }:=by
   rw [eK,moStep,← egr,← hm,← hB,← hY]
  refine Spec.ap (mfinish_any _ (j30.up le4) e3 (fun x hx=>(m3 x hx).up le4) (by omega) (fun m hm=>mot_len (hx.m m hm)) i (by omega) B fun h5 tv5 q5 le5 j5 e5 m5 ap=>?_)
  have hbb5:h5 bb=noC:=ap.1
  clear ap
  rw [hfi] at e5 ⊢
  simp only at e5 ⊢
  obtain ⟨ma5,mc5,rfl,_⟩:=j5.open
  have hdx:X.dn.length≤r.done.length+k:=hx.d
  cases B with
  | false =>
   simp only [Bool.false_eq_true,if_false] at eK2
   refine xx ?_
   refine ⟨⟨k+1,h5,pv4,.slice ma5 q5.length mc5,q5,od3⟩,⟨by simp only; omega,le3.trans (le4.trans le5),by rw [eK2]; exact i4.up le5,j5,by rw [eK2]; exact e5,m5,by rw [eK2]; exact okd3,hbb5⟩,by simp only; omega,by simp [Ent,List.lookup],?_⟩
   simp only
   rw [eK2]
   exact Drop.refl _ _
  | true =>
   simp only [if_true] at eK2
   refine xx ?_
   refine xnew fun b99 n_b99 h_b99=>?_
   try simp only [Apart] at n_b99
   have n99:bb≠b99:=n_b99.1
   clear n_b99
   refine xx ?_
   refine xappend (t:=32) (e:=3) (sz:=1) (bytes:=8) (z:=[.int .i64 0]) (by kernel_rfl) tI_3 rfl rfl rfl rfl (by decide) [_,_] _ od3 X.dn.length (X.dn.map (.int .i64)) okd3 (by simp) (Src.own (b:=b99) (t:=3) (cap:=1) List.mem_cons_self) (m:=1) (news:=[.int .i64 i]) rfl (fun u hu=>by simp at hu; subst hu; rfl) (by simp [maxLen]; omega) (by omega) ?_
   intro od4 j1 j2 j3
   simp only [List.cons_append,List.nil_append]
   refine xx ?_
   refine ⟨⟨k+1,h5,pv4,.slice ma5 q5.length mc5,q5,od4⟩,⟨by simp only; omega,le3.trans (le4.trans le5),by rw [eK2]; exact i4.up le5,j5,by rw [eK2]; exact e5,m5,by rw [eK2]; simpa using j1,hbb5⟩,by simp only; omega,by simp [Ent,List.lookup],?_⟩
   simp only
   rw [eK2]
   simp only [List.map_append,List.map_cons,List.map_nil,List.length_append,List.length_singleton]
   exact Drop.tail _ _ _
 obtain rfl:N=k:=by omega
 have hxN:(moX s r N).mo.length=(moL s).length:=hx.n
 have hk:=hk h3 pv tv od3 (le1.trans (le2.trans le3)) i3 ⟨q3,j3,e3,m3⟩ okd3
 have e1':moSk s r N={ s with par:=(moX s r N).par,treas:=(moX s r N).tr,purses:=(moX s r N).ps,emer:=(moX s r N).em,motions:=(moX s r N).mo }:=rfl
 have e2':moRk s r N={ r with done:=(moX s r N).dn }:=rfl
 rw [e1',e2'] at hk
 rw [← hXX] at hk ⊢
 simp only at hk
 refine xx ?_
 exact ⟨_,_,Drop.perm _ (List.Perm.cons _ (oent_swap od3 om _ _ _)),hk⟩
end Go.X

/- Lemmas and contracts for a statement about the given program. Conditions: as each says. -/
import Derived.Test.YtmmfajokfdaokaaGreatQ35
set_option linter.unusedVariables false
set_option linter.unusedSimpArgs false
set_option maxHeartbeats 12800000
set_option maxRecDepth 20000
namespace Go.X
open Go.RowKit Go.Proofs Go.Bl
variable {L:Own} {h:PH} {K:PK}
structure AjG where
 k:Nat
 h:PH
 p:Value
theorem tadjust_any {bb D : Nat} {om oo ox : Option (Nat × Nat)} {s : StD} {v : SV} {r : RepD} {q : RV} {w : Int} (ti : TkI s D) (hD : D ≤ 30000) (hp : Ints h .u64 v.p s.purses) (hd : Recs dueC 3 h v.d s.dues) (hm : v.m = ovs om s.members.length) (okm : okO om s.members.length) (hw : 0 ≤ w ∧ w ≤ 1000)
    (hx:v.x=ovs ox s.exit.length) (okx:okO ox s.exit.length) (ho:q.o=ovs oo r.out.length) (oko:okO oo r.out.length) (hol:r.out.length≤700)
    (hk:∀ h' pv d' oo',PH.le h h'→Ints h' .u64 pv (ajS s).purses→Recs dueC 3 h' d' (ejS (ajS s) (min (s.ep+w) 2147483647) (ajS s).members.length).dues→okO oo' (ejR (ajS s) r (ajS s).members.length).out.length→K (.tuple #[]) (tB bb (ejS (ajS s) (min (s.ep+w) 2147483647) (ajS s).members.length) { v with p:=pv,d:=d',x:=ovs ox (ejS (ajS s) (min (s.ep+w) 2147483647) (ajS s).members.length).exit.length } (ejR (ajS s) r (ajS s).members.length) { q with o:=ovs oo' (ejR (ajS s) r (ajS s).members.length).out.length } w::tMo om (ejS (ajS s) (min (s.ep+w) 2147483647) (ajS s).members.length).members (oent 3 1 oo' ((ejR (ajS s) r (ajS s).members.length).out.map (.int .i64)) (oent 3 1 ox ((ejS (ajS s) (min (s.ep+w) 2147483647) (ajS s).members.length).exit.map (.int .i64)) L))) h') :
    Spec Tryz.prog 78 [.pointer (some ⟨bb,0,none⟩)] (tB bb s v r q w::tMo om s.members (oent 3 1 oo (r.out.map (.int .i64)) (oent 3 1 ox (s.exit.map (.int .i64)) L))) h K:=by
  obtain ⟨vp,vm,ve,vx,vo,vd,vt,vk,vr⟩:=v
  simp only at hm hp hd hx hk ⊢
  subst hm
  have hep:=ti.ep
  have hml:=ti.ml
  have hpl:=ti.pl
  have hcap:=ti.ok.p.w s.par.cap (by simp [wides])
  obtain ⟨b1,b2,b3,b4,b5,b6⟩:=ti.parts
  have hsum:=ti.sum
  obtain ⟨N,hN⟩:∃ N,N=s.members.length:=⟨_,rfl⟩
  have hbe:BeOk s.members s.purses:=ti.be.ok (by omega)
  refine x_enterA Tryz.func78 rfl (rs:=[]) rfl rfl mixed (by kernel_rfl) rfl rfl fun ap nd=>?_
  have hbb:h bb=noC:=ap.1
  have hbm:apO om [] h:=ap_here ap.2
  have nmb:apB om bb:=apart_here nd.1
  clear ap nd
  obtain ⟨ea,ec,em,_⟩:=ovs_open okm
  rw [← hN] at em okm hk ⊢
  rw [em]
  refine xx ?_
  rw [← em]
  refine xloop (γ:=AjG) ⟨0,h,vp⟩ (fun y=>y.k≤N∧PH.le h y.h∧Ints y.h .u64 y.p (clN s.par (s.members,s.purses) y.k).2∧y.h bb=noC∧apO om [] y.h)
    (fun y=>[(12,.int .i64 y.k),(11,.int .i64 N),(0,.pointer (some ⟨bb,0,none⟩))])
    (fun y=>tB bb { s with members:=(clN s.par (s.members,s.purses) y.k).1,purses:=(clN s.par (s.members,s.purses) y.k).2 } ⟨y.p,ovs om N,ve,vx,vo,vd,vt,vk,vr⟩ r q w::tMo om (clN s.par (s.members,s.purses) y.k).1 (oent 3 1 oo (r.out.map (.int .i64)) (oent 3 1 ox (s.exit.map (.int .i64)) L))) (fun y=>y.h) (fun y=>N-y.k) ?_ ?_ ?_ ?_
  · exact ⟨Nat.zero_le _,PH.le_refl _,hp,hbb,hbm⟩
  · simp [Ent,List.lookup,xEnv]
  · exact Drop.refl _ _
  rintro ⟨k,h1,pv⟩ ⟨k1,le1,i1,hbb1,hbm1⟩
  simp only at k1 le1 i1 hbb1 hbm1 ⊢
  have hx1:=clN_ok (q:=s.par) ti.ok.p (x:=(s.members,s.purses)) hbe k (by show k≤s.members.length; omega)
  obtain ⟨hl1,hl2⟩:=clN_len s.par (s.members,s.purses) k
  simp only at hl1 hl2
  by_cases c1:k<N
  · have eK:clN s.par (s.members,s.purses) (k+1)=clStep s.par (clN s.par (s.members,s.purses) k) k:=rfl
    obtain ⟨X,hX⟩:∃ X,X=clN s.par (s.members,s.purses) k:=⟨_,rfl⟩
    rw [← hX] at i1 hx1 hl1 hl2 eK ⊢
    obtain ⟨MS,PS⟩:=X
    simp only at i1 hx1 hl1 hl2 ⊢
    obtain ⟨bm,cm,rfl⟩:∃ bm cm,om=some (bm,cm):=by
      cases om with
      | none=>have:N=0:=okm; omega
      | some p=>exact ⟨_,_,rfl⟩
    have hbm1':h1 bm=noC:=hbm1.2
    have nmb':bm≠bb:=nmb
    have hkl:k<MS.length:=by omega
    obtain ⟨m,hmk⟩:∃ m,m=gr zeroM MS k:=⟨_,rfl⟩
    have hmo:MemOk m:=by rw [hmk]; exact hx1.m _ (gr_mem hkl)
    have how:0≤m.owner∧m.owner<(PS.length:Int):=by rw [hmk]; exact hx1.o _ (gr_mem hkl)
    have ub:=hmo.u m.bal (by simp)
    have hroom:=cl_room ti.ok.p (x:=(MS,PS)) hx1 hkl
    simp only at hroom
    rw [← hmk] at hroom
    have eK2:clN s.par (s.members,s.purses) (k+1)=(MS.set k (clampM s.par m),PS.set m.owner.toNat (at0 PS m.owner.toNat+(m.bal-min m.bal s.par.cap))):=by rw [eK,clStep,← hmk]
    have hg:=memT hkl
    rw [← hmk] at hg
    obtain ⟨g0,g1,g2,g3,g4,g5⟩:=hg
    have hi6:=flat_lt (w:=6) hkl (show 5<6 by decide)
    have hsm:=memS (ms:=MS) rfl
    simp only [tMo,oent_some,ovs_some]
    refine xx ?_
    refine xany_cut (.tk 0 (.tk 1 (.tk 2 (.tk 3 (.tk 5 (.tk 6 (.tk 7 (.tk 8 (.tkl 4 (.tkl 9 (.or true 10 (.tk 11 (.tk 12 (.tk 13 (.tk 14 (.tk 15 (.fin)))))) (.nil)))))))))))) (by kernel_rfl) (by kernel_rfl) [(0,.pointer (some ⟨bb,0,none⟩)),(3,.pointer (some ⟨bm,k*6,none⟩)),(12,.int .i64 k),(11,.int .i64 N)] [_,_] (γ:=Unit) (fun _=>True)
      (fun _=>[(0,.pointer (some ⟨bb,0,none⟩)),(3,.pointer (some ⟨bm,k*6,none⟩)),(12,.int .i64 k),(11,.int .i64 N),(4,.int .u64 (min m.bal s.par.cap)),(5,.int .u64 (m.bal-min m.bal s.par.cap))])
      (fun _=>tB bb { s with members:=MS,purses:=PS } ⟨pv,.slice (some ⟨bm,0,none⟩) N cm,ve,vx,vo,vd,vt,vk,vr⟩ r q w::tM bm cm MS::oent 3 1 oo (r.out.map (.int .i64)) (oent 3 1 ox (s.exit.map (.int .i64)) L)) (fun _=>h1) (by simp [Ent,List.lookup]) drop2Z ?_ ?_
    · repeat' first
        | with_reducible refine xpl_or ?_ ?_
        | simp -dsimp -implicitDefEqProofs (disch:=first|with_reducible assumption|omega) [go_sem,g0,g1,g2,g3,g4,g5]
        | (with_reducible show xCall Tryz.prog 163 _ _ _ _
           refine gclamp_any s.par ti.ok.p ti.r m.bal ub ?_)
        | with_reducible refine xkp (Drop.refl _ _) ?_
        | with_reducible refine xkp drop2Z ?_
        | fail
      all_goals exact ⟨by simp [Ent,List.lookup],Drop.refl _ _⟩
    rintro _ _
    try simp only
    refine xx ?_
    refine ⟨by omega,?_⟩
    obtain ⟨m1,hm1⟩:∃ m1:MemD,m1={ m with bal:=min m.bal s.par.cap }:=⟨_,rfl⟩
    have hset1:(MS.flatMap memC).set (k*6) (.int .u64 (min m.bal s.par.cap))=(MS.set k m1).flatMap memC:=flatG_set (m:=0) memC_len zeroM MS hkl (by decide) (by rw [← hmk,hm1]; rfl)
    rw [hset1]
    have hkl2:k<(MS.set k m1).length:=by rw [List.length_set]; exact hkl
    have hg1:gr zeroM (MS.set k m1) k=m1:=by rw [gr_lt hkl2,List.getElem_set_self]
    have hg:=memT hkl2
    rw [hg1] at hg
    obtain ⟨f0,f1,f2,f3,f4,f5⟩:=hg
    have em1:m1.owner=m.owner:=by rw [hm1]
    rw [em1] at f4
    have hsm2:=memS (ms:=MS.set k m1) (n:=MS.length) (by rw [List.length_set])
    simp -dsimp -implicitDefEqProofs (disch:=first|with_reducible assumption|omega) [go_sem,f0,f1,f2,f3,f4,f5]
    refine Spec.ap (tpay_any (s:={ s with members:=MS.set k m1,purses:=PS }) (v:=⟨pv,.slice (some ⟨bm,0,none⟩) N cm,ve,vx,vo,vd,vt,vk,vr⟩) i1 (by show PS.length≤1000; omega) m.owner how _ (by omega) hroom fun h2 pv2 le2 i2 ap=>?_)
    have hbb2:h2 bb=noC:=ap.1
    have hbm2:h2 bm=noC:=ap.2.1
    clear ap
    simp only at i2 ⊢
    refine xx ?_
    refine xanyl (.tk 0 (.tk 1 (.tk 2 (.tk 3 (.tk 4 (.tk 6 (.tk 7 (.tk 8 (.tkl 5 (.tkl 9 (.or true 10 (.tk 11 (.tk 12 (.or false 13 (.fin) (.nil)))) (.nil)))))))))))) (by kernel_rfl) (by kernel_rfl) _ (Drop.refl _ _) ?_
    simp -dsimp -implicitDefEqProofs (disch:=first|with_reducible assumption|omega) [go_sem,f0,f1,f2,f3,f4,f5]
    refine strim_any s.par ti.ok.p m1 ?_
    rw [ti.r,if_pos rfl]
    have eC:trimM s.par m1=clampM s.par m:=by rw [hm1]; rfl
    rw [eC]
    first
    | refine xkp (Drop.refl _ _) ?_
    | skip
    refine xx ?_
    have hsm3:(((MS.map fun a=>(memC a).length)).set k (memC m1).length).sum=MS.length*6:=by
      rwa [List.map_set] at hsm2
    refine ⟨by omega,?_⟩
    have hst:=stdSet hkl2 (clampM s.par m) (by rw [hg1,hm1]; rfl) (by rw [hg1,hm1]; rfl)
    rw [List.set_set] at hst
    rw [hst]
    refine ⟨⟨k+1,h2,pv2⟩,⟨by simp only; omega,le1.trans le2,by rw [eK2]; exact i2,hbb2,trivial,hbm2⟩,by simp only; omega,by simp [Ent,List.lookup],?_⟩
    simp only
    rw [eK2]
    exact Drop.refl _ _
  obtain rfl:N=k:=by omega
  have eA:ajS s={ s with members:=(clN s.par (s.members,s.purses) N).1,purses:=(clN s.par (s.members,s.purses) N).2 }:=by rw [hN]; rfl
  have ti2:=ajk_ti ti (Nat.le_refl s.members.length)
  have eA2:ajSk s s.members.length=ajS s:=rfl
  rw [eA2] at ti2
  have eL1:(ajS s).members.length=N:=by rw [eA]; show (clN s.par (s.members,s.purses) N).1.length=N; omega
  have eX:(ajS s).exit=s.exit:=rfl
  obtain ⟨A,hA⟩:∃ A,A=ajS s:=⟨_,rfl⟩
  rw [← hA] at eA ti2 eL1 eX hk
  have eP:(clN s.par (s.members,s.purses) N).2=A.purses:=by rw [eA]
  have eM:(clN s.par (s.members,s.purses) N).1=A.members:=by rw [eA]
  rw [← eA,eM,← eX]
  rw [eP] at i1
  have eE:A.ep=s.ep:=by rw [eA]
  refine xx ?_
  refine teject_any (s:=A) (v:=⟨pv,ovs om N,ve,vx,vo,vd,vt,vk,vr⟩) (om:=om) (oo:=oo) (ox:=ox) ti2 hD (by rw [eA]; exact hd.up le1) (by rw [eL1]) (by rw [eL1]; exact okm) hw (by rw [eX]; exact hx) (by rw [eX]; exact okx) ho oko hol fun h2 d2 o2 le2 i2 ok2=>?_
  rw [eE] at i2 ⊢
  have hk:=hk h2 pv d2 o2 (le1.trans le2) (i1.up le2) i2 ok2
  refine xx ?_
  exact fin_here hk
def noMEX (s:StD):StD:={ s with members:=[],entry:=[],exit:=[] }
abbrev setMEX (u:SV) (m e x:Value):SV:=⟨u.p,m,e,x,u.o,u.d,u.t,u.k,u.r⟩
theorem oent_drop4 {e sz e2 sz2 e3 sz3:Nat} {o o2 o3:Option (Nat×Nat)} {xs ys zs:List Value} {x y:Blk} {L:Own} {h:PH}:Drop (oent e sz o xs (oent e2 sz2 o2 ys (oent e3 sz3 o3 zs (x::y::L)))) h (oent e sz o xs (oent e2 sz2 o2 ys (oent e3 sz3 o3 zs L))) h:=by
 have p1:(x::y::oent e sz o xs (oent e2 sz2 o2 ys (oent e3 sz3 o3 zs L))).Perm (oent e sz o xs (x::y::oent e2 sz2 o2 ys (oent e3 sz3 o3 zs L))):=oent_perm_app [x,y]
 have p2:=oent_congr (e:=e) (sz:=sz) o xs (oent_perm_app (e:=e2) (sz:=sz2) (o:=o2) (xs:=ys) [x,y] (L:=oent e3 sz3 o3 zs L))
 have p3:=oent_congr (e:=e) (sz:=sz) o xs (oent_congr (e:=e2) (sz:=sz2) o2 ys (oent_perm_app (e:=e3) (sz:=sz3) (o:=o3) (xs:=zs) [x,y] (L:=L)))
 exact (Drop.perm h ((p1.trans p2).trans p3).symm).trans ((Drop.tail _ _ _).trans (Drop.tail _ _ _))
theorem own24e_any {s : StD} (v : SV) (hs : IsSt h v s) (few : OwnFew s)
    (hk:∀ (h':PH) (u:SV) (o oe ox:Option (Nat×Nat)),PH.le h h'→okO o s.members.length→okO oe s.entry.length→okO ox s.exit.length→IsSt h' (setMEX u (.slice none 0 0) (.slice none 0 0) (.slice none 0 0)) (noMEX s)→K (stV s (setMEX u (ovs o s.members.length) (ovs oe s.entry.length) (ovs ox s.exit.length))) (oent 3 1 ox (s.exit.map (.int .i64)) (oent 3 1 oe (s.entry.map (.int .i64)) (oent 73 6 o (s.members.flatMap memC) L))) h'):Spec Tryz.prog 18 [stV s v] L h K:=by
  obtain ⟨pa,pc,ma,mc,ea,ec,xa,xc,oa,oc,da,dc,ta,tc,ka,kc,ra,rc,rfl⟩:=hs.slices
  have fm:=few.m
  have fp:=few.p
  have fe:=few.e
  have fx:=few.x
  have fo:=few.o
  have fd:=few.d
  have ft:=few.t
  have fk:=few.k
  have fr:=few.r
  obtain ⟨ql,q1,q2,q3⟩:=hs.t
  obtain ⟨rl,r1,r2⟩:=hs.r
  have q1':Recs motC 33 h (.slice ta s.motions.length tc) ql:=q1
  have r1':Strs h (.slice ra s.ring.length rc) rl:=r1
  have hql:ql.length=s.motions.length:=by rw [← q2,List.length_map]
  have hrl:rl.length=s.ring.length:=by rw [← r2]; simp [xsL]
  refine x_enter Tryz.func18 rfl (rs:=[_]) rfl rfl mixed (by kernel_rfl) rfl rfl ?_
  refine xx ?_
  refine xnew fun b1 n_b1 h_b1=>?_
  try simp only [Apart] at n_b1
  refine xx ?_
  refine xnew fun b2 n_b2 h_b2=>?_
  try simp only [Apart] at n_b2
  refine xx ?_
  refine Spec.ap (clone64_any _ hs.p (by omega) fun h1 v1 le1 i1 ap=>?_)
  simp only [Ap] at ap
  obtain ⟨a12,a11,_⟩:=ap
  obtain ⟨pa1,pc1,rfl,_⟩:=i1.open
  refine xx ?_
  refine cloneM_own _ (hs.m.up le1) (by omega) fun om ok1 am1=>?_
  have m2:apB om b2:=am1.head
  have m1:apB om b1:=(apO_tail am1).head
  simp -dsimp -implicitDefEqProofs (disch:=first|with_reducible assumption|omega) [go_sem,xSet_oent m1,xFind_oent m1]
  refine xanyl (.tk 0 (.tk 3 (.tkl 1 (.tkl 4 (.or true 2 (.tk 6 (.or true 5 (.or false 7 (.tk 8 (.or false 9 (.fin) (.nil))) (.nil)) (.nil))) (.nil)))))) (by kernel_rfl) (by kernel_rfl) _ (Drop.refl _ _) ?_
  simp -dsimp -implicitDefEqProofs (disch:=first|with_reducible assumption|omega) [go_sem,xSet_oent m1,xFind_oent m1]
  refine clonei_own _ (hs.e.up le1) (by omega) fun oe oke ame=>?_
  have ame0:=apO_oent ame
  have e2:apB oe b2:=ame0.head
  have e1:apB oe b1:=(apO_tail ame0).head
  obtain ⟨ea1,ec1,exe,_⟩:=ovs_open oke
  rw [exe]
  first
  | refine xkp (Drop.oent _ _ _ _ _ _) ?_
  | skip
  simp -dsimp -implicitDefEqProofs (disch:=first|with_reducible assumption|omega) [go_sem,xSet_oent e1,xFind_oent e1,xSet_oent m1,xFind_oent m1]
  refine clonei_own _ (hs.x.up le1) (by omega) fun ox okx amx=>?_
  have amx0:=apO_oent (apO_oent amx)
  have x2:apB ox b2:=amx0.head
  have x1:apB ox b1:=(apO_tail amx0).head
  obtain ⟨xa1,xc1,exx,_⟩:=ovs_open okx
  rw [exx]
  first
  | refine xkp ((Drop.oent _ _ _ _ _ _).trans (Drop.oent _ _ _ _ _ _)) ?_
  | refine xkp (Drop.oent _ _ _ _ _ _) ?_
  | skip
  simp -dsimp -implicitDefEqProofs (disch:=first|with_reducible assumption|omega) [go_sem,xSet_oent x1,xFind_oent x1,xSet_oent e1,xFind_oent e1,xSet_oent m1,xFind_oent m1]
  refine xanyl (.tk 0 (.tk 3 (.tkl 1 (.tkl 4 (.or true 2 (.tk 6 (.or true 5 (.or false 7 (.tk 8 (.or false 9 (.fin) (.nil))) (.nil)) (.nil))) (.nil)))))) (by kernel_rfl) (by kernel_rfl) _ (Drop.refl _ _) ?_
  simp -dsimp -implicitDefEqProofs (disch:=first|with_reducible assumption|omega) [go_sem,xSet_oent x1,xFind_oent x1,xSet_oent e1,xFind_oent e1,xSet_oent m1,xFind_oent m1]
  have le13:=le1
  refine Spec.ap (cloneP_any _ (hs.o.up le13) (by omega) fun h4 v4 le4 i4 ap=>?_)
  obtain ⟨a42,a41,_⟩:=Ap.oent (Ap.oent (Ap.oent ap))
  obtain ⟨oa1,oc1,rfl,_⟩:=i4.open
  refine xkp (Drop.forget le4) ?_
  simp -dsimp -implicitDefEqProofs (disch:=first|with_reducible assumption|omega) [go_sem,xSet_oent x1,xFind_oent x1,xSet_oent e1,xFind_oent e1,xSet_oent m1,xFind_oent m1]
  have le14:=le13.trans le4
  refine Spec.ap (cloneD_any _ (hs.d.up le14) (by omega) fun h5 v5 le5 i5 ap=>?_)
  obtain ⟨a52,a51,_⟩:=Ap.oent (Ap.oent (Ap.oent ap))
  obtain ⟨da1,dc1,rfl,_⟩:=i5.open
  first
  | refine xkp (Drop.forget (le4.trans le5)) ?_
  | skip
  simp -dsimp -implicitDefEqProofs (disch:=first|with_reducible assumption|omega) [go_sem,xSet_oent x1,xFind_oent x1,xSet_oent e1,xFind_oent e1,xSet_oent m1,xFind_oent m1]
  have le15:=le14.trans le5
  refine cloneT_own _ (q1'.up le15) (fun x hx=>(q3 x hx).up le15) (by omega) fun ot ok2 at0'=>?_
  rw [hql] at ok2 ⊢
  have at1:=apO_oent (apO_oent (apO_oent at0'))
  have t2:apB ot b2:=at1.head
  have t1:apB ot b1:=(apO_tail at1).head
  replace at1:=apO_tail (apO_tail at1)
  simp -dsimp -implicitDefEqProofs (disch:=first|with_reducible assumption|omega) [go_sem,xSet_oent t1,xFind_oent t1,xSet_oent x1,xFind_oent x1,xSet_oent e1,xFind_oent e1,xSet_oent m1,xFind_oent m1]
  obtain ⟨mta,mtc,emt,_⟩:=ovs_open ok2
  rw [emt]
  refine xx ?_
  obtain ⟨vv,hvv⟩:∃ vv:SV,vv=⟨.slice pa1 s.purses.length pc1,ovs om s.members.length,.slice ea1 s.entry.length ec1,.slice xa1 s.exit.length xc1,.slice oa1 s.pool.length oc1,.slice da1 s.dues.length dc1,.slice mta s.motions.length mtc,.slice ka s.marks.length kc,.slice ra s.ring.length rc⟩:=⟨_,rfl⟩
  refine xloop (γ:=Nat×List QM×PH) (0,ql,h5)
    (fun q=>q.1≤s.motions.length∧q.2.1.map (fun x=>x.2.2)=s.motions∧MotsOk q.2.2 q.2.1∧PH.le h5 q.2.2∧q.2.2 b2=noC∧q.2.2 b1=noC∧apO ot L q.2.2)
    (fun q=>[(36,.int .i64 q.1),(35,.int .i64 s.motions.length),(1,.pointer (some ⟨b1,0,none⟩)),(2,.pointer (some ⟨b2,0,none⟩))])
    (fun q=>oent 75 33 ot (q.2.1.flatMap motC) (oent 3 1 ox (s.exit.map (.int .i64)) (oent 3 1 oe (s.entry.map (.int .i64)) (oent 73 6 om (s.members.flatMap memC) (⟨b2,39,stC zeroS nilV,41⟩::⟨b1,39,stC s vv,41⟩::L))))) (fun q=>q.2.2) (fun q=>s.motions.length-q.1) ?_ ?_ ?_ ?_
  · exact ⟨Nat.zero_le _,q2,fun x hx=>(q3 x hx).up le15,PH.le_refl _,a52,a51,at1⟩
  · simp [Ent,List.lookup,xEnv]
  · subst hvv; exact Drop.refl _ _
  rintro ⟨k,ql',h6⟩ ⟨k1,k2,k3,k4,k5,k6,k8⟩
  simp only at k1 k2 k3 k4 k5 k6 k8 ⊢
  have hql':ql'.length=s.motions.length:=by rw [← k2,List.length_map]
  subst hvv
  by_cases c1:k<s.motions.length
  · obtain ⟨bt,cap,rfl⟩ : ∃ bt cap,ot = some (bt,cap) := by
      cases ot with
      | none=>have:s.motions.length=0:=ok2; omega
      | some p=>exact ⟨_,_,rfl⟩
    simp only [ovs,Value.slice.injEq] at emt
    obtain ⟨rfl,_,rfl⟩:=emt
    have hbt:h6 bt=noC:=k8.2
    have n21:bt≠b2:=t2
    have n11:bt≠b1:=t1
    obtain ⟨qk,hqk⟩:∃ qk,qk=gr zeroQM ql' k:=⟨_,rfl⟩
    have hmem:qk∈ql':=by rw [hqk,gr_lt (by omega)]; exact List.getElem_mem _
    have hmk:IsMot h6 qk:=k3 qk hmem
    have hmdm:qk.2.2∈s.motions:=by rw [← k2]; exact List.mem_map.2 ⟨qk,hmem,rfl⟩
    obtain ⟨vy,vn,md⟩:=qk
    have hy:=hmk.y
    have hn:=hmk.n
    simp only at hy hn
    obtain ⟨ya,yc,rfl,_⟩:=hy.open
    obtain ⟨na,nc,rfl,_⟩:=hn.open
    simp only at hmdm
    have fv:=few.v md hmdm
    have g31:∀ (K:Value→Prop) (t:Tok K),xNth (ql'.flatMap motC) (k*33+31) K t=K (.slice ya md.yes.length yc):=fun K t=>xNth_rec motC_len zeroQM ql' (by omega) (by decide) (by rw [← hqk]; rfl) K t
    have g32:∀ (K:Value→Prop) (t:Tok K),xNth (ql'.flatMap motC) (k*33+32) K t=K (.slice na md.no.length nc):=fun K t=>xNth_rec motC_len zeroQM ql' (by omega) (by decide) (by rw [← hqk]; rfl) K t
    have hfl:(ql'.flatMap motC).length=s.motions.length*33:=by rw [flatG_len motC_len,hql']
    rw [oent_some]
    simp -dsimp -implicitDefEqProofs (disch:=first|with_reducible assumption|omega) [go_sem,xSet_oent x1,xFind_oent x1,xSet_oent e1,xFind_oent e1,xSet_oent m1,xFind_oent m1]
    refine xanyl (.tk 0 (.tk 2 (.tk 3 (.tk 5 (.tk 6 (.tk 8 (.tk 13 (.tk 15 (.tkl 1 (.tkl 7 (.tk 9 (.tk 10 (.tkl 11 (.or true 4 (.or true 12 (.or true 14 (.tk 16 (.tk 17 (.tkl 18 (.or true 19 (.tk 20 (.tk 21 (.or false 22 (.tk 23 (.tk 24 (.or false 25 (.fin) (.nil)))) (.nil)))) (.nil))))) (.nil)) (.or true 14 (.tk 16 (.tk 17 (.tkl 18 (.or true 12 (.or true 19 (.tk 20 (.tk 21 (.or false 22 (.tk 23 (.tk 24 (.or false 25 (.fin) (.nil)))) (.nil)))) (.nil)) (.nil))))) (.nil))) (.or true 12 (.or true 4 (.or true 14 (.tk 16 (.tk 17 (.tkl 18 (.or true 19 (.tk 20 (.tk 21 (.or false 22 (.tk 23 (.tk 24 (.or false 25 (.fin) (.nil)))) (.nil)))) (.nil))))) (.nil)) (.or true 14 (.tk 16 (.tk 17 (.tkl 18 (.or true 4 (.or true 19 (.tk 20 (.tk 21 (.or false 22 (.tk 23 (.tk 24 (.or false 25 (.fin) (.nil)))) (.nil)))) (.nil)) (.or true 19 (.tk 20 (.tk 21 (.or true 4 (.or false 22 (.tk 23 (.tk 24 (.or false 25 (.fin) (.nil)))) (.nil)) (.or false 22 (.or true 4 (.tk 23 (.tk 24 (.or false 25 (.fin) (.nil)))) (.nil)) (.nil))))) (.nil)))))) (.nil))) (.or true 14 (.tk 16 (.tk 17 (.tkl 18 (.or true 4 (.or true 12 (.or true 19 (.tk 20 (.tk 21 (.or false 22 (.tk 23 (.tk 24 (.or false 25 (.fin) (.nil)))) (.nil)))) (.nil)) (.nil)) (.or true 12 (.or true 4 (.or true 19 (.tk 20 (.tk 21 (.or false 22 (.tk 23 (.tk 24 (.or false 25 (.fin) (.nil)))) (.nil)))) (.nil)) (.or true 19 (.tk 20 (.tk 21 (.or true 4 (.or false 22 (.tk 23 (.tk 24 (.or false 25 (.fin) (.nil)))) (.nil)) (.or false 22 (.or true 4 (.tk 23 (.tk 24 (.or false 25 (.fin) (.nil)))) (.nil)) (.nil))))) (.nil))) (.nil)))))) (.nil))))))))))))))))) (by kernel_rfl) (by kernel_rfl) _ (Drop.refl _ _) ?_
    simp -dsimp -implicitDefEqProofs (disch:=first|with_reducible assumption|omega) [go_sem,xSet_oent x1,xFind_oent x1,xSet_oent e1,xFind_oent e1,xSet_oent m1,xFind_oent m1,g31,g32]
    have hset:∀ a ac b bc,((ql'.flatMap motC).set (k*33+31) (.slice a md.yes.length ac)).set (k*33+32) (.slice b md.no.length bc)=(ql'.set k (.slice a md.yes.length ac,.slice b md.no.length bc,md)).flatMap motC:=fun a ac b bc=>by
      rw [flatG_set motC_len zeroQM ql' (i:=k) (m:=31) (a':=(.slice a md.yes.length ac,.slice na md.no.length nc,md)) (by omega) (by decide) (by rw [← hqk]; rfl)]
      rw [flatG_set motC_len zeroQM _ (i:=k) (m:=32) (a':=(.slice a md.yes.length ac,.slice b md.no.length bc,md)) (by rw [List.length_set]; omega) (by decide) (by rw [gr_lt (by rw [List.length_set]; omega),List.getElem_set_self]; rfl),List.set_set]
    have hmd:s.motions[k]?=some md:=by
      rw [← k2,List.getElem?_map,List.getElem?_eq_getElem (by omega),← gr_lt (z:=zeroQM) (by omega),← hqk]
      rfl
    have hmap:∀ (a b:Value),(ql'.set k (a,b,md)).map (fun x=>x.2.2)=s.motions:=fun a b=>by
      rw [List.map_set,k2]
      apply List.ext_getElem?
      intro n
      rw [List.getElem?_set]
      split
      · rename_i e
        subst e
        first
        | exact hmd.symm
        | (split
           · exact hmd.symm
           · rw [List.getElem?_eq_none (by omega)])
      · rfl
    repeat' first
      | refine xpl_or ?_ ?_
      | simp -dsimp -implicitDefEqProofs (disch:=first|with_reducible assumption|omega) [go_sem,xSet_oent x1,xFind_oent x1,xSet_oent e1,xFind_oent e1,xSet_oent m1,xFind_oent m1,g31,g32]
    all_goals
      refine Spec.ap (clone8_any _ hy (by omega) fun h7 v7 le7 i7 ap=>?_)
      obtain ⟨y1,y2⟩:=ap
      obtain ⟨y3,y4,_⟩:=Ap.oent (Ap.oent (Ap.oent y2))
      obtain ⟨wa,wc,rfl,_⟩:=i7.open
      first
      | refine xkp (Drop.forget le7) ?_
      | skip
    repeat' first
      | refine xpl_or ?_ ?_
      | simp -dsimp -implicitDefEqProofs (disch:=first|with_reducible assumption|omega) [go_sem,xSet_oent x1,xFind_oent x1,xSet_oent e1,xFind_oent e1,xSet_oent m1,xFind_oent m1,g31,g32]
      | refine xkp (Drop.forget le7) ?_
    all_goals
      refine Spec.ap (clone8_any _ (hn.up le7) (by omega) fun h8 v8 le8 i8 ap=>?_)
      obtain ⟨z1,z2⟩:=ap
      obtain ⟨z3,z4,_⟩:=Ap.oent (Ap.oent (Ap.oent z2))
      obtain ⟨ua,uc,rfl,_⟩:=i8.open
      first
      | refine xkp (Drop.forget (le7.trans le8)) ?_
      | skip
    repeat' first
      | refine xpl_or ?_ ?_
      | simp -dsimp -implicitDefEqProofs (disch:=first|with_reducible assumption|omega) [go_sem,xSet_oent x1,xFind_oent x1,xSet_oent e1,xFind_oent e1,xSet_oent m1,xFind_oent m1,g31,g32]
      | refine xkp (Drop.forget (le7.trans le8)) ?_
    all_goals
      have hsum:(ql'.map fun a=>(motC a).length).sum=s.motions.length*33:=by rw [← List.length_flatMap,hfl]
      have hk33:=flat_lt (n:=s.motions.length) (w:=33) c1 (m:=32) (by decide)
      refine ⟨by omega,by omega,k+1,ql'.set k (.slice wa md.yes.length wc,.slice ua md.no.length uc,md),h8,⟨by omega,hmap _ _,fun x hx=>?_,k4.trans (le7.trans le8),z3,z4,⟨k8.1,z1⟩⟩,by omega,by simp [Ent,List.lookup],?_⟩
      · rcases List.mem_or_eq_of_mem_set hx with hx | rfl
        · exact (k3 x hx).up (le7.trans le8)
        · exact ⟨i7.up le8,i8,hmk.ok⟩
      · rw [hset]; exact Drop.refl _ _
  have hkl:k=s.motions.length:=by omega
  subst hkl
  simp -dsimp -implicitDefEqProofs (disch:=first|with_reducible assumption|omega) [go_sem,xSet_oent t1,xFind_oent t1,xSet_oent x1,xFind_oent x1,xSet_oent e1,xFind_oent e1,xSet_oent m1,xFind_oent m1]
  refine call_pub (e:=75) (sz:=33) (n:=s.motions.length) ok2 (by rw [flatG_len motC_len,hql']) (by omega) k8 fun h7 le7 sl7=>?_
  have le17:PH.le h h7:=(le15.trans k4).trans le7
  have kq2:=k2
  have kq4:=k4
  refine Spec.ap (clone8_any _ (hs.k.up le17) (by omega) fun h8 v8 le8 i8 ap=>?_)
  obtain ⟨a82,a81,_⟩:=Ap.oent (Ap.oent (Ap.oent ap))
  obtain ⟨ka1,kc1,rfl,_⟩:=i8.open
  have rmot:Recs motC 33 h8 (.slice mta s.motions.length mtc) ql':=by
    have:=Recs.pub (f:=motC) (w:=33) (l:=ql') (o:=ot) motC_len (by rw [hql']; exact sl7)
    rw [hql',emt] at this
    exact this.up le8
  have imot:MotsOk h8 ql':=fun x hx=>(k3 x hx).up (le7.trans le8)
  have le18:=le17.trans le8
  simp -dsimp -implicitDefEqProofs (disch:=first|with_reducible assumption|omega) [go_sem,xSet_oent x1,xFind_oent x1,xSet_oent e1,xFind_oent e1,xSet_oent m1,xFind_oent m1]
  refine cloneR_own _ (r1'.up le18) (by omega) fun orr ok3 ar=>?_
  rw [hrl] at ok3 ⊢
  have ar1:=apO_oent (apO_oent (apO_oent ar))
  have rb2:apB orr b2:=ar1.head
  have rb1:apB orr b1:=(apO_tail ar1).head
  replace ar1:=apO_tail (apO_tail ar1)
  simp -dsimp -implicitDefEqProofs (disch:=first|with_reducible assumption|omega) [go_sem,xSet_oent rb1,xFind_oent rb1,xSet_oent x1,xFind_oent x1,xSet_oent e1,xFind_oent e1,xSet_oent m1,xFind_oent m1]
  obtain ⟨rta,rtc,ert,_⟩:=ovs_open ok3
  rw [ert]
  refine xx ?_
  refine xloop (γ:=Nat×List QS×PH) (0,rl,h8)
    (fun q=>q.1≤s.ring.length∧xsL q.2.1=s.ring∧StrsOk q.2.2 q.2.1∧PH.le h8 q.2.2∧q.2.2 b2=noC∧q.2.2 b1=noC∧apO orr L q.2.2)
    (fun q=>[(75,.int .i64 q.1),(74,.int .i64 s.ring.length),(1,.pointer (some ⟨b1,0,none⟩)),(2,.pointer (some ⟨b2,0,none⟩))])
    (fun q=>oent 36 1 orr (vsL q.2.1) (oent 3 1 ox (s.exit.map (.int .i64)) (oent 3 1 oe (s.entry.map (.int .i64)) (oent 73 6 om (s.members.flatMap memC) (⟨b2,39,stC zeroS nilV,41⟩::⟨b1,39,stC s ⟨.slice pa1 s.purses.length pc1,ovs om s.members.length,.slice ea1 s.entry.length ec1,.slice xa1 s.exit.length xc1,.slice oa1 s.pool.length oc1,.slice da1 s.dues.length dc1,.slice mta s.motions.length mtc,.slice ka1 s.marks.length kc1,.slice rta s.ring.length rtc⟩,41⟩::L))))) (fun q=>q.2.2) (fun q=>s.ring.length-q.1) ?_ ?_ ?_ ?_
  · exact ⟨Nat.zero_le _,r2,fun x hx=>(r1'.d x hx).up le18,PH.le_refl _,a82,a81,ar1⟩
  · simp [Ent,List.lookup,xEnv]
  · exact Drop.refl _ _
  rintro ⟨k,rl',h9⟩ ⟨k1,k2,k3,k4,k5,k6,k8⟩
  simp only at k1 k2 k3 k4 k5 k6 k8 ⊢
  have hrl':rl'.length=s.ring.length:=by rw [← k2]; simp [xsL]
  by_cases c2:k<s.ring.length
  · obtain ⟨bt,cap,rfl⟩ : ∃ bt cap,orr = some (bt,cap) := by
      cases orr with
      | none=>have:s.ring.length=0:=ok3; omega
      | some p=>exact ⟨_,_,rfl⟩
    simp only [ovs,Value.slice.injEq] at ert
    obtain ⟨rfl,_,rfl⟩:=ert
    have hbt:h9 bt=noC:=k8.2
    have n21:bt≠b2:=rb2
    have n11:bt≠b1:=rb1
    obtain ⟨qk,hqk⟩:∃ qk,qk=gs rl' k:=⟨_,rfl⟩
    have hmem:qk∈rl':=by rw [hqk,gs_lt (by omega)]; exact List.getElem_mem _
    have hy:=k3 qk hmem
    have hbm:qk.2∈s.ring:=by rw [← k2]; exact List.mem_map.2 ⟨qk,hmem,rfl⟩
    have fv:=few.b _ hbm
    obtain ⟨vy,by'⟩:=qk
    simp only at hy hbm fv
    obtain ⟨ya,yc,rfl,_⟩:=hy.open
    have g1:∀ (K:Value→Prop) (t:Tok K),xNth (vsL rl') k K t=K (.slice ya by'.length yc):=fun K t=>xNth_of (by rw [vsL,List.getElem?_map,List.getElem?_eq_getElem (by omega),← gs_lt (by omega),← hqk]; rfl)
    have hfl:(vsL rl').length=s.ring.length:=by simp [vsL,hrl']
    rw [oent_some]
    simp -dsimp -implicitDefEqProofs (disch:=first|with_reducible assumption|omega) [go_sem,xSet_oent x1,xFind_oent x1,xSet_oent e1,xFind_oent e1,xSet_oent m1,xFind_oent m1]
    refine xanyl (.tk 0 (.tk 2 (.tk 3 (.tk 5 (.tkl 1 (.tkl 4 (.tk 6 (.tkl 7 (.or true 8 (.tk 9 (.or false 10 (.fin) (.nil))) (.nil)))))))))) (by kernel_rfl) (by kernel_rfl) _ (Drop.refl _ _) ?_
    simp -dsimp -implicitDefEqProofs (disch:=first|with_reducible assumption|omega) [go_sem,xSet_oent x1,xFind_oent x1,xSet_oent e1,xFind_oent e1,xSet_oent m1,xFind_oent m1,g1]
    repeat' first
      | refine xpl_or ?_ ?_
      | simp -dsimp -implicitDefEqProofs (disch:=first|with_reducible assumption|omega) [go_sem,xSet_oent x1,xFind_oent x1,xSet_oent e1,xFind_oent e1,xSet_oent m1,xFind_oent m1,g1]
    all_goals
      refine Spec.ap (clone8_any _ hy (by omega) fun h10 v10 le10 i10 ap=>?_)
      obtain ⟨y1,y2⟩:=ap
      obtain ⟨y3,y4,_⟩:=Ap.oent (Ap.oent (Ap.oent y2))
      obtain ⟨wa,wc,rfl,_⟩:=i10.open
      first
      | refine xkp (Drop.forget le10) ?_
      | skip
    repeat' first
      | refine xpl_or ?_ ?_
      | simp -dsimp -implicitDefEqProofs (disch:=first|with_reducible assumption|omega) [go_sem,xSet_oent x1,xFind_oent x1,xSet_oent e1,xFind_oent e1,xSet_oent m1,xFind_oent m1,g1]
      | refine xkp (Drop.forget le10) ?_
    all_goals
      refine ⟨by rw [hfl]; exact c2,k+1,rl'.set k (.slice wa by'.length wc,by'),h10,⟨by omega,?_,fun x hx=>?_,k4.trans le10,y3,y4,⟨k8.1,y1⟩⟩,by omega,by simp [Ent,List.lookup],?_⟩
      · rw [← k2,xsL,xsL,List.map_set]
        apply List.ext_getElem?
        intro n
        rw [List.getElem?_set]
        split
        · rename_i e
          subst e
          have:(rl'.map (fun x:QS=>x.2))[k]?=some by':=by
            rw [List.getElem?_map,List.getElem?_eq_getElem (by omega),← gs_lt (by omega),← hqk]; rfl
          first
          | exact this.symm
          | (split
             · exact this.symm
             · rename_i hh; exfalso; apply hh; simp; omega)
        · rfl
      · rcases List.mem_or_eq_of_mem_set hx with hx | rfl
        · exact (k3 x hx).up le10
        · exact i10
      · rw [vsL,vsL,List.map_set,oent_some,Nat.mul_one]; exact Drop.refl _ _
  have hkl:k=s.ring.length:=by omega
  subst hkl
  simp -dsimp -implicitDefEqProofs (disch:=first|with_reducible assumption|omega) [go_sem,xSet_oent rb1,xFind_oent rb1,xSet_oent rb2,xFind_oent rb2,xSet_oent x1,xFind_oent x1,xSet_oent e1,xFind_oent e1,xSet_oent m1,xFind_oent m1,xSet_oent x2,xFind_oent x2,xSet_oent e2,xFind_oent e2,xSet_oent m2,xFind_oent m2]
  have le10:=pub_le_o (h:=h9) k8 (vsL rl')
  have sl10:=pub_sl (h:=h9) (sz:=1) (n:=s.ring.length) (o:=orr) (xs:=vsL rl') ok3 (by simp [vsL,hrl']) (by omega)
  have le8':PH.le h8 (pubO h9 orr (vsL rl')):=k4.trans le10
  have hst:Strs (pubO h9 orr (vsL rl')) (.slice rta s.ring.length rtc) rl':=by
    rw [← ert]
    rw [← hrl'] at sl10 ⊢
    exact strs_pub sl10 fun p hp=>(k3 p hp).up le10
  have le5':=kq4.trans (le7.trans (le8.trans le8'))
  have le4':=le5.trans le5'
  have le2':=le4.trans le4'
  have hS:IsSt (pubO h9 orr (vsL rl')) (setMEX ⟨.slice pa1 s.purses.length pc1,.slice none 0 0,.slice none 0 0,.slice none 0 0,.slice oa1 s.pool.length oc1,.slice da1 s.dues.length dc1,.slice mta s.motions.length mtc,.slice ka1 s.marks.length kc1,.slice rta s.ring.length rtc⟩ (.slice none 0 0) (.slice none 0 0) (.slice none 0 0)) (noMEX s) :=
    { ok:=⟨hs.ok.p,hs.ok.u,hs.ok.n⟩,p:=i1.up le2',m:=Recs.nil memC_len _,mo:=(fun x hx=>by cases hx),e:=nil_ints _ .i64,x:=nil_ints _ .i64,o:=i4.up le4',oo:=hs.oo,d:=i5.up le5',dd:=hs.dd,t:=⟨ql',rmot.up le8',kq2,fun x hx=>(imot x hx).up le8'⟩,k:=i8.up le8',r:=⟨rl',hst,k2⟩ }
  exact ⟨_,_,(pub_drop_o orr (vsL rl') _ h9 (by decide)).trans oent_drop4,by rw [← exx,← exe]; exact hk _ ⟨.slice pa1 s.purses.length pc1,.slice none 0 0,.slice none 0 0,.slice none 0 0,.slice oa1 s.pool.length oc1,.slice da1 s.dues.length dc1,.slice mta s.motions.length mtc,.slice ka1 s.marks.length kc1,.slice rta s.ring.length rtc⟩ om oe ox (le18.trans le8') ok1 oke okx hS⟩
theorem clone8_own {xs:List Int} (v:Value) (hx:Ints h .u8 v xs) (hl:xs.length≤100000) (hk:∀ o,okO o xs.length→apO o L h→K (ovs o xs.length) (oent 5 1 o (xs.map (.int .u8)) L) h):Spec Tryz.prog 69 [v] L h K:=by
 have ox:=hx.open
 obtain ⟨a,ca,rfl,hna,hca,h0,hcx⟩:=ox
 refine x_enter Tryz.func69 rfl (rs:=[_]) rfl rfl mixed (by kernel_rfl) rfl rfl ?_
 refine xx ?_
 cases ha:a.isNone with
 | true =>
  have ha':a=none:=by simpa using ha
  subst ha'
  have hl0:xs.length=0:=by have:=h0 rfl; omega
  have hx':xs=[]:=List.eq_nil_of_length_eq_zero hl0
  subst hx'
  refine xx ?_
  exact fin_here (hk none rfl trivial)
 | false =>
  refine xx ?_
  refine xnew fun b1 n_b1 h_b1=>?_
  try simp only [Apart] at n_b1
  refine xx ?_
  refine xappend (t:=36) (e:=5) (sz:=1) (bytes:=1) (z:=[.int .u8 0]) (by kernel_rfl) tI_5 rfl rfl rfl rfl (by decide) [] L (some (b1,0)) 0 [] ⟨Nat.le_refl _,Nat.zero_le _⟩ rfl (Src.known hx.1) (by simp) (ints_one _ _) (by simp [maxLen]; omega) (by omega) ?_
  intro o' j1 j2 j3
  simp only [Nat.zero_add,List.nil_append] at j1 j2 ⊢
  refine xx ?_
  exact fin_here (hk o' j1 j2)
abbrev Fam:=Option (Nat×Nat)×List Value
def fvO (x:Fam):Value:=ovs x.1 x.2.length
def famO (e:Nat):List Fam→Own→Own
 | [],L=>L
 | x::F,L=>oent e 1 x.1 x.2 (famO e F L)
def FamOk (F:List Fam):Prop:=∀ x∈F,okO x.1 x.2.length∧x.2.length≤1000
theorem oent_swapY {e e2 sz sz2:Nat} {o o2:Option (Nat×Nat)} {xs ys:List Value} {L:Own}:(oent e sz o xs (oent e2 sz2 o2 ys L)).Perm (oent e2 sz2 o2 ys (oent e sz o xs L)):=by
 cases o with
 | none=>exact List.Perm.refl _
 | some p =>
  cases o2 with
  | none=>exact List.Perm.refl _
  | some q=>exact List.Perm.swap _ _ _
theorem famO_snoc {e:Nat} {o:Option (Nat×Nat)} {xs:List Value} {L:Own}:∀ F:List Fam,(oent e 1 o xs (famO e F L)).Perm (famO e (F++[(o,xs)]) L)
 | []=>List.Perm.refl _
 | x::F=>oent_swapY.trans (oent_congr x.1 x.2 (famO_snoc F))
theorem fam_move {e e1 e2 s1 s2:Nat} {o o1 o2:Option (Nat×Nat)} {xs x1 x2:List Value} {x y z:Blk} {F:List Fam} {L:Own}:(oent e 1 o xs (x::oent e1 s1 o1 x1 (oent e2 s2 o2 x2 (y::z::famO e F L)))).Perm (x::oent e1 s1 o1 x1 (oent e2 s2 o2 x2 (y::z::famO e (F++[(o,xs)]) L))) :=
 (oent_perm_app (e:=e) (sz:=1) (o:=o) (xs:=xs) [x]).symm.trans (List.Perm.cons x (oent_swapY.trans (oent_congr o1 x1 (oent_swapY.trans (oent_congr o2 x2 ((oent_perm_app (e:=e) (sz:=1) (o:=o) (xs:=xs) [y,z]).symm.trans (List.Perm.cons y (List.Perm.cons z (famO_snoc F)))))))))
theorem sub_oentT {e sz:Nat} {o:Option (Nat×Nat)} {xs:List Value} {L L':Own} (hs:L.Sublist L'):(oent e sz o xs L).Sublist (oent e sz o xs L'):=by
 cases o with
 | none=>exact hs
 | some p=>exact List.Sublist.cons_cons _ hs
theorem fam_sub {e:Nat} {o:Option (Nat×Nat)} {xs:List Value} {L:Own}:∀ F:List Fam,(famO e F L).Sublist (famO e (F++[(o,xs)]) L)
 | []=>by
  cases o with
  | none=>exact List.Sublist.refl _
  | some p=>exact List.Sublist.cons _ (List.Sublist.refl _)
 | x::F=>sub_oentT (fam_sub F)
theorem Drop.subT {L0 L:Own} (h:PH) (hs:L0.Sublist L):Drop L h L0 h:=fun W hg =>
 ⟨⟨hg.sub,fun e he=>hg.own e (hs.subset he),hg.nodup.sublist (hs.map Blk.b),fun e he=>hg.apart e (hs.subset he)⟩,fun e he=>List.mem_map_of_mem (hs.subset he)⟩
theorem fam_drop {e e1 e2 s1 s2:Nat} {o o1 o2:Option (Nat×Nat)} {xs x1 x2:List Value} {x y z:Blk} {F:List Fam} {L:Own} {h:PH}:Drop (x::oent e1 s1 o1 x1 (oent e2 s2 o2 x2 (y::z::famO e (F++[(o,xs)]) L))) h (x::oent e1 s1 o1 x1 (oent e2 s2 o2 x2 (y::z::famO e F L))) h :=
 Drop.subT h (List.Sublist.cons_cons _ (sub_oentT (sub_oentT (List.Sublist.cons_cons _ (List.Sublist.cons_cons _ (fam_sub F))))))
theorem famOk_snoc {F:List Fam} (hf:FamOk F) {x:Fam} (hx:okO x.1 x.2.length∧x.2.length≤1000):FamOk (F++[x]):=fun y hy=>by
 rcases List.mem_append.1 hy with hy | hy
 ·exact hf y hy
 ·rw [List.mem_singleton] at hy; subst hy; exact hx
theorem take_set {α:Type} {l:List α} {k:Nat} {a:α} (hk:k<l.length):(l.set k a).take (k+1)=l.take k++[a]:=by
 rw [List.take_succ_eq_append_getElem (by rw [List.length_set]; exact hk),List.getElem_set_self]
 congr 1
 apply List.ext_getElem?
 intro n
 by_cases c:n<k
 ·rw [List.getElem?_take_of_lt c,List.getElem?_take_of_lt c,List.getElem?_set_ne (by omega)]
 ·rw [List.getElem?_eq_none (by rw [List.length_take]; omega),List.getElem?_eq_none (by rw [List.length_take]; omega)]
structure OwnF (h:PH) (s:StD) (F R:List Fam) (tv rv:Value):Prop where
 fo:FamOk F
 ro:FamOk R
 t:∃ ql:List QM,Recs motC 33 h tv ql∧ql.length=s.motions.length∧F.map fvO=ql.map (fun x=>x.1)
 r:Sl h rv R.length 1 (R.map fvO)
 n:R.length=s.ring.length
theorem own_drop5 {e sz e2 sz2:Nat} {o o2:Option (Nat×Nat)} {xs ys:List Value} {x y:Blk} {L:Own} {h:PH}:Drop (oent e sz o xs (oent e2 sz2 o2 ys (x::y::L))) h (oent e sz o xs (oent e2 sz2 o2 ys L)) h:=oent_drop3
theorem own24f_any {s : StD} (v : SV) (hs : IsSt h v s) (few : OwnFew s)
    (hk:∀ (h':PH) (op om:Option (Nat×Nat)) (F R:List Fam) (ea xa oa da ta ka ra:Option Addr) (ec xc oc dc tc kc rc:Nat),PH.le h h'→okO op s.purses.length→okO om s.members.length→OwnF h' s F R (.slice ta s.motions.length tc) (.slice ra s.ring.length rc) →
      K (stV s ⟨ovs op s.purses.length,ovs om s.members.length,.slice ea s.entry.length ec,.slice xa s.exit.length xc,.slice oa s.pool.length oc,.slice da s.dues.length dc,.slice ta s.motions.length tc,.slice ka s.marks.length kc,.slice ra s.ring.length rc⟩)
        (oent 73 6 om (s.members.flatMap memC) (oent 22 1 op (s.purses.map (.int .u64)) (famO 5 (F++R) L))) h'):Spec Tryz.prog 18 [stV s v] L h K:=by
  obtain ⟨pa,pc,ma,mc,ea,ec,xa,xc,oa,oc,da,dc,ta,tc,ka,kc,ra,rc,rfl⟩:=hs.slices
  have fm:=few.m
  have fp:=few.p
  have fe:=few.e
  have fx:=few.x
  have fo:=few.o
  have fd:=few.d
  have ft:=few.t
  have fk:=few.k
  have fr:=few.r
  obtain ⟨ql,q1,q2,q3⟩:=hs.t
  obtain ⟨rl,r1,r2⟩:=hs.r
  have q1':Recs motC 33 h (.slice ta s.motions.length tc) ql:=q1
  have r1':Strs h (.slice ra s.ring.length rc) rl:=r1
  have hql:ql.length=s.motions.length:=by rw [← q2,List.length_map]
  have hrl:rl.length=s.ring.length:=by rw [← r2]; simp [xsL]
  refine x_enter Tryz.func18 rfl (rs:=[_]) rfl rfl mixed (by kernel_rfl) rfl rfl ?_
  refine xx ?_
  refine xnew fun b1 n_b1 h_b1=>?_
  try simp only [Apart] at n_b1
  refine xx ?_
  refine xnew fun b2 n_b2 h_b2=>?_
  try simp only [Apart] at n_b2
  refine xx ?_
  refine clone64_own _ hs.p (by omega) fun op okp amp=>?_
  have p2:apB op b2:=amp.head
  have p1:apB op b1:=(apO_tail amp).head
  obtain ⟨pa1,pc1,epx,_⟩:=ovs_open okp
  rw [epx]
  simp -dsimp -implicitDefEqProofs (disch:=first|with_reducible assumption|omega) [go_sem,xSet_oent p1,xFind_oent p1]
  refine cloneM_own _ hs.m (by omega) fun om ok1 am1=>?_
  have am0:=apO_oent am1
  have m2:apB om b2:=am0.head
  have m1:apB om b1:=(apO_tail am0).head
  simp -dsimp -implicitDefEqProofs (disch:=first|with_reducible assumption|omega) [go_sem,xSet_oent m1,xFind_oent m1,xSet_oent p1,xFind_oent p1]
  refine xanyl (.tk 0 (.tk 3 (.tkl 1 (.tkl 4 (.or true 2 (.tk 6 (.or true 5 (.or false 7 (.tk 8 (.or false 9 (.fin) (.nil))) (.nil)) (.nil))) (.nil)))))) (by kernel_rfl) (by kernel_rfl) _ (Drop.refl _ _) ?_
  simp -dsimp -implicitDefEqProofs (disch:=first|with_reducible assumption|omega) [go_sem,xSet_oent m1,xFind_oent m1,xSet_oent p1,xFind_oent p1]
  refine Spec.ap (clonei_any _ hs.e (by omega) fun h1 v1 le1 i1 ap=>?_)
  obtain ⟨a12,a11,_⟩:=Ap.oent (Ap.oent ap)
  obtain ⟨ea1,ec1,rfl,_⟩:=i1.open
  first
  | refine xkp (Drop.forget le1) ?_
  | skip
  simp -dsimp -implicitDefEqProofs (disch:=first|with_reducible assumption|omega) [go_sem,xSet_oent m1,xFind_oent m1,xSet_oent p1,xFind_oent p1]
  refine Spec.ap (clonei_any _ (hs.x.up le1) (by omega) fun h2 v2 le2 i2 ap=>?_)
  obtain ⟨a22,a21,_⟩:=Ap.oent (Ap.oent ap)
  obtain ⟨xa1,xc1,rfl,_⟩:=i2.open
  first
  | refine xkp (Drop.forget (le1.trans le2)) ?_
  | refine xkp (Drop.forget le2) ?_
  | skip
  simp -dsimp -implicitDefEqProofs (disch:=first|with_reducible assumption|omega) [go_sem,xSet_oent m1,xFind_oent m1,xSet_oent p1,xFind_oent p1]
  refine xanyl (.tk 0 (.tk 3 (.tkl 1 (.tkl 4 (.or true 2 (.tk 6 (.or true 5 (.or false 7 (.tk 8 (.or false 9 (.fin) (.nil))) (.nil)) (.nil))) (.nil)))))) (by kernel_rfl) (by kernel_rfl) _ (Drop.refl _ _) ?_
  simp -dsimp -implicitDefEqProofs (disch:=first|with_reducible assumption|omega) [go_sem,xSet_oent m1,xFind_oent m1,xSet_oent p1,xFind_oent p1]
  have le13:=le1.trans le2
  refine Spec.ap (cloneP_any _ (hs.o.up le13) (by omega) fun h4 v4 le4 i4 ap=>?_)
  obtain ⟨a42,a41,_⟩:=Ap.oent (Ap.oent ap)
  obtain ⟨oa1,oc1,rfl,_⟩:=i4.open
  refine xkp (Drop.forget le4) ?_
  simp -dsimp -implicitDefEqProofs (disch:=first|with_reducible assumption|omega) [go_sem,xSet_oent m1,xFind_oent m1,xSet_oent p1,xFind_oent p1]
  have le14:=le13.trans le4
  refine Spec.ap (cloneD_any _ (hs.d.up le14) (by omega) fun h5 v5 le5 i5 ap=>?_)
  obtain ⟨a52,a51,_⟩:=Ap.oent (Ap.oent ap)
  obtain ⟨da1,dc1,rfl,_⟩:=i5.open
  first
  | refine xkp (Drop.forget (le4.trans le5)) ?_
  | skip
  simp -dsimp -implicitDefEqProofs (disch:=first|with_reducible assumption|omega) [go_sem,xSet_oent m1,xFind_oent m1,xSet_oent p1,xFind_oent p1]
  have le15:=le14.trans le5
  refine cloneT_own _ (q1'.up le15) (fun x hx=>(q3 x hx).up le15) (by omega) fun ot ok2 at0'=>?_
  rw [hql] at ok2 ⊢
  have at1:=apO_oent (apO_oent at0')
  have t2:apB ot b2:=at1.head
  have t1:apB ot b1:=(apO_tail at1).head
  replace at1:=apO_tail (apO_tail at1)
  simp -dsimp -implicitDefEqProofs (disch:=first|with_reducible assumption|omega) [go_sem,xSet_oent t1,xFind_oent t1,xSet_oent m1,xFind_oent m1,xSet_oent p1,xFind_oent p1]
  obtain ⟨mta,mtc,emt,_⟩:=ovs_open ok2
  rw [emt]
  refine xx ?_
  obtain ⟨vv,hvv⟩:∃ vv:SV,vv=⟨.slice pa1 s.purses.length pc1,ovs om s.members.length,.slice ea1 s.entry.length ec1,.slice xa1 s.exit.length xc1,.slice oa1 s.pool.length oc1,.slice da1 s.dues.length dc1,.slice mta s.motions.length mtc,.slice ka s.marks.length kc,.slice ra s.ring.length rc⟩:=⟨_,rfl⟩
  refine xloop (γ:=Nat×List QM×List Fam×PH) (0,ql,[],h5)
    (fun q=>q.1≤s.motions.length∧q.2.1.map (fun x=>x.2.2)=s.motions∧(∀ j,q.1≤j→j<s.motions.length→IsMot q.2.2.2 (gr zeroQM q.2.1 j))∧PH.le h5 q.2.2.2∧q.2.2.2 b2=noC∧q.2.2.2 b1=noC∧apO ot [] q.2.2.2∧FamOk q.2.2.1∧q.2.2.1.map fvO=(q.2.1.take q.1).map (fun x=>x.1))
    (fun q=>[(36,.int .i64 q.1),(35,.int .i64 s.motions.length),(1,.pointer (some ⟨b1,0,none⟩)),(2,.pointer (some ⟨b2,0,none⟩))])
    (fun q=>oent 75 33 ot (q.2.1.flatMap motC) (oent 73 6 om (s.members.flatMap memC) (oent 22 1 op (s.purses.map (.int .u64)) (⟨b2,39,stC zeroS nilV,41⟩::⟨b1,39,stC s vv,41⟩::famO 5 q.2.2.1 L)))) (fun q=>q.2.2.2) (fun q=>s.motions.length-q.1) ?_ ?_ ?_ ?_
  · exact ⟨Nat.zero_le _,q2,(fun j _ hj => by
      have hj:j<ql.length:=by rw [hql]; exact hj
      exact (q3 (gr zeroQM ql j) (by rw [gr_lt hj]; exact List.getElem_mem _)).up le15),PH.le_refl _,a52,a51,(by cases ot with | none=>trivial | some p=>exact ⟨trivial,at1.2⟩),(fun x hx=>by cases hx),rfl⟩
  · simp [Ent,List.lookup,xEnv]
  · subst hvv; exact Drop.refl _ _
  rintro ⟨k,ql',FF,h6⟩ ⟨k1,k2,k3,k4,k5,k6,k8,kf,kv⟩
  simp only at k1 k2 k3 k4 k5 k6 k8 kf kv ⊢
  have hql':ql'.length=s.motions.length:=by rw [← k2,List.length_map]
  subst hvv
  by_cases c1:k<s.motions.length
  · obtain ⟨bt,cap,rfl⟩ : ∃ bt cap,ot = some (bt,cap) := by
      cases ot with
      | none=>have:s.motions.length=0:=ok2; omega
      | some p=>exact ⟨_,_,rfl⟩
    simp only [ovs,Value.slice.injEq] at emt
    obtain ⟨rfl,_,rfl⟩:=emt
    have hbt:h6 bt=noC:=k8.2
    have n21:bt≠b2:=t2
    have n11:bt≠b1:=t1
    obtain ⟨qk,hqk⟩:∃ qk,qk=gr zeroQM ql' k:=⟨_,rfl⟩
    have hmem:qk∈ql':=by rw [hqk,gr_lt (by omega)]; exact List.getElem_mem _
    have hmk:IsMot h6 qk:=hqk ▸ k3 k (Nat.le_refl _) c1
    have hmdm:qk.2.2∈s.motions:=by rw [← k2]; exact List.mem_map.2 ⟨qk,hmem,rfl⟩
    obtain ⟨vy,vn,md⟩:=qk
    have hy:=hmk.y
    have hn:=hmk.n
    simp only at hy hn
    obtain ⟨ya,yc,rfl,_⟩:=hy.open
    obtain ⟨na,nc,rfl,_⟩:=hn.open
    simp only at hmdm
    have fv:=few.v md hmdm
    have g31:∀ (K:Value→Prop) (t:Tok K),xNth (ql'.flatMap motC) (k*33+31) K t=K (.slice ya md.yes.length yc):=fun K t=>xNth_rec motC_len zeroQM ql' (by omega) (by decide) (by rw [← hqk]; rfl) K t
    have g32:∀ (K:Value→Prop) (t:Tok K),xNth (ql'.flatMap motC) (k*33+32) K t=K (.slice na md.no.length nc):=fun K t=>xNth_rec motC_len zeroQM ql' (by omega) (by decide) (by rw [← hqk]; rfl) K t
    have hfl:(ql'.flatMap motC).length=s.motions.length*33:=by rw [flatG_len motC_len,hql']
    rw [oent_some]
    simp -dsimp -implicitDefEqProofs (disch:=first|with_reducible assumption|omega) [go_sem,xSet_oent m1,xFind_oent m1,xSet_oent p1,xFind_oent p1]
    refine xanyl (.tk 0 (.tk 2 (.tk 3 (.tk 5 (.tk 6 (.tk 8 (.tk 13 (.tk 15 (.tkl 1 (.tkl 7 (.tk 9 (.tk 10 (.tkl 11 (.or true 4 (.or true 12 (.or true 14 (.tk 16 (.tk 17 (.tkl 18 (.or true 19 (.tk 20 (.tk 21 (.or false 22 (.tk 23 (.tk 24 (.or false 25 (.fin) (.nil)))) (.nil)))) (.nil))))) (.nil)) (.or true 14 (.tk 16 (.tk 17 (.tkl 18 (.or true 12 (.or true 19 (.tk 20 (.tk 21 (.or false 22 (.tk 23 (.tk 24 (.or false 25 (.fin) (.nil)))) (.nil)))) (.nil)) (.nil))))) (.nil))) (.or true 12 (.or true 4 (.or true 14 (.tk 16 (.tk 17 (.tkl 18 (.or true 19 (.tk 20 (.tk 21 (.or false 22 (.tk 23 (.tk 24 (.or false 25 (.fin) (.nil)))) (.nil)))) (.nil))))) (.nil)) (.or true 14 (.tk 16 (.tk 17 (.tkl 18 (.or true 4 (.or true 19 (.tk 20 (.tk 21 (.or false 22 (.tk 23 (.tk 24 (.or false 25 (.fin) (.nil)))) (.nil)))) (.nil)) (.or true 19 (.tk 20 (.tk 21 (.or true 4 (.or false 22 (.tk 23 (.tk 24 (.or false 25 (.fin) (.nil)))) (.nil)) (.or false 22 (.or true 4 (.tk 23 (.tk 24 (.or false 25 (.fin) (.nil)))) (.nil)) (.nil))))) (.nil)))))) (.nil))) (.or true 14 (.tk 16 (.tk 17 (.tkl 18 (.or true 4 (.or true 12 (.or true 19 (.tk 20 (.tk 21 (.or false 22 (.tk 23 (.tk 24 (.or false 25 (.fin) (.nil)))) (.nil)))) (.nil)) (.nil)) (.or true 12 (.or true 4 (.or true 19 (.tk 20 (.tk 21 (.or false 22 (.tk 23 (.tk 24 (.or false 25 (.fin) (.nil)))) (.nil)))) (.nil)) (.or true 19 (.tk 20 (.tk 21 (.or true 4 (.or false 22 (.tk 23 (.tk 24 (.or false 25 (.fin) (.nil)))) (.nil)) (.or false 22 (.or true 4 (.tk 23 (.tk 24 (.or false 25 (.fin) (.nil)))) (.nil)) (.nil))))) (.nil))) (.nil)))))) (.nil))))))))))))))))) (by kernel_rfl) (by kernel_rfl) _ (Drop.refl _ _) ?_
    simp -dsimp -implicitDefEqProofs (disch:=first|with_reducible assumption|omega) [go_sem,xSet_oent m1,xFind_oent m1,xSet_oent p1,xFind_oent p1,g31,g32]
    have hset:∀ a ac b bc,((ql'.flatMap motC).set (k*33+31) (.slice a md.yes.length ac)).set (k*33+32) (.slice b md.no.length bc)=(ql'.set k (.slice a md.yes.length ac,.slice b md.no.length bc,md)).flatMap motC:=fun a ac b bc=>by
      rw [flatG_set motC_len zeroQM ql' (i:=k) (m:=31) (a':=(.slice a md.yes.length ac,.slice na md.no.length nc,md)) (by omega) (by decide) (by rw [← hqk]; rfl)]
      rw [flatG_set motC_len zeroQM _ (i:=k) (m:=32) (a':=(.slice a md.yes.length ac,.slice b md.no.length bc,md)) (by rw [List.length_set]; omega) (by decide) (by rw [gr_lt (by rw [List.length_set]; omega),List.getElem_set_self]; rfl),List.set_set]
    have hmd:s.motions[k]?=some md:=by
      rw [← k2,List.getElem?_map,List.getElem?_eq_getElem (by omega),← gr_lt (z:=zeroQM) (by omega),← hqk]
      rfl
    have hmap:∀ (a b:Value),(ql'.set k (a,b,md)).map (fun x=>x.2.2)=s.motions:=fun a b=>by
      rw [List.map_set,k2]
      apply List.ext_getElem?
      intro n
      rw [List.getElem?_set]
      split
      · rename_i e
        subst e
        first
        | exact hmd.symm
        | (split
           · exact hmd.symm
           · rw [List.getElem?_eq_none (by omega)])
      · rfl
    repeat' first
      | refine xpl_or ?_ ?_
      | simp -dsimp -implicitDefEqProofs (disch:=first|with_reducible assumption|omega) [go_sem,xSet_oent m1,xFind_oent m1,xSet_oent p1,xFind_oent p1,g31,g32]
    all_goals
      refine Spec.fin (clone8_own _ hy (by omega) fun oy oky apy=>⟨_,_,Drop.perm _ fam_move,?_⟩)
      obtain ⟨wa,wc,eoy,_⟩:=ovs_open oky
      rw [eoy]
      first
      | refine xkp fam_drop ?_
      | skip
    repeat' first
      | refine xpl_or ?_ ?_
      | simp -dsimp -implicitDefEqProofs (disch:=first|with_reducible assumption|omega) [go_sem,xSet_oent m1,xFind_oent m1,xSet_oent p1,xFind_oent p1,g31,g32]
      | refine xkp fam_drop ?_
    all_goals
      refine Spec.ap (clone8_any _ hn (by omega) fun h8 v8 le8 i8 ap=>?_)
      obtain ⟨z1,z2⟩:=ap
      obtain ⟨z3,z4,_⟩:=Ap.oent (Ap.oent z2)
      obtain ⟨ua,uc,rfl,_⟩:=i8.open
      first
      | refine xkp (fam_drop.trans (Drop.forget le8)) ?_
      | skip
    repeat' first
      | refine xpl_or ?_ ?_
      | simp -dsimp -implicitDefEqProofs (disch:=first|with_reducible assumption|omega) [go_sem,xSet_oent m1,xFind_oent m1,xSet_oent p1,xFind_oent p1,g31,g32]
      | refine xkp (fam_drop.trans (Drop.forget le8)) ?_
    all_goals
      have hsum:(ql'.map fun a=>(motC a).length).sum=s.motions.length*33:=by rw [← List.length_flatMap,hfl]
      have hk33:=flat_lt (n:=s.motions.length) (w:=33) c1 (m:=32) (by decide)
      refine ⟨by omega,by omega,k+1,ql'.set k (.slice wa md.yes.length wc,.slice ua md.no.length uc,md),FF++[(oy,md.yes.map (.int .u8))],h8,⟨by omega,hmap _ _,fun j hj hj2=>?_,k4.trans le8,z3,z4,⟨trivial,z1⟩,famOk_snoc kf (by simp only [List.length_map]; exact ⟨oky,by omega⟩),?_⟩,by omega,by simp [Ent,List.lookup],?_⟩
      · have e : gr zeroQM (ql'.set k (.slice wa md.yes.length wc,.slice ua md.no.length uc,md)) j = gr zeroQM ql' j := by
          rw [gr_lt (by rw [List.length_set]; omega),gr_lt (by omega),List.getElem_set_ne (by omega)]
        rw [e]; exact (k3 j (by omega) hj2).up le8
      · rw [← List.map_take,take_set (by omega),List.map_append,List.map_append,kv,List.map_cons,List.map_nil,List.map_cons,List.map_nil,fvO,List.length_map,eoy]
      · rw [hset]; exact Drop.refl _ _
  have hkl:k=s.motions.length:=by omega
  subst hkl
  simp -dsimp -implicitDefEqProofs (disch:=first|with_reducible assumption|omega) [go_sem,xSet_oent t1,xFind_oent t1,xSet_oent m1,xFind_oent m1,xSet_oent p1,xFind_oent p1]
  refine call_pub (e:=75) (sz:=33) (n:=s.motions.length) ok2 (by rw [flatG_len motC_len,hql']) (by omega) k8 fun h7 le7 sl7=>?_
  have le17:PH.le h h7:=(le15.trans k4).trans le7
  have kq2:=k2
  have kq4:=k4
  refine Spec.ap (clone8_any _ (hs.k.up le17) (by omega) fun h8 v8 le8 i8 ap=>?_)
  obtain ⟨a82,a81,_⟩:=Ap.oent (Ap.oent ap)
  obtain ⟨ka1,kc1,rfl,_⟩:=i8.open
  have rmot:Recs motC 33 h8 (.slice mta s.motions.length mtc) ql':=by
    have:=Recs.pub (f:=motC) (w:=33) (l:=ql') (o:=ot) motC_len (by rw [hql']; exact sl7)
    rw [hql',emt] at this
    exact this.up le8
  have kvM:FF.map fvO=ql'.map (fun x=>x.1):=by rw [kv,List.take_of_length_le (by omega)]
  have le18:=le17.trans le8
  simp -dsimp -implicitDefEqProofs (disch:=first|with_reducible assumption|omega) [go_sem,xSet_oent m1,xFind_oent m1,xSet_oent p1,xFind_oent p1]
  refine cloneR_own _ (r1'.up le18) (by omega) fun orr ok3 ar=>?_
  rw [hrl] at ok3 ⊢
  have ar1:=apO_oent (apO_oent ar)
  have rb2:apB orr b2:=ar1.head
  have rb1:apB orr b1:=(apO_tail ar1).head
  replace ar1:=apO_tail (apO_tail ar1)
  simp -dsimp -implicitDefEqProofs (disch:=first|with_reducible assumption|omega) [go_sem,xSet_oent rb1,xFind_oent rb1,xSet_oent m1,xFind_oent m1,xSet_oent p1,xFind_oent p1]
  obtain ⟨rta,rtc,ert,_⟩:=ovs_open ok3
  rw [ert]
  refine xx ?_
  refine xloop (γ:=Nat×List QS×List Fam×PH) (0,rl,[],h8)
    (fun q=>q.1≤s.ring.length∧xsL q.2.1=s.ring∧(∀ j,q.1≤j→j<s.ring.length→Ints q.2.2.2 .u8 (gs q.2.1 j).1 (gs q.2.1 j).2)∧PH.le h8 q.2.2.2∧q.2.2.2 b2=noC∧q.2.2.2 b1=noC∧apO orr [] q.2.2.2∧FamOk q.2.2.1∧q.2.2.1.map fvO=(q.2.1.take q.1).map (fun x=>x.1))
    (fun q=>[(75,.int .i64 q.1),(74,.int .i64 s.ring.length),(1,.pointer (some ⟨b1,0,none⟩)),(2,.pointer (some ⟨b2,0,none⟩))])
    (fun q=>oent 36 1 orr (vsL q.2.1) (oent 73 6 om (s.members.flatMap memC) (oent 22 1 op (s.purses.map (.int .u64)) (⟨b2,39,stC zeroS nilV,41⟩::⟨b1,39,stC s ⟨.slice pa1 s.purses.length pc1,ovs om s.members.length,.slice ea1 s.entry.length ec1,.slice xa1 s.exit.length xc1,.slice oa1 s.pool.length oc1,.slice da1 s.dues.length dc1,.slice mta s.motions.length mtc,.slice ka1 s.marks.length kc1,.slice rta s.ring.length rtc⟩,41⟩::famO 5 (FF++q.2.2.1) L)))) (fun q=>q.2.2.2) (fun q=>s.ring.length-q.1) ?_ ?_ ?_ ?_
  · exact ⟨Nat.zero_le _,r2,(fun j _ hj => by
      have hj:j<rl.length:=by rw [hrl]; exact hj
      exact (r1'.d (gs rl j) (by rw [gs_lt hj]; exact List.getElem_mem _)).up le18),PH.le_refl _,a82,a81,(by cases orr with | none=>trivial | some p=>exact ⟨trivial,ar1.2⟩),(fun x hx=>by cases hx),rfl⟩
  · simp [Ent,List.lookup,xEnv]
  · simp only [List.append_nil]; exact Drop.refl _ _
  rintro ⟨k,rl',RR,h9⟩ ⟨k1,k2,k3,k4,k5,k6,k8,kf2,kv2⟩
  simp only at k1 k2 k3 k4 k5 k6 k8 kf2 kv2 ⊢
  have hrl':rl'.length=s.ring.length:=by rw [← k2]; simp [xsL]
  by_cases c2:k<s.ring.length
  · obtain ⟨bt,cap,rfl⟩ : ∃ bt cap,orr = some (bt,cap) := by
      cases orr with
      | none=>have:s.ring.length=0:=ok3; omega
      | some p=>exact ⟨_,_,rfl⟩
    simp only [ovs,Value.slice.injEq] at ert
    obtain ⟨rfl,_,rfl⟩:=ert
    have hbt:h9 bt=noC:=k8.2
    have n21:bt≠b2:=rb2
    have n11:bt≠b1:=rb1
    obtain ⟨qk,hqk⟩:∃ qk,qk=gs rl' k:=⟨_,rfl⟩
    have hmem:qk∈rl':=by rw [hqk,gs_lt (by omega)]; exact List.getElem_mem _
    have hy:Ints h9 .u8 qk.1 qk.2:=hqk ▸ k3 k (Nat.le_refl _) c2
    have hbm:qk.2∈s.ring:=by rw [← k2]; exact List.mem_map.2 ⟨qk,hmem,rfl⟩
    have fv:=few.b _ hbm
    obtain ⟨vy,by'⟩:=qk
    simp only at hy hbm fv
    obtain ⟨ya,yc,rfl,_⟩:=hy.open
    have g1:∀ (K:Value→Prop) (t:Tok K),xNth (vsL rl') k K t=K (.slice ya by'.length yc):=fun K t=>xNth_of (by rw [vsL,List.getElem?_map,List.getElem?_eq_getElem (by omega),← gs_lt (by omega),← hqk]; rfl)
    have hfl:(vsL rl').length=s.ring.length:=by simp [vsL,hrl']
    rw [oent_some]
    simp -dsimp -implicitDefEqProofs (disch:=first|with_reducible assumption|omega) [go_sem,xSet_oent m1,xFind_oent m1,xSet_oent p1,xFind_oent p1]
    refine xanyl (.tk 0 (.tk 2 (.tk 3 (.tk 5 (.tkl 1 (.tkl 4 (.tk 6 (.tkl 7 (.or true 8 (.tk 9 (.or false 10 (.fin) (.nil))) (.nil)))))))))) (by kernel_rfl) (by kernel_rfl) _ (Drop.refl _ _) ?_
    simp -dsimp -implicitDefEqProofs (disch:=first|with_reducible assumption|omega) [go_sem,xSet_oent m1,xFind_oent m1,xSet_oent p1,xFind_oent p1,g1]
    repeat' first
      | refine xpl_or ?_ ?_
      | simp -dsimp -implicitDefEqProofs (disch:=first|with_reducible assumption|omega) [go_sem,xSet_oent m1,xFind_oent m1,xSet_oent p1,xFind_oent p1,g1]
    all_goals
      refine Spec.fin (clone8_own _ hy (by omega) fun oy oky apy=>⟨_,_,Drop.perm _ fam_move,?_⟩)
      obtain ⟨wa,wc,eoy,_⟩:=ovs_open oky
      rw [eoy]
      first
      | refine xkp fam_drop ?_
      | skip
    repeat' first
      | refine xpl_or ?_ ?_
      | simp -dsimp -implicitDefEqProofs (disch:=first|with_reducible assumption|omega) [go_sem,xSet_oent m1,xFind_oent m1,xSet_oent p1,xFind_oent p1,g1]
      | refine xkp fam_drop ?_
    all_goals
      refine ⟨by rw [hfl]; exact c2,k+1,rl'.set k (.slice wa by'.length wc,by'),RR++[(oy,by'.map (.int .u8))],h9,⟨by omega,?_,fun j hj hj2=>?_,k4,k5,k6,⟨trivial,hbt⟩,famOk_snoc kf2 (by simp only [List.length_map]; exact ⟨oky,by omega⟩),?_⟩,by omega,by simp [Ent,List.lookup],?_⟩
      · rw [← k2,xsL,xsL,List.map_set]
        apply List.ext_getElem?
        intro n
        rw [List.getElem?_set]
        split
        · rename_i e
          subst e
          have:(rl'.map (fun x:QS=>x.2))[k]?=some by':=by
            rw [List.getElem?_map,List.getElem?_eq_getElem (by omega),← gs_lt (by omega),← hqk]; rfl
          first
          | exact this.symm
          | (split
             · exact this.symm
             · rename_i hh; exfalso; apply hh; simp; omega)
        · rfl
      · have e : gs (rl'.set k (.slice wa by'.length wc,by')) j = gs rl' j := by
          rw [gs_lt (by rw [List.length_set]; omega),gs_lt (by omega),List.getElem_set_ne (by omega)]
        rw [e]; exact k3 j (by omega) hj2
      · rw [← List.map_take,take_set (by omega),List.map_append,List.map_append,kv2,List.map_cons,List.map_nil,List.map_cons,List.map_nil,fvO,List.length_map,eoy]
      · rw [vsL,vsL,List.map_set,oent_some,Nat.mul_one]; exact Drop.refl _ _
  have hkl:k=s.ring.length:=by omega
  subst hkl
  simp -dsimp -implicitDefEqProofs (disch:=first|with_reducible assumption|omega) [go_sem,xSet_oent rb1,xFind_oent rb1,xSet_oent rb2,xFind_oent rb2,xSet_oent m1,xFind_oent m1,xSet_oent p1,xFind_oent p1,xSet_oent m2,xFind_oent m2,xSet_oent p2,xFind_oent p2]
  have le10:=pub_le_o (h:=h9) k8 (vsL rl')
  have sl10:=pub_sl (h:=h9) (sz:=1) (n:=s.ring.length) (o:=orr) (xs:=vsL rl') ok3 (by simp [vsL,hrl']) (by omega)
  have le8':PH.le h8 (pubO h9 orr (vsL rl')):=k4.trans le10
  have kvR:RR.map fvO=vsL rl':=by rw [kv2,List.take_of_length_le (by omega)]; rfl
  have hRR:RR.length=s.ring.length:=by rw [← List.length_map (f:=fvO),kvR,vsL,List.length_map,hrl']
  have hF:OwnF (pubO h9 orr (vsL rl')) s FF RR (.slice mta s.motions.length mtc) (.slice rta s.ring.length rtc) :=
    ⟨kf,kf2,⟨ql',rmot.up le8',hql',kvM⟩,by rw [hRR,kvR,← ert]; exact sl10,hRR⟩
  exact ⟨_,_,(pub_drop_o orr (vsL rl') _ h9 (by decide)).trans own_drop5,by rw [← epx]; exact hk _ op om FF RR _ _ _ _ _ _ _ _ _ _ _ _ _ _ (le18.trans le8') okp ok1 hF⟩
end Go.X

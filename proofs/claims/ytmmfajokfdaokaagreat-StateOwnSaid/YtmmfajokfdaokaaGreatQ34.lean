/- Lemmas and contracts for a statement about the given program. Conditions: as each says. -/
import Derived.Test.YtmmfajokfdaokaaGreatQ33
set_option linter.unusedVariables false
set_option linter.unusedSimpArgs false
set_option maxHeartbeats 12800000
set_option maxRecDepth 20000
namespace Go.X
open Go.RowKit Go.Proofs Go.Bl
variable {L:Own} {h:PH} {K:PK}
theorem permM {e0 s0:Nat} {o0:Option (Nat×Nat)} {X0:List Value} {a b c d x:Blk} {L:Own}:(a::b::c::d::x::oent e0 s0 o0 X0 L).Perm (x::oent e0 s0 o0 X0 (d::b::a::c::L)):=by
 have h1:(a::b::c::d::x::oent e0 s0 o0 X0 L).Perm (x::a::b::c::d::oent e0 s0 o0 X0 L):=List.perm_middle (l₁:=[a,b,c,d])
 refine h1.trans (List.Perm.cons _ ?_)
 have h2:(a::b::c::d::L).Perm (d::a::b::c::L):=List.perm_middle (l₁:=[a,b,c])
 exact (oent_perm_app [a,b,c,d]).trans (oent_congr o0 X0 (h2.trans (List.Perm.cons _ (List.Perm.swap _ _ _))))
theorem mtSk_succ {s:StD} {r:RepD} {k:Nat} {i:Nat} {m:MemD} {a:Int} (e1:(mtX s r (k+1)).1=(mtX s r k).1.set i (payM s.par m a).1) (e2:(mtX s r (k+1)).2=(mtX s r k).2.set m.owner.toNat (at0 (mtX s r k).2 m.owner.toNat+(payM s.par m a).2)) (e3:sumK (mtP s r) (k+1)=sumK (mtP s r) k+a) :
  mtSk s r (k+1)={ mtSk s r k with treas:=(mtSk s r k).treas-a,members:=(mtX s r k).1.set i (payM s.par m a).1,purses:=(mtX s r k).2.set m.owner.toNat (at0 (mtX s r k).2 m.owner.toNat+(payM s.par m a).2) }∧mtRk s r (k+1)={ mtRk s r k with paid:=(mtRk s r k).paid+a }:=by
 constructor
 ·show ({ s with mint:=s.mint+mtN s r,treas:=s.treas+mtN s r-sumK (mtP s r) (k+1),members:=(mtX s r (k+1)).1,purses:=(mtX s r (k+1)).2 }:StD)={ s with mint:=s.mint+mtN s r,treas:=s.treas+mtN s r-sumK (mtP s r) k-a,members:=(mtX s r k).1.set i (payM s.par m a).1,purses:=(mtX s r k).2.set m.owner.toNat (at0 (mtX s r k).2 m.owner.toNat+(payM s.par m a).2) }
  rw [e1,e2,e3,Int.sub_sub]
 ·show ({ r with mint:=mtN s r,paid:=r.paid+sumK (mtP s r) (k+1) }:RepD)={ r with mint:=mtN s r,paid:=r.paid+sumK (mtP s r) k+a }
  rw [e3,Int.add_assoc]
theorem tmint_any {bb D:Nat} {om:Option (Nat×Nat)} {s:StD} {v:SV} {r:RepD} {q:RV} {w:Int} (ti:TkI s D) (ha:0≤r.act∧r.act≤18446744073709551615) (hp0:r.paid=0) (hv:OneS v) (hp:Ints h .u64 v.p s.purses) (hk0:Ints h .u8 v.k s.marks) (hm:v.m=ovs om s.members.length) (okm:okO om s.members.length)
  (hk:∀ h' pv,PH.le h h'→Ints h' .u64 pv (mtS s r).purses→K (.tuple #[]) (tB bb (mtS s r) { v with p:=pv } (mtR s r) q w::tMo om (mtS s r).members L) h') :
  Spec Tryz.prog 72 [.pointer (some ⟨bb,0,none⟩)] (tB bb s v r q w::tMo om s.members L) h K:=by
 obtain ⟨vp,vm,ve,vx,vo,vd,vt,vk,vr⟩:=v
 simp only at hm hk0 hp hk ⊢
 subst hm
 have hml:=ti.ml
 have ht:=ti.top
 have u1:=ti.ok.u s.gen (by simp)
 have u2:=ti.ok.u s.mint (by simp)
 have u3:=ti.ok.u s.most (by simp)
 have u4:=ti.ok.u s.treas (by simp)
 have hn:=mt_n ti ha
 have hsum:=ti.sum
 obtain ⟨p1,p2,p3,p4,p5,p6⟩:=ti.parts
 obtain ⟨n,en⟩:∃ n,n=mtN s r:=⟨_,rfl⟩
 have hv1:=hv
 unfold OneS at hv1
 simp only at hv1
 obtain ⟨o1,o2,o3,o4,o5,o6,o7,o8,o9⟩:=hv1
 refine x_enterA Tryz.func72 rfl (rs:=[]) rfl rfl mixed (by kernel_rfl) rfl rfl fun ap nd=>?_
 have hbb:h bb=noC:=ap.1
 have hbm:apO om [] h:=ap_here ap.2
 have nmb:apB om bb:=apart_here nd.1
 clear ap nd
 refine xx ?_
 refine xnew fun bx n_bx h_bx=>?_
 try simp only [Apart] at n_bx
 have nbx:=n_bx.1
 have nmx:apB om bx:=apart_here n_bx.2
 clear n_bx
 refine xx ?_
 refine xanyl (.tkl 0 (.tk 1 (.tk 2 (.tk 3 (.tkl 4 (.tkl 5 (.tk 6 (.tk 7 (.tk 8 (.tkl 9 (.tkl 10 (.tk 11 (.tk 12 (.tk 13 (.tkl 14 (.tkl 15 (.tk 16 (.tk 17 (.tk 18 (.tkl 19 (.tk 20 (.tkl 21 (.tk 22 (.tk 23 (.tk 24 (.tkl 25 (.tkl 26 (.tk 27 (.tk 28 (.tk 29 (.tkl 30 (.or true 31 (.tk 32 (.fin)) (.nil))))))))))))))))))))))))))))))))) (by kernel_rfl) (by kernel_rfl) _ (Drop.refl _ _) ?_
 refine xx ?_
 refine Spec.ap (bmint_any s.par ti.ok.p ti.r r.act (s.gen+s.mint) s.most r.mode ha (by omega) (by omega) fun h1 le1 ap=>?_)
 have hbx1:h1 bx=noC:=ap.1
 have hbb1:h1 bb=noC:=ap.2.1
 have hbm1:apO om [] h1:=ap_here ap.2.2
 clear ap
 rw [show mintP s.par r.act (s.gen+s.mint) s.most r.mode=n from en.symm]
 rw [← en] at hn
 first
 | refine xkp (Drop.forget le1) ?_
 | skip
 refine xx ?_
 refine Spec.ap (smint_any (s:=s) ⟨vp,ovs om s.members.length,ve,vx,vo,vd,vt,vk,vr⟩ hv ti.ok n (by omega) (fun _ h2 le2 ap=>?_) (fun hno=>absurd ?_ hno))
 rotate_left
 ·have e:tot [s.gen,s.mint,n]=s.gen+s.mint+n:=by simp [tot,sumK,at0]
  refine ⟨?_,by omega⟩
  rw [e]
  omega
 have hbx2:h2 bx=noC:=ap.1
 have hbb2:h2 bb=noC:=ap.2.1
 have hbm2:apO om [] h2:=ap_here ap.2.2
 clear ap
 refine xx ?_
 refine xnew fun b3 n_b3 h_b3=>?_
 try simp only [Apart] at n_b3
 have n3x:=n_b3.1
 have n3b:=n_b3.2.1
 clear n_b3
 obtain ⟨V,eV⟩:∃ V:SV,V=⟨vp,ovs om s.members.length,ve,vx,vo,vd,vt,vk,vr⟩:=⟨_,rfl⟩
 simp -dsimp -implicitDefEqProofs (disch:=first|with_reducible assumption|omega) [go_sem,o1,o2,o3,o4,o5,o6,o7,o8,o9]
 refine xany_cut (.tk 3 (.tkl 0 (.tkl 2 (.tk 4 (.tk 5 (.or true 1 (.or false 6 (.tk 7 (.tk 8 (.tk 9 (.or false 10 (.fin) (.nil))))) (.nil)) (.or false 6 (.or true 1 (.tk 7 (.tk 8 (.tk 9 (.or false 10 (.fin) (.nil))))) (.nil)) (.nil)))))))) (by kernel_rfl) (by kernel_rfl) [(1,.pointer (some ⟨bx,0,none⟩)),(2,.int .u64 n),(3,.pointer (some ⟨b3,0,none⟩))] _ (γ:=Unit) (fun _=>True) (fun _=>[(1,.pointer (some ⟨bx,0,none⟩)),(2,.int .u64 n)])
  (fun _=>⟨b3,39,stC (mintT s n) V,41⟩::tX bx bb::tB bb (mintT s n) V { r with mint:=n } q w::tMo om s.members L) (fun _=>h2) (by simp [Ent,List.lookup,xEnv]) (Drop.refl _ _) ?_ ?_
 ·subst eV
  repeat' first
   | with_reducible refine xpl_or ?_ ?_
   | simp -dsimp -implicitDefEqProofs (disch:=first|with_reducible assumption|omega) [go_sem,o1,o2,o3,o4,o5,o6,o7,o8,o9]
   | with_reducible refine xkp (Drop.refl _ _) ?_
   | fail
  all_goals exact ⟨by simp [Ent,List.lookup],Drop.refl _ _⟩
 rintro _ _
 refine xx ?_
 refine xnew fun b5 n_b5 h_b5=>?_
 try simp only [Apart] at n_b5
 have n53:=n_b5.1
 have n5x:=n_b5.2.1
 have n5b:=n_b5.2.2.1
 have n5m:apB om b5:=apart_here n_b5.2.2.2
 clear n_b5
 refine xx ?_
 refine xnew fun b6 n_b6 h_b6=>?_
 try simp only [Apart] at n_b6
 have n65:=n_b6.1
 have n63:=n_b6.2.1
 have n6x:=n_b6.2.2.1
 have n6b:=n_b6.2.2.2.1
 clear n_b6
 refine xx ?_
 have tk0:=mtk_ti ti ha (Nat.zero_le (mtW s).length)
 have e0:mtSk s r 0=mintT s n:=by
  rw [en]
  show ({ s with mint:=s.mint+mtN s r,treas:=s.treas+mtN s r-sumK (mtP s r) 0 }:StD)=_
  rw [show sumK (mtP s r) 0=0 from rfl,Int.sub_zero]
  rfl
 have e1:mtRk s r 0={ r with mint:=n }:=by
  rw [en]
  show ({ r with mint:=mtN s r,paid:=r.paid+sumK (mtP s r) 0 }:RepD)=_
  rw [show sumK (mtP s r) 0=0 from rfl,Int.add_zero]
 rw [e0] at tk0
 have eWm:(mtW (mintT s n)).length=(mtW s).length:=rfl
 have le12:=le1.trans le2
 obtain ⟨N,hN⟩:∃ N,N=(mtW s).length:=⟨_,rfl⟩
 have hNl:(whoT s s.members.length).length=N∧(mtL s s.members.length).length=N:=by
  have:=whoT_len s s.members.length
  rw [hN]
  exact ⟨by rw [this.1,this.2.2]; rfl,this.2.2⟩
 have hN128:N≤128:=by
  have:=(whoT_len s s.members.length).2.1
  omega
 refine Spec.apn (Spec.fin (Spec.weaken (Drop.perm _ permM) (Spec.apn (tgather_any (s:=mintT s n) (v:=V) (r:={ r with mint:=n }) (bx:=bx) (b5:=b5) (b6:=b6) tk0 (by rw [eV]; exact hk0.up le12) (by rw [eV]; rfl) okm hbb2 hbm2 nmb fun ow ol j1 j2 ap nd=>⟨_,pubO (pubO h2 ow ((whoT s s.members.length).map (.int .i64))) ol ((mtL s s.members.length).flatMap sdC),dropG (by decide) (by decide),fun ap2 nd2=>?_⟩))))
 obtain ⟨aw,al⟩:=ap_G ap nd
 clear ap nd
 rw [eWm,← hN] at j1 j2
 have sw:=pub_sl (h:=h2) (sz:=1) (n:=N) (o:=ow) (xs:=(whoT s s.members.length).map (.int .i64)) j1 (by rw [List.length_map,hNl.1,Nat.mul_one]) (by omega)
 have sl:=pub_sl (h:=pubO h2 ow ((whoT s s.members.length).map (.int .i64))) (sz:=4) (n:=N) (o:=ol) (xs:=(mtL s s.members.length).flatMap sdC) j2 (by rw [flatG_len sdC_len,hNl.2]) (by omega)
 have aw2:apO ow [] h2:=aw
 have al2:apO ol [] (pubO h2 ow ((whoT s s.members.length).map (.int .i64))):=al
 have lw:=pub_le_o aw2 ((whoT s s.members.length).map (.int .i64))
 have ll:=pub_le_o al2 ((mtL s s.members.length).flatMap sdC)
 clear aw al aw2 al2 nd2
 have sw:=sw.up ll
 have le3:=lw.trans ll
 clear lw ll
 generalize pubO (pubO h2 ow ((whoT s s.members.length).map (.int .i64))) ol ((mtL s s.members.length).flatMap sdC)=h3 at ap2 sw sl le3 ⊢
 have iw:Ints h3 .i64 (ovs ow N) (whoT s s.members.length):=⟨by rw [hNl.1]; exact sw,fun z hz=>by
  rw [show IntKind.i64.min = -9223372036854775808 by decide,show IntKind.i64.max=9223372036854775807 by decide]
  obtain ⟨j,hj,rfl⟩:=List.mem_map.1 hz
  have:=thI_lt hj
  omega⟩
 have rl:Recs sdC 4 h3 (ovs ol N) (mtL s s.members.length):=by
  have:=Recs.pub (f:=sdC) (w:=4) (l:=mtL s s.members.length) (o:=ol) (h:=h3) sdC_len (by rw [hNl.2]; exact sl)
  rwa [hNl.2] at this
 have hbb3:h3 bb=noC:=ap2.1
 have hbx3:h3 bx=noC:=ap2.2.1
 have hb53:h3 b5=noC:=ap2.2.2.1
 have hb63:h3 b6=noC:=ap2.2.2.2.1
 clear ap2 sw sl
 obtain ⟨wa,wc,ew,_,_,_,hws⟩:=iw.open
 obtain ⟨la,lc,el,_⟩:=rl.open
 rw [hNl.1] at ew hws
 rw [hNl.2] at el
 have iw0:=iw
 rw [el] at rl
 simp only [whB,stB6]
 rw [eWm,← hN,ew,el]
 subst eV
 refine xx ?_
 refine xanyl (.tk 5 (.tkl 0 (.tk 1 (.tk 2 (.tk 3 (.tkl 4 (.tkl 6 (.or true 7 (.tk 8 (.tk 9 (.tk 10 (.tk 11 (.tk 12 (.tk 13 (.tk 14 (.fin)))))))) (.nil))))))))) (by kernel_rfl) (by kernel_rfl) _ (Drop.refl _ _) ?_
 refine xx ?_
 have le13:=le12.trans le3
 refine Spec.ap (prizes_any s.par ti.ok.p ti.r _ rl (mtL_ok ti _ (Nat.le_refl _)) (by rw [hNl.2]; exact hN128) n (by omega) fun h4 rv le4 iv ap=>?_)
 have hbb4:h4 bb=noC:=ap.1
 have hbx4:h4 bx=noC:=ap.2.1
 have hb54:h4 b5=noC:=ap.2.2.1
 have hbm4:apO om [] h4:=ap_here ap.2.2.2.2
 clear ap
 have eP:prizeL s.par n (mtL s s.members.length)=mtP s r:=by rw [en]; rfl
 rw [eP] at iv ⊢
 have hPl:(mtP s r).length=N:=by rw [(mt_p ti ha).2.1,hN]
 obtain ⟨ra,rc,rfl,_,_,_,hrs⟩:=iv.open
 rw [hPl] at hrs ⊢
 first
 | refine xkp (Drop.forget le4) ?_
 | skip
 refine xx ?_
 refine xloop (γ:=Nat×PH×Value) (0,h4,vp) (fun y=>y.1≤N∧PH.le h4 y.2.1∧Ints y.2.1 .u64 y.2.2 (mtX s r y.1).2∧y.2.1 bb=noC∧apO om [] y.2.1∧y.2.1 bx=noC∧y.2.1 b5=noC)
  (fun y=>[(83,.int .i64 y.1),(82,.int .i64 N),(81,.slice ra N rc),(8,.int .u64 (n-tot (mtP s r))),(2,.int .u64 n),(1,.pointer (some ⟨bx,0,none⟩)),(5,.pointer (some ⟨b5,0,none⟩))])
  (fun y=>tB bb (mtSk s r y.1) ⟨y.2.2,ovs om s.members.length,ve,vx,vo,vd,vt,vk,vr⟩ (mtRk s r y.1) q w::tX bx bb::⟨b5,32,[.slice wa N wc],1⟩::tMo om (mtSk s r y.1).members L) (fun y=>y.2.1) (fun y=>N-y.1) ?_ ?_ ?_ ?_
 ·exact ⟨Nat.zero_le _,PH.le_refl _,hp.up (le13.trans le4),hbb4,hbm4,hbx4,hb54⟩
 ·simp [Ent,List.lookup]
 ·rw [e0,e1]
  exact Drop.sub (.cons_cons _ (.cons_cons _ (.cons_cons _ (List.sublist_cons_self _ _))))
 clear n3x n3b n53 n63 n65 n6x n6b hbb hbm h_bx h_b3 h_b5 h_b6 hbb1 hbm1 hbx1 hbb2 hbm2 hbx2 hbb3 hbx3 hb53 hb63
 have ebb:NeB bb bx:=nbx
 have e5b:NeB bb b5:=n5b
 have e5x:NeB bx b5:=n5x
 clear nbx n5x n5b
 rintro ⟨k,h5,pv⟩ ⟨k1,le5,ip,hbb5,hbm5,hbx5,hb55⟩
 simp only at k1 le5 ip hbb5 hbm5 hbx5 hb55 ⊢
 by_cases c1:k<N
 ·have ewk:=whoT_at (s:=s) (k:=k) (by omega)
  obtain ⟨i,hi⟩:∃ i,i=(mtW s).getD k 0:=⟨_,rfl⟩
  rw [← hi] at ewk
  obtain ⟨m,hmm⟩:∃ m,m=gr zeroM (mtX s r k).1 i:=⟨_,rfl⟩
  obtain ⟨a,haa⟩:∃ a,a=at0 (mtP s r) k:=⟨_,rfl⟩
  obtain ⟨z1,z2,z3,z4,z5,z6,z7,z8,z9,z10,z11,z12,z13,z14⟩:=mt_step ti ha (show k<(mtW s).length by omega) hi hmm haa
  obtain ⟨f1,f2⟩:=mtSk_succ z11 z12 z13
  have hws5:∀ j,j<N→elemCell h5 wa j=some (.int .i64 (at0 (whoT s s.members.length) j)):=fun j hj=>elemCell_up (le4.trans le5) (hws j hj)
  have hrs5:∀ j,j<N→elemCell h5 ra j=some (.int .u64 (at0 (mtP s r) j)):=fun j hj=>elemCell_up le5 (hrs j hj)
  have hg:=memT (ms:=(mtX s r k).1) z2
  rw [← hmm] at hg
  obtain ⟨g0,g1,g2,g3,g4,g5⟩:=hg
  have hi6:=flat_lt (w:=6) z2 (show 5<6 by decide)
  have hsm:=memS (ms:=(mtX s r k).1) rfl
  have hXl:(mtX s r k).1.length=s.members.length:=(mt_k ti ha (k:=k) (by omega)).l1
  obtain ⟨bm,cm,rfl⟩:∃ bm cm,om=some (bm,cm):=by
   cases om with
   | none=>have:s.members.length=0:=okm; omega
   | some p=>exact ⟨_,_,rfl⟩
  have ebm:NeB bb bm:=Ne.symm nmb
  have exm:NeB bx bm:=Ne.symm nmx
  have e5m:NeB b5 bm:=Ne.symm n5m
  have hbm5':h5 bm=noC:=hbm5.2
  simp only [tMo,oent_some,ovs_some] at *
  have hst:=stdSet z2 (payM s.par m a).1 (by rw [z14,hmm]) (by rw [hmm]; rfl)
  have hX2:i<((mtX s r k).1.set i (payM s.par m a).1).length:=by rw [List.length_set]; exact z2
  have hgr2:gr zeroM ((mtX s r k).1.set i (payM s.par m a).1) i=(payM s.par m a).1:=by rw [gr_lt hX2,List.getElem_set_self]
  have q4:∀ (K:Value→Prop) (t:Tok K),xNth (((mtX s r k).1.set i (payM s.par m a).1).flatMap memC) (i*6+4) K t=K (.int .i64 m.owner):=fun K t=>xNth_rec memC_len zeroM _ (m:=4) hX2 (by decide) (by rw [hgr2,← z14]; rfl) K t
  obtain ⟨S,hS⟩:∃ S,S=mtSk s r k:=⟨_,rfl⟩
  obtain ⟨R,hR⟩:∃ R,R=mtRk s r k:=⟨_,rfl⟩
  have t1:S.treas=s.treas+mtN s r-sumK (mtP s r) k:=by rw [hS]; rfl
  have t2:S.par=s.par:=by rw [hS]; rfl
  have t3:S.members=(mtX s r k).1:=by rw [hS]; rfl
  have t4:S.purses=(mtX s r k).2:=by rw [hS]; rfl
  have t5:R.paid=sumK (mtP s r) k:=by
   rw [hR]
   show r.paid+sumK (mtP s r) k=_
   omega
  rw [← t1] at z9
  rw [← t5] at z10
  rw [← hS,← hR]
  rw [← hS] at f1
  rw [← hR] at f2
  rw [t3]
  obtain ⟨M,hM⟩:∃ M,M=(mtX s r k).1:=⟨_,rfl⟩
  rw [← hM] at g0 g1 g2 g3 g4 g5 hi6 hsm hst q4 z2 f1 t3 hXl ⊢
  obtain ⟨P5,hP5⟩:∃ P5,P5=(mtX s r k).2:=⟨_,rfl⟩
  rw [← hP5] at ip z5 z7 f1 t4 z12
  have ip':Ints h5 .u64 pv S.purses:=by rw [t4]; exact ip
  simp -dsimp -implicitDefEqProofs (disch:=first|with_reducible assumption|omega) [go_sem,idx hrs5,idx hws5]
  rw [← haa]
  refine xdraw (by kernel_rfl) rfl ?_
  simp -dsimp -implicitDefEqProofs (disch:=first|with_reducible assumption|omega) [go_sem,idx hrs5,idx hws5,ewk]
  refine xanyl (.tk 0 (.tk 6 (.tk 7 (.tk 8 (.tk 10 (.tkl 1 (.tk 2 (.tk 3 (.tk 4 (.tkl 5 (.tkl 9 (.or true 11 (.tk 12 (.tk 13 (.tk 14 (.tk 15 (.tk 16 (.or false 17 (.tk 18 (.fin)) (.nil))))))) (.nil))))))))))))) (by kernel_rfl) (by kernel_rfl) _ (Drop.refl _ _) ?_
  simp -dsimp -implicitDefEqProofs (disch:=first|with_reducible assumption|omega) [go_sem,g0,g1,g2,g3]
  have okS:ParOk S.par:=by rw [t2]; exact ti.ok.p
  have rS:parR S.par=true:=by rw [t2]; exact ti.r
  rw [← t2] at hst q4 z7 z8 z14 f1 z12
  refine ppay_any S.par okS rS m z3 a (by omega) ?_
  first
  | refine xkp (Drop.refl _ _) ?_
  | skip
  refine xx ?_
  refine ⟨by omega,?_⟩
  rw [hst]
  refine xanyl (.tk 1 (.tk 2 (.tk 3 (.tk 5 (.tkl 0 (.tkl 4 (.or true 6 (.fin) (.nil)))))))) (by kernel_rfl) (by kernel_rfl) [_,_,_] (Drop.sub (.cons _ (.cons_cons _ (.cons_cons _ (.cons_cons _ (List.nil_sublist _)))))) ?_
  simp -dsimp -implicitDefEqProofs (disch:=first|with_reducible assumption|omega) [go_sem,q4]
  have ip2:Ints h5 .u64 pv S.purses:=ip'
  refine Spec.ap (tpay_any (s:={ S with treas:=S.treas-a,members:=M.set i (payM S.par m a).1 }) (v:=⟨pv,.slice (some ⟨bm,0,none⟩) s.members.length cm,ve,vx,vo,vd,vt,vk,vr⟩) ip2 (by show S.purses.length≤1000; rw [t4,z5]; have:=ti.pl; omega) m.owner ⟨z4.1,by show m.owner<S.purses.length; rw [t4,z5]; exact z4.2⟩ (payM S.par m a).2 z8 (by show at0 S.purses _+_≤_; rw [t4]; exact z7) fun h6 r6 le6 i6 ap=>?_)
  have hbb6:h6 bb=noC:=ap.1
  have hbx6:h6 bx=noC:=ap.2.1
  have hb56:h6 b5=noC:=ap.2.2.1
  have hbm6:apO (some (bm,cm)) [] h6:=⟨trivial,ap.2.2.2.1⟩
  clear ap
  obtain ⟨pa6,pc6,rfl,_⟩:=i6.open
  refine xkp ((Drop.sub (.cons _ (.cons_cons _ (.cons_cons _ (.cons_cons _ (List.nil_sublist _)))))).trans (Drop.forget le6)) ?_
  refine xx ?_
  simp only [t4] at i6 ⊢
  rw [List.length_set] at i6
  refine ⟨k+1,h6,_,⟨by omega,le5.trans le6,by rw [z12]; exact i6,hbb6,hbm6,hbx6,hb56⟩,by omega,by simp [Ent,List.lookup],?_⟩
  rw [f1,f2]
  exact Drop.refl _ _
 obtain rfl:N=k:=by omega
 have eR:mtR s r={ mtRk s r N with kept:=n-tot (mtP s r) }:=by rw [hN,en]; rfl
 have eS:mtS s r=mtSk s r N:=by rw [hN]; rfl
 have hk:=hk h5 pv (le13.trans (le4.trans le5)) (by rw [eS]; exact ip)
 rw [eS,eR] at hk
 refine xx ?_
 exact ⟨_,_,Drop.sub (.cons_cons _ (.cons _ (List.sublist_cons_self _ _))),hk⟩
theorem permL {e0 s0 e sz:Nat} {o0 o:Option (Nat×Nat)} {X0 xs:List Value} {a:Blk} {L:Own}:(a::oent e0 s0 o0 X0 (oent e sz o xs L)).Perm (oent e sz o xs (a::oent e0 s0 o0 X0 L)):=(List.Perm.cons _ (oent_swap o0 o X0 xs L)).trans oent_perm
theorem row_ints {ms:List MemD} {l:List Int} {st:Int} (hr:RowP ms l st) (hm:ms.length≤128) {v:Value} (sl:Sl h v l.length 1 (l.map (.int .i64))):Ints h .i64 v l:=⟨sl,fun z hz=>by
 rw [show IntKind.i64.min = -9223372036854775808 by decide,show IntKind.i64.max=9223372036854775807 by decide]
 have:=row_in hr hz
 omega⟩
theorem drop2Z {a b:Blk} {L:Own} {h:PH}:Drop (a::b::L) h [a,b] h:=drop_left [a,b] L h
theorem drop1 {a:Blk} {L:Own} {h:PH}:Drop (a::L) h [a] h:=drop_left [a] L h
structure LvG where
 k:Nat
 h:PH
 d:Value
theorem tleave_any {bb D:Nat} {om ox:Option (Nat×Nat)} {s:StD} {v:SV} {r:RepD} {q:RV} {w:Int} (ti:TkI s D) (hD:D≤30000) (hw:0≤w∧w≤1000) (hp:Ints h .u64 v.p s.purses) (hd:Recs dueC 3 h v.d s.dues) (hm:v.m=ovs om s.members.length) (okm:okO om s.members.length) (hx:v.x=ovs ox s.exit.length) (okx:okO ox s.exit.length)
  (hk:∀ h' xo pv dv lv,PH.le h h'→okO xo (lvS s (min (s.ep+w) 2147483647)).exit.length→Ints h' .u64 pv (lvS s (min (s.ep+w) 2147483647)).purses→Recs dueC 3 h' dv (lvS s (min (s.ep+w) 2147483647)).dues→Ints h' .i64 lv (lvW s) →
   K (.tuple #[]) (tB bb (lvS s (min (s.ep+w) 2147483647)) { v with p:=pv,d:=dv,x:=ovs xo (lvS s (min (s.ep+w) 2147483647)).exit.length } (lvR s r) { q with l:=lv } w::tMo om (lvS s (min (s.ep+w) 2147483647)).members (oent 3 1 xo ((lvS s (min (s.ep+w) 2147483647)).exit.map (.int .i64)) L)) h') :
  Spec Tryz.prog 75 [.pointer (some ⟨bb,0,none⟩)] (tB bb s v r q w::tMo om s.members (oent 3 1 ox (s.exit.map (.int .i64)) L)) h K:=by
 obtain ⟨vp,vm,ve,vx,vo,vd,vt,vk,vr⟩:=v
 simp only at hm hp hd hx hk ⊢
 subst hm
 subst hx
 obtain ⟨t,ht⟩:∃ t,t=min (s.ep+w) 2147483647:=⟨_,rfl⟩
 rw [← ht] at hk
 have hep:=ti.ep
 have htb:0≤t∧t≤2147483647:=by omega
 have hml:=ti.ml
 have hpl:=ti.pl
 have hdn:=ti.dn
 have hxl:=row_len ti.ex
 obtain ⟨w1,w2,w3⟩:=lv_w ti
 have hpc:=parR_streak ti.r
 have hsum:=ti.sum
 obtain ⟨p1,p2,p3,p4,p5,p6⟩:=ti.parts
 refine Spec.entr fun ap nd=>?_
 have aox:=ap_here (Ap.oent ap.2)
 have lx:=pub_le_o aox (s.exit.map (.int .i64))
 have sx:=pub_sl (h:=h) (sz:=1) (n:=s.exit.length) (o:=ox) (xs:=s.exit.map (.int .i64)) okx (by simp) (by omega)
 refine Spec.weaken ((Drop.perm h permL).trans (pub_drop_o ox _ _ h (by decide))) ?_
 generalize pubO h ox (s.exit.map (.int .i64))=h0 at lx sx ⊢
 have ix:=row_ints ti.ex hml sx
 clear aox sx ap nd
 obtain ⟨xa,xc,ex,_⟩:=ix.open
 rw [ex] at ix ⊢
 have hxr:∀ z∈s.exit,0≤z:=fun z hz=>(row_in ti.ex hz).1
 refine x_enterA Tryz.func75 rfl (rs:=[]) rfl rfl mixed (by kernel_rfl) rfl rfl fun ap nd=>?_
 have hbb:h0 bb=noC:=ap.1
 have nmb:apB om bb:=apart_here nd.1
 clear ap nd
 refine xx ?_
 refine xanyl (.tk 0 (.tk 1 (.tk 2 (.tk 3 (.tk 5 (.tk 6 (.tk 7 (.tk 8 (.tk 9 (.tkl 4 (.tkl 10 (.or true 11 (.tk 12 (.tk 13 (.tk 14 (.tk 15 (.tk 16 (.fin)))))) (.nil))))))))))))) (by kernel_rfl) (by kernel_rfl) [_] drop1 ?_
 refine xx ?_
 refine Spec.apn (Spec.fin (sfirst_any _ ix (by omega) hxr ti.ex.1 s.par.churn ⟨by omega,by omega⟩ fun h1 rv xo le1 iw ok1 ap1=>⟨_,_,Drop.perm _ permL.symm,fun ap nd=>?_⟩))
 have hbb1:h1 bb=noC:=ap.1
 have hbm1:apO om [] h1:=ap_here ap.2
 clear ap nd ap1
 refine xkp (drop1.trans (Drop.forget le1)) ?_
 have le01:=lx.trans le1
 have eW:s.exit.take s.par.churn.toNat=lvW s:=rfl
 rw [eW] at iw
 obtain ⟨N,hN⟩:∃ N,N=(lvW s).length:=⟨_,rfl⟩
 obtain ⟨R,hR⟩:∃ R,R=s.exit.drop s.par.churn.toNat:=⟨_,rfl⟩
 rw [← hR] at ok1 ⊢
 obtain ⟨wa,wc,rfl,_,_,_,hws⟩:=iw.open
 rw [← hN] at hws w1 ⊢
 have iw0:=iw
 rw [← hN] at iw0
 refine xx ?_
 refine xloop (γ:=LvG) ⟨0,h1,vd⟩ (fun y=>y.k≤N∧PH.le h1 y.h∧Recs dueC 3 y.h y.d (lvK t (lvW s) (s.members,s.dues) y.k).2∧y.h bb=noC∧apO om [] y.h)
  (fun y=>[(32,.int .i64 y.k),(31,.int .i64 N),(30,.slice wa N wc),(2,.slice wa N wc),(0,.pointer (some ⟨bb,0,none⟩))])
  (fun y=>tB bb { s with exit:=R,members:=(lvK t (lvW s) (s.members,s.dues) y.k).1,dues:=(lvK t (lvW s) (s.members,s.dues) y.k).2 } ⟨vp,ovs om s.members.length,ve,ovs xo R.length,vo,y.d,vt,vk,vr⟩ r q w::tMo om (lvK t (lvW s) (s.members,s.dues) y.k).1 (oent 3 1 xo (R.map (.int .i64)) L)) (fun y=>y.h) (fun y=>N-y.k) ?_ ?_ ?_ ?_
 ·exact ⟨Nat.zero_le _,PH.le_refl _,hd.up le01,hbb1,hbm1⟩
 ·simp [Ent,List.lookup,xEnv]
 ·exact Drop.refl _ _
 rintro ⟨k,h2,d2⟩ ⟨k1,le2,id2,hbb2,hbm2⟩
 simp only at k1 le2 id2 hbb2 hbm2 ⊢
 have lv:=(lv_ok ti htb (k:=k) (by omega)).1
 have lr:=(lv_ok ti htb (k:=k) (by omega)).2
 have hXl:(lvK t (lvW s) (s.members,s.dues) k).1.length=s.members.length:=lv.l1
 by_cases c1:k<N
 ·have hin:=w3 (at0 (lvW s) k) (by rw [← at0_lt (by omega)]; exact List.getElem_mem (by omega))
  obtain ⟨i,hi⟩:=Int.eq_ofNat_of_zero_le hin.1
  rw [hi] at hin
  have hws2:∀ j,j<N→elemCell h2 wa j=some (.int .i64 (at0 (lvW s) j)):=fun j hj=>elemCell_up le2 (hws j hj)
  have hi2:i<(lvK t (lvW s) (s.members,s.dues) k).1.length:=by omega
  have hoo:=lr.o _ (gr_mem (z:=zeroM) hi2)
  have hbt:=at0_le_tot (bal_pos lv.m) i
  rw [at0_bal hi2] at hbt
  have h3:=lv.t
  have h4:=lv.n
  have eK:lvK t (lvW s) (s.members,s.dues) (k+1)=lvStep t i (lvK t (lvW s) (s.members,s.dues) k):=by rw [lvK,hi,Int.toNat_natCast]
  obtain ⟨bm,cm,rfl⟩:∃ bm cm,om=some (bm,cm):=by
   cases om with
   | none=>have:s.members.length=0:=okm; omega
   | some p=>exact ⟨_,_,rfl⟩
  have nmb':bm≠bb:=nmb
  have hbm2':h2 bm=noC:=hbm2.2
  obtain ⟨X,hX⟩:∃ X,X=lvK t (lvW s) (s.members,s.dues) k:=⟨_,rfl⟩
  rw [← hX] at id2 lv hXl hi2 hoo hbt h3 h4 eK lr ⊢
  simp only [tMo,oent_some,ovs_some]
  simp -dsimp -implicitDefEqProofs (disch:=first|with_reducible assumption|omega) [go_sem,idx hws2]
  rw [hi]
  simp only at h3 h4
  have how2:0≤(gr zeroM X.1 i).owner∧(gr zeroM X.1 i).owner≤63:=by omega
  refine Spec.ap (tend_any (s:={ s with exit:=R,members:=X.1,dues:=X.2 }) (v:=⟨vp,.slice (some ⟨bm,0,none⟩) s.members.length cm,ve,ovs xo R.length,vo,d2,vt,vk,vr⟩) (by rw [hXl]) (by show X.1.length≤1000; omega) lv.m id2 lv.d (by show X.2.length≤32000; omega) i hi2 how2 5 hw (by show 0≤s.ep∧s.ep≤_; omega) (by show dTot X.2+(gr zeroM X.1 i).bal≤_; omega) fun h5 r5 le5 i5 ap=>?_)
  have hbb5:h5 bb=noC:=ap.1
  have hbm5:apO (some (bm,cm)) [] h5:=⟨trivial,ap.2.1⟩
  clear ap
  refine xx ?_
  refine ⟨⟨k+1,h5,r5⟩,⟨by simp only; omega,le2.trans le5,by rw [eK,ht]; exact i5,hbb5,hbm5⟩,by simp only; omega,by simp [Ent,List.lookup],?_⟩
  simp only
  rw [eK,ht]
  exact Drop.refl _ _
 obtain rfl:N=k:=by omega
 have eX:lvK t (lvW s) (s.members,s.dues) N=lvX s t:=by rw [hN]; rfl
 rw [eX] at id2 lv lr hXl ⊢
 have lvn:=lv.n
 simp only at lvn
 refine xx ?_
 refine xanyl (.tk 0 (.tk 1 (.tk 2 (.tk 3 (.tk 5 (.tk 6 (.tk 7 (.tk 8 (.tkl 4 (.tkl 9 (.or true 10 (.tk 11 (.tk 12 (.tk 13 (.tk 14 (.tk 15 (.fin)))))) (.nil)))))))))))) (by kernel_rfl) (by kernel_rfl) _ (Drop.refl _ _) ?_
 refine xx ?_
 refine Spec.ap (pripe_any _ id2 (by omega) s.ep fun h3 r3 d3 le3 i3 j3 ap=>?_)
 have hbb3:h3 bb=noC:=ap.1
 clear ap
 have i30:=i3
 have j30:=j3
 obtain ⟨ra,rc,rfl,_,_,_,hrs⟩:=i3.open
 obtain ⟨da,dc,rfl,_⟩:=j3.open
 first
 | refine xkp (Drop.forget le3) ?_
 | skip
 have eD:(lvX s t).2.filter (ripB s.ep true)=lvD s t:=rfl
 rw [eD] at i30 hrs ⊢
 obtain ⟨M,hM⟩:∃ M,M=(lvD s t).length:=⟨_,rfl⟩
 have hld:=lv_d ti htb
 have hMl:M≤32000:=by
  have:(lvD s t).length≤(lvX s t).2.length:=List.length_filter_le _ _
  omega
 rw [← hM] at hrs ⊢
 refine xx ?_
 have ltot:tot s.purses+dTot (lvD s t)≤4611686018427387904:=by
  have a1:=rip_two (lvX s t).2 s.ep
  rw [eD] at a1
  have a2:=lv.t
  simp only at a2
  have a3:0≤dTot ((lvX s t).2.filter (ripB s.ep false)):=tot_nonneg (amt_pos fun x hx=>lv.d x (List.mem_filter.1 hx).1)
  have a4:=tot_nonneg (bal_pos lv.m)
  have a5:dTot s.dues+tot (s.members.map MemD.bal)=dTot (lvX s t).2+tot ((lvX s t).1.map MemD.bal):=a2.symm
  omega
 refine xloop (γ:=LvG) ⟨0,h3,vp⟩ (fun y=>y.k≤M∧PH.le h3 y.h∧Ints y.h .u64 y.d (dpK (lvD s t) s.purses y.k)∧y.h bb=noC)
  (fun y=>[(66,.int .i64 y.k),(65,.int .i64 M),(64,.slice ra M rc),(0,.pointer (some ⟨bb,0,none⟩))])
  (fun y=>tB bb { s with exit:=R,members:=(lvX s t).1,dues:=(lvX s t).2.filter (ripB s.ep false),purses:=dpK (lvD s t) s.purses y.k } ⟨y.d,ovs om s.members.length,ve,ovs xo R.length,vo,.slice da ((lvX s t).2.filter (ripB s.ep false)).length dc,vt,vk,vr⟩ (lvR s r) { q with l := .slice wa N wc } w::tMo om (lvX s t).1 (oent 3 1 xo (R.map (.int .i64)) L)) (fun y=>y.h) (fun y=>M-y.k) ?_ ?_ ?_ ?_
 ·exact ⟨Nat.zero_le _,PH.le_refl _,hp.up (le01.trans (le2.trans le3)),hbb3⟩
 ·simp [Ent,List.lookup]
 ·exact Drop.refl _ _
 rintro ⟨k,h4,pv⟩ ⟨k1,le4,ip,hbb4⟩
 simp only at k1 le4 ip hbb4 ⊢
 obtain ⟨y1,y2,y3⟩:=dpK_ok ti.be.p hld k (by omega)
 by_cases c1:k<M
 ·obtain ⟨d,hdd⟩:∃ d,d=gr zeroDue (lvD s t) k:=⟨_,rfl⟩
  have hx:=hld d (by rw [hdd]; exact gr_mem (by omega))
  obtain ⟨z1,z2,z3⟩:=dpK_ok ti.be.p hld (k+1) (by omega)
  have eK:dpK (lvD s t) s.purses (k+1)=(dpK (lvD s t) s.purses k).set d.acct.toNat (at0 (dpK (lvD s t) s.purses k) d.acct.toNat+d.amt):=by rw [dpK,← hdd]
  have hroom:at0 (dpK (lvD s t) s.purses k) d.acct.toNat+d.amt≤4611686018427387904:=by
   have b1:=at0_le_tot z2 d.acct.toNat
   rw [eK,at0_set _ _ _ _ (by omega),if_pos rfl,← eK,z3] at b1
   have b2:=(sumK_le (l:=(lvD s t).map DueD.amt) (fun i=>at0_map DueD.amt _ (fun x hx=>(hld x hx).2.2) i) (k:=k+1) (by rw [List.length_map]; omega)).2
   have b3:tot ((lvD s t).map DueD.amt)=dTot (lvD s t):=rfl
   omega
  have hrs4:=hrs.up le4
  have ip':Ints h4 .u64 pv (dpK (lvD s t) s.purses k):=ip
  obtain ⟨PK',hPK⟩:∃ PK',PK'=dpK (lvD s t) s.purses k:=⟨_,rfl⟩
  rw [← hPK] at ip y1 eK hroom ⊢
  simp -dsimp -implicitDefEqProofs (disch:=first|with_reducible assumption|omega) [go_sem,↓idxR zeroDue (by decide) hrs4,dueC]
  rw [← hdd]
  refine xnew fun b9 n_b9 h_b9=>?_
  try simp only [Apart] at n_b9
  have n9:=n_b9.1
  clear n_b9
  simp -dsimp -implicitDefEqProofs (disch:=first|with_reducible assumption|omega) [go_sem,dueC]
  refine call_p1 (Spec.ap (tpay_any (s:={ s with exit:=R,members:=(lvX s t).1,dues:=(lvX s t).2.filter (ripB s.ep false),purses:=PK' }) (v:=⟨pv,ovs om s.members.length,ve,ovs xo R.length,vo,.slice da ((lvX s t).2.filter (ripB s.ep false)).length dc,vt,vk,vr⟩) ip (by show PK'.length≤1000; omega) d.acct (by show 0≤d.acct∧d.acct<PK'.length; omega) d.amt hx.2.2 hroom fun h5 r5 le5 i5 ap=>?_))
  have hbb5:h5 bb=noC:=ap.1
  clear ap
  refine xx ?_
  refine ⟨⟨k+1,h5,r5⟩,⟨by simp only; omega,le4.trans le5,by simp only; rw [eK]; exact i5,hbb5⟩,by simp only; omega,by simp [Ent,List.lookup],?_⟩
  simp only
  rw [eK]
  exact (Drop.perm _ (List.Perm.swap _ _ _)).trans (Drop.tail _ _ _)
 obtain rfl:M=k:=by omega
 have eS:lvS s t={ s with exit:=R,members:=(lvX s t).1,dues:=(lvX s t).2.filter (ripB s.ep false),purses:=dpK (lvD s t) s.purses M }:=by rw [hM,hR]; rfl
 have hk:=hk h4 xo pv (.slice da ((lvX s t).2.filter (ripB s.ep false)).length dc) (.slice wa N wc) (le01.trans (le2.trans (le3.trans le4))) (by rw [eS]; exact ok1) (by rw [eS]; exact ip) (by rw [eS]; exact j30.up le4) (iw0.up (le2.trans (le3.trans le4)))
 rw [eS] at hk
 refine xx ?_
 exact fin_here hk
theorem crTo_eq {p:ParD} {i:Nat} {a acct:Int} {x:CrX} {m:MemD} (hm:m=gr zeroM x.ms i):crTo p i a acct x=⟨x.ms.set i (credM p m a),x.ps.set acct.toNat (at0 x.ps acct.toNat+(a-crTake p m a)),if (credM p m a).status=m.status then x.en else x.en++[(i:Int)]⟩:=by rw [hm]; rfl
theorem tcredit_any {bb pn : Nat} {om oe : Option (Nat × Nat)} {s : StD} {v : SV} {r : RepD} {q : RV} {w : Int} {d : DepD} {ex : List Int} {T : Int} (ok : ParOk s.par) (hr : parR s.par = true) (hpn : pn ≤ 64) (cr : CrOk ex ⟨s.members,s.purses,s.entry⟩ pn T) (hT : T + d.amt ≤ 4611686018427387904) (hda : 0 ≤ d.amt) (hac : 0 ≤ d.acct ∧ d.acct < pn) (hmem : d.new = true ∨ (0 ≤ d.mem ∧ d.mem < s.members.length)) (hp : Ints h .u64 v.p s.purses) (hm : v.m = ovs om s.members.length) (okm : okO om s.members.length) (he : v.e = ovs oe s.entry.length) (oke : okO oe s.entry.length)
    (hk:∀ h' pv om' oe',PH.le h h'→okO om' (crStep s.par d ⟨s.members,s.purses,s.entry⟩).ms.length→okO oe' (crStep s.par d ⟨s.members,s.purses,s.entry⟩).en.length→Ints h' .u64 pv (crStep s.par d ⟨s.members,s.purses,s.entry⟩).ps →
      K (.tuple #[]) (tB bb { s with members:=(crStep s.par d ⟨s.members,s.purses,s.entry⟩).ms,purses:=(crStep s.par d ⟨s.members,s.purses,s.entry⟩).ps,entry:=(crStep s.par d ⟨s.members,s.purses,s.entry⟩).en } { v with p:=pv,m:=ovs om' (crStep s.par d ⟨s.members,s.purses,s.entry⟩).ms.length,e:=ovs oe' (crStep s.par d ⟨s.members,s.purses,s.entry⟩).en.length } r q w::tMo om' (crStep s.par d ⟨s.members,s.purses,s.entry⟩).ms (oent 3 1 oe' ((crStep s.par d ⟨s.members,s.purses,s.entry⟩).en.map (.int .i64)) L)) h') :
    Spec Tryz.prog 157 [.pointer (some ⟨bb,0,none⟩),depV d] (tB bb s v r q w::tMo om s.members (oent 3 1 oe (s.entry.map (.int .i64)) L)) h K:=by
  obtain ⟨vp,vm,ve,vx,vo,vd,vt,vk,vr⟩:=v
  simp only at hm hp he hk ⊢
  subst hm
  subst he
  have crl:=cr.l1
  have crp:=cr.l2
  have crn:=row_len cr.e
  have crt:=cr.t
  have crb:=cr.b.bal
  have crq:=cr.b.pur
  simp only at crl crp crn crt crb crq
  have crs:=crStep_ok ok (p:=s.par) (by omega) cr hda hac hmem
  obtain ⟨X,hX⟩:∃ X,X=crStep s.par d ⟨s.members,s.purses,s.entry⟩:=⟨_,rfl⟩
  rw [← hX] at crs hk
  have xt:=crs.t
  have xb:=crs.b.bal
  have xp:=(crs.b.le d.acct.toNat).2
  refine x_enterA Tryz.func157 rfl (rs:=[]) rfl rfl mixed (by kernel_rfl) rfl rfl fun ap nd=>?_
  have hbb:h bb=noC:=ap.1
  have hom:apO om [] h:=ap_here ap.2
  have nmb:apB om bb:=apart_here nd.1
  clear ap nd
  refine xx ?_
  refine xnew fun b3 n_b3 h_b3=>?_
  try simp only [Apart] at n_b3
  have n3b:=n_b3.1
  have nm3:apB om b3:=apart_here n_b3.2
  clear n_b3
  refine xx ?_
  cases hnew:d.new with
  | true =>
    have eX:X=if 128≤s.members.length then ⟨s.members,s.purses.set d.acct.toNat (at0 s.purses d.acct.toNat+d.amt),s.entry⟩ else crTo s.par s.members.length d.amt d.acct ⟨s.members++[⟨0,0,0,0,d.acct,4⟩],s.purses,s.entry⟩:=by rw [hX,crStep,hnew,if_pos rfl]
    obtain ⟨ma,mc,em,_⟩:=ovs_open okm
    by_cases c1:128≤s.members.length
    · rw [if_pos c1] at eX
      rw [eX] at hk xp xt
      simp only at hk xp xt
      rw [at0_set _ _ _ _ (by omega),if_pos rfl] at xp
      have b0:=cr.b.bal
      simp only at b0
      simp -dsimp -implicitDefEqProofs (disch:=first|with_reducible assumption|omega) [go_sem,em]
      rw [← em]
      refine call_p1 (tpay_any (s:=s) hp (by omega) d.acct (by omega) d.amt hda (by omega) fun h1 r1 le1 i1=>?_)
      refine xx ?_
      exact ⟨_,_,(Drop.perm _ (List.Perm.swap _ _ _)).trans (Drop.tail _ _ _),hk h1 r1 om oe le1 okm oke i1⟩
    rw [if_neg c1] at eX
    simp -dsimp -implicitDefEqProofs (disch:=first|with_reducible assumption|omega) [go_sem,em]
    rw [← em]
    refine xany_cut (.tk 0 (.tk 1 (.tk 2 (.tk 3 (.tk 4 (.tk 6 (.tkl 5 (.tkl 7 (.tk 8 (.or true 9 (.or true 10 (.tk 11 (.tk 12 (.tk 13 (.or false 14 (.fin) (.nil))))) (.nil)) (.nil))))))))))) (by kernel_rfl) (by kernel_rfl) [(0,.pointer (some ⟨bb,0,none⟩)),(3,.pointer (some ⟨b3,0,none⟩)),(4,.int .i64 s.members.length)] [_,_] (γ:=Option (Nat×Nat)) (fun om'=>okO om' (s.members.length+1)∧apO om' [] h∧apB om' bb∧apB om' b3) (fun _=>[(0,.pointer (some ⟨bb,0,none⟩)),(3,.pointer (some ⟨b3,0,none⟩)),(4,.int .i64 s.members.length)])
      (fun om'=>⟨b3,139,[.int .i64 d.acct,.int .i64 d.mem,.int .u64 d.amt,.bool true],4⟩::tB bb s ⟨vp,ovs om' (s.members.length+1),ovs oe s.entry.length,vx,vo,vd,vt,vk,vr⟩ r q w::tMo om' (s.members++[⟨0,0,0,0,d.acct,4⟩]) (oent 3 1 oe (s.entry.map (.int .i64)) L)) (fun _=>h) (by simp [Ent,List.lookup,xEnv]) drop2Z ?_ ?_
    · refine xx ?_
      refine xnew fun b40 n_b40 h_b40=>?_
      try simp only [Apart] at n_b40
      refine xkp ((Drop.tail _ _ _).trans drop2Z) ?_
      refine xx ?_
      refine xappend (t:=31) (e:=73) (sz:=6) (bytes:=48) (by kernel_rfl) tI_73 rfl rfl rfl rfl (by decide) [_,_,_] _ om s.members.length (s.members.flatMap memC) okm (flatG_len memC_len _) (Src.own (b:=b40) (t:=73) (cap:=6) List.mem_cons_self) (m:=1) (news:=memC ⟨0,0,0,0,d.acct,4⟩) rfl (memC_one _) (by simp [maxLen]; omega) (by omega) ?_
      intro om' j1 j2 j3
      simp only [List.cons_append,List.nil_append] at j2 ⊢
      refine xkp ((Drop.tail _ _ _).trans drop2Z) ?_
      refine xx ?_
      refine ⟨om',⟨j1,?_,?_,?_⟩,by simp [Ent,List.lookup],?_⟩
      · cases om' with
        | none=>trivial
        | some p=>exact ⟨trivial,j2.2⟩
      · cases om' with
        | none=>trivial
        | some p=>exact Ne.symm j2.1.2.2.1
      · cases om' with
        | none=>trivial
        | some p=>exact Ne.symm j2.1.2.1
      · simp only [tMo,List.flatMap_append,List.flatMap_cons,List.flatMap_nil,List.append_nil]
        exact Drop.tail _ _ _
    rintro om' ⟨okm',hom',nmb',nm3'⟩
    clear hom nmb nm3 em
    obtain ⟨bm,cm,rfl⟩:∃ bm cm,om'=some (bm,cm):=by
      cases om' with
      | none=>have:s.members.length+1=0:=okm'; omega
      | some p=>exact ⟨_,_,rfl⟩
    obtain ⟨MS,hMS⟩:∃ MS,MS=s.members++[(⟨0,0,0,0,d.acct,4⟩:MemD)]:=⟨_,rfl⟩
    obtain ⟨I,hI⟩:∃ I,I=s.members.length:=⟨_,rfl⟩
    have hIl:I<MS.length:=by rw [hMS,List.length_append,hI]; simp
    have eMl:s.members.length+1=MS.length:=by rw [hMS,List.length_append]; rfl
    rw [← hMS,← hI] at eX
    rw [← hMS]
    rw [eMl] at okm' ⊢
    rw [← hI]
    have hMo:∀ x∈MS,MemOk x:=fun y hy=>by
      rw [hMS] at hy
      rcases List.mem_append.1 hy with hy | hy
      · exact cr.b.m y hy
      · rw [List.mem_singleton] at hy
        subst hy
        exact ⟨fun z hz=>by simp at hz; omega,fun z hz=>by
          simp only [List.mem_cons,List.not_mem_nil,or_false] at hz
          rcases hz with rfl | rfl | rfl<;>omega⟩
    have hMt:tot (MS.map MemD.bal)=tot (s.members.map MemD.bal):=by
      rw [hMS]
      simp only [List.map_append,List.map_cons,List.map_nil,tot_append,tot_cons',tot_nil]
      omega
    have hMl:MS.length≤128:=by rw [← eMl]; omega
    have hbm:h bm=noC:=hom'.2
    have e1:NeB bb b3:=n3b
    have e2:NeB bm b3:=nm3'
    have e3:NeB bb bm:=Ne.symm nmb'
    have e4:NeB b3 bm:=Ne.symm nm3'
    have e5:NeB b3 bb:=Ne.symm n3b
    clear n3b nm3' nmb' hom'
    obtain ⟨m,hmm⟩:∃ m,m=gr zeroM MS I:=⟨_,rfl⟩
    have mo:MemOk m:=hMo m (by rw [hmm]; exact gr_mem hIl)
    have ub:=mo.u m.bal (by simp)
    have hbt:=at0_le_tot (bal_pos hMo) I
    rw [at0_bal hIl,← hmm] at hbt
    obtain ⟨g1',g2',g3',g4',g5',g6'⟩:=credM_ok ok mo hda
    rw [crTo_eq hmm] at eX
    rw [eX] at hk xp xt xb
    simp only at hk xp xt xb
    rw [at0_set _ _ _ _ (by omega),if_pos rfl] at xp
    have hg:=memT hIl
    rw [← hmm] at hg
    obtain ⟨g0,g1,g2,g3,g4,g5⟩:=hg
    have hi6:=flat_lt (w:=6) hIl (show 5<6 by decide)
    have hsm:=memS (ms:=MS) rfl
    simp only [tMo,oent_some,ovs_some]
    simp -dsimp -implicitDefEqProofs (disch:=first|with_reducible assumption|omega) [go_sem,g5]
    obtain ⟨M,hM⟩:∃ M,M=credM s.par m d.amt:=⟨_,rfl⟩
    obtain ⟨Z,hZ⟩:∃ Z,Z=d.amt-crTake s.par m d.amt:=⟨_,rfl⟩
    rw [← hM] at hk xt xb g6'
    rw [← hZ] at hk xp xt
    refine xany_cut (.tk 0 (.tk 1 (.tk 2 (.tk 3 (.tk 5 (.tk 6 (.tk 7 (.tk 8 (.tk 10 (.tk 13 (.tkl 4 (.tkl 9 (.tk 11 (.tkl 12 (.tkl 14 (.or true 15 (.tk 16 (.tk 17 (.tk 18 (.or true 19 (.or false 20 (.tk 21 (.fin)) (.nil)) (.nil))))) (.or true 19 (.or true 15 (.tk 16 (.tk 17 (.tk 18 (.or false 20 (.tk 21 (.fin)) (.nil))))) (.nil)) (.nil)))))))))))))))))) (by kernel_rfl) (by kernel_rfl) [(0,.pointer (some ⟨bb,0,none⟩)),(3,.pointer (some ⟨b3,0,none⟩)),(4,.int .i64 I),(5,.int .i64 m.status)] _ (γ:=Nat) (fun b6=>bb≠b6∧bm≠b6∧b3≠b6∧h b6=noC)
      (fun b6=>[(0,.pointer (some ⟨bb,0,none⟩)),(3,.pointer (some ⟨b3,0,none⟩)),(4,.int .i64 I),(5,.int .i64 m.status),(6,.pointer (some ⟨b6,0,none⟩)),(7,.int .u64 Z)])
      (fun b6=>⟨b6,73,memC M,6⟩::⟨b3,139,[.int .i64 d.acct,.int .i64 d.mem,.int .u64 d.amt,.bool true],4⟩::tB bb s ⟨vp,.slice (some ⟨bm,0,none⟩) MS.length cm,ovs oe s.entry.length,vx,vo,vd,vt,vk,vr⟩ r q w::tM bm cm MS::oent 3 1 oe (s.entry.map (.int .i64)) L) (fun _=>h) (by simp [Ent,List.lookup,xEnv]) (Drop.refl _ _) ?_ ?_
    · repeat' first
        | with_reducible refine xpl_or ?_ ?_
        | simp -dsimp -implicitDefEqProofs (disch:=first|with_reducible assumption|omega) [go_sem,g0,g1,g2,g3,g4,g5]
        | (with_reducible refine xnew fun b6 n_b6 h_b6 => ?_
           simp only [Apart] at n_b6)
        | (with_reducible show xCall Tryz.prog 268 _ _ _ _
           refine mcredit_any s.par ok hr m mo d.amt ⟨hda,by omega⟩ (by omega) ?_
           rw [← hM,← hZ])
        | with_reducible refine xkp (Drop.refl _ _) ?_
        | with_reducible refine xkp (Drop.tail _ _ _) ?_
        | fail
      all_goals exact ⟨b6,⟨n_b6.2.1,n_b6.2.2.1,n_b6.1,h_b6⟩,by simp [Ent,List.lookup],Drop.refl _ _⟩
    rintro b6 ⟨n6b,n6m,n63,h6⟩
    have f1:NeB bb b6:=n6b
    have f2:NeB bm b6:=n6m
    have f3:NeB b3 b6:=n63
    have f4:NeB b6 bb:=Ne.symm n6b
    have f5:NeB b6 bm:=Ne.symm n6m
    have f6:NeB b6 b3:=Ne.symm n63
    clear n6b n6m n63
    simp only [memC]
    refine xx ?_
    refine xanyl (.tk 0 (.tk 1 (.tk 2 (.tk 3 (.tk 5 (.tkl 4 (.tkl 6 (.tk 7 (.or false 8 (.fin) (.nil)))))))))) (by kernel_rfl) (by kernel_rfl) _ (Drop.refl _ _) ?_
    refine xx ?_
    refine ⟨by omega,?_⟩
    have hset:((((((MS.flatMap memC).set (I*6) (Value.int .u64 M.bal)).set (I*6+1) (.int .u64 M.eff)).set (I*6+1+1) (.int .u64 M.score)).set (I*6+1+1+1) (.int .i64 M.streak)).set (I*6+1+1+1+1) (.int .i64 M.owner)).set (I*6+1+1+1+1+1) (.int .i64 M.status)=(MS.set I M).flatMap memC:=flatG_wr memC_len MS hIl M
    first
    | rw [hset]
    | (have hset' := hset
       simp only [memC] at hset'
       rw [hset'])
    try simp -dsimp -implicitDefEqProofs (disch:=first|with_reducible assumption|omega) [go_sem]
    refine call_p2 (Spec.ap (tpay_any (s:={ s with members:=MS.set I M }) (v:=⟨vp,.slice (some ⟨bm,0,none⟩) MS.length cm,ovs oe s.entry.length,vx,vo,vd,vt,vk,vr⟩) hp (by show s.purses.length≤1000; omega) d.acct (by show 0≤d.acct∧d.acct<s.purses.length; omega) Z (by omega) (by show at0 s.purses d.acct.toNat+Z≤_; omega) fun h1 r1 le1 i1 ap=>?_))
    have hbb1:h1 bb=noC:=ap.1
    have hb61:h1 b6=noC:=ap.2.1
    have hb31:h1 b3=noC:=ap.2.2.1
    clear ap
    try simp only
    refine xx ?_
    have hMl2:(MS.set I M).length=MS.length:=List.length_set
    by_cases c2:M.status=m.status
    · rw [if_pos c2] at hk
      have hk:=hk h1 r1 (some (bm,cm)) oe le1 (by rw [hMl2]; exact okm') oke i1
      rw [hMl2] at hk
      refine xx ?_
      exact ⟨_,_,(Drop.perm _ (List.perm_middle (l₁:=[_,_])).symm).trans ((Drop.tail _ _ _).trans (Drop.tail _ _ _)),hk⟩
    · rw [if_neg c2] at hk
      refine xx ?_
      refine xnew fun b98 n_b98 h_b98=>?_
      try simp only [Apart] at n_b98
      have f7:NeB b98 bb:=Ne.symm n_b98.1
      clear n_b98
      refine xx ?_
      refine xappend (t:=32) (e:=3) (sz:=1) (bytes:=8) (z:=[.int .i64 0]) (by kernel_rfl) tI_3 rfl rfl rfl rfl (by decide) [_,_,_,_,_] _ oe s.entry.length (s.entry.map (.int .i64)) oke (by simp) (Src.own (b:=b98) (t:=3) (cap:=1) List.mem_cons_self) (m:=1) (news:=[.int .i64 I]) rfl (fun u hu=>by simp at hu; subst hu; rfl) (by simp [maxLen]; omega) (by omega) ?_
      intro oe' j1 j2 j3
      simp only [List.cons_append,List.nil_append]
      refine xx ?_
      have hk:=hk h1 r1 (some (bm,cm)) oe' le1 (by rw [hMl2]; exact okm') (by simpa using j1) i1
      rw [hMl2] at hk
      simp only [List.map_append,List.map_cons,List.map_nil,List.length_append,List.length_singleton] at hk
      exact fin_tail ⟨_,_,(Drop.perm _ (List.perm_middle (l₁:=[_,_])).symm).trans ((Drop.tail _ _ _).trans (Drop.tail _ _ _)),hk⟩
  | false =>
    have hme:0≤d.mem∧d.mem<s.members.length:=by
      rcases hmem with c | c
      · rw [hnew] at c; cases c
      · exact c
    obtain ⟨I,hI⟩:=Int.eq_ofNat_of_zero_le hme.1
    have eX:X=crTo s.par I d.amt d.acct ⟨s.members,s.purses,s.entry⟩:=by rw [hX,crStep,hnew,if_neg (by decide),hI,Int.toNat_natCast]
    obtain ⟨bm,cm,rfl⟩:∃ bm cm,om=some (bm,cm):=by
      cases om with
      | none=>have:s.members.length=0:=okm; omega
      | some p=>exact ⟨_,_,rfl⟩
    have okm':=okm
    have hom':=hom
    have nmb':=nmb
    have nm3':=nm3
    clear hom nmb nm3
    obtain ⟨MS,hMS⟩:∃ MS,MS=s.members:=⟨_,rfl⟩
    have hIl:I<MS.length:=by rw [hMS]; omega
    rw [← hMS] at eX okm'
    rw [← hMS]
    have hMo:∀ x∈MS,MemOk x:=fun y hy=>cr.b.m y (by rw [hMS] at hy; exact hy)
    have hMt:tot (MS.map MemD.bal)=tot (s.members.map MemD.bal):=by rw [hMS]
    have hMl:MS.length≤128:=by rw [hMS]; omega
    rw [hI]
    have hbm:h bm=noC:=hom'.2
    have e1:NeB bb b3:=n3b
    have e2:NeB bm b3:=nm3'
    have e3:NeB bb bm:=Ne.symm nmb'
    have e4:NeB b3 bm:=Ne.symm nm3'
    have e5:NeB b3 bb:=Ne.symm n3b
    clear n3b nm3' nmb' hom'
    obtain ⟨m,hmm⟩:∃ m,m=gr zeroM MS I:=⟨_,rfl⟩
    have mo:MemOk m:=hMo m (by rw [hmm]; exact gr_mem hIl)
    have ub:=mo.u m.bal (by simp)
    have hbt:=at0_le_tot (bal_pos hMo) I
    rw [at0_bal hIl,← hmm] at hbt
    obtain ⟨g1',g2',g3',g4',g5',g6'⟩:=credM_ok ok mo hda
    rw [crTo_eq hmm] at eX
    rw [eX] at hk xp xt xb
    simp only at hk xp xt xb
    rw [at0_set _ _ _ _ (by omega),if_pos rfl] at xp
    have hg:=memT hIl
    rw [← hmm] at hg
    obtain ⟨g0,g1,g2,g3,g4,g5⟩:=hg
    have hi6:=flat_lt (w:=6) hIl (show 5<6 by decide)
    have hsm:=memS (ms:=MS) rfl
    simp only [tMo,oent_some,ovs_some]
    simp -dsimp -implicitDefEqProofs (disch:=first|with_reducible assumption|omega) [go_sem,g5]
    obtain ⟨M,hM⟩:∃ M,M=credM s.par m d.amt:=⟨_,rfl⟩
    obtain ⟨Z,hZ⟩:∃ Z,Z=d.amt-crTake s.par m d.amt:=⟨_,rfl⟩
    rw [← hM] at hk xt xb g6'
    rw [← hZ] at hk xp xt
    refine xany_cut (.tk 0 (.tk 1 (.tk 2 (.tk 3 (.tk 5 (.tk 6 (.tk 7 (.tk 8 (.tk 10 (.tk 13 (.tkl 4 (.tkl 9 (.tk 11 (.tkl 12 (.tkl 14 (.or true 15 (.tk 16 (.tk 17 (.tk 18 (.or true 19 (.or false 20 (.tk 21 (.fin)) (.nil)) (.nil))))) (.or true 19 (.or true 15 (.tk 16 (.tk 17 (.tk 18 (.or false 20 (.tk 21 (.fin)) (.nil))))) (.nil)) (.nil)))))))))))))))))) (by kernel_rfl) (by kernel_rfl) [(0,.pointer (some ⟨bb,0,none⟩)),(3,.pointer (some ⟨b3,0,none⟩)),(4,.int .i64 I),(5,.int .i64 m.status)] _ (γ:=Nat) (fun b6=>bb≠b6∧bm≠b6∧b3≠b6∧h b6=noC)
      (fun b6=>[(0,.pointer (some ⟨bb,0,none⟩)),(3,.pointer (some ⟨b3,0,none⟩)),(4,.int .i64 I),(5,.int .i64 m.status),(6,.pointer (some ⟨b6,0,none⟩)),(7,.int .u64 Z)])
      (fun b6=>⟨b6,73,memC M,6⟩::⟨b3,139,[.int .i64 d.acct,.int .i64 I,.int .u64 d.amt,.bool false],4⟩::tB bb s ⟨vp,.slice (some ⟨bm,0,none⟩) MS.length cm,ovs oe s.entry.length,vx,vo,vd,vt,vk,vr⟩ r q w::tM bm cm MS::oent 3 1 oe (s.entry.map (.int .i64)) L) (fun _=>h) (by simp [Ent,List.lookup,xEnv]) (Drop.refl _ _) ?_ ?_
    · repeat' first
        | with_reducible refine xpl_or ?_ ?_
        | simp -dsimp -implicitDefEqProofs (disch:=first|with_reducible assumption|omega) [go_sem,g0,g1,g2,g3,g4,g5]
        | (with_reducible refine xnew fun b6 n_b6 h_b6 => ?_
           simp only [Apart] at n_b6)
        | (with_reducible show xCall Tryz.prog 268 _ _ _ _
           refine mcredit_any s.par ok hr m mo d.amt ⟨hda,by omega⟩ (by omega) ?_
           rw [← hM,← hZ])
        | with_reducible refine xkp (Drop.refl _ _) ?_
        | with_reducible refine xkp (Drop.tail _ _ _) ?_
        | fail
      all_goals exact ⟨b6,⟨n_b6.2.1,n_b6.2.2.1,n_b6.1,h_b6⟩,by simp [Ent,List.lookup],Drop.refl _ _⟩
    rintro b6 ⟨n6b,n6m,n63,h6⟩
    have f1:NeB bb b6:=n6b
    have f2:NeB bm b6:=n6m
    have f3:NeB b3 b6:=n63
    have f4:NeB b6 bb:=Ne.symm n6b
    have f5:NeB b6 bm:=Ne.symm n6m
    have f6:NeB b6 b3:=Ne.symm n63
    clear n6b n6m n63
    simp only [memC]
    refine xx ?_
    refine xanyl (.tk 0 (.tk 1 (.tk 2 (.tk 3 (.tk 5 (.tkl 4 (.tkl 6 (.tk 7 (.or false 8 (.fin) (.nil)))))))))) (by kernel_rfl) (by kernel_rfl) _ (Drop.refl _ _) ?_
    refine xx ?_
    refine ⟨by omega,?_⟩
    have hset:((((((MS.flatMap memC).set (I*6) (Value.int .u64 M.bal)).set (I*6+1) (.int .u64 M.eff)).set (I*6+1+1) (.int .u64 M.score)).set (I*6+1+1+1) (.int .i64 M.streak)).set (I*6+1+1+1+1) (.int .i64 M.owner)).set (I*6+1+1+1+1+1) (.int .i64 M.status)=(MS.set I M).flatMap memC:=flatG_wr memC_len MS hIl M
    first
    | rw [hset]
    | (have hset' := hset
       simp only [memC] at hset'
       rw [hset'])
    try simp -dsimp -implicitDefEqProofs (disch:=first|with_reducible assumption|omega) [go_sem]
    refine call_p2 (Spec.ap (tpay_any (s:={ s with members:=MS.set I M }) (v:=⟨vp,.slice (some ⟨bm,0,none⟩) MS.length cm,ovs oe s.entry.length,vx,vo,vd,vt,vk,vr⟩) hp (by show s.purses.length≤1000; omega) d.acct (by show 0≤d.acct∧d.acct<s.purses.length; omega) Z (by omega) (by show at0 s.purses d.acct.toNat+Z≤_; omega) fun h1 r1 le1 i1 ap=>?_))
    have hbb1:h1 bb=noC:=ap.1
    have hb61:h1 b6=noC:=ap.2.1
    have hb31:h1 b3=noC:=ap.2.2.1
    clear ap
    try simp only
    refine xx ?_
    have hMl2:(MS.set I M).length=MS.length:=List.length_set
    by_cases c2:M.status=m.status
    · rw [if_pos c2] at hk
      have hk:=hk h1 r1 (some (bm,cm)) oe le1 (by rw [hMl2]; exact okm') oke i1
      rw [hMl2] at hk
      refine xx ?_
      exact ⟨_,_,(Drop.perm _ (List.perm_middle (l₁:=[_,_])).symm).trans ((Drop.tail _ _ _).trans (Drop.tail _ _ _)),hk⟩
    · rw [if_neg c2] at hk
      refine xx ?_
      refine xnew fun b98 n_b98 h_b98=>?_
      try simp only [Apart] at n_b98
      have f7:NeB b98 bb:=Ne.symm n_b98.1
      clear n_b98
      refine xx ?_
      refine xappend (t:=32) (e:=3) (sz:=1) (bytes:=8) (z:=[.int .i64 0]) (by kernel_rfl) tI_3 rfl rfl rfl rfl (by decide) [_,_,_,_,_] _ oe s.entry.length (s.entry.map (.int .i64)) oke (by simp) (Src.own (b:=b98) (t:=3) (cap:=1) List.mem_cons_self) (m:=1) (news:=[.int .i64 I]) rfl (fun u hu=>by simp at hu; subst hu; rfl) (by simp [maxLen]; omega) (by omega) ?_
      intro oe' j1 j2 j3
      simp only [List.cons_append,List.nil_append]
      refine xx ?_
      have hk:=hk h1 r1 (some (bm,cm)) oe' le1 (by rw [hMl2]; exact okm') (by simpa using j1) i1
      rw [hMl2] at hk
      simp only [List.map_append,List.map_cons,List.map_nil,List.length_append,List.length_singleton] at hk
      exact fin_tail ⟨_,_,(Drop.perm _ (List.perm_middle (l₁:=[_,_])).symm).trans ((Drop.tail _ _ _).trans (Drop.tail _ _ _)),hk⟩
end Go.X

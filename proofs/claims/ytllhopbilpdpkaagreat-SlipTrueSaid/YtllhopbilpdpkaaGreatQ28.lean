/- Lemmas and contracts. Conditions: as each says. -/
import Derived.Test.YtllhopbilpdpkaaGreatQ27
set_option linter.unusedVariables false
set_option linter.unusedSimpArgs false
set_option maxHeartbeats 12800000
set_option maxRecDepth 20000
namespace Go.X
open Go.RowKit Go.Proofs Go.Bl Go.Proofs.Tryz
variable {L:Own} {h:PH} {K:PK}
theorem permM {e0 s0:Nat}{o0:Option (Nat×Nat)}{X0:List Value}{a b c d x:Zm}{L:Own}:(a::b::c::d::x::oent e0 s0 o0 X0 L).Perm (x::oent e0 s0 o0 X0 (d::b::a::c::L)):=by
 have h1:(a::b::c::d::x::oent e0 s0 o0 X0 L).Perm (x::a::b::c::d::oent e0 s0 o0 X0 L):=List.perm_middle (l₁:=[a,b,c,d]);refine h1.trans (List.Perm.cons _ ?_);have h2:(a::b::c::d::L).Perm (d::a::b::c::L):=List.perm_middle (l₁:=[a,b,c]);exact(Yj [a,b,c,d]).trans (Z5 o0 X0 (h2.trans (List.Perm.cons _ (List.Perm.swap _ _ _))))
theorem Zrc {s:Zd}{r:Zi}{k:Nat}{i:Nat}{m:Zb}{a:Int}(e1:(mtX s r (k+1)).1=(mtX s r k).1.set i (VK s.par m a).1)(e2:(mtX s r (k+1)).2=(mtX s r k).2.set m.owner.toNat (at0 (mtX s r k).2 m.owner.toNat+(VK s.par m a).2))(e3:Yy (mtP s r) (k+1)=Yy (mtP s r) k+a) :
  Zew s r (k+1)={ Zew s r k with treas:=(Zew s r k).treas-a,members:=(mtX s r k).1.set i (VK s.par m a).1,purses:=(mtX s r k).2.set m.owner.toNat (at0 (mtX s r k).2 m.owner.toNat+(VK s.par m a).2) }∧Ydb s r (k+1)={ Ydb s r k with paid:=(Ydb s r k).paid+a }:=by
 constructor
 ·show ({ s with mint:=s.mint+mtN s r,treas:=s.treas+mtN s r-Yy (mtP s r) (k+1),members:=(mtX s r (k+1)).1,purses:=(mtX s r (k+1)).2 }:Zd)={ s with mint:=s.mint+mtN s r,treas:=s.treas+mtN s r-Yy (mtP s r) k-a,members:=(mtX s r k).1.set i (VK s.par m a).1,purses:=(mtX s r k).2.set m.owner.toNat (at0 (mtX s r k).2 m.owner.toNat+(VK s.par m a).2) };rw[e1,e2,e3,Int.sub_sub]
 ·show ({ r with mint:=mtN s r,paid:=r.paid+Yy (mtP s r) (k+1) }:Zi)={ r with mint:=mtN s r,paid:=r.paid+Yy (mtP s r) k+a };rw[e3,Int.add_assoc]
theorem Ztp {bb D:Nat}{om:Option (Nat×Nat)}{s:Zd}{v:SV}{r:Zi}{q:RV}{w:Int}(ti:Zp s D)(ha:0≤r.act∧r.act≤18446744073709551615)(hp0:r.paid=0)(hv:Yit v)(hp:Ints h .u64 v.p s.purses)(hk0:Ints h .u8 v.k s.marks)(hm:v.m=ovs om s.members.length)(okm:okO om s.members.length)
  (hk:∀h' pv,PH.le h h'→Ints h' .u64 pv (mtS s r).purses→K (.tuple #[]) (tB bb (mtS s r) { v with p:=pv } (mtR s r) q w::tMo om (mtS s r).members L) h') :
  Zc prog 84 [.pointer (some ⟨bb,0,none⟩)] (tB bb s v r q w::tMo om s.members L) h K:=by
 obtain⟨vp,vm,ve,vx,vo,vd,vt,vk,vr⟩:=v;simp only at hm hk0 hp hk ⊢;subst hm;have hml:=ti.ml;have ht:=ti.top;have u1:=ti.ok.u s.gen (by simp);have u2:=ti.ok.u s.mint (by simp);have u3:=ti.ok.u s.most (by simp);have u4:=ti.ok.u s.treas (by simp);have hn:=Yla ti ha;have hsum:=ti.sum;obtain⟨p1,p2,p3,p4,p5,p6⟩:=ti.parts;obtain⟨n,en⟩:∃n,n=mtN s r:=⟨_,rfl⟩
 have hv1:=hv;unfold Yit at hv1;simp only at hv1;obtain⟨o1,o2,o3,o4,o5,o6,o7,o8,o9⟩:=hv1;refine Z3 func84 rfl (rs:=[]) rfl rfl ZW (by kernel_rfl) rfl rfl fun ap nd=>?_;have hbb:h bb=noC:=ap.1;have hbm:apO om [] h:=YH ap.2;have nmb:apB om bb:=Yp nd.1;clear ap nd;refine xx ?_;refine Z2 fun bx n_bx h_bx=>?_;(try simp only[ZT]at n_bx);have nbx:=n_bx.1;have nmx:apB om bx:=Yp n_bx.2;clear n_bx;refine xx ?_;refine Yn (.tkl 0 (.tk 1 (.tk 2 (.tk 3 (.tkl 4 (.tkl 5 (.tk 6 (.tk 7 (.tk 8 (.tkl 9 (.tkl 10 (.tk 11 (.tk 12 (.tk 13 (.tkl 14 (.tkl 15 (.tk 16 (.tk 17 (.tk 18 (.tkl 19 (.tk 20 (.tkl 21 (.tk 22 (.tk 23 (.tk 24 (.tkl 25 (.tkl 26 (.tk 27 (.tk 28 (.tk 29 (.tkl 30 (.o1 31 (.tk 32 (.fin)) (.nil))))))))))))))))))))))))))))))))) (by kernel_rfl) (by kernel_rfl) _ (Za.refl _ _) ?_;refine xx ?_;refine Zc.ap (GK s.par ti.ok.p ti.r r.act (s.gen+s.mint) s.most r.mode ha (by omega) (by omega) fun h1 le1 ap=>?_);have hbx1:h1 bx=noC:=ap.1;have hbb1:h1 bb=noC:=ap.2.1;have hbm1:apO om [] h1:=YH ap.2.2;clear ap;rw[show JO s.par r.act (s.gen+s.mint) s.most r.mode=n from en.symm];rw[← en]at hn
 first
 | refine xkp (Za.forget le1) ?_
 | skip
 refine xx ?_;refine Zc.ap (Zvm (s:=s) ⟨vp,ovs om s.members.length,ve,vx,vo,vd,vt,vk,vr⟩ hv ti.ok n (by omega) (fun _ h2 le2 ap=>?_) (fun hno=>absurd ?_ hno))
 rotate_left
 ·have e:tot [s.gen,s.mint,n]=s.gen+s.mint+n:=by simp [tot,Yy,at0]
  refine⟨?_,by omega⟩;rw[e];omega
 have hbx2:h2 bx=noC:=ap.1;have hbb2:h2 bb=noC:=ap.2.1;have hbm2:apO om [] h2:=YH ap.2.2;clear ap;refine xx ?_;refine Z2 fun b3 nb3 zb3=>?_;(try simp only[ZT]at nb3);have n3x:=nb3.1;have n3b:=nb3.2.1;clear nb3;obtain⟨V,eV⟩:∃V:SV,V=⟨vp,ovs om s.members.length,ve,vx,vo,vd,vt,vk,vr⟩:=⟨_,rfl⟩
 simp -dsimp -implicitDefEqProofs (disch:=first|with_reducible assumption|omega) [go_sem,o1,o2,o3,o4,o5,o6,o7,o8,o9];refine WH (.tk 3 (.tkl 0 (.tkl 2 (.tk 4 (.tk 5 (.o1 1 (.o2 6 (.tk 7 (.tk 8 (.tk 9 (.o2 10 (.fin) (.nil))))) (.nil)) (.o2 6 (.o1 1 (.tk 7 (.tk 8 (.tk 9 (.o2 10 (.fin) (.nil))))) (.nil)) (.nil)))))))) (by kernel_rfl) (by kernel_rfl) [(1,.pointer (some ⟨bx,0,none⟩)),(2,.int .u64 n),(3,.pointer (some ⟨b3,0,none⟩))] _ (γ:=Unit) (fun _=>True) (fun _=>[(1,.pointer (some ⟨bx,0,none⟩)),(2,.int .u64 n)])
  (fun _=>⟨b3,34,stC (Zjh s n) V,41⟩::tX bx bb::tB bb (Zjh s n) V { r with mint:=n } q w::tMo om s.members L) (fun _=>h2) (by simp [Ent,List.lookup,Wo]) (Za.refl _ _) ?_ ?_
 ·subst eV
  repeat' first
   | with_reducible refine Y4 ?_ ?_
   | simp -dsimp -implicitDefEqProofs (disch:=first|with_reducible assumption|omega) [go_sem,o1,o2,o3,o4,o5,o6,o7,o8,o9]
   | with_reducible refine xkp (Za.refl _ _) ?_
   | fail
  all_goals exact⟨by simp [Ent,List.lookup],Za.refl _ _⟩
 rintro _ _;refine xx ?_;refine Z2 fun b5 nb5 zb5=>?_;(try simp only[ZT]at nb5);have n53:=nb5.1;have n5x:=nb5.2.1;have n5b:=nb5.2.2.1;have n5m:apB om b5:=Yp nb5.2.2.2;clear nb5;refine xx ?_;refine Z2 fun b6 nb6 zb6=>?_;(try simp only[ZT]at nb6);have n65:=nb6.1;have n63:=nb6.2.1;have n6x:=nb6.2.2.1;have n6b:=nb6.2.2.2.1;clear nb6;refine xx ?_;have tk0:=Zku ti ha (Nat.zero_le (mtW s).length);have e0:Zew s r 0=Zjh s n:=by
  rw[en];show ({ s with mint:=s.mint+mtN s r,treas:=s.treas+mtN s r-Yy (mtP s r) 0 }:Zd)=_;rw[show Yy (mtP s r) 0=0 from rfl,Int.sub_zero]
  rfl
 have e1:Ydb s r 0={ r with mint:=n }:=by
  rw[en];show ({ r with mint:=mtN s r,paid:=r.paid+Yy (mtP s r) 0 }:Zi)=_;rw[show Yy (mtP s r) 0=0 from rfl,Int.add_zero]
 rw[e0]at tk0;have eWm:(mtW (Zjh s n)).length=(mtW s).length:=rfl;have le12:=le1.trans le2;obtain⟨N,hN⟩:∃N,N=(mtW s).length:=⟨_,rfl⟩
 have hNl:(Zbc s s.members.length).length=N∧(mtL s s.members.length).length=N:=by
  have:=GD s s.members.length;rw[hN];exact⟨by rw[this.1,this.2.2];rfl,this.2.2⟩
 have hN128:N≤128:=by
  have:=(GD s s.members.length).2.1;omega
 refine Zc.apn (Zc.fin (Zc.weaken (Za.perm _ permM) (Zc.apn (Zjf (s:=Zjh s n) (v:=V) (r:={ r with mint:=n }) (bx:=bx) (b5:=b5) (b6:=b6) tk0 (by rw[eV];exact hk0.up le12) (by rw[eV];rfl) okm hbb2 hbm2 nmb fun ow ol j1 j2 ap nd=>⟨_,Gn (Gn h2 ow ((Zbc s s.members.length).map (.int .i64))) ol ((mtL s s.members.length).flatMap sdC),dropG (by decide) (by decide),fun ap2 nd2=>?_⟩))));obtain⟨aw,al⟩:=ap_G ap nd;clear ap nd;rw[eWm,← hN]at j1 j2;have sw:=Vy (h:=h2) (sz:=1) (n:=N) (o:=ow) (xs:=(Zbc s s.members.length).map (.int .i64)) j1 (by rw[List.length_map,hNl.1,Nat.mul_one]) (by omega);have sl:=Vy (h:=Gn h2 ow ((Zbc s s.members.length).map (.int .i64))) (sz:=4) (n:=N) (o:=ol) (xs:=(mtL s s.members.length).flatMap sdC) j2 (by rw[Z0 YQ,hNl.2]) (by omega);have aw2:apO ow [] h2:=aw;have al2:apO ol [] (Gn h2 ow ((Zbc s s.members.length).map (.int .i64))):=al;have lw:=Wm aw2 ((Zbc s s.members.length).map (.int .i64));have ll:=Wm al2 ((mtL s s.members.length).flatMap sdC);clear aw al aw2 al2 nd2;have sw:=sw.up ll;have le3:=lw.trans ll;clear lw ll
 generalize Gn (Gn h2 ow ((Zbc s s.members.length).map (.int .i64))) ol ((mtL s s.members.length).flatMap sdC)=h3 at ap2 sw sl le3 ⊢
 have iw:Ints h3 .i64 (ovs ow N) (Zbc s s.members.length):=⟨by rw[hNl.1];exact sw,fun z hz=>by
  rw[show IntKind.i64.min = -9223372036854775808 by decide,show IntKind.i64.max=9223372036854775807 by decide];obtain⟨j,hj,rfl⟩:=List.mem_map.1 hz;have:=Zax hj
  omega⟩
 have rl:Zh sdC 4 h3 (ovs ol N) (mtL s s.members.length):=by
  have:=Zh.pub (f:=sdC) (w:=4) (l:=mtL s s.members.length) (o:=ol) (h:=h3) YQ (by rw[hNl.2];exact sl)
  rwa [hNl.2]at this
 have hbb3:h3 bb=noC:=ap2.1;have hbx3:h3 bx=noC:=ap2.2.1;have hb53:h3 b5=noC:=ap2.2.2.1;have hb63:h3 b6=noC:=ap2.2.2.2.1;clear ap2 sw sl;obtain⟨wa,wc,ew,_,_,_,hws⟩:=iw.open;obtain⟨la,lc,el,_⟩:=rl.open;rw[hNl.1]at ew hws;rw[hNl.2]at el;have iw0:=iw;rw[el]at rl;simp only[whB,Yct];rw[eWm,← hN,ew,el];subst eV;refine xx ?_;refine Yn (.tk 5 (.tkl 0 (.tk 1 (.tk 2 (.tk 3 (.tkl 4 (.tkl 6 (.o1 7 (.tk 8 (.tk 9 (.tk 10 (.tk 11 (.tk 12 (.tk 13 (.tk 14 (.fin)))))))) (.nil))))))))) (by kernel_rfl) (by kernel_rfl) _ (Za.refl _ _) ?_;refine xx ?_;have le13:=le12.trans le3;refine Zc.ap (Gf s.par ti.ok.p ti.r _ rl (Ydp ti _ (Nat.le_refl _)) (by rw[hNl.2];exact hN128) n (by omega) fun h4 rv le4 iv ap=>?_);have hbb4:h4 bb=noC:=ap.1;have hbx4:h4 bx=noC:=ap.2.1;have hb54:h4 b5=noC:=ap.2.2.1;have hbm4:apO om [] h4:=YH ap.2.2.2.2;clear ap;have eP:VL s.par n (mtL s s.members.length)=mtP s r:=by rw[en];rfl
 rw[eP]at iv ⊢;have hPl:(mtP s r).length=N:=by rw[(Ygn ti ha).2.1,hN]
 obtain⟨ra,rc,rfl,_,_,_,hrs⟩:=iv.open;rw[hPl]at hrs ⊢
 first
 | refine xkp (Za.forget le4) ?_
 | skip
 refine xx ?_;refine YO (γ:=Nat×PH×Value) (0,h4,vp) (fun y=>y.1≤N∧PH.le h4 y.2.1∧Ints y.2.1 .u64 y.2.2 (mtX s r y.1).2∧y.2.1 bb=noC∧apO om [] y.2.1∧y.2.1 bx=noC∧y.2.1 b5=noC)
  (fun y=>[(83,.int .i64 y.1),(82,.int .i64 N),(81,.slice ra N rc),(8,.int .u64 (n-tot (mtP s r))),(2,.int .u64 n),(1,.pointer (some ⟨bx,0,none⟩)),(5,.pointer (some ⟨b5,0,none⟩))])
  (fun y=>tB bb (Zew s r y.1) ⟨y.2.2,ovs om s.members.length,ve,vx,vo,vd,vt,vk,vr⟩ (Ydb s r y.1) q w::tX bx bb::⟨b5,27,[.slice wa N wc],1⟩::tMo om (Zew s r y.1).members L) (fun y=>y.2.1) (fun y=>N-y.1) ?_ ?_ ?_ ?_
 ·exact⟨Nat.zero_le _,PH.le_refl _,hp.up (le13.trans le4),hbb4,hbm4,hbx4,hb54⟩
 ·simp [Ent,List.lookup]
 ·rw[e0,e1];exact Za.sub (.cons_cons _ (.cons_cons _ (.cons_cons _ (List.sublist_cons_self _ _))))
 clear n3x n3b n53 n63 n65 n6x n6b hbb hbm h_bx zb3 zb5 zb6 hbb1 hbm1 hbx1 hbb2 hbm2 hbx2 hbb3 hbx3 hb53 hb63;have ebb:NeB bb bx:=nbx;have e5b:NeB bb b5:=n5b;have e5x:NeB bx b5:=n5x;clear nbx n5x n5b;rintro⟨k,h5,pv⟩ ⟨k1,le5,ip,hbb5,hbm5,hbx5,hb55⟩;simp only at k1 le5 ip hbb5 hbm5 hbx5 hb55 ⊢;by_cases c1:k<N
 ·have ewk:=Yix (s:=s) (k:=k) (by omega);obtain⟨i,hi⟩:∃i,i=(mtW s).getD k 0:=⟨_,rfl⟩
  rw[← hi]at ewk;obtain⟨m,hmm⟩:∃m,m=gr ZQ (mtX s r k).1 i:=⟨_,rfl⟩
  obtain⟨a,haa⟩:∃a,a=at0 (mtP s r) k:=⟨_,rfl⟩
  obtain⟨z1,z2,z3,z4,z5,z6,z7,z8,z9,z10,z11,z12,z13,z14⟩:=Ygd ti ha (show k<(mtW s).length by omega) hi hmm haa;obtain⟨f1,f2⟩:=Zrc z11 z12 z13;have hws5:∀j,j<N→Yd h5 wa j=some (.int .i64 (at0 (Zbc s s.members.length) j)):=fun j hj=>WN (le4.trans le5) (hws j hj);have hrs5:∀j,j<N→Yd h5 ra j=some (.int .u64 (at0 (mtP s r) j)):=fun j hj=>WN le5 (hrs j hj);have hg:=Zql (ms:=(mtX s r k).1) z2;rw[← hmm]at hg;obtain⟨g0,g1,g2,g3,g4,g5⟩:=hg;have hi6:=Y5 (w:=6) z2 (show 5<6 by decide);have hsm:=Zwg (ms:=(mtX s r k).1) rfl;have hXl:(mtX s r k).1.length=s.members.length:=(Ykw ti ha (k:=k) (by omega)).l1;obtain⟨bm,cm,rfl⟩:∃bm cm,om=some (bm,cm):=by
   cases om with
   | none=>have:s.members.length=0:=okm;omega
   | some p=>exact⟨_,_,rfl⟩
  have ebm:NeB bb bm:=Ne.symm nmb;have exm:NeB bx bm:=Ne.symm nmx;have e5m:NeB b5 bm:=Ne.symm n5m;have hbm5':h5 bm=noC:=hbm5.2;simp only[tMo,Ye,YE]at *;have hst:=Zlv z2 (VK s.par m a).1 (by rw[z14,hmm]) (by rw[hmm];rfl);have hX2:i<((mtX s r k).1.set i (VK s.par m a).1).length:=by rw[List.length_set];exact z2
  have hgr2:gr ZQ ((mtX s r k).1.set i (VK s.par m a).1) i=(VK s.par m a).1:=by rw[Z8 hX2,List.getElem_set_self]
  have q4:∀(K:Value→Prop) (t:Zk K),Wz (((mtX s r k).1.set i (VK s.par m a).1).flatMap Yv) (i*6+4) K t=K (.int .i64 m.owner):=fun K t=>Z1 Yg ZQ _ (m:=4) hX2 (by decide) (by rw[hgr2,← z14];rfl) K t;obtain⟨S,hS⟩:∃S,S=Zew s r k:=⟨_,rfl⟩
  obtain⟨R,hR⟩:∃R,R=Ydb s r k:=⟨_,rfl⟩
  have t1:S.treas=s.treas+mtN s r-Yy (mtP s r) k:=by rw[hS];rfl
  have t2:S.par=s.par:=by rw[hS];rfl
  have t3:S.members=(mtX s r k).1:=by rw[hS];rfl
  have t4:S.purses=(mtX s r k).2:=by rw[hS];rfl
  have t5:R.paid=Yy (mtP s r) k:=by
   rw[hR];show r.paid+Yy (mtP s r) k=_;omega
  rw[← t1]at z9;rw[← t5]at z10;rw[← hS,← hR];rw[← hS]at f1;rw[← hR]at f2;rw[t3];obtain⟨M,hM⟩:∃M,M=(mtX s r k).1:=⟨_,rfl⟩
  rw[← hM]at g0 g1 g2 g3 g4 g5 hi6 hsm hst q4 z2 f1 t3 hXl ⊢;obtain⟨P5,hP5⟩:∃P5,P5=(mtX s r k).2:=⟨_,rfl⟩
  rw[← hP5]at ip z5 z7 f1 t4 z12;have ip':Ints h5 .u64 pv S.purses:=by rw[t4];exact ip
  simp -dsimp -implicitDefEqProofs (disch:=first|with_reducible assumption|omega) [go_sem,idx hrs5,idx hws5];rw[← haa];refine Zgl (by kernel_rfl) rfl ?_;simp -dsimp -implicitDefEqProofs (disch:=first|with_reducible assumption|omega) [go_sem,idx hrs5,idx hws5,ewk];refine Yn (.tk 0 (.tk 6 (.tk 7 (.tk 8 (.tk 10 (.tkl 1 (.tk 2 (.tk 3 (.tk 4 (.tkl 5 (.tkl 9 (.o1 11 (.tk 12 (.tk 13 (.tk 14 (.tk 15 (.tk 16 (.o2 17 (.tk 18 (.fin)) (.nil))))))) (.nil))))))))))))) (by kernel_rfl) (by kernel_rfl) _ (Za.refl _ _) ?_;simp -dsimp -implicitDefEqProofs (disch:=first|with_reducible assumption|omega) [go_sem,g0,g1,g2,g3];have okS:Zj S.par:=by rw[t2];exact ti.ok.p
  have rS:YM S.par=true:=by rw[t2];exact ti.r
  rw[← t2]at hst q4 z7 z8 z14 f1 z12;refine Zll S.par okS rS m z3 a (by omega) ?_
  first
  | refine xkp (Za.refl _ _) ?_
  | skip
  refine xx ?_;refine⟨by omega,?_⟩;rw[hst];refine Yn (.tk 1 (.tk 2 (.tk 3 (.tk 5 (.tkl 0 (.tkl 4 (.o1 6 (.fin) (.nil)))))))) (by kernel_rfl) (by kernel_rfl) [_,_,_] (Za.sub (.cons _ (.cons_cons _ (.cons_cons _ (.cons_cons _ (List.nil_sublist _)))))) ?_;simp -dsimp -implicitDefEqProofs (disch:=first|with_reducible assumption|omega) [go_sem,q4];have ip2:Ints h5 .u64 pv S.purses:=ip';refine Zc.ap (V8 (s:={ S with treas:=S.treas-a,members:=M.set i (VK S.par m a).1 }) (v:=⟨pv,.slice (some ⟨bm,0,none⟩) s.members.length cm,ve,vx,vo,vd,vt,vk,vr⟩) ip2 (by show S.purses.length≤1000;rw[t4,z5];have:=ti.pl;omega) m.owner ⟨z4.1,by show m.owner<S.purses.length;rw[t4,z5];exact z4.2⟩ (VK S.par m a).2 z8 (by show at0 S.purses _+_≤_;rw[t4];exact z7) fun h6 r6 le6 i6 ap=>?_);have hbb6:h6 bb=noC:=ap.1;have hbx6:h6 bx=noC:=ap.2.1;have hb56:h6 b5=noC:=ap.2.2.1;have hbm6:apO (some (bm,cm)) [] h6:=⟨trivial,ap.2.2.2.1⟩
  clear ap;obtain⟨pa6,pc6,rfl,_⟩:=i6.open;refine xkp ((Za.sub (.cons _ (.cons_cons _ (.cons_cons _ (.cons_cons _ (List.nil_sublist _)))))).trans (Za.forget le6)) ?_;refine xx ?_;simp only[t4]at i6 ⊢;rw[List.length_set]at i6;refine⟨k+1,h6,_,⟨by omega,le5.trans le6,by rw[z12];exact i6,hbb6,hbm6,hbx6,hb56⟩,by omega,by simp [Ent,List.lookup],?_⟩;rw[f1,f2];exact Za.refl _ _
 obtain rfl:N=k:=by omega
 have eR:mtR s r={ Ydb s r N with kept:=n-tot (mtP s r) }:=by rw[hN,en];rfl
 have eS:mtS s r=Zew s r N:=by rw[hN];rfl
 have hk:=hk h5 pv (le13.trans (le4.trans le5)) (by rw[eS];exact ip);rw[eS,eR]at hk;refine xx ?_;exact⟨_,_,Za.sub (.cons_cons _ (.cons _ (List.sublist_cons_self _ _))),hk⟩
theorem permL {e0 s0 e sz:Nat}{o0 o:Option (Nat×Nat)}{X0 xs:List Value}{a:Zm}{L:Own}:(a::oent e0 s0 o0 X0 (oent e sz o xs L)).Perm (oent e sz o xs (a::oent e0 s0 o0 X0 L)):=(List.Perm.cons _ (Yt o0 o X0 xs L)).trans oent_perm
theorem UT {ms:List Zb}{l:List Int}{st:Int}(hr:Jd ms l st)(hm:ms.length≤128){v:Value}(sl:Sl h v l.length 1 (l.map (.int .i64))):Ints h .i64 v l:=⟨sl,fun z hz=>by
 rw[show IntKind.i64.min = -9223372036854775808 by decide,show IntKind.i64.max=9223372036854775807 by decide];have:=Vi hr hz
 omega⟩
theorem Zfm {a b:Zm}{L:Own}{h:PH}:Za (a::b::L) h [a,b] h:=drop_left [a,b] L h
theorem drop1 {a:Zm}{L:Own}{h:PH}:Za (a::L) h [a] h:=drop_left [a] L h
structure LvG where
 k:Nat
 h:PH
 d:Value
theorem Zqm {bb D:Nat}{om ox:Option (Nat×Nat)}{s:Zd}{v:SV}{r:Zi}{q:RV}{w:Int}(ti:Zp s D)(hD:D≤30000)(hw:0≤w∧w≤1000)(hp:Ints h .u64 v.p s.purses)(hd:Zh Yz 3 h v.d s.dues)(hm:v.m=ovs om s.members.length)(okm:okO om s.members.length)(hx:v.x=ovs ox s.exit.length)(okx:okO ox s.exit.length)
  (hk:∀h' xo pv dv lv,PH.le h h'→okO xo (lvS s (min (s.ep+w) 2147483647)).exit.length→Ints h' .u64 pv (lvS s (min (s.ep+w) 2147483647)).purses→Zh Yz 3 h' dv (lvS s (min (s.ep+w) 2147483647)).dues→Ints h' .i64 lv (lvW s) →
   K (.tuple #[]) (tB bb (lvS s (min (s.ep+w) 2147483647)) { v with p:=pv,d:=dv,x:=ovs xo (lvS s (min (s.ep+w) 2147483647)).exit.length } (lvR s r) { q with l:=lv } w::tMo om (lvS s (min (s.ep+w) 2147483647)).members (oent 3 1 xo ((lvS s (min (s.ep+w) 2147483647)).exit.map (.int .i64)) L)) h') :
  Zc prog 87 [.pointer (some ⟨bb,0,none⟩)] (tB bb s v r q w::tMo om s.members (oent 3 1 ox (s.exit.map (.int .i64)) L)) h K:=by
 obtain⟨vp,vm,ve,vx,vo,vd,vt,vk,vr⟩:=v;simp only at hm hp hd hx hk ⊢;subst hm;subst hx;obtain⟨t,ht⟩:∃t,t=min (s.ep+w) 2147483647:=⟨_,rfl⟩
 rw[← ht]at hk;have hep:=ti.ep;have htb:0≤t∧t≤2147483647:=by omega
 have hml:=ti.ml;have hpl:=ti.pl;have hdn:=ti.dn;have hxl:=V5 ti.ex;obtain⟨w1,w2,w3⟩:=Yvw ti;have hpc:=Z7 ti.r;have hsum:=ti.sum;obtain⟨p1,p2,p3,p4,p5,p6⟩:=ti.parts;refine Zc.entr fun ap nd=>?_;have aox:=YH (Ap.oent ap.2);have lx:=Wm aox (s.exit.map (.int .i64));have sx:=Vy (h:=h) (sz:=1) (n:=s.exit.length) (o:=ox) (xs:=s.exit.map (.int .i64)) okx (by simp) (by omega);refine Zc.weaken ((Za.perm h permL).trans (Wk ox _ _ h (by decide))) ?_
 generalize Gn h ox (s.exit.map (.int .i64))=h0 at lx sx ⊢
 have ix:=UT ti.ex hml sx;clear aox sx ap nd;obtain⟨xa,xc,ex,_⟩:=ix.open;rw[ex]at ix ⊢;have hxr:∀z∈s.exit,0≤z:=fun z hz=>(Vi ti.ex hz).1;refine Z3 func87 rfl (rs:=[]) rfl rfl ZW (by kernel_rfl) rfl rfl fun ap nd=>?_;have hbb:h0 bb=noC:=ap.1;have nmb:apB om bb:=Yp nd.1;clear ap nd;refine xx ?_;refine Yn (.tk 0 (.tk 1 (.tk 2 (.tk 3 (.tk 5 (.tk 6 (.tk 7 (.tk 8 (.tk 9 (.tkl 4 (.tkl 10 (.o1 11 (.tk 12 (.tk 13 (.tk 14 (.tk 15 (.tk 16 (.fin)))))) (.nil))))))))))))) (by kernel_rfl) (by kernel_rfl) [_] drop1 ?_;refine xx ?_;refine Zc.apn (Zc.fin (Zce _ ix (by omega) hxr ti.ex.1 s.par.churn ⟨by omega,by omega⟩ fun h1 rv xo le1 iw ok1 ap1=>⟨_,_,Za.perm _ permL.symm,fun ap nd=>?_⟩));have hbb1:h1 bb=noC:=ap.1;have hbm1:apO om [] h1:=YH ap.2;clear ap nd ap1;refine xkp (drop1.trans (Za.forget le1)) ?_;have le01:=lx.trans le1;have eW:s.exit.take s.par.churn.toNat=lvW s:=rfl;rw[eW]at iw;obtain⟨N,hN⟩:∃N,N=(lvW s).length:=⟨_,rfl⟩
 obtain⟨R,hR⟩:∃R,R=s.exit.drop s.par.churn.toNat:=⟨_,rfl⟩
 rw[← hR]at ok1 ⊢;obtain⟨wa,wc,rfl,_,_,_,hws⟩:=iw.open;rw[← hN]at hws w1 ⊢;have iw0:=iw;rw[← hN]at iw0;refine xx ?_;refine YO (γ:=LvG) ⟨0,h1,vd⟩ (fun y=>y.k≤N∧PH.le h1 y.h∧Zh Yz 3 y.h y.d (lvK t (lvW s) (s.members,s.dues) y.k).2∧y.h bb=noC∧apO om [] y.h)
  (fun y=>[(32,.int .i64 y.k),(31,.int .i64 N),(30,.slice wa N wc),(2,.slice wa N wc),(0,.pointer (some ⟨bb,0,none⟩))])
  (fun y=>tB bb { s with exit:=R,members:=(lvK t (lvW s) (s.members,s.dues) y.k).1,dues:=(lvK t (lvW s) (s.members,s.dues) y.k).2 } ⟨vp,ovs om s.members.length,ve,ovs xo R.length,vo,y.d,vt,vk,vr⟩ r q w::tMo om (lvK t (lvW s) (s.members,s.dues) y.k).1 (oent 3 1 xo (R.map (.int .i64)) L)) (fun y=>y.h) (fun y=>N-y.k) ?_ ?_ ?_ ?_
 ·exact⟨Nat.zero_le _,PH.le_refl _,hd.up le01,hbb1,hbm1⟩
 ·simp [Ent,List.lookup,Wo]
 ·exact Za.refl _ _
 rintro⟨k,h2,d2⟩ ⟨k1,le2,id2,hbb2,hbm2⟩;simp only at k1 le2 id2 hbb2 hbm2 ⊢;have lv:=(Zsm ti htb (k:=k) (by omega)).1;have lr:=(Zsm ti htb (k:=k) (by omega)).2;have hXl:(lvK t (lvW s) (s.members,s.dues) k).1.length=s.members.length:=lv.l1;by_cases c1:k<N
 ·have hin:=w3 (at0 (lvW s) k) (by rw[← Yf (by omega)];exact List.getElem_mem (by omega));obtain⟨i,hi⟩:=Int.eq_ofNat_of_zero_le hin.1;rw[hi]at hin;have hws2:∀j,j<N→Yd h2 wa j=some (.int .i64 (at0 (lvW s) j)):=fun j hj=>WN le2 (hws j hj);have hi2:i<(lvK t (lvW s) (s.members,s.dues) k).1.length:=by omega
  have hoo:=lr.o _ (Yq (z:=ZQ) hi2);have hbt:=Yl (WD lv.m) i;rw[WV hi2]at hbt;have h3:=lv.t;have h4:=lv.n;have eK:lvK t (lvW s) (s.members,s.dues) (k+1)=G6 t i (lvK t (lvW s) (s.members,s.dues) k):=by rw[lvK,hi,Int.toNat_natCast]
  obtain⟨bm,cm,rfl⟩:∃bm cm,om=some (bm,cm):=by
   cases om with
   | none=>have:s.members.length=0:=okm;omega
   | some p=>exact⟨_,_,rfl⟩
  have nmb':bm≠bb:=nmb;have hbm2':h2 bm=noC:=hbm2.2;obtain⟨X,hX⟩:∃X,X=lvK t (lvW s) (s.members,s.dues) k:=⟨_,rfl⟩
  rw[← hX]at id2 lv hXl hi2 hoo hbt h3 h4 eK lr ⊢;simp only[tMo,Ye,YE];simp -dsimp -implicitDefEqProofs (disch:=first|with_reducible assumption|omega) [go_sem,idx hws2];rw[hi];simp only at h3 h4;have how2:0≤(gr ZQ X.1 i).owner∧(gr ZQ X.1 i).owner≤63:=by omega
  refine Zc.ap (Zml (s:={ s with exit:=R,members:=X.1,dues:=X.2 }) (v:=⟨vp,.slice (some ⟨bm,0,none⟩) s.members.length cm,ve,ovs xo R.length,vo,d2,vt,vk,vr⟩) (by rw[hXl]) (by show X.1.length≤1000;omega) lv.m id2 lv.d (by show X.2.length≤32000;omega) i hi2 how2 5 hw (by show 0≤s.ep∧s.ep≤_;omega) (by show Wp X.2+(gr ZQ X.1 i).bal≤_;omega) fun h5 r5 le5 i5 ap=>?_);have hbb5:h5 bb=noC:=ap.1;have hbm5:apO (some (bm,cm)) [] h5:=⟨trivial,ap.2.1⟩
  clear ap;refine xx ?_;refine⟨⟨k+1,h5,r5⟩,⟨by simp only;omega,le2.trans le5,by rw[eK,ht];exact i5,hbb5,hbm5⟩,by simp only;omega,by simp [Ent,List.lookup],?_⟩;simp only;rw[eK,ht];exact Za.refl _ _
 obtain rfl:N=k:=by omega
 have eX:lvK t (lvW s) (s.members,s.dues) N=lvX s t:=by rw[hN];rfl
 rw[eX]at id2 lv lr hXl ⊢;have lvn:=lv.n;simp only at lvn;refine xx ?_;refine Yn (.tk 0 (.tk 1 (.tk 2 (.tk 3 (.tk 5 (.tk 6 (.tk 7 (.tk 8 (.tkl 4 (.tkl 9 (.o1 10 (.tk 11 (.tk 12 (.tk 13 (.tk 14 (.tk 15 (.fin)))))) (.nil)))))))))))) (by kernel_rfl) (by kernel_rfl) _ (Za.refl _ _) ?_;refine xx ?_;refine Zc.ap (Zui _ id2 (by omega) s.ep fun h3 r3 d3 le3 i3 j3 ap=>?_);have hbb3:h3 bb=noC:=ap.1;clear ap;have i30:=i3;have j30:=j3;obtain⟨ra,rc,rfl,_,_,_,hrs⟩:=i3.open;obtain⟨da,dc,rfl,_⟩:=j3.open
 first
 | refine xkp (Za.forget le3) ?_
 | skip
 have eD:(lvX s t).2.filter (Ja s.ep true)=lvD s t:=rfl;rw[eD]at i30 hrs ⊢;obtain⟨M,hM⟩:∃M,M=(lvD s t).length:=⟨_,rfl⟩
 have hld:=lv_d ti htb;have hMl:M≤32000:=by
  have:(lvD s t).length≤(lvX s t).2.length:=List.length_filter_le _ _;omega
 rw[← hM]at hrs ⊢;refine xx ?_;have ltot:tot s.purses+Wp (lvD s t)≤4611686018427387904:=by
  have a1:=Zqz (lvX s t).2 s.ep;rw[eD]at a1;have a2:=lv.t;simp only at a2;have a3:0≤Wp ((lvX s t).2.filter (Ja s.ep false)):=Yu (Zep fun x hx=>lv.d x (List.mem_filter.1 hx).1);have a4:=Yu (WD lv.m);have a5:Wp s.dues+tot (s.members.map Zb.bal)=Wp (lvX s t).2+tot ((lvX s t).1.map Zb.bal):=a2.symm;omega
 refine YO (γ:=LvG) ⟨0,h3,vp⟩ (fun y=>y.k≤M∧PH.le h3 y.h∧Ints y.h .u64 y.d (dpK (lvD s t) s.purses y.k)∧y.h bb=noC)
  (fun y=>[(66,.int .i64 y.k),(65,.int .i64 M),(64,.slice ra M rc),(0,.pointer (some ⟨bb,0,none⟩))])
  (fun y=>tB bb { s with exit:=R,members:=(lvX s t).1,dues:=(lvX s t).2.filter (Ja s.ep false),purses:=dpK (lvD s t) s.purses y.k } ⟨y.d,ovs om s.members.length,ve,ovs xo R.length,vo,.slice da ((lvX s t).2.filter (Ja s.ep false)).length dc,vt,vk,vr⟩ (lvR s r) { q with l := .slice wa N wc } w::tMo om (lvX s t).1 (oent 3 1 xo (R.map (.int .i64)) L)) (fun y=>y.h) (fun y=>M-y.k) ?_ ?_ ?_ ?_
 ·exact⟨Nat.zero_le _,PH.le_refl _,hp.up (le01.trans (le2.trans le3)),hbb3⟩
 ·simp [Ent,List.lookup]
 ·exact Za.refl _ _
 rintro⟨k,h4,pv⟩ ⟨k1,le4,ip,hbb4⟩;simp only at k1 le4 ip hbb4 ⊢;obtain⟨y1,y2,y3⟩:=Zfb ti.be.p hld k (by omega);by_cases c1:k<M
 ·obtain⟨d,hdd⟩:∃d,d=gr ZZ (lvD s t) k:=⟨_,rfl⟩
  have hx:=hld d (by rw[hdd];exact Yq (by omega));obtain⟨z1,z2,z3⟩:=Zfb ti.be.p hld (k+1) (by omega);have eK:dpK (lvD s t) s.purses (k+1)=(dpK (lvD s t) s.purses k).set d.acct.toNat (at0 (dpK (lvD s t) s.purses k) d.acct.toNat+d.amt):=by rw[dpK,← hdd]
  have hroom:at0 (dpK (lvD s t) s.purses k) d.acct.toNat+d.amt≤4611686018427387904:=by
   have b1:=Yl z2 d.acct.toNat;rw[eK,VG _ _ _ _ (by omega),if_pos rfl,← eK,z3]at b1;have b2:=(Zxx (l:=(lvD s t).map Zg.amt) (fun i=>V2 Zg.amt _ (fun x hx=>(hld x hx).2.2) i) (k:=k+1) (by rw[List.length_map];omega)).2;have b3:tot ((lvD s t).map Zg.amt)=Wp (lvD s t):=rfl;omega
  have hrs4:=hrs.up le4;have ip':Ints h4 .u64 pv (dpK (lvD s t) s.purses k):=ip;obtain⟨PK',hPK⟩:∃PK',PK'=dpK (lvD s t) s.purses k:=⟨_,rfl⟩
  rw[← hPK]at ip y1 eK hroom ⊢;simp -dsimp -implicitDefEqProofs (disch:=first|with_reducible assumption|omega) [go_sem,↓Uw ZZ (by decide) hrs4,Yz];rw[← hdd];refine Z2 fun b9 nb9 zb9=>?_;(try simp only[ZT]at nb9);have n9:=nb9.1;clear nb9;simp -dsimp -implicitDefEqProofs (disch:=first|with_reducible assumption|omega) [go_sem,Yz];refine Zeo (Zc.ap (V8 (s:={ s with exit:=R,members:=(lvX s t).1,dues:=(lvX s t).2.filter (Ja s.ep false),purses:=PK' }) (v:=⟨pv,ovs om s.members.length,ve,ovs xo R.length,vo,.slice da ((lvX s t).2.filter (Ja s.ep false)).length dc,vt,vk,vr⟩) ip (by show PK'.length≤1000;omega) d.acct (by show 0≤d.acct∧d.acct<PK'.length;omega) d.amt hx.2.2 hroom fun h5 r5 le5 i5 ap=>?_));have hbb5:h5 bb=noC:=ap.1;clear ap;refine xx ?_;refine⟨⟨k+1,h5,r5⟩,⟨by simp only;omega,le4.trans le5,by simp only;rw[eK];exact i5,hbb5⟩,by simp only;omega,by simp [Ent,List.lookup],?_⟩;simp only;rw[eK];exact(Za.perm _ (List.Perm.swap _ _ _)).trans (Za.tail _ _ _)
 obtain rfl:M=k:=by omega
 have eS:lvS s t={ s with exit:=R,members:=(lvX s t).1,dues:=(lvX s t).2.filter (Ja s.ep false),purses:=dpK (lvD s t) s.purses M }:=by rw[hM,hR];rfl
 have hk:=hk h4 xo pv (.slice da ((lvX s t).2.filter (Ja s.ep false)).length dc) (.slice wa N wc) (le01.trans (le2.trans (le3.trans le4))) (by rw[eS];exact ok1) (by rw[eS];exact ip) (by rw[eS];exact j30.up le4) (iw0.up (le2.trans (le3.trans le4)));rw[eS]at hk;refine xx ?_;exact ZO hk
theorem Zxu {p:Ze}{i:Nat}{a acct:Int}{x:ZM}{m:Zb}(hm:m=gr ZQ x.ms i):Zlb p i a acct x=⟨x.ms.set i (UE p m a),x.ps.set acct.toNat (at0 x.ps acct.toNat+(a-Wn p m a)),if (UE p m a).status=m.status then x.en else x.en++[(i:Int)]⟩:=by rw[hm];rfl
theorem Zjo {bb pn:Nat}{om oe:Option (Nat×Nat)}{s:Zd}{v:SV}{r:Zi}{q:RV}{w:Int}{d:Zo}{ex:List Int}{T:Int}(ok:Zj s.par)(hr:YM s.par=true)(hpn:pn≤64)(cr:ZH ex ⟨s.members,s.purses,s.entry⟩ pn T)(hT:T+d.amt≤4611686018427387904)(hda:0≤d.amt)(hac:0≤d.acct∧d.acct<pn)(hmem:d.new=true∨(0≤d.mem∧d.mem<s.members.length))(hp:Ints h .u64 v.p s.purses)(hm:v.m=ovs om s.members.length)(okm:okO om s.members.length)(he:v.e=ovs oe s.entry.length)(oke:okO oe s.entry.length)
    (hk:∀h' pv om' oe',PH.le h h'→okO om' (Ws s.par d ⟨s.members,s.purses,s.entry⟩).ms.length→okO oe' (Ws s.par d ⟨s.members,s.purses,s.entry⟩).en.length→Ints h' .u64 pv (Ws s.par d ⟨s.members,s.purses,s.entry⟩).ps →
      K (.tuple #[]) (tB bb { s with members:=(Ws s.par d ⟨s.members,s.purses,s.entry⟩).ms,purses:=(Ws s.par d ⟨s.members,s.purses,s.entry⟩).ps,entry:=(Ws s.par d ⟨s.members,s.purses,s.entry⟩).en } { v with p:=pv,m:=ovs om' (Ws s.par d ⟨s.members,s.purses,s.entry⟩).ms.length,e:=ovs oe' (Ws s.par d ⟨s.members,s.purses,s.entry⟩).en.length } r q w::tMo om' (Ws s.par d ⟨s.members,s.purses,s.entry⟩).ms (oent 3 1 oe' ((Ws s.par d ⟨s.members,s.purses,s.entry⟩).en.map (.int .i64)) L)) h') :
    Zc prog 217 [.pointer (some ⟨bb,0,none⟩),depV d] (tB bb s v r q w::tMo om s.members (oent 3 1 oe (s.entry.map (.int .i64)) L)) h K:=by
  obtain⟨vp,vm,ve,vx,vo,vd,vt,vk,vr⟩:=v;simp only at hm hp he hk ⊢;subst hm;subst he;have crl:=cr.l1;have crp:=cr.l2;have crn:=V5 cr.e;have crt:=cr.t;have crb:=cr.b.bal;have crq:=cr.b.pur;simp only at crl crp crn crt crb crq;have crs:=Zhw ok (p:=s.par) (by omega) cr hda hac hmem;obtain⟨X,hX⟩:∃X,X=Ws s.par d ⟨s.members,s.purses,s.entry⟩:=⟨_,rfl⟩
  rw[← hX]at crs hk;have xt:=crs.t;have xb:=crs.b.bal;have xp:=(crs.b.le d.acct.toNat).2;refine Z3 func217 rfl (rs:=[]) rfl rfl ZW (by kernel_rfl) rfl rfl fun ap nd=>?_;have hbb:h bb=noC:=ap.1;have hom:apO om [] h:=YH ap.2;have nmb:apB om bb:=Yp nd.1;clear ap nd;refine xx ?_;refine Z2 fun b3 nb3 zb3=>?_;(try simp only[ZT]at nb3);have n3b:=nb3.1;have nm3:apB om b3:=Yp nb3.2;clear nb3;refine xx ?_
  cases hnew:d.new with
  | true =>
    have eX:X=if 128≤s.members.length then ⟨s.members,s.purses.set d.acct.toNat (at0 s.purses d.acct.toNat+d.amt),s.entry⟩ else Zlb s.par s.members.length d.amt d.acct ⟨s.members++[⟨0,0,0,0,d.acct,4⟩],s.purses,s.entry⟩:=by rw[hX,Ws,hnew,if_pos rfl]
    obtain⟨ma,mc,em,_⟩:=Z9 okm;by_cases c1:128≤s.members.length
    · rw[if_pos c1]at eX;rw[eX]at hk xp xt;simp only at hk xp xt;rw[VG _ _ _ _ (by omega),if_pos rfl]at xp;have b0:=cr.b.bal;simp only at b0;simp -dsimp -implicitDefEqProofs (disch:=first|with_reducible assumption|omega) [go_sem,em];rw[← em];refine Zeo (V8 (s:=s) hp (by omega) d.acct (by omega) d.amt hda (by omega) fun h1 r1 le1 i1=>?_);refine xx ?_;exact⟨_,_,(Za.perm _ (List.Perm.swap _ _ _)).trans (Za.tail _ _ _),hk h1 r1 om oe le1 okm oke i1⟩
    rw[if_neg c1]at eX;simp -dsimp -implicitDefEqProofs (disch:=first|with_reducible assumption|omega) [go_sem,em];rw[← em];refine WH (.tk 0 (.tk 1 (.tk 2 (.tk 3 (.tk 4 (.tk 6 (.tkl 5 (.tkl 7 (.tk 8 (.o1 9 (.o1 10 (.tk 11 (.tk 12 (.tk 13 (.o2 14 (.fin) (.nil))))) (.nil)) (.nil))))))))))) (by kernel_rfl) (by kernel_rfl) [(0,.pointer (some ⟨bb,0,none⟩)),(3,.pointer (some ⟨b3,0,none⟩)),(4,.int .i64 s.members.length)] [_,_] (γ:=Option (Nat×Nat)) (fun om'=>okO om' (s.members.length+1)∧apO om' [] h∧apB om' bb∧apB om' b3) (fun _=>[(0,.pointer (some ⟨bb,0,none⟩)),(3,.pointer (some ⟨b3,0,none⟩)),(4,.int .i64 s.members.length)])
      (fun om'=>⟨b3,164,[.int .i64 d.acct,.int .i64 d.mem,.int .u64 d.amt,.bool true],4⟩::tB bb s ⟨vp,ovs om' (s.members.length+1),ovs oe s.entry.length,vx,vo,vd,vt,vk,vr⟩ r q w::tMo om' (s.members++[⟨0,0,0,0,d.acct,4⟩]) (oent 3 1 oe (s.entry.map (.int .i64)) L)) (fun _=>h) (by simp [Ent,List.lookup,Wo]) Zfm ?_ ?_
    · refine xx ?_;refine Z2 fun b40 nb40 zb40=>?_;(try simp only[ZT]at nb40);refine xkp ((Za.tail _ _ _).trans Zfm) ?_;refine xx ?_;refine Z4 (t:=26) (e:=74) (sz:=6) (bytes:=48) (by kernel_rfl) Yby rfl rfl rfl rfl (by decide) [_,_,_] _ om s.members.length (s.members.flatMap Yv) okm (Z0 Yg _) (Src.own (b:=b40) (t:=74) (cap:=6) List.mem_cons_self) (m:=1) (news:=Yv ⟨0,0,0,0,d.acct,4⟩) rfl (Znp _) (by simp [maxLen];omega) (by omega) ?_;intro om' j1 j2 j3;simp only[List.cons_append,List.nil_append]at j2 ⊢;refine xkp ((Za.tail _ _ _).trans Zfm) ?_;refine xx ?_;refine⟨om',⟨j1,?_,?_,?_⟩,by simp [Ent,List.lookup],?_⟩
      · cases om' with
        | none=>trivial
        | some p=>exact⟨trivial,j2.2⟩
      · cases om' with
        | none=>trivial
        | some p=>exact Ne.symm j2.1.2.2.1
      · cases om' with
        | none=>trivial
        | some p=>exact Ne.symm j2.1.2.1
      · simp only[tMo,List.flatMap_append,List.flatMap_cons,List.flatMap_nil,List.append_nil];exact Za.tail _ _ _
    rintro om' ⟨okm',hom',nmb',nm3'⟩;clear hom nmb nm3 em;obtain⟨bm,cm,rfl⟩:∃bm cm,om'=some (bm,cm):=by
      cases om' with
      | none=>have:s.members.length+1=0:=okm';omega
      | some p=>exact⟨_,_,rfl⟩
    obtain⟨MS,hMS⟩:∃MS,MS=s.members++[(⟨0,0,0,0,d.acct,4⟩:Zb)]:=⟨_,rfl⟩
    obtain⟨I,hI⟩:∃I,I=s.members.length:=⟨_,rfl⟩
    have hIl:I<MS.length:=by rw[hMS,List.length_append,hI];simp
    have eMl:s.members.length+1=MS.length:=by rw[hMS,List.length_append];rfl
    rw[← hMS,← hI]at eX;rw[← hMS];rw[eMl]at okm' ⊢;rw[← hI];have hMo:∀x∈MS,Zf x:=fun y hy=>by
      rw[hMS]at hy;rcases List.mem_append.1 hy with hy|hy
      · exact cr.b.m y hy
      · rw[List.mem_singleton]at hy;subst hy
        exact⟨fun z hz=>by simp at hz;omega,fun z hz=>by
          simp only[List.mem_cons,List.not_mem_nil,or_false]at hz
          rcases hz with rfl|rfl|rfl<;>omega⟩
    have hMt:tot (MS.map Zb.bal)=tot (s.members.map Zb.bal):=by
      rw[hMS];simp only[List.map_append,List.map_cons,List.map_nil,Gc,Wq,Zkm];omega
    have hMl:MS.length≤128:=by rw[← eMl];omega
    have hbm:h bm=noC:=hom'.2;have e1:NeB bb b3:=n3b;have e2:NeB bm b3:=nm3';have e3:NeB bb bm:=Ne.symm nmb';have e4:NeB b3 bm:=Ne.symm nm3';have e5:NeB b3 bb:=Ne.symm n3b;clear n3b nm3' nmb' hom';obtain⟨m,hmm⟩:∃m,m=gr ZQ MS I:=⟨_,rfl⟩
    have mo:Zf m:=hMo m (by rw[hmm];exact Yq hIl);have ub:=mo.u m.bal (by simp);have hbt:=Yl (WD hMo) I;rw[WV hIl,← hmm]at hbt;obtain⟨g1',g2',g3',g4',g5',g6'⟩:=Zcy ok mo hda;rw[Zxu hmm]at eX;rw[eX]at hk xp xt xb;simp only at hk xp xt xb;rw[VG _ _ _ _ (by omega),if_pos rfl]at xp;have hg:=Zql hIl;rw[← hmm]at hg;obtain⟨g0,g1,g2,g3,g4,g5⟩:=hg;have hi6:=Y5 (w:=6) hIl (show 5<6 by decide);have hsm:=Zwg (ms:=MS) rfl;simp only[tMo,Ye,YE];simp -dsimp -implicitDefEqProofs (disch:=first|with_reducible assumption|omega) [go_sem,g5];obtain⟨M,hM⟩:∃M,M=UE s.par m d.amt:=⟨_,rfl⟩
    obtain⟨Z,hZ⟩:∃Z,Z=d.amt-Wn s.par m d.amt:=⟨_,rfl⟩
    rw[← hM]at hk xt xb g6';rw[← hZ]at hk xp xt;refine WH (.tk 0 (.tk 1 (.tk 2 (.tk 3 (.tk 5 (.tk 6 (.tk 7 (.tk 8 (.tk 10 (.tk 13 (.tkl 4 (.tkl 9 (.tk 11 (.tkl 12 (.tkl 14 (.o1 15 (.tk 16 (.tk 17 (.tk 18 (.o1 19 (.o2 20 (.tk 21 (.fin)) (.nil)) (.nil))))) (.o1 19 (.o1 15 (.tk 16 (.tk 17 (.tk 18 (.o2 20 (.tk 21 (.fin)) (.nil))))) (.nil)) (.nil)))))))))))))))))) (by kernel_rfl) (by kernel_rfl) [(0,.pointer (some ⟨bb,0,none⟩)),(3,.pointer (some ⟨b3,0,none⟩)),(4,.int .i64 I),(5,.int .i64 m.status)] _ (γ:=Nat) (fun b6=>bb≠b6∧bm≠b6∧b3≠b6∧h b6=noC)
      (fun b6=>[(0,.pointer (some ⟨bb,0,none⟩)),(3,.pointer (some ⟨b3,0,none⟩)),(4,.int .i64 I),(5,.int .i64 m.status),(6,.pointer (some ⟨b6,0,none⟩)),(7,.int .u64 Z)])
      (fun b6=>⟨b6,74,Yv M,6⟩::⟨b3,164,[.int .i64 d.acct,.int .i64 d.mem,.int .u64 d.amt,.bool true],4⟩::tB bb s ⟨vp,.slice (some ⟨bm,0,none⟩) MS.length cm,ovs oe s.entry.length,vx,vo,vd,vt,vk,vr⟩ r q w::tM bm cm MS::oent 3 1 oe (s.entry.map (.int .i64)) L) (fun _=>h) (by simp [Ent,List.lookup,Wo]) (Za.refl _ _) ?_ ?_
    · repeat' first
        | with_reducible refine Y4 ?_ ?_
        | simp -dsimp -implicitDefEqProofs (disch:=first|with_reducible assumption|omega) [go_sem,g0,g1,g2,g3,g4,g5]
        | (with_reducible refine Z2 fun b6 nb6 zb6 => ?_
           simp only[ZT]at nb6)
        | (with_reducible show JX prog 315 _ _ _ _
           refine Zar s.par ok hr m mo d.amt ⟨hda,by omega⟩ (by omega) ?_
           rw[← hM,← hZ])
        | with_reducible refine xkp (Za.refl _ _) ?_
        | with_reducible refine xkp (Za.tail _ _ _) ?_
        | fail
      all_goals exact⟨b6,⟨nb6.2.1,nb6.2.2.1,nb6.1,zb6⟩,by simp [Ent,List.lookup],Za.refl _ _⟩
    rintro b6 ⟨n6b,n6m,n63,h6⟩;have f1:NeB bb b6:=n6b;have f2:NeB bm b6:=n6m;have f3:NeB b3 b6:=n63;have f4:NeB b6 bb:=Ne.symm n6b;have f5:NeB b6 bm:=Ne.symm n6m;have f6:NeB b6 b3:=Ne.symm n63;clear n6b n6m n63;simp only[Yv];refine xx ?_;refine Yn (.tk 0 (.tk 1 (.tk 2 (.tk 3 (.tk 5 (.tkl 4 (.tkl 6 (.tk 7 (.o2 8 (.fin) (.nil)))))))))) (by kernel_rfl) (by kernel_rfl) _ (Za.refl _ _) ?_;refine xx ?_;refine⟨by omega,?_⟩;have hset:((((((MS.flatMap Yv).set (I*6) (Value.int .u64 M.bal)).set (I*6+1) (.int .u64 M.eff)).set (I*6+1+1) (.int .u64 M.score)).set (I*6+1+1+1) (.int .i64 M.streak)).set (I*6+1+1+1+1) (.int .i64 M.owner)).set (I*6+1+1+1+1+1) (.int .i64 M.status)=(MS.set I M).flatMap Yv:=GB Yg MS hIl M
    first
    | rw[hset]
    | (have hset' := hset
       simp only[Yv]at hset'
       rw[hset'])
    try simp -dsimp -implicitDefEqProofs (disch:=first|with_reducible assumption|omega) [go_sem]
    refine Zrx (Zc.ap (V8 (s:={ s with members:=MS.set I M }) (v:=⟨vp,.slice (some ⟨bm,0,none⟩) MS.length cm,ovs oe s.entry.length,vx,vo,vd,vt,vk,vr⟩) hp (by show s.purses.length≤1000;omega) d.acct (by show 0≤d.acct∧d.acct<s.purses.length;omega) Z (by omega) (by show at0 s.purses d.acct.toNat+Z≤_;omega) fun h1 r1 le1 i1 ap=>?_));have hbb1:h1 bb=noC:=ap.1;have hb61:h1 b6=noC:=ap.2.1;have hb31:h1 b3=noC:=ap.2.2.1;clear ap
    try simp only
    refine xx ?_;have hMl2:(MS.set I M).length=MS.length:=List.length_set;by_cases c2:M.status=m.status
    · rw[if_pos c2]at hk;have hk:=hk h1 r1 (some (bm,cm)) oe le1 (by rw[hMl2];exact okm') oke i1;rw[hMl2]at hk;refine xx ?_;exact⟨_,_,(Za.perm _ (List.perm_middle (l₁:=[_,_])).symm).trans ((Za.tail _ _ _).trans (Za.tail _ _ _)),hk⟩
    · rw[if_neg c2]at hk;refine xx ?_;refine Z2 fun b98 nb98 zb98=>?_;(try simp only[ZT]at nb98);have f7:NeB b98 bb:=Ne.symm nb98.1;clear nb98;refine xx ?_;refine Z4 (t:=27) (e:=3) (sz:=1) (bytes:=8) (z:=[.int .i64 0]) (by kernel_rfl) Zds rfl rfl rfl rfl (by decide) [_,_,_,_,_] _ oe s.entry.length (s.entry.map (.int .i64)) oke (by simp) (Src.own (b:=b98) (t:=3) (cap:=1) List.mem_cons_self) (m:=1) (news:=[.int .i64 I]) rfl (fun u hu=>by simp at hu;subst hu;rfl) (by simp [maxLen];omega) (by omega) ?_;intro oe' j1 j2 j3;simp only[List.cons_append,List.nil_append];refine xx ?_;have hk:=hk h1 r1 (some (bm,cm)) oe' le1 (by rw[hMl2];exact okm') (by simpa using j1) i1;rw[hMl2]at hk;simp only[List.map_append,List.map_cons,List.map_nil,List.length_append,List.length_singleton]at hk;exact ZP ⟨_,_,(Za.perm _ (List.perm_middle (l₁:=[_,_])).symm).trans ((Za.tail _ _ _).trans (Za.tail _ _ _)),hk⟩
  | false =>
    have hme:0≤d.mem∧d.mem<s.members.length:=by
      rcases hmem with c|c
      · rw[hnew]at c;cases c
      · exact c
    obtain⟨I,hI⟩:=Int.eq_ofNat_of_zero_le hme.1;have eX:X=Zlb s.par I d.amt d.acct ⟨s.members,s.purses,s.entry⟩:=by rw[hX,Ws,hnew,if_neg (by decide),hI,Int.toNat_natCast]
    obtain⟨bm,cm,rfl⟩:∃bm cm,om=some (bm,cm):=by
      cases om with
      | none=>have:s.members.length=0:=okm;omega
      | some p=>exact⟨_,_,rfl⟩
    have okm':=okm;have hom':=hom;have nmb':=nmb;have nm3':=nm3;clear hom nmb nm3;obtain⟨MS,hMS⟩:∃MS,MS=s.members:=⟨_,rfl⟩
    have hIl:I<MS.length:=by rw[hMS];omega
    rw[← hMS]at eX okm';rw[← hMS];have hMo:∀x∈MS,Zf x:=fun y hy=>cr.b.m y (by rw[hMS]at hy;exact hy);have hMt:tot (MS.map Zb.bal)=tot (s.members.map Zb.bal):=by rw[hMS]
    have hMl:MS.length≤128:=by rw[hMS];omega
    rw[hI];have hbm:h bm=noC:=hom'.2;have e1:NeB bb b3:=n3b;have e2:NeB bm b3:=nm3';have e3:NeB bb bm:=Ne.symm nmb';have e4:NeB b3 bm:=Ne.symm nm3';have e5:NeB b3 bb:=Ne.symm n3b;clear n3b nm3' nmb' hom';obtain⟨m,hmm⟩:∃m,m=gr ZQ MS I:=⟨_,rfl⟩
    have mo:Zf m:=hMo m (by rw[hmm];exact Yq hIl);have ub:=mo.u m.bal (by simp);have hbt:=Yl (WD hMo) I;rw[WV hIl,← hmm]at hbt;obtain⟨g1',g2',g3',g4',g5',g6'⟩:=Zcy ok mo hda;rw[Zxu hmm]at eX;rw[eX]at hk xp xt xb;simp only at hk xp xt xb;rw[VG _ _ _ _ (by omega),if_pos rfl]at xp;have hg:=Zql hIl;rw[← hmm]at hg;obtain⟨g0,g1,g2,g3,g4,g5⟩:=hg;have hi6:=Y5 (w:=6) hIl (show 5<6 by decide);have hsm:=Zwg (ms:=MS) rfl;simp only[tMo,Ye,YE];simp -dsimp -implicitDefEqProofs (disch:=first|with_reducible assumption|omega) [go_sem,g5];obtain⟨M,hM⟩:∃M,M=UE s.par m d.amt:=⟨_,rfl⟩
    obtain⟨Z,hZ⟩:∃Z,Z=d.amt-Wn s.par m d.amt:=⟨_,rfl⟩
    rw[← hM]at hk xt xb g6';rw[← hZ]at hk xp xt;refine WH (.tk 0 (.tk 1 (.tk 2 (.tk 3 (.tk 5 (.tk 6 (.tk 7 (.tk 8 (.tk 10 (.tk 13 (.tkl 4 (.tkl 9 (.tk 11 (.tkl 12 (.tkl 14 (.o1 15 (.tk 16 (.tk 17 (.tk 18 (.o1 19 (.o2 20 (.tk 21 (.fin)) (.nil)) (.nil))))) (.o1 19 (.o1 15 (.tk 16 (.tk 17 (.tk 18 (.o2 20 (.tk 21 (.fin)) (.nil))))) (.nil)) (.nil)))))))))))))))))) (by kernel_rfl) (by kernel_rfl) [(0,.pointer (some ⟨bb,0,none⟩)),(3,.pointer (some ⟨b3,0,none⟩)),(4,.int .i64 I),(5,.int .i64 m.status)] _ (γ:=Nat) (fun b6=>bb≠b6∧bm≠b6∧b3≠b6∧h b6=noC)
      (fun b6=>[(0,.pointer (some ⟨bb,0,none⟩)),(3,.pointer (some ⟨b3,0,none⟩)),(4,.int .i64 I),(5,.int .i64 m.status),(6,.pointer (some ⟨b6,0,none⟩)),(7,.int .u64 Z)])
      (fun b6=>⟨b6,74,Yv M,6⟩::⟨b3,164,[.int .i64 d.acct,.int .i64 I,.int .u64 d.amt,.bool false],4⟩::tB bb s ⟨vp,.slice (some ⟨bm,0,none⟩) MS.length cm,ovs oe s.entry.length,vx,vo,vd,vt,vk,vr⟩ r q w::tM bm cm MS::oent 3 1 oe (s.entry.map (.int .i64)) L) (fun _=>h) (by simp [Ent,List.lookup,Wo]) (Za.refl _ _) ?_ ?_
    · repeat' first
        | with_reducible refine Y4 ?_ ?_
        | simp -dsimp -implicitDefEqProofs (disch:=first|with_reducible assumption|omega) [go_sem,g0,g1,g2,g3,g4,g5]
        | (with_reducible refine Z2 fun b6 nb6 zb6 => ?_
           simp only[ZT]at nb6)
        | (with_reducible show JX prog 315 _ _ _ _
           refine Zar s.par ok hr m mo d.amt ⟨hda,by omega⟩ (by omega) ?_
           rw[← hM,← hZ])
        | with_reducible refine xkp (Za.refl _ _) ?_
        | with_reducible refine xkp (Za.tail _ _ _) ?_
        | fail
      all_goals exact⟨b6,⟨nb6.2.1,nb6.2.2.1,nb6.1,zb6⟩,by simp [Ent,List.lookup],Za.refl _ _⟩
    rintro b6 ⟨n6b,n6m,n63,h6⟩;have f1:NeB bb b6:=n6b;have f2:NeB bm b6:=n6m;have f3:NeB b3 b6:=n63;have f4:NeB b6 bb:=Ne.symm n6b;have f5:NeB b6 bm:=Ne.symm n6m;have f6:NeB b6 b3:=Ne.symm n63;clear n6b n6m n63;simp only[Yv];refine xx ?_;refine Yn (.tk 0 (.tk 1 (.tk 2 (.tk 3 (.tk 5 (.tkl 4 (.tkl 6 (.tk 7 (.o2 8 (.fin) (.nil)))))))))) (by kernel_rfl) (by kernel_rfl) _ (Za.refl _ _) ?_;refine xx ?_;refine⟨by omega,?_⟩;have hset:((((((MS.flatMap Yv).set (I*6) (Value.int .u64 M.bal)).set (I*6+1) (.int .u64 M.eff)).set (I*6+1+1) (.int .u64 M.score)).set (I*6+1+1+1) (.int .i64 M.streak)).set (I*6+1+1+1+1) (.int .i64 M.owner)).set (I*6+1+1+1+1+1) (.int .i64 M.status)=(MS.set I M).flatMap Yv:=GB Yg MS hIl M
    first
    | rw[hset]
    | (have hset' := hset
       simp only[Yv]at hset'
       rw[hset'])
    try simp -dsimp -implicitDefEqProofs (disch:=first|with_reducible assumption|omega) [go_sem]
    refine Zrx (Zc.ap (V8 (s:={ s with members:=MS.set I M }) (v:=⟨vp,.slice (some ⟨bm,0,none⟩) MS.length cm,ovs oe s.entry.length,vx,vo,vd,vt,vk,vr⟩) hp (by show s.purses.length≤1000;omega) d.acct (by show 0≤d.acct∧d.acct<s.purses.length;omega) Z (by omega) (by show at0 s.purses d.acct.toNat+Z≤_;omega) fun h1 r1 le1 i1 ap=>?_));have hbb1:h1 bb=noC:=ap.1;have hb61:h1 b6=noC:=ap.2.1;have hb31:h1 b3=noC:=ap.2.2.1;clear ap
    try simp only
    refine xx ?_;have hMl2:(MS.set I M).length=MS.length:=List.length_set;by_cases c2:M.status=m.status
    · rw[if_pos c2]at hk;have hk:=hk h1 r1 (some (bm,cm)) oe le1 (by rw[hMl2];exact okm') oke i1;rw[hMl2]at hk;refine xx ?_;exact⟨_,_,(Za.perm _ (List.perm_middle (l₁:=[_,_])).symm).trans ((Za.tail _ _ _).trans (Za.tail _ _ _)),hk⟩
    · rw[if_neg c2]at hk;refine xx ?_;refine Z2 fun b98 nb98 zb98=>?_;(try simp only[ZT]at nb98);have f7:NeB b98 bb:=Ne.symm nb98.1;clear nb98;refine xx ?_;refine Z4 (t:=27) (e:=3) (sz:=1) (bytes:=8) (z:=[.int .i64 0]) (by kernel_rfl) Zds rfl rfl rfl rfl (by decide) [_,_,_,_,_] _ oe s.entry.length (s.entry.map (.int .i64)) oke (by simp) (Src.own (b:=b98) (t:=3) (cap:=1) List.mem_cons_self) (m:=1) (news:=[.int .i64 I]) rfl (fun u hu=>by simp at hu;subst hu;rfl) (by simp [maxLen];omega) (by omega) ?_;intro oe' j1 j2 j3;simp only[List.cons_append,List.nil_append];refine xx ?_;have hk:=hk h1 r1 (some (bm,cm)) oe' le1 (by rw[hMl2];exact okm') (by simpa using j1) i1;rw[hMl2]at hk;simp only[List.map_append,List.map_cons,List.map_nil,List.length_append,List.length_singleton]at hk;exact ZP ⟨_,_,(Za.perm _ (List.perm_middle (l₁:=[_,_])).symm).trans ((Za.tail _ _ _).trans (Za.tail _ _ _)),hk⟩
section
variable {e0 s0 e1 s1 e2 s2 e3 s3 e4 s4:Nat} {o0 o1 o2 o3 o4:Option (Nat×Nat)} {X0 X1 X2 X3 X4:List Value} {a b c:Zm}
theorem permF:(oent e4 s4 o4 X4 (a::oent e0 s0 o0 X0 (oent e1 s1 o1 X1 (oent e2 s2 o2 X2 (oent e3 s3 o3 X3 L))))).Perm (a::oent e0 s0 o0 X0 (oent e1 s1 o1 X1 (oent e2 s2 o2 X2 (oent e3 s3 o3 X3 (oent e4 s4 o4 X4 L))))):=by
 refine oent_perm.symm.trans (List.Perm.cons _ ?_);refine(Yt o4 o0 X4 X0 _).trans (Z5 o0 X0 ?_);refine(Yt o4 o1 X4 X1 _).trans (Z5 o1 X1 ?_);refine(Yt o4 o2 X4 X2 _).trans (Z5 o2 X2 ?_);exact Yt o4 o3 X4 X3 _
theorem Ypl:(a::oent e0 s0 o0 X0 (oent e1 s1 o1 X1 (oent e2 s2 o2 X2 (oent e3 s3 o3 X3 (oent e4 s4 o4 X4 L))))).Perm (a::oent e0 s0 o0 X0 (oent e4 s4 o4 X4 (oent e1 s1 o1 X1 (oent e2 s2 o2 X2 (oent e3 s3 o3 X3 L))))):=by
 refine permF.symm.trans ?_;refine oent_perm.symm.trans (List.Perm.cons _ ?_);exact Yt o4 o0 X4 X0 _
theorem permO:(c::a::b::oent e1 s1 o1 X1 (oent e2 s2 o2 X2 (oent e3 s3 o3 X3 L))).Perm (a::b::oent e2 s2 o2 X2 (oent e3 s3 o3 X3 (c::oent e1 s1 o1 X1 L))):=by
 refine perm3.trans (List.Perm.cons _ (List.Perm.cons _ ?_));refine(List.Perm.cons _ ((Yt o1 o2 X1 X2 _).trans (Z5 o2 X2 (Yt o1 o3 X1 X3 _)))).trans ?_;exact oent_perm.trans (Z5 o2 X2 oent_perm)
end
structure StG where
 k:Nat
 h:PH
 d:Value
 oo:Option (Nat×Nat)
 os:Option (Nat×Nat)
structure CrG where
 k:Nat
 h:PH
 p:Value
 om:Option (Nat×Nat)
 oe:Option (Nat×Nat)
theorem Zpa {bb D:Nat}{om oe os oo ox:Option (Nat×Nat)}{s:Zd}{v:SV}{r:Zi}{q:RV}{w:Int}(ti:Zp s D)(hD:D≤30000)(hw:0≤w∧w≤1000)(hol:r.out.length≤700)(hsl:r.started.length≤700)(hp:Ints h .u64 v.p s.purses)(hd:Zh Yz 3 h v.d s.dues)(hpo:Zh Zaf 4 h v.o s.pool)
    (hm:v.m=ovs om s.members.length) (okm:okO om s.members.length) (he:v.e=ovs oe s.entry.length) (oke:okO oe s.entry.length) (hx:v.x=ovs ox s.exit.length) (okx:okO ox s.exit.length) (ho:q.o=ovs oo r.out.length) (oko:okO oo r.out.length) (hs:q.s=ovs os r.started.length) (oks:okO os r.started.length)
    (hk:∀h' pv dv ov om' oe' os' oo',PH.le h h'→Ints h' .u64 pv (enS s r (min (s.ep+w) 2147483647)).purses→Zh Yz 3 h' dv (enS s r (min (s.ep+w) 2147483647)).dues→Zh Zaf 4 h' ov (enS s r (min (s.ep+w) 2147483647)).pool →
      okO om' (enS s r (min (s.ep+w) 2147483647)).members.length→okO oe' (enS s r (min (s.ep+w) 2147483647)).entry.length→okO os' (enR s r (min (s.ep+w) 2147483647)).started.length→okO oo' (enR s r (min (s.ep+w) 2147483647)).out.length→okO ox (enS s r (min (s.ep+w) 2147483647)).exit.length →
      K (.tuple #[]) (tB bb (enS s r (min (s.ep+w) 2147483647)) { v with p:=pv,d:=dv,o:=ov,m:=ovs om' (enS s r (min (s.ep+w) 2147483647)).members.length,e:=ovs oe' (enS s r (min (s.ep+w) 2147483647)).entry.length,x:=ovs ox (enS s r (min (s.ep+w) 2147483647)).exit.length } (enR s r (min (s.ep+w) 2147483647)) { q with o:=ovs oo' (enR s r (min (s.ep+w) 2147483647)).out.length,s:=ovs os' (enR s r (min (s.ep+w) 2147483647)).started.length } w::tMo om' (enS s r (min (s.ep+w) 2147483647)).members (oent 3 1 oe' ((enS s r (min (s.ep+w) 2147483647)).entry.map (.int .i64)) (oent 3 1 os' ((enR s r (min (s.ep+w) 2147483647)).started.map (.int .i64)) (oent 3 1 oo' ((enR s r (min (s.ep+w) 2147483647)).out.map (.int .i64)) (oent 3 1 ox ((enS s r (min (s.ep+w) 2147483647)).exit.map (.int .i64)) L))))) h') :
    Zc prog 88 [.pointer (some ⟨bb,0,none⟩)] (tB bb s v r q w::tMo om s.members (oent 3 1 oe (s.entry.map (.int .i64)) (oent 3 1 os (r.started.map (.int .i64)) (oent 3 1 oo (r.out.map (.int .i64)) (oent 3 1 ox (s.exit.map (.int .i64)) L))))) h K:=by
  obtain⟨vp,vm,ve,vx,vo,vd,vt,vk,vr⟩:=v;obtain⟨qo,ql,qs,qd⟩:=q;simp only at hm hp hd hpo he hx ho hs hk ⊢;subst hm;subst he;subst hx;subst ho;subst hs;obtain⟨t,ht⟩:∃t,t=min (s.ep+w) 2147483647:=⟨_,rfl⟩
  rw[← ht]at hk;have hep:=ti.ep;have htb:0≤t∧t≤2147483647:=by omega
  have hml:=ti.ml;have hpl:=ti.pl;have hdn:=ti.dn;have hon:=ti.on;have hpc:=Z7 ti.r;have hsum:=ti.sum;obtain⟨p1,p2,p3,p4,p5,p6⟩:=ti.parts;refine Z3 func88 rfl (rs:=[]) rfl rfl ZW (by kernel_rfl) rfl rfl fun ap nd=>?_;have hbb:h bb=noC:=ap.1;clear ap nd;refine xx ?_;refine xif (fun hq=>?_) (fun hq=>?_)
  rotate_left
  · have eS:enS s r t=s:=by unfold enS;rw[hq];rfl
    have eR:enR s r t=r:=by unfold enR;rw[hq];rfl
    rw[eS,eR]at hk;have hk:=hk h vp vd vo om oe os oo (PH.le_refl _) hp hd hpo okm oke oks oko okx;refine xx ?_;exact ZO hk
  have eS:enS s r t={ s with pool:=[],members:=(enY s r t).ms,purses:=(enX s).ps,entry:=(enX s).en.drop s.par.churn.toNat,dues:=(enY s r t).ds,exit:=(enY s r t).ex }:=by unfold enS;rw[hq];rfl
  have eR:enR s r t={ r with out:=(enY s r t).out,started:=(enY s r t).go }:=by unfold enR;rw[hq];rfl
  rw[eS,eR]at hk;simp only at hk;obtain⟨oa,oc,rfl,_,_,_,hos⟩:=hpo.open;refine xx ?_;obtain⟨N,hN⟩:∃N,N=s.pool.length:=⟨_,rfl⟩
  rw[← hN];refine YO (γ:=CrG) ⟨0,h,vp,om,oe⟩ (fun y=>y.k≤N∧PH.le h y.h∧Ints y.h .u64 y.p (crK s.par s.pool ⟨s.members,s.purses,s.entry⟩ y.k).ps∧okO y.om (crK s.par s.pool ⟨s.members,s.purses,s.entry⟩ y.k).ms.length∧okO y.oe (crK s.par s.pool ⟨s.members,s.purses,s.entry⟩ y.k).en.length∧y.h bb=noC)
    (fun y=>[(28,.int .i64 y.k),(27,.int .i64 N),(26,.slice oa N oc),(0,.pointer (some ⟨bb,0,none⟩))])
    (fun y=>tB bb { s with pool:=[],members:=(crK s.par s.pool ⟨s.members,s.purses,s.entry⟩ y.k).ms,purses:=(crK s.par s.pool ⟨s.members,s.purses,s.entry⟩ y.k).ps,entry:=(crK s.par s.pool ⟨s.members,s.purses,s.entry⟩ y.k).en } ⟨y.p,ovs y.om (crK s.par s.pool ⟨s.members,s.purses,s.entry⟩ y.k).ms.length,ovs y.oe (crK s.par s.pool ⟨s.members,s.purses,s.entry⟩ y.k).en.length,ovs ox s.exit.length,.slice none 0 0,vd,vt,vk,vr⟩ r ⟨ovs oo r.out.length,ql,ovs os r.started.length,qd⟩ w::tMo y.om (crK s.par s.pool ⟨s.members,s.purses,s.entry⟩ y.k).ms (oent 3 1 y.oe ((crK s.par s.pool ⟨s.members,s.purses,s.entry⟩ y.k).en.map (.int .i64)) (oent 3 1 os (r.started.map (.int .i64)) (oent 3 1 oo (r.out.map (.int .i64)) (oent 3 1 ox (s.exit.map (.int .i64)) L))))) (fun y=>y.h) (fun y=>N-y.k) ?_ ?_ ?_ ?_
  · exact⟨Nat.zero_le _,PH.le_refl _,hp,okm,oke,hbb⟩
  · simp [Ent,List.lookup,Wo]
  · exact Za.refl _ _
  rintro⟨k,h1,pv,om1,oe1⟩ ⟨k1,le1,ip,okm1,oke1,hbb1⟩;simp only at k1 le1 ip okm1 oke1 hbb1 ⊢;obtain⟨cr,crl⟩:=Yid ti (k:=k) (by omega);by_cases c1:k<N
  · obtain⟨d,hdd⟩:∃d,d=gr YT s.pool k:=⟨_,rfl⟩
    have hdm:d∈s.pool:=by rw[hdd];exact Yq (by omega)
    obtain⟨d1,d2,d3,d4⟩:=ti.oo d hdm;obtain⟨cr2,_⟩:=Yid ti (k:=k+1) (by omega);have hsk:=(Zxx (l:=s.pool.map Zo.amt) (fun i=>V2 Zo.amt s.pool (fun x hx=>(ti.oo x hx).1.a.1) i) (k:=k+1) (by rw[List.length_map];omega)).2;have esk:Yy (s.pool.map Zo.amt) (k+1)=Yy (s.pool.map Zo.amt) k+d.amt:=by
      rw[Yy,hdd,Z8 (by omega),← Yf (by rw[List.length_map];omega),List.getElem_map]
    have eK:crK s.par s.pool ⟨s.members,s.purses,s.entry⟩ (k+1)=Ws s.par d (crK s.par s.pool ⟨s.members,s.purses,s.entry⟩ k):=by rw[crK,hdd]
    obtain⟨X,hX⟩:∃X,X=crK s.par s.pool ⟨s.members,s.purses,s.entry⟩ k:=⟨_,rfl⟩
    rw[← hX]at ip okm1 oke1 cr crl eK ⊢;have hos1:=hos.up le1;simp -dsimp -implicitDefEqProofs (disch:=first|with_reducible assumption|omega) [go_sem,↓Uw YT (by decide) hos1,Zaf];rw[← hdd];refine Z2 fun b4 nb4 zb4=>?_;(try simp only[ZT]at nb4);have n4:=nb4.1;clear nb4;simp -dsimp -implicitDefEqProofs (disch:=first|with_reducible assumption|omega) [go_sem,Zaf];refine Zc.weaken (Za.perm _ ((List.Perm.swap _ _ _).trans (List.Perm.cons _ (oent_perm.trans (Z5 _ _ oent_perm))))) ?_;have crX:ZH s.exit ⟨X.ms,X.ps,X.en⟩ s.purses.length (tot s.purses+tot (s.members.map Zb.bal)+Yy (s.pool.map Zo.amt) k):=cr;refine Zc.ap (Zjo (s:={ s with pool:=[],members:=X.ms,purses:=X.ps,entry:=X.en }) (v:=⟨pv,ovs om1 X.ms.length,ovs oe1 X.en.length,ovs ox s.exit.length,.slice none 0 0,vd,vt,vk,vr⟩) (om:=om1) (oe:=oe1) (d:=d) ti.ok.p ti.r hpl crX (by omega) d1.a.1 ⟨d2,d3⟩ (d4.imp id fun c=>⟨c.1,by show d.mem<(X.ms.length:Int);omega⟩) ip rfl okm1 rfl oke1 fun h2 p2 om2 oe2 le2 ok2 ok3 i2 ap=>?_);have hbb2:h2 bb=noC:=ap.1;clear ap;have eX:Ws s.par d ⟨X.ms,X.ps,X.en⟩=Ws s.par d X:=rfl;rw[eX]at ok2 ok3 i2 ⊢;refine xx ?_;refine⟨⟨k+1,h2,p2,om2,oe2⟩,⟨by simp only;omega,le1.trans le2,by rw[eK];exact i2,by rw[eK];exact ok2,by rw[eK];exact ok3,hbb2⟩,by simp only;omega,by simp [Ent,List.lookup],?_⟩;simp only;rw[eK];exact Za.sub (.cons_cons _ (U5 _ (U5 _ (List.sublist_cons_self _ _))))
  obtain rfl:N=k:=by omega
  have eXX:crK s.par s.pool ⟨s.members,s.purses,s.entry⟩ N=enX s:=by rw[hN];rfl
  obtain⟨cx,cxl⟩:=Yju ti;obtain⟨ew1,ew2⟩:=en_w ti;rw[eXX]at ip okm1 oke1 ⊢;have cl1:=cx.l1;refine xx ?_;refine Yn (.tk 0 (.tk 1 (.tk 2 (.tk 3 (.tk 5 (.tk 6 (.tk 7 (.tk 8 (.tk 9 (.tkl 4 (.tkl 10 (.o1 11 (.tk 12 (.tk 13 (.tk 14 (.tk 15 (.tk 16 (.fin)))))) (.nil))))))))))))) (by kernel_rfl) (by kernel_rfl) [_] drop1 ?_;refine xx ?_;refine Zc.entr fun ap nd=>?_;have aoe:=YH (Ap.oent ap.2);clear ap nd;have lx:=Wm aoe ((enX s).en.map (.int .i64));have sx:=Vy (h:=h1) (sz:=1) (n:=(enX s).en.length) (o:=oe1) (xs:=(enX s).en.map (.int .i64)) oke1 (by simp) (by omega);refine Zc.weaken ((Za.perm h1 permL).trans (Wk oe1 _ _ h1 (by decide))) ?_
  generalize Gn h1 oe1 ((enX s).en.map (.int .i64))=h2 at lx sx ⊢
  have ix:=UT cx.e cl1 sx;clear aoe sx;obtain⟨R,hR⟩:∃R,R=(enX s).en.drop s.par.churn.toNat:=⟨_,rfl⟩
  refine Zc.apn (Zc.fin (Zce _ ix (by omega) (fun z hz=>(Vi cx.e hz).1) cx.e.1 s.par.churn ⟨by omega,by omega⟩ fun h3 rv oe3 le3 iw ok3 ap3=>⟨_,_,Za.perm _ permF,fun ap nd=>?_⟩));have hbb3:h3 bb=noC:=ap.1;have hom3:apO om1 [] h3:=YH ap.2;have nmb:apB om1 bb:=Yp nd.1;clear ap nd ap3;have le13:=lx.trans le3;refine xkp (drop1.trans (Za.forget le13)) ?_;have eW:(enX s).en.take s.par.churn.toNat=enW s:=rfl;rw[eW]at iw;rw[← hR]at ok3 hk ⊢;obtain⟨N,hN2⟩:∃N,N=(enW s).length:=⟨_,rfl⟩
  obtain⟨wa,wc,rfl,_,_,_,hws⟩:=iw.open;rw[← hN2]at hws ew1 ⊢;have hpx:tot (enX s).ps+tot ((enX s).ms.map Zb.bal)=tot s.purses+tot (s.members.map Zb.bal)+tot (s.pool.map Zo.amt):=cx.t;have hpp:=cx.b.pur;obtain⟨X0,hX0⟩:∃X0:StX,X0=⟨(enX s).ms,s.dues,s.exit,r.out,r.started⟩:=⟨_,rfl⟩
  have hst:=fun k (hk:k≤N)=>Zpn ti r htb (k:=k) (by omega);rw[← hX0,← hR]at hst;have hda:=Zkf (p:=s.par) htb (enW s) (x:=X0) (rest:=R) (by rw[hX0];exact ti.dd) (fun k hk=>hst k (by omega)) (by rw[hX0];show Wp s.dues+tot ((enX s).ms.map Zb.bal)≤_;omega);refine xx ?_;refine YO (γ:=StG) ⟨0,h3,vd,oo,os⟩ (fun y=>y.k≤N∧PH.le h3 y.h∧Zh Yz 3 y.h y.d (stK s.par t (enW s) X0 y.k).ds∧okO y.oo (stK s.par t (enW s) X0 y.k).out.length∧okO y.os (stK s.par t (enW s) X0 y.k).go.length∧okO ox (stK s.par t (enW s) X0 y.k).ex.length∧y.h bb=noC∧apO om1 [] y.h)
    (fun y=>[(58,.int .i64 y.k),(57,.int .i64 N),(56,.slice wa N wc),(0,.pointer (some ⟨bb,0,none⟩))])
    (fun y=>tB bb { s with pool:=[],members:=(stK s.par t (enW s) X0 y.k).ms,purses:=(enX s).ps,entry:=R,dues:=(stK s.par t (enW s) X0 y.k).ds,exit:=(stK s.par t (enW s) X0 y.k).ex } ⟨pv,ovs om1 (enX s).ms.length,ovs oe3 R.length,ovs ox (stK s.par t (enW s) X0 y.k).ex.length,.slice none 0 0,y.d,vt,vk,vr⟩ { r with out:=(stK s.par t (enW s) X0 y.k).out,started:=(stK s.par t (enW s) X0 y.k).go } ⟨ovs y.oo (stK s.par t (enW s) X0 y.k).out.length,ql,ovs y.os (stK s.par t (enW s) X0 y.k).go.length,qd⟩ w ::
      tMo om1 (stK s.par t (enW s) X0 y.k).ms (oent 3 1 y.os ((stK s.par t (enW s) X0 y.k).go.map (.int .i64)) (oent 3 1 y.oo ((stK s.par t (enW s) X0 y.k).out.map (.int .i64)) (oent 3 1 ox ((stK s.par t (enW s) X0 y.k).ex.map (.int .i64)) (oent 3 1 oe3 (R.map (.int .i64)) L))))) (fun y=>y.h) (fun y=>N-y.k) ?_ ?_ ?_ ?_
  · refine⟨Nat.zero_le _,PH.le_refl _,?_,?_,?_,?_,hbb3,hom3⟩
    · rw[show stK s.par t (enW s) X0 0=X0 from rfl,hX0];exact hd.up (le1.trans le13)
    · rw[show stK s.par t (enW s) X0 0=X0 from rfl,hX0];exact oko
    · rw[show stK s.par t (enW s) X0 0=X0 from rfl,hX0];exact oks
    · rw[show stK s.par t (enW s) X0 0=X0 from rfl,hX0];exact okx
  · simp [Ent,List.lookup]
  · rw[show stK s.par t (enW s) X0 0=X0 from rfl,hX0];exact Za.refl _ _
  rintro⟨k,h4,dv,oo1,os1⟩ ⟨k1,le4,id4,oko1,oks1,okx1,hbb4,hom4⟩;simp only at k1 le4 id4 oko1 oks1 okx1 hbb4 hom4 ⊢;have st:=hst k k1;have sl:(stK s.par t (enW s) X0 k).ms.length=(enX s).ms.length:=by rw[st.l1,hX0]
  have su:(stK s.par t (enW s) X0 k).out.length≤r.out.length+k:=by have:=st.u;rw[hX0]at this ⊢;exact this
  have sg:(stK s.par t (enW s) X0 k).go.length≤r.started.length+k:=by have:=st.g;rw[hX0]at this ⊢;exact this
  have sn:(stK s.par t (enW s) X0 k).ds.length≤s.dues.length+k:=by have:=st.n;rw[hX0]at this ⊢;exact this
  have stt:Wp (stK s.par t (enW s) X0 k).ds+tot ((stK s.par t (enW s) X0 k).ms.map Zb.bal)=Wp s.dues+tot ((enX s).ms.map Zb.bal):=by have:=st.t;rw[hX0]at this ⊢;exact this
  have sxl:=V5 st.rx;by_cases c1:k<N
  · have hd0:(enW s).drop k=at0 (enW s) k::(enW s).drop (k+1):=by rw[List.drop_eq_getElem_cons (by omega),Yf (by omega)]
    have hin:=Vi st.e (z:=at0 (enW s) k) (by rw[hd0];simp);obtain⟨i,hi⟩:=Int.eq_ofNat_of_zero_le hin.1;rw[hi]at hin;have hws4:∀j,j<N→Yd h4 wa j=some (.int .i64 (at0 (enW s) j)):=fun j hj=>WN le4 (hws j hj);have eK:stK s.par t (enW s) X0 (k+1)=Jg s.par t i (stK s.par t (enW s) X0 k):=by rw[stK,hi,Int.toNat_natCast]
    have hda1:=hda k (by omega);obtain⟨X,hX⟩:∃X,X=stK s.par t (enW s) X0 k:=⟨_,rfl⟩
    rw[← hX]at id4 oko1 oks1 okx1 st sl su sg sn stt sxl hin hda1 eK ⊢;have hi2:i<X.ms.length:=by omega
    obtain⟨bm,cm,rfl⟩:∃bm cm,om1=some (bm,cm):=by
      cases om1 with
      | none=>have:(enX s).ms.length=0:=okm1;omega
      | some p=>exact⟨_,_,rfl⟩
    have nmb':bm≠bb:=nmb;have hbm4:h4 bm=noC:=hom4.2;obtain⟨m,hmm⟩:∃m,m=gr ZQ X.ms i:=⟨_,rfl⟩
    have mo:Zf m:=by rw[hmm];exact st.m _ (Yq hi2)
    have hoo:=st.o _ (Yq (z:=ZQ) hi2);have hg:=Zql hi2;rw[← hmm]at hg;obtain⟨g0,g1,g2,g3,g4,g5⟩:=hg;have hi6:=Y5 (w:=6) hi2 (show 5<6 by decide);have hsm:=Zwg (ms:=X.ms) rfl;simp only[tMo,Ye,YE];simp -dsimp -implicitDefEqProofs (disch:=first|with_reducible assumption|omega) [go_sem,idx hws4];rw[hi];obtain⟨M,hM⟩:∃M,M=WU s.par m:=⟨_,rfl⟩
    refine WH (.tk 0 (.tk 1 (.tk 2 (.tk 3 (.tk 5 (.tk 6 (.tk 7 (.tk 8 (.tk 10 (.tkl 4 (.tkl 9 (.tk 11 (.tkl 12 (.o1 13 (.tk 14 (.tk 15 (.tk 16 (.o1 17 (.o2 18 (.tk 19 (.fin)) (.nil)) (.nil))))) (.o1 17 (.o1 13 (.tk 14 (.tk 15 (.tk 16 (.o2 18 (.tk 19 (.fin)) (.nil))))) (.nil)) (.nil)))))))))))))))) (by kernel_rfl) (by kernel_rfl) [(0,.pointer (some ⟨bb,0,none⟩)),(8,.int .i64 i),(58,.int .i64 k),(57,.int .i64 N),(56,.slice wa N wc)] _ (γ:=Nat) (fun b9=>bb≠b9∧bm≠b9∧h4 b9=noC)
      (fun b9=>[(0,.pointer (some ⟨bb,0,none⟩)),(8,.int .i64 i),(58,.int .i64 k),(57,.int .i64 N),(56,.slice wa N wc),(9,.pointer (some ⟨b9,0,none⟩)),(10,.bool M.2)])
      (fun b9=>⟨b9,74,Yv M.1,6⟩::tB bb { s with pool:=[],members:=X.ms,purses:=(enX s).ps,entry:=R,dues:=X.ds,exit:=X.ex } ⟨pv,.slice (some ⟨bm,0,none⟩) (enX s).ms.length cm,ovs oe3 R.length,ovs ox X.ex.length,.slice none 0 0,dv,vt,vk,vr⟩ { r with out:=X.out,started:=X.go } ⟨ovs oo1 X.out.length,ql,ovs os1 X.go.length,qd⟩ w ::
        tM bm cm X.ms::oent 3 1 os1 (X.go.map (.int .i64)) (oent 3 1 oo1 (X.out.map (.int .i64)) (oent 3 1 ox (X.ex.map (.int .i64)) (oent 3 1 oe3 (R.map (.int .i64)) L)))) (fun _=>h4) (by simp [Ent,List.lookup]) (Za.refl _ _) ?_ ?_
    · repeat' first
        | with_reducible refine Y4 ?_ ?_
        | simp -dsimp -implicitDefEqProofs (disch:=first|with_reducible assumption|omega) [go_sem,g0,g1,g2,g3,g4,g5]
        | (with_reducible refine Z2 fun b9 nb9 zb9 => ?_
           simp only[ZT]at nb9)
        | (with_reducible show JX prog 218 _ _ _ _
           refine Znu s.par ti.ok.p ti.r m mo ?_
           rw[← hM])
        | with_reducible refine xkp (Za.refl _ _) ?_
        | with_reducible refine xkp (Za.tail _ _ _) ?_
        | fail
      all_goals exact⟨b9,⟨nb9.1,nb9.2.1,zb9⟩,by simp [Ent,List.lookup],Za.refl _ _⟩
    rintro b9 ⟨n9b,n9m,h9⟩;obtain⟨M1,M2⟩:=M;simp only;have stp:=Zhn ti.ok.p ti.r mo;rw[← hM]at stp;simp only at stp;have eK2:stK s.par t (enW s) X0 (k+1)=if M2 then { X with ms:=X.ms.set i M1,go:=X.go++[(i:Int)] } else ⟨X.ms.set i (Zqu m),Jv X.ds (U8 t m),flt X.ex i,X.out++[(i:Int)],X.go⟩:=by
      rw[eK,Jg,← hmm,← hM]
    have hbt:=Yl (WD st.m) i;rw[WV hi2,← hmm]at hbt
    cases M2 with
    | true =>
      rw[if_pos rfl]at eK2;simp only[Yv];refine xx ?_;refine Yn (.tk 0 (.tk 1 (.tk 2 (.tk 3 (.tk 5 (.tkl 4 (.tkl 6 (.tk 7 (.o2 8 (.fin) (.nil)))))))))) (by kernel_rfl) (by kernel_rfl) _ (Za.refl _ _) ?_;refine xx ?_;refine⟨by omega,?_⟩;have hset:((((((X.ms.flatMap Yv).set (i*6) (Value.int .u64 M1.bal)).set (i*6+1) (.int .u64 M1.eff)).set (i*6+1+1) (.int .u64 M1.score)).set (i*6+1+1+1) (.int .i64 M1.streak)).set (i*6+1+1+1+1) (.int .i64 M1.owner)).set (i*6+1+1+1+1+1) (.int .i64 M1.status)=(X.ms.set i M1).flatMap Yv:=GB Yg X.ms hi2 M1
      first
      | rw[hset]
      | (have hset' := hset
         simp only[Yv]at hset'
         rw[hset'])
      try simp -dsimp -implicitDefEqProofs (disch:=first|with_reducible assumption|omega) [go_sem]
      refine Z2 fun b99 nb99 zb99=>?_;(try simp only[ZT]at nb99);have n99:bb≠b99:=nb99.2.1;clear nb99;refine xx ?_;refine Z4 (t:=27) (e:=3) (sz:=1) (bytes:=8) (z:=[.int .i64 0]) (by kernel_rfl) Zds rfl rfl rfl rfl (by decide) [_,_,_,_] _ os1 X.go.length (X.go.map (.int .i64)) oks1 (by simp) (Src.own (b:=b99) (t:=3) (cap:=1) List.mem_cons_self) (m:=1) (news:=[.int .i64 i]) rfl (fun u hu=>by simp at hu;subst hu;rfl) (by simp [maxLen];omega) (by omega) ?_;intro os2 j1 j2 j3;simp only[List.cons_append,List.nil_append];refine xx ?_;refine⟨⟨k+1,h4,dv,oo1,os2⟩,⟨by simp only;omega,le4,by rw[eK2];exact id4,by rw[eK2];exact oko1,by rw[eK2];simpa using j1,by rw[eK2];exact okx1,hbb4,hom4⟩,by simp only;omega,by simp [Ent,List.lookup],?_⟩;simp only;rw[eK2];simp only[List.map_append,List.map_cons,List.map_nil,List.length_append,List.length_singleton,tMo,Ye,YE];exact(Za.tail _ _ _).trans (Za.tail _ _ _)
    | false =>
      rw[if_neg (by decide)]at eK2;refine xx ?_;have how2:0≤(gr ZQ X.ms i).owner∧(gr ZQ X.ms i).owner≤63:=by omega
      have hbt2:Wp X.ds+(gr ZQ X.ms i).bal≤4611686018427387904:=by rw[← hmm];omega
      refine Zc.fin (Zc.weaken (Za.perm _ permO) (Zc.ap (Znk (s:={ s with pool:=[],members:=X.ms,purses:=(enX s).ps,entry:=R,dues:=X.ds,exit:=X.ex }) (v:=⟨pv,.slice (some ⟨bm,0,none⟩) (enX s).ms.length cm,ovs oe3 R.length,ovs ox X.ex.length,.slice none 0 0,dv,vt,vk,vr⟩) (r:={ r with out:=X.out,started:=X.go }) (q:=⟨ovs oo1 X.out.length,ql,ovs os1 X.go.length,qd⟩) (by rw[sl]) (by show X.ms.length≤900;omega) st.m id4 st.d (by show X.ds.length≤32000;omega) i hi2 how2 hw (by show 0≤s.ep∧s.ep≤_;omega) hbt2 rfl okx1 (by show X.ex.length≤900;omega) rfl oko1 (by show X.out.length≤900;omega) fun h5 d5 oo5 le5 i5 ok5 ap=>⟨_,_,Za.perm _ permO.symm,?_⟩)));have hbb5:h5 bb=noC:=ap.1;have hbm5:apO (some (bm,cm)) [] h5:=⟨trivial,ap.2.1⟩
      clear ap;refine xx ?_;have ew:Jv X.ds (U8 t m)=Jv X.ds (U8 (min (s.ep+w) 2147483647) (gr ZQ X.ms i)):=by rw[ht,hmm]
      have em:Zqu m=Ga (gr ZQ X.ms i) 4:=by rw[hmm];rfl
      refine⟨⟨k+1,h5,d5,oo5,os1⟩,⟨by simp only;omega,le4.trans le5,by rw[eK2,ew];exact i5,by rw[eK2];simpa using ok5,by rw[eK2];exact oks1,by rw[eK2];exact Zlw okx1 (Zyb _ _),hbb5,hbm5⟩,by simp only;omega,by simp [Ent,List.lookup],?_⟩;simp only;rw[eK2,ew,em];simp only[List.map_append,List.map_cons,List.map_nil,List.length_append,List.length_singleton,tMo,Ye,YE];exact Za.tail _ _ _
  obtain rfl:N=k:=by omega
  have eY:stK s.par t (enW s) X0 N=enY s r t:=by rw[hN2,hX0];rfl
  rw[eY]at id4 oko1 oks1 okx1 sl ⊢;have hk:=hk h4 pv dv (.slice none 0 0) om1 oe3 os1 oo1 (le1.trans (le13.trans le4)) (ip.up (le13.trans le4)) id4 (Zh.nil V1 _) (by rw[sl];exact okm1) ok3 oks1 oko1 okx1;rw[sl]at hk;refine xx ?_;exact⟨_,_,Za.perm _ Ypl,hk⟩
open Go.RowKit Go.Proofs Go.Bl Go.Proofs.Tryz
variable {L:Own} {h:PH} {K:PK}
def csN (f:Zn→Zn)(l:List Zn):Nat→List Zn
 | 0=>l
 | k+1=>(csN f l k).set k (f (gr Yc l k))
theorem Jr (f:Zn→Zn)(l:List Zn):∀k,(csN f l k).length=l.length
 | 0=>rfl
 | k+1=>by rw[csN,List.length_set];exact Jr f l k
theorem Zms (f:Zn→Zn)(l:List Zn):∀k,k≤l.length→∀j,gr Yc (csN f l k) j=if j<k then f (gr Yc l j) else gr Yc l j
 | 0,_,j=>by simp [csN]
 | k+1,hk,j=>by
  rw[csN,Zug (by rw[Jr];omega)];by_cases e:j=k
  ·subst e;rw[if_pos rfl,if_pos (by omega)]
  ·rw[if_neg e,Zms f l k (by omega) j];by_cases c:j<k
   ·rw[if_pos c,if_pos (by omega)]
   ·rw[if_neg c,if_neg (by omega)]
theorem Yhe (f:Zn→Zn)(l:List Zn):csN f l l.length=l.map f:=by
 refine List.ext_getElem (by rw[Jr,List.length_map]) fun j h1 h2=>?_;have hj:j<l.length:=by rwa [Jr]at h1
 rw[← Z8 (z:=Yc) h1,Zms f l _ (Nat.le_refl _),if_pos hj,Z8 hj,List.getElem_map]
theorem Zzd (f:Zn→Zn)(l:List Zn){k:Nat}(hk:k<l.length)(hf:f (gr Yc l k)=gr Yc l k):csN f l (k+1)=csN f l k:=by
 have hl:=Jr f l k;have h1:=Zms f l k (by omega) k;rw[if_neg (by omega),Z8 (by omega)]at h1;rw[csN,hf,← h1,List.set_getElem_self]
structure ClG where
 k:Nat
 h:PH
 q:List QM
theorem permCl {e0 s0:Nat}{o0:Option (Nat×Nat)}{X0:List Value}{a b:Zm}{L:Own}:(a::b::oent e0 s0 o0 X0 L).Perm (oent e0 s0 o0 X0 (a::b::L)):=Yj [a,b]
theorem permCl3 {e0 s0:Nat}{o0:Option (Nat×Nat)}{X0:List Value}{a b c:Zm}{L:Own}:(a::b::c::oent e0 s0 o0 X0 L).Perm (oent e0 s0 o0 X0 (a::b::c::L)):=Yj [a,b,c]
theorem Zuj {e sz:Nat}{o:Option (Nat×Nat)}{xs:List Value}(A:Own){L:Own}(ap:Ap (A++oent e sz o xs L) h)(nd:Nd (A++oent e sz o xs L)):apO o (A++L) h:=by
 have ap:=ap.perm (Yj A);have nd:=nd.perm (Yj A)
 cases o with
 | none=>trivial
 | some p=>exact⟨nd.1,ap.1⟩
theorem Yax {e sz:Nat}{o:Option (Nat×Nat)}{xs:List Value}{a b:Zm}{L:Own}(ap:Ap (a::b::oent e sz o xs L) h)(nd:Nd (a::b::oent e sz o xs L)):apO o (a::b::L) h:=Zuj [a,b] ap nd
theorem Ycq {e sz:Nat}{o:Option (Nat×Nat)}{xs:List Value}{a b c:Zm}{L:Own}(ap:Ap (a::b::c::oent e sz o xs L) h)(nd:Nd (a::b::c::oent e sz o xs L)):apO o (a::b::c::L) h:=Zuj [a,b,c] ap nd
theorem Zpc {ql:List QM}{ms:List Zn}{l:List Zb}{om:Option (Nat×Nat)}(p:Ze)(ok:Zj p)(hen:0≤p.enact∧p.enact≤1000000)(ep:Int)(hep:0≤ep∧ep≤1073741824)(v:Value)(hv:Zh WE 33 h v ql)(hq:ql.map (fun x=>x.2.2)=ms)(hm:WF h ql)(hl:ql.length≤1000)(hb:∀m∈ms,m.yes.length≤1000∧m.no.length≤1000)(okm:okO om l.length)(hml:l.length≤1000)(mo:∀x∈l,Zf x)(hA:U9 l≤18446744073709551615)
    (hk:∀h' r ql',PH.le h h'→Zh WE 33 h' r ql'→ql'.map (fun x=>x.2.2)=Zwp p l ep ms→WF h' ql'→K r (tMo om l L) h') :
    Zc prog 219 [Ud p,v,ovs om l.length,.int .i64 ep] (tMo om l L) h K:=by
  have hql:ql.length=ms.length:=by rw[← hq,List.length_map]
  have hv0:=hv;obtain⟨va,vc,rfl,_⟩:=hv.open;rw[hql]at hv0 ⊢;obtain⟨f,hf⟩:∃f,f=G0 p l ep:=⟨_,rfl⟩
  obtain⟨N,hN⟩:∃N,N=ms.length:=⟨_,rfl⟩
  refine Z3 func219 rfl (rs:=[_]) rfl rfl ZW (by kernel_rfl) rfl rfl fun ap nd=>?_;have hom:apO om [] h:=YH ap;have ndo:=nd;clear ap nd;refine xx ?_;refine Z2 fun b4 nb4 zb4=>?_;(try simp only[ZT]at nb4);have nm4:apB om b4:=Yp nb4;clear nb4;refine xx ?_;refine Zc.apn (Zne _ hv0 hq hm hl hb fun h5 o ql' le5 oko apo eq' mo' ap nd=>?_);have hql':ql'.length=ms.length:=by rw[← eq',List.length_map]
  have no4:apB o b4:=(Zrs nd).1;have nod:Nd (oent 120 33 o (ql'.flatMap WE) (tMo om l L)):=(Zrs nd).2;have hb45:h5 b4=noC:=(Ap.oent ap).1;have hom5:apO om [] h5:=YH (Ap.oent ap).2;have hom6:apO o [] h5:=YH ap;clear ap nd apo;obtain⟨oa,oc,eo,_⟩:=Z9 oko;rw[eo];refine xx ?_;rw[← hN];refine YO (γ:=ClG) ⟨0,h5,ql'⟩ (fun y=>y.k≤N∧PH.le h5 y.h∧y.q.map (fun x=>x.2.2)=csN f ms y.k∧WF y.h y.q∧y.h b4=noC∧apO om [] y.h∧apO o [] y.h)
    (fun y=>[(18,.int .i64 y.k),(17,.int .i64 N),(9,.slice oa N oc),(2,ovs om l.length),(3,.int .i64 ep),(4,.pointer (some ⟨b4,0,none⟩))])
    (fun y=>oent 120 33 o (y.q.flatMap WE) (⟨b4,24,Zbs p,24⟩::tMo om l L)) (fun y=>y.h) (fun y=>N-y.k) ?_ ?_ ?_ ?_
  · exact⟨Nat.zero_le _,PH.le_refl _,eq',mo',hb45,hom5,hom6⟩
  · simp [Ent,List.lookup,Wo,hN]
  · exact Za.refl _ _
  rintro⟨k,h6,q⟩ ⟨k1,le6,eq6,mo6,hb46,hom7,hom8⟩;simp only at k1 le6 eq6 mo6 hb46 hom7 hom8 ⊢;have hql6:q.length=N:=by rw[← List.length_map (f:=fun x:QM=>x.2.2),eq6,Jr,hN]
  by_cases c1:k<N
  · obtain ⟨bo,co,rfl⟩ : ∃ bt cap,o = some (bt,cap) := by
      cases o with
      | none=>have:ms.length=0:=oko;omega
      | some p=>exact⟨_,_,rfl⟩
    simp only[YE,Value.slice.injEq]at eo;obtain⟨rfl,_,rfl⟩:=eo;have hbo:h6 bo=noC:=hom8.2;have no4':bo≠b4:=no4;have nob:apB om bo:=by
      cases om with
      | none=>trivial
      | some p=>exact nod.1.1
    obtain⟨qk,hqk⟩:∃qk,qk=gr Z6 q k:=⟨_,rfl⟩
    have hkq:k<q.length:=by omega
    have hmk:Zu h6 qk:=by rw[hqk,Z8 hkq];exact mo6 _ (List.getElem_mem _)
    obtain⟨md,hmd⟩:∃md,md=qk.2.2:=⟨_,rfl⟩
    have egr:md=gr Yc ms k:=by
      rw[hmd,hqk,Zjk eq6 (by rw[Jr];omega),Zms _ _ _ (by omega),if_neg (by omega)]
    have hcs:csN f ms (k+1)=(csN f ms k).set k (f md):=by rw[csN,egr]
    have hsame:f md=md→csN f ms (k+1)=csN f ms k:=fun e=>Zzd f ms (by omega) (by rw[← egr];exact e);have g29:∀(K:Value→Prop) (t:Zk K),Wz (q.flatMap WE) (k*33+28) K t=K (.int .i64 md.ends):=fun K t=>Z1 Yh Z6 q hkq (by decide) (by rw[← hqk,hmd];rfl) K t;have g30:∀(K:Value→Prop) (t:Zk K),Wz (q.flatMap WE) (k*33+30) K t=K (.int .i64 md.state):=fun K t=>Z1 Yh Z6 q hkq (by decide) (by rw[← hqk,hmd];rfl) K t;have g31:∀(K:Value→Prop) (t:Zk K),Wz (q.flatMap WE) (k*33+31) K t=K qk.1:=fun K t=>Z1 Yh Z6 q hkq (by decide) (by rw[← hqk];rfl) K t;have g32:∀(K:Value→Prop) (t:Zk K),Wz (q.flatMap WE) (k*33+32) K t=K qk.2.1:=fun K t=>Z1 Yh Z6 q hkq (by decide) (by rw[← hqk];rfl) K t;have hk33:=Y5 (n:=q.length) (w:=33) hkq (m:=32) (by decide);have hsum:(q.map fun a=>(WE a).length).sum=q.length*33:=by rw[← List.length_flatMap,Z0 Yh]
    simp only[Ye];by_cases s12:md.state=1∧md.ends≤ep
    rotate_left
    · have e1:f md=md:=by rw[hf,G0,if_neg s12]
      have e2:=hsame e1;have fin:∀E,Ent E [(18,.int .i64 (k+1:Nat)),(17,.int .i64 N),(9,.slice (some ⟨bo,0,none⟩) N co),(2,ovs om l.length),(3,.int .i64 ep),(4,.pointer (some ⟨b4,0,none⟩))]→True:=fun _ _=>trivial;by_cases s1:md.state=1
      · have s2 : ep < md.ends := by
          have:=fun c=>s12 ⟨s1,c⟩;omega
        simp -dsimp -implicitDefEqProofs (disch:=first|with_reducible assumption|omega) [go_sem,g29,g30,s1];exact⟨⟨k+1,h6,q⟩,⟨by simp only;omega,le6,by rw[e2];exact eq6,mo6,hb46,hom7,hom8⟩,by simp only;omega,by simp [Ent,List.lookup],Za.refl _ _⟩
      · simp -dsimp -implicitDefEqProofs (disch:=first|with_reducible assumption|omega) [go_sem,g29,g30];exact⟨⟨k+1,h6,q⟩,⟨by simp only;omega,le6,by rw[e2];exact eq6,mo6,hb46,hom7,hom8⟩,by simp only;omega,by simp [Ent,List.lookup],Za.refl _ _⟩
    obtain⟨s1,s2⟩:=s12;have hy:=hmk.y;have hn:=hmk.n;obtain⟨ya,yc,ey,_⟩:=hy.open;obtain⟨na,nc,en,_⟩:=hn.open;rw[← hmd]at hy hn ey en;simp -dsimp -implicitDefEqProofs (disch:=first|with_reducible assumption|omega) [go_sem,g29,g30,s1];refine WH (.tk 0 (.tk 1 (.tk 2 (.tk 3 (.tk 5 (.tk 6 (.tk 7 (.tkl 4 (.tkl 8 (.o1 9 (.tk 10 (.tk 11 (.tk 12 (.o1 13 (.o2 14 (.tk 15 (.fin)) (.nil)) (.nil))))) (.o1 13 (.o1 9 (.tk 10 (.tk 11 (.tk 12 (.o2 14 (.tk 15 (.fin)) (.nil))))) (.nil)) (.nil)))))))))))) (by kernel_rfl) (by kernel_rfl) [(2,ovs om l.length),(3,.int .i64 ep),(4,.pointer (some ⟨b4,0,none⟩)),(9,.slice (some ⟨bo,0,none⟩) N co),(11,.pointer (some ⟨bo,k*33,none⟩)),(17,.int .i64 N),(18,.int .i64 k)] [⟨bo,120,q.flatMap WE,co*33⟩] (γ:=Nat×PH) (fun y=>PH.le h6 y.2∧y.2 y.1=noC∧b4≠y.1∧bo≠y.1∧apB om y.1∧y.2 b4=noC∧y.2 bo=noC∧apO om [] y.2)
      (fun y=>[(2,ovs om l.length),(3,.int .i64 ep),(4,.pointer (some ⟨b4,0,none⟩)),(9,.slice (some ⟨bo,0,none⟩) N co),(11,.pointer (some ⟨bo,k*33,none⟩)),(17,.int .i64 N),(18,.int .i64 k),(12,.pointer (some ⟨y.1,0,none⟩)),(13,.int .i64 0)])
      (fun y=>⟨y.1,386,[.int .u64 (Gx l md.yes),.int .u64 (Gx l md.no),.int .u64 (U9 l)],3⟩::⟨bo,120,q.flatMap WE,co*33⟩::⟨b4,24,Zbs p,24⟩::tMo om l L) (fun y=>y.2) (by simp [Ent,List.lookup]) drop1 ?_ ?_
    · repeat' first
        | with_reducible refine Y4 ?_ ?_
        | simp -dsimp -implicitDefEqProofs (disch:=first|with_reducible assumption|omega) [go_sem,g31,g32]
        | (with_reducible refine Z2 fun b12 nb12 zb12 => ?_
           simp only[ZT]at nb12)
        | (with_reducible show JX prog 317 _ _ _ _
           refine Zc.entr fun ap nd=>?_;refine Zc.fin (Zc.weaken (Za.perm _ permCl) (Zc.apn (G5 om okm (Yax ap nd) _ _ hml mo hy hn hA fun h7 le7 ap nd=>⟨_,_,Za.perm _ permCl.symm,?_⟩)));have hom9:apO om [] h7:=YH ap;have hbo7:h7 bo=noC:=(Ap.oent ap).1;have hb47:h7 b4=noC:=(Ap.oent ap).2.1
           clear ap nd)
        | (with_reducible show JX prog 317 _ _ _ _
           refine Zc.entr fun ap nd=>?_;refine Zc.fin (Zc.weaken (Za.perm _ permCl3) (Zc.apn (G5 om okm (Ycq ap nd) _ _ hml mo hy hn hA fun h7 le7 ap nd=>⟨_,_,Za.perm _ permCl3.symm,?_⟩)));have hom9:apO om [] h7:=YH ap;have hb127:h7 b12=noC:=(Ap.oent ap).1;have hbo7:h7 bo=noC:=(Ap.oent ap).2.1;have hb47:h7 b4=noC:=(Ap.oent ap).2.2.1
           clear ap nd)
        | with_reducible refine xkp drop1 ?_
        | with_reducible refine xkp (drop1.trans (Za.forget le7)) ?_
        | with_reducible refine xkp ((Za.tail _ _ _).trans drop1) ?_
        | with_reducible refine xkp ((Za.tail _ _ _).trans (drop1.trans (Za.forget le7))) ?_
        | fail
      · exact⟨b12,h7,⟨le7,zb12,nb12.2.1,nb12.1,Yp nb12.2.2,hb47,hbo7,hom9⟩,by simp [Ent,List.lookup],Za.refl _ _⟩
      · exact⟨b12,h7,⟨le7,hb127,nb12.2.1,nb12.1,Yp nb12.2.2,hb47,hbo7,hom9⟩,by simp [Ent,List.lookup],Za.refl _ _⟩
    rintro⟨b12,h7⟩ ⟨le7,h12,n412,no12,nm12,hb47,hbo7,hom9⟩;simp only at le7 h12 n412 no12 nm12 hb47 hbo7 hom9 ⊢;have up:=Vg (ks:=md.yes) mo;have un:=Vg (ks:=md.no) mo;have mo7:WF h7 q:=fun x hx=>(mo6 x hx).up le7;have hmk7:Zu h7 qk:=hmk.up le7;refine xx ?_;refine Zsf p ok (Gx l md.yes) (Gx l md.no) (U9 l) ⟨up.1,by omega⟩ ⟨un.1,by omega⟩ ⟨by omega,hA⟩ ?_;have hql3:∀X:QM,(q.set k X).length=N:=fun X=>by rw[List.length_set];exact hql6
    cases hpb:Ybb p.quorum (Gx l md.yes) (Gx l md.no) (U9 l) with
    | false =>
      have e1:f md={ md with state:=4 }:=by rw[hf,G0,if_pos ⟨s1,s2⟩,hpb];rfl
      have s4:=Zlx hkq 4;rw[← hqk,← hmd]at s4;refine xx ?_;refine⟨by omega,?_⟩;rw[s4];refine⟨⟨k+1,h7,q.set k (qk.1,qk.2.1,{ md with state:=4 })⟩,⟨by simp only;omega,le6.trans le7,by simp only;rw[Zaj,eq6,hcs,e1],Zdg mo7 (by rw[hmd];exact Zdt hmk7 (st:=4) (by decide) (hmk7.ok.n _ (by simp))),hb47,hom9,trivial,hbo7⟩,by simp only;omega,by simp [Ent,List.lookup],Za.tail _ _ _⟩
    | true =>
      have hmx:min ep (2147483647-p.enact)+p.enact=min (ep+p.enact) 2147483647:=by omega
      have e1:f md={ md with state:=2,due:=min (ep+p.enact) 2147483647 }:=by rw[hf,G0,if_pos ⟨s1,s2⟩,hpb];rfl
      have s4:=Zlx hkq 2;rw[← hqk,← hmd]at s4;have hk2:k<(q.set k (qk.1,qk.2.1,{ md with state:=2 })).length:=by rw[List.length_set];exact hkq
      have s5:=Yga hk2 (min (ep+p.enact) 2147483647);have eg:gr Z6 (q.set k (qk.1,qk.2.1,{ md with state:=2 })) k=(qk.1,qk.2.1,{ md with state:=2 }):=by rw[Z8 hk2,List.getElem_set_self]
      rw[eg,List.set_set]at s5;have mx1:max ep (-2147483647)=ep:=by omega
      have mx2:max p.enact 0=p.enact:=by omega
      simp -dsimp -implicitDefEqProofs (disch:=first|with_reducible assumption|omega) [go_sem,YK,mx1,mx2];refine⟨by omega,?_⟩;rw[s4];simp -dsimp -implicitDefEqProofs (disch:=first|with_reducible assumption|omega) [go_sem,YK,mx1,mx2,hmx];refine⟨by rw[hsum];omega,?_⟩;rw[s5];refine⟨⟨k+1,h7,q.set k (qk.1,qk.2.1,{ md with state:=2,due:=min (ep+p.enact) 2147483647 })⟩,⟨by simp only;omega,le6.trans le7,by simp only;rw[Zaj,eq6,hcs,e1],Zdg mo7 (by rw[hmd];exact Zdt hmk7 (st:=2) (by decide) (by omega)),hb47,hom9,trivial,hbo7⟩,by simp only;omega,by simp [Ent,List.lookup],Za.tail _ _ _⟩
  have hkN:k=N:=by omega
  subst hkN;rw[hN,Yhe]at eq6;rw[hN]at hql6;refine xx ?_;refine Wh (e:=120) (sz:=33) (n:=ms.length) (o:=o) oko (by rw[Z0 Yh,hql6]) (by omega) hom8 fun h7 le7 sl=>ZP (ZO ?_);refine hk h7 _ q (le5.trans (le6.trans le7)) (by have:=Zh.pub (f:=WE) (w:=33) (l:=q) (o:=o) Yh (by rw[hql6];exact sl);rw[hql6,eo,← hN]at this;exact this) (by rw[eq6,hf];rfl) (fun x hx=>(mo6 x hx).up le7)
end Go.X

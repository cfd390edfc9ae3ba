/- Lemmas and contracts. Conditions: as each says. -/
import Derived.Test.YtllhopbilpdpkaaGreatQ29
set_option linter.unusedVariables false
set_option linter.unusedSimpArgs false
set_option maxHeartbeats 12800000
set_option maxRecDepth 20000
namespace Go.X
open Go.RowKit Go.Proofs Go.Bl Go.Proofs.Tryz
variable {L:Own} {h:PH} {K:PK}
theorem VW {e sz:Nat}{o:Option (Nat×Nat)}{cs:List Value}{L:Own}{x:Zn}(hx:x∈L):x∈oent e sz o cs L:=by
 cases o with
 | none=>exact hx
 | some p=>exact List.mem_cons_of_mem _ hx
theorem Zhf {b c i sz:Nat}(hne:c≠i):Gk (some ⟨b,0,none⟩) c i sz=some ⟨b,i*sz,none⟩:=by
 rw[Gk,if_neg hne,Option.map_some,Ud,Nat.zero_add]
theorem int27:tSh prog 27 = .sl 3 1 8:=by kernel_rfl
theorem Zun {l:List Zh}(v:Value)(hv:Zd Yh 3 h v l)(hl:l.length<=34000)(hk:∀o,okO o l.length->apO o L h->K (ovs o l.length) (oent 167 3 o (l.flatMap Yh) L) h):Zb prog 102 [v] L h K:=by
 have hx:=hv;obtain⟨a,ca,rfl,hna,hca,h0,_⟩:=hx.open;refine ed func102 ?_;refine xx ?_
 cases ha:a.isNone with
 | true =>
  have ha':a=none:=qP;subst ha';have hl0:l.length=0:=by have:=h0 rfl;omega
  have hx':l=[]:=List.eq_nil_of_length_eq_zero hl0;subst hx';refine xx ?_;exact ZP (hk none rfl trivial)
 | false =>
  refine xx ?_;refine ZY fun b1 nb1 zb1=>?_;(try simp only[ZS]at nb1);refine xx ?_;refine ZZ (t:=29) (e:=167) (sz:=3) (bytes:=24) qg Jb rfl rfl rfl rfl qh [] L (some (b1,0)) 0 [] ⟨Nat.le_refl _,Nat.zero_le _⟩ rfl (Src.known hx.s) (news:=l.flatMap Yh) (Z1 Yd l) (Vy Ug l) qm qf ?_;intro o' j1 j2 j3;simp only[Nat.zero_add,List.nil_append]at j1 j2 ⊢;refine xx ?_;exact ZP (hk o' j1 j2)
abbrev dueV (d:Zh):Value := .agg #[.int .i64 d.au,.int .i64 d.at',.int .u64 d.amt]
theorem Yks (x d:Zh)(b:Nat)(hb:(⟨b,167,Yh d,3⟩:Zn)∈L)(hk:K (.bool (JT d x)) L h):Zb prog 374 [dueV x,.pointer (some ⟨b,0,none⟩)] L h K:=by
 refine Zb.frame1 hb ?_ hk;refine Zb.entr fun ap _=>?_;have hn:h b=noC:=ap.1;unfold JT;refine ed func374 ?_;refine xx ?_;refine ZY fun b2 nb2 zb2=>?_;(try simp only[ZS]at nb2);refine xx ?_;by_cases c1:x.au=d.au
 ·by_cases c2:x.at'=d.at'
  ·refine xw ?_;exact ZO (ZP ⟨by simp [c1,c2],rfl,rfl⟩)
  ·refine xw ?_;exact ZO (ZP ⟨by simp [c1,c2],rfl,rfl⟩)
 ·refine xw ?_;exact ZO (ZP ⟨by simp [c1],rfl,rfl⟩)
theorem Ygg {l:List Zh}(o:Option (Nat×Nat))(ho:okO o l.length)(hl:l.length<=34000)(d:Zh)(b:Nat)(hb:(⟨b,167,Yh d,3⟩:Zn)∈L)
  (hyes:∀i:Nat,i<l.length->Zis l d=i->K (.int .i64 i) (oent 167 3 o (l.flatMap Yh) L) h)
  (hno:¬Zis l d<l.length->K (.int .i64 (-1)) (oent 167 3 o (l.flatMap Yh) L) h) :
  Zb prog 373 [ovs o l.length,.func (.func 374) #[] #[.pointer (some ⟨b,0,none⟩)]] (oent 167 3 o (l.flatMap Yh) L) h K:=by
 refine Zb.entr fun ap _=>?_;have ax:=Yk ap;have hb2:=VW (e:=167) (sz:=3) (o:=o) (cs:=l.flatMap Yh) hb;obtain⟨a,c,ea,_⟩:=Z5 ho;refine ed func373 ?_;refine xx ?_;rw[ea];refine xx ?_;rw[<- ea];refine Yi (γ:=Nat) 0 (fun j=>j<=l.length/\∀i,i<j->JT d (gr ZT l i)=false) (fun j=>[(8,.int .i64 j),(7,.int .i64 l.length),(0,ovs o l.length),(1,.func (.func 374) #[] #[.pointer (some ⟨b,0,none⟩)])]) (fun _=>oent 167 3 o (l.flatMap Yh) L) (fun _=>h) (fun j=>l.length-j) ?_ ?_ ?_ ?_
 ·exact⟨Nat.zero_le _,fun i hi=>qf⟩
 ·simp [Ent,List.lookup,YT]
 ·exact Za.refl _ _
 rintro j ⟨j1,j2⟩;by_cases c1:j<l.length
 ·obtain⟨bx,cap,rfl⟩:∃bx cap,o=some (bx,cap):=by
   cases o with
   | none=>have:l.length=0:=ho;omega
   | some p=>exact⟨_,_,rfl⟩
  have hbx:h bx=noC:=ax.2;obtain⟨x,hx⟩:∃x,x=gr ZT l j:=⟨_,rfl⟩
  have g0:∀(K:Value->Prop) (t:Zm K),VE (l.flatMap Yh) (j*3) K t=K (.int .i64 x.au):=fun K t=>Yu Yd ZT _ (m:=0) c1 qh zt K t;have g1:∀(K:Value->Prop) (t:Zm K),VE (l.flatMap Yh) (j*3+1) K t=K (.int .i64 x.at'):=fun K t=>Yu Yd ZT _ (m:=1) c1 qh zt K t;have g2:∀(K:Value->Prop) (t:Zm K),VE (l.flatMap Yh) (j*3+2) K t=K (.int .u64 x.amt):=fun K t=>Yu Yd ZT _ (m:=2) c1 qh zt K t;simp only[Yl,Z7]at hb2 hyes ⊢;simp -dsimp -implicitDefEqProofs (disch:=first|exact dD|fail) [go_sem,g0,g1,g2];refine Yks x d b hb2 ?_
  cases c2:JT d x with
  | true =>
   refine xx ?_;exact ZP (hyes j c1 (Yau c1 (by rw[<- hx];exact c2) j2))
  | false =>
   refine xx ?_;refine⟨j+1,⟨qf,fun i hi=>?_⟩,qf,qi,Za.refl _ _⟩;by_cases e:i=j
   ·subst e;rw[<- hx];exact c2
   ·exact j2 i qf
 ·have hj:j=l.length:=qf;subst hj;refine xx ?_;exact ZP (hno (Zvm j2))
theorem Ych:tSh prog 29 = .sl 167 3 24:=by kernel_rfl
theorem wr2 {A D B zs:List Value}{a:Nat}(hA:A.length=a)(hz:zs.length=D.length+B.length):wr (wr (A++zs) a D) (a+D.length) B=A++D++B:=by
 subst hA;have h1:wr (A++zs) A.length D=A++D++zs.drop D.length:=by
  rw[J7 _ _ _ qF,List.take_left,<- List.drop_drop,List.drop_left]
 rw[h1,J7 _ _ _ qF];rw[show A.length+D.length=(A++D).length from qj,List.take_left,<- List.drop_drop,List.drop_left,List.drop_drop,List.drop_eq_nil_of_le qf,List.append_nil]
theorem wr3 {A D B zs:List Value}{a:Nat}(hA:A.length=a)(hz:D.length<=zs.length):(wr (wr (A++B++zs) (a+D.length) B) a D).take (a+D.length+B.length)=A++D++B:=by
 subst hA;have hl:(wr (A++B++zs) (A.length+D.length) B).length=A.length+B.length+zs.length:=by
  rw[J7 _ _ _ zi];simp only[List.length_append,List.length_take,List.length_drop];omega
 rw[J7 D _ _ (by rw[hl];omega),J7 B _ _ zi];have h1:((A++B++zs).take (A.length+D.length)++B++(A++B++zs).drop (A.length+D.length+B.length)).take A.length=A:=by
  rw[List.append_assoc,List.take_append_of_le_length zi,List.take_take,Nat.min_eq_left qf,List.append_assoc,List.take_left]
 have h2:((A++B++zs).take (A.length+D.length)++B++(A++B++zs).drop (A.length+D.length+B.length)).drop (A.length+D.length)=B++(A++B++zs).drop (A.length+D.length+B.length):=by
  have h3:((A++B++zs).take (A.length+D.length)).length=A.length+D.length:=by simp only[List.length_take,List.length_append];omega
  rw[List.append_assoc]
  conv=>lhs;arg 1;rw[<- h3]
  rw[List.drop_left]
 rw[h1,h2,<- List.append_assoc];rw[show A.length+D.length+B.length=(A++D++B).length by simp only[List.length_append],List.take_left]
theorem Vz:prog.underlying 29=some (.slice 167):=by kernel_rfl
theorem Zga {l:List Zh}{d:Zh}(o:Option (Nat×Nat))(ho:okO o l.length)(hl:l.length<=34000)(i:Nat)(hi:i<=l.length)(bv:Nat)
  (hk:∀o',okO o' (l.length+1)->K (ovs o' (l.length+1)) (oent 167 3 o' ((Ztu l i d).flatMap Yh) L) h) :
  Zb prog 375 [ovs o l.length,.int .i64 i,.slice (some ⟨bv,0,none⟩) 1 1] (⟨bv,167,Yh d,3⟩::oent 167 3 o (l.flatMap Yh) L) h K:=by
 refine Zb.entr fun ap nd=>?_;obtain⟨hbv,ap⟩:=ap;have ax:=Yk ap;have nbv:=Z3 nd.1;obtain⟨a,c,ea,hc⟩:=Z5 ho;have hfl:(l.flatMap Yh).length=l.length*3:=Z1 Yd l;refine ed func375 ?_;refine xx ?_;rw[ea];refine lg ?_;by_cases c1:i=l.length
 ·subst c1;refine lg ?_;rw[<- ea];refine ZZ (t:=29) (e:=167) (sz:=3) (bytes:=24) Vz Jb rfl rfl rfl rfl qh [_] L o l.length (l.flatMap Yh) ho hfl (Src.own List.mem_cons_self) (m:=1) (news:=Yh d) rfl (Ug d) qm qf ?_;intro o' j1 j2 j3;refine xx ?_;refine ZO (ZP ?_);have e1:(Ztu l l.length d).flatMap Yh=l.flatMap Yh++Yh d:=by simp [Ztu]
  rw[<- e1];exact hk o' j1
 obtain⟨bx,cap,rfl⟩:∃bx cap,o=some (bx,cap):=by
  cases o with
  | none=>have:l.length=0:=ho;omega
  | some p=>exact⟨_,_,rfl⟩
 rw[Yl]at ea;injection ea with ea1 _ ea2
 subst ea1 ea2;have hbx:h bx=noC:=ax.2;have nbx:bx≠bv:=nbv;simp only[Z7]at hk ⊢;refine lg ?_;refine xcap Vz _ _ _ ?_;obtain⟨A,hA⟩:∃A,A=(l.take i).flatMap Yh:=⟨_,rfl⟩
 obtain⟨B,hB⟩:∃B,B=(l.drop i).flatMap Yh:=⟨_,rfl⟩
 have hAl:A.length=i*3:=by rw[hA,Z1 Yd,List.length_take,Nat.min_eq_left hi]
 have hBl:B.length=(l.length-i)*3:=by rw[hB,Z1 Yd,List.length_drop]
 have hAB:l.flatMap Yh=A++B:=by rw[hA,hB,<- List.flatMap_append,List.take_append_drop]
 have hres:(Ztu l i d).flatMap Yh=A++Yh d++B:=by rw[hA,hB,Ztu,List.flatMap_append,List.flatMap_cons,List.append_assoc]
 rw[hres]at hk;rw[hAB];have cut1:Gk (some ⟨bx,0,none⟩) cap i 3=some ⟨bx,i*3,none⟩:=Zhf qf;have hone:(Yh d).all Value.oneCell'=true:=List.all_eq_true.2 (Ug d);have hdl:(Yh d).length=3:=rfl;have honeB:B.all Value.oneCell'=true:=by rw[hB];exact List.all_eq_true.2 (Vy Ug _)
 by_cases c2:cap<l.length+1
 ·refine xx ?_;have ek:(l.length:Int)+1-i=((l.length+1-i:Nat):Int):=qf;rw[ek]
  refine Yug (t:=29) (tn:=3) (sz:=3) (bytes:=24) (kn:=.i64) Vz qg Jb rfl rfl rfl qh (a:=⟨bx,0,none⟩) (olds:=A) hAl (fun W hg j u hj=>GC hg (b:=bx) (o:=0) (List.mem_cons_of_mem _ List.mem_cons_self) qh (by
   rw[Nat.zero_add,List.getElem?_append_left (List.getElem?_eq_some_iff.1 hj).1];exact hj)) qf qf qm qf fun b2 cap2 zs n2 h2 hc2 hm2 hz=>?_
  rw[show i+(l.length+1-i)=l.length+1 from qf]at hc2 ⊢;simp only[ZS]at n2;have cut2:Gk (some ⟨b2,0,none⟩) cap2 i 3=some ⟨b2,i*3,none⟩:=Zhf qf;have cut3:Gk (some ⟨b2,0,none⟩) cap2 (i+1) 3=some ⟨b2,i*3+3,none⟩:=by rw[Zhf qf,Nat.succ_mul]
  simp -dsimp -implicitDefEqProofs (disch:=first|exact dD|fail) [go_sem,Zaz Ych,cut2];refine Ykt Vz Jb rfl (Src.own (b:=bv) (List.mem_cons_of_mem _ List.mem_cons_self)) (m:=1) (news:=Yh d) rfl qf ?_;simp -dsimp -implicitDefEqProofs (disch:=first|exact dD|fail) [go_sem,hone,hdl];refine⟨qf,?_⟩;refine xany (.tk 0 (.tk 1 (.tk 2 (.tk 3 (.tk 4 (.tk 5 (.tk 6 (.tk 7 (.o1 8 (.fin) (.nil)))))))))) qg qg ?_;refine lh ?_
  repeat' first
   | refine Yf ?_ ?_
   | simp -dsimp -implicitDefEqProofs (disch:=first|exact dD|fail) [go_sem,Zaz Ych,cut1,cut3]
  have hw1:(wr (A++zs) (i*3) (Yh d)).length=i*3+zs.length:=by rw[J7 _ _ _ (by simp [hdl];omega)];simp [hdl];omega
  have hw2:wr (wr (A++zs) (i*3) (Yh d)) (i*3+3) B=A++Yh d++B:=wr2 (D:=Yh d) hAl (by rw[hdl];omega)
  refine Ygx Vz Jb rfl (m:=l.length-i) (news:=B) (Nat.min_self _) (fun W hg j u hj=>GC hg (b:=bx) (o:=i*3) (List.mem_cons_of_mem _ (List.mem_cons_of_mem _ List.mem_cons_self)) qh (by
   rw[List.getElem?_append_right qf,hAl,Nat.add_sub_cancel_left];exact hj)) hBl ?_
  refine lm ?_;refine⟨qf,?_⟩;simp -dsimp -implicitDefEqProofs (disch:=first|exact dD|fail) [go_sem,hw2]
  exact⟨_,_,(Za.perm h (List.perm_middle (l₁:=[_,_])).symm).trans ((Za.tail _ _ _).trans (Za.tail _ _ _)),by
   have:=hk (some (b2,cap2)) ⟨hc2,hm2⟩;rw[List.append_assoc]at this
   exact this⟩
 ·have cut3:Gk (some ⟨bx,0,none⟩) cap (i+1) 3=some ⟨bx,i*3+3,none⟩:=by rw[Zhf qf,Nat.succ_mul]
  refine lh ?_
  refine Zb.externG (v:=.bool false) (fun W hg=>by
   show (callFunc 381 #[_,_]).run prog W=_;rw[run_callFunc_extern func381 qg qg qg (e:=Extern.SlicesOverlaps.overlaps #[29,29] #[4]) qg,Zjl Vz Jb rfl (b1:=bv) (b2:=bx) List.mem_cons_self (List.mem_cons_of_mem _ List.mem_cons_self) qh qh (Ne.symm nbx) qf hg]
   rfl) ?_
  refine lh ?_;refine xany (.tk 0 (.tk 1 (.tk 2 (.tk 3 (.tk 4 (.tk 5 (.tk 6 (.tk 7 (.o1 8 (.fin) (.nil)))))))))) qg qg ?_
  repeat' first
   | refine Yf ?_ ?_
   | simp -dsimp -implicitDefEqProofs (disch:=first|exact dD|fail) [go_sem,Zaz Ych,cut1,cut3]
  refine V2 (Za.perm h (List.Perm.swap _ _ _)) (Ycc fun ys hys=>?_);have hyl:i*3+B.length+ys.length=cap*3:=by rw[List.length_append,hAl]at hys;exact hys
  refine Ygx Vz Jb rfl (m:=l.length-i) (news:=B) qf (fun W hg j u hj=>GC hg (b:=bx) (o:=i*3) List.mem_cons_self qh (by
   have h5:=(List.getElem?_eq_some_iff.1 hj).1
   rw[List.append_assoc,List.getElem?_append_right qf,hAl,Nat.add_sub_cancel_left,List.getElem?_append_left h5];exact hj)) hBl ?_
  have hw1:(A++B++ys).length=cap*3:=by rw[List.length_append,List.length_append,hAl];exact hyl
  have hw2:(wr (A++B++ys) (i*3+3) B).length=cap*3:=by rw[J7 _ _ _ qf];simp only[List.length_append,List.length_take,List.length_drop];omega
  have hw3:=wr3 (A:=A) (D:=Yh d) (B:=B) (zs:=ys) hAl (by rw[hdl];omega);rw[hdl]at hw3;obtain⟨C1,hC1⟩:∃C1,C1=A++B++ys:=⟨_,rfl⟩
  rw[<- hC1]at hw1 hw2 hw3 ⊢;refine lm ?_;refine⟨qf,?_⟩;refine lh ?_;refine Ykt Vz Jb rfl (Src.own (b:=bv) (List.mem_cons_of_mem _ List.mem_cons_self)) (m:=1) (news:=Yh d) rfl qf ?_;simp -dsimp -implicitDefEqProofs (disch:=first|exact dD|fail) [go_sem,hone,hdl,hw2];refine⟨qf,?_⟩;have e3:=GS bx 167 (cap*3) (i*3+3+B.length) (wr (wr C1 (i*3+3) B) (i*3) (Yh d)) L h;rw[hw3]at e3;exact⟨_,_,(Za.perm h (List.Perm.swap _ _ _)).trans ((Za.tail _ _ _).trans e3),hk (some (bx,cap)) ⟨by show l.length+1<=cap;omega,ho.2⟩⟩
theorem Yhw {e sz:Nat}{o:Option (Nat×Nat)}{xs:List Value}{L:Own}{h:PH}(ap:Ap (oent e sz o xs L) h)(nd:Nd (oent e sz o xs L)):apO o L h:=by
 cases o with
 | none=>trivial
 | some p=>exact⟨nd.1,ap.1⟩
theorem Zbv {l:List Zh}{t:Int}{k:Nat}(h:¬(gr ZT l k).at'<=t):Wg l t (k+1)=Wg l t k:=by rw[Wg,if_neg h]
theorem Zdh {l:List Zh}{t:Int}{k:Nat}(h:(gr ZT l k).at'<=t):Wg l t (k+1)=k+1:=by rw[Wg,if_pos h]
theorem Yli {l:List Zh}{d:Zh}(v:Value)(hv:Zd Yh 3 h v l)(hd:∀x∈l,Zs x)(hl:l.length<=32000)(hacct:0<=d.au/\d.au<=63)(hat:0<=d.at'/\d.at'<=9223372036854775807)(hamt:0<=d.amt)(hs:Y9 l+d.amt<=4611686018427387904)
  (hk:∀h' r,PH.le h h'->Zd Yh 3 h' r (V3 l d)->K (.tuple #[r,.int .i64 0]) L h'):Zb prog 341 [v,dueV d] L h K:=by
 have hv0:=hv;have ht0:0<=Y9 l:=Ym (Zam hd);obtain⟨va,vc,rfl,_⟩:=hv.open;refine eF func341 ?_;refine xx ?_;refine ZY fun b3 nb3 zb3=>?_;(try simp only[ZS]at nb3);refine xx ?_;refine Zma _ _ _ ?_;rw[show wi d.au 0 63=true by rw[wi_iff];exact hacct];refine xx ?_;by_cases c0:d.amt=0
 ·refine xx ?_;rw[V3,if_pos c0]at hk;refine G6 _ hv0 qf fun h1 r le1 i1=>?_;obtain⟨ra,rc,er,_⟩:=i1.open;refine xx ?_;exact ZO (ZP (hk h1 _ le1 i1))
 refine xx ?_;refine Zun _ hv0 qf fun o ok1 ap1=>?_;have hb3:(⟨b3,167,Yh d,3⟩:Zn)∈(⟨b3,167,Yh d,3⟩:Zn)::L:=List.mem_cons_self;have n3:apB o b3:=ap1.head;refine xx ?_;refine Ygg o ok1 qf d b3 hb3 (fun i i1 i2=>?_) (fun hn=>?_)
 ·rw[V3,if_neg c0,i2,if_pos i1]at hk;obtain⟨bx,cap,rfl⟩:∃bx cap,o=some (bx,cap):=by
   cases o with
   | none=>have:l.length=0:=ok1;omega
   | some p=>exact⟨_,_,rfl⟩
  have hbx:h bx=noC:=ap1.2;have nbx:bx≠b3:=n3;obtain⟨x,hx⟩:∃x,x=gr ZT l i:=⟨_,rfl⟩
  have hxo:=hd x (by rw[hx];exact J3 i1);have hxt:=Zrj hd i1;rw[<- hx]at hxt hk;have g2:∀(K:Value->Prop) (t:Zm K),VE (l.flatMap Yh) (i*3+2) K t=K (.int .u64 x.amt):=fun K t=>Yu Yd ZT _ (m:=2) i1 qh zt K t;simp only[Yl,Z7];refine xx ?_;refine Z4 (.tk 0 (.tk 1 (.tk 2 (.tk 3 (.tk 5 (.tkl 4 (.tkl 6 (.o1 7 (.tk 8 (.tk 9 (.tk 10 (.tk 11 (.tk 12 (.fin)))))) (.nil))))))))) qg qg _ (Za.refl _ _) ?_;simp -dsimp -implicitDefEqProofs (disch:=first|exact dD|fail) [go_sem,g2,Yh];refine WV x.amt d.amt (by have:=hxo.a;omega) qf ?_;rw[YR qf]
  first
  | refine xkp (Za.refl _ _) ?_
  | skip
  refine xx ?_;have hset:(l.flatMap Yh).set (i*3+2) (.int .u64 (x.amt+d.amt))=(l.set i (Zzq x d)).flatMap Yh:=Wj Yd ZT l i1 qh zt;rw[hset];have hsum:(l.map fun a=>(Yh a).length).sum=l.length*3:=by rw[<- List.length_flatMap,Z1 Yd]
  refine⟨qf,?_⟩;refine Yv (e:=167) (n:=l.length) (o:=some (bx,cap)) ok1 (by rw[Z1 Yd,List.length_set]) qf ap1 fun h' le sl=>ZO (ZP (hk h' _ le ?_));have:=Zd.pub (f:=Yh) (w:=3) (l:=l.set i (Zzq x d)) (o:=some (bx,cap)) Yd (by rw[List.length_set];exact sl)
  rwa [List.length_set]at this
 ·rw[V3,if_neg c0,if_neg hn]at hk;obtain⟨a,c,ea,hc⟩:=Z5 ok1;refine xx ?_;rw[ea];refine xx ?_;rw[<- ea];refine Yi (γ:=Nat) l.length (fun k=>k<=l.length/\Wg l d.at' l.length=Wg l d.at' k) (fun k=>[(10,.int .i64 k),(3,.pointer (some ⟨b3,0,none⟩)),(6,ovs o l.length)]) (fun _=>oent 167 3 o (l.flatMap Yh) (⟨b3,167,Yh d,3⟩::L)) (fun _=>h) (fun k=>k) ?_ ?_ ?_ ?_
  ·exact⟨Nat.le_refl _,rfl⟩
  ·simp [Ent,List.lookup]
  ·exact Za.refl _ _
  rintro k ⟨j1,j3⟩;rcases k with _|m
  ·have j4:Wg l d.at' l.length=0:=j3;refine xx ?_;refine WX qg rfl ?_;simp -dsimp -implicitDefEqProofs (disch:=first|exact dD|fail) [go_sem,ZR n3,Yh];by_cases cz:True
   ·skip
    refine ZY fun bv n_bv h_bv=>?_;(try simp only[ZS]at n_bv);refine lq ?_;refine Zb.apn (Zga (d:=d) _ ok1 qf 0 qf bv fun o' j1 ap nd=>?_);have j2:=Yhw ap nd;obtain⟨ya,yc,ey,_⟩:=Z5 j1;rw[ey];refine xx ?_;rw[<- ey];have hil:(Ztu l 0 d).length=l.length+1:=by simp only[Ztu,List.length_append,List.length_cons,List.length_take,List.length_drop];omega
    have hI:Ztt l d=Ztu l 0 d:=by rw[Ztt,j4];rfl
    rw[hI]at hk;refine Yv (e:=167) (n:=l.length+1) j1 (by rw[Z1 Yd,hil]) qf j2 fun h' le sl=>ZO (ZP (hk h' _ le ?_));have:=Zd.pub (f:=Yh) (w:=3) (l:=Ztu l 0 d) (o:=o') Yd (by rw[hil];exact sl)
    rwa [hil]at this
   ·exact absurd trivial cz
  ·obtain⟨bx,cap,rfl⟩:∃bx cap,o=some (bx,cap):=by
    cases o with
    | none=>have:l.length=0:=ok1;omega
    | some p=>exact⟨_,_,rfl⟩
   have hbx:h bx=noC:=ap1.2;have nbx:bx≠b3:=n3;obtain⟨x,hx⟩:∃x,x=gr ZT l m:=⟨_,rfl⟩
   have g1:∀(K:Value->Prop) (t:Zm K),VE (l.flatMap Yh) (m*3+1) K t=K (.int .i64 x.at'):=fun K t=>Yu Yd ZT _ (m:=1) qf qh zt K t;by_cases c1:x.at'<=d.at'
   ·have j4:Wg l d.at' l.length=m+1:=by rw[j3];exact Zdh (by rw[<- hx];exact c1)
    simp only[Yl,Z7];refine xx ?_;refine WX qg rfl ?_;refine lu ?_;rw[<- Yl,<- Z7];refine ZY fun bv n_bv h_bv=>?_;(try simp only[ZS]at n_bv);refine lq ?_;refine Zb.apn (Zga (d:=d) _ ok1 qf (m+1) qf bv fun o' j1 ap nd=>?_);have j2:=Yhw ap nd;obtain⟨ya,yc,ey,_⟩:=Z5 j1;rw[ey];refine xx ?_;rw[<- ey];have hil:(Ztu l (m+1) d).length=l.length+1:=by simp only[Ztu,List.length_append,List.length_cons,List.length_take,List.length_drop];omega
    have hI:Ztt l d=Ztu l (m+1) d:=by rw[Ztt,j4];rfl
    rw[hI]at hk;refine Yv (e:=167) (n:=l.length+1) j1 (by rw[Z1 Yd,hil]) qf j2 fun h' le sl=>ZO (ZP (hk h' _ le ?_));have:=Zd.pub (f:=Yh) (w:=3) (l:=Ztu l (m+1) d) (o:=o') Yd (by rw[hil];exact sl)
    rwa [hil]at this
   ·simp only[Yl,Z7];refine xx ?_;refine WX qg rfl ?_;refine lu ?_;exact⟨m,⟨qf,by rw[j3];exact Zbv (by rw[<- hx];exact c1)⟩,qf,qi,Za.refl _ _⟩
theorem U0 {α:Type}{f:α->List Value}{w:Nat}(hf:∀a,(f a).length=w)(l:List α){i:Nat}(hi:i<l.length)(a':α):wr (l.flatMap f) (i*w) (f a')=(l.set i a').flatMap f:=by
 have h1:l.flatMap f=(l.take i).flatMap f++(f l[i]++(l.drop (i+1)).flatMap f):=by
  conv=>lhs;rw[<- List.take_append_drop i l,List.drop_eq_getElem_cons hi]
  rw[List.flatMap_append,List.flatMap_cons]
 have h2:((l.take i).flatMap f).length=i*w:=by rw[Z1 hf,List.length_take,Nat.min_eq_left qf]
 rw[J7 _ _ _ (by rw[h1];simp only[List.length_append,h2,hf];omega),hf];rw[List.set_eq_take_append_cons_drop,if_pos hi,List.flatMap_append,List.flatMap_cons];rw[h1,<- h2,List.take_left,List.append_assoc]
 congr 2
 rw[<- List.drop_drop,List.drop_left];rw[<- hf l[i],List.drop_left]
theorem Nd.nodup:∀ {L:Own},Nd L->(L.map Zn.b).Nodup
 | [],_=>List.nodup_nil
 | e::L,hn=>by
  rw[List.map_cons,List.nodup_cons];refine⟨fun hm=>?_,Nd.nodup hn.2⟩;obtain⟨x,hx,hb⟩:=List.mem_map.1 hm;exact GG hn.1 x hx hb
theorem Nd.perm {L L':Own}(p:L.Perm L')(nd:Nd L):Nd L':=Nd.of ((p.map Zn.b).nodup_iff.1 nd.nodup)
theorem Ap.mem {h:PH}:∀ {L:Own},Ap L h->∀e∈L,h e.b=noC
 | [],_,e,he=>by cases he
 | x::L,ha,e,he=>by
  rcases List.mem_cons.1 he with rfl|he
  ·exact ha.1
  ·exact Ap.mem ha.2 e he
theorem Ap.perm {L L':Own}{h:PH}(p:L.Perm L')(ap:Ap L h):Ap L' h:=Ap.of fun e he=>ap.mem e (p.mem_iff.2 he)
section
variable {e1 s1 e2 s2 e3 s3:Nat} {oo om ox:Option (Nat×Nat)} {outs ms xs:List Value} {x a b:Zn} {L:Own} {h:PH}
end
theorem Zkn {o:Option (Nat×Nat)}{m n:Nat}(ho:okO o n)(h:m<=n):okO o m:=by
 cases o with
 | none =>
  have h0:n=0:=ho;show m=0;omega
 | some p=>exact⟨Nat.le_trans h ho.1,ho.2⟩
open Go.RowKit Go.Proofs Go.Bl Go.Proofs.Tryz
theorem Yed {s:Zg}(hf:YY s=true):∀m∈s.ae,Y2 s.par m=true/\0<=m.owner/\m.owner<s.ag.length:=by
 simp only[YY,Bool.and_eq_true]at hf;obtain⟨⟨⟨⟨⟨⟨⟨⟨f1,f2⟩,f3⟩,f4⟩,f5⟩,f6⟩,f7⟩,f8⟩,f9⟩:=hf;simp only[WU,Bool.and_eq_true,List.all_eq_true]at f5;intro m hm;have h1:=f5.1.1.2 m hm;refine⟨h1.1,?_⟩;have h2:=h1.2;rw[Y8,wi_iff]at h2;omega
theorem Zor {p:Ze}{m:Zc}(h:Y2 p m=true):(0<=m.owner/\m.owner<64)/\min m.score p.aA=m.score/\min (max m.ak 0) p.ak=m.ak/\V1 p m=true:=by
 simp only[Y2,Bool.and_eq_true,decide_eq_true_eq]at h;obtain⟨⟨⟨h1,h2⟩,h3⟩,h4⟩:=h;simp only[Zfi,JV,List.cons.injEq,and_true,true_and]at h3;exact⟨⟨h1,h2⟩,h3.1,h3.2,h4⟩
theorem Zwf {p:Ze}(hr:Yo p=true){m:Zc}(h:V1 p m=true):m.bal<=p.cap:=by
 have hs:Wa p=true:=by simp only[Yo,Bool.and_eq_true]at hr;exact hr.1.1.1
 have f:=YK hs;unfold V1 at h;split at h
 ·simp only[Bool.and_eq_true,decide_eq_true_eq]at h;omega
 ·split at h
  ·simp only[Bool.and_eq_true,decide_eq_true_eq]at h;omega
  ·split at h
   ·simp only[Bool.and_eq_true,decide_eq_true_eq]at h;omega
   ·cases h
theorem Zds {p:Ze}(hr:Yo p=true){b:Int}(hb:p.floor<b):VJ p (Wi p b) b=true:=by
 have hs:Wa p=true:=by simp only[Yo,Bool.and_eq_true]at hr;exact hr.1.1.1
 have f:=YK hs;have h1:=Int.emod_nonneg b (show p.inc≠0 from qf);have h2:=Int.emod_lt_of_pos b (show 0<p.inc from qf);have h3:(b-b%p.inc)%p.inc=0:=by rw[Int.sub_emod,Int.emod_emod_of_dvd _ (Int.dvd_refl _)];simp
 have h4:p.inc<=b-b%p.inc:=by
  have e:=Int.emod_def b p.inc;have e2:b-b%p.inc=p.inc*(b/p.inc):=qf;have:1<=b/p.inc:=(Int.le_ediv_iff_mul_le qf).2 qf;rw[e2];have:=Int.mul_le_mul_of_nonneg_left this (show 0<=p.inc from qf);omega
 have hn:UL p (Wi p b) b=Wi p b:=by unfold UL;split<;>rfl
 have hw:Wi p b%p.inc=0:=by
  unfold Wi;rcases Int.le_total (b-b%p.inc) p.aF with c|c
  ·rw[Int.min_eq_left c];exact h3
  ·rw[Int.min_eq_right c];exact f.2.2.2.2.2.2.2.2.2.2.2
 simp only[VJ,Bool.and_eq_true,decide_eq_true_eq];refine⟨⟨⟨?_,?_⟩,hw⟩,hn⟩<;>unfold Wi<;>omega
theorem Znz {p:Ze}(hr:Yo p=true){m:Zc}(hb:p.floor<m.bal):VJ p (Y5 p m).eff m.bal=true:=by
 unfold Y5;simp only;split
 ·rename_i h;exact h
 ·exact Zds hr hb
theorem Yec {f:Zc->Zc}{l:List Zc}{n:Nat}(h:l.length=n):upN f l n=l.map f:=by
 subst h;exact Zgt f l
theorem Zau:∀ {S l:List Int},S.Nodup->(∀x∈S,x∈l)->l.length=S.length->l.Perm S
 | [],l,_,_,hl=>by
  have:l=[]:=List.eq_nil_of_length_eq_zero hl;rw[this]
 | a::S,l,hn,hs,hl=>by
  have ha:=hs a qj;rw[List.nodup_cons]at hn;have h1:=List.perm_cons_erase ha;have h2:=List.length_erase_of_mem ha;refine h1.trans (List.Perm.cons _ (Zau hn.2 (fun x hx=>?_) ?_))
  ·have hne:x≠a:=fun e=>hn.1 (e ▸ hx);exact(List.mem_erase_of_ne hne).2 (hs x wE)
  ·rw[h2,hl];simp
def stL (l:List Zc)(st:Int)(n:Nat):List Nat:=(List.range n).filter fun j=>decide ((gr ZQ l j).status=st)
theorem Zhp (l:List Zc)(st:Int):∀k,Zpm l st k=(stL l st k).length
 | 0=>rfl
 | k+1=>by
  rw[Zpm,Zhp l st k,stL,stL,List.range_succ,List.filter_append,List.length_append];by_cases c:(gr ZQ l k).status=st
  ·simp [c]
  ·simp [c]
theorem stL_mem {l:List Zc}{st:Int}{n j:Nat}:j∈stL l st n↔j<n/\(gr ZQ l j).status=st:=by
 simp [stL]
theorem Zdf (l:List Zc)(st:Int)(n:Nat):((stL l st n).map fun j:Nat=>(j:Int)).Nodup:=by
 rw[List.Nodup,List.pairwise_map];have h1:(stL l st n).Nodup:=List.Nodup.sublist List.filter_sublist List.nodup_range;exact h1.imp fun h e=>h qf
theorem Yen {s:Zg}{l:List Int}{st:Int}(h:Yhb s l st=true){j:Nat}(hj:j<s.ae.length)(e:(gr ZQ s.ae j).status=st):(j:Int)∈l:=by
 rw[Yhb,List.all_eq_true]at h;have:=h j (List.mem_range.2 hj)
 simpa [e] using this
def Zef (d:Zh):Int×Int:=(d.au,d.at')
def KeyR (a b:Int×Int):Prop:=a≠b/\a.2<=b.2
def Zbi (l:List Zh):Prop:=(l.map Zef).Pairwise KeyR
theorem Zvg (d x:Zh):JT d x=true↔Zef x=Zef d:=by
 simp [JT,Zef]
theorem Zzs {l:List Zh}(h:∀k,k<l.length->Zss l k=true):∀(m j:Nat),j+m<l.length->(gr ZT l j).at'<=(gr ZT l (j+m)).at'
 | 0,j,_=>Int.le_refl _
 | m+1,j,hj=>by
  have h1:=Zzs h m j qf;have h2:=h (j+(m+1)) hj;rw[Zss,Bool.or_eq_true,decide_eq_true_eq,decide_eq_true_eq]at h2;rcases h2 with h2|h2
  ·omega
  ·rw[show j+(m+1)-1=j+m from qf]at h2;omega
theorem line_iff {l:List Zh}:Zbi l↔∀k,k<l.length->Zsv l k=false/\Zss l k=true:=by
 rw[Zbi,List.pairwise_iff_getElem];simp only[List.length_map,List.getElem_map]
 constructor
 ·intro h k hk
  constructor
  ·rw[Zsv,List.any_eq_false];intro j hj;rw[List.mem_range]at hj;have:=h j k qf hk hj;rw[Ye hk,Ye (by omega:j<l.length)];intro e;simp only[Bool.and_eq_true,decide_eq_true_eq]at e;exact this.1 (by rw[Zef,Zef,e.1,e.2])
  ·rw[Zss,Bool.or_eq_true,decide_eq_true_eq,decide_eq_true_eq];by_cases c:k=0
   ·exact .inl c
   ·right
    have:=h (k-1) k qf hk qf;rw[Ye hk,Ye (by omega:k-1<l.length)];exact this.2
 ·intro h i j hi hj hij
  constructor
  ·intro e;have:=(h j hj).1;rw[Zsv,List.any_eq_false]at this;have h2:=this i (List.mem_range.2 hij);rw[Ye hj,Ye hi]at h2;simp only[Zef,Prod.mk.injEq]at e;exact h2 (by simp [e.1,e.2])
  ·have:=Zzs (fun k hk=>(h k hk).2) (j-i) i qf;rw[show i+(j-i)=j from qf,Ye hj,Ye hi]at this;exact this
theorem Zkm {l:List Zh}{t:Int}:∀(k j:Nat),Wg l t k<=j->j<k->t<(gr ZT l j).at'
 | 0,j,_,hj=>qf
 | k+1,j,h1,h2=>by
  rw[Wg]at h1;split at h1
  ·omega
  ·rename_i c;rcases(by omega:j<k\/j=k) with e|rfl
   ·exact Zkm k j h1 e
   ·omega
theorem Zjk {l:List Zh}{t:Int}:∀(k:Nat),0<Wg l t k->(gr ZT l (Wg l t k-1)).at'<=t
 | 0,h=>by simp [Wg]at h
 | k+1,h=>by
  rw[Wg]at h ⊢;split at h
  ·rename_i c;rw[if_pos c];exact c
  ·rename_i c;rw[if_neg c];exact Zjk k h
theorem Yge {l:List Zh}(h:Zbi l){i:Nat}(hi:i<l.length)(d:Zh):Zbi (l.set i (Zzq (gr ZT l i) d)):=by
 have e:(l.set i (Zzq (gr ZT l i) d)).map Zef=l.map Zef:=by
  rw[List.map_set];have:Zef (Zzq (gr ZT l i) d)=(l.map Zef)[i]'zn:=by rw[List.getElem_map,Ye hi];rfl
  rw[this,List.set_getElem_self]
 rw[Zbi,e];exact h
theorem Yfc {l:List Zh}(h:Zbi l){d:Zh}(hn:∀x∈l,Zef x≠Zef d):Zbi (Ztt l d):=by
 obtain⟨p,hp⟩:∃p,p=Wg l d.at' l.length:=⟨_,rfl⟩
 have hpl:=GF l d.at' l.length;have hhi:=Zkm (l:=l) (t:=d.at') l.length;have hlo:=Zjk (l:=l) (t:=d.at') l.length;rw[<- hp]at hpl hhi hlo;have ho:=fun k hk=>((line_iff.1 h) k hk).2;have h0:=h;have e:(Ztt l d).map Zef=(l.take p).map Zef++Zef d::(l.drop p).map Zef:=by rw[Ztt,<- hp,List.map_append,List.map_cons]
 have e2:l.map Zef=(l.take p).map Zef++(l.drop p).map Zef:=by rw[<- List.map_append,List.take_append_drop]
 rw[Zbi,e2,List.pairwise_append]at h0;rw[Zbi,e,List.pairwise_append,List.pairwise_cons];refine⟨h0.1,⟨fun b hb=>?_,h0.2.1⟩,fun a ha b hb=>?_⟩
 ·obtain⟨x,hx,rfl⟩:=List.mem_map.1 hb;refine⟨fun e=>hn x (List.mem_of_mem_drop hx) e.symm,?_⟩;obtain⟨j,hj,rfl⟩:=List.mem_iff_getElem.1 hx;rw[List.length_drop]at hj;have:=hhi (p+j) qf qf;rw[Ye qf]at this;rw[List.getElem_drop];exact Int.le_of_lt this
 ·obtain⟨x,hx,rfl⟩:=List.mem_map.1 ha;rcases List.mem_cons.1 hb with rfl|hb
  ·refine⟨hn x (List.mem_of_mem_take hx),?_⟩;obtain⟨j,hj,rfl⟩:=List.mem_iff_getElem.1 hx;rw[List.length_take]at hj;have h1:=Zzs ho (p-1-j) j qf;rw[show j+(p-1-j)=p-1 from qf]at h1;have h2:=hlo qf;rw[Ye (by omega:j<l.length)]at h1;rw[List.getElem_take];exact Int.le_trans h1 h2
  ·exact h0.2.2 _ ha _ hb
theorem Yev {l:List Zh}(h:Zbi l)(d:Zh):Zbi (V3 l d):=by
 unfold V3;split
 ·exact h
 ·split
  ·rename_i c;exact Yge h c d
  ·rename_i c;refine Yfc h fun x hx e=>c ?_;rw[Zis,List.findIdx_lt_length];exact⟨x,hx,(Zvg d x).2 e⟩
theorem Ynd (q:Ze)(l:List Zc){n:Nat}(h:l.length=n):(upN (Gm q) l n).map Zc.bal=l.map Zc.bal:=by
 rw[Yec h,List.map_map];refine List.map_congr_left fun m _=>?_;show (Gm q m).bal=m.bal;unfold Gm;split<;>rfl
end Go.X

/- Lemmas and contracts. Conditions: as each says. -/
import Derived.Test.YtllhopbilpdpkaaGreatQ23
set_option linter.unusedVariables false
set_option linter.unusedSimpArgs false
set_option maxHeartbeats 12800000
set_option maxRecDepth 20000
namespace Go.X
open Go.RowKit Go.Proofs Go.Bl Go.Proofs.Tryz
variable {L:Own} {h:PH} {K:PK}
theorem Vz {e sz:Nat}{o:Option (Nat×Nat)}{cs:List Value}{L:Own}{x:Zm}(hx:x∈L):x∈oent e sz o cs L:=by
 cases o with
 | none=>exact hx
 | some p=>exact List.mem_cons_of_mem _ hx
theorem Zem {b c i sz:Nat}(hne:c≠i):Ju (some ⟨b,0,none⟩) c i sz=some ⟨b,i*sz,none⟩:=by
 rw[Ju,if_neg hne,Option.map_some,Va,Nat.zero_add]
theorem int27:tSh prog 27 = .sl 3 1 8:=by kernel_rfl
theorem Zoi {l:List Zg}(v:Value)(hv:Zh Yz 3 h v l)(hl:l.length≤34000)(hk:∀o,okO o l.length→apO o L h→K (ovs o l.length) (oent 167 3 o (l.flatMap Yz) L) h):Zc prog 102 [v] L h K:=by
 have hx:=hv;obtain⟨a,ca,rfl,hna,hca,h0,_⟩:=hx.open;refine ZS func102 rfl (rs:=[_]) rfl rfl ZW (by kernel_rfl) rfl rfl ?_;refine xx ?_
 cases ha:a.isNone with
 | true =>
  have ha':a=none:=by simpa using ha
  subst ha';have hl0:l.length=0:=by have:=h0 rfl;omega
  have hx':l=[]:=List.eq_nil_of_length_eq_zero hl0;subst hx';refine xx ?_;exact ZO (hk none rfl trivial)
 | false =>
  refine xx ?_;refine Z2 fun b1 nb1 zb1=>?_;(try simp only[ZT]at nb1);refine xx ?_;refine Z4 (t:=29) (e:=167) (sz:=3) (bytes:=24) (by kernel_rfl) Un rfl rfl rfl rfl (by decide) [] L (some (b1,0)) 0 [] ⟨Nat.le_refl _,Nat.zero_le _⟩ rfl (Src.known hx.s) (news:=l.flatMap Yz) (Z0 Yr l) (UD JR l) (by simp [maxLen];omega) (by omega) ?_;intro o' j1 j2 j3;simp only[Nat.zero_add,List.nil_append]at j1 j2 ⊢;refine xx ?_;exact ZO (hk o' j1 j2)
abbrev dueV (d:Zg):Value := .agg #[.int .i64 d.acct,.int .i64 d.at',.int .u64 d.amt]
theorem Yfu (x d:Zg)(b:Nat)(hb:(⟨b,167,Yz d,3⟩:Zm)∈L)(hk:K (.bool (Zbr d x)) L h):Zc prog 374 [dueV x,.pointer (some ⟨b,0,none⟩)] L h K:=by
 refine Zc.frame1 hb ?_ hk;refine Zc.entr fun ap _=>?_;have hn:h b=noC:=ap.1;unfold Zbr;refine ZS func374 rfl (rs:=[_]) rfl rfl ZW (by kernel_rfl) rfl rfl ?_;refine xx ?_;refine Z2 fun b2 nb2 zb2=>?_;(try simp only[ZT]at nb2);refine xx ?_;by_cases c1:x.acct=d.acct
 ·by_cases c2:x.at'=d.at'
  ·simp -dsimp -implicitDefEqProofs (disch:=first|with_reducible assumption|omega) [go_sem,Yz];exact ZP (ZO ⟨by simp [c1,c2],rfl,rfl⟩)
  ·simp -dsimp -implicitDefEqProofs (disch:=first|with_reducible assumption|omega) [go_sem,Yz];exact ZP (ZO ⟨by simp [c1,c2],rfl,rfl⟩)
 ·simp -dsimp -implicitDefEqProofs (disch:=first|with_reducible assumption|omega) [go_sem,Yz];exact ZP (ZO ⟨by simp [c1],rfl,rfl⟩)
theorem Yaq {l:List Zg}(o:Option (Nat×Nat))(ho:okO o l.length)(hl:l.length≤34000)(d:Zg)(b:Nat)(hb:(⟨b,167,Yz d,3⟩:Zm)∈L)
  (hyes:∀i:Nat,i<l.length→Zhx l d=i→K (.int .i64 i) (oent 167 3 o (l.flatMap Yz) L) h)
  (hno:¬Zhx l d<l.length→K (.int .i64 (-1)) (oent 167 3 o (l.flatMap Yz) L) h) :
  Zc prog 373 [ovs o l.length,.func (.func 374) #[] #[.pointer (some ⟨b,0,none⟩)]] (oent 167 3 o (l.flatMap Yz) L) h K:=by
 refine Zc.entr fun ap _=>?_;have ax:=YH ap;have hb2:=Vz (e:=167) (sz:=3) (o:=o) (cs:=l.flatMap Yz) hb;obtain⟨a,c,ea,_⟩:=Z9 ho;refine ZS func373 rfl (rs:=[_]) rfl rfl ZW (by kernel_rfl) rfl rfl ?_;refine xx ?_;rw[ea];refine xx ?_;rw[← ea];refine YO (γ:=Nat) 0 (fun j=>j≤l.length∧∀i,i<j→Zbr d (gr ZZ l i)=false) (fun j=>[(8,.int .i64 j),(7,.int .i64 l.length),(0,ovs o l.length),(1,.func (.func 374) #[] #[.pointer (some ⟨b,0,none⟩)])]) (fun _=>oent 167 3 o (l.flatMap Yz) L) (fun _=>h) (fun j=>l.length-j) ?_ ?_ ?_ ?_
 ·exact⟨Nat.zero_le _,fun i hi=>by omega⟩
 ·simp [Ent,List.lookup,Wo]
 ·exact Za.refl _ _
 rintro j ⟨j1,j2⟩;by_cases c1:j<l.length
 ·obtain⟨bx,cap,rfl⟩:∃bx cap,o=some (bx,cap):=by
   cases o with
   | none=>have:l.length=0:=ho;omega
   | some p=>exact⟨_,_,rfl⟩
  have hbx:h bx=noC:=ax.2;obtain⟨x,hx⟩:∃x,x=gr ZZ l j:=⟨_,rfl⟩
  have g0:∀(K:Value→Prop) (t:Zk K),Wz (l.flatMap Yz) (j*3) K t=K (.int .i64 x.acct):=fun K t=>Z1 Yr ZZ _ (m:=0) c1 (by decide) (by rw[← hx];rfl) K t;have g1:∀(K:Value→Prop) (t:Zk K),Wz (l.flatMap Yz) (j*3+1) K t=K (.int .i64 x.at'):=fun K t=>Z1 Yr ZZ _ (m:=1) c1 (by decide) (by rw[← hx];rfl) K t;have g2:∀(K:Value→Prop) (t:Zk K),Wz (l.flatMap Yz) (j*3+2) K t=K (.int .u64 x.amt):=fun K t=>Z1 Yr ZZ _ (m:=2) c1 (by decide) (by rw[← hx];rfl) K t;simp only[YE,Ye]at hb2 hyes ⊢;simp -dsimp -implicitDefEqProofs (disch:=first|with_reducible assumption|omega) [go_sem,g0,g1,g2];refine Yfu x d b hb2 ?_
  cases c2:Zbr d x with
  | true =>
   refine xx ?_;exact ZO (hyes j c1 (Yhp c1 (by rw[← hx];exact c2) j2))
  | false =>
   refine xx ?_;refine⟨j+1,⟨by omega,fun i hi=>?_⟩,by omega,by simp [Ent,List.lookup],Za.refl _ _⟩;by_cases e:i=j
   ·subst e;rw[← hx];exact c2
   ·exact j2 i (by omega)
 ·have hj:j=l.length:=by omega
  subst hj;refine xx ?_;exact ZO (hno (Yil j2))
theorem Zbh:tSh prog 29 = .sl 167 3 24:=by kernel_rfl
theorem wr2 {A D B zs:List Value}{a:Nat}(hA:A.length=a)(hz:zs.length=D.length+B.length):wr (wr (A++zs) a D) (a+D.length) B=A++D++B:=by
 subst hA;have h1:wr (A++zs) A.length D=A++D++zs.drop D.length:=by
  rw[JM _ _ _ (by simp;omega),List.take_left,← List.drop_drop,List.drop_left]
 rw[h1,JM _ _ _ (by simp;omega)];rw[show A.length+D.length=(A++D).length by simp,List.take_left,← List.drop_drop,List.drop_left,List.drop_drop,List.drop_eq_nil_of_le (by omega),List.append_nil]
theorem wr3 {A D B zs:List Value}{a:Nat}(hA:A.length=a)(hz:D.length≤zs.length):(wr (wr (A++B++zs) (a+D.length) B) a D).take (a+D.length+B.length)=A++D++B:=by
 subst hA;have hl:(wr (A++B++zs) (A.length+D.length) B).length=A.length+B.length+zs.length:=by
  rw[JM _ _ _ (by simp only[List.length_append,List.length_take];omega)];simp only[List.length_append,List.length_take,List.length_drop];omega
 rw[JM D _ _ (by rw[hl];omega),JM B _ _ (by simp only[List.length_append,List.length_take];omega)];have h1:((A++B++zs).take (A.length+D.length)++B++(A++B++zs).drop (A.length+D.length+B.length)).take A.length=A:=by
  rw[List.append_assoc,List.take_append_of_le_length (by simp only[List.length_append,List.length_take];omega),List.take_take,Nat.min_eq_left (by omega),List.append_assoc,List.take_left]
 have h2:((A++B++zs).take (A.length+D.length)++B++(A++B++zs).drop (A.length+D.length+B.length)).drop (A.length+D.length)=B++(A++B++zs).drop (A.length+D.length+B.length):=by
  have h3:((A++B++zs).take (A.length+D.length)).length=A.length+D.length:=by simp only[List.length_take,List.length_append];omega
  rw[List.append_assoc]
  conv=>lhs;arg 1;rw[← h3]
  rw[List.drop_left]
 rw[h1,h2,← List.append_assoc];rw[show A.length+D.length+B.length=(A++D++B).length by simp only[List.length_append],List.take_left]
theorem Vj:prog.underlying 29=some (.slice 167):=by kernel_rfl
theorem Zcl {l:List Zg}{d:Zg}(o:Option (Nat×Nat))(ho:okO o l.length)(hl:l.length≤34000)(i:Nat)(hi:i≤l.length)(bv:Nat)
  (hk:∀o',okO o' (l.length+1)→K (ovs o' (l.length+1)) (oent 167 3 o' ((Zpr l i d).flatMap Yz) L) h) :
  Zc prog 375 [ovs o l.length,.int .i64 i,.slice (some ⟨bv,0,none⟩) 1 1] (⟨bv,167,Yz d,3⟩::oent 167 3 o (l.flatMap Yz) L) h K:=by
 refine Zc.entr fun ap nd=>?_;obtain⟨hbv,ap⟩:=ap;have ax:=YH ap;have nbv:=Yp nd.1;obtain⟨a,c,ea,hc⟩:=Z9 ho;have hfl:(l.flatMap Yz).length=l.length*3:=Z0 Yr l;refine ZS func375 rfl (rs:=[_]) rfl rfl ZW (by kernel_rfl) rfl rfl ?_;refine xx ?_;rw[ea];simp -dsimp -implicitDefEqProofs (disch:=first|with_reducible assumption|omega) [go_sem,VX Zbh];by_cases c1:i=l.length
 ·subst c1;simp -dsimp -implicitDefEqProofs (disch:=first|with_reducible assumption|omega) [go_sem,VX Zbh];rw[← ea];refine Z4 (t:=29) (e:=167) (sz:=3) (bytes:=24) Vj Un rfl rfl rfl rfl (by decide) [_] L o l.length (l.flatMap Yz) ho hfl (Src.own List.mem_cons_self) (m:=1) (news:=Yz d) rfl (JR d) (by simp [maxLen];omega) (by omega) ?_;intro o' j1 j2 j3;refine xx ?_;refine ZP (ZO ?_);have e1:(Zpr l l.length d).flatMap Yz=l.flatMap Yz++Yz d:=by simp [Zpr]
  rw[← e1];exact hk o' j1
 obtain⟨bx,cap,rfl⟩:∃bx cap,o=some (bx,cap):=by
  cases o with
  | none=>have:l.length=0:=ho;omega
  | some p=>exact⟨_,_,rfl⟩
 rw[YE]at ea;injection ea with ea1 _ ea2
 subst ea1 ea2;have hbx:h bx=noC:=ax.2;have nbx:bx≠bv:=nbv;simp only[Ye]at hk ⊢;simp -dsimp -implicitDefEqProofs (disch:=first|with_reducible assumption|omega) [go_sem,VX Zbh];refine xcap Vj _ _ _ ?_;obtain⟨A,hA⟩:∃A,A=(l.take i).flatMap Yz:=⟨_,rfl⟩
 obtain⟨B,hB⟩:∃B,B=(l.drop i).flatMap Yz:=⟨_,rfl⟩
 have hAl:A.length=i*3:=by rw[hA,Z0 Yr,List.length_take,Nat.min_eq_left hi]
 have hBl:B.length=(l.length-i)*3:=by rw[hB,Z0 Yr,List.length_drop]
 have hAB:l.flatMap Yz=A++B:=by rw[hA,hB,← List.flatMap_append,List.take_append_drop]
 have hres:(Zpr l i d).flatMap Yz=A++Yz d++B:=by rw[hA,hB,Zpr,List.flatMap_append,List.flatMap_cons,List.append_assoc]
 rw[hres]at hk;rw[hAB];have cut1:Ju (some ⟨bx,0,none⟩) cap i 3=some ⟨bx,i*3,none⟩:=Zem (by omega);have hone:(Yz d).all Value.oneCell'=true:=List.all_eq_true.2 (JR d);have hdl:(Yz d).length=3:=rfl;have honeB:B.all Value.oneCell'=true:=by rw[hB];exact List.all_eq_true.2 (UD JR _)
 by_cases c2:cap<l.length+1
 ·refine xx ?_;have ek:(l.length:Int)+1-i=((l.length+1-i:Nat):Int):=by omega
  rw[ek]
  refine Ynv (t:=29) (tn:=3) (sz:=3) (bytes:=24) (kn:=.i64) Vj (by kernel_rfl) Un rfl rfl rfl (by decide) (a:=⟨bx,0,none⟩) (olds:=A) hAl (fun W hg j u hj=>JP hg (b:=bx) (o:=0) (List.mem_cons_of_mem _ List.mem_cons_self) (by decide) (by
   rw[Nat.zero_add,List.getElem?_append_left (List.getElem?_eq_some_iff.1 hj).1];exact hj)) (by omega) (by omega) (by simp [maxLen];omega) (by omega) fun b2 cap2 zs n2 h2 hc2 hm2 hz=>?_
  rw[show i+(l.length+1-i)=l.length+1 by omega]at hc2 ⊢;simp only[ZT]at n2;have cut2:Ju (some ⟨b2,0,none⟩) cap2 i 3=some ⟨b2,i*3,none⟩:=Zem (by omega);have cut3:Ju (some ⟨b2,0,none⟩) cap2 (i+1) 3=some ⟨b2,i*3+3,none⟩:=by rw[Zem (by omega),Nat.succ_mul]
  simp -dsimp -implicitDefEqProofs (disch:=first|with_reducible assumption|omega) [go_sem,VX Zbh,cut2];refine Yge Vj Un rfl (Src.own (b:=bv) (List.mem_cons_of_mem _ List.mem_cons_self)) (m:=1) (news:=Yz d) rfl (by omega) ?_;simp -dsimp -implicitDefEqProofs (disch:=first|with_reducible assumption|omega) [go_sem,hone,hdl];refine⟨by omega,?_⟩;refine xany (.tk 0 (.tk 1 (.tk 2 (.tk 3 (.tk 4 (.tk 5 (.tk 6 (.tk 7 (.o1 8 (.fin) (.nil)))))))))) (by kernel_rfl) (by kernel_rfl) ?_;simp -dsimp -implicitDefEqProofs (disch:=first|with_reducible assumption|omega) [go_sem,VX Zbh,cut1,cut3]
  repeat' first
   | refine Y4 ?_ ?_
   | simp -dsimp -implicitDefEqProofs (disch:=first|with_reducible assumption|omega) [go_sem,VX Zbh,cut1,cut3]
  have hw1:(wr (A++zs) (i*3) (Yz d)).length=i*3+zs.length:=by rw[JM _ _ _ (by simp [hdl];omega)];simp [hdl];omega
  have hw2:wr (wr (A++zs) (i*3) (Yz d)) (i*3+3) B=A++Yz d++B:=wr2 (D:=Yz d) hAl (by rw[hdl];omega)
  refine Yee Vj Un rfl (m:=l.length-i) (news:=B) (Nat.min_self _) (fun W hg j u hj=>JP hg (b:=bx) (o:=i*3) (List.mem_cons_of_mem _ (List.mem_cons_of_mem _ List.mem_cons_self)) (by decide) (by
   rw[List.getElem?_append_right (by omega),hAl,Nat.add_sub_cancel_left];exact hj)) hBl ?_
  simp -dsimp -implicitDefEqProofs (disch:=first|with_reducible assumption|omega) [go_sem,honeB,hBl,hw1];refine⟨by omega,?_⟩;simp -dsimp -implicitDefEqProofs (disch:=first|with_reducible assumption|omega) [go_sem,hw2]
  exact⟨_,_,(Za.perm h (List.perm_middle (l₁:=[_,_])).symm).trans ((Za.tail _ _ _).trans (Za.tail _ _ _)),by
   have:=hk (some (b2,cap2)) ⟨hc2,hm2⟩;rw[List.append_assoc]at this
   exact this⟩
 ·have cut3:Ju (some ⟨bx,0,none⟩) cap (i+1) 3=some ⟨bx,i*3+3,none⟩:=by rw[Zem (by omega),Nat.succ_mul]
  simp -dsimp -implicitDefEqProofs (disch:=first|with_reducible assumption|omega) [go_sem,VX Zbh,cut1,cut3]
  refine Zc.externG (v:=.bool false) (fun W hg=>by
   show (callFunc 381 #[_,_]).run prog W=_;rw[run_callFunc_extern func381 (by kernel_rfl) (by kernel_rfl) (by kernel_rfl) (e:=Extern.SlicesOverlaps.overlaps #[29,29] #[4]) (by kernel_rfl),Zho Vj Un rfl (b1:=bv) (b2:=bx) List.mem_cons_self (List.mem_cons_of_mem _ List.mem_cons_self) (by decide) (by decide) (Ne.symm nbx) (by omega) hg]
   rfl) ?_
  simp -dsimp -implicitDefEqProofs (disch:=first|with_reducible assumption|omega) [go_sem,VX Zbh,cut1,cut3];refine xany (.tk 0 (.tk 1 (.tk 2 (.tk 3 (.tk 4 (.tk 5 (.tk 6 (.tk 7 (.o1 8 (.fin) (.nil)))))))))) (by kernel_rfl) (by kernel_rfl) ?_
  repeat' first
   | refine Y4 ?_ ?_
   | simp -dsimp -implicitDefEqProofs (disch:=first|with_reducible assumption|omega) [go_sem,VX Zbh,cut1,cut3]
  refine Jk (Za.perm h (List.Perm.swap _ _ _)) (Zuf fun ys hys=>?_);have hyl:i*3+B.length+ys.length=cap*3:=by rw[List.length_append,hAl]at hys;exact hys
  refine Yee Vj Un rfl (m:=l.length-i) (news:=B) (by omega) (fun W hg j u hj=>JP hg (b:=bx) (o:=i*3) List.mem_cons_self (by decide) (by
   have h5:=(List.getElem?_eq_some_iff.1 hj).1
   rw[List.append_assoc,List.getElem?_append_right (by omega),hAl,Nat.add_sub_cancel_left,List.getElem?_append_left h5];exact hj)) hBl ?_
  have hw1:(A++B++ys).length=cap*3:=by rw[List.length_append,List.length_append,hAl];exact hyl
  have hw2:(wr (A++B++ys) (i*3+3) B).length=cap*3:=by rw[JM _ _ _ (by omega)];simp only[List.length_append,List.length_take,List.length_drop];omega
  have hw3:=wr3 (A:=A) (D:=Yz d) (B:=B) (zs:=ys) hAl (by rw[hdl];omega);rw[hdl]at hw3;obtain⟨C1,hC1⟩:∃C1,C1=A++B++ys:=⟨_,rfl⟩
  rw[← hC1]at hw1 hw2 hw3 ⊢;simp -dsimp -implicitDefEqProofs (disch:=first|with_reducible assumption|omega) [go_sem,honeB,hBl,hw1];refine⟨by omega,?_⟩;simp -dsimp -implicitDefEqProofs (disch:=first|with_reducible assumption|omega) [go_sem,VX Zbh,cut1,cut3];refine Yge Vj Un rfl (Src.own (b:=bv) (List.mem_cons_of_mem _ List.mem_cons_self)) (m:=1) (news:=Yz d) rfl (by omega) ?_;simp -dsimp -implicitDefEqProofs (disch:=first|with_reducible assumption|omega) [go_sem,hone,hdl,hw2];refine⟨by omega,?_⟩;have e3:=GO bx 167 (cap*3) (i*3+3+B.length) (wr (wr C1 (i*3+3) B) (i*3) (Yz d)) L h;rw[hw3]at e3;exact⟨_,_,(Za.perm h (List.Perm.swap _ _ _)).trans ((Za.tail _ _ _).trans e3),hk (some (bx,cap)) ⟨by show l.length+1≤cap;omega,ho.2⟩⟩
theorem Ydn {e sz:Nat}{o:Option (Nat×Nat)}{xs:List Value}{L:Own}{h:PH}(ap:Ap (oent e sz o xs L) h)(nd:Nd (oent e sz o xs L)):apO o L h:=by
 cases o with
 | none=>trivial
 | some p=>exact⟨nd.1,ap.1⟩
theorem Zjx {l:List Zg}{t:Int}{k:Nat}(h:¬(gr ZZ l k).at'≤t):WA l t (k+1)=WA l t k:=by rw[WA,if_neg h]
theorem Zis {l:List Zg}{t:Int}{k:Nat}(h:(gr ZZ l k).at'≤t):WA l t (k+1)=k+1:=by rw[WA,if_pos h]
theorem Yfc {l:List Zg}{d:Zg}(v:Value)(hv:Zh Yz 3 h v l)(hd:∀x∈l,Zs x)(hl:l.length≤32000)(hacct:0≤d.acct∧d.acct≤63)(hat:0≤d.at'∧d.at'≤9223372036854775807)(hamt:0≤d.amt)(hs:Wp l+d.amt≤4611686018427387904)
  (hk:∀h' r,PH.le h h'→Zh Yz 3 h' r (Jv l d)→K (.tuple #[r,.int .i64 0]) L h'):Zc prog 341 [v,dueV d] L h K:=by
 have hv0:=hv;have ht0:0≤Wp l:=Yu (Zep hd);obtain⟨va,vc,rfl,_⟩:=hv.open;refine ZS func341 rfl (rs:=[_,_]) rfl rfl ZW (by kernel_rfl) rfl rfl ?_;refine xx ?_;refine Z2 fun b3 nb3 zb3=>?_;(try simp only[ZT]at nb3);refine xx ?_;refine Zjg _ _ _ ?_;rw[show wi d.acct 0 63=true by rw[wi_iff];exact hacct];refine xx ?_;by_cases c0:d.amt=0
 ·refine xx ?_;rw[Jv,if_pos c0]at hk;refine Zbw _ hv0 (by omega) fun h1 r le1 i1=>?_;obtain⟨ra,rc,er,_⟩:=i1.open;refine xx ?_;exact ZP (ZO (hk h1 _ le1 i1))
 refine xx ?_;refine Zoi _ hv0 (by omega) fun o ok1 ap1=>?_;have hb3:(⟨b3,167,Yz d,3⟩:Zm)∈(⟨b3,167,Yz d,3⟩:Zm)::L:=List.mem_cons_self;have n3:apB o b3:=ap1.head;refine xx ?_;refine Yaq o ok1 (by omega) d b3 hb3 (fun i i1 i2=>?_) (fun hn=>?_)
 ·rw[Jv,if_neg c0,i2,if_pos i1]at hk;obtain⟨bx,cap,rfl⟩:∃bx cap,o=some (bx,cap):=by
   cases o with
   | none=>have:l.length=0:=ok1;omega
   | some p=>exact⟨_,_,rfl⟩
  have hbx:h bx=noC:=ap1.2;have nbx:bx≠b3:=n3;obtain⟨x,hx⟩:∃x,x=gr ZZ l i:=⟨_,rfl⟩
  have hxo:=hd x (by rw[hx];exact Zea i1);have hxt:=Yei hd i1;rw[← hx]at hxt hk;have g2:∀(K:Value→Prop) (t:Zk K),Wz (l.flatMap Yz) (i*3+2) K t=K (.int .u64 x.amt):=fun K t=>Z1 Yr ZZ _ (m:=2) i1 (by decide) (by rw[← hx];rfl) K t;simp only[YE,Ye];refine xx ?_;refine Yn (.tk 0 (.tk 1 (.tk 2 (.tk 3 (.tk 5 (.tkl 4 (.tkl 6 (.o1 7 (.tk 8 (.tk 9 (.tk 10 (.tk 11 (.tk 12 (.fin)))))) (.nil))))))))) (by kernel_rfl) (by kernel_rfl) _ (Za.refl _ _) ?_;simp -dsimp -implicitDefEqProofs (disch:=first|with_reducible assumption|omega) [go_sem,g2,Yz];refine WI x.amt d.amt (by have:=hxo.a;omega) (by omega) ?_;rw[Yi (by omega)]
  first
  | refine xkp (Za.refl _ _) ?_
  | skip
  refine xx ?_;have hset:(l.flatMap Yz).set (i*3+2) (.int .u64 (x.amt+d.amt))=(l.set i (Yet x d)).flatMap Yz:=Yx Yr ZZ l i1 (by decide) (by rw[← hx];rfl);rw[hset];have hsum:(l.map fun a=>(Yz a).length).sum=l.length*3:=by rw[← List.length_flatMap,Z0 Yr]
  refine⟨by omega,?_⟩;refine Wh (e:=167) (n:=l.length) (o:=some (bx,cap)) ok1 (by rw[Z0 Yr,List.length_set]) (by omega) ap1 fun h' le sl=>ZP (ZO (hk h' _ le ?_));have:=Zh.pub (f:=Yz) (w:=3) (l:=l.set i (Yet x d)) (o:=some (bx,cap)) Yr (by rw[List.length_set];exact sl)
  rwa [List.length_set]at this
 ·rw[Jv,if_neg c0,if_neg hn]at hk;obtain⟨a,c,ea,hc⟩:=Z9 ok1;refine xx ?_;rw[ea];refine xx ?_;rw[← ea];refine YO (γ:=Nat) l.length (fun k=>k≤l.length∧WA l d.at' l.length=WA l d.at' k) (fun k=>[(10,.int .i64 k),(3,.pointer (some ⟨b3,0,none⟩)),(6,ovs o l.length)]) (fun _=>oent 167 3 o (l.flatMap Yz) (⟨b3,167,Yz d,3⟩::L)) (fun _=>h) (fun k=>k) ?_ ?_ ?_ ?_
  ·exact⟨Nat.le_refl _,rfl⟩
  ·simp [Ent,List.lookup]
  ·exact Za.refl _ _
  rintro k ⟨j1,j3⟩;rcases k with _|m
  ·have j4:WA l d.at' l.length=0:=j3;refine xx ?_;refine Zgl (by kernel_rfl) rfl ?_;simp -dsimp -implicitDefEqProofs (disch:=first|with_reducible assumption|omega) [go_sem,ZR n3,Yz];by_cases cz:True
   ·skip
    refine Z2 fun bv n_bv h_bv=>?_;(try simp only[ZT]at n_bv);simp -dsimp -implicitDefEqProofs (disch:=first|with_reducible assumption|omega) [go_sem,ZR n3];refine Zc.apn (Zcl (d:=d) _ ok1 (by omega) 0 (by omega) bv fun o' j1 ap nd=>?_);have j2:=Ydn ap nd;obtain⟨ya,yc,ey,_⟩:=Z9 j1;rw[ey];refine xx ?_;rw[← ey];have hil:(Zpr l 0 d).length=l.length+1:=by simp only[Zpr,List.length_append,List.length_cons,List.length_take,List.length_drop];omega
    have hI:Zqx l d=Zpr l 0 d:=by rw[Zqx,j4];rfl
    rw[hI]at hk;refine Wh (e:=167) (n:=l.length+1) j1 (by rw[Z0 Yr,hil]) (by omega) j2 fun h' le sl=>ZP (ZO (hk h' _ le ?_));have:=Zh.pub (f:=Yz) (w:=3) (l:=Zpr l 0 d) (o:=o') Yr (by rw[hil];exact sl)
    rwa [hil]at this
   ·exact absurd trivial cz
  ·obtain⟨bx,cap,rfl⟩:∃bx cap,o=some (bx,cap):=by
    cases o with
    | none=>have:l.length=0:=ok1;omega
    | some p=>exact⟨_,_,rfl⟩
   have hbx:h bx=noC:=ap1.2;have nbx:bx≠b3:=n3;obtain⟨x,hx⟩:∃x,x=gr ZZ l m:=⟨_,rfl⟩
   have g1:∀(K:Value→Prop) (t:Zk K),Wz (l.flatMap Yz) (m*3+1) K t=K (.int .i64 x.at'):=fun K t=>Z1 Yr ZZ _ (m:=1) (by omega) (by decide) (by rw[← hx];rfl) K t;by_cases c1:x.at'≤d.at'
   ·have j4:WA l d.at' l.length=m+1:=by rw[j3];exact Zis (by rw[← hx];exact c1)
    simp only[YE,Ye];refine xx ?_;refine Zgl (by kernel_rfl) rfl ?_;simp -dsimp -implicitDefEqProofs (disch:=first|with_reducible assumption|omega) [go_sem,g1,Yz];rw[← YE,← Ye];refine Z2 fun bv n_bv h_bv=>?_;(try simp only[ZT]at n_bv);simp -dsimp -implicitDefEqProofs (disch:=first|with_reducible assumption|omega) [go_sem,ZR n3];refine Zc.apn (Zcl (d:=d) _ ok1 (by omega) (m+1) (by omega) bv fun o' j1 ap nd=>?_);have j2:=Ydn ap nd;obtain⟨ya,yc,ey,_⟩:=Z9 j1;rw[ey];refine xx ?_;rw[← ey];have hil:(Zpr l (m+1) d).length=l.length+1:=by simp only[Zpr,List.length_append,List.length_cons,List.length_take,List.length_drop];omega
    have hI:Zqx l d=Zpr l (m+1) d:=by rw[Zqx,j4];rfl
    rw[hI]at hk;refine Wh (e:=167) (n:=l.length+1) j1 (by rw[Z0 Yr,hil]) (by omega) j2 fun h' le sl=>ZP (ZO (hk h' _ le ?_));have:=Zh.pub (f:=Yz) (w:=3) (l:=Zpr l (m+1) d) (o:=o') Yr (by rw[hil];exact sl)
    rwa [hil]at this
   ·simp only[YE,Ye];refine xx ?_;refine Zgl (by kernel_rfl) rfl ?_;simp -dsimp -implicitDefEqProofs (disch:=first|with_reducible assumption|omega) [go_sem,g1,Yz];exact⟨m,⟨by omega,by rw[j3];exact Zjx (by rw[← hx];exact c1)⟩,by omega,by simp [Ent,List.lookup],Za.refl _ _⟩
theorem GB {α:Type}{f:α→List Value}{w:Nat}(hf:∀a,(f a).length=w)(l:List α){i:Nat}(hi:i<l.length)(a':α):wr (l.flatMap f) (i*w) (f a')=(l.set i a').flatMap f:=by
 have h1:l.flatMap f=(l.take i).flatMap f++(f l[i]++(l.drop (i+1)).flatMap f):=by
  conv=>lhs;rw[← List.take_append_drop i l,List.drop_eq_getElem_cons hi]
  rw[List.flatMap_append,List.flatMap_cons]
 have h2:((l.take i).flatMap f).length=i*w:=by rw[Z0 hf,List.length_take,Nat.min_eq_left (by omega)]
 rw[JM _ _ _ (by rw[h1];simp only[List.length_append,h2,hf];omega),hf];rw[List.set_eq_take_append_cons_drop,if_pos hi,List.flatMap_append,List.flatMap_cons];rw[h1,← h2,List.take_left,List.append_assoc]
 congr 2
 rw[← List.drop_drop,List.drop_left];rw[← hf l[i],List.drop_left]
theorem Nd.nodup:∀ {L:Own},Nd L→(L.map Zm.b).Nodup
 | [],_=>List.nodup_nil
 | e::L,hn=>by
  rw[List.map_cons,List.nodup_cons];refine⟨fun hm=>?_,Nd.nodup hn.2⟩;obtain⟨x,hx,hb⟩:=List.mem_map.1 hm;exact U2 hn.1 x hx hb
theorem Nd.perm {L L':Own}(p:L.Perm L')(nd:Nd L):Nd L':=Nd.of ((p.map Zm.b).nodup_iff.1 nd.nodup)
theorem Ap.mem {h:PH}:∀ {L:Own},Ap L h→∀e∈L,h e.b=noC
 | [],_,e,he=>by cases he
 | x::L,ha,e,he=>by
  rcases List.mem_cons.1 he with rfl|he
  ·exact ha.1
  ·exact Ap.mem ha.2 e he
theorem Ap.perm {L L':Own}{h:PH}(p:L.Perm L')(ap:Ap L h):Ap L' h:=Ap.of fun e he=>ap.mem e (p.mem_iff.2 he)
section
variable {e1 s1 e2 s2 e3 s3:Nat} {oo om ox:Option (Nat×Nat)} {outs ms xs:List Value} {x a b:Zm} {L:Own} {h:PH}
end
theorem Zlw {o:Option (Nat×Nat)}{m n:Nat}(ho:okO o n)(h:m≤n):okO o m:=by
 cases o with
 | none =>
  have h0:n=0:=ho;show m=0;omega
 | some p=>exact⟨Nat.le_trans h ho.1,ho.2⟩
open Go.RowKit Go.Proofs Go.Bl Go.Proofs.Tryz
theorem Yas {s:Zd}(hf:WK s=true):∀m∈s.members,Vt s.par m=true∧0≤m.owner∧m.owner<s.purses.length:=by
 simp only[WK,Bool.and_eq_true]at hf;obtain⟨⟨⟨⟨⟨⟨⟨⟨f1,f2⟩,f3⟩,f4⟩,f5⟩,f6⟩,f7⟩,f8⟩,f9⟩:=hf;simp only[Vo,Bool.and_eq_true,List.all_eq_true]at f5;intro m hm;have h1:=f5.1.1.2 m hm;refine⟨h1.1,?_⟩;have h2:=h1.2;rw[V3,wi_iff]at h2;omega
theorem Zkk {p:Ze}{m:Zb}(h:Vt p m=true):(0≤m.owner∧m.owner<64)∧min m.score p.scoreCap=m.score∧min (max m.streak 0) p.streak=m.streak∧JC p m=true:=by
 simp only[Vt,Bool.and_eq_true,decide_eq_true_eq]at h;obtain⟨⟨⟨h1,h2⟩,h3⟩,h4⟩:=h;simp only[Zuh,Zdz,List.cons.injEq,and_true,true_and]at h3;exact⟨⟨h1,h2⟩,h3.1,h3.2,h4⟩
theorem Ztc {p:Ze}(hr:YM p=true){m:Zb}(h:JC p m=true):m.bal≤p.cap:=by
 have hs:Vv p=true:=by simp only[YM,Bool.and_eq_true]at hr;exact hr.1.1.1
 have f:=YY hs;unfold JC at h;split at h
 ·simp only[Bool.and_eq_true,decide_eq_true_eq]at h;omega
 ·split at h
  ·simp only[Bool.and_eq_true,decide_eq_true_eq]at h;omega
  ·split at h
   ·simp only[Bool.and_eq_true,decide_eq_true_eq]at h;omega
   ·cases h
theorem Zkq {p:Ze}(hr:YM p=true){b:Int}(hb:p.floor<b):VV p (Wi p b) b=true:=by
 have hs:Vv p=true:=by simp only[YM,Bool.and_eq_true]at hr;exact hr.1.1.1
 have f:=YY hs;have h1:=Int.emod_nonneg b (show p.inc≠0 by omega);have h2:=Int.emod_lt_of_pos b (show 0<p.inc by omega);have h3:(b-b%p.inc)%p.inc=0:=by rw[Int.sub_emod,Int.emod_emod_of_dvd _ (Int.dvd_refl _)];simp
 have h4:p.inc≤b-b%p.inc:=by
  have e:=Int.emod_def b p.inc;have e2:b-b%p.inc=p.inc*(b/p.inc):=by omega
  have:1≤b/p.inc:=(Int.le_ediv_iff_mul_le (by omega)).2 (by omega);rw[e2];have:=Int.mul_le_mul_of_nonneg_left this (show 0≤p.inc by omega);omega
 have hn:Zab p (Wi p b) b=Wi p b:=by unfold Zab;split<;>rfl
 have hw:Wi p b%p.inc=0:=by
  unfold Wi;rcases Int.le_total (b-b%p.inc) p.maxEff with c|c
  ·rw[Int.min_eq_left c];exact h3
  ·rw[Int.min_eq_right c];exact f.2.2.2.2.2.2.2.2.2.2.2
 simp only[VV,Bool.and_eq_true,decide_eq_true_eq];refine⟨⟨⟨?_,?_⟩,hw⟩,hn⟩<;>unfold Wi<;>omega
theorem Gu:∀ {S l:List Int},S.Nodup→(∀x∈S,x∈l)→l.length=S.length→l.Perm S
 | [],l,_,_,hl=>by
  have:l=[]:=List.eq_nil_of_length_eq_zero hl;rw[this]
 | a::S,l,hn,hs,hl=>by
  have ha:=hs a (by simp);rw[List.nodup_cons]at hn;have h1:=List.perm_cons_erase ha;have h2:=List.length_erase_of_mem ha;refine h1.trans (List.Perm.cons _ (Gu hn.2 (fun x hx=>?_) ?_))
  ·have hne:x≠a:=fun e=>hn.1 (e ▸ hx);exact(List.mem_erase_of_ne hne).2 (hs x (by simp [hx]))
  ·rw[h2,hl];simp
def stL (l:List Zb)(st:Int)(n:Nat):List Nat:=(List.range n).filter fun j=>decide ((gr ZQ l j).status=st)
theorem Zcx (l:List Zb)(st:Int):∀k,Zly l st k=(stL l st k).length
 | 0=>rfl
 | k+1=>by
  rw[Zly,Zcx l st k,stL,stL,List.range_succ,List.filter_append,List.length_append];by_cases c:(gr ZQ l k).status=st
  ·simp [c]
  ·simp [c]
def Ztm (q:Ze)(cs:List Zb)(k:Nat)(x:Int):Bool:=decide (∀j,j<k→ejP q (gr ZQ cs j)→x≠(j:Int))
theorem Ydx (q:Ze)(cs:List Zb)(xs:List Int):∀k,exN q cs xs k=xs.filter (Ztm q cs k)
 | 0=>by
  symm
  rw[exN,List.filter_eq_self];intro x _;simp [Ztm]
 | k+1=>by
  have hsame:∀x,Ztm q cs (k+1) x=(Ztm q cs k x && !(decide (ejP q (gr ZQ cs k))&&decide (x=(k:Int)))):=fun x=>by
   rw[Bool.eq_iff_iff];simp only[Ztm,Bool.and_eq_true,decide_eq_true_eq,Bool.not_eq_true',Bool.and_eq_false_iff,decide_eq_false_iff_not]
   constructor
   ·intro h;refine⟨fun j hj=>h j (by omega),?_⟩;by_cases c:ejP q (gr ZQ cs k)
    ·exact .inr (h k (by omega) c)
    ·exact .inl c
   ·rintro⟨h1,h2⟩ j hj hp;rcases(by omega:j<k∨j=k) with c|rfl
    ·exact h1 j c hp
    ·rcases h2 with h2|h2
     ·exact absurd hp h2
     ·exact h2
  rw[exN,Ydx q cs xs k];split
  ·rename_i c;rw[Yif,List.filter_filter];refine List.filter_congr fun x _=>?_;rw[hsame];simp [c,Bool.and_comm]
  ·rename_i c;refine List.filter_congr fun x _=>?_;rw[hsame];simp [c]
theorem stL_mem {l:List Zb}{st:Int}{n j:Nat}:j∈stL l st n↔j<n∧(gr ZQ l j).status=st:=by
 simp [stL]
theorem GZ (l:List Zb)(st:Int)(n:Nat):((stL l st n).map fun j:Nat=>(j:Int)).Nodup:=by
 rw[List.Nodup,List.pairwise_map];have h1:(stL l st n).Nodup:=List.Nodup.sublist List.filter_sublist List.nodup_range;exact h1.imp fun h e=>h (by omega)
theorem Ybr {s:Zd}{l:List Int}{st:Int}(h:Ycw s l st=true){j:Nat}(hj:j<s.members.length)(e:(gr ZQ s.members j).status=st):(j:Int)∈l:=by
 rw[Ycw,List.all_eq_true]at h;have:=h j (List.mem_range.2 hj)
 simpa [e] using this
def Zbt (d:Zg):Int×Int:=(d.acct,d.at')
def KeyR (a b:Int×Int):Prop:=a≠b∧a.2≤b.2
def Gy (l:List Zg):Prop:=(l.map Zbt).Pairwise KeyR
theorem Zwb (d x:Zg):Zbr d x=true↔Zbt x=Zbt d:=by
 simp [Zbr,Zbt]
theorem Zwh {l:List Zg}(h:∀k,k<l.length→Ztl l k=true):∀(m j:Nat),j+m<l.length→(gr ZZ l j).at'≤(gr ZZ l (j+m)).at'
 | 0,j,_=>Int.le_refl _
 | m+1,j,hj=>by
  have h1:=Zwh h m j (by omega);have h2:=h (j+(m+1)) hj;rw[Ztl,Bool.or_eq_true,decide_eq_true_eq,decide_eq_true_eq]at h2;rcases h2 with h2|h2
  ·omega
  ·rw[show j+(m+1)-1=j+m by omega]at h2;omega
theorem line_iff {l:List Zg}:Gy l↔∀k,k<l.length→Zvg l k=false∧Ztl l k=true:=by
 rw[Gy,List.pairwise_iff_getElem];simp only[List.length_map,List.getElem_map]
 constructor
 ·intro h k hk
  constructor
  ·rw[Zvg,List.any_eq_false];intro j hj;rw[List.mem_range]at hj;have:=h j k (by omega) hk hj;rw[Z8 hk,Z8 (by omega:j<l.length)];intro e;simp only[Bool.and_eq_true,decide_eq_true_eq]at e;exact this.1 (by rw[Zbt,Zbt,e.1,e.2])
  ·rw[Ztl,Bool.or_eq_true,decide_eq_true_eq,decide_eq_true_eq];by_cases c:k=0
   ·exact .inl c
   ·right
    have:=h (k-1) k (by omega) hk (by omega);rw[Z8 hk,Z8 (by omega:k-1<l.length)];exact this.2
 ·intro h i j hi hj hij
  constructor
  ·intro e;have:=(h j hj).1;rw[Zvg,List.any_eq_false]at this;have h2:=this i (List.mem_range.2 hij);rw[Z8 hj,Z8 hi]at h2;simp only[Zbt,Prod.mk.injEq]at e;exact h2 (by simp [e.1,e.2])
  ·have:=Zwh (fun k hk=>(h k hk).2) (j-i) i (by omega);rw[show i+(j-i)=j by omega,Z8 hj,Z8 hi]at this;exact this
theorem Zgj {l:List Zg}{t:Int}:∀(k j:Nat),WA l t k≤j→j<k→t<(gr ZZ l j).at'
 | 0,j,_,hj=>by omega
 | k+1,j,h1,h2=>by
  rw[WA]at h1;split at h1
  ·omega
  ·rename_i c;rcases(by omega:j<k∨j=k) with e|rfl
   ·exact Zgj k j h1 e
   ·omega
theorem Zfn {l:List Zg}{t:Int}:∀(k:Nat),0<WA l t k→(gr ZZ l (WA l t k-1)).at'≤t
 | 0,h=>by simp [WA]at h
 | k+1,h=>by
  rw[WA]at h ⊢;split at h
  ·rename_i c;rw[if_pos c];exact c
  ·rename_i c;rw[if_neg c];exact Zfn k h
theorem Zzx {l:List Zg}(h:Gy l){i:Nat}(hi:i<l.length)(d:Zg):Gy (l.set i (Yet (gr ZZ l i) d)):=by
 have e:(l.set i (Yet (gr ZZ l i) d)).map Zbt=l.map Zbt:=by
  rw[List.map_set];have:Zbt (Yet (gr ZZ l i) d)=(l.map Zbt)[i]'(by simpa using hi):=by rw[List.getElem_map,Z8 hi];rfl
  rw[this,List.set_getElem_self]
 rw[Gy,e];exact h
theorem Zzi {l:List Zg}(h:Gy l){d:Zg}(hn:∀x∈l,Zbt x≠Zbt d):Gy (Zqx l d):=by
 obtain⟨p,hp⟩:∃p,p=WA l d.at' l.length:=⟨_,rfl⟩
 have hpl:=GW l d.at' l.length;have hhi:=Zgj (l:=l) (t:=d.at') l.length;have hlo:=Zfn (l:=l) (t:=d.at') l.length;rw[← hp]at hpl hhi hlo;have ho:=fun k hk=>((line_iff.1 h) k hk).2;have h0:=h;have e:(Zqx l d).map Zbt=(l.take p).map Zbt++Zbt d::(l.drop p).map Zbt:=by rw[Zqx,← hp,List.map_append,List.map_cons]
 have e2:l.map Zbt=(l.take p).map Zbt++(l.drop p).map Zbt:=by rw[← List.map_append,List.take_append_drop]
 rw[Gy,e2,List.pairwise_append]at h0;rw[Gy,e,List.pairwise_append,List.pairwise_cons];refine⟨h0.1,⟨fun b hb=>?_,h0.2.1⟩,fun a ha b hb=>?_⟩
 ·obtain⟨x,hx,rfl⟩:=List.mem_map.1 hb;refine⟨fun e=>hn x (List.mem_of_mem_drop hx) e.symm,?_⟩;obtain⟨j,hj,rfl⟩:=List.mem_iff_getElem.1 hx;rw[List.length_drop]at hj;have:=hhi (p+j) (by omega) (by omega);rw[Z8 (by omega)]at this;rw[List.getElem_drop];exact Int.le_of_lt this
 ·obtain⟨x,hx,rfl⟩:=List.mem_map.1 ha;rcases List.mem_cons.1 hb with rfl|hb
  ·refine⟨hn x (List.mem_of_mem_take hx),?_⟩;obtain⟨j,hj,rfl⟩:=List.mem_iff_getElem.1 hx;rw[List.length_take]at hj;have h1:=Zwh ho (p-1-j) j (by omega);rw[show j+(p-1-j)=p-1 by omega]at h1;have h2:=hlo (by omega);rw[Z8 (by omega:j<l.length)]at h1;rw[List.getElem_take];exact Int.le_trans h1 h2
  ·exact h0.2.2 _ ha _ hb
theorem Zyy {l:List Zg}(h:Gy l)(d:Zg):Gy (Jv l d):=by
 unfold Jv;split
 ·exact h
 ·split
  ·rename_i c;exact Zzx h c d
  ·rename_i c;refine Zzi h fun x hx e=>c ?_;rw[Zhx,List.findIdx_lt_length];exact⟨x,hx,(Zwb d x).2 e⟩
end Go.X

/- Lemmas and contracts for a statement about the given program. Conditions: as each says. -/
import Derived.Test.YtmmfajokfdaokaaGreatQ24
import Derived.Test.YtmmfajokfdaokaaGreatQ28
set_option linter.unusedVariables false
set_option linter.unusedSimpArgs false
set_option maxHeartbeats 12800000
set_option maxRecDepth 20000
namespace Go.X
open Go.RowKit Go.Proofs Go.Bl
variable {L:Own} {h:PH} {K:PK}
theorem mem_oentU {e sz:Nat} {o:Option (Nat×Nat)} {cs:List Value} {L:Own} {x:Blk} (hx:x∈L):x∈oent e sz o cs L:=by
 cases o with
 | none=>exact hx
 | some p=>exact List.mem_cons_of_mem _ hx
theorem cutA_at {b c i sz:Nat} (hne:c≠i):cutA (some ⟨b,0,none⟩) c i sz=some ⟨b,i*sz,none⟩:=by
 rw [cutA,if_neg hne,Option.map_some,add_none,Nat.zero_add]
theorem int27:tSh Tryz.prog 32 = .sl 3 1 8:=by kernel_rfl
theorem cloneD_own {l:List DueD} (v:Value) (hv:Recs dueC 3 h v l) (hl:l.length≤34000) (hk:∀ o,okO o l.length→apO o L h→K (ovs o l.length) (oent 142 3 o (l.flatMap dueC) L) h):Spec Tryz.prog 67 [v] L h K:=by
 have hx:=hv
 obtain ⟨a,ca,rfl,hna,hca,h0,_⟩:=hx.open
 refine x_enter Tryz.func67 rfl (rs:=[_]) rfl rfl mixed (by kernel_rfl) rfl rfl ?_
 refine xx ?_
 cases ha:a.isNone with
 | true =>
  have ha':a=none:=by simpa using ha
  subst ha'
  have hl0:l.length=0:=by have:=h0 rfl; omega
  have hx':l=[]:=List.eq_nil_of_length_eq_zero hl0
  subst hx'
  refine xx ?_
  exact fin_here (hk none rfl trivial)
 | false =>
  refine xx ?_
  refine xnew fun b1 n_b1 h_b1=>?_
  try simp only [Apart] at n_b1
  refine xx ?_
  refine xappend (t:=34) (e:=142) (sz:=3) (bytes:=24) (by kernel_rfl) tI_142 rfl rfl rfl rfl (by decide) [] L (some (b1,0)) 0 [] ⟨Nat.le_refl _,Nat.zero_le _⟩ rfl (Src.known hx.s) (news:=l.flatMap dueC) (flatG_len dueC_len l) (flatI_one dueC_one l) (by simp [maxLen]; omega) (by omega) ?_
  intro o' j1 j2 j3
  simp only [Nat.zero_add,List.nil_append] at j1 j2 ⊢
  refine xx ?_
  exact fin_here (hk o' j1 j2)
abbrev dueV (d:DueD):Value := .agg #[.int .i64 d.acct,.int .i64 d.at',.int .u64 d.amt]
theorem ow1_any (x d:DueD) (b:Nat) (hb:(⟨b,142,dueC d,3⟩:Blk)∈L) (hk:K (.bool (sameK d x)) L h):Spec Tryz.prog 362 [dueV x,.pointer (some ⟨b,0,none⟩)] L h K:=by
 refine Spec.frame1 hb ?_ hk
 refine Spec.entr fun ap _=>?_
 have hn:h b=noC:=ap.1
 unfold sameK
 refine x_enter Tryz.func362 rfl (rs:=[_]) rfl rfl mixed (by kernel_rfl) rfl rfl ?_
 refine xx ?_
 refine xnew fun b2 n_b2 h_b2=>?_
 try simp only [Apart] at n_b2
 refine xx ?_
 by_cases c1:x.acct=d.acct
 ·by_cases c2:x.at'=d.at'
  ·simp -dsimp -implicitDefEqProofs (disch:=first|with_reducible assumption|omega) [go_sem,dueC]
   exact fin_tail (fin_here ⟨by simp [c1,c2],rfl,rfl⟩)
  ·simp -dsimp -implicitDefEqProofs (disch:=first|with_reducible assumption|omega) [go_sem,dueC]
   exact fin_tail (fin_here ⟨by simp [c1,c2],rfl,rfl⟩)
 ·simp -dsimp -implicitDefEqProofs (disch:=first|with_reducible assumption|omega) [go_sem,dueC]
  exact fin_tail (fin_here ⟨by simp [c1],rfl,rfl⟩)
theorem idxd_any {l:List DueD} (o:Option (Nat×Nat)) (ho:okO o l.length) (hl:l.length≤34000) (d:DueD) (b:Nat) (hb:(⟨b,142,dueC d,3⟩:Blk)∈L)
  (hyes:∀ i:Nat,i<l.length→fstK l d=i→K (.int .i64 i) (oent 142 3 o (l.flatMap dueC) L) h)
  (hno:¬ fstK l d<l.length→K (.int .i64 (-1)) (oent 142 3 o (l.flatMap dueC) L) h) :
  Spec Tryz.prog 361 [ovs o l.length,.func (.func 362) #[] #[.pointer (some ⟨b,0,none⟩)]] (oent 142 3 o (l.flatMap dueC) L) h K:=by
 refine Spec.entr fun ap _=>?_
 have ax:=ap_here ap
 have hb2:=mem_oentU (e:=142) (sz:=3) (o:=o) (cs:=l.flatMap dueC) hb
 obtain ⟨a,c,ea,_⟩:=ovs_open ho
 refine x_enter Tryz.func361 rfl (rs:=[_]) rfl rfl mixed (by kernel_rfl) rfl rfl ?_
 refine xx ?_
 rw [ea]
 refine xx ?_
 rw [← ea]
 refine xloop (γ:=Nat) 0 (fun j=>j≤l.length∧∀ i,i<j→sameK d (gr zeroDue l i)=false) (fun j=>[(8,.int .i64 j),(7,.int .i64 l.length),(0,ovs o l.length),(1,.func (.func 362) #[] #[.pointer (some ⟨b,0,none⟩)])]) (fun _=>oent 142 3 o (l.flatMap dueC) L) (fun _=>h) (fun j=>l.length-j) ?_ ?_ ?_ ?_
 ·exact ⟨Nat.zero_le _,fun i hi=>by omega⟩
 ·simp [Ent,List.lookup,xEnv]
 ·exact Drop.refl _ _
 rintro j ⟨j1,j2⟩
 by_cases c1:j<l.length
 ·obtain ⟨bx,cap,rfl⟩:∃ bx cap,o=some (bx,cap):=by
   cases o with
   | none=>have:l.length=0:=ho; omega
   | some p=>exact ⟨_,_,rfl⟩
  have hbx:h bx=noC:=ax.2
  obtain ⟨x,hx⟩:∃ x,x=gr zeroDue l j:=⟨_,rfl⟩
  have g0:∀ (K:Value→Prop) (t:Tok K),xNth (l.flatMap dueC) (j*3) K t=K (.int .i64 x.acct):=fun K t=>xNth_rec dueC_len zeroDue _ (m:=0) c1 (by decide) (by rw [← hx]; rfl) K t
  have g1:∀ (K:Value→Prop) (t:Tok K),xNth (l.flatMap dueC) (j*3+1) K t=K (.int .i64 x.at'):=fun K t=>xNth_rec dueC_len zeroDue _ (m:=1) c1 (by decide) (by rw [← hx]; rfl) K t
  have g2:∀ (K:Value→Prop) (t:Tok K),xNth (l.flatMap dueC) (j*3+2) K t=K (.int .u64 x.amt):=fun K t=>xNth_rec dueC_len zeroDue _ (m:=2) c1 (by decide) (by rw [← hx]; rfl) K t
  simp only [ovs_some,oent_some] at hb2 hyes ⊢
  simp -dsimp -implicitDefEqProofs (disch:=first|with_reducible assumption|omega) [go_sem,g0,g1,g2]
  refine ow1_any x d b hb2 ?_
  cases c2:sameK d x with
  | true =>
   refine xx ?_
   exact fin_here (hyes j c1 (fstK_at c1 (by rw [← hx]; exact c2) j2))
  | false =>
   refine xx ?_
   refine ⟨j+1,⟨by omega,fun i hi=>?_⟩,by omega,by simp [Ent,List.lookup],Drop.refl _ _⟩
   by_cases e:i=j
   ·subst e; rw [← hx]; exact c2
   ·exact j2 i (by omega)
 ·have hj:j=l.length:=by omega
  subst hj
  refine xx ?_
  exact fin_here (hno (fstK_no j2))
theorem due29:tSh Tryz.prog 34 = .sl 142 3 24:=by kernel_rfl
theorem wr2 {A D B zs:List Value} {a:Nat} (hA:A.length=a) (hz:zs.length=D.length+B.length):wr (wr (A++zs) a D) (a+D.length) B=A++D++B:=by
 subst hA
 have h1:wr (A++zs) A.length D=A++D++zs.drop D.length:=by
  rw [wr_eq _ _ _ (by simp; omega),List.take_left,← List.drop_drop,List.drop_left]
 rw [h1,wr_eq _ _ _ (by simp; omega)]
 rw [show A.length+D.length=(A++D).length by simp,List.take_left,← List.drop_drop,List.drop_left,List.drop_drop,List.drop_eq_nil_of_le (by omega),List.append_nil]
theorem wr3 {A D B zs:List Value} {a:Nat} (hA:A.length=a) (hz:D.length≤zs.length):(wr (wr (A++B++zs) (a+D.length) B) a D).take (a+D.length+B.length)=A++D++B:=by
 subst hA
 have hl:(wr (A++B++zs) (A.length+D.length) B).length=A.length+B.length+zs.length:=by
  rw [wr_eq _ _ _ (by simp only [List.length_append,List.length_take]; omega)]; simp only [List.length_append,List.length_take,List.length_drop]; omega
 rw [wr_eq D _ _ (by rw [hl]; omega),wr_eq B _ _ (by simp only [List.length_append,List.length_take]; omega)]
 have h1:((A++B++zs).take (A.length+D.length)++B++(A++B++zs).drop (A.length+D.length+B.length)).take A.length=A:=by
  rw [List.append_assoc,List.take_append_of_le_length (by simp only [List.length_append,List.length_take]; omega),List.take_take,Nat.min_eq_left (by omega),List.append_assoc,List.take_left]
 have h2:((A++B++zs).take (A.length+D.length)++B++(A++B++zs).drop (A.length+D.length+B.length)).drop (A.length+D.length)=B++(A++B++zs).drop (A.length+D.length+B.length):=by
  have h3:((A++B++zs).take (A.length+D.length)).length=A.length+D.length:=by simp only [List.length_take,List.length_append]; omega
  rw [List.append_assoc]
  conv=>lhs; arg 1; rw [← h3]
  rw [List.drop_left]
 rw [h1,h2,← List.append_assoc]
 rw [show A.length+D.length+B.length=(A++D++B).length by simp only [List.length_append],List.take_left]
theorem due_under:Tryz.prog.underlying 34=some (.slice 142):=by kernel_rfl
theorem insert_any {l:List DueD} {d:DueD} (o:Option (Nat×Nat)) (ho:okO o l.length) (hl:l.length≤34000) (i:Nat) (hi:i≤l.length) (bv:Nat)
  (hk:∀ o',okO o' (l.length+1)→K (ovs o' (l.length+1)) (oent 142 3 o' ((insA l i d).flatMap dueC) L) h) :
  Spec Tryz.prog 363 [ovs o l.length,.int .i64 i,.slice (some ⟨bv,0,none⟩) 1 1] (⟨bv,142,dueC d,3⟩::oent 142 3 o (l.flatMap dueC) L) h K:=by
 refine Spec.entr fun ap nd=>?_
 obtain ⟨hbv,ap⟩:=ap
 have ax:=ap_here ap
 have nbv:=apart_here nd.1
 obtain ⟨a,c,ea,hc⟩:=ovs_open ho
 have hfl:(l.flatMap dueC).length=l.length*3:=flatG_len dueC_len l
 refine x_enter Tryz.func363 rfl (rs:=[_]) rfl rfl mixed (by kernel_rfl) rfl rfl ?_
 refine xx ?_
 rw [ea]
 simp -dsimp -implicitDefEqProofs (disch:=first|with_reducible assumption|omega) [go_sem,xSl_lo due29]
 by_cases c1:i=l.length
 ·subst c1
  simp -dsimp -implicitDefEqProofs (disch:=first|with_reducible assumption|omega) [go_sem,xSl_lo due29]
  rw [← ea]
  refine xappend (t:=34) (e:=142) (sz:=3) (bytes:=24) due_under tI_142 rfl rfl rfl rfl (by decide) [_] L o l.length (l.flatMap dueC) ho hfl (Src.own List.mem_cons_self) (m:=1) (news:=dueC d) rfl (dueC_one d) (by simp [maxLen]; omega) (by omega) ?_
  intro o' j1 j2 j3
  refine xx ?_
  refine fin_tail (fin_here ?_)
  have e1:(insA l l.length d).flatMap dueC=l.flatMap dueC++dueC d:=by simp [insA]
  rw [← e1]
  exact hk o' j1
 obtain ⟨bx,cap,rfl⟩:∃ bx cap,o=some (bx,cap):=by
  cases o with
  | none=>have:l.length=0:=ho; omega
  | some p=>exact ⟨_,_,rfl⟩
 rw [ovs_some] at ea
 injection ea with ea1 _ ea2
 subst ea1 ea2
 have hbx:h bx=noC:=ax.2
 have nbx:bx≠bv:=nbv
 simp only [oent_some] at hk ⊢
 simp -dsimp -implicitDefEqProofs (disch:=first|with_reducible assumption|omega) [go_sem,xSl_lo due29]
 refine xcap due_under _ _ _ ?_
 obtain ⟨A,hA⟩:∃ A,A=(l.take i).flatMap dueC:=⟨_,rfl⟩
 obtain ⟨B,hB⟩:∃ B,B=(l.drop i).flatMap dueC:=⟨_,rfl⟩
 have hAl:A.length=i*3:=by rw [hA,flatG_len dueC_len,List.length_take,Nat.min_eq_left hi]
 have hBl:B.length=(l.length-i)*3:=by rw [hB,flatG_len dueC_len,List.length_drop]
 have hAB:l.flatMap dueC=A++B:=by rw [hA,hB,← List.flatMap_append,List.take_append_drop]
 have hres:(insA l i d).flatMap dueC=A++dueC d++B:=by rw [hA,hB,insA,List.flatMap_append,List.flatMap_cons,List.append_assoc]
 rw [hres] at hk
 rw [hAB]
 have cut1:cutA (some ⟨bx,0,none⟩) cap i 3=some ⟨bx,i*3,none⟩:=cutA_at (by omega)
 have hone:(dueC d).all Value.oneCell'=true:=List.all_eq_true.2 (dueC_one d)
 have hdl:(dueC d).length=3:=rfl
 have honeB:B.all Value.oneCell'=true:=by rw [hB]; exact List.all_eq_true.2 (flatI_one dueC_one _)
 by_cases c2:cap<l.length+1
 ·refine xx ?_
  have ek:(l.length:Int)+1-i=((l.length+1-i:Nat):Int):=by omega
  rw [ek]
  refine xgrow0 (t:=34) (tn:=3) (sz:=3) (bytes:=24) (kn:=.i64) due_under (by kernel_rfl) tI_142 rfl rfl rfl (by decide) (a:=⟨bx,0,none⟩) (olds:=A) hAl (fun W hg j u hj=>own_cell hg (b:=bx) (o:=0) (List.mem_cons_of_mem _ List.mem_cons_self) (by decide) (by
   rw [Nat.zero_add,List.getElem?_append_left (List.getElem?_eq_some_iff.1 hj).1]; exact hj)) (by omega) (by omega) (by simp [maxLen]; omega) (by omega) fun b2 cap2 zs n2 h2 hc2 hm2 hz=>?_
  rw [show i+(l.length+1-i)=l.length+1 by omega] at hc2 ⊢
  simp only [Apart] at n2
  have cut2:cutA (some ⟨b2,0,none⟩) cap2 i 3=some ⟨b2,i*3,none⟩:=cutA_at (by omega)
  have cut3:cutA (some ⟨b2,0,none⟩) cap2 (i+1) 3=some ⟨b2,i*3+3,none⟩:=by rw [cutA_at (by omega),Nat.succ_mul]
  simp -dsimp -implicitDefEqProofs (disch:=first|with_reducible assumption|omega) [go_sem,xSl_lo due29,cut2]
  refine xcopy due_under tI_142 rfl (Src.own (b:=bv) (List.mem_cons_of_mem _ List.mem_cons_self)) (m:=1) (news:=dueC d) rfl (by omega) ?_
  simp -dsimp -implicitDefEqProofs (disch:=first|with_reducible assumption|omega) [go_sem,hone,hdl]
  refine ⟨by omega,?_⟩
  refine xany (.tk 0 (.tk 1 (.tk 2 (.tk 3 (.tk 4 (.tk 5 (.tk 6 (.tk 7 (.or true 8 (.fin) (.nil)))))))))) (by kernel_rfl) (by kernel_rfl) ?_
  simp -dsimp -implicitDefEqProofs (disch:=first|with_reducible assumption|omega) [go_sem,xSl_lo due29,cut1,cut3]
  repeat' first
   | refine xpl_or ?_ ?_
   | simp -dsimp -implicitDefEqProofs (disch:=first|with_reducible assumption|omega) [go_sem,xSl_lo due29,cut1,cut3]
  have hw1:(wr (A++zs) (i*3) (dueC d)).length=i*3+zs.length:=by rw [wr_eq _ _ _ (by simp [hdl]; omega)]; simp [hdl]; omega
  have hw2:wr (wr (A++zs) (i*3) (dueC d)) (i*3+3) B=A++dueC d++B:=wr2 (D:=dueC d) hAl (by rw [hdl]; omega)
  refine xcopyT due_under tI_142 rfl (m:=l.length-i) (news:=B) (Nat.min_self _) (fun W hg j u hj=>own_cell hg (b:=bx) (o:=i*3) (List.mem_cons_of_mem _ (List.mem_cons_of_mem _ List.mem_cons_self)) (by decide) (by
   rw [List.getElem?_append_right (by omega),hAl,Nat.add_sub_cancel_left]; exact hj)) hBl ?_
  simp -dsimp -implicitDefEqProofs (disch:=first|with_reducible assumption|omega) [go_sem,honeB,hBl,hw1]
  refine ⟨by omega,?_⟩
  simp -dsimp -implicitDefEqProofs (disch:=first|with_reducible assumption|omega) [go_sem,hw2]
  exact ⟨_,_,(Drop.perm h (List.perm_middle (l₁:=[_,_])).symm).trans ((Drop.tail _ _ _).trans (Drop.tail _ _ _)),by
   have:=hk (some (b2,cap2)) ⟨hc2,hm2⟩
   rw [List.append_assoc] at this
   exact this⟩
 ·have cut3:cutA (some ⟨bx,0,none⟩) cap (i+1) 3=some ⟨bx,i*3+3,none⟩:=by rw [cutA_at (by omega),Nat.succ_mul]
  simp -dsimp -implicitDefEqProofs (disch:=first|with_reducible assumption|omega) [go_sem,xSl_lo due29,cut1,cut3]
  refine Spec.externG (v:=.bool false) (fun W hg=>by
   show (callFunc 369 #[_,_]).run Tryz.prog W=_
   rw [run_callFunc_extern Tryz.func369 (by kernel_rfl) (by kernel_rfl) (by kernel_rfl) (e:=Extern.SlicesOverlaps.overlaps #[34,34] #[4]) (by kernel_rfl),overlaps_own due_under tI_142 rfl (b1:=bv) (b2:=bx) List.mem_cons_self (List.mem_cons_of_mem _ List.mem_cons_self) (by decide) (by decide) (Ne.symm nbx) (by omega) hg]
   rfl) ?_
  simp -dsimp -implicitDefEqProofs (disch:=first|with_reducible assumption|omega) [go_sem,xSl_lo due29,cut1,cut3]
  refine xany (.tk 0 (.tk 1 (.tk 2 (.tk 3 (.tk 4 (.tk 5 (.tk 6 (.tk 7 (.or true 8 (.fin) (.nil)))))))))) (by kernel_rfl) (by kernel_rfl) ?_
  repeat' first
   | refine xpl_or ?_ ?_
   | simp -dsimp -implicitDefEqProofs (disch:=first|with_reducible assumption|omega) [go_sem,xSl_lo due29,cut1,cut3]
  refine xact_weaken (Drop.perm h (List.Perm.swap _ _ _)) (xact_fill fun ys hys=>?_)
  have hyl:i*3+B.length+ys.length=cap*3:=by rw [List.length_append,hAl] at hys; exact hys
  refine xcopyT due_under tI_142 rfl (m:=l.length-i) (news:=B) (by omega) (fun W hg j u hj=>own_cell hg (b:=bx) (o:=i*3) List.mem_cons_self (by decide) (by
   have h5:=(List.getElem?_eq_some_iff.1 hj).1
   rw [List.append_assoc,List.getElem?_append_right (by omega),hAl,Nat.add_sub_cancel_left,List.getElem?_append_left h5]; exact hj)) hBl ?_
  have hw1:(A++B++ys).length=cap*3:=by rw [List.length_append,List.length_append,hAl]; exact hyl
  have hw2:(wr (A++B++ys) (i*3+3) B).length=cap*3:=by rw [wr_eq _ _ _ (by omega)]; simp only [List.length_append,List.length_take,List.length_drop]; omega
  have hw3:=wr3 (A:=A) (D:=dueC d) (B:=B) (zs:=ys) hAl (by rw [hdl]; omega)
  rw [hdl] at hw3
  obtain ⟨C1,hC1⟩:∃ C1,C1=A++B++ys:=⟨_,rfl⟩
  rw [← hC1] at hw1 hw2 hw3 ⊢
  simp -dsimp -implicitDefEqProofs (disch:=first|with_reducible assumption|omega) [go_sem,honeB,hBl,hw1]
  refine ⟨by omega,?_⟩
  simp -dsimp -implicitDefEqProofs (disch:=first|with_reducible assumption|omega) [go_sem,xSl_lo due29,cut1,cut3]
  refine xcopy due_under tI_142 rfl (Src.own (b:=bv) (List.mem_cons_of_mem _ List.mem_cons_self)) (m:=1) (news:=dueC d) rfl (by omega) ?_
  simp -dsimp -implicitDefEqProofs (disch:=first|with_reducible assumption|omega) [go_sem,hone,hdl,hw2]
  refine ⟨by omega,?_⟩
  have e3:=drop_take bx 142 (cap*3) (i*3+3+B.length) (wr (wr C1 (i*3+3) B) (i*3) (dueC d)) L h
  rw [hw3] at e3
  exact ⟨_,_,(Drop.perm h (List.Perm.swap _ _ _)).trans ((Drop.tail _ _ _).trans e3),hk (some (bx,cap)) ⟨by show l.length+1≤cap; omega,ho.2⟩⟩
theorem apO_of {e sz:Nat} {o:Option (Nat×Nat)} {xs:List Value} {L:Own} {h:PH} (ap:Ap (oent e sz o xs L) h) (nd:Nd (oent e sz o xs L)):apO o L h:=by
 cases o with
 | none=>trivial
 | some p=>exact ⟨nd.1,ap.1⟩
theorem placeL_step {l:List DueD} {t:Int} {k:Nat} (h:¬ (gr zeroDue l k).at'≤t):placeL l t (k+1)=placeL l t k:=by rw [placeL,if_neg h]
theorem placeL_here {l:List DueD} {t:Int} {k:Nat} (h:(gr zeroDue l k).at'≤t):placeL l t (k+1)=k+1:=by rw [placeL,if_pos h]
theorem owe_any {l:List DueD} {d:DueD} (v:Value) (hv:Recs dueC 3 h v l) (hd:∀ x∈l,DueOk x) (hl:l.length≤32000) (hacct:0≤d.acct∧d.acct≤63) (hat:0≤d.at'∧d.at'≤9223372036854775807) (hamt:0≤d.amt) (hs:dTot l+d.amt≤4611686018427387904)
  (hk:∀ h' r,PH.le h h'→Recs dueC 3 h' r (oweL l d)→K (.tuple #[r,.int .i64 0]) L h'):Spec Tryz.prog 334 [v,dueV d] L h K:=by
 have hv0:=hv
 have ht0:0≤dTot l:=tot_nonneg (amt_pos hd)
 obtain ⟨va,vc,rfl,_⟩:=hv.open
 refine x_enter Tryz.func334 rfl (rs:=[_,_]) rfl rfl mixed (by kernel_rfl) rfl rfl ?_
 refine xx ?_
 refine xnew fun b3 n_b3 h_b3=>?_
 try simp only [Apart] at n_b3
 refine xx ?_
 refine pwi_any _ _ _ ?_
 rw [show wi d.acct 0 63=true by rw [wi_iff]; exact hacct]
 refine xx ?_
 by_cases c0:d.amt=0
 ·refine xx ?_
  rw [oweL,if_pos c0] at hk
  refine cloneD_any _ hv0 (by omega) fun h1 r le1 i1=>?_
  obtain ⟨ra,rc,er,_⟩:=i1.open
  refine xx ?_
  exact fin_tail (fin_here (hk h1 _ le1 i1))
 refine xx ?_
 refine cloneD_own _ hv0 (by omega) fun o ok1 ap1=>?_
 have hb3:(⟨b3,142,dueC d,3⟩:Blk)∈(⟨b3,142,dueC d,3⟩:Blk)::L:=List.mem_cons_self
 have n3:apB o b3:=ap1.head
 refine xx ?_
 refine idxd_any o ok1 (by omega) d b3 hb3 (fun i i1 i2=>?_) (fun hn=>?_)
 ·rw [oweL,if_neg c0,i2,if_pos i1] at hk
  obtain ⟨bx,cap,rfl⟩:∃ bx cap,o=some (bx,cap):=by
   cases o with
   | none=>have:l.length=0:=ok1; omega
   | some p=>exact ⟨_,_,rfl⟩
  have hbx:h bx=noC:=ap1.2
  have nbx:bx≠b3:=n3
  obtain ⟨x,hx⟩:∃ x,x=gr zeroDue l i:=⟨_,rfl⟩
  have hxo:=hd x (by rw [hx]; exact grD_mem i1)
  have hxt:=amt_le hd i1
  rw [← hx] at hxt hk
  have g2:∀ (K:Value→Prop) (t:Tok K),xNth (l.flatMap dueC) (i*3+2) K t=K (.int .u64 x.amt):=fun K t=>xNth_rec dueC_len zeroDue _ (m:=2) i1 (by decide) (by rw [← hx]; rfl) K t
  simp only [ovs_some,oent_some]
  refine xx ?_
  refine xanyl (.tk 0 (.tk 1 (.tk 2 (.tk 3 (.tk 5 (.tkl 4 (.tkl 6 (.or true 7 (.tk 8 (.tk 9 (.tk 10 (.tk 11 (.tk 12 (.fin)))))) (.nil))))))))) (by kernel_rfl) (by kernel_rfl) _ (Drop.refl _ _) ?_
  simp -dsimp -implicitDefEqProofs (disch:=first|with_reducible assumption|omega) [go_sem,g2,dueC]
  refine madd_any x.amt d.amt (by have:=hxo.a; omega) (by omega) ?_
  rw [sumV_ok (by omega)]
  first
  | refine xkp (Drop.refl _ _) ?_
  | skip
  refine xx ?_
  have hset:(l.flatMap dueC).set (i*3+2) (.int .u64 (x.amt+d.amt))=(l.set i (addD x d)).flatMap dueC:=flatG_set dueC_len zeroDue l i1 (by decide) (by rw [← hx]; rfl)
  rw [hset]
  have hsum:(l.map fun a=>(dueC a).length).sum=l.length*3:=by rw [← List.length_flatMap,flatG_len dueC_len]
  refine ⟨by omega,?_⟩
  refine fin_pub (e:=142) (n:=l.length) (o:=some (bx,cap)) ok1 (by rw [flatG_len dueC_len,List.length_set]) (by omega) ap1 fun h' le sl=>fin_tail (fin_here (hk h' _ le ?_))
  have:=Recs.pub (f:=dueC) (w:=3) (l:=l.set i (addD x d)) (o:=some (bx,cap)) dueC_len (by rw [List.length_set]; exact sl)
  rwa [List.length_set] at this
 ·rw [oweL,if_neg c0,if_neg hn] at hk
  obtain ⟨a,c,ea,hc⟩:=ovs_open ok1
  refine xx ?_
  rw [ea]
  refine xx ?_
  rw [← ea]
  refine xloop (γ:=Nat) l.length (fun k=>k≤l.length∧placeL l d.at' l.length=placeL l d.at' k) (fun k=>[(10,.int .i64 k),(3,.pointer (some ⟨b3,0,none⟩)),(6,ovs o l.length)]) (fun _=>oent 142 3 o (l.flatMap dueC) (⟨b3,142,dueC d,3⟩::L)) (fun _=>h) (fun k=>k) ?_ ?_ ?_ ?_
  ·exact ⟨Nat.le_refl _,rfl⟩
  ·simp [Ent,List.lookup]
  ·exact Drop.refl _ _
  rintro k ⟨j1,j3⟩
  rcases k with _ | m
  ·have j4:placeL l d.at' l.length=0:=j3
   refine xx ?_
   refine xdraw (by kernel_rfl) rfl ?_
   simp -dsimp -implicitDefEqProofs (disch:=first|with_reducible assumption|omega) [go_sem,xFind_oent n3,dueC]
   by_cases cz:True
   ·skip
    refine xnew fun bv n_bv h_bv=>?_
    try simp only [Apart] at n_bv
    simp -dsimp -implicitDefEqProofs (disch:=first|with_reducible assumption|omega) [go_sem,xFind_oent n3]
    refine Spec.apn (insert_any (d:=d) _ ok1 (by omega) 0 (by omega) bv fun o' j1 ap nd=>?_)
    have j2:=apO_of ap nd
    obtain ⟨ya,yc,ey,_⟩:=ovs_open j1
    rw [ey]
    refine xx ?_
    rw [← ey]
    have hil:(insA l 0 d).length=l.length+1:=by simp only [insA,List.length_append,List.length_cons,List.length_take,List.length_drop]; omega
    have hI:insD l d=insA l 0 d:=by rw [insD,j4]; rfl
    rw [hI] at hk
    refine fin_pub (e:=142) (n:=l.length+1) j1 (by rw [flatG_len dueC_len,hil]) (by omega) j2 fun h' le sl=>fin_tail (fin_here (hk h' _ le ?_))
    have:=Recs.pub (f:=dueC) (w:=3) (l:=insA l 0 d) (o:=o') dueC_len (by rw [hil]; exact sl)
    rwa [hil] at this
   ·exact absurd trivial cz
  ·obtain ⟨bx,cap,rfl⟩:∃ bx cap,o=some (bx,cap):=by
    cases o with
    | none=>have:l.length=0:=ok1; omega
    | some p=>exact ⟨_,_,rfl⟩
   have hbx:h bx=noC:=ap1.2
   have nbx:bx≠b3:=n3
   obtain ⟨x,hx⟩:∃ x,x=gr zeroDue l m:=⟨_,rfl⟩
   have g1:∀ (K:Value→Prop) (t:Tok K),xNth (l.flatMap dueC) (m*3+1) K t=K (.int .i64 x.at'):=fun K t=>xNth_rec dueC_len zeroDue _ (m:=1) (by omega) (by decide) (by rw [← hx]; rfl) K t
   by_cases c1:x.at'≤d.at'
   ·have j4:placeL l d.at' l.length=m+1:=by rw [j3]; exact placeL_here (by rw [← hx]; exact c1)
    simp only [ovs_some,oent_some]
    refine xx ?_
    refine xdraw (by kernel_rfl) rfl ?_
    simp -dsimp -implicitDefEqProofs (disch:=first|with_reducible assumption|omega) [go_sem,g1,dueC]
    rw [← ovs_some,← oent_some]
    refine xnew fun bv n_bv h_bv=>?_
    try simp only [Apart] at n_bv
    simp -dsimp -implicitDefEqProofs (disch:=first|with_reducible assumption|omega) [go_sem,xFind_oent n3]
    refine Spec.apn (insert_any (d:=d) _ ok1 (by omega) (m+1) (by omega) bv fun o' j1 ap nd=>?_)
    have j2:=apO_of ap nd
    obtain ⟨ya,yc,ey,_⟩:=ovs_open j1
    rw [ey]
    refine xx ?_
    rw [← ey]
    have hil:(insA l (m+1) d).length=l.length+1:=by simp only [insA,List.length_append,List.length_cons,List.length_take,List.length_drop]; omega
    have hI:insD l d=insA l (m+1) d:=by rw [insD,j4]; rfl
    rw [hI] at hk
    refine fin_pub (e:=142) (n:=l.length+1) j1 (by rw [flatG_len dueC_len,hil]) (by omega) j2 fun h' le sl=>fin_tail (fin_here (hk h' _ le ?_))
    have:=Recs.pub (f:=dueC) (w:=3) (l:=insA l (m+1) d) (o:=o') dueC_len (by rw [hil]; exact sl)
    rwa [hil] at this
   ·simp only [ovs_some,oent_some]
    refine xx ?_
    refine xdraw (by kernel_rfl) rfl ?_
    simp -dsimp -implicitDefEqProofs (disch:=first|with_reducible assumption|omega) [go_sem,g1,dueC]
    exact ⟨m,⟨by omega,by rw [j3]; exact placeL_step (by rw [← hx]; exact c1)⟩,by omega,by simp [Ent,List.lookup],Drop.refl _ _⟩
theorem flatG_wr {α:Type} {f:α→List Value} {w:Nat} (hf:∀ a,(f a).length=w) (l:List α) {i:Nat} (hi:i<l.length) (a':α):wr (l.flatMap f) (i*w) (f a')=(l.set i a').flatMap f:=by
 have h1:l.flatMap f=(l.take i).flatMap f++(f l[i]++(l.drop (i+1)).flatMap f):=by
  conv=>lhs; rw [← List.take_append_drop i l,List.drop_eq_getElem_cons hi]
  rw [List.flatMap_append,List.flatMap_cons]
 have h2:((l.take i).flatMap f).length=i*w:=by rw [flatG_len hf,List.length_take,Nat.min_eq_left (by omega)]
 rw [wr_eq _ _ _ (by rw [h1]; simp only [List.length_append,h2,hf]; omega),hf]
 rw [List.set_eq_take_append_cons_drop,if_pos hi,List.flatMap_append,List.flatMap_cons]
 rw [h1,← h2,List.take_left,List.append_assoc]
 congr 2
 rw [← List.drop_drop,List.drop_left]
 rw [← hf l[i],List.drop_left]
theorem Nd.nodup:∀ {L:Own},Nd L→(L.map Blk.b).Nodup
 | [],_=>List.nodup_nil
 | e::L,hn=>by
  rw [List.map_cons,List.nodup_cons]
  refine ⟨fun hm=>?_,Nd.nodup hn.2⟩
  obtain ⟨x,hx,hb⟩:=List.mem_map.1 hm
  exact of_apart hn.1 x hx hb
theorem Nd.perm {L L':Own} (p:L.Perm L') (nd:Nd L):Nd L':=Nd.of ((p.map Blk.b).nodup_iff.1 nd.nodup)
theorem Ap.mem {h:PH}:∀ {L:Own},Ap L h→∀ e∈L,h e.b=noC
 | [],_,e,he=>by cases he
 | x::L,ha,e,he=>by
  rcases List.mem_cons.1 he with rfl | he
  ·exact ha.1
  ·exact Ap.mem ha.2 e he
theorem Ap.perm {L L':Own} {h:PH} (p:L.Perm L') (ap:Ap L h):Ap L' h:=Ap.of fun e he=>ap.mem e (p.mem_iff.2 he)
section
variable {e1 s1 e2 s2 e3 s3:Nat} {oo om ox:Option (Nat×Nat)} {outs ms xs:List Value} {x a b:Blk} {L:Own} {h:PH}
end
theorem okO_le {o:Option (Nat×Nat)} {m n:Nat} (ho:okO o n) (h:m≤n):okO o m:=by
 cases o with
 | none =>
  have h0:n=0:=ho
  show m=0
  omega
 | some p=>exact ⟨Nat.le_trans h ho.1,ho.2⟩
open Go.RowKit Go.Proofs Go.Bl
theorem fits_mem {s:StD} (hf:fitsS s=true):∀ m∈s.members,mfitsB s.par m=true∧0≤m.owner∧m.owner<s.purses.length:=by
 simp only [fitsS,Bool.and_eq_true] at hf
 obtain ⟨⟨⟨⟨⟨⟨⟨⟨f1,f2⟩,f3⟩,f4⟩,f5⟩,f6⟩,f7⟩,f8⟩,f9⟩:=hf
 simp only [membersB,Bool.and_eq_true,List.all_eq_true] at f5
 intro m hm
 have h1:=f5.1.1.2 m hm
 refine ⟨h1.1,?_⟩
 have h2:=h1.2
 rw [acctB,wi_iff] at h2
 omega
theorem mfits_facts {p:ParD} {m:MemD} (h:mfitsB p m=true):(0≤m.owner∧m.owner<64)∧min m.score p.scoreCap=m.score∧min (max m.streak 0) p.streak=m.streak∧shapeB p m=true:=by
 simp only [mfitsB,Bool.and_eq_true,decide_eq_true_eq] at h
 obtain ⟨⟨⟨h1,h2⟩,h3⟩,h4⟩:=h
 simp only [stdL,trimM,List.cons.injEq,and_true,true_and] at h3
 exact ⟨⟨h1,h2⟩,h3.1,h3.2,h4⟩
theorem shape_cap {p:ParD} (hr:parR p=true) {m:MemD} (h:shapeB p m=true):m.bal≤p.cap:=by
 have hs:stakesB p=true:=by simp only [parR,Bool.and_eq_true] at hr; exact hr.1.1.1
 have f:=stakesB_facts hs
 unfold shapeB at h
 split at h
 ·simp only [Bool.and_eq_true,decide_eq_true_eq] at h; omega
 ·split at h
  ·simp only [Bool.and_eq_true,decide_eq_true_eq] at h; omega
  ·split at h
   ·simp only [Bool.and_eq_true,decide_eq_true_eq] at h; omega
   ·cases h
theorem whole_facts {p:ParD} (hr:parR p=true) {b:Int} (hb:p.floor<b):gfitsP p (wholeP p b) b=true:=by
 have hs:stakesB p=true:=by simp only [parR,Bool.and_eq_true] at hr; exact hr.1.1.1
 have f:=stakesB_facts hs
 have h1:=Int.emod_nonneg b (show p.inc≠0 by omega)
 have h2:=Int.emod_lt_of_pos b (show 0<p.inc by omega)
 have h3:(b-b%p.inc)%p.inc=0:=by rw [Int.sub_emod,Int.emod_emod_of_dvd _ (Int.dvd_refl _)]; simp
 have h4:p.inc≤b-b%p.inc:=by
  have e:=Int.emod_def b p.inc
  have e2:b-b%p.inc=p.inc*(b/p.inc):=by omega
  have:1≤b/p.inc:=(Int.le_ediv_iff_mul_le (by omega)).2 (by omega)
  rw [e2]
  have:=Int.mul_le_mul_of_nonneg_left this (show 0≤p.inc by omega)
  omega
 have hn:nextP p (wholeP p b) b=wholeP p b:=by unfold nextP; split<;>rfl
 have hw:wholeP p b%p.inc=0:=by
  unfold wholeP
  rcases Int.le_total (b-b%p.inc) p.maxEff with c | c
  ·rw [Int.min_eq_left c]; exact h3
  ·rw [Int.min_eq_right c]; exact f.2.2.2.2.2.2.2.2.2.2.2
 simp only [gfitsP,Bool.and_eq_true,decide_eq_true_eq]
 refine ⟨⟨⟨?_,?_⟩,hw⟩,hn⟩<;>unfold wholeP<;>omega
theorem perm_of_sub2:∀ {S l:List Int},S.Nodup→(∀ x∈S,x∈l)→l.length=S.length→l.Perm S
 | [],l,_,_,hl=>by
  have:l=[]:=List.eq_nil_of_length_eq_zero hl
  rw [this]
 | a::S,l,hn,hs,hl=>by
  have ha:=hs a (by simp)
  rw [List.nodup_cons] at hn
  have h1:=List.perm_cons_erase ha
  have h2:=List.length_erase_of_mem ha
  refine h1.trans (List.Perm.cons _ (perm_of_sub2 hn.2 (fun x hx=>?_) ?_))
  ·have hne:x≠a:=fun e=>hn.1 (e ▸ hx)
   exact (List.mem_erase_of_ne hne).2 (hs x (by simp [hx]))
  ·rw [h2,hl]; simp
def stL (l:List MemD) (st:Int) (n:Nat):List Nat:=(List.range n).filter fun j=>decide ((gr zeroM l j).status=st)
theorem cntS_len (l:List MemD) (st:Int):∀ k,cntS l st k=(stL l st k).length
 | 0=>rfl
 | k+1=>by
  rw [cntS,cntS_len l st k,stL,stL,List.range_succ,List.filter_append,List.length_append]
  by_cases c:(gr zeroM l k).status=st
  ·simp [c]
  ·simp [c]
theorem stL_mem {l:List MemD} {st:Int} {n j:Nat}:j∈stL l st n↔j<n∧(gr zeroM l j).status=st:=by
 simp [stL]
theorem stL_nodup (l:List MemD) (st:Int) (n:Nat):((stL l st n).map fun j:Nat=>(j:Int)).Nodup:=by
 rw [List.Nodup,List.pairwise_map]
 have h1:(stL l st n).Nodup:=List.Nodup.sublist List.filter_sublist List.nodup_range
 exact h1.imp fun h e=>h (by omega)
theorem hasB_mem {s:StD} {l:List Int} {st:Int} (h:hasB s l st=true) {j:Nat} (hj:j<s.members.length) (e:(gr zeroM s.members j).status=st):(j:Int)∈l:=by
 rw [hasB,List.all_eq_true] at h
 have:=h j (List.mem_range.2 hj)
 simpa [e] using this
def keyO (d:DueD):Int×Int:=(d.acct,d.at')
def KeyR (a b:Int×Int):Prop:=a≠b∧a.2≤b.2
def LineD (l:List DueD):Prop:=(l.map keyO).Pairwise KeyR
end Go.X

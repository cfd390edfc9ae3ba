/- Lemmas and contracts for a statement about the given program. Conditions: as each says. -/
import Derived.Test.YtmmfajokfdaokaaGreatQ26
import Derived.Test.YtmmfajokfdaokaaGreatQ31
import Derived.Test.YtmmfajokfdaokaaGreatQ43
import Derived.Test.YtmmfajokfdaokaaGreatQ44
set_option linter.unusedVariables false
set_option linter.unusedSimpArgs false
set_option maxHeartbeats 12800000
set_option maxRecDepth 20000
namespace Go.X
open Go.RowKit Go.Proofs Go.Bl
variable {L:Own} {h:PH} {K:PK}
theorem few_S {s:StD} (ho:OwnFew s):FewS s:=⟨by have:=ho.p; omega,by have:=ho.m; omega,by have:=ho.e; omega,by have:=ho.x; omega,by have:=ho.o; omega,by have:=ho.d; omega,by have:=ho.t; omega,by have:=ho.r; omega⟩
theorem RepIs.slices {q:RV} {r:RepD} (hq:RepIs h q r):∃ oa oc la lc sa sc da dc,q=⟨.slice oa r.out.length oc,.slice la r.left.length lc,.slice sa r.started.length sc,.slice da r.done.length dc⟩:=by
 obtain ⟨qo,ql,qs,qd⟩:=q
 obtain ⟨h1,h2,h3,h4⟩:=hq
 simp only at h1 h2 h3 h4
 obtain ⟨oa,oc,rfl,_⟩:=h1.open
 obtain ⟨la,lc,rfl,_⟩:=h2.open
 obtain ⟨sa,sc,rfl,_⟩:=h3.open
 obtain ⟨da,dc,rfl,_⟩:=h4.open
 exact ⟨oa,oc,la,lc,sa,sc,da,dc,rfl⟩
theorem RepIs.up {h h':PH} (le:PH.le h h') {q:RV} {r:RepD} (hq:RepIs h q r):RepIs h' q r:=⟨hq.o.up le,hq.l.up le,hq.s.up le,hq.d.up le⟩
abbrev nilR:RV:=⟨.slice none 0 0,.slice none 0 0,.slice none 0 0,.slice none 0 0⟩
theorem tick_any {s:StD} (v:SV) (hs:IsSt h v s) (few:OwnFew s) (fd:s.dues.length≤29000)
  (hk:tickE s=0→fitsS s=true→s.ep<1073741824→∀ h' u q,PH.le h h'→IsSt h' u (tickS s)→RepIs h' q (tickR s)→K (.tuple #[stV (tickS s) u,rpV (tickR s) q,.int .i64 0]) L h')
  (hno:tickE s≠0→K (.tuple #[stV zeroS nilV,rpV zeroR nilR,.int .i64 (tickE s)]) L h) :
  Spec Tryz.prog 19 [stV s v] L h K:=by
 by_cases hf:fitsS s=true
 ·by_cases he:s.ep<1073741824
  ·have e0:tickE s=0:=by rw [tickE,if_pos hf,if_neg (by omega)]
   have ti:=ti_of hs hf he (Nat.le_refl s.dues.length)
   have ms:=ms_of hs hf
   have t8:=tick8 ti fun m hm=>(ms m hm).1
   exact tickW_any v hs few fd hf he (act_le ti.ml fun m hm=>(ms m hm).1) (by
    have:=act_le t8.2.2.2.2.2.2 fun m hm=>(t8.2.2.2.1 m hm).1
    show actL (tk8 s).1.members≤_
    omega) (hk e0 hf he)
  ·have e0:tickE s=200:=by rw [tickE,if_pos hf,if_pos (by omega)]
   have hno:=hno (by omega)
   rw [e0] at hno
   have fewS:=few_S few
   obtain ⟨pa,pc,ma,mc,ea,ec,xa,xc,oa,oc,da,dc,ta,tc,ka,kc,ra,rc,rfl⟩:=hs.slices
   refine x_enterA Tryz.func19 rfl (rs:=[_,_,_]) rfl rfl mixed (by kernel_rfl) rfl rfl fun ap nd=>?_
   clear ap nd
   refine xx ?_
   refine xnew fun b1 n_b1 h_b1=>?_
   try simp only [Apart] at n_b1
   refine xx ?_
   refine xnew fun b2 n_b2 h_b2=>?_
   try simp only [Apart] at n_b2
   refine xx ?_
   refine xnew fun b3 n_b3 h_b3=>?_
   try simp only [Apart] at n_b3
   refine xx ?_
   refine fits_any (s:=s) ⟨.slice pa s.purses.length pc,.slice ma s.members.length mc,.slice ea s.entry.length ec,.slice xa s.exit.length xc,.slice oa s.pool.length oc,.slice da s.dues.length dc,.slice ta s.motions.length tc,.slice ka s.marks.length kc,.slice ra s.ring.length rc⟩ hs fewS ?_
   rw [hf]
   refine xx ?_
   exact fin_tail (fin_tail (fin_tail (fin_here hno)))
 ·have hf':fitsS s=false:=by simpa using hf
  have e0:tickE s=291:=by rw [tickE,if_neg hf]
  have hno:=hno (by omega)
  rw [e0] at hno
  have fewS:=few_S few
  obtain ⟨pa,pc,ma,mc,ea,ec,xa,xc,oa,oc,da,dc,ta,tc,ka,kc,ra,rc,rfl⟩:=hs.slices
  refine x_enterA Tryz.func19 rfl (rs:=[_,_,_]) rfl rfl mixed (by kernel_rfl) rfl rfl fun ap nd=>?_
  clear ap nd
  refine xx ?_
  refine xnew fun b1 n_b1 h_b1=>?_
  try simp only [Apart] at n_b1
  refine xx ?_
  refine xnew fun b2 n_b2 h_b2=>?_
  try simp only [Apart] at n_b2
  refine xx ?_
  refine xnew fun b3 n_b3 h_b3=>?_
  try simp only [Apart] at n_b3
  refine xx ?_
  refine fits_any (s:=s) ⟨.slice pa s.purses.length pc,.slice ma s.members.length mc,.slice ea s.entry.length ec,.slice xa s.exit.length xc,.slice oa s.pool.length oc,.slice da s.dues.length dc,.slice ta s.motions.length tc,.slice ka s.marks.length kc,.slice ra s.ring.length rc⟩ hs fewS ?_
  rw [hf']
  refine xx ?_
  exact fin_tail (fin_tail (fin_tail (fin_here hno)))
theorem simpS_ownfew:OwnFew simpS:=by constructor<;>decide
theorem en_ep (s:StD) (r:RepD) (t:Int):(enS s r t).ep=s.ep:=by
 unfold enS
 split<;>rfl
theorem ej_ep (s:StD) (r:RepD) (t:Int):(ejP2 t (ajS s,r)).1.ep=s.ep:=rfl
theorem mo_ep (s:StD) (r:RepD):(moS s r).ep=s.ep:=rfl
theorem se_ep (s:StD):(seS s).ep=s.ep+1:=rfl
theorem ep7 (s:StD):(tk7 s).1.ep=s.ep:=rfl
theorem tick_ep (s:StD):(tickS s).ep=s.ep+1:=by
 have e8:(tk8 s).1.ep=s.ep:=(en_ep (tk7 s).1 (tk7 s).2 (atP s)).trans (ep7 s)
 have e9:(tk9 s).1.ep=(tk8 s).1.ep:=mo_ep (tk8 s).1 (tk8 s).2
 have e10:(tk10 s).1.ep=(tk9 s).1.ep:=by
  by_cases c:(tk9 s).1.par=s.par
  ·rw [tk10,if_pos c]
  ·rw [tk10,if_neg c]; exact ej_ep _ _ _
 have eS:(tickS s).ep=(tk10 s).1.ep+1:=se_ep (tk10 s).1
 rw [eS,e10,e9,e8]
theorem simpS_tick:tickE simpS=0∧(tickS simpS).ep=1∧(tickS simpS).calm=1∧(tickR simpS).act=50∧(tickR simpS).quo=false∧(tickR simpS).mode=2:=by
 obtain ⟨r1,r2,r3,r4,r5,_⟩:=tick_rep simpS
 rw [r2,r3,r5,tick_calm,tick_ep]
 refine ⟨by decide +kernel,by decide +kernel,by decide +kernel,by decide +kernel,by decide +kernel,by decide +kernel⟩
theorem awake24_any (hk:∀ h',PH.le h h'→K (.bool true) L h'):Spec Tryz.prog 9 [] L h K:=by
 obtain ⟨t0,t1,t2,t3,t4,t5⟩:=simpS_tick
 refine x_enter Tryz.func9 rfl (rs:=[_]) rfl rfl mixed (by kernel_rfl) rfl rfl ?_
 refine xx ?_
 refine simple24_any fun h1 pa0 pc0 fa0 fc0 le1 ig=>?_
 refine xx ?_
 refine newsimp_any ig fun h2 u le2 is=>?_
 obtain ⟨pa,pc,ma,mc,ea,ec,xa,xc,oa,oc,da,dc,ta,tc,ka,kc,ra,rc,rfl⟩:=is.slices
 refine xx ?_
 refine xnew fun b1 n_b1 h_b1=>?_
 try simp only [Apart] at n_b1
 have hl:simpS.members.length=2:=rfl
 have hg:simpS.gen=765:=rfl
 have g0:(gr zeroM simpS.members 0).eff=20:=rfl
 have g1:(gr zeroM simpS.members 1).eff=30:=rfl
 have hms:Recs memC 6 h2 (.slice ma simpS.members.length mc) simpS.members:=is.m
 have ha:ma≠none:=fun e=>by
  have:=hms.cell (z:=zeroM) (i:=0) (m:=0) (by decide) (by decide)
  rw [e] at this
  simp [elemCell] at this
  cases this
 have I:=(idxR zeroM (by decide) hms).1
 have A:∀ (j o:Nat) (K:Value→Prop) (t:Tok K),xAddO (.pointer (elem ma j)) o K t=K (.pointer (elem ma (j+o))):=fun j o K t=>xAddO_elem ha _ _ K
 have P:∀ (j:Nat) (K:Option Addr→Prop) (t:Tok K),xPtr (.pointer (elem ma j)) K t=K (elem ma j):=fun j K t=>xPtr_elem ha K
 have C1:∀ (L:Own) (K:Value→Prop) (t:Tok K),xCell L h2 (elem ma 1) 0 K t=K (.int .u64 20):=fun L K t=>Recs.fld zeroM hms (j:=0) (o:=1) (by decide) rfl L K t
 have C7:∀ (L:Own) (K:Value→Prop) (t:Tok K),xCell L h2 (elem ma 7) 0 K t=K (.int .u64 30):=fun L K t=>Recs.fld zeroM hms (j:=1) (o:=1) (by decide) rfl L K t
 simp -dsimp -implicitDefEqProofs (disch:=first|with_reducible assumption|omega) [go_sem,hl,hg]
 simp -dsimp -implicitDefEqProofs (disch:=first|with_reducible assumption|omega) [go_sem,I,A,P,C1,C7,hl,hg]
 refine Spec.ap (tick_any (s:=simpS) ⟨.slice pa simpS.purses.length pc,.slice ma simpS.members.length mc,.slice ea simpS.entry.length ec,.slice xa simpS.exit.length xc,.slice oa simpS.pool.length oc,.slice da simpS.dues.length dc,.slice ta simpS.motions.length tc,.slice ka simpS.marks.length kc,.slice ra simpS.ring.length rc⟩ is simpS_ownfew (by decide) (fun _ _ _ h3 u3 q3 le3 it ir ap=>?_) (fun c=>absurd t0 c))
 have a1:h3 b1=noC:=ap.1
 clear ap
 obtain ⟨pa3,pc3,ma3,mc3,ea3,ec3,xa3,xc3,oa3,oc3,da3,dc3,ta3,tc3,ka3,kc3,ra3,rc3,rfl⟩:=it.slices
 obtain ⟨qoa,qoc,qla,qlc,qsa,qsc,qda,qdc,rfl⟩:=ir.slices
 refine xx ?_
 refine xnew fun b3 n_b3 h_b3=>?_
 try simp only [Apart] at n_b3
 have n3:=n_b3.1
 refine xx ?_
 refine xnew fun b4 n_b4 h_b4=>?_
 try simp only [Apart] at n_b4
 have n4:=n_b4.1
 have n42:=n_b4.2.1
 simp -dsimp -implicitDefEqProofs (disch:=first|with_reducible assumption|omega) [go_sem,t1,t2,t3,t4,t5]
 refine fits_any (s:=simpS) ⟨.slice pa simpS.purses.length pc,.slice ma simpS.members.length mc,.slice ea simpS.entry.length ec,.slice xa simpS.exit.length xc,.slice oa simpS.pool.length oc,.slice da simpS.dues.length dc,.slice ta simpS.motions.length tc,.slice ka simpS.marks.length kc,.slice ra simpS.ring.length rc⟩ (is.up le3) simpS_few ?_
 rw [simpS_fits]
 refine xx ?_
 exact fin_tail (fin_tail (fin_tail (fin_here (hk h3 (le1.trans (le2.trans le3))))))
structure NwG where
 k:Nat
 h:PH
 d:Value
 o:Option (Nat×Nat)
theorem rnew_any {g:GenD} (pv fv:Value) (hg:IsGen h pv fv g) (np:g.purses.length≤1000) (nf:g.founders.length≤1000) (hk:∀ h' u,PH.le h h'→IsSt h' u (newR g)→K (.tuple #[stV (newR g) u,.bool (newB g)]) L h'):Spec Tryz.prog 12 [genV g pv fv] L h K:=by
  have no:newB g=false→∀ h',PH.le h h'→K (.tuple #[stV zeroS nilV,.bool false]) L h':=fun e h' le=>by
    have:=hk h' nilV le (by rw [newR,e]; exact isSt_zero h')
    rw [newR,e] at this
    exact this
  have ok:=hg.ok
  have gm:=hg.m
  have hp:=hg.p
  have hpw:=hp.word
  obtain ⟨pa,pc,rfl,_⟩:=hp.open
  have hf:=hg.f
  obtain ⟨fa,fc,rfl,_,hfl,_,hfd⟩:=hf.open
  refine x_enter Tryz.func12 rfl (rs:=[_,_]) rfl rfl mixed (by kernel_rfl) rfl rfl ?_
  refine xx ?_
  refine xnew fun b1 n_b1 h_b1=>?_
  try simp only [Apart] at n_b1
  refine xx ?_
  refine xnew fun b2 n_b2 h_b2=>?_
  try simp only [Apart] at n_b2
  have n21:=n_b2.1
  refine xx ?_
  refine xany_cut (.tk 0 (.tk 2 (.tkl 1 (.tkl 3 (.or true 4 (.tk 5 (.or true 6 (.or false 7 (.fin) (.nil)) (.nil))) (.or true 6 (.or true 4 (.tk 5 (.or false 7 (.fin) (.nil))) (.nil)) (.nil))))))) (by kernel_rfl) (by kernel_rfl) [(1,.pointer (some ⟨b1,0,none⟩)),(2,.pointer (some ⟨b2,0,none⟩))] _ (γ:=Nat×Nat) (fun y=>y.1≠y.2∧b1≠y.1∧b2≠y.1∧b1≠y.2∧b2≠y.2∧h y.1=noC∧h y.2=noC)
    (fun y=>[(1,.pointer (some ⟨b1,0,none⟩)),(2,.pointer (some ⟨b2,0,none⟩)),(4,.pointer (some ⟨y.2,0,none⟩))])
    (fun y=>⟨y.1,5,List.replicate 16 (.int .u8 0),16⟩::⟨y.2,49,stC ⟨g.par,g.most,0,0,0,0,0,0,false,[],[],[],[],[],[],[],[],[]⟩ ⟨.slice none 0 0,.slice none 0 0,.slice none 0 0,.slice none 0 0,.slice none 0 0,.slice none 0 0,.slice none 0 0,.slice (some ⟨y.1,0,none⟩) 16 16,.slice none 0 0⟩,41⟩::⟨b2,49,stC zeroS nilV,41⟩::⟨b1,54,genC g (.slice pa g.purses.length pc) (.slice fa g.founders.length fc),27⟩::L) (fun _=>h) (by simp [Ent,List.lookup,xEnv]) (Drop.refl _ _) ?_ ?_
  · repeat' first
      | with_reducible refine xpl_or ?_ ?_
      | simp -dsimp -implicitDefEqProofs (disch:=first|with_reducible assumption|omega) [go_sem]
      | (with_reducible refine xMS_full (e:=5) (z:=.int .u8 0) (by kernel_rfl) tI_5 rfl rfl .i64 .i64 16 (by decide) (by decide) (by decide) ?_
         refine xnew fun b14 n_b14 h_b14=>?_
         simp only [Apart] at n_b14)
      | (with_reducible refine xnew fun b4 n_b4 h_b4 => ?_
         simp only [Apart] at n_b4)
      | with_reducible refine xkp (Drop.refl _ _) ?_
      | with_reducible refine xkp (Drop.tail _ _ _) ?_
      | with_reducible refine xkp ((Drop.tail _ _ _).trans (Drop.tail _ _ _)) ?_
      | fail
    all_goals exact ⟨b14,b4,⟨by omega,by omega,by omega,by omega,by omega,h_b14,h_b4⟩,by simp [Ent,List.lookup],by first | exact Drop.refl _ _ | exact Drop.perm _ (List.Perm.swap _ _ _)⟩
  rintro ⟨b14,b4⟩ ⟨n144,n114,n214,n14,n24,h14,h4⟩
  simp only at n144 n114 n214 n14 n24 h14 h4 ⊢
  refine xx ?_
  refine call_pub_at (e:=5) (b:=b14) (sz:=1) (n:=16) (cap:=16) (xs:=List.replicate 16 (.int .u8 0)) [] ⟨by decide,by decide⟩ rfl (by decide) h14 fun h2 le2 sl2 same=>?_
  have im:Ints h2 .u8 (.slice (some ⟨b14,0,none⟩) 16 16) (List.replicate 16 0):=zeros_ints (n:=16) sl2
  clear same sl2
  refine Spec.ap (right7_any g.par ok fun h3 le3 ap=>?_)
  obtain ⟨a34,a32,a31,_⟩:=ap
  simp only at a34 a32 a31
  have le03:=le2.trans le3
  cases q1:parR g.par with
  | false =>
    have:=no (by simp only [newB,q1,Bool.false_and]) h3 le03
    refine xx ?_
    exact fin_tail (fin_tail (fin_tail (fin_here this)))
  | true =>
  by_cases q2:4611686018427387904<g.most
  · have:=no (by simp only [newB,decide_eq_false (p:=g.most≤4611686018427387904) (by omega),Bool.and_false,Bool.false_and]) h3 le03
    refine xx ?_
    exact fin_tail (fin_tail (fin_tail (fin_here this)))
  refine xx ?_
  refine in24_any _ _ _ ?_
  cases q3:wi g.purses.length 1 64 with
  | false =>
    have:=no (by simp only [newB,q3,Bool.and_false,Bool.false_and]) h3 le03
    refine xx ?_
    exact fin_tail (fin_tail (fin_tail (fin_here this)))
  | true =>
  have q3':=wi_iff.1 q3
  by_cases q4:128<g.founders.length
  · have:=no (by simp only [newB,decide_eq_false (p:=g.founders.length≤128) (by omega),Bool.and_false,Bool.false_and]) h3 le03
    refine xx ?_
    exact fin_tail (fin_tail (fin_tail (fin_here this)))
  refine xx ?_
  refine Spec.ap (rsum_any _ (hp.up le03) (by omega) fun h4' r4 le4 n4 ap=>?_)
  obtain ⟨a44,a42,a41,_⟩:=ap
  simp only at a44 a42 a41
  obtain ⟨da,dk,dc,rfl⟩:=n4.sl
  have le04:=le03.trans le4
  refine xx ?_
  refine xnew fun b5 n_b5 h_b5=>?_
  try simp only [Apart] at n_b5
  have n54:=n_b5.1
  have n52:=n_b5.2.1
  have n51:=n_b5.2.2.1
  clear n_b5
  refine xx ?_
  refine xappend (t:=25) (e:=22) (sz:=1) (bytes:=8) (z:=[.int .u64 0]) (by kernel_rfl) tI_22 rfl rfl rfl rfl (by decide) [_,_,_,_] L none 0 [] rfl rfl (Src.known (hp.up le04).1) (by simp) (ints_one _ _) (by simp [maxLen]; omega) (by omega) ?_
  intro op k1 k2 k3
  simp only [Nat.zero_add,List.nil_append,List.cons_append] at k1 k2 ⊢
  refine xx ?_
  obtain ⟨N,hN⟩:∃ N,N=g.founders.length:=⟨_,rfl⟩
  refine xloop (γ:=NwG) ⟨0,h4',.slice da dk dc,none⟩
    (fun y=>y.k≤g.founders.length∧PH.le h4' y.h∧Nt y.h (.agg #[y.d]) (tot g.purses+sumK (g.founders.map FouD.bal) y.k) (g.purses.length+20+y.k)∧okO y.o y.k∧(∀ j,j<y.k→fouB g (gr zeroFou g.founders j)=true)∧y.h b5=noC∧y.h b4=noC∧y.h b2=noC∧y.h b1=noC)
    (fun y=>[(6,.int .i64 y.k),(1,.pointer (some ⟨b1,0,none⟩)),(2,.pointer (some ⟨b2,0,none⟩)),(4,.pointer (some ⟨b4,0,none⟩)),(5,.pointer (some ⟨b5,0,none⟩))])
    (fun y=>⟨b5,112,[y.d],1⟩::⟨b4,49,stC ⟨g.par,g.most,0,0,0,0,0,0,false,[],[],[],[],[],[],[],[],[]⟩ ⟨ovs op g.purses.length,ovs y.o y.k,.slice none 0 0,.slice none 0 0,.slice none 0 0,.slice none 0 0,.slice none 0 0,.slice (some ⟨b14,0,none⟩) 16 16,.slice none 0 0⟩,41⟩::⟨b2,49,stC zeroS nilV,41⟩::⟨b1,54,genC g (.slice pa g.purses.length pc) (.slice fa g.founders.length fc),27⟩::oent 120 6 y.o (memK g y.k) (oent 22 1 op (g.purses.map (.int .u64)) L)) (fun y=>y.h) (fun y=>g.founders.length-y.k) ?_ ?_ ?_ ?_
  · exact ⟨Nat.zero_le _,PH.le_refl _,by simp only [sumK,Int.add_zero]; exact n4.more (by omega),rfl,fun j hj=>absurd hj (Nat.not_lt_zero _),h_b5,a44,a42,a41⟩
  · simp [Ent,List.lookup]
  · exact Drop.refl _ _
  rintro ⟨k,h5,dv,om⟩ ⟨k1',le5,n5,okm,hall,a55,a54,a52,a51⟩
  simp only at k1' le5 n5 okm hall a55 a54 a52 a51 ⊢
  obtain ⟨xa,xk,xc,ed⟩:=n5.sl
  obtain rfl:dv = .slice xa xk xc:=by simpa using ed
  have le05:=le04.trans le5
  obtain ⟨ma,mc,em,_⟩:=ovs_open okm
  by_cases c1:k<g.founders.length
  · have hfd5:=hfd.up le05
    obtain ⟨f,hfk⟩:∃ f,f=gr zeroFou g.founders k:=⟨_,rfl⟩
    have hfo:=hg.fo f (by rw [hfk,gr_lt c1]; exact List.getElem_mem c1)
    have hfb:=hfo.b
    have bad:fouB g f=false→K (.tuple #[stV zeroS nilV,.bool false]) L h5:=fun e=>no (by rw [hfk] at e; simp only [newB,not_all_gr zeroFou (fouB g) g.founders c1 e,Bool.and_false,Bool.false_and]) h5 le05
    simp -dsimp -implicitDefEqProofs (disch:=first|with_reducible assumption|omega) [go_sem,↓idxR zeroFou (by decide) hfd5,fouC]
    rw [← hfk]
    refine xnew fun b7 n_b7 h_b7=>?_
    try simp only [Apart] at n_b7
    have n75:=n_b7.1
    have n74:=n_b7.2.1
    have n72:=n_b7.2.2.1
    have n71:=n_b7.2.2.2.1
    clear n_b7
    simp -dsimp -implicitDefEqProofs (disch:=first|with_reducible assumption|omega) [go_sem,fouC]
    refine in24_any _ _ _ ?_
    cases q5:wi f.own 0 ((g.purses.length:Int)-1) with
    | false =>
      have:=bad (by simp only [fouB,q5,Bool.false_and])
      refine xx ?_
      exact fin_tail (fin_tail (fin_tail (fin_tail (fin_tail (fin_oent (fin_oent (fin_here this)))))))
    | true =>
    by_cases q6:f.bal≤g.par.floor
    · have:=bad (by simp only [fouB,decide_eq_false (p:=g.par.floor<f.bal) (by omega),Bool.and_false,Bool.false_and])
      refine xx ?_
      exact fin_tail (fin_tail (fin_tail (fin_tail (fin_tail (fin_oent (fin_oent (fin_here this)))))))
    by_cases q7:g.par.cap<f.bal
    · have:=bad (by simp only [fouB,decide_eq_false (p:=f.bal≤g.par.cap) (by omega),Bool.and_false])
      refine xx ?_
      exact fin_tail (fin_tail (fin_tail (fin_tail (fin_tail (fin_oent (fin_oent (fin_here this)))))))
    have yes:fouB g f=true:=by
      simp only [fouB,q5,Bool.true_and,Bool.and_eq_true,decide_eq_true_eq]; omega
    refine xx ?_
    refine xanyl (.tk 1 (.tkl 0 (.tkl 2 (.or true 3 (.or true 4 (.or false 5 (.fin) (.nil)) (.nil)) (.nil))))) (by kernel_rfl) (by kernel_rfl) _ (Drop.refl _ _) ?_
    refine xx ?_
    refine Spec.ap (of_any f.bal hfb.1 hfb.2 fun h6 r6 le6 n6 ap=>?_)
    obtain ⟨a67,a65,a64,a62,a61,_⟩:=ap
    simp only at a67 a65 a64 a62 a61
    obtain ⟨ya,yk,yc,rfl⟩:=n6.sl
    refine xkp (Drop.forget le6) ?_
    refine xx ?_
    refine Spec.ap (radd_any _ _ (n5.up le6) n6 ⟨by omega,by omega⟩ fun h7 r7 le7 n7 ap=>?_)
    obtain ⟨a77,a75,a74,a72,a71,_⟩:=ap
    simp only at a77 a75 a74 a72 a71
    obtain ⟨za,zk,zc,rfl⟩:=n7.sl
    refine xkp (Drop.forget (le6.trans le7)) ?_
    refine xx ?_
    refine xanyl (.tk 0 (.tk 2 (.tk 4 (.tk 6 (.tk 10 (.tkl 1 (.tkl 3 (.tkl 5 (.tkl 7 (.tkl 11 (.or true 8 (.tk 9 (.tk 12 (.or true 13 (.or true 14 (.tk 15 (.or false 16 (.fin) (.nil))) (.nil)) (.nil)))) (.nil)))))))))))) (by kernel_rfl) (by kernel_rfl) [_,_,_,_,_] drop5 ?_
    refine xx ?_
    refine whole10_any g.par f.bal (inc_pos q1) hfb ?_
    first
    | refine xkp drop5 ?_
    | skip
    refine xx ?_
    refine xnew fun b99 n_b99 h_b99=>?_
    try simp only [Apart] at n_b99
    have n994:=n_b99.2.2.1
    clear n_b99
    refine xx ?_
    first
    | refine xkp ((Drop.tail _ _ _).trans drop5) ?_
    | skip
    try simp -dsimp -implicitDefEqProofs (disch:=first|with_reducible assumption|omega) [go_sem]
    refine xappend (t:=44) (e:=120) (sz:=6) (bytes:=48) (by kernel_rfl) tI_120 rfl rfl rfl rfl (by decide) [_,_,_,_,_,_] _ om k (memK g k) okm (memK_len k1') (Src.own (b:=b99) (t:=120) (cap:=6) List.mem_cons_self) (m:=1) (news:=memC (memF g.par f)) rfl (by intro u hu; simp only [memC,List.mem_cons,List.not_mem_nil,or_false] at hu; rcases hu with rfl | rfl | rfl | rfl | rfl | rfl<;>rfl) (by simp [maxLen]; omega) (by omega) ?_
    intro om' l1 l2 l3
    simp only [List.cons_append,List.nil_append]
    first
    | refine xkp ((Drop.tail _ _ _).trans drop5) ?_
    | skip
    refine xx ?_
    have esk:sumK (g.founders.map FouD.bal) (k+1)=sumK (g.founders.map FouD.bal) k+f.bal:=by
      rw [sumK,hfk,gr_lt c1,← at0_lt (by rw [List.length_map]; exact c1),List.getElem_map]
    have emk:memK g (k+1)=memK g k++memC (memF g.par f):=by rw [hfk]; exact memK_succ c1
    refine ⟨⟨k+1,h7,.slice za zk zc,om'⟩,⟨by simp only; omega,le5.trans (le6.trans le7),by simp only; rw [esk,← Int.add_assoc]; exact n7.more (by omega),l1,fun j hj=>?_,a75,a74,a72,a71⟩,by simp only; omega,by simp [Ent,List.lookup],?_⟩
    · by_cases e:j=k
      · subst e; rw [← hfk]; exact yes
      · exact hall j (by simp only at hj; omega)
    · simp only
      rw [emk]
      exact (Drop.tail _ _ _).trans (Drop.tail _ _ _)
  · obtain rfl:k=g.founders.length:=by omega
    have eT:tot g.purses+sumK (g.founders.map FouD.bal) g.founders.length=tot (genAll g):=by
      have e1:sumK (g.founders.map FouD.bal) g.founders.length=tot (g.founders.map FouD.bal):=by rw [tot,List.length_map]
      rw [e1,genAll,tot_sum,tot_sum,tot_sum,List.sum_append]
    rw [eT] at n5
    have fall:=all_gr zeroFou (fouB g) g.founders hall
    refine xx ?_
    have P:∀ {b c d a:Blk} {M X:List Value} {L:Own},(a::b::c::d::oent 120 6 om M (oent 22 1 op X L)).Perm (a::oent 120 6 om M (oent 22 1 op X (b::c::d::L))):=List.Perm.cons _ (up3.trans (oent_congr _ _ up3))
    refine Spec.fin (Spec.apn (uint_any _ n5 fun h6 le6 ap nd=>?_))
    have ap:=Ap.perm P ap
    have nd:=Nd.perm P nd
    obtain ⟨g1,l1,dr1,sl1,ap,nd⟩:=pub_nx (n:=g.founders.length) okm (memK_len (Nat.le_refl _)) (by omega) ap nd
    obtain ⟨g2,l2,dr2,sl2,ap,nd⟩:=pub_nx (n:=g.purses.length) (sz:=1) k1 (by simp) (by omega) ap nd
    refine ⟨_,_,(Drop.perm _ P).trans (dr1.trans dr2),?_⟩
    obtain ⟨a65,a64,a62,a61,_⟩:=ap
    simp only at a65 a64 a62 a61
    clear nd dr1 dr2
    have le6g:=le6.trans (l1.trans l2)
    have le0g:=le05.trans le6g
    by_cases c2:tot (genAll g)≤18446744073709551615
    · rw [show u64N (tot (genAll g))=tot (genAll g) by rw [u64N,if_pos c2],show u64E (tot (genAll g))=true by rw [u64E,decide_eq_true c2]]
      by_cases c3:g.most<tot (genAll g)
      · have:=no (by simp only [newB,decide_eq_false (p:=tot (genAll g)≤g.most) (by omega),Bool.and_false]) g2 le0g
        refine xx ?_
        exact fin_tail (fin_tail (fin_tail (fin_tail (fin_here this))))
      have yes:newB g=true:=by
        simp only [newB,q1,q3,fall,Bool.true_and,Bool.and_true,Bool.and_eq_true,decide_eq_true_eq]
        omega
      have eR:newR g=newS g:=by rw [newR,yes]; rfl
      rw [eR,yes] at hk
      have lK:(g.founders.map (memF g.par)).length=g.founders.length:=by simp
      have eK:memK g g.founders.length=(g.founders.map (memF g.par)).flatMap memC:=by simp [memK]
      have hz0:0≤tot (genAll g):=tot_nonneg fun i=>by
        by_cases hi:i<(genAll g).length
        · rw [← at0_lt hi]
          rcases List.mem_append.1 (List.getElem_mem hi) with hz | hz
          · have:=hp.2 _ hz
            rw [show IntKind.u64.min=0 by decide] at this
            exact this.1
          · obtain ⟨f,hf1,e⟩:=List.mem_map.1 hz
            have:=(hg.fo f hf1).b.1
            rw [← e]; exact this
        · simp [at0,List.getD_eq_getElem?_getD,List.getElem?_eq_none (Nat.le_of_not_lt hi)]
      have hS:IsSt g2 ⟨ovs op g.purses.length,ovs om g.founders.length,.slice none 0 0,.slice none 0 0,.slice none 0 0,.slice none 0 0,.slice none 0 0,.slice (some ⟨b14,0,none⟩) 16 16,.slice none 0 0⟩ (newS g):=by
        refine ⟨⟨ok,fun z hz=>?_,fun z hz=>?_⟩,⟨sl2,hp.2⟩,⟨memC_len,by rw [newS,lK,← eK]; exact sl1.up l2⟩,fun x hx=>?_,nil_ints g2 .i64,nil_ints g2 .i64,Recs.nil depC_len g2,(fun x hx=>by cases hx),Recs.nil dueC_len g2,(fun x hx=>by cases hx),⟨[],Recs.nil motC_len g2,rfl,fun x hx=>by cases hx⟩,im.up (le3.trans (le4.trans (le5.trans le6g))),⟨[],strs_nil g2,rfl⟩⟩
        · simp only [newS,List.mem_cons,List.not_mem_nil,or_false] at hz
          omega
        · simp only [newS,List.mem_cons,List.not_mem_nil,or_false] at hz
          omega
        · obtain ⟨f,hf1,rfl⟩:=List.mem_map.1 hx
          exact memF_ok (inc_pos q1) ok (hg.fo f hf1)
      have:=hk g2 _ le0g hS
      refine xx ?_
      exact fin_tail (fin_tail (fin_tail (fin_tail (fin_here this))))
    · have:=no (by simp only [newB,decide_eq_false (p:=tot (genAll g)≤g.most) (by omega),Bool.and_false]) g2 le0g
      rw [show u64E (tot (genAll g))=false by rw [u64E,decide_eq_false c2]]
      refine xx ?_
      exact fin_tail (fin_tail (fin_tail (fin_tail (fin_here this))))
end Go.X

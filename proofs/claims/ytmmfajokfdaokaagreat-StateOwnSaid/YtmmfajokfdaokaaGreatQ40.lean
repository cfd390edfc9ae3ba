/- Lemmas and contracts for a statement about the given program. Conditions: as each says. -/
import Derived.Test.YtmmfajokfdaokaaGreatQ13
import Derived.Test.YtmmfajokfdaokaaGreatQ38
import Derived.Test.YtmmfajokfdaokaaGreatQ39
set_option linter.unusedVariables false
set_option linter.unusedSimpArgs false
set_option maxHeartbeats 12800000
set_option maxRecDepth 20000
namespace Go.X
open Go.RowKit Go.Proofs Go.Bl
variable {L:Own} {h:PH} {K:PK}
theorem few_own {s:StD} (hf:fewB s=true):OwnFew s:=by
 have h9:=few9_len (fewB_9 hf)
 simp only [fewB,Bool.and_eq_true,List.all_eq_true,decide_eq_true_eq] at hf
 exact ⟨by omega,by omega,by omega,by omega,by omega,by omega,by omega,by omega,by omega,fun m hm=>by have:=hf.2 m hm; omega,fun b hb=>by have:=hf.1.2 b hb; omega⟩
theorem few_S {s:StD} (ho:OwnFew s):FewS s:=⟨by have:=ho.p; omega,by have:=ho.m; omega,by have:=ho.e; omega,by have:=ho.x; omega,by have:=ho.o; omega,by have:=ho.d; omega,by have:=ho.t; omega,by have:=ho.r; omega⟩
theorem RepIs.slices {q:RV} {r:RepD} (hq:RepIs h q r):∃ oa oc la lc sa sc da dc,q=⟨.slice oa r.out.length oc,.slice la r.left.length lc,.slice sa r.started.length sc,.slice da r.done.length dc⟩:=by
 obtain ⟨qo,ql,qs,qd⟩:=q
 obtain ⟨h1,h2,h3,h4⟩:=hq
 simp only at h1 h2 h3 h4
 obtain ⟨oa,oc,rfl,_⟩:=h1.open
 obtain ⟨la,lc,rfl,_⟩:=h2.open
 obtain ⟨sa,sc,rfl,_⟩:=h3.open
 obtain ⟨da,dc,rfl,_⟩:=h4.open
 exact ⟨oa,oc,la,lc,sa,sc,da,dc,rfl⟩
theorem RepIs.up {h h':PH} (le:PH.le h h') {q:RV} {r:RepD} (hq:RepIs h q r):RepIs h' q r:=⟨hq.o.up le,hq.l.up le,hq.s.up le,hq.d.up le⟩
abbrev nilR:RV:=⟨.slice none 0 0,.slice none 0 0,.slice none 0 0,.slice none 0 0⟩
theorem tick_any {s:StD} (v:SV) (hs:IsSt h v s) (few:OwnFew s) (fd:s.dues.length≤29000)
  (hk:tickE s=0→fitsS s=true→s.ep<1073741824→∀ h' u q,PH.le h h'→IsSt h' u (tickS s)→RepIs h' q (tickR s)→K (.tuple #[stV (tickS s) u,rpV (tickR s) q,.int .i64 0]) L h')
  (hno:tickE s≠0→K (.tuple #[stV zeroS nilV,rpV zeroR nilR,.int .i64 (tickE s)]) L h) :
  Spec Tryz.prog 19 [stV s v] L h K:=by
 by_cases hf:fitsS s=true
 ·by_cases he:s.ep<1073741824
  ·have e0:tickE s=0:=by rw [tickE,if_pos hf,if_neg (by omega)]
   have ti:=ti_of hs hf he (Nat.le_refl s.dues.length)
   have ms:=ms_of hs hf
   have t8:=tick8 ti fun m hm=>(ms m hm).1
   exact tickW_any v hs few fd hf he (act_le ti.ml fun m hm=>(ms m hm).1) (by
    have:=act_le t8.2.2.2.2.2.2 fun m hm=>(t8.2.2.2.1 m hm).1
    show actL (tk8 s).1.members≤_
    omega) (hk e0 hf he)
  ·have e0:tickE s=200:=by rw [tickE,if_pos hf,if_pos (by omega)]
   have hno:=hno (by omega)
   rw [e0] at hno
   have fewS:=few_S few
   obtain ⟨pa,pc,ma,mc,ea,ec,xa,xc,oa,oc,da,dc,ta,tc,ka,kc,ra,rc,rfl⟩:=hs.slices
   refine x_enterA Tryz.func19 rfl (rs:=[_,_,_]) rfl rfl mixed (by kernel_rfl) rfl rfl fun ap nd=>?_
   clear ap nd
   refine xx ?_
   refine xnew fun b1 n_b1 h_b1=>?_
   try simp only [Apart] at n_b1
   refine xx ?_
   refine xnew fun b2 n_b2 h_b2=>?_
   try simp only [Apart] at n_b2
   refine xx ?_
   refine xnew fun b3 n_b3 h_b3=>?_
   try simp only [Apart] at n_b3
   refine xx ?_
   refine fits_any (s:=s) ⟨.slice pa s.purses.length pc,.slice ma s.members.length mc,.slice ea s.entry.length ec,.slice xa s.exit.length xc,.slice oa s.pool.length oc,.slice da s.dues.length dc,.slice ta s.motions.length tc,.slice ka s.marks.length kc,.slice ra s.ring.length rc⟩ hs fewS ?_
   rw [hf]
   refine xx ?_
   exact fin_tail (fin_tail (fin_tail (fin_here hno)))
 ·have hf':fitsS s=false:=by simpa using hf
  have e0:tickE s=291:=by rw [tickE,if_neg hf]
  have hno:=hno (by omega)
  rw [e0] at hno
  have fewS:=few_S few
  obtain ⟨pa,pc,ma,mc,ea,ec,xa,xc,oa,oc,da,dc,ta,tc,ka,kc,ra,rc,rfl⟩:=hs.slices
  refine x_enterA Tryz.func19 rfl (rs:=[_,_,_]) rfl rfl mixed (by kernel_rfl) rfl rfl fun ap nd=>?_
  clear ap nd
  refine xx ?_
  refine xnew fun b1 n_b1 h_b1=>?_
  try simp only [Apart] at n_b1
  refine xx ?_
  refine xnew fun b2 n_b2 h_b2=>?_
  try simp only [Apart] at n_b2
  refine xx ?_
  refine xnew fun b3 n_b3 h_b3=>?_
  try simp only [Apart] at n_b3
  refine xx ?_
  refine fits_any (s:=s) ⟨.slice pa s.purses.length pc,.slice ma s.members.length mc,.slice ea s.entry.length ec,.slice xa s.exit.length xc,.slice oa s.pool.length oc,.slice da s.dues.length dc,.slice ta s.motions.length tc,.slice ka s.marks.length kc,.slice ra s.ring.length rc⟩ hs fewS ?_
  rw [hf']
  refine xx ?_
  exact fin_tail (fin_tail (fin_tail (fin_here hno)))
theorem simpS_ownfew:OwnFew simpS:=by constructor<;>decide
theorem en_ep (s:StD) (r:RepD) (t:Int):(enS s r t).ep=s.ep:=by
 unfold enS
 split<;>rfl
theorem ej_ep (s:StD) (r:RepD) (t:Int):(ejP2 t (ajS s,r)).1.ep=s.ep:=rfl
theorem mo_ep (s:StD) (r:RepD):(moS s r).ep=s.ep:=rfl
theorem se_ep (s:StD):(seS s).ep=s.ep+1:=rfl
theorem ep7 (s:StD):(tk7 s).1.ep=s.ep:=rfl
theorem tick_ep (s:StD):(tickS s).ep=s.ep+1:=by
 have e8:(tk8 s).1.ep=s.ep:=(en_ep (tk7 s).1 (tk7 s).2 (atP s)).trans (ep7 s)
 have e9:(tk9 s).1.ep=(tk8 s).1.ep:=mo_ep (tk8 s).1 (tk8 s).2
 have e10:(tk10 s).1.ep=(tk9 s).1.ep:=by
  by_cases c:(tk9 s).1.par=s.par
  ·rw [tk10,if_pos c]
  ·rw [tk10,if_neg c]; exact ej_ep _ _ _
 have eS:(tickS s).ep=(tk10 s).1.ep+1:=se_ep (tk10 s).1
 rw [eS,e10,e9,e8]
theorem simpS_tick:tickE simpS=0∧(tickS simpS).ep=1∧(tickS simpS).calm=1∧(tickR simpS).act=50∧(tickR simpS).quo=false∧(tickR simpS).mode=2:=by
 obtain ⟨r1,r2,r3,r4,r5,_⟩:=tick_rep simpS
 rw [r2,r3,r5,tick_calm,tick_ep]
 refine ⟨by decide +kernel,by decide +kernel,by decide +kernel,by decide +kernel,by decide +kernel,by decide +kernel⟩
theorem awake24_any (hk:∀ h',PH.le h h'→K (.bool true) L h'):Spec Tryz.prog 9 [] L h K:=by
 obtain ⟨t0,t1,t2,t3,t4,t5⟩:=simpS_tick
 refine x_enter Tryz.func9 rfl (rs:=[_]) rfl rfl mixed (by kernel_rfl) rfl rfl ?_
 refine xx ?_
 refine simple24_any fun h1 pa0 pc0 fa0 fc0 le1 ig=>?_
 refine xx ?_
 refine newsimp_any ig fun h2 u le2 is=>?_
 obtain ⟨pa,pc,ma,mc,ea,ec,xa,xc,oa,oc,da,dc,ta,tc,ka,kc,ra,rc,rfl⟩:=is.slices
 refine xx ?_
 refine xnew fun b1 n_b1 h_b1=>?_
 try simp only [Apart] at n_b1
 have hl:simpS.members.length=2:=rfl
 have hg:simpS.gen=765:=rfl
 have g0:(gr zeroM simpS.members 0).eff=20:=rfl
 have g1:(gr zeroM simpS.members 1).eff=30:=rfl
 have hms:Recs memC 6 h2 (.slice ma simpS.members.length mc) simpS.members:=is.m
 have ha:ma≠none:=fun e=>by
  have:=hms.cell (z:=zeroM) (i:=0) (m:=0) (by decide) (by decide)
  rw [e] at this
  simp [elemCell] at this
  cases this
 have I:=(idxR zeroM (by decide) hms).1
 have A:∀ (j o:Nat) (K:Value→Prop) (t:Tok K),xAddO (.pointer (elem ma j)) o K t=K (.pointer (elem ma (j+o))):=fun j o K t=>xAddO_elem ha _ _ K
 have P:∀ (j:Nat) (K:Option Addr→Prop) (t:Tok K),xPtr (.pointer (elem ma j)) K t=K (elem ma j):=fun j K t=>xPtr_elem ha K
 have C1:∀ (L:Own) (K:Value→Prop) (t:Tok K),xCell L h2 (elem ma 1) 0 K t=K (.int .u64 20):=fun L K t=>Recs.fld zeroM hms (j:=0) (o:=1) (by decide) rfl L K t
 have C7:∀ (L:Own) (K:Value→Prop) (t:Tok K),xCell L h2 (elem ma 7) 0 K t=K (.int .u64 30):=fun L K t=>Recs.fld zeroM hms (j:=1) (o:=1) (by decide) rfl L K t
 simp -dsimp -implicitDefEqProofs (disch:=first|with_reducible assumption|omega) [go_sem,hl,hg]
 simp -dsimp -implicitDefEqProofs (disch:=first|with_reducible assumption|omega) [go_sem,I,A,P,C1,C7,hl,hg]
 refine Spec.ap (tick_any (s:=simpS) ⟨.slice pa simpS.purses.length pc,.slice ma simpS.members.length mc,.slice ea simpS.entry.length ec,.slice xa simpS.exit.length xc,.slice oa simpS.pool.length oc,.slice da simpS.dues.length dc,.slice ta simpS.motions.length tc,.slice ka simpS.marks.length kc,.slice ra simpS.ring.length rc⟩ is simpS_ownfew (by decide) (fun _ _ _ h3 u3 q3 le3 it ir ap=>?_) (fun c=>absurd t0 c))
 have a1:h3 b1=noC:=ap.1
 clear ap
 obtain ⟨pa3,pc3,ma3,mc3,ea3,ec3,xa3,xc3,oa3,oc3,da3,dc3,ta3,tc3,ka3,kc3,ra3,rc3,rfl⟩:=it.slices
 obtain ⟨qoa,qoc,qla,qlc,qsa,qsc,qda,qdc,rfl⟩:=ir.slices
 refine xx ?_
 refine xnew fun b3 n_b3 h_b3=>?_
 try simp only [Apart] at n_b3
 have n3:=n_b3.1
 refine xx ?_
 refine xnew fun b4 n_b4 h_b4=>?_
 try simp only [Apart] at n_b4
 have n4:=n_b4.1
 have n42:=n_b4.2.1
 simp -dsimp -implicitDefEqProofs (disch:=first|with_reducible assumption|omega) [go_sem,t1,t2,t3,t4,t5]
 refine fits_any (s:=simpS) ⟨.slice pa simpS.purses.length pc,.slice ma simpS.members.length mc,.slice ea simpS.entry.length ec,.slice xa simpS.exit.length xc,.slice oa simpS.pool.length oc,.slice da simpS.dues.length dc,.slice ta simpS.motions.length tc,.slice ka simpS.marks.length kc,.slice ra simpS.ring.length rc⟩ (is.up le3) simpS_few ?_
 rw [simpS_fits]
 refine xx ?_
 exact fin_tail (fin_tail (fin_tail (fin_here (hk h3 (le1.trans (le2.trans le3))))))
structure Mn (a b:StD):Prop where
 mint:b.mint=a.mint
 burn:b.burn=a.burn
 gen:b.gen=a.gen
 most:b.most=a.most
theorem Mn.next {a b c:StD} (h:Mn a b) (h2:Mn b c):Mn a c:=⟨h2.mint.trans h.mint,h2.burn.trans h.burn,h2.gen.trans h.gen,h2.most.trans h.most⟩
def mkF (g m:List Int):Nat→List Int
 | 0=>m
 | k+1=>if getB g k=true then setB (mkF g m k) k else mkF g m k
def mkS (g:List Int) (s:StD):StD:={ s with marks:=mkF g s.marks s.members.length }
def fieldP (plan:List (List Int)) (i:Nat):List Int:=plan.getD (min i (plan.length-1)) []
def itS (plan:List (List Int)) (s:StD):Nat→StD
 | 0=>s
 | k+1=>tickS (mkS (fieldP plan k) (itS plan s k))
structure ItI (plan:List (List Int)) (s:StD) (h:PH) (u:SV) (k:Nat):Prop where
 i:IsSt h u (itS plan s k)
 f:fitsS (itS plan s k)=true
 d:(itS plan s k).dues.length≤s.dues.length+384*k
theorem ItI.up {plan:List (List Int)} {s:StD} {h h':PH} {u:SV} {k:Nat} (le:PH.le h h') (x:ItI plan s h u k):ItI plan s h' u k:=⟨x.i.up le,x.f,x.d⟩
theorem own24k_any {s:StD} (v:SV) (hs:IsSt h v s) (few:OwnFew s) (hk:∀ h' u,PH.le h h'→IsSt h' u s→K (stV s u) L h'):Spec Tryz.prog 18 [stV s v] L h K:=by
 refine Spec.fin (Spec.apn (own24_any v hs few fun h1 u o ox le ok1 ok2 hn ap nd=>?_))
 refine fin_pub2V (n1:=s.exit.length) (n2:=s.members.length) ok2 (by simp) (by have:=few.x; omega) ok1 (by rw [flatG_len memC_len]) (by have:=few.m; omega) ?_ ?_ fun h2 le2 sx sm=>fin_here (hk h2 _ (le.trans le2) ?_)
 ·cases ox with
  | none=>trivial
  | some p=>exact ⟨nd.1,ap.1⟩
 ·cases o with
  | none=>trivial
  | some q =>
   cases ox with
   | none=>exact ⟨nd.1,ap.1⟩
   | some p=>exact ⟨nd.2.1,ap.2.1⟩
 ·have hn2:=hn.up le2
  exact { ok:=hs.ok,p:=hn2.p,m:=Recs.pub memC_len sm,mo:=hs.mo,e:=hn2.e,x:=⟨by simpa using sx,hs.x.2⟩,o:=hn2.o,oo:=hs.oo,d:=hn2.d,dd:=hs.dd,t:=hn2.t,k:=hn2.k,r:=hn2.r }
end Go.X

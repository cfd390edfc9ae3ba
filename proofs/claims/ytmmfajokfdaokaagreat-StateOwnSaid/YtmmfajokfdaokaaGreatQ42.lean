/- Lemmas and contracts for a statement about the given program. Conditions: as each says. -/
import Derived.Test.YtmmfajokfdaokaaGreatQ36
import Derived.Test.YtmmfajokfdaokaaGreatQ40
import Derived.Test.YtmmfajokfdaokaaGreatQ41
set_option linter.unusedVariables false
set_option linter.unusedSimpArgs false
set_option maxHeartbeats 12800000
set_option maxRecDepth 20000
namespace Go.X
open Go.RowKit Go.Proofs Go.Bl
variable {L:Own} {h:PH} {K:PK}
theorem sub_oentS {e sz:Nat} {o:Option (Nat×Nat)} {xs:List Value} {A L:Own} (hs:A.Sublist L):A.Sublist (oent e sz o xs L):=by
 cases o with
 | none=>exact hs
 | some p=>exact List.Sublist.cons _ hs
theorem sub_consS {x:Blk} {A L:Own} (hs:A.Sublist L):(x::A).Sublist (x::L):=List.Sublist.cons_cons x hs
theorem famO_front (e:Nat) (A L:Own):∀ F:List Fam,(famO e F (A++L)).Perm (A++famO e F L)
 | []=>List.Perm.refl _
 | x::F=>(oent_congr x.1 x.2 (famO_front e A L F)).trans (oent_perm_app A).symm
theorem own_front (A:Own) {e1 e2 e3 s1 s2:Nat} {o1 o2:Option (Nat×Nat)} {x1 x2:List Value} {F:List Fam} {L:Own}:(oent e1 s1 o1 x1 (oent e2 s2 o2 x2 (famO e3 F (A++L)))).Perm (A++oent e1 s1 o1 x1 (oent e2 s2 o2 x2 (famO e3 F L))) :=
 (oent_congr o1 x1 ((oent_congr o2 x2 (famO_front e3 A L F)).trans (oent_perm_app A).symm)).trans (oent_perm_app A).symm
theorem own_front1 (x:Blk) {e1 e2 e3 s1 s2:Nat} {o1 o2:Option (Nat×Nat)} {x1 x2:List Value} {F:List Fam} {L:Own}:(oent e1 s1 o1 x1 (oent e2 s2 o2 x2 (famO e3 F (x::L)))).Perm (x::oent e1 s1 o1 x1 (oent e2 s2 o2 x2 (famO e3 F L))):=own_front [x]
theorem own_front2 (x y:Blk) {e1 e2 e3 s1 s2:Nat} {o1 o2:Option (Nat×Nat)} {x1 x2:List Value} {F:List Fam} {L:Own}:(oent e1 s1 o1 x1 (oent e2 s2 o2 x2 (famO e3 F (x::y::L)))).Perm (x::y::oent e1 s1 o1 x1 (oent e2 s2 o2 x2 (famO e3 F L))):=own_front [x,y]
theorem own_front3 (x y z:Blk) {e1 e2 e3 s1 s2:Nat} {o1 o2:Option (Nat×Nat)} {x1 x2:List Value} {F:List Fam} {L:Own}:(oent e1 s1 o1 x1 (oent e2 s2 o2 x2 (famO e3 F (x::y::z::L)))).Perm (x::y::z::oent e1 s1 o1 x1 (oent e2 s2 o2 x2 (famO e3 F L))):=own_front [x,y,z]
theorem nd_nodup:∀ {L:Own},Nd L→(L.map Blk.b).Nodup
 | [],_=>List.nodup_nil
 | e::L,hn=>by
  rw [List.map_cons,List.nodup_cons]
  refine ⟨fun hm=>?_,nd_nodup hn.2⟩
  obtain ⟨x,hx,he⟩:=List.mem_map.1 hm
  exact of_apart hn.1 x hx he
theorem nd_perm {L L':Own} (hp:L.Perm L') (hn:Nd L):Nd L':=Nd.of ((hp.map Blk.b).nodup_iff.1 (nd_nodup hn))
theorem ap_mem {h:PH}:∀ {L:Own},Ap L h→∀ e∈L,h e.b=noC
 | [],_,e,he=>by cases he
 | x::L,ha,e,he=>by
  rcases List.mem_cons.1 he with rfl | he
  ·exact ha.1
  ·exact ap_mem ha.2 e he
theorem ap_perm {h:PH} {L L':Own} (hp:L.Perm L') (ha:Ap L h):Ap L' h:=Ap.of fun e he=>ap_mem ha e (hp.mem_iff.2 he)
theorem nd_consZ {x:Blk} {L:Own} (ha:Apart x.b L) (hn:Nd L):Nd (x::L):=⟨ha,hn⟩
theorem ap_consZ {x:Blk} {L:Own} {h:PH} (ha:h x.b=noC) (hn:Ap L h):Ap (x::L) h:=⟨ha,hn⟩
theorem apart_oentS {b e sz:Nat} {o:Option (Nat×Nat)} {xs:List Value} {L:Own} (ha:Apart b (oent e sz o xs L)):apB o b∧Apart b L:=by
 cases o with
 | none=>exact ⟨trivial,ha⟩
 | some p=>exact ⟨ha.1,ha.2⟩
theorem apart_fam {b e:Nat} {L:Own}:∀ {F:List Fam},Apart b (famO e F L)→∀ x∈F,apB x.1 b
 | [],_,x,hx=>by cases hx
 | y::F,ha,x,hx=>by
  obtain ⟨h1,h2⟩:=apart_oentS ha
  rcases List.mem_cons.1 hx with rfl | hx
  ·exact h1
  ·exact apart_fam h2 x hx
theorem ap_oentS {e sz:Nat} {o:Option (Nat×Nat)} {xs:List Value} {L:Own} {h:PH} (ha:Ap (oent e sz o xs L) h):apO o [] h∧Ap L h:=by
 cases o with
 | none=>exact ⟨trivial,ha⟩
 | some p=>exact ⟨⟨trivial,ha.1⟩,ha.2⟩
theorem ap_fam {e:Nat} {L:Own} {h:PH}:∀ {F:List Fam},Ap (famO e F L) h→∀ x∈F,apO x.1 [] h
 | [],_,x,hx=>by cases hx
 | y::F,ha,x,hx=>by
  obtain ⟨h1,h2⟩:=ap_oentS ha
  rcases List.mem_cons.1 hx with rfl | hx
  ·exact h1
  ·exact ap_fam h2 x hx
theorem nd_oentS {e sz:Nat} {o:Option (Nat×Nat)} {xs:List Value} {L:Own} (hn:Nd (oent e sz o xs L)):Nd L∧∀ p,o=some p→Apart p.1 L:=by
 cases o with
 | none=>exact ⟨hn,fun p hp=>by cases hp⟩
 | some q=>exact ⟨hn.2,fun p hp=>by injection hp with hp; subst hp; exact hn.1⟩
theorem drop3o (x y z:Blk) {e sz:Nat} {o:Option (Nat×Nat)} {xs:List Value} {L:Own} {h:PH}:Drop (x::y::z::oent e sz o xs L) h (x::y::z::L) h :=
 Drop.subT h (sub_consS (sub_consS (sub_consS (sub_oentS (List.Sublist.refl _)))))
def zeroFam:Fam:=(none,[])
theorem OwnF.up {h h':PH} (le:PH.le h h') {s:StD} {F R:List Fam} {tv rv:Value} (x:OwnF h s F R tv rv):OwnF h' s F R tv rv:=by
 obtain ⟨ql,a,b,c⟩:=x.t
 exact ⟨x.fo,x.ro,⟨ql,a.up le,b,c⟩,x.r.up le,x.n⟩
structure OwG where
 h:PH
 b3:Nat
 b4:Nat
 op:Option (Nat×Nat)
 om:Option (Nat×Nat)
 F:List Fam
 R:List Fam
 v:SV
 u:SV
abbrev ownW (b3 b4 b1:Nat) (s:StD) (v u w:SV) (L:Own):Own:=⟨b3,39,stC s v,41⟩::⟨b4,39,stC s u,41⟩::⟨b1,39,stC s w,41⟩::L
structure OwV (s:StD) (v:SV) (op om:Option (Nat×Nat)):Prop where
 e:∃ (ea xa oa da ta ka ra:Option Addr) (ec xc oc dc tc kc rc:Nat),v=⟨ovs op s.purses.length,ovs om s.members.length,.slice ea s.entry.length ec,.slice xa s.exit.length xc,.slice oa s.pool.length oc,.slice da s.dues.length dc,.slice ta s.motions.length tc,.slice ka s.marks.length kc,.slice ra s.ring.length rc⟩
structure OwI (s:StD) (h1:PH) (b1:Nat) (w:SV) (L:Own) (y:OwG):Prop where
 le:PH.le h1 y.h
 ok1:okO y.op s.purses.length
 ok2:okO y.om s.members.length
 f:OwnF y.h s y.F y.R y.v.t y.v.r
 v:OwV s y.v y.op y.om
 u:IsSt y.h y.u s
 ap:Ap (ownW y.b3 y.b4 b1 s y.v y.u w (oent 73 6 y.om (s.members.flatMap memC) (oent 22 1 y.op (s.purses.map (.int .u64)) (famO 5 (y.F++y.R) L)))) y.h
 nd:Nd (ownW y.b3 y.b4 b1 s y.v y.u w (oent 73 6 y.om (s.members.flatMap memC) (oent 22 1 y.op (s.purses.map (.int .u64)) (famO 5 (y.F++y.R) L))))
theorem stateown_any (w:Value) (hS:∃ q:SV×StD,w=stV q.2 q.1∧IsSt h q.1 q.2) (hk:∀ h',PH.le h h'→K (.bool true) L h'):Spec Tryz.prog 5 [w] L h K:=by
 obtain ⟨⟨v,s⟩,rfl,hs⟩:=hS
 simp only at hs ⊢
 obtain ⟨pa,pc,ma,mc,ea,ec,xa,xc,oa,oc,da,dc,ta,tc,ka,kc,ra,rc,rfl⟩:=hs.slices
 refine x_enter Tryz.func5 rfl (rs:=[_]) rfl rfl mixed (by kernel_rfl) rfl rfl ?_
 refine xx ?_
 refine xnew fun b1 n_b1 h_b1=>?_
 try simp only [Apart] at n_b1
 refine xx ?_
 refine Spec.ap (awake24_any fun h1 le1 ap=>?_)
 have a1:h1 b1=noC:=ap.1
 clear ap
 refine xx ?_
 refine few24_any (s:=s) ⟨.slice pa s.purses.length pc,.slice ma s.members.length mc,.slice ea s.entry.length ec,.slice xa s.exit.length xc,.slice oa s.pool.length oc,.slice da s.dues.length dc,.slice ta s.motions.length tc,.slice ka s.marks.length kc,.slice ra s.ring.length rc⟩ (hs.up le1) ?_
 cases hf:fewB s with
 | false =>
  refine xx ?_
  exact fin_tail (fin_here (hk h1 le1))
 | true =>
 have few:=few_own hf
 have nb1:Apart b1 L:=n_b1
 have fw1:=few.p
 have fw2:=few.m
 have fw3:=few.t
 have fw4:=few.r
 clear n_b1 h_b1
 refine xx ?_
 refine xany_cut (.tkl 0 (.or true 1 (.or true 2 (.or true 3 (.or true 4 (.or true 5 (.or false 6 (.or false 7 (.fin) (.nil)) (.nil)) (.nil)) (.or true 5 (.or true 4 (.or false 6 (.or false 7 (.fin) (.nil)) (.nil)) (.nil)) (.nil))) (.or true 4 (.or true 3 (.or true 5 (.or false 6 (.or false 7 (.fin) (.nil)) (.nil)) (.nil)) (.or true 5 (.or true 3 (.or false 6 (.or false 7 (.fin) (.nil)) (.nil)) (.nil)) (.nil))) (.or true 5 (.or true 3 (.or true 4 (.or false 6 (.or false 7 (.fin) (.nil)) (.nil)) (.nil)) (.or true 4 (.or true 3 (.or false 6 (.or false 7 (.fin) (.nil)) (.nil)) (.nil)) (.nil))) (.nil)))) (.or true 4 (.or true 2 (.or true 3 (.or true 5 (.or false 6 (.or false 7 (.fin) (.nil)) (.nil)) (.nil)) (.or true 5 (.or true 3 (.or false 6 (.or false 7 (.fin) (.nil)) (.nil)) (.nil)) (.nil))) (.or true 5 (.or true 2 (.or true 3 (.or false 6 (.or false 7 (.fin) (.nil)) (.nil)) (.nil)) (.nil)) (.nil))) (.or true 5 (.or true 2 (.or true 3 (.or true 4 (.or false 6 (.or false 7 (.fin) (.nil)) (.nil)) (.nil)) (.or true 4 (.or true 3 (.or false 6 (.or false 7 (.fin) (.nil)) (.nil)) (.nil)) (.nil))) (.or true 4 (.or true 2 (.or true 3 (.or false 6 (.or false 7 (.fin) (.nil)) (.nil)) (.nil)) (.nil)) (.nil))) (.nil)))) (.or true 2 (.or true 1 (.or true 3 (.or true 4 (.or true 5 (.or false 6 (.or false 7 (.fin) (.nil)) (.nil)) (.nil)) (.or true 5 (.or true 4 (.or false 6 (.or false 7 (.fin) (.nil)) (.nil)) (.nil)) (.nil))) (.or true 4 (.or true 3 (.or true 5 (.or false 6 (.or false 7 (.fin) (.nil)) (.nil)) (.nil)) (.or true 5 (.or true 3 (.or false 6 (.or false 7 (.fin) (.nil)) (.nil)) (.nil)) (.nil))) (.or true 5 (.or true 3 (.or true 4 (.or false 6 (.or false 7 (.fin) (.nil)) (.nil)) (.nil)) (.or true 4 (.or true 3 (.or false 6 (.or false 7 (.fin) (.nil)) (.nil)) (.nil)) (.nil))) (.nil)))) (.or true 4 (.or true 1 (.or true 3 (.or true 5 (.or false 6 (.or false 7 (.fin) (.nil)) (.nil)) (.nil)) (.or true 5 (.or true 3 (.or false 6 (.or false 7 (.fin) (.nil)) (.nil)) (.nil)) (.nil))) (.or true 5 (.or true 1 (.or true 3 (.or false 6 (.or false 7 (.fin) (.nil)) (.nil)) (.nil)) (.nil)) (.nil))) (.or true 5 (.or true 1 (.or true 3 (.or true 4 (.or false 6 (.or false 7 (.fin) (.nil)) (.nil)) (.nil)) (.or true 4 (.or true 3 (.or false 6 (.or false 7 (.fin) (.nil)) (.nil)) (.nil)) (.nil))) (.or true 4 (.or true 1 (.or true 3 (.or false 6 (.or false 7 (.fin) (.nil)) (.nil)) (.nil)) (.nil)) (.nil))) (.nil)))) (.or true 4 (.or true 1 (.or true 2 (.or true 3 (.or true 5 (.or false 6 (.or false 7 (.fin) (.nil)) (.nil)) (.nil)) (.or true 5 (.or true 3 (.or false 6 (.or false 7 (.fin) (.nil)) (.nil)) (.nil)) (.nil))) (.or true 5 (.or true 2 (.or true 3 (.or false 6 (.or false 7 (.fin) (.nil)) (.nil)) (.nil)) (.nil)) (.nil))) (.or true 2 (.or true 1 (.or true 3 (.or true 5 (.or false 6 (.or false 7 (.fin) (.nil)) (.nil)) (.nil)) (.or true 5 (.or true 3 (.or false 6 (.or false 7 (.fin) (.nil)) (.nil)) (.nil)) (.nil))) (.or true 5 (.or true 1 (.or true 3 (.or false 6 (.or false 7 (.fin) (.nil)) (.nil)) (.nil)) (.nil)) (.nil))) (.or true 5 (.or true 1 (.or true 2 (.or true 3 (.or false 6 (.or false 7 (.fin) (.nil)) (.nil)) (.nil)) (.nil)) (.or true 2 (.or true 1 (.or true 3 (.or false 6 (.or false 7 (.fin) (.nil)) (.nil)) (.nil)) (.nil)) (.nil))) (.nil)))) (.or true 5 (.or true 1 (.or true 2 (.or true 3 (.or true 4 (.or false 6 (.or false 7 (.fin) (.nil)) (.nil)) (.nil)) (.or true 4 (.or true 3 (.or false 6 (.or false 7 (.fin) (.nil)) (.nil)) (.nil)) (.nil))) (.or true 4 (.or true 2 (.or true 3 (.or false 6 (.or false 7 (.fin) (.nil)) (.nil)) (.nil)) (.nil)) (.nil))) (.or true 2 (.or true 1 (.or true 3 (.or true 4 (.or false 6 (.or false 7 (.fin) (.nil)) (.nil)) (.nil)) (.or true 4 (.or true 3 (.or false 6 (.or false 7 (.fin) (.nil)) (.nil)) (.nil)) (.nil))) (.or true 4 (.or true 1 (.or true 3 (.or false 6 (.or false 7 (.fin) (.nil)) (.nil)) (.nil)) (.nil)) (.nil))) (.or true 4 (.or true 1 (.or true 2 (.or true 3 (.or false 6 (.or false 7 (.fin) (.nil)) (.nil)) (.nil)) (.nil)) (.or true 2 (.or true 1 (.or true 3 (.or false 6 (.or false 7 (.fin) (.nil)) (.nil)) (.nil)) (.nil)) (.nil))) (.nil)))) (.nil)))))) (by kernel_rfl) (by kernel_rfl) [(1,.pointer (some ⟨b1,0,none⟩))] [⟨b1,39,stC s ⟨.slice pa s.purses.length pc,.slice ma s.members.length mc,.slice ea s.entry.length ec,.slice xa s.exit.length xc,.slice oa s.pool.length oc,.slice da s.dues.length dc,.slice ta s.motions.length tc,.slice ka s.marks.length kc,.slice ra s.ring.length rc⟩,41⟩] (γ:=OwG) (OwI s h1 b1 ⟨.slice pa s.purses.length pc,.slice ma s.members.length mc,.slice ea s.entry.length ec,.slice xa s.exit.length xc,.slice oa s.pool.length oc,.slice da s.dues.length dc,.slice ta s.motions.length tc,.slice ka s.marks.length kc,.slice ra s.ring.length rc⟩ L)
  (fun y=>[(1,.pointer (some ⟨b1,0,none⟩)),(3,.pointer (some ⟨y.b3,0,none⟩)),(4,.pointer (some ⟨y.b4,0,none⟩))])
  (fun y=>ownW y.b3 y.b4 b1 s y.v y.u ⟨.slice pa s.purses.length pc,.slice ma s.members.length mc,.slice ea s.entry.length ec,.slice xa s.exit.length xc,.slice oa s.pool.length oc,.slice da s.dues.length dc,.slice ta s.motions.length tc,.slice ka s.marks.length kc,.slice ra s.ring.length rc⟩ (oent 73 6 y.om (s.members.flatMap memC) (oent 22 1 y.op (s.purses.map (.int .u64)) (famO 5 (y.F++y.R) L)))) (fun y=>y.h) (by simp [Ent,List.lookup]) (Drop.mem List.mem_cons_self) ?_ ?_
 ·refine xx ?_
  refine xpl_or ?_ ?_
  ·skip
   refine xx ?_
   refine Spec.fin (Spec.apn (own24f_any (s:=s) ⟨.slice pa s.purses.length pc,.slice ma s.members.length mc,.slice ea s.entry.length ec,.slice xa s.exit.length xc,.slice oa s.pool.length oc,.slice da s.dues.length dc,.slice ta s.motions.length tc,.slice ka s.marks.length kc,.slice ra s.ring.length rc⟩ (hs.up (le1.trans (PH.le_refl h1))) few fun h2 op om F R ye yx yo yd yt yk yr ce cx co cd ct ck cr le2 ok1 ok2 of ap nd=>⟨_,_,Drop.perm _ (own_front1 _),?_⟩))
   have ap:=ap_perm (own_front1 _) ap
   have nd:=nd_perm (own_front1 _) nd
   have zb1:h2 b1=noC:=ap.1
   have lzh2:PH.le h1 h2:=le2
   refine xkp ((Drop.mem (by first | exact List.mem_cons_self | exact List.mem_cons_of_mem _ List.mem_cons_self | exact List.mem_cons_of_mem _ (List.mem_cons_of_mem _ List.mem_cons_self))).trans (Drop.forget lzh2)) ?_
   refine xpl_or ?_ ?_
   ·skip
    refine xx ?_
    refine xkp ((Drop.mem (by first | exact List.mem_cons_self | exact List.mem_cons_of_mem _ List.mem_cons_self | exact List.mem_cons_of_mem _ (List.mem_cons_of_mem _ List.mem_cons_self))).trans (Drop.forget lzh2)) ?_
    refine xpl_or ?_ ?_
    ·skip
     refine xx ?_
     refine Spec.ap (own24k_any (s:=s) ⟨.slice pa s.purses.length pc,.slice ma s.members.length mc,.slice ea s.entry.length ec,.slice xa s.exit.length xc,.slice oa s.pool.length oc,.slice da s.dues.length dc,.slice ta s.motions.length tc,.slice ka s.marks.length kc,.slice ra s.ring.length rc⟩ (hs.up (le1.trans lzh2)) few fun h3 u le3 iu ap3=>?_)
     have lzh3:PH.le h1 h3:=lzh2.trans le3
     have iu0:=iu
     obtain ⟨pa2,pc2,ma2,mc2,ea2,ec2,xa2,xc2,oa2,oc2,da2,dc2,ta2,tc2,ka2,kc2,ra2,rc2,rfl⟩:=iu.slices
     refine xkp ((Drop.mem (by first | exact List.mem_cons_self | exact List.mem_cons_of_mem _ List.mem_cons_self | exact List.mem_cons_of_mem _ (List.mem_cons_of_mem _ List.mem_cons_self))).trans (Drop.forget lzh3)) ?_
     refine xpl_or ?_ ?_
     ·skip
      refine xx ?_
      refine xnew fun b3 n_b3 h_b3=>?_
      have nd:=nd_consZ (x:=⟨b3,39,stC zeroS nilV,41⟩) n_b3 nd
      have ap3:=ap_consZ (x:=⟨b3,39,stC zeroS nilV,41⟩) h_b3 ap3
      try simp only [Apart] at n_b3
      refine xkp ((Drop.mem (by first | exact List.mem_cons_self | exact List.mem_cons_of_mem _ List.mem_cons_self | exact List.mem_cons_of_mem _ (List.mem_cons_of_mem _ List.mem_cons_self))).trans (Drop.forget lzh3)) ?_
      refine xx ?_
      refine xnew fun b4 n_b4 h_b4=>?_
      have nd:=nd_consZ (x:=⟨b4,39,stC zeroS nilV,41⟩) n_b4 nd
      have ap3:=ap_consZ (x:=⟨b4,39,stC zeroS nilV,41⟩) h_b4 ap3
      try simp only [Apart] at n_b4
      refine xkp ((Drop.mem (by first | exact List.mem_cons_self | exact List.mem_cons_of_mem _ List.mem_cons_self | exact List.mem_cons_of_mem _ (List.mem_cons_of_mem _ List.mem_cons_self))).trans (Drop.forget lzh3)) ?_
      have n1:=nd.1.1
      have n2:=nd.1.2.1
      have n3:=nd.2.1.1
      try simp only at n1 n2 n3
      refine xx ?_
      exact ⟨⟨h3,b3,b4,op,om,F,R,⟨ovs op s.purses.length,ovs om s.members.length,.slice ye s.entry.length ce,.slice yx s.exit.length cx,.slice yo s.pool.length co,.slice yd s.dues.length cd,.slice yt s.motions.length ct,.slice yk s.marks.length ck,.slice yr s.ring.length cr⟩,⟨.slice pa2 s.purses.length pc2,.slice ma2 s.members.length mc2,.slice ea2 s.entry.length ec2,.slice xa2 s.exit.length xc2,.slice oa2 s.pool.length oc2,.slice da2 s.dues.length dc2,.slice ta2 s.motions.length tc2,.slice ka2 s.marks.length kc2,.slice ra2 s.ring.length rc2⟩⟩,⟨lzh3,ok1,ok2,of.up le3,⟨⟨_,_,_,_,_,_,_,_,_,_,_,_,_,_,rfl⟩⟩,iu0,ap_perm (List.Perm.swap _ _ _) ap3,nd_perm (List.Perm.swap _ _ _) nd⟩,by simp [Ent,List.lookup],Drop.perm _ (List.Perm.swap _ _ _)⟩
     refine xx ?_
     refine xnew fun b4 n_b4 h_b4=>?_
     have nd:=nd_consZ (x:=⟨b4,39,stC zeroS nilV,41⟩) n_b4 nd
     have ap3:=ap_consZ (x:=⟨b4,39,stC zeroS nilV,41⟩) h_b4 ap3
     try simp only [Apart] at n_b4
     refine xkp ((Drop.mem (by first | exact List.mem_cons_self | exact List.mem_cons_of_mem _ List.mem_cons_self | exact List.mem_cons_of_mem _ (List.mem_cons_of_mem _ List.mem_cons_self))).trans (Drop.forget lzh3)) ?_
     refine xx ?_
     refine xnew fun b3 n_b3 h_b3=>?_
     have nd:=nd_consZ (x:=⟨b3,39,stC zeroS nilV,41⟩) n_b3 nd
     have ap3:=ap_consZ (x:=⟨b3,39,stC zeroS nilV,41⟩) h_b3 ap3
     try simp only [Apart] at n_b3
     refine xkp ((Drop.mem (by first | exact List.mem_cons_self | exact List.mem_cons_of_mem _ List.mem_cons_self | exact List.mem_cons_of_mem _ (List.mem_cons_of_mem _ List.mem_cons_self))).trans (Drop.forget lzh3)) ?_
     have n1:=nd.1.1
     have n2:=nd.1.2.1
     have n3:=nd.2.1.1
     try simp only at n1 n2 n3
     refine xx ?_
     exact ⟨⟨h3,b3,b4,op,om,F,R,⟨ovs op s.purses.length,ovs om s.members.length,.slice ye s.entry.length ce,.slice yx s.exit.length cx,.slice yo s.pool.length co,.slice yd s.dues.length cd,.slice yt s.motions.length ct,.slice yk s.marks.length ck,.slice yr s.ring.length cr⟩,⟨.slice pa2 s.purses.length pc2,.slice ma2 s.members.length mc2,.slice ea2 s.entry.length ec2,.slice xa2 s.exit.length xc2,.slice oa2 s.pool.length oc2,.slice da2 s.dues.length dc2,.slice ta2 s.motions.length tc2,.slice ka2 s.marks.length kc2,.slice ra2 s.ring.length rc2⟩⟩,⟨lzh3,ok1,ok2,of.up le3,⟨⟨_,_,_,_,_,_,_,_,_,_,_,_,_,_,rfl⟩⟩,iu0,ap3,nd⟩,by simp [Ent,List.lookup],Drop.refl _ _⟩
    refine xpl_or ?_ ?_
    ·skip
     refine xx ?_
     refine xnew fun b3 n_b3 h_b3=>?_
     have nd:=nd_consZ (x:=⟨b3,39,stC zeroS nilV,41⟩) n_b3 nd
     try simp only [Apart] at n_b3
     refine xkp ((Drop.mem (by first | exact List.mem_cons_self | exact List.mem_cons_of_mem _ List.mem_cons_self | exact List.mem_cons_of_mem _ (List.mem_cons_of_mem _ List.mem_cons_self))).trans (Drop.forget lzh2)) ?_
     refine xpl_or ?_ ?_
     ·skip
      refine xx ?_
      refine Spec.ap (own24k_any (s:=s) ⟨.slice pa s.purses.length pc,.slice ma s.members.length mc,.slice ea s.entry.length ec,.slice xa s.exit.length xc,.slice oa s.pool.length oc,.slice da s.dues.length dc,.slice ta s.motions.length tc,.slice ka s.marks.length kc,.slice ra s.ring.length rc⟩ (hs.up (le1.trans lzh2)) few fun h3 u le3 iu ap3=>?_)
      have lzh3:PH.le h1 h3:=lzh2.trans le3
      have iu0:=iu
      obtain ⟨pa2,pc2,ma2,mc2,ea2,ec2,xa2,xc2,oa2,oc2,da2,dc2,ta2,tc2,ka2,kc2,ra2,rc2,rfl⟩:=iu.slices
      refine xkp ((Drop.mem (by first | exact List.mem_cons_self | exact List.mem_cons_of_mem _ List.mem_cons_self | exact List.mem_cons_of_mem _ (List.mem_cons_of_mem _ List.mem_cons_self))).trans (Drop.forget lzh3)) ?_
      refine xx ?_
      refine xnew fun b4 n_b4 h_b4=>?_
      have nd:=nd_consZ (x:=⟨b4,39,stC zeroS nilV,41⟩) n_b4 nd
      have ap3:=ap_consZ (x:=⟨b4,39,stC zeroS nilV,41⟩) h_b4 ap3
      try simp only [Apart] at n_b4
      refine xkp ((Drop.mem (by first | exact List.mem_cons_self | exact List.mem_cons_of_mem _ List.mem_cons_self | exact List.mem_cons_of_mem _ (List.mem_cons_of_mem _ List.mem_cons_self))).trans (Drop.forget lzh3)) ?_
      have n1:=nd.1.1
      have n2:=nd.1.2.1
      have n3:=nd.2.1.1
      try simp only at n1 n2 n3
      refine xx ?_
      exact ⟨⟨h3,b3,b4,op,om,F,R,⟨ovs op s.purses.length,ovs om s.members.length,.slice ye s.entry.length ce,.slice yx s.exit.length cx,.slice yo s.pool.length co,.slice yd s.dues.length cd,.slice yt s.motions.length ct,.slice yk s.marks.length ck,.slice yr s.ring.length cr⟩,⟨.slice pa2 s.purses.length pc2,.slice ma2 s.members.length mc2,.slice ea2 s.entry.length ec2,.slice xa2 s.exit.length xc2,.slice oa2 s.pool.length oc2,.slice da2 s.dues.length dc2,.slice ta2 s.motions.length tc2,.slice ka2 s.marks.length kc2,.slice ra2 s.ring.length rc2⟩⟩,⟨lzh3,ok1,ok2,of.up le3,⟨⟨_,_,_,_,_,_,_,_,_,_,_,_,_,_,rfl⟩⟩,iu0,ap_perm (List.Perm.swap _ _ _) ap3,nd_perm (List.Perm.swap _ _ _) nd⟩,by simp [Ent,List.lookup],Drop.perm _ (List.Perm.swap _ _ _)⟩
     refine xx ?_
     refine xnew fun b4 n_b4 h_b4=>?_
     have nd:=nd_consZ (x:=⟨b4,39,stC zeroS nilV,41⟩) n_b4 nd
     try simp only [Apart] at n_b4
     refine xkp ((Drop.mem (by first | exact List.mem_cons_self | exact List.mem_cons_of_mem _ List.mem_cons_self | exact List.mem_cons_of_mem _ (List.mem_cons_of_mem _ List.mem_cons_self))).trans (Drop.forget lzh2)) ?_
     refine xx ?_
     refine Spec.ap (own24k_any (s:=s) ⟨.slice pa s.purses.length pc,.slice ma s.members.length mc,.slice ea s.entry.length ec,.slice xa s.exit.length xc,.slice oa s.pool.length oc,.slice da s.dues.length dc,.slice ta s.motions.length tc,.slice ka s.marks.length kc,.slice ra s.ring.length rc⟩ (hs.up (le1.trans lzh2)) few fun h3 u le3 iu ap3=>?_)
     have lzh3:PH.le h1 h3:=lzh2.trans le3
     have iu0:=iu
     obtain ⟨pa2,pc2,ma2,mc2,ea2,ec2,xa2,xc2,oa2,oc2,da2,dc2,ta2,tc2,ka2,kc2,ra2,rc2,rfl⟩:=iu.slices
     refine xkp ((Drop.mem (by first | exact List.mem_cons_self | exact List.mem_cons_of_mem _ List.mem_cons_self | exact List.mem_cons_of_mem _ (List.mem_cons_of_mem _ List.mem_cons_self))).trans (Drop.forget lzh3)) ?_
     have n1:=nd.1.1
     have n2:=nd.1.2.1
     have n3:=nd.2.1.1
     try simp only at n1 n2 n3
     refine xx ?_
     exact ⟨⟨h3,b3,b4,op,om,F,R,⟨ovs op s.purses.length,ovs om s.members.length,.slice ye s.entry.length ce,.slice yx s.exit.length cx,.slice yo s.pool.length co,.slice yd s.dues.length cd,.slice yt s.motions.length ct,.slice yk s.marks.length ck,.slice yr s.ring.length cr⟩,⟨.slice pa2 s.purses.length pc2,.slice ma2 s.members.length mc2,.slice ea2 s.entry.length ec2,.slice xa2 s.exit.length xc2,.slice oa2 s.pool.length oc2,.slice da2 s.dues.length dc2,.slice ta2 s.motions.length tc2,.slice ka2 s.marks.length kc2,.slice ra2 s.ring.length rc2⟩⟩,⟨lzh3,ok1,ok2,of.up le3,⟨⟨_,_,_,_,_,_,_,_,_,_,_,_,_,_,rfl⟩⟩,iu0,ap_perm (List.Perm.swap _ _ _) ap3,nd_perm (List.Perm.swap _ _ _) nd⟩,by simp [Ent,List.lookup],Drop.perm _ (List.Perm.swap _ _ _)⟩
    refine xx ?_
    refine xnew fun b4 n_b4 h_b4=>?_
    have nd:=nd_consZ (x:=⟨b4,39,stC zeroS nilV,41⟩) n_b4 nd
    try simp only [Apart] at n_b4
    refine xkp ((Drop.mem (by first | exact List.mem_cons_self | exact List.mem_cons_of_mem _ List.mem_cons_self | exact List.mem_cons_of_mem _ (List.mem_cons_of_mem _ List.mem_cons_self))).trans (Drop.forget lzh2)) ?_
    refine xpl_or ?_ ?_
    ·skip
     refine xx ?_
     refine Spec.ap (own24k_any (s:=s) ⟨.slice pa s.purses.length pc,.slice ma s.members.length mc,.slice ea s.entry.length ec,.slice xa s.exit.length xc,.slice oa s.pool.length oc,.slice da s.dues.length dc,.slice ta s.motions.length tc,.slice ka s.marks.length kc,.slice ra s.ring.length rc⟩ (hs.up (le1.trans lzh2)) few fun h3 u le3 iu ap3=>?_)
     have lzh3:PH.le h1 h3:=lzh2.trans le3
     have iu0:=iu
     obtain ⟨pa2,pc2,ma2,mc2,ea2,ec2,xa2,xc2,oa2,oc2,da2,dc2,ta2,tc2,ka2,kc2,ra2,rc2,rfl⟩:=iu.slices
     refine xkp ((Drop.mem (by first | exact List.mem_cons_self | exact List.mem_cons_of_mem _ List.mem_cons_self | exact List.mem_cons_of_mem _ (List.mem_cons_of_mem _ List.mem_cons_self))).trans (Drop.forget lzh3)) ?_
     refine xx ?_
     refine xnew fun b3 n_b3 h_b3=>?_
     have nd:=nd_consZ (x:=⟨b3,39,stC zeroS nilV,41⟩) n_b3 nd
     have ap3:=ap_consZ (x:=⟨b3,39,stC zeroS nilV,41⟩) h_b3 ap3
     try simp only [Apart] at n_b3
     refine xkp ((Drop.mem (by first | exact List.mem_cons_self | exact List.mem_cons_of_mem _ List.mem_cons_self | exact List.mem_cons_of_mem _ (List.mem_cons_of_mem _ List.mem_cons_self))).trans (Drop.forget lzh3)) ?_
     have n1:=nd.1.1
     have n2:=nd.1.2.1
     have n3:=nd.2.1.1
     try simp only at n1 n2 n3
     refine xx ?_
     exact ⟨⟨h3,b3,b4,op,om,F,R,⟨ovs op s.purses.length,ovs om s.members.length,.slice ye s.entry.length ce,.slice yx s.exit.length cx,.slice yo s.pool.length co,.slice yd s.dues.length cd,.slice yt s.motions.length ct,.slice yk s.marks.length ck,.slice yr s.ring.length cr⟩,⟨.slice pa2 s.purses.length pc2,.slice ma2 s.members.length mc2,.slice ea2 s.entry.length ec2,.slice xa2 s.exit.length xc2,.slice oa2 s.pool.length oc2,.slice da2 s.dues.length dc2,.slice ta2 s.motions.length tc2,.slice ka2 s.marks.length kc2,.slice ra2 s.ring.length rc2⟩⟩,⟨lzh3,ok1,ok2,of.up le3,⟨⟨_,_,_,_,_,_,_,_,_,_,_,_,_,_,rfl⟩⟩,iu0,ap3,nd⟩,by simp [Ent,List.lookup],Drop.refl _ _⟩
    refine xx ?_
    refine xnew fun b3 n_b3 h_b3=>?_
    have nd:=nd_consZ (x:=⟨b3,39,stC zeroS nilV,41⟩) n_b3 nd
    try simp only [Apart] at n_b3
    refine xkp ((Drop.mem (by first | exact List.mem_cons_self | exact List.mem_cons_of_mem _ List.mem_cons_self | exact List.mem_cons_of_mem _ (List.mem_cons_of_mem _ List.mem_cons_self))).trans (Drop.forget lzh2)) ?_
    refine xx ?_
    refine Spec.ap (own24k_any (s:=s) ⟨.slice pa s.purses.length pc,.slice ma s.members.length mc,.slice ea s.entry.length ec,.slice xa s.exit.length xc,.slice oa s.pool.length oc,.slice da s.dues.length dc,.slice ta s.motions.length tc,.slice ka s.marks.length kc,.slice ra s.ring.length rc⟩ (hs.up (le1.trans lzh2)) few fun h3 u le3 iu ap3=>?_)
    have lzh3:PH.le h1 h3:=lzh2.trans le3
    have iu0:=iu
    obtain ⟨pa2,pc2,ma2,mc2,ea2,ec2,xa2,xc2,oa2,oc2,da2,dc2,ta2,tc2,ka2,kc2,ra2,rc2,rfl⟩:=iu.slices
    refine xkp ((Drop.mem (by first | exact List.mem_cons_self | exact List.mem_cons_of_mem _ List.mem_cons_self | exact List.mem_cons_of_mem _ (List.mem_cons_of_mem _ List.mem_cons_self))).trans (Drop.forget lzh3)) ?_
    have n1:=nd.1.1
    have n2:=nd.1.2.1
    have n3:=nd.2.1.1
    try simp only at n1 n2 n3
    refine xx ?_
    exact ⟨⟨h3,b3,b4,op,om,F,R,⟨ovs op s.purses.length,ovs om s.members.length,.slice ye s.entry.length ce,.slice yx s.exit.length cx,.slice yo s.pool.length co,.slice yd s.dues.length cd,.slice yt s.motions.length ct,.slice yk s.marks.length ck,.slice yr s.ring.length cr⟩,⟨.slice pa2 s.purses.length pc2,.slice ma2 s.members.length mc2,.slice ea2 s.entry.length ec2,.slice xa2 s.exit.length xc2,.slice oa2 s.pool.length oc2,.slice da2 s.dues.length dc2,.slice ta2 s.motions.length tc2,.slice ka2 s.marks.length kc2,.slice ra2 s.ring.length rc2⟩⟩,⟨lzh3,ok1,ok2,of.up le3,⟨⟨_,_,_,_,_,_,_,_,_,_,_,_,_,_,rfl⟩⟩,iu0,ap3,nd⟩,by simp [Ent,List.lookup],Drop.refl _ _⟩
   refine xpl_or ?_ ?_
   ·skip
    refine xx ?_
    refine xnew fun b3 n_b3 h_b3=>?_
    have nd:=nd_consZ (x:=⟨b3,39,stC zeroS nilV,41⟩) n_b3 nd
    try simp only [Apart] at n_b3
    refine xkp ((Drop.mem (by first | exact List.mem_cons_self | exact List.mem_cons_of_mem _ List.mem_cons_self | exact List.mem_cons_of_mem _ (List.mem_cons_of_mem _ List.mem_cons_self))).trans (Drop.forget lzh2)) ?_
    refine xpl_or ?_ ?_
    ·skip
     refine xx ?_
     refine xkp ((Drop.mem (by first | exact List.mem_cons_self | exact List.mem_cons_of_mem _ List.mem_cons_self | exact List.mem_cons_of_mem _ (List.mem_cons_of_mem _ List.mem_cons_self))).trans (Drop.forget lzh2)) ?_
     refine xpl_or ?_ ?_
     ·skip
      refine xx ?_
      refine Spec.ap (own24k_any (s:=s) ⟨.slice pa s.purses.length pc,.slice ma s.members.length mc,.slice ea s.entry.length ec,.slice xa s.exit.length xc,.slice oa s.pool.length oc,.slice da s.dues.length dc,.slice ta s.motions.length tc,.slice ka s.marks.length kc,.slice ra s.ring.length rc⟩ (hs.up (le1.trans lzh2)) few fun h3 u le3 iu ap3=>?_)
      have lzh3:PH.le h1 h3:=lzh2.trans le3
      have iu0:=iu
      obtain ⟨pa2,pc2,ma2,mc2,ea2,ec2,xa2,xc2,oa2,oc2,da2,dc2,ta2,tc2,ka2,kc2,ra2,rc2,rfl⟩:=iu.slices
      refine xkp ((Drop.mem (by first | exact List.mem_cons_self | exact List.mem_cons_of_mem _ List.mem_cons_self | exact List.mem_cons_of_mem _ (List.mem_cons_of_mem _ List.mem_cons_self))).trans (Drop.forget lzh3)) ?_
      refine xx ?_
      refine xnew fun b4 n_b4 h_b4=>?_
      have nd:=nd_consZ (x:=⟨b4,39,stC zeroS nilV,41⟩) n_b4 nd
      have ap3:=ap_consZ (x:=⟨b4,39,stC zeroS nilV,41⟩) h_b4 ap3
      try simp only [Apart] at n_b4
      refine xkp ((Drop.mem (by first | exact List.mem_cons_self | exact List.mem_cons_of_mem _ List.mem_cons_self | exact List.mem_cons_of_mem _ (List.mem_cons_of_mem _ List.mem_cons_self))).trans (Drop.forget lzh3)) ?_
      have n1:=nd.1.1
      have n2:=nd.1.2.1
      have n3:=nd.2.1.1
      try simp only at n1 n2 n3
      refine xx ?_
      exact ⟨⟨h3,b3,b4,op,om,F,R,⟨ovs op s.purses.length,ovs om s.members.length,.slice ye s.entry.length ce,.slice yx s.exit.length cx,.slice yo s.pool.length co,.slice yd s.dues.length cd,.slice yt s.motions.length ct,.slice yk s.marks.length ck,.slice yr s.ring.length cr⟩,⟨.slice pa2 s.purses.length pc2,.slice ma2 s.members.length mc2,.slice ea2 s.entry.length ec2,.slice xa2 s.exit.length xc2,.slice oa2 s.pool.length oc2,.slice da2 s.dues.length dc2,.slice ta2 s.motions.length tc2,.slice ka2 s.marks.length kc2,.slice ra2 s.ring.length rc2⟩⟩,⟨lzh3,ok1,ok2,of.up le3,⟨⟨_,_,_,_,_,_,_,_,_,_,_,_,_,_,rfl⟩⟩,iu0,ap_perm (List.Perm.swap _ _ _) ap3,nd_perm (List.Perm.swap _ _ _) nd⟩,by simp [Ent,List.lookup],Drop.perm _ (List.Perm.swap _ _ _)⟩
     refine xx ?_
     refine xnew fun b4 n_b4 h_b4=>?_
     have nd:=nd_consZ (x:=⟨b4,39,stC zeroS nilV,41⟩) n_b4 nd
     try simp only [Apart] at n_b4
     refine xkp ((Drop.mem (by first | exact List.mem_cons_self | exact List.mem_cons_of_mem _ List.mem_cons_self | exact List.mem_cons_of_mem _ (List.mem_cons_of_mem _ List.mem_cons_self))).trans (Drop.forget lzh2)) ?_
     refine xx ?_
     refine Spec.ap (own24k_any (s:=s) ⟨.slice pa s.purses.length pc,.slice ma s.members.length mc,.slice ea s.entry.length ec,.slice xa s.exit.length xc,.slice oa s.pool.length oc,.slice da s.dues.length dc,.slice ta s.motions.length tc,.slice ka s.marks.length kc,.slice ra s.ring.length rc⟩ (hs.up (le1.trans lzh2)) few fun h3 u le3 iu ap3=>?_)
     have lzh3:PH.le h1 h3:=lzh2.trans le3
     have iu0:=iu
     obtain ⟨pa2,pc2,ma2,mc2,ea2,ec2,xa2,xc2,oa2,oc2,da2,dc2,ta2,tc2,ka2,kc2,ra2,rc2,rfl⟩:=iu.slices
     refine xkp ((Drop.mem (by first | exact List.mem_cons_self | exact List.mem_cons_of_mem _ List.mem_cons_self | exact List.mem_cons_of_mem _ (List.mem_cons_of_mem _ List.mem_cons_self))).trans (Drop.forget lzh3)) ?_
     have n1:=nd.1.1
     have n2:=nd.1.2.1
     have n3:=nd.2.1.1
     try simp only at n1 n2 n3
     refine xx ?_
     exact ⟨⟨h3,b3,b4,op,om,F,R,⟨ovs op s.purses.length,ovs om s.members.length,.slice ye s.entry.length ce,.slice yx s.exit.length cx,.slice yo s.pool.length co,.slice yd s.dues.length cd,.slice yt s.motions.length ct,.slice yk s.marks.length ck,.slice yr s.ring.length cr⟩,⟨.slice pa2 s.purses.length pc2,.slice ma2 s.members.length mc2,.slice ea2 s.entry.length ec2,.slice xa2 s.exit.length xc2,.slice oa2 s.pool.length oc2,.slice da2 s.dues.length dc2,.slice ta2 s.motions.length tc2,.slice ka2 s.marks.length kc2,.slice ra2 s.ring.length rc2⟩⟩,⟨lzh3,ok1,ok2,of.up le3,⟨⟨_,_,_,_,_,_,_,_,_,_,_,_,_,_,rfl⟩⟩,iu0,ap_perm (List.Perm.swap _ _ _) ap3,nd_perm (List.Perm.swap _ _ _) nd⟩,by simp [Ent,List.lookup],Drop.perm _ (List.Perm.swap _ _ _)⟩
    refine xx ?_
    refine xnew fun b4 n_b4 h_b4=>?_
    have nd:=nd_consZ (x:=⟨b4,39,stC zeroS nilV,41⟩) n_b4 nd
    try simp only [Apart] at n_b4
    refine xkp ((Drop.mem (by first | exact List.mem_cons_self | exact List.mem_cons_of_mem _ List.mem_cons_self | exact List.mem_cons_of_mem _ (List.mem_cons_of_mem _ List.mem_cons_self))).trans (Drop.forget lzh2)) ?_
    refine xx ?_
    refine xkp ((Drop.mem (by first | exact List.mem_cons_self | exact List.mem_cons_of_mem _ List.mem_cons_self | exact List.mem_cons_of_mem _ (List.mem_cons_of_mem _ List.mem_cons_self))).trans (Drop.forget lzh2)) ?_
    refine xx ?_
    refine Spec.ap (own24k_any (s:=s) ⟨.slice pa s.purses.length pc,.slice ma s.members.length mc,.slice ea s.entry.length ec,.slice xa s.exit.length xc,.slice oa s.pool.length oc,.slice da s.dues.length dc,.slice ta s.motions.length tc,.slice ka s.marks.length kc,.slice ra s.ring.length rc⟩ (hs.up (le1.trans lzh2)) few fun h3 u le3 iu ap3=>?_)
    have lzh3:PH.le h1 h3:=lzh2.trans le3
    have iu0:=iu
    obtain ⟨pa2,pc2,ma2,mc2,ea2,ec2,xa2,xc2,oa2,oc2,da2,dc2,ta2,tc2,ka2,kc2,ra2,rc2,rfl⟩:=iu.slices
    refine xkp ((Drop.mem (by first | exact List.mem_cons_self | exact List.mem_cons_of_mem _ List.mem_cons_self | exact List.mem_cons_of_mem _ (List.mem_cons_of_mem _ List.mem_cons_self))).trans (Drop.forget lzh3)) ?_
    have n1:=nd.1.1
    have n2:=nd.1.2.1
    have n3:=nd.2.1.1
    try simp only at n1 n2 n3
    refine xx ?_
    exact ⟨⟨h3,b3,b4,op,om,F,R,⟨ovs op s.purses.length,ovs om s.members.length,.slice ye s.entry.length ce,.slice yx s.exit.length cx,.slice yo s.pool.length co,.slice yd s.dues.length cd,.slice yt s.motions.length ct,.slice yk s.marks.length ck,.slice yr s.ring.length cr⟩,⟨.slice pa2 s.purses.length pc2,.slice ma2 s.members.length mc2,.slice ea2 s.entry.length ec2,.slice xa2 s.exit.length xc2,.slice oa2 s.pool.length oc2,.slice da2 s.dues.length dc2,.slice ta2 s.motions.length tc2,.slice ka2 s.marks.length kc2,.slice ra2 s.ring.length rc2⟩⟩,⟨lzh3,ok1,ok2,of.up le3,⟨⟨_,_,_,_,_,_,_,_,_,_,_,_,_,_,rfl⟩⟩,iu0,ap_perm (List.Perm.swap _ _ _) ap3,nd_perm (List.Perm.swap _ _ _) nd⟩,by simp [Ent,List.lookup],Drop.perm _ (List.Perm.swap _ _ _)⟩
   refine xx ?_
   refine xnew fun b4 n_b4 h_b4=>?_
   have nd:=nd_consZ (x:=⟨b4,39,stC zeroS nilV,41⟩) n_b4 nd
   try simp only [Apart] at n_b4
   refine xkp ((Drop.mem (by first | exact List.mem_cons_self | exact List.mem_cons_of_mem _ List.mem_cons_self | exact List.mem_cons_of_mem _ (List.mem_cons_of_mem _ List.mem_cons_self))).trans (Drop.forget lzh2)) ?_
   refine xpl_or ?_ ?_
   ·skip
    refine xx ?_
    refine xkp ((Drop.mem (by first | exact List.mem_cons_self | exact List.mem_cons_of_mem _ List.mem_cons_self | exact List.mem_cons_of_mem _ (List.mem_cons_of_mem _ List.mem_cons_self))).trans (Drop.forget lzh2)) ?_
    refine xpl_or ?_ ?_
    ·skip
     refine xx ?_
     refine Spec.ap (own24k_any (s:=s) ⟨.slice pa s.purses.length pc,.slice ma s.members.length mc,.slice ea s.entry.length ec,.slice xa s.exit.length xc,.slice oa s.pool.length oc,.slice da s.dues.length dc,.slice ta s.motions.length tc,.slice ka s.marks.length kc,.slice ra s.ring.length rc⟩ (hs.up (le1.trans lzh2)) few fun h3 u le3 iu ap3=>?_)
     have lzh3:PH.le h1 h3:=lzh2.trans le3
     have iu0:=iu
     obtain ⟨pa2,pc2,ma2,mc2,ea2,ec2,xa2,xc2,oa2,oc2,da2,dc2,ta2,tc2,ka2,kc2,ra2,rc2,rfl⟩:=iu.slices
     refine xkp ((Drop.mem (by first | exact List.mem_cons_self | exact List.mem_cons_of_mem _ List.mem_cons_self | exact List.mem_cons_of_mem _ (List.mem_cons_of_mem _ List.mem_cons_self))).trans (Drop.forget lzh3)) ?_
     refine xx ?_
     refine xnew fun b3 n_b3 h_b3=>?_
     have nd:=nd_consZ (x:=⟨b3,39,stC zeroS nilV,41⟩) n_b3 nd
     have ap3:=ap_consZ (x:=⟨b3,39,stC zeroS nilV,41⟩) h_b3 ap3
     try simp only [Apart] at n_b3
     refine xkp ((Drop.mem (by first | exact List.mem_cons_self | exact List.mem_cons_of_mem _ List.mem_cons_self | exact List.mem_cons_of_mem _ (List.mem_cons_of_mem _ List.mem_cons_self))).trans (Drop.forget lzh3)) ?_
     have n1:=nd.1.1
     have n2:=nd.1.2.1
     have n3:=nd.2.1.1
     try simp only at n1 n2 n3
     refine xx ?_
     exact ⟨⟨h3,b3,b4,op,om,F,R,⟨ovs op s.purses.length,ovs om s.members.length,.slice ye s.entry.length ce,.slice yx s.exit.length cx,.slice yo s.pool.length co,.slice yd s.dues.length cd,.slice yt s.motions.length ct,.slice yk s.marks.length ck,.slice yr s.ring.length cr⟩,⟨.slice pa2 s.purses.length pc2,.slice ma2 s.members.length mc2,.slice ea2 s.entry.length ec2,.slice xa2 s.exit.length xc2,.slice oa2 s.pool.length oc2,.slice da2 s.dues.length dc2,.slice ta2 s.motions.length tc2,.slice ka2 s.marks.length kc2,.slice ra2 s.ring.length rc2⟩⟩,⟨lzh3,ok1,ok2,of.up le3,⟨⟨_,_,_,_,_,_,_,_,_,_,_,_,_,_,rfl⟩⟩,iu0,ap3,nd⟩,by simp [Ent,List.lookup],Drop.refl _ _⟩
    refine xx ?_
    refine xnew fun b3 n_b3 h_b3=>?_
    have nd:=nd_consZ (x:=⟨b3,39,stC zeroS nilV,41⟩) n_b3 nd
    try simp only [Apart] at n_b3
    refine xkp ((Drop.mem (by first | exact List.mem_cons_self | exact List.mem_cons_of_mem _ List.mem_cons_self | exact List.mem_cons_of_mem _ (List.mem_cons_of_mem _ List.mem_cons_self))).trans (Drop.forget lzh2)) ?_
    refine xx ?_
    refine Spec.ap (own24k_any (s:=s) ⟨.slice pa s.purses.length pc,.slice ma s.members.length mc,.slice ea s.entry.length ec,.slice xa s.exit.length xc,.slice oa s.pool.length oc,.slice da s.dues.length dc,.slice ta s.motions.length tc,.slice ka s.marks.length kc,.slice ra s.ring.length rc⟩ (hs.up (le1.trans lzh2)) few fun h3 u le3 iu ap3=>?_)
    have lzh3:PH.le h1 h3:=lzh2.trans le3
    have iu0:=iu
    obtain ⟨pa2,pc2,ma2,mc2,ea2,ec2,xa2,xc2,oa2,oc2,da2,dc2,ta2,tc2,ka2,kc2,ra2,rc2,rfl⟩:=iu.slices
    refine xkp ((Drop.mem (by first | exact List.mem_cons_self | exact List.mem_cons_of_mem _ List.mem_cons_self | exact List.mem_cons_of_mem _ (List.mem_cons_of_mem _ List.mem_cons_self))).trans (Drop.forget lzh3)) ?_
    have n1:=nd.1.1
    have n2:=nd.1.2.1
    have n3:=nd.2.1.1
    try simp only at n1 n2 n3
    refine xx ?_
    exact ⟨⟨h3,b3,b4,op,om,F,R,⟨ovs op s.purses.length,ovs om s.members.length,.slice ye s.entry.length ce,.slice yx s.exit.length cx,.slice yo s.pool.length co,.slice yd s.dues.length cd,.slice yt s.motions.length ct,.slice yk s.marks.length ck,.slice yr s.ring.length cr⟩,⟨.slice pa2 s.purses.length pc2,.slice ma2 s.members.length mc2,.slice ea2 s.entry.length ec2,.slice xa2 s.exit.length xc2,.slice oa2 s.pool.length oc2,.slice da2 s.dues.length dc2,.slice ta2 s.motions.length tc2,.slice ka2 s.marks.length kc2,.slice ra2 s.ring.length rc2⟩⟩,⟨lzh3,ok1,ok2,of.up le3,⟨⟨_,_,_,_,_,_,_,_,_,_,_,_,_,_,rfl⟩⟩,iu0,ap3,nd⟩,by simp [Ent,List.lookup],Drop.refl _ _⟩
   refine xx ?_
   refine xnew fun b3 n_b3 h_b3=>?_
   have nd:=nd_consZ (x:=⟨b3,39,stC zeroS nilV,41⟩) n_b3 nd
   try simp only [Apart] at n_b3
   refine xkp ((Drop.mem (by first | exact List.mem_cons_self | exact List.mem_cons_of_mem _ List.mem_cons_self | exact List.mem_cons_of_mem _ (List.mem_cons_of_mem _ List.mem_cons_self))).trans (Drop.forget lzh2)) ?_
   refine xx ?_
   refine xkp ((Drop.mem (by first | exact List.mem_cons_self | exact List.mem_cons_of_mem _ List.mem_cons_self | exact List.mem_cons_of_mem _ (List.mem_cons_of_mem _ List.mem_cons_self))).trans (Drop.forget lzh2)) ?_
   refine xx ?_
   refine Spec.ap (own24k_any (s:=s) ⟨.slice pa s.purses.length pc,.slice ma s.members.length mc,.slice ea s.entry.length ec,.slice xa s.exit.length xc,.slice oa s.pool.length oc,.slice da s.dues.length dc,.slice ta s.motions.length tc,.slice ka s.marks.length kc,.slice ra s.ring.length rc⟩ (hs.up (le1.trans lzh2)) few fun h3 u le3 iu ap3=>?_)
   have lzh3:PH.le h1 h3:=lzh2.trans le3
   have iu0:=iu
   obtain ⟨pa2,pc2,ma2,mc2,ea2,ec2,xa2,xc2,oa2,oc2,da2,dc2,ta2,tc2,ka2,kc2,ra2,rc2,rfl⟩:=iu.slices
   refine xkp ((Drop.mem (by first | exact List.mem_cons_self | exact List.mem_cons_of_mem _ List.mem_cons_self | exact List.mem_cons_of_mem _ (List.mem_cons_of_mem _ List.mem_cons_self))).trans (Drop.forget lzh3)) ?_
   have n1:=nd.1.1
   have n2:=nd.1.2.1
   have n3:=nd.2.1.1
   try simp only at n1 n2 n3
   refine xx ?_
   exact ⟨⟨h3,b3,b4,op,om,F,R,⟨ovs op s.purses.length,ovs om s.members.length,.slice ye s.entry.length ce,.slice yx s.exit.length cx,.slice yo s.pool.length co,.slice yd s.dues.length cd,.slice yt s.motions.length ct,.slice yk s.marks.length ck,.slice yr s.ring.length cr⟩,⟨.slice pa2 s.purses.length pc2,.slice ma2 s.members.length mc2,.slice ea2 s.entry.length ec2,.slice xa2 s.exit.length xc2,.slice oa2 s.pool.length oc2,.slice da2 s.dues.length dc2,.slice ta2 s.motions.length tc2,.slice ka2 s.marks.length kc2,.slice ra2 s.ring.length rc2⟩⟩,⟨lzh3,ok1,ok2,of.up le3,⟨⟨_,_,_,_,_,_,_,_,_,_,_,_,_,_,rfl⟩⟩,iu0,ap3,nd⟩,by simp [Ent,List.lookup],Drop.refl _ _⟩
  refine xpl_or ?_ ?_
  ·skip
   refine xx ?_
   refine xkp ((Drop.mem (by first | exact List.mem_cons_self | exact List.mem_cons_of_mem _ List.mem_cons_self | exact List.mem_cons_of_mem _ (List.mem_cons_of_mem _ List.mem_cons_self))).trans (Drop.refl _ _)) ?_
   refine xpl_or ?_ ?_
   ·skip
    refine xx ?_
    refine Spec.fin (Spec.apn (own24f_any (s:=s) ⟨.slice pa s.purses.length pc,.slice ma s.members.length mc,.slice ea s.entry.length ec,.slice xa s.exit.length xc,.slice oa s.pool.length oc,.slice da s.dues.length dc,.slice ta s.motions.length tc,.slice ka s.marks.length kc,.slice ra s.ring.length rc⟩ (hs.up (le1.trans (PH.le_refl h1))) few fun h2 op om F R ye yx yo yd yt yk yr ce cx co cd ct ck cr le2 ok1 ok2 of ap nd=>⟨_,_,Drop.perm _ (own_front1 _),?_⟩))
    have ap:=ap_perm (own_front1 _) ap
    have nd:=nd_perm (own_front1 _) nd
    have zb1:h2 b1=noC:=ap.1
    have lzh2:PH.le h1 h2:=le2
    refine xkp ((Drop.mem (by first | exact List.mem_cons_self | exact List.mem_cons_of_mem _ List.mem_cons_self | exact List.mem_cons_of_mem _ (List.mem_cons_of_mem _ List.mem_cons_self))).trans (Drop.forget lzh2)) ?_
    refine xpl_or ?_ ?_
    ·skip
     refine xx ?_
     refine Spec.ap (own24k_any (s:=s) ⟨.slice pa s.purses.length pc,.slice ma s.members.length mc,.slice ea s.entry.length ec,.slice xa s.exit.length xc,.slice oa s.pool.length oc,.slice da s.dues.length dc,.slice ta s.motions.length tc,.slice ka s.marks.length kc,.slice ra s.ring.length rc⟩ (hs.up (le1.trans lzh2)) few fun h3 u le3 iu ap3=>?_)
     have lzh3:PH.le h1 h3:=lzh2.trans le3
     have iu0:=iu
     obtain ⟨pa2,pc2,ma2,mc2,ea2,ec2,xa2,xc2,oa2,oc2,da2,dc2,ta2,tc2,ka2,kc2,ra2,rc2,rfl⟩:=iu.slices
     refine xkp ((Drop.mem (by first | exact List.mem_cons_self | exact List.mem_cons_of_mem _ List.mem_cons_self | exact List.mem_cons_of_mem _ (List.mem_cons_of_mem _ List.mem_cons_self))).trans (Drop.forget lzh3)) ?_
     refine xpl_or ?_ ?_
     ·skip
      refine xx ?_
      refine xnew fun b3 n_b3 h_b3=>?_
      have nd:=nd_consZ (x:=⟨b3,39,stC zeroS nilV,41⟩) n_b3 nd
      have ap3:=ap_consZ (x:=⟨b3,39,stC zeroS nilV,41⟩) h_b3 ap3
      try simp only [Apart] at n_b3
      refine xkp ((Drop.mem (by first | exact List.mem_cons_self | exact List.mem_cons_of_mem _ List.mem_cons_self | exact List.mem_cons_of_mem _ (List.mem_cons_of_mem _ List.mem_cons_self))).trans (Drop.forget lzh3)) ?_
      refine xx ?_
      refine xnew fun b4 n_b4 h_b4=>?_
      have nd:=nd_consZ (x:=⟨b4,39,stC zeroS nilV,41⟩) n_b4 nd
      have ap3:=ap_consZ (x:=⟨b4,39,stC zeroS nilV,41⟩) h_b4 ap3
      try simp only [Apart] at n_b4
      refine xkp ((Drop.mem (by first | exact List.mem_cons_self | exact List.mem_cons_of_mem _ List.mem_cons_self | exact List.mem_cons_of_mem _ (List.mem_cons_of_mem _ List.mem_cons_self))).trans (Drop.forget lzh3)) ?_
      have n1:=nd.1.1
      have n2:=nd.1.2.1
      have n3:=nd.2.1.1
      try simp only at n1 n2 n3
      refine xx ?_
      exact ⟨⟨h3,b3,b4,op,om,F,R,⟨ovs op s.purses.length,ovs om s.members.length,.slice ye s.entry.length ce,.slice yx s.exit.length cx,.slice yo s.pool.length co,.slice yd s.dues.length cd,.slice yt s.motions.length ct,.slice yk s.marks.length ck,.slice yr s.ring.length cr⟩,⟨.slice pa2 s.purses.length pc2,.slice ma2 s.members.length mc2,.slice ea2 s.entry.length ec2,.slice xa2 s.exit.length xc2,.slice oa2 s.pool.length oc2,.slice da2 s.dues.length dc2,.slice ta2 s.motions.length tc2,.slice ka2 s.marks.length kc2,.slice ra2 s.ring.length rc2⟩⟩,⟨lzh3,ok1,ok2,of.up le3,⟨⟨_,_,_,_,_,_,_,_,_,_,_,_,_,_,rfl⟩⟩,iu0,ap_perm (List.Perm.swap _ _ _) ap3,nd_perm (List.Perm.swap _ _ _) nd⟩,by simp [Ent,List.lookup],Drop.perm _ (List.Perm.swap _ _ _)⟩
     refine xx ?_
     refine xnew fun b4 n_b4 h_b4=>?_
     have nd:=nd_consZ (x:=⟨b4,39,stC zeroS nilV,41⟩) n_b4 nd
     have ap3:=ap_consZ (x:=⟨b4,39,stC zeroS nilV,41⟩) h_b4 ap3
     try simp only [Apart] at n_b4
     refine xkp ((Drop.mem (by first | exact List.mem_cons_self | exact List.mem_cons_of_mem _ List.mem_cons_self | exact List.mem_cons_of_mem _ (List.mem_cons_of_mem _ List.mem_cons_self))).trans (Drop.forget lzh3)) ?_
     refine xx ?_
     refine xnew fun b3 n_b3 h_b3=>?_
     have nd:=nd_consZ (x:=⟨b3,39,stC zeroS nilV,41⟩) n_b3 nd
     have ap3:=ap_consZ (x:=⟨b3,39,stC zeroS nilV,41⟩) h_b3 ap3
     try simp only [Apart] at n_b3
     refine xkp ((Drop.mem (by first | exact List.mem_cons_self | exact List.mem_cons_of_mem _ List.mem_cons_self | exact List.mem_cons_of_mem _ (List.mem_cons_of_mem _ List.mem_cons_self))).trans (Drop.forget lzh3)) ?_
     have n1:=nd.1.1
     have n2:=nd.1.2.1
     have n3:=nd.2.1.1
     try simp only at n1 n2 n3
     refine xx ?_
     exact ⟨⟨h3,b3,b4,op,om,F,R,⟨ovs op s.purses.length,ovs om s.members.length,.slice ye s.entry.length ce,.slice yx s.exit.length cx,.slice yo s.pool.length co,.slice yd s.dues.length cd,.slice yt s.motions.length ct,.slice yk s.marks.length ck,.slice yr s.ring.length cr⟩,⟨.slice pa2 s.purses.length pc2,.slice ma2 s.members.length mc2,.slice ea2 s.entry.length ec2,.slice xa2 s.exit.length xc2,.slice oa2 s.pool.length oc2,.slice da2 s.dues.length dc2,.slice ta2 s.motions.length tc2,.slice ka2 s.marks.length kc2,.slice ra2 s.ring.length rc2⟩⟩,⟨lzh3,ok1,ok2,of.up le3,⟨⟨_,_,_,_,_,_,_,_,_,_,_,_,_,_,rfl⟩⟩,iu0,ap3,nd⟩,by simp [Ent,List.lookup],Drop.refl _ _⟩
    refine xpl_or ?_ ?_
    ·skip
     refine xx ?_
     refine xnew fun b3 n_b3 h_b3=>?_
     have nd:=nd_consZ (x:=⟨b3,39,stC zeroS nilV,41⟩) n_b3 nd
     try simp only [Apart] at n_b3
     refine xkp ((Drop.mem (by first | exact List.mem_cons_self | exact List.mem_cons_of_mem _ List.mem_cons_self | exact List.mem_cons_of_mem _ (List.mem_cons_of_mem _ List.mem_cons_self))).trans (Drop.forget lzh2)) ?_
     refine xpl_or ?_ ?_
     ·skip
      refine xx ?_
      refine Spec.ap (own24k_any (s:=s) ⟨.slice pa s.purses.length pc,.slice ma s.members.length mc,.slice ea s.entry.length ec,.slice xa s.exit.length xc,.slice oa s.pool.length oc,.slice da s.dues.length dc,.slice ta s.motions.length tc,.slice ka s.marks.length kc,.slice ra s.ring.length rc⟩ (hs.up (le1.trans lzh2)) few fun h3 u le3 iu ap3=>?_)
      have lzh3:PH.le h1 h3:=lzh2.trans le3
      have iu0:=iu
      obtain ⟨pa2,pc2,ma2,mc2,ea2,ec2,xa2,xc2,oa2,oc2,da2,dc2,ta2,tc2,ka2,kc2,ra2,rc2,rfl⟩:=iu.slices
      refine xkp ((Drop.mem (by first | exact List.mem_cons_self | exact List.mem_cons_of_mem _ List.mem_cons_self | exact List.mem_cons_of_mem _ (List.mem_cons_of_mem _ List.mem_cons_self))).trans (Drop.forget lzh3)) ?_
      refine xx ?_
      refine xnew fun b4 n_b4 h_b4=>?_
      have nd:=nd_consZ (x:=⟨b4,39,stC zeroS nilV,41⟩) n_b4 nd
      have ap3:=ap_consZ (x:=⟨b4,39,stC zeroS nilV,41⟩) h_b4 ap3
      try simp only [Apart] at n_b4
      refine xkp ((Drop.mem (by first | exact List.mem_cons_self | exact List.mem_cons_of_mem _ List.mem_cons_self | exact List.mem_cons_of_mem _ (List.mem_cons_of_mem _ List.mem_cons_self))).trans (Drop.forget lzh3)) ?_
      have n1:=nd.1.1
      have n2:=nd.1.2.1
      have n3:=nd.2.1.1
      try simp only at n1 n2 n3
      refine xx ?_
      exact ⟨⟨h3,b3,b4,op,om,F,R,⟨ovs op s.purses.length,ovs om s.members.length,.slice ye s.entry.length ce,.slice yx s.exit.length cx,.slice yo s.pool.length co,.slice yd s.dues.length cd,.slice yt s.motions.length ct,.slice yk s.marks.length ck,.slice yr s.ring.length cr⟩,⟨.slice pa2 s.purses.length pc2,.slice ma2 s.members.length mc2,.slice ea2 s.entry.length ec2,.slice xa2 s.exit.length xc2,.slice oa2 s.pool.length oc2,.slice da2 s.dues.length dc2,.slice ta2 s.motions.length tc2,.slice ka2 s.marks.length kc2,.slice ra2 s.ring.length rc2⟩⟩,⟨lzh3,ok1,ok2,of.up le3,⟨⟨_,_,_,_,_,_,_,_,_,_,_,_,_,_,rfl⟩⟩,iu0,ap_perm (List.Perm.swap _ _ _) ap3,nd_perm (List.Perm.swap _ _ _) nd⟩,by simp [Ent,List.lookup],Drop.perm _ (List.Perm.swap _ _ _)⟩
     refine xx ?_
     refine xnew fun b4 n_b4 h_b4=>?_
     have nd:=nd_consZ (x:=⟨b4,39,stC zeroS nilV,41⟩) n_b4 nd
     try simp only [Apart] at n_b4
     refine xkp ((Drop.mem (by first | exact List.mem_cons_self | exact List.mem_cons_of_mem _ List.mem_cons_self | exact List.mem_cons_of_mem _ (List.mem_cons_of_mem _ List.mem_cons_self))).trans (Drop.forget lzh2)) ?_
     refine xx ?_
     refine Spec.ap (own24k_any (s:=s) ⟨.slice pa s.purses.length pc,.slice ma s.members.length mc,.slice ea s.entry.length ec,.slice xa s.exit.length xc,.slice oa s.pool.length oc,.slice da s.dues.length dc,.slice ta s.motions.length tc,.slice ka s.marks.length kc,.slice ra s.ring.length rc⟩ (hs.up (le1.trans lzh2)) few fun h3 u le3 iu ap3=>?_)
     have lzh3:PH.le h1 h3:=lzh2.trans le3
     have iu0:=iu
     obtain ⟨pa2,pc2,ma2,mc2,ea2,ec2,xa2,xc2,oa2,oc2,da2,dc2,ta2,tc2,ka2,kc2,ra2,rc2,rfl⟩:=iu.slices
     refine xkp ((Drop.mem (by first | exact List.mem_cons_self | exact List.mem_cons_of_mem _ List.mem_cons_self | exact List.mem_cons_of_mem _ (List.mem_cons_of_mem _ List.mem_cons_self))).trans (Drop.forget lzh3)) ?_
     have n1:=nd.1.1
     have n2:=nd.1.2.1
     have n3:=nd.2.1.1
     try simp only at n1 n2 n3
     refine xx ?_
     exact ⟨⟨h3,b3,b4,op,om,F,R,⟨ovs op s.purses.length,ovs om s.members.length,.slice ye s.entry.length ce,.slice yx s.exit.length cx,.slice yo s.pool.length co,.slice yd s.dues.length cd,.slice yt s.motions.length ct,.slice yk s.marks.length ck,.slice yr s.ring.length cr⟩,⟨.slice pa2 s.purses.length pc2,.slice ma2 s.members.length mc2,.slice ea2 s.entry.length ec2,.slice xa2 s.exit.length xc2,.slice oa2 s.pool.length oc2,.slice da2 s.dues.length dc2,.slice ta2 s.motions.length tc2,.slice ka2 s.marks.length kc2,.slice ra2 s.ring.length rc2⟩⟩,⟨lzh3,ok1,ok2,of.up le3,⟨⟨_,_,_,_,_,_,_,_,_,_,_,_,_,_,rfl⟩⟩,iu0,ap_perm (List.Perm.swap _ _ _) ap3,nd_perm (List.Perm.swap _ _ _) nd⟩,by simp [Ent,List.lookup],Drop.perm _ (List.Perm.swap _ _ _)⟩
    refine xx ?_
    refine xnew fun b4 n_b4 h_b4=>?_
    have nd:=nd_consZ (x:=⟨b4,39,stC zeroS nilV,41⟩) n_b4 nd
    try simp only [Apart] at n_b4
    refine xkp ((Drop.mem (by first | exact List.mem_cons_self | exact List.mem_cons_of_mem _ List.mem_cons_self | exact List.mem_cons_of_mem _ (List.mem_cons_of_mem _ List.mem_cons_self))).trans (Drop.forget lzh2)) ?_
    refine xpl_or ?_ ?_
    ·skip
     refine xx ?_
     refine Spec.ap (own24k_any (s:=s) ⟨.slice pa s.purses.length pc,.slice ma s.members.length mc,.slice ea s.entry.length ec,.slice xa s.exit.length xc,.slice oa s.pool.length oc,.slice da s.dues.length dc,.slice ta s.motions.length tc,.slice ka s.marks.length kc,.slice ra s.ring.length rc⟩ (hs.up (le1.trans lzh2)) few fun h3 u le3 iu ap3=>?_)
     have lzh3:PH.le h1 h3:=lzh2.trans le3
     have iu0:=iu
     obtain ⟨pa2,pc2,ma2,mc2,ea2,ec2,xa2,xc2,oa2,oc2,da2,dc2,ta2,tc2,ka2,kc2,ra2,rc2,rfl⟩:=iu.slices
     refine xkp ((Drop.mem (by first | exact List.mem_cons_self | exact List.mem_cons_of_mem _ List.mem_cons_self | exact List.mem_cons_of_mem _ (List.mem_cons_of_mem _ List.mem_cons_self))).trans (Drop.forget lzh3)) ?_
     refine xx ?_
     refine xnew fun b3 n_b3 h_b3=>?_
     have nd:=nd_consZ (x:=⟨b3,39,stC zeroS nilV,41⟩) n_b3 nd
     have ap3:=ap_consZ (x:=⟨b3,39,stC zeroS nilV,41⟩) h_b3 ap3
     try simp only [Apart] at n_b3
     refine xkp ((Drop.mem (by first | exact List.mem_cons_self | exact List.mem_cons_of_mem _ List.mem_cons_self | exact List.mem_cons_of_mem _ (List.mem_cons_of_mem _ List.mem_cons_self))).trans (Drop.forget lzh3)) ?_
     have n1:=nd.1.1
     have n2:=nd.1.2.1
     have n3:=nd.2.1.1
     try simp only at n1 n2 n3
     refine xx ?_
     exact ⟨⟨h3,b3,b4,op,om,F,R,⟨ovs op s.purses.length,ovs om s.members.length,.slice ye s.entry.length ce,.slice yx s.exit.length cx,.slice yo s.pool.length co,.slice yd s.dues.length cd,.slice yt s.motions.length ct,.slice yk s.marks.length ck,.slice yr s.ring.length cr⟩,⟨.slice pa2 s.purses.length pc2,.slice ma2 s.members.length mc2,.slice ea2 s.entry.length ec2,.slice xa2 s.exit.length xc2,.slice oa2 s.pool.length oc2,.slice da2 s.dues.length dc2,.slice ta2 s.motions.length tc2,.slice ka2 s.marks.length kc2,.slice ra2 s.ring.length rc2⟩⟩,⟨lzh3,ok1,ok2,of.up le3,⟨⟨_,_,_,_,_,_,_,_,_,_,_,_,_,_,rfl⟩⟩,iu0,ap3,nd⟩,by simp [Ent,List.lookup],Drop.refl _ _⟩
    refine xx ?_
    refine xnew fun b3 n_b3 h_b3=>?_
    have nd:=nd_consZ (x:=⟨b3,39,stC zeroS nilV,41⟩) n_b3 nd
    try simp only [Apart] at n_b3
    refine xkp ((Drop.mem (by first | exact List.mem_cons_self | exact List.mem_cons_of_mem _ List.mem_cons_self | exact List.mem_cons_of_mem _ (List.mem_cons_of_mem _ List.mem_cons_self))).trans (Drop.forget lzh2)) ?_
    refine xx ?_
    refine Spec.ap (own24k_any (s:=s) ⟨.slice pa s.purses.length pc,.slice ma s.members.length mc,.slice ea s.entry.length ec,.slice xa s.exit.length xc,.slice oa s.pool.length oc,.slice da s.dues.length dc,.slice ta s.motions.length tc,.slice ka s.marks.length kc,.slice ra s.ring.length rc⟩ (hs.up (le1.trans lzh2)) few fun h3 u le3 iu ap3=>?_)
    have lzh3:PH.le h1 h3:=lzh2.trans le3
    have iu0:=iu
    obtain ⟨pa2,pc2,ma2,mc2,ea2,ec2,xa2,xc2,oa2,oc2,da2,dc2,ta2,tc2,ka2,kc2,ra2,rc2,rfl⟩:=iu.slices
    refine xkp ((Drop.mem (by first | exact List.mem_cons_self | exact List.mem_cons_of_mem _ List.mem_cons_self | exact List.mem_cons_of_mem _ (List.mem_cons_of_mem _ List.mem_cons_self))).trans (Drop.forget lzh3)) ?_
    have n1:=nd.1.1
    have n2:=nd.1.2.1
    have n3:=nd.2.1.1
    try simp only at n1 n2 n3
    refine xx ?_
    exact ⟨⟨h3,b3,b4,op,om,F,R,⟨ovs op s.purses.length,ovs om s.members.length,.slice ye s.entry.length ce,.slice yx s.exit.length cx,.slice yo s.pool.length co,.slice yd s.dues.length cd,.slice yt s.motions.length ct,.slice yk s.marks.length ck,.slice yr s.ring.length cr⟩,⟨.slice pa2 s.purses.length pc2,.slice ma2 s.members.length mc2,.slice ea2 s.entry.length ec2,.slice xa2 s.exit.length xc2,.slice oa2 s.pool.length oc2,.slice da2 s.dues.length dc2,.slice ta2 s.motions.length tc2,.slice ka2 s.marks.length kc2,.slice ra2 s.ring.length rc2⟩⟩,⟨lzh3,ok1,ok2,of.up le3,⟨⟨_,_,_,_,_,_,_,_,_,_,_,_,_,_,rfl⟩⟩,iu0,ap3,nd⟩,by simp [Ent,List.lookup],Drop.refl _ _⟩
   refine xpl_or ?_ ?_
   ·skip
    refine xx ?_
    refine xnew fun b3 n_b3 h_b3=>?_
    try simp only [Apart] at n_b3
    refine xkp ((Drop.mem (by first | exact List.mem_cons_self | exact List.mem_cons_of_mem _ List.mem_cons_self | exact List.mem_cons_of_mem _ (List.mem_cons_of_mem _ List.mem_cons_self))).trans (Drop.refl _ _)) ?_
    refine xpl_or ?_ ?_
    ·skip
     refine xx ?_
     refine Spec.fin (Spec.apn (own24f_any (s:=s) ⟨.slice pa s.purses.length pc,.slice ma s.members.length mc,.slice ea s.entry.length ec,.slice xa s.exit.length xc,.slice oa s.pool.length oc,.slice da s.dues.length dc,.slice ta s.motions.length tc,.slice ka s.marks.length kc,.slice ra s.ring.length rc⟩ (hs.up (le1.trans (PH.le_refl h1))) few fun h2 op om F R ye yx yo yd yt yk yr ce cx co cd ct ck cr le2 ok1 ok2 of ap nd=>⟨_,_,Drop.perm _ (own_front2 _ _),?_⟩))
     have ap:=ap_perm (own_front2 _ _) ap
     have nd:=nd_perm (own_front2 _ _) nd
     have zb1:h2 b1=noC:=ap.2.1
     have lzh2:PH.le h1 h2:=le2
     refine xkp ((Drop.mem (by first | exact List.mem_cons_self | exact List.mem_cons_of_mem _ List.mem_cons_self | exact List.mem_cons_of_mem _ (List.mem_cons_of_mem _ List.mem_cons_self))).trans (Drop.forget lzh2)) ?_
     refine xpl_or ?_ ?_
     ·skip
      refine xx ?_
      refine Spec.ap (own24k_any (s:=s) ⟨.slice pa s.purses.length pc,.slice ma s.members.length mc,.slice ea s.entry.length ec,.slice xa s.exit.length xc,.slice oa s.pool.length oc,.slice da s.dues.length dc,.slice ta s.motions.length tc,.slice ka s.marks.length kc,.slice ra s.ring.length rc⟩ (hs.up (le1.trans lzh2)) few fun h3 u le3 iu ap3=>?_)
      have lzh3:PH.le h1 h3:=lzh2.trans le3
      have iu0:=iu
      obtain ⟨pa2,pc2,ma2,mc2,ea2,ec2,xa2,xc2,oa2,oc2,da2,dc2,ta2,tc2,ka2,kc2,ra2,rc2,rfl⟩:=iu.slices
      refine xkp ((Drop.mem (by first | exact List.mem_cons_self | exact List.mem_cons_of_mem _ List.mem_cons_self | exact List.mem_cons_of_mem _ (List.mem_cons_of_mem _ List.mem_cons_self))).trans (Drop.forget lzh3)) ?_
      refine xx ?_
      refine xnew fun b4 n_b4 h_b4=>?_
      have nd:=nd_consZ (x:=⟨b4,39,stC zeroS nilV,41⟩) n_b4 nd
      have ap3:=ap_consZ (x:=⟨b4,39,stC zeroS nilV,41⟩) h_b4 ap3
      try simp only [Apart] at n_b4
      refine xkp ((Drop.mem (by first | exact List.mem_cons_self | exact List.mem_cons_of_mem _ List.mem_cons_self | exact List.mem_cons_of_mem _ (List.mem_cons_of_mem _ List.mem_cons_self))).trans (Drop.forget lzh3)) ?_
      have n1:=nd.1.1
      have n2:=nd.1.2.1
      have n3:=nd.2.1.1
      try simp only at n1 n2 n3
      refine xx ?_
      exact ⟨⟨h3,b3,b4,op,om,F,R,⟨ovs op s.purses.length,ovs om s.members.length,.slice ye s.entry.length ce,.slice yx s.exit.length cx,.slice yo s.pool.length co,.slice yd s.dues.length cd,.slice yt s.motions.length ct,.slice yk s.marks.length ck,.slice yr s.ring.length cr⟩,⟨.slice pa2 s.purses.length pc2,.slice ma2 s.members.length mc2,.slice ea2 s.entry.length ec2,.slice xa2 s.exit.length xc2,.slice oa2 s.pool.length oc2,.slice da2 s.dues.length dc2,.slice ta2 s.motions.length tc2,.slice ka2 s.marks.length kc2,.slice ra2 s.ring.length rc2⟩⟩,⟨lzh3,ok1,ok2,of.up le3,⟨⟨_,_,_,_,_,_,_,_,_,_,_,_,_,_,rfl⟩⟩,iu0,ap_perm (List.Perm.swap _ _ _) ap3,nd_perm (List.Perm.swap _ _ _) nd⟩,by simp [Ent,List.lookup],Drop.perm _ (List.Perm.swap _ _ _)⟩
     refine xx ?_
     refine xnew fun b4 n_b4 h_b4=>?_
     have nd:=nd_consZ (x:=⟨b4,39,stC zeroS nilV,41⟩) n_b4 nd
     try simp only [Apart] at n_b4
     refine xkp ((Drop.mem (by first | exact List.mem_cons_self | exact List.mem_cons_of_mem _ List.mem_cons_self | exact List.mem_cons_of_mem _ (List.mem_cons_of_mem _ List.mem_cons_self))).trans (Drop.forget lzh2)) ?_
     refine xx ?_
     refine Spec.ap (own24k_any (s:=s) ⟨.slice pa s.purses.length pc,.slice ma s.members.length mc,.slice ea s.entry.length ec,.slice xa s.exit.length xc,.slice oa s.pool.length oc,.slice da s.dues.length dc,.slice ta s.motions.length tc,.slice ka s.marks.length kc,.slice ra s.ring.length rc⟩ (hs.up (le1.trans lzh2)) few fun h3 u le3 iu ap3=>?_)
     have lzh3:PH.le h1 h3:=lzh2.trans le3
     have iu0:=iu
     obtain ⟨pa2,pc2,ma2,mc2,ea2,ec2,xa2,xc2,oa2,oc2,da2,dc2,ta2,tc2,ka2,kc2,ra2,rc2,rfl⟩:=iu.slices
     refine xkp ((Drop.mem (by first | exact List.mem_cons_self | exact List.mem_cons_of_mem _ List.mem_cons_self | exact List.mem_cons_of_mem _ (List.mem_cons_of_mem _ List.mem_cons_self))).trans (Drop.forget lzh3)) ?_
     have n1:=nd.1.1
     have n2:=nd.1.2.1
     have n3:=nd.2.1.1
     try simp only at n1 n2 n3
     refine xx ?_
     exact ⟨⟨h3,b3,b4,op,om,F,R,⟨ovs op s.purses.length,ovs om s.members.length,.slice ye s.entry.length ce,.slice yx s.exit.length cx,.slice yo s.pool.length co,.slice yd s.dues.length cd,.slice yt s.motions.length ct,.slice yk s.marks.length ck,.slice yr s.ring.length cr⟩,⟨.slice pa2 s.purses.length pc2,.slice ma2 s.members.length mc2,.slice ea2 s.entry.length ec2,.slice xa2 s.exit.length xc2,.slice oa2 s.pool.length oc2,.slice da2 s.dues.length dc2,.slice ta2 s.motions.length tc2,.slice ka2 s.marks.length kc2,.slice ra2 s.ring.length rc2⟩⟩,⟨lzh3,ok1,ok2,of.up le3,⟨⟨_,_,_,_,_,_,_,_,_,_,_,_,_,_,rfl⟩⟩,iu0,ap_perm (List.Perm.swap _ _ _) ap3,nd_perm (List.Perm.swap _ _ _) nd⟩,by simp [Ent,List.lookup],Drop.perm _ (List.Perm.swap _ _ _)⟩
    refine xx ?_
    refine xnew fun b4 n_b4 h_b4=>?_
    try simp only [Apart] at n_b4
    refine xkp ((Drop.mem (by first | exact List.mem_cons_self | exact List.mem_cons_of_mem _ List.mem_cons_self | exact List.mem_cons_of_mem _ (List.mem_cons_of_mem _ List.mem_cons_self))).trans (Drop.refl _ _)) ?_
    refine xx ?_
    refine Spec.fin (Spec.apn (own24f_any (s:=s) ⟨.slice pa s.purses.length pc,.slice ma s.members.length mc,.slice ea s.entry.length ec,.slice xa s.exit.length xc,.slice oa s.pool.length oc,.slice da s.dues.length dc,.slice ta s.motions.length tc,.slice ka s.marks.length kc,.slice ra s.ring.length rc⟩ (hs.up (le1.trans (PH.le_refl h1))) few fun h2 op om F R ye yx yo yd yt yk yr ce cx co cd ct ck cr le2 ok1 ok2 of ap nd=>⟨_,_,Drop.perm _ (own_front3 _ _ _),?_⟩))
    have ap:=ap_perm (own_front3 _ _ _) ap
    have nd:=nd_perm (own_front3 _ _ _) nd
    have zb1:h2 b1=noC:=ap.2.2.1
    have lzh2:PH.le h1 h2:=le2
    refine xkp ((Drop.mem (by first | exact List.mem_cons_self | exact List.mem_cons_of_mem _ List.mem_cons_self | exact List.mem_cons_of_mem _ (List.mem_cons_of_mem _ List.mem_cons_self))).trans (Drop.forget lzh2)) ?_
    refine xx ?_
    refine Spec.ap (own24k_any (s:=s) ⟨.slice pa s.purses.length pc,.slice ma s.members.length mc,.slice ea s.entry.length ec,.slice xa s.exit.length xc,.slice oa s.pool.length oc,.slice da s.dues.length dc,.slice ta s.motions.length tc,.slice ka s.marks.length kc,.slice ra s.ring.length rc⟩ (hs.up (le1.trans lzh2)) few fun h3 u le3 iu ap3=>?_)
    have lzh3:PH.le h1 h3:=lzh2.trans le3
    have iu0:=iu
    obtain ⟨pa2,pc2,ma2,mc2,ea2,ec2,xa2,xc2,oa2,oc2,da2,dc2,ta2,tc2,ka2,kc2,ra2,rc2,rfl⟩:=iu.slices
    refine xkp ((Drop.mem (by first | exact List.mem_cons_self | exact List.mem_cons_of_mem _ List.mem_cons_self | exact List.mem_cons_of_mem _ (List.mem_cons_of_mem _ List.mem_cons_self))).trans (Drop.forget lzh3)) ?_
    have n1:=nd.1.1
    have n2:=nd.1.2.1
    have n3:=nd.2.1.1
    try simp only at n1 n2 n3
    refine xx ?_
    exact ⟨⟨h3,b3,b4,op,om,F,R,⟨ovs op s.purses.length,ovs om s.members.length,.slice ye s.entry.length ce,.slice yx s.exit.length cx,.slice yo s.pool.length co,.slice yd s.dues.length cd,.slice yt s.motions.length ct,.slice yk s.marks.length ck,.slice yr s.ring.length cr⟩,⟨.slice pa2 s.purses.length pc2,.slice ma2 s.members.length mc2,.slice ea2 s.entry.length ec2,.slice xa2 s.exit.length xc2,.slice oa2 s.pool.length oc2,.slice da2 s.dues.length dc2,.slice ta2 s.motions.length tc2,.slice ka2 s.marks.length kc2,.slice ra2 s.ring.length rc2⟩⟩,⟨lzh3,ok1,ok2,of.up le3,⟨⟨_,_,_,_,_,_,_,_,_,_,_,_,_,_,rfl⟩⟩,iu0,ap_perm (List.Perm.swap _ _ _) ap3,nd_perm (List.Perm.swap _ _ _) nd⟩,by simp [Ent,List.lookup],Drop.perm _ (List.Perm.swap _ _ _)⟩
   refine xx ?_
   refine xnew fun b4 n_b4 h_b4=>?_
   try simp only [Apart] at n_b4
   refine xkp ((Drop.mem (by first | exact List.mem_cons_self | exact List.mem_cons_of_mem _ List.mem_cons_self | exact List.mem_cons_of_mem _ (List.mem_cons_of_mem _ List.mem_cons_self))).trans (Drop.refl _ _)) ?_
   refine xpl_or ?_ ?_
   ·skip
    refine xx ?_
    refine Spec.fin (Spec.apn (own24f_any (s:=s) ⟨.slice pa s.purses.length pc,.slice ma s.members.length mc,.slice ea s.entry.length ec,.slice xa s.exit.length xc,.slice oa s.pool.length oc,.slice da s.dues.length dc,.slice ta s.motions.length tc,.slice ka s.marks.length kc,.slice ra s.ring.length rc⟩ (hs.up (le1.trans (PH.le_refl h1))) few fun h2 op om F R ye yx yo yd yt yk yr ce cx co cd ct ck cr le2 ok1 ok2 of ap nd=>⟨_,_,Drop.perm _ (own_front2 _ _),?_⟩))
    have ap:=ap_perm (own_front2 _ _) ap
    have nd:=nd_perm (own_front2 _ _) nd
    have zb1:h2 b1=noC:=ap.2.1
    have lzh2:PH.le h1 h2:=le2
    refine xkp ((Drop.mem (by first | exact List.mem_cons_self | exact List.mem_cons_of_mem _ List.mem_cons_self | exact List.mem_cons_of_mem _ (List.mem_cons_of_mem _ List.mem_cons_self))).trans (Drop.forget lzh2)) ?_
    refine xpl_or ?_ ?_
    ·skip
     refine xx ?_
     refine Spec.ap (own24k_any (s:=s) ⟨.slice pa s.purses.length pc,.slice ma s.members.length mc,.slice ea s.entry.length ec,.slice xa s.exit.length xc,.slice oa s.pool.length oc,.slice da s.dues.length dc,.slice ta s.motions.length tc,.slice ka s.marks.length kc,.slice ra s.ring.length rc⟩ (hs.up (le1.trans lzh2)) few fun h3 u le3 iu ap3=>?_)
     have lzh3:PH.le h1 h3:=lzh2.trans le3
     have iu0:=iu
     obtain ⟨pa2,pc2,ma2,mc2,ea2,ec2,xa2,xc2,oa2,oc2,da2,dc2,ta2,tc2,ka2,kc2,ra2,rc2,rfl⟩:=iu.slices
     refine xkp ((Drop.mem (by first | exact List.mem_cons_self | exact List.mem_cons_of_mem _ List.mem_cons_self | exact List.mem_cons_of_mem _ (List.mem_cons_of_mem _ List.mem_cons_self))).trans (Drop.forget lzh3)) ?_
     refine xx ?_
     refine xnew fun b3 n_b3 h_b3=>?_
     have nd:=nd_consZ (x:=⟨b3,39,stC zeroS nilV,41⟩) n_b3 nd
     have ap3:=ap_consZ (x:=⟨b3,39,stC zeroS nilV,41⟩) h_b3 ap3
     try simp only [Apart] at n_b3
     refine xkp ((Drop.mem (by first | exact List.mem_cons_self | exact List.mem_cons_of_mem _ List.mem_cons_self | exact List.mem_cons_of_mem _ (List.mem_cons_of_mem _ List.mem_cons_self))).trans (Drop.forget lzh3)) ?_
     have n1:=nd.1.1
     have n2:=nd.1.2.1
     have n3:=nd.2.1.1
     try simp only at n1 n2 n3
     refine xx ?_
     exact ⟨⟨h3,b3,b4,op,om,F,R,⟨ovs op s.purses.length,ovs om s.members.length,.slice ye s.entry.length ce,.slice yx s.exit.length cx,.slice yo s.pool.length co,.slice yd s.dues.length cd,.slice yt s.motions.length ct,.slice yk s.marks.length ck,.slice yr s.ring.length cr⟩,⟨.slice pa2 s.purses.length pc2,.slice ma2 s.members.length mc2,.slice ea2 s.entry.length ec2,.slice xa2 s.exit.length xc2,.slice oa2 s.pool.length oc2,.slice da2 s.dues.length dc2,.slice ta2 s.motions.length tc2,.slice ka2 s.marks.length kc2,.slice ra2 s.ring.length rc2⟩⟩,⟨lzh3,ok1,ok2,of.up le3,⟨⟨_,_,_,_,_,_,_,_,_,_,_,_,_,_,rfl⟩⟩,iu0,ap3,nd⟩,by simp [Ent,List.lookup],Drop.refl _ _⟩
    refine xx ?_
    refine xnew fun b3 n_b3 h_b3=>?_
    have nd:=nd_consZ (x:=⟨b3,39,stC zeroS nilV,41⟩) n_b3 nd
    try simp only [Apart] at n_b3
    refine xkp ((Drop.mem (by first | exact List.mem_cons_self | exact List.mem_cons_of_mem _ List.mem_cons_self | exact List.mem_cons_of_mem _ (List.mem_cons_of_mem _ List.mem_cons_self))).trans (Drop.forget lzh2)) ?_
    refine xx ?_
    refine Spec.ap (own24k_any (s:=s) ⟨.slice pa s.purses.length pc,.slice ma s.members.length mc,.slice ea s.entry.length ec,.slice xa s.exit.length xc,.slice oa s.pool.length oc,.slice da s.dues.length dc,.slice ta s.motions.length tc,.slice ka s.marks.length kc,.slice ra s.ring.length rc⟩ (hs.up (le1.trans lzh2)) few fun h3 u le3 iu ap3=>?_)
    have lzh3:PH.le h1 h3:=lzh2.trans le3
    have iu0:=iu
    obtain ⟨pa2,pc2,ma2,mc2,ea2,ec2,xa2,xc2,oa2,oc2,da2,dc2,ta2,tc2,ka2,kc2,ra2,rc2,rfl⟩:=iu.slices
    refine xkp ((Drop.mem (by first | exact List.mem_cons_self | exact List.mem_cons_of_mem _ List.mem_cons_self | exact List.mem_cons_of_mem _ (List.mem_cons_of_mem _ List.mem_cons_self))).trans (Drop.forget lzh3)) ?_
    have n1:=nd.1.1
    have n2:=nd.1.2.1
    have n3:=nd.2.1.1
    try simp only at n1 n2 n3
    refine xx ?_
    exact ⟨⟨h3,b3,b4,op,om,F,R,⟨ovs op s.purses.length,ovs om s.members.length,.slice ye s.entry.length ce,.slice yx s.exit.length cx,.slice yo s.pool.length co,.slice yd s.dues.length cd,.slice yt s.motions.length ct,.slice yk s.marks.length ck,.slice yr s.ring.length cr⟩,⟨.slice pa2 s.purses.length pc2,.slice ma2 s.members.length mc2,.slice ea2 s.entry.length ec2,.slice xa2 s.exit.length xc2,.slice oa2 s.pool.length oc2,.slice da2 s.dues.length dc2,.slice ta2 s.motions.length tc2,.slice ka2 s.marks.length kc2,.slice ra2 s.ring.length rc2⟩⟩,⟨lzh3,ok1,ok2,of.up le3,⟨⟨_,_,_,_,_,_,_,_,_,_,_,_,_,_,rfl⟩⟩,iu0,ap3,nd⟩,by simp [Ent,List.lookup],Drop.refl _ _⟩
   refine xx ?_
   refine xnew fun b3 n_b3 h_b3=>?_
   try simp only [Apart] at n_b3
   refine xkp ((Drop.mem (by first | exact List.mem_cons_self | exact List.mem_cons_of_mem _ List.mem_cons_self | exact List.mem_cons_of_mem _ (List.mem_cons_of_mem _ List.mem_cons_self))).trans (Drop.refl _ _)) ?_
   refine xx ?_
   refine Spec.fin (Spec.apn (own24f_any (s:=s) ⟨.slice pa s.purses.length pc,.slice ma s.members.length mc,.slice ea s.entry.length ec,.slice xa s.exit.length xc,.slice oa s.pool.length oc,.slice da s.dues.length dc,.slice ta s.motions.length tc,.slice ka s.marks.length kc,.slice ra s.ring.length rc⟩ (hs.up (le1.trans (PH.le_refl h1))) few fun h2 op om F R ye yx yo yd yt yk yr ce cx co cd ct ck cr le2 ok1 ok2 of ap nd=>⟨_,_,Drop.perm _ (own_front3 _ _ _),?_⟩))
   have ap:=ap_perm (own_front3 _ _ _) ap
   have nd:=nd_perm (own_front3 _ _ _) nd
   have zb1:h2 b1=noC:=ap.2.2.1
   have lzh2:PH.le h1 h2:=le2
   refine xkp ((Drop.mem (by first | exact List.mem_cons_self | exact List.mem_cons_of_mem _ List.mem_cons_self | exact List.mem_cons_of_mem _ (List.mem_cons_of_mem _ List.mem_cons_self))).trans (Drop.forget lzh2)) ?_
   refine xx ?_
   refine Spec.ap (own24k_any (s:=s) ⟨.slice pa s.purses.length pc,.slice ma s.members.length mc,.slice ea s.entry.length ec,.slice xa s.exit.length xc,.slice oa s.pool.length oc,.slice da s.dues.length dc,.slice ta s.motions.length tc,.slice ka s.marks.length kc,.slice ra s.ring.length rc⟩ (hs.up (le1.trans lzh2)) few fun h3 u le3 iu ap3=>?_)
   have lzh3:PH.le h1 h3:=lzh2.trans le3
   have iu0:=iu
   obtain ⟨pa2,pc2,ma2,mc2,ea2,ec2,xa2,xc2,oa2,oc2,da2,dc2,ta2,tc2,ka2,kc2,ra2,rc2,rfl⟩:=iu.slices
   refine xkp ((Drop.mem (by first | exact List.mem_cons_self | exact List.mem_cons_of_mem _ List.mem_cons_self | exact List.mem_cons_of_mem _ (List.mem_cons_of_mem _ List.mem_cons_self))).trans (Drop.forget lzh3)) ?_
   have n1:=nd.1.1
   have n2:=nd.1.2.1
   have n3:=nd.2.1.1
   try simp only at n1 n2 n3
   refine xx ?_
   exact ⟨⟨h3,b3,b4,op,om,F,R,⟨ovs op s.purses.length,ovs om s.members.length,.slice ye s.entry.length ce,.slice yx s.exit.length cx,.slice yo s.pool.length co,.slice yd s.dues.length cd,.slice yt s.motions.length ct,.slice yk s.marks.length ck,.slice yr s.ring.length cr⟩,⟨.slice pa2 s.purses.length pc2,.slice ma2 s.members.length mc2,.slice ea2 s.entry.length ec2,.slice xa2 s.exit.length xc2,.slice oa2 s.pool.length oc2,.slice da2 s.dues.length dc2,.slice ta2 s.motions.length tc2,.slice ka2 s.marks.length kc2,.slice ra2 s.ring.length rc2⟩⟩,⟨lzh3,ok1,ok2,of.up le3,⟨⟨_,_,_,_,_,_,_,_,_,_,_,_,_,_,rfl⟩⟩,iu0,ap3,nd⟩,by simp [Ent,List.lookup],Drop.refl _ _⟩
  refine xpl_or ?_ ?_
  ·skip
   refine xx ?_
   refine xnew fun b3 n_b3 h_b3=>?_
   try simp only [Apart] at n_b3
   refine xkp ((Drop.mem (by first | exact List.mem_cons_self | exact List.mem_cons_of_mem _ List.mem_cons_self | exact List.mem_cons_of_mem _ (List.mem_cons_of_mem _ List.mem_cons_self))).trans (Drop.refl _ _)) ?_
   refine xpl_or ?_ ?_
   ·skip
    refine xx ?_
    refine Spec.fin (Spec.apn (own24f_any (s:=s) ⟨.slice pa s.purses.length pc,.slice ma s.members.length mc,.slice ea s.entry.length ec,.slice xa s.exit.length xc,.slice oa s.pool.length oc,.slice da s.dues.length dc,.slice ta s.motions.length tc,.slice ka s.marks.length kc,.slice ra s.ring.length rc⟩ (hs.up (le1.trans (PH.le_refl h1))) few fun h2 op om F R ye yx yo yd yt yk yr ce cx co cd ct ck cr le2 ok1 ok2 of ap nd=>⟨_,_,Drop.perm _ (own_front2 _ _),?_⟩))
    have ap:=ap_perm (own_front2 _ _) ap
    have nd:=nd_perm (own_front2 _ _) nd
    have zb1:h2 b1=noC:=ap.2.1
    have lzh2:PH.le h1 h2:=le2
    refine xkp ((Drop.mem (by first | exact List.mem_cons_self | exact List.mem_cons_of_mem _ List.mem_cons_self | exact List.mem_cons_of_mem _ (List.mem_cons_of_mem _ List.mem_cons_self))).trans (Drop.forget lzh2)) ?_
    refine xpl_or ?_ ?_
    ·skip
     refine xx ?_
     refine xkp ((Drop.mem (by first | exact List.mem_cons_self | exact List.mem_cons_of_mem _ List.mem_cons_self | exact List.mem_cons_of_mem _ (List.mem_cons_of_mem _ List.mem_cons_self))).trans (Drop.forget lzh2)) ?_
     refine xpl_or ?_ ?_
     ·skip
      refine xx ?_
      refine Spec.ap (own24k_any (s:=s) ⟨.slice pa s.purses.length pc,.slice ma s.members.length mc,.slice ea s.entry.length ec,.slice xa s.exit.length xc,.slice oa s.pool.length oc,.slice da s.dues.length dc,.slice ta s.motions.length tc,.slice ka s.marks.length kc,.slice ra s.ring.length rc⟩ (hs.up (le1.trans lzh2)) few fun h3 u le3 iu ap3=>?_)
      have lzh3:PH.le h1 h3:=lzh2.trans le3
      have iu0:=iu
      obtain ⟨pa2,pc2,ma2,mc2,ea2,ec2,xa2,xc2,oa2,oc2,da2,dc2,ta2,tc2,ka2,kc2,ra2,rc2,rfl⟩:=iu.slices
      refine xkp ((Drop.mem (by first | exact List.mem_cons_self | exact List.mem_cons_of_mem _ List.mem_cons_self | exact List.mem_cons_of_mem _ (List.mem_cons_of_mem _ List.mem_cons_self))).trans (Drop.forget lzh3)) ?_
      refine xx ?_
      refine xnew fun b4 n_b4 h_b4=>?_
      have nd:=nd_consZ (x:=⟨b4,39,stC zeroS nilV,41⟩) n_b4 nd
      have ap3:=ap_consZ (x:=⟨b4,39,stC zeroS nilV,41⟩) h_b4 ap3
      try simp only [Apart] at n_b4
      refine xkp ((Drop.mem (by first | exact List.mem_cons_self | exact List.mem_cons_of_mem _ List.mem_cons_self | exact List.mem_cons_of_mem _ (List.mem_cons_of_mem _ List.mem_cons_self))).trans (Drop.forget lzh3)) ?_
      have n1:=nd.1.1
      have n2:=nd.1.2.1
      have n3:=nd.2.1.1
      try simp only at n1 n2 n3
      refine xx ?_
      exact ⟨⟨h3,b3,b4,op,om,F,R,⟨ovs op s.purses.length,ovs om s.members.length,.slice ye s.entry.length ce,.slice yx s.exit.length cx,.slice yo s.pool.length co,.slice yd s.dues.length cd,.slice yt s.motions.length ct,.slice yk s.marks.length ck,.slice yr s.ring.length cr⟩,⟨.slice pa2 s.purses.length pc2,.slice ma2 s.members.length mc2,.slice ea2 s.entry.length ec2,.slice xa2 s.exit.length xc2,.slice oa2 s.pool.length oc2,.slice da2 s.dues.length dc2,.slice ta2 s.motions.length tc2,.slice ka2 s.marks.length kc2,.slice ra2 s.ring.length rc2⟩⟩,⟨lzh3,ok1,ok2,of.up le3,⟨⟨_,_,_,_,_,_,_,_,_,_,_,_,_,_,rfl⟩⟩,iu0,ap_perm (List.Perm.swap _ _ _) ap3,nd_perm (List.Perm.swap _ _ _) nd⟩,by simp [Ent,List.lookup],Drop.perm _ (List.Perm.swap _ _ _)⟩
     refine xx ?_
     refine xnew fun b4 n_b4 h_b4=>?_
     have nd:=nd_consZ (x:=⟨b4,39,stC zeroS nilV,41⟩) n_b4 nd
     try simp only [Apart] at n_b4
     refine xkp ((Drop.mem (by first | exact List.mem_cons_self | exact List.mem_cons_of_mem _ List.mem_cons_self | exact List.mem_cons_of_mem _ (List.mem_cons_of_mem _ List.mem_cons_self))).trans (Drop.forget lzh2)) ?_
     refine xx ?_
     refine Spec.ap (own24k_any (s:=s) ⟨.slice pa s.purses.length pc,.slice ma s.members.length mc,.slice ea s.entry.length ec,.slice xa s.exit.length xc,.slice oa s.pool.length oc,.slice da s.dues.length dc,.slice ta s.motions.length tc,.slice ka s.marks.length kc,.slice ra s.ring.length rc⟩ (hs.up (le1.trans lzh2)) few fun h3 u le3 iu ap3=>?_)
     have lzh3:PH.le h1 h3:=lzh2.trans le3
     have iu0:=iu
     obtain ⟨pa2,pc2,ma2,mc2,ea2,ec2,xa2,xc2,oa2,oc2,da2,dc2,ta2,tc2,ka2,kc2,ra2,rc2,rfl⟩:=iu.slices
     refine xkp ((Drop.mem (by first | exact List.mem_cons_self | exact List.mem_cons_of_mem _ List.mem_cons_self | exact List.mem_cons_of_mem _ (List.mem_cons_of_mem _ List.mem_cons_self))).trans (Drop.forget lzh3)) ?_
     have n1:=nd.1.1
     have n2:=nd.1.2.1
     have n3:=nd.2.1.1
     try simp only at n1 n2 n3
     refine xx ?_
     exact ⟨⟨h3,b3,b4,op,om,F,R,⟨ovs op s.purses.length,ovs om s.members.length,.slice ye s.entry.length ce,.slice yx s.exit.length cx,.slice yo s.pool.length co,.slice yd s.dues.length cd,.slice yt s.motions.length ct,.slice yk s.marks.length ck,.slice yr s.ring.length cr⟩,⟨.slice pa2 s.purses.length pc2,.slice ma2 s.members.length mc2,.slice ea2 s.entry.length ec2,.slice xa2 s.exit.length xc2,.slice oa2 s.pool.length oc2,.slice da2 s.dues.length dc2,.slice ta2 s.motions.length tc2,.slice ka2 s.marks.length kc2,.slice ra2 s.ring.length rc2⟩⟩,⟨lzh3,ok1,ok2,of.up le3,⟨⟨_,_,_,_,_,_,_,_,_,_,_,_,_,_,rfl⟩⟩,iu0,ap_perm (List.Perm.swap _ _ _) ap3,nd_perm (List.Perm.swap _ _ _) nd⟩,by simp [Ent,List.lookup],Drop.perm _ (List.Perm.swap _ _ _)⟩
    refine xx ?_
    refine xnew fun b4 n_b4 h_b4=>?_
    have nd:=nd_consZ (x:=⟨b4,39,stC zeroS nilV,41⟩) n_b4 nd
    try simp only [Apart] at n_b4
    refine xkp ((Drop.mem (by first | exact List.mem_cons_self | exact List.mem_cons_of_mem _ List.mem_cons_self | exact List.mem_cons_of_mem _ (List.mem_cons_of_mem _ List.mem_cons_self))).trans (Drop.forget lzh2)) ?_
    refine xx ?_
    refine xkp ((Drop.mem (by first | exact List.mem_cons_self | exact List.mem_cons_of_mem _ List.mem_cons_self | exact List.mem_cons_of_mem _ (List.mem_cons_of_mem _ List.mem_cons_self))).trans (Drop.forget lzh2)) ?_
    refine xx ?_
    refine Spec.ap (own24k_any (s:=s) ⟨.slice pa s.purses.length pc,.slice ma s.members.length mc,.slice ea s.entry.length ec,.slice xa s.exit.length xc,.slice oa s.pool.length oc,.slice da s.dues.length dc,.slice ta s.motions.length tc,.slice ka s.marks.length kc,.slice ra s.ring.length rc⟩ (hs.up (le1.trans lzh2)) few fun h3 u le3 iu ap3=>?_)
    have lzh3:PH.le h1 h3:=lzh2.trans le3
    have iu0:=iu
    obtain ⟨pa2,pc2,ma2,mc2,ea2,ec2,xa2,xc2,oa2,oc2,da2,dc2,ta2,tc2,ka2,kc2,ra2,rc2,rfl⟩:=iu.slices
    refine xkp ((Drop.mem (by first | exact List.mem_cons_self | exact List.mem_cons_of_mem _ List.mem_cons_self | exact List.mem_cons_of_mem _ (List.mem_cons_of_mem _ List.mem_cons_self))).trans (Drop.forget lzh3)) ?_
    have n1:=nd.1.1
    have n2:=nd.1.2.1
    have n3:=nd.2.1.1
    try simp only at n1 n2 n3
    refine xx ?_
    exact ⟨⟨h3,b3,b4,op,om,F,R,⟨ovs op s.purses.length,ovs om s.members.length,.slice ye s.entry.length ce,.slice yx s.exit.length cx,.slice yo s.pool.length co,.slice yd s.dues.length cd,.slice yt s.motions.length ct,.slice yk s.marks.length ck,.slice yr s.ring.length cr⟩,⟨.slice pa2 s.purses.length pc2,.slice ma2 s.members.length mc2,.slice ea2 s.entry.length ec2,.slice xa2 s.exit.length xc2,.slice oa2 s.pool.length oc2,.slice da2 s.dues.length dc2,.slice ta2 s.motions.length tc2,.slice ka2 s.marks.length kc2,.slice ra2 s.ring.length rc2⟩⟩,⟨lzh3,ok1,ok2,of.up le3,⟨⟨_,_,_,_,_,_,_,_,_,_,_,_,_,_,rfl⟩⟩,iu0,ap_perm (List.Perm.swap _ _ _) ap3,nd_perm (List.Perm.swap _ _ _) nd⟩,by simp [Ent,List.lookup],Drop.perm _ (List.Perm.swap _ _ _)⟩
   refine xpl_or ?_ ?_
   ·skip
    refine xx ?_
    refine xkp ((Drop.mem (by first | exact List.mem_cons_self | exact List.mem_cons_of_mem _ List.mem_cons_self | exact List.mem_cons_of_mem _ (List.mem_cons_of_mem _ List.mem_cons_self))).trans (Drop.refl _ _)) ?_
    refine xpl_or ?_ ?_
    ·skip
     refine xx ?_
     refine Spec.fin (Spec.apn (own24f_any (s:=s) ⟨.slice pa s.purses.length pc,.slice ma s.members.length mc,.slice ea s.entry.length ec,.slice xa s.exit.length xc,.slice oa s.pool.length oc,.slice da s.dues.length dc,.slice ta s.motions.length tc,.slice ka s.marks.length kc,.slice ra s.ring.length rc⟩ (hs.up (le1.trans (PH.le_refl h1))) few fun h2 op om F R ye yx yo yd yt yk yr ce cx co cd ct ck cr le2 ok1 ok2 of ap nd=>⟨_,_,Drop.perm _ (own_front2 _ _),?_⟩))
     have ap:=ap_perm (own_front2 _ _) ap
     have nd:=nd_perm (own_front2 _ _) nd
     have zb1:h2 b1=noC:=ap.2.1
     have lzh2:PH.le h1 h2:=le2
     refine xkp ((Drop.mem (by first | exact List.mem_cons_self | exact List.mem_cons_of_mem _ List.mem_cons_self | exact List.mem_cons_of_mem _ (List.mem_cons_of_mem _ List.mem_cons_self))).trans (Drop.forget lzh2)) ?_
     refine xpl_or ?_ ?_
     ·skip
      refine xx ?_
      refine Spec.ap (own24k_any (s:=s) ⟨.slice pa s.purses.length pc,.slice ma s.members.length mc,.slice ea s.entry.length ec,.slice xa s.exit.length xc,.slice oa s.pool.length oc,.slice da s.dues.length dc,.slice ta s.motions.length tc,.slice ka s.marks.length kc,.slice ra s.ring.length rc⟩ (hs.up (le1.trans lzh2)) few fun h3 u le3 iu ap3=>?_)
      have lzh3:PH.le h1 h3:=lzh2.trans le3
      have iu0:=iu
      obtain ⟨pa2,pc2,ma2,mc2,ea2,ec2,xa2,xc2,oa2,oc2,da2,dc2,ta2,tc2,ka2,kc2,ra2,rc2,rfl⟩:=iu.slices
      refine xkp ((Drop.mem (by first | exact List.mem_cons_self | exact List.mem_cons_of_mem _ List.mem_cons_self | exact List.mem_cons_of_mem _ (List.mem_cons_of_mem _ List.mem_cons_self))).trans (Drop.forget lzh3)) ?_
      refine xx ?_
      refine xnew fun b4 n_b4 h_b4=>?_
      have nd:=nd_consZ (x:=⟨b4,39,stC zeroS nilV,41⟩) n_b4 nd
      have ap3:=ap_consZ (x:=⟨b4,39,stC zeroS nilV,41⟩) h_b4 ap3
      try simp only [Apart] at n_b4
      refine xkp ((Drop.mem (by first | exact List.mem_cons_self | exact List.mem_cons_of_mem _ List.mem_cons_self | exact List.mem_cons_of_mem _ (List.mem_cons_of_mem _ List.mem_cons_self))).trans (Drop.forget lzh3)) ?_
      have n1:=nd.1.1
      have n2:=nd.1.2.1
      have n3:=nd.2.1.1
      try simp only at n1 n2 n3
      refine xx ?_
      exact ⟨⟨h3,b3,b4,op,om,F,R,⟨ovs op s.purses.length,ovs om s.members.length,.slice ye s.entry.length ce,.slice yx s.exit.length cx,.slice yo s.pool.length co,.slice yd s.dues.length cd,.slice yt s.motions.length ct,.slice yk s.marks.length ck,.slice yr s.ring.length cr⟩,⟨.slice pa2 s.purses.length pc2,.slice ma2 s.members.length mc2,.slice ea2 s.entry.length ec2,.slice xa2 s.exit.length xc2,.slice oa2 s.pool.length oc2,.slice da2 s.dues.length dc2,.slice ta2 s.motions.length tc2,.slice ka2 s.marks.length kc2,.slice ra2 s.ring.length rc2⟩⟩,⟨lzh3,ok1,ok2,of.up le3,⟨⟨_,_,_,_,_,_,_,_,_,_,_,_,_,_,rfl⟩⟩,iu0,ap_perm (List.Perm.swap _ _ _) ap3,nd_perm (List.Perm.swap _ _ _) nd⟩,by simp [Ent,List.lookup],Drop.perm _ (List.Perm.swap _ _ _)⟩
     refine xx ?_
     refine xnew fun b4 n_b4 h_b4=>?_
     have nd:=nd_consZ (x:=⟨b4,39,stC zeroS nilV,41⟩) n_b4 nd
     try simp only [Apart] at n_b4
     refine xkp ((Drop.mem (by first | exact List.mem_cons_self | exact List.mem_cons_of_mem _ List.mem_cons_self | exact List.mem_cons_of_mem _ (List.mem_cons_of_mem _ List.mem_cons_self))).trans (Drop.forget lzh2)) ?_
     refine xx ?_
     refine Spec.ap (own24k_any (s:=s) ⟨.slice pa s.purses.length pc,.slice ma s.members.length mc,.slice ea s.entry.length ec,.slice xa s.exit.length xc,.slice oa s.pool.length oc,.slice da s.dues.length dc,.slice ta s.motions.length tc,.slice ka s.marks.length kc,.slice ra s.ring.length rc⟩ (hs.up (le1.trans lzh2)) few fun h3 u le3 iu ap3=>?_)
     have lzh3:PH.le h1 h3:=lzh2.trans le3
     have iu0:=iu
     obtain ⟨pa2,pc2,ma2,mc2,ea2,ec2,xa2,xc2,oa2,oc2,da2,dc2,ta2,tc2,ka2,kc2,ra2,rc2,rfl⟩:=iu.slices
     refine xkp ((Drop.mem (by first | exact List.mem_cons_self | exact List.mem_cons_of_mem _ List.mem_cons_self | exact List.mem_cons_of_mem _ (List.mem_cons_of_mem _ List.mem_cons_self))).trans (Drop.forget lzh3)) ?_
     have n1:=nd.1.1
     have n2:=nd.1.2.1
     have n3:=nd.2.1.1
     try simp only at n1 n2 n3
     refine xx ?_
     exact ⟨⟨h3,b3,b4,op,om,F,R,⟨ovs op s.purses.length,ovs om s.members.length,.slice ye s.entry.length ce,.slice yx s.exit.length cx,.slice yo s.pool.length co,.slice yd s.dues.length cd,.slice yt s.motions.length ct,.slice yk s.marks.length ck,.slice yr s.ring.length cr⟩,⟨.slice pa2 s.purses.length pc2,.slice ma2 s.members.length mc2,.slice ea2 s.entry.length ec2,.slice xa2 s.exit.length xc2,.slice oa2 s.pool.length oc2,.slice da2 s.dues.length dc2,.slice ta2 s.motions.length tc2,.slice ka2 s.marks.length kc2,.slice ra2 s.ring.length rc2⟩⟩,⟨lzh3,ok1,ok2,of.up le3,⟨⟨_,_,_,_,_,_,_,_,_,_,_,_,_,_,rfl⟩⟩,iu0,ap_perm (List.Perm.swap _ _ _) ap3,nd_perm (List.Perm.swap _ _ _) nd⟩,by simp [Ent,List.lookup],Drop.perm _ (List.Perm.swap _ _ _)⟩
    refine xx ?_
    refine xnew fun b4 n_b4 h_b4=>?_
    try simp only [Apart] at n_b4
    refine xkp ((Drop.mem (by first | exact List.mem_cons_self | exact List.mem_cons_of_mem _ List.mem_cons_self | exact List.mem_cons_of_mem _ (List.mem_cons_of_mem _ List.mem_cons_self))).trans (Drop.refl _ _)) ?_
    refine xx ?_
    refine Spec.fin (Spec.apn (own24f_any (s:=s) ⟨.slice pa s.purses.length pc,.slice ma s.members.length mc,.slice ea s.entry.length ec,.slice xa s.exit.length xc,.slice oa s.pool.length oc,.slice da s.dues.length dc,.slice ta s.motions.length tc,.slice ka s.marks.length kc,.slice ra s.ring.length rc⟩ (hs.up (le1.trans (PH.le_refl h1))) few fun h2 op om F R ye yx yo yd yt yk yr ce cx co cd ct ck cr le2 ok1 ok2 of ap nd=>⟨_,_,Drop.perm _ (own_front3 _ _ _),?_⟩))
    have ap:=ap_perm (own_front3 _ _ _) ap
    have nd:=nd_perm (own_front3 _ _ _) nd
    have zb1:h2 b1=noC:=ap.2.2.1
    have lzh2:PH.le h1 h2:=le2
    refine xkp ((Drop.mem (by first | exact List.mem_cons_self | exact List.mem_cons_of_mem _ List.mem_cons_self | exact List.mem_cons_of_mem _ (List.mem_cons_of_mem _ List.mem_cons_self))).trans (Drop.forget lzh2)) ?_
    refine xx ?_
    refine Spec.ap (own24k_any (s:=s) ⟨.slice pa s.purses.length pc,.slice ma s.members.length mc,.slice ea s.entry.length ec,.slice xa s.exit.length xc,.slice oa s.pool.length oc,.slice da s.dues.length dc,.slice ta s.motions.length tc,.slice ka s.marks.length kc,.slice ra s.ring.length rc⟩ (hs.up (le1.trans lzh2)) few fun h3 u le3 iu ap3=>?_)
    have lzh3:PH.le h1 h3:=lzh2.trans le3
    have iu0:=iu
    obtain ⟨pa2,pc2,ma2,mc2,ea2,ec2,xa2,xc2,oa2,oc2,da2,dc2,ta2,tc2,ka2,kc2,ra2,rc2,rfl⟩:=iu.slices
    refine xkp ((Drop.mem (by first | exact List.mem_cons_self | exact List.mem_cons_of_mem _ List.mem_cons_self | exact List.mem_cons_of_mem _ (List.mem_cons_of_mem _ List.mem_cons_self))).trans (Drop.forget lzh3)) ?_
    have n1:=nd.1.1
    have n2:=nd.1.2.1
    have n3:=nd.2.1.1
    try simp only at n1 n2 n3
    refine xx ?_
    exact ⟨⟨h3,b3,b4,op,om,F,R,⟨ovs op s.purses.length,ovs om s.members.length,.slice ye s.entry.length ce,.slice yx s.exit.length cx,.slice yo s.pool.length co,.slice yd s.dues.length cd,.slice yt s.motions.length ct,.slice yk s.marks.length ck,.slice yr s.ring.length cr⟩,⟨.slice pa2 s.purses.length pc2,.slice ma2 s.members.length mc2,.slice ea2 s.entry.length ec2,.slice xa2 s.exit.length xc2,.slice oa2 s.pool.length oc2,.slice da2 s.dues.length dc2,.slice ta2 s.motions.length tc2,.slice ka2 s.marks.length kc2,.slice ra2 s.ring.length rc2⟩⟩,⟨lzh3,ok1,ok2,of.up le3,⟨⟨_,_,_,_,_,_,_,_,_,_,_,_,_,_,rfl⟩⟩,iu0,ap_perm (List.Perm.swap _ _ _) ap3,nd_perm (List.Perm.swap _ _ _) nd⟩,by simp [Ent,List.lookup],Drop.perm _ (List.Perm.swap _ _ _)⟩
   refine xx ?_
   refine xnew fun b4 n_b4 h_b4=>?_
   try simp only [Apart] at n_b4
   refine xkp ((Drop.mem (by first | exact List.mem_cons_self | exact List.mem_cons_of_mem _ List.mem_cons_self | exact List.mem_cons_of_mem _ (List.mem_cons_of_mem _ List.mem_cons_self))).trans (Drop.refl _ _)) ?_
   refine xpl_or ?_ ?_
   ·skip
    refine xx ?_
    refine Spec.fin (Spec.apn (own24f_any (s:=s) ⟨.slice pa s.purses.length pc,.slice ma s.members.length mc,.slice ea s.entry.length ec,.slice xa s.exit.length xc,.slice oa s.pool.length oc,.slice da s.dues.length dc,.slice ta s.motions.length tc,.slice ka s.marks.length kc,.slice ra s.ring.length rc⟩ (hs.up (le1.trans (PH.le_refl h1))) few fun h2 op om F R ye yx yo yd yt yk yr ce cx co cd ct ck cr le2 ok1 ok2 of ap nd=>⟨_,_,Drop.perm _ (own_front3 _ _ _),?_⟩))
    have ap:=ap_perm (own_front3 _ _ _) ap
    have nd:=nd_perm (own_front3 _ _ _) nd
    have zb1:h2 b1=noC:=ap.2.2.1
    have lzh2:PH.le h1 h2:=le2
    refine xkp ((Drop.mem (by first | exact List.mem_cons_self | exact List.mem_cons_of_mem _ List.mem_cons_self | exact List.mem_cons_of_mem _ (List.mem_cons_of_mem _ List.mem_cons_self))).trans (Drop.forget lzh2)) ?_
    refine xx ?_
    refine xkp ((Drop.mem (by first | exact List.mem_cons_self | exact List.mem_cons_of_mem _ List.mem_cons_self | exact List.mem_cons_of_mem _ (List.mem_cons_of_mem _ List.mem_cons_self))).trans (Drop.forget lzh2)) ?_
    refine xx ?_
    refine Spec.ap (own24k_any (s:=s) ⟨.slice pa s.purses.length pc,.slice ma s.members.length mc,.slice ea s.entry.length ec,.slice xa s.exit.length xc,.slice oa s.pool.length oc,.slice da s.dues.length dc,.slice ta s.motions.length tc,.slice ka s.marks.length kc,.slice ra s.ring.length rc⟩ (hs.up (le1.trans lzh2)) few fun h3 u le3 iu ap3=>?_)
    have lzh3:PH.le h1 h3:=lzh2.trans le3
    have iu0:=iu
    obtain ⟨pa2,pc2,ma2,mc2,ea2,ec2,xa2,xc2,oa2,oc2,da2,dc2,ta2,tc2,ka2,kc2,ra2,rc2,rfl⟩:=iu.slices
    refine xkp ((Drop.mem (by first | exact List.mem_cons_self | exact List.mem_cons_of_mem _ List.mem_cons_self | exact List.mem_cons_of_mem _ (List.mem_cons_of_mem _ List.mem_cons_self))).trans (Drop.forget lzh3)) ?_
    have n1:=nd.1.1
    have n2:=nd.1.2.1
    have n3:=nd.2.1.1
    try simp only at n1 n2 n3
    refine xx ?_
    exact ⟨⟨h3,b3,b4,op,om,F,R,⟨ovs op s.purses.length,ovs om s.members.length,.slice ye s.entry.length ce,.slice yx s.exit.length cx,.slice yo s.pool.length co,.slice yd s.dues.length cd,.slice yt s.motions.length ct,.slice yk s.marks.length ck,.slice yr s.ring.length cr⟩,⟨.slice pa2 s.purses.length pc2,.slice ma2 s.members.length mc2,.slice ea2 s.entry.length ec2,.slice xa2 s.exit.length xc2,.slice oa2 s.pool.length oc2,.slice da2 s.dues.length dc2,.slice ta2 s.motions.length tc2,.slice ka2 s.marks.length kc2,.slice ra2 s.ring.length rc2⟩⟩,⟨lzh3,ok1,ok2,of.up le3,⟨⟨_,_,_,_,_,_,_,_,_,_,_,_,_,_,rfl⟩⟩,iu0,ap_perm (List.Perm.swap _ _ _) ap3,nd_perm (List.Perm.swap _ _ _) nd⟩,by simp [Ent,List.lookup],Drop.perm _ (List.Perm.swap _ _ _)⟩
   refine xx ?_
   refine xkp ((Drop.mem (by first | exact List.mem_cons_self | exact List.mem_cons_of_mem _ List.mem_cons_self | exact List.mem_cons_of_mem _ (List.mem_cons_of_mem _ List.mem_cons_self))).trans (Drop.refl _ _)) ?_
   refine xx ?_
   refine Spec.fin (Spec.apn (own24f_any (s:=s) ⟨.slice pa s.purses.length pc,.slice ma s.members.length mc,.slice ea s.entry.length ec,.slice xa s.exit.length xc,.slice oa s.pool.length oc,.slice da s.dues.length dc,.slice ta s.motions.length tc,.slice ka s.marks.length kc,.slice ra s.ring.length rc⟩ (hs.up (le1.trans (PH.le_refl h1))) few fun h2 op om F R ye yx yo yd yt yk yr ce cx co cd ct ck cr le2 ok1 ok2 of ap nd=>⟨_,_,Drop.perm _ (own_front3 _ _ _),?_⟩))
   have ap:=ap_perm (own_front3 _ _ _) ap
   have nd:=nd_perm (own_front3 _ _ _) nd
   have zb1:h2 b1=noC:=ap.2.2.1
   have lzh2:PH.le h1 h2:=le2
   refine xkp ((Drop.mem (by first | exact List.mem_cons_self | exact List.mem_cons_of_mem _ List.mem_cons_self | exact List.mem_cons_of_mem _ (List.mem_cons_of_mem _ List.mem_cons_self))).trans (Drop.forget lzh2)) ?_
   refine xx ?_
   refine Spec.ap (own24k_any (s:=s) ⟨.slice pa s.purses.length pc,.slice ma s.members.length mc,.slice ea s.entry.length ec,.slice xa s.exit.length xc,.slice oa s.pool.length oc,.slice da s.dues.length dc,.slice ta s.motions.length tc,.slice ka s.marks.length kc,.slice ra s.ring.length rc⟩ (hs.up (le1.trans lzh2)) few fun h3 u le3 iu ap3=>?_)
   have lzh3:PH.le h1 h3:=lzh2.trans le3
   have iu0:=iu
   obtain ⟨pa2,pc2,ma2,mc2,ea2,ec2,xa2,xc2,oa2,oc2,da2,dc2,ta2,tc2,ka2,kc2,ra2,rc2,rfl⟩:=iu.slices
   refine xkp ((Drop.mem (by first | exact List.mem_cons_self | exact List.mem_cons_of_mem _ List.mem_cons_self | exact List.mem_cons_of_mem _ (List.mem_cons_of_mem _ List.mem_cons_self))).trans (Drop.forget lzh3)) ?_
   have n1:=nd.1.1
   have n2:=nd.1.2.1
   have n3:=nd.2.1.1
   try simp only at n1 n2 n3
   refine xx ?_
   exact ⟨⟨h3,b3,b4,op,om,F,R,⟨ovs op s.purses.length,ovs om s.members.length,.slice ye s.entry.length ce,.slice yx s.exit.length cx,.slice yo s.pool.length co,.slice yd s.dues.length cd,.slice yt s.motions.length ct,.slice yk s.marks.length ck,.slice yr s.ring.length cr⟩,⟨.slice pa2 s.purses.length pc2,.slice ma2 s.members.length mc2,.slice ea2 s.entry.length ec2,.slice xa2 s.exit.length xc2,.slice oa2 s.pool.length oc2,.slice da2 s.dues.length dc2,.slice ta2 s.motions.length tc2,.slice ka2 s.marks.length kc2,.slice ra2 s.ring.length rc2⟩⟩,⟨lzh3,ok1,ok2,of.up le3,⟨⟨_,_,_,_,_,_,_,_,_,_,_,_,_,_,rfl⟩⟩,iu0,ap_perm (List.Perm.swap _ _ _) ap3,nd_perm (List.Perm.swap _ _ _) nd⟩,by simp [Ent,List.lookup],Drop.perm _ (List.Perm.swap _ _ _)⟩
  refine xx ?_
  refine xnew fun b4 n_b4 h_b4=>?_
  try simp only [Apart] at n_b4
  refine xkp ((Drop.mem (by first | exact List.mem_cons_self | exact List.mem_cons_of_mem _ List.mem_cons_self | exact List.mem_cons_of_mem _ (List.mem_cons_of_mem _ List.mem_cons_self))).trans (Drop.refl _ _)) ?_
  refine xpl_or ?_ ?_
  ·skip
   refine xx ?_
   refine Spec.fin (Spec.apn (own24f_any (s:=s) ⟨.slice pa s.purses.length pc,.slice ma s.members.length mc,.slice ea s.entry.length ec,.slice xa s.exit.length xc,.slice oa s.pool.length oc,.slice da s.dues.length dc,.slice ta s.motions.length tc,.slice ka s.marks.length kc,.slice ra s.ring.length rc⟩ (hs.up (le1.trans (PH.le_refl h1))) few fun h2 op om F R ye yx yo yd yt yk yr ce cx co cd ct ck cr le2 ok1 ok2 of ap nd=>⟨_,_,Drop.perm _ (own_front2 _ _),?_⟩))
   have ap:=ap_perm (own_front2 _ _) ap
   have nd:=nd_perm (own_front2 _ _) nd
   have zb1:h2 b1=noC:=ap.2.1
   have lzh2:PH.le h1 h2:=le2
   refine xkp ((Drop.mem (by first | exact List.mem_cons_self | exact List.mem_cons_of_mem _ List.mem_cons_self | exact List.mem_cons_of_mem _ (List.mem_cons_of_mem _ List.mem_cons_self))).trans (Drop.forget lzh2)) ?_
   refine xpl_or ?_ ?_
   ·skip
    refine xx ?_
    refine xkp ((Drop.mem (by first | exact List.mem_cons_self | exact List.mem_cons_of_mem _ List.mem_cons_self | exact List.mem_cons_of_mem _ (List.mem_cons_of_mem _ List.mem_cons_self))).trans (Drop.forget lzh2)) ?_
    refine xpl_or ?_ ?_
    ·skip
     refine xx ?_
     refine Spec.ap (own24k_any (s:=s) ⟨.slice pa s.purses.length pc,.slice ma s.members.length mc,.slice ea s.entry.length ec,.slice xa s.exit.length xc,.slice oa s.pool.length oc,.slice da s.dues.length dc,.slice ta s.motions.length tc,.slice ka s.marks.length kc,.slice ra s.ring.length rc⟩ (hs.up (le1.trans lzh2)) few fun h3 u le3 iu ap3=>?_)
     have lzh3:PH.le h1 h3:=lzh2.trans le3
     have iu0:=iu
     obtain ⟨pa2,pc2,ma2,mc2,ea2,ec2,xa2,xc2,oa2,oc2,da2,dc2,ta2,tc2,ka2,kc2,ra2,rc2,rfl⟩:=iu.slices
     refine xkp ((Drop.mem (by first | exact List.mem_cons_self | exact List.mem_cons_of_mem _ List.mem_cons_self | exact List.mem_cons_of_mem _ (List.mem_cons_of_mem _ List.mem_cons_self))).trans (Drop.forget lzh3)) ?_
     refine xx ?_
     refine xnew fun b3 n_b3 h_b3=>?_
     have nd:=nd_consZ (x:=⟨b3,39,stC zeroS nilV,41⟩) n_b3 nd
     have ap3:=ap_consZ (x:=⟨b3,39,stC zeroS nilV,41⟩) h_b3 ap3
     try simp only [Apart] at n_b3
     refine xkp ((Drop.mem (by first | exact List.mem_cons_self | exact List.mem_cons_of_mem _ List.mem_cons_self | exact List.mem_cons_of_mem _ (List.mem_cons_of_mem _ List.mem_cons_self))).trans (Drop.forget lzh3)) ?_
     have n1:=nd.1.1
     have n2:=nd.1.2.1
     have n3:=nd.2.1.1
     try simp only at n1 n2 n3
     refine xx ?_
     exact ⟨⟨h3,b3,b4,op,om,F,R,⟨ovs op s.purses.length,ovs om s.members.length,.slice ye s.entry.length ce,.slice yx s.exit.length cx,.slice yo s.pool.length co,.slice yd s.dues.length cd,.slice yt s.motions.length ct,.slice yk s.marks.length ck,.slice yr s.ring.length cr⟩,⟨.slice pa2 s.purses.length pc2,.slice ma2 s.members.length mc2,.slice ea2 s.entry.length ec2,.slice xa2 s.exit.length xc2,.slice oa2 s.pool.length oc2,.slice da2 s.dues.length dc2,.slice ta2 s.motions.length tc2,.slice ka2 s.marks.length kc2,.slice ra2 s.ring.length rc2⟩⟩,⟨lzh3,ok1,ok2,of.up le3,⟨⟨_,_,_,_,_,_,_,_,_,_,_,_,_,_,rfl⟩⟩,iu0,ap3,nd⟩,by simp [Ent,List.lookup],Drop.refl _ _⟩
    refine xx ?_
    refine xnew fun b3 n_b3 h_b3=>?_
    have nd:=nd_consZ (x:=⟨b3,39,stC zeroS nilV,41⟩) n_b3 nd
    try simp only [Apart] at n_b3
    refine xkp ((Drop.mem (by first | exact List.mem_cons_self | exact List.mem_cons_of_mem _ List.mem_cons_self | exact List.mem_cons_of_mem _ (List.mem_cons_of_mem _ List.mem_cons_self))).trans (Drop.forget lzh2)) ?_
    refine xx ?_
    refine Spec.ap (own24k_any (s:=s) ⟨.slice pa s.purses.length pc,.slice ma s.members.length mc,.slice ea s.entry.length ec,.slice xa s.exit.length xc,.slice oa s.pool.length oc,.slice da s.dues.length dc,.slice ta s.motions.length tc,.slice ka s.marks.length kc,.slice ra s.ring.length rc⟩ (hs.up (le1.trans lzh2)) few fun h3 u le3 iu ap3=>?_)
    have lzh3:PH.le h1 h3:=lzh2.trans le3
    have iu0:=iu
    obtain ⟨pa2,pc2,ma2,mc2,ea2,ec2,xa2,xc2,oa2,oc2,da2,dc2,ta2,tc2,ka2,kc2,ra2,rc2,rfl⟩:=iu.slices
    refine xkp ((Drop.mem (by first | exact List.mem_cons_self | exact List.mem_cons_of_mem _ List.mem_cons_self | exact List.mem_cons_of_mem _ (List.mem_cons_of_mem _ List.mem_cons_self))).trans (Drop.forget lzh3)) ?_
    have n1:=nd.1.1
    have n2:=nd.1.2.1
    have n3:=nd.2.1.1
    try simp only at n1 n2 n3
    refine xx ?_
    exact ⟨⟨h3,b3,b4,op,om,F,R,⟨ovs op s.purses.length,ovs om s.members.length,.slice ye s.entry.length ce,.slice yx s.exit.length cx,.slice yo s.pool.length co,.slice yd s.dues.length cd,.slice yt s.motions.length ct,.slice yk s.marks.length ck,.slice yr s.ring.length cr⟩,⟨.slice pa2 s.purses.length pc2,.slice ma2 s.members.length mc2,.slice ea2 s.entry.length ec2,.slice xa2 s.exit.length xc2,.slice oa2 s.pool.length oc2,.slice da2 s.dues.length dc2,.slice ta2 s.motions.length tc2,.slice ka2 s.marks.length kc2,.slice ra2 s.ring.length rc2⟩⟩,⟨lzh3,ok1,ok2,of.up le3,⟨⟨_,_,_,_,_,_,_,_,_,_,_,_,_,_,rfl⟩⟩,iu0,ap3,nd⟩,by simp [Ent,List.lookup],Drop.refl _ _⟩
   refine xx ?_
   refine xnew fun b3 n_b3 h_b3=>?_
   have nd:=nd_consZ (x:=⟨b3,39,stC zeroS nilV,41⟩) n_b3 nd
   try simp only [Apart] at n_b3
   refine xkp ((Drop.mem (by first | exact List.mem_cons_self | exact List.mem_cons_of_mem _ List.mem_cons_self | exact List.mem_cons_of_mem _ (List.mem_cons_of_mem _ List.mem_cons_self))).trans (Drop.forget lzh2)) ?_
   refine xx ?_
   refine xkp ((Drop.mem (by first | exact List.mem_cons_self | exact List.mem_cons_of_mem _ List.mem_cons_self | exact List.mem_cons_of_mem _ (List.mem_cons_of_mem _ List.mem_cons_self))).trans (Drop.forget lzh2)) ?_
   refine xx ?_
   refine Spec.ap (own24k_any (s:=s) ⟨.slice pa s.purses.length pc,.slice ma s.members.length mc,.slice ea s.entry.length ec,.slice xa s.exit.length xc,.slice oa s.pool.length oc,.slice da s.dues.length dc,.slice ta s.motions.length tc,.slice ka s.marks.length kc,.slice ra s.ring.length rc⟩ (hs.up (le1.trans lzh2)) few fun h3 u le3 iu ap3=>?_)
   have lzh3:PH.le h1 h3:=lzh2.trans le3
   have iu0:=iu
   obtain ⟨pa2,pc2,ma2,mc2,ea2,ec2,xa2,xc2,oa2,oc2,da2,dc2,ta2,tc2,ka2,kc2,ra2,rc2,rfl⟩:=iu.slices
   refine xkp ((Drop.mem (by first | exact List.mem_cons_self | exact List.mem_cons_of_mem _ List.mem_cons_self | exact List.mem_cons_of_mem _ (List.mem_cons_of_mem _ List.mem_cons_self))).trans (Drop.forget lzh3)) ?_
   have n1:=nd.1.1
   have n2:=nd.1.2.1
   have n3:=nd.2.1.1
   try simp only at n1 n2 n3
   refine xx ?_
   exact ⟨⟨h3,b3,b4,op,om,F,R,⟨ovs op s.purses.length,ovs om s.members.length,.slice ye s.entry.length ce,.slice yx s.exit.length cx,.slice yo s.pool.length co,.slice yd s.dues.length cd,.slice yt s.motions.length ct,.slice yk s.marks.length ck,.slice yr s.ring.length cr⟩,⟨.slice pa2 s.purses.length pc2,.slice ma2 s.members.length mc2,.slice ea2 s.entry.length ec2,.slice xa2 s.exit.length xc2,.slice oa2 s.pool.length oc2,.slice da2 s.dues.length dc2,.slice ta2 s.motions.length tc2,.slice ka2 s.marks.length kc2,.slice ra2 s.ring.length rc2⟩⟩,⟨lzh3,ok1,ok2,of.up le3,⟨⟨_,_,_,_,_,_,_,_,_,_,_,_,_,_,rfl⟩⟩,iu0,ap3,nd⟩,by simp [Ent,List.lookup],Drop.refl _ _⟩
  refine xpl_or ?_ ?_
  ·skip
   refine xx ?_
   refine xkp ((Drop.mem (by first | exact List.mem_cons_self | exact List.mem_cons_of_mem _ List.mem_cons_self | exact List.mem_cons_of_mem _ (List.mem_cons_of_mem _ List.mem_cons_self))).trans (Drop.refl _ _)) ?_
   refine xpl_or ?_ ?_
   ·skip
    refine xx ?_
    refine Spec.fin (Spec.apn (own24f_any (s:=s) ⟨.slice pa s.purses.length pc,.slice ma s.members.length mc,.slice ea s.entry.length ec,.slice xa s.exit.length xc,.slice oa s.pool.length oc,.slice da s.dues.length dc,.slice ta s.motions.length tc,.slice ka s.marks.length kc,.slice ra s.ring.length rc⟩ (hs.up (le1.trans (PH.le_refl h1))) few fun h2 op om F R ye yx yo yd yt yk yr ce cx co cd ct ck cr le2 ok1 ok2 of ap nd=>⟨_,_,Drop.perm _ (own_front2 _ _),?_⟩))
    have ap:=ap_perm (own_front2 _ _) ap
    have nd:=nd_perm (own_front2 _ _) nd
    have zb1:h2 b1=noC:=ap.2.1
    have lzh2:PH.le h1 h2:=le2
    refine xkp ((Drop.mem (by first | exact List.mem_cons_self | exact List.mem_cons_of_mem _ List.mem_cons_self | exact List.mem_cons_of_mem _ (List.mem_cons_of_mem _ List.mem_cons_self))).trans (Drop.forget lzh2)) ?_
    refine xpl_or ?_ ?_
    ·skip
     refine xx ?_
     refine Spec.ap (own24k_any (s:=s) ⟨.slice pa s.purses.length pc,.slice ma s.members.length mc,.slice ea s.entry.length ec,.slice xa s.exit.length xc,.slice oa s.pool.length oc,.slice da s.dues.length dc,.slice ta s.motions.length tc,.slice ka s.marks.length kc,.slice ra s.ring.length rc⟩ (hs.up (le1.trans lzh2)) few fun h3 u le3 iu ap3=>?_)
     have lzh3:PH.le h1 h3:=lzh2.trans le3
     have iu0:=iu
     obtain ⟨pa2,pc2,ma2,mc2,ea2,ec2,xa2,xc2,oa2,oc2,da2,dc2,ta2,tc2,ka2,kc2,ra2,rc2,rfl⟩:=iu.slices
     refine xkp ((Drop.mem (by first | exact List.mem_cons_self | exact List.mem_cons_of_mem _ List.mem_cons_self | exact List.mem_cons_of_mem _ (List.mem_cons_of_mem _ List.mem_cons_self))).trans (Drop.forget lzh3)) ?_
     refine xx ?_
     refine xnew fun b3 n_b3 h_b3=>?_
     have nd:=nd_consZ (x:=⟨b3,39,stC zeroS nilV,41⟩) n_b3 nd
     have ap3:=ap_consZ (x:=⟨b3,39,stC zeroS nilV,41⟩) h_b3 ap3
     try simp only [Apart] at n_b3
     refine xkp ((Drop.mem (by first | exact List.mem_cons_self | exact List.mem_cons_of_mem _ List.mem_cons_self | exact List.mem_cons_of_mem _ (List.mem_cons_of_mem _ List.mem_cons_self))).trans (Drop.forget lzh3)) ?_
     have n1:=nd.1.1
     have n2:=nd.1.2.1
     have n3:=nd.2.1.1
     try simp only at n1 n2 n3
     refine xx ?_
     exact ⟨⟨h3,b3,b4,op,om,F,R,⟨ovs op s.purses.length,ovs om s.members.length,.slice ye s.entry.length ce,.slice yx s.exit.length cx,.slice yo s.pool.length co,.slice yd s.dues.length cd,.slice yt s.motions.length ct,.slice yk s.marks.length ck,.slice yr s.ring.length cr⟩,⟨.slice pa2 s.purses.length pc2,.slice ma2 s.members.length mc2,.slice ea2 s.entry.length ec2,.slice xa2 s.exit.length xc2,.slice oa2 s.pool.length oc2,.slice da2 s.dues.length dc2,.slice ta2 s.motions.length tc2,.slice ka2 s.marks.length kc2,.slice ra2 s.ring.length rc2⟩⟩,⟨lzh3,ok1,ok2,of.up le3,⟨⟨_,_,_,_,_,_,_,_,_,_,_,_,_,_,rfl⟩⟩,iu0,ap3,nd⟩,by simp [Ent,List.lookup],Drop.refl _ _⟩
    refine xx ?_
    refine xnew fun b3 n_b3 h_b3=>?_
    have nd:=nd_consZ (x:=⟨b3,39,stC zeroS nilV,41⟩) n_b3 nd
    try simp only [Apart] at n_b3
    refine xkp ((Drop.mem (by first | exact List.mem_cons_self | exact List.mem_cons_of_mem _ List.mem_cons_self | exact List.mem_cons_of_mem _ (List.mem_cons_of_mem _ List.mem_cons_self))).trans (Drop.forget lzh2)) ?_
    refine xx ?_
    refine Spec.ap (own24k_any (s:=s) ⟨.slice pa s.purses.length pc,.slice ma s.members.length mc,.slice ea s.entry.length ec,.slice xa s.exit.length xc,.slice oa s.pool.length oc,.slice da s.dues.length dc,.slice ta s.motions.length tc,.slice ka s.marks.length kc,.slice ra s.ring.length rc⟩ (hs.up (le1.trans lzh2)) few fun h3 u le3 iu ap3=>?_)
    have lzh3:PH.le h1 h3:=lzh2.trans le3
    have iu0:=iu
    obtain ⟨pa2,pc2,ma2,mc2,ea2,ec2,xa2,xc2,oa2,oc2,da2,dc2,ta2,tc2,ka2,kc2,ra2,rc2,rfl⟩:=iu.slices
    refine xkp ((Drop.mem (by first | exact List.mem_cons_self | exact List.mem_cons_of_mem _ List.mem_cons_self | exact List.mem_cons_of_mem _ (List.mem_cons_of_mem _ List.mem_cons_self))).trans (Drop.forget lzh3)) ?_
    have n1:=nd.1.1
    have n2:=nd.1.2.1
    have n3:=nd.2.1.1
    try simp only at n1 n2 n3
    refine xx ?_
    exact ⟨⟨h3,b3,b4,op,om,F,R,⟨ovs op s.purses.length,ovs om s.members.length,.slice ye s.entry.length ce,.slice yx s.exit.length cx,.slice yo s.pool.length co,.slice yd s.dues.length cd,.slice yt s.motions.length ct,.slice yk s.marks.length ck,.slice yr s.ring.length cr⟩,⟨.slice pa2 s.purses.length pc2,.slice ma2 s.members.length mc2,.slice ea2 s.entry.length ec2,.slice xa2 s.exit.length xc2,.slice oa2 s.pool.length oc2,.slice da2 s.dues.length dc2,.slice ta2 s.motions.length tc2,.slice ka2 s.marks.length kc2,.slice ra2 s.ring.length rc2⟩⟩,⟨lzh3,ok1,ok2,of.up le3,⟨⟨_,_,_,_,_,_,_,_,_,_,_,_,_,_,rfl⟩⟩,iu0,ap3,nd⟩,by simp [Ent,List.lookup],Drop.refl _ _⟩
   refine xx ?_
   refine xnew fun b3 n_b3 h_b3=>?_
   try simp only [Apart] at n_b3
   refine xkp ((Drop.mem (by first | exact List.mem_cons_self | exact List.mem_cons_of_mem _ List.mem_cons_self | exact List.mem_cons_of_mem _ (List.mem_cons_of_mem _ List.mem_cons_self))).trans (Drop.refl _ _)) ?_
   refine xx ?_
   refine Spec.fin (Spec.apn (own24f_any (s:=s) ⟨.slice pa s.purses.length pc,.slice ma s.members.length mc,.slice ea s.entry.length ec,.slice xa s.exit.length xc,.slice oa s.pool.length oc,.slice da s.dues.length dc,.slice ta s.motions.length tc,.slice ka s.marks.length kc,.slice ra s.ring.length rc⟩ (hs.up (le1.trans (PH.le_refl h1))) few fun h2 op om F R ye yx yo yd yt yk yr ce cx co cd ct ck cr le2 ok1 ok2 of ap nd=>⟨_,_,Drop.perm _ (own_front3 _ _ _),?_⟩))
   have ap:=ap_perm (own_front3 _ _ _) ap
   have nd:=nd_perm (own_front3 _ _ _) nd
   have zb1:h2 b1=noC:=ap.2.2.1
   have lzh2:PH.le h1 h2:=le2
   refine xkp ((Drop.mem (by first | exact List.mem_cons_self | exact List.mem_cons_of_mem _ List.mem_cons_self | exact List.mem_cons_of_mem _ (List.mem_cons_of_mem _ List.mem_cons_self))).trans (Drop.forget lzh2)) ?_
   refine xx ?_
   refine Spec.ap (own24k_any (s:=s) ⟨.slice pa s.purses.length pc,.slice ma s.members.length mc,.slice ea s.entry.length ec,.slice xa s.exit.length xc,.slice oa s.pool.length oc,.slice da s.dues.length dc,.slice ta s.motions.length tc,.slice ka s.marks.length kc,.slice ra s.ring.length rc⟩ (hs.up (le1.trans lzh2)) few fun h3 u le3 iu ap3=>?_)
   have lzh3:PH.le h1 h3:=lzh2.trans le3
   have iu0:=iu
   obtain ⟨pa2,pc2,ma2,mc2,ea2,ec2,xa2,xc2,oa2,oc2,da2,dc2,ta2,tc2,ka2,kc2,ra2,rc2,rfl⟩:=iu.slices
   refine xkp ((Drop.mem (by first | exact List.mem_cons_self | exact List.mem_cons_of_mem _ List.mem_cons_self | exact List.mem_cons_of_mem _ (List.mem_cons_of_mem _ List.mem_cons_self))).trans (Drop.forget lzh3)) ?_
   have n1:=nd.1.1
   have n2:=nd.1.2.1
   have n3:=nd.2.1.1
   try simp only at n1 n2 n3
   refine xx ?_
   exact ⟨⟨h3,b3,b4,op,om,F,R,⟨ovs op s.purses.length,ovs om s.members.length,.slice ye s.entry.length ce,.slice yx s.exit.length cx,.slice yo s.pool.length co,.slice yd s.dues.length cd,.slice yt s.motions.length ct,.slice yk s.marks.length ck,.slice yr s.ring.length cr⟩,⟨.slice pa2 s.purses.length pc2,.slice ma2 s.members.length mc2,.slice ea2 s.entry.length ec2,.slice xa2 s.exit.length xc2,.slice oa2 s.pool.length oc2,.slice da2 s.dues.length dc2,.slice ta2 s.motions.length tc2,.slice ka2 s.marks.length kc2,.slice ra2 s.ring.length rc2⟩⟩,⟨lzh3,ok1,ok2,of.up le3,⟨⟨_,_,_,_,_,_,_,_,_,_,_,_,_,_,rfl⟩⟩,iu0,ap3,nd⟩,by simp [Ent,List.lookup],Drop.refl _ _⟩
  refine xx ?_
  refine xnew fun b3 n_b3 h_b3=>?_
  try simp only [Apart] at n_b3
  refine xkp ((Drop.mem (by first | exact List.mem_cons_self | exact List.mem_cons_of_mem _ List.mem_cons_self | exact List.mem_cons_of_mem _ (List.mem_cons_of_mem _ List.mem_cons_self))).trans (Drop.refl _ _)) ?_
  refine xpl_or ?_ ?_
  ·skip
   refine xx ?_
   refine Spec.fin (Spec.apn (own24f_any (s:=s) ⟨.slice pa s.purses.length pc,.slice ma s.members.length mc,.slice ea s.entry.length ec,.slice xa s.exit.length xc,.slice oa s.pool.length oc,.slice da s.dues.length dc,.slice ta s.motions.length tc,.slice ka s.marks.length kc,.slice ra s.ring.length rc⟩ (hs.up (le1.trans (PH.le_refl h1))) few fun h2 op om F R ye yx yo yd yt yk yr ce cx co cd ct ck cr le2 ok1 ok2 of ap nd=>⟨_,_,Drop.perm _ (own_front3 _ _ _),?_⟩))
   have ap:=ap_perm (own_front3 _ _ _) ap
   have nd:=nd_perm (own_front3 _ _ _) nd
   have zb1:h2 b1=noC:=ap.2.2.1
   have lzh2:PH.le h1 h2:=le2
   refine xkp ((Drop.mem (by first | exact List.mem_cons_self | exact List.mem_cons_of_mem _ List.mem_cons_self | exact List.mem_cons_of_mem _ (List.mem_cons_of_mem _ List.mem_cons_self))).trans (Drop.forget lzh2)) ?_
   refine xx ?_
   refine xkp ((Drop.mem (by first | exact List.mem_cons_self | exact List.mem_cons_of_mem _ List.mem_cons_self | exact List.mem_cons_of_mem _ (List.mem_cons_of_mem _ List.mem_cons_self))).trans (Drop.forget lzh2)) ?_
   refine xx ?_
   refine Spec.ap (own24k_any (s:=s) ⟨.slice pa s.purses.length pc,.slice ma s.members.length mc,.slice ea s.entry.length ec,.slice xa s.exit.length xc,.slice oa s.pool.length oc,.slice da s.dues.length dc,.slice ta s.motions.length tc,.slice ka s.marks.length kc,.slice ra s.ring.length rc⟩ (hs.up (le1.trans lzh2)) few fun h3 u le3 iu ap3=>?_)
   have lzh3:PH.le h1 h3:=lzh2.trans le3
   have iu0:=iu
   obtain ⟨pa2,pc2,ma2,mc2,ea2,ec2,xa2,xc2,oa2,oc2,da2,dc2,ta2,tc2,ka2,kc2,ra2,rc2,rfl⟩:=iu.slices
   refine xkp ((Drop.mem (by first | exact List.mem_cons_self | exact List.mem_cons_of_mem _ List.mem_cons_self | exact List.mem_cons_of_mem _ (List.mem_cons_of_mem _ List.mem_cons_self))).trans (Drop.forget lzh3)) ?_
   have n1:=nd.1.1
   have n2:=nd.1.2.1
   have n3:=nd.2.1.1
   try simp only at n1 n2 n3
   refine xx ?_
   exact ⟨⟨h3,b3,b4,op,om,F,R,⟨ovs op s.purses.length,ovs om s.members.length,.slice ye s.entry.length ce,.slice yx s.exit.length cx,.slice yo s.pool.length co,.slice yd s.dues.length cd,.slice yt s.motions.length ct,.slice yk s.marks.length ck,.slice yr s.ring.length cr⟩,⟨.slice pa2 s.purses.length pc2,.slice ma2 s.members.length mc2,.slice ea2 s.entry.length ec2,.slice xa2 s.exit.length xc2,.slice oa2 s.pool.length oc2,.slice da2 s.dues.length dc2,.slice ta2 s.motions.length tc2,.slice ka2 s.marks.length kc2,.slice ra2 s.ring.length rc2⟩⟩,⟨lzh3,ok1,ok2,of.up le3,⟨⟨_,_,_,_,_,_,_,_,_,_,_,_,_,_,rfl⟩⟩,iu0,ap3,nd⟩,by simp [Ent,List.lookup],Drop.refl _ _⟩
  refine xx ?_
  refine xkp ((Drop.mem (by first | exact List.mem_cons_self | exact List.mem_cons_of_mem _ List.mem_cons_self | exact List.mem_cons_of_mem _ (List.mem_cons_of_mem _ List.mem_cons_self))).trans (Drop.refl _ _)) ?_
  refine xx ?_
  refine Spec.fin (Spec.apn (own24f_any (s:=s) ⟨.slice pa s.purses.length pc,.slice ma s.members.length mc,.slice ea s.entry.length ec,.slice xa s.exit.length xc,.slice oa s.pool.length oc,.slice da s.dues.length dc,.slice ta s.motions.length tc,.slice ka s.marks.length kc,.slice ra s.ring.length rc⟩ (hs.up (le1.trans (PH.le_refl h1))) few fun h2 op om F R ye yx yo yd yt yk yr ce cx co cd ct ck cr le2 ok1 ok2 of ap nd=>⟨_,_,Drop.perm _ (own_front3 _ _ _),?_⟩))
  have ap:=ap_perm (own_front3 _ _ _) ap
  have nd:=nd_perm (own_front3 _ _ _) nd
  have zb1:h2 b1=noC:=ap.2.2.1
  have lzh2:PH.le h1 h2:=le2
  refine xkp ((Drop.mem (by first | exact List.mem_cons_self | exact List.mem_cons_of_mem _ List.mem_cons_self | exact List.mem_cons_of_mem _ (List.mem_cons_of_mem _ List.mem_cons_self))).trans (Drop.forget lzh2)) ?_
  refine xx ?_
  refine Spec.ap (own24k_any (s:=s) ⟨.slice pa s.purses.length pc,.slice ma s.members.length mc,.slice ea s.entry.length ec,.slice xa s.exit.length xc,.slice oa s.pool.length oc,.slice da s.dues.length dc,.slice ta s.motions.length tc,.slice ka s.marks.length kc,.slice ra s.ring.length rc⟩ (hs.up (le1.trans lzh2)) few fun h3 u le3 iu ap3=>?_)
  have lzh3:PH.le h1 h3:=lzh2.trans le3
  have iu0:=iu
  obtain ⟨pa2,pc2,ma2,mc2,ea2,ec2,xa2,xc2,oa2,oc2,da2,dc2,ta2,tc2,ka2,kc2,ra2,rc2,rfl⟩:=iu.slices
  refine xkp ((Drop.mem (by first | exact List.mem_cons_self | exact List.mem_cons_of_mem _ List.mem_cons_self | exact List.mem_cons_of_mem _ (List.mem_cons_of_mem _ List.mem_cons_self))).trans (Drop.forget lzh3)) ?_
  have n1:=nd.1.1
  have n2:=nd.1.2.1
  have n3:=nd.2.1.1
  try simp only at n1 n2 n3
  refine xx ?_
  exact ⟨⟨h3,b3,b4,op,om,F,R,⟨ovs op s.purses.length,ovs om s.members.length,.slice ye s.entry.length ce,.slice yx s.exit.length cx,.slice yo s.pool.length co,.slice yd s.dues.length cd,.slice yt s.motions.length ct,.slice yk s.marks.length ck,.slice yr s.ring.length cr⟩,⟨.slice pa2 s.purses.length pc2,.slice ma2 s.members.length mc2,.slice ea2 s.entry.length ec2,.slice xa2 s.exit.length xc2,.slice oa2 s.pool.length oc2,.slice da2 s.dues.length dc2,.slice ta2 s.motions.length tc2,.slice ka2 s.marks.length kc2,.slice ra2 s.ring.length rc2⟩⟩,⟨lzh3,ok1,ok2,of.up le3,⟨⟨_,_,_,_,_,_,_,_,_,_,_,_,_,_,rfl⟩⟩,iu0,ap3,nd⟩,by simp [Ent,List.lookup],Drop.refl _ _⟩
 clear a1
 rintro ⟨h3,b3,b4,op,om,F,R,vv,u⟩ ⟨le3,ok1,ok2,of,ov,iu,ap,nd⟩
 simp only at le3 ok1 ok2 of ov iu ap nd ⊢
 obtain ⟨ye,yx,yo,yd,yt,yk,yr,ce,cx,co,cd,ct,ck,cr,rfl⟩:=ov.e
 simp only at of
 have iu0:=iu
 obtain ⟨pa2,pc2,ma2,mc2,ea2,ec2,xa2,xc2,oa2,oc2,da2,dc2,ta2,tc2,ka2,kc2,ra2,rc2,rfl⟩:=iu.slices
 have n34:b4≠b3:=nd.1.1
 have n31:b1≠b3:=nd.1.2.1
 have n41:b1≠b4:=nd.2.1.1
 obtain ⟨m3,q3⟩:=apart_oentS nd.1.2.2
 obtain ⟨m4,q4⟩:=apart_oentS nd.2.1.2
 obtain ⟨m1,q1⟩:=apart_oentS nd.2.2.1
 obtain ⟨p3,f3⟩:=apart_oentS q3
 obtain ⟨p4,f4⟩:=apart_oentS q4
 obtain ⟨p1,f1⟩:=apart_oentS q1
 obtain ⟨_,mx⟩:=nd_oentS nd.2.2.2
 have a3:h3 b3=noC:=ap.1
 have a4:h3 b4=noC:=ap.2.1
 have a1:h3 b1=noC:=ap.2.2.1
 obtain ⟨am,ap⟩:=ap_oentS ap.2.2.2
 obtain ⟨aq,ap⟩:=ap_oentS ap
 have f3:=apart_fam f3
 have f4:=apart_fam f4
 have f1:=apart_fam f1
 have af:=ap_fam ap
 clear nd ap q3 q4 q1
 obtain ⟨pa9,pc9,ep9,_⟩:=ovs_open ok1
 obtain ⟨ma9,mc9,em9,_⟩:=ovs_open ok2
 rw [ep9,em9]
 refine xx ?_
 obtain ⟨vA,hvA⟩:∃ vA:SV,vA=⟨.slice pa9 s.purses.length pc9,.slice ma9 s.members.length mc9,.slice ye s.entry.length ce,.slice yx s.exit.length cx,.slice yo s.pool.length co,.slice yd s.dues.length cd,.slice yt s.motions.length ct,.slice yk s.marks.length ck,.slice yr s.ring.length cr⟩:=⟨_,rfl⟩
 refine xloop (γ:=Nat×List Value) (0,s.purses.map (.int .u64)) (fun y=>y.1≤s.purses.length∧y.2.length=s.purses.length)
  (fun y=>[(23,.int .i64 y.1),(22,.int .i64 s.purses.length),(1,.pointer (some ⟨b1,0,none⟩)),(3,.pointer (some ⟨b3,0,none⟩)),(4,.pointer (some ⟨b4,0,none⟩))])
  (fun y=>ownW b3 b4 b1 s vA ⟨.slice pa2 s.purses.length pc2,.slice ma2 s.members.length mc2,.slice ea2 s.entry.length ec2,.slice xa2 s.exit.length xc2,.slice oa2 s.pool.length oc2,.slice da2 s.dues.length dc2,.slice ta2 s.motions.length tc2,.slice ka2 s.marks.length kc2,.slice ra2 s.ring.length rc2⟩ ⟨.slice pa s.purses.length pc,.slice ma s.members.length mc,.slice ea s.entry.length ec,.slice xa s.exit.length xc,.slice oa s.pool.length oc,.slice da s.dues.length dc,.slice ta s.motions.length tc,.slice ka s.marks.length kc,.slice ra s.ring.length rc⟩ (oent 73 6 om (s.members.flatMap memC) (oent 22 1 op y.2 (famO 5 (F++R) L)))) (fun _=>h3) (fun y=>s.purses.length-y.1) ?_ ?_ ?_ ?_
 ·exact ⟨Nat.zero_le _,by simp⟩
 ·simp [Ent,List.lookup]
 ·subst hvA; exact Drop.refl _ _
 rintro ⟨k,cs⟩ ⟨k1,k2⟩
 simp only at k1 k2 ⊢
 subst hvA
 by_cases c1:k<s.purses.length
 ·obtain ⟨bp,cp,rfl⟩:∃ bp cp,op=some (bp,cp):=by
   cases op with
   | none=>have:s.purses.length=0:=ok1; omega
   | some p=>exact ⟨_,_,rfl⟩
  simp only [ovs,Value.slice.injEq] at ep9
  obtain ⟨rfl,_,rfl⟩:=ep9
  have h9:h3 bp=noC:=aq.2
  have r1:bp≠b3:=p3
  have r2:bp≠b4:=p4
  have r3:bp≠b1:=p1
  have r4:apB om bp:=by
   cases om with
   | none=>trivial
   | some q=>exact fun e=>(mx q rfl).1 e.symm
  rw [oent_some]
  simp -dsimp -implicitDefEqProofs (disch:=first|with_reducible assumption|omega) [go_sem,xSet_oent r4,xFind_oent r4]
  exact ⟨by omega,k+1,cs.set k (.int .u64 77),⟨by omega,by rw [List.length_set]; exact k2⟩,by omega,by simp [Ent,List.lookup],(by simp only [ownW,oent_some,Nat.mul_one]; exact Drop.refl _ _)⟩
 obtain rfl:k=s.purses.length:=by omega
 refine xx ?_
 obtain ⟨vA,hvA⟩:∃ vA:SV,vA=⟨.slice pa9 s.purses.length pc9,.slice ma9 s.members.length mc9,.slice ye s.entry.length ce,.slice yx s.exit.length cx,.slice yo s.pool.length co,.slice yd s.dues.length cd,.slice yt s.motions.length ct,.slice yk s.marks.length ck,.slice yr s.ring.length cr⟩:=⟨_,rfl⟩
 refine xloop (γ:=Nat×List Value) (0,s.members.flatMap memC) (fun y=>y.1≤s.members.length∧y.2.length=s.members.length*6)
  (fun y=>[(34,.int .i64 y.1),(33,.int .i64 s.members.length),(1,.pointer (some ⟨b1,0,none⟩)),(3,.pointer (some ⟨b3,0,none⟩)),(4,.pointer (some ⟨b4,0,none⟩))])
  (fun y=>ownW b3 b4 b1 s vA ⟨.slice pa2 s.purses.length pc2,.slice ma2 s.members.length mc2,.slice ea2 s.entry.length ec2,.slice xa2 s.exit.length xc2,.slice oa2 s.pool.length oc2,.slice da2 s.dues.length dc2,.slice ta2 s.motions.length tc2,.slice ka2 s.marks.length kc2,.slice ra2 s.ring.length rc2⟩ ⟨.slice pa s.purses.length pc,.slice ma s.members.length mc,.slice ea s.entry.length ec,.slice xa s.exit.length xc,.slice oa s.pool.length oc,.slice da s.dues.length dc,.slice ta s.motions.length tc,.slice ka s.marks.length kc,.slice ra s.ring.length rc⟩ (oent 73 6 om y.2 (famO 5 (F++R) L))) (fun _=>h3) (fun y=>s.members.length-y.1) ?_ ?_ ?_ ?_
 ·exact ⟨Nat.zero_le _,by rw [flatG_len memC_len]⟩
 ·simp [Ent,List.lookup]
 ·subst hvA; exact Drop.subT _ (sub_consS (sub_consS (sub_consS (sub_oentT (sub_oentS (List.Sublist.refl _))))))
 clear c1 k1 k2
 rintro ⟨k,cs⟩ ⟨k1,k2⟩
 simp only at k1 k2 ⊢
 subst hvA
 by_cases c1:k<s.members.length
 ·obtain ⟨bm,cm,rfl⟩:∃ bm cm,om=some (bm,cm):=by
   cases om with
   | none=>have:s.members.length=0:=ok2; omega
   | some p=>exact ⟨_,_,rfl⟩
  simp only [ovs,Value.slice.injEq] at em9
  obtain ⟨rfl,_,rfl⟩:=em9
  have h9:h3 bm=noC:=am.2
  have r1:bm≠b3:=m3
  have r2:bm≠b4:=m4
  have r3:bm≠b1:=m1
  rw [oent_some]
  refine xx ?_
  refine ⟨by omega,k+1,_,⟨by omega,?_⟩,by omega,by simp [Ent,List.lookup],Drop.refl _ _⟩
  simp only [List.length_set]; exact k2
 obtain rfl:k=s.members.length:=by omega
 refine xx ?_
 obtain ⟨ql,rq,hq1,hq2⟩:=of.t
 have hFl:F.length=s.motions.length:=by have:=congrArg List.length hq2; rw [List.length_map,List.length_map] at this; omega
 have fvF:∀ i,i<F.length→(gr zeroQM ql i).1=fvO (gr zeroFam F i):=fun i hi=>by
  have:=congrArg (fun l=>l[i]?) hq2
  simp only [List.getElem?_map] at this
  rw [List.getElem?_eq_getElem hi,List.getElem?_eq_getElem (by omega)] at this
  simp only [Option.map_some,Option.some.injEq] at this
  rw [gr_lt (by omega),gr_lt hi]; exact this.symm
 obtain ⟨vA,hvA⟩:∃ vA:SV,vA=⟨.slice pa9 s.purses.length pc9,.slice ma9 s.members.length mc9,.slice ye s.entry.length ce,.slice yx s.exit.length cx,.slice yo s.pool.length co,.slice yd s.dues.length cd,.slice yt s.motions.length ct,.slice yk s.marks.length ck,.slice yr s.ring.length cr⟩:=⟨_,rfl⟩
 refine xloop (γ:=Nat) 0 (fun y=>y≤s.motions.length)
  (fun y=>[(46,.int .i64 y),(45,.int .i64 s.motions.length),(1,.pointer (some ⟨b1,0,none⟩)),(3,.pointer (some ⟨b3,0,none⟩)),(4,.pointer (some ⟨b4,0,none⟩))])
  (fun y=>ownW b3 b4 b1 s vA ⟨.slice pa2 s.purses.length pc2,.slice ma2 s.members.length mc2,.slice ea2 s.entry.length ec2,.slice xa2 s.exit.length xc2,.slice oa2 s.pool.length oc2,.slice da2 s.dues.length dc2,.slice ta2 s.motions.length tc2,.slice ka2 s.marks.length kc2,.slice ra2 s.ring.length rc2⟩ ⟨.slice pa s.purses.length pc,.slice ma s.members.length mc,.slice ea s.entry.length ec,.slice xa s.exit.length xc,.slice oa s.pool.length oc,.slice da s.dues.length dc,.slice ta s.motions.length tc,.slice ka s.marks.length kc,.slice ra s.ring.length rc⟩ (famO 5 (F.drop y++R) L)) (fun _=>h3) (fun y=>s.motions.length-y) ?_ ?_ ?_ ?_
 ·exact Nat.zero_le _
 ·simp [Ent,List.lookup]
 ·subst hvA; exact drop3o _ _ _
 clear c1 k1 k2
 intro i hi
 subst hvA
 by_cases c1:i<s.motions.length
 ·have ed:F.drop i=gr zeroFam F i::F.drop (i+1):=by rw [List.drop_eq_getElem_cons (by omega),gr_lt (by omega)]
  obtain ⟨X,hX⟩:∃ X,X=gr zeroFam F i:=⟨_,rfl⟩
  have hXF:X∈F:=by rw [hX,gr_lt (by omega)]; exact List.getElem_mem _
  have hXR:X∈F++R:=List.mem_append_left _ hXF
  have g1:=f3 X hXR
  have g2:=f4 X hXR
  have g3:=f1 X hXR
  have g4:=af X hXR
  have g5:=of.fo X hXF
  have e1:(gr zeroQM ql i).1=ovs X.1 X.2.length:=by rw [fvF i (by omega),← hX,fvO]
  rw [ed,← hX]
  obtain ⟨ox,xs⟩:=X
  simp only at g1 g2 g3 g4 g5 e1 ⊢
  obtain ⟨xa9,xc9,ex9,_⟩:=ovs_open g5.1
  rw [ex9] at e1
  have C31:∀ (L:Own) (K:Value→Prop) (t:Tok K),xCell L h3 (elem yt (i*33+31)) 0 K t=K (.slice xa9 xs.length xc9):=fun L K t=>Recs.fld zeroQM rq (j:=i) (o:=31) (by omega) (by rw [← e1]; rfl) L K t
  simp -dsimp -implicitDefEqProofs (disch:=first|with_reducible assumption|omega) [go_sem,↓idxR zeroQM (by decide) rq,C31]
  obtain ⟨vA,hvA⟩:∃ vA:SV,vA=⟨.slice pa9 s.purses.length pc9,.slice ma9 s.members.length mc9,.slice ye s.entry.length ce,.slice yx s.exit.length cx,.slice yo s.pool.length co,.slice yd s.dues.length cd,.slice yt s.motions.length ct,.slice yk s.marks.length ck,.slice yr s.ring.length cr⟩:=⟨_,rfl⟩
  refine xloop (γ:=Nat×List Value) (0,xs) (fun y=>y.1≤xs.length∧y.2.length=xs.length)
   (fun y=>[(56,.int .i64 y.1),(55,.int .i64 xs.length),(7,.int .i64 i),(46,.int .i64 i),(45,.int .i64 s.motions.length),(1,.pointer (some ⟨b1,0,none⟩)),(3,.pointer (some ⟨b3,0,none⟩)),(4,.pointer (some ⟨b4,0,none⟩))])
   (fun y=>ownW b3 b4 b1 s vA ⟨.slice pa2 s.purses.length pc2,.slice ma2 s.members.length mc2,.slice ea2 s.entry.length ec2,.slice xa2 s.exit.length xc2,.slice oa2 s.pool.length oc2,.slice da2 s.dues.length dc2,.slice ta2 s.motions.length tc2,.slice ka2 s.marks.length kc2,.slice ra2 s.ring.length rc2⟩ ⟨.slice pa s.purses.length pc,.slice ma s.members.length mc,.slice ea s.entry.length ec,.slice xa s.exit.length xc,.slice oa s.pool.length oc,.slice da s.dues.length dc,.slice ta s.motions.length tc,.slice ka s.marks.length kc,.slice ra s.ring.length rc⟩ (oent 5 1 ox y.2 (famO 5 (F.drop (i+1)++R) L))) (fun _=>h3) (fun y=>xs.length-y.1) ?_ ?_ ?_ ?_
  ·exact ⟨Nat.zero_le _,rfl⟩
  ·simp [Ent,List.lookup]
  ·subst hvA; exact Drop.refl _ _
  rintro ⟨j,cs⟩ ⟨j1,j2⟩
  simp only at j1 j2 ⊢
  subst hvA
  by_cases c2:j<xs.length
  ·obtain ⟨bx,c8,rfl⟩:∃ bx c8,ox=some (bx,c8):=by
    cases ox with
    | none=>have:xs.length=0:=g5.1; omega
    | some p=>exact ⟨_,_,rfl⟩
   simp only [ovs,Value.slice.injEq] at ex9
   obtain ⟨rfl,_,rfl⟩:=ex9
   have h9:h3 bx=noC:=g4.2
   have r1:bx≠b3:=g1
   have r2:bx≠b4:=g2
   have r3:bx≠b1:=g3
   rw [oent_some]
   simp -dsimp -implicitDefEqProofs (disch:=first|with_reducible assumption|omega) [go_sem,↓idxR zeroQM (by decide) rq,C31]
   exact ⟨by omega,j+1,cs.set j (.int .u8 255),⟨by omega,by rw [List.length_set]; exact j2⟩,by omega,by simp [Ent,List.lookup],(by simp only [ownW,oent_some,Nat.mul_one]; exact Drop.refl _ _)⟩
  obtain rfl:j=xs.length:=by omega
  refine xx ?_
  exact ⟨i+1,by omega,by omega,by simp [Ent,List.lookup],drop3o _ _ _⟩
 obtain rfl:i=s.motions.length:=by omega
 rw [List.drop_of_length_le (by omega),List.nil_append]
 refine xx ?_
 have hRl:=of.n
 have rr:=of.r
 obtain ⟨_,ya8,yc8,er8,_,_,_,_,hrc⟩:=rr
 injection er8 with er8 _ er9
 subst er8
 have fvR:∀ i,i<R.length→elemCell h3 yr i=some (fvO (gr zeroFam R i)):=fun i hi=>hrc i _ (by rw [List.getElem?_map,List.getElem?_eq_getElem hi,gr_lt hi]; rfl)
 obtain ⟨vA,hvA⟩:∃ vA:SV,vA=⟨.slice pa9 s.purses.length pc9,.slice ma9 s.members.length mc9,.slice ye s.entry.length ce,.slice yx s.exit.length cx,.slice yo s.pool.length co,.slice yd s.dues.length cd,.slice yt s.motions.length ct,.slice yk s.marks.length ck,.slice yr s.ring.length cr⟩:=⟨_,rfl⟩
 refine xloop (γ:=Nat) 0 (fun y=>y≤s.ring.length)
  (fun y=>[(72,.int .i64 y),(71,.int .i64 s.ring.length),(1,.pointer (some ⟨b1,0,none⟩)),(3,.pointer (some ⟨b3,0,none⟩)),(4,.pointer (some ⟨b4,0,none⟩))])
  (fun y=>ownW b3 b4 b1 s vA ⟨.slice pa2 s.purses.length pc2,.slice ma2 s.members.length mc2,.slice ea2 s.entry.length ec2,.slice xa2 s.exit.length xc2,.slice oa2 s.pool.length oc2,.slice da2 s.dues.length dc2,.slice ta2 s.motions.length tc2,.slice ka2 s.marks.length kc2,.slice ra2 s.ring.length rc2⟩ ⟨.slice pa s.purses.length pc,.slice ma s.members.length mc,.slice ea s.entry.length ec,.slice xa s.exit.length xc,.slice oa s.pool.length oc,.slice da s.dues.length dc,.slice ta s.motions.length tc,.slice ka s.marks.length kc,.slice ra s.ring.length rc⟩ (famO 5 (R.drop y) L)) (fun _=>h3) (fun y=>s.ring.length-y) ?_ ?_ ?_ ?_
 ·exact Nat.zero_le _
 ·simp [Ent,List.lookup]
 ·subst hvA; exact Drop.refl _ _
 clear c1 hi
 intro i hi
 subst hvA
 by_cases c1:i<s.ring.length
 ·have ed:R.drop i=gr zeroFam R i::R.drop (i+1):=by rw [List.drop_eq_getElem_cons (by omega),gr_lt (by omega)]
  obtain ⟨X,hX⟩:∃ X,X=gr zeroFam R i:=⟨_,rfl⟩
  have hXF:X∈R:=by rw [hX,gr_lt (by omega)]; exact List.getElem_mem _
  have hXR:X∈F++R:=List.mem_append_right _ hXF
  have g1:=f3 X hXR
  have g2:=f4 X hXR
  have g3:=f1 X hXR
  have g4:=af X hXR
  have g5:=of.ro X hXF
  have e1:elemCell h3 yr i=some (ovs X.1 X.2.length):=by rw [fvR i (by omega),← hX,fvO]
  rw [ed,← hX]
  obtain ⟨ox,xs⟩:=X
  simp only at g1 g2 g3 g4 g5 e1 ⊢
  obtain ⟨xa9,xc9,ex9,_⟩:=ovs_open g5.1
  rw [ex9] at e1
  have hcs:∀ j,j<s.ring.length→elemCell h3 yr j=some (fvO (gr zeroFam R j)):=fun j hj=>fvR j (by omega)
  have e2:fvO (gr zeroFam R i) = .slice xa9 xs.length xc9:=by rw [← hX,fvO]; exact ex9
  simp -dsimp -implicitDefEqProofs (disch:=first|with_reducible assumption|omega) [go_sem,idx hcs,e2]
  obtain ⟨vA,hvA⟩:∃ vA:SV,vA=⟨.slice pa9 s.purses.length pc9,.slice ma9 s.members.length mc9,.slice ye s.entry.length ce,.slice yx s.exit.length cx,.slice yo s.pool.length co,.slice yd s.dues.length cd,.slice yt s.motions.length ct,.slice yk s.marks.length ck,.slice yr s.ring.length cr⟩:=⟨_,rfl⟩
  refine xloop (γ:=Nat×List Value) (0,xs) (fun y=>y.1≤xs.length∧y.2.length=xs.length)
   (fun y=>[(81,.int .i64 y.1),(80,.int .i64 xs.length),(9,.int .i64 i),(72,.int .i64 i),(71,.int .i64 s.ring.length),(1,.pointer (some ⟨b1,0,none⟩)),(3,.pointer (some ⟨b3,0,none⟩)),(4,.pointer (some ⟨b4,0,none⟩))])
   (fun y=>ownW b3 b4 b1 s vA ⟨.slice pa2 s.purses.length pc2,.slice ma2 s.members.length mc2,.slice ea2 s.entry.length ec2,.slice xa2 s.exit.length xc2,.slice oa2 s.pool.length oc2,.slice da2 s.dues.length dc2,.slice ta2 s.motions.length tc2,.slice ka2 s.marks.length kc2,.slice ra2 s.ring.length rc2⟩ ⟨.slice pa s.purses.length pc,.slice ma s.members.length mc,.slice ea s.entry.length ec,.slice xa s.exit.length xc,.slice oa s.pool.length oc,.slice da s.dues.length dc,.slice ta s.motions.length tc,.slice ka s.marks.length kc,.slice ra s.ring.length rc⟩ (oent 5 1 ox y.2 (famO 5 (R.drop (i+1)) L))) (fun _=>h3) (fun y=>xs.length-y.1) ?_ ?_ ?_ ?_
  ·exact ⟨Nat.zero_le _,rfl⟩
  ·simp [Ent,List.lookup]
  ·subst hvA; exact Drop.refl _ _
  rintro ⟨j,cs⟩ ⟨j1,j2⟩
  simp only at j1 j2 ⊢
  subst hvA
  by_cases c2:j<xs.length
  ·obtain ⟨bx,c8,rfl⟩:∃ bx c8,ox=some (bx,c8):=by
    cases ox with
    | none=>have:xs.length=0:=g5.1; omega
    | some p=>exact ⟨_,_,rfl⟩
   simp only [ovs,Value.slice.injEq] at ex9
   obtain ⟨rfl,_,rfl⟩:=ex9
   have h9:h3 bx=noC:=g4.2
   have r1:bx≠b3:=g1
   have r2:bx≠b4:=g2
   have r3:bx≠b1:=g3
   rw [oent_some]
   simp -dsimp -implicitDefEqProofs (disch:=first|with_reducible assumption|omega) [go_sem,idx hcs,e2]
   exact ⟨by omega,j+1,cs.set j (.int .u8 255),⟨by omega,by rw [List.length_set]; exact j2⟩,by omega,by simp [Ent,List.lookup],(by simp only [ownW,oent_some,Nat.mul_one]; exact Drop.refl _ _)⟩
  obtain rfl:j=xs.length:=by omega
  refine xx ?_
  exact ⟨i+1,by omega,by omega,by simp [Ent,List.lookup],drop3o _ _ _⟩
 obtain rfl:i=s.ring.length:=by omega
 rw [List.drop_of_length_le (by omega)]
 have le13:=le1.trans le3
 refine xx ?_
 refine xanyl (.tkl 0 (.tkl 2 (.or true 1 (.or true 3 (.or true 4 (.tk 5 (.fin)) (.nil)) (.nil)) (.nil)))) (by kernel_rfl) (by kernel_rfl) [⟨b4,39,stC s ⟨.slice pa2 s.purses.length pc2,.slice ma2 s.members.length mc2,.slice ea2 s.entry.length ec2,.slice xa2 s.exit.length xc2,.slice oa2 s.pool.length oc2,.slice da2 s.dues.length dc2,.slice ta2 s.motions.length tc2,.slice ka2 s.marks.length kc2,.slice ra2 s.ring.length rc2⟩,41⟩,⟨b1,39,stC s ⟨.slice pa s.purses.length pc,.slice ma s.members.length mc,.slice ea s.entry.length ec,.slice xa s.exit.length xc,.slice oa s.pool.length oc,.slice da s.dues.length dc,.slice ta s.motions.length tc,.slice ka s.marks.length kc,.slice ra s.ring.length rc⟩,41⟩] (Drop.subT _ (List.Sublist.cons _ (sub_consS (sub_consS (List.nil_sublist _))))) ?_
 refine xx ?_
 have f9:=few9_len (fewB_9 hf)
 refine Spec.ap (plain24_any (s:=s) (v:=⟨.slice pa2 s.purses.length pc2,.slice ma2 s.members.length mc2,.slice ea2 s.entry.length ec2,.slice xa2 s.exit.length xc2,.slice oa2 s.pool.length oc2,.slice da2 s.dues.length dc2,.slice ta2 s.motions.length tc2,.slice ka2 s.marks.length kc2,.slice ra2 s.ring.length rc2⟩) iu0 (by have:=few.m; omega) (by have:=few.o; omega) (by omega) (by have:=few.t; omega) fun h5 u5 le5 i5 ap=>?_)
 clear ap
 refine xkp ((Drop.subT _ (List.Sublist.cons _ (sub_consS (sub_consS (List.nil_sublist _))))).trans (Drop.forget le5)) ?_
 refine xx ?_
 refine Spec.ap (plain24_any (s:=s) (v:=⟨.slice pa s.purses.length pc,.slice ma s.members.length mc,.slice ea s.entry.length ec,.slice xa s.exit.length xc,.slice oa s.pool.length oc,.slice da s.dues.length dc,.slice ta s.motions.length tc,.slice ka s.marks.length kc,.slice ra s.ring.length rc⟩) (hs.up (le13.trans le5)) (by have:=few.m; omega) (by have:=few.o; omega) (by omega) (by have:=few.t; omega) fun h6 u6 le6 i6 ap=>?_)
 clear ap
 refine xkp ((Drop.subT _ (List.Sublist.cons _ (sub_consS (sub_consS (List.nil_sublist _))))).trans (Drop.forget (le5.trans le6))) ?_
 obtain ⟨pa5,pc5,ma5,mc5,ea5,ec5,xa5,xc5,oa5,oc5,da5,dc5,ta5,tc5,ka5,kc5,ra5,rc5,rfl⟩:=i5.slices
 obtain ⟨pa6,pc6,ma6,mc6,ea6,ec6,xa6,xc6,oa6,oc6,da6,dc6,ta6,tc6,ka6,kc6,ra6,rc6,rfl⟩:=i6.slices
 refine xx ?_
 refine same24_like (s:=s) (v:=⟨.slice pa5 s.purses.length pc5,.slice ma5 s.members.length mc5,.slice ea5 s.entry.length ec5,.slice xa5 s.exit.length xc5,.slice oa5 s.pool.length oc5,.slice da5 s.dues.length dc5,.slice ta5 s.motions.length tc5,.slice ka5 s.marks.length kc5,.slice ra5 s.ring.length rc5⟩) (u:=⟨.slice pa6 s.purses.length pc6,.slice ma6 s.members.length mc6,.slice ea6 s.entry.length ec6,.slice xa6 s.exit.length xc6,.slice oa6 s.pool.length oc6,.slice da6 s.dues.length dc6,.slice ta6 s.motions.length tc6,.slice ka6 s.marks.length kc6,.slice ra6 s.ring.length rc6⟩) (i5.up le6) i6 ?_
 refine xkp ((Drop.subT _ (List.Sublist.cons _ (sub_consS (sub_consS (List.nil_sublist _))))).trans (Drop.forget (le5.trans le6))) ?_
 refine xx ?_
 exact fin_tail (fin_tail (fin_tail (fin_here (hk h6 (le13.trans (le5.trans le6))))))
end Go.X

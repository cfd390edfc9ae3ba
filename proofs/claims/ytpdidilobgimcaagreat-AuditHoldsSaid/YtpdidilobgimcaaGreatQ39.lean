/- Lemmas and contracts. Conditions: as each says. -/
import Derived.Test.YtpdidilobgimcaaGreatQ38
set_option linter.unusedVariables false
set_option linter.unusedSimpArgs false
set_option maxHeartbeats 12800000
set_option maxRecDepth 20000
namespace Go.X
open Go.RowKit Go.Proofs Go.Bl Go.Proofs.Tryz
variable {L:Own} {h:PH} {K:PK}
theorem Znj {a b:Ze}{v u:SV}{r:Zf}{q:RV}(H:ZL h a b v u r q)(hk:K (.bool (Wv a b r)) L h):Zb prog 128 [stV a v,stV b u,rpV r q] L h K:=by
 obtain⟨_,_,la,_⟩:=YS H.fa;obtain⟨_,_,lb,_⟩:=YS H.fb;have hv:=H.ha;have hv0:=H.ha;have hu:=H.hb;have hu0:=H.hb;have hr:=H.hr;obtain⟨pa,pc,ma,mc,ea,ec,xa,xc,oa,oc,da,dc,ta,tc,ka,kc,ra,rc,rfl⟩:=hv.slices;obtain⟨pa2,pc2,ma2,mc2,ea2,ec2,xa2,xc2,oa2,oc2,da2,dc2,ta2,tc2,ka2,kc2,ra2,rc2,rfl⟩:=hu.slices;obtain⟨qoa,qoc,qla,qlc,qsa,qsc,qda,qdc,rfl⟩:=hr.sl;clear hv hu hr;unfold Wv at hk;refine ZS func128 rfl (rs:=[_]) rfl rfl ZY (by kernel_rfl) rfl rfl ?_;refine xx ?_;refine Z0 fun b3 nb3 zb3=>?_;(try simp only[ZT]at nb3);refine xx ?_;refine Z0 fun b4 nb4 zb4=>?_;(try simp only[ZT]at nb4);have n43:=nb4.1;refine xx ?_;refine Z0 fun b5 nb5 zb5=>?_;(try simp only[ZT]at nb5);have n54:=nb5.1;have n53:=nb5.2.1;refine xx ?_
 cases hq:r.quo with
 | true =>
  rw[hq,Bool.true_or]at hk;simp -dsimp -implicitDefEqProofs (disch:=first|with_reducible assumption|omega) [go_sem,hq];exact ZO (ZO (ZO (ZP hk)))
 | false =>
 rw[hq,Bool.false_or]at hk;simp -dsimp -implicitDefEqProofs (disch:=first|with_reducible assumption|omega) [go_sem,hq,Yfl];by_cases c1:a.par=b.par
 rotate_left
 ·rw[decide_eq_false c1,Bool.false_and]at hk;refine xx ?_;exact ZO (ZO (ZO (ZP hk)))
 rw[decide_eq_true c1,Bool.true_and]at hk;by_cases c2:a.members.length=b.members.length
 rotate_left
 ·rw[decide_eq_false c2,Bool.false_and]at hk;refine xx ?_;exact ZO (ZO (ZO (ZP hk)))
 rw[decide_eq_true c2,Bool.true_and]at hk;refine xx ?_;refine Zqe _ _ hv0.o hu0.o ?_
 cases c3:Vb a.pool b.pool with
 | false =>
  rw[c3,Bool.false_and]at hk;refine xx ?_;exact ZO (ZO (ZO (ZP hk)))
 | true =>
 rw[c3,Bool.true_and]at hk;obtain⟨a1,d1,e1,g1,g2,_,hda⟩:=hv0.m.open;obtain⟨a2,d2,e2,g3,g4,_,hdb⟩:=hu0.m.open;injection e1 with e11 _ e13
 injection e2 with e21 _ e23
 subst e11 e13 e21 e23;refine xx ?_;refine Wj (0:Nat) (fun k=>k≤b.members.length∧∀j,j<k→(gr ZR b.members j).status=2→(gr ZR a.members j).status=2) (fun k=>[(7,.int .i64 k),(3,.pointer (some ⟨b3,0,none⟩)),(4,.pointer (some ⟨b4,0,none⟩))]) (fun k=>b.members.length-k) ?_ ?_ ?_
 ·exact⟨Nat.zero_le _,fun j hj=>by omega⟩
 ·simp [Ent,List.lookup,Y5]
 rintro k ⟨k1,k2⟩;by_cases d1:k<b.members.length
 ·have fb:∀(L:Own) (K:Value→Prop) (t:Zo K),J1 L h (GJ ma2 (k*6+5)) 0 K t=K (.int .i64 (gr ZR b.members k).status):=fun L K t=>hdb.fld ZR d1 (o:=5) rfl L K t;have fa:∀(L:Own) (K:Value→Prop) (t:Zo K),J1 L h (GJ ma (k*6+5)) 0 K t=K (.int .i64 (gr ZR a.members k).status):=fun L K t=>hda.fld ZR (by omega) (o:=5) rfl L K t;by_cases d2:(gr ZR b.members k).status=2
  ·by_cases d3:(gr ZR a.members k).status=2
   ·simp -dsimp -implicitDefEqProofs (disch:=first|with_reducible assumption|omega) [go_sem,↓WV ZR (by decide) hda,↓WV ZR (by decide) hdb,Ym,↓fa,↓fb];refine⟨k+1,⟨by omega,fun j hj=>?_⟩,by omega,by simp [Ent,List.lookup],Za.refl _ _⟩;by_cases e:j=k
    ·subst e;exact fun _=>d3
    ·exact k2 j (by omega)
   ·have e:Zvq a b=false:=by
     rw[Zvq,decide_eq_false_iff_not];exact fun x=>d3 (x k d1 d2)
    rw[e]at hk;simp -dsimp -implicitDefEqProofs (disch:=first|with_reducible assumption|omega) [go_sem,↓WV ZR (by decide) hda,↓WV ZR (by decide) hdb,Ym,↓fa,↓fb];exact ZO (ZO (ZO (ZP hk)))
  ·simp -dsimp -implicitDefEqProofs (disch:=first|with_reducible assumption|omega) [go_sem,↓WV ZR (by decide) hdb,Ym,↓fb];refine⟨k+1,⟨by omega,fun j hj=>?_⟩,by omega,by simp [Ent,List.lookup],Za.refl _ _⟩;by_cases e:j=k
   ·subst e;exact fun x=>absurd x d2
   ·exact k2 j (by omega)
 ·have e:Zvq a b=true:=by
   rw[Zvq,decide_eq_true_eq];exact fun j hj=>k2 j (by omega)
  rw[e]at hk;refine xx ?_;exact ZO (ZO (ZO (ZP hk)))
theorem Zll {a b:Ze}{v u:SV}{r:Zf}{q:RV}(H:ZL h a b v u r q)(hk:K (.bool (WG a b)) L h):Zb prog 129 [stV a v,stV b u] L h K:=by
 obtain⟨_,_,la,_⟩:=YS H.fa;obtain⟨_,_,lb,_⟩:=YS H.fb;have hv:=H.ha;have hv0:=H.ha;have hu:=H.hb;have hu0:=H.hb;obtain⟨pa,pc,ma,mc,ea,ec,xa,xc,oa,oc,da,dc,ta,tc,ka,kc,ra,rc,rfl⟩:=hv.slices;obtain⟨pa2,pc2,ma2,mc2,ea2,ec2,xa2,xc2,oa2,oc2,da2,dc2,ta2,tc2,ka2,kc2,ra2,rc2,rfl⟩:=hu.slices;clear hv hu;unfold WG at hk;refine ZS func129 rfl (rs:=[_]) rfl rfl ZY (by kernel_rfl) rfl rfl ?_;refine xx ?_;refine Z0 fun b2 nb2 zb2=>?_;(try simp only[ZT]at nb2);refine xx ?_;refine Z0 fun b3 nb3 zb3=>?_;(try simp only[ZT]at nb3);have n32:=nb3.1;simp -dsimp -implicitDefEqProofs (disch:=first|with_reducible assumption|omega) [go_sem,Yfl];by_cases c1:a.par=b.par
 rotate_left
 ·rw[decide_eq_false c1,Bool.not_false,Bool.true_or]at hk;refine xx ?_;exact ZO (ZO (ZP hk))
 rw[decide_eq_true c1,Bool.not_true,Bool.false_or]at hk;by_cases c2:a.members.length≤b.members.length
 rotate_left
 ·rw[decide_eq_false c2,Bool.false_and]at hk;refine xx ?_;exact ZO (ZO (ZP hk))
 rw[decide_eq_true c2,Bool.true_and]at hk;obtain⟨a1,d1,e1,g1,g2,_,hda⟩:=hv0.m.open;obtain⟨a2,d2,e2,g3,g4,_,hdb⟩:=hu0.m.open;injection e1 with e11 _ e13
 injection e2 with e21 _ e23
 subst e11 e13 e21 e23;refine xx ?_;refine Wj (0:Nat) (fun k=>k≤a.members.length∧∀j,j<k→AuM a b j) (fun k=>[(5,.int .i64 k),(2,.pointer (some ⟨b2,0,none⟩)),(3,.pointer (some ⟨b3,0,none⟩))]) (fun k=>a.members.length-k) ?_ ?_ ?_
 ·exact⟨Nat.zero_le _,fun j hj=>by omega⟩
 ·simp [Ent,List.lookup,Y5]
 rintro k ⟨k1,k2⟩;by_cases d1:k<a.members.length
 ·simp -dsimp -implicitDefEqProofs (disch:=first|with_reducible assumption|omega) [go_sem,↓WV ZR (by decide) hda,Ym];refine Z0 fun b6 nb6 zb6=>?_;(try simp only[ZT]at nb6);have n63:=nb6.1;have n62:=nb6.2.1;simp -dsimp -implicitDefEqProofs (disch:=first|with_reducible assumption|omega) [go_sem,↓WV ZR (by decide) hdb,Ym];refine Z0 fun b7 nb7 zb7=>?_;(try simp only[ZT]at nb7);have n76:=nb7.1;have n73:=nb7.2.1;have n72:=nb7.2.2.1;simp -dsimp -implicitDefEqProofs (disch:=first|with_reducible assumption|omega) [go_sem,Ym];by_cases d2:(gr ZR a.members k).status=2
  rotate_left
  ·simp -dsimp -implicitDefEqProofs (disch:=first|with_reducible assumption|omega) [go_sem,Ym];refine⟨k+1,⟨by omega,fun j hj=>?_⟩,by omega,by simp [Ent,List.lookup],(Za.tail _ _ _).trans (Za.tail _ _ _)⟩;by_cases e:j=k
   ·subst e;exact fun x=>absurd x d2
   ·exact k2 j (by omega)
  simp -dsimp -implicitDefEqProofs (disch:=first|with_reducible assumption|omega) [go_sem,Ym];refine Zae (bs:=a.marks) _ k hv0.k (by omega) ?_
  cases d3:WU a.marks (k:Int) with
  | false =>
   simp -dsimp -implicitDefEqProofs (disch:=first|with_reducible assumption|omega) [go_sem,Ym];refine⟨k+1,⟨by omega,fun j hj=>?_⟩,by omega,by simp [Ent,List.lookup],(Za.tail _ _ _).trans (Za.tail _ _ _)⟩;by_cases e:j=k
   ·subst e;exact fun _ x=>by rw[d3]at x;cases x
   ·exact k2 j (by omega)
  | true =>
  simp -dsimp -implicitDefEqProofs (disch:=first|with_reducible assumption|omega) [go_sem,Ym];refine Je (gr ZR b.members k) ?_;have no:∀X:Prop,(AuM a b k→X)→¬X→Zts a b=false:=fun X h1 h2=>by
   rw[Zts,decide_eq_false_iff_not];exact fun x=>h2 (h1 (x k d1))
  by_cases x1:(gr ZR b.members k).status=2∨(gr ZR b.members k).status=3
  rotate_left
  ·rw[no _ (fun x=>(x d2 d3).1) x1]at hk;rw[decide_eq_false x1];refine xx ?_;exact ZO (ZO (ZO (ZO (ZP hk))))
  rw[decide_eq_true x1];by_cases x2:(gr ZR a.members k).bal≤(gr ZR b.members k).bal
  rotate_left
  ·rw[no _ (fun x=>(x d2 d3).2.1) x2]at hk;simp -dsimp -implicitDefEqProofs (disch:=first|with_reducible assumption|omega) [go_sem,Ym];exact ZO (ZO (ZO (ZO (ZP hk))))
  by_cases x3:(gr ZR a.members k).streak≤(gr ZR b.members k).streak
  rotate_left
  ·rw[no _ (fun x=>(x d2 d3).2.2) x3]at hk;simp -dsimp -implicitDefEqProofs (disch:=first|with_reducible assumption|omega) [go_sem,Ym];exact ZO (ZO (ZO (ZO (ZP hk))))
  simp -dsimp -implicitDefEqProofs (disch:=first|with_reducible assumption|omega) [go_sem,Ym];refine⟨k+1,⟨by omega,fun j hj=>?_⟩,by omega,by simp [Ent,List.lookup],(Za.tail _ _ _).trans (Za.tail _ _ _)⟩;by_cases e:j=k
  ·subst e;exact fun _ _=>⟨x1,x2,x3⟩
  ·exact k2 j (by omega)
 ·have e:Zts a b=true:=by
   rw[Zts,decide_eq_true_eq];exact fun j hj=>k2 j (by omega)
  rw[e]at hk;refine xx ?_;exact ZO (ZO (ZP hk))
theorem auT1 {a b:Ze}{r:Zf}(h:(Yb a&&Yb b)=false):YX a b r=1:=by unfold YX;rw[if_pos h]
theorem auT2 {a b:Ze}{r:Zf}(h0:(Yb a&&Yb b)=true)(h:WO a b r=false):YX a b r=2:=by unfold YX;rw[if_neg (by rw[h0];decide),if_pos h]
theorem auT3 {a b:Ze}{r:Zf}(h0:(Yb a&&Yb b)=true)(h1:WO a b r=true)(h:Ud a b r=false):YX a b r=3:=by unfold YX;rw[if_neg (by rw[h0];decide),if_neg (by rw[h1];decide),if_pos h]
theorem auT4 {a b:Ze}{r:Zf}(h0:(Yb a&&Yb b)=true)(h1:WO a b r=true)(h2:Ud a b r=true)(h:WZ a r=false):YX a b r=4:=by unfold YX;rw[if_neg (by rw[h0];decide),if_neg (by rw[h1];decide),if_neg (by rw[h2];decide),if_pos h]
theorem auT5 {a b:Ze}{r:Zf}(h0:(Yb a&&Yb b)=true)(h1:WO a b r=true)(h2:Ud a b r=true)(h3:WZ a r=true)(h:UW a b r=false):YX a b r=5:=by unfold YX;rw[if_neg (by rw[h0];decide),if_neg (by rw[h1];decide),if_neg (by rw[h2];decide),if_neg (by rw[h3];decide),if_pos h]
theorem auT6 {a b:Ze}{r:Zf}(h0:(Yb a&&Yb b)=true)(h1:WO a b r=true)(h2:Ud a b r=true)(h3:WZ a r=true)(h4:UW a b r=true)(h:Wv a b r=false):YX a b r=6:=by unfold YX;rw[if_neg (by rw[h0];decide),if_neg (by rw[h1];decide),if_neg (by rw[h2];decide),if_neg (by rw[h3];decide),if_neg (by rw[h4];decide),if_pos h]
theorem auT7 {a b:Ze}{r:Zf}(h0:(Yb a&&Yb b)=true)(h1:WO a b r=true)(h2:Ud a b r=true)(h3:WZ a r=true)(h4:UW a b r=true)(h5:Wv a b r=true)(h:WG a b=false):YX a b r=7:=by unfold YX;rw[if_neg (by rw[h0];decide),if_neg (by rw[h1];decide),if_neg (by rw[h2];decide),if_neg (by rw[h3];decide),if_neg (by rw[h4];decide),if_neg (by rw[h5];decide),if_pos h]
theorem auT0 {a b:Ze}{r:Zf}(h0:(Yb a&&Yb b)=true)(h1:WO a b r=true)(h2:Ud a b r=true)(h3:WZ a r=true)(h4:UW a b r=true)(h5:Wv a b r=true)(h6:WG a b=true):YX a b r=0:=by unfold YX;rw[if_neg (by rw[h0];decide),if_neg (by rw[h1];decide),if_neg (by rw[h2];decide),if_neg (by rw[h3];decide),if_neg (by rw[h4];decide),if_neg (by rw[h5];decide),if_neg (by rw[h6];decide)]
theorem Zsq {a b:Ze}{v u:SV}{r:Zf}{q:RV}(ha:Zn h v a)(hb:Zn h u b)(hr:Zv h q r)(ok:Zz r)(ya:Zw a)(yb:Zw b)(wa:Wge a)(wb:Wge b)(hk:∀h',PH.le h h'→K (.int .i64 (YX a b r)) L h'):Zb prog 32 [stV a v,stV b u,rpV r q] L h K:=by
 have ha0:=ha;have hb0:=hb;have hr0:=hr;obtain⟨pa,pc,ma,mc,ea,ec,xa,xc,oa,oc,da,dc,ta,tc,ka,kc,ra,rc,rfl⟩:=ha.slices;obtain⟨pa2,pc2,ma2,mc2,ea2,ec2,xa2,xc2,oa2,oc2,da2,dc2,ta2,tc2,ka2,kc2,ra2,rc2,rfl⟩:=hb.slices;obtain⟨qoa,qoc,qla,qlc,qsa,qsc,qda,qdc,rfl⟩:=hr.sl;refine ZS func32 rfl (rs:=[_]) rfl rfl ZY (by kernel_rfl) rfl rfl ?_;refine xx ?_;refine Z0 fun b3 nb3 zb3=>?_;(try simp only[ZT]at nb3);refine xx ?_;refine Z0 fun b4 nb4 zb4=>?_;(try simp only[ZT]at nb4);have n43:=nb4.1;refine xx ?_;refine Z0 fun b5 nb5 zb5=>?_;(try simp only[ZT]at nb5);have n54:=nb5.1;have n53:=nb5.2.1;clear nb4 nb5;refine xx ?_;refine Zb.ap (Zec (s:=a) ⟨.slice pa a.purses.length pc,.slice ma a.members.length mc,.slice ea a.entry.length ec,.slice xa a.exit.length xc,.slice oa a.pool.length oc,.slice da a.dues.length dc,.slice ta a.motions.length tc,.slice ka a.marks.length kc,.slice ra a.ring.length rc⟩ ha0 ya wa fun h1 le1 ap=>?_);have p5:h1 b5=noC:=ap.1;have p4:h1 b4=noC:=ap.2.1;have p3:h1 b3=noC:=ap.2.2.1;clear ap
 cases ef:Yb a with
 | false =>
  rw[auT1 (by rw[ef];rfl)]at hk;refine xx ?_;exact ZO (ZO (ZO (ZP (hk h1 le1))))
 | true =>
 refine xx ?_;refine Zb.ap (Zec (s:=b) ⟨.slice pa2 b.purses.length pc2,.slice ma2 b.members.length mc2,.slice ea2 b.entry.length ec2,.slice xa2 b.exit.length xc2,.slice oa2 b.pool.length oc2,.slice da2 b.dues.length dc2,.slice ta2 b.motions.length tc2,.slice ka2 b.marks.length kc2,.slice ra2 b.ring.length rc2⟩ (hb0.up le1) yb wb fun h2 le2 ap=>?_);have p25:h2 b5=noC:=ap.1;have p24:h2 b4=noC:=ap.2.1;have p23:h2 b3=noC:=ap.2.2.1;clear ap p5 p4 p3;have le12:=le1.trans le2
 cases eg:Yb b with
 | false =>
  rw[auT1 (by rw[ef,eg];rfl)]at hk;refine xx ?_;exact ZO (ZO (ZO (ZP (hk h2 le12))))
 | true =>
 have e0:(Yb a&&Yb b)=true:=by rw[ef,eg];rfl
 have H:ZL h2 a b ⟨.slice pa a.purses.length pc,.slice ma a.members.length mc,.slice ea a.entry.length ec,.slice xa a.exit.length xc,.slice oa a.pool.length oc,.slice da a.dues.length dc,.slice ta a.motions.length tc,.slice ka a.marks.length kc,.slice ra a.ring.length rc⟩ ⟨.slice pa2 b.purses.length pc2,.slice ma2 b.members.length mc2,.slice ea2 b.entry.length ec2,.slice xa2 b.exit.length xc2,.slice oa2 b.pool.length oc2,.slice da2 b.dues.length dc2,.slice ta2 b.motions.length tc2,.slice ka2 b.marks.length kc2,.slice ra2 b.ring.length rc2⟩ r ⟨.slice qoa r.out.length qoc,.slice qla r.left.length qlc,.slice qsa r.started.length qsc,.slice qda r.done.length qdc⟩:=⟨ha0.up le12,hb0.up le12,⟨hr0.o.up le12,hr0.l.up le12,hr0.s.up le12,hr0.d.up le12⟩,ok,ef,eg⟩
 refine xx ?_;refine Zsh (a:=a) (b:=b) (v:=⟨.slice pa a.purses.length pc,.slice ma a.members.length mc,.slice ea a.entry.length ec,.slice xa a.exit.length xc,.slice oa a.pool.length oc,.slice da a.dues.length dc,.slice ta a.motions.length tc,.slice ka a.marks.length kc,.slice ra a.ring.length rc⟩) (u:=⟨.slice pa2 b.purses.length pc2,.slice ma2 b.members.length mc2,.slice ea2 b.entry.length ec2,.slice xa2 b.exit.length xc2,.slice oa2 b.pool.length oc2,.slice da2 b.dues.length dc2,.slice ta2 b.motions.length tc2,.slice ka2 b.marks.length kc2,.slice ra2 b.ring.length rc2⟩) (r:=r) (q:=⟨.slice qoa r.out.length qoc,.slice qla r.left.length qlc,.slice qsa r.started.length qsc,.slice qda r.done.length qdc⟩) H ?_
 cases e1:WO a b r with
 | false =>
  rw[auT2 e0 e1]at hk;refine xx ?_;exact ZO (ZO (ZO (ZP (hk h2 le12))))
 | true =>
 refine xx ?_;refine Zb.ap (Zww (a:=a) (b:=b) (v:=⟨.slice pa a.purses.length pc,.slice ma a.members.length mc,.slice ea a.entry.length ec,.slice xa a.exit.length xc,.slice oa a.pool.length oc,.slice da a.dues.length dc,.slice ta a.motions.length tc,.slice ka a.marks.length kc,.slice ra a.ring.length rc⟩) (u:=⟨.slice pa2 b.purses.length pc2,.slice ma2 b.members.length mc2,.slice ea2 b.entry.length ec2,.slice xa2 b.exit.length xc2,.slice oa2 b.pool.length oc2,.slice da2 b.dues.length dc2,.slice ta2 b.motions.length tc2,.slice ka2 b.marks.length kc2,.slice ra2 b.ring.length rc2⟩) (r:=r) (q:=⟨.slice qoa r.out.length qoc,.slice qla r.left.length qlc,.slice qsa r.started.length qsc,.slice qda r.done.length qdc⟩) H fun h3 le3 ap=>?_);have p35:h3 b5=noC:=ap.1;have p34:h3 b4=noC:=ap.2.1;have p33:h3 b3=noC:=ap.2.2.1;clear ap p25 p24 p23;have le13:=le12.trans le3
 cases e2:Ud a b r with
 | false =>
  rw[auT3 e0 e1 e2]at hk;refine xx ?_;exact ZO (ZO (ZO (ZP (hk h3 le13))))
 | true =>
 refine xx ?_;refine Zb.ap (Zrh (a:=a) (b:=b) (v:=⟨.slice pa a.purses.length pc,.slice ma a.members.length mc,.slice ea a.entry.length ec,.slice xa a.exit.length xc,.slice oa a.pool.length oc,.slice da a.dues.length dc,.slice ta a.motions.length tc,.slice ka a.marks.length kc,.slice ra a.ring.length rc⟩) (u:=⟨.slice pa2 b.purses.length pc2,.slice ma2 b.members.length mc2,.slice ea2 b.entry.length ec2,.slice xa2 b.exit.length xc2,.slice oa2 b.pool.length oc2,.slice da2 b.dues.length dc2,.slice ta2 b.motions.length tc2,.slice ka2 b.marks.length kc2,.slice ra2 b.ring.length rc2⟩) (r:=r) (q:=⟨.slice qoa r.out.length qoc,.slice qla r.left.length qlc,.slice qsa r.started.length qsc,.slice qda r.done.length qdc⟩) (H.up le3) fun h4 le4 ap=>?_);have p45:h4 b5=noC:=ap.1;have p44:h4 b4=noC:=ap.2.1;have p43:h4 b3=noC:=ap.2.2.1;clear ap p35 p34 p33;have le14:=le13.trans le4
 cases e3:WZ a r with
 | false =>
  rw[auT4 e0 e1 e2 e3]at hk;refine xx ?_;exact ZO (ZO (ZO (ZP (hk h4 le14))))
 | true =>
 refine xx ?_;refine Zb.ap (Ybc (a:=a) (b:=b) (v:=⟨.slice pa a.purses.length pc,.slice ma a.members.length mc,.slice ea a.entry.length ec,.slice xa a.exit.length xc,.slice oa a.pool.length oc,.slice da a.dues.length dc,.slice ta a.motions.length tc,.slice ka a.marks.length kc,.slice ra a.ring.length rc⟩) (u:=⟨.slice pa2 b.purses.length pc2,.slice ma2 b.members.length mc2,.slice ea2 b.entry.length ec2,.slice xa2 b.exit.length xc2,.slice oa2 b.pool.length oc2,.slice da2 b.dues.length dc2,.slice ta2 b.motions.length tc2,.slice ka2 b.marks.length kc2,.slice ra2 b.ring.length rc2⟩) (r:=r) (q:=⟨.slice qoa r.out.length qoc,.slice qla r.left.length qlc,.slice qsa r.started.length qsc,.slice qda r.done.length qdc⟩) (H.up (le3.trans le4)) fun h5 le5 ap=>?_);have p55:h5 b5=noC:=ap.1;have p54:h5 b4=noC:=ap.2.1;have p53:h5 b3=noC:=ap.2.2.1;clear ap p45 p44 p43;have hk5:=hk h5 (le14.trans le5);have H5:=H.up (le3.trans (le4.trans le5))
 cases e4:UW a b r with
 | false =>
  rw[auT5 e0 e1 e2 e3 e4]at hk5;refine xx ?_;exact ZO (ZO (ZO (ZP hk5)))
 | true =>
 refine xx ?_;refine Znj (a:=a) (b:=b) (v:=⟨.slice pa a.purses.length pc,.slice ma a.members.length mc,.slice ea a.entry.length ec,.slice xa a.exit.length xc,.slice oa a.pool.length oc,.slice da a.dues.length dc,.slice ta a.motions.length tc,.slice ka a.marks.length kc,.slice ra a.ring.length rc⟩) (u:=⟨.slice pa2 b.purses.length pc2,.slice ma2 b.members.length mc2,.slice ea2 b.entry.length ec2,.slice xa2 b.exit.length xc2,.slice oa2 b.pool.length oc2,.slice da2 b.dues.length dc2,.slice ta2 b.motions.length tc2,.slice ka2 b.marks.length kc2,.slice ra2 b.ring.length rc2⟩) (r:=r) (q:=⟨.slice qoa r.out.length qoc,.slice qla r.left.length qlc,.slice qsa r.started.length qsc,.slice qda r.done.length qdc⟩) H5 ?_
 cases e5:Wv a b r with
 | false =>
  rw[auT6 e0 e1 e2 e3 e4 e5]at hk5;refine xx ?_;exact ZO (ZO (ZO (ZP hk5)))
 | true =>
 refine xx ?_;refine Zll (a:=a) (b:=b) (v:=⟨.slice pa a.purses.length pc,.slice ma a.members.length mc,.slice ea a.entry.length ec,.slice xa a.exit.length xc,.slice oa a.pool.length oc,.slice da a.dues.length dc,.slice ta a.motions.length tc,.slice ka a.marks.length kc,.slice ra a.ring.length rc⟩) (u:=⟨.slice pa2 b.purses.length pc2,.slice ma2 b.members.length mc2,.slice ea2 b.entry.length ec2,.slice xa2 b.exit.length xc2,.slice oa2 b.pool.length oc2,.slice da2 b.dues.length dc2,.slice ta2 b.motions.length tc2,.slice ka2 b.marks.length kc2,.slice ra2 b.ring.length rc2⟩) (r:=r) (q:=⟨.slice qoa r.out.length qoc,.slice qla r.left.length qlc,.slice qsa r.started.length qsc,.slice qda r.done.length qdc⟩) H5 ?_
 cases e6:WG a b with
 | false =>
  rw[auT7 e0 e1 e2 e3 e4 e5 e6]at hk5;refine xx ?_;exact ZO (ZO (ZO (ZP hk5)))
 | true =>
 rw[auT0 e0 e1 e2 e3 e4 e5 e6]at hk5;refine xx ?_;exact ZO (ZO (ZO (ZP hk5)))
end Go.X
set_option maxRecDepth 100000
namespace Go.X
open Go.RowKit Go.Proofs Go.Bl Go.Proofs.Tryz
variable {L:Own} {h:PH} {K:PK}
theorem Ykp (n:Int)(hn:0≤n∧n≤255):∀z∈[n],IntKind.u8.min≤z∧z≤IntKind.u8.max:=fun z hz=>by
 rw[List.mem_singleton]at hz;rw[hz,show IntKind.u8.min=0 by decide,show IntKind.u8.max=255 by decide];exact hn
theorem Ydr:Yvr simpS [1]=(1,0):=by decide +kernel
theorem Yem:Zz (Yp simpS):=⟨by decide +kernel,by decide +kernel⟩
theorem Ztz:Zw (YN simpS):=⟨by decide +kernel,by decide +kernel,by decide +kernel,by decide +kernel,by decide +kernel,by decide +kernel,by decide +kernel,by decide +kernel⟩
theorem Zbh (hk:∀h',PH.le h h'→K (.bool true) L h'):Zb prog 30 [] L h K:=by
 obtain⟨t0,_⟩:=Zsy;refine ZS func30 rfl (rs:=[_]) rfl rfl ZY (by kernel_rfl) rfl rfl ?_;refine xx ?_;refine Ziv fun h1 pa0 pc0 fa0 fc0 le1 ig=>?_;refine xx ?_;refine Zkz ig fun h2 u le2 is=>?_;have is0:=is;obtain⟨pa,pc,ma,mc,ea,ec,xa,xc,oa,oc,da,dc,ta,tc,ka,kc,ra,rc,rfl⟩:=is.slices;refine xx ?_;refine Z0 fun b1 nb1 zb1=>?_;(try simp only[ZT]at nb1);refine xx ?_;refine Z0 fun b15 nb15 zb15=>?_;(try simp only[ZT]at nb15);refine xx ?_;refine Yg (e:=5) (b:=b15) (sz:=1) (n:=1) (cap:=1) (xs:=[.int .u8 1]) [] ⟨by decide,by decide⟩ rfl (by decide) zb15 fun h3 le3 sl3 same3=>?_;have p31:h3 b1=noC:=by rw[same3 b1 nb15.1];exact zb1
 refine Yfj (s:=simpS) (bs:=[1]) ⟨.slice pa simpS.purses.length pc,.slice ma simpS.members.length mc,.slice ea simpS.entry.length ec,.slice xa simpS.exit.length xc,.slice oa simpS.pool.length oc,.slice da simpS.dues.length dc,.slice ta simpS.motions.length tc,.slice ka simpS.marks.length kc,.slice ra simpS.ring.length rc⟩ _ (is0.up le3) (JW Vx) ⟨sl3,Ykp 1 (by decide)⟩ (by decide) ?_;rw[Ydr];simp only[List.nil_append];refine xx ?_;obtain⟨T1,hT1⟩:∃x,x=YN simpS:=⟨_,rfl⟩
 obtain⟨R1,hR1⟩:∃x,x=Yp simpS:=⟨_,rfl⟩
 have eh:YX simpS T1 R1=0:=by rw[hT1,hR1];exact Zdu is0 Zdt (by decide)
 have e2:YX simpS simpS R1=2:=auT2 (by rw[Zdt];rfl) (by rw[WO,decide_eq_false (by omega)];rfl);refine Zb.ap (Zpn (s:=simpS) ⟨.slice pa simpS.purses.length pc,.slice ma simpS.members.length mc,.slice ea simpS.entry.length ec,.slice xa simpS.exit.length xc,.slice oa simpS.pool.length oc,.slice da simpS.dues.length dc,.slice ta simpS.motions.length tc,.slice ka simpS.marks.length kc,.slice ra simpS.ring.length rc⟩ (is0.up le3) Vx (by decide) (fun _ _ _ h4 u4 q4 le4 it ir ap=>?_) (fun c=>absurd t0 c));have p41:h4 b1=noC:=ap.1;clear ap;have hok:=Yem;have hfT:=Ztz;rw[← hT1]at it hfT ⊢;rw[← hR1]at ir hok ⊢;have it0:=it;have ir0:=ir;obtain⟨pa3,pc3,ma3,mc3,ea3,ec3,xa3,xc3,oa3,oc3,da3,dc3,ta3,tc3,ka3,kc3,ra3,rc3,rfl⟩:=it.slices;obtain⟨qoa,qoc,qla,qlc,qsa,qsc,qda,qdc,rfl⟩:=ir.slices;refine xx ?_;refine Z0 fun b5 nb5 zb5=>?_;(try simp only[ZT]at nb5);have n51:=nb5.1;refine xx ?_;refine Z0 fun b6 nb6 zb6=>?_;(try simp only[ZT]at nb6);have n65:=nb6.1;have n61:=nb6.2.1;refine xx ?_;refine Zb.ap (Un (a:=simpS) (b:=T1) (v:=⟨.slice pa simpS.purses.length pc,.slice ma simpS.members.length mc,.slice ea simpS.entry.length ec,.slice xa simpS.exit.length xc,.slice oa simpS.pool.length oc,.slice da simpS.dues.length dc,.slice ta simpS.motions.length tc,.slice ka simpS.marks.length kc,.slice ra simpS.ring.length rc⟩) (u:=⟨.slice pa3 T1.purses.length pc3,.slice ma3 T1.members.length mc3,.slice ea3 T1.entry.length ec3,.slice xa3 T1.exit.length xc3,.slice oa3 T1.pool.length oc3,.slice da3 T1.dues.length dc3,.slice ta3 T1.motions.length tc3,.slice ka3 T1.marks.length kc3,.slice ra3 T1.ring.length rc3⟩) (r:=R1) (q:=⟨.slice qoa R1.out.length qoc,.slice qla R1.left.length qlc,.slice qsa R1.started.length qsc,.slice qda R1.done.length qdc⟩) (is0.up (le3.trans le4)) it0 ir0 hok (JW Vx) hfT fun h5 le5 ap=>?_);have p56:h5 b6=noC:=ap.1;have p55:h5 b5=noC:=ap.2.1
 have p51:h5 b1=noC:=ap.2.2.1;clear ap;rw[eh];refine xx ?_;refine Un (a:=simpS) (b:=simpS) (v:=⟨.slice pa simpS.purses.length pc,.slice ma simpS.members.length mc,.slice ea simpS.entry.length ec,.slice xa simpS.exit.length xc,.slice oa simpS.pool.length oc,.slice da simpS.dues.length dc,.slice ta simpS.motions.length tc,.slice ka simpS.marks.length kc,.slice ra simpS.ring.length rc⟩) (u:=⟨.slice pa simpS.purses.length pc,.slice ma simpS.members.length mc,.slice ea simpS.entry.length ec,.slice xa simpS.exit.length xc,.slice oa simpS.pool.length oc,.slice da simpS.dues.length dc,.slice ta simpS.motions.length tc,.slice ka simpS.marks.length kc,.slice ra simpS.ring.length rc⟩) (r:=R1) (q:=⟨.slice qoa R1.out.length qoc,.slice qla R1.left.length qlc,.slice qsa R1.started.length qsc,.slice qda R1.done.length qdc⟩) (is0.up (le3.trans (le4.trans le5))) (is0.up (le3.trans (le4.trans le5))) (ir0.up le5) hok (JW Vx) (JW Vx) fun h6 le6=>?_;rw[e2];refine xx ?_;refine Yds 2 ?_;rw[show Ycs 2=⟨#[116,105,109,101]⟩ from rfl];simp -dsimp -implicitDefEqProofs (disch:=first|with_reducible assumption|omega) [go_sem,Zqz,beq_self_eq_true];exact ZO (ZO (ZO (ZP (hk h6 (le1.trans (le2.trans (le3.trans (le4.trans (le5.trans le6)))))))))
structure Mn (a b:Ze):Prop where
 mint:b.mint=a.mint
 burn:b.burn=a.burn
 gen:b.gen=a.gen
 most:b.most=a.most
theorem Mn.next {a b c:Ze}(h:Mn a b)(h2:Mn b c):Mn a c:=⟨h2.mint.trans h.mint,h2.burn.trans h.burn,h2.gen.trans h.gen,h2.most.trans h.most⟩
theorem Yde {bs:List Int}(hb:JX bs 128=true):bs.length=16:=by
 simp only[JX,Bool.and_eq_true,decide_eq_true_eq]at hb;have e:Zjl 128=16:=by decide
 omega
theorem Ydx {s:Ze}(hf:Yb s=true)(hd:s.dues.length≤34000):Zy s:=by
 obtain⟨f1,f2,f3,f4,f5,f6,f7,f8,f9⟩:=fitsT_iff.1 hf;simp only[VS,Bool.and_eq_true,wi_iff]at f4;simp only[We,Bool.and_eq_true,decide_eq_true_eq]at f5;have h1:=VL (row_iffB.1 f5.1.2);have h3:=VL (row_iffB.1 f5.2);have h5:=f5.1.1.1;simp only[VB,Bool.and_eq_true,decide_eq_true_eq]at f6;simp only[Vd,Bool.and_eq_true,decide_eq_true_eq,List.all_eq_true]at f7;simp only[UQ,Zdm,Bool.and_eq_true,decide_eq_true_eq,List.all_eq_true]at f8;have hk:=Yde f8.1.1.2;refine⟨by omega,by omega,by omega,by omega,by have:=f6.1.1;omega,hd,by have:=f7.1;omega,by omega,by omega,fun m hm=>?_,fun b hb=>by have:=Yde (f8.1.2 b hb);omega⟩;obtain⟨g1,g2,g3,g4,g5⟩:=motFits_iff.1 (f7.2 m hm).1.1;have:=Yde g3;have:=Yde g4;omega
def mkF (g m:List Int):Nat→List Int
 | 0=>m
 | k+1=>if WU g k=true then setB (mkF g m k) k else mkF g m k
def mkS (g:List Int)(s:Ze):Ze:={ s with marks:=mkF g s.marks s.members.length }
def Ytr (plan:List (List Int))(i:Nat):List Int:=plan.getD (min i (plan.length-1)) []
def itS (plan:List (List Int))(s:Ze):Nat→Ze
 | 0=>s
 | k+1=>YN (mkS (Ytr plan k) (itS plan s k))
structure ItI (plan:List (List Int))(s:Ze)(h:PH)(u:SV)(k:Nat):Prop where
 i:Zn h u (itS plan s k)
 f:Yb (itS plan s k)=true
 d:(itS plan s k).dues.length≤s.dues.length+384*k
theorem ItI.up {plan:List (List Int)}{s:Ze}{h h':PH}{u:SV}{k:Nat}(le:PH.le h h')(x:ItI plan s h u k):ItI plan s h' u k:=⟨x.i.up le,x.f,x.d⟩
theorem Zrz {s:Ze}(v:SV)(hs:Zn h v s)(few:Zy s)(hk:∀h' u,PH.le h h'→Zn h' u s→K (stV s u) L h'):Zb prog 21 [stV s v] L h K:=by
 refine Zb.fin (Zb.apn (Zzj v hs few fun h1 u o ox le ok1 ok2 hn ap nd=>?_));refine Zjy (n1:=s.exit.length) (n2:=s.members.length) ok2 (by simp) (by have:=few.x;omega) ok1 (by rw[Z1 Yc]) (by have:=few.m;omega) ?_ ?_ fun h2 le2 sx sm=>ZP (hk h2 _ (le.trans le2) ?_)
 ·cases ox with
  | none=>trivial
  | some p=>exact⟨nd.1,ap.1⟩
 ·cases o with
  | none=>trivial
  | some q =>
   cases ox with
   | none=>exact⟨nd.1,ap.1⟩
   | some p=>exact⟨nd.2.1,ap.2.1⟩
 ·have hn2:=hn.up le2;exact { ok:=hs.ok,p:=hn2.p,m:=Zg.pub Yc sm,mo:=hs.mo,e:=hn2.e,x:=⟨by simpa using sx,hs.x.2⟩,o:=hn2.o,oo:=hs.oo,d:=hn2.d,dd:=hs.dd,t:=hn2.t,k:=hn2.k,r:=hn2.r }
end Go.X
set_option maxRecDepth 100000
namespace Go.X
open Go.RowKit Go.Proofs Go.Bl Go.Proofs.Tryz
variable {L:Own} {h:PH} {K:PK}
theorem Yhg {s:Ze}(f:Zkf s=true):Wge s:=by
 have f9:=Ga f;exact⟨by omega,by omega,by omega,by omega⟩
theorem Zdi (av bv rv:Value)(hA:∃q:SV×Ze,av=stV q.2 q.1∧Zn h q.1 q.2)(hB:∃q:SV×Ze,bv=stV q.2 q.1∧Zn h q.1 q.2)(hR:∃q:RV×Zf,rv=rpV q.2 q.1∧Zv h q.1 q.2∧Zz q.2)
  (hk:∀h',PH.le h h'→K (.bool true) L h'):Zb prog 6 [av,bv,rv] L h K:=by
 obtain⟨⟨v,a⟩,rfl,ha⟩:=hA;obtain⟨⟨u,b⟩,rfl,hb⟩:=hB;obtain⟨⟨q,r⟩,rfl,hr,rok⟩:=hR;simp only at ha hb hr rok ⊢;have ha0:=ha;have hb0:=hb;have hr0:=hr;obtain⟨pa,pc,ma,mc,ea,ec,xa,xc,oa,oc,da,dc,ta,tc,ka,kc,ra,rc,rfl⟩:=ha.slices;obtain⟨pa2,pc2,ma2,mc2,ea2,ec2,xa2,xc2,oa2,oc2,da2,dc2,ta2,tc2,ka2,kc2,ra2,rc2,rfl⟩:=hb.slices;obtain⟨qoa,qoc,qla,qlc,qsa,qsc,qda,qdc,rfl⟩:=hr.slices;refine ZS func6 rfl (rs:=[_]) rfl rfl ZY (by kernel_rfl) rfl rfl ?_;refine xx ?_;refine Z0 fun b3 nb3 zb3=>?_;(try simp only[ZT]at nb3);refine xx ?_;refine Z0 fun b4 nb4 zb4=>?_;(try simp only[ZT]at nb4);have n43:=nb4.1;refine xx ?_;refine Z0 fun b5 nb5 zb5=>?_;(try simp only[ZT]at nb5);have n54:=nb5.1;have n53:=nb5.2.1;clear nb4 nb5;refine xx ?_;refine Zb.ap (Zbh fun h1 le1 ap=>?_);have p5:h1 b5=noC:=ap.1;have p4:h1 b4=noC:=ap.2.1;have p3:h1 b3=noC:=ap.2.2.1;clear ap;have hk1:=hk h1 le1;refine xx ?_;refine Zbv (s:=a) ⟨.slice pa a.purses.length pc,.slice ma a.members.length mc,.slice ea a.entry.length ec,.slice xa a.exit.length xc,.slice oa a.pool.length oc,.slice da a.dues.length dc,.slice ta a.motions.length tc,.slice ka a.marks.length kc,.slice ra a.ring.length rc⟩ (ha0.up le1) ?_
 cases hf:Zck a with
 | false =>
  refine xx ?_;exact ZO (ZO (ZO (ZP hk1)))
 | true =>
 refine xx ?_;refine Zbv (s:=b) ⟨.slice pa2 b.purses.length pc2,.slice ma2 b.members.length mc2,.slice ea2 b.entry.length ec2,.slice xa2 b.exit.length xc2,.slice oa2 b.pool.length oc2,.slice da2 b.dues.length dc2,.slice ta2 b.motions.length tc2,.slice ka2 b.marks.length kc2,.slice ra2 b.ring.length rc2⟩ (hb0.up le1) ?_
 cases hg:Zck b with
 | false =>
  refine xx ?_;exact ZO (ZO (ZO (ZP hk1)))
 | true =>
 have fa:=Zlx hf;have fb:=Zlx hg;have f9:=Ga (Zeo hf);have g9:=Ga (Zeo hg);refine xx ?_;refine Wh (fun cl=>?_) (fun cl=>?_)
 ·refine xx ?_;exact ZO (ZO (ZO (ZP hk1)))
 clear hk1 cl;refine xx ?_;refine Yi (.tkl 0 (.tkl 1 (.tkl 2 (.tkl 4 (.tkl 6 (.tkl 8 (.o1 3 (.o1 5 (.o1 7 (.o1 9 (.tk 10 (.tk 11 (.fin))) (.nil)) (.nil)) (.nil)) (.nil)))))))) (by kernel_rfl) (by kernel_rfl) _ (Za.refl _ _) ?_;refine xx ?_;refine Zb.ap (Un (a:=a) (b:=b) (v:=⟨.slice pa a.purses.length pc,.slice ma a.members.length mc,.slice ea a.entry.length ec,.slice xa a.exit.length xc,.slice oa a.pool.length oc,.slice da a.dues.length dc,.slice ta a.motions.length tc,.slice ka a.marks.length kc,.slice ra a.ring.length rc⟩) (u:=⟨.slice pa2 b.purses.length pc2,.slice ma2 b.members.length mc2,.slice ea2 b.entry.length ec2,.slice xa2 b.exit.length xc2,.slice oa2 b.pool.length oc2,.slice da2 b.dues.length dc2,.slice ta2 b.motions.length tc2,.slice ka2 b.marks.length kc2,.slice ra2 b.ring.length rc2⟩) (r:=r) (q:=⟨.slice qoa r.out.length qoc,.slice qla r.left.length qlc,.slice qsa r.started.length qsc,.slice qda r.done.length qdc⟩) (ha0.up le1) (hb0.up le1) ⟨hr0.o.up le1,hr0.l.up le1,hr0.s.up le1,hr0.d.up le1⟩ rok (JW fa) (JW fb) fun h2 le2 ap=>?_);have p25:h2 b5=noC:=ap.1;have p24:h2 b4=noC:=ap.2.1;have p23:h2 b3=noC:=ap.2.2.1;clear ap p5 p4 p3;have le12:=le1.trans le2;refine xkp (Za.forget le2) ?_;refine xx ?_;refine Zb.ap (Zcd (s:=a) (v:=⟨.slice pa a.purses.length pc,.slice ma a.members.length mc,.slice ea a.entry.length ec,.slice xa a.exit.length xc,.slice oa a.pool.length oc,.slice da a.dues.length dc,.slice ta a.motions.length tc,.slice ka a.marks.length kc,.slice ra a.ring.length rc⟩) (ha0.up le12) (by omega) (by omega) (by omega) (by omega) fun h3 u3 le3 i3 ap=>?_);have p35:h3 b5=noC:=ap.1;have p34:h3 b4=noC:=ap.2.1;have p33:h3 b3=noC:=ap.2.2.1;clear ap p25 p24 p23;have le13:=le12.trans le3;refine xkp (Za.forget (le2.trans le3)) ?_;refine xx ?_
 refine Zb.ap (Zcd (s:=b) (v:=⟨.slice pa2 b.purses.length pc2,.slice ma2 b.members.length mc2,.slice ea2 b.entry.length ec2,.slice xa2 b.exit.length xc2,.slice oa2 b.pool.length oc2,.slice da2 b.dues.length dc2,.slice ta2 b.motions.length tc2,.slice ka2 b.marks.length kc2,.slice ra2 b.ring.length rc2⟩) (hb0.up le13) (by omega) (by omega) (by omega) (by omega) fun h4 u4 le4 i4 ap=>?_);have p45:h4 b5=noC:=ap.1;have p44:h4 b4=noC:=ap.2.1;have p43:h4 b3=noC:=ap.2.2.1;clear ap p35 p34 p33;have le14:=le13.trans le4;refine xkp (Za.forget (le2.trans (le3.trans le4))) ?_;have i30:=i3.up le4;have i40:=i4;clear i3;have i3:=i30;obtain⟨pa3,pc3,ma3,mc3,ea3,ec3,xa3,xc3,oa3,oc3,da3,dc3,ta3,tc3,ka3,kc3,ra3,rc3,rfl⟩:=i3.slices;obtain⟨pa4,pc4,ma4,mc4,ea4,ec4,xa4,xc4,oa4,oc4,da4,dc4,ta4,tc4,ka4,kc4,ra4,rc4,rfl⟩:=i4.slices;refine xx ?_;refine Zsq (a:=a) (b:=b) (v:=⟨.slice pa3 a.purses.length pc3,.slice ma3 a.members.length mc3,.slice ea3 a.entry.length ec3,.slice xa3 a.exit.length xc3,.slice oa3 a.pool.length oc3,.slice da3 a.dues.length dc3,.slice ta3 a.motions.length tc3,.slice ka3 a.marks.length kc3,.slice ra3 a.ring.length rc3⟩) (u:=⟨.slice pa4 b.purses.length pc4,.slice ma4 b.members.length mc4,.slice ea4 b.entry.length ec4,.slice xa4 b.exit.length xc4,.slice oa4 b.pool.length oc4,.slice da4 b.dues.length dc4,.slice ta4 b.motions.length tc4,.slice ka4 b.marks.length kc4,.slice ra4 b.ring.length rc4⟩) (r:=r) (q:=⟨.slice qoa r.out.length qoc,.slice qla r.left.length qlc,.slice qsa r.started.length qsc,.slice qda r.done.length qdc⟩) i30 i40 ⟨hr0.o.up le14,hr0.l.up le14,hr0.s.up le14,hr0.d.up le14⟩ rok (JW fa) (JW fb) (Yhg (Zeo hf)) (Yhg (Zeo hg)) fun h5 le5=>?_;refine xkp (Za.forget (le2.trans (le3.trans (le4.trans le5)))) ?_;refine xx ?_;exact ZO (ZO (ZO (ZP (hk h5 (le14.trans le5)))))
end Go.X
set_option maxRecDepth 100000
namespace Go.X
open Go.RowKit Go.Proofs Go.Bl Go.Proofs.Tryz
variable {L:Own} {h:PH} {K:PK}
theorem Yly (s:Ze)(r:Zf)(t:Int):(enR s r t).fees=r.fees:=by
 unfold enR;split<;>rfl
theorem Ylx (s:Ze)(r:Zf):(moR s r).fees=r.fees:=rfl
theorem Yjb (s:Ze)(r:Zf)(t:Int):(Zoo t (ajS s,r)).2.fees=r.fees:=rfl
theorem bf7 (s:Ze):(tk7 s).2.burned=(tk4 s).2.burned∧(tk7 s).2.fees=(tk4 s).2.fees:=⟨rfl,rfl⟩
theorem Yle (s:Ze):(Yp s).burned=(tk4 s).2.burned∧(Yp s).fees=(tk4 s).2.fees:=by
 obtain⟨a7,b7⟩:=bf7 s;have a8:(tk8 s).2.burned=(tk7 s).2.burned:=(Yvi (tk7 s).1 (tk7 s).2 (atP s)).2.2.2.2;have b8:(tk8 s).2.fees=(tk7 s).2.fees:=Yly (tk7 s).1 (tk7 s).2 (atP s);have a9:(tk9 s).2.burned=(tk8 s).2.burned:=(Yrn (tk8 s).1 (tk8 s).2).2.2.2.2;have b9:(tk9 s).2.fees=(tk8 s).2.fees:=Ylx (tk8 s).1 (tk8 s).2;have h10:(WY s).2.burned=(tk9 s).2.burned∧(WY s).2.fees=(tk9 s).2.fees:=by
  by_cases c:(tk9 s).1.par=s.par
  ·rw[WY,if_pos c];exact⟨rfl,rfl⟩
  ·rw[WY,if_neg c];exact⟨(Ypv _ _ _).2.2.2.2,Yjb _ _ _⟩
 have e:Yp s=(WY s).2:=rfl;rw[e];exact⟨by rw[h10.1,a9,a8,a7],by rw[h10.2,b9,b8,b7]⟩
theorem Zst {s:Ze}{D:Nat}(ti:Zq s D)(ms:∀m∈s.members,MI s.par m∧MF s.par m):Zz (Yp s):=by
 obtain⟨r1,r2,r3,r4,r5,_⟩:=Zak s;obtain⟨k1,k2,k3,k4,k5,k6,k7,k8,k9,k10⟩:=Zct ti fun m hm=>(ms m hm).1;have hep:=ti.ep;have hA:=Gq ti.ml fun m hm=>(ms m hm).1;have hact:0≤WX s∧WX s≤140737488355328:=by
  have:=Vg (ks:=s.marks) ti.be.m;have e:WX s=WS s.members:=rfl;omega
 have hpre:0≤Jw s:=(Vg (ks:=s.marks) ti.be.m).1;have ti2:Zq (tk2 s).1 D:=Zks ti;have ra2:0≤(tk2 s).2.act∧(tk2 s).2.act≤18446744073709551615:=⟨hact.1,by have:=hact.2;show WX s≤_;omega⟩
 have ti3:Zq (tk3 s).1 D:=Zut ti2 ra2;have e4:(tk4 s).2.burned=0+Zaj (tk3 s).1 (tk3 s).2 (tk3 s).1.members.length∧(tk4 s).2.fees=0+(Zdn (tk3 s).1 (tk3 s).2 (tk3 s).1.members.length-Zaj (tk3 s).1 (tk3 s).2 (tk3 s).1.members.length):=⟨rfl,rfl⟩
 obtain⟨b1,b2⟩:=Yle s
 generalize (tk3 s).1=S3 at ti3 e4
 generalize (tk3 s).2=R3 at e4
 obtain⟨f1,f2,f3⟩:=Zzy ti3.ok.p ti3.r S3.marks R3.mode (ms:=S3.members) ti3.be.m S3.members.length (Nat.le_refl _);have hsum:=ti3.sum;obtain⟨q1,q2,q3,q4,q5,q6⟩:=ti3.parts;have hub:0≤tot ((upI (fnF S3.par S3.marks R3.mode) S3.members S3.members.length).map Zc.bal):=YE (Va (Zel Zh (fun k _ hm=>Zvz ti3.ok.p ti3.r _ _ k hm) ti3.be.m _ (Nat.le_refl _)));have hmode:1≤(Yp s).mode∧(Yp s).mode≤4:=by
  rw[r2];unfold VX Zxe;split
  ·omega
  ·split
   ·omega
   ·split<;>omega
 refine⟨fun z hz=>?_,fun z hz=>?_⟩
 ·simp only[List.mem_cons,List.not_mem_nil,or_false]at hz;rcases hz with rfl|rfl|rfl|rfl|rfl|rfl|rfl
  ·omega
  ·omega
  ·omega
  ·omega
  ·omega
  ·rw[b1,e4.1];show 0≤0+fnU S3.par S3.marks R3.mode S3.members S3.members.length∧0+fnU S3.par S3.marks R3.mode S3.members S3.members.length≤18446744073709551615;omega
  ·rw[b2,e4.2];show 0≤0+(fnT S3.par S3.marks R3.mode S3.members S3.members.length-fnU S3.par S3.marks R3.mode S3.members S3.members.length)∧0+(fnT S3.par S3.marks R3.mode S3.members S3.members.length-fnU S3.par S3.marks R3.mode S3.members S3.members.length)≤18446744073709551615;omega
 ·simp only[List.mem_cons,List.not_mem_nil,or_false]at hz;rcases hz with rfl|rfl
  ·rw[r1];omega
  ·omega
theorem se_du (s:Ze):(seS s).dues=s.dues:=rfl
theorem Ykk {h:PH}{v:SV}{s:Ze}(hs:Zn h v s)(hf:Yb s=true)(he:s.ep<1073741824):(YN s).dues.length≤s.dues.length+384:=by
 have ti:=Ztl hs hf he (Nat.le_refl s.dues.length);obtain⟨t10,_,_⟩:=Zur ti fun m hm=>(Zte hs hf m hm).1;have e:(YN s).dues=(WY s).1.dues:=se_du (WY s).1;rw[e];exact t10.dn
theorem Zdb (av:Value)(i:Int)(hA:∃q:SV×Ze,av=stV q.2 q.1∧Zn h q.1 q.2)(hi : -9223372036854775808≤i∧i≤9223372036854775807)
  (hk:∀h',PH.le h h'→K (.bool true) L h'):Zb prog 7 [av,.int .i64 i] L h K:=by
 obtain⟨⟨v,s⟩,rfl,hs⟩:=hA;simp only at hs ⊢;have hs0:=hs;obtain⟨pa,pc,ma,mc,ea,ec,xa,xc,oa,oc,da,dc,ta,tc,ka,kc,ra,rc,rfl⟩:=hs.slices;refine ZS func7 rfl (rs:=[_]) rfl rfl ZY (by kernel_rfl) rfl rfl ?_;refine xx ?_;refine Z0 fun b2 nb2 zb2=>?_;(try simp only[ZT]at nb2);refine xx ?_;refine Zb.ap (Zbh fun h1 le1 ap=>?_);have p2:h1 b2=noC:=ap.1;clear ap;have hk1:=hk h1 le1;refine xx ?_;refine Zbv (s:=s) ⟨.slice pa s.purses.length pc,.slice ma s.members.length mc,.slice ea s.entry.length ec,.slice xa s.exit.length xc,.slice oa s.pool.length oc,.slice da s.dues.length dc,.slice ta s.motions.length tc,.slice ka s.marks.length kc,.slice ra s.ring.length rc⟩ (hs0.up le1) ?_
 cases hf:Zck s with
 | false =>
  refine xx ?_;exact ZO (ZP hk1)
 | true =>
 have few:=Zlx hf;have f9:=Ga (Zeo hf);refine xx ?_;refine Ut (s:=s) ⟨.slice pa s.purses.length pc,.slice ma s.members.length mc,.slice ea s.entry.length ec,.slice xa s.exit.length xc,.slice oa s.pool.length oc,.slice da s.dues.length dc,.slice ta s.motions.length tc,.slice ka s.marks.length kc,.slice ra s.ring.length rc⟩ (hs0.up le1) (JW few) ?_
 cases hft:Yb s with
 | false =>
  refine xx ?_;exact ZO (ZP hk1)
 | true =>
 by_cases he:1073741824≤s.ep
 ·refine xx ?_;exact ZO (ZP hk1)
 by_cases hi0:i<0
 ·refine xx ?_;exact ZO (ZP hk1)
 have he':s.ep<1073741824:=by omega
 have e0:G7 s=0:=by rw[G7,if_pos hft,if_neg he]
 obtain⟨T1,hT1⟩:∃x,x=YN s:=⟨_,rfl⟩
 obtain⟨R1,hR1⟩:∃x,x=Yp s:=⟨_,rfl⟩
 have eh:YX s T1 R1=0:=by rw[hT1,hR1];exact Zdu hs0 hft he'
 have hfit:Yb T1=true:=by rw[hT1];exact Zhb hs0 hft he'
 have hep:T1.ep=s.ep+1:=by rw[hT1];exact Zgl s
 have hmb:T1.mint=s.mint+R1.mint:=by rw[hT1,hR1];exact(Zuo s).1
 refine xx ?_;refine Zb.ap (Zpn (s:=s) ⟨.slice pa s.purses.length pc,.slice ma s.members.length mc,.slice ea s.entry.length ec,.slice xa s.exit.length xc,.slice oa s.pool.length oc,.slice da s.dues.length dc,.slice ta s.motions.length tc,.slice ka s.marks.length kc,.slice ra s.ring.length rc⟩ (hs0.up le1) few (by omega) (fun _ _ _ h2 u2 q2 le2 it ir ap=>?_) (fun c=>absurd e0 c));have p22:h2 b2=noC:=ap.1;clear ap p2;rw[← hT1]at it ⊢;rw[← hR1]at ir ⊢;have ti:=Ztl hs0 hft he' (Nat.le_refl s.dues.length);have rok:Zz R1:=by rw[hR1];exact Zst ti (Zte hs0 hft)
 obtain⟨rk1,rk2,rk3,rk4,rk5,rk6,rk7,rk8⟩:=rok.nums;have it0:=it;have ir0:=ir;have few1o:Zy T1:=Ydx hfit (by rw[hT1];have:=Ykk hs0 hft he';omega);have few1:Zw T1:=JW few1o;obtain⟨pa3,pc3,ma3,mc3,ea3,ec3,xa3,xc3,oa3,oc3,da3,dc3,ta3,tc3,ka3,kc3,ra3,rc3,rfl⟩:=it.slices;obtain⟨qoa,qoc,qla,qlc,qsa,qsc,qda,qdc,rfl⟩:=ir.slices;refine xx ?_;refine Z0 fun b5 nb5 zb5=>?_;(try simp only[ZT]at nb5);have n52:=nb5.1;refine xx ?_;refine Z0 fun b6 nb6 zb6=>?_;(try simp only[ZT]at nb6);have n65:=nb6.1;have n62:=nb6.2.1;refine xx ?_;refine Zb.ap (Un (a:=s) (b:=T1) (v:=⟨.slice pa s.purses.length pc,.slice ma s.members.length mc,.slice ea s.entry.length ec,.slice xa s.exit.length xc,.slice oa s.pool.length oc,.slice da s.dues.length dc,.slice ta s.motions.length tc,.slice ka s.marks.length kc,.slice ra s.ring.length rc⟩) (u:=⟨.slice pa3 T1.purses.length pc3,.slice ma3 T1.members.length mc3,.slice ea3 T1.entry.length ec3,.slice xa3 T1.exit.length xc3,.slice oa3 T1.pool.length oc3,.slice da3 T1.dues.length dc3,.slice ta3 T1.motions.length tc3,.slice ka3 T1.marks.length kc3,.slice ra3 T1.ring.length rc3⟩) (r:=R1) (q:=⟨.slice qoa R1.out.length qoc,.slice qla R1.left.length qlc,.slice qsa R1.started.length qsc,.slice qda R1.done.length qdc⟩) (hs0.up (le1.trans le2)) it0 ir0 rok (JW few) few1 fun h3 le3 ap=>?_);have p36:h3 b6=noC:=ap.1;have p35:h3 b5=noC:=ap.2.1;have p32:h3 b2=noC:=ap.2.2.1;clear ap;rw[eh];refine xx ?_;refine Z0 fun b8 nb8 zb8=>?_;(try simp only[ZT]at nb8);have n86:=nb8.1;have n85:=nb8.2.1;have n82:=nb8.2.2.1;clear nb8;refine xx ?_
 refine Zb.ap (Zrz (s:=T1) ⟨.slice pa3 T1.purses.length pc3,.slice ma3 T1.members.length mc3,.slice ea3 T1.entry.length ec3,.slice xa3 T1.exit.length xc3,.slice oa3 T1.pool.length oc3,.slice da3 T1.dues.length dc3,.slice ta3 T1.motions.length tc3,.slice ka3 T1.marks.length kc3,.slice ra3 T1.ring.length rc3⟩ (it0.up le3) few1o fun h4 u4 le4 i4 ap=>?_);have p48:h4 b8=noC:=ap.1;have p46:h4 b6=noC:=ap.2.1;have p45:h4 b5=noC:=ap.2.2.1;have p42:h4 b2=noC:=ap.2.2.2.1;clear ap;have i40:=i4;obtain⟨pa4,pc4,ma4,mc4,ea4,ec4,xa4,xc4,oa4,oc4,da4,dc4,ta4,tc4,ka4,kc4,ra4,rc4,rfl⟩:=i4.slices;refine xx ?_;refine Z0 fun b9 nb9 zb9=>?_;(try simp only[ZT]at nb9);have n98:=nb9.1;have n96:=nb9.2.1;have n95:=nb9.2.2.1;have n92:=nb9.2.2.2.1;clear nb9;refine xx ?_
 have rok2:Zz { R1 with mint:=1-min R1.mint 1 }:=⟨fun z hz=>by
  simp only[List.mem_cons,List.not_mem_nil,or_false]at hz;rcases hz with rfl|rfl|rfl|rfl|rfl|rfl|rfl
  ·exact rk1
  ·exact rk2
  ·omega
  ·exact rk4
  ·exact rk5
  ·exact rk6
  ·exact rk7,rok.n⟩
 have en1:YX s T1 { R1 with mint:=1-min R1.mint 1 }≠0:=Zsb (by show T1.mint≠s.mint+(1-min R1.mint 1);omega);refine Zb.ap (Un (a:=s) (b:=T1) (v:=⟨.slice pa s.purses.length pc,.slice ma s.members.length mc,.slice ea s.entry.length ec,.slice xa s.exit.length xc,.slice oa s.pool.length oc,.slice da s.dues.length dc,.slice ta s.motions.length tc,.slice ka s.marks.length kc,.slice ra s.ring.length rc⟩) (u:=⟨.slice pa3 T1.purses.length pc3,.slice ma3 T1.members.length mc3,.slice ea3 T1.entry.length ec3,.slice xa3 T1.exit.length xc3,.slice oa3 T1.pool.length oc3,.slice da3 T1.dues.length dc3,.slice ta3 T1.motions.length tc3,.slice ka3 T1.marks.length kc3,.slice ra3 T1.ring.length rc3⟩) (r:={ R1 with mint:=1-min R1.mint 1 }) (q:=⟨.slice qoa R1.out.length qoc,.slice qla R1.left.length qlc,.slice qsa R1.started.length qsc,.slice qda R1.done.length qdc⟩) (hs0.up (le1.trans (le2.trans (le3.trans le4)))) (it0.up (le3.trans le4)) ⟨ir0.o.up (le3.trans le4),ir0.l.up (le3.trans le4),ir0.s.up (le3.trans le4),ir0.d.up (le3.trans le4)⟩ rok2 (JW few) few1 fun h5 le5 ap=>?_);have p59:h5 b9=noC:=ap.1;have p58:h5 b8=noC:=ap.2.1;have p56:h5 b6=noC:=ap.2.2.1;have p55:h5 b5=noC:=ap.2.2.2.1;have p52:h5 b2=noC:=ap.2.2.2.2.1;clear ap p48 p46 p45 p42 p36 p35 p32
 generalize YX s T1 { R1 with mint:=1-min R1.mint 1 }=x1 at en1 ⊢
 refine xx ?_;have sok:=hs0.ok.n;simp only[List.forall_mem_cons]at sok;have tok:=it0.ok;have tn:=tok.n;simp only[List.forall_mem_cons]at tn;have iL:Zn h5 ⟨.slice pa4 T1.purses.length pc4,.slice ma4 T1.members.length mc4,.slice ea4 T1.entry.length ec4,.slice xa4 T1.exit.length xc4,.slice oa4 T1.pool.length oc4,.slice da4 T1.dues.length dc4,.slice ta4 T1.motions.length tc4,.slice ka4 T1.marks.length kc4,.slice ra4 T1.ring.length rc4⟩ { T1 with ep:=s.ep }:=by
  have i5:=i40.up le5
  exact⟨⟨tok.p,tok.u,fun z hz=>by
   simp only[List.mem_cons,List.not_mem_nil,or_false]at hz;rcases hz with rfl|rfl
   ·exact sok.1
   ·exact tn.2.1⟩,i5.p,i5.m,i5.mo,i5.e,i5.x,i5.o,i5.oo,i5.d,i5.dd,i5.t,i5.k,i5.r⟩
 have en2:YX s { T1 with ep:=s.ep } R1≠0:=Zmb (by show s.ep≠s.ep+1;omega);refine Un (a:=s) (b:={ T1 with ep:=s.ep }) (v:=⟨.slice pa s.purses.length pc,.slice ma s.members.length mc,.slice ea s.entry.length ec,.slice xa s.exit.length xc,.slice oa s.pool.length oc,.slice da s.dues.length dc,.slice ta s.motions.length tc,.slice ka s.marks.length kc,.slice ra s.ring.length rc⟩) (u:=⟨.slice pa4 T1.purses.length pc4,.slice ma4 T1.members.length mc4,.slice ea4 T1.entry.length ec4,.slice xa4 T1.exit.length xc4,.slice oa4 T1.pool.length oc4,.slice da4 T1.dues.length dc4,.slice ta4 T1.motions.length tc4,.slice ka4 T1.marks.length kc4,.slice ra4 T1.ring.length rc4⟩) (r:=R1) (q:=⟨.slice qoa R1.out.length qoc,.slice qla R1.left.length qlc,.slice qsa R1.started.length qsc,.slice qda R1.done.length qdc⟩) (hs0.up (le1.trans (le2.trans (le3.trans (le4.trans le5))))) iL ⟨ir0.o.up (le3.trans (le4.trans le5)),ir0.l.up (le3.trans (le4.trans le5)),ir0.s.up (le3.trans (le4.trans le5)),ir0.d.up (le3.trans (le4.trans le5))⟩ rok (JW few) ⟨few1.p,few1.m,few1.e,few1.x,few1.o,few1.d,few1.t,few1.r⟩ fun h6 le6=>?_
 generalize YX s { T1 with ep:=s.ep } R1=x2 at en2 ⊢
 refine xx ?_;exact ZO (ZO (ZO (ZO (ZO (ZP (hk h6 (le1.trans (le2.trans (le3.trans (le4.trans (le5.trans le6)))))))))))
end Go.X

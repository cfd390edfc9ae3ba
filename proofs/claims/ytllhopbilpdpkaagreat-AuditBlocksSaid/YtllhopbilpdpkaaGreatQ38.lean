/- Lemmas and contracts. Conditions: as each says. -/
import Derived.Test.YtllhopbilpdpkaaGreatQ37
set_option linter.unusedVariables false
set_option linter.unusedSimpArgs false
set_option maxHeartbeats 12800000
set_option maxRecDepth 20000
set_option maxRecDepth 100000
namespace Go.X
open Go.RowKit Go.Proofs Go.Bl Go.Proofs.Tryz
variable {L:Own} {h:PH} {K:PK}
def J1 (m n:Zc):Bool:=(m.bal == n.bal)&&((m.eff == n.eff)&&((m.score == n.score)&&((m.streak == n.streak)&&true)))
theorem Zme (m:Zc):J1 m m=true:=by simp [J1]
def Zha (a b:Ze):List Bool:=[decide (a.ep=b.ep),decide (a.calm=b.calm),a.emer == b.emer,decide (a.par=b.par),decide (a.most=b.most),decide (a.gen=b.gen),decide (a.mint=b.mint),decide (a.burn=b.burn)]
abbrev Waj (a b:Ze)(j:Nat):Prop:=J1 (gr ZQ a.members j) (gr ZQ b.members j)=true∧(gr ZQ a.members j).owner=(gr ZQ b.members j).owner
def Zdm (a b:Ze):Bool:=decide (∀j,j<a.members.length→Waj a b j)
def Gt (a b:Ze):Int :=
 if (Yb a&&Yb b)=false then 1 else if (Zha a b).all id=false then 2 else if a.members.length≠b.members.length then 6 else if Zdm a b=false then 6 else 0
theorem bk1 {a b:Ze}(h:(Yb a&&Yb b)=false):Gt a b=1:=by unfold Gt;rw[if_pos h]
theorem bk2 {a b:Ze}(h0:(Yb a&&Yb b)=true)(h:(Zha a b).all id=false):Gt a b=2:=by unfold Gt;rw[if_neg (by rw[h0];decide),if_pos h]
theorem bk6 {a b:Ze}(h0:(Yb a&&Yb b)=true)(h1:(Zha a b).all id=true)(h:a.members.length≠b.members.length):Gt a b=6:=by unfold Gt;rw[if_neg (by rw[h0];decide),if_neg (by rw[h1];decide),if_pos h]
theorem Wbt {a b:Ze}(h0:(Yb a&&Yb b)=true)(h1:(Zha a b).all id=true)(h2:a.members.length=b.members.length)(h:Zdm a b=false):Gt a b=6:=by unfold Gt;rw[if_neg (by rw[h0];decide),if_neg (by rw[h1];decide),if_neg (fun x=>x h2),if_pos h]
theorem bk0 {a b:Ze}(h0:(Yb a&&Yb b)=true)(h1:(Zha a b).all id=true)(h2:a.members.length=b.members.length)(h:Zdm a b=true):Gt a b=0:=by unfold Gt;rw[if_neg (by rw[h0];decide),if_neg (by rw[h1];decide),if_neg (fun x=>x h2),if_neg (by rw[h];decide)]
theorem Ydt {a:Ze}(h:Yb a=true):Gt a a=0:=by
 refine bk0 (by rw[h];rfl) ?_ rfl ?_
 ·simp [Zha]
 ·rw[Zdm,decide_eq_true_eq];exact fun j _=>⟨Zme _,rfl⟩
theorem Zpm {a b:Ze}{k:Nat}(hk:k<a.members.length)(h:¬Waj a b k):Zdm a b=false:=by
 rw[Zdm,decide_eq_false_iff_not];exact fun x=>h (x k hk)
theorem Zzs (m n:Zc)(x y:Operand)(K:Value→Prop)(t:Zm K):VN prog .neq 72 x y (Zdf m) (Zdf n) K t=K (.bool (!J1 m n)):=Zfn (b:=J1 m n) (by kernel_rfl) (by kernel_rfl) x y K t
theorem Zwz (m n:Zc)(x y:Operand)(K:Value→Prop)(t:Zm K):VN prog .neq 122 x y (Zdf m) (Zdf n) K t=K (.bool (!J1 m n)):=Zfn (b:=J1 m n) (by kernel_rfl) (by kernel_rfl) x y K t
theorem UO {l:List Zc}{a:Option Addr}{n c:Nat}(hd:Zh Ym 6 h (.slice a n c) l){j o:Nat}(hj:j<l.length){u:Value}(ho:(Ym (gr ZQ l j))[o]?=some u)(hm:o<6)(L:Own)(K:Value→Prop)(t:Zm K):W5 L h (Un a (j*6)) o K t=K u :=
 Jh (by rw[hd.cell (z:=ZQ) hj hm,ho]) K
theorem Zos {a b:Ze}{v u:SV}(ha:Zo h v a)(hb:Zo h u b)(ya:Zv a)(yb:Zv b)(hk:∀h',PH.le h h'→K (.int .i64 (Gt a b)) L h'):Zb prog 11 [stV a v,stV b u] L h K:=by
 have ha0:=ha;have hb0:=hb;obtain⟨pa,pc,ma,mc,ea,ec,xa,xc,oa,oc,da,dc,ta,tc,ka,kc,ra,rc,rfl⟩:=ha.slices;obtain⟨pa2,pc2,ma2,mc2,ea2,ec2,xa2,xc2,oa2,oc2,da2,dc2,ta2,tc2,ka2,kc2,ra2,rc2,rfl⟩:=hb.slices;refine ZS func11 rfl (rs:=[_]) rfl rfl ZX (by kernel_rfl) rfl rfl ?_;refine xx ?_;refine Z0 fun b2 nb2 zb2=>?_;(try simp only[ZT]at nb2);refine xx ?_;refine Z0 fun b3 nb3 zb3=>?_;(try simp only[ZT]at nb3);have n32:=nb3.1;refine xx ?_;refine Vz (s:=a) ⟨.slice pa a.purses.length pc,.slice ma a.members.length mc,.slice ea a.entry.length ec,.slice xa a.exit.length xc,.slice oa a.pool.length oc,.slice da a.dues.length dc,.slice ta a.motions.length tc,.slice ka a.marks.length kc,.slice ra a.ring.length rc⟩ ha0 ya ?_
 cases ef:Yb a with
 | false =>
  rw[bk1 (by rw[ef];rfl)]at hk;refine xx ?_;exact ZO (ZO (ZP (hk h (PH.le_refl _))))
 | true =>
 refine xx ?_;refine Vz (s:=b) ⟨.slice pa2 b.purses.length pc2,.slice ma2 b.members.length mc2,.slice ea2 b.entry.length ec2,.slice xa2 b.exit.length xc2,.slice oa2 b.pool.length oc2,.slice da2 b.dues.length dc2,.slice ta2 b.motions.length tc2,.slice ka2 b.marks.length kc2,.slice ra2 b.ring.length rc2⟩ hb0 yb ?_
 cases eg:Yb b with
 | false =>
  rw[bk1 (by rw[ef,eg];rfl)]at hk;refine xx ?_;exact ZO (ZO (ZP (hk h (PH.le_refl _))))
 | true =>
 have e0:(Yb a&&Yb b)=true:=by rw[ef,eg];rfl
 obtain⟨_,_,la,_⟩:=Y6 ef;obtain⟨_,_,lb,_⟩:=Y6 eg;refine xx ?_;refine Yj (.tk 0 (.tk 2 (.tk 5 (.tk 7 (.tk 10 (.tk 12 (.tk 15 (.tk 17 (.tk 20 (.tk 22 (.tk 25 (.tk 27 (.tk 30 (.tk 32 (.tk 35 (.tk 37 (.tkl 1 (.tkl 3 (.tk 4 (.tkl 6 (.tkl 8 (.tk 9 (.tkl 11 (.tkl 13 (.tk 14 (.tkl 16 (.tkl 18 (.tk 19 (.tkl 21 (.tkl 23 (.tk 24 (.tkl 26 (.tkl 28 (.tk 29 (.tkl 31 (.tkl 33 (.tk 34 (.tkl 36 (.tkl 38 (.tk 39 (.o1 40 (.o1 41 (.tk 42 (.fin)) (.nil)) (.nil)))))))))))))))))))))))))))))))))))))))))) (by kernel_rfl) (by kernel_rfl) _ (Za.refl _ _) ?_;simp -dsimp -implicitDefEqProofs (disch:=first|with_reducible assumption|omega) [go_sem,Zzc];refine Z0 fun b4 nb4 zb4=>?_;(try simp only[ZT]at nb4);refine xkp (Za.tail _ _ _) ?_;refine xx ?_;refine Yc (sz:=1) (n:=8) (cap:=8) [] ⟨Nat.le_refl _,by decide⟩ rfl (by decide) (by first|exact zb4|assumption) fun h2 le2 s2 f2=>?_;have p3:h2 b3=noC:=by rw[f2 b3 nb4.1];exact zb3
 have p2:h2 b2=noC:=by rw[f2 b2 nb4.2.1];exact zb2
 refine WU (bl:=Zha a b) _ s2 (by simp [Zha]) ?_;refine xkp (Za.forget le2) ?_;simp only[List.nil_append]
 cases hB:(Zha a b).all id with
 | false =>
  rw[bk2 e0 hB]at hk;refine xx ?_;exact ZO (ZO (ZP (hk h2 le2)))
 | true =>
 refine xx ?_;by_cases hl:a.members.length=b.members.length
 rotate_left
 ·rw[bk6 e0 hB hl]at hk;refine xx ?_;exact ZO (ZO (ZP (hk h2 le2)))
 obtain⟨a1,d1,e1,g1,g2,_,hda⟩:=(ha0.m.up le2).open;obtain⟨a2,d2,e2,g3,g4,_,hdb⟩:=(hb0.m.up le2).open;injection e1 with e11 _ e13
 injection e2 with e21 _ e23
 subst e11 e13 e21 e23;refine xx ?_;refine Wd (0:Nat) (fun k=>k≤a.members.length∧∀j,j<k→Waj a b j) (fun k=>[(68,.int .i64 k),(67,.int .i64 a.members.length),(66,.slice ma a.members.length mc),(2,.pointer (some ⟨b2,0,none⟩)),(3,.pointer (some ⟨b3,0,none⟩))]) (fun k=>a.members.length-k) ?_ ?_ ?_
 ·exact⟨Nat.zero_le _,fun j hj=>by omega⟩
 ·simp [Ent,List.lookup,Y3]
 rintro k ⟨k1,k2⟩;by_cases d1:k<a.members.length
 ·have dB:k<b.members.length:=by omega
  have f0:∀(L:Own) (K:Value→Prop) (t:Zm K),W5 L h2 (Un ma2 (k*6)) 0 K t=K (.int .u64 (gr ZQ b.members k).bal):=UO (hb0.m.up le2) dB (o:=0) rfl (by decide);have f1:∀(L:Own) (K:Value→Prop) (t:Zm K),W5 L h2 (Un ma2 (k*6)) 1 K t=K (.int .u64 (gr ZQ b.members k).eff):=UO (hb0.m.up le2) dB (o:=1) rfl (by decide);have f2:∀(L:Own) (K:Value→Prop) (t:Zm K),W5 L h2 (Un ma2 (k*6)) 2 K t=K (.int .u64 (gr ZQ b.members k).score):=UO (hb0.m.up le2) dB (o:=2) rfl (by decide);have f3:∀(L:Own) (K:Value→Prop) (t:Zm K),W5 L h2 (Un ma2 (k*6)) 3 K t=K (.int .i64 (gr ZQ b.members k).streak):=UO (hb0.m.up le2) dB (o:=3) rfl (by decide);have f4:∀(L:Own) (K:Value→Prop) (t:Zm K),W5 L h2 (Un ma2 (k*6+4)) 0 K t=K (.int .i64 (gr ZQ b.members k).owner):=fun L K t=>(hb0.m.up le2).fld ZQ dB (o:=4) rfl L K t;simp -dsimp -implicitDefEqProofs (disch:=first|with_reducible assumption|omega) [go_sem,↓WQ ZQ (by decide) hda,Ym];refine Z0 fun b6 nb6 zb6=>?_;(try simp only[ZT]at nb6);have n63:=nb6.1;have n62:=nb6.2.1;simp -dsimp -implicitDefEqProofs (disch:=first|with_reducible assumption|omega) [go_sem,Ym];refine Uh (by kernel_rfl) rfl ?_
  cases c1:J1 (gr ZQ a.members k) (gr ZQ b.members k) with
  | false =>
   rw[Wbt e0 hB hl (Zpm d1 (fun x=>by have x1:=x.1;rw[c1]at x1;cases x1))]at hk;simp -dsimp -implicitDefEqProofs (disch:=first|with_reducible assumption|omega) [go_sem,↓WQ ZQ (by decide) hdb,Ym,↓f0,↓f1,↓f2,↓f3,Zzs,c1];exact ZO (ZO (ZO (ZP (hk h2 le2))))
  | true =>
   by_cases c2:(gr ZQ a.members k).owner=(gr ZQ b.members k).owner
   ·simp -dsimp -implicitDefEqProofs (disch:=first|with_reducible assumption|omega) [go_sem,↓WQ ZQ (by decide) hdb,Ym,↓f0,↓f1,↓f2,↓f3,↓f4,Zzs,c1];refine⟨k+1,⟨by omega,fun j hj=>?_⟩,by omega,by simp [Ent,List.lookup],Za.tail _ _ _⟩;by_cases e:j=k
    ·subst e;exact⟨c1,c2⟩
    ·exact k2 j (by omega)
   ·rw[Wbt e0 hB hl (Zpm d1 (fun x=>c2 x.2))]at hk;simp -dsimp -implicitDefEqProofs (disch:=first|with_reducible assumption|omega) [go_sem,↓WQ ZQ (by decide) hdb,Ym,↓f0,↓f1,↓f2,↓f3,↓f4,Zzs,c1];exact ZO (ZO (ZO (ZP (hk h2 le2))))
 ·have e:Zdm a b=true:=by
   rw[Zdm,decide_eq_true_eq];exact fun j hj=>k2 j (by omega)
  rw[bk0 e0 hB hl e]at hk;refine xx ?_;exact ZO (ZO (ZP (hk h2 le2)))
theorem Zse {a b:Ze}{v u:SV}(ha:Zo h v a)(hb:Zo h u b)(ya:Zv a)(yb:Zv b)(wa:ZN a)(wb:ZN b)(hk:∀h',PH.le h h'→K (.int .i64 (Gt a b)) L h'):Zb prog 12 [stV a v,stV b u] L h K:=by
 have ha0:=ha;have hb0:=hb;obtain⟨pa,pc,ma,mc,ea,ec,xa,xc,oa,oc,da,dc,ta,tc,ka,kc,ra,rc,rfl⟩:=ha.slices;obtain⟨pa2,pc2,ma2,mc2,ea2,ec2,xa2,xc2,oa2,oc2,da2,dc2,ta2,tc2,ka2,kc2,ra2,rc2,rfl⟩:=hb.slices;refine ZS func12 rfl (rs:=[_]) rfl rfl ZX (by kernel_rfl) rfl rfl ?_;refine xx ?_;refine Z0 fun b2 nb2 zb2=>?_;(try simp only[ZT]at nb2);refine xx ?_;refine Z0 fun b3 nb3 zb3=>?_;(try simp only[ZT]at nb3);have n32:=nb3.1;refine xx ?_;refine Zb.ap (Gn (s:=a) ⟨.slice pa a.purses.length pc,.slice ma a.members.length mc,.slice ea a.entry.length ec,.slice xa a.exit.length xc,.slice oa a.pool.length oc,.slice da a.dues.length dc,.slice ta a.motions.length tc,.slice ka a.marks.length kc,.slice ra a.ring.length rc⟩ ha0 ya wa fun h1 le1 ap=>?_);have q3:h1 b3=noC:=ap.1;have q2:h1 b2=noC:=ap.2.1;clear ap
 cases ef:Yb a with
 | false =>
  rw[bk1 (by rw[ef];rfl)]at hk;refine xx ?_;exact ZO (ZO (ZP (hk h1 le1)))
 | true =>
 refine xx ?_;refine Zb.ap (Gn (s:=b) ⟨.slice pa2 b.purses.length pc2,.slice ma2 b.members.length mc2,.slice ea2 b.entry.length ec2,.slice xa2 b.exit.length xc2,.slice oa2 b.pool.length oc2,.slice da2 b.dues.length dc2,.slice ta2 b.motions.length tc2,.slice ka2 b.marks.length kc2,.slice ra2 b.ring.length rc2⟩ (hb0.up le1) yb wb fun h2 le12 ap=>?_);have p3:h2 b3=noC:=ap.1;have p2:h2 b2=noC:=ap.2.1;clear ap q3 q2;have le2:=le1.trans le12
 cases eg:Yb b with
 | false =>
  rw[bk1 (by rw[ef,eg];rfl)]at hk;refine xx ?_;exact ZO (ZO (ZP (hk h2 le2)))
 | true =>
 have e0:(Yb a&&Yb b)=true:=by rw[ef,eg];rfl
 obtain⟨_,_,la,_⟩:=Y6 ef;obtain⟨_,_,lb,_⟩:=Y6 eg;simp -dsimp -implicitDefEqProofs (disch:=first|with_reducible assumption|omega) [go_sem,Yfz];by_cases c_ep:a.ep=b.ep
 rotate_left
 ·rw[bk2 e0 (by simp [Zha,c_ep])]at hk;simp -dsimp -implicitDefEqProofs (disch:=first|with_reducible assumption|omega) [go_sem,c_ep];exact ZO (ZO (ZP (hk h2 le2)))
 by_cases c_calm:a.calm=b.calm
 rotate_left
 ·rw[bk2 e0 (by simp [Zha,c_calm])]at hk;simp -dsimp -implicitDefEqProofs (disch:=first|with_reducible assumption|omega) [go_sem,c_calm];exact ZO (ZO (ZP (hk h2 le2)))
 refine xx ?_;by_cases c_emer:a.emer=b.emer
 rotate_left
 ·rw[bk2 e0 (by simp [Zha,c_emer])]at hk;have c_e2:(a.emer == b.emer)=false:=by simpa using c_emer
  simp -dsimp -implicitDefEqProofs (disch:=first|with_reducible assumption|omega) [go_sem,c_emer,c_e2];exact ZO (ZO (ZP (hk h2 le2)))
 have c_e2:(a.emer == b.emer)=true:=by simpa using c_emer
 simp -dsimp -implicitDefEqProofs (disch:=first|with_reducible assumption|omega) [go_sem,c_e2,Yfz];by_cases c_par:a.par=b.par
 rotate_left
 ·rw[bk2 e0 (by simp [Zha,c_par])]at hk;simp -dsimp -implicitDefEqProofs (disch:=first|with_reducible assumption|omega) [go_sem,c_par];exact ZO (ZO (ZP (hk h2 le2)))
 by_cases c_most:a.most=b.most
 rotate_left
 ·rw[bk2 e0 (by simp [Zha,c_most])]at hk;simp -dsimp -implicitDefEqProofs (disch:=first|with_reducible assumption|omega) [go_sem,c_most];exact ZO (ZO (ZP (hk h2 le2)))
 by_cases c_gen:a.gen=b.gen
 rotate_left
 ·rw[bk2 e0 (by simp [Zha,c_gen])]at hk;simp -dsimp -implicitDefEqProofs (disch:=first|with_reducible assumption|omega) [go_sem,c_gen];exact ZO (ZO (ZP (hk h2 le2)))
 by_cases c_mint:a.mint=b.mint
 rotate_left
 ·rw[bk2 e0 (by simp [Zha,c_mint])]at hk;simp -dsimp -implicitDefEqProofs (disch:=first|with_reducible assumption|omega) [go_sem,c_mint];exact ZO (ZO (ZP (hk h2 le2)))
 by_cases c_burn:a.burn=b.burn
 rotate_left
 ·rw[bk2 e0 (by simp [Zha,c_burn])]at hk;simp -dsimp -implicitDefEqProofs (disch:=first|with_reducible assumption|omega) [go_sem,c_burn];exact ZO (ZO (ZP (hk h2 le2)))
 have hB:(Zha a b).all id=true:=by simp [Zha,c_ep,c_calm,c_emer,c_par,c_most,c_gen,c_mint,c_burn]
 by_cases hl:a.members.length=b.members.length
 rotate_left
 ·rw[bk6 e0 hB hl]at hk;refine xx ?_;exact ZO (ZO (ZP (hk h2 le2)))
 obtain⟨a1,d1,e1,g1,g2,_,hda⟩:=(ha0.m.up le2).open;obtain⟨a2,d2,e2,g3,g4,_,hdb⟩:=(hb0.m.up le2).open;injection e1 with e11 _ e13
 injection e2 with e21 _ e23
 subst e11 e13 e21 e23;refine xx ?_;refine Wd (0:Nat) (fun k=>k≤a.members.length∧∀j,j<k→Waj a b j) (fun k=>[(5,.int .i64 k),(2,.pointer (some ⟨b2,0,none⟩)),(3,.pointer (some ⟨b3,0,none⟩))]) (fun k=>a.members.length-k) ?_ ?_ ?_
 ·exact⟨Nat.zero_le _,fun j hj=>by omega⟩
 ·simp [Ent,List.lookup,Y3]
 rintro k ⟨k1,k2⟩;by_cases d1:k<a.members.length
 ·have dB:k<b.members.length:=by omega
  have f0:∀(L:Own) (K:Value→Prop) (t:Zm K),W5 L h2 (Un ma2 (k*6)) 0 K t=K (.int .u64 (gr ZQ b.members k).bal):=UO (hb0.m.up le2) dB (o:=0) rfl (by decide);have f1:∀(L:Own) (K:Value→Prop) (t:Zm K),W5 L h2 (Un ma2 (k*6)) 1 K t=K (.int .u64 (gr ZQ b.members k).eff):=UO (hb0.m.up le2) dB (o:=1) rfl (by decide);have f2:∀(L:Own) (K:Value→Prop) (t:Zm K),W5 L h2 (Un ma2 (k*6)) 2 K t=K (.int .u64 (gr ZQ b.members k).score):=UO (hb0.m.up le2) dB (o:=2) rfl (by decide);have f3:∀(L:Own) (K:Value→Prop) (t:Zm K),W5 L h2 (Un ma2 (k*6)) 3 K t=K (.int .i64 (gr ZQ b.members k).streak):=UO (hb0.m.up le2) dB (o:=3) rfl (by decide);have f4:∀(L:Own) (K:Value→Prop) (t:Zm K),W5 L h2 (Un ma2 (k*6+4)) 0 K t=K (.int .i64 (gr ZQ b.members k).owner):=fun L K t=>(hb0.m.up le2).fld ZQ dB (o:=4) rfl L K t;have g0:∀(L:Own) (K:Value→Prop) (t:Zm K),W5 L h2 (Un ma (k*6)) 0 K t=K (.int .u64 (gr ZQ a.members k).bal):=UO (ha0.m.up le2) d1 (o:=0) rfl (by decide);have g1:∀(L:Own) (K:Value→Prop) (t:Zm K),W5 L h2 (Un ma (k*6)) 1 K t=K (.int .u64 (gr ZQ a.members k).eff):=UO (ha0.m.up le2) d1 (o:=1) rfl (by decide);have g2:∀(L:Own) (K:Value→Prop) (t:Zm K),W5 L h2 (Un ma (k*6)) 2 K t=K (.int .u64 (gr ZQ a.members k).score):=UO (ha0.m.up le2) d1 (o:=2) rfl (by decide);have g3:∀(L:Own) (K:Value→Prop) (t:Zm K),W5 L h2 (Un ma (k*6)) 3 K t=K (.int .i64 (gr ZQ a.members k).streak):=UO (ha0.m.up le2) d1 (o:=3) rfl (by decide);have g4:∀(L:Own) (K:Value→Prop) (t:Zm K),W5 L h2 (Un ma (k*6+4)) 0 K t=K (.int .i64 (gr ZQ a.members k).owner):=fun L K t=>(ha0.m.up le2).fld ZQ d1 (o:=4) rfl L K t;refine xx ?_;refine Uh (by kernel_rfl) rfl ?_
  cases c1:J1 (gr ZQ a.members k) (gr ZQ b.members k) with
  | false =>
   rw[Wbt e0 hB hl (Zpm d1 (fun x=>by have x1:=x.1;rw[c1]at x1;cases x1))]at hk;simp -dsimp -implicitDefEqProofs (disch:=first|with_reducible assumption|omega) [go_sem,↓WQ ZQ (by decide) hda,↓WQ ZQ (by decide) hdb,Ym,↓f0,↓f1,↓f2,↓f3,↓f4,↓g0,↓g1,↓g2,↓g3,↓g4,Zwz,c1];exact ZO (ZO (ZP (hk h2 le2)))
  | true =>
   by_cases c2:(gr ZQ a.members k).owner=(gr ZQ b.members k).owner
   ·simp -dsimp -implicitDefEqProofs (disch:=first|with_reducible assumption|omega) [go_sem,↓WQ ZQ (by decide) hda,↓WQ ZQ (by decide) hdb,Ym,↓f0,↓f1,↓f2,↓f3,↓f4,↓g0,↓g1,↓g2,↓g3,↓g4,Zwz,c1];refine⟨k+1,⟨by omega,fun j hj=>?_⟩,by omega,by simp [Ent,List.lookup],Za.refl _ _⟩;by_cases e:j=k
    ·subst e;exact⟨c1,c2⟩
    ·exact k2 j (by omega)
   ·rw[Wbt e0 hB hl (Zpm d1 (fun x=>c2 x.2))]at hk;simp -dsimp -implicitDefEqProofs (disch:=first|with_reducible assumption|omega) [go_sem,↓WQ ZQ (by decide) hda,↓WQ ZQ (by decide) hdb,Ym,↓f0,↓f1,↓f2,↓f3,↓f4,↓g0,↓g1,↓g2,↓g3,↓g4,Zwz,c1];exact ZO (ZO (ZP (hk h2 le2)))
 ·have e:Zdm a b=true:=by
   rw[Zdm,decide_eq_true_eq];exact fun j hj=>k2 j (by omega)
  rw[bk0 e0 hB hl e]at hk;refine xx ?_;exact ZO (ZO (ZP (hk h2 le2)))
end Go.X
set_option maxRecDepth 100000
namespace Go.X
open Go.RowKit Go.Proofs Go.Bl Go.Proofs.Tryz
variable {L:Own} {h:PH} {K:PK}
theorem Zcc (av bv:Value)(rule:Int)(hA:∃q:SV×Ze,av=stV q.2 q.1∧Zo h q.1 q.2)(hB:∃q:SV×Ze,bv=stV q.2 q.1∧Zo h q.1 q.2)(hr : -9223372036854775808≤rule∧rule≤9223372036854775807)
  (hk:∀h',PH.le h h'→K (.bool true) L h'):Zb prog 3 [av,bv,.int .i64 rule] L h K:=by
 obtain⟨⟨v,a⟩,rfl,ha⟩:=hA;obtain⟨⟨u,b⟩,rfl,hb⟩:=hB;simp only at ha hb ⊢;have ha0:=ha;have hb0:=hb;obtain⟨pa,pc,ma,mc,ea,ec,xa,xc,oa,oc,da,dc,ta,tc,ka,kc,ra,rc,rfl⟩:=ha.slices;obtain⟨pa2,pc2,ma2,mc2,ea2,ec2,xa2,xc2,oa2,oc2,da2,dc2,ta2,tc2,ka2,kc2,ra2,rc2,rfl⟩:=hb.slices;refine ZS func3 rfl (rs:=[_]) rfl rfl ZX (by kernel_rfl) rfl rfl ?_;refine xx ?_;refine Z0 fun b3 nb3 zb3=>?_;(try simp only[ZT]at nb3);refine xx ?_;refine Z0 fun b4 nb4 zb4=>?_;(try simp only[ZT]at nb4);have n43:=nb4.1;refine xx ?_;refine Zb.ap (Zbp fun h1 le1 ap=>?_);have p4:h1 b4=noC:=ap.1;have p3:h1 b3=noC:=ap.2.1;clear ap;have hk1:=hk h1 le1;refine xx ?_;refine Zbt (s:=a) ⟨.slice pa a.purses.length pc,.slice ma a.members.length mc,.slice ea a.entry.length ec,.slice xa a.exit.length xc,.slice oa a.pool.length oc,.slice da a.dues.length dc,.slice ta a.motions.length tc,.slice ka a.marks.length kc,.slice ra a.ring.length rc⟩ (ha0.up le1) ?_
 cases hf:Zat a with
 | false =>
  refine xx ?_;exact ZO (ZO (ZP hk1))
 | true =>
 refine xx ?_;refine Zbt (s:=b) ⟨.slice pa2 b.purses.length pc2,.slice ma2 b.members.length mc2,.slice ea2 b.entry.length ec2,.slice xa2 b.exit.length xc2,.slice oa2 b.pool.length oc2,.slice da2 b.dues.length dc2,.slice ta2 b.motions.length tc2,.slice ka2 b.marks.length kc2,.slice ra2 b.ring.length rc2⟩ (hb0.up le1) ?_
 cases hg:Zat b with
 | false =>
  refine xx ?_;exact ZO (ZO (ZP hk1))
 | true =>
 have fa:=Zmw hf;have fb:=Zmw hg;have f9:=JY (Zbs hf);have g9:=JY (Zbs hg);clear hk1;refine xx ?_;refine Yj (.tkl 0 (.tkl 1 (.tkl 3 (.tkl 5 (.o1 2 (.o1 4 (.o1 6 (.o1 7 (.tk 8 (.tk 9 (.tk 10 (.tk 12 (.o1 11 (.o1 13 (.tk 14 (.tk 15 (.tk 16 (.tkl 17 (.o1 18 (.tk 19 (.tk 20 (.tkl 21 (.tkl 22 (.o1 23 (.tk 24 (.tk 25 (.tk 26 (.tk 27 (.fin))))) (.nil)))))) (.nil)))))) (.nil)) (.nil)))))) (.nil)) (.nil)) (.nil)) (.nil)))))) (by kernel_rfl) (by kernel_rfl) _ (Za.refl _ _) ?_;refine xx ?_;refine Zb.ap (Zos (a:=a) (b:=b) (v:=⟨.slice pa a.purses.length pc,.slice ma a.members.length mc,.slice ea a.entry.length ec,.slice xa a.exit.length xc,.slice oa a.pool.length oc,.slice da a.dues.length dc,.slice ta a.motions.length tc,.slice ka a.marks.length kc,.slice ra a.ring.length rc⟩) (u:=⟨.slice pa2 b.purses.length pc2,.slice ma2 b.members.length mc2,.slice ea2 b.entry.length ec2,.slice xa2 b.exit.length xc2,.slice oa2 b.pool.length oc2,.slice da2 b.dues.length dc2,.slice ta2 b.motions.length tc2,.slice ka2 b.marks.length kc2,.slice ra2 b.ring.length rc2⟩) (ha0.up le1) (hb0.up le1) (U4 fa) (U4 fb) fun h2 le2 ap=>?_);have p24:h2 b4=noC:=ap.1;have p23:h2 b3=noC:=ap.2.1;clear ap;have le12:=le1.trans le2;refine xkp (Za.forget le2) ?_;refine xx ?_;refine Zb.ap (JO (s:=a) (v:=⟨.slice pa a.purses.length pc,.slice ma a.members.length mc,.slice ea a.entry.length ec,.slice xa a.exit.length xc,.slice oa a.pool.length oc,.slice da a.dues.length dc,.slice ta a.motions.length tc,.slice ka a.marks.length kc,.slice ra a.ring.length rc⟩) (ha0.up le12) (by omega) (by omega) (by omega) (by omega) fun h3 u3 le3 i3 ap=>?_);have p34:h3 b4=noC:=ap.1;have p33:h3 b3=noC:=ap.2.1;clear ap p24 p23;have le13:=le12.trans le3;refine xkp (Za.forget (le2.trans le3)) ?_;refine xx ?_
 refine Zb.ap (JO (s:=b) (v:=⟨.slice pa2 b.purses.length pc2,.slice ma2 b.members.length mc2,.slice ea2 b.entry.length ec2,.slice xa2 b.exit.length xc2,.slice oa2 b.pool.length oc2,.slice da2 b.dues.length dc2,.slice ta2 b.motions.length tc2,.slice ka2 b.marks.length kc2,.slice ra2 b.ring.length rc2⟩) (hb0.up le13) (by omega) (by omega) (by omega) (by omega) fun h4 u4 le4 i4 ap=>?_);have p44:h4 b4=noC:=ap.1;have p43:h4 b3=noC:=ap.2.1;clear ap p34 p33;have le14:=le13.trans le4;refine xkp (Za.forget (le2.trans (le3.trans le4))) ?_;have i30:=i3.up le4;have i40:=i4;clear i3;have i3:=i30;obtain⟨pa3,pc3,ma3,mc3,ea3,ec3,xa3,xc3,oa3,oc3,da3,dc3,ta3,tc3,ka3,kc3,ra3,rc3,rfl⟩:=i3.slices;obtain⟨pa4,pc4,ma4,mc4,ea4,ec4,xa4,xc4,oa4,oc4,da4,dc4,ta4,tc4,ka4,kc4,ra4,rc4,rfl⟩:=i4.slices;refine xx ?_;refine Zb.ap (Zse (a:=a) (b:=b) (v:=⟨.slice pa3 a.purses.length pc3,.slice ma3 a.members.length mc3,.slice ea3 a.entry.length ec3,.slice xa3 a.exit.length xc3,.slice oa3 a.pool.length oc3,.slice da3 a.dues.length dc3,.slice ta3 a.motions.length tc3,.slice ka3 a.marks.length kc3,.slice ra3 a.ring.length rc3⟩) (u:=⟨.slice pa4 b.purses.length pc4,.slice ma4 b.members.length mc4,.slice ea4 b.entry.length ec4,.slice xa4 b.exit.length xc4,.slice oa4 b.pool.length oc4,.slice da4 b.dues.length dc4,.slice ta4 b.motions.length tc4,.slice ka4 b.marks.length kc4,.slice ra4 b.ring.length rc4⟩) i30 i40 (U4 fa) (U4 fb) (Zvz (Zbs hf)) (Zvz (Zbs hg)) fun h5 le5 ap=>?_);have p54:h5 b4=noC:=ap.1;have p53:h5 b3=noC:=ap.2.1;clear ap p44 p43;have le15:=le14.trans le5;refine xkp (Za.forget (le2.trans (le3.trans (le4.trans le5)))) ?_;refine xx ?_;refine Zpr rule ?_;refine xkp (Za.forget (le2.trans (le3.trans (le4.trans le5)))) ?_;refine xx ?_;refine Zrw rule ?_;refine xkp (Za.forget (le2.trans (le3.trans (le4.trans le5)))) ?_
 simp -dsimp -implicitDefEqProofs (disch:=first|with_reducible assumption|omega) [go_sem,Zen,beq_self_eq_true];refine Vz (s:=a) ⟨.slice pa a.purses.length pc,.slice ma a.members.length mc,.slice ea a.entry.length ec,.slice xa a.exit.length xc,.slice oa a.pool.length oc,.slice da a.dues.length dc,.slice ta a.motions.length tc,.slice ka a.marks.length kc,.slice ra a.ring.length rc⟩ (ha0.up le15) (U4 fa) ?_
 cases ef:Yb a with
 | false =>
  refine xkp (Za.forget (le2.trans (le3.trans (le4.trans le5)))) ?_;refine xx ?_
  first
  | refine xkp (Za.forget (le2.trans (le3.trans (le4.trans le5)))) ?_
  | skip
  try simp -dsimp -implicitDefEqProofs (disch:=first|with_reducible assumption|omega) [go_sem]
  exact ZO (ZO (ZP (hk h5 le15)))
 | true =>
  refine xkp (Za.forget (le2.trans (le3.trans (le4.trans le5)))) ?_;refine xx ?_;refine Zos (a:=a) (b:=a) (v:=⟨.slice pa a.purses.length pc,.slice ma a.members.length mc,.slice ea a.entry.length ec,.slice xa a.exit.length xc,.slice oa a.pool.length oc,.slice da a.dues.length dc,.slice ta a.motions.length tc,.slice ka a.marks.length kc,.slice ra a.ring.length rc⟩) (u:=⟨.slice pa a.purses.length pc,.slice ma a.members.length mc,.slice ea a.entry.length ec,.slice xa a.exit.length xc,.slice oa a.pool.length oc,.slice da a.dues.length dc,.slice ta a.motions.length tc,.slice ka a.marks.length kc,.slice ra a.ring.length rc⟩) (ha0.up le15) (ha0.up le15) (U4 fa) (U4 fa) fun h6 le6=>?_;rw[Ydt ef];refine xkp (Za.forget (le2.trans (le3.trans (le4.trans (le5.trans le6))))) ?_;refine xx ?_
  first
  | refine xkp (Za.forget (le2.trans (le3.trans (le4.trans (le5.trans le6))))) ?_
  | skip
  try simp -dsimp -implicitDefEqProofs (disch:=first|with_reducible assumption|omega) [go_sem]
  exact ZO (ZO (ZP (hk h6 (le15.trans le6))))
theorem uq_ge {a b c:Int}(hc:0<c):a*b≤c*uqQ a b c:=by
 have h1:=Int.mul_ediv_add_emod (a*b) c;have h2:=Int.emod_lt_of_pos (a*b) hc;unfold uqQ;split
 ·omega
 ·rw[Int.mul_add,Int.mul_one];omega
theorem YSpec.fin {l:Nat}{args:List Value}{L:Own}{h:PH}{K:PK}(hs:YSpec prog l args L h fun v L' h'=>fin K v L' h'):YSpec prog l args L h K :=
 ⟨trivial,fun W hg=>by
  obtain⟨fn,tmps,assign,body,hy,hR⟩:=hs.2 W hg;refine⟨fn,tmps,assign,body,hy,hR.mono fun e W' ⟨r,L',h',he,⟨L2,h2,hd,hk⟩,st⟩=>?_⟩;obtain⟨g,f⟩:=hd W' st.1;refine⟨r,L2,h2,he,hk,g,st.2.1,fun e he=>?_⟩;obtain⟨e',he',hb⟩:=List.mem_map.1 (f e he)
  rw[← hb];exact st.2.2 e' he'⟩
abbrev RQ:=RV×Zf
def rpQ (x:RQ):List Value:=rpC x.2 x.1
structure Wgi (h:PH)(v:Value)(l:List Zf)(q:List RQ):Prop where
 r:Zh rpQ 14 h v q
 e:q.map (fun x=>x.2)=l
 i:∀x∈q,Zw h x.1 x.2
theorem Wgi.up {h h':PH}(le:PH.le h h'){v:Value}{l:List Zf}{q:List RQ}(x:Wgi h v l q):Wgi h' v l q:=⟨x.r.up le,x.e,fun y hy=>(x.i y hy).up le⟩
structure RuG where
 o:Option (Nat×Nat)
 u:SV
 q:List RQ
structure RuI (pl:List (List Int))(s:Ze)(j:Nat)(h:PH)(y:RuG):Prop where
 i:Zo h y.u (itS pl s j)
 ok:okO y.o j
 l:y.q.length=j
 e:y.q.map (fun x=>x.2)=(List.range j).map (itR pl s)
 r:∀x∈y.q,Zw h x.1 x.2
theorem RuI.up {pl:List (List Int)}{s:Ze}{j:Nat}{h h':PH}(le:PH.le h h'){y:RuG}(x:RuI pl s j h y):RuI pl s j h' y:=⟨x.i.up le,x.ok,x.l,x.e,fun z hz=>(x.r z hz).up le⟩
theorem RuI.next {pl:List (List Int)}{s:Ze}{j:Nat}{h:PH}{y:RuG}(x:RuI pl s j h y){o':Option (Nat×Nat)}{u:SV}{q:RV}(i:Zo h u (itS pl s (j+1)))(r:Zw h q (itR pl s j))(ok:okO o' (j+1)):RuI pl s (j+1) h ⟨o',u,y.q++[(q,itR pl s j)]⟩ :=
 ⟨i,ok,by rw[List.length_append,x.l];rfl,by rw[List.map_append,x.e,List.range_succ,List.map_append];rfl,fun z hz=>by
  rcases List.mem_append.1 hz with hz|hz
  ·exact x.r z hz
  ·rw[List.mem_singleton]at hz;subst hz;exact r⟩
theorem Zxy (p:Zd)(ok:Zj p)(hk:∀h',PH.le h h'→K (.tuple #[.int .i64 (if Yd p=true then (Vo p:Int) else 0),.int .i64 (if Yd p=true then 0 else 70)]) L h'):Zb prog 187 [WR p] L h K:=by
 refine ZS func187 rfl (rs:=[_,_]) rfl rfl ZX (by kernel_rfl) rfl rfl ?_;refine xx ?_;refine Z0 fun b1 nb1 zb1=>?_;(try simp only[ZT]at nb1);refine xx ?_;refine Zb.ap (GD p ok fun h1 le1 ap=>?_);have p1:h1 b1=noC:=ap.1;clear ap;have hk1:=hk h1 le1;by_cases hr:Yd p=true
 ·obtain⟨s1,s2⟩:=W4 hr;rw[if_pos hr,if_pos hr]at hk1;rw[if_pos hr];refine xx ?_;refine Zpq p ok s1 s2 ?_;refine xx ?_;exact ZO (ZP hk1)
 ·rw[if_neg hr,if_neg hr]at hk1;rw[if_neg hr];refine xx ?_;exact ZO (ZP hk1)
end Go.X
set_option maxRecDepth 100000
namespace Go.X
open Go.RowKit Go.Proofs Go.Bl Go.Proofs.Tryz
variable {L:Own} {h:PH} {K:PK}
def V1 (p:Zd):Int:=uqN p.inc p.bias p.quot
def G1 (p:Zd):Int:=uqN (p.cap-p.floor) 1 (V1 p)
def GW (p:Zd)(n:Int):Int:=p.delay+n*G1 p+1
theorem Yqt {a b c:Int}(hc:0<c)(h0:0≤a*b):0≤uqQ a b c∧uqQ a b c≤a*b+1:=by
 have h1:=Int.ediv_nonneg h0 (Int.le_of_lt hc);have h2:=Int.ediv_le_self c h0;unfold uqQ;split<;>omega
theorem J9 {p:Zd}(hr:Yd p=true):uqE p.inc p.bias p.quot=0∧1≤V1 p∧V1 p≤9223372036854775809:=by
 obtain⟨s1,s2⟩:=W4 hr;have f1:=Yk s1;have f2:=YU s2;have m1:1*1≤p.inc*p.bias:=Int.mul_le_mul f1.1 f2.1 (by decide) (by omega);have m2:p.inc*p.bias≤2147483648*4294967296:=Int.mul_le_mul f1.2.1 f2.2.1 (by omega) (by decide);have u1:=Yqt (a:=p.inc) (b:=p.bias) (c:=p.quot) (by omega) (by omega);have u2:=uq_ge (a:=p.inc) (b:=p.bias) (c:=p.quot) (by omega);have e:uqE p.inc p.bias p.quot=0:=by rw[uqE,if_neg (by omega),if_pos (by omega)]
 refine⟨e,?_,?_⟩
 ·rw[V1,uqN,if_pos e];by_cases c:1≤uqQ p.inc p.bias p.quot
  ·exact c
  ·have:uqQ p.inc p.bias p.quot=0:=by omega
   rw[this,Int.mul_zero]at u2;omega
 ·rw[V1,uqN,if_pos e];omega
theorem Zng {p:Zd}(hr:Yd p=true):uqE (p.cap-p.floor) 1 (V1 p)=0∧0≤G1 p∧G1 p≤1099511627777:=by
 obtain⟨s1,s2⟩:=W4 hr;have f1:=Yk s1;obtain⟨_,l1,_⟩:=J9 hr;have u1:=Yqt (a:=p.cap-p.floor) (b:=1) (c:=V1 p) (by omega) (by omega);have e:uqE (p.cap-p.floor) 1 (V1 p)=0:=by rw[uqE,if_neg (by omega),if_pos (by omega)]
 exact⟨e,by rw[G1,uqN,if_pos e];omega,by rw[G1,uqN,if_pos e];omega⟩
theorem Zfv {p:Zd}(hr:Yd p=true){n:Int}(hn:0≤n∧n≤128):0≤n*G1 p∧n*G1 p≤140737488355456∧1≤GW p n∧GW p n≤140737488357456:=by
 obtain⟨_,e1,e2⟩:=Zng hr;have f3:=Z6 hr;have m1:n*G1 p≤128*1099511627777:=Int.mul_le_mul hn.2 e2 e1 (by decide);have m0:=Int.mul_nonneg hn.1 e1;unfold GW;omega
theorem Yda (a b:Int)(ha:0≤a∧a≤18446744073709551615)(hb:0≤b∧b≤18446744073709551615)(hab:a*b≤18446744073709551615)(hk:K (.tuple #[.int .u64 (a*b),.int .i64 0]) L h):Zb prog 186 [.int .u64 a,.int .u64 b] L h K:=by
 have h0:=Int.mul_nonneg ha.1 hb.1;have e1:a*b/18446744073709551616=0:=by omega
 have e2:a*b%18446744073709551616=a*b:=by omega
 refine ZS func186 rfl (rs:=[_,_]) rfl rfl ZX (by kernel_rfl) rfl rfl ?_;refine xx ?_;refine Zjf _ _ ha.1 ha.2 hb.1 hb.2 ?_;rw[e1,e2];refine xx ?_;exact ZP hk
theorem Zuv (p:Zd)(ok:Zj p)(hr:Yd p=true)(hk:∀h',PH.le h h'→K (.tuple #[.int .u64 (V1 p),.int .i64 0]) L h'):Zb prog 183 [WR p] L h K:=by
 have w1:=ok.w p.inc (by simp [Ys]);have w2:=ok.w p.bias (by simp [Ys]);have w3:=ok.w p.quot (by simp [Ys]);obtain⟨e,_⟩:=J9 hr;refine ZS func183 rfl (rs:=[_,_]) rfl rfl ZX (by kernel_rfl) rfl rfl ?_;refine xx ?_;refine Z0 fun b1 nb1 zb1=>?_;(try simp only[ZT]at nb1);refine xx ?_;refine Zb.ap (GD p ok fun h1 le1 ap=>?_);have p1:h1 b1=noC:=ap.1;clear ap;rw[if_pos hr];refine xx ?_;refine Zoi _ _ _ w1 w2 w3 ?_;rw[e,show uqN p.inc p.bias p.quot=V1 p from rfl];refine xx ?_;exact ZO (ZP (hk h1 le1))
theorem Zsp (p:Zd)(ok:Zj p)(hr:Yd p=true)(n:Int)(hn:0≤n∧n≤128)(hk:∀h',PH.le h h'→K (.tuple #[.int .u64 (GW p n),.int .i64 0]) L h'):Zb prog 69 [WR p,.int .i64 n] L h K:=by
 obtain⟨s1,s2⟩:=W4 hr;have f1:=Yk s1;have f3:=Z6 hr;obtain⟨_,l1,l2⟩:=J9 hr;obtain⟨e,e1,e2⟩:=Zng hr;obtain⟨b1',b2',b3',b4'⟩:=Zfv hr hn;refine ZS func69 rfl (rs:=[_,_]) rfl rfl ZX (by kernel_rfl) rfl rfl ?_;refine xx ?_;refine Z0 fun b2 nb2 zb2=>?_;(try simp only[ZT]at nb2);refine xx ?_;refine Zb.ap (Zuv p ok hr fun h1 le1 ap=>?_);have p2:h1 b2=noC:=ap.1;clear ap;refine xx ?_;refine Zcn _ _ _ ?_;rw[show wi n 0 128=true by rw[wi_iff];exact hn];refine xx ?_;refine Zoi _ _ _ (by omega) (by decide) (by omega) ?_;rw[e,show uqN (p.cap-p.floor) 1 (V1 p)=G1 p from rfl];refine xx ?_;refine Yda _ _ (by omega) (by omega) (by omega) ?_;refine xx ?_;refine Z0 fun b48 nb48 zb48=>?_;(try simp only[ZT]at nb48);refine xx ?_;refine Yc (sz:=1) (n:=3) (cap:=3) [] ⟨Nat.le_refl _,by decide⟩ rfl (by decide) (by first|exact zb48|assumption) fun h2 le2 s2 f2=>?_
 have iL:Ints h2 .u64 (.slice (some ⟨b48,0,none⟩) 3 3) [p.delay,n*G1 p,1]:=⟨s2,fun z hz=>by
  rw[show IntKind.u64.min=0 by decide,show IntKind.u64.max=18446744073709551615 by decide];simp only[List.mem_cons,List.not_mem_nil,or_false]at hz
  rcases hz with rfl|rfl|rfl<;>omega⟩
 refine Wq _ iL ?_;have et:tot [p.delay,n*G1 p,1]=GW p n:=by
  simp only[WJ,Zgq,GW];omega
 rw[et,YF (by omega)];simp only[List.nil_append];refine xx ?_;exact ZO (ZP (hk h2 (le1.trans le2)))
theorem Zqy (p:Zd)(ok:Zj p)(hr:Yd p=true)(hk:∀h',PH.le h h'→K (.tuple #[.int .i64 (p.delay+Vo p+1),.int .i64 0]) L h'):Zb prog 70 [WR p] L h K:=by
 have f3:=Z6 hr;have hr0:=hr;simp only[Yd,Bool.and_eq_true,decide_eq_true_eq]at hr0;have hT:=hr0.2.1;refine ZS func70 rfl (rs:=[_,_]) rfl rfl ZX (by kernel_rfl) rfl rfl ?_;refine xx ?_;refine Z0 fun b1 nb1 zb1=>?_;(try simp only[ZT]at nb1);refine xx ?_;refine Zb.ap (Zxy p ok fun h1 le1 ap=>?_);have p1:h1 b1=noC:=ap.1;clear ap;rw[if_pos hr,if_pos hr];refine xx ?_;exact ZO (ZP (hk h1 le1))
theorem Zmu {s:Ze}{bs:List Int}(c:(G2 s bs).2=0):Yd s.par=true∧0≤(G2 s bs).1∧(G2 s bs).1≤128:=by
 unfold G2 at c ⊢;split at c
 ·cases c
 ·rename_i h1;have hf:Yb s=true:=by simpa using h1
  obtain⟨_,_,hl,hr⟩:=Y6 hf;split at c
  ·cases c
  ·rename_i h2;split at c
   ·cases c
   ·rename_i h3;rw[if_neg h1,if_neg h2,if_neg h3];have:=Zfs s bs s.members.length;exact⟨hr,by simp only;omega,by simp only;omega⟩
theorem Zsi {s:Ze}{bs:List Int}(v:SV)(bv:Value)(hs:Zo h v s)(few:Zv s)(hbv:Ints h .u8 bv bs)(hl:bs.length≤1000)
  (hk:∀h',PH.le h h'→K (.tuple #[.int .u64 (if (G2 s bs).2=0 then GW s.par (G2 s bs).1 else 0),.int .i64 (G2 s bs).2]) L h'):Zb prog 18 [stV s v,bv] L h K:=by
 have hs0:=hs;have hbv0:=hbv;have ok:=hs.ok.p;obtain⟨pa,pc,ma,mc,ea,ec,xa,xc,oa,oc,da,dc,ta,tc,ka,kc,ra,rc,rfl⟩:=hs.slices;obtain⟨ya,yc,rfl,_⟩:=hbv.open;refine ZS func18 rfl (rs:=[_,_]) rfl rfl ZX (by kernel_rfl) rfl rfl ?_;refine xx ?_;refine Z0 fun b2 nb2 zb2=>?_;(try simp only[ZT]at nb2);refine xx ?_;refine G9 (s:=s) (bs:=bs) ⟨.slice pa s.purses.length pc,.slice ma s.members.length mc,.slice ea s.entry.length ec,.slice xa s.exit.length xc,.slice oa s.pool.length oc,.slice da s.dues.length dc,.slice ta s.motions.length tc,.slice ka s.marks.length kc,.slice ra s.ring.length rc⟩ _ hs0 few hbv0 hl ?_;by_cases c:(G2 s bs).2=0
 ·obtain⟨o1,o2,o3⟩:=Zmu c;rw[if_pos c,c]at hk;rw[c];refine xx ?_;refine Zsp s.par ok o1 _ ⟨o2,o3⟩ fun h1 le1=>?_;refine xx ?_;exact ZO (ZP (hk h1 le1))
 ·rw[if_neg c]at hk;refine xx ?_;exact ZO (ZP (hk h (PH.le_refl _)))
theorem Zzx {s:Ze}{bs:List Int}(v:SV)(bv:Value)(hs:Zo h v s)(few:Zv s)(hbv:Ints h .u8 bv bs)(hl:bs.length≤1000)
  (hk:∀h',PH.le h h'→K (.tuple #[.int .i64 (if (G2 s bs).2=0 then s.par.delay+Vo s.par+1 else 0),.int .i64 (G2 s bs).2]) L h'):Zb prog 19 [stV s v,bv] L h K:=by
 have hs0:=hs;have hbv0:=hbv;have ok:=hs.ok.p;obtain⟨pa,pc,ma,mc,ea,ec,xa,xc,oa,oc,da,dc,ta,tc,ka,kc,ra,rc,rfl⟩:=hs.slices;obtain⟨ya,yc,rfl,_⟩:=hbv.open;refine ZS func19 rfl (rs:=[_,_]) rfl rfl ZX (by kernel_rfl) rfl rfl ?_;refine xx ?_;refine Z0 fun b2 nb2 zb2=>?_;(try simp only[ZT]at nb2);refine xx ?_;refine G9 (s:=s) (bs:=bs) ⟨.slice pa s.purses.length pc,.slice ma s.members.length mc,.slice ea s.entry.length ec,.slice xa s.exit.length xc,.slice oa s.pool.length oc,.slice da s.dues.length dc,.slice ta s.motions.length tc,.slice ka s.marks.length kc,.slice ra s.ring.length rc⟩ _ hs0 few hbv0 hl ?_;by_cases c:(G2 s bs).2=0
 ·obtain⟨o1,o2,o3⟩:=Zmu c;rw[if_pos c,c]at hk;rw[c];refine xx ?_;refine Zqy s.par ok o1 fun h1 le1=>?_;refine xx ?_;exact ZO (ZP (hk h1 le1))
 ·rw[if_neg c]at hk;refine xx ?_;exact ZO (ZP (hk h (PH.le_refl _)))
end Go.X
set_option maxRecDepth 100000
namespace Go.X
open Go.RowKit Go.Proofs Go.Bl Go.Proofs.Tryz
variable {L:Own} {h:PH} {K:PK}
theorem Zsj {s:Ze}{bs:List Int}(v:SV)(bv:Value)(hs:Zo h v s)(few:Zv s)(wf:ZN s)(hbv:Ints h .u8 bv bs)(hl:bs.length≤1000)(hk:∀h',PH.le h h'→K (.tuple #[.int .i64 (G2 s bs).1,.int .i64 (G2 s bs).2]) L h'):Zb prog 20 [stV s v,bv] L h K:=by
 have hs0:=hs;have hbv0:=hbv;have hbb:∀i,0≤at0 bs i∧at0 bs i≤255:=fun i=>hbv.byte i;obtain⟨pa,pc,ma,mc,ea,ec,xa,xc,oa,oc,da,dc,ta,tc,ka,kc,ra,rc,rfl⟩:=hs.slices;obtain⟨ya,yc,rfl,_⟩:=hbv.open;have hm2:=few.m;refine ZS func20 rfl (rs:=[_,_]) rfl rfl ZX (by kernel_rfl) rfl rfl ?_;refine xx ?_;refine Z0 fun b2 nb2 zb2=>?_;(try simp only[ZT]at nb2);refine xx ?_;refine Zb.ap (Gn (s:=s) ⟨.slice pa s.purses.length pc,.slice ma s.members.length mc,.slice ea s.entry.length ec,.slice xa s.exit.length xc,.slice oa s.pool.length oc,.slice da s.dues.length dc,.slice ta s.motions.length tc,.slice ka s.marks.length kc,.slice ra s.ring.length rc⟩ hs0 few wf fun h1 le1 ap=>?_);have p2:h1 b2=noC:=ap.1;clear ap;have hk:=hk h1 le1
 cases hf:Yb s with
 | false =>
  rw[G2,if_pos hf]at hk;refine xx ?_;exact ZO (ZP hk)
 | true =>
 rw[G2,if_neg (by rw[hf];decide)]at hk;refine xx ?_;refine Zfc (bs:=bs) _ _ (hbv0.up le1) (by omega) (by omega) ?_;rw[← Zcq _ _ hbb]
 cases hc:Jz bs s.members.length with
 | false =>
  rw[if_pos hc]at hk;refine xx ?_;exact ZO (ZP hk)
 | true =>
 rw[if_neg (by rw[hc];decide)]at hk;have hsc:=Yji hbb hc;obtain⟨a1,c1,e1,g1,g2,_,hda⟩:=(hs0.m.up le1).open;injection e1 with e11 _ e13
 subst e11 e13;refine xx ?_;refine Wd (0:Nat) (fun k=>k≤s.members.length∧Yzb s bs k) (fun k=>[(8,.int .i64 k),(7,.int .i64 (Zns bs k:Nat)),(6,.int .i64 (GV s bs k:Nat)),(1,.slice ya bs.length yc),(2,.pointer (some ⟨b2,0,none⟩))]) (fun k=>s.members.length-k) ?_ ?_ ?_
 ·exact⟨Nat.zero_le _,fun j hj=>by omega⟩
 ·simp [Ent,List.lookup,Y3,GV,Zns]
 rintro k ⟨k1,k2⟩;have hle:=Zfs s bs k;have hle2:=Zzl bs k;by_cases d1:k<s.members.length
 ·have fs:∀(L:Own) (K:Value→Prop) (t:Zm K),W5 L h1 (Un ma (k*6+5)) 0 K t=K (.int .i64 (gr ZQ s.members k).status):=fun L K t=>(hs0.m.up le1).fld ZQ d1 (o:=5) rfl L K t;refine xx ?_;refine Zgh (bs:=bs) _ k (hbv0.up le1) (by omega) ?_
  cases hg:WH bs (k:Int) with
  | true =>
   have eN:GV s bs (k+1)=GV s bs k:=by rw[GV,if_neg (fun x=>by rw[hg]at x;cases x.1)];rfl
   have eS:Zns bs (k+1)=Zns bs k+1:=by rw[Zns,if_pos hg]
   by_cases d2:(gr ZQ s.members k).status=2
   ·simp -dsimp -implicitDefEqProofs (disch:=first|with_reducible assumption|omega) [go_sem,↓WQ ZQ (by decide) hda,Ym,↓fs];refine⟨k+1,⟨by omega,fun j hj hj2=>?_⟩,by omega,by simp [Ent,List.lookup,eN,eS],Za.refl _ _⟩;by_cases e:j=k
    ·subst e;exact d2
    ·exact k2 j (by omega) hj2
   ·rw[if_pos (.inr (fun x=>d2 (x k d1 hg)))]at hk;simp -dsimp -implicitDefEqProofs (disch:=first|with_reducible assumption|omega) [go_sem,↓WQ ZQ (by decide) hda,Ym,↓fs];exact ZO (ZP hk)
  | false =>
   have eS:Zns bs (k+1)=Zns bs k:=by rw[Zns,if_neg (by rw[hg];decide)];rfl
   have k3:Yzb s bs (k+1):=fun j hj hj2=>by
    by_cases e:j=k
    ·subst e;rw[hg]at hj2;cases hj2
    ·exact k2 j (by omega) hj2
   simp -dsimp -implicitDefEqProofs (disch:=first|with_reducible assumption|omega) [go_sem,↓WQ ZQ (by decide) hda,Ym];refine GS (gr ZQ s.members k) ?_;by_cases d2:(gr ZQ s.members k).status=2∨(gr ZQ s.members k).status=3
   ·have eN:GV s bs (k+1)=GV s bs k+1:=by rw[GV,if_pos ⟨hg,d2⟩]
    rw[decide_eq_true d2];refine xx ?_;exact⟨k+1,⟨by omega,k3⟩,by omega,by simp [Ent,List.lookup,eN,eS],Za.refl _ _⟩
   ·have eN:GV s bs (k+1)=GV s bs k:=by rw[GV,if_neg (fun x=>d2 x.2)];rfl
    rw[decide_eq_false d2];refine xx ?_;exact⟨k+1,⟨by omega,k3⟩,by omega,by simp [Ent,List.lookup,eN,eS],Za.refl _ _⟩
 ·obtain rfl:k=s.members.length:=by omega
  by_cases c0:GA bs bs.length=0
  ·have e0:=hsc.2 c0;rw[if_pos (.inl c0)]at hk;simp -dsimp -implicitDefEqProofs (disch:=first|with_reducible assumption|omega) [go_sem,e0];exact ZO (ZP hk)
  ·have e0:¬Zns bs s.members.length=0:=fun x=>c0 (hsc.1 x);rw[if_neg (fun x=>x.elim c0 (fun y=>y k2))]at hk;refine xx ?_;exact ZO (ZP hk)
theorem Zsk (p:Zd)(ok:Zj p)(hr:Yd p=true)(hk:∀h',PH.le h h'→K (.int .u64 (V1 p)) L h'):Zb prog 75 [WR p] L h K:=by
 have w1:=ok.w p.inc (by simp [Ys]);have w2:=ok.w p.bias (by simp [Ys]);have w3:=ok.w p.quot (by simp [Ys]);obtain⟨e,_⟩:=J9 hr;refine ZS func75 rfl (rs:=[_]) rfl rfl ZX (by kernel_rfl) rfl rfl ?_;refine xx ?_;refine Z0 fun b1 nb1 zb1=>?_;(try simp only[ZT]at nb1);refine xx ?_;refine Zui _ _ _ w1 w2 w3 fun h1 le1=>?_;rw[e,show uqN p.inc p.bias p.quot=V1 p from rfl];refine xx ?_;exact ZO (ZP (hk h1 le1))
theorem Zsd (p:Zd)(ok:Zj p)(hr:Yd p=true)(n:Int)(hn:0≤n∧n≤128)(hk:∀h',PH.le h h'→K (.int .u64 (GW p n)) L h'):Zb prog 21 [WR p,.int .i64 n] L h K:=by
 obtain⟨s1,s2⟩:=W4 hr;have f1:=Yk s1;have f3:=Z6 hr;obtain⟨_,l1,l2⟩:=J9 hr;obtain⟨e,e1,e2⟩:=Zng hr;obtain⟨m1,m2,m3,m4⟩:=Zfv hr hn;refine ZS func21 rfl (rs:=[_]) rfl rfl ZX (by kernel_rfl) rfl rfl ?_;refine xx ?_;refine Z0 fun b2 nb2 zb2=>?_;(try simp only[ZT]at nb2);refine xx ?_;refine Yj (.tk 0 (.tk 2 (.tkl 1 (.tkl 3 (.tk 4 (.tkl 5 (.o1 6 (.o1 7 (.tk 8 (.tk 9 (.tk 10 (.tk 11 (.tk 12 (.fin)))))) (.nil)) (.nil)))))))) (by kernel_rfl) (by kernel_rfl) _ (Za.refl _ _) ?_;refine xx ?_;refine Zb.ap (Zsk p ok hr fun h1 le1 ap=>?_);have p1:h1 b2=noC:=ap.1;clear ap;refine xkp (Za.forget le1) ?_;refine xx ?_;refine Zb.ap (Zui _ _ _ (by omega) (by decide) (by omega) fun h2 le2 ap=>?_);have p2:h2 b2=noC:=ap.1;clear ap;rw[e,show uqN (p.cap-p.floor) 1 (V1 p)=G1 p from rfl]
 first
 | refine xkp (Za.forget (le1.trans le2)) ?_
 | skip
 refine xx ?_;exact ZO (ZP (hk h2 (le1.trans le2)))
theorem Zcp (av bv:Value){bs:List Int}(hA:∃q:SV×Ze,av=stV q.2 q.1∧Zo h q.1 q.2)(hB:Ints h .u8 bv bs)
  (hk:∀h',PH.le h h'→K (.bool true) L h'):Zb prog 4 [av,bv] L h K:=by
 obtain⟨⟨v,s⟩,rfl,hs⟩:=hA;simp only at hs ⊢;have hs0:=hs;have hB0:=hB;have ok:=hs.ok.p;obtain⟨pa,pc,ma,mc,ea,ec,xa,xc,oa,oc,da,dc,ta,tc,ka,kc,ra,rc,rfl⟩:=hs.slices;obtain⟨ya,yc,rfl,_⟩:=hB.open;refine ZS func4 rfl (rs:=[_]) rfl rfl ZX (by kernel_rfl) rfl rfl ?_;refine xx ?_;refine Z0 fun b2 nb2 zb2=>?_;(try simp only[ZT]at nb2);refine xx ?_;refine Zb.ap (Zbp fun h1 le1 ap=>?_);have p1:h1 b2=noC:=ap.1;clear ap;have hk1:=hk h1 le1;refine xx ?_;refine Zbt (s:=s) ⟨.slice pa s.purses.length pc,.slice ma s.members.length mc,.slice ea s.entry.length ec,.slice xa s.exit.length xc,.slice oa s.pool.length oc,.slice da s.dues.length dc,.slice ta s.motions.length tc,.slice ka s.marks.length kc,.slice ra s.ring.length rc⟩ (hs0.up le1) ?_
 cases hf:Zat s with
 | false =>
  refine xx ?_;exact ZO (ZP hk1)
 | true =>
 have fa:=Zmw hf;have f9:=JY (Zbs hf);by_cases cl:(100:Int)<bs.length
 ·refine xx ?_;exact ZO (ZP hk1)
 clear hk1;have hl:bs.length≤1000:=by omega
 refine xx ?_;refine G9 (s:=s) (bs:=bs) ⟨.slice pa s.purses.length pc,.slice ma s.members.length mc,.slice ea s.entry.length ec,.slice xa s.exit.length xc,.slice oa s.pool.length oc,.slice da s.dues.length dc,.slice ta s.motions.length tc,.slice ka s.marks.length kc,.slice ra s.ring.length rc⟩ _ (hs0.up le1) (U4 fa) (hB0.up le1) hl ?_;refine xx ?_;refine Zb.ap (Zsi (s:=s) (bs:=bs) ⟨.slice pa s.purses.length pc,.slice ma s.members.length mc,.slice ea s.entry.length ec,.slice xa s.exit.length xc,.slice oa s.pool.length oc,.slice da s.dues.length dc,.slice ta s.motions.length tc,.slice ka s.marks.length kc,.slice ra s.ring.length rc⟩ _ (hs0.up le1) (U4 fa) (hB0.up le1) hl fun h2 le2 ap=>?_);have p2:h2 b2=noC:=ap.1;clear ap;have le12:=le1.trans le2;refine xx ?_;refine Zb.ap (Zzx (s:=s) (bs:=bs) ⟨.slice pa s.purses.length pc,.slice ma s.members.length mc,.slice ea s.entry.length ec,.slice xa s.exit.length xc,.slice oa s.pool.length oc,.slice da s.dues.length dc,.slice ta s.motions.length tc,.slice ka s.marks.length kc,.slice ra s.ring.length rc⟩ _ (hs0.up le12) (U4 fa) (hB0.up le12) hl fun h3 le3 ap=>?_);have p3:h3 b2=noC:=ap.1;clear ap;have le13:=le12.trans le3;refine xx ?_;refine Zb.ap (JO (s:=s) (v:=⟨.slice pa s.purses.length pc,.slice ma s.members.length mc,.slice ea s.entry.length ec,.slice xa s.exit.length xc,.slice oa s.pool.length oc,.slice da s.dues.length dc,.slice ta s.motions.length tc,.slice ka s.marks.length kc,.slice ra s.ring.length rc⟩) (hs0.up le13) (by omega) (by omega) (by omega) (by omega) fun h4 u4 le4 i4 ap=>?_);have p4:h4 b2=noC:=ap.1;clear ap;have le14:=le13.trans le4;have i40:=i4;obtain⟨pa4,pc4,ma4,mc4,ea4,ec4,xa4,xc4,oa4,oc4,da4,dc4,ta4,tc4,ka4,kc4,ra4,rc4,rfl⟩:=i4.slices;refine xx ?_;refine Z0 fun b11 nb11 zb11=>?_;(try simp only[ZT]at nb11);have n112:=nb11.1;refine xx ?_
 refine Zb.ap (Zsj (s:=s) (bs:=bs) ⟨.slice pa4 s.purses.length pc4,.slice ma4 s.members.length mc4,.slice ea4 s.entry.length ec4,.slice xa4 s.exit.length xc4,.slice oa4 s.pool.length oc4,.slice da4 s.dues.length dc4,.slice ta4 s.motions.length tc4,.slice ka4 s.marks.length kc4,.slice ra4 s.ring.length rc4⟩ _ i40 (U4 fa) (Zvz (Zbs hf)) (hB0.up le14) hl fun h5 le5 ap=>?_);have p5:h5 b11=noC:=ap.1;have p52:h5 b2=noC:=ap.2.1;clear ap;have le15:=le14.trans le5;by_cases c:(G2 s bs).2=0
 ·obtain⟨o1,o2,o3⟩:=Zmu c;have f3:=Z6 o1;obtain⟨m1,m2,m3,m4⟩:=Zfv o1 ⟨o2,o3⟩;obtain⟨s1,s2⟩:=W4 o1;have hr0:=o1;simp only[Yd,Bool.and_eq_true,decide_eq_true_eq]at hr0;have hT:=hr0.2.1;simp only[if_pos c]
  generalize (G2 s bs).2=x2 at c ⊢
  subst c
  generalize (G2 s bs).1=x1 at o2 o3 m1 m2 m3 m4 ⊢
  refine xx ?_;refine Yj (.tk 0 (.tk 1 (.tk 3 (.tkl 2 (.o1 4 (.tk 5 (.tk 6 (.tk 7 (.tk 8 (.tk 9 (.tk 10 (.tk 13 (.tkl 11 (.tk 12 (.tkl 14 (.o1 15 (.tk 16 (.tk 17 (.tk 18 (.tk 19 (.tk 20 (.fin)))))) (.nil)))))))))))) (.nil)))))) (by kernel_rfl) (by kernel_rfl) _ (Za.refl _ _) ?_;refine xx ?_;refine Zb.ap (Zsd s.par ok o1 x1 ⟨o2,o3⟩ fun h6 le6 ap=>?_);have p6:h6 b11=noC:=ap.1;have p62:h6 b2=noC:=ap.2.1;clear ap
  first
  | refine xkp (Za.forget le6) ?_
  | skip
  refine xx ?_;refine Zic s.par ok s1 s2 fun h7 le7=>?_
  first
  | refine xkp (Za.forget (le6.trans le7)) ?_
  | skip
  refine xx ?_;exact ZO (ZO (ZP (hk h7 (le15.trans (le6.trans le7)))))
 ·simp only[if_neg c]
  generalize (G2 s bs).2=x2 at c ⊢
  generalize (G2 s bs).1=x1
  refine xx ?_;exact ZO (ZO (ZP (hk h5 le15)))
end Go.X

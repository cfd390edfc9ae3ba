/- Lemmas and contracts. Conditions: as each says. -/
import Derived.Test.YtpdidilobgimcaaGreatQ34
import Derived.Test.YtpdidilobgimcaaGreatQ35
set_option linter.unusedVariables false
set_option linter.unusedSimpArgs false
set_option maxHeartbeats 12800000
set_option maxRecDepth 20000
namespace Go.X
open Go.RowKit Go.Proofs Go.Bl
variable {L:Own} {h:PH} {K:PK}
theorem Zci (g:List Int)(i:Nat):UY [g] i=g:=by
 rw[UY,show min i ([g].length-1)=0 by simp];rfl
theorem Zuw (g:List Int)(s:Ze)(a:Nat):∀b,itS [g] (itS [g] s a) b=itS [g] s (a+b)
 | 0=>rfl
 | b+1=>by
  rw[itS,Zuw g s a b,show a+(b+1)=(a+b)+1 by omega,itS,Zci,Zci]
def Wx:List Zi→Nat→Nat→Nat
 | [],_,f=>f
 | r::l,i,f=>Wx l (i+1) (if r.quo=true∧f=0 then i+1 else f)
theorem Zbo:∀ (l:List Zi)(i f:Nat),f≠0→Wx l i f=f
 | [],_,_,_=>rfl
 | r::l,i,f,hf=>by rw[Wx,if_neg (fun c=>hf c.2)];exact Zbo l (i+1) f hf
theorem Zfs (pl:List (List Int))(s:Ze):∀(m i:Nat),(itS pl s 0).ep+i+m≤1073741824 →
  whN pl s m i=(((Wx ((List.range' i m).map (itR pl s)) i 0:Nat):Int),decide (Wx ((List.range' i m).map (itR pl s)) i 0≠0),(0:Int))
 | 0,i,_=>rfl
 | m+1,i,h=>by
  have he:=GN pl s i;have h0:=GN pl s 0;rw[whN,if_pos (by omega),List.range'_succ,List.map_cons,Wx]
  cases hq:(itR pl s i).quo with
  | true =>
   rw[if_pos rfl,if_pos ⟨rfl,rfl⟩,Zbo _ _ _ (by omega)];simp
  | false =>
   rw[if_neg (by decide),if_neg (by simp)];exact Zfs pl s m (i+1) (by omega)
theorem GQ (r:Zi):∀(l:List Zi) (i f:Nat),Wx (l++[r]) i f=if r.quo=true∧Wx l i f=0 then i+l.length+1 else Wx l i f
 | [],i,f=>rfl
 | x::l,i,f=>by
  rw[List.cons_append,Wx,GQ r l,Wx,List.length_cons,show i+(l.length+1)+1=i+1+l.length+1 by omega]
theorem Gr {h:PH}{v:Value}{l:List Zi}{q:List RQ}(x:ZL h v l q):q.length=l.length:=by
 have:=congrArg List.length x.e
 simpa using this
theorem Yfz {h:PH}{v:Value}{l:List Zi}{q:List RQ}(x:ZL h v l q){j:Nat}(hj:j<q.length):l[j]?=some (gr Zgx q j).2:=by
 rw[← x.e,List.getElem?_map,List.getElem?_eq_getElem hj,Z5 hj];rfl
theorem Zdt {s:Ze}{n:Nat}(hf:YZ s=true)(hn:n≤1000)(he:s.ep+n≤1073741824):Zfw s (n:Int)=0:=by
 rw[Zfw,if_pos hf,if_neg (by omega),if_pos (.inr (by omega))]
theorem Zig (pl:List (List Int)){s:Ze}{n:Nat}(hf:YZ s=true)(hn:n≤1000)(he:s.ep+n≤1073741824):Znz pl s (n:Int)=itS pl s n∧Yeq pl s (n:Int)=(List.range n).map (itR pl s):=by
 have e:=Zdt hf hn he;rw[Znz,Yeq,if_pos e,if_pos e,Int.toNat_natCast];exact⟨rfl,rfl⟩
theorem JZ (w tv pv:Value)(hS:∃q:SV×Ze,w=stV q.2 q.1∧Zo h q.1 q.2){g:List Int}(hT:Ints h .u8 tv g)
  (hP:∃q:Int×Int,pv = .agg #[.int .i64 q.1,.int .i64 q.2]∧(-9223372036854775808≤q.1∧q.1≤9223372036854775807)∧(-9223372036854775808≤q.2∧q.2≤9223372036854775807))
  (hk:∀h',PH.le h h'→K (.bool true) L h'):Zb Tryz.prog 3 [w,tv,pv] L h K:=by
 obtain⟨⟨v,s⟩,rfl,hs⟩:=hS;obtain⟨⟨a,b⟩,rfl,⟨ra1,ra2⟩,rb1,rb2⟩:=hP;simp only at hs ra1 ra2 rb1 rb2 ⊢;have hT0:=hT;obtain⟨ya,yc,rfl,_⟩:=hT.open;obtain⟨pa,pc,ma,mc,ea,ec,xa,xc,oa,oc,da,dc,ta,tc,ka,kc,ra,rc,rfl⟩:=hs.slices;refine ZT Tryz.func3 rfl (rs:=[_]) rfl rfl ZW (by kernel_rfl) rfl rfl ?_;refine xx ?_;refine Z1 fun b3 nb3 zb3=>?_;(try simp only[ZU]at nb3);clear nb3;refine xx ?_;refine Z1 fun b5 nb5 zb5=>?_;(try simp only[ZU]at nb5);have n53:NeB b5 b3:=Ne.symm nb5.1;clear nb5;refine xx ?_;refine Zb.ap (Zkl fun h1 le1 ap=>?_);have a15:h1 b5=noC:=ap.1;have a13:h1 b3=noC:=ap.2.1;clear ap;refine xx ?_;refine Zvj (s:=s) ⟨.slice pa s.purses.length pc,.slice ma s.members.length mc,.slice ea s.entry.length ec,.slice xa s.exit.length xc,.slice oa s.pool.length oc,.slice da s.dues.length dc,.slice ta s.motions.length tc,.slice ka s.marks.length kc,.slice ra s.ring.length rc⟩ (hs.up le1) ?_
 cases hf:Zbf s with
 | false =>
  refine xx ?_;exact ZO (ZO (ZP (hk h1 le1)))
 | true =>
 refine xx ?_;refine JE (s:=s) ⟨.slice pa s.purses.length pc,.slice ma s.members.length mc,.slice ea s.entry.length ec,.slice xa s.exit.length xc,.slice oa s.pool.length oc,.slice da s.dues.length dc,.slice ta s.motions.length tc,.slice ka s.marks.length kc,.slice ra s.ring.length rc⟩ (hs.up le1) (Yab (Zwc hf)) ?_
 cases hft:YZ s with
 | false =>
  refine xx ?_;exact ZO (ZO (ZP (hk h1 le1)))
 | true =>
 by_cases c1:(100:Int)<g.length
 ·refine xx ?_;exact ZO (ZO (ZP (hk h1 le1)))
 by_cases c2:a<0
 ·refine xx ?_;exact ZO (ZO (ZP (hk h1 le1)))
 by_cases c3:20<a
 ·refine xx ?_;exact ZO (ZO (ZP (hk h1 le1)))
 by_cases c4:b<0
 ·refine xx ?_;exact ZO (ZO (ZP (hk h1 le1)))
 by_cases c5:20<b
 ·refine xx ?_;exact ZO (ZO (ZP (hk h1 le1)))
 by_cases c6:536870912<s.ep
 ·refine xx ?_;exact ZO (ZO (ZP (hk h1 le1)))
 obtain⟨A,rfl⟩:∃A:Nat,a=A:=⟨a.toNat,by omega⟩
 obtain⟨B,rfl⟩:∃B:Nat,b=B:=⟨b.toNat,by omega⟩
 have few:=Zwc hf;have f9:=Zmo (Ybl hf);have hds:s.dues.length≤200:=by omega
 refine xx ?_;refine Z1 fun b64 nb64 zb64=>?_;(try simp only[ZU]at nb64);have w5:b5≠b64:=nb64.1;have w3:b3≠b64:=nb64.2.1;clear nb64;refine xx ?_;refine YL (e:=31) (b:=b64) (sz:=1) (n:=1) (cap:=1) (xs:=[.slice ya g.length yc]) [] ⟨by decide,by decide⟩ rfl (by decide) zb64 fun h2 le2 sl same=>?_;have a25:h2 b5=noC:=by rw[same b5 w5];exact a15
 have a23:h2 b3=noC:=by rw[same b3 w3];exact a13
 clear same a15 a13 w5 w3 zb64
 have hp:Zw h2 (.slice (some ⟨b64,0,none⟩) 1 1) [(.slice ya g.length yc,g)]:=⟨sl,fun q hq=>by
  rw[List.mem_singleton]at hq;subst hq
  exact hT0.up (le1.trans le2)⟩
 obtain⟨pl,hpl⟩:∃pl:List QS,pl=[(.slice ya g.length yc,g)]:=⟨_,rfl⟩
 have hpn:pl.length=1:=by rw[hpl];rfl
 have hx:xsL pl=[g]:=by rw[hpl];rfl
 rw[← hpl]at hp;rw[show (Value.slice (some ⟨b64,0,none⟩) 1 1)=Value.slice (some ⟨b64,0,none⟩) pl.length 1 by rw[hpn]]at hp ⊢;clear hpl;have le12:=le1.trans le2;have r1:=Zig [g] (s:=s) (n:=A) hft (by omega) (by omega);refine Zb.ap (Zdb (s:=s) (pl:=pl) ⟨.slice pa s.purses.length pc,.slice ma s.members.length mc,.slice ea s.entry.length ec,.slice xa s.exit.length xc,.slice oa s.pool.length oc,.slice da s.dues.length dc,.slice ta s.motions.length tc,.slice ka s.marks.length kc,.slice ra s.ring.length rc⟩ A (hs.up le12) few (.inl (by omega)) hp (.inl (by omega)) fun h3 u3 rv3 q3 le3 i3 p3 f3 ap=>?_);have a35:h3 b5=noC:=ap.1;have a33:h3 b3=noC:=ap.2.1;clear ap;have e1:=Zdt (s:=s) (n:=A) hft (by omega) (by omega);have f3:=f3 e1;rw[hx,r1.1]at i3 f3;rw[hx,r1.2]at p3;rw[hx,r1.1,e1];obtain⟨S1,hS1⟩:∃S1,S1=itS [g] s A:=⟨_,rfl⟩
 rw[← hS1]at i3 f3 ⊢;have i30:=i3;obtain⟨pa3,pc3,ma3,mc3,ea3,ec3,xa3,xc3,oa3,oc3,da3,dc3,ta3,tc3,ka3,kc3,ra3,rc3,rfl⟩:=i3.slices;have l3:=Gr p3;rw[List.length_map,List.length_range]at l3;obtain⟨va3,vc3,rfl,_⟩:=p3.r.open;refine xx ?_;refine Z1 fun b8 nb8 zb8=>?_;(try simp only[ZU]at nb8);have m85:NeB b8 b5:=Ne.symm nb8.1;have m83:NeB b8 b3:=Ne.symm nb8.2.1;clear nb8;refine xx ?_;have few1:Zt S1:=Gq f3.1 (by have:=f3.2;rw[Int.toNat_natCast]at this;omega);have ep1:S1.ep=s.ep+A:=by rw[hS1];exact GN [g] s A
 have du1:S1.dues.length≤s.dues.length+384*A:=by have:=f3.2;rw[Int.toNat_natCast]at this;exact this
 have r2:=Zig [g] (s:=S1) (n:=B) f3.1 (by omega) (by omega);have e2:=Zdt (s:=S1) (n:=B) f3.1 (by omega) (by omega);refine Zb.ap (Zdb (s:=S1) (pl:=pl) ⟨.slice pa3 S1.purses.length pc3,.slice ma3 S1.members.length mc3,.slice ea3 S1.entry.length ec3,.slice xa3 S1.exit.length xc3,.slice oa3 S1.pool.length oc3,.slice da3 S1.dues.length dc3,.slice ta3 S1.motions.length tc3,.slice ka3 S1.marks.length kc3,.slice ra3 S1.ring.length rc3⟩ B i30 few1 (.inl (by omega)) (hp.up le3) (.inl (by omega)) fun h4 u4 rv4 q4 le4 i4 p4 f4 ap=>?_);have a48:h4 b8=noC:=ap.1;have a45:h4 b5=noC:=ap.2.1;have a43:h4 b3=noC:=ap.2.2.1;clear ap f4;rw[hx,r2.1]at i4;rw[hx,r2.2]at p4;rw[hx,r2.1,e2];have eS2:itS [g] S1 B=itS [g] s (A+B):=by rw[hS1];exact Zuw g s A B
 rw[eS2]at i4 ⊢;obtain⟨S2,hS2⟩:∃S2,S2=itS [g] s (A+B):=⟨_,rfl⟩
 rw[← hS2]at i4 ⊢;have i40:=i4;obtain⟨pa4,pc4,ma4,mc4,ea4,ec4,xa4,xc4,oa4,oc4,da4,dc4,ta4,tc4,ka4,kc4,ra4,rc4,rfl⟩:=i4.slices;have l4:=Gr p4;rw[List.length_map,List.length_range]at l4;obtain⟨va4,vc4,rfl,_⟩:=p4.r.open;refine xx ?_;refine Z1 fun b11 nb11 zb11=>?_;(try simp only[ZU]at nb11);have m118:NeB b11 b8:=Ne.symm nb11.1;have m115:NeB b11 b5:=Ne.symm nb11.2.1;have m113:NeB b11 b3:=Ne.symm nb11.2.2.1;clear nb11;refine xx ?_;have r5:=Zig [g] (s:=s) (n:=A+B) hft (by omega) (by omega);have e5:=Zdt (s:=s) (n:=A+B) hft (by omega) (by omega);rw[show ((A:Int)+(B:Int))=((A+B:Nat):Int) by omega];refine Zb.ap (Zdb (s:=s) (pl:=pl) ⟨.slice pa s.purses.length pc,.slice ma s.members.length mc,.slice ea s.entry.length ec,.slice xa s.exit.length xc,.slice oa s.pool.length oc,.slice da s.dues.length dc,.slice ta s.motions.length tc,.slice ka s.marks.length kc,.slice ra s.ring.length rc⟩ ((A+B:Nat):Int) (hs.up (le12.trans (le3.trans le4))) few (.inl (by omega)) (hp.up (le3.trans le4)) (.inl (by omega)) fun h5 u5 rv5 q5 le5 i5 p5 f5 ap=>?_);have a511:h5 b11=noC:=ap.1;have a58:h5 b8=noC:=ap.2.1;have a55:h5 b5=noC:=ap.2.2.1;have a53:h5 b3=noC:=ap.2.2.2.1;clear ap;have f5:=f5 e5;rw[hx,r5.1,← hS2]at i5 f5;rw[hx,r5.2]at p5;rw[hx,r5.1,e5,← hS2];have i50:=i5;obtain⟨pa5,pc5,ma5,mc5,ea5,ec5,xa5,xc5,oa5,oc5,da5,dc5,ta5,tc5,ka5,kc5,ra5,rc5,rfl⟩:=i5.slices;have l5:=Gr p5;rw[List.length_map,List.length_range]at l5;obtain⟨va5,vc5,rfl,_⟩:=p5.r.open;have few2:Zt S2:=Gq f5.1 (by have:=f5.2;rw[Int.toNat_natCast]at this;omega);have du2:S2.dues.length≤20000:=by have:=f5.2;rw[Int.toNat_natCast]at this;omega
 refine xx ?_;refine Z1 fun b14 nb14 zb14=>?_;(try simp only[ZU]at nb14);have m1411:NeB b14 b11:=Ne.symm nb14.1;have m148:NeB b14 b8:=Ne.symm nb14.2.1;have m145:NeB b14 b5:=Ne.symm nb14.2.2.1;have m143:NeB b14 b3:=Ne.symm nb14.2.2.2.1;clear nb14;refine xx ?_;refine Yn (.tk 0 (.tk 1 (.tk 2 (.tk 3 (.tk 4 (.tk 5 (.tk 6 (.tk 7 (.tk 8 (.tk 9 (.tk 10 (.tk 11 (.tk 12 (.tk 13 (.tk 14 (.tk 15 (.tk 16 (.tk 17 (.tk 18 (.tk 19 (.tk 20 (.tk 21 (.tk 22 (.tk 23 (.tk 25 (.tkl 24 (.tkl 26 (.tk 27 (.tk 28 (.tk 29 (.tk 30 (.tkl 31 (.tkl 33 (.o1 32 (.o1 34 (.o1 35 (.tk 36 (.tk 37 (.fin))) (.nil)) (.nil)) (.nil))))))))))))))))))))))))))))))))))) (by kernel_rfl) (by kernel_rfl) _ (Za.refl _ _) ?_;simp -dsimp -implicitDefEqProofs (disch:=first|with_reducible assumption|omega) [go_sem,l3,l4,l5];refine Zb.ap (GR (s:=S2) (v:=⟨.slice pa4 S2.purses.length pc4,.slice ma4 S2.members.length mc4,.slice ea4 S2.entry.length ec4,.slice xa4 S2.exit.length xc4,.slice oa4 S2.pool.length oc4,.slice da4 S2.dues.length dc4,.slice ta4 S2.motions.length tc4,.slice ka4 S2.marks.length kc4,.slice ra4 S2.ring.length rc4⟩) (i40.up le5) (by have:=few2.m;omega) (by have:=few2.o;omega) (by omega) (by have:=few2.t;omega) fun h6 u6 le6 i6 ap=>?_);clear ap;refine xkp (Za.forget le6) ?_;simp -dsimp -implicitDefEqProofs (disch:=first|with_reducible assumption|omega) [go_sem,l3,l4,l5];refine Zb.ap (GR (s:=S2) (v:=⟨.slice pa5 S2.purses.length pc5,.slice ma5 S2.members.length mc5,.slice ea5 S2.entry.length ec5,.slice xa5 S2.exit.length xc5,.slice oa5 S2.pool.length oc5,.slice da5 S2.dues.length dc5,.slice ta5 S2.motions.length tc5,.slice ka5 S2.marks.length kc5,.slice ra5 S2.ring.length rc5⟩) (i50.up le6) (by have:=few2.m;omega) (by have:=few2.o;omega) (by omega) (by have:=few2.t;omega) fun h7 u7 le7 i7 ap=>?_);have a75:h7 b5=noC:=ap.2.2.2.1;have a73:h7 b3=noC:=ap.2.2.2.2.1;clear ap;refine xkp (Za.forget (le6.trans le7)) ?_
 obtain⟨pa6,pc6,ma6,mc6,ea6,ec6,xa6,xc6,oa6,oc6,da6,dc6,ta6,tc6,ka6,kc6,ra6,rc6,rfl⟩:=i6.slices;obtain⟨pa7,pc7,ma7,mc7,ea7,ec7,xa7,xc7,oa7,oc7,da7,dc7,ta7,tc7,ka7,kc7,ra7,rc7,rfl⟩:=i7.slices;simp -dsimp -implicitDefEqProofs (disch:=first|with_reducible assumption|omega) [go_sem,l3,l4,l5];refine Zjp (s:=S2) (v:=⟨.slice pa6 S2.purses.length pc6,.slice ma6 S2.members.length mc6,.slice ea6 S2.entry.length ec6,.slice xa6 S2.exit.length xc6,.slice oa6 S2.pool.length oc6,.slice da6 S2.dues.length dc6,.slice ta6 S2.motions.length tc6,.slice ka6 S2.marks.length kc6,.slice ra6 S2.ring.length rc6⟩) (u:=⟨.slice pa7 S2.purses.length pc7,.slice ma7 S2.members.length mc7,.slice ea7 S2.entry.length ec7,.slice xa7 S2.exit.length xc7,.slice oa7 S2.pool.length oc7,.slice da7 S2.dues.length dc7,.slice ta7 S2.motions.length tc7,.slice ka7 S2.marks.length kc7,.slice ra7 S2.ring.length rc7⟩) (i6.up le7) i7 ?_;refine xkp (Za.forget (le6.trans le7)) ?_;simp -dsimp -implicitDefEqProofs (disch:=first|with_reducible assumption|omega) [go_sem,l3,l4,l5];rw[show ((A:Int)+(B:Int))=((A+B:Nat):Int) by omega];have le57:=le6.trans le7;have le17:=le12.trans (le3.trans (le4.trans (le5.trans le57)));refine Zb.ap (Zey (s:=s) (pl:=pl) ⟨.slice pa s.purses.length pc,.slice ma s.members.length mc,.slice ea s.entry.length ec,.slice xa s.exit.length xc,.slice oa s.pool.length oc,.slice da s.dues.length dc,.slice ta s.motions.length tc,.slice ka s.marks.length kc,.slice ra s.ring.length rc⟩ ((A+B:Nat):Int) (hs.up le17) few (.inl (by omega)) (hp.up (le3.trans (le4.trans (le5.trans le57)))) (.inl (by omega)) fun h8 le8 ap=>?_);clear ap;obtain⟨RL,hRL⟩:∃RL,RL=(List.range (A+B)).map (itR [g] s):=⟨_,rfl⟩
 rw[← hRL]at p5;have eW:GJ (xsL pl) s ((A+B:Nat):Int)=(((Wx RL 0 0:Nat):Int),decide (Wx RL 0 0≠0),(0:Int)):=by
  rw[hx,GJ,if_pos hft,if_neg (by omega),Int.toNat_natCast,Zfs [g] s (A+B) 0 (by show s.ep+_+_≤_;omega),hRL,List.range_eq_range']
 rw[eW];have lR:RL.length=q5.length:=(Gr p5).symm;obtain⟨FQ,hFQ⟩:∃FQ,FQ=Wx RL 0 0:=⟨_,rfl⟩
 rw[← hFQ];have eB:decide (FQ≠0)=decide ((0:Int)<(FQ:Int)):=by
  by_cases c:FQ=0
  ·rw[decide_eq_false (by simpa using c),decide_eq_false (by omega)]
  ·rw[decide_eq_true c,decide_eq_true (by omega)]
 rw[eB];have p8:=p5.up (le57.trans le8);have hR5:=p8.r;clear p5 eB eW;have lq:q5.length≤40:=by omega
 refine xx ?_;refine YP (γ:=Nat) 0 (fun j=>j≤q5.length)
  (fun j=>[(147,.int .i64 j),(146,.int .i64 q5.length),(145,.slice va5 q5.length vc5),(20,.int .i64 (Wx (RL.take j) 0 0:Nat)),(17,.int .i64 FQ),(18,.bool (decide ((0:Int)<(FQ:Int)))),(19,.int .i64 0)])
  (fun _=>L) (fun _=>h8) (fun j=>q5.length-j) ?_ ?_ ?_ ?_
 ·exact Nat.zero_le _
 ·simp [Ent,List.lookup,Wx]
 ·exact(Za.tail _ _ _).trans ((Za.tail _ _ _).trans ((Za.tail _ _ _).trans ((Za.tail _ _ _).trans (Za.tail _ _ _))))
 intro j hj;by_cases c7:j<q5.length
 rotate_left
 ·obtain rfl:j=q5.length:=by omega
  have e9:Wx (RL.take q5.length) 0 0=FQ:=by rw[List.take_of_length_le (by omega),hFQ]
  rw[e9];refine xx ?_;exact ZP (hk h8 (le17.trans le8))
 have hat:=Yfz p8 c7;have hXi:=p8.i (gr Zgx q5 j) (by rw[Z5 c7];exact List.getElem_mem _);obtain⟨X,hX⟩:∃X,X=gr Zgx q5 j:=⟨_,rfl⟩
 rw[← hX]at hat hXi;obtain⟨qx,rx⟩:=X;simp only at hat hXi;obtain⟨qoa,qoc,qla,qlc,qsa,qsc,qda,qdc,rfl⟩:=hXi.slices;have eF:Wx (RL.take (j+1)) 0 0=if rx.quo=true∧Wx (RL.take j) 0 0=0 then j+1 else Wx (RL.take j) 0 0:=by
  have hjl:j<RL.length:=by omega
  have e3:RL[j]=rx:=by rw[List.getElem?_eq_getElem hjl]at hat;injection hat
  rw[List.take_succ_eq_append_getElem hjl,e3,GQ,List.length_take,show 0+min j RL.length+1=j+1 by omega]
 obtain⟨f,hf9⟩:∃f,f=Wx (RL.take j) 0 0:=⟨_,rfl⟩
 rw[← hf9]at eF ⊢;simp -dsimp -implicitDefEqProofs (disch:=first|with_reducible assumption|omega) [go_sem,↓Ut Zgx (by decide) hR5,rpQ,← hX];refine Z1 fun b22 nb22 zb22=>?_;(try simp only[ZU]at nb22);clear nb22;simp -dsimp -implicitDefEqProofs (disch:=first|with_reducible assumption|omega) [go_sem,↓Ut Zgx (by decide) hR5,rpQ,← hX]
 cases cq:rx.quo with
 | false =>
  rw[if_neg (by rw[cq];simp)]at eF;refine xx ?_;refine⟨j+1,by omega,by omega,?_,Za.tail _ _ _⟩;rw[eF];simp [Ent,List.lookup]
 | true =>
  by_cases c8:f=0
  ·rw[if_pos ⟨cq,c8⟩]at eF;refine xx ?_;refine⟨j+1,by omega,by omega,?_,Za.tail _ _ _⟩;rw[eF];simp [Ent,List.lookup]
  ·rw[if_neg (fun c=>c8 c.2)]at eF;refine xx ?_;refine⟨j+1,by omega,by omega,?_,Za.tail _ _ _⟩;rw[eF];simp [Ent,List.lookup]
end Go.X

/- Lemmas and contracts. Conditions: as each says. -/
import Derived.Test.YtmmfajokfdaokaaGreatQ22
import Derived.Test.YtmmfajokfdaokaaGreatQ23
set_option linter.unusedVariables false
set_option linter.unusedSimpArgs false
set_option maxHeartbeats 12800000
set_option maxRecDepth 20000
namespace Go.X
open Go.RowKit Go.Proofs Go.Bl Go.Proofs.Tryz
variable {L:Own} {h:PH} {K:PK}
def Yix (s:Zf):List Zd→Nat→Zf×Int×Int
 | [],_=>(s,0,0)
 | d::l,i=>if (doP s d).2=0 then Yix (doP s d).1 l (i+1) else (Ui,(i:Int),(doP s d).2)
def Vm (s:Zf)(xs:List Int):Zf×Int×Int :=
 if YQ s then (if (Zlw xs).2.2=0 then Yix s (Zlw xs).1 0 else (Ui,(Zlw xs).2.1,(Zlw xs).2.2)) else (Ui,0,291)
theorem GA {e1 s1 e2 s2:Nat}{o1 o2:Option (Nat×Nat)}{x1 x2:List Value}{a b:Zo}{L:Own}{h:PH}(ap:Ap (oent e1 s1 o1 x1 (oent e2 s2 o2 x2 (a::b::L))) h)(nd:Nd (oent e1 s1 o1 x1 (oent e2 s2 o2 x2 (a::b::L)))) :
  (h a.b=noC∧h b.b=noC)∧(apB o1 a.b∧apB o1 b.b)∧apB o2 a.b∧apB o2 b.b:=by
 cases o1 with
 | none =>
  cases o2 with
  | none=>exact⟨⟨ap.1,ap.2.1⟩,⟨trivial,trivial⟩,trivial,trivial⟩
  | some q=>exact⟨⟨ap.2.1,ap.2.2.1⟩,⟨trivial,trivial⟩,Ne.symm nd.1.1,Ne.symm nd.1.2.1⟩
 | some p =>
  cases o2 with
  | none=>exact⟨⟨ap.2.1,ap.2.2.1⟩,⟨Ne.symm nd.1.1,Ne.symm nd.1.2.1⟩,trivial,trivial⟩
  | some q=>exact⟨⟨ap.2.2.1,ap.2.2.2.1⟩,⟨Ne.symm nd.1.2.1,Ne.symm nd.1.2.2.1⟩,Ne.symm nd.2.1.1,Ne.symm nd.2.1.2.1⟩
abbrev zB (b:Nat):Zo:=⟨b,39,stC Ui Zge,41⟩
abbrev sB (b:Nat)(s:Zf)(v:SV):Zo:=⟨b,39,stC s v,41⟩
theorem Wdd {L0 L:Own}{h:PH}(hs:L0.Sublist L):Ap L h→Ap L0 h:=by
 induction hs with
 | slnil=>exact id
 | cons a _ ih=>exact fun q=>ih q.2
 | cons_cons a _ ih=>exact fun q=>⟨q.1,ih q.2⟩
theorem Wau {L0 L:Own}(hs:L0.Sublist L):Nd L→Nd L0:=by
 induction hs with
 | slnil=>exact id
 | cons a _ ih=>exact fun q=>ih q.2
 | cons_cons a hs ih=>exact fun q=>⟨Ycd hs q.1,ih q.2⟩
theorem Zqw (x y:Zo)(e1 s1 e2 s2:Nat)(o1 o2:Option (Nat×Nat))(x1 x2:List Value)(L:Own):(x::oent e1 s1 o1 x1 (oent e2 s2 o2 x2 L)).Sublist (x::oent e1 s1 o1 x1 (oent e2 s2 o2 x2 (y::L))):=by
 refine List.Sublist.cons_cons _ ?_;have h2:(oent e2 s2 o2 x2 L).Sublist (oent e2 s2 o2 x2 (y::L)):=by
  cases o2 with
  | none=>exact List.Sublist.cons _ (List.Sublist.refl _)
  | some q=>exact List.Sublist.cons_cons _ (List.Sublist.cons _ (List.Sublist.refl _))
 cases o1 with
 | none=>exact h2
 | some p=>exact List.Sublist.cons_cons _ h2
structure Wkh where
 k:Nat
 t:Zf
 h:PH
 v:SV
 ox:Option (Nat×Nat)
theorem U9 {s:Zf}{v:SV}{xs:List Int}{bv:Value}(hs:Zs h v s)(few:Zu s)(hb:Ints h .u8 bv xs)
  (hk:∀h' v',PH.le h h'→Zs h' v' (Vm s xs).1→((Vm s xs).2.2=0→YQ (Vm s xs).1=true)→K (.tuple #[stV (Vm s xs).1 v',.int .i64 (Vm s xs).2.1,.int .i64 (Vm s xs).2.2]) L h') :
  Zb prog 32 [stV s v,bv] L h K:=by
 have hb0:=hb;obtain⟨pa,pc,ma,mc,ea,ec,xa,xc,oa,oc,da,dc,ta,tc,ka,kc,ra,rc,rfl⟩:=hs.slices;obtain⟨x1,y1,rfl,_⟩:=hb.open;refine Z4 func32 rfl (rs:=[_,_,_]) rfl rfl ZY (by kernel_rfl) rfl rfl fun ap nd=>?_;refine xx ?_;refine Z6 fun b2 nb2 zb2=>?_;(try simp only[ZU]at nb2);refine xx ?_;refine Z6 fun b4 nb4 zb4=>?_;(try simp only[ZU]at nb4);refine xx ?_;refine U8 (s:=s) ⟨.slice pa s.purses.length pc,.slice ma s.members.length mc,.slice ea s.entry.length ec,.slice xa s.exit.length xc,.slice oa s.pool.length oc,.slice da s.dues.length dc,.slice ta s.motions.length tc,.slice ka s.marks.length kc,.slice ra s.ring.length rc⟩ hs (Zse few) ?_;unfold Vm at hk
 cases c1:YQ s with
 | false =>
  rw[c1,if_neg (by decide)]at hk;refine xx ?_;exact ZP (ZP (ZO (hk h Zge (PH.le_refl _) (V5 h) (fun q=>absurd q (by decide)))))
 | true =>
 rw[c1,if_pos rfl]at hk;refine xx ?_;refine Zb.ap (Yjm _ hb0 fun h2 r l le2 hd2 hl2 ap=>?_);simp only[Ap]at ap;obtain⟨a24,a22,_⟩:=ap;have hsound:=Ztf (Jd hb0);obtain⟨ds,at',e,hB⟩:∃ds at' e,Zlw xs=(ds,at',e):=⟨_,_,_,rfl⟩
 rw[hB]at hk hl2 hsound ⊢;simp only at hk hl2 hsound;by_cases c2:e=0
 case neg =>
  rw[if_neg c2]at hk;refine xx ?_;exact ZP (ZP (ZO (hk h2 Zge le2 (V5 h2) (fun q=>absurd q c2))))
 subst c2;rw[if_pos rfl]at hk;obtain⟨allr,hlen,_⟩:=hsound rfl;obtain⟨la,lc,er,_⟩:=hd2.open;subst er;refine xx ?_;refine Zb.apn (Zkm (s:=s) ⟨.slice pa s.purses.length pc,.slice ma s.members.length mc,.slice ea s.entry.length ec,.slice xa s.exit.length xc,.slice oa s.pool.length oc,.slice da s.dues.length dc,.slice ta s.motions.length tc,.slice ka s.marks.length kc,.slice ra s.ring.length rc⟩ (hs.up le2) few fun h5 u om ox le5 ok1 ok2 hn ap5 nd5=>?_);obtain⟨⟨a54,a52⟩,⟨p14,p12⟩,p24,p22⟩:=GA ap5 nd5;simp only at a54 a52 p14 p12 p24 p22;have hh5:=Hd.of (hs.up le2) hn ok1 ok2;refine xx ?_;refine Z6 fun bh n_bh h_bh=>?_;(try simp only[ZU]at n_bh);have nh4:b4≠bh:=Ww n_bh _ (Y4 (Y4 List.mem_cons_self));have nh2:b2≠bh:=Ww n_bh _ (Y4 (Y4 (List.mem_cons_of_mem _ List.mem_cons_self)));refine xx ?_;have hap:Ap (Zbs bh ox om s (Zlo u (ovs om s.members.length) (ovs ox s.exit.length)) (zB b4::sB b2 s ⟨.slice pa s.purses.length pc,.slice ma s.members.length mc,.slice ea s.entry.length ec,.slice xa s.exit.length xc,.slice oa s.pool.length oc,.slice da s.dues.length dc,.slice ta s.motions.length tc,.slice ka s.marks.length kc,.slice ra s.ring.length rc⟩::L)) h5:=⟨h_bh,ap5⟩
 have hnd:Nd (Zbs bh ox om s (Zlo u (ovs om s.members.length) (ovs ox s.exit.length)) (zB b4::sB b2 s ⟨.slice pa s.purses.length pc,.slice ma s.members.length mc,.slice ea s.entry.length ec,.slice xa s.exit.length xc,.slice oa s.pool.length oc,.slice da s.dues.length dc,.slice ta s.motions.length tc,.slice ka s.marks.length kc,.slice ra s.ring.length rc⟩::L)):=⟨n_bh,nd5⟩
 have hdl:(dl l).length=l.length:=Zfy l;have le25:=le2.trans le5;rw[hl2]at hdl;refine YZ (γ:=Wkh) ⟨0,s,h5,Zlo u (ovs om s.members.length) (ovs ox s.exit.length),ox⟩
  (fun x=>x.k≤l.length∧PH.le h5 x.h∧Hd x.h x.v x.t∧x.v.m=ovs om x.t.members.length∧okO om x.t.members.length∧x.v.x=ovs x.ox x.t.exit.length∧okO x.ox x.t.exit.length∧YQ x.t=true∧x.t.dues.length≤34000∧(∀z∈x.t.exit,-9223372036854775808≤z∧z≤9223372036854775807)∧Yix s ds 0=Yix x.t (ds.drop x.k) x.k ∧
   Ap (Zbs bh x.ox om x.t x.v (zB b4::sB b2 s ⟨.slice pa s.purses.length pc,.slice ma s.members.length mc,.slice ea s.entry.length ec,.slice xa s.exit.length xc,.slice oa s.pool.length oc,.slice da s.dues.length dc,.slice ta s.motions.length tc,.slice ka s.marks.length kc,.slice ra s.ring.length rc⟩::L)) x.h∧Nd (Zbs bh x.ox om x.t x.v (zB b4::sB b2 s ⟨.slice pa s.purses.length pc,.slice ma s.members.length mc,.slice ea s.entry.length ec,.slice xa s.exit.length xc,.slice oa s.pool.length oc,.slice da s.dues.length dc,.slice ta s.motions.length tc,.slice ka s.marks.length kc,.slice ra s.ring.length rc⟩::L)))
  (fun x=>[(33,.int .i64 x.k),(32,.int .i64 l.length),(31,.slice la l.length lc),(8,.pointer (some ⟨bh,0,none⟩)),(4,.pointer (some ⟨b4,0,none⟩))])
  (fun x=>Zbs bh x.ox om x.t x.v (zB b4::sB b2 s ⟨.slice pa s.purses.length pc,.slice ma s.members.length mc,.slice ea s.entry.length ec,.slice xa s.exit.length xc,.slice oa s.pool.length oc,.slice da s.dues.length dc,.slice ta s.motions.length tc,.slice ka s.marks.length kc,.slice ra s.ring.length rc⟩::L)) (fun x=>x.h) (fun x=>l.length-x.k) ?_ ?_ ?_ ?_
 ·exact⟨Nat.zero_le _,PH.le_refl _,hh5,rfl,ok1,rfl,ok2,c1,few.d,fun z hz=>by have:=hs.x.2 z hz;rwa [Zhw,Zib]at this,rfl,hap,hnd⟩
 ·simp [Ent,List.lookup,WM]
 ·exact Za.refl _ _
 clear hap hnd ap5 nd5 n_bh h_bh;rintro⟨k,t,hg,vg,oxg⟩ ⟨i1,i2,i3,i4,i5,i6,i7,i8,i9,i10,i11,iap,ind⟩;simp only at i1 i2 i3 i4 i5 i6 i7 i8 i9 i10 i11 iap ind ⊢;have f2:=GA iap.2 ind.2;have ghh:hg bh=noC:=iap.1;have g4h:hg b4=noC:=f2.1.1;have w14:apB oxg b4:=f2.2.1.1;have w24:apB om b4:=f2.2.2.1;have hdg:Zr hg (.slice la l.length lc) l:=hd2.up (le5.trans i2);by_cases ck:k<l.length
 ·simp -dsimp -implicitDefEqProofs (disch:=first|with_reducible assumption|omega) [go_sem,↓Yvn hdg];refine Z6 fun b10 nb10 zb10=>?_;(try simp only[ZU]at nb10);have m10:b4≠b10:=Ww nb10.2 _ (Y4 (Y4 List.mem_cons_self));simp -dsimp -implicitDefEqProofs (disch:=first|with_reducible assumption|omega) [go_sem,↓Yvn hdg];have hdk:Zl hg (gq l k).1 (gq l k).2:=hdg.at ck;have hck:k<ds.length:=by omega
  have hdd:(gq l k).2=ds[k]:=by
   subst hl2;rw[Zop ck];simp [dl]
  have hmem:(gq l k).2∈ds:=by rw[hdd];exact List.getElem_mem hck
  have hright:=(allr _ hmem).2;have hdrop:ds.drop k=(gq l k).2::ds.drop (k+1):=by rw[hdd];exact List.drop_eq_getElem_cons hck
  obtain⟨u1,u2,u3,u4⟩:=i3.use i8;have rf:=GE hright;obtain⟨xq,yq,eq,_⟩:=hdk.i.open;refine⟨by rw[eq];rfl,?_⟩;refine Zb.fin (Zb.apn (Zb.weaken (Za.perm hg (Vl _ _ _ _ _ _ _ _ _ _ _)) (Ydd (d:=(gq l k).2) (s:=t) (v:=vg) (om:=om) (ox:=oxg) i3 (Ymz i8 i9) hdk i4 i5 i6 i7 u1 u2 u3 rf.1 fun h6 v6 ox6 le6 g1 g2 g3 g4 g5 ap6 nd6=>⟨_,_,Za.perm h6 (Vl _ _ _ _ _ _ _ _ _ _ _).symm,?_⟩)));have ap7:=Wdd (Zqw _ _ _ _ _ _ _ _ _ _ _) ap6;have nd7:=Wau (Zqw _ _ _ _ _ _ _ _ _ _ _) nd6;clear ap6 nd6;rw[hdrop,Yix]at i11;by_cases e:(doP t (gq l k).2).2=0
  ·rw[if_pos e]at i11;rw[e];refine xx ?_;refine⟨⟨k+1,(doP t (gq l k).2).1,h6,v6,ox6⟩,⟨by simp only;omega,i2.trans le6,g1,g2,by simp only[g5];exact i5,g3,g4,Yfl i8 hright hdk.ok.a.1 u4 (fun i=>i3.k.byte i) (fun i=>hdk.i.byte i) e,by simp only[Yge];exact i9,fun z hz=>?_,i11,ap7,nd7⟩,by simp only;omega,by simp [Ent,List.lookup],Za.tail _ _ _⟩;rcases Zrd z hz with q|q
   ·exact i10 z q
   ·rw[q];exact hdk.ok.n _ (by simp)
  ·rw[if_neg e]at i11;rw[i11]at hk;have f7:=GA ap7.2 nd7.2;have a64:h6 b4=noC:=f7.1.1;have v14:apB ox6 b4:=f7.2.1.1;have v24:apB om b4:=f7.2.2.1;have n4h:b4≠bh:=Ww nd7.1 _ (Y4 (Y4 List.mem_cons_self));simp -dsimp -implicitDefEqProofs (disch:=first|with_reducible assumption|omega) [go_sem,ZQ v14,ZQ v24,ZT v14,ZT v24];exact ZP (ZP (We (We (ZP (ZP (ZO (hk h6 Zge (le25.trans (i2.trans le6)) (V5 h6) (fun q=>absurd q e))))))))
 ·have hke:k=l.length:=by omega
  subst hke;rw[List.drop_of_length_le (by omega),Yix]at i11;rw[i11]at hk;have n4h:b4≠bh:=Ww ind.1 _ (Y4 (Y4 List.mem_cons_self));obtain⟨two1,two2⟩:=Ylg iap ind;simp -dsimp -implicitDefEqProofs (disch:=first|with_reducible assumption|omega) [go_sem,ZQ w14,ZQ w24,ZT w14,ZT w24];refine⟨i3.ones,?_⟩;refine ZP (Zsc (n1:=t.exit.length) (n2:=t.members.length) i7 (by simp) (Zhr i7) i5 (by rw[Z3 Yb]) (Zhr i5) two1 two2 fun h7 le7 sx sm=>ZP (ZP (ZO ?_)));refine hk h7 vg (le25.trans (i2.trans le7)) (Hd.st (i3.up le7) ?_ ?_) (fun _=>i8)
  ·rw[i4];exact Zh.pub Yb sm
  ·rw[i6];refine⟨by simpa using sx,fun z hz=>?_⟩;rw[Zhw,Zib];exact i10 z hz
theorem Zue {s:Zf}{v:SV}{xs:List Int}{bv:Value}(hs:Zs h v s)(few:Zu s)(hb:Ints h .u8 bv xs)
  (hk:∀h' v',PH.le h h'→Zs h' v' (Vm s xs).1→K (.tuple #[stV (Vm s xs).1 v',.int .i64 (Vm s xs).2.1,.int .i64 (Vm s xs).2.2]) L h') :
  Zb prog 32 [stV s v,bv] L h K:=U9 hs few hb fun h' v' le i _=>hk h' v' le i
def Zli:Ze where
 inc:=10
 maxEff:=30
 floor:=10
 cap:=40
 up:=10
 down:=5
 bias:=4
 quot:=100
 biasEm:=8
 quotEm:=50
 recover:=2
 scoreCap:=100
 rate:=1048576
 bond:=1
 delay:=2
 streak:=4
 boost:=100
 absent:=100
 burn:=5000
 churn:=2
 wait:=2
 poll:=2
 enact:=1
 quorum:=3000
def Zcv:ZA:=⟨Zli,1073741824,[500,200],[⟨0,25⟩,⟨1,40⟩]⟩
theorem Yfk:Zj Zli:=by
 constructor
 ·intro z hz;simp only[Yw,Zli,List.mem_cons,List.not_mem_nil,or_false]at hz;omega
 ·intro z hz;simp only[Yk,Zli,List.mem_cons,List.not_mem_nil,or_false]at hz;omega
theorem Zju (hk:K (VQ Zli) L h):Zb prog 113 [] L h K:=by
 refine ZR func113 rfl (rs:=[_]) rfl rfl ZY (by kernel_rfl) rfl rfl ?_;refine xx ?_;refine Z6 fun b0 nb0 zb0=>?_;(try simp only[ZU]at nb0);refine xx ?_;exact ZP (ZO hk)
theorem Zlh (hk:∀h' pa pc fa fc,PH.le h h'→ZD h' (.slice pa 2 pc) (.slice fa 2 fc) Zcv→K (Ytd Zcv (.slice pa 2 pc) (.slice fa 2 fc)) L h'):Zb prog 35 [] L h K:=by
 refine ZR func35 rfl (rs:=[_]) rfl rfl ZY (by kernel_rfl) rfl rfl ?_;refine xx ?_;refine Z6 fun b0 nb0 zb0=>?_;(try simp only[ZU]at nb0);refine xx ?_;refine Zju ?_;refine xx ?_;refine Z6 fun b1 nb1 zb1=>?_;(try simp only[ZU]at nb1);refine xx ?_;refine Z6 fun b2 nb2 zb2=>?_;(try simp only[ZU]at nb2);refine xx ?_;have s1:Sl (pub h b1 [.int .u64 500,.int .u64 200]) (.slice (some ⟨b1,0,none⟩) 2 2) 2 1 [.int .u64 500,.int .u64 200]:=Vt (o:=some (b1,2)) ⟨Nat.le_refl _,by simp [maxLen]⟩ rfl (by decide);have s2:Sl (pub (pub h b1 [.int .u64 500,.int .u64 200]) b2 [.int .i64 0,.int .u64 25,.int .i64 1,.int .u64 40]) (.slice (some ⟨b2,0,none⟩) 2 2) 2 2 [.int .i64 0,.int .u64 25,.int .i64 1,.int .u64 40]:=Vt (o:=some (b2,2)) ⟨Nat.le_refl _,by simp [maxLen]⟩ rfl (by decide);have n2:(pub h b1 [.int .u64 500,.int .u64 200]) b2=noC:=GJ (o:=some (b1,2)) (by first|exact nb2.1|exact Ne.symm nb2.1) zb2;have l1:=Zkv (h:=h) zb1 [.int .u64 500,.int .u64 200];have l2:=Zkv n2 [.int .i64 0,.int .u64 25,.int .i64 1,.int .u64 40];refine⟨L,_,?_,hk _ _ _ _ _ (l1.trans l2) ⟨Yfk,by decide,⟨s1.up l2,fun z hz=>?_⟩,⟨Zrs,s2⟩,fun x hx=>?_⟩⟩
 ·first
  | exact(Za.perm _ (List.Perm.swap _ _ _)).trans ((Vy b1 _ _ _ [] _ h (by decide)).trans ((Vy b2 _ _ _ [] _ _ (by decide)).trans (Za.tail _ _ _)))
  | exact(Vy b1 _ _ _ [_] _ h (by decide)).trans ((Vy b2 _ _ _ [] _ _ (by decide)).trans (Za.tail _ _ _))
 ·simp only[Zcv,List.mem_cons,List.not_mem_nil,or_false]at hz;rw[show IntKind.u64.min=0 by decide,show IntKind.u64.max=18446744073709551615 by decide];omega
 ·simp only[Zcv,List.mem_cons,List.not_mem_nil,or_false]at hx;rcases hx with rfl|rfl
  ·exact⟨by decide,by decide⟩
  ·exact⟨by decide,by decide⟩
def Zcw:Zf:=⟨Zli,1073741824,765,0,0,0,0,0,false,[500,200],[⟨25,20,0,0,0,2⟩,⟨40,30,0,0,1,2⟩],[],[],[],[],[],List.replicate 16 0,[]⟩
theorem Zjx:Zjg Zcv=true:=by decide +kernel
theorem Yjy:Yev Zcv=Zcw:=by
 rw[Yev,Zjx];show Zjb Zcv=Zcw;have e1:tot (VN Zcv)=765:=by decide +kernel
 have e2:WW Zli 25=20:=by decide +kernel
 have e3:WW Zli 40=30:=by decide +kernel
 rw[Zjb,e1];simp only[Zcw,Zcv,List.map_cons,List.map_nil,Zez,e2,e3]
theorem Znz {pv fv:Value}(hg:ZD h pv fv Zcv)(hk:∀h' u,PH.le h h'→Zs h' u Zcw→K (.tuple #[stV Zcw u,.int .i64 0]) L h'):Zb prog 11 [Ytd Zcv pv fv] L h K:=by
 have e:=Yjy;refine Zyp pv fv hg (by decide) fun h' u le hs=>?_;rw[e,Zjx]at *;exact hk h' u le hs
def dR (n:Int):Zd:=⟨1,1,0,0,n,0,[],0,WD,0,false⟩
theorem Wan (h:PH)(n:Int)(hn:0≤n∧n≤1000):Zl h (.slice none 0 0) (dR n):=by
 refine⟨Yd h .u8,⟨fun z hz=>?_,⟨hn.1,by simp only[dR];omega⟩,Zjr⟩⟩;simp only[dR,List.mem_cons,List.not_mem_nil,or_false]at hz;omega
theorem Zvr:Zu Zcw:=by
 constructor<;>first|decide|(intro x hx;cases hx)
theorem Yuz:(Zbw Zcw (dR 201)).2=171:=by decide +kernel
theorem Wcm:(Zbw Zcw (dR 200)).2=0∧(Zbw Zcw (dR 200)).1.purses=[700,0]:=by decide +kernel
theorem Yvy:(Vm Zcw [2,4,0,0,4,0,0]).2=(1,191):=by decide +kernel
theorem Zpd (hk:∀h',PH.le h h'→K (.bool true) L h'):Zb prog 30 [] L h K:=by
 refine ZR func30 rfl (rs:=[_]) rfl rfl ZY (by kernel_rfl) rfl rfl ?_;refine xx ?_;refine Zlh fun h3 pa pc fa fc le3 g3=>?_;refine xx ?_;refine Znz g3 fun h4 u le4 s4=>?_;obtain⟨s,es⟩:∃s,s=Zcw:=⟨_,rfl⟩
 rw[← es]at s4 ⊢;have os:Zu s:=es ▸ Zvr;have r1:(Zbw s (dR 201)).2=171:=es ▸ Yuz;have r2:(Zbw s (dR 200)).2=0∧(Zbw s (dR 200)).1.purses=[700,0]:=es ▸ Wcm;have r3:(Vm s [2,4,0,0,4,0,0]).2=(1,191):=es ▸ Yvy;clear es;obtain⟨pa,pc,ma,mc,ea,ec,xa,xc,oa,oc,da,dc,ta,tc,ka,kc,ra,rc,rfl⟩:=s4.slices;refine xx ?_;refine Z6 fun b1 nb1 zb1=>?_;(try simp only[ZU]at nb1);refine xx ?_;refine Zb.ap (Yct (s:=s) (v:=⟨.slice pa s.purses.length pc,.slice ma s.members.length mc,.slice ea s.entry.length ec,.slice xa s.exit.length xc,.slice oa s.pool.length oc,.slice da s.dues.length dc,.slice ta s.motions.length tc,.slice ka s.marks.length kc,.slice ra s.ring.length rc⟩) (d:=dR 201) (bv:=.slice none 0 0) s4 os (Wan _ _ (by decide)) fun h5 v5 le5 s5 ap=>?_);simp only[Ap]at ap;obtain⟨a51,_⟩:=ap;rw[r1]
 generalize (Zbw s (dR 201)).1=t1 at s5 ⊢
 obtain⟨pa2,pc2,ma2,mc2,ea2,ec2,xa2,xc2,oa2,oc2,da2,dc2,ta2,tc2,ka2,kc2,ra2,rc2,rfl⟩:=s5.slices;refine xx ?_;refine Z6 fun b3 nb3 zb3=>?_;(try simp only[ZU]at nb3);refine xx ?_;refine Zb.ap (Yct (s:=s) (v:=⟨.slice pa s.purses.length pc,.slice ma s.members.length mc,.slice ea s.entry.length ec,.slice xa s.exit.length xc,.slice oa s.pool.length oc,.slice da s.dues.length dc,.slice ta s.motions.length tc,.slice ka s.marks.length kc,.slice ra s.ring.length rc⟩) (d:=dR 200) (bv:=.slice none 0 0) (s4.up le5) os (Wan _ _ (by decide)) fun h6 v6 le6 s6 ap=>?_);simp only[Ap]at ap;obtain⟨a63,a61,_⟩:=ap;rw[r2.1];obtain⟨_,r2⟩:=r2
 generalize (Zbw s (dR 200)).1=t2 at s6 r2 ⊢
 obtain⟨pa3,pc3,ma3,mc3,ea3,ec3,xa3,xc3,oa3,oc3,da3,dc3,ta3,tc3,ka3,kc3,ra3,rc3,rfl⟩:=s6.slices;refine xx ?_;refine Z6 fun b5 nb5 zb5=>?_;(try simp only[ZU]at nb5);refine xx ?_;refine Z6 fun b6 nb6 zb6=>?_;(try simp only[ZU]at nb6);refine xx ?_;obtain⟨m65,m63,m61,_⟩:=nb6;refine Y0 (e:=5) (b:=b6) (sz:=1) (n:=7) (cap:=7) (xs:=[.int .u8 2,.int .u8 4,.int .u8 0,.int .u8 0,.int .u8 4,.int .u8 0,.int .u8 0]) [] ⟨by decide,by decide⟩ rfl (by decide) zb6 fun h7 le7 sl same=>?_;have a71:h7 b1=noC:=by rw[same b1 (by first|exact m61|exact Ne.symm m61)];exact a61
 have a73:h7 b3=noC:=by rw[same b3 (by first|exact m63|exact Ne.symm m63)];exact a63
 have a75:h7 b5=noC:=by rw[same b5 (by first|exact m65|exact Ne.symm m65)];exact zb5
 have ib:Ints h7 .u8 (.slice (some ⟨b6,0,none⟩) 7 7) [2,4,0,0,4,0,0]:=⟨sl,by decide⟩
 refine Zb.ap (Zue (s:=s) (v:=⟨.slice pa s.purses.length pc,.slice ma s.members.length mc,.slice ea s.entry.length ec,.slice xa s.exit.length xc,.slice oa s.pool.length oc,.slice da s.dues.length dc,.slice ta s.motions.length tc,.slice ka s.marks.length kc,.slice ra s.ring.length rc⟩) (xs:=[2,4,0,0,4,0,0]) (s4.up (le5.trans (le6.trans le7))) os ib fun h8 v8 le8 s8 ap=>?_);simp only[Ap,List.nil_append]at ap;obtain⟨a85,a83,a81,_⟩:=ap;rw[r3]
 generalize (Vm s [2,4,0,0,4,0,0]).1=t3 at s8 ⊢
 obtain⟨pa4,pc4,ma4,mc4,ea4,ec4,xa4,xc4,oa4,oc4,da4,dc4,ta4,tc4,ka4,kc4,ra4,rc4,rfl⟩:=s8.slices;have s68:=(s6.up (le7.trans le8)).p;obtain⟨pa',pc',ep,_,_,_,hcp⟩:=s68.open;injection ep with ep1 ep2 ep3
 subst ep1;have hp2:t2.purses.length=2:=by rw[r2];rfl
 have hp1:at0 t2.purses 0=700:=by rw[r2];rfl
 rw[hp2]at hcp;simp only[hp2];refine xx ?_;refine Z6 fun b7 nb7 zb7=>?_;(try simp only[ZU]at nb7);simp -dsimp -implicitDefEqProofs (disch:=first|with_reducible assumption|omega) [go_sem,idx hcp,hp1];exact ZP (ZP (ZP (ZP (ZO (hk h8 (le3.trans (le4.trans (le5.trans (le6.trans (le7.trans le8))))))))))
end Go.X

/- Lemmas and contracts. Conditions: as each says. -/
import Derived.Test.YtmmfajokfdaokaaGreatQ19
import Derived.Test.YtmmfajokfdaokaaGreatQ21
set_option linter.unusedVariables false
set_option linter.unusedSimpArgs false
set_option maxHeartbeats 12800000
set_option maxRecDepth 20000
namespace Go.X
open Go.RowKit Go.Proofs Go.Bl Go.Proofs.Tryz
variable {L:Own} {h:PH} {K:PK}
def Yhf (s:Zf)(d:Zd):Int:=if d.kind=5 then 0 else if inP s.purses d.acct&&(!(decide (d.kind=1)||decide (d.what=2))||inP s.purses d.to) then 0 else 170
def Yav (s:Zf)(d:Zd):Int:=if d.kind=3∨d.kind=4∨d.kind=7 then (if d.mem<0∨(s.members.length:Int)≤d.mem then 190 else if (gr ZS s.members d.mem.toNat).owner=d.acct then 0 else 192) else 0
def Gb (s:Zf)(d:Zd):Zf×Int:=if (Jr s.purses d.acct d.to d.amt).2=0 then ({ s with purses:=(Jr s.purses d.acct d.to d.amt).1 },0) else (s,(Jr s.purses d.acct d.to d.amt).2)
def VU (s:Zf)(d:Zd):Zf×Int :=
 if d.kind=2∧d.amt≤s.par.floor then (s,250)
 else if (Vp s.purses d.acct d.amt).2=0 then
  (if (Zlc s.pool ⟨d.acct,d.mem,d.amt,decide (d.kind=2)⟩).2=0 then ({ s with purses:=(Vp s.purses d.acct d.amt).1,pool:=(Zlc s.pool ⟨d.acct,d.mem,d.amt,decide (d.kind=2)⟩).1 },0) else (s,(Zlc s.pool ⟨d.acct,d.mem,d.amt,decide (d.kind=2)⟩).2))
 else (s,(Vp s.purses d.acct d.amt).2)
def Vf (s:Zf)(d:Zd):Zf×Int :=
 if (gr ZS s.members d.mem.toNat).status=2 then ({ s with members:=s.members.set d.mem.toNat { gr ZS s.members d.mem.toNat with status:=3 },exit:=s.exit++[d.mem] },0) else (s,191)
def VT (s:Zf)(d:Zd):Zf×Int :=
 if d.ep=s.ep then (if (Zew s.marks d.bits s.members.length).2=0 then ({ s with marks:=(Zew s.marks d.bits s.members.length).1 },0) else (s,(Zew s.marks d.bits s.members.length).2)) else (s,200)
def Zmx (s:Zf)(d:Zd):Zf×Int :=
 if (Vp s.purses d.acct s.par.bond).2=0 then
  (if (Ge s.par s.motions d s.ep).2.2=0 then ({ s with purses:=(Vp s.purses d.acct s.par.bond).1,motions:=(Ge s.par s.motions d s.ep).1,treas:=s.treas+s.par.bond },0) else (s,(Ge s.par s.motions d s.ep).2.2))
 else (s,(Vp s.purses d.acct s.par.bond).2)
def VV (s:Zf)(d:Zd):Zf×Int :=
 if (gr ZS s.members d.mem.toNat).status=2∨(gr ZS s.members d.mem.toNat).status=3 then
  (if (GI s.motions d.mot d.mem d.yes).2=0 then ({ s with motions:=(GI s.motions d.mot d.mem d.yes).1 },0) else (s,(GI s.motions d.mot d.mem d.yes).2))
 else (s,191)
def doP (s:Zf)(d:Zd):Zf×Int :=
 if Yhf s d≠0 then (s,Yhf s d) else if Yav s d≠0 then (s,Yav s d)
 else if d.kind=1 then Gb s d else if d.kind=2∨d.kind=3 then VU s d else if d.kind=4 then Vf s d else if d.kind=5 then VT s d else if d.kind=6 then Zmx s d else VV s d
abbrev hB (bh:Nat)(s:Zf)(v:SV):Zo:=⟨bh,181,stC s v,41⟩
structure Hd (h:PH)(v:SV)(s:Zf):Prop where
 ok:ZF s
 p:Ints h .u64 v.p s.purses
 m:∃a c,v.m = .slice a s.members.length c
 mo:∀x∈s.members,Zg x
 e:Ints h .i64 v.e s.entry
 x:∃a c,v.x = .slice a s.exit.length c
 o:Zh UY 4 h v.o s.pool
 oo:∀x∈s.pool,ZE x
 d:Zh YT 3 h v.d s.dues
 dd:∀x∈s.dues,Zv x
 t:∃q:List QM,Zh Y2 33 h v.t q∧q.map (fun x=>x.2.2)=s.motions∧Y7 h q
 k:Ints h .u8 v.k s.marks
 r:∃q,Zz h v.r q∧xsL q=s.ring
theorem Hd.up {h h':PH}(le:PH.le h h'){v:SV}{s:Zf}(hs:Hd h v s):Hd h' v s:=by
 obtain⟨q,t1,t2,t3⟩:=hs.t;obtain⟨r,r1,r2⟩:=hs.r;exact⟨hs.ok,hs.p.up le,hs.m,hs.mo,hs.e.up le,hs.x,hs.o.up le,hs.oo,hs.d.up le,hs.dd,⟨q,t1.up le,t2,fun x hx=>(t3 x hx).up le⟩,hs.k.up le,⟨r,r1.up le,r2⟩⟩
theorem Hd.setP {h:PH}{v:SV}{s:Zf}(hs:Hd h v s){w:Value}{xs:List Int}(hw:Ints h .u64 w xs):Hd h { v with p:=w } { s with purses:=xs } :=
 ⟨⟨hs.ok.p,hs.ok.u,hs.ok.n⟩,hw,hs.m,hs.mo,hs.e,hs.x,hs.o,hs.oo,hs.d,hs.dd,hs.t,hs.k,hs.r⟩
theorem Hd.setO {h:PH}{v:SV}{s:Zf}(hs:Hd h v s){w:Value}{xs:List Zn}(hw:Zh UY 4 h w xs)(ho:∀x∈xs,ZE x):Hd h { v with o:=w } { s with pool:=xs } :=
 ⟨⟨hs.ok.p,hs.ok.u,hs.ok.n⟩,hs.p,hs.m,hs.mo,hs.e,hs.x,hw,ho,hs.d,hs.dd,hs.t,hs.k,hs.r⟩
theorem Hd.setK {h:PH}{v:SV}{s:Zf}(hs:Hd h v s){w:Value}{xs:List Int}(hw:Ints h .u8 w xs):Hd h { v with k:=w } { s with marks:=xs } :=
 ⟨⟨hs.ok.p,hs.ok.u,hs.ok.n⟩,hs.p,hs.m,hs.mo,hs.e,hs.x,hs.o,hs.oo,hs.d,hs.dd,hs.t,hw,hs.r⟩
theorem Hd.setT {h:PH}{v:SV}{s:Zf}(hs:Hd h v s){w:Value}{ms:List Zm}{q:List QM}(hw:Zh Y2 33 h w q)(hq:q.map (fun x=>x.2.2)=ms)(hm:Y7 h q):Hd h { v with t:=w } { s with motions:=ms } :=
 ⟨⟨hs.ok.p,hs.ok.u,hs.ok.n⟩,hs.p,hs.m,hs.mo,hs.e,hs.x,hs.o,hs.oo,hs.d,hs.dd,⟨q,hw,hq,hm⟩,hs.k,hs.r⟩
theorem Hd.setTr {h:PH}{v:SV}{s:Zf}(hs:Hd h v s){n:Int}(hn:0≤n∧n≤18446744073709551615):Hd h v { s with treas:=n } :=
 ⟨⟨hs.ok.p,fun z hz=>by
  simp only[List.mem_cons,List.not_mem_nil,or_false]at hz;rcases hz with rfl|rfl|rfl|rfl|rfl
  ·exact hs.ok.u _ (by simp)
  ·exact hs.ok.u _ (by simp)
  ·exact hs.ok.u _ (by simp)
  ·exact hs.ok.u _ (by simp)
  ·exact hn,hs.ok.n⟩,hs.p,hs.m,hs.mo,hs.e,hs.x,hs.o,hs.oo,hs.d,hs.dd,hs.t,hs.k,hs.r⟩
theorem Zzu {bh:Nat}{s:Zf}{v:SV}{d:Zd}{bv:Value}(hh:Hd h v s)(few:Zu s)(hd:Zl h bv d)
  (hk:∀h' v',PH.le h h'→Hd h' v' (Gb s d).1→v'.m=v.m→v'.x=v.x→K (.int .i64 (Gb s d).2) (hB bh (Gb s d).1 v'::L) h') :
  Zb prog 213 [.pointer (some ⟨bh,0,none⟩),Wu d bv] (hB bh s v::L) h K:=by
 obtain⟨x1,y1,rfl,_⟩:=hd.i.open;have ua:=hd.ok.a;refine Z4 func213 rfl (rs:=[_]) rfl rfl ZY (by kernel_rfl) rfl rfl fun ap nd=>?_;have hbh:h bh=noC:=ap.1;clear ap nd;refine xx ?_;refine Z6 fun b3 nb3 zb3=>?_;(try simp only[ZU]at nb3);refine xx ?_;refine Yr (.tk 0 (.tk 1 (.tk 2 (.tk 3 (.tk 5 (.tk 7 (.tk 9 (.tkl 4 (.tkl 6 (.tkl 8 (.tkl 10 (.o1 11 (.tk 12 (.tk 13 (.tk 14 (.tk 15 (.tk 16 (.fin)))))) (.nil))))))))))))) (by kernel_rfl) (by kernel_rfl) _ (Za.refl _ _) ?_;refine xx ?_;refine Zb.ap (Yfu _ hh.p few.p d.acct d.to d.amt ua fun h2 r2 le2 i2 ap=>?_);simp only[Ap]at ap;obtain⟨a23,a2h,_⟩:=ap;obtain⟨ra,rc,rfl,_⟩:=i2.open;refine xkp (Za.forget le2) ?_;have hst:=hh.up le2;unfold Gb at hk;by_cases c1:(Jr s.purses d.acct d.to d.amt).2=0
 ·rw[if_pos c1]at hk;refine xx ?_;rw[c1];exact ZP (ZO (hk h2 _ le2 (hst.setP i2) rfl rfl))
 ·rw[if_neg c1]at hk;refine xx ?_;exact ZP (ZO (hk h2 v le2 hst rfl rfl))
theorem Yal {l:List Zn}{d:Zn}(hl:∀x∈l,ZE x)(hd:ZE d):∀x∈(Zlc l d).1,ZE x:=fun x hx=>by
 unfold Zlc at hx;split at hx
 ·split at hx
  ·rcases List.mem_append.1 hx with hx|hx
   ·exact hl x hx
   ·rw[List.mem_singleton.1 hx];exact hd
  ·cases hx
 ·cases hx
theorem Zgq {bh:Nat}{s:Zf}{v:SV}{d:Zd}{bv:Value}(hh:Hd h v s)(few:Zu s)(hd:Zl h bv d)
  (hk:∀h' v',PH.le h h'→Hd h' v' (VU s d).1→v'.m=v.m→v'.x=v.x→K (.int .i64 (VU s d).2) (hB bh (VU s d).1 v'::L) h') :
  Zb prog 214 [.pointer (some ⟨bh,0,none⟩),Wu d bv] (hB bh s v::L) h K:=by
 obtain⟨x1,y1,rfl,_⟩:=hd.i.open;have ua:=hd.ok.a;have dok:ZE ⟨d.acct,d.mem,d.amt,decide (d.kind=2)⟩:=by
  have hn:=hd.ok.n;simp only[List.forall_mem_cons]at hn
  exact⟨ua,fun z hz=>by
   simp only[List.mem_cons,List.not_mem_nil,or_false]at hz
   rcases hz with rfl|rfl<;>omega⟩
 refine Z4 func214 rfl (rs:=[_]) rfl rfl ZY (by kernel_rfl) rfl rfl fun ap nd=>?_;have hbh:h bh=noC:=ap.1;clear ap nd;refine xx ?_;refine Z6 fun b3 nb3 zb3=>?_;(try simp only[ZU]at nb3);refine xx ?_;unfold VU at hk;by_cases c1:d.kind=2
 ·rw[decide_eq_true c1]at hk dok;refine xx ?_;refine Wx (by kernel_rfl) rfl ?_;refine xx ?_;by_cases c2:d.amt≤s.par.floor
  ·rw[if_pos ⟨c1,c2⟩]at hk;refine xx ?_;exact ZP (ZO (hk h v (PH.le_refl _) hh rfl rfl))
  rw[if_neg (fun e=>c2 e.2)]at hk;refine xx ?_;refine Yr (.tk 0 (.tk 1 (.tk 2 (.tk 3 (.tk 5 (.tk 7 (.tkl 4 (.tkl 6 (.tkl 8 (.o1 9 (.tk 10 (.tk 11 (.tk 12 (.tk 13 (.tk 14 (.fin)))))) (.nil))))))))))) (by kernel_rfl) (by kernel_rfl) _ (Za.refl _ _) ?_;refine xx ?_;refine Zb.ap (GZ _ hh.p few.p d.acct d.amt ua fun h2 r2 le2 i2 ap=>?_);simp only[Ap]at ap;obtain⟨a23,a2h,_⟩:=ap;obtain⟨ra,rc,rfl,_⟩:=i2.open;refine xkp (Za.forget le2) ?_;have hst:=hh.up le2;by_cases c3:(Vp s.purses d.acct d.amt).2=0
  ·rw[if_pos c3]at hk;refine xx ?_;refine Yr (.tk 0 (.tk 1 (.tk 2 (.tk 3 (.tk 5 (.tk 7 (.tk 9 (.tk 11 (.tkl 4 (.tkl 6 (.tkl 8 (.tkl 10 (.tk 12 (.o1 13 (.tk 14 (.tk 15 (.tk 16 (.tk 17 (.tk 18 (.fin)))))) (.nil))))))))))))))) (by kernel_rfl) (by kernel_rfl) _ (Za.refl _ _) ?_;refine xx ?_;refine Zb.ap (Wdg _ hst.o few.o ⟨d.acct,d.mem,d.amt,true⟩ dok fun h3 r3 le3 i3 ap=>?_);simp only[Ap]at ap;obtain⟨a33,a3h,_⟩:=ap;obtain⟨rb,rd,rfl,_⟩:=i3.open;refine xkp (Za.forget le3) ?_;by_cases c4:(Zlc s.pool ⟨d.acct,d.mem,d.amt,true⟩).2=0
   ·rw[if_pos c4]at hk;have hd3:=Yal hst.oo dok;refine xx ?_;exact ZP (ZO (hk h3 _ (le2.trans le3) (((hst.up le3).setP (i2.up le3)).setO i3 hd3) rfl rfl))
   ·rw[if_neg c4]at hk;refine xx ?_;exact ZP (ZO (hk h3 v (le2.trans le3) (hst.up le3) rfl rfl))
  ·rw[if_neg c3]at hk;refine xx ?_;exact ZP (ZO (hk h2 v le2 hst rfl rfl))
 ·rw[decide_eq_false c1,if_neg (fun e=>c1 e.1)]at hk;rw[decide_eq_false c1]at dok;refine xx ?_;refine Wx (by kernel_rfl) rfl ?_;refine xx ?_;refine Yr (.tk 0 (.tk 1 (.tk 2 (.tk 3 (.tk 5 (.tk 7 (.tkl 4 (.tkl 6 (.tkl 8 (.o1 9 (.tk 10 (.tk 11 (.tk 12 (.tk 13 (.tk 14 (.fin)))))) (.nil))))))))))) (by kernel_rfl) (by kernel_rfl) _ (Za.refl _ _) ?_;refine xx ?_;refine Zb.ap (GZ _ hh.p few.p d.acct d.amt ua fun h2 r2 le2 i2 ap=>?_);simp only[Ap]at ap;obtain⟨a23,a2h,_⟩:=ap;obtain⟨ra,rc,rfl,_⟩:=i2.open;refine xkp (Za.forget le2) ?_;have hst:=hh.up le2;by_cases c3:(Vp s.purses d.acct d.amt).2=0
  ·rw[if_pos c3]at hk;refine xx ?_;refine Yr (.tk 0 (.tk 1 (.tk 2 (.tk 3 (.tk 5 (.tk 7 (.tk 9 (.tk 11 (.tkl 4 (.tkl 6 (.tkl 8 (.tkl 10 (.tk 12 (.o1 13 (.tk 14 (.tk 15 (.tk 16 (.tk 17 (.tk 18 (.fin)))))) (.nil))))))))))))))) (by kernel_rfl) (by kernel_rfl) _ (Za.refl _ _) ?_;refine xx ?_;refine Zb.ap (Wdg _ hst.o few.o ⟨d.acct,d.mem,d.amt,false⟩ dok fun h3 r3 le3 i3 ap=>?_);simp only[Ap]at ap;obtain⟨a33,a3h,_⟩:=ap;obtain⟨rb,rd,rfl,_⟩:=i3.open;refine xkp (Za.forget le3) ?_;by_cases c4:(Zlc s.pool ⟨d.acct,d.mem,d.amt,false⟩).2=0
   ·rw[if_pos c4]at hk;have hd3:=Yal hst.oo dok;refine xx ?_;exact ZP (ZO (hk h3 _ (le2.trans le3) (((hst.up le3).setP (i2.up le3)).setO i3 hd3) rfl rfl))
   ·rw[if_neg c4]at hk;refine xx ?_;exact ZP (ZO (hk h3 v (le2.trans le3) (hst.up le3) rfl rfl))
  ·rw[if_neg c3]at hk;refine xx ?_;exact ZP (ZO (hk h2 v le2 hst rfl rfl))
def Zfa (l:List Zd):Bool:=decide (l.length≤64)&&l.all (fun d=>decide (d.bits.length≤100))
theorem few25_iff {l:List QD}:Zfa (dl l)=true↔l.length≤64∧∀j,j<l.length→(gq l j).2.bits.length≤100:=by
 simp only[Zfa,Bool.and_eq_true,decide_eq_true_eq,List.all_eq_true,Zfy];exact and_congr Iff.rfl ⟨fun q j hj=>q _ (Ybp hj),fun q=>Ynm q⟩
def V3 (l:List Zd):List Int:=if l.all ZW then Yht l else []
theorem Zet {l:List QD}{dv:Value}(hd0:Zr h dv l)(hn:l.length≤64)(hk:∀h' r,PH.le h h'→Ints h' .u8 r (V3 (dl l))→K r L h'):Zb prog 33 [dv] L h K:=by
 obtain⟨a,c,rfl,hc,hl,_,hd⟩:=hd0.open;refine ZR func33 rfl (rs:=[_]) rfl rfl ZY (by kernel_rfl) rfl rfl ?_;refine xx ?_;refine YZ (γ:=Nat×PH×Option (Nat×Nat)) (0,h,none) (fun s=>s.1≤l.length∧PH.le h s.2.1∧okO s.2.2 s.1∧apO s.2.2 L s.2.1∧∀j,j<s.1→ZW (gq l j).2=true) (fun s=>[(9,.int .i64 s.1),(8,.int .i64 l.length),(7,.slice a l.length c),(3,ovs s.2.2 s.1)])
  (fun s=>oent 185 34 s.2.2 (V2 (l.take s.1)) L) (fun s=>s.2.1) (fun s=>l.length-s.1) ?_ ?_ ?_ ?_
 ·exact⟨Nat.zero_le _,PH.le_refl _,rfl,trivial,fun j hj=>by omega⟩
 ·simp [Ent,List.lookup,WM,ovs]
 ·exact Za.refl _ _
 rintro⟨k,hg,o⟩ ⟨k1,k2,k3,k4,k5⟩;simp only at k1 k2 k3 k4 k5 ⊢;have hlt:(l.take k).length=k:=by simp [k1]
 have hdg:=hd.up k2;by_cases c1:k<l.length
 ·have hdk:=hdg.at c1;have hi:=hdk.i;obtain⟨x1,y1,hv,hy,hly,_⟩:=hi.open;have et:l.take (k+1)=l.take k++[gq l k]:=by rw[Zop c1,List.take_succ_eq_append_getElem c1]
  simp -dsimp -implicitDefEqProofs (disch:=first|with_reducible assumption|omega) [go_sem,↓Yvn hdg];refine Z6 fun b5 nb5 zb5=>?_;(try simp only[ZU]at nb5);simp -dsimp -implicitDefEqProofs (disch:=first|with_reducible assumption|omega) [go_sem,hv];rw[hv]at hi hdk;refine Zud (d:=(gq l k).2) _ hi ?_;refine xx ?_;refine Z6 fun b6 nb6 zb6=>?_;(try simp only[ZU]at nb6);refine xx ?_;refine Zb.apn (Zsv (d:=(gq l k).2) _ hdk fun h7 le7 ap nd=>?_);obtain⟨a76,a75,ap⟩:=ap;have a7:apO o L h7:=by
   cases o with
   | none=>trivial
   | some p=>exact⟨nd.2.2.1,ap.1⟩
  cases c2:ZW (gq l k).2 with
  | false =>
   have e:V3 (dl l)=[]:=by
    rw[V3,if_neg];intro q;have:=List.all_eq_true.1 q _ (Ybp c1);rw[c2]at this
    cases this
   rw[e]at hk;refine xx ?_;exact ZP (ZP (We (ZO (hk h7 _ (k2.trans le7) (Yd h7 .u8)))))
  | true =>
   refine xx ?_;refine Z6 fun b8 nb8 zb8=>?_;(try simp only[ZU]at nb8);refine xx ?_;refine Z8 (t:=183) (e:=185) (sz:=34) (bytes:=288) (by kernel_rfl) Ykr rfl rfl rfl rfl (by decide) [_,_,_] L o k (V2 (l.take k)) k3 (by rw[V1,hlt]) (Src.own List.mem_cons_self) (m:=1) (news:=qC (.slice x1 (gq l k).2.bits.length y1,(gq l k).2)) rfl (Yly _ rfl) (by simp [maxLen];omega) (by omega) ?_;intro o' j1 j2 j3;refine xx ?_;refine⟨k+1,h7,o',⟨by omega,k2.trans le7,j1,Z2 (Z2 (Z2 j2)),fun j hj=>?_⟩,by omega,by simp [Ent,List.lookup],?_⟩
   ·by_cases e:j=k
    ·subst e;exact c2
    ·exact k5 j (by omega)
   ·rw[et,Zfx,Zgi,show gq l k=(.slice x1 (gq l k).2.bits.length y1,(gq l k).2) from Prod.ext hv rfl];exact(Za.tail _ _ _).trans ((Za.tail _ _ _).trans (Za.tail _ _ _))
 ·have hkl:k=l.length:=by omega
  subst hkl;have e:V3 (dl l)=Yht (dl l):=by
   rw[V3,if_pos];exact List.all_eq_true.2 (Ynm k5)
  rw[e]at hk;rw[List.take_length];obtain⟨oa,oc,eo,_⟩:=Yh k3;simp -dsimp -implicitDefEqProofs (disch:=first|with_reducible assumption|omega) [go_sem,eo];refine Vq (e:=185) (sz:=34) (o:=o) (xs:=V2 l) (n:=l.length) k3 (V1 l) (by omega) k4 fun h7 le7 sl=>?_;have hd7:Zr h7 (.slice oa l.length oc) l:=⟨eo ▸ sl,fun q hq=>(hdg.d q hq).up le7⟩
  refine Zyr _ hd7 hn (Ynm k5) fun h8 r le8 hr8=>?_;have hr:=hr8;obtain⟨ra,rc,rfl,_⟩:=hr8.open;refine xx ?_;exact ZO (hk h8 _ (k2.trans (le7.trans le8)) hr)
theorem Ybs {bh:Nat}{s:Zf}{v:SV}{d:Zd}{bv:Value}(hh:Hd h v s)(few:Zu s)(hd:Zl h bv d)
  (hk:∀h' v',PH.le h h'→Hd h' v' (VT s d).1→v'.m=v.m→v'.x=v.x→K (.int .i64 (VT s d).2) (hB bh (VT s d).1 v'::L) h') :
  Zb prog 216 [.pointer (some ⟨bh,0,none⟩),Wu d bv] (hB bh s v::L) h K:=by
 obtain⟨x1,y1,rfl,_⟩:=hd.i.open;obtain⟨ma,mc,em⟩:=hh.m;have fm:=few.m;refine Z4 func216 rfl (rs:=[_]) rfl rfl ZY (by kernel_rfl) rfl rfl fun ap nd=>?_;have hbh:h bh=noC:=ap.1;clear ap nd;refine xx ?_;refine Z6 fun b3 nb3 zb3=>?_;(try simp only[ZU]at nb3);refine xx ?_;refine Wx (by kernel_rfl) rfl ?_;refine xx ?_;unfold VT at hk;by_cases c1:d.ep=s.ep
 ·rw[if_pos c1]at hk;refine xx ?_;refine Yr (.tk 0 (.tk 1 (.tk 2 (.tk 3 (.tk 5 (.tk 7 (.tk 8 (.tk 9 (.tk 10 (.tkl 4 (.tkl 6 (.tkl 11 (.tk 12 (.o1 13 (.tk 14 (.tk 15 (.tk 16 (.tk 17 (.tk 18 (.fin)))))) (.nil))))))))))))))) (by kernel_rfl) (by kernel_rfl) _ (Za.refl _ _) ?_;simp -dsimp -implicitDefEqProofs (disch:=first|with_reducible assumption|omega) [go_sem,em];refine Zb.ap (Yii _ _ hh.k hd.i s.members.length (by omega) fun h2 r2 le2 i2 ap=>?_);simp only[Ap]at ap;obtain⟨a23,a2h,_⟩:=ap;obtain⟨ra,rc,rfl,_⟩:=i2.open;refine xkp (Za.forget le2) ?_;have hst:=hh.up le2;by_cases c2:(Zew s.marks d.bits s.members.length).2=0
  ·rw[if_pos c2]at hk;refine xx ?_;rw[c2];exact ZP (ZO (hk h2 _ le2 (hst.setK i2) rfl rfl))
  ·rw[if_neg c2]at hk;refine xx ?_;exact ZP (ZO (hk h2 v le2 hst rfl rfl))
 ·rw[if_neg c1]at hk;refine xx ?_;exact ZP (ZO (hk h v (PH.le_refl _) hh rfl rfl))
theorem Zxr {bh:Nat}{s:Zf}{v:SV}{d:Zd}{bv:Value}(hh:Hd h v s)(few:Zu s)(hd:Zl h bv d)(ht:s.treas+s.par.bond≤18446744073709551615)
  (hk:∀h' v',PH.le h h'→Hd h' v' (Zmx s d).1→v'.m=v.m→v'.x=v.x→K (.int .i64 (Zmx s d).2) (hB bh (Zmx s d).1 v'::L) h') :
  Zb prog 217 [.pointer (some ⟨bh,0,none⟩),Wu d bv] (hB bh s v::L) h K:=by
 have hd0:=hd;obtain⟨x1,y1,rfl,_⟩:=hd.i.open;have ub:0≤s.par.bond∧s.par.bond≤18446744073709551615:=hh.ok.p.1 _ (by simp [Yw]);have ut:0≤s.treas∧s.treas≤18446744073709551615:=hh.ok.u _ (by simp);obtain⟨q,t1,t2,t3⟩:=hh.t;have hql:q.length=s.motions.length:=by rw[← t2,List.length_map]
 have ft:=few.t;refine Z4 func217 rfl (rs:=[_]) rfl rfl ZY (by kernel_rfl) rfl rfl fun ap nd=>?_;have hbh:h bh=noC:=ap.1;clear ap nd;refine xx ?_;refine Z6 fun b3 nb3 zb3=>?_;(try simp only[ZU]at nb3);refine xx ?_;refine Yr (.tk 0 (.tk 1 (.tk 2 (.tk 3 (.tk 5 (.tk 7 (.tk 8 (.tk 9 (.tk 10 (.tk 11 (.tkl 4 (.tkl 6 (.tkl 12 (.o1 13 (.tk 14 (.tk 15 (.tk 16 (.tk 17 (.tk 18 (.fin)))))) (.nil))))))))))))))) (by kernel_rfl) (by kernel_rfl) _ (Za.refl _ _) ?_;refine xx ?_;refine Zb.ap (GZ _ hh.p few.p d.acct s.par.bond ub fun h2 r2 le2 i2 ap=>?_);simp only[Ap]at ap;obtain⟨a23,a2h,_⟩:=ap;obtain⟨ra,rc,rfl,_⟩:=i2.open;refine xkp (Za.forget le2) ?_;have hst:=hh.up le2;unfold Zmx at hk;by_cases c1:(Vp s.purses d.acct s.par.bond).2=0
 ·rw[if_pos c1]at hk;refine xx ?_;refine Yr (.tk 0 (.tk 1 (.tk 2 (.tk 3 (.tk 5 (.tk 6 (.tk 7 (.tk 8 (.tk 11 (.tk 12 (.tk 13 (.tk 14 (.tkl 4 (.tkl 9 (.tkl 10 (.tkl 15 (.o1 16 (.tk 17 (.tk 18 (.tk 19 (.tk 20 (.tk 21 (.tk 22 (.tk 23 (.fin)))))))) (.nil)))))))))))))))))) (by kernel_rfl) (by kernel_rfl) _ (Za.refl _ _) ?_;refine xx ?_;refine Zb.ap (Zzl _ _ hh.ok.p (t1.up le2) t2 (fun x hx=>(t3 x hx).up le2) (by omega) few.v (hd0.up le2) s.ep fun h3 r3 q3 le3 i3 e3 m3 ap=>?_);simp only[Ap]at ap;obtain⟨a33,a3h,_⟩:=ap;obtain⟨rb,rd,rfl,_⟩:=i3.open;refine xkp (Za.forget le3) ?_;by_cases c2:(Ge s.par s.motions d s.ep).2.2=0
  ·rw[if_pos c2]at hk;refine xx ?_;refine Yr (.tk 0 (.tk 1 (.tk 2 (.tk 3 (.tk 5 (.tk 6 (.tk 7 (.tk 8 (.tk 9 (.tkl 4 (.tkl 10 (.o1 11 (.tk 12 (.tk 13 (.tk 14 (.tk 15 (.tk 16 (.fin)))))) (.nil))))))))))))) (by kernel_rfl) (by kernel_rfl) _ (Za.refl _ _) ?_;refine xx ?_;refine WO _ _ ut ub ?_;rw[Zqa,if_pos ht];refine xkp (Za.refl _ _) ?_;refine xx ?_;exact ZP (ZO (hk h3 _ (le2.trans le3) ((((hst.up le3).setP (i2.up le3)).setT i3 e3 m3).setTr ⟨by omega,ht⟩) rfl rfl))
  ·rw[if_neg c2]at hk;refine xx ?_;exact ZP (ZO (hk h3 v (le2.trans le3) (hst.up le3) rfl rfl))
 ·rw[if_neg c1]at hk;refine xx ?_;exact ZP (ZO (hk h2 v le2 hst rfl rfl))
theorem Zas {bh:Nat}{s:Zf}{v:SV}(hp:Ints h .u64 v.p s.purses)(i:Int)(hk:K (.bool (inP s.purses i)) (hB bh s v::L) h) :
  Zb prog 305 [.pointer (some ⟨bh,0,none⟩),.int .i64 i] (hB bh s v::L) h K:=by
 unfold inP at hk;obtain⟨pa,pc,ep,_⟩:=hp.open;refine Z4 func305 rfl (rs:=[_]) rfl rfl ZY (by kernel_rfl) rfl rfl fun ap nd=>?_;have hbh:h bh=noC:=ap.1;clear ap nd;refine xx ?_;by_cases c1:0≤i
 ·rw[decide_eq_true c1,Bool.true_and]at hk;simp -dsimp -implicitDefEqProofs (disch:=first|with_reducible assumption|omega) [go_sem,ep];exact ZO hk
 ·rw[decide_eq_false c1,Bool.false_and]at hk;refine xx ?_;exact ZO hk
theorem Zhz {bh:Nat}{s:Zf}{v:SV}{d:Zd}{bv:Value}(hp:Ints h .u64 v.p s.purses)(hd:Zl h bv d)(hk:K (.int .i64 (Yhf s d)) (hB bh s v::L) h) :
  Zb prog 211 [.pointer (some ⟨bh,0,none⟩),Wu d bv] (hB bh s v::L) h K:=by
 obtain⟨x1,y1,rfl,_⟩:=hd.i.open;refine Z4 func211 rfl (rs:=[_]) rfl rfl ZY (by kernel_rfl) rfl rfl fun ap nd=>?_;have hbh:h bh=noC:=ap.1;clear ap nd;refine xx ?_;refine Z6 fun b3 nb3 zb3=>?_;(try simp only[ZU]at nb3);refine xx ?_;unfold Yhf at hk;by_cases c1:d.kind=5
 ·rw[if_pos c1]at hk;refine xx ?_;exact ZP (ZO hk)
 rw[if_neg c1]at hk;refine xx ?_;refine Zb.weaken (Za.perm h (List.Perm.swap _ _ _)) ?_;refine Zas hp _ ?_;have ne3:bh≠b3:=nb3.1;have done:∀z:Int,K (.int .i64 z) (hB bh s v::L) h→fin K (.int .i64 z) (hB bh s v::⟨b3,177,GY d (.slice x1 d.bits.length y1),34⟩::L) h:=fun z hz=>⟨_,_,(Za.perm h (List.Perm.swap _ _ _)).trans (Za.tail _ _ _),hz⟩
 cases c2:inP s.purses d.acct with
 | false =>
  rw[c2,Bool.false_and,if_neg (by decide)]at hk;refine xx ?_;exact done _ hk
 | true =>
 rw[c2,Bool.true_and]at hk;by_cases c3:d.kind=1
 ·rw[decide_eq_true c3,Bool.true_or,Bool.not_true,Bool.false_or]at hk;refine xx ?_;refine Zas hp _ ?_
  cases c4:inP s.purses d.to with
  | false =>
   rw[c4,if_neg (by decide)]at hk;refine xx ?_;exact done _ hk
  | true =>
   rw[c4,if_pos rfl]at hk;refine xx ?_;exact done _ hk
 ·by_cases c5:d.what=2
  ·rw[decide_eq_true c5,Bool.or_true,Bool.not_true,Bool.false_or]at hk;refine xx ?_;refine Zas hp _ ?_
   cases c4:inP s.purses d.to with
   | false =>
    rw[c4,if_neg (by decide)]at hk;refine xx ?_;exact done _ hk
   | true =>
    rw[c4,if_pos rfl]at hk;refine xx ?_;exact done _ hk
  ·rw[decide_eq_false c3,decide_eq_false c5,Bool.or_false,Bool.not_false,Bool.true_or,if_pos rfl]at hk;refine xx ?_;exact done _ hk
abbrev mB (bm cm:Nat)(ms:List Zc):Zo:=⟨bm,73,ms.flatMap YK,cm*6⟩
abbrev Zbs (bh:Nat)(ox om:Option (Nat×Nat))(s:Zf)(v:SV)(L:Own):Own:=hB bh s v::oent 3 1 ox (s.exit.map (.int .i64)) (oent 73 6 om (s.members.flatMap YK) L)
theorem Zae {ox:Option (Nat×Nat)}{e:Zo}{xs:List Value}{x:Zo}(ap:Ap (e::oent 3 1 ox xs (x::L)) h)(nd:Nd (e::oent 3 1 ox xs (x::L))):h e.b=noC∧h x.b=noC∧apB ox x.b∧e.b≠x.b∧apB ox e.b:=by
 cases ox with
 | none=>exact⟨ap.1,ap.2.1,trivial,Ne.symm nd.1.1,trivial⟩
 | some p=>exact⟨ap.1,ap.2.2.1,Ne.symm nd.2.1.1,Ne.symm nd.1.2.1,nd.1.1⟩
theorem Zly {bh:Nat}{ox om:Option (Nat×Nat)}{s:Zf}{v:SV}{d:Zd}{bv:Value}(hd:Zl h bv d)(hm:v.m=ovs om s.members.length)(okm:okO om s.members.length)(hl:s.members.length≤1000)(hk:K (.int .i64 (Yav s d)) (Zbs bh ox om s v L) h) :
  Zb prog 212 [.pointer (some ⟨bh,0,none⟩),Wu d bv] (Zbs bh ox om s v L) h K:=by
 obtain⟨x1,y1,rfl,_⟩:=hd.i.open;obtain⟨ma,mc,em,_⟩:=Yh okm;refine Z4 func212 rfl (rs:=[_]) rfl rfl ZY (by kernel_rfl) rfl rfl fun ap nd=>?_;have hbh:h bh=noC:=ap.1;have done:∀(b3:Nat) (z:Int),K (.int .i64 z) (Zbs bh ox om s v L) h→fin K (.int .i64 z) (⟨b3,177,GY d (.slice x1 d.bits.length y1),34⟩::Zbs bh ox om s v L) h:=fun b3 z hz=>ZP (ZO hz);refine xx ?_;refine Z6 fun b3 nb3 zb3=>?_;(try simp only[ZU]at nb3);refine xx ?_;unfold Yav at hk;by_cases c1:d.kind=3∨d.kind=4∨d.kind=7
 ·rw[if_pos c1]at hk;have c9:d.kind=3∨(¬d.kind=3∧d.kind=4)∨(¬d.kind=3∧¬d.kind=4∧d.kind=7):=by omega
  have em':ovs om s.members.length = .slice ma s.members.length mc:=em;rcases c9 with c9 | ⟨c8,c9⟩ | ⟨c7,c8,c9⟩
  all_goals
   refine xx ?_;by_cases c2:d.mem<0
   ·rw[if_pos (Or.inl c2)]at hk;refine Wx (by kernel_rfl) rfl ?_;refine xx ?_;exact done _ _ hk
   by_cases c3:(s.members.length:Int)≤d.mem
   ·rw[if_pos (Or.inr c3)]at hk;refine Wx (by kernel_rfl) rfl ?_;simp -dsimp -implicitDefEqProofs (disch:=first|with_reducible assumption|omega) [go_sem,hm,em'];exact done _ _ hk
   rw[if_neg (by omega)]at hk;refine Wx (by kernel_rfl) rfl ?_;simp -dsimp -implicitDefEqProofs (disch:=first|with_reducible assumption|omega) [go_sem,hm,em'];obtain⟨bm,cm,eom⟩:∃bm cm,om=some (bm,cm):=by
    cases om with
    | none=>have:s.members.length=0:=okm;omega
    | some p=>exact⟨_,_,rfl⟩
   obtain⟨j,hj⟩:=Int.eq_ofNat_of_zero_le (Int.not_lt.1 c2);have hjl:j<s.members.length:=by omega
   have ejn:d.mem.toNat=j:=by omega
   rw[ejn]at hk;subst eom;simp only[ovs,Value.slice.injEq]at em;obtain⟨rfl,_,rfl⟩:=em;obtain⟨_,hbm,nxm,nhm,nxh⟩:=Zae ap nd;simp only at hbm nxm nhm;have n3m:bm≠b3:=Ww nb3.2 _ (Y4 List.mem_cons_self);have n3h:bh≠b3:=nb3.1;have hfl:(s.members.flatMap YK).length=s.members.length*6:=Z3 Yb _;have hsum:(s.members.map fun a=>(YK a).length).sum=s.members.length*6:=by rw[← List.length_flatMap,hfl]
   have hj6:=Wv (n:=s.members.length) (w:=6) hjl (m:=5) (by decide);have g4:∀(K:Value→Prop) (t:Zq K),VP (s.members.flatMap YK) (j*6+4) K t=K (.int .i64 (gr ZS s.members j).owner):=fun K t=>Yq Yb ZS s.members hjl (by decide) rfl K t;refine Wx (by kernel_rfl) rfl ?_;have em2:v.m = .slice (some ⟨bm,0,none⟩) s.members.length cm:=hm;simp -dsimp -implicitDefEqProofs (disch:=first|with_reducible assumption|omega) [go_sem,hj,em2,ZQ nxm,Yg,g4];by_cases c4:(gr ZS s.members j).owner=d.acct
   ·rw[if_pos c4]at hk;refine xx ?_;exact done _ _ hk
   ·rw[if_neg c4]at hk;refine xx ?_;exact done _ _ hk
 ·rw[if_neg c1]at hk;have c11:¬d.kind=3:=fun e=>c1 (Or.inl e);have c12:¬d.kind=4:=fun e=>c1 (Or.inr (Or.inl e));have c13:¬d.kind=7:=fun e=>c1 (Or.inr (Or.inr e));refine xx ?_;exact done _ _ hk
theorem memX {ms:List Zc}{j:Nat}(hj:j<ms.length):(∀(K:Value→Prop) (t:Zq K),VP (ms.flatMap YK) (j*6) K t=K (.int .u64 (gr ZS ms j).bal))∧(∀(K:Value→Prop) (t:Zq K),VP (ms.flatMap YK) (j*6+1) K t=K (.int .u64 (gr ZS ms j).eff)) ∧
  (∀(K:Value→Prop) (t:Zq K),VP (ms.flatMap YK) (j*6+2) K t=K (.int .u64 (gr ZS ms j).score))∧(∀(K:Value→Prop) (t:Zq K),VP (ms.flatMap YK) (j*6+3) K t=K (.int .i64 (gr ZS ms j).streak)) ∧
  (∀(K:Value→Prop) (t:Zq K),VP (ms.flatMap YK) (j*6+4) K t=K (.int .i64 (gr ZS ms j).owner))∧(∀(K:Value→Prop) (t:Zq K),VP (ms.flatMap YK) (j*6+5) K t=K (.int .i64 (gr ZS ms j).status)) :=
 ⟨fun K t=>Yq Yb ZS ms hj (m:=0) (by decide) rfl K t,fun K t=>Yq Yb ZS ms hj (by decide) rfl K t,fun K t=>Yq Yb ZS ms hj (by decide) rfl K t,fun K t=>Yq Yb ZS ms hj (by decide) rfl K t,fun K t=>Yq Yb ZS ms hj (by decide) rfl K t,fun K t=>Yq Yb ZS ms hj (by decide) rfl K t⟩
theorem Yca {bh bm cm:Nat}{ox:Option (Nat×Nat)}{s:Zf}{v:SV}{d:Zd}{bv:Value}(hh:Hd h v s)(few:Zu s)(hd:Zl h bv d)(hm:v.m = .slice (some ⟨bm,0,none⟩) s.members.length cm)(h0:0≤d.mem)(hjl:d.mem.toNat<s.members.length)(hml:s.members.length≤128)(h16:∀m∈s.motions,m.yes.length=16∧m.no.length=16)
  (hk:∀h' v',PH.le h h'→Hd h' v' (VV s d).1→v'.m=v.m→v'.x=v.x→K (.int .i64 (VV s d).2) (hB bh (VV s d).1 v'::oent 3 1 ox (s.exit.map (.int .i64)) (mB bm cm s.members::L)) h') :
  Zb prog 218 [.pointer (some ⟨bh,0,none⟩),Wu d bv] (hB bh s v::oent 3 1 ox (s.exit.map (.int .i64)) (mB bm cm s.members::L)) h K:=by
 obtain⟨x1,y1,rfl,_⟩:=hd.i.open;obtain⟨q,t1,t2,t3⟩:=hh.t;have hql:q.length=s.motions.length:=by rw[← t2,List.length_map]
 have ft:=few.t;have um : -9223372036854775808≤d.mot∧d.mot≤9223372036854775807:=hd.ok.n _ (by simp);refine Z4 func218 rfl (rs:=[_]) rfl rfl ZY (by kernel_rfl) rfl rfl fun ap nd=>?_;obtain⟨hbh,hbm,nxm,nhm,nxh⟩:=Zae ap nd;simp only at hbm nxm nhm hbh;refine xx ?_;refine Z6 fun b3 nb3 zb3=>?_;(try simp only[ZU]at nb3);have n3m:bm≠b3:=Ww nb3.2 _ (Y4 List.mem_cons_self);have n3h:bh≠b3:=nb3.1;have hfl:(s.members.flatMap YK).length=s.members.length*6:=Z3 Yb _;have hsum:(s.members.map fun a=>(YK a).length).sum=s.members.length*6:=by rw[← List.length_flatMap,hfl]
 have hj6:=Wv (n:=s.members.length) (w:=6) hjl (m:=5) (by decide);obtain⟨g0,g1,g2,g3,g4,g5⟩:=memX hjl;refine xx ?_;refine Yr (.tk 0 (.tk 1 (.tk 2 (.tk 3 (.tk 5 (.tkl 4 (.tkl 6 (.tk 7 (.tkl 8 (.o1 9 (.tk 10 (.fin)) (.nil))))))))))) (by kernel_rfl) (by kernel_rfl) _ (Za.refl _ _) ?_;simp -dsimp -implicitDefEqProofs (disch:=first|with_reducible assumption|omega) [go_sem,hm,ZQ nxm,g0,g1,g2,g3,g4,g5];refine UL (gr ZS s.members d.mem.toNat) ?_;refine xkp (Za.refl _ _) ?_;unfold VV at hk;by_cases c1:(gr ZS s.members d.mem.toNat).status=2∨(gr ZS s.members d.mem.toNat).status=3
 ·rw[if_pos c1]at hk;rw[decide_eq_true c1];refine xx ?_;refine Yr (.tk 0 (.tk 1 (.tk 2 (.tk 3 (.tk 5 (.tk 7 (.tk 9 (.tkl 4 (.tkl 6 (.tkl 8 (.tkl 10 (.o1 11 (.tk 12 (.tk 13 (.tk 14 (.tk 15 (.tk 16 (.fin)))))) (.nil))))))))))))) (by kernel_rfl) (by kernel_rfl) _ (Za.refl _ _) ?_;refine xx ?_;refine Zb.ap (Zxt _ t1 t2 t3 (by omega) h16 d.mot d.mem um (by omega) d.yes fun h3 r3 q3 le3 i3 e3 m3 ap=>?_);obtain⟨ra,rc,rfl,_⟩:=i3.open;have ap3:h3 b3=noC∧h3 bh=noC:=⟨ap.1,ap.2.1⟩
  obtain⟨a33,a3h⟩:=ap3;refine xkp (Za.forget le3) ?_;by_cases c2:(GI s.motions d.mot d.mem d.yes).2=0
  ·rw[if_pos c2]at hk;refine xx ?_;rw[c2];exact ZP (ZO (hk h3 _ le3 ((hh.up le3).setT i3 e3 m3) rfl rfl))
  ·rw[if_neg c2]at hk;refine xx ?_;exact ZP (ZO (hk h3 v le3 (hh.up le3) rfl rfl))
 ·rw[if_neg c1]at hk;rw[decide_eq_false c1];refine xx ?_;exact ZP (ZO (hk h v (PH.le_refl _) hh rfl rfl))
theorem Zta {bh bm cm:Nat}{ox:Option (Nat×Nat)}{s:Zf}{v:SV}{d:Zd}{bv:Value}(hh:Hd h v s)(few:Zu s)(hd:Zl h bv d)(hm:v.m = .slice (some ⟨bm,0,none⟩) s.members.length cm)(hx:v.x=ovs ox s.exit.length)(okx:okO ox s.exit.length)(h0:0≤d.mem)(hjl:d.mem.toNat<s.members.length)(hml:s.members.length≤128)
  (hk:∀v' ox',Hd h v' (Vf s d).1→v'.m=v.m→v'.x=ovs ox' (Vf s d).1.exit.length→okO ox' (Vf s d).1.exit.length→K (.int .i64 (Vf s d).2) (hB bh (Vf s d).1 v'::oent 3 1 ox' ((Vf s d).1.exit.map (.int .i64)) (mB bm cm (Vf s d).1.members::L)) h) :
  Zb prog 215 [.pointer (some ⟨bh,0,none⟩),Wu d bv] (hB bh s v::oent 3 1 ox (s.exit.map (.int .i64)) (mB bm cm s.members::L)) h K:=by
 obtain⟨x1,y1,rfl,_⟩:=hd.i.open;have fx:=few.x;refine Z4 func215 rfl (rs:=[_]) rfl rfl ZY (by kernel_rfl) rfl rfl fun ap nd=>?_;obtain⟨hbh,hbm,nxm,nhm,nxh⟩:=Zae ap nd;simp only at hbm nxm nhm hbh;refine xx ?_;refine Z6 fun b3 nb3 zb3=>?_;(try simp only[ZU]at nb3);have n3m:bm≠b3:=Ww nb3.2 _ (Y4 List.mem_cons_self);have n3h:bh≠b3:=nb3.1;have hfl:(s.members.flatMap YK).length=s.members.length*6:=Z3 Yb _;have hsum:(s.members.map fun a=>(YK a).length).sum=s.members.length*6:=by rw[← List.length_flatMap,hfl]
 have hj6:=Wv (n:=s.members.length) (w:=6) hjl (m:=5) (by decide);obtain⟨g0,g1,g2,g3,g4,g5⟩:=memX hjl;refine xx ?_;refine Wx (by kernel_rfl) rfl ?_;simp -dsimp -implicitDefEqProofs (disch:=first|with_reducible assumption|omega) [go_sem,hm,ZQ nxm,g5];unfold Vf at hk;by_cases c1:(gr ZS s.members d.mem.toNat).status=2
 ·rw[if_pos c1]at hk;simp -dsimp -implicitDefEqProofs (disch:=first|with_reducible assumption|omega) [go_sem,hm,ZQ nxm,ZT nxm];refine⟨by omega,?_⟩;rw[Wm (m:=5) Yb ZS s.members hjl (by decide) (a':={ gr ZS s.members d.mem.toNat with status:=3 }) rfl];refine Yr (.tk 0 (.tk 1 (.tk 2 (.tk 3 (.tk 4 (.tk 6 (.tkl 5 (.tkl 7 (.o1 8 (.o1 9 (.tk 10 (.tk 11 (.tk 12 (.o2 13 (.fin) (.nil))))) (.nil)) (.nil)))))))))) (by kernel_rfl) (by kernel_rfl) [⟨b3,177,GY d (.slice x1 d.bits.length y1),34⟩,hB bh s v] (Za.sub (.cons_cons _ (.cons_cons _ (List.nil_sublist _)))) ?_;simp -dsimp -implicitDefEqProofs (disch:=first|with_reducible assumption|omega) [go_sem,hx];refine Z6 fun b5 nb5 zb5=>?_;(try simp only[ZU]at nb5);refine xkp ((Za.tail _ _ _).trans (Za.sub (.cons_cons _ (.cons_cons _ (List.nil_sublist _))))) ?_;simp -dsimp -implicitDefEqProofs (disch:=first|with_reducible assumption|omega) [go_sem,hx];refine Z8 (t:=32) (e:=3) (sz:=1) (bytes:=8) (by kernel_rfl) Zem rfl rfl rfl rfl (by decide) [_,_,_] _ ox s.exit.length (s.exit.map (.int .i64)) okx (by simp) (Src.own (b:=b5) (t:=3) (cap:=1) List.mem_cons_self) (m:=1) (news:=[.int .i64 d.mem]) rfl (by intro u hu;simp only[List.mem_singleton]at hu;subst hu;rfl) (by simp [maxLen];omega) (by omega) ?_;intro o' j1 j2 j3;simp only[List.cons_append,List.nil_append]at j2 ⊢;refine xkp ((Za.tail _ _ _).trans (Za.sub (.cons_cons _ (.cons_cons _ (List.nil_sublist _))))) ?_;obtain⟨oa2,oc2,eo2,_⟩:=Yh j1;simp -dsimp -implicitDefEqProofs (disch:=first|with_reducible assumption|omega) [go_sem,eo2];have hold:Zg (gr ZS s.members d.mem.toNat):=hh.mo _ (by rw[Yl hjl];exact List.getElem_mem hjl)
  have hnew:Zg { gr ZS s.members d.mem.toNat with status:=3 }:=⟨hold.u,fun z hz=>by
   simp only[List.mem_cons,List.not_mem_nil,or_false]at hz;rcases hz with rfl|rfl|rfl
   ·exact hold.n _ (by simp)
   ·exact hold.n _ (by simp)
   ·omega⟩
  have hHd:Hd h { v with x := .slice oa2 (s.exit.length+1) oc2 } { s with members:=s.members.set d.mem.toNat { gr ZS s.members d.mem.toNat with status:=3 },exit:=s.exit++[d.mem] } :=
   ⟨⟨hh.ok.p,hh.ok.u,hh.ok.n⟩,hh.p,⟨_,_,by simp only[List.length_set];exact hm⟩,fun x hx=>(List.mem_or_eq_of_mem_set hx).elim (hh.mo x) (fun e=>e ▸ hnew),hh.e,⟨oa2,oc2,by simp only[List.length_append,List.length_cons,List.length_nil]⟩,hh.o,hh.oo,hh.d,hh.dd,hh.t,hh.k,hh.r⟩
  have hlen:(s.exit++[d.mem]).length=s.exit.length+1:=by simp
  have:=hk { v with x := .slice oa2 (s.exit.length+1) oc2 } o' hHd rfl (by simp only[hlen];exact eo2.symm) (by simp only[hlen];exact j1);simp only[List.map_append,List.map_cons,List.map_nil]at this;exact ZP (ZP (ZO this))
 ·rw[if_neg c1]at hk;refine xx ?_;exact ZP (ZO (hk v ox hh rfl hx okx))
theorem Zqt (s:Zf)(d:Zd):(Gb s d).1.members=s.members∧(Gb s d).1.exit=s.exit:=by
 unfold Gb
 repeat' split
 all_goals exact⟨rfl,rfl⟩
theorem Zdk (s:Zf)(d:Zd):(VU s d).1.members=s.members∧(VU s d).1.exit=s.exit:=by
 unfold VU
 repeat' split
 all_goals exact⟨rfl,rfl⟩
theorem Zlv (s:Zf)(d:Zd):(VT s d).1.members=s.members∧(VT s d).1.exit=s.exit:=by
 unfold VT
 repeat' split
 all_goals exact⟨rfl,rfl⟩
theorem Zwi (s:Zf)(d:Zd):(Zmx s d).1.members=s.members∧(Zmx s d).1.exit=s.exit:=by
 unfold Zmx
 repeat' split
 all_goals exact⟨rfl,rfl⟩
theorem Zkw (s:Zf)(d:Zd):(VV s d).1.members=s.members∧(VV s d).1.exit=s.exit:=by
 unfold VV
 repeat' split
 all_goals exact⟨rfl,rfl⟩
theorem Zgb (s:Zf)(d:Zd):(Vf s d).1.members.length=s.members.length:=by
 unfold Vf;split
 ·exact List.length_set
 ·rfl
theorem Zth {e sz:Nat}{o:Option (Nat×Nat)}{xs:List Value}{X Y:Own}(hp:X.Perm Y):(oent e sz o xs X).Perm (oent e sz o xs Y):=by
 cases o with
 | none=>exact hp
 | some p=>exact hp.cons _
theorem Vl (x y:Zo)(e1 s1 e2 s2:Nat)(o1 o2:Option (Nat×Nat))(x1 x2:List Value)(L:Own):(x::y::oent e1 s1 o1 x1 (oent e2 s2 o2 x2 L)).Perm (y::oent e1 s1 o1 x1 (oent e2 s2 o2 x2 (x::L))) :=
 (List.Perm.swap _ _ _).trans (List.Perm.cons _ ((Zgj e1 s1 o1 x1 [x] _).trans (Zth (Zgj e2 s2 o2 x2 [x] L))))
theorem Zoy {s:Zf}{d:Zd}(hk:d.kind=3∨d.kind=4∨d.kind=7)(h0:Yav s d=0):0≤d.mem∧d.mem.toNat<s.members.length:=by
 unfold Yav at h0;rw[if_pos hk]at h0;split at h0
 ·exact absurd h0 (by decide)
 ·omega
theorem Ydd {bh:Nat}{ox om:Option (Nat×Nat)}{s:Zf}{v:SV}{d:Zd}{bv:Value}(hh:Hd h v s)(few:Zu s)(hd:Zl h bv d)(hm:v.m=ovs om s.members.length)(okm:okO om s.members.length)(hx:v.x=ovs ox s.exit.length)(okx:okO ox s.exit.length)
  (hml:s.members.length≤128) (h16:∀m∈s.motions,m.yes.length=16∧m.no.length=16) (ht:s.treas+s.par.bond≤18446744073709551615) (hkd:1≤d.kind∧d.kind≤7)
  (hk:∀h' v' ox',PH.le h h'→Hd h' v' (doP s d).1→v'.m=ovs om (doP s d).1.members.length→v'.x=ovs ox' (doP s d).1.exit.length→okO ox' (doP s d).1.exit.length→(doP s d).1.members.length=s.members.length→K (.int .i64 (doP s d).2) (Zbs bh ox' om (doP s d).1 v' L) h') :
  Zb prog 104 [.pointer (some ⟨bh,0,none⟩),Wu d bv] (Zbs bh ox om s v L) h K:=by
 have hd0:=hd;obtain⟨x1,y1,rfl,_⟩:=hd.i.open;have endK:∀(t:Zf×Int) h' v',doP s d=t→PH.le h h'→Hd h' v' t.1→v'.m=v.m→v'.x=v.x→t.1.members=s.members∧t.1.exit=s.exit→K (.int .i64 t.2) (hB bh t.1 v'::oent 3 1 ox (s.exit.map (.int .i64)) (oent 73 6 om (s.members.flatMap YK) L)) h':=fun t h' v' e le a1 a2 a3 a4=>by
  rw[e]at hk;have:=hk h' v' ox le a1 (by rw[a2,hm,a4.1]) (by rw[a3,hx,a4.2]) (by rw[a4.2];exact okx) (by rw[a4.1])
  rwa [Zbs,a4.1,a4.2]at this
 refine Z4 func104 rfl (rs:=[_]) rfl rfl ZY (by kernel_rfl) rfl rfl fun ap nd=>?_;have hbh:h bh=noC:=ap.1;clear ap nd;refine xx ?_;refine Z6 fun b3 nb3 zb3=>?_;(try simp only[ZU]at nb3);have ne3:bh≠b3:=nb3.1;refine xx ?_;refine Zb.fin (Zb.weaken (Za.perm h (List.Perm.swap _ _ _)) (Zhz hh.p hd0 ⟨_,_,Za.perm h (List.Perm.swap _ _ _),?_⟩));refine xx ?_;by_cases c1:Yhf s d=0
 case neg =>
  have e:doP s d=(s,Yhf s d):=by rw[doP,if_pos c1]
  refine xx ?_;exact ZP (ZO (endK _ h v e (PH.le_refl _) hh rfl rfl ⟨rfl,rfl⟩))
 rw[c1];refine xx ?_;refine Zb.fin (Zb.weaken (Za.perm h (Vl _ _ _ _ _ _ _ _ _ _ _)) (Zly hd0 hm okm (by omega) ⟨_,_,Za.perm h (Vl _ _ _ _ _ _ _ _ _ _ _).symm,?_⟩));refine xx ?_;by_cases c2:Yav s d=0
 case neg =>
  have e:doP s d=(s,Yav s d):=by rw[doP,if_neg (by simp [c1]),if_pos c2]
  refine xx ?_;exact ZP (ZO (endK _ h v e (PH.le_refl _) hh rfl rfl ⟨rfl,rfl⟩))
 rw[c2];refine xx ?_;have edo:doP s d=if d.kind=1 then Gb s d else if d.kind=2∨d.kind=3 then VU s d else if d.kind=4 then Vf s d else if d.kind=5 then VT s d else if d.kind=6 then Zmx s d else VV s d:=by
  rw[doP,if_neg (by simp [c1]),if_neg (by simp [c2])]
 by_cases k1:d.kind=1
 ·rw[if_pos k1]at edo;refine xx ?_;refine Zb.fin (Zb.weaken (Za.perm h (List.Perm.swap _ _ _)) (Zzu hh few hd0 fun h2 v2 le2 g1 g2 g3=>⟨_,_,(Za.perm h2 (List.Perm.swap _ _ _)).trans (Za.tail _ _ _),?_⟩));refine xx ?_;exact ZO (endK _ h2 v2 edo le2 g1 g2 g3 (Zqt s d))
 rw[if_neg k1]at edo;refine xx ?_;by_cases k2:d.kind=2
 ·rw[if_pos (Or.inl k2)]at edo;refine xx ?_;refine Zb.fin (Zb.weaken (Za.perm h (List.Perm.swap _ _ _)) (Zgq hh few hd0 fun h2 v2 le2 g1 g2 g3=>⟨_,_,(Za.perm h2 (List.Perm.swap _ _ _)).trans (Za.tail _ _ _),?_⟩));refine xx ?_;exact ZO (endK _ h2 v2 edo le2 g1 g2 g3 (Zdk s d))
 refine xx ?_;by_cases k3:d.kind=3
 ·rw[if_pos (Or.inr k3)]at edo;refine xx ?_;refine Zb.fin (Zb.weaken (Za.perm h (List.Perm.swap _ _ _)) (Zgq hh few hd0 fun h2 v2 le2 g1 g2 g3=>⟨_,_,(Za.perm h2 (List.Perm.swap _ _ _)).trans (Za.tail _ _ _),?_⟩));refine xx ?_;exact ZO (endK _ h2 v2 edo le2 g1 g2 g3 (Zdk s d))
 rw[if_neg (by omega)]at edo;refine xx ?_;have some_of:d.kind=4∨d.kind=7→∃bm cm,om=some (bm,cm):=fun q=>by
  have hin:=Zoy (Or.inr q) c2
  cases om with
  | none=>have:s.members.length=0:=okm;omega
  | some p=>exact⟨_,_,rfl⟩
 by_cases k4:d.kind=4
 ·rw[if_pos k4]at edo;obtain⟨bm,cm,rfl⟩:=some_of (Or.inl k4);have hin:=Zoy (Or.inr (Or.inl k4)) c2;refine xx ?_;refine Zb.fin (Zb.weaken (Za.perm h (Vl _ _ _ _ _ _ _ _ _ _ _)) (Zta (ox:=ox) hh few hd0 hm hx okx hin.1 hin.2 hml fun v2 ox2 g1 g2 g3 g4=>⟨_,_,(Za.perm h (Vl _ _ _ _ _ _ _ (some (bm,cm)) _ _ _).symm).trans (Za.tail _ _ _),?_⟩));refine xx ?_;rw[edo]at hk;exact ZO (hk h v2 ox2 (PH.le_refl _) g1 (by rw[g2,hm,Zgb]) g3 g4 (Zgb s d))
 rw[if_neg k4]at edo;refine xx ?_;by_cases k5:d.kind=5
 ·rw[if_pos k5]at edo;refine xx ?_;refine Zb.fin (Zb.weaken (Za.perm h (List.Perm.swap _ _ _)) (Ybs hh few hd0 fun h2 v2 le2 g1 g2 g3=>⟨_,_,(Za.perm h2 (List.Perm.swap _ _ _)).trans (Za.tail _ _ _),?_⟩));refine xx ?_;exact ZO (endK _ h2 v2 edo le2 g1 g2 g3 (Zlv s d))
 rw[if_neg k5]at edo;refine xx ?_;by_cases k6:d.kind=6
 ·rw[if_pos k6]at edo;refine xx ?_;refine Zb.fin (Zb.weaken (Za.perm h (List.Perm.swap _ _ _)) (Zxr hh few hd0 ht fun h2 v2 le2 g1 g2 g3=>⟨_,_,(Za.perm h2 (List.Perm.swap _ _ _)).trans (Za.tail _ _ _),?_⟩));refine xx ?_;exact ZO (endK _ h2 v2 edo le2 g1 g2 g3 (Zwi s d))
 rw[if_neg k6]at edo;refine xx ?_;have k7:d.kind=7:=by omega
 obtain⟨bm,cm,rfl⟩:=some_of (Or.inr k7);have hin:=Zoy (Or.inr (Or.inr k7)) c2;refine Zb.fin (Zb.weaken (Za.perm h (Vl _ _ _ _ _ _ _ _ _ _ _)) (Yca (ox:=ox) hh few hd0 hm hin.1 hin.2 hml h16 fun h2 v2 le2 g1 g2 g3=>⟨_,_,(Za.perm h2 (Vl _ _ _ _ _ _ _ (some (bm,cm)) _ _ _).symm).trans (Za.tail _ _ _),?_⟩));refine xx ?_;exact ZO (endK _ h2 v2 edo le2 g1 g2 g3 (Zkw s d))
theorem Zke (zs:List Int):∀k,k≤zs.length→YP zs k=(zs.take k).sum
 | 0,_=>by simp [YP]
 | k+1,hk=>by
  rw[YP,Zke zs k (by omega),List.take_succ_eq_append_getElem hk,List.sum_append,Yx hk];simp
theorem Zrn (zs:List Int):tot zs=zs.sum:=by
 rw[tot,Zke zs _ (Nat.le_refl _),List.take_length]
theorem Ybx (zs:List Int)(a:Int):tot (zs++[a])=tot zs+a:=by
 rw[Zrn,Zrn,List.sum_append];simp
theorem Yei (xs:List Int){i j:Nat}(v:Int)(hij:j≠i):at0 (xs.set i v) j=at0 xs j:=by
 by_cases hi:i<xs.length
 ·rw[VF _ _ _ _ hi,if_neg (fun e=>hij e)]
 ·rw[List.set_eq_of_length_le (by omega)]
theorem Zbe {xs:List Int}{i:Nat}{v:Int}:∀k,k≤i→YP (xs.set i v) k=YP xs k
 | 0,_=>rfl
 | k+1,hk=>by rw[YP,YP,Zbe k (by omega),Yei xs v (show k≠i by omega)]
theorem Zbm {xs:List Int}{i:Nat}{v:Int}(hi:i<xs.length):∀k,i<k→YP (xs.set i v) k=YP xs k+(v-at0 xs i)
 | k+1,hk=>by
  rw[YP,YP];by_cases c:k=i
  ·subst c;rw[Zbe k (Nat.le_refl _),VF _ _ _ _ hi,if_pos rfl];omega
  ·rw[Zbm hi k (by omega),Yei xs v (by omega:k≠i)];omega
theorem Zrz {xs:List Int}{i:Nat}{v:Int}(hi:i<xs.length):tot (xs.set i v)=tot xs+(v-at0 xs i):=by
 rw[tot,List.length_set,Zbm hi _ hi];rfl
theorem GE {d:Zd}(hr:ZW d=true):(1≤d.kind∧d.kind≤7)∧(0≤d.acct∧d.acct≤63)∧(0≤d.to∧d.to≤63)∧(0≤d.mem∧d.mem≤127)∧(0≤d.mot∧d.mot≤31)∧d.amt≤4611686018427387904∧(0≤d.ep∧d.ep≤1073741824)∧d.bits.length≤32:=by
 simp only[ZW,Bool.and_eq_true,wi_iff,decide_eq_true_eq]at hr;omega
theorem Zfq {d:Zd}(hr:ZW d=true):Yn d (Yi d)=true:=by
 simp only[ZW,Bool.and_eq_true]at hr;exact hr.1.1.1.2
theorem Zvp {d:Zd}(hr:ZW d=true)(h6:d.kind=6):(1≤d.what∧d.what≤4)∧(d.what=1→Ym d.par=true):=by
 simp only[ZW,Bool.and_eq_true]at hr;have h:=hr.2;rw[decide_eq_false (by omega:¬d.kind≠6),Bool.false_or,Bool.and_eq_true,wi_iff,Bool.or_eq_true,decide_eq_true_eq]at h;exact⟨h.1,fun e=>h.2.resolve_left (fun c=>c e)⟩
theorem Zfz {a b:Zd}(hs:Yn a b=true):a.mem=b.mem∧a.to=b.to∧a.amt=b.amt∧a.what=b.what∧a.par=b.par:=by
 simp only[Yn,Bool.and_eq_true,decide_eq_true_eq]at hs;exact⟨hs.2.2.1,hs.2.2.2.1,hs.2.2.2.2.1,hs.2.2.2.2.2.2.1,hs.2.2.2.2.2.2.2.1⟩
theorem Zzp {d:Zd}(hr:ZW d=true)(h6:d.kind=6)(h1:d.what≠1):d.par=WD:=by
 have h:=(Zfz (Zfq hr)).2.2.2.2;have e:(Yi d).par=WD:=by
  unfold Yi;rw[if_neg (by omega),if_neg (by omega),if_neg (by omega),if_neg (by omega),if_neg (by omega),if_neg (by omega),if_pos h6,if_neg h1];split<;>rfl
 rw[h,e]
theorem Ygr {d:Zd}(hr:ZW d=true)(h6:d.kind=6)(h1:d.what≠2):d.to=0:=by
 have h:=(Zfz (Zfq hr)).2.1;have e:(Yi d).to=0:=by
  unfold Yi;rw[if_neg (by omega),if_neg (by omega),if_neg (by omega),if_neg (by omega),if_neg (by omega),if_neg (by omega),if_pos h6,if_neg h1];split<;>rfl
 omega
theorem Zii {xs:List Int}{i a:Int}(h0:(Vp xs i a).2=0)(hx:∀z∈xs,z≤4611686018427387904)(ha:0≤a):inP xs i=true∧(Vp xs i a).1.length=xs.length∧(∀z∈(Vp xs i a).1,z≤4611686018427387904)∧tot (Vp xs i a).1=tot xs-a:=by
 have c1:inP xs i=true:=by
  cases c:inP xs i with
  | true=>rfl
  | false=>rw[Vp,c]at h0;exact absurd h0 (by simp)
 have c2:a≤at0 xs i.toNat:=by
  by_cases c:a≤at0 xs i.toNat
  ·exact c
  ·rw[Vp,c1,if_pos rfl,if_neg c]at h0;exact absurd h0 (by simp)
 have e:Vp xs i a=(xs.set i.toNat (at0 xs i.toNat-a),0):=by rw[Vp,c1,if_pos rfl,if_pos c2]
 obtain⟨m,rfl,hm⟩:=Zij c1;rw[e];simp only[Int.toNat_natCast]at c2 ⊢;refine⟨c1,List.length_set,fun z hz=>?_,?_⟩
 ·rcases List.mem_or_eq_of_mem_set hz with hz|rfl
  ·exact hx z hz
  ·have:=hx _ (List.getElem_mem hm);rw[Yx hm]at this;omega
 ·rw[Zrz hm];omega
theorem Ypl {xs:List Int}{i a:Int}(h0:(Zuy xs i a).2=0)(hx:∀z∈xs,z≤4611686018427387904):inP xs i=true∧(Zuy xs i a).1.length=xs.length∧(∀z∈(Zuy xs i a).1,z≤4611686018427387904)∧tot (Zuy xs i a).1=tot xs+a:=by
 have c1:inP xs i=true:=by
  cases c:inP xs i with
  | true=>rfl
  | false=>rw[Zuy,c]at h0;exact absurd h0 (by simp)
 have c2:at0 xs i.toNat+a≤4611686018427387904:=by
  by_cases c:at0 xs i.toNat+a≤4611686018427387904
  ·exact c
  ·rw[Zuy,c1,if_pos rfl,if_neg c]at h0;exact absurd h0 (by simp)
 have e:Zuy xs i a=(xs.set i.toNat (at0 xs i.toNat+a),0):=by rw[Zuy,c1,if_pos rfl,if_pos c2]
 obtain⟨m,rfl,hm⟩:=Zij c1;rw[e];simp only[Int.toNat_natCast]at c2 ⊢;refine⟨c1,List.length_set,fun z hz=>?_,?_⟩
 ·rcases List.mem_or_eq_of_mem_set hz with hz|rfl
  ·exact hx z hz
  ·exact c2
 ·rw[Zrz hm];omega
theorem Yhc {xs:List Int}{f t a:Int}(h0:(Jr xs f t a).2=0)(hx:∀z∈xs,z≤4611686018427387904)(ha:0≤a):(Jr xs f t a).1.length=xs.length∧(∀z∈(Jr xs f t a).1,z≤4611686018427387904)∧tot (Jr xs f t a).1=tot xs:=by
 cases c:inP xs f&&inP xs t with
 | false=>rw[Jr,c]at h0;exact absurd h0 (by simp)
 | true =>
 by_cases c2:(Vp xs f a).2=0
 ·have e:Jr xs f t a=Zuy (Vp xs f a).1 t a:=by rw[Jr,c,if_pos rfl,if_pos c2]
  rw[e]at h0 ⊢;obtain⟨_,a1,a2,a3⟩:=Zii c2 hx ha;obtain⟨_,b1,b2,b3⟩:=Ypl h0 a2;exact⟨by omega,b2,by omega⟩
 ·have e:Jr xs f t a=([],(Vp xs f a).2):=by rw[Jr,c,if_pos rfl,if_neg c2]
  rw[e]at h0;exact absurd h0 c2
theorem fitsS_iff {s:Zf}:YQ s=true↔Ym s.par=true∧wi s.ep 0 1073741824=true∧wi s.calm 0 1073741824=true∧VR s=true∧Wt s=true∧UK s=true∧Vo s=true∧Jm s=true∧WL s=true:=by
 simp only[YQ,Bool.and_eq_true,and_assoc]
theorem purses_iff {s:Zf}:VR s=true↔(1≤s.purses.length∧s.purses.length≤64)∧∀z∈s.purses,z≤4611686018427387904:=by
 simp only[VR,Bool.and_eq_true,wi_iff,List.all_eq_true,decide_eq_true_eq];exact and_congr (by omega) Iff.rfl
theorem acct_iff {s:Zf}{i:Int}:W8 s i=true↔0≤i∧i<s.purses.length:=by
 rw[W8,wi_iff];omega
theorem inP_iff {xs:List Int}{i:Int}:inP xs i=true↔0≤i∧i<xs.length:=by
 simp only[inP,Bool.and_eq_true,decide_eq_true_eq]
theorem Zbz {s:Zf}{xs:List Int}{pl:List Zn}{ms:List Zm}{tr:Int}(hf:YQ s=true)(hl:xs.length=s.purses.length)(hz:∀z∈xs,z≤4611686018427387904)(hp1:pl.length≤256)(hp2:∀d∈pl,UR s d=true)(hm1:ms.length≤32)(hm2:∀m∈ms,(W9 m&&W8 s m.acct&&W8 s m.to)=true)
  (ht:tot xs+tot (pl.map Zn.amt)+tr=tot s.purses+tot (s.pool.map Zn.amt)+s.treas):YQ { s with purses:=xs,pool:=pl,motions:=ms,treas:=tr }=true:=by
 obtain⟨f1,f2,f3,f4,f5,f6,f7,f8,f9⟩:=fitsS_iff.1 hf;have ea:∀i,W8 { s with purses:=xs,pool:=pl,motions:=ms,treas:=tr } i=W8 s i:=fun i=>by simp only[W8,hl]
 refine fitsS_iff.2 ⟨f1,f2,f3,purses_iff.2 ⟨?_,hz⟩,?_,?_,?_,f8,?_⟩
 ·simp only[hl];exact(purses_iff.1 f4).1
 ·simp only[Wt,ea];exact f5
 ·have ed:∀d,UR { s with purses:=xs,pool:=pl,motions:=ms,treas:=tr } d=UR s d:=fun d=>by simp only[UR,ea]
  have ed2:Zcu { s with purses:=xs,pool:=pl,motions:=ms,treas:=tr }=Zcu s:=by
   unfold Zcu;refine congrArg (fun p=>List.all _ p) (funext fun k=>?_);simp only[Zkz,G6,ea]
  simp only[UK,Bool.and_eq_true,decide_eq_true_eq,List.all_eq_true]at f6 ⊢;exact⟨⟨hp1,fun d hd=>by rw[ed];exact hp2 d hd⟩,by rw[ed2];exact f6.2⟩
 ·simp only[Vo,Bool.and_eq_true,decide_eq_true_eq,List.all_eq_true,ea];refine⟨hm1,fun m hm=>?_⟩;have:=hm2 m hm;simp only[Bool.and_eq_true]at this;exact this
 ·simp only[WL,Bool.and_eq_true,decide_eq_true_eq]at f9 ⊢;refine⟨f9.1,?_⟩;have h9:=f9.2;simp only[Zpg,Zkd,Zmt,Ga,Zmr]at h9 ⊢;omega
theorem Uy {s:Zf}(hf:YQ s=true):s.pool.length≤256∧∀d∈s.pool,UR s d=true:=by
 have f6:=(fitsS_iff.1 hf).2.2.2.2.2.1;simp only[UK,Bool.and_eq_true,decide_eq_true_eq,List.all_eq_true]at f6;exact f6.1
theorem V9 {s:Zf}(hf:YQ s=true):s.motions.length≤32∧∀m∈s.motions,(W9 m&&W8 s m.acct&&W8 s m.to)=true:=by
 have f7:=(fitsS_iff.1 hf).2.2.2.2.2.2.1;simp only[Vo,Bool.and_eq_true,decide_eq_true_eq,List.all_eq_true]at f7 ⊢;exact f7
theorem Yax {s:Zf}{d:Zd}(hf:YQ s=true)(ha:0≤d.amt)(h0:(Gb s d).2=0):YQ (Gb s d).1=true:=by
 have f4:=purses_iff.1 (fitsS_iff.1 hf).2.2.2.1;unfold Gb at h0 ⊢;by_cases c:(Jr s.purses d.acct d.to d.amt).2=0
 ·rw[if_pos c];obtain⟨a1,a2,a3⟩:=Yhc c f4.2 ha;exact Zbz hf a1 a2 (Uy hf).1 (Uy hf).2 (V9 hf).1 (V9 hf).2 (by rw[a3])
 ·rw[if_neg c]at h0;exact absurd h0 c
theorem Zuk {s:Zf}{d:Zd}(hf:YQ s=true)(ha:0≤d.amt)(hk:d.kind=2∨d.kind=3∧0≤d.mem∧d.mem<s.members.length)(h0:(VU s d).2=0):YQ (VU s d).1=true:=by
 have f4:=purses_iff.1 (fitsS_iff.1 hf).2.2.2.1;unfold VU at h0 ⊢;split at h0
 ·exact absurd h0 (by simp)
 rename_i c1;rw[if_neg c1];split at h0
 ·rename_i c2;rw[if_pos c2];split at h0
  ·rename_i c3;rw[if_pos c3];obtain⟨a0,a1,a2,a3⟩:=Zii c2 f4.2 ha;have e:Zlc s.pool ⟨d.acct,d.mem,d.amt,decide (d.kind=2)⟩=(s.pool++[⟨d.acct,d.mem,d.amt,decide (d.kind=2)⟩],0)∧Zcy ⟨d.acct,d.mem,d.amt,decide (d.kind=2)⟩=true∧s.pool.length<256:=by
    unfold Zlc at c3 ⊢;split at c3
    ·rename_i q1;split at c3
     ·rename_i q2;exact⟨by rw[if_pos q1,if_pos q2],q1,q2⟩
     ·exact absurd c3 (by simp)
    ·exact absurd c3 (by simp)
   obtain⟨e1,e2,e3⟩:=e;rw[e1];obtain⟨i1,i2⟩:=inP_iff.1 a0;refine Zbz hf a1 a2 (by simp;omega) (fun x hx=>?_) (V9 hf).1 (V9 hf).2 ?_
   ·rcases List.mem_append.1 hx with hx|hx
    ·exact(Uy hf).2 x hx
    ·rw[List.mem_singleton.1 hx];simp only[UR,Bool.and_eq_true];refine⟨⟨e2,acct_iff.2 ⟨i1,i2⟩⟩,?_⟩;rcases hk with hk | ⟨hk,m1,m2⟩
     ·simp [hk]
     ·rw[Bool.or_eq_true];exact Or.inr (wi_iff.2 ⟨m1,by omega⟩)
   ·simp only[List.map_append,List.map_cons,List.map_nil,Ybx,a3];omega
  ·rename_i c3;exact absurd h0 c3
 ·rename_i c2;exact absurd h0 c2
theorem Zna {l:List Zc}{j:Nat}(hj:j<l.length)(m:Zc)(k:Nat):gr ZS (l.set j m) k=if k=j then m else gr ZS l k:=by
 simp only[gr,List.getD_eq_getElem?_getD,List.getElem?_set];by_cases e:k=j
 ·subst e;simp [hj]
 ·rw[if_neg (fun c=>e c.symm),if_neg e]
theorem Zct {l:List Zc}{j:Nat}(hj:j<l.length)(m:Zc)(st:Int):∀k,Zms (l.set j m) st k+(if j<k∧(gr ZS l j).status=st then 1 else 0)=Zms l st k+(if j<k∧m.status=st then 1 else 0)
 | 0=>by simp [Zms]
 | k+1=>by
  have ih:=Zct hj m st k;simp only[Zms,Zna hj];by_cases e:k=j
  ·subst e;simp only[Nat.lt_irrefl,false_and,if_false,Nat.lt_succ_self,true_and,if_true]at ih ⊢;omega
  ·rw[if_neg e];by_cases c:j<k
   ·have c':j<k+1:=by omega
    simp only[c,c',true_and]at ih ⊢;omega
   ·have c':¬j<k+1:=by omega
    simp only[c,c',false_and,if_false]at ih ⊢;omega
theorem Zjw {s:Zf}{l:List Int}{st:Int}(h:Yip s l st=true){j:Nat}(hj:j<s.members.length)(e:(gr ZS s.members j).status=st):(j:Int)∈l:=by
 rw[Yip,List.all_eq_true]at h;have:=h j (List.mem_range.2 hj)
 simpa [e] using this
theorem Zvv {s:Zf}{d:Zd}(hf:YQ s=true)(hm0:0≤d.mem)(hml:d.mem<s.members.length)(h0:(Vf s d).2=0):YQ (Vf s d).1=true:=by
 obtain⟨f1,f2,f3,f4,f5,f6,f7,f8,f9⟩:=fitsS_iff.1 hf;unfold Vf at h0 ⊢;by_cases c:(gr ZS s.members d.mem.toNat).status=2
 ·rw[if_pos c];have hj:d.mem.toNat<s.members.length:=by omega
  have ej:(d.mem.toNat:Int)=d.mem:=by omega
  generalize d.mem.toNat=j at c hj ej
  have hmem:gr ZS s.members j∈s.members:=by rw[Yl hj];exact List.getElem_mem hj
  refine fitsS_iff.2 ⟨f1,f2,f3,f4,?_,?_,f7,?_,?_⟩
  ·simp only[Wt,Bool.and_eq_true,decide_eq_true_eq,List.all_eq_true,Ycz]at f5 ⊢;obtain⟨⟨⟨g1,g2⟩,g3,g4⟩,g5,g6⟩:=f5;refine⟨⟨⟨by rw[List.length_set];exact g1,fun x hx=>?_⟩,?_,?_⟩,?_,?_⟩
   ·rcases List.mem_or_eq_of_mem_set hx with hx|rfl
    ·exact g2 x hx
    ·have:=g2 _ hmem;refine⟨?_,this.2⟩;have h1:=this.1;simp only[Vv,Uu,Zba,Zmu,c]at h1 ⊢;exact h1
   ·refine G4 fun k hk e=>?_;simp only[List.length_set]at hk;simp only[Zna hj]at e;split at e
    ·exact absurd e (by simp)
    ·exact Zjw g3 hk e
   ·have:=Zct hj { gr ZS s.members j with status:=3 } 1 s.members.length;simp only[hj,c,true_and,List.length_set]at this ⊢;simp only[(by decide:¬(2:Int)=1),(by decide:¬(3:Int)=1),if_false]at this;omega
   ·refine G4 fun k hk e=>?_;simp only[List.length_set]at hk;simp only[Zna hj]at e;split at e
    ·rename_i ek;subst ek;rw[ej];simp
    ·exact List.mem_append_left _ (Zjw g5 hk e)
   ·have:=Zct hj { gr ZS s.members j with status:=3 } 3 s.members.length;simp only[hj,c,true_and,List.length_set,List.length_append,List.length_cons,List.length_nil]at this ⊢;simp only[(by decide:¬(2:Int)=3),if_false,if_true]at this;omega
  ·have ed:∀x,UR { s with members:=s.members.set j { gr ZS s.members j with status:=3 },exit:=s.exit++[d.mem] } x=UR s x:=fun x=>by simp only[UR,W8,List.length_set]
   simp only[UK,Bool.and_eq_true,decide_eq_true_eq,List.all_eq_true]at f6 ⊢;exact⟨⟨f6.1.1,fun x hx=>by rw[ed];exact f6.1.2 x hx⟩,f6.2⟩
  ·simp only[Jm,List.length_set]at f8 ⊢;exact f8
  ·have eb:(s.members.set j { gr ZS s.members j with status:=3 }).map Zc.bal=s.members.map Zc.bal:=by
    apply List.ext_getElem (by simp);intro i h1 h2;simp only[List.getElem_map,List.getElem_set];split
    ·rename_i e;subst e;rw[← Yl (z:=ZS) hj]
    ·rfl
   simp only[WL,Bool.and_eq_true,decide_eq_true_eq,Zpg,Zkd,Zmt,Ga,Zmr,eb]at f9 ⊢;exact⟨f9.1,of_decide_eq_true f9.2⟩
 ·rw[if_neg c]at h0;exact absurd h0 (by simp)
theorem Zef (bs:List Int):UT bs 128=true↔bs.length=16:=by
 simp only[UT,Bool.and_eq_true,decide_eq_true_eq,show G9 128=16 by decide];have e:(!(decide ((128:Int)%8>0)&&decide (at0 bs (bs.length-1)/2 ^ ((128:Int)%8).toNat≠0)))=true:=by
  rw[decide_eq_false (by decide:¬(128:Int)%8>0)];rfl
 simp only[e,and_true];omega
theorem Ypm {bs:List Int}{n:Int}(hb:∀i,0≤at0 bs i∧at0 bs i≤255)(hc:UT bs n=true){i:Nat}(hi:n≤i):Vs bs i=false:=by
 rw[Zyo _ _ hb,Ybu,Bool.and_eq_true,List.all_eq_true]at hc;by_cases c:i<8*bs.length
 ·have:=hc.2 i (List.mem_range.2 c);rw[decide_eq_false (by omega),Bool.false_or,Bool.not_eq_true']at this;exact this
 ·rw[Vs,decide_eq_false (by omega),Bool.false_and]
theorem Zuc {s:Zf}{d:Zd}(hf:YQ s=true)(hk:∀i,0≤at0 s.marks i∧at0 s.marks i≤255)(hb:∀i,0≤at0 d.bits i∧at0 d.bits i≤255)(h0:(VT s d).2=0):YQ (VT s d).1=true:=by
 obtain⟨f1,f2,f3,f4,f5,f6,f7,f8,f9⟩:=fitsS_iff.1 hf;unfold VT at h0 ⊢;split at h0
 ·rename_i c1;rw[if_pos c1];split at h0
  ·rename_i c2;rw[if_pos c2];have c3:(UT s.marks 128&&(decide (0≤(s.members.length:Int))&&decide ((s.members.length:Int)≤128))&&UT d.bits s.members.length)=true:=by
    cases c:(UT s.marks 128&&(decide (0≤(s.members.length:Int))&&decide ((s.members.length:Int)≤128))&&UT d.bits s.members.length) with
    | true=>rfl
    | false=>rw[Zew,c]at c2;exact absurd c2 (by simp)
   rw[Zew,c3,if_pos rfl];simp only[Bool.and_eq_true,decide_eq_true_eq]at c3;obtain⟨⟨k1,k2,k3⟩,k4⟩:=c3;have lx:=(Zef _).1 k1;have ly:d.bits.length≤16:=by
    have k5:=k4;rw[UT,Bool.and_eq_true,decide_eq_true_eq]at k5;have h1:=k5.1.2.2;have h2:=Zqz k3;omega
   refine fitsS_iff.2 ⟨f1,f2,f3,f4,f5,f6,f7,?_,f9⟩;simp only[Jm,Zhv,Bool.and_eq_true,decide_eq_true_eq,List.all_eq_true,Bool.or_eq_true,Bool.not_eq_true']at f8 ⊢;refine⟨⟨⟨f8.1.1.1,(Zef _).2 (by rw[Jc];exact lx)⟩,f8.1.2⟩,fun i hi=>?_⟩;by_cases c:i<s.members.length
   ·exact Or.inl c
   ·refine Or.inr ?_;rw[Yrg hk hb (by omega),(f8.2 i hi).resolve_left c,Bool.false_or];exact Ypm hb k4 (by omega)
  ·rename_i c2;exact absurd h0 c2
 ·exact absurd h0 (by simp)
theorem Zsh {p:Ze}(hr:Ym p=true):1≤p.poll∧p.poll≤1000∧p.bond≤1099511627776:=by
 simp only[Ym,Bool.and_eq_true]at hr;have h:=hr.1.2;simp only[Y9,List.all_cons,List.all_nil,id,Bool.and_eq_true,wi_iff,decide_eq_true_eq,and_true]at h;omega
theorem Yiq {s:Zf}{d:Zd}(hf:YQ s=true)(hr:ZW d=true)(h6:d.kind=6)(hac:Yhf s d=0)(hb0:0≤s.par.bond)(h0:(Zmx s d).2=0):YQ (Zmx s d).1=true:=by
 obtain⟨f1,f2,f3,f4,f5,f6,f7,f8,f9⟩:=fitsS_iff.1 hf;have p4:=purses_iff.1 f4;obtain⟨r1,r2,r3,r4,r5,r6,r7,r8⟩:=GE hr;obtain⟨w1,w2⟩:=Zvp hr h6;unfold Zmx at h0 ⊢;split at h0
 ·rename_i c1;rw[if_pos c1];split at h0
  ·rename_i c2;rw[if_pos c2];obtain⟨a0,a1,a2,a3⟩:=Zii c1 p4.2 hb0;obtain⟨i1,i2⟩:=inP_iff.1 a0;have pp:=Zsh f1;have ep:=wi_iff.1 f2;have hto:W8 s d.to=true:=by
    by_cases c:d.what=2
    ·unfold Yhf at hac;rw[if_neg (by omega)]at hac;split at hac
     ·rename_i q;rw[Bool.and_eq_true,decide_eq_true c,Bool.or_true,Bool.not_true,Bool.false_or]at q;exact acct_iff.2 (inP_iff.1 q.2)
     ·exact absurd hac (by simp)
    ·rw[Ygr hr h6 c];exact acct_iff.2 ⟨by omega,by omega⟩
   have hm:(W9 (VL s.par d s.ep)&&W8 s (VL s.par d s.ep).acct&&W8 s (VL s.par d s.ep).to)=true:=by
    rw[Bool.and_eq_true,Bool.and_eq_true];refine⟨⟨?_,acct_iff.2 ⟨i1,i2⟩⟩,hto⟩;simp only[W9,Va,Ux,VL,Bool.and_eq_true,wi_iff,decide_eq_true_eq];have e16:UT (List.replicate 16 0) 128=true:=by decide
    refine⟨⟨⟨⟨⟨⟨⟨r2,r3⟩,w1⟩,by omega⟩,⟨by omega,by omega⟩,decide_eq_true r6⟩,e16⟩,e16⟩,?_⟩;show (if d.what=1 then Ym d.par else decide (d.par=WD))=true;by_cases e:d.what=1
    ·rw[if_pos e];exact w2 e
    ·rw[if_neg e];exact decide_eq_true (Zzp hr h6 e)
   have hop:(Ge s.par s.motions d s.ep).1=(if atO s.motions=s.motions.length then s.motions++[VL s.par d s.ep] else s.motions.set (atO s.motions) (VL s.par d s.ep))∧atO s.motions≤31:=by
    have g1:(!Ym s.par)=false:=by rw[f1];rfl
    have g2:(!(decide (d.kind=6)&&ZW d))=false:=by rw[hr,decide_eq_true h6];rfl
    have g3:(!wi s.ep 0 1073741824)=false:=by rw[f2];rfl
    unfold Ge at c2 ⊢;rw[g1,g2,g3]at c2 ⊢;simp only[Bool.false_eq_true,if_false]at c2 ⊢;split at c2
    ·exact absurd c2 (by simp)
    ·rename_i q;rw[if_neg q];refine⟨?_,by omega⟩;split<;>rfl
   obtain⟨o1,o2⟩:=hop;have hl:=Ymd s.motions;rw[o1];refine Zbz hf a1 a2 (Uy hf).1 (Uy hf).2 ?_ (fun m hm'=>?_) (by rw[a3];omega)
   ·split
    ·rename_i q;simp only[List.length_append,List.length_cons,List.length_nil];omega
    ·rw[List.length_set];exact(V9 hf).1
   ·split at hm'
    ·rcases List.mem_append.1 hm' with q|q
     ·exact(V9 hf).2 m q
     ·rw[List.mem_singleton.1 q];exact hm
    ·rcases List.mem_or_eq_of_mem_set hm' with q|q
     ·exact(V9 hf).2 m q
     ·rw[q];exact hm
  ·rename_i c2;exact absurd h0 c2
 ·rename_i c1;exact absurd h0 c1
theorem Yeb {s:Zf}{d:Zd}(hf:YQ s=true)(h0:(VV s d).2=0):YQ (VV s d).1=true:=by
 obtain⟨m1,m2⟩:=V9 hf;unfold VV at h0 ⊢;split at h0
 ·rename_i c1;rw[if_pos c1];split at h0
  ·rename_i c2;rw[if_pos c2];have hv:GI s.motions d.mot d.mem d.yes=(s.motions.set d.mot.toNat (UE (gr Yj s.motions d.mot.toNat) d.mem d.yes).1,0)∧d.mot.toNat<s.motions.length:=by
    unfold GI at c2 ⊢;split at c2
    ·rename_i q1;rw[if_pos q1];split at c2
     ·rename_i q2;rw[if_pos q2];have:=wi_iff.1 q1;exact⟨rfl,by omega⟩
     ·rename_i q2;exact absurd c2 q2
    ·exact absurd c2 (by simp)
   obtain⟨v1,v2⟩:=hv;rw[v1];refine Zbz hf rfl (purses_iff.1 (fitsS_iff.1 hf).2.2.2.1).2 (Uy hf).1 (Uy hf).2 (by rw[List.length_set];exact m1) (fun m hm=>?_) rfl;rcases List.mem_or_eq_of_mem_set hm with q|q
   ·exact m2 m q
   ·have h2:=m2 (gr Yj s.motions d.mot.toNat) (by rw[Yl v2];exact List.getElem_mem v2);rw[q]
    generalize gr Yj s.motions d.mot.toNat=x at h2
    unfold UE;split
    ·exact h2
    ·split
     ·exact h2
     ·split
      ·simp only[W9,Bool.and_eq_true,Zef]at h2 ⊢;simp only[Zep,List.length_set];exact h2
      ·simp only[W9,Bool.and_eq_true,Zef]at h2 ⊢;simp only[Zep,List.length_set];exact h2
  ·rename_i c2;exact absurd h0 c2
 ·exact absurd h0 (by simp)
theorem Ydb {s:Zf}{d:Zd}(hk:d.kind=3∨d.kind=4∨d.kind=7)(h0:Yav s d=0):0≤d.mem∧d.mem<s.members.length:=by
 unfold Yav at h0;rw[if_pos hk]at h0;split at h0
 ·exact absurd h0 (by simp)
 ·omega
theorem Yfl {s:Zf}{d:Zd}(hf:YQ s=true)(hr:ZW d=true)(ha:0≤d.amt)(hb0:0≤s.par.bond)(hk:∀i,0≤at0 s.marks i∧at0 s.marks i≤255)(hb:∀i,0≤at0 d.bits i∧at0 d.bits i≤255)(h0:(doP s d).2=0):YQ (doP s d).1=true:=by
 unfold doP at h0 ⊢;split at h0
 ·rename_i c;exact absurd h0 c
 rename_i c1;rw[if_neg c1];split at h0
 ·rename_i c;exact absurd h0 c
 rename_i c2;rw[if_neg c2];have c1':Yhf s d=0:=Decidable.not_not.1 c1;have c2':Yav s d=0:=Decidable.not_not.1 c2;split at h0
 ·rename_i k;rw[if_pos k];exact Yax hf ha h0
 rename_i k1;rw[if_neg k1];split at h0
 ·rename_i k;rw[if_pos k];exact Zuk hf ha (k.imp id fun k=>⟨k,Ydb (Or.inl k) c2'⟩) h0
 rename_i k2;rw[if_neg k2];split at h0
 ·rename_i k;rw[if_pos k];have:=Ydb (Or.inr (Or.inl k)) c2';exact Zvv hf this.1 this.2 h0
 rename_i k3;rw[if_neg k3];split at h0
 ·rename_i k;rw[if_pos k];exact Zuc hf hk hb h0
 rename_i k4;rw[if_neg k4];split at h0
 ·rename_i k;rw[if_pos k];exact Yiq hf hr k c1' hb0 h0
 rename_i k5;rw[if_neg k5];exact Yeb hf h0
theorem Zhr {o:Option (Nat×Nat)}{n:Nat}(ho:okO o n):n≤9223372036854775807:=by
 cases o with
 | none=>have:n=0:=ho;omega
 | some p=>have:=ho.2;have:=ho.1;simp only[maxLen]at *;omega
theorem Zsc {e1 sz1 n1 e2 sz2 n2:Nat}{o1 o2:Option (Nat×Nat)}{xs1 xs2:List Value}{L:Own}{h:PH}{K:PK}{v:Value}(ok1:okO o1 n1)(hl1:xs1.length=n1*sz1)(hn1:n1≤9223372036854775807)(ok2:okO o2 n2)(hl2:xs2.length=n2*sz2)(hn2:n2≤9223372036854775807)
  (ap:Ap (oent e1 sz1 o1 xs1 (oent e2 sz2 o2 xs2 [])) h) (nd:Nd (oent e1 sz1 o1 xs1 (oent e2 sz2 o2 xs2 [])))
  (hk:∀h',PH.le h h'→Sl h' (ovs o1 n1) n1 sz1 xs1→Sl h' (ovs o2 n2) n2 sz2 xs2→fin K v L h') (he1:e1≠4294967295:=by first|decide|omega) (he2:e2≠4294967295:=by first|decide|omega):fin K v (oent e1 sz1 o1 xs1 (oent e2 sz2 o2 xs2 L)) h:=by
 have a1:apO o1 [] h:=by
  cases o1 with
  | none=>trivial
  | some p=>exact⟨trivial,ap.1⟩
 have a2:apO o2 [] (GG h o1 xs1):=by
  cases o2 with
  | none=>trivial
  | some q =>
   cases o1 with
   | none=>exact⟨trivial,ap.1⟩
   | some p=>exact⟨trivial,GJ (o:=some p) (Ne.symm nd.1.1) ap.2.1⟩
 have le1:=Ws a1 xs1;have le2:=Ws a2 xs2;obtain⟨L',h',hd,hk⟩:=hk _ (le1.trans le2) ((Vt ok1 hl1 hn1).up le2) (Vt ok2 hl2 hn2);exact⟨L',h',((Wi o1 xs1 _ h he1).trans (Wi o2 xs2 L _ he2)).trans hd,hk⟩
theorem Ylg {e1 s1 e2 s2:Nat}{o1 o2:Option (Nat×Nat)}{x1 x2:List Value}{x:Zo}{L:Own}{h:PH}(ap:Ap (x::oent e1 s1 o1 x1 (oent e2 s2 o2 x2 L)) h)(nd:Nd (x::oent e1 s1 o1 x1 (oent e2 s2 o2 x2 L))) :
  Ap (oent e1 s1 o1 x1 (oent e2 s2 o2 x2 [])) h∧Nd (oent e1 s1 o1 x1 (oent e2 s2 o2 x2 [])):=by
 cases o1 with
 | none =>
  cases o2 with
  | none=>exact⟨trivial,trivial⟩
  | some q=>exact⟨⟨ap.2.1,trivial⟩,⟨trivial,trivial⟩⟩
 | some p =>
  cases o2 with
  | none=>exact⟨⟨ap.2.1,trivial⟩,⟨trivial,trivial⟩⟩
  | some q=>exact⟨⟨ap.2.1,ap.2.2.1,trivial⟩,⟨⟨nd.2.1.1,trivial⟩,trivial,trivial⟩⟩
theorem Zes {e1 s1 e2 s2:Nat}{o1 o2:Option (Nat×Nat)}{x1 x2:List Value}{a b c:Zo}{L:Own}{h:PH}(ap:Ap (oent e1 s1 o1 x1 (oent e2 s2 o2 x2 (a::b::c::L))) h)(nd:Nd (oent e1 s1 o1 x1 (oent e2 s2 o2 x2 (a::b::c::L)))) :
  (h a.b=noC∧h b.b=noC∧h c.b=noC)∧(apB o1 a.b∧apB o1 b.b∧apB o1 c.b)∧apB o2 a.b∧apB o2 b.b∧apB o2 c.b:=by
 cases o1 with
 | none =>
  cases o2 with
  | none=>exact⟨⟨ap.1,ap.2.1,ap.2.2.1⟩,⟨trivial,trivial,trivial⟩,trivial,trivial,trivial⟩
  | some q=>exact⟨⟨ap.2.1,ap.2.2.1,ap.2.2.2.1⟩,⟨trivial,trivial,trivial⟩,Ne.symm nd.1.1,Ne.symm nd.1.2.1,Ne.symm nd.1.2.2.1⟩
 | some p =>
  cases o2 with
  | none=>exact⟨⟨ap.2.1,ap.2.2.1,ap.2.2.2.1⟩,⟨Ne.symm nd.1.1,Ne.symm nd.1.2.1,Ne.symm nd.1.2.2.1⟩,trivial,trivial,trivial⟩
  | some q=>exact⟨⟨ap.2.2.1,ap.2.2.2.1,ap.2.2.2.2.1⟩,⟨Ne.symm nd.1.2.1,Ne.symm nd.1.2.2.1,Ne.symm nd.1.2.2.2.1⟩,Ne.symm nd.2.1.1,Ne.symm nd.2.1.2.1,Ne.symm nd.2.1.2.2.1⟩
theorem Zhw:IntKind.i64.min = -9223372036854775808:=by decide
theorem Zib:IntKind.i64.max=9223372036854775807:=by decide
theorem Hd.ones {v:SV}{s:Zf}(hh:Hd h v s):v.p.oneCell'=true∧v.m.oneCell'=true∧v.e.oneCell'=true∧v.x.oneCell'=true∧v.o.oneCell'=true∧v.d.oneCell'=true∧v.t.oneCell'=true∧v.k.oneCell'=true∧v.r.oneCell'=true:=by
 obtain⟨_,_,e1,_⟩:=hh.p.open;obtain⟨_,_,e2⟩:=hh.m;obtain⟨_,_,e3,_⟩:=hh.e.open;obtain⟨_,_,e4⟩:=hh.x;obtain⟨_,_,e5,_⟩:=hh.o.open;obtain⟨_,_,e6,_⟩:=hh.d.open;obtain⟨_,q,_⟩:=hh.t;obtain⟨_,_,e7,_⟩:=q.open;obtain⟨_,_,e8,_⟩:=hh.k.open;obtain⟨_,r,_⟩:=hh.r;obtain⟨_,_,e9,_⟩:=r.open;rw[e1,e2,e3,e4,e5,e6,e7,e8,e9];exact⟨rfl,rfl,rfl,rfl,rfl,rfl,rfl,rfl,rfl⟩
theorem Hd.st {v:SV}{s:Zf}(hh:Hd h v s)(hm:Zh YK 6 h v.m s.members)(hx:Ints h .i64 v.x s.exit):Zs h v s :=
 ⟨hh.ok,hh.p,hm,hh.mo,hh.e,hx,hh.o,hh.oo,hh.d,hh.dd,hh.t,hh.k,hh.r⟩
theorem Hd.parts {v:SV}{s:Zf}(hs:Hd h v s):0≤Zkd s∧0≤Zmt s∧0≤Ga s∧0≤Zmr s :=
 ⟨Yy fun i=>Vw _ _ (fun x hx=>((hs.mo x hx).u _ (by simp)).1) i,Yy fun i=>(hs.p.word i).1,Yy fun i=>Vw _ _ (fun x hx=>(hs.oo x hx).a.1) i,Yy fun i=>Vw _ _ (fun x hx=>(hs.dd x hx).a.1) i⟩
theorem Hd.use {v:SV}{s:Zf}(hs:Hd h v s)(hf:YQ s=true):s.members.length≤128∧(∀m∈s.motions,m.yes.length=16∧m.no.length=16)∧s.treas+s.par.bond≤18446744073709551615∧0≤s.par.bond:=by
 obtain⟨f1,f2,f3,f4,f5,f6,f7,f8,f9⟩:=fitsS_iff.1 hf;obtain⟨p1,p2,p3,p4⟩:=hs.parts;have ub:0≤s.par.bond∧s.par.bond≤18446744073709551615:=hs.ok.p.1 _ (by simp [Yw]);have pp:=Zsh f1;have u1:0≤s.burn∧s.burn≤18446744073709551615:=hs.ok.u _ (by simp);simp only[WL,Bool.and_eq_true,decide_eq_true_eq]at f9;obtain⟨⟨q1,q2⟩,q3⟩:=f9;have q4:Zkd s+Zmt s+Ga s+Zmr s+s.treas+s.burn=s.gen+s.mint:=by first|exact q3|exact of_decide_eq_true q3
 simp only[Wt,Bool.and_eq_true,decide_eq_true_eq]at f5;refine⟨f5.1.1.1,fun m hm=>?_,by omega,ub.1⟩;have:=(V9 hf).2 m hm;simp only[W9,Bool.and_eq_true,Zef]at this;exact⟨this.1.1.1.1.2,this.1.1.1.2⟩
theorem Ymz {s:Zf}(hf:YQ s=true)(hd:s.dues.length≤34000):Zu s:=by
 obtain⟨f1,f2,f3,f4,f5,f6,f7,f8,f9⟩:=fitsS_iff.1 hf;simp only[Wt,Ycz,Bool.and_eq_true,decide_eq_true_eq]at f5;simp only[Jm,Zhv,Bool.and_eq_true,decide_eq_true_eq,List.all_eq_true,Zef]at f8;have p4:=(purses_iff.1 f4).1;have h1:=Zid s.members 1 s.members.length;have h3:=Zid s.members 3 s.members.length;have h5:=f5.1.1.1;refine⟨by omega,by omega,by omega,by omega,by have:=(Uy hf).1;omega,hd,by have:=(V9 hf).1;omega,by omega,by omega,fun m hm=>?_,fun b hb=>by have:=f8.1.2 b hb;omega⟩;have:=(V9 hf).2 m hm;simp only[W9,Bool.and_eq_true,Zef]at this;omega
theorem Zse {s:Zf}(ho:Zu s):ZJ s:=⟨by have:=ho.p;omega,by have:=ho.m;omega,by have:=ho.e;omega,by have:=ho.x;omega,by have:=ho.o;omega,by have:=ho.d;omega,by have:=ho.t;omega,by have:=ho.r;omega⟩
theorem Zrd {s:Zf}{d:Zd}:∀z∈(doP s d).1.exit,z∈s.exit∨z=d.mem:=by
 unfold doP
 repeat' split
 ·exact fun z hz=>Or.inl hz
 ·exact fun z hz=>Or.inl hz
 ·rw[(Zqt s d).2];exact fun z hz=>Or.inl hz
 ·rw[(Zdk s d).2];exact fun z hz=>Or.inl hz
 ·unfold Vf;split
  ·intro z hz;rcases List.mem_append.1 hz with hz|hz
   ·exact Or.inl hz
   ·exact Or.inr (List.mem_singleton.1 hz)
  ·exact fun z hz=>Or.inl hz
 ·rw[(Zlv s d).2];exact fun z hz=>Or.inl hz
 ·rw[(Zwi s d).2];exact fun z hz=>Or.inl hz
 ·rw[(Zkw s d).2];exact fun z hz=>Or.inl hz
theorem Yge {s:Zf}{d:Zd}:(doP s d).1.dues=s.dues:=by
 have e1:(Gb s d).1.dues=s.dues:=by unfold Gb;repeat' split<;>rfl
 have e2:(VU s d).1.dues=s.dues:=by
  unfold VU
  repeat' split
  all_goals rfl
 have e3:(Vf s d).1.dues=s.dues:=by unfold Vf;split<;>rfl
 have e4:(VT s d).1.dues=s.dues:=by
  unfold VT
  repeat' split
  all_goals rfl
 have e5:(Zmx s d).1.dues=s.dues:=by
  unfold Zmx
  repeat' split
  all_goals rfl
 have e6:(VV s d).1.dues=s.dues:=by
  unfold VV
  repeat' split
  all_goals rfl
 unfold doP
 repeat' split
 all_goals first|rfl|assumption
def Zbw (s:Zf)(d:Zd):Zf×Int:=if YQ s then (if ZW d then (if (doP s d).2=0 then doP s d else (Ui,(doP s d).2)) else (Ui,80)) else (Ui,291)
theorem Hd.of {u:SV}{s:Zf}{h h':PH}{v:SV}{o ox:Option (Nat×Nat)}(hs:Zs h v s)(hn:Zs h' (Zlo u (.slice none 0 0) (.slice none 0 0)) (noMX s))(ok1:okO o s.members.length)(ok2:okO ox s.exit.length):Hd h' (Zlo u (ovs o s.members.length) (ovs ox s.exit.length)) s:=by
 obtain⟨a,c,e,_⟩:=Yh ok1;obtain⟨a2,c2,e2,_⟩:=Yh ok2;exact⟨⟨hs.ok.p,hs.ok.u,hs.ok.n⟩,hn.p,⟨a,c,e⟩,hs.mo,hn.e,⟨a2,c2,e2⟩,hn.o,hs.oo,hn.d,hs.dd,hn.t,hn.k,hn.r⟩
theorem Yct {s:Zf}{v:SV}{d:Zd}{bv:Value}(hs:Zs h v s)(few:Zu s)(hd:Zl h bv d)
  (hk:∀h' v',PH.le h h'→Zs h' v' (Zbw s d).1→K (.tuple #[stV (Zbw s d).1 v',.int .i64 (Zbw s d).2]) L h') :
  Zb prog 102 [stV s v,Wu d bv] L h K:=by
 have hd0:=hd;obtain⟨pa,pc,ma,mc,ea,ec,xa,xc,oa,oc,da,dc,ta,tc,ka,kc,ra,rc,rfl⟩:=hs.slices;obtain⟨x1,y1,rfl,_⟩:=hd.i.open;refine ZR func102 rfl (rs:=[_,_]) rfl rfl ZY (by kernel_rfl) rfl rfl ?_;refine xx ?_;refine Z6 fun b2 nb2 zb2=>?_;(try simp only[ZU]at nb2);refine xx ?_;refine Z6 fun b3 nb3 zb3=>?_;(try simp only[ZU]at nb3);refine xx ?_;refine Z6 fun b4 nb4 zb4=>?_;(try simp only[ZU]at nb4);refine xx ?_;refine U8 (s:=s) ⟨.slice pa s.purses.length pc,.slice ma s.members.length mc,.slice ea s.entry.length ec,.slice xa s.exit.length xc,.slice oa s.pool.length oc,.slice da s.dues.length dc,.slice ta s.motions.length tc,.slice ka s.marks.length kc,.slice ra s.ring.length rc⟩ hs (Zse few) ?_;unfold Zbw at hk
 cases c1:YQ s with
 | false =>
  rw[c1,if_neg (by decide)]at hk;refine xx ?_;exact ZP (ZP (ZP (ZO (hk h Zge (PH.le_refl _) (V5 h)))))
 | true =>
 rw[c1,if_pos rfl]at hk;refine xx ?_;refine Zb.ap (Zga (d:=d) (.slice x1 d.bits.length y1) hd0 fun h2 le2 ap=>?_);simp only[Ap]at ap;obtain⟨a24,a23,a22,_⟩:=ap
 cases c2:ZW d with
 | false =>
  rw[c2,if_neg (by decide)]at hk;refine xx ?_;exact ZP (ZP (ZP (ZO (hk h2 Zge le2 (V5 h2)))))
 | true =>
 rw[c2,if_pos rfl]at hk;refine xx ?_;refine Zb.apn (Zkm (s:=s) ⟨.slice pa s.purses.length pc,.slice ma s.members.length mc,.slice ea s.entry.length ec,.slice xa s.exit.length xc,.slice oa s.pool.length oc,.slice da s.dues.length dc,.slice ta s.motions.length tc,.slice ka s.marks.length kc,.slice ra s.ring.length rc⟩ (hs.up le2) few fun h5 u om ox le5 ok1 ok2 hn ap5 nd5=>?_);obtain⟨⟨a54,a53,a52⟩,⟨p14,p13,p12⟩,p24,p23,p22⟩:=Zes ap5 nd5;simp only at a54 a53 a52 p14 p13 p12 p24 p23 p22;clear ap5 nd5;refine xx ?_;refine Z6 fun bh n_bh h_bh=>?_;(try simp only[ZU]at n_bh);have nh4:b4≠bh:=Ww n_bh _ (Y4 (Y4 List.mem_cons_self));have nh3:b3≠bh:=Ww n_bh _ (Y4 (Y4 (List.mem_cons_of_mem _ List.mem_cons_self)));have nh2:b2≠bh:=Ww n_bh _ (Y4 (Y4 (List.mem_cons_of_mem _ (List.mem_cons_of_mem _ List.mem_cons_self))));simp -dsimp -implicitDefEqProofs (disch:=first|with_reducible assumption|omega) [go_sem,ZQ p13,ZQ p23];have hh5:=Hd.of (hs.up le2) hn ok1 ok2;have le25:=le2.trans le5;obtain⟨q1,q2,q3,q4⟩:=hh5.use c1;have rf:=GE c2;refine Zb.fin (Zb.apn (Ydd (d:=d) (s:=s) (om:=om) (ox:=ox) hh5 few (hd0.up le25) rfl ok1 rfl ok2 q1 q2 q3 rf.1 fun h6 v6 ox6 le6 g1 g2 g3 g4 g5 ap6 nd6=>⟨_,_,Za.perm h6 (Vl _ _ _ _ _ _ _ _ _ _ _).symm,?_⟩));obtain⟨two1,two2⟩:=Ylg ap6 nd6;have f3:=Zes ap6.2 nd6.2;have a64:h6 b4=noC:=f3.1.1;have a6h:h6 bh=noC:=ap6.1;clear ap6 nd6 f3;have hxr:∀z∈(doP s d).1.exit,-9223372036854775808≤z∧z≤9223372036854775807:=fun z hz=>by
  rcases Zrd z hz with q|q
  ·have:=hs.x.2 z q
   rwa [Zhw,Zib]at this
  ·rw[q];exact hd0.ok.n _ (by simp)
 have okm6:okO om (doP s d).1.members.length:=by rw[g5];exact ok1
 by_cases e:(doP s d).2=0
 case neg =>
  rw[if_neg e]at hk;refine xx ?_;exact ZP (ZP (We (We (ZP (ZP (ZO (hk h6 Zge (le25.trans le6) (V5 h6))))))))
 rw[if_pos e]at hk
 generalize doP s d=R at *
 obtain⟨t,c⟩:=R;simp only at *;subst e;refine xx ?_;refine⟨g1.ones,?_⟩;refine ZP (ZP (Zsc (n1:=t.exit.length) (n2:=t.members.length) g4 (by simp) (Zhr g4) okm6 (by rw[Z3 Yb]) (Zhr okm6) two1 two2 fun h7 le7 sx sm=>ZP (ZP (ZO ?_))));refine hk h7 v6 (le25.trans (le6.trans le7)) (Hd.st (g1.up le7) ?_ ?_)
 ·rw[g2];exact Zh.pub Yb sm
 ·rw[g3];refine⟨by simpa using sx,fun z hz=>?_⟩;rw[Zhw,Zib];exact hxr z hz
end Go.X

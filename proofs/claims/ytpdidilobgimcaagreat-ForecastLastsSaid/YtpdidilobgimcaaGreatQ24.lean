/- Lemmas and contracts. Conditions: as each says. -/
import Derived.Test.YtpdidilobgimcaaGreatQ23
set_option linter.unusedVariables false
set_option linter.unusedSimpArgs false
set_option maxHeartbeats 12800000
set_option maxRecDepth 20000
namespace Go.X
open Go.RowKit Go.Proofs Go.Bl Go.Proofs.Tryz
variable {L:Own} {h:PH} {K:PK}
def WM (p:Zd)(m:Zc):Zc×Bool :=
 if m.status=1∧p.floor<m.bal∧m.bal≤p.cap then ({ m with status:=2,eff:=YX p m.bal,streak:=0 },true) else (m,false)
theorem Zoe (p:Zd)(ok:Zh p)(hr:Yb p=true)(m:Zc)(mo:Ze m)(hk:K (.tuple #[Zxf (WM p m).1,.bool (WM p m).2]) L h):Zb prog 207 [W5 p,Zxf m] L h K:=by
 have hb:0≤m.bal∧m.bal≤18446744073709551615:=mo.u _ (by simp);refine ZR func207 rfl (rs:=[_,_]) rfl rfl ZW (by kernel_rfl) rfl rfl ?_;refine xx ?_;refine Z0 fun b1 nb1 zb1=>?_;(try simp only[ZU]at nb1);refine xx ?_;refine Z0 fun b2 nb2 zb2=>?_;(try simp only[ZU]at nb2);refine xx ?_;refine Z0 fun b3 nb3 zb3=>?_;(try simp only[ZU]at nb3);refine xx ?_;refine WN p ok ?_;rw[if_pos hr];refine xx ?_;by_cases c1:m.status=1
 ·by_cases c2:m.bal≤p.floor
  ·rw[WM,if_neg (by omega)]at hk;refine xx ?_;exact ZO (ZO (ZO (ZP hk)))
  ·by_cases c3:m.bal≤p.cap
   ·rw[WM,if_pos ⟨c1,by omega,c3⟩]at hk;refine xx ?_;refine J3 p ok m.bal hb ?_;rw[if_pos hr];refine xx ?_;exact ZO (ZO (ZO (ZP hk)))
   ·rw[WM,if_neg (by omega)]at hk;refine xx ?_;exact ZO (ZO (ZO (ZP hk)))
 ·rw[WM,if_neg (by omega)]at hk;refine xx ?_;exact ZO (ZO (ZO (ZP hk)))
def J8 (m:Zc)(r:Int):Zc:={ m with status:=r,bal:=0,eff:=0,streak:=0 }
theorem Zrv (m:Zc)(r:Int)(hk:K (.tuple #[Zxf (J8 m r),.int .u64 m.bal]) L h):Zb prog 308 [Zxf m,.int .i64 r] L h K:=by
 refine ZR func308 rfl (rs:=[_,_]) rfl rfl ZW (by kernel_rfl) rfl rfl ?_;refine xx ?_;refine Z0 fun b2 nb2 zb2=>?_;(try simp only[ZU]at nb2);refine xx ?_;refine Z0 fun b4 nb4 zb4=>?_;(try simp only[ZU]at nb4);refine xx ?_;exact ZO (ZO (ZP hk))
def Wj (p:Zd)(m:Zc)(a:Int):Int:=min a (Y8 p.cap m.bal)
def Us (p:Zd)(m:Zc)(a:Int):Zc :=
 if 0<m.bal+Wj p m a∧(m.status=4∨m.status=5) then { m with bal:=m.bal+Wj p m a,status:=1,eff:=0 } else { m with bal:=m.bal+Wj p m a }
theorem G2 (p:Zd)(ok:Zh p)(hr:Yb p=true)(m:Zc)(mo:Ze m)(a:Int)(ha:0≤a∧a≤18446744073709551615)(hs:m.bal+a≤18446744073709551615)(hk:K (.tuple #[Zxf (Us p m a),.int .u64 (a-Wj p m a)]) L h):Zb prog 310 [W5 p,Zxf m,.int .u64 a] L h K:=by
 have hb:0≤m.bal∧m.bal≤18446744073709551615:=mo.u _ (by simp);have hc:0≤p.cap∧p.cap≤18446744073709551615:=ok.w _ (by simp [YA]);refine ZR func310 rfl (rs:=[_,_]) rfl rfl ZW (by kernel_rfl) rfl rfl ?_;refine xx ?_;refine Z0 fun b1 nb1 zb1=>?_;(try simp only[ZU]at nb1);refine xx ?_;refine Z0 fun b2 nb2 zb2=>?_;(try simp only[ZU]at nb2);refine xx ?_;refine Z0 fun b3 nb3 zb3=>?_;(try simp only[ZU]at nb3);refine xx ?_;refine WN p ok ?_;rw[if_pos hr];refine xx ?_;refine GM p.cap m.bal hc hb ?_;refine xx ?_;have hf:0≤Y8 p.cap m.bal:=by unfold Y8;split<;>omega
 refine Zfv a _ ha hf ?_;have e1:min a (Y8 p.cap m.bal)=Wj p m a:=rfl;rw[e1];have h1:0≤Wj p m a∧Wj p m a≤a:=by unfold Wj;omega
 unfold Us at hk;obtain⟨t,ht⟩:∃t,t=Wj p m a:=⟨_,rfl⟩
 rw[← ht]at hk h1 ⊢;refine xx ?_;by_cases c1:0<m.bal+t
 ·by_cases c2:m.status=4
  ·rw[if_pos ⟨c1,Or.inl c2⟩]at hk;refine xx ?_;exact ZO (ZO (ZO (ZP hk)))
  ·by_cases c3:m.status=5
   ·rw[if_pos ⟨c1,Or.inr c3⟩]at hk;refine xx ?_;exact ZO (ZO (ZO (ZP hk)))
   ·rw[if_neg (fun e=>e.2.elim c2 c3)]at hk;refine xx ?_;exact ZO (ZO (ZO (ZP hk)))
 ·rw[if_neg (fun e=>c1 e.1)]at hk;refine xx ?_;exact ZO (ZO (ZO (ZP hk)))
def Zrc (s:Zf)(a:Int):Prop:=tot [s.gen,s.mint,a]≤min s.most 4611686018427387904∧s.treas+a≤18446744073709551615
def Zju (s:Zf)(a:Int):Zf:={ s with mint:=s.mint+a,treas:=s.treas+a }
def zStV:Value := .agg #[.int .u64 0,.int .u64 0,.int .u64 0,.int .u64 0,.int .u64 0,.int .u64 0,.int .u64 0,.int .u64 0,.int .u64 0,.int .u64 0,.int .u64 0,.int .u64 0,.int .u64 0,.int .u64 0,.int .i64 0,.int .i64 0,.int .i64 0,.int .i64 0,.int .i64 0,.int .i64 0,.int .i64 0,.int .i64 0,.int .i64 0,.int .i64 0,.int .u64 0,.int .u64 0,.int .u64 0,.int .u64 0,.int .u64 0,.int .i64 0,.int .i64 0,.bool false,.slice none 0 0,.slice none 0 0,.slice none 0 0,.slice none 0 0,.slice none 0 0,.slice none 0 0,.slice none 0 0,.slice none 0 0,.slice none 0 0]
def Yhl (v:SV):Prop:=v.p.oneCell'=true∧v.m.oneCell'=true∧v.e.oneCell'=true∧v.x.oneCell'=true∧v.o.oneCell'=true∧v.d.oneCell'=true∧v.t.oneCell'=true∧v.k.oneCell'=true∧v.r.oneCell'=true
theorem Zro {s:Zf}(v:SV)(hv:Yhl v)(ok:ZB s)(a:Int)(ha:0≤a∧a≤18446744073709551615)
  (hk:Zrc s a→∀h',PH.le h h'→K (.tuple #[stV (Zju s a) v,.int .i64 0]) L h') (hno:¬Zrc s a→∀h',PH.le h h'→K (.tuple #[zStV,.int .i64 210]) L h'):Zb prog 194 [stV s v,.int .u64 a] L h K:=by
 have h1:0≤s.most∧s.most≤18446744073709551615:=ok.u _ (by simp);have h2:0≤s.gen∧s.gen≤18446744073709551615:=ok.u _ (by simp);have h3:0≤s.mint∧s.mint≤18446744073709551615:=ok.u _ (by simp);have h4:0≤s.treas∧s.treas≤18446744073709551615:=ok.u _ (by simp);unfold Zrc at hk hno;unfold zStV at hno;refine ZR func194 rfl (rs:=[_,_]) rfl rfl ZW (by kernel_rfl) rfl rfl ?_;refine xx ?_;refine Z0 fun b2 nb2 zb2=>?_;(try simp only[ZU]at nb2);refine xx ?_;refine Z0 fun b4 nb4 zb4=>?_;(try simp only[ZU]at nb4);have n4:=nb4.1;clear nb4;refine xx ?_;refine Z0 fun b9 nb9 zb9=>?_;(try simp only[ZU]at nb9);refine xx ?_;refine JP (e:=22) (sz:=1) (o:=some (b9,3)) (n:=3) [] (show 3≤3∧3≤maxLen by decide) rfl (by decide) (fun h5 le5 sl5=>?_) ⟨f178,func178,by decide +kernel,rfl⟩
 have it:Ints h5 .u64 (ovs (some (b9,3)) 3) [s.gen,s.mint,a]:=⟨sl5,fun z hz=>by
  rw[show IntKind.u64.min=0 by decide,show IntKind.u64.max=18446744073709551615 by decide];simp only[List.mem_cons,List.not_mem_nil,or_false]at hz;rcases hz with rfl|rfl|rfl
  ·exact h2
  ·exact h3
  ·exact ha⟩
 refine Zb.ap (G7 _ _ it (by omega) fun ap=>?_);simp only[Ap,List.nil_append]at ap;obtain⟨a4,a2,_⟩:=ap;by_cases c1:tot [s.gen,s.mint,a]≤min s.most 4611686018427387904
 ·rw[decide_eq_true c1];refine xx ?_;refine WD _ _ h4 ha ?_;by_cases c2:s.treas+a≤18446744073709551615
  ·rw[YC c2];have hm:tot [s.gen,s.mint,a]=s.gen+s.mint+a:=by simp [tot,YF,at0]
   have hk:=hk ⟨c1,c2⟩ h5 le5;unfold Zju at hk;refine xx ?_;exact⟨hv,ZO (ZO (ZP hk))⟩
  ·rw[Wh c2];refine xx ?_;exact ZO (ZO (ZP (hno (fun e=>c2 e.2) h5 le5)))
 ·rw[decide_eq_false c1];refine xx ?_;exact ZO (ZO (ZP (hno (fun e=>c1 e.1) h5 le5)))
def Ybg (s:Zf)(a:Int):Prop:=a≤s.treas∧s.burn+a≤18446744073709551615
def Zum (s:Zf)(a:Int):Zf:={ s with burn:=s.burn+a,treas:=s.treas-a }
theorem Zsy {s:Zf}(v:SV)(hv:Yhl v)(ok:ZB s)(a:Int)(ha:0≤a∧a≤18446744073709551615)(hgo:Ybg s a)
  (hk:K (.tuple #[stV (Zum s a) v,.int .i64 0]) L h):Zb prog 200 [stV s v,.int .u64 a] L h K:=by
 have h3:0≤s.burn∧s.burn≤18446744073709551615:=ok.u _ (by simp);have h4:0≤s.treas∧s.treas≤18446744073709551615:=ok.u _ (by simp);obtain⟨c1,c2⟩:=hgo;unfold Zum at hk;refine ZR func200 rfl (rs:=[_,_]) rfl rfl ZW (by kernel_rfl) rfl rfl ?_;refine xx ?_;refine Z0 fun b2 nb2 zb2=>?_;(try simp only[ZU]at nb2);refine xx ?_;refine Z0 fun b4 nb4 zb4=>?_;(try simp only[ZU]at nb4);have n4:=nb4.1;clear nb4;refine xx ?_;refine Znm _ _ h4 ha ?_;rw[if_pos c1];refine xx ?_;refine WD _ _ h3 ha ?_;rw[YC c2];refine xx ?_;exact⟨hv,ZO (ZO (ZP hk))⟩
theorem Yia {o:Option (Nat×Nat)}{n m:Nat}(ho:okO o n)(hm:m≤n):okO o m:=by
 cases o with
 | none=>have:n=0:=ho;show m=0;omega
 | some p=>exact⟨Nat.le_trans hm ho.1,ho.2⟩
open Go.RowKit Go.Bl
theorem Za.sub {L L0:Own}{h:PH}(hs:L0.Sublist L):Za L h L0 h:=fun W hg =>
 ⟨⟨hg.sub,fun e he=>hg.own e (hs.subset he),hg.nodup.sublist (hs.map _),fun e he=>hg.apart e (hs.subset he)⟩,fun e he=>List.mem_map_of_mem (hs.subset he)⟩
theorem Zok {xs:List Int}{bl:Nat}(o:Option (Nat×Nat))(ho:okO o xs.length)(hl:xs.length≤1000)
  (hk:∀o',okO o' xs.length→apO o' L h→K (ovs o' xs.length) (oent 3 1 o' (xs.map (.int .i64)) L) h) :
  Zb prog 307 [.pointer (some ⟨bl,0,none⟩)] (lnB bl o xs.length::lnL o xs L) h K:=by
 obtain⟨a,c,ea,hac⟩:=Z8 ho;refine Z5 func307 rfl (rs:=[_]) rfl rfl ZW (by kernel_rfl) rfl rfl fun ap nd=>?_;have hb:h bl=noC:=ap.1;clear ap nd;refine xx ?_;have hsrc:Src (lnB bl o xs.length::lnL o xs L) h (ovs o xs.length) xs.length (xs.map (.int .i64)):=by
  cases o with
  | none =>
   have h0:xs.length=0:=ho;rw[List.length_eq_zero_iff.1 h0];exact Or.inl ⟨rfl,rfl,rfl⟩
  | some p=>exact Src.own (b:=p.1) (t:=3) (cap:=p.2*1) (by simp [lnL,oent])
 refine Z2 (t:=27) (e:=3) (sz:=1) (bytes:=8) (z:=[.int .i64 0]) (by kernel_rfl) JM rfl rfl rfl rfl (by decide) [] _ none 0 [] rfl rfl hsrc (m:=xs.length) (by simp) (fun u hu=>?_) (by simp [maxLen];omega) (by omega) ?_
 ·obtain⟨w,_,rfl⟩:=List.mem_map.1 hu
  rfl
 intro o1 j1 j2 j3;simp only[List.nil_append,Nat.zero_add]at j1 j2 ⊢;obtain⟨x1,y1,e1,_⟩:=Z8 j1;rw[e1];refine xx ?_;have k1:=hk o1 j1 (YP (ZY j2));rw[e1]at k1;refine⟨_,h,Za.sub ?_,k1⟩;rw[Y5 o1 _ L,Y5 o1 _ (lnB bl o xs.length::lnL o xs L)];refine List.Sublist.append (List.Sublist.refl _) (List.Sublist.cons _ ?_);rw[lnL,Y5 o];exact List.sublist_append_right _ _
theorem Zby {xs:List Int}(v:Value)(hv:Ints h .i64 v xs)(hl:xs.length≤256)(h0:∀z∈xs,0≤z)(hn:xs.Nodup)(m:Int)(hm:0≤m∧m≤9223372036854775807)
  (hk:∀h' r o',PH.le h h'→Ints h' .i64 r (xs.take m.toNat)→okO o' (xs.drop m.toNat).length→apO o' L h'→K (.tuple #[r,ovs o' (xs.drop m.toNat).length]) (oent 3 1 o' ((xs.drop m.toNat).map (.int .i64)) L) h') :
  Zb prog 203 [v,.int .i64 m] L h K:=by
 have hr:=hv.2;have hv0:=hv;obtain⟨va,vc,rfl,hcap,hln,_,hcs⟩:=hv.open;refine ZR func203 rfl (rs:=[_,_]) rfl rfl ZW (by kernel_rfl) rfl rfl ?_;refine xx ?_;refine Znn _ hv0 hl h0 hn fun bl o nb hb ho=>?_;refine xx ?_;refine Znh o ho (by omega) m hm hr fun h1 r le1 it=>?_;have hdl:(xs.drop m.toNat).length≤xs.length:=by rw[List.length_drop];omega
 obtain⟨ys,hys⟩:∃ys,ys=xs.drop m.toNat:=⟨_,rfl⟩
 rw[← hys]at hk hdl ⊢;refine xx ?_;refine Zok (xs:=ys) o (Yia ho hdl) (by omega) fun o' k1 k2=>?_;refine xx ?_;exact ZP (hk h1 r o' le1 it k1 k2)
theorem Zga {e1 sz1 n1 e2 sz2 n2:Nat}{o1 o2:Option (Nat×Nat)}{xs1 xs2:List Value}{L:Own}{h:PH}{K:PK}{v:Value}(ok1:okO o1 n1)(hl1:xs1.length=n1*sz1)(hn1:n1≤9223372036854775807)(ok2:okO o2 n2)(hl2:xs2.length=n2*sz2)(hn2:n2≤9223372036854775807)
  (ha1:apO o1 (oent e2 sz2 o2 xs2 L) h) (ha2:apO o2 L h)
  (hk:∀h',PH.le h h'→Sl h' (ovs o1 n1) n1 sz1 xs1→Sl h' (ovs o2 n2) n2 sz2 xs2→fin K v L h') (he1:e1≠4294967295:=by first|decide|omega) (he2:e2≠4294967295:=by first|decide|omega):fin K v (oent e1 sz1 o1 xs1 (oent e2 sz2 o2 xs2 L)) h:=by
 have a1:apO o1 [] h:=by
  cases o1 with
  | none=>trivial
  | some p=>exact⟨trivial,ha1.2⟩
 have a2:apO o2 [] (Jq h o1 xs1):=by
  cases o2 with
  | none=>trivial
  | some q =>
   cases o1 with
   | none=>exact⟨trivial,ha2.2⟩
   | some p=>exact⟨trivial,Gz (o:=some p) (Ne.symm ha1.1.1) ha2.2⟩
 have le1:=Wa a1 xs1;have le2:=Wa a2 xs2;obtain⟨L',h',hd,hk⟩:=hk _ (le1.trans le2) ((Vc ok1 hl1 hn1).up le2) (Vc ok2 hl2 hn2);exact⟨L',h',((Y1 o1 xs1 _ h he1).trans (Y1 o2 xs2 L _ he2)).trans hd,hk⟩
def U2 (e:Int)(b:Bool)(d:Zg):Bool:=decide (d.at'≤e) == b
def U4 (l:List Zg)(e:Int)(b:Bool)(k:Nat):List Zg:=(l.take k).filter (U2 e b)
theorem Zmy (l:List Zg)(e:Int)(b:Bool)(k:Nat):(U4 l e b k).length≤l.length:=by
 unfold U4;exact Nat.le_trans (List.length_filter_le _ _) (by rw[List.length_take];omega)
theorem Zhn {l:List Zg}{e:Int}{b:Bool}{k:Nat}(hk:k<l.length):U4 l e b (k+1)=U4 l e b k++(if U2 e b (gr ZZ l k) then [gr ZZ l k] else []):=by
 unfold U4;rw[List.take_add_one,List.getElem?_eq_getElem hk,Yc hk,List.filter_append]
 congr 1
 simp only[Option.toList,List.filter]
 cases U2 e b l[k]<;>rfl
theorem Jx (l:List Zg)(e:Int)(b:Bool)(k:Nat):((U4 l e b k).flatMap Yx).length=(U4 l e b k).length*3:=Z1 Yn _
theorem Zwz {l:List Zg}(v:Value)(hv:Zj Yx 3 h v l)(hl:l.length≤34000)(e:Int)
  (hk:∀h' r1 r2,PH.le h h'→Zj Yx 3 h' r1 (l.filter (U2 e true))→Zj Yx 3 h' r2 (l.filter (U2 e false))→K (.tuple #[r1,r2]) L h'):Zb prog 205 [v,.int .i64 e] L h K:=by
 obtain⟨a,c,rfl,hcap,hln,_,hcs⟩:=hv.open;refine ZR func205 rfl (rs:=[_,_]) rfl rfl ZW (by kernel_rfl) rfl rfl ?_;refine xx ?_;refine YJ (γ:=Nat×Option (Nat×Nat)×Option (Nat×Nat)) (0,none,none) (fun q=>q.1≤l.length∧okO q.2.1 (U4 l e true q.1).length∧okO q.2.2 (U4 l e false q.1).length∧apO q.2.1 (oent 156 3 q.2.2 ((U4 l e false q.1).flatMap Yx) L) h∧apO q.2.2 L h)
  (fun q=>[(10,.int .i64 q.1),(9,.int .i64 l.length),(8,.slice a l.length c),(1,.int .i64 e),(4,ovs q.2.1 (U4 l e true q.1).length),(5,ovs q.2.2 (U4 l e false q.1).length)])
  (fun q=>oent 156 3 q.2.1 ((U4 l e true q.1).flatMap Yx) (oent 156 3 q.2.2 ((U4 l e false q.1).flatMap Yx) L)) (fun _=>h) (fun q=>l.length-q.1) ?_ ?_ ?_ ?_
 ·exact⟨Nat.zero_le _,by show (U4 l e true 0).length=0;simp [U4],by show (U4 l e false 0).length=0;simp [U4],trivial,trivial⟩
 ·simp [Ent,List.lookup,Wv,ovs,U4]
 ·exact Za.refl _ _
 rintro⟨k,o1,o2⟩ ⟨i1,i2,i3,i4,i5⟩;simp only at i1 i2 i3 i4 i5 ⊢;have tl:=Zmy l e true k;have dl:=Zmy l e false k;by_cases c1:k<l.length
 ·have ht:=Zhn (e:=e) (b:=true) c1;have hf:=Zhn (e:=e) (b:=false) c1;simp -dsimp -implicitDefEqProofs (disch:=first|with_reducible assumption|omega) [go_sem,↓Zci ZZ (by decide) hcs,Yx];refine Z0 fun b7 nb7 zb7=>?_;(try simp only[ZU]at nb7);have n7:=Yt (Yt nb7);simp -dsimp -implicitDefEqProofs (disch:=first|with_reducible assumption|omega) [go_sem,Yx];by_cases c2:(gr ZZ l k).at'≤e
  ·rw[if_pos (by simp [U2,c2])]at ht;rw[if_neg (by simp [U2,c2]),List.append_nil]at hf;have e3:(U4 l e true k).length+1=(U4 l e true (k+1)).length:=by rw[ht];simp
   simp -dsimp -implicitDefEqProofs (disch:=first|with_reducible assumption|omega) [go_sem,Yx];refine Z0 fun b1 nb1 zb1=>?_;(try simp only[ZU]at nb1);refine xx ?_;refine Z2 (t:=29) (e:=156) (sz:=3) (bytes:=24) (by kernel_rfl) Ud rfl rfl rfl rfl (by decide) [_,_] _ o1 _ _ i2 (Jx l e true k) (Src.own List.mem_cons_self) (m:=1) (news:=Yx (gr ZZ l k)) rfl (by intro u hu;simp only[Yx,List.mem_cons,List.not_mem_nil,or_false]at hu;rcases hu with rfl|rfl|rfl<;>rfl) (by simp [maxLen];omega) (by omega) ?_;intro o1' j1 j2 j3;rw[e3]at j1;rw[e3,show (U4 l e true k).flatMap Yx++Yx (gr ZZ l k)=(U4 l e true (k+1)).flatMap Yx by rw[ht,List.flatMap_append];simp];refine xx ?_;exact⟨k+1,o1',o2,⟨by omega,j1,by rw[hf];exact i3,by rw[hf];exact ZY (ZY j2),i5⟩,by omega,by simp [Ent,List.lookup,hf],by rw[hf];exact(Za.tail _ _ _).trans (Za.tail _ _ _)⟩
  ·rw[if_neg (by simp [U2,c2]),List.append_nil]at ht;rw[if_pos (by simp [U2,c2])]at hf;have e3:(U4 l e false k).length+1=(U4 l e false (k+1)).length:=by rw[hf];simp
   simp -dsimp -implicitDefEqProofs (disch:=first|with_reducible assumption|omega) [go_sem,Yx];refine Z0 fun b1 nb1 zb1=>?_;(try simp only[ZU]at nb1);refine xx ?_;rw[Y5 (e:=156) o1];refine Z2 (t:=29) (e:=156) (sz:=3) (bytes:=24) (by kernel_rfl) Ud rfl rfl rfl rfl (by decide) (_::_::oent 156 3 o1 _ []) _ o2 _ _ i3 (Jx l e false k) (Src.own List.mem_cons_self) (m:=1) (news:=Yx (gr ZZ l k)) rfl (by intro u hu;simp only[Yx,List.mem_cons,List.not_mem_nil,or_false]at hu;rcases hu with rfl|rfl|rfl<;>rfl) (by simp [maxLen];omega) (by omega) ?_;intro o2' j1 j2 j3;rw[e3]at j1;rw[e3,show (U4 l e false k).flatMap Yx++Yx (gr ZZ l k)=(U4 l e false (k+1)).flatMap Yx by rw[hf,List.flatMap_append];simp];simp only[List.cons_append];rw[← Y5 (e:=156) o1];refine xx ?_;have l5:=Zeb (e2:=156) (sz2:=3) (cs2:=(U4 l e false (k+1)).flatMap Yx) (YP i4) (ZY (ZY j2));exact⟨k+1,o1,o2',⟨by omega,by rw[ht];exact i2,j1,l5.1,l5.2⟩,by omega,by simp [Ent,List.lookup,ht],by rw[ht];exact(Za.tail _ _ _).trans (Za.tail _ _ _)⟩
 ·obtain rfl:l.length=k:=by omega
  have e1:U4 l e true l.length=l.filter (U2 e true):=by unfold U4;rw[List.take_length]
  have e2:U4 l e false l.length=l.filter (U2 e false):=by unfold U4;rw[List.take_length]
  have f1:=Jx l e true l.length;have f2:=Jx l e false l.length;rw[e1]at i2 tl f1;rw[e2]at i3 i4 dl f2;rw[e1,e2];obtain⟨x1,y1,q1,_⟩:=Z8 i2;obtain⟨x2,y2,q2,_⟩:=Z8 i3;rw[q1,q2];refine xx ?_;refine Zga (n1:=(l.filter (U2 e true)).length) (n2:=(l.filter (U2 e false)).length) i2 f1 (by omega) i3 f2 (by omega) i4 i5 fun h1 le1 s1 s2=>ZP ?_;have:=hk h1 _ _ le1 (Zj.pub Yn s1) (Zj.pub Yn s2)
  rwa [q1,q2]at this
theorem Zgl {xs:List Int}(v:Value)(hx:Ints h .u8 v xs)(hl:xs.length≤1000)(hk:∀h' r,PH.le h h'→Ints h' .u8 r xs→K r L h'):Zb prog 318 [v] L h K:=by
 have hx0:=hx;obtain⟨a,c,rfl,_⟩:=hx.open;refine ZR func318 rfl (rs:=[_]) rfl rfl ZW (by kernel_rfl) rfl rfl ?_;refine xx ?_;refine Z2 (t:=31) (e:=5) (sz:=1) (bytes:=1) (z:=[.int .u8 0]) (by kernel_rfl) Ynr rfl rfl rfl rfl (by decide) [] _ none 0 [] rfl rfl (Src.known hx0.1) (by simp) (Vu _ _) (by simp [maxLen];omega) (by omega) ?_;intro o k1 k2 k3;simp only[Nat.zero_add,List.nil_append]at k1 k2 ⊢;refine xx ?_;refine YT (n:=xs.length) k1 (by simp) (by omega) k2 fun h1 le1 sl=>ZP (hk h1 _ le1 ⟨sl,hx0.2⟩)
def Zhd (ring:List (List Int))(marks:List Int):List (List Int):=marks::ring.take 7
def QsOk (h:PH)(q:List QS):Prop:=∀p∈q,Ints h .u8 p.1 p.2
theorem Zzo {l:List QS}{marks:List Int}(v u:Value)(hv:Zw h v l)(hu:Ints h .u8 u marks)(hl:l.length≤1000)(hb:∀b∈xsL l,b.length≤1000)(hm:marks.length≤1000)
  (hk:∀h' r q,PH.le h h'→Zw h' r q→xsL q=Zhd (xsL l) marks→K r L h'):Zb prog 217 [v,u] L h K:=by
 have hu0:=hu;obtain⟨a,c,rfl,hcap,hln,_,hcs,hd⟩:=hv.open;obtain⟨ua,uc,rfl,_⟩:=hu.open;refine ZR func217 rfl (rs:=[_]) rfl rfl ZW (by kernel_rfl) rfl rfl ?_;refine xx ?_;refine Zb.ap (Zgl _ hu0 hm fun h1 r1 le1 i1 ap=>?_);obtain⟨xa,xc,rfl,_⟩:=i1.open;refine xx ?_;refine Z0 fun b5 nb5 zb5=>?_;(try simp only[ZU]at nb5);refine xx ?_;refine YJ (γ:=Nat×PH×Option (Nat×Nat)×List QS) (0,h1,some (b5,1),[(.slice xa marks.length xc,marks)])
  (fun q=>q.1≤l.length∧PH.le h1 q.2.1∧okO q.2.2.1 q.2.2.2.length∧apO q.2.2.1 L q.2.1∧xsL q.2.2.2=marks::(xsL l).take (min q.1 7)∧QsOk q.2.1 q.2.2.2)
  (fun q=>[(13,.int .i64 q.1),(12,.int .i64 l.length),(11,.slice a l.length c),(5,ovs q.2.2.1 q.2.2.2.length)])
  (fun q=>oent 31 1 q.2.2.1 (vsL q.2.2.2) L) (fun q=>q.2.1) (fun q=>l.length-q.1) ?_ ?_ ?_ ?_
 ·refine⟨Nat.zero_le _,PH.le_refl _,(show 1≤1∧1≤maxLen by decide),⟨nb5,zb5⟩,by simp [xsL],fun p hp=>?_⟩;rw[List.mem_singleton]at hp;subst hp;exact i1
 ·simp [Ent,List.lookup,Wv,ovs]
 ·exact Za.refl _ _
 rintro⟨k,h2,o,q⟩ ⟨k1,k2,k3,k4,k5,k6⟩;simp only at k1 k2 k3 k4 k5 k6 ⊢;have hxl:(xsL l).length=l.length:=VA l;have hql:q.length=1+min k 7:=by
  rw[← VA q,k5,List.length_cons,List.length_take];omega
 by_cases c1:k<l.length
 ·have hg:=(hd.at c1).up (le1.trans k2);have hcs2:∀j,j<l.length→Yd h2 a j=some (gs l j).1:=(hd.up (le1.trans k2)).open.elim fun a' ⟨cap',e,_,_,_,hc2,_⟩=>by
   cases e
   exact hc2
  have hmem:(gs l k).2∈xsL l:=by rw[Zba c1];exact List.mem_map.2 ⟨_,List.getElem_mem c1,rfl⟩
  have hbl:=hb _ hmem;have htk:(xsL l)[k]?=some (gs l k).2:=Yci c1;obtain⟨x1,y1,e1,_⟩:=Z8 k3;have hlen:∀(K:Value→Prop) (t:Zo K),Zeq prog 3 #[32] (ovs o q.length) K t=K (.int .i64 q.length):=fun K t=>by rw[e1];exact YL (e:=31) (by kernel_rfl) _ _ _
  simp -dsimp -implicitDefEqProofs (disch:=first|with_reducible assumption|omega) [go_sem,idx hcs2,hlen];by_cases c2:k<7
  ·have hm1:min k 7=k:=by omega
   have hm2:min (k+1) 7=k+1:=by omega
   rw[hm1]at k5 hql;simp -dsimp -implicitDefEqProofs (disch:=first|with_reducible assumption|omega) [go_sem,idx hcs2,hlen];refine Zb.ap (Zgl _ hg hbl fun h3 r3 le3 i3 ap=>?_);obtain⟨ya,yc,rfl,_⟩:=i3.open;have k4':=GC k4 ap;refine xx ?_;refine Z0 fun b6 nb6 zb6=>?_;(try simp only[ZU]at nb6);refine xx ?_;refine Z2 (t:=32) (e:=31) (sz:=1) (bytes:=24) (by kernel_rfl) Yfo rfl rfl rfl rfl (by decide) [_] L o q.length (vsL q) k3 (by simp [vsL]) (Src.own List.mem_cons_self) (m:=1) (news:=[.slice ya (gs l k).2.length yc]) rfl (fun u hu=>by simp at hu;subst hu;rfl) (by simp [maxLen];omega) (by omega) ?_;intro o' j1 j2 j3;refine xx ?_;refine⟨k+1,h3,o',q++[(.slice ya (gs l k).2.length yc,(gs l k).2)],⟨by omega,k2.trans le3,by simpa using j1,ZY j2,?_,fun p hp=>?_⟩,by omega,by simp [Ent,List.lookup],?_⟩
   ·rw[hm2,List.take_add_one,htk];simp only[xsL,List.map_append,List.map_cons,List.map_nil]at k5 ⊢;rw[k5]
    rfl
   ·rcases List.mem_append.1 hp with hp|hp
    ·exact(k6 p hp).up le3
    ·rw[List.mem_singleton]at hp;subst hp;exact i3
   ·simp only[vsL,List.map_append,List.map_cons,List.map_nil];exact Za.tail _ _ _
  ·have hm1:min k 7=7:=by omega
   have hm2:min (k+1) 7=7:=by omega
   rw[hm1]at k5 hql;refine xx ?_;exact⟨k+1,h2,o,q,⟨by omega,k2,k3,k4,by rw[hm2];exact k5,k6⟩,by omega,by simp [Ent,List.lookup],Za.refl _ _⟩
 ·obtain rfl:l.length=k:=by omega
  refine xx ?_;obtain⟨x1,y1,e1,_⟩:=Z8 k3;rw[e1]
  try simp -dsimp -implicitDefEqProofs (disch:=first|with_reducible assumption|omega) [go_sem]
  refine YT (n:=q.length) k3 (by simp [vsL]) (by omega) k4 fun h3 le3 sl=>ZP ?_;rw[e1]at sl;refine hk h3 _ q (le1.trans (k2.trans le3)) ⟨sl,fun p hp=>(k6 p hp).up le3⟩ ?_;rw[k5,Zhd]
  congr 1
  by_cases c2:l.length≤7
  ·rw[Nat.min_eq_left c2,List.take_of_length_le (by omega),List.take_of_length_le (by omega)]
  ·rw[Nat.min_eq_right (by omega)]
theorem Zlp {ql:List QM}{ms:List Zm}(v:Value)(hv:Zj Wk 33 h v ql)(hq:ql.map (fun x=>x.2.2)=ms)(hm:Wn h ql)(hl:ql.length≤1000)(hb:∀m∈ms,m.yes.length≤1000∧m.no.length≤1000)
    (hk:∀h' o ql',PH.le h h'→okO o ms.length→apO o L h'→ql'.map (fun x=>x.2.2)=ms→Wn h' ql'→K (ovs o ms.length) (oent 125 33 o (ql'.flatMap Wk) L) h') :
    Zb prog 311 [v] L h K:=by
  have hql:ql.length=ms.length:=by rw[← hq,List.length_map]
  have hv0:=hv;obtain⟨va,vc,rfl,_⟩:=hv.open;refine ZR func311 rfl (rs:=[_]) rfl rfl ZW (by kernel_rfl) rfl rfl ?_;refine xx ?_;refine JU _ hv0 hm hl fun ot ok2 at1=>?_;rw[hql]at ok2 ⊢;obtain⟨mta,mtc,emt,_⟩:=Z8 ok2;rw[emt];refine xx ?_;refine YJ (γ:=Nat×List QM×PH) (0,ql,h)
    (fun q=>q.1≤ms.length∧q.2.1.map (fun x=>x.2.2)=ms∧Wn q.2.2 q.2.1∧PH.le h q.2.2∧apO ot L q.2.2)
    (fun q=>[(9,.int .i64 q.1),(8,.int .i64 ms.length),(3,.slice mta ms.length mtc)])
    (fun q=>oent 125 33 ot (q.2.1.flatMap Wk) L) (fun q=>q.2.2) (fun q=>ms.length-q.1) ?_ ?_ ?_ ?_
  · exact⟨Nat.zero_le _,hq,hm,PH.le_refl _,at1⟩
  · simp [Ent,List.lookup,Wv]
  · exact Za.refl _ _
  rintro⟨k,ql',h6⟩ ⟨k1,k2,k3,k4,k8⟩;simp only at k1 k2 k3 k4 k8 ⊢;have hql':ql'.length=ms.length:=by rw[← k2,List.length_map]
  by_cases c1:k<ms.length
  · obtain ⟨bt,cap,rfl⟩ : ∃ bt cap,ot = some (bt,cap) := by
      cases ot with
      | none=>have:ms.length=0:=ok2;omega
      | some p=>exact⟨_,_,rfl⟩
    simp only[ovs,Value.slice.injEq]at emt;obtain⟨rfl,_,rfl⟩:=emt;have hbt:h6 bt=noC:=k8.2;obtain⟨qk,hqk⟩:∃qk,qk=gr Z4 ql' k:=⟨_,rfl⟩
    have hmem:qk∈ql':=by rw[hqk,Yc (by omega)];exact List.getElem_mem _
    have hmk:Zu h6 qk:=k3 qk hmem;have hmdm:qk.2.2∈ms:=by rw[← k2];exact List.mem_map.2 ⟨qk,hmem,rfl⟩
    obtain⟨vy,vn,md⟩:=qk;have hy:=hmk.y;have hn:=hmk.n;simp only at hy hn;obtain⟨ya,yc,rfl,_⟩:=hy.open;obtain⟨na,nc,rfl,_⟩:=hn.open;simp only at hmdm;have fv:=hb md hmdm;have g31:∀(K:Value→Prop) (t:Zo K),VE (ql'.flatMap Wk) (k*33+31) K t=K (.slice ya md.yes.length yc):=fun K t=>Yq Z6 Z4 ql' (by omega) (by decide) (by rw[← hqk];rfl) K t;have g32:∀(K:Value→Prop) (t:Zo K),VE (ql'.flatMap Wk) (k*33+32) K t=K (.slice na md.no.length nc):=fun K t=>Yq Z6 Z4 ql' (by omega) (by decide) (by rw[← hqk];rfl) K t;have hfl:(ql'.flatMap Wk).length=ms.length*33:=by rw[Z1 Z6,hql']
    rw[Z7];refine xx ?_;refine Ym (.tk 0 (.tk 1 (.tk 2 (.tk 3 (.tk 4 (.tk 5 (.tk 6 (.tk 7 (.tk 10 (.tk 11 (.tk 12 (.tk 13 (.tkl 8 (.tkl 14 (.o1 9 (.o1 15 (.tk 16 (.tk 17 (.o2 18 (.tk 19 (.tk 20 (.o2 21 (.fin) (.nil)))) (.nil)))) (.nil)) (.nil)))))))))))))))) (by kernel_rfl) (by kernel_rfl) _ (Za.refl _ _) ?_;simp -dsimp -implicitDefEqProofs (disch:=first|with_reducible assumption|omega) [go_sem,g31,g32];have hset:∀a ac b bc,((ql'.flatMap Wk).set (k*33+31) (.slice a md.yes.length ac)).set (k*33+32) (.slice b md.no.length bc)=(ql'.set k (.slice a md.yes.length ac,.slice b md.no.length bc,md)).flatMap Wk:=fun a ac b bc=>by
      rw[Wd Z6 Z4 ql' (i:=k) (m:=31) (a':=(.slice a md.yes.length ac,.slice na md.no.length nc,md)) (by omega) (by decide) (by rw[← hqk];rfl)];rw[Wd Z6 Z4 _ (i:=k) (m:=32) (a':=(.slice a md.yes.length ac,.slice b md.no.length bc,md)) (by rw[List.length_set];omega) (by decide) (by rw[Yc (by rw[List.length_set];omega),List.getElem_set_self];rfl),List.set_set]
    have hmd:ms[k]?=some md:=by
      rw[← k2,List.getElem?_map,List.getElem?_eq_getElem (by omega),← Yc (z:=Z4) (by omega),← hqk]
      rfl
    have hmap:∀(a b:Value),(ql'.set k (a,b,md)).map (fun x=>x.2.2)=ms:=fun a b=>by
      rw[List.map_set,k2];apply List.ext_getElem?;intro n;rw[List.getElem?_set];split
      · rename_i e;subst e
        first
        | exact hmd.symm
        | (split
           · exact hmd.symm
           · rw[List.getElem?_eq_none (by omega)])
      · rfl
    repeat' first
      | refine Yf ?_ ?_
      | simp -dsimp -implicitDefEqProofs (disch:=first|with_reducible assumption|omega) [go_sem,g31,g32]
    all_goals
      refine Zb.ap (Wg _ hy (by omega) fun h7 v7 le7 i7 ap=>?_);obtain⟨y1,y2⟩:=ap;obtain⟨wa,wc,rfl,_⟩:=i7.open
      first
      | refine xkp (Za.forget le7) ?_
      | skip
    repeat' first
      | refine Yf ?_ ?_
      | simp -dsimp -implicitDefEqProofs (disch:=first|with_reducible assumption|omega) [go_sem,g31,g32]
      | refine xkp (Za.forget le7) ?_
    all_goals
      refine Zb.ap (Wg _ (hn.up le7) (by omega) fun h8 v8 le8 i8 ap=>?_);obtain⟨z1,z2⟩:=ap;obtain⟨ua,uc,rfl,_⟩:=i8.open
      first
      | refine xkp (Za.forget (le7.trans le8)) ?_
      | skip
    repeat' first
      | refine Yf ?_ ?_
      | simp -dsimp -implicitDefEqProofs (disch:=first|with_reducible assumption|omega) [go_sem,g31,g32]
      | refine xkp (Za.forget (le7.trans le8)) ?_
    all_goals
      have hsum:(ql'.map fun a=>(Wk a).length).sum=ms.length*33:=by rw[← List.length_flatMap,hfl]
      have hk33:=WA (n:=ms.length) (w:=33) c1 (m:=32) (by decide);refine⟨by omega,by omega,k+1,ql'.set k (.slice wa md.yes.length wc,.slice ua md.no.length uc,md),h8,⟨by omega,hmap _ _,fun x hx=>?_,k4.trans (le7.trans le8),⟨k8.1,z1⟩⟩,by omega,by simp [Ent,List.lookup],?_⟩
      · rcases List.mem_or_eq_of_mem_set hx with hx|rfl
        · exact(k3 x hx).up (le7.trans le8)
        · exact⟨i7.up le8,i8,hmk.ok⟩
      · rw[hset];exact Za.refl _ _
  have hkl:k=ms.length:=by omega
  subst hkl;rw[← emt];refine xx ?_;exact ZP (hk h6 ot ql' k4 ok2 k8 k2 k3)
end Go.X

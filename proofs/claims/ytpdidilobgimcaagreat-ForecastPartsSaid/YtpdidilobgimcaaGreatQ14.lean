/- Lemmas and contracts. Conditions: as each says. -/
import Derived.Test.YtpdidilobgimcaaGreatQ13
set_option linter.unusedVariables false
set_option linter.unusedSimpArgs false
set_option maxHeartbeats 12800000
set_option maxRecDepth 20000
namespace Go.X
open Go.RowKit Go.Proofs Go.Bl Go.Proofs.Tryz
variable {L:Own} {h:PH} {K:PK}
def Wh (p:Zd)(b:Int):Int:=min (b-b%p.inc) p.maxEff
def Zzc (p:Zd)(e b:Int):Bool:=decide (b+p.down<e)||decide (e+p.up<b)
def Zao (p:Zd)(e b:Int):Int:=if Zzc p e b then Wh p b else e
def VD (p:Zd)(e b:Int):Bool:=decide (p.inc≤e)&&decide (e≤p.maxEff)&&decide (e%p.inc=0)&&decide (Zao p e b=e)
theorem U8 {p:Zd}(hr:YI p=true):1≤p.inc:=by
 simp only[YI,Bool.and_eq_true]at hr;exact(YO hr.1.1.1).1
theorem Zb.keep {P:Program}{f:FuncId}{args:List Value}{v:Value}(hs:Zb P f args L h fun v' L' h'=>v'=v∧L'=L∧PH.le h h')(hk:K v L h):Zb P f args L h K :=
 hs.forget.mono fun _ _ _ ⟨a,b,c⟩=>by subst a;subst b;subst c;exact hk
theorem WJ (p:Zd)(ok:Zj p)(hk:K (.int .i64 (if YI p then 0 else 70)) L h):Zb prog 59 [Vt p] L h K :=
 Zb.keep (Znu p ok fun _ le=>⟨rfl,rfl,le⟩) hk
theorem UE (p:Zd)(ok:Zj p)(hk:K (.tuple #[Vt p,.bool (YI p)]) L h):Zb prog 274 [Vt p] L h K:=by
 refine ZT func274 rfl (rs:=[_,_]) rfl rfl ZW (by kernel_rfl) rfl rfl ?_;refine xx ?_;refine Z1 fun b1 nb1 zb1=>?_;(try simp only[ZU]at nb1);refine xx ?_;refine Z1 fun b2 nb2 zb2=>?_;(try simp only[ZU]at nb2);refine xx ?_;refine Yn (.tkl 0 (.tk 1 (.o1 2 (.o1 3 (.tk 4 (.o2 5 (.tk 6 (.fin)) (.nil))) (.nil)) (.nil)))) (by kernel_rfl) (by kernel_rfl) _ (Za.refl _ _) ?_;refine xx ?_;refine WJ p ok ?_;refine xkp (Za.refl _ _) ?_
 cases hr:YI p with
 | true =>
  rw[hr]at hk;refine xx ?_;exact ZO (ZO (ZP hk))
 | false =>
  rw[hr]at hk;refine xx ?_;exact ZO (ZO (ZP hk))
theorem Zfo (p:Zd)(b:Int)(h1:1≤p.inc)(hb:0≤b∧b≤18446744073709551615)(hk:K (.int .u64 (Wh p b)) L h):Zb prog 317 [Vt p,.int .u64 b] L h K:=by
 unfold Wh at hk;have e1:=Int.emod_nonneg b (show p.inc≠0 by omega);have e2:b%p.inc≤b:=by
  rw[Int.emod_def];have:=Int.mul_nonneg (show 0≤p.inc by omega) (Int.ediv_nonneg hb.1 (show 0≤p.inc by omega));omega
 refine ZT func317 rfl (rs:=[_]) rfl rfl ZW (by kernel_rfl) rfl rfl ?_;refine xx ?_;refine Z1 fun b1 nb1 zb1=>?_;(try simp only[ZU]at nb1);refine xx ?_;refine Yn (.tk 0 (.tk 1 (.tk 2 (.tk 3 (.tk 7 (.tk 8 (.tkl 4 (.tk 5 (.tk 6 (.tkl 9 (.o1 10 (.tk 11 (.fin)) (.nil)))))))))))) (by kernel_rfl) (by kernel_rfl) _ (Za.refl _ _) ?_;refine xx ?_;exact ZO (ZP hk)
theorem Ygi (p:Zd)(ok:Zj p)(e b:Int)(he:0≤e∧e≤18446744073709551615)(hb:0≤b∧b≤18446744073709551615)(hk:K (.bool (Zzc p e b)) L h):Zb prog 344 [Vt p,.int .u64 e,.int .u64 b] L h K:=by
 have u1:=ok.w p.down (by simp [YF]);have u2:=ok.w p.up (by simp [YF]);refine ZT func344 rfl (rs:=[_]) rfl rfl ZW (by kernel_rfl) rfl rfl ?_;refine xx ?_;refine Z1 fun b1 nb1 zb1=>?_;(try simp only[ZU]at nb1);refine xx ?_;refine Wy _ _ hb u1 ?_;by_cases c1:b+p.down≤18446744073709551615
 ·rw[YA c1];refine xx ?_;refine Wy _ _ he u2 ?_;by_cases c2:e+p.up≤18446744073709551615
  ·rw[YA c2];by_cases c3:b+p.down<e
   ·refine xx ?_;exact ZO (ZP (by simpa [Zzc,c3] using hk))
   ·refine xx ?_;exact ZO (ZP (by simpa [Zzc,c3] using hk))
  ·rw[Wd c2];have c4:¬e+p.up<b:=by omega
   by_cases c3:b+p.down<e
   ·refine xx ?_;exact ZO (ZP (by simpa [Zzc,c3,c4] using hk))
   ·refine xx ?_;exact ZO (ZP (by simpa [Zzc,c3,c4] using hk))
 ·rw[Wd c1];have c3:¬b+p.down<e:=by omega
  refine xx ?_;refine Wy _ _ he u2 ?_;by_cases c2:e+p.up≤18446744073709551615
  ·rw[YA c2];refine xx ?_;exact ZO (ZP (by simpa [Zzc,c3] using hk))
  ·rw[Wd c2];have c4:¬e+p.up<b:=by omega
   refine xx ?_;exact ZO (ZP (by simpa [Zzc,c3,c4] using hk))
theorem Zmw (p:Zd)(ok:Zj p)(h1:1≤p.inc)(e b:Int)(he:0≤e∧e≤18446744073709551615)(hb:0≤b∧b≤18446744073709551615)(hk:K (.int .u64 (Zao p e b)) L h):Zb prog 275 [Vt p,.int .u64 e,.int .u64 b] L h K:=by
 refine ZT func275 rfl (rs:=[_]) rfl rfl ZW (by kernel_rfl) rfl rfl ?_;refine xx ?_;refine Z1 fun b1 nb1 zb1=>?_;(try simp only[ZU]at nb1);refine xx ?_;refine Ygi p ok e b he hb ?_;unfold Zao at hk
 cases c:Zzc p e b with
 | true =>
  rw[c]at hk;refine xx ?_;refine Zfo p b h1 hb ?_;refine xx ?_;exact ZO (ZP (by simpa using hk))
 | false =>
  rw[c]at hk;refine xx ?_;exact ZO (ZP (by simpa using hk))
theorem Zfz (p:Zd)(ok:Zj p)(e b:Int)(he:0≤e∧e≤18446744073709551615)(hb:0≤b∧b≤18446744073709551615)(hk:K (.bool (YI p&&VD p e b)) L h):Zb prog 215 [Vt p,.int .u64 e,.int .u64 b] L h K:=by
 refine ZT func215 rfl (rs:=[_]) rfl rfl ZW (by kernel_rfl) rfl rfl ?_;refine xx ?_;refine Z1 fun b1 nb1 zb1=>?_;(try simp only[ZU]at nb1);refine xx ?_;refine UE p ok ?_
 cases hr:YI p with
 | false =>
  rw[hr]at hk;refine xx ?_;refine Z1 fun b2 nb2 zb2=>?_;(try simp only[ZU]at nb2);refine xx ?_;exact ZO (ZO (ZP (by simpa using hk)))
 | true =>
  have h1:=U8 hr;rw[hr]at hk;refine xx ?_;refine Z1 fun b2 nb2 zb2=>?_;(try simp only[ZU]at nb2);refine xx ?_;by_cases c1:p.inc≤e
  ·by_cases c2:e≤p.maxEff
   ·by_cases c3:e%p.inc=0
    ·refine xx ?_;refine Zmw p ok h1 e b he hb ?_;refine xx ?_;exact ZO (ZO (ZP (by simpa [VD,c1,c2,c3] using hk)))
    ·refine xx ?_;exact ZO (ZO (ZP (by simpa [VD,c1,c2,c3] using hk)))
   ·refine xx ?_;exact ZO (ZO (ZP (by simpa [VD,c1,c2] using hk)))
  ·refine xx ?_;exact ZO (ZO (ZP (by simpa [VD,c1] using hk)))
def Zbg (p:Zd)(m:Zc):Zc:={ m with score:=min m.score p.scoreCap,streak:=min (max m.streak 0) p.streak }
abbrev Znv (m:Zc):Value := .agg #[.int .u64 m.bal,.int .u64 m.eff,.int .u64 m.score,.int .i64 m.streak]
abbrev Zxc (m:Zc):Value := .agg #[.int .u64 m.bal,.int .u64 m.eff,.int .u64 m.score,.int .i64 m.streak,.int .i64 m.owner,.int .i64 m.status]
theorem Zqz (b:Nat)(p:Zd)(m:Zc)(hb:h b=noC)(hk:K (.tuple #[]) (⟨b,337,[.int .u64 m.bal,.int .u64 m.eff,.int .u64 (min m.score p.scoreCap),.int .i64 (min (max m.streak 0) p.streak)]++Zaw p,28⟩::L) h) :
  Zb prog 316 [.pointer (some ⟨b,0,none⟩)] (⟨b,337,[.int .u64 m.bal,.int .u64 m.eff,.int .u64 m.score,.int .i64 m.streak]++Zaw p,28⟩::L) h K:=by
 simp only[List.cons_append,List.nil_append]at hk ⊢;refine ZT func316 rfl (rs:=[]) rfl rfl ZW (by kernel_rfl) rfl rfl ?_;refine xx ?_;refine Yn (.tk 0 (.tk 1 (.tk 2 (.tk 3 (.tk 4 (.tk 6 (.tk 7 (.tk 8 (.tk 9 (.tkl 5 (.tkl 10 (.o1 11 (.tk 12 (.tk 13 (.tk 14 (.o2 15 (.fin) (.nil))))) (.nil))))))))))))) (by kernel_rfl) (by kernel_rfl) _ (Za.refl _ _) ?_;refine xx ?_;refine Yn (.tk 0 (.tk 1 (.tk 2 (.tk 3 (.tk 4 (.tk 7 (.tk 8 (.tk 9 (.tk 10 (.tkl 5 (.tkl 11 (.o1 6 (.o1 12 (.tk 13 (.tk 14 (.tk 15 (.o2 16 (.fin) (.nil))))) (.nil)) (.nil))))))))))))) (by kernel_rfl) (by kernel_rfl) _ (Za.refl _ _) ?_;simp -dsimp -implicitDefEqProofs (disch:=first|with_reducible assumption|omega) [go_sem,YQ];exact ZP hk
theorem Zfr (p:Zd)(ok:Zj p)(m:Zc)(hk:K (Znv (if YI p then Zbg p m else m)) L h):Zb prog 213 [Vt p,Znv m] L h K:=by
 refine ZT func213 rfl (rs:=[_]) rfl rfl ZW (by kernel_rfl) rfl rfl ?_;refine xx ?_;refine Z1 fun b1 nb1 zb1=>?_;(try simp only[ZU]at nb1);refine xx ?_;refine Z1 fun b2 nb2 zb2=>?_;(try simp only[ZU]at nb2);refine xx ?_;refine Z1 fun b3 nb3 zb3=>?_;(try simp only[ZU]at nb3);refine xx ?_;refine WJ p ok ?_
 cases hr:YI p with
 | false =>
  rw[hr]at hk;refine xx ?_;exact ZO (ZO (ZO (ZP hk)))
 | true =>
  rw[hr]at hk;refine xx ?_;refine Z1 fun b4 nb4 zb4=>?_;(try simp only[ZU]at nb4);refine xx ?_;refine Zqz b4 p m zb4 ?_;refine xx ?_;exact ZO (ZO (ZO (ZO (ZP hk))))
def Ua (p:Zd)(m:Zc):Bool :=
 if m.status=2∨m.status=3 then decide (p.floor<m.bal)&&decide (m.bal≤p.cap)&&VD p m.eff m.bal
 else if m.status=1 then decide (1≤m.bal)&&decide (m.bal≤p.cap)&&decide (m.eff=0)
 else if m.status=4∨m.status=5 then decide (m.bal=0)&&decide (m.eff=0) else false
theorem Ztg (p:Zd)(ok:Zj p)(hr:YI p=true)(m:Zc)(mo:Zf m)(hk:K (.bool (Ua p m)) L h):Zb prog 286 [Zxc m,Vt p] L h K:=by
 have ub:0≤m.bal∧m.bal≤18446744073709551615:=mo.u _ (by simp);have ue:0≤m.eff∧m.eff≤18446744073709551615:=mo.u _ (by simp);unfold Ua at hk;refine ZT func286 rfl (rs:=[_]) rfl rfl ZW (by kernel_rfl) rfl rfl ?_;refine xx ?_;refine Z1 fun b1 nb1 zb1=>?_;(try simp only[ZU]at nb1);refine xx ?_;refine Z1 fun b2 nb2 zb2=>?_;(try simp only[ZU]at nb2);refine xx ?_;by_cases c0:m.status=2∨m.status=3
 ·rw[if_pos c0]at hk;have key:∀(X:Prop),(m.status=2→X)→(¬m.status=2→m.status=3→X)→X:=fun X a b=>by
   by_cases e:m.status=2
   ·exact a e
   ·exact b e (by omega)
  refine key _ (fun e=>?_) (fun e e'=>?_) <;>
  ·refine xx ?_;by_cases c1:p.floor<m.bal
   ·by_cases c2:m.bal≤p.cap
    ·refine xx ?_;refine Zfz p ok _ _ ue ub ?_;refine xx ?_;exact ZO (ZO (ZP (by simpa [hr,c1,c2] using hk)))
    ·refine xx ?_;exact ZO (ZO (ZP (by simpa [c1,c2] using hk)))
   ·refine xx ?_;exact ZO (ZO (ZP (by simpa [c1] using hk)))
 ·rw[if_neg c0]at hk;have e2:¬m.status=2:=fun e=>c0 (.inl e);have e3:¬m.status=3:=fun e=>c0 (.inr e);by_cases e1:m.status=1
  ·rw[if_pos e1]at hk;refine xx ?_;by_cases c1:1≤m.bal
   ·by_cases c2:m.bal≤p.cap
    ·refine xx ?_;exact ZO (ZO (ZP (by simpa [c1,c2] using hk)))
    ·refine xx ?_;exact ZO (ZO (ZP (by simpa [c1,c2] using hk)))
   ·refine xx ?_;exact ZO (ZO (ZP (by simpa [c1] using hk)))
  ·rw[if_neg e1]at hk;by_cases e4:m.status=4
   ·rw[if_pos (Or.inl e4)]at hk;refine xx ?_;by_cases c1:m.bal=0
    ·refine xx ?_;exact ZO (ZO (ZP (by simpa [c1] using hk)))
    ·refine xx ?_;exact ZO (ZO (ZP (by simpa [c1] using hk)))
   ·by_cases e5:m.status=5
    ·rw[if_pos (Or.inr e5)]at hk;refine xx ?_;by_cases c1:m.bal=0
     ·refine xx ?_;exact ZO (ZO (ZP (by simpa [c1] using hk)))
     ·refine xx ?_;exact ZO (ZO (ZP (by simpa [c1] using hk)))
    ·rw[if_neg (by omega)]at hk;refine xx ?_;exact ZO (ZO (ZP hk))
def Zpw (m:Zc):List Int:=[m.bal,m.eff,m.score,m.streak]
theorem eqStd (m q:Zc)(x y:Operand)(K:Value→Prop)(t:Zp K):Vi prog .eql 98 x y (Znv m) (Znv q) K t=K (.bool (decide (Zpw m=Zpw q))) :=
 Zag (T:=98) (ks:=[.u64,.u64,.u64,.i64]) (by kernel_rfl) (by kernel_rfl) (by kernel_rfl) (by kernel_rfl) (Zpw m) (Zpw q) rfl rfl x y K t
def Vf (p:Zd)(m:Zc):Bool:=decide (0≤m.owner)&&decide (m.owner<64)&&decide (Zpw (Zbg p m)=Zpw m)&&Ua p m
theorem Zrt (p:Zd)(ok:Zj p)(m:Zc)(mo:Zf m)(hk:K (.bool (YI p&&Vf p m)) L h):Zb prog 171 [Vt p,Zxc m] L h K:=by
 refine ZT func171 rfl (rs:=[_]) rfl rfl ZW (by kernel_rfl) rfl rfl ?_;refine xx ?_;refine Z1 fun b1 nb1 zb1=>?_;(try simp only[ZU]at nb1);refine xx ?_;refine Z1 fun b2 nb2 zb2=>?_;(try simp only[ZU]at nb2);refine xx ?_;refine WJ p ok ?_
 cases hr:YI p with
 | false =>
  rw[hr]at hk;refine xx ?_;exact ZO (ZO (ZP (by simpa using hk)))
 | true =>
  rw[hr]at hk;by_cases c1:m.owner<0
  ·refine xx ?_;exact ZO (ZO (ZP (by simpa [Vf,show ¬ 0≤m.owner by omega] using hk)))
  ·by_cases c2:64≤m.owner
   ·refine xx ?_;exact ZO (ZO (ZP (by simpa [Vf,show ¬m.owner<64 by omega] using hk)))
   ·refine xx ?_;refine Yn (.tk 1 (.tk 4 (.tkl 0 (.tkl 2 (.tkl 5 (.o1 3 (.tk 6 (.tk 7 (.tkl 8 (.tk 9 (.tkl 10 (.o1 11 (.tk 12 (.tk 13 (.fin))) (.nil))))))) (.nil))))))) (by kernel_rfl) (by kernel_rfl) _ (Za.refl _ _) ?_;refine xx ?_;refine Zfr p ok m ?_;rw[if_pos hr];refine xkp (Za.refl _ _) ?_;simp -dsimp -implicitDefEqProofs (disch:=first|with_reducible assumption|omega) [go_sem,eqStd];have hf:Vf p m=(decide (Zpw (Zbg p m)=Zpw m)&&Ua p m):=by simp [Vf,show 0≤m.owner by omega,show m.owner<64 by omega]
    rw[hf]at hk
    cases hq:decide (Zpw (Zbg p m)=Zpw m) with
    | false =>
     rw[hq]at hk;refine xx ?_;exact ZO (ZO (ZP (by simpa using hk)))
    | true =>
     rw[hq]at hk;refine xx ?_;refine Ztg p ok hr m mo ?_;refine xkp (Za.refl _ _) ?_;refine xx ?_;exact ZO (ZO (ZP (by simpa using hk)))
theorem J3 {α:Type}(z:α)(q:α→Bool)(l:List α)(hq:∀j,j<l.length→q (gr z l j)=true):l.all q=true:=by
 rw[List.all_eq_true];intro x hx;obtain⟨j,hj,rfl⟩:=List.mem_iff_getElem.1 hx;have:=hq j hj
 rwa [Z5 hj]at this
theorem YJ {α:Type}(z:α)(q:α→Bool)(l:List α){k:Nat}(hk:k<l.length)(hq:q (gr z l k)=false):l.all q=false:=by
 rw[List.all_eq_false];rw[Z5 hk]at hq;exact⟨l[k],List.getElem_mem hk,by simp [hq]⟩
theorem Ymf (q:Int→Bool)(l:List Int)(hq:∀j,j<l.length→q (at0 l j)=true):l.all q=true:=J3 0 q l hq
theorem Zoj (q:Int→Bool)(l:List Int){k:Nat}(hk:k<l.length)(hq:q (at0 l k)=false):l.all q=false:=YJ 0 q l hk hq
theorem Zo.slices {v:SV}{s:Ze}(hs:Zo h v s):∃pa pc ma mc ea ec xa xc oa oc da dc ta tc ka kc ra rc,
  v=⟨.slice pa s.purses.length pc,.slice ma s.members.length mc,.slice ea s.entry.length ec,.slice xa s.exit.length xc,.slice oa s.pool.length oc,.slice da s.dues.length dc,.slice ta s.motions.length tc,.slice ka s.marks.length kc,.slice ra s.ring.length rc⟩:=by
 obtain⟨pa,pc,hp,_⟩:=hs.p.open;obtain⟨ma,mc,hm,_⟩:=hs.m.open;obtain⟨ea,ec,he,_⟩:=hs.e.open;obtain⟨xa,xc,hx,_⟩:=hs.x.open;obtain⟨oa,oc,ho,_⟩:=hs.o.open;obtain⟨da,dc,hd,_⟩:=hs.d.open;obtain⟨q,t1,t2,_⟩:=hs.t;obtain⟨ta,tc,ht,_⟩:=t1.open;obtain⟨ka,kc,hk,_⟩:=hs.k.open;obtain⟨r,r1,r2⟩:=hs.r;obtain⟨ra,rc,hr,_⟩:=r1.open;refine⟨pa,pc,ma,mc,ea,ec,xa,xc,oa,oc,da,dc,ta,tc,ka,kc,ra,rc,?_⟩;rw[← t2,← r2,List.length_map,WI];obtain⟨vp,vm,ve,vx,vo,vd,vt,vk,vr⟩:=v;simp only at hp hm he hx ho hd ht hk hr;subst hp hm he hx ho hd ht hk hr
 rfl
theorem Uw (n lo hi:Int)(hk:K (.bool (wi n lo hi)) L h):Zb prog 60 [.int .i64 n,.int .i64 lo,.int .i64 hi] L h K:=by
 unfold wi at hk;refine ZT func60 rfl (rs:=[_]) rfl rfl ZW (by kernel_rfl) rfl rfl ?_;refine xx ?_;by_cases c:lo≤n
 ·refine xx ?_;exact ZP (by simpa [c] using hk)
 ·refine xx ?_;exact ZP (by simpa [c] using hk)
theorem U2 (n lo hi:Int)(hk:K (.bool (wi n lo hi)) L h):Zb prog 288 [.int .i64 n,.int .i64 lo,.int .i64 hi] L h K:=by
 unfold wi at hk;refine ZT func288 rfl (rs:=[_]) rfl rfl ZW (by kernel_rfl) rfl rfl ?_;refine xx ?_;by_cases c:lo≤n
 ·refine xx ?_;exact ZP (by simpa [c] using hk)
 ·refine xx ?_;exact ZP (by simpa [c] using hk)
theorem Ziz (n lo hi:Int)(hk:K (.bool (wi n lo hi)) L h):Zb prog 287 [.int .i64 n,.int .i64 lo,.int .i64 hi] L h K:=by
 unfold wi at hk;refine ZT func287 rfl (rs:=[_]) rfl rfl ZW (by kernel_rfl) rfl rfl ?_;refine xx ?_;by_cases c:lo≤n
 ·refine xx ?_;exact ZP (by simpa [c] using hk)
 ·refine xx ?_;exact ZP (by simpa [c] using hk)
def VB (s:Ze)(i:Int):Bool:=wi i 0 ((s.purses.length:Int)-1)
theorem Vg {s:Ze}(v:SV)(hs:Zo h v s)(few:ZC s)(i:Int)(hk:K (.bool (VB s i)) L h):Zb prog 172 [stV s v,.int .i64 i] L h K:=by
 obtain⟨pa,pc,hp,_⟩:=hs.p.open;have fp:=few.p;unfold VB at hk;refine ZT func172 rfl (rs:=[_]) rfl rfl ZW (by kernel_rfl) rfl rfl ?_;refine xx ?_;refine Z1 fun b1 nb1 zb1=>?_;(try simp only[ZU]at nb1);simp -dsimp -implicitDefEqProofs (disch:=first|with_reducible assumption|omega) [go_sem,hp];refine Uw _ _ _ ?_;refine xx ?_;exact ZO (ZP hk)
def Uj (s:Ze):Bool:=wi s.purses.length 1 64&&s.purses.all fun z=>decide (z≤4611686018427387904)
theorem Zpn {s:Ze}(v:SV)(hs:Zo h v s)(few:ZC s)(hk:K (.bool (Uj s)) L h):Zb prog 61 [stV s v] L h K:=by
 have hw:=hs.p.word;obtain⟨pa,pc,hp,hc,hl,_,hcs⟩:=hs.p.open;have fp:=few.p;unfold Uj at hk;refine ZT func61 rfl (rs:=[_]) rfl rfl ZW (by kernel_rfl) rfl rfl ?_;refine xx ?_;refine Z1 fun b1 nb1 zb1=>?_;(try simp only[ZU]at nb1);simp -dsimp -implicitDefEqProofs (disch:=first|with_reducible assumption|omega) [go_sem,hp];refine Uw _ _ _ ?_
 cases hq:wi s.purses.length 1 64 with
 | false =>
  rw[hq]at hk;refine xx ?_;exact ZO (ZP (by simpa using hk))
 | true =>
  rw[hq,Bool.true_and]at hk;simp -dsimp -implicitDefEqProofs (disch:=first|with_reducible assumption|omega) [go_sem,hp];refine YP (0:Nat) (fun k=>k≤s.purses.length∧∀j,j<k→at0 s.purses j≤4611686018427387904) (fun k=>[(15,.int .i64 k),(14,.int .i64 s.purses.length),(13,.slice pa s.purses.length pc)]) (fun _=>L) (fun _=>h) (fun k=>s.purses.length-k) ?_ ?_ ?_ ?_
  ·exact⟨Nat.zero_le _,fun j hj=>by omega⟩
  ·simp [Ent,List.lookup,Wc,hp]
  ·exact Za.tail _ _ _
  rintro k ⟨k1,k2⟩;have hwk:=hw k;by_cases c1:k<s.purses.length
  ·by_cases c2:at0 s.purses k≤4611686018427387904
   ·simp -dsimp -implicitDefEqProofs (disch:=first|with_reducible assumption|omega) [go_sem,idx hcs];refine⟨k+1,⟨by omega,fun j hj=>?_⟩,by omega,by simp [Ent,List.lookup],Za.refl _ _⟩;by_cases e:j=k
    ·subst e;exact c2
    ·exact k2 j (by omega)
   ·rw[Zoj _ _ c1 (decide_eq_false c2)]at hk;simp -dsimp -implicitDefEqProofs (disch:=first|with_reducible assumption|omega) [go_sem,idx hcs];exact ZP hk
  ·rw[Ymf _ _ (fun j hj=>decide_eq_true (k2 j (by omega)))]at hk;refine xx ?_;exact ZP hk
theorem Zgh {zs:List Int}(v:Value)(x:Int)(hz:Ints h .i64 v zs)(hx : -9223372036854775808≤x∧x≤9223372036854775807)(hk:∀i:Int,-1≤i→i≤9223372036854775807→(0≤i↔x∈zs)→K (.int .i64 i) L h):Zb prog 340 [v,.int .i64 x] L h K:=by
 have hn:=hz.num;obtain⟨a,c,rfl,hcap,hl,_,hcs⟩:=hz.open;refine ZT func340 rfl (rs:=[_]) rfl rfl ZW (by kernel_rfl) rfl rfl ?_;refine xx ?_;refine Wv (0:Nat) (fun k=>k≤zs.length∧∀j,j<k→at0 zs j≠x) (fun k=>[(8,.int .i64 k),(7,.int .i64 zs.length),(0,.slice a zs.length c),(1,.int .i64 x)]) (fun k=>zs.length-k) ?_ ?_ ?_
 ·exact⟨Nat.zero_le _,fun j hj=>by omega⟩
 ·simp [Ent,List.lookup,Wc]
 rintro k ⟨k1,k2⟩;by_cases c1:k<zs.length
 ·by_cases c2:x=at0 zs k
  ·simp -dsimp -implicitDefEqProofs (disch:=first|with_reducible assumption|omega) [go_sem,idx hcs];refine ZP (hk k (by omega) (by omega) ⟨fun _=>?_,fun _=>by omega⟩);rw[c2,← Yi c1];exact List.getElem_mem c1
  ·simp -dsimp -implicitDefEqProofs (disch:=first|with_reducible assumption|omega) [go_sem,idx hcs];refine⟨k+1,⟨by omega,fun j hj=>?_⟩,by omega,by simp [Ent,List.lookup],Za.refl _ _⟩;by_cases e:j=k
   ·subst e;exact fun e=>c2 e.symm
   ·exact k2 j (by omega)
 ·refine xx ?_;refine ZP (hk (-1) (by omega) (by omega) ⟨fun hh=>by omega,fun hm=>?_⟩);obtain⟨j,hj,e⟩:=List.mem_iff_getElem.1 hm;exact absurd (by rw[← Yi hj,e]) (k2 j (by omega))
theorem Zfh {zs:List Int}(v:Value)(x:Int)(hz:Ints h .i64 v zs)(hx : -9223372036854775808≤x∧x≤9223372036854775807)(hk:K (.bool (decide (x∈zs))) L h):Zb prog 269 [v,.int .i64 x] L h K:=by
 have hz':=hz;obtain⟨a,c,rfl,hcap,hl,_,hcs⟩:=hz.open;refine ZT func269 rfl (rs:=[_]) rfl rfl ZW (by kernel_rfl) rfl rfl ?_;refine xx ?_;refine Zgh _ x hz' hx fun i i1 i2 i3=>?_;refine xx ?_;have:decide (0≤i)=decide (x∈zs):=by simp only[i3]
 refine ZP ?_;rw[this];exact hk
def Zpz (l:List Zc)(st:Int):Nat→Nat
 | 0=>0
 | k+1=>Zpz l st k+if (gr ZR l k).status=st then 1 else 0
theorem Zvp (l:List Zc)(st:Int):∀k,Zpz l st k≤k
 | 0=>Nat.le_refl _
 | k+1=>by have:=Zvp l st k;simp only[Zpz];split<;>omega
def Yeo (s:Ze)(l:List Int)(st:Int):Bool:=(List.range s.members.length).all fun j => !decide ((gr ZR s.members j).status=st)||decide ((j:Int)∈l)
def Zyy (s:Ze)(l:List Int)(st:Int):Bool:=Yeo s l st&&decide (l.length=Zpz s.members st s.members.length)
theorem Zgs {s:Ze}{l:List Int}{st:Int}(hq:∀j,j<s.members.length→(gr ZR s.members j).status=st→(j:Int)∈l):Yeo s l st=true:=by
 rw[Yeo,List.all_eq_true];intro j hj;by_cases e:(gr ZR s.members j).status=st
 ·simp [e,hq j (List.mem_range.1 hj) e]
 ·simp [e]
theorem Zou {s:Ze}{l:List Int}{st:Int}{k:Nat}(hk:k<s.members.length)(e:(gr ZR s.members k).status=st)(hn:(k:Int) ∉ l):Yeo s l st=false:=by
 rw[Yeo,List.all_eq_false];exact⟨k,List.mem_range.2 hk,by simp [e,hn]⟩
theorem Zvk {s:Ze}(v:SV)(hs:Zo h v s)(few:ZC s){l:List Int}(lv:Value)(hlv:Ints h .i64 lv l)(st:Int)(hst : -9223372036854775808≤st∧st≤9223372036854775807)(hk:K (.bool (Zyy s l st)) L h):Zb prog 173 [stV s v,lv,.int .i64 st] L h K:=by
 obtain⟨ma,mc,hm,hmc,hml,_,hd⟩:=hs.m.open;have fm:=few.m;have hlv':=hlv;obtain⟨la,lc,rfl,hlc,hll,_,hcs⟩:=hlv.open;refine ZT func173 rfl (rs:=[_]) rfl rfl ZW (by kernel_rfl) rfl rfl ?_;refine xx ?_;refine Z1 fun b1 nb1 zb1=>?_;(try simp only[ZU]at nb1);simp -dsimp -implicitDefEqProofs (disch:=first|with_reducible assumption|omega) [go_sem,hm];refine YP (0:Nat) (fun k=>k≤s.members.length∧∀j,j<k→(gr ZR s.members j).status=st→(j:Int)∈l) (fun k=>[(14,.int .i64 k),(13,.int .i64 s.members.length),(12,.slice ma s.members.length mc),(7,.int .i64 (Zpz s.members st k)),(1,.slice la l.length lc),(2,.int .i64 st)]) (fun _=>L) (fun _=>h) (fun k=>s.members.length-k) ?_ ?_ ?_ ?_
 ·exact⟨Nat.zero_le _,fun j hj=>by omega⟩
 ·simp [Ent,List.lookup,Wc,hm,Zpz]
 ·exact Za.tail _ _ _
 rintro k ⟨k1,k2⟩;have hcl:=Zvp s.members st k;by_cases c1:k<s.members.length
 ·have hxo:=hs.mo (gr ZR s.members k) (by rw[Z5 c1];exact List.getElem_mem c1);simp -dsimp -implicitDefEqProofs (disch:=first|with_reducible assumption|omega) [go_sem,↓Ut ZR (by decide) hd,Yw];refine Z1 fun b2 nb2 zb2=>?_;(try simp only[ZU]at nb2);by_cases c2:(gr ZR s.members k).status=st
  ·simp -dsimp -implicitDefEqProofs (disch:=first|with_reducible assumption|omega) [go_sem,Yw];refine Zfh _ k hlv' ⟨by omega,by omega⟩ ?_;by_cases c3:(k:Int)∈l
   ·rw[decide_eq_true c3];refine xx ?_;refine⟨k+1,⟨by omega,fun j hj=>?_⟩,by omega,by simp [Ent,List.lookup,Zpz,c2],Za.tail _ _ _⟩;by_cases e:j=k
    ·subst e;exact fun _=>c3
    ·exact k2 j (by omega)
   ·rw[Zyy,Zou c1 c2 c3]at hk;rw[decide_eq_false c3];refine xx ?_;exact ZO (ZP hk)
  ·simp -dsimp -implicitDefEqProofs (disch:=first|with_reducible assumption|omega) [go_sem,Yw];refine⟨k+1,⟨by omega,fun j hj=>?_⟩,by omega,by simp [Ent,List.lookup,Zpz,c2],Za.tail _ _ _⟩;by_cases e:j=k
   ·subst e;exact fun e=>absurd e c2
   ·exact k2 j (by omega)
 ·have hkl:k=s.members.length:=by omega
  subst hkl;rw[Zyy,Zgs k2,Bool.true_and]at hk;refine xx ?_;refine ZP ?_;have e:decide ((l.length:Int)=(Zpz s.members st s.members.length:Nat))=decide (l.length=Zpz s.members st s.members.length):=by simp only[Int.natCast_inj]
  first
   | exact hk
   | (rw[e];exact hk)
def WK (s:Ze):Bool:=decide (s.members.length≤128)&&s.members.all (fun m=>Vf s.par m&&VB s m.owner)&&Zyy s s.entry 1&&Zyy s s.exit 3
theorem Zjf {s:Ze}(v:SV)(hs:Zo h v s)(few:ZC s)(hr:YI s.par=true)(hk:K (.bool (WK s)) L h):Zb prog 62 [stV s v] L h K:=by
 obtain⟨pa,pc,ma,mc,ea,ec,xa,xc,oa,oc,da,dc,ta,tc,ka,kc,ra,rc,rfl⟩:=hs.slices;have hd:Zg Yw 6 h (.slice ma s.members.length mc) s.members:=hs.m;have fm:=few.m;unfold WK at hk;refine ZT func62 rfl (rs:=[_]) rfl rfl ZW (by kernel_rfl) rfl rfl ?_;refine xx ?_;refine Z1 fun b1 nb1 zb1=>?_;(try simp only[ZU]at nb1);refine xx ?_;by_cases c0:s.members.length≤128
 ·rw[decide_eq_true c0,Bool.true_and]at hk;refine xx ?_;refine YP (0:Nat) (fun k=>k≤s.members.length∧∀j,j<k→(fun m:Zc=>Vf s.par m&&VB s m.owner) (gr ZR s.members j)=true) (fun k=>[(14,.int .i64 k),(13,.int .i64 s.members.length),(12,.slice ma s.members.length mc),(1,.pointer (some ⟨b1,0,none⟩))]) (fun _=>⟨b1,127,stC s ⟨.slice pa s.purses.length pc,.slice ma s.members.length mc,.slice ea s.entry.length ec,.slice xa s.exit.length xc,.slice oa s.pool.length oc,.slice da s.dues.length dc,.slice ta s.motions.length tc,.slice ka s.marks.length kc,.slice ra s.ring.length rc⟩,41⟩::L) (fun _=>h) (fun k=>s.members.length-k) ?_ ?_ ?_ ?_
  ·exact⟨Nat.zero_le _,fun j hj=>by omega⟩
  ·simp [Ent,List.lookup,Wc]
  ·exact Za.refl _ _
  rintro k ⟨k1,k2⟩;by_cases c1:k<s.members.length
  ·have hxo:=hs.mo (gr ZR s.members k) (by rw[Z5 c1];exact List.getElem_mem c1);simp -dsimp -implicitDefEqProofs (disch:=first|with_reducible assumption|omega) [go_sem,↓Ut ZR (by decide) hd,Yw];refine Z1 fun b2 nb2 zb2=>?_;(try simp only[ZU]at nb2);simp -dsimp -implicitDefEqProofs (disch:=first|with_reducible assumption|omega) [go_sem,Yw];refine Zrt s.par hs.ok.p (gr ZR s.members k) hxo ?_;rw[hr,Bool.true_and]
   cases hq:Vf s.par (gr ZR s.members k) with
   | false =>
    rw[YJ ZR _ _ c1 (by rw[hq];rfl)]at hk;refine xx ?_;exact ZO (ZO (ZP (by simpa using hk)))
   | true =>
    refine xx ?_;refine Vg _ hs few _ ?_
    cases hq2:VB s (gr ZR s.members k).owner with
    | false =>
     rw[YJ ZR _ _ c1 (by rw[hq,hq2];rfl)]at hk;refine xx ?_;exact ZO (ZO (ZP (by simpa using hk)))
    | true =>
     refine xx ?_;refine⟨k+1,⟨by omega,fun j hj=>?_⟩,by omega,by simp [Ent,List.lookup],Za.tail _ _ _⟩;by_cases e:j=k
     ·subst e;first|exact⟨hq,hq2⟩ | (simp only[hq,hq2];rfl)|simp [hq,hq2]
     ·first|exact k2 j (by omega)|simpa using k2 j (by omega)
  ·have hkl:k=s.members.length:=by omega
   subst hkl;rw[J3 ZR _ _ k2,Bool.true_and]at hk;refine xx ?_;refine Zvk _ hs few _ hs.e 1 (by decide) ?_
   cases hq:Zyy s s.entry 1 with
   | false =>
    rw[hq]at hk;refine xx ?_;exact ZO (ZP (by simpa using hk))
   | true =>
    rw[hq]at hk;refine xx ?_;refine Zvk _ hs few _ hs.x 3 (by decide) ?_;refine xx ?_;exact ZO (ZP (by simpa using hk))
 ·rw[decide_eq_false c0]at hk;refine xx ?_;exact ZO (ZP (by simpa using hk))
def parKS:List IntKind:=[.u64,.u64,.u64,.u64,.u64,.u64,.u64,.u64,.u64,.u64,.u64,.u64,.u64,.u64,.i64,.i64,.i64,.i64,.i64,.i64,.i64,.i64,.i64,.i64]
abbrev motV (m:Zm)(y n:Value):Value := .agg #[.int .i64 m.acct,.int .i64 m.what,.int .u64 m.par.inc,.int .u64 m.par.maxEff,.int .u64 m.par.floor,.int .u64 m.par.cap,.int .u64 m.par.up,.int .u64 m.par.down,.int .u64 m.par.bias,.int .u64 m.par.quot,.int .u64 m.par.biasEm,.int .u64 m.par.quotEm,.int .u64 m.par.recover,.int .u64 m.par.scoreCap,.int .u64 m.par.rate,.int .u64 m.par.bond,.int .i64 m.par.delay,.int .i64 m.par.streak,.int .i64 m.par.boost,.int .i64 m.par.absent,.int .i64 m.par.burn,.int .i64 m.par.churn,.int .i64 m.par.wait,.int .i64 m.par.poll,.int .i64 m.par.enact,.int .i64 m.par.quorum,.int .i64 m.to,.int .u64 m.amt,.int .i64 m.ends,.int .i64 m.due,.int .i64 m.state,y,n]
def WA (m:Zm):Bool:=wi m.acct 0 63&&wi m.to 0 63&&wi m.what 1 4&&wi m.state 1 4
def VI (m:Zm):Bool:=wi m.ends 0 2147483647&&wi m.due 0 2147483647&&decide (m.amt≤4611686018427387904)
def Uy (m:Zm):Bool:=WA m&&VI m&&Zbb m.yes 128&&Zbb m.no 128&&(if m.what=1 then YI m.par else decide (m.par=Zfb))
theorem Ykz (p q:Zd):decide (YF p++YH p=YF q++YH q)=decide (p=q):=by
 apply decide_eq_decide.2
 constructor
 ·intro e;simp only[YF,YH,List.cons_append,List.nil_append,List.cons.injEq,and_true]at e
  cases p;cases q;simp only at e;simp only[Zd.mk.injEq];exact e
 ·rintro rfl;rfl
theorem Yqi (p q:Zd)(x y:Operand)(K:Value→Prop)(t:Zp K):Vi prog .eql 24 x y (Vt p) (Vt q) K t=K (.bool (decide (p=q))):=by
 rw[← Ykz];exact Zag (T:=24) (ks:=parKS) (by kernel_rfl) (by kernel_rfl) (by kernel_rfl) (by kernel_rfl) (YF p++YH p) (YF q++YH q) rfl rfl x y K t
theorem Zhs (m:Zm)(y n:Value)(hy:Ints h .u8 y m.yes)(hn:Ints h .u8 n m.no)(ok:Yxr m)(hk:K (.bool (Uy m)) L h):Zb prog 175 [motV m y n] L h K:=by
 have hy':=hy;have hn':=hn;obtain⟨ya,yc,rfl,_⟩:=hy.open;obtain⟨na,nc,rfl,_⟩:=hn.open;have ua:=ok.a;unfold Uy at hk;refine ZT func175 rfl (rs:=[_]) rfl rfl ZW (by kernel_rfl) rfl rfl ?_;refine xx ?_;refine Z1 fun b1 nb1 zb1=>?_;(try simp only[ZU]at nb1);refine xx ?_;have no1:∀X:Bool,WA m=false→K (.bool (WA m&&X)) L h→K (.bool false) L h:=fun X e k=>by rwa [e]at k
 refine U2 _ _ _ ?_
 cases q1:wi m.acct 0 63 with
 | false =>
  rw[show WA m=false by simp [WA,q1]]at hk;refine xx ?_;exact ZO (ZP (by simpa using hk))
 | true =>
 refine xx ?_;refine U2 _ _ _ ?_
 cases q2:wi m.to 0 63 with
 | false =>
  rw[show WA m=false by simp [WA,q2]]at hk;refine xx ?_;exact ZO (ZP (by simpa using hk))
 | true =>
 refine xx ?_;refine U2 _ _ _ ?_
 cases q3:wi m.what 1 4 with
 | false =>
  rw[show WA m=false by simp [WA,q3]]at hk;refine xx ?_;exact ZO (ZP (by simpa using hk))
 | true =>
 refine xx ?_;refine U2 _ _ _ ?_
 cases q4:wi m.state 1 4 with
 | false =>
  rw[show WA m=false by simp [WA,q4]]at hk;refine xx ?_;exact ZO (ZP (by simpa using hk))
 | true =>
 rw[show WA m=true by simp [WA,q1,q2,q3,q4],Bool.true_and]at hk;refine xx ?_;refine U2 _ _ _ ?_
 cases q5:wi m.ends 0 2147483647 with
 | false =>
  rw[show VI m=false by simp [VI,q5]]at hk;refine xx ?_;exact ZO (ZP (by simpa using hk))
 | true =>
 refine xx ?_;refine U2 _ _ _ ?_
 cases q6:wi m.due 0 2147483647 with
 | false =>
  rw[show VI m=false by simp [VI,q6]]at hk;refine xx ?_;exact ZO (ZP (by simpa using hk))
 | true =>
 by_cases q7:m.amt≤4611686018427387904
 ·rw[show VI m=true by simp [VI,q5,q6,q7],Bool.true_and]at hk;refine xx ?_;refine Zim _ 128 hy' (by decide) (by decide) ?_
  cases q8:Zbb m.yes 128 with
  | false =>
   rw[q8]at hk;refine xx ?_;exact ZO (ZP (by simpa using hk))
  | true =>
  rw[q8,Bool.true_and]at hk;refine xx ?_;refine Zim _ 128 hn' (by decide) (by decide) ?_
  cases q9:Zbb m.no 128 with
  | false =>
   rw[q9]at hk;refine xx ?_;exact ZO (ZP (by simpa using hk))
  | true =>
  rw[q9,Bool.true_and]at hk;by_cases c:m.what=1
  ·rw[if_pos c]at hk;refine xx ?_;refine WJ m.par ok.p ?_
   cases hr:YI m.par with
   | false =>
    rw[hr]at hk;refine xx ?_;exact ZO (ZP hk)
   | true =>
    rw[hr]at hk;refine xx ?_;exact ZO (ZP hk)
  ·rw[if_neg c]at hk;refine xx ?_;refine(Yqi m.par Zfb _ _ _ _).mpr ?_;refine xx ?_;exact ZO (ZP hk)
 ·rw[show VI m=false by simp [VI,q7]]at hk;refine xx ?_;exact ZO (ZP (by simpa using hk))
def Vq (s:Ze):Bool:=decide (s.motions.length≤32)&&s.motions.all (fun m=>Uy m&&VB s m.acct&&VB s m.to)
theorem Zkk {s:Ze}(v:SV)(hs:Zo h v s)(few:ZC s)(hk:K (.bool (Vq s)) L h):Zb prog 64 [stV s v] L h K:=by
 obtain⟨pa,pc,ma,mc,ea,ec,xa,xc,oa,oc,da,dc,ta,tc,ka,kc,ra,rc,rfl⟩:=hs.slices;obtain⟨q,hd,t2,t3⟩:=hs.t;have fm:=few.t;have hql:q.length=s.motions.length:=by rw[← t2,List.length_map]
 have hgr:∀k,k<q.length→gr Yb s.motions k=(gr Z2 q k).2.2:=fun k hk=>by
  rw[Z5 hk,Z5 (by omega)];simp only[← t2,List.getElem_map]
 unfold Vq at hk;refine ZT func64 rfl (rs:=[_]) rfl rfl ZW (by kernel_rfl) rfl rfl ?_;refine xx ?_;refine Z1 fun b1 nb1 zb1=>?_;(try simp only[ZU]at nb1);refine xx ?_;by_cases c0:s.motions.length≤32
 ·rw[decide_eq_true c0,Bool.true_and]at hk;refine xx ?_;refine YP (0:Nat) (fun k=>k≤s.motions.length∧∀j,j<k→(fun m:Zm=>Uy m&&VB s m.acct&&VB s m.to) (gr Yb s.motions j)=true) (fun k=>[(14,.int .i64 k),(13,.int .i64 s.motions.length),(12,.slice ta s.motions.length tc),(1,.pointer (some ⟨b1,0,none⟩))]) (fun _=>⟨b1,127,stC s ⟨.slice pa s.purses.length pc,.slice ma s.members.length mc,.slice ea s.entry.length ec,.slice xa s.exit.length xc,.slice oa s.pool.length oc,.slice da s.dues.length dc,.slice ta s.motions.length tc,.slice ka s.marks.length kc,.slice ra s.ring.length rc⟩,41⟩::L) (fun _=>h) (fun k=>s.motions.length-k) ?_ ?_ ?_ ?_
  ·exact⟨Nat.zero_le _,fun j hj=>by omega⟩
  ·simp [Ent,List.lookup,Wc]
  ·exact Za.refl _ _
  rintro k ⟨k1,k2⟩;by_cases c1:k<s.motions.length
  ·have hx:Zq h (gr Z2 q k):=by rw[Z5 (by omega)];exact t3 _ (List.getElem_mem (by omega))
   have hg:=hgr k (by omega);obtain⟨x1,y1,hv1,_⟩:=hx.y.open;obtain⟨x2,y2,hv2,_⟩:=hx.n.open;simp -dsimp -implicitDefEqProofs (disch:=first|with_reducible assumption|omega) [go_sem,↓Ut Z2 (by decide) hd,YW];refine Z1 fun b2 nb2 zb2=>?_;(try simp only[ZU]at nb2);simp -dsimp -implicitDefEqProofs (disch:=first|with_reducible assumption|omega) [go_sem,YW,hv1,hv2];have m1:=hx.y;have m2:=hx.n;rw[hv1]at m1;rw[hv2]at m2;refine Zhs (gr Z2 q k).2.2 _ _ m1 m2 hx.ok ?_
   cases hq:Uy (gr Z2 q k).2.2 with
   | false =>
    rw[YJ Yb _ _ c1 (by rw[hg,hq];rfl)]at hk;refine xx ?_;exact ZO (ZO (ZP (by simpa using hk)))
   | true =>
   refine xx ?_;refine Vg _ hs few _ ?_
   cases hq2:VB s (gr Z2 q k).2.2.acct with
   | false =>
    rw[YJ Yb _ _ c1 (by rw[hg,hq,hq2];rfl)]at hk;refine xx ?_;exact ZO (ZO (ZP (by simpa using hk)))
   | true =>
   refine xx ?_;refine Vg _ hs few _ ?_
   cases hq3:VB s (gr Z2 q k).2.2.to with
   | false =>
    rw[YJ Yb _ _ c1 (by rw[hg,hq,hq2,hq3];rfl)]at hk;refine xx ?_;exact ZO (ZO (ZP (by simpa using hk)))
   | true =>
   refine xx ?_;refine⟨k+1,⟨by omega,fun j hj=>?_⟩,by omega,by simp [Ent,List.lookup],Za.tail _ _ _⟩;by_cases e:j=k
   ·subst e;first|exact⟨⟨hq,hq2⟩,hq3⟩ | simp [hg,hq,hq2,hq3]
   ·first|exact k2 j (by omega)|simpa using k2 j (by omega)
  ·have hkl:k=s.motions.length:=by omega
   subst hkl;rw[J3 Yb _ _ k2]at hk;refine xx ?_;exact ZO (ZP hk)
 ·rw[decide_eq_false c0]at hk;refine xx ?_;exact ZO (ZP (by simpa using hk))
theorem J4 {bs:List Int}(v:Value)(hb:Ints h .u8 v bs)(hk:K (.bool (Zbb bs 128)) L h):Zb prog 289 [v] L h K:=by
 have hb':=hb;obtain⟨a,c,rfl,_⟩:=hb.open;refine ZT func289 rfl (rs:=[_]) rfl rfl ZW (by kernel_rfl) rfl rfl ?_;refine xx ?_;refine Zim _ 128 hb' (by decide) (by decide) ?_
 cases hc:Zbb bs 128 with
 | false =>
  rw[hc]at hk;refine xx ?_;exact ZP hk
 | true =>
  rw[hc]at hk;refine xx ?_;exact ZP hk
def Zeu (ring:List (List Int))(marks:List Int):Bool:=decide (ring.length≤8)&&Zbb marks 128&&ring.all (fun b=>Zbb b 128)
theorem Zrm {l:List QS}{bs:List Int}(v u:Value)(hv:Zw h v l)(hu:Ints h .u8 u bs)(hn:l.length≤100000)(hk:K (.int .i64 (if Zeu (xsL l) bs then 0 else 60)) L h):Zb prog 176 [v,u] L h K:=by
 have hu':=hu;obtain⟨a,c,rfl,hc,hl,_,hcx,hd⟩:=hv.open;obtain⟨b,c',rfl,_⟩:=hu.open;unfold Zeu at hk;rw[WI]at hk;refine ZT func176 rfl (rs:=[_]) rfl rfl ZW (by kernel_rfl) rfl rfl ?_;refine xx ?_;by_cases c0:l.length≤8
 ·rw[decide_eq_true c0,Bool.true_and]at hk;refine xx ?_;refine J4 _ hu' ?_
  cases h1:Zbb bs 128 with
  | false =>
   rw[h1]at hk;refine xx ?_;exact ZP (by simpa using hk)
  | true =>
  rw[h1,Bool.true_and]at hk;refine xx ?_;refine Wv (0:Nat) (fun k=>k≤l.length∧∀j,j<k→Zbb (gs l j).2 128=true) (fun k=>[(17,.int .i64 k),(16,.int .i64 l.length),(15,.slice a l.length c)]) (fun k=>l.length-k) ?_ ?_ ?_
  ·exact⟨Nat.zero_le _,fun j hj=>by omega⟩
  ·simp [Ent,List.lookup,Wc]
  rintro k ⟨k1,k2⟩;have hgs:∀j,j<l.length→gr [] (xsL l) j=(gs l j).2:=fun j hj=>by
   rw[Z5 (by rw[WI];exact hj),Ge hj];simp [xsL]
  by_cases c1:k<l.length
  ·have hi:=hd.at c1;have hi':=hi;obtain⟨x1,y1,hv1,_⟩:=hi.open;simp -dsimp -implicitDefEqProofs (disch:=first|with_reducible assumption|omega) [go_sem,idx hcx,hv1];rw[hv1]at hi';refine J4 _ hi' ?_
   cases h2:Zbb (gs l k).2 128 with
   | false =>
    rw[YJ [] _ _ (k:=k) (by rw[WI];exact c1) (by rw[hgs k c1,h2])]at hk;refine xx ?_;exact ZP (by simpa using hk)
   | true =>
    refine xx ?_;refine⟨k+1,⟨by omega,fun j hj=>?_⟩,by omega,by simp [Ent,List.lookup],Za.refl _ _⟩;by_cases e:j=k
    ·subst e;exact h2
    ·exact k2 j (by omega)
  ·rw[J3 [] _ _ (fun j hj=>by rw[WI]at hj;rw[hgs j hj];exact k2 j (by omega))]at hk;refine xx ?_;exact ZP (by simpa using hk)
 ·rw[decide_eq_false c0]at hk;refine xx ?_;exact ZP (by simpa using hk)
def Jj (s:Ze):Bool:=Zeu s.ring s.marks&&(List.range 128).all fun i=>decide (i<s.members.length) || !W4 s.marks i
theorem Zqn {s:Ze}(v:SV)(hs:Zo h v s)(few:ZC s)(hk:K (.bool (Jj s)) L h):Zb prog 65 [stV s v] L h K:=by
 obtain⟨pa,pc,ma,mc,ea,ec,xa,xc,oa,oc,da,dc,ta,tc,ka,kc,ra,rc,rfl⟩:=hs.slices;obtain⟨q,hd,t2⟩:=hs.r;have fm:=few.m;have fr:=few.r;have hql:q.length=s.ring.length:=by rw[← t2,WI]
 have hkk:=hs.k;simp only at hd hkk;unfold Jj at hk;refine ZT func65 rfl (rs:=[_]) rfl rfl ZW (by kernel_rfl) rfl rfl ?_;refine xx ?_;refine Z1 fun b1 nb1 zb1=>?_;(try simp only[ZU]at nb1);refine xx ?_;refine Zrm _ _ hd hkk (by omega) ?_;rw[t2]
 cases h1:Zeu s.ring s.marks with
 | false =>
  rw[h1]at hk;refine xx ?_;exact ZO (ZP (by simpa using hk))
 | true =>
 rw[h1,Bool.true_and]at hk;refine xx ?_;refine YP s.members.length (fun k=>s.members.length≤k∧k≤100000∧∀j,s.members.length≤j→j<k→W4 s.marks (j:Int)=false) (fun k=>[(3,.int .i64 k),(1,.pointer (some ⟨b1,0,none⟩))]) (fun _=>⟨b1,127,stC s ⟨.slice pa s.purses.length pc,.slice ma s.members.length mc,.slice ea s.entry.length ec,.slice xa s.exit.length xc,.slice oa s.pool.length oc,.slice da s.dues.length dc,.slice ta s.motions.length tc,.slice ka s.marks.length kc,.slice ra s.ring.length rc⟩,41⟩::L) (fun _=>h) (fun k=>100000-k) ?_ ?_ ?_ ?_
 ·exact⟨Nat.le_refl _,fm,fun j hj=>by omega⟩
 ·simp [Ent,List.lookup,Wc]
 ·exact Za.refl _ _
 rintro k ⟨k0,k1,k2⟩;by_cases c1:k<128
 ·refine xx ?_;refine GX _ k hkk (by omega) ?_
  cases h2:W4 s.marks (k:Int) with
  | true =>
   have:((List.range 128).all fun i=>decide (i<s.members.length) || !W4 s.marks i)=false:=by
    rw[List.all_eq_false];exact⟨k,List.mem_range.2 c1,by simp [h2];omega⟩
   rw[this]at hk;refine xx ?_;exact ZO (ZP hk)
  | false =>
   refine xx ?_;refine⟨k+1,⟨by omega,by omega,fun j hj hj2=>?_⟩,by omega,by simp [Ent,List.lookup],Za.refl _ _⟩;by_cases e:j=k
   ·subst e;exact h2
   ·exact k2 j hj (by omega)
 ·have:((List.range 128).all fun i=>decide (i<s.members.length) || !W4 s.marks i)=true:=by
   rw[List.all_eq_true];intro i hi;have:=List.mem_range.1 hi;by_cases e:i<s.members.length
   ·simp [e]
   ·simp [k2 i (by omega) (by omega)]
  rw[this]at hk;refine xx ?_;exact ZO (ZP hk)
abbrev depV (d:Zn):Value := .agg #[.int .i64 d.acct,.int .i64 d.mem,.int .u64 d.amt,.bool d.new]
def Zzy (d:Zn):Bool:=wi d.acct 0 63&&wi d.mem 0 127 && !(d.new&&decide (d.mem≠0))&&decide (1≤d.amt)&&decide (d.amt≤4611686018427387904)
theorem Vl (hk:K (.slice none 0 0) L h):Zb prog 82 [.slice none 0 0] L h K:=by
 refine ZT func82 rfl (rs:=[_]) rfl rfl ZW (by kernel_rfl) rfl rfl ?_;refine xx ?_;exact ZP hk
theorem Zzu (d:Zn)(ok:ZH d)(hk:∀a n c,K (.tuple #[.slice a n c,.int .i64 (if Zzy d then 0 else 2)]) L h):Zb prog 174 [.slice none 0 0,depV d] L h K:=by
 have ua:=ok.a;refine ZT func174 rfl (rs:=[_,_]) rfl rfl ZW (by kernel_rfl) rfl rfl ?_;refine xx ?_;refine Z1 fun b1 nb1 zb1=>?_;(try simp only[ZU]at nb1);refine xx ?_;refine Ziz _ _ _ ?_
 cases q1:wi d.acct 0 63 with
 | false =>
  simp only[Zzy,q1,Bool.false_and,Bool.false_eq_true,if_false]at hk;refine xx ?_;exact ZO (ZP (hk none 0 0))
 | true =>
 refine xx ?_;refine Ziz _ _ _ ?_
 cases q2:wi d.mem 0 127 with
 | false =>
  simp only[Zzy,q2,Bool.and_false,Bool.false_and,Bool.false_eq_true,if_false]at hk;refine xx ?_;exact ZO (ZP (hk none 0 0))
 | true =>
 have fin1:(d.new&&decide (d.mem≠0))=true→Zzy d=false:=fun e=>by simp only[Zzy,e,Bool.not_true,Bool.and_false,Bool.false_and]
 have rest:(d.new&&decide (d.mem≠0))=false→Zzy d=(decide (1≤d.amt)&&decide (d.amt≤4611686018427387904)):=fun e=>by simp only[Zzy,e,q1,q2,Bool.not_false,Bool.true_and]
 cases q3:d.new with
 | true =>
  have q3':=q3;by_cases q4:d.mem=0
  ·rw[rest (by simp [q4])]at hk;by_cases q5:1≤d.amt
   ·by_cases q6:d.amt≤4611686018427387904
    ·rw[decide_eq_true q5,decide_eq_true q6]at hk;refine xx ?_;refine Yn (.tk 0 (.tkl 2 (.o1 1 (.o1 3 (.o1 4 (.tk 5 (.tk 6 (.fin))) (.nil)) (.nil)) (.o1 3 (.o1 1 (.o1 4 (.tk 5 (.tk 6 (.fin))) (.nil)) (.nil)) (.nil))))) (by kernel_rfl) (by kernel_rfl) _ (Za.refl _ _) ?_;refine xx ?_;refine Yf ?_ ?_
     ·refine xx ?_;refine Vl ?_;refine xkp (Za.refl _ _) ?_;refine xx ?_;refine Z1 fun b2 nb2 zb2=>?_;(try simp only[ZU]at nb2);refine xkp (Za.tail _ _ _) ?_;refine xx ?_;refine Z3 (t:=28) (e:=153) (sz:=4) (bytes:=32) (by kernel_rfl) Zcg rfl rfl rfl rfl (by decide) [_] _ none 0 [] rfl rfl (Src.own (b:=b2) List.mem_cons_self) (m:=1) (news:=[.int .i64 d.acct,.int .i64 d.mem,.int .u64 d.amt,.bool true]) rfl (by intro u hu;simp only[List.mem_cons,List.not_mem_nil,or_false]at hu;rcases hu with rfl|rfl|rfl|rfl<;>rfl) (by decide) (by decide) ?_;intro o' j1 j2 j3;have ho:=Z9 j1;obtain⟨a',c',e',_⟩:=ho;rw[e'];refine xx ?_;refine xkp (Za.trans (Za.tail _ _ _) (Za.oent _ _ _ _ _ _)) ?_;refine xx ?_;exact ZO (Wn (ZO (ZP (hk _ _ _))))
     ·refine xx ?_;refine Z1 fun b2 nb2 zb2=>?_;(try simp only[ZU]at nb2);refine xkp (Za.tail _ _ _) ?_;refine xx ?_;refine Vl ?_;refine xkp (Za.tail _ _ _) ?_;refine xx ?_;refine Z3 (t:=28) (e:=153) (sz:=4) (bytes:=32) (by kernel_rfl) Zcg rfl rfl rfl rfl (by decide) [_] _ none 0 [] rfl rfl (Src.own (b:=b2) List.mem_cons_self) (m:=1) (news:=[.int .i64 d.acct,.int .i64 d.mem,.int .u64 d.amt,.bool true]) rfl (by intro u hu;simp only[List.mem_cons,List.not_mem_nil,or_false]at hu;rcases hu with rfl|rfl|rfl|rfl<;>rfl) (by decide) (by decide) ?_;intro o' j1 j2 j3;have ho:=Z9 j1;obtain⟨a',c',e',_⟩:=ho;rw[e'];refine xx ?_;refine xkp (Za.trans (Za.tail _ _ _) (Za.oent _ _ _ _ _ _)) ?_;refine xx ?_;exact ZO (Wn (ZO (ZP (hk _ _ _))))
    ·simp only[decide_eq_false q6,Bool.and_false,Bool.false_eq_true,if_false]at hk;refine xx ?_;exact ZO (ZP (hk none 0 0))
   ·simp only[decide_eq_false q5,Bool.false_and,Bool.false_eq_true,if_false]at hk;refine xx ?_;exact ZO (ZP (hk none 0 0))
  ·rw[fin1 (by simp [q3,q4])]at hk;refine xx ?_;exact ZO (ZP (hk none 0 0))
 | false =>
  rw[rest (by simp [q3])]at hk;by_cases q5:1≤d.amt
  ·by_cases q6:d.amt≤4611686018427387904
   ·rw[decide_eq_true q5,decide_eq_true q6]at hk;refine xx ?_;refine Yn (.tk 0 (.tkl 2 (.o1 1 (.o1 3 (.o1 4 (.tk 5 (.tk 6 (.fin))) (.nil)) (.nil)) (.o1 3 (.o1 1 (.o1 4 (.tk 5 (.tk 6 (.fin))) (.nil)) (.nil)) (.nil))))) (by kernel_rfl) (by kernel_rfl) _ (Za.refl _ _) ?_;refine xx ?_;refine Yf ?_ ?_
    ·refine xx ?_;refine Vl ?_;refine xkp (Za.refl _ _) ?_;refine xx ?_;refine Z1 fun b2 nb2 zb2=>?_;(try simp only[ZU]at nb2);refine xkp (Za.tail _ _ _) ?_;refine xx ?_;refine Z3 (t:=28) (e:=153) (sz:=4) (bytes:=32) (by kernel_rfl) Zcg rfl rfl rfl rfl (by decide) [_] _ none 0 [] rfl rfl (Src.own (b:=b2) List.mem_cons_self) (m:=1) (news:=[.int .i64 d.acct,.int .i64 d.mem,.int .u64 d.amt,.bool false]) rfl (by intro u hu;simp only[List.mem_cons,List.not_mem_nil,or_false]at hu;rcases hu with rfl|rfl|rfl|rfl<;>rfl) (by decide) (by decide) ?_;intro o' j1 j2 j3;have ho:=Z9 j1;obtain⟨a',c',e',_⟩:=ho;rw[e'];refine xx ?_;refine xkp (Za.trans (Za.tail _ _ _) (Za.oent _ _ _ _ _ _)) ?_;refine xx ?_;exact ZO (Wn (ZO (ZP (hk _ _ _))))
    ·refine xx ?_;refine Z1 fun b2 nb2 zb2=>?_;(try simp only[ZU]at nb2);refine xkp (Za.tail _ _ _) ?_;refine xx ?_;refine Vl ?_;refine xkp (Za.tail _ _ _) ?_;refine xx ?_;refine Z3 (t:=28) (e:=153) (sz:=4) (bytes:=32) (by kernel_rfl) Zcg rfl rfl rfl rfl (by decide) [_] _ none 0 [] rfl rfl (Src.own (b:=b2) List.mem_cons_self) (m:=1) (news:=[.int .i64 d.acct,.int .i64 d.mem,.int .u64 d.amt,.bool false]) rfl (by intro u hu;simp only[List.mem_cons,List.not_mem_nil,or_false]at hu;rcases hu with rfl|rfl|rfl|rfl<;>rfl) (by decide) (by decide) ?_;intro o' j1 j2 j3;have ho:=Z9 j1;obtain⟨a',c',e',_⟩:=ho;rw[e'];refine xx ?_;refine xkp (Za.trans (Za.tail _ _ _) (Za.oent _ _ _ _ _ _)) ?_;refine xx ?_;exact ZO (Wn (ZO (ZP (hk _ _ _))))
   ·simp only[decide_eq_false q6,Bool.and_false,Bool.false_eq_true,if_false]at hk;refine xx ?_;exact ZO (ZP (hk none 0 0))
  ·simp only[decide_eq_false q5,Bool.false_and,Bool.false_eq_true,if_false]at hk;refine xx ?_;exact ZO (ZP (hk none 0 0))
def G6 (s:Ze)(d:Zn):Bool:=Zzy d&&VB s d.acct&&(d.new||wi d.mem 0 ((s.members.length:Int)-1))
def JU (s:Ze)(d:Zh):Bool:=VB s d.acct&&wi d.at' 0 2147483647&&decide (1≤d.amt)&&decide (d.amt≤4611686018427387904)
def Zqy (l:List Zh)(k:Nat):Bool:=(List.range k).any fun j=>decide ((gr ZY l k).acct=(gr ZY l j).acct)&&decide ((gr ZY l k).at'=(gr ZY l j).at')
def Zuy (l:List Zh)(k:Nat):Bool:=decide (k=0)||decide ((gr ZY l (k-1)).at'≤(gr ZY l k).at')
def Zhl (s:Ze)(k:Nat):Bool:=JU s (gr ZY s.dues k) && !Zqy s.dues k&&Zuy s.dues k
def Zei (s:Ze):Bool:=(List.range s.dues.length).all (Zhl s)
def Jm (s:Ze):Bool:=decide (s.pool.length≤256)&&s.pool.all (G6 s)&&Zei s
theorem Zuz:prog.underlying 235=some (.map 156 4):=by kernel_rfl
theorem Zvf:Yxu prog 156 [.i64,.i64,.u64]:=⟨by kernel_rfl,by kernel_rfl,by kernel_rfl⟩
theorem Zzh (W:World):(zeroValue 4:Sem Value).run prog W = .ok (.bool false) W:=by kernel_rfl
def Zpu (d:Zh):List Int:=[d.acct,d.at',0]
def esD (l:List Zh)(k:Nat):List (List Int×Value):=(l.take k).map fun d=>(Zpu d,.bool true)
theorem Zle {l:List Zh}{k:Nat}(hk:k<l.length):esD l (k+1)=esD l k++[(Zpu (gr ZY l k),.bool true)]:=by
 rw[Z5 hk,esD,esD,List.take_succ_eq_append_getElem hk,List.map_append];rfl
theorem Zjv (l:List Zh)(k:Nat):∀e∈esD l k,e.1.length=3:=fun e he=>by
 obtain⟨d,_,rfl⟩:=List.mem_map.1 he;rfl
theorem Zsy {es:List (List Int×Value)}{n:List Int}(h:∀e∈es,e.1≠n):Zmg es n=none:=by
 induction es with
 | nil=>rfl
 | cons e es ih=>rw[Zmg,if_neg (fun c=>h e (by simp) c.symm)];exact ih fun x hx=>h x (by simp [hx])
theorem Zqj {es:List (List Int×Value)}{n:List Int}{v:Value}(h:∃e∈es,e.1=n)(hv:∀e∈es,e.2=v):Zmg es n=some v:=by
 induction es with
 | nil=>obtain⟨e,he,_⟩:=h;cases he
 | cons e es ih =>
  rw[Zmg];split
  ·rw[hv e (by simp)]
  ·rename_i c;refine ih ?_ fun x hx=>hv x (by simp [hx]);obtain⟨x,hx,hxe⟩:=h;rcases List.mem_cons.1 hx with rfl|hx
   ·exact absurd hxe.symm c
   ·exact⟨x,hx,hxe⟩
theorem keyD_eq {a b:Zh}:Zpu a=Zpu b↔a.acct=b.acct∧a.at'=b.at':=by simp [Zpu]
theorem Zcs {l:List Zh}{k:Nat}(hk:k<l.length):(Zqy l k=false→Zmg (esD l k) (Zpu (gr ZY l k))=none)∧(Zqy l k=true→Zmg (esD l k) (Zpu (gr ZY l k))=some (.bool true)):=by
 constructor
 ·intro hm;rw[Zqy,List.any_eq_false]at hm;refine Zsy fun e he hc=>?_;obtain⟨d,hd,rfl⟩:=List.mem_map.1 he;obtain⟨j,hj,rfl⟩:=List.mem_iff_getElem.1 hd;simp only[List.length_take]at hj;have:=hm j (List.mem_range.2 (by omega));rw[List.getElem_take]at hc;have hc':=keyD_eq.1 hc;rw[Z5 (l:=l) (i:=j) (by omega)]at this;simp [hc'.1,hc'.2]at this
 ·intro hm;rw[Zqy,List.any_eq_true]at hm;obtain⟨j,hj,hq⟩:=hm;have hj':=List.mem_range.1 hj;simp only[Bool.and_eq_true,decide_eq_true_eq]at hq;refine Zqj ⟨(Zpu (gr ZY l j),.bool true),?_,keyD_eq.2 ⟨hq.1.symm,hq.2.symm⟩⟩ fun e he=>?_
  ·refine List.mem_map.2 ⟨gr ZY l j,?_,rfl⟩;rw[Z5 (by omega)];exact List.mem_iff_getElem.2 ⟨j,by simp;omega,by simp⟩
  ·obtain⟨d,_,rfl⟩:=List.mem_map.1 he;rfl
theorem Yfw {l:List Zh}{k:Nat}(hk:k<l.length):(Zmg (esD l k) (Zpu (gr ZY l k))).getD (.bool false) = .bool (Zqy l k):=by
 cases hm:Zqy l k with
 | false=>rw[(Zcs hk).1 hm];rfl
 | true=>rw[(Zcs hk).2 hm];rfl
theorem VA {s:Ze}{k:Nat}(hk:k<s.dues.length)(hq:Zhl s k=false):Zei s=false:=by
 rw[Zei,List.all_eq_false];exact⟨k,List.mem_range.2 hk,by simp [hq]⟩
theorem Zsq {s:Ze}(v:SV)(hs:Zo h v s)(few:ZC s)(hk:K (.bool (Jm s)) L h):Zb prog 63 [stV s v] L h K:=by
 obtain⟨pa,pc,ma,mc,ea,ec,xa,xc,oa,oc,da,dc,ta,tc,ka,kc,ra,rc,rfl⟩:=hs.slices;have ho:Zg Un 4 h (.slice oa s.pool.length oc) s.pool:=hs.o;have hd:Zg Yo 3 h (.slice da s.dues.length dc) s.dues:=hs.d;have fm:=few.m;have fo:=few.o;have fd:=few.d;unfold Jm at hk;refine ZT func63 rfl (rs:=[_]) rfl rfl ZW (by kernel_rfl) rfl rfl ?_;refine xx ?_;refine Z1 fun b1 nb1 zb1=>?_;(try simp only[ZU]at nb1);refine xx ?_;by_cases c0:s.pool.length≤256
 ·rw[decide_eq_true c0,Bool.true_and]at hk;refine xx ?_;refine YP (0:Nat) (fun k=>k≤s.pool.length∧∀j,j<k→G6 s (gr Yv s.pool j)=true) (fun k=>[(20,.int .i64 k),(19,.int .i64 s.pool.length),(18,.slice oa s.pool.length oc),(1,.pointer (some ⟨b1,0,none⟩))]) (fun _=>⟨b1,127,stC s ⟨.slice pa s.purses.length pc,.slice ma s.members.length mc,.slice ea s.entry.length ec,.slice xa s.exit.length xc,.slice oa s.pool.length oc,.slice da s.dues.length dc,.slice ta s.motions.length tc,.slice ka s.marks.length kc,.slice ra s.ring.length rc⟩,41⟩::L) (fun _=>h) (fun k=>s.pool.length-k) ?_ ?_ ?_ ?_
  ·exact⟨Nat.zero_le _,fun j hj=>by omega⟩
  ·simp [Ent,List.lookup,Wc]
  ·exact Za.refl _ _
  rintro k ⟨k1,k2⟩;by_cases c1:k<s.pool.length
  ·have hxo:=hs.oo (gr Yv s.pool k) (by rw[Z5 c1];exact List.getElem_mem c1);simp -dsimp -implicitDefEqProofs (disch:=first|with_reducible assumption|omega) [go_sem,↓Ut Yv (by decide) ho,Un];refine Z1 fun b2 nb2 zb2=>?_;(try simp only[ZU]at nb2);simp -dsimp -implicitDefEqProofs (disch:=first|with_reducible assumption|omega) [go_sem,Un];refine Zzu (gr Yv s.pool k) hxo fun a' n' c'=>?_
   cases q1:Zzy (gr Yv s.pool k) with
   | false =>
    rw[YJ Yv _ _ c1 (by simp only[G6,q1,Bool.false_and])]at hk;refine xx ?_;exact ZO (ZO (ZP (by simpa using hk)))
   | true =>
   refine xx ?_;refine Vg _ hs few _ ?_
   cases q2:VB s (gr Yv s.pool k).acct with
   | false =>
    rw[YJ Yv _ _ c1 (by simp only[G6,q2,Bool.and_false,Bool.false_and])]at hk;refine xx ?_;exact ZO (ZO (ZP (by simpa using hk)))
   | true =>
   have next:G6 s (gr Yv s.pool k)=true→∀j,j<k+1→G6 s (gr Yv s.pool j)=true:=fun hq j hj=>by
    by_cases e:j=k
    ·subst e;exact hq
    ·exact k2 j (by omega)
   cases q3:(gr Yv s.pool k).new with
   | true =>
    refine xx ?_;exact⟨k+1,⟨by omega,next (by simp only[G6,q1,q2,q3,Bool.true_and,Bool.true_or])⟩,by omega,by simp [Ent,List.lookup],Za.tail _ _ _⟩
   | false =>
    refine xx ?_;refine Uw _ _ _ ?_
    cases q4:wi (gr Yv s.pool k).mem 0 ((s.members.length:Int)-1) with
    | false =>
     rw[YJ Yv _ _ c1 (by simp only[G6,q3,q4,Bool.or_self,Bool.and_false])]at hk;refine xx ?_;exact ZO (ZO (ZP (by simpa using hk)))
    | true =>
     refine xx ?_;exact⟨k+1,⟨by omega,next (by simp only[G6,q1,q2,q3,q4,Bool.true_and,Bool.false_or])⟩,by omega,by simp [Ent,List.lookup],Za.tail _ _ _⟩
  ·have hkl:k=s.pool.length:=by omega
   subst hkl;rw[J3 Yv _ _ k2,Bool.true_and]at hk;refine xx ?_;refine Zwk fun bm n_bm h_bm=>?_;(try simp only[ZU]at n_bm);refine xx ?_;refine YP (0:Nat) (fun k=>k≤s.dues.length∧∀j,j<k→Zhl s j=true) (fun k=>[(60,.int .i64 k),(59,.int .i64 s.dues.length),(58,.slice da s.dues.length dc),(7,.map (some bm)),(1,.pointer (some ⟨b1,0,none⟩))]) (fun k=>⟨bm,4294967295,Zpv [.i64,.i64,.u64] (esD s.dues k),0⟩::⟨b1,127,stC s ⟨.slice pa s.purses.length pc,.slice ma s.members.length mc,.slice ea s.entry.length ec,.slice xa s.exit.length xc,.slice oa s.pool.length oc,.slice da s.dues.length dc,.slice ta s.motions.length tc,.slice ka s.marks.length kc,.slice ra s.ring.length rc⟩,41⟩::L) (fun _=>h) (fun k=>s.dues.length-k) ?_ ?_ ?_ ?_
   ·exact⟨Nat.zero_le _,fun j hj=>by omega⟩
   ·simp [Ent,List.lookup,Wc]
   ·exact Za.refl _ _
   rintro k ⟨k1,k2⟩;by_cases c1:k<s.dues.length
   ·have hxo:=hs.dd (gr ZY s.dues k) (by rw[Z5 c1];exact List.getElem_mem c1);have ua:=hxo.a;simp -dsimp -implicitDefEqProofs (disch:=first|with_reducible assumption|omega) [go_sem,↓Ut ZY (by decide) hd,Yo];refine Z1 fun b9 nb9 zb9=>?_;(try simp only[ZU]at nb9);simp -dsimp -implicitDefEqProofs (disch:=first|with_reducible assumption|omega) [go_sem,Yo];refine Z1 fun b10 nb10 zb10=>?_;(try simp only[ZU]at nb10);simp -dsimp -implicitDefEqProofs (disch:=first|with_reducible assumption|omega) [go_sem,Yo];refine UU (by kernel_rfl) rfl ?_;refine xx ?_;have key:Zhl s k=true→∀j,j<k+1→Zhl s j=true:=fun hq j hj=>by
     by_cases e:j=k
     ·subst e;exact hq
     ·exact k2 j (by omega)
    refine Zmv _ (Vg _ hs few _ ⟨rfl,rfl,rfl⟩) ?_
    cases q1:VB s (gr ZY s.dues k).acct with
    | false =>
     rw[VA c1 (by simp only[Zhl,JU,q1,Bool.and_false,Bool.false_and,Bool.not_true])]at hk;refine xx ?_;exact ZO (ZO (ZO (ZO (ZP hk))))
    | true =>
    refine xx ?_;refine Zmv _ (Uw _ _ _ ⟨rfl,rfl,rfl⟩) ?_
    cases q2:wi (gr ZY s.dues k).at' 0 2147483647 with
    | false =>
     rw[VA c1 (by simp only[Zhl,JU,q2,Bool.and_false,Bool.false_and,Bool.not_true])]at hk;refine xx ?_;exact ZO (ZO (ZO (ZO (ZP hk))))
    | true =>
    by_cases q3:1≤(gr ZY s.dues k).amt
    ·by_cases q4:(gr ZY s.dues k).amt≤4611686018427387904
     ·refine xx ?_;refine Zuj (n:=Zpu (gr ZY s.dues k)) Zuz Zvf Zzh rfl (esD s.dues k) (Zjv _ _) (List.mem_cons_of_mem _ (List.mem_cons_of_mem _ List.mem_cons_self)) ?_;rw[Yfw c1];simp only[Bool.false_eq_true,if_false]
      cases q5:Zqy s.dues k with
      | true =>
       rw[VA c1 (by simp only[Zhl,JU,q5,Bool.and_false,Bool.false_and,Bool.not_true])]at hk;refine xx ?_;exact ZO (ZO (ZO (ZO (ZP hk))))
      | false =>
      by_cases c2:k=0
      ·have q6:Zuy s.dues k=true:=by simp [Zuy,c2]
       have c3:¬(0<(k:Int)):=by omega
       refine xx ?_;refine Zhg (n:=Zpu (gr ZY s.dues k)) Zuz Zvf rfl [_,_] _ (esD s.dues k) (Zjv _ _) ((Zcs c1).1 q5) ?_;rw[← Zle c1];refine xx ?_;exact⟨k+1,⟨by omega,key (by simp only[Zhl,JU,q1,q2,q5,q6,decide_eq_true q3,decide_eq_true q4,Bool.and_self,Bool.not_false])⟩,by omega,by simp [Ent,List.lookup],Za.trans (Za.tail _ _ _) (Za.tail _ _ _)⟩
      ·have e1:((k:Int)-1).toNat=k-1:=by omega
       by_cases c4:(gr ZY s.dues (k-1)).at'≤(gr ZY s.dues k).at'
       ·have q6:Zuy s.dues k=true:=by simp [Zuy,c4]
        simp -dsimp -implicitDefEqProofs (disch:=first|with_reducible assumption|omega) [go_sem,↓Ut ZY (by decide) hd,e1];refine(Zg.fld ZY hd (j:=k-1) (o:=1) (by omega) (u:=.int .i64 (gr ZY s.dues (k-1)).at') rfl _ _ _).mpr ?_;refine xx ?_;refine Zhg (n:=Zpu (gr ZY s.dues k)) Zuz Zvf rfl [_,_] _ (esD s.dues k) (Zjv _ _) ((Zcs c1).1 q5) ?_;rw[← Zle c1];refine xx ?_;exact⟨k+1,⟨by omega,key (by simp only[Zhl,JU,q1,q2,q5,q6,decide_eq_true q3,decide_eq_true q4,Bool.and_self,Bool.not_false])⟩,by omega,by simp [Ent,List.lookup],Za.trans (Za.tail _ _ _) (Za.tail _ _ _)⟩
       ·have q6:Zuy s.dues k=false:=by simp [Zuy,c2,c4]
        simp -dsimp -implicitDefEqProofs (disch:=first|with_reducible assumption|omega) [go_sem,↓Ut ZY (by decide) hd,e1];refine(Zg.fld ZY hd (j:=k-1) (o:=1) (by omega) (u:=.int .i64 (gr ZY s.dues (k-1)).at') rfl _ _ _).mpr ?_;rw[VA c1 (by simp only[Zhl,JU,q6,Bool.and_false,Bool.false_and,Bool.not_true])]at hk;refine xx ?_;exact ZO (ZO (ZO (ZO (ZP hk))))
     ·have q4':=decide_eq_false q4;rw[VA c1 (by simp only[Zhl,JU,q4',Bool.and_false,Bool.false_and,Bool.not_true])]at hk;refine xx ?_;exact ZO (ZO (ZO (ZO (ZP hk))))
    ·have q3':=decide_eq_false q3;rw[VA c1 (by simp only[Zhl,JU,q3',Bool.and_false,Bool.false_and,Bool.not_true])]at hk;refine xx ?_;exact ZO (ZO (ZO (ZO (ZP hk))))
   ·have hkl:k=s.dues.length:=by omega
    subst hkl;have hq:Zei s=true:=by
     rw[Zei,List.all_eq_true];exact fun j hj=>k2 j (List.mem_range.1 hj)
    rw[hq]at hk;refine xx ?_;exact ZO (ZO (ZP hk))
 ·rw[decide_eq_false c0]at hk;refine xx ?_;exact ZO (ZP (by simpa using hk))
def YZ (s:Ze):Bool:=YI s.par&&wi s.ep 0 1073741824&&wi s.calm 0 1073741824&&Uj s&&WK s&&Jm s&&Vq s&&Jj s&&WL s
theorem JE {s:Ze}(v:SV)(hs:Zo h v s)(few:ZC s)(hk:K (.bool (YZ s)) L h):Zb prog 15 [stV s v] L h K:=by
 obtain⟨pa,pc,ma,mc,ea,ec,xa,xc,oa,oc,da,dc,ta,tc,ka,kc,ra,rc,rfl⟩:=hs.slices;refine ZT func15 rfl (rs:=[_]) rfl rfl ZW (by kernel_rfl) rfl rfl ?_;refine xx ?_;refine Z1 fun b1 nb1 zb1=>?_;(try simp only[ZU]at nb1);refine xx ?_;refine Z1 fun b2 nb2 zb2=>?_;(try simp only[ZU]at nb2);refine xx ?_;refine WJ s.par hs.ok.p ?_
 cases q1:YI s.par with
 | false =>
  simp only[YZ,q1,Bool.false_and]at hk;refine xx ?_;exact ZO (ZO (ZP hk))
 | true =>
 refine xx ?_;refine Uw _ _ _ ?_
 cases q2:wi s.ep 0 1073741824 with
 | false =>
  simp only[YZ,q2,Bool.and_false,Bool.false_and]at hk;refine xx ?_;exact ZO (ZO (ZP hk))
 | true =>
 refine xx ?_;refine Uw _ _ _ ?_
 cases q3:wi s.calm 0 1073741824 with
 | false =>
  simp only[YZ,q3,Bool.and_false,Bool.false_and]at hk;refine xx ?_;exact ZO (ZO (ZP hk))
 | true =>
 refine xx ?_;refine Zpn (s:=s) ⟨.slice pa s.purses.length pc,.slice ma s.members.length mc,.slice ea s.entry.length ec,.slice xa s.exit.length xc,.slice oa s.pool.length oc,.slice da s.dues.length dc,.slice ta s.motions.length tc,.slice ka s.marks.length kc,.slice ra s.ring.length rc⟩ hs few ?_
 cases q4:Uj s with
 | false =>
  simp only[YZ,q4,Bool.and_false,Bool.false_and]at hk;refine xx ?_;exact ZO (ZO (ZP hk))
 | true =>
 refine xx ?_;refine Zjf (s:=s) ⟨.slice pa s.purses.length pc,.slice ma s.members.length mc,.slice ea s.entry.length ec,.slice xa s.exit.length xc,.slice oa s.pool.length oc,.slice da s.dues.length dc,.slice ta s.motions.length tc,.slice ka s.marks.length kc,.slice ra s.ring.length rc⟩ hs few q1 ?_
 cases q5:WK s with
 | false =>
  simp only[YZ,q5,Bool.and_false,Bool.false_and]at hk;refine xx ?_;exact ZO (ZO (ZP hk))
 | true =>
 refine xx ?_;refine Zsq (s:=s) ⟨.slice pa s.purses.length pc,.slice ma s.members.length mc,.slice ea s.entry.length ec,.slice xa s.exit.length xc,.slice oa s.pool.length oc,.slice da s.dues.length dc,.slice ta s.motions.length tc,.slice ka s.marks.length kc,.slice ra s.ring.length rc⟩ hs few ?_
 cases q6:Jm s with
 | false =>
  simp only[YZ,q6,Bool.and_false,Bool.false_and]at hk;refine xx ?_;exact ZO (ZO (ZP hk))
 | true =>
 refine xx ?_;refine Zkk (s:=s) ⟨.slice pa s.purses.length pc,.slice ma s.members.length mc,.slice ea s.entry.length ec,.slice xa s.exit.length xc,.slice oa s.pool.length oc,.slice da s.dues.length dc,.slice ta s.motions.length tc,.slice ka s.marks.length kc,.slice ra s.ring.length rc⟩ hs few ?_
 cases q7:Vq s with
 | false =>
  simp only[YZ,q7,Bool.and_false,Bool.false_and]at hk;refine xx ?_;exact ZO (ZO (ZP hk))
 | true =>
 refine xx ?_;refine Zqn (s:=s) ⟨.slice pa s.purses.length pc,.slice ma s.members.length mc,.slice ea s.entry.length ec,.slice xa s.exit.length xc,.slice oa s.pool.length oc,.slice da s.dues.length dc,.slice ta s.motions.length tc,.slice ka s.marks.length kc,.slice ra s.ring.length rc⟩ hs few ?_
 cases q8:Jj s with
 | false =>
  simp only[YZ,q8,Bool.and_false,Bool.false_and]at hk;refine xx ?_;exact ZO (ZO (ZP hk))
 | true =>
 simp only[YZ,q1,q2,q3,q4,q5,q6,q7,q8,Bool.and_self,Bool.true_and]at hk;refine xx ?_;refine Zro (s:=s) ⟨.slice pa s.purses.length pc,.slice ma s.members.length mc,.slice ea s.entry.length ec,.slice xa s.exit.length xc,.slice oa s.pool.length oc,.slice da s.dues.length dc,.slice ta s.motions.length tc,.slice ka s.marks.length kc,.slice ra s.ring.length rc⟩ hs few ?_;refine xx ?_;exact ZO (ZO (ZP hk))
theorem UH (m:Zc)(hk:K (.bool (decide (m.status=2∨m.status=3))) L h):Zb prog 47 [Zxc m] L h K:=by
 refine ZT func47 rfl (rs:=[_]) rfl rfl ZW (by kernel_rfl) rfl rfl ?_;refine xx ?_;refine Z1 fun b1 nb1 zb1=>?_;(try simp only[ZU]at nb1);refine xx ?_;by_cases c:m.status=2
 ·refine xx ?_;exact ZO (ZP (by simpa [c] using hk))
 ·refine xx ?_;exact ZO (ZP (by simpa [c] using hk))
def Zhp (s:Ze):Bool:=decide (s.purses.length≤100)&&decide (s.members.length≤200)&&decide (s.entry.length≤300)&&decide (s.exit.length≤300)&&decide (s.pool.length≤300)&&decide (s.dues.length≤200)&&decide (s.motions.length≤40)&&decide (s.ring.length≤20)&&decide (s.marks.length≤50)
def Zbf (s:Ze):Bool:=Zhp s&&s.ring.all (fun b=>decide (b.length≤50))&&s.motions.all (fun m=>decide (m.yes.length≤50)&&decide (m.no.length≤50))
theorem Zmo {s:Ze}(hf:Zhp s=true):s.purses.length≤100∧s.members.length≤200∧s.entry.length≤300∧s.exit.length≤300∧s.pool.length≤300∧s.dues.length≤200∧s.motions.length≤40∧s.ring.length≤20∧s.marks.length≤50:=by
 simp only[Zhp,Bool.and_eq_true,decide_eq_true_eq]at hf;omega
theorem Ybl {s:Ze}(hf:Zbf s=true):Zhp s=true:=by
 simp only[Zbf,Bool.and_eq_true]at hf;exact hf.1.1
theorem Zvj {s:Ze}(v:SV)(hs:Zo h v s)(hk:K (.bool (Zbf s)) L h):Zb prog 14 [stV s v] L h K:=by
 obtain⟨pa,pc,ma,mc,ea,ec,xa,xc,oa,oc,da,dc,ta,tc,ka,kc,ra,rc,rfl⟩:=hs.slices;have no:Zbf s=false→K (.bool false) L h:=fun e=>by rwa [e]at hk
 refine ZT func14 rfl (rs:=[_]) rfl rfl ZW (by kernel_rfl) rfl rfl ?_;refine xx ?_;refine Z1 fun b1 nb1 zb1=>?_;(try simp only[ZU]at nb1);refine xx ?_;by_cases c1:100<s.purses.length
 ·have:=no (by simp only[Zbf,Zhp,decide_eq_false (p:=s.purses.length≤100) (by omega),Bool.false_and,Bool.and_false]);refine xx ?_;exact ZO (ZP this)
 by_cases c2:200<s.members.length
 ·have:=no (by simp only[Zbf,Zhp,decide_eq_false (p:=s.members.length≤200) (by omega),Bool.false_and,Bool.and_false]);refine xx ?_;exact ZO (ZP this)
 by_cases c3:300<s.entry.length
 ·have:=no (by simp only[Zbf,Zhp,decide_eq_false (p:=s.entry.length≤300) (by omega),Bool.false_and,Bool.and_false]);refine xx ?_;exact ZO (ZP this)
 by_cases c4:300<s.exit.length
 ·have:=no (by simp only[Zbf,Zhp,decide_eq_false (p:=s.exit.length≤300) (by omega),Bool.false_and,Bool.and_false]);refine xx ?_;exact ZO (ZP this)
 by_cases c5:300<s.pool.length
 ·have:=no (by simp only[Zbf,Zhp,decide_eq_false (p:=s.pool.length≤300) (by omega),Bool.false_and,Bool.and_false]);refine xx ?_;exact ZO (ZP this)
 by_cases c6:200<s.dues.length
 ·have:=no (by simp only[Zbf,Zhp,decide_eq_false (p:=s.dues.length≤200) (by omega),Bool.false_and,Bool.and_false]);refine xx ?_;exact ZO (ZP this)
 by_cases c7:40<s.motions.length
 ·have:=no (by simp only[Zbf,Zhp,decide_eq_false (p:=s.motions.length≤40) (by omega),Bool.false_and,Bool.and_false]);refine xx ?_;exact ZO (ZP this)
 by_cases c8:20<s.ring.length
 ·have:=no (by simp only[Zbf,Zhp,decide_eq_false (p:=s.ring.length≤20) (by omega),Bool.false_and,Bool.and_false]);refine xx ?_;exact ZO (ZP this)
 by_cases c9:50<s.marks.length
 ·have:=no (by simp only[Zbf,Zhp,decide_eq_false (p:=s.marks.length≤50) (by omega),Bool.false_and,Bool.and_false]);refine xx ?_;exact ZO (ZP this)
 have f9:Zhp s=true:=by
  simp only[Zhp,Bool.and_eq_true,decide_eq_true_eq];omega
 obtain⟨qr,hdr,tr⟩:=hs.r;have hqr:qr.length=s.ring.length:=by rw[← tr,WI]
 simp only at hdr;obtain⟨_,_,hre,_,_,_,hcr,hdd⟩:=hdr.open;injection hre with hre1 hre2 hre3
 subst hre1;subst hre3;have hcr':∀j,j<s.ring.length→Yc h ra j=some ((fun j=>(gs qr j).1) j):=fun j hj=>hcr j (by omega);have hgs:∀j,j<qr.length→gr [] s.ring j=(gs qr j).2:=fun j hj=>by
  rw[← tr,Z5 (by rw[WI];exact hj),Ge hj];simp [xsL]
 refine xx ?_;refine YP (0:Nat) (fun k=>k≤s.ring.length∧∀j,j<k→(fun b:List Int=>decide (b.length≤50)) (gr [] s.ring j)=true) (fun k=>[(62,.int .i64 k),(61,.int .i64 s.ring.length),(60,.slice ra s.ring.length rc),(1,.pointer (some ⟨b1,0,none⟩))]) (fun _=>⟨b1,34,stC s ⟨.slice pa s.purses.length pc,.slice ma s.members.length mc,.slice ea s.entry.length ec,.slice xa s.exit.length xc,.slice oa s.pool.length oc,.slice da s.dues.length dc,.slice ta s.motions.length tc,.slice ka s.marks.length kc,.slice ra s.ring.length rc⟩,41⟩::L) (fun _=>h) (fun k=>s.ring.length-k) ?_ ?_ ?_ ?_
 ·exact⟨Nat.zero_le _,fun j hj=>by omega⟩
 ·simp [Ent,List.lookup,Wc]
 ·exact Za.refl _ _
 rintro k ⟨k1,k2⟩;by_cases d1:k<s.ring.length
 ·have hi:=hdd.at (i:=k) (by omega);obtain⟨x1,y1,hv1,_⟩:=hi.open;have hg:=hgs k (by omega);simp -dsimp -implicitDefEqProofs (disch:=first|with_reducible assumption|omega) [go_sem,idx hcr',hv1];by_cases d2:50<(gs qr k).2.length
  ·have:=no (by simp only[Zbf,YJ [] (fun b:List Int=>decide (b.length≤50)) s.ring d1 (by rw[hg];exact decide_eq_false (by omega)),Bool.false_and,Bool.and_false]);refine xx ?_;exact ZO (ZP this)
  ·refine xx ?_;refine⟨k+1,⟨by omega,fun j hj=>?_⟩,by omega,by simp [Ent,List.lookup],Za.refl _ _⟩;by_cases e:j=k
   ·subst e;rw[hg];first|omega|exact decide_eq_true (by omega)
   ·first|exact k2 j (by omega)|simpa using k2 j (by omega)
 have hkl:k=s.ring.length:=by omega
 subst hkl;have rall:=J3 [] (fun b:List Int=>decide (b.length≤50)) s.ring k2;clear k2 d1 k1;obtain⟨q,hd,t2,t3⟩:=hs.t;have hql:q.length=s.motions.length:=by rw[← t2,List.length_map]
 have hgr:∀k,k<q.length→gr Yb s.motions k=(gr Z2 q k).2.2:=fun k hk=>by
  rw[Z5 hk,Z5 (by omega)];simp only[← t2,List.getElem_map]
 simp only at hd;refine xx ?_;refine YP (0:Nat) (fun k=>k≤s.motions.length∧∀j,j<k→(fun m:Zm=>decide (m.yes.length≤50)&&decide (m.no.length≤50)) (gr Yb s.motions j)=true) (fun k=>[(73,.int .i64 k),(72,.int .i64 s.motions.length),(71,.slice ta s.motions.length tc),(1,.pointer (some ⟨b1,0,none⟩))]) (fun _=>⟨b1,34,stC s ⟨.slice pa s.purses.length pc,.slice ma s.members.length mc,.slice ea s.entry.length ec,.slice xa s.exit.length xc,.slice oa s.pool.length oc,.slice da s.dues.length dc,.slice ta s.motions.length tc,.slice ka s.marks.length kc,.slice ra s.ring.length rc⟩,41⟩::L) (fun _=>h) (fun k=>s.motions.length-k) ?_ ?_ ?_ ?_
 ·exact⟨Nat.zero_le _,fun j hj=>by omega⟩
 ·simp [Ent,List.lookup,Wc]
 ·exact Za.refl _ _
 rintro k ⟨k1,k2⟩;by_cases d1:k<s.motions.length
 ·have hx:Zq h (gr Z2 q k):=by rw[Z5 (by omega)];exact t3 _ (List.getElem_mem (by omega))
  have hg:=hgr k (by omega);obtain⟨x1,y1,hv1,_⟩:=hx.y.open;obtain⟨x2,y2,hv2,_⟩:=hx.n.open;simp -dsimp -implicitDefEqProofs (disch:=first|with_reducible assumption|omega) [go_sem,↓Ut Z2 (by decide) hd,YW];refine Z1 fun b2 nb2 zb2=>?_;(try simp only[ZU]at nb2);simp -dsimp -implicitDefEqProofs (disch:=first|with_reducible assumption|omega) [go_sem,YW,hv1,hv2];by_cases d2:50<(gr Z2 q k).2.2.yes.length
  ·have:=no (by simp only[Zbf,YJ Yb (fun m:Zm=>decide (m.yes.length≤50)&&decide (m.no.length≤50)) s.motions d1 (by rw[hg];simp;omega),Bool.and_false]);refine xx ?_;exact ZO (ZO (ZP this))
  by_cases d3:50<(gr Z2 q k).2.2.no.length
  ·have:=no (by simp only[Zbf,YJ Yb (fun m:Zm=>decide (m.yes.length≤50)&&decide (m.no.length≤50)) s.motions d1 (by rw[hg];simp;omega),Bool.and_false]);refine xx ?_;exact ZO (ZO (ZP this))
  refine xx ?_;refine⟨k+1,⟨by omega,fun j hj=>?_⟩,by omega,by simp [Ent,List.lookup],Za.tail _ _ _⟩;by_cases e:j=k
  ·subst e;rw[hg];first|omega|(simp;omega)
  ·first|exact k2 j (by omega)|simpa using k2 j (by omega)
 ·have hkl:k=s.motions.length:=by omega
  subst hkl;have tall:=J3 Yb (fun m:Zm=>decide (m.yes.length≤50)&&decide (m.no.length≤50)) s.motions k2;have yes:Zbf s=true:=by simp only[Zbf,f9,rall,tall,Bool.and_self]
  rw[yes]at hk;refine xx ?_;exact ZO (ZP hk)
theorem Zov {h:PH}{v:Value}{n:Nat}(sl:Sl h v n 1 (List.replicate n (.int .u8 0))):Ints h .u8 v (List.replicate n 0) :=
 ⟨by simpa [List.map_replicate] using sl,fun z hz=>by rw[List.eq_of_mem_replicate hz];decide⟩
end Go.X

/- Lemmas and contracts. Conditions: as each says. -/
import Derived.Test.YtllhopbilpdpkaaGreatQ11
set_option linter.unusedVariables false
set_option linter.unusedSimpArgs false
set_option maxHeartbeats 12800000
set_option maxRecDepth 20000
namespace Go.X
open Go.RowKit Go.Proofs Go.Bl Go.Proofs.Tryz
variable {L:Own} {h:PH} {K:PK}
def Wi (p:Ze)(b:Int):Int:=min (b-b%p.inc) p.maxEff
def Yac (p:Ze)(e b:Int):Bool:=decide (b+p.down<e)||decide (e+p.up<b)
def Zab (p:Ze)(e b:Int):Int:=if Yac p e b then Wi p b else e
def VV (p:Ze)(e b:Int):Bool:=decide (p.inc≤e)&&decide (e≤p.maxEff)&&decide (e%p.inc=0)&&decide (Zab p e b=e)
theorem J6 {p:Ze}(hr:YM p=true):1≤p.inc:=by
 simp only[YM,Bool.and_eq_true]at hr;exact(YY hr.1.1.1).1
theorem Zc.keep {P:Program}{f:FuncId}{args:List Value}{v:Value}(hs:Zc P f args L h fun v' L' h'=>v'=v∧L'=L∧PH.le h h')(hk:K v L h):Zc P f args L h K :=
 hs.forget.mono fun _ _ _ ⟨a,b,c⟩=>by subst a;subst b;subst c;exact hk
theorem WS (p:Ze)(ok:Zj p)(hk:K (.int .i64 (if YM p then 0 else 70)) L h):Zc prog 58 [Ud p] L h K :=
 Zc.keep (Zpg p ok fun _ le=>⟨rfl,rfl,le⟩) hk
theorem U4 (p:Ze)(ok:Zj p)(hk:K (.tuple #[Ud p,.bool (YM p)]) L h):Zc prog 321 [Ud p] L h K:=by
 refine ZS func321 rfl (rs:=[_,_]) rfl rfl ZW (by kernel_rfl) rfl rfl ?_;refine xx ?_;refine Z2 fun b1 nb1 zb1=>?_;(try simp only[ZT]at nb1);refine xx ?_;refine Z2 fun b2 nb2 zb2=>?_;(try simp only[ZT]at nb2);refine xx ?_;refine Yn (.tkl 0 (.tk 1 (.o1 2 (.o1 3 (.tk 4 (.o2 5 (.tk 6 (.fin)) (.nil))) (.nil)) (.nil)))) (by kernel_rfl) (by kernel_rfl) _ (Za.refl _ _) ?_;refine xx ?_;refine WS p ok ?_;refine xkp (Za.refl _ _) ?_
 cases hr:YM p with
 | true =>
  rw[hr]at hk;refine xx ?_;exact ZP (ZP (ZO hk))
 | false =>
  rw[hr]at hk;refine xx ?_;exact ZP (ZP (ZO hk))
theorem Zhk (p:Ze)(b:Int)(h1:1≤p.inc)(hb:0≤b∧b≤18446744073709551615)(hk:K (.int .u64 (Wi p b)) L h):Zc prog 324 [Ud p,.int .u64 b] L h K:=by
 unfold Wi at hk;have e1:=Int.emod_nonneg b (show p.inc≠0 by omega);have e2:b%p.inc≤b:=by
  rw[Int.emod_def];have:=Int.mul_nonneg (show 0≤p.inc by omega) (Int.ediv_nonneg hb.1 (show 0≤p.inc by omega));omega
 refine ZS func324 rfl (rs:=[_]) rfl rfl ZW (by kernel_rfl) rfl rfl ?_;refine xx ?_;refine Z2 fun b1 nb1 zb1=>?_;(try simp only[ZT]at nb1);refine xx ?_;refine Yn (.tk 0 (.tk 1 (.tk 2 (.tk 3 (.tk 7 (.tk 8 (.tkl 4 (.tk 5 (.tk 6 (.tkl 9 (.o1 10 (.tk 11 (.fin)) (.nil)))))))))))) (by kernel_rfl) (by kernel_rfl) _ (Za.refl _ _) ?_;refine xx ?_;exact ZP (ZO hk)
theorem Yiv (p:Ze)(ok:Zj p)(e b:Int)(he:0≤e∧e≤18446744073709551615)(hb:0≤b∧b≤18446744073709551615)(hk:K (.bool (Yac p e b)) L h):Zc prog 368 [Ud p,.int .u64 e,.int .u64 b] L h K:=by
 have u1:=ok.w p.down (by simp [YN]);have u2:=ok.w p.up (by simp [YN]);refine ZS func368 rfl (rs:=[_]) rfl rfl ZW (by kernel_rfl) rfl rfl ?_;refine xx ?_;refine Z2 fun b1 nb1 zb1=>?_;(try simp only[ZT]at nb1);refine xx ?_;refine WI _ _ hb u1 ?_;by_cases c1:b+p.down≤18446744073709551615
 ·rw[Yi c1];refine xx ?_;refine WI _ _ he u2 ?_;by_cases c2:e+p.up≤18446744073709551615
  ·rw[Yi c2];by_cases c3:b+p.down<e
   ·refine xx ?_;exact ZP (ZO (by simpa [Yac,c3] using hk))
   ·refine xx ?_;exact ZP (ZO (by simpa [Yac,c3] using hk))
  ·rw[YD c2];have c4:¬e+p.up<b:=by omega
   by_cases c3:b+p.down<e
   ·refine xx ?_;exact ZP (ZO (by simpa [Yac,c3,c4] using hk))
   ·refine xx ?_;exact ZP (ZO (by simpa [Yac,c3,c4] using hk))
 ·rw[YD c1];have c3:¬b+p.down<e:=by omega
  refine xx ?_;refine WI _ _ he u2 ?_;by_cases c2:e+p.up≤18446744073709551615
  ·rw[Yi c2];refine xx ?_;exact ZP (ZO (by simpa [Yac,c3] using hk))
  ·rw[YD c2];have c4:¬e+p.up<b:=by omega
   refine xx ?_;exact ZP (ZO (by simpa [Yac,c3,c4] using hk))
theorem Zlf (p:Ze)(ok:Zj p)(h1:1≤p.inc)(e b:Int)(he:0≤e∧e≤18446744073709551615)(hb:0≤b∧b≤18446744073709551615)(hk:K (.int .u64 (Zab p e b)) L h):Zc prog 323 [Ud p,.int .u64 e,.int .u64 b] L h K:=by
 refine ZS func323 rfl (rs:=[_]) rfl rfl ZW (by kernel_rfl) rfl rfl ?_;refine xx ?_;refine Z2 fun b1 nb1 zb1=>?_;(try simp only[ZT]at nb1);refine xx ?_;refine Yiv p ok e b he hb ?_;unfold Zab at hk
 cases c:Yac p e b with
 | true =>
  rw[c]at hk;refine xx ?_;refine Zhk p b h1 hb ?_;refine xx ?_;exact ZP (ZO (by simpa using hk))
 | false =>
  rw[c]at hk;refine xx ?_;exact ZP (ZO (by simpa using hk))
theorem Zhh (p:Ze)(ok:Zj p)(e b:Int)(he:0≤e∧e≤18446744073709551615)(hb:0≤b∧b≤18446744073709551615)(hk:K (.bool (YM p&&VV p e b)) L h):Zc prog 227 [Ud p,.int .u64 e,.int .u64 b] L h K:=by
 refine ZS func227 rfl (rs:=[_]) rfl rfl ZW (by kernel_rfl) rfl rfl ?_;refine xx ?_;refine Z2 fun b1 nb1 zb1=>?_;(try simp only[ZT]at nb1);refine xx ?_;refine U4 p ok ?_
 cases hr:YM p with
 | false =>
  rw[hr]at hk;refine xx ?_;refine Z2 fun b2 nb2 zb2=>?_;(try simp only[ZT]at nb2);refine xx ?_;exact ZP (ZP (ZO (by simpa using hk)))
 | true =>
  have h1:=J6 hr;rw[hr]at hk;refine xx ?_;refine Z2 fun b2 nb2 zb2=>?_;(try simp only[ZT]at nb2);refine xx ?_;by_cases c1:p.inc≤e
  ·by_cases c2:e≤p.maxEff
   ·by_cases c3:e%p.inc=0
    ·refine xx ?_;refine Zlf p ok h1 e b he hb ?_;refine xx ?_;exact ZP (ZP (ZO (by simpa [VV,c1,c2,c3] using hk)))
    ·refine xx ?_;exact ZP (ZP (ZO (by simpa [VV,c1,c2,c3] using hk)))
   ·refine xx ?_;exact ZP (ZP (ZO (by simpa [VV,c1,c2] using hk)))
  ·refine xx ?_;exact ZP (ZP (ZO (by simpa [VV,c1] using hk)))
def Zdz (p:Ze)(m:Zb):Zb:={ m with score:=min m.score p.scoreCap,streak:=min (max m.streak 0) p.streak }
abbrev Zqe (m:Zb):Value := .agg #[.int .u64 m.bal,.int .u64 m.eff,.int .u64 m.score,.int .i64 m.streak]
abbrev Zym (m:Zb):Value := .agg #[.int .u64 m.bal,.int .u64 m.eff,.int .u64 m.score,.int .i64 m.streak,.int .i64 m.owner,.int .i64 m.status]
theorem Zvi (b:Nat)(p:Ze)(m:Zb)(hb:h b=noC)(hk:K (.tuple #[]) (⟨b,362,[.int .u64 m.bal,.int .u64 m.eff,.int .u64 (min m.score p.scoreCap),.int .i64 (min (max m.streak 0) p.streak)]++Zbs p,28⟩::L) h) :
  Zc prog 322 [.pointer (some ⟨b,0,none⟩)] (⟨b,362,[.int .u64 m.bal,.int .u64 m.eff,.int .u64 m.score,.int .i64 m.streak]++Zbs p,28⟩::L) h K:=by
 simp only[List.cons_append,List.nil_append]at hk ⊢;refine ZS func322 rfl (rs:=[]) rfl rfl ZW (by kernel_rfl) rfl rfl ?_;refine xx ?_;refine Yn (.tk 0 (.tk 1 (.tk 2 (.tk 3 (.tk 4 (.tk 6 (.tk 7 (.tk 8 (.tk 9 (.tkl 5 (.tkl 10 (.o1 11 (.tk 12 (.tk 13 (.tk 14 (.o2 15 (.fin) (.nil))))) (.nil))))))))))))) (by kernel_rfl) (by kernel_rfl) _ (Za.refl _ _) ?_;refine xx ?_;refine Yn (.tk 0 (.tk 1 (.tk 2 (.tk 3 (.tk 4 (.tk 7 (.tk 8 (.tk 9 (.tk 10 (.tkl 5 (.tkl 11 (.o1 6 (.o1 12 (.tk 13 (.tk 14 (.tk 15 (.o2 16 (.fin) (.nil))))) (.nil)) (.nil))))))))))))) (by kernel_rfl) (by kernel_rfl) _ (Za.refl _ _) ?_;simp -dsimp -implicitDefEqProofs (disch:=first|with_reducible assumption|omega) [go_sem,YK];exact ZO hk
theorem Zhb (p:Ze)(ok:Zj p)(m:Zb)(hk:K (Zqe (if YM p then Zdz p m else m)) L h):Zc prog 224 [Ud p,Zqe m] L h K:=by
 refine ZS func224 rfl (rs:=[_]) rfl rfl ZW (by kernel_rfl) rfl rfl ?_;refine xx ?_;refine Z2 fun b1 nb1 zb1=>?_;(try simp only[ZT]at nb1);refine xx ?_;refine Z2 fun b2 nb2 zb2=>?_;(try simp only[ZT]at nb2);refine xx ?_;refine Z2 fun b3 nb3 zb3=>?_;(try simp only[ZT]at nb3);refine xx ?_;refine WS p ok ?_
 cases hr:YM p with
 | false =>
  rw[hr]at hk;refine xx ?_;exact ZP (ZP (ZP (ZO hk)))
 | true =>
  rw[hr]at hk;refine xx ?_;refine Z2 fun b4 nb4 zb4=>?_;(try simp only[ZT]at nb4);refine xx ?_;refine Zvi b4 p m zb4 ?_;refine xx ?_;exact ZP (ZP (ZP (ZP (ZO hk))))
def JC (p:Ze)(m:Zb):Bool :=
 if m.status=2∨m.status=3 then decide (p.floor<m.bal)&&decide (m.bal≤p.cap)&&VV p m.eff m.bal
 else if m.status=1 then decide (1≤m.bal)&&decide (m.bal≤p.cap)&&decide (m.eff=0)
 else if m.status=4∨m.status=5 then decide (m.bal=0)&&decide (m.eff=0) else false
theorem Zva (p:Ze)(ok:Zj p)(hr:YM p=true)(m:Zb)(mo:Zf m)(hk:K (.bool (JC p m)) L h):Zc prog 281 [Zym m,Ud p] L h K:=by
 have ub:0≤m.bal∧m.bal≤18446744073709551615:=mo.u _ (by simp);have ue:0≤m.eff∧m.eff≤18446744073709551615:=mo.u _ (by simp);unfold JC at hk;refine ZS func281 rfl (rs:=[_]) rfl rfl ZW (by kernel_rfl) rfl rfl ?_;refine xx ?_;refine Z2 fun b1 nb1 zb1=>?_;(try simp only[ZT]at nb1);refine xx ?_;refine Z2 fun b2 nb2 zb2=>?_;(try simp only[ZT]at nb2);refine xx ?_;by_cases c0:m.status=2∨m.status=3
 ·rw[if_pos c0]at hk;have key:∀(X:Prop),(m.status=2→X)→(¬m.status=2→m.status=3→X)→X:=fun X a b=>by
   by_cases e:m.status=2
   ·exact a e
   ·exact b e (by omega)
  refine key _ (fun e=>?_) (fun e e'=>?_) <;>
  ·refine xx ?_;by_cases c1:p.floor<m.bal
   ·by_cases c2:m.bal≤p.cap
    ·refine xx ?_;refine Zhh p ok _ _ ue ub ?_;refine xx ?_;exact ZP (ZP (ZO (by simpa [hr,c1,c2] using hk)))
    ·refine xx ?_;exact ZP (ZP (ZO (by simpa [c1,c2] using hk)))
   ·refine xx ?_;exact ZP (ZP (ZO (by simpa [c1] using hk)))
 ·rw[if_neg c0]at hk;have e2:¬m.status=2:=fun e=>c0 (.inl e);have e3:¬m.status=3:=fun e=>c0 (.inr e);by_cases e1:m.status=1
  ·rw[if_pos e1]at hk;refine xx ?_;by_cases c1:1≤m.bal
   ·by_cases c2:m.bal≤p.cap
    ·refine xx ?_;exact ZP (ZP (ZO (by simpa [c1,c2] using hk)))
    ·refine xx ?_;exact ZP (ZP (ZO (by simpa [c1,c2] using hk)))
   ·refine xx ?_;exact ZP (ZP (ZO (by simpa [c1] using hk)))
  ·rw[if_neg e1]at hk;by_cases e4:m.status=4
   ·rw[if_pos (Or.inl e4)]at hk;refine xx ?_;by_cases c1:m.bal=0
    ·refine xx ?_;exact ZP (ZP (ZO (by simpa [c1] using hk)))
    ·refine xx ?_;exact ZP (ZP (ZO (by simpa [c1] using hk)))
   ·by_cases e5:m.status=5
    ·rw[if_pos (Or.inr e5)]at hk;refine xx ?_;by_cases c1:m.bal=0
     ·refine xx ?_;exact ZP (ZP (ZO (by simpa [c1] using hk)))
     ·refine xx ?_;exact ZP (ZP (ZO (by simpa [c1] using hk)))
    ·rw[if_neg (by omega)]at hk;refine xx ?_;exact ZP (ZP (ZO hk))
def Zuh (m:Zb):List Int:=[m.bal,m.eff,m.score,m.streak]
theorem eqStd (m q:Zb)(x y:Operand)(K:Value→Prop)(t:Zk K):Jc prog .eql 72 x y (Zqe m) (Zqe q) K t=K (.bool (decide (Zuh m=Zuh q))) :=
 GU (T:=72) (ks:=[.u64,.u64,.u64,.i64]) (by kernel_rfl) (by kernel_rfl) (by kernel_rfl) (by kernel_rfl) (Zuh m) (Zuh q) rfl rfl x y K t
def Vt (p:Ze)(m:Zb):Bool:=decide (0≤m.owner)&&decide (m.owner<64)&&decide (Zuh (Zdz p m)=Zuh m)&&JC p m
theorem Zxz (p:Ze)(ok:Zj p)(m:Zb)(mo:Zf m)(hk:K (.bool (YM p&&Vt p m)) L h):Zc prog 169 [Ud p,Zym m] L h K:=by
 refine ZS func169 rfl (rs:=[_]) rfl rfl ZW (by kernel_rfl) rfl rfl ?_;refine xx ?_;refine Z2 fun b1 nb1 zb1=>?_;(try simp only[ZT]at nb1);refine xx ?_;refine Z2 fun b2 nb2 zb2=>?_;(try simp only[ZT]at nb2);refine xx ?_;refine WS p ok ?_
 cases hr:YM p with
 | false =>
  rw[hr]at hk;refine xx ?_;exact ZP (ZP (ZO (by simpa using hk)))
 | true =>
  rw[hr]at hk;by_cases c1:m.owner<0
  ·refine xx ?_;exact ZP (ZP (ZO (by simpa [Vt,show ¬ 0≤m.owner by omega] using hk)))
  ·by_cases c2:64≤m.owner
   ·refine xx ?_;exact ZP (ZP (ZO (by simpa [Vt,show ¬m.owner<64 by omega] using hk)))
   ·refine xx ?_;refine Yn (.tk 1 (.tk 4 (.tkl 0 (.tkl 2 (.tkl 5 (.o1 3 (.tk 6 (.tk 7 (.tkl 8 (.tk 9 (.tkl 10 (.o1 11 (.tk 12 (.tk 13 (.fin))) (.nil))))))) (.nil))))))) (by kernel_rfl) (by kernel_rfl) _ (Za.refl _ _) ?_;refine xx ?_;refine Zhb p ok m ?_;rw[if_pos hr];refine xkp (Za.refl _ _) ?_;simp -dsimp -implicitDefEqProofs (disch:=first|with_reducible assumption|omega) [go_sem,eqStd];have hf:Vt p m=(decide (Zuh (Zdz p m)=Zuh m)&&JC p m):=by simp [Vt,show 0≤m.owner by omega,show m.owner<64 by omega]
    rw[hf]at hk
    cases hq:decide (Zuh (Zdz p m)=Zuh m) with
    | false =>
     rw[hq]at hk;refine xx ?_;exact ZP (ZP (ZO (by simpa using hk)))
    | true =>
     rw[hq]at hk;refine xx ?_;refine Zva p ok hr m mo ?_;refine xkp (Za.refl _ _) ?_;refine xx ?_;exact ZP (ZP (ZO (by simpa using hk)))
theorem Gi {α:Type}(z:α)(q:α→Bool)(l:List α)(hq:∀j,j<l.length→q (gr z l j)=true):l.all q=true:=by
 rw[List.all_eq_true];intro x hx;obtain⟨j,hj,rfl⟩:=List.mem_iff_getElem.1 hx;have:=hq j hj
 rwa [Z8 hj]at this
theorem YP {α:Type}(z:α)(q:α→Bool)(l:List α){k:Nat}(hk:k<l.length)(hq:q (gr z l k)=false):l.all q=false:=by
 rw[List.all_eq_false];rw[Z8 hk]at hq;exact⟨l[k],List.getElem_mem hk,by simp [hq]⟩
theorem Ynj (q:Int→Bool)(l:List Int)(hq:∀j,j<l.length→q (at0 l j)=true):l.all q=true:=Gi 0 q l hq
theorem Zov (q:Int→Bool)(l:List Int){k:Nat}(hk:k<l.length)(hq:q (at0 l k)=false):l.all q=false:=YP 0 q l hk hq
theorem Zr.slices {v:SV}{s:Zd}(hs:Zr h v s):∃pa pc ma mc ea ec xa xc oa oc da dc ta tc ka kc ra rc,
  v=⟨.slice pa s.purses.length pc,.slice ma s.members.length mc,.slice ea s.entry.length ec,.slice xa s.exit.length xc,.slice oa s.pool.length oc,.slice da s.dues.length dc,.slice ta s.motions.length tc,.slice ka s.marks.length kc,.slice ra s.ring.length rc⟩:=by
 obtain⟨pa,pc,hp,_⟩:=hs.p.open;obtain⟨ma,mc,hm,_⟩:=hs.m.open;obtain⟨ea,ec,he,_⟩:=hs.e.open;obtain⟨xa,xc,hx,_⟩:=hs.x.open;obtain⟨oa,oc,ho,_⟩:=hs.o.open;obtain⟨da,dc,hd,_⟩:=hs.d.open;obtain⟨q,t1,t2,_⟩:=hs.t;obtain⟨ta,tc,ht,_⟩:=t1.open;obtain⟨ka,kc,hk,_⟩:=hs.k.open;obtain⟨r,r1,r2⟩:=hs.r;obtain⟨ra,rc,hr,_⟩:=r1.open;refine⟨pa,pc,ma,mc,ea,ec,xa,xc,oa,oc,da,dc,ta,tc,ka,kc,ra,rc,?_⟩;rw[← t2,← r2,List.length_map,Vk];obtain⟨vp,vm,ve,vx,vo,vd,vt,vk,vr⟩:=v;simp only at hp hm he hx ho hd ht hk hr;subst hp hm he hx ho hd ht hk hr
 rfl
theorem UQ (n lo hi:Int)(hk:K (.bool (wi n lo hi)) L h):Zc prog 59 [.int .i64 n,.int .i64 lo,.int .i64 hi] L h K:=by
 unfold wi at hk;refine ZS func59 rfl (rs:=[_]) rfl rfl ZW (by kernel_rfl) rfl rfl ?_;refine xx ?_;by_cases c:lo≤n
 ·refine xx ?_;exact ZO (by simpa [c] using hk)
 ·refine xx ?_;exact ZO (by simpa [c] using hk)
theorem Jt (n lo hi:Int)(hk:K (.bool (wi n lo hi)) L h):Zc prog 283 [.int .i64 n,.int .i64 lo,.int .i64 hi] L h K:=by
 unfold wi at hk;refine ZS func283 rfl (rs:=[_]) rfl rfl ZW (by kernel_rfl) rfl rfl ?_;refine xx ?_;by_cases c:lo≤n
 ·refine xx ?_;exact ZO (by simpa [c] using hk)
 ·refine xx ?_;exact ZO (by simpa [c] using hk)
theorem Zjg (n lo hi:Int)(hk:K (.bool (wi n lo hi)) L h):Zc prog 282 [.int .i64 n,.int .i64 lo,.int .i64 hi] L h K:=by
 unfold wi at hk;refine ZS func282 rfl (rs:=[_]) rfl rfl ZW (by kernel_rfl) rfl rfl ?_;refine xx ?_;by_cases c:lo≤n
 ·refine xx ?_;exact ZO (by simpa [c] using hk)
 ·refine xx ?_;exact ZO (by simpa [c] using hk)
def V3 (s:Zd)(i:Int):Bool:=wi i 0 ((s.purses.length:Int)-1)
theorem Vu {s:Zd}(v:SV)(hs:Zr h v s)(few:ZB s)(i:Int)(hk:K (.bool (V3 s i)) L h):Zc prog 170 [stV s v,.int .i64 i] L h K:=by
 obtain⟨pa,pc,hp,_⟩:=hs.p.open;have fp:=few.p;unfold V3 at hk;refine ZS func170 rfl (rs:=[_]) rfl rfl ZW (by kernel_rfl) rfl rfl ?_;refine xx ?_;refine Z2 fun b1 nb1 zb1=>?_;(try simp only[ZT]at nb1);simp -dsimp -implicitDefEqProofs (disch:=first|with_reducible assumption|omega) [go_sem,hp];refine UQ _ _ _ ?_;refine xx ?_;exact ZP (ZO hk)
def J0 (s:Zd):Bool:=wi s.purses.length 1 64&&s.purses.all fun z=>decide (z≤4611686018427387904)
theorem Znz {s:Zd}(v:SV)(hs:Zr h v s)(few:ZB s)(hk:K (.bool (J0 s)) L h):Zc prog 60 [stV s v] L h K:=by
 have hw:=hs.p.word;obtain⟨pa,pc,hp,hc,hl,_,hcs⟩:=hs.p.open;have fp:=few.p;unfold J0 at hk;refine ZS func60 rfl (rs:=[_]) rfl rfl ZW (by kernel_rfl) rfl rfl ?_;refine xx ?_;refine Z2 fun b1 nb1 zb1=>?_;(try simp only[ZT]at nb1);simp -dsimp -implicitDefEqProofs (disch:=first|with_reducible assumption|omega) [go_sem,hp];refine UQ _ _ _ ?_
 cases hq:wi s.purses.length 1 64 with
 | false =>
  rw[hq]at hk;refine xx ?_;exact ZP (ZO (by simpa using hk))
 | true =>
  rw[hq,Bool.true_and]at hk;simp -dsimp -implicitDefEqProofs (disch:=first|with_reducible assumption|omega) [go_sem,hp];refine YO (0:Nat) (fun k=>k≤s.purses.length∧∀j,j<k→at0 s.purses j≤4611686018427387904) (fun k=>[(15,.int .i64 k),(14,.int .i64 s.purses.length),(13,.slice pa s.purses.length pc)]) (fun _=>L) (fun _=>h) (fun k=>s.purses.length-k) ?_ ?_ ?_ ?_
  ·exact⟨Nat.zero_le _,fun j hj=>by omega⟩
  ·simp [Ent,List.lookup,Wo,hp]
  ·exact Za.tail _ _ _
  rintro k ⟨k1,k2⟩;have hwk:=hw k;by_cases c1:k<s.purses.length
  ·by_cases c2:at0 s.purses k≤4611686018427387904
   ·simp -dsimp -implicitDefEqProofs (disch:=first|with_reducible assumption|omega) [go_sem,idx hcs];refine⟨k+1,⟨by omega,fun j hj=>?_⟩,by omega,by simp [Ent,List.lookup],Za.refl _ _⟩;by_cases e:j=k
    ·subst e;exact c2
    ·exact k2 j (by omega)
   ·rw[Zov _ _ c1 (decide_eq_false c2)]at hk;simp -dsimp -implicitDefEqProofs (disch:=first|with_reducible assumption|omega) [go_sem,idx hcs];exact ZO hk
  ·rw[Ynj _ _ (fun j hj=>decide_eq_true (k2 j (by omega)))]at hk;refine xx ?_;exact ZO hk
theorem Zhj {zs:List Int}(v:Value)(x:Int)(hz:Ints h .i64 v zs)(hx : -9223372036854775808≤x∧x≤9223372036854775807)(hk:∀i:Int,-1≤i→i≤9223372036854775807→(0≤i↔x∈zs)→K (.int .i64 i) L h):Zc prog 307 [v,.int .i64 x] L h K:=by
 have hn:=hz.num;obtain⟨a,c,rfl,hcap,hl,_,hcs⟩:=hz.open;refine ZS func307 rfl (rs:=[_]) rfl rfl ZW (by kernel_rfl) rfl rfl ?_;refine xx ?_;refine WP (0:Nat) (fun k=>k≤zs.length∧∀j,j<k→at0 zs j≠x) (fun k=>[(8,.int .i64 k),(7,.int .i64 zs.length),(0,.slice a zs.length c),(1,.int .i64 x)]) (fun k=>zs.length-k) ?_ ?_ ?_
 ·exact⟨Nat.zero_le _,fun j hj=>by omega⟩
 ·simp [Ent,List.lookup,Wo]
 rintro k ⟨k1,k2⟩;by_cases c1:k<zs.length
 ·by_cases c2:x=at0 zs k
  ·simp -dsimp -implicitDefEqProofs (disch:=first|with_reducible assumption|omega) [go_sem,idx hcs];refine ZO (hk k (by omega) (by omega) ⟨fun _=>?_,fun _=>by omega⟩);rw[c2,← Yf c1];exact List.getElem_mem c1
  ·simp -dsimp -implicitDefEqProofs (disch:=first|with_reducible assumption|omega) [go_sem,idx hcs];refine⟨k+1,⟨by omega,fun j hj=>?_⟩,by omega,by simp [Ent,List.lookup],Za.refl _ _⟩;by_cases e:j=k
   ·subst e;exact fun e=>c2 e.symm
   ·exact k2 j (by omega)
 ·refine xx ?_;refine ZO (hk (-1) (by omega) (by omega) ⟨fun hh=>by omega,fun hm=>?_⟩);obtain⟨j,hj,e⟩:=List.mem_iff_getElem.1 hm;exact absurd (by rw[← Yf hj,e]) (k2 j (by omega))
theorem Gr {zs:List Int}(v:Value)(x:Int)(hz:Ints h .i64 v zs)(hx : -9223372036854775808≤x∧x≤9223372036854775807)(hk:K (.bool (decide (x∈zs))) L h):Zc prog 203 [v,.int .i64 x] L h K:=by
 have hz':=hz;obtain⟨a,c,rfl,hcap,hl,_,hcs⟩:=hz.open;refine ZS func203 rfl (rs:=[_]) rfl rfl ZW (by kernel_rfl) rfl rfl ?_;refine xx ?_;refine Zhj _ x hz' hx fun i i1 i2 i3=>?_;refine xx ?_;have:decide (0≤i)=decide (x∈zs):=by simp only[i3]
 refine ZO ?_;rw[this];exact hk
def Zly (l:List Zb)(st:Int):Nat→Nat
 | 0=>0
 | k+1=>Zly l st k+if (gr ZQ l k).status=st then 1 else 0
theorem Ziw (l:List Zb)(st:Int):∀k,Zly l st k≤k
 | 0=>Nat.le_refl _
 | k+1=>by have:=Ziw l st k;simp only[Zly];split<;>omega
def Ycw (s:Zd)(l:List Int)(st:Int):Bool:=(List.range s.members.length).all fun j => !decide ((gr ZQ s.members j).status=st)||decide ((j:Int)∈l)
def Zqi (s:Zd)(l:List Int)(st:Int):Bool:=Ycw s l st&&decide (l.length=Zly s.members st s.members.length)
theorem G8 {s:Zd}{l:List Int}{st:Int}(hq:∀j,j<s.members.length→(gr ZQ s.members j).status=st→(j:Int)∈l):Ycw s l st=true:=by
 rw[Ycw,List.all_eq_true];intro j hj;by_cases e:(gr ZQ s.members j).status=st
 ·simp [e,hq j (List.mem_range.1 hj) e]
 ·simp [e]
theorem Zpu {s:Zd}{l:List Int}{st:Int}{k:Nat}(hk:k<s.members.length)(e:(gr ZQ s.members k).status=st)(hn:(k:Int) ∉ l):Ycw s l st=false:=by
 rw[Ycw,List.all_eq_false];exact⟨k,List.mem_range.2 hk,by simp [e,hn]⟩
theorem Zve {s:Zd}(v:SV)(hs:Zr h v s)(few:ZB s){l:List Int}(lv:Value)(hlv:Ints h .i64 lv l)(st:Int)(hst : -9223372036854775808≤st∧st≤9223372036854775807)(hk:K (.bool (Zqi s l st)) L h):Zc prog 171 [stV s v,lv,.int .i64 st] L h K:=by
 obtain⟨ma,mc,hm,hmc,hml,_,hd⟩:=hs.m.open;have fm:=few.m;have hlv':=hlv;obtain⟨la,lc,rfl,hlc,hll,_,hcs⟩:=hlv.open;refine ZS func171 rfl (rs:=[_]) rfl rfl ZW (by kernel_rfl) rfl rfl ?_;refine xx ?_;refine Z2 fun b1 nb1 zb1=>?_;(try simp only[ZT]at nb1);simp -dsimp -implicitDefEqProofs (disch:=first|with_reducible assumption|omega) [go_sem,hm];refine YO (0:Nat) (fun k=>k≤s.members.length∧∀j,j<k→(gr ZQ s.members j).status=st→(j:Int)∈l) (fun k=>[(14,.int .i64 k),(13,.int .i64 s.members.length),(12,.slice ma s.members.length mc),(7,.int .i64 (Zly s.members st k)),(1,.slice la l.length lc),(2,.int .i64 st)]) (fun _=>L) (fun _=>h) (fun k=>s.members.length-k) ?_ ?_ ?_ ?_
 ·exact⟨Nat.zero_le _,fun j hj=>by omega⟩
 ·simp [Ent,List.lookup,Wo,hm,Zly]
 ·exact Za.tail _ _ _
 rintro k ⟨k1,k2⟩;have hcl:=Ziw s.members st k;by_cases c1:k<s.members.length
 ·have hxo:=hs.mo (gr ZQ s.members k) (by rw[Z8 c1];exact List.getElem_mem c1);simp -dsimp -implicitDefEqProofs (disch:=first|with_reducible assumption|omega) [go_sem,↓Uw ZQ (by decide) hd,Yv];refine Z2 fun b2 nb2 zb2=>?_;(try simp only[ZT]at nb2);by_cases c2:(gr ZQ s.members k).status=st
  ·simp -dsimp -implicitDefEqProofs (disch:=first|with_reducible assumption|omega) [go_sem,Yv];refine Gr _ k hlv' ⟨by omega,by omega⟩ ?_;by_cases c3:(k:Int)∈l
   ·rw[decide_eq_true c3];refine xx ?_;refine⟨k+1,⟨by omega,fun j hj=>?_⟩,by omega,by simp [Ent,List.lookup,Zly,c2],Za.tail _ _ _⟩;by_cases e:j=k
    ·subst e;exact fun _=>c3
    ·exact k2 j (by omega)
   ·rw[Zqi,Zpu c1 c2 c3]at hk;rw[decide_eq_false c3];refine xx ?_;exact ZP (ZO hk)
  ·simp -dsimp -implicitDefEqProofs (disch:=first|with_reducible assumption|omega) [go_sem,Yv];refine⟨k+1,⟨by omega,fun j hj=>?_⟩,by omega,by simp [Ent,List.lookup,Zly,c2],Za.tail _ _ _⟩;by_cases e:j=k
   ·subst e;exact fun e=>absurd e c2
   ·exact k2 j (by omega)
 ·have hkl:k=s.members.length:=by omega
  subst hkl;rw[Zqi,G8 k2,Bool.true_and]at hk;refine xx ?_;refine ZO ?_;have e:decide ((l.length:Int)=(Zly s.members st s.members.length:Nat))=decide (l.length=Zly s.members st s.members.length):=by simp only[Int.natCast_inj]
  first
   | exact hk
   | (rw[e];exact hk)
def Vo (s:Zd):Bool:=decide (s.members.length≤128)&&s.members.all (fun m=>Vt s.par m&&V3 s m.owner)&&Zqi s s.entry 1&&Zqi s s.exit 3
theorem Ziz {s:Zd}(v:SV)(hs:Zr h v s)(few:ZB s)(hr:YM s.par=true)(hk:K (.bool (Vo s)) L h):Zc prog 61 [stV s v] L h K:=by
 obtain⟨pa,pc,ma,mc,ea,ec,xa,xc,oa,oc,da,dc,ta,tc,ka,kc,ra,rc,rfl⟩:=hs.slices;have hd:Zh Yv 6 h (.slice ma s.members.length mc) s.members:=hs.m;have fm:=few.m;unfold Vo at hk;refine ZS func61 rfl (rs:=[_]) rfl rfl ZW (by kernel_rfl) rfl rfl ?_;refine xx ?_;refine Z2 fun b1 nb1 zb1=>?_;(try simp only[ZT]at nb1);refine xx ?_;by_cases c0:s.members.length≤128
 ·rw[decide_eq_true c0,Bool.true_and]at hk;refine xx ?_;refine YO (0:Nat) (fun k=>k≤s.members.length∧∀j,j<k→(fun m:Zb=>Vt s.par m&&V3 s m.owner) (gr ZQ s.members j)=true) (fun k=>[(14,.int .i64 k),(13,.int .i64 s.members.length),(12,.slice ma s.members.length mc),(1,.pointer (some ⟨b1,0,none⟩))]) (fun _=>⟨b1,132,stC s ⟨.slice pa s.purses.length pc,.slice ma s.members.length mc,.slice ea s.entry.length ec,.slice xa s.exit.length xc,.slice oa s.pool.length oc,.slice da s.dues.length dc,.slice ta s.motions.length tc,.slice ka s.marks.length kc,.slice ra s.ring.length rc⟩,41⟩::L) (fun _=>h) (fun k=>s.members.length-k) ?_ ?_ ?_ ?_
  ·exact⟨Nat.zero_le _,fun j hj=>by omega⟩
  ·simp [Ent,List.lookup,Wo]
  ·exact Za.refl _ _
  rintro k ⟨k1,k2⟩;by_cases c1:k<s.members.length
  ·have hxo:=hs.mo (gr ZQ s.members k) (by rw[Z8 c1];exact List.getElem_mem c1);simp -dsimp -implicitDefEqProofs (disch:=first|with_reducible assumption|omega) [go_sem,↓Uw ZQ (by decide) hd,Yv];refine Z2 fun b2 nb2 zb2=>?_;(try simp only[ZT]at nb2);simp -dsimp -implicitDefEqProofs (disch:=first|with_reducible assumption|omega) [go_sem,Yv];refine Zxz s.par hs.ok.p (gr ZQ s.members k) hxo ?_;rw[hr,Bool.true_and]
   cases hq:Vt s.par (gr ZQ s.members k) with
   | false =>
    rw[YP ZQ _ _ c1 (by rw[hq];rfl)]at hk;refine xx ?_;exact ZP (ZP (ZO (by simpa using hk)))
   | true =>
    refine xx ?_;refine Vu _ hs few _ ?_
    cases hq2:V3 s (gr ZQ s.members k).owner with
    | false =>
     rw[YP ZQ _ _ c1 (by rw[hq,hq2];rfl)]at hk;refine xx ?_;exact ZP (ZP (ZO (by simpa using hk)))
    | true =>
     refine xx ?_;refine⟨k+1,⟨by omega,fun j hj=>?_⟩,by omega,by simp [Ent,List.lookup],Za.tail _ _ _⟩;by_cases e:j=k
     ·subst e;first|exact⟨hq,hq2⟩ | (simp only[hq,hq2];rfl)|simp [hq,hq2]
     ·first|exact k2 j (by omega)|simpa using k2 j (by omega)
  ·have hkl:k=s.members.length:=by omega
   subst hkl;rw[Gi ZQ _ _ k2,Bool.true_and]at hk;refine xx ?_;refine Zve _ hs few _ hs.e 1 (by decide) ?_
   cases hq:Zqi s s.entry 1 with
   | false =>
    rw[hq]at hk;refine xx ?_;exact ZP (ZO (by simpa using hk))
   | true =>
    rw[hq]at hk;refine xx ?_;refine Zve _ hs few _ hs.x 3 (by decide) ?_;refine xx ?_;exact ZP (ZO (by simpa using hk))
 ·rw[decide_eq_false c0]at hk;refine xx ?_;exact ZP (ZO (by simpa using hk))
def parKS:List IntKind:=[.u64,.u64,.u64,.u64,.u64,.u64,.u64,.u64,.u64,.u64,.u64,.u64,.u64,.u64,.i64,.i64,.i64,.i64,.i64,.i64,.i64,.i64,.i64,.i64]
abbrev motV (m:Zn)(y n:Value):Value := .agg #[.int .i64 m.acct,.int .i64 m.what,.int .u64 m.par.inc,.int .u64 m.par.maxEff,.int .u64 m.par.floor,.int .u64 m.par.cap,.int .u64 m.par.up,.int .u64 m.par.down,.int .u64 m.par.bias,.int .u64 m.par.quot,.int .u64 m.par.biasEm,.int .u64 m.par.quotEm,.int .u64 m.par.recover,.int .u64 m.par.scoreCap,.int .u64 m.par.rate,.int .u64 m.par.bond,.int .i64 m.par.delay,.int .i64 m.par.streak,.int .i64 m.par.boost,.int .i64 m.par.absent,.int .i64 m.par.burn,.int .i64 m.par.churn,.int .i64 m.par.wait,.int .i64 m.par.poll,.int .i64 m.par.enact,.int .i64 m.par.quorum,.int .i64 m.to,.int .u64 m.amt,.int .i64 m.ends,.int .i64 m.due,.int .i64 m.state,y,n]
def WL (m:Zn):Bool:=wi m.acct 0 63&&wi m.to 0 63&&wi m.what 1 4&&wi m.state 1 4
def VN (m:Zn):Bool:=wi m.ends 0 2147483647&&wi m.due 0 2147483647&&decide (m.amt≤4611686018427387904)
def UA (m:Zn):Bool:=WL m&&VN m&&Zhz m.yes 128&&Zhz m.no 128&&(if m.what=1 then YM m.par else decide (m.par=Zxj))
theorem Ytp (p q:Ze):decide (YN p++YS p=YN q++YS q)=decide (p=q):=by
 apply decide_eq_decide.2
 constructor
 ·intro e;simp only[YN,YS,List.cons_append,List.nil_append,List.cons.injEq,and_true]at e
  cases p;cases q;simp only at e;simp only[Ze.mk.injEq];exact e
 ·rintro rfl;rfl
theorem Yqd (p q:Ze)(x y:Operand)(K:Value→Prop)(t:Zk K):Jc prog .eql 24 x y (Ud p) (Ud q) K t=K (.bool (decide (p=q))):=by
 rw[← Ytp];exact GU (T:=24) (ks:=parKS) (by kernel_rfl) (by kernel_rfl) (by kernel_rfl) (by kernel_rfl) (YN p++YS p) (YN q++YS q) rfl rfl x y K t
theorem Zjd (m:Zn)(y n:Value)(hy:Ints h .u8 y m.yes)(hn:Ints h .u8 n m.no)(ok:Yyt m)(hk:K (.bool (UA m)) L h):Zc prog 173 [motV m y n] L h K:=by
 have hy':=hy;have hn':=hn;obtain⟨ya,yc,rfl,_⟩:=hy.open;obtain⟨na,nc,rfl,_⟩:=hn.open;have ua:=ok.a;unfold UA at hk;refine ZS func173 rfl (rs:=[_]) rfl rfl ZW (by kernel_rfl) rfl rfl ?_;refine xx ?_;refine Z2 fun b1 nb1 zb1=>?_;(try simp only[ZT]at nb1);refine xx ?_;have no1:∀X:Bool,WL m=false→K (.bool (WL m&&X)) L h→K (.bool false) L h:=fun X e k=>by rwa [e]at k
 refine Jt _ _ _ ?_
 cases q1:wi m.acct 0 63 with
 | false =>
  rw[show WL m=false by simp [WL,q1]]at hk;refine xx ?_;exact ZP (ZO (by simpa using hk))
 | true =>
 refine xx ?_;refine Jt _ _ _ ?_
 cases q2:wi m.to 0 63 with
 | false =>
  rw[show WL m=false by simp [WL,q2]]at hk;refine xx ?_;exact ZP (ZO (by simpa using hk))
 | true =>
 refine xx ?_;refine Jt _ _ _ ?_
 cases q3:wi m.what 1 4 with
 | false =>
  rw[show WL m=false by simp [WL,q3]]at hk;refine xx ?_;exact ZP (ZO (by simpa using hk))
 | true =>
 refine xx ?_;refine Jt _ _ _ ?_
 cases q4:wi m.state 1 4 with
 | false =>
  rw[show WL m=false by simp [WL,q4]]at hk;refine xx ?_;exact ZP (ZO (by simpa using hk))
 | true =>
 rw[show WL m=true by simp [WL,q1,q2,q3,q4],Bool.true_and]at hk;refine xx ?_;refine Jt _ _ _ ?_
 cases q5:wi m.ends 0 2147483647 with
 | false =>
  rw[show VN m=false by simp [VN,q5]]at hk;refine xx ?_;exact ZP (ZO (by simpa using hk))
 | true =>
 refine xx ?_;refine Jt _ _ _ ?_
 cases q6:wi m.due 0 2147483647 with
 | false =>
  rw[show VN m=false by simp [VN,q6]]at hk;refine xx ?_;exact ZP (ZO (by simpa using hk))
 | true =>
 by_cases q7:m.amt≤4611686018427387904
 ·rw[show VN m=true by simp [VN,q5,q6,q7],Bool.true_and]at hk;refine xx ?_;refine Zkj _ 128 hy' (by decide) (by decide) ?_
  cases q8:Zhz m.yes 128 with
  | false =>
   rw[q8]at hk;refine xx ?_;exact ZP (ZO (by simpa using hk))
  | true =>
  rw[q8,Bool.true_and]at hk;refine xx ?_;refine Zkj _ 128 hn' (by decide) (by decide) ?_
  cases q9:Zhz m.no 128 with
  | false =>
   rw[q9]at hk;refine xx ?_;exact ZP (ZO (by simpa using hk))
  | true =>
  rw[q9,Bool.true_and]at hk;by_cases c:m.what=1
  ·rw[if_pos c]at hk;refine xx ?_;refine WS m.par ok.p ?_
   cases hr:YM m.par with
   | false =>
    rw[hr]at hk;refine xx ?_;exact ZP (ZO hk)
   | true =>
    rw[hr]at hk;refine xx ?_;exact ZP (ZO hk)
  ·rw[if_neg c]at hk;refine xx ?_;refine(Yqd m.par Zxj _ _ _ _).mpr ?_;refine xx ?_;exact ZP (ZO hk)
 ·rw[show VN m=false by simp [VN,q7]]at hk;refine xx ?_;exact ZP (ZO (by simpa using hk))
def UV (s:Zd):Bool:=decide (s.motions.length≤32)&&s.motions.all (fun m=>UA m&&V3 s m.acct&&V3 s m.to)
theorem Zih {s:Zd}(v:SV)(hs:Zr h v s)(few:ZB s)(hk:K (.bool (UV s)) L h):Zc prog 63 [stV s v] L h K:=by
 obtain⟨pa,pc,ma,mc,ea,ec,xa,xc,oa,oc,da,dc,ta,tc,ka,kc,ra,rc,rfl⟩:=hs.slices;obtain⟨q,hd,t2,t3⟩:=hs.t;have fm:=few.t;have hql:q.length=s.motions.length:=by rw[← t2,List.length_map]
 have hgr:∀k,k<q.length→gr Yc s.motions k=(gr Z6 q k).2.2:=fun k hk=>by
  rw[Z8 hk,Z8 (by omega)];simp only[← t2,List.getElem_map]
 unfold UV at hk;refine ZS func63 rfl (rs:=[_]) rfl rfl ZW (by kernel_rfl) rfl rfl ?_;refine xx ?_;refine Z2 fun b1 nb1 zb1=>?_;(try simp only[ZT]at nb1);refine xx ?_;by_cases c0:s.motions.length≤32
 ·rw[decide_eq_true c0,Bool.true_and]at hk;refine xx ?_;refine YO (0:Nat) (fun k=>k≤s.motions.length∧∀j,j<k→(fun m:Zn=>UA m&&V3 s m.acct&&V3 s m.to) (gr Yc s.motions j)=true) (fun k=>[(14,.int .i64 k),(13,.int .i64 s.motions.length),(12,.slice ta s.motions.length tc),(1,.pointer (some ⟨b1,0,none⟩))]) (fun _=>⟨b1,132,stC s ⟨.slice pa s.purses.length pc,.slice ma s.members.length mc,.slice ea s.entry.length ec,.slice xa s.exit.length xc,.slice oa s.pool.length oc,.slice da s.dues.length dc,.slice ta s.motions.length tc,.slice ka s.marks.length kc,.slice ra s.ring.length rc⟩,41⟩::L) (fun _=>h) (fun k=>s.motions.length-k) ?_ ?_ ?_ ?_
  ·exact⟨Nat.zero_le _,fun j hj=>by omega⟩
  ·simp [Ent,List.lookup,Wo]
  ·exact Za.refl _ _
  rintro k ⟨k1,k2⟩;by_cases c1:k<s.motions.length
  ·have hx:Zu h (gr Z6 q k):=by rw[Z8 (by omega)];exact t3 _ (List.getElem_mem (by omega))
   have hg:=hgr k (by omega);obtain⟨x1,y1,hv1,_⟩:=hx.y.open;obtain⟨x2,y2,hv2,_⟩:=hx.n.open;simp -dsimp -implicitDefEqProofs (disch:=first|with_reducible assumption|omega) [go_sem,↓Uw Z6 (by decide) hd,WE];refine Z2 fun b2 nb2 zb2=>?_;(try simp only[ZT]at nb2);simp -dsimp -implicitDefEqProofs (disch:=first|with_reducible assumption|omega) [go_sem,WE,hv1,hv2];have m1:=hx.y;have m2:=hx.n;rw[hv1]at m1;rw[hv2]at m2;refine Zjd (gr Z6 q k).2.2 _ _ m1 m2 hx.ok ?_
   cases hq:UA (gr Z6 q k).2.2 with
   | false =>
    rw[YP Yc _ _ c1 (by rw[hg,hq];rfl)]at hk;refine xx ?_;exact ZP (ZP (ZO (by simpa using hk)))
   | true =>
   refine xx ?_;refine Vu _ hs few _ ?_
   cases hq2:V3 s (gr Z6 q k).2.2.acct with
   | false =>
    rw[YP Yc _ _ c1 (by rw[hg,hq,hq2];rfl)]at hk;refine xx ?_;exact ZP (ZP (ZO (by simpa using hk)))
   | true =>
   refine xx ?_;refine Vu _ hs few _ ?_
   cases hq3:V3 s (gr Z6 q k).2.2.to with
   | false =>
    rw[YP Yc _ _ c1 (by rw[hg,hq,hq2,hq3];rfl)]at hk;refine xx ?_;exact ZP (ZP (ZO (by simpa using hk)))
   | true =>
   refine xx ?_;refine⟨k+1,⟨by omega,fun j hj=>?_⟩,by omega,by simp [Ent,List.lookup],Za.tail _ _ _⟩;by_cases e:j=k
   ·subst e;first|exact⟨⟨hq,hq2⟩,hq3⟩ | simp [hg,hq,hq2,hq3]
   ·first|exact k2 j (by omega)|simpa using k2 j (by omega)
  ·have hkl:k=s.motions.length:=by omega
   subst hkl;rw[Gi Yc _ _ k2]at hk;refine xx ?_;exact ZP (ZO hk)
 ·rw[decide_eq_false c0]at hk;refine xx ?_;exact ZP (ZO (by simpa using hk))
theorem Gm {bs:List Int}(v:Value)(hb:Ints h .u8 v bs)(hk:K (.bool (Zhz bs 128)) L h):Zc prog 284 [v] L h K:=by
 have hb':=hb;obtain⟨a,c,rfl,_⟩:=hb.open;refine ZS func284 rfl (rs:=[_]) rfl rfl ZW (by kernel_rfl) rfl rfl ?_;refine xx ?_;refine Zkj _ 128 hb' (by decide) (by decide) ?_
 cases hc:Zhz bs 128 with
 | false =>
  rw[hc]at hk;refine xx ?_;exact ZO hk
 | true =>
  rw[hc]at hk;refine xx ?_;exact ZO hk
def Yae (ring:List (List Int))(marks:List Int):Bool:=decide (ring.length≤8)&&Zhz marks 128&&ring.all (fun b=>Zhz b 128)
theorem Zxw {l:List QS}{bs:List Int}(v u:Value)(hv:Zw h v l)(hu:Ints h .u8 u bs)(hn:l.length≤100000)(hk:K (.int .i64 (if Yae (xsL l) bs then 0 else 60)) L h):Zc prog 174 [v,u] L h K:=by
 have hu':=hu;obtain⟨a,c,rfl,hc,hl,_,hcx,hd⟩:=hv.open;obtain⟨b,c',rfl,_⟩:=hu.open;unfold Yae at hk;rw[Vk]at hk;refine ZS func174 rfl (rs:=[_]) rfl rfl ZW (by kernel_rfl) rfl rfl ?_;refine xx ?_;by_cases c0:l.length≤8
 ·rw[decide_eq_true c0,Bool.true_and]at hk;refine xx ?_;refine Gm _ hu' ?_
  cases h1:Zhz bs 128 with
  | false =>
   rw[h1]at hk;refine xx ?_;exact ZO (by simpa using hk)
  | true =>
  rw[h1,Bool.true_and]at hk;refine xx ?_;refine WP (0:Nat) (fun k=>k≤l.length∧∀j,j<k→Zhz (gs l j).2 128=true) (fun k=>[(17,.int .i64 k),(16,.int .i64 l.length),(15,.slice a l.length c)]) (fun k=>l.length-k) ?_ ?_ ?_
  ·exact⟨Nat.zero_le _,fun j hj=>by omega⟩
  ·simp [Ent,List.lookup,Wo]
  rintro k ⟨k1,k2⟩;have hgs:∀j,j<l.length→gr [] (xsL l) j=(gs l j).2:=fun j hj=>by
   rw[Z8 (by rw[Vk];exact hj),Zdr hj];simp [xsL]
  by_cases c1:k<l.length
  ·have hi:=hd.at c1;have hi':=hi;obtain⟨x1,y1,hv1,_⟩:=hi.open;simp -dsimp -implicitDefEqProofs (disch:=first|with_reducible assumption|omega) [go_sem,idx hcx,hv1];rw[hv1]at hi';refine Gm _ hi' ?_
   cases h2:Zhz (gs l k).2 128 with
   | false =>
    rw[YP [] _ _ (k:=k) (by rw[Vk];exact c1) (by rw[hgs k c1,h2])]at hk;refine xx ?_;exact ZO (by simpa using hk)
   | true =>
    refine xx ?_;refine⟨k+1,⟨by omega,fun j hj=>?_⟩,by omega,by simp [Ent,List.lookup],Za.refl _ _⟩;by_cases e:j=k
    ·subst e;exact h2
    ·exact k2 j (by omega)
  ·rw[Gi [] _ _ (fun j hj=>by rw[Vk]at hj;rw[hgs j hj];exact k2 j (by omega))]at hk;refine xx ?_;exact ZO (by simpa using hk)
 ·rw[decide_eq_false c0]at hk;refine xx ?_;exact ZO (by simpa using hk)
def Zgk (s:Zd):Bool:=Yae s.ring s.marks&&(List.range 128).all fun i=>decide (i<s.members.length) || !Vm s.marks i
theorem Zwf {s:Zd}(v:SV)(hs:Zr h v s)(few:ZB s)(hk:K (.bool (Zgk s)) L h):Zc prog 64 [stV s v] L h K:=by
 obtain⟨pa,pc,ma,mc,ea,ec,xa,xc,oa,oc,da,dc,ta,tc,ka,kc,ra,rc,rfl⟩:=hs.slices;obtain⟨q,hd,t2⟩:=hs.r;have fm:=few.m;have fr:=few.r;have hql:q.length=s.ring.length:=by rw[← t2,Vk]
 have hkk:=hs.k;simp only at hd hkk;unfold Zgk at hk;refine ZS func64 rfl (rs:=[_]) rfl rfl ZW (by kernel_rfl) rfl rfl ?_;refine xx ?_;refine Z2 fun b1 nb1 zb1=>?_;(try simp only[ZT]at nb1);refine xx ?_;refine Zxw _ _ hd hkk (by omega) ?_;rw[t2]
 cases h1:Yae s.ring s.marks with
 | false =>
  rw[h1]at hk;refine xx ?_;exact ZP (ZO (by simpa using hk))
 | true =>
 rw[h1,Bool.true_and]at hk;refine xx ?_;refine YO s.members.length (fun k=>s.members.length≤k∧k≤100000∧∀j,s.members.length≤j→j<k→Vm s.marks (j:Int)=false) (fun k=>[(3,.int .i64 k),(1,.pointer (some ⟨b1,0,none⟩))]) (fun _=>⟨b1,132,stC s ⟨.slice pa s.purses.length pc,.slice ma s.members.length mc,.slice ea s.entry.length ec,.slice xa s.exit.length xc,.slice oa s.pool.length oc,.slice da s.dues.length dc,.slice ta s.motions.length tc,.slice ka s.marks.length kc,.slice ra s.ring.length rc⟩,41⟩::L) (fun _=>h) (fun k=>100000-k) ?_ ?_ ?_ ?_
 ·exact⟨Nat.le_refl _,fm,fun j hj=>by omega⟩
 ·simp [Ent,List.lookup,Wo]
 ·exact Za.refl _ _
 rintro k ⟨k0,k1,k2⟩;by_cases c1:k<128
 ·refine xx ?_;refine GY _ k hkk (by omega) ?_
  cases h2:Vm s.marks (k:Int) with
  | true =>
   have:((List.range 128).all fun i=>decide (i<s.members.length) || !Vm s.marks i)=false:=by
    rw[List.all_eq_false];exact⟨k,List.mem_range.2 c1,by simp [h2];omega⟩
   rw[this]at hk;refine xx ?_;exact ZP (ZO hk)
  | false =>
   refine xx ?_;refine⟨k+1,⟨by omega,by omega,fun j hj hj2=>?_⟩,by omega,by simp [Ent,List.lookup],Za.refl _ _⟩;by_cases e:j=k
   ·subst e;exact h2
   ·exact k2 j hj (by omega)
 ·have:((List.range 128).all fun i=>decide (i<s.members.length) || !Vm s.marks i)=true:=by
   rw[List.all_eq_true];intro i hi;have:=List.mem_range.1 hi;by_cases e:i<s.members.length
   ·simp [e]
   ·simp [k2 i (by omega) (by omega)]
  rw[this]at hk;refine xx ?_;exact ZP (ZO hk)
abbrev depV (d:Zo):Value := .agg #[.int .i64 d.acct,.int .i64 d.mem,.int .u64 d.amt,.bool d.new]
def Yak (d:Zo):Bool:=wi d.acct 0 63&&wi d.mem 0 127 && !(d.new&&decide (d.mem≠0))&&decide (1≤d.amt)&&decide (d.amt≤4611686018427387904)
theorem VD (hk:K (.slice none 0 0) L h):Zc prog 101 [.slice none 0 0] L h K:=by
 refine ZS func101 rfl (rs:=[_]) rfl rfl ZW (by kernel_rfl) rfl rfl ?_;refine xx ?_;exact ZO hk
theorem Yaa (d:Zo)(ok:ZL d)(hk:∀a n c,K (.tuple #[.slice a n c,.int .i64 (if Yak d then 0 else 2)]) L h):Zc prog 172 [.slice none 0 0,depV d] L h K:=by
 have ua:=ok.a;refine ZS func172 rfl (rs:=[_,_]) rfl rfl ZW (by kernel_rfl) rfl rfl ?_;refine xx ?_;refine Z2 fun b1 nb1 zb1=>?_;(try simp only[ZT]at nb1);refine xx ?_;refine Zjg _ _ _ ?_
 cases q1:wi d.acct 0 63 with
 | false =>
  simp only[Yak,q1,Bool.false_and,Bool.false_eq_true,if_false]at hk;refine xx ?_;exact ZP (ZO (hk none 0 0))
 | true =>
 refine xx ?_;refine Zjg _ _ _ ?_
 cases q2:wi d.mem 0 127 with
 | false =>
  simp only[Yak,q2,Bool.and_false,Bool.false_and,Bool.false_eq_true,if_false]at hk;refine xx ?_;exact ZP (ZO (hk none 0 0))
 | true =>
 have fin1:(d.new&&decide (d.mem≠0))=true→Yak d=false:=fun e=>by simp only[Yak,e,Bool.not_true,Bool.and_false,Bool.false_and]
 have rest:(d.new&&decide (d.mem≠0))=false→Yak d=(decide (1≤d.amt)&&decide (d.amt≤4611686018427387904)):=fun e=>by simp only[Yak,e,q1,q2,Bool.not_false,Bool.true_and]
 cases q3:d.new with
 | true =>
  have q3':=q3;by_cases q4:d.mem=0
  ·rw[rest (by simp [q4])]at hk;by_cases q5:1≤d.amt
   ·by_cases q6:d.amt≤4611686018427387904
    ·rw[decide_eq_true q5,decide_eq_true q6]at hk;refine xx ?_;refine Yn (.tk 0 (.tkl 2 (.o1 1 (.o1 3 (.o1 4 (.tk 5 (.tk 6 (.fin))) (.nil)) (.nil)) (.o1 3 (.o1 1 (.o1 4 (.tk 5 (.tk 6 (.fin))) (.nil)) (.nil)) (.nil))))) (by kernel_rfl) (by kernel_rfl) _ (Za.refl _ _) ?_;refine xx ?_;refine Y4 ?_ ?_
     ·refine xx ?_;refine VD ?_;refine xkp (Za.refl _ _) ?_;refine xx ?_;refine Z2 fun b2 nb2 zb2=>?_;(try simp only[ZT]at nb2);refine xkp (Za.tail _ _ _) ?_;refine xx ?_;refine Z4 (t:=28) (e:=164) (sz:=4) (bytes:=32) (by kernel_rfl) Zcc rfl rfl rfl rfl (by decide) [_] _ none 0 [] rfl rfl (Src.own (b:=b2) List.mem_cons_self) (m:=1) (news:=[.int .i64 d.acct,.int .i64 d.mem,.int .u64 d.amt,.bool true]) rfl (by intro u hu;simp only[List.mem_cons,List.not_mem_nil,or_false]at hu;rcases hu with rfl|rfl|rfl|rfl<;>rfl) (by decide) (by decide) ?_;intro o' j1 j2 j3;have ho:=Z9 j1;obtain⟨a',c',e',_⟩:=ho;rw[e'];refine xx ?_;refine xkp (Za.trans (Za.tail _ _ _) (Za.oent _ _ _ _ _ _)) ?_;refine xx ?_;exact ZP (Ww (ZP (ZO (hk _ _ _))))
     ·refine xx ?_;refine Z2 fun b2 nb2 zb2=>?_;(try simp only[ZT]at nb2);refine xkp (Za.tail _ _ _) ?_;refine xx ?_;refine VD ?_;refine xkp (Za.tail _ _ _) ?_;refine xx ?_;refine Z4 (t:=28) (e:=164) (sz:=4) (bytes:=32) (by kernel_rfl) Zcc rfl rfl rfl rfl (by decide) [_] _ none 0 [] rfl rfl (Src.own (b:=b2) List.mem_cons_self) (m:=1) (news:=[.int .i64 d.acct,.int .i64 d.mem,.int .u64 d.amt,.bool true]) rfl (by intro u hu;simp only[List.mem_cons,List.not_mem_nil,or_false]at hu;rcases hu with rfl|rfl|rfl|rfl<;>rfl) (by decide) (by decide) ?_;intro o' j1 j2 j3;have ho:=Z9 j1;obtain⟨a',c',e',_⟩:=ho;rw[e'];refine xx ?_;refine xkp (Za.trans (Za.tail _ _ _) (Za.oent _ _ _ _ _ _)) ?_;refine xx ?_;exact ZP (Ww (ZP (ZO (hk _ _ _))))
    ·simp only[decide_eq_false q6,Bool.and_false,Bool.false_eq_true,if_false]at hk;refine xx ?_;exact ZP (ZO (hk none 0 0))
   ·simp only[decide_eq_false q5,Bool.false_and,Bool.false_eq_true,if_false]at hk;refine xx ?_;exact ZP (ZO (hk none 0 0))
  ·rw[fin1 (by simp [q3,q4])]at hk;refine xx ?_;exact ZP (ZO (hk none 0 0))
 | false =>
  rw[rest (by simp [q3])]at hk;by_cases q5:1≤d.amt
  ·by_cases q6:d.amt≤4611686018427387904
   ·rw[decide_eq_true q5,decide_eq_true q6]at hk;refine xx ?_;refine Yn (.tk 0 (.tkl 2 (.o1 1 (.o1 3 (.o1 4 (.tk 5 (.tk 6 (.fin))) (.nil)) (.nil)) (.o1 3 (.o1 1 (.o1 4 (.tk 5 (.tk 6 (.fin))) (.nil)) (.nil)) (.nil))))) (by kernel_rfl) (by kernel_rfl) _ (Za.refl _ _) ?_;refine xx ?_;refine Y4 ?_ ?_
    ·refine xx ?_;refine VD ?_;refine xkp (Za.refl _ _) ?_;refine xx ?_;refine Z2 fun b2 nb2 zb2=>?_;(try simp only[ZT]at nb2);refine xkp (Za.tail _ _ _) ?_;refine xx ?_;refine Z4 (t:=28) (e:=164) (sz:=4) (bytes:=32) (by kernel_rfl) Zcc rfl rfl rfl rfl (by decide) [_] _ none 0 [] rfl rfl (Src.own (b:=b2) List.mem_cons_self) (m:=1) (news:=[.int .i64 d.acct,.int .i64 d.mem,.int .u64 d.amt,.bool false]) rfl (by intro u hu;simp only[List.mem_cons,List.not_mem_nil,or_false]at hu;rcases hu with rfl|rfl|rfl|rfl<;>rfl) (by decide) (by decide) ?_;intro o' j1 j2 j3;have ho:=Z9 j1;obtain⟨a',c',e',_⟩:=ho;rw[e'];refine xx ?_;refine xkp (Za.trans (Za.tail _ _ _) (Za.oent _ _ _ _ _ _)) ?_;refine xx ?_;exact ZP (Ww (ZP (ZO (hk _ _ _))))
    ·refine xx ?_;refine Z2 fun b2 nb2 zb2=>?_;(try simp only[ZT]at nb2);refine xkp (Za.tail _ _ _) ?_;refine xx ?_;refine VD ?_;refine xkp (Za.tail _ _ _) ?_;refine xx ?_;refine Z4 (t:=28) (e:=164) (sz:=4) (bytes:=32) (by kernel_rfl) Zcc rfl rfl rfl rfl (by decide) [_] _ none 0 [] rfl rfl (Src.own (b:=b2) List.mem_cons_self) (m:=1) (news:=[.int .i64 d.acct,.int .i64 d.mem,.int .u64 d.amt,.bool false]) rfl (by intro u hu;simp only[List.mem_cons,List.not_mem_nil,or_false]at hu;rcases hu with rfl|rfl|rfl|rfl<;>rfl) (by decide) (by decide) ?_;intro o' j1 j2 j3;have ho:=Z9 j1;obtain⟨a',c',e',_⟩:=ho;rw[e'];refine xx ?_;refine xkp (Za.trans (Za.tail _ _ _) (Za.oent _ _ _ _ _ _)) ?_;refine xx ?_;exact ZP (Ww (ZP (ZO (hk _ _ _))))
   ·simp only[decide_eq_false q6,Bool.and_false,Bool.false_eq_true,if_false]at hk;refine xx ?_;exact ZP (ZO (hk none 0 0))
  ·simp only[decide_eq_false q5,Bool.false_and,Bool.false_eq_true,if_false]at hk;refine xx ?_;exact ZP (ZO (hk none 0 0))
def Zbi (s:Zd)(d:Zo):Bool:=Yak d&&V3 s d.acct&&(d.new||wi d.mem 0 ((s.members.length:Int)-1))
def Zbl (s:Zd)(d:Zg):Bool:=V3 s d.acct&&wi d.at' 0 2147483647&&decide (1≤d.amt)&&decide (d.amt≤4611686018427387904)
def Zvg (l:List Zg)(k:Nat):Bool:=(List.range k).any fun j=>decide ((gr ZZ l k).acct=(gr ZZ l j).acct)&&decide ((gr ZZ l k).at'=(gr ZZ l j).at')
def Ztl (l:List Zg)(k:Nat):Bool:=decide (k=0)||decide ((gr ZZ l (k-1)).at'≤(gr ZZ l k).at')
def Znq (s:Zd)(k:Nat):Bool:=Zbl s (gr ZZ s.dues k) && !Zvg s.dues k&&Ztl s.dues k
def Zpv (s:Zd):Bool:=(List.range s.dues.length).all (Znq s)
def Zby (s:Zd):Bool:=decide (s.pool.length≤256)&&s.pool.all (Zbi s)&&Zpv s
theorem Zti:prog.underlying 240=some (.map 167 4):=by kernel_rfl
theorem Zsh:Yyx prog 167 [.i64,.i64,.u64]:=⟨by kernel_rfl,by kernel_rfl,by kernel_rfl⟩
theorem Ycn (W:World):(zeroValue 4:Sem Value).run prog W = .ok (.bool false) W:=by kernel_rfl
def Zqq (d:Zg):List Int:=[d.acct,d.at',0]
def esD (l:List Zg)(k:Nat):List (List Int×Value):=(l.take k).map fun d=>(Zqq d,.bool true)
theorem Zmu {l:List Zg}{k:Nat}(hk:k<l.length):esD l (k+1)=esD l k++[(Zqq (gr ZZ l k),.bool true)]:=by
 rw[Z8 hk,esD,esD,List.take_succ_eq_append_getElem hk,List.map_append];rfl
theorem Zkd (l:List Zg)(k:Nat):∀e∈esD l k,e.1.length=3:=fun e he=>by
 obtain⟨d,_,rfl⟩:=List.mem_map.1 he;rfl
theorem Zus {es:List (List Int×Value)}{n:List Int}(h:∀e∈es,e.1≠n):Zlu es n=none:=by
 induction es with
 | nil=>rfl
 | cons e es ih=>rw[Zlu,if_neg (fun c=>h e (by simp) c.symm)];exact ih fun x hx=>h x (by simp [hx])
theorem Zur {es:List (List Int×Value)}{n:List Int}{v:Value}(h:∃e∈es,e.1=n)(hv:∀e∈es,e.2=v):Zlu es n=some v:=by
 induction es with
 | nil=>obtain⟨e,he,_⟩:=h;cases he
 | cons e es ih =>
  rw[Zlu];split
  ·rw[hv e (by simp)]
  ·rename_i c;refine ih ?_ fun x hx=>hv x (by simp [hx]);obtain⟨x,hx,hxe⟩:=h;rcases List.mem_cons.1 hx with rfl|hx
   ·exact absurd hxe.symm c
   ·exact⟨x,hx,hxe⟩
theorem keyD_eq {a b:Zg}:Zqq a=Zqq b↔a.acct=b.acct∧a.at'=b.at':=by simp [Zqq]
theorem Zec {l:List Zg}{k:Nat}(hk:k<l.length):(Zvg l k=false→Zlu (esD l k) (Zqq (gr ZZ l k))=none)∧(Zvg l k=true→Zlu (esD l k) (Zqq (gr ZZ l k))=some (.bool true)):=by
 constructor
 ·intro hm;rw[Zvg,List.any_eq_false]at hm;refine Zus fun e he hc=>?_;obtain⟨d,hd,rfl⟩:=List.mem_map.1 he;obtain⟨j,hj,rfl⟩:=List.mem_iff_getElem.1 hd;simp only[List.length_take]at hj;have:=hm j (List.mem_range.2 (by omega));rw[List.getElem_take]at hc;have hc':=keyD_eq.1 hc;rw[Z8 (l:=l) (i:=j) (by omega)]at this;simp [hc'.1,hc'.2]at this
 ·intro hm;rw[Zvg,List.any_eq_true]at hm;obtain⟨j,hj,hq⟩:=hm;have hj':=List.mem_range.1 hj;simp only[Bool.and_eq_true,decide_eq_true_eq]at hq;refine Zur ⟨(Zqq (gr ZZ l j),.bool true),?_,keyD_eq.2 ⟨hq.1.symm,hq.2.symm⟩⟩ fun e he=>?_
  ·refine List.mem_map.2 ⟨gr ZZ l j,?_,rfl⟩;rw[Z8 (by omega)];exact List.mem_iff_getElem.2 ⟨j,by simp;omega,by simp⟩
  ·obtain⟨d,_,rfl⟩:=List.mem_map.1 he;rfl
theorem Ygz {l:List Zg}{k:Nat}(hk:k<l.length):(Zlu (esD l k) (Zqq (gr ZZ l k))).getD (.bool false) = .bool (Zvg l k):=by
 cases hm:Zvg l k with
 | false=>rw[(Zec hk).1 hm];rfl
 | true=>rw[(Zec hk).2 hm];rfl
theorem VP {s:Zd}{k:Nat}(hk:k<s.dues.length)(hq:Znq s k=false):Zpv s=false:=by
 rw[Zpv,List.all_eq_false];exact⟨k,List.mem_range.2 hk,by simp [hq]⟩
theorem Zsz {s:Zd}(v:SV)(hs:Zr h v s)(few:ZB s)(hk:K (.bool (Zby s)) L h):Zc prog 62 [stV s v] L h K:=by
 obtain⟨pa,pc,ma,mc,ea,ec,xa,xc,oa,oc,da,dc,ta,tc,ka,kc,ra,rc,rfl⟩:=hs.slices;have ho:Zh Zaf 4 h (.slice oa s.pool.length oc) s.pool:=hs.o;have hd:Zh Yz 3 h (.slice da s.dues.length dc) s.dues:=hs.d;have fm:=few.m;have fo:=few.o;have fd:=few.d;unfold Zby at hk;refine ZS func62 rfl (rs:=[_]) rfl rfl ZW (by kernel_rfl) rfl rfl ?_;refine xx ?_;refine Z2 fun b1 nb1 zb1=>?_;(try simp only[ZT]at nb1);refine xx ?_;by_cases c0:s.pool.length≤256
 ·rw[decide_eq_true c0,Bool.true_and]at hk;refine xx ?_;refine YO (0:Nat) (fun k=>k≤s.pool.length∧∀j,j<k→Zbi s (gr YT s.pool j)=true) (fun k=>[(20,.int .i64 k),(19,.int .i64 s.pool.length),(18,.slice oa s.pool.length oc),(1,.pointer (some ⟨b1,0,none⟩))]) (fun _=>⟨b1,132,stC s ⟨.slice pa s.purses.length pc,.slice ma s.members.length mc,.slice ea s.entry.length ec,.slice xa s.exit.length xc,.slice oa s.pool.length oc,.slice da s.dues.length dc,.slice ta s.motions.length tc,.slice ka s.marks.length kc,.slice ra s.ring.length rc⟩,41⟩::L) (fun _=>h) (fun k=>s.pool.length-k) ?_ ?_ ?_ ?_
  ·exact⟨Nat.zero_le _,fun j hj=>by omega⟩
  ·simp [Ent,List.lookup,Wo]
  ·exact Za.refl _ _
  rintro k ⟨k1,k2⟩;by_cases c1:k<s.pool.length
  ·have hxo:=hs.oo (gr YT s.pool k) (by rw[Z8 c1];exact List.getElem_mem c1);simp -dsimp -implicitDefEqProofs (disch:=first|with_reducible assumption|omega) [go_sem,↓Uw YT (by decide) ho,Zaf];refine Z2 fun b2 nb2 zb2=>?_;(try simp only[ZT]at nb2);simp -dsimp -implicitDefEqProofs (disch:=first|with_reducible assumption|omega) [go_sem,Zaf];refine Yaa (gr YT s.pool k) hxo fun a' n' c'=>?_
   cases q1:Yak (gr YT s.pool k) with
   | false =>
    rw[YP YT _ _ c1 (by simp only[Zbi,q1,Bool.false_and])]at hk;refine xx ?_;exact ZP (ZP (ZO (by simpa using hk)))
   | true =>
   refine xx ?_;refine Vu _ hs few _ ?_
   cases q2:V3 s (gr YT s.pool k).acct with
   | false =>
    rw[YP YT _ _ c1 (by simp only[Zbi,q2,Bool.and_false,Bool.false_and])]at hk;refine xx ?_;exact ZP (ZP (ZO (by simpa using hk)))
   | true =>
   have next:Zbi s (gr YT s.pool k)=true→∀j,j<k+1→Zbi s (gr YT s.pool j)=true:=fun hq j hj=>by
    by_cases e:j=k
    ·subst e;exact hq
    ·exact k2 j (by omega)
   cases q3:(gr YT s.pool k).new with
   | true =>
    refine xx ?_;exact⟨k+1,⟨by omega,next (by simp only[Zbi,q1,q2,q3,Bool.true_and,Bool.true_or])⟩,by omega,by simp [Ent,List.lookup],Za.tail _ _ _⟩
   | false =>
    refine xx ?_;refine UQ _ _ _ ?_
    cases q4:wi (gr YT s.pool k).mem 0 ((s.members.length:Int)-1) with
    | false =>
     rw[YP YT _ _ c1 (by simp only[Zbi,q3,q4,Bool.or_self,Bool.and_false])]at hk;refine xx ?_;exact ZP (ZP (ZO (by simpa using hk)))
    | true =>
     refine xx ?_;exact⟨k+1,⟨by omega,next (by simp only[Zbi,q1,q2,q3,q4,Bool.true_and,Bool.false_or])⟩,by omega,by simp [Ent,List.lookup],Za.tail _ _ _⟩
  ·have hkl:k=s.pool.length:=by omega
   subst hkl;rw[Gi YT _ _ k2,Bool.true_and]at hk;refine xx ?_;refine Ztt fun bm n_bm h_bm=>?_;(try simp only[ZT]at n_bm);refine xx ?_;refine YO (0:Nat) (fun k=>k≤s.dues.length∧∀j,j<k→Znq s j=true) (fun k=>[(60,.int .i64 k),(59,.int .i64 s.dues.length),(58,.slice da s.dues.length dc),(7,.map (some bm)),(1,.pointer (some ⟨b1,0,none⟩))]) (fun k=>⟨bm,4294967295,Zqt [.i64,.i64,.u64] (esD s.dues k),0⟩::⟨b1,132,stC s ⟨.slice pa s.purses.length pc,.slice ma s.members.length mc,.slice ea s.entry.length ec,.slice xa s.exit.length xc,.slice oa s.pool.length oc,.slice da s.dues.length dc,.slice ta s.motions.length tc,.slice ka s.marks.length kc,.slice ra s.ring.length rc⟩,41⟩::L) (fun _=>h) (fun k=>s.dues.length-k) ?_ ?_ ?_ ?_
   ·exact⟨Nat.zero_le _,fun j hj=>by omega⟩
   ·simp [Ent,List.lookup,Wo]
   ·exact Za.refl _ _
   rintro k ⟨k1,k2⟩;by_cases c1:k<s.dues.length
   ·have hxo:=hs.dd (gr ZZ s.dues k) (by rw[Z8 c1];exact List.getElem_mem c1);have ua:=hxo.a;simp -dsimp -implicitDefEqProofs (disch:=first|with_reducible assumption|omega) [go_sem,↓Uw ZZ (by decide) hd,Yz];refine Z2 fun b9 nb9 zb9=>?_;(try simp only[ZT]at nb9);simp -dsimp -implicitDefEqProofs (disch:=first|with_reducible assumption|omega) [go_sem,Yz];refine Z2 fun b10 nb10 zb10=>?_;(try simp only[ZT]at nb10);simp -dsimp -implicitDefEqProofs (disch:=first|with_reducible assumption|omega) [go_sem,Yz];refine Zgl (by kernel_rfl) rfl ?_;refine xx ?_;have key:Znq s k=true→∀j,j<k+1→Znq s j=true:=fun hq j hj=>by
     by_cases e:j=k
     ·subst e;exact hq
     ·exact k2 j (by omega)
    refine Zsg _ (Vu _ hs few _ ⟨rfl,rfl,rfl⟩) ?_
    cases q1:V3 s (gr ZZ s.dues k).acct with
    | false =>
     rw[VP c1 (by simp only[Znq,Zbl,q1,Bool.and_false,Bool.false_and,Bool.not_true])]at hk;refine xx ?_;exact ZP (ZP (ZP (ZP (ZO hk))))
    | true =>
    refine xx ?_;refine Zsg _ (UQ _ _ _ ⟨rfl,rfl,rfl⟩) ?_
    cases q2:wi (gr ZZ s.dues k).at' 0 2147483647 with
    | false =>
     rw[VP c1 (by simp only[Znq,Zbl,q2,Bool.and_false,Bool.false_and,Bool.not_true])]at hk;refine xx ?_;exact ZP (ZP (ZP (ZP (ZO hk))))
    | true =>
    by_cases q3:1≤(gr ZZ s.dues k).amt
    ·by_cases q4:(gr ZZ s.dues k).amt≤4611686018427387904
     ·refine xx ?_;refine Zrm (n:=Zqq (gr ZZ s.dues k)) Zti Zsh Ycn rfl (esD s.dues k) (Zkd _ _) (List.mem_cons_of_mem _ (List.mem_cons_of_mem _ List.mem_cons_self)) ?_;rw[Ygz c1];simp only[Bool.false_eq_true,if_false]
      cases q5:Zvg s.dues k with
      | true =>
       rw[VP c1 (by simp only[Znq,Zbl,q5,Bool.and_false,Bool.false_and,Bool.not_true])]at hk;refine xx ?_;exact ZP (ZP (ZP (ZP (ZO hk))))
      | false =>
      by_cases c2:k=0
      ·have q6:Ztl s.dues k=true:=by simp [Ztl,c2]
       have c3:¬(0<(k:Int)):=by omega
       refine xx ?_;refine Zha (n:=Zqq (gr ZZ s.dues k)) Zti Zsh rfl [_,_] _ (esD s.dues k) (Zkd _ _) ((Zec c1).1 q5) ?_;rw[← Zmu c1];refine xx ?_;exact⟨k+1,⟨by omega,key (by simp only[Znq,Zbl,q1,q2,q5,q6,decide_eq_true q3,decide_eq_true q4,Bool.and_self,Bool.not_false])⟩,by omega,by simp [Ent,List.lookup],Za.trans (Za.tail _ _ _) (Za.tail _ _ _)⟩
      ·have e1:((k:Int)-1).toNat=k-1:=by omega
       by_cases c4:(gr ZZ s.dues (k-1)).at'≤(gr ZZ s.dues k).at'
       ·have q6:Ztl s.dues k=true:=by simp [Ztl,c4]
        simp -dsimp -implicitDefEqProofs (disch:=first|with_reducible assumption|omega) [go_sem,↓Uw ZZ (by decide) hd,e1];refine(Zh.fld ZZ hd (j:=k-1) (o:=1) (by omega) (u:=.int .i64 (gr ZZ s.dues (k-1)).at') rfl _ _ _).mpr ?_;refine xx ?_;refine Zha (n:=Zqq (gr ZZ s.dues k)) Zti Zsh rfl [_,_] _ (esD s.dues k) (Zkd _ _) ((Zec c1).1 q5) ?_;rw[← Zmu c1];refine xx ?_;exact⟨k+1,⟨by omega,key (by simp only[Znq,Zbl,q1,q2,q5,q6,decide_eq_true q3,decide_eq_true q4,Bool.and_self,Bool.not_false])⟩,by omega,by simp [Ent,List.lookup],Za.trans (Za.tail _ _ _) (Za.tail _ _ _)⟩
       ·have q6:Ztl s.dues k=false:=by simp [Ztl,c2,c4]
        simp -dsimp -implicitDefEqProofs (disch:=first|with_reducible assumption|omega) [go_sem,↓Uw ZZ (by decide) hd,e1];refine(Zh.fld ZZ hd (j:=k-1) (o:=1) (by omega) (u:=.int .i64 (gr ZZ s.dues (k-1)).at') rfl _ _ _).mpr ?_;rw[VP c1 (by simp only[Znq,Zbl,q6,Bool.and_false,Bool.false_and,Bool.not_true])]at hk;refine xx ?_;exact ZP (ZP (ZP (ZP (ZO hk))))
     ·have q4':=decide_eq_false q4;rw[VP c1 (by simp only[Znq,Zbl,q4',Bool.and_false,Bool.false_and,Bool.not_true])]at hk;refine xx ?_;exact ZP (ZP (ZP (ZP (ZO hk))))
    ·have q3':=decide_eq_false q3;rw[VP c1 (by simp only[Znq,Zbl,q3',Bool.and_false,Bool.false_and,Bool.not_true])]at hk;refine xx ?_;exact ZP (ZP (ZP (ZP (ZO hk))))
   ·have hkl:k=s.dues.length:=by omega
    subst hkl;have hq:Zpv s=true:=by
     rw[Zpv,List.all_eq_true];exact fun j hj=>k2 j (List.mem_range.1 hj)
    rw[hq]at hk;refine xx ?_;exact ZP (ZP (ZO hk))
 ·rw[decide_eq_false c0]at hk;refine xx ?_;exact ZP (ZO (by simpa using hk))
def WK (s:Zd):Bool:=YM s.par&&wi s.ep 0 1073741824&&wi s.calm 0 1073741824&&J0 s&&Vo s&&Zby s&&UV s&&Zgk s&&WY s
theorem JV {s:Zd}(v:SV)(hs:Zr h v s)(few:ZB s)(hk:K (.bool (WK s)) L h):Zc prog 16 [stV s v] L h K:=by
 obtain⟨pa,pc,ma,mc,ea,ec,xa,xc,oa,oc,da,dc,ta,tc,ka,kc,ra,rc,rfl⟩:=hs.slices;refine ZS func16 rfl (rs:=[_]) rfl rfl ZW (by kernel_rfl) rfl rfl ?_;refine xx ?_;refine Z2 fun b1 nb1 zb1=>?_;(try simp only[ZT]at nb1);refine xx ?_;refine Z2 fun b2 nb2 zb2=>?_;(try simp only[ZT]at nb2);refine xx ?_;refine WS s.par hs.ok.p ?_
 cases q1:YM s.par with
 | false =>
  simp only[WK,q1,Bool.false_and]at hk;refine xx ?_;exact ZP (ZP (ZO hk))
 | true =>
 refine xx ?_;refine UQ _ _ _ ?_
 cases q2:wi s.ep 0 1073741824 with
 | false =>
  simp only[WK,q2,Bool.and_false,Bool.false_and]at hk;refine xx ?_;exact ZP (ZP (ZO hk))
 | true =>
 refine xx ?_;refine UQ _ _ _ ?_
 cases q3:wi s.calm 0 1073741824 with
 | false =>
  simp only[WK,q3,Bool.and_false,Bool.false_and]at hk;refine xx ?_;exact ZP (ZP (ZO hk))
 | true =>
 refine xx ?_;refine Znz (s:=s) ⟨.slice pa s.purses.length pc,.slice ma s.members.length mc,.slice ea s.entry.length ec,.slice xa s.exit.length xc,.slice oa s.pool.length oc,.slice da s.dues.length dc,.slice ta s.motions.length tc,.slice ka s.marks.length kc,.slice ra s.ring.length rc⟩ hs few ?_
 cases q4:J0 s with
 | false =>
  simp only[WK,q4,Bool.and_false,Bool.false_and]at hk;refine xx ?_;exact ZP (ZP (ZO hk))
 | true =>
 refine xx ?_;refine Ziz (s:=s) ⟨.slice pa s.purses.length pc,.slice ma s.members.length mc,.slice ea s.entry.length ec,.slice xa s.exit.length xc,.slice oa s.pool.length oc,.slice da s.dues.length dc,.slice ta s.motions.length tc,.slice ka s.marks.length kc,.slice ra s.ring.length rc⟩ hs few q1 ?_
 cases q5:Vo s with
 | false =>
  simp only[WK,q5,Bool.and_false,Bool.false_and]at hk;refine xx ?_;exact ZP (ZP (ZO hk))
 | true =>
 refine xx ?_;refine Zsz (s:=s) ⟨.slice pa s.purses.length pc,.slice ma s.members.length mc,.slice ea s.entry.length ec,.slice xa s.exit.length xc,.slice oa s.pool.length oc,.slice da s.dues.length dc,.slice ta s.motions.length tc,.slice ka s.marks.length kc,.slice ra s.ring.length rc⟩ hs few ?_
 cases q6:Zby s with
 | false =>
  simp only[WK,q6,Bool.and_false,Bool.false_and]at hk;refine xx ?_;exact ZP (ZP (ZO hk))
 | true =>
 refine xx ?_;refine Zih (s:=s) ⟨.slice pa s.purses.length pc,.slice ma s.members.length mc,.slice ea s.entry.length ec,.slice xa s.exit.length xc,.slice oa s.pool.length oc,.slice da s.dues.length dc,.slice ta s.motions.length tc,.slice ka s.marks.length kc,.slice ra s.ring.length rc⟩ hs few ?_
 cases q7:UV s with
 | false =>
  simp only[WK,q7,Bool.and_false,Bool.false_and]at hk;refine xx ?_;exact ZP (ZP (ZO hk))
 | true =>
 refine xx ?_;refine Zwf (s:=s) ⟨.slice pa s.purses.length pc,.slice ma s.members.length mc,.slice ea s.entry.length ec,.slice xa s.exit.length xc,.slice oa s.pool.length oc,.slice da s.dues.length dc,.slice ta s.motions.length tc,.slice ka s.marks.length kc,.slice ra s.ring.length rc⟩ hs few ?_
 cases q8:Zgk s with
 | false =>
  simp only[WK,q8,Bool.and_false,Bool.false_and]at hk;refine xx ?_;exact ZP (ZP (ZO hk))
 | true =>
 simp only[WK,q1,q2,q3,q4,q5,q6,q7,q8,Bool.and_self,Bool.true_and]at hk;refine xx ?_;refine Zwu (s:=s) ⟨.slice pa s.purses.length pc,.slice ma s.members.length mc,.slice ea s.entry.length ec,.slice xa s.exit.length xc,.slice oa s.pool.length oc,.slice da s.dues.length dc,.slice ta s.motions.length tc,.slice ka s.marks.length kc,.slice ra s.ring.length rc⟩ hs few ?_;refine xx ?_;exact ZP (ZP (ZO hk))
theorem W7 (m:Zb)(hk:K (.bool (decide (m.status=2∨m.status=3))) L h):Zc prog 28 [Zym m] L h K:=by
 refine ZS func28 rfl (rs:=[_]) rfl rfl ZW (by kernel_rfl) rfl rfl ?_;refine xx ?_;refine Z2 fun b1 nb1 zb1=>?_;(try simp only[ZT]at nb1);refine xx ?_;by_cases c:m.status=2
 ·refine xx ?_;exact ZP (ZO (by simpa [c] using hk))
 ·refine xx ?_;exact ZP (ZO (by simpa [c] using hk))
def Zkp (s:Zd):Bool:=decide (s.purses.length≤100)&&decide (s.members.length≤200)&&decide (s.entry.length≤300)&&decide (s.exit.length≤300)&&decide (s.pool.length≤300)&&decide (s.dues.length≤200)&&decide (s.motions.length≤40)&&decide (s.ring.length≤20)&&decide (s.marks.length≤50)
def Zbf (s:Zd):Bool:=Zkp s&&s.ring.all (fun b=>decide (b.length≤50))&&s.motions.all (fun m=>decide (m.yes.length≤50)&&decide (m.no.length≤50))
theorem Zmp {s:Zd}(hf:Zkp s=true):s.purses.length≤100∧s.members.length≤200∧s.entry.length≤300∧s.exit.length≤300∧s.pool.length≤300∧s.dues.length≤200∧s.motions.length≤40∧s.ring.length≤20∧s.marks.length≤50:=by
 simp only[Zkp,Bool.and_eq_true,decide_eq_true_eq]at hf;omega
theorem Yfa {s:Zd}(hf:Zbf s=true):Zkp s=true:=by
 simp only[Zbf,Bool.and_eq_true]at hf;exact hf.1.1
theorem Zro {s:Zd}(v:SV)(hs:Zr h v s)(hk:K (.bool (Zbf s)) L h):Zc prog 10 [stV s v] L h K:=by
 obtain⟨pa,pc,ma,mc,ea,ec,xa,xc,oa,oc,da,dc,ta,tc,ka,kc,ra,rc,rfl⟩:=hs.slices;have no:Zbf s=false→K (.bool false) L h:=fun e=>by rwa [e]at hk
 refine ZS func10 rfl (rs:=[_]) rfl rfl ZW (by kernel_rfl) rfl rfl ?_;refine xx ?_;refine Z2 fun b1 nb1 zb1=>?_;(try simp only[ZT]at nb1);refine xx ?_;by_cases c1:100<s.purses.length
 ·have:=no (by simp only[Zbf,Zkp,decide_eq_false (p:=s.purses.length≤100) (by omega),Bool.false_and,Bool.and_false]);refine xx ?_;exact ZP (ZO this)
 by_cases c2:200<s.members.length
 ·have:=no (by simp only[Zbf,Zkp,decide_eq_false (p:=s.members.length≤200) (by omega),Bool.false_and,Bool.and_false]);refine xx ?_;exact ZP (ZO this)
 by_cases c3:300<s.entry.length
 ·have:=no (by simp only[Zbf,Zkp,decide_eq_false (p:=s.entry.length≤300) (by omega),Bool.false_and,Bool.and_false]);refine xx ?_;exact ZP (ZO this)
 by_cases c4:300<s.exit.length
 ·have:=no (by simp only[Zbf,Zkp,decide_eq_false (p:=s.exit.length≤300) (by omega),Bool.false_and,Bool.and_false]);refine xx ?_;exact ZP (ZO this)
 by_cases c5:300<s.pool.length
 ·have:=no (by simp only[Zbf,Zkp,decide_eq_false (p:=s.pool.length≤300) (by omega),Bool.false_and,Bool.and_false]);refine xx ?_;exact ZP (ZO this)
 by_cases c6:200<s.dues.length
 ·have:=no (by simp only[Zbf,Zkp,decide_eq_false (p:=s.dues.length≤200) (by omega),Bool.false_and,Bool.and_false]);refine xx ?_;exact ZP (ZO this)
 by_cases c7:40<s.motions.length
 ·have:=no (by simp only[Zbf,Zkp,decide_eq_false (p:=s.motions.length≤40) (by omega),Bool.false_and,Bool.and_false]);refine xx ?_;exact ZP (ZO this)
 by_cases c8:20<s.ring.length
 ·have:=no (by simp only[Zbf,Zkp,decide_eq_false (p:=s.ring.length≤20) (by omega),Bool.false_and,Bool.and_false]);refine xx ?_;exact ZP (ZO this)
 by_cases c9:50<s.marks.length
 ·have:=no (by simp only[Zbf,Zkp,decide_eq_false (p:=s.marks.length≤50) (by omega),Bool.false_and,Bool.and_false]);refine xx ?_;exact ZP (ZO this)
 have f9:Zkp s=true:=by
  simp only[Zkp,Bool.and_eq_true,decide_eq_true_eq];omega
 obtain⟨qr,hdr,tr⟩:=hs.r;have hqr:qr.length=s.ring.length:=by rw[← tr,Vk]
 simp only at hdr;obtain⟨_,_,hre,_,_,_,hcr,hdd⟩:=hdr.open;injection hre with hre1 hre2 hre3
 subst hre1;subst hre3;have hcr':∀j,j<s.ring.length→Yd h ra j=some ((fun j=>(gs qr j).1) j):=fun j hj=>hcr j (by omega);have hgs:∀j,j<qr.length→gr [] s.ring j=(gs qr j).2:=fun j hj=>by
  rw[← tr,Z8 (by rw[Vk];exact hj),Zdr hj];simp [xsL]
 refine xx ?_;refine YO (0:Nat) (fun k=>k≤s.ring.length∧∀j,j<k→(fun b:List Int=>decide (b.length≤50)) (gr [] s.ring j)=true) (fun k=>[(62,.int .i64 k),(61,.int .i64 s.ring.length),(60,.slice ra s.ring.length rc),(1,.pointer (some ⟨b1,0,none⟩))]) (fun _=>⟨b1,34,stC s ⟨.slice pa s.purses.length pc,.slice ma s.members.length mc,.slice ea s.entry.length ec,.slice xa s.exit.length xc,.slice oa s.pool.length oc,.slice da s.dues.length dc,.slice ta s.motions.length tc,.slice ka s.marks.length kc,.slice ra s.ring.length rc⟩,41⟩::L) (fun _=>h) (fun k=>s.ring.length-k) ?_ ?_ ?_ ?_
 ·exact⟨Nat.zero_le _,fun j hj=>by omega⟩
 ·simp [Ent,List.lookup,Wo]
 ·exact Za.refl _ _
 rintro k ⟨k1,k2⟩;by_cases d1:k<s.ring.length
 ·have hi:=hdd.at (i:=k) (by omega);obtain⟨x1,y1,hv1,_⟩:=hi.open;have hg:=hgs k (by omega);simp -dsimp -implicitDefEqProofs (disch:=first|with_reducible assumption|omega) [go_sem,idx hcr',hv1];by_cases d2:50<(gs qr k).2.length
  ·have:=no (by simp only[Zbf,YP [] (fun b:List Int=>decide (b.length≤50)) s.ring d1 (by rw[hg];exact decide_eq_false (by omega)),Bool.false_and,Bool.and_false]);refine xx ?_;exact ZP (ZO this)
  ·refine xx ?_;refine⟨k+1,⟨by omega,fun j hj=>?_⟩,by omega,by simp [Ent,List.lookup],Za.refl _ _⟩;by_cases e:j=k
   ·subst e;rw[hg];first|omega|exact decide_eq_true (by omega)
   ·first|exact k2 j (by omega)|simpa using k2 j (by omega)
 have hkl:k=s.ring.length:=by omega
 subst hkl;have rall:=Gi [] (fun b:List Int=>decide (b.length≤50)) s.ring k2;clear k2 d1 k1;obtain⟨q,hd,t2,t3⟩:=hs.t;have hql:q.length=s.motions.length:=by rw[← t2,List.length_map]
 have hgr:∀k,k<q.length→gr Yc s.motions k=(gr Z6 q k).2.2:=fun k hk=>by
  rw[Z8 hk,Z8 (by omega)];simp only[← t2,List.getElem_map]
 simp only at hd;refine xx ?_;refine YO (0:Nat) (fun k=>k≤s.motions.length∧∀j,j<k→(fun m:Zn=>decide (m.yes.length≤50)&&decide (m.no.length≤50)) (gr Yc s.motions j)=true) (fun k=>[(73,.int .i64 k),(72,.int .i64 s.motions.length),(71,.slice ta s.motions.length tc),(1,.pointer (some ⟨b1,0,none⟩))]) (fun _=>⟨b1,34,stC s ⟨.slice pa s.purses.length pc,.slice ma s.members.length mc,.slice ea s.entry.length ec,.slice xa s.exit.length xc,.slice oa s.pool.length oc,.slice da s.dues.length dc,.slice ta s.motions.length tc,.slice ka s.marks.length kc,.slice ra s.ring.length rc⟩,41⟩::L) (fun _=>h) (fun k=>s.motions.length-k) ?_ ?_ ?_ ?_
 ·exact⟨Nat.zero_le _,fun j hj=>by omega⟩
 ·simp [Ent,List.lookup,Wo]
 ·exact Za.refl _ _
 rintro k ⟨k1,k2⟩;by_cases d1:k<s.motions.length
 ·have hx:Zu h (gr Z6 q k):=by rw[Z8 (by omega)];exact t3 _ (List.getElem_mem (by omega))
  have hg:=hgr k (by omega);obtain⟨x1,y1,hv1,_⟩:=hx.y.open;obtain⟨x2,y2,hv2,_⟩:=hx.n.open;simp -dsimp -implicitDefEqProofs (disch:=first|with_reducible assumption|omega) [go_sem,↓Uw Z6 (by decide) hd,WE];refine Z2 fun b2 nb2 zb2=>?_;(try simp only[ZT]at nb2);simp -dsimp -implicitDefEqProofs (disch:=first|with_reducible assumption|omega) [go_sem,WE,hv1,hv2];by_cases d2:50<(gr Z6 q k).2.2.yes.length
  ·have:=no (by simp only[Zbf,YP Yc (fun m:Zn=>decide (m.yes.length≤50)&&decide (m.no.length≤50)) s.motions d1 (by rw[hg];simp;omega),Bool.and_false]);refine xx ?_;exact ZP (ZP (ZO this))
  by_cases d3:50<(gr Z6 q k).2.2.no.length
  ·have:=no (by simp only[Zbf,YP Yc (fun m:Zn=>decide (m.yes.length≤50)&&decide (m.no.length≤50)) s.motions d1 (by rw[hg];simp;omega),Bool.and_false]);refine xx ?_;exact ZP (ZP (ZO this))
  refine xx ?_;refine⟨k+1,⟨by omega,fun j hj=>?_⟩,by omega,by simp [Ent,List.lookup],Za.tail _ _ _⟩;by_cases e:j=k
  ·subst e;rw[hg];first|omega|(simp;omega)
  ·first|exact k2 j (by omega)|simpa using k2 j (by omega)
 ·have hkl:k=s.motions.length:=by omega
  subst hkl;have tall:=Gi Yc (fun m:Zn=>decide (m.yes.length≤50)&&decide (m.no.length≤50)) s.motions k2;have yes:Zbf s=true:=by simp only[Zbf,f9,rall,tall,Bool.and_self]
  rw[yes]at hk;refine xx ?_;exact ZP (ZO hk)
theorem Zpy {h:PH}{v:Value}{n:Nat}(sl:Sl h v n 1 (List.replicate n (.int .u8 0))):Ints h .u8 v (List.replicate n 0) :=
 ⟨by simpa [List.map_replicate] using sl,fun z hz=>by rw[List.eq_of_mem_replicate hz];decide⟩
end Go.X

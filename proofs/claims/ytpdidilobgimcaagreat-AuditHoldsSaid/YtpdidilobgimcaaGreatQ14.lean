/- Lemmas and contracts. Conditions: as each says. -/
import Derived.Test.YtpdidilobgimcaaGreatQ12
import Derived.Test.YtpdidilobgimcaaGreatQ13
set_option linter.unusedVariables false
set_option linter.unusedSimpArgs false
set_option maxHeartbeats 12800000
set_option maxRecDepth 20000
namespace Go.X
open Go.RowKit Go.Proofs Go.Bl Go.Proofs.Tryz
variable {L:Own} {h:PH} {K:PK}
def Wo (p:Zd)(b:Int):Int:=min (b-b%p.inc) p.maxEff
def Ybp (p:Zd)(e b:Int):Bool:=decide (b+p.down<e)||decide (e+p.up<b)
def GR (p:Zd)(e b:Int):Int:=if Ybp p e b then Wo p b else e
def Vh (p:Zd)(e b:Int):Bool:=decide (p.inc≤e)&&decide (e≤p.maxEff)&&decide (e%p.inc=0)&&decide (GR p e b=e)
theorem U7 {p:Zd}(hr:Yl p=true):1≤p.inc:=by
 simp only[Yl,Bool.and_eq_true]at hr;exact(YG hr.1.1.1).1
theorem Zb.keep {P:Program}{f:FuncId}{args:List Value}{v:Value}(hs:Zb P f args L h fun v' L' h'=>v'=v∧L'=L∧PH.le h h')(hk:K v L h):Zb P f args L h K :=
 hs.forget.mono fun _ _ _ ⟨a,b,c⟩=>by subst a;subst b;subst c;exact hk
theorem W9 (p:Zd)(ok:Zj p)(hk:K (.int .i64 (if Yl p then 0 else 70)) L h):Zb prog 59 [Vp p] L h K :=
 Zb.keep (Zrp p ok fun _ le=>⟨rfl,rfl,le⟩) hk
theorem Jl (p:Zd)(ok:Zj p)(hk:K (.tuple #[Vp p,.bool (Yl p)]) L h):Zb prog 274 [Vp p] L h K:=by
 refine ZS func274 rfl (rs:=[_,_]) rfl rfl ZY (by kernel_rfl) rfl rfl ?_;refine xx ?_;refine Z0 fun b1 nb1 zb1=>?_;(try simp only[ZT]at nb1);refine xx ?_;refine Z0 fun b2 nb2 zb2=>?_;(try simp only[ZT]at nb2);refine xx ?_;refine Yi (.tkl 0 (.tk 1 (.o1 2 (.o1 3 (.tk 4 (.o2 5 (.tk 6 (.fin)) (.nil))) (.nil)) (.nil)))) (by kernel_rfl) (by kernel_rfl) _ (Za.refl _ _) ?_;refine xx ?_;refine W9 p ok ?_;refine xkp (Za.refl _ _) ?_
 cases hr:Yl p with
 | true =>
  rw[hr]at hk;refine xx ?_;exact ZO (ZO (ZP hk))
 | false =>
  rw[hr]at hk;refine xx ?_;exact ZO (ZO (ZP hk))
theorem Zhc (p:Zd)(b:Int)(h1:1≤p.inc)(hb:0≤b∧b≤18446744073709551615)(hk:K (.int .u64 (Wo p b)) L h):Zb prog 317 [Vp p,.int .u64 b] L h K:=by
 unfold Wo at hk;have e1:=Int.emod_nonneg b (show p.inc≠0 by omega);have e2:b%p.inc≤b:=by
  rw[Int.emod_def];have:=Int.mul_nonneg (show 0≤p.inc by omega) (Int.ediv_nonneg hb.1 (show 0≤p.inc by omega));omega
 refine ZS func317 rfl (rs:=[_]) rfl rfl ZY (by kernel_rfl) rfl rfl ?_;refine xx ?_;refine Z0 fun b1 nb1 zb1=>?_;(try simp only[ZT]at nb1);refine xx ?_;refine Yi (.tk 0 (.tk 1 (.tk 2 (.tk 3 (.tk 7 (.tk 8 (.tkl 4 (.tk 5 (.tk 6 (.tkl 9 (.o1 10 (.tk 11 (.fin)) (.nil)))))))))))) (by kernel_rfl) (by kernel_rfl) _ (Za.refl _ _) ?_;refine xx ?_;exact ZO (ZP hk)
theorem Ymi (p:Zd)(ok:Zj p)(e b:Int)(he:0≤e∧e≤18446744073709551615)(hb:0≤b∧b≤18446744073709551615)(hk:K (.bool (Ybp p e b)) L h):Zb prog 344 [Vp p,.int .u64 e,.int .u64 b] L h K:=by
 have u1:=ok.w p.down (by simp [Yy]);have u2:=ok.w p.up (by simp [Yy]);refine ZS func344 rfl (rs:=[_]) rfl rfl ZY (by kernel_rfl) rfl rfl ?_;refine xx ?_;refine Z0 fun b1 nb1 zb1=>?_;(try simp only[ZT]at nb1);refine xx ?_;refine WM _ _ hb u1 ?_;by_cases c1:b+p.down≤18446744073709551615
 ·rw[YK c1];refine xx ?_;refine WM _ _ he u2 ?_;by_cases c2:e+p.up≤18446744073709551615
  ·rw[YK c2];by_cases c3:b+p.down<e
   ·refine xx ?_;exact ZO (ZP (by simpa [Ybp,c3] using hk))
   ·refine xx ?_;exact ZO (ZP (by simpa [Ybp,c3] using hk))
  ·rw[Wl c2];have c4:¬e+p.up<b:=by omega
   by_cases c3:b+p.down<e
   ·refine xx ?_;exact ZO (ZP (by simpa [Ybp,c3,c4] using hk))
   ·refine xx ?_;exact ZO (ZP (by simpa [Ybp,c3,c4] using hk))
 ·rw[Wl c1];have c3:¬b+p.down<e:=by omega
  refine xx ?_;refine WM _ _ he u2 ?_;by_cases c2:e+p.up≤18446744073709551615
  ·rw[YK c2];refine xx ?_;exact ZO (ZP (by simpa [Ybp,c3] using hk))
  ·rw[Wl c2];have c4:¬e+p.up<b:=by omega
   refine xx ?_;exact ZO (ZP (by simpa [Ybp,c3,c4] using hk))
theorem Znr (p:Zd)(ok:Zj p)(h1:1≤p.inc)(e b:Int)(he:0≤e∧e≤18446744073709551615)(hb:0≤b∧b≤18446744073709551615)(hk:K (.int .u64 (GR p e b)) L h):Zb prog 275 [Vp p,.int .u64 e,.int .u64 b] L h K:=by
 refine ZS func275 rfl (rs:=[_]) rfl rfl ZY (by kernel_rfl) rfl rfl ?_;refine xx ?_;refine Z0 fun b1 nb1 zb1=>?_;(try simp only[ZT]at nb1);refine xx ?_;refine Ymi p ok e b he hb ?_;unfold GR at hk
 cases c:Ybp p e b with
 | true =>
  rw[c]at hk;refine xx ?_;refine Zhc p b h1 hb ?_;refine xx ?_;exact ZO (ZP (by simpa using hk))
 | false =>
  rw[c]at hk;refine xx ?_;exact ZO (ZP (by simpa using hk))
theorem Zjr (p:Zd)(ok:Zj p)(e b:Int)(he:0≤e∧e≤18446744073709551615)(hb:0≤b∧b≤18446744073709551615)(hk:K (.bool (Yl p&&Vh p e b)) L h):Zb prog 215 [Vp p,.int .u64 e,.int .u64 b] L h K:=by
 refine ZS func215 rfl (rs:=[_]) rfl rfl ZY (by kernel_rfl) rfl rfl ?_;refine xx ?_;refine Z0 fun b1 nb1 zb1=>?_;(try simp only[ZT]at nb1);refine xx ?_;refine Jl p ok ?_
 cases hr:Yl p with
 | false =>
  rw[hr]at hk;refine xx ?_;refine Z0 fun b2 nb2 zb2=>?_;(try simp only[ZT]at nb2);refine xx ?_;exact ZO (ZO (ZP (by simpa using hk)))
 | true =>
  have h1:=U7 hr;rw[hr]at hk;refine xx ?_;refine Z0 fun b2 nb2 zb2=>?_;(try simp only[ZT]at nb2);refine xx ?_;by_cases c1:p.inc≤e
  ·by_cases c2:e≤p.maxEff
   ·by_cases c3:e%p.inc=0
    ·refine xx ?_;refine Znr p ok h1 e b he hb ?_;refine xx ?_;exact ZO (ZO (ZP (by simpa [Vh,c1,c2,c3] using hk)))
    ·refine xx ?_;exact ZO (ZO (ZP (by simpa [Vh,c1,c2,c3] using hk)))
   ·refine xx ?_;exact ZO (ZO (ZP (by simpa [Vh,c1,c2] using hk)))
  ·refine xx ?_;exact ZO (ZO (ZP (by simpa [Vh,c1] using hk)))
def Gh (p:Zd)(m:Zc):Zc:={ m with score:=min m.score p.scoreCap,streak:=min (max m.streak 0) p.streak }
abbrev Zjn (m:Zc):Value := .agg #[.int .u64 m.bal,.int .u64 m.eff,.int .u64 m.score,.int .i64 m.streak]
abbrev Ztw (m:Zc):Value := .agg #[.int .u64 m.bal,.int .u64 m.eff,.int .u64 m.score,.int .i64 m.streak,.int .i64 m.owner,.int .i64 m.status]
theorem Zzb (b:Nat)(p:Zd)(m:Zc)(hb:h b=noC)(hk:K (.tuple #[]) (⟨b,337,[.int .u64 m.bal,.int .u64 m.eff,.int .u64 (min m.score p.scoreCap),.int .i64 (min (max m.streak 0) p.streak)]++GT p,28⟩::L) h) :
  Zb prog 316 [.pointer (some ⟨b,0,none⟩)] (⟨b,337,[.int .u64 m.bal,.int .u64 m.eff,.int .u64 m.score,.int .i64 m.streak]++GT p,28⟩::L) h K:=by
 simp only[List.cons_append,List.nil_append]at hk ⊢;refine ZS func316 rfl (rs:=[]) rfl rfl ZY (by kernel_rfl) rfl rfl ?_;refine xx ?_;refine Yi (.tk 0 (.tk 1 (.tk 2 (.tk 3 (.tk 4 (.tk 6 (.tk 7 (.tk 8 (.tk 9 (.tkl 5 (.tkl 10 (.o1 11 (.tk 12 (.tk 13 (.tk 14 (.o2 15 (.fin) (.nil))))) (.nil))))))))))))) (by kernel_rfl) (by kernel_rfl) _ (Za.refl _ _) ?_;refine xx ?_;refine Yi (.tk 0 (.tk 1 (.tk 2 (.tk 3 (.tk 4 (.tk 7 (.tk 8 (.tk 9 (.tk 10 (.tkl 5 (.tkl 11 (.o1 6 (.o1 12 (.tk 13 (.tk 14 (.tk 15 (.o2 16 (.fin) (.nil))))) (.nil)) (.nil))))))))))))) (by kernel_rfl) (by kernel_rfl) _ (Za.refl _ _) ?_;simp -dsimp -implicitDefEqProofs (disch:=first|with_reducible assumption|omega) [go_sem,YF];exact ZP hk
theorem Zik (p:Zd)(ok:Zj p)(m:Zc)(hk:K (Zjn (if Yl p then Gh p m else m)) L h):Zb prog 213 [Vp p,Zjn m] L h K:=by
 refine ZS func213 rfl (rs:=[_]) rfl rfl ZY (by kernel_rfl) rfl rfl ?_;refine xx ?_;refine Z0 fun b1 nb1 zb1=>?_;(try simp only[ZT]at nb1);refine xx ?_;refine Z0 fun b2 nb2 zb2=>?_;(try simp only[ZT]at nb2);refine xx ?_;refine Z0 fun b3 nb3 zb3=>?_;(try simp only[ZT]at nb3);refine xx ?_;refine W9 p ok ?_
 cases hr:Yl p with
 | false =>
  rw[hr]at hk;refine xx ?_;exact ZO (ZO (ZO (ZP hk)))
 | true =>
  rw[hr]at hk;refine xx ?_;refine Z0 fun b4 nb4 zb4=>?_;(try simp only[ZT]at nb4);refine xx ?_;refine Zzb b4 p m zb4 ?_;refine xx ?_;exact ZO (ZO (ZO (ZO (ZP hk))))
def VP (p:Zd)(m:Zc):Bool :=
 if m.status=2∨m.status=3 then decide (p.floor<m.bal)&&decide (m.bal≤p.cap)&&Vh p m.eff m.bal
 else if m.status=1 then decide (1≤m.bal)&&decide (m.bal≤p.cap)&&decide (m.eff=0)
 else if m.status=4∨m.status=5 then decide (m.bal=0)&&decide (m.eff=0) else false
theorem Zyg (p:Zd)(ok:Zj p)(hr:Yl p=true)(m:Zc)(mo:Zh m)(hk:K (.bool (VP p m)) L h):Zb prog 286 [Ztw m,Vp p] L h K:=by
 have ub:0≤m.bal∧m.bal≤18446744073709551615:=mo.u _ (by simp);have ue:0≤m.eff∧m.eff≤18446744073709551615:=mo.u _ (by simp);unfold VP at hk;refine ZS func286 rfl (rs:=[_]) rfl rfl ZY (by kernel_rfl) rfl rfl ?_;refine xx ?_;refine Z0 fun b1 nb1 zb1=>?_;(try simp only[ZT]at nb1);refine xx ?_;refine Z0 fun b2 nb2 zb2=>?_;(try simp only[ZT]at nb2);refine xx ?_;by_cases c0:m.status=2∨m.status=3
 ·rw[if_pos c0]at hk;have key:∀(X:Prop),(m.status=2→X)→(¬m.status=2→m.status=3→X)→X:=fun X a b=>by
   by_cases e:m.status=2
   ·exact a e
   ·exact b e (by omega)
  refine key _ (fun e=>?_) (fun e e'=>?_) <;>
  ·refine xx ?_;by_cases c1:p.floor<m.bal
   ·by_cases c2:m.bal≤p.cap
    ·refine xx ?_;refine Zjr p ok _ _ ue ub ?_;refine xx ?_;exact ZO (ZO (ZP (by simpa [hr,c1,c2] using hk)))
    ·refine xx ?_;exact ZO (ZO (ZP (by simpa [c1,c2] using hk)))
   ·refine xx ?_;exact ZO (ZO (ZP (by simpa [c1] using hk)))
 ·rw[if_neg c0]at hk;have e2:¬m.status=2:=fun e=>c0 (.inl e);have e3:¬m.status=3:=fun e=>c0 (.inr e);by_cases e1:m.status=1
  ·rw[if_pos e1]at hk;refine xx ?_;by_cases c1:1≤m.bal
   ·by_cases c2:m.bal≤p.cap
    ·refine xx ?_;exact ZO (ZO (ZP (by simpa [c1,c2] using hk)))
    ·refine xx ?_;exact ZO (ZO (ZP (by simpa [c1,c2] using hk)))
   ·refine xx ?_;exact ZO (ZO (ZP (by simpa [c1] using hk)))
  ·rw[if_neg e1]at hk;by_cases e4:m.status=4
   ·rw[if_pos (Or.inl e4)]at hk;refine xx ?_;by_cases c1:m.bal=0
    ·refine xx ?_;exact ZO (ZO (ZP (by simpa [c1] using hk)))
    ·refine xx ?_;exact ZO (ZO (ZP (by simpa [c1] using hk)))
   ·by_cases e5:m.status=5
    ·rw[if_pos (Or.inr e5)]at hk;refine xx ?_;by_cases c1:m.bal=0
     ·refine xx ?_;exact ZO (ZO (ZP (by simpa [c1] using hk)))
     ·refine xx ?_;exact ZO (ZO (ZP (by simpa [c1] using hk)))
    ·rw[if_neg (by omega)]at hk;refine xx ?_;exact ZO (ZO (ZP hk))
def Zdz (m:Zc):List Int:=[m.bal,m.eff,m.score,m.streak]
theorem eqStd (m q:Zc)(x y:Operand)(K:Value→Prop)(t:Zo K):VW prog .eql 98 x y (Zjn m) (Zjn q) K t=K (.bool (decide (Zdz m=Zdz q))) :=
 Uz (T:=98) (ks:=[.u64,.u64,.u64,.i64]) (by kernel_rfl) (by kernel_rfl) (by kernel_rfl) (by kernel_rfl) (Zdz m) (Zdz q) rfl rfl x y K t
def YY (p:Zd)(m:Zc):Bool:=decide (0≤m.owner)&&decide (m.owner<64)&&decide (Zdz (Gh p m)=Zdz m)&&VP p m
theorem Zym (p:Zd)(ok:Zj p)(m:Zc)(mo:Zh m)(hk:K (.bool (Yl p&&YY p m)) L h):Zb prog 171 [Vp p,Ztw m] L h K:=by
 refine ZS func171 rfl (rs:=[_]) rfl rfl ZY (by kernel_rfl) rfl rfl ?_;refine xx ?_;refine Z0 fun b1 nb1 zb1=>?_;(try simp only[ZT]at nb1);refine xx ?_;refine Z0 fun b2 nb2 zb2=>?_;(try simp only[ZT]at nb2);refine xx ?_;refine W9 p ok ?_
 cases hr:Yl p with
 | false =>
  rw[hr]at hk;refine xx ?_;exact ZO (ZO (ZP (by simpa using hk)))
 | true =>
  rw[hr]at hk;by_cases c1:m.owner<0
  ·refine xx ?_;exact ZO (ZO (ZP (by simpa [YY,show ¬ 0≤m.owner by omega] using hk)))
  ·by_cases c2:64≤m.owner
   ·refine xx ?_;exact ZO (ZO (ZP (by simpa [YY,show ¬m.owner<64 by omega] using hk)))
   ·refine xx ?_;refine Yi (.tk 1 (.tk 4 (.tkl 0 (.tkl 2 (.tkl 5 (.o1 3 (.tk 6 (.tk 7 (.tkl 8 (.tk 9 (.tkl 10 (.o1 11 (.tk 12 (.tk 13 (.fin))) (.nil))))))) (.nil))))))) (by kernel_rfl) (by kernel_rfl) _ (Za.refl _ _) ?_;refine xx ?_;refine Zik p ok m ?_;rw[if_pos hr];refine xkp (Za.refl _ _) ?_;simp -dsimp -implicitDefEqProofs (disch:=first|with_reducible assumption|omega) [go_sem,eqStd];have hf:YY p m=(decide (Zdz (Gh p m)=Zdz m)&&VP p m):=by simp [YY,show 0≤m.owner by omega,show m.owner<64 by omega]
    rw[hf]at hk
    cases hq:decide (Zdz (Gh p m)=Zdz m) with
    | false =>
     rw[hq]at hk;refine xx ?_;exact ZO (ZO (ZP (by simpa using hk)))
    | true =>
     rw[hq]at hk;refine xx ?_;refine Zyg p ok hr m mo ?_;refine xkp (Za.refl _ _) ?_;refine xx ?_;exact ZO (ZO (ZP (by simpa using hk)))
end Go.X

/- Lemmas and contracts. Conditions: as each says. -/
import Derived.Test.YtllhopbilpdpkaaGreatQ12
import Derived.Test.YtllhopbilpdpkaaGreatQ13
set_option linter.unusedVariables false
set_option linter.unusedSimpArgs false
set_option maxHeartbeats 12800000
set_option maxRecDepth 20000
namespace Go.X
open Go.RowKit Go.Proofs Go.Bl Go.Proofs.Tryz
variable {L:Own} {h:PH} {K:PK}
def Wm (p:Zd)(b:Int):Int:=min (b-b%p.inc) p.maxEff
def Ybl (p:Zd)(e b:Int):Bool:=decide (b+p.down<e)||decide (e+p.up<b)
def Gq (p:Zd)(e b:Int):Int:=if Ybl p e b then Wm p b else e
def W8 (p:Zd)(e b:Int):Bool:=decide (p.inc≤e)&&decide (e≤p.maxEff)&&decide (e%p.inc=0)&&decide (Gq p e b=e)
theorem Ja {p:Zd}(hr:Yd p=true):1≤p.inc:=by
 simp only[Yd,Bool.and_eq_true]at hr;exact(Yk hr.1.1.1).1
theorem Zb.keep {P:Program}{f:FuncId}{args:List Value}{v:Value}(hs:Zb P f args L h fun v' L' h'=>v'=v∧L'=L∧PH.le h h')(hk:K v L h):Zb P f args L h K :=
 hs.forget.mono fun _ _ _ ⟨a,b,c⟩=>by subst a;subst b;subst c;exact hk
theorem WY (p:Zd)(ok:Zj p)(hk:K (.int .i64 (if Yd p then 0 else 70)) L h):Zb prog 58 [WR p] L h K :=
 Zb.keep (GD p ok fun _ le=>⟨rfl,rfl,le⟩) hk
theorem Jo (p:Zd)(ok:Zj p)(hk:K (.tuple #[WR p,.bool (Yd p)]) L h):Zb prog 321 [WR p] L h K:=by
 refine ZS func321 rfl (rs:=[_,_]) rfl rfl ZX (by kernel_rfl) rfl rfl ?_;refine xx ?_;refine Z0 fun b1 nb1 zb1=>?_;(try simp only[ZT]at nb1);refine xx ?_;refine Z0 fun b2 nb2 zb2=>?_;(try simp only[ZT]at nb2);refine xx ?_;refine Yj (.tkl 0 (.tk 1 (.o1 2 (.o1 3 (.tk 4 (.o2 5 (.tk 6 (.fin)) (.nil))) (.nil)) (.nil)))) (by kernel_rfl) (by kernel_rfl) _ (Za.refl _ _) ?_;refine xx ?_;refine WY p ok ?_;refine xkp (Za.refl _ _) ?_
 cases hr:Yd p with
 | true =>
  rw[hr]at hk;refine xx ?_;exact ZO (ZO (ZP hk))
 | false =>
  rw[hr]at hk;refine xx ?_;exact ZO (ZO (ZP hk))
theorem Zhq (p:Zd)(b:Int)(h1:1≤p.inc)(hb:0≤b∧b≤18446744073709551615)(hk:K (.int .u64 (Wm p b)) L h):Zb prog 324 [WR p,.int .u64 b] L h K:=by
 unfold Wm at hk;have e1:=Int.emod_nonneg b (show p.inc≠0 by omega);have e2:b%p.inc≤b:=by
  rw[Int.emod_def];have:=Int.mul_nonneg (show 0≤p.inc by omega) (Int.ediv_nonneg hb.1 (show 0≤p.inc by omega));omega
 refine ZS func324 rfl (rs:=[_]) rfl rfl ZX (by kernel_rfl) rfl rfl ?_;refine xx ?_;refine Z0 fun b1 nb1 zb1=>?_;(try simp only[ZT]at nb1);refine xx ?_;refine Yj (.tk 0 (.tk 1 (.tk 2 (.tk 3 (.tk 7 (.tk 8 (.tkl 4 (.tk 5 (.tk 6 (.tkl 9 (.o1 10 (.tk 11 (.fin)) (.nil)))))))))))) (by kernel_rfl) (by kernel_rfl) _ (Za.refl _ _) ?_;refine xx ?_;exact ZO (ZP hk)
theorem Yku (p:Zd)(ok:Zj p)(e b:Int)(he:0≤e∧e≤18446744073709551615)(hb:0≤b∧b≤18446744073709551615)(hk:K (.bool (Ybl p e b)) L h):Zb prog 368 [WR p,.int .u64 e,.int .u64 b] L h K:=by
 have u1:=ok.w p.down (by simp [Ys]);have u2:=ok.w p.up (by simp [Ys]);refine ZS func368 rfl (rs:=[_]) rfl rfl ZX (by kernel_rfl) rfl rfl ?_;refine xx ?_;refine Z0 fun b1 nb1 zb1=>?_;(try simp only[ZT]at nb1);refine xx ?_;refine WA _ _ hb u1 ?_;by_cases c1:b+p.down≤18446744073709551615
 ·rw[YF c1];refine xx ?_;refine WA _ _ he u2 ?_;by_cases c2:e+p.up≤18446744073709551615
  ·rw[YF c2];by_cases c3:b+p.down<e
   ·refine xx ?_;exact ZO (ZP (by simpa [Ybl,c3] using hk))
   ·refine xx ?_;exact ZO (ZP (by simpa [Ybl,c3] using hk))
  ·rw[Wh c2];have c4:¬e+p.up<b:=by omega
   by_cases c3:b+p.down<e
   ·refine xx ?_;exact ZO (ZP (by simpa [Ybl,c3,c4] using hk))
   ·refine xx ?_;exact ZO (ZP (by simpa [Ybl,c3,c4] using hk))
 ·rw[Wh c1];have c3:¬b+p.down<e:=by omega
  refine xx ?_;refine WA _ _ he u2 ?_;by_cases c2:e+p.up≤18446744073709551615
  ·rw[YF c2];refine xx ?_;exact ZO (ZP (by simpa [Ybl,c3] using hk))
  ·rw[Wh c2];have c4:¬e+p.up<b:=by omega
   refine xx ?_;exact ZO (ZP (by simpa [Ybl,c3,c4] using hk))
theorem Zog (p:Zd)(ok:Zj p)(h1:1≤p.inc)(e b:Int)(he:0≤e∧e≤18446744073709551615)(hb:0≤b∧b≤18446744073709551615)(hk:K (.int .u64 (Gq p e b)) L h):Zb prog 323 [WR p,.int .u64 e,.int .u64 b] L h K:=by
 refine ZS func323 rfl (rs:=[_]) rfl rfl ZX (by kernel_rfl) rfl rfl ?_;refine xx ?_;refine Z0 fun b1 nb1 zb1=>?_;(try simp only[ZT]at nb1);refine xx ?_;refine Yku p ok e b he hb ?_;unfold Gq at hk
 cases c:Ybl p e b with
 | true =>
  rw[c]at hk;refine xx ?_;refine Zhq p b h1 hb ?_;refine xx ?_;exact ZO (ZP (by simpa using hk))
 | false =>
  rw[c]at hk;refine xx ?_;exact ZO (ZP (by simpa using hk))
theorem Zkf (p:Zd)(ok:Zj p)(e b:Int)(he:0≤e∧e≤18446744073709551615)(hb:0≤b∧b≤18446744073709551615)(hk:K (.bool (Yd p&&W8 p e b)) L h):Zb prog 227 [WR p,.int .u64 e,.int .u64 b] L h K:=by
 refine ZS func227 rfl (rs:=[_]) rfl rfl ZX (by kernel_rfl) rfl rfl ?_;refine xx ?_;refine Z0 fun b1 nb1 zb1=>?_;(try simp only[ZT]at nb1);refine xx ?_;refine Jo p ok ?_
 cases hr:Yd p with
 | false =>
  rw[hr]at hk;refine xx ?_;refine Z0 fun b2 nb2 zb2=>?_;(try simp only[ZT]at nb2);refine xx ?_;exact ZO (ZO (ZP (by simpa using hk)))
 | true =>
  have h1:=Ja hr;rw[hr]at hk;refine xx ?_;refine Z0 fun b2 nb2 zb2=>?_;(try simp only[ZT]at nb2);refine xx ?_;by_cases c1:p.inc≤e
  ·by_cases c2:e≤p.maxEff
   ·by_cases c3:e%p.inc=0
    ·refine xx ?_;refine Zog p ok h1 e b he hb ?_;refine xx ?_;exact ZO (ZO (ZP (by simpa [W8,c1,c2,c3] using hk)))
    ·refine xx ?_;exact ZO (ZO (ZP (by simpa [W8,c1,c2,c3] using hk)))
   ·refine xx ?_;exact ZO (ZO (ZP (by simpa [W8,c1,c2] using hk)))
  ·refine xx ?_;exact ZO (ZO (ZP (by simpa [W8,c1] using hk)))
def Gf (p:Zd)(m:Zc):Zc:={ m with score:=min m.score p.scoreCap,streak:=min (max m.streak 0) p.streak }
abbrev Zdf (m:Zc):Value := .agg #[.int .u64 m.bal,.int .u64 m.eff,.int .u64 m.score,.int .i64 m.streak]
abbrev Ztw (m:Zc):Value := .agg #[.int .u64 m.bal,.int .u64 m.eff,.int .u64 m.score,.int .i64 m.streak,.int .i64 m.owner,.int .i64 m.status]
theorem Zva (b:Nat)(p:Zd)(m:Zc)(hb:h b=noC)(hk:K (.tuple #[]) (⟨b,362,[.int .u64 m.bal,.int .u64 m.eff,.int .u64 (min m.score p.scoreCap),.int .i64 (min (max m.streak 0) p.streak)]++GL p,28⟩::L) h) :
  Zb prog 322 [.pointer (some ⟨b,0,none⟩)] (⟨b,362,[.int .u64 m.bal,.int .u64 m.eff,.int .u64 m.score,.int .i64 m.streak]++GL p,28⟩::L) h K:=by
 simp only[List.cons_append,List.nil_append]at hk ⊢;refine ZS func322 rfl (rs:=[]) rfl rfl ZX (by kernel_rfl) rfl rfl ?_;refine xx ?_;refine Yj (.tk 0 (.tk 1 (.tk 2 (.tk 3 (.tk 4 (.tk 6 (.tk 7 (.tk 8 (.tk 9 (.tkl 5 (.tkl 10 (.o1 11 (.tk 12 (.tk 13 (.tk 14 (.o2 15 (.fin) (.nil))))) (.nil))))))))))))) (by kernel_rfl) (by kernel_rfl) _ (Za.refl _ _) ?_;refine xx ?_;refine Yj (.tk 0 (.tk 1 (.tk 2 (.tk 3 (.tk 4 (.tk 7 (.tk 8 (.tk 9 (.tk 10 (.tkl 5 (.tkl 11 (.o1 6 (.o1 12 (.tk 13 (.tk 14 (.tk 15 (.o2 16 (.fin) (.nil))))) (.nil)) (.nil))))))))))))) (by kernel_rfl) (by kernel_rfl) _ (Za.refl _ _) ?_;simp -dsimp -implicitDefEqProofs (disch:=first|with_reducible assumption|omega) [go_sem,YE];exact ZP hk
theorem Ziq (p:Zd)(ok:Zj p)(m:Zc)(hk:K (Zdf (if Yd p then Gf p m else m)) L h):Zb prog 224 [WR p,Zdf m] L h K:=by
 refine ZS func224 rfl (rs:=[_]) rfl rfl ZX (by kernel_rfl) rfl rfl ?_;refine xx ?_;refine Z0 fun b1 nb1 zb1=>?_;(try simp only[ZT]at nb1);refine xx ?_;refine Z0 fun b2 nb2 zb2=>?_;(try simp only[ZT]at nb2);refine xx ?_;refine Z0 fun b3 nb3 zb3=>?_;(try simp only[ZT]at nb3);refine xx ?_;refine WY p ok ?_
 cases hr:Yd p with
 | false =>
  rw[hr]at hk;refine xx ?_;exact ZO (ZO (ZO (ZP hk)))
 | true =>
  rw[hr]at hk;refine xx ?_;refine Z0 fun b4 nb4 zb4=>?_;(try simp only[ZT]at nb4);refine xx ?_;refine Zva b4 p m zb4 ?_;refine xx ?_;exact ZO (ZO (ZO (ZO (ZP hk))))
def VG (p:Zd)(m:Zc):Bool :=
 if m.status=2∨m.status=3 then decide (p.floor<m.bal)&&decide (m.bal≤p.cap)&&W8 p m.eff m.bal
 else if m.status=1 then decide (1≤m.bal)&&decide (m.bal≤p.cap)&&decide (m.eff=0)
 else if m.status=4∨m.status=5 then decide (m.bal=0)&&decide (m.eff=0) else false
theorem Zvq (p:Zd)(ok:Zj p)(hr:Yd p=true)(m:Zc)(mo:Zg m)(hk:K (.bool (VG p m)) L h):Zb prog 281 [Ztw m,WR p] L h K:=by
 have ub:0≤m.bal∧m.bal≤18446744073709551615:=mo.u _ (by simp);have ue:0≤m.eff∧m.eff≤18446744073709551615:=mo.u _ (by simp);unfold VG at hk;refine ZS func281 rfl (rs:=[_]) rfl rfl ZX (by kernel_rfl) rfl rfl ?_;refine xx ?_;refine Z0 fun b1 nb1 zb1=>?_;(try simp only[ZT]at nb1);refine xx ?_;refine Z0 fun b2 nb2 zb2=>?_;(try simp only[ZT]at nb2);refine xx ?_;by_cases c0:m.status=2∨m.status=3
 ·rw[if_pos c0]at hk;have key:∀(X:Prop),(m.status=2→X)→(¬m.status=2→m.status=3→X)→X:=fun X a b=>by
   by_cases e:m.status=2
   ·exact a e
   ·exact b e (by omega)
  refine key _ (fun e=>?_) (fun e e'=>?_) <;>
  ·refine xx ?_;by_cases c1:p.floor<m.bal
   ·by_cases c2:m.bal≤p.cap
    ·refine xx ?_;refine Zkf p ok _ _ ue ub ?_;refine xx ?_;exact ZO (ZO (ZP (by simpa [hr,c1,c2] using hk)))
    ·refine xx ?_;exact ZO (ZO (ZP (by simpa [c1,c2] using hk)))
   ·refine xx ?_;exact ZO (ZO (ZP (by simpa [c1] using hk)))
 ·rw[if_neg c0]at hk;have e2:¬m.status=2:=fun e=>c0 (.inl e);have e3:¬m.status=3:=fun e=>c0 (.inr e);by_cases e1:m.status=1
  ·rw[if_pos e1]at hk;refine xx ?_;by_cases c1:1≤m.bal
   ·by_cases c2:m.bal≤p.cap
    ·refine xx ?_;exact ZO (ZO (ZP (by simpa [c1,c2] using hk)))
    ·refine xx ?_;exact ZO (ZO (ZP (by simpa [c1,c2] using hk)))
   ·refine xx ?_;exact ZO (ZO (ZP (by simpa [c1] using hk)))
  ·rw[if_neg e1]at hk;by_cases e4:m.status=4
   ·rw[if_pos (Or.inl e4)]at hk;refine xx ?_;by_cases c1:m.bal=0
    ·refine xx ?_;exact ZO (ZO (ZP (by simpa [c1] using hk)))
    ·refine xx ?_;exact ZO (ZO (ZP (by simpa [c1] using hk)))
   ·by_cases e5:m.status=5
    ·rw[if_pos (Or.inr e5)]at hk;refine xx ?_;by_cases c1:m.bal=0
     ·refine xx ?_;exact ZO (ZO (ZP (by simpa [c1] using hk)))
     ·refine xx ?_;exact ZO (ZO (ZP (by simpa [c1] using hk)))
    ·rw[if_neg (by omega)]at hk;refine xx ?_;exact ZO (ZO (ZP hk))
def Zfb (m:Zc):List Int:=[m.bal,m.eff,m.score,m.streak]
theorem eqStd (m q:Zc)(x y:Operand)(K:Value→Prop)(t:Zm K):VN prog .eql 72 x y (Zdf m) (Zdf q) K t=K (.bool (decide (Zfb m=Zfb q))) :=
 UF (T:=72) (ks:=[.u64,.u64,.u64,.i64]) (by kernel_rfl) (by kernel_rfl) (by kernel_rfl) (by kernel_rfl) (Zfb m) (Zfb q) rfl rfl x y K t
def YV (p:Zd)(m:Zc):Bool:=decide (0≤m.owner)&&decide (m.owner<64)&&decide (Zfb (Gf p m)=Zfb m)&&VG p m
theorem Zxe (p:Zd)(ok:Zj p)(m:Zc)(mo:Zg m)(hk:K (.bool (Yd p&&YV p m)) L h):Zb prog 169 [WR p,Ztw m] L h K:=by
 refine ZS func169 rfl (rs:=[_]) rfl rfl ZX (by kernel_rfl) rfl rfl ?_;refine xx ?_;refine Z0 fun b1 nb1 zb1=>?_;(try simp only[ZT]at nb1);refine xx ?_;refine Z0 fun b2 nb2 zb2=>?_;(try simp only[ZT]at nb2);refine xx ?_;refine WY p ok ?_
 cases hr:Yd p with
 | false =>
  rw[hr]at hk;refine xx ?_;exact ZO (ZO (ZP (by simpa using hk)))
 | true =>
  rw[hr]at hk;by_cases c1:m.owner<0
  ·refine xx ?_;exact ZO (ZO (ZP (by simpa [YV,show ¬ 0≤m.owner by omega] using hk)))
  ·by_cases c2:64≤m.owner
   ·refine xx ?_;exact ZO (ZO (ZP (by simpa [YV,show ¬m.owner<64 by omega] using hk)))
   ·refine xx ?_;refine Yj (.tk 1 (.tk 4 (.tkl 0 (.tkl 2 (.tkl 5 (.o1 3 (.tk 6 (.tk 7 (.tkl 8 (.tk 9 (.tkl 10 (.o1 11 (.tk 12 (.tk 13 (.fin))) (.nil))))))) (.nil))))))) (by kernel_rfl) (by kernel_rfl) _ (Za.refl _ _) ?_;refine xx ?_;refine Ziq p ok m ?_;rw[if_pos hr];refine xkp (Za.refl _ _) ?_;simp -dsimp -implicitDefEqProofs (disch:=first|with_reducible assumption|omega) [go_sem,eqStd];have hf:YV p m=(decide (Zfb (Gf p m)=Zfb m)&&VG p m):=by simp [YV,show 0≤m.owner by omega,show m.owner<64 by omega]
    rw[hf]at hk
    cases hq:decide (Zfb (Gf p m)=Zfb m) with
    | false =>
     rw[hq]at hk;refine xx ?_;exact ZO (ZO (ZP (by simpa using hk)))
    | true =>
     rw[hq]at hk;refine xx ?_;refine Zvq p ok hr m mo ?_;refine xkp (Za.refl _ _) ?_;refine xx ?_;exact ZO (ZO (ZP (by simpa using hk)))
end Go.X

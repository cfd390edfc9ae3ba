/- Lemmas and contracts. Conditions: as each says. -/
import Derived.Test.YtllhopbilpdpkaaGreatQ12
import Derived.Test.YtllhopbilpdpkaaGreatQ13
set_option linter.unusedVariables false
set_option linter.unusedSimpArgs false
set_option maxHeartbeats 12800000
set_option maxRecDepth 20000
namespace Go.X
open Go.RowKit Go.Proofs Go.Bl Go.Proofs.Tryz
variable {L:Own} {h:PH} {K:PK}
def Wi (p:Ze)(b:Int):Int:=min (b-b%p.inc) p.aF
def Ycs (p:Ze)(e b:Int):Bool:=decide (b+p.down<e)||decide (e+p.up<b)
def UL (p:Ze)(e b:Int):Int:=if Ycs p e b then Wi p b else e
def VJ (p:Ze)(e b:Int):Bool:=decide (p.inc<=e)&&decide (e<=p.aF)&&decide (e%p.inc=0)&&decide (UL p e b=e)
theorem Ul {p:Ze}(hr:Yo p=true):1<=p.inc:=by
 simp only[Yo,Bool.and_eq_true]at hr;exact(YK hr.1.1.1).1
theorem Zb.keep {P:Program}{f:FuncId}{args:List Value}{v:Value}(hs:Zb P f args L h fun v' L' h'=>v'=v/\L'=L/\PH.le h h')(hk:K v L h):Zb P f args L h K :=
 hs.forget.mono fun _ _ _ ⟨a,b,c⟩=>by subst a;subst b;subst c;exact hk
theorem Vg (p:Ze)(ok:Zj p)(hk:K (.int .i64 (if Yo p then 0 else 70)) L h):Zb prog 58 [WS p] L h K :=
 Zb.keep (Zsn p ok fun _ le=>⟨rfl,rfl,le⟩) hk
theorem JG (p:Ze)(ok:Zj p)(hk:K (.tuple #[WS p,.bool (Yo p)]) L h):Zb prog 321 [WS p] L h K:=by
 refine eF func321 ?_;refine xx ?_;refine ZY fun b1 nb1 zb1=>?_;(try simp only[ZS]at nb1);refine xx ?_;refine ZY fun b2 nb2 zb2=>?_;(try simp only[ZS]at nb2);refine xx ?_;refine Z4 (.tkl 0 (.tk 1 (.o1 2 (.o1 3 (.tk 4 (.o2 5 (.tk 6 (.fin)) (.nil))) (.nil)) (.nil)))) qg qg _ (Za.refl _ _) ?_;refine xx ?_;refine Vg p ok ?_;refine xkp (Za.refl _ _) ?_
 cases hr:Yo p with
 | true =>
  rw[hr]at hk;refine xx ?_;exact ZO (ZO (ZP hk))
 | false =>
  rw[hr]at hk;refine xx ?_;exact ZO (ZO (ZP hk))
theorem Ziq (p:Ze)(b:Int)(h1:1<=p.inc)(hb:0<=b/\b<=18446744073709551615)(hk:K (.int .u64 (Wi p b)) L h):Zb prog 324 [WS p,.int .u64 b] L h K:=by
 unfold Wi at hk;have e1:=Int.emod_nonneg b (show p.inc≠0 from qf);have e2:b%p.inc<=b:=by
  rw[Int.emod_def];have:=Int.mul_nonneg (show 0<=p.inc from qf) (Int.ediv_nonneg hb.1 (show 0<=p.inc from qf));omega
 refine ed func324 ?_;refine xx ?_;refine ZY fun b1 nb1 zb1=>?_;(try simp only[ZS]at nb1);refine xx ?_;refine Z4 (.tk 0 (.tk 1 (.tk 2 (.tk 3 (.tk 7 (.tk 8 (.tkl 4 (.tk 5 (.tk 6 (.tkl 9 (.o1 10 (.tk 11 (.fin)) (.nil)))))))))))) qg qg _ (Za.refl _ _) ?_;refine xx ?_;exact ZO (ZP hk)
theorem Yky (p:Ze)(ok:Zj p)(e b:Int)(he:0<=e/\e<=18446744073709551615)(hb:0<=b/\b<=18446744073709551615)(hk:K (.bool (Ycs p e b)) L h):Zb prog 368 [WS p,.int .u64 e,.int .u64 b] L h K:=by
 have u1:=ok.w p.down qB;have u2:=ok.w p.up qB;refine ed func368 ?_;refine xx ?_;refine ZY fun b1 nb1 zb1=>?_;(try simp only[ZS]at nb1);refine xx ?_;refine WV _ _ hb u1 ?_;by_cases c1:b+p.down<=18446744073709551615
 ·rw[YR c1];refine xx ?_;refine WV _ _ he u2 ?_;by_cases c2:e+p.up<=18446744073709551615
  ·rw[YR c2];by_cases c3:b+p.down<e
   ·refine xx ?_;exact ZO (ZP (by simpa [Ycs,c3] using hk))
   ·refine xx ?_;exact ZO (ZP (by simpa [Ycs,c3] using hk))
  ·rw[Wy c2];have c4:¬e+p.up<b:=qf;by_cases c3:b+p.down<e
   ·refine xx ?_;exact ZO (ZP (by simpa [Ycs,c3,c4] using hk))
   ·refine xx ?_;exact ZO (ZP (by simpa [Ycs,c3,c4] using hk))
 ·rw[Wy c1];have c3:¬b+p.down<e:=qf;refine xx ?_;refine WV _ _ he u2 ?_;by_cases c2:e+p.up<=18446744073709551615
  ·rw[YR c2];refine xx ?_;exact ZO (ZP (by simpa [Ycs,c3] using hk))
  ·rw[Wy c2];have c4:¬e+p.up<b:=qf;refine xx ?_;exact ZO (ZP (by simpa [Ycs,c3,c4] using hk))
theorem Zpx (p:Ze)(ok:Zj p)(h1:1<=p.inc)(e b:Int)(he:0<=e/\e<=18446744073709551615)(hb:0<=b/\b<=18446744073709551615)(hk:K (.int .u64 (UL p e b)) L h):Zb prog 323 [WS p,.int .u64 e,.int .u64 b] L h K:=by
 refine ed func323 ?_;refine xx ?_;refine ZY fun b1 nb1 zb1=>?_;(try simp only[ZS]at nb1);refine xx ?_;refine Yky p ok e b he hb ?_;unfold UL at hk
 cases c:Ycs p e b with
 | true =>
  rw[c]at hk;refine xx ?_;refine Ziq p b h1 hb ?_;refine xx ?_;exact ZO (ZP qA)
 | false =>
  rw[c]at hk;refine xx ?_;exact ZO (ZP qA)
theorem Ziu (p:Ze)(ok:Zj p)(e b:Int)(he:0<=e/\e<=18446744073709551615)(hb:0<=b/\b<=18446744073709551615)(hk:K (.bool (Yo p&&VJ p e b)) L h):Zb prog 227 [WS p,.int .u64 e,.int .u64 b] L h K:=by
 refine ed func227 ?_;refine xx ?_;refine ZY fun b1 nb1 zb1=>?_;(try simp only[ZS]at nb1);refine xx ?_;refine JG p ok ?_
 cases hr:Yo p with
 | false =>
  rw[hr]at hk;refine xx ?_;refine ZY fun b2 nb2 zb2=>?_;(try simp only[ZS]at nb2);refine xx ?_;exact ZO (ZO (ZP qA))
 | true =>
  have h1:=Ul hr;rw[hr]at hk;refine xx ?_;refine ZY fun b2 nb2 zb2=>?_;(try simp only[ZS]at nb2);refine xx ?_;by_cases c1:p.inc<=e
  ·by_cases c2:e<=p.aF
   ·by_cases c3:e%p.inc=0
    ·refine xx ?_;refine Zpx p ok h1 e b he hb ?_;refine xx ?_;exact ZO (ZO (ZP zA))
    ·refine xx ?_;exact ZO (ZO (ZP zA))
   ·refine xx ?_;exact ZO (ZO (ZP (by simpa [VJ,c1,c2] using hk)))
  ·refine xx ?_;exact ZO (ZO (ZP (by simpa [VJ,c1] using hk)))
def JV (p:Ze)(m:Zc):Zc:={ m with score:=min m.score p.aA,ak:=min (max m.ak 0) p.ak }
abbrev Zdk (m:Zc):Value := .agg #[.int .u64 m.bal,.int .u64 m.eff,.int .u64 m.score,.int .i64 m.ak]
abbrev Zeu (m:Zc):Value := .agg #[.int .u64 m.bal,.int .u64 m.eff,.int .u64 m.score,.int .i64 m.ak,.int .i64 m.owner,.int .i64 m.status]
theorem Zwe (b:Nat)(p:Ze)(m:Zc)(hb:h b=noC)(hk:K (.tuple #[]) (⟨b,362,[.int .u64 m.bal,.int .u64 m.eff,.int .u64 (min m.score p.aA),.int .i64 (min (max m.ak 0) p.ak)]++Jj p,28⟩::L) h) :
  Zb prog 322 [.pointer (some ⟨b,0,none⟩)] (⟨b,362,[.int .u64 m.bal,.int .u64 m.eff,.int .u64 m.score,.int .i64 m.ak]++Jj p,28⟩::L) h K:=by
 simp only[List.cons_append,List.nil_append]at hk ⊢;refine UW func322 rfl (rs:=[]) rfl rfl G7 qg rfl rfl ?_;refine xx ?_;refine Z4 (.tk 0 (.tk 1 (.tk 2 (.tk 3 (.tk 4 (.tk 6 (.tk 7 (.tk 8 (.tk 9 (.tkl 5 (.tkl 10 (.o1 11 (.tk 12 (.tk 13 (.tk 14 (.o2 15 (.fin) (.nil))))) (.nil))))))))))))) qg qg _ (Za.refl _ _) ?_;refine xx ?_;refine Z4 (.tk 0 (.tk 1 (.tk 2 (.tk 3 (.tk 4 (.tk 7 (.tk 8 (.tk 9 (.tk 10 (.tkl 5 (.tkl 11 (.o1 6 (.o1 12 (.tk 13 (.tk 14 (.tk 15 (.o2 16 (.fin) (.nil))))) (.nil)) (.nil))))))))))))) qg qg _ (Za.refl _ _) ?_;refine xE ?_;exact ZP hk
theorem Zkc (p:Ze)(ok:Zj p)(m:Zc)(hk:K (Zdk (if Yo p then JV p m else m)) L h):Zb prog 224 [WS p,Zdk m] L h K:=by
 refine ed func224 ?_;refine xx ?_;refine ZY fun b1 nb1 zb1=>?_;(try simp only[ZS]at nb1);refine xx ?_;refine ZY fun b2 nb2 zb2=>?_;(try simp only[ZS]at nb2);refine xx ?_;refine ZY fun b3 nb3 zb3=>?_;(try simp only[ZS]at nb3);refine xx ?_;refine Vg p ok ?_
 cases hr:Yo p with
 | false =>
  rw[hr]at hk;refine xx ?_;exact ZO (ZO (ZO (ZP hk)))
 | true =>
  rw[hr]at hk;refine xx ?_;refine ZY fun b4 nb4 zb4=>?_;(try simp only[ZS]at nb4);refine xx ?_;refine Zwe b4 p m zb4 ?_;refine xx ?_;exact ZO (ZO (ZO (ZO (ZP hk))))
def V1 (p:Ze)(m:Zc):Bool :=
 if m.status=2\/m.status=3 then decide (p.floor<m.bal)&&decide (m.bal<=p.cap)&&VJ p m.eff m.bal
 else if m.status=1 then decide (1<=m.bal)&&decide (m.bal<=p.cap)&&decide (m.eff=0)
 else if m.status=4\/m.status=5 then decide (m.bal=0)&&decide (m.eff=0) else false
theorem Zyj (p:Ze)(ok:Zj p)(hr:Yo p=true)(m:Zc)(mo:Zf m)(hk:K (.bool (V1 p m)) L h):Zb prog 281 [Zeu m,WS p] L h K:=by
 have ub:0<=m.bal/\m.bal<=18446744073709551615:=mo.u _ qj;have ue:0<=m.eff/\m.eff<=18446744073709551615:=mo.u _ qj;unfold V1 at hk;refine ed func281 ?_;refine xx ?_;refine ZY fun b1 nb1 zb1=>?_;(try simp only[ZS]at nb1);refine xx ?_;refine ZY fun b2 nb2 zb2=>?_;(try simp only[ZS]at nb2);refine xx ?_;by_cases c0:m.status=2\/m.status=3
 ·rw[if_pos c0]at hk;have key:∀(X:Prop),(m.status=2->X)->(¬m.status=2->m.status=3->X)->X:=fun X a b=>by
   by_cases e:m.status=2
   ·exact a e
   ·exact b e qf
  refine key _ (fun e=>?_) (fun e e'=>?_) <;>
  ·refine xx ?_;by_cases c1:p.floor<m.bal
   ·by_cases c2:m.bal<=p.cap
    ·refine xx ?_;refine Ziu p ok _ _ ue ub ?_;refine xx ?_;exact ZO (ZO (ZP (by simpa [hr,c1,c2] using hk)))
    ·refine xx ?_;exact ZO (ZO (ZP zK))
   ·refine xx ?_;exact ZO (ZO (ZP zl))
 ·rw[if_neg c0]at hk;have e2:¬m.status=2:=fun e=>c0 (.inl e);have e3:¬m.status=3:=fun e=>c0 (.inr e);by_cases e1:m.status=1
  ·rw[if_pos e1]at hk;refine xx ?_;by_cases c1:1<=m.bal
   ·by_cases c2:m.bal<=p.cap
    ·refine xx ?_;exact ZO (ZO (ZP zK))
    ·refine xx ?_;exact ZO (ZO (ZP zK))
   ·refine xx ?_;exact ZO (ZO (ZP zl))
  ·rw[if_neg e1]at hk;by_cases e4:m.status=4
   ·rw[if_pos (Or.inl e4)]at hk;refine xx ?_;by_cases c1:m.bal=0
    ·refine xx ?_;exact ZO (ZO (ZP zl))
    ·refine xx ?_;exact ZO (ZO (ZP zl))
   ·by_cases e5:m.status=5
    ·rw[if_pos (Or.inr e5)]at hk;refine xx ?_;by_cases c1:m.bal=0
     ·refine xx ?_;exact ZO (ZO (ZP zl))
     ·refine xx ?_;exact ZO (ZO (ZP zl))
    ·rw[if_neg qf]at hk;refine xx ?_;exact ZO (ZO (ZP hk))
def Zfi (m:Zc):List Int:=[m.bal,m.eff,m.score,m.ak]
theorem eqStd (m q:Zc)(x y:Operand)(K:Value->Prop)(t:Zm K):VO prog .eql 72 x y (Zdk m) (Zdk q) K t=K (.bool (decide (Zfi m=Zfi q))) :=
 Gc (T:=72) (ks:=[.u64,.u64,.u64,.i64]) qg qg qg qg (Zfi m) (Zfi q) rfl rfl x y K t
def Y2 (p:Ze)(m:Zc):Bool:=decide (0<=m.owner)&&decide (m.owner<64)&&decide (Zfi (JV p m)=Zfi m)&&V1 p m
theorem Zzh (p:Ze)(ok:Zj p)(m:Zc)(mo:Zf m)(hk:K (.bool (Yo p&&Y2 p m)) L h):Zb prog 169 [WS p,Zeu m] L h K:=by
 refine ed func169 ?_;refine xx ?_;refine ZY fun b1 nb1 zb1=>?_;(try simp only[ZS]at nb1);refine xx ?_;refine ZY fun b2 nb2 zb2=>?_;(try simp only[ZS]at nb2);refine xx ?_;refine Vg p ok ?_
 cases hr:Yo p with
 | false =>
  rw[hr]at hk;refine xx ?_;exact ZO (ZO (ZP qA))
 | true =>
  rw[hr]at hk;by_cases c1:m.owner<0
  ·refine xx ?_;exact ZO (ZO (ZP (by simpa [Y2,show ¬ 0<=m.owner from qf] using hk)))
  ·by_cases c2:64<=m.owner
   ·refine xx ?_;exact ZO (ZO (ZP (by simpa [Y2,show ¬m.owner<64 from qf] using hk)))
   ·refine xx ?_;refine Z4 (.tk 1 (.tk 4 (.tkl 0 (.tkl 2 (.tkl 5 (.o1 3 (.tk 6 (.tk 7 (.tkl 8 (.tk 9 (.tkl 10 (.o1 11 (.tk 12 (.tk 13 (.fin))) (.nil))))))) (.nil))))))) qg qg _ (Za.refl _ _) ?_;refine xx ?_;refine Zkc p ok m ?_;rw[if_pos hr];refine xkp (Za.refl _ _) ?_;simp -dsimp -implicitDefEqProofs (disch:=first|exact dD|fail) [go_sem,eqStd];have hf:Y2 p m=(decide (Zfi (JV p m)=Zfi m)&&V1 p m):=by simp [Y2,show 0<=m.owner from qf,show m.owner<64 from qf]
    rw[hf]at hk
    cases hq:decide (Zfi (JV p m)=Zfi m) with
    | false =>
     rw[hq]at hk;refine xx ?_;exact ZO (ZO (ZP qA))
    | true =>
     rw[hq]at hk;refine xx ?_;refine Zyj p ok hr m mo ?_;refine xkp (Za.refl _ _) ?_;refine xx ?_;exact ZO (ZO (ZP qA))
end Go.X

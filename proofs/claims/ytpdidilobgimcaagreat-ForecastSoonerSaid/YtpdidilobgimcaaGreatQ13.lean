/- Lemmas and contracts. Conditions: as each says. -/
import Derived.Test.YtpdidilobgimcaaGreatQ10
import Derived.Test.YtpdidilobgimcaaGreatQ12
set_option linter.unusedVariables false
set_option linter.unusedSimpArgs false
set_option maxHeartbeats 12800000
set_option maxRecDepth 20000
namespace Go.X
open Go.RowKit Go.Proofs Go.Bl Go.Proofs.Tryz
variable {L:Own} {h:PH} {K:PK}
def YX (p:Zd)(b:Int):Int:=min (b-b%p.inc) p.maxEff
def Zxm (p:Zd)(e b:Int):Bool:=decide (b+p.down<e)||decide (e+p.up<b)
def VB (p:Zd)(e b:Int):Int:=if Zxm p e b then YX p b else e
def VQ (p:Zd)(e b:Int):Bool:=decide (p.inc≤e)&&decide (e≤p.maxEff)&&decide (e%p.inc=0)&&decide (VB p e b=e)
theorem Jf {p:Zd}(hr:Yb p=true):1≤p.inc:=by
 simp only[Yb,Bool.and_eq_true]at hr;exact(Yl hr.1.1.1).1
theorem Zb.keep {P:Program}{f:FuncId}{args:List Value}{v:Value}(hs:Zb P f args L h fun v' L' h'=>v'=v∧L'=L∧PH.le h h')(hk:K v L h):Zb P f args L h K :=
 hs.forget.mono fun _ _ _ ⟨a,b,c⟩=>by subst a;subst b;subst c;exact hk
theorem WN (p:Zd)(ok:Zh p)(hk:K (.int .i64 (if Yb p then 0 else 70)) L h):Zb prog 59 [W5 p] L h K :=
 Zb.keep (J0 p ok fun _ le=>⟨rfl,rfl,le⟩) hk
theorem UP (p:Zd)(ok:Zh p)(hk:K (.tuple #[W5 p,.bool (Yb p)]) L h):Zb prog 274 [W5 p] L h K:=by
 refine ZR func274 rfl (rs:=[_,_]) rfl rfl ZW (by kernel_rfl) rfl rfl ?_;refine xx ?_;refine Z0 fun b1 nb1 zb1=>?_;(try simp only[ZU]at nb1);refine xx ?_;refine Z0 fun b2 nb2 zb2=>?_;(try simp only[ZU]at nb2);refine xx ?_;refine Ym (.tkl 0 (.tk 1 (.o1 2 (.o1 3 (.tk 4 (.o2 5 (.tk 6 (.fin)) (.nil))) (.nil)) (.nil)))) (by kernel_rfl) (by kernel_rfl) _ (Za.refl _ _) ?_;refine xx ?_;refine WN p ok ?_;refine xkp (Za.refl _ _) ?_
 cases hr:Yb p with
 | true =>
  rw[hr]at hk;refine xx ?_;exact ZO (ZO (ZP hk))
 | false =>
  rw[hr]at hk;refine xx ?_;exact ZO (ZO (ZP hk))
theorem Zgq (p:Zd)(b:Int)(h1:1≤p.inc)(hb:0≤b∧b≤18446744073709551615)(hk:K (.int .u64 (YX p b)) L h):Zb prog 317 [W5 p,.int .u64 b] L h K:=by
 unfold YX at hk;have e1:=Int.emod_nonneg b (show p.inc≠0 by omega);have e2:b%p.inc≤b:=by
  rw[Int.emod_def];have:=Int.mul_nonneg (show 0≤p.inc by omega) (Int.ediv_nonneg hb.1 (show 0≤p.inc by omega));omega
 refine ZR func317 rfl (rs:=[_]) rfl rfl ZW (by kernel_rfl) rfl rfl ?_;refine xx ?_;refine Z0 fun b1 nb1 zb1=>?_;(try simp only[ZU]at nb1);refine xx ?_;refine Ym (.tk 0 (.tk 1 (.tk 2 (.tk 3 (.tk 7 (.tk 8 (.tkl 4 (.tk 5 (.tk 6 (.tkl 9 (.o1 10 (.tk 11 (.fin)) (.nil)))))))))))) (by kernel_rfl) (by kernel_rfl) _ (Za.refl _ _) ?_;refine xx ?_;exact ZO (ZP hk)
theorem Yds (p:Zd)(ok:Zh p)(e b:Int)(he:0≤e∧e≤18446744073709551615)(hb:0≤b∧b≤18446744073709551615)(hk:K (.bool (Zxm p e b)) L h):Zb prog 344 [W5 p,.int .u64 e,.int .u64 b] L h K:=by
 have u1:=ok.w p.down (by simp [YA]);have u2:=ok.w p.up (by simp [YA]);refine ZR func344 rfl (rs:=[_]) rfl rfl ZW (by kernel_rfl) rfl rfl ?_;refine xx ?_;refine Z0 fun b1 nb1 zb1=>?_;(try simp only[ZU]at nb1);refine xx ?_;refine WD _ _ hb u1 ?_;by_cases c1:b+p.down≤18446744073709551615
 ·rw[YC c1];refine xx ?_;refine WD _ _ he u2 ?_;by_cases c2:e+p.up≤18446744073709551615
  ·rw[YC c2];by_cases c3:b+p.down<e
   ·refine xx ?_;exact ZO (ZP (by simpa [Zxm,c3] using hk))
   ·refine xx ?_;exact ZO (ZP (by simpa [Zxm,c3] using hk))
  ·rw[Wh c2];have c4:¬e+p.up<b:=by omega
   by_cases c3:b+p.down<e
   ·refine xx ?_;exact ZO (ZP (by simpa [Zxm,c3,c4] using hk))
   ·refine xx ?_;exact ZO (ZP (by simpa [Zxm,c3,c4] using hk))
 ·rw[Wh c1];have c3:¬b+p.down<e:=by omega
  refine xx ?_;refine WD _ _ he u2 ?_;by_cases c2:e+p.up≤18446744073709551615
  ·rw[YC c2];refine xx ?_;exact ZO (ZP (by simpa [Zxm,c3] using hk))
  ·rw[Wh c2];have c4:¬e+p.up<b:=by omega
   refine xx ?_;exact ZO (ZP (by simpa [Zxm,c3,c4] using hk))
theorem Zlb (p:Zd)(ok:Zh p)(h1:1≤p.inc)(e b:Int)(he:0≤e∧e≤18446744073709551615)(hb:0≤b∧b≤18446744073709551615)(hk:K (.int .u64 (VB p e b)) L h):Zb prog 275 [W5 p,.int .u64 e,.int .u64 b] L h K:=by
 refine ZR func275 rfl (rs:=[_]) rfl rfl ZW (by kernel_rfl) rfl rfl ?_;refine xx ?_;refine Z0 fun b1 nb1 zb1=>?_;(try simp only[ZU]at nb1);refine xx ?_;refine Yds p ok e b he hb ?_;unfold VB at hk
 cases c:Zxm p e b with
 | true =>
  rw[c]at hk;refine xx ?_;refine Zgq p b h1 hb ?_;refine xx ?_;exact ZO (ZP (by simpa using hk))
 | false =>
  rw[c]at hk;refine xx ?_;exact ZO (ZP (by simpa using hk))
theorem Zhe (p:Zd)(ok:Zh p)(e b:Int)(he:0≤e∧e≤18446744073709551615)(hb:0≤b∧b≤18446744073709551615)(hk:K (.bool (Yb p&&VQ p e b)) L h):Zb prog 215 [W5 p,.int .u64 e,.int .u64 b] L h K:=by
 refine ZR func215 rfl (rs:=[_]) rfl rfl ZW (by kernel_rfl) rfl rfl ?_;refine xx ?_;refine Z0 fun b1 nb1 zb1=>?_;(try simp only[ZU]at nb1);refine xx ?_;refine UP p ok ?_
 cases hr:Yb p with
 | false =>
  rw[hr]at hk;refine xx ?_;refine Z0 fun b2 nb2 zb2=>?_;(try simp only[ZU]at nb2);refine xx ?_;exact ZO (ZO (ZP (by simpa using hk)))
 | true =>
  have h1:=Jf hr;rw[hr]at hk;refine xx ?_;refine Z0 fun b2 nb2 zb2=>?_;(try simp only[ZU]at nb2);refine xx ?_;by_cases c1:p.inc≤e
  ·by_cases c2:e≤p.maxEff
   ·by_cases c3:e%p.inc=0
    ·refine xx ?_;refine Zlb p ok h1 e b he hb ?_;refine xx ?_;exact ZO (ZO (ZP (by simpa [VQ,c1,c2,c3] using hk)))
    ·refine xx ?_;exact ZO (ZO (ZP (by simpa [VQ,c1,c2,c3] using hk)))
   ·refine xx ?_;exact ZO (ZO (ZP (by simpa [VQ,c1,c2] using hk)))
  ·refine xx ?_;exact ZO (ZO (ZP (by simpa [VQ,c1] using hk)))
def Zbo (p:Zd)(m:Zc):Zc:={ m with score:=min m.score p.scoreCap,streak:=min (max m.streak 0) p.streak }
abbrev Zbq (m:Zc):Value := .agg #[.int .u64 m.bal,.int .u64 m.eff,.int .u64 m.score,.int .i64 m.streak]
abbrev Zxf (m:Zc):Value := .agg #[.int .u64 m.bal,.int .u64 m.eff,.int .u64 m.score,.int .i64 m.streak,.int .i64 m.owner,.int .i64 m.status]
theorem Zwb (b:Nat)(p:Zd)(m:Zc)(hb:h b=noC)(hk:K (.tuple #[]) (⟨b,337,[.int .u64 m.bal,.int .u64 m.eff,.int .u64 (min m.score p.scoreCap),.int .i64 (min (max m.streak 0) p.streak)]++Jm p,28⟩::L) h) :
  Zb prog 316 [.pointer (some ⟨b,0,none⟩)] (⟨b,337,[.int .u64 m.bal,.int .u64 m.eff,.int .u64 m.score,.int .i64 m.streak]++Jm p,28⟩::L) h K:=by
 simp only[List.cons_append,List.nil_append]at hk ⊢;refine ZR func316 rfl (rs:=[]) rfl rfl ZW (by kernel_rfl) rfl rfl ?_;refine xx ?_;refine Ym (.tk 0 (.tk 1 (.tk 2 (.tk 3 (.tk 4 (.tk 6 (.tk 7 (.tk 8 (.tk 9 (.tkl 5 (.tkl 10 (.o1 11 (.tk 12 (.tk 13 (.tk 14 (.o2 15 (.fin) (.nil))))) (.nil))))))))))))) (by kernel_rfl) (by kernel_rfl) _ (Za.refl _ _) ?_;refine xx ?_;refine Ym (.tk 0 (.tk 1 (.tk 2 (.tk 3 (.tk 4 (.tk 7 (.tk 8 (.tk 9 (.tk 10 (.tkl 5 (.tkl 11 (.o1 6 (.o1 12 (.tk 13 (.tk 14 (.tk 15 (.o2 16 (.fin) (.nil))))) (.nil)) (.nil))))))))))))) (by kernel_rfl) (by kernel_rfl) _ (Za.refl _ _) ?_;simp -dsimp -implicitDefEqProofs (disch:=first|with_reducible assumption|omega) [go_sem,Yi];exact ZP hk
theorem Zhr (p:Zd)(ok:Zh p)(m:Zc)(hk:K (Zbq (if Yb p then Zbo p m else m)) L h):Zb prog 213 [W5 p,Zbq m] L h K:=by
 refine ZR func213 rfl (rs:=[_]) rfl rfl ZW (by kernel_rfl) rfl rfl ?_;refine xx ?_;refine Z0 fun b1 nb1 zb1=>?_;(try simp only[ZU]at nb1);refine xx ?_;refine Z0 fun b2 nb2 zb2=>?_;(try simp only[ZU]at nb2);refine xx ?_;refine Z0 fun b3 nb3 zb3=>?_;(try simp only[ZU]at nb3);refine xx ?_;refine WN p ok ?_
 cases hr:Yb p with
 | false =>
  rw[hr]at hk;refine xx ?_;exact ZO (ZO (ZO (ZP hk)))
 | true =>
  rw[hr]at hk;refine xx ?_;refine Z0 fun b4 nb4 zb4=>?_;(try simp only[ZU]at nb4);refine xx ?_;refine Zwb b4 p m zb4 ?_;refine xx ?_;exact ZO (ZO (ZO (ZO (ZP hk))))
def UJ (p:Zd)(m:Zc):Bool :=
 if m.status=2∨m.status=3 then decide (p.floor<m.bal)&&decide (m.bal≤p.cap)&&VQ p m.eff m.bal
 else if m.status=1 then decide (1≤m.bal)&&decide (m.bal≤p.cap)&&decide (m.eff=0)
 else if m.status=4∨m.status=5 then decide (m.bal=0)&&decide (m.eff=0) else false
theorem Zua (p:Zd)(ok:Zh p)(hr:Yb p=true)(m:Zc)(mo:Ze m)(hk:K (.bool (UJ p m)) L h):Zb prog 286 [Zxf m,W5 p] L h K:=by
 have ub:0≤m.bal∧m.bal≤18446744073709551615:=mo.u _ (by simp);have ue:0≤m.eff∧m.eff≤18446744073709551615:=mo.u _ (by simp);unfold UJ at hk;refine ZR func286 rfl (rs:=[_]) rfl rfl ZW (by kernel_rfl) rfl rfl ?_;refine xx ?_;refine Z0 fun b1 nb1 zb1=>?_;(try simp only[ZU]at nb1);refine xx ?_;refine Z0 fun b2 nb2 zb2=>?_;(try simp only[ZU]at nb2);refine xx ?_;by_cases c0:m.status=2∨m.status=3
 ·rw[if_pos c0]at hk;have key:∀(X:Prop),(m.status=2→X)→(¬m.status=2→m.status=3→X)→X:=fun X a b=>by
   by_cases e:m.status=2
   ·exact a e
   ·exact b e (by omega)
  refine key _ (fun e=>?_) (fun e e'=>?_) <;>
  ·refine xx ?_;by_cases c1:p.floor<m.bal
   ·by_cases c2:m.bal≤p.cap
    ·refine xx ?_;refine Zhe p ok _ _ ue ub ?_;refine xx ?_;exact ZO (ZO (ZP (by simpa [hr,c1,c2] using hk)))
    ·refine xx ?_;exact ZO (ZO (ZP (by simpa [c1,c2] using hk)))
   ·refine xx ?_;exact ZO (ZO (ZP (by simpa [c1] using hk)))
 ·rw[if_neg c0]at hk;have e2:¬m.status=2:=fun e=>c0 (.inl e);have e3:¬m.status=3:=fun e=>c0 (.inr e);by_cases e1:m.status=1
  ·rw[if_pos e1]at hk;refine xx ?_;by_cases c1:1≤m.bal
   ·by_cases c2:m.bal≤p.cap
    ·refine xx ?_;exact ZO (ZO (ZP (by simpa [c1,c2] using hk)))
    ·refine xx ?_;exact ZO (ZO (ZP (by simpa [c1,c2] using hk)))
   ·refine xx ?_;exact ZO (ZO (ZP (by simpa [c1] using hk)))
  ·rw[if_neg e1]at hk;by_cases e4:m.status=4
   ·rw[if_pos (Or.inl e4)]at hk;refine xx ?_;by_cases c1:m.bal=0
    ·refine xx ?_;exact ZO (ZO (ZP (by simpa [c1] using hk)))
    ·refine xx ?_;exact ZO (ZO (ZP (by simpa [c1] using hk)))
   ·by_cases e5:m.status=5
    ·rw[if_pos (Or.inr e5)]at hk;refine xx ?_;by_cases c1:m.bal=0
     ·refine xx ?_;exact ZO (ZO (ZP (by simpa [c1] using hk)))
     ·refine xx ?_;exact ZO (ZO (ZP (by simpa [c1] using hk)))
    ·rw[if_neg (by omega)]at hk;refine xx ?_;exact ZO (ZO (ZP hk))
def Zqh (m:Zc):List Int:=[m.bal,m.eff,m.score,m.streak]
theorem eqStd (m q:Zc)(x y:Operand)(K:Value→Prop)(t:Zo K):Ur prog .eql 98 x y (Zbq m) (Zbq q) K t=K (.bool (decide (Zqh m=Zqh q))) :=
 Zai (T:=98) (ks:=[.u64,.u64,.u64,.i64]) (by kernel_rfl) (by kernel_rfl) (by kernel_rfl) (by kernel_rfl) (Zqh m) (Zqh q) rfl rfl x y K t
def Vp (p:Zd)(m:Zc):Bool:=decide (0≤m.owner)&&decide (m.owner<64)&&decide (Zqh (Zbo p m)=Zqh m)&&UJ p m
theorem Zqn (p:Zd)(ok:Zh p)(m:Zc)(mo:Ze m)(hk:K (.bool (Yb p&&Vp p m)) L h):Zb prog 171 [W5 p,Zxf m] L h K:=by
 refine ZR func171 rfl (rs:=[_]) rfl rfl ZW (by kernel_rfl) rfl rfl ?_;refine xx ?_;refine Z0 fun b1 nb1 zb1=>?_;(try simp only[ZU]at nb1);refine xx ?_;refine Z0 fun b2 nb2 zb2=>?_;(try simp only[ZU]at nb2);refine xx ?_;refine WN p ok ?_
 cases hr:Yb p with
 | false =>
  rw[hr]at hk;refine xx ?_;exact ZO (ZO (ZP (by simpa using hk)))
 | true =>
  rw[hr]at hk;by_cases c1:m.owner<0
  ·refine xx ?_;exact ZO (ZO (ZP (by simpa [Vp,show ¬ 0≤m.owner by omega] using hk)))
  ·by_cases c2:64≤m.owner
   ·refine xx ?_;exact ZO (ZO (ZP (by simpa [Vp,show ¬m.owner<64 by omega] using hk)))
   ·refine xx ?_;refine Ym (.tk 1 (.tk 4 (.tkl 0 (.tkl 2 (.tkl 5 (.o1 3 (.tk 6 (.tk 7 (.tkl 8 (.tk 9 (.tkl 10 (.o1 11 (.tk 12 (.tk 13 (.fin))) (.nil))))))) (.nil))))))) (by kernel_rfl) (by kernel_rfl) _ (Za.refl _ _) ?_;refine xx ?_;refine Zhr p ok m ?_;rw[if_pos hr];refine xkp (Za.refl _ _) ?_;simp -dsimp -implicitDefEqProofs (disch:=first|with_reducible assumption|omega) [go_sem,eqStd];have hf:Vp p m=(decide (Zqh (Zbo p m)=Zqh m)&&UJ p m):=by simp [Vp,show 0≤m.owner by omega,show m.owner<64 by omega]
    rw[hf]at hk
    cases hq:decide (Zqh (Zbo p m)=Zqh m) with
    | false =>
     rw[hq]at hk;refine xx ?_;exact ZO (ZO (ZP (by simpa using hk)))
    | true =>
     rw[hq]at hk;refine xx ?_;refine Zua p ok hr m mo ?_;refine xkp (Za.refl _ _) ?_;refine xx ?_;exact ZO (ZO (ZP (by simpa using hk)))
open Go.RowKit Go.Bl Go.ChangeShapes Go.WideShapes Go.ChangeAt Go.Joins Go.Proofs Go.Proofs.Tryz
section
variable {H:Type} {enc:TypeId×Value→H} {W:World} {base b0:Nat} {spare:Nat→Bool} {held:Bool} {r:Reach} {v:Value} {d:DataW H} {p:List MemPlace}
set_option maxRecDepth 100000 in
theorem Zuo (n:Nat)(cs:List Value)(x:DataW H×List MemPlace)(hf:DataW.trod enc prog W base spare held n 98 cs=some x):∃s:Zc,cs=[.int .u64 s.bal,.int .u64 s.eff,.int .u64 s.score,.int .i64 s.streak]∧Ze s:=by
 obtain⟨xs,m,rfl,_,hl,fldl,fld⟩:=DataW.trod_struct underlying98 hf;rw[show prog.cellsOf 98=4 by kernel_rfl]at hl;have ki:prog.cellsOf 3=1:=by kernel_rfl
 have ku:prog.cellsOf 22=1:=by kernel_rfl
 have sfld:∀i,i<4→(xs[i]?).isSome=true:=fun i hi=>by
  have:xs.length=4:=fldl;simp;omega
 obtain⟨z0,a0,r0⟩:=WQ (off:=0) underlying22 ku (fld 0 _ rfl) (sfld 0 (by decide));obtain⟨z1,a1,r1⟩:=WQ (off:=1) underlying22 ku (fld 1 _ rfl) (sfld 1 (by decide));obtain⟨z2,a2,r2⟩:=WQ (off:=2) underlying22 ku (fld 2 _ rfl) (sfld 2 (by decide));obtain⟨z3,a3,r3⟩:=WQ (off:=3) underlying3 ki (fld 3 _ rfl) (sfld 3 (by decide));obtain⟨g0,g1,g2,g3,rfl⟩:=Ymd hl;simp only[List.drop_succ_cons,List.drop_zero,List.take_succ_cons,List.take_zero,List.getElem?_cons_zero,List.getElem?_cons_succ,List.getElem_cons_succ,List.getElem_cons_zero,Option.some.injEq]at a0 a1 a2 a3;subst a0;subst a1;subst a2;subst a3;rw[Zwk,Zst]at r3;rw[Ybr,Ycm]at r0 r1 r2;refine⟨⟨z0,z1,z2,z3,0,0⟩,rfl,⟨?_,?_⟩⟩
 ·intro z hz;simp only[List.mem_cons,List.not_mem_nil,or_false]at hz;rcases hz with rfl|rfl|rfl
  ·exact r0
  ·exact r1
  ·exact r2
 ·intro z hz;simp only[List.mem_cons,List.not_mem_nil,or_false]at hz;rcases hz with rfl|rfl|rfl
  ·exact r3
  ·decide
  ·decide
set_option maxRecDepth 100000 in
theorem Zhu (hv:Value.okWide prog W r b0 98 v)(h:DataW.Trod enc prog W base spare held 98 v d p):∃s:Zc,v=Zbq s∧Ze s:=by
 obtain⟨cs,rfl,_⟩:=okWide_struct underlying98 hv;obtain⟨f,hf⟩:=h;obtain⟨dd,hc,hd⟩:=Zuo _ _ _ hf;refine⟨dd,?_,hd⟩;have:cs=([.int .u64 dd.bal,.int .u64 dd.eff,.int .u64 dd.score,.int .i64 dd.streak]:List Value).toArray:=by
  apply Array.ext'
  simpa [Value.cells] using hc
 rw[this]
set_option maxRecDepth 100000 in
theorem Zpv (hv:Value.okWide prog W r b0 103 v)(h:DataW.Trod enc prog W base spare held 103 v d p) :
  ∃q:Bool×Int,v = .agg #[.bool q.1,.int .i64 q.2]∧(-9223372036854775808≤q.2∧q.2≤9223372036854775807):=by
 obtain⟨v0,v1,y0,y1,n,rfl,rfl,rfl,h0,h1⟩:=open_agg2 underlying103 (by kernel_rfl) (by kernel_rfl) hv h;obtain⟨a,ha,_⟩:=DataW.trod_bool underlying4 h0;obtain⟨b,hb,-,wb⟩:=DataW.trod_int underlying3 h1;injection ha with ha
 injection hb with hb
 subst ha;subst hb;have rb:IntKind.i64.min≤b∧b≤IntKind.i64.max:=by simpa [Lit.wf] using wb
 rw[Zwk,Zst]at rb;exact⟨(a,b),rfl,rb⟩
end
end Go.X

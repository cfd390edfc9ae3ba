/- Lemmas and contracts. Conditions: as each says. -/
import Derived.Test.YtpdidilobgimcaaGreatQ17
set_option linter.unusedVariables false
set_option linter.unusedSimpArgs false
set_option maxHeartbeats 12800000
set_option maxRecDepth 20000
namespace Go.X
open Go.RowKit Go.Proofs Go.Bl Go.Proofs.Tryz
variable {L:Own} {h:PH} {K:PK}
theorem GM (x y:Int)(hx:0≤x∧x≤18446744073709551615)(hy:0≤y∧y≤18446744073709551615)(hk:K (.int .u64 (Y8 x y)) L h):Zb prog 302 [.int .u64 x,.int .u64 y] L h K:=by
 unfold Y8 at hk;refine ZR func302 rfl (rs:=[_]) rfl rfl ZW (by kernel_rfl) rfl rfl ?_;refine xx ?_;refine Znm x y hx hy ?_;by_cases c:y≤x
 ·rw[if_pos c]at hk ⊢;refine xx ?_;exact ZP hk
 ·rw[if_neg c]at hk ⊢;refine xx ?_;exact ZP hk
theorem Zgr (x y m:Int)(hx:0≤x∧x≤18446744073709551615)(hy:0≤y∧y≤18446744073709551615)(hm:0≤m∧m≤18446744073709551615)(hk:K (.int .u64 (Uh x y m)) L h):Zb prog 343 [.int .u64 x,.int .u64 y,.int .u64 m] L h K:=by
 unfold Uh at hk;refine ZR func343 rfl (rs:=[_]) rfl rfl ZW (by kernel_rfl) rfl rfl ?_;refine xx ?_;refine WD x y hx hy ?_;by_cases c:x+y≤18446744073709551615
 ·rw[YC c];refine xx ?_;exact ZP hk
 ·rw[Wh c];rw[Int.min_eq_right (by omega)]at hk;refine xx ?_;exact ZP hk
theorem Zfv (x y:Int)(hx:0≤x∧x≤18446744073709551615)(hy:0≤y)(hk:K (.tuple #[.int .u64 (min x y),.int .u64 (x-min x y)]) L h):Zb prog 301 [.int .u64 x,.int .u64 y] L h K:=by
 refine ZR func301 rfl (rs:=[_,_]) rfl rfl ZW (by kernel_rfl) rfl rfl ?_;refine xx ?_;exact ZP hk
theorem Zwl (p:Zd)(calm pr ac:Int)(hp:0≤pr∧pr≤18446744073709551615)(ha:0≤ac∧ac≤18446744073709551615)(hc : -9223372036854775808≤calm∧calm≤9223372036854775807)(hk:K (.tuple #[.int .i64 (Uu calm pr ac).1,.bool (Uu calm pr ac).2]) L h) :
  Zb prog 188 [W5 p,.int .i64 calm,.int .u64 pr,.int .u64 ac] L h K:=by
 unfold Uu at hk;refine ZR func188 rfl (rs:=[_,_]) rfl rfl ZW (by kernel_rfl) rfl rfl ?_;refine xx ?_;refine Z0 fun b1 nb1 zb1=>?_;(try simp only[ZU]at nb1);refine xx ?_;refine Yax pr ac hp ha ?_;by_cases c:0<ac∧2*ac<3*pr
 ·rw[if_pos c]at hk;rw[show (decide (0<ac)&&decide (2*ac<3*pr))=true by simp [c.1,c.2]];refine xx ?_;exact ZO (ZP hk)
 ·rw[if_neg c]at hk;rw[show (decide (0<ac)&&decide (2*ac<3*pr))=false by simpa using c];simp -dsimp -implicitDefEqProofs (disch:=first|with_reducible assumption|omega) [go_sem,Yi];exact ZO (ZP hk)
theorem Yfw (p:Zd)(calm:Int)(em:Bool)(hk:K (.int .i64 (Yei p.delay calm em)) L h):Zb prog 189 [W5 p,.int .i64 calm,.bool em] L h K:=by
 unfold Yei at hk;refine ZR func189 rfl (rs:=[_]) rfl rfl ZW (by kernel_rfl) rfl rfl ?_;refine xx ?_;refine Z0 fun b1 nb1 zb1=>?_;(try simp only[ZU]at nb1);refine xx ?_
 cases em with
 | true =>
  refine xx ?_;exact ZO (ZP hk)
 | false =>
  simp only[Bool.false_eq_true,if_false]at hk;by_cases c:p.delay<calm
  ·rw[if_pos c]at hk;refine xx ?_;exact ZO (ZP hk)
  ·rw[if_neg c]at hk;by_cases c2:0<calm
   ·rw[if_pos c2]at hk;refine xx ?_;exact ZO (ZP hk)
   ·rw[if_neg c2]at hk;refine xx ?_;exact ZO (ZP hk)
theorem Ya {p:Zd}(hr:Yb p=true):0≤p.streak∧p.streak≤64∧0≤p.boost∧p.boost≤1000∧0≤p.absent∧p.absent≤10000∧0≤p.burn∧p.burn≤10000∧1≤p.churn∧p.churn≤64∧0≤p.delay∧p.delay≤1000∧0≤p.wait∧p.wait≤50∧p.rate≤4294967296:=by
 simp only[Yb,YW,Bool.and_eq_true,List.all_cons,List.all_nil,id,decide_eq_true_eq,wi_iff]at hr;omega
theorem GD {p:Zd}(hr:Yb p=true):1≤p.inc∧p.inc≤p.maxEff∧p.maxEff≤1099511627776∧p.cap≤1099511627776∧p.maxEff≤p.cap∧p.floor<p.cap∧p.inc≤p.floor∧1≤p.quot∧p.quot≤1099511627776∧1≤p.quotEm∧p.quotEm≤p.quot∧p.scoreCap≤72057594037927936:=by
 simp only[Yb,YU,Y6,Bool.and_eq_true,List.all_cons,List.all_nil,id,decide_eq_true_eq,wi_iff]at hr;omega
def Yiq (p:Zd)(m:Zc):Int:=if max m.streak 0<p.streak then max m.streak 0+1 else p.streak
def Ykn (p:Zd)(m:Zc)(mode:Int):Int:=if mode=3 then Uh m.score p.bias p.scoreCap else if mode=4 then Uh m.score p.biasEm p.scoreCap else m.score
theorem Zks (p:Zd)(m:Zc)(mode:Int):Y2 p m true mode={ m with streak:=Yiq p m,score:=Y8 m.score p.recover }:=rfl
theorem Zjd (p:Zd)(m:Zc)(mode:Int):Y2 p m false mode={ m with streak:=0,score:=Ykn p m mode }:=rfl
theorem Zou (b:Nat)(p:Zd)(ok:Zh p)(hr:Yb p=true)(m:Zc)(mo:Ze m)(hb:h b=noC)(hk:K (.tuple #[]) (⟨b,337,[.int .u64 m.bal,.int .u64 m.eff,.int .u64 (Y8 m.score p.recover),.int .i64 (Yiq p m)]++Jm p,28⟩::L) h) :
  Zb prog 272 [.pointer (some ⟨b,0,none⟩)] (⟨b,337,[.int .u64 m.bal,.int .u64 m.eff,.int .u64 m.score,.int .i64 m.streak]++Jm p,28⟩::L) h K:=by
 have hs:=Ya hr;have us:=mo.u m.score (by simp);have un:=mo.n m.streak (by simp);have ur:=ok.w p.recover (by simp [YA]);have e:Yiq p m=max 0 (min (min (max m.streak 0) (p.streak-1)+1) p.streak):=by unfold Yiq;split<;>omega
 rw[e]at hk;simp only[List.cons_append,List.nil_append]at hk ⊢;refine ZR func272 rfl (rs:=[]) rfl rfl ZW (by kernel_rfl) rfl rfl ?_;simp -dsimp -implicitDefEqProofs (disch:=first|with_reducible assumption|omega) [go_sem,Yi];refine Ym (.tk 0 (.tk 1 (.tk 2 (.tk 3 (.tk 4 (.tk 7 (.tk 8 (.tk 9 (.tk 10 (.tkl 5 (.tkl 11 (.tk 12 (.o1 6 (.o1 13 (.tk 14 (.tk 15 (.tk 16 (.tk 17 (.o2 18 (.fin) (.nil)))))) (.nil)) (.nil)))))))))))))) (by kernel_rfl) (by kernel_rfl) _ (Za.refl _ _) ?_;simp -dsimp -implicitDefEqProofs (disch:=first|with_reducible assumption|omega) [go_sem,Yi];refine Ym (.tk 0 (.tk 1 (.tk 2 (.tk 3 (.tk 4 (.tk 6 (.tk 7 (.tk 8 (.tk 9 (.tkl 5 (.tkl 10 (.o1 11 (.o1 12 (.tk 13 (.tk 14 (.tk 15 (.o2 16 (.fin) (.nil))))) (.nil)) (.nil))))))))))))) (by kernel_rfl) (by kernel_rfl) _ (Za.refl _ _) ?_;simp -dsimp -implicitDefEqProofs (disch:=first|with_reducible assumption|omega) [go_sem,Yi];refine Ym (.tk 0 (.tk 1 (.tk 2 (.tk 3 (.tk 4 (.tk 6 (.tk 7 (.tk 8 (.tk 9 (.tkl 5 (.tkl 10 (.o1 11 (.tk 12 (.tk 13 (.tk 14 (.o2 15 (.fin) (.nil))))) (.nil))))))))))))) (by kernel_rfl) (by kernel_rfl) _ (Za.refl _ _) ?_;simp -dsimp -implicitDefEqProofs (disch:=first|with_reducible assumption|omega) [go_sem,Yi];refine GM m.score p.recover us ur ?_
 first
 | refine xkp (Za.refl _ _) ?_
 | skip
 refine xx ?_;exact ZP hk
theorem Ztx (b:Nat)(p:Zd)(ok:Zh p)(m:Zc)(mo:Ze m)(mode:Int)(hb:h b=noC)(hk:K (.tuple #[]) (⟨b,337,[.int .u64 m.bal,.int .u64 m.eff,.int .u64 (Ykn p m mode),.int .i64 0]++Jm p,28⟩::L) h) :
  Zb prog 273 [.pointer (some ⟨b,0,none⟩),.int .i64 mode] (⟨b,337,[.int .u64 m.bal,.int .u64 m.eff,.int .u64 m.score,.int .i64 m.streak]++Jm p,28⟩::L) h K:=by
 have us:=mo.u m.score (by simp);have u1:=ok.w p.bias (by simp [YA]);have u2:=ok.w p.biasEm (by simp [YA]);have u3:=ok.w p.scoreCap (by simp [YA]);unfold Ykn at hk;simp only[List.cons_append,List.nil_append]at hk ⊢;refine ZR func273 rfl (rs:=[]) rfl rfl ZW (by kernel_rfl) rfl rfl ?_;refine xx ?_;by_cases c1:mode=3
 ·rw[if_pos c1]at hk;refine xx ?_;refine Ym (.tk 0 (.tk 1 (.tk 2 (.tk 3 (.tk 4 (.tk 6 (.tk 7 (.tk 8 (.tk 9 (.tk 11 (.tk 12 (.tk 13 (.tk 14 (.tkl 5 (.tkl 10 (.tkl 15 (.o1 16 (.tk 17 (.tk 18 (.tk 19 (.o2 20 (.fin) (.nil))))) (.nil)))))))))))))))))) (by kernel_rfl) (by kernel_rfl) _ (Za.refl _ _) ?_;refine xx ?_;refine Zgr m.score p.bias p.scoreCap us u1 u3 ?_
  first
  | refine xkp (Za.refl _ _) ?_
  | skip
  refine xx ?_;exact ZP hk
 ·rw[if_neg c1]at hk;by_cases c2:mode=4
  ·rw[if_pos c2]at hk;refine xx ?_;refine Ym (.tk 0 (.tk 1 (.tk 2 (.tk 3 (.tk 4 (.tk 6 (.tk 7 (.tk 8 (.tk 9 (.tk 11 (.tk 12 (.tk 13 (.tk 14 (.tkl 5 (.tkl 10 (.tkl 15 (.o1 16 (.tk 17 (.tk 18 (.tk 19 (.o2 20 (.fin) (.nil))))) (.nil)))))))))))))))))) (by kernel_rfl) (by kernel_rfl) _ (Za.refl _ _) ?_;refine xx ?_;refine Zgr m.score p.biasEm p.scoreCap us u2 u3 ?_
   first
   | refine xkp (Za.refl _ _) ?_
   | skip
   refine xx ?_;exact ZP hk
  ·rw[if_neg c2]at hk;refine xx ?_;exact ZP hk
theorem Zcd (p:Zd)(ok:Zh p)(hr:Yb p=true)(m:Zc)(mo:Ze m)(there:Bool)(mode:Int)(hk:K (Zbq (Y2 p m there mode)) L h):Zb prog 154 [W5 p,Zbq m,.bool there,.int .i64 mode] L h K:=by
 refine ZR func154 rfl (rs:=[_]) rfl rfl ZW (by kernel_rfl) rfl rfl ?_;refine xx ?_;refine Z0 fun b1 nb1 zb1=>?_;(try simp only[ZU]at nb1);refine xx ?_;refine Z0 fun b2 nb2 zb2=>?_;(try simp only[ZU]at nb2);refine xx ?_;refine Z0 fun b3 nb3 zb3=>?_;(try simp only[ZU]at nb3);refine xx ?_;refine WN p ok ?_;rw[hr];refine xx ?_;refine Z0 fun b4 nb4 zb4=>?_;(try simp only[ZU]at nb4);refine xx ?_
 cases there with
 | true =>
  rw[Zks]at hk;refine xx ?_;refine Zou b4 p ok hr m mo zb4 ?_;refine xx ?_;exact ZO (ZO (ZO (ZO (ZP hk))))
 | false =>
  rw[Zjd]at hk;refine xx ?_;refine Ztx b4 p ok m mo mode zb4 ?_;refine xx ?_;exact ZO (ZO (ZO (ZO (ZP hk))))
theorem Zce (a b m:Int)(ha:0≤a∧a≤18446744073709551615)(hb:0≤b∧b≤18446744073709551615)(hm:0≤m∧m≤18446744073709551615)(hk:K (.int .u64 (Uh a b m)) L h):Zb prog 276 [.int .u64 a,.int .u64 b,.int .u64 m] L h K:=by
 unfold Uh at hk;refine ZR func276 rfl (rs:=[_]) rfl rfl ZW (by kernel_rfl) rfl rfl ?_;by_cases c1:m≤a
 ·rw[Int.min_eq_right (by omega)]at hk;refine xx ?_;exact ZP hk
 ·by_cases c2:m-a≤b
  ·rw[Int.min_eq_right (by omega)]at hk;refine xx ?_;exact ZP hk
  ·rw[Int.min_eq_left (by omega)]at hk;refine xx ?_;exact ZP hk
theorem Zjr (p:Zd)(ok:Zh p)(hr:Yb p=true)(m:Zc)(mo:Ze m)(there:Bool)(mode:Int)(hk:K (Zbq (Y2 p m there mode)) L h):Zb prog 158 [W5 p,Zbq m,.bool there,.int .i64 mode] L h K:=by
 have hs:=Ya hr;have us:=mo.u m.score (by simp);have un:=mo.n m.streak (by simp);have ur:=ok.w p.recover (by simp [YA]);have u1:=ok.w p.bias (by simp [YA]);have u2:=ok.w p.biasEm (by simp [YA]);have u3:=ok.w p.scoreCap (by simp [YA]);refine ZR func158 rfl (rs:=[_]) rfl rfl ZW (by kernel_rfl) rfl rfl ?_;refine xx ?_;refine Z0 fun b1 nb1 zb1=>?_;(try simp only[ZU]at nb1);refine xx ?_;refine Z0 fun b2 nb2 zb2=>?_;(try simp only[ZU]at nb2);refine xx ?_;refine Z0 fun b3 nb3 zb3=>?_;(try simp only[ZU]at nb3);refine xx ?_
 cases there with
 | true =>
  rw[Zks]at hk;unfold Yiq Y8 at hk;by_cases c1:0<m.streak
  ·rw[Int.max_eq_left (by omega)]at hk;by_cases c2:m.streak<p.streak
   ·rw[if_pos c2]at hk;by_cases c3:p.recover<m.score
    ·rw[if_pos (by omega)]at hk;refine xx ?_;exact ZO (ZO (ZO (ZP hk)))
    ·rw[show (if p.recover≤m.score then m.score-p.recover else 0)=0 by split<;>omega]at hk;refine xx ?_;exact ZO (ZO (ZO (ZP hk)))
   ·rw[if_neg c2]at hk;by_cases c3:p.recover<m.score
    ·rw[if_pos (by omega)]at hk;refine xx ?_;exact ZO (ZO (ZO (ZP hk)))
    ·rw[show (if p.recover≤m.score then m.score-p.recover else 0)=0 by split<;>omega]at hk;refine xx ?_;exact ZO (ZO (ZO (ZP hk)))
  ·rw[Int.max_eq_right (by omega)]at hk;by_cases c2:0<p.streak
   ·rw[if_pos c2]at hk;by_cases c3:p.recover<m.score
    ·rw[if_pos (by omega)]at hk;refine xx ?_;exact ZO (ZO (ZO (ZP hk)))
    ·rw[show (if p.recover≤m.score then m.score-p.recover else 0)=0 by split<;>omega]at hk;refine xx ?_;exact ZO (ZO (ZO (ZP hk)))
   ·rw[if_neg c2]at hk;by_cases c3:p.recover<m.score
    ·rw[if_pos (by omega)]at hk;refine xx ?_;exact ZO (ZO (ZO (ZP hk)))
    ·rw[show (if p.recover≤m.score then m.score-p.recover else 0)=0 by split<;>omega]at hk;refine xx ?_;exact ZO (ZO (ZO (ZP hk)))
 | false =>
  rw[Zjd]at hk;unfold Ykn at hk;by_cases c1:mode=3
  ·rw[if_pos c1]at hk;refine xx ?_;refine Zce m.score p.bias p.scoreCap us u1 u3 ?_;refine xx ?_;exact ZO (ZO (ZO (ZP hk)))
  ·rw[if_neg c1]at hk;by_cases c2:mode=4
   ·rw[if_pos c2]at hk;refine xx ?_;refine Zce m.score p.biasEm p.scoreCap us u2 u3 ?_;refine xx ?_;exact ZO (ZO (ZO (ZP hk)))
   ·rw[if_neg c2]at hk;refine xx ?_;exact ZO (ZO (ZO (ZP hk)))
end Go.X

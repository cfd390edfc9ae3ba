/- Lemmas and contracts. Conditions: as each says. -/
import Derived.Test.YtpdidilobgimcaaGreatQ17
import Derived.Test.YtpdidilobgimcaaGreatQ18
set_option linter.unusedVariables false
set_option linter.unusedSimpArgs false
set_option maxHeartbeats 12800000
set_option maxRecDepth 20000
namespace Go.X
open Go.RowKit Go.Proofs Go.Bl Go.Proofs.Tryz
variable {L:Own} {h:PH} {K:PK}
theorem Zcx (x y:Int)(hx:0≤x∧x≤18446744073709551615)(hy:0≤y∧y≤18446744073709551615)(hk:K (.int .u64 (Wd x y)) L h):Zb prog 302 [.int .u64 x,.int .u64 y] L h K:=by
 unfold Wd at hk;refine ZS func302 rfl (rs:=[_]) rfl rfl ZY (by kernel_rfl) rfl rfl ?_;refine xx ?_;refine Zpx x y hx hy ?_;by_cases c:y≤x
 ·rw[if_pos c]at hk ⊢;refine xx ?_;exact ZP hk
 ·rw[if_neg c]at hk ⊢;refine xx ?_;exact ZP hk
theorem Zib (x y m:Int)(hx:0≤x∧x≤18446744073709551615)(hy:0≤y∧y≤18446744073709551615)(hm:0≤m∧m≤18446744073709551615)(hk:K (.int .u64 (G5 x y m)) L h):Zb prog 343 [.int .u64 x,.int .u64 y,.int .u64 m] L h K:=by
 unfold G5 at hk;refine ZS func343 rfl (rs:=[_]) rfl rfl ZY (by kernel_rfl) rfl rfl ?_;refine xx ?_;refine WM x y hx hy ?_;by_cases c:x+y≤18446744073709551615
 ·rw[YK c];refine xx ?_;exact ZP hk
 ·rw[Wl c];rw[Int.min_eq_right (by omega)]at hk;refine xx ?_;exact ZP hk
theorem Zio (x y:Int)(hx:0≤x∧x≤18446744073709551615)(hy:0≤y)(hk:K (.tuple #[.int .u64 (min x y),.int .u64 (x-min x y)]) L h):Zb prog 301 [.int .u64 x,.int .u64 y] L h K:=by
 refine ZS func301 rfl (rs:=[_,_]) rfl rfl ZY (by kernel_rfl) rfl rfl ?_;refine xx ?_;exact ZP hk
theorem Zxt (p:Zd)(calm pr ac:Int)(hp:0≤pr∧pr≤18446744073709551615)(ha:0≤ac∧ac≤18446744073709551615)(hc : -9223372036854775808≤calm∧calm≤9223372036854775807)(hk:K (.tuple #[.int .i64 (VE calm pr ac).1,.bool (VE calm pr ac).2]) L h) :
  Zb prog 188 [Vp p,.int .i64 calm,.int .u64 pr,.int .u64 ac] L h K:=by
 unfold VE at hk;refine ZS func188 rfl (rs:=[_,_]) rfl rfl ZY (by kernel_rfl) rfl rfl ?_;refine xx ?_;refine Z0 fun b1 nb1 zb1=>?_;(try simp only[ZT]at nb1);refine xx ?_;refine Zft pr ac hp ha ?_;by_cases c:0<ac∧2*ac<3*pr
 ·rw[if_pos c]at hk;rw[show (decide (0<ac)&&decide (2*ac<3*pr))=true by simp [c.1,c.2]];refine xx ?_;exact ZO (ZP hk)
 ·rw[if_neg c]at hk;rw[show (decide (0<ac)&&decide (2*ac<3*pr))=false by simpa using c];simp -dsimp -implicitDefEqProofs (disch:=first|with_reducible assumption|omega) [go_sem,YF];exact ZO (ZP hk)
theorem Yjs (p:Zd)(calm:Int)(em:Bool)(hk:K (.int .i64 (Zxe p.delay calm em)) L h):Zb prog 189 [Vp p,.int .i64 calm,.bool em] L h K:=by
 unfold Zxe at hk;refine ZS func189 rfl (rs:=[_]) rfl rfl ZY (by kernel_rfl) rfl rfl ?_;refine xx ?_;refine Z0 fun b1 nb1 zb1=>?_;(try simp only[ZT]at nb1);refine xx ?_
 cases em with
 | true =>
  refine xx ?_;exact ZO (ZP hk)
 | false =>
  simp only[Bool.false_eq_true,if_false]at hk;by_cases c:p.delay<calm
  ·rw[if_pos c]at hk;refine xx ?_;exact ZO (ZP hk)
  ·rw[if_neg c]at hk;by_cases c2:0<calm
   ·rw[if_pos c2]at hk;refine xx ?_;exact ZO (ZP hk)
   ·rw[if_neg c2]at hk;refine xx ?_;exact ZO (ZP hk)
theorem Yh {p:Zd}(hr:Yl p=true):0≤p.streak∧p.streak≤64∧0≤p.boost∧p.boost≤1000∧0≤p.absent∧p.absent≤10000∧0≤p.burn∧p.burn≤10000∧1≤p.churn∧p.churn≤64∧0≤p.delay∧p.delay≤1000∧0≤p.wait∧p.wait≤50∧p.rate≤4294967296:=by
 simp only[Yl,Wc,Bool.and_eq_true,List.all_cons,List.all_nil,id,decide_eq_true_eq,wi_iff]at hr;omega
theorem Ycw {p:Zd}(hr:Yl p=true):1≤p.inc∧p.inc≤p.maxEff∧p.maxEff≤1099511627776∧p.cap≤1099511627776∧p.maxEff≤p.cap∧p.floor<p.cap∧p.inc≤p.floor∧1≤p.quot∧p.quot≤1099511627776∧1≤p.quotEm∧p.quotEm≤p.quot∧p.scoreCap≤72057594037927936:=by
 simp only[Yl,Y7,Wu,Bool.and_eq_true,List.all_cons,List.all_nil,id,decide_eq_true_eq,wi_iff]at hr;omega
def Yxf (p:Zd)(m:Zc):Int:=if max m.streak 0<p.streak then max m.streak 0+1 else p.streak
def Wea (p:Zd)(m:Zc)(mode:Int):Int:=if mode=3 then G5 m.score p.bias p.scoreCap else if mode=4 then G5 m.score p.biasEm p.scoreCap else m.score
theorem Zzv (p:Zd)(m:Zc)(mode:Int):V3 p m true mode={ m with streak:=Yxf p m,score:=Wd m.score p.recover }:=rfl
theorem Zzp (p:Zd)(m:Zc)(mode:Int):V3 p m false mode={ m with streak:=0,score:=Wea p m mode }:=rfl
theorem Ztj (b:Nat)(p:Zd)(ok:Zj p)(hr:Yl p=true)(m:Zc)(mo:Zh m)(hb:h b=noC)(hk:K (.tuple #[]) (⟨b,337,[.int .u64 m.bal,.int .u64 m.eff,.int .u64 (Wd m.score p.recover),.int .i64 (Yxf p m)]++GT p,28⟩::L) h) :
  Zb prog 272 [.pointer (some ⟨b,0,none⟩)] (⟨b,337,[.int .u64 m.bal,.int .u64 m.eff,.int .u64 m.score,.int .i64 m.streak]++GT p,28⟩::L) h K:=by
 have hs:=Yh hr;have us:=mo.u m.score (by simp);have un:=mo.n m.streak (by simp);have ur:=ok.w p.recover (by simp [Yy]);have e:Yxf p m=max 0 (min (min (max m.streak 0) (p.streak-1)+1) p.streak):=by unfold Yxf;split<;>omega
 rw[e]at hk;simp only[List.cons_append,List.nil_append]at hk ⊢;refine ZS func272 rfl (rs:=[]) rfl rfl ZY (by kernel_rfl) rfl rfl ?_;simp -dsimp -implicitDefEqProofs (disch:=first|with_reducible assumption|omega) [go_sem,YF];refine Yi (.tk 0 (.tk 1 (.tk 2 (.tk 3 (.tk 4 (.tk 7 (.tk 8 (.tk 9 (.tk 10 (.tkl 5 (.tkl 11 (.tk 12 (.o1 6 (.o1 13 (.tk 14 (.tk 15 (.tk 16 (.tk 17 (.o2 18 (.fin) (.nil)))))) (.nil)) (.nil)))))))))))))) (by kernel_rfl) (by kernel_rfl) _ (Za.refl _ _) ?_;simp -dsimp -implicitDefEqProofs (disch:=first|with_reducible assumption|omega) [go_sem,YF];refine Yi (.tk 0 (.tk 1 (.tk 2 (.tk 3 (.tk 4 (.tk 6 (.tk 7 (.tk 8 (.tk 9 (.tkl 5 (.tkl 10 (.o1 11 (.o1 12 (.tk 13 (.tk 14 (.tk 15 (.o2 16 (.fin) (.nil))))) (.nil)) (.nil))))))))))))) (by kernel_rfl) (by kernel_rfl) _ (Za.refl _ _) ?_;simp -dsimp -implicitDefEqProofs (disch:=first|with_reducible assumption|omega) [go_sem,YF];refine Yi (.tk 0 (.tk 1 (.tk 2 (.tk 3 (.tk 4 (.tk 6 (.tk 7 (.tk 8 (.tk 9 (.tkl 5 (.tkl 10 (.o1 11 (.tk 12 (.tk 13 (.tk 14 (.o2 15 (.fin) (.nil))))) (.nil))))))))))))) (by kernel_rfl) (by kernel_rfl) _ (Za.refl _ _) ?_;simp -dsimp -implicitDefEqProofs (disch:=first|with_reducible assumption|omega) [go_sem,YF];refine Zcx m.score p.recover us ur ?_
 first
 | refine xkp (Za.refl _ _) ?_
 | skip
 refine xx ?_;exact ZP hk
theorem Zwi (b:Nat)(p:Zd)(ok:Zj p)(m:Zc)(mo:Zh m)(mode:Int)(hb:h b=noC)(hk:K (.tuple #[]) (⟨b,337,[.int .u64 m.bal,.int .u64 m.eff,.int .u64 (Wea p m mode),.int .i64 0]++GT p,28⟩::L) h) :
  Zb prog 273 [.pointer (some ⟨b,0,none⟩),.int .i64 mode] (⟨b,337,[.int .u64 m.bal,.int .u64 m.eff,.int .u64 m.score,.int .i64 m.streak]++GT p,28⟩::L) h K:=by
 have us:=mo.u m.score (by simp);have u1:=ok.w p.bias (by simp [Yy]);have u2:=ok.w p.biasEm (by simp [Yy]);have u3:=ok.w p.scoreCap (by simp [Yy]);unfold Wea at hk;simp only[List.cons_append,List.nil_append]at hk ⊢;refine ZS func273 rfl (rs:=[]) rfl rfl ZY (by kernel_rfl) rfl rfl ?_;refine xx ?_;by_cases c1:mode=3
 ·rw[if_pos c1]at hk;refine xx ?_;refine Yi (.tk 0 (.tk 1 (.tk 2 (.tk 3 (.tk 4 (.tk 6 (.tk 7 (.tk 8 (.tk 9 (.tk 11 (.tk 12 (.tk 13 (.tk 14 (.tkl 5 (.tkl 10 (.tkl 15 (.o1 16 (.tk 17 (.tk 18 (.tk 19 (.o2 20 (.fin) (.nil))))) (.nil)))))))))))))))))) (by kernel_rfl) (by kernel_rfl) _ (Za.refl _ _) ?_;refine xx ?_;refine Zib m.score p.bias p.scoreCap us u1 u3 ?_
  first
  | refine xkp (Za.refl _ _) ?_
  | skip
  refine xx ?_;exact ZP hk
 ·rw[if_neg c1]at hk;by_cases c2:mode=4
  ·rw[if_pos c2]at hk;refine xx ?_;refine Yi (.tk 0 (.tk 1 (.tk 2 (.tk 3 (.tk 4 (.tk 6 (.tk 7 (.tk 8 (.tk 9 (.tk 11 (.tk 12 (.tk 13 (.tk 14 (.tkl 5 (.tkl 10 (.tkl 15 (.o1 16 (.tk 17 (.tk 18 (.tk 19 (.o2 20 (.fin) (.nil))))) (.nil)))))))))))))))))) (by kernel_rfl) (by kernel_rfl) _ (Za.refl _ _) ?_;refine xx ?_;refine Zib m.score p.biasEm p.scoreCap us u2 u3 ?_
   first
   | refine xkp (Za.refl _ _) ?_
   | skip
   refine xx ?_;exact ZP hk
  ·rw[if_neg c2]at hk;refine xx ?_;exact ZP hk
theorem Zqn (p:Zd)(ok:Zj p)(hr:Yl p=true)(m:Zc)(mo:Zh m)(there:Bool)(mode:Int)(hk:K (Zjn (V3 p m there mode)) L h):Zb prog 154 [Vp p,Zjn m,.bool there,.int .i64 mode] L h K:=by
 refine ZS func154 rfl (rs:=[_]) rfl rfl ZY (by kernel_rfl) rfl rfl ?_;refine xx ?_;refine Z0 fun b1 nb1 zb1=>?_;(try simp only[ZT]at nb1);refine xx ?_;refine Z0 fun b2 nb2 zb2=>?_;(try simp only[ZT]at nb2);refine xx ?_;refine Z0 fun b3 nb3 zb3=>?_;(try simp only[ZT]at nb3);refine xx ?_;refine W9 p ok ?_;rw[hr];refine xx ?_;refine Z0 fun b4 nb4 zb4=>?_;(try simp only[ZT]at nb4);refine xx ?_
 cases there with
 | true =>
  rw[Zzv]at hk;refine xx ?_;refine Ztj b4 p ok hr m mo zb4 ?_;refine xx ?_;exact ZO (ZO (ZO (ZO (ZP hk))))
 | false =>
  rw[Zzp]at hk;refine xx ?_;refine Zwi b4 p ok m mo mode zb4 ?_;refine xx ?_;exact ZO (ZO (ZO (ZO (ZP hk))))
end Go.X

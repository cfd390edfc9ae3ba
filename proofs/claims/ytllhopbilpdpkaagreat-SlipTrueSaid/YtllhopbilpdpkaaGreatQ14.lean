/- Lemmas and contracts. Conditions: as each says. -/
import Derived.Test.YtllhopbilpdpkaaGreatQ13
set_option linter.unusedVariables false
set_option linter.unusedSimpArgs false
set_option maxHeartbeats 12800000
set_option maxRecDepth 20000
namespace Go.X
open Go.RowKit Go.Proofs Go.Bl Go.Proofs.Tryz
variable {L:Own} {h:PH} {K:PK}
theorem Zae (x y:Int)(hx:0≤x∧x≤18446744073709551615)(hy:0≤y∧y≤18446744073709551615)(hk:K (.int .u64 (Y2 x y)) L h):Zc prog 301 [.int .u64 x,.int .u64 y] L h K:=by
 unfold Y2 at hk;refine ZS func301 rfl (rs:=[_]) rfl rfl ZW (by kernel_rfl) rfl rfl ?_;refine xx ?_;refine Zld x y hx hy ?_;by_cases c:y≤x
 ·rw[if_pos c]at hk ⊢;refine xx ?_;exact ZO hk
 ·rw[if_neg c]at hk ⊢;refine xx ?_;exact ZO hk
theorem Zfk (x y m:Int)(hx:0≤x∧x≤18446744073709551615)(hy:0≤y∧y≤18446744073709551615)(hm:0≤m∧m≤18446744073709551615)(hk:K (.int .u64 (Gw x y m)) L h):Zc prog 354 [.int .u64 x,.int .u64 y,.int .u64 m] L h K:=by
 unfold Gw at hk;refine ZS func354 rfl (rs:=[_]) rfl rfl ZW (by kernel_rfl) rfl rfl ?_;refine xx ?_;refine WI x y hx hy ?_;by_cases c:x+y≤18446744073709551615
 ·rw[Yi c];refine xx ?_;exact ZO hk
 ·rw[YD c];rw[Int.min_eq_right (by omega)]at hk;refine xx ?_;exact ZO hk
theorem Zgt (x y:Int)(hx:0≤x∧x≤18446744073709551615)(hy:0≤y)(hk:K (.tuple #[.int .u64 (min x y),.int .u64 (x-min x y)]) L h):Zc prog 300 [.int .u64 x,.int .u64 y] L h K:=by
 refine ZS func300 rfl (rs:=[_,_]) rfl rfl ZW (by kernel_rfl) rfl rfl ?_;refine xx ?_;exact ZO hk
theorem Zfv (p:Ze)(calm pr ac:Int)(hp:0≤pr∧pr≤18446744073709551615)(ha:0≤ac∧ac≤18446744073709551615)(hc : -9223372036854775808≤calm∧calm≤9223372036854775807)(hk:K (.tuple #[.int .i64 (VJ calm pr ac).1,.bool (VJ calm pr ac).2]) L h) :
  Zc prog 193 [Ud p,.int .i64 calm,.int .u64 pr,.int .u64 ac] L h K:=by
 unfold VJ at hk;refine ZS func193 rfl (rs:=[_,_]) rfl rfl ZW (by kernel_rfl) rfl rfl ?_;refine xx ?_;refine Z2 fun b1 nb1 zb1=>?_;(try simp only[ZT]at nb1);refine xx ?_;refine Zzg pr ac hp ha ?_;by_cases c:0<ac∧2*ac<3*pr
 ·rw[if_pos c]at hk;rw[show (decide (0<ac)&&decide (2*ac<3*pr))=true by simp [c.1,c.2]];refine xx ?_;exact ZP (ZO hk)
 ·rw[if_neg c]at hk;rw[show (decide (0<ac)&&decide (2*ac<3*pr))=false by simpa using c];simp -dsimp -implicitDefEqProofs (disch:=first|with_reducible assumption|omega) [go_sem,YK];exact ZP (ZO hk)
theorem Zrw (p:Ze)(calm:Int)(em:Bool)(hk:K (.int .i64 (Zqb p.delay calm em)) L h):Zc prog 194 [Ud p,.int .i64 calm,.bool em] L h K:=by
 unfold Zqb at hk;refine ZS func194 rfl (rs:=[_]) rfl rfl ZW (by kernel_rfl) rfl rfl ?_;refine xx ?_;refine Z2 fun b1 nb1 zb1=>?_;(try simp only[ZT]at nb1);refine xx ?_
 cases em with
 | true =>
  refine xx ?_;exact ZP (ZO hk)
 | false =>
  simp only[Bool.false_eq_true,if_false]at hk;by_cases c:p.delay<calm
  ·rw[if_pos c]at hk;refine xx ?_;exact ZP (ZO hk)
  ·rw[if_neg c]at hk;by_cases c2:0<calm
   ·rw[if_pos c2]at hk;refine xx ?_;exact ZP (ZO hk)
   ·rw[if_neg c2]at hk;refine xx ?_;exact ZP (ZO hk)
theorem Z7 {p:Ze}(hr:YM p=true):0≤p.streak∧p.streak≤64∧0≤p.boost∧p.boost≤1000∧0≤p.absent∧p.absent≤10000∧0≤p.burn∧p.burn≤10000∧1≤p.churn∧p.churn≤64∧0≤p.delay∧p.delay≤1000∧0≤p.wait∧p.wait≤50∧p.rate≤4294967296:=by
 simp only[YM,Js,Bool.and_eq_true,List.all_cons,List.all_nil,id,decide_eq_true_eq,wi_iff]at hr;omega
theorem Zkv {p:Ze}(hr:YM p=true):1≤p.inc∧p.inc≤p.maxEff∧p.maxEff≤1099511627776∧p.cap≤1099511627776∧p.maxEff≤p.cap∧p.floor<p.cap∧p.inc≤p.floor∧1≤p.quot∧p.quot≤1099511627776∧1≤p.quotEm∧p.quotEm≤p.quot∧p.scoreCap≤72057594037927936:=by
 simp only[YM,Vv,Ue,Bool.and_eq_true,List.all_cons,List.all_nil,id,decide_eq_true_eq,wi_iff]at hr;omega
def Ylk (p:Ze)(m:Zb):Int:=if max m.streak 0<p.streak then max m.streak 0+1 else p.streak
def Yvg (p:Ze)(m:Zb)(mode:Int):Int:=if mode=3 then Gw m.score p.bias p.scoreCap else if mode=4 then Gw m.score p.biasEm p.scoreCap else m.score
theorem Zxq (p:Ze)(m:Zb)(mode:Int):Vc p m true mode={ m with streak:=Ylk p m,score:=Y2 m.score p.recover }:=rfl
theorem Zrf (p:Ze)(m:Zb)(mode:Int):Vc p m false mode={ m with streak:=0,score:=Yvg p m mode }:=rfl
theorem Zqo (b:Nat)(p:Ze)(ok:Zj p)(hr:YM p=true)(m:Zb)(mo:Zf m)(hb:h b=noC)(hk:K (.tuple #[]) (⟨b,362,[.int .u64 m.bal,.int .u64 m.eff,.int .u64 (Y2 m.score p.recover),.int .i64 (Ylk p m)]++Zbs p,28⟩::L) h) :
  Zc prog 293 [.pointer (some ⟨b,0,none⟩)] (⟨b,362,[.int .u64 m.bal,.int .u64 m.eff,.int .u64 m.score,.int .i64 m.streak]++Zbs p,28⟩::L) h K:=by
 have hs:=Z7 hr;have us:=mo.u m.score (by simp);have un:=mo.n m.streak (by simp);have ur:=ok.w p.recover (by simp [YN]);have e:Ylk p m=max 0 (min (min (max m.streak 0) (p.streak-1)+1) p.streak):=by unfold Ylk;split<;>omega
 rw[e]at hk;simp only[List.cons_append,List.nil_append]at hk ⊢;refine ZS func293 rfl (rs:=[]) rfl rfl ZW (by kernel_rfl) rfl rfl ?_;simp -dsimp -implicitDefEqProofs (disch:=first|with_reducible assumption|omega) [go_sem,YK];refine Yn (.tk 0 (.tk 1 (.tk 2 (.tk 3 (.tk 4 (.tk 7 (.tk 8 (.tk 9 (.tk 10 (.tkl 5 (.tkl 11 (.tk 12 (.o1 6 (.o1 13 (.tk 14 (.tk 15 (.tk 16 (.tk 17 (.o2 18 (.fin) (.nil)))))) (.nil)) (.nil)))))))))))))) (by kernel_rfl) (by kernel_rfl) _ (Za.refl _ _) ?_;simp -dsimp -implicitDefEqProofs (disch:=first|with_reducible assumption|omega) [go_sem,YK];refine Yn (.tk 0 (.tk 1 (.tk 2 (.tk 3 (.tk 4 (.tk 6 (.tk 7 (.tk 8 (.tk 9 (.tkl 5 (.tkl 10 (.o1 11 (.o1 12 (.tk 13 (.tk 14 (.tk 15 (.o2 16 (.fin) (.nil))))) (.nil)) (.nil))))))))))))) (by kernel_rfl) (by kernel_rfl) _ (Za.refl _ _) ?_;simp -dsimp -implicitDefEqProofs (disch:=first|with_reducible assumption|omega) [go_sem,YK];refine Yn (.tk 0 (.tk 1 (.tk 2 (.tk 3 (.tk 4 (.tk 6 (.tk 7 (.tk 8 (.tk 9 (.tkl 5 (.tkl 10 (.o1 11 (.tk 12 (.tk 13 (.tk 14 (.o2 15 (.fin) (.nil))))) (.nil))))))))))))) (by kernel_rfl) (by kernel_rfl) _ (Za.refl _ _) ?_;simp -dsimp -implicitDefEqProofs (disch:=first|with_reducible assumption|omega) [go_sem,YK];refine Zae m.score p.recover us ur ?_
 first
 | refine xkp (Za.refl _ _) ?_
 | skip
 refine xx ?_;exact ZO hk
theorem Zsq (b:Nat)(p:Ze)(ok:Zj p)(m:Zb)(mo:Zf m)(mode:Int)(hb:h b=noC)(hk:K (.tuple #[]) (⟨b,362,[.int .u64 m.bal,.int .u64 m.eff,.int .u64 (Yvg p m mode),.int .i64 0]++Zbs p,28⟩::L) h) :
  Zc prog 294 [.pointer (some ⟨b,0,none⟩),.int .i64 mode] (⟨b,362,[.int .u64 m.bal,.int .u64 m.eff,.int .u64 m.score,.int .i64 m.streak]++Zbs p,28⟩::L) h K:=by
 have us:=mo.u m.score (by simp);have u1:=ok.w p.bias (by simp [YN]);have u2:=ok.w p.biasEm (by simp [YN]);have u3:=ok.w p.scoreCap (by simp [YN]);unfold Yvg at hk;simp only[List.cons_append,List.nil_append]at hk ⊢;refine ZS func294 rfl (rs:=[]) rfl rfl ZW (by kernel_rfl) rfl rfl ?_;refine xx ?_;by_cases c1:mode=3
 ·rw[if_pos c1]at hk;refine xx ?_;refine Yn (.tk 0 (.tk 1 (.tk 2 (.tk 3 (.tk 4 (.tk 6 (.tk 7 (.tk 8 (.tk 9 (.tk 11 (.tk 12 (.tk 13 (.tk 14 (.tkl 5 (.tkl 10 (.tkl 15 (.o1 16 (.tk 17 (.tk 18 (.tk 19 (.o2 20 (.fin) (.nil))))) (.nil)))))))))))))))))) (by kernel_rfl) (by kernel_rfl) _ (Za.refl _ _) ?_;refine xx ?_;refine Zfk m.score p.bias p.scoreCap us u1 u3 ?_
  first
  | refine xkp (Za.refl _ _) ?_
  | skip
  refine xx ?_;exact ZO hk
 ·rw[if_neg c1]at hk;by_cases c2:mode=4
  ·rw[if_pos c2]at hk;refine xx ?_;refine Yn (.tk 0 (.tk 1 (.tk 2 (.tk 3 (.tk 4 (.tk 6 (.tk 7 (.tk 8 (.tk 9 (.tk 11 (.tk 12 (.tk 13 (.tk 14 (.tkl 5 (.tkl 10 (.tkl 15 (.o1 16 (.tk 17 (.tk 18 (.tk 19 (.o2 20 (.fin) (.nil))))) (.nil)))))))))))))))))) (by kernel_rfl) (by kernel_rfl) _ (Za.refl _ _) ?_;refine xx ?_;refine Zfk m.score p.biasEm p.scoreCap us u2 u3 ?_
   first
   | refine xkp (Za.refl _ _) ?_
   | skip
   refine xx ?_;exact ZO hk
  ·rw[if_neg c2]at hk;refine xx ?_;exact ZO hk
theorem Zck (p:Ze)(ok:Zj p)(hr:YM p=true)(m:Zb)(mo:Zf m)(there:Bool)(mode:Int)(hk:K (Zqe (Vc p m there mode)) L h):Zc prog 195 [Ud p,Zqe m,.bool there,.int .i64 mode] L h K:=by
 refine ZS func195 rfl (rs:=[_]) rfl rfl ZW (by kernel_rfl) rfl rfl ?_;refine xx ?_;refine Z2 fun b1 nb1 zb1=>?_;(try simp only[ZT]at nb1);refine xx ?_;refine Z2 fun b2 nb2 zb2=>?_;(try simp only[ZT]at nb2);refine xx ?_;refine Z2 fun b3 nb3 zb3=>?_;(try simp only[ZT]at nb3);refine xx ?_;refine WS p ok ?_;rw[hr];refine xx ?_;refine Z2 fun b4 nb4 zb4=>?_;(try simp only[ZT]at nb4);refine xx ?_
 cases there with
 | true =>
  rw[Zxq]at hk;refine xx ?_;refine Zqo b4 p ok hr m mo zb4 ?_;refine xx ?_;exact ZP (ZP (ZP (ZP (ZO hk))))
 | false =>
  rw[Zrf]at hk;refine xx ?_;refine Zsq b4 p ok m mo mode zb4 ?_;refine xx ?_;exact ZP (ZP (ZP (ZP (ZO hk))))
end Go.X

/- Lemmas and contracts. Conditions: as each says. -/
import Derived.Test.YtllhopbilpdpkaaGreatQ17
import Derived.Test.YtllhopbilpdpkaaGreatQ18
set_option linter.unusedVariables false
set_option linter.unusedSimpArgs false
set_option maxHeartbeats 12800000
set_option maxRecDepth 20000
namespace Go.X
open Go.RowKit Go.Proofs Go.Bl Go.Proofs.Tryz
variable {L:Own} {h:PH} {K:PK}
theorem Zdn (x y:Int)(hx:0<=x/\x<=18446744073709551615)(hy:0<=y/\y<=18446744073709551615)(hk:K (.int .u64 (Wf x y)) L h):Zb prog 301 [.int .u64 x,.int .u64 y] L h K:=by
 unfold Wf at hk;refine ed func301 ?_;refine xx ?_;refine Zoz x y hx hy ?_;by_cases c:y<=x
 ·rw[if_pos c]at hk ⊢;refine xx ?_;exact ZP hk
 ·rw[if_neg c]at hk ⊢;refine xx ?_;exact ZP hk
theorem Zkj (x y m:Int)(hx:0<=x/\x<=18446744073709551615)(hy:0<=y/\y<=18446744073709551615)(hm:0<=m/\m<=18446744073709551615)(hk:K (.int .u64 (Gs x y m)) L h):Zb prog 354 [.int .u64 x,.int .u64 y,.int .u64 m] L h K:=by
 unfold Gs at hk;refine ed func354 ?_;refine xx ?_;refine WV x y hx hy ?_;by_cases c:x+y<=18446744073709551615
 ·rw[YR c];refine xx ?_;exact ZP hk
 ·rw[Wy c];rw[Int.min_eq_right qf]at hk;refine xx ?_;exact ZP hk
theorem Zkw (x y:Int)(hx:0<=x/\x<=18446744073709551615)(hy:0<=y)(hk:K (.tuple #[.int .u64 (min x y),.int .u64 (x-min x y)]) L h):Zb prog 300 [.int .u64 x,.int .u64 y] L h K:=by
 refine eF func300 ?_;refine xx ?_;exact ZP hk
theorem Zvs (p:Ze)(calm pr ac:Int)(hp:0<=pr/\pr<=18446744073709551615)(ha:0<=ac/\ac<=18446744073709551615)(hc : -9223372036854775808<=calm/\calm<=9223372036854775807)(hk:K (.tuple #[.int .i64 (Vo calm pr ac).1,.bool (Vo calm pr ac).2]) L h) :
  Zb prog 193 [WS p,.int .i64 calm,.int .u64 pr,.int .u64 ac] L h K:=by
 unfold Vo at hk;refine eF func193 ?_;refine xx ?_;refine ZY fun b1 nb1 zb1=>?_;(try simp only[ZS]at nb1);refine xx ?_;refine Yfh pr ac hp ha ?_;by_cases c:0<ac/\2*ac<3*pr
 ·rw[if_pos c]at hk;rw[show (decide (0<ac)&&decide (2*ac<3*pr))=true by simp [c.1,c.2]];refine xx ?_;exact ZO (ZP hk)
 ·rw[if_neg c]at hk;rw[show (decide (0<ac)&&decide (2*ac<3*pr))=false by simpa using c];refine xE ?_;exact ZO (ZP hk)
theorem Ykw (p:Ze)(calm:Int)(em:Bool)(hk:K (.int .i64 (Zuw p.delay calm em)) L h):Zb prog 194 [WS p,.int .i64 calm,.bool em] L h K:=by
 unfold Zuw at hk;refine ed func194 ?_;refine xx ?_;refine ZY fun b1 nb1 zb1=>?_;(try simp only[ZS]at nb1);refine xx ?_
 cases em with
 | true =>
  refine xx ?_;exact ZO (ZP hk)
 | false =>
  simp only[Bool.false_eq_true,if_false]at hk;by_cases c:p.delay<calm
  ·rw[if_pos c]at hk;refine xx ?_;exact ZO (ZP hk)
  ·rw[if_neg c]at hk;by_cases c2:0<calm
   ·rw[if_pos c2]at hk;refine xx ?_;exact ZO (ZP hk)
   ·rw[if_neg c2]at hk;refine xx ?_;exact ZO (ZP hk)
theorem Zul (calm pr ac:Int)(hp:0<=pr/\pr<=18446744073709551615)(ha:0<=ac/\ac<=18446744073709551615)(hc : -9223372036854775808<=calm/\calm<=9223372036854775807)(hk:∀h',PH.le h h'->K (.tuple #[.int .i64 (Vo calm pr ac).1,.bool (Vo calm pr ac).2]) L h') :
  Zb prog 231 [.int .i64 calm,.int .u64 pr,.int .u64 ac] L h K:=by
 unfold Vo at hk;refine eF func231 ?_;refine xx ?_;refine Ykc pr ac hp ha fun h1 le=>?_;have hk:=hk h1 le;by_cases c:0<ac/\2*ac<3*pr
 ·rw[if_pos c]at hk;rw[show (decide (0<ac)&&decide (2*ac<3*pr))=true by simp [c.1,c.2]];refine xx ?_;exact ZP hk
 ·rw[if_neg c]at hk;rw[show (decide (0<ac)&&decide (2*ac<3*pr))=false by simpa using c];by_cases c2:calm<0
  ·rw[show min (max calm 0) 1073741823+1=1 from qf]at hk;refine xx ?_;exact ZP hk
  ·by_cases c3:1073741824<=calm
   ·rw[show min (max calm 0) 1073741823+1=1073741824 from qf]at hk;refine xx ?_;exact ZP hk
   ·rw[show min (max calm 0) 1073741823+1=calm+1 from qf]at hk;refine xx ?_;exact ZP hk
theorem Yeq (delay calm:Int)(em:Bool)(hk:K (.int .i64 (Zuw delay calm em)) L h):Zb prog 232 [.int .i64 delay,.int .i64 calm,.bool em] L h K:=by
 unfold Zuw at hk;refine ed func232 ?_;refine xx ?_
 cases em with
 | true =>
  refine xx ?_;exact ZP hk
 | false =>
  simp only[Bool.false_eq_true,if_false]at hk;by_cases c:delay<calm
  ·rw[if_pos c]at hk;refine xx ?_;exact ZP hk
  ·rw[if_neg c]at hk;by_cases c2:0<calm
   ·rw[if_pos c2]at hk;refine xx ?_;exact ZP hk
   ·rw[if_neg c2]at hk;refine xx ?_;exact ZP hk
theorem Yc {p:Ze}(hr:Yo p=true):0<=p.ak/\p.ak<=64/\0<=p.aS/\p.aS<=1000/\0<=p.aJ/\p.aJ<=10000/\0<=p.aG/\p.aG<=10000/\1<=p.aK/\p.aK<=64/\0<=p.delay/\p.delay<=1000/\0<=p.wait/\p.wait<=50/\p.rate<=4294967296:=by
 simp only[Yo,We,Bool.and_eq_true,List.all_cons,List.all_nil,id,decide_eq_true_eq,wi_iff]at hr;omega
theorem Zpq {p:Ze}(hr:Yo p=true):1<=p.inc/\p.inc<=p.aF/\p.aF<=1099511627776/\p.cap<=1099511627776/\p.aF<=p.cap/\p.floor<p.cap/\p.inc<=p.floor/\1<=p.aQ/\p.aQ<=1099511627776/\1<=p.aH/\p.aH<=p.aQ/\p.aA<=72057594037927936:=by
 simp only[Yo,Wa,WB,Bool.and_eq_true,List.all_cons,List.all_nil,id,decide_eq_true_eq,wi_iff]at hr;omega
def Yot (p:Ze)(m:Zc):Int:=if max m.ak 0<p.ak then max m.ak 0+1 else p.ak
def Ypx (p:Ze)(m:Zc)(mode:Int):Int:=if mode=3 then Gs m.score p.aP p.aA else if mode=4 then Gs m.score p.aO p.aA else m.score
theorem Zmn (p:Ze)(m:Zc)(mode:Int):W8 p m true mode={ m with ak:=Yot p m,score:=Wf m.score p.recover }:=rfl
theorem Znu (p:Ze)(m:Zc)(mode:Int):W8 p m false mode={ m with ak:=0,score:=Ypx p m mode }:=rfl
theorem Zto (b:Nat)(p:Ze)(ok:Zj p)(hr:Yo p=true)(m:Zc)(mo:Zf m)(hb:h b=noC)(hk:K (.tuple #[]) (⟨b,362,[.int .u64 m.bal,.int .u64 m.eff,.int .u64 (Wf m.score p.recover),.int .i64 (Yot p m)]++Jj p,28⟩::L) h) :
  Zb prog 293 [.pointer (some ⟨b,0,none⟩)] (⟨b,362,[.int .u64 m.bal,.int .u64 m.eff,.int .u64 m.score,.int .i64 m.ak]++Jj p,28⟩::L) h K:=by
 have hs:=Yc hr;have us:=mo.u m.score qj;have un:=mo.n m.ak qj;have ur:=ok.w p.recover qB;have e:Yot p m=max 0 (min (min (max m.ak 0) (p.ak-1)+1) p.ak):=by unfold Yot;split<;>omega
 rw[e]at hk;simp only[List.cons_append,List.nil_append]at hk ⊢;refine UW func293 rfl (rs:=[]) rfl rfl G7 qg rfl rfl ?_;refine xE ?_;refine Z4 (.tk 0 (.tk 1 (.tk 2 (.tk 3 (.tk 4 (.tk 7 (.tk 8 (.tk 9 (.tk 10 (.tkl 5 (.tkl 11 (.tk 12 (.o1 6 (.o1 13 (.tk 14 (.tk 15 (.tk 16 (.tk 17 (.o2 18 (.fin) (.nil)))))) (.nil)) (.nil)))))))))))))) qg qg _ (Za.refl _ _) ?_;refine xE ?_;refine Z4 (.tk 0 (.tk 1 (.tk 2 (.tk 3 (.tk 4 (.tk 6 (.tk 7 (.tk 8 (.tk 9 (.tkl 5 (.tkl 10 (.o1 11 (.o1 12 (.tk 13 (.tk 14 (.tk 15 (.o2 16 (.fin) (.nil))))) (.nil)) (.nil))))))))))))) qg qg _ (Za.refl _ _) ?_;refine xE ?_;refine Z4 (.tk 0 (.tk 1 (.tk 2 (.tk 3 (.tk 4 (.tk 6 (.tk 7 (.tk 8 (.tk 9 (.tkl 5 (.tkl 10 (.o1 11 (.tk 12 (.tk 13 (.tk 14 (.o2 15 (.fin) (.nil))))) (.nil))))))))))))) qg qg _ (Za.refl _ _) ?_;refine xE ?_;refine Zdn m.score p.recover us ur ?_
 first
 | refine xkp (Za.refl _ _) ?_
 | skip
 refine xx ?_;exact ZP hk
theorem Zye (b:Nat)(p:Ze)(ok:Zj p)(m:Zc)(mo:Zf m)(mode:Int)(hb:h b=noC)(hk:K (.tuple #[]) (⟨b,362,[.int .u64 m.bal,.int .u64 m.eff,.int .u64 (Ypx p m mode),.int .i64 0]++Jj p,28⟩::L) h) :
  Zb prog 294 [.pointer (some ⟨b,0,none⟩),.int .i64 mode] (⟨b,362,[.int .u64 m.bal,.int .u64 m.eff,.int .u64 m.score,.int .i64 m.ak]++Jj p,28⟩::L) h K:=by
 have us:=mo.u m.score qj;have u1:=ok.w p.aP qB;have u2:=ok.w p.aO qB;have u3:=ok.w p.aA qB;unfold Ypx at hk;simp only[List.cons_append,List.nil_append]at hk ⊢;refine UW func294 rfl (rs:=[]) rfl rfl G7 qg rfl rfl ?_;refine xx ?_;by_cases c1:mode=3
 ·rw[if_pos c1]at hk;refine xx ?_;refine Z4 (.tk 0 (.tk 1 (.tk 2 (.tk 3 (.tk 4 (.tk 6 (.tk 7 (.tk 8 (.tk 9 (.tk 11 (.tk 12 (.tk 13 (.tk 14 (.tkl 5 (.tkl 10 (.tkl 15 (.o1 16 (.tk 17 (.tk 18 (.tk 19 (.o2 20 (.fin) (.nil))))) (.nil)))))))))))))))))) qg qg _ (Za.refl _ _) ?_;refine xx ?_;refine Zkj m.score p.aP p.aA us u1 u3 ?_
  first
  | refine xkp (Za.refl _ _) ?_
  | skip
  refine xx ?_;exact ZP hk
 ·rw[if_neg c1]at hk;by_cases c2:mode=4
  ·rw[if_pos c2]at hk;refine xx ?_;refine Z4 (.tk 0 (.tk 1 (.tk 2 (.tk 3 (.tk 4 (.tk 6 (.tk 7 (.tk 8 (.tk 9 (.tk 11 (.tk 12 (.tk 13 (.tk 14 (.tkl 5 (.tkl 10 (.tkl 15 (.o1 16 (.tk 17 (.tk 18 (.tk 19 (.o2 20 (.fin) (.nil))))) (.nil)))))))))))))))))) qg qg _ (Za.refl _ _) ?_;refine xx ?_;refine Zkj m.score p.aO p.aA us u2 u3 ?_
   first
   | refine xkp (Za.refl _ _) ?_
   | skip
   refine xx ?_;exact ZP hk
  ·rw[if_neg c2]at hk;refine xx ?_;exact ZP hk
theorem Zuy (p:Ze)(ok:Zj p)(hr:Yo p=true)(m:Zc)(mo:Zf m)(there:Bool)(mode:Int)(hk:K (Zdk (W8 p m there mode)) L h):Zb prog 195 [WS p,Zdk m,.bool there,.int .i64 mode] L h K:=by
 refine ed func195 ?_;refine xx ?_;refine ZY fun b1 nb1 zb1=>?_;(try simp only[ZS]at nb1);refine xx ?_;refine ZY fun b2 nb2 zb2=>?_;(try simp only[ZS]at nb2);refine xx ?_;refine ZY fun b3 nb3 zb3=>?_;(try simp only[ZS]at nb3);refine xx ?_;refine Vg p ok ?_;rw[hr];refine xx ?_;refine ZY fun b4 nb4 zb4=>?_;(try simp only[ZS]at nb4);refine xx ?_
 cases there with
 | true =>
  rw[Zmn]at hk;refine xx ?_;refine Zto b4 p ok hr m mo zb4 ?_;refine xx ?_;exact ZO (ZO (ZO (ZO (ZP hk))))
 | false =>
  rw[Znu]at hk;refine xx ?_;refine Zye b4 p ok m mo mode zb4 ?_;refine xx ?_;exact ZO (ZO (ZO (ZO (ZP hk))))
theorem Zep (a b m:Int)(ha:0<=a/\a<=18446744073709551615)(hb:0<=b/\b<=18446744073709551615)(hm:0<=m/\m<=18446744073709551615)(hk:K (.int .u64 (Gs a b m)) L h):Zb prog 328 [.int .u64 a,.int .u64 b,.int .u64 m] L h K:=by
 unfold Gs at hk;refine ed func328 ?_;by_cases c1:m<=a
 ·rw[Int.min_eq_right qf]at hk;refine xx ?_;exact ZP hk
 ·by_cases c2:m-a<=b
  ·rw[Int.min_eq_right qf]at hk;refine xx ?_;exact ZP hk
  ·rw[Int.min_eq_left qf]at hk;refine xx ?_;exact ZP hk
theorem Zlq (p:Ze)(ok:Zj p)(hr:Yo p=true)(m:Zc)(mo:Zf m)(there:Bool)(mode:Int)(hk:K (Zdk (W8 p m there mode)) L h):Zb prog 233 [WS p,Zdk m,.bool there,.int .i64 mode] L h K:=by
 have hs:=Yc hr;have us:=mo.u m.score qj;have un:=mo.n m.ak qj;have ur:=ok.w p.recover qB;have u1:=ok.w p.aP qB;have u2:=ok.w p.aO qB;have u3:=ok.w p.aA qB;refine ed func233 ?_;refine xx ?_;refine ZY fun b1 nb1 zb1=>?_;(try simp only[ZS]at nb1);refine xx ?_;refine ZY fun b2 nb2 zb2=>?_;(try simp only[ZS]at nb2);refine xx ?_;refine ZY fun b3 nb3 zb3=>?_;(try simp only[ZS]at nb3);refine xx ?_
 cases there with
 | true =>
  rw[Zmn]at hk;unfold Yot Wf at hk;by_cases c1:0<m.ak
  ·rw[Int.max_eq_left qf]at hk;by_cases c2:m.ak<p.ak
   ·rw[if_pos c2]at hk;by_cases c3:p.recover<m.score
    ·rw[if_pos qf]at hk;refine xx ?_;exact ZO (ZO (ZO (ZP hk)))
    ·rw[show (if p.recover<=m.score then m.score-p.recover else 0)=0 by split<;>omega]at hk;refine xx ?_;exact ZO (ZO (ZO (ZP hk)))
   ·rw[if_neg c2]at hk;by_cases c3:p.recover<m.score
    ·rw[if_pos qf]at hk;refine xx ?_;exact ZO (ZO (ZO (ZP hk)))
    ·rw[show (if p.recover<=m.score then m.score-p.recover else 0)=0 by split<;>omega]at hk;refine xx ?_;exact ZO (ZO (ZO (ZP hk)))
  ·rw[Int.max_eq_right qf]at hk;by_cases c2:0<p.ak
   ·rw[if_pos c2]at hk;by_cases c3:p.recover<m.score
    ·rw[if_pos qf]at hk;refine xx ?_;exact ZO (ZO (ZO (ZP hk)))
    ·rw[show (if p.recover<=m.score then m.score-p.recover else 0)=0 by split<;>omega]at hk;refine xx ?_;exact ZO (ZO (ZO (ZP hk)))
   ·rw[if_neg c2]at hk;by_cases c3:p.recover<m.score
    ·rw[if_pos qf]at hk;refine xx ?_;exact ZO (ZO (ZO (ZP hk)))
    ·rw[show (if p.recover<=m.score then m.score-p.recover else 0)=0 by split<;>omega]at hk;refine xx ?_;exact ZO (ZO (ZO (ZP hk)))
 | false =>
  rw[Znu]at hk;unfold Ypx at hk;by_cases c1:mode=3
  ·rw[if_pos c1]at hk;refine xx ?_;refine Zep m.score p.aP p.aA us u1 u3 ?_;refine xx ?_;exact ZO (ZO (ZO (ZP hk)))
  ·rw[if_neg c1]at hk;by_cases c2:mode=4
   ·rw[if_pos c2]at hk;refine xx ?_;refine Zep m.score p.aO p.aA us u2 u3 ?_;refine xx ?_;exact ZO (ZO (ZO (ZP hk)))
   ·rw[if_neg c2]at hk;refine xx ?_;exact ZO (ZO (ZO (ZP hk)))
end Go.X

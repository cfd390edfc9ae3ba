/- Lemmas and contracts for a statement about the given program. Conditions: as each says. -/
import Derived.Test.YtmmfajokfdaokaaGreatQ12
import Derived.Test.YtmmfajokfdaokaaGreatQ18
set_option linter.unusedVariables false
set_option linter.unusedSimpArgs false
set_option maxHeartbeats 12800000
set_option maxRecDepth 20000
namespace Go.X
open Go.RowKit Go.Proofs Go.Bl
variable {L:Own} {h:PH} {K:PK}
theorem mfall_any (x y:Int) (hx:0≤x∧x≤18446744073709551615) (hy:0≤y∧y≤18446744073709551615) (hk:K (.int .u64 (fallP x y)) L h):Spec Tryz.prog 256 [.int .u64 x,.int .u64 y] L h K:=by
 unfold fallP at hk
 refine x_enter Tryz.func256 rfl (rs:=[_]) rfl rfl mixed (by kernel_rfl) rfl rfl ?_
 refine xx ?_
 refine msub_any x y hx hy ?_
 by_cases c:y≤x
 ·rw [if_pos c] at hk ⊢
  refine xx ?_
  exact fin_here hk
 ·rw [if_neg c] at hk ⊢
  refine xx ?_
  exact fin_here hk
theorem mrise_any (x y m:Int) (hx:0≤x∧x≤18446744073709551615) (hy:0≤y∧y≤18446744073709551615) (hm:0≤m∧m≤18446744073709551615) (hk:K (.int .u64 (riseP x y m)) L h):Spec Tryz.prog 321 [.int .u64 x,.int .u64 y,.int .u64 m] L h K:=by
 unfold riseP at hk
 refine x_enter Tryz.func321 rfl (rs:=[_]) rfl rfl mixed (by kernel_rfl) rfl rfl ?_
 refine xx ?_
 refine madd_any x y hx hy ?_
 by_cases c:x+y≤18446744073709551615
 ·rw [sumV_ok c]
  refine xx ?_
  exact fin_here hk
 ·rw [sumV_no c]
  rw [Int.min_eq_right (by omega)] at hk
  refine xx ?_
  exact fin_here hk
theorem mtake_any (x y:Int) (hx:0≤x∧x≤18446744073709551615) (hy:0≤y) (hk:K (.tuple #[.int .u64 (min x y),.int .u64 (x-min x y)]) L h):Spec Tryz.prog 255 [.int .u64 x,.int .u64 y] L h K:=by
 refine x_enter Tryz.func255 rfl (rs:=[_,_]) rfl rfl mixed (by kernel_rfl) rfl rfl ?_
 refine xx ?_
 exact fin_here hk
theorem mstep_any (p:ParD) (calm pr ac:Int) (hp:0≤pr∧pr≤18446744073709551615) (ha:0≤ac∧ac≤18446744073709551615) (hc : -9223372036854775808≤calm∧calm≤9223372036854775807) (hk:K (.tuple #[.int .i64 (stepP calm pr ac).1,.bool (stepP calm pr ac).2]) L h) :
  Spec Tryz.prog 137 [parV p,.int .i64 calm,.int .u64 pr,.int .u64 ac] L h K:=by
 unfold stepP at hk
 refine x_enter Tryz.func137 rfl (rs:=[_,_]) rfl rfl mixed (by kernel_rfl) rfl rfl ?_
 refine xx ?_
 refine xnew fun b1 n_b1 h_b1=>?_
 try simp only [Apart] at n_b1
 refine xx ?_
 refine rtwo_any pr ac hp ha ?_
 by_cases c:0<ac∧2*ac<3*pr
 ·rw [if_pos c] at hk
  rw [show (decide (0<ac)&&decide (2*ac<3*pr))=true by simp [c.1,c.2]]
  refine xx ?_
  exact fin_tail (fin_here hk)
 ·rw [if_neg c] at hk
  rw [show (decide (0<ac)&&decide (2*ac<3*pr))=false by simpa using c]
  simp -dsimp -implicitDefEqProofs (disch:=first|with_reducible assumption|omega) [go_sem,xBuiltin_max]
  exact fin_tail (fin_here hk)
theorem mof_any (p:ParD) (calm:Int) (em:Bool) (hk:K (.int .i64 (modeP p.delay calm em)) L h):Spec Tryz.prog 138 [parV p,.int .i64 calm,.bool em] L h K:=by
 unfold modeP at hk
 refine x_enter Tryz.func138 rfl (rs:=[_]) rfl rfl mixed (by kernel_rfl) rfl rfl ?_
 refine xx ?_
 refine xnew fun b1 n_b1 h_b1=>?_
 try simp only [Apart] at n_b1
 refine xx ?_
 cases em with
 | true =>
  refine xx ?_
  exact fin_tail (fin_here hk)
 | false =>
  simp only [Bool.false_eq_true,if_false] at hk
  by_cases c:p.delay<calm
  ·rw [if_pos c] at hk
   refine xx ?_
   exact fin_tail (fin_here hk)
  ·rw [if_neg c] at hk
   by_cases c2:0<calm
   ·rw [if_pos c2] at hk
    refine xx ?_
    exact fin_tail (fin_here hk)
   ·rw [if_neg c2] at hk
    refine xx ?_
    exact fin_tail (fin_here hk)
theorem parR_streak {p:ParD} (hr:parR p=true):0≤p.streak∧p.streak≤64∧0≤p.boost∧p.boost≤1000∧0≤p.absent∧p.absent≤10000∧0≤p.burn∧p.burn≤10000∧1≤p.churn∧p.churn≤64∧0≤p.delay∧p.delay≤1000∧0≤p.wait∧p.wait≤50∧p.rate≤4294967296:=by
 simp only [parR,othersB,Bool.and_eq_true,List.all_cons,List.all_nil,id,decide_eq_true_eq,wi_iff] at hr
 omega
theorem parR_big {p:ParD} (hr:parR p=true):1≤p.inc∧p.inc≤p.maxEff∧p.maxEff≤1099511627776∧p.cap≤1099511627776∧p.maxEff≤p.cap∧p.floor<p.cap∧p.inc≤p.floor∧1≤p.quot∧p.quot≤1099511627776∧1≤p.quotEm∧p.quotEm≤p.quot∧p.scoreCap≤72057594037927936:=by
 simp only [parR,stakesB,scoresB,Bool.and_eq_true,List.all_cons,List.all_nil,id,decide_eq_true_eq,wi_iff] at hr
 omega
def strP (p:ParD) (m:MemD):Int:=if max m.streak 0<p.streak then max m.streak 0+1 else p.streak
def scoA (p:ParD) (m:MemD) (mode:Int):Int:=if mode=3 then riseP m.score p.bias p.scoreCap else if mode=4 then riseP m.score p.biasEm p.scoreCap else m.score
theorem after_t (p:ParD) (m:MemD) (mode:Int):afterM p m true mode={ m with streak:=strP p m,score:=fallP m.score p.recover }:=rfl
theorem after_f (p:ParD) (m:MemD) (mode:Int):afterM p m false mode={ m with streak:=0,score:=scoA p m mode }:=rfl
theorem cthere_any (b:Nat) (p:ParD) (ok:ParOk p) (hr:parR p=true) (m:MemD) (mo:MemOk m) (hb:h b=noC) (hk:K (.tuple #[]) (⟨b,327,[.int .u64 m.bal,.int .u64 m.eff,.int .u64 (fallP m.score p.recover),.int .i64 (strP p m)]++parC p,28⟩::L) h) :
  Spec Tryz.prog 246 [.pointer (some ⟨b,0,none⟩)] (⟨b,327,[.int .u64 m.bal,.int .u64 m.eff,.int .u64 m.score,.int .i64 m.streak]++parC p,28⟩::L) h K:=by
 have hs:=parR_streak hr
 have us:=mo.u m.score (by simp)
 have un:=mo.n m.streak (by simp)
 have ur:=ok.w p.recover (by simp [wides])
 have e:strP p m=max 0 (min (min (max m.streak 0) (p.streak-1)+1) p.streak):=by unfold strP; split<;>omega
 rw [e] at hk
 simp only [List.cons_append,List.nil_append] at hk ⊢
 refine x_enter Tryz.func246 rfl (rs:=[]) rfl rfl mixed (by kernel_rfl) rfl rfl ?_
 simp -dsimp -implicitDefEqProofs (disch:=first|with_reducible assumption|omega) [go_sem,xBuiltin_max]
 refine xanyl (.tk 0 (.tk 1 (.tk 2 (.tk 3 (.tk 4 (.tk 7 (.tk 8 (.tk 9 (.tk 10 (.tkl 5 (.tkl 11 (.tk 12 (.or true 6 (.or true 13 (.tk 14 (.tk 15 (.tk 16 (.tk 17 (.or false 18 (.fin) (.nil)))))) (.nil)) (.nil)))))))))))))) (by kernel_rfl) (by kernel_rfl) _ (Drop.refl _ _) ?_
 simp -dsimp -implicitDefEqProofs (disch:=first|with_reducible assumption|omega) [go_sem,xBuiltin_max]
 refine xanyl (.tk 0 (.tk 1 (.tk 2 (.tk 3 (.tk 4 (.tk 6 (.tk 7 (.tk 8 (.tk 9 (.tkl 5 (.tkl 10 (.or true 11 (.or true 12 (.tk 13 (.tk 14 (.tk 15 (.or false 16 (.fin) (.nil))))) (.nil)) (.nil))))))))))))) (by kernel_rfl) (by kernel_rfl) _ (Drop.refl _ _) ?_
 simp -dsimp -implicitDefEqProofs (disch:=first|with_reducible assumption|omega) [go_sem,xBuiltin_max]
 refine xanyl (.tk 0 (.tk 1 (.tk 2 (.tk 3 (.tk 4 (.tk 6 (.tk 7 (.tk 8 (.tk 9 (.tkl 5 (.tkl 10 (.or true 11 (.tk 12 (.tk 13 (.tk 14 (.or false 15 (.fin) (.nil))))) (.nil))))))))))))) (by kernel_rfl) (by kernel_rfl) _ (Drop.refl _ _) ?_
 simp -dsimp -implicitDefEqProofs (disch:=first|with_reducible assumption|omega) [go_sem,xBuiltin_max]
 refine mfall_any m.score p.recover us ur ?_
 first
 | refine xkp (Drop.refl _ _) ?_
 | skip
 refine xx ?_
 exact fin_here hk
theorem caway_any (b:Nat) (p:ParD) (ok:ParOk p) (m:MemD) (mo:MemOk m) (mode:Int) (hb:h b=noC) (hk:K (.tuple #[]) (⟨b,327,[.int .u64 m.bal,.int .u64 m.eff,.int .u64 (scoA p m mode),.int .i64 0]++parC p,28⟩::L) h) :
  Spec Tryz.prog 247 [.pointer (some ⟨b,0,none⟩),.int .i64 mode] (⟨b,327,[.int .u64 m.bal,.int .u64 m.eff,.int .u64 m.score,.int .i64 m.streak]++parC p,28⟩::L) h K:=by
 have us:=mo.u m.score (by simp)
 have u1:=ok.w p.bias (by simp [wides])
 have u2:=ok.w p.biasEm (by simp [wides])
 have u3:=ok.w p.scoreCap (by simp [wides])
 unfold scoA at hk
 simp only [List.cons_append,List.nil_append] at hk ⊢
 refine x_enter Tryz.func247 rfl (rs:=[]) rfl rfl mixed (by kernel_rfl) rfl rfl ?_
 refine xx ?_
 by_cases c1:mode=3
 ·rw [if_pos c1] at hk
  refine xx ?_
  refine xanyl (.tk 0 (.tk 1 (.tk 2 (.tk 3 (.tk 4 (.tk 6 (.tk 7 (.tk 8 (.tk 9 (.tk 11 (.tk 12 (.tk 13 (.tk 14 (.tkl 5 (.tkl 10 (.tkl 15 (.or true 16 (.tk 17 (.tk 18 (.tk 19 (.or false 20 (.fin) (.nil))))) (.nil)))))))))))))))))) (by kernel_rfl) (by kernel_rfl) _ (Drop.refl _ _) ?_
  refine xx ?_
  refine mrise_any m.score p.bias p.scoreCap us u1 u3 ?_
  first
  | refine xkp (Drop.refl _ _) ?_
  | skip
  refine xx ?_
  exact fin_here hk
 ·rw [if_neg c1] at hk
  by_cases c2:mode=4
  ·rw [if_pos c2] at hk
   refine xx ?_
   refine xanyl (.tk 0 (.tk 1 (.tk 2 (.tk 3 (.tk 4 (.tk 6 (.tk 7 (.tk 8 (.tk 9 (.tk 11 (.tk 12 (.tk 13 (.tk 14 (.tkl 5 (.tkl 10 (.tkl 15 (.or true 16 (.tk 17 (.tk 18 (.tk 19 (.or false 20 (.fin) (.nil))))) (.nil)))))))))))))))))) (by kernel_rfl) (by kernel_rfl) _ (Drop.refl _ _) ?_
   refine xx ?_
   refine mrise_any m.score p.biasEm p.scoreCap us u2 u3 ?_
   first
   | refine xkp (Drop.refl _ _) ?_
   | skip
   refine xx ?_
   exact fin_here hk
  ·rw [if_neg c2] at hk
   refine xx ?_
   exact fin_here hk
theorem safter_any (p:ParD) (ok:ParOk p) (hr:parR p=true) (m:MemD) (mo:MemOk m) (there:Bool) (mode:Int) (hk:K (stdV (afterM p m there mode)) L h):Spec Tryz.prog 141 [parV p,stdV m,.bool there,.int .i64 mode] L h K:=by
 refine x_enter Tryz.func141 rfl (rs:=[_]) rfl rfl mixed (by kernel_rfl) rfl rfl ?_
 refine xx ?_
 refine xnew fun b1 n_b1 h_b1=>?_
 try simp only [Apart] at n_b1
 refine xx ?_
 refine xnew fun b2 n_b2 h_b2=>?_
 try simp only [Apart] at n_b2
 refine xx ?_
 refine xnew fun b3 n_b3 h_b3=>?_
 try simp only [Apart] at n_b3
 refine xx ?_
 refine pcheck0 p ok ?_
 rw [hr]
 refine xx ?_
 refine xnew fun b4 n_b4 h_b4=>?_
 try simp only [Apart] at n_b4
 refine xx ?_
 cases there with
 | true =>
  rw [after_t] at hk
  refine xx ?_
  refine cthere_any b4 p ok hr m mo h_b4 ?_
  refine xx ?_
  exact fin_tail (fin_tail (fin_tail (fin_tail (fin_here hk))))
 | false =>
  rw [after_f] at hk
  refine xx ?_
  refine caway_any b4 p ok m mo mode h_b4 ?_
  refine xx ?_
  exact fin_tail (fin_tail (fin_tail (fin_tail (fin_here hk))))
end Go.X

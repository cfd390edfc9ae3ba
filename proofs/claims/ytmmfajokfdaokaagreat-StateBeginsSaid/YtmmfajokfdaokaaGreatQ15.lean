/- Lemmas and contracts for a statement about the given program. Conditions: as each says. -/
import Derived.Test.YtmmfajokfdaokaaGreatQ12
import Derived.Test.YtmmfajokfdaokaaGreatQ14
set_option linter.unusedVariables false
set_option linter.unusedSimpArgs false
set_option maxHeartbeats 12800000
set_option maxRecDepth 20000
namespace Go.X
open Go.RowKit Go.Proofs Go.Bl
variable {L:Own} {h:PH} {K:PK}
def wholeP (p:ParD) (b:Int):Int:=min (b-b%p.inc) p.maxEff
def farP (p:ParD) (e b:Int):Bool:=decide (b+p.down<e)||decide (e+p.up<b)
def nextP (p:ParD) (e b:Int):Int:=if farP p e b then wholeP p b else e
def gfitsP (p:ParD) (e b:Int):Bool:=decide (p.inc≤e)&&decide (e≤p.maxEff)&&decide (e%p.inc=0)&&decide (nextP p e b=e)
theorem inc_pos {p:ParD} (hr:parR p=true):1≤p.inc:=by
 simp only [parR,Bool.and_eq_true] at hr
 exact (stakesB_facts hr.1.1.1).1
theorem Spec.keep {P:Program} {f:FuncId} {args:List Value} {v:Value} (hs:Spec P f args L h fun v' L' h'=>v'=v∧L'=L∧PH.le h h') (hk:K v L h):Spec P f args L h K :=
 hs.forget.mono fun _ _ _ ⟨a,b,c⟩=>by subst a; subst b; subst c; exact hk
theorem pcheck0 (p:ParD) (ok:ParOk p) (hk:K (.int .i64 (if parR p then 0 else 70)) L h):Spec Tryz.prog 36 [parV p] L h K :=
 Spec.keep (pcheck_any p ok fun _ le=>⟨rfl,rfl,le⟩) hk
theorem scaled_any (p:ParD) (ok:ParOk p) (hk:K (.tuple #[parV p,.bool (parR p)]) L h):Spec Tryz.prog 233 [parV p] L h K:=by
 refine x_enter Tryz.func233 rfl (rs:=[_,_]) rfl rfl mixed (by kernel_rfl) rfl rfl ?_
 refine xx ?_
 refine xnew fun b1 n_b1 h_b1=>?_
 try simp only [Apart] at n_b1
 refine xx ?_
 refine xnew fun b2 n_b2 h_b2=>?_
 try simp only [Apart] at n_b2
 refine xx ?_
 refine xanyl (.tkl 0 (.tk 1 (.or true 2 (.or true 3 (.tk 4 (.or false 5 (.tk 6 (.fin)) (.nil))) (.nil)) (.nil)))) (by kernel_rfl) (by kernel_rfl) _ (Drop.refl _ _) ?_
 refine xx ?_
 refine pcheck0 p ok ?_
 refine xkp (Drop.refl _ _) ?_
 cases hr:parR p with
 | true =>
  rw [hr] at hk
  refine xx ?_
  exact fin_tail (fin_tail (fin_here hk))
 | false =>
  rw [hr] at hk
  refine xx ?_
  exact fin_tail (fin_tail (fin_here hk))
theorem whole_any (p:ParD) (b:Int) (h1:1≤p.inc) (hb:0≤b∧b≤18446744073709551615) (hk:K (.int .u64 (wholeP p b)) L h):Spec Tryz.prog 234 [parV p,.int .u64 b] L h K:=by
 unfold wholeP at hk
 have e1:=Int.emod_nonneg b (show p.inc≠0 by omega)
 have e2:b%p.inc≤b:=by
  rw [Int.emod_def]
  have:=Int.mul_nonneg (show 0≤p.inc by omega) (Int.ediv_nonneg hb.1 (show 0≤p.inc by omega))
  omega
 refine x_enter Tryz.func234 rfl (rs:=[_]) rfl rfl mixed (by kernel_rfl) rfl rfl ?_
 refine xx ?_
 refine xnew fun b1 n_b1 h_b1=>?_
 try simp only [Apart] at n_b1
 refine xx ?_
 refine xanyl (.tk 0 (.tk 1 (.tk 2 (.tk 3 (.tk 7 (.tk 8 (.tkl 4 (.tk 5 (.tk 6 (.tkl 9 (.or true 10 (.tk 11 (.fin)) (.nil)))))))))))) (by kernel_rfl) (by kernel_rfl) _ (Drop.refl _ _) ?_
 refine xx ?_
 exact fin_tail (fin_here hk)
theorem far_any (p:ParD) (ok:ParOk p) (e b:Int) (he:0≤e∧e≤18446744073709551615) (hb:0≤b∧b≤18446744073709551615) (hk:K (.bool (farP p e b)) L h):Spec Tryz.prog 338 [parV p,.int .u64 e,.int .u64 b] L h K:=by
 have u1:=ok.w p.down (by simp [wides])
 have u2:=ok.w p.up (by simp [wides])
 refine x_enter Tryz.func338 rfl (rs:=[_]) rfl rfl mixed (by kernel_rfl) rfl rfl ?_
 refine xx ?_
 refine xnew fun b1 n_b1 h_b1=>?_
 try simp only [Apart] at n_b1
 refine xx ?_
 refine madd_any _ _ hb u1 ?_
 by_cases c1:b+p.down≤18446744073709551615
 ·rw [sumV_ok c1]
  refine xx ?_
  refine madd_any _ _ he u2 ?_
  by_cases c2:e+p.up≤18446744073709551615
  ·rw [sumV_ok c2]
   by_cases c3:b+p.down<e
   ·refine xx ?_
    exact fin_tail (fin_here (by simpa [farP,c3] using hk))
   ·refine xx ?_
    exact fin_tail (fin_here (by simpa [farP,c3] using hk))
  ·rw [sumV_no c2]
   have c4:¬ e+p.up<b:=by omega
   by_cases c3:b+p.down<e
   ·refine xx ?_
    exact fin_tail (fin_here (by simpa [farP,c3,c4] using hk))
   ·refine xx ?_
    exact fin_tail (fin_here (by simpa [farP,c3,c4] using hk))
 ·rw [sumV_no c1]
  have c3:¬ b+p.down<e:=by omega
  refine xx ?_
  refine madd_any _ _ he u2 ?_
  by_cases c2:e+p.up≤18446744073709551615
  ·rw [sumV_ok c2]
   refine xx ?_
   exact fin_tail (fin_here (by simpa [farP,c3] using hk))
  ·rw [sumV_no c2]
   have c4:¬ e+p.up<b:=by omega
   refine xx ?_
   exact fin_tail (fin_here (by simpa [farP,c3,c4] using hk))
theorem next_any (p:ParD) (ok:ParOk p) (h1:1≤p.inc) (e b:Int) (he:0≤e∧e≤18446744073709551615) (hb:0≤b∧b≤18446744073709551615) (hk:K (.int .u64 (nextP p e b)) L h):Spec Tryz.prog 275 [parV p,.int .u64 e,.int .u64 b] L h K:=by
 refine x_enter Tryz.func275 rfl (rs:=[_]) rfl rfl mixed (by kernel_rfl) rfl rfl ?_
 refine xx ?_
 refine xnew fun b1 n_b1 h_b1=>?_
 try simp only [Apart] at n_b1
 refine xx ?_
 refine far_any p ok e b he hb ?_
 unfold nextP at hk
 cases c:farP p e b with
 | true =>
  rw [c] at hk
  refine xx ?_
  refine whole_any p b h1 hb ?_
  refine xx ?_
  exact fin_tail (fin_here (by simpa using hk))
 | false =>
  rw [c] at hk
  refine xx ?_
  exact fin_tail (fin_here (by simpa using hk))
theorem gfits_any (p:ParD) (ok:ParOk p) (e b:Int) (he:0≤e∧e≤18446744073709551615) (hb:0≤b∧b≤18446744073709551615) (hk:K (.bool (parR p&&gfitsP p e b)) L h):Spec Tryz.prog 167 [parV p,.int .u64 e,.int .u64 b] L h K:=by
 refine x_enter Tryz.func167 rfl (rs:=[_]) rfl rfl mixed (by kernel_rfl) rfl rfl ?_
 refine xx ?_
 refine xnew fun b1 n_b1 h_b1=>?_
 try simp only [Apart] at n_b1
 refine xx ?_
 refine scaled_any p ok ?_
 cases hr:parR p with
 | false =>
  rw [hr] at hk
  refine xx ?_
  refine xnew fun b2 n_b2 h_b2=>?_
  try simp only [Apart] at n_b2
  refine xx ?_
  exact fin_tail (fin_tail (fin_here (by simpa using hk)))
 | true =>
  have h1:=inc_pos hr
  rw [hr] at hk
  refine xx ?_
  refine xnew fun b2 n_b2 h_b2=>?_
  try simp only [Apart] at n_b2
  refine xx ?_
  by_cases c1:p.inc≤e
  ·by_cases c2:e≤p.maxEff
   ·by_cases c3:e%p.inc=0
    ·refine xx ?_
     refine next_any p ok h1 e b he hb ?_
     refine xx ?_
     exact fin_tail (fin_tail (fin_here (by simpa [gfitsP,c1,c2,c3] using hk)))
    ·refine xx ?_
     exact fin_tail (fin_tail (fin_here (by simpa [gfitsP,c1,c2,c3] using hk)))
   ·refine xx ?_
    exact fin_tail (fin_tail (fin_here (by simpa [gfitsP,c1,c2] using hk)))
  ·refine xx ?_
   exact fin_tail (fin_tail (fin_here (by simpa [gfitsP,c1] using hk)))
def trimM (p:ParD) (m:MemD):MemD:={ m with score:=min m.score p.scoreCap,streak:=min (max m.streak 0) p.streak }
abbrev stdV (m:MemD):Value := .agg #[.int .u64 m.bal,.int .u64 m.eff,.int .u64 m.score,.int .i64 m.streak]
abbrev memV (m:MemD):Value := .agg #[.int .u64 m.bal,.int .u64 m.eff,.int .u64 m.score,.int .i64 m.streak,.int .i64 m.owner,.int .i64 m.status]
theorem trimc_any (b:Nat) (p:ParD) (m:MemD) (hb:h b=noC) (hk:K (.tuple #[]) (⟨b,327,[.int .u64 m.bal,.int .u64 m.eff,.int .u64 (min m.score p.scoreCap),.int .i64 (min (max m.streak 0) p.streak)]++parC p,28⟩::L) h) :
  Spec Tryz.prog 274 [.pointer (some ⟨b,0,none⟩)] (⟨b,327,[.int .u64 m.bal,.int .u64 m.eff,.int .u64 m.score,.int .i64 m.streak]++parC p,28⟩::L) h K:=by
 simp only [List.cons_append,List.nil_append] at hk ⊢
 refine x_enter Tryz.func274 rfl (rs:=[]) rfl rfl mixed (by kernel_rfl) rfl rfl ?_
 refine xx ?_
 refine xanyl (.tk 0 (.tk 1 (.tk 2 (.tk 3 (.tk 4 (.tk 6 (.tk 7 (.tk 8 (.tk 9 (.tkl 5 (.tkl 10 (.or true 11 (.tk 12 (.tk 13 (.tk 14 (.or false 15 (.fin) (.nil))))) (.nil))))))))))))) (by kernel_rfl) (by kernel_rfl) _ (Drop.refl _ _) ?_
 refine xx ?_
 refine xanyl (.tk 0 (.tk 1 (.tk 2 (.tk 3 (.tk 4 (.tk 7 (.tk 8 (.tk 9 (.tk 10 (.tkl 5 (.tkl 11 (.or true 6 (.or true 12 (.tk 13 (.tk 14 (.tk 15 (.or false 16 (.fin) (.nil))))) (.nil)) (.nil))))))))))))) (by kernel_rfl) (by kernel_rfl) _ (Drop.refl _ _) ?_
 simp -dsimp -implicitDefEqProofs (disch:=first|with_reducible assumption|omega) [go_sem,xBuiltin_max]
 exact fin_here hk
theorem strim_any (p:ParD) (ok:ParOk p) (m:MemD) (hk:K (stdV (if parR p then trimM p m else m)) L h):Spec Tryz.prog 164 [parV p,stdV m] L h K:=by
 refine x_enter Tryz.func164 rfl (rs:=[_]) rfl rfl mixed (by kernel_rfl) rfl rfl ?_
 refine xx ?_
 refine xnew fun b1 n_b1 h_b1=>?_
 try simp only [Apart] at n_b1
 refine xx ?_
 refine xnew fun b2 n_b2 h_b2=>?_
 try simp only [Apart] at n_b2
 refine xx ?_
 refine xnew fun b3 n_b3 h_b3=>?_
 try simp only [Apart] at n_b3
 refine xx ?_
 refine pcheck0 p ok ?_
 cases hr:parR p with
 | false =>
  rw [hr] at hk
  refine xx ?_
  exact fin_tail (fin_tail (fin_tail (fin_here hk)))
 | true =>
  rw [hr] at hk
  refine xx ?_
  refine xnew fun b4 n_b4 h_b4=>?_
  try simp only [Apart] at n_b4
  refine xx ?_
  refine trimc_any b4 p m h_b4 ?_
  refine xx ?_
  exact fin_tail (fin_tail (fin_tail (fin_tail (fin_here hk))))
def shapeB (p:ParD) (m:MemD):Bool :=
 if m.status=2∨m.status=3 then decide (p.floor<m.bal)&&decide (m.bal≤p.cap)&&gfitsP p m.eff m.bal
 else if m.status=1 then decide (1≤m.bal)&&decide (m.bal≤p.cap)&&decide (m.eff=0)
 else if m.status=4∨m.status=5 then decide (m.bal=0)&&decide (m.eff=0) else false
theorem shape_any (p:ParD) (ok:ParOk p) (hr:parR p=true) (m:MemD) (mo:MemOk m) (hk:K (.bool (shapeB p m)) L h):Spec Tryz.prog 237 [memV m,parV p] L h K:=by
 have ub:0≤m.bal∧m.bal≤18446744073709551615:=mo.u _ (by simp)
 have ue:0≤m.eff∧m.eff≤18446744073709551615:=mo.u _ (by simp)
 unfold shapeB at hk
 refine x_enter Tryz.func237 rfl (rs:=[_]) rfl rfl mixed (by kernel_rfl) rfl rfl ?_
 refine xx ?_
 refine xnew fun b1 n_b1 h_b1=>?_
 try simp only [Apart] at n_b1
 refine xx ?_
 refine xnew fun b2 n_b2 h_b2=>?_
 try simp only [Apart] at n_b2
 refine xx ?_
 by_cases c0:m.status=2∨m.status=3
 ·rw [if_pos c0] at hk
  have key:∀ (X:Prop),(m.status=2→X)→(¬ m.status=2→m.status=3→X)→X:=fun X a b=>by
   by_cases e:m.status=2
   ·exact a e
   ·exact b e (by omega)
  refine key _ (fun e=>?_) (fun e e'=>?_) <;>
  ·refine xx ?_
   by_cases c1:p.floor<m.bal
   ·by_cases c2:m.bal≤p.cap
    ·refine xx ?_
     refine gfits_any p ok _ _ ue ub ?_
     refine xx ?_
     exact fin_tail (fin_tail (fin_here (by simpa [hr,c1,c2] using hk)))
    ·refine xx ?_
     exact fin_tail (fin_tail (fin_here (by simpa [c1,c2] using hk)))
   ·refine xx ?_
    exact fin_tail (fin_tail (fin_here (by simpa [c1] using hk)))
 ·rw [if_neg c0] at hk
  have e2:¬ m.status=2:=fun e=>c0 (.inl e)
  have e3:¬ m.status=3:=fun e=>c0 (.inr e)
  by_cases e1:m.status=1
  ·rw [if_pos e1] at hk
   refine xx ?_
   by_cases c1:1≤m.bal
   ·by_cases c2:m.bal≤p.cap
    ·refine xx ?_
     exact fin_tail (fin_tail (fin_here (by simpa [c1,c2] using hk)))
    ·refine xx ?_
     exact fin_tail (fin_tail (fin_here (by simpa [c1,c2] using hk)))
   ·refine xx ?_
    exact fin_tail (fin_tail (fin_here (by simpa [c1] using hk)))
  ·rw [if_neg e1] at hk
   by_cases e4:m.status=4
   ·rw [if_pos (Or.inl e4)] at hk
    refine xx ?_
    by_cases c1:m.bal=0
    ·refine xx ?_
     exact fin_tail (fin_tail (fin_here (by simpa [c1] using hk)))
    ·refine xx ?_
     exact fin_tail (fin_tail (fin_here (by simpa [c1] using hk)))
   ·by_cases e5:m.status=5
    ·rw [if_pos (Or.inr e5)] at hk
     refine xx ?_
     by_cases c1:m.bal=0
     ·refine xx ?_
      exact fin_tail (fin_tail (fin_here (by simpa [c1] using hk)))
     ·refine xx ?_
      exact fin_tail (fin_tail (fin_here (by simpa [c1] using hk)))
    ·rw [if_neg (by omega)] at hk
     refine xx ?_
     exact fin_tail (fin_tail (fin_here hk))
def stdL (m:MemD):List Int:=[m.bal,m.eff,m.score,m.streak]
theorem eqStd (m q:MemD) (x y:Operand) (K:Value→Prop) (t:Tok K):xBin Tryz.prog .eql 71 x y (stdV m) (stdV q) K t=K (.bool (decide (stdL m=stdL q))) :=
 xBin_eqints (T:=71) (ks:=[.u64,.u64,.u64,.i64]) (by kernel_rfl) (by kernel_rfl) (by kernel_rfl) (by kernel_rfl) (stdL m) (stdL q) rfl rfl x y K t
def mfitsB (p:ParD) (m:MemD):Bool:=decide (0≤m.owner)&&decide (m.owner<64)&&decide (stdL (trimM p m)=stdL m)&&shapeB p m
theorem mfits_any (p:ParD) (ok:ParOk p) (m:MemD) (mo:MemOk m) (hk:K (.bool (parR p&&mfitsB p m)) L h):Spec Tryz.prog 129 [parV p,memV m] L h K:=by
 refine x_enter Tryz.func129 rfl (rs:=[_]) rfl rfl mixed (by kernel_rfl) rfl rfl ?_
 refine xx ?_
 refine xnew fun b1 n_b1 h_b1=>?_
 try simp only [Apart] at n_b1
 refine xx ?_
 refine xnew fun b2 n_b2 h_b2=>?_
 try simp only [Apart] at n_b2
 refine xx ?_
 refine pcheck0 p ok ?_
 cases hr:parR p with
 | false =>
  rw [hr] at hk
  refine xx ?_
  exact fin_tail (fin_tail (fin_here (by simpa using hk)))
 | true =>
  rw [hr] at hk
  by_cases c1:m.owner<0
  ·refine xx ?_
   exact fin_tail (fin_tail (fin_here (by simpa [mfitsB,show ¬ 0≤m.owner by omega] using hk)))
  ·by_cases c2:64≤m.owner
   ·refine xx ?_
    exact fin_tail (fin_tail (fin_here (by simpa [mfitsB,show ¬ m.owner<64 by omega] using hk)))
   ·refine xx ?_
    refine xanyl (.tk 1 (.tk 4 (.tkl 0 (.tkl 2 (.tkl 5 (.or true 3 (.tk 6 (.tk 7 (.tkl 8 (.tk 9 (.tkl 10 (.or true 11 (.tk 12 (.tk 13 (.fin))) (.nil))))))) (.nil))))))) (by kernel_rfl) (by kernel_rfl) _ (Drop.refl _ _) ?_
    refine xx ?_
    refine strim_any p ok m ?_
    rw [if_pos hr]
    refine xkp (Drop.refl _ _) ?_
    simp -dsimp -implicitDefEqProofs (disch:=first|with_reducible assumption|omega) [go_sem,eqStd]
    have hf:mfitsB p m=(decide (stdL (trimM p m)=stdL m)&&shapeB p m):=by simp [mfitsB,show 0≤m.owner by omega,show m.owner<64 by omega]
    rw [hf] at hk
    cases hq:decide (stdL (trimM p m)=stdL m) with
    | false =>
     rw [hq] at hk
     refine xx ?_
     exact fin_tail (fin_tail (fin_here (by simpa using hk)))
    | true =>
     rw [hq] at hk
     refine xx ?_
     refine shape_any p ok hr m mo ?_
     refine xkp (Drop.refl _ _) ?_
     refine xx ?_
     exact fin_tail (fin_tail (fin_here (by simpa using hk)))
end Go.X

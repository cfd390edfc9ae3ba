/- Lemmas and contracts for a statement about the given program. Conditions: as each says. -/
import Derived.Test.YtmmfajokfdaokaaGreatQ12
import Derived.Test.YtmmfajokfdaokaaGreatQ13
set_option linter.unusedVariables false
set_option linter.unusedSimpArgs false
set_option maxHeartbeats 12800000
set_option maxRecDepth 20000
namespace Go.X
open Go.RowKit Go.Proofs Go.Bl
variable {L:Own} {h:PH} {K:PK}
def wholeP (p:ParD) (b:Int):Int:=min (b-b%p.inc) p.maxEff
def farP (p:ParD) (e b:Int):Bool:=decide (b+p.down<e)||decide (e+p.up<b)
def nextP (p:ParD) (e b:Int):Int:=if farP p e b then wholeP p b else e
def gfitsP (p:ParD) (e b:Int):Bool:=decide (p.inc≤e)&&decide (e≤p.maxEff)&&decide (e%p.inc=0)&&decide (nextP p e b=e)
theorem inc_pos {p:ParD} (hr:parR p=true):1≤p.inc:=by
 simp only [parR,Bool.and_eq_true] at hr
 exact (stakesB_facts hr.1.1.1).1
theorem Spec.keep {P:Program} {f:FuncId} {args:List Value} {v:Value} (hs:Spec P f args L h fun v' L' h'=>v'=v∧L'=L∧PH.le h h') (hk:K v L h):Spec P f args L h K :=
 hs.forget.mono fun _ _ _ ⟨a,b,c⟩=>by subst a; subst b; subst c; exact hk
theorem pcheck0 (p:ParD) (ok:ParOk p) (hk:K (.int .i64 (if parR p then 0 else 70)) L h):Spec Tryz.prog 36 [parV p] L h K :=
 Spec.keep (pcheck_any p ok fun _ le=>⟨rfl,rfl,le⟩) hk
theorem scaled_any (p:ParD) (ok:ParOk p) (hk:K (.tuple #[parV p,.bool (parR p)]) L h):Spec Tryz.prog 233 [parV p] L h K:=by
 refine x_enter Tryz.func233 rfl (rs:=[_,_]) rfl rfl mixed (by kernel_rfl) rfl rfl ?_
 refine xx ?_
 refine xnew fun b1 n_b1 h_b1=>?_
 try simp only [Apart] at n_b1
 refine xx ?_
 refine xnew fun b2 n_b2 h_b2=>?_
 try simp only [Apart] at n_b2
 refine xx ?_
 refine xanyl (.tkl 0 (.tk 1 (.or true 2 (.or true 3 (.tk 4 (.or false 5 (.tk 6 (.fin)) (.nil))) (.nil)) (.nil)))) (by kernel_rfl) (by kernel_rfl) _ (Drop.refl _ _) ?_
 refine xx ?_
 refine pcheck0 p ok ?_
 refine xkp (Drop.refl _ _) ?_
 cases hr:parR p with
 | true =>
  rw [hr] at hk
  refine xx ?_
  exact fin_tail (fin_tail (fin_here hk))
 | false =>
  rw [hr] at hk
  refine xx ?_
  exact fin_tail (fin_tail (fin_here hk))
theorem whole_any (p:ParD) (b:Int) (h1:1≤p.inc) (hb:0≤b∧b≤18446744073709551615) (hk:K (.int .u64 (wholeP p b)) L h):Spec Tryz.prog 234 [parV p,.int .u64 b] L h K:=by
 unfold wholeP at hk
 have e1:=Int.emod_nonneg b (show p.inc≠0 by omega)
 have e2:b%p.inc≤b:=by
  rw [Int.emod_def]
  have:=Int.mul_nonneg (show 0≤p.inc by omega) (Int.ediv_nonneg hb.1 (show 0≤p.inc by omega))
  omega
 refine x_enter Tryz.func234 rfl (rs:=[_]) rfl rfl mixed (by kernel_rfl) rfl rfl ?_
 refine xx ?_
 refine xnew fun b1 n_b1 h_b1=>?_
 try simp only [Apart] at n_b1
 refine xx ?_
 refine xanyl (.tk 0 (.tk 1 (.tk 2 (.tk 3 (.tk 7 (.tk 8 (.tkl 4 (.tk 5 (.tk 6 (.tkl 9 (.or true 10 (.tk 11 (.fin)) (.nil)))))))))))) (by kernel_rfl) (by kernel_rfl) _ (Drop.refl _ _) ?_
 refine xx ?_
 exact fin_tail (fin_here hk)
theorem far_any (p:ParD) (ok:ParOk p) (e b:Int) (he:0≤e∧e≤18446744073709551615) (hb:0≤b∧b≤18446744073709551615) (hk:K (.bool (farP p e b)) L h):Spec Tryz.prog 338 [parV p,.int .u64 e,.int .u64 b] L h K:=by
 have u1:=ok.w p.down (by simp [wides])
 have u2:=ok.w p.up (by simp [wides])
 refine x_enter Tryz.func338 rfl (rs:=[_]) rfl rfl mixed (by kernel_rfl) rfl rfl ?_
 refine xx ?_
 refine xnew fun b1 n_b1 h_b1=>?_
 try simp only [Apart] at n_b1
 refine xx ?_
 refine madd_any _ _ hb u1 ?_
 by_cases c1:b+p.down≤18446744073709551615
 ·rw [sumV_ok c1]
  refine xx ?_
  refine madd_any _ _ he u2 ?_
  by_cases c2:e+p.up≤18446744073709551615
  ·rw [sumV_ok c2]
   by_cases c3:b+p.down<e
   ·refine xx ?_
    exact fin_tail (fin_here (by simpa [farP,c3] using hk))
   ·refine xx ?_
    exact fin_tail (fin_here (by simpa [farP,c3] using hk))
  ·rw [sumV_no c2]
   have c4:¬ e+p.up<b:=by omega
   by_cases c3:b+p.down<e
   ·refine xx ?_
    exact fin_tail (fin_here (by simpa [farP,c3,c4] using hk))
   ·refine xx ?_
    exact fin_tail (fin_here (by simpa [farP,c3,c4] using hk))
 ·rw [sumV_no c1]
  have c3:¬ b+p.down<e:=by omega
  refine xx ?_
  refine madd_any _ _ he u2 ?_
  by_cases c2:e+p.up≤18446744073709551615
  ·rw [sumV_ok c2]
   refine xx ?_
   exact fin_tail (fin_here (by simpa [farP,c3] using hk))
  ·rw [sumV_no c2]
   have c4:¬ e+p.up<b:=by omega
   refine xx ?_
   exact fin_tail (fin_here (by simpa [farP,c3,c4] using hk))
theorem next_any (p:ParD) (ok:ParOk p) (h1:1≤p.inc) (e b:Int) (he:0≤e∧e≤18446744073709551615) (hb:0≤b∧b≤18446744073709551615) (hk:K (.int .u64 (nextP p e b)) L h):Spec Tryz.prog 275 [parV p,.int .u64 e,.int .u64 b] L h K:=by
 refine x_enter Tryz.func275 rfl (rs:=[_]) rfl rfl mixed (by kernel_rfl) rfl rfl ?_
 refine xx ?_
 refine xnew fun b1 n_b1 h_b1=>?_
 try simp only [Apart] at n_b1
 refine xx ?_
 refine far_any p ok e b he hb ?_
 unfold nextP at hk
 cases c:farP p e b with
 | true =>
  rw [c] at hk
  refine xx ?_
  refine whole_any p b h1 hb ?_
  refine xx ?_
  exact fin_tail (fin_here (by simpa using hk))
 | false =>
  rw [c] at hk
  refine xx ?_
  exact fin_tail (fin_here (by simpa using hk))
theorem gfits_any (p:ParD) (ok:ParOk p) (e b:Int) (he:0≤e∧e≤18446744073709551615) (hb:0≤b∧b≤18446744073709551615) (hk:K (.bool (parR p&&gfitsP p e b)) L h):Spec Tryz.prog 167 [parV p,.int .u64 e,.int .u64 b] L h K:=by
 refine x_enter Tryz.func167 rfl (rs:=[_]) rfl rfl mixed (by kernel_rfl) rfl rfl ?_
 refine xx ?_
 refine xnew fun b1 n_b1 h_b1=>?_
 try simp only [Apart] at n_b1
 refine xx ?_
 refine scaled_any p ok ?_
 cases hr:parR p with
 | false =>
  rw [hr] at hk
  refine xx ?_
  refine xnew fun b2 n_b2 h_b2=>?_
  try simp only [Apart] at n_b2
  refine xx ?_
  exact fin_tail (fin_tail (fin_here (by simpa using hk)))
 | true =>
  have h1:=inc_pos hr
  rw [hr] at hk
  refine xx ?_
  refine xnew fun b2 n_b2 h_b2=>?_
  try simp only [Apart] at n_b2
  refine xx ?_
  by_cases c1:p.inc≤e
  ·by_cases c2:e≤p.maxEff
   ·by_cases c3:e%p.inc=0
    ·refine xx ?_
     refine next_any p ok h1 e b he hb ?_
     refine xx ?_
     exact fin_tail (fin_tail (fin_here (by simpa [gfitsP,c1,c2,c3] using hk)))
    ·refine xx ?_
     exact fin_tail (fin_tail (fin_here (by simpa [gfitsP,c1,c2,c3] using hk)))
   ·refine xx ?_
    exact fin_tail (fin_tail (fin_here (by simpa [gfitsP,c1,c2] using hk)))
  ·refine xx ?_
   exact fin_tail (fin_tail (fin_here (by simpa [gfitsP,c1] using hk)))
def trimM (p:ParD) (m:MemD):MemD:={ m with score:=min m.score p.scoreCap,streak:=min (max m.streak 0) p.streak }
abbrev stdV (m:MemD):Value := .agg #[.int .u64 m.bal,.int .u64 m.eff,.int .u64 m.score,.int .i64 m.streak]
abbrev memV (m:MemD):Value := .agg #[.int .u64 m.bal,.int .u64 m.eff,.int .u64 m.score,.int .i64 m.streak,.int .i64 m.owner,.int .i64 m.status]
theorem trimc_any (b:Nat) (p:ParD) (m:MemD) (hb:h b=noC) (hk:K (.tuple #[]) (⟨b,327,[.int .u64 m.bal,.int .u64 m.eff,.int .u64 (min m.score p.scoreCap),.int .i64 (min (max m.streak 0) p.streak)]++parC p,28⟩::L) h) :
  Spec Tryz.prog 274 [.pointer (some ⟨b,0,none⟩)] (⟨b,327,[.int .u64 m.bal,.int .u64 m.eff,.int .u64 m.score,.int .i64 m.streak]++parC p,28⟩::L) h K:=by
 simp only [List.cons_append,List.nil_append] at hk ⊢
 refine x_enter Tryz.func274 rfl (rs:=[]) rfl rfl mixed (by kernel_rfl) rfl rfl ?_
 refine xx ?_
 refine xanyl (.tk 0 (.tk 1 (.tk 2 (.tk 3 (.tk 4 (.tk 6 (.tk 7 (.tk 8 (.tk 9 (.tkl 5 (.tkl 10 (.or true 11 (.tk 12 (.tk 13 (.tk 14 (.or false 15 (.fin) (.nil))))) (.nil))))))))))))) (by kernel_rfl) (by kernel_rfl) _ (Drop.refl _ _) ?_
 refine xx ?_
 refine xanyl (.tk 0 (.tk 1 (.tk 2 (.tk 3 (.tk 4 (.tk 7 (.tk 8 (.tk 9 (.tk 10 (.tkl 5 (.tkl 11 (.or true 6 (.or true 12 (.tk 13 (.tk 14 (.tk 15 (.or false 16 (.fin) (.nil))))) (.nil)) (.nil))))))))))))) (by kernel_rfl) (by kernel_rfl) _ (Drop.refl _ _) ?_
 simp -dsimp -implicitDefEqProofs (disch:=first|with_reducible assumption|omega) [go_sem,xBuiltin_max]
 exact fin_here hk
theorem strim_any (p:ParD) (ok:ParOk p) (m:MemD) (hk:K (stdV (if parR p then trimM p m else m)) L h):Spec Tryz.prog 164 [parV p,stdV m] L h K:=by
 refine x_enter Tryz.func164 rfl (rs:=[_]) rfl rfl mixed (by kernel_rfl) rfl rfl ?_
 refine xx ?_
 refine xnew fun b1 n_b1 h_b1=>?_
 try simp only [Apart] at n_b1
 refine xx ?_
 refine xnew fun b2 n_b2 h_b2=>?_
 try simp only [Apart] at n_b2
 refine xx ?_
 refine xnew fun b3 n_b3 h_b3=>?_
 try simp only [Apart] at n_b3
 refine xx ?_
 refine pcheck0 p ok ?_
 cases hr:parR p with
 | false =>
  rw [hr] at hk
  refine xx ?_
  exact fin_tail (fin_tail (fin_tail (fin_here hk)))
 | true =>
  rw [hr] at hk
  refine xx ?_
  refine xnew fun b4 n_b4 h_b4=>?_
  try simp only [Apart] at n_b4
  refine xx ?_
  refine trimc_any b4 p m h_b4 ?_
  refine xx ?_
  exact fin_tail (fin_tail (fin_tail (fin_tail (fin_here hk))))
def shapeB (p:ParD) (m:MemD):Bool :=
 if m.status=2∨m.status=3 then decide (p.floor<m.bal)&&decide (m.bal≤p.cap)&&gfitsP p m.eff m.bal
 else if m.status=1 then decide (1≤m.bal)&&decide (m.bal≤p.cap)&&decide (m.eff=0)
 else if m.status=4∨m.status=5 then decide (m.bal=0)&&decide (m.eff=0) else false
theorem shape_any (p:ParD) (ok:ParOk p) (hr:parR p=true) (m:MemD) (mo:MemOk m) (hk:K (.bool (shapeB p m)) L h):Spec Tryz.prog 237 [memV m,parV p] L h K:=by
 have ub:0≤m.bal∧m.bal≤18446744073709551615:=mo.u _ (by simp)
 have ue:0≤m.eff∧m.eff≤18446744073709551615:=mo.u _ (by simp)
 unfold shapeB at hk
 refine x_enter Tryz.func237 rfl (rs:=[_]) rfl rfl mixed (by kernel_rfl) rfl rfl ?_
 refine xx ?_
 refine xnew fun b1 n_b1 h_b1=>?_
 try simp only [Apart] at n_b1
 refine xx ?_
 refine xnew fun b2 n_b2 h_b2=>?_
 try simp only [Apart] at n_b2
 refine xx ?_
 by_cases c0:m.status=2∨m.status=3
 ·rw [if_pos c0] at hk
  have key:∀ (X:Prop),(m.status=2→X)→(¬ m.status=2→m.status=3→X)→X:=fun X a b=>by
   by_cases e:m.status=2
   ·exact a e
   ·exact b e (by omega)
  refine key _ (fun e=>?_) (fun e e'=>?_) <;>
  ·refine xx ?_
   by_cases c1:p.floor<m.bal
   ·by_cases c2:m.bal≤p.cap
    ·refine xx ?_
     refine gfits_any p ok _ _ ue ub ?_
     refine xx ?_
     exact fin_tail (fin_tail (fin_here (by simpa [hr,c1,c2] using hk)))
    ·refine xx ?_
     exact fin_tail (fin_tail (fin_here (by simpa [c1,c2] using hk)))
   ·refine xx ?_
    exact fin_tail (fin_tail (fin_here (by simpa [c1] using hk)))
 ·rw [if_neg c0] at hk
  have e2:¬ m.status=2:=fun e=>c0 (.inl e)
  have e3:¬ m.status=3:=fun e=>c0 (.inr e)
  by_cases e1:m.status=1
  ·rw [if_pos e1] at hk
   refine xx ?_
   by_cases c1:1≤m.bal
   ·by_cases c2:m.bal≤p.cap
    ·refine xx ?_
     exact fin_tail (fin_tail (fin_here (by simpa [c1,c2] using hk)))
    ·refine xx ?_
     exact fin_tail (fin_tail (fin_here (by simpa [c1,c2] using hk)))
   ·refine xx ?_
    exact fin_tail (fin_tail (fin_here (by simpa [c1] using hk)))
  ·rw [if_neg e1] at hk
   by_cases e4:m.status=4
   ·rw [if_pos (Or.inl e4)] at hk
    refine xx ?_
    by_cases c1:m.bal=0
    ·refine xx ?_
     exact fin_tail (fin_tail (fin_here (by simpa [c1] using hk)))
    ·refine xx ?_
     exact fin_tail (fin_tail (fin_here (by simpa [c1] using hk)))
   ·by_cases e5:m.status=5
    ·rw [if_pos (Or.inr e5)] at hk
     refine xx ?_
     by_cases c1:m.bal=0
     ·refine xx ?_
      exact fin_tail (fin_tail (fin_here (by simpa [c1] using hk)))
     ·refine xx ?_
      exact fin_tail (fin_tail (fin_here (by simpa [c1] using hk)))
    ·rw [if_neg (by omega)] at hk
     refine xx ?_
     exact fin_tail (fin_tail (fin_here hk))
def stdL (m:MemD):List Int:=[m.bal,m.eff,m.score,m.streak]
theorem eqStd (m q:MemD) (x y:Operand) (K:Value→Prop) (t:Tok K):xBin Tryz.prog .eql 71 x y (stdV m) (stdV q) K t=K (.bool (decide (stdL m=stdL q))) :=
 xBin_eqints (T:=71) (ks:=[.u64,.u64,.u64,.i64]) (by kernel_rfl) (by kernel_rfl) (by kernel_rfl) (by kernel_rfl) (stdL m) (stdL q) rfl rfl x y K t
def mfitsB (p:ParD) (m:MemD):Bool:=decide (0≤m.owner)&&decide (m.owner<64)&&decide (stdL (trimM p m)=stdL m)&&shapeB p m
theorem mfits_any (p:ParD) (ok:ParOk p) (m:MemD) (mo:MemOk m) (hk:K (.bool (parR p&&mfitsB p m)) L h):Spec Tryz.prog 129 [parV p,memV m] L h K:=by
 refine x_enter Tryz.func129 rfl (rs:=[_]) rfl rfl mixed (by kernel_rfl) rfl rfl ?_
 refine xx ?_
 refine xnew fun b1 n_b1 h_b1=>?_
 try simp only [Apart] at n_b1
 refine xx ?_
 refine xnew fun b2 n_b2 h_b2=>?_
 try simp only [Apart] at n_b2
 refine xx ?_
 refine pcheck0 p ok ?_
 cases hr:parR p with
 | false =>
  rw [hr] at hk
  refine xx ?_
  exact fin_tail (fin_tail (fin_here (by simpa using hk)))
 | true =>
  rw [hr] at hk
  by_cases c1:m.owner<0
  ·refine xx ?_
   exact fin_tail (fin_tail (fin_here (by simpa [mfitsB,show ¬ 0≤m.owner by omega] using hk)))
  ·by_cases c2:64≤m.owner
   ·refine xx ?_
    exact fin_tail (fin_tail (fin_here (by simpa [mfitsB,show ¬ m.owner<64 by omega] using hk)))
   ·refine xx ?_
    refine xanyl (.tk 1 (.tk 4 (.tkl 0 (.tkl 2 (.tkl 5 (.or true 3 (.tk 6 (.tk 7 (.tkl 8 (.tk 9 (.tkl 10 (.or true 11 (.tk 12 (.tk 13 (.fin))) (.nil))))))) (.nil))))))) (by kernel_rfl) (by kernel_rfl) _ (Drop.refl _ _) ?_
    refine xx ?_
    refine strim_any p ok m ?_
    rw [if_pos hr]
    refine xkp (Drop.refl _ _) ?_
    simp -dsimp -implicitDefEqProofs (disch:=first|with_reducible assumption|omega) [go_sem,eqStd]
    have hf:mfitsB p m=(decide (stdL (trimM p m)=stdL m)&&shapeB p m):=by simp [mfitsB,show 0≤m.owner by omega,show m.owner<64 by omega]
    rw [hf] at hk
    cases hq:decide (stdL (trimM p m)=stdL m) with
    | false =>
     rw [hq] at hk
     refine xx ?_
     exact fin_tail (fin_tail (fin_here (by simpa using hk)))
    | true =>
     rw [hq] at hk
     refine xx ?_
     refine shape_any p ok hr m mo ?_
     refine xkp (Drop.refl _ _) ?_
     refine xx ?_
     exact fin_tail (fin_tail (fin_here (by simpa using hk)))
theorem all_gr {α:Type} (z:α) (q:α→Bool) (l:List α) (hq:∀ j,j<l.length→q (gr z l j)=true):l.all q=true:=by
 rw [List.all_eq_true]
 intro x hx
 obtain ⟨j,hj,rfl⟩:=List.mem_iff_getElem.1 hx
 have:=hq j hj
 rwa [gr_lt hj] at this
theorem not_all_gr {α:Type} (z:α) (q:α→Bool) (l:List α) {k:Nat} (hk:k<l.length) (hq:q (gr z l k)=false):l.all q=false:=by
 rw [List.all_eq_false]
 rw [gr_lt hk] at hq
 exact ⟨l[k],List.getElem_mem hk,by simp [hq]⟩
theorem all_at (q:Int→Bool) (l:List Int) (hq:∀ j,j<l.length→q (at0 l j)=true):l.all q=true:=all_gr 0 q l hq
theorem not_all_at (q:Int→Bool) (l:List Int) {k:Nat} (hk:k<l.length) (hq:q (at0 l k)=false):l.all q=false:=not_all_gr 0 q l hk hq
theorem IsSt.slices {v:SV} {s:StD} (hs:IsSt h v s):∃ pa pc ma mc ea ec xa xc oa oc da dc ta tc ka kc ra rc,
  v=⟨.slice pa s.purses.length pc,.slice ma s.members.length mc,.slice ea s.entry.length ec,.slice xa s.exit.length xc,.slice oa s.pool.length oc,.slice da s.dues.length dc,.slice ta s.motions.length tc,.slice ka s.marks.length kc,.slice ra s.ring.length rc⟩:=by
 obtain ⟨pa,pc,hp,_⟩:=hs.p.open
 obtain ⟨ma,mc,hm,_⟩:=hs.m.open
 obtain ⟨ea,ec,he,_⟩:=hs.e.open
 obtain ⟨xa,xc,hx,_⟩:=hs.x.open
 obtain ⟨oa,oc,ho,_⟩:=hs.o.open
 obtain ⟨da,dc,hd,_⟩:=hs.d.open
 obtain ⟨q,t1,t2,_⟩:=hs.t
 obtain ⟨ta,tc,ht,_⟩:=t1.open
 obtain ⟨ka,kc,hk,_⟩:=hs.k.open
 obtain ⟨r,r1,r2⟩:=hs.r
 obtain ⟨ra,rc,hr,_⟩:=r1.open
 refine ⟨pa,pc,ma,mc,ea,ec,xa,xc,oa,oc,da,dc,ta,tc,ka,kc,ra,rc,?_⟩
 rw [← t2,← r2,List.length_map,xsL_len]
 obtain ⟨vp,vm,ve,vx,vo,vd,vt,vk,vr⟩:=v
 simp only at hp hm he hx ho hd ht hk hr
 subst hp hm he hx ho hd ht hk hr
 rfl
theorem swi_any (n lo hi:Int) (hk:K (.bool (wi n lo hi)) L h):Spec Tryz.prog 37 [.int .i64 n,.int .i64 lo,.int .i64 hi] L h K:=by
 unfold wi at hk
 refine x_enter Tryz.func37 rfl (rs:=[_]) rfl rfl mixed (by kernel_rfl) rfl rfl ?_
 refine xx ?_
 by_cases c:lo≤n
 ·refine xx ?_
  exact fin_here (by simpa [c] using hk)
 ·refine xx ?_
  exact fin_here (by simpa [c] using hk)
theorem mwi_any (n lo hi:Int) (hk:K (.bool (wi n lo hi)) L h):Spec Tryz.prog 240 [.int .i64 n,.int .i64 lo,.int .i64 hi] L h K:=by
 unfold wi at hk
 refine x_enter Tryz.func240 rfl (rs:=[_]) rfl rfl mixed (by kernel_rfl) rfl rfl ?_
 refine xx ?_
 by_cases c:lo≤n
 ·refine xx ?_
  exact fin_here (by simpa [c] using hk)
 ·refine xx ?_
  exact fin_here (by simpa [c] using hk)
theorem pwi_any (n lo hi:Int) (hk:K (.bool (wi n lo hi)) L h):Spec Tryz.prog 239 [.int .i64 n,.int .i64 lo,.int .i64 hi] L h K:=by
 unfold wi at hk
 refine x_enter Tryz.func239 rfl (rs:=[_]) rfl rfl mixed (by kernel_rfl) rfl rfl ?_
 refine xx ?_
 by_cases c:lo≤n
 ·refine xx ?_
  exact fin_here (by simpa [c] using hk)
 ·refine xx ?_
  exact fin_here (by simpa [c] using hk)
def acctB (s:StD) (i:Int):Bool:=wi i 0 ((s.purses.length:Int)-1)
theorem account_any {s:StD} (v:SV) (hs:IsSt h v s) (few:FewS s) (i:Int) (hk:K (.bool (acctB s i)) L h):Spec Tryz.prog 130 [stV s v,.int .i64 i] L h K:=by
 obtain ⟨pa,pc,hp,_⟩:=hs.p.open
 have fp:=few.p
 unfold acctB at hk
 refine x_enter Tryz.func130 rfl (rs:=[_]) rfl rfl mixed (by kernel_rfl) rfl rfl ?_
 refine xx ?_
 refine xnew fun b1 n_b1 h_b1=>?_
 try simp only [Apart] at n_b1
 simp -dsimp -implicitDefEqProofs (disch:=first|with_reducible assumption|omega) [go_sem,hp]
 refine swi_any _ _ _ ?_
 refine xx ?_
 exact fin_tail (fin_here hk)
def pursesB (s:StD):Bool:=wi s.purses.length 1 64&&s.purses.all fun z=>decide (z≤4611686018427387904)
theorem purses_any {s:StD} (v:SV) (hs:IsSt h v s) (few:FewS s) (hk:K (.bool (pursesB s)) L h):Spec Tryz.prog 59 [stV s v] L h K:=by
 have hw:=hs.p.word
 obtain ⟨pa,pc,hp,hc,hl,_,hcs⟩:=hs.p.open
 have fp:=few.p
 unfold pursesB at hk
 refine x_enter Tryz.func59 rfl (rs:=[_]) rfl rfl mixed (by kernel_rfl) rfl rfl ?_
 refine xx ?_
 refine xnew fun b1 n_b1 h_b1=>?_
 try simp only [Apart] at n_b1
 simp -dsimp -implicitDefEqProofs (disch:=first|with_reducible assumption|omega) [go_sem,hp]
 refine swi_any _ _ _ ?_
 cases hq:wi s.purses.length 1 64 with
 | false =>
  rw [hq] at hk
  refine xx ?_
  exact fin_tail (fin_here (by simpa using hk))
 | true =>
  rw [hq,Bool.true_and] at hk
  simp -dsimp -implicitDefEqProofs (disch:=first|with_reducible assumption|omega) [go_sem,hp]
  refine xloop (0:Nat) (fun k=>k≤s.purses.length∧∀ j,j<k→at0 s.purses j≤4611686018427387904) (fun k=>[(15,.int .i64 k),(14,.int .i64 s.purses.length),(13,.slice pa s.purses.length pc)]) (fun _=>L) (fun _=>h) (fun k=>s.purses.length-k) ?_ ?_ ?_ ?_
  ·exact ⟨Nat.zero_le _,fun j hj=>by omega⟩
  ·simp [Ent,List.lookup,xEnv,hp]
  ·exact Drop.tail _ _ _
  rintro k ⟨k1,k2⟩
  have hwk:=hw k
  by_cases c1:k<s.purses.length
  ·by_cases c2:at0 s.purses k≤4611686018427387904
   ·simp -dsimp -implicitDefEqProofs (disch:=first|with_reducible assumption|omega) [go_sem,idx hcs]
    refine ⟨k+1,⟨by omega,fun j hj=>?_⟩,by omega,by simp [Ent,List.lookup],Drop.refl _ _⟩
    by_cases e:j=k
    ·subst e; exact c2
    ·exact k2 j (by omega)
   ·rw [not_all_at _ _ c1 (decide_eq_false c2)] at hk
    simp -dsimp -implicitDefEqProofs (disch:=first|with_reducible assumption|omega) [go_sem,idx hcs]
    exact fin_here hk
  ·rw [all_at _ _ (fun j hj=>decide_eq_true (k2 j (by omega)))] at hk
   refine xx ?_
   exact fin_here hk
theorem index_any {zs:List Int} (v:Value) (x:Int) (hz:Ints h .i64 v zs) (hx : -9223372036854775808≤x∧x≤9223372036854775807) (hk:∀ i:Int,-1≤i→i≤9223372036854775807→(0≤i↔x∈zs)→K (.int .i64 i) L h):Spec Tryz.prog 320 [v,.int .i64 x] L h K:=by
 have hn:=hz.num
 obtain ⟨a,c,rfl,hcap,hl,_,hcs⟩:=hz.open
 refine x_enter Tryz.func320 rfl (rs:=[_]) rfl rfl mixed (by kernel_rfl) rfl rfl ?_
 refine xx ?_
 refine xloop' (0:Nat) (fun k=>k≤zs.length∧∀ j,j<k→at0 zs j≠x) (fun k=>[(8,.int .i64 k),(7,.int .i64 zs.length),(0,.slice a zs.length c),(1,.int .i64 x)]) (fun k=>zs.length-k) ?_ ?_ ?_
 ·exact ⟨Nat.zero_le _,fun j hj=>by omega⟩
 ·simp [Ent,List.lookup,xEnv]
 rintro k ⟨k1,k2⟩
 by_cases c1:k<zs.length
 ·by_cases c2:x=at0 zs k
  ·simp -dsimp -implicitDefEqProofs (disch:=first|with_reducible assumption|omega) [go_sem,idx hcs]
   refine fin_here (hk k (by omega) (by omega) ⟨fun _=>?_,fun _=>by omega⟩)
   rw [c2,← at0_lt c1]
   exact List.getElem_mem c1
  ·simp -dsimp -implicitDefEqProofs (disch:=first|with_reducible assumption|omega) [go_sem,idx hcs]
   refine ⟨k+1,⟨by omega,fun j hj=>?_⟩,by omega,by simp [Ent,List.lookup],Drop.refl _ _⟩
   by_cases e:j=k
   ·subst e; exact fun e=>c2 e.symm
   ·exact k2 j (by omega)
 ·refine xx ?_
  refine fin_here (hk (-1) (by omega) (by omega) ⟨fun hh=>by omega,fun hm=>?_⟩)
  obtain ⟨j,hj,e⟩:=List.mem_iff_getElem.1 hm
  exact absurd (by rw [← at0_lt hj,e]) (k2 j (by omega))
theorem contains_any {zs:List Int} (v:Value) (x:Int) (hz:Ints h .i64 v zs) (hx : -9223372036854775808≤x∧x≤9223372036854775807) (hk:K (.bool (decide (x∈zs))) L h):Spec Tryz.prog 238 [v,.int .i64 x] L h K:=by
 have hz':=hz
 obtain ⟨a,c,rfl,hcap,hl,_,hcs⟩:=hz.open
 refine x_enter Tryz.func238 rfl (rs:=[_]) rfl rfl mixed (by kernel_rfl) rfl rfl ?_
 refine xx ?_
 refine index_any _ x hz' hx fun i i1 i2 i3=>?_
 refine xx ?_
 have:decide (0≤i)=decide (x∈zs):=by simp only [i3]
 refine fin_here ?_
 rw [this]
 exact hk
def cntS (l:List MemD) (st:Int):Nat→Nat
 | 0=>0
 | k+1=>cntS l st k+if (gr zeroM l k).status=st then 1 else 0
theorem cntS_le (l:List MemD) (st:Int):∀ k,cntS l st k≤k
 | 0=>Nat.le_refl _
 | k+1=>by have:=cntS_le l st k; simp only [cntS]; split<;>omega
def hasB (s:StD) (l:List Int) (st:Int):Bool:=(List.range s.members.length).all fun j => !decide ((gr zeroM s.members j).status=st)||decide ((j:Int)∈l)
def rowB (s:StD) (l:List Int) (st:Int):Bool:=hasB s l st&&decide (l.length=cntS s.members st s.members.length)
theorem hasB_true {s:StD} {l:List Int} {st:Int} (hq:∀ j,j<s.members.length→(gr zeroM s.members j).status=st→(j:Int)∈l):hasB s l st=true:=by
 rw [hasB,List.all_eq_true]
 intro j hj
 by_cases e:(gr zeroM s.members j).status=st
 ·simp [e,hq j (List.mem_range.1 hj) e]
 ·simp [e]
theorem hasB_false {s:StD} {l:List Int} {st:Int} {k:Nat} (hk:k<s.members.length) (e:(gr zeroM s.members k).status=st) (hn:(k:Int) ∉ l):hasB s l st=false:=by
 rw [hasB,List.all_eq_false]
 exact ⟨k,List.mem_range.2 hk,by simp [e,hn]⟩
theorem row_any {s:StD} (v:SV) (hs:IsSt h v s) (few:FewS s) {l:List Int} (lv:Value) (hlv:Ints h .i64 lv l) (st:Int) (hst : -9223372036854775808≤st∧st≤9223372036854775807) (hk:K (.bool (rowB s l st)) L h):Spec Tryz.prog 131 [stV s v,lv,.int .i64 st] L h K:=by
 obtain ⟨ma,mc,hm,hmc,hml,_,hd⟩:=hs.m.open
 have fm:=few.m
 have hlv':=hlv
 obtain ⟨la,lc,rfl,hlc,hll,_,hcs⟩:=hlv.open
 refine x_enter Tryz.func131 rfl (rs:=[_]) rfl rfl mixed (by kernel_rfl) rfl rfl ?_
 refine xx ?_
 refine xnew fun b1 n_b1 h_b1=>?_
 try simp only [Apart] at n_b1
 simp -dsimp -implicitDefEqProofs (disch:=first|with_reducible assumption|omega) [go_sem,hm]
 refine xloop (0:Nat) (fun k=>k≤s.members.length∧∀ j,j<k→(gr zeroM s.members j).status=st→(j:Int)∈l) (fun k=>[(14,.int .i64 k),(13,.int .i64 s.members.length),(12,.slice ma s.members.length mc),(7,.int .i64 (cntS s.members st k)),(1,.slice la l.length lc),(2,.int .i64 st)]) (fun _=>L) (fun _=>h) (fun k=>s.members.length-k) ?_ ?_ ?_ ?_
 ·exact ⟨Nat.zero_le _,fun j hj=>by omega⟩
 ·simp [Ent,List.lookup,xEnv,hm,cntS]
 ·exact Drop.tail _ _ _
 rintro k ⟨k1,k2⟩
 have hcl:=cntS_le s.members st k
 by_cases c1:k<s.members.length
 ·have hxo:=hs.mo (gr zeroM s.members k) (by rw [gr_lt c1]; exact List.getElem_mem c1)
  simp -dsimp -implicitDefEqProofs (disch:=first|with_reducible assumption|omega) [go_sem,↓idxR zeroM (by decide) hd,memC]
  refine xnew fun b2 n_b2 h_b2=>?_
  try simp only [Apart] at n_b2
  by_cases c2:(gr zeroM s.members k).status=st
  ·simp -dsimp -implicitDefEqProofs (disch:=first|with_reducible assumption|omega) [go_sem,memC]
   refine contains_any _ k hlv' ⟨by omega,by omega⟩ ?_
   by_cases c3:(k:Int)∈l
   ·rw [decide_eq_true c3]
    refine xx ?_
    refine ⟨k+1,⟨by omega,fun j hj=>?_⟩,by omega,by simp [Ent,List.lookup,cntS,c2],Drop.tail _ _ _⟩
    by_cases e:j=k
    ·subst e; exact fun _=>c3
    ·exact k2 j (by omega)
   ·rw [rowB,hasB_false c1 c2 c3] at hk
    rw [decide_eq_false c3]
    refine xx ?_
    exact fin_tail (fin_here hk)
  ·simp -dsimp -implicitDefEqProofs (disch:=first|with_reducible assumption|omega) [go_sem,memC]
   refine ⟨k+1,⟨by omega,fun j hj=>?_⟩,by omega,by simp [Ent,List.lookup,cntS,c2],Drop.tail _ _ _⟩
   by_cases e:j=k
   ·subst e; exact fun e=>absurd e c2
   ·exact k2 j (by omega)
 ·have hkl:k=s.members.length:=by omega
  subst hkl
  rw [rowB,hasB_true k2,Bool.true_and] at hk
  refine xx ?_
  refine fin_here ?_
  have e:decide ((l.length:Int)=(cntS s.members st s.members.length:Nat))=decide (l.length=cntS s.members st s.members.length):=by simp only [Int.natCast_inj]
  first
   | exact hk
   | (rw [e]; exact hk)
def membersB (s:StD):Bool:=decide (s.members.length≤128)&&s.members.all (fun m=>mfitsB s.par m&&acctB s m.owner)&&rowB s s.entry 1&&rowB s s.exit 3
theorem members_any {s:StD} (v:SV) (hs:IsSt h v s) (few:FewS s) (hr:parR s.par=true) (hk:K (.bool (membersB s)) L h):Spec Tryz.prog 60 [stV s v] L h K:=by
 obtain ⟨pa,pc,ma,mc,ea,ec,xa,xc,oa,oc,da,dc,ta,tc,ka,kc,ra,rc,rfl⟩:=hs.slices
 have hd:Recs memC 6 h (.slice ma s.members.length mc) s.members:=hs.m
 have fm:=few.m
 unfold membersB at hk
 refine x_enter Tryz.func60 rfl (rs:=[_]) rfl rfl mixed (by kernel_rfl) rfl rfl ?_
 refine xx ?_
 refine xnew fun b1 n_b1 h_b1=>?_
 try simp only [Apart] at n_b1
 refine xx ?_
 by_cases c0:s.members.length≤128
 ·rw [decide_eq_true c0,Bool.true_and] at hk
  refine xx ?_
  refine xloop (0:Nat) (fun k=>k≤s.members.length∧∀ j,j<k→(fun m:MemD=>mfitsB s.par m&&acctB s m.owner) (gr zeroM s.members j)=true) (fun k=>[(14,.int .i64 k),(13,.int .i64 s.members.length),(12,.slice ma s.members.length mc),(1,.pointer (some ⟨b1,0,none⟩))]) (fun _=>⟨b1,134,stC s ⟨.slice pa s.purses.length pc,.slice ma s.members.length mc,.slice ea s.entry.length ec,.slice xa s.exit.length xc,.slice oa s.pool.length oc,.slice da s.dues.length dc,.slice ta s.motions.length tc,.slice ka s.marks.length kc,.slice ra s.ring.length rc⟩,41⟩::L) (fun _=>h) (fun k=>s.members.length-k) ?_ ?_ ?_ ?_
  ·exact ⟨Nat.zero_le _,fun j hj=>by omega⟩
  ·simp [Ent,List.lookup,xEnv]
  ·exact Drop.refl _ _
  rintro k ⟨k1,k2⟩
  by_cases c1:k<s.members.length
  ·have hxo:=hs.mo (gr zeroM s.members k) (by rw [gr_lt c1]; exact List.getElem_mem c1)
   simp -dsimp -implicitDefEqProofs (disch:=first|with_reducible assumption|omega) [go_sem,↓idxR zeroM (by decide) hd,memC]
   refine xnew fun b2 n_b2 h_b2=>?_
   try simp only [Apart] at n_b2
   simp -dsimp -implicitDefEqProofs (disch:=first|with_reducible assumption|omega) [go_sem,memC]
   refine mfits_any s.par hs.ok.p (gr zeroM s.members k) hxo ?_
   rw [hr,Bool.true_and]
   cases hq:mfitsB s.par (gr zeroM s.members k) with
   | false =>
    rw [not_all_gr zeroM _ _ c1 (by rw [hq]; rfl)] at hk
    refine xx ?_
    exact fin_tail (fin_tail (fin_here (by simpa using hk)))
   | true =>
    refine xx ?_
    refine account_any _ hs few _ ?_
    cases hq2:acctB s (gr zeroM s.members k).owner with
    | false =>
     rw [not_all_gr zeroM _ _ c1 (by rw [hq,hq2]; rfl)] at hk
     refine xx ?_
     exact fin_tail (fin_tail (fin_here (by simpa using hk)))
    | true =>
     refine xx ?_
     refine ⟨k+1,⟨by omega,fun j hj=>?_⟩,by omega,by simp [Ent,List.lookup],Drop.tail _ _ _⟩
     by_cases e:j=k
     ·subst e; first | exact ⟨hq,hq2⟩ | (simp only [hq,hq2]; rfl) | simp [hq,hq2]
     ·first | exact k2 j (by omega) | simpa using k2 j (by omega)
  ·have hkl:k=s.members.length:=by omega
   subst hkl
   rw [all_gr zeroM _ _ k2,Bool.true_and] at hk
   refine xx ?_
   refine row_any _ hs few _ hs.e 1 (by decide) ?_
   cases hq:rowB s s.entry 1 with
   | false =>
    rw [hq] at hk
    refine xx ?_
    exact fin_tail (fin_here (by simpa using hk))
   | true =>
    rw [hq] at hk
    refine xx ?_
    refine row_any _ hs few _ hs.x 3 (by decide) ?_
    refine xx ?_
    exact fin_tail (fin_here (by simpa using hk))
 ·rw [decide_eq_false c0] at hk
  refine xx ?_
  exact fin_tail (fin_here (by simpa using hk))
def parKS:List IntKind:=[.u64,.u64,.u64,.u64,.u64,.u64,.u64,.u64,.u64,.u64,.u64,.u64,.u64,.u64,.i64,.i64,.i64,.i64,.i64,.i64,.i64,.i64,.i64,.i64]
abbrev motV (m:MotD) (y n:Value):Value := .agg #[.int .i64 m.acct,.int .i64 m.what,.int .u64 m.par.inc,.int .u64 m.par.maxEff,.int .u64 m.par.floor,.int .u64 m.par.cap,.int .u64 m.par.up,.int .u64 m.par.down,.int .u64 m.par.bias,.int .u64 m.par.quot,.int .u64 m.par.biasEm,.int .u64 m.par.quotEm,.int .u64 m.par.recover,.int .u64 m.par.scoreCap,.int .u64 m.par.rate,.int .u64 m.par.bond,.int .i64 m.par.delay,.int .i64 m.par.streak,.int .i64 m.par.boost,.int .i64 m.par.absent,.int .i64 m.par.burn,.int .i64 m.par.churn,.int .i64 m.par.wait,.int .i64 m.par.poll,.int .i64 m.par.enact,.int .i64 m.par.quorum,.int .i64 m.to,.int .u64 m.amt,.int .i64 m.ends,.int .i64 m.due,.int .i64 m.state,y,n]
def motHead (m:MotD):Bool:=wi m.acct 0 63&&wi m.to 0 63&&wi m.what 1 4&&wi m.state 1 4
def motMid (m:MotD):Bool:=wi m.ends 0 2147483647&&wi m.due 0 2147483647&&decide (m.amt≤4611686018427387904)
def motFits (m:MotD):Bool:=motHead m&&motMid m&&chkB m.yes 128&&chkB m.no 128&&(if m.what=1 then parR m.par else decide (m.par=zeroP))
theorem eqParD (p q:ParD):decide (wides p++narrows p=wides q++narrows q)=decide (p=q):=by
 apply decide_eq_decide.2
 constructor
 ·intro e
  simp only [wides,narrows,List.cons_append,List.nil_append,List.cons.injEq,and_true] at e
  cases p; cases q; simp only at e; simp only [ParD.mk.injEq]; exact e
 ·rintro rfl; rfl
theorem eqParA (p q:ParD) (x y:Operand) (K:Value→Prop) (t:Tok K):xBin Tryz.prog .eql 24 x y (parV p) (parV q) K t=K (.bool (decide (p=q))):=by
 rw [← eqParD]
 exact xBin_eqints (T:=24) (ks:=parKS) (by kernel_rfl) (by kernel_rfl) (by kernel_rfl) (by kernel_rfl) (wides p++narrows p) (wides q++narrows q) rfl rfl x y K t
theorem motfits_any (m:MotD) (y n:Value) (hy:Ints h .u8 y m.yes) (hn:Ints h .u8 n m.no) (ok:MotOk m) (hk:K (.bool (motFits m)) L h):Spec Tryz.prog 133 [motV m y n] L h K:=by
 have hy':=hy
 have hn':=hn
 obtain ⟨ya,yc,rfl,_⟩:=hy.open
 obtain ⟨na,nc,rfl,_⟩:=hn.open
 have ua:=ok.a
 unfold motFits at hk
 refine x_enter Tryz.func133 rfl (rs:=[_]) rfl rfl mixed (by kernel_rfl) rfl rfl ?_
 refine xx ?_
 refine xnew fun b1 n_b1 h_b1=>?_
 try simp only [Apart] at n_b1
 refine xx ?_
 have no1:∀ X:Bool,motHead m=false→K (.bool (motHead m&&X)) L h→K (.bool false) L h:=fun X e k=>by rwa [e] at k
 refine mwi_any _ _ _ ?_
 cases q1:wi m.acct 0 63 with
 | false =>
  rw [show motHead m=false by simp [motHead,q1]] at hk
  refine xx ?_
  exact fin_tail (fin_here (by simpa using hk))
 | true =>
 refine xx ?_
 refine mwi_any _ _ _ ?_
 cases q2:wi m.to 0 63 with
 | false =>
  rw [show motHead m=false by simp [motHead,q2]] at hk
  refine xx ?_
  exact fin_tail (fin_here (by simpa using hk))
 | true =>
 refine xx ?_
 refine mwi_any _ _ _ ?_
 cases q3:wi m.what 1 4 with
 | false =>
  rw [show motHead m=false by simp [motHead,q3]] at hk
  refine xx ?_
  exact fin_tail (fin_here (by simpa using hk))
 | true =>
 refine xx ?_
 refine mwi_any _ _ _ ?_
 cases q4:wi m.state 1 4 with
 | false =>
  rw [show motHead m=false by simp [motHead,q4]] at hk
  refine xx ?_
  exact fin_tail (fin_here (by simpa using hk))
 | true =>
 rw [show motHead m=true by simp [motHead,q1,q2,q3,q4],Bool.true_and] at hk
 refine xx ?_
 refine mwi_any _ _ _ ?_
 cases q5:wi m.ends 0 2147483647 with
 | false =>
  rw [show motMid m=false by simp [motMid,q5]] at hk
  refine xx ?_
  exact fin_tail (fin_here (by simpa using hk))
 | true =>
 refine xx ?_
 refine mwi_any _ _ _ ?_
 cases q6:wi m.due 0 2147483647 with
 | false =>
  rw [show motMid m=false by simp [motMid,q6]] at hk
  refine xx ?_
  exact fin_tail (fin_here (by simpa using hk))
 | true =>
 by_cases q7:m.amt≤4611686018427387904
 ·rw [show motMid m=true by simp [motMid,q5,q6,q7],Bool.true_and] at hk
  refine xx ?_
  refine chk_any _ 128 hy' (by decide) (by decide) ?_
  cases q8:chkB m.yes 128 with
  | false =>
   rw [q8] at hk
   refine xx ?_
   exact fin_tail (fin_here (by simpa using hk))
  | true =>
  rw [q8,Bool.true_and] at hk
  refine xx ?_
  refine chk_any _ 128 hn' (by decide) (by decide) ?_
  cases q9:chkB m.no 128 with
  | false =>
   rw [q9] at hk
   refine xx ?_
   exact fin_tail (fin_here (by simpa using hk))
  | true =>
  rw [q9,Bool.true_and] at hk
  by_cases c:m.what=1
  ·rw [if_pos c] at hk
   refine xx ?_
   refine pcheck0 m.par ok.p ?_
   cases hr:parR m.par with
   | false =>
    rw [hr] at hk
    refine xx ?_
    exact fin_tail (fin_here hk)
   | true =>
    rw [hr] at hk
    refine xx ?_
    exact fin_tail (fin_here hk)
  ·rw [if_neg c] at hk
   refine xx ?_
   refine (eqParA m.par zeroP _ _ _ _).mpr ?_
   refine xx ?_
   exact fin_tail (fin_here hk)
 ·rw [show motMid m=false by simp [motMid,q7]] at hk
  refine xx ?_
  exact fin_tail (fin_here (by simpa using hk))
def motionsB (s:StD):Bool:=decide (s.motions.length≤32)&&s.motions.all (fun m=>motFits m&&acctB s m.acct&&acctB s m.to)
theorem motions_any {s:StD} (v:SV) (hs:IsSt h v s) (few:FewS s) (hk:K (.bool (motionsB s)) L h):Spec Tryz.prog 62 [stV s v] L h K:=by
 obtain ⟨pa,pc,ma,mc,ea,ec,xa,xc,oa,oc,da,dc,ta,tc,ka,kc,ra,rc,rfl⟩:=hs.slices
 obtain ⟨q,hd,t2,t3⟩:=hs.t
 have fm:=few.t
 have hql:q.length=s.motions.length:=by rw [← t2,List.length_map]
 have hgr:∀ k,k<q.length→gr zeroMot s.motions k=(gr zeroQM q k).2.2:=fun k hk=>by
  rw [gr_lt hk,gr_lt (by omega)]
  simp only [← t2,List.getElem_map]
 unfold motionsB at hk
 refine x_enter Tryz.func62 rfl (rs:=[_]) rfl rfl mixed (by kernel_rfl) rfl rfl ?_
 refine xx ?_
 refine xnew fun b1 n_b1 h_b1=>?_
 try simp only [Apart] at n_b1
 refine xx ?_
 by_cases c0:s.motions.length≤32
 ·rw [decide_eq_true c0,Bool.true_and] at hk
  refine xx ?_
  refine xloop (0:Nat) (fun k=>k≤s.motions.length∧∀ j,j<k→(fun m:MotD=>motFits m&&acctB s m.acct&&acctB s m.to) (gr zeroMot s.motions j)=true) (fun k=>[(14,.int .i64 k),(13,.int .i64 s.motions.length),(12,.slice ta s.motions.length tc),(1,.pointer (some ⟨b1,0,none⟩))]) (fun _=>⟨b1,134,stC s ⟨.slice pa s.purses.length pc,.slice ma s.members.length mc,.slice ea s.entry.length ec,.slice xa s.exit.length xc,.slice oa s.pool.length oc,.slice da s.dues.length dc,.slice ta s.motions.length tc,.slice ka s.marks.length kc,.slice ra s.ring.length rc⟩,41⟩::L) (fun _=>h) (fun k=>s.motions.length-k) ?_ ?_ ?_ ?_
  ·exact ⟨Nat.zero_le _,fun j hj=>by omega⟩
  ·simp [Ent,List.lookup,xEnv]
  ·exact Drop.refl _ _
  rintro k ⟨k1,k2⟩
  by_cases c1:k<s.motions.length
  ·have hx:IsMot h (gr zeroQM q k):=by rw [gr_lt (by omega)]; exact t3 _ (List.getElem_mem (by omega))
   have hg:=hgr k (by omega)
   obtain ⟨x1,y1,hv1,_⟩:=hx.y.open
   obtain ⟨x2,y2,hv2,_⟩:=hx.n.open
   simp -dsimp -implicitDefEqProofs (disch:=first|with_reducible assumption|omega) [go_sem,↓idxR zeroQM (by decide) hd,motC]
   refine xnew fun b2 n_b2 h_b2=>?_
   try simp only [Apart] at n_b2
   simp -dsimp -implicitDefEqProofs (disch:=first|with_reducible assumption|omega) [go_sem,motC,hv1,hv2]
   have m1:=hx.y
   have m2:=hx.n
   rw [hv1] at m1
   rw [hv2] at m2
   refine motfits_any (gr zeroQM q k).2.2 _ _ m1 m2 hx.ok ?_
   cases hq:motFits (gr zeroQM q k).2.2 with
   | false =>
    rw [not_all_gr zeroMot _ _ c1 (by rw [hg,hq]; rfl)] at hk
    refine xx ?_
    exact fin_tail (fin_tail (fin_here (by simpa using hk)))
   | true =>
   refine xx ?_
   refine account_any _ hs few _ ?_
   cases hq2:acctB s (gr zeroQM q k).2.2.acct with
   | false =>
    rw [not_all_gr zeroMot _ _ c1 (by rw [hg,hq,hq2]; rfl)] at hk
    refine xx ?_
    exact fin_tail (fin_tail (fin_here (by simpa using hk)))
   | true =>
   refine xx ?_
   refine account_any _ hs few _ ?_
   cases hq3:acctB s (gr zeroQM q k).2.2.to with
   | false =>
    rw [not_all_gr zeroMot _ _ c1 (by rw [hg,hq,hq2,hq3]; rfl)] at hk
    refine xx ?_
    exact fin_tail (fin_tail (fin_here (by simpa using hk)))
   | true =>
   refine xx ?_
   refine ⟨k+1,⟨by omega,fun j hj=>?_⟩,by omega,by simp [Ent,List.lookup],Drop.tail _ _ _⟩
   by_cases e:j=k
   ·subst e; first | exact ⟨⟨hq,hq2⟩,hq3⟩ | simp [hg,hq,hq2,hq3]
   ·first | exact k2 j (by omega) | simpa using k2 j (by omega)
  ·have hkl:k=s.motions.length:=by omega
   subst hkl
   rw [all_gr zeroMot _ _ k2] at hk
   refine xx ?_
   exact fin_tail (fin_here hk)
 ·rw [decide_eq_false c0] at hk
  refine xx ?_
  exact fin_tail (fin_here (by simpa using hk))
theorem rright20_any {bs:List Int} (v:Value) (hb:Ints h .u8 v bs) (hk:K (.bool (chkB bs 128)) L h):Spec Tryz.prog 242 [v] L h K:=by
 have hb':=hb
 obtain ⟨a,c,rfl,_⟩:=hb.open
 refine x_enter Tryz.func242 rfl (rs:=[_]) rfl rfl mixed (by kernel_rfl) rfl rfl ?_
 refine xx ?_
 refine chk_any _ 128 hb' (by decide) (by decide) ?_
 cases hc:chkB bs 128 with
 | false =>
  rw [hc] at hk
  refine xx ?_
  exact fin_here hk
 | true =>
  rw [hc] at hk
  refine xx ?_
  exact fin_here hk
def rollB (ring:List (List Int)) (marks:List Int):Bool:=decide (ring.length≤8)&&chkB marks 128&&ring.all (fun b=>chkB b 128)
theorem rollc_any {l:List QS} {bs:List Int} (v u:Value) (hv:Strs h v l) (hu:Ints h .u8 u bs) (hn:l.length≤100000) (hk:K (.int .i64 (if rollB (xsL l) bs then 0 else 60)) L h):Spec Tryz.prog 134 [v,u] L h K:=by
 have hu':=hu
 obtain ⟨a,c,rfl,hc,hl,_,hcx,hd⟩:=hv.open
 obtain ⟨b,c',rfl,_⟩:=hu.open
 unfold rollB at hk
 rw [xsL_len] at hk
 refine x_enter Tryz.func134 rfl (rs:=[_]) rfl rfl mixed (by kernel_rfl) rfl rfl ?_
 refine xx ?_
 by_cases c0:l.length≤8
 ·rw [decide_eq_true c0,Bool.true_and] at hk
  refine xx ?_
  refine rright20_any _ hu' ?_
  cases h1:chkB bs 128 with
  | false =>
   rw [h1] at hk
   refine xx ?_
   exact fin_here (by simpa using hk)
  | true =>
  rw [h1,Bool.true_and] at hk
  refine xx ?_
  refine xloop' (0:Nat) (fun k=>k≤l.length∧∀ j,j<k→chkB (gs l j).2 128=true) (fun k=>[(17,.int .i64 k),(16,.int .i64 l.length),(15,.slice a l.length c)]) (fun k=>l.length-k) ?_ ?_ ?_
  ·exact ⟨Nat.zero_le _,fun j hj=>by omega⟩
  ·simp [Ent,List.lookup,xEnv]
  rintro k ⟨k1,k2⟩
  have hgs:∀ j,j<l.length→gr [] (xsL l) j=(gs l j).2:=fun j hj=>by
   rw [gr_lt (by rw [xsL_len]; exact hj),gs_lt hj]; simp [xsL]
  by_cases c1:k<l.length
  ·have hi:=hd.at c1
   have hi':=hi
   obtain ⟨x1,y1,hv1,_⟩:=hi.open
   simp -dsimp -implicitDefEqProofs (disch:=first|with_reducible assumption|omega) [go_sem,idx hcx,hv1]
   rw [hv1] at hi'
   refine rright20_any _ hi' ?_
   cases h2:chkB (gs l k).2 128 with
   | false =>
    rw [not_all_gr [] _ _ (k:=k) (by rw [xsL_len]; exact c1) (by rw [hgs k c1,h2])] at hk
    refine xx ?_
    exact fin_here (by simpa using hk)
   | true =>
    refine xx ?_
    refine ⟨k+1,⟨by omega,fun j hj=>?_⟩,by omega,by simp [Ent,List.lookup],Drop.refl _ _⟩
    by_cases e:j=k
    ·subst e; exact h2
    ·exact k2 j (by omega)
  ·rw [all_gr [] _ _ (fun j hj=>by rw [xsL_len] at hj; rw [hgs j hj]; exact k2 j (by omega))] at hk
   refine xx ?_
   exact fin_here (by simpa using hk)
 ·rw [decide_eq_false c0] at hk
  refine xx ?_
  exact fin_here (by simpa using hk)
def marksB (s:StD):Bool:=rollB s.ring s.marks&&(List.range 128).all fun i=>decide (i<s.members.length) || !getB s.marks i
theorem marks_any {s:StD} (v:SV) (hs:IsSt h v s) (few:FewS s) (hk:K (.bool (marksB s)) L h):Spec Tryz.prog 63 [stV s v] L h K:=by
 obtain ⟨pa,pc,ma,mc,ea,ec,xa,xc,oa,oc,da,dc,ta,tc,ka,kc,ra,rc,rfl⟩:=hs.slices
 obtain ⟨q,hd,t2⟩:=hs.r
 have fm:=few.m
 have fr:=few.r
 have hql:q.length=s.ring.length:=by rw [← t2,xsL_len]
 have hkk:=hs.k
 simp only at hd hkk
 unfold marksB at hk
 refine x_enter Tryz.func63 rfl (rs:=[_]) rfl rfl mixed (by kernel_rfl) rfl rfl ?_
 refine xx ?_
 refine xnew fun b1 n_b1 h_b1=>?_
 try simp only [Apart] at n_b1
 refine xx ?_
 refine rollc_any _ _ hd hkk (by omega) ?_
 rw [t2]
 cases h1:rollB s.ring s.marks with
 | false =>
  rw [h1] at hk
  refine xx ?_
  exact fin_tail (fin_here (by simpa using hk))
 | true =>
 rw [h1,Bool.true_and] at hk
 refine xx ?_
 refine xloop s.members.length (fun k=>s.members.length≤k∧k≤100000∧∀ j,s.members.length≤j→j<k→getB s.marks (j:Int)=false) (fun k=>[(3,.int .i64 k),(1,.pointer (some ⟨b1,0,none⟩))]) (fun _=>⟨b1,134,stC s ⟨.slice pa s.purses.length pc,.slice ma s.members.length mc,.slice ea s.entry.length ec,.slice xa s.exit.length xc,.slice oa s.pool.length oc,.slice da s.dues.length dc,.slice ta s.motions.length tc,.slice ka s.marks.length kc,.slice ra s.ring.length rc⟩,41⟩::L) (fun _=>h) (fun k=>100000-k) ?_ ?_ ?_ ?_
 ·exact ⟨Nat.le_refl _,fm,fun j hj=>by omega⟩
 ·simp [Ent,List.lookup,xEnv]
 ·exact Drop.refl _ _
 rintro k ⟨k0,k1,k2⟩
 by_cases c1:k<128
 ·refine xx ?_
  refine get_any _ k hkk (by omega) ?_
  cases h2:getB s.marks (k:Int) with
  | true =>
   have:((List.range 128).all fun i=>decide (i<s.members.length) || !getB s.marks i)=false:=by
    rw [List.all_eq_false]
    exact ⟨k,List.mem_range.2 c1,by simp [h2]; omega⟩
   rw [this] at hk
   refine xx ?_
   exact fin_tail (fin_here hk)
  | false =>
   refine xx ?_
   refine ⟨k+1,⟨by omega,by omega,fun j hj hj2=>?_⟩,by omega,by simp [Ent,List.lookup],Drop.refl _ _⟩
   by_cases e:j=k
   ·subst e; exact h2
   ·exact k2 j hj (by omega)
 ·have:((List.range 128).all fun i=>decide (i<s.members.length) || !getB s.marks i)=true:=by
   rw [List.all_eq_true]
   intro i hi
   have:=List.mem_range.1 hi
   by_cases e:i<s.members.length
   ·simp [e]
   ·simp [k2 i (by omega) (by omega)]
  rw [this] at hk
  refine xx ?_
  exact fin_tail (fin_here hk)
end Go.X

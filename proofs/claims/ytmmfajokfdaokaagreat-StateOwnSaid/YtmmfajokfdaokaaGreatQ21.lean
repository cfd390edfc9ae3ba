/- Lemmas and contracts for a statement about the given program. Conditions: as each says. -/
import Derived.Test.YtmmfajokfdaokaaGreatQ19
import Derived.Test.YtmmfajokfdaokaaGreatQ20
set_option linter.unusedVariables false
set_option linter.unusedSimpArgs false
set_option maxHeartbeats 12800000
set_option maxRecDepth 20000
namespace Go.X
open Go.RowKit Go.Proofs Go.Bl
variable {L:Own} {h:PH} {K:PK}
def rbit (k:Nat):Int:=if k<32 then 2 ^ (31-k) else 0
theorem rbit_half {k:Nat} (hk:k<32):rbit k/2=rbit (k+1):=by
 have:∀ k,k<32→rbit k/2=rbit (k+1):=by decide +kernel
 exact this k hk
theorem rbit_pos {k:Nat} (hk:k<32):1≤rbit k∧rbit k≤2147483648:=by
 have:∀ k,k<32→1≤rbit k∧rbit k≤2147483648:=by decide +kernel
 exact this k hk
theorem root_any (n:Int) (hn:0≤n∧n≤18446744073709551615) (hk:K (.int .u64 (rootP n)) L h):Spec Tryz.prog 323 [.int .u64 n] L h K:=by
 refine x_enter Tryz.func323 rfl (rs:=[_]) rfl rfl mixed (by kernel_rfl) rfl rfl ?_
 refine xx ?_
 refine xloop' (0:Nat) (fun k=>k≤32) (fun k=>[(4,.int .u64 (rbit k)),(3,.int .u64 (rtK n k)),(0,.int .u64 n)]) (fun k=>32-k) ?_ ?_ ?_
 ·exact Nat.zero_le _
 ·simp [Ent,List.lookup,xEnv,rbit,rtK]
 intro k hk1
 by_cases c1:k<32
 ·obtain ⟨a1,a2,a3,a4⟩:=rtK_ok hn k hk1
  obtain ⟨b1,b2⟩:=rbit_pos c1
  have e:(2:Int) ^ (32-k)=2*rbit k:=by
   rw [rbit,if_pos c1,show 32-k=(31-k)+1 by omega,Int.pow_succ,Int.mul_comm]
  have hh:=rbit_half c1
  have hp:=prod_bound (rtK n k+rbit k) (rtK n k+rbit k) (by omega) (by omega) (by omega) (by omega)
  have hs:rtK n (k+1)=if (rtK n k+rbit k)*(rtK n k+rbit k)≤n then rtK n k+rbit k else rtK n k:=by rw [rtK,rbit,if_pos c1]
  rw [e] at a2
  generalize rbit k=b at *
  generalize rtK n k=r at *
  by_cases c2:(r+b)*(r+b)≤n
  ·rw [if_pos c2] at hs
   simp -dsimp -implicitDefEqProofs (disch:=first|with_reducible assumption|omega) [go_sem,hh]
   exact ⟨k+1,by omega,by omega,by simp [Ent,List.lookup,hs],Drop.refl _ _⟩
  ·rw [if_neg c2] at hs
   simp -dsimp -implicitDefEqProofs (disch:=first|with_reducible assumption|omega) [go_sem,hh]
   exact ⟨k+1,by omega,by omega,by simp [Ent,List.lookup,hs],Drop.refl _ _⟩
 ·have hkl:k=32:=by omega
  subst hkl
  rw [show rbit 32=0 from rfl]
  refine xx ?_
  exact fin_here hk
theorem leaks_any (mode:Int) (hk:K (.bool (decide (mode=3∨mode=4))) L h):Spec Tryz.prog 249 [.int .i64 mode] L h K:=by
 refine x_enter Tryz.func249 rfl (rs:=[_]) rfl rfl mixed (by kernel_rfl) rfl rfl ?_
 by_cases c:mode=3
 ·rw [decide_eq_true (Or.inl c)] at hk
  refine xx ?_
  exact fin_here hk
 ·rw [show decide (mode=3∨mode=4)=decide (mode=4) by apply decide_eq_decide.2; omega] at hk
  refine xx ?_
  exact fin_here hk
theorem bud_e {p:ParD} {ac:Int} (h1:ac≠0) (h2:¬ 4611686018427387904<ac):budP p ac=dwN ac p.rate (1048576*rootP ac):=by
 rw [budP,if_neg]; omega
theorem budof_any (p:ParD) (ok:ParOk p) (hr:parR p=true) (ac:Int) (ha:0≤ac∧ac≤18446744073709551615) (hk:K (.int .u64 (budP p ac)) L h):Spec Tryz.prog 248 [parV p,.int .u64 ac] L h K:=by
 have ur:=ok.w p.rate (by simp [wides])
 refine x_enter Tryz.func248 rfl (rs:=[_]) rfl rfl mixed (by kernel_rfl) rfl rfl ?_
 refine xx ?_
 refine xnew fun b1 n_b1 h_b1=>?_
 try simp only [Apart] at n_b1
 by_cases c1:ac=0
 ·rw [budP,if_pos (.inl c1)] at hk
  refine xx ?_
  exact fin_tail (fin_here hk)
 by_cases c2:4611686018427387904<ac
 ·rw [budP,if_pos (.inr c2)] at hk
  refine xx ?_
  exact fin_tail (fin_here hk)
 rw [bud_e c1 c2] at hk
 have rp:=root_pos (n:=ac) (by omega)
 have rl:=(root_ok (n:=ac) (by omega)).2.1
 refine xx ?_
 refine pcheck0 p ok ?_
 rw [hr]
 refine xx ?_
 refine xanyl (.tk 0 (.tk 1 (.tk 3 (.tkl 2 (.or true 4 (.tk 5 (.or true 6 (.tk 7 (.tk 8 (.tk 9 (.tk 10 (.tk 11 (.fin)))))) (.nil))) (.nil)))))) (by kernel_rfl) (by kernel_rfl) _ (Drop.refl _ _) ?_
 refine xx ?_
 refine root_any ac ha ?_
 first
 | refine xkp (Drop.refl _ _) ?_
 | skip
 refine xx ?_
 refine down_any ac p.rate (1048576*rootP ac) ha ur (by omega) ?_
 first
 | refine xkp (Drop.refl _ _) ?_
 | skip
 refine xx ?_
 by_cases c3:dwE ac p.rate (1048576*rootP ac)=0
 ·refine xx ?_
  exact fin_tail (fin_here hk)
 ·rw [dwN,if_neg c3] at hk
  refine xx ?_
  exact fin_tail (fin_here hk)
theorem together_any {zs:List Int} (most:Int) (v:Value) (hz:Ints h .u64 v zs) (hm:most≤18446744073709551615) (hk:K (.bool (decide (tot zs≤most))) L h):Spec Tryz.prog 250 [.int .u64 most,v] L h K:=by
 refine x_enter Tryz.func250 rfl (rs:=[_]) rfl rfl mixed (by kernel_rfl) rfl rfl ?_
 refine xx ?_
 refine msum_any v hz ?_
 by_cases c:tot zs≤18446744073709551615
 ·rw [sumV_ok c]
  refine xx ?_
  exact fin_here hk
 ·rw [decide_eq_false (show ¬ tot zs≤most by omega)] at hk
  rw [sumV_no c]
  refine xx ?_
  exact fin_here hk
theorem bud_b {p:ParD} (ok:ParOk p) {ac:Int} (ha:0≤ac∧ac≤18446744073709551615):0≤budP p ac∧budP p ac≤18446744073709551615:=by
 have ur:=ok.w p.rate (by simp [wides])
 unfold budP
 split
 ·decide
 ·exact dwN_b ha.1 ur.1 (by have:=(root_ok ha).1; omega)
theorem bmint_any (p:ParD) (ok:ParOk p) (hr:parR p=true) (ac is most mode:Int) (ha:0≤ac∧ac≤18446744073709551615) (hi:0≤is∧is≤18446744073709551615) (hm:0≤most∧most≤18446744073709551615) (hk:∀ h',PH.le h h'→K (.int .u64 (mintP p ac is most mode)) L h') :
  Spec Tryz.prog 143 [parV p,.int .u64 ac,.int .u64 is,.int .u64 most,.int .i64 mode] L h K:=by
 have bb:=bud_b ok ha
 refine x_enter Tryz.func143 rfl (rs:=[_]) rfl rfl mixed (by kernel_rfl) rfl rfl ?_
 refine xx ?_
 refine xnew fun b1 n_b1 h_b1=>?_
 try simp only [Apart] at n_b1
 refine xx ?_
 refine budof_any p ok hr ac ha ?_
 refine xx ?_
 refine leaks_any mode ?_
 by_cases c1:mode=3∨mode=4
 ·have hk:=hk h (PH.le_refl _)
  rw [mintP,if_pos (.inl c1)] at hk
  rw [decide_eq_true c1]
  refine xx ?_
  exact fin_tail (fin_here hk)
 ·rw [decide_eq_false c1]
  refine xx ?_
  refine xnew fun b2 n_b2 h_b2=>?_
  try simp only [Apart] at n_b2
  refine xx ?_
  refine call_pub_at (sz:=1) (n:=2) (cap:=2) [] ⟨Nat.le_refl _,by decide⟩ rfl (by decide) h_b2 fun h2 le2 s2 f2=>?_
  refine together_any (zs:=[is,budP p ac]) most _ ⟨s2,fun z hz=>?_⟩ hm.2 ?_
  ·simp only [List.mem_cons,List.not_mem_nil,or_false] at hz
   rcases hz with rfl | rfl<;>assumption
  have hk:=hk h2 le2
  rw [tot_two]
  simp only [List.nil_append]
  by_cases c2:is+budP p ac≤most
  ·rw [mintP,if_neg (by omega)] at hk
   rw [decide_eq_true c2]
   refine xx ?_
   exact fin_tail (fin_here hk)
  ·rw [mintP,if_pos (.inr (by omega))] at hk
   rw [decide_eq_false c2]
   refine xx ?_
   exact fin_tail (fin_here hk)
theorem fall_b {a b:Int} (ha:0≤a∧a≤18446744073709551615) (hb:0≤b):0≤fallP a b∧fallP a b≤a:=by
 unfold fallP; split<;>omega
theorem ppay_any (p:ParD) (ok:ParOk p) (hr:parR p=true) (m:MemD) (mo:MemOk m) (n:Int) (hn:0≤n∧n≤18446744073709551615) (hk:K (.tuple #[stdV (payM p m n).1,.int .u64 (payM p m n).2]) L h):Spec Tryz.prog 147 [parV p,stdV m,.int .u64 n] L h K:=by
 have ub:=mo.u m.bal (by simp)
 have uc:=ok.w p.cap (by simp [wides])
 have fb:=fall_b uc ub.1
 have fs:m.bal+min n (fallP p.cap m.bal)≤18446744073709551615:=by unfold fallP at *; split<;>omega
 unfold payM at hk
 refine x_enter Tryz.func147 rfl (rs:=[_,_]) rfl rfl mixed (by kernel_rfl) rfl rfl ?_
 refine xx ?_
 refine xnew fun b1 n_b1 h_b1=>?_
 try simp only [Apart] at n_b1
 refine xx ?_
 refine xnew fun b2 n_b2 h_b2=>?_
 try simp only [Apart] at n_b2
 refine xx ?_
 refine xnew fun b3 n_b3 h_b3=>?_
 try simp only [Apart] at n_b3
 refine xx ?_
 refine pcheck0 p ok ?_
 rw [hr]
 refine xx ?_
 refine mfall_any p.cap m.bal uc ub ?_
 refine xx ?_
 refine mtake_any n (fallP p.cap m.bal) hn fb.1 ?_
 refine xx ?_
 exact fin_tail (fin_tail (fin_tail (fin_here hk)))
theorem fineQ_b {p:ParD} (ok:ParOk p) (hr:parR p=true) {m:MemD} (mo:MemOk m) (mode:Int):0≤fineQ p m mode∧fineQ p m mode≤18446744073709551615:=by
 have ue:=mo.u m.eff (by simp)
 have us:=mo.u m.score (by simp)
 have hs:=parR_streak hr
 have u1:=ok.w p.quot (by simp [wides])
 have u2:=ok.w p.quotEm (by simp [wides])
 unfold fineQ
 split
 ·exact uqN_b ue.1 us.1 u1.1
 ·split
  ·exact uqN_b ue.1 us.1 u2.1
  ·exact dwN_b ue.1 hs.2.2.2.2.1 (by decide)
theorem fine_b {p:ParD} (ok:ParOk p) (hr:parR p=true) {m:MemD} (mo:MemOk m) (mode:Int):0≤fineP p m mode∧fineP p m mode≤m.bal:=by
 have ub:=mo.u m.bal (by simp)
 have:=fineQ_b ok hr mo mode
 unfold fineP; split<;>omega
abbrev absV (p:ParD) (m:MemD) (mode:Int):Value := .agg #[.int .u64 m.bal,.int .u64 m.eff,.int .u64 m.score,.int .i64 m.streak,.int .u64 p.inc,.int .u64 p.maxEff,.int .u64 p.floor,.int .u64 p.cap,.int .u64 p.up,.int .u64 p.down,.int .u64 p.bias,.int .u64 p.quot,.int .u64 p.biasEm,.int .u64 p.quotEm,.int .u64 p.recover,.int .u64 p.scoreCap,.int .u64 p.rate,.int .u64 p.bond,.int .i64 p.delay,.int .i64 p.streak,.int .i64 p.boost,.int .i64 p.absent,.int .i64 p.burn,.int .i64 p.churn,.int .i64 p.wait,.int .i64 p.poll,.int .i64 p.enact,.int .i64 p.quorum,.int .i64 mode]
theorem floss_any (p:ParD) (ok:ParOk p) (hr:parR p=true) (m:MemD) (mo:MemOk m) (mode:Int) (hk:K (.int .u64 (fineP p m mode)) L h):Spec Tryz.prog 328 [absV p m mode] L h K:=by
 have ub:=mo.u m.bal (by simp)
 have ue:=mo.u m.eff (by simp)
 have us:=mo.u m.score (by simp)
 have hs:=parR_streak hr
 have u1:=ok.w p.quot (by simp [wides])
 have u2:=ok.w p.quotEm (by simp [wides])
 have bq:=fineQ_b ok hr mo mode
 unfold fineP at hk
 refine x_enter Tryz.func328 rfl (rs:=[_]) rfl rfl mixed (by kernel_rfl) rfl rfl ?_
 refine xx ?_
 refine xnew fun b1 n_b1 h_b1=>?_
 try simp only [Apart] at n_b1
 refine xx ?_
 by_cases c1:mode=3
 ·have e1:fineE p m mode=uqE m.eff m.score p.quot:=by rw [fineE,if_pos c1]
  have e2:fineQ p m mode=uqN m.eff m.score p.quot:=by rw [fineQ,if_pos c1]
  rw [e1,e2] at hk
  refine xx ?_
  refine up_any m.eff m.score p.quot ue us u1 ?_
  by_cases c2:uqE m.eff m.score p.quot=0
  ·rw [if_pos c2] at hk
   refine xx ?_
   exact fin_tail (fin_here hk)
  ·rw [if_neg c2] at hk
   refine xx ?_
   exact fin_tail (fin_here hk)
 ·by_cases c3:mode=4
  ·have e1:fineE p m mode=uqE m.eff m.score p.quotEm:=by rw [fineE,if_neg c1,if_pos c3]
   have e2:fineQ p m mode=uqN m.eff m.score p.quotEm:=by rw [fineQ,if_neg c1,if_pos c3]
   rw [e1,e2] at hk
   refine xx ?_
   refine up_any m.eff m.score p.quotEm ue us u2 ?_
   by_cases c2:uqE m.eff m.score p.quotEm=0
   ·rw [if_pos c2] at hk
    refine xx ?_
    exact fin_tail (fin_here hk)
   ·rw [if_neg c2] at hk
    refine xx ?_
    exact fin_tail (fin_here hk)
  ·have e1:fineE p m mode=dwE m.eff p.absent 10000:=by rw [fineE,if_neg c1,if_neg c3]
   have e2:fineQ p m mode=dwN m.eff p.absent 10000:=by rw [fineQ,if_neg c1,if_neg c3]
   rw [e1,e2] at hk
   refine xx ?_
   refine down_any m.eff p.absent 10000 ue (by omega) (by decide) ?_
   by_cases c2:dwE m.eff p.absent 10000=0
   ·rw [if_pos c2] at hk
    refine xx ?_
    exact fin_tail (fin_here hk)
   ·rw [if_neg c2] at hk
    refine xx ?_
    exact fin_tail (fin_here hk)
theorem fof_any (p:ParD) (ok:ParOk p) (hr:parR p=true) (m:MemD) (mo:MemOk m) (mode:Int) (hk:K (.int .u64 (fineP p m mode)) L h):Spec Tryz.prog 258 [parV p,stdV m,.int .i64 mode] L h K:=by
 refine x_enter Tryz.func258 rfl (rs:=[_]) rfl rfl mixed (by kernel_rfl) rfl rfl ?_
 refine xx ?_
 refine xnew fun b1 n_b1 h_b1=>?_
 try simp only [Apart] at n_b1
 refine xx ?_
 refine xnew fun b2 n_b2 h_b2=>?_
 try simp only [Apart] at n_b2
 refine xx ?_
 refine pcheck0 p ok ?_
 rw [hr]
 refine xx ?_
 refine floss_any p ok hr m mo mode ?_
 refine xx ?_
 exact fin_tail (fin_tail (fin_here hk))
theorem cut_any (n r:Int) (hn:0≤n∧n≤18446744073709551615) (hr:0≤r∧r≤10000) (hk:K (.tuple #[.int .u64 (dwN n r 10000),.int .u64 (n-dwN n r 10000),.int .i64 0]) L h):Spec Tryz.prog 329 [.int .u64 n,.int .i64 r] L h K:=by
 have h1:n*r≤n*10000:=Int.mul_le_mul_of_nonneg_left hr.2 hn.1
 have h0:=Int.mul_nonneg hn.1 hr.1
 have e:dwE n r 10000=0:=by
  unfold dwE
  rw [if_neg (by decide),if_pos]
  omega
 have b:0≤dwN n r 10000∧dwN n r 10000≤n:=by rw [dwN,if_pos e]; omega
 refine x_enter Tryz.func329 rfl (rs:=[_,_,_]) rfl rfl mixed (by kernel_rfl) rfl rfl ?_
 refine xx ?_
 refine down_any n r 10000 hn (by omega) (by decide) ?_
 rw [e]
 refine xx ?_
 exact fin_here hk
theorem fsplit_any (p:ParD) (ok:ParOk p) (hr:parR p=true) (n:Int) (hn:0≤n∧n≤18446744073709551615) (hk:K (.tuple #[.int .u64 (burnP p n),.int .u64 (n-burnP p n)]) L h):Spec Tryz.prog 259 [parV p,.int .u64 n] L h K:=by
 have hs:=parR_streak hr
 unfold burnP at hk
 refine x_enter Tryz.func259 rfl (rs:=[_,_]) rfl rfl mixed (by kernel_rfl) rfl rfl ?_
 refine xx ?_
 refine xnew fun b1 n_b1 h_b1=>?_
 try simp only [Apart] at n_b1
 refine xx ?_
 refine pcheck0 p ok ?_
 rw [hr]
 refine xx ?_
 refine cut_any n p.burn hn (by omega) ?_
 refine xx ?_
 exact fin_tail (fin_here hk)
def fineM (p:ParD) (m:MemD) (mode:Int):MemD:={ m with bal:=m.bal-fineP p m mode }
theorem ftake_any (p:ParD) (ok:ParOk p) (hr:parR p=true) (m:MemD) (mo:MemOk m) (mode:Int) (hk:K (.tuple #[stdV (fineM p m mode),.int .u64 (burnP p (fineP p m mode)),.int .u64 (fineP p m mode-burnP p (fineP p m mode))]) L h):Spec Tryz.prog 150 [parV p,stdV m,.int .i64 mode] L h K:=by
 have ub:=mo.u m.bal (by simp)
 have fb:=fine_b ok hr mo mode
 unfold fineM at hk
 refine x_enter Tryz.func150 rfl (rs:=[_,_,_]) rfl rfl mixed (by kernel_rfl) rfl rfl ?_
 refine xx ?_
 refine xnew fun b1 n_b1 h_b1=>?_
 try simp only [Apart] at n_b1
 refine xx ?_
 refine xnew fun b2 n_b2 h_b2=>?_
 try simp only [Apart] at n_b2
 refine xx ?_
 refine xnew fun b3 n_b3 h_b3=>?_
 try simp only [Apart] at n_b3
 refine xx ?_
 refine fof_any p ok hr m mo mode ?_
 refine xx ?_
 refine fsplit_any p ok hr (fineP p m mode) (by omega) ?_
 refine xx ?_
 exact fin_tail (fin_tail (fin_tail (fin_here hk)))
def sdC (m:MemD):List Value:=[.int .u64 m.bal,.int .u64 m.eff,.int .u64 m.score,.int .i64 m.streak]
theorem sdC_len (m:MemD):(sdC m).length=4:=rfl
theorem wt_b {p:ParD} (hr:parR p=true) {m:MemD} (mo:MemOk m):0≤weightP p m∧weightP p m≤71468255805440000:=by
 have hs:=parR_streak hr
 have hb:=parR_big hr
 have ue:=mo.u m.eff (by simp)
 unfold weightP
 split
 ·decide
 ·have s0:0≤min (max m.streak 0) p.streak∧min (max m.streak 0) p.streak≤64:=by omega
  generalize min (max m.streak 0) p.streak=s at *
  have b1:=Int.mul_nonneg hs.2.2.1 s0.1
  have b2:p.boost*s≤1000*64:=Int.mul_le_mul hs.2.2.2.1 s0.2 s0.1 (by decide)
  have b3:=Int.mul_nonneg ue.1 (show 0≤1000+p.boost*s by omega)
  have b4:m.eff*(1000+p.boost*s)≤1099511627776*65000:=Int.mul_le_mul (by omega) (by omega) (by omega) (by decide)
  exact ⟨b3,by omega⟩
theorem pweight_any (p:ParD) (ok:ParOk p) (hr:parR p=true) (m:MemD) (mo:MemOk m) (hk:K (.int .u64 (weightP p m)) L h):Spec Tryz.prog 254 [parV p,stdV m] L h K:=by
 have hs:=parR_streak hr
 have ue:=mo.u m.eff (by simp)
 have wb:=wt_b hr mo
 refine x_enter Tryz.func254 rfl (rs:=[_]) rfl rfl mixed (by kernel_rfl) rfl rfl ?_
 refine xx ?_
 refine xnew fun b1 n_b1 h_b1=>?_
 try simp only [Apart] at n_b1
 refine xx ?_
 refine xnew fun b2 n_b2 h_b2=>?_
 try simp only [Apart] at n_b2
 by_cases c:p.maxEff<m.eff
 ·rw [weightP,if_pos c] at hk
  refine xx ?_
  exact fin_tail (fin_tail (fin_here hk))
 ·rw [weightP,if_neg c] at hk wb
  have s0:0≤min (max m.streak 0) p.streak∧min (max m.streak 0) p.streak≤64:=by omega
  have b1:=Int.mul_nonneg hs.2.2.1 s0.1
  have b2:p.boost*min (max m.streak 0) p.streak≤1000*64:=Int.mul_le_mul hs.2.2.2.1 s0.2 s0.1 (by decide)
  simp -dsimp -implicitDefEqProofs (disch:=first|with_reducible assumption|omega) [go_sem,xBuiltin_max]
  exact fin_tail (fin_tail (fin_here hk))
theorem tot_le {zs:List Int} {B:Int} (hz:∀ i,at0 zs i≤B):∀ k:Nat,sumK zs k≤k*B
 | 0=>by simp [sumK]
 | k+1=>by
  have:=tot_le hz k
  have:=hz k
  rw [sumK,Int.natCast_add,Int.add_mul]
  simp
  omega
theorem ws_who {p:ParD} (hr:parR p=true) {l:List MemD} (hm:∀ x∈l,MemOk x) (hn:l.length≤128):whoE (l.map (weightP p))=0:=by
 have hz:∀ i,at0 (l.map (weightP p)) i≤71468255805440000:=fun i=>by
  by_cases c:i<(l.map (weightP p)).length
  ·rw [← at0_lt c,List.getElem_map]
   exact (wt_b hr (hm _ (List.getElem_mem _))).2
  ·rw [at0_ge (by omega)]; decide
 have h1:=tot_le hz (l.map (weightP p)).length
 rw [whoE,if_pos (by rw [List.length_map]; omega),if_pos]
 rw [tot]
 rw [List.length_map] at h1 ⊢
 omega
theorem pz1_any (p:ParD) (ok:ParOk p) (hr:parR p=true) (m:MemD) (mo:MemOk m) (b1 b7:Nat) (o:Option (Nat×Nat)) (xs:List Value) (n17:b1≠b7) (ho:apB o b1) (hb:h b1=noC)
  (hk:K (.int .u64 (weightP p m)) (⟨b7,71,sdC m,4⟩::oent 22 1 o xs (⟨b1,24,parC p,24⟩::L)) h) :
  Spec Tryz.prog 253 [stdV m,.pointer (some ⟨b1,0,none⟩)] (⟨b7,71,sdC m,4⟩::oent 22 1 o xs (⟨b1,24,parC p,24⟩::L)) h K:=by
 simp only [sdC] at hk ⊢
 refine x_enter Tryz.func253 rfl (rs:=[_]) rfl rfl mixed (by kernel_rfl) rfl rfl ?_
 refine xx ?_
 refine xnew fun b2 n_b2 h_b2=>?_
 try simp only [Apart] at n_b2
 have n2:=apart_oent n_b2.2
 simp only [Apart] at n2
 simp -dsimp -implicitDefEqProofs (disch:=first|with_reducible assumption|omega) [go_sem,xFind_oent ho]
 refine pweight_any p ok hr m mo ?_
 refine xx ?_
 exact fin_tail (fin_here hk)
theorem peach_any {l:List MemD} (p:ParD) (ok:ParOk p) (hr:parR p=true) (v:Value) (hd0:Recs sdC 4 h v l) (hm:∀ x∈l,MemOk x) (hn:l.length≤100000) (b1:Nat)
  (hk:∀ h' r,PH.le h h'→Ints h' .u64 r (l.map (weightP p))→K r (⟨b1,24,parC p,24⟩::L) h') :
  Spec Tryz.prog 252 [.func (.func 253) #[] #[.pointer (some ⟨b1,0,none⟩)],v] (⟨b1,24,parC p,24⟩::L) h K:=by
 obtain ⟨a,c,rfl,hc,hl,_,hd⟩:=hd0.open
 refine x_enterA Tryz.func252 rfl (rs:=[_]) rfl rfl mixed (by kernel_rfl) rfl rfl fun ap nd=>?_
 simp only [Ap] at ap
 have hb1:=ap.1
 clear ap nd
 refine xx ?_
 refine xloop (γ:=Nat×Option (Nat×Nat)) (0,none) (fun s=>s.1≤l.length∧okO s.2 s.1∧apO s.2 (⟨b1,24,parC p,24⟩::L) h) (fun s=>[(10,.int .i64 s.1),(9,.int .i64 l.length),(8,.slice a l.length c),(5,ovs s.2 s.1),(0,.func (.func 253) #[] #[.pointer (some ⟨b1,0,none⟩)])])
  (fun s=>oent 22 1 s.2 (colU (weightP p) l s.1) (⟨b1,24,parC p,24⟩::L)) (fun _=>h) (fun s=>l.length-s.1) ?_ ?_ ?_ ?_
 ·exact ⟨Nat.zero_le _,rfl,trivial⟩
 ·simp [Ent,List.lookup,xEnv,ovs]
 ·exact Drop.refl _ _
 rintro ⟨k,o⟩ ⟨k1,k2,k3⟩
 simp only at k1 k2 k3 ⊢
 by_cases c1:k<l.length
 ·have hmem:gr zeroM l k∈l:=by rw [gr_lt c1]; exact List.getElem_mem c1
  have m1:apB o b1:=k3.head
  simp -dsimp -implicitDefEqProofs (disch:=first|with_reducible assumption|omega) [go_sem,↓idxR zeroM (by decide) hd,sdC]
  refine xnew fun b7 n_b7 h_b7=>?_
  try simp only [Apart] at n_b7
  have n7:=apart_oent n_b7
  simp only [Apart] at n7
  simp -dsimp -implicitDefEqProofs (disch:=first|with_reducible assumption|omega) [go_sem,sdC]
  refine pz1_any p ok hr (gr zeroM l k) (hm _ hmem) b1 b7 o _ n7.1 m1 hb1 ?_
  simp only [sdC]
  refine xx ?_
  refine xnew fun b8 n_b8 h_b8=>?_
  try simp only [Apart] at n_b8
  refine xx ?_
  refine xappend (t:=25) (e:=22) (sz:=1) (bytes:=8) (by kernel_rfl) tI_22 rfl rfl rfl rfl (by decide) [_,_] _ o k (colU (weightP p) l k) k2 (colU_len k1) (Src.own List.mem_cons_self) (m:=1) (news:=[.int .u64 (weightP p (gr zeroM l k))]) rfl (by intro u hu; simp only [List.mem_singleton] at hu; subst hu; rfl) (by simp [maxLen]; omega) (by omega) ?_
  intro o' j1 j2 j3
  refine xx ?_
  refine ⟨k+1,o',⟨by omega,j1,apO_tail (apO_tail j2)⟩,by omega,by simp [Ent,List.lookup],?_⟩
  rw [colU_succ zeroM c1]
  exact (Drop.tail _ _ _).trans (Drop.tail _ _ _)
 ·have hkl:k=l.length:=by omega
  subst hkl
  refine xx ?_
  exact fin_pub (n:=l.length) k2 (colU_len (Nat.le_refl _)) (by omega) k3 fun h' le sl=>fin_here (hk h' _ le (colU_ints sl fun x hx=>by have:=wt_b hr (hm x hx); omega))
def prizeL (p:ParD) (n:Int) (l:List MemD):List Int:=splitL n (tot (l.map (weightP p))) (l.map (weightP p))
theorem prizeL_len (p:ParD) (n:Int) (l:List MemD):(prizeL p n l).length=l.length:=by simp [prizeL,splitL]
theorem prizeL_at {p:ParD} (hr:parR p=true) {n:Int} (hn:0≤n) {l:List MemD} (hm:∀ x∈l,MemOk x) (i:Nat):0≤at0 (prizeL p n l) i∧at0 (prizeL p n l) i≤n:=by
 have h0:∀ i,0≤at0 (l.map (weightP p)) i:=fun i=>by
  by_cases c:i<(l.map (weightP p)).length
  ·rw [← at0_lt c,List.getElem_map]
   exact (wt_b hr (hm _ (List.getElem_mem _))).1
  ·rw [at0_ge (by omega)]; decide
 by_cases c:i<(l.map (weightP p)).length
 ·unfold prizeL splitL
  rw [at0_mapI _ _ c]
  exact part4_le hn (h0 i) (at0_le_tot h0 i)
 ·rw [at0_ge (by rw [prizeL_len]; simpa using c)]
  omega
theorem prizeL_ints {p:ParD} (hr:parR p=true) {n:Int} (hn:0≤n∧n≤18446744073709551615) {l:List MemD} (hm:∀ x∈l,MemOk x) {h:PH} {v:Value} (sl:Sl h v l.length 1 ((prizeL p n l).map (.int .u64))):Ints h .u64 v (prizeL p n l):=by
 refine ⟨by rw [prizeL_len]; exact sl,fun z hz=>?_⟩
 obtain ⟨i,hi,rfl⟩:=List.mem_iff_getElem.1 hz
 have:=prizeL_at hr hn.1 hm i
 rw [at0_lt hi]
 rw [show IntKind.u64.min=0 by decide,show IntKind.u64.max=18446744073709551615 by decide]
 omega
theorem prizes_any {l:List MemD} (p:ParD) (ok:ParOk p) (hr:parR p=true) (v:Value) (hd0:Recs sdC 4 h v l) (hm:∀ x∈l,MemOk x) (hn:l.length≤128) (n:Int) (hb:0≤n∧n≤18446744073709551615)
  (hk:∀ h' r,PH.le h h'→Ints h' .u64 r (prizeL p n l)→K (.tuple #[r,.int .u64 (n-tot (prizeL p n l)),.int .i64 0]) L h') :
  Spec Tryz.prog 146 [parV p,.int .u64 n,v] L h K:=by
 obtain ⟨a,c,rfl,hc,hl,_,hd⟩:=hd0.open
 have hw:=ws_who hr hm hn
 refine x_enter Tryz.func146 rfl (rs:=[_,_,_]) rfl rfl mixed (by kernel_rfl) rfl rfl ?_
 refine xx ?_
 refine xnew fun b1 n_b1 h_b1=>?_
 try simp only [Apart] at n_b1
 refine xx ?_
 refine pcheck0 p ok ?_
 rw [hr]
 refine xx ?_
 refine Spec.ap (peach_any p ok hr _ hd0 hm (by omega) b1 fun h1 r1 l1 i1 ap=>?_)
 simp only [Ap] at ap
 obtain ⟨p1,_⟩:=ap
 obtain ⟨ra,rc,rfl,_⟩:=i1.open
 rw [List.length_map] at i1
 refine xx ?_
 refine split_any n hb _ i1 (fun e=>absurd hw e) fun _ o j1 j2=>?_
 obtain ⟨x,y,e,hxy⟩:=ovs_open j1
 rw [e]
 refine xx ?_
 have hlen:(l.map (weightP p)).length=l.length:=List.length_map _
 refine fin_pub (n:=(l.map (weightP p)).length) j1 (by simp [splitL]) (by omega) j2 fun h' le sl=>fin_tail (fin_here ?_)
 rw [e,hlen] at sl
 exact hk h' _ (l1.trans le) (prizeL_ints hr hb hm sl)
end Go.X

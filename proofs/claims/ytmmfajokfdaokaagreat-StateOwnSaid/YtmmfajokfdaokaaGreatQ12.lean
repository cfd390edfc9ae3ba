/- Lemmas and contracts for a statement about the given program. Conditions: as each says. -/
import Derived.Laws.Externs
import Derived.Test.YtmmfajokfdaokaaGreatQ04
import Derived.Test.YtmmfajokfdaokaaGreatQ06
import Derived.Test.YtmmfajokfdaokaaGreatQ11
set_option linter.unusedVariables false
set_option linter.unusedSimpArgs false
set_option maxHeartbeats 12800000
set_option maxRecDepth 20000
namespace Go.X
open Go.RowKit Go.Proofs Go.Bl
variable {L:Own} {h:PH} {K:PK}
def sumK (zs:List Int):Nat→Int
 | 0=>0
 | k+1=>sumK zs k+at0 zs k
def tot (zs:List Int):Int:=sumK zs zs.length
theorem sumK_mono {zs:List Int} (h0:∀ i,0≤at0 zs i):∀ {k m:Nat},k≤m→sumK zs k≤sumK zs m:=fun {k m} hkm=>by
  induction m with
  | zero => have : k = 0 := by omega
            subst this; exact Int.le_refl _
  | succ m ih =>
    by_cases e:k=m+1
    · subst e; exact Int.le_refl _
    · have:=ih (by omega)
      have:=h0 m
      simp only [sumK]; omega
theorem sumK_nonneg {zs:List Int} (h0:∀ i,0≤at0 zs i) (k:Nat):0≤sumK zs k:=by
 have:=sumK_mono h0 (Nat.zero_le k)
 simpa [sumK] using this
def sumV (n:Int):Value:=if n≤18446744073709551615 then .tuple #[.int .u64 n,.int .i64 0] else .tuple #[.int .u64 0,.int .i64 10]
theorem sumV_ok {n:Int} (c:n≤18446744073709551615):sumV n = .tuple #[.int .u64 n,.int .i64 0]:=by simp [sumV,c]
theorem sumV_no {n:Int} (c:¬ n≤18446744073709551615):sumV n = .tuple #[.int .u64 0,.int .i64 10]:=by simp [sumV,c]
theorem add64_any (x y:Int) (hx:0≤x) (hy:0≤y) (hk:K (.tuple #[.int .u64 ((x+y)%18446744073709551616),.int .u64 ((x+y)/18446744073709551616)]) L h):Spec Tryz.prog 226 [.int .u64 x,.int .u64 y,.int .u64 0] L h K :=
 Spec.extern (fun W=>by
  show (callFunc 226 #[.int .u64 x,.int .u64 y,.int .u64 0]).run Tryz.prog W=_
  rw [run_callFunc_extern Tryz.func226 (by kernel_rfl) (by kernel_rfl) (by kernel_rfl) (e:=add64Entry) (by kernel_rfl),run_add64 x y 0 hx hy (by decide) (by decide),Int.add_zero]
  rfl) hk
theorem madd_any (x y:Int) (hx:0≤x∧x≤18446744073709551615) (hy:0≤y∧y≤18446744073709551615) (hk:K (sumV (x+y)) L h):Spec Tryz.prog 111 [.int .u64 x,.int .u64 y] L h K:=by
 refine x_enter Tryz.func111 rfl (rs:=[_,_]) rfl rfl mixed (by kernel_rfl) rfl rfl ?_
 refine xx ?_
 refine add64_any x y hx.1 hy.1 ?_
 by_cases c:x+y≤18446744073709551615
 ·have e1:(x+y)%18446744073709551616=x+y:=by omega
  have e2:(x+y)/18446744073709551616=0:=by omega
  rw [sumV_ok c] at hk
  rw [e1,e2]
  refine xx ?_
  exact fin_here hk
 ·have e2:(x+y)/18446744073709551616=1:=by omega
  rw [sumV_no c] at hk
  rw [e2]
  refine xx ?_
  exact fin_here hk
theorem msum_any {zs:List Int} (v:Value) (hz:Ints h .u64 v zs) (hk:K (sumV (tot zs)) L h):Spec Tryz.prog 40 [v] L h K:=by
 have hw:=hz.word
 have h0:∀ i,0≤at0 zs i:=fun i=>(hw i).1
 obtain ⟨a,c,rfl,hn,hc,_,hcs⟩:=hz.open
 refine x_enter Tryz.func40 rfl (rs:=[_,_]) rfl rfl mixed (by kernel_rfl) rfl rfl ?_
 refine xx ?_
 refine xloop' (0:Nat) (fun k=>k≤zs.length∧sumK zs k≤18446744073709551615) (fun k=>[(11,.int .i64 k),(10,.int .i64 zs.length),(9,.slice a zs.length c),(4,.int .u64 (sumK zs k))]) (fun k=>zs.length-k) ?_ ?_ ?_
 ·exact ⟨Nat.zero_le _,by simp [sumK]⟩
 ·simp [Ent,List.lookup,xEnv,sumK]
 rintro k ⟨k1,k2⟩
 by_cases c1:k<zs.length
 ·have hs:=sumK_nonneg h0 k
  simp -dsimp -implicitDefEqProofs (disch:=first|with_reducible assumption|omega) [go_sem,idx hcs]
  refine madd_any _ _ ⟨hs,k2⟩ (hw k) ?_
  by_cases c2:sumK zs k+at0 zs k≤18446744073709551615
  ·rw [sumV_ok c2]
   refine xx ?_
   exact ⟨k+1,⟨by omega,c2⟩,by omega,by simp [Ent,List.lookup,sumK],Drop.refl _ _⟩
  ·have:=sumK_mono h0 (show k+1≤zs.length by omega)
   rw [sumV_no (show ¬ tot zs≤18446744073709551615 by simp only [sumK,tot] at *; omega)] at hk
   rw [sumV_no c2]
   refine xx ?_
   exact fin_here hk
 ·have hkl:k=zs.length:=by omega
  subst hkl
  rw [sumV_ok (n:=tot zs) k2] at hk
  refine xx ?_
  exact fin_here hk
theorem pall_any {zs:List Int} (v:Value) (hz:Ints h .u64 v zs) (hk:K (sumV (tot zs)) L h):Spec Tryz.prog 224 [v] L h K:=by
 refine x_enter Tryz.func224 rfl (rs:=[_,_]) rfl rfl mixed (by kernel_rfl) rfl rfl ?_
 refine xx ?_
 refine msum_any v hz ?_
 by_cases c:tot zs≤18446744073709551615
 ·rw [sumV_ok c] at hk ⊢
  refine xx ?_
  exact fin_here hk
 ·rw [sumV_no c] at hk ⊢
  refine xx ?_
  exact fin_here hk
theorem swithin_any {zs:List Int} (most:Int) (v:Value) (hz:Ints h .u64 v zs) (hm:most≤18446744073709551615) (hk:K (.bool (decide (tot zs≤most))) L h):Spec Tryz.prog 109 [.int .u64 most,v] L h K:=by
 refine x_enter Tryz.func109 rfl (rs:=[_]) rfl rfl mixed (by kernel_rfl) rfl rfl ?_
 refine xx ?_
 refine msum_any v hz ?_
 by_cases c:tot zs≤18446744073709551615
 ·rw [sumV_ok c]
  refine xx ?_
  exact fin_here hk
 ·rw [decide_eq_false (show ¬ tot zs≤most by omega)] at hk
  rw [sumV_no c]
  refine xx ?_
  exact fin_here hk
theorem sgood_any {zs:List Int} (v:Value) (hz:Ints h .i64 v zs) (hk:K (.bool (zs.all fun z=>decide (z=0))) L h):Spec Tryz.prog 112 [v] L h K:=by
 obtain ⟨a,c,rfl,hn,hc,_,hcs⟩:=hz.open
 refine x_enter Tryz.func112 rfl (rs:=[_]) rfl rfl mixed (by kernel_rfl) rfl rfl ?_
 refine xx ?_
 refine xloop' (0:Nat) (fun k=>k≤zs.length∧∀ j,j<k→at0 zs j=0) (fun k=>[(7,.int .i64 k),(6,.int .i64 zs.length),(5,.slice a zs.length c)]) (fun k=>zs.length-k) ?_ ?_ ?_
 ·exact ⟨Nat.zero_le _,fun j hj=>by omega⟩
 ·simp [Ent,List.lookup,xEnv]
 rintro k ⟨k1,k2⟩
 by_cases c1:k<zs.length
 ·by_cases c2:at0 zs k=0
  ·simp -dsimp -implicitDefEqProofs (disch:=first|with_reducible assumption|omega) [go_sem,idx hcs]
   refine ⟨k+1,⟨by omega,fun j hj=>?_⟩,by omega,by simp [Ent,List.lookup],Drop.refl _ _⟩
   by_cases e:j=k
   ·subst e; exact c2
   ·exact k2 j (by omega)
  ·have:(zs.all fun z=>decide (z=0))=false:=by
    rw [List.all_eq_false]
    exact ⟨zs[k],List.getElem_mem c1,by simp [at0_lt,c2]⟩
   rw [this] at hk
   simp -dsimp -implicitDefEqProofs (disch:=first|with_reducible assumption|omega) [go_sem,idx hcs]
   exact fin_here hk
 ·have:(zs.all fun z=>decide (z=0))=true:=by
   rw [List.all_eq_true]
   intro x hx
   obtain ⟨j,hj,rfl⟩:=List.mem_iff_getElem.1 hx
   simp [at0_lt,k2 j (by omega)]
  rw [this] at hk
  refine xx ?_
  exact fin_here hk
def colU {α:Type} (f:α→Int) (l:List α) (k:Nat):List Value:=((l.take k).map f).map (.int .u64)
theorem colU_len {α:Type} {f:α→Int} {l:List α} {k:Nat} (hk:k≤l.length):(colU f l k).length=k*1:=by simp [colU,hk]
theorem colU_succ {α:Type} {f:α→Int} {l:List α} {k:Nat} (z:α) (hk:k<l.length):colU f l (k+1)=colU f l k++[.int .u64 (f (gr z l k))]:=by
 rw [gr_lt hk,colU,colU,List.take_succ_eq_append_getElem hk,List.map_append,List.map_append]; rfl
theorem colU_ints {α:Type} {f:α→Int} {l:List α} {h:PH} {v:Value} (sl:Sl h v l.length 1 (colU f l l.length)) (hm:∀ x∈l,0≤f x∧f x≤18446744073709551615):Ints h .u64 v (l.map f):=by
 refine ⟨?_,fun z hz=>?_⟩
 ·simpa [colU] using sl
 ·obtain ⟨x,hx,rfl⟩:=List.mem_map.1 hz
  exact hm x hx
theorem balances_any {l:List MemD} (v:Value) (hd0:Recs memC 6 h v l) (hm:∀ x∈l,MemOk x) (hn:l.length≤100000) (hk:∀ h' r,PH.le h h'→Ints h' .u64 r (l.map MemD.bal)→K r L h'):Spec Tryz.prog 223 [v] L h K:=by
 obtain ⟨a,c,rfl,hc,hl,_,hd⟩:=hd0.open
 refine x_enter Tryz.func223 rfl (rs:=[_]) rfl rfl mixed (by kernel_rfl) rfl rfl ?_
 refine xx ?_
 refine xloop (γ:=Nat×Option (Nat×Nat)) (0,none) (fun s=>s.1≤l.length∧okO s.2 s.1∧apO s.2 L h) (fun s=>[(8,.int .i64 s.1),(7,.int .i64 l.length),(6,.slice a l.length c),(3,ovs s.2 s.1)])
  (fun s=>oent 22 1 s.2 (colU MemD.bal l s.1) L) (fun _=>h) (fun s=>l.length-s.1) ?_ ?_ ?_ ?_
 ·exact ⟨Nat.zero_le _,rfl,trivial⟩
 ·simp [Ent,List.lookup,xEnv,ovs]
 ·exact Drop.refl _ _
 rintro ⟨k,o⟩ ⟨k1,k2,k3⟩
 simp only at k1 k2 k3 ⊢
 by_cases c1:k<l.length
 ·simp -dsimp -implicitDefEqProofs (disch:=first|with_reducible assumption|omega) [go_sem,↓idxR zeroM (by decide) hd,memC]
  refine xnew fun b1 n_b1 h_b1=>?_
  try simp only [Apart] at n_b1
  simp -dsimp -implicitDefEqProofs (disch:=first|with_reducible assumption|omega) [go_sem,memC]
  refine xnew fun b2 n_b2 h_b2=>?_
  try simp only [Apart] at n_b2
  simp -dsimp -implicitDefEqProofs (disch:=first|with_reducible assumption|omega) [go_sem,memC]
  refine xappend (t:=25) (e:=22) (sz:=1) (bytes:=8) (by kernel_rfl) tI_22 rfl rfl rfl rfl (by decide) [_,_] L o k (colU MemD.bal l k) k2 (colU_len k1) (Src.own List.mem_cons_self) (m:=1) (news:=[.int .u64 (gr zeroM l k).bal]) rfl (by intro u hu; simp only [List.mem_singleton] at hu; subst hu; rfl) (by simp [maxLen]; omega) (by omega) ?_
  intro o' j1 j2 j3
  refine xx ?_
  refine ⟨k+1,o',⟨by omega,j1,apO_tail (apO_tail j2)⟩,by omega,by simp [Ent,List.lookup],?_⟩
  rw [colU_succ zeroM c1]
  exact (Drop.tail _ _ _).trans (Drop.tail _ _ _)
 ·have hkl:k=l.length:=by omega
  subst hkl
  refine xx ?_
  exact fin_pub (n:=l.length) k2 (colU_len (Nat.le_refl _)) (by omega) k3 fun h' le sl=>fin_here (hk h' _ le (colU_ints sl fun x hx=>(hm x hx).u _ (by simp)))
theorem amtDep_any (d:DepD) (hk:K (.int .u64 d.amt) L h):Spec Tryz.prog 315 [.agg #[.int .i64 d.acct,.int .i64 d.mem,.int .u64 d.amt,.bool d.new]] L h K:=by
 refine x_enter Tryz.func315 rfl (rs:=[_]) rfl rfl mixed (by kernel_rfl) rfl rfl ?_
 refine xx ?_
 refine xnew fun b1 n_b1 h_b1=>?_
 try simp only [Apart] at n_b1
 refine xx ?_
 exact fin_tail (fin_here hk)
theorem amtDue_any (d:DueD) (hk:K (.int .u64 d.amt) L h):Spec Tryz.prog 317 [.agg #[.int .i64 d.acct,.int .i64 d.at',.int .u64 d.amt]] L h K:=by
 refine x_enter Tryz.func317 rfl (rs:=[_]) rfl rfl mixed (by kernel_rfl) rfl rfl ?_
 refine xx ?_
 refine xnew fun b1 n_b1 h_b1=>?_
 try simp only [Apart] at n_b1
 refine xx ?_
 exact fin_tail (fin_here hk)
theorem amountsDep_any {l:List DepD} (v:Value) (hd0:Recs depC 4 h v l) (hn:l.length≤100000) (hk:∀ o,okO o l.length→apO o L h→K (ovs o l.length) (oent 22 1 o (colU DepD.amt l l.length) L) h):Spec Tryz.prog 314 [v,.func (.func 315) #[] #[]] L h K:=by
 obtain ⟨a,c,rfl,hc,hl,_,hd⟩:=hd0.open
 refine x_enter Tryz.func314 rfl (rs:=[_]) rfl rfl mixed (by kernel_rfl) rfl rfl ?_
 refine xx ?_
 refine xloop (γ:=Nat×Option (Nat×Nat)) (0,none) (fun s=>s.1≤l.length∧okO s.2 s.1∧apO s.2 L h) (fun s=>[(10,.int .i64 s.1),(9,.int .i64 l.length),(8,.slice a l.length c),(5,ovs s.2 s.1),(1,.func (.func 315) #[] #[])])
  (fun s=>oent 22 1 s.2 (colU DepD.amt l s.1) L) (fun _=>h) (fun s=>l.length-s.1) ?_ ?_ ?_ ?_
 ·exact ⟨Nat.zero_le _,rfl,trivial⟩
 ·simp [Ent,List.lookup,xEnv,ovs]
 ·exact Drop.refl _ _
 rintro ⟨k,o⟩ ⟨k1,k2,k3⟩
 simp only at k1 k2 k3 ⊢
 by_cases c1:k<l.length
 ·simp -dsimp -implicitDefEqProofs (disch:=first|with_reducible assumption|omega) [go_sem,↓idxR zeroDep (by decide) hd,depC]
  refine xnew fun b1 n_b1 h_b1=>?_
  try simp only [Apart] at n_b1
  simp -dsimp -implicitDefEqProofs (disch:=first|with_reducible assumption|omega) [go_sem,depC]
  refine amtDep_any (gr zeroDep l k) ?_
  refine xx ?_
  refine xnew fun b2 n_b2 h_b2=>?_
  try simp only [Apart] at n_b2
  refine xx ?_
  refine xappend (t:=25) (e:=22) (sz:=1) (bytes:=8) (by kernel_rfl) tI_22 rfl rfl rfl rfl (by decide) [_,_] L o k (colU DepD.amt l k) k2 (colU_len k1) (Src.own List.mem_cons_self) (m:=1) (news:=[.int .u64 (gr zeroDep l k).amt]) rfl (by intro u hu; simp only [List.mem_singleton] at hu; subst hu; rfl) (by simp [maxLen]; omega) (by omega) ?_
  intro o' j1 j2 j3
  refine xx ?_
  refine ⟨k+1,o',⟨by omega,j1,apO_tail (apO_tail j2)⟩,by omega,by simp [Ent,List.lookup],?_⟩
  rw [colU_succ zeroDep c1]
  exact (Drop.tail _ _ _).trans (Drop.tail _ _ _)
 ·have hkl:k=l.length:=by omega
  subst hkl
  refine xx ?_
  exact fin_here (hk o k2 k3)
theorem amountsDue_any {l:List DueD} (v:Value) (hd0:Recs dueC 3 h v l) (hn:l.length≤100000) (hk:∀ o,okO o l.length→apO o L h→K (ovs o l.length) (oent 22 1 o (colU DueD.amt l l.length) L) h):Spec Tryz.prog 316 [v,.func (.func 317) #[] #[]] L h K:=by
 obtain ⟨a,c,rfl,hc,hl,_,hd⟩:=hd0.open
 refine x_enter Tryz.func316 rfl (rs:=[_]) rfl rfl mixed (by kernel_rfl) rfl rfl ?_
 refine xx ?_
 refine xloop (γ:=Nat×Option (Nat×Nat)) (0,none) (fun s=>s.1≤l.length∧okO s.2 s.1∧apO s.2 L h) (fun s=>[(10,.int .i64 s.1),(9,.int .i64 l.length),(8,.slice a l.length c),(5,ovs s.2 s.1),(1,.func (.func 317) #[] #[])])
  (fun s=>oent 22 1 s.2 (colU DueD.amt l s.1) L) (fun _=>h) (fun s=>l.length-s.1) ?_ ?_ ?_ ?_
 ·exact ⟨Nat.zero_le _,rfl,trivial⟩
 ·simp [Ent,List.lookup,xEnv,ovs]
 ·exact Drop.refl _ _
 rintro ⟨k,o⟩ ⟨k1,k2,k3⟩
 simp only at k1 k2 k3 ⊢
 by_cases c1:k<l.length
 ·simp -dsimp -implicitDefEqProofs (disch:=first|with_reducible assumption|omega) [go_sem,↓idxR zeroDue (by decide) hd,dueC]
  refine xnew fun b1 n_b1 h_b1=>?_
  try simp only [Apart] at n_b1
  simp -dsimp -implicitDefEqProofs (disch:=first|with_reducible assumption|omega) [go_sem,dueC]
  refine amtDue_any (gr zeroDue l k) ?_
  refine xx ?_
  refine xnew fun b2 n_b2 h_b2=>?_
  try simp only [Apart] at n_b2
  refine xx ?_
  refine xappend (t:=25) (e:=22) (sz:=1) (bytes:=8) (by kernel_rfl) tI_22 rfl rfl rfl rfl (by decide) [_,_] L o k (colU DueD.amt l k) k2 (colU_len k1) (Src.own List.mem_cons_self) (m:=1) (news:=[.int .u64 (gr zeroDue l k).amt]) rfl (by intro u hu; simp only [List.mem_singleton] at hu; subst hu; rfl) (by simp [maxLen]; omega) (by omega) ?_
  intro o' j1 j2 j3
  refine xx ?_
  refine ⟨k+1,o',⟨by omega,j1,apO_tail (apO_tail j2)⟩,by omega,by simp [Ent,List.lookup],?_⟩
  rw [colU_succ zeroDue c1]
  exact (Drop.tail _ _ _).trans (Drop.tail _ _ _)
 ·have hkl:k=l.length:=by omega
  subst hkl
  refine xx ?_
  exact fin_here (hk o k2 k3)
theorem Spec.fin {f:FuncId} {args:List Value} {L:Own} {h:PH} {K:PK} (hs:Spec Tryz.prog f args L h fun v L' h'=>fin K v L' h'):Spec Tryz.prog f args L h K :=
 ⟨trivial,fun W hg=>(hs.2 W hg).mono fun e W' ⟨r,L',h',he,⟨L2,h2,hd,hk⟩,st⟩=>by
  obtain ⟨g,f⟩:=hd W' st.1
  refine ⟨r,L2,h2,he,hk,g,st.2.1,fun e he=>?_⟩
  obtain ⟨e',he',hb⟩:=List.mem_map.1 (f e he)
  rw [← hb]; exact st.2.2 e' he'⟩
theorem fin_forget {v:Value} {h':PH} (le:PH.le h h') (hk:fin K v L h):fin K v L h':=by
 obtain ⟨L2,h2,hd,hk⟩:=hk
 exact ⟨L2,h2,(Drop.forget le).trans hd,hk⟩
theorem tot_nil:tot []=0:=rfl
theorem psum_any {l:List DepD} {m:List DueD} (v u:Value) (hv:Recs depC 4 h v l) (hu:Recs dueC 3 h u m) (hl:∀ x∈l,DepOk x) (hm:∀ x∈m,DueOk x) (nl:l.length≤100000) (nm:m.length≤100000)
  (hk:K (sumV (tot (l.map DepD.amt++m.map DueD.amt))) L h):Spec Tryz.prog 225 [v,u] L h K:=by
 have ov:=hv.open
 obtain ⟨va,vc,rfl,_⟩:=ov
 have ou:=hu.open
 obtain ⟨ua,uc,rfl,_⟩:=ou
 refine x_enter Tryz.func225 rfl (rs:=[_,_]) rfl rfl mixed (by kernel_rfl) rfl rfl ?_
 refine xx ?_
 refine amountsDep_any _ hv nl fun o k1 k2=>?_
 refine xx ?_
 refine amountsDue_any _ hu nm fun o2 j1 j2=>?_
 refine xx ?_
 have c1:=colU_len (f:=DepD.amt) (l:=l) (Nat.le_refl _)
 have c2:=colU_len (f:=DueD.amt) (l:=m) (Nat.le_refl _)
 have conv:∀ (h':PH) (w:Value),Sl h' w (l.length+m.length) 1 (colU DepD.amt l l.length++colU DueD.amt m m.length)→Ints h' .u64 w (l.map DepD.amt++m.map DueD.amt):=fun h' w sl=>by
  refine ⟨?_,fun z hz=>?_⟩
  ·simpa [colU] using sl
  ·rcases List.mem_append.1 hz with hz | hz
   ·obtain ⟨x,hx,rfl⟩:=List.mem_map.1 hz
    exact (hl x hx).a
   ·obtain ⟨x,hx,rfl⟩:=List.mem_map.1 hz
    exact (hm x hx).a
 cases o2 with
 | none =>
  have hm0:m.length=0:=j1
  have hm0':m=[]:=List.eq_nil_of_length_eq_zero hm0
  subst hm0'
  have hk:K (sumV (tot (l.map DepD.amt))) L h:=by simpa using hk
  simp only [oent,ovs]
  refine xappend (t:=25) (e:=22) (sz:=1) (bytes:=8) (by kernel_rfl) tI_22 rfl rfl rfl rfl (by decide) [] L o l.length (colU DepD.amt l l.length) k1 c1 (Src.known (n:=0) (sz:=1) (cs:=[]) (nil_ints h .u64).1) (m:=0) (news:=[]) rfl (by simp) (by simp [maxLen]; omega) (by omega) ?_
  intro o' i1 i2 i3
  refine xx ?_
  refine call_pub (n:=l.length) i1 (by simpa using c1) (by omega) i2 fun h' le sl=>?_
  refine msum_any (zs:=l.map DepD.amt) _ (by simpa using conv h' _ (by simpa [colU] using sl)) ?_
  by_cases c:tot (l.map DepD.amt)≤18446744073709551615
  ·rw [sumV_ok c] at hk ⊢
   refine xx ?_
   exact fin_forget le (fin_here hk)
  ·rw [sumV_no c] at hk ⊢
   refine xx ?_
   exact fin_forget le (fin_here hk)
 | some p =>
  obtain ⟨b2,cap2⟩:=p
  simp only [oent,ovs]
  refine xappend (t:=25) (e:=22) (sz:=1) (bytes:=8) (by kernel_rfl) tI_22 rfl rfl rfl rfl (by decide) [_] L o l.length (colU DepD.amt l l.length) k1 c1 (Src.own List.mem_cons_self) (m:=m.length) (news:=colU DueD.amt m m.length) c2 (by intro u hu; simp only [colU,List.mem_map] at hu; obtain ⟨_,_,rfl⟩:=hu; rfl) (by simp [maxLen]; omega) (by omega) ?_
  intro o' i1 i2 i3
  refine xx ?_
  refine call_drop (call_pub (n:=l.length+m.length) i1 (by rw [List.length_append,c1,c2]; omega) (by omega) (apO_tail i2) fun h' le sl=>?_)
  refine msum_any _ (conv h' _ sl) ?_
  by_cases c:tot (l.map DepD.amt++m.map DueD.amt)≤18446744073709551615
  ·rw [sumV_ok c] at hk ⊢
   refine xx ?_
   exact fin_forget le (fin_here hk)
  ·rw [sumV_no c] at hk ⊢
   refine xx ?_
   exact fin_forget le (fin_here hk)
def sStk (s:StD):Int:=tot (s.members.map MemD.bal)
def sPur (s:StD):Int:=tot s.purses
def sPool (s:StD):Int:=tot (s.pool.map DepD.amt)
def sDue (s:StD):Int:=tot (s.dues.map DueD.amt)
def errU (n:Int):Int:=if n≤18446744073709551615 then 0 else 10
theorem sumV_fst (n:Int):sumV n = .tuple #[.int .u64 (if n≤18446744073709551615 then n else 0),.int .i64 (errU n)]:=by
 unfold sumV errU; split<;>rfl
structure FewS (s:StD):Prop where
 p:s.purses.length≤100000
 m:s.members.length≤100000
 e:s.entry.length≤100000
 x:s.exit.length≤100000
 o:s.pool.length≤100000
 d:s.dues.length≤100000
 t:s.motions.length≤100000
 r:s.ring.length≤100000
theorem tot_five (a b c d e:Int):tot [a,b,c,d,e]=a+b+c+d+e:=by simp [tot,sumK,at0]
theorem tot_two (a b:Int):tot [a,b]=a+b:=by simp [tot,sumK,at0]
theorem tot_nonneg {zs:List Int} (h0:∀ i,0≤at0 zs i):0≤tot zs:=sumK_nonneg h0 _
def partsOk (s:StD):Bool:=decide (sStk s≤18446744073709551615)&&decide (sPur s≤18446744073709551615)&&decide (sPool s≤18446744073709551615)&&decide (sDue s≤18446744073709551615)
def partsV (s:StD):Value:=if partsOk s then .tuple #[.agg #[.int .u64 (sStk s),.int .u64 (sPur s),.int .u64 (sPool s),.int .u64 (sDue s),.int .u64 s.treas],.int .i64 0] else .tuple #[.agg #[.int .u64 0,.int .u64 0,.int .u64 0,.int .u64 0,.int .u64 0],.int .i64 10]
theorem errU_all (a b c d:Int):([errU a,errU b,errU c,errU d].all fun z=>decide (z=0))=(decide (a≤18446744073709551615)&&decide (b≤18446744073709551615)&&decide (c≤18446744073709551615)&&decide (d≤18446744073709551615)):=by
 have e:∀ n,decide (errU n=0)=decide (n≤18446744073709551615):=fun n=>by unfold errU; split<;>simp [*]
 simp only [List.all_cons,List.all_nil,e,Bool.and_true,Bool.and_assoc]
theorem parts_any {s:StD} (v:SV) (hs:IsSt h v s) (few:FewS s) (hk:K (partsV s) L h):Spec Tryz.prog 108 [stV s v] L h K:=by
 obtain ⟨pa,pc,hp,_⟩:=hs.p.open
 obtain ⟨ma,mc,hm,_⟩:=hs.m.open
 obtain ⟨oa,oc,ho,_⟩:=hs.o.open
 obtain ⟨da,dc,hd,_⟩:=hs.d.open
 refine x_enter Tryz.func108 rfl (rs:=[_,_]) rfl rfl mixed (by kernel_rfl) rfl rfl ?_
 refine xx ?_
 refine xnew fun b1 n_b1 h_b1=>?_
 try simp only [Apart] at n_b1
 refine xx ?_
 refine xnew fun b2 n_b2 h_b2=>?_
 try simp only [Apart] at n_b2
 refine xx ?_
 refine Spec.apn (balances_any _ hs.m hs.mo few.m fun h1 r1 le1 i1 ap nd=>?_)
 obtain ⟨ap1,ap2,ap3⟩:=ap
 refine xx ?_
 refine msum_any _ i1 ?_
 rw [sumV_fst]
 refine xx ?_
 refine pall_any _ (hs.p.up le1) ?_
 rw [sumV_fst]
 refine xx ?_
 refine psum_any _ _ (hs.o.up le1) (Recs.nil dueC_len h1) hs.oo (fun x hx=>by cases hx) few.o (by simp) ?_
 simp only [List.map_nil,List.append_nil]
 rw [sumV_fst]
 refine xx ?_
 refine psum_any _ _ (Recs.nil depC_len h1) (hs.d.up le1) (fun x hx=>by cases hx) hs.dd (by simp) few.d ?_
 simp only [List.map_nil,List.nil_append]
 rw [sumV_fst]
 refine xx ?_
 refine xnew fun b3 n_b3 h_b3=>?_
 try simp only [Apart] at n_b3
 refine xx ?_
 refine call_pub_at (sz:=1) (n:=4) (cap:=4) [] ⟨Nat.le_refl _,by decide⟩ rfl (by decide) h_b3 fun h2 le2 s2 f2=>?_
 have q1:h2 b2=noC:=by rw [f2 _ n_b3.1]; exact ap1
 have q2:h2 b1=noC:=by rw [f2 _ n_b3.2.1]; exact ap2
 refine sgood_any (zs:=[errU (sStk s),errU (sPur s),errU (sPool s),errU (sDue s)]) _ ⟨s2,fun z hz=>?_⟩ ?_
 ·simp only [List.mem_cons,List.not_mem_nil,or_false] at hz
  rcases hz with rfl | rfl | rfl | rfl<;>(unfold errU; split<;>decide)
 rw [errU_all]
 cases hB:partsOk s with
 | false =>
  rw [partsV,if_neg (by rw [hB]; exact Bool.false_ne_true)] at hk
  rw [partsOk] at hB
  rw [hB]
  simp only [List.nil_append]
  refine xx ?_
  exact fin_tail (fin_tail (fin_forget (le1.trans le2) (fin_here hk)))
 | true =>
  rw [partsV,if_pos hB] at hk
  rw [partsOk] at hB
  rw [hB]
  simp only [partsOk,Bool.and_eq_true,decide_eq_true_eq] at hB
  obtain ⟨⟨⟨e1,e2⟩,e3⟩,e4⟩:=hB
  simp only [sStk,sPur,sPool,sDue] at e1 e2 e3 e4 hk
  simp only [if_pos e1,if_pos e2,if_pos e3,if_pos e4]
  simp only [List.nil_append]
  refine xx ?_
  exact fin_tail (fin_tail (fin_forget (le1.trans le2) (fin_here hk)))
theorem total_any (a b c d e:Int) (ha:0≤a∧a≤18446744073709551615) (hb:0≤b∧b≤18446744073709551615) (hc:0≤c∧c≤18446744073709551615) (hd:0≤d∧d≤18446744073709551615) (he:0≤e∧e≤18446744073709551615)
  (hk:K (sumV (a+b+c+d+e)) L h):Spec Tryz.prog 110 [.agg #[.int .u64 a,.int .u64 b,.int .u64 c,.int .u64 d,.int .u64 e]] L h K:=by
 rw [sumV_fst] at hk
 refine x_enter Tryz.func110 rfl (rs:=[_,_]) rfl rfl mixed (by kernel_rfl) rfl rfl ?_
 refine xx ?_
 refine xnew fun b1 n_b1 h_b1=>?_
 try simp only [Apart] at n_b1
 refine xx ?_
 refine xnew fun b2 n_b2 h_b2=>?_
 try simp only [Apart] at n_b2
 refine xx ?_
 refine call_pub_at (sz:=1) (n:=5) (cap:=5) [] ⟨Nat.le_refl _,by decide⟩ rfl (by decide) h_b2 fun h2 le2 s2 f2=>?_
 refine msum_any (zs:=[a,b,c,d,e]) _ ⟨s2,fun z hz=>?_⟩ ?_
 ·simp only [List.mem_cons,List.not_mem_nil,or_false] at hz
  rcases hz with rfl | rfl | rfl | rfl | rfl<;>assumption
 rw [tot_five,sumV_fst]
 simp only [List.nil_append]
 refine xx ?_
 exact fin_tail (fin_forget le2 (fin_here hk))
def sAll (s:StD):Int:=sStk s+sPur s+sPool s+sDue s+s.treas
def holdsB (s:StD):Bool:=decide (s.gen+s.mint≤s.most)&&decide (s.most≤4611686018427387904)&&decide (sAll s+s.burn=s.gen+s.mint)
theorem at0_map {α:Type} (f:α→Int) (l:List α) (hm:∀ x∈l,0≤f x) (i:Nat):0≤at0 (l.map f) i:=by
 unfold at0
 by_cases hi:i<l.length
 ·rw [List.getD_eq_getElem?_getD,List.getElem?_map,List.getElem?_eq_getElem hi]
  exact hm _ (List.getElem_mem hi)
 ·rw [List.getD_eq_getElem?_getD,List.getElem?_map,List.getElem?_eq_none (by omega)]
  exact Int.le_refl _
theorem IsSt.parts {v:SV} {s:StD} (hs:IsSt h v s):0≤sStk s∧0≤sPur s∧0≤sPool s∧0≤sDue s :=
 ⟨tot_nonneg fun i=>at0_map _ _ (fun x hx=>((hs.mo x hx).u _ (by simp)).1) i,tot_nonneg fun i=>(hs.p.word i).1,tot_nonneg fun i=>at0_map _ _ (fun x hx=>(hs.oo x hx).a.1) i,tot_nonneg fun i=>at0_map _ _ (fun x hx=>(hs.dd x hx).a.1) i⟩
theorem holds_any {s:StD} (v:SV) (hs:IsSt h v s) (few:FewS s) (hk:K (.bool (holdsB s)) L h):Spec Tryz.prog 34 [stV s v] L h K:=by
 obtain ⟨p1,p2,p3,p4⟩:=hs.parts
 have um:0≤s.most∧s.most≤18446744073709551615:=hs.ok.u _ (by simp)
 have ug:0≤s.gen∧s.gen≤18446744073709551615:=hs.ok.u _ (by simp)
 have ui:0≤s.mint∧s.mint≤18446744073709551615:=hs.ok.u _ (by simp)
 have ub:0≤s.burn∧s.burn≤18446744073709551615:=hs.ok.u _ (by simp)
 have ut:0≤s.treas∧s.treas≤18446744073709551615:=hs.ok.u _ (by simp)
 obtain ⟨pa,pc,hp,_⟩:=hs.p.open
 refine x_enter Tryz.func34 rfl (rs:=[_]) rfl rfl mixed (by kernel_rfl) rfl rfl ?_
 refine xx ?_
 refine xnew fun b1 n_b1 h_b1=>?_
 try simp only [Apart] at n_b1
 refine xx ?_
 refine parts_any v hs few ?_
 have hS:sAll s=sStk s+sPur s+sPool s+sDue s+s.treas:=rfl
 by_cases c1:partsOk s=true
 ·rw [partsV,if_pos c1]
  simp only [partsOk,Bool.and_eq_true,decide_eq_true_eq] at c1
  obtain ⟨⟨⟨e1,e2⟩,e3⟩,e4⟩:=c1
  refine xx ?_
  refine xnew fun b2 n_b2 h_b2=>?_
  try simp only [Apart] at n_b2
  refine xx ?_
  by_cases c2:4611686018427387904<s.most
  ·rw [show holdsB s=false by simp only [holdsB]; rw [decide_eq_false (show ¬ s.most≤4611686018427387904 by omega)]; simp] at hk
   refine xx ?_
   exact fin_tail (fin_tail (fin_here hk))
  ·refine xx ?_
   refine xnew fun b3 n_b3 h_b3=>?_
   try simp only [Apart] at n_b3
   refine xx ?_
   refine call_pub_at (sz:=1) (n:=2) (cap:=2) [] ⟨Nat.le_refl _,by decide⟩ rfl (by decide) h_b3 fun h2 le2 s2 f2=>?_
   have q1:h2 b2=noC:=by rw [f2 _ n_b3.1]; exact h_b2
   have q2:h2 b1=noC:=by rw [f2 _ n_b3.2.1]; exact h_b1
   refine swithin_any (zs:=[s.gen,s.mint]) s.most _ ⟨s2,fun z hz=>?_⟩ um.2 ?_
   ·simp only [List.mem_cons,List.not_mem_nil,or_false] at hz
    rcases hz with rfl | rfl<;>assumption
   rw [tot_two]
   simp only [List.nil_append]
   by_cases c3:s.gen+s.mint≤s.most
   ·rw [decide_eq_true c3]
    refine xx ?_
    refine total_any _ _ _ _ _ ⟨p1,e1⟩ ⟨p2,e2⟩ ⟨p3,e3⟩ ⟨p4,e4⟩ ut ?_
    rw [← hS]
    by_cases c4:sAll s≤18446744073709551615
    ·rw [sumV_ok c4]
     refine xx ?_
     refine madd_any _ _ ⟨by omega,c4⟩ ub ?_
     rw [sumV_fst]
     refine xx ?_
     refine madd_any _ _ ug ui ?_
     rw [sumV_ok (show s.gen+s.mint≤18446744073709551615 by omega)]
     refine xx ?_
     refine xnew fun b4 n_b4 h_b4=>?_
     try simp only [Apart] at n_b4
     refine xx ?_
     refine call_pub_at (sz:=1) (n:=2) (cap:=2) [] ⟨Nat.le_refl _,by decide⟩ rfl (by decide) h_b4 fun h3 le3 s3 f3=>?_
     refine sgood_any (zs:=[errU (sAll s+s.burn),0]) _ ⟨s3,fun z hz=>?_⟩ ?_
     ·simp only [List.mem_cons,List.not_mem_nil,or_false] at hz
      rcases hz with rfl | rfl
      ·unfold errU; split<;>decide
      ·decide
     simp only [List.nil_append,List.all_cons,List.all_nil,Bool.and_true]
     by_cases c5:sAll s+s.burn≤18446744073709551615
     ·have:holdsB s=decide (sAll s+s.burn=s.gen+s.mint):=by simp only [holdsB,decide_eq_true c3,decide_eq_true (show s.most≤4611686018427387904 by omega),Bool.true_and]
      rw [this] at hk
      simp only [errU,if_pos c5,decide_true]
      refine xx ?_
      exact fin_tail (fin_tail (fin_forget (le2.trans le3) (fin_here hk)))
     ·have:holdsB s=false:=by simp only [holdsB]; rw [decide_eq_false (show ¬ sAll s+s.burn=s.gen+s.mint by omega)]; simp
      rw [this] at hk
      simp only [errU,if_neg c5]
      refine xx ?_
      exact fin_tail (fin_tail (fin_forget (le2.trans le3) (fin_here hk)))
    ·have:holdsB s=false:=by simp only [holdsB]; rw [decide_eq_false (show ¬ sAll s+s.burn=s.gen+s.mint by omega)]; simp
     rw [this] at hk
     rw [sumV_no c4]
     refine xx ?_
     exact fin_tail (fin_tail (fin_forget le2 (fin_here hk)))
   ·have:holdsB s=false:=by simp only [holdsB]; rw [decide_eq_false c3]; simp
    rw [this] at hk
    rw [decide_eq_false c3]
    refine xx ?_
    exact fin_tail (fin_tail (fin_forget le2 (fin_here hk)))
 ·have:holdsB s=false:=by
   have hn:¬ (sStk s≤18446744073709551615∧sPur s≤18446744073709551615∧sPool s≤18446744073709551615∧sDue s≤18446744073709551615):=fun ⟨a,b,c,d⟩=>c1 (by simp [partsOk,a,b,c,d])
   simp only [holdsB]
   by_cases a:s.gen+s.mint≤s.most
   ·by_cases b:s.most≤4611686018427387904
    ·rw [decide_eq_false (show ¬ sAll s+s.burn=s.gen+s.mint by omega)]; simp
    ·simp [b]
   ·simp [a]
  rw [this] at hk
  rw [partsV,if_neg c1]
  refine xx ?_
  refine xnew fun b2 n_b2 h_b2=>?_
  try simp only [Apart] at n_b2
  refine xx ?_
  exact fin_tail (fin_tail (fin_here hk))
def pv (ds:List Int):Nat→Int
 | 0=>0
 | k+1=>pv ds k+at0 ds k*10 ^ k
def Dg (ds:List Int):Prop:=∀ j,0≤at0 ds j∧at0 ds j≤9
def vl (ds:List Int):Int:=pv ds ds.length
theorem p10 (k:Nat):(0:Int)<10 ^ k:=Int.pow_pos (by decide)
theorem at0_set (ds:List Int) (j:Nat) (s:Int) (i:Nat) (hj:j<ds.length):at0 (ds.set j s) i=if i=j then s else at0 ds i:=by
 simp only [at0,List.getD_eq_getElem?_getD,List.getElem?_set]
 by_cases e:i=j
 ·subst e; simp [hj]
 ·simp [e,Ne.symm e]
theorem Dg.set {ds:List Int} (hd:Dg ds) (j:Nat) (s:Int) (hj:j<ds.length) (h0:0≤s) (h1:s≤9):Dg (ds.set j s):=by
 intro i
 rw [at0_set ds j s i hj]
 split
 ·exact ⟨h0,h1⟩
 ·exact hd i
theorem at0_append (ds:List Int) (s:Int) (i:Nat):at0 (ds++[s]) i=if i<ds.length then at0 ds i else if i=ds.length then s else 0:=by
 simp only [at0,List.getD_eq_getElem?_getD]
 by_cases e:i<ds.length
 ·simp [e,List.getElem?_append_left e]
 ·rw [if_neg e,List.getElem?_append_right (by omega)]
  by_cases e2:i=ds.length
  ·subst e2; simp
  ·rw [if_neg e2,List.getElem?_eq_none (by simp; omega)]; rfl
theorem Dg.append {ds:List Int} (hd:Dg ds) {s:Int} (h0:0≤s) (h1:s≤9):Dg (ds++[s]):=by
 intro i
 rw [at0_append]
 have:=hd i
 split
 ·exact this
 ·split
  ·exact ⟨h0,h1⟩
  ·omega
def Nt (h:PH) (v:Value) (n:Int) (m:Nat):Prop:=∃ s ds,v = .agg #[s]∧Ints h .i64 s ds∧Dg ds∧vl ds=n∧ds.length≤m
theorem Nt.up {h h':PH} (le:PH.le h h') {v:Value} {n:Int} {m:Nat} (hs:Nt h v n m):Nt h' v n m:=by
 obtain ⟨s,ds,h1,h2,h3⟩:=hs
 exact ⟨s,ds,h1,h2.up le,h3⟩
theorem at0_take (ds:List Int) (k j:Nat):at0 (ds.take k) j=if j<k then at0 ds j else 0:=by
 simp only [at0,List.getD_eq_getElem?_getD,List.getElem?_take]
 split<;>rfl
end Go.X

/- Lemmas and contracts for a statement about the given program. Conditions: as each says. -/
import Derived.Test.YtmmfajokfdaokaaGreatQ23
import Derived.Test.YtmmfajokfdaokaaGreatQ25
set_option linter.unusedVariables false
set_option linter.unusedSimpArgs false
set_option maxHeartbeats 12800000
set_option maxRecDepth 20000
namespace Go.X
open Go.RowKit Go.Proofs Go.Bl
variable {L:Own} {h:PH} {K:PK}
def hvK (ds:List Int):Nat→Int
 | 0=>0
 | j+1=>hvK ds j*10+at0 ds (ds.length-1-j)
theorem hvK_vl (ds:List Int):∀ j,j≤ds.length→vl ds=hvK ds j*10 ^ (ds.length-j)+pv ds (ds.length-j)
 | 0,_=>by simp [hvK,vl]
 | j+1,hj=>by
  have ih:=hvK_vl ds j (by omega)
  have e:ds.length-j=(ds.length-(j+1))+1:=by omega
  have e2:ds.length-1-j=ds.length-(j+1):=by omega
  rw [e,pv,Int.pow_succ] at ih
  rw [ih,hvK,e2,Int.add_mul,Int.mul_assoc,Int.mul_comm (10 ^ (ds.length-(j+1))) 10]
  omega
theorem hvK_all (ds:List Int):hvK ds ds.length=vl ds:=by
 have:=hvK_vl ds ds.length (Nat.le_refl _)
 rw [Nat.sub_self,Int.pow_zero,Int.mul_one,pv] at this
 omega
theorem hvK_nonneg {ds:List Int} (hd:Dg ds):∀ j,0≤hvK ds j
 | 0=>Int.le_refl _
 | j+1=>by
  have:=hvK_nonneg hd j
  have:=(hd (ds.length-1-j)).1
  rw [hvK]; omega
theorem hvK_le {ds:List Int} (hd:Dg ds) {j:Nat} (hj:j≤ds.length):hvK ds j≤vl ds:=by
 have h1:=hvK_vl ds j hj
 have h2:=(pv_bound hd (ds.length-j)).1
 have h3:hvK ds j*1≤hvK ds j*10 ^ (ds.length-j):=Int.mul_le_mul_of_nonneg_left (p10 _) (hvK_nonneg hd j)
 omega
theorem div_step {A m d:Int} (hA:0≤A) (hm:0<m) (hd:0≤d∧d≤9):(A*10+d)/m=A/m*10+(A%m*10+d)/m∧(A*10+d)%m=(A%m*10+d)%m∧0≤(A%m*10+d)/m∧(A%m*10+d)/m≤9:=by
 have h1:=Int.mul_ediv_add_emod A m
 have h2:=Int.emod_nonneg A (show m≠0 by omega)
 have h3:=Int.emod_lt_of_pos A hm
 have e:A*10+d=(A%m*10+d)+m*(A/m*10):=by
  rw [← Int.mul_assoc]
  omega
 refine ⟨?_,?_,Int.ediv_nonneg (by omega) (by omega),?_⟩
 ·rw [e,Int.add_mul_ediv_left _ _ (by omega)]; omega
 ·rw [e,Int.add_mul_emod_self_left]
 ·have:(A%m*10+d)/m<10:=Int.ediv_lt_of_lt_mul hm (by omega)
  omega
theorem vl_bnd {ds:List Int} (hd:Dg ds):0≤vl ds∧vl ds<10 ^ ds.length:=pv_bound hd _
theorem Dg.cons {d:Int} {rs:List Int} (h0:0≤d∧d≤9) (hr:Dg rs):Dg (d::rs)
 | 0=>h0
 | j+1=>hr j
def u64E (n:Int):Bool:=decide (n≤18446744073709551615)
def u64N (n:Int):Int:=if n≤18446744073709551615 then n else 0
theorem uint_any {n:Int} {k:Nat} (v:Value) (ha:Nt h v n k) (hk:∀ h',PH.le h h'→K (.tuple #[.int .u64 (u64N n),.bool (u64E n)]) L h'):Spec Tryz.prog 48 [v] L h K:=by
 have ha0:=ha
 obtain ⟨s,ds,rfl,hs,hd,rfl,hdl⟩:=ha
 obtain ⟨a,ca,rfl,hna,hca,_,hcx⟩:=hs.open
 have hv0:=(vl_bnd hd).1
 refine x_enter Tryz.func48 rfl (rs:=[_,_]) rfl rfl mixed (by kernel_rfl) rfl rfl ?_
 refine xx ?_
 refine xnew fun b1 n_b1 h_b1=>?_
 try simp only [Apart] at n_b1
 refine xx ?_
 refine xanyl (.tkl 0 (.or true 1 (.or true 2 (.tk 3 (.fin)) (.nil)) (.nil))) (by kernel_rfl) (by kernel_rfl) _ (Drop.refl _ _) ?_
 refine xx ?_
 have most:∀ {K':PK},(∀ h2 r2,PH.le h h2→Nt h2 r2 18446744073709551615 20→h2 b1=noC→K' r2 (⟨b1,112,[.slice a ds.length ca],1⟩::L) h2)→Spec Tryz.prog 126 [] (⟨b1,112,[.slice a ds.length ca],1⟩::L) h K':=fun {K'} hK=>by
  refine x_enter Tryz.func126 rfl (rs:=[_]) rfl rfl mixed (by kernel_rfl) rfl rfl ?_
  refine xx ?_
  refine xnew fun b5 n_b5 h_b5=>?_
  try simp only [Apart] at n_b5
  refine xx ?_
  refine Spec.apn (of_any 18446744073709551615 (by decide) (by decide) fun h2 r2 le2 n2 ap nd=>?_)
  obtain ⟨_,p1,_⟩:=ap
  obtain ⟨ta,tk,tc,rfl⟩:=n2.sl
  refine xx ?_
  exact fin_tail (fin_here (hK _ _ le2 n2 p1))
 refine most fun h2 r2 le2 n2 p1=>?_
 obtain ⟨ma,mk,mc,rfl⟩:=n2.sl
 refine xkp (Drop.forget le2) ?_
 refine xx ?_
 refine cmp_any _ _ (ha0.up le2) n2 ?_
 refine xkp (Drop.forget le2) ?_
 have hcx':∀ j,j<ds.length→elemCell h2 a j=some (Value.int .i64 (at0 ds j)):=fun j hj=>elemCell_up le2 (hcx j hj)
 by_cases c:vl ds≤18446744073709551615
 ·have e1:u64E (vl ds)=true:=decide_eq_true c
  have e2:u64N (vl ds)=vl ds:=by rw [u64N,if_pos c]
  have h3:=hk h2 le2
  rw [e1,e2] at h3
  have c2:¬ 0<cmp3 (vl ds) 18446744073709551615:=by
   unfold cmp3
   split
   ·decide
   ·split
    ·omega
    ·decide
  refine xx ?_
  refine xloop (γ:=Nat) 0 (fun j=>j≤ds.length) (fun j=>[(4,.int .u64 (hvK ds j)),(5,.int .i64 ((ds.length:Int)-1-j)),(1,.pointer (some ⟨b1,0,none⟩))])
   (fun _=>⟨b1,112,[.slice a ds.length ca],1⟩::L) (fun _=>h2) (fun j=>ds.length-j) ?_ ?_ ?_ ?_
  ·exact Nat.zero_le _
  ·simp [Ent,List.lookup,hvK]
  ·exact Drop.refl _ _
  intro j hj
  by_cases c3:j<ds.length
  ·have hle:=hvK_le hd (show j+1≤ds.length from c3)
   have h0:=hvK_nonneg hd j
   obtain ⟨i,hi⟩:∃ i,i=ds.length-1-j:=⟨_,rfl⟩
   have ei:((ds.length:Int)-1-j).toNat=i:=by omega
   have hdi:=hd i
   have es:hvK ds (j+1)=hvK ds j*10+at0 ds i:=by rw [hvK,hi]
   simp -dsimp -implicitDefEqProofs (disch:=first|with_reducible assumption|omega) [go_sem,idx hcx',ei]
   exact ⟨j+1,c3,by omega,by simp [Ent,List.lookup,es]; omega,Drop.refl _ _⟩
  ·have hkl:j=ds.length:=by omega
   subst hkl
   rw [hvK_all]
   refine xx ?_
   exact fin_tail (fin_here h3)
 ·have e1:u64E (vl ds)=false:=decide_eq_false c
  have e2:u64N (vl ds)=0:=by rw [u64N,if_neg c]
  have h3:=hk h2 le2
  rw [e1,e2] at h3
  have c2:0<cmp3 (vl ds) 18446744073709551615:=by
   unfold cmp3
   rw [if_neg (by omega),if_pos (by omega)]
   decide
  refine xx ?_
  exact fin_tail (fin_here h3)
theorem part4_le {t w x:Int} (ht:0≤t) (hx:0≤x) (hxw:x≤w):0≤part4 t w x∧part4 t w x≤t:=by
 unfold part4
 split
 ·rename_i c
  refine ⟨Int.ediv_nonneg (Int.mul_nonneg ht hx) (by omega),?_⟩
  have h1:t*x≤t*w:=Int.mul_le_mul_of_nonneg_left hxw ht
  have h2:t*x/w≤t*w/w:=Int.ediv_le_ediv c h1
  rwa [Int.mul_ediv_cancel _ (by omega)] at h2
 ·omega
end Go.X

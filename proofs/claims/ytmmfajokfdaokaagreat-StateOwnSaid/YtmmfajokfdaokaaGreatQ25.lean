/- Lemmas and contracts for a statement about the given program. Conditions: as each says. -/
import Derived.Test.YtmmfajokfdaokaaGreatQ15
import Derived.Test.YtmmfajokfdaokaaGreatQ18
import Derived.Test.YtmmfajokfdaokaaGreatQ22
set_option linter.unusedVariables false
set_option linter.unusedSimpArgs false
set_option maxHeartbeats 12800000
set_option maxRecDepth 20000
namespace Go.X
open Go.RowKit Go.Proofs Go.Bl
variable {L:Own} {h:PH} {K:PK}
structure BeOk (ms:List MemD) (ps:List Int):Prop where
 m:∀ x∈ms,MemOk x
 o:∀ x∈ms,0≤x.owner∧x.owner<ps.length
 p:∀ i,0≤at0 ps i
 t:tot ps+tot (ms.map MemD.bal)≤4611686018427387904
theorem gr_mem {α:Type} {z:α} {l:List α} {k:Nat} (hk:k<l.length):gr z l k∈l:=by
 rw [gr_lt hk]; exact List.getElem_mem hk
theorem at0_bal {ms:List MemD} {k:Nat} (hk:k<ms.length):at0 (ms.map MemD.bal) k=(gr zeroM ms k).bal:=by
 rw [gr_lt hk,← at0_lt (by simpa using hk),List.getElem_map]
theorem bal_pos {ms:List MemD} (hm:∀ x∈ms,MemOk x) (i:Nat):0≤at0 (ms.map MemD.bal) i :=
 at0_map MemD.bal ms (fun x hx=>((hm x hx).u x.bal (by simp)).1) i
def clStep (q:ParD) (x:List MemD×List Int) (k:Nat):List MemD×List Int :=
 (x.1.set k (clampM q (gr zeroM x.1 k)),x.2.set (gr zeroM x.1 k).owner.toNat (at0 x.2 (gr zeroM x.1 k).owner.toNat+((gr zeroM x.1 k).bal-min (gr zeroM x.1 k).bal q.cap)))
def clN (q:ParD) (x:List MemD×List Int):Nat→List MemD×List Int
 | 0=>x
 | k+1=>clStep q (clN q x k) k
theorem clampM_ok {q:ParD} (ok:ParOk q) {m:MemD} (hm:MemOk m):MemOk (clampM q m):=by
 have u1:=hm.u m.bal (by simp)
 have u2:=hm.u m.eff (by simp)
 have u3:=hm.u m.score (by simp)
 have n1:=hm.n m.streak (by simp)
 have n2:=hm.n m.owner (by simp)
 have n3:=hm.n m.status (by simp)
 have c1:=ok.w q.cap (by simp [wides])
 have c2:=ok.w q.scoreCap (by simp [wides])
 have c3:=ok.n q.streak (by simp [narrows])
 constructor
 ·intro z hz
  simp only [clampM,trimM,List.mem_cons,List.not_mem_nil,or_false] at hz
  rcases hz with rfl | rfl | rfl<;>omega
 ·intro z hz
  simp only [clampM,trimM,List.mem_cons,List.not_mem_nil,or_false] at hz
  rcases hz with rfl | rfl | rfl<;>omega
theorem clStep_len (q:ParD) (x:List MemD×List Int) (k:Nat):(clStep q x k).1.length=x.1.length∧(clStep q x k).2.length=x.2.length:=by
 simp [clStep]
theorem clN_len (q:ParD) (x:List MemD×List Int):∀ k,(clN q x k).1.length=x.1.length∧(clN q x k).2.length=x.2.length
 | 0=>⟨rfl,rfl⟩
 | k+1=>by
  have h1:=clN_len q x k
  have h2:=clStep_len q (clN q x k) k
  exact ⟨h2.1.trans h1.1,h2.2.trans h1.2⟩
theorem clStep_ok {q:ParD} (ok:ParOk q) {x:List MemD×List Int} (hx:BeOk x.1 x.2) {k:Nat} (hk:k<x.1.length):BeOk (clStep q x k).1 (clStep q x k).2:=by
 obtain ⟨m,hm⟩:∃ m,m=gr zeroM x.1 k:=⟨_,rfl⟩
 have hmem:m∈x.1:=hm ▸ gr_mem hk
 have ho:=hx.o m hmem
 have ub:=(hx.m m hmem).u m.bal (by simp)
 have hc:=ok.w q.cap (by simp [wides])
 have hb:at0 (x.1.map MemD.bal) k=m.bal:=hm ▸ at0_bal hk
 have hj:m.owner.toNat<x.2.length:=by omega
 rw [clStep,← hm]
 refine ⟨fun y hy=>?_,fun y hy=>?_,fun i=>?_,?_⟩
 ·rcases List.mem_or_eq_of_mem_set hy with hy | rfl
  ·exact hx.m y hy
  ·exact clampM_ok ok (hx.m m hmem)
 ·simp only [List.length_set]
  rcases List.mem_or_eq_of_mem_set hy with hy | rfl
  ·exact hx.o y hy
  ·exact ho
 ·have h0:=hx.p i
  have h1:=hx.p m.owner.toNat
  simp only
  rw [at0_set _ _ _ _ hj]
  split<;>omega
 ·have h0:=hx.t
  simp only
  rw [List.map_set,tot_set hj,tot_set (by simpa using hk),hb]
  have:(clampM q m).bal=min m.bal q.cap:=rfl
  rw [this]
  omega
theorem clN_ok {q:ParD} (ok:ParOk q) {x:List MemD×List Int} (hx:BeOk x.1 x.2):∀ k,k≤x.1.length→BeOk (clN q x k).1 (clN q x k).2
 | 0,_=>hx
 | k+1,hk=>clStep_ok ok (clN_ok ok hx k (by omega)) (by rw [(clN_len q x k).1]; omega)
theorem clStep_tot {q:ParD} (ok:ParOk q) {x:List MemD×List Int} (hx:BeOk x.1 x.2) {k:Nat} (hk:k<x.1.length):tot (clStep q x k).2+tot ((clStep q x k).1.map MemD.bal)=tot x.2+tot (x.1.map MemD.bal):=by
 obtain ⟨m,hm⟩:∃ m,m=gr zeroM x.1 k:=⟨_,rfl⟩
 have hmem:m∈x.1:=hm ▸ gr_mem hk
 have ho:=hx.o m hmem
 have hb:at0 (x.1.map MemD.bal) k=m.bal:=hm ▸ at0_bal hk
 have hj:m.owner.toNat<x.2.length:=by omega
 rw [clStep,← hm]
 simp only
 rw [List.map_set,tot_set hj,tot_set (by simpa using hk),hb]
 have:(clampM q m).bal=min m.bal q.cap:=rfl
 rw [this]
 omega
theorem clN_tot {q:ParD} (ok:ParOk q) {x:List MemD×List Int} (hx:BeOk x.1 x.2):∀ k,k≤x.1.length→tot (clN q x k).2+tot ((clN q x k).1.map MemD.bal)=tot x.2+tot (x.1.map MemD.bal)
 | 0,_=>rfl
 | k+1,hk=>(clStep_tot ok (clN_ok ok hx k (by omega)) (by rw [(clN_len q x k).1]; omega)).trans (clN_tot ok hx k (by omega))
theorem cl_room {q:ParD} (ok:ParOk q) {x:List MemD×List Int} (hx:BeOk x.1 x.2) {k:Nat} (hk:k<x.1.length):at0 x.2 (gr zeroM x.1 k).owner.toNat+((gr zeroM x.1 k).bal-min (gr zeroM x.1 k).bal q.cap)≤4611686018427387904:=by
 have h1:=at0_le_tot hx.p (gr zeroM x.1 k).owner.toNat
 have h2:=at0_le_tot (bal_pos hx.m) k
 rw [at0_bal hk] at h2
 have h3:=hx.t
 have ub:=(hx.m _ (gr_mem (z:=zeroM) hk)).u (gr zeroM x.1 k).bal (by simp)
 have hc:=ok.w q.cap (by simp [wides])
 omega
abbrev cntM (m:MemD):Prop:=m.status=2∨m.status=3
def upN (f:MemD→MemD) (l:List MemD):Nat→List MemD
 | 0=>l
 | k+1=>(upN f l k).set k (f (gr zeroM l k))
theorem upN_len (f:MemD→MemD) (l:List MemD):∀ k,(upN f l k).length=l.length
 | 0=>rfl
 | k+1=>by rw [upN,List.length_set]; exact upN_len f l k
theorem upN_gr (f:MemD→MemD) (l:List MemD):∀ k,k≤l.length→∀ j,gr zeroM (upN f l k) j=if j<k then f (gr zeroM l j) else gr zeroM l j
 | 0,_,j=>by simp [upN]
 | k+1,hk,j=>by
  have ih:=upN_gr f l k (by omega) j
  have hl:=upN_len f l k
  have hl1:=upN_len f l (k+1)
  by_cases e:j=k
  ·subst e
   rw [gr_lt (by omega),if_pos (by omega)]
   simp only [upN,List.getElem_set_self]
  ·by_cases hj:j<l.length
   ·rw [gr_lt (by omega)] at ih ⊢
    simp only [upN]
    rw [List.getElem_set_ne (Ne.symm e),ih]
    by_cases c:j<k
    ·rw [if_pos c,if_pos (by omega)]
    ·rw [if_neg c,if_neg (by omega)]
   ·have h1:gr zeroM (upN f l (k+1)) j=gr zeroM l j:=by
     unfold gr
     rw [List.getD_eq_getElem?_getD,List.getD_eq_getElem?_getD,List.getElem?_eq_none (by omega),List.getElem?_eq_none (by omega)]
    rw [h1,if_neg (by omega)]
theorem upN_at (f:MemD→MemD) (l:List MemD) {k:Nat} (hk:k<l.length):gr zeroM (upN f l k) k=gr zeroM l k:=by
 rw [upN_gr f l k (by omega),if_neg (by omega)]
theorem upN_same (f:MemD→MemD) (l:List MemD) {k:Nat} (hk:k<l.length) (hf:f (gr zeroM l k)=gr zeroM l k):upN f l (k+1)=upN f l k:=by
 have hl:=upN_len f l k
 have h1:=upN_at f l hk
 rw [gr_lt (by omega)] at h1
 rw [upN,hf,← h1,List.set_getElem_self]
theorem upN_all (f:MemD→MemD) (l:List MemD):upN f l l.length=l.map f:=by
 refine List.ext_getElem (by rw [upN_len,List.length_map]) fun j h1 h2=>?_
 have hj:j<l.length:=by rwa [upN_len] at h1
 rw [← gr_lt (z:=zeroM) h1,upN_gr f l _ (Nat.le_refl _),if_pos hj,gr_lt hj,List.getElem_map]
theorem upN_ok {f:MemD→MemD} {l:List MemD} (P:MemD→Prop) (hf:∀ x,P x→P (f x)) (hl:∀ x∈l,P x):∀ k,k≤l.length→∀ x∈upN f l k,P x
 | 0,_=>hl
 | k+1,hk=>fun x hx=>by
  rw [upN] at hx
  rcases List.mem_or_eq_of_mem_set hx with hx | rfl
  ·exact upN_ok P hf hl k (by omega) x hx
  ·exact hf _ (hl _ (gr_mem (by omega)))
theorem clN_up (q:ParD) (x:List MemD×List Int):∀ k,k≤x.1.length→(clN q x k).1=upN (clampM q) x.1 k
 | 0,_=>rfl
 | k+1,hk=>by
  have ih:=clN_up q x k (by omega)
  show (clN q x k).1.set k (clampM q (gr zeroM (clN q x k).1 k))=_
  rw [ih,upN_at _ _ (by omega)]; rfl
def setF (q:ParD) (m:MemD):MemD:=if cntM m then settleM q m else m
abbrev ejP (q:ParD) (m:MemD):Prop:=cntM m∧m.bal≤q.floor
def endM (m:MemD):MemD:=⟨0,0,m.score,0,m.owner,4⟩
def ejF (q:ParD) (m:MemD):MemD:=if ejP q m then endM m else m
theorem endM_ok {m:MemD} (hm:MemOk m):MemOk (endM m):=by
 have u3:=hm.u m.score (by simp)
 have n2:=hm.n m.owner (by simp)
 constructor
 ·intro z hz
  simp only [endM,List.mem_cons,List.not_mem_nil,or_false] at hz
  rcases hz with rfl | rfl | rfl<;>omega
 ·intro z hz
  simp only [endM,List.mem_cons,List.not_mem_nil,or_false] at hz
  rcases hz with rfl | rfl | rfl<;>omega
theorem settleM_ok {q:ParD} (ok:ParOk q) (hr:parR q=true) {m:MemD} (hm:MemOk m):MemOk (settleM q m):=by
 have u1:=hm.u m.bal (by simp)
 have u2:=hm.u m.eff (by simp)
 have u3:=hm.u m.score (by simp)
 have n1:=hm.n m.streak (by simp)
 have n2:=hm.n m.owner (by simp)
 have n3:=hm.n m.status (by simp)
 have hw:=wholeP_ok (inc_pos hr) ok u1
 have ue:0≤(settleM q m).eff∧(settleM q m).eff≤18446744073709551615:=by
  unfold settleM
  simp only
  split
  ·unfold nextP; split
   ·exact hw
   ·exact u2
  ·exact hw
 constructor
 ·intro z hz
  simp only [List.mem_cons,List.not_mem_nil,or_false] at hz
  rcases hz with rfl | rfl | rfl
  ·exact u1
  ·exact ue
  ·exact u3
 ·intro z hz
  simp only [settleM,List.mem_cons,List.not_mem_nil,or_false] at hz
  rcases hz with rfl | rfl | rfl<;>omega
theorem setF_ok {q:ParD} (ok:ParOk q) (hr:parR q=true) {m:MemD} (hm:MemOk m):MemOk (setF q m):=by
 unfold setF; split
 ·exact settleM_ok ok hr hm
 ·exact hm
theorem ejF_ok {q:ParD} {m:MemD} (hm:MemOk m):MemOk (ejF q m):=by
 unfold ejF; split
 ·exact endM_ok hm
 ·exact hm
theorem sumK_sum (zs:List Int):∀ k,k≤zs.length→sumK zs k=(zs.take k).sum
 | 0,_=>by simp [sumK]
 | k+1,hk=>by
  rw [sumK,sumK_sum zs k (by omega),List.take_succ_eq_append_getElem hk,List.sum_append,at0_lt hk]
  simp
theorem tot_sum (zs:List Int):tot zs=zs.sum:=by
 rw [tot,sumK_sum zs _ (Nat.le_refl _),List.take_length]
def sameK (d x:DueD):Bool:=decide (x.acct=d.acct)&&decide (x.at'=d.at')
def placeL (l:List DueD) (t:Int):Nat→Nat
 | 0=>0
 | k+1=>if (gr zeroDue l k).at'≤t then k+1 else placeL l t k
theorem placeL_le (l:List DueD) (t:Int):∀ k,placeL l t k≤k
 | 0=>Nat.le_refl _
 | k+1=>by
  have:=placeL_le l t k
  rw [placeL]; split<;>omega
def fstK (l:List DueD) (d:DueD):Nat:=l.findIdx (sameK d)
def addD (x d:DueD):DueD:=⟨x.acct,x.at',x.amt+d.amt⟩
def insD (l:List DueD) (d:DueD):List DueD:=l.take (placeL l d.at' l.length)++d::l.drop (placeL l d.at' l.length)
def oweL (l:List DueD) (d:DueD):List DueD :=
 if d.amt=0 then l else if fstK l d<l.length then l.set (fstK l d) (addD (gr zeroDue l (fstK l d)) d) else insD l d
def dTot (l:List DueD):Int:=tot (l.map DueD.amt)
theorem dTot_sum (l:List DueD):dTot l=(l.map DueD.amt).sum:=tot_sum _
theorem insD_tot (l:List DueD) (d:DueD):dTot (insD l d)=dTot l+d.amt:=by
 rw [dTot_sum,dTot_sum,insD]
 conv=>rhs; rw [← List.take_append_drop (placeL l d.at' l.length) l]
 rw [List.map_append,List.map_cons,List.map_append,List.sum_append,List.sum_append,List.sum_cons]
 omega
theorem at0_amt {l:List DueD} {k:Nat} (hk:k<l.length):at0 (l.map DueD.amt) k=(gr zeroDue l k).amt:=by
 rw [gr_lt hk,← at0_lt (by simpa using hk),List.getElem_map]
theorem oweL_tot (l:List DueD) (d:DueD):dTot (oweL l d)=dTot l+d.amt:=by
 unfold oweL
 split
 ·omega
 ·split
  ·rename_i h1
   rw [dTot,List.map_set,tot_set (by simpa using h1),at0_amt h1]
   simp only [addD,dTot]
   omega
  ·exact insD_tot l d
theorem oweL_len (l:List DueD) (d:DueD):(oweL l d).length≤l.length+1:=by
 unfold oweL
 split
 ·omega
 ·split
  ·simp
  ·have:=placeL_le l d.at' l.length
   simp only [insD,List.length_append,List.length_cons,List.length_take,List.length_drop]
   omega
theorem mem_oweL {l:List DueD} {d x:DueD} (hx:x∈oweL l d):x∈l∨x=d∨(fstK l d<l.length∧x=addD (gr zeroDue l (fstK l d)) d):=by
 unfold oweL at hx
 split at hx
 ·exact .inl hx
 ·split at hx
  ·rename_i h1
   rcases List.mem_or_eq_of_mem_set hx with hx | hx
   ·exact .inl hx
   ·exact .inr (.inr ⟨h1,hx⟩)
  ·simp only [insD,List.mem_append,List.mem_cons] at hx
   rcases hx with hx | rfl | hx
   ·exact .inl (List.mem_of_mem_take hx)
   ·exact .inr (.inl rfl)
   ·exact .inl (List.mem_of_mem_drop hx)
structure DuOk (l:List DueD) (n:Nat) (M:Int):Prop where
 d:∀ x∈l,DueOk x
 t:dTot l≤M
 n:l.length≤n
theorem amt_pos {l:List DueD} (hl:∀ x∈l,DueOk x) (i:Nat):0≤at0 (l.map DueD.amt) i:=at0_map DueD.amt l (fun x hx=>(hl x hx).a.1) i
theorem amt_le {l:List DueD} (hl:∀ x∈l,DueOk x) {k:Nat} (hk:k<l.length):(gr zeroDue l k).amt≤dTot l:=by
 rw [← at0_amt hk]; exact at0_le_tot (amt_pos hl) k
theorem grD_mem {l:List DueD} {k:Nat} (hk:k<l.length):gr zeroDue l k∈l:=gr_mem hk
theorem oweL_ok {l:List DueD} {d:DueD} {n:Nat} {M:Int} (hl:DuOk l n M) (hd:DueOk d) (hM:M+d.amt≤4611686018427387904):DuOk (oweL l d) (n+1) (M+d.amt):=by
 refine ⟨fun x hx=>?_,?_,?_⟩
 ·rcases mem_oweL hx with hx | rfl | ⟨h1,rfl⟩
  ·exact hl.d x hx
  ·exact hd
  ·have h2:=hl.d _ (grD_mem h1)
   have h3:=amt_le hl.d h1
   have h4:=hl.t
   have h5:=hd.a
   refine ⟨?_,h2.n⟩
   have:=h2.a
   show 0≤(gr zeroDue l (fstK l d)).amt+d.amt∧(gr zeroDue l (fstK l d)).amt+d.amt≤18446744073709551615
   omega
 ·rw [oweL_tot]; have:=hl.t; omega
 ·have:=oweL_len l d; have:=hl.n; omega
def dueOf (t:Int) (m:MemD):DueD:=⟨m.owner,t,m.bal⟩
def duN (q:ParD) (cs:List MemD) (t:Int) (ds:List DueD):Nat→List DueD
 | 0=>ds
 | k+1=>if ejP q (gr zeroM cs k) then oweL (duN q cs t ds k) (dueOf t (gr zeroM cs k)) else duN q cs t ds k
def dropI (l:List Int) (k:Nat):List Int:=l.filter fun x=>decide (x≠(k:Int))
def exN (q:ParD) (cs:List MemD) (xs:List Int):Nat→List Int
 | 0=>xs
 | k+1=>if ejP q (gr zeroM cs k) then dropI (exN q cs xs k) k else exN q cs xs k
def ouN (q:ParD) (cs:List MemD):Nat→List Int
 | 0=>[]
 | k+1=>if ejP q (gr zeroM cs k) then ouN q cs k++[(k:Int)] else ouN q cs k
theorem dropI_len (l:List Int) (k:Nat):(dropI l k).length≤l.length:=List.length_filter_le _ _
theorem exN_len (q:ParD) (cs:List MemD) (xs:List Int):∀ k,(exN q cs xs k).length≤xs.length
 | 0=>Nat.le_refl _
 | k+1=>by
  have h1:=exN_len q cs xs k
  have h2:=dropI_len (exN q cs xs k) k
  rw [exN]; split<;>omega
theorem ouN_len (q:ParD) (cs:List MemD):∀ k,(ouN q cs k).length≤k
 | 0=>Nat.le_refl _
 | k+1=>by
  have h1:=ouN_len q cs k
  rw [ouN]; split
  ·rw [List.length_append]; simp; omega
  ·omega
def flt (l:List Int) (k:Int):List Int:=l.filter fun x=>decide (x≠k)
theorem flt_succ {xs:List Int} {k:Int} {j:Nat} (hj:j<xs.length):flt (xs.take (j+1)) k=flt (xs.take j) k++(if at0 xs j≠k then [at0 xs j] else []):=by
 rw [List.take_succ_eq_append_getElem hj,flt,List.filter_append,← at0_lt hj,flt]
 by_cases c:xs[j]=k
 ·simp [c]
 ·simp [c]
theorem flt_none {xs:List Int} {k:Int} (h:∀ j,j<xs.length→at0 xs j≠k):flt xs k=xs:=by
 rw [flt,List.filter_eq_self]
 intro x hx
 obtain ⟨j,hj,rfl⟩:=List.mem_iff_getElem.1 hx
 have:=h j hj
 rw [← at0_lt hj] at this
 simpa using this
theorem flt_first {xs:List Int} {k:Int}:∀ {i:Nat},i≤xs.length→(∀ j,j<i→at0 xs j≠k)→flt (xs.take i) k=xs.take i
 | i,hi,h=>flt_none fun j hj=>by
  have hj2:j<i:=by simp only [List.length_take] at hj; omega
  rw [at0_take,if_pos hj2]
  exact h j hj2
theorem flt_len (xs:List Int) (k:Int):(flt xs k).length≤xs.length:=List.length_filter_le _ _
theorem take_set_succ {cs:List Int} {i:Nat} {v:Int} (hi:i<cs.length):(cs.set i v).take (i+1)=cs.take i++[v]:=by
 rw [List.take_succ_eq_append_getElem (by simpa using hi),List.getElem_set_self,List.take_set_of_le (Nat.le_refl i)]
theorem fstK_at {l:List DueD} {d:DueD} {i:Nat} (hi:i<l.length) (h1:sameK d (gr zeroDue l i)=true) (h2:∀ j,j<i→sameK d (gr zeroDue l j)=false):fstK l d=i:=by
 rw [fstK,List.findIdx_eq hi]
 refine ⟨by rw [← gr_lt (z:=zeroDue) hi]; exact h1,fun j hj=>?_⟩
 rw [← gr_lt (z:=zeroDue) (by omega)]
 exact h2 j hj
theorem fstK_no {l:List DueD} {d:DueD} (h2:∀ j,j<l.length→sameK d (gr zeroDue l j)=false):¬ fstK l d<l.length:=by
 have:fstK l d=l.length:=by
  rw [fstK,List.findIdx_eq_length]
  intro x hx
  obtain ⟨j,hj,rfl⟩:=List.mem_iff_getElem.1 hx
  rw [← gr_lt (z:=zeroDue) hj]
  exact h2 j hj
 omega
def insA (l:List DueD) (i:Nat) (d:DueD):List DueD:=l.take i++d::l.drop i
def fI (zs:List Int) (x:Int):Int:=if firstN (fun k=>decide (at0 zs k=x)) zs.length 0=zs.length then -1 else (firstN (fun k=>decide (at0 zs k=x)) zs.length 0:Nat)
theorem fI_iff (zs:List Int) (x:Int):0≤fI zs x↔x∈zs:=by
 obtain ⟨_,h2,h3,h4⟩:=firstN_spec (fun k=>decide (at0 zs k=x)) zs.length 0
 unfold fI
 constructor
 ·intro h
  split at h
  ·omega
  ·rename_i c
   have:=h4 (by omega)
   simp only [decide_eq_true_eq] at this
   rw [← this,← at0_lt (by omega)]
   exact List.getElem_mem _
 ·intro h
  obtain ⟨j,hj,e⟩:=List.mem_iff_getElem.1 h
  rw [if_neg]
  ·omega
  ·intro c
   have:=h3 j (by omega) (by omega)
   rw [at0_lt hj] at e
   simp [e] at this
end Go.X

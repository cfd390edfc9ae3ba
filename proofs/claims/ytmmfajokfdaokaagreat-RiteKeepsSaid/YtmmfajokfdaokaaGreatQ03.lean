/- Lemmas and contracts. Conditions: as each says. -/
import Derived.WalkKit
set_option linter.unusedVariables false
set_option linter.unusedSimpArgs false
set_option maxHeartbeats 12800000
set_option maxRecDepth 20000
namespace Go.Bl
open Go.RowKit
def at0 (zs:List Int)(j:Nat):Int:=zs.getD j 0
theorem Yx {zs:List Int}{j:Nat}(h:j<zs.length):zs[j]=at0 zs j:=by simp [at0,h]
theorem Gk {zs:List Int}{j:Nat}(h:zs.length≤j):at0 zs j=0:=by simp [at0,List.getElem?_eq_none h]
def G9 (n:Int):Int:=if n<1 then 0 else (n-1)/8+1
def Vs (bs:List Int)(i:Int):Bool:=decide (0≤i∧i/8<bs.length)&&decide (at0 bs (i/8).toNat/2 ^ (i%8).toNat%2=1)
def UT (bs:List Int)(n:Int):Bool :=
 decide (0≤n∧n≤256∧(bs.length:Int)=G9 n) && !(decide (n%8>0)&&decide (at0 bs (bs.length-1)/2 ^ (n%8).toNat≠0))
def Ybu (bs:List Int)(n:Int):Bool :=
 decide (0≤n∧n≤256∧(bs.length:Int)=(n+7)/8)&&(List.range (8*bs.length)).all (fun j=>decide ((j:Int)<n) || !Vs bs j)
theorem Zlg (x:Int)(i:Nat)(h0:0≤x)(h1:x≤255)(hi:i<8):(!decide (bits .and .u8 x (2 ^ i%256)=0))=decide (x/2 ^ i%2=1):=by
 obtain⟨n,rfl⟩:=Int.eq_ofNat_of_zero_le h0;have hn:n<256:=by omega
 have key:∀i,i<8→∀n,n<256→((n &&& 2 ^ i) != 0)=decide (n/2 ^ i%2=1):=by decide +kernel
 have h2:(2:Int) ^ i%256=((2 ^ i:Nat):Int):=by
  have:∀i,i<8→(2:Int) ^ i%256=((2 ^ i:Nat):Int):=by decide
  exact this i hi
 have h3:(2:Nat) ^ i<256:=by
  have:∀i,i<8→(2:Nat) ^ i<256:=by decide
  exact this i hi
 rw[h2,u8_and_nat n (2 ^ i) hn h3];have k:=key i hi n hn;have e1:(!decide ((((n &&& 2 ^ i:Nat)):Int)=0))=((n &&& 2 ^ i) != 0):=by
  rw[Bool.eq_iff_iff];simp
 have e3:((n:Int)/2 ^ i%2)=((n/2 ^ i%2:Nat):Int):=by push_cast;rfl
 have e2:decide ((n:Int)/2 ^ i%2=1)=decide (n/2 ^ i%2=1):=by
  rw[decide_eq_decide,e3];omega
 rw[e1,k,← e2]
theorem Yhk (bs:List Int)(i:Int)(h:¬(0≤i∧i/8<bs.length)):Vs bs i=false:=by simp [Vs,h]
theorem Zpb (bs:List Int)(i:Int)(h:0≤i)(h':i/8<bs.length):Vs bs i=decide (at0 bs (i/8).toNat/2 ^ (i%8).toNat%2=1):=by simp [Vs,h,h']
theorem Zrq (n:Int)(h:0≤n):G9 n=(n+7)/8:=by unfold G9;split<;>omega
theorem Zyo (bs:List Int)(n:Int)(hb:∀i,0≤at0 bs i∧at0 bs i≤255):UT bs n=Ybu bs n:=by
 unfold UT Ybu;by_cases h0:0≤n
 ·rw[Zrq n h0];by_cases h1:0≤n∧n≤256∧(bs.length:Int)=(n+7)/8
  ·have e1:decide (0≤n∧n≤256∧(bs.length:Int)=(n+7)/8)=true:=decide_eq_true h1;rw[e1];simp only[Bool.true_and];obtain⟨_,h2,h3⟩:=h1;by_cases h8:n%8>0
   ·have hl:bs.length≥1:=by omega
    have hlast:=hb (bs.length-1);obtain⟨x,hx⟩:∃x,at0 bs (bs.length-1)=x:=⟨_,rfl⟩
    rw[hx]at hlast ⊢;obtain⟨k,hk⟩:∃k:Nat,(n%8)=k:=⟨(n%8).toNat,by omega⟩
    have hk8:k<8:=by omega
    have e2:(n%8).toNat=k:=by omega
    rw[e2];have key:(x/2 ^ k=0)↔∀j,j<8→k≤j→x/2 ^ j%2=0:=by
     obtain⟨m,rfl⟩:=Int.eq_ofNat_of_zero_le hlast.1;have hm:m<256:=by omega
     have:∀k,k<8→∀m,m<256→(m/2 ^ k=0↔∀j,j<8→k≤j→m/2 ^ j%2=0):=by decide +kernel
     have:=this k hk8 m hm
     constructor
     ·intro h j hj hkj;have h':m/2 ^ k=0:=by exact_mod_cast h
      have:=this.1 h' j hj hkj
      exact_mod_cast this
     ·intro h;have h':m/2 ^ k=0:=this.2 (fun j hj hkj=>by have:=h j hj hkj;exact_mod_cast this)
      exact_mod_cast h'
    have e3:decide (n%8>0)=true:=decide_eq_true h8;rw[e3,Bool.true_and,Bool.eq_iff_iff,List.all_eq_true];simp only[ne_eq,decide_not,Bool.not_not,decide_eq_true_eq,List.mem_range,Bool.or_eq_true,Bool.not_eq_true'];rw[key]
    constructor
    ·intro h j hj2;by_cases hj1:(j:Int)<n
     ·exact Or.inl hj1
     refine Or.inr ?_;rw[Zpb bs j (by omega) (by omega)];have e4:((j:Int)/8).toNat=bs.length-1:=by omega
     rw[e4,hx];have e5:((j:Int)%8).toNat<8:=by omega
     have:=h ((j:Int)%8).toNat e5 (by omega);rw[this];decide
    ·intro h j hj hkj;have:=(h (8*(bs.length-1)+j) (by omega)).resolve_left (by omega);rw[Zpb bs _ (by omega) (by omega)]at this;have e4:(((8*(bs.length-1)+j:Nat):Int)/8).toNat=bs.length-1:=by omega
     have e5:(((8*(bs.length-1)+j:Nat):Int)%8).toNat=j:=by omega
     rw[e4,e5,hx]at this;have:=of_decide_eq_false this;have h7:0≤x/2 ^ j%2:=Int.emod_nonneg _ (by decide);have h9:x/2 ^ j%2<2:=Int.emod_lt_of_pos _ (by decide);omega
   ·have e3:decide (n%8>0)=false:=decide_eq_false h8;rw[e3,Bool.false_and,Bool.not_false,eq_comm,List.all_eq_true];intro j hj2;have:=List.mem_range.1 hj2;have:(j:Int)<n:=by omega
    simp [this]
  ·have e1:decide (0≤n∧n≤256∧(bs.length:Int)=(n+7)/8)=false:=decide_eq_false h1;rw[e1];simp
 ·simp [h0]
end Go.Bl
namespace Go.Bl
open Go.RowKit
def Ye (n:Nat):List Int:=if n<128 then [(n:Int)] else ((n%128+128:Nat):Int)::Ye (n/128)
decreasing_by omega
theorem Ul {n:Nat}(h:n<128):Ye n=[(n:Int)]:=by rw[Ye,if_pos h]
theorem Uw {n:Nat}(h:¬n<128):Ye n=((n%128+128:Nat):Int)::Ye (n/128):=by rw[Ye,if_neg h]
def Vh:List Int→Nat→Int→Int×Int×Nat
 | [],_,_=>(50,0,0)
 | b::l,i,n=>if i=9∧b>1∨b=0∧i>0 then (51,0,0) else if b<128 then (0,n+b%128*128 ^ i,i+1) else Vh l (i+1) (n+b%128*128 ^ i)
theorem WY (n:Nat):0<(Ye n).length:=by
 by_cases h:n<128
 ·simp [Ul h]
 ·simp [Uw h]
theorem Zaz:∀ (n:Nat),∀z∈Ye n,0≤z∧z≤255:=by
 intro n
 induction n using Nat.strongRecOn with
 | ind n ih =>
  by_cases h:n<128
  ·simp only[Ul h,List.mem_singleton];rintro z rfl;omega
  ·rw[Uw h];intro z hz;rcases List.mem_cons.1 hz with rfl|hz
   ·omega
   ·exact ih (n/128) (by omega) z hz
theorem Zic (n i:Nat):n*128 ^ i=n%128*128 ^ i+n/128*128 ^ (i+1):=by
 rw[Nat.pow_succ,Nat.mul_comm (128 ^ i) 128,← Nat.mul_assoc,← Nat.add_mul,Nat.mul_comm (n/128) 128,Nat.mod_add_div]
theorem Uh:∀ (k n:Nat),n<128 ^ k→0<k→(Ye n).length≤k
 | 0,_,_,h=>by omega
 | k+1,n,h,_=>by
  by_cases h1:n<128
  ·simp [Ul h1]
  ·rw[Uw h1];have:n/128<128 ^ k:=by rw[Nat.div_lt_iff_lt_mul (by decide)];rwa [Nat.pow_succ]at h
   have hk:0<k:=by
    rcases Nat.eq_zero_or_pos k with rfl|h
    ·simp at h;omega
    ·exact h
   have:=Uh k (n/128) this hk;simp;omega
theorem Yda (rest:List Int):∀(n i:Nat) (acc:Int),n*128 ^ i<18446744073709551616→(0<i→0<n)→Vh (Ye n++rest) i acc=(0,acc+((n*128 ^ i:Nat):Int),i+(Ye n).length):=by
 intro n
 induction n using Nat.strongRecOn with
 | ind n ih =>
  intro i acc hb hp;by_cases h:n<128
  ·simp only[Ul h,List.cons_append,List.nil_append,Vh,List.length_singleton];rw[if_neg,if_pos (by omega),show (n:Int)%128=n by omega]
   ·push_cast;rfl
   ·rintro(⟨rfl,h2⟩ | ⟨h2,h3⟩)
    ·have:n*9223372036854775808<18446744073709551616:=hb;omega
    ·have:=hp h3;omega
  ·rw[Uw h];have hs:=Zic n i;have h9:i≠9:=by
    rintro rfl;have:n*9223372036854775808<18446744073709551616:=hb;omega
   have hr:=ih (n/128) (by omega) (i+1) (acc+((n%128*128 ^ i:Nat):Int)) (by omega) (fun _=>by omega);simp only[List.cons_append,Vh,List.length_cons];rw[if_neg (by omega),if_neg (by omega),show (((n%128+128:Nat):Int)%128)=((n%128:Nat):Int) by omega];have e:acc+((n%128:Nat):Int)*128 ^ i=acc+((n%128*128 ^ i:Nat):Int):=by push_cast;rfl
   rw[e,hr,hs];refine Prod.ext rfl (Prod.ext ?_ ?_)
   ·simp only;omega
   ·simp only;omega
theorem Zqy (s:List Int)(hs:s≠[]):∀(l:List Int) (n i:Nat) (acc:Int),l++s=Ye n→n*128 ^ i<18446744073709551616→Vh l i acc=(50,0,0)
 | [],_,_,_,_,_=>rfl
 | b::l,n,i,acc,he,hb=>by
  by_cases h:n<128
  ·rw[Ul h]at he;simp only[List.cons_append,List.cons.injEq,List.append_eq_nil_iff]at he;exact absurd he.2.2 hs
  ·rw[Uw h]at he;simp only[List.cons_append,List.cons.injEq]at he;obtain⟨rfl,he⟩:=he;have h9:i≠9:=by
    rintro rfl;have:n*9223372036854775808<18446744073709551616:=hb;omega
   have hs':=Zic n i;simp only[Vh];rw[if_neg (by omega),if_neg (by omega)];exact Zqy s hs l (n/128) (i+1) _ he (by omega)
theorem Zgf:∀ (l:List Int)(i:Nat)(acc v:Int)(k:Nat),(∀z∈l,0≤z∧z≤255)→i≤9→Vh l i acc=(0,v,k) →
  ∃n m:Nat,k=i+m∧0<m∧m≤l.length∧l.take m=Ye n∧v=acc+((n*128 ^ i:Nat):Int)∧(0<i→0<n)∧n*128 ^ i<18446744073709551616
 | [],i,acc,v,k,_,_,h=>by simp [Vh]at h
 | b::l,i,acc,v,k,hz,hi,h=>by
  have hb:=hz b (by simp);simp only[Vh]at h;split at h
  ·simp at h
  rename_i h1;obtain⟨c,rfl⟩:=Int.eq_ofNat_of_zero_le hb.1;have hpow:128 ^ i≤128 ^ 9:=Nat.pow_le_pow_right (by decide) hi;split at h
  ·rename_i h2;injection h with _ h
   injection h with h3 h4
   have e:(c:Int)%128=c:=by omega
   have hb2:c*128 ^ i<18446744073709551616:=by
    by_cases h9:i=9
    ·subst h9;have:c≤1:=by omega
     have:c*128 ^ 9≤1*128 ^ 9:=Nat.mul_le_mul_right _ this;have e9:(128:Nat) ^ 9=9223372036854775808:=by decide
     omega
    ·have hp8:128 ^ i≤128 ^ 8:=Nat.pow_le_pow_right (by decide) (by omega);have e8:(128:Nat) ^ 8=72057594037927936:=by decide
     have:c*128 ^ i≤127*128 ^ 8:=Nat.mul_le_mul (by omega) hp8;omega
   refine⟨c,1,by omega,by omega,by simp,by simp [Ul (show c<128 by omega)],?_,fun h0=>by omega,hb2⟩;rw[← h3,e];push_cast;rfl
  ·rename_i h2;have h9:i≠9:=by omega
   obtain⟨n,m,e1,e2,e3,e4,e5,e6,e7⟩:=Zgf l (i+1) _ v k (fun z hz'=>hz z (by simp [hz'])) (by omega) h;have hn:=e6 (by omega);have hs:=Zic (c%128+128*n) i;have ea:(c%128+128*n)%128=c%128:=by omega
   have eb:(c%128+128*n)/128=n:=by omega
   rw[ea,eb]at hs;have hcb:c%128*128 ^ i<128 ^ (i+1):=by
    rw[Nat.pow_succ,Nat.mul_comm (128 ^ i) 128];exact Nat.mul_lt_mul_of_pos_right (by omega) (Nat.pow_pos (by decide))
   refine⟨c%128+128*n,m+1,by omega,by omega,by simp;omega,?_,?_,fun _=>by omega,?_⟩
   ·rw[Uw (by omega),ea,eb,List.take_succ_cons,e4]
    congr 1
    omega
   ·rw[e5,hs];have:(c:Int)%128*128 ^ i=((c%128*128 ^ i:Nat):Int):=by push_cast;rfl
    rw[this];omega
   ·rw[hs];have hi8:i≤8:=by omega
    have key:n*128 ^ (i+1)+128 ^ (i+1)≤18446744073709551616:=by
     have hdvd:18446744073709551616=2*128 ^ (8-i)*128 ^ (i+1):=by
      rw[Nat.mul_assoc,← Nat.pow_add,show 8-i+(i+1)=9 by omega]
     rw[hdvd]at e7 ⊢;have hlt:n<2*128 ^ (8-i):=Nat.lt_of_mul_lt_mul_right e7;rw[← Nat.succ_mul];exact Nat.mul_le_mul_right _ hlt
    omega
def Z7 (xs:List Int)(s:Nat×Int)(most:Int):Int×(Nat×Int) :=
 if s.2≠0 then (0,s) else
 let r:=Vh (xs.drop s.1) 0 0
 if r.1≠0 then (0,(s.1,r.1)) else if r.2.1>most then (0,(s.1,51)) else (r.2.1,(s.1+r.2.2,0))
def Ztl (xs:List Int)(s:Nat×Int)(most:Int):List Int×(Nat×Int) :=
 if s.2≠0 then ([],s) else
 let r:=Z7 xs s most
 if r.2.2≠0 then ([],r.2) else if ((xs.length-r.2.1:Nat):Int)<r.1 then ([],(s.1,50)) else ((xs.drop r.2.1).take r.1.toNat,(r.2.1+r.1.toNat,0))
def Zmn (xs:List Int)(s:Nat×Int):Int:=if s.2=0∧s.1<xs.length then 52 else s.2
def Zgm (b:List Int):List Int:=Ye b.length++b
theorem Zev {xs:List Int}{s:Nat×Int}{most:Int}(h:s.2≠0):Z7 xs s most=(0,s):=by simp [Z7,h]
theorem Ydv {xs:List Int}{s:Nat×Int}{most:Int}(h:s.2≠0):Ztl xs s most=([],s):=by simp [Ztl,h]
theorem Zkr {xs rest:List Int}{k n:Nat}{most:Int}(h:xs.drop k=Ye n++rest)(hn:n<18446744073709551616)(hm:(n:Int)≤most):Z7 xs (k,0) most=((n:Int),(k+(Ye n).length,(0:Int)))∧xs.drop (k+(Ye n).length)=rest:=by
 have:=Yda rest n 0 0 (by simpa using hn) (by omega);refine⟨?_,?_⟩
 ·simp only[Z7,h,this];simp;omega
 ·rw[← List.drop_drop,h,List.drop_left]
def Short (xs:List Int)(s:Nat×Int)(rest:List Int):Prop:=s.2=50∨s.2=0∧∃t,t≠[]∧xs.drop s.1++t=rest
theorem Short.num {xs rest:List Int}{s:Nat×Int}{n:Nat}{most:Int}(h:Short xs s (Ye n++rest))(hn:n<18446744073709551616)(hm:(n:Int)≤most) :
  (Z7 xs s most).2.2=50∨(Z7 xs s most).1=n∧(Z7 xs s most).2.2=0∧Short xs (Z7 xs s most).2 rest:=by
 rcases h with h | ⟨h0,t,ht,he⟩
 ·left;rw[Zev (by omega)];exact h
 ·obtain⟨k,e⟩:=s;simp only at h0 he;subst h0;rcases List.append_eq_append_iff.1 he with⟨u,h1,h2⟩ | ⟨u,h1,h2⟩
  ·-- cut within the number's bytes
   by_cases hu:u=[]
   ·subst hu;simp only[List.append_nil,List.nil_append]at h1 h2
    right
    have hr:=Zkr (rest:=[]) (k:=k) (by rw[← h1];simp) hn hm;rw[hr.1];refine⟨rfl,rfl,Or.inr ⟨rfl,t,ht,?_⟩⟩;simp only;rw[hr.2,← h2];rfl
   ·left
    have:=Zqy u hu (xs.drop k) n 0 0 h1.symm (by simpa using hn);simp [Z7,this]
  ·right
   have hr:=Zkr (rest:=u) (k:=k) h1 hn hm;rw[hr.1];refine⟨rfl,rfl,Or.inr ⟨rfl,t,ht,?_⟩⟩;simp only;rw[hr.2,← h2]
theorem Short.nil {xs:List Int}{s:Nat×Int}(h:Short xs s []):s.2=50:=by
 rcases h with h | ⟨_,t,ht,he⟩
 ·exact h
 ·simp at he;exact absurd he.2 ht
theorem UU {xs:List Int}{s:Nat×Int}{most v:Int}{k:Nat}(hz:∀z∈xs,0≤z∧z≤255)(h:Z7 xs s most=(v,(k,0))) :
  s.2=0∧∃n:Nat,v=n∧(n:Int)≤most∧n<18446744073709551616∧xs.drop s.1=Ye n++xs.drop k∧k=s.1+(Ye n).length∧(s.1≤xs.length→k≤xs.length):=by
 unfold Z7 at h;split at h
 ·rename_i h0;injection h with h1 h2
  rw[h2]at h0;simp at h0
 rename_i h0;refine⟨by omega,?_⟩;simp only at h;split at h
 ·rename_i h1;injection h with _ h2
  injection h2 with _ h2
  exact absurd h2 h1
 rename_i h1;split at h
 ·simp at h
 rename_i h2;injection h with h3 h4
 injection h4 with h4 _
 obtain⟨n,m,e1,e2,e3,e4,e5,e6,e7⟩:=Zgf (xs.drop s.1) 0 0 (Vh (xs.drop s.1) 0 0).2.1 (Vh (xs.drop s.1) 0 0).2.2 (fun z hz'=>hz z (List.mem_of_mem_drop hz')) (by omega) (Prod.ext (by simp only;omega) rfl);have hm:m=(Ye n).length:=by
  rw[← e4,List.length_take];omega
 have hv:v=n:=by rw[← h3,e5];simp
 have hk:k=s.1+m:=by rw[← h4,e1];omega
 refine⟨n,hv,by omega,by simpa using e7,?_,by omega,fun hs=>by rw[hk];simp at e3;omega⟩;rw[← e4,hk,← List.drop_drop,List.take_append_drop]
theorem Ztk {xs:List Int}{s:Nat×Int}{most:Int}{b:List Int}{k:Nat}(hz:∀z∈xs,0≤z∧z≤255)(hs:s.1≤xs.length)(h:Ztl xs s most=(b,(k,0))) :
  s.2=0∧(b.length:Int)≤most∧xs.drop s.1=Zgm b++xs.drop k∧k≤xs.length∧s.1≤k:=by
 unfold Ztl at h;split at h
 ·rename_i h0;injection h with h1 h2
  rw[h2]at h0;simp at h0
 rename_i h0;refine⟨by omega,?_⟩;simp only at h
 cases hr:Z7 xs s most with
 | mk v p =>
  obtain⟨j,e⟩:=p;rw[hr]at h;simp only at h;split at h
  ·rename_i h1;injection h with _ h2
   injection h2 with _ h2
   exact absurd h2 h1
  rename_i h1;have he:e=0:=by omega
  subst he;obtain⟨_,n,rfl,hn,hn',hd,hj,hjl⟩:=UU hz hr;have hjl:=hjl hs;split at h
  ·simp at h
  rename_i h2;injection h with h3 h4
  injection h4 with h4 _
  simp only[Int.toNat_natCast]at h3 h4;have hbl:b.length=n:=by rw[← h3];simp;omega
  refine⟨by omega,?_,by omega,by omega⟩;rw[hd,Zgm,hbl,List.append_assoc,← h3,← h4]
  congr 1
  rw[← List.drop_drop,List.take_append_drop]
theorem Yt (xs:List Int)(s:Nat×Int)(most:Int)(hz:∀z∈xs,0≤z∧z≤255)(hs:s.1≤xs.length)(h0:0≤most):(Z7 xs s most).2.1≤xs.length∧0≤(Z7 xs s most).1∧(Z7 xs s most).1≤most:=by
 by_cases he:(Z7 xs s most).2.2=0
 ·obtain⟨_,n,h1,h2,_,_,_,h3⟩:=UU (xs:=xs) (s:=s) (most:=most) (v:=(Z7 xs s most).1) (k:=(Z7 xs s most).2.1) hz (Prod.ext rfl (Prod.ext rfl he));exact⟨h3 hs,by omega,by omega⟩
 ·unfold Z7 at he ⊢;split
  ·exact⟨hs,by simp,by simpa using h0⟩
  ·rename_i h1;rw[if_neg h1]at he;simp only at he ⊢;split
   ·exact⟨hs,by simp,by simpa using h0⟩
   ·rename_i h2;rw[if_neg h2]at he;split
    ·exact⟨hs,by simp,by simpa using h0⟩
    ·rename_i h3;rw[if_neg h3]at he;simp at he
end Go.Bl
namespace Go.Bl
open Go.RowKit
structure ZN where
 ep:Int
 mem:Int
 st:List Int
 bs:List Int
def wsum (st:List Int)(f:Nat→Bool):Nat→Int
 | 0=>0
 | k+1=>wsum st f k+if f k then at0 st k else 0
end Go.Bl
namespace Go.Bl
open Go.RowKit
def Ua:List Int→List Int
 | []=>[]
 | z::l=>Ye z.toNat++Ua l
theorem Jt (a b:List Int):Ua (a++b)=Ua a++Ua b:=by
 induction a with
 | nil=>rfl
 | cons z a ih=>simp [Ua,ih]
theorem G3:∀ (l:List Int),(∀z∈l,z<18446744073709551616)→(Ua l).length≤10*l.length
  | [],_=>by simp [Ua]
  | z::l,h=>by
    have h1:=G3 l (fun x hx=>h x (by simp [hx]));have h2:=h z (by simp)
    have h3 := Uh 10 z.toNat (by have : (128 : Nat) ^ 10 = 1180591620717411303424 := by decide
                                 omega) (by decide)
    simp only[Ua,List.length_append,List.length_cons];omega
theorem Zfp:∀ (l:List Int),∀z∈Ua l,0≤z∧z≤255
 | [],z,h=>by simp [Ua]at h
 | x::l,z,h=>by
  rcases List.mem_append.1 h with h|h
  ·exact Zaz _ z h
  ·exact Zfp l z h
end Go.Bl
namespace Go.Bl
open Go.RowKit
end Go.Bl
namespace Go.Bl
open Go.RowKit
structure Ze where
 inc:Int
 maxEff:Int
 floor:Int
 cap:Int
 up:Int
 down:Int
 bias:Int
 quot:Int
 biasEm:Int
 quotEm:Int
 recover:Int
 scoreCap:Int
 rate:Int
 bond:Int
 delay:Int
 streak:Int
 boost:Int
 absent:Int
 burn:Int
 churn:Int
 wait:Int
 poll:Int
 enact:Int
 quorum:Int
 deriving DecidableEq
def WD:Ze:=⟨0,0,0,0,0,0,0,0,0,0,0,0,0,0,0,0,0,0,0,0,0,0,0,0⟩
def Yw (p:Ze):List Int:=[p.inc,p.maxEff,p.floor,p.cap,p.up,p.down,p.bias,p.quot,p.biasEm,p.quotEm,p.recover,p.scoreCap,p.rate,p.bond]
def Yk (p:Ze):List Int:=[p.delay,p.streak,p.boost,p.absent,p.burn,p.churn,p.wait,p.poll,p.enact,p.quorum]
structure Zj (p:Ze):Prop where
 w:∀z∈Yw p,0≤z∧z≤18446744073709551615
 n:∀z∈Yk p,-9223372036854775808≤z∧z≤9223372036854775807
def wi (n lo hi:Int):Bool:=decide (lo≤n)&&decide (n≤hi)
theorem wi_iff {n lo hi:Int}:wi n lo hi=true↔lo≤n∧n≤hi:=by simp [wi]
def Wo (p:Ze):Bool :=
 [wi p.inc 1 2147483648,wi p.maxEff p.inc 1099511627776,decide (p.inc≤p.floor),decide (p.floor<p.cap),wi p.cap p.maxEff 1099511627776,wi p.up p.inc 1099511627776,decide (p.down≤1099511627776)].all id&&decide (p.maxEff%p.inc=0)
def WJ (p:Ze):Bool :=
 [wi p.bias 1 4294967296,wi p.biasEm p.bias 4294967296,wi p.quot 1 1099511627776,wi p.quotEm 1 p.quot,decide (p.recover≤4294967296),wi p.scoreCap 1 72057594037927936].all id
def Y9 (p:Ze):Bool :=
 [decide (p.rate≤4294967296),decide (p.bond≤1099511627776),wi p.delay 0 1000,wi p.wait 0 50,wi p.enact 0 1000,wi p.poll 1 1000,wi p.streak 0 64,wi p.boost 0 1000,wi p.absent 0 10000,wi p.burn 0 10000,wi p.quorum 0 10000,wi p.churn 1 64].all id
def Vu (p:Ze)(t:Nat):Bool:=decide (2*p.quot*(p.cap-p.floor)≤p.inc*p.bias*((t:Int)*(t+1)))
def W7 (q:Nat→Bool):Nat→Nat→Nat
 | 0,k=>k
 | m+1,k=>if q k then k else W7 q m (k+1)
theorem Vx (q:Nat→Bool):∀(m k:Nat),k≤W7 q m k∧W7 q m k≤k+m∧(∀i,k≤i→i<W7 q m k→q i=false)∧(W7 q m k<k+m→q (W7 q m k)=true)
 | 0,k=>⟨by simp [W7],by simp [W7],fun i h1 h2=>by simp [W7]at h2;omega,fun h=>by simp [W7]at h⟩
 | m+1,k=>by
  simp only[W7];by_cases hq:q k=true
  ·rw[if_pos hq];exact⟨by omega,by omega,fun i h1 h2=>by omega,fun _=>hq⟩
  ·rw[if_neg hq];obtain⟨h1,h2,h3,h4⟩:=Vx q m (k+1);refine⟨by omega,by omega,fun i hi1 hi2=>?_,fun h=>h4 (by omega)⟩;by_cases e:i=k
   ·subst e;simpa using hq
   ·exact h3 i (by omega) hi2
theorem U7 {q:Nat→Bool}{m k r:Nat}(h1:k≤r)(h2:r≤k+m)(h3:∀i,k≤i→i<r→q i=false)(h4:r<k+m→q r=true):W7 q m k=r:=by
 obtain⟨g1,g2,g3,g4⟩:=Vx q m k;rcases Nat.lt_trichotomy (W7 q m k) r with h|h|h
 ·have:=h3 _ g1 h;rw[g4 (by omega)]at this
  cases this
 ·exact h
 ·have:=g3 _ h1 h;rw[h4 (by omega)]at this
  cases this
def V7 (p:Ze):Nat:=W7 (Vu p) 1048576 1
def Ym (p:Ze):Bool:=Wo p&&WJ p&&Y9 p&&(decide (V7 p≤1048576)&&decide (p.bias*(V7 p:Int)≤p.scoreCap))
theorem YS {p:Ze}(h:Wo p=true):1≤p.inc∧p.inc≤2147483648∧p.inc≤p.maxEff∧p.maxEff≤1099511627776∧p.inc≤p.floor∧p.floor<p.cap∧p.maxEff≤p.cap∧p.cap≤1099511627776∧p.inc≤p.up∧p.up≤1099511627776∧p.down≤1099511627776∧p.maxEff%p.inc=0:=by
 simp only[Wo,List.all_cons,List.all_nil,id,Bool.and_eq_true,wi_iff,decide_eq_true_eq,and_true]at h;omega
theorem Wg {p:Ze}(h:WJ p=true):1≤p.bias∧p.bias≤4294967296∧p.bias≤p.biasEm∧p.biasEm≤4294967296∧1≤p.quot∧p.quot≤1099511627776∧1≤p.quotEm∧p.quotEm≤p.quot∧p.recover≤4294967296∧1≤p.scoreCap∧p.scoreCap≤72057594037927936:=by
 simp only[WJ,List.all_cons,List.all_nil,id,Bool.and_eq_true,wi_iff,decide_eq_true_eq,and_true]at h;omega
theorem Zdg {p:Ze}(h1:0≤p.inc)(h2:0≤p.bias){t u:Nat}(h:t≤u)(he:Vu p t=true):Vu p u=true:=by
 simp only[Vu,decide_eq_true_eq]at he ⊢;refine Int.le_trans he (Int.mul_le_mul_of_nonneg_left ?_ (Int.mul_nonneg h1 h2));exact Int.mul_le_mul (by omega) (by omega) (by omega) (by omega)
end Go.Bl
namespace Go.Bl
open Go.RowKit
structure Zd where
 kind:Int
 acct:Int
 mem:Int
 to:Int
 amt:Int
 ep:Int
 bits:List Int
 what:Int
 par:Ze
 mot:Int
 yes:Bool
def Z0:Zd:=⟨0,0,0,0,0,0,[],0,WD,0,false⟩
structure ZG (d:Zd):Prop where
 n:∀z∈[d.kind,d.acct,d.mem,d.to,d.ep,d.what,d.mot],-9223372036854775808≤z∧z≤9223372036854775807
 a:0≤d.amt∧d.amt≤18446744073709551615
 p:Zj d.par
def Yi (d:Zd):Zd :=
 if d.kind=1 then { Z0 with kind:=d.kind,acct:=d.acct,to:=d.to,amt:=d.amt }
 else if d.kind=2 then { Z0 with kind:=d.kind,acct:=d.acct,amt:=d.amt }
 else if d.kind=3 then { Z0 with kind:=d.kind,acct:=d.acct,mem:=d.mem,amt:=d.amt }
 else if d.kind=4 then { Z0 with kind:=d.kind,acct:=d.acct,mem:=d.mem }
 else if d.kind=5 then { Z0 with kind:=d.kind,ep:=d.ep,bits:=d.bits }
 else if d.kind=7 then { Z0 with kind:=d.kind,acct:=d.acct,mem:=d.mem,mot:=d.mot,yes:=d.yes }
 else if d.kind=6 then (if d.what=1 then { Z0 with kind:=d.kind,acct:=d.acct,what:=d.what,par:=d.par } else if d.what=2 then { Z0 with kind:=d.kind,acct:=d.acct,what:=d.what,to:=d.to,amt:=d.amt } else { Z0 with kind:=d.kind,acct:=d.acct,what:=d.what })
 else { Z0 with kind:=d.kind,acct:=d.acct }
def YB (d:Zd):Bool:=wi d.kind 1 3||(decide (d.kind=6)&&decide (d.what=2))
def Yn (a b:Zd):Bool :=
 decide (a.kind=b.kind)&&(decide (a.acct=b.acct)&&(decide (a.mem=b.mem)&&(decide (a.to=b.to)&&(decide (a.amt=b.amt)&&(decide (a.ep=b.ep)&&(decide (a.what=b.what)&&(decide (a.par=b.par)&&(decide (a.mot=b.mot)&&((a.yes == b.yes)&&decide ((a.bits.length:Int)=b.bits.length))))))))))
def ZW (d:Zd):Bool :=
 wi d.kind 1 7&&Yn d (Yi d)&&(wi d.acct 0 63&&wi d.to 0 63&&wi d.mem 0 127&&wi d.mot 0 31) &&
 ((YB d == decide (0<d.amt))&&decide (d.amt≤4611686018427387904)&&wi d.ep 0 1073741824&&decide ((d.bits.length:Int)≤32)) &&
 (decide (d.kind≠6)||(wi d.what 1 4&&(decide (d.what≠1)||Ym d.par)))
def ZX (k w f:Int):Bool :=
 if k=1 then decide (f=1)||decide (f=3)||decide (f=4)
 else if k=2 then decide (f=1)||decide (f=4)
 else if k=3 then decide (f=1)||decide (f=2)||decide (f=4)
 else if k=4 then decide (f=1)||decide (f=2)
 else if k=5 then decide (f=5)
 else if k=6 then decide (f=1)||decide (f=6)||(decide (w=1)&&decide (f=7))||(decide (w=2)&&(decide (f=3)||decide (f=4)))
 else if k=7 then decide (f=1)||decide (f=2)||decide (f=8)
 else false
end Go.Bl

/- Lemmas and contracts. Conditions: as each says. -/
import Derived.WalkKit
set_option linter.unusedVariables false
set_option linter.unusedSimpArgs false
set_option maxHeartbeats 12800000
set_option maxRecDepth 20000
namespace Go.Bl
open Go.RowKit
def at0 (zs:List Int)(j:Nat):Int:=zs.getD j 0
theorem Yf {zs:List Int}{j:Nat}(h:j<zs.length):zs[j]=at0 zs j:=by simp [at0,h]
theorem Gg {zs:List Int}{j:Nat}(h:zs.length≤j):at0 zs j=0:=by simp [at0,List.getElem?_eq_none h]
def Zgx (n:Int):Int:=if n<1 then 0 else (n-1)/8+1
def Vm (bs:List Int)(i:Int):Bool:=decide (0≤i∧i/8<bs.length)&&decide (at0 bs (i/8).toNat/2 ^ (i%8).toNat%2=1)
def Zhz (bs:List Int)(n:Int):Bool :=
 decide (0≤n∧n≤256∧(bs.length:Int)=Zgx n) && !(decide (n%8>0)&&decide (at0 bs (bs.length-1)/2 ^ (n%8).toNat≠0))
theorem Zfg (x:Int)(i:Nat)(h0:0≤x)(h1:x≤255)(hi:i<8):(!decide (bits .and .u8 x (2 ^ i%256)=0))=decide (x/2 ^ i%2=1):=by
 obtain⟨n,rfl⟩:=Int.eq_ofNat_of_zero_le h0;have hn:n<256:=by omega
 have key:∀i,i<8→∀n,n<256→((n &&& 2 ^ i) != 0)=decide (n/2 ^ i%2=1):=by decide +kernel
 have h2:(2:Int) ^ i%256=((2 ^ i:Nat):Int):=by
  have:∀i,i<8→(2:Int) ^ i%256=((2 ^ i:Nat):Int):=by decide
  exact this i hi
 have h3:(2:Nat) ^ i<256:=by
  have:∀i,i<8→(2:Nat) ^ i<256:=by decide
  exact this i hi
 rw[h2,u8_and_nat n (2 ^ i) hn h3];have k:=key i hi n hn;have e1:(!decide ((((n &&& 2 ^ i:Nat)):Int)=0))=((n &&& 2 ^ i) != 0):=by
  rw[Bool.eq_iff_iff];simp
 have e3:((n:Int)/2 ^ i%2)=((n/2 ^ i%2:Nat):Int):=by push_cast;rfl
 have e2:decide ((n:Int)/2 ^ i%2=1)=decide (n/2 ^ i%2=1):=by
  rw[decide_eq_decide,e3];omega
 rw[e1,k,← e2]
theorem Ybt (bs:List Int)(i:Int)(h:¬(0≤i∧i/8<bs.length)):Vm bs i=false:=by simp [Vm,h]
theorem Ygv (bs:List Int)(i:Int)(h:0≤i)(h':i/8<bs.length):Vm bs i=decide (at0 bs (i/8).toNat/2 ^ (i%8).toNat%2=1):=by simp [Vm,h,h']
theorem Ybs (n:Int)(h:0≤n):Zgx n=(n+7)/8:=by unfold Zgx;split<;>omega
end Go.Bl
namespace Go.Bl
open Go.RowKit
def Gd (n:Nat):List Int:=if n<128 then [(n:Int)] else ((n%128+128:Nat):Int)::Gd (n/128)
decreasing_by omega
theorem Zlg {n:Nat}(h:n<128):Gd n=[(n:Int)]:=by rw[Gd,if_pos h]
theorem Zmw {n:Nat}(h:¬n<128):Gd n=((n%128+128:Nat):Int)::Gd (n/128):=by rw[Gd,if_neg h]
def Zjq:List Int→Nat→Int→Int×Int×Nat
 | [],_,_=>(50,0,0)
 | b::l,i,n=>if i=9∧b>1∨b=0∧i>0 then (51,0,0) else if b<128 then (0,n+b%128*128 ^ i,i+1) else Zjq l (i+1) (n+b%128*128 ^ i)
theorem Zks (n i:Nat):n*128 ^ i=n%128*128 ^ i+n/128*128 ^ (i+1):=by
 rw[Nat.pow_succ,Nat.mul_comm (128 ^ i) 128,← Nat.mul_assoc,← Nat.add_mul,Nat.mul_comm (n/128) 128,Nat.mod_add_div]
theorem Zwn (rest:List Int):∀(n i:Nat) (acc:Int),n*128 ^ i<18446744073709551616→(0<i→0<n)→Zjq (Gd n++rest) i acc=(0,acc+((n*128 ^ i:Nat):Int),i+(Gd n).length):=by
 intro n
 induction n using Nat.strongRecOn with
 | ind n ih =>
  intro i acc hb hp;by_cases h:n<128
  ·simp only[Zlg h,List.cons_append,List.nil_append,Zjq,List.length_singleton];rw[if_neg,if_pos (by omega),show (n:Int)%128=n by omega]
   ·push_cast;rfl
   ·rintro(⟨rfl,h2⟩ | ⟨h2,h3⟩)
    ·have:n*9223372036854775808<18446744073709551616:=hb;omega
    ·have:=hp h3;omega
  ·rw[Zmw h];have hs:=Zks n i;have h9:i≠9:=by
    rintro rfl;have:n*9223372036854775808<18446744073709551616:=hb;omega
   have hr:=ih (n/128) (by omega) (i+1) (acc+((n%128*128 ^ i:Nat):Int)) (by omega) (fun _=>by omega);simp only[List.cons_append,Zjq,List.length_cons];rw[if_neg (by omega),if_neg (by omega),show (((n%128+128:Nat):Int)%128)=((n%128:Nat):Int) by omega];have e:acc+((n%128:Nat):Int)*128 ^ i=acc+((n%128*128 ^ i:Nat):Int):=by push_cast;rfl
   rw[e,hr,hs];refine Prod.ext rfl (Prod.ext ?_ ?_)
   ·simp only;omega
   ·simp only;omega
theorem Zlc (s:List Int)(hs:s≠[]):∀(l:List Int) (n i:Nat) (acc:Int),l++s=Gd n→n*128 ^ i<18446744073709551616→Zjq l i acc=(50,0,0)
 | [],_,_,_,_,_=>rfl
 | b::l,n,i,acc,he,hb=>by
  by_cases h:n<128
  ·rw[Zlg h]at he;simp only[List.cons_append,List.cons.injEq,List.append_eq_nil_iff]at he;exact absurd he.2.2 hs
  ·rw[Zmw h]at he;simp only[List.cons_append,List.cons.injEq]at he;obtain⟨rfl,he⟩:=he;have h9:i≠9:=by
    rintro rfl;have:n*9223372036854775808<18446744073709551616:=hb;omega
   have hs':=Zks n i;simp only[Zjq];rw[if_neg (by omega),if_neg (by omega)];exact Zlc s hs l (n/128) (i+1) _ he (by omega)
def Zyz (xs:List Int)(s:Nat×Int)(most:Int):Int×(Nat×Int) :=
 if s.2≠0 then (0,s) else
 let r:=Zjq (xs.drop s.1) 0 0
 if r.1≠0 then (0,(s.1,r.1)) else if r.2.1>most then (0,(s.1,51)) else (r.2.1,(s.1+r.2.2,0))
theorem Zvn {xs:List Int}{s:Nat×Int}{most:Int}(h:s.2≠0):Zyz xs s most=(0,s):=by simp [Zyz,h]
theorem Zgh {xs rest:List Int}{k n:Nat}{most:Int}(h:xs.drop k=Gd n++rest)(hn:n<18446744073709551616)(hm:(n:Int)≤most):Zyz xs (k,0) most=((n:Int),(k+(Gd n).length,(0:Int)))∧xs.drop (k+(Gd n).length)=rest:=by
 have:=Zwn rest n 0 0 (by simpa using hn) (by omega);refine⟨?_,?_⟩
 ·simp only[Zyz,h,this];simp;omega
 ·rw[← List.drop_drop,h,List.drop_left]
def Short (xs:List Int)(s:Nat×Int)(rest:List Int):Prop:=s.2=50∨s.2=0∧∃t,t≠[]∧xs.drop s.1++t=rest
theorem Short.num {xs rest:List Int}{s:Nat×Int}{n:Nat}{most:Int}(h:Short xs s (Gd n++rest))(hn:n<18446744073709551616)(hm:(n:Int)≤most) :
  (Zyz xs s most).2.2=50∨(Zyz xs s most).1=n∧(Zyz xs s most).2.2=0∧Short xs (Zyz xs s most).2 rest:=by
 rcases h with h | ⟨h0,t,ht,he⟩
 ·left;rw[Zvn (by omega)];exact h
 ·obtain⟨k,e⟩:=s;simp only at h0 he;subst h0;rcases List.append_eq_append_iff.1 he with⟨u,h1,h2⟩ | ⟨u,h1,h2⟩
  ·-- cut within the number's bytes
   by_cases hu:u=[]
   ·subst hu;simp only[List.append_nil,List.nil_append]at h1 h2
    right
    have hr:=Zgh (rest:=[]) (k:=k) (by rw[← h1];simp) hn hm;rw[hr.1];refine⟨rfl,rfl,Or.inr ⟨rfl,t,ht,?_⟩⟩;simp only;rw[hr.2,← h2];rfl
   ·left
    have:=Zlc u hu (xs.drop k) n 0 0 h1.symm (by simpa using hn);simp [Zyz,this]
  ·right
   have hr:=Zgh (rest:=u) (k:=k) h1 hn hm;rw[hr.1];refine⟨rfl,rfl,Or.inr ⟨rfl,t,ht,?_⟩⟩;simp only;rw[hr.2,← h2]
theorem Short.nil {xs:List Int}{s:Nat×Int}(h:Short xs s []):s.2=50:=by
 rcases h with h | ⟨_,t,ht,he⟩
 ·exact h
 ·simp at he;exact absurd he.2 ht
end Go.Bl
namespace Go.Bl
open Go.RowKit
structure ZK where
 ep:Int
 mem:Int
 st:List Int
 bs:List Int
def wsum (st:List Int)(f:Nat→Bool):Nat→Int
 | 0=>0
 | k+1=>wsum st f k+if f k then at0 st k else 0
end Go.Bl
namespace Go.Bl
open Go.RowKit
end Go.Bl
namespace Go.Bl
open Go.RowKit
end Go.Bl
namespace Go.Bl
open Go.RowKit
structure Ze where
 inc:Int
 maxEff:Int
 floor:Int
 cap:Int
 up:Int
 down:Int
 bias:Int
 quot:Int
 biasEm:Int
 quotEm:Int
 recover:Int
 scoreCap:Int
 rate:Int
 bond:Int
 delay:Int
 streak:Int
 boost:Int
 absent:Int
 burn:Int
 churn:Int
 wait:Int
 poll:Int
 enact:Int
 quorum:Int
 deriving DecidableEq
def Zxj:Ze:=⟨0,0,0,0,0,0,0,0,0,0,0,0,0,0,0,0,0,0,0,0,0,0,0,0⟩
def YN (p:Ze):List Int:=[p.inc,p.maxEff,p.floor,p.cap,p.up,p.down,p.bias,p.quot,p.biasEm,p.quotEm,p.recover,p.scoreCap,p.rate,p.bond]
def YS (p:Ze):List Int:=[p.delay,p.streak,p.boost,p.absent,p.burn,p.churn,p.wait,p.poll,p.enact,p.quorum]
structure Zj (p:Ze):Prop where
 w:∀z∈YN p,0≤z∧z≤18446744073709551615
 n:∀z∈YS p,-9223372036854775808≤z∧z≤9223372036854775807
def wi (n lo hi:Int):Bool:=decide (lo≤n)&&decide (n≤hi)
theorem wi_iff {n lo hi:Int}:wi n lo hi=true↔lo≤n∧n≤hi:=by simp [wi]
def Vv (p:Ze):Bool :=
 [wi p.inc 1 2147483648,wi p.maxEff p.inc 1099511627776,decide (p.inc≤p.floor),decide (p.floor<p.cap),wi p.cap p.maxEff 1099511627776,wi p.up p.inc 1099511627776,decide (p.down≤1099511627776)].all id&&decide (p.maxEff%p.inc=0)
def Ue (p:Ze):Bool :=
 [wi p.bias 1 4294967296,wi p.biasEm p.bias 4294967296,wi p.quot 1 1099511627776,wi p.quotEm 1 p.quot,decide (p.recover≤4294967296),wi p.scoreCap 1 72057594037927936].all id
def Js (p:Ze):Bool :=
 [decide (p.rate≤4294967296),decide (p.bond≤1099511627776),wi p.delay 0 1000,wi p.wait 0 50,wi p.enact 0 1000,wi p.poll 1 1000,wi p.streak 0 64,wi p.boost 0 1000,wi p.absent 0 10000,wi p.burn 0 10000,wi p.quorum 0 10000,wi p.churn 1 64].all id
def UL (p:Ze)(t:Nat):Bool:=decide (2*p.quot*(p.cap-p.floor)≤p.inc*p.bias*((t:Int)*(t+1)))
def Wy (q:Nat→Bool):Nat→Nat→Nat
 | 0,k=>k
 | m+1,k=>if q k then k else Wy q m (k+1)
theorem W6 (q:Nat→Bool):∀(m k:Nat),k≤Wy q m k∧Wy q m k≤k+m∧(∀i,k≤i→i<Wy q m k→q i=false)∧(Wy q m k<k+m→q (Wy q m k)=true)
 | 0,k=>⟨by simp [Wy],by simp [Wy],fun i h1 h2=>by simp [Wy]at h2;omega,fun h=>by simp [Wy]at h⟩
 | m+1,k=>by
  simp only[Wy];by_cases hq:q k=true
  ·rw[if_pos hq];exact⟨by omega,by omega,fun i h1 h2=>by omega,fun _=>hq⟩
  ·rw[if_neg hq];obtain⟨h1,h2,h3,h4⟩:=W6 q m (k+1);refine⟨by omega,by omega,fun i hi1 hi2=>?_,fun h=>h4 (by omega)⟩;by_cases e:i=k
   ·subst e;simpa using hq
   ·exact h3 i (by omega) hi2
theorem JJ {q:Nat→Bool}{m k r:Nat}(h1:k≤r)(h2:r≤k+m)(h3:∀i,k≤i→i<r→q i=false)(h4:r<k+m→q r=true):Wy q m k=r:=by
 obtain⟨g1,g2,g3,g4⟩:=W6 q m k;rcases Nat.lt_trichotomy (Wy q m k) r with h|h|h
 ·have:=h3 _ g1 h;rw[g4 (by omega)]at this
  cases this
 ·exact h
 ·have:=g3 _ h1 h;rw[h4 (by omega)]at this
  cases this
def J9 (p:Ze):Nat:=Wy (UL p) 1048576 1
def YM (p:Ze):Bool:=Vv p&&Ue p&&Js p&&(decide (J9 p≤1048576)&&decide (p.bias*(J9 p:Int)≤p.scoreCap))
theorem YY {p:Ze}(h:Vv p=true):1≤p.inc∧p.inc≤2147483648∧p.inc≤p.maxEff∧p.maxEff≤1099511627776∧p.inc≤p.floor∧p.floor<p.cap∧p.maxEff≤p.cap∧p.cap≤1099511627776∧p.inc≤p.up∧p.up≤1099511627776∧p.down≤1099511627776∧p.maxEff%p.inc=0:=by
 simp only[Vv,List.all_cons,List.all_nil,id,Bool.and_eq_true,wi_iff,decide_eq_true_eq,and_true]at h;omega
theorem Wv {p:Ze}(h:Ue p=true):1≤p.bias∧p.bias≤4294967296∧p.bias≤p.biasEm∧p.biasEm≤4294967296∧1≤p.quot∧p.quot≤1099511627776∧1≤p.quotEm∧p.quotEm≤p.quot∧p.recover≤4294967296∧1≤p.scoreCap∧p.scoreCap≤72057594037927936:=by
 simp only[Ue,List.all_cons,List.all_nil,id,Bool.and_eq_true,wi_iff,decide_eq_true_eq,and_true]at h;omega
theorem Ziq {p:Ze}(h1:0≤p.inc)(h2:0≤p.bias){t u:Nat}(h:t≤u)(he:UL p t=true):UL p u=true:=by
 simp only[UL,decide_eq_true_eq]at he ⊢;refine Int.le_trans he (Int.mul_le_mul_of_nonneg_left ?_ (Int.mul_nonneg h1 h2));exact Int.mul_le_mul (by omega) (by omega) (by omega) (by omega)
end Go.Bl
namespace Go.Bl
open Go.RowKit
structure Yyu where
 kind:Int
 acct:Int
 mem:Int
 to:Int
 amt:Int
 ep:Int
 bits:List Int
 what:Int
 par:Ze
 mot:Int
 yes:Bool
structure Yza (d:Yyu):Prop where
 n:∀z∈[d.kind,d.acct,d.mem,d.to,d.ep,d.what,d.mot],-9223372036854775808≤z∧z≤9223372036854775807
 a:0≤d.amt∧d.amt≤18446744073709551615
 p:Zj d.par
end Go.Bl

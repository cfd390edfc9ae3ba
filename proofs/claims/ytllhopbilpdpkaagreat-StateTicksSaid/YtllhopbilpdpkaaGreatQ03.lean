/- Lemmas and contracts. Conditions: as each says. -/
import Derived.Test.YtllhopbilpdpkaaGreatQ00
set_option linter.unusedVariables false
set_option linter.unusedSimpArgs false
set_option maxHeartbeats 12800000
set_option maxRecDepth 20000
namespace Go.Bl
open Go.RowKit
def at0 (zs:List Int)(j:Nat):Int:=zs.getD j 0
theorem Ys {zs:List Int}{j:Nat}(h:j<zs.length):zs[j]=at0 zs j:=by simp [at0,h]
theorem U7 {zs:List Int}{j:Nat}(h:zs.length<=j):at0 zs j=0:=by simp [at0,List.getElem?_eq_none h]
def Zjw (n:Int):Int:=if n<1 then 0 else (n-1)/8+1
def Wm (bs:List Int)(i:Int):Bool:=decide (0<=i/\i/8<bs.length)&&decide (at0 bs (i/8).toNat/2 ^ (i%8).toNat%2=1)
def Gn (bs:List Int)(n:Int):Bool :=
 decide (0<=n/\n<=256/\(bs.length:Int)=Zjw n) && !(decide (n%8>0)&&decide (at0 bs (bs.length-1)/2 ^ (n%8).toNat≠0))
def Uy (bs:List Int)(n:Int):Bool :=
 decide (0<=n/\n<=256/\(bs.length:Int)=(n+7)/8)&&(List.range (8*bs.length)).all (fun j=>decide ((j:Int)<n) || !Wm bs j)
theorem Zlh (x:Int)(i:Nat)(h0:0<=x)(h1:x<=255)(hi:i<8):(!decide (bits .and .u8 x (2 ^ i%256)=0))=decide (x/2 ^ i%2=1):=by
 obtain⟨n,rfl⟩:=Int.eq_ofNat_of_zero_le h0;have hn:n<256:=qf;have key:∀i,i<8->∀n,n<256->((n &&& 2 ^ i) != 0)=decide (n/2 ^ i%2=1):=qE;have h2:(2:Int) ^ i%256=((2 ^ i:Nat):Int):=by
  have:∀i,i<8->(2:Int) ^ i%256=((2 ^ i:Nat):Int):=qh;exact this i hi
 have h3:(2:Nat) ^ i<256:=by
  have:∀i,i<8->(2:Nat) ^ i<256:=qh;exact this i hi
 rw[h2,u8_and_nat n (2 ^ i) hn h3];have k:=key i hi n hn;have e1:(!decide ((((n &&& 2 ^ i:Nat)):Int)=0))=((n &&& 2 ^ i) != 0):=by
  rw[Bool.eq_iff_iff];simp
 have e3:((n:Int)/2 ^ i%2)=((n/2 ^ i%2:Nat):Int):=by push_cast;rfl
 have e2:decide ((n:Int)/2 ^ i%2=1)=decide (n/2 ^ i%2=1):=by
  rw[decide_eq_decide,e3];omega
 rw[e1,k,<- e2]
theorem Zps (bs:List Int)(i:Int)(h:¬(0<=i/\i/8<bs.length)):Wm bs i=false:=by simp [Wm,h]
theorem Zif (bs:List Int)(i:Int)(h:0<=i)(h':i/8<bs.length):Wm bs i=decide (at0 bs (i/8).toNat/2 ^ (i%8).toNat%2=1):=by simp [Wm,h,h']
theorem Zqa (n:Int)(h:0<=n):Zjw n=(n+7)/8:=by unfold Zjw;split<;>omega
theorem Zxw (bs:List Int)(n:Int)(hb:∀i,0<=at0 bs i/\at0 bs i<=255):Gn bs n=Uy bs n:=by
 unfold Gn Uy;by_cases h0:0<=n
 ·rw[Zqa n h0];by_cases h1:0<=n/\n<=256/\(bs.length:Int)=(n+7)/8
  ·have e1:decide (0<=n/\n<=256/\(bs.length:Int)=(n+7)/8)=true:=decide_eq_true h1;rw[e1];simp only[Bool.true_and];obtain⟨_,h2,h3⟩:=h1;by_cases h8:n%8>0
   ·have hl:bs.length>=1:=qf;have hlast:=hb (bs.length-1);obtain⟨x,hx⟩:∃x,at0 bs (bs.length-1)=x:=⟨_,rfl⟩
    rw[hx]at hlast ⊢;obtain⟨k,hk⟩:∃k:Nat,(n%8)=k:=⟨(n%8).toNat,qf⟩
    have hk8:k<8:=qf;have e2:(n%8).toNat=k:=qf;rw[e2];have key:(x/2 ^ k=0)↔∀j,j<8->k<=j->x/2 ^ j%2=0:=by
     obtain⟨m,rfl⟩:=Int.eq_ofNat_of_zero_le hlast.1;have hm:m<256:=qf;have:∀k,k<8->∀m,m<256->(m/2 ^ k=0↔∀j,j<8->k<=j->m/2 ^ j%2=0):=qE;have:=this k hk8 m hm
     constructor
     ·intro h j hj hkj;have h':m/2 ^ k=0:=by exact_mod_cast h
      have:=this.1 h' j hj hkj
      exact_mod_cast this
     ·intro h;have h':m/2 ^ k=0:=this.2 (fun j hj hkj=>by have:=h j hj hkj;exact_mod_cast this)
      exact_mod_cast h'
    have e3:decide (n%8>0)=true:=decide_eq_true h8;rw[e3,Bool.true_and,Bool.eq_iff_iff,List.all_eq_true];simp only[ne_eq,decide_not,Bool.not_not,decide_eq_true_eq,List.mem_range,Bool.or_eq_true,Bool.not_eq_true'];rw[key]
    constructor
    ·intro h j hj2;by_cases hj1:(j:Int)<n
     ·exact Or.inl hj1
     refine Or.inr ?_;rw[Zif bs j qf qf];have e4:((j:Int)/8).toNat=bs.length-1:=qf;rw[e4,hx];have e5:((j:Int)%8).toNat<8:=qf;have:=h ((j:Int)%8).toNat e5 qf;rw[this];decide
    ·intro h j hj hkj;have:=(h (8*(bs.length-1)+j) qf).resolve_left qf;rw[Zif bs _ qf qf]at this;have e4:(((8*(bs.length-1)+j:Nat):Int)/8).toNat=bs.length-1:=qf;have e5:(((8*(bs.length-1)+j:Nat):Int)%8).toNat=j:=qf;rw[e4,e5,hx]at this;have:=of_decide_eq_false this;have h7:0<=x/2 ^ j%2:=Int.emod_nonneg _ qh;have h9:x/2 ^ j%2<2:=Int.emod_lt_of_pos _ qh;omega
   ·have e3:decide (n%8>0)=false:=decide_eq_false h8;rw[e3,Bool.false_and,Bool.not_false,eq_comm,List.all_eq_true];intro j hj2;have:=List.mem_range.1 hj2;have:(j:Int)<n:=qf;simp [this]
  ·have e1:decide (0<=n/\n<=256/\(bs.length:Int)=(n+7)/8)=false:=decide_eq_false h1;rw[e1];simp
 ·simp [h0]
end Go.Bl
namespace Go.Bl
open Go.RowKit
def Zan (n:Nat):List Int:=if n<128 then [(n:Int)] else ((n%128+128:Nat):Int)::Zan (n/128)
decreasing_by omega
theorem Zpc {n:Nat}(h:n<128):Zan n=[(n:Int)]:=by rw[Zan,if_pos h]
theorem Zpy {n:Nat}(h:¬n<128):Zan n=((n%128+128:Nat):Int)::Zan (n/128):=by rw[Zan,if_neg h]
def Zmh:List Int->Nat->Int->Int×Int×Nat
 | [],_,_=>(50,0,0)
 | b::l,i,n=>if i=9/\b>1\/b=0/\i>0 then (51,0,0) else if b<128 then (0,n+b%128*128 ^ i,i+1) else Zmh l (i+1) (n+b%128*128 ^ i)
theorem Zqe (n i:Nat):n*128 ^ i=n%128*128 ^ i+n/128*128 ^ (i+1):=by
 rw[Nat.pow_succ,Nat.mul_comm (128 ^ i) 128,<- Nat.mul_assoc,<- Nat.add_mul,Nat.mul_comm (n/128) 128,Nat.mod_add_div]
theorem Ybz (rest:List Int):∀(n i:Nat) (acc:Int),n*128 ^ i<18446744073709551616->(0<i->0<n)->Zmh (Zan n++rest) i acc=(0,acc+((n*128 ^ i:Nat):Int),i+(Zan n).length):=by
 intro n
 induction n using Nat.strongRecOn with
 | ind n ih =>
  intro i acc hb hp;by_cases h:n<128
  ·simp only[Zpc h,List.cons_append,List.nil_append,Zmh,List.length_singleton];rw[if_neg,if_pos qf,show (n:Int)%128=n from qf]
   ·push_cast;rfl
   ·rintro(⟨rfl,h2⟩ | ⟨h2,h3⟩)
    ·have:n*9223372036854775808<18446744073709551616:=hb;omega
    ·have:=hp h3;omega
  ·rw[Zpy h];have hs:=Zqe n i;have h9:i≠9:=by
    rintro rfl;have:n*9223372036854775808<18446744073709551616:=hb;omega
   have hr:=ih (n/128) qf (i+1) (acc+((n%128*128 ^ i:Nat):Int)) qf (fun _=>qf);simp only[List.cons_append,Zmh,List.length_cons];rw[if_neg qf,if_neg qf,show (((n%128+128:Nat):Int)%128)=((n%128:Nat):Int) from qf];have e:acc+((n%128:Nat):Int)*128 ^ i=acc+((n%128*128 ^ i:Nat):Int):=by push_cast;rfl
   rw[e,hr,hs];refine Prod.ext rfl (Prod.ext ?_ ?_)
   ·simp only;omega
   ·simp only;omega
theorem Zqw (s:List Int)(hs:s≠[]):∀(l:List Int) (n i:Nat) (acc:Int),l++s=Zan n->n*128 ^ i<18446744073709551616->Zmh l i acc=(50,0,0)
 | [],_,_,_,_,_=>rfl
 | b::l,n,i,acc,he,hb=>by
  by_cases h:n<128
  ·rw[Zpc h]at he;simp only[List.cons_append,List.cons.injEq,List.append_eq_nil_iff]at he;exact absurd he.2.2 hs
  ·rw[Zpy h]at he;simp only[List.cons_append,List.cons.injEq]at he;obtain⟨rfl,he⟩:=he;have h9:i≠9:=by
    rintro rfl;have:n*9223372036854775808<18446744073709551616:=hb;omega
   have hs':=Zqe n i;simp only[Zmh];rw[if_neg qf,if_neg qf];exact Zqw s hs l (n/128) (i+1) _ he qf
def Yeh (xs:List Int)(s:Nat×Int)(most:Int):Int×(Nat×Int) :=
 if s.2≠0 then (0,s) else
 let r:=Zmh (xs.drop s.1) 0 0
 if r.1≠0 then (0,(s.1,r.1)) else if r.2.1>most then (0,(s.1,51)) else (r.2.1,(s.1+r.2.2,0))
theorem Zwd {xs:List Int}{s:Nat×Int}{most:Int}(h:s.2≠0):Yeh xs s most=(0,s):=by simp [Yeh,h]
theorem Zjn {xs rest:List Int}{k n:Nat}{most:Int}(h:xs.drop k=Zan n++rest)(hn:n<18446744073709551616)(hm:(n:Int)<=most):Yeh xs (k,0) most=((n:Int),(k+(Zan n).length,(0:Int)))/\xs.drop (k+(Zan n).length)=rest:=by
 have:=Ybz rest n 0 0 (by simpa using hn) qf;refine⟨?_,?_⟩
 ·simp only[Yeh,h,this];simp;omega
 ·rw[<- List.drop_drop,h,List.drop_left]
def Short (xs:List Int)(s:Nat×Int)(rest:List Int):Prop:=s.2=50\/s.2=0/\∃t,t≠[]/\xs.drop s.1++t=rest
theorem Short.num {xs rest:List Int}{s:Nat×Int}{n:Nat}{most:Int}(h:Short xs s (Zan n++rest))(hn:n<18446744073709551616)(hm:(n:Int)<=most) :
  (Yeh xs s most).2.2=50\/(Yeh xs s most).1=n/\(Yeh xs s most).2.2=0/\Short xs (Yeh xs s most).2 rest:=by
 rcases h with h | ⟨h0,t,ht,he⟩
 ·left;rw[Zwd qf];exact h
 ·obtain⟨k,e⟩:=s;simp only at h0 he;subst h0;rcases List.append_eq_append_iff.1 he with⟨u,h1,h2⟩ | ⟨u,h1,h2⟩
  ·-- cut within the number's bytes
   by_cases hu:u=[]
   ·subst hu;simp only[List.append_nil,List.nil_append]at h1 h2
    right
    have hr:=Zjn (rest:=[]) (k:=k) (by rw[<- h1];simp) hn hm;rw[hr.1];refine⟨rfl,rfl,Or.inr ⟨rfl,t,ht,?_⟩⟩;simp only;rw[hr.2,<- h2];rfl
   ·left
    have:=Zqw u hu (xs.drop k) n 0 0 h1.symm (by simpa using hn);simp [Yeh,this]
  ·right
   have hr:=Zjn (rest:=u) (k:=k) h1 hn hm;rw[hr.1];refine⟨rfl,rfl,Or.inr ⟨rfl,t,ht,?_⟩⟩;simp only;rw[hr.2,<- h2]
theorem Short.nil {xs:List Int}{s:Nat×Int}(h:Short xs s []):s.2=50:=by
 rcases h with h | ⟨_,t,ht,he⟩
 ·exact h
 ·simp at he;exact absurd he.2 ht
end Go.Bl
namespace Go.Bl
open Go.RowKit
structure ZI where
 ep:Int
 mem:Int
 st:List Int
 bs:List Int
def wsum (st:List Int)(f:Nat->Bool):Nat->Int
 | 0=>0
 | k+1=>wsum st f k+if f k then at0 st k else 0
end Go.Bl
namespace Go.Bl
open Go.RowKit
end Go.Bl
namespace Go.Bl
open Go.RowKit
end Go.Bl
namespace Go.Bl
open Go.RowKit
structure Ze where
 inc:Int
 aF:Int
 floor:Int
 cap:Int
 up:Int
 down:Int
 aP:Int
 aQ:Int
 aO:Int
 aH:Int
 recover:Int
 aA:Int
 rate:Int
 aX:Int
 delay:Int
 ak:Int
 aS:Int
 aJ:Int
 aG:Int
 aK:Int
 wait:Int
 aW:Int
 aN:Int
 aI:Int
 deriving DecidableEq
def Zhq:Ze:=⟨0,0,0,0,0,0,0,0,0,0,0,0,0,0,0,0,0,0,0,0,0,0,0,0⟩
def WZ (p:Ze):List Int:=[p.inc,p.aF,p.floor,p.cap,p.up,p.down,p.aP,p.aQ,p.aO,p.aH,p.recover,p.aA,p.rate,p.aX]
def YA (p:Ze):List Int:=[p.delay,p.ak,p.aS,p.aJ,p.aG,p.aK,p.wait,p.aW,p.aN,p.aI]
structure Zj (p:Ze):Prop where
 w:∀z∈WZ p,0<=z/\z<=18446744073709551615
 n:∀z∈YA p,-9223372036854775808<=z/\z<=9223372036854775807
def wi (n lo hi:Int):Bool:=decide (lo<=n)&&decide (n<=hi)
theorem wi_iff {n lo hi:Int}:wi n lo hi=true↔lo<=n/\n<=hi:=by simp [wi]
def Wa (p:Ze):Bool :=
 [wi p.inc 1 2147483648,wi p.aF p.inc 1099511627776,decide (p.inc<=p.floor),decide (p.floor<p.cap),wi p.cap p.aF 1099511627776,wi p.up p.inc 1099511627776,decide (p.down<=1099511627776)].all id&&decide (p.aF%p.inc=0)
def WB (p:Ze):Bool :=
 [wi p.aP 1 4294967296,wi p.aO p.aP 4294967296,wi p.aQ 1 1099511627776,wi p.aH 1 p.aQ,decide (p.recover<=4294967296),wi p.aA 1 72057594037927936].all id
def We (p:Ze):Bool :=
 [decide (p.rate<=4294967296),decide (p.aX<=1099511627776),wi p.delay 0 1000,wi p.wait 0 50,wi p.aN 0 1000,wi p.aW 1 1000,wi p.ak 0 64,wi p.aS 0 1000,wi p.aJ 0 10000,wi p.aG 0 10000,wi p.aI 0 10000,wi p.aK 1 64].all id
def Vj (p:Ze)(t:Nat):Bool:=decide (2*p.aQ*(p.cap-p.floor)<=p.inc*p.aP*((t:Int)*(t+1)))
def WD (q:Nat->Bool):Nat->Nat->Nat
 | 0,k=>k
 | m+1,k=>if q k then k else WD q m (k+1)
theorem Vp (q:Nat->Bool):∀(m k:Nat),k<=WD q m k/\WD q m k<=k+m/\(∀i,k<=i->i<WD q m k->q i=false)/\(WD q m k<k+m->q (WD q m k)=true)
 | 0,k=>⟨by simp [WD],by simp [WD],fun i h1 h2=>by simp [WD]at h2;omega,fun h=>by simp [WD]at h⟩
 | m+1,k=>by
  simp only[WD];by_cases hq:q k=true
  ·rw[if_pos hq];exact⟨qf,qf,fun i h1 h2=>qf,fun _=>hq⟩
  ·rw[if_neg hq];obtain⟨h1,h2,h3,h4⟩:=Vp q m (k+1);refine⟨qf,qf,fun i hi1 hi2=>?_,fun h=>h4 qf⟩;by_cases e:i=k
   ·subst e;simpa using hq
   ·exact h3 i qf hi2
theorem Vf {q:Nat->Bool}{m k r:Nat}(h1:k<=r)(h2:r<=k+m)(h3:∀i,k<=i->i<r->q i=false)(h4:r<k+m->q r=true):WD q m k=r:=by
 obtain⟨g1,g2,g3,g4⟩:=Vp q m k;rcases Nat.lt_trichotomy (WD q m k) r with h|h|h
 ·have:=h3 _ g1 h;rw[g4 qf]at this
  cases this
 ·exact h
 ·have:=g3 _ h1 h;rw[h4 qf]at this
  cases this
def VT (p:Ze):Nat:=WD (Vj p) 1048576 1
def Yo (p:Ze):Bool:=Wa p&&WB p&&We p&&(decide (VT p<=1048576)&&decide (p.aP*(VT p:Int)<=p.aA))
theorem YK {p:Ze}(h:Wa p=true):1<=p.inc/\p.inc<=2147483648/\p.inc<=p.aF/\p.aF<=1099511627776/\p.inc<=p.floor/\p.floor<p.cap/\p.aF<=p.cap/\p.cap<=1099511627776/\p.inc<=p.up/\p.up<=1099511627776/\p.down<=1099511627776/\p.aF%p.inc=0:=by
 simp only[Wa,List.all_cons,List.all_nil,id,Bool.and_eq_true,wi_iff,decide_eq_true_eq,and_true]at h;omega
theorem Wd {p:Ze}(h:WB p=true):1<=p.aP/\p.aP<=4294967296/\p.aP<=p.aO/\p.aO<=4294967296/\1<=p.aQ/\p.aQ<=1099511627776/\1<=p.aH/\p.aH<=p.aQ/\p.recover<=4294967296/\1<=p.aA/\p.aA<=72057594037927936:=by
 simp only[WB,List.all_cons,List.all_nil,id,Bool.and_eq_true,wi_iff,decide_eq_true_eq,and_true]at h;omega
theorem Zby {p:Ze}(h1:0<=p.inc)(h2:0<=p.aP){t u:Nat}(h:t<=u)(he:Vj p t=true):Vj p u=true:=by
 simp only[Vj,decide_eq_true_eq]at he ⊢;refine Int.le_trans he (Int.mul_le_mul_of_nonneg_left ?_ (Int.mul_nonneg h1 h2));exact Int.mul_le_mul qf qf qf qf
end Go.Bl
namespace Go.Bl
open Go.RowKit
structure Yyw where
 kind:Int
 au:Int
 mem:Int
 to:Int
 amt:Int
 ep:Int
 bits:List Int
 what:Int
 par:Ze
 mot:Int
 yes:Bool
structure Yza (d:Yyw):Prop where
 n:∀z∈[d.kind,d.au,d.mem,d.to,d.ep,d.what,d.mot],-9223372036854775808<=z/\z<=9223372036854775807
 a:0<=d.amt/\d.amt<=18446744073709551615
 p:Zj d.par
end Go.Bl

/- Lemmas and contracts. Conditions: as each says. -/
import Derived.Test.YtllhopbilpdpkaaGreatQ18
import Derived.Test.YtllhopbilpdpkaaGreatQ23
set_option linter.unusedVariables false
set_option linter.unusedSimpArgs false
set_option maxHeartbeats 12800000
set_option maxRecDepth 20000
namespace Go.X
open Go.RowKit Go.Proofs Go.Bl Go.Proofs.Tryz
variable {L:Own} {h:PH} {K:PK}
structure ZD (ms:List Zc)(ps:List Int):Prop where
 m:∀x∈ms,Zf x
 o:∀x∈ms,0<=x.owner/\x.owner<ps.length
 p:∀i,0<=at0 ps i
 t:tot ps+tot (ms.map Zc.bal)<=4611686018427387904
theorem Yp {α:Type}{z:α}{l:List α}{k:Nat}(hk:k<l.length):gr z l k∈l:=by
 rw[Ye hk];exact List.getElem_mem hk
theorem WI {ms:List Zc}{k:Nat}(hk:k<ms.length):at0 (ms.map Zc.bal) k=(gr ZQ ms k).bal:=by
 rw[Ye hk,<- Ys qA,List.getElem_map]
theorem WA {ms:List Zc}(hm:∀x∈ms,Zf x)(i:Nat):0<=at0 (ms.map Zc.bal) i :=
 W9 Zc.bal ms (fun x hx=>((hm x hx).u x.bal qj).1) i
def Uc (q:Ze)(x:List Zc×List Int)(k:Nat):List Zc×List Int :=
 (x.1.set k (W7 q (gr ZQ x.1 k)),x.2.set (gr ZQ x.1 k).owner.toNat (at0 x.2 (gr ZQ x.1 k).owner.toNat+((gr ZQ x.1 k).bal-min (gr ZQ x.1 k).bal q.cap)))
def clN (q:Ze)(x:List Zc×List Int):Nat->List Zc×List Int
 | 0=>x
 | k+1=>Uc q (clN q x k) k
theorem Zvk {q:Ze}(ok:Zj q){m:Zc}(hm:Zf m):Zf (W7 q m):=by
 have u1:=hm.u m.bal qj;have u2:=hm.u m.eff qj;have u3:=hm.u m.score qj;have n1:=hm.n m.ak qj;have n2:=hm.n m.owner qj;have n3:=hm.n m.status qj;have c1:=ok.w q.cap qB;have c2:=ok.w q.aA qB;have c3:=ok.n q.ak (by simp [YA])
 constructor
 ·intro z hz;simp only[W7,JV,List.mem_cons,List.not_mem_nil,or_false]at hz;rcases hz with rfl|rfl|rfl<;>omega
 ·intro z hz;simp only[W7,JV,List.mem_cons,List.not_mem_nil,or_false]at hz;rcases hz with rfl|rfl|rfl<;>omega
theorem Zsk (q:Ze)(x:List Zc×List Int)(k:Nat):(Uc q x k).1.length=x.1.length/\(Uc q x k).2.length=x.2.length:=by
 simp [Uc]
theorem Vl (q:Ze)(x:List Zc×List Int):∀k,(clN q x k).1.length=x.1.length/\(clN q x k).2.length=x.2.length
 | 0=>⟨rfl,rfl⟩
 | k+1=>by
  have h1:=Vl q x k;have h2:=Zsk q (clN q x k) k;exact⟨h2.1.trans h1.1,h2.2.trans h1.2⟩
theorem Zww {q:Ze}(ok:Zj q){x:List Zc×List Int}(hx:ZD x.1 x.2){k:Nat}(hk:k<x.1.length):ZD (Uc q x k).1 (Uc q x k).2:=by
 obtain⟨m,hm⟩:∃m,m=gr ZQ x.1 k:=⟨_,rfl⟩
 have hmem:m∈x.1:=hm ▸ Yp hk;have ho:=hx.o m hmem;have ub:=(hx.m m hmem).u m.bal qj;have hc:=ok.w q.cap qB;have hb:at0 (x.1.map Zc.bal) k=m.bal:=hm ▸ WI hk;have hj:m.owner.toNat<x.2.length:=qf;rw[Uc,<- hm];refine⟨fun y hy=>?_,fun y hy=>?_,fun i=>?_,?_⟩
 ·rcases List.mem_or_eq_of_mem_set hy with hy|rfl
  ·exact hx.m y hy
  ·exact Zvk ok (hx.m m hmem)
 ·simp only[List.length_set];rcases List.mem_or_eq_of_mem_set hy with hy|rfl
  ·exact hx.o y hy
  ·exact ho
 ·have h0:=hx.p i;have h1:=hx.p m.owner.toNat;simp only;rw[Wz _ _ _ _ hj];split<;>omega
 ·have h0:=hx.t;simp only;rw[List.map_set,Gf hj,Gf qA,hb];have:(W7 q m).bal=min m.bal q.cap:=rfl;rw[this];omega
theorem Zkb {q:Ze}(ok:Zj q){x:List Zc×List Int}(hx:ZD x.1 x.2):∀k,k<=x.1.length->ZD (clN q x k).1 (clN q x k).2
 | 0,_=>hx
 | k+1,hk=>Zww ok (Zkb ok hx k qf) (by rw[(Vl q x k).1];omega)
theorem Zuf {q:Ze}(ok:Zj q){x:List Zc×List Int}(hx:ZD x.1 x.2){k:Nat}(hk:k<x.1.length):tot (Uc q x k).2+tot ((Uc q x k).1.map Zc.bal)=tot x.2+tot (x.1.map Zc.bal):=by
 obtain⟨m,hm⟩:∃m,m=gr ZQ x.1 k:=⟨_,rfl⟩
 have hmem:m∈x.1:=hm ▸ Yp hk;have ho:=hx.o m hmem;have hb:at0 (x.1.map Zc.bal) k=m.bal:=hm ▸ WI hk;have hj:m.owner.toNat<x.2.length:=qf;rw[Uc,<- hm];simp only;rw[List.map_set,Gf hj,Gf qA,hb];have:(W7 q m).bal=min m.bal q.cap:=rfl;rw[this];omega
theorem Zyn {q:Ze}(ok:Zj q){x:List Zc×List Int}(hx:ZD x.1 x.2):∀k,k<=x.1.length->tot (clN q x k).2+tot ((clN q x k).1.map Zc.bal)=tot x.2+tot (x.1.map Zc.bal)
 | 0,_=>rfl
 | k+1,hk=>(Zuf ok (Zkb ok hx k qf) (by rw[(Vl q x k).1];omega)).trans (Zyn ok hx k qf)
theorem Zxs {q:Ze}(ok:Zj q){x:List Zc×List Int}(hx:ZD x.1 x.2){k:Nat}(hk:k<x.1.length):at0 x.2 (gr ZQ x.1 k).owner.toNat+((gr ZQ x.1 k).bal-min (gr ZQ x.1 k).bal q.cap)<=4611686018427387904:=by
 have h1:=Yj hx.p (gr ZQ x.1 k).owner.toNat;have h2:=Yj (WA hx.m) k;rw[WI hk]at h2;have h3:=hx.t;have ub:=(hx.m _ (Yp (z:=ZQ) hk)).u (gr ZQ x.1 k).bal qj;have hc:=ok.w q.cap qB;omega
abbrev Uf (m:Zc):Prop:=m.status=2\/m.status=3
def upN (f:Zc->Zc)(l:List Zc):Nat->List Zc
 | 0=>l
 | k+1=>(upN f l k).set k (f (gr ZQ l k))
theorem Wp (f:Zc->Zc)(l:List Zc):∀k,(upN f l k).length=l.length
 | 0=>rfl
 | k+1=>by rw[upN,List.length_set];exact Wp f l k
theorem Zca (f:Zc->Zc)(l:List Zc):∀k,k<=l.length->∀j,gr ZQ (upN f l k) j=if j<k then f (gr ZQ l j) else gr ZQ l j
 | 0,_,j=>by simp [upN]
 | k+1,hk,j=>by
  have ih:=Zca f l k qf j;have hl:=Wp f l k;have hl1:=Wp f l (k+1);by_cases e:j=k
  ·subst e;rw[Ye qf,if_pos qf];simp only[upN,List.getElem_set_self]
  ·by_cases hj:j<l.length
   ·rw[Ye qf]at ih ⊢;simp only[upN];rw[List.getElem_set_ne (Ne.symm e),ih];by_cases c:j<k
    ·rw[if_pos c,if_pos qf]
    ·rw[if_neg c,if_neg qf]
   ·have h1:gr ZQ (upN f l (k+1)) j=gr ZQ l j:=by
     unfold gr;rw[List.getD_eq_getElem?_getD,List.getD_eq_getElem?_getD,List.getElem?_eq_none qf,List.getElem?_eq_none qf]
    rw[h1,if_neg qf]
theorem JZ (f:Zc->Zc)(l:List Zc){k:Nat}(hk:k<l.length):gr ZQ (upN f l k) k=gr ZQ l k:=by
 rw[Zca f l k qf,if_neg qf]
theorem Zrh (f:Zc->Zc)(l:List Zc){k:Nat}(hk:k<l.length)(hf:f (gr ZQ l k)=gr ZQ l k):upN f l (k+1)=upN f l k:=by
 have hl:=Wp f l k;have h1:=JZ f l hk;rw[Ye qf]at h1;rw[upN,hf,<- h1,List.set_getElem_self]
theorem Zgt (f:Zc->Zc)(l:List Zc):upN f l l.length=l.map f:=by
 refine List.ext_getElem (by rw[Wp,List.length_map]) fun j h1 h2=>?_;have hj:j<l.length:=by rwa [Wp]at h1
 rw[<- Ye (z:=ZQ) h1,Zca f l _ (Nat.le_refl _),if_pos hj,Ye hj,List.getElem_map]
theorem Zaw {f:Zc->Zc}{l:List Zc}(P:Zc->Prop)(hf:∀x,P x->P (f x))(hl:∀x∈l,P x):∀k,k<=l.length->∀x∈upN f l k,P x
 | 0,_=>hl
 | k+1,hk=>fun x hx=>by
  rw[upN]at hx;rcases List.mem_or_eq_of_mem_set hx with hx|rfl
  ·exact Zaw P hf hl k qf x hx
  ·exact hf _ (hl _ (Yp qf))
theorem Zyo (q:Ze)(x:List Zc×List Int):∀k,k<=x.1.length->(clN q x k).1=upN (W7 q) x.1 k
 | 0,_=>rfl
 | k+1,hk=>by
  have ih:=Zyo q x k qf;show (clN q x k).1.set k (W7 q (gr ZQ (clN q x k).1 k))=_;rw[ih,JZ _ _ qf];rfl
def Gm (q:Ze)(m:Zc):Zc:=if Uf m then Y5 q m else m
abbrev ejP (q:Ze)(m:Zc):Prop:=Uf m/\m.bal<=q.floor
def Zqm (m:Zc):Zc:=⟨0,0,m.score,0,m.owner,4⟩
def ejF (q:Ze)(m:Zc):Zc:=if ejP q m then Zqm m else m
theorem Ycd {m:Zc}(hm:Zf m):Zf (Zqm m):=by
 have u3:=hm.u m.score qj;have n2:=hm.n m.owner qj
 constructor
 ·intro z hz;simp only[Zqm,List.mem_cons,List.not_mem_nil,or_false]at hz;rcases hz with rfl|rfl|rfl<;>omega
 ·intro z hz;simp only[Zqm,List.mem_cons,List.not_mem_nil,or_false]at hz;rcases hz with rfl|rfl|rfl<;>omega
theorem Zsq {q:Ze}(ok:Zj q)(hr:Yo q=true){m:Zc}(hm:Zf m):Zf (Y5 q m):=by
 have u1:=hm.u m.bal qj;have u2:=hm.u m.eff qj;have u3:=hm.u m.score qj;have n1:=hm.n m.ak qj;have n2:=hm.n m.owner qj;have n3:=hm.n m.status qj;have hw:=Ji (Ul hr) ok u1;have ue:0<=(Y5 q m).eff/\(Y5 q m).eff<=18446744073709551615:=by
  unfold Y5;simp only;split
  ·unfold UL;split
   ·exact hw
   ·exact u2
  ·exact hw
 constructor
 ·intro z hz;simp only[List.mem_cons,List.not_mem_nil,or_false]at hz;rcases hz with rfl|rfl|rfl
  ·exact u1
  ·exact ue
  ·exact u3
 ·intro z hz;simp only[Y5,List.mem_cons,List.not_mem_nil,or_false]at hz;rcases hz with rfl|rfl|rfl<;>omega
theorem Zaa {q:Ze}(ok:Zj q)(hr:Yo q=true){m:Zc}(hm:Zf m):Zf (Gm q m):=by
 unfold Gm;split
 ·exact Zsq ok hr hm
 ·exact hm
theorem Zpf {q:Ze}{m:Zc}(hm:Zf m):Zf (ejF q m):=by
 unfold ejF;split
 ·exact Ycd hm
 ·exact hm
theorem Zph (zs:List Int):∀k,k<=zs.length->YE zs k=(zs.take k).sum
 | 0,_=>by simp [YE]
 | k+1,hk=>by
  rw[YE,Zph zs k qf,List.take_succ_eq_append_getElem hk,List.sum_append,Ys hk];simp
theorem Zia (zs:List Int):tot zs=zs.sum:=by
 rw[tot,Zph zs _ (Nat.le_refl _),List.take_length]
def JT (d x:Zh):Bool:=decide (x.au=d.au)&&decide (x.at'=d.at')
def Wg (l:List Zh)(t:Int):Nat->Nat
 | 0=>0
 | k+1=>if (gr ZT l k).at'<=t then k+1 else Wg l t k
theorem GF (l:List Zh)(t:Int):∀k,Wg l t k<=k
 | 0=>Nat.le_refl _
 | k+1=>by
  have:=GF l t k;rw[Wg];split<;>omega
def Zis (l:List Zh)(d:Zh):Nat:=l.findIdx (JT d)
def Zzq (x d:Zh):Zh:=⟨x.au,x.at',x.amt+d.amt⟩
def Ztt (l:List Zh)(d:Zh):List Zh:=l.take (Wg l d.at' l.length)++d::l.drop (Wg l d.at' l.length)
def V3 (l:List Zh)(d:Zh):List Zh :=
 if d.amt=0 then l else if Zis l d<l.length then l.set (Zis l d) (Zzq (gr ZT l (Zis l d)) d) else Ztt l d
def Y9 (l:List Zh):Int:=tot (l.map Zh.amt)
theorem Zpl (l:List Zh):Y9 l=(l.map Zh.amt).sum:=Zia _
theorem Ydv (l:List Zh)(d:Zh):Y9 (Ztt l d)=Y9 l+d.amt:=by
 rw[Zpl,Zpl,Ztt]
 conv=>rhs;rw[<- List.take_append_drop (Wg l d.at' l.length) l]
 rw[List.map_append,List.map_cons,List.map_append,List.sum_append,List.sum_append,List.sum_cons];omega
theorem Znh {l:List Zh}{k:Nat}(hk:k<l.length):at0 (l.map Zh.amt) k=(gr ZT l k).amt:=by
 rw[Ye hk,<- Ys qA,List.getElem_map]
theorem Zbp (l:List Zh)(d:Zh):Y9 (V3 l d)=Y9 l+d.amt:=by
 unfold V3;split
 ·omega
 ·split
  ·rename_i h1;rw[Y9,List.map_set,Gf qO,Znh h1];simp only[Zzq,Y9];omega
  ·exact Ydv l d
theorem Zqp (l:List Zh)(d:Zh):(V3 l d).length<=l.length+1:=by
 unfold V3;split
 ·omega
 ·split
  ·simp
  ·have:=GF l d.at' l.length;simp only[Ztt,List.length_append,List.length_cons,List.length_take,List.length_drop];omega
theorem Zgs {l:List Zh}{d x:Zh}(hx:x∈V3 l d):x∈l\/x=d\/(Zis l d<l.length/\x=Zzq (gr ZT l (Zis l d)) d):=by
 unfold V3 at hx;split at hx
 ·exact .inl hx
 ·split at hx
  ·rename_i h1;rcases List.mem_or_eq_of_mem_set hx with hx|hx
   ·exact .inl hx
   ·exact .inr (.inr ⟨h1,hx⟩)
  ·simp only[Ztt,List.mem_append,List.mem_cons]at hx;rcases hx with hx|rfl|hx
   ·exact .inl (List.mem_of_mem_take hx)
   ·exact .inr (.inl rfl)
   ·exact .inl (List.mem_of_mem_drop hx)
structure Yzd (l:List Zh)(n:Nat)(M:Int):Prop where
 d:∀x∈l,Zs x
 t:Y9 l<=M
 n:l.length<=n
theorem Zam {l:List Zh}(hl:∀x∈l,Zs x)(i:Nat):0<=at0 (l.map Zh.amt) i:=W9 Zh.amt l (fun x hx=>(hl x hx).a.1) i
theorem Zrj {l:List Zh}(hl:∀x∈l,Zs x){k:Nat}(hk:k<l.length):(gr ZT l k).amt<=Y9 l:=by
 rw[<- Znh hk];exact Yj (Zam hl) k
theorem J3 {l:List Zh}{k:Nat}(hk:k<l.length):gr ZT l k∈l:=Yp hk
theorem Zly {l:List Zh}{d:Zh}{n:Nat}{M:Int}(hl:Yzd l n M)(hd:Zs d)(hM:M+d.amt<=4611686018427387904):Yzd (V3 l d) (n+1) (M+d.amt):=by
 refine⟨fun x hx=>?_,?_,?_⟩
 ·rcases Zgs hx with hx|rfl | ⟨h1,rfl⟩
  ·exact hl.d x hx
  ·exact hd
  ·have h2:=hl.d _ (J3 h1);have h3:=Zrj hl.d h1;have h4:=hl.t;have h5:=hd.a;refine⟨?_,h2.n⟩;have:=h2.a;show 0<=(gr ZT l (Zis l d)).amt+d.amt/\(gr ZT l (Zis l d)).amt+d.amt<=18446744073709551615;omega
 ·rw[Zbp];have:=hl.t;omega
 ·have:=Zqp l d;have:=hl.n;omega
def VB (t:Int)(m:Zc):Zh:=⟨m.owner,t,m.bal⟩
def duN (q:Ze)(cs:List Zc)(t:Int)(ds:List Zh):Nat->List Zh
 | 0=>ds
 | k+1=>if ejP q (gr ZQ cs k) then V3 (duN q cs t ds k) (VB t (gr ZQ cs k)) else duN q cs t ds k
def Yso (l:List Int)(k:Nat):List Int:=l.filter fun x=>decide (x≠(k:Int))
def exN (q:Ze)(cs:List Zc)(xs:List Int):Nat->List Int
 | 0=>xs
 | k+1=>if ejP q (gr ZQ cs k) then Yso (exN q cs xs k) k else exN q cs xs k
def ouN (q:Ze)(cs:List Zc):Nat->List Int
 | 0=>[]
 | k+1=>if ejP q (gr ZQ cs k) then ouN q cs k++[(k:Int)] else ouN q cs k
theorem Yal (l:List Int)(k:Nat):(Yso l k).length<=l.length:=List.length_filter_le _ _
theorem Zdd (q:Ze)(cs:List Zc)(xs:List Int):∀k,(exN q cs xs k).length<=xs.length
 | 0=>Nat.le_refl _
 | k+1=>by
  have h1:=Zdd q cs xs k;have h2:=Yal (exN q cs xs k) k;rw[exN];split<;>omega
theorem Gg (q:Ze)(cs:List Zc):∀k,(ouN q cs k).length<=k
 | 0=>Nat.le_refl _
 | k+1=>by
  have h1:=Gg q cs k;rw[ouN];split
  ·rw[List.length_append];simp;omega
  ·omega
def flt (l:List Int)(k:Int):List Int:=l.filter fun x=>decide (x≠k)
theorem Zie {xs:List Int}{k:Int}{j:Nat}(hj:j<xs.length):flt (xs.take (j+1)) k=flt (xs.take j) k++(if at0 xs j≠k then [at0 xs j] else []):=by
 rw[List.take_succ_eq_append_getElem hj,flt,List.filter_append,<- Ys hj,flt];by_cases c:xs[j]=k
 ·simp [c]
 ·simp [c]
theorem Zpa {xs:List Int}{k:Int}(h:∀j,j<xs.length->at0 xs j≠k):flt xs k=xs:=by
 rw[flt,List.filter_eq_self];intro x hx;obtain⟨j,hj,rfl⟩:=List.mem_iff_getElem.1 hx;have:=h j hj;rw[<- Ys hj]at this
 simpa using this
theorem Yac {xs:List Int}{k:Int}:∀ {i:Nat},i<=xs.length->(∀j,j<i->at0 xs j≠k)->flt (xs.take i) k=xs.take i
 | i,hi,h=>Zpa fun j hj=>by
  have hj2:j<i:=by simp only[List.length_take]at hj;omega
  rw[Zgv,if_pos hj2];exact h j hj2
theorem Znn (xs:List Int)(k:Int):(flt xs k).length<=xs.length:=List.length_filter_le _ _
theorem Zgy {cs:List Int}{i:Nat}{v:Int}(hi:i<cs.length):(cs.set i v).take (i+1)=cs.take i++[v]:=by
 rw[List.take_succ_eq_append_getElem zn,List.getElem_set_self,List.take_set_of_le (Nat.le_refl i)]
theorem Yau {l:List Zh}{d:Zh}{i:Nat}(hi:i<l.length)(h1:JT d (gr ZT l i)=true)(h2:∀j,j<i->JT d (gr ZT l j)=false):Zis l d=i:=by
 rw[Zis,List.findIdx_eq hi];refine⟨by rw[<- Ye (z:=ZT) hi];exact h1,fun j hj=>?_⟩;rw[<- Ye (z:=ZT) qf];exact h2 j hj
theorem Zvm {l:List Zh}{d:Zh}(h2:∀j,j<l.length->JT d (gr ZT l j)=false):¬Zis l d<l.length:=by
 have:Zis l d=l.length:=by
  rw[Zis,List.findIdx_eq_length];intro x hx;obtain⟨j,hj,rfl⟩:=List.mem_iff_getElem.1 hx;rw[<- Ye (z:=ZT) hj];exact h2 j hj
 omega
def Ztu (l:List Zh)(i:Nat)(d:Zh):List Zh:=l.take i++d::l.drop i
theorem V8 (n lo hi:Int)(hk:K (.bool (wi n lo hi)) L h):Zb prog 119 [.int .i64 n,.int .i64 lo,.int .i64 hi] L h K:=by
 unfold wi at hk;refine ed func119 ?_;refine xx ?_;by_cases c:lo<=n
 ·refine xx ?_;exact ZP qC
 ·refine xx ?_;exact ZP qC
theorem JK (n lo hi:Int)(hk:K (.bool (wi n lo hi)) L h):Zb prog 256 [.int .i64 n,.int .i64 lo,.int .i64 hi] L h K:=by
 unfold wi at hk;refine ed func256 ?_;refine xx ?_;by_cases c:lo<=n
 ·refine xx ?_;exact ZP qC
 ·refine xx ?_;exact ZP qC
def fI (zs:List Int)(x:Int):Int:=if WD (fun k=>decide (at0 zs k=x)) zs.length 0=zs.length then -1 else (WD (fun k=>decide (at0 zs k=x)) zs.length 0:Nat)
theorem Zre (zs:List Int)(x:Int):0<=fI zs x↔x∈zs:=by
 obtain⟨_,h2,h3,h4⟩:=Vp (fun k=>decide (at0 zs k=x)) zs.length 0;unfold fI
 constructor
 ·intro h;split at h
  ·omega
  ·rename_i c;have:=h4 qf;simp only[decide_eq_true_eq]at this;rw[<- this,<- Ys qf];exact List.getElem_mem _
 ·intro h;obtain⟨j,hj,e⟩:=List.mem_iff_getElem.1 h;rw[if_neg]
  ·omega
  ·intro c;have:=h3 j qf qf;rw[Ys hj]at e;simp [e]at this
theorem Ysq {zs:List Int}{x:Int}{k:Nat}(h1:k<zs.length)(h2:∀j,j<k->at0 zs j≠x)(h3:at0 zs k=x):fI zs x=k:=by
 have:WD (fun k=>decide (at0 zs k=x)) zs.length 0=k:=Vf (Nat.zero_le _) qf (fun i _ hi=>decide_eq_false (h2 i hi)) (fun _=>decide_eq_true h3);unfold fI;rw[this,if_neg qf]
theorem Yll {zs:List Int}{x:Int}(h2:∀j,j<zs.length->at0 zs j≠x):fI zs x = -1:=by
 have:WD (fun k=>decide (at0 zs k=x)) zs.length 0=zs.length:=Vf (Nat.zero_le _) qf (fun i _ hi=>decide_eq_false (h2 i hi)) (fun h=>qf);unfold fI;rw[if_pos this]
theorem Zfr {zs:List Int}(v:Value)(x:Int)(hz:Ints h .i64 v zs)(hk:K (.int .i64 (fI zs x)) L h):Zb prog 257 [v,.int .i64 x] L h K:=by
 have hn:=hz.num;obtain⟨a,c,rfl,hcap,hl,_,hcs⟩:=hz.open;refine ed func257 ?_;refine xx ?_;refine Y1 (0:Nat) (fun k=>k<=zs.length/\∀j,j<k->at0 zs j≠x) (fun k=>[(5,.int .i64 k),(0,.slice a zs.length c),(1,.int .i64 x)]) (fun k=>zs.length-k) ?_ ?_ ?_
 ·exact⟨Nat.zero_le _,fun j hj=>qf⟩
 ·simp [Ent,List.lookup,YT]
 rintro k ⟨k1,k2⟩;by_cases c1:k<zs.length
 ·by_cases c2:at0 zs k=x
  ·refine xe ?_;rw[Ysq c1 k2 c2]at hk;exact ZP hk
  ·refine xe ?_;refine⟨k+1,⟨qf,fun j hj=>?_⟩,qf,qi,Za.refl _ _⟩;by_cases e:j=k
   ·subst e;exact c2
   ·exact k2 j qf
 ·refine xx ?_;rw[Yll (fun j hj=>k2 j qf)]at hk;exact ZP hk
theorem U3 {bs:List Int}(v:Value)(hb:Ints h .u8 v bs)(hk:K (.bool (Gn bs 128)) L h):Zb prog 122 [v] L h K:=by
 have hb':=hb;obtain⟨a,c,rfl,_⟩:=hb.open;rw[Zxw bs 128 hb'.byte]at hk;refine ed func122 ?_;refine xx ?_;refine Zsi _ 128 hb' qh qh ?_;refine xx ?_;exact ZP hk
theorem Zxh (d:Zk)(ok:ZG d)(hk:∀a n c,K (.tuple #[.slice a n c,.int .i64 (if Zij d then 0 else 2)]) L h):Zb prog 258 [.slice none 0 0,Yvu d] L h K:=by
 have ua:=ok.a;have no:Zij d=false->K (.tuple #[.slice none 0 0,.int .i64 2]) L h:=fun e=>by have:=hk none 0 0;rwa [e]at this
 refine eF func258 ?_;refine xx ?_;refine ZY fun b1 nb1 zb1=>?_;(try simp only[ZS]at nb1);refine xx ?_;by_cases c1:d.au<0
 ·have:=no zB;refine xx ?_;exact ZO (ZP this)
 by_cases c2:63<d.au
 ·have:=no zB;refine xx ?_;exact ZO (ZP this)
 by_cases c3:d.mem<0
 ·have:=no zB;refine xx ?_;exact ZO (ZP this)
 by_cases c4:127<d.mem
 ·have:=no zB;refine xx ?_;exact ZO (ZP this)
 by_cases c5:d.amt=0
 ·have:=no zB
  cases c6:d.new with
  | true =>
   by_cases c7:0<d.mem
   ·refine xx ?_;exact ZO (ZP this)
   ·refine xx ?_;exact ZO (ZP this)
  | false =>
   refine xx ?_;exact ZO (ZP this)
 by_cases c8:4611686018427387904<d.amt
 ·have:=no zB
  cases c6:d.new with
  | true =>
   by_cases c7:0<d.mem
   ·refine xx ?_;exact ZO (ZP this)
   ·refine xx ?_;exact ZO (ZP this)
  | false =>
   refine xx ?_;exact ZO (ZP this)
 cases c6:d.new with
 | true =>
  by_cases c7:0<d.mem
  ·have:=no (by simp [Zij,wi,c6];omega);refine xx ?_;exact ZO (ZP this)
  ·have yes:Zij d=true:=by simp [Zij,wi,c6];omega
   rw[yes]at hk;refine xx ?_;refine ZZ (t:=41) (e:=233) (sz:=4) (bytes:=32) qg Zfa rfl rfl rfl rfl qh [] _ none 0 [] rfl rfl (.inl ⟨rfl,rfl,rfl⟩) (m:=0) (news:=[]) rfl (fun u hu=>by cases hu) qh qh ?_;intro o1 i1 i2 i3;have:o1=none:=i3.2 ⟨rfl,rfl⟩;subst this;refine fF ?_;refine ZY fun b2 nb2 zb2=>?_;(try simp only[ZS]at nb2);refine fG ?_;refine ZZ (t:=41) (e:=233) (sz:=4) (bytes:=32) qg Zfa rfl rfl rfl rfl qh [_] _ none 0 [] rfl rfl (Src.own (b:=b2) List.mem_cons_self) (m:=1) (news:=[.int .i64 d.au,.int .i64 d.mem,.int .u64 d.amt,.bool true]) rfl (by intro u hu;simp only[List.mem_cons,List.not_mem_nil,or_false]at hu;rcases hu with rfl|rfl|rfl|rfl<;>rfl) qh qh ?_;intro o' j1 j2 j3;have ho:=Z5 j1;obtain⟨a',c',e',_⟩:=ho;rw[e'];refine xx ?_;exact ZO (WC (ZO (ZP (hk _ _ _))))
 | false =>
  have yes:Zij d=true:=by simp [Zij,wi,c6];omega
  rw[yes]at hk;refine xx ?_;refine ZZ (t:=41) (e:=233) (sz:=4) (bytes:=32) qg Zfa rfl rfl rfl rfl qh [] _ none 0 [] rfl rfl (.inl ⟨rfl,rfl,rfl⟩) (m:=0) (news:=[]) rfl (fun u hu=>by cases hu) qh qh ?_;intro o1 i1 i2 i3;have:o1=none:=i3.2 ⟨rfl,rfl⟩;subst this;refine fF ?_;refine ZY fun b2 nb2 zb2=>?_;(try simp only[ZS]at nb2);refine fG ?_;refine ZZ (t:=41) (e:=233) (sz:=4) (bytes:=32) qg Zfa rfl rfl rfl rfl qh [_] _ none 0 [] rfl rfl (Src.own (b:=b2) List.mem_cons_self) (m:=1) (news:=[.int .i64 d.au,.int .i64 d.mem,.int .u64 d.amt,.bool false]) rfl (by intro u hu;simp only[List.mem_cons,List.not_mem_nil,or_false]at hu;rcases hu with rfl|rfl|rfl|rfl<;>rfl) qh qh ?_;intro o' j1 j2 j3;have ho:=Z5 j1;obtain⟨a',c',e',_⟩:=ho;rw[e'];refine xx ?_;exact ZO (WC (ZO (ZP (hk _ _ _))))
theorem Yub (p q:Ze)(x y:Operand)(K:Value->Prop)(t:Zm K):VO prog .eql 39 x y (WS p) (WS q) K t=K (.bool (decide (p=q))):=by
 rw[<- Yht];exact Gc (T:=39) (ks:=Ytr) qg qg qg qg (WZ p++YA p) (WZ q++YA q) rfl rfl x y K t
theorem Zui (m:Zl)(y n:Value)(hy0:Ints h .u8 y m.yes)(hn0:Ints h .u8 n m.no)(ok:Yyq m)(hk:∀h',PH.le h h'->K (.bool (WP m)) L h'):Zb prog 121 [motV m y n] L h K:=by
 have hy:=hy0;have hn:=hn0;obtain⟨ya,yc,rfl,_⟩:=hy.open;obtain⟨na,nc,rfl,_⟩:=hn.open;have ua:=ok.a;unfold WP at hk;have hk0:=hk h (PH.le_refl h);refine ed func121 ?_;refine xx ?_;refine ZY fun b1 nb1 zb1=>?_;(try simp only[ZS]at nb1);refine xx ?_;refine JK _ _ _ ?_
 cases q1:wi m.au 0 63 with
 | false =>
  rw[show YP m=false by simp [YP,q1]]at hk0;refine xx ?_;exact ZO (ZP qY)
 | true =>
 refine xx ?_;refine JK _ _ _ ?_
 cases q2:wi m.to 0 63 with
 | false =>
  rw[show YP m=false by simp [YP,q2]]at hk0;refine xx ?_;exact ZO (ZP qY)
 | true =>
 refine xx ?_;refine JK _ _ _ ?_
 cases q3:wi m.what 1 4 with
 | false =>
  rw[show YP m=false by simp [YP,q3]]at hk0;refine xx ?_;exact ZO (ZP qY)
 | true =>
 refine xx ?_;refine JK _ _ _ ?_
 cases q4:wi m.state 1 4 with
 | false =>
  rw[show YP m=false by simp [YP,q4]]at hk0;refine xx ?_;exact ZO (ZP qY)
 | true =>
 rw[show YP m=true by simp [YP,q1,q2,q3,q4]]at hk0;refine xx ?_;refine JK _ _ _ ?_
 cases q5:wi m.ends 0 2147483647 with
 | false =>
  rw[show WF m=false by simp [WF,q5]]at hk0;refine xx ?_;exact ZO (ZP qY)
 | true =>
 refine xx ?_;refine JK _ _ _ ?_
 cases q6:wi m.due 0 2147483647 with
 | false =>
  rw[show WF m=false by simp [WF,q6]]at hk0;refine xx ?_;exact ZO (ZP qY)
 | true =>
 by_cases q7:4611686018427387904<m.amt
 ·rw[show WF m=false by simp [WF];omega]at hk0;refine xx ?_;exact ZO (ZP qY)
 ·rw[show WF m=true by simp [WF,q5,q6];omega]at hk0;refine xx ?_;refine U3 _ hy0 ?_
  cases q8:Gn m.yes 128 with
  | false =>
   rw[q8]at hk0;refine xx ?_;exact ZO (ZP qY)
  | true =>
  rw[q8]at hk0;refine xx ?_;refine U3 _ hn0 ?_
  cases q9:Gn m.no 128 with
  | false =>
   rw[q9]at hk0;refine xx ?_;exact ZO (ZP qY)
  | true =>
  rw[q9]at hk0;have q10:YP m=true:=by simp [YP,q1,q2,q3,q4]
  have q11:WF m=true:=by simp [WF,q5,q6];omega
  by_cases c:m.what=1
  ·refine xx ?_;refine Zgb m.par ok.p fun h' le=>?_;have hk1:=hk h' le;rw[q8,q9,if_pos c,q10,q11]at hk1;refine xx ?_;exact ZO (ZP (by simpa using hk1))
  ·rw[if_neg c]at hk0;refine xx ?_;refine(Yub m.par Zhq _ _ _ _).mpr ?_;refine xx ?_;exact ZO (ZP qY)
theorem Zjs {s:Zg}(v:SV)(hs:Zp h v s)(few:Zy s){l:List Int}(lv:Value)(hlv:Ints h .i64 lv l)(st:Int)(hst : -9223372036854775808<=st/\st<=9223372036854775807)(hk:K (.bool (Zfz s l st)) L h):Zb prog 123 [stV s v,lv,.int .i64 st] L h K:=by
 obtain⟨pa,pc,ma,mc,ea,ec,xa,xc,oa,oc,da,dc,ta,tc,ka,kc,ra,rc,rfl⟩:=hs.slices;have hm:Zd YD 6 h (.slice ma s.ae.length mc) s.ae:=hs.m;have fm:=few.m;have hn:=hlv.num;have hlv0:=hlv;obtain⟨la,lc,rfl,hlc,hll,_,hcs⟩:=hlv.open;refine ed func123 ?_;refine xx ?_;refine ZY fun b1 nb1 zb1=>?_;(try simp only[ZS]at nb1);refine xx ?_;refine Yi (0:Nat) (fun k=>k<=l.length/\∀j,j<k->Zdu s l st j=true) (fun k=>[(7,.int .i64 k),(1,.slice la l.length lc),(2,.int .i64 st),(3,.pointer (some ⟨b1,0,none⟩))]) (fun _=>⟨b1,45,stC s ⟨.slice pa s.ag.length pc,.slice ma s.ae.length mc,.slice ea s.entry.length ec,.slice xa s.exit.length xc,.slice oa s.aj.length oc,.slice da s.ai.length dc,.slice ta s.ah.length tc,.slice ka s.marks.length kc,.slice ra s.ring.length rc⟩,41⟩::L) (fun _=>h) (fun k=>l.length-k) ?_ ?_ ?_ ?_
 ·exact⟨Nat.zero_le _,fun j hj=>qf⟩
 ·simp [Ent,List.lookup,YT]
 ·exact Za.refl _ _
 rintro k ⟨k1,k2⟩;by_cases c1:k<l.length
 ·have hnk:=hn k;refine xx ?_;refine WX qg rfl ?_;refine xe ?_;refine VK _ (V8 _ _ _ ⟨rfl,rfl,rfl⟩) ?_
  cases q1:wi (at0 l k) 0 ((s.ae.length:Int)-1) with
  | false =>
   rw[Zne c1 (by simp only[Zdu,q1,Bool.false_and])]at hk;refine xx ?_;exact ZO (ZP hk)
  | true =>
  have q1':=wi_iff.1 q1;simp -dsimp -implicitDefEqProofs (disch:=first|exact dD|fail) [go_sem,idx hcs,↓Us ZQ qh hm];refine(Zd.fld ZQ hm (j:=(at0 l k).toNat) (o:=5) qf (u:=.int .i64 (gr ZQ s.ae (at0 l k).toNat).status) rfl _ _ _).mpr ?_;by_cases c2:(gr ZQ s.ae (at0 l k).toNat).status=st
  ·refine xe ?_;refine VK _ (Zfr (zs:=l.take k) _ (at0 l k) (hlv0.take k qf) ⟨rfl,rfl,rfl⟩) ?_;have hf:=Zre (l.take k) (at0 l k);by_cases c3:0<=fI (l.take k) (at0 l k)
   ·rw[Zne c1 (by simp only[Zdu,decide_eq_true (hf.1 c3),Bool.not_true,Bool.and_false])]at hk;refine xx ?_;exact ZO (ZP hk)
   ·refine xx ?_;refine⟨k+1,⟨qf,fun j hj=>?_⟩,qf,qi,Za.refl _ _⟩;by_cases e:j=k
    ·subst e;simp only[Zdu,q1,decide_eq_true c2,decide_eq_false (fun h=>c3 (hf.2 h)),Bool.not_false,Bool.and_self]
    ·exact k2 j qf
  ·rw[Zne c1 (by simp only[Zdu,decide_eq_false c2,Bool.false_and,Bool.and_false])]at hk;refine xx ?_;exact ZO (ZP hk)
 ·have hkl:k=l.length:=qf;subst hkl;refine xx ?_;refine Yi (0:Nat) (fun k=>k<=s.ae.length/\∀j,j<k->(gr ZQ s.ae j).status=st->(j:Int)∈l) (fun k=>[(8,.int .i64 k),(1,.slice la l.length lc),(2,.int .i64 st),(3,.pointer (some ⟨b1,0,none⟩))]) (fun _=>⟨b1,45,stC s ⟨.slice pa s.ag.length pc,.slice ma s.ae.length mc,.slice ea s.entry.length ec,.slice xa s.exit.length xc,.slice oa s.aj.length oc,.slice da s.ai.length dc,.slice ta s.ah.length tc,.slice ka s.marks.length kc,.slice ra s.ring.length rc⟩,41⟩::L) (fun _=>h) (fun k=>s.ae.length-k) ?_ ?_ ?_ ?_
  ·exact⟨Nat.zero_le _,fun j hj=>qf⟩
  ·simp [Ent,List.lookup,YT]
  ·exact Za.refl _ _
  rintro k ⟨m1,m2⟩;by_cases c1:k<s.ae.length
  ·refine fH ?_;refine(Zd.fld ZQ hm (j:=k) (o:=5) c1 (u:=.int .i64 (gr ZQ s.ae k).status) rfl _ _ _).mpr ?_;by_cases c2:(gr ZQ s.ae k).status=st
   ·refine xx ?_;refine Zfr _ k hlv0 ?_;have hf:=Zre l k;by_cases c3:fI l k<0
    ·have:Zfz s l st=false:=by
      cases hc:Zfz s l st with
      | false=>rfl
      | true=>exact absurd ((row_iff.1 hc).2 k c1 c2) (fun h=>by have:=hf.2 h;omega)
     rw[this]at hk;refine xx ?_;exact ZO (ZP hk)
    ·refine xx ?_;refine⟨k+1,⟨qf,fun j hj=>?_⟩,qf,qi,Za.refl _ _⟩;by_cases e:j=k
     ·subst e;exact fun _=>hf.1 qf
     ·exact m2 j qf
   ·refine xx ?_;refine⟨k+1,⟨qf,fun j hj=>?_⟩,qf,qi,Za.refl _ _⟩;by_cases e:j=k
    ·subst e;exact fun h=>absurd h c2
    ·exact m2 j qf
  ·have:Zfz s l st=true:=row_iff.2 ⟨k2,fun j hj=>m2 j qf⟩;rw[this]at hk;refine xx ?_;exact ZO (ZP hk)
end Go.X

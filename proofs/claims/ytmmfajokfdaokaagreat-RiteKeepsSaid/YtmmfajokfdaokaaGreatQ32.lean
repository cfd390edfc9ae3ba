/- Lemmas and contracts. Conditions: as each says. -/
import Derived.Test.YtmmfajokfdaokaaGreatQ29
set_option linter.unusedVariables false
set_option linter.unusedSimpArgs false
set_option maxHeartbeats 12800000
set_option maxRecDepth 20000
namespace Go.X
open Go.RowKit Go.Proofs Go.Bl
variable {L:Own} {h:PH} {K:PK}
structure ZK (ms:List Zc)(ps:List Int):Prop where
 m:∀x∈ms,Zg x
 o:∀x∈ms,0≤x.owner∧x.owner<ps.length
 p:∀i,0≤at0 ps i
 t:tot ps+tot (ms.map Zc.bal)≤4611686018427387904
theorem YM {α:Type}{z:α}{l:List α}{k:Nat}(hk:k<l.length):gr z l k∈l:=by
 rw[Yl hk];exact List.getElem_mem hk
theorem VD {ms:List Zc}{k:Nat}(hk:k<ms.length):at0 (ms.map Zc.bal) k=(gr ZS ms k).bal:=by
 rw[Yl hk,← Yx (by simpa using hk),List.getElem_map]
theorem VC {ms:List Zc}(hm:∀x∈ms,Zg x)(i:Nat):0≤at0 (ms.map Zc.bal) i :=
 Vw Zc.bal ms (fun x hx=>((hm x hx).u x.bal (by simp)).1) i
def Jl (q:Ze)(x:List Zc×List Int)(k:Nat):List Zc×List Int :=
 (x.1.set k (UO q (gr ZS x.1 k)),x.2.set (gr ZS x.1 k).owner.toNat (at0 x.2 (gr ZS x.1 k).owner.toNat+((gr ZS x.1 k).bal-min (gr ZS x.1 k).bal q.cap)))
def clN (q:Ze)(x:List Zc×List Int):Nat→List Zc×List Int
 | 0=>x
 | k+1=>Jl q (clN q x k) k
theorem Ydu {q:Ze}(ok:Zj q){m:Zc}(hm:Zg m):Zg (UO q m):=by
 have u1:=hm.u m.bal (by simp);have u2:=hm.u m.eff (by simp);have u3:=hm.u m.score (by simp);have n1:=hm.n m.streak (by simp);have n2:=hm.n m.owner (by simp);have n3:=hm.n m.status (by simp);have c1:=ok.w q.cap (by simp [Yw]);have c2:=ok.w q.scoreCap (by simp [Yw]);have c3:=ok.n q.streak (by simp [Yk])
 constructor
 ·intro z hz;simp only[UO,Zba,List.mem_cons,List.not_mem_nil,or_false]at hz;rcases hz with rfl|rfl|rfl<;>omega
 ·intro z hz;simp only[UO,Zba,List.mem_cons,List.not_mem_nil,or_false]at hz;rcases hz with rfl|rfl|rfl<;>omega
theorem Zuf (q:Ze)(x:List Zc×List Int)(k:Nat):(Jl q x k).1.length=x.1.length∧(Jl q x k).2.length=x.2.length:=by
 simp [Jl]
theorem UZ (q:Ze)(x:List Zc×List Int):∀k,(clN q x k).1.length=x.1.length∧(clN q x k).2.length=x.2.length
 | 0=>⟨rfl,rfl⟩
 | k+1=>by
  have h1:=UZ q x k;have h2:=Zuf q (clN q x k) k;exact⟨h2.1.trans h1.1,h2.2.trans h1.2⟩
theorem Ybj {q:Ze}(ok:Zj q){x:List Zc×List Int}(hx:ZK x.1 x.2){k:Nat}(hk:k<x.1.length):ZK (Jl q x k).1 (Jl q x k).2:=by
 obtain⟨m,hm⟩:∃m,m=gr ZS x.1 k:=⟨_,rfl⟩
 have hmem:m∈x.1:=hm ▸ YM hk;have ho:=hx.o m hmem;have ub:=(hx.m m hmem).u m.bal (by simp);have hc:=ok.w q.cap (by simp [Yw]);have hb:at0 (x.1.map Zc.bal) k=m.bal:=hm ▸ VD hk;have hj:m.owner.toNat<x.2.length:=by omega
 rw[Jl,← hm];refine⟨fun y hy=>?_,fun y hy=>?_,fun i=>?_,?_⟩
 ·rcases List.mem_or_eq_of_mem_set hy with hy|rfl
  ·exact hx.m y hy
  ·exact Ydu ok (hx.m m hmem)
 ·simp only[List.length_set];rcases List.mem_or_eq_of_mem_set hy with hy|rfl
  ·exact hx.o y hy
  ·exact ho
 ·have h0:=hx.p i;have h1:=hx.p m.owner.toNat;simp only;rw[VF _ _ _ _ hj];split<;>omega
 ·have h0:=hx.t;simp only;rw[List.map_set,Gz hj,Gz (by simpa using hk),hb];have:(UO q m).bal=min m.bal q.cap:=rfl;rw[this];omega
theorem Zrp {q:Ze}(ok:Zj q){x:List Zc×List Int}(hx:ZK x.1 x.2):∀k,k≤x.1.length→ZK (clN q x k).1 (clN q x k).2
 | 0,_=>hx
 | k+1,hk=>Ybj ok (Zrp ok hx k (by omega)) (by rw[(UZ q x k).1];omega)
theorem Zvo {q:Ze}(ok:Zj q){x:List Zc×List Int}(hx:ZK x.1 x.2){k:Nat}(hk:k<x.1.length):tot (Jl q x k).2+tot ((Jl q x k).1.map Zc.bal)=tot x.2+tot (x.1.map Zc.bal):=by
 obtain⟨m,hm⟩:∃m,m=gr ZS x.1 k:=⟨_,rfl⟩
 have hmem:m∈x.1:=hm ▸ YM hk;have ho:=hx.o m hmem;have hb:at0 (x.1.map Zc.bal) k=m.bal:=hm ▸ VD hk;have hj:m.owner.toNat<x.2.length:=by omega
 rw[Jl,← hm];simp only;rw[List.map_set,Gz hj,Gz (by simpa using hk),hb];have:(UO q m).bal=min m.bal q.cap:=rfl;rw[this];omega
theorem Zzi {q:Ze}(ok:Zj q){x:List Zc×List Int}(hx:ZK x.1 x.2):∀k,k≤x.1.length→tot (clN q x k).2+tot ((clN q x k).1.map Zc.bal)=tot x.2+tot (x.1.map Zc.bal)
 | 0,_=>rfl
 | k+1,hk=>(Zvo ok (Zrp ok hx k (by omega)) (by rw[(UZ q x k).1];omega)).trans (Zzi ok hx k (by omega))
theorem Yne {q:Ze}(ok:Zj q){x:List Zc×List Int}(hx:ZK x.1 x.2){k:Nat}(hk:k<x.1.length):at0 x.2 (gr ZS x.1 k).owner.toNat+((gr ZS x.1 k).bal-min (gr ZS x.1 k).bal q.cap)≤4611686018427387904:=by
 have h1:=YC hx.p (gr ZS x.1 k).owner.toNat;have h2:=YC (VC hx.m) k;rw[VD hk]at h2;have h3:=hx.t;have ub:=(hx.m _ (YM (z:=ZS) hk)).u (gr ZS x.1 k).bal (by simp);have hc:=ok.w q.cap (by simp [Yw]);omega
abbrev Zbv (m:Zc):Prop:=m.status=2∨m.status=3
def upN (f:Zc→Zc)(l:List Zc):Nat→List Zc
 | 0=>l
 | k+1=>(upN f l k).set k (f (gr ZS l k))
theorem Vd (f:Zc→Zc)(l:List Zc):∀k,(upN f l k).length=l.length
 | 0=>rfl
 | k+1=>by rw[upN,List.length_set];exact Vd f l k
theorem Zel (f:Zc→Zc)(l:List Zc):∀k,k≤l.length→∀j,gr ZS (upN f l k) j=if j<k then f (gr ZS l j) else gr ZS l j
 | 0,_,j=>by simp [upN]
 | k+1,hk,j=>by
  have ih:=Zel f l k (by omega) j;have hl:=Vd f l k;have hl1:=Vd f l (k+1);by_cases e:j=k
  ·subst e;rw[Yl (by omega),if_pos (by omega)];simp only[upN,List.getElem_set_self]
  ·by_cases hj:j<l.length
   ·rw[Yl (by omega)]at ih ⊢;simp only[upN];rw[List.getElem_set_ne (Ne.symm e),ih];by_cases c:j<k
    ·rw[if_pos c,if_pos (by omega)]
    ·rw[if_neg c,if_neg (by omega)]
   ·have h1:gr ZS (upN f l (k+1)) j=gr ZS l j:=by
     unfold gr;rw[List.getD_eq_getElem?_getD,List.getD_eq_getElem?_getD,List.getElem?_eq_none (by omega),List.getElem?_eq_none (by omega)]
    rw[h1,if_neg (by omega)]
theorem Zbg (f:Zc→Zc)(l:List Zc){k:Nat}(hk:k<l.length):gr ZS (upN f l k) k=gr ZS l k:=by
 rw[Zel f l k (by omega),if_neg (by omega)]
theorem Zrr (f:Zc→Zc)(l:List Zc){k:Nat}(hk:k<l.length)(hf:f (gr ZS l k)=gr ZS l k):upN f l (k+1)=upN f l k:=by
 have hl:=Vd f l k;have h1:=Zbg f l hk;rw[Yl (by omega)]at h1;rw[upN,hf,← h1,List.set_getElem_self]
theorem Zhc (f:Zc→Zc)(l:List Zc):upN f l l.length=l.map f:=by
 refine List.ext_getElem (by rw[Vd,List.length_map]) fun j h1 h2=>?_;have hj:j<l.length:=by rwa [Vd]at h1
 rw[← Yl (z:=ZS) h1,Zel f l _ (Nat.le_refl _),if_pos hj,Yl hj,List.getElem_map]
theorem Zmj {f:Zc→Zc}{l:List Zc}(P:Zc→Prop)(hf:∀x,P x→P (f x))(hl:∀x∈l,P x):∀k,k≤l.length→∀x∈upN f l k,P x
 | 0,_=>hl
 | k+1,hk=>fun x hx=>by
  rw[upN]at hx;rcases List.mem_or_eq_of_mem_set hx with hx|rfl
  ·exact Zmj P hf hl k (by omega) x hx
  ·exact hf _ (hl _ (YM (by omega)))
theorem Ycf (q:Ze)(x:List Zc×List Int):∀k,k≤x.1.length→(clN q x k).1=upN (UO q) x.1 k
 | 0,_=>rfl
 | k+1,hk=>by
  have ih:=Ycf q x k (by omega);show (clN q x k).1.set k (UO q (gr ZS (clN q x k).1 k))=_;rw[ih,Zbg _ _ (by omega)];rfl
def Zaa (q:Ze)(m:Zc):Zc:=if Zbv m then WR q m else m
abbrev ejP (q:Ze)(m:Zc):Prop:=Zbv m∧m.bal≤q.floor
def Zwf (m:Zc):Zc:=⟨0,0,m.score,0,m.owner,4⟩
def ejF (q:Ze)(m:Zc):Zc:=if ejP q m then Zwf m else m
theorem Ydw {m:Zc}(hm:Zg m):Zg (Zwf m):=by
 have u3:=hm.u m.score (by simp);have n2:=hm.n m.owner (by simp)
 constructor
 ·intro z hz;simp only[Zwf,List.mem_cons,List.not_mem_nil,or_false]at hz;rcases hz with rfl|rfl|rfl<;>omega
 ·intro z hz;simp only[Zwf,List.mem_cons,List.not_mem_nil,or_false]at hz;rcases hz with rfl|rfl|rfl<;>omega
theorem Zul {q:Ze}(ok:Zj q)(hr:Ym q=true){m:Zc}(hm:Zg m):Zg (WR q m):=by
 have u1:=hm.u m.bal (by simp);have u2:=hm.u m.eff (by simp);have u3:=hm.u m.score (by simp);have n1:=hm.n m.streak (by simp);have n2:=hm.n m.owner (by simp);have n3:=hm.n m.status (by simp);have hw:=GK (Gn hr) ok u1;have ue:0≤(WR q m).eff∧(WR q m).eff≤18446744073709551615:=by
  unfold WR;simp only;split
  ·unfold Zeq;split
   ·exact hw
   ·exact u2
  ·exact hw
 constructor
 ·intro z hz;simp only[List.mem_cons,List.not_mem_nil,or_false]at hz;rcases hz with rfl|rfl|rfl
  ·exact u1
  ·exact ue
  ·exact u3
 ·intro z hz;simp only[WR,List.mem_cons,List.not_mem_nil,or_false]at hz;rcases hz with rfl|rfl|rfl<;>omega
theorem Zpe {q:Ze}(ok:Zj q)(hr:Ym q=true){m:Zc}(hm:Zg m):Zg (Zaa q m):=by
 unfold Zaa;split
 ·exact Zul ok hr hm
 ·exact hm
theorem Yas {q:Ze}{m:Zc}(hm:Zg m):Zg (ejF q m):=by
 unfold ejF;split
 ·exact Ydw hm
 ·exact hm
theorem Zri (zs:List Int):∀k,k≤zs.length→YP zs k=(zs.take k).sum
 | 0,_=>by simp [YP]
 | k+1,hk=>by
  rw[YP,Zri zs k (by omega),List.take_succ_eq_append_getElem hk,List.sum_append,Yx hk];simp
theorem Zhe (zs:List Int):tot zs=zs.sum:=by
 rw[tot,Zri zs _ (Nat.le_refl _),List.take_length]
def Zfk (d x:Zi):Bool:=decide (x.acct=d.acct)&&decide (x.at'=d.at')
def W6 (l:List Zi)(t:Int):Nat→Nat
 | 0=>0
 | k+1=>if (gr Z5 l k).at'≤t then k+1 else W6 l t k
theorem Zdu (l:List Zi)(t:Int):∀k,W6 l t k≤k
 | 0=>Nat.le_refl _
 | k+1=>by
  have:=Zdu l t k;rw[W6];split<;>omega
def Zmq (l:List Zi)(d:Zi):Nat:=l.findIdx (Zfk d)
def Yml (x d:Zi):Zi:=⟨x.acct,x.at',x.amt+d.amt⟩
def Zwc (l:List Zi)(d:Zi):List Zi:=l.take (W6 l d.at' l.length)++d::l.drop (W6 l d.at' l.length)
def GH (l:List Zi)(d:Zi):List Zi :=
 if d.amt=0 then l else if Zmq l d<l.length then l.set (Zmq l d) (Yml (gr Z5 l (Zmq l d)) d) else Zwc l d
def WP (l:List Zi):Int:=tot (l.map Zi.amt)
theorem Zsp (l:List Zi):WP l=(l.map Zi.amt).sum:=Zhe _
theorem Ygp (l:List Zi)(d:Zi):WP (Zwc l d)=WP l+d.amt:=by
 rw[Zsp,Zsp,Zwc]
 conv=>rhs;rw[← List.take_append_drop (W6 l d.at' l.length) l]
 rw[List.map_append,List.map_cons,List.map_append,List.sum_append,List.sum_append,List.sum_cons];omega
theorem Zoo {l:List Zi}{k:Nat}(hk:k<l.length):at0 (l.map Zi.amt) k=(gr Z5 l k).amt:=by
 rw[Yl hk,← Yx (by simpa using hk),List.getElem_map]
theorem Zch (l:List Zi)(d:Zi):WP (GH l d)=WP l+d.amt:=by
 unfold GH;split
 ·omega
 ·split
  ·rename_i h1;rw[WP,List.map_set,Gz (by simpa using h1),Zoo h1];simp only[Yml,WP];omega
  ·exact Ygp l d
theorem Zpx (l:List Zi)(d:Zi):(GH l d).length≤l.length+1:=by
 unfold GH;split
 ·omega
 ·split
  ·simp
  ·have:=Zdu l d.at' l.length;simp only[Zwc,List.length_append,List.length_cons,List.length_take,List.length_drop];omega
theorem Zhp {l:List Zi}{d x:Zi}(hx:x∈GH l d):x∈l∨x=d∨(Zmq l d<l.length∧x=Yml (gr Z5 l (Zmq l d)) d):=by
 unfold GH at hx;split at hx
 ·exact .inl hx
 ·split at hx
  ·rename_i h1;rcases List.mem_or_eq_of_mem_set hx with hx|hx
   ·exact .inl hx
   ·exact .inr (.inr ⟨h1,hx⟩)
  ·simp only[Zwc,List.mem_append,List.mem_cons]at hx;rcases hx with hx|rfl|hx
   ·exact .inl (List.mem_of_mem_take hx)
   ·exact .inr (.inl rfl)
   ·exact .inl (List.mem_of_mem_drop hx)
structure Wkf (l:List Zi)(n:Nat)(M:Int):Prop where
 d:∀x∈l,Zv x
 t:WP l≤M
 n:l.length≤n
theorem Zhy {l:List Zi}(hl:∀x∈l,Zv x)(i:Nat):0≤at0 (l.map Zi.amt) i:=Vw Zi.amt l (fun x hx=>(hl x hx).a.1) i
theorem Ydy {l:List Zi}(hl:∀x∈l,Zv x){k:Nat}(hk:k<l.length):(gr Z5 l k).amt≤WP l:=by
 rw[← Zoo hk];exact YC (Zhy hl) k
theorem Zak {l:List Zi}{k:Nat}(hk:k<l.length):gr Z5 l k∈l:=YM hk
theorem Zoz {l:List Zi}{d:Zi}{n:Nat}{M:Int}(hl:Wkf l n M)(hd:Zv d)(hM:M+d.amt≤4611686018427387904):Wkf (GH l d) (n+1) (M+d.amt):=by
 refine⟨fun x hx=>?_,?_,?_⟩
 ·rcases Zhp hx with hx|rfl | ⟨h1,rfl⟩
  ·exact hl.d x hx
  ·exact hd
  ·have h2:=hl.d _ (Zak h1);have h3:=Ydy hl.d h1;have h4:=hl.t;have h5:=hd.a;refine⟨?_,h2.n⟩;have:=h2.a;show 0≤(gr Z5 l (Zmq l d)).amt+d.amt∧(gr Z5 l (Zmq l d)).amt+d.amt≤18446744073709551615;omega
 ·rw[Zch];have:=hl.t;omega
 ·have:=Zpx l d;have:=hl.n;omega
def Gc (t:Int)(m:Zc):Zi:=⟨m.owner,t,m.bal⟩
def duN (q:Ze)(cs:List Zc)(t:Int)(ds:List Zi):Nat→List Zi
 | 0=>ds
 | k+1=>if ejP q (gr ZS cs k) then GH (duN q cs t ds k) (Gc t (gr ZS cs k)) else duN q cs t ds k
def Yyx (l:List Int)(k:Nat):List Int:=l.filter fun x=>decide (x≠(k:Int))
def exN (q:Ze)(cs:List Zc)(xs:List Int):Nat→List Int
 | 0=>xs
 | k+1=>if ejP q (gr ZS cs k) then Yyx (exN q cs xs k) k else exN q cs xs k
def ouN (q:Ze)(cs:List Zc):Nat→List Int
 | 0=>[]
 | k+1=>if ejP q (gr ZS cs k) then ouN q cs k++[(k:Int)] else ouN q cs k
theorem Zxw (l:List Int)(k:Nat):(Yyx l k).length≤l.length:=List.length_filter_le _ _
theorem Ziq (q:Ze)(cs:List Zc)(xs:List Int):∀k,(exN q cs xs k).length≤xs.length
 | 0=>Nat.le_refl _
 | k+1=>by
  have h1:=Ziq q cs xs k;have h2:=Zxw (exN q cs xs k) k;rw[exN];split<;>omega
theorem Zhs (q:Ze)(cs:List Zc):∀k,(ouN q cs k).length≤k
 | 0=>Nat.le_refl _
 | k+1=>by
  have h1:=Zhs q cs k;rw[ouN];split
  ·rw[List.length_append];simp;omega
  ·omega
def flt (l:List Int)(k:Int):List Int:=l.filter fun x=>decide (x≠k)
theorem Zra {xs:List Int}{k:Int}{j:Nat}(hj:j<xs.length):flt (xs.take (j+1)) k=flt (xs.take j) k++(if at0 xs j≠k then [at0 xs j] else []):=by
 rw[List.take_succ_eq_append_getElem hj,flt,List.filter_append,← Yx hj,flt];by_cases c:xs[j]=k
 ·simp [c]
 ·simp [c]
theorem Zpw {xs:List Int}{k:Int}(h:∀j,j<xs.length→at0 xs j≠k):flt xs k=xs:=by
 rw[flt,List.filter_eq_self];intro x hx;obtain⟨j,hj,rfl⟩:=List.mem_iff_getElem.1 hx;have:=h j hj;rw[← Yx hj]at this
 simpa using this
theorem Yak {xs:List Int}{k:Int}:∀ {i:Nat},i≤xs.length→(∀j,j<i→at0 xs j≠k)→flt (xs.take i) k=xs.take i
 | i,hi,h=>Zpw fun j hj=>by
  have hj2:j<i:=by simp only[List.length_take]at hj;omega
  rw[Zhg,if_pos hj2];exact h j hj2
theorem Yau (xs:List Int)(k:Int):(flt xs k).length≤xs.length:=List.length_filter_le _ _
theorem Zim {cs:List Int}{i:Nat}{v:Int}(hi:i<cs.length):(cs.set i v).take (i+1)=cs.take i++[v]:=by
 rw[List.take_succ_eq_append_getElem (by simpa using hi),List.getElem_set_self,List.take_set_of_le (Nat.le_refl i)]
theorem Yph {l:List Zi}{d:Zi}{i:Nat}(hi:i<l.length)(h1:Zfk d (gr Z5 l i)=true)(h2:∀j,j<i→Zfk d (gr Z5 l j)=false):Zmq l d=i:=by
 rw[Zmq,List.findIdx_eq hi];refine⟨by rw[← Yl (z:=Z5) hi];exact h1,fun j hj=>?_⟩;rw[← Yl (z:=Z5) (by omega)];exact h2 j hj
theorem Yqh {l:List Zi}{d:Zi}(h2:∀j,j<l.length→Zfk d (gr Z5 l j)=false):¬Zmq l d<l.length:=by
 have:Zmq l d=l.length:=by
  rw[Zmq,List.findIdx_eq_length];intro x hx;obtain⟨j,hj,rfl⟩:=List.mem_iff_getElem.1 hx;rw[← Yl (z:=Z5) hj];exact h2 j hj
 omega
def Zus (l:List Zi)(i:Nat)(d:Zi):List Zi:=l.take i++d::l.drop i
end Go.X

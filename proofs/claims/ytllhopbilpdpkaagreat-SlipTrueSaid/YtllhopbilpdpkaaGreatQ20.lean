/- Lemmas and contracts. Conditions: as each says. -/
import Derived.Test.YtllhopbilpdpkaaGreatQ17
set_option linter.unusedVariables false
set_option linter.unusedSimpArgs false
set_option maxHeartbeats 12800000
set_option maxRecDepth 20000
namespace Go.X
open Go.RowKit Go.Proofs Go.Bl
variable {L:Own} {h:PH} {K:PK}
structure ZF (ms:List Zb)(ps:List Int):Prop where
 m:∀x∈ms,Zf x
 o:∀x∈ms,0≤x.owner∧x.owner<ps.length
 p:∀i,0≤at0 ps i
 t:tot ps+tot (ms.map Zb.bal)≤4611686018427387904
theorem Yq {α:Type}{z:α}{l:List α}{k:Nat}(hk:k<l.length):gr z l k∈l:=by
 rw[Z8 hk];exact List.getElem_mem hk
theorem WV {ms:List Zb}{k:Nat}(hk:k<ms.length):at0 (ms.map Zb.bal) k=(gr ZQ ms k).bal:=by
 rw[Z8 hk,← Yf (by simpa using hk),List.getElem_map]
theorem WD {ms:List Zb}(hm:∀x∈ms,Zf x)(i:Nat):0≤at0 (ms.map Zb.bal) i :=
 V2 Zb.bal ms (fun x hx=>((hm x hx).u x.bal (by simp)).1) i
def Um (q:Ze)(x:List Zb×List Int)(k:Nat):List Zb×List Int :=
 (x.1.set k (VT q (gr ZQ x.1 k)),x.2.set (gr ZQ x.1 k).owner.toNat (at0 x.2 (gr ZQ x.1 k).owner.toNat+((gr ZQ x.1 k).bal-min (gr ZQ x.1 k).bal q.cap)))
def clN (q:Ze)(x:List Zb×List Int):Nat→List Zb×List Int
 | 0=>x
 | k+1=>Um q (clN q x k) k
theorem Zsp {q:Ze}(ok:Zj q){m:Zb}(hm:Zf m):Zf (VT q m):=by
 have u1:=hm.u m.bal (by simp);have u2:=hm.u m.eff (by simp);have u3:=hm.u m.score (by simp);have n1:=hm.n m.streak (by simp);have n2:=hm.n m.owner (by simp);have n3:=hm.n m.status (by simp);have c1:=ok.w q.cap (by simp [YN]);have c2:=ok.w q.scoreCap (by simp [YN]);have c3:=ok.n q.streak (by simp [YS])
 constructor
 ·intro z hz;simp only[VT,Zdz,List.mem_cons,List.not_mem_nil,or_false]at hz;rcases hz with rfl|rfl|rfl<;>omega
 ·intro z hz;simp only[VT,Zdz,List.mem_cons,List.not_mem_nil,or_false]at hz;rcases hz with rfl|rfl|rfl<;>omega
theorem Zpl (q:Ze)(x:List Zb×List Int)(k:Nat):(Um q x k).1.length=x.1.length∧(Um q x k).2.length=x.2.length:=by
 simp [Um]
theorem V7 (q:Ze)(x:List Zb×List Int):∀k,(clN q x k).1.length=x.1.length∧(clN q x k).2.length=x.2.length
 | 0=>⟨rfl,rfl⟩
 | k+1=>by
  have h1:=V7 q x k;have h2:=Zpl q (clN q x k) k;exact⟨h2.1.trans h1.1,h2.2.trans h1.2⟩
theorem Zvj {q:Ze}(ok:Zj q){x:List Zb×List Int}(hx:ZF x.1 x.2){k:Nat}(hk:k<x.1.length):ZF (Um q x k).1 (Um q x k).2:=by
 obtain⟨m,hm⟩:∃m,m=gr ZQ x.1 k:=⟨_,rfl⟩
 have hmem:m∈x.1:=hm ▸ Yq hk;have ho:=hx.o m hmem;have ub:=(hx.m m hmem).u m.bal (by simp);have hc:=ok.w q.cap (by simp [YN]);have hb:at0 (x.1.map Zb.bal) k=m.bal:=hm ▸ WV hk;have hj:m.owner.toNat<x.2.length:=by omega
 rw[Um,← hm];refine⟨fun y hy=>?_,fun y hy=>?_,fun i=>?_,?_⟩
 ·rcases List.mem_or_eq_of_mem_set hy with hy|rfl
  ·exact hx.m y hy
  ·exact Zsp ok (hx.m m hmem)
 ·simp only[List.length_set];rcases List.mem_or_eq_of_mem_set hy with hy|rfl
  ·exact hx.o y hy
  ·exact ho
 ·have h0:=hx.p i;have h1:=hx.p m.owner.toNat;simp only;rw[VG _ _ _ _ hj];split<;>omega
 ·have h0:=hx.t;simp only;rw[List.map_set,Jp hj,Jp (by simpa using hk),hb];have:(VT q m).bal=min m.bal q.cap:=rfl;rw[this];omega
theorem Zkz {q:Ze}(ok:Zj q){x:List Zb×List Int}(hx:ZF x.1 x.2):∀k,k≤x.1.length→ZF (clN q x k).1 (clN q x k).2
 | 0,_=>hx
 | k+1,hk=>Zvj ok (Zkz ok hx k (by omega)) (by rw[(V7 q x k).1];omega)
theorem Zqc {q:Ze}(ok:Zj q){x:List Zb×List Int}(hx:ZF x.1 x.2){k:Nat}(hk:k<x.1.length):tot (Um q x k).2+tot ((Um q x k).1.map Zb.bal)=tot x.2+tot (x.1.map Zb.bal):=by
 obtain⟨m,hm⟩:∃m,m=gr ZQ x.1 k:=⟨_,rfl⟩
 have hmem:m∈x.1:=hm ▸ Yq hk;have ho:=hx.o m hmem;have hb:at0 (x.1.map Zb.bal) k=m.bal:=hm ▸ WV hk;have hj:m.owner.toNat<x.2.length:=by omega
 rw[Um,← hm];simp only;rw[List.map_set,Jp hj,Jp (by simpa using hk),hb];have:(VT q m).bal=min m.bal q.cap:=rfl;rw[this];omega
theorem Zvd {q:Ze}(ok:Zj q){x:List Zb×List Int}(hx:ZF x.1 x.2):∀k,k≤x.1.length→tot (clN q x k).2+tot ((clN q x k).1.map Zb.bal)=tot x.2+tot (x.1.map Zb.bal)
 | 0,_=>rfl
 | k+1,hk=>(Zqc ok (Zkz ok hx k (by omega)) (by rw[(V7 q x k).1];omega)).trans (Zvd ok hx k (by omega))
theorem Yfl {q:Ze}(ok:Zj q){x:List Zb×List Int}(hx:ZF x.1 x.2){k:Nat}(hk:k<x.1.length):at0 x.2 (gr ZQ x.1 k).owner.toNat+((gr ZQ x.1 k).bal-min (gr ZQ x.1 k).bal q.cap)≤4611686018427387904:=by
 have h1:=Yl hx.p (gr ZQ x.1 k).owner.toNat;have h2:=Yl (WD hx.m) k;rw[WV hk]at h2;have h3:=hx.t;have ub:=(hx.m _ (Yq (z:=ZQ) hk)).u (gr ZQ x.1 k).bal (by simp);have hc:=ok.w q.cap (by simp [YN]);omega
abbrev Uu (m:Zb):Prop:=m.status=2∨m.status=3
def upN (f:Zb→Zb)(l:List Zb):Nat→List Zb
 | 0=>l
 | k+1=>(upN f l k).set k (f (gr ZQ l k))
theorem WJ (f:Zb→Zb)(l:List Zb):∀k,(upN f l k).length=l.length
 | 0=>rfl
 | k+1=>by rw[upN,List.length_set];exact WJ f l k
theorem GM (f:Zb→Zb)(l:List Zb):∀k,k≤l.length→∀j,gr ZQ (upN f l k) j=if j<k then f (gr ZQ l j) else gr ZQ l j
 | 0,_,j=>by simp [upN]
 | k+1,hk,j=>by
  have ih:=GM f l k (by omega) j;have hl:=WJ f l k;have hl1:=WJ f l (k+1);by_cases e:j=k
  ·subst e;rw[Z8 (by omega),if_pos (by omega)];simp only[upN,List.getElem_set_self]
  ·by_cases hj:j<l.length
   ·rw[Z8 (by omega)]at ih ⊢;simp only[upN];rw[List.getElem_set_ne (Ne.symm e),ih];by_cases c:j<k
    ·rw[if_pos c,if_pos (by omega)]
    ·rw[if_neg c,if_neg (by omega)]
   ·have h1:gr ZQ (upN f l (k+1)) j=gr ZQ l j:=by
     unfold gr;rw[List.getD_eq_getElem?_getD,List.getD_eq_getElem?_getD,List.getElem?_eq_none (by omega),List.getElem?_eq_none (by omega)]
    rw[h1,if_neg (by omega)]
theorem Gj (f:Zb→Zb)(l:List Zb){k:Nat}(hk:k<l.length):gr ZQ (upN f l k) k=gr ZQ l k:=by
 rw[GM f l k (by omega),if_neg (by omega)]
theorem Zlk (f:Zb→Zb)(l:List Zb){k:Nat}(hk:k<l.length)(hf:f (gr ZQ l k)=gr ZQ l k):upN f l (k+1)=upN f l k:=by
 have hl:=WJ f l k;have h1:=Gj f l hk;rw[Z8 (by omega)]at h1;rw[upN,hf,← h1,List.set_getElem_self]
theorem Zwq (f:Zb→Zb)(l:List Zb):upN f l l.length=l.map f:=by
 refine List.ext_getElem (by rw[WJ,List.length_map]) fun j h1 h2=>?_;have hj:j<l.length:=by rwa [WJ]at h1
 rw[← Z8 (z:=ZQ) h1,GM f l _ (Nat.le_refl _),if_pos hj,Z8 hj,List.getElem_map]
theorem Zhs {f:Zb→Zb}{l:List Zb}(P:Zb→Prop)(hf:∀x,P x→P (f x))(hl:∀x∈l,P x):∀k,k≤l.length→∀x∈upN f l k,P x
 | 0,_=>hl
 | k+1,hk=>fun x hx=>by
  rw[upN]at hx;rcases List.mem_or_eq_of_mem_set hx with hx|rfl
  ·exact Zhs P hf hl k (by omega) x hx
  ·exact hf _ (hl _ (Yq (by omega)))
theorem Zrl (q:Ze)(x:List Zb×List Int):∀k,k≤x.1.length→(clN q x k).1=upN (VT q) x.1 k
 | 0,_=>rfl
 | k+1,hk=>by
  have ih:=Zrl q x k (by omega);show (clN q x k).1.set k (VT q (gr ZQ (clN q x k).1 k))=_;rw[ih,Gj _ _ (by omega)];rfl
def Zex (q:Ze)(m:Zb):Zb:=if Uu m then WM q m else m
abbrev ejP (q:Ze)(m:Zb):Prop:=Uu m∧m.bal≤q.floor
def Zqu (m:Zb):Zb:=⟨0,0,m.score,0,m.owner,4⟩
def ejF (q:Ze)(m:Zb):Zb:=if ejP q m then Zqu m else m
theorem Zue {m:Zb}(hm:Zf m):Zf (Zqu m):=by
 have u3:=hm.u m.score (by simp);have n2:=hm.n m.owner (by simp)
 constructor
 ·intro z hz;simp only[Zqu,List.mem_cons,List.not_mem_nil,or_false]at hz;rcases hz with rfl|rfl|rfl<;>omega
 ·intro z hz;simp only[Zqu,List.mem_cons,List.not_mem_nil,or_false]at hz;rcases hz with rfl|rfl|rfl<;>omega
theorem Zoo {q:Ze}(ok:Zj q)(hr:YM q=true){m:Zb}(hm:Zf m):Zf (WM q m):=by
 have u1:=hm.u m.bal (by simp);have u2:=hm.u m.eff (by simp);have u3:=hm.u m.score (by simp);have n1:=hm.n m.streak (by simp);have n2:=hm.n m.owner (by simp);have n3:=hm.n m.status (by simp);have hw:=Zap (J6 hr) ok u1;have ue:0≤(WM q m).eff∧(WM q m).eff≤18446744073709551615:=by
  unfold WM;simp only;split
  ·unfold Zab;split
   ·exact hw
   ·exact u2
  ·exact hw
 constructor
 ·intro z hz;simp only[List.mem_cons,List.not_mem_nil,or_false]at hz;rcases hz with rfl|rfl|rfl
  ·exact u1
  ·exact ue
  ·exact u3
 ·intro z hz;simp only[WM,List.mem_cons,List.not_mem_nil,or_false]at hz;rcases hz with rfl|rfl|rfl<;>omega
theorem Zkl {q:Ze}(ok:Zj q)(hr:YM q=true){m:Zb}(hm:Zf m):Zf (Zex q m):=by
 unfold Zex;split
 ·exact Zoo ok hr hm
 ·exact hm
theorem Zul {q:Ze}{m:Zb}(hm:Zf m):Zf (ejF q m):=by
 unfold ejF;split
 ·exact Zue hm
 ·exact hm
theorem Zmv (zs:List Int):∀k,k≤zs.length→Yy zs k=(zs.take k).sum
 | 0,_=>by simp [Yy]
 | k+1,hk=>by
  rw[Yy,Zmv zs k (by omega),List.take_succ_eq_append_getElem hk,List.sum_append,Yf hk];simp
theorem Zdh (zs:List Int):tot zs=zs.sum:=by
 rw[tot,Zmv zs _ (Nat.le_refl _),List.take_length]
def Zbr (d x:Zg):Bool:=decide (x.acct=d.acct)&&decide (x.at'=d.at')
def WA (l:List Zg)(t:Int):Nat→Nat
 | 0=>0
 | k+1=>if (gr ZZ l k).at'≤t then k+1 else WA l t k
theorem GW (l:List Zg)(t:Int):∀k,WA l t k≤k
 | 0=>Nat.le_refl _
 | k+1=>by
  have:=GW l t k;rw[WA];split<;>omega
def Zhx (l:List Zg)(d:Zg):Nat:=l.findIdx (Zbr d)
def Yet (x d:Zg):Zg:=⟨x.acct,x.at',x.amt+d.amt⟩
def Zqx (l:List Zg)(d:Zg):List Zg:=l.take (WA l d.at' l.length)++d::l.drop (WA l d.at' l.length)
def Jv (l:List Zg)(d:Zg):List Zg :=
 if d.amt=0 then l else if Zhx l d<l.length then l.set (Zhx l d) (Yet (gr ZZ l (Zhx l d)) d) else Zqx l d
def Wp (l:List Zg):Int:=tot (l.map Zg.amt)
theorem Zmk (l:List Zg):Wp l=(l.map Zg.amt).sum:=Zdh _
theorem Ybq (l:List Zg)(d:Zg):Wp (Zqx l d)=Wp l+d.amt:=by
 rw[Zmk,Zmk,Zqx]
 conv=>rhs;rw[← List.take_append_drop (WA l d.at' l.length) l]
 rw[List.map_append,List.map_cons,List.map_append,List.sum_append,List.sum_append,List.sum_cons];omega
theorem Zip {l:List Zg}{k:Nat}(hk:k<l.length):at0 (l.map Zg.amt) k=(gr ZZ l k).amt:=by
 rw[Z8 hk,← Yf (by simpa using hk),List.getElem_map]
theorem GE (l:List Zg)(d:Zg):Wp (Jv l d)=Wp l+d.amt:=by
 unfold Jv;split
 ·omega
 ·split
  ·rename_i h1;rw[Wp,List.map_set,Jp (by simpa using h1),Zip h1];simp only[Yet,Wp];omega
  ·exact Ybq l d
theorem Zla (l:List Zg)(d:Zg):(Jv l d).length≤l.length+1:=by
 unfold Jv;split
 ·omega
 ·split
  ·simp
  ·have:=GW l d.at' l.length;simp only[Zqx,List.length_append,List.length_cons,List.length_take,List.length_drop];omega
theorem Zdw {l:List Zg}{d x:Zg}(hx:x∈Jv l d):x∈l∨x=d∨(Zhx l d<l.length∧x=Yet (gr ZZ l (Zhx l d)) d):=by
 unfold Jv at hx;split at hx
 ·exact .inl hx
 ·split at hx
  ·rename_i h1;rcases List.mem_or_eq_of_mem_set hx with hx|hx
   ·exact .inl hx
   ·exact .inr (.inr ⟨h1,hx⟩)
  ·simp only[Zqx,List.mem_append,List.mem_cons]at hx;rcases hx with hx|rfl|hx
   ·exact .inl (List.mem_of_mem_take hx)
   ·exact .inr (.inl rfl)
   ·exact .inl (List.mem_of_mem_drop hx)
structure Yzc (l:List Zg)(n:Nat)(M:Int):Prop where
 d:∀x∈l,Zs x
 t:Wp l≤M
 n:l.length≤n
theorem Zep {l:List Zg}(hl:∀x∈l,Zs x)(i:Nat):0≤at0 (l.map Zg.amt) i:=V2 Zg.amt l (fun x hx=>(hl x hx).a.1) i
theorem Yei {l:List Zg}(hl:∀x∈l,Zs x){k:Nat}(hk:k<l.length):(gr ZZ l k).amt≤Wp l:=by
 rw[← Zip hk];exact Yl (Zep hl) k
theorem Zea {l:List Zg}{k:Nat}(hk:k<l.length):gr ZZ l k∈l:=Yq hk
theorem Zkg {l:List Zg}{d:Zg}{n:Nat}{M:Int}(hl:Yzc l n M)(hd:Zs d)(hM:M+d.amt≤4611686018427387904):Yzc (Jv l d) (n+1) (M+d.amt):=by
 refine⟨fun x hx=>?_,?_,?_⟩
 ·rcases Zdw hx with hx|rfl | ⟨h1,rfl⟩
  ·exact hl.d x hx
  ·exact hd
  ·have h2:=hl.d _ (Zea h1);have h3:=Yei hl.d h1;have h4:=hl.t;have h5:=hd.a;refine⟨?_,h2.n⟩;have:=h2.a;show 0≤(gr ZZ l (Zhx l d)).amt+d.amt∧(gr ZZ l (Zhx l d)).amt+d.amt≤18446744073709551615;omega
 ·rw[GE];have:=hl.t;omega
 ·have:=Zla l d;have:=hl.n;omega
def U8 (t:Int)(m:Zb):Zg:=⟨m.owner,t,m.bal⟩
def duN (q:Ze)(cs:List Zb)(t:Int)(ds:List Zg):Nat→List Zg
 | 0=>ds
 | k+1=>if ejP q (gr ZQ cs k) then Jv (duN q cs t ds k) (U8 t (gr ZQ cs k)) else duN q cs t ds k
def Yif (l:List Int)(k:Nat):List Int:=l.filter fun x=>decide (x≠(k:Int))
def exN (q:Ze)(cs:List Zb)(xs:List Int):Nat→List Int
 | 0=>xs
 | k+1=>if ejP q (gr ZQ cs k) then Yif (exN q cs xs k) k else exN q cs xs k
def ouN (q:Ze)(cs:List Zb):Nat→List Int
 | 0=>[]
 | k+1=>if ejP q (gr ZQ cs k) then ouN q cs k++[(k:Int)] else ouN q cs k
theorem Zvu (l:List Int)(k:Nat):(Yif l k).length≤l.length:=List.length_filter_le _ _
theorem Zdl (q:Ze)(cs:List Zb)(xs:List Int):∀k,(exN q cs xs k).length≤xs.length
 | 0=>Nat.le_refl _
 | k+1=>by
  have h1:=Zdl q cs xs k;have h2:=Zvu (exN q cs xs k) k;rw[exN];split<;>omega
theorem Zek (q:Ze)(cs:List Zb):∀k,(ouN q cs k).length≤k
 | 0=>Nat.le_refl _
 | k+1=>by
  have h1:=Zek q cs k;rw[ouN];split
  ·rw[List.length_append];simp;omega
  ·omega
theorem Zeq {q:Ze}{cs:List Zb}{xs:List Int}:∀ {k:Nat} {x:Int},x∈exN q cs xs k→x∈xs
 | 0,_,hx=>hx
 | k+1,x,hx=>by
  rw[exN]at hx;split at hx
  ·exact Zeq (List.mem_filter.1 hx).1
  ·exact Zeq hx
def flt (l:List Int)(k:Int):List Int:=l.filter fun x=>decide (x≠k)
theorem Zls {xs:List Int}{k:Int}{j:Nat}(hj:j<xs.length):flt (xs.take (j+1)) k=flt (xs.take j) k++(if at0 xs j≠k then [at0 xs j] else []):=by
 rw[List.take_succ_eq_append_getElem hj,flt,List.filter_append,← Yf hj,flt];by_cases c:xs[j]=k
 ·simp [c]
 ·simp [c]
theorem Zdv {xs:List Int}{k:Int}(h:∀j,j<xs.length→at0 xs j≠k):flt xs k=xs:=by
 rw[flt,List.filter_eq_self];intro x hx;obtain⟨j,hj,rfl⟩:=List.mem_iff_getElem.1 hx;have:=h j hj;rw[← Yf hj]at this
 simpa using this
theorem Zxt {xs:List Int}{k:Int}:∀ {i:Nat},i≤xs.length→(∀j,j<i→at0 xs j≠k)→flt (xs.take i) k=xs.take i
 | i,hi,h=>Zdv fun j hj=>by
  have hj2:j<i:=by simp only[List.length_take]at hj;omega
  rw[Zzz,if_pos hj2];exact h j hj2
theorem Zyb (xs:List Int)(k:Int):(flt xs k).length≤xs.length:=List.length_filter_le _ _
theorem Zdb {cs:List Int}{i:Nat}{v:Int}(hi:i<cs.length):(cs.set i v).take (i+1)=cs.take i++[v]:=by
 rw[List.take_succ_eq_append_getElem (by simpa using hi),List.getElem_set_self,List.take_set_of_le (Nat.le_refl i)]
theorem Yhp {l:List Zg}{d:Zg}{i:Nat}(hi:i<l.length)(h1:Zbr d (gr ZZ l i)=true)(h2:∀j,j<i→Zbr d (gr ZZ l j)=false):Zhx l d=i:=by
 rw[Zhx,List.findIdx_eq hi];refine⟨by rw[← Z8 (z:=ZZ) hi];exact h1,fun j hj=>?_⟩;rw[← Z8 (z:=ZZ) (by omega)];exact h2 j hj
theorem Yil {l:List Zg}{d:Zg}(h2:∀j,j<l.length→Zbr d (gr ZZ l j)=false):¬Zhx l d<l.length:=by
 have:Zhx l d=l.length:=by
  rw[Zhx,List.findIdx_eq_length];intro x hx;obtain⟨j,hj,rfl⟩:=List.mem_iff_getElem.1 hx;rw[← Z8 (z:=ZZ) hj];exact h2 j hj
 omega
def Zpr (l:List Zg)(i:Nat)(d:Zg):List Zg:=l.take i++d::l.drop i
def fI (zs:List Int)(x:Int):Int:=if Wy (fun k=>decide (at0 zs k=x)) zs.length 0=zs.length then -1 else (Wy (fun k=>decide (at0 zs k=x)) zs.length 0:Nat)
theorem Zta (zs:List Int)(x:Int):0≤fI zs x↔x∈zs:=by
 obtain⟨_,h2,h3,h4⟩:=W6 (fun k=>decide (at0 zs k=x)) zs.length 0;unfold fI
 constructor
 ·intro h;split at h
  ·omega
  ·rename_i c;have:=h4 (by omega);simp only[decide_eq_true_eq]at this;rw[← this,← Yf (by omega)];exact List.getElem_mem _
 ·intro h;obtain⟨j,hj,e⟩:=List.mem_iff_getElem.1 h;rw[if_neg]
  ·omega
  ·intro c;have:=h3 j (by omega) (by omega);rw[Yf hj]at e;simp [e]at this
end Go.X

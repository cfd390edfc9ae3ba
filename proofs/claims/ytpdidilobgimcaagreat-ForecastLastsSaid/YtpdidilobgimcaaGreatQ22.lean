/- Lemmas and contracts. Conditions: as each says. -/
import Derived.Test.YtpdidilobgimcaaGreatQ17
set_option linter.unusedVariables false
set_option linter.unusedSimpArgs false
set_option maxHeartbeats 12800000
set_option maxRecDepth 20000
namespace Go.X
open Go.RowKit Go.Proofs Go.Bl
variable {L:Own} {h:PH} {K:PK}
structure ZE (ms:List Zc)(ps:List Int):Prop where
 m:∀x∈ms,Ze x
 o:∀x∈ms,0≤x.owner∧x.owner<ps.length
 p:∀i,0≤at0 ps i
 t:tot ps+tot (ms.map Zc.bal)≤4611686018427387904
theorem Yr {α:Type}{z:α}{l:List α}{k:Nat}(hk:k<l.length):gr z l k∈l:=by
 rw[Yc hk];exact List.getElem_mem hk
theorem WX {ms:List Zc}{k:Nat}(hk:k<ms.length):at0 (ms.map Zc.bal) k=(gr ZT ms k).bal:=by
 rw[Yc hk,← Yh (by simpa using hk),List.getElem_map]
theorem WU {ms:List Zc}(hm:∀x∈ms,Ze x)(i:Nat):0≤at0 (ms.map Zc.bal) i :=
 V2 Zc.bal ms (fun x hx=>((hm x hx).u x.bal (by simp)).1) i
def Ug (q:Zd)(x:List Zc×List Int)(k:Nat):List Zc×List Int :=
 (x.1.set k (VO q (gr ZT x.1 k)),x.2.set (gr ZT x.1 k).owner.toNat (at0 x.2 (gr ZT x.1 k).owner.toNat+((gr ZT x.1 k).bal-min (gr ZT x.1 k).bal q.cap)))
def clN (q:Zd)(x:List Zc×List Int):Nat→List Zc×List Int
 | 0=>x
 | k+1=>Ug q (clN q x k) k
theorem Zui {q:Zd}(ok:Zh q){m:Zc}(hm:Ze m):Ze (VO q m):=by
 have u1:=hm.u m.bal (by simp);have u2:=hm.u m.eff (by simp);have u3:=hm.u m.score (by simp);have n1:=hm.n m.streak (by simp);have n2:=hm.n m.owner (by simp);have n3:=hm.n m.status (by simp);have c1:=ok.w q.cap (by simp [YA]);have c2:=ok.w q.scoreCap (by simp [YA]);have c3:=ok.n q.streak (by simp [Y9])
 constructor
 ·intro z hz;simp only[VO,Zbo,List.mem_cons,List.not_mem_nil,or_false]at hz;rcases hz with rfl|rfl|rfl<;>omega
 ·intro z hz;simp only[VO,Zbo,List.mem_cons,List.not_mem_nil,or_false]at hz;rcases hz with rfl|rfl|rfl<;>omega
theorem Zol (q:Zd)(x:List Zc×List Int)(k:Nat):(Ug q x k).1.length=x.1.length∧(Ug q x k).2.length=x.2.length:=by
 simp [Ug]
theorem V7 (q:Zd)(x:List Zc×List Int):∀k,(clN q x k).1.length=x.1.length∧(clN q x k).2.length=x.2.length
 | 0=>⟨rfl,rfl⟩
 | k+1=>by
  have h1:=V7 q x k;have h2:=Zol q (clN q x k) k;exact⟨h2.1.trans h1.1,h2.2.trans h1.2⟩
theorem Ztl {q:Zd}(ok:Zh q){x:List Zc×List Int}(hx:ZE x.1 x.2){k:Nat}(hk:k<x.1.length):ZE (Ug q x k).1 (Ug q x k).2:=by
 obtain⟨m,hm⟩:∃m,m=gr ZT x.1 k:=⟨_,rfl⟩
 have hmem:m∈x.1:=hm ▸ Yr hk;have ho:=hx.o m hmem;have ub:=(hx.m m hmem).u m.bal (by simp);have hc:=ok.w q.cap (by simp [YA]);have hb:at0 (x.1.map Zc.bal) k=m.bal:=hm ▸ WX hk;have hj:m.owner.toNat<x.2.length:=by omega
 rw[Ug,← hm];refine⟨fun y hy=>?_,fun y hy=>?_,fun i=>?_,?_⟩
 ·rcases List.mem_or_eq_of_mem_set hy with hy|rfl
  ·exact hx.m y hy
  ·exact Zui ok (hx.m m hmem)
 ·simp only[List.length_set];rcases List.mem_or_eq_of_mem_set hy with hy|rfl
  ·exact hx.o y hy
  ·exact ho
 ·have h0:=hx.p i;have h1:=hx.p m.owner.toNat;simp only;rw[Wy _ _ _ _ hj];split<;>omega
 ·have h0:=hx.t;simp only;rw[List.map_set,Jj hj,Jj (by simpa using hk),hb];have:(VO q m).bal=min m.bal q.cap:=rfl;rw[this];omega
theorem Zmd {q:Zd}(ok:Zh q){x:List Zc×List Int}(hx:ZE x.1 x.2):∀k,k≤x.1.length→ZE (clN q x k).1 (clN q x k).2
 | 0,_=>hx
 | k+1,hk=>Ztl ok (Zmd ok hx k (by omega)) (by rw[(V7 q x k).1];omega)
theorem Zov {q:Zd}(ok:Zh q){x:List Zc×List Int}(hx:ZE x.1 x.2){k:Nat}(hk:k<x.1.length):tot (Ug q x k).2+tot ((Ug q x k).1.map Zc.bal)=tot x.2+tot (x.1.map Zc.bal):=by
 obtain⟨m,hm⟩:∃m,m=gr ZT x.1 k:=⟨_,rfl⟩
 have hmem:m∈x.1:=hm ▸ Yr hk;have ho:=hx.o m hmem;have hb:at0 (x.1.map Zc.bal) k=m.bal:=hm ▸ WX hk;have hj:m.owner.toNat<x.2.length:=by omega
 rw[Ug,← hm];simp only;rw[List.map_set,Jj hj,Jj (by simpa using hk),hb];have:(VO q m).bal=min m.bal q.cap:=rfl;rw[this];omega
theorem Zwm {q:Zd}(ok:Zh q){x:List Zc×List Int}(hx:ZE x.1 x.2):∀k,k≤x.1.length→tot (clN q x k).2+tot ((clN q x k).1.map Zc.bal)=tot x.2+tot (x.1.map Zc.bal)
 | 0,_=>rfl
 | k+1,hk=>(Zov ok (Zmd ok hx k (by omega)) (by rw[(V7 q x k).1];omega)).trans (Zwm ok hx k (by omega))
theorem Yep {q:Zd}(ok:Zh q){x:List Zc×List Int}(hx:ZE x.1 x.2){k:Nat}(hk:k<x.1.length):at0 x.2 (gr ZT x.1 k).owner.toNat+((gr ZT x.1 k).bal-min (gr ZT x.1 k).bal q.cap)≤4611686018427387904:=by
 have h1:=Yk hx.p (gr ZT x.1 k).owner.toNat;have h2:=Yk (WU hx.m) k;rw[WX hk]at h2;have h3:=hx.t;have ub:=(hx.m _ (Yr (z:=ZT) hk)).u (gr ZT x.1 k).bal (by simp);have hc:=ok.w q.cap (by simp [YA]);omega
abbrev Gv (m:Zc):Prop:=m.status=2∨m.status=3
def upN (f:Zc→Zc)(l:List Zc):Nat→List Zc
 | 0=>l
 | k+1=>(upN f l k).set k (f (gr ZT l k))
theorem WF (f:Zc→Zc)(l:List Zc):∀k,(upN f l k).length=l.length
 | 0=>rfl
 | k+1=>by rw[upN,List.length_set];exact WF f l k
theorem Zad (f:Zc→Zc)(l:List Zc):∀k,k≤l.length→∀j,gr ZT (upN f l k) j=if j<k then f (gr ZT l j) else gr ZT l j
 | 0,_,j=>by simp [upN]
 | k+1,hk,j=>by
  have ih:=Zad f l k (by omega) j;have hl:=WF f l k;have hl1:=WF f l (k+1);by_cases e:j=k
  ·subst e;rw[Yc (by omega),if_pos (by omega)];simp only[upN,List.getElem_set_self]
  ·by_cases hj:j<l.length
   ·rw[Yc (by omega)]at ih ⊢;simp only[upN];rw[List.getElem_set_ne (Ne.symm e),ih];by_cases c:j<k
    ·rw[if_pos c,if_pos (by omega)]
    ·rw[if_neg c,if_neg (by omega)]
   ·have h1:gr ZT (upN f l (k+1)) j=gr ZT l j:=by
     unfold gr;rw[List.getD_eq_getElem?_getD,List.getD_eq_getElem?_getD,List.getElem?_eq_none (by omega),List.getElem?_eq_none (by omega)]
    rw[h1,if_neg (by omega)]
theorem Gf (f:Zc→Zc)(l:List Zc){k:Nat}(hk:k<l.length):gr ZT (upN f l k) k=gr ZT l k:=by
 rw[Zad f l k (by omega),if_neg (by omega)]
theorem Zmw (f:Zc→Zc)(l:List Zc){k:Nat}(hk:k<l.length)(hf:f (gr ZT l k)=gr ZT l k):upN f l (k+1)=upN f l k:=by
 have hl:=WF f l k;have h1:=Gf f l hk;rw[Yc (by omega)]at h1;rw[upN,hf,← h1,List.set_getElem_self]
theorem Zeh (f:Zc→Zc)(l:List Zc):upN f l l.length=l.map f:=by
 refine List.ext_getElem (by rw[WF,List.length_map]) fun j h1 h2=>?_;have hj:j<l.length:=by rwa [WF]at h1
 rw[← Yc (z:=ZT) h1,Zad f l _ (Nat.le_refl _),if_pos hj,Yc hj,List.getElem_map]
theorem Zfb {f:Zc→Zc}{l:List Zc}(P:Zc→Prop)(hf:∀x,P x→P (f x))(hl:∀x∈l,P x):∀k,k≤l.length→∀x∈upN f l k,P x
 | 0,_=>hl
 | k+1,hk=>fun x hx=>by
  rw[upN]at hx;rcases List.mem_or_eq_of_mem_set hx with hx|rfl
  ·exact Zfb P hf hl k (by omega) x hx
  ·exact hf _ (hl _ (Yr (by omega)))
theorem Zsc (q:Zd)(x:List Zc×List Int):∀k,k≤x.1.length→(clN q x k).1=upN (VO q) x.1 k
 | 0,_=>rfl
 | k+1,hk=>by
  have ih:=Zsc q x k (by omega);show (clN q x k).1.set k (VO q (gr ZT (clN q x k).1 k))=_;rw[ih,Gf _ _ (by omega)];rfl
def JN (q:Zd)(m:Zc):Zc:=if Gv m then Wo q m else m
abbrev ejP (q:Zd)(m:Zc):Prop:=Gv m∧m.bal≤q.floor
def Zqg (m:Zc):Zc:=⟨0,0,m.score,0,m.owner,4⟩
def ejF (q:Zd)(m:Zc):Zc:=if ejP q m then Zqg m else m
theorem Ztq {m:Zc}(hm:Ze m):Ze (Zqg m):=by
 have u3:=hm.u m.score (by simp);have n2:=hm.n m.owner (by simp)
 constructor
 ·intro z hz;simp only[Zqg,List.mem_cons,List.not_mem_nil,or_false]at hz;rcases hz with rfl|rfl|rfl<;>omega
 ·intro z hz;simp only[Zqg,List.mem_cons,List.not_mem_nil,or_false]at hz;rcases hz with rfl|rfl|rfl<;>omega
theorem Znp {q:Zd}(ok:Zh q)(hr:Yb q=true){m:Zc}(hm:Ze m):Ze (Wo q m):=by
 have u1:=hm.u m.bal (by simp);have u2:=hm.u m.eff (by simp);have u3:=hm.u m.score (by simp);have n1:=hm.n m.streak (by simp);have n2:=hm.n m.owner (by simp);have n3:=hm.n m.status (by simp);have hw:=UH (Jf hr) ok u1;have ue:0≤(Wo q m).eff∧(Wo q m).eff≤18446744073709551615:=by
  unfold Wo;simp only;split
  ·unfold VB;split
   ·exact hw
   ·exact u2
  ·exact hw
 constructor
 ·intro z hz;simp only[List.mem_cons,List.not_mem_nil,or_false]at hz;rcases hz with rfl|rfl|rfl
  ·exact u1
  ·exact ue
  ·exact u3
 ·intro z hz;simp only[Wo,List.mem_cons,List.not_mem_nil,or_false]at hz;rcases hz with rfl|rfl|rfl<;>omega
theorem Zib {q:Zd}(ok:Zh q)(hr:Yb q=true){m:Zc}(hm:Ze m):Ze (JN q m):=by
 unfold JN;split
 ·exact Znp ok hr hm
 ·exact hm
theorem Zwt {q:Zd}{m:Zc}(hm:Ze m):Ze (ejF q m):=by
 unfold ejF;split
 ·exact Ztq hm
 ·exact hm
theorem Zma (zs:List Int):∀k,k≤zs.length→YF zs k=(zs.take k).sum
 | 0,_=>by simp [YF]
 | k+1,hk=>by
  rw[YF,Zma zs k (by omega),List.take_succ_eq_append_getElem hk,List.sum_append,Yh hk];simp
theorem Zdk (zs:List Int):tot zs=zs.sum:=by
 rw[tot,Zma zs _ (Nat.le_refl _),List.take_length]
def Zbi (d x:Zg):Bool:=decide (x.acct=d.acct)&&decide (x.at'=d.at')
def Ww (l:List Zg)(t:Int):Nat→Nat
 | 0=>0
 | k+1=>if (gr ZZ l k).at'≤t then k+1 else Ww l t k
theorem G5 (l:List Zg)(t:Int):∀k,Ww l t k≤k
 | 0=>Nat.le_refl _
 | k+1=>by
  have:=G5 l t k;rw[Ww];split<;>omega
def Zhx (l:List Zg)(d:Zg):Nat:=l.findIdx (Zbi d)
def Ycf (x d:Zg):Zg:=⟨x.acct,x.at',x.amt+d.amt⟩
def Zqj (l:List Zg)(d:Zg):List Zg:=l.take (Ww l d.at' l.length)++d::l.drop (Ww l d.at' l.length)
def Jn (l:List Zg)(d:Zg):List Zg :=
 if d.amt=0 then l else if Zhx l d<l.length then l.set (Zhx l d) (Ycf (gr ZZ l (Zhx l d)) d) else Zqj l d
def Wm (l:List Zg):Int:=tot (l.map Zg.amt)
theorem Zlt (l:List Zg):Wm l=(l.map Zg.amt).sum:=Zdk _
theorem Zza (l:List Zg)(d:Zg):Wm (Zqj l d)=Wm l+d.amt:=by
 rw[Zlt,Zlt,Zqj]
 conv=>rhs;rw[← List.take_append_drop (Ww l d.at' l.length) l]
 rw[List.map_append,List.map_cons,List.map_append,List.sum_append,List.sum_append,List.sum_cons];omega
theorem Zkn {l:List Zg}{k:Nat}(hk:k<l.length):at0 (l.map Zg.amt) k=(gr ZZ l k).amt:=by
 rw[Yc hk,← Yh (by simpa using hk),List.getElem_map]
theorem Gx (l:List Zg)(d:Zg):Wm (Jn l d)=Wm l+d.amt:=by
 unfold Jn;split
 ·omega
 ·split
  ·rename_i h1;rw[Wm,List.map_set,Jj (by simpa using h1),Zkn h1];simp only[Ycf,Wm];omega
  ·exact Zza l d
theorem Zmz (l:List Zg)(d:Zg):(Jn l d).length≤l.length+1:=by
 unfold Jn;split
 ·omega
 ·split
  ·simp
  ·have:=G5 l d.at' l.length;simp only[Zqj,List.length_append,List.length_cons,List.length_take,List.length_drop];omega
theorem Zee {l:List Zg}{d x:Zg}(hx:x∈Jn l d):x∈l∨x=d∨(Zhx l d<l.length∧x=Ycf (gr ZZ l (Zhx l d)) d):=by
 unfold Jn at hx;split at hx
 ·exact .inl hx
 ·split at hx
  ·rename_i h1;rcases List.mem_or_eq_of_mem_set hx with hx|hx
   ·exact .inl hx
   ·exact .inr (.inr ⟨h1,hx⟩)
  ·simp only[Zqj,List.mem_append,List.mem_cons]at hx;rcases hx with hx|rfl|hx
   ·exact .inl (List.mem_of_mem_take hx)
   ·exact .inr (.inl rfl)
   ·exact .inl (List.mem_of_mem_drop hx)
structure Yyx (l:List Zg)(n:Nat)(M:Int):Prop where
 d:∀x∈l,Zr x
 t:Wm l≤M
 n:l.length≤n
theorem Zdt {l:List Zg}(hl:∀x∈l,Zr x)(i:Nat):0≤at0 (l.map Zg.amt) i:=V2 Zg.amt l (fun x hx=>(hl x hx).a.1) i
theorem Ztd {l:List Zg}(hl:∀x∈l,Zr x){k:Nat}(hk:k<l.length):(gr ZZ l k).amt≤Wm l:=by
 rw[← Zkn hk];exact Yk (Zdt hl) k
theorem JX {l:List Zg}{k:Nat}(hk:k<l.length):gr ZZ l k∈l:=Yr hk
theorem Zih {l:List Zg}{d:Zg}{n:Nat}{M:Int}(hl:Yyx l n M)(hd:Zr d)(hM:M+d.amt≤4611686018427387904):Yyx (Jn l d) (n+1) (M+d.amt):=by
 refine⟨fun x hx=>?_,?_,?_⟩
 ·rcases Zee hx with hx|rfl | ⟨h1,rfl⟩
  ·exact hl.d x hx
  ·exact hd
  ·have h2:=hl.d _ (JX h1);have h3:=Ztd hl.d h1;have h4:=hl.t;have h5:=hd.a;refine⟨?_,h2.n⟩;have:=h2.a;show 0≤(gr ZZ l (Zhx l d)).amt+d.amt∧(gr ZZ l (Zhx l d)).amt+d.amt≤18446744073709551615;omega
 ·rw[Gx];have:=hl.t;omega
 ·have:=Zmz l d;have:=hl.n;omega
def U3 (t:Int)(m:Zc):Zg:=⟨m.owner,t,m.bal⟩
def duN (q:Zd)(cs:List Zc)(t:Int)(ds:List Zg):Nat→List Zg
 | 0=>ds
 | k+1=>if ejP q (gr ZT cs k) then Jn (duN q cs t ds k) (U3 t (gr ZT cs k)) else duN q cs t ds k
def Yqg (l:List Int)(k:Nat):List Int:=l.filter fun x=>decide (x≠(k:Int))
def exN (q:Zd)(cs:List Zc)(xs:List Int):Nat→List Int
 | 0=>xs
 | k+1=>if ejP q (gr ZT cs k) then Yqg (exN q cs xs k) k else exN q cs xs k
def ouN (q:Zd)(cs:List Zc):Nat→List Int
 | 0=>[]
 | k+1=>if ejP q (gr ZT cs k) then ouN q cs k++[(k:Int)] else ouN q cs k
theorem Ztn (l:List Int)(k:Nat):(Yqg l k).length≤l.length:=List.length_filter_le _ _
theorem Zec (q:Zd)(cs:List Zc)(xs:List Int):∀k,(exN q cs xs k).length≤xs.length
 | 0=>Nat.le_refl _
 | k+1=>by
  have h1:=Zec q cs xs k;have h2:=Ztn (exN q cs xs k) k;rw[exN];split<;>omega
theorem Zdq (q:Zd)(cs:List Zc):∀k,(ouN q cs k).length≤k
 | 0=>Nat.le_refl _
 | k+1=>by
  have h1:=Zdq q cs k;rw[ouN];split
  ·rw[List.length_append];simp;omega
  ·omega
def flt (l:List Int)(k:Int):List Int:=l.filter fun x=>decide (x≠k)
theorem Zmh {xs:List Int}{k:Int}{j:Nat}(hj:j<xs.length):flt (xs.take (j+1)) k=flt (xs.take j) k++(if at0 xs j≠k then [at0 xs j] else []):=by
 rw[List.take_succ_eq_append_getElem hj,flt,List.filter_append,← Yh hj,flt];by_cases c:xs[j]=k
 ·simp [c]
 ·simp [c]
theorem Zlc {xs:List Int}{k:Int}(h:∀j,j<xs.length→at0 xs j≠k):flt xs k=xs:=by
 rw[flt,List.filter_eq_self];intro x hx;obtain⟨j,hj,rfl⟩:=List.mem_iff_getElem.1 hx;have:=h j hj;rw[← Yh hj]at this
 simpa using this
theorem Zuc {xs:List Int}{k:Int}:∀ {i:Nat},i≤xs.length→(∀j,j<i→at0 xs j≠k)→flt (xs.take i) k=xs.take i
 | i,hi,h=>Zlc fun j hj=>by
  have hj2:j<i:=by simp only[List.length_take]at hj;omega
  rw[Zdw,if_pos hj2];exact h j hj2
theorem Zrs (xs:List Int)(k:Int):(flt xs k).length≤xs.length:=List.length_filter_le _ _
theorem Zdx {cs:List Int}{i:Nat}{v:Int}(hi:i<cs.length):(cs.set i v).take (i+1)=cs.take i++[v]:=by
 rw[List.take_succ_eq_append_getElem (by simpa using hi),List.getElem_set_self,List.take_set_of_le (Nat.le_refl i)]
theorem Yff {l:List Zg}{d:Zg}{i:Nat}(hi:i<l.length)(h1:Zbi d (gr ZZ l i)=true)(h2:∀j,j<i→Zbi d (gr ZZ l j)=false):Zhx l d=i:=by
 rw[Zhx,List.findIdx_eq hi];refine⟨by rw[← Yc (z:=ZZ) hi];exact h1,fun j hj=>?_⟩;rw[← Yc (z:=ZZ) (by omega)];exact h2 j hj
theorem Yen {l:List Zg}{d:Zg}(h2:∀j,j<l.length→Zbi d (gr ZZ l j)=false):¬Zhx l d<l.length:=by
 have:Zhx l d=l.length:=by
  rw[Zhx,List.findIdx_eq_length];intro x hx;obtain⟨j,hj,rfl⟩:=List.mem_iff_getElem.1 hx;rw[← Yc (z:=ZZ) hj];exact h2 j hj
 omega
def Zoa (l:List Zg)(i:Nat)(d:Zg):List Zg:=l.take i++d::l.drop i
def fI (zs:List Int)(x:Int):Int:=if Wx (fun k=>decide (at0 zs k=x)) zs.length 0=zs.length then -1 else (Wx (fun k=>decide (at0 zs k=x)) zs.length 0:Nat)
theorem Ydl (zs:List Int)(x:Int):0≤fI zs x↔x∈zs:=by
 obtain⟨_,h2,h3,h4⟩:=WG (fun k=>decide (at0 zs k=x)) zs.length 0;unfold fI
 constructor
 ·intro h;split at h
  ·omega
  ·rename_i c;have:=h4 (by omega);simp only[decide_eq_true_eq]at this;rw[← this,← Yh (by omega)];exact List.getElem_mem _
 ·intro h;obtain⟨j,hj,e⟩:=List.mem_iff_getElem.1 h;rw[if_neg]
  ·omega
  ·intro c;have:=h3 j (by omega) (by omega);rw[Yh hj]at e;simp [e]at this
end Go.X

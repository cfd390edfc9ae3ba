/- Lemmas and contracts. Conditions: as each says. -/
import Derived.Test.YtpdidilobgimcaaGreatQ19
set_option linter.unusedVariables false
set_option linter.unusedSimpArgs false
set_option maxHeartbeats 12800000
set_option maxRecDepth 20000
namespace Go.X
open Go.RowKit Go.Proofs Go.Bl
variable {L:Own} {h:PH} {K:PK}
structure ZE (ms:List Zc)(ps:List Int):Prop where
 m:∀x∈ms,Zf x
 o:∀x∈ms,0≤x.owner∧x.owner<ps.length
 p:∀i,0≤at0 ps i
 t:tot ps+tot (ms.map Zc.bal)≤4611686018427387904
theorem Yt {α:Type}{z:α}{l:List α}{k:Nat}(hk:k<l.length):gr z l k∈l:=by
 rw[Z5 hk];exact List.getElem_mem hk
theorem WQ {ms:List Zc}{k:Nat}(hk:k<ms.length):at0 (ms.map Zc.bal) k=(gr ZR ms k).bal:=by
 rw[Z5 hk,← Yi (by simpa using hk),List.getElem_map]
theorem WN {ms:List Zc}(hm:∀x∈ms,Zf x)(i:Nat):0≤at0 (ms.map Zc.bal) i :=
 VN Zc.bal ms (fun x hx=>((hm x hx).u x.bal (by simp)).1) i
def V6 (q:Zd)(x:List Zc×List Int)(k:Nat):List Zc×List Int :=
 (x.1.set k (VH q (gr ZR x.1 k)),x.2.set (gr ZR x.1 k).owner.toNat (at0 x.2 (gr ZR x.1 k).owner.toNat+((gr ZR x.1 k).bal-min (gr ZR x.1 k).bal q.cap)))
def clN (q:Zd)(x:List Zc×List Int):Nat→List Zc×List Int
 | 0=>x
 | k+1=>V6 q (clN q x k) k
theorem Zwq {q:Zd}(ok:Zj q){m:Zc}(hm:Zf m):Zf (VH q m):=by
 have u1:=hm.u m.bal (by simp);have u2:=hm.u m.eff (by simp);have u3:=hm.u m.score (by simp);have n1:=hm.n m.streak (by simp);have n2:=hm.n m.owner (by simp);have n3:=hm.n m.status (by simp);have c1:=ok.w q.cap (by simp [YF]);have c2:=ok.w q.scoreCap (by simp [YF]);have c3:=ok.n q.streak (by simp [YH])
 constructor
 ·intro z hz;simp only[VH,Zbg,List.mem_cons,List.not_mem_nil,or_false]at hz;rcases hz with rfl|rfl|rfl<;>omega
 ·intro z hz;simp only[VH,Zbg,List.mem_cons,List.not_mem_nil,or_false]at hz;rcases hz with rfl|rfl|rfl<;>omega
theorem Znw (q:Zd)(x:List Zc×List Int)(k:Nat):(V6 q x k).1.length=x.1.length∧(V6 q x k).2.length=x.2.length:=by
 simp [V6]
theorem VX (q:Zd)(x:List Zc×List Int):∀k,(clN q x k).1.length=x.1.length∧(clN q x k).2.length=x.2.length
 | 0=>⟨rfl,rfl⟩
 | k+1=>by
  have h1:=VX q x k;have h2:=Znw q (clN q x k) k;exact⟨h2.1.trans h1.1,h2.2.trans h1.2⟩
theorem Zto {q:Zd}(ok:Zj q){x:List Zc×List Int}(hx:ZE x.1 x.2){k:Nat}(hk:k<x.1.length):ZE (V6 q x k).1 (V6 q x k).2:=by
 obtain⟨m,hm⟩:∃m,m=gr ZR x.1 k:=⟨_,rfl⟩
 have hmem:m∈x.1:=hm ▸ Yt hk;have ho:=hx.o m hmem;have ub:=(hx.m m hmem).u m.bal (by simp);have hc:=ok.w q.cap (by simp [YF]);have hb:at0 (x.1.map Zc.bal) k=m.bal:=hm ▸ WQ hk;have hj:m.owner.toNat<x.2.length:=by omega
 rw[V6,← hm];refine⟨fun y hy=>?_,fun y hy=>?_,fun i=>?_,?_⟩
 ·rcases List.mem_or_eq_of_mem_set hy with hy|rfl
  ·exact hx.m y hy
  ·exact Zwq ok (hx.m m hmem)
 ·simp only[List.length_set];rcases List.mem_or_eq_of_mem_set hy with hy|rfl
  ·exact hx.o y hy
  ·exact ho
 ·have h0:=hx.p i;have h1:=hx.p m.owner.toNat;simp only;rw[WY _ _ _ _ hj];split<;>omega
 ·have h0:=hx.t;simp only;rw[List.map_set,Jc hj,Jc (by simpa using hk),hb];have:(VH q m).bal=min m.bal q.cap:=rfl;rw[this];omega
theorem Zmu {q:Zd}(ok:Zj q){x:List Zc×List Int}(hx:ZE x.1 x.2):∀k,k≤x.1.length→ZE (clN q x k).1 (clN q x k).2
 | 0,_=>hx
 | k+1,hk=>Zto ok (Zmu ok hx k (by omega)) (by rw[(VX q x k).1];omega)
theorem Zpo {q:Zd}(ok:Zj q){x:List Zc×List Int}(hx:ZE x.1 x.2){k:Nat}(hk:k<x.1.length):tot (V6 q x k).2+tot ((V6 q x k).1.map Zc.bal)=tot x.2+tot (x.1.map Zc.bal):=by
 obtain⟨m,hm⟩:∃m,m=gr ZR x.1 k:=⟨_,rfl⟩
 have hmem:m∈x.1:=hm ▸ Yt hk;have ho:=hx.o m hmem;have hb:at0 (x.1.map Zc.bal) k=m.bal:=hm ▸ WQ hk;have hj:m.owner.toNat<x.2.length:=by omega
 rw[V6,← hm];simp only;rw[List.map_set,Jc hj,Jc (by simpa using hk),hb];have:(VH q m).bal=min m.bal q.cap:=rfl;rw[this];omega
theorem Ztc {q:Zd}(ok:Zj q){x:List Zc×List Int}(hx:ZE x.1 x.2):∀k,k≤x.1.length→tot (clN q x k).2+tot ((clN q x k).1.map Zc.bal)=tot x.2+tot (x.1.map Zc.bal)
 | 0,_=>rfl
 | k+1,hk=>(Zpo ok (Zmu ok hx k (by omega)) (by rw[(VX q x k).1];omega)).trans (Ztc ok hx k (by omega))
theorem Ydy {q:Zd}(ok:Zj q){x:List Zc×List Int}(hx:ZE x.1 x.2){k:Nat}(hk:k<x.1.length):at0 x.2 (gr ZR x.1 k).owner.toNat+((gr ZR x.1 k).bal-min (gr ZR x.1 k).bal q.cap)≤4611686018427387904:=by
 have h1:=Yl hx.p (gr ZR x.1 k).owner.toNat;have h2:=Yl (WN hx.m) k;rw[WQ hk]at h2;have h3:=hx.t;have ub:=(hx.m _ (Yt (z:=ZR) hk)).u (gr ZR x.1 k).bal (by simp);have hc:=ok.w q.cap (by simp [YF]);omega
abbrev Gh (m:Zc):Prop:=m.status=2∨m.status=3
def upN (f:Zc→Zc)(l:List Zc):Nat→List Zc
 | 0=>l
 | k+1=>(upN f l k).set k (f (gr ZR l k))
theorem WB (f:Zc→Zc)(l:List Zc):∀k,(upN f l k).length=l.length
 | 0=>rfl
 | k+1=>by rw[upN,List.length_set];exact WB f l k
theorem Zae (f:Zc→Zc)(l:List Zc):∀k,k≤l.length→∀j,gr ZR (upN f l k) j=if j<k then f (gr ZR l j) else gr ZR l j
 | 0,_,j=>by simp [upN]
 | k+1,hk,j=>by
  have ih:=Zae f l k (by omega) j;have hl:=WB f l k;have hl1:=WB f l (k+1);by_cases e:j=k
  ·subst e;rw[Z5 (by omega),if_pos (by omega)];simp only[upN,List.getElem_set_self]
  ·by_cases hj:j<l.length
   ·rw[Z5 (by omega)]at ih ⊢;simp only[upN];rw[List.getElem_set_ne (Ne.symm e),ih];by_cases c:j<k
    ·rw[if_pos c,if_pos (by omega)]
    ·rw[if_neg c,if_neg (by omega)]
   ·have h1:gr ZR (upN f l (k+1)) j=gr ZR l j:=by
     unfold gr;rw[List.getD_eq_getElem?_getD,List.getD_eq_getElem?_getD,List.getElem?_eq_none (by omega),List.getElem?_eq_none (by omega)]
    rw[h1,if_neg (by omega)]
theorem Ga (f:Zc→Zc)(l:List Zc){k:Nat}(hk:k<l.length):gr ZR (upN f l k) k=gr ZR l k:=by
 rw[Zae f l k (by omega),if_neg (by omega)]
theorem Zln (f:Zc→Zc)(l:List Zc){k:Nat}(hk:k<l.length)(hf:f (gr ZR l k)=gr ZR l k):upN f l (k+1)=upN f l k:=by
 have hl:=WB f l k;have h1:=Ga f l hk;rw[Z5 (by omega)]at h1;rw[upN,hf,← h1,List.set_getElem_self]
theorem Zdh (f:Zc→Zc)(l:List Zc):upN f l l.length=l.map f:=by
 refine List.ext_getElem (by rw[WB,List.length_map]) fun j h1 h2=>?_;have hj:j<l.length:=by rwa [WB]at h1
 rw[← Z5 (z:=ZR) h1,Zae f l _ (Nat.le_refl _),if_pos hj,Z5 hj,List.getElem_map]
theorem Zfn {f:Zc→Zc}{l:List Zc}(P:Zc→Prop)(hf:∀x,P x→P (f x))(hl:∀x∈l,P x):∀k,k≤l.length→∀x∈upN f l k,P x
 | 0,_=>hl
 | k+1,hk=>fun x hx=>by
  rw[upN]at hx;rcases List.mem_or_eq_of_mem_set hx with hx|rfl
  ·exact Zfn P hf hl k (by omega) x hx
  ·exact hf _ (hl _ (Yt (by omega)))
theorem Zum (q:Zd)(x:List Zc×List Int):∀k,k≤x.1.length→(clN q x k).1=upN (VH q) x.1 k
 | 0,_=>rfl
 | k+1,hk=>by
  have ih:=Zum q x k (by omega);show (clN q x k).1.set k (VH q (gr ZR (clN q x k).1 k))=_;rw[ih,Ga _ _ (by omega)];rfl
def JI (q:Zd)(m:Zc):Zc:=if Gh m then Wg q m else m
abbrev ejP (q:Zd)(m:Zc):Prop:=Gh m∧m.bal≤q.floor
def Zqb (m:Zc):Zc:=⟨0,0,m.score,0,m.owner,4⟩
def ejF (q:Zd)(m:Zc):Zc:=if ejP q m then Zqb m else m
theorem Zvo {m:Zc}(hm:Zf m):Zf (Zqb m):=by
 have u3:=hm.u m.score (by simp);have n2:=hm.n m.owner (by simp)
 constructor
 ·intro z hz;simp only[Zqb,List.mem_cons,List.not_mem_nil,or_false]at hz;rcases hz with rfl|rfl|rfl<;>omega
 ·intro z hz;simp only[Zqb,List.mem_cons,List.not_mem_nil,or_false]at hz;rcases hz with rfl|rfl|rfl<;>omega
theorem Zpc {q:Zd}(ok:Zj q)(hr:YI q=true){m:Zc}(hm:Zf m):Zf (Wg q m):=by
 have u1:=hm.u m.bal (by simp);have u2:=hm.u m.eff (by simp);have u3:=hm.u m.score (by simp);have n1:=hm.n m.streak (by simp);have n2:=hm.n m.owner (by simp);have n3:=hm.n m.status (by simp);have hw:=Jh (U8 hr) ok u1;have ue:0≤(Wg q m).eff∧(Wg q m).eff≤18446744073709551615:=by
  unfold Wg;simp only;split
  ·unfold Zao;split
   ·exact hw
   ·exact u2
  ·exact hw
 constructor
 ·intro z hz;simp only[List.mem_cons,List.not_mem_nil,or_false]at hz;rcases hz with rfl|rfl|rfl
  ·exact u1
  ·exact ue
  ·exact u3
 ·intro z hz;simp only[Wg,List.mem_cons,List.not_mem_nil,or_false]at hz;rcases hz with rfl|rfl|rfl<;>omega
theorem Zjo {q:Zd}(ok:Zj q)(hr:YI q=true){m:Zc}(hm:Zf m):Zf (JI q m):=by
 unfold JI;split
 ·exact Zpc ok hr hm
 ·exact hm
theorem Zsd {q:Zd}{m:Zc}(hm:Zf m):Zf (ejF q m):=by
 unfold ejF;split
 ·exact Zvo hm
 ·exact hm
theorem Zmm (zs:List Int):∀k,k≤zs.length→YD zs k=(zs.take k).sum
 | 0,_=>by simp [YD]
 | k+1,hk=>by
  rw[YD,Zmm zs k (by omega),List.take_succ_eq_append_getElem hk,List.sum_append,Yi hk];simp
theorem Zdi (zs:List Int):tot zs=zs.sum:=by
 rw[tot,Zmm zs _ (Nat.le_refl _),List.take_length]
def Zba (d x:Zh):Bool:=decide (x.acct=d.acct)&&decide (x.at'=d.at')
def Wr (l:List Zh)(t:Int):Nat→Nat
 | 0=>0
 | k+1=>if (gr ZY l k).at'≤t then k+1 else Wr l t k
theorem Zam (l:List Zh)(t:Int):∀k,Wr l t k≤k
 | 0=>Nat.le_refl _
 | k+1=>by
  have:=Zam l t k;rw[Wr];split<;>omega
def Zhm (l:List Zh)(d:Zh):Nat:=l.findIdx (Zba d)
def Ybg (x d:Zh):Zh:=⟨x.acct,x.at',x.amt+d.amt⟩
def Zpy (l:List Zh)(d:Zh):List Zh:=l.take (Wr l d.at' l.length)++d::l.drop (Wr l d.at' l.length)
def Jg (l:List Zh)(d:Zh):List Zh :=
 if d.amt=0 then l else if Zhm l d<l.length then l.set (Zhm l d) (Ybg (gr ZY l (Zhm l d)) d) else Zpy l d
def Wf (l:List Zh):Int:=tot (l.map Zh.amt)
theorem Zmi (l:List Zh):Wf l=(l.map Zh.amt).sum:=Zdi _
theorem Zzm (l:List Zh)(d:Zh):Wf (Zpy l d)=Wf l+d.amt:=by
 rw[Zmi,Zmi,Zpy]
 conv=>rhs;rw[← List.take_append_drop (Wr l d.at' l.length) l]
 rw[List.map_append,List.map_cons,List.map_append,List.sum_append,List.sum_append,List.sum_cons];omega
theorem Zjg {l:List Zh}{k:Nat}(hk:k<l.length):at0 (l.map Zh.amt) k=(gr ZY l k).amt:=by
 rw[Z5 hk,← Yi (by simpa using hk),List.getElem_map]
theorem Gk (l:List Zh)(d:Zh):Wf (Jg l d)=Wf l+d.amt:=by
 unfold Jg;split
 ·omega
 ·split
  ·rename_i h1;rw[Wf,List.map_set,Jc (by simpa using h1),Zjg h1];simp only[Ybg,Wf];omega
  ·exact Zzm l d
theorem Zmr (l:List Zh)(d:Zh):(Jg l d).length≤l.length+1:=by
 unfold Jg;split
 ·omega
 ·split
  ·simp
  ·have:=Zam l d.at' l.length;simp only[Zpy,List.length_append,List.length_cons,List.length_take,List.length_drop];omega
theorem Zdz {l:List Zh}{d x:Zh}(hx:x∈Jg l d):x∈l∨x=d∨(Zhm l d<l.length∧x=Ybg (gr ZY l (Zhm l d)) d):=by
 unfold Jg at hx;split at hx
 ·exact .inl hx
 ·split at hx
  ·rename_i h1;rcases List.mem_or_eq_of_mem_set hx with hx|hx
   ·exact .inl hx
   ·exact .inr (.inr ⟨h1,hx⟩)
  ·simp only[Zpy,List.mem_append,List.mem_cons]at hx;rcases hx with hx|rfl|hx
   ·exact .inl (List.mem_of_mem_take hx)
   ·exact .inr (.inl rfl)
   ·exact .inl (List.mem_of_mem_drop hx)
structure Yye (l:List Zh)(n:Nat)(M:Int):Prop where
 d:∀x∈l,Zs x
 t:Wf l≤M
 n:l.length≤n
theorem Zdj {l:List Zh}(hl:∀x∈l,Zs x)(i:Nat):0≤at0 (l.map Zh.amt) i:=VN Zh.amt l (fun x hx=>(hl x hx).a.1) i
theorem Zqc {l:List Zh}(hl:∀x∈l,Zs x){k:Nat}(hk:k<l.length):(gr ZY l k).amt≤Wf l:=by
 rw[← Zjg hk];exact Yl (Zdj hl) k
theorem JK {l:List Zh}{k:Nat}(hk:k<l.length):gr ZY l k∈l:=Yt hk
theorem Zkc {l:List Zh}{d:Zh}{n:Nat}{M:Int}(hl:Yye l n M)(hd:Zs d)(hM:M+d.amt≤4611686018427387904):Yye (Jg l d) (n+1) (M+d.amt):=by
 refine⟨fun x hx=>?_,?_,?_⟩
 ·rcases Zdz hx with hx|rfl | ⟨h1,rfl⟩
  ·exact hl.d x hx
  ·exact hd
  ·have h2:=hl.d _ (JK h1);have h3:=Zqc hl.d h1;have h4:=hl.t;have h5:=hd.a;refine⟨?_,h2.n⟩;have:=h2.a;show 0≤(gr ZY l (Zhm l d)).amt+d.amt∧(gr ZY l (Zhm l d)).amt+d.amt≤18446744073709551615;omega
 ·rw[Gk];have:=hl.t;omega
 ·have:=Zmr l d;have:=hl.n;omega
def UT (t:Int)(m:Zc):Zh:=⟨m.owner,t,m.bal⟩
def duN (q:Zd)(cs:List Zc)(t:Int)(ds:List Zh):Nat→List Zh
 | 0=>ds
 | k+1=>if ejP q (gr ZR cs k) then Jg (duN q cs t ds k) (UT t (gr ZR cs k)) else duN q cs t ds k
def Ynx (l:List Int)(k:Nat):List Int:=l.filter fun x=>decide (x≠(k:Int))
def exN (q:Zd)(cs:List Zc)(xs:List Int):Nat→List Int
 | 0=>xs
 | k+1=>if ejP q (gr ZR cs k) then Ynx (exN q cs xs k) k else exN q cs xs k
def ouN (q:Zd)(cs:List Zc):Nat→List Int
 | 0=>[]
 | k+1=>if ejP q (gr ZR cs k) then ouN q cs k++[(k:Int)] else ouN q cs k
theorem Zqu (l:List Int)(k:Nat):(Ynx l k).length≤l.length:=List.length_filter_le _ _
theorem Zds (q:Zd)(cs:List Zc)(xs:List Int):∀k,(exN q cs xs k).length≤xs.length
 | 0=>Nat.le_refl _
 | k+1=>by
  have h1:=Zds q cs xs k;have h2:=Zqu (exN q cs xs k) k;rw[exN];split<;>omega
theorem Zdk (q:Zd)(cs:List Zc):∀k,(ouN q cs k).length≤k
 | 0=>Nat.le_refl _
 | k+1=>by
  have h1:=Zdk q cs k;rw[ouN];split
  ·rw[List.length_append];simp;omega
  ·omega
def flt (l:List Int)(k:Int):List Int:=l.filter fun x=>decide (x≠k)
theorem Zlw {xs:List Int}{k:Int}{j:Nat}(hj:j<xs.length):flt (xs.take (j+1)) k=flt (xs.take j) k++(if at0 xs j≠k then [at0 xs j] else []):=by
 rw[List.take_succ_eq_append_getElem hj,flt,List.filter_append,← Yi hj,flt];by_cases c:xs[j]=k
 ·simp [c]
 ·simp [c]
theorem Zlp {xs:List Int}{k:Int}(h:∀j,j<xs.length→at0 xs j≠k):flt xs k=xs:=by
 rw[flt,List.filter_eq_self];intro x hx;obtain⟨j,hj,rfl⟩:=List.mem_iff_getElem.1 hx;have:=h j hj;rw[← Yi hj]at this
 simpa using this
theorem Zux {xs:List Int}{k:Int}:∀ {i:Nat},i≤xs.length→(∀j,j<i→at0 xs j≠k)→flt (xs.take i) k=xs.take i
 | i,hi,h=>Zlp fun j hj=>by
  have hj2:j<i:=by simp only[List.length_take]at hj;omega
  rw[Yas,if_pos hj2];exact h j hj2
theorem Zwv (xs:List Int)(k:Int):(flt xs k).length≤xs.length:=List.length_filter_le _ _
theorem Zcx {cs:List Int}{i:Nat}{v:Int}(hi:i<cs.length):(cs.set i v).take (i+1)=cs.take i++[v]:=by
 rw[List.take_succ_eq_append_getElem (by simpa using hi),List.getElem_set_self,List.take_set_of_le (Nat.le_refl i)]
theorem Ygc {l:List Zh}{d:Zh}{i:Nat}(hi:i<l.length)(h1:Zba d (gr ZY l i)=true)(h2:∀j,j<i→Zba d (gr ZY l j)=false):Zhm l d=i:=by
 rw[Zhm,List.findIdx_eq hi];refine⟨by rw[← Z5 (z:=ZY) hi];exact h1,fun j hj=>?_⟩;rw[← Z5 (z:=ZY) (by omega)];exact h2 j hj
theorem Yet {l:List Zh}{d:Zh}(h2:∀j,j<l.length→Zba d (gr ZY l j)=false):¬Zhm l d<l.length:=by
 have:Zhm l d=l.length:=by
  rw[Zhm,List.findIdx_eq_length];intro x hx;obtain⟨j,hj,rfl⟩:=List.mem_iff_getElem.1 hx;rw[← Z5 (z:=ZY) hj];exact h2 j hj
 omega
def Zoh (l:List Zh)(i:Nat)(d:Zh):List Zh:=l.take i++d::l.drop i
def fI (zs:List Int)(x:Int):Int:=if Ws (fun k=>decide (at0 zs k=x)) zs.length 0=zs.length then -1 else (Ws (fun k=>decide (at0 zs k=x)) zs.length 0:Nat)
theorem Ybj (zs:List Int)(x:Int):0≤fI zs x↔x∈zs:=by
 obtain⟨_,h2,h3,h4⟩:=Va (fun k=>decide (at0 zs k=x)) zs.length 0;unfold fI
 constructor
 ·intro h;split at h
  ·omega
  ·rename_i c;have:=h4 (by omega);simp only[decide_eq_true_eq]at this;rw[← this,← Yi (by omega)];exact List.getElem_mem _
 ·intro h;obtain⟨j,hj,e⟩:=List.mem_iff_getElem.1 h;rw[if_neg]
  ·omega
  ·intro c;have:=h3 j (by omega) (by omega);rw[Yi hj]at e;simp [e]at this
end Go.X

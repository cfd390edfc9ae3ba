/- Lemmas and contracts. Conditions: as each says. -/
import Derived.Test.YtllhopbilpdpkaaGreatQ18
import Derived.Test.YtllhopbilpdpkaaGreatQ23
set_option linter.unusedVariables false
set_option linter.unusedSimpArgs false
set_option maxHeartbeats 12800000
set_option maxRecDepth 20000
namespace Go.X
open Go.RowKit Go.Proofs Go.Bl Go.Proofs.Tryz
variable {L:Own} {h:PH} {K:PK}
structure ZF (ms:List Zc)(ps:List Int):Prop where
 m:∀x∈ms,Zg x
 o:∀x∈ms,0≤x.owner∧x.owner<ps.length
 p:∀i,0≤at0 ps i
 t:tot ps+tot (ms.map Zc.bal)≤4611686018427387904
theorem YA {α:Type}{z:α}{l:List α}{k:Nat}(hk:k<l.length):gr z l k∈l:=by
 rw[Z9 hk];exact List.getElem_mem hk
theorem Vc {ms:List Zc}{k:Nat}(hk:k<ms.length):at0 (ms.map Zc.bal) k=(gr ZQ ms k).bal:=by
 rw[Z9 hk,← Ye (by simpa using hk),List.getElem_map]
theorem Vb {ms:List Zc}(hm:∀x∈ms,Zg x)(i:Nat):0≤at0 (ms.map Zc.bal) i :=
 UD Zc.bal ms (fun x hx=>((hm x hx).u x.bal (by simp)).1) i
def UL (q:Zd)(x:List Zc×List Int)(k:Nat):List Zc×List Int :=
 (x.1.set k (Ui q (gr ZQ x.1 k)),x.2.set (gr ZQ x.1 k).owner.toNat (at0 x.2 (gr ZQ x.1 k).owner.toNat+((gr ZQ x.1 k).bal-min (gr ZQ x.1 k).bal q.cap)))
def clN (q:Zd)(x:List Zc×List Int):Nat→List Zc×List Int
 | 0=>x
 | k+1=>UL q (clN q x k) k
theorem Yad {q:Zd}(ok:Zj q){m:Zc}(hm:Zg m):Zg (Ui q m):=by
 have u1:=hm.u m.bal (by simp);have u2:=hm.u m.eff (by simp);have u3:=hm.u m.score (by simp);have n1:=hm.n m.streak (by simp);have n2:=hm.n m.owner (by simp);have n3:=hm.n m.status (by simp);have c1:=ok.w q.cap (by simp [Ys]);have c2:=ok.w q.scoreCap (by simp [Ys]);have c3:=ok.n q.streak (by simp [Yo])
 constructor
 ·intro z hz;simp only[Ui,Gf,List.mem_cons,List.not_mem_nil,or_false]at hz;rcases hz with rfl|rfl|rfl<;>omega
 ·intro z hz;simp only[Ui,Gf,List.mem_cons,List.not_mem_nil,or_false]at hz;rcases hz with rfl|rfl|rfl<;>omega
theorem Zrj (q:Zd)(x:List Zc×List Int)(k:Nat):(UL q x k).1.length=x.1.length∧(UL q x k).2.length=x.2.length:=by
 simp [UL]
theorem UB (q:Zd)(x:List Zc×List Int):∀k,(clN q x k).1.length=x.1.length∧(clN q x k).2.length=x.2.length
 | 0=>⟨rfl,rfl⟩
 | k+1=>by
  have h1:=UB q x k;have h2:=Zrj q (clN q x k) k;exact⟨h2.1.trans h1.1,h2.2.trans h1.2⟩
theorem Zvj {q:Zd}(ok:Zj q){x:List Zc×List Int}(hx:ZF x.1 x.2){k:Nat}(hk:k<x.1.length):ZF (UL q x k).1 (UL q x k).2:=by
 obtain⟨m,hm⟩:∃m,m=gr ZQ x.1 k:=⟨_,rfl⟩
 have hmem:m∈x.1:=hm ▸ YA hk;have ho:=hx.o m hmem;have ub:=(hx.m m hmem).u m.bal (by simp);have hc:=ok.w q.cap (by simp [Ys]);have hb:at0 (x.1.map Zc.bal) k=m.bal:=hm ▸ Vc hk;have hj:m.owner.toNat<x.2.length:=by omega
 rw[UL,← hm];refine⟨fun y hy=>?_,fun y hy=>?_,fun i=>?_,?_⟩
 ·rcases List.mem_or_eq_of_mem_set hy with hy|rfl
  ·exact hx.m y hy
  ·exact Yad ok (hx.m m hmem)
 ·simp only[List.length_set];rcases List.mem_or_eq_of_mem_set hy with hy|rfl
  ·exact hx.o y hy
  ·exact ho
 ·have h0:=hx.p i;have h1:=hx.p m.owner.toNat;simp only;rw[WV _ _ _ _ hj];split<;>omega
 ·have h0:=hx.t;simp only;rw[List.map_set,JH hj,JH (by simpa using hk),hb];have:(Ui q m).bal=min m.bal q.cap:=rfl;rw[this];omega
theorem Zoe {q:Zd}(ok:Zj q){x:List Zc×List Int}(hx:ZF x.1 x.2):∀k,k≤x.1.length→ZF (clN q x k).1 (clN q x k).2
 | 0,_=>hx
 | k+1,hk=>Zvj ok (Zoe ok hx k (by omega)) (by rw[(UB q x k).1];omega)
theorem Zqu {q:Zd}(ok:Zj q){x:List Zc×List Int}(hx:ZF x.1 x.2){k:Nat}(hk:k<x.1.length):tot (UL q x k).2+tot ((UL q x k).1.map Zc.bal)=tot x.2+tot (x.1.map Zc.bal):=by
 obtain⟨m,hm⟩:∃m,m=gr ZQ x.1 k:=⟨_,rfl⟩
 have hmem:m∈x.1:=hm ▸ YA hk;have ho:=hx.o m hmem;have hb:at0 (x.1.map Zc.bal) k=m.bal:=hm ▸ Vc hk;have hj:m.owner.toNat<x.2.length:=by omega
 rw[UL,← hm];simp only;rw[List.map_set,JH hj,JH (by simpa using hk),hb];have:(Ui q m).bal=min m.bal q.cap:=rfl;rw[this];omega
theorem Zuj {q:Zd}(ok:Zj q){x:List Zc×List Int}(hx:ZF x.1 x.2):∀k,k≤x.1.length→tot (clN q x k).2+tot ((clN q x k).1.map Zc.bal)=tot x.2+tot (x.1.map Zc.bal)
 | 0,_=>rfl
 | k+1,hk=>(Zqu ok (Zoe ok hx k (by omega)) (by rw[(UB q x k).1];omega)).trans (Zuj ok hx k (by omega))
theorem Ymc {q:Zd}(ok:Zj q){x:List Zc×List Int}(hx:ZF x.1 x.2){k:Nat}(hk:k<x.1.length):at0 x.2 (gr ZQ x.1 k).owner.toNat+((gr ZQ x.1 k).bal-min (gr ZQ x.1 k).bal q.cap)≤4611686018427387904:=by
 have h1:=Yw hx.p (gr ZQ x.1 k).owner.toNat;have h2:=Yw (Vb hx.m) k;rw[Vc hk]at h2;have h3:=hx.t;have ub:=(hx.m _ (YA (z:=ZQ) hk)).u (gr ZQ x.1 k).bal (by simp);have hc:=ok.w q.cap (by simp [Ys]);omega
abbrev Gw (m:Zc):Prop:=m.status=2∨m.status=3
def upN (f:Zc→Zc)(l:List Zc):Nat→List Zc
 | 0=>l
 | k+1=>(upN f l k).set k (f (gr ZQ l k))
theorem Wy (f:Zc→Zc)(l:List Zc):∀k,(upN f l k).length=l.length
 | 0=>rfl
 | k+1=>by rw[upN,List.length_set];exact Wy f l k
theorem U6 (f:Zc→Zc)(l:List Zc):∀k,k≤l.length→∀j,gr ZQ (upN f l k) j=if j<k then f (gr ZQ l j) else gr ZQ l j
 | 0,_,j=>by simp [upN]
 | k+1,hk,j=>by
  have ih:=U6 f l k (by omega) j;have hl:=Wy f l k;have hl1:=Wy f l (k+1);by_cases e:j=k
  ·subst e;rw[Z9 (by omega),if_pos (by omega)];simp only[upN,List.getElem_set_self]
  ·by_cases hj:j<l.length
   ·rw[Z9 (by omega)]at ih ⊢;simp only[upN];rw[List.getElem_set_ne (Ne.symm e),ih];by_cases c:j<k
    ·rw[if_pos c,if_pos (by omega)]
    ·rw[if_neg c,if_neg (by omega)]
   ·have h1:gr ZQ (upN f l (k+1)) j=gr ZQ l j:=by
     unfold gr;rw[List.getD_eq_getElem?_getD,List.getD_eq_getElem?_getD,List.getElem?_eq_none (by omega),List.getElem?_eq_none (by omega)]
    rw[h1,if_neg (by omega)]
theorem GP (f:Zc→Zc)(l:List Zc){k:Nat}(hk:k<l.length):gr ZQ (upN f l k) k=gr ZQ l k:=by
 rw[U6 f l k (by omega),if_neg (by omega)]
theorem Zot (f:Zc→Zc)(l:List Zc){k:Nat}(hk:k<l.length)(hf:f (gr ZQ l k)=gr ZQ l k):upN f l (k+1)=upN f l k:=by
 have hl:=Wy f l k;have h1:=GP f l hk;rw[Z9 (by omega)]at h1;rw[upN,hf,← h1,List.set_getElem_self]
theorem Zfx (f:Zc→Zc)(l:List Zc):upN f l l.length=l.map f:=by
 refine List.ext_getElem (by rw[Wy,List.length_map]) fun j h1 h2=>?_;have hj:j<l.length:=by rwa [Wy]at h1
 rw[← Z9 (z:=ZQ) h1,U6 f l _ (Nat.le_refl _),if_pos hj,Z9 hj,List.getElem_map]
theorem Zio {f:Zc→Zc}{l:List Zc}(P:Zc→Prop)(hf:∀x,P x→P (f x))(hl:∀x∈l,P x):∀k,k≤l.length→∀x∈upN f l k,P x
 | 0,_=>hl
 | k+1,hk=>fun x hx=>by
  rw[upN]at hx;rcases List.mem_or_eq_of_mem_set hx with hx|rfl
  ·exact Zio P hf hl k (by omega) x hx
  ·exact hf _ (hl _ (YA (by omega)))
theorem Zwd (q:Zd)(x:List Zc×List Int):∀k,k≤x.1.length→(clN q x k).1=upN (Ui q) x.1 k
 | 0,_=>rfl
 | k+1,hk=>by
  have ih:=Zwd q x k (by omega);show (clN q x k).1.set k (Ui q (gr ZQ (clN q x k).1 k))=_;rw[ih,GP _ _ (by omega)];rfl
def JL (q:Zd)(m:Zc):Zc:=if Gw m then Wz q m else m
abbrev ejP (q:Zd)(m:Zc):Prop:=Gw m∧m.bal≤q.floor
def Zua (m:Zc):Zc:=⟨0,0,m.score,0,m.owner,4⟩
def ejF (q:Zd)(m:Zc):Zc:=if ejP q m then Zua m else m
theorem Zvo {m:Zc}(hm:Zg m):Zg (Zua m):=by
 have u3:=hm.u m.score (by simp);have n2:=hm.n m.owner (by simp)
 constructor
 ·intro z hz;simp only[Zua,List.mem_cons,List.not_mem_nil,or_false]at hz;rcases hz with rfl|rfl|rfl<;>omega
 ·intro z hz;simp only[Zua,List.mem_cons,List.not_mem_nil,or_false]at hz;rcases hz with rfl|rfl|rfl<;>omega
theorem Zrz {q:Zd}(ok:Zj q)(hr:Yd q=true){m:Zc}(hm:Zg m):Zg (Wz q m):=by
 have u1:=hm.u m.bal (by simp);have u2:=hm.u m.eff (by simp);have u3:=hm.u m.score (by simp);have n1:=hm.n m.streak (by simp);have n2:=hm.n m.owner (by simp);have n3:=hm.n m.status (by simp);have hw:=Gd (Ja hr) ok u1;have ue:0≤(Wz q m).eff∧(Wz q m).eff≤18446744073709551615:=by
  unfold Wz;simp only;split
  ·unfold Gq;split
   ·exact hw
   ·exact u2
  ·exact hw
 constructor
 ·intro z hz;simp only[List.mem_cons,List.not_mem_nil,or_false]at hz;rcases hz with rfl|rfl|rfl
  ·exact u1
  ·exact ue
  ·exact u3
 ·intro z hz;simp only[Wz,List.mem_cons,List.not_mem_nil,or_false]at hz;rcases hz with rfl|rfl|rfl<;>omega
theorem Zmr {q:Zd}(ok:Zj q)(hr:Yd q=true){m:Zc}(hm:Zg m):Zg (JL q m):=by
 unfold JL;split
 ·exact Zrz ok hr hm
 ·exact hm
theorem Zyh {q:Zd}{m:Zc}(hm:Zg m):Zg (ejF q m):=by
 unfold ejF;split
 ·exact Zvo hm
 ·exact hm
theorem Zpc (zs:List Int):∀k,k≤zs.length→YK zs k=(zs.take k).sum
 | 0,_=>by simp [YK]
 | k+1,hk=>by
  rw[YK,Zpc zs k (by omega),List.take_succ_eq_append_getElem hk,List.sum_append,Ye hk];simp
theorem Zfu (zs:List Int):tot zs=zs.sum:=by
 rw[tot,Zpc zs _ (Nat.le_refl _),List.take_length]
def Zda (d x:Zi):Bool:=decide (x.acct=d.acct)&&decide (x.at'=d.at')
def WE (l:List Zi)(t:Int):Nat→Nat
 | 0=>0
 | k+1=>if (gr ZV l k).at'≤t then k+1 else WE l t k
theorem Zbo (l:List Zi)(t:Int):∀k,WE l t k≤k
 | 0=>Nat.le_refl _
 | k+1=>by
  have:=Zbo l t k;rw[WE];split<;>omega
def Zkp (l:List Zi)(d:Zi):Nat:=l.findIdx (Zda d)
def Yfw (x d:Zi):Zi:=⟨x.acct,x.at',x.amt+d.amt⟩
def Zty (l:List Zi)(d:Zi):List Zi:=l.take (WE l d.at' l.length)++d::l.drop (WE l d.at' l.length)
def JQ (l:List Zi)(d:Zi):List Zi :=
 if d.amt=0 then l else if Zkp l d<l.length then l.set (Zkp l d) (Yfw (gr ZV l (Zkp l d)) d) else Zty l d
def Wu (l:List Zi):Int:=tot (l.map Zi.amt)
theorem Zob (l:List Zi):Wu l=(l.map Zi.amt).sum:=Zfu _
theorem Yew (l:List Zi)(d:Zi):Wu (Zty l d)=Wu l+d.amt:=by
 rw[Zob,Zob,Zty]
 conv=>rhs;rw[← List.take_append_drop (WE l d.at' l.length) l]
 rw[List.map_append,List.map_cons,List.map_append,List.sum_append,List.sum_append,List.sum_cons];omega
theorem Znt {l:List Zi}{k:Nat}(hk:k<l.length):at0 (l.map Zi.amt) k=(gr ZV l k).amt:=by
 rw[Z9 hk,← Ye (by simpa using hk),List.getElem_map]
theorem Zab (l:List Zi)(d:Zi):Wu (JQ l d)=Wu l+d.amt:=by
 unfold JQ;split
 ·omega
 ·split
  ·rename_i h1;rw[Wu,List.map_set,JH (by simpa using h1),Znt h1];simp only[Yfw,Wu];omega
  ·exact Yew l d
theorem Zoc (l:List Zi)(d:Zi):(JQ l d).length≤l.length+1:=by
 unfold JQ;split
 ·omega
 ·split
  ·simp
  ·have:=Zbo l d.at' l.length;simp only[Zty,List.length_append,List.length_cons,List.length_take,List.length_drop];omega
theorem Zfq {l:List Zi}{d x:Zi}(hx:x∈JQ l d):x∈l∨x=d∨(Zkp l d<l.length∧x=Yfw (gr ZV l (Zkp l d)) d):=by
 unfold JQ at hx;split at hx
 ·exact .inl hx
 ·split at hx
  ·rename_i h1;rcases List.mem_or_eq_of_mem_set hx with hx|hx
   ·exact .inl hx
   ·exact .inr (.inr ⟨h1,hx⟩)
  ·simp only[Zty,List.mem_append,List.mem_cons]at hx;rcases hx with hx|rfl|hx
   ·exact .inl (List.mem_of_mem_take hx)
   ·exact .inr (.inl rfl)
   ·exact .inl (List.mem_of_mem_drop hx)
structure Wgo (l:List Zi)(n:Nat)(M:Int):Prop where
 d:∀x∈l,Zr x
 t:Wu l≤M
 n:l.length≤n
theorem Zgp {l:List Zi}(hl:∀x∈l,Zr x)(i:Nat):0≤at0 (l.map Zi.amt) i:=UD Zi.amt l (fun x hx=>(hl x hx).a.1) i
theorem Zye {l:List Zi}(hl:∀x∈l,Zr x){k:Nat}(hk:k<l.length):(gr ZV l k).amt≤Wu l:=by
 rw[← Znt hk];exact Yw (Zgp hl) k
theorem GG {l:List Zi}{k:Nat}(hk:k<l.length):gr ZV l k∈l:=YA hk
theorem Zmt {l:List Zi}{d:Zi}{n:Nat}{M:Int}(hl:Wgo l n M)(hd:Zr d)(hM:M+d.amt≤4611686018427387904):Wgo (JQ l d) (n+1) (M+d.amt):=by
 refine⟨fun x hx=>?_,?_,?_⟩
 ·rcases Zfq hx with hx|rfl | ⟨h1,rfl⟩
  ·exact hl.d x hx
  ·exact hd
  ·have h2:=hl.d _ (GG h1);have h3:=Zye hl.d h1;have h4:=hl.t;have h5:=hd.a;refine⟨?_,h2.n⟩;have:=h2.a;show 0≤(gr ZV l (Zkp l d)).amt+d.amt∧(gr ZV l (Zkp l d)).amt+d.amt≤18446744073709551615;omega
 ·rw[Zab];have:=hl.t;omega
 ·have:=Zoc l d;have:=hl.n;omega
def Ju (t:Int)(m:Zc):Zi:=⟨m.owner,t,m.bal⟩
def duN (q:Zd)(cs:List Zc)(t:Int)(ds:List Zi):Nat→List Zi
 | 0=>ds
 | k+1=>if ejP q (gr ZQ cs k) then JQ (duN q cs t ds k) (Ju t (gr ZQ cs k)) else duN q cs t ds k
def Yrv (l:List Int)(k:Nat):List Int:=l.filter fun x=>decide (x≠(k:Int))
def exN (q:Zd)(cs:List Zc)(xs:List Int):Nat→List Int
 | 0=>xs
 | k+1=>if ejP q (gr ZQ cs k) then Yrv (exN q cs xs k) k else exN q cs xs k
def ouN (q:Zd)(cs:List Zc):Nat→List Int
 | 0=>[]
 | k+1=>if ejP q (gr ZQ cs k) then ouN q cs k++[(k:Int)] else ouN q cs k
theorem Zxk (l:List Int)(k:Nat):(Yrv l k).length≤l.length:=List.length_filter_le _ _
theorem Zfk (q:Zd)(cs:List Zc)(xs:List Int):∀k,(exN q cs xs k).length≤xs.length
 | 0=>Nat.le_refl _
 | k+1=>by
  have h1:=Zfk q cs xs k;have h2:=Zxk (exN q cs xs k) k;rw[exN];split<;>omega
theorem Zgr (q:Zd)(cs:List Zc):∀k,(ouN q cs k).length≤k
 | 0=>Nat.le_refl _
 | k+1=>by
  have h1:=Zgr q cs k;rw[ouN];split
  ·rw[List.length_append];simp;omega
  ·omega
def flt (l:List Int)(k:Int):List Int:=l.filter fun x=>decide (x≠k)
theorem Znw {xs:List Int}{k:Int}{j:Nat}(hj:j<xs.length):flt (xs.take (j+1)) k=flt (xs.take j) k++(if at0 xs j≠k then [at0 xs j] else []):=by
 rw[List.take_succ_eq_append_getElem hj,flt,List.filter_append,← Ye hj,flt];by_cases c:xs[j]=k
 ·simp [c]
 ·simp [c]
theorem Znz {xs:List Int}{k:Int}(h:∀j,j<xs.length→at0 xs j≠k):flt xs k=xs:=by
 rw[flt,List.filter_eq_self];intro x hx;obtain⟨j,hj,rfl⟩:=List.mem_iff_getElem.1 hx;have:=h j hj;rw[← Ye hj]at this
 simpa using this
theorem Yas {xs:List Int}{k:Int}:∀ {i:Nat},i≤xs.length→(∀j,j<i→at0 xs j≠k)→flt (xs.take i) k=xs.take i
 | i,hi,h=>Znz fun j hj=>by
  have hj2:j<i:=by simp only[List.length_take]at hj;omega
  rw[Zgx,if_pos hj2];exact h j hj2
theorem Zyb (xs:List Int)(k:Int):(flt xs k).length≤xs.length:=List.length_filter_le _ _
theorem Zgl {cs:List Int}{i:Nat}{v:Int}(hi:i<cs.length):(cs.set i v).take (i+1)=cs.take i++[v]:=by
 rw[List.take_succ_eq_append_getElem (by simpa using hi),List.getElem_set_self,List.take_set_of_le (Nat.le_refl i)]
theorem Ylq {l:List Zi}{d:Zi}{i:Nat}(hi:i<l.length)(h1:Zda d (gr ZV l i)=true)(h2:∀j,j<i→Zda d (gr ZV l j)=false):Zkp l d=i:=by
 rw[Zkp,List.findIdx_eq hi];refine⟨by rw[← Z9 (z:=ZV) hi];exact h1,fun j hj=>?_⟩;rw[← Z9 (z:=ZV) (by omega)];exact h2 j hj
theorem Ykm {l:List Zi}{d:Zi}(h2:∀j,j<l.length→Zda d (gr ZV l j)=false):¬Zkp l d<l.length:=by
 have:Zkp l d=l.length:=by
  rw[Zkp,List.findIdx_eq_length];intro x hx;obtain⟨j,hj,rfl⟩:=List.mem_iff_getElem.1 hx;rw[← Z9 (z:=ZV) hj];exact h2 j hj
 omega
def Zqo (l:List Zi)(i:Nat)(d:Zi):List Zi:=l.take i++d::l.drop i
theorem VZ (n lo hi:Int)(hk:K (.bool (wi n lo hi)) L h):Zb prog 119 [.int .i64 n,.int .i64 lo,.int .i64 hi] L h K:=by
 unfold wi at hk;refine ZS func119 rfl (rs:=[_]) rfl rfl ZX (by kernel_rfl) rfl rfl ?_;refine xx ?_;by_cases c:lo≤n
 ·refine xx ?_;exact ZP (by simpa [c] using hk)
 ·refine xx ?_;exact ZP (by simpa [c] using hk)
theorem Jr (n lo hi:Int)(hk:K (.bool (wi n lo hi)) L h):Zb prog 256 [.int .i64 n,.int .i64 lo,.int .i64 hi] L h K:=by
 unfold wi at hk;refine ZS func256 rfl (rs:=[_]) rfl rfl ZX (by kernel_rfl) rfl rfl ?_;refine xx ?_;by_cases c:lo≤n
 ·refine xx ?_;exact ZP (by simpa [c] using hk)
 ·refine xx ?_;exact ZP (by simpa [c] using hk)
def fI (zs:List Int)(x:Int):Int:=if Wr (fun k=>decide (at0 zs k=x)) zs.length 0=zs.length then -1 else (Wr (fun k=>decide (at0 zs k=x)) zs.length 0:Nat)
theorem Zpb (zs:List Int)(x:Int):0≤fI zs x↔x∈zs:=by
 obtain⟨_,h2,h3,h4⟩:=W9 (fun k=>decide (at0 zs k=x)) zs.length 0;unfold fI
 constructor
 ·intro h;split at h
  ·omega
  ·rename_i c;have:=h4 (by omega);simp only[decide_eq_true_eq]at this;rw[← this,← Ye (by omega)];exact List.getElem_mem _
 ·intro h;obtain⟨j,hj,e⟩:=List.mem_iff_getElem.1 h;rw[if_neg]
  ·omega
  ·intro c;have:=h3 j (by omega) (by omega);rw[Ye hj]at e;simp [e]at this
theorem Yxe {zs:List Int}{x:Int}{k:Nat}(h1:k<zs.length)(h2:∀j,j<k→at0 zs j≠x)(h3:at0 zs k=x):fI zs x=k:=by
 have:Wr (fun k=>decide (at0 zs k=x)) zs.length 0=k:=WW (Nat.zero_le _) (by omega) (fun i _ hi=>decide_eq_false (h2 i hi)) (fun _=>decide_eq_true h3);unfold fI;rw[this,if_neg (by omega)]
theorem Yka {zs:List Int}{x:Int}(h2:∀j,j<zs.length→at0 zs j≠x):fI zs x = -1:=by
 have:Wr (fun k=>decide (at0 zs k=x)) zs.length 0=zs.length:=WW (Nat.zero_le _) (by omega) (fun i _ hi=>decide_eq_false (h2 i hi)) (fun h=>by omega);unfold fI;rw[if_pos this]
theorem Zem {zs:List Int}(v:Value)(x:Int)(hz:Ints h .i64 v zs)(hk:K (.int .i64 (fI zs x)) L h):Zb prog 257 [v,.int .i64 x] L h K:=by
 have hn:=hz.num;obtain⟨a,c,rfl,hcap,hl,_,hcs⟩:=hz.open;refine ZS func257 rfl (rs:=[_]) rfl rfl ZX (by kernel_rfl) rfl rfl ?_;refine xx ?_;refine Wd (0:Nat) (fun k=>k≤zs.length∧∀j,j<k→at0 zs j≠x) (fun k=>[(5,.int .i64 k),(0,.slice a zs.length c),(1,.int .i64 x)]) (fun k=>zs.length-k) ?_ ?_ ?_
 ·exact⟨Nat.zero_le _,fun j hj=>by omega⟩
 ·simp [Ent,List.lookup,Y3]
 rintro k ⟨k1,k2⟩;by_cases c1:k<zs.length
 ·by_cases c2:at0 zs k=x
  ·simp -dsimp -implicitDefEqProofs (disch:=first|with_reducible assumption|omega) [go_sem,idx hcs];rw[Yxe c1 k2 c2]at hk;exact ZP hk
  ·simp -dsimp -implicitDefEqProofs (disch:=first|with_reducible assumption|omega) [go_sem,idx hcs];refine⟨k+1,⟨by omega,fun j hj=>?_⟩,by omega,by simp [Ent,List.lookup],Za.refl _ _⟩;by_cases e:j=k
   ·subst e;exact c2
   ·exact k2 j (by omega)
 ·refine xx ?_;rw[Yka (fun j hj=>k2 j (by omega))]at hk;exact ZP hk
theorem Ur {bs:List Int}(v:Value)(hb:Ints h .u8 v bs)(hk:K (.bool (Jz bs 128)) L h):Zb prog 122 [v] L h K:=by
 have hb':=hb;obtain⟨a,c,rfl,_⟩:=hb.open;rw[Zcq bs 128 hb'.byte]at hk;refine ZS func122 rfl (rs:=[_]) rfl rfl ZX (by kernel_rfl) rfl rfl ?_;refine xx ?_;refine Zfc _ 128 hb' (by decide) (by decide) ?_;refine xx ?_;exact ZP hk
theorem Yag (d:Zk)(ok:ZI d)(hk:∀a n c,K (.tuple #[.slice a n c,.int .i64 (if Zbk d then 0 else 2)]) L h):Zb prog 258 [.slice none 0 0,depV d] L h K:=by
 have ua:=ok.a;have no:Zbk d=false→K (.tuple #[.slice none 0 0,.int .i64 2]) L h:=fun e=>by have:=hk none 0 0;rwa [e]at this
 refine ZS func258 rfl (rs:=[_,_]) rfl rfl ZX (by kernel_rfl) rfl rfl ?_;refine xx ?_;refine Z0 fun b1 nb1 zb1=>?_;(try simp only[ZT]at nb1);refine xx ?_;by_cases c1:d.acct<0
 ·have:=no (by simp [Zbk,wi];omega);refine xx ?_;exact ZO (ZP this)
 by_cases c2:63<d.acct
 ·have:=no (by simp [Zbk,wi];omega);refine xx ?_;exact ZO (ZP this)
 by_cases c3:d.mem<0
 ·have:=no (by simp [Zbk,wi];omega);refine xx ?_;exact ZO (ZP this)
 by_cases c4:127<d.mem
 ·have:=no (by simp [Zbk,wi];omega);refine xx ?_;exact ZO (ZP this)
 by_cases c5:d.amt=0
 ·have:=no (by simp [Zbk,wi];omega)
  cases c6:d.new with
  | true =>
   by_cases c7:0<d.mem
   ·refine xx ?_;exact ZO (ZP this)
   ·refine xx ?_;exact ZO (ZP this)
  | false =>
   refine xx ?_;exact ZO (ZP this)
 by_cases c8:4611686018427387904<d.amt
 ·have:=no (by simp [Zbk,wi];omega)
  cases c6:d.new with
  | true =>
   by_cases c7:0<d.mem
   ·refine xx ?_;exact ZO (ZP this)
   ·refine xx ?_;exact ZO (ZP this)
  | false =>
   refine xx ?_;exact ZO (ZP this)
 cases c6:d.new with
 | true =>
  by_cases c7:0<d.mem
  ·have:=no (by simp [Zbk,wi,c6];omega);refine xx ?_;exact ZO (ZP this)
  ·have yes:Zbk d=true:=by simp [Zbk,wi,c6];omega
   rw[yes]at hk;refine xx ?_;refine Z3 (t:=41) (e:=233) (sz:=4) (bytes:=32) (by kernel_rfl) Zep rfl rfl rfl rfl (by decide) [] _ none 0 [] rfl rfl (.inl ⟨rfl,rfl,rfl⟩) (m:=0) (news:=[]) rfl (fun u hu=>by cases hu) (by decide) (by decide) ?_;intro o1 i1 i2 i3;have:o1=none:=i3.2 ⟨rfl,rfl⟩;subst this;simp -dsimp -implicitDefEqProofs (disch:=first|with_reducible assumption|omega) [go_sem,ovs,oent];refine Z0 fun b2 nb2 zb2=>?_;(try simp only[ZT]at nb2);simp -dsimp -implicitDefEqProofs (disch:=first|with_reducible assumption|omega) [go_sem,c6];refine Z3 (t:=41) (e:=233) (sz:=4) (bytes:=32) (by kernel_rfl) Zep rfl rfl rfl rfl (by decide) [_] _ none 0 [] rfl rfl (Src.own (b:=b2) List.mem_cons_self) (m:=1) (news:=[.int .i64 d.acct,.int .i64 d.mem,.int .u64 d.amt,.bool true]) rfl (by intro u hu;simp only[List.mem_cons,List.not_mem_nil,or_false]at hu;rcases hu with rfl|rfl|rfl|rfl<;>rfl) (by decide) (by decide) ?_;intro o' j1 j2 j3;have ho:=Yg j1;obtain⟨a',c',e',_⟩:=ho;rw[e'];refine xx ?_;exact ZO (Wt (ZO (ZP (hk _ _ _))))
 | false =>
  have yes:Zbk d=true:=by simp [Zbk,wi,c6];omega
  rw[yes]at hk;refine xx ?_;refine Z3 (t:=41) (e:=233) (sz:=4) (bytes:=32) (by kernel_rfl) Zep rfl rfl rfl rfl (by decide) [] _ none 0 [] rfl rfl (.inl ⟨rfl,rfl,rfl⟩) (m:=0) (news:=[]) rfl (fun u hu=>by cases hu) (by decide) (by decide) ?_;intro o1 i1 i2 i3;have:o1=none:=i3.2 ⟨rfl,rfl⟩;subst this;simp -dsimp -implicitDefEqProofs (disch:=first|with_reducible assumption|omega) [go_sem,ovs,oent];refine Z0 fun b2 nb2 zb2=>?_;(try simp only[ZT]at nb2);simp -dsimp -implicitDefEqProofs (disch:=first|with_reducible assumption|omega) [go_sem,c6];refine Z3 (t:=41) (e:=233) (sz:=4) (bytes:=32) (by kernel_rfl) Zep rfl rfl rfl rfl (by decide) [_] _ none 0 [] rfl rfl (Src.own (b:=b2) List.mem_cons_self) (m:=1) (news:=[.int .i64 d.acct,.int .i64 d.mem,.int .u64 d.amt,.bool false]) rfl (by intro u hu;simp only[List.mem_cons,List.not_mem_nil,or_false]at hu;rcases hu with rfl|rfl|rfl|rfl<;>rfl) (by decide) (by decide) ?_;intro o' j1 j2 j3;have ho:=Yg j1;obtain⟨a',c',e',_⟩:=ho;rw[e'];refine xx ?_;exact ZO (Wt (ZO (ZP (hk _ _ _))))
theorem Ypf (p q:Zd)(x y:Operand)(K:Value→Prop)(t:Zm K):VN prog .eql 39 x y (WR p) (WR q) K t=K (.bool (decide (p=q))):=by
 rw[← Ygx];exact UF (T:=39) (ks:=Ytf) (by kernel_rfl) (by kernel_rfl) (by kernel_rfl) (by kernel_rfl) (Ys p++Yo p) (Ys q++Yo q) rfl rfl x y K t
theorem Zsx (m:Zl)(y n:Value)(hy0:Ints h .u8 y m.yes)(hn0:Ints h .u8 n m.no)(ok:Wfw m)(hk:∀h',PH.le h h'→K (.bool (WF m)) L h'):Zb prog 121 [motV m y n] L h K:=by
 have hy:=hy0;have hn:=hn0;obtain⟨ya,yc,rfl,_⟩:=hy.open;obtain⟨na,nc,rfl,_⟩:=hn.open;have ua:=ok.a;unfold WF at hk;have hk0:=hk h (PH.le_refl h);refine ZS func121 rfl (rs:=[_]) rfl rfl ZX (by kernel_rfl) rfl rfl ?_;refine xx ?_;refine Z0 fun b1 nb1 zb1=>?_;(try simp only[ZT]at nb1);refine xx ?_;refine Jr _ _ _ ?_
 cases q1:wi m.acct 0 63 with
 | false =>
  rw[show YJ m=false by simp [YJ,q1]]at hk0;refine xx ?_;exact ZO (ZP (by simpa using hk0))
 | true =>
 refine xx ?_;refine Jr _ _ _ ?_
 cases q2:wi m.to 0 63 with
 | false =>
  rw[show YJ m=false by simp [YJ,q2]]at hk0;refine xx ?_;exact ZO (ZP (by simpa using hk0))
 | true =>
 refine xx ?_;refine Jr _ _ _ ?_
 cases q3:wi m.what 1 4 with
 | false =>
  rw[show YJ m=false by simp [YJ,q3]]at hk0;refine xx ?_;exact ZO (ZP (by simpa using hk0))
 | true =>
 refine xx ?_;refine Jr _ _ _ ?_
 cases q4:wi m.state 1 4 with
 | false =>
  rw[show YJ m=false by simp [YJ,q4]]at hk0;refine xx ?_;exact ZO (ZP (by simpa using hk0))
 | true =>
 rw[show YJ m=true by simp [YJ,q1,q2,q3,q4]]at hk0;refine xx ?_;refine Jr _ _ _ ?_
 cases q5:wi m.ends 0 2147483647 with
 | false =>
  rw[show Ww m=false by simp [Ww,q5]]at hk0;refine xx ?_;exact ZO (ZP (by simpa using hk0))
 | true =>
 refine xx ?_;refine Jr _ _ _ ?_
 cases q6:wi m.due 0 2147483647 with
 | false =>
  rw[show Ww m=false by simp [Ww,q6]]at hk0;refine xx ?_;exact ZO (ZP (by simpa using hk0))
 | true =>
 by_cases q7:4611686018427387904<m.amt
 ·rw[show Ww m=false by simp [Ww];omega]at hk0;refine xx ?_;exact ZO (ZP (by simpa using hk0))
 ·rw[show Ww m=true by simp [Ww,q5,q6];omega]at hk0;refine xx ?_;refine Ur _ hy0 ?_
  cases q8:Jz m.yes 128 with
  | false =>
   rw[q8]at hk0;refine xx ?_;exact ZO (ZP (by simpa using hk0))
  | true =>
  rw[q8]at hk0;refine xx ?_;refine Ur _ hn0 ?_
  cases q9:Jz m.no 128 with
  | false =>
   rw[q9]at hk0;refine xx ?_;exact ZO (ZP (by simpa using hk0))
  | true =>
  rw[q9]at hk0;have q10:YJ m=true:=by simp [YJ,q1,q2,q3,q4]
  have q11:Ww m=true:=by simp [Ww,q5,q6];omega
  by_cases c:m.what=1
  ·refine xx ?_;refine Zef m.par ok.p fun h' le=>?_;have hk1:=hk h' le;rw[q8,q9,if_pos c,q10,q11]at hk1;refine xx ?_;exact ZO (ZP (by simpa using hk1))
  ·rw[if_neg c]at hk0;refine xx ?_;refine(Ypf m.par Zgv _ _ _ _).mpr ?_;refine xx ?_;exact ZO (ZP (by simpa using hk0))
theorem Zjw {s:Ze}(v:SV)(hs:Zo h v s)(few:Zv s){l:List Int}(lv:Value)(hlv:Ints h .i64 lv l)(st:Int)(hst : -9223372036854775808≤st∧st≤9223372036854775807)(hk:K (.bool (Zdz s l st)) L h):Zb prog 123 [stV s v,lv,.int .i64 st] L h K:=by
 obtain⟨pa,pc,ma,mc,ea,ec,xa,xc,oa,oc,da,dc,ta,tc,ka,kc,ra,rc,rfl⟩:=hs.slices;have hm:Zh Ym 6 h (.slice ma s.members.length mc) s.members:=hs.m;have fm:=few.m;have hn:=hlv.num;have hlv0:=hlv;obtain⟨la,lc,rfl,hlc,hll,_,hcs⟩:=hlv.open;refine ZS func123 rfl (rs:=[_]) rfl rfl ZX (by kernel_rfl) rfl rfl ?_;refine xx ?_;refine Z0 fun b1 nb1 zb1=>?_;(try simp only[ZT]at nb1);refine xx ?_;refine Yu (0:Nat) (fun k=>k≤l.length∧∀j,j<k→Zbj s l st j=true) (fun k=>[(7,.int .i64 k),(1,.slice la l.length lc),(2,.int .i64 st),(3,.pointer (some ⟨b1,0,none⟩))]) (fun _=>⟨b1,45,stC s ⟨.slice pa s.purses.length pc,.slice ma s.members.length mc,.slice ea s.entry.length ec,.slice xa s.exit.length xc,.slice oa s.pool.length oc,.slice da s.dues.length dc,.slice ta s.motions.length tc,.slice ka s.marks.length kc,.slice ra s.ring.length rc⟩,41⟩::L) (fun _=>h) (fun k=>l.length-k) ?_ ?_ ?_ ?_
 ·exact⟨Nat.zero_le _,fun j hj=>by omega⟩
 ·simp [Ent,List.lookup,Y3]
 ·exact Za.refl _ _
 rintro k ⟨k1,k2⟩;by_cases c1:k<l.length
 ·have hnk:=hn k;refine xx ?_;refine Uh (by kernel_rfl) rfl ?_;simp -dsimp -implicitDefEqProofs (disch:=first|with_reducible assumption|omega) [go_sem,idx hcs];refine VE _ (VZ _ _ _ ⟨rfl,rfl,rfl⟩) ?_
  cases q1:wi (at0 l k) 0 ((s.members.length:Int)-1) with
  | false =>
   rw[Znb c1 (by simp only[Zbj,q1,Bool.false_and])]at hk;refine xx ?_;exact ZO (ZP hk)
  | true =>
  have q1':=wi_iff.1 q1;simp -dsimp -implicitDefEqProofs (disch:=first|with_reducible assumption|omega) [go_sem,idx hcs,↓WQ ZQ (by decide) hm];refine(Zh.fld ZQ hm (j:=(at0 l k).toNat) (o:=5) (by omega) (u:=.int .i64 (gr ZQ s.members (at0 l k).toNat).status) rfl _ _ _).mpr ?_;by_cases c2:(gr ZQ s.members (at0 l k).toNat).status=st
  ·simp -dsimp -implicitDefEqProofs (disch:=first|with_reducible assumption|omega) [go_sem,idx hcs];refine VE _ (Zem (zs:=l.take k) _ (at0 l k) (hlv0.take k (by omega)) ⟨rfl,rfl,rfl⟩) ?_;have hf:=Zpb (l.take k) (at0 l k);by_cases c3:0≤fI (l.take k) (at0 l k)
   ·rw[Znb c1 (by simp only[Zbj,decide_eq_true (hf.1 c3),Bool.not_true,Bool.and_false])]at hk;refine xx ?_;exact ZO (ZP hk)
   ·refine xx ?_;refine⟨k+1,⟨by omega,fun j hj=>?_⟩,by omega,by simp [Ent,List.lookup],Za.refl _ _⟩;by_cases e:j=k
    ·subst e;simp only[Zbj,q1,decide_eq_true c2,decide_eq_false (fun h=>c3 (hf.2 h)),Bool.not_false,Bool.and_self]
    ·exact k2 j (by omega)
  ·rw[Znb c1 (by simp only[Zbj,decide_eq_false c2,Bool.false_and,Bool.and_false])]at hk;refine xx ?_;exact ZO (ZP hk)
 ·have hkl:k=l.length:=by omega
  subst hkl;refine xx ?_;refine Yu (0:Nat) (fun k=>k≤s.members.length∧∀j,j<k→(gr ZQ s.members j).status=st→(j:Int)∈l) (fun k=>[(8,.int .i64 k),(1,.slice la l.length lc),(2,.int .i64 st),(3,.pointer (some ⟨b1,0,none⟩))]) (fun _=>⟨b1,45,stC s ⟨.slice pa s.purses.length pc,.slice ma s.members.length mc,.slice ea s.entry.length ec,.slice xa s.exit.length xc,.slice oa s.pool.length oc,.slice da s.dues.length dc,.slice ta s.motions.length tc,.slice ka s.marks.length kc,.slice ra s.ring.length rc⟩,41⟩::L) (fun _=>h) (fun k=>s.members.length-k) ?_ ?_ ?_ ?_
  ·exact⟨Nat.zero_le _,fun j hj=>by omega⟩
  ·simp [Ent,List.lookup,Y3]
  ·exact Za.refl _ _
  rintro k ⟨m1,m2⟩;by_cases c1:k<s.members.length
  ·simp -dsimp -implicitDefEqProofs (disch:=first|with_reducible assumption|omega) [go_sem,↓WQ ZQ (by decide) hm];refine(Zh.fld ZQ hm (j:=k) (o:=5) c1 (u:=.int .i64 (gr ZQ s.members k).status) rfl _ _ _).mpr ?_;by_cases c2:(gr ZQ s.members k).status=st
   ·refine xx ?_;refine Zem _ k hlv0 ?_;have hf:=Zpb l k;by_cases c3:fI l k<0
    ·have:Zdz s l st=false:=by
      cases hc:Zdz s l st with
      | false=>rfl
      | true=>exact absurd ((row_iff.1 hc).2 k c1 c2) (fun h=>by have:=hf.2 h;omega)
     rw[this]at hk;refine xx ?_;exact ZO (ZP hk)
    ·refine xx ?_;refine⟨k+1,⟨by omega,fun j hj=>?_⟩,by omega,by simp [Ent,List.lookup],Za.refl _ _⟩;by_cases e:j=k
     ·subst e;exact fun _=>hf.1 (by omega)
     ·exact m2 j (by omega)
   ·refine xx ?_;refine⟨k+1,⟨by omega,fun j hj=>?_⟩,by omega,by simp [Ent,List.lookup],Za.refl _ _⟩;by_cases e:j=k
    ·subst e;exact fun h=>absurd h c2
    ·exact m2 j (by omega)
  ·have:Zdz s l st=true:=row_iff.2 ⟨k2,fun j hj=>m2 j (by omega)⟩;rw[this]at hk;refine xx ?_;exact ZO (ZP hk)
end Go.X

/- Lemmas and contracts. Conditions: as each says. -/
import Derived.Test.YtpdidilobgimcaaGreatQ18
import Derived.Test.YtpdidilobgimcaaGreatQ23
set_option linter.unusedVariables false
set_option linter.unusedSimpArgs false
set_option maxHeartbeats 12800000
set_option maxRecDepth 20000
namespace Go.X
open Go.RowKit Go.Proofs Go.Bl Go.Proofs.Tryz
variable {L:Own} {h:PH} {K:PK}
structure ZG (ms:List Zc)(ps:List Int):Prop where
 m:∀x∈ms,Zh x
 o:∀x∈ms,0≤x.owner∧x.owner<ps.length
 p:∀i,0≤at0 ps i
 t:tot ps+tot (ms.map Zc.bal)≤4611686018427387904
theorem Yz {α:Type}{z:α}{l:List α}{k:Nat}(hk:k<l.length):gr z l k∈l:=by
 rw[Z7 hk];exact List.getElem_mem hk
theorem Vk {ms:List Zc}{k:Nat}(hk:k<ms.length):at0 (ms.map Zc.bal) k=(gr ZR ms k).bal:=by
 rw[Z7 hk,← Yf (by simpa using hk),List.getElem_map]
theorem Va {ms:List Zc}(hm:∀x∈ms,Zh x)(i:Nat):0≤at0 (ms.map Zc.bal) i :=
 UJ Zc.bal ms (fun x hx=>((hm x hx).u x.bal (by simp)).1) i
def UR (q:Zd)(x:List Zc×List Int)(k:Nat):List Zc×List Int :=
 (x.1.set k (Ue q (gr ZR x.1 k)),x.2.set (gr ZR x.1 k).owner.toNat (at0 x.2 (gr ZR x.1 k).owner.toNat+((gr ZR x.1 k).bal-min (gr ZR x.1 k).bal q.cap)))
def clN (q:Zd)(x:List Zc×List Int):Nat→List Zc×List Int
 | 0=>x
 | k+1=>UR q (clN q x k) k
theorem Yai {q:Zd}(ok:Zj q){m:Zc}(hm:Zh m):Zh (Ue q m):=by
 have u1:=hm.u m.bal (by simp);have u2:=hm.u m.eff (by simp);have u3:=hm.u m.score (by simp);have n1:=hm.n m.streak (by simp);have n2:=hm.n m.owner (by simp);have n3:=hm.n m.status (by simp);have c1:=ok.w q.cap (by simp [Yy]);have c2:=ok.w q.scoreCap (by simp [Yy]);have c3:=ok.n q.streak (by simp [Yo])
 constructor
 ·intro z hz;simp only[Ue,Gh,List.mem_cons,List.not_mem_nil,or_false]at hz;rcases hz with rfl|rfl|rfl<;>omega
 ·intro z hz;simp only[Ue,Gh,List.mem_cons,List.not_mem_nil,or_false]at hz;rcases hz with rfl|rfl|rfl<;>omega
theorem Zqp (q:Zd)(x:List Zc×List Int)(k:Nat):(UR q x k).1.length=x.1.length∧(UR q x k).2.length=x.2.length:=by
 simp [UR]
theorem UH (q:Zd)(x:List Zc×List Int):∀k,(clN q x k).1.length=x.1.length∧(clN q x k).2.length=x.2.length
 | 0=>⟨rfl,rfl⟩
 | k+1=>by
  have h1:=UH q x k;have h2:=Zqp q (clN q x k) k;exact⟨h2.1.trans h1.1,h2.2.trans h1.2⟩
theorem Zyy {q:Zd}(ok:Zj q){x:List Zc×List Int}(hx:ZG x.1 x.2){k:Nat}(hk:k<x.1.length):ZG (UR q x k).1 (UR q x k).2:=by
 obtain⟨m,hm⟩:∃m,m=gr ZR x.1 k:=⟨_,rfl⟩
 have hmem:m∈x.1:=hm ▸ Yz hk;have ho:=hx.o m hmem;have ub:=(hx.m m hmem).u m.bal (by simp);have hc:=ok.w q.cap (by simp [Yy]);have hb:at0 (x.1.map Zc.bal) k=m.bal:=hm ▸ Vk hk;have hj:m.owner.toNat<x.2.length:=by omega
 rw[UR,← hm];refine⟨fun y hy=>?_,fun y hy=>?_,fun i=>?_,?_⟩
 ·rcases List.mem_or_eq_of_mem_set hy with hy|rfl
  ·exact hx.m y hy
  ·exact Yai ok (hx.m m hmem)
 ·simp only[List.length_set];rcases List.mem_or_eq_of_mem_set hy with hy|rfl
  ·exact hx.o y hy
  ·exact ho
 ·have h0:=hx.p i;have h1:=hx.p m.owner.toNat;simp only;rw[Vc _ _ _ _ hj];split<;>omega
 ·have h0:=hx.t;simp only;rw[List.map_set,JQ hj,JQ (by simpa using hk),hb];have:(Ue q m).bal=min m.bal q.cap:=rfl;rw[this];omega
theorem Zot {q:Zd}(ok:Zj q){x:List Zc×List Int}(hx:ZG x.1 x.2):∀k,k≤x.1.length→ZG (clN q x k).1 (clN q x k).2
 | 0,_=>hx
 | k+1,hk=>Zyy ok (Zot ok hx k (by omega)) (by rw[(UH q x k).1];omega)
theorem Zti {q:Zd}(ok:Zj q){x:List Zc×List Int}(hx:ZG x.1 x.2){k:Nat}(hk:k<x.1.length):tot (UR q x k).2+tot ((UR q x k).1.map Zc.bal)=tot x.2+tot (x.1.map Zc.bal):=by
 obtain⟨m,hm⟩:∃m,m=gr ZR x.1 k:=⟨_,rfl⟩
 have hmem:m∈x.1:=hm ▸ Yz hk;have ho:=hx.o m hmem;have hb:at0 (x.1.map Zc.bal) k=m.bal:=hm ▸ Vk hk;have hj:m.owner.toNat<x.2.length:=by omega
 rw[UR,← hm];simp only;rw[List.map_set,JQ hj,JQ (by simpa using hk),hb];have:(Ue q m).bal=min m.bal q.cap:=rfl;rw[this];omega
theorem Zws {q:Zd}(ok:Zj q){x:List Zc×List Int}(hx:ZG x.1 x.2):∀k,k≤x.1.length→tot (clN q x k).2+tot ((clN q x k).1.map Zc.bal)=tot x.2+tot (x.1.map Zc.bal)
 | 0,_=>rfl
 | k+1,hk=>(Zti ok (Zot ok hx k (by omega)) (by rw[(UH q x k).1];omega)).trans (Zws ok hx k (by omega))
theorem Ymb {q:Zd}(ok:Zj q){x:List Zc×List Int}(hx:ZG x.1 x.2){k:Nat}(hk:k<x.1.length):at0 x.2 (gr ZR x.1 k).owner.toNat+((gr ZR x.1 k).bal-min (gr ZR x.1 k).bal q.cap)≤4611686018427387904:=by
 have h1:=Yv hx.p (gr ZR x.1 k).owner.toNat;have h2:=Yv (Va hx.m) k;rw[Vk hk]at h2;have h3:=hx.t;have ub:=(hx.m _ (Yz (z:=ZR) hk)).u (gr ZR x.1 k).bal (by simp);have hc:=ok.w q.cap (by simp [Yy]);omega
abbrev GA (m:Zc):Prop:=m.status=2∨m.status=3
def upN (f:Zc→Zc)(l:List Zc):Nat→List Zc
 | 0=>l
 | k+1=>(upN f l k).set k (f (gr ZR l k))
theorem WD (f:Zc→Zc)(l:List Zc):∀k,(upN f l k).length=l.length
 | 0=>rfl
 | k+1=>by rw[upN,List.length_set];exact WD f l k
theorem U9 (f:Zc→Zc)(l:List Zc):∀k,k≤l.length→∀j,gr ZR (upN f l k) j=if j<k then f (gr ZR l j) else gr ZR l j
 | 0,_,j=>by simp [upN]
 | k+1,hk,j=>by
  have ih:=U9 f l k (by omega) j;have hl:=WD f l k;have hl1:=WD f l (k+1);by_cases e:j=k
  ·subst e;rw[Z7 (by omega),if_pos (by omega)];simp only[upN,List.getElem_set_self]
  ·by_cases hj:j<l.length
   ·rw[Z7 (by omega)]at ih ⊢;simp only[upN];rw[List.getElem_set_ne (Ne.symm e),ih];by_cases c:j<k
    ·rw[if_pos c,if_pos (by omega)]
    ·rw[if_neg c,if_neg (by omega)]
   ·have h1:gr ZR (upN f l (k+1)) j=gr ZR l j:=by
     unfold gr;rw[List.getD_eq_getElem?_getD,List.getD_eq_getElem?_getD,List.getElem?_eq_none (by omega),List.getElem?_eq_none (by omega)]
    rw[h1,if_neg (by omega)]
theorem GY (f:Zc→Zc)(l:List Zc){k:Nat}(hk:k<l.length):gr ZR (upN f l k) k=gr ZR l k:=by
 rw[U9 f l k (by omega),if_neg (by omega)]
theorem Zod (f:Zc→Zc)(l:List Zc){k:Nat}(hk:k<l.length)(hf:f (gr ZR l k)=gr ZR l k):upN f l (k+1)=upN f l k:=by
 have hl:=WD f l k;have h1:=GY f l hk;rw[Z7 (by omega)]at h1;rw[upN,hf,← h1,List.set_getElem_self]
theorem Zgr (f:Zc→Zc)(l:List Zc):upN f l l.length=l.map f:=by
 refine List.ext_getElem (by rw[WD,List.length_map]) fun j h1 h2=>?_;have hj:j<l.length:=by rwa [WD]at h1
 rw[← Z7 (z:=ZR) h1,U9 f l _ (Nat.le_refl _),if_pos hj,Z7 hj,List.getElem_map]
theorem Zhr {f:Zc→Zc}{l:List Zc}(P:Zc→Prop)(hf:∀x,P x→P (f x))(hl:∀x∈l,P x):∀k,k≤l.length→∀x∈upN f l k,P x
 | 0,_=>hl
 | k+1,hk=>fun x hx=>by
  rw[upN]at hx;rcases List.mem_or_eq_of_mem_set hx with hx|rfl
  ·exact Zhr P hf hl k (by omega) x hx
  ·exact hf _ (hl _ (Yz (by omega)))
theorem Zyr (q:Zd)(x:List Zc×List Int):∀k,k≤x.1.length→(clN q x k).1=upN (Ue q) x.1 k
 | 0,_=>rfl
 | k+1,hk=>by
  have ih:=Zyr q x k (by omega);show (clN q x k).1.set k (Ue q (gr ZR (clN q x k).1 k))=_;rw[ih,GY _ _ (by omega)];rfl
def JI (q:Zd)(m:Zc):Zc:=if GA m then WC q m else m
abbrev ejP (q:Zd)(m:Zc):Prop:=GA m∧m.bal≤q.floor
def Ztx (m:Zc):Zc:=⟨0,0,m.score,0,m.owner,4⟩
def ejF (q:Zd)(m:Zc):Zc:=if ejP q m then Ztx m else m
theorem Zus {m:Zc}(hm:Zh m):Zh (Ztx m):=by
 have u3:=hm.u m.score (by simp);have n2:=hm.n m.owner (by simp)
 constructor
 ·intro z hz;simp only[Ztx,List.mem_cons,List.not_mem_nil,or_false]at hz;rcases hz with rfl|rfl|rfl<;>omega
 ·intro z hz;simp only[Ztx,List.mem_cons,List.not_mem_nil,or_false]at hz;rcases hz with rfl|rfl|rfl<;>omega
theorem Zro {q:Zd}(ok:Zj q)(hr:Yl q=true){m:Zc}(hm:Zh m):Zh (WC q m):=by
 have u1:=hm.u m.bal (by simp);have u2:=hm.u m.eff (by simp);have u3:=hm.u m.score (by simp);have n1:=hm.n m.streak (by simp);have n2:=hm.n m.owner (by simp);have n3:=hm.n m.status (by simp);have hw:=Gp (U7 hr) ok u1;have ue:0≤(WC q m).eff∧(WC q m).eff≤18446744073709551615:=by
  unfold WC;simp only;split
  ·unfold GR;split
   ·exact hw
   ·exact u2
  ·exact hw
 constructor
 ·intro z hz;simp only[List.mem_cons,List.not_mem_nil,or_false]at hz;rcases hz with rfl|rfl|rfl
  ·exact u1
  ·exact ue
  ·exact u3
 ·intro z hz;simp only[WC,List.mem_cons,List.not_mem_nil,or_false]at hz;rcases hz with rfl|rfl|rfl<;>omega
theorem Zkk {q:Zd}(ok:Zj q)(hr:Yl q=true){m:Zc}(hm:Zh m):Zh (JI q m):=by
 unfold JI;split
 ·exact Zro ok hr hm
 ·exact hm
theorem Zzn {q:Zd}{m:Zc}(hm:Zh m):Zh (ejF q m):=by
 unfold ejF;split
 ·exact Zus hm
 ·exact hm
theorem Zpa (zs:List Int):∀k,k≤zs.length→YL zs k=(zs.take k).sum
 | 0,_=>by simp [YL]
 | k+1,hk=>by
  rw[YL,Zpa zs k (by omega),List.take_succ_eq_append_getElem hk,List.sum_append,Yf hk];simp
theorem Zfw (zs:List Int):tot zs=zs.sum:=by
 rw[tot,Zpa zs _ (Nat.le_refl _),List.take_length]
def Zdo (d x:Zi):Bool:=decide (x.acct=d.acct)&&decide (x.at'=d.at')
def WN (l:List Zi)(t:Int):Nat→Nat
 | 0=>0
 | k+1=>if (gr ZW l k).at'≤t then k+1 else WN l t k
theorem Zbf (l:List Zi)(t:Int):∀k,WN l t k≤k
 | 0=>Nat.le_refl _
 | k+1=>by
  have:=Zbf l t k;rw[WN];split<;>omega
def Zkh (l:List Zi)(d:Zi):Nat:=l.findIdx (Zdo d)
def Ygp (x d:Zi):Zi:=⟨x.acct,x.at',x.amt+d.amt⟩
def Ztp (l:List Zi)(d:Zi):List Zi:=l.take (WN l d.at' l.length)++d::l.drop (WN l d.at' l.length)
def JZ (l:List Zi)(d:Zi):List Zi :=
 if d.amt=0 then l else if Zkh l d<l.length then l.set (Zkh l d) (Ygp (gr ZW l (Zkh l d)) d) else Ztp l d
def WA (l:List Zi):Int:=tot (l.map Zi.amt)
theorem Zop (l:List Zi):WA l=(l.map Zi.amt).sum:=Zfw _
theorem Ybs (l:List Zi)(d:Zi):WA (Ztp l d)=WA l+d.amt:=by
 rw[Zop,Zop,Ztp]
 conv=>rhs;rw[← List.take_append_drop (WN l d.at' l.length) l]
 rw[List.map_append,List.map_cons,List.map_append,List.sum_append,List.sum_append,List.sum_cons];omega
theorem Zly {l:List Zi}{k:Nat}(hk:k<l.length):at0 (l.map Zi.amt) k=(gr ZW l k).amt:=by
 rw[Z7 hk,← Yf (by simpa using hk),List.getElem_map]
theorem Zad (l:List Zi)(d:Zi):WA (JZ l d)=WA l+d.amt:=by
 unfold JZ;split
 ·omega
 ·split
  ·rename_i h1;rw[WA,List.map_set,JQ (by simpa using h1),Zly h1];simp only[Ygp,WA];omega
  ·exact Ybs l d
theorem Znw (l:List Zi)(d:Zi):(JZ l d).length≤l.length+1:=by
 unfold JZ;split
 ·omega
 ·split
  ·simp
  ·have:=Zbf l d.at' l.length;simp only[Ztp,List.length_append,List.length_cons,List.length_take,List.length_drop];omega
theorem Zgb {l:List Zi}{d x:Zi}(hx:x∈JZ l d):x∈l∨x=d∨(Zkh l d<l.length∧x=Ygp (gr ZW l (Zkh l d)) d):=by
 unfold JZ at hx;split at hx
 ·exact .inl hx
 ·split at hx
  ·rename_i h1;rcases List.mem_or_eq_of_mem_set hx with hx|hx
   ·exact .inl hx
   ·exact .inr (.inr ⟨h1,hx⟩)
  ·simp only[Ztp,List.mem_append,List.mem_cons]at hx;rcases hx with hx|rfl|hx
   ·exact .inl (List.mem_of_mem_take hx)
   ·exact .inr (.inl rfl)
   ·exact .inl (List.mem_of_mem_drop hx)
structure Wgp (l:List Zi)(n:Nat)(M:Int):Prop where
 d:∀x∈l,Zr x
 t:WA l≤M
 n:l.length≤n
theorem Zfg {l:List Zi}(hl:∀x∈l,Zr x)(i:Nat):0≤at0 (l.map Zi.amt) i:=UJ Zi.amt l (fun x hx=>(hl x hx).a.1) i
theorem Yas {l:List Zi}(hl:∀x∈l,Zr x){k:Nat}(hk:k<l.length):(gr ZW l k).amt≤WA l:=by
 rw[← Zly hk];exact Yv (Zfg hl) k
theorem GI {l:List Zi}{k:Nat}(hk:k<l.length):gr ZW l k∈l:=Yz hk
theorem Znd {l:List Zi}{d:Zi}{n:Nat}{M:Int}(hl:Wgp l n M)(hd:Zr d)(hM:M+d.amt≤4611686018427387904):Wgp (JZ l d) (n+1) (M+d.amt):=by
 refine⟨fun x hx=>?_,?_,?_⟩
 ·rcases Zgb hx with hx|rfl | ⟨h1,rfl⟩
  ·exact hl.d x hx
  ·exact hd
  ·have h2:=hl.d _ (GI h1);have h3:=Yas hl.d h1;have h4:=hl.t;have h5:=hd.a;refine⟨?_,h2.n⟩;have:=h2.a;show 0≤(gr ZW l (Zkh l d)).amt+d.amt∧(gr ZW l (Zkh l d)).amt+d.amt≤18446744073709551615;omega
 ·rw[Zad];have:=hl.t;omega
 ·have:=Znw l d;have:=hl.n;omega
def Jz (t:Int)(m:Zc):Zi:=⟨m.owner,t,m.bal⟩
def duN (q:Zd)(cs:List Zc)(t:Int)(ds:List Zi):Nat→List Zi
 | 0=>ds
 | k+1=>if ejP q (gr ZR cs k) then JZ (duN q cs t ds k) (Jz t (gr ZR cs k)) else duN q cs t ds k
def Yyv (l:List Int)(k:Nat):List Int:=l.filter fun x=>decide (x≠(k:Int))
def exN (q:Zd)(cs:List Zc)(xs:List Int):Nat→List Int
 | 0=>xs
 | k+1=>if ejP q (gr ZR cs k) then Yyv (exN q cs xs k) k else exN q cs xs k
def ouN (q:Zd)(cs:List Zc):Nat→List Int
 | 0=>[]
 | k+1=>if ejP q (gr ZR cs k) then ouN q cs k++[(k:Int)] else ouN q cs k
theorem Zwp (l:List Int)(k:Nat):(Yyv l k).length≤l.length:=List.length_filter_le _ _
theorem Zgw (q:Zd)(cs:List Zc)(xs:List Int):∀k,(exN q cs xs k).length≤xs.length
 | 0=>Nat.le_refl _
 | k+1=>by
  have h1:=Zgw q cs xs k;have h2:=Zwp (exN q cs xs k) k;rw[exN];split<;>omega
theorem Zge (q:Zd)(cs:List Zc):∀k,(ouN q cs k).length≤k
 | 0=>Nat.le_refl _
 | k+1=>by
  have h1:=Zge q cs k;rw[ouN];split
  ·rw[List.length_append];simp;omega
  ·omega
def flt (l:List Int)(k:Int):List Int:=l.filter fun x=>decide (x≠k)
theorem Zpd {xs:List Int}{k:Int}{j:Nat}(hj:j<xs.length):flt (xs.take (j+1)) k=flt (xs.take j) k++(if at0 xs j≠k then [at0 xs j] else []):=by
 rw[List.take_succ_eq_append_getElem hj,flt,List.filter_append,← Yf hj,flt];by_cases c:xs[j]=k
 ·simp [c]
 ·simp [c]
theorem Zpe {xs:List Int}{k:Int}(h:∀j,j<xs.length→at0 xs j≠k):flt xs k=xs:=by
 rw[flt,List.filter_eq_self];intro x hx;obtain⟨j,hj,rfl⟩:=List.mem_iff_getElem.1 hx;have:=h j hj;rw[← Yf hj]at this
 simpa using this
theorem Zzu {xs:List Int}{k:Int}:∀ {i:Nat},i≤xs.length→(∀j,j<i→at0 xs j≠k)→flt (xs.take i) k=xs.take i
 | i,hi,h=>Zpe fun j hj=>by
  have hj2:j<i:=by simp only[List.length_take]at hj;omega
  rw[Zfe,if_pos hj2];exact h j hj2
theorem Zxc (xs:List Int)(k:Int):(flt xs k).length≤xs.length:=List.length_filter_le _ _
theorem Zfi {cs:List Int}{i:Nat}{v:Int}(hi:i<cs.length):(cs.set i v).take (i+1)=cs.take i++[v]:=by
 rw[List.take_succ_eq_append_getElem (by simpa using hi),List.getElem_set_self,List.take_set_of_le (Nat.le_refl i)]
theorem Yma {l:List Zi}{d:Zi}{i:Nat}(hi:i<l.length)(h1:Zdo d (gr ZW l i)=true)(h2:∀j,j<i→Zdo d (gr ZW l j)=false):Zkh l d=i:=by
 rw[Zkh,List.findIdx_eq hi];refine⟨by rw[← Z7 (z:=ZW) hi];exact h1,fun j hj=>?_⟩;rw[← Z7 (z:=ZW) (by omega)];exact h2 j hj
theorem Ylq {l:List Zi}{d:Zi}(h2:∀j,j<l.length→Zdo d (gr ZW l j)=false):¬Zkh l d<l.length:=by
 have:Zkh l d=l.length:=by
  rw[Zkh,List.findIdx_eq_length];intro x hx;obtain⟨j,hj,rfl⟩:=List.mem_iff_getElem.1 hx;rw[← Z7 (z:=ZW) hj];exact h2 j hj
 omega
def Zth (l:List Zi)(i:Nat)(d:Zi):List Zi:=l.take i++d::l.drop i
theorem V6 (n lo hi:Int)(hk:K (.bool (wi n lo hi)) L h):Zb prog 108 [.int .i64 n,.int .i64 lo,.int .i64 hi] L h K:=by
 unfold wi at hk;refine ZS func108 rfl (rs:=[_]) rfl rfl ZY (by kernel_rfl) rfl rfl ?_;refine xx ?_;by_cases c:lo≤n
 ·refine xx ?_;exact ZP (by simpa [c] using hk)
 ·refine xx ?_;exact ZP (by simpa [c] using hk)
theorem Jt (n lo hi:Int)(hk:K (.bool (wi n lo hi)) L h):Zb prog 243 [.int .i64 n,.int .i64 lo,.int .i64 hi] L h K:=by
 unfold wi at hk;refine ZS func243 rfl (rs:=[_]) rfl rfl ZY (by kernel_rfl) rfl rfl ?_;refine xx ?_;by_cases c:lo≤n
 ·refine xx ?_;exact ZP (by simpa [c] using hk)
 ·refine xx ?_;exact ZP (by simpa [c] using hk)
def fI (zs:List Int)(x:Int):Int:=if Wz (fun k=>decide (at0 zs k=x)) zs.length 0=zs.length then -1 else (Wz (fun k=>decide (at0 zs k=x)) zs.length 0:Nat)
theorem Zov (zs:List Int)(x:Int):0≤fI zs x↔x∈zs:=by
 obtain⟨_,h2,h3,h4⟩:=Vl (fun k=>decide (at0 zs k=x)) zs.length 0;unfold fI
 constructor
 ·intro h;split at h
  ·omega
  ·rename_i c;have:=h4 (by omega);simp only[decide_eq_true_eq]at this;rw[← this,← Yf (by omega)];exact List.getElem_mem _
 ·intro h;obtain⟨j,hj,e⟩:=List.mem_iff_getElem.1 h;rw[if_neg]
  ·omega
  ·intro c;have:=h3 j (by omega) (by omega);rw[Yf hj]at e;simp [e]at this
theorem Yxp {zs:List Int}{x:Int}{k:Nat}(h1:k<zs.length)(h2:∀j,j<k→at0 zs j≠x)(h3:at0 zs k=x):fI zs x=k:=by
 have:Wz (fun k=>decide (at0 zs k=x)) zs.length 0=k:=W4 (Nat.zero_le _) (by omega) (fun i _ hi=>decide_eq_false (h2 i hi)) (fun _=>decide_eq_true h3);unfold fI;rw[this,if_neg (by omega)]
theorem Yiw {zs:List Int}{x:Int}(h2:∀j,j<zs.length→at0 zs j≠x):fI zs x = -1:=by
 have:Wz (fun k=>decide (at0 zs k=x)) zs.length 0=zs.length:=W4 (Nat.zero_le _) (by omega) (fun i _ hi=>decide_eq_false (h2 i hi)) (fun h=>by omega);unfold fI;rw[if_pos this]
theorem Zet {zs:List Int}(v:Value)(x:Int)(hz:Ints h .i64 v zs)(hk:K (.int .i64 (fI zs x)) L h):Zb prog 244 [v,.int .i64 x] L h K:=by
 have hn:=hz.num;obtain⟨a,c,rfl,hcap,hl,_,hcs⟩:=hz.open;refine ZS func244 rfl (rs:=[_]) rfl rfl ZY (by kernel_rfl) rfl rfl ?_;refine xx ?_;refine Wj (0:Nat) (fun k=>k≤zs.length∧∀j,j<k→at0 zs j≠x) (fun k=>[(5,.int .i64 k),(0,.slice a zs.length c),(1,.int .i64 x)]) (fun k=>zs.length-k) ?_ ?_ ?_
 ·exact⟨Nat.zero_le _,fun j hj=>by omega⟩
 ·simp [Ent,List.lookup,Y5]
 rintro k ⟨k1,k2⟩;by_cases c1:k<zs.length
 ·by_cases c2:at0 zs k=x
  ·simp -dsimp -implicitDefEqProofs (disch:=first|with_reducible assumption|omega) [go_sem,idx hcs];rw[Yxp c1 k2 c2]at hk;exact ZP hk
  ·simp -dsimp -implicitDefEqProofs (disch:=first|with_reducible assumption|omega) [go_sem,idx hcs];refine⟨k+1,⟨by omega,fun j hj=>?_⟩,by omega,by simp [Ent,List.lookup],Za.refl _ _⟩;by_cases e:j=k
   ·subst e;exact c2
   ·exact k2 j (by omega)
 ·refine xx ?_;rw[Yiw (fun j hj=>k2 j (by omega))]at hk;exact ZP hk
theorem Ux {bs:List Int}(v:Value)(hb:Ints h .u8 v bs)(hk:K (.bool (JX bs 128)) L h):Zb prog 111 [v] L h K:=by
 have hb':=hb;obtain⟨a,c,rfl,_⟩:=hb.open;rw[Zvx bs 128 hb'.byte]at hk;refine ZS func111 rfl (rs:=[_]) rfl rfl ZY (by kernel_rfl) rfl rfl ?_;refine xx ?_;refine Zsk _ 128 hb' (by decide) (by decide) ?_;refine xx ?_;exact ZP hk
theorem Zxi (d:Zk)(ok:ZI d)(hk:∀a n c,K (.tuple #[.slice a n c,.int .i64 (if Zbn d then 0 else 2)]) L h):Zb prog 245 [.slice none 0 0,depV d] L h K:=by
 have ua:=ok.a;have no:Zbn d=false→K (.tuple #[.slice none 0 0,.int .i64 2]) L h:=fun e=>by have:=hk none 0 0;rwa [e]at this
 refine ZS func245 rfl (rs:=[_,_]) rfl rfl ZY (by kernel_rfl) rfl rfl ?_;refine xx ?_;refine Z0 fun b1 nb1 zb1=>?_;(try simp only[ZT]at nb1);refine xx ?_;by_cases c1:d.acct<0
 ·have:=no (by simp [Zbn,wi];omega);refine xx ?_;exact ZO (ZP this)
 by_cases c2:63<d.acct
 ·have:=no (by simp [Zbn,wi];omega);refine xx ?_;exact ZO (ZP this)
 by_cases c3:d.mem<0
 ·have:=no (by simp [Zbn,wi];omega);refine xx ?_;exact ZO (ZP this)
 by_cases c4:127<d.mem
 ·have:=no (by simp [Zbn,wi];omega);refine xx ?_;exact ZO (ZP this)
 by_cases c5:d.amt=0
 ·have:=no (by simp [Zbn,wi];omega)
  cases c6:d.new with
  | true =>
   by_cases c7:0<d.mem
   ·refine xx ?_;exact ZO (ZP this)
   ·refine xx ?_;exact ZO (ZP this)
  | false =>
   refine xx ?_;exact ZO (ZP this)
 by_cases c8:4611686018427387904<d.amt
 ·have:=no (by simp [Zbn,wi];omega)
  cases c6:d.new with
  | true =>
   by_cases c7:0<d.mem
   ·refine xx ?_;exact ZO (ZP this)
   ·refine xx ?_;exact ZO (ZP this)
  | false =>
   refine xx ?_;exact ZO (ZP this)
 cases c6:d.new with
 | true =>
  by_cases c7:0<d.mem
  ·have:=no (by simp [Zbn,wi,c6];omega);refine xx ?_;exact ZO (ZP this)
  ·have yes:Zbn d=true:=by simp [Zbn,wi,c6];omega
   rw[yes]at hk;refine xx ?_;refine Z3 (t:=46) (e:=249) (sz:=4) (bytes:=32) (by kernel_rfl) Zeb rfl rfl rfl rfl (by decide) [] _ none 0 [] rfl rfl (.inl ⟨rfl,rfl,rfl⟩) (m:=0) (news:=[]) rfl (fun u hu=>by cases hu) (by decide) (by decide) ?_;intro o1 i1 i2 i3;have:o1=none:=i3.2 ⟨rfl,rfl⟩;subst this;simp -dsimp -implicitDefEqProofs (disch:=first|with_reducible assumption|omega) [go_sem,ovs,oent];refine Z0 fun b2 nb2 zb2=>?_;(try simp only[ZT]at nb2);simp -dsimp -implicitDefEqProofs (disch:=first|with_reducible assumption|omega) [go_sem,c6];refine Z3 (t:=46) (e:=249) (sz:=4) (bytes:=32) (by kernel_rfl) Zeb rfl rfl rfl rfl (by decide) [_] _ none 0 [] rfl rfl (Src.own (b:=b2) List.mem_cons_self) (m:=1) (news:=[.int .i64 d.acct,.int .i64 d.mem,.int .u64 d.amt,.bool true]) rfl (by intro u hu;simp only[List.mem_cons,List.not_mem_nil,or_false]at hu;rcases hu with rfl|rfl|rfl|rfl<;>rfl) (by decide) (by decide) ?_;intro o' j1 j2 j3;have ho:=Yd j1;obtain⟨a',c',e',_⟩:=ho;rw[e'];refine xx ?_;exact ZO (Wy (ZO (ZP (hk _ _ _))))
 | false =>
  have yes:Zbn d=true:=by simp [Zbn,wi,c6];omega
  rw[yes]at hk;refine xx ?_;refine Z3 (t:=46) (e:=249) (sz:=4) (bytes:=32) (by kernel_rfl) Zeb rfl rfl rfl rfl (by decide) [] _ none 0 [] rfl rfl (.inl ⟨rfl,rfl,rfl⟩) (m:=0) (news:=[]) rfl (fun u hu=>by cases hu) (by decide) (by decide) ?_;intro o1 i1 i2 i3;have:o1=none:=i3.2 ⟨rfl,rfl⟩;subst this;simp -dsimp -implicitDefEqProofs (disch:=first|with_reducible assumption|omega) [go_sem,ovs,oent];refine Z0 fun b2 nb2 zb2=>?_;(try simp only[ZT]at nb2);simp -dsimp -implicitDefEqProofs (disch:=first|with_reducible assumption|omega) [go_sem,c6];refine Z3 (t:=46) (e:=249) (sz:=4) (bytes:=32) (by kernel_rfl) Zeb rfl rfl rfl rfl (by decide) [_] _ none 0 [] rfl rfl (Src.own (b:=b2) List.mem_cons_self) (m:=1) (news:=[.int .i64 d.acct,.int .i64 d.mem,.int .u64 d.amt,.bool false]) rfl (by intro u hu;simp only[List.mem_cons,List.not_mem_nil,or_false]at hu;rcases hu with rfl|rfl|rfl|rfl<;>rfl) (by decide) (by decide) ?_;intro o' j1 j2 j3;have ho:=Yd j1;obtain⟨a',c',e',_⟩:=ho;rw[e'];refine xx ?_;exact ZO (Wy (ZO (ZP (hk _ _ _))))
theorem Ywz (p q:Zd)(x y:Operand)(K:Value→Prop)(t:Zo K):VW prog .eql 44 x y (Vp p) (Vp q) K t=K (.bool (decide (p=q))):=by
 rw[← Yie];exact Uz (T:=44) (ks:=Ypo) (by kernel_rfl) (by kernel_rfl) (by kernel_rfl) (by kernel_rfl) (Yy p++Yo p) (Yy q++Yo q) rfl rfl x y K t
theorem Zqg (m:Zl)(y n:Value)(hy0:Ints h .u8 y m.yes)(hn0:Ints h .u8 n m.no)(ok:Wgb m)(hk:∀h',PH.le h h'→K (.bool (WQ m)) L h'):Zb prog 110 [motV m y n] L h K:=by
 have hy:=hy0;have hn:=hn0;obtain⟨ya,yc,rfl,_⟩:=hy.open;obtain⟨na,nc,rfl,_⟩:=hn.open;have ua:=ok.a;unfold WQ at hk;have hk0:=hk h (PH.le_refl h);refine ZS func110 rfl (rs:=[_]) rfl rfl ZY (by kernel_rfl) rfl rfl ?_;refine xx ?_;refine Z0 fun b1 nb1 zb1=>?_;(try simp only[ZT]at nb1);refine xx ?_;refine Jt _ _ _ ?_
 cases q1:wi m.acct 0 63 with
 | false =>
  rw[show YJ m=false by simp [YJ,q1]]at hk0;refine xx ?_;exact ZO (ZP (by simpa using hk0))
 | true =>
 refine xx ?_;refine Jt _ _ _ ?_
 cases q2:wi m.to 0 63 with
 | false =>
  rw[show YJ m=false by simp [YJ,q2]]at hk0;refine xx ?_;exact ZO (ZP (by simpa using hk0))
 | true =>
 refine xx ?_;refine Jt _ _ _ ?_
 cases q3:wi m.what 1 4 with
 | false =>
  rw[show YJ m=false by simp [YJ,q3]]at hk0;refine xx ?_;exact ZO (ZP (by simpa using hk0))
 | true =>
 refine xx ?_;refine Jt _ _ _ ?_
 cases q4:wi m.state 1 4 with
 | false =>
  rw[show YJ m=false by simp [YJ,q4]]at hk0;refine xx ?_;exact ZO (ZP (by simpa using hk0))
 | true =>
 rw[show YJ m=true by simp [YJ,q1,q2,q3,q4]]at hk0;refine xx ?_;refine Jt _ _ _ ?_
 cases q5:wi m.ends 0 2147483647 with
 | false =>
  rw[show WF m=false by simp [WF,q5]]at hk0;refine xx ?_;exact ZO (ZP (by simpa using hk0))
 | true =>
 refine xx ?_;refine Jt _ _ _ ?_
 cases q6:wi m.due 0 2147483647 with
 | false =>
  rw[show WF m=false by simp [WF,q6]]at hk0;refine xx ?_;exact ZO (ZP (by simpa using hk0))
 | true =>
 by_cases q7:4611686018427387904<m.amt
 ·rw[show WF m=false by simp [WF];omega]at hk0;refine xx ?_;exact ZO (ZP (by simpa using hk0))
 ·rw[show WF m=true by simp [WF,q5,q6];omega]at hk0;refine xx ?_;refine Ux _ hy0 ?_
  cases q8:JX m.yes 128 with
  | false =>
   rw[q8]at hk0;refine xx ?_;exact ZO (ZP (by simpa using hk0))
  | true =>
  rw[q8]at hk0;refine xx ?_;refine Ux _ hn0 ?_
  cases q9:JX m.no 128 with
  | false =>
   rw[q9]at hk0;refine xx ?_;exact ZO (ZP (by simpa using hk0))
  | true =>
  rw[q9]at hk0;have q10:YJ m=true:=by simp [YJ,q1,q2,q3,q4]
  have q11:WF m=true:=by simp [WF,q5,q6];omega
  by_cases c:m.what=1
  ·refine xx ?_;refine Zey m.par ok.p fun h' le=>?_;have hk1:=hk h' le;rw[q8,q9,if_pos c,q10,q11]at hk1;refine xx ?_;exact ZO (ZP (by simpa using hk1))
  ·rw[if_neg c]at hk0;refine xx ?_;refine(Ywz m.par Zgo _ _ _ _).mpr ?_;refine xx ?_;exact ZO (ZP (by simpa using hk0))
theorem Zhu {s:Ze}(v:SV)(hs:Zn h v s)(few:Zw s){l:List Int}(lv:Value)(hlv:Ints h .i64 lv l)(st:Int)(hst : -9223372036854775808≤st∧st≤9223372036854775807)(hk:K (.bool (Zdr s l st)) L h):Zb prog 112 [stV s v,lv,.int .i64 st] L h K:=by
 obtain⟨pa,pc,ma,mc,ea,ec,xa,xc,oa,oc,da,dc,ta,tc,ka,kc,ra,rc,rfl⟩:=hs.slices;have hm:Zg Ym 6 h (.slice ma s.members.length mc) s.members:=hs.m;have fm:=few.m;have hn:=hlv.num;have hlv0:=hlv;obtain⟨la,lc,rfl,hlc,hll,_,hcs⟩:=hlv.open;refine ZS func112 rfl (rs:=[_]) rfl rfl ZY (by kernel_rfl) rfl rfl ?_;refine xx ?_;refine Z0 fun b1 nb1 zb1=>?_;(try simp only[ZT]at nb1);refine xx ?_;refine Yq (0:Nat) (fun k=>k≤l.length∧∀j,j<k→Zbk s l st j=true) (fun k=>[(7,.int .i64 k),(1,.slice la l.length lc),(2,.int .i64 st),(3,.pointer (some ⟨b1,0,none⟩))]) (fun _=>⟨b1,50,stC s ⟨.slice pa s.purses.length pc,.slice ma s.members.length mc,.slice ea s.entry.length ec,.slice xa s.exit.length xc,.slice oa s.pool.length oc,.slice da s.dues.length dc,.slice ta s.motions.length tc,.slice ka s.marks.length kc,.slice ra s.ring.length rc⟩,41⟩::L) (fun _=>h) (fun k=>l.length-k) ?_ ?_ ?_ ?_
 ·exact⟨Nat.zero_le _,fun j hj=>by omega⟩
 ·simp [Ent,List.lookup,Y5]
 ·exact Za.refl _ _
 rintro k ⟨k1,k2⟩;by_cases c1:k<l.length
 ·have hnk:=hn k;refine xx ?_;refine Uv (by kernel_rfl) rfl ?_;simp -dsimp -implicitDefEqProofs (disch:=first|with_reducible assumption|omega) [go_sem,idx hcs];refine VM _ (V6 _ _ _ ⟨rfl,rfl,rfl⟩) ?_
  cases q1:wi (at0 l k) 0 ((s.members.length:Int)-1) with
  | false =>
   rw[Zmo c1 (by simp only[Zbk,q1,Bool.false_and])]at hk;refine xx ?_;exact ZO (ZP hk)
  | true =>
  have q1':=wi_iff.1 q1;simp -dsimp -implicitDefEqProofs (disch:=first|with_reducible assumption|omega) [go_sem,idx hcs,↓WV ZR (by decide) hm];refine(Zg.fld ZR hm (j:=(at0 l k).toNat) (o:=5) (by omega) (u:=.int .i64 (gr ZR s.members (at0 l k).toNat).status) rfl _ _ _).mpr ?_;by_cases c2:(gr ZR s.members (at0 l k).toNat).status=st
  ·simp -dsimp -implicitDefEqProofs (disch:=first|with_reducible assumption|omega) [go_sem,idx hcs];refine VM _ (Zet (zs:=l.take k) _ (at0 l k) (hlv0.take k (by omega)) ⟨rfl,rfl,rfl⟩) ?_;have hf:=Zov (l.take k) (at0 l k);by_cases c3:0≤fI (l.take k) (at0 l k)
   ·rw[Zmo c1 (by simp only[Zbk,decide_eq_true (hf.1 c3),Bool.not_true,Bool.and_false])]at hk;refine xx ?_;exact ZO (ZP hk)
   ·refine xx ?_;refine⟨k+1,⟨by omega,fun j hj=>?_⟩,by omega,by simp [Ent,List.lookup],Za.refl _ _⟩;by_cases e:j=k
    ·subst e;simp only[Zbk,q1,decide_eq_true c2,decide_eq_false (fun h=>c3 (hf.2 h)),Bool.not_false,Bool.and_self]
    ·exact k2 j (by omega)
  ·rw[Zmo c1 (by simp only[Zbk,decide_eq_false c2,Bool.false_and,Bool.and_false])]at hk;refine xx ?_;exact ZO (ZP hk)
 ·have hkl:k=l.length:=by omega
  subst hkl;refine xx ?_;refine Yq (0:Nat) (fun k=>k≤s.members.length∧∀j,j<k→(gr ZR s.members j).status=st→(j:Int)∈l) (fun k=>[(8,.int .i64 k),(1,.slice la l.length lc),(2,.int .i64 st),(3,.pointer (some ⟨b1,0,none⟩))]) (fun _=>⟨b1,50,stC s ⟨.slice pa s.purses.length pc,.slice ma s.members.length mc,.slice ea s.entry.length ec,.slice xa s.exit.length xc,.slice oa s.pool.length oc,.slice da s.dues.length dc,.slice ta s.motions.length tc,.slice ka s.marks.length kc,.slice ra s.ring.length rc⟩,41⟩::L) (fun _=>h) (fun k=>s.members.length-k) ?_ ?_ ?_ ?_
  ·exact⟨Nat.zero_le _,fun j hj=>by omega⟩
  ·simp [Ent,List.lookup,Y5]
  ·exact Za.refl _ _
  rintro k ⟨m1,m2⟩;by_cases c1:k<s.members.length
  ·simp -dsimp -implicitDefEqProofs (disch:=first|with_reducible assumption|omega) [go_sem,↓WV ZR (by decide) hm];refine(Zg.fld ZR hm (j:=k) (o:=5) c1 (u:=.int .i64 (gr ZR s.members k).status) rfl _ _ _).mpr ?_;by_cases c2:(gr ZR s.members k).status=st
   ·refine xx ?_;refine Zet _ k hlv0 ?_;have hf:=Zov l k;by_cases c3:fI l k<0
    ·have:Zdr s l st=false:=by
      cases hc:Zdr s l st with
      | false=>rfl
      | true=>exact absurd ((row_iff.1 hc).2 k c1 c2) (fun h=>by have:=hf.2 h;omega)
     rw[this]at hk;refine xx ?_;exact ZO (ZP hk)
    ·refine xx ?_;refine⟨k+1,⟨by omega,fun j hj=>?_⟩,by omega,by simp [Ent,List.lookup],Za.refl _ _⟩;by_cases e:j=k
     ·subst e;exact fun _=>hf.1 (by omega)
     ·exact m2 j (by omega)
   ·refine xx ?_;refine⟨k+1,⟨by omega,fun j hj=>?_⟩,by omega,by simp [Ent,List.lookup],Za.refl _ _⟩;by_cases e:j=k
    ·subst e;exact fun h=>absurd h c2
    ·exact m2 j (by omega)
  ·have:Zdr s l st=true:=row_iff.2 ⟨k2,fun j hj=>m2 j (by omega)⟩;rw[this]at hk;refine xx ?_;exact ZO (ZP hk)
end Go.X

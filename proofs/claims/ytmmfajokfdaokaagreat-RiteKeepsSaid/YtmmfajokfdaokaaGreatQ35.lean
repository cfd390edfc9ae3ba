/- Lemmas and contracts. Conditions: as each says. -/
import Derived.Test.YtmmfajokfdaokaaGreatQ34
set_option linter.unusedVariables false
set_option linter.unusedSimpArgs false
set_option maxHeartbeats 12800000
set_option maxRecDepth 20000
namespace Go.X
open Go.RowKit Go.Proofs Go.Bl
structure Zk where
 ep:Int
 mode:Int
 quo:Bool
 pres:Int
 act:Int
 mint:Int
 paid:Int
 kept:Int
 burned:Int
 fees:Int
 out:List Int
 left:List Int
 started:List Int
 done:List Int
def upI (f:Nat→Zc→Zc)(l:List Zc):Nat→List Zc
 | 0=>l
 | k+1=>(upI f l k).set k (f k (gr ZS l k))
theorem VB (f:Nat→Zc→Zc)(l:List Zc):∀k,(upI f l k).length=l.length
 | 0=>rfl
 | k+1=>by rw[upI,List.length_set];exact VB f l k
theorem Zrw {l:List Zc}{j:Nat}(hj:l.length≤j):gr ZS l j=ZS:=by
 unfold gr;rw[List.getD_eq_getElem?_getD,List.getElem?_eq_none hj];rfl
theorem Ue {l:List Zc}{i j:Nat}{m:Zc}(hi:i<l.length):gr ZS (l.set i m) j=if j=i then m else gr ZS l j:=by
 by_cases e:j=i
 ·subst e;rw[Yl (by simpa using hi),if_pos rfl,List.getElem_set_self]
 ·rw[if_neg e];by_cases hj:j<l.length
  ·rw[Yl (by simpa using hj),Yl hj,List.getElem_set_ne (Ne.symm e)]
  ·rw[Zrw (by simpa using hj),Zrw (by omega)]
theorem Yat (f:Nat→Zc→Zc)(l:List Zc):∀k,k≤l.length→∀j,gr ZS (upI f l k) j=if j<k then f j (gr ZS l j) else gr ZS l j
 | 0,_,j=>by simp [upI]
 | k+1,hk,j=>by
  rw[upI,Ue (by rw[VB];omega)];by_cases e:j=k
  ·subst e;rw[if_pos rfl,if_pos (by omega)]
  ·rw[if_neg e,Yat f l k (by omega) j];by_cases c:j<k
   ·rw[if_pos c,if_pos (by omega)]
   ·rw[if_neg c,if_neg (by omega)]
theorem Zer (f:Nat→Zc→Zc)(l:List Zc){k:Nat}(hk:k<l.length):gr ZS (upI f l k) k=gr ZS l k:=by
 rw[Yat f l k (by omega),if_neg (by omega)]
theorem Zsm (f:Nat→Zc→Zc)(l:List Zc){k:Nat}(hk:k<l.length)(hf:f k (gr ZS l k)=gr ZS l k):upI f l (k+1)=upI f l k:=by
 have hl:=VB f l k;have h1:=Zer f l hk;rw[Yl (by omega)]at h1;rw[upI,hf,← h1,List.set_getElem_self]
theorem Zjy {f:Nat→Zc→Zc}{l:List Zc}(P:Zc→Prop)(hf:∀k x,P x→P (f k x))(hl:∀x∈l,P x):∀k,k≤l.length→∀x∈upI f l k,P x
 | 0,_=>hl
 | k+1,hk=>fun x hx=>by
  rw[upI]at hx;rcases List.mem_or_eq_of_mem_set hx with hx|rfl
  ·exact Zjy P hf hl k (by omega) x hx
  ·exact hf _ _ (hl _ (YM (by omega)))
def wgF (p:Ze)(ks:List Int)(mode:Int)(k:Nat)(m:Zc):Zc:=if Zbv m then UN p m (Vs ks k) mode else m
def wgS (s:Zf):Zf:={ s with calm:=(JS s.calm (Zgt s) (Gg s)).1,members:=upI (wgF s.par s.marks (Gu s)) s.members s.members.length }
def wgR (s:Zf)(r:Zk):Zk:={ r with pres:=Zgt s,act:=Gg s,quo:=(JS s.calm (Zgt s) (Gg s)).2,mode:=Gu s }
theorem Ykm {p:Ze}(ok:Zj p)(hr:Ym p=true)(ks:List Int)(mode:Int)(k:Nat){m:Zc}(mo:Zg m):Zg (wgF p ks mode k m):=by
 unfold wgF;split
 ·exact Ygv ok hr mo _ _
 ·exact mo
def mtN (s:Zf)(r:Zk):Int:=Znx s.par r.act (s.gen+s.mint) s.most r.mode
def mtW (s:Zf):List Nat:=thI s.members s.marks s.members.length
def mtL (s:Zf)(k:Nat):List Zc:=(thI s.members s.marks k).map (gr ZS s.members)
def mtP (s:Zf)(r:Zk):List Int:=JC s.par (mtN s r) (mtL s s.members.length)
def Ju (p:Ze)(i:Nat)(a:Int)(x:List Zc×List Int):List Zc×List Int :=
 (x.1.set i (Jq p (gr ZS x.1 i) a).1,x.2.set (gr ZS x.1 i).owner.toNat (at0 x.2 (gr ZS x.1 i).owner.toNat+(Jq p (gr ZS x.1 i) a).2))
def mtK (p:Ze)(W:List Nat)(P:List Int)(x:List Zc×List Int):Nat→List Zc×List Int
 | 0=>x
 | k+1=>Ju p (W.getD k 0) (at0 P k) (mtK p W P x k)
def mtX (s:Zf)(r:Zk)(k:Nat):List Zc×List Int:=mtK s.par (mtW s) (mtP s r) (s.members,s.purses) k
def Zja (s:Zf)(r:Zk)(k:Nat):Zf:={ s with mint:=s.mint+mtN s r,treas:=s.treas+mtN s r-YP (mtP s r) k,members:=(mtX s r k).1,purses:=(mtX s r k).2 }
def Ylj (s:Zf)(r:Zk)(k:Nat):Zk:={ r with mint:=mtN s r,paid:=r.paid+YP (mtP s r) k }
def mtS (s:Zf)(r:Zk):Zf:=Zja s r (mtW s).length
def mtR (s:Zf)(r:Zk):Zk:={ Ylj s r (mtW s).length with kept:=mtN s r-tot (mtP s r) }
abbrev fnC (ks:List Int)(k:Nat)(m:Zc):Prop:=Zbv m∧Vs ks k=false
def fnF (p:Ze)(ks:List Int)(mode:Int)(k:Nat)(m:Zc):Zc:=if fnC ks k m then Gf p m mode else m
def fnT (p:Ze)(ks:List Int)(mode:Int)(ms:List Zc):Nat→Int
 | 0=>0
 | k+1=>if fnC ks k (gr ZS ms k) then fnT p ks mode ms k+Wl p (gr ZS ms k) mode else fnT p ks mode ms k
def fnU (p:Ze)(ks:List Int)(mode:Int)(ms:List Zc):Nat→Int
 | 0=>0
 | k+1=>if fnC ks k (gr ZS ms k) then fnU p ks mode ms k+UD p (Wl p (gr ZS ms k) mode) else fnU p ks mode ms k
abbrev Zfv (s:Zf)(r:Zk)(k:Nat):Int:=fnT s.par s.marks r.mode s.members k
abbrev Zey (s:Zf)(r:Zk)(k:Nat):Int:=fnU s.par s.marks r.mode s.members k
def Jp (s:Zf)(r:Zk)(k:Nat):Zf:={ s with treas:=s.treas+Zfv s r k,members:=upI (fnF s.par s.marks r.mode) s.members k }
def fnR (s:Zf)(r:Zk)(k:Nat):Zk:={ r with burned:=r.burned+Zey s r k,fees:=r.fees+(Zfv s r k-Zey s r k) }
def fnS (s:Zf)(r:Zk):Zf:=Zww (Jp s r s.members.length) (fnR s r s.members.length).burned
def ejS (s:Zf)(t:Int)(k:Nat):Zf:={ s with members:=upN (ejF s.par) s.members k,dues:=duN s.par s.members t s.dues k,exit:=exN s.par s.members s.exit k }
def ejR (s:Zf)(r:Zk)(k:Nat):Zk:={ r with out:=r.out++ouN s.par s.members k }
def Zeo (t:Int)(i:Nat)(x:List Zc×List Zi):List Zc×List Zi:=(x.1.set i (Zaf (gr ZS x.1 i) 5),GH x.2 (Gc t (gr ZS x.1 i)))
def lvK (t:Int)(W:List Int)(x:List Zc×List Zi):Nat→List Zc×List Zi
 | 0=>x
 | k+1=>Zeo t (at0 W k).toNat (lvK t W x k)
def dpK (l:List Zi)(ps:List Int):Nat→List Int
 | 0=>ps
 | k+1=>(dpK l ps k).set (gr Z5 l k).acct.toNat (at0 (dpK l ps k) (gr Z5 l k).acct.toNat+(gr Z5 l k).amt)
def lvW (s:Zf):List Int:=s.exit.take s.par.churn.toNat
def lvX (s:Zf)(t:Int):List Zc×List Zi:=lvK t (lvW s) (s.members,s.dues) (lvW s).length
def lvD (s:Zf)(t:Int):List Zi:=(lvX s t).2.filter (Gh s.ep true)
def lvS (s:Zf)(t:Int):Zf:={ s with exit:=s.exit.drop s.par.churn.toNat,members:=(lvX s t).1,dues:=(lvX s t).2.filter (Gh s.ep false),purses:=dpK (lvD s t) s.purses (lvD s t).length }
def lvR (s:Zf)(r:Zk):Zk:={ r with left:=lvW s }
structure CrX where
 ms:List Zc
 ps:List Int
 en:List Int
def Zqg (p:Ze)(i:Nat)(a:Int)(acct:Int)(x:CrX):CrX :=
 ⟨x.ms.set i (JU p (gr ZS x.ms i) a),x.ps.set acct.toNat (at0 x.ps acct.toNat+(a-WK p (gr ZS x.ms i) a)),
  if (JU p (gr ZS x.ms i) a).status=(gr ZS x.ms i).status then x.en else x.en++[(i:Int)]⟩
def WX (p:Ze)(d:Zn)(x:CrX):CrX :=
 if d.new then (if 128≤x.ms.length then ⟨x.ms,x.ps.set d.acct.toNat (at0 x.ps d.acct.toNat+d.amt),x.en⟩ else Zqg p x.ms.length d.amt d.acct ⟨x.ms++[⟨0,0,0,0,d.acct,4⟩],x.ps,x.en⟩)
 else Zqg p d.mem.toNat d.amt d.acct x
def crK (p:Ze)(l:List Zn)(x:CrX):Nat→CrX
 | 0=>x
 | k+1=>WX p (gr Wd l k) (crK p l x k)
structure StX where
 ms:List Zc
 ds:List Zi
 ex:List Int
 out:List Int
 go:List Int
def Zbi (p:Ze)(t:Int)(i:Nat)(x:StX):StX :=
 if (Vk p (gr ZS x.ms i)).2 then { x with ms:=x.ms.set i (Vk p (gr ZS x.ms i)).1,go:=x.go++[(i:Int)] }
 else ⟨x.ms.set i (Zwf (gr ZS x.ms i)),GH x.ds (Gc t (gr ZS x.ms i)),flt x.ex i,x.out++[(i:Int)],x.go⟩
def stK (p:Ze)(t:Int)(W:List Int)(x:StX):Nat→StX
 | 0=>x
 | k+1=>Zbi p t (at0 W k).toNat (stK p t W x k)
def enX (s:Zf):CrX:=crK s.par s.pool ⟨s.members,s.purses,s.entry⟩ s.pool.length
def enW (s:Zf):List Int:=(enX s).en.take s.par.churn.toNat
def enY (s:Zf)(r:Zk)(t:Int):StX:=stK s.par t (enW s) ⟨(enX s).ms,s.dues,s.exit,r.out,r.started⟩ (enW s).length
def enS (s:Zf)(r:Zk)(t:Int):Zf:=if r.quo then { s with pool:=[],members:=(enY s r t).ms,purses:=(enX s).ps,entry:=(enX s).en.drop s.par.churn.toNat,dues:=(enY s r t).ds,exit:=(enY s r t).ex } else s
def enR (s:Zf)(r:Zk)(t:Int):Zk:=if r.quo then { r with out:=(enY s r t).out,started:=(enY s r t).go } else r
def Zec (p:Ze)(ms:List Zc)(ep:Int)(m:Zm):Zm :=
 if m.state=1∧m.ends≤ep then (if Ygd p.quorum (Zea ms m.yes) (Zea ms m.no) (Zen ms) then { m with state:=2,due:=min (ep+p.enact) 2147483647 } else { m with state:=4 }) else m
def Zza (p:Ze)(ms:List Zc)(ep:Int)(l:List Zm):List Zm:=l.map (Zec p ms ep)
def Zwh (m:Zm)(done:Bool):Zm:={ m with state:=if done then 3 else 4 }
def Yes (l:List Zm)(i:Int)(done:Bool):List Zm×Int :=
 if 0≤i∧i<(l.length:Int) then (if (gr Yj l i.toNat).state=2 then (l.set i.toNat (Zwh (gr Yj l i.toNat) done),0) else ([],291)) else ([],230)
structure MoX where
 par:Ze
 tr:Int
 ps:List Int
 em:Bool
 mo:List Zm
 dn:List Int
def moB (m:Zm)(tr:Int):Bool:=decide (m.what≠2)||decide (m.amt≤tr)
def Vb (m:Zm)(x:MoX):MoX :=
 if m.what=3 then { x with em:=true } else if m.what=4 then { x with em:=false } else if m.what=1 then { x with par:=m.par }
 else if m.what=2∧m.amt≤x.tr then { x with tr:=x.tr-m.amt,ps:=x.ps.set m.to.toNat (at0 x.ps m.to.toNat+m.amt) } else x
def Zjf (i:Nat)(x:MoX):MoX :=
 { Vb (gr Yj x.mo i) x with mo:=x.mo.set i (Zwh (gr Yj x.mo i) (moB (gr Yj x.mo i) x.tr)),dn:=if moB (gr Yj x.mo i) x.tr then x.dn++[(i:Int)] else x.dn }
def moK (W:List Int)(x:MoX):Nat→MoX
 | 0=>x
 | k+1=>Zjf (at0 W k).toNat (moK W x k)
def moL (s:Zf):List Zm:=Zza s.par s.members s.ep s.motions
def moW (s:Zf)(r:Zk):List Int:=VI (moL s) s.ep r.quo (moL s).length
def moX (s:Zf)(r:Zk)(k:Nat):MoX:=moK (moW s r) ⟨s.par,s.treas,s.purses,s.emer,moL s,r.done⟩ k
def Yul (s:Zf)(r:Zk)(k:Nat):Zf:={ s with par:=(moX s r k).par,treas:=(moX s r k).tr,purses:=(moX s r k).ps,emer:=(moX s r k).em,motions:=(moX s r k).mo }
def moRk (s:Zf)(r:Zk)(k:Nat):Zk:={ r with done:=(moX s r k).dn }
def moS (s:Zf)(r:Zk):Zf:=Yul s r (moW s r).length
def moR (s:Zf)(r:Zk):Zk:=moRk s r (moW s r).length
def Yet (s:Zf)(k:Nat):Zf:={ s with members:=(clN s.par (s.members,s.purses) k).1,purses:=(clN s.par (s.members,s.purses) k).2 }
def ajS (s:Zf):Zf:=Yet s s.members.length
def Zrk (s:Zf)(k:Nat):Zf:={ s with members:=upN (Zaa s.par) s.members k }
def seS (s:Zf):Zf:={ Zrk s s.members.length with ring:=Zle s.ring s.marks,marks:=List.replicate 16 0,ep:=s.ep+1 }
def r0P (s:Zf):Zk:=⟨s.ep,0,false,0,0,0,0,0,0,0,[],[],[],[]⟩
def atP (s:Zf):Int:=min (s.ep+s.par.wait) 2147483647
def Ynl (t:Int)(x:Zf×Zk):Zf×Zk:=(ejS x.1 t x.1.members.length,ejR x.1 x.2 x.1.members.length)
def tk2 (s:Zf):Zf×Zk:=(wgS s,wgR s (r0P s))
def tk3 (s:Zf):Zf×Zk:=(mtS (tk2 s).1 (tk2 s).2,mtR (tk2 s).1 (tk2 s).2)
def tk4 (s:Zf):Zf×Zk:=(fnS (tk3 s).1 (tk3 s).2,fnR (tk3 s).1 (tk3 s).2 (tk3 s).1.members.length)
def tk5 (s:Zf):Zf×Zk:=Ynl (atP s) (tk4 s)
def tk7 (s:Zf):Zf×Zk:=(lvS (tk5 s).1 (atP s),lvR (tk5 s).1 (tk5 s).2)
def tk8 (s:Zf):Zf×Zk:=(enS (tk7 s).1 (tk7 s).2 (atP s),enR (tk7 s).1 (tk7 s).2 (atP s))
def tk9 (s:Zf):Zf×Zk:=(moS (tk8 s).1 (tk8 s).2,moR (tk8 s).1 (tk8 s).2)
def J8 (s:Zf):Zf×Zk:=if (tk9 s).1.par=s.par then tk9 s else Ynl (atP s) (ajS (tk9 s).1,(tk9 s).2)
def UC (s:Zf):Zf:=seS (J8 s).1
def Zcz (s:Zf):Zk:=(J8 s).2
def zeroR:Zk:=⟨0,0,false,0,0,0,0,0,0,0,[],[],[],[]⟩
def Zdc (s:Zf):Int:=if YQ s then (if 1073741824≤s.ep then 200 else 0) else 291
theorem Zek {ps:List Int}{i:Nat}{a:Int}(hi:i<ps.length):tot (ps.set i (at0 ps i+a))=tot ps+a:=by rw[Gz hi];omega
theorem Zpk {ps:List Int}{i:Nat}{a:Int}(hp:∀j,0≤at0 ps j)(ha:0≤a)(hi:i<ps.length)(j:Nat):0≤at0 (ps.set i (at0 ps i+a)) j:=by
 have h0:=hp j;have h1:=hp i;rw[VF _ _ _ _ hi];split<;>omega
theorem Gv {ms:List Zc}{i:Nat}(hi:i<ms.length)(m:Zc):tot ((ms.set i m).map Zc.bal)=tot (ms.map Zc.bal)+(m.bal-(gr ZS ms i).bal):=by
 rw[List.map_set,Gz (by simpa using hi),VD hi]
theorem Zad (xs ys:List Int):tot (xs++ys)=tot xs+tot ys:=by
 rw[Zhe,Zhe,Zhe,List.sum_append]
structure ZC (ms:List Zc)(ps:List Int):Prop where
 m:∀x∈ms,Zg x
 o:∀x∈ms,0≤x.owner∧x.owner<ps.length
 p:∀i,0≤at0 ps i
theorem ZC.ok {ms:List Zc}{ps:List Int}(h:ZC ms ps)(ht:tot ps+tot (ms.map Zc.bal)≤4611686018427387904):ZK ms ps:=⟨h.m,h.o,h.p,ht⟩
theorem ZC.setM {ms:List Zc}{ps:List Int}(h:ZC ms ps)(i:Nat){m:Zc}(hm:Zg m)(ho:0≤m.owner∧m.owner<ps.length):ZC (ms.set i m) ps :=
 ⟨fun x hx=>by
  rcases List.mem_or_eq_of_mem_set hx with hx|rfl
  ·exact h.m x hx
  ·exact hm,fun x hx=>by
  rcases List.mem_or_eq_of_mem_set hx with hx|rfl
  ·exact h.o x hx
  ·exact ho,h.p⟩
theorem ZC.pay {ms:List Zc}{ps:List Int}(h:ZC ms ps){i:Nat}(hi:i<ps.length){a:Int}(ha:0≤a):ZC ms (ps.set i (at0 ps i+a)) :=
 ⟨h.m,fun x hx=>by rw[List.length_set];exact h.o x hx,Zpk h.p ha hi⟩
theorem ZC.at {ms:List Zc}{ps:List Int}(h:ZC ms ps){i:Nat}(hi:i<ms.length):Zg (gr ZS ms i)∧0≤(gr ZS ms i).owner∧(gr ZS ms i).owner<ps.length:=⟨h.m _ (YM hi),h.o _ (YM hi)⟩
theorem ZC.bal {ms:List Zc}{ps:List Int}(h:ZC ms ps):0≤tot (ms.map Zc.bal):=Yy (VC h.m)
theorem ZC.pur {ms:List Zc}{ps:List Int}(h:ZC ms ps):0≤tot ps:=Yy h.p
theorem ZC.le {ms:List Zc}{ps:List Int}(h:ZC ms ps)(i:Nat):0≤at0 ps i∧at0 ps i≤tot ps:=⟨h.p i,YC h.p i⟩
theorem ZC.bl {ms:List Zc}{ps:List Int}(h:ZC ms ps){i:Nat}(hi:i<ms.length):0≤(gr ZS ms i).bal∧(gr ZS ms i).bal≤tot (ms.map Zc.bal):=by
 have h1:=YC (VC h.m) i;have h2:=VC h.m i;rw[VD hi]at h1 h2;exact⟨h2,h1⟩
theorem Ydq {p:Ze}(ok:Zj p){m:Zc}(mo:Zg m){a:Int}(ha:0≤a):Zg (Jq p m a).1∧(Jq p m a).1.owner=m.owner∧(Jq p m a).1.status=m.status∧0≤(Jq p m a).2∧(Jq p m a).2≤a∧(Jq p m a).1.bal+(Jq p m a).2=m.bal+a:=by
 have hb:=mo.u m.bal (by simp);have he:=mo.u m.eff (by simp);have hs:=mo.u m.score (by simp);have hn1:=mo.n m.streak (by simp);have hn2:=mo.n m.owner (by simp);have hn3:=mo.n m.status (by simp);have hc:=ok.w p.cap (by simp [Yw]);have hf:0≤WH p.cap m.bal∧(WH p.cap m.bal=0∨m.bal+WH p.cap m.bal=p.cap):=by unfold WH;split<;>omega
 refine⟨⟨fun z hz=>?_,fun z hz=>?_⟩,rfl,rfl,?_,?_,?_⟩
 ·simp only[Jq,List.mem_cons,List.not_mem_nil,or_false]at hz;rcases hz with rfl|rfl|rfl<;>omega
 ·simp only[Jq,List.mem_cons,List.not_mem_nil,or_false]at hz;rcases hz with rfl|rfl|rfl<;>omega
 ·show 0≤a-min a (WH p.cap m.bal);omega
 ·show a-min a (WH p.cap m.bal)≤a;omega
 ·show m.bal+min a (WH p.cap m.bal)+(a-min a (WH p.cap m.bal))=_;omega
theorem Wbv (p:Ze)(i:Nat)(a:Int)(x:List Zc×List Int):(Ju p i a x).1.length=x.1.length∧(Ju p i a x).2.length=x.2.length:=⟨List.length_set,List.length_set⟩
theorem py_ok {p:Ze}(ok:Zj p){x:List Zc×List Int}(h:ZC x.1 x.2){i:Nat}(hi:i<x.1.length){a:Int}(ha:0≤a) :
  ZC (Ju p i a x).1 (Ju p i a x).2∧tot (Ju p i a x).2+tot ((Ju p i a x).1.map Zc.bal)=tot x.2+tot (x.1.map Zc.bal)+a:=by
 obtain⟨mo,o1,o2⟩:=h.at hi;obtain⟨g1,g2,g3,g4,g5,g6⟩:=Ydq ok mo ha;have hj:(gr ZS x.1 i).owner.toNat<x.2.length:=by omega
 refine⟨(h.pay hj g4).setM i g1 ⟨by rw[g2];exact o1,by rw[g2,List.length_set];exact o2⟩,?_⟩;simp only[Ju];rw[Zek hj,Gv hi];omega
structure Wke (P:List Int)(x0 x:List Zc×List Int)(k:Nat):Prop where
 l1:x.1.length=x0.1.length
 l2:x.2.length=x0.2.length
 b:ZC x.1 x.2
 t:tot x.2+tot (x.1.map Zc.bal)=tot x0.2+tot (x0.1.map Zc.bal)+YP P k
 s:∀j,(gr ZS x.1 j).status=(gr ZS x0.1 j).status∧(gr ZS x.1 j).owner=(gr ZS x0.1 j).owner
theorem Ylo {p:Ze}(ok:Zj p){W:List Nat}{P:List Int}{x:List Zc×List Int}(h:ZC x.1 x.2)(hW:∀i∈W,i<x.1.length)(hP:∀i,0≤at0 P i):∀k,k≤W.length→Wke P x (mtK p W P x k) k
 | 0,_=>⟨rfl,rfl,h,by simp [mtK,YP],fun _=>⟨rfl,rfl⟩⟩
 | k+1,hk=>by
  have ih:=Ylo ok h hW hP k (by omega);have hi:W.getD k 0<x.1.length:=by
   rw[List.getD_eq_getElem?_getD,List.getElem?_eq_getElem (by omega),Option.getD_some];exact hW _ (List.getElem_mem _)
  have hi2:W.getD k 0<(mtK p W P x k).1.length:=by rw[ih.l1];exact hi
  have hl:=Wbv p (W.getD k 0) (at0 P k) (mtK p W P x k);obtain⟨g1,g2⟩:=py_ok ok ih.b hi2 (hP k);refine⟨hl.1.trans ih.l1,hl.2.trans ih.l2,g1,?_,fun j=>?_⟩
  ·rw[YP,← Int.add_assoc,← ih.t];exact g2
  ·rw[mtK];simp only[Ju];rw[Ue hi2];obtain⟨e1,e2⟩:=ih.s j;split
   ·rename_i e;subst e;exact⟨e1,e2⟩
   ·exact⟨e1,e2⟩
theorem Zwr {l:List Zc}{ks:List Int}{n i:Nat}(hi:i∈thI l ks n):i<n:=Yuo (List.mem_filter.1 hi).1
theorem Ynt {l:List Zc}{ks:List Int}{n i:Nat}(hi:i∈thI l ks n):Zbv (gr ZS l i)∧Vs ks i=true:=by
 have h1:=List.mem_filter.1 hi;have h2:=Yxg h1.1;simp only[Zbu,decide_eq_true_eq]at h2;exact⟨h2,h1.2⟩
theorem Zcn {p:Ze}(ok:Zj p)(hr:Ym p=true){m:Zc}(mo:Zg m)(mode:Int):Zg (Gf p m mode)∧0≤Wl p m mode∧Wl p m mode≤m.bal∧0≤UD p (Wl p m mode)∧UD p (Wl p m mode)≤Wl p m mode:=by
 have hb:=mo.u m.bal (by simp);have he:=mo.u m.eff (by simp);have hs:=mo.u m.score (by simp);have hn1:=mo.n m.streak (by simp);have hn2:=mo.n m.owner (by simp);have hn3:=mo.n m.status (by simp);have hf:=Ydt ok hr mo mode;have hps:=Ys hr;have hbu:=Ynr (p:=p) (n:=Wl p m mode) ⟨hf.1,by omega⟩ (by omega);refine⟨⟨fun z hz=>?_,fun z hz=>?_⟩,hf.1,hf.2,hbu.1,hbu.2.1⟩
 ·simp only[Gf,List.mem_cons,List.not_mem_nil,or_false]at hz;rcases hz with rfl|rfl|rfl<;>omega
 ·simp only[Gf,List.mem_cons,List.not_mem_nil,or_false]at hz;rcases hz with rfl|rfl|rfl<;>omega
theorem Yke {p:Ze}(ok:Zj p)(hr:Ym p=true)(ks:List Int)(mode:Int)(k:Nat){m:Zc}(mo:Zg m):Zg (fnF p ks mode k m):=by
 unfold fnF;split
 ·exact(Zcn ok hr mo mode).1
 ·exact mo
theorem Ypu (p:Ze)(ks:List Int)(mode:Int)(k:Nat)(m:Zc):(fnF p ks mode k m).owner=m.owner∧(fnF p ks mode k m).status=m.status:=by
 unfold fnF;split
 ·exact⟨rfl,rfl⟩
 ·exact⟨rfl,rfl⟩
theorem Yky {p:Ze}(ok:Zj p)(hr:Ym p=true)(ks:List Int)(mode:Int){ms:List Zc}(hm:∀x∈ms,Zg x):∀k,k≤ms.length→0≤fnU p ks mode ms k∧fnU p ks mode ms k≤fnT p ks mode ms k∧fnT p ks mode ms k+tot ((upI (fnF p ks mode) ms k).map Zc.bal)=tot (ms.map Zc.bal)
 | 0,_=>⟨Int.le_refl _,Int.le_refl _,by simp [fnT,upI]⟩
 | k+1,hk=>by
  obtain⟨h1,h2,h3⟩:=Yky ok hr ks mode hm k (by omega);have hl:=VB (fnF p ks mode) ms k;have hb:=Gv (ms:=upI (fnF p ks mode) ms k) (i:=k) (by omega) (fnF p ks mode k (gr ZS ms k));rw[Zer _ _ (by omega)]at hb;obtain⟨_,g1,g2,g3,g4⟩:=Zcn ok hr (hm _ (YM (z:=ZS) (k:=k) (by omega))) mode;rw[upI,hb,fnT,fnU];by_cases c:fnC ks k (gr ZS ms k)
  ·rw[if_pos c,if_pos c,fnF,if_pos c];refine⟨by omega,by omega,?_⟩;show _+(_+((gr ZS ms k).bal-Wl p (gr ZS ms k) mode-_))=_;omega
  ·rw[if_neg c,if_neg c,fnF,if_neg c];exact⟨h1,h2,by omega⟩
theorem Yho (p:Ze)(ks:List Int)(mode:Int)(k:Nat)(m:Zc):(wgF p ks mode k m).owner=m.owner∧(wgF p ks mode k m).status=m.status∧(wgF p ks mode k m).bal=m.bal∧(wgF p ks mode k m).eff=m.eff:=by
 unfold wgF UN;split
 ·split
  ·exact⟨rfl,rfl,rfl,rfl⟩
  ·exact⟨rfl,rfl,rfl,rfl⟩
 ·exact⟨rfl,rfl,rfl,rfl⟩
theorem Yoi {m:Zc}(mo:Zg m){r:Int}(h0:0≤r∧r≤100):Zg (Zaf m r):=by
 have hs:=mo.u m.score (by simp);have hn2:=mo.n m.owner (by simp);refine⟨fun z hz=>?_,fun z hz=>?_⟩
 ·simp only[Zaf,List.mem_cons,List.not_mem_nil,or_false]at hz;rcases hz with rfl|rfl|rfl<;>omega
 ·simp only[Zaf,List.mem_cons,List.not_mem_nil,or_false]at hz;rcases hz with rfl|rfl|rfl<;>omega
structure Wkd (x0 x:List Zc×List Zi)(k:Nat):Prop where
 l1:x.1.length=x0.1.length
 m:∀y∈x.1,Zg y
 d:∀y∈x.2,Zv y
 n:x.2.length≤x0.2.length+k
 t:WP x.2+tot (x.1.map Zc.bal)=WP x0.2+tot (x0.1.map Zc.bal)
 o:∀j,(gr ZS x.1 j).owner=(gr ZS x0.1 j).owner
theorem GV {t:Int}(ht:0≤t∧t≤2147483647){m:Zc}(mo:Zg m):Zv (Gc t m):=by
 have hb:=mo.u m.bal (by simp);have hn:=mo.n m.owner (by simp)
 exact⟨hb,fun z hz=>by
  simp only[Gc,List.mem_cons,List.not_mem_nil,or_false]at hz
  rcases hz with rfl|rfl<;>omega⟩
theorem Ych {t:Int}(ht:0≤t∧t≤2147483647){W:List Int}{x:List Zc×List Zi}(hm:∀y∈x.1,Zg y)(hd:∀y∈x.2,Zv y)(hW:∀i∈W,0≤i∧i<x.1.length)(hT:WP x.2+tot (x.1.map Zc.bal)≤4611686018427387904):∀k,k≤W.length→Wkd x (lvK t W x k) k
 | 0,_=>⟨rfl,hm,hd,by simp [lvK],rfl,fun _=>rfl⟩
 | k+1,hk=>by
  have ih:=Ych ht hm hd hW hT k (by omega);have hi:=hW (at0 W k) (by rw[← Yx (by omega)];exact List.getElem_mem (by omega));obtain⟨i,he⟩:=Int.eq_ofNat_of_zero_le hi.1;rw[lvK,he];have hi2:i<(lvK t W x k).1.length:=by rw[ih.l1];omega
  have mo:=ih.m _ (YM (z:=ZS) hi2);have hb:=mo.u (gr ZS (lvK t W x k).1 i).bal (by simp);have hbt:=YC (VC ih.m) i;rw[VD hi2]at hbt;have h3:=ih.t;obtain⟨d1,_,d3⟩:=Zoz (M:=WP (lvK t W x k).2) (n:=x.2.length+k) ⟨ih.d,Int.le_refl _,ih.n⟩ (GV ht mo) (by show _+(gr ZS (lvK t W x k).1 i).bal≤_;omega);refine⟨by simp only[Zeo,Int.toNat_natCast,List.length_set];exact ih.l1,fun y hy=>?_,d1,d3,?_,fun j=>?_⟩
  ·simp only[Zeo,Int.toNat_natCast]at hy;rcases List.mem_or_eq_of_mem_set hy with hy|rfl
   ·exact ih.m y hy
   ·exact Yoi mo (by decide)
  ·simp only[Zeo,Int.toNat_natCast];rw[Zch,Gv hi2];show _+(gr ZS (lvK t W x k).1 i).bal+(_+(0-_))=_;omega
  ·simp only[Zeo,Int.toNat_natCast];rw[Ue hi2];split
   ·rename_i e;subst e;exact ih.o j
   ·exact ih.o j
theorem Zlb {l:List Zi}{ps:List Int}(hp:∀i,0≤at0 ps i)(hl:∀x∈l,0≤x.acct∧x.acct<ps.length∧0≤x.amt):∀k,k≤l.length→(dpK l ps k).length=ps.length∧(∀i,0≤at0 (dpK l ps k) i)∧tot (dpK l ps k)=tot ps+YP (l.map Zi.amt) k
 | 0,_=>⟨rfl,hp,by simp [dpK,YP]⟩
 | k+1,hk=>by
  obtain⟨h1,h2,h3⟩:=Zlb hp hl k (by omega);have hx:=hl _ (YM (z:=Z5) (k:=k) (l:=l) (by omega));have hj:(gr Z5 l k).acct.toNat<(dpK l ps k).length:=by omega
  rw[dpK];refine⟨by rw[List.length_set];exact h1,Zpk h2 hx.2.2 hj,?_⟩;rw[Zek hj,YP,Zoo (by omega),h3];omega
theorem Yac {l:List Int}(h0:∀i,0≤at0 l i){k:Nat}(hk:k≤l.length):0≤YP l k∧YP l k≤tot l:=⟨Uf h0 k,G8 h0 hk⟩
def Gd (ms:List Zc)(l:List Int)(st:Int):Prop:=l.Nodup∧∀z,z∈l↔∃j:Nat,z=j∧j<ms.length∧(gr ZS ms j).status=st
theorem Uv {ms:List Zc}{l:List Int}{st:Int}(h:Gd ms l st){z:Int}(hz:z∈l):0≤z∧z<ms.length∧(gr ZS ms z.toNat).status=st:=by
 obtain⟨j,rfl,h1,h2⟩:=(h.2 z).1 hz;exact⟨by omega,by omega,by simpa using h2⟩
theorem Ymv {ms:List Zc}{l:List Int}{st:Int}(h:Gd ms l st){j:Nat}(hj:j<ms.length)(e:(gr ZS ms j).status=st):(j:Int)∈l:=(h.2 _).2 ⟨j,rfl,hj,e⟩
theorem Yar {l:List Int}{n:Nat}(hn:l.Nodup)(hl:∀z∈l,0≤z∧z<n):l.length≤n:=by
 have h0:((List.range n).map fun j:Nat=>(j:Int)).Nodup:=by
  rw[List.Nodup,List.pairwise_map];exact List.nodup_range.imp fun h e=>h (by omega)
 have h1:l.Perm (((List.range n).map fun j:Nat=>(j:Int)).filter fun z=>decide (z∈l)):=by
  refine(List.perm_ext_iff_of_nodup hn (h0.filter _)).2 fun z=>?_;rw[List.mem_filter,decide_eq_true_eq];refine⟨fun hz=>⟨?_,hz⟩,fun hz=>hz.2⟩;obtain⟨h2,h3⟩:=hl z hz;exact List.mem_map.2 ⟨z.toNat,List.mem_range.2 (by omega),by omega⟩
 rw[h1.length_eq];refine Nat.le_trans (List.length_filter_le _ _) ?_;rw[List.length_map,List.length_range];exact Nat.le_refl _
theorem V8 {ms:List Zc}{l:List Int}{st:Int}(h:Gd ms l st):l.length≤ms.length:=Yar h.1 fun z hz=>by
 have:=Uv h hz;omega
theorem row_iffB {s:Zf}{l:List Int}{st:Int}:Ycz s l st=true↔Gd s.members l st:=by
 constructor
 ·intro h;rw[Ycz,Bool.and_eq_true,decide_eq_true_eq]at h;obtain⟨h1,h2⟩:=h;have hp:l.Perm ((stL s.members st s.members.length).map fun j:Nat=>(j:Int)):=by
   refine Zbj (Zde _ _ _) (fun x hx=>?_) ?_
   ·obtain⟨j,hj,rfl⟩:=List.mem_map.1 hx;rw[stL_mem]at hj;exact Yhv h1 hj.1 hj.2
   ·rw[List.length_map,h2,Zig]
  refine⟨hp.nodup_iff.2 (Zde _ _ _),fun z=>?_⟩;rw[hp.mem_iff,List.mem_map]
  constructor
  ·rintro⟨j,hj,rfl⟩;rw[stL_mem]at hj;exact⟨j,rfl,hj.1,hj.2⟩
  ·rintro⟨j,rfl,h3,h4⟩;exact⟨j,stL_mem.2 ⟨h3,h4⟩,rfl⟩
 ·intro h;rw[Ycz,Bool.and_eq_true,decide_eq_true_eq];refine⟨G4 fun j hj e=>Ymv h hj e,?_⟩;rw[Zig];have hp:l.Perm ((stL s.members st s.members.length).map fun j:Nat=>(j:Int)):=by
   refine(List.perm_ext_iff_of_nodup h.1 (Zde _ _ _)).2 fun z=>?_;rw[h.2 z,List.mem_map]
   constructor
   ·rintro⟨j,rfl,h3,h4⟩;exact⟨j,stL_mem.2 ⟨h3,h4⟩,rfl⟩
   ·rintro⟨j,hj,rfl⟩;rw[stL_mem]at hj;exact⟨j,rfl,hj.1,hj.2⟩
  rw[hp.length_eq,List.length_map]
theorem G2 {ms ms':List Zc}{l:List Int}{st:Int}(h:Gd ms l st)(hl:ms'.length=ms.length)(he:∀j,j<ms.length→((gr ZS ms' j).status=st↔(gr ZS ms j).status=st)):Gd ms' l st:=by
 refine⟨h.1,fun z=>(h.2 z).trans ?_⟩
 constructor
 ·rintro⟨j,e,h1,h2⟩;exact⟨j,e,by omega,(he j h1).2 h2⟩
 ·rintro⟨j,e,h1,h2⟩;exact⟨j,e,by omega,(he j (by omega)).1 h2⟩
theorem Zda {ms:List Zc}{l:List Int}{st:Int}(h:Gd ms l st){i:Nat}(hi:i<ms.length){m:Zc}(hm:m.status=st↔(gr ZS ms i).status=st):Gd (ms.set i m) l st:=by
 refine G2 h (by simp) fun j hj=>?_;rw[Ue hi];split
 ·rename_i e;subst e;exact hm
 ·exact Iff.rfl
theorem Ymx {ms:List Zc}{l:List Int}{st:Int}(h:Gd ms l st){i:Nat}(hi:i<ms.length){m:Zc}(h0:(gr ZS ms i).status≠st)(hm:m.status=st):Gd (ms.set i m) (l++[(i:Int)]) st:=by
 have hni:(i:Int) ∉ l:=fun c=>h0 (by have:=(Uv h c).2.2;simpa using this);refine⟨?_,fun z=>?_⟩
 ·rw[List.nodup_append];refine⟨h.1,by simp,fun a ha b hb e=>hni ?_⟩;rw[List.mem_singleton]at hb;rw[← hb,← e];exact ha
 ·rw[List.mem_append,List.mem_singleton,h.2 z]
  constructor
  ·rintro(⟨j,rfl,h1,h2⟩ | rfl)
   ·refine⟨j,rfl,by simpa using h1,?_⟩;rw[Ue hi];split
    ·exact hm
    ·exact h2
   ·exact⟨i,rfl,by simpa using hi,by rw[Ue hi,if_pos rfl];exact hm⟩
  ·rintro⟨j,rfl,h1,h2⟩;rw[Ue hi]at h2;by_cases e:j=i
   ·right;rw[e]
   ·left
    rw[if_neg e]at h2;exact⟨j,rfl,by simpa using h1,h2⟩
theorem Zwo {ms:List Zc}{l:List Int}{st:Int}(h:Gd ms l st){i:Nat}(hi:i<ms.length){m:Zc}(hm:m.status≠st):Gd (ms.set i m) (flt l i) st:=by
 refine⟨h.1.filter _,fun z=>?_⟩;rw[flt,List.mem_filter,h.2 z,decide_eq_true_eq]
 constructor
 ·rintro⟨⟨j,rfl,h1,h2⟩,h3⟩;refine⟨j,rfl,by simpa using h1,?_⟩;rw[Ue hi,if_neg (fun e=>h3 (by rw[e]))];exact h2
 ·rintro⟨j,rfl,h1,h2⟩;rw[Ue hi]at h2;by_cases e:j=i
  ·rw[if_pos e]at h2;exact absurd h2 hm
  ·rw[if_neg e]at h2;exact⟨⟨j,rfl,by simpa using h1,h2⟩,fun c=>e (by omega)⟩
theorem Znr {ms:List Zc}{l:List Int}{st:Int}{i:Nat}(h:Gd ms ((i:Int)::l) st){m:Zc}(hm:m.status≠st):Gd (ms.set i m) l st:=by
 have hi:i<ms.length:=by have:=(Uv h (z:=i) (by simp)).2.1;omega
 have hn:=List.nodup_cons.1 h.1;refine⟨hn.2,fun z=>?_⟩;have hz:=h.2 z;rw[List.mem_cons]at hz
 constructor
 ·intro hzl;obtain⟨j,rfl,h1,h2⟩:=hz.1 (.inr hzl);refine⟨j,rfl,by simpa using h1,?_⟩;rw[Ue hi,if_neg (fun e=>hn.1 (by rw[← e];exact hzl))];exact h2
 ·rintro⟨j,rfl,h1,h2⟩;rw[Ue hi]at h2;by_cases e:j=i
  ·rw[if_pos e]at h2;exact absurd h2 hm
  ·rw[if_neg e]at h2;rcases hz.2 ⟨j,rfl,by simpa using h1,h2⟩ with c|c
   ·exact absurd (by omega) e
   ·exact c
theorem Zzz {ms:List Zc}{m:Zc}{j:Nat}:gr ZS (ms++[m]) j=if j=ms.length then m else gr ZS ms j:=by
 by_cases e:j=ms.length
 ·rw[if_pos e,Yl (by simp;omega)];subst e;rw[List.getElem_append_right (Nat.le_refl _)];simp
 ·rw[if_neg e];by_cases hj:j<ms.length
  ·rw[Yl (by simp;omega),Yl hj,List.getElem_append_left hj]
  ·rw[Zrw (by simp;omega),Zrw (by omega)]
theorem Zrj {ms:List Zc}{l:List Int}{st:Int}(h:Gd ms l st){m:Zc}(hm:m.status≠st):Gd (ms++[m]) l st:=by
 refine⟨h.1,fun z=>(h.2 z).trans ?_⟩
 constructor
 ·rintro⟨j,e,h1,h2⟩;exact⟨j,e,by simp;omega,by rw[Zzz,if_neg (by omega)];exact h2⟩
 ·rintro⟨j,e,h1,h2⟩;rw[Zzz]at h2;split at h2
  ·exact absurd h2 hm
  ·exact⟨j,e,by simp at h1;omega,h2⟩
theorem Zht {p:Ze}(ok:Zj p){m:Zc}(mo:Zg m){a:Int}(ha:0≤a):Zg (JU p m a)∧(JU p m a).owner=m.owner∧(JU p m a).bal=m.bal+WK p m a∧0≤WK p m a∧WK p m a≤a∧((JU p m a).status=m.status∨((m.status=4∨m.status=5)∧(JU p m a).status=1)):=by
 have hb:=mo.u m.bal (by simp);have he:=mo.u m.eff (by simp);have hs:=mo.u m.score (by simp);have hn1:=mo.n m.streak (by simp);have hn2:=mo.n m.owner (by simp);have hn3:=mo.n m.status (by simp);have hc:=ok.w p.cap (by simp [Yw]);have hf:0≤WH p.cap m.bal∧(WH p.cap m.bal=0∨m.bal+WH p.cap m.bal=p.cap):=by unfold WH;split<;>omega
 have ht:0≤WK p m a∧WK p m a≤a∧WK p m a≤WH p.cap m.bal:=by unfold WK;omega
 unfold JU;split
 ·rename_i c;refine⟨⟨fun z hz=>?_,fun z hz=>?_⟩,rfl,rfl,ht.1,ht.2.1,.inr ⟨c.2,rfl⟩⟩
  ·simp only[List.mem_cons,List.not_mem_nil,or_false]at hz;rcases hz with rfl|rfl|rfl<;>omega
  ·simp only[List.mem_cons,List.not_mem_nil,or_false]at hz;rcases hz with rfl|rfl|rfl<;>omega
 ·refine⟨⟨fun z hz=>?_,fun z hz=>?_⟩,rfl,rfl,ht.1,ht.2.1,.inl rfl⟩
  ·simp only[List.mem_cons,List.not_mem_nil,or_false]at hz;rcases hz with rfl|rfl|rfl<;>omega
  ·simp only[List.mem_cons,List.not_mem_nil,or_false]at hz;rcases hz with rfl|rfl|rfl<;>omega
structure ZL (ex:List Int)(x:CrX)(pn:Nat)(T:Int):Prop where
 b:ZC x.ms x.ps
 l1:x.ms.length≤128
 l2:x.ps.length=pn
 t:tot x.ps+tot (x.ms.map Zc.bal)=T
 e:Gd x.ms x.en 1
 x:Gd x.ms ex 3
theorem Zwz {p:Ze}(ok:Zj p){ex:List Int}{x:CrX}{pn:Nat}{T:Int}(h:ZL ex x pn T){i:Nat}(hi:i<x.ms.length){a acct:Int}(ha:0≤a)(h0:0≤acct∧acct<pn):ZL ex (Zqg p i a acct x) pn (T+a):=by
 obtain⟨mo,o1,o2⟩:=h.b.at hi;obtain⟨g1,g2,g3,g4,g5,g6⟩:=Zht ok mo ha;have hj:acct.toNat<x.ps.length:=by have:=h.l2;omega
 have ht:=h.t;refine⟨(h.b.pay hj (by omega)).setM i g1 ⟨by rw[g2];exact o1,by rw[g2,List.length_set];exact o2⟩,by simp only[Zqg,List.length_set];exact h.l1,by simp only[Zqg,List.length_set];exact h.l2,?_,?_,?_⟩
 ·simp only[Zqg];rw[Zek hj,Gv hi,g3];omega
 ·simp only[Zqg];rcases g6 with g6 | ⟨g6,g7⟩
  ·rw[if_pos g6];exact Zda h.e hi (by rw[g6])
  ·rw[if_neg (by rw[g7];omega)];exact Ymx h.e hi (by omega) g7
 ·simp only[Zqg];refine Zda h.x hi ?_;rcases g6 with g6 | ⟨g6,g7⟩
  ·rw[g6]
  ·rw[g7];omega
theorem Zky {p:Ze}(ok:Zj p){ex:List Int}{x:CrX}{pn:Nat}(hpn:pn≤9223372036854775807){T:Int}(h:ZL ex x pn T){d:Zn}(ha:0≤d.amt)(h0:0≤d.acct∧d.acct<pn)(hm:d.new=true∨(0≤d.mem∧d.mem<x.ms.length)):ZL ex (WX p d x) pn (T+d.amt):=by
 have hj:d.acct.toNat<x.ps.length:=by have:=h.l2;omega
 have ht:=h.t;unfold WX
 cases c:d.new with
 | true =>
  rw[if_pos rfl];by_cases c1:128≤x.ms.length
  ·rw[if_pos c1];refine⟨h.b.pay hj ha,h.l1,by simp only[List.length_set];exact h.l2,?_,h.e,h.x⟩;simp only;rw[Zek hj];omega
  ·rw[if_neg c1];have hl:=h.l2;refine Zwz ok (x:=⟨x.ms++[⟨0,0,0,0,d.acct,4⟩],x.ps,x.en⟩) ⟨⟨fun y hy=>?_,fun y hy=>?_,h.b.p⟩,by simp only[List.length_append,List.length_singleton];omega,h.l2,?_,Zrj h.e (by simp),Zrj h.x (by simp)⟩ (i:=x.ms.length) (by simp) ha h0
   ·rcases List.mem_append.1 hy with hy|hy
    ·exact h.b.m y hy
    ·rw[List.mem_singleton]at hy;subst hy
     exact⟨fun z hz=>by simp at hz;omega,fun z hz=>by
      simp only[List.mem_cons,List.not_mem_nil,or_false]at hz
      rcases hz with rfl|rfl|rfl<;>omega⟩
   ·rcases List.mem_append.1 hy with hy|hy
    ·exact h.b.o y hy
    ·rw[List.mem_singleton]at hy;subst hy;simp only;omega
   ·simp only[List.map_append,List.map_cons,List.map_nil,Zad,Vn,Zpi];omega
 | false =>
  rw[if_neg (by decide)];rcases hm with hm|hm
  ·rw[c]at hm;cases hm
  ·exact Zwz ok h (by omega) ha h0
theorem Zvy {p:Ze}(d:Zn)(x:CrX):x.ms.length≤(WX p d x).ms.length:=by
 unfold WX;split
 ·split
  ·exact Nat.le_refl _
  ·simp [Zqg]
 ·simp [Zqg]
theorem Ylz {p:Ze}(ok:Zj p){ex:List Int}{x:CrX}{pn:Nat}(hpn:pn≤9223372036854775807){T:Int}(h:ZL ex x pn T){l:List Zn}(hl:∀d∈l,0≤d.amt∧0≤d.acct∧d.acct<pn∧(d.new=true∨(0≤d.mem∧d.mem<x.ms.length))) :
  ∀k,k≤l.length→ZL ex (crK p l x k) pn (T+YP (l.map Zn.amt) k)∧x.ms.length≤(crK p l x k).ms.length
 | 0,_=>⟨by simpa [crK,YP] using h,Nat.le_refl _⟩
 | k+1,hk=>by
  obtain⟨h1,h2⟩:=Ylz ok hpn h hl k (by omega);obtain⟨d1,d2,d3,d4⟩:=hl _ (YM (z:=Wd) (k:=k) (l:=l) (by omega));have e:at0 (l.map Zn.amt) k=(gr Wd l k).amt:=by rw[Yl (by omega),← Yx (by rw[List.length_map];omega),List.getElem_map]
  refine⟨?_,Nat.le_trans h2 (Zvy _ _)⟩;rw[YP,e,← Int.add_assoc];exact Zky ok hpn h1 d1 ⟨d2,d3⟩ (d4.imp id fun d4=>⟨d4.1,by omega⟩)
theorem Zmi {p:Ze}(ok:Zj p)(hr:Ym p=true){m:Zc}(mo:Zg m):Zg (Vk p m).1∧(Vk p m).1.owner=m.owner∧(Vk p m).1.bal=m.bal∧((Vk p m).2=true→(Vk p m).1.status=2∧m.status=1):=by
 have hb:=mo.u m.bal (by simp);have he:=mo.u m.eff (by simp);have hs:=mo.u m.score (by simp);have hn1:=mo.n m.streak (by simp);have hn2:=mo.n m.owner (by simp);have hn3:=mo.n m.status (by simp);have hw:=GK (Gn hr) ok hb;unfold Vk;split
 ·rename_i c;refine⟨⟨fun z hz=>?_,fun z hz=>?_⟩,rfl,rfl,fun _=>⟨rfl,c.1⟩⟩
  ·simp only[List.mem_cons,List.not_mem_nil,or_false]at hz;rcases hz with rfl|rfl|rfl<;>omega
  ·simp only[List.mem_cons,List.not_mem_nil,or_false]at hz;rcases hz with rfl|rfl|rfl<;>omega
 ·exact⟨mo,rfl,rfl,fun h=>by cases h⟩
structure Wju (W rest:List Int)(x0 x:StX)(pn k:Nat):Prop where
 l1:x.ms.length=x0.ms.length
 m:∀y∈x.ms,Zg y
 o:∀y∈x.ms,0≤y.owner∧y.owner<pn
 d:∀y∈x.ds,Zv y
 n:x.ds.length≤x0.ds.length+k
 t:WP x.ds+tot (x.ms.map Zc.bal)=WP x0.ds+tot (x0.ms.map Zc.bal)
 e:Gd x.ms (W.drop k++rest) 1
 rx:Gd x.ms x.ex 3
 u:x.out.length≤x0.out.length+k
 g:x.go.length≤x0.go.length+k
theorem Ylr {p:Ze}(ok:Zj p)(hr:Ym p=true){t:Int}(ht:0≤t∧t≤2147483647){W rest:List Int}{x:StX}{pn:Nat}(h:Wju W rest x x pn 0)(hT:WP x.ds+tot (x.ms.map Zc.bal)≤4611686018427387904):∀k,k≤W.length→Wju W rest x (stK p t W x k) pn k
 | 0,_=>h
 | k+1,hk=>by
  have ih:=Ylr ok hr ht h hT k (by omega);have hd:W.drop k=at0 W k::W.drop (k+1):=by rw[List.drop_eq_getElem_cons (by omega),Yx (by omega)]
  have hin:=Uv ih.e (z:=at0 W k) (by rw[hd];simp);obtain⟨i,he⟩:=Int.eq_ofNat_of_zero_le hin.1;rw[he]at hin hd;rw[Int.toNat_natCast]at hin;rw[stK,he,Int.toNat_natCast];have hi:i<(stK p t W x k).ms.length:=by omega
  have ie:=ih.e;rw[hd,List.cons_append]at ie;have mo:=ih.m _ (YM (z:=ZS) hi);have oo:=ih.o _ (YM (z:=ZS) hi);obtain⟨g1,g2,g3,g4⟩:=Zmi ok hr mo;have hb:=mo.u (gr ZS (stK p t W x k).ms i).bal (by simp);have hbt:=YC (VC ih.m) i;rw[VD hi]at hbt;have h3:=ih.t;have hn:=ih.n;have hu:=ih.u;have hg:=ih.g;unfold Zbi
  cases c:(Vk p (gr ZS (stK p t W x k).ms i)).2 with
  | true =>
   obtain⟨s1,s2⟩:=g4 c;rw[if_pos rfl];refine⟨by simp only[List.length_set];exact ih.l1,fun y hy=>?_,fun y hy=>?_,ih.d,by simp only;omega,?_,Znr ie (by omega),Zda ih.rx hi (by omega),by simp only;omega,by simp only[List.length_append,List.length_singleton];omega⟩
   ·rcases List.mem_or_eq_of_mem_set hy with hy|rfl
    ·exact ih.m y hy
    ·exact g1
   ·rcases List.mem_or_eq_of_mem_set hy with hy|rfl
    ·exact ih.o y hy
    ·rw[g2];exact oo
   ·simp only;rw[Gv hi,g3];omega
  | false =>
   rw[if_neg (by decide)];obtain⟨d1,_,d3⟩:=Zoz (M:=WP (stK p t W x k).ds) (n:=x.ds.length+k) ⟨ih.d,Int.le_refl _,ih.n⟩ (GV ht mo) (by show _+(gr ZS (stK p t W x k).ms i).bal≤_;omega);refine⟨by simp only[List.length_set];exact ih.l1,fun y hy=>?_,fun y hy=>?_,d1,d3,?_,Znr ie (by simp [Zwf]),Zwo ih.rx hi (by simp [Zwf]),by simp only[List.length_append,List.length_singleton];omega,by simp only;omega⟩
   ·rcases List.mem_or_eq_of_mem_set hy with hy|rfl
    ·exact ih.m y hy
    ·exact Ydw mo
   ·rcases List.mem_or_eq_of_mem_set hy with hy|rfl
    ·exact ih.o y hy
    ·exact oo
   ·simp only;rw[Zch,Gv hi];show _+(gr ZS (stK p t W x k).ms i).bal+(_+(0-_))=_;omega
structure ZI (pn:Nat)(m:Zm):Prop where
 ok:ZM m
 f:W9 m=true
 a:0≤m.acct∧m.acct<pn
 t:0≤m.to∧m.to<pn
theorem motFits_iff {m:Zm}:W9 m=true↔Va m=true∧Ux m=true∧UT m.yes 128=true∧UT m.no 128=true∧(if m.what=1 then Ym m.par else decide (m.par=WD))=true:=by
 simp only[W9,Bool.and_eq_true,and_assoc]
theorem ZI.state {pn:Nat}{m:Zm}(h:ZI pn m){st:Int}(hs:1≤st∧st≤4){due:Int}(hd:0≤due∧due≤2147483647):ZI pn { m with state:=st,due:=due }:=by
 obtain⟨f1,f2,f3,f4,f5⟩:=motFits_iff.1 h.f;refine⟨⟨h.ok.a,fun z hz=>?_,h.ok.p⟩,motFits_iff.2 ⟨?_,?_,f3,f4,f5⟩,h.a,h.t⟩
 ·have hn:=h.ok.n;simp only[List.forall_mem_cons]at hn;simp only[List.mem_cons,List.not_mem_nil,or_false]at hz;rcases hz with rfl|rfl|rfl|rfl|rfl|rfl<;>omega
 ·simp only[Va,Bool.and_eq_true,wi_iff]at f1 ⊢;exact⟨f1.1,hs⟩
 ·simp only[Ux,Bool.and_eq_true,wi_iff]at f2 ⊢;exact⟨⟨f2.1.1,hd⟩,f2.2⟩
theorem ZI.fin {pn:Nat}{m:Zm}(h:ZI pn m)(b:Bool):ZI pn (Zwh m b):=by
 obtain⟨f1,f2,f3,f4,f5⟩:=motFits_iff.1 h.f;simp only[Ux,Bool.and_eq_true,wi_iff]at f2;exact h.state (by cases b<;>decide) f2.1.2
theorem Zwn {pn:Nat}{p:Ze}(hp:0≤p.enact){ms:List Zc}{ep:Int}(he:0≤ep){m:Zm}(h:ZI pn m):ZI pn (Zec p ms ep m):=by
 unfold Zec;split
 ·split
  ·exact h.state (by decide) (by omega)
  ·obtain⟨f1,f2,f3,f4,f5⟩:=motFits_iff.1 h.f;simp only[Ux,Bool.and_eq_true,wi_iff]at f2;exact h.state (by decide) f2.1.2
 ·exact h
theorem Ydg {l:List Zm}{i j:Nat}{m:Zm}(hi:i<l.length):gr Yj (l.set i m) j=if j=i then m else gr Yj l j:=by
 by_cases e:j=i
 ·subst e;rw[Yl (by simpa using hi),if_pos rfl,List.getElem_set_self]
 ·rw[if_neg e];by_cases hj:j<l.length
  ·rw[Yl (by simpa using hj),Yl hj,List.getElem_set_ne (Ne.symm e)]
  ·unfold gr;rw[List.getD_eq_getElem?_getD,List.getD_eq_getElem?_getD,List.getElem?_eq_none (by simpa using hj),List.getElem?_eq_none (by omega)]
structure Wjv (W:List Int)(x0 x:MoX)(k:Nat):Prop where
 r:Ym x.par=true
 ok:Zj x.par
 tr:0≤x.tr
 l2:x.ps.length=x0.ps.length
 p:∀i,0≤at0 x.ps i
 t:tot x.ps+x.tr=tot x0.ps+x0.tr
 n:x.mo.length=x0.mo.length
 m:∀m∈x.mo,ZI x0.ps.length m
 s:∀j,k≤j→j<W.length→(gr Yj x.mo (at0 W j).toNat).state=2
 d:x.dn.length≤x0.dn.length+k
theorem Yef {W:List Int}{x0 x:MoX}{k:Nat}(h:Wjv W x0 x k)(hW:W.Nodup)(hr:∀z∈W,0≤z∧z<x0.mo.length)(hk:k<W.length):Wjv W x0 (Zjf (at0 W k).toNat x) (k+1):=by
 have hmem:at0 W k∈W:=by rw[← Yx hk];exact List.getElem_mem hk
 have hin:=hr _ hmem;obtain⟨i,he⟩:=Int.eq_ofNat_of_zero_le hin.1;rw[he]at hin;rw[he,Int.toNat_natCast];have hi:i<x.mo.length:=by have:=h.n;omega
 obtain⟨m,hm⟩:∃m,m=gr Yj x.mo i:=⟨_,rfl⟩
 have hmr:ZI x0.ps.length m:=by rw[hm];exact h.m _ (YM hi)
 have ht:=h.t;have htr:=h.tr;have hl:=h.l2;have hmo:∀b,∀m'∈x.mo.set i (Zwh m b),ZI x0.ps.length m':=fun b m' hm'=>by
  rcases List.mem_or_eq_of_mem_set hm' with hm' | rfl
  ·exact h.m _ hm'
  ·exact hmr.fin b
 have hst:∀b,∀j,k+1≤j→j<W.length→(gr Yj (x.mo.set i (Zwh m b)) (at0 W j).toNat).state=2:=fun b j h1 h2=>by
  rw[Ydg hi,if_neg]
  ·exact h.s j (by omega) h2
  ·intro e;have hz:=hr (at0 W j) (by rw[← Yx h2];exact List.getElem_mem h2);have e2:at0 W j=at0 W k:=by rw[he];omega
   rw[← Yx h2,← Yx hk]at e2;exact List.pairwise_iff_getElem.1 hW k j hk h2 (by omega) e2.symm
 have hd:=h.d;have hdn:∀b:Bool,(if b then x.dn++[(i:Int)] else x.dn).length≤x0.dn.length+(k+1):=fun b=>by
  cases b
  ·simp only[Bool.false_eq_true,if_false];omega
  ·simp only[if_true,List.length_append,List.length_singleton];omega
 rw[Zjf,← hm];obtain⟨f1,f2,f3,f4,f5⟩:=motFits_iff.1 hmr.f;have ha:=hmr.ok.a;unfold Vb;split
 ·exact⟨h.r,h.ok,h.tr,h.l2,h.p,h.t,by simp only[List.length_set];exact h.n,hmo _,hst _,hdn _⟩
 ·split
  ·exact⟨h.r,h.ok,h.tr,h.l2,h.p,h.t,by simp only[List.length_set];exact h.n,hmo _,hst _,hdn _⟩
  ·split
   ·rename_i c;rw[if_pos c]at f5;exact⟨f5,hmr.ok.p,h.tr,h.l2,h.p,h.t,by simp only[List.length_set];exact h.n,hmo _,hst _,hdn _⟩
   ·split
    ·rename_i c;have hj:m.to.toNat<x.ps.length:=by have:=hmr.t;omega
     refine⟨h.r,h.ok,by simp only;omega,by simp only[List.length_set];exact h.l2,Zpk h.p ha.1 hj,?_,by simp only[List.length_set];exact h.n,hmo _,hst _,hdn _⟩;simp only;rw[Zek hj];omega
    ·exact⟨h.r,h.ok,h.tr,h.l2,h.p,h.t,by simp only[List.length_set];exact h.n,hmo _,hst _,hdn _⟩
theorem Ykp {W:List Int}{x:MoX}(h:Wjv W x x 0)(hW:W.Nodup)(hr:∀z∈W,0≤z∧z<x.mo.length):∀k,k≤W.length→Wjv W x (moK W x k) k
 | 0,_=>h
 | k+1,hk=>Yef (Ykp h hW hr k (by omega)) hW hr (by omega)
theorem Znl (ms:List Zm)(now:Int)(qu:Bool)(k:Nat):(VI ms now qu k).Nodup:=by
 unfold VI;rw[List.Nodup,List.pairwise_map];exact(List.Nodup.sublist List.filter_sublist List.nodup_range).imp fun h e=>h (by omega)
theorem Znj {ms:List Zm}{now:Int}{qu:Bool}{k:Nat}{z:Int}(hz:z∈VI ms now qu k):(gr Yj ms z.toNat).state=2:=by
 obtain⟨i,hi,rfl⟩:=List.mem_map.1 hz;have:=(List.mem_filter.1 hi).2;simp only[Zfg,Bool.and_eq_true,decide_eq_true_eq]at this
 simpa using this.1
structure Zt (s:Zf)(D:Nat):Prop where
 r:Ym s.par=true
 ok:ZF s
 ep:0≤s.ep∧s.ep<1073741824
 be:ZC s.members s.purses
 ml:s.members.length≤128
 pl:s.purses.length≤64
 en:Gd s.members s.entry 1
 ex:Gd s.members s.exit 3
 dd:∀x∈s.dues,Zv x∧0≤x.acct∧x.acct<s.purses.length
 dn:s.dues.length≤D
 oo:∀d∈s.pool,ZE d∧0≤d.acct∧d.acct<s.purses.length∧(d.new=true∨(0≤d.mem∧d.mem<s.members.length))
 on:s.pool.length≤256
 mm:∀m∈s.motions,ZI s.purses.length m
 mn:s.motions.length≤32
 mon:tot s.purses+tot (s.members.map Zc.bal)+WP s.dues+tot (s.pool.map Zn.amt)+s.treas+s.burn=s.gen+s.mint
 top:s.gen+s.mint≤s.most∧s.most≤4611686018427387904
theorem ZF.set {s:Zf}(h:ZF s){par:Ze}(hp:Zj par){mint burn treas ep calm:Int}{most gen:Int}(h1:0≤most∧most≤18446744073709551615)(h2:0≤gen∧gen≤18446744073709551615)(h3:0≤mint∧mint≤18446744073709551615)(h4:0≤burn∧burn≤18446744073709551615)(h5:0≤treas∧treas≤18446744073709551615)(h6 : -9223372036854775808≤ep∧ep≤9223372036854775807)(h7 : -9223372036854775808≤calm∧calm≤9223372036854775807)
  {emer:Bool} {purses:List Int} {members:List Zc} {entry exit:List Int} {pool:List Zn} {dues:List Zi} {motions:List Zm} {marks:List Int} {ring:List (List Int)}:ZF ⟨par,most,gen,mint,burn,treas,ep,calm,emer,purses,members,entry,exit,pool,dues,motions,marks,ring⟩ :=
 ⟨hp,fun z hz=>by
  simp only[List.mem_cons,List.not_mem_nil,or_false]at hz;rcases hz with rfl|rfl|rfl|rfl|rfl<;>assumption,fun z hz=>by
  simp only[List.mem_cons,List.not_mem_nil,or_false]at hz
  rcases hz with rfl|rfl<;>assumption⟩
theorem ZF.all {s:Zf}(h:ZF s):(0≤s.most∧s.most≤18446744073709551615)∧(0≤s.gen∧s.gen≤18446744073709551615)∧(0≤s.mint∧s.mint≤18446744073709551615)∧(0≤s.burn∧s.burn≤18446744073709551615)∧(0≤s.treas∧s.treas≤18446744073709551615)∧(-9223372036854775808≤s.ep∧s.ep≤9223372036854775807)∧(-9223372036854775808≤s.calm∧s.calm≤9223372036854775807):=by
 have hu:=h.u;have hn:=h.n;simp only[List.forall_mem_cons]at hu hn;exact⟨hu.1,hu.2.1,hu.2.2.1,hu.2.2.2.1,hu.2.2.2.2.1,hn.1,hn.2.1⟩
theorem Zt.parts {s:Zf}{D:Nat}(h:Zt s D):0≤tot s.purses∧0≤tot (s.members.map Zc.bal)∧0≤WP s.dues∧0≤tot (s.pool.map Zn.amt)∧0≤s.treas∧0≤s.burn :=
 ⟨h.be.pur,h.be.bal,Yy (Zhy fun x hx=>(h.dd x hx).1),Yy (Vw Zn.amt s.pool fun x hx=>(h.oo x hx).1.a.1),(h.ok.u _ (by simp)).1,(h.ok.u _ (by simp)).1⟩
theorem Zt.sum {s:Zf}{D:Nat}(h:Zt s D):tot s.purses+tot (s.members.map Zc.bal)+WP s.dues+tot (s.pool.map Zn.amt)+s.treas+s.burn≤4611686018427387904:=by
 have:=h.mon;have:=h.top;omega
theorem fitsT_iff {s:Zf}:YQ s=true↔Ym s.par=true∧wi s.ep 0 1073741824=true∧wi s.calm 0 1073741824=true∧VR s=true∧Wt s=true∧UK s=true∧Vo s=true∧Jm s=true∧WL s=true:=by
 simp only[YQ,Bool.and_eq_true,and_assoc]
theorem acctT_iff {s:Zf}{i:Int}:W8 s i=true↔0≤i∧i<s.purses.length:=by
 rw[W8,wi_iff];omega
theorem Yje {h:PH}{v:SV}{s:Zf}(hs:Zs h v s)(hf:YQ s=true)(he:s.ep<1073741824){D:Nat}(hd:s.dues.length≤D):Zt s D:=by
 obtain⟨be,hr,hep,hlen,htot⟩:=You hs hf;obtain⟨f1,f2,f3,f4,f5,f6,f7,f8,f9⟩:=fitsT_iff.1 hf;simp only[Wt,Bool.and_eq_true]at f5;have f53:=row_iffB.1 f5.1.2;have f54:=row_iffB.1 f5.2;simp only[UK,Bool.and_eq_true,List.all_eq_true,decide_eq_true_eq,Zcu,Zkz,List.mem_range]at f6;simp only[Vo,Bool.and_eq_true,List.all_eq_true,decide_eq_true_eq]at f7;simp only[WL,Bool.and_eq_true,decide_eq_true_eq,Zpg,Zkd,Zmt,Ga,Zmr]at f9;obtain⟨q,t1,t2,t3⟩:=hs.t;refine⟨f1,hs.ok,⟨hep.1,he⟩,⟨be.m,be.o,be.p⟩,hlen.2,hlen.1,f53,f54,fun x hx=>⟨hs.dd x hx,?_⟩,hd,fun d hd=>⟨hs.oo d hd,?_⟩,f6.1.1,fun m hm=>?_,f7.1,?_,⟨f9.1.1,f9.1.2⟩⟩
 ·obtain⟨k,hk,rfl⟩:=List.mem_iff_getElem.1 hx;have:=(f6.2 k hk).1.1;rw[Yl hk]at this;simp only[G6,Bool.and_eq_true]at this;exact acctT_iff.1 this.1.1.1
 ·have:=f6.1.2 d hd;simp only[UR,Bool.and_eq_true,Bool.or_eq_true,wi_iff]at this;have h2:=acctT_iff.1 this.1.2;exact⟨h2.1,h2.2,this.2.imp id fun c=>by omega⟩
 ·have:=f7.2 m hm;have h1:=acctT_iff.1 this.1.2;have h2:=acctT_iff.1 this.2;refine⟨?_,this.1.1,h1,h2⟩;rw[← t2]at hm;obtain⟨y,hy,rfl⟩:=List.mem_map.1 hm;exact(t3 y hy).ok
 ·have e:WP s.dues=tot (s.dues.map Zi.amt):=rfl;have q4:tot (s.members.map Zc.bal)+tot s.purses+tot (s.pool.map Zn.amt)+tot (s.dues.map Zi.amt)+s.treas+s.burn=s.gen+s.mint:=by first|exact f9.2|exact of_decide_eq_true f9.2
  rw[e];omega
theorem Yck {f:Nat→Zc→Zc}(hf:∀k m,(f k m).bal=m.bal)(l:List Zc):∀k,k≤l.length→(upI f l k).map Zc.bal=l.map Zc.bal
 | 0,_=>rfl
 | k+1,hk=>by
  have e:(gr ZS l k).bal=(l.map Zc.bal)[k]'(by rw[List.length_map];omega):=by rw[List.getElem_map,Yl hk]
  rw[upI,List.map_set,Yck hf l k (by omega),hf,e,List.set_getElem_self]
theorem ZC.upI {f:Nat→Zc→Zc}(hf:∀k m,Zg m→Zg (f k m)∧(f k m).owner=m.owner){l:List Zc}{ps:List Int}(h:ZC l ps){k:Nat}(hk:k≤l.length):ZC (upI f l k) ps:=by
 have:=Zjy (f:=f) (l:=l) (fun m=>Zg m∧0≤m.owner∧m.owner<ps.length) (fun k m hm=>⟨(hf k m hm.1).1,by rw[(hf k m hm.1).2];exact hm.2⟩) (fun m hm=>⟨h.m m hm,h.o m hm⟩) k hk;exact⟨fun m hm=>(this m hm).1,fun m hm=>(this m hm).2,h.p⟩
theorem ZC.upN {f:Zc→Zc}(hf:∀m,Zg m→Zg (f m)∧(f m).owner=m.owner){l:List Zc}{ps:List Int}(h:ZC l ps){k:Nat}(hk:k≤l.length):ZC (upN f l k) ps:=by
 have:=Zmj (f:=f) (l:=l) (fun m=>Zg m∧0≤m.owner∧m.owner<ps.length) (fun m hm=>⟨(hf m hm.1).1,by rw[(hf m hm.1).2];exact hm.2⟩) (fun m hm=>⟨h.m m hm,h.o m hm⟩) k hk;exact⟨fun m hm=>(this m hm).1,fun m hm=>(this m hm).2,h.p⟩
theorem Zhi {f:Nat→Zc→Zc}(hf:∀k m,(f k m).status=m.status){l:List Zc}{q:List Int}{st:Int}(h:Gd l q st){k:Nat}(hk:k≤l.length):Gd (upI f l k) q st :=
 G2 h (VB f l k) fun j _=>by
  rw[Yat f l k hk j];split
  ·rw[hf]
  ·exact Iff.rfl
theorem Ycu {calm pr ac:Int}:0≤(JS calm pr ac).1∧(JS calm pr ac).1≤1073741824:=by
 unfold JS;split
 ·decide
 ·simp only;omega
theorem Yqd {s:Zf}{D:Nat}(h:Zt s D):Zt (wgS s) D:=by
 have hl:(wgS s).members.length=s.members.length:=VB _ _ _;obtain⟨a1,a2,a3,a4,a5,a6,a7⟩:=h.ok.all;have hc:=Ycu (calm:=s.calm) (pr:=Zgt s) (ac:=Gg s);have hb:(wgS s).members.map Zc.bal=s.members.map Zc.bal:=Yck (fun k m=>(Yho _ _ _ k m).2.2.1) _ _ (Nat.le_refl _);refine⟨h.r,ZF.set h.ok h.ok.p a1 a2 a3 a4 a5 a6 (by omega),h.ep,ZC.upI (fun k m hm=>⟨Ykm h.ok.p h.r _ _ k hm,(Yho _ _ _ k m).1⟩) h.be (Nat.le_refl _),by rw[hl];exact h.ml,h.pl,Zhi (fun k m=>(Yho _ _ _ k m).2.1) h.en (Nat.le_refl _),Zhi (fun k m=>(Yho _ _ _ k m).2.1) h.ex (Nat.le_refl _),h.dd,h.dn,fun d hd=>?_,h.on,h.mm,h.mn,?_,h.top⟩
 ·rw[hl];exact h.oo d hd
 ·rw[hb];exact h.mon
theorem Wgu {s:Zf}{D:Nat}(h:Zt s D){r:Zk}(ha:0≤r.act∧r.act≤18446744073709551615):0≤mtN s r∧s.gen+s.mint+mtN s r≤s.most:=by
 have:=h.top;have hb:=Yvi h.ok.p ha;unfold mtN Znx;split
 ·omega
 ·rename_i c;omega
theorem Ylt {s:Zf}{D:Nat}(h:Zt s D)(k:Nat)(hk:k≤s.members.length):∀x∈mtL s k,Zg x:=fun x hx=>by
 obtain⟨j,hj,rfl⟩:=List.mem_map.1 hx;exact h.be.m _ (YM (by have:=Zwr hj;omega))
theorem Wct {s:Zf}{D:Nat}(h:Zt s D){r:Zk}(ha:0≤r.act∧r.act≤18446744073709551615):(∀i,0≤at0 (mtP s r) i∧at0 (mtP s r) i≤mtN s r)∧(mtP s r).length=(mtW s).length∧∀k,k≤(mtP s r).length→0≤YP (mtP s r) k∧YP (mtP s r) k≤mtN s r:=by
 have hn:=(Wgu h ha).1;have hm:=Ylt h s.members.length (Nat.le_refl _);refine⟨fun i=>Zka h.r hn hm i,by rw[mtP,JX,mtL,List.length_map];rfl,fun k hk=>?_⟩;rw[mtP,JX]at hk;exact Zrh hn (fun i=>Vw (Wn s.par) _ (fun x hx=>(Yws h.r (hm x hx)).1) i) (by rw[List.length_map];exact hk)
theorem Ykb {s:Zf}:∀i∈mtW s,i<s.members.length:=fun i hi=>Zwr hi
theorem Yzm {s:Zf}{D:Nat}(h:Zt s D){r:Zk}(ha:0≤r.act∧r.act≤18446744073709551615){k:Nat}(hk:k≤(mtW s).length):Wke (mtP s r) (s.members,s.purses) (mtX s r k) k :=
 Ylo h.ok.p h.be Ykb (fun i=>((Wct h ha).1 i).1) k hk
theorem Zqr {s:Zf}{D:Nat}(h:Zt s D){r:Zk}(ha:0≤r.act∧r.act≤18446744073709551615){k:Nat}(hk:k≤(mtW s).length):Zt (Zja s r k) D:=by
 have hx:=Yzm h ha hk;obtain⟨hn,hn2⟩:=Wgu h ha;obtain⟨_,p2,p3⟩:=Wct h ha;have hp:=p3 k (by omega);obtain⟨a1,a2,a3,a4,a5,a6,a7⟩:=h.ok.all;obtain⟨b1,b2,b3,b4,b5,b6⟩:=h.parts;have hs:=h.sum;have ht:=h.top;have hm:=h.mon;have l1:(Zja s r k).members.length=s.members.length:=hx.l1;have l2:(Zja s r k).purses.length=s.purses.length:=hx.l2;have e:tot (mtX s r k).2+tot ((mtX s r k).1.map Zc.bal)=tot s.purses+tot (s.members.map Zc.bal)+YP (mtP s r) k:=hx.t;refine⟨h.r,ZF.set h.ok h.ok.p a1 a2 (by omega) a4 (by omega) a6 a7,h.ep,hx.b,by rw[l1];exact h.ml,by rw[l2];exact h.pl,G2 h.en l1 (fun j _=>by rw[show (gr ZS (Zja s r k).members j).status=_ from(hx.s j).1]),G2 h.ex l1 (fun j _=>by rw[show (gr ZS (Zja s r k).members j).status=_ from(hx.s j).1]),fun x hx=>by rw[l2];exact h.dd x hx,h.dn,fun d hd=>by rw[l1,l2];exact h.oo d hd,h.on,fun m hm=>by rw[l2];exact h.mm m hm,h.mn,?_,?_⟩
 ·show tot (mtX s r k).2+tot ((mtX s r k).1.map Zc.bal)+WP s.dues+tot (s.pool.map Zn.amt)+(s.treas+mtN s r-YP (mtP s r) k)+s.burn=s.gen+(s.mint+mtN s r);omega
 ·show s.gen+(s.mint+mtN s r)≤s.most∧_;exact⟨by omega,ht.2⟩
theorem Yop {s:Zf}{D:Nat}(h:Zt s D){r:Zk}(ha:0≤r.act∧r.act≤18446744073709551615):Zt (mtS s r) D:=Zqr h ha (Nat.le_refl _)
theorem Wam {s:Zf}{D:Nat}(h:Zt s D)(r:Zk){k:Nat}(hk:k≤s.members.length):0≤Zey s r k∧Zey s r k≤Zfv s r k∧Zfv s r k+tot ((upI (fnF s.par s.marks r.mode) s.members k).map Zc.bal)=tot (s.members.map Zc.bal):=Yky h.ok.p h.r _ _ h.be.m k hk
theorem Zry {s:Zf}{D:Nat}(h:Zt s D)(r:Zk){k:Nat}(hk:k≤s.members.length):Zt (Jp s r k) D:=by
 have hl:(Jp s r k).members.length=s.members.length:=VB _ _ _;obtain⟨a1,a2,a3,a4,a5,a6,a7⟩:=h.ok.all;obtain⟨b1,b2,b3,b4,b5,b6⟩:=h.parts;have hs:=h.sum;obtain⟨c1,c2,c3⟩:=Wam h r hk;have hbe:ZC (Jp s r k).members s.purses:=ZC.upI (fun k m hm=>⟨Yke h.ok.p h.r _ _ k hm,(Ypu _ _ _ k m).1⟩) h.be hk;have c4:=hbe.bal;have c5:tot ((Jp s r k).members.map Zc.bal)=tot ((upI (fnF s.par s.marks r.mode) s.members k).map Zc.bal):=rfl;have hm:=h.mon;refine⟨h.r,ZF.set h.ok h.ok.p a1 a2 a3 a4 (by omega) a6 a7,h.ep,hbe,by rw[hl];exact h.ml,h.pl,Zhi (fun k m=>(Ypu _ _ _ k m).2) h.en hk,Zhi (fun k m=>(Ypu _ _ _ k m).2) h.ex hk,h.dd,h.dn,fun d hd=>by rw[hl];exact h.oo d hd,h.on,h.mm,h.mn,?_,h.top⟩;show tot s.purses+tot ((Jp s r k).members.map Zc.bal)+WP s.dues+tot (s.pool.map Zn.amt)+(s.treas+Zfv s r k)+s.burn=s.gen+s.mint;omega
theorem Wba {s:Zf}{D:Nat}(h:Zt s D){r:Zk}(hr:r.burned=0):Ykq (Jp s r s.members.length) (fnR s r s.members.length).burned:=by
 obtain⟨a1,a2,a3,a4,a5,a6,a7⟩:=h.ok.all;obtain⟨b1,b2,b3,b4,b5,b6⟩:=h.parts;obtain⟨c1,c2,c3⟩:=Wam h r (Nat.le_refl _);have c4:0≤tot ((upI (fnF s.par s.marks r.mode) s.members s.members.length).map Zc.bal):=(Zry h r (Nat.le_refl _)).be.bal;have hs:=h.sum;refine⟨?_,?_⟩
 ·show r.burned+Zey s r s.members.length≤s.treas+Zfv s r s.members.length;omega
 ·show s.burn+(r.burned+Zey s r s.members.length)≤_;omega
theorem Ymu {s:Zf}{D:Nat}(h:Zt s D){r:Zk}(hr:r.burned=0):Zt (fnS s r) D:=by
 have h1:=Zry h r (Nat.le_refl _);obtain⟨a1,a2,a3,a4,a5,a6,a7⟩:=h1.ok.all;obtain⟨c1,c2⟩:=Wba h hr;have c0:0≤(fnR s r s.members.length).burned:=by
  have:=(Wam h r (Nat.le_refl _)).1;show 0≤r.burned+_;omega
 have hm:=h1.mon;refine⟨h1.r,ZF.set h1.ok h1.ok.p a1 a2 a3 (by omega) (by omega) a6 a7,h1.ep,h1.be,h1.ml,h1.pl,h1.en,h1.ex,h1.dd,h1.dn,h1.oo,h1.on,h1.mm,h1.mn,?_,h1.top⟩;show tot (Jp s r s.members.length).purses+tot ((Jp s r s.members.length).members.map Zc.bal)+WP (Jp s r s.members.length).dues+tot ((Jp s r s.members.length).pool.map Zn.amt)+((Jp s r s.members.length).treas-(fnR s r s.members.length).burned)+((Jp s r s.members.length).burn+(fnR s r s.members.length).burned)=(Jp s r s.members.length).gen+(Jp s r s.members.length).mint;omega
theorem Ybn {pn:Nat}{l:List Zi}(hl:∀x∈l,Zv x∧0≤x.acct∧x.acct<pn){d:Zi}(hd:Zv d)(ha:0≤d.acct∧d.acct<pn)(hs:WP l+d.amt≤4611686018427387904):∀x∈GH l d,Zv x∧0≤x.acct∧x.acct<pn:=fun x hx=>by
 have h1:=(Zoz (n:=l.length) (M:=WP l) ⟨fun x hx=>(hl x hx).1,Int.le_refl _,Nat.le_refl _⟩ hd hs).d x hx;refine⟨h1,?_⟩;rcases Zhp hx with hx|rfl | ⟨h2,rfl⟩
 ·exact(hl x hx).2
 ·exact ha
 ·exact(hl _ (Zak h2)).2
theorem Yny (q:Ze)(m:Zc):(ejF q m).owner=m.owner:=by
 unfold ejF;split<;>rfl
structure Wkg (q:Ze)(cs:List Zc)(xs:List Int)(ds:List Zi)(t:Int)(pn k:Nat):Prop where
 d:∀x∈duN q cs t ds k,Zv x∧0≤x.acct∧x.acct<pn
 n:(duN q cs t ds k).length≤ds.length+k
 t:WP (duN q cs t ds k)+tot ((upN (ejF q) cs k).map Zc.bal)=WP ds+tot (cs.map Zc.bal)
 x:Gd (upN (ejF q) cs k) (exN q cs xs k) 3
theorem Yof {q:Ze}{cs:List Zc}{ps:List Int}(hb:ZC cs ps){xs:List Int}(hx:Gd cs xs 3){ds:List Zi}(hd:∀x∈ds,Zv x∧0≤x.acct∧x.acct<ps.length){t:Int}(ht:0≤t∧t≤2147483647)(hT:WP ds+tot (cs.map Zc.bal)≤4611686018427387904):∀k,k≤cs.length→Wkg q cs xs ds t ps.length k
 | 0,_=>⟨hd,by simp [duN],rfl,hx⟩
 | k+1,hk=>by
  have ih:=Yof (q:=q) hb hx hd ht hT k (by omega);have hl:=Vd (ejF q) cs k;have hat:=Zbg (ejF q) cs (k:=k) (by omega);obtain⟨mo,o1,o2⟩:=hb.at (i:=k) (by omega);have hbu:ZC (upN (ejF q) cs k) ps:=hb.upN (fun m hm=>⟨Yas hm,Yny q m⟩) (by omega);have hbl:=hbu.bl (i:=k) (by omega);rw[hat]at hbl;have h3:=ih.t;have hbs:=Gv (ms:=upN (ejF q) cs k) (i:=k) (by omega) (ejF q (gr ZS cs k));rw[hat]at hbs;by_cases c:ejP q (gr ZS cs k)
  ·have e1:ejF q (gr ZS cs k)=Zwf (gr ZS cs k):=if_pos c;have hdo:=GV ht mo;have hsum:WP (duN q cs t ds k)+(Gc t (gr ZS cs k)).amt≤4611686018427387904:=by show _+(gr ZS cs k).bal≤_;omega
   refine⟨?_,?_,?_,?_⟩
   ·rw[duN,if_pos c];exact Ybn ih.d hdo ⟨o1,o2⟩ hsum
   ·rw[duN,if_pos c];have:=Zpx (duN q cs t ds k) (Gc t (gr ZS cs k));have:=ih.n;omega
   ·rw[duN,if_pos c,Zch,upN,hbs,e1];show _+(gr ZS cs k).bal+(_+(0-_))=_;omega
   ·rw[upN,exN,if_pos c,e1];exact Zwo ih.x (by omega) (by simp [Zwf])
  ·have e1:ejF q (gr ZS cs k)=gr ZS cs k:=if_neg c;refine⟨?_,?_,?_,?_⟩
   ·rw[duN,if_neg c];exact ih.d
   ·rw[duN,if_neg c];have:=ih.n;omega
   ·rw[duN,if_neg c,upN,hbs,e1];omega
   ·rw[upN,exN,if_neg c,e1];exact Zda ih.x (by omega) (by rw[hat])
theorem Zkb {s:Zf}{D:Nat}(h:Zt s D){t:Int}(ht:0≤t∧t≤2147483647){k:Nat}(hk:k≤s.members.length):Zt (ejS s t k) (D+k):=by
 have hl:(ejS s t k).members.length=s.members.length:=Vd _ _ _;obtain⟨b1,b2,b3,b4,b5,b6⟩:=h.parts;have hs:=h.sum;have hm:=h.mon;have e:=Yof (q:=s.par) (t:=t) h.be h.ex h.dd ht (by omega) k hk;have et:WP (ejS s t k).dues+tot ((ejS s t k).members.map Zc.bal)=WP s.dues+tot (s.members.map Zc.bal):=e.t;refine⟨h.r,⟨h.ok.p,h.ok.u,h.ok.n⟩,h.ep,h.be.upN (fun m hm=>⟨Yas hm,Yny _ m⟩) hk,by rw[hl];exact h.ml,h.pl,G2 h.en hl fun j _=>?_,e.x,e.d,Nat.le_trans e.n (by have:=h.dn;omega),fun d hd=>by rw[hl];exact h.oo d hd,h.on,h.mm,h.mn,?_,h.top⟩
 ·show (gr ZS (upN (ejF s.par) s.members k) j).status=1↔_;rw[Zel _ _ k hk j];split
  ·unfold ejF;split
   ·rename_i c;have:=c.1;simp only[Zwf]
    constructor
    ·intro e;cases e
    ·intro e;omega
   ·exact Iff.rfl
  ·exact Iff.rfl
 ·show tot s.purses+tot ((ejS s t k).members.map Zc.bal)+WP (ejS s t k).dues+tot (s.pool.map Zn.amt)+s.treas+s.burn=s.gen+s.mint;omega
structure Wjy (W rest en:List Int)(pn:Nat)(x:List Zc×List Zi)(k:Nat):Prop where
 rx:Gd x.1 (W.drop k++rest) 3
 e:Gd x.1 en 1
 o:∀y∈x.1,0≤y.owner∧y.owner<pn
 d:∀y∈x.2,Zv y∧0≤y.acct∧y.acct<pn
theorem Ycc {t:Int}(ht:0≤t∧t≤2147483647){W rest en:List Int}{pn:Nat}{x:List Zc×List Zi}(hm:∀y∈x.1,Zg y)(h:Wjy W rest en pn x 0)(hT:WP x.2+tot (x.1.map Zc.bal)≤4611686018427387904):∀k,k≤W.length→Wjy W rest en pn (lvK t W x k) k
 | 0,_=>h
 | k+1,hk=>by
  have ih:=Ycc ht hm h hT k (by omega);have hd:W.drop k=at0 W k::W.drop (k+1):=by rw[List.drop_eq_getElem_cons (by omega),Yx (by omega)]
  have hW:∀i∈W,0≤i∧i<x.1.length:=fun i hi=>by
   have:=Uv h.rx (z:=i) (by simp;exact .inl hi);omega
  have lv:=Ych ht hm (fun y hy=>(h.d y hy).1) hW hT k (by omega);have hin:=Uv ih.rx (z:=at0 W k) (by rw[hd];simp);obtain⟨i,he⟩:=Int.eq_ofNat_of_zero_le hin.1;rw[he]at hin hd;rw[Int.toNat_natCast]at hin;rw[lvK,he,Int.toNat_natCast];have hi:i<(lvK t W x k).1.length:=by omega
  have ix:=ih.rx;rw[hd,List.cons_append]at ix;have mo:=lv.m _ (YM (z:=ZS) hi);have oo:=ih.o _ (YM (z:=ZS) hi);have hbt:=YC (VC lv.m) i;rw[VD hi]at hbt;have h3:=lv.t;refine⟨Znr ix (by simp [Zaf]),Zda ih.e hi ?_,fun y hy=>?_,Ybn ih.d (GV ht mo) oo ?_⟩
  ·rw[hin.2.2];simp [Zaf]
  ·rcases List.mem_or_eq_of_mem_set hy with hy|rfl
   ·exact ih.o y hy
   ·exact oo
  ·show WP _+(gr ZS (lvK t W x k).1 i).bal≤_;omega
theorem Gi {α:Type}(f:α→Int)(q:α→Bool):∀l:List α,tot ((l.filter q).map f)+tot ((l.filter fun x => !q x).map f)=tot (l.map f)
 | []=>rfl
 | x::l=>by
  have ih:=Gi f q l;rw[List.filter_cons,List.filter_cons,List.map_cons,Vn]
  cases c:q x
  ·simp only[Bool.false_eq_true,if_false,Bool.not_false,if_true,List.map_cons,Vn];omega
  ·simp only[if_true,Bool.not_true,Bool.false_eq_true,if_false,List.map_cons,Vn];omega
theorem Zxu (l:List Zi)(e:Int):WP (l.filter (Gh e true))+WP (l.filter (Gh e false))=WP l:=by
 have h1:=Gi Zi.amt (Gh e true) l;have h2:(fun x => !Gh e true x)=Gh e false:=by
  funext x
  unfold Gh
  cases decide (x.at'≤e)<;>rfl
 rw[h2]at h1;exact h1
theorem Wir {s:Zf}{D:Nat}(h:Zt s D):(lvW s).length≤64∧(lvW s).length≤s.exit.length∧∀i∈lvW s,0≤i∧i<s.members.length:=by
 have hp:=Ys h.r;refine⟨?_,?_,fun i hi=>?_⟩
 ·rw[lvW,List.length_take];omega
 ·rw[lvW,List.length_take];omega
 ·have:=Uv h.ex (List.mem_of_mem_take hi);omega
theorem Zym {s:Zf}{D:Nat}(h:Zt s D){t:Int}(ht:0≤t∧t≤2147483647){k:Nat}(hk:k≤(lvW s).length):Wkd (s.members,s.dues) (lvK t (lvW s) (s.members,s.dues) k) k∧Wjy (lvW s) (s.exit.drop s.par.churn.toNat) s.entry s.purses.length (lvK t (lvW s) (s.members,s.dues) k) k:=by
 obtain⟨b1,b2,b3,b4,b5,b6⟩:=h.parts;have hs:=h.sum
 exact⟨Ych (x:=(s.members,s.dues)) ht h.be.m (fun y hy=>(h.dd y hy).1) (Wir h).2.2 (by show WP s.dues+tot (s.members.map Zc.bal)≤_;omega) k hk,
  Ycc (x:=(s.members,s.dues)) ht h.be.m ⟨by rw[List.drop_zero,lvW,List.take_append_drop];exact h.ex,h.en,h.be.o,h.dd⟩ (by show WP s.dues+tot (s.members.map Zc.bal)≤_;omega) k hk⟩
theorem lv_d {s:Zf}{D:Nat}(h:Zt s D){t:Int}(ht:0≤t∧t≤2147483647):∀x∈lvD s t,0≤x.acct∧x.acct<s.purses.length∧0≤x.amt:=fun x hx=>by
 have:=(Zym h ht (Nat.le_refl _)).2.d x (List.mem_filter.1 hx).1;exact⟨this.2.1,this.2.2,this.1.a.1⟩
theorem Yys {s:Zf}{D:Nat}(h:Zt s D){t:Int}(ht:0≤t∧t≤2147483647):Zt (lvS s t) (D+64):=by
 obtain⟨l1,l2⟩:=Zym h ht (Nat.le_refl _);obtain⟨b1,b2,b3,b4,b5,b6⟩:=h.parts;have hs:=h.sum;have hm:=h.mon;have hw:=(Wir h).1;have hl:(lvS s t).members.length=s.members.length:=l1.l1;obtain⟨d1,d2,d3⟩:=Zlb h.be.p (lv_d h ht) (lvD s t).length (Nat.le_refl _);have hp:(lvS s t).purses.length=s.purses.length:=d1;have hx:=l2.rx;rw[List.drop_length,List.nil_append]at hx;have et:=l1.t;have e2:=Zxu (lvX s t).2 s.ep;have e3:YP ((lvD s t).map Zi.amt) (lvD s t).length=WP (lvD s t):=by rw[WP,tot,List.length_map]
 rw[e3]at d3;refine⟨h.r,⟨h.ok.p,h.ok.u,h.ok.n⟩,h.ep,⟨l1.m,fun x hx=>by rw[hp];exact l2.o x hx,d2⟩,by rw[hl];exact h.ml,by rw[hp];exact h.pl,l2.e,hx,fun x hx=>by rw[hp];exact l2.d x (List.mem_filter.1 hx).1,?_,fun d hd=>by rw[hl,hp];exact h.oo d hd,h.on,fun m hm=>by rw[hp];exact h.mm m hm,h.mn,?_,h.top⟩
 ·have h1:=l1.n;have h2:((lvX s t).2.filter (Gh s.ep false)).length≤(lvX s t).2.length:=List.length_filter_le _ _;have h3:=h.dn;show ((lvX s t).2.filter (Gh s.ep false)).length≤_;have h4:(lvX s t).2.length≤s.dues.length+(lvW s).length:=h1;omega
 ·show tot (dpK (lvD s t) s.purses (lvD s t).length)+tot ((lvX s t).1.map Zc.bal)+WP ((lvX s t).2.filter (Gh s.ep false))+tot (s.pool.map Zn.amt)+s.treas+s.burn=s.gen+s.mint;have e4:WP (lvX s t).2+tot ((lvX s t).1.map Zc.bal)=WP s.dues+tot (s.members.map Zc.bal):=et;have e5:WP (lvD s t)=WP ((lvX s t).2.filter (Gh s.ep true)):=rfl;omega
theorem Ypt {s:Zf}{D:Nat}(h:Zt s D){k:Nat}(hk:k≤s.pool.length):ZL s.exit (crK s.par s.pool ⟨s.members,s.purses,s.entry⟩ k) s.purses.length (tot s.purses+tot (s.members.map Zc.bal)+YP (s.pool.map Zn.amt) k)∧s.members.length≤(crK s.par s.pool ⟨s.members,s.purses,s.entry⟩ k).ms.length :=
 Ylz (x:=⟨s.members,s.purses,s.entry⟩) h.ok.p (show s.purses.length≤9223372036854775807 by have:=h.pl;omega) ⟨h.be,h.ml,rfl,rfl,h.en,h.ex⟩ (fun d hd=>⟨(h.oo d hd).1.a.1,(h.oo d hd).2⟩) k hk
theorem Yrt {s:Zf}{D:Nat}(h:Zt s D):ZL s.exit (enX s) s.purses.length (tot s.purses+tot (s.members.map Zc.bal)+tot (s.pool.map Zn.amt))∧s.members.length≤(enX s).ms.length:=by
 have:=Ypt h (Nat.le_refl s.pool.length);have e:YP (s.pool.map Zn.amt) s.pool.length=tot (s.pool.map Zn.amt):=by rw[tot,List.length_map]
 rw[e]at this;exact this
theorem Zze {s:Zf}{D:Nat}(h:Zt s D)(r:Zk){t:Int}(ht:0≤t∧t≤2147483647){k:Nat}(hk:k≤(enW s).length) :
  Wju (enW s) ((enX s).en.drop s.par.churn.toNat) ⟨(enX s).ms,s.dues,s.exit,r.out,r.started⟩ (stK s.par t (enW s) ⟨(enX s).ms,s.dues,s.exit,r.out,r.started⟩ k) s.purses.length k:=by
 obtain⟨b1,b2,b3,b4,b5,b6⟩:=h.parts;have hs:=h.sum;obtain⟨c1,c2⟩:=Yrt h;have c3:=c1.t;have c4:=c1.b.pur;have hob:=c1.b.o;rw[c1.l2]at hob;exact Ylr h.ok.p h.r ht (x:=⟨(enX s).ms,s.dues,s.exit,r.out,r.started⟩) ⟨rfl,c1.b.m,hob,fun x hx=>(h.dd x hx).1,Nat.le_refl _,rfl,by rw[List.drop_zero,enW,List.take_append_drop];exact c1.e,c1.x,Nat.le_refl _,Nat.le_refl _⟩ (by show WP s.dues+tot ((enX s).ms.map Zc.bal)≤_;omega) k hk
theorem en_w {s:Zf}{D:Nat}(h:Zt s D):(enW s).length≤64∧(enX s).en.length≤128:=by
 have hp:=Ys h.r;have h1:=(Yrt h).1;have:=V8 h1.e;have:=h1.l1;refine⟨?_,by omega⟩;rw[enW,List.length_take];omega
theorem Zpj {p:Ze}{t:Int}{pn:Nat}(ht:0≤t∧t≤2147483647)(W:List Int){rest:List Int}{x:StX}(hx:∀y∈x.ds,Zv y∧0≤y.acct∧y.acct<pn)(H:∀k,k≤W.length→Wju W rest x (stK p t W x k) pn k)(hT:WP x.ds+tot (x.ms.map Zc.bal)≤4611686018427387904):∀k,k≤W.length→∀y∈(stK p t W x k).ds,Zv y∧0≤y.acct∧y.acct<pn
 | 0,_=>hx
 | k+1,hk=>by
  have ih:=Zpj ht W hx H hT k (by omega);have h1:=H k (by omega);have hd:W.drop k=at0 W k::W.drop (k+1):=by rw[List.drop_eq_getElem_cons (by omega),Yx (by omega)]
  have hin:=Uv h1.e (z:=at0 W k) (by rw[hd];simp);have hi:(at0 W k).toNat<(stK p t W x k).ms.length:=by omega
  have mo:=h1.m _ (YM (z:=ZS) hi);have oo:=h1.o _ (YM (z:=ZS) hi);have hbt:=YC (VC h1.m) (at0 W k).toNat;rw[VD hi]at hbt;have h3:=h1.t;rw[stK,Zbi];split
  ·exact ih
  ·exact Ybn ih (GV ht mo) oo (by show WP _+(gr ZS (stK p t W x k).ms (at0 W k).toNat).bal≤_;omega)
theorem Ywt {s:Zf}{D:Nat}(h:Zt s D)(r:Zk){t:Int}(ht:0≤t∧t≤2147483647):Zt (enS s r t) (D+64):=by
 unfold enS;by_cases c:r.quo=true
 ·rw[if_pos c];obtain⟨b1,b2,b3,b4,b5,b6⟩:=h.parts;have hs:=h.sum;have hm:=h.mon;obtain⟨c1,c2⟩:=Yrt h;have c3:=c1.t;have c4:=c1.b.pur;have hw:=(en_w h).1;have h1:=Zze h r ht (Nat.le_refl (enW s).length);have h2:=Zpj (p:=s.par) ht (enW s) (x:=⟨(enX s).ms,s.dues,s.exit,r.out,r.started⟩) h.dd (fun k hk=>Zze h r ht hk) (by show WP s.dues+tot ((enX s).ms.map Zc.bal)≤_;omega) _ (Nat.le_refl _);have hl:(enY s r t).ms.length=(enX s).ms.length:=h1.l1;have he:=h1.e;rw[List.drop_length,List.nil_append]at he;have et:WP (enY s r t).ds+tot ((enY s r t).ms.map Zc.bal)=WP s.dues+tot ((enX s).ms.map Zc.bal):=h1.t;have hp:=c1.l2;have hn:(enY s r t).ds.length≤s.dues.length+(enW s).length:=h1.n;have hd:=h.dn;refine⟨h.r,⟨h.ok.p,h.ok.u,h.ok.n⟩,h.ep,⟨h1.m,fun x hx=>by simp only;rw[hp];exact h1.o x hx,c1.b.p⟩,by simp only;rw[hl];exact c1.l1,by simp only;rw[hp];exact h.pl,he,h1.rx,fun x hx=>by simp only;rw[hp];exact h2 x hx,by simp only;omega,(fun d hd=>by cases hd),by simp,fun m hm=>by simp only;rw[hp];exact h.mm m hm,h.mn,?_,h.top⟩;simp only[List.map_nil,Zpi];omega
 ·rw[if_neg c];exact⟨h.r,h.ok,h.ep,h.be,h.ml,h.pl,h.en,h.ex,h.dd,Nat.le_trans h.dn (by omega),h.oo,h.on,h.mm,h.mn,h.mon,h.top⟩
theorem Zuv {p:Ze}(h:Ym p=true):0≤p.enact:=by
 simp only[Ym,Bool.and_eq_true]at h;have h2:=h.1.2;simp only[Y9,List.all_cons,List.all_nil,id,Bool.and_eq_true,wi_iff,decide_eq_true_eq,and_true]at h2;omega
theorem mo_0 {s:Zf}{D:Nat}(h:Zt s D)(r:Zk):Wjv (moW s r) ⟨s.par,s.treas,s.purses,s.emer,moL s,r.done⟩ ⟨s.par,s.treas,s.purses,s.emer,moL s,r.done⟩ 0:=by
 refine⟨h.r,h.ok.p,h.parts.2.2.2.2.1,rfl,h.be.p,rfl,rfl,fun m hm=>?_,fun j _ hj=>?_,Nat.le_refl _⟩
 ·obtain⟨x,hx,rfl⟩:=List.mem_map.1 hm;exact Zwn (Zuv h.r) h.ep.1 (h.mm x hx)
 ·exact Znj (by rw[← Yx hj];exact List.getElem_mem hj)
theorem Zrx {s:Zf}(r:Zk):(moW s r).Nodup∧∀z∈moW s r,0≤z∧z<(moL s).length:=⟨Znl _ _ _ _,fun z hz=>Zje hz⟩
theorem mo_k {s:Zf}{D:Nat}(h:Zt s D)(r:Zk){k:Nat}(hk:k≤(moW s r).length):Wjv (moW s r) ⟨s.par,s.treas,s.purses,s.emer,moL s,r.done⟩ (moX s r k) k :=
 Ykp (mo_0 h r) (Zrx r).1 (Zrx r).2 k hk
theorem Ymn {s:Zf}{D:Nat}(h:Zt s D)(r:Zk){k:Nat}(hk:k≤(moW s r).length):Zt (Yul s r k) D:=by
 have hx:=mo_k h r hk;obtain⟨a1,a2,a3,a4,a5,a6,a7⟩:=h.ok.all;obtain⟨b1,b2,b3,b4,b5,b6⟩:=h.parts;have hs:=h.sum;have hm:=h.mon;have et:tot (moX s r k).ps+(moX s r k).tr=tot s.purses+s.treas:=hx.t;have hp0:=hx.p;have hpp:=Yy hx.p;have htr:=hx.tr;have hp:(Yul s r k).purses.length=s.purses.length:=hx.l2;have hn:(moX s r k).mo.length=s.motions.length:=by
  have:=hx.n;rw[this];exact List.length_map _
 refine⟨hx.r,ZF.set h.ok hx.ok a1 a2 a3 a4 (by omega) a6 a7,h.ep,⟨h.be.m,fun x hx=>by rw[hp];exact h.be.o x hx,hx.p⟩,h.ml,by rw[hp];exact h.pl,h.en,h.ex,fun x hx=>by rw[hp];exact h.dd x hx,h.dn,fun d hd=>by rw[hp];exact h.oo d hd,h.on,fun m hm=>by rw[hp];exact hx.m m hm,by show (moX s r k).mo.length≤32;rw[hn];exact h.mn,?_,h.top⟩;show tot (moX s r k).ps+tot (s.members.map Zc.bal)+WP s.dues+tot (s.pool.map Zn.amt)+(moX s r k).tr+s.burn=s.gen+s.mint;omega
theorem Zyv {s:Zf}{D:Nat}(h:Zt s D){k:Nat}(hk:k≤s.members.length):Zt (Yet s k) D:=by
 obtain⟨b1,b2,b3,b4,b5,b6⟩:=h.parts;have hs:=h.sum;have hm:=h.mon;have hb:ZK s.members s.purses:=h.be.ok (by omega);have h1:=Zrp (q:=s.par) h.ok.p (x:=(s.members,s.purses)) hb k hk;have h2:=UZ s.par (s.members,s.purses) k;have h3:=Zzi (q:=s.par) h.ok.p (x:=(s.members,s.purses)) hb k hk;have h4:=Ycf s.par (s.members,s.purses) k hk;have l1:(Yet s k).members.length=s.members.length:=h2.1;have l2:(Yet s k).purses.length=s.purses.length:=h2.2;have hst:∀j,(gr ZS (Yet s k).members j).status=(gr ZS s.members j).status:=fun j=>by
  show (gr ZS (clN s.par (s.members,s.purses) k).1 j).status=_;rw[h4,Zel _ _ k hk j];split
  ·rfl
  ·rfl
 refine⟨h.r,⟨h.ok.p,h.ok.u,h.ok.n⟩,h.ep,⟨h1.m,h1.o,h1.p⟩,by rw[l1];exact h.ml,by rw[l2];exact h.pl,G2 h.en l1 (fun j _=>by rw[hst]),G2 h.ex l1 (fun j _=>by rw[hst]),fun x hx=>by rw[l2];exact h.dd x hx,h.dn,fun d hd=>by rw[l1,l2];exact h.oo d hd,h.on,fun m hm=>by rw[l2];exact h.mm m hm,h.mn,?_,h.top⟩;have e:tot (Yet s k).purses+tot ((Yet s k).members.map Zc.bal)=tot s.purses+tot (s.members.map Zc.bal):=h3;show tot (Yet s k).purses+tot ((Yet s k).members.map Zc.bal)+WP s.dues+tot (s.pool.map Zn.amt)+s.treas+s.burn=s.gen+s.mint;omega
structure MI (p:Ze)(m:Zc):Prop where
 b:0≤m.bal∧m.bal≤p.cap
 e:0≤m.eff∧m.eff≤1099511627776
 sc:0≤m.score∧m.score≤p.scoreCap
 st:0≤m.streak∧m.streak≤p.streak
 ow:0≤m.owner∧m.owner<64
 s:(m.status=2∨m.status=3)∨(m.status=1∧1≤m.bal∧m.eff=0)∨((m.status=4∨m.status=5)∧m.bal=0∧m.eff=0)
abbrev MF (p:Ze)(m:Zc):Prop:=Zbv m→p.floor<m.bal
theorem Ybz {P:Zc→Prop}{l:List Zc}(h:∀x∈l,P x){i:Nat}{m:Zc}(hf:i<l.length→P m):∀x∈l.set i m,P x:=fun x hx=>by
 by_cases c:i<l.length
 ·rcases List.mem_or_eq_of_mem_set hx with hx|rfl
  ·exact h x hx
  ·exact hf c
 ·rw[List.set_eq_of_length_le (by omega)]at hx;exact h x hx
theorem grP {P:Zc→Prop}{l:List Zc}(h:∀x∈l,P x){i:Nat}(hi:i<l.length):P (gr ZS l i):=h _ (YM hi)
theorem J1 {p:Ze}(hr:Ym p=true):Wo p=true∧WJ p=true:=by
 simp only[Ym,Bool.and_eq_true]at hr;exact⟨hr.1.1.1,hr.1.1.2⟩
theorem mi_of {p:Ze}(hr:Ym p=true){m:Zc}(mo:Zg m)(hm:Vv p m=true):MI p m∧MF p m:=by
 obtain⟨h1,h2,h3,h4⟩:=Zor hm;obtain⟨s1,s2⟩:=J1 hr;have f1:=YS s1;have f2:=Wg s2;have f3:=Ys hr;have u1:=mo.u m.bal (by simp);have u2:=mo.u m.eff (by simp);have u3:=mo.u m.score (by simp);have hc:=Zyd hr h4;unfold Uu at h4;by_cases c1:m.status=2∨m.status=3
 ·rw[if_pos c1]at h4;simp only[Bool.and_eq_true,decide_eq_true_eq,UG]at h4;exact⟨⟨⟨u1.1,hc⟩,by omega,by omega,by omega,h1,.inl c1⟩,fun _=>by omega⟩
 ·rw[if_neg c1]at h4;refine⟨?_,fun c=>absurd c c1⟩;by_cases c2:m.status=1
  ·rw[if_pos c2]at h4;simp only[Bool.and_eq_true,decide_eq_true_eq]at h4;exact⟨⟨u1.1,hc⟩,by omega,by omega,by omega,h1,.inr (.inl ⟨c2,h4.1.1,h4.2⟩)⟩
  ·rw[if_neg c2]at h4;by_cases c3:m.status=4∨m.status=5
   ·rw[if_pos c3]at h4;simp only[Bool.and_eq_true,decide_eq_true_eq]at h4;exact⟨⟨u1.1,hc⟩,by omega,by omega,by omega,h1,.inr (.inr ⟨c3,h4.1,h4.2⟩)⟩
   ·rw[if_neg c3]at h4;cases h4
theorem wg_mi {p:Ze}(hr:Ym p=true)(ok:Zj p)(ks:List Int)(mode:Int)(k:Nat){m:Zc}(h:MI p m):MI p (wgF p ks mode k m):=by
 obtain⟨s1,s2⟩:=J1 hr;have f2:=Wg s2;have f3:=Ys hr;have h1:=h.sc;have h2:=h.st;have o1:=ok.w p.recover (by simp [Yw]);unfold wgF;split
 ·unfold UN;split
  ·refine⟨h.b,h.e,?_,?_,h.ow,h.s⟩
   ·show 0≤WH m.score p.recover∧WH m.score p.recover≤_;unfold WH;split<;>omega
   ·show 0≤(if max m.streak 0<p.streak then max m.streak 0+1 else p.streak)∧(if max m.streak 0<p.streak then max m.streak 0+1 else p.streak)≤p.streak;by_cases c:max m.streak 0<p.streak
    ·rw[if_pos c];omega
    ·rw[if_neg c];omega
  ·refine⟨h.b,h.e,?_,?_,h.ow,h.s⟩
   ·show 0≤(if mode=3 then Zbr m.score p.bias p.scoreCap else if mode=4 then Zbr m.score p.biasEm p.scoreCap else m.score)∧(if mode=3 then Zbr m.score p.bias p.scoreCap else if mode=4 then Zbr m.score p.biasEm p.scoreCap else m.score)≤p.scoreCap;unfold Zbr;by_cases c:mode=3
    ·rw[if_pos c];omega
    ·rw[if_neg c];by_cases c2:mode=4
     ·rw[if_pos c2];omega
     ·rw[if_neg c2];omega
   ·show (0:Int)≤0∧(0:Int)≤p.streak;omega
 ·exact h
theorem Yzt {p:Ze}{m:Zc}(h:MI p m){n:Int}(hn:0≤n)(hc:Zbv m):MI p (Jq p m n).1:=by
 have h1:=h.b;refine⟨?_,h.e,h.sc,h.st,h.ow,.inl hc⟩;show 0≤m.bal+min n (WH p.cap m.bal)∧m.bal+min n (WH p.cap m.bal)≤p.cap;unfold WH;split<;>omega
theorem Ynx {p:Ze}(ok:Zj p)(hr:Ym p=true)(ks:List Int)(mode:Int)(k:Nat){m:Zc}(mo:Zg m)(h:MI p m):MI p (fnF p ks mode k m):=by
 have h1:=h.b;have h2:=Ydt ok hr mo mode;unfold fnF;split
 ·rename_i c;refine⟨?_,h.e,h.sc,h.st,h.ow,.inl c.1⟩;show 0≤m.bal-Wl p m mode∧m.bal-Wl p m mode≤p.cap;omega
 ·exact h
theorem Zix {p:Ze}{m:Zc}(hr:Ym p=true)(h:MI p m){st:Int}(hs:st=4∨st=5):MI p (Zaf m st)∧MF p (Zaf m st):=by
 have h1:=h.b;have h2:=h.st;refine⟨⟨?_,by simp [Zaf],h.sc,?_,h.ow,.inr (.inr ⟨hs,rfl,rfl⟩)⟩,fun c=>?_⟩
 ·show (0:Int)≤0∧(0:Int)≤p.cap;omega
 ·show (0:Int)≤0∧(0:Int)≤p.streak;omega
 ·simp only[Zbv,Zaf]at c;omega
theorem ej_mi {p:Ze}(hr:Ym p=true){m:Zc}(h:MI p m):MI p (ejF p m)∧MF p (ejF p m):=by
 unfold ejF;split
 ·exact Zix hr h (st:=4) (.inl rfl)
 ·rename_i c
  exact⟨h,fun hc=>by
   have:¬m.bal≤p.floor:=fun x=>c ⟨hc,x⟩
   omega⟩
theorem Yos {p:Ze}(hr:Ym p=true){m:Zc}(h:MI p m)(hf:MF p m){a:Int}(ha:0≤a):MI p (JU p m a)∧MF p (JU p m a):=by
 have h1:=h.b;have h2:=h.s;have ht:0≤WK p m a∧m.bal+WK p m a≤p.cap:=by
  unfold WK WH;split<;>omega
 unfold JU;split
 ·rename_i c;exact⟨⟨by simp only;omega,by simp,h.sc,h.st,h.ow,.inr (.inl ⟨rfl,by simp only;omega,rfl⟩)⟩,fun x=>by simp [Zbv]at x⟩
 ·rename_i c;refine⟨⟨by simp only;omega,h.e,h.sc,h.st,h.ow,?_⟩,fun x=>?_⟩
  ·rcases h2 with h2|h2|h2
   ·exact .inl h2
   ·exact .inr (.inl ⟨h2.1,by simp only;omega,h2.2.2⟩)
   ·refine .inr (.inr ⟨h2.1,?_,h2.2.2⟩);simp only;by_cases z:0<m.bal+WK p m a
    ·exact absurd ⟨z,h2.1⟩ c
    ·omega
  ·have:=hf x;simp only;omega
theorem Yjg {p:Ze}(hr:Ym p=true){m:Zc}(h:MI p m)(hf:MF p m):MI p (Vk p m).1∧MF p (Vk p m).1:=by
 obtain⟨s1,s2⟩:=J1 hr;have f1:=YS s1;have f3:=Ys hr;have h1:=h.b;unfold Vk;split
 ·rename_i c;have g:=Gm hr c.2.1;simp only[UG,Bool.and_eq_true,decide_eq_true_eq]at g;refine⟨⟨h.b,?_,h.sc,?_,h.ow,.inl (.inl rfl)⟩,fun _=>c.2.1⟩
  ·show 0≤WW p m.bal∧WW p m.bal≤_;omega
  ·show (0:Int)≤0∧(0:Int)≤p.streak;omega
 ·exact⟨h,hf⟩
theorem Ygo {p q:Ze}(hq:Ym q=true){m:Zc}(h:MI p m):MI q (UO q m):=by
 obtain⟨s1,s2⟩:=J1 hq;have f1:=YS s1;have f2:=Wg s2;have f3:=Ys hq;have h1:=h.b;have h2:=h.sc;have h3:=h.st;refine⟨?_,h.e,?_,?_,h.ow,?_⟩
 ·show 0≤min m.bal q.cap∧min m.bal q.cap≤q.cap;omega
 ·show 0≤min m.score q.scoreCap∧min m.score q.scoreCap≤q.scoreCap;omega
 ·show 0≤min (max m.streak 0) q.streak∧min (max m.streak 0) q.streak≤q.streak;omega
 ·rcases h.s with h4|h4|h4
  ·exact .inl h4
  ·exact .inr (.inl ⟨h4.1,by show 1≤min m.bal q.cap;omega,h4.2.2⟩)
  ·exact .inr (.inr ⟨h4.1,by show min m.bal q.cap=0;omega,h4.2.2⟩)
theorem Yob {p:Ze}(hr:Ym p=true){m:Zc}(h:MI p m)(hf:MF p m):Vv p (Zaa p m)=true:=by
 have h1:=h.b;have h2:=h.sc;have h3:=h.st;have h4:=h.ow;have base:∀m',m'.owner=m.owner→m'.score=m.score→m'.streak=m.streak→Uu p m'=true→Vv p m'=true:=fun m' e1 e2 e3 e4=>by
  simp only[Vv,Bool.and_eq_true,decide_eq_true_eq,e4,and_true,Zmu,Zba,List.cons.injEq,true_and];omega
 unfold Zaa;by_cases c1:Zbv m
 ·rw[if_pos c1];refine base _ rfl rfl rfl ?_;have hg:=Zoh hr (hf c1);rw[Uu,if_pos (by show m.status=2∨m.status=3;exact c1)];simp only[Bool.and_eq_true,decide_eq_true_eq];exact⟨⟨hf c1,h1.2⟩,hg⟩
 ·rw[if_neg c1];refine base _ rfl rfl rfl ?_;rw[Uu,if_neg c1];rcases h.s with h5|h5|h5
  ·exact absurd h5 c1
  ·rw[if_pos h5.1];simp only[Bool.and_eq_true,decide_eq_true_eq];omega
  ·rw[if_neg (by omega),if_pos h5.1];simp only[Bool.and_eq_true,decide_eq_true_eq];omega
theorem Zwu {B:Int}:∀(xs:List Int),(∀x∈xs,x≤B)→tot xs≤xs.length*B
 | [],_=>by simp [tot,YP]
 | x::xs,hx=>by
  have ih:=Zwu xs fun y hy=>hx y (List.mem_cons_of_mem _ hy);have h1:=hx x List.mem_cons_self;rw[Vn,List.length_cons];have:(((xs.length+1:Nat)):Int)*B=xs.length*B+B:=by
   rw[Int.natCast_add,Int.add_mul];simp
  omega
theorem Zqe {p:Ze}{l:List Zc}(hl:l.length≤128)(h:∀m∈l,MI p m):Zen l≤140737488355328:=by
 have h1:=Zwu (B:=1099511627776) ((cP l l.length).map (Zof l)) fun x hx=>by
  obtain⟨i,hi,rfl⟩:=List.mem_map.1 hx;have:=Yuo hi;exact(h _ (YM this)).e.2
 rw[List.length_map]at h1;have h2:=Zfl l l.length;unfold Zen;omega
theorem Yna {h:PH}{v:SV}{s:Zf}(hs:Zs h v s)(hf:YQ s=true):∀m∈s.members,MI s.par m∧MF s.par m:=fun m hm=>by
 have hr:Ym s.par=true:=(fitsT_iff.1 hf).1;exact mi_of hr (hs.mo m hm) (Ygj hf m hm).1
theorem wg_ms {s:Zf}{D:Nat}(ti:Zt s D)(h:∀m∈s.members,MI s.par m):∀m∈(wgS s).members,MI s.par m :=
 Zjy (MI s.par) (fun k _ hm=>wg_mi ti.r ti.ok.p _ _ k hm) h _ (Nat.le_refl _)
theorem Yvw {s:Zf}{D:Nat}(ti:Zt s D){r:Zk}(ha:0≤r.act∧r.act≤18446744073709551615)(h:∀m∈s.members,MI s.par m):∀k,k≤(mtW s).length→∀m∈(mtX s r k).1,MI s.par m
 | 0,_=>h
 | k+1,hk=>by
  have ih:=Yvw ti ha h k (by omega);have hx:=Yzm ti ha (k:=k) (by omega);have hW:(mtW s).getD k 0∈mtW s:=by
   rw[List.getD_eq_getElem?_getD,List.getElem?_eq_getElem (by omega),Option.getD_some];exact List.getElem_mem _
  have hc:=(Ynt hW).1;show ∀m∈((mtX s r k).1.set ((mtW s).getD k 0) (Jq s.par (gr ZS (mtX s r k).1 ((mtW s).getD k 0)) (at0 (mtP s r) k)).1),MI s.par m;refine Ybz ih fun hi=>Yzt (grP ih hi) ((Wct ti ha).1 k).1 ?_;show _∨_;rw[(hx.s _).1];exact hc
theorem fn_ms {s:Zf}{D:Nat}(ti:Zt s D)(r:Zk)(h:∀m∈s.members,MI s.par m):∀m∈(fnS s r).members,MI s.par m:=fun m hm =>
 (Zjy (fun m=>Zg m∧MI s.par m) (fun k _ hm=>⟨Yke ti.ok.p ti.r _ _ k hm.1,Ynx ti.ok.p ti.r _ _ k hm.1 hm.2⟩) (fun m hm=>⟨ti.be.m m hm,h m hm⟩) _ (Nat.le_refl _) m hm).2
theorem Yvd {s:Zf}(hr:Ym s.par=true)(t:Int)(h:∀m∈s.members,MI s.par m):∀m∈(ejS s t s.members.length).members,MI s.par m∧MF s.par m:=fun m hm=>by
 have e:(ejS s t s.members.length).members=s.members.map (ejF s.par):=Zhc _ _;rw[e]at hm;obtain⟨x,hx,rfl⟩:=List.mem_map.1 hm;exact ej_mi hr (h x hx)
theorem Yyy {s:Zf}(hr:Ym s.par=true)(t:Int)(W:List Int){ds:List Zi}(h:∀m∈s.members,MI s.par m∧MF s.par m):∀k,∀m∈(lvK t W (s.members,ds) k).1,MI s.par m∧MF s.par m
 | 0=>h
 | k+1=>by
  have ih:=Yyy hr t W (ds:=ds) h k;show ∀m∈((lvK t W (s.members,ds) k).1.set (at0 W k).toNat (Zaf (gr ZS (lvK t W (s.members,ds) k).1 (at0 W k).toNat) 5)),_;exact Ybz (P:=fun m=>MI s.par m∧MF s.par m) ih fun hi=>Zix hr (grP (P:=fun m=>MI s.par m∧MF s.par m) ih hi).1 (.inr rfl)
theorem Ywx {p:Ze}(hr:Ym p=true){a:Int}(ha:0≤a∧a<64):MI p ⟨0,0,0,0,a,4⟩∧MF p ⟨0,0,0,0,a,4⟩:=by
 obtain⟨s1,s2⟩:=J1 hr;have f1:=YS s1;have f2:=Wg s2;have f3:=Ys hr;exact⟨⟨by simp only;omega,by simp,by simp only;omega,by simp only;omega,ha,.inr (.inr ⟨.inl rfl,rfl,rfl⟩)⟩,fun c=>by simp [Zbv]at c⟩
theorem Yaj {p:Ze}(hr:Ym p=true){i:Nat}{a acct:Int}(ha:0≤a){x:CrX}(h:∀m∈x.ms,MI p m∧MF p m):∀m∈(Zqg p i a acct x).ms,MI p m∧MF p m :=
 Ybz (P:=fun m=>MI p m∧MF p m) h fun hi=>by
  have g:=grP (P:=fun m=>MI p m∧MF p m) h hi;exact Yos hr g.1 g.2 ha
theorem Yek {p:Ze}(hr:Ym p=true){d:Zn}(ha:0≤d.amt)(hd:0≤d.acct∧d.acct<64){x:CrX}(h:∀m∈x.ms,MI p m∧MF p m):∀m∈(WX p d x).ms,MI p m∧MF p m:=by
 unfold WX;split
 ·split
  ·exact h
  ·refine Yaj hr ha fun m hm=>?_;rcases List.mem_append.1 hm with hm|hm
   ·exact h m hm
   ·rw[List.mem_singleton]at hm;subst hm;exact Ywx hr hd
 ·exact Yaj hr ha h
theorem Ykj {p:Ze}(hr:Ym p=true){l:List Zn}(hl:∀d∈l,0≤d.amt∧0≤d.acct∧d.acct<64){x:CrX}(h:∀m∈x.ms,MI p m∧MF p m):∀k,k≤l.length→∀m∈(crK p l x k).ms,MI p m∧MF p m
 | 0,_=>h
 | k+1,hk=>by
  have hd:=hl (gr Wd l k) (YM (by omega));exact Yek hr hd.1 hd.2 (Ykj hr hl h k (by omega))
theorem Ymf {p:Ze}(hr:Ym p=true)(t:Int)(W:List Int){x:StX}(h:∀m∈x.ms,MI p m∧MF p m):∀k,∀m∈(stK p t W x k).ms,MI p m∧MF p m
 | 0=>h
 | k+1=>by
  have ih:=Ymf hr t W h k;rw[stK,Zbi];split
  ·exact Ybz (P:=fun m=>MI p m∧MF p m) ih fun hi=>by
    have g:=grP (P:=fun m=>MI p m∧MF p m) ih hi;exact Yjg hr g.1 g.2
  ·exact Ybz (P:=fun m=>MI p m∧MF p m) ih fun hi=>Zix hr (grP (P:=fun m=>MI p m∧MF p m) ih hi).1 (.inl rfl)
theorem en_ms {s:Zf}{D:Nat}(ti:Zt s D)(r:Zk)(t:Int)(h:∀m∈s.members,MI s.par m∧MF s.par m):∀m∈(enS s r t).members,MI s.par m∧MF s.par m:=by
 unfold enS;split
 ·have hpl:=ti.pl;have hx:∀m∈(enX s).ms,MI s.par m∧MF s.par m:=Ykj ti.r (fun d hd=>by have:=ti.oo d hd;exact⟨this.1.a.1,this.2.1,by omega⟩) h _ (Nat.le_refl _);exact Ymf ti.r t _ hx _
 ·exact h
theorem aj_ms {s:Zf}{p:Ze}(hr:Ym s.par=true)(h:∀m∈s.members,MI p m):∀m∈(ajS s).members,MI s.par m:=fun m hm=>by
 have e:(ajS s).members=s.members.map (UO s.par):=by
  show (clN s.par (s.members,s.purses) s.members.length).1=_;rw[Ycf _ _ _ (Nat.le_refl _)];exact Zhc _ _
 rw[e]at hm;obtain⟨x,hx,rfl⟩:=List.mem_map.1 hm;exact Ygo hr (h x hx)
variable {L:Own} {h:PH} {K:PK}
abbrev moB' (bo cap:Nat)(ql:List QM):Zo:=⟨bo,75,ql.flatMap Y2,cap⟩
abbrev mfB (b5:Nat)(done:Bool):Zo:=⟨b5,4,[.bool done],1⟩
theorem Zdh {ql:List QM}{k:Nat}(a b:Value)(m:Zm):(ql.set k (a,b,m)).map (fun x=>x.2.2)=(ql.map (fun x=>x.2.2)).set k m:=by rw[List.map_set]
theorem Zip {ql:List QM}{k:Nat}{q:QM}{h:PH}(hm:Y7 h ql)(hq:Zw h q):Y7 h (ql.set k q):=fun x hx=>by
 rcases List.mem_or_eq_of_mem_set hx with hx|rfl
 ·exact hm x hx
 ·exact hq
theorem Zqd {ql:List QM}{k:Nat}(hk:k<ql.length)(st:Int):(ql.flatMap Y2).set (k*33+30) (.int .i64 st)=(ql.set k ((gr Yc ql k).1,(gr Yc ql k).2.1,{ (gr Yc ql k).2.2 with state:=st })).flatMap Y2 :=
 Wm Z9 Yc ql (i:=k) (m:=30) hk (by decide) (by simp [Y2,Jb])
theorem Yqb {ql:List QM}{k:Nat}(hk:k<ql.length)(due:Int):(ql.flatMap Y2).set (k*33+29) (.int .i64 due)=(ql.set k ((gr Yc ql k).1,(gr Yc ql k).2.1,{ (gr Yc ql k).2.2 with due:=due })).flatMap Y2 :=
 Wm Z9 Yc ql (i:=k) (m:=29) hk (by decide) (by simp [Y2,Jb])
theorem Zir {h:PH}{q:QM}(hq:Zw h q){st due:Int}(hs:0≤st∧st≤100)(hd : -9223372036854775808≤due∧due≤9223372036854775807):Zw h (q.1,q.2.1,{ q.2.2 with state:=st,due:=due }) :=
 ⟨hq.y,hq.n,hq.ok.a,fun z hz=>by
  have hn:=hq.ok.n;simp only[List.forall_mem_cons]at hn;simp only[List.mem_cons,List.not_mem_nil,or_false]at hz
  rcases hz with rfl|rfl|rfl|rfl|rfl|rfl<;>omega,hq.ok.p⟩
theorem Znm {ql:List QM}{ms:List Zm}(hq:ql.map (fun x=>x.2.2)=ms){k:Nat}(hk:k<ms.length):(gr Yc ql k).2.2=gr Yj ms k:=by
 subst hq;have hk':k<ql.length:=by simpa using hk
 rw[Yl hk',Yl (by simpa using hk'),List.getElem_map]
theorem Ybw {ql:List QM}{bo cap b5 k:Nat}{done:Bool}(hkl:k<ql.length)(hl:ql.length≤1000)(hm:Y7 h ql)
  (hyes:(gr Yc ql k).2.2.state=2→K (.int .i64 0) (moB' bo cap (ql.set k ((gr Yc ql k).1,(gr Yc ql k).2.1,Zwh (gr Yc ql k).2.2 done))::mfB b5 done::L) h)
  (hno:¬(gr Yc ql k).2.2.state=2→K (.int .i64 291) (moB' bo cap ql::mfB b5 done::L) h) :
  Zb Tryz.prog 273 [.pointer (some ⟨bo,k*33,none⟩),.pointer (some ⟨b5,0,none⟩)] (moB' bo cap ql::mfB b5 done::L) h K:=by
 have g30:∀(K:Value→Prop) (t:Zq K),VP (ql.flatMap Y2) (k*33+30) K t=K (.int .i64 (gr Yc ql k).2.2.state):=fun K t=>Yq Z9 Yc ql hkl (by decide) rfl K t;have hk33:=Wv (n:=ql.length) (w:=33) hkl (m:=32) (by decide);have hsum:(ql.map fun a=>(Y2 a).length).sum=ql.length*33:=by rw[← List.length_flatMap,Z3 Z9]
 refine Z4 Tryz.func273 rfl (rs:=[_]) rfl rfl ZY (by kernel_rfl) rfl rfl fun ap nd=>?_;have hbo:h bo=noC:=ap.1;have hb5:h b5=noC:=ap.2.1;have nb:bo≠b5:=Ne.symm nd.1.1;clear ap nd;simp -dsimp -implicitDefEqProofs (disch:=first|with_reducible assumption|omega) [go_sem,g30];by_cases c:(gr Yc ql k).2.2.state=2
 ·have hy:=hyes c;have s1:=Zqd hkl 4;simp -dsimp -implicitDefEqProofs (disch:=first|with_reducible assumption|omega) [go_sem,g30];refine⟨by omega,?_⟩;rw[s1];have hkl2:k<(ql.set k ((gr Yc ql k).1,(gr Yc ql k).2.1,{ (gr Yc ql k).2.2 with state:=4 })).length:=by rw[List.length_set];exact hkl
  cases done with
  | false =>
   refine xx ?_;exact ZO hy
  | true =>
   have s2:=Zqd hkl2 3;have e2:gr Yc (ql.set k ((gr Yc ql k).1,(gr Yc ql k).2.1,{ (gr Yc ql k).2.2 with state:=4 })) k=((gr Yc ql k).1,(gr Yc ql k).2.1,{ (gr Yc ql k).2.2 with state:=4 }):=by rw[Yl hkl2,List.getElem_set_self]
   rw[e2,List.set_set]at s2;refine xx ?_;refine⟨by rw[← List.map_set (f:=fun a=>(Y2 a).length),← List.length_flatMap,Z3 Z9,List.length_set];omega,?_⟩;rw[s2];exact ZO hy
 ·have hn:=hno c;refine xx ?_;exact ZO hn
theorem Yhn {ql:List QM}{ms:List Zm}{b5:Nat}(v:Value)(hv:Zh Y2 33 h v ql)(hq:ql.map (fun x=>x.2.2)=ms)(hm:Y7 h ql)(hl:ql.length≤1000)(hb:∀m∈ms,m.yes.length≤1000∧m.no.length≤1000)(i:Int)(hi : -9223372036854775808≤i∧i≤9223372036854775807)(done:Bool)
  (hk:∀h' r ql',PH.le h h'→Zh Y2 33 h' r ql'→ql'.map (fun x=>x.2.2)=(Yes ms i done).1→Y7 h' ql'→K (.tuple #[r,.int .i64 (Yes ms i done).2]) L h') :
  Zb Tryz.prog 272 [v,.int .i64 i,.func (.func 273) #[] #[.pointer (some ⟨b5,0,none⟩)]] (mfB b5 done::L) h K:=by
 have hql:ql.length=ms.length:=by rw[← hq,List.length_map]
 have hv0:=hv;obtain⟨va,vc,rfl,_⟩:=hv.open;have bad:∀h' e,PH.le h h'→Yes ms i done=([],e)→K (.tuple #[.slice none 0 0,.int .i64 e]) L h':=fun h' e le eq=>by
  have:=hk h' (.slice none 0 0) [] le (Zh.nil Z9 h') (by rw[eq];rfl) (fun x hx=>by cases hx);rw[eq]at this;exact this
 refine Z4 Tryz.func272 rfl (rs:=[_,_]) rfl rfl ZY (by kernel_rfl) rfl rfl fun ap nd=>?_;clear ap nd;refine xx ?_;refine Uz _ _ _ ?_;rw[hql]at hv0 ⊢
 cases q1:wi i 0 ((ms.length:Int)-1) with
 | false =>
  have:=bad h 230 (PH.le_refl _) (by rw[Yes,if_neg (fun c=>by rw[show wi i 0 ((ms.length:Int)-1)=true from wi_iff.2 (by omega)]at q1;cases q1)]);refine xx ?_;exact ZP (ZO this)
 | true =>
 have q1':=wi_iff.1 q1;obtain⟨k,rfl⟩:=Int.eq_ofNat_of_zero_le q1'.1;have hkl:k<ms.length:=by omega
 have ev:Yes ms k done=if (gr Yj ms k).state=2 then (ms.set k (Zwh (gr Yj ms k) done),0) else ([],291):=by
  rw[Yes,if_pos (by omega)];rfl
 refine xx ?_;refine Zb.apn (GW _ hv0 hq hm hl hb fun h5 o ql' le5 oko apo eq' mo' ap nd=>?_);have hql':ql'.length=ms.length:=by rw[← eq',List.length_map]
 obtain⟨bo,co,rfl⟩:∃bt cap,o=some (bt,cap):=by
  cases o with
  | none=>have:ms.length=0:=oko;omega
  | some p=>exact⟨_,_,rfl⟩
 have hbo:h5 bo=noC:=apo.2;clear ap nd;rw[Yg];simp only[ovs];refine xx ?_;have egr:=Znm eq' hkl;refine Zb.ap (Ybw (by omega) (by omega) mo' (fun c ap=>?_) (fun c ap=>?_))
 ·have hbo6:h5 bo=noC:=ap.1;clear ap;rw[egr]at c;rw[if_pos c]at ev;rw[egr];refine xx ?_;refine YE (e:=75) (sz:=33) (n:=ms.length) (o:=some (bo,co)) oko (by rw[Z3 Z9,List.length_set,hql']) (by omega) (L0:=[]) ⟨trivial,hbo6⟩ fun h7 le7 sl=>ZP (ZO ?_);have hq2:=Yl (z:=Yc) (l:=ql') (i:=k) (by omega);have him:Zw h5 (gr Yc ql' k):=mo' _ (by rw[hq2];exact List.getElem_mem _);have him2:Zw h5 ((gr Yc ql' k).1,(gr Yc ql' k).2.1,Zwh (gr Yj ms k) done):=by
   rw[← egr];exact Zir him (st:=if done then 3 else 4) (by cases done<;>decide) (him.ok.n _ (by simp))
  have:=hk h7 _ (ql'.set k ((gr Yc ql' k).1,(gr Yc ql' k).2.1,Zwh (gr Yj ms k) done)) (le5.trans le7) (by have:=Zh.pub (f:=Y2) (w:=33) (l:=ql'.set k ((gr Yc ql' k).1,(gr Yc ql' k).2.1,Zwh (gr Yj ms k) done)) (o:=some (bo,co)) Z9 (by rw[List.length_set,hql'];exact sl);rwa [List.length_set,hql']at this) (by rw[Zdh,eq',ev]) (fun x hx=>(Zip mo' him2 x hx).up le7);rw[ev]at this;exact this
 ·clear ap;rw[egr]at c;rw[if_neg c]at ev;have:=bad h5 291 le5 ev;refine xx ?_;exact ZP (ZP (ZO this))
theorem Zoa {ql:List QM}{ms:List Zm}(v:Value)(hv:Zh Y2 33 h v ql)(hq:ql.map (fun x=>x.2.2)=ms)(hm:Y7 h ql)(hl:ql.length≤1000)(hb:∀m∈ms,m.yes.length≤1000∧m.no.length≤1000)(i:Int)(hi : -9223372036854775808≤i∧i≤9223372036854775807)(done:Bool)
  (hk:∀h' r ql',PH.le h h'→Zh Y2 33 h' r ql'→ql'.map (fun x=>x.2.2)=(Yes ms i done).1→Y7 h' ql'→K (.tuple #[r,.int .i64 (Yes ms i done).2]) L h') :
  Zb Tryz.prog 162 [v,.int .i64 i,.bool done] L h K:=by
 refine ZR Tryz.func162 rfl (rs:=[_,_]) rfl rfl ZY (by kernel_rfl) rfl rfl ?_;refine xx ?_;refine Z6 fun b5 nb5 zb5=>?_;(try simp only[ZU]at nb5);refine xx ?_;refine Yhn v hv hq hm hl hb i hi done fun h' r ql' le i1 i2 i3=>?_;have:=hk h' r ql' le i1 i2 i3;refine xx ?_;exact ZO this
theorem Sl.drop {h:PH}{a:Option Addr}{n c sz:Nat}{cs:List Value}(hs:Sl h (.slice a n c) n sz cs)(i:Nat)(hi:i≤n):Sl h (.slice (Gr a c i sz) (n-i) (c-i)) (n-i) sz (cs.drop (i*sz)):=by
 obtain⟨h1,a',c',h2,h3,h4,h5,h6,h7⟩:=hs;injection h2 with e1 e2 e3
 subst e1;subst e3;refine⟨by rw[List.length_drop,h1,Nat.sub_mul],Gr a c i sz,c-i,rfl,by omega,by omega,by omega,fun hn=>?_,fun m v hm=>?_⟩
 ·unfold Gr at hn;split at hn
  ·omega
  ·cases a with
   | none=>have:=h6 rfl;omega
   | some q=>simp at hn
 ·rw[List.getElem?_drop]at hm;have hlt:=(List.getElem?_eq_some_iff.1 hm).1;have hne:¬c=i:=fun e=>by
   have:n=i:=by omega
   subst this;omega
  have:=h7 (i*sz+m) v hm;unfold Gr;rw[if_neg hne]
  cases a with
  | none=>simp [Yo]at this
  | some q =>
   simp only[Yo,Option.map_some,Zrb]at this ⊢;exact this
end Go.X

/- Lemmas and contracts. Conditions: as each says. -/
import Derived.Test.YtllhopbilpdpkaaGreatQ30
set_option linter.unusedVariables false
set_option linter.unusedSimpArgs false
set_option maxHeartbeats 12800000
set_option maxRecDepth 20000
namespace Go.X
open Go.RowKit Go.Proofs Go.Bl
structure Zf where
 ep:Int
 mode:Int
 quo:Bool
 pres:Int
 act:Int
 mint:Int
 paid:Int
 kept:Int
 burned:Int
 fees:Int
 out:List Int
 left:List Int
 started:List Int
 done:List Int
def upI (f:Nat→Zc→Zc)(l:List Zc):Nat→List Zc
 | 0=>l
 | k+1=>(upI f l k).set k (f k (gr ZQ l k))
theorem Vf (f:Nat→Zc→Zc)(l:List Zc):∀k,(upI f l k).length=l.length
 | 0=>rfl
 | k+1=>by rw[upI,List.length_set];exact Vf f l k
theorem Zoq {l:List Zc}{j:Nat}(hj:l.length≤j):gr ZQ l j=ZQ:=by
 unfold gr;rw[List.getD_eq_getElem?_getD,List.getElem?_eq_none hj];rfl
theorem WN {l:List Zc}{i j:Nat}{m:Zc}(hi:i<l.length):gr ZQ (l.set i m) j=if j=i then m else gr ZQ l j:=by
 by_cases e:j=i
 ·subst e;rw[Z9 (by simpa using hi),if_pos rfl,List.getElem_set_self]
 ·rw[if_neg e];by_cases hj:j<l.length
  ·rw[Z9 (by simpa using hj),Z9 hj,List.getElem_set_ne (Ne.symm e)]
  ·rw[Zoq (by simpa using hj),Zoq (by omega)]
theorem Zdr (f:Nat→Zc→Zc)(l:List Zc):∀k,k≤l.length→∀j,gr ZQ (upI f l k) j=if j<k then f j (gr ZQ l j) else gr ZQ l j
 | 0,_,j=>by simp [upI]
 | k+1,hk,j=>by
  rw[upI,WN (by rw[Vf];omega)];by_cases e:j=k
  ·subst e;rw[if_pos rfl,if_pos (by omega)]
  ·rw[if_neg e,Zdr f l k (by omega) j];by_cases c:j<k
   ·rw[if_pos c,if_pos (by omega)]
   ·rw[if_neg c,if_neg (by omega)]
theorem Zch (f:Nat→Zc→Zc)(l:List Zc){k:Nat}(hk:k<l.length):gr ZQ (upI f l k) k=gr ZQ l k:=by
 rw[Zdr f l k (by omega),if_neg (by omega)]
theorem Zpd (f:Nat→Zc→Zc)(l:List Zc){k:Nat}(hk:k<l.length)(hf:f k (gr ZQ l k)=gr ZQ l k):upI f l (k+1)=upI f l k:=by
 have hl:=Vf f l k;have h1:=Zch f l hk;rw[Z9 (by omega)]at h1;rw[upI,hf,← h1,List.set_getElem_self]
theorem Zip {f:Nat→Zc→Zc}{l:List Zc}(P:Zc→Prop)(hf:∀k x,P x→P (f k x))(hl:∀x∈l,P x):∀k,k≤l.length→∀x∈upI f l k,P x
 | 0,_=>hl
 | k+1,hk=>fun x hx=>by
  rw[upI]at hx;rcases List.mem_or_eq_of_mem_set hx with hx|rfl
  ·exact Zip P hf hl k (by omega) x hx
  ·exact hf _ _ (hl _ (YA (by omega)))
def wgF (p:Zd)(ks:List Int)(mode:Int)(k:Nat)(m:Zc):Zc:=if Gw m then VS p m (WH ks k) mode else m
def wgS (s:Ze):Ze:={ s with calm:=(Vx s.calm (JB s) (W6 s)).1,members:=upI (wgF s.par s.marks (V3 s)) s.members s.members.length }
def wgR (s:Ze)(r:Zf):Zf:={ r with pres:=JB s,act:=W6 s,quo:=(Vx s.calm (JB s) (W6 s)).2,mode:=V3 s }
theorem Ygn {p:Zd}(ok:Zj p)(hr:Yd p=true)(ks:List Int)(mode:Int)(k:Nat){m:Zc}(mo:Zg m):Zg (wgF p ks mode k m):=by
 unfold wgF;split
 ·exact Yfo ok hr mo _ _
 ·exact mo
def mtN (s:Ze)(r:Zf):Int:=GY s.par r.act (s.gen+s.mint) s.most r.mode
def mtW (s:Ze):List Nat:=thI s.members s.marks s.members.length
def mtL (s:Ze)(k:Nat):List Zc:=(thI s.members s.marks k).map (gr ZQ s.members)
def mtP (s:Ze)(r:Zf):List Int:=Jf s.par (mtN s r) (mtL s s.members.length)
def U9 (p:Zd)(i:Nat)(a:Int)(x:List Zc×List Int):List Zc×List Int :=
 (x.1.set i (UE p (gr ZQ x.1 i) a).1,x.2.set (gr ZQ x.1 i).owner.toNat (at0 x.2 (gr ZQ x.1 i).owner.toNat+(UE p (gr ZQ x.1 i) a).2))
def mtK (p:Zd)(W:List Nat)(P:List Int)(x:List Zc×List Int):Nat→List Zc×List Int
 | 0=>x
 | k+1=>U9 p (W.getD k 0) (at0 P k) (mtK p W P x k)
def mtX (s:Ze)(r:Zf)(k:Nat):List Zc×List Int:=mtK s.par (mtW s) (mtP s r) (s.members,s.purses) k
def Zhj (s:Ze)(r:Zf)(k:Nat):Ze:={ s with mint:=s.mint+mtN s r,treas:=s.treas+mtN s r-YK (mtP s r) k,members:=(mtX s r k).1,purses:=(mtX s r k).2 }
def Ygo (s:Ze)(r:Zf)(k:Nat):Zf:={ r with mint:=mtN s r,paid:=r.paid+YK (mtP s r) k }
def mtS (s:Ze)(r:Zf):Ze:=Zhj s r (mtW s).length
def mtR (s:Ze)(r:Zf):Zf:={ Ygo s r (mtW s).length with kept:=mtN s r-tot (mtP s r) }
abbrev fnC (ks:List Int)(k:Nat)(m:Zc):Prop:=Gw m∧WH ks k=false
def fnF (p:Zd)(ks:List Int)(mode:Int)(k:Nat)(m:Zc):Zc:=if fnC ks k m then Jy p m mode else m
def fnT (p:Zd)(ks:List Int)(mode:Int)(ms:List Zc):Nat→Int
 | 0=>0
 | k+1=>if fnC ks k (gr ZQ ms k) then fnT p ks mode ms k+YY p (gr ZQ ms k) mode else fnT p ks mode ms k
def fnU (p:Zd)(ks:List Int)(mode:Int)(ms:List Zc):Nat→Int
 | 0=>0
 | k+1=>if fnC ks k (gr ZQ ms k) then fnU p ks mode ms k+V6 p (YY p (gr ZQ ms k) mode) else fnU p ks mode ms k
abbrev Zdy (s:Ze)(r:Zf)(k:Nat):Int:=fnT s.par s.marks r.mode s.members k
abbrev Zcy (s:Ze)(r:Zf)(k:Nat):Int:=fnU s.par s.marks r.mode s.members k
def UQ (s:Ze)(r:Zf)(k:Nat):Ze:={ s with treas:=s.treas+Zdy s r k,members:=upI (fnF s.par s.marks r.mode) s.members k }
def fnR (s:Ze)(r:Zf)(k:Nat):Zf:={ r with burned:=r.burned+Zcy s r k,fees:=r.fees+(Zdy s r k-Zcy s r k) }
def fnS (s:Ze)(r:Zf):Ze:=Zxl (UQ s r s.members.length) (fnR s r s.members.length).burned
def ejS (s:Ze)(t:Int)(k:Nat):Ze:={ s with members:=upN (ejF s.par) s.members k,dues:=duN s.par s.members t s.dues k,exit:=exN s.par s.members s.exit k }
def ejR (s:Ze)(r:Zf)(k:Nat):Zf:={ r with out:=r.out++ouN s.par s.members k }
def Zcr (t:Int)(i:Nat)(x:List Zc×List Zi):List Zc×List Zi:=(x.1.set i (Gk (gr ZQ x.1 i) 5),JQ x.2 (Ju t (gr ZQ x.1 i)))
def lvK (t:Int)(W:List Int)(x:List Zc×List Zi):Nat→List Zc×List Zi
 | 0=>x
 | k+1=>Zcr t (at0 W k).toNat (lvK t W x k)
def dpK (l:List Zi)(ps:List Int):Nat→List Int
 | 0=>ps
 | k+1=>(dpK l ps k).set (gr ZV l k).acct.toNat (at0 (dpK l ps k) (gr ZV l k).acct.toNat+(gr ZV l k).amt)
def lvW (s:Ze):List Int:=s.exit.take s.par.churn.toNat
def lvX (s:Ze)(t:Int):List Zc×List Zi:=lvK t (lvW s) (s.members,s.dues) (lvW s).length
def lvD (s:Ze)(t:Int):List Zi:=(lvX s t).2.filter (Jx s.ep true)
def lvS (s:Ze)(t:Int):Ze:={ s with exit:=s.exit.drop s.par.churn.toNat,members:=(lvX s t).1,dues:=(lvX s t).2.filter (Jx s.ep false),purses:=dpK (lvD s t) s.purses (lvD s t).length }
def lvR (s:Ze)(r:Zf):Zf:={ r with left:=lvW s }
structure ZJ where
 ms:List Zc
 ps:List Int
 en:List Int
def Zld (p:Zd)(i:Nat)(a:Int)(acct:Int)(x:ZJ):ZJ :=
 ⟨x.ms.set i (Ux p (gr ZQ x.ms i) a),x.ps.set acct.toNat (at0 x.ps acct.toNat+(a-Ws p (gr ZQ x.ms i) a)),
  if (Ux p (gr ZQ x.ms i) a).status=(gr ZQ x.ms i).status then x.en else x.en++[(i:Int)]⟩
def Wl (p:Zd)(d:Zk)(x:ZJ):ZJ :=
 if d.new then (if 128≤x.ms.length then ⟨x.ms,x.ps.set d.acct.toNat (at0 x.ps d.acct.toNat+d.amt),x.en⟩ else Zld p x.ms.length d.amt d.acct ⟨x.ms++[⟨0,0,0,0,d.acct,4⟩],x.ps,x.en⟩)
 else Zld p d.mem.toNat d.amt d.acct x
def crK (p:Zd)(l:List Zk)(x:ZJ):Nat→ZJ
 | 0=>x
 | k+1=>Wl p (gr Z4 l k) (crK p l x k)
structure StX where
 ms:List Zc
 ds:List Zi
 ex:List Int
 out:List Int
 go:List Int
def J2 (p:Zd)(t:Int)(i:Nat)(x:StX):StX :=
 if (WT p (gr ZQ x.ms i)).2 then { x with ms:=x.ms.set i (WT p (gr ZQ x.ms i)).1,go:=x.go++[(i:Int)] }
 else ⟨x.ms.set i (Zua (gr ZQ x.ms i)),JQ x.ds (Ju t (gr ZQ x.ms i)),flt x.ex i,x.out++[(i:Int)],x.go⟩
def stK (p:Zd)(t:Int)(W:List Int)(x:StX):Nat→StX
 | 0=>x
 | k+1=>J2 p t (at0 W k).toNat (stK p t W x k)
def enX (s:Ze):ZJ:=crK s.par s.pool ⟨s.members,s.purses,s.entry⟩ s.pool.length
def enW (s:Ze):List Int:=(enX s).en.take s.par.churn.toNat
def enY (s:Ze)(r:Zf)(t:Int):StX:=stK s.par t (enW s) ⟨(enX s).ms,s.dues,s.exit,r.out,r.started⟩ (enW s).length
def enS (s:Ze)(r:Zf)(t:Int):Ze:=if r.quo then { s with pool:=[],members:=(enY s r t).ms,purses:=(enX s).ps,entry:=(enX s).en.drop s.par.churn.toNat,dues:=(enY s r t).ds,exit:=(enY s r t).ex } else s
def enR (s:Ze)(r:Zf)(t:Int):Zf:=if r.quo then { r with out:=(enY s r t).out,started:=(enY s r t).go } else r
def Zco (p:Zd)(ms:List Zc)(ep:Int)(m:Zl):Zl :=
 if m.state=1∧m.ends≤ep then (if Yeh p.quorum (UR ms m.yes) (UR ms m.no) (VA ms) then { m with state:=2,due:=min (ep+p.enact) 2147483647 } else { m with state:=4 }) else m
def Zxq (p:Zd)(ms:List Zc)(ep:Int)(l:List Zl):List Zl:=l.map (Zco p ms ep)
def Ztg (m:Zl)(done:Bool):Zl:={ m with state:=if done then 3 else 4 }
def Ybo (l:List Zl)(i:Int)(done:Bool):List Zl×Int :=
 if 0≤i∧i<(l.length:Int) then (if (gr Z5 l i.toNat).state=2 then (l.set i.toNat (Ztg (gr Z5 l i.toNat) done),0) else ([],291)) else ([],230)
structure MoX where
 par:Zd
 tr:Int
 ps:List Int
 em:Bool
 mo:List Zl
 dn:List Int
def moB (m:Zl)(tr:Int):Bool:=decide (m.what≠2)||decide (m.amt≤tr)
def Wv (m:Zl)(x:MoX):MoX :=
 if m.what=3 then { x with em:=true } else if m.what=4 then { x with em:=false } else if m.what=1 then { x with par:=m.par }
 else if m.what=2∧m.amt≤x.tr then { x with tr:=x.tr-m.amt,ps:=x.ps.set m.to.toNat (at0 x.ps m.to.toNat+m.amt) } else x
def Zbm (i:Nat)(x:MoX):MoX :=
 { Wv (gr Z5 x.mo i) x with mo:=x.mo.set i (Ztg (gr Z5 x.mo i) (moB (gr Z5 x.mo i) x.tr)),dn:=if moB (gr Z5 x.mo i) x.tr then x.dn++[(i:Int)] else x.dn }
def moK (W:List Int)(x:MoX):Nat→MoX
 | 0=>x
 | k+1=>Zbm (at0 W k).toNat (moK W x k)
def moL (s:Ze):List Zl:=Zxq s.par s.members s.ep s.motions
def moW (s:Ze)(r:Zf):List Int:=Vd (moL s) s.ep r.quo (moL s).length
def moX (s:Ze)(r:Zf)(k:Nat):MoX:=moK (moW s r) ⟨s.par,s.treas,s.purses,s.emer,moL s,r.done⟩ k
def Yun (s:Ze)(r:Zf)(k:Nat):Ze:={ s with par:=(moX s r k).par,treas:=(moX s r k).tr,purses:=(moX s r k).ps,emer:=(moX s r k).em,motions:=(moX s r k).mo }
def moRk (s:Ze)(r:Zf)(k:Nat):Zf:={ r with done:=(moX s r k).dn }
def moS (s:Ze)(r:Zf):Ze:=Yun s r (moW s r).length
def moR (s:Ze)(r:Zf):Zf:=moRk s r (moW s r).length
def Ybj (s:Ze)(k:Nat):Ze:={ s with members:=(clN s.par (s.members,s.purses) k).1,purses:=(clN s.par (s.members,s.purses) k).2 }
def ajS (s:Ze):Ze:=Ybj s s.members.length
def Zpi (s:Ze)(k:Nat):Ze:={ s with members:=upN (JL s.par) s.members k }
def seS (s:Ze):Ze:={ Zpi s s.members.length with ring:=Zjz s.ring s.marks,marks:=List.replicate 16 0,ep:=s.ep+1 }
def r0P (s:Ze):Zf:=⟨s.ep,0,false,0,0,0,0,0,0,0,[],[],[],[]⟩
def atP (s:Ze):Int:=min (s.ep+s.par.wait) 2147483647
def Zti (t:Int)(x:Ze×Zf):Ze×Zf:=(ejS x.1 t x.1.members.length,ejR x.1 x.2 x.1.members.length)
def tk2 (s:Ze):Ze×Zf:=(wgS s,wgR s (r0P s))
def tk3 (s:Ze):Ze×Zf:=(mtS (tk2 s).1 (tk2 s).2,mtR (tk2 s).1 (tk2 s).2)
def tk4 (s:Ze):Ze×Zf:=(fnS (tk3 s).1 (tk3 s).2,fnR (tk3 s).1 (tk3 s).2 (tk3 s).1.members.length)
def tk5 (s:Ze):Ze×Zf:=Zti (atP s) (tk4 s)
def tk7 (s:Ze):Ze×Zf:=(lvS (tk5 s).1 (atP s),lvR (tk5 s).1 (tk5 s).2)
def tk8 (s:Ze):Ze×Zf:=(enS (tk7 s).1 (tk7 s).2 (atP s),enR (tk7 s).1 (tk7 s).2 (atP s))
def tk9 (s:Ze):Ze×Zf:=(moS (tk8 s).1 (tk8 s).2,moR (tk8 s).1 (tk8 s).2)
def Vm (s:Ze):Ze×Zf:=if (tk9 s).1.par=s.par then tk9 s else Zti (atP s) (ajS (tk9 s).1,(tk9 s).2)
def YP (s:Ze):Ze:=seS (Vm s).1
def Yz (s:Ze):Zf:=(Vm s).2
def zeroR:Zf:=⟨0,0,false,0,0,0,0,0,0,0,[],[],[],[]⟩
def Zdl (s:Ze):Int:=if Yb s then (if 1073741824≤s.ep then 200 else 0) else 291
theorem Zcb {ps:List Int}{i:Nat}{a:Int}(hi:i<ps.length):tot (ps.set i (at0 ps i+a))=tot ps+a:=by rw[JH hi];omega
theorem Zlb {ps:List Int}{i:Nat}{a:Int}(hp:∀j,0≤at0 ps j)(ha:0≤a)(hi:i<ps.length)(j:Nat):0≤at0 (ps.set i (at0 ps i+a)) j:=by
 have h0:=hp j;have h1:=hp i;rw[WV _ _ _ _ hi];split<;>omega
theorem JN {ms:List Zc}{i:Nat}(hi:i<ms.length)(m:Zc):tot ((ms.set i m).map Zc.bal)=tot (ms.map Zc.bal)+(m.bal-(gr ZQ ms i).bal):=by
 rw[List.map_set,JH (by simpa using hi),Vc hi]
theorem Zdv (xs ys:List Int):tot (xs++ys)=tot xs+tot ys:=by
 rw[Zfu,Zfu,Zfu,List.sum_append]
structure Zy (ms:List Zc)(ps:List Int):Prop where
 m:∀x∈ms,Zg x
 o:∀x∈ms,0≤x.owner∧x.owner<ps.length
 p:∀i,0≤at0 ps i
theorem Zy.ok {ms:List Zc}{ps:List Int}(h:Zy ms ps)(ht:tot ps+tot (ms.map Zc.bal)≤4611686018427387904):ZF ms ps:=⟨h.m,h.o,h.p,ht⟩
theorem Zy.setM {ms:List Zc}{ps:List Int}(h:Zy ms ps)(i:Nat){m:Zc}(hm:Zg m)(ho:0≤m.owner∧m.owner<ps.length):Zy (ms.set i m) ps :=
 ⟨fun x hx=>by
  rcases List.mem_or_eq_of_mem_set hx with hx|rfl
  ·exact h.m x hx
  ·exact hm,fun x hx=>by
  rcases List.mem_or_eq_of_mem_set hx with hx|rfl
  ·exact h.o x hx
  ·exact ho,h.p⟩
theorem Zy.pay {ms:List Zc}{ps:List Int}(h:Zy ms ps){i:Nat}(hi:i<ps.length){a:Int}(ha:0≤a):Zy ms (ps.set i (at0 ps i+a)) :=
 ⟨h.m,fun x hx=>by rw[List.length_set];exact h.o x hx,Zlb h.p ha hi⟩
theorem Zy.at {ms:List Zc}{ps:List Int}(h:Zy ms ps){i:Nat}(hi:i<ms.length):Zg (gr ZQ ms i)∧0≤(gr ZQ ms i).owner∧(gr ZQ ms i).owner<ps.length:=⟨h.m _ (YA hi),h.o _ (YA hi)⟩
theorem Zy.bal {ms:List Zc}{ps:List Int}(h:Zy ms ps):0≤tot (ms.map Zc.bal):=YI (Vb h.m)
theorem Zy.pur {ms:List Zc}{ps:List Int}(h:Zy ms ps):0≤tot ps:=YI h.p
theorem Zy.le {ms:List Zc}{ps:List Int}(h:Zy ms ps)(i:Nat):0≤at0 ps i∧at0 ps i≤tot ps:=⟨h.p i,Yw h.p i⟩
theorem Zy.bl {ms:List Zc}{ps:List Int}(h:Zy ms ps){i:Nat}(hi:i<ms.length):0≤(gr ZQ ms i).bal∧(gr ZQ ms i).bal≤tot (ms.map Zc.bal):=by
 have h1:=Yw (Vb h.m) i;have h2:=Vb h.m i;rw[Vc hi]at h1 h2;exact⟨h2,h1⟩
theorem Zut {p:Zd}(ok:Zj p){m:Zc}(mo:Zg m){a:Int}(ha:0≤a):Zg (UE p m a).1∧(UE p m a).1.owner=m.owner∧(UE p m a).1.status=m.status∧0≤(UE p m a).2∧(UE p m a).2≤a∧(UE p m a).1.bal+(UE p m a).2=m.bal+a:=by
 have hb:=mo.u m.bal (by simp);have he:=mo.u m.eff (by simp);have hs:=mo.u m.score (by simp);have hn1:=mo.n m.streak (by simp);have hn2:=mo.n m.owner (by simp);have hn3:=mo.n m.status (by simp);have hc:=ok.w p.cap (by simp [Ys]);have hf:0≤Y8 p.cap m.bal∧(Y8 p.cap m.bal=0∨m.bal+Y8 p.cap m.bal=p.cap):=by unfold Y8;split<;>omega
 refine⟨⟨fun z hz=>?_,fun z hz=>?_⟩,rfl,rfl,?_,?_,?_⟩
 ·simp only[UE,List.mem_cons,List.not_mem_nil,or_false]at hz;rcases hz with rfl|rfl|rfl<;>omega
 ·simp only[UE,List.mem_cons,List.not_mem_nil,or_false]at hz;rcases hz with rfl|rfl|rfl<;>omega
 ·show 0≤a-min a (Y8 p.cap m.bal);omega
 ·show a-min a (Y8 p.cap m.bal)≤a;omega
 ·show m.bal+min a (Y8 p.cap m.bal)+(a-min a (Y8 p.cap m.bal))=_;omega
theorem Ypa (p:Zd)(i:Nat)(a:Int)(x:List Zc×List Int):(U9 p i a x).1.length=x.1.length∧(U9 p i a x).2.length=x.2.length:=⟨List.length_set,List.length_set⟩
theorem py_ok {p:Zd}(ok:Zj p){x:List Zc×List Int}(h:Zy x.1 x.2){i:Nat}(hi:i<x.1.length){a:Int}(ha:0≤a) :
  Zy (U9 p i a x).1 (U9 p i a x).2∧tot (U9 p i a x).2+tot ((U9 p i a x).1.map Zc.bal)=tot x.2+tot (x.1.map Zc.bal)+a:=by
 obtain⟨mo,o1,o2⟩:=h.at hi;obtain⟨g1,g2,g3,g4,g5,g6⟩:=Zut ok mo ha;have hj:(gr ZQ x.1 i).owner.toNat<x.2.length:=by omega
 refine⟨(h.pay hj g4).setM i g1 ⟨by rw[g2];exact o1,by rw[g2,List.length_set];exact o2⟩,?_⟩;simp only[U9];rw[Zcb hj,JN hi];omega
structure Wgn (P:List Int)(x0 x:List Zc×List Int)(k:Nat):Prop where
 l1:x.1.length=x0.1.length
 l2:x.2.length=x0.2.length
 b:Zy x.1 x.2
 t:tot x.2+tot (x.1.map Zc.bal)=tot x0.2+tot (x0.1.map Zc.bal)+YK P k
 s:∀j,(gr ZQ x.1 j).status=(gr ZQ x0.1 j).status∧(gr ZQ x.1 j).owner=(gr ZQ x0.1 j).owner
theorem Yhq {p:Zd}(ok:Zj p){W:List Nat}{P:List Int}{x:List Zc×List Int}(h:Zy x.1 x.2)(hW:∀i∈W,i<x.1.length)(hP:∀i,0≤at0 P i):∀k,k≤W.length→Wgn P x (mtK p W P x k) k
 | 0,_=>⟨rfl,rfl,h,by simp [mtK,YK],fun _=>⟨rfl,rfl⟩⟩
 | k+1,hk=>by
  have ih:=Yhq ok h hW hP k (by omega);have hi:W.getD k 0<x.1.length:=by
   rw[List.getD_eq_getElem?_getD,List.getElem?_eq_getElem (by omega),Option.getD_some];exact hW _ (List.getElem_mem _)
  have hi2:W.getD k 0<(mtK p W P x k).1.length:=by rw[ih.l1];exact hi
  have hl:=Ypa p (W.getD k 0) (at0 P k) (mtK p W P x k);obtain⟨g1,g2⟩:=py_ok ok ih.b hi2 (hP k);refine⟨hl.1.trans ih.l1,hl.2.trans ih.l2,g1,?_,fun j=>?_⟩
  ·rw[YK,← Int.add_assoc,← ih.t];exact g2
  ·rw[mtK];simp only[U9];rw[WN hi2];obtain⟨e1,e2⟩:=ih.s j;split
   ·rename_i e;subst e;exact⟨e1,e2⟩
   ·exact⟨e1,e2⟩
theorem Zvy {l:List Zc}{ks:List Int}{n i:Nat}(hi:i∈thI l ks n):i<n:=Yzr (List.mem_filter.1 hi).1
theorem Ymk {l:List Zc}{ks:List Int}{n i:Nat}(hi:i∈thI l ks n):Gw (gr ZQ l i)∧WH ks i=true:=by
 have h1:=List.mem_filter.1 hi;have h2:=Ypn h1.1;simp only[G3,decide_eq_true_eq]at h2;exact⟨h2,h1.2⟩
theorem Zaj {p:Zd}(ok:Zj p)(hr:Yd p=true){m:Zc}(mo:Zg m)(mode:Int):Zg (Jy p m mode)∧0≤YY p m mode∧YY p m mode≤m.bal∧0≤V6 p (YY p m mode)∧V6 p (YY p m mode)≤YY p m mode:=by
 have hb:=mo.u m.bal (by simp);have he:=mo.u m.eff (by simp);have hs:=mo.u m.score (by simp);have hn1:=mo.n m.streak (by simp);have hn2:=mo.n m.owner (by simp);have hn3:=mo.n m.status (by simp);have hf:=Zxj ok hr mo mode;have hps:=Z6 hr;have hbu:=Ylv (p:=p) (n:=YY p m mode) ⟨hf.1,by omega⟩ (by omega);refine⟨⟨fun z hz=>?_,fun z hz=>?_⟩,hf.1,hf.2,hbu.1,hbu.2.1⟩
 ·simp only[Jy,List.mem_cons,List.not_mem_nil,or_false]at hz;rcases hz with rfl|rfl|rfl<;>omega
 ·simp only[Jy,List.mem_cons,List.not_mem_nil,or_false]at hz;rcases hz with rfl|rfl|rfl<;>omega
theorem Yhh {p:Zd}(ok:Zj p)(hr:Yd p=true)(ks:List Int)(mode:Int)(k:Nat){m:Zc}(mo:Zg m):Zg (fnF p ks mode k m):=by
 unfold fnF;split
 ·exact(Zaj ok hr mo mode).1
 ·exact mo
theorem Ydd (p:Zd)(ks:List Int)(mode:Int)(k:Nat)(m:Zc):(fnF p ks mode k m).owner=m.owner∧(fnF p ks mode k m).status=m.status:=by
 unfold fnF;split
 ·exact⟨rfl,rfl⟩
 ·exact⟨rfl,rfl⟩
theorem Yhg {p:Zd}(ok:Zj p)(hr:Yd p=true)(ks:List Int)(mode:Int){ms:List Zc}(hm:∀x∈ms,Zg x):∀k,k≤ms.length→0≤fnU p ks mode ms k∧fnU p ks mode ms k≤fnT p ks mode ms k∧fnT p ks mode ms k+tot ((upI (fnF p ks mode) ms k).map Zc.bal)=tot (ms.map Zc.bal)
 | 0,_=>⟨Int.le_refl _,Int.le_refl _,by simp [fnT,upI]⟩
 | k+1,hk=>by
  obtain⟨h1,h2,h3⟩:=Yhg ok hr ks mode hm k (by omega);have hl:=Vf (fnF p ks mode) ms k;have hb:=JN (ms:=upI (fnF p ks mode) ms k) (i:=k) (by omega) (fnF p ks mode k (gr ZQ ms k));rw[Zch _ _ (by omega)]at hb;obtain⟨_,g1,g2,g3,g4⟩:=Zaj ok hr (hm _ (YA (z:=ZQ) (k:=k) (by omega))) mode;rw[upI,hb,fnT,fnU];by_cases c:fnC ks k (gr ZQ ms k)
  ·rw[if_pos c,if_pos c,fnF,if_pos c];refine⟨by omega,by omega,?_⟩;show _+(_+((gr ZQ ms k).bal-YY p (gr ZQ ms k) mode-_))=_;omega
  ·rw[if_neg c,if_neg c,fnF,if_neg c];exact⟨h1,h2,by omega⟩
theorem Yuz {f:Nat→Zc→Zc}(hf:∀k m,(f k m).owner=m.owner∧(f k m).status=m.status)(l:List Zc):∀k,k≤l.length→∀j,(gr ZQ (upI f l k) j).owner=(gr ZQ l j).owner∧(gr ZQ (upI f l k) j).status=(gr ZQ l j).status:=fun k hk j=>by
 rw[Zdr f l k hk j];split
 ·exact hf _ _
 ·exact⟨rfl,rfl⟩
theorem Zsw (p:Zd)(ks:List Int)(mode:Int)(k:Nat)(m:Zc):(wgF p ks mode k m).owner=m.owner∧(wgF p ks mode k m).status=m.status∧(wgF p ks mode k m).bal=m.bal∧(wgF p ks mode k m).eff=m.eff:=by
 unfold wgF VS;split
 ·split
  ·exact⟨rfl,rfl,rfl,rfl⟩
  ·exact⟨rfl,rfl,rfl,rfl⟩
 ·exact⟨rfl,rfl,rfl,rfl⟩
theorem Ylw {m:Zc}(mo:Zg m){r:Int}(h0:0≤r∧r≤100):Zg (Gk m r):=by
 have hs:=mo.u m.score (by simp);have hn2:=mo.n m.owner (by simp);refine⟨fun z hz=>?_,fun z hz=>?_⟩
 ·simp only[Gk,List.mem_cons,List.not_mem_nil,or_false]at hz;rcases hz with rfl|rfl|rfl<;>omega
 ·simp only[Gk,List.mem_cons,List.not_mem_nil,or_false]at hz;rcases hz with rfl|rfl|rfl<;>omega
structure Wgm (x0 x:List Zc×List Zi)(k:Nat):Prop where
 l1:x.1.length=x0.1.length
 m:∀y∈x.1,Zg y
 d:∀y∈x.2,Zr y
 n:x.2.length≤x0.2.length+k
 t:Wu x.2+tot (x.1.map Zc.bal)=Wu x0.2+tot (x0.1.map Zc.bal)
 o:∀j,(gr ZQ x.1 j).owner=(gr ZQ x0.1 j).owner
theorem JZ {t:Int}(ht:0≤t∧t≤2147483647){m:Zc}(mo:Zg m):Zr (Ju t m):=by
 have hb:=mo.u m.bal (by simp);have hn:=mo.n m.owner (by simp)
 exact⟨hb,fun z hz=>by
  simp only[Ju,List.mem_cons,List.not_mem_nil,or_false]at hz
  rcases hz with rfl|rfl<;>omega⟩
theorem Zyk {t:Int}(ht:0≤t∧t≤2147483647){W:List Int}{x:List Zc×List Zi}(hm:∀y∈x.1,Zg y)(hd:∀y∈x.2,Zr y)(hW:∀i∈W,0≤i∧i<x.1.length)(hT:Wu x.2+tot (x.1.map Zc.bal)≤4611686018427387904):∀k,k≤W.length→Wgm x (lvK t W x k) k
 | 0,_=>⟨rfl,hm,hd,by simp [lvK],rfl,fun _=>rfl⟩
 | k+1,hk=>by
  have ih:=Zyk ht hm hd hW hT k (by omega);have hi:=hW (at0 W k) (by rw[← Ye (by omega)];exact List.getElem_mem (by omega));obtain⟨i,he⟩:=Int.eq_ofNat_of_zero_le hi.1;rw[lvK,he];have hi2:i<(lvK t W x k).1.length:=by rw[ih.l1];omega
  have mo:=ih.m _ (YA (z:=ZQ) hi2);have hb:=mo.u (gr ZQ (lvK t W x k).1 i).bal (by simp);have hbt:=Yw (Vb ih.m) i;rw[Vc hi2]at hbt;have h3:=ih.t;obtain⟨d1,_,d3⟩:=Zmt (M:=Wu (lvK t W x k).2) (n:=x.2.length+k) ⟨ih.d,Int.le_refl _,ih.n⟩ (JZ ht mo) (by show _+(gr ZQ (lvK t W x k).1 i).bal≤_;omega);refine⟨by simp only[Zcr,Int.toNat_natCast,List.length_set];exact ih.l1,fun y hy=>?_,d1,d3,?_,fun j=>?_⟩
  ·simp only[Zcr,Int.toNat_natCast]at hy;rcases List.mem_or_eq_of_mem_set hy with hy|rfl
   ·exact ih.m y hy
   ·exact Ylw mo (by decide)
  ·simp only[Zcr,Int.toNat_natCast];rw[Zab,JN hi2];show _+(gr ZQ (lvK t W x k).1 i).bal+(_+(0-_))=_;omega
  ·simp only[Zcr,Int.toNat_natCast];rw[WN hi2];split
   ·rename_i e;subst e;exact ih.o j
   ·exact ih.o j
theorem Zig {l:List Zi}{ps:List Int}(hp:∀i,0≤at0 ps i)(hl:∀x∈l,0≤x.acct∧x.acct<ps.length∧0≤x.amt):∀k,k≤l.length→(dpK l ps k).length=ps.length∧(∀i,0≤at0 (dpK l ps k) i)∧tot (dpK l ps k)=tot ps+YK (l.map Zi.amt) k
 | 0,_=>⟨rfl,hp,by simp [dpK,YK]⟩
 | k+1,hk=>by
  obtain⟨h1,h2,h3⟩:=Zig hp hl k (by omega);have hx:=hl _ (YA (z:=ZV) (k:=k) (l:=l) (by omega));have hj:(gr ZV l k).acct.toNat<(dpK l ps k).length:=by omega
  rw[dpK];refine⟨by rw[List.length_set];exact h1,Zlb h2 hx.2.2 hj,?_⟩;rw[Zcb hj,YK,Znt (by omega),h3];omega
theorem Yan {l:List Int}(h0:∀i,0≤at0 l i){k:Nat}(hk:k≤l.length):0≤YK l k∧YK l k≤tot l:=⟨VI h0 k,Gc h0 hk⟩
def Jv (ms:List Zc)(l:List Int)(st:Int):Prop:=l.Nodup∧∀z,z∈l↔∃j:Nat,z=j∧j<ms.length∧(gr ZQ ms j).status=st
theorem Vw {ms:List Zc}{l:List Int}{st:Int}(h:Jv ms l st){z:Int}(hz:z∈l):0≤z∧z<ms.length∧(gr ZQ ms z.toNat).status=st:=by
 obtain⟨j,rfl,h1,h2⟩:=(h.2 z).1 hz;exact⟨by omega,by omega,by simpa using h2⟩
theorem Ymg {ms:List Zc}{l:List Int}{st:Int}(h:Jv ms l st){j:Nat}(hj:j<ms.length)(e:(gr ZQ ms j).status=st):(j:Int)∈l:=(h.2 _).2 ⟨j,rfl,hj,e⟩
theorem Zxf {l:List Int}{n:Nat}(hn:l.Nodup)(hl:∀z∈l,0≤z∧z<n):l.length≤n:=by
 have h0:((List.range n).map fun j:Nat=>(j:Int)).Nodup:=by
  rw[List.Nodup,List.pairwise_map];exact List.nodup_range.imp fun h e=>h (by omega)
 have h1:l.Perm (((List.range n).map fun j:Nat=>(j:Int)).filter fun z=>decide (z∈l)):=by
  refine(List.perm_ext_iff_of_nodup hn (h0.filter _)).2 fun z=>?_;rw[List.mem_filter,decide_eq_true_eq];refine⟨fun hz=>⟨?_,hz⟩,fun hz=>hz.2⟩;obtain⟨h2,h3⟩:=hl z hz;exact List.mem_map.2 ⟨z.toNat,List.mem_range.2 (by omega),by omega⟩
 rw[h1.length_eq];refine Nat.le_trans (List.length_filter_le _ _) ?_;rw[List.length_map,List.length_range];exact Nat.le_refl _
theorem Uu {ms:List Zc}{l:List Int}{st:Int}(h:Jv ms l st):l.length≤ms.length:=Zxf h.1 fun z hz=>by
 have:=Vw h hz;omega
theorem row_iffB {s:Ze}{l:List Int}{st:Int}:Zdz s l st=true↔Jv s.members l st:=by
 constructor
 ·intro h;rw[Zdz,Bool.and_eq_true,decide_eq_true_eq]at h;obtain⟨h1,h2⟩:=h;have hp:l.Perm ((stL s.members st s.members.length).map fun j:Nat=>(j:Int)):=by
   refine GI (Zbg _ _ _) (fun x hx=>?_) ?_
   ·obtain⟨j,hj,rfl⟩:=List.mem_map.1 hx;rw[stL_mem]at hj;exact Ycl h1 hj.1 hj.2
   ·rw[List.length_map,h2,Zfz]
  refine⟨hp.nodup_iff.2 (Zbg _ _ _),fun z=>?_⟩;rw[hp.mem_iff,List.mem_map]
  constructor
  ·rintro⟨j,hj,rfl⟩;rw[stL_mem]at hj;exact⟨j,rfl,hj.1,hj.2⟩
  ·rintro⟨j,rfl,h3,h4⟩;exact⟨j,stL_mem.2 ⟨h3,h4⟩,rfl⟩
 ·intro h;rw[Zdz,Bool.and_eq_true,decide_eq_true_eq];refine⟨Zbh fun j hj e=>Ymg h hj e,?_⟩;rw[Zfz];have hp:l.Perm ((stL s.members st s.members.length).map fun j:Nat=>(j:Int)):=by
   refine(List.perm_ext_iff_of_nodup h.1 (Zbg _ _ _)).2 fun z=>?_;rw[h.2 z,List.mem_map]
   constructor
   ·rintro⟨j,rfl,h3,h4⟩;exact⟨j,stL_mem.2 ⟨h3,h4⟩,rfl⟩
   ·rintro⟨j,hj,rfl⟩;rw[stL_mem]at hj;exact⟨j,rfl,hj.1,hj.2⟩
  rw[hp.length_eq,List.length_map]
theorem J3 {ms ms':List Zc}{l:List Int}{st:Int}(h:Jv ms l st)(hl:ms'.length=ms.length)(he:∀j,j<ms.length→((gr ZQ ms' j).status=st↔(gr ZQ ms j).status=st)):Jv ms' l st:=by
 refine⟨h.1,fun z=>(h.2 z).trans ?_⟩
 constructor
 ·rintro⟨j,e,h1,h2⟩;exact⟨j,e,by omega,(he j h1).2 h2⟩
 ·rintro⟨j,e,h1,h2⟩;exact⟨j,e,by omega,(he j (by omega)).1 h2⟩
theorem Zbn {ms:List Zc}{l:List Int}{st:Int}(h:Jv ms l st){i:Nat}(hi:i<ms.length){m:Zc}(hm:m.status=st↔(gr ZQ ms i).status=st):Jv (ms.set i m) l st:=by
 refine J3 h (by simp) fun j hj=>?_;rw[WN hi];split
 ·rename_i e;subst e;exact hm
 ·exact Iff.rfl
theorem Ylr {ms:List Zc}{l:List Int}{st:Int}(h:Jv ms l st){i:Nat}(hi:i<ms.length){m:Zc}(h0:(gr ZQ ms i).status≠st)(hm:m.status=st):Jv (ms.set i m) (l++[(i:Int)]) st:=by
 have hni:(i:Int) ∉ l:=fun c=>h0 (by have:=(Vw h c).2.2;simpa using this);refine⟨?_,fun z=>?_⟩
 ·rw[List.nodup_append];refine⟨h.1,by simp,fun a ha b hb e=>hni ?_⟩;rw[List.mem_singleton]at hb;rw[← hb,← e];exact ha
 ·rw[List.mem_append,List.mem_singleton,h.2 z]
  constructor
  ·rintro(⟨j,rfl,h1,h2⟩ | rfl)
   ·refine⟨j,rfl,by simpa using h1,?_⟩;rw[WN hi];split
    ·exact hm
    ·exact h2
   ·exact⟨i,rfl,by simpa using hi,by rw[WN hi,if_pos rfl];exact hm⟩
  ·rintro⟨j,rfl,h1,h2⟩;rw[WN hi]at h2;by_cases e:j=i
   ·right;rw[e]
   ·left
    rw[if_neg e]at h2;exact⟨j,rfl,by simpa using h1,h2⟩
theorem Zwh {ms:List Zc}{l:List Int}{st:Int}(h:Jv ms l st){i:Nat}(hi:i<ms.length){m:Zc}(hm:m.status≠st):Jv (ms.set i m) (flt l i) st:=by
 refine⟨h.1.filter _,fun z=>?_⟩;rw[flt,List.mem_filter,h.2 z,decide_eq_true_eq]
 constructor
 ·rintro⟨⟨j,rfl,h1,h2⟩,h3⟩;refine⟨j,rfl,by simpa using h1,?_⟩;rw[WN hi,if_neg (fun e=>h3 (by rw[e]))];exact h2
 ·rintro⟨j,rfl,h1,h2⟩;rw[WN hi]at h2;by_cases e:j=i
  ·rw[if_pos e]at h2;exact absurd h2 hm
  ·rw[if_neg e]at h2;exact⟨⟨j,rfl,by simpa using h1,h2⟩,fun c=>e (by omega)⟩
theorem Znk {ms:List Zc}{l:List Int}{st:Int}{i:Nat}(h:Jv ms ((i:Int)::l) st){m:Zc}(hm:m.status≠st):Jv (ms.set i m) l st:=by
 have hi:i<ms.length:=by have:=(Vw h (z:=i) (by simp)).2.1;omega
 have hn:=List.nodup_cons.1 h.1;refine⟨hn.2,fun z=>?_⟩;have hz:=h.2 z;rw[List.mem_cons]at hz
 constructor
 ·intro hzl;obtain⟨j,rfl,h1,h2⟩:=hz.1 (.inr hzl);refine⟨j,rfl,by simpa using h1,?_⟩;rw[WN hi,if_neg (fun e=>hn.1 (by rw[← e];exact hzl))];exact h2
 ·rintro⟨j,rfl,h1,h2⟩;rw[WN hi]at h2;by_cases e:j=i
  ·rw[if_pos e]at h2;exact absurd h2 hm
  ·rw[if_neg e]at h2;rcases hz.2 ⟨j,rfl,by simpa using h1,h2⟩ with c|c
   ·exact absurd (by omega) e
   ·exact c
theorem Zwx {ms:List Zc}{m:Zc}{j:Nat}:gr ZQ (ms++[m]) j=if j=ms.length then m else gr ZQ ms j:=by
 by_cases e:j=ms.length
 ·rw[if_pos e,Z9 (by simp;omega)];subst e;rw[List.getElem_append_right (Nat.le_refl _)];simp
 ·rw[if_neg e];by_cases hj:j<ms.length
  ·rw[Z9 (by simp;omega),Z9 hj,List.getElem_append_left hj]
  ·rw[Zoq (by simp;omega),Zoq (by omega)]
theorem Zol {ms:List Zc}{l:List Int}{st:Int}(h:Jv ms l st){m:Zc}(hm:m.status≠st):Jv (ms++[m]) l st:=by
 refine⟨h.1,fun z=>(h.2 z).trans ?_⟩
 constructor
 ·rintro⟨j,e,h1,h2⟩;exact⟨j,e,by simp;omega,by rw[Zwx,if_neg (by omega)];exact h2⟩
 ·rintro⟨j,e,h1,h2⟩;rw[Zwx]at h2;split at h2
  ·exact absurd h2 hm
  ·exact⟨j,e,by simp at h1;omega,h2⟩
theorem Zgb {p:Zd}(ok:Zj p){m:Zc}(mo:Zg m){a:Int}(ha:0≤a):Zg (Ux p m a)∧(Ux p m a).owner=m.owner∧(Ux p m a).bal=m.bal+Ws p m a∧0≤Ws p m a∧Ws p m a≤a∧((Ux p m a).status=m.status∨((m.status=4∨m.status=5)∧(Ux p m a).status=1)):=by
 have hb:=mo.u m.bal (by simp);have he:=mo.u m.eff (by simp);have hs:=mo.u m.score (by simp);have hn1:=mo.n m.streak (by simp);have hn2:=mo.n m.owner (by simp);have hn3:=mo.n m.status (by simp);have hc:=ok.w p.cap (by simp [Ys]);have hf:0≤Y8 p.cap m.bal∧(Y8 p.cap m.bal=0∨m.bal+Y8 p.cap m.bal=p.cap):=by unfold Y8;split<;>omega
 have ht:0≤Ws p m a∧Ws p m a≤a∧Ws p m a≤Y8 p.cap m.bal:=by unfold Ws;omega
 unfold Ux;split
 ·rename_i c;refine⟨⟨fun z hz=>?_,fun z hz=>?_⟩,rfl,rfl,ht.1,ht.2.1,.inr ⟨c.2,rfl⟩⟩
  ·simp only[List.mem_cons,List.not_mem_nil,or_false]at hz;rcases hz with rfl|rfl|rfl<;>omega
  ·simp only[List.mem_cons,List.not_mem_nil,or_false]at hz;rcases hz with rfl|rfl|rfl<;>omega
 ·refine⟨⟨fun z hz=>?_,fun z hz=>?_⟩,rfl,rfl,ht.1,ht.2.1,.inl rfl⟩
  ·simp only[List.mem_cons,List.not_mem_nil,or_false]at hz;rcases hz with rfl|rfl|rfl<;>omega
  ·simp only[List.mem_cons,List.not_mem_nil,or_false]at hz;rcases hz with rfl|rfl|rfl<;>omega
structure ZG (ex:List Int)(x:ZJ)(pn:Nat)(T:Int):Prop where
 b:Zy x.ms x.ps
 l1:x.ms.length≤128
 l2:x.ps.length=pn
 t:tot x.ps+tot (x.ms.map Zc.bal)=T
 e:Jv x.ms x.en 1
 x:Jv x.ms ex 3
theorem Zwq {p:Zd}(ok:Zj p){ex:List Int}{x:ZJ}{pn:Nat}{T:Int}(h:ZG ex x pn T){i:Nat}(hi:i<x.ms.length){a acct:Int}(ha:0≤a)(h0:0≤acct∧acct<pn):ZG ex (Zld p i a acct x) pn (T+a):=by
 obtain⟨mo,o1,o2⟩:=h.b.at hi;obtain⟨g1,g2,g3,g4,g5,g6⟩:=Zgb ok mo ha;have hj:acct.toNat<x.ps.length:=by have:=h.l2;omega
 have ht:=h.t;refine⟨(h.b.pay hj (by omega)).setM i g1 ⟨by rw[g2];exact o1,by rw[g2,List.length_set];exact o2⟩,by simp only[Zld,List.length_set];exact h.l1,by simp only[Zld,List.length_set];exact h.l2,?_,?_,?_⟩
 ·simp only[Zld];rw[Zcb hj,JN hi,g3];omega
 ·simp only[Zld];rcases g6 with g6 | ⟨g6,g7⟩
  ·rw[if_pos g6];exact Zbn h.e hi (by rw[g6])
  ·rw[if_neg (by rw[g7];omega)];exact Ylr h.e hi (by omega) g7
 ·simp only[Zld];refine Zbn h.x hi ?_;rcases g6 with g6 | ⟨g6,g7⟩
  ·rw[g6]
  ·rw[g7];omega
theorem Zkb {p:Zd}(ok:Zj p){ex:List Int}{x:ZJ}{pn:Nat}(hpn:pn≤9223372036854775807){T:Int}(h:ZG ex x pn T){d:Zk}(ha:0≤d.amt)(h0:0≤d.acct∧d.acct<pn)(hm:d.new=true∨(0≤d.mem∧d.mem<x.ms.length)):ZG ex (Wl p d x) pn (T+d.amt):=by
 have hj:d.acct.toNat<x.ps.length:=by have:=h.l2;omega
 have ht:=h.t;unfold Wl
 cases c:d.new with
 | true =>
  rw[if_pos rfl];by_cases c1:128≤x.ms.length
  ·rw[if_pos c1];refine⟨h.b.pay hj ha,h.l1,by simp only[List.length_set];exact h.l2,?_,h.e,h.x⟩;simp only;rw[Zcb hj];omega
  ·rw[if_neg c1];have hl:=h.l2;refine Zwq ok (x:=⟨x.ms++[⟨0,0,0,0,d.acct,4⟩],x.ps,x.en⟩) ⟨⟨fun y hy=>?_,fun y hy=>?_,h.b.p⟩,by simp only[List.length_append,List.length_singleton];omega,h.l2,?_,Zol h.e (by simp),Zol h.x (by simp)⟩ (i:=x.ms.length) (by simp) ha h0
   ·rcases List.mem_append.1 hy with hy|hy
    ·exact h.b.m y hy
    ·rw[List.mem_singleton]at hy;subst hy
     exact⟨fun z hz=>by simp at hz;omega,fun z hz=>by
      simp only[List.mem_cons,List.not_mem_nil,or_false]at hz
      rcases hz with rfl|rfl|rfl<;>omega⟩
   ·rcases List.mem_append.1 hy with hy|hy
    ·exact h.b.o y hy
    ·rw[List.mem_singleton]at hy;subst hy;simp only;omega
   ·simp only[List.map_append,List.map_cons,List.map_nil,Zdv,WJ,Zgq];omega
 | false =>
  rw[if_neg (by decide)];rcases hm with hm|hm
  ·rw[c]at hm;cases hm
  ·exact Zwq ok h (by omega) ha h0
theorem Zdp {p:Zd}(d:Zk)(x:ZJ):x.ms.length≤(Wl p d x).ms.length:=by
 unfold Wl;split
 ·split
  ·exact Nat.le_refl _
  ·simp [Zld]
 ·simp [Zld]
theorem Ygv {p:Zd}(ok:Zj p){ex:List Int}{x:ZJ}{pn:Nat}(hpn:pn≤9223372036854775807){T:Int}(h:ZG ex x pn T){l:List Zk}(hl:∀d∈l,0≤d.amt∧0≤d.acct∧d.acct<pn∧(d.new=true∨(0≤d.mem∧d.mem<x.ms.length))) :
  ∀k,k≤l.length→ZG ex (crK p l x k) pn (T+YK (l.map Zk.amt) k)∧x.ms.length≤(crK p l x k).ms.length
 | 0,_=>⟨by simpa [crK,YK] using h,Nat.le_refl _⟩
 | k+1,hk=>by
  obtain⟨h1,h2⟩:=Ygv ok hpn h hl k (by omega);obtain⟨d1,d2,d3,d4⟩:=hl _ (YA (z:=Z4) (k:=k) (l:=l) (by omega));have e:at0 (l.map Zk.amt) k=(gr Z4 l k).amt:=by rw[Z9 (by omega),← Ye (by rw[List.length_map];omega),List.getElem_map]
  refine⟨?_,Nat.le_trans h2 (Zdp _ _)⟩;rw[YK,e,← Int.add_assoc];exact Zkb ok hpn h1 d1 ⟨d2,d3⟩ (d4.imp id fun d4=>⟨d4.1,by omega⟩)
theorem Zki {p:Zd}(ok:Zj p)(hr:Yd p=true){m:Zc}(mo:Zg m):Zg (WT p m).1∧(WT p m).1.owner=m.owner∧(WT p m).1.bal=m.bal∧((WT p m).2=true→(WT p m).1.status=2∧m.status=1):=by
 have hb:=mo.u m.bal (by simp);have he:=mo.u m.eff (by simp);have hs:=mo.u m.score (by simp);have hn1:=mo.n m.streak (by simp);have hn2:=mo.n m.owner (by simp);have hn3:=mo.n m.status (by simp);have hw:=Gd (Ja hr) ok hb;unfold WT;split
 ·rename_i c;refine⟨⟨fun z hz=>?_,fun z hz=>?_⟩,rfl,rfl,fun _=>⟨rfl,c.1⟩⟩
  ·simp only[List.mem_cons,List.not_mem_nil,or_false]at hz;rcases hz with rfl|rfl|rfl<;>omega
  ·simp only[List.mem_cons,List.not_mem_nil,or_false]at hz;rcases hz with rfl|rfl|rfl<;>omega
 ·exact⟨mo,rfl,rfl,fun h=>by cases h⟩
structure Wfy (W rest:List Int)(x0 x:StX)(pn k:Nat):Prop where
 l1:x.ms.length=x0.ms.length
 m:∀y∈x.ms,Zg y
 o:∀y∈x.ms,0≤y.owner∧y.owner<pn
 d:∀y∈x.ds,Zr y
 n:x.ds.length≤x0.ds.length+k
 t:Wu x.ds+tot (x.ms.map Zc.bal)=Wu x0.ds+tot (x0.ms.map Zc.bal)
 e:Jv x.ms (W.drop k++rest) 1
 rx:Jv x.ms x.ex 3
 u:x.out.length≤x0.out.length+k
 g:x.go.length≤x0.go.length+k
theorem Yhw {p:Zd}(ok:Zj p)(hr:Yd p=true){t:Int}(ht:0≤t∧t≤2147483647){W rest:List Int}{x:StX}{pn:Nat}(h:Wfy W rest x x pn 0)(hT:Wu x.ds+tot (x.ms.map Zc.bal)≤4611686018427387904):∀k,k≤W.length→Wfy W rest x (stK p t W x k) pn k
 | 0,_=>h
 | k+1,hk=>by
  have ih:=Yhw ok hr ht h hT k (by omega);have hd:W.drop k=at0 W k::W.drop (k+1):=by rw[List.drop_eq_getElem_cons (by omega),Ye (by omega)]
  have hin:=Vw ih.e (z:=at0 W k) (by rw[hd];simp);obtain⟨i,he⟩:=Int.eq_ofNat_of_zero_le hin.1;rw[he]at hin hd;rw[Int.toNat_natCast]at hin;rw[stK,he,Int.toNat_natCast];have hi:i<(stK p t W x k).ms.length:=by omega
  have ie:=ih.e;rw[hd,List.cons_append]at ie;have mo:=ih.m _ (YA (z:=ZQ) hi);have oo:=ih.o _ (YA (z:=ZQ) hi);obtain⟨g1,g2,g3,g4⟩:=Zki ok hr mo;have hb:=mo.u (gr ZQ (stK p t W x k).ms i).bal (by simp);have hbt:=Yw (Vb ih.m) i;rw[Vc hi]at hbt;have h3:=ih.t;have hn:=ih.n;have hu:=ih.u;have hg:=ih.g;unfold J2
  cases c:(WT p (gr ZQ (stK p t W x k).ms i)).2 with
  | true =>
   obtain⟨s1,s2⟩:=g4 c;rw[if_pos rfl];refine⟨by simp only[List.length_set];exact ih.l1,fun y hy=>?_,fun y hy=>?_,ih.d,by simp only;omega,?_,Znk ie (by omega),Zbn ih.rx hi (by omega),by simp only;omega,by simp only[List.length_append,List.length_singleton];omega⟩
   ·rcases List.mem_or_eq_of_mem_set hy with hy|rfl
    ·exact ih.m y hy
    ·exact g1
   ·rcases List.mem_or_eq_of_mem_set hy with hy|rfl
    ·exact ih.o y hy
    ·rw[g2];exact oo
   ·simp only;rw[JN hi,g3];omega
  | false =>
   rw[if_neg (by decide)];obtain⟨d1,_,d3⟩:=Zmt (M:=Wu (stK p t W x k).ds) (n:=x.ds.length+k) ⟨ih.d,Int.le_refl _,ih.n⟩ (JZ ht mo) (by show _+(gr ZQ (stK p t W x k).ms i).bal≤_;omega);refine⟨by simp only[List.length_set];exact ih.l1,fun y hy=>?_,fun y hy=>?_,d1,d3,?_,Znk ie (by simp [Zua]),Zwh ih.rx hi (by simp [Zua]),by simp only[List.length_append,List.length_singleton];omega,by simp only;omega⟩
   ·rcases List.mem_or_eq_of_mem_set hy with hy|rfl
    ·exact ih.m y hy
    ·exact Zvo mo
   ·rcases List.mem_or_eq_of_mem_set hy with hy|rfl
    ·exact ih.o y hy
    ·exact oo
   ·simp only;rw[Zab,JN hi];show _+(gr ZQ (stK p t W x k).ms i).bal+(_+(0-_))=_;omega
structure ZC (pn:Nat)(m:Zl):Prop where
 ok:Wfw m
 f:WF m=true
 a:0≤m.acct∧m.acct<pn
 t:0≤m.to∧m.to<pn
theorem motFits_iff {m:Zl}:WF m=true↔YJ m=true∧Ww m=true∧Jz m.yes 128=true∧Jz m.no 128=true∧(if m.what=1 then Yd m.par else decide (m.par=Zgv))=true:=by
 simp only[WF,Bool.and_eq_true,and_assoc]
theorem ZC.state {pn:Nat}{m:Zl}(h:ZC pn m){st:Int}(hs:1≤st∧st≤4){due:Int}(hd:0≤due∧due≤2147483647):ZC pn { m with state:=st,due:=due }:=by
 obtain⟨f1,f2,f3,f4,f5⟩:=motFits_iff.1 h.f;refine⟨⟨h.ok.a,fun z hz=>?_,h.ok.p⟩,motFits_iff.2 ⟨?_,?_,f3,f4,f5⟩,h.a,h.t⟩
 ·have hn:=h.ok.n;simp only[List.forall_mem_cons]at hn;simp only[List.mem_cons,List.not_mem_nil,or_false]at hz;rcases hz with rfl|rfl|rfl|rfl|rfl|rfl<;>omega
 ·simp only[YJ,Bool.and_eq_true,wi_iff]at f1 ⊢;exact⟨f1.1,hs⟩
 ·simp only[Ww,Bool.and_eq_true,wi_iff]at f2 ⊢;exact⟨⟨f2.1.1,hd⟩,f2.2⟩
theorem ZC.fin {pn:Nat}{m:Zl}(h:ZC pn m)(b:Bool):ZC pn (Ztg m b):=by
 obtain⟨f1,f2,f3,f4,f5⟩:=motFits_iff.1 h.f;simp only[Ww,Bool.and_eq_true,wi_iff]at f2;exact h.state (by cases b<;>decide) f2.1.2
theorem Zuq {pn:Nat}{p:Zd}(hp:0≤p.enact){ms:List Zc}{ep:Int}(he:0≤ep){m:Zl}(h:ZC pn m):ZC pn (Zco p ms ep m):=by
 unfold Zco;split
 ·split
  ·exact h.state (by decide) (by omega)
  ·obtain⟨f1,f2,f3,f4,f5⟩:=motFits_iff.1 h.f;simp only[Ww,Bool.and_eq_true,wi_iff]at f2;exact h.state (by decide) f2.1.2
 ·exact h
theorem Zmn {l:List Zl}{i j:Nat}{m:Zl}(hi:i<l.length):gr Z5 (l.set i m) j=if j=i then m else gr Z5 l j:=by
 by_cases e:j=i
 ·subst e;rw[Z9 (by simpa using hi),if_pos rfl,List.getElem_set_self]
 ·rw[if_neg e];by_cases hj:j<l.length
  ·rw[Z9 (by simpa using hj),Z9 hj,List.getElem_set_ne (Ne.symm e)]
  ·unfold gr;rw[List.getD_eq_getElem?_getD,List.getD_eq_getElem?_getD,List.getElem?_eq_none (by simpa using hj),List.getElem?_eq_none (by omega)]
structure Wfz (W:List Int)(x0 x:MoX)(k:Nat):Prop where
 r:Yd x.par=true
 ok:Zj x.par
 tr:0≤x.tr
 l2:x.ps.length=x0.ps.length
 p:∀i,0≤at0 x.ps i
 t:tot x.ps+x.tr=tot x0.ps+x0.tr
 n:x.mo.length=x0.mo.length
 m:∀m∈x.mo,ZC x0.ps.length m
 s:∀j,k≤j→j<W.length→(gr Z5 x.mo (at0 W j).toNat).state=2
 d:x.dn.length≤x0.dn.length+k
theorem Zxd {W:List Int}{x0 x:MoX}{k:Nat}(h:Wfz W x0 x k)(hW:W.Nodup)(hr:∀z∈W,0≤z∧z<x0.mo.length)(hk:k<W.length):Wfz W x0 (Zbm (at0 W k).toNat x) (k+1):=by
 have hmem:at0 W k∈W:=by rw[← Ye hk];exact List.getElem_mem hk
 have hin:=hr _ hmem;obtain⟨i,he⟩:=Int.eq_ofNat_of_zero_le hin.1;rw[he]at hin;rw[he,Int.toNat_natCast];have hi:i<x.mo.length:=by have:=h.n;omega
 obtain⟨m,hm⟩:∃m,m=gr Z5 x.mo i:=⟨_,rfl⟩
 have hmr:ZC x0.ps.length m:=by rw[hm];exact h.m _ (YA hi)
 have ht:=h.t;have htr:=h.tr;have hl:=h.l2;have hmo:∀b,∀m'∈x.mo.set i (Ztg m b),ZC x0.ps.length m':=fun b m' hm'=>by
  rcases List.mem_or_eq_of_mem_set hm' with hm' | rfl
  ·exact h.m _ hm'
  ·exact hmr.fin b
 have hst:∀b,∀j,k+1≤j→j<W.length→(gr Z5 (x.mo.set i (Ztg m b)) (at0 W j).toNat).state=2:=fun b j h1 h2=>by
  rw[Zmn hi,if_neg]
  ·exact h.s j (by omega) h2
  ·intro e;have hz:=hr (at0 W j) (by rw[← Ye h2];exact List.getElem_mem h2);have e2:at0 W j=at0 W k:=by rw[he];omega
   rw[← Ye h2,← Ye hk]at e2;exact List.pairwise_iff_getElem.1 hW k j hk h2 (by omega) e2.symm
 have hd:=h.d;have hdn:∀b:Bool,(if b then x.dn++[(i:Int)] else x.dn).length≤x0.dn.length+(k+1):=fun b=>by
  cases b
  ·simp only[Bool.false_eq_true,if_false];omega
  ·simp only[if_true,List.length_append,List.length_singleton];omega
 rw[Zbm,← hm];obtain⟨f1,f2,f3,f4,f5⟩:=motFits_iff.1 hmr.f;have ha:=hmr.ok.a;unfold Wv;split
 ·exact⟨h.r,h.ok,h.tr,h.l2,h.p,h.t,by simp only[List.length_set];exact h.n,hmo _,hst _,hdn _⟩
 ·split
  ·exact⟨h.r,h.ok,h.tr,h.l2,h.p,h.t,by simp only[List.length_set];exact h.n,hmo _,hst _,hdn _⟩
  ·split
   ·rename_i c;rw[if_pos c]at f5;exact⟨f5,hmr.ok.p,h.tr,h.l2,h.p,h.t,by simp only[List.length_set];exact h.n,hmo _,hst _,hdn _⟩
   ·split
    ·rename_i c;have hj:m.to.toNat<x.ps.length:=by have:=hmr.t;omega
     refine⟨h.r,h.ok,by simp only;omega,by simp only[List.length_set];exact h.l2,Zlb h.p ha.1 hj,?_,by simp only[List.length_set];exact h.n,hmo _,hst _,hdn _⟩;simp only;rw[Zcb hj];omega
    ·exact⟨h.r,h.ok,h.tr,h.l2,h.p,h.t,by simp only[List.length_set];exact h.n,hmo _,hst _,hdn _⟩
theorem Yfq {W:List Int}{x:MoX}(h:Wfz W x x 0)(hW:W.Nodup)(hr:∀z∈W,0≤z∧z<x.mo.length):∀k,k≤W.length→Wfz W x (moK W x k) k
 | 0,_=>h
 | k+1,hk=>Zxd (Yfq h hW hr k (by omega)) hW hr (by omega)
theorem Zls (ms:List Zl)(now:Int)(qu:Bool)(k:Nat):(Vd ms now qu k).Nodup:=by
 unfold Vd;rw[List.Nodup,List.pairwise_map];exact(List.Nodup.sublist List.filter_sublist List.nodup_range).imp fun h e=>h (by omega)
theorem Zmg {ms:List Zl}{now:Int}{qu:Bool}{k:Nat}{z:Int}(hz:z∈Vd ms now qu k):(gr Z5 ms z.toNat).state=2:=by
 obtain⟨i,hi,rfl⟩:=List.mem_map.1 hz;have:=(List.mem_filter.1 hi).2;simp only[Zbw,Bool.and_eq_true,decide_eq_true_eq]at this
 simpa using this.1
structure Zq (s:Ze)(D:Nat):Prop where
 r:Yd s.par=true
 ok:ZB s
 ep:0≤s.ep∧s.ep<1073741824
 be:Zy s.members s.purses
 ml:s.members.length≤128
 pl:s.purses.length≤64
 en:Jv s.members s.entry 1
 ex:Jv s.members s.exit 3
 dd:∀x∈s.dues,Zr x∧0≤x.acct∧x.acct<s.purses.length
 dn:s.dues.length≤D
 oo:∀d∈s.pool,ZI d∧0≤d.acct∧d.acct<s.purses.length∧(d.new=true∨(0≤d.mem∧d.mem<s.members.length))
 on:s.pool.length≤256
 mm:∀m∈s.motions,ZC s.purses.length m
 mn:s.motions.length≤32
 mon:tot s.purses+tot (s.members.map Zc.bal)+Wu s.dues+tot (s.pool.map Zk.amt)+s.treas+s.burn=s.gen+s.mint
 top:s.gen+s.mint≤s.most∧s.most≤4611686018427387904
theorem ZB.set {s:Ze}(h:ZB s){par:Zd}(hp:Zj par){mint burn treas ep calm:Int}{most gen:Int}(h1:0≤most∧most≤18446744073709551615)(h2:0≤gen∧gen≤18446744073709551615)(h3:0≤mint∧mint≤18446744073709551615)(h4:0≤burn∧burn≤18446744073709551615)(h5:0≤treas∧treas≤18446744073709551615)(h6 : -9223372036854775808≤ep∧ep≤9223372036854775807)(h7 : -9223372036854775808≤calm∧calm≤9223372036854775807)
  {emer:Bool} {purses:List Int} {members:List Zc} {entry exit:List Int} {pool:List Zk} {dues:List Zi} {motions:List Zl} {marks:List Int} {ring:List (List Int)}:ZB ⟨par,most,gen,mint,burn,treas,ep,calm,emer,purses,members,entry,exit,pool,dues,motions,marks,ring⟩ :=
 ⟨hp,fun z hz=>by
  simp only[List.mem_cons,List.not_mem_nil,or_false]at hz;rcases hz with rfl|rfl|rfl|rfl|rfl<;>assumption,fun z hz=>by
  simp only[List.mem_cons,List.not_mem_nil,or_false]at hz
  rcases hz with rfl|rfl<;>assumption⟩
theorem ZB.all {s:Ze}(h:ZB s):(0≤s.most∧s.most≤18446744073709551615)∧(0≤s.gen∧s.gen≤18446744073709551615)∧(0≤s.mint∧s.mint≤18446744073709551615)∧(0≤s.burn∧s.burn≤18446744073709551615)∧(0≤s.treas∧s.treas≤18446744073709551615)∧(-9223372036854775808≤s.ep∧s.ep≤9223372036854775807)∧(-9223372036854775808≤s.calm∧s.calm≤9223372036854775807):=by
 have hu:=h.u;have hn:=h.n;simp only[List.forall_mem_cons]at hu hn;exact⟨hu.1,hu.2.1,hu.2.2.1,hu.2.2.2.1,hu.2.2.2.2.1,hn.1,hn.2.1⟩
theorem Zq.parts {s:Ze}{D:Nat}(h:Zq s D):0≤tot s.purses∧0≤tot (s.members.map Zc.bal)∧0≤Wu s.dues∧0≤tot (s.pool.map Zk.amt)∧0≤s.treas∧0≤s.burn :=
 ⟨h.be.pur,h.be.bal,YI (Zgp fun x hx=>(h.dd x hx).1),YI (UD Zk.amt s.pool fun x hx=>(h.oo x hx).1.a.1),(h.ok.u _ (by simp)).1,(h.ok.u _ (by simp)).1⟩
theorem Zq.sum {s:Ze}{D:Nat}(h:Zq s D):tot s.purses+tot (s.members.map Zc.bal)+Wu s.dues+tot (s.pool.map Zk.amt)+s.treas+s.burn≤4611686018427387904:=by
 have:=h.mon;have:=h.top;omega
theorem fitsT_iff {s:Ze}:Yb s=true↔Yd s.par=true∧wi s.ep 0 1073741824=true∧wi s.calm 0 1073741824=true∧V2 s=true∧We s=true∧VJ s=true∧Vk s=true∧U8 s=true∧Wc s=true:=by
 simp only[Yb,Bool.and_eq_true,and_assoc]
theorem acctT_iff {s:Ze}{i:Int}:Y1 s i=true↔0≤i∧i<s.purses.length:=by
 rw[Y1,wi_iff];omega
theorem Yex {h:PH}{v:SV}{s:Ze}(hs:Zo h v s)(hf:Yb s=true)(he:s.ep<1073741824){D:Nat}(hd:s.dues.length≤D):Zq s D:=by
 obtain⟨be,hr,hep,hlen,htot⟩:=Yit hs hf;obtain⟨f1,f2,f3,f4,f5,f6,f7,f8,f9⟩:=fitsT_iff.1 hf;simp only[We,Bool.and_eq_true]at f5;have f53:=row_iffB.1 f5.1.2;have f54:=row_iffB.1 f5.2;simp only[VJ,Bool.and_eq_true,List.all_eq_true,decide_eq_true_eq,Jw,Zdi,List.mem_range]at f6;simp only[Vk,Bool.and_eq_true,List.all_eq_true,decide_eq_true_eq]at f7;simp only[Wc,Bool.and_eq_true,decide_eq_true_eq,Zkr,Zsn,Zta,Gx,Zrn]at f9;obtain⟨q,t1,t2,t3⟩:=hs.t;refine⟨f1,hs.ok,⟨hep.1,he⟩,⟨be.m,be.o,be.p⟩,hlen.2,hlen.1,f53,f54,fun x hx=>⟨hs.dd x hx,?_⟩,hd,fun d hd=>⟨hs.oo d hd,?_⟩,f6.1.1,fun m hm=>?_,f7.1,?_,⟨f9.1.1,f9.1.2⟩⟩
 ·obtain⟨k,hk,rfl⟩:=List.mem_iff_getElem.1 hx;have:=(f6.2 k hk).1.1;rw[Z9 hk]at this;simp only[VR,Bool.and_eq_true]at this;exact acctT_iff.1 this.1.1.1
 ·have:=f6.1.2 d hd;simp only[V4,Bool.and_eq_true,Bool.or_eq_true,wi_iff]at this;have h2:=acctT_iff.1 this.1.2;exact⟨h2.1,h2.2,this.2.imp id fun c=>by omega⟩
 ·have:=f7.2 m hm;have h1:=acctT_iff.1 this.1.2;have h2:=acctT_iff.1 this.2;refine⟨?_,this.1.1,h1,h2⟩;rw[← t2]at hm;obtain⟨y,hy,rfl⟩:=List.mem_map.1 hm;exact(t3 y hy).ok
 ·have e:Wu s.dues=tot (s.dues.map Zi.amt):=rfl;have q4:tot (s.members.map Zc.bal)+tot s.purses+tot (s.pool.map Zk.amt)+tot (s.dues.map Zi.amt)+s.treas+s.burn=s.gen+s.mint:=by first|exact f9.2|exact of_decide_eq_true f9.2
  rw[e];omega
theorem Zyr {f:Nat→Zc→Zc}(hf:∀k m,(f k m).bal=m.bal)(l:List Zc):∀k,k≤l.length→(upI f l k).map Zc.bal=l.map Zc.bal
 | 0,_=>rfl
 | k+1,hk=>by
  have e:(gr ZQ l k).bal=(l.map Zc.bal)[k]'(by rw[List.length_map];omega):=by rw[List.getElem_map,Z9 hk]
  rw[upI,List.map_set,Zyr hf l k (by omega),hf,e,List.set_getElem_self]
theorem Zy.upI {f:Nat→Zc→Zc}(hf:∀k m,Zg m→Zg (f k m)∧(f k m).owner=m.owner){l:List Zc}{ps:List Int}(h:Zy l ps){k:Nat}(hk:k≤l.length):Zy (upI f l k) ps:=by
 have:=Zip (f:=f) (l:=l) (fun m=>Zg m∧0≤m.owner∧m.owner<ps.length) (fun k m hm=>⟨(hf k m hm.1).1,by rw[(hf k m hm.1).2];exact hm.2⟩) (fun m hm=>⟨h.m m hm,h.o m hm⟩) k hk;exact⟨fun m hm=>(this m hm).1,fun m hm=>(this m hm).2,h.p⟩
theorem Zy.upN {f:Zc→Zc}(hf:∀m,Zg m→Zg (f m)∧(f m).owner=m.owner){l:List Zc}{ps:List Int}(h:Zy l ps){k:Nat}(hk:k≤l.length):Zy (upN f l k) ps:=by
 have:=Zio (f:=f) (l:=l) (fun m=>Zg m∧0≤m.owner∧m.owner<ps.length) (fun m hm=>⟨(hf m hm.1).1,by rw[(hf m hm.1).2];exact hm.2⟩) (fun m hm=>⟨h.m m hm,h.o m hm⟩) k hk;exact⟨fun m hm=>(this m hm).1,fun m hm=>(this m hm).2,h.p⟩
theorem Zgs {f:Nat→Zc→Zc}(hf:∀k m,(f k m).status=m.status){l:List Zc}{q:List Int}{st:Int}(h:Jv l q st){k:Nat}(hk:k≤l.length):Jv (upI f l k) q st :=
 J3 h (Vf f l k) fun j _=>by
  rw[Zdr f l k hk j];split
  ·rw[hf]
  ·exact Iff.rfl
theorem Yab {calm pr ac:Int}:0≤(Vx calm pr ac).1∧(Vx calm pr ac).1≤1073741824:=by
 unfold Vx;split
 ·decide
 ·simp only;omega
theorem Zqq {s:Ze}{D:Nat}(h:Zq s D):Zq (wgS s) D:=by
 have hl:(wgS s).members.length=s.members.length:=Vf _ _ _;obtain⟨a1,a2,a3,a4,a5,a6,a7⟩:=h.ok.all;have hc:=Yab (calm:=s.calm) (pr:=JB s) (ac:=W6 s);have hb:(wgS s).members.map Zc.bal=s.members.map Zc.bal:=Zyr (fun k m=>(Zsw _ _ _ k m).2.2.1) _ _ (Nat.le_refl _);refine⟨h.r,ZB.set h.ok h.ok.p a1 a2 a3 a4 a5 a6 (by omega),h.ep,Zy.upI (fun k m hm=>⟨Ygn h.ok.p h.r _ _ k hm,(Zsw _ _ _ k m).1⟩) h.be (Nat.le_refl _),by rw[hl];exact h.ml,h.pl,Zgs (fun k m=>(Zsw _ _ _ k m).2.1) h.en (Nat.le_refl _),Zgs (fun k m=>(Zsw _ _ _ k m).2.1) h.ex (Nat.le_refl _),h.dd,h.dn,fun d hd=>?_,h.on,h.mm,h.mn,?_,h.top⟩
 ·rw[hl];exact h.oo d hd
 ·rw[hb];exact h.mon
theorem Ytl {s:Ze}{D:Nat}(h:Zq s D){r:Zf}(ha:0≤r.act∧r.act≤18446744073709551615):0≤mtN s r∧s.gen+s.mint+mtN s r≤s.most:=by
 have:=h.top;have hb:=Yrk h.ok.p ha;unfold mtN GY;split
 ·omega
 ·rename_i c;omega
theorem Ygs {s:Ze}{D:Nat}(h:Zq s D)(k:Nat)(hk:k≤s.members.length):∀x∈mtL s k,Zg x:=fun x hx=>by
 obtain⟨j,hj,rfl⟩:=List.mem_map.1 hx;exact h.be.m _ (YA (by have:=Zvy hj;omega))
theorem Yju {s:Ze}{D:Nat}(h:Zq s D){r:Zf}(ha:0≤r.act∧r.act≤18446744073709551615):(∀i,0≤at0 (mtP s r) i∧at0 (mtP s r) i≤mtN s r)∧(mtP s r).length=(mtW s).length∧∀k,k≤(mtP s r).length→0≤YK (mtP s r) k∧YK (mtP s r) k≤mtN s r:=by
 have hn:=(Ytl h ha).1;have hm:=Ygs h s.members.length (Nat.le_refl _);refine⟨fun i=>Zit h.r hn hm i,by rw[mtP,V9,mtL,List.length_map];rfl,fun k hk=>?_⟩;rw[mtP,V9]at hk;exact Zoz hn (fun i=>UD (YX s.par) _ (fun x hx=>(Yyk h.r (hm x hx)).1) i) (by rw[List.length_map];exact hk)
theorem Yid {s:Ze}:∀i∈mtW s,i<s.members.length:=fun i hi=>Zvy hi
theorem Ykg {s:Ze}{D:Nat}(h:Zq s D){r:Zf}(ha:0≤r.act∧r.act≤18446744073709551615){k:Nat}(hk:k≤(mtW s).length):Wgn (mtP s r) (s.members,s.purses) (mtX s r k) k :=
 Yhq h.ok.p h.be Yid (fun i=>((Yju h ha).1 i).1) k hk
theorem Zpg {s:Ze}{D:Nat}(h:Zq s D){r:Zf}(ha:0≤r.act∧r.act≤18446744073709551615){k:Nat}(hk:k≤(mtW s).length):Zq (Zhj s r k) D:=by
 have hx:=Ykg h ha hk;obtain⟨hn,hn2⟩:=Ytl h ha;obtain⟨_,p2,p3⟩:=Yju h ha;have hp:=p3 k (by omega);obtain⟨a1,a2,a3,a4,a5,a6,a7⟩:=h.ok.all;obtain⟨b1,b2,b3,b4,b5,b6⟩:=h.parts;have hs:=h.sum;have ht:=h.top;have hm:=h.mon;have l1:(Zhj s r k).members.length=s.members.length:=hx.l1;have l2:(Zhj s r k).purses.length=s.purses.length:=hx.l2;have e:tot (mtX s r k).2+tot ((mtX s r k).1.map Zc.bal)=tot s.purses+tot (s.members.map Zc.bal)+YK (mtP s r) k:=hx.t;refine⟨h.r,ZB.set h.ok h.ok.p a1 a2 (by omega) a4 (by omega) a6 a7,h.ep,hx.b,by rw[l1];exact h.ml,by rw[l2];exact h.pl,J3 h.en l1 (fun j _=>by rw[show (gr ZQ (Zhj s r k).members j).status=_ from(hx.s j).1]),J3 h.ex l1 (fun j _=>by rw[show (gr ZQ (Zhj s r k).members j).status=_ from(hx.s j).1]),fun x hx=>by rw[l2];exact h.dd x hx,h.dn,fun d hd=>by rw[l1,l2];exact h.oo d hd,h.on,fun m hm=>by rw[l2];exact h.mm m hm,h.mn,?_,?_⟩
 ·show tot (mtX s r k).2+tot ((mtX s r k).1.map Zc.bal)+Wu s.dues+tot (s.pool.map Zk.amt)+(s.treas+mtN s r-YK (mtP s r) k)+s.burn=s.gen+(s.mint+mtN s r);omega
 ·show s.gen+(s.mint+mtN s r)≤s.most∧_;exact⟨by omega,ht.2⟩
theorem Ydy {s:Ze}{D:Nat}(h:Zq s D){r:Zf}(ha:0≤r.act∧r.act≤18446744073709551615):Zq (mtS s r) D:=Zpg h ha (Nat.le_refl _)
theorem Yvl {s:Ze}{D:Nat}(h:Zq s D)(r:Zf){k:Nat}(hk:k≤s.members.length):0≤Zcy s r k∧Zcy s r k≤Zdy s r k∧Zdy s r k+tot ((upI (fnF s.par s.marks r.mode) s.members k).map Zc.bal)=tot (s.members.map Zc.bal):=Yhg h.ok.p h.r _ _ h.be.m k hk
theorem Zqj {s:Ze}{D:Nat}(h:Zq s D)(r:Zf){k:Nat}(hk:k≤s.members.length):Zq (UQ s r k) D:=by
 have hl:(UQ s r k).members.length=s.members.length:=Vf _ _ _;obtain⟨a1,a2,a3,a4,a5,a6,a7⟩:=h.ok.all;obtain⟨b1,b2,b3,b4,b5,b6⟩:=h.parts;have hs:=h.sum;obtain⟨c1,c2,c3⟩:=Yvl h r hk;have hbe:Zy (UQ s r k).members s.purses:=Zy.upI (fun k m hm=>⟨Yhh h.ok.p h.r _ _ k hm,(Ydd _ _ _ k m).1⟩) h.be hk;have c4:=hbe.bal;have c5:tot ((UQ s r k).members.map Zc.bal)=tot ((upI (fnF s.par s.marks r.mode) s.members k).map Zc.bal):=rfl;have hm:=h.mon;refine⟨h.r,ZB.set h.ok h.ok.p a1 a2 a3 a4 (by omega) a6 a7,h.ep,hbe,by rw[hl];exact h.ml,h.pl,Zgs (fun k m=>(Ydd _ _ _ k m).2) h.en hk,Zgs (fun k m=>(Ydd _ _ _ k m).2) h.ex hk,h.dd,h.dn,fun d hd=>by rw[hl];exact h.oo d hd,h.on,h.mm,h.mn,?_,h.top⟩;show tot s.purses+tot ((UQ s r k).members.map Zc.bal)+Wu s.dues+tot (s.pool.map Zk.amt)+(s.treas+Zdy s r k)+s.burn=s.gen+s.mint;omega
theorem Ysf {s:Ze}{D:Nat}(h:Zq s D){r:Zf}(hr:r.burned=0):Ygc (UQ s r s.members.length) (fnR s r s.members.length).burned:=by
 obtain⟨a1,a2,a3,a4,a5,a6,a7⟩:=h.ok.all;obtain⟨b1,b2,b3,b4,b5,b6⟩:=h.parts;obtain⟨c1,c2,c3⟩:=Yvl h r (Nat.le_refl _);have c4:0≤tot ((upI (fnF s.par s.marks r.mode) s.members s.members.length).map Zc.bal):=(Zqj h r (Nat.le_refl _)).be.bal;have hs:=h.sum;refine⟨?_,?_⟩
 ·show r.burned+Zcy s r s.members.length≤s.treas+Zdy s r s.members.length;omega
 ·show s.burn+(r.burned+Zcy s r s.members.length)≤_;omega
theorem Ycr {s:Ze}{D:Nat}(h:Zq s D){r:Zf}(hr:r.burned=0):Zq (fnS s r) D:=by
 have h1:=Zqj h r (Nat.le_refl _);obtain⟨a1,a2,a3,a4,a5,a6,a7⟩:=h1.ok.all;obtain⟨c1,c2⟩:=Ysf h hr;have c0:0≤(fnR s r s.members.length).burned:=by
  have:=(Yvl h r (Nat.le_refl _)).1;show 0≤r.burned+_;omega
 have hm:=h1.mon;refine⟨h1.r,ZB.set h1.ok h1.ok.p a1 a2 a3 (by omega) (by omega) a6 a7,h1.ep,h1.be,h1.ml,h1.pl,h1.en,h1.ex,h1.dd,h1.dn,h1.oo,h1.on,h1.mm,h1.mn,?_,h1.top⟩;show tot (UQ s r s.members.length).purses+tot ((UQ s r s.members.length).members.map Zc.bal)+Wu (UQ s r s.members.length).dues+tot ((UQ s r s.members.length).pool.map Zk.amt)+((UQ s r s.members.length).treas-(fnR s r s.members.length).burned)+((UQ s r s.members.length).burn+(fnR s r s.members.length).burned)=(UQ s r s.members.length).gen+(UQ s r s.members.length).mint;omega
theorem Zwa {pn:Nat}{l:List Zi}(hl:∀x∈l,Zr x∧0≤x.acct∧x.acct<pn){d:Zi}(hd:Zr d)(ha:0≤d.acct∧d.acct<pn)(hs:Wu l+d.amt≤4611686018427387904):∀x∈JQ l d,Zr x∧0≤x.acct∧x.acct<pn:=fun x hx=>by
 have h1:=(Zmt (n:=l.length) (M:=Wu l) ⟨fun x hx=>(hl x hx).1,Int.le_refl _,Nat.le_refl _⟩ hd hs).d x hx;refine⟨h1,?_⟩;rcases Zfq hx with hx|rfl | ⟨h2,rfl⟩
 ·exact(hl x hx).2
 ·exact ha
 ·exact(hl _ (GG h2)).2
theorem Yje (q:Zd)(m:Zc):(ejF q m).owner=m.owner:=by
 unfold ejF;split<;>rfl
structure Wgp (q:Zd)(cs:List Zc)(xs:List Int)(ds:List Zi)(t:Int)(pn k:Nat):Prop where
 d:∀x∈duN q cs t ds k,Zr x∧0≤x.acct∧x.acct<pn
 n:(duN q cs t ds k).length≤ds.length+k
 t:Wu (duN q cs t ds k)+tot ((upN (ejF q) cs k).map Zc.bal)=Wu ds+tot (cs.map Zc.bal)
 x:Jv (upN (ejF q) cs k) (exN q cs xs k) 3
theorem Yjx {q:Zd}{cs:List Zc}{ps:List Int}(hb:Zy cs ps){xs:List Int}(hx:Jv cs xs 3){ds:List Zi}(hd:∀x∈ds,Zr x∧0≤x.acct∧x.acct<ps.length){t:Int}(ht:0≤t∧t≤2147483647)(hT:Wu ds+tot (cs.map Zc.bal)≤4611686018427387904):∀k,k≤cs.length→Wgp q cs xs ds t ps.length k
 | 0,_=>⟨hd,by simp [duN],rfl,hx⟩
 | k+1,hk=>by
  have ih:=Yjx (q:=q) hb hx hd ht hT k (by omega);have hl:=Wy (ejF q) cs k;have hat:=GP (ejF q) cs (k:=k) (by omega);obtain⟨mo,o1,o2⟩:=hb.at (i:=k) (by omega);have hbu:Zy (upN (ejF q) cs k) ps:=hb.upN (fun m hm=>⟨Zyh hm,Yje q m⟩) (by omega);have hbl:=hbu.bl (i:=k) (by omega);rw[hat]at hbl;have h3:=ih.t;have hbs:=JN (ms:=upN (ejF q) cs k) (i:=k) (by omega) (ejF q (gr ZQ cs k));rw[hat]at hbs;by_cases c:ejP q (gr ZQ cs k)
  ·have e1:ejF q (gr ZQ cs k)=Zua (gr ZQ cs k):=if_pos c;have hdo:=JZ ht mo;have hsum:Wu (duN q cs t ds k)+(Ju t (gr ZQ cs k)).amt≤4611686018427387904:=by show _+(gr ZQ cs k).bal≤_;omega
   refine⟨?_,?_,?_,?_⟩
   ·rw[duN,if_pos c];exact Zwa ih.d hdo ⟨o1,o2⟩ hsum
   ·rw[duN,if_pos c];have:=Zoc (duN q cs t ds k) (Ju t (gr ZQ cs k));have:=ih.n;omega
   ·rw[duN,if_pos c,Zab,upN,hbs,e1];show _+(gr ZQ cs k).bal+(_+(0-_))=_;omega
   ·rw[upN,exN,if_pos c,e1];exact Zwh ih.x (by omega) (by simp [Zua])
  ·have e1:ejF q (gr ZQ cs k)=gr ZQ cs k:=if_neg c;refine⟨?_,?_,?_,?_⟩
   ·rw[duN,if_neg c];exact ih.d
   ·rw[duN,if_neg c];have:=ih.n;omega
   ·rw[duN,if_neg c,upN,hbs,e1];omega
   ·rw[upN,exN,if_neg c,e1];exact Zbn ih.x (by omega) (by rw[hat])
theorem Zdq {s:Ze}{D:Nat}(h:Zq s D){t:Int}(ht:0≤t∧t≤2147483647){k:Nat}(hk:k≤s.members.length):Zq (ejS s t k) (D+k):=by
 have hl:(ejS s t k).members.length=s.members.length:=Wy _ _ _;obtain⟨b1,b2,b3,b4,b5,b6⟩:=h.parts;have hs:=h.sum;have hm:=h.mon;have e:=Yjx (q:=s.par) (t:=t) h.be h.ex h.dd ht (by omega) k hk;have et:Wu (ejS s t k).dues+tot ((ejS s t k).members.map Zc.bal)=Wu s.dues+tot (s.members.map Zc.bal):=e.t;refine⟨h.r,⟨h.ok.p,h.ok.u,h.ok.n⟩,h.ep,h.be.upN (fun m hm=>⟨Zyh hm,Yje _ m⟩) hk,by rw[hl];exact h.ml,h.pl,J3 h.en hl fun j _=>?_,e.x,e.d,Nat.le_trans e.n (by have:=h.dn;omega),fun d hd=>by rw[hl];exact h.oo d hd,h.on,h.mm,h.mn,?_,h.top⟩
 ·show (gr ZQ (upN (ejF s.par) s.members k) j).status=1↔_;rw[U6 _ _ k hk j];split
  ·unfold ejF;split
   ·rename_i c;have:=c.1;simp only[Zua]
    constructor
    ·intro e;cases e
    ·intro e;omega
   ·exact Iff.rfl
  ·exact Iff.rfl
 ·show tot s.purses+tot ((ejS s t k).members.map Zc.bal)+Wu (ejS s t k).dues+tot (s.pool.map Zk.amt)+s.treas+s.burn=s.gen+s.mint;omega
structure Wgb (W rest en:List Int)(pn:Nat)(x:List Zc×List Zi)(k:Nat):Prop where
 rx:Jv x.1 (W.drop k++rest) 3
 e:Jv x.1 en 1
 o:∀y∈x.1,0≤y.owner∧y.owner<pn
 d:∀y∈x.2,Zr y∧0≤y.acct∧y.acct<pn
theorem Zvc {t:Int}(ht:0≤t∧t≤2147483647){W rest en:List Int}{pn:Nat}{x:List Zc×List Zi}(hm:∀y∈x.1,Zg y)(h:Wgb W rest en pn x 0)(hT:Wu x.2+tot (x.1.map Zc.bal)≤4611686018427387904):∀k,k≤W.length→Wgb W rest en pn (lvK t W x k) k
 | 0,_=>h
 | k+1,hk=>by
  have ih:=Zvc ht hm h hT k (by omega);have hd:W.drop k=at0 W k::W.drop (k+1):=by rw[List.drop_eq_getElem_cons (by omega),Ye (by omega)]
  have hW:∀i∈W,0≤i∧i<x.1.length:=fun i hi=>by
   have:=Vw h.rx (z:=i) (by simp;exact .inl hi);omega
  have lv:=Zyk ht hm (fun y hy=>(h.d y hy).1) hW hT k (by omega);have hin:=Vw ih.rx (z:=at0 W k) (by rw[hd];simp);obtain⟨i,he⟩:=Int.eq_ofNat_of_zero_le hin.1;rw[he]at hin hd;rw[Int.toNat_natCast]at hin;rw[lvK,he,Int.toNat_natCast];have hi:i<(lvK t W x k).1.length:=by omega
  have ix:=ih.rx;rw[hd,List.cons_append]at ix;have mo:=lv.m _ (YA (z:=ZQ) hi);have oo:=ih.o _ (YA (z:=ZQ) hi);have hbt:=Yw (Vb lv.m) i;rw[Vc hi]at hbt;have h3:=lv.t;refine⟨Znk ix (by simp [Gk]),Zbn ih.e hi ?_,fun y hy=>?_,Zwa ih.d (JZ ht mo) oo ?_⟩
  ·rw[hin.2.2];simp [Gk]
  ·rcases List.mem_or_eq_of_mem_set hy with hy|rfl
   ·exact ih.o y hy
   ·exact oo
  ·show Wu _+(gr ZQ (lvK t W x k).1 i).bal≤_;omega
theorem JC {α:Type}(f:α→Int)(q:α→Bool):∀l:List α,tot ((l.filter q).map f)+tot ((l.filter fun x => !q x).map f)=tot (l.map f)
 | []=>rfl
 | x::l=>by
  have ih:=JC f q l;rw[List.filter_cons,List.filter_cons,List.map_cons,WJ]
  cases c:q x
  ·simp only[Bool.false_eq_true,if_false,Bool.not_false,if_true,List.map_cons,WJ];omega
  ·simp only[if_true,Bool.not_true,Bool.false_eq_true,if_false,List.map_cons,WJ];omega
theorem Zzq (l:List Zi)(e:Int):Wu (l.filter (Jx e true))+Wu (l.filter (Jx e false))=Wu l:=by
 have h1:=JC Zi.amt (Jx e true) l;have h2:(fun x => !Jx e true x)=Jx e false:=by
  funext x
  unfold Jx
  cases decide (x.at'≤e)<;>rfl
 rw[h2]at h1;exact h1
theorem Wav {s:Ze}{D:Nat}(h:Zq s D):(lvW s).length≤64∧(lvW s).length≤s.exit.length∧∀i∈lvW s,0≤i∧i<s.members.length:=by
 have hp:=Z6 h.r;refine⟨?_,?_,fun i hi=>?_⟩
 ·rw[lvW,List.length_take];omega
 ·rw[lvW,List.length_take];omega
 ·have:=Vw h.ex (List.mem_of_mem_take hi);omega
theorem Zyj {s:Ze}{D:Nat}(h:Zq s D){t:Int}(ht:0≤t∧t≤2147483647){k:Nat}(hk:k≤(lvW s).length):Wgm (s.members,s.dues) (lvK t (lvW s) (s.members,s.dues) k) k∧Wgb (lvW s) (s.exit.drop s.par.churn.toNat) s.entry s.purses.length (lvK t (lvW s) (s.members,s.dues) k) k:=by
 obtain⟨b1,b2,b3,b4,b5,b6⟩:=h.parts;have hs:=h.sum
 exact⟨Zyk (x:=(s.members,s.dues)) ht h.be.m (fun y hy=>(h.dd y hy).1) (Wav h).2.2 (by show Wu s.dues+tot (s.members.map Zc.bal)≤_;omega) k hk,
  Zvc (x:=(s.members,s.dues)) ht h.be.m ⟨by rw[List.drop_zero,lvW,List.take_append_drop];exact h.ex,h.en,h.be.o,h.dd⟩ (by show Wu s.dues+tot (s.members.map Zc.bal)≤_;omega) k hk⟩
theorem lv_d {s:Ze}{D:Nat}(h:Zq s D){t:Int}(ht:0≤t∧t≤2147483647):∀x∈lvD s t,0≤x.acct∧x.acct<s.purses.length∧0≤x.amt:=fun x hx=>by
 have:=(Zyj h ht (Nat.le_refl _)).2.d x (List.mem_filter.1 hx).1;exact⟨this.2.1,this.2.2,this.1.a.1⟩
theorem Yll {s:Ze}{D:Nat}(h:Zq s D){t:Int}(ht:0≤t∧t≤2147483647):Zq (lvS s t) (D+64):=by
 obtain⟨l1,l2⟩:=Zyj h ht (Nat.le_refl _);obtain⟨b1,b2,b3,b4,b5,b6⟩:=h.parts;have hs:=h.sum;have hm:=h.mon;have hw:=(Wav h).1;have hl:(lvS s t).members.length=s.members.length:=l1.l1;obtain⟨d1,d2,d3⟩:=Zig h.be.p (lv_d h ht) (lvD s t).length (Nat.le_refl _);have hp:(lvS s t).purses.length=s.purses.length:=d1;have hx:=l2.rx;rw[List.drop_length,List.nil_append]at hx;have et:=l1.t;have e2:=Zzq (lvX s t).2 s.ep;have e3:YK ((lvD s t).map Zi.amt) (lvD s t).length=Wu (lvD s t):=by rw[Wu,tot,List.length_map]
 rw[e3]at d3;refine⟨h.r,⟨h.ok.p,h.ok.u,h.ok.n⟩,h.ep,⟨l1.m,fun x hx=>by rw[hp];exact l2.o x hx,d2⟩,by rw[hl];exact h.ml,by rw[hp];exact h.pl,l2.e,hx,fun x hx=>by rw[hp];exact l2.d x (List.mem_filter.1 hx).1,?_,fun d hd=>by rw[hl,hp];exact h.oo d hd,h.on,fun m hm=>by rw[hp];exact h.mm m hm,h.mn,?_,h.top⟩
 ·have h1:=l1.n;have h2:((lvX s t).2.filter (Jx s.ep false)).length≤(lvX s t).2.length:=List.length_filter_le _ _;have h3:=h.dn;show ((lvX s t).2.filter (Jx s.ep false)).length≤_;have h4:(lvX s t).2.length≤s.dues.length+(lvW s).length:=h1;omega
 ·show tot (dpK (lvD s t) s.purses (lvD s t).length)+tot ((lvX s t).1.map Zc.bal)+Wu ((lvX s t).2.filter (Jx s.ep false))+tot (s.pool.map Zk.amt)+s.treas+s.burn=s.gen+s.mint;have e4:Wu (lvX s t).2+tot ((lvX s t).1.map Zc.bal)=Wu s.dues+tot (s.members.map Zc.bal):=et;have e5:Wu (lvD s t)=Wu ((lvX s t).2.filter (Jx s.ep true)):=rfl;omega
theorem Ykd {s:Ze}{D:Nat}(h:Zq s D){k:Nat}(hk:k≤s.pool.length):ZG s.exit (crK s.par s.pool ⟨s.members,s.purses,s.entry⟩ k) s.purses.length (tot s.purses+tot (s.members.map Zc.bal)+YK (s.pool.map Zk.amt) k)∧s.members.length≤(crK s.par s.pool ⟨s.members,s.purses,s.entry⟩ k).ms.length :=
 Ygv (x:=⟨s.members,s.purses,s.entry⟩) h.ok.p (show s.purses.length≤9223372036854775807 by have:=h.pl;omega) ⟨h.be,h.ml,rfl,rfl,h.en,h.ex⟩ (fun d hd=>⟨(h.oo d hd).1.a.1,(h.oo d hd).2⟩) k hk
theorem Ynm {s:Ze}{D:Nat}(h:Zq s D):ZG s.exit (enX s) s.purses.length (tot s.purses+tot (s.members.map Zc.bal)+tot (s.pool.map Zk.amt))∧s.members.length≤(enX s).ms.length:=by
 have:=Ykd h (Nat.le_refl s.pool.length);have e:YK (s.pool.map Zk.amt) s.pool.length=tot (s.pool.map Zk.amt):=by rw[tot,List.length_map]
 rw[e]at this;exact this
theorem Zri {s:Ze}{D:Nat}(h:Zq s D)(r:Zf){t:Int}(ht:0≤t∧t≤2147483647){k:Nat}(hk:k≤(enW s).length) :
  Wfy (enW s) ((enX s).en.drop s.par.churn.toNat) ⟨(enX s).ms,s.dues,s.exit,r.out,r.started⟩ (stK s.par t (enW s) ⟨(enX s).ms,s.dues,s.exit,r.out,r.started⟩ k) s.purses.length k:=by
 obtain⟨b1,b2,b3,b4,b5,b6⟩:=h.parts;have hs:=h.sum;obtain⟨c1,c2⟩:=Ynm h;have c3:=c1.t;have c4:=c1.b.pur;have hob:=c1.b.o;rw[c1.l2]at hob;exact Yhw h.ok.p h.r ht (x:=⟨(enX s).ms,s.dues,s.exit,r.out,r.started⟩) ⟨rfl,c1.b.m,hob,fun x hx=>(h.dd x hx).1,Nat.le_refl _,rfl,by rw[List.drop_zero,enW,List.take_append_drop];exact c1.e,c1.x,Nat.le_refl _,Nat.le_refl _⟩ (by show Wu s.dues+tot ((enX s).ms.map Zc.bal)≤_;omega) k hk
theorem en_w {s:Ze}{D:Nat}(h:Zq s D):(enW s).length≤64∧(enX s).en.length≤128:=by
 have hp:=Z6 h.r;have h1:=(Ynm h).1;have:=Uu h1.e;have:=h1.l1;refine⟨?_,by omega⟩;rw[enW,List.length_take];omega
theorem Zno {p:Zd}{t:Int}{pn:Nat}(ht:0≤t∧t≤2147483647)(W:List Int){rest:List Int}{x:StX}(hx:∀y∈x.ds,Zr y∧0≤y.acct∧y.acct<pn)(H:∀k,k≤W.length→Wfy W rest x (stK p t W x k) pn k)(hT:Wu x.ds+tot (x.ms.map Zc.bal)≤4611686018427387904):∀k,k≤W.length→∀y∈(stK p t W x k).ds,Zr y∧0≤y.acct∧y.acct<pn
 | 0,_=>hx
 | k+1,hk=>by
  have ih:=Zno ht W hx H hT k (by omega);have h1:=H k (by omega);have hd:W.drop k=at0 W k::W.drop (k+1):=by rw[List.drop_eq_getElem_cons (by omega),Ye (by omega)]
  have hin:=Vw h1.e (z:=at0 W k) (by rw[hd];simp);have hi:(at0 W k).toNat<(stK p t W x k).ms.length:=by omega
  have mo:=h1.m _ (YA (z:=ZQ) hi);have oo:=h1.o _ (YA (z:=ZQ) hi);have hbt:=Yw (Vb h1.m) (at0 W k).toNat;rw[Vc hi]at hbt;have h3:=h1.t;rw[stK,J2];split
  ·exact ih
  ·exact Zwa ih (JZ ht mo) oo (by show Wu _+(gr ZQ (stK p t W x k).ms (at0 W k).toNat).bal≤_;omega)
theorem Yta {s:Ze}{D:Nat}(h:Zq s D)(r:Zf){t:Int}(ht:0≤t∧t≤2147483647):Zq (enS s r t) (D+64):=by
 unfold enS;by_cases c:r.quo=true
 ·rw[if_pos c];obtain⟨b1,b2,b3,b4,b5,b6⟩:=h.parts;have hs:=h.sum;have hm:=h.mon;obtain⟨c1,c2⟩:=Ynm h;have c3:=c1.t;have c4:=c1.b.pur;have hw:=(en_w h).1;have h1:=Zri h r ht (Nat.le_refl (enW s).length);have h2:=Zno (p:=s.par) ht (enW s) (x:=⟨(enX s).ms,s.dues,s.exit,r.out,r.started⟩) h.dd (fun k hk=>Zri h r ht hk) (by show Wu s.dues+tot ((enX s).ms.map Zc.bal)≤_;omega) _ (Nat.le_refl _);have hl:(enY s r t).ms.length=(enX s).ms.length:=h1.l1;have he:=h1.e;rw[List.drop_length,List.nil_append]at he;have et:Wu (enY s r t).ds+tot ((enY s r t).ms.map Zc.bal)=Wu s.dues+tot ((enX s).ms.map Zc.bal):=h1.t;have hp:=c1.l2;have hn:(enY s r t).ds.length≤s.dues.length+(enW s).length:=h1.n;have hd:=h.dn;refine⟨h.r,⟨h.ok.p,h.ok.u,h.ok.n⟩,h.ep,⟨h1.m,fun x hx=>by simp only;rw[hp];exact h1.o x hx,c1.b.p⟩,by simp only;rw[hl];exact c1.l1,by simp only;rw[hp];exact h.pl,he,h1.rx,fun x hx=>by simp only;rw[hp];exact h2 x hx,by simp only;omega,(fun d hd=>by cases hd),by simp,fun m hm=>by simp only;rw[hp];exact h.mm m hm,h.mn,?_,h.top⟩;simp only[List.map_nil,Zgq];omega
 ·rw[if_neg c];exact⟨h.r,h.ok,h.ep,h.be,h.ml,h.pl,h.en,h.ex,h.dd,Nat.le_trans h.dn (by omega),h.oo,h.on,h.mm,h.mn,h.mon,h.top⟩
theorem Zrv {p:Zd}(h:Yd p=true):0≤p.enact:=by
 simp only[Yd,Bool.and_eq_true]at h;have h2:=h.1.2;simp only[Y7,List.all_cons,List.all_nil,id,Bool.and_eq_true,wi_iff,decide_eq_true_eq,and_true]at h2;omega
theorem mo_0 {s:Ze}{D:Nat}(h:Zq s D)(r:Zf):Wfz (moW s r) ⟨s.par,s.treas,s.purses,s.emer,moL s,r.done⟩ ⟨s.par,s.treas,s.purses,s.emer,moL s,r.done⟩ 0:=by
 refine⟨h.r,h.ok.p,h.parts.2.2.2.2.1,rfl,h.be.p,rfl,rfl,fun m hm=>?_,fun j _ hj=>?_,Nat.le_refl _⟩
 ·obtain⟨x,hx,rfl⟩:=List.mem_map.1 hm;exact Zuq (Zrv h.r) h.ep.1 (h.mm x hx)
 ·exact Zmg (by rw[← Ye hj];exact List.getElem_mem hj)
theorem Zqf {s:Ze}(r:Zf):(moW s r).Nodup∧∀z∈moW s r,0≤z∧z<(moL s).length:=⟨Zls _ _ _ _,fun z hz=>Zjm hz⟩
theorem mo_k {s:Ze}{D:Nat}(h:Zq s D)(r:Zf){k:Nat}(hk:k≤(moW s r).length):Wfz (moW s r) ⟨s.par,s.treas,s.purses,s.emer,moL s,r.done⟩ (moX s r k) k :=
 Yfq (mo_0 h r) (Zqf r).1 (Zqf r).2 k hk
theorem Yhv {s:Ze}{D:Nat}(h:Zq s D)(r:Zf){k:Nat}(hk:k≤(moW s r).length):Zq (Yun s r k) D:=by
 have hx:=mo_k h r hk;obtain⟨a1,a2,a3,a4,a5,a6,a7⟩:=h.ok.all;obtain⟨b1,b2,b3,b4,b5,b6⟩:=h.parts;have hs:=h.sum;have hm:=h.mon;have et:tot (moX s r k).ps+(moX s r k).tr=tot s.purses+s.treas:=hx.t;have hp0:=hx.p;have hpp:=YI hx.p;have htr:=hx.tr;have hp:(Yun s r k).purses.length=s.purses.length:=hx.l2;have hn:(moX s r k).mo.length=s.motions.length:=by
  have:=hx.n;rw[this];exact List.length_map _
 refine⟨hx.r,ZB.set h.ok hx.ok a1 a2 a3 a4 (by omega) a6 a7,h.ep,⟨h.be.m,fun x hx=>by rw[hp];exact h.be.o x hx,hx.p⟩,h.ml,by rw[hp];exact h.pl,h.en,h.ex,fun x hx=>by rw[hp];exact h.dd x hx,h.dn,fun d hd=>by rw[hp];exact h.oo d hd,h.on,fun m hm=>by rw[hp];exact hx.m m hm,by show (moX s r k).mo.length≤32;rw[hn];exact h.mn,?_,h.top⟩;show tot (moX s r k).ps+tot (s.members.map Zc.bal)+Wu s.dues+tot (s.pool.map Zk.amt)+(moX s r k).tr+s.burn=s.gen+s.mint;omega
theorem Zue {s:Ze}{D:Nat}(h:Zq s D){k:Nat}(hk:k≤s.members.length):Zq (Ybj s k) D:=by
 obtain⟨b1,b2,b3,b4,b5,b6⟩:=h.parts;have hs:=h.sum;have hm:=h.mon;have hb:ZF s.members s.purses:=h.be.ok (by omega);have h1:=Zoe (q:=s.par) h.ok.p (x:=(s.members,s.purses)) hb k hk;have h2:=UB s.par (s.members,s.purses) k;have h3:=Zuj (q:=s.par) h.ok.p (x:=(s.members,s.purses)) hb k hk;have h4:=Zwd s.par (s.members,s.purses) k hk;have l1:(Ybj s k).members.length=s.members.length:=h2.1;have l2:(Ybj s k).purses.length=s.purses.length:=h2.2;have hst:∀j,(gr ZQ (Ybj s k).members j).status=(gr ZQ s.members j).status:=fun j=>by
  show (gr ZQ (clN s.par (s.members,s.purses) k).1 j).status=_;rw[h4,U6 _ _ k hk j];split
  ·rfl
  ·rfl
 refine⟨h.r,⟨h.ok.p,h.ok.u,h.ok.n⟩,h.ep,⟨h1.m,h1.o,h1.p⟩,by rw[l1];exact h.ml,by rw[l2];exact h.pl,J3 h.en l1 (fun j _=>by rw[hst]),J3 h.ex l1 (fun j _=>by rw[hst]),fun x hx=>by rw[l2];exact h.dd x hx,h.dn,fun d hd=>by rw[l1,l2];exact h.oo d hd,h.on,fun m hm=>by rw[l2];exact h.mm m hm,h.mn,?_,h.top⟩;have e:tot (Ybj s k).purses+tot ((Ybj s k).members.map Zc.bal)=tot s.purses+tot (s.members.map Zc.bal):=h3;show tot (Ybj s k).purses+tot ((Ybj s k).members.map Zc.bal)+Wu s.dues+tot (s.pool.map Zk.amt)+s.treas+s.burn=s.gen+s.mint;omega
structure MI (p:Zd)(m:Zc):Prop where
 b:0≤m.bal∧m.bal≤p.cap
 e:0≤m.eff∧m.eff≤1099511627776
 sc:0≤m.score∧m.score≤p.scoreCap
 st:0≤m.streak∧m.streak≤p.streak
 ow:0≤m.owner∧m.owner<64
 s:(m.status=2∨m.status=3)∨(m.status=1∧1≤m.bal∧m.eff=0)∨((m.status=4∨m.status=5)∧m.bal=0∧m.eff=0)
abbrev MF (p:Zd)(m:Zc):Prop:=Gw m→p.floor<m.bal
theorem Zvn {P:Zc→Prop}{l:List Zc}(h:∀x∈l,P x){i:Nat}{m:Zc}(hf:i<l.length→P m):∀x∈l.set i m,P x:=fun x hx=>by
 by_cases c:i<l.length
 ·rcases List.mem_or_eq_of_mem_set hx with hx|rfl
  ·exact h x hx
  ·exact hf c
 ·rw[List.set_eq_of_length_le (by omega)]at hx;exact h x hx
theorem grP {P:Zc→Prop}{l:List Zc}(h:∀x∈l,P x){i:Nat}(hi:i<l.length):P (gr ZQ l i):=h _ (YA hi)
theorem W4 {p:Zd}(hr:Yd p=true):Y2 p=true∧Wo p=true:=by
 simp only[Yd,Bool.and_eq_true]at hr;exact⟨hr.1.1.1,hr.1.1.2⟩
theorem mi_of {p:Zd}(hr:Yd p=true){m:Zc}(mo:Zg m)(hm:YV p m=true):MI p m∧MF p m:=by
 obtain⟨h1,h2,h3,h4⟩:=Zlk hm;obtain⟨s1,s2⟩:=W4 hr;have f1:=Yk s1;have f2:=YU s2;have f3:=Z6 hr;have u1:=mo.u m.bal (by simp);have u2:=mo.u m.eff (by simp);have u3:=mo.u m.score (by simp);have hc:=Zzd hr h4;unfold VG at h4;by_cases c1:m.status=2∨m.status=3
 ·rw[if_pos c1]at h4;simp only[Bool.and_eq_true,decide_eq_true_eq,W8]at h4;exact⟨⟨⟨u1.1,hc⟩,by omega,by omega,by omega,h1,.inl c1⟩,fun _=>by omega⟩
 ·rw[if_neg c1]at h4;refine⟨?_,fun c=>absurd c c1⟩;by_cases c2:m.status=1
  ·rw[if_pos c2]at h4;simp only[Bool.and_eq_true,decide_eq_true_eq]at h4;exact⟨⟨u1.1,hc⟩,by omega,by omega,by omega,h1,.inr (.inl ⟨c2,h4.1.1,h4.2⟩)⟩
  ·rw[if_neg c2]at h4;by_cases c3:m.status=4∨m.status=5
   ·rw[if_pos c3]at h4;simp only[Bool.and_eq_true,decide_eq_true_eq]at h4;exact⟨⟨u1.1,hc⟩,by omega,by omega,by omega,h1,.inr (.inr ⟨c3,h4.1,h4.2⟩)⟩
   ·rw[if_neg c3]at h4;cases h4
theorem wg_mi {p:Zd}(hr:Yd p=true)(ok:Zj p)(ks:List Int)(mode:Int)(k:Nat){m:Zc}(h:MI p m):MI p (wgF p ks mode k m):=by
 obtain⟨s1,s2⟩:=W4 hr;have f2:=YU s2;have f3:=Z6 hr;have h1:=h.sc;have h2:=h.st;have o1:=ok.w p.recover (by simp [Ys]);unfold wgF;split
 ·unfold VS;split
  ·refine⟨h.b,h.e,?_,?_,h.ow,h.s⟩
   ·show 0≤Y8 m.score p.recover∧Y8 m.score p.recover≤_;unfold Y8;split<;>omega
   ·show 0≤(if max m.streak 0<p.streak then max m.streak 0+1 else p.streak)∧(if max m.streak 0<p.streak then max m.streak 0+1 else p.streak)≤p.streak;by_cases c:max m.streak 0<p.streak
    ·rw[if_pos c];omega
    ·rw[if_neg c];omega
  ·refine⟨h.b,h.e,?_,?_,h.ow,h.s⟩
   ·show 0≤(if mode=3 then GZ m.score p.bias p.scoreCap else if mode=4 then GZ m.score p.biasEm p.scoreCap else m.score)∧(if mode=3 then GZ m.score p.bias p.scoreCap else if mode=4 then GZ m.score p.biasEm p.scoreCap else m.score)≤p.scoreCap;unfold GZ;by_cases c:mode=3
    ·rw[if_pos c];omega
    ·rw[if_neg c];by_cases c2:mode=4
     ·rw[if_pos c2];omega
     ·rw[if_neg c2];omega
   ·show (0:Int)≤0∧(0:Int)≤p.streak;omega
 ·exact h
theorem Yyh {p:Zd}{m:Zc}(h:MI p m){n:Int}(hn:0≤n)(hc:Gw m):MI p (UE p m n).1:=by
 have h1:=h.b;refine⟨?_,h.e,h.sc,h.st,h.ow,.inl hc⟩;show 0≤m.bal+min n (Y8 p.cap m.bal)∧m.bal+min n (Y8 p.cap m.bal)≤p.cap;unfold Y8;split<;>omega
theorem Yjd {p:Zd}(ok:Zj p)(hr:Yd p=true)(ks:List Int)(mode:Int)(k:Nat){m:Zc}(mo:Zg m)(h:MI p m):MI p (fnF p ks mode k m):=by
 have h1:=h.b;have h2:=Zxj ok hr mo mode;unfold fnF;split
 ·rename_i c;refine⟨?_,h.e,h.sc,h.st,h.ow,.inl c.1⟩;show 0≤m.bal-YY p m mode∧m.bal-YY p m mode≤p.cap;omega
 ·exact h
theorem Zgj {p:Zd}{m:Zc}(hr:Yd p=true)(h:MI p m){st:Int}(hs:st=4∨st=5):MI p (Gk m st)∧MF p (Gk m st):=by
 have h1:=h.b;have h2:=h.st;refine⟨⟨?_,by simp [Gk],h.sc,?_,h.ow,.inr (.inr ⟨hs,rfl,rfl⟩)⟩,fun c=>?_⟩
 ·show (0:Int)≤0∧(0:Int)≤p.cap;omega
 ·show (0:Int)≤0∧(0:Int)≤p.streak;omega
 ·simp only[Gw,Gk]at c;omega
theorem ej_mi {p:Zd}(hr:Yd p=true){m:Zc}(h:MI p m):MI p (ejF p m)∧MF p (ejF p m):=by
 unfold ejF;split
 ·exact Zgj hr h (st:=4) (.inl rfl)
 ·rename_i c
  exact⟨h,fun hc=>by
   have:¬m.bal≤p.floor:=fun x=>c ⟨hc,x⟩
   omega⟩
theorem Yjj {p:Zd}(hr:Yd p=true){m:Zc}(h:MI p m)(hf:MF p m){a:Int}(ha:0≤a):MI p (Ux p m a)∧MF p (Ux p m a):=by
 have h1:=h.b;have h2:=h.s;have ht:0≤Ws p m a∧m.bal+Ws p m a≤p.cap:=by
  unfold Ws Y8;split<;>omega
 unfold Ux;split
 ·rename_i c;exact⟨⟨by simp only;omega,by simp,h.sc,h.st,h.ow,.inr (.inl ⟨rfl,by simp only;omega,rfl⟩)⟩,fun x=>by simp [Gw]at x⟩
 ·rename_i c;refine⟨⟨by simp only;omega,h.e,h.sc,h.st,h.ow,?_⟩,fun x=>?_⟩
  ·rcases h2 with h2|h2|h2
   ·exact .inl h2
   ·exact .inr (.inl ⟨h2.1,by simp only;omega,h2.2.2⟩)
   ·refine .inr (.inr ⟨h2.1,?_,h2.2.2⟩);simp only;by_cases z:0<m.bal+Ws p m a
    ·exact absurd ⟨z,h2.1⟩ c
    ·omega
  ·have:=hf x;simp only;omega
theorem Yem {p:Zd}(hr:Yd p=true){m:Zc}(h:MI p m)(hf:MF p m):MI p (WT p m).1∧MF p (WT p m).1:=by
 obtain⟨s1,s2⟩:=W4 hr;have f1:=Yk s1;have f3:=Z6 hr;have h1:=h.b;unfold WT;split
 ·rename_i c;have g:=Zci hr c.2.1;simp only[W8,Bool.and_eq_true,decide_eq_true_eq]at g;refine⟨⟨h.b,?_,h.sc,?_,h.ow,.inl (.inl rfl)⟩,fun _=>c.2.1⟩
  ·show 0≤Wm p m.bal∧Wm p m.bal≤_;omega
  ·show (0:Int)≤0∧(0:Int)≤p.streak;omega
 ·exact⟨h,hf⟩
theorem Yet {p q:Zd}(hq:Yd q=true){m:Zc}(h:MI p m):MI q (Ui q m):=by
 obtain⟨s1,s2⟩:=W4 hq;have f1:=Yk s1;have f2:=YU s2;have f3:=Z6 hq;have h1:=h.b;have h2:=h.sc;have h3:=h.st;refine⟨?_,h.e,?_,?_,h.ow,?_⟩
 ·show 0≤min m.bal q.cap∧min m.bal q.cap≤q.cap;omega
 ·show 0≤min m.score q.scoreCap∧min m.score q.scoreCap≤q.scoreCap;omega
 ·show 0≤min (max m.streak 0) q.streak∧min (max m.streak 0) q.streak≤q.streak;omega
 ·rcases h.s with h4|h4|h4
  ·exact .inl h4
  ·exact .inr (.inl ⟨h4.1,by show 1≤min m.bal q.cap;omega,h4.2.2⟩)
  ·exact .inr (.inr ⟨h4.1,by show min m.bal q.cap=0;omega,h4.2.2⟩)
theorem Yjw {p:Zd}(hr:Yd p=true){m:Zc}(h:MI p m)(hf:MF p m):YV p (JL p m)=true:=by
 have h1:=h.b;have h2:=h.sc;have h3:=h.st;have h4:=h.ow;have base:∀m',m'.owner=m.owner→m'.score=m.score→m'.streak=m.streak→VG p m'=true→YV p m'=true:=fun m' e1 e2 e3 e4=>by
  simp only[YV,Bool.and_eq_true,decide_eq_true_eq,e4,and_true,Zfb,Gf,List.cons.injEq,true_and];omega
 unfold JL;by_cases c1:Gw m
 ·rw[if_pos c1];refine base _ rfl rfl rfl ?_;have hg:=Znm hr (hf c1);rw[VG,if_pos (by show m.status=2∨m.status=3;exact c1)];simp only[Bool.and_eq_true,decide_eq_true_eq];exact⟨⟨hf c1,h1.2⟩,hg⟩
 ·rw[if_neg c1];refine base _ rfl rfl rfl ?_;rw[VG,if_neg c1];rcases h.s with h5|h5|h5
  ·exact absurd h5 c1
  ·rw[if_pos h5.1];simp only[Bool.and_eq_true,decide_eq_true_eq];omega
  ·rw[if_neg (by omega),if_pos h5.1];simp only[Bool.and_eq_true,decide_eq_true_eq];omega
theorem Yaw {B:Int}:∀(xs:List Int),(∀x∈xs,x≤B)→tot xs≤xs.length*B
 | [],_=>by simp [tot,YK]
 | x::xs,hx=>by
  have ih:=Yaw xs fun y hy=>hx y (List.mem_cons_of_mem _ hy);have h1:=hx x List.mem_cons_self;rw[WJ,List.length_cons];have:(((xs.length+1:Nat)):Int)*B=xs.length*B+B:=by
   rw[Int.natCast_add,Int.add_mul];simp
  omega
theorem GM {p:Zd}{l:List Zc}(hl:l.length≤128)(h:∀m∈l,MI p m):VA l≤140737488355328:=by
 have h1:=Yaw (B:=1099511627776) ((cP l l.length).map (Zlu l)) fun x hx=>by
  obtain⟨i,hi,rfl⟩:=List.mem_map.1 hx;have:=Yzr hi;exact(h _ (YA this)).e.2
 rw[List.length_map]at h1;have h2:=Zey l l.length;unfold VA;omega
theorem Ycz {h:PH}{v:SV}{s:Ze}(hs:Zo h v s)(hf:Yb s=true):∀m∈s.members,MI s.par m∧MF s.par m:=fun m hm=>by
 have hr:Yd s.par=true:=(fitsT_iff.1 hf).1;exact mi_of hr (hs.mo m hm) (Ydn hf m hm).1
theorem wg_ms {s:Ze}{D:Nat}(ti:Zq s D)(h:∀m∈s.members,MI s.par m):∀m∈(wgS s).members,MI s.par m :=
 Zip (MI s.par) (fun k _ hm=>wg_mi ti.r ti.ok.p _ _ k hm) h _ (Nat.le_refl _)
theorem Yuc {s:Ze}{D:Nat}(ti:Zq s D){r:Zf}(ha:0≤r.act∧r.act≤18446744073709551615)(h:∀m∈s.members,MI s.par m):∀k,k≤(mtW s).length→∀m∈(mtX s r k).1,MI s.par m
 | 0,_=>h
 | k+1,hk=>by
  have ih:=Yuc ti ha h k (by omega);have hx:=Ykg ti ha (k:=k) (by omega);have hW:(mtW s).getD k 0∈mtW s:=by
   rw[List.getD_eq_getElem?_getD,List.getElem?_eq_getElem (by omega),Option.getD_some];exact List.getElem_mem _
  have hc:=(Ymk hW).1;show ∀m∈((mtX s r k).1.set ((mtW s).getD k 0) (UE s.par (gr ZQ (mtX s r k).1 ((mtW s).getD k 0)) (at0 (mtP s r) k)).1),MI s.par m;refine Zvn ih fun hi=>Yyh (grP ih hi) ((Yju ti ha).1 k).1 ?_;show _∨_;rw[(hx.s _).1];exact hc
theorem fn_ms {s:Ze}{D:Nat}(ti:Zq s D)(r:Zf)(h:∀m∈s.members,MI s.par m):∀m∈(fnS s r).members,MI s.par m:=fun m hm =>
 (Zip (fun m=>Zg m∧MI s.par m) (fun k _ hm=>⟨Yhh ti.ok.p ti.r _ _ k hm.1,Yjd ti.ok.p ti.r _ _ k hm.1 hm.2⟩) (fun m hm=>⟨ti.be.m m hm,h m hm⟩) _ (Nat.le_refl _) m hm).2
theorem Ysv {s:Ze}(hr:Yd s.par=true)(t:Int)(h:∀m∈s.members,MI s.par m):∀m∈(ejS s t s.members.length).members,MI s.par m∧MF s.par m:=fun m hm=>by
 have e:(ejS s t s.members.length).members=s.members.map (ejF s.par):=Zfx _ _;rw[e]at hm;obtain⟨x,hx,rfl⟩:=List.mem_map.1 hm;exact ej_mi hr (h x hx)
theorem Yvg {s:Ze}(hr:Yd s.par=true)(t:Int)(W:List Int){ds:List Zi}(h:∀m∈s.members,MI s.par m∧MF s.par m):∀k,∀m∈(lvK t W (s.members,ds) k).1,MI s.par m∧MF s.par m
 | 0=>h
 | k+1=>by
  have ih:=Yvg hr t W (ds:=ds) h k;show ∀m∈((lvK t W (s.members,ds) k).1.set (at0 W k).toNat (Gk (gr ZQ (lvK t W (s.members,ds) k).1 (at0 W k).toNat) 5)),_;exact Zvn (P:=fun m=>MI s.par m∧MF s.par m) ih fun hi=>Zgj hr (grP (P:=fun m=>MI s.par m∧MF s.par m) ih hi).1 (.inr rfl)
theorem Yxx {p:Zd}(hr:Yd p=true){a:Int}(ha:0≤a∧a<64):MI p ⟨0,0,0,0,a,4⟩∧MF p ⟨0,0,0,0,a,4⟩:=by
 obtain⟨s1,s2⟩:=W4 hr;have f1:=Yk s1;have f2:=YU s2;have f3:=Z6 hr;exact⟨⟨by simp only;omega,by simp,by simp only;omega,by simp only;omega,ha,.inr (.inr ⟨.inl rfl,rfl,rfl⟩)⟩,fun c=>by simp [Gw]at c⟩
theorem Zwf {p:Zd}(hr:Yd p=true){i:Nat}{a acct:Int}(ha:0≤a){x:ZJ}(h:∀m∈x.ms,MI p m∧MF p m):∀m∈(Zld p i a acct x).ms,MI p m∧MF p m :=
 Zvn (P:=fun m=>MI p m∧MF p m) h fun hi=>by
  have g:=grP (P:=fun m=>MI p m∧MF p m) h hi;exact Yjj hr g.1 g.2 ha
theorem Zwe {p:Zd}(hr:Yd p=true){d:Zk}(ha:0≤d.amt)(hd:0≤d.acct∧d.acct<64){x:ZJ}(h:∀m∈x.ms,MI p m∧MF p m):∀m∈(Wl p d x).ms,MI p m∧MF p m:=by
 unfold Wl;split
 ·split
  ·exact h
  ·refine Zwf hr ha fun m hm=>?_;rcases List.mem_append.1 hm with hm|hm
   ·exact h m hm
   ·rw[List.mem_singleton]at hm;subst hm;exact Yxx hr hd
 ·exact Zwf hr ha h
theorem Yic {p:Zd}(hr:Yd p=true){l:List Zk}(hl:∀d∈l,0≤d.amt∧0≤d.acct∧d.acct<64){x:ZJ}(h:∀m∈x.ms,MI p m∧MF p m):∀k,k≤l.length→∀m∈(crK p l x k).ms,MI p m∧MF p m
 | 0,_=>h
 | k+1,hk=>by
  have hd:=hl (gr Z4 l k) (YA (by omega));exact Zwe hr hd.1 hd.2 (Yic hr hl h k (by omega))
theorem Ygt {p:Zd}(hr:Yd p=true)(t:Int)(W:List Int){x:StX}(h:∀m∈x.ms,MI p m∧MF p m):∀k,∀m∈(stK p t W x k).ms,MI p m∧MF p m
 | 0=>h
 | k+1=>by
  have ih:=Ygt hr t W h k;rw[stK,J2];split
  ·exact Zvn (P:=fun m=>MI p m∧MF p m) ih fun hi=>by
    have g:=grP (P:=fun m=>MI p m∧MF p m) ih hi;exact Yem hr g.1 g.2
  ·exact Zvn (P:=fun m=>MI p m∧MF p m) ih fun hi=>Zgj hr (grP (P:=fun m=>MI p m∧MF p m) ih hi).1 (.inl rfl)
theorem en_ms {s:Ze}{D:Nat}(ti:Zq s D)(r:Zf)(t:Int)(h:∀m∈s.members,MI s.par m∧MF s.par m):∀m∈(enS s r t).members,MI s.par m∧MF s.par m:=by
 unfold enS;split
 ·have hpl:=ti.pl;have hx:∀m∈(enX s).ms,MI s.par m∧MF s.par m:=Yic ti.r (fun d hd=>by have:=ti.oo d hd;exact⟨this.1.a.1,this.2.1,by omega⟩) h _ (Nat.le_refl _);exact Ygt ti.r t _ hx _
 ·exact h
theorem aj_ms {s:Ze}{p:Zd}(hr:Yd s.par=true)(h:∀m∈s.members,MI p m):∀m∈(ajS s).members,MI s.par m:=fun m hm=>by
 have e:(ajS s).members=s.members.map (Ui s.par):=by
  show (clN s.par (s.members,s.purses) s.members.length).1=_;rw[Zwd _ _ _ (Nat.le_refl _)];exact Zfx _ _
 rw[e]at hm;obtain⟨x,hx,rfl⟩:=List.mem_map.1 hm;exact Yet hr (h x hx)
end Go.X

/- Lemmas and contracts. Conditions: as each says. -/
import Derived.Test.YtpdidilobgimcaaGreatQ26
set_option linter.unusedVariables false
set_option linter.unusedSimpArgs false
set_option maxHeartbeats 12800000
set_option maxRecDepth 20000
namespace Go.X
open Go.RowKit Go.Proofs Go.Bl
structure Zi where
 ep:Int
 mode:Int
 quo:Bool
 pres:Int
 act:Int
 mint:Int
 paid:Int
 kept:Int
 burned:Int
 fees:Int
 out:List Int
 left:List Int
 started:List Int
 done:List Int
def upI (f:Nat→Zc→Zc)(l:List Zc):Nat→List Zc
 | 0=>l
 | k+1=>(upI f l k).set k (f k (gr ZT l k))
theorem WS (f:Nat→Zc→Zc)(l:List Zc):∀k,(upI f l k).length=l.length
 | 0=>rfl
 | k+1=>by rw[upI,List.length_set];exact WS f l k
theorem Zmr {l:List Zc}{j:Nat}(hj:l.length≤j):gr ZT l j=ZT:=by
 unfold gr;rw[List.getD_eq_getElem?_getD,List.getElem?_eq_none hj];rfl
theorem Vh {l:List Zc}{i j:Nat}{m:Zc}(hi:i<l.length):gr ZT (l.set i m) j=if j=i then m else gr ZT l j:=by
 by_cases e:j=i
 ·subst e;rw[Yc (by simpa using hi),if_pos rfl,List.getElem_set_self]
 ·rw[if_neg e];by_cases hj:j<l.length
  ·rw[Yc (by simpa using hj),Yc hj,List.getElem_set_ne (Ne.symm e)]
  ·rw[Zmr (by simpa using hj),Zmr (by omega)]
theorem Zsd (f:Nat→Zc→Zc)(l:List Zc):∀k,k≤l.length→∀j,gr ZT (upI f l k) j=if j<k then f j (gr ZT l j) else gr ZT l j
 | 0,_,j=>by simp [upI]
 | k+1,hk,j=>by
  rw[upI,Vh (by rw[WS];omega)];by_cases e:j=k
  ·subst e;rw[if_pos rfl,if_pos (by omega)]
  ·rw[if_neg e,Zsd f l k (by omega) j];by_cases c:j<k
   ·rw[if_pos c,if_pos (by omega)]
   ·rw[if_neg c,if_neg (by omega)]
theorem Zan (f:Nat→Zc→Zc)(l:List Zc){k:Nat}(hk:k<l.length):gr ZT (upI f l k) k=gr ZT l k:=by
 rw[Zsd f l k (by omega),if_neg (by omega)]
theorem Zln (f:Nat→Zc→Zc)(l:List Zc){k:Nat}(hk:k<l.length)(hf:f k (gr ZT l k)=gr ZT l k):upI f l (k+1)=upI f l k:=by
 have hl:=WS f l k;have h1:=Zan f l hk;rw[Yc (by omega)]at h1;rw[upI,hf,← h1,List.set_getElem_self]
theorem Zgn {f:Nat→Zc→Zc}{l:List Zc}(P:Zc→Prop)(hf:∀k x,P x→P (f k x))(hl:∀x∈l,P x):∀k,k≤l.length→∀x∈upI f l k,P x
 | 0,_=>hl
 | k+1,hk=>fun x hx=>by
  rw[upI]at hx;rcases List.mem_or_eq_of_mem_set hx with hx|rfl
  ·exact Zgn P hf hl k (by omega) x hx
  ·exact hf _ _ (hl _ (Yr (by omega)))
def wgF (p:Zd)(ks:List Int)(mode:Int)(k:Nat)(m:Zc):Zc:=if Gv m then Y2 p m (Vb ks k) mode else m
def wgS (s:Zf):Zf:={ s with calm:=(Uu s.calm (Zcb s) (U0 s)).1,members:=upI (wgF s.par s.marks (Jg s)) s.members s.members.length }
def wgR (s:Zf)(r:Zi):Zi:={ r with pres:=Zcb s,act:=U0 s,quo:=(Uu s.calm (Zcb s) (U0 s)).2,mode:=Jg s }
theorem Ydd {p:Zd}(ok:Zh p)(hr:Yb p=true)(ks:List Int)(mode:Int)(k:Nat){m:Zc}(mo:Ze m):Ze (wgF p ks mode k m):=by
 unfold wgF;split
 ·exact Jp ok hr mo _ _
 ·exact mo
def mtN (s:Zf)(r:Zi):Int:=Zja s.par r.act (s.gen+s.mint) s.most r.mode
def mtW (s:Zf):List Nat:=thI s.members s.marks s.members.length
def mtL (s:Zf)(k:Nat):List Zc:=(thI s.members s.marks k).map (gr ZT s.members)
def mtP (s:Zf)(r:Zi):List Int:=UA s.par (mtN s r) (mtL s s.members.length)
def Uk (p:Zd)(i:Nat)(a:Int)(x:List Zc×List Int):List Zc×List Int :=
 (x.1.set i (Ui p (gr ZT x.1 i) a).1,x.2.set (gr ZT x.1 i).owner.toNat (at0 x.2 (gr ZT x.1 i).owner.toNat+(Ui p (gr ZT x.1 i) a).2))
def mtK (p:Zd)(W:List Nat)(P:List Int)(x:List Zc×List Int):Nat→List Zc×List Int
 | 0=>x
 | k+1=>Uk p (W.getD k 0) (at0 P k) (mtK p W P x k)
def mtX (s:Zf)(r:Zi)(k:Nat):List Zc×List Int:=mtK s.par (mtW s) (mtP s r) (s.members,s.purses) k
def Zeo (s:Zf)(r:Zi)(k:Nat):Zf:={ s with mint:=s.mint+mtN s r,treas:=s.treas+mtN s r-YF (mtP s r) k,members:=(mtX s r k).1,purses:=(mtX s r k).2 }
def Yct (s:Zf)(r:Zi)(k:Nat):Zi:={ r with mint:=mtN s r,paid:=r.paid+YF (mtP s r) k }
def mtS (s:Zf)(r:Zi):Zf:=Zeo s r (mtW s).length
def mtR (s:Zf)(r:Zi):Zi:={ Yct s r (mtW s).length with kept:=mtN s r-tot (mtP s r) }
abbrev fnC (ks:List Int)(k:Nat)(m:Zc):Prop:=Gv m∧Vb ks k=false
def fnF (p:Zd)(ks:List Int)(mode:Int)(k:Nat)(m:Zc):Zc:=if fnC ks k m then VN p m mode else m
def fnT (p:Zd)(ks:List Int)(mode:Int)(ms:List Zc):Nat→Int
 | 0=>0
 | k+1=>if fnC ks k (gr ZT ms k) then fnT p ks mode ms k+YI p (gr ZT ms k) mode else fnT p ks mode ms k
def fnU (p:Zd)(ks:List Int)(mode:Int)(ms:List Zc):Nat→Int
 | 0=>0
 | k+1=>if fnC ks k (gr ZT ms k) then fnU p ks mode ms k+VC p (YI p (gr ZT ms k) mode) else fnU p ks mode ms k
abbrev Zcg (s:Zf)(r:Zi)(k:Nat):Int:=fnT s.par s.marks r.mode s.members k
abbrev Zbc (s:Zf)(r:Zi)(k:Nat):Int:=fnU s.par s.marks r.mode s.members k
def Uj (s:Zf)(r:Zi)(k:Nat):Zf:={ s with treas:=s.treas+Zcg s r k,members:=upI (fnF s.par s.marks r.mode) s.members k }
def fnR (s:Zf)(r:Zi)(k:Nat):Zi:={ r with burned:=r.burned+Zbc s r k,fees:=r.fees+(Zcg s r k-Zbc s r k) }
def fnS (s:Zf)(r:Zi):Zf:=Zum (Uj s r s.members.length) (fnR s r s.members.length).burned
def ejS (s:Zf)(t:Int)(k:Nat):Zf:={ s with members:=upN (ejF s.par) s.members k,dues:=duN s.par s.members t s.dues k,exit:=exN s.par s.members s.exit k }
def ejR (s:Zf)(r:Zi)(k:Nat):Zi:={ r with out:=r.out++ouN s.par s.members k }
def Zaz (t:Int)(i:Nat)(x:List Zc×List Zg):List Zc×List Zg:=(x.1.set i (J8 (gr ZT x.1 i) 5),Jn x.2 (U3 t (gr ZT x.1 i)))
def lvK (t:Int)(W:List Int)(x:List Zc×List Zg):Nat→List Zc×List Zg
 | 0=>x
 | k+1=>Zaz t (at0 W k).toNat (lvK t W x k)
def dpK (l:List Zg)(ps:List Int):Nat→List Int
 | 0=>ps
 | k+1=>(dpK l ps k).set (gr ZZ l k).acct.toNat (at0 (dpK l ps k) (gr ZZ l k).acct.toNat+(gr ZZ l k).amt)
def lvW (s:Zf):List Int:=s.exit.take s.par.churn.toNat
def lvX (s:Zf)(t:Int):List Zc×List Zg:=lvK t (lvW s) (s.members,s.dues) (lvW s).length
def lvD (s:Zf)(t:Int):List Zg:=(lvX s t).2.filter (U2 s.ep true)
def lvS (s:Zf)(t:Int):Zf:={ s with exit:=s.exit.drop s.par.churn.toNat,members:=(lvX s t).1,dues:=(lvX s t).2.filter (U2 s.ep false),purses:=dpK (lvD s t) s.purses (lvD s t).length }
def lvR (s:Zf)(r:Zi):Zi:={ r with left:=lvW s }
structure ZI where
 ms:List Zc
 ps:List Int
 en:List Int
def Zms (p:Zd)(i:Nat)(a:Int)(acct:Int)(x:ZI):ZI :=
 ⟨x.ms.set i (Us p (gr ZT x.ms i) a),x.ps.set acct.toNat (at0 x.ps acct.toNat+(a-Wj p (gr ZT x.ms i) a)),
  if (Us p (gr ZT x.ms i) a).status=(gr ZT x.ms i).status then x.en else x.en++[(i:Int)]⟩
def Wp (p:Zd)(d:Zn)(x:ZI):ZI :=
 if d.new then (if 128≤x.ms.length then ⟨x.ms,x.ps.set d.acct.toNat (at0 x.ps d.acct.toNat+d.amt),x.en⟩ else Zms p x.ms.length d.amt d.acct ⟨x.ms++[⟨0,0,0,0,d.acct,4⟩],x.ps,x.en⟩)
 else Zms p d.mem.toNat d.amt d.acct x
def crK (p:Zd)(l:List Zn)(x:ZI):Nat→ZI
 | 0=>x
 | k+1=>Wp p (gr YN l k) (crK p l x k)
structure StX where
 ms:List Zc
 ds:List Zg
 ex:List Int
 out:List Int
 go:List Int
def Gn (p:Zd)(t:Int)(i:Nat)(x:StX):StX :=
 if (WM p (gr ZT x.ms i)).2 then { x with ms:=x.ms.set i (WM p (gr ZT x.ms i)).1,go:=x.go++[(i:Int)] }
 else ⟨x.ms.set i (Zqg (gr ZT x.ms i)),Jn x.ds (U3 t (gr ZT x.ms i)),flt x.ex i,x.out++[(i:Int)],x.go⟩
def stK (p:Zd)(t:Int)(W:List Int)(x:StX):Nat→StX
 | 0=>x
 | k+1=>Gn p t (at0 W k).toNat (stK p t W x k)
def enX (s:Zf):ZI:=crK s.par s.pool ⟨s.members,s.purses,s.entry⟩ s.pool.length
def enW (s:Zf):List Int:=(enX s).en.take s.par.churn.toNat
def enY (s:Zf)(r:Zi)(t:Int):StX:=stK s.par t (enW s) ⟨(enX s).ms,s.dues,s.exit,r.out,r.started⟩ (enW s).length
def enS (s:Zf)(r:Zi)(t:Int):Zf:=if r.quo then { s with pool:=[],members:=(enY s r t).ms,purses:=(enX s).ps,entry:=(enX s).en.drop s.par.churn.toNat,dues:=(enY s r t).ds,exit:=(enY s r t).ex } else s
def enR (s:Zf)(r:Zi)(t:Int):Zi:=if r.quo then { r with out:=(enY s r t).out,started:=(enY s r t).go } else r
def Zaj (p:Zd)(ms:List Zc)(ep:Int)(m:Zm):Zm :=
 if m.state=1∧m.ends≤ep then (if Zzu p.quorum (GN ms m.yes) (GN ms m.no) (Zap ms) then { m with state:=2,due:=min (ep+p.enact) 2147483647 } else { m with state:=4 }) else m
def Zxb (p:Zd)(ms:List Zc)(ep:Int)(l:List Zm):List Zm:=l.map (Zaj p ms ep)
def Zqk (m:Zm)(done:Bool):Zm:={ m with state:=if done then 3 else 4 }
def Zxh (l:List Zm)(i:Int)(done:Bool):List Zm×Int :=
 if 0≤i∧i<(l.length:Int) then (if (gr Yg l i.toNat).state=2 then (l.set i.toNat (Zqk (gr Yg l i.toNat) done),0) else ([],291)) else ([],230)
structure MoX where
 par:Zd
 tr:Int
 ps:List Int
 em:Bool
 mo:List Zm
 dn:List Int
def moB (m:Zm)(tr:Int):Bool:=decide (m.what≠2)||decide (m.amt≤tr)
def WC (m:Zm)(x:MoX):MoX :=
 if m.what=3 then { x with em:=true } else if m.what=4 then { x with em:=false } else if m.what=1 then { x with par:=m.par }
 else if m.what=2∧m.amt≤x.tr then { x with tr:=x.tr-m.amt,ps:=x.ps.set m.to.toNat (at0 x.ps m.to.toNat+m.amt) } else x
def Zhv (i:Nat)(x:MoX):MoX :=
 { WC (gr Yg x.mo i) x with mo:=x.mo.set i (Zqk (gr Yg x.mo i) (moB (gr Yg x.mo i) x.tr)),dn:=if moB (gr Yg x.mo i) x.tr then x.dn++[(i:Int)] else x.dn }
def moK (W:List Int)(x:MoX):Nat→MoX
 | 0=>x
 | k+1=>Zhv (at0 W k).toNat (moK W x k)
def moL (s:Zf):List Zm:=Zxb s.par s.members s.ep s.motions
def moW (s:Zf)(r:Zi):List Int:=WZ (moL s) s.ep r.quo (moL s).length
def moX (s:Zf)(r:Zi)(k:Nat):MoX:=moK (moW s r) ⟨s.par,s.treas,s.purses,s.emer,moL s,r.done⟩ k
def Ynz (s:Zf)(r:Zi)(k:Nat):Zf:={ s with par:=(moX s r k).par,treas:=(moX s r k).tr,purses:=(moX s r k).ps,emer:=(moX s r k).em,motions:=(moX s r k).mo }
def moRk (s:Zf)(r:Zi)(k:Nat):Zi:={ r with done:=(moX s r k).dn }
def moS (s:Zf)(r:Zi):Zf:=Ynz s r (moW s r).length
def moR (s:Zf)(r:Zi):Zi:=moRk s r (moW s r).length
def Zxg (s:Zf)(k:Nat):Zf:={ s with members:=(clN s.par (s.members,s.purses) k).1,purses:=(clN s.par (s.members,s.purses) k).2 }
def ajS (s:Zf):Zf:=Zxg s s.members.length
def Zlg (s:Zf)(k:Nat):Zf:={ s with members:=upN (JN s.par) s.members k }
def seS (s:Zf):Zf:={ Zlg s s.members.length with ring:=Zhd s.ring s.marks,marks:=List.replicate 16 0,ep:=s.ep+1 }
def r0P (s:Zf):Zi:=⟨s.ep,0,false,0,0,0,0,0,0,0,[],[],[],[]⟩
def atP (s:Zf):Int:=min (s.ep+s.par.wait) 2147483647
def Yec (t:Int)(x:Zf×Zi):Zf×Zi:=(ejS x.1 t x.1.members.length,ejR x.1 x.2 x.1.members.length)
def tk2 (s:Zf):Zf×Zi:=(wgS s,wgR s (r0P s))
def tk3 (s:Zf):Zf×Zi:=(mtS (tk2 s).1 (tk2 s).2,mtR (tk2 s).1 (tk2 s).2)
def tk4 (s:Zf):Zf×Zi:=(fnS (tk3 s).1 (tk3 s).2,fnR (tk3 s).1 (tk3 s).2 (tk3 s).1.members.length)
def tk5 (s:Zf):Zf×Zi:=Yec (atP s) (tk4 s)
def tk7 (s:Zf):Zf×Zi:=(lvS (tk5 s).1 (atP s),lvR (tk5 s).1 (tk5 s).2)
def tk8 (s:Zf):Zf×Zi:=(enS (tk7 s).1 (tk7 s).2 (atP s),enR (tk7 s).1 (tk7 s).2 (atP s))
def tk9 (s:Zf):Zf×Zi:=(moS (tk8 s).1 (tk8 s).2,moR (tk8 s).1 (tk8 s).2)
def UT (s:Zf):Zf×Zi:=if (tk9 s).1.par=s.par then tk9 s else Yec (atP s) (ajS (tk9 s).1,(tk9 s).2)
def Vo (s:Zf):Zf:=seS (UT s).1
def JW (s:Zf):Zi:=(UT s).2
def Zpi:Zi:=⟨0,0,false,0,0,0,0,0,0,0,[],[],[],[]⟩
def Uw (s:Zf):Int:=if Wi s then (if 1073741824≤s.ep then 200 else 0) else 291
theorem GT {ps:List Int}{i:Nat}{a:Int}(hi:i<ps.length):tot (ps.set i (at0 ps i+a))=tot ps+a:=by rw[Jj hi];omega
theorem Zit {ps:List Int}{i:Nat}{a:Int}(hp:∀j,0≤at0 ps j)(ha:0≤a)(hi:i<ps.length)(j:Nat):0≤at0 (ps.set i (at0 ps i+a)) j:=by
 have h0:=hp j;have h1:=hp i;rw[Wy _ _ _ _ hi];split<;>omega
theorem U7 {ms:List Zc}{i:Nat}(hi:i<ms.length)(m:Zc):tot ((ms.set i m).map Zc.bal)=tot (ms.map Zc.bal)+(m.bal-(gr ZT ms i).bal):=by
 rw[List.map_set,Jj (by simpa using hi),WX hi]
theorem Zbz (xs ys:List Int):tot (xs++ys)=tot xs+tot ys:=by
 rw[Zdk,Zdk,Zdk,List.sum_append]
structure Zy (ms:List Zc)(ps:List Int):Prop where
 m:∀x∈ms,Ze x
 o:∀x∈ms,0≤x.owner∧x.owner<ps.length
 p:∀i,0≤at0 ps i
theorem Zy.ok {ms:List Zc}{ps:List Int}(h:Zy ms ps)(ht:tot ps+tot (ms.map Zc.bal)≤4611686018427387904):ZE ms ps:=⟨h.m,h.o,h.p,ht⟩
theorem Zy.setM {ms:List Zc}{ps:List Int}(h:Zy ms ps)(i:Nat){m:Zc}(hm:Ze m)(ho:0≤m.owner∧m.owner<ps.length):Zy (ms.set i m) ps :=
 ⟨fun x hx=>by
  rcases List.mem_or_eq_of_mem_set hx with hx|rfl
  ·exact h.m x hx
  ·exact hm,fun x hx=>by
  rcases List.mem_or_eq_of_mem_set hx with hx|rfl
  ·exact h.o x hx
  ·exact ho,h.p⟩
theorem Zy.pay {ms:List Zc}{ps:List Int}(h:Zy ms ps){i:Nat}(hi:i<ps.length){a:Int}(ha:0≤a):Zy ms (ps.set i (at0 ps i+a)) :=
 ⟨h.m,fun x hx=>by rw[List.length_set];exact h.o x hx,Zit h.p ha hi⟩
theorem Zy.at {ms:List Zc}{ps:List Int}(h:Zy ms ps){i:Nat}(hi:i<ms.length):Ze (gr ZT ms i)∧0≤(gr ZT ms i).owner∧(gr ZT ms i).owner<ps.length:=⟨h.m _ (Yr hi),h.o _ (Yr hi)⟩
theorem Zy.bal {ms:List Zc}{ps:List Int}(h:Zy ms ps):0≤tot (ms.map Zc.bal):=Yy (WU h.m)
theorem Zy.pur {ms:List Zc}{ps:List Int}(h:Zy ms ps):0≤tot ps:=Yy h.p
theorem Zy.le {ms:List Zc}{ps:List Int}(h:Zy ms ps)(i:Nat):0≤at0 ps i∧at0 ps i≤tot ps:=⟨h.p i,Yk h.p i⟩
theorem Zy.bl {ms:List Zc}{ps:List Int}(h:Zy ms ps){i:Nat}(hi:i<ms.length):0≤(gr ZT ms i).bal∧(gr ZT ms i).bal≤tot (ms.map Zc.bal):=by
 have h1:=Yk (WU h.m) i;have h2:=WU h.m i;rw[WX hi]at h1 h2;exact⟨h2,h1⟩
theorem Zvb {p:Zd}(ok:Zh p){m:Zc}(mo:Ze m){a:Int}(ha:0≤a):Ze (Ui p m a).1∧(Ui p m a).1.owner=m.owner∧(Ui p m a).1.status=m.status∧0≤(Ui p m a).2∧(Ui p m a).2≤a∧(Ui p m a).1.bal+(Ui p m a).2=m.bal+a:=by
 have hb:=mo.u m.bal (by simp);have he:=mo.u m.eff (by simp);have hs:=mo.u m.score (by simp);have hn1:=mo.n m.streak (by simp);have hn2:=mo.n m.owner (by simp);have hn3:=mo.n m.status (by simp);have hc:=ok.w p.cap (by simp [YA]);have hf:0≤Y8 p.cap m.bal∧(Y8 p.cap m.bal=0∨m.bal+Y8 p.cap m.bal=p.cap):=by unfold Y8;split<;>omega
 refine⟨⟨fun z hz=>?_,fun z hz=>?_⟩,rfl,rfl,?_,?_,?_⟩
 ·simp only[Ui,List.mem_cons,List.not_mem_nil,or_false]at hz;rcases hz with rfl|rfl|rfl<;>omega
 ·simp only[Ui,List.mem_cons,List.not_mem_nil,or_false]at hz;rcases hz with rfl|rfl|rfl<;>omega
 ·show 0≤a-min a (Y8 p.cap m.bal);omega
 ·show a-min a (Y8 p.cap m.bal)≤a;omega
 ·show m.bal+min a (Y8 p.cap m.bal)+(a-min a (Y8 p.cap m.bal))=_;omega
theorem Yme (p:Zd)(i:Nat)(a:Int)(x:List Zc×List Int):(Uk p i a x).1.length=x.1.length∧(Uk p i a x).2.length=x.2.length:=⟨List.length_set,List.length_set⟩
theorem py_ok {p:Zd}(ok:Zh p){x:List Zc×List Int}(h:Zy x.1 x.2){i:Nat}(hi:i<x.1.length){a:Int}(ha:0≤a) :
  Zy (Uk p i a x).1 (Uk p i a x).2∧tot (Uk p i a x).2+tot ((Uk p i a x).1.map Zc.bal)=tot x.2+tot (x.1.map Zc.bal)+a:=by
 obtain⟨mo,o1,o2⟩:=h.at hi;obtain⟨g1,g2,g3,g4,g5,g6⟩:=Zvb ok mo ha;have hj:(gr ZT x.1 i).owner.toNat<x.2.length:=by omega
 refine⟨(h.pay hj g4).setM i g1 ⟨by rw[g2];exact o1,by rw[g2,List.length_set];exact o2⟩,?_⟩;simp only[Uk];rw[GT hj,U7 hi];omega
structure Yyw (P:List Int)(x0 x:List Zc×List Int)(k:Nat):Prop where
 l1:x.1.length=x0.1.length
 l2:x.2.length=x0.2.length
 b:Zy x.1 x.2
 t:tot x.2+tot (x.1.map Zc.bal)=tot x0.2+tot (x0.1.map Zc.bal)+YF P k
 s:∀j,(gr ZT x.1 j).status=(gr ZT x0.1 j).status∧(gr ZT x.1 j).owner=(gr ZT x0.1 j).owner
theorem Ybi {p:Zd}(ok:Zh p){W:List Nat}{P:List Int}{x:List Zc×List Int}(h:Zy x.1 x.2)(hW:∀i∈W,i<x.1.length)(hP:∀i,0≤at0 P i):∀k,k≤W.length→Yyw P x (mtK p W P x k) k
 | 0,_=>⟨rfl,rfl,h,by simp [mtK,YF],fun _=>⟨rfl,rfl⟩⟩
 | k+1,hk=>by
  have ih:=Ybi ok h hW hP k (by omega);have hi:W.getD k 0<x.1.length:=by
   rw[List.getD_eq_getElem?_getD,List.getElem?_eq_getElem (by omega),Option.getD_some];exact hW _ (List.getElem_mem _)
  have hi2:W.getD k 0<(mtK p W P x k).1.length:=by rw[ih.l1];exact hi
  have hl:=Yme p (W.getD k 0) (at0 P k) (mtK p W P x k);obtain⟨g1,g2⟩:=py_ok ok ih.b hi2 (hP k);refine⟨hl.1.trans ih.l1,hl.2.trans ih.l2,g1,?_,fun j=>?_⟩
  ·rw[YF,← Int.add_assoc,← ih.t];exact g2
  ·rw[mtK];simp only[Uk];rw[Vh hi2];obtain⟨e1,e2⟩:=ih.s j;split
   ·rename_i e;subst e;exact⟨e1,e2⟩
   ·exact⟨e1,e2⟩
theorem Zwy {l:List Zc}{ks:List Int}{n i:Nat}(hi:i∈thI l ks n):i<n:=Ylh (List.mem_filter.1 hi).1
theorem Ygn {l:List Zc}{ks:List Int}{n i:Nat}(hi:i∈thI l ks n):Gv (gr ZT l i)∧Vb ks i=true:=by
 have h1:=List.mem_filter.1 hi;have h2:=Yop h1.1;simp only[Gt,decide_eq_true_eq]at h2;exact⟨h2,h1.2⟩
theorem Gw {p:Zd}(ok:Zh p)(hr:Yb p=true){m:Zc}(mo:Ze m)(mode:Int):Ze (VN p m mode)∧0≤YI p m mode∧YI p m mode≤m.bal∧0≤VC p (YI p m mode)∧VC p (YI p m mode)≤YI p m mode:=by
 have hb:=mo.u m.bal (by simp);have he:=mo.u m.eff (by simp);have hs:=mo.u m.score (by simp);have hn1:=mo.n m.streak (by simp);have hn2:=mo.n m.owner (by simp);have hn3:=mo.n m.status (by simp);have hf:=Zcv ok hr mo mode;have hps:=Ya hr;have hbu:=Ygv (p:=p) (n:=YI p m mode) ⟨hf.1,by omega⟩ (by omega);refine⟨⟨fun z hz=>?_,fun z hz=>?_⟩,hf.1,hf.2,hbu.1,hbu.2.1⟩
 ·simp only[VN,List.mem_cons,List.not_mem_nil,or_false]at hz;rcases hz with rfl|rfl|rfl<;>omega
 ·simp only[VN,List.mem_cons,List.not_mem_nil,or_false]at hz;rcases hz with rfl|rfl|rfl<;>omega
theorem Ybj {p:Zd}(ok:Zh p)(hr:Yb p=true)(ks:List Int)(mode:Int)(k:Nat){m:Zc}(mo:Ze m):Ze (fnF p ks mode k m):=by
 unfold fnF;split
 ·exact(Gw ok hr mo mode).1
 ·exact mo
theorem Yes (p:Zd)(ks:List Int)(mode:Int)(k:Nat)(m:Zc):(fnF p ks mode k m).owner=m.owner∧(fnF p ks mode k m).status=m.status:=by
 unfold fnF;split
 ·exact⟨rfl,rfl⟩
 ·exact⟨rfl,rfl⟩
theorem Ybz {p:Zd}(ok:Zh p)(hr:Yb p=true)(ks:List Int)(mode:Int){ms:List Zc}(hm:∀x∈ms,Ze x):∀k,k≤ms.length→0≤fnU p ks mode ms k∧fnU p ks mode ms k≤fnT p ks mode ms k∧fnT p ks mode ms k+tot ((upI (fnF p ks mode) ms k).map Zc.bal)=tot (ms.map Zc.bal)
 | 0,_=>⟨Int.le_refl _,Int.le_refl _,by simp [fnT,upI]⟩
 | k+1,hk=>by
  obtain⟨h1,h2,h3⟩:=Ybz ok hr ks mode hm k (by omega);have hl:=WS (fnF p ks mode) ms k;have hb:=U7 (ms:=upI (fnF p ks mode) ms k) (i:=k) (by omega) (fnF p ks mode k (gr ZT ms k));rw[Zan _ _ (by omega)]at hb;obtain⟨_,g1,g2,g3,g4⟩:=Gw ok hr (hm _ (Yr (z:=ZT) (k:=k) (by omega))) mode;rw[upI,hb,fnT,fnU];by_cases c:fnC ks k (gr ZT ms k)
  ·rw[if_pos c,if_pos c,fnF,if_pos c];refine⟨by omega,by omega,?_⟩;show _+(_+((gr ZT ms k).bal-YI p (gr ZT ms k) mode-_))=_;omega
  ·rw[if_neg c,if_neg c,fnF,if_neg c];exact⟨h1,h2,by omega⟩
theorem Zzm (p:Zd)(ks:List Int)(mode:Int)(k:Nat)(m:Zc):(wgF p ks mode k m).owner=m.owner∧(wgF p ks mode k m).status=m.status∧(wgF p ks mode k m).bal=m.bal∧(wgF p ks mode k m).eff=m.eff:=by
 unfold wgF Y2;split
 ·split
  ·exact⟨rfl,rfl,rfl,rfl⟩
  ·exact⟨rfl,rfl,rfl,rfl⟩
 ·exact⟨rfl,rfl,rfl,rfl⟩
theorem Ydv {m:Zc}(mo:Ze m){r:Int}(h0:0≤r∧r≤100):Ze (J8 m r):=by
 have hs:=mo.u m.score (by simp);have hn2:=mo.n m.owner (by simp);refine⟨fun z hz=>?_,fun z hz=>?_⟩
 ·simp only[J8,List.mem_cons,List.not_mem_nil,or_false]at hz;rcases hz with rfl|rfl|rfl<;>omega
 ·simp only[J8,List.mem_cons,List.not_mem_nil,or_false]at hz;rcases hz with rfl|rfl|rfl<;>omega
structure Yyv (x0 x:List Zc×List Zg)(k:Nat):Prop where
 l1:x.1.length=x0.1.length
 m:∀y∈x.1,Ze y
 d:∀y∈x.2,Zr y
 n:x.2.length≤x0.2.length+k
 t:Wm x.2+tot (x.1.map Zc.bal)=Wm x0.2+tot (x0.1.map Zc.bal)
 o:∀j,(gr ZT x.1 j).owner=(gr ZT x0.1 j).owner
theorem JA {t:Int}(ht:0≤t∧t≤2147483647){m:Zc}(mo:Ze m):Zr (U3 t m):=by
 have hb:=mo.u m.bal (by simp);have hn:=mo.n m.owner (by simp)
 exact⟨hb,fun z hz=>by
  simp only[U3,List.mem_cons,List.not_mem_nil,or_false]at hz
  rcases hz with rfl|rfl<;>omega⟩
theorem Ztm {t:Int}(ht:0≤t∧t≤2147483647){W:List Int}{x:List Zc×List Zg}(hm:∀y∈x.1,Ze y)(hd:∀y∈x.2,Zr y)(hW:∀i∈W,0≤i∧i<x.1.length)(hT:Wm x.2+tot (x.1.map Zc.bal)≤4611686018427387904):∀k,k≤W.length→Yyv x (lvK t W x k) k
 | 0,_=>⟨rfl,hm,hd,by simp [lvK],rfl,fun _=>rfl⟩
 | k+1,hk=>by
  have ih:=Ztm ht hm hd hW hT k (by omega);have hi:=hW (at0 W k) (by rw[← Yh (by omega)];exact List.getElem_mem (by omega));obtain⟨i,he⟩:=Int.eq_ofNat_of_zero_le hi.1;rw[lvK,he];have hi2:i<(lvK t W x k).1.length:=by rw[ih.l1];omega
  have mo:=ih.m _ (Yr (z:=ZT) hi2);have hb:=mo.u (gr ZT (lvK t W x k).1 i).bal (by simp);have hbt:=Yk (WU ih.m) i;rw[WX hi2]at hbt;have h3:=ih.t;obtain⟨d1,_,d3⟩:=Zih (M:=Wm (lvK t W x k).2) (n:=x.2.length+k) ⟨ih.d,Int.le_refl _,ih.n⟩ (JA ht mo) (by show _+(gr ZT (lvK t W x k).1 i).bal≤_;omega);refine⟨by simp only[Zaz,Int.toNat_natCast,List.length_set];exact ih.l1,fun y hy=>?_,d1,d3,?_,fun j=>?_⟩
  ·simp only[Zaz,Int.toNat_natCast]at hy;rcases List.mem_or_eq_of_mem_set hy with hy|rfl
   ·exact ih.m y hy
   ·exact Ydv mo (by decide)
  ·simp only[Zaz,Int.toNat_natCast];rw[Gx,U7 hi2];show _+(gr ZT (lvK t W x k).1 i).bal+(_+(0-_))=_;omega
  ·simp only[Zaz,Int.toNat_natCast];rw[Vh hi2];split
   ·rename_i e;subst e;exact ih.o j
   ·exact ih.o j
theorem Zfl {l:List Zg}{ps:List Int}(hp:∀i,0≤at0 ps i)(hl:∀x∈l,0≤x.acct∧x.acct<ps.length∧0≤x.amt):∀k,k≤l.length→(dpK l ps k).length=ps.length∧(∀i,0≤at0 (dpK l ps k) i)∧tot (dpK l ps k)=tot ps+YF (l.map Zg.amt) k
 | 0,_=>⟨rfl,hp,by simp [dpK,YF]⟩
 | k+1,hk=>by
  obtain⟨h1,h2,h3⟩:=Zfl hp hl k (by omega);have hx:=hl _ (Yr (z:=ZZ) (k:=k) (l:=l) (by omega));have hj:(gr ZZ l k).acct.toNat<(dpK l ps k).length:=by omega
  rw[dpK];refine⟨by rw[List.length_set];exact h1,Zit h2 hx.2.2 hj,?_⟩;rw[GT hj,YF,Zkn (by omega),h3];omega
theorem Zud {l:List Int}(h0:∀i,0≤at0 l i){k:Nat}(hk:k≤l.length):0≤YF l k∧YF l k≤tot l:=⟨Vg h0 k,Jt h0 hk⟩
def U1 (ms:List Zc)(l:List Int)(st:Int):Prop:=l.Nodup∧∀z,z∈l↔∃j:Nat,z=j∧j<ms.length∧(gr ZT ms j).status=st
theorem Vx {ms:List Zc}{l:List Int}{st:Int}(h:U1 ms l st){z:Int}(hz:z∈l):0≤z∧z<ms.length∧(gr ZT ms z.toNat).status=st:=by
 obtain⟨j,rfl,h1,h2⟩:=(h.2 z).1 hz;exact⟨by omega,by omega,by simpa using h2⟩
theorem Yee {ms:List Zc}{l:List Int}{st:Int}(h:U1 ms l st){j:Nat}(hj:j<ms.length)(e:(gr ZT ms j).status=st):(j:Int)∈l:=(h.2 _).2 ⟨j,rfl,hj,e⟩
theorem Zrj {l:List Int}{n:Nat}(hn:l.Nodup)(hl:∀z∈l,0≤z∧z<n):l.length≤n:=by
 have h0:((List.range n).map fun j:Nat=>(j:Int)).Nodup:=by
  rw[List.Nodup,List.pairwise_map];exact List.nodup_range.imp fun h e=>h (by omega)
 have h1:l.Perm (((List.range n).map fun j:Nat=>(j:Int)).filter fun z=>decide (z∈l)):=by
  refine(List.perm_ext_iff_of_nodup hn (h0.filter _)).2 fun z=>?_;rw[List.mem_filter,decide_eq_true_eq];refine⟨fun hz=>⟨?_,hz⟩,fun hz=>hz.2⟩;obtain⟨h2,h3⟩:=hl z hz;exact List.mem_map.2 ⟨z.toNat,List.mem_range.2 (by omega),by omega⟩
 rw[h1.length_eq];refine Nat.le_trans (List.length_filter_le _ _) ?_;rw[List.length_map,List.length_range];exact Nat.le_refl _
theorem Vj {ms:List Zc}{l:List Int}{st:Int}(h:U1 ms l st):l.length≤ms.length:=Zrj h.1 fun z hz=>by
 have:=Vx h hz;omega
theorem row_iffB {s:Zf}{l:List Int}{st:Int}:Zyk s l st=true↔U1 s.members l st:=by
 constructor
 ·intro h;rw[Zyk,Bool.and_eq_true,decide_eq_true_eq]at h;obtain⟨h1,h2⟩:=h;have hp:l.Perm ((stL s.members st s.members.length).map fun j:Nat=>(j:Int)):=by
   refine Gd (Zar _ _ _) (fun x hx=>?_) ?_
   ·obtain⟨j,hj,rfl⟩:=List.mem_map.1 hx;rw[stL_mem]at hj;exact Yae h1 hj.1 hj.2
   ·rw[List.length_map,h2,Zdz]
  refine⟨hp.nodup_iff.2 (Zar _ _ _),fun z=>?_⟩;rw[hp.mem_iff,List.mem_map]
  constructor
  ·rintro⟨j,hj,rfl⟩;rw[stL_mem]at hj;exact⟨j,rfl,hj.1,hj.2⟩
  ·rintro⟨j,rfl,h3,h4⟩;exact⟨j,stL_mem.2 ⟨h3,h4⟩,rfl⟩
 ·intro h;rw[Zyk,Bool.and_eq_true,decide_eq_true_eq];refine⟨Zez fun j hj e=>Yee h hj e,?_⟩;rw[Zdz];have hp:l.Perm ((stL s.members st s.members.length).map fun j:Nat=>(j:Int)):=by
   refine(List.perm_ext_iff_of_nodup h.1 (Zar _ _ _)).2 fun z=>?_;rw[h.2 z,List.mem_map]
   constructor
   ·rintro⟨j,rfl,h3,h4⟩;exact⟨j,stL_mem.2 ⟨h3,h4⟩,rfl⟩
   ·rintro⟨j,hj,rfl⟩;rw[stL_mem]at hj;exact⟨j,rfl,hj.1,hj.2⟩
  rw[hp.length_eq,List.length_map]
theorem JG {ms ms':List Zc}{l:List Int}{st:Int}(h:U1 ms l st)(hl:ms'.length=ms.length)(he:∀j,j<ms.length→((gr ZT ms' j).status=st↔(gr ZT ms j).status=st)):U1 ms' l st:=by
 refine⟨h.1,fun z=>(h.2 z).trans ?_⟩
 constructor
 ·rintro⟨j,e,h1,h2⟩;exact⟨j,e,by omega,(he j h1).2 h2⟩
 ·rintro⟨j,e,h1,h2⟩;exact⟨j,e,by omega,(he j (by omega)).1 h2⟩
theorem Zam {ms:List Zc}{l:List Int}{st:Int}(h:U1 ms l st){i:Nat}(hi:i<ms.length){m:Zc}(hm:m.status=st↔(gr ZT ms i).status=st):U1 (ms.set i m) l st:=by
 refine JG h (by simp) fun j hj=>?_;rw[Vh hi];split
 ·rename_i e;subst e;exact hm
 ·exact Iff.rfl
theorem Ygl {ms:List Zc}{l:List Int}{st:Int}(h:U1 ms l st){i:Nat}(hi:i<ms.length){m:Zc}(h0:(gr ZT ms i).status≠st)(hm:m.status=st):U1 (ms.set i m) (l++[(i:Int)]) st:=by
 have hni:(i:Int) ∉ l:=fun c=>h0 (by have:=(Vx h c).2.2;simpa using this);refine⟨?_,fun z=>?_⟩
 ·rw[List.nodup_append];refine⟨h.1,by simp,fun a ha b hb e=>hni ?_⟩;rw[List.mem_singleton]at hb;rw[← hb,← e];exact ha
 ·rw[List.mem_append,List.mem_singleton,h.2 z]
  constructor
  ·rintro(⟨j,rfl,h1,h2⟩ | rfl)
   ·refine⟨j,rfl,by simpa using h1,?_⟩;rw[Vh hi];split
    ·exact hm
    ·exact h2
   ·exact⟨i,rfl,by simpa using hi,by rw[Vh hi,if_pos rfl];exact hm⟩
  ·rintro⟨j,rfl,h1,h2⟩;rw[Vh hi]at h2;by_cases e:j=i
   ·right;rw[e]
   ·left
    rw[if_neg e]at h2;exact⟨j,rfl,by simpa using h1,h2⟩
theorem Zup {ms:List Zc}{l:List Int}{st:Int}(h:U1 ms l st){i:Nat}(hi:i<ms.length){m:Zc}(hm:m.status≠st):U1 (ms.set i m) (flt l i) st:=by
 refine⟨h.1.filter _,fun z=>?_⟩;rw[flt,List.mem_filter,h.2 z,decide_eq_true_eq]
 constructor
 ·rintro⟨⟨j,rfl,h1,h2⟩,h3⟩;refine⟨j,rfl,by simpa using h1,?_⟩;rw[Vh hi,if_neg (fun e=>h3 (by rw[e]))];exact h2
 ·rintro⟨j,rfl,h1,h2⟩;rw[Vh hi]at h2;by_cases e:j=i
  ·rw[if_pos e]at h2;exact absurd h2 hm
  ·rw[if_neg e]at h2;exact⟨⟨j,rfl,by simpa using h1,h2⟩,fun c=>e (by omega)⟩
theorem Ziu {ms:List Zc}{l:List Int}{st:Int}{i:Nat}(h:U1 ms ((i:Int)::l) st){m:Zc}(hm:m.status≠st):U1 (ms.set i m) l st:=by
 have hi:i<ms.length:=by have:=(Vx h (z:=i) (by simp)).2.1;omega
 have hn:=List.nodup_cons.1 h.1;refine⟨hn.2,fun z=>?_⟩;have hz:=h.2 z;rw[List.mem_cons]at hz
 constructor
 ·intro hzl;obtain⟨j,rfl,h1,h2⟩:=hz.1 (.inr hzl);refine⟨j,rfl,by simpa using h1,?_⟩;rw[Vh hi,if_neg (fun e=>hn.1 (by rw[← e];exact hzl))];exact h2
 ·rintro⟨j,rfl,h1,h2⟩;rw[Vh hi]at h2;by_cases e:j=i
  ·rw[if_pos e]at h2;exact absurd h2 hm
  ·rw[if_neg e]at h2;rcases hz.2 ⟨j,rfl,by simpa using h1,h2⟩ with c|c
   ·exact absurd (by omega) e
   ·exact c
theorem Zva {ms:List Zc}{m:Zc}{j:Nat}:gr ZT (ms++[m]) j=if j=ms.length then m else gr ZT ms j:=by
 by_cases e:j=ms.length
 ·rw[if_pos e,Yc (by simp;omega)];subst e;rw[List.getElem_append_right (Nat.le_refl _)];simp
 ·rw[if_neg e];by_cases hj:j<ms.length
  ·rw[Yc (by simp;omega),Yc hj,List.getElem_append_left hj]
  ·rw[Zmr (by simp;omega),Zmr (by omega)]
theorem Zni {ms:List Zc}{l:List Int}{st:Int}(h:U1 ms l st){m:Zc}(hm:m.status≠st):U1 (ms++[m]) l st:=by
 refine⟨h.1,fun z=>(h.2 z).trans ?_⟩
 constructor
 ·rintro⟨j,e,h1,h2⟩;exact⟨j,e,by simp;omega,by rw[Zva,if_neg (by omega)];exact h2⟩
 ·rintro⟨j,e,h1,h2⟩;rw[Zva]at h2;split at h2
  ·exact absurd h2 hm
  ·exact⟨j,e,by simp at h1;omega,h2⟩
theorem Zed {p:Zd}(ok:Zh p){m:Zc}(mo:Ze m){a:Int}(ha:0≤a):Ze (Us p m a)∧(Us p m a).owner=m.owner∧(Us p m a).bal=m.bal+Wj p m a∧0≤Wj p m a∧Wj p m a≤a∧((Us p m a).status=m.status∨((m.status=4∨m.status=5)∧(Us p m a).status=1)):=by
 have hb:=mo.u m.bal (by simp);have he:=mo.u m.eff (by simp);have hs:=mo.u m.score (by simp);have hn1:=mo.n m.streak (by simp);have hn2:=mo.n m.owner (by simp);have hn3:=mo.n m.status (by simp);have hc:=ok.w p.cap (by simp [YA]);have hf:0≤Y8 p.cap m.bal∧(Y8 p.cap m.bal=0∨m.bal+Y8 p.cap m.bal=p.cap):=by unfold Y8;split<;>omega
 have ht:0≤Wj p m a∧Wj p m a≤a∧Wj p m a≤Y8 p.cap m.bal:=by unfold Wj;omega
 unfold Us;split
 ·rename_i c;refine⟨⟨fun z hz=>?_,fun z hz=>?_⟩,rfl,rfl,ht.1,ht.2.1,.inr ⟨c.2,rfl⟩⟩
  ·simp only[List.mem_cons,List.not_mem_nil,or_false]at hz;rcases hz with rfl|rfl|rfl<;>omega
  ·simp only[List.mem_cons,List.not_mem_nil,or_false]at hz;rcases hz with rfl|rfl|rfl<;>omega
 ·refine⟨⟨fun z hz=>?_,fun z hz=>?_⟩,rfl,rfl,ht.1,ht.2.1,.inl rfl⟩
  ·simp only[List.mem_cons,List.not_mem_nil,or_false]at hz;rcases hz with rfl|rfl|rfl<;>omega
  ·simp only[List.mem_cons,List.not_mem_nil,or_false]at hz;rcases hz with rfl|rfl|rfl<;>omega
structure ZF (ex:List Int)(x:ZI)(pn:Nat)(T:Int):Prop where
 b:Zy x.ms x.ps
 l1:x.ms.length≤128
 l2:x.ps.length=pn
 t:tot x.ps+tot (x.ms.map Zc.bal)=T
 e:U1 x.ms x.en 1
 x:U1 x.ms ex 3
theorem Zqv {p:Zd}(ok:Zh p){ex:List Int}{x:ZI}{pn:Nat}{T:Int}(h:ZF ex x pn T){i:Nat}(hi:i<x.ms.length){a acct:Int}(ha:0≤a)(h0:0≤acct∧acct<pn):ZF ex (Zms p i a acct x) pn (T+a):=by
 obtain⟨mo,o1,o2⟩:=h.b.at hi;obtain⟨g1,g2,g3,g4,g5,g6⟩:=Zed ok mo ha;have hj:acct.toNat<x.ps.length:=by have:=h.l2;omega
 have ht:=h.t;refine⟨(h.b.pay hj (by omega)).setM i g1 ⟨by rw[g2];exact o1,by rw[g2,List.length_set];exact o2⟩,by simp only[Zms,List.length_set];exact h.l1,by simp only[Zms,List.length_set];exact h.l2,?_,?_,?_⟩
 ·simp only[Zms];rw[GT hj,U7 hi,g3];omega
 ·simp only[Zms];rcases g6 with g6 | ⟨g6,g7⟩
  ·rw[if_pos g6];exact Zam h.e hi (by rw[g6])
  ·rw[if_neg (by rw[g7];omega)];exact Ygl h.e hi (by omega) g7
 ·simp only[Zms];refine Zam h.x hi ?_;rcases g6 with g6 | ⟨g6,g7⟩
  ·rw[g6]
  ·rw[g7];omega
theorem Zhq {p:Zd}(ok:Zh p){ex:List Int}{x:ZI}{pn:Nat}(hpn:pn≤9223372036854775807){T:Int}(h:ZF ex x pn T){d:Zn}(ha:0≤d.amt)(h0:0≤d.acct∧d.acct<pn)(hm:d.new=true∨(0≤d.mem∧d.mem<x.ms.length)):ZF ex (Wp p d x) pn (T+d.amt):=by
 have hj:d.acct.toNat<x.ps.length:=by have:=h.l2;omega
 have ht:=h.t;unfold Wp
 cases c:d.new with
 | true =>
  rw[if_pos rfl];by_cases c1:128≤x.ms.length
  ·rw[if_pos c1];refine⟨h.b.pay hj ha,h.l1,by simp only[List.length_set];exact h.l2,?_,h.e,h.x⟩;simp only;rw[GT hj];omega
  ·rw[if_neg c1];have hl:=h.l2;refine Zqv ok (x:=⟨x.ms++[⟨0,0,0,0,d.acct,4⟩],x.ps,x.en⟩) ⟨⟨fun y hy=>?_,fun y hy=>?_,h.b.p⟩,by simp only[List.length_append,List.length_singleton];omega,h.l2,?_,Zni h.e (by simp),Zni h.x (by simp)⟩ (i:=x.ms.length) (by simp) ha h0
   ·rcases List.mem_append.1 hy with hy|hy
    ·exact h.b.m y hy
    ·rw[List.mem_singleton]at hy;subst hy
     exact⟨fun z hz=>by simp at hz;omega,fun z hz=>by
      simp only[List.mem_cons,List.not_mem_nil,or_false]at hz
      rcases hz with rfl|rfl|rfl<;>omega⟩
   ·rcases List.mem_append.1 hy with hy|hy
    ·exact h.b.o y hy
    ·rw[List.mem_singleton]at hy;subst hy;simp only;omega
   ·simp only[List.map_append,List.map_cons,List.map_nil,Zbz,WJ,Zip];omega
 | false =>
  rw[if_neg (by decide)];rcases hm with hm|hm
  ·rw[c]at hm;cases hm
  ·exact Zqv ok h (by omega) ha h0
theorem Zoj {p:Zd}(d:Zn)(x:ZI):x.ms.length≤(Wp p d x).ms.length:=by
 unfold Wp;split
 ·split
  ·exact Nat.le_refl _
  ·simp [Zms]
 ·simp [Zms]
theorem Ybn {p:Zd}(ok:Zh p){ex:List Int}{x:ZI}{pn:Nat}(hpn:pn≤9223372036854775807){T:Int}(h:ZF ex x pn T){l:List Zn}(hl:∀d∈l,0≤d.amt∧0≤d.acct∧d.acct<pn∧(d.new=true∨(0≤d.mem∧d.mem<x.ms.length))) :
  ∀k,k≤l.length→ZF ex (crK p l x k) pn (T+YF (l.map Zn.amt) k)∧x.ms.length≤(crK p l x k).ms.length
 | 0,_=>⟨by simpa [crK,YF] using h,Nat.le_refl _⟩
 | k+1,hk=>by
  obtain⟨h1,h2⟩:=Ybn ok hpn h hl k (by omega);obtain⟨d1,d2,d3,d4⟩:=hl _ (Yr (z:=YN) (k:=k) (l:=l) (by omega));have e:at0 (l.map Zn.amt) k=(gr YN l k).amt:=by rw[Yc (by omega),← Yh (by rw[List.length_map];omega),List.getElem_map]
  refine⟨?_,Nat.le_trans h2 (Zoj _ _)⟩;rw[YF,e,← Int.add_assoc];exact Zhq ok hpn h1 d1 ⟨d2,d3⟩ (d4.imp id fun d4=>⟨d4.1,by omega⟩)
theorem Zgh {p:Zd}(ok:Zh p)(hr:Yb p=true){m:Zc}(mo:Ze m):Ze (WM p m).1∧(WM p m).1.owner=m.owner∧(WM p m).1.bal=m.bal∧((WM p m).2=true→(WM p m).1.status=2∧m.status=1):=by
 have hb:=mo.u m.bal (by simp);have he:=mo.u m.eff (by simp);have hs:=mo.u m.score (by simp);have hn1:=mo.n m.streak (by simp);have hn2:=mo.n m.owner (by simp);have hn3:=mo.n m.status (by simp);have hw:=UH (Jf hr) ok hb;unfold WM;split
 ·rename_i c;refine⟨⟨fun z hz=>?_,fun z hz=>?_⟩,rfl,rfl,fun _=>⟨rfl,c.1⟩⟩
  ·simp only[List.mem_cons,List.not_mem_nil,or_false]at hz;rcases hz with rfl|rfl|rfl<;>omega
  ·simp only[List.mem_cons,List.not_mem_nil,or_false]at hz;rcases hz with rfl|rfl|rfl<;>omega
 ·exact⟨mo,rfl,rfl,fun h=>by cases h⟩
structure ZL (W rest:List Int)(x0 x:StX)(pn k:Nat):Prop where
 l1:x.ms.length=x0.ms.length
 m:∀y∈x.ms,Ze y
 o:∀y∈x.ms,0≤y.owner∧y.owner<pn
 d:∀y∈x.ds,Zr y
 n:x.ds.length≤x0.ds.length+k
 t:Wm x.ds+tot (x.ms.map Zc.bal)=Wm x0.ds+tot (x0.ms.map Zc.bal)
 e:U1 x.ms (W.drop k++rest) 1
 rx:U1 x.ms x.ex 3
 u:x.out.length≤x0.out.length+k
 g:x.go.length≤x0.go.length+k
theorem Ybt {p:Zd}(ok:Zh p)(hr:Yb p=true){t:Int}(ht:0≤t∧t≤2147483647){W rest:List Int}{x:StX}{pn:Nat}(h:ZL W rest x x pn 0)(hT:Wm x.ds+tot (x.ms.map Zc.bal)≤4611686018427387904):∀k,k≤W.length→ZL W rest x (stK p t W x k) pn k
 | 0,_=>h
 | k+1,hk=>by
  have ih:=Ybt ok hr ht h hT k (by omega);have hd:W.drop k=at0 W k::W.drop (k+1):=by rw[List.drop_eq_getElem_cons (by omega),Yh (by omega)]
  have hin:=Vx ih.e (z:=at0 W k) (by rw[hd];simp);obtain⟨i,he⟩:=Int.eq_ofNat_of_zero_le hin.1;rw[he]at hin hd;rw[Int.toNat_natCast]at hin;rw[stK,he,Int.toNat_natCast];have hi:i<(stK p t W x k).ms.length:=by omega
  have ie:=ih.e;rw[hd,List.cons_append]at ie;have mo:=ih.m _ (Yr (z:=ZT) hi);have oo:=ih.o _ (Yr (z:=ZT) hi);obtain⟨g1,g2,g3,g4⟩:=Zgh ok hr mo;have hb:=mo.u (gr ZT (stK p t W x k).ms i).bal (by simp);have hbt:=Yk (WU ih.m) i;rw[WX hi]at hbt;have h3:=ih.t;have hn:=ih.n;have hu:=ih.u;have hg:=ih.g;unfold Gn
  cases c:(WM p (gr ZT (stK p t W x k).ms i)).2 with
  | true =>
   obtain⟨s1,s2⟩:=g4 c;rw[if_pos rfl];refine⟨by simp only[List.length_set];exact ih.l1,fun y hy=>?_,fun y hy=>?_,ih.d,by simp only;omega,?_,Ziu ie (by omega),Zam ih.rx hi (by omega),by simp only;omega,by simp only[List.length_append,List.length_singleton];omega⟩
   ·rcases List.mem_or_eq_of_mem_set hy with hy|rfl
    ·exact ih.m y hy
    ·exact g1
   ·rcases List.mem_or_eq_of_mem_set hy with hy|rfl
    ·exact ih.o y hy
    ·rw[g2];exact oo
   ·simp only;rw[U7 hi,g3];omega
  | false =>
   rw[if_neg (by decide)];obtain⟨d1,_,d3⟩:=Zih (M:=Wm (stK p t W x k).ds) (n:=x.ds.length+k) ⟨ih.d,Int.le_refl _,ih.n⟩ (JA ht mo) (by show _+(gr ZT (stK p t W x k).ms i).bal≤_;omega);refine⟨by simp only[List.length_set];exact ih.l1,fun y hy=>?_,fun y hy=>?_,d1,d3,?_,Ziu ie (by simp [Zqg]),Zup ih.rx hi (by simp [Zqg]),by simp only[List.length_append,List.length_singleton];omega,by simp only;omega⟩
   ·rcases List.mem_or_eq_of_mem_set hy with hy|rfl
    ·exact ih.m y hy
    ·exact Ztq mo
   ·rcases List.mem_or_eq_of_mem_set hy with hy|rfl
    ·exact ih.o y hy
    ·exact oo
   ·simp only;rw[Gx,U7 hi];show _+(gr ZT (stK p t W x k).ms i).bal+(_+(0-_))=_;omega
structure ZA (pn:Nat)(m:Zm):Prop where
 ok:Yym m
 f:UE m=true
 a:0≤m.acct∧m.acct<pn
 t:0≤m.to∧m.to<pn
theorem motFits_iff {m:Zm}:UE m=true↔WH m=true∧VH m=true∧Zbm m.yes 128=true∧Zbm m.no 128=true∧(if m.what=1 then Yb m.par else decide (m.par=Zhs))=true:=by
 simp only[UE,Bool.and_eq_true,and_assoc]
theorem ZA.state {pn:Nat}{m:Zm}(h:ZA pn m){st:Int}(hs:1≤st∧st≤4){due:Int}(hd:0≤due∧due≤2147483647):ZA pn { m with state:=st,due:=due }:=by
 obtain⟨f1,f2,f3,f4,f5⟩:=motFits_iff.1 h.f;refine⟨⟨h.ok.a,fun z hz=>?_,h.ok.p⟩,motFits_iff.2 ⟨?_,?_,f3,f4,f5⟩,h.a,h.t⟩
 ·have hn:=h.ok.n;simp only[List.forall_mem_cons]at hn;simp only[List.mem_cons,List.not_mem_nil,or_false]at hz;rcases hz with rfl|rfl|rfl|rfl|rfl|rfl<;>omega
 ·simp only[WH,Bool.and_eq_true,wi_iff]at f1 ⊢;exact⟨f1.1,hs⟩
 ·simp only[VH,Bool.and_eq_true,wi_iff]at f2 ⊢;exact⟨⟨f2.1.1,hd⟩,f2.2⟩
theorem ZA.fin {pn:Nat}{m:Zm}(h:ZA pn m)(b:Bool):ZA pn (Zqk m b):=by
 obtain⟨f1,f2,f3,f4,f5⟩:=motFits_iff.1 h.f;simp only[VH,Bool.and_eq_true,wi_iff]at f2;exact h.state (by cases b<;>decide) f2.1.2
theorem Zsg {pn:Nat}{p:Zd}(hp:0≤p.enact){ms:List Zc}{ep:Int}(he:0≤ep){m:Zm}(h:ZA pn m):ZA pn (Zaj p ms ep m):=by
 unfold Zaj;split
 ·split
  ·exact h.state (by decide) (by omega)
  ·obtain⟨f1,f2,f3,f4,f5⟩:=motFits_iff.1 h.f;simp only[VH,Bool.and_eq_true,wi_iff]at f2;exact h.state (by decide) f2.1.2
 ·exact h
theorem Zwu {l:List Zm}{i j:Nat}{m:Zm}(hi:i<l.length):gr Yg (l.set i m) j=if j=i then m else gr Yg l j:=by
 by_cases e:j=i
 ·subst e;rw[Yc (by simpa using hi),if_pos rfl,List.getElem_set_self]
 ·rw[if_neg e];by_cases hj:j<l.length
  ·rw[Yc (by simpa using hj),Yc hj,List.getElem_set_ne (Ne.symm e)]
  ·unfold gr;rw[List.getD_eq_getElem?_getD,List.getD_eq_getElem?_getD,List.getElem?_eq_none (by simpa using hj),List.getElem?_eq_none (by omega)]
structure ZN (W:List Int)(x0 x:MoX)(k:Nat):Prop where
 r:Yb x.par=true
 ok:Zh x.par
 tr:0≤x.tr
 l2:x.ps.length=x0.ps.length
 p:∀i,0≤at0 x.ps i
 t:tot x.ps+x.tr=tot x0.ps+x0.tr
 n:x.mo.length=x0.mo.length
 m:∀m∈x.mo,ZA x0.ps.length m
 s:∀j,k≤j→j<W.length→(gr Yg x.mo (at0 W j).toNat).state=2
 d:x.dn.length≤x0.dn.length+k
theorem Ztv {W:List Int}{x0 x:MoX}{k:Nat}(h:ZN W x0 x k)(hW:W.Nodup)(hr:∀z∈W,0≤z∧z<x0.mo.length)(hk:k<W.length):ZN W x0 (Zhv (at0 W k).toNat x) (k+1):=by
 have hmem:at0 W k∈W:=by rw[← Yh hk];exact List.getElem_mem hk
 have hin:=hr _ hmem;obtain⟨i,he⟩:=Int.eq_ofNat_of_zero_le hin.1;rw[he]at hin;rw[he,Int.toNat_natCast];have hi:i<x.mo.length:=by have:=h.n;omega
 obtain⟨m,hm⟩:∃m,m=gr Yg x.mo i:=⟨_,rfl⟩
 have hmr:ZA x0.ps.length m:=by rw[hm];exact h.m _ (Yr hi)
 have ht:=h.t;have htr:=h.tr;have hl:=h.l2;have hmo:∀b,∀m'∈x.mo.set i (Zqk m b),ZA x0.ps.length m':=fun b m' hm'=>by
  rcases List.mem_or_eq_of_mem_set hm' with hm' | rfl
  ·exact h.m _ hm'
  ·exact hmr.fin b
 have hst:∀b,∀j,k+1≤j→j<W.length→(gr Yg (x.mo.set i (Zqk m b)) (at0 W j).toNat).state=2:=fun b j h1 h2=>by
  rw[Zwu hi,if_neg]
  ·exact h.s j (by omega) h2
  ·intro e;have hz:=hr (at0 W j) (by rw[← Yh h2];exact List.getElem_mem h2);have e2:at0 W j=at0 W k:=by rw[he];omega
   rw[← Yh h2,← Yh hk]at e2;exact List.pairwise_iff_getElem.1 hW k j hk h2 (by omega) e2.symm
 have hd:=h.d;have hdn:∀b:Bool,(if b then x.dn++[(i:Int)] else x.dn).length≤x0.dn.length+(k+1):=fun b=>by
  cases b
  ·simp only[Bool.false_eq_true,if_false];omega
  ·simp only[if_true,List.length_append,List.length_singleton];omega
 rw[Zhv,← hm];obtain⟨f1,f2,f3,f4,f5⟩:=motFits_iff.1 hmr.f;have ha:=hmr.ok.a;unfold WC;split
 ·exact⟨h.r,h.ok,h.tr,h.l2,h.p,h.t,by simp only[List.length_set];exact h.n,hmo _,hst _,hdn _⟩
 ·split
  ·exact⟨h.r,h.ok,h.tr,h.l2,h.p,h.t,by simp only[List.length_set];exact h.n,hmo _,hst _,hdn _⟩
  ·split
   ·rename_i c;rw[if_pos c]at f5;exact⟨f5,hmr.ok.p,h.tr,h.l2,h.p,h.t,by simp only[List.length_set];exact h.n,hmo _,hst _,hdn _⟩
   ·split
    ·rename_i c;have hj:m.to.toNat<x.ps.length:=by have:=hmr.t;omega
     refine⟨h.r,h.ok,by simp only;omega,by simp only[List.length_set];exact h.l2,Zit h.p ha.1 hj,?_,by simp only[List.length_set];exact h.n,hmo _,hst _,hdn _⟩;simp only;rw[GT hj];omega
    ·exact⟨h.r,h.ok,h.tr,h.l2,h.p,h.t,by simp only[List.length_set];exact h.n,hmo _,hst _,hdn _⟩
theorem Ybu {W:List Int}{x:MoX}(h:ZN W x x 0)(hW:W.Nodup)(hr:∀z∈W,0≤z∧z<x.mo.length):∀k,k≤W.length→ZN W x (moK W x k) k
 | 0,_=>h
 | k+1,hk=>Ztv (Ybu h hW hr k (by omega)) hW hr (by omega)
theorem Zio (ms:List Zm)(now:Int)(qu:Bool)(k:Nat):(WZ ms now qu k).Nodup:=by
 unfold WZ;rw[List.Nodup,List.pairwise_map];exact(List.Nodup.sublist List.filter_sublist List.nodup_range).imp fun h e=>h (by omega)
theorem Zix {ms:List Zm}{now:Int}{qu:Bool}{k:Nat}{z:Int}(hz:z∈WZ ms now qu k):(gr Yg ms z.toNat).state=2:=by
 obtain⟨i,hi,rfl⟩:=List.mem_map.1 hz;have:=(List.mem_filter.1 hi).2;simp only[Zbp,Bool.and_eq_true,decide_eq_true_eq]at this
 simpa using this.1
structure Zq (s:Zf)(D:Nat):Prop where
 r:Yb s.par=true
 ok:ZB s
 ep:0≤s.ep∧s.ep<1073741824
 be:Zy s.members s.purses
 ml:s.members.length≤128
 pl:s.purses.length≤64
 en:U1 s.members s.entry 1
 ex:U1 s.members s.exit 3
 dd:∀x∈s.dues,Zr x∧0≤x.acct∧x.acct<s.purses.length
 dn:s.dues.length≤D
 oo:∀d∈s.pool,ZK d∧0≤d.acct∧d.acct<s.purses.length∧(d.new=true∨(0≤d.mem∧d.mem<s.members.length))
 on:s.pool.length≤256
 mm:∀m∈s.motions,ZA s.purses.length m
 mn:s.motions.length≤32
 mon:tot s.purses+tot (s.members.map Zc.bal)+Wm s.dues+tot (s.pool.map Zn.amt)+s.treas+s.burn=s.gen+s.mint
 top:s.gen+s.mint≤s.most∧s.most≤4611686018427387904
theorem ZB.set {s:Zf}(h:ZB s){par:Zd}(hp:Zh par){mint burn treas ep calm:Int}{most gen:Int}(h1:0≤most∧most≤18446744073709551615)(h2:0≤gen∧gen≤18446744073709551615)(h3:0≤mint∧mint≤18446744073709551615)(h4:0≤burn∧burn≤18446744073709551615)(h5:0≤treas∧treas≤18446744073709551615)(h6 : -9223372036854775808≤ep∧ep≤9223372036854775807)(h7 : -9223372036854775808≤calm∧calm≤9223372036854775807)
  {emer:Bool} {purses:List Int} {members:List Zc} {entry exit:List Int} {pool:List Zn} {dues:List Zg} {motions:List Zm} {marks:List Int} {ring:List (List Int)}:ZB ⟨par,most,gen,mint,burn,treas,ep,calm,emer,purses,members,entry,exit,pool,dues,motions,marks,ring⟩ :=
 ⟨hp,fun z hz=>by
  simp only[List.mem_cons,List.not_mem_nil,or_false]at hz;rcases hz with rfl|rfl|rfl|rfl|rfl<;>assumption,fun z hz=>by
  simp only[List.mem_cons,List.not_mem_nil,or_false]at hz
  rcases hz with rfl|rfl<;>assumption⟩
theorem ZB.all {s:Zf}(h:ZB s):(0≤s.most∧s.most≤18446744073709551615)∧(0≤s.gen∧s.gen≤18446744073709551615)∧(0≤s.mint∧s.mint≤18446744073709551615)∧(0≤s.burn∧s.burn≤18446744073709551615)∧(0≤s.treas∧s.treas≤18446744073709551615)∧(-9223372036854775808≤s.ep∧s.ep≤9223372036854775807)∧(-9223372036854775808≤s.calm∧s.calm≤9223372036854775807):=by
 have hu:=h.u;have hn:=h.n;simp only[List.forall_mem_cons]at hu hn;exact⟨hu.1,hu.2.1,hu.2.2.1,hu.2.2.2.1,hu.2.2.2.2.1,hn.1,hn.2.1⟩
theorem Zq.parts {s:Zf}{D:Nat}(h:Zq s D):0≤tot s.purses∧0≤tot (s.members.map Zc.bal)∧0≤Wm s.dues∧0≤tot (s.pool.map Zn.amt)∧0≤s.treas∧0≤s.burn :=
 ⟨h.be.pur,h.be.bal,Yy (Zdt fun x hx=>(h.dd x hx).1),Yy (V2 Zn.amt s.pool fun x hx=>(h.oo x hx).1.a.1),(h.ok.u _ (by simp)).1,(h.ok.u _ (by simp)).1⟩
theorem Zq.sum {s:Zf}{D:Nat}(h:Zq s D):tot s.purses+tot (s.members.map Zc.bal)+Wm s.dues+tot (s.pool.map Zn.amt)+s.treas+s.burn≤4611686018427387904:=by
 have:=h.mon;have:=h.top;omega
theorem fitsT_iff {s:Zf}:Wi s=true↔Yb s.par=true∧wi s.ep 0 1073741824=true∧wi s.calm 0 1073741824=true∧Uq s=true∧WK s=true∧Ju s=true∧Vv s=true∧JJ s=true∧WR s=true:=by
 simp only[Wi,Bool.and_eq_true,and_assoc]
theorem acctT_iff {s:Zf}{i:Int}:VI s i=true↔0≤i∧i<s.purses.length:=by
 rw[VI,wi_iff];omega
theorem Zzq {h:PH}{v:SV}{s:Zf}(hs:Zp h v s)(hf:Wi s=true)(he:s.ep<1073741824){D:Nat}(hd:s.dues.length≤D):Zq s D:=by
 obtain⟨be,hr,hep,hlen,htot⟩:=Yig hs hf;obtain⟨f1,f2,f3,f4,f5,f6,f7,f8,f9⟩:=fitsT_iff.1 hf;simp only[WK,Bool.and_eq_true]at f5;have f53:=row_iffB.1 f5.1.2;have f54:=row_iffB.1 f5.2;simp only[Ju,Bool.and_eq_true,List.all_eq_true,decide_eq_true_eq,Zgu,Zhy,List.mem_range]at f6;simp only[Vv,Bool.and_eq_true,List.all_eq_true,decide_eq_true_eq]at f7;simp only[WR,Bool.and_eq_true,decide_eq_true_eq,Zql,Ztu,Zqr,GU,Zvu]at f9;obtain⟨q,t1,t2,t3⟩:=hs.t;refine⟨f1,hs.ok,⟨hep.1,he⟩,⟨be.m,be.o,be.p⟩,hlen.2,hlen.1,f53,f54,fun x hx=>⟨hs.dd x hx,?_⟩,hd,fun d hd=>⟨hs.oo d hd,?_⟩,f6.1.1,fun m hm=>?_,f7.1,?_,⟨f9.1.1,f9.1.2⟩⟩
 ·obtain⟨k,hk,rfl⟩:=List.mem_iff_getElem.1 hx;have:=(f6.2 k hk).1.1;rw[Yc hk]at this;simp only[J1,Bool.and_eq_true]at this;exact acctT_iff.1 this.1.1.1
 ·have:=f6.1.2 d hd;simp only[Zaw,Bool.and_eq_true,Bool.or_eq_true,wi_iff]at this;have h2:=acctT_iff.1 this.1.2;exact⟨h2.1,h2.2,this.2.imp id fun c=>by omega⟩
 ·have:=f7.2 m hm;have h1:=acctT_iff.1 this.1.2;have h2:=acctT_iff.1 this.2;refine⟨?_,this.1.1,h1,h2⟩;rw[← t2]at hm;obtain⟨y,hy,rfl⟩:=List.mem_map.1 hm;exact(t3 y hy).ok
 ·have e:Wm s.dues=tot (s.dues.map Zg.amt):=rfl;have q4:tot (s.members.map Zc.bal)+tot s.purses+tot (s.pool.map Zn.amt)+tot (s.dues.map Zg.amt)+s.treas+s.burn=s.gen+s.mint:=by first|exact f9.2|exact of_decide_eq_true f9.2
  rw[e];omega
theorem Zrz {f:Nat→Zc→Zc}(hf:∀k m,(f k m).bal=m.bal)(l:List Zc):∀k,k≤l.length→(upI f l k).map Zc.bal=l.map Zc.bal
 | 0,_=>rfl
 | k+1,hk=>by
  have e:(gr ZT l k).bal=(l.map Zc.bal)[k]'(by rw[List.length_map];omega):=by rw[List.getElem_map,Yc hk]
  rw[upI,List.map_set,Zrz hf l k (by omega),hf,e,List.set_getElem_self]
theorem Zy.upI {f:Nat→Zc→Zc}(hf:∀k m,Ze m→Ze (f k m)∧(f k m).owner=m.owner){l:List Zc}{ps:List Int}(h:Zy l ps){k:Nat}(hk:k≤l.length):Zy (upI f l k) ps:=by
 have:=Zgn (f:=f) (l:=l) (fun m=>Ze m∧0≤m.owner∧m.owner<ps.length) (fun k m hm=>⟨(hf k m hm.1).1,by rw[(hf k m hm.1).2];exact hm.2⟩) (fun m hm=>⟨h.m m hm,h.o m hm⟩) k hk;exact⟨fun m hm=>(this m hm).1,fun m hm=>(this m hm).2,h.p⟩
theorem Zy.upN {f:Zc→Zc}(hf:∀m,Ze m→Ze (f m)∧(f m).owner=m.owner){l:List Zc}{ps:List Int}(h:Zy l ps){k:Nat}(hk:k≤l.length):Zy (upN f l k) ps:=by
 have:=Zfb (f:=f) (l:=l) (fun m=>Ze m∧0≤m.owner∧m.owner<ps.length) (fun m hm=>⟨(hf m hm.1).1,by rw[(hf m hm.1).2];exact hm.2⟩) (fun m hm=>⟨h.m m hm,h.o m hm⟩) k hk;exact⟨fun m hm=>(this m hm).1,fun m hm=>(this m hm).2,h.p⟩
theorem Zdg {f:Nat→Zc→Zc}(hf:∀k m,(f k m).status=m.status){l:List Zc}{q:List Int}{st:Int}(h:U1 l q st){k:Nat}(hk:k≤l.length):U1 (upI f l k) q st :=
 JG h (WS f l k) fun j _=>by
  rw[Zsd f l k hk j];split
  ·rw[hf]
  ·exact Iff.rfl
theorem Zrt {calm pr ac:Int}:0≤(Uu calm pr ac).1∧(Uu calm pr ac).1≤1073741824:=by
 unfold Uu;split
 ·decide
 ·simp only;omega
theorem Ygs {s:Zf}{D:Nat}(h:Zq s D):Zq (wgS s) D:=by
 have hl:(wgS s).members.length=s.members.length:=WS _ _ _;obtain⟨a1,a2,a3,a4,a5,a6,a7⟩:=h.ok.all;have hc:=Zrt (calm:=s.calm) (pr:=Zcb s) (ac:=U0 s);have hb:(wgS s).members.map Zc.bal=s.members.map Zc.bal:=Zrz (fun k m=>(Zzm _ _ _ k m).2.2.1) _ _ (Nat.le_refl _);refine⟨h.r,ZB.set h.ok h.ok.p a1 a2 a3 a4 a5 a6 (by omega),h.ep,Zy.upI (fun k m hm=>⟨Ydd h.ok.p h.r _ _ k hm,(Zzm _ _ _ k m).1⟩) h.be (Nat.le_refl _),by rw[hl];exact h.ml,h.pl,Zdg (fun k m=>(Zzm _ _ _ k m).2.1) h.en (Nat.le_refl _),Zdg (fun k m=>(Zzm _ _ _ k m).2.1) h.ex (Nat.le_refl _),h.dd,h.dn,fun d hd=>?_,h.on,h.mm,h.mn,?_,h.top⟩
 ·rw[hl];exact h.oo d hd
 ·rw[hb];exact h.mon
theorem Yyd {s:Zf}{D:Nat}(h:Zq s D){r:Zi}(ha:0≤r.act∧r.act≤18446744073709551615):0≤mtN s r∧s.gen+s.mint+mtN s r≤s.most:=by
 have:=h.top;have hb:=Ymz h.ok.p ha;unfold mtN Zja;split
 ·omega
 ·rename_i c;omega
theorem Ycc {s:Zf}{D:Nat}(h:Zq s D)(k:Nat)(hk:k≤s.members.length):∀x∈mtL s k,Ze x:=fun x hx=>by
 obtain⟨j,hj,rfl⟩:=List.mem_map.1 hx;exact h.be.m _ (Yr (by have:=Zwy hj;omega))
theorem Ypy {s:Zf}{D:Nat}(h:Zq s D){r:Zi}(ha:0≤r.act∧r.act≤18446744073709551615):(∀i,0≤at0 (mtP s r) i∧at0 (mtP s r) i≤mtN s r)∧(mtP s r).length=(mtW s).length∧∀k,k≤(mtP s r).length→0≤YF (mtP s r) k∧YF (mtP s r) k≤mtN s r:=by
 have hn:=(Yyd h ha).1;have hm:=Ycc h s.members.length (Nat.le_refl _);refine⟨fun i=>Zgk h.r hn hm i,by rw[mtP,UO,mtL,List.length_map];rfl,fun k hk=>?_⟩;rw[mtP,UO]at hk;exact Znk hn (fun i=>V2 (YS s.par) _ (fun x hx=>(Yti h.r (hm x hx)).1) i) (by rw[List.length_map];exact hk)
theorem Ydr {s:Zf}:∀i∈mtW s,i<s.members.length:=fun i hi=>Zwy hi
theorem Yqu {s:Zf}{D:Nat}(h:Zq s D){r:Zi}(ha:0≤r.act∧r.act≤18446744073709551615){k:Nat}(hk:k≤(mtW s).length):Yyw (mtP s r) (s.members,s.purses) (mtX s r k) k :=
 Ybi h.ok.p h.be Ydr (fun i=>((Ypy h ha).1 i).1) k hk
theorem Zmv {s:Zf}{D:Nat}(h:Zq s D){r:Zi}(ha:0≤r.act∧r.act≤18446744073709551615){k:Nat}(hk:k≤(mtW s).length):Zq (Zeo s r k) D:=by
 have hx:=Yqu h ha hk;obtain⟨hn,hn2⟩:=Yyd h ha;obtain⟨_,p2,p3⟩:=Ypy h ha;have hp:=p3 k (by omega);obtain⟨a1,a2,a3,a4,a5,a6,a7⟩:=h.ok.all;obtain⟨b1,b2,b3,b4,b5,b6⟩:=h.parts;have hs:=h.sum;have ht:=h.top;have hm:=h.mon;have l1:(Zeo s r k).members.length=s.members.length:=hx.l1;have l2:(Zeo s r k).purses.length=s.purses.length:=hx.l2;have e:tot (mtX s r k).2+tot ((mtX s r k).1.map Zc.bal)=tot s.purses+tot (s.members.map Zc.bal)+YF (mtP s r) k:=hx.t;refine⟨h.r,ZB.set h.ok h.ok.p a1 a2 (by omega) a4 (by omega) a6 a7,h.ep,hx.b,by rw[l1];exact h.ml,by rw[l2];exact h.pl,JG h.en l1 (fun j _=>by rw[show (gr ZT (Zeo s r k).members j).status=_ from(hx.s j).1]),JG h.ex l1 (fun j _=>by rw[show (gr ZT (Zeo s r k).members j).status=_ from(hx.s j).1]),fun x hx=>by rw[l2];exact h.dd x hx,h.dn,fun d hd=>by rw[l1,l2];exact h.oo d hd,h.on,fun m hm=>by rw[l2];exact h.mm m hm,h.mn,?_,?_⟩
 ·show tot (mtX s r k).2+tot ((mtX s r k).1.map Zc.bal)+Wm s.dues+tot (s.pool.map Zn.amt)+(s.treas+mtN s r-YF (mtP s r) k)+s.burn=s.gen+(s.mint+mtN s r);omega
 ·show s.gen+(s.mint+mtN s r)≤s.most∧_;exact⟨by omega,ht.2⟩
theorem Yeq {s:Zf}{D:Nat}(h:Zq s D){r:Zi}(ha:0≤r.act∧r.act≤18446744073709551615):Zq (mtS s r) D:=Zmv h ha (Nat.le_refl _)
theorem Ymu {s:Zf}{D:Nat}(h:Zq s D)(r:Zi){k:Nat}(hk:k≤s.members.length):0≤Zbc s r k∧Zbc s r k≤Zcg s r k∧Zcg s r k+tot ((upI (fnF s.par s.marks r.mode) s.members k).map Zc.bal)=tot (s.members.map Zc.bal):=Ybz h.ok.p h.r _ _ h.be.m k hk
theorem Zlh {s:Zf}{D:Nat}(h:Zq s D)(r:Zi){k:Nat}(hk:k≤s.members.length):Zq (Uj s r k) D:=by
 have hl:(Uj s r k).members.length=s.members.length:=WS _ _ _;obtain⟨a1,a2,a3,a4,a5,a6,a7⟩:=h.ok.all;obtain⟨b1,b2,b3,b4,b5,b6⟩:=h.parts;have hs:=h.sum;obtain⟨c1,c2,c3⟩:=Ymu h r hk;have hbe:Zy (Uj s r k).members s.purses:=Zy.upI (fun k m hm=>⟨Ybj h.ok.p h.r _ _ k hm,(Yes _ _ _ k m).1⟩) h.be hk;have c4:=hbe.bal;have c5:tot ((Uj s r k).members.map Zc.bal)=tot ((upI (fnF s.par s.marks r.mode) s.members k).map Zc.bal):=rfl;have hm:=h.mon;refine⟨h.r,ZB.set h.ok h.ok.p a1 a2 a3 a4 (by omega) a6 a7,h.ep,hbe,by rw[hl];exact h.ml,h.pl,Zdg (fun k m=>(Yes _ _ _ k m).2) h.en hk,Zdg (fun k m=>(Yes _ _ _ k m).2) h.ex hk,h.dd,h.dn,fun d hd=>by rw[hl];exact h.oo d hd,h.on,h.mm,h.mn,?_,h.top⟩;show tot s.purses+tot ((Uj s r k).members.map Zc.bal)+Wm s.dues+tot (s.pool.map Zn.amt)+(s.treas+Zcg s r k)+s.burn=s.gen+s.mint;omega
theorem Ymo {s:Zf}{D:Nat}(h:Zq s D){r:Zi}(hr:r.burned=0):Ybg (Uj s r s.members.length) (fnR s r s.members.length).burned:=by
 obtain⟨a1,a2,a3,a4,a5,a6,a7⟩:=h.ok.all;obtain⟨b1,b2,b3,b4,b5,b6⟩:=h.parts;obtain⟨c1,c2,c3⟩:=Ymu h r (Nat.le_refl _);have c4:0≤tot ((upI (fnF s.par s.marks r.mode) s.members s.members.length).map Zc.bal):=(Zlh h r (Nat.le_refl _)).be.bal;have hs:=h.sum;refine⟨?_,?_⟩
 ·show r.burned+Zbc s r s.members.length≤s.treas+Zcg s r s.members.length;omega
 ·show s.burn+(r.burned+Zbc s r s.members.length)≤_;omega
theorem Yhc {s:Zf}{D:Nat}(h:Zq s D){r:Zi}(hr:r.burned=0):Zq (fnS s r) D:=by
 have h1:=Zlh h r (Nat.le_refl _);obtain⟨a1,a2,a3,a4,a5,a6,a7⟩:=h1.ok.all;obtain⟨c1,c2⟩:=Ymo h hr;have c0:0≤(fnR s r s.members.length).burned:=by
  have:=(Ymu h r (Nat.le_refl _)).1;show 0≤r.burned+_;omega
 have hm:=h1.mon;refine⟨h1.r,ZB.set h1.ok h1.ok.p a1 a2 a3 (by omega) (by omega) a6 a7,h1.ep,h1.be,h1.ml,h1.pl,h1.en,h1.ex,h1.dd,h1.dn,h1.oo,h1.on,h1.mm,h1.mn,?_,h1.top⟩;show tot (Uj s r s.members.length).purses+tot ((Uj s r s.members.length).members.map Zc.bal)+Wm (Uj s r s.members.length).dues+tot ((Uj s r s.members.length).pool.map Zn.amt)+((Uj s r s.members.length).treas-(fnR s r s.members.length).burned)+((Uj s r s.members.length).burn+(fnR s r s.members.length).burned)=(Uj s r s.members.length).gen+(Uj s r s.members.length).mint;omega
theorem Zuw {pn:Nat}{l:List Zg}(hl:∀x∈l,Zr x∧0≤x.acct∧x.acct<pn){d:Zg}(hd:Zr d)(ha:0≤d.acct∧d.acct<pn)(hs:Wm l+d.amt≤4611686018427387904):∀x∈Jn l d,Zr x∧0≤x.acct∧x.acct<pn:=fun x hx=>by
 have h1:=(Zih (n:=l.length) (M:=Wm l) ⟨fun x hx=>(hl x hx).1,Int.le_refl _,Nat.le_refl _⟩ hd hs).d x hx;refine⟨h1,?_⟩;rcases Zee hx with hx|rfl | ⟨h2,rfl⟩
 ·exact(hl x hx).2
 ·exact ha
 ·exact(hl _ (JX h2)).2
theorem Ygc (q:Zd)(m:Zc):(ejF q m).owner=m.owner:=by
 unfold ejF;split<;>rfl
structure Yzb (q:Zd)(cs:List Zc)(xs:List Int)(ds:List Zg)(t:Int)(pn k:Nat):Prop where
 d:∀x∈duN q cs t ds k,Zr x∧0≤x.acct∧x.acct<pn
 n:(duN q cs t ds k).length≤ds.length+k
 t:Wm (duN q cs t ds k)+tot ((upN (ejF q) cs k).map Zc.bal)=Wm ds+tot (cs.map Zc.bal)
 x:U1 (upN (ejF q) cs k) (exN q cs xs k) 3
theorem Yea {q:Zd}{cs:List Zc}{ps:List Int}(hb:Zy cs ps){xs:List Int}(hx:U1 cs xs 3){ds:List Zg}(hd:∀x∈ds,Zr x∧0≤x.acct∧x.acct<ps.length){t:Int}(ht:0≤t∧t≤2147483647)(hT:Wm ds+tot (cs.map Zc.bal)≤4611686018427387904):∀k,k≤cs.length→Yzb q cs xs ds t ps.length k
 | 0,_=>⟨hd,by simp [duN],rfl,hx⟩
 | k+1,hk=>by
  have ih:=Yea (q:=q) hb hx hd ht hT k (by omega);have hl:=WF (ejF q) cs k;have hat:=Gf (ejF q) cs (k:=k) (by omega);obtain⟨mo,o1,o2⟩:=hb.at (i:=k) (by omega);have hbu:Zy (upN (ejF q) cs k) ps:=hb.upN (fun m hm=>⟨Zwt hm,Ygc q m⟩) (by omega);have hbl:=hbu.bl (i:=k) (by omega);rw[hat]at hbl;have h3:=ih.t;have hbs:=U7 (ms:=upN (ejF q) cs k) (i:=k) (by omega) (ejF q (gr ZT cs k));rw[hat]at hbs;by_cases c:ejP q (gr ZT cs k)
  ·have e1:ejF q (gr ZT cs k)=Zqg (gr ZT cs k):=if_pos c;have hdo:=JA ht mo;have hsum:Wm (duN q cs t ds k)+(U3 t (gr ZT cs k)).amt≤4611686018427387904:=by show _+(gr ZT cs k).bal≤_;omega
   refine⟨?_,?_,?_,?_⟩
   ·rw[duN,if_pos c];exact Zuw ih.d hdo ⟨o1,o2⟩ hsum
   ·rw[duN,if_pos c];have:=Zmz (duN q cs t ds k) (U3 t (gr ZT cs k));have:=ih.n;omega
   ·rw[duN,if_pos c,Gx,upN,hbs,e1];show _+(gr ZT cs k).bal+(_+(0-_))=_;omega
   ·rw[upN,exN,if_pos c,e1];exact Zup ih.x (by omega) (by simp [Zqg])
  ·have e1:ejF q (gr ZT cs k)=gr ZT cs k:=if_neg c;refine⟨?_,?_,?_,?_⟩
   ·rw[duN,if_neg c];exact ih.d
   ·rw[duN,if_neg c];have:=ih.n;omega
   ·rw[duN,if_neg c,upN,hbs,e1];omega
   ·rw[upN,exN,if_neg c,e1];exact Zam ih.x (by omega) (by rw[hat])
theorem Zey {s:Zf}{D:Nat}(h:Zq s D){t:Int}(ht:0≤t∧t≤2147483647){k:Nat}(hk:k≤s.members.length):Zq (ejS s t k) (D+k):=by
 have hl:(ejS s t k).members.length=s.members.length:=WF _ _ _;obtain⟨b1,b2,b3,b4,b5,b6⟩:=h.parts;have hs:=h.sum;have hm:=h.mon;have e:=Yea (q:=s.par) (t:=t) h.be h.ex h.dd ht (by omega) k hk;have et:Wm (ejS s t k).dues+tot ((ejS s t k).members.map Zc.bal)=Wm s.dues+tot (s.members.map Zc.bal):=e.t;refine⟨h.r,⟨h.ok.p,h.ok.u,h.ok.n⟩,h.ep,h.be.upN (fun m hm=>⟨Zwt hm,Ygc _ m⟩) hk,by rw[hl];exact h.ml,h.pl,JG h.en hl fun j _=>?_,e.x,e.d,Nat.le_trans e.n (by have:=h.dn;omega),fun d hd=>by rw[hl];exact h.oo d hd,h.on,h.mm,h.mn,?_,h.top⟩
 ·show (gr ZT (upN (ejF s.par) s.members k) j).status=1↔_;rw[Zad _ _ k hk j];split
  ·unfold ejF;split
   ·rename_i c;have:=c.1;simp only[Zqg]
    constructor
    ·intro e;cases e
    ·intro e;omega
   ·exact Iff.rfl
  ·exact Iff.rfl
 ·show tot s.purses+tot ((ejS s t k).members.map Zc.bal)+Wm (ejS s t k).dues+tot (s.pool.map Zn.amt)+s.treas+s.burn=s.gen+s.mint;omega
structure Yyk (W rest en:List Int)(pn:Nat)(x:List Zc×List Zg)(k:Nat):Prop where
 rx:U1 x.1 (W.drop k++rest) 3
 e:U1 x.1 en 1
 o:∀y∈x.1,0≤y.owner∧y.owner<pn
 d:∀y∈x.2,Zr y∧0≤y.acct∧y.acct<pn
theorem Zsu {t:Int}(ht:0≤t∧t≤2147483647){W rest en:List Int}{pn:Nat}{x:List Zc×List Zg}(hm:∀y∈x.1,Ze y)(h:Yyk W rest en pn x 0)(hT:Wm x.2+tot (x.1.map Zc.bal)≤4611686018427387904):∀k,k≤W.length→Yyk W rest en pn (lvK t W x k) k
 | 0,_=>h
 | k+1,hk=>by
  have ih:=Zsu ht hm h hT k (by omega);have hd:W.drop k=at0 W k::W.drop (k+1):=by rw[List.drop_eq_getElem_cons (by omega),Yh (by omega)]
  have hW:∀i∈W,0≤i∧i<x.1.length:=fun i hi=>by
   have:=Vx h.rx (z:=i) (by simp;exact .inl hi);omega
  have lv:=Ztm ht hm (fun y hy=>(h.d y hy).1) hW hT k (by omega);have hin:=Vx ih.rx (z:=at0 W k) (by rw[hd];simp);obtain⟨i,he⟩:=Int.eq_ofNat_of_zero_le hin.1;rw[he]at hin hd;rw[Int.toNat_natCast]at hin;rw[lvK,he,Int.toNat_natCast];have hi:i<(lvK t W x k).1.length:=by omega
  have ix:=ih.rx;rw[hd,List.cons_append]at ix;have mo:=lv.m _ (Yr (z:=ZT) hi);have oo:=ih.o _ (Yr (z:=ZT) hi);have hbt:=Yk (WU lv.m) i;rw[WX hi]at hbt;have h3:=lv.t;refine⟨Ziu ix (by simp [J8]),Zam ih.e hi ?_,fun y hy=>?_,Zuw ih.d (JA ht mo) oo ?_⟩
  ·rw[hin.2.2];simp [J8]
  ·rcases List.mem_or_eq_of_mem_set hy with hy|rfl
   ·exact ih.o y hy
   ·exact oo
  ·show Wm _+(gr ZT (lvK t W x k).1 i).bal≤_;omega
theorem U5 {α:Type}(f:α→Int)(q:α→Bool):∀l:List α,tot ((l.filter q).map f)+tot ((l.filter fun x => !q x).map f)=tot (l.map f)
 | []=>rfl
 | x::l=>by
  have ih:=U5 f q l;rw[List.filter_cons,List.filter_cons,List.map_cons,WJ]
  cases c:q x
  ·simp only[Bool.false_eq_true,if_false,Bool.not_false,if_true,List.map_cons,WJ];omega
  ·simp only[if_true,Bool.not_true,Bool.false_eq_true,if_false,List.map_cons,WJ];omega
theorem Zvv (l:List Zg)(e:Int):Wm (l.filter (U2 e true))+Wm (l.filter (U2 e false))=Wm l:=by
 have h1:=U5 Zg.amt (U2 e true) l;have h2:(fun x => !U2 e true x)=U2 e false:=by
  funext x
  unfold U2
  cases decide (x.at'≤e)<;>rfl
 rw[h2]at h1;exact h1
theorem Ywc {s:Zf}{D:Nat}(h:Zq s D):(lvW s).length≤64∧(lvW s).length≤s.exit.length∧∀i∈lvW s,0≤i∧i<s.members.length:=by
 have hp:=Ya h.r;refine⟨?_,?_,fun i hi=>?_⟩
 ·rw[lvW,List.length_take];omega
 ·rw[lvW,List.length_take];omega
 ·have:=Vx h.ex (List.mem_of_mem_take hi);omega
theorem Zri {s:Zf}{D:Nat}(h:Zq s D){t:Int}(ht:0≤t∧t≤2147483647){k:Nat}(hk:k≤(lvW s).length):Yyv (s.members,s.dues) (lvK t (lvW s) (s.members,s.dues) k) k∧Yyk (lvW s) (s.exit.drop s.par.churn.toNat) s.entry s.purses.length (lvK t (lvW s) (s.members,s.dues) k) k:=by
 obtain⟨b1,b2,b3,b4,b5,b6⟩:=h.parts;have hs:=h.sum
 exact⟨Ztm (x:=(s.members,s.dues)) ht h.be.m (fun y hy=>(h.dd y hy).1) (Ywc h).2.2 (by show Wm s.dues+tot (s.members.map Zc.bal)≤_;omega) k hk,
  Zsu (x:=(s.members,s.dues)) ht h.be.m ⟨by rw[List.drop_zero,lvW,List.take_append_drop];exact h.ex,h.en,h.be.o,h.dd⟩ (by show Wm s.dues+tot (s.members.map Zc.bal)≤_;omega) k hk⟩
theorem lv_d {s:Zf}{D:Nat}(h:Zq s D){t:Int}(ht:0≤t∧t≤2147483647):∀x∈lvD s t,0≤x.acct∧x.acct<s.purses.length∧0≤x.amt:=fun x hx=>by
 have:=(Zri h ht (Nat.le_refl _)).2.d x (List.mem_filter.1 hx).1;exact⟨this.2.1,this.2.2,this.1.a.1⟩
theorem Ymh {s:Zf}{D:Nat}(h:Zq s D){t:Int}(ht:0≤t∧t≤2147483647):Zq (lvS s t) (D+64):=by
 obtain⟨l1,l2⟩:=Zri h ht (Nat.le_refl _);obtain⟨b1,b2,b3,b4,b5,b6⟩:=h.parts;have hs:=h.sum;have hm:=h.mon;have hw:=(Ywc h).1;have hl:(lvS s t).members.length=s.members.length:=l1.l1;obtain⟨d1,d2,d3⟩:=Zfl h.be.p (lv_d h ht) (lvD s t).length (Nat.le_refl _);have hp:(lvS s t).purses.length=s.purses.length:=d1;have hx:=l2.rx;rw[List.drop_length,List.nil_append]at hx;have et:=l1.t;have e2:=Zvv (lvX s t).2 s.ep;have e3:YF ((lvD s t).map Zg.amt) (lvD s t).length=Wm (lvD s t):=by rw[Wm,tot,List.length_map]
 rw[e3]at d3;refine⟨h.r,⟨h.ok.p,h.ok.u,h.ok.n⟩,h.ep,⟨l1.m,fun x hx=>by rw[hp];exact l2.o x hx,d2⟩,by rw[hl];exact h.ml,by rw[hp];exact h.pl,l2.e,hx,fun x hx=>by rw[hp];exact l2.d x (List.mem_filter.1 hx).1,?_,fun d hd=>by rw[hl,hp];exact h.oo d hd,h.on,fun m hm=>by rw[hp];exact h.mm m hm,h.mn,?_,h.top⟩
 ·have h1:=l1.n;have h2:((lvX s t).2.filter (U2 s.ep false)).length≤(lvX s t).2.length:=List.length_filter_le _ _;have h3:=h.dn;show ((lvX s t).2.filter (U2 s.ep false)).length≤_;have h4:(lvX s t).2.length≤s.dues.length+(lvW s).length:=h1;omega
 ·show tot (dpK (lvD s t) s.purses (lvD s t).length)+tot ((lvX s t).1.map Zc.bal)+Wm ((lvX s t).2.filter (U2 s.ep false))+tot (s.pool.map Zn.amt)+s.treas+s.burn=s.gen+s.mint;have e4:Wm (lvX s t).2+tot ((lvX s t).1.map Zc.bal)=Wm s.dues+tot (s.members.map Zc.bal):=et;have e5:Wm (lvD s t)=Wm ((lvX s t).2.filter (U2 s.ep true)):=rfl;omega
theorem Yhf {s:Zf}{D:Nat}(h:Zq s D){k:Nat}(hk:k≤s.pool.length):ZF s.exit (crK s.par s.pool ⟨s.members,s.purses,s.entry⟩ k) s.purses.length (tot s.purses+tot (s.members.map Zc.bal)+YF (s.pool.map Zn.amt) k)∧s.members.length≤(crK s.par s.pool ⟨s.members,s.purses,s.entry⟩ k).ms.length :=
 Ybn (x:=⟨s.members,s.purses,s.entry⟩) h.ok.p (show s.purses.length≤9223372036854775807 by have:=h.pl;omega) ⟨h.be,h.ml,rfl,rfl,h.en,h.ex⟩ (fun d hd=>⟨(h.oo d hd).1.a.1,(h.oo d hd).2⟩) k hk
theorem Yil {s:Zf}{D:Nat}(h:Zq s D):ZF s.exit (enX s) s.purses.length (tot s.purses+tot (s.members.map Zc.bal)+tot (s.pool.map Zn.amt))∧s.members.length≤(enX s).ms.length:=by
 have:=Yhf h (Nat.le_refl s.pool.length);have e:YF (s.pool.map Zn.amt) s.pool.length=tot (s.pool.map Zn.amt):=by rw[tot,List.length_map]
 rw[e]at this;exact this
theorem Zwg {s:Zf}{D:Nat}(h:Zq s D)(r:Zi){t:Int}(ht:0≤t∧t≤2147483647){k:Nat}(hk:k≤(enW s).length) :
  ZL (enW s) ((enX s).en.drop s.par.churn.toNat) ⟨(enX s).ms,s.dues,s.exit,r.out,r.started⟩ (stK s.par t (enW s) ⟨(enX s).ms,s.dues,s.exit,r.out,r.started⟩ k) s.purses.length k:=by
 obtain⟨b1,b2,b3,b4,b5,b6⟩:=h.parts;have hs:=h.sum;obtain⟨c1,c2⟩:=Yil h;have c3:=c1.t;have c4:=c1.b.pur;have hob:=c1.b.o;rw[c1.l2]at hob;exact Ybt h.ok.p h.r ht (x:=⟨(enX s).ms,s.dues,s.exit,r.out,r.started⟩) ⟨rfl,c1.b.m,hob,fun x hx=>(h.dd x hx).1,Nat.le_refl _,rfl,by rw[List.drop_zero,enW,List.take_append_drop];exact c1.e,c1.x,Nat.le_refl _,Nat.le_refl _⟩ (by show Wm s.dues+tot ((enX s).ms.map Zc.bal)≤_;omega) k hk
theorem en_w {s:Zf}{D:Nat}(h:Zq s D):(enW s).length≤64∧(enX s).en.length≤128:=by
 have hp:=Ya h.r;have h1:=(Yil h).1;have:=Vj h1.e;have:=h1.l1;refine⟨?_,by omega⟩;rw[enW,List.length_take];omega
theorem Zkg {p:Zd}{t:Int}{pn:Nat}(ht:0≤t∧t≤2147483647)(W:List Int){rest:List Int}{x:StX}(hx:∀y∈x.ds,Zr y∧0≤y.acct∧y.acct<pn)(H:∀k,k≤W.length→ZL W rest x (stK p t W x k) pn k)(hT:Wm x.ds+tot (x.ms.map Zc.bal)≤4611686018427387904):∀k,k≤W.length→∀y∈(stK p t W x k).ds,Zr y∧0≤y.acct∧y.acct<pn
 | 0,_=>hx
 | k+1,hk=>by
  have ih:=Zkg ht W hx H hT k (by omega);have h1:=H k (by omega);have hd:W.drop k=at0 W k::W.drop (k+1):=by rw[List.drop_eq_getElem_cons (by omega),Yh (by omega)]
  have hin:=Vx h1.e (z:=at0 W k) (by rw[hd];simp);have hi:(at0 W k).toNat<(stK p t W x k).ms.length:=by omega
  have mo:=h1.m _ (Yr (z:=ZT) hi);have oo:=h1.o _ (Yr (z:=ZT) hi);have hbt:=Yk (WU h1.m) (at0 W k).toNat;rw[WX hi]at hbt;have h3:=h1.t;rw[stK,Gn];split
  ·exact ih
  ·exact Zuw ih (JA ht mo) oo (by show Wm _+(gr ZT (stK p t W x k).ms (at0 W k).toNat).bal≤_;omega)
theorem Ysm {s:Zf}{D:Nat}(h:Zq s D)(r:Zi){t:Int}(ht:0≤t∧t≤2147483647):Zq (enS s r t) (D+64):=by
 unfold enS;by_cases c:r.quo=true
 ·rw[if_pos c];obtain⟨b1,b2,b3,b4,b5,b6⟩:=h.parts;have hs:=h.sum;have hm:=h.mon;obtain⟨c1,c2⟩:=Yil h;have c3:=c1.t;have c4:=c1.b.pur;have hw:=(en_w h).1;have h1:=Zwg h r ht (Nat.le_refl (enW s).length);have h2:=Zkg (p:=s.par) ht (enW s) (x:=⟨(enX s).ms,s.dues,s.exit,r.out,r.started⟩) h.dd (fun k hk=>Zwg h r ht hk) (by show Wm s.dues+tot ((enX s).ms.map Zc.bal)≤_;omega) _ (Nat.le_refl _);have hl:(enY s r t).ms.length=(enX s).ms.length:=h1.l1;have he:=h1.e;rw[List.drop_length,List.nil_append]at he;have et:Wm (enY s r t).ds+tot ((enY s r t).ms.map Zc.bal)=Wm s.dues+tot ((enX s).ms.map Zc.bal):=h1.t;have hp:=c1.l2;have hn:(enY s r t).ds.length≤s.dues.length+(enW s).length:=h1.n;have hd:=h.dn;refine⟨h.r,⟨h.ok.p,h.ok.u,h.ok.n⟩,h.ep,⟨h1.m,fun x hx=>by simp only;rw[hp];exact h1.o x hx,c1.b.p⟩,by simp only;rw[hl];exact c1.l1,by simp only;rw[hp];exact h.pl,he,h1.rx,fun x hx=>by simp only;rw[hp];exact h2 x hx,by simp only;omega,(fun d hd=>by cases hd),by simp,fun m hm=>by simp only;rw[hp];exact h.mm m hm,h.mn,?_,h.top⟩;simp only[List.map_nil,Zip];omega
 ·rw[if_neg c];exact⟨h.r,h.ok,h.ep,h.be,h.ml,h.pl,h.en,h.ex,h.dd,Nat.le_trans h.dn (by omega),h.oo,h.on,h.mm,h.mn,h.mon,h.top⟩
theorem Zod {p:Zd}(h:Yb p=true):0≤p.enact:=by
 simp only[Yb,Bool.and_eq_true]at h;have h2:=h.1.2;simp only[YW,List.all_cons,List.all_nil,id,Bool.and_eq_true,wi_iff,decide_eq_true_eq,and_true]at h2;omega
theorem mo_0 {s:Zf}{D:Nat}(h:Zq s D)(r:Zi):ZN (moW s r) ⟨s.par,s.treas,s.purses,s.emer,moL s,r.done⟩ ⟨s.par,s.treas,s.purses,s.emer,moL s,r.done⟩ 0:=by
 refine⟨h.r,h.ok.p,h.parts.2.2.2.2.1,rfl,h.be.p,rfl,rfl,fun m hm=>?_,fun j _ hj=>?_,Nat.le_refl _⟩
 ·obtain⟨x,hx,rfl⟩:=List.mem_map.1 hm;exact Zsg (Zod h.r) h.ep.1 (h.mm x hx)
 ·exact Zix (by rw[← Yh hj];exact List.getElem_mem hj)
theorem Zng {s:Zf}(r:Zi):(moW s r).Nodup∧∀z∈moW s r,0≤z∧z<(moL s).length:=⟨Zio _ _ _ _,fun z hz=>Zgz hz⟩
theorem mo_k {s:Zf}{D:Nat}(h:Zq s D)(r:Zi){k:Nat}(hk:k≤(moW s r).length):ZN (moW s r) ⟨s.par,s.treas,s.purses,s.emer,moL s,r.done⟩ (moX s r k) k :=
 Ybu (mo_0 h r) (Zng r).1 (Zng r).2 k hk
theorem Ycg {s:Zf}{D:Nat}(h:Zq s D)(r:Zi){k:Nat}(hk:k≤(moW s r).length):Zq (Ynz s r k) D:=by
 have hx:=mo_k h r hk;obtain⟨a1,a2,a3,a4,a5,a6,a7⟩:=h.ok.all;obtain⟨b1,b2,b3,b4,b5,b6⟩:=h.parts;have hs:=h.sum;have hm:=h.mon;have et:tot (moX s r k).ps+(moX s r k).tr=tot s.purses+s.treas:=hx.t;have hp0:=hx.p;have hpp:=Yy hx.p;have htr:=hx.tr;have hp:(Ynz s r k).purses.length=s.purses.length:=hx.l2;have hn:(moX s r k).mo.length=s.motions.length:=by
  have:=hx.n;rw[this];exact List.length_map _
 refine⟨hx.r,ZB.set h.ok hx.ok a1 a2 a3 a4 (by omega) a6 a7,h.ep,⟨h.be.m,fun x hx=>by rw[hp];exact h.be.o x hx,hx.p⟩,h.ml,by rw[hp];exact h.pl,h.en,h.ex,fun x hx=>by rw[hp];exact h.dd x hx,h.dn,fun d hd=>by rw[hp];exact h.oo d hd,h.on,fun m hm=>by rw[hp];exact hx.m m hm,by show (moX s r k).mo.length≤32;rw[hn];exact h.mn,?_,h.top⟩;show tot (moX s r k).ps+tot (s.members.map Zc.bal)+Wm s.dues+tot (s.pool.map Zn.amt)+(moX s r k).tr+s.burn=s.gen+s.mint;omega
theorem Zrm {s:Zf}{D:Nat}(h:Zq s D){k:Nat}(hk:k≤s.members.length):Zq (Zxg s k) D:=by
 obtain⟨b1,b2,b3,b4,b5,b6⟩:=h.parts;have hs:=h.sum;have hm:=h.mon;have hb:ZE s.members s.purses:=h.be.ok (by omega);have h1:=Zmd (q:=s.par) h.ok.p (x:=(s.members,s.purses)) hb k hk;have h2:=V7 s.par (s.members,s.purses) k;have h3:=Zwm (q:=s.par) h.ok.p (x:=(s.members,s.purses)) hb k hk;have h4:=Zsc s.par (s.members,s.purses) k hk;have l1:(Zxg s k).members.length=s.members.length:=h2.1;have l2:(Zxg s k).purses.length=s.purses.length:=h2.2;have hst:∀j,(gr ZT (Zxg s k).members j).status=(gr ZT s.members j).status:=fun j=>by
  show (gr ZT (clN s.par (s.members,s.purses) k).1 j).status=_;rw[h4,Zad _ _ k hk j];split
  ·rfl
  ·rfl
 refine⟨h.r,⟨h.ok.p,h.ok.u,h.ok.n⟩,h.ep,⟨h1.m,h1.o,h1.p⟩,by rw[l1];exact h.ml,by rw[l2];exact h.pl,JG h.en l1 (fun j _=>by rw[hst]),JG h.ex l1 (fun j _=>by rw[hst]),fun x hx=>by rw[l2];exact h.dd x hx,h.dn,fun d hd=>by rw[l1,l2];exact h.oo d hd,h.on,fun m hm=>by rw[l2];exact h.mm m hm,h.mn,?_,h.top⟩;have e:tot (Zxg s k).purses+tot ((Zxg s k).members.map Zc.bal)=tot s.purses+tot (s.members.map Zc.bal):=h3;show tot (Zxg s k).purses+tot ((Zxg s k).members.map Zc.bal)+Wm s.dues+tot (s.pool.map Zn.amt)+s.treas+s.burn=s.gen+s.mint;omega
structure MI (p:Zd)(m:Zc):Prop where
 b:0≤m.bal∧m.bal≤p.cap
 e:0≤m.eff∧m.eff≤1099511627776
 sc:0≤m.score∧m.score≤p.scoreCap
 st:0≤m.streak∧m.streak≤p.streak
 ow:0≤m.owner∧m.owner<64
 s:(m.status=2∨m.status=3)∨(m.status=1∧1≤m.bal∧m.eff=0)∨((m.status=4∨m.status=5)∧m.bal=0∧m.eff=0)
abbrev MF (p:Zd)(m:Zc):Prop:=Gv m→p.floor<m.bal
theorem Zqq {P:Zc→Prop}{l:List Zc}(h:∀x∈l,P x){i:Nat}{m:Zc}(hf:i<l.length→P m):∀x∈l.set i m,P x:=fun x hx=>by
 by_cases c:i<l.length
 ·rcases List.mem_or_eq_of_mem_set hx with hx|rfl
  ·exact h x hx
  ·exact hf c
 ·rw[List.set_eq_of_length_le (by omega)]at hx;exact h x hx
theorem grP {P:Zc→Prop}{l:List Zc}(h:∀x∈l,P x){i:Nat}(hi:i<l.length):P (gr ZT l i):=h _ (Yr hi)
theorem UX {p:Zd}(hr:Yb p=true):YU p=true∧Y6 p=true:=by
 simp only[Yb,Bool.and_eq_true]at hr;exact⟨hr.1.1.1,hr.1.1.2⟩
theorem mi_of {p:Zd}(hr:Yb p=true){m:Zc}(mo:Ze m)(hm:Vp p m=true):MI p m∧MF p m:=by
 obtain⟨h1,h2,h3,h4⟩:=Zjj hm;obtain⟨s1,s2⟩:=UX hr;have f1:=Yl s1;have f2:=Yu s2;have f3:=Ya hr;have u1:=mo.u m.bal (by simp);have u2:=mo.u m.eff (by simp);have u3:=mo.u m.score (by simp);have hc:=Ztt hr h4;unfold UJ at h4;by_cases c1:m.status=2∨m.status=3
 ·rw[if_pos c1]at h4;simp only[Bool.and_eq_true,decide_eq_true_eq,VQ]at h4;exact⟨⟨⟨u1.1,hc⟩,by omega,by omega,by omega,h1,.inl c1⟩,fun _=>by omega⟩
 ·rw[if_neg c1]at h4;refine⟨?_,fun c=>absurd c c1⟩;by_cases c2:m.status=1
  ·rw[if_pos c2]at h4;simp only[Bool.and_eq_true,decide_eq_true_eq]at h4;exact⟨⟨u1.1,hc⟩,by omega,by omega,by omega,h1,.inr (.inl ⟨c2,h4.1.1,h4.2⟩)⟩
  ·rw[if_neg c2]at h4;by_cases c3:m.status=4∨m.status=5
   ·rw[if_pos c3]at h4;simp only[Bool.and_eq_true,decide_eq_true_eq]at h4;exact⟨⟨u1.1,hc⟩,by omega,by omega,by omega,h1,.inr (.inr ⟨c3,h4.1,h4.2⟩)⟩
   ·rw[if_neg c3]at h4;cases h4
theorem wg_mi {p:Zd}(hr:Yb p=true)(ok:Zh p)(ks:List Int)(mode:Int)(k:Nat){m:Zc}(h:MI p m):MI p (wgF p ks mode k m):=by
 obtain⟨s1,s2⟩:=UX hr;have f2:=Yu s2;have f3:=Ya hr;have h1:=h.sc;have h2:=h.st;have o1:=ok.w p.recover (by simp [YA]);unfold wgF;split
 ·unfold Y2;split
  ·refine⟨h.b,h.e,?_,?_,h.ow,h.s⟩
   ·show 0≤Y8 m.score p.recover∧Y8 m.score p.recover≤_;unfold Y8;split<;>omega
   ·show 0≤(if max m.streak 0<p.streak then max m.streak 0+1 else p.streak)∧(if max m.streak 0<p.streak then max m.streak 0+1 else p.streak)≤p.streak;by_cases c:max m.streak 0<p.streak
    ·rw[if_pos c];omega
    ·rw[if_neg c];omega
  ·refine⟨h.b,h.e,?_,?_,h.ow,h.s⟩
   ·show 0≤(if mode=3 then Uh m.score p.bias p.scoreCap else if mode=4 then Uh m.score p.biasEm p.scoreCap else m.score)∧(if mode=3 then Uh m.score p.bias p.scoreCap else if mode=4 then Uh m.score p.biasEm p.scoreCap else m.score)≤p.scoreCap;unfold Uh;by_cases c:mode=3
    ·rw[if_pos c];omega
    ·rw[if_neg c];by_cases c2:mode=4
     ·rw[if_pos c2];omega
     ·rw[if_neg c2];omega
   ·show (0:Int)≤0∧(0:Int)≤p.streak;omega
 ·exact h
theorem Yli {p:Zd}{m:Zc}(h:MI p m){n:Int}(hn:0≤n)(hc:Gv m):MI p (Ui p m n).1:=by
 have h1:=h.b;refine⟨?_,h.e,h.sc,h.st,h.ow,.inl hc⟩;show 0≤m.bal+min n (Y8 p.cap m.bal)∧m.bal+min n (Y8 p.cap m.bal)≤p.cap;unfold Y8;split<;>omega
theorem Yhz {p:Zd}(ok:Zh p)(hr:Yb p=true)(ks:List Int)(mode:Int)(k:Nat){m:Zc}(mo:Ze m)(h:MI p m):MI p (fnF p ks mode k m):=by
 have h1:=h.b;have h2:=Zcv ok hr mo mode;unfold fnF;split
 ·rename_i c;refine⟨?_,h.e,h.sc,h.st,h.ow,.inl c.1⟩;show 0≤m.bal-YI p m mode∧m.bal-YI p m mode≤p.cap;omega
 ·exact h
theorem Zdp {p:Zd}{m:Zc}(hr:Yb p=true)(h:MI p m){st:Int}(hs:st=4∨st=5):MI p (J8 m st)∧MF p (J8 m st):=by
 have h1:=h.b;have h2:=h.st;refine⟨⟨?_,by simp [J8],h.sc,?_,h.ow,.inr (.inr ⟨hs,rfl,rfl⟩)⟩,fun c=>?_⟩
 ·show (0:Int)≤0∧(0:Int)≤p.cap;omega
 ·show (0:Int)≤0∧(0:Int)≤p.streak;omega
 ·simp only[Gv,J8]at c;omega
theorem ej_mi {p:Zd}(hr:Yb p=true){m:Zc}(h:MI p m):MI p (ejF p m)∧MF p (ejF p m):=by
 unfold ejF;split
 ·exact Zdp hr h (st:=4) (.inl rfl)
 ·rename_i c
  exact⟨h,fun hc=>by
   have:¬m.bal≤p.floor:=fun x=>c ⟨hc,x⟩
   omega⟩
theorem Yfz {p:Zd}(hr:Yb p=true){m:Zc}(h:MI p m)(hf:MF p m){a:Int}(ha:0≤a):MI p (Us p m a)∧MF p (Us p m a):=by
 have h1:=h.b;have h2:=h.s;have ht:0≤Wj p m a∧m.bal+Wj p m a≤p.cap:=by
  unfold Wj Y8;split<;>omega
 unfold Us;split
 ·rename_i c;exact⟨⟨by simp only;omega,by simp,h.sc,h.st,h.ow,.inr (.inl ⟨rfl,by simp only;omega,rfl⟩)⟩,fun x=>by simp [Gv]at x⟩
 ·rename_i c;refine⟨⟨by simp only;omega,h.e,h.sc,h.st,h.ow,?_⟩,fun x=>?_⟩
  ·rcases h2 with h2|h2|h2
   ·exact .inl h2
   ·exact .inr (.inl ⟨h2.1,by simp only;omega,h2.2.2⟩)
   ·refine .inr (.inr ⟨h2.1,?_,h2.2.2⟩);simp only;by_cases z:0<m.bal+Wj p m a
    ·exact absurd ⟨z,h2.1⟩ c
    ·omega
  ·have:=hf x;simp only;omega
theorem Zxy {p:Zd}(hr:Yb p=true){m:Zc}(h:MI p m)(hf:MF p m):MI p (WM p m).1∧MF p (WM p m).1:=by
 obtain⟨s1,s2⟩:=UX hr;have f1:=Yl s1;have f3:=Ya hr;have h1:=h.b;unfold WM;split
 ·rename_i c;have g:=Zaq hr c.2.1;simp only[VQ,Bool.and_eq_true,decide_eq_true_eq]at g;refine⟨⟨h.b,?_,h.sc,?_,h.ow,.inl (.inl rfl)⟩,fun _=>c.2.1⟩
  ·show 0≤YX p m.bal∧YX p m.bal≤_;omega
  ·show (0:Int)≤0∧(0:Int)≤p.streak;omega
 ·exact⟨h,hf⟩
theorem Zzc {p q:Zd}(hq:Yb q=true){m:Zc}(h:MI p m):MI q (VO q m):=by
 obtain⟨s1,s2⟩:=UX hq;have f1:=Yl s1;have f2:=Yu s2;have f3:=Ya hq;have h1:=h.b;have h2:=h.sc;have h3:=h.st;refine⟨?_,h.e,?_,?_,h.ow,?_⟩
 ·show 0≤min m.bal q.cap∧min m.bal q.cap≤q.cap;omega
 ·show 0≤min m.score q.scoreCap∧min m.score q.scoreCap≤q.scoreCap;omega
 ·show 0≤min (max m.streak 0) q.streak∧min (max m.streak 0) q.streak≤q.streak;omega
 ·rcases h.s with h4|h4|h4
  ·exact .inl h4
  ·exact .inr (.inl ⟨h4.1,by show 1≤min m.bal q.cap;omega,h4.2.2⟩)
  ·exact .inr (.inr ⟨h4.1,by show min m.bal q.cap=0;omega,h4.2.2⟩)
theorem Yer {p:Zd}(hr:Yb p=true){m:Zc}(h:MI p m)(hf:MF p m):Vp p (JN p m)=true:=by
 have h1:=h.b;have h2:=h.sc;have h3:=h.st;have h4:=h.ow;have base:∀m',m'.owner=m.owner→m'.score=m.score→m'.streak=m.streak→UJ p m'=true→Vp p m'=true:=fun m' e1 e2 e3 e4=>by
  simp only[Vp,Bool.and_eq_true,decide_eq_true_eq,e4,and_true,Zqh,Zbo,List.cons.injEq,true_and];omega
 unfold JN;by_cases c1:Gv m
 ·rw[if_pos c1];refine base _ rfl rfl rfl ?_;have hg:=Zke hr (hf c1);rw[UJ,if_pos (by show m.status=2∨m.status=3;exact c1)];simp only[Bool.and_eq_true,decide_eq_true_eq];exact⟨⟨hf c1,h1.2⟩,hg⟩
 ·rw[if_neg c1];refine base _ rfl rfl rfl ?_;rw[UJ,if_neg c1];rcases h.s with h5|h5|h5
  ·exact absurd h5 c1
  ·rw[if_pos h5.1];simp only[Bool.and_eq_true,decide_eq_true_eq];omega
  ·rw[if_neg (by omega),if_pos h5.1];simp only[Bool.and_eq_true,decide_eq_true_eq];omega
theorem Ztf {B:Int}:∀(xs:List Int),(∀x∈xs,x≤B)→tot xs≤xs.length*B
 | [],_=>by simp [tot,YF]
 | x::xs,hx=>by
  have ih:=Ztf xs fun y hy=>hx y (List.mem_cons_of_mem _ hy);have h1:=hx x List.mem_cons_self;rw[WJ,List.length_cons];have:(((xs.length+1:Nat)):Int)*B=xs.length*B+B:=by
   rw[Int.natCast_add,Int.add_mul];simp
  omega
theorem Zli {p:Zd}{l:List Zc}(hl:l.length≤128)(h:∀m∈l,MI p m):Zap l≤140737488355328:=by
 have h1:=Ztf (B:=1099511627776) ((cP l l.length).map (Zie l)) fun x hx=>by
  obtain⟨i,hi,rfl⟩:=List.mem_map.1 hx;have:=Ylh hi;exact(h _ (Yr this)).e.2
 rw[List.length_map]at h1;have h2:=Zck l l.length;unfold Zap;omega
theorem Yfk {h:PH}{v:SV}{s:Zf}(hs:Zp h v s)(hf:Wi s=true):∀m∈s.members,MI s.par m∧MF s.par m:=fun m hm=>by
 have hr:Yb s.par=true:=(fitsT_iff.1 hf).1;exact mi_of hr (hs.mo m hm) (Zyo hf m hm).1
theorem wg_ms {s:Zf}{D:Nat}(ti:Zq s D)(h:∀m∈s.members,MI s.par m):∀m∈(wgS s).members,MI s.par m :=
 Zgn (MI s.par) (fun k _ hm=>wg_mi ti.r ti.ok.p _ _ k hm) h _ (Nat.le_refl _)
theorem Yot {s:Zf}{D:Nat}(ti:Zq s D){r:Zi}(ha:0≤r.act∧r.act≤18446744073709551615)(h:∀m∈s.members,MI s.par m):∀k,k≤(mtW s).length→∀m∈(mtX s r k).1,MI s.par m
 | 0,_=>h
 | k+1,hk=>by
  have ih:=Yot ti ha h k (by omega);have hx:=Yqu ti ha (k:=k) (by omega);have hW:(mtW s).getD k 0∈mtW s:=by
   rw[List.getD_eq_getElem?_getD,List.getElem?_eq_getElem (by omega),Option.getD_some];exact List.getElem_mem _
  have hc:=(Ygn hW).1;show ∀m∈((mtX s r k).1.set ((mtW s).getD k 0) (Ui s.par (gr ZT (mtX s r k).1 ((mtW s).getD k 0)) (at0 (mtP s r) k)).1),MI s.par m;refine Zqq ih fun hi=>Yli (grP ih hi) ((Ypy ti ha).1 k).1 ?_;show _∨_;rw[(hx.s _).1];exact hc
theorem fn_ms {s:Zf}{D:Nat}(ti:Zq s D)(r:Zi)(h:∀m∈s.members,MI s.par m):∀m∈(fnS s r).members,MI s.par m:=fun m hm =>
 (Zgn (fun m=>Ze m∧MI s.par m) (fun k _ hm=>⟨Ybj ti.ok.p ti.r _ _ k hm.1,Yhz ti.ok.p ti.r _ _ k hm.1 hm.2⟩) (fun m hm=>⟨ti.be.m m hm,h m hm⟩) _ (Nat.le_refl _) m hm).2
theorem Yso {s:Zf}(hr:Yb s.par=true)(t:Int)(h:∀m∈s.members,MI s.par m):∀m∈(ejS s t s.members.length).members,MI s.par m∧MF s.par m:=fun m hm=>by
 have e:(ejS s t s.members.length).members=s.members.map (ejF s.par):=Zeh _ _;rw[e]at hm;obtain⟨x,hx,rfl⟩:=List.mem_map.1 hm;exact ej_mi hr (h x hx)
theorem Yln {s:Zf}(hr:Yb s.par=true)(t:Int)(W:List Int){ds:List Zg}(h:∀m∈s.members,MI s.par m∧MF s.par m):∀k,∀m∈(lvK t W (s.members,ds) k).1,MI s.par m∧MF s.par m
 | 0=>h
 | k+1=>by
  have ih:=Yln hr t W (ds:=ds) h k;show ∀m∈((lvK t W (s.members,ds) k).1.set (at0 W k).toNat (J8 (gr ZT (lvK t W (s.members,ds) k).1 (at0 W k).toNat) 5)),_;exact Zqq (P:=fun m=>MI s.par m∧MF s.par m) ih fun hi=>Zdp hr (grP (P:=fun m=>MI s.par m∧MF s.par m) ih hi).1 (.inr rfl)
theorem Ynl {p:Zd}(hr:Yb p=true){a:Int}(ha:0≤a∧a<64):MI p ⟨0,0,0,0,a,4⟩∧MF p ⟨0,0,0,0,a,4⟩:=by
 obtain⟨s1,s2⟩:=UX hr;have f1:=Yl s1;have f2:=Yu s2;have f3:=Ya hr;exact⟨⟨by simp only;omega,by simp,by simp only;omega,by simp only;omega,ha,.inr (.inr ⟨.inl rfl,rfl,rfl⟩)⟩,fun c=>by simp [Gv]at c⟩
theorem Zsf {p:Zd}(hr:Yb p=true){i:Nat}{a acct:Int}(ha:0≤a){x:ZI}(h:∀m∈x.ms,MI p m∧MF p m):∀m∈(Zms p i a acct x).ms,MI p m∧MF p m :=
 Zqq (P:=fun m=>MI p m∧MF p m) h fun hi=>by
  have g:=grP (P:=fun m=>MI p m∧MF p m) h hi;exact Yfz hr g.1 g.2 ha
theorem Zur {p:Zd}(hr:Yb p=true){d:Zn}(ha:0≤d.amt)(hd:0≤d.acct∧d.acct<64){x:ZI}(h:∀m∈x.ms,MI p m∧MF p m):∀m∈(Wp p d x).ms,MI p m∧MF p m:=by
 unfold Wp;split
 ·split
  ·exact h
  ·refine Zsf hr ha fun m hm=>?_;rcases List.mem_append.1 hm with hm|hm
   ·exact h m hm
   ·rw[List.mem_singleton]at hm;subst hm;exact Ynl hr hd
 ·exact Zsf hr ha h
theorem Ybo {p:Zd}(hr:Yb p=true){l:List Zn}(hl:∀d∈l,0≤d.amt∧0≤d.acct∧d.acct<64){x:ZI}(h:∀m∈x.ms,MI p m∧MF p m):∀k,k≤l.length→∀m∈(crK p l x k).ms,MI p m∧MF p m
 | 0,_=>h
 | k+1,hk=>by
  have hd:=hl (gr YN l k) (Yr (by omega));exact Zur hr hd.1 hd.2 (Ybo hr hl h k (by omega))
theorem Ycs {p:Zd}(hr:Yb p=true)(t:Int)(W:List Int){x:StX}(h:∀m∈x.ms,MI p m∧MF p m):∀k,∀m∈(stK p t W x k).ms,MI p m∧MF p m
 | 0=>h
 | k+1=>by
  have ih:=Ycs hr t W h k;rw[stK,Gn];split
  ·exact Zqq (P:=fun m=>MI p m∧MF p m) ih fun hi=>by
    have g:=grP (P:=fun m=>MI p m∧MF p m) ih hi;exact Zxy hr g.1 g.2
  ·exact Zqq (P:=fun m=>MI p m∧MF p m) ih fun hi=>Zdp hr (grP (P:=fun m=>MI p m∧MF p m) ih hi).1 (.inl rfl)
theorem en_ms {s:Zf}{D:Nat}(ti:Zq s D)(r:Zi)(t:Int)(h:∀m∈s.members,MI s.par m∧MF s.par m):∀m∈(enS s r t).members,MI s.par m∧MF s.par m:=by
 unfold enS;split
 ·have hpl:=ti.pl;have hx:∀m∈(enX s).ms,MI s.par m∧MF s.par m:=Ybo ti.r (fun d hd=>by have:=ti.oo d hd;exact⟨this.1.a.1,this.2.1,by omega⟩) h _ (Nat.le_refl _);exact Ycs ti.r t _ hx _
 ·exact h
theorem aj_ms {s:Zf}{p:Zd}(hr:Yb s.par=true)(h:∀m∈s.members,MI p m):∀m∈(ajS s).members,MI s.par m:=fun m hm=>by
 have e:(ajS s).members=s.members.map (VO s.par):=by
  show (clN s.par (s.members,s.purses) s.members.length).1=_;rw[Zsc _ _ _ (Nat.le_refl _)];exact Zeh _ _
 rw[e]at hm;obtain⟨x,hx,rfl⟩:=List.mem_map.1 hm;exact Zzc hr (h x hx)
end Go.X

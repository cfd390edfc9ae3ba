/- Lemmas and contracts. Conditions: as each says. -/
import Derived.Test.YtllhopbilpdpkaaGreatQ24
set_option linter.unusedVariables false
set_option linter.unusedSimpArgs false
set_option maxHeartbeats 12800000
set_option maxRecDepth 20000
namespace Go.X
open Go.RowKit Go.Proofs Go.Bl
structure Zi where
 ep:Int
 mode:Int
 quo:Bool
 pres:Int
 act:Int
 mint:Int
 paid:Int
 kept:Int
 burned:Int
 fees:Int
 out:List Int
 left:List Int
 started:List Int
 done:List Int
def upI (f:Nat→Zb→Zb)(l:List Zb):Nat→List Zb
 | 0=>l
 | k+1=>(upI f l k).set k (f k (gr ZQ l k))
theorem WW (f:Nat→Zb→Zb)(l:List Zb):∀k,(upI f l k).length=l.length
 | 0=>rfl
 | k+1=>by rw[upI,List.length_set];exact WW f l k
theorem Zky {l:List Zb}{j:Nat}(hj:l.length≤j):gr ZQ l j=ZQ:=by
 unfold gr;rw[List.getD_eq_getElem?_getD,List.getElem?_eq_none hj];rfl
theorem W9 {l:List Zb}{i j:Nat}{m:Zb}(hi:i<l.length):gr ZQ (l.set i m) j=if j=i then m else gr ZQ l j:=by
 by_cases e:j=i
 ·subst e;rw[Z8 (by simpa using hi),if_pos rfl,List.getElem_set_self]
 ·rw[if_neg e];by_cases hj:j<l.length
  ·rw[Z8 (by simpa using hj),Z8 hj,List.getElem_set_ne (Ne.symm e)]
  ·rw[Zky (by simpa using hj),Zky (by omega)]
theorem Zcf (f:Nat→Zb→Zb)(l:List Zb):∀k,k≤l.length→∀j,gr ZQ (upI f l k) j=if j<k then f j (gr ZQ l j) else gr ZQ l j
 | 0,_,j=>by simp [upI]
 | k+1,hk,j=>by
  rw[upI,W9 (by rw[WW];omega)];by_cases e:j=k
  ·subst e;rw[if_pos rfl,if_pos (by omega)]
  ·rw[if_neg e,Zcf f l k (by omega) j];by_cases c:j<k
   ·rw[if_pos c,if_pos (by omega)]
   ·rw[if_neg c,if_neg (by omega)]
theorem GV (f:Nat→Zb→Zb)(l:List Zb){k:Nat}(hk:k<l.length):gr ZQ (upI f l k) k=gr ZQ l k:=by
 rw[Zcf f l k (by omega),if_neg (by omega)]
theorem Znr (f:Nat→Zb→Zb)(l:List Zb){k:Nat}(hk:k<l.length)(hf:f k (gr ZQ l k)=gr ZQ l k):upI f l (k+1)=upI f l k:=by
 have hl:=WW f l k;have h1:=GV f l hk;rw[Z8 (by omega)]at h1;rw[upI,hf,← h1,List.set_getElem_self]
theorem Zaq {f:Nat→Zb→Zb}{l:List Zb}(P:Zb→Prop)(hf:∀k x,P x→P (f k x))(hl:∀x∈l,P x):∀k,k≤l.length→∀x∈upI f l k,P x
 | 0,_=>hl
 | k+1,hk=>fun x hx=>by
  rw[upI]at hx;rcases List.mem_or_eq_of_mem_set hx with hx|rfl
  ·exact Zaq P hf hl k (by omega) x hx
  ·exact hf _ _ (hl _ (Yq (by omega)))
def wgF (p:Ze)(ks:List Int)(mode:Int)(k:Nat)(m:Zb):Zb:=if Uu m then Vc p m (Vm ks k) mode else m
def wgS (s:Zd):Zd:={ s with calm:=(VJ s.calm (GR s) (Y7 s)).1,members:=upI (wgF s.par s.marks (Ym s)) s.members s.members.length }
def wgR (s:Zd)(r:Zi):Zi:={ r with pres:=GR s,act:=Y7 s,quo:=(VJ s.calm (GR s) (Y7 s)).2,mode:=Ym s }
theorem Ydz {p:Ze}(ok:Zj p)(hr:YM p=true)(ks:List Int)(mode:Int)(k:Nat){m:Zb}(mo:Zf m):Zf (wgF p ks mode k m):=by
 unfold wgF;split
 ·exact Zes ok hr mo _ _
 ·exact mo
def mtN (s:Zd)(r:Zi):Int:=JO s.par r.act (s.gen+s.mint) s.most r.mode
def mtW (s:Zd):List Nat:=thI s.members s.marks s.members.length
def mtL (s:Zd)(k:Nat):List Zb:=(thI s.members s.marks k).map (gr ZQ s.members)
def mtP (s:Zd)(r:Zi):List Int:=VL s.par (mtN s r) (mtL s s.members.length)
def UF (p:Ze)(i:Nat)(a:Int)(x:List Zb×List Int):List Zb×List Int :=
 (x.1.set i (VK p (gr ZQ x.1 i) a).1,x.2.set (gr ZQ x.1 i).owner.toNat (at0 x.2 (gr ZQ x.1 i).owner.toNat+(VK p (gr ZQ x.1 i) a).2))
def mtK (p:Ze)(W:List Nat)(P:List Int)(x:List Zb×List Int):Nat→List Zb×List Int
 | 0=>x
 | k+1=>UF p (W.getD k 0) (at0 P k) (mtK p W P x k)
def mtX (s:Zd)(r:Zi)(k:Nat):List Zb×List Int:=mtK s.par (mtW s) (mtP s r) (s.members,s.purses) k
def Zew (s:Zd)(r:Zi)(k:Nat):Zd:={ s with mint:=s.mint+mtN s r,treas:=s.treas+mtN s r-Yy (mtP s r) k,members:=(mtX s r k).1,purses:=(mtX s r k).2 }
def Ydb (s:Zd)(r:Zi)(k:Nat):Zi:={ r with mint:=mtN s r,paid:=r.paid+Yy (mtP s r) k }
def mtS (s:Zd)(r:Zi):Zd:=Zew s r (mtW s).length
def mtR (s:Zd)(r:Zi):Zi:={ Ydb s r (mtW s).length with kept:=mtN s r-tot (mtP s r) }
abbrev fnC (ks:List Int)(k:Nat)(m:Zb):Prop:=Uu m∧Vm ks k=false
def fnF (p:Ze)(ks:List Int)(mode:Int)(k:Nat)(m:Zb):Zb:=if fnC ks k m then Ua p m mode else m
def fnT (p:Ze)(ks:List Int)(mode:Int)(ms:List Zb):Nat→Int
 | 0=>0
 | k+1=>if fnC ks k (gr ZQ ms k) then fnT p ks mode ms k+YR p (gr ZQ ms k) mode else fnT p ks mode ms k
def fnU (p:Ze)(ks:List Int)(mode:Int)(ms:List Zb):Nat→Int
 | 0=>0
 | k+1=>if fnC ks k (gr ZQ ms k) then fnU p ks mode ms k+WQ p (YR p (gr ZQ ms k) mode) else fnU p ks mode ms k
abbrev Zbo (s:Zd)(r:Zi)(k:Nat):Int:=fnT s.par s.marks r.mode s.members k
abbrev GF (s:Zd)(r:Zi)(k:Nat):Int:=fnU s.par s.marks r.mode s.members k
def Uv (s:Zd)(r:Zi)(k:Nat):Zd:={ s with treas:=s.treas+Zbo s r k,members:=upI (fnF s.par s.marks r.mode) s.members k }
def fnR (s:Zd)(r:Zi)(k:Nat):Zi:={ r with burned:=r.burned+GF s r k,fees:=r.fees+(Zbo s r k-GF s r k) }
def fnS (s:Zd)(r:Zi):Zd:=Ztg (Uv s r s.members.length) (fnR s r s.members.length).burned
def ejS (s:Zd)(t:Int)(k:Nat):Zd:={ s with members:=upN (ejF s.par) s.members k,dues:=duN s.par s.members t s.dues k,exit:=exN s.par s.members s.exit k }
def ejR (s:Zd)(r:Zi)(k:Nat):Zi:={ r with out:=r.out++ouN s.par s.members k }
def G6 (t:Int)(i:Nat)(x:List Zb×List Zg):List Zb×List Zg:=(x.1.set i (Ga (gr ZQ x.1 i) 5),Jv x.2 (U8 t (gr ZQ x.1 i)))
def lvK (t:Int)(W:List Int)(x:List Zb×List Zg):Nat→List Zb×List Zg
 | 0=>x
 | k+1=>G6 t (at0 W k).toNat (lvK t W x k)
def dpK (l:List Zg)(ps:List Int):Nat→List Int
 | 0=>ps
 | k+1=>(dpK l ps k).set (gr ZZ l k).acct.toNat (at0 (dpK l ps k) (gr ZZ l k).acct.toNat+(gr ZZ l k).amt)
def lvW (s:Zd):List Int:=s.exit.take s.par.churn.toNat
def lvX (s:Zd)(t:Int):List Zb×List Zg:=lvK t (lvW s) (s.members,s.dues) (lvW s).length
def lvD (s:Zd)(t:Int):List Zg:=(lvX s t).2.filter (Ja s.ep true)
def lvS (s:Zd)(t:Int):Zd:={ s with exit:=s.exit.drop s.par.churn.toNat,members:=(lvX s t).1,dues:=(lvX s t).2.filter (Ja s.ep false),purses:=dpK (lvD s t) s.purses (lvD s t).length }
def lvR (s:Zd)(r:Zi):Zi:={ r with left:=lvW s }
structure ZM where
 ms:List Zb
 ps:List Int
 en:List Int
def Zlb (p:Ze)(i:Nat)(a:Int)(acct:Int)(x:ZM):ZM :=
 ⟨x.ms.set i (UE p (gr ZQ x.ms i) a),x.ps.set acct.toNat (at0 x.ps acct.toNat+(a-Wn p (gr ZQ x.ms i) a)),
  if (UE p (gr ZQ x.ms i) a).status=(gr ZQ x.ms i).status then x.en else x.en++[(i:Int)]⟩
def Ws (p:Ze)(d:Zo)(x:ZM):ZM :=
 if d.new then (if 128≤x.ms.length then ⟨x.ms,x.ps.set d.acct.toNat (at0 x.ps d.acct.toNat+d.amt),x.en⟩ else Zlb p x.ms.length d.amt d.acct ⟨x.ms++[⟨0,0,0,0,d.acct,4⟩],x.ps,x.en⟩)
 else Zlb p d.mem.toNat d.amt d.acct x
def crK (p:Ze)(l:List Zo)(x:ZM):Nat→ZM
 | 0=>x
 | k+1=>Ws p (gr YT l k) (crK p l x k)
structure StX where
 ms:List Zb
 ds:List Zg
 ex:List Int
 out:List Int
 go:List Int
def Jg (p:Ze)(t:Int)(i:Nat)(x:StX):StX :=
 if (WU p (gr ZQ x.ms i)).2 then { x with ms:=x.ms.set i (WU p (gr ZQ x.ms i)).1,go:=x.go++[(i:Int)] }
 else ⟨x.ms.set i (Zqu (gr ZQ x.ms i)),Jv x.ds (U8 t (gr ZQ x.ms i)),flt x.ex i,x.out++[(i:Int)],x.go⟩
def stK (p:Ze)(t:Int)(W:List Int)(x:StX):Nat→StX
 | 0=>x
 | k+1=>Jg p t (at0 W k).toNat (stK p t W x k)
def enX (s:Zd):ZM:=crK s.par s.pool ⟨s.members,s.purses,s.entry⟩ s.pool.length
def enW (s:Zd):List Int:=(enX s).en.take s.par.churn.toNat
def enY (s:Zd)(r:Zi)(t:Int):StX:=stK s.par t (enW s) ⟨(enX s).ms,s.dues,s.exit,r.out,r.started⟩ (enW s).length
def enS (s:Zd)(r:Zi)(t:Int):Zd:=if r.quo then { s with pool:=[],members:=(enY s r t).ms,purses:=(enX s).ps,entry:=(enX s).en.drop s.par.churn.toNat,dues:=(enY s r t).ds,exit:=(enY s r t).ex } else s
def enR (s:Zd)(r:Zi)(t:Int):Zi:=if r.quo then { r with out:=(enY s r t).out,started:=(enY s r t).go } else r
def G0 (p:Ze)(ms:List Zb)(ep:Int)(m:Zn):Zn :=
 if m.state=1∧m.ends≤ep then (if Ybb p.quorum (Gx ms m.yes) (Gx ms m.no) (U9 ms) then { m with state:=2,due:=min (ep+p.enact) 2147483647 } else { m with state:=4 }) else m
def Zwp (p:Ze)(ms:List Zb)(ep:Int)(l:List Zn):List Zn:=l.map (G0 p ms ep)
def Zqv (m:Zn)(done:Bool):Zn:={ m with state:=if done then 3 else 4 }
def Zyn (l:List Zn)(i:Int)(done:Bool):List Zn×Int :=
 if 0≤i∧i<(l.length:Int) then (if (gr Yc l i.toNat).state=2 then (l.set i.toNat (Zqv (gr Yc l i.toNat) done),0) else ([],291)) else ([],230)
structure MoX where
 par:Ze
 tr:Int
 ps:List Int
 em:Bool
 mo:List Zn
 dn:List Int
def moB (m:Zn)(tr:Int):Bool:=decide (m.what≠2)||decide (m.amt≤tr)
def WG (m:Zn)(x:MoX):MoX :=
 if m.what=3 then { x with em:=true } else if m.what=4 then { x with em:=false } else if m.what=1 then { x with par:=m.par }
 else if m.what=2∧m.amt≤x.tr then { x with tr:=x.tr-m.amt,ps:=x.ps.set m.to.toNat (at0 x.ps m.to.toNat+m.amt) } else x
def Zga (i:Nat)(x:MoX):MoX :=
 { WG (gr Yc x.mo i) x with mo:=x.mo.set i (Zqv (gr Yc x.mo i) (moB (gr Yc x.mo i) x.tr)),dn:=if moB (gr Yc x.mo i) x.tr then x.dn++[(i:Int)] else x.dn }
def moK (W:List Int)(x:MoX):Nat→MoX
 | 0=>x
 | k+1=>Zga (at0 W k).toNat (moK W x k)
def moL (s:Zd):List Zn:=Zwp s.par s.members s.ep s.motions
def moW (s:Zd)(r:Zi):List Int:=Vd (moL s) s.ep r.quo (moL s).length
def moX (s:Zd)(r:Zi)(k:Nat):MoX:=moK (moW s r) ⟨s.par,s.treas,s.purses,s.emer,moL s,r.done⟩ k
def Yto (s:Zd)(r:Zi)(k:Nat):Zd:={ s with par:=(moX s r k).par,treas:=(moX s r k).tr,purses:=(moX s r k).ps,emer:=(moX s r k).em,motions:=(moX s r k).mo }
def moRk (s:Zd)(r:Zi)(k:Nat):Zi:={ r with done:=(moX s r k).dn }
def moS (s:Zd)(r:Zi):Zd:=Yto s r (moW s r).length
def moR (s:Zd)(r:Zi):Zi:=moRk s r (moW s r).length
def Zys (s:Zd)(k:Nat):Zd:={ s with members:=(clN s.par (s.members,s.purses) k).1,purses:=(clN s.par (s.members,s.purses) k).2 }
def ajS (s:Zd):Zd:=Zys s s.members.length
def Znn (s:Zd)(k:Nat):Zd:={ s with members:=upN (Zex s.par) s.members k }
def seS (s:Zd):Zd:={ Znn s s.members.length with ring:=Zxs s.ring s.marks,marks:=List.replicate 16 0,ep:=s.ep+1 }
def r0P (s:Zd):Zi:=⟨s.ep,0,false,0,0,0,0,0,0,0,[],[],[],[]⟩
def atP (s:Zd):Int:=min (s.ep+s.par.wait) 2147483647
def Zlq (t:Int)(x:Zd×Zi):Zd×Zi:=(ejS x.1 t x.1.members.length,ejR x.1 x.2 x.1.members.length)
def tk2 (s:Zd):Zd×Zi:=(wgS s,wgR s (r0P s))
def tk3 (s:Zd):Zd×Zi:=(mtS (tk2 s).1 (tk2 s).2,mtR (tk2 s).1 (tk2 s).2)
def tk4 (s:Zd):Zd×Zi:=(fnS (tk3 s).1 (tk3 s).2,fnR (tk3 s).1 (tk3 s).2 (tk3 s).1.members.length)
def tk5 (s:Zd):Zd×Zi:=Zlq (atP s) (tk4 s)
def tk7 (s:Zd):Zd×Zi:=(lvS (tk5 s).1 (atP s),lvR (tk5 s).1 (tk5 s).2)
def tk8 (s:Zd):Zd×Zi:=(enS (tk7 s).1 (tk7 s).2 (atP s),enR (tk7 s).1 (tk7 s).2 (atP s))
def tk9 (s:Zd):Zd×Zi:=(moS (tk8 s).1 (tk8 s).2,moR (tk8 s).1 (tk8 s).2)
def Vx (s:Zd):Zd×Zi:=if (tk9 s).1.par=s.par then tk9 s else Zlq (atP s) (ajS (tk9 s).1,(tk9 s).2)
def Vp (s:Zd):Zd:=seS (Vx s).1
def YF (s:Zd):Zi:=(Vx s).2
def zeroR:Zi:=⟨0,0,false,0,0,0,0,0,0,0,[],[],[],[]⟩
def GQ (s:Zd):Int:=if WK s then (if 1073741824≤s.ep then 200 else 0) else 291
theorem GT {ps:List Int}{i:Nat}{a:Int}(hi:i<ps.length):tot (ps.set i (at0 ps i+a))=tot ps+a:=by rw[Jp hi];omega
theorem Zij {ps:List Int}{i:Nat}{a:Int}(hp:∀j,0≤at0 ps j)(ha:0≤a)(hi:i<ps.length)(j:Nat):0≤at0 (ps.set i (at0 ps i+a)) j:=by
 have h0:=hp j;have h1:=hp i;rw[VG _ _ _ _ hi];split<;>omega
theorem Jo {ms:List Zb}{i:Nat}(hi:i<ms.length)(m:Zb):tot ((ms.set i m).map Zb.bal)=tot (ms.map Zb.bal)+(m.bal-(gr ZQ ms i).bal):=by
 rw[List.map_set,Jp (by simpa using hi),WV hi]
theorem Gc (xs ys:List Int):tot (xs++ys)=tot xs+tot ys:=by
 rw[Zdh,Zdh,Zdh,List.sum_append]
structure Zy (ms:List Zb)(ps:List Int):Prop where
 m:∀x∈ms,Zf x
 o:∀x∈ms,0≤x.owner∧x.owner<ps.length
 p:∀i,0≤at0 ps i
theorem Zy.ok {ms:List Zb}{ps:List Int}(h:Zy ms ps)(ht:tot ps+tot (ms.map Zb.bal)≤4611686018427387904):ZF ms ps:=⟨h.m,h.o,h.p,ht⟩
theorem Zy.setM {ms:List Zb}{ps:List Int}(h:Zy ms ps)(i:Nat){m:Zb}(hm:Zf m)(ho:0≤m.owner∧m.owner<ps.length):Zy (ms.set i m) ps :=
 ⟨fun x hx=>by
  rcases List.mem_or_eq_of_mem_set hx with hx|rfl
  ·exact h.m x hx
  ·exact hm,fun x hx=>by
  rcases List.mem_or_eq_of_mem_set hx with hx|rfl
  ·exact h.o x hx
  ·exact ho,h.p⟩
theorem Zy.pay {ms:List Zb}{ps:List Int}(h:Zy ms ps){i:Nat}(hi:i<ps.length){a:Int}(ha:0≤a):Zy ms (ps.set i (at0 ps i+a)) :=
 ⟨h.m,fun x hx=>by rw[List.length_set];exact h.o x hx,Zij h.p ha hi⟩
theorem Zy.at {ms:List Zb}{ps:List Int}(h:Zy ms ps){i:Nat}(hi:i<ms.length):Zf (gr ZQ ms i)∧0≤(gr ZQ ms i).owner∧(gr ZQ ms i).owner<ps.length:=⟨h.m _ (Yq hi),h.o _ (Yq hi)⟩
theorem Zy.bal {ms:List Zb}{ps:List Int}(h:Zy ms ps):0≤tot (ms.map Zb.bal):=Yu (WD h.m)
theorem Zy.pur {ms:List Zb}{ps:List Int}(h:Zy ms ps):0≤tot ps:=Yu h.p
theorem Zy.le {ms:List Zb}{ps:List Int}(h:Zy ms ps)(i:Nat):0≤at0 ps i∧at0 ps i≤tot ps:=⟨h.p i,Yl h.p i⟩
theorem Zy.bl {ms:List Zb}{ps:List Int}(h:Zy ms ps){i:Nat}(hi:i<ms.length):0≤(gr ZQ ms i).bal∧(gr ZQ ms i).bal≤tot (ms.map Zb.bal):=by
 have h1:=Yl (WD h.m) i;have h2:=WD h.m i;rw[WV hi]at h1 h2;exact⟨h2,h1⟩
theorem Zvf {p:Ze}(ok:Zj p){m:Zb}(mo:Zf m){a:Int}(ha:0≤a):Zf (VK p m a).1∧(VK p m a).1.owner=m.owner∧(VK p m a).1.status=m.status∧0≤(VK p m a).2∧(VK p m a).2≤a∧(VK p m a).1.bal+(VK p m a).2=m.bal+a:=by
 have hb:=mo.u m.bal (by simp);have he:=mo.u m.eff (by simp);have hs:=mo.u m.score (by simp);have hn1:=mo.n m.streak (by simp);have hn2:=mo.n m.owner (by simp);have hn3:=mo.n m.status (by simp);have hc:=ok.w p.cap (by simp [YN]);have hf:0≤Y2 p.cap m.bal∧(Y2 p.cap m.bal=0∨m.bal+Y2 p.cap m.bal=p.cap):=by unfold Y2;split<;>omega
 refine⟨⟨fun z hz=>?_,fun z hz=>?_⟩,rfl,rfl,?_,?_,?_⟩
 ·simp only[VK,List.mem_cons,List.not_mem_nil,or_false]at hz;rcases hz with rfl|rfl|rfl<;>omega
 ·simp only[VK,List.mem_cons,List.not_mem_nil,or_false]at hz;rcases hz with rfl|rfl|rfl<;>omega
 ·show 0≤a-min a (Y2 p.cap m.bal);omega
 ·show a-min a (Y2 p.cap m.bal)≤a;omega
 ·show m.bal+min a (Y2 p.cap m.bal)+(a-min a (Y2 p.cap m.bal))=_;omega
theorem Yom (p:Ze)(i:Nat)(a:Int)(x:List Zb×List Int):(UF p i a x).1.length=x.1.length∧(UF p i a x).2.length=x.2.length:=⟨List.length_set,List.length_set⟩
theorem py_ok {p:Ze}(ok:Zj p){x:List Zb×List Int}(h:Zy x.1 x.2){i:Nat}(hi:i<x.1.length){a:Int}(ha:0≤a) :
  Zy (UF p i a x).1 (UF p i a x).2∧tot (UF p i a x).2+tot ((UF p i a x).1.map Zb.bal)=tot x.2+tot (x.1.map Zb.bal)+a:=by
 obtain⟨mo,o1,o2⟩:=h.at hi;obtain⟨g1,g2,g3,g4,g5,g6⟩:=Zvf ok mo ha;have hj:(gr ZQ x.1 i).owner.toNat<x.2.length:=by omega
 refine⟨(h.pay hj g4).setM i g1 ⟨by rw[g2];exact o1,by rw[g2,List.length_set];exact o2⟩,?_⟩;simp only[UF];rw[GT hj,Jo hi];omega
structure Yzd (P:List Int)(x0 x:List Zb×List Int)(k:Nat):Prop where
 l1:x.1.length=x0.1.length
 l2:x.2.length=x0.2.length
 b:Zy x.1 x.2
 t:tot x.2+tot (x.1.map Zb.bal)=tot x0.2+tot (x0.1.map Zb.bal)+Yy P k
 s:∀j,(gr ZQ x.1 j).status=(gr ZQ x0.1 j).status∧(gr ZQ x.1 j).owner=(gr ZQ x0.1 j).owner
theorem Yex {p:Ze}(ok:Zj p){W:List Nat}{P:List Int}{x:List Zb×List Int}(h:Zy x.1 x.2)(hW:∀i∈W,i<x.1.length)(hP:∀i,0≤at0 P i):∀k,k≤W.length→Yzd P x (mtK p W P x k) k
 | 0,_=>⟨rfl,rfl,h,by simp [mtK,Yy],fun _=>⟨rfl,rfl⟩⟩
 | k+1,hk=>by
  have ih:=Yex ok h hW hP k (by omega);have hi:W.getD k 0<x.1.length:=by
   rw[List.getD_eq_getElem?_getD,List.getElem?_eq_getElem (by omega),Option.getD_some];exact hW _ (List.getElem_mem _)
  have hi2:W.getD k 0<(mtK p W P x k).1.length:=by rw[ih.l1];exact hi
  have hl:=Yom p (W.getD k 0) (at0 P k) (mtK p W P x k);obtain⟨g1,g2⟩:=py_ok ok ih.b hi2 (hP k);refine⟨hl.1.trans ih.l1,hl.2.trans ih.l2,g1,?_,fun j=>?_⟩
  ·rw[Yy,← Int.add_assoc,← ih.t];exact g2
  ·rw[mtK];simp only[UF];rw[W9 hi2];obtain⟨e1,e2⟩:=ih.s j;split
   ·rename_i e;subst e;exact⟨e1,e2⟩
   ·exact⟨e1,e2⟩
theorem Zax {l:List Zb}{ks:List Int}{n i:Nat}(hi:i∈thI l ks n):i<n:=Zpd (List.mem_filter.1 hi).1
theorem Zaz {l:List Zb}{ks:List Int}{n i:Nat}(hi:i∈thI l ks n):Uu (gr ZQ l i)∧Vm ks i=true:=by
 have h1:=List.mem_filter.1 hi;have h2:=Ztn h1.1;simp only[VH,decide_eq_true_eq]at h2;exact⟨h2,h1.2⟩
theorem Jx {p:Ze}(ok:Zj p)(hr:YM p=true){m:Zb}(mo:Zf m)(mode:Int):Zf (Ua p m mode)∧0≤YR p m mode∧YR p m mode≤m.bal∧0≤WQ p (YR p m mode)∧WQ p (YR p m mode)≤YR p m mode:=by
 have hb:=mo.u m.bal (by simp);have he:=mo.u m.eff (by simp);have hs:=mo.u m.score (by simp);have hn1:=mo.n m.streak (by simp);have hn2:=mo.n m.owner (by simp);have hn3:=mo.n m.status (by simp);have hf:=Zli ok hr mo mode;have hps:=Z7 hr;have hbu:=Zvb (p:=p) (n:=YR p m mode) ⟨hf.1,by omega⟩ (by omega);refine⟨⟨fun z hz=>?_,fun z hz=>?_⟩,hf.1,hf.2,hbu.1,hbu.2.1⟩
 ·simp only[Ua,List.mem_cons,List.not_mem_nil,or_false]at hz;rcases hz with rfl|rfl|rfl<;>omega
 ·simp only[Ua,List.mem_cons,List.not_mem_nil,or_false]at hz;rcases hz with rfl|rfl|rfl<;>omega
theorem Zlz {p:Ze}(ok:Zj p)(hr:YM p=true)(ks:List Int)(mode:Int)(k:Nat){m:Zb}(mo:Zf m):Zf (fnF p ks mode k m):=by
 unfold fnF;split
 ·exact(Jx ok hr mo mode).1
 ·exact mo
theorem Ybx (p:Ze)(ks:List Int)(mode:Int)(k:Nat)(m:Zb):(fnF p ks mode k m).owner=m.owner∧(fnF p ks mode k m).status=m.status:=by
 unfold fnF;split
 ·exact⟨rfl,rfl⟩
 ·exact⟨rfl,rfl⟩
theorem Zkr {p:Ze}(ok:Zj p)(hr:YM p=true)(ks:List Int)(mode:Int){ms:List Zb}(hm:∀x∈ms,Zf x):∀k,k≤ms.length→0≤fnU p ks mode ms k∧fnU p ks mode ms k≤fnT p ks mode ms k∧fnT p ks mode ms k+tot ((upI (fnF p ks mode) ms k).map Zb.bal)=tot (ms.map Zb.bal)
 | 0,_=>⟨Int.le_refl _,Int.le_refl _,by simp [fnT,upI]⟩
 | k+1,hk=>by
  obtain⟨h1,h2,h3⟩:=Zkr ok hr ks mode hm k (by omega);have hl:=WW (fnF p ks mode) ms k;have hb:=Jo (ms:=upI (fnF p ks mode) ms k) (i:=k) (by omega) (fnF p ks mode k (gr ZQ ms k));rw[GV _ _ (by omega)]at hb;obtain⟨_,g1,g2,g3,g4⟩:=Jx ok hr (hm _ (Yq (z:=ZQ) (k:=k) (by omega))) mode;rw[upI,hb,fnT,fnU];by_cases c:fnC ks k (gr ZQ ms k)
  ·rw[if_pos c,if_pos c,fnF,if_pos c];refine⟨by omega,by omega,?_⟩;show _+(_+((gr ZQ ms k).bal-YR p (gr ZQ ms k) mode-_))=_;omega
  ·rw[if_neg c,if_neg c,fnF,if_neg c];exact⟨h1,h2,by omega⟩
theorem Yqi {f:Nat→Zb→Zb}(hf:∀k m,(f k m).owner=m.owner∧(f k m).status=m.status)(l:List Zb):∀k,k≤l.length→∀j,(gr ZQ (upI f l k) j).owner=(gr ZQ l j).owner∧(gr ZQ (upI f l k) j).status=(gr ZQ l j).status:=fun k hk j=>by
 rw[Zcf f l k hk j];split
 ·exact hf _ _
 ·exact⟨rfl,rfl⟩
theorem Zjr (p:Ze)(ks:List Int)(mode:Int)(k:Nat)(m:Zb):(wgF p ks mode k m).owner=m.owner∧(wgF p ks mode k m).status=m.status∧(wgF p ks mode k m).bal=m.bal∧(wgF p ks mode k m).eff=m.eff:=by
 unfold wgF Vc;split
 ·split
  ·exact⟨rfl,rfl,rfl,rfl⟩
  ·exact⟨rfl,rfl,rfl,rfl⟩
 ·exact⟨rfl,rfl,rfl,rfl⟩
theorem Yfn {m:Zb}(mo:Zf m){r:Int}(h0:0≤r∧r≤100):Zf (Ga m r):=by
 have hs:=mo.u m.score (by simp);have hn2:=mo.n m.owner (by simp);refine⟨fun z hz=>?_,fun z hz=>?_⟩
 ·simp only[Ga,List.mem_cons,List.not_mem_nil,or_false]at hz;rcases hz with rfl|rfl|rfl<;>omega
 ·simp only[Ga,List.mem_cons,List.not_mem_nil,or_false]at hz;rcases hz with rfl|rfl|rfl<;>omega
structure Yze (x0 x:List Zb×List Zg)(k:Nat):Prop where
 l1:x.1.length=x0.1.length
 m:∀y∈x.1,Zf y
 d:∀y∈x.2,Zs y
 n:x.2.length≤x0.2.length+k
 t:Wp x.2+tot (x.1.map Zb.bal)=Wp x0.2+tot (x0.1.map Zb.bal)
 o:∀j,(gr ZQ x.1 j).owner=(gr ZQ x0.1 j).owner
theorem JA {t:Int}(ht:0≤t∧t≤2147483647){m:Zb}(mo:Zf m):Zs (U8 t m):=by
 have hb:=mo.u m.bal (by simp);have hn:=mo.n m.owner (by simp)
 exact⟨hb,fun z hz=>by
  simp only[U8,List.mem_cons,List.not_mem_nil,or_false]at hz
  rcases hz with rfl|rfl<;>omega⟩
theorem Zxm {t:Int}(ht:0≤t∧t≤2147483647){W:List Int}{x:List Zb×List Zg}(hm:∀y∈x.1,Zf y)(hd:∀y∈x.2,Zs y)(hW:∀i∈W,0≤i∧i<x.1.length)(hT:Wp x.2+tot (x.1.map Zb.bal)≤4611686018427387904):∀k,k≤W.length→Yze x (lvK t W x k) k
 | 0,_=>⟨rfl,hm,hd,by simp [lvK],rfl,fun _=>rfl⟩
 | k+1,hk=>by
  have ih:=Zxm ht hm hd hW hT k (by omega);have hi:=hW (at0 W k) (by rw[← Yf (by omega)];exact List.getElem_mem (by omega));obtain⟨i,he⟩:=Int.eq_ofNat_of_zero_le hi.1;rw[lvK,he];have hi2:i<(lvK t W x k).1.length:=by rw[ih.l1];omega
  have mo:=ih.m _ (Yq (z:=ZQ) hi2);have hb:=mo.u (gr ZQ (lvK t W x k).1 i).bal (by simp);have hbt:=Yl (WD ih.m) i;rw[WV hi2]at hbt;have h3:=ih.t;obtain⟨d1,_,d3⟩:=Zkg (M:=Wp (lvK t W x k).2) (n:=x.2.length+k) ⟨ih.d,Int.le_refl _,ih.n⟩ (JA ht mo) (by show _+(gr ZQ (lvK t W x k).1 i).bal≤_;omega);refine⟨by simp only[G6,Int.toNat_natCast,List.length_set];exact ih.l1,fun y hy=>?_,d1,d3,?_,fun j=>?_⟩
  ·simp only[G6,Int.toNat_natCast]at hy;rcases List.mem_or_eq_of_mem_set hy with hy|rfl
   ·exact ih.m y hy
   ·exact Yfn mo (by decide)
  ·simp only[G6,Int.toNat_natCast];rw[GE,Jo hi2];show _+(gr ZQ (lvK t W x k).1 i).bal+(_+(0-_))=_;omega
  ·simp only[G6,Int.toNat_natCast];rw[W9 hi2];split
   ·rename_i e;subst e;exact ih.o j
   ·exact ih.o j
theorem Zfb {l:List Zg}{ps:List Int}(hp:∀i,0≤at0 ps i)(hl:∀x∈l,0≤x.acct∧x.acct<ps.length∧0≤x.amt):∀k,k≤l.length→(dpK l ps k).length=ps.length∧(∀i,0≤at0 (dpK l ps k) i)∧tot (dpK l ps k)=tot ps+Yy (l.map Zg.amt) k
 | 0,_=>⟨rfl,hp,by simp [dpK,Yy]⟩
 | k+1,hk=>by
  obtain⟨h1,h2,h3⟩:=Zfb hp hl k (by omega);have hx:=hl _ (Yq (z:=ZZ) (k:=k) (l:=l) (by omega));have hj:(gr ZZ l k).acct.toNat<(dpK l ps k).length:=by omega
  rw[dpK];refine⟨by rw[List.length_set];exact h1,Zij h2 hx.2.2 hj,?_⟩;rw[GT hj,Yy,Zip (by omega),h3];omega
theorem Zxx {l:List Int}(h0:∀i,0≤at0 l i){k:Nat}(hk:k≤l.length):0≤Yy l k∧Yy l k≤tot l:=⟨VA h0 k,JK h0 hk⟩
def Jd (ms:List Zb)(l:List Int)(st:Int):Prop:=l.Nodup∧∀z,z∈l↔∃j:Nat,z=j∧j<ms.length∧(gr ZQ ms j).status=st
theorem Vi {ms:List Zb}{l:List Int}{st:Int}(h:Jd ms l st){z:Int}(hz:z∈l):0≤z∧z<ms.length∧(gr ZQ ms z.toNat).status=st:=by
 obtain⟨j,rfl,h1,h2⟩:=(h.2 z).1 hz;exact⟨by omega,by omega,by simpa using h2⟩
theorem Yhg {ms:List Zb}{l:List Int}{st:Int}(h:Jd ms l st){j:Nat}(hj:j<ms.length)(e:(gr ZQ ms j).status=st):(j:Int)∈l:=(h.2 _).2 ⟨j,rfl,hj,e⟩
theorem Zux {l:List Int}{n:Nat}(hn:l.Nodup)(hl:∀z∈l,0≤z∧z<n):l.length≤n:=by
 have h0:((List.range n).map fun j:Nat=>(j:Int)).Nodup:=by
  rw[List.Nodup,List.pairwise_map];exact List.nodup_range.imp fun h e=>h (by omega)
 have h1:l.Perm (((List.range n).map fun j:Nat=>(j:Int)).filter fun z=>decide (z∈l)):=by
  refine(List.perm_ext_iff_of_nodup hn (h0.filter _)).2 fun z=>?_;rw[List.mem_filter,decide_eq_true_eq];refine⟨fun hz=>⟨?_,hz⟩,fun hz=>hz.2⟩;obtain⟨h2,h3⟩:=hl z hz;exact List.mem_map.2 ⟨z.toNat,List.mem_range.2 (by omega),by omega⟩
 rw[h1.length_eq];refine Nat.le_trans (List.length_filter_le _ _) ?_;rw[List.length_map,List.length_range];exact Nat.le_refl _
theorem V5 {ms:List Zb}{l:List Int}{st:Int}(h:Jd ms l st):l.length≤ms.length:=Zux h.1 fun z hz=>by
 have:=Vi h hz;omega
theorem row_iffB {s:Zd}{l:List Int}{st:Int}:Zqi s l st=true↔Jd s.members l st:=by
 constructor
 ·intro h;rw[Zqi,Bool.and_eq_true,decide_eq_true_eq]at h;obtain⟨h1,h2⟩:=h;have hp:l.Perm ((stL s.members st s.members.length).map fun j:Nat=>(j:Int)):=by
   refine Gu (GZ _ _ _) (fun x hx=>?_) ?_
   ·obtain⟨j,hj,rfl⟩:=List.mem_map.1 hx;rw[stL_mem]at hj;exact Ybr h1 hj.1 hj.2
   ·rw[List.length_map,h2,Zcx]
  refine⟨hp.nodup_iff.2 (GZ _ _ _),fun z=>?_⟩;rw[hp.mem_iff,List.mem_map]
  constructor
  ·rintro⟨j,hj,rfl⟩;rw[stL_mem]at hj;exact⟨j,rfl,hj.1,hj.2⟩
  ·rintro⟨j,rfl,h3,h4⟩;exact⟨j,stL_mem.2 ⟨h3,h4⟩,rfl⟩
 ·intro h;rw[Zqi,Bool.and_eq_true,decide_eq_true_eq];refine⟨G8 fun j hj e=>Yhg h hj e,?_⟩;rw[Zcx];have hp:l.Perm ((stL s.members st s.members.length).map fun j:Nat=>(j:Int)):=by
   refine(List.perm_ext_iff_of_nodup h.1 (GZ _ _ _)).2 fun z=>?_;rw[h.2 z,List.mem_map]
   constructor
   ·rintro⟨j,rfl,h3,h4⟩;exact⟨j,stL_mem.2 ⟨h3,h4⟩,rfl⟩
   ·rintro⟨j,hj,rfl⟩;rw[stL_mem]at hj;exact⟨j,rfl,hj.1,hj.2⟩
  rw[hp.length_eq,List.length_map]
theorem Zau {ms ms':List Zb}{l:List Int}{st:Int}(h:Jd ms l st)(hl:ms'.length=ms.length)(he:∀j,j<ms.length→((gr ZQ ms' j).status=st↔(gr ZQ ms j).status=st)):Jd ms' l st:=by
 refine⟨h.1,fun z=>(h.2 z).trans ?_⟩
 constructor
 ·rintro⟨j,e,h1,h2⟩;exact⟨j,e,by omega,(he j h1).2 h2⟩
 ·rintro⟨j,e,h1,h2⟩;exact⟨j,e,by omega,(he j (by omega)).1 h2⟩
theorem G3 {ms:List Zb}{l:List Int}{st:Int}(h:Jd ms l st){i:Nat}(hi:i<ms.length){m:Zb}(hm:m.status=st↔(gr ZQ ms i).status=st):Jd (ms.set i m) l st:=by
 refine Zau h (by simp) fun j hj=>?_;rw[W9 hi];split
 ·rename_i e;subst e;exact hm
 ·exact Iff.rfl
theorem Yff {ms:List Zb}{l:List Int}{st:Int}(h:Jd ms l st){i:Nat}(hi:i<ms.length){m:Zb}(h0:(gr ZQ ms i).status≠st)(hm:m.status=st):Jd (ms.set i m) (l++[(i:Int)]) st:=by
 have hni:(i:Int) ∉ l:=fun c=>h0 (by have:=(Vi h c).2.2;simpa using this);refine⟨?_,fun z=>?_⟩
 ·rw[List.nodup_append];refine⟨h.1,by simp,fun a ha b hb e=>hni ?_⟩;rw[List.mem_singleton]at hb;rw[← hb,← e];exact ha
 ·rw[List.mem_append,List.mem_singleton,h.2 z]
  constructor
  ·rintro(⟨j,rfl,h1,h2⟩ | rfl)
   ·refine⟨j,rfl,by simpa using h1,?_⟩;rw[W9 hi];split
    ·exact hm
    ·exact h2
   ·exact⟨i,rfl,by simpa using hi,by rw[W9 hi,if_pos rfl];exact hm⟩
  ·rintro⟨j,rfl,h1,h2⟩;rw[W9 hi]at h2;by_cases e:j=i
   ·right;rw[e]
   ·left
    rw[if_neg e]at h2;exact⟨j,rfl,by simpa using h1,h2⟩
theorem Zrb {ms:List Zb}{l:List Int}{st:Int}(h:Jd ms l st){i:Nat}(hi:i<ms.length){m:Zb}(hm:m.status≠st):Jd (ms.set i m) (flt l i) st:=by
 refine⟨h.1.filter _,fun z=>?_⟩;rw[flt,List.mem_filter,h.2 z,decide_eq_true_eq]
 constructor
 ·rintro⟨⟨j,rfl,h1,h2⟩,h3⟩;refine⟨j,rfl,by simpa using h1,?_⟩;rw[W9 hi,if_neg (fun e=>h3 (by rw[e]))];exact h2
 ·rintro⟨j,rfl,h1,h2⟩;rw[W9 hi]at h2;by_cases e:j=i
  ·rw[if_pos e]at h2;exact absurd h2 hm
  ·rw[if_neg e]at h2;exact⟨⟨j,rfl,by simpa using h1,h2⟩,fun c=>e (by omega)⟩
theorem Zig {ms:List Zb}{l:List Int}{st:Int}{i:Nat}(h:Jd ms ((i:Int)::l) st){m:Zb}(hm:m.status≠st):Jd (ms.set i m) l st:=by
 have hi:i<ms.length:=by have:=(Vi h (z:=i) (by simp)).2.1;omega
 have hn:=List.nodup_cons.1 h.1;refine⟨hn.2,fun z=>?_⟩;have hz:=h.2 z;rw[List.mem_cons]at hz
 constructor
 ·intro hzl;obtain⟨j,rfl,h1,h2⟩:=hz.1 (.inr hzl);refine⟨j,rfl,by simpa using h1,?_⟩;rw[W9 hi,if_neg (fun e=>hn.1 (by rw[← e];exact hzl))];exact h2
 ·rintro⟨j,rfl,h1,h2⟩;rw[W9 hi]at h2;by_cases e:j=i
  ·rw[if_pos e]at h2;exact absurd h2 hm
  ·rw[if_neg e]at h2;rcases hz.2 ⟨j,rfl,by simpa using h1,h2⟩ with c|c
   ·exact absurd (by omega) e
   ·exact c
theorem Zte {ms:List Zb}{m:Zb}{j:Nat}:gr ZQ (ms++[m]) j=if j=ms.length then m else gr ZQ ms j:=by
 by_cases e:j=ms.length
 ·rw[if_pos e,Z8 (by simp;omega)];subst e;rw[List.getElem_append_right (Nat.le_refl _)];simp
 ·rw[if_neg e];by_cases hj:j<ms.length
  ·rw[Z8 (by simp;omega),Z8 hj,List.getElem_append_left hj]
  ·rw[Zky (by simp;omega),Zky (by omega)]
theorem Zlj {ms:List Zb}{l:List Int}{st:Int}(h:Jd ms l st){m:Zb}(hm:m.status≠st):Jd (ms++[m]) l st:=by
 refine⟨h.1,fun z=>(h.2 z).trans ?_⟩
 constructor
 ·rintro⟨j,e,h1,h2⟩;exact⟨j,e,by simp;omega,by rw[Zte,if_neg (by omega)];exact h2⟩
 ·rintro⟨j,e,h1,h2⟩;rw[Zte]at h2;split at h2
  ·exact absurd h2 hm
  ·exact⟨j,e,by simp at h1;omega,h2⟩
theorem Zcy {p:Ze}(ok:Zj p){m:Zb}(mo:Zf m){a:Int}(ha:0≤a):Zf (UE p m a)∧(UE p m a).owner=m.owner∧(UE p m a).bal=m.bal+Wn p m a∧0≤Wn p m a∧Wn p m a≤a∧((UE p m a).status=m.status∨((m.status=4∨m.status=5)∧(UE p m a).status=1)):=by
 have hb:=mo.u m.bal (by simp);have he:=mo.u m.eff (by simp);have hs:=mo.u m.score (by simp);have hn1:=mo.n m.streak (by simp);have hn2:=mo.n m.owner (by simp);have hn3:=mo.n m.status (by simp);have hc:=ok.w p.cap (by simp [YN]);have hf:0≤Y2 p.cap m.bal∧(Y2 p.cap m.bal=0∨m.bal+Y2 p.cap m.bal=p.cap):=by unfold Y2;split<;>omega
 have ht:0≤Wn p m a∧Wn p m a≤a∧Wn p m a≤Y2 p.cap m.bal:=by unfold Wn;omega
 unfold UE;split
 ·rename_i c;refine⟨⟨fun z hz=>?_,fun z hz=>?_⟩,rfl,rfl,ht.1,ht.2.1,.inr ⟨c.2,rfl⟩⟩
  ·simp only[List.mem_cons,List.not_mem_nil,or_false]at hz;rcases hz with rfl|rfl|rfl<;>omega
  ·simp only[List.mem_cons,List.not_mem_nil,or_false]at hz;rcases hz with rfl|rfl|rfl<;>omega
 ·refine⟨⟨fun z hz=>?_,fun z hz=>?_⟩,rfl,rfl,ht.1,ht.2.1,.inl rfl⟩
  ·simp only[List.mem_cons,List.not_mem_nil,or_false]at hz;rcases hz with rfl|rfl|rfl<;>omega
  ·simp only[List.mem_cons,List.not_mem_nil,or_false]at hz;rcases hz with rfl|rfl|rfl<;>omega
structure ZH (ex:List Int)(x:ZM)(pn:Nat)(T:Int):Prop where
 b:Zy x.ms x.ps
 l1:x.ms.length≤128
 l2:x.ps.length=pn
 t:tot x.ps+tot (x.ms.map Zb.bal)=T
 e:Jd x.ms x.en 1
 x:Jd x.ms ex 3
theorem Zuq {p:Ze}(ok:Zj p){ex:List Int}{x:ZM}{pn:Nat}{T:Int}(h:ZH ex x pn T){i:Nat}(hi:i<x.ms.length){a acct:Int}(ha:0≤a)(h0:0≤acct∧acct<pn):ZH ex (Zlb p i a acct x) pn (T+a):=by
 obtain⟨mo,o1,o2⟩:=h.b.at hi;obtain⟨g1,g2,g3,g4,g5,g6⟩:=Zcy ok mo ha;have hj:acct.toNat<x.ps.length:=by have:=h.l2;omega
 have ht:=h.t;refine⟨(h.b.pay hj (by omega)).setM i g1 ⟨by rw[g2];exact o1,by rw[g2,List.length_set];exact o2⟩,by simp only[Zlb,List.length_set];exact h.l1,by simp only[Zlb,List.length_set];exact h.l2,?_,?_,?_⟩
 ·simp only[Zlb];rw[GT hj,Jo hi,g3];omega
 ·simp only[Zlb];rcases g6 with g6 | ⟨g6,g7⟩
  ·rw[if_pos g6];exact G3 h.e hi (by rw[g6])
  ·rw[if_neg (by rw[g7];omega)];exact Yff h.e hi (by omega) g7
 ·simp only[Zlb];refine G3 h.x hi ?_;rcases g6 with g6 | ⟨g6,g7⟩
  ·rw[g6]
  ·rw[g7];omega
theorem Zhw {p:Ze}(ok:Zj p){ex:List Int}{x:ZM}{pn:Nat}(hpn:pn≤9223372036854775807){T:Int}(h:ZH ex x pn T){d:Zo}(ha:0≤d.amt)(h0:0≤d.acct∧d.acct<pn)(hm:d.new=true∨(0≤d.mem∧d.mem<x.ms.length)):ZH ex (Ws p d x) pn (T+d.amt):=by
 have hj:d.acct.toNat<x.ps.length:=by have:=h.l2;omega
 have ht:=h.t;unfold Ws
 cases c:d.new with
 | true =>
  rw[if_pos rfl];by_cases c1:128≤x.ms.length
  ·rw[if_pos c1];refine⟨h.b.pay hj ha,h.l1,by simp only[List.length_set];exact h.l2,?_,h.e,h.x⟩;simp only;rw[GT hj];omega
  ·rw[if_neg c1];have hl:=h.l2;refine Zuq ok (x:=⟨x.ms++[⟨0,0,0,0,d.acct,4⟩],x.ps,x.en⟩) ⟨⟨fun y hy=>?_,fun y hy=>?_,h.b.p⟩,by simp only[List.length_append,List.length_singleton];omega,h.l2,?_,Zlj h.e (by simp),Zlj h.x (by simp)⟩ (i:=x.ms.length) (by simp) ha h0
   ·rcases List.mem_append.1 hy with hy|hy
    ·exact h.b.m y hy
    ·rw[List.mem_singleton]at hy;subst hy
     exact⟨fun z hz=>by simp at hz;omega,fun z hz=>by
      simp only[List.mem_cons,List.not_mem_nil,or_false]at hz
      rcases hz with rfl|rfl|rfl<;>omega⟩
   ·rcases List.mem_append.1 hy with hy|hy
    ·exact h.b.o y hy
    ·rw[List.mem_singleton]at hy;subst hy;simp only;omega
   ·simp only[List.map_append,List.map_cons,List.map_nil,Gc,Wq,Zkm];omega
 | false =>
  rw[if_neg (by decide)];rcases hm with hm|hm
  ·rw[c]at hm;cases hm
  ·exact Zuq ok h (by omega) ha h0
theorem Zoc {p:Ze}(d:Zo)(x:ZM):x.ms.length≤(Ws p d x).ms.length:=by
 unfold Ws;split
 ·split
  ·exact Nat.le_refl _
  ·simp [Zlb]
 ·simp [Zlb]
theorem Ydl {p:Ze}(ok:Zj p){ex:List Int}{x:ZM}{pn:Nat}(hpn:pn≤9223372036854775807){T:Int}(h:ZH ex x pn T){l:List Zo}(hl:∀d∈l,0≤d.amt∧0≤d.acct∧d.acct<pn∧(d.new=true∨(0≤d.mem∧d.mem<x.ms.length))) :
  ∀k,k≤l.length→ZH ex (crK p l x k) pn (T+Yy (l.map Zo.amt) k)∧x.ms.length≤(crK p l x k).ms.length
 | 0,_=>⟨by simpa [crK,Yy] using h,Nat.le_refl _⟩
 | k+1,hk=>by
  obtain⟨h1,h2⟩:=Ydl ok hpn h hl k (by omega);obtain⟨d1,d2,d3,d4⟩:=hl _ (Yq (z:=YT) (k:=k) (l:=l) (by omega));have e:at0 (l.map Zo.amt) k=(gr YT l k).amt:=by rw[Z8 (by omega),← Yf (by rw[List.length_map];omega),List.getElem_map]
  refine⟨?_,Nat.le_trans h2 (Zoc _ _)⟩;rw[Yy,e,← Int.add_assoc];exact Zhw ok hpn h1 d1 ⟨d2,d3⟩ (d4.imp id fun d4=>⟨d4.1,by omega⟩)
theorem Zhn {p:Ze}(ok:Zj p)(hr:YM p=true){m:Zb}(mo:Zf m):Zf (WU p m).1∧(WU p m).1.owner=m.owner∧(WU p m).1.bal=m.bal∧((WU p m).2=true→(WU p m).1.status=2∧m.status=1):=by
 have hb:=mo.u m.bal (by simp);have he:=mo.u m.eff (by simp);have hs:=mo.u m.score (by simp);have hn1:=mo.n m.streak (by simp);have hn2:=mo.n m.owner (by simp);have hn3:=mo.n m.status (by simp);have hw:=Zap (J6 hr) ok hb;unfold WU;split
 ·rename_i c;refine⟨⟨fun z hz=>?_,fun z hz=>?_⟩,rfl,rfl,fun _=>⟨rfl,c.1⟩⟩
  ·simp only[List.mem_cons,List.not_mem_nil,or_false]at hz;rcases hz with rfl|rfl|rfl<;>omega
  ·simp only[List.mem_cons,List.not_mem_nil,or_false]at hz;rcases hz with rfl|rfl|rfl<;>omega
 ·exact⟨mo,rfl,rfl,fun h=>by cases h⟩
structure Yyo (W rest:List Int)(x0 x:StX)(pn k:Nat):Prop where
 l1:x.ms.length=x0.ms.length
 m:∀y∈x.ms,Zf y
 o:∀y∈x.ms,0≤y.owner∧y.owner<pn
 d:∀y∈x.ds,Zs y
 n:x.ds.length≤x0.ds.length+k
 t:Wp x.ds+tot (x.ms.map Zb.bal)=Wp x0.ds+tot (x0.ms.map Zb.bal)
 e:Jd x.ms (W.drop k++rest) 1
 rx:Jd x.ms x.ex 3
 u:x.out.length≤x0.out.length+k
 g:x.go.length≤x0.go.length+k
theorem Yep {p:Ze}(ok:Zj p)(hr:YM p=true){t:Int}(ht:0≤t∧t≤2147483647){W rest:List Int}{x:StX}{pn:Nat}(h:Yyo W rest x x pn 0)(hT:Wp x.ds+tot (x.ms.map Zb.bal)≤4611686018427387904):∀k,k≤W.length→Yyo W rest x (stK p t W x k) pn k
 | 0,_=>h
 | k+1,hk=>by
  have ih:=Yep ok hr ht h hT k (by omega);have hd:W.drop k=at0 W k::W.drop (k+1):=by rw[List.drop_eq_getElem_cons (by omega),Yf (by omega)]
  have hin:=Vi ih.e (z:=at0 W k) (by rw[hd];simp);obtain⟨i,he⟩:=Int.eq_ofNat_of_zero_le hin.1;rw[he]at hin hd;rw[Int.toNat_natCast]at hin;rw[stK,he,Int.toNat_natCast];have hi:i<(stK p t W x k).ms.length:=by omega
  have ie:=ih.e;rw[hd,List.cons_append]at ie;have mo:=ih.m _ (Yq (z:=ZQ) hi);have oo:=ih.o _ (Yq (z:=ZQ) hi);obtain⟨g1,g2,g3,g4⟩:=Zhn ok hr mo;have hb:=mo.u (gr ZQ (stK p t W x k).ms i).bal (by simp);have hbt:=Yl (WD ih.m) i;rw[WV hi]at hbt;have h3:=ih.t;have hn:=ih.n;have hu:=ih.u;have hg:=ih.g;unfold Jg
  cases c:(WU p (gr ZQ (stK p t W x k).ms i)).2 with
  | true =>
   obtain⟨s1,s2⟩:=g4 c;rw[if_pos rfl];refine⟨by simp only[List.length_set];exact ih.l1,fun y hy=>?_,fun y hy=>?_,ih.d,by simp only;omega,?_,Zig ie (by omega),G3 ih.rx hi (by omega),by simp only;omega,by simp only[List.length_append,List.length_singleton];omega⟩
   ·rcases List.mem_or_eq_of_mem_set hy with hy|rfl
    ·exact ih.m y hy
    ·exact g1
   ·rcases List.mem_or_eq_of_mem_set hy with hy|rfl
    ·exact ih.o y hy
    ·rw[g2];exact oo
   ·simp only;rw[Jo hi,g3];omega
  | false =>
   rw[if_neg (by decide)];obtain⟨d1,_,d3⟩:=Zkg (M:=Wp (stK p t W x k).ds) (n:=x.ds.length+k) ⟨ih.d,Int.le_refl _,ih.n⟩ (JA ht mo) (by show _+(gr ZQ (stK p t W x k).ms i).bal≤_;omega);refine⟨by simp only[List.length_set];exact ih.l1,fun y hy=>?_,fun y hy=>?_,d1,d3,?_,Zig ie (by simp [Zqu]),Zrb ih.rx hi (by simp [Zqu]),by simp only[List.length_append,List.length_singleton];omega,by simp only;omega⟩
   ·rcases List.mem_or_eq_of_mem_set hy with hy|rfl
    ·exact ih.m y hy
    ·exact Zue mo
   ·rcases List.mem_or_eq_of_mem_set hy with hy|rfl
    ·exact ih.o y hy
    ·exact oo
   ·simp only;rw[GE,Jo hi];show _+(gr ZQ (stK p t W x k).ms i).bal+(_+(0-_))=_;omega
structure ZC (pn:Nat)(m:Zn):Prop where
 ok:Yyt m
 f:UA m=true
 a:0≤m.acct∧m.acct<pn
 t:0≤m.to∧m.to<pn
theorem motFits_iff {m:Zn}:UA m=true↔WL m=true∧VN m=true∧Zhz m.yes 128=true∧Zhz m.no 128=true∧(if m.what=1 then YM m.par else decide (m.par=Zxj))=true:=by
 simp only[UA,Bool.and_eq_true,and_assoc]
theorem ZC.state {pn:Nat}{m:Zn}(h:ZC pn m){st:Int}(hs:1≤st∧st≤4){due:Int}(hd:0≤due∧due≤2147483647):ZC pn { m with state:=st,due:=due }:=by
 obtain⟨f1,f2,f3,f4,f5⟩:=motFits_iff.1 h.f;refine⟨⟨h.ok.a,fun z hz=>?_,h.ok.p⟩,motFits_iff.2 ⟨?_,?_,f3,f4,f5⟩,h.a,h.t⟩
 ·have hn:=h.ok.n;simp only[List.forall_mem_cons]at hn;simp only[List.mem_cons,List.not_mem_nil,or_false]at hz;rcases hz with rfl|rfl|rfl|rfl|rfl|rfl<;>omega
 ·simp only[WL,Bool.and_eq_true,wi_iff]at f1 ⊢;exact⟨f1.1,hs⟩
 ·simp only[VN,Bool.and_eq_true,wi_iff]at f2 ⊢;exact⟨⟨f2.1.1,hd⟩,f2.2⟩
theorem ZC.fin {pn:Nat}{m:Zn}(h:ZC pn m)(b:Bool):ZC pn (Zqv m b):=by
 obtain⟨f1,f2,f3,f4,f5⟩:=motFits_iff.1 h.f;simp only[VN,Bool.and_eq_true,wi_iff]at f2;exact h.state (by cases b<;>decide) f2.1.2
theorem Zxy {pn:Nat}{p:Ze}(hp:0≤p.enact){ms:List Zb}{ep:Int}(he:0≤ep){m:Zn}(h:ZC pn m):ZC pn (G0 p ms ep m):=by
 unfold G0;split
 ·split
  ·exact h.state (by decide) (by omega)
  ·obtain⟨f1,f2,f3,f4,f5⟩:=motFits_iff.1 h.f;simp only[VN,Bool.and_eq_true,wi_iff]at f2;exact h.state (by decide) f2.1.2
 ·exact h
theorem Zug {l:List Zn}{i j:Nat}{m:Zn}(hi:i<l.length):gr Yc (l.set i m) j=if j=i then m else gr Yc l j:=by
 by_cases e:j=i
 ·subst e;rw[Z8 (by simpa using hi),if_pos rfl,List.getElem_set_self]
 ·rw[if_neg e];by_cases hj:j<l.length
  ·rw[Z8 (by simpa using hj),Z8 hj,List.getElem_set_ne (Ne.symm e)]
  ·unfold gr;rw[List.getD_eq_getElem?_getD,List.getD_eq_getElem?_getD,List.getElem?_eq_none (by simpa using hj),List.getElem?_eq_none (by omega)]
structure Yyr (W:List Int)(x0 x:MoX)(k:Nat):Prop where
 r:YM x.par=true
 ok:Zj x.par
 tr:0≤x.tr
 l2:x.ps.length=x0.ps.length
 p:∀i,0≤at0 x.ps i
 t:tot x.ps+x.tr=tot x0.ps+x0.tr
 n:x.mo.length=x0.mo.length
 m:∀m∈x.mo,ZC x0.ps.length m
 s:∀j,k≤j→j<W.length→(gr Yc x.mo (at0 W j).toNat).state=2
 d:x.dn.length≤x0.dn.length+k
theorem Zwm {W:List Int}{x0 x:MoX}{k:Nat}(h:Yyr W x0 x k)(hW:W.Nodup)(hr:∀z∈W,0≤z∧z<x0.mo.length)(hk:k<W.length):Yyr W x0 (Zga (at0 W k).toNat x) (k+1):=by
 have hmem:at0 W k∈W:=by rw[← Yf hk];exact List.getElem_mem hk
 have hin:=hr _ hmem;obtain⟨i,he⟩:=Int.eq_ofNat_of_zero_le hin.1;rw[he]at hin;rw[he,Int.toNat_natCast];have hi:i<x.mo.length:=by have:=h.n;omega
 obtain⟨m,hm⟩:∃m,m=gr Yc x.mo i:=⟨_,rfl⟩
 have hmr:ZC x0.ps.length m:=by rw[hm];exact h.m _ (Yq hi)
 have ht:=h.t;have htr:=h.tr;have hl:=h.l2;have hmo:∀b,∀m'∈x.mo.set i (Zqv m b),ZC x0.ps.length m':=fun b m' hm'=>by
  rcases List.mem_or_eq_of_mem_set hm' with hm' | rfl
  ·exact h.m _ hm'
  ·exact hmr.fin b
 have hst:∀b,∀j,k+1≤j→j<W.length→(gr Yc (x.mo.set i (Zqv m b)) (at0 W j).toNat).state=2:=fun b j h1 h2=>by
  rw[Zug hi,if_neg]
  ·exact h.s j (by omega) h2
  ·intro e;have hz:=hr (at0 W j) (by rw[← Yf h2];exact List.getElem_mem h2);have e2:at0 W j=at0 W k:=by rw[he];omega
   rw[← Yf h2,← Yf hk]at e2;exact List.pairwise_iff_getElem.1 hW k j hk h2 (by omega) e2.symm
 have hd:=h.d;have hdn:∀b:Bool,(if b then x.dn++[(i:Int)] else x.dn).length≤x0.dn.length+(k+1):=fun b=>by
  cases b
  ·simp only[Bool.false_eq_true,if_false];omega
  ·simp only[if_true,List.length_append,List.length_singleton];omega
 rw[Zga,← hm];obtain⟨f1,f2,f3,f4,f5⟩:=motFits_iff.1 hmr.f;have ha:=hmr.ok.a;unfold WG;split
 ·exact⟨h.r,h.ok,h.tr,h.l2,h.p,h.t,by simp only[List.length_set];exact h.n,hmo _,hst _,hdn _⟩
 ·split
  ·exact⟨h.r,h.ok,h.tr,h.l2,h.p,h.t,by simp only[List.length_set];exact h.n,hmo _,hst _,hdn _⟩
  ·split
   ·rename_i c;rw[if_pos c]at f5;exact⟨f5,hmr.ok.p,h.tr,h.l2,h.p,h.t,by simp only[List.length_set];exact h.n,hmo _,hst _,hdn _⟩
   ·split
    ·rename_i c;have hj:m.to.toNat<x.ps.length:=by have:=hmr.t;omega
     refine⟨h.r,h.ok,by simp only;omega,by simp only[List.length_set];exact h.l2,Zij h.p ha.1 hj,?_,by simp only[List.length_set];exact h.n,hmo _,hst _,hdn _⟩;simp only;rw[GT hj];omega
    ·exact⟨h.r,h.ok,h.tr,h.l2,h.p,h.t,by simp only[List.length_set];exact h.n,hmo _,hst _,hdn _⟩
theorem Yds {W:List Int}{x:MoX}(h:Yyr W x x 0)(hW:W.Nodup)(hr:∀z∈W,0≤z∧z<x.mo.length):∀k,k≤W.length→Yyr W x (moK W x k) k
 | 0,_=>h
 | k+1,hk=>Zwm (Yds h hW hr k (by omega)) hW hr (by omega)
theorem Ziu (ms:List Zn)(now:Int)(qu:Bool)(k:Nat):(Vd ms now qu k).Nodup:=by
 unfold Vd;rw[List.Nodup,List.pairwise_map];exact(List.Nodup.sublist List.filter_sublist List.nodup_range).imp fun h e=>h (by omega)
theorem Zib {ms:List Zn}{now:Int}{qu:Bool}{k:Nat}{z:Int}(hz:z∈Vd ms now qu k):(gr Yc ms z.toNat).state=2:=by
 obtain⟨i,hi,rfl⟩:=List.mem_map.1 hz;have:=(List.mem_filter.1 hi).2;simp only[Zbj,Bool.and_eq_true,decide_eq_true_eq]at this
 simpa using this.1
structure Zp (s:Zd)(D:Nat):Prop where
 r:YM s.par=true
 ok:ZA s
 ep:0≤s.ep∧s.ep<1073741824
 be:Zy s.members s.purses
 ml:s.members.length≤128
 pl:s.purses.length≤64
 en:Jd s.members s.entry 1
 ex:Jd s.members s.exit 3
 dd:∀x∈s.dues,Zs x∧0≤x.acct∧x.acct<s.purses.length
 dn:s.dues.length≤D
 oo:∀d∈s.pool,ZL d∧0≤d.acct∧d.acct<s.purses.length∧(d.new=true∨(0≤d.mem∧d.mem<s.members.length))
 on:s.pool.length≤256
 mm:∀m∈s.motions,ZC s.purses.length m
 mn:s.motions.length≤32
 mon:tot s.purses+tot (s.members.map Zb.bal)+Wp s.dues+tot (s.pool.map Zo.amt)+s.treas+s.burn=s.gen+s.mint
 top:s.gen+s.mint≤s.most∧s.most≤4611686018427387904
theorem ZA.set {s:Zd}(h:ZA s){par:Ze}(hp:Zj par){mint burn treas ep calm:Int}{most gen:Int}(h1:0≤most∧most≤18446744073709551615)(h2:0≤gen∧gen≤18446744073709551615)(h3:0≤mint∧mint≤18446744073709551615)(h4:0≤burn∧burn≤18446744073709551615)(h5:0≤treas∧treas≤18446744073709551615)(h6 : -9223372036854775808≤ep∧ep≤9223372036854775807)(h7 : -9223372036854775808≤calm∧calm≤9223372036854775807)
  {emer:Bool} {purses:List Int} {members:List Zb} {entry exit:List Int} {pool:List Zo} {dues:List Zg} {motions:List Zn} {marks:List Int} {ring:List (List Int)}:ZA ⟨par,most,gen,mint,burn,treas,ep,calm,emer,purses,members,entry,exit,pool,dues,motions,marks,ring⟩ :=
 ⟨hp,fun z hz=>by
  simp only[List.mem_cons,List.not_mem_nil,or_false]at hz;rcases hz with rfl|rfl|rfl|rfl|rfl<;>assumption,fun z hz=>by
  simp only[List.mem_cons,List.not_mem_nil,or_false]at hz
  rcases hz with rfl|rfl<;>assumption⟩
theorem ZA.all {s:Zd}(h:ZA s):(0≤s.most∧s.most≤18446744073709551615)∧(0≤s.gen∧s.gen≤18446744073709551615)∧(0≤s.mint∧s.mint≤18446744073709551615)∧(0≤s.burn∧s.burn≤18446744073709551615)∧(0≤s.treas∧s.treas≤18446744073709551615)∧(-9223372036854775808≤s.ep∧s.ep≤9223372036854775807)∧(-9223372036854775808≤s.calm∧s.calm≤9223372036854775807):=by
 have hu:=h.u;have hn:=h.n;simp only[List.forall_mem_cons]at hu hn;exact⟨hu.1,hu.2.1,hu.2.2.1,hu.2.2.2.1,hu.2.2.2.2.1,hn.1,hn.2.1⟩
theorem Zp.parts {s:Zd}{D:Nat}(h:Zp s D):0≤tot s.purses∧0≤tot (s.members.map Zb.bal)∧0≤Wp s.dues∧0≤tot (s.pool.map Zo.amt)∧0≤s.treas∧0≤s.burn :=
 ⟨h.be.pur,h.be.bal,Yu (Zep fun x hx=>(h.dd x hx).1),Yu (V2 Zo.amt s.pool fun x hx=>(h.oo x hx).1.a.1),(h.ok.u _ (by simp)).1,(h.ok.u _ (by simp)).1⟩
theorem Zp.sum {s:Zd}{D:Nat}(h:Zp s D):tot s.purses+tot (s.members.map Zb.bal)+Wp s.dues+tot (s.pool.map Zo.amt)+s.treas+s.burn≤4611686018427387904:=by
 have:=h.mon;have:=h.top;omega
theorem fitsT_iff {s:Zd}:WK s=true↔YM s.par=true∧wi s.ep 0 1073741824=true∧wi s.calm 0 1073741824=true∧J0 s=true∧Vo s=true∧Zby s=true∧UV s=true∧Zgk s=true∧WY s=true:=by
 simp only[WK,Bool.and_eq_true,and_assoc]
theorem acctT_iff {s:Zd}{i:Int}:V3 s i=true↔0≤i∧i<s.purses.length:=by
 rw[V3,wi_iff];omega
theorem Yhb {h:PH}{v:SV}{s:Zd}(hs:Zr h v s)(hf:WK s=true)(he:s.ep<1073741824){D:Nat}(hd:s.dues.length≤D):Zp s D:=by
 obtain⟨be,hr,hep,hlen,htot⟩:=Yib hs hf;obtain⟨f1,f2,f3,f4,f5,f6,f7,f8,f9⟩:=fitsT_iff.1 hf;simp only[Vo,Bool.and_eq_true]at f5;have f53:=row_iffB.1 f5.1.2;have f54:=row_iffB.1 f5.2;simp only[Zby,Bool.and_eq_true,List.all_eq_true,decide_eq_true_eq,Zpv,Znq,List.mem_range]at f6;simp only[UV,Bool.and_eq_true,List.all_eq_true,decide_eq_true_eq]at f7;simp only[WY,Bool.and_eq_true,decide_eq_true_eq,Zrn,Zyf,Zyl,Zbp,Zyo]at f9;obtain⟨q,t1,t2,t3⟩:=hs.t;refine⟨f1,hs.ok,⟨hep.1,he⟩,⟨be.m,be.o,be.p⟩,hlen.2,hlen.1,f53,f54,fun x hx=>⟨hs.dd x hx,?_⟩,hd,fun d hd=>⟨hs.oo d hd,?_⟩,f6.1.1,fun m hm=>?_,f7.1,?_,⟨f9.1.1,f9.1.2⟩⟩
 ·obtain⟨k,hk,rfl⟩:=List.mem_iff_getElem.1 hx;have:=(f6.2 k hk).1.1;rw[Z8 hk]at this;simp only[Zbl,Bool.and_eq_true]at this;exact acctT_iff.1 this.1.1.1
 ·have:=f6.1.2 d hd;simp only[Zbi,Bool.and_eq_true,Bool.or_eq_true,wi_iff]at this;have h2:=acctT_iff.1 this.1.2;exact⟨h2.1,h2.2,this.2.imp id fun c=>by omega⟩
 ·have:=f7.2 m hm;have h1:=acctT_iff.1 this.1.2;have h2:=acctT_iff.1 this.2;refine⟨?_,this.1.1,h1,h2⟩;rw[← t2]at hm;obtain⟨y,hy,rfl⟩:=List.mem_map.1 hm;exact(t3 y hy).ok
 ·have e:Wp s.dues=tot (s.dues.map Zg.amt):=rfl;have q4:tot (s.members.map Zb.bal)+tot s.purses+tot (s.pool.map Zo.amt)+tot (s.dues.map Zg.amt)+s.treas+s.burn=s.gen+s.mint:=by first|exact f9.2|exact of_decide_eq_true f9.2
  rw[e];omega
theorem Zuw {f:Nat→Zb→Zb}(hf:∀k m,(f k m).bal=m.bal)(l:List Zb):∀k,k≤l.length→(upI f l k).map Zb.bal=l.map Zb.bal
 | 0,_=>rfl
 | k+1,hk=>by
  have e:(gr ZQ l k).bal=(l.map Zb.bal)[k]'(by rw[List.length_map];omega):=by rw[List.getElem_map,Z8 hk]
  rw[upI,List.map_set,Zuw hf l k (by omega),hf,e,List.set_getElem_self]
theorem Zy.upI {f:Nat→Zb→Zb}(hf:∀k m,Zf m→Zf (f k m)∧(f k m).owner=m.owner){l:List Zb}{ps:List Int}(h:Zy l ps){k:Nat}(hk:k≤l.length):Zy (upI f l k) ps:=by
 have:=Zaq (f:=f) (l:=l) (fun m=>Zf m∧0≤m.owner∧m.owner<ps.length) (fun k m hm=>⟨(hf k m hm.1).1,by rw[(hf k m hm.1).2];exact hm.2⟩) (fun m hm=>⟨h.m m hm,h.o m hm⟩) k hk;exact⟨fun m hm=>(this m hm).1,fun m hm=>(this m hm).2,h.p⟩
theorem Zy.upN {f:Zb→Zb}(hf:∀m,Zf m→Zf (f m)∧(f m).owner=m.owner){l:List Zb}{ps:List Int}(h:Zy l ps){k:Nat}(hk:k≤l.length):Zy (upN f l k) ps:=by
 have:=Zhs (f:=f) (l:=l) (fun m=>Zf m∧0≤m.owner∧m.owner<ps.length) (fun m hm=>⟨(hf m hm.1).1,by rw[(hf m hm.1).2];exact hm.2⟩) (fun m hm=>⟨h.m m hm,h.o m hm⟩) k hk;exact⟨fun m hm=>(this m hm).1,fun m hm=>(this m hm).2,h.p⟩
theorem Zdy {f:Nat→Zb→Zb}(hf:∀k m,(f k m).status=m.status){l:List Zb}{q:List Int}{st:Int}(h:Jd l q st){k:Nat}(hk:k≤l.length):Jd (upI f l k) q st :=
 Zau h (WW f l k) fun j _=>by
  rw[Zcf f l k hk j];split
  ·rw[hf]
  ·exact Iff.rfl
theorem Ygk {calm pr ac:Int}:0≤(VJ calm pr ac).1∧(VJ calm pr ac).1≤1073741824:=by
 unfold VJ;split
 ·decide
 ·simp only;omega
theorem Zhd {s:Zd}{D:Nat}(h:Zp s D):Zp (wgS s) D:=by
 have hl:(wgS s).members.length=s.members.length:=WW _ _ _;obtain⟨a1,a2,a3,a4,a5,a6,a7⟩:=h.ok.all;have hc:=Ygk (calm:=s.calm) (pr:=GR s) (ac:=Y7 s);have hb:(wgS s).members.map Zb.bal=s.members.map Zb.bal:=Zuw (fun k m=>(Zjr _ _ _ k m).2.2.1) _ _ (Nat.le_refl _);refine⟨h.r,ZA.set h.ok h.ok.p a1 a2 a3 a4 a5 a6 (by omega),h.ep,Zy.upI (fun k m hm=>⟨Ydz h.ok.p h.r _ _ k hm,(Zjr _ _ _ k m).1⟩) h.be (Nat.le_refl _),by rw[hl];exact h.ml,h.pl,Zdy (fun k m=>(Zjr _ _ _ k m).2.1) h.en (Nat.le_refl _),Zdy (fun k m=>(Zjr _ _ _ k m).2.1) h.ex (Nat.le_refl _),h.dd,h.dn,fun d hd=>?_,h.on,h.mm,h.mn,?_,h.top⟩
 ·rw[hl];exact h.oo d hd
 ·rw[hb];exact h.mon
theorem Yla {s:Zd}{D:Nat}(h:Zp s D){r:Zi}(ha:0≤r.act∧r.act≤18446744073709551615):0≤mtN s r∧s.gen+s.mint+mtN s r≤s.most:=by
 have:=h.top;have hb:=Yig h.ok.p ha;unfold mtN JO;split
 ·omega
 ·rename_i c;omega
theorem Ydp {s:Zd}{D:Nat}(h:Zp s D)(k:Nat)(hk:k≤s.members.length):∀x∈mtL s k,Zf x:=fun x hx=>by
 obtain⟨j,hj,rfl⟩:=List.mem_map.1 hx;exact h.be.m _ (Yq (by have:=Zax hj;omega))
theorem Ygn {s:Zd}{D:Nat}(h:Zp s D){r:Zi}(ha:0≤r.act∧r.act≤18446744073709551615):(∀i,0≤at0 (mtP s r) i∧at0 (mtP s r) i≤mtN s r)∧(mtP s r).length=(mtW s).length∧∀k,k≤(mtP s r).length→0≤Yy (mtP s r) k∧Yy (mtP s r) k≤mtN s r:=by
 have hn:=(Yla h ha).1;have hm:=Ydp h s.members.length (Nat.le_refl _);refine⟨fun i=>G1 h.r hn hm i,by rw[mtP,Vs,mtL,List.length_map];rfl,fun k hk=>?_⟩;rw[mtP,Vs]at hk;exact Zni hn (fun i=>V2 (YX s.par) _ (fun x hx=>(Ypz h.r (hm x hx)).1) i) (by rw[List.length_map];exact hk)
theorem Ydm {s:Zd}:∀i∈mtW s,i<s.members.length:=fun i hi=>Zax hi
theorem Ykw {s:Zd}{D:Nat}(h:Zp s D){r:Zi}(ha:0≤r.act∧r.act≤18446744073709551615){k:Nat}(hk:k≤(mtW s).length):Yzd (mtP s r) (s.members,s.purses) (mtX s r k) k :=
 Yex h.ok.p h.be Ydm (fun i=>((Ygn h ha).1 i).1) k hk
theorem Zku {s:Zd}{D:Nat}(h:Zp s D){r:Zi}(ha:0≤r.act∧r.act≤18446744073709551615){k:Nat}(hk:k≤(mtW s).length):Zp (Zew s r k) D:=by
 have hx:=Ykw h ha hk;obtain⟨hn,hn2⟩:=Yla h ha;obtain⟨_,p2,p3⟩:=Ygn h ha;have hp:=p3 k (by omega);obtain⟨a1,a2,a3,a4,a5,a6,a7⟩:=h.ok.all;obtain⟨b1,b2,b3,b4,b5,b6⟩:=h.parts;have hs:=h.sum;have ht:=h.top;have hm:=h.mon;have l1:(Zew s r k).members.length=s.members.length:=hx.l1;have l2:(Zew s r k).purses.length=s.purses.length:=hx.l2;have e:tot (mtX s r k).2+tot ((mtX s r k).1.map Zb.bal)=tot s.purses+tot (s.members.map Zb.bal)+Yy (mtP s r) k:=hx.t;refine⟨h.r,ZA.set h.ok h.ok.p a1 a2 (by omega) a4 (by omega) a6 a7,h.ep,hx.b,by rw[l1];exact h.ml,by rw[l2];exact h.pl,Zau h.en l1 (fun j _=>by rw[show (gr ZQ (Zew s r k).members j).status=_ from(hx.s j).1]),Zau h.ex l1 (fun j _=>by rw[show (gr ZQ (Zew s r k).members j).status=_ from(hx.s j).1]),fun x hx=>by rw[l2];exact h.dd x hx,h.dn,fun d hd=>by rw[l1,l2];exact h.oo d hd,h.on,fun m hm=>by rw[l2];exact h.mm m hm,h.mn,?_,?_⟩
 ·show tot (mtX s r k).2+tot ((mtX s r k).1.map Zb.bal)+Wp s.dues+tot (s.pool.map Zo.amt)+(s.treas+mtN s r-Yy (mtP s r) k)+s.burn=s.gen+(s.mint+mtN s r);omega
 ·show s.gen+(s.mint+mtN s r)≤s.most∧_;exact⟨by omega,ht.2⟩
theorem Zqj {s:Zd}{D:Nat}(h:Zp s D){r:Zi}(ha:0≤r.act∧r.act≤18446744073709551615):Zp (mtS s r) D:=Zku h ha (Nat.le_refl _)
theorem Ypc {s:Zd}{D:Nat}(h:Zp s D)(r:Zi){k:Nat}(hk:k≤s.members.length):0≤GF s r k∧GF s r k≤Zbo s r k∧Zbo s r k+tot ((upI (fnF s.par s.marks r.mode) s.members k).map Zb.bal)=tot (s.members.map Zb.bal):=Zkr h.ok.p h.r _ _ h.be.m k hk
theorem Zme {s:Zd}{D:Nat}(h:Zp s D)(r:Zi){k:Nat}(hk:k≤s.members.length):Zp (Uv s r k) D:=by
 have hl:(Uv s r k).members.length=s.members.length:=WW _ _ _;obtain⟨a1,a2,a3,a4,a5,a6,a7⟩:=h.ok.all;obtain⟨b1,b2,b3,b4,b5,b6⟩:=h.parts;have hs:=h.sum;obtain⟨c1,c2,c3⟩:=Ypc h r hk;have hbe:Zy (Uv s r k).members s.purses:=Zy.upI (fun k m hm=>⟨Zlz h.ok.p h.r _ _ k hm,(Ybx _ _ _ k m).1⟩) h.be hk;have c4:=hbe.bal;have c5:tot ((Uv s r k).members.map Zb.bal)=tot ((upI (fnF s.par s.marks r.mode) s.members k).map Zb.bal):=rfl;have hm:=h.mon;refine⟨h.r,ZA.set h.ok h.ok.p a1 a2 a3 a4 (by omega) a6 a7,h.ep,hbe,by rw[hl];exact h.ml,h.pl,Zdy (fun k m=>(Ybx _ _ _ k m).2) h.en hk,Zdy (fun k m=>(Ybx _ _ _ k m).2) h.ex hk,h.dd,h.dn,fun d hd=>by rw[hl];exact h.oo d hd,h.on,h.mm,h.mn,?_,h.top⟩;show tot s.purses+tot ((Uv s r k).members.map Zb.bal)+Wp s.dues+tot (s.pool.map Zo.amt)+(s.treas+Zbo s r k)+s.burn=s.gen+s.mint;omega
theorem Ynl {s:Zd}{D:Nat}(h:Zp s D){r:Zi}(hr:r.burned=0):Yea (Uv s r s.members.length) (fnR s r s.members.length).burned:=by
 obtain⟨a1,a2,a3,a4,a5,a6,a7⟩:=h.ok.all;obtain⟨b1,b2,b3,b4,b5,b6⟩:=h.parts;obtain⟨c1,c2,c3⟩:=Ypc h r (Nat.le_refl _);have c4:0≤tot ((upI (fnF s.par s.marks r.mode) s.members s.members.length).map Zb.bal):=(Zme h r (Nat.le_refl _)).be.bal;have hs:=h.sum;refine⟨?_,?_⟩
 ·show r.burned+GF s r s.members.length≤s.treas+Zbo s r s.members.length;omega
 ·show s.burn+(r.burned+GF s r s.members.length)≤_;omega
theorem Ybz {s:Zd}{D:Nat}(h:Zp s D){r:Zi}(hr:r.burned=0):Zp (fnS s r) D:=by
 have h1:=Zme h r (Nat.le_refl _);obtain⟨a1,a2,a3,a4,a5,a6,a7⟩:=h1.ok.all;obtain⟨c1,c2⟩:=Ynl h hr;have c0:0≤(fnR s r s.members.length).burned:=by
  have:=(Ypc h r (Nat.le_refl _)).1;show 0≤r.burned+_;omega
 have hm:=h1.mon;refine⟨h1.r,ZA.set h1.ok h1.ok.p a1 a2 a3 (by omega) (by omega) a6 a7,h1.ep,h1.be,h1.ml,h1.pl,h1.en,h1.ex,h1.dd,h1.dn,h1.oo,h1.on,h1.mm,h1.mn,?_,h1.top⟩;show tot (Uv s r s.members.length).purses+tot ((Uv s r s.members.length).members.map Zb.bal)+Wp (Uv s r s.members.length).dues+tot ((Uv s r s.members.length).pool.map Zo.amt)+((Uv s r s.members.length).treas-(fnR s r s.members.length).burned)+((Uv s r s.members.length).burn+(fnR s r s.members.length).burned)=(Uv s r s.members.length).gen+(Uv s r s.members.length).mint;omega
theorem Zup {pn:Nat}{l:List Zg}(hl:∀x∈l,Zs x∧0≤x.acct∧x.acct<pn){d:Zg}(hd:Zs d)(ha:0≤d.acct∧d.acct<pn)(hs:Wp l+d.amt≤4611686018427387904):∀x∈Jv l d,Zs x∧0≤x.acct∧x.acct<pn:=fun x hx=>by
 have h1:=(Zkg (n:=l.length) (M:=Wp l) ⟨fun x hx=>(hl x hx).1,Int.le_refl _,Nat.le_refl _⟩ hd hs).d x hx;refine⟨h1,?_⟩;rcases Zdw hx with hx|rfl | ⟨h2,rfl⟩
 ·exact(hl x hx).2
 ·exact ha
 ·exact(hl _ (Zea h2)).2
theorem Yhw (q:Ze)(m:Zb):(ejF q m).owner=m.owner:=by
 unfold ejF;split<;>rfl
structure Yzf (q:Ze)(cs:List Zb)(xs:List Int)(ds:List Zg)(t:Int)(pn k:Nat):Prop where
 d:∀x∈duN q cs t ds k,Zs x∧0≤x.acct∧x.acct<pn
 n:(duN q cs t ds k).length≤ds.length+k
 t:Wp (duN q cs t ds k)+tot ((upN (ejF q) cs k).map Zb.bal)=Wp ds+tot (cs.map Zb.bal)
 x:Jd (upN (ejF q) cs k) (exN q cs xs k) 3
theorem Yfq {q:Ze}{cs:List Zb}{ps:List Int}(hb:Zy cs ps){xs:List Int}(hx:Jd cs xs 3){ds:List Zg}(hd:∀x∈ds,Zs x∧0≤x.acct∧x.acct<ps.length){t:Int}(ht:0≤t∧t≤2147483647)(hT:Wp ds+tot (cs.map Zb.bal)≤4611686018427387904):∀k,k≤cs.length→Yzf q cs xs ds t ps.length k
 | 0,_=>⟨hd,by simp [duN],rfl,hx⟩
 | k+1,hk=>by
  have ih:=Yfq (q:=q) hb hx hd ht hT k (by omega);have hl:=WJ (ejF q) cs k;have hat:=Gj (ejF q) cs (k:=k) (by omega);obtain⟨mo,o1,o2⟩:=hb.at (i:=k) (by omega);have hbu:Zy (upN (ejF q) cs k) ps:=hb.upN (fun m hm=>⟨Zul hm,Yhw q m⟩) (by omega);have hbl:=hbu.bl (i:=k) (by omega);rw[hat]at hbl;have h3:=ih.t;have hbs:=Jo (ms:=upN (ejF q) cs k) (i:=k) (by omega) (ejF q (gr ZQ cs k));rw[hat]at hbs;by_cases c:ejP q (gr ZQ cs k)
  ·have e1:ejF q (gr ZQ cs k)=Zqu (gr ZQ cs k):=if_pos c;have hdo:=JA ht mo;have hsum:Wp (duN q cs t ds k)+(U8 t (gr ZQ cs k)).amt≤4611686018427387904:=by show _+(gr ZQ cs k).bal≤_;omega
   refine⟨?_,?_,?_,?_⟩
   ·rw[duN,if_pos c];exact Zup ih.d hdo ⟨o1,o2⟩ hsum
   ·rw[duN,if_pos c];have:=Zla (duN q cs t ds k) (U8 t (gr ZQ cs k));have:=ih.n;omega
   ·rw[duN,if_pos c,GE,upN,hbs,e1];show _+(gr ZQ cs k).bal+(_+(0-_))=_;omega
   ·rw[upN,exN,if_pos c,e1];exact Zrb ih.x (by omega) (by simp [Zqu])
  ·have e1:ejF q (gr ZQ cs k)=gr ZQ cs k:=if_neg c;refine⟨?_,?_,?_,?_⟩
   ·rw[duN,if_neg c];exact ih.d
   ·rw[duN,if_neg c];have:=ih.n;omega
   ·rw[duN,if_neg c,upN,hbs,e1];omega
   ·rw[upN,exN,if_neg c,e1];exact G3 ih.x (by omega) (by rw[hat])
theorem Zgp {s:Zd}{D:Nat}(h:Zp s D){t:Int}(ht:0≤t∧t≤2147483647){k:Nat}(hk:k≤s.members.length):Zp (ejS s t k) (D+k):=by
 have hl:(ejS s t k).members.length=s.members.length:=WJ _ _ _;obtain⟨b1,b2,b3,b4,b5,b6⟩:=h.parts;have hs:=h.sum;have hm:=h.mon;have e:=Yfq (q:=s.par) (t:=t) h.be h.ex h.dd ht (by omega) k hk;have et:Wp (ejS s t k).dues+tot ((ejS s t k).members.map Zb.bal)=Wp s.dues+tot (s.members.map Zb.bal):=e.t;refine⟨h.r,⟨h.ok.p,h.ok.u,h.ok.n⟩,h.ep,h.be.upN (fun m hm=>⟨Zul hm,Yhw _ m⟩) hk,by rw[hl];exact h.ml,h.pl,Zau h.en hl fun j _=>?_,e.x,e.d,Nat.le_trans e.n (by have:=h.dn;omega),fun d hd=>by rw[hl];exact h.oo d hd,h.on,h.mm,h.mn,?_,h.top⟩
 ·show (gr ZQ (upN (ejF s.par) s.members k) j).status=1↔_;rw[GM _ _ k hk j];split
  ·unfold ejF;split
   ·rename_i c;have:=c.1;simp only[Zqu]
    constructor
    ·intro e;cases e
    ·intro e;omega
   ·exact Iff.rfl
  ·exact Iff.rfl
 ·show tot s.purses+tot ((ejS s t k).members.map Zb.bal)+Wp (ejS s t k).dues+tot (s.pool.map Zo.amt)+s.treas+s.burn=s.gen+s.mint;omega
structure Yyv (W rest en:List Int)(pn:Nat)(x:List Zb×List Zg)(k:Nat):Prop where
 rx:Jd x.1 (W.drop k++rest) 3
 e:Jd x.1 en 1
 o:∀y∈x.1,0≤y.owner∧y.owner<pn
 d:∀y∈x.2,Zs y∧0≤y.acct∧y.acct<pn
theorem Ztd {t:Int}(ht:0≤t∧t≤2147483647){W rest en:List Int}{pn:Nat}{x:List Zb×List Zg}(hm:∀y∈x.1,Zf y)(h:Yyv W rest en pn x 0)(hT:Wp x.2+tot (x.1.map Zb.bal)≤4611686018427387904):∀k,k≤W.length→Yyv W rest en pn (lvK t W x k) k
 | 0,_=>h
 | k+1,hk=>by
  have ih:=Ztd ht hm h hT k (by omega);have hd:W.drop k=at0 W k::W.drop (k+1):=by rw[List.drop_eq_getElem_cons (by omega),Yf (by omega)]
  have hW:∀i∈W,0≤i∧i<x.1.length:=fun i hi=>by
   have:=Vi h.rx (z:=i) (by simp;exact .inl hi);omega
  have lv:=Zxm ht hm (fun y hy=>(h.d y hy).1) hW hT k (by omega);have hin:=Vi ih.rx (z:=at0 W k) (by rw[hd];simp);obtain⟨i,he⟩:=Int.eq_ofNat_of_zero_le hin.1;rw[he]at hin hd;rw[Int.toNat_natCast]at hin;rw[lvK,he,Int.toNat_natCast];have hi:i<(lvK t W x k).1.length:=by omega
  have ix:=ih.rx;rw[hd,List.cons_append]at ix;have mo:=lv.m _ (Yq (z:=ZQ) hi);have oo:=ih.o _ (Yq (z:=ZQ) hi);have hbt:=Yl (WD lv.m) i;rw[WV hi]at hbt;have h3:=lv.t;refine⟨Zig ix (by simp [Ga]),G3 ih.e hi ?_,fun y hy=>?_,Zup ih.d (JA ht mo) oo ?_⟩
  ·rw[hin.2.2];simp [Ga]
  ·rcases List.mem_or_eq_of_mem_set hy with hy|rfl
   ·exact ih.o y hy
   ·exact oo
  ·show Wp _+(gr ZQ (lvK t W x k).1 i).bal≤_;omega
theorem Je {α:Type}(f:α→Int)(q:α→Bool):∀l:List α,tot ((l.filter q).map f)+tot ((l.filter fun x => !q x).map f)=tot (l.map f)
 | []=>rfl
 | x::l=>by
  have ih:=Je f q l;rw[List.filter_cons,List.filter_cons,List.map_cons,Wq]
  cases c:q x
  ·simp only[Bool.false_eq_true,if_false,Bool.not_false,if_true,List.map_cons,Wq];omega
  ·simp only[if_true,Bool.not_true,Bool.false_eq_true,if_false,List.map_cons,Wq];omega
theorem Zqz (l:List Zg)(e:Int):Wp (l.filter (Ja e true))+Wp (l.filter (Ja e false))=Wp l:=by
 have h1:=Je Zg.amt (Ja e true) l;have h2:(fun x => !Ja e true x)=Ja e false:=by
  funext x
  unfold Ja
  cases decide (x.at'≤e)<;>rfl
 rw[h2]at h1;exact h1
theorem Yvw {s:Zd}{D:Nat}(h:Zp s D):(lvW s).length≤64∧(lvW s).length≤s.exit.length∧∀i∈lvW s,0≤i∧i<s.members.length:=by
 have hp:=Z7 h.r;refine⟨?_,?_,fun i hi=>?_⟩
 ·rw[lvW,List.length_take];omega
 ·rw[lvW,List.length_take];omega
 ·have:=Vi h.ex (List.mem_of_mem_take hi);omega
theorem Zsm {s:Zd}{D:Nat}(h:Zp s D){t:Int}(ht:0≤t∧t≤2147483647){k:Nat}(hk:k≤(lvW s).length):Yze (s.members,s.dues) (lvK t (lvW s) (s.members,s.dues) k) k∧Yyv (lvW s) (s.exit.drop s.par.churn.toNat) s.entry s.purses.length (lvK t (lvW s) (s.members,s.dues) k) k:=by
 obtain⟨b1,b2,b3,b4,b5,b6⟩:=h.parts;have hs:=h.sum
 exact⟨Zxm (x:=(s.members,s.dues)) ht h.be.m (fun y hy=>(h.dd y hy).1) (Yvw h).2.2 (by show Wp s.dues+tot (s.members.map Zb.bal)≤_;omega) k hk,
  Ztd (x:=(s.members,s.dues)) ht h.be.m ⟨by rw[List.drop_zero,lvW,List.take_append_drop];exact h.ex,h.en,h.be.o,h.dd⟩ (by show Wp s.dues+tot (s.members.map Zb.bal)≤_;omega) k hk⟩
theorem lv_d {s:Zd}{D:Nat}(h:Zp s D){t:Int}(ht:0≤t∧t≤2147483647):∀x∈lvD s t,0≤x.acct∧x.acct<s.purses.length∧0≤x.amt:=fun x hx=>by
 have:=(Zsm h ht (Nat.le_refl _)).2.d x (List.mem_filter.1 hx).1;exact⟨this.2.1,this.2.2,this.1.a.1⟩
theorem Ynh {s:Zd}{D:Nat}(h:Zp s D){t:Int}(ht:0≤t∧t≤2147483647):Zp (lvS s t) (D+64):=by
 obtain⟨l1,l2⟩:=Zsm h ht (Nat.le_refl _);obtain⟨b1,b2,b3,b4,b5,b6⟩:=h.parts;have hs:=h.sum;have hm:=h.mon;have hw:=(Yvw h).1;have hl:(lvS s t).members.length=s.members.length:=l1.l1;obtain⟨d1,d2,d3⟩:=Zfb h.be.p (lv_d h ht) (lvD s t).length (Nat.le_refl _);have hp:(lvS s t).purses.length=s.purses.length:=d1;have hx:=l2.rx;rw[List.drop_length,List.nil_append]at hx;have et:=l1.t;have e2:=Zqz (lvX s t).2 s.ep;have e3:Yy ((lvD s t).map Zg.amt) (lvD s t).length=Wp (lvD s t):=by rw[Wp,tot,List.length_map]
 rw[e3]at d3;refine⟨h.r,⟨h.ok.p,h.ok.u,h.ok.n⟩,h.ep,⟨l1.m,fun x hx=>by rw[hp];exact l2.o x hx,d2⟩,by rw[hl];exact h.ml,by rw[hp];exact h.pl,l2.e,hx,fun x hx=>by rw[hp];exact l2.d x (List.mem_filter.1 hx).1,?_,fun d hd=>by rw[hl,hp];exact h.oo d hd,h.on,fun m hm=>by rw[hp];exact h.mm m hm,h.mn,?_,h.top⟩
 ·have h1:=l1.n;have h2:((lvX s t).2.filter (Ja s.ep false)).length≤(lvX s t).2.length:=List.length_filter_le _ _;have h3:=h.dn;show ((lvX s t).2.filter (Ja s.ep false)).length≤_;have h4:(lvX s t).2.length≤s.dues.length+(lvW s).length:=h1;omega
 ·show tot (dpK (lvD s t) s.purses (lvD s t).length)+tot ((lvX s t).1.map Zb.bal)+Wp ((lvX s t).2.filter (Ja s.ep false))+tot (s.pool.map Zo.amt)+s.treas+s.burn=s.gen+s.mint;have e4:Wp (lvX s t).2+tot ((lvX s t).1.map Zb.bal)=Wp s.dues+tot (s.members.map Zb.bal):=et;have e5:Wp (lvD s t)=Wp ((lvX s t).2.filter (Ja s.ep true)):=rfl;omega
theorem Yid {s:Zd}{D:Nat}(h:Zp s D){k:Nat}(hk:k≤s.pool.length):ZH s.exit (crK s.par s.pool ⟨s.members,s.purses,s.entry⟩ k) s.purses.length (tot s.purses+tot (s.members.map Zb.bal)+Yy (s.pool.map Zo.amt) k)∧s.members.length≤(crK s.par s.pool ⟨s.members,s.purses,s.entry⟩ k).ms.length :=
 Ydl (x:=⟨s.members,s.purses,s.entry⟩) h.ok.p (show s.purses.length≤9223372036854775807 by have:=h.pl;omega) ⟨h.be,h.ml,rfl,rfl,h.en,h.ex⟩ (fun d hd=>⟨(h.oo d hd).1.a.1,(h.oo d hd).2⟩) k hk
theorem Yju {s:Zd}{D:Nat}(h:Zp s D):ZH s.exit (enX s) s.purses.length (tot s.purses+tot (s.members.map Zb.bal)+tot (s.pool.map Zo.amt))∧s.members.length≤(enX s).ms.length:=by
 have:=Yid h (Nat.le_refl s.pool.length);have e:Yy (s.pool.map Zo.amt) s.pool.length=tot (s.pool.map Zo.amt):=by rw[tot,List.length_map]
 rw[e]at this;exact this
theorem Zpn {s:Zd}{D:Nat}(h:Zp s D)(r:Zi){t:Int}(ht:0≤t∧t≤2147483647){k:Nat}(hk:k≤(enW s).length) :
  Yyo (enW s) ((enX s).en.drop s.par.churn.toNat) ⟨(enX s).ms,s.dues,s.exit,r.out,r.started⟩ (stK s.par t (enW s) ⟨(enX s).ms,s.dues,s.exit,r.out,r.started⟩ k) s.purses.length k:=by
 obtain⟨b1,b2,b3,b4,b5,b6⟩:=h.parts;have hs:=h.sum;obtain⟨c1,c2⟩:=Yju h;have c3:=c1.t;have c4:=c1.b.pur;have hob:=c1.b.o;rw[c1.l2]at hob;exact Yep h.ok.p h.r ht (x:=⟨(enX s).ms,s.dues,s.exit,r.out,r.started⟩) ⟨rfl,c1.b.m,hob,fun x hx=>(h.dd x hx).1,Nat.le_refl _,rfl,by rw[List.drop_zero,enW,List.take_append_drop];exact c1.e,c1.x,Nat.le_refl _,Nat.le_refl _⟩ (by show Wp s.dues+tot ((enX s).ms.map Zb.bal)≤_;omega) k hk
theorem en_w {s:Zd}{D:Nat}(h:Zp s D):(enW s).length≤64∧(enX s).en.length≤128:=by
 have hp:=Z7 h.r;have h1:=(Yju h).1;have:=V5 h1.e;have:=h1.l1;refine⟨?_,by omega⟩;rw[enW,List.length_take];omega
theorem Zkf {p:Ze}{t:Int}{pn:Nat}(ht:0≤t∧t≤2147483647)(W:List Int){rest:List Int}{x:StX}(hx:∀y∈x.ds,Zs y∧0≤y.acct∧y.acct<pn)(H:∀k,k≤W.length→Yyo W rest x (stK p t W x k) pn k)(hT:Wp x.ds+tot (x.ms.map Zb.bal)≤4611686018427387904):∀k,k≤W.length→∀y∈(stK p t W x k).ds,Zs y∧0≤y.acct∧y.acct<pn
 | 0,_=>hx
 | k+1,hk=>by
  have ih:=Zkf ht W hx H hT k (by omega);have h1:=H k (by omega);have hd:W.drop k=at0 W k::W.drop (k+1):=by rw[List.drop_eq_getElem_cons (by omega),Yf (by omega)]
  have hin:=Vi h1.e (z:=at0 W k) (by rw[hd];simp);have hi:(at0 W k).toNat<(stK p t W x k).ms.length:=by omega
  have mo:=h1.m _ (Yq (z:=ZQ) hi);have oo:=h1.o _ (Yq (z:=ZQ) hi);have hbt:=Yl (WD h1.m) (at0 W k).toNat;rw[WV hi]at hbt;have h3:=h1.t;rw[stK,Jg];split
  ·exact ih
  ·exact Zup ih (JA ht mo) oo (by show Wp _+(gr ZQ (stK p t W x k).ms (at0 W k).toNat).bal≤_;omega)
theorem Ylx {s:Zd}{D:Nat}(h:Zp s D)(r:Zi){t:Int}(ht:0≤t∧t≤2147483647):Zp (enS s r t) (D+64):=by
 unfold enS;by_cases c:r.quo=true
 ·rw[if_pos c];obtain⟨b1,b2,b3,b4,b5,b6⟩:=h.parts;have hs:=h.sum;have hm:=h.mon;obtain⟨c1,c2⟩:=Yju h;have c3:=c1.t;have c4:=c1.b.pur;have hw:=(en_w h).1;have h1:=Zpn h r ht (Nat.le_refl (enW s).length);have h2:=Zkf (p:=s.par) ht (enW s) (x:=⟨(enX s).ms,s.dues,s.exit,r.out,r.started⟩) h.dd (fun k hk=>Zpn h r ht hk) (by show Wp s.dues+tot ((enX s).ms.map Zb.bal)≤_;omega) _ (Nat.le_refl _);have hl:(enY s r t).ms.length=(enX s).ms.length:=h1.l1;have he:=h1.e;rw[List.drop_length,List.nil_append]at he;have et:Wp (enY s r t).ds+tot ((enY s r t).ms.map Zb.bal)=Wp s.dues+tot ((enX s).ms.map Zb.bal):=h1.t;have hp:=c1.l2;have hn:(enY s r t).ds.length≤s.dues.length+(enW s).length:=h1.n;have hd:=h.dn;refine⟨h.r,⟨h.ok.p,h.ok.u,h.ok.n⟩,h.ep,⟨h1.m,fun x hx=>by simp only;rw[hp];exact h1.o x hx,c1.b.p⟩,by simp only;rw[hl];exact c1.l1,by simp only;rw[hp];exact h.pl,he,h1.rx,fun x hx=>by simp only;rw[hp];exact h2 x hx,by simp only;omega,(fun d hd=>by cases hd),by simp,fun m hm=>by simp only;rw[hp];exact h.mm m hm,h.mn,?_,h.top⟩;simp only[List.map_nil,Zkm];omega
 ·rw[if_neg c];exact⟨h.r,h.ok,h.ep,h.be,h.ml,h.pl,h.en,h.ex,h.dd,Nat.le_trans h.dn (by omega),h.oo,h.on,h.mm,h.mn,h.mon,h.top⟩
theorem Zoa {p:Ze}(h:YM p=true):0≤p.enact:=by
 simp only[YM,Bool.and_eq_true]at h;have h2:=h.1.2;simp only[Js,List.all_cons,List.all_nil,id,Bool.and_eq_true,wi_iff,decide_eq_true_eq,and_true]at h2;omega
theorem mo_0 {s:Zd}{D:Nat}(h:Zp s D)(r:Zi):Yyr (moW s r) ⟨s.par,s.treas,s.purses,s.emer,moL s,r.done⟩ ⟨s.par,s.treas,s.purses,s.emer,moL s,r.done⟩ 0:=by
 refine⟨h.r,h.ok.p,h.parts.2.2.2.2.1,rfl,h.be.p,rfl,rfl,fun m hm=>?_,fun j _ hj=>?_,Nat.le_refl _⟩
 ·obtain⟨x,hx,rfl⟩:=List.mem_map.1 hm;exact Zxy (Zoa h.r) h.ep.1 (h.mm x hx)
 ·exact Zib (by rw[← Yf hj];exact List.getElem_mem hj)
theorem Zna {s:Zd}(r:Zi):(moW s r).Nodup∧∀z∈moW s r,0≤z∧z<(moL s).length:=⟨Ziu _ _ _ _,fun z hz=>Zfr hz⟩
theorem mo_k {s:Zd}{D:Nat}(h:Zp s D)(r:Zi){k:Nat}(hk:k≤(moW s r).length):Yyr (moW s r) ⟨s.par,s.treas,s.purses,s.emer,moL s,r.done⟩ (moX s r k) k :=
 Yds (mo_0 h r) (Zna r).1 (Zna r).2 k hk
theorem Ydh {s:Zd}{D:Nat}(h:Zp s D)(r:Zi){k:Nat}(hk:k≤(moW s r).length):Zp (Yto s r k) D:=by
 have hx:=mo_k h r hk;obtain⟨a1,a2,a3,a4,a5,a6,a7⟩:=h.ok.all;obtain⟨b1,b2,b3,b4,b5,b6⟩:=h.parts;have hs:=h.sum;have hm:=h.mon;have et:tot (moX s r k).ps+(moX s r k).tr=tot s.purses+s.treas:=hx.t;have hp0:=hx.p;have hpp:=Yu hx.p;have htr:=hx.tr;have hp:(Yto s r k).purses.length=s.purses.length:=hx.l2;have hn:(moX s r k).mo.length=s.motions.length:=by
  have:=hx.n;rw[this];exact List.length_map _
 refine⟨hx.r,ZA.set h.ok hx.ok a1 a2 a3 a4 (by omega) a6 a7,h.ep,⟨h.be.m,fun x hx=>by rw[hp];exact h.be.o x hx,hx.p⟩,h.ml,by rw[hp];exact h.pl,h.en,h.ex,fun x hx=>by rw[hp];exact h.dd x hx,h.dn,fun d hd=>by rw[hp];exact h.oo d hd,h.on,fun m hm=>by rw[hp];exact hx.m m hm,by show (moX s r k).mo.length≤32;rw[hn];exact h.mn,?_,h.top⟩;show tot (moX s r k).ps+tot (s.members.map Zb.bal)+Wp s.dues+tot (s.pool.map Zo.amt)+(moX s r k).tr+s.burn=s.gen+s.mint;omega
theorem Zrt {s:Zd}{D:Nat}(h:Zp s D){k:Nat}(hk:k≤s.members.length):Zp (Zys s k) D:=by
 obtain⟨b1,b2,b3,b4,b5,b6⟩:=h.parts;have hs:=h.sum;have hm:=h.mon;have hb:ZF s.members s.purses:=h.be.ok (by omega);have h1:=Zkz (q:=s.par) h.ok.p (x:=(s.members,s.purses)) hb k hk;have h2:=V7 s.par (s.members,s.purses) k;have h3:=Zvd (q:=s.par) h.ok.p (x:=(s.members,s.purses)) hb k hk;have h4:=Zrl s.par (s.members,s.purses) k hk;have l1:(Zys s k).members.length=s.members.length:=h2.1;have l2:(Zys s k).purses.length=s.purses.length:=h2.2;have hst:∀j,(gr ZQ (Zys s k).members j).status=(gr ZQ s.members j).status:=fun j=>by
  show (gr ZQ (clN s.par (s.members,s.purses) k).1 j).status=_;rw[h4,GM _ _ k hk j];split
  ·rfl
  ·rfl
 refine⟨h.r,⟨h.ok.p,h.ok.u,h.ok.n⟩,h.ep,⟨h1.m,h1.o,h1.p⟩,by rw[l1];exact h.ml,by rw[l2];exact h.pl,Zau h.en l1 (fun j _=>by rw[hst]),Zau h.ex l1 (fun j _=>by rw[hst]),fun x hx=>by rw[l2];exact h.dd x hx,h.dn,fun d hd=>by rw[l1,l2];exact h.oo d hd,h.on,fun m hm=>by rw[l2];exact h.mm m hm,h.mn,?_,h.top⟩;have e:tot (Zys s k).purses+tot ((Zys s k).members.map Zb.bal)=tot s.purses+tot (s.members.map Zb.bal):=h3;show tot (Zys s k).purses+tot ((Zys s k).members.map Zb.bal)+Wp s.dues+tot (s.pool.map Zo.amt)+s.treas+s.burn=s.gen+s.mint;omega
structure MI (p:Ze)(m:Zb):Prop where
 b:0≤m.bal∧m.bal≤p.cap
 e:0≤m.eff∧m.eff≤1099511627776
 sc:0≤m.score∧m.score≤p.scoreCap
 st:0≤m.streak∧m.streak≤p.streak
 ow:0≤m.owner∧m.owner<64
 s:(m.status=2∨m.status=3)∨(m.status=1∧1≤m.bal∧m.eff=0)∨((m.status=4∨m.status=5)∧m.bal=0∧m.eff=0)
abbrev MF (p:Ze)(m:Zb):Prop:=Uu m→p.floor<m.bal
theorem Zwx {P:Zb→Prop}{l:List Zb}(h:∀x∈l,P x){i:Nat}{m:Zb}(hf:i<l.length→P m):∀x∈l.set i m,P x:=fun x hx=>by
 by_cases c:i<l.length
 ·rcases List.mem_or_eq_of_mem_set hx with hx|rfl
  ·exact h x hx
  ·exact hf c
 ·rw[List.set_eq_of_length_le (by omega)]at hx;exact h x hx
theorem grP {P:Zb→Prop}{l:List Zb}(h:∀x∈l,P x){i:Nat}(hi:i<l.length):P (gr ZQ l i):=h _ (Yq hi)
theorem JL {p:Ze}(hr:YM p=true):Vv p=true∧Ue p=true:=by
 simp only[YM,Bool.and_eq_true]at hr;exact⟨hr.1.1.1,hr.1.1.2⟩
theorem mi_of {p:Ze}(hr:YM p=true){m:Zb}(mo:Zf m)(hm:Vt p m=true):MI p m∧MF p m:=by
 obtain⟨h1,h2,h3,h4⟩:=Zkk hm;obtain⟨s1,s2⟩:=JL hr;have f1:=YY s1;have f2:=Wv s2;have f3:=Z7 hr;have u1:=mo.u m.bal (by simp);have u2:=mo.u m.eff (by simp);have u3:=mo.u m.score (by simp);have hc:=Ztc hr h4;unfold JC at h4;by_cases c1:m.status=2∨m.status=3
 ·rw[if_pos c1]at h4;simp only[Bool.and_eq_true,decide_eq_true_eq,VV]at h4;exact⟨⟨⟨u1.1,hc⟩,by omega,by omega,by omega,h1,.inl c1⟩,fun _=>by omega⟩
 ·rw[if_neg c1]at h4;refine⟨?_,fun c=>absurd c c1⟩;by_cases c2:m.status=1
  ·rw[if_pos c2]at h4;simp only[Bool.and_eq_true,decide_eq_true_eq]at h4;exact⟨⟨u1.1,hc⟩,by omega,by omega,by omega,h1,.inr (.inl ⟨c2,h4.1.1,h4.2⟩)⟩
  ·rw[if_neg c2]at h4;by_cases c3:m.status=4∨m.status=5
   ·rw[if_pos c3]at h4;simp only[Bool.and_eq_true,decide_eq_true_eq]at h4;exact⟨⟨u1.1,hc⟩,by omega,by omega,by omega,h1,.inr (.inr ⟨c3,h4.1,h4.2⟩)⟩
   ·rw[if_neg c3]at h4;cases h4
theorem wg_mi {p:Ze}(hr:YM p=true)(ok:Zj p)(ks:List Int)(mode:Int)(k:Nat){m:Zb}(h:MI p m):MI p (wgF p ks mode k m):=by
 obtain⟨s1,s2⟩:=JL hr;have f2:=Wv s2;have f3:=Z7 hr;have h1:=h.sc;have h2:=h.st;have o1:=ok.w p.recover (by simp [YN]);unfold wgF;split
 ·unfold Vc;split
  ·refine⟨h.b,h.e,?_,?_,h.ow,h.s⟩
   ·show 0≤Y2 m.score p.recover∧Y2 m.score p.recover≤_;unfold Y2;split<;>omega
   ·show 0≤(if max m.streak 0<p.streak then max m.streak 0+1 else p.streak)∧(if max m.streak 0<p.streak then max m.streak 0+1 else p.streak)≤p.streak;by_cases c:max m.streak 0<p.streak
    ·rw[if_pos c];omega
    ·rw[if_neg c];omega
  ·refine⟨h.b,h.e,?_,?_,h.ow,h.s⟩
   ·show 0≤(if mode=3 then Gw m.score p.bias p.scoreCap else if mode=4 then Gw m.score p.biasEm p.scoreCap else m.score)∧(if mode=3 then Gw m.score p.bias p.scoreCap else if mode=4 then Gw m.score p.biasEm p.scoreCap else m.score)≤p.scoreCap;unfold Gw;by_cases c:mode=3
    ·rw[if_pos c];omega
    ·rw[if_neg c];by_cases c2:mode=4
     ·rw[if_pos c2];omega
     ·rw[if_neg c2];omega
   ·show (0:Int)≤0∧(0:Int)≤p.streak;omega
 ·exact h
theorem Ynf {p:Ze}{m:Zb}(h:MI p m){n:Int}(hn:0≤n)(hc:Uu m):MI p (VK p m n).1:=by
 have h1:=h.b;refine⟨?_,h.e,h.sc,h.st,h.ow,.inl hc⟩;show 0≤m.bal+min n (Y2 p.cap m.bal)∧m.bal+min n (Y2 p.cap m.bal)≤p.cap;unfold Y2;split<;>omega
theorem Yhr {p:Ze}(ok:Zj p)(hr:YM p=true)(ks:List Int)(mode:Int)(k:Nat){m:Zb}(mo:Zf m)(h:MI p m):MI p (fnF p ks mode k m):=by
 have h1:=h.b;have h2:=Zli ok hr mo mode;unfold fnF;split
 ·rename_i c;refine⟨?_,h.e,h.sc,h.st,h.ow,.inl c.1⟩;show 0≤m.bal-YR p m mode∧m.bal-YR p m mode≤p.cap;omega
 ·exact h
theorem Zeg {p:Ze}{m:Zb}(hr:YM p=true)(h:MI p m){st:Int}(hs:st=4∨st=5):MI p (Ga m st)∧MF p (Ga m st):=by
 have h1:=h.b;have h2:=h.st;refine⟨⟨?_,by simp [Ga],h.sc,?_,h.ow,.inr (.inr ⟨hs,rfl,rfl⟩)⟩,fun c=>?_⟩
 ·show (0:Int)≤0∧(0:Int)≤p.cap;omega
 ·show (0:Int)≤0∧(0:Int)≤p.streak;omega
 ·simp only[Uu,Ga]at c;omega
theorem ej_mi {p:Ze}(hr:YM p=true){m:Zb}(h:MI p m):MI p (ejF p m)∧MF p (ejF p m):=by
 unfold ejF;split
 ·exact Zeg hr h (st:=4) (.inl rfl)
 ·rename_i c
  exact⟨h,fun hc=>by
   have:¬m.bal≤p.floor:=fun x=>c ⟨hc,x⟩
   omega⟩
theorem Yiy {p:Ze}(hr:YM p=true){m:Zb}(h:MI p m)(hf:MF p m){a:Int}(ha:0≤a):MI p (UE p m a)∧MF p (UE p m a):=by
 have h1:=h.b;have h2:=h.s;have ht:0≤Wn p m a∧m.bal+Wn p m a≤p.cap:=by
  unfold Wn Y2;split<;>omega
 unfold UE;split
 ·rename_i c;exact⟨⟨by simp only;omega,by simp,h.sc,h.st,h.ow,.inr (.inl ⟨rfl,by simp only;omega,rfl⟩)⟩,fun x=>by simp [Uu]at x⟩
 ·rename_i c;refine⟨⟨by simp only;omega,h.e,h.sc,h.st,h.ow,?_⟩,fun x=>?_⟩
  ·rcases h2 with h2|h2|h2
   ·exact .inl h2
   ·exact .inr (.inl ⟨h2.1,by simp only;omega,h2.2.2⟩)
   ·refine .inr (.inr ⟨h2.1,?_,h2.2.2⟩);simp only;by_cases z:0<m.bal+Wn p m a
    ·exact absurd ⟨z,h2.1⟩ c
    ·omega
  ·have:=hf x;simp only;omega
theorem Ycl {p:Ze}(hr:YM p=true){m:Zb}(h:MI p m)(hf:MF p m):MI p (WU p m).1∧MF p (WU p m).1:=by
 obtain⟨s1,s2⟩:=JL hr;have f1:=YY s1;have f3:=Z7 hr;have h1:=h.b;unfold WU;split
 ·rename_i c;have g:=Zkq hr c.2.1;simp only[VV,Bool.and_eq_true,decide_eq_true_eq]at g;refine⟨⟨h.b,?_,h.sc,?_,h.ow,.inl (.inl rfl)⟩,fun _=>c.2.1⟩
  ·show 0≤Wi p m.bal∧Wi p m.bal≤_;omega
  ·show (0:Int)≤0∧(0:Int)≤p.streak;omega
 ·exact⟨h,hf⟩
theorem Yat {p q:Ze}(hq:YM q=true){m:Zb}(h:MI p m):MI q (VT q m):=by
 obtain⟨s1,s2⟩:=JL hq;have f1:=YY s1;have f2:=Wv s2;have f3:=Z7 hq;have h1:=h.b;have h2:=h.sc;have h3:=h.st;refine⟨?_,h.e,?_,?_,h.ow,?_⟩
 ·show 0≤min m.bal q.cap∧min m.bal q.cap≤q.cap;omega
 ·show 0≤min m.score q.scoreCap∧min m.score q.scoreCap≤q.scoreCap;omega
 ·show 0≤min (max m.streak 0) q.streak∧min (max m.streak 0) q.streak≤q.streak;omega
 ·rcases h.s with h4|h4|h4
  ·exact .inl h4
  ·exact .inr (.inl ⟨h4.1,by show 1≤min m.bal q.cap;omega,h4.2.2⟩)
  ·exact .inr (.inr ⟨h4.1,by show min m.bal q.cap=0;omega,h4.2.2⟩)
theorem Zwr {B:Int}:∀(xs:List Int),(∀x∈xs,x≤B)→tot xs≤xs.length*B
 | [],_=>by simp [tot,Yy]
 | x::xs,hx=>by
  have ih:=Zwr xs fun y hy=>hx y (List.mem_cons_of_mem _ hy);have h1:=hx x List.mem_cons_self;rw[Wq,List.length_cons];have:(((xs.length+1:Nat)):Int)*B=xs.length*B+B:=by
   rw[Int.natCast_add,Int.add_mul];simp
  omega
theorem JI {p:Ze}{l:List Zb}(hl:l.length≤128)(h:∀m∈l,MI p m):U9 l≤140737488355328:=by
 have h1:=Zwr (B:=1099511627776) ((cP l l.length).map (Zct l)) fun x hx=>by
  obtain⟨i,hi,rfl⟩:=List.mem_map.1 hx;have:=Zpd hi;exact(h _ (Yq this)).e.2
 rw[List.length_map]at h1;have h2:=VW l l.length;unfold U9;omega
theorem Ysz {h:PH}{v:SV}{s:Zd}(hs:Zr h v s)(hf:WK s=true):∀m∈s.members,MI s.par m∧MF s.par m:=fun m hm=>by
 have hr:YM s.par=true:=(fitsT_iff.1 hf).1;exact mi_of hr (hs.mo m hm) (Yas hf m hm).1
theorem wg_ms {s:Zd}{D:Nat}(ti:Zp s D)(h:∀m∈s.members,MI s.par m):∀m∈(wgS s).members,MI s.par m :=
 Zaq (MI s.par) (fun k _ hm=>wg_mi ti.r ti.ok.p _ _ k hm) h _ (Nat.le_refl _)
theorem You {s:Zd}{D:Nat}(ti:Zp s D){r:Zi}(ha:0≤r.act∧r.act≤18446744073709551615)(h:∀m∈s.members,MI s.par m):∀k,k≤(mtW s).length→∀m∈(mtX s r k).1,MI s.par m
 | 0,_=>h
 | k+1,hk=>by
  have ih:=You ti ha h k (by omega);have hx:=Ykw ti ha (k:=k) (by omega);have hW:(mtW s).getD k 0∈mtW s:=by
   rw[List.getD_eq_getElem?_getD,List.getElem?_eq_getElem (by omega),Option.getD_some];exact List.getElem_mem _
  have hc:=(Zaz hW).1;show ∀m∈((mtX s r k).1.set ((mtW s).getD k 0) (VK s.par (gr ZQ (mtX s r k).1 ((mtW s).getD k 0)) (at0 (mtP s r) k)).1),MI s.par m;refine Zwx ih fun hi=>Ynf (grP ih hi) ((Ygn ti ha).1 k).1 ?_;show _∨_;rw[(hx.s _).1];exact hc
theorem fn_ms {s:Zd}{D:Nat}(ti:Zp s D)(r:Zi)(h:∀m∈s.members,MI s.par m):∀m∈(fnS s r).members,MI s.par m:=fun m hm =>
 (Zaq (fun m=>Zf m∧MI s.par m) (fun k _ hm=>⟨Zlz ti.ok.p ti.r _ _ k hm.1,Yhr ti.ok.p ti.r _ _ k hm.1 hm.2⟩) (fun m hm=>⟨ti.be.m m hm,h m hm⟩) _ (Nat.le_refl _) m hm).2
theorem Yti {s:Zd}(hr:YM s.par=true)(t:Int)(h:∀m∈s.members,MI s.par m):∀m∈(ejS s t s.members.length).members,MI s.par m∧MF s.par m:=fun m hm=>by
 have e:(ejS s t s.members.length).members=s.members.map (ejF s.par):=Zwq _ _;rw[e]at hm;obtain⟨x,hx,rfl⟩:=List.mem_map.1 hm;exact ej_mi hr (h x hx)
theorem Yod {s:Zd}(hr:YM s.par=true)(t:Int)(W:List Int){ds:List Zg}(h:∀m∈s.members,MI s.par m∧MF s.par m):∀k,∀m∈(lvK t W (s.members,ds) k).1,MI s.par m∧MF s.par m
 | 0=>h
 | k+1=>by
  have ih:=Yod hr t W (ds:=ds) h k;show ∀m∈((lvK t W (s.members,ds) k).1.set (at0 W k).toNat (Ga (gr ZQ (lvK t W (s.members,ds) k).1 (at0 W k).toNat) 5)),_;exact Zwx (P:=fun m=>MI s.par m∧MF s.par m) ih fun hi=>Zeg hr (grP (P:=fun m=>MI s.par m∧MF s.par m) ih hi).1 (.inr rfl)
theorem Ype {p:Ze}(hr:YM p=true){a:Int}(ha:0≤a∧a<64):MI p ⟨0,0,0,0,a,4⟩∧MF p ⟨0,0,0,0,a,4⟩:=by
 obtain⟨s1,s2⟩:=JL hr;have f1:=YY s1;have f2:=Wv s2;have f3:=Z7 hr;exact⟨⟨by simp only;omega,by simp,by simp only;omega,by simp only;omega,ha,.inr (.inr ⟨.inl rfl,rfl,rfl⟩)⟩,fun c=>by simp [Uu]at c⟩
theorem Zwt {p:Ze}(hr:YM p=true){i:Nat}{a acct:Int}(ha:0≤a){x:ZM}(h:∀m∈x.ms,MI p m∧MF p m):∀m∈(Zlb p i a acct x).ms,MI p m∧MF p m :=
 Zwx (P:=fun m=>MI p m∧MF p m) h fun hi=>by
  have g:=grP (P:=fun m=>MI p m∧MF p m) h hi;exact Yiy hr g.1 g.2 ha
theorem Zuy {p:Ze}(hr:YM p=true){d:Zo}(ha:0≤d.amt)(hd:0≤d.acct∧d.acct<64){x:ZM}(h:∀m∈x.ms,MI p m∧MF p m):∀m∈(Ws p d x).ms,MI p m∧MF p m:=by
 unfold Ws;split
 ·split
  ·exact h
  ·refine Zwt hr ha fun m hm=>?_;rcases List.mem_append.1 hm with hm|hm
   ·exact h m hm
   ·rw[List.mem_singleton]at hm;subst hm;exact Ype hr hd
 ·exact Zwt hr ha h
theorem Ycv {p:Ze}(hr:YM p=true){l:List Zo}(hl:∀d∈l,0≤d.amt∧0≤d.acct∧d.acct<64){x:ZM}(h:∀m∈x.ms,MI p m∧MF p m):∀k,k≤l.length→∀m∈(crK p l x k).ms,MI p m∧MF p m
 | 0,_=>h
 | k+1,hk=>by
  have hd:=hl (gr YT l k) (Yq (by omega));exact Zuy hr hd.1 hd.2 (Ycv hr hl h k (by omega))
theorem Yeg {p:Ze}(hr:YM p=true)(t:Int)(W:List Int){x:StX}(h:∀m∈x.ms,MI p m∧MF p m):∀k,∀m∈(stK p t W x k).ms,MI p m∧MF p m
 | 0=>h
 | k+1=>by
  have ih:=Yeg hr t W h k;rw[stK,Jg];split
  ·exact Zwx (P:=fun m=>MI p m∧MF p m) ih fun hi=>by
    have g:=grP (P:=fun m=>MI p m∧MF p m) ih hi;exact Ycl hr g.1 g.2
  ·exact Zwx (P:=fun m=>MI p m∧MF p m) ih fun hi=>Zeg hr (grP (P:=fun m=>MI p m∧MF p m) ih hi).1 (.inl rfl)
theorem en_ms {s:Zd}{D:Nat}(ti:Zp s D)(r:Zi)(t:Int)(h:∀m∈s.members,MI s.par m∧MF s.par m):∀m∈(enS s r t).members,MI s.par m∧MF s.par m:=by
 unfold enS;split
 ·have hpl:=ti.pl;have hx:∀m∈(enX s).ms,MI s.par m∧MF s.par m:=Ycv ti.r (fun d hd=>by have:=ti.oo d hd;exact⟨this.1.a.1,this.2.1,by omega⟩) h _ (Nat.le_refl _);exact Yeg ti.r t _ hx _
 ·exact h
theorem aj_ms {s:Zd}{p:Ze}(hr:YM s.par=true)(h:∀m∈s.members,MI p m):∀m∈(ajS s).members,MI s.par m:=fun m hm=>by
 have e:(ajS s).members=s.members.map (VT s.par):=by
  show (clN s.par (s.members,s.purses) s.members.length).1=_;rw[Zrl _ _ _ (Nat.le_refl _)];exact Zwq _ _
 rw[e]at hm;obtain⟨x,hx,rfl⟩:=List.mem_map.1 hm;exact Yat hr (h x hx)
end Go.X

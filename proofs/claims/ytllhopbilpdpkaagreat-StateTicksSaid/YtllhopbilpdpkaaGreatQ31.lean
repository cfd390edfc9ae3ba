/- Lemmas and contracts. Conditions: as each says. -/
import Derived.Test.YtllhopbilpdpkaaGreatQ30
set_option linter.unusedVariables false
set_option linter.unusedSimpArgs false
set_option maxHeartbeats 12800000
set_option maxRecDepth 20000
namespace Go.X
open Go.RowKit Go.Proofs Go.Bl
structure Zi where
 ep:Int
 mode:Int
 quo:Bool
 pres:Int
 act:Int
 aB:Int
 aU:Int
 kept:Int
 aC:Int
 aV:Int
 out:List Int
 left:List Int
 started:List Int
 done:List Int
def upI (f:Nat->Zc->Zc)(l:List Zc):Nat->List Zc
 | 0=>l
 | k+1=>(upI f l k).set k (f k (gr ZQ l k))
theorem WY (f:Nat->Zc->Zc)(l:List Zc):∀k,(upI f l k).length=l.length
 | 0=>rfl
 | k+1=>by rw[upI,List.length_set];exact WY f l k
theorem Zqg {l:List Zc}{j:Nat}(hj:l.length<=j):gr ZQ l j=ZQ:=by
 unfold gr;rw[List.getD_eq_getElem?_getD,List.getElem?_eq_none hj];rfl
theorem VU {l:List Zc}{i j:Nat}{m:Zc}(hi:i<l.length):gr ZQ (l.set i m) j=if j=i then m else gr ZQ l j:=by
 by_cases e:j=i
 ·subst e;rw[Ye zn,if_pos rfl,List.getElem_set_self]
 ·rw[if_neg e];by_cases hj:j<l.length
  ·rw[Ye zC,Ye hj,List.getElem_set_ne (Ne.symm e)]
  ·rw[Zqg zC,Zqg qf]
theorem Yas (f:Nat->Zc->Zc)(l:List Zc):∀k,k<=l.length->∀j,gr ZQ (upI f l k) j=if j<k then f j (gr ZQ l j) else gr ZQ l j
 | 0,_,j=>by simp [upI]
 | k+1,hk,j=>by
  rw[upI,VU (by rw[WY];omega)];by_cases e:j=k
  ·subst e;rw[if_pos rfl,if_pos qf]
  ·rw[if_neg e,Yas f l k qf j];by_cases c:j<k
   ·rw[if_pos c,if_pos qf]
   ·rw[if_neg c,if_neg qf]
theorem Jn (f:Nat->Zc->Zc)(l:List Zc){k:Nat}(hk:k<l.length):gr ZQ (upI f l k) k=gr ZQ l k:=by
 rw[Yas f l k qf,if_neg qf]
theorem Gx (f:Nat->Zc->Zc)(l:List Zc){k:Nat}(hk:k<l.length)(hf:f k (gr ZQ l k)=gr ZQ l k):upI f l (k+1)=upI f l k:=by
 have hl:=WY f l k;have h1:=Jn f l hk;rw[Ye qf]at h1;rw[upI,hf,<- h1,List.set_getElem_self]
theorem Zft {f:Nat->Zc->Zc}{l:List Zc}(P:Zc->Prop)(hf:∀k x,P x->P (f k x))(hl:∀x∈l,P x):∀k,k<=l.length->∀x∈upI f l k,P x
 | 0,_=>hl
 | k+1,hk=>fun x hx=>by
  rw[upI]at hx;rcases List.mem_or_eq_of_mem_set hx with hx|rfl
  ·exact Zft P hf hl k qf x hx
  ·exact hf _ _ (hl _ (Yp qf))
def wgF (p:Ze)(ks:List Int)(mode:Int)(k:Nat)(m:Zc):Zc:=if Uf m then W8 p m (Wm ks k) mode else m
def wgS (s:Zg):Zg:={ s with calm:=(Vo s.calm (Je s) (Vi s)).1,ae:=upI (wgF s.par s.marks (Vn s)) s.ae s.ae.length }
def wgR (s:Zg)(r:Zi):Zi:={ r with pres:=Je s,act:=Vi s,quo:=(Vo s.calm (Je s) (Vi s)).2,mode:=Vn s }
theorem Zvj {p:Ze}(ok:Zj p)(hr:Yo p=true)(ks:List Int)(mode:Int)(k:Nat){m:Zc}(mo:Zf m):Zf (wgF p ks mode k m):=by
 unfold wgF;split
 ·exact Ydf ok hr mo _ _
 ·exact mo
def mtN (s:Zg)(r:Zi):Int:=Zbg s.par r.act (s.gen+s.aB) s.most r.mode
def mtW (s:Zg):List Nat:=thI s.ae s.marks s.ae.length
def mtL (s:Zg)(k:Nat):List Zc:=(thI s.ae s.marks k).map (gr ZQ s.ae)
def mtP (s:Zg)(r:Zi):List Int:=Ui s.par (mtN s r) (mtL s s.ae.length)
def Jx (p:Ze)(i:Nat)(a:Int)(x:List Zc×List Int):List Zc×List Int :=
 (x.1.set i (Uq p (gr ZQ x.1 i) a).1,x.2.set (gr ZQ x.1 i).owner.toNat (at0 x.2 (gr ZQ x.1 i).owner.toNat+(Uq p (gr ZQ x.1 i) a).2))
def mtK (p:Ze)(W:List Nat)(P:List Int)(x:List Zc×List Int):Nat->List Zc×List Int
 | 0=>x
 | k+1=>Jx p (W.getD k 0) (at0 P k) (mtK p W P x k)
def mtX (s:Zg)(r:Zi)(k:Nat):List Zc×List Int:=mtK s.par (mtW s) (mtP s r) (s.ae,s.ag) k
def Zil (s:Zg)(r:Zi)(k:Nat):Zg:={ s with aB:=s.aB+mtN s r,an:=s.an+mtN s r-YE (mtP s r) k,ae:=(mtX s r k).1,ag:=(mtX s r k).2 }
def Zlp (s:Zg)(r:Zi)(k:Nat):Zi:={ r with aB:=mtN s r,aU:=r.aU+YE (mtP s r) k }
def mtS (s:Zg)(r:Zi):Zg:=Zil s r (mtW s).length
def mtR (s:Zg)(r:Zi):Zi:={ Zlp s r (mtW s).length with kept:=mtN s r-tot (mtP s r) }
abbrev fnC (ks:List Int)(k:Nat)(m:Zc):Prop:=Uf m/\Wm ks k=false
def fnF (p:Ze)(ks:List Int)(mode:Int)(k:Nat)(m:Zc):Zc:=if fnC ks k m then U4 p m mode else m
def fnT (p:Ze)(ks:List Int)(mode:Int)(ms:List Zc):Nat->Int
 | 0=>0
 | k+1=>if fnC ks k (gr ZQ ms k) then fnT p ks mode ms k+YV p (gr ZQ ms k) mode else fnT p ks mode ms k
def fnU (p:Ze)(ks:List Int)(mode:Int)(ms:List Zc):Nat->Int
 | 0=>0
 | k+1=>if fnC ks k (gr ZQ ms k) then fnU p ks mode ms k+VR p (YV p (gr ZQ ms k) mode) else fnU p ks mode ms k
abbrev Zbb (s:Zg)(r:Zi)(k:Nat):Int:=fnT s.par s.marks r.mode s.ae k
abbrev Gl (s:Zg)(r:Zi)(k:Nat):Int:=fnU s.par s.marks r.mode s.ae k
def UJ (s:Zg)(r:Zi)(k:Nat):Zg:={ s with an:=s.an+Zbb s r k,ae:=upI (fnF s.par s.marks r.mode) s.ae k }
def fnR (s:Zg)(r:Zi)(k:Nat):Zi:={ r with aC:=r.aC+Gl s r k,aV:=r.aV+(Zbb s r k-Gl s r k) }
def fnS (s:Zg)(r:Zi):Zg:=Zmv (UJ s r s.ae.length) (fnR s r s.ae.length).aC
def ejS (s:Zg)(t:Int)(k:Nat):Zg:={ s with ae:=upN (ejF s.par) s.ae k,ai:=duN s.par s.ae t s.ai k,exit:=exN s.par s.ae s.exit k }
def ejR (s:Zg)(r:Zi)(k:Nat):Zi:={ r with out:=r.out++ouN s.par s.ae k }
def Zat (t:Int)(i:Nat)(x:List Zc×List Zh):List Zc×List Zh:=(x.1.set i (V5 (gr ZQ x.1 i) 5),V3 x.2 (VB t (gr ZQ x.1 i)))
def lvK (t:Int)(W:List Int)(x:List Zc×List Zh):Nat->List Zc×List Zh
 | 0=>x
 | k+1=>Zat t (at0 W k).toNat (lvK t W x k)
def dpK (l:List Zh)(ps:List Int):Nat->List Int
 | 0=>ps
 | k+1=>(dpK l ps k).set (gr ZT l k).au.toNat (at0 (dpK l ps k) (gr ZT l k).au.toNat+(gr ZT l k).amt)
def lvW (s:Zg):List Int:=s.exit.take s.par.aK.toNat
def lvX (s:Zg)(t:Int):List Zc×List Zh:=lvK t (lvW s) (s.ae,s.ai) (lvW s).length
def lvD (s:Zg)(t:Int):List Zh:=(lvX s t).2.filter (Ut s.ep true)
def lvS (s:Zg)(t:Int):Zg:={ s with exit:=s.exit.drop s.par.aK.toNat,ae:=(lvX s t).1,ai:=(lvX s t).2.filter (Ut s.ep false),ag:=dpK (lvD s t) s.ag (lvD s t).length }
def lvR (s:Zg)(r:Zi):Zi:={ r with left:=lvW s }
structure ZK where
 ms:List Zc
 ps:List Int
 en:List Int
def Zln (p:Ze)(i:Nat)(a:Int)(au:Int)(x:ZK):ZK :=
 ⟨x.ms.set i (Ur p (gr ZQ x.ms i) a),x.ps.set au.toNat (at0 x.ps au.toNat+(a-YS p (gr ZQ x.ms i) a)),
  if (Ur p (gr ZQ x.ms i) a).status=(gr ZQ x.ms i).status then x.en else x.en++[(i:Int)]⟩
def YM (p:Ze)(d:Zk)(x:ZK):ZK :=
 if d.new then (if 128<=x.ms.length then ⟨x.ms,x.ps.set d.au.toNat (at0 x.ps d.au.toNat+d.amt),x.en⟩ else Zln p x.ms.length d.amt d.au ⟨x.ms++[⟨0,0,0,0,d.au,4⟩],x.ps,x.en⟩)
 else Zln p d.mem.toNat d.amt d.au x
def crK (p:Ze)(l:List Zk)(x:ZK):Nat->ZK
 | 0=>x
 | k+1=>YM p (gr Yg l k) (crK p l x k)
structure StX where
 ms:List Zc
 ds:List Zh
 ex:List Int
 out:List Int
 go:List Int
def J0 (p:Ze)(t:Int)(i:Nat)(x:StX):StX :=
 if (Wo p (gr ZQ x.ms i)).2 then { x with ms:=x.ms.set i (Wo p (gr ZQ x.ms i)).1,go:=x.go++[(i:Int)] }
 else ⟨x.ms.set i (Zqm (gr ZQ x.ms i)),V3 x.ds (VB t (gr ZQ x.ms i)),flt x.ex i,x.out++[(i:Int)],x.go⟩
def stK (p:Ze)(t:Int)(W:List Int)(x:StX):Nat->StX
 | 0=>x
 | k+1=>J0 p t (at0 W k).toNat (stK p t W x k)
def enX (s:Zg):ZK:=crK s.par s.aj ⟨s.ae,s.ag,s.entry⟩ s.aj.length
def enW (s:Zg):List Int:=(enX s).en.take s.par.aK.toNat
def enY (s:Zg)(r:Zi)(t:Int):StX:=stK s.par t (enW s) ⟨(enX s).ms,s.ai,s.exit,r.out,r.started⟩ (enW s).length
def enS (s:Zg)(r:Zi)(t:Int):Zg:=if r.quo then { s with aj:=[],ae:=(enY s r t).ms,ag:=(enX s).ps,entry:=(enX s).en.drop s.par.aK.toNat,ai:=(enY s r t).ds,exit:=(enY s r t).ex } else s
def enR (s:Zg)(r:Zi)(t:Int):Zi:=if r.quo then { r with out:=(enY s r t).out,started:=(enY s r t).go } else r
def Jm (p:Ze)(ms:List Zc)(ep:Int)(m:Zl):Zl :=
 if m.state=1/\m.ends<=ep then (if Znj p.aI (Jd ms m.yes) (Jd ms m.no) (Uu ms) then { m with state:=2,due:=min (ep+p.aN) 2147483647 } else { m with state:=4 }) else m
def Zlc (p:Ze)(ms:List Zc)(ep:Int)(l:List Zl):List Zl:=l.map (Jm p ms ep)
def Zea (m:Zl)(done:Bool):Zl:={ m with state:=if done then 3 else 4 }
def Zhw (l:List Zl)(i:Int)(done:Bool):List Zl×Int :=
 if 0<=i/\i<(l.length:Int) then (if (gr Yb l i.toNat).state=2 then (l.set i.toNat (Zea (gr Yb l i.toNat) done),0) else ([],291)) else ([],230)
structure MoX where
 par:Ze
 tr:Int
 ps:List Int
 em:Bool
 mo:List Zl
 dn:List Int
def moB (m:Zl)(tr:Int):Bool:=decide (m.what≠2)||decide (m.amt<=tr)
def YX (m:Zl)(x:MoX):MoX :=
 if m.what=3 then { x with em:=true } else if m.what=4 then { x with em:=false } else if m.what=1 then { x with par:=m.par }
 else if m.what=2/\m.amt<=x.tr then { x with tr:=x.tr-m.amt,ps:=x.ps.set m.to.toNat (at0 x.ps m.to.toNat+m.amt) } else x
def Zco (i:Nat)(x:MoX):MoX :=
 { YX (gr Yb x.mo i) x with mo:=x.mo.set i (Zea (gr Yb x.mo i) (moB (gr Yb x.mo i) x.tr)),dn:=if moB (gr Yb x.mo i) x.tr then x.dn++[(i:Int)] else x.dn }
def moK (W:List Int)(x:MoX):Nat->MoX
 | 0=>x
 | k+1=>Zco (at0 W k).toNat (moK W x k)
def moL (s:Zg):List Zl:=Zlc s.par s.ae s.ep s.ah
def moW (s:Zg)(r:Zi):List Int:=Wh (moL s) s.ep r.quo (moL s).length
def moX (s:Zg)(r:Zi)(k:Nat):MoX:=moK (moW s r) ⟨s.par,s.an,s.ag,s.aT,moL s,r.done⟩ k
def Yjz (s:Zg)(r:Zi)(k:Nat):Zg:={ s with par:=(moX s r k).par,an:=(moX s r k).tr,ag:=(moX s r k).ps,aT:=(moX s r k).em,ah:=(moX s r k).mo }
def Yuw (s:Zg)(r:Zi)(k:Nat):Zi:={ r with done:=(moX s r k).dn }
def moS (s:Zg)(r:Zi):Zg:=Yjz s r (moW s r).length
def moR (s:Zg)(r:Zi):Zi:=Yuw s r (moW s r).length
def Zyd (s:Zg)(k:Nat):Zg:={ s with ae:=(clN s.par (s.ae,s.ag) k).1,ag:=(clN s.par (s.ae,s.ag) k).2 }
def ajS (s:Zg):Zg:=Zyd s s.ae.length
def WN (s:Zg)(k:Nat):Zg:={ s with ae:=upN (Gm s.par) s.ae k }
def seS (s:Zg):Zg:={ WN s s.ae.length with ring:=GE s.ring s.marks,marks:=List.replicate 16 0,ep:=s.ep+1 }
def r0P (s:Zg):Zi:=⟨s.ep,0,false,0,0,0,0,0,0,0,[],[],[],[]⟩
def atP (s:Zg):Int:=min (s.ep+s.par.wait) 2147483647
def Yfz (t:Int)(x:Zg×Zi):Zg×Zi:=(ejS x.1 t x.1.ae.length,ejR x.1 x.2 x.1.ae.length)
def tk2 (s:Zg):Zg×Zi:=(wgS s,wgR s (r0P s))
def tk3 (s:Zg):Zg×Zi:=(mtS (tk2 s).1 (tk2 s).2,mtR (tk2 s).1 (tk2 s).2)
def tk4 (s:Zg):Zg×Zi:=(fnS (tk3 s).1 (tk3 s).2,fnR (tk3 s).1 (tk3 s).2 (tk3 s).1.ae.length)
def tk5 (s:Zg):Zg×Zi:=Yfz (atP s) (tk4 s)
def tk7 (s:Zg):Zg×Zi:=(lvS (tk5 s).1 (atP s),lvR (tk5 s).1 (tk5 s).2)
def tk8 (s:Zg):Zg×Zi:=(enS (tk7 s).1 (tk7 s).2 (atP s),enR (tk7 s).1 (tk7 s).2 (atP s))
def tk9 (s:Zg):Zg×Zi:=(moS (tk8 s).1 (tk8 s).2,moR (tk8 s).1 (tk8 s).2)
def US (s:Zg):Zg×Zi:=if (tk9 s).1.par=s.par then tk9 s else Yfz (atP s) (ajS (tk9 s).1,(tk9 s).2)
def WM (s:Zg):Zg:=seS (US s).1
def WH (s:Zg):Zi:=(US s).2
def Ydt:Zi:=⟨0,0,false,0,0,0,0,0,0,0,[],[],[],[]⟩
def VC (s:Zg):Int:=if YY s then (if 1073741824<=s.ep then 200 else 0) else 291
variable {L:Own} {h:PH} {K:PK}
abbrev moB' (bo cap:Nat)(ql:List QM):Zn:=⟨bo,120,ql.flatMap YQ,cap⟩
abbrev mfB (b5:Nat)(done:Bool):Zn:=⟨b5,4,[.bool done],1⟩
theorem Zjv {ql:List QM}{k:Nat}(a b:Value)(m:Zl):(ql.set k (a,b,m)).map (fun x=>x.2.2)=(ql.map (fun x=>x.2.2)).set k m:=by rw[List.map_set]
theorem GP {ql:List QM}{k:Nat}{q:QM}{h:PH}(hm:YU h ql)(hq:Zr h q):YU h (ql.set k q):=fun x hx=>by
 rcases List.mem_or_eq_of_mem_set hx with hx|rfl
 ·exact hm x hx
 ·exact hq
theorem Zrd {ql:List QM}{k:Nat}(hk:k<ql.length)(st:Int):(ql.flatMap YQ).set (k*33+30) (.int .i64 st)=(ql.set k ((gr Z0 ql k).1,(gr Z0 ql k).2.1,{ (gr Z0 ql k).2.2 with state:=st })).flatMap YQ :=
 Wj Ya Z0 ql (i:=k) (m:=30) hk qh (by simp [YQ,Jj])
theorem Ykh {ql:List QM}{k:Nat}(hk:k<ql.length)(due:Int):(ql.flatMap YQ).set (k*33+29) (.int .i64 due)=(ql.set k ((gr Z0 ql k).1,(gr Z0 ql k).2.1,{ (gr Z0 ql k).2.2 with due:=due })).flatMap YQ :=
 Wj Ya Z0 ql (i:=k) (m:=29) hk qh (by simp [YQ,Jj])
theorem JI {h:PH}{q:QM}(hq:Zr h q){st due:Int}(hs:0<=st/\st<=100)(hd : -9223372036854775808<=due/\due<=9223372036854775807):Zr h (q.1,q.2.1,{ q.2.2 with state:=st,due:=due }) :=
 ⟨hq.y,hq.n,hq.ok.a,fun z hz=>by
  have hn:=hq.ok.n;simp only[List.forall_mem_cons]at hn;simp only[List.mem_cons,List.not_mem_nil,or_false]at hz
  rcases hz with rfl|rfl|rfl|rfl|rfl|rfl<;>omega,hq.ok.p⟩
theorem G1 {ql:List QM}{ms:List Zl}(hq:ql.map (fun x=>x.2.2)=ms){k:Nat}(hk:k<ms.length):(gr Z0 ql k).2.2=gr Yb ms k:=by
 subst hq;have hk':k<ql.length:=qA;rw[Ye hk',Ye (by simpa using hk'),List.getElem_map]
theorem Zxb {ql:List QM}{bo cap b5 k:Nat}{done:Bool}(hkl:k<ql.length)(hl:ql.length<=1000)(hm:YU h ql)
  (hyes:(gr Z0 ql k).2.2.state=2->K (.int .i64 0) (moB' bo cap (ql.set k ((gr Z0 ql k).1,(gr Z0 ql k).2.1,Zea (gr Z0 ql k).2.2 done))::mfB b5 done::L) h)
  (hno:¬(gr Z0 ql k).2.2.state=2->K (.int .i64 291) (moB' bo cap ql::mfB b5 done::L) h) :
  Zb Tryz.prog 320 [.pointer (some ⟨bo,k*33,none⟩),.pointer (some ⟨b5,0,none⟩)] (moB' bo cap ql::mfB b5 done::L) h K:=by
 have g30:∀(K:Value->Prop) (t:Zm K),VE (ql.flatMap YQ) (k*33+30) K t=K (.int .i64 (gr Z0 ql k).2.2.state):=fun K t=>Yu Ya Z0 ql hkl qh rfl K t;have hk33:=YC (n:=ql.length) (w:=33) hkl (m:=32) qh;have hsum:(ql.map fun a=>(YQ a).length).sum=ql.length*33:=zy;refine eH Tryz.func320 fun ap nd=>?_;have hbo:h bo=noC:=ap.1;have hb5:h b5=noC:=ap.2.1;have nb:bo≠b5:=Ne.symm nd.1.1;clear ap nd;refine lz ?_;by_cases c:(gr Z0 ql k).2.2.state=2
 ·have hy:=hyes c;have s1:=Zrd hkl 4;refine lz ?_;refine⟨qf,?_⟩;rw[s1];have hkl2:k<(ql.set k ((gr Z0 ql k).1,(gr Z0 ql k).2.1,{ (gr Z0 ql k).2.2 with state:=4 })).length:=by rw[List.length_set];exact hkl
  cases done with
  | false =>
   refine xx ?_;exact ZP hy
  | true =>
   have s2:=Zrd hkl2 3;have e2:gr Z0 (ql.set k ((gr Z0 ql k).1,(gr Z0 ql k).2.1,{ (gr Z0 ql k).2.2 with state:=4 })) k=((gr Z0 ql k).1,(gr Z0 ql k).2.1,{ (gr Z0 ql k).2.2 with state:=4 }):=by rw[Ye hkl2,List.getElem_set_self]
   rw[e2,List.set_set]at s2;refine xx ?_;refine⟨by rw[<- List.map_set (f:=fun a=>(YQ a).length),<- List.length_flatMap,Z1 Ya,List.length_set];omega,?_⟩;rw[s2];exact ZP hy
 ·have hn:=hno c;refine xx ?_;exact ZP hn
theorem Ygq {ql:List QM}{ms:List Zl}{b5:Nat}(v:Value)(hv:Zd YQ 33 h v ql)(hq:ql.map (fun x=>x.2.2)=ms)(hm:YU h ql)(hl:ql.length<=1000)(hb:∀m∈ms,m.yes.length<=1000/\m.no.length<=1000)(i:Int)(hi : -9223372036854775808<=i/\i<=9223372036854775807)(done:Bool)
  (hk:∀h' r ql',PH.le h h'->Zd YQ 33 h' r ql'->ql'.map (fun x=>x.2.2)=(Zhw ms i done).1->YU h' ql'->K (.tuple #[r,.int .i64 (Zhw ms i done).2]) L h') :
  Zb Tryz.prog 319 [v,.int .i64 i,.func (.func 320) #[] #[.pointer (some ⟨b5,0,none⟩)]] (mfB b5 done::L) h K:=by
 have hql:ql.length=ms.length:=qW;have hv0:=hv;obtain⟨va,vc,rfl,_⟩:=hv.open;have bad:∀h' e,PH.le h h'->Zhw ms i done=([],e)->K (.tuple #[.slice none 0 0,.int .i64 e]) L h':=fun h' e le eq=>by
  have:=hk h' (.slice none 0 0) [] le (Zd.nil Ya h') (by rw[eq];rfl) (fun x hx=>zh);rw[eq]at this;exact this
 refine Zbq Tryz.func319 rfl (rs:=[_,_]) rfl rfl G7 qg rfl rfl fun ap nd=>?_;clear ap nd;refine xx ?_;refine Gh _ _ _ ?_;rw[hql]at hv0 ⊢
 cases q1:wi i 0 ((ms.length:Int)-1) with
 | false =>
  have:=bad h 230 (PH.le_refl _) (by rw[Zhw,if_neg (fun c=>by rw[show wi i 0 ((ms.length:Int)-1)=true from wi_iff.2 qf]at q1;cases q1)]);refine xx ?_;exact ZO (ZP this)
 | true =>
 have q1':=wi_iff.1 q1;obtain⟨k,rfl⟩:=Int.eq_ofNat_of_zero_le q1'.1;have hkl:k<ms.length:=qf;have ev:Zhw ms k done=if (gr Yb ms k).state=2 then (ms.set k (Zea (gr Yb ms k) done),0) else ([],291):=by
  rw[Zhw,if_pos qf];rfl
 refine xx ?_;refine Zb.apn (Zqv _ hv0 hq hm hl hb fun h5 o ql' le5 oko apo eq' mo' ap nd=>?_);have hql':ql'.length=ms.length:=by rw[<- eq',List.length_map]
 obtain⟨bo,co,rfl⟩:∃bt cap,o=some (bt,cap):=by
  cases o with
  | none=>have:ms.length=0:=oko;omega
  | some p=>exact⟨_,_,rfl⟩
 have hbo:h5 bo=noC:=apo.2;clear ap nd;rw[Z7];simp only[ovs];refine xx ?_;have egr:=G1 eq' hkl;refine Zb.ap (Zxb qf qf mo' (fun c ap=>?_) (fun c ap=>?_))
 ·have hbo6:h5 bo=noC:=ap.1;clear ap;rw[egr]at c;rw[if_pos c]at ev;rw[egr];refine xx ?_;refine Yv (e:=120) (sz:=33) (n:=ms.length) (o:=some (bo,co)) oko (by rw[Z1 Ya,List.length_set,hql']) qf (L0:=[]) ⟨trivial,hbo6⟩ fun h7 le7 sl=>ZO (ZP ?_);have hq2:=Ye (z:=Z0) (l:=ql') (i:=k) qf;have him:Zr h5 (gr Z0 ql' k):=mo' _ (by rw[hq2];exact List.getElem_mem _);have him2:Zr h5 ((gr Z0 ql' k).1,(gr Z0 ql' k).2.1,Zea (gr Yb ms k) done):=by
   rw[<- egr];exact JI him (st:=if done then 3 else 4) (by cases done<;>decide) (him.ok.n _ qj)
  have:=hk h7 _ (ql'.set k ((gr Z0 ql' k).1,(gr Z0 ql' k).2.1,Zea (gr Yb ms k) done)) (le5.trans le7) (by have:=Zd.pub (f:=YQ) (w:=33) (l:=ql'.set k ((gr Z0 ql' k).1,(gr Z0 ql' k).2.1,Zea (gr Yb ms k) done)) (o:=some (bo,co)) Ya (by rw[List.length_set,hql'];exact sl);rwa [List.length_set,hql']at this) (by rw[Zjv,eq',ev]) (fun x hx=>(GP mo' him2 x hx).up le7);rw[ev]at this;exact this
 ·clear ap;rw[egr]at c;rw[if_neg c]at ev;have:=bad h5 291 le5 ev;refine xx ?_;exact ZO (ZO (ZP this))
theorem Zol {ql:List QM}{ms:List Zl}(v:Value)(hv:Zd YQ 33 h v ql)(hq:ql.map (fun x=>x.2.2)=ms)(hm:YU h ql)(hl:ql.length<=1000)(hb:∀m∈ms,m.yes.length<=1000/\m.no.length<=1000)(i:Int)(hi : -9223372036854775808<=i/\i<=9223372036854775807)(done:Bool)
  (hk:∀h' r ql',PH.le h h'->Zd YQ 33 h' r ql'->ql'.map (fun x=>x.2.2)=(Zhw ms i done).1->YU h' ql'->K (.tuple #[r,.int .i64 (Zhw ms i done).2]) L h') :
  Zb Tryz.prog 222 [v,.int .i64 i,.bool done] L h K:=by
 refine eF Tryz.func222 ?_;refine xx ?_;refine ZY fun b5 nb5 zb5=>?_;(try simp only[ZS]at nb5);refine xx ?_;refine Ygq v hv hq hm hl hb i hi done fun h' r ql' le i1 i2 i3=>?_;have:=hk h' r ql' le i1 i2 i3;refine xx ?_;exact ZP this
theorem Zck {ps:List Int}{i:Nat}{a:Int}(hi:i<ps.length):tot (ps.set i (at0 ps i+a))=tot ps+a:=by rw[Gf hi];omega
theorem Zoo {ps:List Int}{i:Nat}{a:Int}(hp:∀j,0<=at0 ps j)(ha:0<=a)(hi:i<ps.length)(j:Nat):0<=at0 (ps.set i (at0 ps i+a)) j:=by
 have h0:=hp j;have h1:=hp i;rw[Wz _ _ _ _ hi];split<;>omega
theorem Ga {ms:List Zc}{i:Nat}(hi:i<ms.length)(m:Zc):tot ((ms.set i m).map Zc.bal)=tot (ms.map Zc.bal)+(m.bal-(gr ZQ ms i).bal):=by
 rw[List.map_set,Gf zn,WI hi]
theorem UF (xs ys:List Int):tot (xs++ys)=tot xs+tot ys:=by
 rw[Zia,Zia,Zia,List.sum_append]
structure Zz (ms:List Zc)(ps:List Int):Prop where
 m:∀x∈ms,Zf x
 o:∀x∈ms,0<=x.owner/\x.owner<ps.length
 p:∀i,0<=at0 ps i
theorem Zz.ok {ms:List Zc}{ps:List Int}(h:Zz ms ps)(ht:tot ps+tot (ms.map Zc.bal)<=4611686018427387904):ZD ms ps:=⟨h.m,h.o,h.p,ht⟩
theorem Zz.setM {ms:List Zc}{ps:List Int}(h:Zz ms ps)(i:Nat){m:Zc}(hm:Zf m)(ho:0<=m.owner/\m.owner<ps.length):Zz (ms.set i m) ps :=
 ⟨fun x hx=>by
  rcases List.mem_or_eq_of_mem_set hx with hx|rfl
  ·exact h.m x hx
  ·exact hm,fun x hx=>by
  rcases List.mem_or_eq_of_mem_set hx with hx|rfl
  ·exact h.o x hx
  ·exact ho,h.p⟩
theorem Zz.pay {ms:List Zc}{ps:List Int}(h:Zz ms ps){i:Nat}(hi:i<ps.length){a:Int}(ha:0<=a):Zz ms (ps.set i (at0 ps i+a)) :=
 ⟨h.m,fun x hx=>by rw[List.length_set];exact h.o x hx,Zoo h.p ha hi⟩
theorem Zz.at {ms:List Zc}{ps:List Int}(h:Zz ms ps){i:Nat}(hi:i<ms.length):Zf (gr ZQ ms i)/\0<=(gr ZQ ms i).owner/\(gr ZQ ms i).owner<ps.length:=⟨h.m _ (Yp hi),h.o _ (Yp hi)⟩
theorem Zz.bal {ms:List Zc}{ps:List Int}(h:Zz ms ps):0<=tot (ms.map Zc.bal):=Ym (WA h.m)
theorem Zz.pur {ms:List Zc}{ps:List Int}(h:Zz ms ps):0<=tot ps:=Ym h.p
theorem Zz.le {ms:List Zc}{ps:List Int}(h:Zz ms ps)(i:Nat):0<=at0 ps i/\at0 ps i<=tot ps:=⟨h.p i,Yj h.p i⟩
theorem Zz.bl {ms:List Zc}{ps:List Int}(h:Zz ms ps){i:Nat}(hi:i<ms.length):0<=(gr ZQ ms i).bal/\(gr ZQ ms i).bal<=tot (ms.map Zc.bal):=by
 have h1:=Yj (WA h.m) i;have h2:=WA h.m i;rw[WI hi]at h1 h2;exact⟨h2,h1⟩
theorem Ycf {p:Ze}(ok:Zj p){m:Zc}(mo:Zf m){a:Int}(ha:0<=a):Zf (Uq p m a).1/\(Uq p m a).1.owner=m.owner/\(Uq p m a).1.status=m.status/\0<=(Uq p m a).2/\(Uq p m a).2<=a/\(Uq p m a).1.bal+(Uq p m a).2=m.bal+a:=by
 have hb:=mo.u m.bal qj;have he:=mo.u m.eff qj;have hs:=mo.u m.score qj;have hn1:=mo.n m.ak qj;have hn2:=mo.n m.owner qj;have hn3:=mo.n m.status qj;have hc:=ok.w p.cap qB;have hf:0<=Wf p.cap m.bal/\(Wf p.cap m.bal=0\/m.bal+Wf p.cap m.bal=p.cap):=by unfold Wf;split<;>omega
 refine⟨⟨fun z hz=>?_,fun z hz=>?_⟩,rfl,rfl,?_,?_,?_⟩
 ·simp only[Uq,List.mem_cons,List.not_mem_nil,or_false]at hz;rcases hz with rfl|rfl|rfl<;>omega
 ·simp only[Uq,List.mem_cons,List.not_mem_nil,or_false]at hz;rcases hz with rfl|rfl|rfl<;>omega
 ·show 0<=a-min a (Wf p.cap m.bal);omega
 ·show a-min a (Wf p.cap m.bal)<=a;omega
 ·show m.bal+min a (Wf p.cap m.bal)+(a-min a (Wf p.cap m.bal))=_;omega
theorem Yqr (p:Ze)(i:Nat)(a:Int)(x:List Zc×List Int):(Jx p i a x).1.length=x.1.length/\(Jx p i a x).2.length=x.2.length:=⟨List.length_set,List.length_set⟩
theorem py_ok {p:Ze}(ok:Zj p){x:List Zc×List Int}(h:Zz x.1 x.2){i:Nat}(hi:i<x.1.length){a:Int}(ha:0<=a) :
  Zz (Jx p i a x).1 (Jx p i a x).2/\tot (Jx p i a x).2+tot ((Jx p i a x).1.map Zc.bal)=tot x.2+tot (x.1.map Zc.bal)+a:=by
 obtain⟨mo,o1,o2⟩:=h.at hi;obtain⟨g1,g2,g3,g4,g5,g6⟩:=Ycf ok mo ha;have hj:(gr ZQ x.1 i).owner.toNat<x.2.length:=qf;refine⟨(h.pay hj g4).setM i g1 ⟨by rw[g2];exact o1,by rw[g2,List.length_set];exact o2⟩,?_⟩;simp only[Jx];rw[Zck hj,Ga hi];omega
structure Yze (P:List Int)(x0 x:List Zc×List Int)(k:Nat):Prop where
 l1:x.1.length=x0.1.length
 l2:x.2.length=x0.2.length
 b:Zz x.1 x.2
 t:tot x.2+tot (x.1.map Zc.bal)=tot x0.2+tot (x0.1.map Zc.bal)+YE P k
 s:∀j,(gr ZQ x.1 j).status=(gr ZQ x0.1 j).status/\(gr ZQ x.1 j).owner=(gr ZQ x0.1 j).owner
theorem Yhm {p:Ze}(ok:Zj p){W:List Nat}{P:List Int}{x:List Zc×List Int}(h:Zz x.1 x.2)(hW:∀i∈W,i<x.1.length)(hP:∀i,0<=at0 P i):∀k,k<=W.length->Yze P x (mtK p W P x k) k
 | 0,_=>⟨rfl,rfl,h,by simp [mtK,YE],fun _=>⟨rfl,rfl⟩⟩
 | k+1,hk=>by
  have ih:=Yhm ok h hW hP k qf;have hi:W.getD k 0<x.1.length:=by
   rw[List.getD_eq_getElem?_getD,List.getElem?_eq_getElem qf,Option.getD_some];exact hW _ (List.getElem_mem _)
  have hi2:W.getD k 0<(mtK p W P x k).1.length:=by rw[ih.l1];exact hi
  have hl:=Yqr p (W.getD k 0) (at0 P k) (mtK p W P x k);obtain⟨g1,g2⟩:=py_ok ok ih.b hi2 (hP k);refine⟨hl.1.trans ih.l1,hl.2.trans ih.l2,g1,?_,fun j=>?_⟩
  ·rw[YE,<- Int.add_assoc,<- ih.t];exact g2
  ·rw[mtK];simp only[Jx];rw[VU hi2];obtain⟨e1,e2⟩:=ih.s j;split
   ·rename_i e;subst e;exact⟨e1,e2⟩
   ·exact⟨e1,e2⟩
theorem Yax {l:List Zc}{ks:List Int}{n i:Nat}(hi:i∈thI l ks n):i<n:=Yrt (List.mem_filter.1 hi).1
theorem Ykm {l:List Zc}{ks:List Int}{n i:Nat}(hi:i∈thI l ks n):Uf (gr ZQ l i)/\Wm ks i=true:=by
 have h1:=List.mem_filter.1 hi;have h2:=Yqh h1.1;simp only[Jf,decide_eq_true_eq]at h2;exact⟨h2,h1.2⟩
theorem GV {p:Ze}(ok:Zj p)(hr:Yo p=true){m:Zc}(mo:Zf m)(mode:Int):Zf (U4 p m mode)/\0<=YV p m mode/\YV p m mode<=m.bal/\0<=VR p (YV p m mode)/\VR p (YV p m mode)<=YV p m mode:=by
 have hb:=mo.u m.bal qj;have he:=mo.u m.eff qj;have hs:=mo.u m.score qj;have hn1:=mo.n m.ak qj;have hn2:=mo.n m.owner qj;have hn3:=mo.n m.status qj;have hf:=Ybl ok hr mo mode;have hps:=Yc hr;have hbu:=Yld (p:=p) (n:=YV p m mode) ⟨hf.1,qf⟩ qf;refine⟨⟨fun z hz=>?_,fun z hz=>?_⟩,hf.1,hf.2,hbu.1,hbu.2.1⟩
 ·simp only[U4,List.mem_cons,List.not_mem_nil,or_false]at hz;rcases hz with rfl|rfl|rfl<;>omega
 ·simp only[U4,List.mem_cons,List.not_mem_nil,or_false]at hz;rcases hz with rfl|rfl|rfl<;>omega
theorem Yhz {p:Ze}(ok:Zj p)(hr:Yo p=true)(ks:List Int)(mode:Int)(k:Nat){m:Zc}(mo:Zf m):Zf (fnF p ks mode k m):=by
 unfold fnF;split
 ·exact(GV ok hr mo mode).1
 ·exact mo
theorem Yjo (p:Ze)(ks:List Int)(mode:Int)(k:Nat)(m:Zc):(fnF p ks mode k m).owner=m.owner/\(fnF p ks mode k m).status=m.status:=by
 unfold fnF;split
 ·exact⟨rfl,rfl⟩
 ·exact⟨rfl,rfl⟩
theorem Yjb {p:Ze}(ok:Zj p)(hr:Yo p=true)(ks:List Int)(mode:Int){ms:List Zc}(hm:∀x∈ms,Zf x):∀k,k<=ms.length->0<=fnU p ks mode ms k/\fnU p ks mode ms k<=fnT p ks mode ms k/\fnT p ks mode ms k+tot ((upI (fnF p ks mode) ms k).map Zc.bal)=tot (ms.map Zc.bal)
 | 0,_=>⟨Int.le_refl _,Int.le_refl _,by simp [fnT,upI]⟩
 | k+1,hk=>by
  obtain⟨h1,h2,h3⟩:=Yjb ok hr ks mode hm k qf;have hl:=WY (fnF p ks mode) ms k;have hb:=Ga (ms:=upI (fnF p ks mode) ms k) (i:=k) qf (fnF p ks mode k (gr ZQ ms k));rw[Jn _ _ qf]at hb;obtain⟨_,g1,g2,g3,g4⟩:=GV ok hr (hm _ (Yp (z:=ZQ) (k:=k) qf)) mode;rw[upI,hb,fnT,fnU];by_cases c:fnC ks k (gr ZQ ms k)
  ·rw[if_pos c,if_pos c,fnF,if_pos c];refine⟨qf,qf,?_⟩;show _+(_+((gr ZQ ms k).bal-YV p (gr ZQ ms k) mode-_))=_;omega
  ·rw[if_neg c,if_neg c,fnF,if_neg c];exact⟨h1,h2,qf⟩
theorem Yft (p:Ze)(ks:List Int)(mode:Int)(k:Nat)(m:Zc):(wgF p ks mode k m).owner=m.owner/\(wgF p ks mode k m).status=m.status/\(wgF p ks mode k m).bal=m.bal/\(wgF p ks mode k m).eff=m.eff:=by
 unfold wgF W8;split
 ·split
  ·exact⟨rfl,rfl,rfl,rfl⟩
  ·exact⟨rfl,rfl,rfl,rfl⟩
 ·exact⟨rfl,rfl,rfl,rfl⟩
theorem Yjl {m:Zc}(mo:Zf m){r:Int}(h0:0<=r/\r<=100):Zf (V5 m r):=by
 have hs:=mo.u m.score qj;have hn2:=mo.n m.owner qj;refine⟨fun z hz=>?_,fun z hz=>?_⟩
 ·simp only[V5,List.mem_cons,List.not_mem_nil,or_false]at hz;rcases hz with rfl|rfl|rfl<;>omega
 ·simp only[V5,List.mem_cons,List.not_mem_nil,or_false]at hz;rcases hz with rfl|rfl|rfl<;>omega
structure Yzc (x0 x:List Zc×List Zh)(k:Nat):Prop where
 l1:x.1.length=x0.1.length
 m:∀y∈x.1,Zf y
 d:∀y∈x.2,Zs y
 n:x.2.length<=x0.2.length+k
 t:Y9 x.2+tot (x.1.map Zc.bal)=Y9 x0.2+tot (x0.1.map Zc.bal)
 o:∀j,(gr ZQ x.1 j).owner=(gr ZQ x0.1 j).owner
theorem Gv {t:Int}(ht:0<=t/\t<=2147483647){m:Zc}(mo:Zf m):Zs (VB t m):=by
 have hb:=mo.u m.bal qj;have hn:=mo.n m.owner qj
 exact⟨hb,fun z hz=>by
  simp only[VB,List.mem_cons,List.not_mem_nil,or_false]at hz
  rcases hz with rfl|rfl<;>omega⟩
theorem Ybj {t:Int}(ht:0<=t/\t<=2147483647){W:List Int}{x:List Zc×List Zh}(hm:∀y∈x.1,Zf y)(hd:∀y∈x.2,Zs y)(hW:∀i∈W,0<=i/\i<x.1.length)(hT:Y9 x.2+tot (x.1.map Zc.bal)<=4611686018427387904):∀k,k<=W.length->Yzc x (lvK t W x k) k
 | 0,_=>⟨rfl,hm,hd,by simp [lvK],rfl,fun _=>rfl⟩
 | k+1,hk=>by
  have ih:=Ybj ht hm hd hW hT k qf;have hi:=hW (at0 W k) wS;obtain⟨i,he⟩:=Int.eq_ofNat_of_zero_le hi.1;rw[lvK,he];have hi2:i<(lvK t W x k).1.length:=by rw[ih.l1];omega
  have mo:=ih.m _ (Yp (z:=ZQ) hi2);have hb:=mo.u (gr ZQ (lvK t W x k).1 i).bal qj;have hbt:=Yj (WA ih.m) i;rw[WI hi2]at hbt;have h3:=ih.t;obtain⟨d1,_,d3⟩:=Zly (M:=Y9 (lvK t W x k).2) (n:=x.2.length+k) ⟨ih.d,Int.le_refl _,ih.n⟩ (Gv ht mo) (by show _+(gr ZQ (lvK t W x k).1 i).bal<=_;omega);refine⟨by simp only[Zat,Int.toNat_natCast,List.length_set];exact ih.l1,fun y hy=>?_,d1,d3,?_,fun j=>?_⟩
  ·simp only[Zat,Int.toNat_natCast]at hy;rcases List.mem_or_eq_of_mem_set hy with hy|rfl
   ·exact ih.m y hy
   ·exact Yjl mo qh
  ·simp only[Zat,Int.toNat_natCast];rw[Zbp,Ga hi2];show _+(gr ZQ (lvK t W x k).1 i).bal+(_+(0-_))=_;omega
  ·simp only[Zat,Int.toNat_natCast];rw[VU hi2];split
   ·rename_i e;subst e;exact ih.o j
   ·exact ih.o j
theorem Zbd {l:List Zh}{ps:List Int}(hp:∀i,0<=at0 ps i)(hl:∀x∈l,0<=x.au/\x.au<ps.length/\0<=x.amt):∀k,k<=l.length->(dpK l ps k).length=ps.length/\(∀i,0<=at0 (dpK l ps k) i)/\tot (dpK l ps k)=tot ps+YE (l.map Zh.amt) k
 | 0,_=>⟨rfl,hp,by simp [dpK,YE]⟩
 | k+1,hk=>by
  obtain⟨h1,h2,h3⟩:=Zbd hp hl k qf;have hx:=hl _ (Yp (z:=ZT) (k:=k) (l:=l) qf);have hj:(gr ZT l k).au.toNat<(dpK l ps k).length:=qf;rw[dpK];refine⟨by rw[List.length_set];exact h1,Zoo h2 hx.2.2 hj,?_⟩;rw[Zck hj,YE,Znh qf,h3];omega
theorem Zhk {l:List Int}(h0:∀i,0<=at0 l i){k:Nat}(hk:k<=l.length):0<=YE l k/\YE l k<=tot l:=⟨VZ h0 k,Gz h0 hk⟩
def JU (ms:List Zc)(l:List Int)(st:Int):Prop:=l.Nodup/\∀z,z∈l↔∃j:Nat,z=j/\j<ms.length/\(gr ZQ ms j).status=st
theorem VL {ms:List Zc}{l:List Int}{st:Int}(h:JU ms l st){z:Int}(hz:z∈l):0<=z/\z<ms.length/\(gr ZQ ms z.toNat).status=st:=by
 obtain⟨j,rfl,h1,h2⟩:=(h.2 z).1 hz;exact⟨qf,qf,by simpa using h2⟩
theorem Ykk {ms:List Zc}{l:List Int}{st:Int}(h:JU ms l st){j:Nat}(hj:j<ms.length)(e:(gr ZQ ms j).status=st):(j:Int)∈l:=(h.2 _).2 ⟨j,rfl,hj,e⟩
theorem Ybw {l:List Int}{n:Nat}(hn:l.Nodup)(hl:∀z∈l,0<=z/\z<n):l.length<=n:=by
 have h0:((List.range n).map fun j:Nat=>(j:Int)).Nodup:=by
  rw[List.Nodup,List.pairwise_map];exact List.nodup_range.imp fun h e=>h qf
 have h1:l.Perm (((List.range n).map fun j:Nat=>(j:Int)).filter fun z=>decide (z∈l)):=by
  refine(List.perm_ext_iff_of_nodup hn (h0.filter _)).2 fun z=>?_;rw[List.mem_filter,decide_eq_true_eq];refine⟨fun hz=>⟨?_,hz⟩,fun hz=>hz.2⟩;obtain⟨h2,h3⟩:=hl z hz;exact List.mem_map.2 ⟨z.toNat,List.mem_range.2 qf,qf⟩
 rw[h1.length_eq];refine Nat.le_trans (List.length_filter_le _ _) ?_;rw[List.length_map,List.length_range];exact Nat.le_refl _
theorem WR {ms:List Zc}{l:List Int}{st:Int}(h:JU ms l st):l.length<=ms.length:=Ybw h.1 fun z hz=>by
 have:=VL h hz;omega
theorem row_iffB {s:Zg}{l:List Int}{st:Int}:Zfz s l st=true↔JU s.ae l st:=by
 constructor
 ·intro h;rw[Zfz,Bool.and_eq_true,decide_eq_true_eq]at h;obtain⟨h1,h2⟩:=h;have hp:l.Perm ((stL s.ae st s.ae.length).map fun j:Nat=>(j:Int)):=by
   refine Zau (Zdf _ _ _) (fun x hx=>?_) ?_
   ·obtain⟨j,hj,rfl⟩:=List.mem_map.1 hx;rw[stL_mem]at hj;exact Yen h1 hj.1 hj.2
   ·rw[List.length_map,h2,Zhp]
  refine⟨hp.nodup_iff.2 (Zdf _ _ _),fun z=>?_⟩;rw[hp.mem_iff,List.mem_map]
  constructor
  ·rintro⟨j,hj,rfl⟩;rw[stL_mem]at hj;exact⟨j,rfl,hj.1,hj.2⟩
  ·rintro⟨j,rfl,h3,h4⟩;exact⟨j,stL_mem.2 ⟨h3,h4⟩,rfl⟩
 ·intro h;rw[Zfz,Bool.and_eq_true,decide_eq_true_eq];refine⟨Zcj fun j hj e=>Ykk h hj e,?_⟩;rw[Zhp];have hp:l.Perm ((stL s.ae st s.ae.length).map fun j:Nat=>(j:Int)):=by
   refine(List.perm_ext_iff_of_nodup h.1 (Zdf _ _ _)).2 fun z=>?_;rw[h.2 z,List.mem_map]
   constructor
   ·rintro⟨j,rfl,h3,h4⟩;exact⟨j,stL_mem.2 ⟨h3,h4⟩,rfl⟩
   ·rintro⟨j,hj,rfl⟩;rw[stL_mem]at hj;exact⟨j,rfl,hj.1,hj.2⟩
  rw[hp.length_eq,List.length_map]
theorem Gu {ms ms':List Zc}{l:List Int}{st:Int}(h:JU ms l st)(hl:ms'.length=ms.length)(he:∀j,j<ms.length->((gr ZQ ms' j).status=st↔(gr ZQ ms j).status=st)):JU ms' l st:=by
 refine⟨h.1,fun z=>(h.2 z).trans ?_⟩
 constructor
 ·rintro⟨j,e,h1,h2⟩;exact⟨j,e,qf,(he j h1).2 h2⟩
 ·rintro⟨j,e,h1,h2⟩;exact⟨j,e,qf,(he j qf).1 h2⟩
theorem Zdv {ms:List Zc}{l:List Int}{st:Int}(h:JU ms l st){i:Nat}(hi:i<ms.length){m:Zc}(hm:m.status=st↔(gr ZQ ms i).status=st):JU (ms.set i m) l st:=by
 refine Gu h qj fun j hj=>?_;rw[VU hi];split
 ·rename_i e;subst e;exact hm
 ·exact Iff.rfl
theorem Ymp {ms:List Zc}{l:List Int}{st:Int}(h:JU ms l st){i:Nat}(hi:i<ms.length){m:Zc}(h0:(gr ZQ ms i).status≠st)(hm:m.status=st):JU (ms.set i m) (l++[(i:Int)]) st:=by
 have hni:(i:Int) ∉ l:=fun c=>h0 (by have:=(VL h c).2.2;simpa using this);refine⟨?_,fun z=>?_⟩
 ·rw[List.nodup_append];refine⟨h.1,qj,fun a ha b hb e=>hni ?_⟩;rw[List.mem_singleton]at hb;rw[<- hb,<- e];exact ha
 ·rw[List.mem_append,List.mem_singleton,h.2 z]
  constructor
  ·rintro(⟨j,rfl,h1,h2⟩ | rfl)
   ·refine⟨j,rfl,qO,?_⟩;rw[VU hi];split
    ·exact hm
    ·exact h2
   ·exact⟨i,rfl,zn,by rw[VU hi,if_pos rfl];exact hm⟩
  ·rintro⟨j,rfl,h1,h2⟩;rw[VU hi]at h2;by_cases e:j=i
   ·right;rw[e]
   ·left
    rw[if_neg e]at h2;exact⟨j,rfl,qO,h2⟩
theorem Zvq {ms:List Zc}{l:List Int}{st:Int}(h:JU ms l st){i:Nat}(hi:i<ms.length){m:Zc}(hm:m.status≠st):JU (ms.set i m) (flt l i) st:=by
 refine⟨h.1.filter _,fun z=>?_⟩;rw[flt,List.mem_filter,h.2 z,decide_eq_true_eq]
 constructor
 ·rintro⟨⟨j,rfl,h1,h2⟩,h3⟩;refine⟨j,rfl,qO,?_⟩;rw[VU hi,if_neg (fun e=>h3 (by rw[e]))];exact h2
 ·rintro⟨j,rfl,h1,h2⟩;rw[VU hi]at h2;by_cases e:j=i
  ·rw[if_pos e]at h2;exact absurd h2 hm
  ·rw[if_neg e]at h2;exact⟨⟨j,rfl,qO,h2⟩,fun c=>e qf⟩
theorem Zow {ms:List Zc}{l:List Int}{st:Int}{i:Nat}(h:JU ms ((i:Int)::l) st){m:Zc}(hm:m.status≠st):JU (ms.set i m) l st:=by
 have hi:i<ms.length:=by have:=(VL h (z:=i) qj).2.1;omega
 have hn:=List.nodup_cons.1 h.1;refine⟨hn.2,fun z=>?_⟩;have hz:=h.2 z;rw[List.mem_cons]at hz
 constructor
 ·intro hzl;obtain⟨j,rfl,h1,h2⟩:=hz.1 (.inr hzl);refine⟨j,rfl,qO,?_⟩;rw[VU hi,if_neg (fun e=>hn.1 (by rw[<- e];exact hzl))];exact h2
 ·rintro⟨j,rfl,h1,h2⟩;rw[VU hi]at h2;by_cases e:j=i
  ·rw[if_pos e]at h2;exact absurd h2 hm
  ·rw[if_neg e]at h2;rcases hz.2 ⟨j,rfl,qO,h2⟩ with c|c
   ·exact absurd qf e
   ·exact c
theorem Zyf {ms:List Zc}{m:Zc}{j:Nat}:gr ZQ (ms++[m]) j=if j=ms.length then m else gr ZQ ms j:=by
 by_cases e:j=ms.length
 ·rw[if_pos e,Ye qF];subst e;rw[List.getElem_append_right (Nat.le_refl _)];simp
 ·rw[if_neg e];by_cases hj:j<ms.length
  ·rw[Ye qF,Ye hj,List.getElem_append_left hj]
  ·rw[Zqg qF,Zqg qf]
theorem Zpk {ms:List Zc}{l:List Int}{st:Int}(h:JU ms l st){m:Zc}(hm:m.status≠st):JU (ms++[m]) l st:=by
 refine⟨h.1,fun z=>(h.2 z).trans ?_⟩
 constructor
 ·rintro⟨j,e,h1,h2⟩;exact⟨j,e,qF,by rw[Zyf,if_neg qf];exact h2⟩
 ·rintro⟨j,e,h1,h2⟩;rw[Zyf]at h2;split at h2
  ·exact absurd h2 hm
  ·exact⟨j,e,by simp at h1;omega,h2⟩
theorem GU {p:Ze}(ok:Zj p){m:Zc}(mo:Zf m){a:Int}(ha:0<=a):Zf (Ur p m a)/\(Ur p m a).owner=m.owner/\(Ur p m a).bal=m.bal+YS p m a/\0<=YS p m a/\YS p m a<=a/\((Ur p m a).status=m.status\/((m.status=4\/m.status=5)/\(Ur p m a).status=1)):=by
 have hb:=mo.u m.bal qj;have he:=mo.u m.eff qj;have hs:=mo.u m.score qj;have hn1:=mo.n m.ak qj;have hn2:=mo.n m.owner qj;have hn3:=mo.n m.status qj;have hc:=ok.w p.cap qB;have hf:0<=Wf p.cap m.bal/\(Wf p.cap m.bal=0\/m.bal+Wf p.cap m.bal=p.cap):=by unfold Wf;split<;>omega
 have ht:0<=YS p m a/\YS p m a<=a/\YS p m a<=Wf p.cap m.bal:=by unfold YS;omega
 unfold Ur;split
 ·rename_i c;refine⟨⟨fun z hz=>?_,fun z hz=>?_⟩,rfl,rfl,ht.1,ht.2.1,.inr ⟨c.2,rfl⟩⟩
  ·simp only[List.mem_cons,List.not_mem_nil,or_false]at hz;rcases hz with rfl|rfl|rfl<;>omega
  ·simp only[List.mem_cons,List.not_mem_nil,or_false]at hz;rcases hz with rfl|rfl|rfl<;>omega
 ·refine⟨⟨fun z hz=>?_,fun z hz=>?_⟩,rfl,rfl,ht.1,ht.2.1,.inl rfl⟩
  ·simp only[List.mem_cons,List.not_mem_nil,or_false]at hz;rcases hz with rfl|rfl|rfl<;>omega
  ·simp only[List.mem_cons,List.not_mem_nil,or_false]at hz;rcases hz with rfl|rfl|rfl<;>omega
structure ZF (ex:List Int)(x:ZK)(pn:Nat)(T:Int):Prop where
 b:Zz x.ms x.ps
 l1:x.ms.length<=128
 l2:x.ps.length=pn
 t:tot x.ps+tot (x.ms.map Zc.bal)=T
 e:JU x.ms x.en 1
 x:JU x.ms ex 3
theorem Zwa {p:Ze}(ok:Zj p){ex:List Int}{x:ZK}{pn:Nat}{T:Int}(h:ZF ex x pn T){i:Nat}(hi:i<x.ms.length){a au:Int}(ha:0<=a)(h0:0<=au/\au<pn):ZF ex (Zln p i a au x) pn (T+a):=by
 obtain⟨mo,o1,o2⟩:=h.b.at hi;obtain⟨g1,g2,g3,g4,g5,g6⟩:=GU ok mo ha;have hj:au.toNat<x.ps.length:=by have:=h.l2;omega
 have ht:=h.t;refine⟨(h.b.pay hj qf).setM i g1 ⟨by rw[g2];exact o1,by rw[g2,List.length_set];exact o2⟩,by simp only[Zln,List.length_set];exact h.l1,by simp only[Zln,List.length_set];exact h.l2,?_,?_,?_⟩
 ·simp only[Zln];rw[Zck hj,Ga hi,g3];omega
 ·simp only[Zln];rcases g6 with g6 | ⟨g6,g7⟩
  ·rw[if_pos g6];exact Zdv h.e hi (by rw[g6])
  ·rw[if_neg (by rw[g7];omega)];exact Ymp h.e hi qf g7
 ·simp only[Zln];refine Zdv h.x hi ?_;rcases g6 with g6 | ⟨g6,g7⟩
  ·rw[g6]
  ·rw[g7];omega
theorem Zcq {p:Ze}(ok:Zj p){ex:List Int}{x:ZK}{pn:Nat}(hpn:pn<=9223372036854775807){T:Int}(h:ZF ex x pn T){d:Zk}(ha:0<=d.amt)(h0:0<=d.au/\d.au<pn)(hm:d.new=true\/(0<=d.mem/\d.mem<x.ms.length)):ZF ex (YM p d x) pn (T+d.amt):=by
 have hj:d.au.toNat<x.ps.length:=by have:=h.l2;omega
 have ht:=h.t;unfold YM
 cases c:d.new with
 | true =>
  rw[if_pos rfl];by_cases c1:128<=x.ms.length
  ·rw[if_pos c1];refine⟨h.b.pay hj ha,h.l1,by simp only[List.length_set];exact h.l2,?_,h.e,h.x⟩;simp only;rw[Zck hj];omega
  ·rw[if_neg c1];have hl:=h.l2;refine Zwa ok (x:=⟨x.ms++[⟨0,0,0,0,d.au,4⟩],x.ps,x.en⟩) ⟨⟨fun y hy=>?_,fun y hy=>?_,h.b.p⟩,qJ,h.l2,?_,Zpk h.e qj,Zpk h.x qj⟩ (i:=x.ms.length) qj ha h0
   ·rcases List.mem_append.1 hy with hy|hy
    ·exact h.b.m y hy
    ·rw[List.mem_singleton]at hy;subst hy
     exact⟨fun z hz=>by simp at hz;omega,fun z hz=>by
      simp only[List.mem_cons,List.not_mem_nil,or_false]at hz
      rcases hz with rfl|rfl|rfl<;>omega⟩
   ·rcases List.mem_append.1 hy with hy|hy
    ·exact h.b.o y hy
    ·rw[List.mem_singleton]at hy;subst hy;simp only;omega
   ·simp only[List.map_append,List.map_cons,List.map_nil,UF,Wv,Zaf];omega
 | false =>
  rw[if_neg qh];rcases hm with hm|hm
  ·rw[c]at hm;cases hm
  ·exact Zwa ok h qf ha h0
theorem Zrz {p:Ze}(d:Zk)(x:ZK):x.ms.length<=(YM p d x).ms.length:=by
 unfold YM;split
 ·split
  ·exact Nat.le_refl _
  ·simp [Zln]
 ·simp [Zln]
theorem Yhy {p:Ze}(ok:Zj p){ex:List Int}{x:ZK}{pn:Nat}(hpn:pn<=9223372036854775807){T:Int}(h:ZF ex x pn T){l:List Zk}(hl:∀d∈l,0<=d.amt/\0<=d.au/\d.au<pn/\(d.new=true\/(0<=d.mem/\d.mem<x.ms.length))) :
  ∀k,k<=l.length->ZF ex (crK p l x k) pn (T+YE (l.map Zk.amt) k)/\x.ms.length<=(crK p l x k).ms.length
 | 0,_=>⟨by simpa [crK,YE] using h,Nat.le_refl _⟩
 | k+1,hk=>by
  obtain⟨h1,h2⟩:=Yhy ok hpn h hl k qf;obtain⟨d1,d2,d3,d4⟩:=hl _ (Yp (z:=Yg) (k:=k) (l:=l) qf);have e:at0 (l.map Zk.amt) k=(gr Yg l k).amt:=by rw[Ye qf,<- Ys qI,List.getElem_map]
  refine⟨?_,Nat.le_trans h2 (Zrz _ _)⟩;rw[YE,e,<- Int.add_assoc];exact Zcq ok hpn h1 d1 ⟨d2,d3⟩ (d4.imp id fun d4=>⟨d4.1,qf⟩)
theorem Zdw {p:Ze}(ok:Zj p)(hr:Yo p=true){m:Zc}(mo:Zf m):Zf (Wo p m).1/\(Wo p m).1.owner=m.owner/\(Wo p m).1.bal=m.bal/\((Wo p m).2=true->(Wo p m).1.status=2/\m.status=1):=by
 have hb:=mo.u m.bal qj;have he:=mo.u m.eff qj;have hs:=mo.u m.score qj;have hn1:=mo.n m.ak qj;have hn2:=mo.n m.owner qj;have hn3:=mo.n m.status qj;have hw:=Ji (Ul hr) ok hb;unfold Wo;split
 ·rename_i c;refine⟨⟨fun z hz=>?_,fun z hz=>?_⟩,rfl,rfl,fun _=>⟨rfl,c.1⟩⟩
  ·simp only[List.mem_cons,List.not_mem_nil,or_false]at hz;rcases hz with rfl|rfl|rfl<;>omega
  ·simp only[List.mem_cons,List.not_mem_nil,or_false]at hz;rcases hz with rfl|rfl|rfl<;>omega
 ·exact⟨mo,rfl,rfl,fun h=>qL⟩
structure ZM (W rest:List Int)(x0 x:StX)(pn k:Nat):Prop where
 l1:x.ms.length=x0.ms.length
 m:∀y∈x.ms,Zf y
 o:∀y∈x.ms,0<=y.owner/\y.owner<pn
 d:∀y∈x.ds,Zs y
 n:x.ds.length<=x0.ds.length+k
 t:Y9 x.ds+tot (x.ms.map Zc.bal)=Y9 x0.ds+tot (x0.ms.map Zc.bal)
 e:JU x.ms (W.drop k++rest) 1
 rx:JU x.ms x.ex 3
 u:x.out.length<=x0.out.length+k
 g:x.go.length<=x0.go.length+k
theorem Yho {p:Ze}(ok:Zj p)(hr:Yo p=true){t:Int}(ht:0<=t/\t<=2147483647){W rest:List Int}{x:StX}{pn:Nat}(h:ZM W rest x x pn 0)(hT:Y9 x.ds+tot (x.ms.map Zc.bal)<=4611686018427387904):∀k,k<=W.length->ZM W rest x (stK p t W x k) pn k
 | 0,_=>h
 | k+1,hk=>by
  have ih:=Yho ok hr ht h hT k qf;have hd:W.drop k=at0 W k::W.drop (k+1):=wQ;have hin:=VL ih.e (z:=at0 W k) (by rw[hd];simp);obtain⟨i,he⟩:=Int.eq_ofNat_of_zero_le hin.1;rw[he]at hin hd;rw[Int.toNat_natCast]at hin;rw[stK,he,Int.toNat_natCast];have hi:i<(stK p t W x k).ms.length:=qf;have ie:=ih.e;rw[hd,List.cons_append]at ie;have mo:=ih.m _ (Yp (z:=ZQ) hi);have oo:=ih.o _ (Yp (z:=ZQ) hi);obtain⟨g1,g2,g3,g4⟩:=Zdw ok hr mo;have hb:=mo.u (gr ZQ (stK p t W x k).ms i).bal qj;have hbt:=Yj (WA ih.m) i;rw[WI hi]at hbt;have h3:=ih.t;have hn:=ih.n;have hu:=ih.u;have hg:=ih.g;unfold J0
  cases c:(Wo p (gr ZQ (stK p t W x k).ms i)).2 with
  | true =>
   obtain⟨s1,s2⟩:=g4 c;rw[if_pos rfl];refine⟨by simp only[List.length_set];exact ih.l1,fun y hy=>?_,fun y hy=>?_,ih.d,qp,?_,Zow ie qf,Zdv ih.rx hi qf,qp,qJ⟩
   ·rcases List.mem_or_eq_of_mem_set hy with hy|rfl
    ·exact ih.m y hy
    ·exact g1
   ·rcases List.mem_or_eq_of_mem_set hy with hy|rfl
    ·exact ih.o y hy
    ·rw[g2];exact oo
   ·simp only;rw[Ga hi,g3];omega
  | false =>
   rw[if_neg qh];obtain⟨d1,_,d3⟩:=Zly (M:=Y9 (stK p t W x k).ds) (n:=x.ds.length+k) ⟨ih.d,Int.le_refl _,ih.n⟩ (Gv ht mo) (by show _+(gr ZQ (stK p t W x k).ms i).bal<=_;omega);refine⟨by simp only[List.length_set];exact ih.l1,fun y hy=>?_,fun y hy=>?_,d1,d3,?_,Zow ie (by simp [Zqm]),Zvq ih.rx hi (by simp [Zqm]),qJ,qp⟩
   ·rcases List.mem_or_eq_of_mem_set hy with hy|rfl
    ·exact ih.m y hy
    ·exact Ycd mo
   ·rcases List.mem_or_eq_of_mem_set hy with hy|rfl
    ·exact ih.o y hy
    ·exact oo
   ·simp only;rw[Zbp,Ga hi];show _+(gr ZQ (stK p t W x k).ms i).bal+(_+(0-_))=_;omega
structure ZC (pn:Nat)(m:Zl):Prop where
 ok:Yyq m
 f:WP m=true
 a:0<=m.au/\m.au<pn
 t:0<=m.to/\m.to<pn
theorem motFits_iff {m:Zl}:WP m=true↔YP m=true/\WF m=true/\Gn m.yes 128=true/\Gn m.no 128=true/\(if m.what=1 then Yo m.par else decide (m.par=Zhq))=true:=by
 simp only[WP,Bool.and_eq_true,and_assoc]
theorem ZC.state {pn:Nat}{m:Zl}(h:ZC pn m){st:Int}(hs:1<=st/\st<=4){due:Int}(hd:0<=due/\due<=2147483647):ZC pn { m with state:=st,due:=due }:=by
 obtain⟨f1,f2,f3,f4,f5⟩:=motFits_iff.1 h.f;refine⟨⟨h.ok.a,fun z hz=>?_,h.ok.p⟩,motFits_iff.2 ⟨?_,?_,f3,f4,f5⟩,h.a,h.t⟩
 ·have hn:=h.ok.n;simp only[List.forall_mem_cons]at hn;simp only[List.mem_cons,List.not_mem_nil,or_false]at hz;rcases hz with rfl|rfl|rfl|rfl|rfl|rfl<;>omega
 ·simp only[YP,Bool.and_eq_true,wi_iff]at f1 ⊢;exact⟨f1.1,hs⟩
 ·simp only[WF,Bool.and_eq_true,wi_iff]at f2 ⊢;exact⟨⟨f2.1.1,hd⟩,f2.2⟩
theorem ZC.fin {pn:Nat}{m:Zl}(h:ZC pn m)(b:Bool):ZC pn (Zea m b):=by
 obtain⟨f1,f2,f3,f4,f5⟩:=motFits_iff.1 h.f;simp only[WF,Bool.and_eq_true,wi_iff]at f2;exact h.state (by cases b<;>decide) f2.1.2
theorem Zvr {pn:Nat}{p:Ze}(hp:0<=p.aN){ms:List Zc}{ep:Int}(he:0<=ep){m:Zl}(h:ZC pn m):ZC pn (Jm p ms ep m):=by
 unfold Jm;split
 ·split
  ·exact h.state qh qf
  ·obtain⟨f1,f2,f3,f4,f5⟩:=motFits_iff.1 h.f;simp only[WF,Bool.and_eq_true,wi_iff]at f2;exact h.state qh f2.1.2
 ·exact h
theorem Ybh {l:List Zl}{i j:Nat}{m:Zl}(hi:i<l.length):gr Yb (l.set i m) j=if j=i then m else gr Yb l j:=by
 by_cases e:j=i
 ·subst e;rw[Ye zn,if_pos rfl,List.getElem_set_self]
 ·rw[if_neg e];by_cases hj:j<l.length
  ·rw[Ye zC,Ye hj,List.getElem_set_ne (Ne.symm e)]
  ·unfold gr;rw[List.getD_eq_getElem?_getD,List.getD_eq_getElem?_getD,List.getElem?_eq_none zC,List.getElem?_eq_none qf]
structure Yyr (W:List Int)(x0 x:MoX)(k:Nat):Prop where
 r:Yo x.par=true
 ok:Zj x.par
 tr:0<=x.tr
 l2:x.ps.length=x0.ps.length
 p:∀i,0<=at0 x.ps i
 t:tot x.ps+x.tr=tot x0.ps+x0.tr
 n:x.mo.length=x0.mo.length
 m:∀m∈x.mo,ZC x0.ps.length m
 s:∀j,k<=j->j<W.length->(gr Yb x.mo (at0 W j).toNat).state=2
 d:x.dn.length<=x0.dn.length+k
theorem Ybf {W:List Int}{x0 x:MoX}{k:Nat}(h:Yyr W x0 x k)(hW:W.Nodup)(hr:∀z∈W,0<=z/\z<x0.mo.length)(hk:k<W.length):Yyr W x0 (Zco (at0 W k).toNat x) (k+1):=by
 have hmem:at0 W k∈W:=by rw[<- Ys hk];exact List.getElem_mem hk
 have hin:=hr _ hmem;obtain⟨i,he⟩:=Int.eq_ofNat_of_zero_le hin.1;rw[he]at hin;rw[he,Int.toNat_natCast];have hi:i<x.mo.length:=by have:=h.n;omega
 obtain⟨m,hm⟩:∃m,m=gr Yb x.mo i:=⟨_,rfl⟩
 have hmr:ZC x0.ps.length m:=by rw[hm];exact h.m _ (Yp hi)
 have ht:=h.t;have htr:=h.tr;have hl:=h.l2;have hmo:∀b,∀m'∈x.mo.set i (Zea m b),ZC x0.ps.length m':=fun b m' hm'=>by
  rcases List.mem_or_eq_of_mem_set hm' with hm' | rfl
  ·exact h.m _ hm'
  ·exact hmr.fin b
 have hst:∀b,∀j,k+1<=j->j<W.length->(gr Yb (x.mo.set i (Zea m b)) (at0 W j).toNat).state=2:=fun b j h1 h2=>by
  rw[Ybh hi,if_neg]
  ·exact h.s j qf h2
  ·intro e;have hz:=hr (at0 W j) (by rw[<- Ys h2];exact List.getElem_mem h2);have e2:at0 W j=at0 W k:=by rw[he];omega
   rw[<- Ys h2,<- Ys hk]at e2;exact List.pairwise_iff_getElem.1 hW k j hk h2 qf e2.symm
 have hd:=h.d;have hdn:∀b:Bool,(if b then x.dn++[(i:Int)] else x.dn).length<=x0.dn.length+(k+1):=fun b=>by
  cases b
  ·simp only[Bool.false_eq_true,if_false];omega
  ·simp only[if_true,List.length_append,List.length_singleton];omega
 rw[Zco,<- hm];obtain⟨f1,f2,f3,f4,f5⟩:=motFits_iff.1 hmr.f;have ha:=hmr.ok.a;unfold YX;split
 ·exact⟨h.r,h.ok,h.tr,h.l2,h.p,h.t,qT,hmo _,hst _,hdn _⟩
 ·split
  ·exact⟨h.r,h.ok,h.tr,h.l2,h.p,h.t,qT,hmo _,hst _,hdn _⟩
  ·split
   ·rename_i c;rw[if_pos c]at f5;exact⟨f5,hmr.ok.p,h.tr,h.l2,h.p,h.t,qT,hmo _,hst _,hdn _⟩
   ·split
    ·rename_i c;have hj:m.to.toNat<x.ps.length:=by have:=hmr.t;omega
     refine⟨h.r,h.ok,qp,by simp only[List.length_set];exact h.l2,Zoo h.p ha.1 hj,?_,qT,hmo _,hst _,hdn _⟩;simp only;rw[Zck hj];omega
    ·exact⟨h.r,h.ok,h.tr,h.l2,h.p,h.t,qT,hmo _,hst _,hdn _⟩
theorem Yhd {W:List Int}{x:MoX}(h:Yyr W x x 0)(hW:W.Nodup)(hr:∀z∈W,0<=z/\z<x.mo.length):∀k,k<=W.length->Yyr W x (moK W x k) k
 | 0,_=>h
 | k+1,hk=>Ybf (Yhd h hW hr k qf) hW hr qf
theorem Zni (ms:List Zl)(now:Int)(qu:Bool)(k:Nat):(Wh ms now qu k).Nodup:=by
 unfold Wh;rw[List.Nodup,List.pairwise_map];exact(List.Nodup.sublist List.filter_sublist List.nodup_range).imp fun h e=>h qf
theorem Zlu {ms:List Zl}{now:Int}{qu:Bool}{k:Nat}{z:Int}(hz:z∈Wh ms now qu k):(gr Yb ms z.toNat).state=2:=by
 obtain⟨i,hi,rfl⟩:=List.mem_map.1 hz;have:=(List.mem_filter.1 hi).2;simp only[Zap,Bool.and_eq_true,decide_eq_true_eq]at this
 simpa using this.1
structure Zq (s:Zg)(D:Nat):Prop where
 r:Yo s.par=true
 ok:ZB s
 ep:0<=s.ep/\s.ep<1073741824
 be:Zz s.ae s.ag
 ml:s.ae.length<=128
 pl:s.ag.length<=64
 en:JU s.ae s.entry 1
 ex:JU s.ae s.exit 3
 dd:∀x∈s.ai,Zs x/\0<=x.au/\x.au<s.ag.length
 dn:s.ai.length<=D
 oo:∀d∈s.aj,ZG d/\0<=d.au/\d.au<s.ag.length/\(d.new=true\/(0<=d.mem/\d.mem<s.ae.length))
 on:s.aj.length<=256
 mm:∀m∈s.ah,ZC s.ag.length m
 mn:s.ah.length<=32
 mon:tot s.ag+tot (s.ae.map Zc.bal)+Y9 s.ai+tot (s.aj.map Zk.amt)+s.an+s.aG=s.gen+s.aB
 top:s.gen+s.aB<=s.most/\s.most<=4611686018427387904
theorem ZB.set {s:Zg}(h:ZB s){par:Ze}(hp:Zj par){aB aG an ep calm:Int}{most gen:Int}(h1:0<=most/\most<=18446744073709551615)(h2:0<=gen/\gen<=18446744073709551615)(h3:0<=aB/\aB<=18446744073709551615)(h4:0<=aG/\aG<=18446744073709551615)(h5:0<=an/\an<=18446744073709551615)(h6 : -9223372036854775808<=ep/\ep<=9223372036854775807)(h7 : -9223372036854775808<=calm/\calm<=9223372036854775807)
  {aT:Bool} {ag:List Int} {ae:List Zc} {entry exit:List Int} {aj:List Zk} {ai:List Zh} {ah:List Zl} {marks:List Int} {ring:List (List Int)}:ZB ⟨par,most,gen,aB,aG,an,ep,calm,aT,ag,ae,entry,exit,aj,ai,ah,marks,ring⟩ :=
 ⟨hp,fun z hz=>by
  simp only[List.mem_cons,List.not_mem_nil,or_false]at hz;rcases hz with rfl|rfl|rfl|rfl|rfl<;>assumption,fun z hz=>by
  simp only[List.mem_cons,List.not_mem_nil,or_false]at hz
  rcases hz with rfl|rfl<;>assumption⟩
theorem ZB.all {s:Zg}(h:ZB s):(0<=s.most/\s.most<=18446744073709551615)/\(0<=s.gen/\s.gen<=18446744073709551615)/\(0<=s.aB/\s.aB<=18446744073709551615)/\(0<=s.aG/\s.aG<=18446744073709551615)/\(0<=s.an/\s.an<=18446744073709551615)/\(-9223372036854775808<=s.ep/\s.ep<=9223372036854775807)/\(-9223372036854775808<=s.calm/\s.calm<=9223372036854775807):=by
 have hu:=h.u;have hn:=h.n;simp only[List.forall_mem_cons]at hu hn;exact⟨hu.1,hu.2.1,hu.2.2.1,hu.2.2.2.1,hu.2.2.2.2.1,hn.1,hn.2.1⟩
theorem Zq.parts {s:Zg}{D:Nat}(h:Zq s D):0<=tot s.ag/\0<=tot (s.ae.map Zc.bal)/\0<=Y9 s.ai/\0<=tot (s.aj.map Zk.amt)/\0<=s.an/\0<=s.aG :=
 ⟨h.be.pur,h.be.bal,Ym (Zam fun x hx=>(h.dd x hx).1),Ym (W9 Zk.amt s.aj fun x hx=>(h.oo x hx).1.a.1),(h.ok.u _ qj).1,(h.ok.u _ qj).1⟩
theorem Zq.sum {s:Zg}{D:Nat}(h:Zq s D):tot s.ag+tot (s.ae.map Zc.bal)+Y9 s.ai+tot (s.aj.map Zk.amt)+s.an+s.aG<=4611686018427387904:=by
 have:=h.mon;have:=h.top;omega
theorem fitsT_iff {s:Zg}:YY s=true↔Yo s.par=true/\wi s.ep 0 1073741824=true/\wi s.calm 0 1073741824=true/\VG s=true/\WU s=true/\VI s=true/\Ve s=true/\J1 s=true/\Wn s=true:=by
 simp only[YY,Bool.and_eq_true,and_assoc]
theorem acctT_iff {s:Zg}{i:Int}:Y8 s i=true↔0<=i/\i<s.ag.length:=by
 rw[Y8,wi_iff];omega
theorem Zts {h:PH}{v:SV}{s:Zg}(hs:Zp h v s)(hf:YY s=true)(he:s.ep<1073741824){D:Nat}(hd:s.ai.length<=D):Zq s D:=by
 obtain⟨be,hr,hep,hlen,htot⟩:=Yah hs hf;obtain⟨f1,f2,f3,f4,f5,f6,f7,f8,f9⟩:=fitsT_iff.1 hf;simp only[WU,Bool.and_eq_true]at f5;have f53:=row_iffB.1 f5.1.2;have f54:=row_iffB.1 f5.2;simp only[VI,Bool.and_eq_true,List.all_eq_true,decide_eq_true_eq,JX,Zed,List.mem_range]at f6;simp only[Ve,Bool.and_eq_true,List.all_eq_true,decide_eq_true_eq]at f7;simp only[Wn,Bool.and_eq_true,decide_eq_true_eq,Zlo,Zra,Zoy,GB,Zqk]at f9;obtain⟨q,t1,t2,t3⟩:=hs.t;refine⟨f1,hs.ok,⟨hep.1,he⟩,⟨be.m,be.o,be.p⟩,hlen.2,hlen.1,f53,f54,fun x hx=>⟨hs.dd x hx,?_⟩,hd,fun d hd=>⟨hs.oo d hd,?_⟩,f6.1.1,fun m hm=>?_,f7.1,?_,⟨f9.1.1,f9.1.2⟩⟩
 ·obtain⟨k,hk,rfl⟩:=List.mem_iff_getElem.1 hx;have:=(f6.2 k hk).1.1;rw[Ye hk]at this;simp only[V4,Bool.and_eq_true]at this;exact acctT_iff.1 this.1.1.1
 ·have:=f6.1.2 d hd;simp only[Uo,Bool.and_eq_true,Bool.or_eq_true,wi_iff]at this;have h2:=acctT_iff.1 this.1.2;exact⟨h2.1,h2.2,this.2.imp id fun c=>qf⟩
 ·have:=f7.2 m hm;have h1:=acctT_iff.1 this.1.2;have h2:=acctT_iff.1 this.2;refine⟨?_,this.1.1,h1,h2⟩;rw[<- t2]at hm;obtain⟨y,hy,rfl⟩:=List.mem_map.1 hm;exact(t3 y hy).ok
 ·have e:Y9 s.ai=tot (s.ai.map Zh.amt):=rfl;have q4:tot (s.ae.map Zc.bal)+tot s.ag+tot (s.aj.map Zk.amt)+tot (s.ai.map Zh.amt)+s.an+s.aG=s.gen+s.aB:=by first|exact f9.2|exact of_decide_eq_true f9.2
  rw[e];omega
theorem Zzo {f:Nat->Zc->Zc}(hf:∀k m,(f k m).bal=m.bal)(l:List Zc):∀k,k<=l.length->(upI f l k).map Zc.bal=l.map Zc.bal
 | 0,_=>rfl
 | k+1,hk=>by
  have e:(gr ZQ l k).bal=(l.map Zc.bal)[k]'qI:=by rw[List.getElem_map,Ye hk]
  rw[upI,List.map_set,Zzo hf l k qf,hf,e,List.set_getElem_self]
theorem Zz.upI {f:Nat->Zc->Zc}(hf:∀k m,Zf m->Zf (f k m)/\(f k m).owner=m.owner){l:List Zc}{ps:List Int}(h:Zz l ps){k:Nat}(hk:k<=l.length):Zz (upI f l k) ps:=by
 have:=Zft (f:=f) (l:=l) (fun m=>Zf m/\0<=m.owner/\m.owner<ps.length) (fun k m hm=>⟨(hf k m hm.1).1,by rw[(hf k m hm.1).2];exact hm.2⟩) (fun m hm=>⟨h.m m hm,h.o m hm⟩) k hk;exact⟨fun m hm=>(this m hm).1,fun m hm=>(this m hm).2,h.p⟩
theorem Zz.upN {f:Zc->Zc}(hf:∀m,Zf m->Zf (f m)/\(f m).owner=m.owner){l:List Zc}{ps:List Int}(h:Zz l ps){k:Nat}(hk:k<=l.length):Zz (upN f l k) ps:=by
 have:=Zaw (f:=f) (l:=l) (fun m=>Zf m/\0<=m.owner/\m.owner<ps.length) (fun m hm=>⟨(hf m hm.1).1,by rw[(hf m hm.1).2];exact hm.2⟩) (fun m hm=>⟨h.m m hm,h.o m hm⟩) k hk;exact⟨fun m hm=>(this m hm).1,fun m hm=>(this m hm).2,h.p⟩
theorem Zhe {f:Nat->Zc->Zc}(hf:∀k m,(f k m).status=m.status){l:List Zc}{q:List Int}{st:Int}(h:JU l q st){k:Nat}(hk:k<=l.length):JU (upI f l k) q st :=
 Gu h (WY f l k) fun j _=>by
  rw[Yas f l k hk j];split
  ·rw[hf]
  ·exact Iff.rfl
theorem Yaw {calm pr ac:Int}:0<=(Vo calm pr ac).1/\(Vo calm pr ac).1<=1073741824:=by
 unfold Vo;split
 ·decide
 ·simp only;omega
theorem Ydm {s:Zg}{D:Nat}(h:Zq s D):Zq (wgS s) D:=by
 have hl:(wgS s).ae.length=s.ae.length:=WY _ _ _;obtain⟨a1,a2,a3,a4,a5,a6,a7⟩:=h.ok.all;have hc:=Yaw (calm:=s.calm) (pr:=Je s) (ac:=Vi s);have hb:(wgS s).ae.map Zc.bal=s.ae.map Zc.bal:=Zzo (fun k m=>(Yft _ _ _ k m).2.2.1) _ _ (Nat.le_refl _);refine⟨h.r,ZB.set h.ok h.ok.p a1 a2 a3 a4 a5 a6 qf,h.ep,Zz.upI (fun k m hm=>⟨Zvj h.ok.p h.r _ _ k hm,(Yft _ _ _ k m).1⟩) h.be (Nat.le_refl _),by rw[hl];exact h.ml,h.pl,Zhe (fun k m=>(Yft _ _ _ k m).2.1) h.en (Nat.le_refl _),Zhe (fun k m=>(Yft _ _ _ k m).2.1) h.ex (Nat.le_refl _),h.dd,h.dn,fun d hd=>?_,h.on,h.mm,h.mn,?_,h.top⟩
 ·rw[hl];exact h.oo d hd
 ·rw[hb];exact h.mon
theorem Yrn {s:Zg}{D:Nat}(h:Zq s D){r:Zi}(ha:0<=r.act/\r.act<=18446744073709551615):0<=mtN s r/\s.gen+s.aB+mtN s r<=s.most:=by
 have:=h.top;have hb:=Yjv h.ok.p ha;unfold mtN Zbg;split
 ·omega
 ·rename_i c;omega
theorem Zwl {s:Zg}{D:Nat}(h:Zq s D)(k:Nat)(hk:k<=s.ae.length):∀x∈mtL s k,Zf x:=fun x hx=>by
 obtain⟨j,hj,rfl⟩:=List.mem_map.1 hx;exact h.be.m _ (Yp (by have:=Yax hj;omega))
theorem Yjm {s:Zg}{D:Nat}(h:Zq s D){r:Zi}(ha:0<=r.act/\r.act<=18446744073709551615):(∀i,0<=at0 (mtP s r) i/\at0 (mtP s r) i<=mtN s r)/\(mtP s r).length=(mtW s).length/\∀k,k<=(mtP s r).length->0<=YE (mtP s r) k/\YE (mtP s r) k<=mtN s r:=by
 have hn:=(Yrn h ha).1;have hm:=Zwl h s.ae.length (Nat.le_refl _);refine⟨fun i=>Zjm h.r hn hm i,by rw[mtP,UD,mtL,List.length_map];rfl,fun k hk=>?_⟩;rw[mtP,UD]at hk;exact Zib hn (fun i=>W9 (YI s.par) _ (fun x hx=>(Ykx h.r (hm x hx)).1) i) (by rw[List.length_map];exact hk)
theorem Yhx {s:Zg}:∀i∈mtW s,i<s.ae.length:=fun i hi=>Yax hi
theorem Ymd {s:Zg}{D:Nat}(h:Zq s D){r:Zi}(ha:0<=r.act/\r.act<=18446744073709551615){k:Nat}(hk:k<=(mtW s).length):Yze (mtP s r) (s.ae,s.ag) (mtX s r k) k :=
 Yhm h.ok.p h.be Yhx (fun i=>((Yjm h ha).1 i).1) k hk
theorem Zrn {s:Zg}{D:Nat}(h:Zq s D){r:Zi}(ha:0<=r.act/\r.act<=18446744073709551615){k:Nat}(hk:k<=(mtW s).length):Zq (Zil s r k) D:=by
 have hx:=Ymd h ha hk;obtain⟨hn,hn2⟩:=Yrn h ha;obtain⟨_,p2,p3⟩:=Yjm h ha;have hp:=p3 k qf;obtain⟨a1,a2,a3,a4,a5,a6,a7⟩:=h.ok.all;obtain⟨b1,b2,b3,b4,b5,b6⟩:=h.parts;have hs:=h.sum;have ht:=h.top;have hm:=h.mon;have l1:(Zil s r k).ae.length=s.ae.length:=hx.l1;have l2:(Zil s r k).ag.length=s.ag.length:=hx.l2;have e:tot (mtX s r k).2+tot ((mtX s r k).1.map Zc.bal)=tot s.ag+tot (s.ae.map Zc.bal)+YE (mtP s r) k:=hx.t;refine⟨h.r,ZB.set h.ok h.ok.p a1 a2 qf a4 qf a6 a7,h.ep,hx.b,by rw[l1];exact h.ml,by rw[l2];exact h.pl,Gu h.en l1 (fun j _=>by rw[show (gr ZQ (Zil s r k).ae j).status=_ from(hx.s j).1]),Gu h.ex l1 (fun j _=>by rw[show (gr ZQ (Zil s r k).ae j).status=_ from(hx.s j).1]),fun x hx=>by rw[l2];exact h.dd x hx,h.dn,fun d hd=>by rw[l1,l2];exact h.oo d hd,h.on,fun m hm=>by rw[l2];exact h.mm m hm,h.mn,?_,?_⟩
 ·show tot (mtX s r k).2+tot ((mtX s r k).1.map Zc.bal)+Y9 s.ai+tot (s.aj.map Zk.amt)+(s.an+mtN s r-YE (mtP s r) k)+s.aG=s.gen+(s.aB+mtN s r);omega
 ·show s.gen+(s.aB+mtN s r)<=s.most/\_;exact⟨qf,ht.2⟩
theorem Yga {s:Zg}{D:Nat}(h:Zq s D){r:Zi}(ha:0<=r.act/\r.act<=18446744073709551615):Zq (mtS s r) D:=Zrn h ha (Nat.le_refl _)
theorem Yjj {s:Zg}{D:Nat}(h:Zq s D)(r:Zi){k:Nat}(hk:k<=s.ae.length):0<=Gl s r k/\Gl s r k<=Zbb s r k/\Zbb s r k+tot ((upI (fnF s.par s.marks r.mode) s.ae k).map Zc.bal)=tot (s.ae.map Zc.bal):=Yjb h.ok.p h.r _ _ h.be.m k hk
theorem Zes {s:Zg}{D:Nat}(h:Zq s D)(r:Zi){k:Nat}(hk:k<=s.ae.length):Zq (UJ s r k) D:=by
 have hl:(UJ s r k).ae.length=s.ae.length:=WY _ _ _;obtain⟨a1,a2,a3,a4,a5,a6,a7⟩:=h.ok.all;obtain⟨b1,b2,b3,b4,b5,b6⟩:=h.parts;have hs:=h.sum;obtain⟨c1,c2,c3⟩:=Yjj h r hk;have hbe:Zz (UJ s r k).ae s.ag:=Zz.upI (fun k m hm=>⟨Yhz h.ok.p h.r _ _ k hm,(Yjo _ _ _ k m).1⟩) h.be hk;have c4:=hbe.bal;have c5:tot ((UJ s r k).ae.map Zc.bal)=tot ((upI (fnF s.par s.marks r.mode) s.ae k).map Zc.bal):=rfl;have hm:=h.mon;refine⟨h.r,ZB.set h.ok h.ok.p a1 a2 a3 a4 qf a6 a7,h.ep,hbe,by rw[hl];exact h.ml,h.pl,Zhe (fun k m=>(Yjo _ _ _ k m).2) h.en hk,Zhe (fun k m=>(Yjo _ _ _ k m).2) h.ex hk,h.dd,h.dn,fun d hd=>by rw[hl];exact h.oo d hd,h.on,h.mm,h.mn,?_,h.top⟩;show tot s.ag+tot ((UJ s r k).ae.map Zc.bal)+Y9 s.ai+tot (s.aj.map Zk.amt)+(s.an+Zbb s r k)+s.aG=s.gen+s.aB;omega
theorem Ypt {s:Zg}{D:Nat}(h:Zq s D){r:Zi}(hr:r.aC=0):Yii (UJ s r s.ae.length) (fnR s r s.ae.length).aC:=by
 obtain⟨a1,a2,a3,a4,a5,a6,a7⟩:=h.ok.all;obtain⟨b1,b2,b3,b4,b5,b6⟩:=h.parts;obtain⟨c1,c2,c3⟩:=Yjj h r (Nat.le_refl _);have c4:0<=tot ((upI (fnF s.par s.marks r.mode) s.ae s.ae.length).map Zc.bal):=(Zes h r (Nat.le_refl _)).be.bal;have hs:=h.sum;refine⟨?_,?_⟩
 ·show r.aC+Gl s r s.ae.length<=s.an+Zbb s r s.ae.length;omega
 ·show s.aG+(r.aC+Gl s r s.ae.length)<=_;omega
theorem Yfy {s:Zg}{D:Nat}(h:Zq s D){r:Zi}(hr:r.aC=0):Zq (fnS s r) D:=by
 have h1:=Zes h r (Nat.le_refl _);obtain⟨a1,a2,a3,a4,a5,a6,a7⟩:=h1.ok.all;obtain⟨c1,c2⟩:=Ypt h hr;have c0:0<=(fnR s r s.ae.length).aC:=by
  have:=(Yjj h r (Nat.le_refl _)).1;show 0<=r.aC+_;omega
 have hm:=h1.mon;refine⟨h1.r,ZB.set h1.ok h1.ok.p a1 a2 a3 qf qf a6 a7,h1.ep,h1.be,h1.ml,h1.pl,h1.en,h1.ex,h1.dd,h1.dn,h1.oo,h1.on,h1.mm,h1.mn,?_,h1.top⟩;show tot (UJ s r s.ae.length).ag+tot ((UJ s r s.ae.length).ae.map Zc.bal)+Y9 (UJ s r s.ae.length).ai+tot ((UJ s r s.ae.length).aj.map Zk.amt)+((UJ s r s.ae.length).an-(fnR s r s.ae.length).aC)+((UJ s r s.ae.length).aG+(fnR s r s.ae.length).aC)=(UJ s r s.ae.length).gen+(UJ s r s.ae.length).aB;omega
theorem Yam {pn:Nat}{l:List Zh}(hl:∀x∈l,Zs x/\0<=x.au/\x.au<pn){d:Zh}(hd:Zs d)(ha:0<=d.au/\d.au<pn)(hs:Y9 l+d.amt<=4611686018427387904):∀x∈V3 l d,Zs x/\0<=x.au/\x.au<pn:=fun x hx=>by
 have h1:=(Zly (n:=l.length) (M:=Y9 l) ⟨fun x hx=>(hl x hx).1,Int.le_refl _,Nat.le_refl _⟩ hd hs).d x hx;refine⟨h1,?_⟩;rcases Zgs hx with hx|rfl | ⟨h2,rfl⟩
 ·exact(hl x hx).2
 ·exact ha
 ·exact(hl _ (J3 h2)).2
theorem Ydu (q:Ze)(m:Zc):(ejF q m).owner=m.owner:=by
 unfold ejF;split<;>rfl
structure Yzf (q:Ze)(cs:List Zc)(xs:List Int)(ds:List Zh)(t:Int)(pn k:Nat):Prop where
 d:∀x∈duN q cs t ds k,Zs x/\0<=x.au/\x.au<pn
 n:(duN q cs t ds k).length<=ds.length+k
 t:Y9 (duN q cs t ds k)+tot ((upN (ejF q) cs k).map Zc.bal)=Y9 ds+tot (cs.map Zc.bal)
 x:JU (upN (ejF q) cs k) (exN q cs xs k) 3
theorem Ydo {q:Ze}{cs:List Zc}{ps:List Int}(hb:Zz cs ps){xs:List Int}(hx:JU cs xs 3){ds:List Zh}(hd:∀x∈ds,Zs x/\0<=x.au/\x.au<ps.length){t:Int}(ht:0<=t/\t<=2147483647)(hT:Y9 ds+tot (cs.map Zc.bal)<=4611686018427387904):∀k,k<=cs.length->Yzf q cs xs ds t ps.length k
 | 0,_=>⟨hd,by simp [duN],rfl,hx⟩
 | k+1,hk=>by
  have ih:=Ydo (q:=q) hb hx hd ht hT k qf;have hl:=Wp (ejF q) cs k;have hat:=JZ (ejF q) cs (k:=k) qf;obtain⟨mo,o1,o2⟩:=hb.at (i:=k) qf;have hbu:Zz (upN (ejF q) cs k) ps:=hb.upN (fun m hm=>⟨Zpf hm,Ydu q m⟩) qf;have hbl:=hbu.bl (i:=k) qf;rw[hat]at hbl;have h3:=ih.t;have hbs:=Ga (ms:=upN (ejF q) cs k) (i:=k) qf (ejF q (gr ZQ cs k));rw[hat]at hbs;by_cases c:ejP q (gr ZQ cs k)
  ·have e1:ejF q (gr ZQ cs k)=Zqm (gr ZQ cs k):=if_pos c;have hdo:=Gv ht mo;have hsum:Y9 (duN q cs t ds k)+(VB t (gr ZQ cs k)).amt<=4611686018427387904:=by show _+(gr ZQ cs k).bal<=_;omega
   refine⟨?_,?_,?_,?_⟩
   ·rw[duN,if_pos c];exact Yam ih.d hdo ⟨o1,o2⟩ hsum
   ·rw[duN,if_pos c];have:=Zqp (duN q cs t ds k) (VB t (gr ZQ cs k));have:=ih.n;omega
   ·rw[duN,if_pos c,Zbp,upN,hbs,e1];show _+(gr ZQ cs k).bal+(_+(0-_))=_;omega
   ·rw[upN,exN,if_pos c,e1];exact Zvq ih.x qf (by simp [Zqm])
  ·have e1:ejF q (gr ZQ cs k)=gr ZQ cs k:=if_neg c;refine⟨?_,?_,?_,?_⟩
   ·rw[duN,if_neg c];exact ih.d
   ·rw[duN,if_neg c];have:=ih.n;omega
   ·rw[duN,if_neg c,upN,hbs,e1];omega
   ·rw[upN,exN,if_neg c,e1];exact Zdv ih.x qf (by rw[hat])
theorem Zcx {s:Zg}{D:Nat}(h:Zq s D){t:Int}(ht:0<=t/\t<=2147483647){k:Nat}(hk:k<=s.ae.length):Zq (ejS s t k) (D+k):=by
 have hl:(ejS s t k).ae.length=s.ae.length:=Wp _ _ _;obtain⟨b1,b2,b3,b4,b5,b6⟩:=h.parts;have hs:=h.sum;have hm:=h.mon;have e:=Ydo (q:=s.par) (t:=t) h.be h.ex h.dd ht qf k hk;have et:Y9 (ejS s t k).ai+tot ((ejS s t k).ae.map Zc.bal)=Y9 s.ai+tot (s.ae.map Zc.bal):=e.t;refine⟨h.r,⟨h.ok.p,h.ok.u,h.ok.n⟩,h.ep,h.be.upN (fun m hm=>⟨Zpf hm,Ydu _ m⟩) hk,by rw[hl];exact h.ml,h.pl,Gu h.en hl fun j _=>?_,e.x,e.d,Nat.le_trans e.n (by have:=h.dn;omega),fun d hd=>by rw[hl];exact h.oo d hd,h.on,h.mm,h.mn,?_,h.top⟩
 ·show (gr ZQ (upN (ejF s.par) s.ae k) j).status=1↔_;rw[Zca _ _ k hk j];split
  ·unfold ejF;split
   ·rename_i c;have:=c.1;simp only[Zqm]
    constructor
    ·intro e;cases e
    ·intro e;omega
   ·exact Iff.rfl
  ·exact Iff.rfl
 ·show tot s.ag+tot ((ejS s t k).ae.map Zc.bal)+Y9 (ejS s t k).ai+tot (s.aj.map Zk.amt)+s.an+s.aG=s.gen+s.aB;omega
structure Yyx (W rest en:List Int)(pn:Nat)(x:List Zc×List Zh)(k:Nat):Prop where
 rx:JU x.1 (W.drop k++rest) 3
 e:JU x.1 en 1
 o:∀y∈x.1,0<=y.owner/\y.owner<pn
 d:∀y∈x.2,Zs y/\0<=y.au/\y.au<pn
theorem Yci {t:Int}(ht:0<=t/\t<=2147483647){W rest en:List Int}{pn:Nat}{x:List Zc×List Zh}(hm:∀y∈x.1,Zf y)(h:Yyx W rest en pn x 0)(hT:Y9 x.2+tot (x.1.map Zc.bal)<=4611686018427387904):∀k,k<=W.length->Yyx W rest en pn (lvK t W x k) k
 | 0,_=>h
 | k+1,hk=>by
  have ih:=Yci ht hm h hT k qf;have hd:W.drop k=at0 W k::W.drop (k+1):=wQ;have hW:∀i∈W,0<=i/\i<x.1.length:=fun i hi=>by
   have:=VL h.rx (z:=i) (by simp;exact .inl hi);omega
  have lv:=Ybj ht hm (fun y hy=>(h.d y hy).1) hW hT k qf;have hin:=VL ih.rx (z:=at0 W k) (by rw[hd];simp);obtain⟨i,he⟩:=Int.eq_ofNat_of_zero_le hin.1;rw[he]at hin hd;rw[Int.toNat_natCast]at hin;rw[lvK,he,Int.toNat_natCast];have hi:i<(lvK t W x k).1.length:=qf;have ix:=ih.rx;rw[hd,List.cons_append]at ix;have mo:=lv.m _ (Yp (z:=ZQ) hi);have oo:=ih.o _ (Yp (z:=ZQ) hi);have hbt:=Yj (WA lv.m) i;rw[WI hi]at hbt;have h3:=lv.t;refine⟨Zow ix (by simp [V5]),Zdv ih.e hi ?_,fun y hy=>?_,Yam ih.d (Gv ht mo) oo ?_⟩
  ·rw[hin.2.2];simp [V5]
  ·rcases List.mem_or_eq_of_mem_set hy with hy|rfl
   ·exact ih.o y hy
   ·exact oo
  ·show Y9 _+(gr ZQ (lvK t W x k).1 i).bal<=_;omega
theorem JY {α:Type}(f:α->Int)(q:α->Bool):∀l:List α,tot ((l.filter q).map f)+tot ((l.filter fun x => !q x).map f)=tot (l.map f)
 | []=>rfl
 | x::l=>by
  have ih:=JY f q l;rw[List.filter_cons,List.filter_cons,List.map_cons,Wv]
  cases c:q x
  ·simp only[Bool.false_eq_true,if_false,Bool.not_false,if_true,List.map_cons,Wv];omega
  ·simp only[if_true,Bool.not_true,Bool.false_eq_true,if_false,List.map_cons,Wv];omega
theorem Zns (l:List Zh)(e:Int):Y9 (l.filter (Ut e true))+Y9 (l.filter (Ut e false))=Y9 l:=by
 have h1:=JY Zh.amt (Ut e true) l;have h2:(fun x => !Ut e true x)=Ut e false:=by
  funext x
  unfold Ut
  cases decide (x.at'<=e)<;>rfl
 rw[h2]at h1;exact h1
theorem Yrj {s:Zg}{D:Nat}(h:Zq s D):(lvW s).length<=64/\(lvW s).length<=s.exit.length/\∀i∈lvW s,0<=i/\i<s.ae.length:=by
 have hp:=Yc h.r;refine⟨?_,?_,fun i hi=>?_⟩
 ·rw[lvW,List.length_take];omega
 ·rw[lvW,List.length_take];omega
 ·have:=VL h.ex (List.mem_of_mem_take hi);omega
theorem Zmx {s:Zg}{D:Nat}(h:Zq s D){t:Int}(ht:0<=t/\t<=2147483647){k:Nat}(hk:k<=(lvW s).length):Yzc (s.ae,s.ai) (lvK t (lvW s) (s.ae,s.ai) k) k/\Yyx (lvW s) (s.exit.drop s.par.aK.toNat) s.entry s.ag.length (lvK t (lvW s) (s.ae,s.ai) k) k:=by
 obtain⟨b1,b2,b3,b4,b5,b6⟩:=h.parts;have hs:=h.sum
 exact⟨Ybj (x:=(s.ae,s.ai)) ht h.be.m (fun y hy=>(h.dd y hy).1) (Yrj h).2.2 (by show Y9 s.ai+tot (s.ae.map Zc.bal)<=_;omega) k hk,
  Yci (x:=(s.ae,s.ai)) ht h.be.m ⟨by rw[List.drop_zero,lvW,List.take_append_drop];exact h.ex,h.en,h.be.o,h.dd⟩ (by show Y9 s.ai+tot (s.ae.map Zc.bal)<=_;omega) k hk⟩
theorem Yps {s:Zg}{D:Nat}(h:Zq s D){t:Int}(ht:0<=t/\t<=2147483647):∀x∈lvD s t,0<=x.au/\x.au<s.ag.length/\0<=x.amt:=fun x hx=>by
 have:=(Zmx h ht (Nat.le_refl _)).2.d x (List.mem_filter.1 hx).1;exact⟨this.2.1,this.2.2,this.1.a.1⟩
theorem Yna {s:Zg}{D:Nat}(h:Zq s D){t:Int}(ht:0<=t/\t<=2147483647):Zq (lvS s t) (D+64):=by
 obtain⟨l1,l2⟩:=Zmx h ht (Nat.le_refl _);obtain⟨b1,b2,b3,b4,b5,b6⟩:=h.parts;have hs:=h.sum;have hm:=h.mon;have hw:=(Yrj h).1;have hl:(lvS s t).ae.length=s.ae.length:=l1.l1;obtain⟨d1,d2,d3⟩:=Zbd h.be.p (Yps h ht) (lvD s t).length (Nat.le_refl _);have hp:(lvS s t).ag.length=s.ag.length:=d1;have hx:=l2.rx;rw[List.drop_length,List.nil_append]at hx;have et:=l1.t;have e2:=Zns (lvX s t).2 s.ep;have e3:YE ((lvD s t).map Zh.amt) (lvD s t).length=Y9 (lvD s t):=by rw[Y9,tot,List.length_map]
 rw[e3]at d3;refine⟨h.r,⟨h.ok.p,h.ok.u,h.ok.n⟩,h.ep,⟨l1.m,fun x hx=>by rw[hp];exact l2.o x hx,d2⟩,by rw[hl];exact h.ml,by rw[hp];exact h.pl,l2.e,hx,fun x hx=>by rw[hp];exact l2.d x (List.mem_filter.1 hx).1,?_,fun d hd=>by rw[hl,hp];exact h.oo d hd,h.on,fun m hm=>by rw[hp];exact h.mm m hm,h.mn,?_,h.top⟩
 ·have h1:=l1.n;have h2:((lvX s t).2.filter (Ut s.ep false)).length<=(lvX s t).2.length:=List.length_filter_le _ _;have h3:=h.dn;show ((lvX s t).2.filter (Ut s.ep false)).length<=_;have h4:(lvX s t).2.length<=s.ai.length+(lvW s).length:=h1;omega
 ·show tot (dpK (lvD s t) s.ag (lvD s t).length)+tot ((lvX s t).1.map Zc.bal)+Y9 ((lvX s t).2.filter (Ut s.ep false))+tot (s.aj.map Zk.amt)+s.an+s.aG=s.gen+s.aB;have e4:Y9 (lvX s t).2+tot ((lvX s t).1.map Zc.bal)=Y9 s.ai+tot (s.ae.map Zc.bal):=et;have e5:Y9 (lvD s t)=Y9 ((lvX s t).2.filter (Ut s.ep true)):=rfl;omega
theorem Yek {s:Zg}{D:Nat}(h:Zq s D){k:Nat}(hk:k<=s.aj.length):ZF s.exit (crK s.par s.aj ⟨s.ae,s.ag,s.entry⟩ k) s.ag.length (tot s.ag+tot (s.ae.map Zc.bal)+YE (s.aj.map Zk.amt) k)/\s.ae.length<=(crK s.par s.aj ⟨s.ae,s.ag,s.entry⟩ k).ms.length :=
 Yhy (x:=⟨s.ae,s.ag,s.entry⟩) h.ok.p (show s.ag.length<=9223372036854775807 by have:=h.pl;omega) ⟨h.be,h.ml,rfl,rfl,h.en,h.ex⟩ (fun d hd=>⟨(h.oo d hd).1.a.1,(h.oo d hd).2⟩) k hk
theorem Yei {s:Zg}{D:Nat}(h:Zq s D):ZF s.exit (enX s) s.ag.length (tot s.ag+tot (s.ae.map Zc.bal)+tot (s.aj.map Zk.amt))/\s.ae.length<=(enX s).ms.length:=by
 have:=Yek h (Nat.le_refl s.aj.length);have e:YE (s.aj.map Zk.amt) s.aj.length=tot (s.aj.map Zk.amt):=by rw[tot,List.length_map]
 rw[e]at this;exact this
theorem Ztf {s:Zg}{D:Nat}(h:Zq s D)(r:Zi){t:Int}(ht:0<=t/\t<=2147483647){k:Nat}(hk:k<=(enW s).length) :
  ZM (enW s) ((enX s).en.drop s.par.aK.toNat) ⟨(enX s).ms,s.ai,s.exit,r.out,r.started⟩ (stK s.par t (enW s) ⟨(enX s).ms,s.ai,s.exit,r.out,r.started⟩ k) s.ag.length k:=by
 obtain⟨b1,b2,b3,b4,b5,b6⟩:=h.parts;have hs:=h.sum;obtain⟨c1,c2⟩:=Yei h;have c3:=c1.t;have c4:=c1.b.pur;have hob:=c1.b.o;rw[c1.l2]at hob;exact Yho h.ok.p h.r ht (x:=⟨(enX s).ms,s.ai,s.exit,r.out,r.started⟩) ⟨rfl,c1.b.m,hob,fun x hx=>(h.dd x hx).1,Nat.le_refl _,rfl,by rw[List.drop_zero,enW,List.take_append_drop];exact c1.e,c1.x,Nat.le_refl _,Nat.le_refl _⟩ (by show Y9 s.ai+tot ((enX s).ms.map Zc.bal)<=_;omega) k hk
theorem Ysp {s:Zg}{D:Nat}(h:Zq s D):(enW s).length<=64/\(enX s).en.length<=128:=by
 have hp:=Yc h.r;have h1:=(Yei h).1;have:=WR h1.e;have:=h1.l1;refine⟨?_,qf⟩;rw[enW,List.length_take];omega
theorem Zhv {p:Ze}{t:Int}{pn:Nat}(ht:0<=t/\t<=2147483647)(W:List Int){rest:List Int}{x:StX}(hx:∀y∈x.ds,Zs y/\0<=y.au/\y.au<pn)(H:∀k,k<=W.length->ZM W rest x (stK p t W x k) pn k)(hT:Y9 x.ds+tot (x.ms.map Zc.bal)<=4611686018427387904):∀k,k<=W.length->∀y∈(stK p t W x k).ds,Zs y/\0<=y.au/\y.au<pn
 | 0,_=>hx
 | k+1,hk=>by
  have ih:=Zhv ht W hx H hT k qf;have h1:=H k qf;have hd:W.drop k=at0 W k::W.drop (k+1):=wQ;have hin:=VL h1.e (z:=at0 W k) (by rw[hd];simp);have hi:(at0 W k).toNat<(stK p t W x k).ms.length:=qf;have mo:=h1.m _ (Yp (z:=ZQ) hi);have oo:=h1.o _ (Yp (z:=ZQ) hi);have hbt:=Yj (WA h1.m) (at0 W k).toNat;rw[WI hi]at hbt;have h3:=h1.t;rw[stK,J0];split
  ·exact ih
  ·exact Yam ih (Gv ht mo) oo (by show Y9 _+(gr ZQ (stK p t W x k).ms (at0 W k).toNat).bal<=_;omega)
theorem Ylj {s:Zg}{D:Nat}(h:Zq s D)(r:Zi){t:Int}(ht:0<=t/\t<=2147483647):Zq (enS s r t) (D+64):=by
 unfold enS;by_cases c:r.quo=true
 ·rw[if_pos c];obtain⟨b1,b2,b3,b4,b5,b6⟩:=h.parts;have hs:=h.sum;have hm:=h.mon;obtain⟨c1,c2⟩:=Yei h;have c3:=c1.t;have c4:=c1.b.pur;have hw:=(Ysp h).1;have h1:=Ztf h r ht (Nat.le_refl (enW s).length);have h2:=Zhv (p:=s.par) ht (enW s) (x:=⟨(enX s).ms,s.ai,s.exit,r.out,r.started⟩) h.dd (fun k hk=>Ztf h r ht hk) (by show Y9 s.ai+tot ((enX s).ms.map Zc.bal)<=_;omega) _ (Nat.le_refl _);have hl:(enY s r t).ms.length=(enX s).ms.length:=h1.l1;have he:=h1.e;rw[List.drop_length,List.nil_append]at he;have et:Y9 (enY s r t).ds+tot ((enY s r t).ms.map Zc.bal)=Y9 s.ai+tot ((enX s).ms.map Zc.bal):=h1.t;have hp:=c1.l2;have hn:(enY s r t).ds.length<=s.ai.length+(enW s).length:=h1.n;have hd:=h.dn;refine⟨h.r,⟨h.ok.p,h.ok.u,h.ok.n⟩,h.ep,⟨h1.m,fun x hx=>by simp only;rw[hp];exact h1.o x hx,c1.b.p⟩,by simp only;rw[hl];exact c1.l1,by simp only;rw[hp];exact h.pl,he,h1.rx,fun x hx=>by simp only;rw[hp];exact h2 x hx,qp,(fun d hd=>by cases hd),qj,fun m hm=>by simp only;rw[hp];exact h.mm m hm,h.mn,?_,h.top⟩;simp only[List.map_nil,Zaf];omega
 ·rw[if_neg c];exact⟨h.r,h.ok,h.ep,h.be,h.ml,h.pl,h.en,h.ex,h.dd,Nat.le_trans h.dn qf,h.oo,h.on,h.mm,h.mn,h.mon,h.top⟩
theorem Zuk {p:Ze}(h:Yo p=true):0<=p.aN:=by
 simp only[Yo,Bool.and_eq_true]at h;have h2:=h.1.2;simp only[We,List.all_cons,List.all_nil,id,Bool.and_eq_true,wi_iff,decide_eq_true_eq,and_true]at h2;omega
theorem mo_0 {s:Zg}{D:Nat}(h:Zq s D)(r:Zi):Yyr (moW s r) ⟨s.par,s.an,s.ag,s.aT,moL s,r.done⟩ ⟨s.par,s.an,s.ag,s.aT,moL s,r.done⟩ 0:=by
 refine⟨h.r,h.ok.p,h.parts.2.2.2.2.1,rfl,h.be.p,rfl,rfl,fun m hm=>?_,fun j _ hj=>?_,Nat.le_refl _⟩
 ·obtain⟨x,hx,rfl⟩:=List.mem_map.1 hm;exact Zvr (Zuk h.r) h.ep.1 (h.mm x hx)
 ·exact Zlu (by rw[<- Ys hj];exact List.getElem_mem hj)
theorem Zeo {s:Zg}(r:Zi):(moW s r).Nodup/\∀z∈moW s r,0<=z/\z<(moL s).length:=⟨Zni _ _ _ _,fun z hz=>Zdl hz⟩
theorem Yrg {s:Zg}{D:Nat}(h:Zq s D)(r:Zi){k:Nat}(hk:k<=(moW s r).length):Yyr (moW s r) ⟨s.par,s.an,s.ag,s.aT,moL s,r.done⟩ (moX s r k) k :=
 Yhd (mo_0 h r) (Zeo r).1 (Zeo r).2 k hk
theorem Zzb {s:Zg}{D:Nat}(h:Zq s D)(r:Zi){k:Nat}(hk:k<=(moW s r).length):Zq (Yjz s r k) D:=by
 have hx:=Yrg h r hk;obtain⟨a1,a2,a3,a4,a5,a6,a7⟩:=h.ok.all;obtain⟨b1,b2,b3,b4,b5,b6⟩:=h.parts;have hs:=h.sum;have hm:=h.mon;have et:tot (moX s r k).ps+(moX s r k).tr=tot s.ag+s.an:=hx.t;have hp0:=hx.p;have hpp:=Ym hx.p;have htr:=hx.tr;have hp:(Yjz s r k).ag.length=s.ag.length:=hx.l2;have hn:(moX s r k).mo.length=s.ah.length:=by
  have:=hx.n;rw[this];exact List.length_map _
 refine⟨hx.r,ZB.set h.ok hx.ok a1 a2 a3 a4 qf a6 a7,h.ep,⟨h.be.m,fun x hx=>by rw[hp];exact h.be.o x hx,hx.p⟩,h.ml,by rw[hp];exact h.pl,h.en,h.ex,fun x hx=>by rw[hp];exact h.dd x hx,h.dn,fun d hd=>by rw[hp];exact h.oo d hd,h.on,fun m hm=>by rw[hp];exact hx.m m hm,by show (moX s r k).mo.length<=32;rw[hn];exact h.mn,?_,h.top⟩;show tot (moX s r k).ps+tot (s.ae.map Zc.bal)+Y9 s.ai+tot (s.aj.map Zk.amt)+(moX s r k).tr+s.aG=s.gen+s.aB;omega
theorem Zfb {s:Zg}{D:Nat}(h:Zq s D){k:Nat}(hk:k<=s.ae.length):Zq (Zyd s k) D:=by
 obtain⟨b1,b2,b3,b4,b5,b6⟩:=h.parts;have hs:=h.sum;have hm:=h.mon;have hb:ZD s.ae s.ag:=h.be.ok qf;have h1:=Zkb (q:=s.par) h.ok.p (x:=(s.ae,s.ag)) hb k hk;have h2:=Vl s.par (s.ae,s.ag) k;have h3:=Zyn (q:=s.par) h.ok.p (x:=(s.ae,s.ag)) hb k hk;have h4:=Zyo s.par (s.ae,s.ag) k hk;have l1:(Zyd s k).ae.length=s.ae.length:=h2.1;have l2:(Zyd s k).ag.length=s.ag.length:=h2.2;have hst:∀j,(gr ZQ (Zyd s k).ae j).status=(gr ZQ s.ae j).status:=fun j=>by
  show (gr ZQ (clN s.par (s.ae,s.ag) k).1 j).status=_;rw[h4,Zca _ _ k hk j];split
  ·rfl
  ·rfl
 refine⟨h.r,⟨h.ok.p,h.ok.u,h.ok.n⟩,h.ep,⟨h1.m,h1.o,h1.p⟩,by rw[l1];exact h.ml,by rw[l2];exact h.pl,Gu h.en l1 (fun j _=>by rw[hst]),Gu h.ex l1 (fun j _=>by rw[hst]),fun x hx=>by rw[l2];exact h.dd x hx,h.dn,fun d hd=>by rw[l1,l2];exact h.oo d hd,h.on,fun m hm=>by rw[l2];exact h.mm m hm,h.mn,?_,h.top⟩;have e:tot (Zyd s k).ag+tot ((Zyd s k).ae.map Zc.bal)=tot s.ag+tot (s.ae.map Zc.bal):=h3;show tot (Zyd s k).ag+tot ((Zyd s k).ae.map Zc.bal)+Y9 s.ai+tot (s.aj.map Zk.amt)+s.an+s.aG=s.gen+s.aB;omega
end Go.X

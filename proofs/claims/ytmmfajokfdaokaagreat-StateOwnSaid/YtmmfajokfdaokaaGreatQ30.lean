/- Lemmas and contracts for a statement about the given program. Conditions: as each says. -/
import Derived.Test.YtmmfajokfdaokaaGreatQ28
import Derived.Test.YtmmfajokfdaokaaGreatQ29
set_option linter.unusedVariables false
set_option linter.unusedSimpArgs false
set_option maxHeartbeats 12800000
set_option maxRecDepth 20000
namespace Go.X
open Go.RowKit Go.Proofs Go.Bl
structure RepD where
 ep:Int
 mode:Int
 quo:Bool
 pres:Int
 act:Int
 mint:Int
 paid:Int
 kept:Int
 burned:Int
 fees:Int
 out:List Int
 left:List Int
 started:List Int
 done:List Int
def upI (f:Nat→MemD→MemD) (l:List MemD):Nat→List MemD
 | 0=>l
 | k+1=>(upI f l k).set k (f k (gr zeroM l k))
theorem upI_len (f:Nat→MemD→MemD) (l:List MemD):∀ k,(upI f l k).length=l.length
 | 0=>rfl
 | k+1=>by rw [upI,List.length_set]; exact upI_len f l k
theorem gr_out {l:List MemD} {j:Nat} (hj:l.length≤j):gr zeroM l j=zeroM:=by
 unfold gr
 rw [List.getD_eq_getElem?_getD,List.getElem?_eq_none hj]; rfl
theorem gr_setM {l:List MemD} {i j:Nat} {m:MemD} (hi:i<l.length):gr zeroM (l.set i m) j=if j=i then m else gr zeroM l j:=by
 by_cases e:j=i
 ·subst e
  rw [gr_lt (by simpa using hi),if_pos rfl,List.getElem_set_self]
 ·rw [if_neg e]
  by_cases hj:j<l.length
  ·rw [gr_lt (by simpa using hj),gr_lt hj,List.getElem_set_ne (Ne.symm e)]
  ·rw [gr_out (by simpa using hj),gr_out (by omega)]
theorem upI_gr (f:Nat→MemD→MemD) (l:List MemD):∀ k,k≤l.length→∀ j,gr zeroM (upI f l k) j=if j<k then f j (gr zeroM l j) else gr zeroM l j
 | 0,_,j=>by simp [upI]
 | k+1,hk,j=>by
  rw [upI,gr_setM (by rw [upI_len]; omega)]
  by_cases e:j=k
  ·subst e; rw [if_pos rfl,if_pos (by omega)]
  ·rw [if_neg e,upI_gr f l k (by omega) j]
   by_cases c:j<k
   ·rw [if_pos c,if_pos (by omega)]
   ·rw [if_neg c,if_neg (by omega)]
theorem upI_at (f:Nat→MemD→MemD) (l:List MemD) {k:Nat} (hk:k<l.length):gr zeroM (upI f l k) k=gr zeroM l k:=by
 rw [upI_gr f l k (by omega),if_neg (by omega)]
theorem upI_same (f:Nat→MemD→MemD) (l:List MemD) {k:Nat} (hk:k<l.length) (hf:f k (gr zeroM l k)=gr zeroM l k):upI f l (k+1)=upI f l k:=by
 have hl:=upI_len f l k
 have h1:=upI_at f l hk
 rw [gr_lt (by omega)] at h1
 rw [upI,hf,← h1,List.set_getElem_self]
theorem upI_ok {f:Nat→MemD→MemD} {l:List MemD} (P:MemD→Prop) (hf:∀ k x,P x→P (f k x)) (hl:∀ x∈l,P x):∀ k,k≤l.length→∀ x∈upI f l k,P x
 | 0,_=>hl
 | k+1,hk=>fun x hx=>by
  rw [upI] at hx
  rcases List.mem_or_eq_of_mem_set hx with hx | rfl
  ·exact upI_ok P hf hl k (by omega) x hx
  ·exact hf _ _ (hl _ (gr_mem (by omega)))
def wgF (p:ParD) (ks:List Int) (mode:Int) (k:Nat) (m:MemD):MemD:=if cntM m then afterM p m (getB ks k) mode else m
def wgS (s:StD):StD:={ s with calm:=(stepP s.calm (preS s) (actS s)).1,members:=upI (wgF s.par s.marks (modeS s)) s.members s.members.length }
def wgR (s:StD) (r:RepD):RepD:={ r with pres:=preS s,act:=actS s,quo:=(stepP s.calm (preS s) (actS s)).2,mode:=modeS s }
theorem wgF_ok {p:ParD} (ok:ParOk p) (hr:parR p=true) (ks:List Int) (mode:Int) (k:Nat) {m:MemD} (mo:MemOk m):MemOk (wgF p ks mode k m):=by
 unfold wgF
 split
 ·exact after_ok ok hr mo _ _
 ·exact mo
def mtN (s:StD) (r:RepD):Int:=mintP s.par r.act (s.gen+s.mint) s.most r.mode
def mtW (s:StD):List Nat:=thI s.members s.marks s.members.length
def mtL (s:StD) (k:Nat):List MemD:=(thI s.members s.marks k).map (gr zeroM s.members)
def mtP (s:StD) (r:RepD):List Int:=prizeL s.par (mtN s r) (mtL s s.members.length)
def pyStep (p:ParD) (i:Nat) (a:Int) (x:List MemD×List Int):List MemD×List Int :=
 (x.1.set i (payM p (gr zeroM x.1 i) a).1,x.2.set (gr zeroM x.1 i).owner.toNat (at0 x.2 (gr zeroM x.1 i).owner.toNat+(payM p (gr zeroM x.1 i) a).2))
def mtK (p:ParD) (W:List Nat) (P:List Int) (x:List MemD×List Int):Nat→List MemD×List Int
 | 0=>x
 | k+1=>pyStep p (W.getD k 0) (at0 P k) (mtK p W P x k)
def mtX (s:StD) (r:RepD) (k:Nat):List MemD×List Int:=mtK s.par (mtW s) (mtP s r) (s.members,s.purses) k
def mtSk (s:StD) (r:RepD) (k:Nat):StD:={ s with mint:=s.mint+mtN s r,treas:=s.treas+mtN s r-sumK (mtP s r) k,members:=(mtX s r k).1,purses:=(mtX s r k).2 }
def mtRk (s:StD) (r:RepD) (k:Nat):RepD:={ r with mint:=mtN s r,paid:=r.paid+sumK (mtP s r) k }
def mtS (s:StD) (r:RepD):StD:=mtSk s r (mtW s).length
def mtR (s:StD) (r:RepD):RepD:={ mtRk s r (mtW s).length with kept:=mtN s r-tot (mtP s r) }
abbrev fnC (ks:List Int) (k:Nat) (m:MemD):Prop:=cntM m∧getB ks k=false
def fnF (p:ParD) (ks:List Int) (mode:Int) (k:Nat) (m:MemD):MemD:=if fnC ks k m then fineM p m mode else m
def fnT (p:ParD) (ks:List Int) (mode:Int) (ms:List MemD):Nat→Int
 | 0=>0
 | k+1=>if fnC ks k (gr zeroM ms k) then fnT p ks mode ms k+fineP p (gr zeroM ms k) mode else fnT p ks mode ms k
def fnU (p:ParD) (ks:List Int) (mode:Int) (ms:List MemD):Nat→Int
 | 0=>0
 | k+1=>if fnC ks k (gr zeroM ms k) then fnU p ks mode ms k+burnP p (fineP p (gr zeroM ms k) mode) else fnU p ks mode ms k
abbrev fnTs (s:StD) (r:RepD) (k:Nat):Int:=fnT s.par s.marks r.mode s.members k
abbrev fnUs (s:StD) (r:RepD) (k:Nat):Int:=fnU s.par s.marks r.mode s.members k
def fnSk (s:StD) (r:RepD) (k:Nat):StD:={ s with treas:=s.treas+fnTs s r k,members:=upI (fnF s.par s.marks r.mode) s.members k }
def fnR (s:StD) (r:RepD) (k:Nat):RepD:={ r with burned:=r.burned+fnUs s r k,fees:=r.fees+(fnTs s r k-fnUs s r k) }
def fnS (s:StD) (r:RepD):StD:=burnT (fnSk s r s.members.length) (fnR s r s.members.length).burned
def ejS (s:StD) (t:Int) (k:Nat):StD:={ s with members:=upN (ejF s.par) s.members k,dues:=duN s.par s.members t s.dues k,exit:=exN s.par s.members s.exit k }
def ejR (s:StD) (r:RepD) (k:Nat):RepD:={ r with out:=r.out++ouN s.par s.members k }
def lvStep (t:Int) (i:Nat) (x:List MemD×List DueD):List MemD×List DueD:=(x.1.set i (endR (gr zeroM x.1 i) 5),oweL x.2 (dueOf t (gr zeroM x.1 i)))
def lvK (t:Int) (W:List Int) (x:List MemD×List DueD):Nat→List MemD×List DueD
 | 0=>x
 | k+1=>lvStep t (at0 W k).toNat (lvK t W x k)
def dpK (l:List DueD) (ps:List Int):Nat→List Int
 | 0=>ps
 | k+1=>(dpK l ps k).set (gr zeroDue l k).acct.toNat (at0 (dpK l ps k) (gr zeroDue l k).acct.toNat+(gr zeroDue l k).amt)
def lvW (s:StD):List Int:=s.exit.take s.par.churn.toNat
def lvX (s:StD) (t:Int):List MemD×List DueD:=lvK t (lvW s) (s.members,s.dues) (lvW s).length
def lvD (s:StD) (t:Int):List DueD:=(lvX s t).2.filter (ripB s.ep true)
def lvS (s:StD) (t:Int):StD:={ s with exit:=s.exit.drop s.par.churn.toNat,members:=(lvX s t).1,dues:=(lvX s t).2.filter (ripB s.ep false),purses:=dpK (lvD s t) s.purses (lvD s t).length }
def lvR (s:StD) (r:RepD):RepD:={ r with left:=lvW s }
structure CrX where
 ms:List MemD
 ps:List Int
 en:List Int
def crTo (p:ParD) (i:Nat) (a:Int) (acct:Int) (x:CrX):CrX :=
 ⟨x.ms.set i (credM p (gr zeroM x.ms i) a),x.ps.set acct.toNat (at0 x.ps acct.toNat+(a-crTake p (gr zeroM x.ms i) a)),
  if (credM p (gr zeroM x.ms i) a).status=(gr zeroM x.ms i).status then x.en else x.en++[(i:Int)]⟩
def crStep (p:ParD) (d:DepD) (x:CrX):CrX :=
 if d.new then (if 128≤x.ms.length then ⟨x.ms,x.ps.set d.acct.toNat (at0 x.ps d.acct.toNat+d.amt),x.en⟩ else crTo p x.ms.length d.amt d.acct ⟨x.ms++[⟨0,0,0,0,d.acct,4⟩],x.ps,x.en⟩)
 else crTo p d.mem.toNat d.amt d.acct x
def crK (p:ParD) (l:List DepD) (x:CrX):Nat→CrX
 | 0=>x
 | k+1=>crStep p (gr zeroDep l k) (crK p l x k)
structure StX where
 ms:List MemD
 ds:List DueD
 ex:List Int
 out:List Int
 go:List Int
def stStep (p:ParD) (t:Int) (i:Nat) (x:StX):StX :=
 if (startM p (gr zeroM x.ms i)).2 then { x with ms:=x.ms.set i (startM p (gr zeroM x.ms i)).1,go:=x.go++[(i:Int)] }
 else ⟨x.ms.set i (endM (gr zeroM x.ms i)),oweL x.ds (dueOf t (gr zeroM x.ms i)),flt x.ex i,x.out++[(i:Int)],x.go⟩
def stK (p:ParD) (t:Int) (W:List Int) (x:StX):Nat→StX
 | 0=>x
 | k+1=>stStep p t (at0 W k).toNat (stK p t W x k)
def enX (s:StD):CrX:=crK s.par s.pool ⟨s.members,s.purses,s.entry⟩ s.pool.length
def enW (s:StD):List Int:=(enX s).en.take s.par.churn.toNat
def enY (s:StD) (r:RepD) (t:Int):StX:=stK s.par t (enW s) ⟨(enX s).ms,s.dues,s.exit,r.out,r.started⟩ (enW s).length
def enS (s:StD) (r:RepD) (t:Int):StD:=if r.quo then { s with pool:=[],members:=(enY s r t).ms,purses:=(enX s).ps,entry:=(enX s).en.drop s.par.churn.toNat,dues:=(enY s r t).ds,exit:=(enY s r t).ex } else s
def enR (s:StD) (r:RepD) (t:Int):RepD:=if r.quo then { r with out:=(enY s r t).out,started:=(enY s r t).go } else r
def closeM (p:ParD) (ms:List MemD) (ep:Int) (m:MotD):MotD :=
 if m.state=1∧m.ends≤ep then (if passB p.quorum (preL ms m.yes) (preL ms m.no) (actL ms) then { m with state:=2,due:=min (ep+p.enact) 2147483647 } else { m with state:=4 }) else m
def closeL (p:ParD) (ms:List MemD) (ep:Int) (l:List MotD):List MotD:=l.map (closeM p ms ep)
def finM (m:MotD) (done:Bool):MotD:={ m with state:=if done then 3 else 4 }
def finP (l:List MotD) (i:Int) (done:Bool):List MotD×Int :=
 if 0≤i∧i<(l.length:Int) then (if (gr zeroMot l i.toNat).state=2 then (l.set i.toNat (finM (gr zeroMot l i.toNat) done),0) else ([],291)) else ([],230)
structure MoX where
 par:ParD
 tr:Int
 ps:List Int
 em:Bool
 mo:List MotD
 dn:List Int
def moB (m:MotD) (tr:Int):Bool:=decide (m.what≠2)||decide (m.amt≤tr)
def enactX (m:MotD) (x:MoX):MoX :=
 if m.what=3 then { x with em:=true } else if m.what=4 then { x with em:=false } else if m.what=1 then { x with par:=m.par }
 else if m.what=2∧m.amt≤x.tr then { x with tr:=x.tr-m.amt,ps:=x.ps.set m.to.toNat (at0 x.ps m.to.toNat+m.amt) } else x
def moStep (i:Nat) (x:MoX):MoX :=
 { enactX (gr zeroMot x.mo i) x with mo:=x.mo.set i (finM (gr zeroMot x.mo i) (moB (gr zeroMot x.mo i) x.tr)),dn:=if moB (gr zeroMot x.mo i) x.tr then x.dn++[(i:Int)] else x.dn }
def moK (W:List Int) (x:MoX):Nat→MoX
 | 0=>x
 | k+1=>moStep (at0 W k).toNat (moK W x k)
def moL (s:StD):List MotD:=closeL s.par s.members s.ep s.motions
def moW (s:StD) (r:RepD):List Int:=ripeI (moL s) s.ep r.quo (moL s).length
def moX (s:StD) (r:RepD) (k:Nat):MoX:=moK (moW s r) ⟨s.par,s.treas,s.purses,s.emer,moL s,r.done⟩ k
def moSk (s:StD) (r:RepD) (k:Nat):StD:={ s with par:=(moX s r k).par,treas:=(moX s r k).tr,purses:=(moX s r k).ps,emer:=(moX s r k).em,motions:=(moX s r k).mo }
def moRk (s:StD) (r:RepD) (k:Nat):RepD:={ r with done:=(moX s r k).dn }
def moS (s:StD) (r:RepD):StD:=moSk s r (moW s r).length
def moR (s:StD) (r:RepD):RepD:=moRk s r (moW s r).length
def ajSk (s:StD) (k:Nat):StD:={ s with members:=(clN s.par (s.members,s.purses) k).1,purses:=(clN s.par (s.members,s.purses) k).2 }
def ajS (s:StD):StD:=ajSk s s.members.length
def seSk (s:StD) (k:Nat):StD:={ s with members:=upN (setF s.par) s.members k }
def seS (s:StD):StD:={ seSk s s.members.length with ring:=turnP s.ring s.marks,marks:=List.replicate 16 0,ep:=s.ep+1 }
def r0P (s:StD):RepD:=⟨s.ep,0,false,0,0,0,0,0,0,0,[],[],[],[]⟩
def atP (s:StD):Int:=min (s.ep+s.par.wait) 2147483647
def ejP2 (t:Int) (x:StD×RepD):StD×RepD:=(ejS x.1 t x.1.members.length,ejR x.1 x.2 x.1.members.length)
def tk2 (s:StD):StD×RepD:=(wgS s,wgR s (r0P s))
def tk3 (s:StD):StD×RepD:=(mtS (tk2 s).1 (tk2 s).2,mtR (tk2 s).1 (tk2 s).2)
def tk4 (s:StD):StD×RepD:=(fnS (tk3 s).1 (tk3 s).2,fnR (tk3 s).1 (tk3 s).2 (tk3 s).1.members.length)
def tk5 (s:StD):StD×RepD:=ejP2 (atP s) (tk4 s)
def tk7 (s:StD):StD×RepD:=(lvS (tk5 s).1 (atP s),lvR (tk5 s).1 (tk5 s).2)
def tk8 (s:StD):StD×RepD:=(enS (tk7 s).1 (tk7 s).2 (atP s),enR (tk7 s).1 (tk7 s).2 (atP s))
def tk9 (s:StD):StD×RepD:=(moS (tk8 s).1 (tk8 s).2,moR (tk8 s).1 (tk8 s).2)
def tk10 (s:StD):StD×RepD:=if (tk9 s).1.par=s.par then tk9 s else ejP2 (atP s) (ajS (tk9 s).1,(tk9 s).2)
def tickS (s:StD):StD:=seS (tk10 s).1
def tickR (s:StD):RepD:=(tk10 s).2
def zeroR:RepD:=⟨0,0,false,0,0,0,0,0,0,0,[],[],[],[]⟩
def tickE (s:StD):Int:=if fitsS s then (if 1073741824≤s.ep then 200 else 0) else 291
variable {L:Own} {h:PH} {K:PK}
abbrev moB' (bo cap:Nat) (ql:List QM):Blk:=⟨bo,75,ql.flatMap motC,cap⟩
abbrev mfB (b5:Nat) (done:Bool):Blk:=⟨b5,4,[.bool done],1⟩
theorem setQ_map' {ql:List QM} {k:Nat} (a b:Value) (m:MotD):(ql.set k (a,b,m)).map (fun x=>x.2.2)=(ql.map (fun x=>x.2.2)).set k m:=by rw [List.map_set]
theorem setQ_ok' {ql:List QM} {k:Nat} {q:QM} {h:PH} (hm:MotsOk h ql) (hq:IsMot h q):MotsOk h (ql.set k q):=fun x hx=>by
 rcases List.mem_or_eq_of_mem_set hx with hx | rfl
 ·exact hm x hx
 ·exact hq
theorem motSet {ql:List QM} {k:Nat} (hk:k<ql.length) (st:Int):(ql.flatMap motC).set (k*33+30) (.int .i64 st)=(ql.set k ((gr zeroQM ql k).1,(gr zeroQM ql k).2.1,{ (gr zeroQM ql k).2.2 with state:=st })).flatMap motC :=
 flatG_set motC_len zeroQM ql (i:=k) (m:=30) hk (by decide) (by simp [motC,parC])
theorem motSetD {ql:List QM} {k:Nat} (hk:k<ql.length) (due:Int):(ql.flatMap motC).set (k*33+29) (.int .i64 due)=(ql.set k ((gr zeroQM ql k).1,(gr zeroQM ql k).2.1,{ (gr zeroQM ql k).2.2 with due:=due })).flatMap motC :=
 flatG_set motC_len zeroQM ql (i:=k) (m:=29) hk (by decide) (by simp [motC,parC])
theorem isMot_st {h:PH} {q:QM} (hq:IsMot h q) {st due:Int} (hs:0≤st∧st≤100) (hd : -9223372036854775808≤due∧due≤9223372036854775807):IsMot h (q.1,q.2.1,{ q.2.2 with state:=st,due:=due }) :=
 ⟨hq.y,hq.n,hq.ok.a,fun z hz=>by
  have hn:=hq.ok.n
  simp only [List.forall_mem_cons] at hn
  simp only [List.mem_cons,List.not_mem_nil,or_false] at hz
  rcases hz with rfl | rfl | rfl | rfl | rfl | rfl<;>omega,hq.ok.p⟩
theorem grQ_map {ql:List QM} {ms:List MotD} (hq:ql.map (fun x=>x.2.2)=ms) {k:Nat} (hk:k<ms.length):(gr zeroQM ql k).2.2=gr zeroMot ms k:=by
 subst hq
 have hk':k<ql.length:=by simpa using hk
 rw [gr_lt hk',gr_lt (by simpa using hk'),List.getElem_map]
theorem mfin1_any {ql:List QM} {bo cap b5 k:Nat} {done:Bool} (hkl:k<ql.length) (hl:ql.length≤1000) (hm:MotsOk h ql)
  (hyes:(gr zeroQM ql k).2.2.state=2→K (.int .i64 0) (moB' bo cap (ql.set k ((gr zeroQM ql k).1,(gr zeroQM ql k).2.1,finM (gr zeroQM ql k).2.2 done))::mfB b5 done::L) h)
  (hno:¬ (gr zeroQM ql k).2.2.state=2→K (.int .i64 291) (moB' bo cap ql::mfB b5 done::L) h) :
  Spec Tryz.prog 273 [.pointer (some ⟨bo,k*33,none⟩),.pointer (some ⟨b5,0,none⟩)] (moB' bo cap ql::mfB b5 done::L) h K:=by
 have g30:∀ (K:Value→Prop) (t:Tok K),xNth (ql.flatMap motC) (k*33+30) K t=K (.int .i64 (gr zeroQM ql k).2.2.state):=fun K t=>xNth_rec motC_len zeroQM ql hkl (by decide) rfl K t
 have hk33:=flat_lt (n:=ql.length) (w:=33) hkl (m:=32) (by decide)
 have hsum:(ql.map fun a=>(motC a).length).sum=ql.length*33:=by rw [← List.length_flatMap,flatG_len motC_len]
 refine x_enterA Tryz.func273 rfl (rs:=[_]) rfl rfl mixed (by kernel_rfl) rfl rfl fun ap nd=>?_
 have hbo:h bo=noC:=ap.1
 have hb5:h b5=noC:=ap.2.1
 have nb:bo≠b5:=Ne.symm nd.1.1
 clear ap nd
 simp -dsimp -implicitDefEqProofs (disch:=first|with_reducible assumption|omega) [go_sem,g30]
 by_cases c:(gr zeroQM ql k).2.2.state=2
 ·have hy:=hyes c
  have s1:=motSet hkl 4
  simp -dsimp -implicitDefEqProofs (disch:=first|with_reducible assumption|omega) [go_sem,g30]
  refine ⟨by omega,?_⟩
  rw [s1]
  have hkl2:k<(ql.set k ((gr zeroQM ql k).1,(gr zeroQM ql k).2.1,{ (gr zeroQM ql k).2.2 with state:=4 })).length:=by rw [List.length_set]; exact hkl
  cases done with
  | false =>
   refine xx ?_
   exact fin_here hy
  | true =>
   have s2:=motSet hkl2 3
   have e2:gr zeroQM (ql.set k ((gr zeroQM ql k).1,(gr zeroQM ql k).2.1,{ (gr zeroQM ql k).2.2 with state:=4 })) k=((gr zeroQM ql k).1,(gr zeroQM ql k).2.1,{ (gr zeroQM ql k).2.2 with state:=4 }):=by rw [gr_lt hkl2,List.getElem_set_self]
   rw [e2,List.set_set] at s2
   refine xx ?_
   refine ⟨by rw [← List.map_set (f:=fun a=>(motC a).length),← List.length_flatMap,flatG_len motC_len,List.length_set]; omega,?_⟩
   rw [s2]
   exact fin_here hy
 ·have hn:=hno c
  refine xx ?_
  exact fin_here hn
theorem mchF_any {ql:List QM} {ms:List MotD} {b5:Nat} (v:Value) (hv:Recs motC 33 h v ql) (hq:ql.map (fun x=>x.2.2)=ms) (hm:MotsOk h ql) (hl:ql.length≤1000) (hb:∀ m∈ms,m.yes.length≤1000∧m.no.length≤1000) (i:Int) (hi : -9223372036854775808≤i∧i≤9223372036854775807) (done:Bool)
  (hk:∀ h' r ql',PH.le h h'→Recs motC 33 h' r ql'→ql'.map (fun x=>x.2.2)=(finP ms i done).1→MotsOk h' ql'→K (.tuple #[r,.int .i64 (finP ms i done).2]) L h') :
  Spec Tryz.prog 272 [v,.int .i64 i,.func (.func 273) #[] #[.pointer (some ⟨b5,0,none⟩)]] (mfB b5 done::L) h K:=by
 have hql:ql.length=ms.length:=by rw [← hq,List.length_map]
 have hv0:=hv
 obtain ⟨va,vc,rfl,_⟩:=hv.open
 have bad:∀ h' e,PH.le h h'→finP ms i done=([],e)→K (.tuple #[.slice none 0 0,.int .i64 e]) L h':=fun h' e le eq=>by
  have:=hk h' (.slice none 0 0) [] le (Recs.nil motC_len h') (by rw [eq]; rfl) (fun x hx=>by cases hx)
  rw [eq] at this
  exact this
 refine x_enterA Tryz.func272 rfl (rs:=[_,_]) rfl rfl mixed (by kernel_rfl) rfl rfl fun ap nd=>?_
 clear ap nd
 refine xx ?_
 refine mwi_any _ _ _ ?_
 rw [hql] at hv0 ⊢
 cases q1:wi i 0 ((ms.length:Int)-1) with
 | false =>
  have:=bad h 230 (PH.le_refl _) (by rw [finP,if_neg (fun c=>by rw [show wi i 0 ((ms.length:Int)-1)=true from wi_iff.2 (by omega)] at q1; cases q1)])
  refine xx ?_
  exact fin_tail (fin_here this)
 | true =>
 have q1':=wi_iff.1 q1
 obtain ⟨k,rfl⟩:=Int.eq_ofNat_of_zero_le q1'.1
 have hkl:k<ms.length:=by omega
 have ev:finP ms k done=if (gr zeroMot ms k).state=2 then (ms.set k (finM (gr zeroMot ms k) done),0) else ([],291):=by
  rw [finP,if_pos (by omega)]; rfl
 refine xx ?_
 refine Spec.apn (mown_any _ hv0 hq hm hl hb fun h5 o ql' le5 oko apo eq' mo' ap nd=>?_)
 have hql':ql'.length=ms.length:=by rw [← eq',List.length_map]
 obtain ⟨bo,co,rfl⟩:∃ bt cap,o=some (bt,cap):=by
  cases o with
  | none=>have:ms.length=0:=oko; omega
  | some p=>exact ⟨_,_,rfl⟩
 have hbo:h5 bo=noC:=apo.2
 clear ap nd
 rw [oent_some]
 simp only [ovs]
 refine xx ?_
 have egr:=grQ_map eq' hkl
 refine Spec.ap (mfin1_any (by omega) (by omega) mo' (fun c ap=>?_) (fun c ap=>?_))
 ·have hbo6:h5 bo=noC:=ap.1
  clear ap
  rw [egr] at c
  rw [if_pos c] at ev
  rw [egr]
  refine xx ?_
  refine fin_pub (e:=75) (sz:=33) (n:=ms.length) (o:=some (bo,co)) oko (by rw [flatG_len motC_len,List.length_set,hql']) (by omega) (L0:=[]) ⟨trivial,hbo6⟩ fun h7 le7 sl=>fin_tail (fin_here ?_)
  have hq2:=gr_lt (z:=zeroQM) (l:=ql') (i:=k) (by omega)
  have him:IsMot h5 (gr zeroQM ql' k):=mo' _ (by rw [hq2]; exact List.getElem_mem _)
  have him2:IsMot h5 ((gr zeroQM ql' k).1,(gr zeroQM ql' k).2.1,finM (gr zeroMot ms k) done):=by
   rw [← egr]
   exact isMot_st him (st:=if done then 3 else 4) (by cases done<;>decide) (him.ok.n _ (by simp))
  have:=hk h7 _ (ql'.set k ((gr zeroQM ql' k).1,(gr zeroQM ql' k).2.1,finM (gr zeroMot ms k) done)) (le5.trans le7) (by have:=Recs.pub (f:=motC) (w:=33) (l:=ql'.set k ((gr zeroQM ql' k).1,(gr zeroQM ql' k).2.1,finM (gr zeroMot ms k) done)) (o:=some (bo,co)) motC_len (by rw [List.length_set,hql']; exact sl); rwa [List.length_set,hql'] at this) (by rw [setQ_map',eq',ev]) (fun x hx=>(setQ_ok' mo' him2 x hx).up le7)
  rw [ev] at this
  exact this
 ·clear ap
  rw [egr] at c
  rw [if_neg c] at ev
  have:=bad h5 291 le5 ev
  refine xx ?_
  exact fin_tail (fin_tail (fin_here this))
theorem mfinish_any {ql:List QM} {ms:List MotD} (v:Value) (hv:Recs motC 33 h v ql) (hq:ql.map (fun x=>x.2.2)=ms) (hm:MotsOk h ql) (hl:ql.length≤1000) (hb:∀ m∈ms,m.yes.length≤1000∧m.no.length≤1000) (i:Int) (hi : -9223372036854775808≤i∧i≤9223372036854775807) (done:Bool)
  (hk:∀ h' r ql',PH.le h h'→Recs motC 33 h' r ql'→ql'.map (fun x=>x.2.2)=(finP ms i done).1→MotsOk h' ql'→K (.tuple #[r,.int .i64 (finP ms i done).2]) L h') :
  Spec Tryz.prog 162 [v,.int .i64 i,.bool done] L h K:=by
 refine x_enter Tryz.func162 rfl (rs:=[_,_]) rfl rfl mixed (by kernel_rfl) rfl rfl ?_
 refine xx ?_
 refine xnew fun b5 n_b5 h_b5=>?_
 try simp only [Apart] at n_b5
 refine xx ?_
 refine mchF_any v hv hq hm hl hb i hi done fun h' r ql' le i1 i2 i3=>?_
 have:=hk h' r ql' le i1 i2 i3
 refine xx ?_
 exact fin_here this
theorem pur_add {ps:List Int} {i:Nat} {a:Int} (hi:i<ps.length):tot (ps.set i (at0 ps i+a))=tot ps+a:=by rw [tot_set hi]; omega
theorem pur_pos {ps:List Int} {i:Nat} {a:Int} (hp:∀ j,0≤at0 ps j) (ha:0≤a) (hi:i<ps.length) (j:Nat):0≤at0 (ps.set i (at0 ps i+a)) j:=by
 have h0:=hp j
 have h1:=hp i
 rw [at0_set _ _ _ _ hi]
 split<;>omega
theorem bal_set {ms:List MemD} {i:Nat} (hi:i<ms.length) (m:MemD):tot ((ms.set i m).map MemD.bal)=tot (ms.map MemD.bal)+(m.bal-(gr zeroM ms i).bal):=by
 rw [List.map_set,tot_set (by simpa using hi),at0_bal hi]
theorem tot_append (xs ys:List Int):tot (xs++ys)=tot xs+tot ys:=by
 rw [tot_sum,tot_sum,tot_sum,List.sum_append]
structure BeM (ms:List MemD) (ps:List Int):Prop where
 m:∀ x∈ms,MemOk x
 o:∀ x∈ms,0≤x.owner∧x.owner<ps.length
 p:∀ i,0≤at0 ps i
theorem BeM.ok {ms:List MemD} {ps:List Int} (h:BeM ms ps) (ht:tot ps+tot (ms.map MemD.bal)≤4611686018427387904):BeOk ms ps:=⟨h.m,h.o,h.p,ht⟩
theorem BeM.setM {ms:List MemD} {ps:List Int} (h:BeM ms ps) (i:Nat) {m:MemD} (hm:MemOk m) (ho:0≤m.owner∧m.owner<ps.length):BeM (ms.set i m) ps :=
 ⟨fun x hx=>by
  rcases List.mem_or_eq_of_mem_set hx with hx | rfl
  ·exact h.m x hx
  ·exact hm,fun x hx=>by
  rcases List.mem_or_eq_of_mem_set hx with hx | rfl
  ·exact h.o x hx
  ·exact ho,h.p⟩
theorem BeM.pay {ms:List MemD} {ps:List Int} (h:BeM ms ps) {i:Nat} (hi:i<ps.length) {a:Int} (ha:0≤a):BeM ms (ps.set i (at0 ps i+a)) :=
 ⟨h.m,fun x hx=>by rw [List.length_set]; exact h.o x hx,pur_pos h.p ha hi⟩
theorem BeM.at {ms:List MemD} {ps:List Int} (h:BeM ms ps) {i:Nat} (hi:i<ms.length):MemOk (gr zeroM ms i)∧0≤(gr zeroM ms i).owner∧(gr zeroM ms i).owner<ps.length:=⟨h.m _ (gr_mem hi),h.o _ (gr_mem hi)⟩
theorem BeM.bal {ms:List MemD} {ps:List Int} (h:BeM ms ps):0≤tot (ms.map MemD.bal):=tot_nonneg (bal_pos h.m)
theorem BeM.pur {ms:List MemD} {ps:List Int} (h:BeM ms ps):0≤tot ps:=tot_nonneg h.p
theorem BeM.le {ms:List MemD} {ps:List Int} (h:BeM ms ps) (i:Nat):0≤at0 ps i∧at0 ps i≤tot ps:=⟨h.p i,at0_le_tot h.p i⟩
theorem BeM.bl {ms:List MemD} {ps:List Int} (h:BeM ms ps) {i:Nat} (hi:i<ms.length):0≤(gr zeroM ms i).bal∧(gr zeroM ms i).bal≤tot (ms.map MemD.bal):=by
 have h1:=at0_le_tot (bal_pos h.m) i
 have h2:=bal_pos h.m i
 rw [at0_bal hi] at h1 h2
 exact ⟨h2,h1⟩
theorem payM_ok {p:ParD} (ok:ParOk p) {m:MemD} (mo:MemOk m) {a:Int} (ha:0≤a):MemOk (payM p m a).1∧(payM p m a).1.owner=m.owner∧(payM p m a).1.status=m.status∧0≤(payM p m a).2∧(payM p m a).2≤a∧(payM p m a).1.bal+(payM p m a).2=m.bal+a:=by
 have hb:=mo.u m.bal (by simp)
 have he:=mo.u m.eff (by simp)
 have hs:=mo.u m.score (by simp)
 have hn1:=mo.n m.streak (by simp)
 have hn2:=mo.n m.owner (by simp)
 have hn3:=mo.n m.status (by simp)
 have hc:=ok.w p.cap (by simp [wides])
 have hf:0≤fallP p.cap m.bal∧(fallP p.cap m.bal=0∨m.bal+fallP p.cap m.bal=p.cap):=by unfold fallP; split<;>omega
 refine ⟨⟨fun z hz=>?_,fun z hz=>?_⟩,rfl,rfl,?_,?_,?_⟩
 ·simp only [payM,List.mem_cons,List.not_mem_nil,or_false] at hz
  rcases hz with rfl | rfl | rfl<;>omega
 ·simp only [payM,List.mem_cons,List.not_mem_nil,or_false] at hz
  rcases hz with rfl | rfl | rfl<;>omega
 ·show 0≤a-min a (fallP p.cap m.bal); omega
 ·show a-min a (fallP p.cap m.bal)≤a; omega
 ·show m.bal+min a (fallP p.cap m.bal)+(a-min a (fallP p.cap m.bal))=_; omega
theorem py_len (p:ParD) (i:Nat) (a:Int) (x:List MemD×List Int):(pyStep p i a x).1.length=x.1.length∧(pyStep p i a x).2.length=x.2.length:=⟨List.length_set,List.length_set⟩
theorem py_ok {p:ParD} (ok:ParOk p) {x:List MemD×List Int} (h:BeM x.1 x.2) {i:Nat} (hi:i<x.1.length) {a:Int} (ha:0≤a) :
  BeM (pyStep p i a x).1 (pyStep p i a x).2∧tot (pyStep p i a x).2+tot ((pyStep p i a x).1.map MemD.bal)=tot x.2+tot (x.1.map MemD.bal)+a:=by
 obtain ⟨mo,o1,o2⟩:=h.at hi
 obtain ⟨g1,g2,g3,g4,g5,g6⟩:=payM_ok ok mo ha
 have hj:(gr zeroM x.1 i).owner.toNat<x.2.length:=by omega
 refine ⟨(h.pay hj g4).setM i g1 ⟨by rw [g2]; exact o1,by rw [g2,List.length_set]; exact o2⟩,?_⟩
 simp only [pyStep]
 rw [pur_add hj,bal_set hi]
 omega
structure MtOk (P:List Int) (x0 x:List MemD×List Int) (k:Nat):Prop where
 l1:x.1.length=x0.1.length
 l2:x.2.length=x0.2.length
 b:BeM x.1 x.2
 t:tot x.2+tot (x.1.map MemD.bal)=tot x0.2+tot (x0.1.map MemD.bal)+sumK P k
 s:∀ j,(gr zeroM x.1 j).status=(gr zeroM x0.1 j).status∧(gr zeroM x.1 j).owner=(gr zeroM x0.1 j).owner
theorem mtK_ok {p:ParD} (ok:ParOk p) {W:List Nat} {P:List Int} {x:List MemD×List Int} (h:BeM x.1 x.2) (hW:∀ i∈W,i<x.1.length) (hP:∀ i,0≤at0 P i):∀ k,k≤W.length→MtOk P x (mtK p W P x k) k
 | 0,_=>⟨rfl,rfl,h,by simp [mtK,sumK],fun _=>⟨rfl,rfl⟩⟩
 | k+1,hk=>by
  have ih:=mtK_ok ok h hW hP k (by omega)
  have hi:W.getD k 0<x.1.length:=by
   rw [List.getD_eq_getElem?_getD,List.getElem?_eq_getElem (by omega),Option.getD_some]
   exact hW _ (List.getElem_mem _)
  have hi2:W.getD k 0<(mtK p W P x k).1.length:=by rw [ih.l1]; exact hi
  have hl:=py_len p (W.getD k 0) (at0 P k) (mtK p W P x k)
  obtain ⟨g1,g2⟩:=py_ok ok ih.b hi2 (hP k)
  refine ⟨hl.1.trans ih.l1,hl.2.trans ih.l2,g1,?_,fun j=>?_⟩
  ·rw [sumK,← Int.add_assoc,← ih.t]; exact g2
  ·rw [mtK]
   simp only [pyStep]
   rw [gr_setM hi2]
   obtain ⟨e1,e2⟩:=ih.s j
   split
   ·rename_i e
    subst e
    exact ⟨e1,e2⟩
   ·exact ⟨e1,e2⟩
theorem thI_lt {l:List MemD} {ks:List Int} {n i:Nat} (hi:i∈thI l ks n):i<n:=cP_lt (List.mem_filter.1 hi).1
theorem thI_cnt {l:List MemD} {ks:List Int} {n i:Nat} (hi:i∈thI l ks n):cntM (gr zeroM l i)∧getB ks i=true:=by
 have h1:=List.mem_filter.1 hi
 have h2:=cP_cnt h1.1
 simp only [cntB,decide_eq_true_eq] at h2
 exact ⟨h2,h1.2⟩
theorem fineM_ok {p:ParD} (ok:ParOk p) (hr:parR p=true) {m:MemD} (mo:MemOk m) (mode:Int):MemOk (fineM p m mode)∧0≤fineP p m mode∧fineP p m mode≤m.bal∧0≤burnP p (fineP p m mode)∧burnP p (fineP p m mode)≤fineP p m mode:=by
 have hb:=mo.u m.bal (by simp)
 have he:=mo.u m.eff (by simp)
 have hs:=mo.u m.score (by simp)
 have hn1:=mo.n m.streak (by simp)
 have hn2:=mo.n m.owner (by simp)
 have hn3:=mo.n m.status (by simp)
 have hf:=fine_b ok hr mo mode
 have hps:=parR_streak hr
 have hbu:=burn_le (p:=p) (n:=fineP p m mode) ⟨hf.1,by omega⟩ (by omega)
 refine ⟨⟨fun z hz=>?_,fun z hz=>?_⟩,hf.1,hf.2,hbu.1,hbu.2.1⟩
 ·simp only [fineM,List.mem_cons,List.not_mem_nil,or_false] at hz
  rcases hz with rfl | rfl | rfl<;>omega
 ·simp only [fineM,List.mem_cons,List.not_mem_nil,or_false] at hz
  rcases hz with rfl | rfl | rfl<;>omega
theorem fnF_ok {p:ParD} (ok:ParOk p) (hr:parR p=true) (ks:List Int) (mode:Int) (k:Nat) {m:MemD} (mo:MemOk m):MemOk (fnF p ks mode k m):=by
 unfold fnF
 split
 ·exact (fineM_ok ok hr mo mode).1
 ·exact mo
theorem fnF_f (p:ParD) (ks:List Int) (mode:Int) (k:Nat) (m:MemD):(fnF p ks mode k m).owner=m.owner∧(fnF p ks mode k m).status=m.status:=by
 unfold fnF
 split
 ·exact ⟨rfl,rfl⟩
 ·exact ⟨rfl,rfl⟩
theorem fn_tot {p:ParD} (ok:ParOk p) (hr:parR p=true) (ks:List Int) (mode:Int) {ms:List MemD} (hm:∀ x∈ms,MemOk x):∀ k,k≤ms.length→0≤fnU p ks mode ms k∧fnU p ks mode ms k≤fnT p ks mode ms k∧fnT p ks mode ms k+tot ((upI (fnF p ks mode) ms k).map MemD.bal)=tot (ms.map MemD.bal)
 | 0,_=>⟨Int.le_refl _,Int.le_refl _,by simp [fnT,upI]⟩
 | k+1,hk=>by
  obtain ⟨h1,h2,h3⟩:=fn_tot ok hr ks mode hm k (by omega)
  have hl:=upI_len (fnF p ks mode) ms k
  have hb:=bal_set (ms:=upI (fnF p ks mode) ms k) (i:=k) (by omega) (fnF p ks mode k (gr zeroM ms k))
  rw [upI_at _ _ (by omega)] at hb
  obtain ⟨_,g1,g2,g3,g4⟩:=fineM_ok ok hr (hm _ (gr_mem (z:=zeroM) (k:=k) (by omega))) mode
  rw [upI,hb,fnT,fnU]
  by_cases c:fnC ks k (gr zeroM ms k)
  ·rw [if_pos c,if_pos c,fnF,if_pos c]
   refine ⟨by omega,by omega,?_⟩
   show _+(_+((gr zeroM ms k).bal-fineP p (gr zeroM ms k) mode-_))=_
   omega
  ·rw [if_neg c,if_neg c,fnF,if_neg c]
   exact ⟨h1,h2,by omega⟩
theorem wgF_f (p:ParD) (ks:List Int) (mode:Int) (k:Nat) (m:MemD):(wgF p ks mode k m).owner=m.owner∧(wgF p ks mode k m).status=m.status∧(wgF p ks mode k m).bal=m.bal∧(wgF p ks mode k m).eff=m.eff:=by
 unfold wgF afterM
 split
 ·split
  ·exact ⟨rfl,rfl,rfl,rfl⟩
  ·exact ⟨rfl,rfl,rfl,rfl⟩
 ·exact ⟨rfl,rfl,rfl,rfl⟩
theorem endR_ok {m:MemD} (mo:MemOk m) {r:Int} (h0:0≤r∧r≤100):MemOk (endR m r):=by
 have hs:=mo.u m.score (by simp)
 have hn2:=mo.n m.owner (by simp)
 refine ⟨fun z hz=>?_,fun z hz=>?_⟩
 ·simp only [endR,List.mem_cons,List.not_mem_nil,or_false] at hz
  rcases hz with rfl | rfl | rfl<;>omega
 ·simp only [endR,List.mem_cons,List.not_mem_nil,or_false] at hz
  rcases hz with rfl | rfl | rfl<;>omega
structure LvOk (x0 x:List MemD×List DueD) (k:Nat):Prop where
 l1:x.1.length=x0.1.length
 m:∀ y∈x.1,MemOk y
 d:∀ y∈x.2,DueOk y
 n:x.2.length≤x0.2.length+k
 t:dTot x.2+tot (x.1.map MemD.bal)=dTot x0.2+tot (x0.1.map MemD.bal)
 o:∀ j,(gr zeroM x.1 j).owner=(gr zeroM x0.1 j).owner
theorem dueOf_ok {t:Int} (ht:0≤t∧t≤2147483647) {m:MemD} (mo:MemOk m):DueOk (dueOf t m):=by
 have hb:=mo.u m.bal (by simp)
 have hn:=mo.n m.owner (by simp)
 exact ⟨hb,fun z hz=>by
  simp only [dueOf,List.mem_cons,List.not_mem_nil,or_false] at hz
  rcases hz with rfl | rfl<;>omega⟩
theorem lvK_ok {t:Int} (ht:0≤t∧t≤2147483647) {W:List Int} {x:List MemD×List DueD} (hm:∀ y∈x.1,MemOk y) (hd:∀ y∈x.2,DueOk y) (hW:∀ i∈W,0≤i∧i<x.1.length) (hT:dTot x.2+tot (x.1.map MemD.bal)≤4611686018427387904):∀ k,k≤W.length→LvOk x (lvK t W x k) k
 | 0,_=>⟨rfl,hm,hd,by simp [lvK],rfl,fun _=>rfl⟩
 | k+1,hk=>by
  have ih:=lvK_ok ht hm hd hW hT k (by omega)
  have hi:=hW (at0 W k) (by rw [← at0_lt (by omega)]; exact List.getElem_mem (by omega))
  obtain ⟨i,he⟩:=Int.eq_ofNat_of_zero_le hi.1
  rw [lvK,he]
  have hi2:i<(lvK t W x k).1.length:=by rw [ih.l1]; omega
  have mo:=ih.m _ (gr_mem (z:=zeroM) hi2)
  have hb:=mo.u (gr zeroM (lvK t W x k).1 i).bal (by simp)
  have hbt:=at0_le_tot (bal_pos ih.m) i
  rw [at0_bal hi2] at hbt
  have h3:=ih.t
  obtain ⟨d1,_,d3⟩:=oweL_ok (M:=dTot (lvK t W x k).2) (n:=x.2.length+k) ⟨ih.d,Int.le_refl _,ih.n⟩ (dueOf_ok ht mo) (by show _+(gr zeroM (lvK t W x k).1 i).bal≤_; omega)
  refine ⟨by simp only [lvStep,Int.toNat_natCast,List.length_set]; exact ih.l1,fun y hy=>?_,d1,d3,?_,fun j=>?_⟩
  ·simp only [lvStep,Int.toNat_natCast] at hy
   rcases List.mem_or_eq_of_mem_set hy with hy | rfl
   ·exact ih.m y hy
   ·exact endR_ok mo (by decide)
  ·simp only [lvStep,Int.toNat_natCast]
   rw [oweL_tot,bal_set hi2]
   show _+(gr zeroM (lvK t W x k).1 i).bal+(_+(0-_))=_
   omega
  ·simp only [lvStep,Int.toNat_natCast]
   rw [gr_setM hi2]
   split
   ·rename_i e; subst e; exact ih.o j
   ·exact ih.o j
theorem dpK_ok {l:List DueD} {ps:List Int} (hp:∀ i,0≤at0 ps i) (hl:∀ x∈l,0≤x.acct∧x.acct<ps.length∧0≤x.amt):∀ k,k≤l.length→(dpK l ps k).length=ps.length∧(∀ i,0≤at0 (dpK l ps k) i)∧tot (dpK l ps k)=tot ps+sumK (l.map DueD.amt) k
 | 0,_=>⟨rfl,hp,by simp [dpK,sumK]⟩
 | k+1,hk=>by
  obtain ⟨h1,h2,h3⟩:=dpK_ok hp hl k (by omega)
  have hx:=hl _ (gr_mem (z:=zeroDue) (k:=k) (l:=l) (by omega))
  have hj:(gr zeroDue l k).acct.toNat<(dpK l ps k).length:=by omega
  rw [dpK]
  refine ⟨by rw [List.length_set]; exact h1,pur_pos h2 hx.2.2 hj,?_⟩
  rw [pur_add hj,sumK,at0_amt (by omega),h3]
  omega
theorem sumK_le {l:List Int} (h0:∀ i,0≤at0 l i) {k:Nat} (hk:k≤l.length):0≤sumK l k∧sumK l k≤tot l:=⟨sumK_nonneg h0 k,sumK_mono h0 hk⟩
def RowP (ms:List MemD) (l:List Int) (st:Int):Prop:=l.Nodup∧∀ z,z∈l↔∃ j:Nat,z=j∧j<ms.length∧(gr zeroM ms j).status=st
theorem row_in {ms:List MemD} {l:List Int} {st:Int} (h:RowP ms l st) {z:Int} (hz:z∈l):0≤z∧z<ms.length∧(gr zeroM ms z.toNat).status=st:=by
 obtain ⟨j,rfl,h1,h2⟩:=(h.2 z).1 hz
 exact ⟨by omega,by omega,by simpa using h2⟩
theorem row_has {ms:List MemD} {l:List Int} {st:Int} (h:RowP ms l st) {j:Nat} (hj:j<ms.length) (e:(gr zeroM ms j).status=st):(j:Int)∈l:=(h.2 _).2 ⟨j,rfl,hj,e⟩
theorem nodup_len {l:List Int} {n:Nat} (hn:l.Nodup) (hl:∀ z∈l,0≤z∧z<n):l.length≤n:=by
 have h0:((List.range n).map fun j:Nat=>(j:Int)).Nodup:=by
  rw [List.Nodup,List.pairwise_map]
  exact List.nodup_range.imp fun h e=>h (by omega)
 have h1:l.Perm (((List.range n).map fun j:Nat=>(j:Int)).filter fun z=>decide (z∈l)):=by
  refine (List.perm_ext_iff_of_nodup hn (h0.filter _)).2 fun z=>?_
  rw [List.mem_filter,decide_eq_true_eq]
  refine ⟨fun hz=>⟨?_,hz⟩,fun hz=>hz.2⟩
  obtain ⟨h2,h3⟩:=hl z hz
  exact List.mem_map.2 ⟨z.toNat,List.mem_range.2 (by omega),by omega⟩
 rw [h1.length_eq]
 refine Nat.le_trans (List.length_filter_le _ _) ?_
 rw [List.length_map,List.length_range]
 exact Nat.le_refl _
theorem row_len {ms:List MemD} {l:List Int} {st:Int} (h:RowP ms l st):l.length≤ms.length:=nodup_len h.1 fun z hz=>by
 have:=row_in h hz
 omega
theorem row_iffB {s:StD} {l:List Int} {st:Int}:rowB s l st=true↔RowP s.members l st:=by
 constructor
 ·intro h
  rw [rowB,Bool.and_eq_true,decide_eq_true_eq] at h
  obtain ⟨h1,h2⟩:=h
  have hp:l.Perm ((stL s.members st s.members.length).map fun j:Nat=>(j:Int)):=by
   refine perm_of_sub2 (stL_nodup _ _ _) (fun x hx=>?_) ?_
   ·obtain ⟨j,hj,rfl⟩:=List.mem_map.1 hx
    rw [stL_mem] at hj
    exact hasB_mem h1 hj.1 hj.2
   ·rw [List.length_map,h2,cntS_len]
  refine ⟨hp.nodup_iff.2 (stL_nodup _ _ _),fun z=>?_⟩
  rw [hp.mem_iff,List.mem_map]
  constructor
  ·rintro ⟨j,hj,rfl⟩
   rw [stL_mem] at hj
   exact ⟨j,rfl,hj.1,hj.2⟩
  ·rintro ⟨j,rfl,h3,h4⟩
   exact ⟨j,stL_mem.2 ⟨h3,h4⟩,rfl⟩
 ·intro h
  rw [rowB,Bool.and_eq_true,decide_eq_true_eq]
  refine ⟨hasB_true fun j hj e=>row_has h hj e,?_⟩
  rw [cntS_len]
  have hp:l.Perm ((stL s.members st s.members.length).map fun j:Nat=>(j:Int)):=by
   refine (List.perm_ext_iff_of_nodup h.1 (stL_nodup _ _ _)).2 fun z=>?_
   rw [h.2 z,List.mem_map]
   constructor
   ·rintro ⟨j,rfl,h3,h4⟩
    exact ⟨j,stL_mem.2 ⟨h3,h4⟩,rfl⟩
   ·rintro ⟨j,hj,rfl⟩
    rw [stL_mem] at hj
    exact ⟨j,rfl,hj.1,hj.2⟩
  rw [hp.length_eq,List.length_map]
theorem row_eq {ms ms':List MemD} {l:List Int} {st:Int} (h:RowP ms l st) (hl:ms'.length=ms.length) (he:∀ j,j<ms.length→((gr zeroM ms' j).status=st↔(gr zeroM ms j).status=st)):RowP ms' l st:=by
 refine ⟨h.1,fun z=>(h.2 z).trans ?_⟩
 constructor
 ·rintro ⟨j,e,h1,h2⟩
  exact ⟨j,e,by omega,(he j h1).2 h2⟩
 ·rintro ⟨j,e,h1,h2⟩
  exact ⟨j,e,by omega,(he j (by omega)).1 h2⟩
theorem row_set {ms:List MemD} {l:List Int} {st:Int} (h:RowP ms l st) {i:Nat} (hi:i<ms.length) {m:MemD} (hm:m.status=st↔(gr zeroM ms i).status=st):RowP (ms.set i m) l st:=by
 refine row_eq h (by simp) fun j hj=>?_
 rw [gr_setM hi]
 split
 ·rename_i e; subst e; exact hm
 ·exact Iff.rfl
theorem row_add {ms:List MemD} {l:List Int} {st:Int} (h:RowP ms l st) {i:Nat} (hi:i<ms.length) {m:MemD} (h0:(gr zeroM ms i).status≠st) (hm:m.status=st):RowP (ms.set i m) (l++[(i:Int)]) st:=by
 have hni:(i:Int) ∉ l:=fun c=>h0 (by have:=(row_in h c).2.2; simpa using this)
 refine ⟨?_,fun z=>?_⟩
 ·rw [List.nodup_append]
  refine ⟨h.1,by simp,fun a ha b hb e=>hni ?_⟩
  rw [List.mem_singleton] at hb
  rw [← hb,← e]; exact ha
 ·rw [List.mem_append,List.mem_singleton,h.2 z]
  constructor
  ·rintro (⟨j,rfl,h1,h2⟩ | rfl)
   ·refine ⟨j,rfl,by simpa using h1,?_⟩
    rw [gr_setM hi]
    split
    ·exact hm
    ·exact h2
   ·exact ⟨i,rfl,by simpa using hi,by rw [gr_setM hi,if_pos rfl]; exact hm⟩
  ·rintro ⟨j,rfl,h1,h2⟩
   rw [gr_setM hi] at h2
   by_cases e:j=i
   ·right; rw [e]
   ·left
    rw [if_neg e] at h2
    exact ⟨j,rfl,by simpa using h1,h2⟩
theorem row_flt {ms:List MemD} {l:List Int} {st:Int} (h:RowP ms l st) {i:Nat} (hi:i<ms.length) {m:MemD} (hm:m.status≠st):RowP (ms.set i m) (flt l i) st:=by
 refine ⟨h.1.filter _,fun z=>?_⟩
 rw [flt,List.mem_filter,h.2 z,decide_eq_true_eq]
 constructor
 ·rintro ⟨⟨j,rfl,h1,h2⟩,h3⟩
  refine ⟨j,rfl,by simpa using h1,?_⟩
  rw [gr_setM hi,if_neg (fun e=>h3 (by rw [e]))]
  exact h2
 ·rintro ⟨j,rfl,h1,h2⟩
  rw [gr_setM hi] at h2
  by_cases e:j=i
  ·rw [if_pos e] at h2; exact absurd h2 hm
  ·rw [if_neg e] at h2
   exact ⟨⟨j,rfl,by simpa using h1,h2⟩,fun c=>e (by omega)⟩
theorem row_pop {ms:List MemD} {l:List Int} {st:Int} {i:Nat} (h:RowP ms ((i:Int)::l) st) {m:MemD} (hm:m.status≠st):RowP (ms.set i m) l st:=by
 have hi:i<ms.length:=by have:=(row_in h (z:=i) (by simp)).2.1; omega
 have hn:=List.nodup_cons.1 h.1
 refine ⟨hn.2,fun z=>?_⟩
 have hz:=h.2 z
 rw [List.mem_cons] at hz
 constructor
 ·intro hzl
  obtain ⟨j,rfl,h1,h2⟩:=hz.1 (.inr hzl)
  refine ⟨j,rfl,by simpa using h1,?_⟩
  rw [gr_setM hi,if_neg (fun e=>hn.1 (by rw [← e]; exact hzl))]
  exact h2
 ·rintro ⟨j,rfl,h1,h2⟩
  rw [gr_setM hi] at h2
  by_cases e:j=i
  ·rw [if_pos e] at h2; exact absurd h2 hm
  ·rw [if_neg e] at h2
   rcases hz.2 ⟨j,rfl,by simpa using h1,h2⟩ with c | c
   ·exact absurd (by omega) e
   ·exact c
theorem gr_snoc {ms:List MemD} {m:MemD} {j:Nat}:gr zeroM (ms++[m]) j=if j=ms.length then m else gr zeroM ms j:=by
 by_cases e:j=ms.length
 ·rw [if_pos e,gr_lt (by simp; omega)]
  subst e
  rw [List.getElem_append_right (Nat.le_refl _)]
  simp
 ·rw [if_neg e]
  by_cases hj:j<ms.length
  ·rw [gr_lt (by simp; omega),gr_lt hj,List.getElem_append_left hj]
  ·rw [gr_out (by simp; omega),gr_out (by omega)]
theorem row_snoc {ms:List MemD} {l:List Int} {st:Int} (h:RowP ms l st) {m:MemD} (hm:m.status≠st):RowP (ms++[m]) l st:=by
 refine ⟨h.1,fun z=>(h.2 z).trans ?_⟩
 constructor
 ·rintro ⟨j,e,h1,h2⟩
  exact ⟨j,e,by simp; omega,by rw [gr_snoc,if_neg (by omega)]; exact h2⟩
 ·rintro ⟨j,e,h1,h2⟩
  rw [gr_snoc] at h2
  split at h2
  ·exact absurd h2 hm
  ·exact ⟨j,e,by simp at h1; omega,h2⟩
theorem credM_ok {p:ParD} (ok:ParOk p) {m:MemD} (mo:MemOk m) {a:Int} (ha:0≤a):MemOk (credM p m a)∧(credM p m a).owner=m.owner∧(credM p m a).bal=m.bal+crTake p m a∧0≤crTake p m a∧crTake p m a≤a∧((credM p m a).status=m.status∨((m.status=4∨m.status=5)∧(credM p m a).status=1)):=by
 have hb:=mo.u m.bal (by simp)
 have he:=mo.u m.eff (by simp)
 have hs:=mo.u m.score (by simp)
 have hn1:=mo.n m.streak (by simp)
 have hn2:=mo.n m.owner (by simp)
 have hn3:=mo.n m.status (by simp)
 have hc:=ok.w p.cap (by simp [wides])
 have hf:0≤fallP p.cap m.bal∧(fallP p.cap m.bal=0∨m.bal+fallP p.cap m.bal=p.cap):=by unfold fallP; split<;>omega
 have ht:0≤crTake p m a∧crTake p m a≤a∧crTake p m a≤fallP p.cap m.bal:=by unfold crTake; omega
 unfold credM
 split
 ·rename_i c
  refine ⟨⟨fun z hz=>?_,fun z hz=>?_⟩,rfl,rfl,ht.1,ht.2.1,.inr ⟨c.2,rfl⟩⟩
  ·simp only [List.mem_cons,List.not_mem_nil,or_false] at hz
   rcases hz with rfl | rfl | rfl<;>omega
  ·simp only [List.mem_cons,List.not_mem_nil,or_false] at hz
   rcases hz with rfl | rfl | rfl<;>omega
 ·refine ⟨⟨fun z hz=>?_,fun z hz=>?_⟩,rfl,rfl,ht.1,ht.2.1,.inl rfl⟩
  ·simp only [List.mem_cons,List.not_mem_nil,or_false] at hz
   rcases hz with rfl | rfl | rfl<;>omega
  ·simp only [List.mem_cons,List.not_mem_nil,or_false] at hz
   rcases hz with rfl | rfl | rfl<;>omega
structure CrOk (ex:List Int) (x:CrX) (pn:Nat) (T:Int):Prop where
 b:BeM x.ms x.ps
 l1:x.ms.length≤128
 l2:x.ps.length=pn
 t:tot x.ps+tot (x.ms.map MemD.bal)=T
 e:RowP x.ms x.en 1
 x:RowP x.ms ex 3
theorem crTo_ok {p:ParD} (ok:ParOk p) {ex:List Int} {x:CrX} {pn:Nat} {T:Int} (h:CrOk ex x pn T) {i:Nat} (hi:i<x.ms.length) {a acct:Int} (ha:0≤a) (h0:0≤acct∧acct<pn):CrOk ex (crTo p i a acct x) pn (T+a):=by
 obtain ⟨mo,o1,o2⟩:=h.b.at hi
 obtain ⟨g1,g2,g3,g4,g5,g6⟩:=credM_ok ok mo ha
 have hj:acct.toNat<x.ps.length:=by have:=h.l2; omega
 have ht:=h.t
 refine ⟨(h.b.pay hj (by omega)).setM i g1 ⟨by rw [g2]; exact o1,by rw [g2,List.length_set]; exact o2⟩,by simp only [crTo,List.length_set]; exact h.l1,by simp only [crTo,List.length_set]; exact h.l2,?_,?_,?_⟩
 ·simp only [crTo]
  rw [pur_add hj,bal_set hi,g3]
  omega
 ·simp only [crTo]
  rcases g6 with g6 | ⟨g6,g7⟩
  ·rw [if_pos g6]
   exact row_set h.e hi (by rw [g6])
  ·rw [if_neg (by rw [g7]; omega)]
   exact row_add h.e hi (by omega) g7
 ·simp only [crTo]
  refine row_set h.x hi ?_
  rcases g6 with g6 | ⟨g6,g7⟩
  ·rw [g6]
  ·rw [g7]; omega
theorem crStep_ok {p:ParD} (ok:ParOk p) {ex:List Int} {x:CrX} {pn:Nat} (hpn:pn≤9223372036854775807) {T:Int} (h:CrOk ex x pn T) {d:DepD} (ha:0≤d.amt) (h0:0≤d.acct∧d.acct<pn) (hm:d.new=true∨(0≤d.mem∧d.mem<x.ms.length)):CrOk ex (crStep p d x) pn (T+d.amt):=by
 have hj:d.acct.toNat<x.ps.length:=by have:=h.l2; omega
 have ht:=h.t
 unfold crStep
 cases c:d.new with
 | true =>
  rw [if_pos rfl]
  by_cases c1:128≤x.ms.length
  ·rw [if_pos c1]
   refine ⟨h.b.pay hj ha,h.l1,by simp only [List.length_set]; exact h.l2,?_,h.e,h.x⟩
   simp only
   rw [pur_add hj]; omega
  ·rw [if_neg c1]
   have hl:=h.l2
   refine crTo_ok ok (x:=⟨x.ms++[⟨0,0,0,0,d.acct,4⟩],x.ps,x.en⟩) ⟨⟨fun y hy=>?_,fun y hy=>?_,h.b.p⟩,by simp only [List.length_append,List.length_singleton]; omega,h.l2,?_,row_snoc h.e (by simp),row_snoc h.x (by simp)⟩ (i:=x.ms.length) (by simp) ha h0
   ·rcases List.mem_append.1 hy with hy | hy
    ·exact h.b.m y hy
    ·rw [List.mem_singleton] at hy
     subst hy
     exact ⟨fun z hz=>by simp at hz; omega,fun z hz=>by
      simp only [List.mem_cons,List.not_mem_nil,or_false] at hz
      rcases hz with rfl | rfl | rfl<;>omega⟩
   ·rcases List.mem_append.1 hy with hy | hy
    ·exact h.b.o y hy
    ·rw [List.mem_singleton] at hy
     subst hy
     simp only; omega
   ·simp only [List.map_append,List.map_cons,List.map_nil,tot_append,tot_cons',tot_nil]
    omega
 | false =>
  rw [if_neg (by decide)]
  rcases hm with hm | hm
  ·rw [c] at hm; cases hm
  ·exact crTo_ok ok h (by omega) ha h0
theorem crStep_len {p:ParD} (d:DepD) (x:CrX):x.ms.length≤(crStep p d x).ms.length:=by
 unfold crStep
 split
 ·split
  ·exact Nat.le_refl _
  ·simp [crTo]
 ·simp [crTo]
theorem crK_ok {p:ParD} (ok:ParOk p) {ex:List Int} {x:CrX} {pn:Nat} (hpn:pn≤9223372036854775807) {T:Int} (h:CrOk ex x pn T) {l:List DepD} (hl:∀ d∈l,0≤d.amt∧0≤d.acct∧d.acct<pn∧(d.new=true∨(0≤d.mem∧d.mem<x.ms.length))) :
  ∀ k,k≤l.length→CrOk ex (crK p l x k) pn (T+sumK (l.map DepD.amt) k)∧x.ms.length≤(crK p l x k).ms.length
 | 0,_=>⟨by simpa [crK,sumK] using h,Nat.le_refl _⟩
 | k+1,hk=>by
  obtain ⟨h1,h2⟩:=crK_ok ok hpn h hl k (by omega)
  obtain ⟨d1,d2,d3,d4⟩:=hl _ (gr_mem (z:=zeroDep) (k:=k) (l:=l) (by omega))
  have e:at0 (l.map DepD.amt) k=(gr zeroDep l k).amt:=by rw [gr_lt (by omega),← at0_lt (by rw [List.length_map]; omega),List.getElem_map]
  refine ⟨?_,Nat.le_trans h2 (crStep_len _ _)⟩
  rw [sumK,e,← Int.add_assoc]
  exact crStep_ok ok hpn h1 d1 ⟨d2,d3⟩ (d4.imp id fun d4=>⟨d4.1,by omega⟩)
theorem startM_ok {p:ParD} (ok:ParOk p) (hr:parR p=true) {m:MemD} (mo:MemOk m):MemOk (startM p m).1∧(startM p m).1.owner=m.owner∧(startM p m).1.bal=m.bal∧((startM p m).2=true→(startM p m).1.status=2∧m.status=1):=by
 have hb:=mo.u m.bal (by simp)
 have he:=mo.u m.eff (by simp)
 have hs:=mo.u m.score (by simp)
 have hn1:=mo.n m.streak (by simp)
 have hn2:=mo.n m.owner (by simp)
 have hn3:=mo.n m.status (by simp)
 have hw:=wholeP_ok (inc_pos hr) ok hb
 unfold startM
 split
 ·rename_i c
  refine ⟨⟨fun z hz=>?_,fun z hz=>?_⟩,rfl,rfl,fun _=>⟨rfl,c.1⟩⟩
  ·simp only [List.mem_cons,List.not_mem_nil,or_false] at hz
   rcases hz with rfl | rfl | rfl<;>omega
  ·simp only [List.mem_cons,List.not_mem_nil,or_false] at hz
   rcases hz with rfl | rfl | rfl<;>omega
 ·exact ⟨mo,rfl,rfl,fun h=>by cases h⟩
structure StOkX (W rest:List Int) (x0 x:StX) (pn k:Nat):Prop where
 l1:x.ms.length=x0.ms.length
 m:∀ y∈x.ms,MemOk y
 o:∀ y∈x.ms,0≤y.owner∧y.owner<pn
 d:∀ y∈x.ds,DueOk y
 n:x.ds.length≤x0.ds.length+k
 t:dTot x.ds+tot (x.ms.map MemD.bal)=dTot x0.ds+tot (x0.ms.map MemD.bal)
 e:RowP x.ms (W.drop k++rest) 1
 rx:RowP x.ms x.ex 3
 u:x.out.length≤x0.out.length+k
 g:x.go.length≤x0.go.length+k
theorem stK_ok {p:ParD} (ok:ParOk p) (hr:parR p=true) {t:Int} (ht:0≤t∧t≤2147483647) {W rest:List Int} {x:StX} {pn:Nat} (h:StOkX W rest x x pn 0) (hT:dTot x.ds+tot (x.ms.map MemD.bal)≤4611686018427387904):∀ k,k≤W.length→StOkX W rest x (stK p t W x k) pn k
 | 0,_=>h
 | k+1,hk=>by
  have ih:=stK_ok ok hr ht h hT k (by omega)
  have hd:W.drop k=at0 W k::W.drop (k+1):=by rw [List.drop_eq_getElem_cons (by omega),at0_lt (by omega)]
  have hin:=row_in ih.e (z:=at0 W k) (by rw [hd]; simp)
  obtain ⟨i,he⟩:=Int.eq_ofNat_of_zero_le hin.1
  rw [he] at hin hd
  rw [Int.toNat_natCast] at hin
  rw [stK,he,Int.toNat_natCast]
  have hi:i<(stK p t W x k).ms.length:=by omega
  have ie:=ih.e
  rw [hd,List.cons_append] at ie
  have mo:=ih.m _ (gr_mem (z:=zeroM) hi)
  have oo:=ih.o _ (gr_mem (z:=zeroM) hi)
  obtain ⟨g1,g2,g3,g4⟩:=startM_ok ok hr mo
  have hb:=mo.u (gr zeroM (stK p t W x k).ms i).bal (by simp)
  have hbt:=at0_le_tot (bal_pos ih.m) i
  rw [at0_bal hi] at hbt
  have h3:=ih.t
  have hn:=ih.n
  have hu:=ih.u
  have hg:=ih.g
  unfold stStep
  cases c:(startM p (gr zeroM (stK p t W x k).ms i)).2 with
  | true =>
   obtain ⟨s1,s2⟩:=g4 c
   rw [if_pos rfl]
   refine ⟨by simp only [List.length_set]; exact ih.l1,fun y hy=>?_,fun y hy=>?_,ih.d,by simp only; omega,?_,row_pop ie (by omega),row_set ih.rx hi (by omega),by simp only; omega,by simp only [List.length_append,List.length_singleton]; omega⟩
   ·rcases List.mem_or_eq_of_mem_set hy with hy | rfl
    ·exact ih.m y hy
    ·exact g1
   ·rcases List.mem_or_eq_of_mem_set hy with hy | rfl
    ·exact ih.o y hy
    ·rw [g2]; exact oo
   ·simp only
    rw [bal_set hi,g3]; omega
  | false =>
   rw [if_neg (by decide)]
   obtain ⟨d1,_,d3⟩:=oweL_ok (M:=dTot (stK p t W x k).ds) (n:=x.ds.length+k) ⟨ih.d,Int.le_refl _,ih.n⟩ (dueOf_ok ht mo) (by show _+(gr zeroM (stK p t W x k).ms i).bal≤_; omega)
   refine ⟨by simp only [List.length_set]; exact ih.l1,fun y hy=>?_,fun y hy=>?_,d1,d3,?_,row_pop ie (by simp [endM]),row_flt ih.rx hi (by simp [endM]),by simp only [List.length_append,List.length_singleton]; omega,by simp only; omega⟩
   ·rcases List.mem_or_eq_of_mem_set hy with hy | rfl
    ·exact ih.m y hy
    ·exact endM_ok mo
   ·rcases List.mem_or_eq_of_mem_set hy with hy | rfl
    ·exact ih.o y hy
    ·exact oo
   ·simp only
    rw [oweL_tot,bal_set hi]
    show _+(gr zeroM (stK p t W x k).ms i).bal+(_+(0-_))=_
    omega
structure MotR (pn:Nat) (m:MotD):Prop where
 ok:MotOk m
 f:motFits m=true
 a:0≤m.acct∧m.acct<pn
 t:0≤m.to∧m.to<pn
theorem motFits_iff {m:MotD}:motFits m=true↔motHead m=true∧motMid m=true∧chkB m.yes 128=true∧chkB m.no 128=true∧(if m.what=1 then parR m.par else decide (m.par=zeroP))=true:=by
 simp only [motFits,Bool.and_eq_true,and_assoc]
theorem MotR.state {pn:Nat} {m:MotD} (h:MotR pn m) {st:Int} (hs:1≤st∧st≤4) {due:Int} (hd:0≤due∧due≤2147483647):MotR pn { m with state:=st,due:=due }:=by
 obtain ⟨f1,f2,f3,f4,f5⟩:=motFits_iff.1 h.f
 refine ⟨⟨h.ok.a,fun z hz=>?_,h.ok.p⟩,motFits_iff.2 ⟨?_,?_,f3,f4,f5⟩,h.a,h.t⟩
 ·have hn:=h.ok.n
  simp only [List.forall_mem_cons] at hn
  simp only [List.mem_cons,List.not_mem_nil,or_false] at hz
  rcases hz with rfl | rfl | rfl | rfl | rfl | rfl<;>omega
 ·simp only [motHead,Bool.and_eq_true,wi_iff] at f1 ⊢
  exact ⟨f1.1,hs⟩
 ·simp only [motMid,Bool.and_eq_true,wi_iff] at f2 ⊢
  exact ⟨⟨f2.1.1,hd⟩,f2.2⟩
theorem MotR.fin {pn:Nat} {m:MotD} (h:MotR pn m) (b:Bool):MotR pn (finM m b):=by
 obtain ⟨f1,f2,f3,f4,f5⟩:=motFits_iff.1 h.f
 simp only [motMid,Bool.and_eq_true,wi_iff] at f2
 exact h.state (by cases b<;>decide) f2.1.2
theorem closeM_ok {pn:Nat} {p:ParD} (hp:0≤p.enact) {ms:List MemD} {ep:Int} (he:0≤ep) {m:MotD} (h:MotR pn m):MotR pn (closeM p ms ep m):=by
 unfold closeM
 split
 ·split
  ·exact h.state (by decide) (by omega)
  ·obtain ⟨f1,f2,f3,f4,f5⟩:=motFits_iff.1 h.f
   simp only [motMid,Bool.and_eq_true,wi_iff] at f2
   exact h.state (by decide) f2.1.2
 ·exact h
theorem gr_setT {l:List MotD} {i j:Nat} {m:MotD} (hi:i<l.length):gr zeroMot (l.set i m) j=if j=i then m else gr zeroMot l j:=by
 by_cases e:j=i
 ·subst e
  rw [gr_lt (by simpa using hi),if_pos rfl,List.getElem_set_self]
 ·rw [if_neg e]
  by_cases hj:j<l.length
  ·rw [gr_lt (by simpa using hj),gr_lt hj,List.getElem_set_ne (Ne.symm e)]
  ·unfold gr
   rw [List.getD_eq_getElem?_getD,List.getD_eq_getElem?_getD,List.getElem?_eq_none (by simpa using hj),List.getElem?_eq_none (by omega)]
structure MoOk (W:List Int) (x0 x:MoX) (k:Nat):Prop where
 r:parR x.par=true
 ok:ParOk x.par
 tr:0≤x.tr
 l2:x.ps.length=x0.ps.length
 p:∀ i,0≤at0 x.ps i
 t:tot x.ps+x.tr=tot x0.ps+x0.tr
 n:x.mo.length=x0.mo.length
 m:∀ m∈x.mo,MotR x0.ps.length m
 s:∀ j,k≤j→j<W.length→(gr zeroMot x.mo (at0 W j).toNat).state=2
 d:x.dn.length≤x0.dn.length+k
theorem moStep_ok {W:List Int} {x0 x:MoX} {k:Nat} (h:MoOk W x0 x k) (hW:W.Nodup) (hr:∀ z∈W,0≤z∧z<x0.mo.length) (hk:k<W.length):MoOk W x0 (moStep (at0 W k).toNat x) (k+1):=by
 have hmem:at0 W k∈W:=by rw [← at0_lt hk]; exact List.getElem_mem hk
 have hin:=hr _ hmem
 obtain ⟨i,he⟩:=Int.eq_ofNat_of_zero_le hin.1
 rw [he] at hin
 rw [he,Int.toNat_natCast]
 have hi:i<x.mo.length:=by have:=h.n; omega
 obtain ⟨m,hm⟩:∃ m,m=gr zeroMot x.mo i:=⟨_,rfl⟩
 have hmr:MotR x0.ps.length m:=by rw [hm]; exact h.m _ (gr_mem hi)
 have ht:=h.t
 have htr:=h.tr
 have hl:=h.l2
 have hmo:∀ b,∀ m'∈x.mo.set i (finM m b),MotR x0.ps.length m':=fun b m' hm'=>by
  rcases List.mem_or_eq_of_mem_set hm' with hm' | rfl
  ·exact h.m _ hm'
  ·exact hmr.fin b
 have hst:∀ b,∀ j,k+1≤j→j<W.length→(gr zeroMot (x.mo.set i (finM m b)) (at0 W j).toNat).state=2:=fun b j h1 h2=>by
  rw [gr_setT hi,if_neg]
  ·exact h.s j (by omega) h2
  ·intro e
   have hz:=hr (at0 W j) (by rw [← at0_lt h2]; exact List.getElem_mem h2)
   have e2:at0 W j=at0 W k:=by rw [he]; omega
   rw [← at0_lt h2,← at0_lt hk] at e2
   exact List.pairwise_iff_getElem.1 hW k j hk h2 (by omega) e2.symm
 have hd:=h.d
 have hdn:∀ b:Bool,(if b then x.dn++[(i:Int)] else x.dn).length≤x0.dn.length+(k+1):=fun b=>by
  cases b
  ·simp only [Bool.false_eq_true,if_false]; omega
  ·simp only [if_true,List.length_append,List.length_singleton]; omega
 rw [moStep,← hm]
 obtain ⟨f1,f2,f3,f4,f5⟩:=motFits_iff.1 hmr.f
 have ha:=hmr.ok.a
 unfold enactX
 split
 ·exact ⟨h.r,h.ok,h.tr,h.l2,h.p,h.t,by simp only [List.length_set]; exact h.n,hmo _,hst _,hdn _⟩
 ·split
  ·exact ⟨h.r,h.ok,h.tr,h.l2,h.p,h.t,by simp only [List.length_set]; exact h.n,hmo _,hst _,hdn _⟩
  ·split
   ·rename_i c
    rw [if_pos c] at f5
    exact ⟨f5,hmr.ok.p,h.tr,h.l2,h.p,h.t,by simp only [List.length_set]; exact h.n,hmo _,hst _,hdn _⟩
   ·split
    ·rename_i c
     have hj:m.to.toNat<x.ps.length:=by have:=hmr.t; omega
     refine ⟨h.r,h.ok,by simp only; omega,by simp only [List.length_set]; exact h.l2,pur_pos h.p ha.1 hj,?_,by simp only [List.length_set]; exact h.n,hmo _,hst _,hdn _⟩
     simp only
     rw [pur_add hj]; omega
    ·exact ⟨h.r,h.ok,h.tr,h.l2,h.p,h.t,by simp only [List.length_set]; exact h.n,hmo _,hst _,hdn _⟩
theorem moK_ok {W:List Int} {x:MoX} (h:MoOk W x x 0) (hW:W.Nodup) (hr:∀ z∈W,0≤z∧z<x.mo.length):∀ k,k≤W.length→MoOk W x (moK W x k) k
 | 0,_=>h
 | k+1,hk=>moStep_ok (moK_ok h hW hr k (by omega)) hW hr (by omega)
theorem ripeI_nodup (ms:List MotD) (now:Int) (qu:Bool) (k:Nat):(ripeI ms now qu k).Nodup:=by
 unfold ripeI
 rw [List.Nodup,List.pairwise_map]
 exact (List.Nodup.sublist List.filter_sublist List.nodup_range).imp fun h e=>h (by omega)
theorem ripeI_state {ms:List MotD} {now:Int} {qu:Bool} {k:Nat} {z:Int} (hz:z∈ripeI ms now qu k):(gr zeroMot ms z.toNat).state=2:=by
 obtain ⟨i,hi,rfl⟩:=List.mem_map.1 hz
 have:=(List.mem_filter.1 hi).2
 simp only [ripeM,Bool.and_eq_true,decide_eq_true_eq] at this
 simpa using this.1
structure TkI (s:StD) (D:Nat):Prop where
 r:parR s.par=true
 ok:StOk s
 ep:0≤s.ep∧s.ep<1073741824
 be:BeM s.members s.purses
 ml:s.members.length≤128
 pl:s.purses.length≤64
 en:RowP s.members s.entry 1
 ex:RowP s.members s.exit 3
 dd:∀ x∈s.dues,DueOk x∧0≤x.acct∧x.acct<s.purses.length
 dn:s.dues.length≤D
 oo:∀ d∈s.pool,DepOk d∧0≤d.acct∧d.acct<s.purses.length∧(d.new=true∨(0≤d.mem∧d.mem<s.members.length))
 on:s.pool.length≤256
 mm:∀ m∈s.motions,MotR s.purses.length m
 mn:s.motions.length≤32
 mon:tot s.purses+tot (s.members.map MemD.bal)+dTot s.dues+tot (s.pool.map DepD.amt)+s.treas+s.burn=s.gen+s.mint
 top:s.gen+s.mint≤s.most∧s.most≤4611686018427387904
theorem StOk.set {s:StD} (h:StOk s) {par:ParD} (hp:ParOk par) {mint burn treas ep calm:Int} {most gen:Int} (h1:0≤most∧most≤18446744073709551615) (h2:0≤gen∧gen≤18446744073709551615) (h3:0≤mint∧mint≤18446744073709551615) (h4:0≤burn∧burn≤18446744073709551615) (h5:0≤treas∧treas≤18446744073709551615) (h6 : -9223372036854775808≤ep∧ep≤9223372036854775807) (h7 : -9223372036854775808≤calm∧calm≤9223372036854775807)
  {emer:Bool} {purses:List Int} {members:List MemD} {entry exit:List Int} {pool:List DepD} {dues:List DueD} {motions:List MotD} {marks:List Int} {ring:List (List Int)}:StOk ⟨par,most,gen,mint,burn,treas,ep,calm,emer,purses,members,entry,exit,pool,dues,motions,marks,ring⟩ :=
 ⟨hp,fun z hz=>by
  simp only [List.mem_cons,List.not_mem_nil,or_false] at hz
  rcases hz with rfl | rfl | rfl | rfl | rfl<;>assumption,fun z hz=>by
  simp only [List.mem_cons,List.not_mem_nil,or_false] at hz
  rcases hz with rfl | rfl<;>assumption⟩
theorem StOk.all {s:StD} (h:StOk s):(0≤s.most∧s.most≤18446744073709551615)∧(0≤s.gen∧s.gen≤18446744073709551615)∧(0≤s.mint∧s.mint≤18446744073709551615)∧(0≤s.burn∧s.burn≤18446744073709551615)∧(0≤s.treas∧s.treas≤18446744073709551615)∧(-9223372036854775808≤s.ep∧s.ep≤9223372036854775807)∧(-9223372036854775808≤s.calm∧s.calm≤9223372036854775807):=by
 have hu:=h.u
 have hn:=h.n
 simp only [List.forall_mem_cons] at hu hn
 exact ⟨hu.1,hu.2.1,hu.2.2.1,hu.2.2.2.1,hu.2.2.2.2.1,hn.1,hn.2.1⟩
theorem TkI.parts {s:StD} {D:Nat} (h:TkI s D):0≤tot s.purses∧0≤tot (s.members.map MemD.bal)∧0≤dTot s.dues∧0≤tot (s.pool.map DepD.amt)∧0≤s.treas∧0≤s.burn :=
 ⟨h.be.pur,h.be.bal,tot_nonneg (amt_pos fun x hx=>(h.dd x hx).1),tot_nonneg (at0_map DepD.amt s.pool fun x hx=>(h.oo x hx).1.a.1),(h.ok.u _ (by simp)).1,(h.ok.u _ (by simp)).1⟩
theorem TkI.sum {s:StD} {D:Nat} (h:TkI s D):tot s.purses+tot (s.members.map MemD.bal)+dTot s.dues+tot (s.pool.map DepD.amt)+s.treas+s.burn≤4611686018427387904:=by
 have:=h.mon
 have:=h.top
 omega
theorem fitsT_iff {s:StD}:fitsS s=true↔parR s.par=true∧wi s.ep 0 1073741824=true∧wi s.calm 0 1073741824=true∧pursesB s=true∧membersB s=true∧poolsB s=true∧motionsB s=true∧marksB s=true∧holdsB s=true:=by
 simp only [fitsS,Bool.and_eq_true,and_assoc]
theorem acctT_iff {s:StD} {i:Int}:acctB s i=true↔0≤i∧i<s.purses.length:=by
 rw [acctB,wi_iff]; omega
theorem ti_of {h:PH} {v:SV} {s:StD} (hs:IsSt h v s) (hf:fitsS s=true) (he:s.ep<1073741824) {D:Nat} (hd:s.dues.length≤D):TkI s D:=by
 obtain ⟨be,hr,hep,hlen,htot⟩:=fits_be hs hf
 obtain ⟨f1,f2,f3,f4,f5,f6,f7,f8,f9⟩:=fitsT_iff.1 hf
 simp only [membersB,Bool.and_eq_true] at f5
 have f53:=row_iffB.1 f5.1.2
 have f54:=row_iffB.1 f5.2
 simp only [poolsB,Bool.and_eq_true,List.all_eq_true,decide_eq_true_eq,duesB,dueB,List.mem_range] at f6
 simp only [motionsB,Bool.and_eq_true,List.all_eq_true,decide_eq_true_eq] at f7
 simp only [holdsB,Bool.and_eq_true,decide_eq_true_eq,sAll,sStk,sPur,sPool,sDue] at f9
 obtain ⟨q,t1,t2,t3⟩:=hs.t
 refine ⟨f1,hs.ok,⟨hep.1,he⟩,⟨be.m,be.o,be.p⟩,hlen.2,hlen.1,f53,f54,fun x hx=>⟨hs.dd x hx,?_⟩,hd,fun d hd=>⟨hs.oo d hd,?_⟩,f6.1.1,fun m hm=>?_,f7.1,?_,⟨f9.1.1,f9.1.2⟩⟩
 ·obtain ⟨k,hk,rfl⟩:=List.mem_iff_getElem.1 hx
  have:=(f6.2 k hk).1.1
  rw [gr_lt hk] at this
  simp only [due1B,Bool.and_eq_true] at this
  exact acctT_iff.1 this.1.1.1
 ·have:=f6.1.2 d hd
  simp only [dep1B,Bool.and_eq_true,Bool.or_eq_true,wi_iff] at this
  have h2:=acctT_iff.1 this.1.2
  exact ⟨h2.1,h2.2,this.2.imp id fun c=>by omega⟩
 ·have:=f7.2 m hm
  have h1:=acctT_iff.1 this.1.2
  have h2:=acctT_iff.1 this.2
  refine ⟨?_,this.1.1,h1,h2⟩
  rw [← t2] at hm
  obtain ⟨y,hy,rfl⟩:=List.mem_map.1 hm
  exact (t3 y hy).ok
 ·have e:dTot s.dues=tot (s.dues.map DueD.amt):=rfl
  have q4:tot (s.members.map MemD.bal)+tot s.purses+tot (s.pool.map DepD.amt)+tot (s.dues.map DueD.amt)+s.treas+s.burn=s.gen+s.mint:=by first | exact f9.2 | exact of_decide_eq_true f9.2
  rw [e]
  omega
end Go.X

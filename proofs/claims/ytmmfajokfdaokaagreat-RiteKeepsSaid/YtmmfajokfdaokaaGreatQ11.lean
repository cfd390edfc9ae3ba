/- Lemmas and contracts. Conditions: as each says. -/
import Derived.Test.YtmmfajokfdaokaaGreatQ04
set_option linter.unusedVariables false
set_option linter.unusedSimpArgs false
set_option maxHeartbeats 12800000
set_option maxRecDepth 20000
namespace Go.X
open Go.RowKit Go.Bl
variable {P:Program}
def Ztm (k:IntKind)(es:List (Int×Value)):List Value:=es.map fun e=>Value.tuple #[.int k e.1,e.2]
def Yfe:List (Int×Value)→Int→Option Value
 | [],_=>none
 | e::es,n=>if n=e.1 then some e.2 else Yfe es n
def Yfn:List (Int×Value)→Int→Value→List (Int×Value)
 | [],n,v=>[(n,v)]
 | e::es,n,v=>if n=e.1 then (e.1,v)::es else e::Yfn es n v
def Ztj:List (Int×Value)→Int→Nat→Option (Nat×Value)
 | [],_,_=>none
 | e::es,n,i=>if n=e.1 then some (i,e.2) else Ztj es n (i+1)
theorem Zsj:∀ (es:List (Int×Value))(n:Int)(i:Nat),(Ztj es n i).map Prod.snd=Yfe es n
 | [],_,_=>rfl
 | e::es,n,i=>by
  simp only[Ztj,Yfe];split
  ·rfl
  ·exact Zsj es n (i+1)
theorem Zdz {k:IntKind}{T:TypeDesc}(hT:T = .int k)(n:Int):∀(l:List MapEntry) (es:List (Int×Value)) (i:Nat),l.map (fun x=>Value.tuple #[x.key,x.val])=Ztm k es→Instr.findNow T (.int k n) l i=some (Ztj es n i)
 | [],[],i,_=>rfl
 | [],_::_,i,h=>by simp [Ztm]at h
 | _::_,[],i,h=>by simp [Ztm]at h
 | x::l,e::es,i,h=>by
  simp only[Ztm,List.map_cons,List.cons.injEq,Value.tuple.injEq]at h;obtain⟨h1,h2⟩:=h;have hk:x.key = .int k e.1:=by have:=congrArg (fun a:Array Value=>a[0]?) h1;simpa using this
  have hv:x.val=e.2:=by have:=congrArg (fun a:Array Value=>a[1]?) h1;simpa using this
  subst hT;simp only[Instr.findNow,Instr.sameNow,hk,Ztj,hv,if_true];by_cases c:n=e.1
  ·simp [c]
  ·have:(n == e.1)=false:=by simpa using c
   rw[this,if_neg c];exact Zdz rfl n l es (i+1) h2
theorem Jn {kt:TypeId}{k:IntKind}(hk:P.underlying kt=some (.int k))(em:Bool)(n:Int)(W:World):(Instr.checkKey em 10000 kt (.int k n)).run P W = .ok () W:=by
 rw[show (10000:Nat)=9999+1 by rfl,Instr.checkKey];simp [run_underlying hk]
theorem JW {kt:TypeId}{k:IntKind}(hk:P.underlying kt=some (.int k))(n:Int)(l:List MapEntry)(es:List (Int×Value))(hl:l.map (fun x=>Value.tuple #[x.key,x.val])=Ztm k es)(W:World) :
  (Instr.findKey kt (.int k n) l).run P W = .ok (Ztj es n 0) W:=by
 simp [Instr.findKey,run_underlying hk,Zdz rfl n l es 0 hl]
theorem JY {W:World}{b:Nat}{es:Array MapEntry}{ck:Nat}(h:W.heap[b]?=some (.map es ck)):(getObj b).run P W = .ok (.map es ck) W:=by simp [getObj,Sem.run,h]
theorem Zac {W:World}{b:Nat}{es:Array MapEntry}{ck:Nat}(o:Obj)(h:W.heap[b]?=some (.map es ck)):(setObj b o).run P W = .ok () { W with heap:=W.heap.setIfInBounds b o }:=by simp [setObj,Sem.run,h]
theorem Zin {L:Own}{h:PH}{W:World}(hg:Zp L h W){b:Nat}{cs:List Value}(hm:(⟨b,4294967295,cs,0⟩:Zo)∈L):∃es ck,W.heap[b]?=some (.map es ck)∧es.toList.map (fun x=>Value.tuple #[x.key,x.val])=cs:=(hg.own _ hm).map rfl
theorem Ybf {T kt et:TypeId}{k:IntKind}{z:Value}(hT:P.underlying T=some (.map kt et))(hk:P.underlying kt=some (.int k))(hz3:∀W,(zeroValue et:Sem Value).run P W = .ok z W)
  {L:Own} {h:PH} {K:Value→Prop} {b:Nat} {n:Int} {ok:Bool} (es:List (Int×Value)) (hm:(⟨b,4294967295,Ztm k es,0⟩:Zo)∈L)
  (hK:K (if ok then .tuple #[(Yfe es n).getD z,.bool (Yfe es n).isSome] else (Yfe es n).getD z)):Ysx P (Instr.lookup T (.map (some b)) (.int k n) ok) L h K:=by
 refine⟨_,fun W hg=>?_,hK⟩;obtain⟨ms,ck,h1,h2⟩:=Zin hg hm;have hf:=JW (P:=P) hk n ms.toList es h2 W;have hc:=Jn (P:=P) hk ms.isEmpty n W;have hz':=hz3 W;rw[← Zsj es n 0];simp only[Instr.lookup,Sem.run_bind,run_underlying hT,Result.andThen_ok,JY h1,hc,hf]
 cases hi:Ztj es n 0 with
 | none=>cases ok<;>simp [hz',hc,hf,hi]
 | some p=>cases ok<;>simp [hc,hf,hi]
theorem Zmg:∀ (es:List (Int×Value))(n:Int)(j:Nat)(p:Nat×Value),Ztj es n j=some p→∃i,p.1=j+i∧es[i]?=some (n,p.2)∧∀v,Yfn es n v=es.set i (n,v)
 | [],_,_,_,h=>by cases h
 | e::es,n,j,p,h=>by
  simp only[Ztj]at h;split at h
  ·rename_i c;injection h with h
   subst h;exact⟨0,rfl,by simp [c],fun v=>by simp [Yfn,c]⟩
  ·rename_i c;obtain⟨i,h1,h2,h3⟩:=Zmg es n (j+1) p h;exact⟨i+1,by omega,by simpa using h2,fun v=>by simp [Yfn,c,h3]⟩
theorem Zlj:∀ (es:List (Int×Value))(n:Int)(j:Nat),Ztj es n j=none→∀v,Yfn es n v=es++[(n,v)]
 | [],_,_,_,v=>rfl
 | e::es,n,j,h,v=>by
  simp only[Ztj]at h;split at h
  ·cases h
  ·rename_i c;simp [Yfn,c,Zlj es n (j+1) h v]
theorem Zho {L1 L2:Own}{h:PH}{W:World}{b:Nat}{cs cs':List Value}{es es':Array MapEntry}{ck ck':Nat}(hg:Zp (L1++⟨b,4294967295,cs,0⟩::L2) h W)(h1:W.heap[b]?=some (.map es ck))(h2:es'.toList.map (fun x=>Value.tuple #[x.key,x.val])=cs') :
  Step (L1++⟨b,4294967295,cs,0⟩::L2) W (L1++⟨b,4294967295,cs',0⟩::L2) h { W with heap:=W.heap.setIfInBounds b (.map es' ck') }:=by
 have hb:b<W.heap.size:=by
  rcases Nat.lt_or_ge b W.heap.size with h3|h3
  ·exact h3
  ·rw[Array.getElem?_eq_none h3]at h1;cases h1
 have hnc:h b=noC:=hg.apart ⟨b,4294967295,cs,0⟩ (by simp);have hnd:=hg.nodup;simp only[List.map_append,List.map_cons]at hnd;have hnd2:=List.nodup_append.1 hnd;have hnd3:=List.nodup_cons.1 hnd2.2.1;have hne:∀e∈L1++L2,e.b≠b:=fun e he hbe=>by
  rcases List.mem_append.1 he with he|he
  ·exact hnd2.2.2 e.b (List.mem_map_of_mem he) b (by simp) hbe
  ·exact hnd3.1 (by rw[← hbe];exact List.mem_map_of_mem he)
 have oth:∀x,x≠b→(W.heap.setIfInBounds b (.map es' ck'))[x]?=W.heap[x]?:=fun x hx=>Array.getElem?_setIfInBounds_ne (Ne.symm hx);have hin:∀x:Zo,x∈L1++L2→x∈L1++(⟨b,4294967295,cs,0⟩:Zo)::L2:=fun x hx=>by
  rcases List.mem_append.1 hx with hx|hx
  ·exact List.mem_append.2 (Or.inl hx)
  ·exact List.mem_append.2 (Or.inr (List.mem_cons_of_mem _ hx))
 have hcase:∀x:Zo,x∈L1++(⟨b,4294967295,cs',0⟩:Zo)::L2→x=⟨b,4294967295,cs',0⟩∨x∈L1++L2:=fun x hx=>by
  rcases List.mem_append.1 hx with hx|hx
  ·exact Or.inr (List.mem_append.2 (Or.inl hx))
  ·rcases List.mem_cons.1 hx with hx|hx
   ·exact Or.inl hx
   ·exact Or.inr (List.mem_append.2 (Or.inr hx))
 refine⟨⟨fun b' o v hv=>?_,fun e he=>?_,?_,fun e he=>?_⟩,⟨rfl,rfl,rfl,by simp,fun k hk hM=>?_⟩,fun e he=>?_⟩
 ·have hbb:b'≠b:=fun e=>by rw[e,hnc]at hv;cases hv
  have:=hg.sub b' o v hv;simp only[World.cell?]at this ⊢;rw[oth b' hbb];exact this
 ·rcases hcase e he with rfl|he
  ·refine .mkMap rfl ⟨es',ck',?_,h2⟩;simp [hb]
  ·show BlkIs e (W.heap.setIfInBounds b (.map es' ck'))[e.b]?;rw[oth _ (hne e he)];exact hg.own e (hin e he)
 ·simp only[List.map_append,List.map_cons];exact hnd
 ·rcases hcase e he with rfl|he
  ·exact hnc
  ·exact hg.apart e (hin e he)
 ·exact oth k fun e=>hM (by rw[e];simp)
 ·refine Or.inl ?_;rcases hcase e he with rfl|he
  ·simp
  ·exact List.mem_map_of_mem (hin e he)
theorem Yap {T kt et:TypeId}{k:IntKind}(hT:P.underlying T=some (.map kt et))(hk:P.underlying kt=some (.int k)){h:PH}{K:Own→PH→Prop}{b:Nat}{n:Int}{v:Value}(L1 L2:Own)(es:List (Int×Value))
  (hK:K (L1++⟨b,4294967295,Ztm k (Yfn es n v),0⟩::L2) h):xDo P (Instr.mapUpdate T (.map (some b)) (.int k n) v) (L1++⟨b,4294967295,Ztm k es,0⟩::L2) h K:=by
 intro W hg;obtain⟨ms,ck,h1,h2⟩:=Zin hg (b:=b) (cs:=Ztm k es) (by simp);have hf:=JW (P:=P) hk n ms.toList es h2 W;have hc:=Jn (P:=P) hk false n W
 have hstart:(Instr.mapUpdate T (.map (some b)) (.int k n) v).run P W=((match Ztj es n 0 with
   | some (i,_)=>do
    let key ← Instr.keyThatStays (((ms[i]?).map (·.key)).getD (.int k n)) (.int k n)
    setObj b (.map (ms.modify i fun e=>{ e with key,val:=v }) ck)
   | none=>setObj b (.map (ms.push { key := .int k n,val:=v,born:=ck }) (ck+1))):Sem Unit).run P W:=by
  simp only[Instr.mapUpdate,Sem.run_bind,run_underlying hT,Result.andThen_ok,JY h1,hc,hf]
  rfl
 cases hi:Ztj es n 0 with
 | none =>
  rw[hi]at hstart;refine⟨_,h,_,hstart.trans (Zac _ h1),hK,Zho hg h1 ?_⟩;rw[Zlj es n 0 hi v];simp [Ztm,h2]
 | some p =>
  obtain⟨i,v0⟩:=p;rw[hi]at hstart;obtain⟨i',e1,e2,e3⟩:=Zmg es n 0 (i,v0) hi;simp only[Nat.zero_add]at e1 e2;subst e1;have hm:ms.toList[i]?.map (fun x=>Value.tuple #[x.key,x.val])=some (.tuple #[.int k n,v0]):=by
   rw[← List.getElem?_map,h2,Ztm,List.getElem?_map,e2];rfl
  obtain⟨x,hx,hxe⟩:=Option.map_eq_some_iff.1 hm;have hkey:x.key = .int k n:=by
   injection hxe with hxe
   have:=congrArg (fun a:Array Value=>a[0]?) hxe
   simpa using this
  have hx':ms[i]?=some x:=by simpa using hx
  have hst:(Instr.keyThatStays (((ms[i]?).map (·.key)).getD (.int k n)) (.int k n)).run P W = .ok (.int k n) W:=by
   rw[hx'];simp [Instr.keyThatStays,hkey,Instr.sameBits]
  refine⟨_,h,_,hstart.trans ?_,hK,Zho (es':=ms.modify i fun e=>{ e with key := .int k n,val:=v }) (ck':=ck) hg h1 ?_⟩
  ·simp only[Sem.run_bind,hst,Result.andThen_ok];exact Zac _ h1
  ·rw[e3 v];apply List.ext_getElem?;intro j;rw[List.getElem?_map];simp only[Ztm,List.map_set,List.getElem?_set];have hj:(ms.toList[j]?).map (fun x=>Value.tuple #[x.key,x.val])=(es.map fun e=>Value.tuple #[.int k e.1,e.2])[j]?:=by
    rw[← List.getElem?_map,h2];rfl
   by_cases c:i=j
   ·subst c;have hlt:i<es.length:=(List.getElem?_eq_some_iff.1 e2).1;simp [Array.getElem?_modify,hx',hlt]
   ·simp only[Array.getElem?_toList,Array.getElem?_modify,c,if_false]at hj ⊢;exact hj
theorem GC {L:Own}{h:PH}{a:Option Addr}{i:Nat}:∀(n j:Nat) (cs:List Value) (K:List Value→Prop),cs.length=n→(∀m,m<n→Yo h a (i+(j+m))=cs[m]?)→Zbk L h (J4 a i) j n K=K cs
 | 0,j,cs,K,hl,_=>by
  have:cs=[]:=List.eq_nil_of_length_eq_zero hl;subst this
  rfl
 | n+1,j,[],K,hl,_=>by simp at hl
 | n+1,j,c::cs,K,hl,hc=>by
  have h0:=hc 0 (by omega);simp only[Nat.add_zero,List.getElem?_cons_zero]at h0;rw[Zph,UM h0]
  rw[GC n (j+1) cs (fun vs=>K (c::vs)) (by simpa using hl) fun m hm=>by
   have:=hc (m+1) (by omega);rw[show i+(j+1+m)=i+(j+(m+1)) by omega,this]
   simp]
def kV (ks:List IntKind)(n:List Int):Value := .agg (List.zipWith Value.int ks n).toArray
def Zwe (ks:List IntKind)(es:List (List Int×Value)):List Value:=es.map fun e=>Value.tuple #[kV ks e.1,e.2]
def Zsg:List (List Int×Value)→List Int→Option Value
 | [],_=>none
 | e::es,n=>if n=e.1 then some e.2 else Zsg es n
def Yaq:List (List Int×Value)→List Int→Nat→Option (Nat×Value)
 | [],_,_=>none
 | e::es,n,i=>if n=e.1 then some (i,e.2) else Yaq es n (i+1)
theorem Zhl:∀ (es:List (List Int×Value))(n:List Int)(i:Nat),(Yaq es n i).map Prod.snd=Zsg es n
 | [],_,_=>rfl
 | e::es,n,i=>by
  simp only[Yaq,Zsg];split
  ·rfl
  ·exact Zhl es n (i+1)
theorem JJ {α:Type}{W:World}{body:α→PUnit→Sem (ForInStep PUnit)}:∀(l:List α),(∀f∈l,∀u,(body f u).run P W = .ok (.yield ⟨⟩) W)→(forIn l PUnit.unit body).run P W = .ok ⟨⟩ W
 | [],_=>rfl
 | f::l,hl=>by
  rw[List.forIn_cons,Sem.run_bind,hl f (by simp) _];exact JJ l fun g hg=>hl g (by simp [hg])
theorem Ybb:∀ (fs:List Field)(i:Nat)(ks:List IntKind)(as:List Int)(xs:Array Value),okF P fs i ks=true→as.length=ks.length→(∀j:Nat,xs[i+j]?=(List.zipWith Value.int ks as)[j]?) →
  ∀ f ∈ fs, f.name ≠ "_" ∧ ∃ k a, P.underlying f.type = some (.int k) ∧ xs[f.offset]? = some (.int k a)
 | [],_,_,_,_,_,_,_,f,hf=>by cases hf
 | _::_,_,[],_,_,h,_,_,_,_=>by simp [okF]at h
 | _::_,_,_::_,[],_,_,ha,_,_,_=>by simp at ha
 | g::fs,i,k::ks,a::as,xs,h,ha,hx,f,hf=>by
  simp only[okF,Bool.and_eq_true,decide_eq_true_eq,beq_iff_eq]at h;obtain⟨⟨⟨h1,h2⟩,h3⟩,h4⟩:=h;rcases List.mem_cons.1 hf with rfl|hf
  ·refine⟨h1,?_⟩
   cases hu:P.underlying f.type with
   | none=>rw[hu]at h3;cases h3
   | some u =>
    rw[hu]at h3
    cases u<;>try (cases h3)
    rename_i k';have hk:k'=k:=by simpa using h3
    subst hk;have hx0:=hx 0;simp only[Nat.add_zero,List.zipWith_cons_cons,List.getElem?_cons_zero]at hx0;exact⟨k',a,rfl,by rw[h2];exact hx0⟩
  ·exact Ybb fs (i+1) ks as xs h4 (by simpa using ha) (fun j=>by have:=hx (j+1);rw[show i+1+j=i+(j+1) by omega];simpa using this) f hf
theorem UV {T:Nat}{ks:List IntKind}(ht:P.underlying T=some (.struct (P.fieldsOf T)))(hok:okF P (P.fieldsOf T).toList 0 ks=true)(as:List Int)(ha:as.length=ks.length)(em:Bool)(W:World) :
  (Instr.checkKey em 10000 T (kV ks as)).run P W = .ok () W:=by
 have hm:=Ybb (P:=P) (P.fieldsOf T).toList 0 ks as (List.zipWith Value.int ks as).toArray hok ha (fun j=>by simp);rw[show (10000:Nat)=9999+1 by rfl,Instr.checkKey,kV];simp only[Sem.run_bind,run_underlying ht,Result.andThen_ok,← Array.forIn_toList];rw[JJ]
 ·rfl
 ·intro f hf u;obtain⟨h1,k,a,h2,h3⟩:=hm f hf;have hag:(isAgg f.type).run P W = .ok false W:=JN h2 W;have px:(part f.type (List.zipWith Value.int ks as).toArray f.offset).run P W = .ok (.int k a) W:=by simp only[part,Sem.run_bind,hag,Result.andThen_ok];simp [h3]
  have hc:(Instr.checkKey em 9999 f.type (.int k a)).run P W = .ok () W:=by
   rw[show (9999:Nat)=9998+1 by rfl,Instr.checkKey];simp [run_underlying h2]
  simp only[ne_eq,h1,not_false_eq_true,if_true,Sem.run_bind,px,Result.andThen_ok,hc]
  rfl
structure Wjz (P:Program)(kt:TypeId)(ks:List IntKind):Prop where
 u:P.underlying kt=some (.struct (P.fieldsOf kt))
 s:P.stoodInHeld kt=false
 ok:okF P (P.fieldsOf kt).toList 0 ks=true
theorem Ji {kt:TypeId}{ks:List IntKind}(hk:Wjz P kt ks)(n:List Int)(hn:n.length=ks.length)(W:World):∀(l:List MapEntry) (es:List (List Int×Value)) (i:Nat),(∀e∈es,e.1.length=ks.length) →
  l.map (fun x=>Value.tuple #[x.key,x.val])=Zwe ks es→(Instr.findAsking kt (kV ks n) l i).run P W = .ok (Yaq es n i) W
 | [],[],i,_,_=>by simp [Instr.findAsking,Yaq]
 | [],_::_,i,_,h=>by simp [Zwe]at h
 | _::_,[],i,_,h=>by simp [Zwe]at h
 | x::l,e::es,i,hl,h=>by
  simp only[Zwe,List.map_cons,List.cons.injEq,Value.tuple.injEq]at h;obtain⟨h1,h2⟩:=h;have hkey:x.key=kV ks e.1:=by have:=congrArg (fun a:Array Value=>a[0]?) h1;simpa using this
  have hv:x.val=e.2:=by have:=congrArg (fun a:Array Value=>a[1]?) h1;simpa using this
  have he:(Op.equal kt (kV ks n) x.key).run P W = .ok (decide (n=e.1)) W:=by
   rw[hkey];exact Gw hk.u hk.s hk.ok n e.1 hn (hl e (by simp)) W
  have ih:=Ji hk n hn W l es (i+1) (fun y hy=>hl y (by simp [hy])) h2;by_cases c:n=e.1
  ·rw[decide_eq_true c]at he;simp only[Instr.findAsking,Sem.run_bind,he,Result.andThen_ok,if_true,Sem.run_pure,hv,Yaq,if_pos c]
  ·rw[decide_eq_false c]at he;simp only[Instr.findAsking,Sem.run_bind,he,Result.andThen_ok,Bool.false_eq_true,if_false,Yaq,if_neg c];exact ih
theorem GP {kt:TypeId}{ks:List IntKind}(hk:Wjz P kt ks)(n:List Int)(hn:n.length=ks.length)(l:List MapEntry)(es:List (List Int×Value))(he:∀e∈es,e.1.length=ks.length)(hl:l.map (fun x=>Value.tuple #[x.key,x.val])=Zwe ks es)(W:World) :
  (Instr.findKey kt (kV ks n) l).run P W = .ok (Yaq es n 0) W:=by
 have ha:=Ji hk n hn W l es 0 he hl
 cases l with
 | nil =>
  cases es with
  | nil=>simp [Instr.findKey,run_underlying hk.u,Instr.findNow,Yaq]
  | cons _ _=>simp [Zwe]at hl
 | cons x l=>simp only[Instr.findKey,Sem.run_bind,run_underlying hk.u,Result.andThen_ok,Instr.findNow,Instr.sameNow,kV]at ha ⊢;exact ha
theorem Zwm {T kt et:TypeId}{ks:List IntKind}{z:Value}(hT:P.underlying T=some (.map kt et))(hk:Wjz P kt ks)(hz3:∀W,(zeroValue et:Sem Value).run P W = .ok z W)
  {L:Own} {h:PH} {K:Value→Prop} {b:Nat} {n:List Int} (hn:n.length=ks.length) {ok:Bool} (es:List (List Int×Value)) (he:∀e∈es,e.1.length=ks.length) (hm:(⟨b,4294967295,Zwe ks es,0⟩:Zo)∈L)
  (hK:K (if ok then .tuple #[(Zsg es n).getD z,.bool (Zsg es n).isSome] else (Zsg es n).getD z)):Ysx P (Instr.lookup T (.map (some b)) (kV ks n) ok) L h K:=by
 refine⟨_,fun W hg=>?_,hK⟩;obtain⟨ms,ck,h1,h2⟩:=Zin hg hm;have hf:=GP (P:=P) hk n hn ms.toList es he h2 W;have hc:=UV (P:=P) hk.u hk.ok n hn ms.isEmpty W;have hz':=hz3 W;rw[← Zhl es n 0];simp only[Instr.lookup,Sem.run_bind,run_underlying hT,Result.andThen_ok,JY h1,hc,hf]
 cases hi:Yaq es n 0 with
 | none=>cases ok<;>simp [hz',hc,hf,hi]
 | some p=>cases ok<;>simp [hc,hf,hi]
theorem Zji {T kt et:TypeId}{ks:List IntKind}(hT:P.underlying T=some (.map kt et))(hk:Wjz P kt ks){h:PH}{K:Own→PH→Prop}{b:Nat}{n:List Int}(hn:n.length=ks.length){v:Value}(L1 L2:Own)(es:List (List Int×Value))(he:∀e∈es,e.1.length=ks.length)(hno:Zsg es n=none)
  (hK:K (L1++⟨b,4294967295,Zwe ks (es++[(n,v)]),0⟩::L2) h):xDo P (Instr.mapUpdate T (.map (some b)) (kV ks n) v) (L1++⟨b,4294967295,Zwe ks es,0⟩::L2) h K:=by
 intro W hg;obtain⟨ms,ck,h1,h2⟩:=Zin hg (b:=b) (cs:=Zwe ks es) (by simp);have hf:=GP (P:=P) hk n hn ms.toList es he h2 W;have hc:=UV (P:=P) hk.u hk.ok n hn false W;have hi:Yaq es n 0=none:=by
  have:=Zhl es n 0;rw[hno]at this
  simpa using this
 rw[hi]at hf;have hstart:(Instr.mapUpdate T (.map (some b)) (kV ks n) v).run P W=(setObj b (.map (ms.push { key:=kV ks n,val:=v,born:=ck }) (ck+1)):Sem Unit).run P W:=by
  simp only[Instr.mapUpdate,Sem.run_bind,run_underlying hT,Result.andThen_ok,JY h1,hc,hf]
 refine⟨_,h,_,hstart.trans (Zac _ h1),hK,Zho hg h1 ?_⟩;simp only[Array.toList_push,List.map_append,h2,Zwe]
 rfl
section
variable {P:Program}
def Yfj (P:Program)(t:TypeId)(xs:Array Value)(off:Nat):Option Value :=
 match P.underlying t,P.info? t with
 | some d,some i=>if Zgo d then some (.agg (xs.extract off (off+i.size))) else xs[off]?
 | _,_=>none
theorem Ydo {t:TypeId}{xs:Array Value}{off:Nat}{u:Value}(h:Yfj P t xs off=some u)(W:World):(part t xs off).run P W = .ok u W:=by
 unfold Yfj at h;split at h
 ·rename_i d i hd hi;have ha:=JN hd W;have hs:=Wj hi W;split at h
  ·rename_i hag;injection h with h
   subst h;simp [part,ha,hag,hs]
  ·rename_i hag;have hag':Zgo d=false:=by simpa using hag
   simp [part,ha,hag',h]
 ·cases h
def Yed (P:Program):Nat→TypeId→Value→Bool
 | 0,_,_=>false
 | d+1,t,v=>match P.underlying t,v with
  | some .bool,.bool _=>true
  | some (.int k),.int k' _=>k == k'
  | some (.struct fs), .agg xs => !P.stoodInHeld t && fs.toList.all fun f => f.name == "_" || (match Yfj P f.type xs f.offset with
   | some u=>Yed P d f.type u
   | none=>false)
  | _,_=>false
theorem Zla:∀ (d:Nat)(t:TypeId)(v:Value),Yed P d t v=true→∀(D:Nat)(W:World),(Op.equalIn (D+d) t v v).run P W = .ok true W
 | 0,_,_,h,_,_=>by cases h
 | d+1,t,v,h,D,W=>by
  unfold Yed at h;split at h
  ·rename_i hu;rw[← Nat.add_assoc,Op.equalIn];simp [underlying,hu]
  ·rename_i k k' n hu;have:k=k':=by simpa using h
   subst this;rw[← Nat.add_assoc];rw[run_equalIn_int W (D+d) t k k n n hu];simp
  ·rename_i fs xs hu;simp only[Bool.and_eq_true,Bool.not_eq_true']at h;have hf:P.fieldsOf t=fs:=by simp [Program.fieldsOf,hu]
   rw[← Nat.add_assoc,run_equalIn_struct W (D+d) t xs xs (by rw[hf];exact hu) h.1,hf]
   have key : ∀ l : List Field, (l.all fun f => f.name == "_" || (match Yfj P f.type xs f.offset with
     | some u=>Yed P d f.type u
     | none=>false))=true→(Op.eqFields (D+d) xs xs l).run P W = .ok true W:=by
    intro l
    induction l with
    | nil=>intro _;simp [Op.eqFields]
    | cons f l ih =>
     intro hl;rw[List.all_cons, Bool.and_eq_true]at hl;by_cases hn : f.name = "_"
     ·rw[Op.eqFields,if_neg (by simpa using hn)];exact ih hl.2
     ·have h1:=hl.1;have : (f.name == "_") = false := by simpa using hn
      rw[this,Bool.false_or]at h1;split at h1
      ·rename_i u hp;have hr:=Ydo hp W;have he:=Zla d f.type u h1 D W;rw[Op.eqFields,if_pos hn];simp [hr,he,ih hl.2]
      ·cases h1
   exact key _ h.2
  ·cases h
theorem Zpl {T:TypeId}(xs:Array Value)(hf:Yed P 8 T (.agg xs)=true)(hg:P.eqGuardType P.depth T=false)(x y:Operand)(K:Value→Prop)(t:Zq K):Uj P .neq T x y (.agg xs) (.agg xs) K t=K (.bool false) :=
 YI (fun W=>by
  simp only[Sem.run_bind,run_eqGuard_agg W .neq T x y _ _ hg,Result.andThen_ok,run_neq_struct,Zla 8 T (.agg xs) hf 9992 W,Bool.not_true]) K
end
abbrev VQ (p:Ze):Value := .agg #[.int .u64 p.inc,.int .u64 p.maxEff,.int .u64 p.floor,.int .u64 p.cap,.int .u64 p.up,.int .u64 p.down,.int .u64 p.bias,.int .u64 p.quot,.int .u64 p.biasEm,.int .u64 p.quotEm,.int .u64 p.recover,.int .u64 p.scoreCap,.int .u64 p.rate,.int .u64 p.bond,.int .i64 p.delay,.int .i64 p.streak,.int .i64 p.boost,.int .i64 p.absent,.int .i64 p.burn,.int .i64 p.churn,.int .i64 p.wait,.int .i64 p.poll,.int .i64 p.enact,.int .i64 p.quorum]
abbrev Jb (p:Ze):List Value:=[.int .u64 p.inc,.int .u64 p.maxEff,.int .u64 p.floor,.int .u64 p.cap,.int .u64 p.up,.int .u64 p.down,.int .u64 p.bias,.int .u64 p.quot,.int .u64 p.biasEm,.int .u64 p.quotEm,.int .u64 p.recover,.int .u64 p.scoreCap,.int .u64 p.rate,.int .u64 p.bond,.int .i64 p.delay,.int .i64 p.streak,.int .i64 p.boost,.int .i64 p.absent,.int .i64 p.burn,.int .i64 p.churn,.int .i64 p.wait,.int .i64 p.poll,.int .i64 p.enact,.int .i64 p.quorum]
theorem UW {α β:Type}{f:α→List β}{k:Nat}(hf:∀a,(f a).length=k):∀(l:List α) (i m:Nat),m<k→(l.flatMap f)[i*k+m]?=(l[i]?).bind fun a=>(f a)[m]?
 | [],i,m,_=>by simp
 | a::l,0,m,hm=>by
  rw[List.flatMap_cons,List.getElem?_append_left (by rw[hf];omega)];simp
 | a::l,i+1,m,hm=>by
  have e:(i+1)*k+m=k+(i*k+m):=by rw[Nat.add_mul];omega
  rw[List.flatMap_cons,List.getElem?_append_right (by rw[hf,e];omega),hf,e,Nat.add_sub_cancel_left,UW hf l i m hm];simp
theorem Z3 {α β:Type}{f:α→List β}{k:Nat}(hf:∀a,(f a).length=k):∀(l:List α),(l.flatMap f).length=l.length*k
 | []=>by simp
 | a::l=>by rw[List.flatMap_cons,List.length_append,hf,Z3 hf l,List.length_cons,Nat.add_mul];omega
def gr {α:Type}(z:α)(l:List α)(i:Nat):α:=l.getD i z
theorem Yl {α:Type}{z:α}{l:List α}{i:Nat}(hi:i<l.length):gr z l i=l[i]:=by simp [gr,List.getD,hi]
structure Zh {α:Type}(f:α→List Value)(w:Nat)(h:PH)(v:Value)(l:List α):Prop where
 len:∀a,(f a).length=w
 s:Sl h v l.length w (l.flatMap f)
section
variable {α:Type} {f:α→List Value} {w:Nat} {h:PH} {v:Value} {l:List α}
theorem Zh.up {h':PH}(le:PH.le h h')(hd:Zh f w h v l):Zh f w h' v l:=⟨hd.len,hd.s.up le⟩
theorem Zh.nil (hw:∀a,(f a).length=w)(h:PH):Zh f w h (.slice none 0 0) []:=⟨hw,⟨by simp,none,0,rfl,Nat.le_refl _,by decide,by simp,fun _=>rfl,fun j c hj=>by simp at hj⟩⟩
theorem Zh.open (hd:Zh f w h v l):∃a cap,v = .slice a l.length cap∧l.length≤cap∧l.length≤9223372036854775807∧(a=none→cap=0)∧Zh f w h (.slice a l.length cap) l:=by
 obtain⟨h1,a,cap,rfl,h3,h4,h4',h5,h6⟩:=hd.s;exact⟨a,cap,rfl,h3,h4',h5,hd⟩
theorem Zh.cell {a:Option Addr}{n c:Nat}{z:α}(hd:Zh f w h (.slice a n c) l){i m:Nat}(hi:i<l.length)(hm:m<w):Yo h a (i*w+m)=(f (gr z l i))[m]?:=by
 obtain⟨h1,a',cap,h2,h3,h4,h4',h5,h6⟩:=hd.s;injection h2 with e1 e2 e3
 subst e1;have hg:=UW hd.len l i m hm;rw[List.getElem?_eq_getElem hi,Option.bind_some,← Yl (z:=z) hi]at hg;obtain⟨u,hu⟩:∃u,(f (gr z l i))[m]?=some u:=⟨_,List.getElem?_eq_getElem (by rw[hd.len];exact hm)⟩
 rw[hu]at hg ⊢;exact h6 _ _ hg
theorem Zam {a:Option Addr}{n c0:Nat}(z:α)(hw0:0<w)(hd:Zh f w h (.slice a n c0) l) :
  (∀(m c e by':Nat) (k:IntKind) (j:Int) (K:Value→Prop) (t:Zq K),0≤j→j<(l.length:Int)→m=l.length→xIA (.sl e w by') (.slice a m c) (.int k j) K t=K (.pointer (J4 a (j.toNat*w)))) ∧
  (∀(j:Nat) (K:Option Addr→Prop) (t:Zq K),j<l.length→Zpp (.pointer (J4 a (j*w))) K t=K (J4 a (j*w))) ∧
  (∀(L:Own) (j:Nat) (zz:List Value) (by':Nat) (K:Value→Prop) (t:Zq K),j<l.length→xLd ⟨w,true,zz,by'⟩ L h (J4 a (j*w)) K t=K (.agg (f (gr z l j)).toArray)) ∧
  (∀(j o:Nat) (K:Value→Prop) (t:Zq K),j<l.length→Zlr (.pointer (J4 a (j*w))) o K t=K (.pointer (J4 a (j*w+o)))) ∧
  (∀(j o:Nat) (K:Option Addr→Prop) (t:Zq K),j<l.length→Zpp (.pointer (J4 a (j*w+o))) K t=K (J4 a (j*w+o))):=by
 have hne:∀j,j<l.length→a≠none:=fun j hj e=>by
  have:=hd.cell (z:=z) hj (m:=0) hw0;rw[e,List.getElem?_eq_getElem (by rw[hd.len];exact hw0)]at this;simp [Yo]at this
 refine⟨fun m c e by' k j K t h0 h1 hm=>?_,fun j K t hj=>JH (hne j hj) K,fun L j zz by' K t hj=>?_,fun j o K t hj=>Zfu (hne j hj) _ _ K,fun j o K t hj=>JH (hne j hj) K⟩
 ·subst hm;exact Zhu (hne j.toNat (by omega)) e w by' _ c k j h0 h1 K t
 ·rw[Zwy,GC w 0 (f (gr z l j)) _ (hd.len _) fun m hm=>by rw[Nat.zero_add];exact hd.cell hj hm]
theorem Zh.fld {a:Option Addr}{n c0:Nat}(z:α)(hd:Zh f w h (.slice a n c0) l){j o:Nat}(hj:j<l.length){u:Value}(ho:(f (gr z l j))[o]?=some u)(L:Own)(K:Value→Prop)(t:Zq K) :
  Zbb L h (J4 a (j*w+o)) 0 K t=K u:=by
 have hm:o<w:=by
  have:=(List.getElem?_eq_some_iff.1 ho).1
  rwa [hd.len]at this
 exact UM (by rw[Nat.add_zero,hd.cell (z:=z) hj hm,ho]) K
theorem Zh.pub {o:Option (Nat×Nat)}(hw:∀a,(f a).length=w)(sl:Sl h (ovs o l.length) l.length w (l.flatMap f)):Zh f w h (ovs o l.length) l:=⟨hw,sl⟩
end
end Go.X

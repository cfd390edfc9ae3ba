/- Lemmas and contracts. Conditions: as each says. -/
import Derived.Test.YtpdidilobgimcaaGreatQ08
set_option linter.unusedVariables false
set_option linter.unusedSimpArgs false
set_option maxHeartbeats 12800000
set_option maxRecDepth 20000
namespace Go.X
open Go.RowKit Go.Bl
variable {P:Program}
def Zpd (k:IntKind)(es:List (Int×Value)):List Value:=es.map fun e=>Value.tuple #[.int k e.1,e.2]
def Zxp:List (Int×Value)→Int→Option Value
 | [],_=>none
 | e::es,n=>if n=e.1 then some e.2 else Zxp es n
def Zxx:List (Int×Value)→Int→Value→List (Int×Value)
 | [],n,v=>[(n,v)]
 | e::es,n,v=>if n=e.1 then (e.1,v)::es else e::Zxx es n v
def Zpl:List (Int×Value)→Int→Nat→Option (Nat×Value)
 | [],_,_=>none
 | e::es,n,i=>if n=e.1 then some (i,e.2) else Zpl es n (i+1)
theorem Zle:∀ (es:List (Int×Value))(n:Int)(i:Nat),(Zpl es n i).map Prod.snd=Zxp es n
 | [],_,_=>rfl
 | e::es,n,i=>by
  simp only[Zpl,Zxp];split
  ·rfl
  ·exact Zle es n (i+1)
theorem Zae {k:IntKind}{T:TypeDesc}(hT:T = .int k)(n:Int):∀(l:List MapEntry) (es:List (Int×Value)) (i:Nat),l.map (fun x=>Value.tuple #[x.key,x.val])=Zpd k es→Instr.findNow T (.int k n) l i=some (Zpl es n i)
 | [],[],i,_=>rfl
 | [],_::_,i,h=>by simp [Zpd]at h
 | _::_,[],i,h=>by simp [Zpd]at h
 | x::l,e::es,i,h=>by
  simp only[Zpd,List.map_cons,List.cons.injEq,Value.tuple.injEq]at h;obtain⟨h1,h2⟩:=h;have hk:x.key = .int k e.1:=by have:=congrArg (fun a:Array Value=>a[0]?) h1;simpa using this
  have hv:x.val=e.2:=by have:=congrArg (fun a:Array Value=>a[1]?) h1;simpa using this
  subst hT;simp only[Instr.findNow,Instr.sameNow,hk,Zpl,hv,if_true];by_cases c:n=e.1
  ·simp [c]
  ·have:(n == e.1)=false:=by simpa using c
   rw[this,if_neg c];exact Zae rfl n l es (i+1) h2
theorem Uc {kt:TypeId}{k:IntKind}(hk:P.underlying kt=some (.int k))(em:Bool)(n:Int)(W:World):(Instr.checkKey em 10000 kt (.int k n)).run P W = .ok () W:=by
 rw[show (10000:Nat)=9999+1 by rfl,Instr.checkKey];simp [run_underlying hk]
theorem Un {kt:TypeId}{k:IntKind}(hk:P.underlying kt=some (.int k))(n:Int)(l:List MapEntry)(es:List (Int×Value))(hl:l.map (fun x=>Value.tuple #[x.key,x.val])=Zpd k es)(W:World) :
  (Instr.findKey kt (.int k n) l).run P W = .ok (Zpl es n 0) W:=by
 simp [Instr.findKey,run_underlying hk,Zae rfl n l es 0 hl]
theorem UY {W:World}{b:Nat}{es:Array MapEntry}{ck:Nat}(h:W.heap[b]?=some (.map es ck)):(getObj b).run P W = .ok (.map es ck) W:=by simp [getObj,Sem.run,h]
theorem JS {W:World}{b:Nat}{es:Array MapEntry}{ck:Nat}(o:Obj)(h:W.heap[b]?=some (.map es ck)):(setObj b o).run P W = .ok () { W with heap:=W.heap.setIfInBounds b o }:=by simp [setObj,Sem.run,h]
theorem Zcx {L:Own}{h:PH}{W:World}(hg:Zk L h W){b:Nat}{cs:List Value}(hm:(⟨b,4294967295,cs,0⟩:Zl)∈L):∃es ck,W.heap[b]?=some (.map es ck)∧es.toList.map (fun x=>Value.tuple #[x.key,x.val])=cs:=(hg.own _ hm).map rfl
theorem Zug {T kt et:TypeId}{k:IntKind}{z:Value}(hT:P.underlying T=some (.map kt et))(hk:P.underlying kt=some (.int k))(hz3:∀W,(zeroValue et:Sem Value).run P W = .ok z W)
  {L:Own} {h:PH} {K:Value→Prop} {b:Nat} {n:Int} {ok:Bool} (es:List (Int×Value)) (hm:(⟨b,4294967295,Zpd k es,0⟩:Zl)∈L)
  (hK:K (if ok then .tuple #[(Zxp es n).getD z,.bool (Zxp es n).isSome] else (Zxp es n).getD z)):Yjc P (Instr.lookup T (.map (some b)) (.int k n) ok) L h K:=by
 refine⟨_,fun W hg=>?_,hK⟩;obtain⟨ms,ck,h1,h2⟩:=Zcx hg hm;have hf:=Un (P:=P) hk n ms.toList es h2 W;have hc:=Uc (P:=P) hk ms.isEmpty n W;have hz':=hz3 W;rw[← Zle es n 0];simp only[Instr.lookup,Sem.run_bind,run_underlying hT,Result.andThen_ok,UY h1,hc,hf]
 cases hi:Zpl es n 0 with
 | none=>cases ok<;>simp [hz',hc,hf,hi]
 | some p=>cases ok<;>simp [hc,hf,hi]
theorem Zhp:∀ (es:List (Int×Value))(n:Int)(j:Nat)(p:Nat×Value),Zpl es n j=some p→∃i,p.1=j+i∧es[i]?=some (n,p.2)∧∀v,Zxx es n v=es.set i (n,v)
 | [],_,_,_,h=>by cases h
 | e::es,n,j,p,h=>by
  simp only[Zpl]at h;split at h
  ·rename_i c;injection h with h
   subst h;exact⟨0,rfl,by simp [c],fun v=>by simp [Zxx,c]⟩
  ·rename_i c;obtain⟨i,h1,h2,h3⟩:=Zhp es n (j+1) p h;exact⟨i+1,by omega,by simpa using h2,fun v=>by simp [Zxx,c,h3]⟩
theorem Zgs:∀ (es:List (Int×Value))(n:Int)(j:Nat),Zpl es n j=none→∀v,Zxx es n v=es++[(n,v)]
 | [],_,_,_,v=>rfl
 | e::es,n,j,h,v=>by
  simp only[Zpl]at h;split at h
  ·cases h
  ·rename_i c;simp [Zxx,c,Zgs es n (j+1) h v]
theorem Zdo {L1 L2:Own}{h:PH}{W:World}{b:Nat}{cs cs':List Value}{es es':Array MapEntry}{ck ck':Nat}(hg:Zk (L1++⟨b,4294967295,cs,0⟩::L2) h W)(h1:W.heap[b]?=some (.map es ck))(h2:es'.toList.map (fun x=>Value.tuple #[x.key,x.val])=cs') :
  Step (L1++⟨b,4294967295,cs,0⟩::L2) W (L1++⟨b,4294967295,cs',0⟩::L2) h { W with heap:=W.heap.setIfInBounds b (.map es' ck') }:=by
 have hb:b<W.heap.size:=by
  rcases Nat.lt_or_ge b W.heap.size with h3|h3
  ·exact h3
  ·rw[Array.getElem?_eq_none h3]at h1;cases h1
 have hnc:h b=noC:=hg.apart ⟨b,4294967295,cs,0⟩ (by simp);have hnd:=hg.nodup;simp only[List.map_append,List.map_cons]at hnd;have hnd2:=List.nodup_append.1 hnd;have hnd3:=List.nodup_cons.1 hnd2.2.1;have hne:∀e∈L1++L2,e.b≠b:=fun e he hbe=>by
  rcases List.mem_append.1 he with he|he
  ·exact hnd2.2.2 e.b (List.mem_map_of_mem he) b (by simp) hbe
  ·exact hnd3.1 (by rw[← hbe];exact List.mem_map_of_mem he)
 have oth:∀x,x≠b→(W.heap.setIfInBounds b (.map es' ck'))[x]?=W.heap[x]?:=fun x hx=>Array.getElem?_setIfInBounds_ne (Ne.symm hx);have hin:∀x:Zl,x∈L1++L2→x∈L1++(⟨b,4294967295,cs,0⟩:Zl)::L2:=fun x hx=>by
  rcases List.mem_append.1 hx with hx|hx
  ·exact List.mem_append.2 (Or.inl hx)
  ·exact List.mem_append.2 (Or.inr (List.mem_cons_of_mem _ hx))
 have hcase:∀x:Zl,x∈L1++(⟨b,4294967295,cs',0⟩:Zl)::L2→x=⟨b,4294967295,cs',0⟩∨x∈L1++L2:=fun x hx=>by
  rcases List.mem_append.1 hx with hx|hx
  ·exact Or.inr (List.mem_append.2 (Or.inl hx))
  ·rcases List.mem_cons.1 hx with hx|hx
   ·exact Or.inl hx
   ·exact Or.inr (List.mem_append.2 (Or.inr hx))
 refine⟨⟨fun b' o v hv=>?_,fun e he=>?_,?_,fun e he=>?_⟩,⟨rfl,rfl,rfl,by simp,fun k hk hM=>?_⟩,fun e he=>?_⟩
 ·have hbb:b'≠b:=fun e=>by rw[e,hnc]at hv;cases hv
  have:=hg.sub b' o v hv;simp only[World.cell?]at this ⊢;rw[oth b' hbb];exact this
 ·rcases hcase e he with rfl|he
  ·refine .mkMap rfl ⟨es',ck',?_,h2⟩;simp [hb]
  ·show BlkIs e (W.heap.setIfInBounds b (.map es' ck'))[e.b]?;rw[oth _ (hne e he)];exact hg.own e (hin e he)
 ·simp only[List.map_append,List.map_cons];exact hnd
 ·rcases hcase e he with rfl|he
  ·exact hnc
  ·exact hg.apart e (hin e he)
 ·exact oth k fun e=>hM (by rw[e];simp)
 ·refine Or.inl ?_;rcases hcase e he with rfl|he
  ·simp
  ·exact List.mem_map_of_mem (hin e he)
theorem Zth {T kt et:TypeId}{k:IntKind}(hT:P.underlying T=some (.map kt et))(hk:P.underlying kt=some (.int k)){h:PH}{K:Own→PH→Prop}{b:Nat}{n:Int}{v:Value}(L1 L2:Own)(es:List (Int×Value))
  (hK:K (L1++⟨b,4294967295,Zpd k (Zxx es n v),0⟩::L2) h):xDo P (Instr.mapUpdate T (.map (some b)) (.int k n) v) (L1++⟨b,4294967295,Zpd k es,0⟩::L2) h K:=by
 intro W hg;obtain⟨ms,ck,h1,h2⟩:=Zcx hg (b:=b) (cs:=Zpd k es) (by simp);have hf:=Un (P:=P) hk n ms.toList es h2 W;have hc:=Uc (P:=P) hk false n W
 have hstart:(Instr.mapUpdate T (.map (some b)) (.int k n) v).run P W=((match Zpl es n 0 with
   | some (i,_)=>do
    let key ← Instr.keyThatStays (((ms[i]?).map (·.key)).getD (.int k n)) (.int k n)
    setObj b (.map (ms.modify i fun e=>{ e with key,val:=v }) ck)
   | none=>setObj b (.map (ms.push { key := .int k n,val:=v,born:=ck }) (ck+1))):Sem Unit).run P W:=by
  simp only[Instr.mapUpdate,Sem.run_bind,run_underlying hT,Result.andThen_ok,UY h1,hc,hf]
  rfl
 cases hi:Zpl es n 0 with
 | none =>
  rw[hi]at hstart;refine⟨_,h,_,hstart.trans (JS _ h1),hK,Zdo hg h1 ?_⟩;rw[Zgs es n 0 hi v];simp [Zpd,h2]
 | some p =>
  obtain⟨i,v0⟩:=p;rw[hi]at hstart;obtain⟨i',e1,e2,e3⟩:=Zhp es n 0 (i,v0) hi;simp only[Nat.zero_add]at e1 e2;subst e1;have hm:ms.toList[i]?.map (fun x=>Value.tuple #[x.key,x.val])=some (.tuple #[.int k n,v0]):=by
   rw[← List.getElem?_map,h2,Zpd,List.getElem?_map,e2];rfl
  obtain⟨x,hx,hxe⟩:=Option.map_eq_some_iff.1 hm;have hkey:x.key = .int k n:=by
   injection hxe with hxe
   have:=congrArg (fun a:Array Value=>a[0]?) hxe
   simpa using this
  have hx':ms[i]?=some x:=by simpa using hx
  have hst:(Instr.keyThatStays (((ms[i]?).map (·.key)).getD (.int k n)) (.int k n)).run P W = .ok (.int k n) W:=by
   rw[hx'];simp [Instr.keyThatStays,hkey,Instr.sameBits]
  refine⟨_,h,_,hstart.trans ?_,hK,Zdo (es':=ms.modify i fun e=>{ e with key := .int k n,val:=v }) (ck':=ck) hg h1 ?_⟩
  ·simp only[Sem.run_bind,hst,Result.andThen_ok];exact JS _ h1
  ·rw[e3 v];apply List.ext_getElem?;intro j;rw[List.getElem?_map];simp only[Zpd,List.map_set,List.getElem?_set];have hj:(ms.toList[j]?).map (fun x=>Value.tuple #[x.key,x.val])=(es.map fun e=>Value.tuple #[.int k e.1,e.2])[j]?:=by
    rw[← List.getElem?_map,h2];rfl
   by_cases c:i=j
   ·subst c;have hlt:i<es.length:=(List.getElem?_eq_some_iff.1 e2).1;simp [Array.getElem?_modify,hx',hlt]
   ·simp only[Array.getElem?_toList,Array.getElem?_modify,c,if_false]at hj ⊢;exact hj
theorem Zao {L:Own}{h:PH}{a:Option Addr}{i:Nat}:∀(n j:Nat) (cs:List Value) (K:List Value→Prop),cs.length=n→(∀m,m<n→Yd h a (i+(j+m))=cs[m]?)→Gc L h (GS a i) j n K=K cs
 | 0,j,cs,K,hl,_=>by
  have:cs=[]:=List.eq_nil_of_length_eq_zero hl;subst this
  rfl
 | n+1,j,[],K,hl,_=>by simp at hl
 | n+1,j,c::cs,K,hl,hc=>by
  have h0:=hc 0 (by omega);simp only[Nat.add_zero,List.getElem?_cons_zero]at h0;rw[Ziq,J4 h0]
  rw[Zao n (j+1) cs (fun vs=>K (c::vs)) (by simpa using hl) fun m hm=>by
   have:=hc (m+1) (by omega);rw[show i+(j+1+m)=i+(j+(m+1)) by omega,this]
   simp]
def kV (ks:List IntKind)(n:List Int):Value := .agg (List.zipWith Value.int ks n).toArray
def Zqm (ks:List IntKind)(es:List (List Int×Value)):List Value:=es.map fun e=>Value.tuple #[kV ks e.1,e.2]
def Zlm:List (List Int×Value)→List Int→Option Value
 | [],_=>none
 | e::es,n=>if n=e.1 then some e.2 else Zlm es n
def Zwc:List (List Int×Value)→List Int→Nat→Option (Nat×Value)
 | [],_,_=>none
 | e::es,n,i=>if n=e.1 then some (i,e.2) else Zwc es n (i+1)
theorem Zdr:∀ (es:List (List Int×Value))(n:List Int)(i:Nat),(Zwc es n i).map Prod.snd=Zlm es n
 | [],_,_=>rfl
 | e::es,n,i=>by
  simp only[Zwc,Zlm];split
  ·rfl
  ·exact Zdr es n (i+1)
theorem Uv {α:Type}{W:World}{body:α→PUnit→Sem (ForInStep PUnit)}:∀(l:List α),(∀f∈l,∀u,(body f u).run P W = .ok (.yield ⟨⟩) W)→(forIn l PUnit.unit body).run P W = .ok ⟨⟩ W
 | [],_=>rfl
 | f::l,hl=>by
  rw[List.forIn_cons,Sem.run_bind,hl f (by simp) _];exact Uv l fun g hg=>hl g (by simp [hg])
theorem Zvh:∀ (fs:List Field)(i:Nat)(ks:List IntKind)(az:List Int)(xs:Array Value),okF P fs i ks=true→az.length=ks.length→(∀j:Nat,xs[i+j]?=(List.zipWith Value.int ks az)[j]?) →
  ∀ f ∈ fs, f.name ≠ "_" ∧ ∃ k a, P.underlying f.type = some (.int k) ∧ xs[f.offset]? = some (.int k a)
 | [],_,_,_,_,_,_,_,f,hf=>by cases hf
 | _::_,_,[],_,_,h,_,_,_,_=>by simp [okF]at h
 | _::_,_,_::_,[],_,_,ha,_,_,_=>by simp at ha
 | g::fs,i,k::ks,a::az,xs,h,ha,hx,f,hf=>by
  simp only[okF,Bool.and_eq_true,decide_eq_true_eq,beq_iff_eq]at h;obtain⟨⟨⟨h1,h2⟩,h3⟩,h4⟩:=h;rcases List.mem_cons.1 hf with rfl|hf
  ·refine⟨h1,?_⟩
   cases hu:P.underlying f.type with
   | none=>rw[hu]at h3;cases h3
   | some u =>
    rw[hu]at h3
    cases u<;>try (cases h3)
    rename_i k';have hk:k'=k:=by simpa using h3
    subst hk;have hx0:=hx 0;simp only[Nat.add_zero,List.zipWith_cons_cons,List.getElem?_cons_zero]at hx0;exact⟨k',a,rfl,by rw[h2];exact hx0⟩
  ·exact Zvh fs (i+1) ks az xs h4 (by simpa using ha) (fun j=>by have:=hx (j+1);rw[show i+1+j=i+(j+1) by omega];simpa using this) f hf
theorem VG {T:Nat}{ks:List IntKind}(ht:P.underlying T=some (.struct (P.fieldsOf T)))(hok:okF P (P.fieldsOf T).toList 0 ks=true)(az:List Int)(ha:az.length=ks.length)(em:Bool)(W:World) :
  (Instr.checkKey em 10000 T (kV ks az)).run P W = .ok () W:=by
 have hm:=Zvh (P:=P) (P.fieldsOf T).toList 0 ks az (List.zipWith Value.int ks az).toArray hok ha (fun j=>by simp);rw[show (10000:Nat)=9999+1 by rfl,Instr.checkKey,kV];simp only[Sem.run_bind,run_underlying ht,Result.andThen_ok,← Array.forIn_toList];rw[Uv]
 ·rfl
 ·intro f hf u;obtain⟨h1,k,a,h2,h3⟩:=hm f hf;have hag:(isAgg f.type).run P W = .ok false W:=JF h2 W;have px:(part f.type (List.zipWith Value.int ks az).toArray f.offset).run P W = .ok (.int k a) W:=by simp only[part,Sem.run_bind,hag,Result.andThen_ok];simp [h3]
  have hc:(Instr.checkKey em 9999 f.type (.int k a)).run P W = .ok () W:=by
   rw[show (9999:Nat)=9998+1 by rfl,Instr.checkKey];simp [run_underlying h2]
  simp only[ne_eq,h1,not_false_eq_true,if_true,Sem.run_bind,px,Result.andThen_ok,hc]
  rfl
structure Yyl (P:Program)(kt:TypeId)(ks:List IntKind):Prop where
 u:P.underlying kt=some (.struct (P.fieldsOf kt))
 s:P.stoodInHeld kt=false
 ok:okF P (P.fieldsOf kt).toList 0 ks=true
theorem Ub {kt:TypeId}{ks:List IntKind}(hk:Yyl P kt ks)(n:List Int)(hn:n.length=ks.length)(W:World):∀(l:List MapEntry) (es:List (List Int×Value)) (i:Nat),(∀e∈es,e.1.length=ks.length) →
  l.map (fun x=>Value.tuple #[x.key,x.val])=Zqm ks es→(Instr.findAsking kt (kV ks n) l i).run P W = .ok (Zwc es n i) W
 | [],[],i,_,_=>by simp [Instr.findAsking,Zwc]
 | [],_::_,i,_,h=>by simp [Zqm]at h
 | _::_,[],i,_,h=>by simp [Zqm]at h
 | x::l,e::es,i,hl,h=>by
  simp only[Zqm,List.map_cons,List.cons.injEq,Value.tuple.injEq]at h;obtain⟨h1,h2⟩:=h;have hkey:x.key=kV ks e.1:=by have:=congrArg (fun a:Array Value=>a[0]?) h1;simpa using this
  have hv:x.val=e.2:=by have:=congrArg (fun a:Array Value=>a[1]?) h1;simpa using this
  have he:(Op.equal kt (kV ks n) x.key).run P W = .ok (decide (n=e.1)) W:=by
   rw[hkey];exact Jc hk.u hk.s hk.ok n e.1 hn (hl e (by simp)) W
  have ih:=Ub hk n hn W l es (i+1) (fun y hy=>hl y (by simp [hy])) h2;by_cases c:n=e.1
  ·rw[decide_eq_true c]at he;simp only[Instr.findAsking,Sem.run_bind,he,Result.andThen_ok,if_true,Sem.run_pure,hv,Zwc,if_pos c]
  ·rw[decide_eq_false c]at he;simp only[Instr.findAsking,Sem.run_bind,he,Result.andThen_ok,Bool.false_eq_true,if_false,Zwc,if_neg c];exact ih
theorem JH {kt:TypeId}{ks:List IntKind}(hk:Yyl P kt ks)(n:List Int)(hn:n.length=ks.length)(l:List MapEntry)(es:List (List Int×Value))(he:∀e∈es,e.1.length=ks.length)(hl:l.map (fun x=>Value.tuple #[x.key,x.val])=Zqm ks es)(W:World) :
  (Instr.findKey kt (kV ks n) l).run P W = .ok (Zwc es n 0) W:=by
 have ha:=Ub hk n hn W l es 0 he hl
 cases l with
 | nil =>
  cases es with
  | nil=>simp [Instr.findKey,run_underlying hk.u,Instr.findNow,Zwc]
  | cons _ _=>simp [Zqm]at hl
 | cons x l=>simp only[Instr.findKey,Sem.run_bind,run_underlying hk.u,Result.andThen_ok,Instr.findNow,Instr.sameNow,kV]at ha ⊢;exact ha
theorem Zru {T kt et:TypeId}{ks:List IntKind}{z:Value}(hT:P.underlying T=some (.map kt et))(hk:Yyl P kt ks)(hz3:∀W,(zeroValue et:Sem Value).run P W = .ok z W)
  {L:Own} {h:PH} {K:Value→Prop} {b:Nat} {n:List Int} (hn:n.length=ks.length) {ok:Bool} (es:List (List Int×Value)) (he:∀e∈es,e.1.length=ks.length) (hm:(⟨b,4294967295,Zqm ks es,0⟩:Zl)∈L)
  (hK:K (if ok then .tuple #[(Zlm es n).getD z,.bool (Zlm es n).isSome] else (Zlm es n).getD z)):Yjc P (Instr.lookup T (.map (some b)) (kV ks n) ok) L h K:=by
 refine⟨_,fun W hg=>?_,hK⟩;obtain⟨ms,ck,h1,h2⟩:=Zcx hg hm;have hf:=JH (P:=P) hk n hn ms.toList es he h2 W;have hc:=VG (P:=P) hk.u hk.ok n hn ms.isEmpty W;have hz':=hz3 W;rw[← Zdr es n 0];simp only[Instr.lookup,Sem.run_bind,run_underlying hT,Result.andThen_ok,UY h1,hc,hf]
 cases hi:Zwc es n 0 with
 | none=>cases ok<;>simp [hz',hc,hf,hi]
 | some p=>cases ok<;>simp [hc,hf,hi]
theorem Zet {T kt et:TypeId}{ks:List IntKind}(hT:P.underlying T=some (.map kt et))(hk:Yyl P kt ks){h:PH}{K:Own→PH→Prop}{b:Nat}{n:List Int}(hn:n.length=ks.length){v:Value}(L1 L2:Own)(es:List (List Int×Value))(he:∀e∈es,e.1.length=ks.length)(hno:Zlm es n=none)
  (hK:K (L1++⟨b,4294967295,Zqm ks (es++[(n,v)]),0⟩::L2) h):xDo P (Instr.mapUpdate T (.map (some b)) (kV ks n) v) (L1++⟨b,4294967295,Zqm ks es,0⟩::L2) h K:=by
 intro W hg;obtain⟨ms,ck,h1,h2⟩:=Zcx hg (b:=b) (cs:=Zqm ks es) (by simp);have hf:=JH (P:=P) hk n hn ms.toList es he h2 W;have hc:=VG (P:=P) hk.u hk.ok n hn false W;have hi:Zwc es n 0=none:=by
  have:=Zdr es n 0;rw[hno]at this
  simpa using this
 rw[hi]at hf;have hstart:(Instr.mapUpdate T (.map (some b)) (kV ks n) v).run P W=(setObj b (.map (ms.push { key:=kV ks n,val:=v,born:=ck }) (ck+1)):Sem Unit).run P W:=by
  simp only[Instr.mapUpdate,Sem.run_bind,run_underlying hT,Result.andThen_ok,UY h1,hc,hf]
 refine⟨_,h,_,hstart.trans (JS _ h1),hK,Zdo hg h1 ?_⟩;simp only[Array.toList_push,List.map_append,h2,Zqm]
 rfl
section
variable {P:Program}
end
abbrev W5 (p:Zd):Value := .agg #[.int .u64 p.inc,.int .u64 p.maxEff,.int .u64 p.floor,.int .u64 p.cap,.int .u64 p.up,.int .u64 p.down,.int .u64 p.bias,.int .u64 p.quot,.int .u64 p.biasEm,.int .u64 p.quotEm,.int .u64 p.recover,.int .u64 p.scoreCap,.int .u64 p.rate,.int .u64 p.bond,.int .i64 p.delay,.int .i64 p.streak,.int .i64 p.boost,.int .i64 p.absent,.int .i64 p.burn,.int .i64 p.churn,.int .i64 p.wait,.int .i64 p.poll,.int .i64 p.enact,.int .i64 p.quorum]
abbrev Jm (p:Zd):List Value:=[.int .u64 p.inc,.int .u64 p.maxEff,.int .u64 p.floor,.int .u64 p.cap,.int .u64 p.up,.int .u64 p.down,.int .u64 p.bias,.int .u64 p.quot,.int .u64 p.biasEm,.int .u64 p.quotEm,.int .u64 p.recover,.int .u64 p.scoreCap,.int .u64 p.rate,.int .u64 p.bond,.int .i64 p.delay,.int .i64 p.streak,.int .i64 p.boost,.int .i64 p.absent,.int .i64 p.burn,.int .i64 p.churn,.int .i64 p.wait,.int .i64 p.poll,.int .i64 p.enact,.int .i64 p.quorum]
theorem UB {α β:Type}{f:α→List β}{k:Nat}(hf:∀a,(f a).length=k):∀(l:List α) (i m:Nat),m<k→(l.flatMap f)[i*k+m]?=(l[i]?).bind fun a=>(f a)[m]?
 | [],i,m,_=>by simp
 | a::l,0,m,hm=>by
  rw[List.flatMap_cons,List.getElem?_append_left (by rw[hf];omega)];simp
 | a::l,i+1,m,hm=>by
  have e:(i+1)*k+m=k+(i*k+m):=by rw[Nat.add_mul];omega
  rw[List.flatMap_cons,List.getElem?_append_right (by rw[hf,e];omega),hf,e,Nat.add_sub_cancel_left,UB hf l i m hm];simp
theorem Z1 {α β:Type}{f:α→List β}{k:Nat}(hf:∀a,(f a).length=k):∀(l:List α),(l.flatMap f).length=l.length*k
 | []=>by simp
 | a::l=>by rw[List.flatMap_cons,List.length_append,hf,Z1 hf l,List.length_cons,Nat.add_mul];omega
def gr {α:Type}(z:α)(l:List α)(i:Nat):α:=l.getD i z
theorem Yc {α:Type}{z:α}{l:List α}{i:Nat}(hi:i<l.length):gr z l i=l[i]:=by simp [gr,List.getD,hi]
structure Zj {α:Type}(f:α→List Value)(w:Nat)(h:PH)(v:Value)(l:List α):Prop where
 len:∀a,(f a).length=w
 s:Sl h v l.length w (l.flatMap f)
section
variable {α:Type} {f:α→List Value} {w:Nat} {h:PH} {v:Value} {l:List α}
theorem Zj.up {h':PH}(le:PH.le h h')(hd:Zj f w h v l):Zj f w h' v l:=⟨hd.len,hd.s.up le⟩
theorem Zj.nil (hw:∀a,(f a).length=w)(h:PH):Zj f w h (.slice none 0 0) []:=⟨hw,⟨by simp,none,0,rfl,Nat.le_refl _,by decide,by simp,fun _=>rfl,fun j c hj=>by simp at hj⟩⟩
theorem Zj.open (hd:Zj f w h v l):∃a cap,v = .slice a l.length cap∧l.length≤cap∧l.length≤9223372036854775807∧(a=none→cap=0)∧Zj f w h (.slice a l.length cap) l:=by
 obtain⟨h1,a,cap,rfl,h3,h4,h4',h5,h6⟩:=hd.s;exact⟨a,cap,rfl,h3,h4',h5,hd⟩
theorem Zj.cell {a:Option Addr}{n c:Nat}{z:α}(hd:Zj f w h (.slice a n c) l){i m:Nat}(hi:i<l.length)(hm:m<w):Yd h a (i*w+m)=(f (gr z l i))[m]?:=by
 obtain⟨h1,a',cap,h2,h3,h4,h4',h5,h6⟩:=hd.s;injection h2 with e1 e2 e3
 subst e1;have hg:=UB hd.len l i m hm;rw[List.getElem?_eq_getElem hi,Option.bind_some,← Yc (z:=z) hi]at hg;obtain⟨u,hu⟩:∃u,(f (gr z l i))[m]?=some u:=⟨_,List.getElem?_eq_getElem (by rw[hd.len];exact hm)⟩
 rw[hu]at hg ⊢;exact h6 _ _ hg
theorem Zci {a:Option Addr}{n c0:Nat}(z:α)(hw0:0<w)(hd:Zj f w h (.slice a n c0) l) :
  (∀(m c e by':Nat) (k:IntKind) (j:Int) (K:Value→Prop) (t:Zo K),0≤j→j<(l.length:Int)→m=l.length→xIA (.sl e w by') (.slice a m c) (.int k j) K t=K (.pointer (GS a (j.toNat*w)))) ∧
  (∀(j:Nat) (K:Option Addr→Prop) (t:Zo K),j<l.length→Znv (.pointer (GS a (j*w))) K t=K (GS a (j*w))) ∧
  (∀(L:Own) (j:Nat) (zz:List Value) (by':Nat) (K:Value→Prop) (t:Zo K),j<l.length→xLd ⟨w,true,zz,by'⟩ L h (GS a (j*w)) K t=K (.agg (f (gr z l j)).toArray)) ∧
  (∀(j o:Nat) (K:Value→Prop) (t:Zo K),j<l.length→Zkb (.pointer (GS a (j*w))) o K t=K (.pointer (GS a (j*w+o)))) ∧
  (∀(j o:Nat) (K:Option Addr→Prop) (t:Zo K),j<l.length→Znv (.pointer (GS a (j*w+o))) K t=K (GS a (j*w+o))):=by
 have hne:∀j,j<l.length→a≠none:=fun j hj e=>by
  have:=hd.cell (z:=z) hj (m:=0) hw0;rw[e,List.getElem?_eq_getElem (by rw[hd.len];exact hw0)]at this;simp [Yd]at this
 refine⟨fun m c e by' k j K t h0 h1 hm=>?_,fun j K t hj=>Zas (hne j hj) K,fun L j zz by' K t hj=>?_,fun j o K t hj=>Zpr (hne j hj) _ _ K,fun j o K t hj=>Zas (hne j hj) K⟩
 ·subst hm;exact Zmk (hne j.toNat (by omega)) e w by' _ c k j h0 h1 K t
 ·rw[Yez,Zao w 0 (f (gr z l j)) _ (hd.len _) fun m hm=>by rw[Nat.zero_add];exact hd.cell hj hm]
theorem Zj.fld {a:Option Addr}{n c0:Nat}(z:α)(hd:Zj f w h (.slice a n c0) l){j o:Nat}(hj:j<l.length){u:Value}(ho:(f (gr z l j))[o]?=some u)(L:Own)(K:Value→Prop)(t:Zo K) :
  Zbh L h (GS a (j*w+o)) 0 K t=K u:=by
 have hm:o<w:=by
  have:=(List.getElem?_eq_some_iff.1 ho).1
  rwa [hd.len]at this
 exact J4 (by rw[Nat.add_zero,hd.cell (z:=z) hj hm,ho]) K
theorem Zj.pub {o:Option (Nat×Nat)}(hw:∀a,(f a).length=w)(sl:Sl h (ovs o l.length) l.length w (l.flatMap f)):Zj f w h (ovs o l.length) l:=⟨hw,sl⟩
end
open Go.RowKit Go.Bl
abbrev QS:=Value×List Int
def gs (q:List QS)(i:Nat):QS:=q.getD i (.slice none 0 0,[])
def vsL (q:List QS):List Value:=q.map Prod.fst
def xsL (q:List QS):List (List Int):=q.map Prod.snd
theorem Zba {l:List QS}{i:Nat}(hi:i<l.length):gs l i=l[i]:=by simp [gs,List.getD,hi]
theorem VA (q:List QS):(xsL q).length=q.length:=by simp [xsL]
structure Zw (h:PH)(v:Value)(q:List QS):Prop where
 s:Sl h v q.length 1 (vsL q)
 d:∀p∈q,Ints h .u8 p.1 p.2
theorem Zw.up {h h':PH}(le:PH.le h h'){v:Value}{l:List QS}(hd:Zw h v l):Zw h' v l:=⟨hd.s.up le,fun q hq=>(hd.d q hq).up le⟩
theorem Zw.at {h:PH}{v:Value}{l:List QS}(hd:Zw h v l){i:Nat}(hi:i<l.length):Ints h .u8 (gs l i).1 (gs l i).2:=by
 rw[Zba hi];exact hd.d _ (List.getElem_mem hi)
theorem Zw.open {h:PH}{v:Value}{l:List QS}(hd:Zw h v l) :
  ∃a cap,v = .slice a l.length cap∧l.length≤cap∧l.length≤9223372036854775807∧(a=none→cap=0)∧(∀j,j<l.length→Yd h a j=some (gs l j).1)∧Zw h (.slice a l.length cap) l:=by
 obtain⟨h1,a,cap,rfl,h3,h4,h4',h5,h6⟩:=hd.s;exact⟨a,cap,rfl,h3,h4',h5,fun j hj=>h6 j _ (by rw[Zba hj];simp [vsL,hj]),hd⟩
theorem Yci {l:List QS}{i:Nat}(hi:i<l.length):(xsL l)[i]?=some (gs l i).2:=by rw[Zba hi];simp [xsL,hi]
theorem GC {o:Option (Nat×Nat)}{e sz:Nat}{xs:List Value}{L:Own}{h h':PH}(ha:apO o L h)(ap:Ap (oent e sz o xs L) h'):apO o L h':=by
 cases o with
 | none=>trivial
 | some p=>exact⟨ha.1,ap.1⟩
theorem Ap.oent {o:Option (Nat×Nat)}{e sz:Nat}{xs:List Value}{L:Own}{h:PH}(ap:Ap (oent e sz o xs L) h):Ap L h:=by
 cases o with
 | none=>exact ap
 | some p=>exact ap.2
theorem Zlk {h:PH}{o:Option (Nat×Nat)}{q:List QS}(sl:Sl h (ovs o q.length) q.length 1 (vsL q))(hd:∀p∈q,Ints h .u8 p.1 p.2):Zw h (ovs o q.length) q:=⟨sl,hd⟩
structure Zc where
 bal:Int
 eff:Int
 score:Int
 streak:Int
 owner:Int
 status:Int
def ZT:Zc:=⟨0,0,0,0,0,0⟩
def YE (m:Zc):List Value:=[.int .u64 m.bal,.int .u64 m.eff,.int .u64 m.score,.int .i64 m.streak,.int .i64 m.owner,.int .i64 m.status]
structure Ze (m:Zc):Prop where
 u:∀z∈[m.bal,m.eff,m.score],0≤z∧z≤18446744073709551615
 n:∀z∈[m.streak,m.owner,m.status],-9223372036854775808≤z∧z≤9223372036854775807
structure Zn where
 acct:Int
 mem:Int
 amt:Int
 new:Bool
def YN:Zn:=⟨0,0,0,false⟩
def Zbb (d:Zn):List Value:=[.int .i64 d.acct,.int .i64 d.mem,.int .u64 d.amt,.bool d.new]
structure ZK (d:Zn):Prop where
 a:0≤d.amt∧d.amt≤18446744073709551615
 n:∀z∈[d.acct,d.mem],-9223372036854775808≤z∧z≤9223372036854775807
structure Zg where
 acct:Int
 at':Int
 amt:Int
def ZZ:Zg:=⟨0,0,0⟩
def Yx (d:Zg):List Value:=[.int .i64 d.acct,.int .i64 d.at',.int .u64 d.amt]
structure Zr (d:Zg):Prop where
 a:0≤d.amt∧d.amt≤18446744073709551615
 n:∀z∈[d.acct,d.at'],-9223372036854775808≤z∧z≤9223372036854775807
structure Zm where
 acct:Int
 what:Int
 par:Zd
 to:Int
 amt:Int
 ends:Int
 due:Int
 state:Int
 yes:List Int
 no:List Int
def Yg:Zm:=⟨0,0,Zhs,0,0,0,0,0,[],[]⟩
abbrev QM:=Value×Value×Zm
def Z4:QM:=(.slice none 0 0,.slice none 0 0,Yg)
def Wk (q:QM):List Value := .int .i64 q.2.2.acct :: .int .i64 q.2.2.what::(Jm q.2.2.par++[.int .i64 q.2.2.to,.int .u64 q.2.2.amt,.int .i64 q.2.2.ends,.int .i64 q.2.2.due,.int .i64 q.2.2.state,q.1,q.2.1])
structure Yym (m:Zm):Prop where
 a:0≤m.amt∧m.amt≤18446744073709551615
 n:∀z∈[m.acct,m.what,m.to,m.ends,m.due,m.state],-9223372036854775808≤z∧z≤9223372036854775807
 p:Zh m.par
structure Zu (h:PH)(q:QM):Prop where
 y:Ints h .u8 q.1 q.2.2.yes
 n:Ints h .u8 q.2.1 q.2.2.no
 ok:Yym q.2.2
theorem Zu.up {h h':PH}(le:PH.le h h'){q:QM}(hd:Zu h q):Zu h' q:=⟨hd.y.up le,hd.n.up le,hd.ok⟩
theorem Z9 (m:Zc):(YE m).length=6:=rfl
theorem V5 (m:Zn):(Zbb m).length=4:=rfl
theorem Yn (m:Zg):(Yx m).length=3:=rfl
theorem Z6 (m:QM):(Wk m).length=33:=rfl
structure Zf where
 par:Zd
 most:Int
 gen:Int
 mint:Int
 burn:Int
 treas:Int
 ep:Int
 calm:Int
 emer:Bool
 purses:List Int
 members:List Zc
 entry:List Int
 exit:List Int
 pool:List Zn
 dues:List Zg
 motions:List Zm
 marks:List Int
 ring:List (List Int)
def VL:Zf:=⟨Zhs,0,0,0,0,0,0,0,false,[],[],[],[],[],[],[],[],[]⟩
structure SV where
 p:Value
 m:Value
 e:Value
 x:Value
 o:Value
 d:Value
 t:Value
 k:Value
 r:Value
def Zjg:SV:=⟨.slice none 0 0,.slice none 0 0,.slice none 0 0,.slice none 0 0,.slice none 0 0,.slice none 0 0,.slice none 0 0,.slice none 0 0,.slice none 0 0⟩
abbrev stC (s:Zf)(v:SV):List Value:=[.int .u64 s.par.inc,.int .u64 s.par.maxEff,.int .u64 s.par.floor,.int .u64 s.par.cap,.int .u64 s.par.up,.int .u64 s.par.down,.int .u64 s.par.bias,.int .u64 s.par.quot,.int .u64 s.par.biasEm,.int .u64 s.par.quotEm,.int .u64 s.par.recover,.int .u64 s.par.scoreCap,.int .u64 s.par.rate,.int .u64 s.par.bond,.int .i64 s.par.delay,.int .i64 s.par.streak,.int .i64 s.par.boost,.int .i64 s.par.absent,.int .i64 s.par.burn,.int .i64 s.par.churn,.int .i64 s.par.wait,.int .i64 s.par.poll,.int .i64 s.par.enact,.int .i64 s.par.quorum,
 .int .u64 s.most,.int .u64 s.gen,.int .u64 s.mint,.int .u64 s.burn,.int .u64 s.treas,.int .i64 s.ep,.int .i64 s.calm,.bool s.emer,v.p,v.m,v.e,v.x,v.o,v.d,v.t,v.k,v.r]
abbrev stV (s:Zf)(v:SV):Value := .agg #[.int .u64 s.par.inc,.int .u64 s.par.maxEff,.int .u64 s.par.floor,.int .u64 s.par.cap,.int .u64 s.par.up,.int .u64 s.par.down,.int .u64 s.par.bias,.int .u64 s.par.quot,.int .u64 s.par.biasEm,.int .u64 s.par.quotEm,.int .u64 s.par.recover,.int .u64 s.par.scoreCap,.int .u64 s.par.rate,.int .u64 s.par.bond,.int .i64 s.par.delay,.int .i64 s.par.streak,.int .i64 s.par.boost,.int .i64 s.par.absent,.int .i64 s.par.burn,.int .i64 s.par.churn,.int .i64 s.par.wait,.int .i64 s.par.poll,.int .i64 s.par.enact,.int .i64 s.par.quorum,
 .int .u64 s.most,.int .u64 s.gen,.int .u64 s.mint,.int .u64 s.burn,.int .u64 s.treas,.int .i64 s.ep,.int .i64 s.calm,.bool s.emer,v.p,v.m,v.e,v.x,v.o,v.d,v.t,v.k,v.r]
structure ZB (s:Zf):Prop where
 p:Zh s.par
 u:∀z∈[s.most,s.gen,s.mint,s.burn,s.treas],0≤z∧z≤18446744073709551615
 n:∀z∈[s.ep,s.calm],-9223372036854775808≤z∧z≤9223372036854775807
structure Zp (h:PH)(v:SV)(s:Zf):Prop where
 ok:ZB s
 p:Ints h .u64 v.p s.purses
 m:Zj YE 6 h v.m s.members
 mo:∀x∈s.members,Ze x
 e:Ints h .i64 v.e s.entry
 x:Ints h .i64 v.x s.exit
 o:Zj Zbb 4 h v.o s.pool
 oo:∀x∈s.pool,ZK x
 d:Zj Yx 3 h v.d s.dues
 dd:∀x∈s.dues,Zr x
 t:∃q:List QM,Zj Wk 33 h v.t q∧q.map (fun x=>x.2.2)=s.motions∧∀x∈q,Zu h x
 k:Ints h .u8 v.k s.marks
 r:∃q,Zw h v.r q∧xsL q=s.ring
theorem Zp.up {h h':PH}(le:PH.le h h'){v:SV}{s:Zf}(hs:Zp h v s):Zp h' v s:=by
 obtain⟨q,t1,t2,t3⟩:=hs.t;obtain⟨r,r1,r2⟩:=hs.r;exact⟨hs.ok,hs.p.up le,hs.m.up le,hs.mo,hs.e.up le,hs.x.up le,hs.o.up le,hs.oo,hs.d.up le,hs.dd,⟨q,t1.up le,t2,fun x hx=>(t3 x hx).up le⟩,hs.k.up le,⟨r,r1.up le,r2⟩⟩
theorem Znl (h:PH):Zw h (.slice none 0 0) []:=⟨⟨rfl,none,0,rfl,Nat.le_refl _,by decide,by decide,fun _=>rfl,fun j c hj=>by simp [vsL]at hj⟩,fun q hq=>by cases hq⟩
theorem Zsj:Zh Zhs:=⟨fun z hz=>by simp [YA,Zhs]at hz;omega,fun z hz=>by simp [Y9,Zhs]at hz;omega⟩
theorem Zeu (h:PH):Zp h Zjg VL :=
 ⟨⟨Zsj,fun z hz=>by simp [VL]at hz;omega,fun z hz=>by simp [VL]at hz;omega⟩,YO h .u64,Zj.nil Z9 h,(fun x hx=>by cases hx),YO h .i64,YO h .i64,Zj.nil V5 h,(fun x hx=>by cases hx),Zj.nil Yn h,(fun x hx=>by cases hx),⟨[],Zj.nil Z6 h,rfl,fun x hx=>by cases hx⟩,YO h .u8,⟨[],Znl h,rfl⟩⟩
open Go.RowKit Go.Bl Go.ChangeShapes Go.WideShapes Go.ChangeAt Go.Joins Go.Proofs Go.Proofs.Tryz
section
variable {P:Program} {H:Type} {enc:TypeId×Value→H} {W:World} {base b0:Nat} {spare:Nat→Bool} {held:Bool} {r:Reach} {v:Value} {d:DataW H} {p:List MemPlace}
theorem WQ {n t off:Nat}{k:IntKind}{cs:List Value}{y:Option (DataW H×List MemPlace)}(ht:P.underlying t=some (.int k))(hc:P.cellsOf t=1)(h:DataW.trod enc P W base spare held n t ((cs.drop off).take (P.cellsOf t))=y)(hy:y.isSome=true) :
  ∃z,cs[off]?=some (.int k z)∧k.min≤z∧z≤k.max:=by
 obtain⟨x,rfl⟩:=Option.isSome_iff_exists.1 hy;obtain⟨z,hz,_,w⟩:=DataW.trod_int ht h;rw[hc]at hz;have hr:k.min≤z∧z≤k.max:=by simpa [Lit.wf] using w
 refine⟨z,?_,hr⟩;have:=congrArg (fun l=>l[0]?) hz
 simpa using this
theorem Ymd {cs:List Value}(h:cs.length=4):∃g0 g1 g2 g3:Value,cs=g0::g1::g2::g3::[]:=by
 match cs,h with
 | g0::g1::g2::g3::[],_=>exact⟨g0,g1,g2,g3,rfl⟩
theorem Yfp {cs:List Value}(h:cs.length=24):∃g0 g1 g2 g3 g4 g5 g6 g7 g8 g9 g10 g11 g12 g13 g14 g15 g16 g17 g18 g19 g20 g21 g22 g23:Value,cs=g0::g1::g2::g3::g4::g5::g6::g7::g8::g9::g10::g11::g12::g13::g14::g15::g16::g17::g18::g19::g20::g21::g22::g23::[]:=by
 match cs,h with
 | g0::g1::g2::g3::g4::g5::g6::g7::g8::g9::g10::g11::g12::g13::g14::g15::g16::g17::g18::g19::g20::g21::g22::g23::[],_=>exact⟨g0,g1,g2,g3,g4,g5,g6,g7,g8,g9,g10,g11,g12,g13,g14,g15,g16,g17,g18,g19,g20,g21,g22,g23,rfl⟩
end
section
variable {H:Type} {enc:TypeId×Value→H} {W:World} {base b0:Nat} {spare:Nat→Bool} {held:Bool} {r:Reach} {v:Value} {d:DataW H} {p:List MemPlace}
theorem Zwk:IntKind.i64.min = -9223372036854775808:=by decide
theorem Zst:IntKind.i64.max=9223372036854775807:=by decide
theorem Ybr:IntKind.u64.min=0:=by decide
theorem Ycm:IntKind.u64.max=18446744073709551615:=by decide
set_option maxRecDepth 100000 in
theorem Zqt (n:Nat)(cs:List Value)(x:DataW H×List MemPlace)(hf:DataW.trod enc prog W base spare held n 24 cs=some x):∃q:Zd,cs=Jm q∧Zh q:=by
 obtain⟨xs,m,rfl,_,hl,fldl,fld⟩:=DataW.trod_struct underlying24 hf;rw[show prog.cellsOf 24=24 by kernel_rfl]at hl;have ki:prog.cellsOf 3=1:=by kernel_rfl
 have ku:prog.cellsOf 22=1:=by kernel_rfl
 have sfld:∀i,i<24→(xs[i]?).isSome=true:=fun i hi=>by
  have:xs.length=24:=fldl;simp;omega
 obtain⟨z0,a0,r0⟩:=WQ (off:=0) underlying22 ku (fld 0 _ rfl) (sfld 0 (by decide));obtain⟨z1,a1,r1⟩:=WQ (off:=1) underlying22 ku (fld 1 _ rfl) (sfld 1 (by decide));obtain⟨z2,a2,r2⟩:=WQ (off:=2) underlying22 ku (fld 2 _ rfl) (sfld 2 (by decide));obtain⟨z3,a3,r3⟩:=WQ (off:=3) underlying22 ku (fld 3 _ rfl) (sfld 3 (by decide));obtain⟨z4,a4,r4⟩:=WQ (off:=4) underlying22 ku (fld 4 _ rfl) (sfld 4 (by decide));obtain⟨z5,a5,r5⟩:=WQ (off:=5) underlying22 ku (fld 5 _ rfl) (sfld 5 (by decide));obtain⟨z6,a6,r6⟩:=WQ (off:=6) underlying22 ku (fld 6 _ rfl) (sfld 6 (by decide));obtain⟨z7,a7,r7⟩:=WQ (off:=7) underlying22 ku (fld 7 _ rfl) (sfld 7 (by decide));obtain⟨z8,a8,r8⟩:=WQ (off:=8) underlying22 ku (fld 8 _ rfl) (sfld 8 (by decide));obtain⟨z9,a9,r9⟩:=WQ (off:=9) underlying22 ku (fld 9 _ rfl) (sfld 9 (by decide));obtain⟨z10,a10,r10⟩:=WQ (off:=10) underlying22 ku (fld 10 _ rfl) (sfld 10 (by decide));obtain⟨z11,a11,r11⟩:=WQ (off:=11) underlying22 ku (fld 11 _ rfl) (sfld 11 (by decide));obtain⟨z12,a12,r12⟩:=WQ (off:=12) underlying22 ku (fld 12 _ rfl) (sfld 12 (by decide));obtain⟨z13,a13,r13⟩:=WQ (off:=13) underlying22 ku (fld 13 _ rfl) (sfld 13 (by decide));obtain⟨z14,a14,r14⟩:=WQ (off:=14) underlying3 ki (fld 14 _ rfl) (sfld 14 (by decide));obtain⟨z15,a15,r15⟩:=WQ (off:=15) underlying3 ki (fld 15 _ rfl) (sfld 15 (by decide));obtain⟨z16,a16,r16⟩:=WQ (off:=16) underlying3 ki (fld 16 _ rfl) (sfld 16 (by decide));obtain⟨z17,a17,r17⟩:=WQ (off:=17) underlying3 ki (fld 17 _ rfl) (sfld 17 (by decide));obtain⟨z18,a18,r18⟩:=WQ (off:=18) underlying3 ki (fld 18 _ rfl) (sfld 18 (by decide));obtain⟨z19,a19,r19⟩:=WQ (off:=19) underlying3 ki (fld 19 _ rfl) (sfld 19 (by decide));obtain⟨z20,a20,r20⟩:=WQ (off:=20) underlying3 ki (fld 20 _ rfl) (sfld 20 (by decide))
 obtain⟨z21,a21,r21⟩:=WQ (off:=21) underlying3 ki (fld 21 _ rfl) (sfld 21 (by decide));obtain⟨z22,a22,r22⟩:=WQ (off:=22) underlying3 ki (fld 22 _ rfl) (sfld 22 (by decide));obtain⟨z23,a23,r23⟩:=WQ (off:=23) underlying3 ki (fld 23 _ rfl) (sfld 23 (by decide));obtain⟨g0,g1,g2,g3,g4,g5,g6,g7,g8,g9,g10,g11,g12,g13,g14,g15,g16,g17,g18,g19,g20,g21,g22,g23,rfl⟩:=Yfp hl;simp only[List.drop_succ_cons,List.drop_zero,List.take_succ_cons,List.take_zero,List.getElem?_cons_zero,List.getElem?_cons_succ,List.getElem_cons_succ,List.getElem_cons_zero,Option.some.injEq]at a0 a1 a2 a3 a4 a5 a6 a7 a8 a9 a10 a11 a12 a13 a14 a15 a16 a17 a18 a19 a20 a21 a22 a23;subst a0;subst a1;subst a2;subst a3;subst a4;subst a5;subst a6;subst a7;subst a8;subst a9;subst a10;subst a11;subst a12;subst a13;subst a14;subst a15;subst a16;subst a17;subst a18;subst a19;subst a20;subst a21;subst a22;subst a23;rw[Zwk,Zst]at r14 r15 r16 r17 r18 r19 r20 r21 r22 r23;rw[Ybr,Ycm]at r0 r1 r2 r3 r4 r5 r6 r7 r8 r9 r10 r11 r12 r13;refine⟨⟨z0,z1,z2,z3,z4,z5,z6,z7,z8,z9,z10,z11,z12,z13,z14,z15,z16,z17,z18,z19,z20,z21,z22,z23⟩,rfl,⟨?_,?_⟩⟩
 ·intro z hz;simp only[YA,Y9,List.mem_cons,List.not_mem_nil,or_false]at hz;rcases hz with rfl|rfl|rfl|rfl|rfl|rfl|rfl|rfl|rfl|rfl|rfl|rfl|rfl|rfl
  ·exact r0
  ·exact r1
  ·exact r2
  ·exact r3
  ·exact r4
  ·exact r5
  ·exact r6
  ·exact r7
  ·exact r8
  ·exact r9
  ·exact r10
  ·exact r11
  ·exact r12
  ·exact r13
 ·intro z hz;simp only[YA,Y9,List.mem_cons,List.not_mem_nil,or_false]at hz;rcases hz with rfl|rfl|rfl|rfl|rfl|rfl|rfl|rfl|rfl|rfl
  ·exact r14
  ·exact r15
  ·exact r16
  ·exact r17
  ·exact r18
  ·exact r19
  ·exact r20
  ·exact r21
  ·exact r22
  ·exact r23
end
end Go.X

/- Lemmas and contracts. Conditions: as each says. -/
import Derived.Test.YtllhopbilpdpkaaGreatQ04
set_option linter.unusedVariables false
set_option linter.unusedSimpArgs false
set_option maxHeartbeats 12800000
set_option maxRecDepth 20000
namespace Go.X
open Go.RowKit Go.Bl
variable {P:Program}
def Zoh (k:IntKind)(es:List (Int×Value)):List Value:=es.map fun e=>Value.tuple #[.int k e.1,e.2]
def Zyk:List (Int×Value)→Int→Option Value
 | [],_=>none
 | e::es,n=>if n=e.1 then some e.2 else Zyk es n
def Yab:List (Int×Value)→Int→Value→List (Int×Value)
 | [],n,v=>[(n,v)]
 | e::es,n,v=>if n=e.1 then (e.1,v)::es else e::Yab es n v
def Zop:List (Int×Value)→Int→Nat→Option (Nat×Value)
 | [],_,_=>none
 | e::es,n,i=>if n=e.1 then some (i,e.2) else Zop es n (i+1)
theorem Zmi:∀ (es:List (Int×Value))(n:Int)(i:Nat),(Zop es n i).map Prod.snd=Zyk es n
 | [],_,_=>rfl
 | e::es,n,i=>by
  simp only[Zop,Zyk];split
  ·rfl
  ·exact Zmi es n (i+1)
theorem GN {k:IntKind}{T:TypeDesc}(hT:T = .int k)(n:Int):∀(l:List MapEntry) (es:List (Int×Value)) (i:Nat),l.map (fun x=>Value.tuple #[x.key,x.val])=Zoh k es→Instr.findNow T (.int k n) l i=some (Zop es n i)
 | [],[],i,_=>rfl
 | [],_::_,i,h=>by simp [Zoh]at h
 | _::_,[],i,h=>by simp [Zoh]at h
 | x::l,e::es,i,h=>by
  simp only[Zoh,List.map_cons,List.cons.injEq,Value.tuple.injEq]at h;obtain⟨h1,h2⟩:=h;have hk:x.key = .int k e.1:=by have:=congrArg (fun a:Array Value=>a[0]?) h1;simpa using this
  have hv:x.val=e.2:=by have:=congrArg (fun a:Array Value=>a[1]?) h1;simpa using this
  subst hT;simp only[Instr.findNow,Instr.sameNow,hk,Zop,hv,if_true];by_cases c:n=e.1
  ·simp [c]
  ·have:(n == e.1)=false:=by simpa using c
   rw[this,if_neg c];exact GN rfl n l es (i+1) h2
theorem Ut {kt:TypeId}{k:IntKind}(hk:P.underlying kt=some (.int k))(em:Bool)(n:Int)(W:World):(Instr.checkKey em 10000 kt (.int k n)).run P W = .ok () W:=by
 rw[show (10000:Nat)=9999+1 by rfl,Instr.checkKey];simp [run_underlying hk]
theorem Ux {kt:TypeId}{k:IntKind}(hk:P.underlying kt=some (.int k))(n:Int)(l:List MapEntry)(es:List (Int×Value))(hl:l.map (fun x=>Value.tuple #[x.key,x.val])=Zoh k es)(W:World) :
  (Instr.findKey kt (.int k n) l).run P W = .ok (Zop es n 0) W:=by
 simp [Instr.findKey,run_underlying hk,GN rfl n l es 0 hl]
theorem U6 {W:World}{b:Nat}{es:Array MapEntry}{ck:Nat}(h:W.heap[b]?=some (.map es ck)):(getObj b).run P W = .ok (.map es ck) W:=by simp [getObj,Sem.run,h]
theorem J1 {W:World}{b:Nat}{es:Array MapEntry}{ck:Nat}(o:Obj)(h:W.heap[b]?=some (.map es ck)):(setObj b o).run P W = .ok () { W with heap:=W.heap.setIfInBounds b o }:=by simp [setObj,Sem.run,h]
theorem Zev {L:Own}{h:PH}{W:World}(hg:Zl L h W){b:Nat}{cs:List Value}(hm:(⟨b,4294967295,cs,0⟩:Zm)∈L):∃es ck,W.heap[b]?=some (.map es ck)∧es.toList.map (fun x=>Value.tuple #[x.key,x.val])=cs:=(hg.own _ hm).map rfl
theorem Zxp {T kt et:TypeId}{k:IntKind}{z:Value}(hT:P.underlying T=some (.map kt et))(hk:P.underlying kt=some (.int k))(hz3:∀W,(zeroValue et:Sem Value).run P W = .ok z W)
  {L:Own} {h:PH} {K:Value→Prop} {b:Nat} {n:Int} {ok:Bool} (es:List (Int×Value)) (hm:(⟨b,4294967295,Zoh k es,0⟩:Zm)∈L)
  (hK:K (if ok then .tuple #[(Zyk es n).getD z,.bool (Zyk es n).isSome] else (Zyk es n).getD z)):Ylb P (Instr.lookup T (.map (some b)) (.int k n) ok) L h K:=by
 refine⟨_,fun W hg=>?_,hK⟩;obtain⟨ms,ck,h1,h2⟩:=Zev hg hm;have hf:=Ux (P:=P) hk n ms.toList es h2 W;have hc:=Ut (P:=P) hk ms.isEmpty n W;have hz':=hz3 W;rw[← Zmi es n 0];simp only[Instr.lookup,Sem.run_bind,run_underlying hT,Result.andThen_ok,U6 h1,hc,hf]
 cases hi:Zop es n 0 with
 | none=>cases ok<;>simp [hz',hc,hf,hi]
 | some p=>cases ok<;>simp [hc,hf,hi]
theorem Zfd:∀ (es:List (Int×Value))(n:Int)(j:Nat)(p:Nat×Value),Zop es n j=some p→∃i,p.1=j+i∧es[i]?=some (n,p.2)∧∀v,Yab es n v=es.set i (n,v)
 | [],_,_,_,h=>by cases h
 | e::es,n,j,p,h=>by
  simp only[Zop]at h;split at h
  ·rename_i c;injection h with h
   subst h;exact⟨0,rfl,by simp [c],fun v=>by simp [Yab,c]⟩
  ·rename_i c;obtain⟨i,h1,h2,h3⟩:=Zfd es n (j+1) p h;exact⟨i+1,by omega,by simpa using h2,fun v=>by simp [Yab,c,h3]⟩
theorem Zgf:∀ (es:List (Int×Value))(n:Int)(j:Nat),Zop es n j=none→∀v,Yab es n v=es++[(n,v)]
 | [],_,_,_,v=>rfl
 | e::es,n,j,h,v=>by
  simp only[Zop]at h;split at h
  ·cases h
  ·rename_i c;simp [Yab,c,Zgf es n (j+1) h v]
theorem Zer {L1 L2:Own}{h:PH}{W:World}{b:Nat}{cs cs':List Value}{es es':Array MapEntry}{ck ck':Nat}(hg:Zl (L1++⟨b,4294967295,cs,0⟩::L2) h W)(h1:W.heap[b]?=some (.map es ck))(h2:es'.toList.map (fun x=>Value.tuple #[x.key,x.val])=cs') :
  Step (L1++⟨b,4294967295,cs,0⟩::L2) W (L1++⟨b,4294967295,cs',0⟩::L2) h { W with heap:=W.heap.setIfInBounds b (.map es' ck') }:=by
 have hb:b<W.heap.size:=by
  rcases Nat.lt_or_ge b W.heap.size with h3|h3
  ·exact h3
  ·rw[Array.getElem?_eq_none h3]at h1;cases h1
 have hnc:h b=noC:=hg.apart ⟨b,4294967295,cs,0⟩ (by simp);have hnd:=hg.nodup;simp only[List.map_append,List.map_cons]at hnd;have hnd2:=List.nodup_append.1 hnd;have hnd3:=List.nodup_cons.1 hnd2.2.1;have hne:∀e∈L1++L2,e.b≠b:=fun e he hbe=>by
  rcases List.mem_append.1 he with he|he
  ·exact hnd2.2.2 e.b (List.mem_map_of_mem he) b (by simp) hbe
  ·exact hnd3.1 (by rw[← hbe];exact List.mem_map_of_mem he)
 have oth:∀x,x≠b→(W.heap.setIfInBounds b (.map es' ck'))[x]?=W.heap[x]?:=fun x hx=>Array.getElem?_setIfInBounds_ne (Ne.symm hx);have hin:∀x:Zm,x∈L1++L2→x∈L1++(⟨b,4294967295,cs,0⟩:Zm)::L2:=fun x hx=>by
  rcases List.mem_append.1 hx with hx|hx
  ·exact List.mem_append.2 (Or.inl hx)
  ·exact List.mem_append.2 (Or.inr (List.mem_cons_of_mem _ hx))
 have hcase:∀x:Zm,x∈L1++(⟨b,4294967295,cs',0⟩:Zm)::L2→x=⟨b,4294967295,cs',0⟩∨x∈L1++L2:=fun x hx=>by
  rcases List.mem_append.1 hx with hx|hx
  ·exact Or.inr (List.mem_append.2 (Or.inl hx))
  ·rcases List.mem_cons.1 hx with hx|hx
   ·exact Or.inl hx
   ·exact Or.inr (List.mem_append.2 (Or.inr hx))
 refine⟨⟨fun b' o v hv=>?_,fun e he=>?_,?_,fun e he=>?_⟩,⟨rfl,rfl,rfl,by simp,fun k hk hM=>?_⟩,fun e he=>?_⟩
 ·have hbb:b'≠b:=fun e=>by rw[e,hnc]at hv;cases hv
  have:=hg.sub b' o v hv;simp only[World.cell?]at this ⊢;rw[oth b' hbb];exact this
 ·rcases hcase e he with rfl|he
  ·refine .mkMap rfl ⟨es',ck',?_,h2⟩;simp [hb]
  ·show BlkIs e (W.heap.setIfInBounds b (.map es' ck'))[e.b]?;rw[oth _ (hne e he)];exact hg.own e (hin e he)
 ·simp only[List.map_append,List.map_cons];exact hnd
 ·rcases hcase e he with rfl|he
  ·exact hnc
  ·exact hg.apart e (hin e he)
 ·exact oth k fun e=>hM (by rw[e];simp)
 ·refine Or.inl ?_;rcases hcase e he with rfl|he
  ·simp
  ·exact List.mem_map_of_mem (hin e he)
theorem Zuo {T kt et:TypeId}{k:IntKind}(hT:P.underlying T=some (.map kt et))(hk:P.underlying kt=some (.int k)){h:PH}{K:Own→PH→Prop}{b:Nat}{n:Int}{v:Value}(L1 L2:Own)(es:List (Int×Value))
  (hK:K (L1++⟨b,4294967295,Zoh k (Yab es n v),0⟩::L2) h):xDo P (Instr.mapUpdate T (.map (some b)) (.int k n) v) (L1++⟨b,4294967295,Zoh k es,0⟩::L2) h K:=by
 intro W hg;obtain⟨ms,ck,h1,h2⟩:=Zev hg (b:=b) (cs:=Zoh k es) (by simp);have hf:=Ux (P:=P) hk n ms.toList es h2 W;have hc:=Ut (P:=P) hk false n W
 have hstart:(Instr.mapUpdate T (.map (some b)) (.int k n) v).run P W=((match Zop es n 0 with
   | some (i,_)=>do
    let key ← Instr.keyThatStays (((ms[i]?).map (·.key)).getD (.int k n)) (.int k n)
    setObj b (.map (ms.modify i fun e=>{ e with key,val:=v }) ck)
   | none=>setObj b (.map (ms.push { key := .int k n,val:=v,born:=ck }) (ck+1))):Sem Unit).run P W:=by
  simp only[Instr.mapUpdate,Sem.run_bind,run_underlying hT,Result.andThen_ok,U6 h1,hc,hf]
  rfl
 cases hi:Zop es n 0 with
 | none =>
  rw[hi]at hstart;refine⟨_,h,_,hstart.trans (J1 _ h1),hK,Zer hg h1 ?_⟩;rw[Zgf es n 0 hi v];simp [Zoh,h2]
 | some p =>
  obtain⟨i,v0⟩:=p;rw[hi]at hstart;obtain⟨i',e1,e2,e3⟩:=Zfd es n 0 (i,v0) hi;simp only[Nat.zero_add]at e1 e2;subst e1;have hm:ms.toList[i]?.map (fun x=>Value.tuple #[x.key,x.val])=some (.tuple #[.int k n,v0]):=by
   rw[← List.getElem?_map,h2,Zoh,List.getElem?_map,e2];rfl
  obtain⟨x,hx,hxe⟩:=Option.map_eq_some_iff.1 hm;have hkey:x.key = .int k n:=by
   injection hxe with hxe
   have:=congrArg (fun a:Array Value=>a[0]?) hxe
   simpa using this
  have hx':ms[i]?=some x:=by simpa using hx
  have hst:(Instr.keyThatStays (((ms[i]?).map (·.key)).getD (.int k n)) (.int k n)).run P W = .ok (.int k n) W:=by
   rw[hx'];simp [Instr.keyThatStays,hkey,Instr.sameBits]
  refine⟨_,h,_,hstart.trans ?_,hK,Zer (es':=ms.modify i fun e=>{ e with key := .int k n,val:=v }) (ck':=ck) hg h1 ?_⟩
  ·simp only[Sem.run_bind,hst,Result.andThen_ok];exact J1 _ h1
  ·rw[e3 v];apply List.ext_getElem?;intro j;rw[List.getElem?_map];simp only[Zoh,List.map_set,List.getElem?_set];have hj:(ms.toList[j]?).map (fun x=>Value.tuple #[x.key,x.val])=(es.map fun e=>Value.tuple #[.int k e.1,e.2])[j]?:=by
    rw[← List.getElem?_map,h2];rfl
   by_cases c:i=j
   ·subst c;have hlt:i<es.length:=(List.getElem?_eq_some_iff.1 e2).1;simp [Array.getElem?_modify,hx',hlt]
   ·simp only[Array.getElem?_toList,Array.getElem?_modify,c,if_false]at hj ⊢;exact hj
theorem Zaw {L:Own}{h:PH}{a:Option Addr}{i:Nat}:∀(n j:Nat) (cs:List Value) (K:List Value→Prop),cs.length=n→(∀m,m<n→Yd h a (i+(j+m))=cs[m]?)→Gl L h (UN a i) j n K=K cs
 | 0,j,cs,K,hl,_=>by
  have:cs=[]:=List.eq_nil_of_length_eq_zero hl;subst this
  rfl
 | n+1,j,[],K,hl,_=>by simp at hl
 | n+1,j,c::cs,K,hl,hc=>by
  have h0:=hc 0 (by omega);simp only[Nat.add_zero,List.getElem?_cons_zero]at h0;rw[Zka,U0 h0]
  rw[Zaw n (j+1) cs (fun vs=>K (c::vs)) (by simpa using hl) fun m hm=>by
   have:=hc (m+1) (by omega);rw[show i+(j+1+m)=i+(j+(m+1)) by omega,this]
   simp]
def kV (ks:List IntKind)(n:List Int):Value := .agg (List.zipWith Value.int ks n).toArray
def Zqt (ks:List IntKind)(es:List (List Int×Value)):List Value:=es.map fun e=>Value.tuple #[kV ks e.1,e.2]
def Zlu:List (List Int×Value)→List Int→Option Value
 | [],_=>none
 | e::es,n=>if n=e.1 then some e.2 else Zlu es n
def Zww:List (List Int×Value)→List Int→Nat→Option (Nat×Value)
 | [],_,_=>none
 | e::es,n,i=>if n=e.1 then some (i,e.2) else Zww es n (i+1)
theorem Zef:∀ (es:List (List Int×Value))(n:List Int)(i:Nat),(Zww es n i).map Prod.snd=Zlu es n
 | [],_,_=>rfl
 | e::es,n,i=>by
  simp only[Zww,Zlu];split
  ·rfl
  ·exact Zef es n (i+1)
theorem UM {α:Type}{W:World}{body:α→PUnit→Sem (ForInStep PUnit)}:∀(l:List α),(∀f∈l,∀u,(body f u).run P W = .ok (.yield ⟨⟩) W)→(forIn l PUnit.unit body).run P W = .ok ⟨⟩ W
 | [],_=>rfl
 | f::l,hl=>by
  rw[List.forIn_cons,Sem.run_bind,hl f (by simp) _];exact UM l fun g hg=>hl g (by simp [hg])
theorem Zri:∀ (fs:List Field)(i:Nat)(ks:List IntKind)(az:List Int)(xs:Array Value),okF P fs i ks=true→az.length=ks.length→(∀j:Nat,xs[i+j]?=(List.zipWith Value.int ks az)[j]?) →
  ∀ f ∈ fs, f.name ≠ "_" ∧ ∃ k a, P.underlying f.type = some (.int k) ∧ xs[f.offset]? = some (.int k a)
 | [],_,_,_,_,_,_,_,f,hf=>by cases hf
 | _::_,_,[],_,_,h,_,_,_,_=>by simp [okF]at h
 | _::_,_,_::_,[],_,_,ha,_,_,_=>by simp at ha
 | g::fs,i,k::ks,a::az,xs,h,ha,hx,f,hf=>by
  simp only[okF,Bool.and_eq_true,decide_eq_true_eq,beq_iff_eq]at h;obtain⟨⟨⟨h1,h2⟩,h3⟩,h4⟩:=h;rcases List.mem_cons.1 hf with rfl|hf
  ·refine⟨h1,?_⟩
   cases hu:P.underlying f.type with
   | none=>rw[hu]at h3;cases h3
   | some u =>
    rw[hu]at h3
    cases u<;>try (cases h3)
    rename_i k';have hk:k'=k:=by simpa using h3
    subst hk;have hx0:=hx 0;simp only[Nat.add_zero,List.zipWith_cons_cons,List.getElem?_cons_zero]at hx0;exact⟨k',a,rfl,by rw[h2];exact hx0⟩
  ·exact Zri fs (i+1) ks az xs h4 (by simpa using ha) (fun j=>by have:=hx (j+1);rw[show i+1+j=i+(j+1) by omega];simpa using this) f hf
theorem VM {T:Nat}{ks:List IntKind}(ht:P.underlying T=some (.struct (P.fieldsOf T)))(hok:okF P (P.fieldsOf T).toList 0 ks=true)(az:List Int)(ha:az.length=ks.length)(em:Bool)(W:World) :
  (Instr.checkKey em 10000 T (kV ks az)).run P W = .ok () W:=by
 have hm:=Zri (P:=P) (P.fieldsOf T).toList 0 ks az (List.zipWith Value.int ks az).toArray hok ha (fun j=>by simp);rw[show (10000:Nat)=9999+1 by rfl,Instr.checkKey,kV];simp only[Sem.run_bind,run_underlying ht,Result.andThen_ok,← Array.forIn_toList];rw[UM]
 ·rfl
 ·intro f hf u;obtain⟨h1,k,a,h2,h3⟩:=hm f hf;have hag:(isAgg f.type).run P W = .ok false W:=JU h2 W;have px:(part f.type (List.zipWith Value.int ks az).toArray f.offset).run P W = .ok (.int k a) W:=by simp only[part,Sem.run_bind,hag,Result.andThen_ok];simp [h3]
  have hc:(Instr.checkKey em 9999 f.type (.int k a)).run P W = .ok () W:=by
   rw[show (9999:Nat)=9998+1 by rfl,Instr.checkKey];simp [run_underlying h2]
  simp only[ne_eq,h1,not_false_eq_true,if_true,Sem.run_bind,px,Result.andThen_ok,hc]
  rfl
structure Yyx (P:Program)(kt:TypeId)(ks:List IntKind):Prop where
 u:P.underlying kt=some (.struct (P.fieldsOf kt))
 s:P.stoodInHeld kt=false
 ok:okF P (P.fieldsOf kt).toList 0 ks=true
theorem Ur {kt:TypeId}{ks:List IntKind}(hk:Yyx P kt ks)(n:List Int)(hn:n.length=ks.length)(W:World):∀(l:List MapEntry) (es:List (List Int×Value)) (i:Nat),(∀e∈es,e.1.length=ks.length) →
  l.map (fun x=>Value.tuple #[x.key,x.val])=Zqt ks es→(Instr.findAsking kt (kV ks n) l i).run P W = .ok (Zww es n i) W
 | [],[],i,_,_=>by simp [Instr.findAsking,Zww]
 | [],_::_,i,_,h=>by simp [Zqt]at h
 | _::_,[],i,_,h=>by simp [Zqt]at h
 | x::l,e::es,i,hl,h=>by
  simp only[Zqt,List.map_cons,List.cons.injEq,Value.tuple.injEq]at h;obtain⟨h1,h2⟩:=h;have hkey:x.key=kV ks e.1:=by have:=congrArg (fun a:Array Value=>a[0]?) h1;simpa using this
  have hv:x.val=e.2:=by have:=congrArg (fun a:Array Value=>a[1]?) h1;simpa using this
  have he:(Op.equal kt (kV ks n) x.key).run P W = .ok (decide (n=e.1)) W:=by
   rw[hkey];exact Jm hk.u hk.s hk.ok n e.1 hn (hl e (by simp)) W
  have ih:=Ur hk n hn W l es (i+1) (fun y hy=>hl y (by simp [hy])) h2;by_cases c:n=e.1
  ·rw[decide_eq_true c]at he;simp only[Instr.findAsking,Sem.run_bind,he,Result.andThen_ok,if_true,Sem.run_pure,hv,Zww,if_pos c]
  ·rw[decide_eq_false c]at he;simp only[Instr.findAsking,Sem.run_bind,he,Result.andThen_ok,Bool.false_eq_true,if_false,Zww,if_neg c];exact ih
theorem JT {kt:TypeId}{ks:List IntKind}(hk:Yyx P kt ks)(n:List Int)(hn:n.length=ks.length)(l:List MapEntry)(es:List (List Int×Value))(he:∀e∈es,e.1.length=ks.length)(hl:l.map (fun x=>Value.tuple #[x.key,x.val])=Zqt ks es)(W:World) :
  (Instr.findKey kt (kV ks n) l).run P W = .ok (Zww es n 0) W:=by
 have ha:=Ur hk n hn W l es 0 he hl
 cases l with
 | nil =>
  cases es with
  | nil=>simp [Instr.findKey,run_underlying hk.u,Instr.findNow,Zww]
  | cons _ _=>simp [Zqt]at hl
 | cons x l=>simp only[Instr.findKey,Sem.run_bind,run_underlying hk.u,Result.andThen_ok,Instr.findNow,Instr.sameNow,kV]at ha ⊢;exact ha
theorem Zrm {T kt et:TypeId}{ks:List IntKind}{z:Value}(hT:P.underlying T=some (.map kt et))(hk:Yyx P kt ks)(hz3:∀W,(zeroValue et:Sem Value).run P W = .ok z W)
  {L:Own} {h:PH} {K:Value→Prop} {b:Nat} {n:List Int} (hn:n.length=ks.length) {ok:Bool} (es:List (List Int×Value)) (he:∀e∈es,e.1.length=ks.length) (hm:(⟨b,4294967295,Zqt ks es,0⟩:Zm)∈L)
  (hK:K (if ok then .tuple #[(Zlu es n).getD z,.bool (Zlu es n).isSome] else (Zlu es n).getD z)):Ylb P (Instr.lookup T (.map (some b)) (kV ks n) ok) L h K:=by
 refine⟨_,fun W hg=>?_,hK⟩;obtain⟨ms,ck,h1,h2⟩:=Zev hg hm;have hf:=JT (P:=P) hk n hn ms.toList es he h2 W;have hc:=VM (P:=P) hk.u hk.ok n hn ms.isEmpty W;have hz':=hz3 W;rw[← Zef es n 0];simp only[Instr.lookup,Sem.run_bind,run_underlying hT,Result.andThen_ok,U6 h1,hc,hf]
 cases hi:Zww es n 0 with
 | none=>cases ok<;>simp [hz',hc,hf,hi]
 | some p=>cases ok<;>simp [hc,hf,hi]
theorem Zha {T kt et:TypeId}{ks:List IntKind}(hT:P.underlying T=some (.map kt et))(hk:Yyx P kt ks){h:PH}{K:Own→PH→Prop}{b:Nat}{n:List Int}(hn:n.length=ks.length){v:Value}(L1 L2:Own)(es:List (List Int×Value))(he:∀e∈es,e.1.length=ks.length)(hno:Zlu es n=none)
  (hK:K (L1++⟨b,4294967295,Zqt ks (es++[(n,v)]),0⟩::L2) h):xDo P (Instr.mapUpdate T (.map (some b)) (kV ks n) v) (L1++⟨b,4294967295,Zqt ks es,0⟩::L2) h K:=by
 intro W hg;obtain⟨ms,ck,h1,h2⟩:=Zev hg (b:=b) (cs:=Zqt ks es) (by simp);have hf:=JT (P:=P) hk n hn ms.toList es he h2 W;have hc:=VM (P:=P) hk.u hk.ok n hn false W;have hi:Zww es n 0=none:=by
  have:=Zef es n 0;rw[hno]at this
  simpa using this
 rw[hi]at hf;have hstart:(Instr.mapUpdate T (.map (some b)) (kV ks n) v).run P W=(setObj b (.map (ms.push { key:=kV ks n,val:=v,born:=ck }) (ck+1)):Sem Unit).run P W:=by
  simp only[Instr.mapUpdate,Sem.run_bind,run_underlying hT,Result.andThen_ok,U6 h1,hc,hf]
 refine⟨_,h,_,hstart.trans (J1 _ h1),hK,Zer hg h1 ?_⟩;simp only[Array.toList_push,List.map_append,h2,Zqt]
 rfl
section
variable {P:Program}
end
abbrev Ud (p:Ze):Value := .agg #[.int .u64 p.inc,.int .u64 p.maxEff,.int .u64 p.floor,.int .u64 p.cap,.int .u64 p.up,.int .u64 p.down,.int .u64 p.bias,.int .u64 p.quot,.int .u64 p.biasEm,.int .u64 p.quotEm,.int .u64 p.recover,.int .u64 p.scoreCap,.int .u64 p.rate,.int .u64 p.bond,.int .i64 p.delay,.int .i64 p.streak,.int .i64 p.boost,.int .i64 p.absent,.int .i64 p.burn,.int .i64 p.churn,.int .i64 p.wait,.int .i64 p.poll,.int .i64 p.enact,.int .i64 p.quorum]
abbrev Zbs (p:Ze):List Value:=[.int .u64 p.inc,.int .u64 p.maxEff,.int .u64 p.floor,.int .u64 p.cap,.int .u64 p.up,.int .u64 p.down,.int .u64 p.bias,.int .u64 p.quot,.int .u64 p.biasEm,.int .u64 p.quotEm,.int .u64 p.recover,.int .u64 p.scoreCap,.int .u64 p.rate,.int .u64 p.bond,.int .i64 p.delay,.int .i64 p.streak,.int .i64 p.boost,.int .i64 p.absent,.int .i64 p.burn,.int .i64 p.churn,.int .i64 p.wait,.int .i64 p.poll,.int .i64 p.enact,.int .i64 p.quorum]
theorem VO {α β:Type}{f:α→List β}{k:Nat}(hf:∀a,(f a).length=k):∀(l:List α) (i m:Nat),m<k→(l.flatMap f)[i*k+m]?=(l[i]?).bind fun a=>(f a)[m]?
 | [],i,m,_=>by simp
 | a::l,0,m,hm=>by
  rw[List.flatMap_cons,List.getElem?_append_left (by rw[hf];omega)];simp
 | a::l,i+1,m,hm=>by
  have e:(i+1)*k+m=k+(i*k+m):=by rw[Nat.add_mul];omega
  rw[List.flatMap_cons,List.getElem?_append_right (by rw[hf,e];omega),hf,e,Nat.add_sub_cancel_left,VO hf l i m hm];simp
theorem Z0 {α β:Type}{f:α→List β}{k:Nat}(hf:∀a,(f a).length=k):∀(l:List α),(l.flatMap f).length=l.length*k
 | []=>by simp
 | a::l=>by rw[List.flatMap_cons,List.length_append,hf,Z0 hf l,List.length_cons,Nat.add_mul];omega
def gr {α:Type}(z:α)(l:List α)(i:Nat):α:=l.getD i z
theorem Z8 {α:Type}{z:α}{l:List α}{i:Nat}(hi:i<l.length):gr z l i=l[i]:=by simp [gr,List.getD,hi]
structure Zh {α:Type}(f:α→List Value)(w:Nat)(h:PH)(v:Value)(l:List α):Prop where
 len:∀a,(f a).length=w
 s:Sl h v l.length w (l.flatMap f)
section
variable {α:Type} {f:α→List Value} {w:Nat} {h:PH} {v:Value} {l:List α}
theorem Zh.up {h':PH}(le:PH.le h h')(hd:Zh f w h v l):Zh f w h' v l:=⟨hd.len,hd.s.up le⟩
theorem Zh.nil (hw:∀a,(f a).length=w)(h:PH):Zh f w h (.slice none 0 0) []:=⟨hw,⟨by simp,none,0,rfl,Nat.le_refl _,by decide,by simp,fun _=>rfl,fun j c hj=>by simp at hj⟩⟩
theorem Zh.open (hd:Zh f w h v l):∃a cap,v = .slice a l.length cap∧l.length≤cap∧l.length≤9223372036854775807∧(a=none→cap=0)∧Zh f w h (.slice a l.length cap) l:=by
 obtain⟨h1,a,cap,rfl,h3,h4,h4',h5,h6⟩:=hd.s;exact⟨a,cap,rfl,h3,h4',h5,hd⟩
theorem Zh.cell {a:Option Addr}{n c:Nat}{z:α}(hd:Zh f w h (.slice a n c) l){i m:Nat}(hi:i<l.length)(hm:m<w):Yd h a (i*w+m)=(f (gr z l i))[m]?:=by
 obtain⟨h1,a',cap,h2,h3,h4,h4',h5,h6⟩:=hd.s;injection h2 with e1 e2 e3
 subst e1;have hg:=VO hd.len l i m hm;rw[List.getElem?_eq_getElem hi,Option.bind_some,← Z8 (z:=z) hi]at hg;obtain⟨u,hu⟩:∃u,(f (gr z l i))[m]?=some u:=⟨_,List.getElem?_eq_getElem (by rw[hd.len];exact hm)⟩
 rw[hu]at hg ⊢;exact h6 _ _ hg
theorem Uw {a:Option Addr}{n c0:Nat}(z:α)(hw0:0<w)(hd:Zh f w h (.slice a n c0) l) :
  (∀(m c e by':Nat) (k:IntKind) (j:Int) (K:Value→Prop) (t:Zk K),0≤j→j<(l.length:Int)→m=l.length→xIA (.sl e w by') (.slice a m c) (.int k j) K t=K (.pointer (UN a (j.toNat*w)))) ∧
  (∀(j:Nat) (K:Option Addr→Prop) (t:Zk K),j<l.length→Znm (.pointer (UN a (j*w))) K t=K (UN a (j*w))) ∧
  (∀(L:Own) (j:Nat) (zz:List Value) (by':Nat) (K:Value→Prop) (t:Zk K),j<l.length→xLd ⟨w,true,zz,by'⟩ L h (UN a (j*w)) K t=K (.agg (f (gr z l j)).toArray)) ∧
  (∀(j o:Nat) (K:Value→Prop) (t:Zk K),j<l.length→Zda (.pointer (UN a (j*w))) o K t=K (.pointer (UN a (j*w+o)))) ∧
  (∀(j o:Nat) (K:Option Addr→Prop) (t:Zk K),j<l.length→Znm (.pointer (UN a (j*w+o))) K t=K (UN a (j*w+o))):=by
 have hne:∀j,j<l.length→a≠none:=fun j hj e=>by
  have:=hd.cell (z:=z) hj (m:=0) hw0;rw[e,List.getElem?_eq_getElem (by rw[hd.len];exact hw0)]at this;simp [Yd]at this
 refine⟨fun m c e by' k j K t h0 h1 hm=>?_,fun j K t hj=>Jz (hne j hj) K,fun L j zz by' K t hj=>?_,fun j o K t hj=>J3 (hne j hj) _ _ K,fun j o K t hj=>Jz (hne j hj) K⟩
 ·subst hm;exact Zlm (hne j.toNat (by omega)) e w by' _ c k j h0 h1 K t
 ·rw[Yfd,Zaw w 0 (f (gr z l j)) _ (hd.len _) fun m hm=>by rw[Nat.zero_add];exact hd.cell hj hm]
theorem Zh.fld {a:Option Addr}{n c0:Nat}(z:α)(hd:Zh f w h (.slice a n c0) l){j o:Nat}(hj:j<l.length){u:Value}(ho:(f (gr z l j))[o]?=some u)(L:Own)(K:Value→Prop)(t:Zk K) :
  Jb L h (UN a (j*w+o)) 0 K t=K u:=by
 have hm:o<w:=by
  have:=(List.getElem?_eq_some_iff.1 ho).1
  rwa [hd.len]at this
 exact U0 (by rw[Nat.add_zero,hd.cell (z:=z) hj hm,ho]) K
theorem Zh.pub {o:Option (Nat×Nat)}(hw:∀a,(f a).length=w)(sl:Sl h (ovs o l.length) l.length w (l.flatMap f)):Zh f w h (ovs o l.length) l:=⟨hw,sl⟩
end
open Go.RowKit Go.Bl
abbrev QS:=Value×List Int
def gs (q:List QS)(i:Nat):QS:=q.getD i (.slice none 0 0,[])
def vsL (q:List QS):List Value:=q.map Prod.fst
def xsL (q:List QS):List (List Int):=q.map Prod.snd
theorem Zdr {l:List QS}{i:Nat}(hi:i<l.length):gs l i=l[i]:=by simp [gs,List.getD,hi]
theorem Vk (q:List QS):(xsL q).length=q.length:=by simp [xsL]
structure Zw (h:PH)(v:Value)(q:List QS):Prop where
 s:Sl h v q.length 1 (vsL q)
 d:∀p∈q,Ints h .u8 p.1 p.2
theorem Zw.up {h h':PH}(le:PH.le h h'){v:Value}{l:List QS}(hd:Zw h v l):Zw h' v l:=⟨hd.s.up le,fun q hq=>(hd.d q hq).up le⟩
theorem Zw.at {h:PH}{v:Value}{l:List QS}(hd:Zw h v l){i:Nat}(hi:i<l.length):Ints h .u8 (gs l i).1 (gs l i).2:=by
 rw[Zdr hi];exact hd.d _ (List.getElem_mem hi)
theorem Zw.open {h:PH}{v:Value}{l:List QS}(hd:Zw h v l) :
  ∃a cap,v = .slice a l.length cap∧l.length≤cap∧l.length≤9223372036854775807∧(a=none→cap=0)∧(∀j,j<l.length→Yd h a j=some (gs l j).1)∧Zw h (.slice a l.length cap) l:=by
 obtain⟨h1,a,cap,rfl,h3,h4,h4',h5,h6⟩:=hd.s;exact⟨a,cap,rfl,h3,h4',h5,fun j hj=>h6 j _ (by rw[Zdr hj];simp [vsL,hj]),hd⟩
theorem Yny {l:List QS}{i:Nat}(hi:i<l.length):(xsL l)[i]?=some (gs l i).2:=by rw[Zdr hi];simp [xsL,hi]
theorem Zkx {o:Option (Nat×Nat)}{e sz:Nat}{xs:List Value}{L:Own}{h h':PH}(ha:apO o L h)(ap:Ap (oent e sz o xs L) h'):apO o L h':=by
 cases o with
 | none=>trivial
 | some p=>exact⟨ha.1,ap.1⟩
theorem Ap.oent {o:Option (Nat×Nat)}{e sz:Nat}{xs:List Value}{L:Own}{h:PH}(ap:Ap (oent e sz o xs L) h):Ap L h:=by
 cases o with
 | none=>exact ap
 | some p=>exact ap.2
theorem Ybc {h:PH}{o:Option (Nat×Nat)}{q:List QS}(sl:Sl h (ovs o q.length) q.length 1 (vsL q))(hd:∀p∈q,Ints h .u8 p.1 p.2):Zw h (ovs o q.length) q:=⟨sl,hd⟩
structure Zb where
 bal:Int
 eff:Int
 score:Int
 streak:Int
 owner:Int
 status:Int
def ZQ:Zb:=⟨0,0,0,0,0,0⟩
def Yv (m:Zb):List Value:=[.int .u64 m.bal,.int .u64 m.eff,.int .u64 m.score,.int .i64 m.streak,.int .i64 m.owner,.int .i64 m.status]
structure Zf (m:Zb):Prop where
 u:∀z∈[m.bal,m.eff,m.score],0≤z∧z≤18446744073709551615
 n:∀z∈[m.streak,m.owner,m.status],-9223372036854775808≤z∧z≤9223372036854775807
structure Zo where
 acct:Int
 mem:Int
 amt:Int
 new:Bool
def YT:Zo:=⟨0,0,0,false⟩
def Zaf (d:Zo):List Value:=[.int .i64 d.acct,.int .i64 d.mem,.int .u64 d.amt,.bool d.new]
structure ZL (d:Zo):Prop where
 a:0≤d.amt∧d.amt≤18446744073709551615
 n:∀z∈[d.acct,d.mem],-9223372036854775808≤z∧z≤9223372036854775807
structure Zg where
 acct:Int
 at':Int
 amt:Int
def ZZ:Zg:=⟨0,0,0⟩
def Yz (d:Zg):List Value:=[.int .i64 d.acct,.int .i64 d.at',.int .u64 d.amt]
structure Zs (d:Zg):Prop where
 a:0≤d.amt∧d.amt≤18446744073709551615
 n:∀z∈[d.acct,d.at'],-9223372036854775808≤z∧z≤9223372036854775807
structure Zn where
 acct:Int
 what:Int
 par:Ze
 to:Int
 amt:Int
 ends:Int
 due:Int
 state:Int
 yes:List Int
 no:List Int
def Yc:Zn:=⟨0,0,Zxj,0,0,0,0,0,[],[]⟩
abbrev QM:=Value×Value×Zn
def Z6:QM:=(.slice none 0 0,.slice none 0 0,Yc)
def WE (q:QM):List Value := .int .i64 q.2.2.acct :: .int .i64 q.2.2.what::(Zbs q.2.2.par++[.int .i64 q.2.2.to,.int .u64 q.2.2.amt,.int .i64 q.2.2.ends,.int .i64 q.2.2.due,.int .i64 q.2.2.state,q.1,q.2.1])
structure Yyt (m:Zn):Prop where
 a:0≤m.amt∧m.amt≤18446744073709551615
 n:∀z∈[m.acct,m.what,m.to,m.ends,m.due,m.state],-9223372036854775808≤z∧z≤9223372036854775807
 p:Zj m.par
structure Zu (h:PH)(q:QM):Prop where
 y:Ints h .u8 q.1 q.2.2.yes
 n:Ints h .u8 q.2.1 q.2.2.no
 ok:Yyt q.2.2
theorem Zu.up {h h':PH}(le:PH.le h h'){q:QM}(hd:Zu h q):Zu h' q:=⟨hd.y.up le,hd.n.up le,hd.ok⟩
theorem Yg (m:Zb):(Yv m).length=6:=rfl
theorem V1 (m:Zo):(Zaf m).length=4:=rfl
theorem Yr (m:Zg):(Yz m).length=3:=rfl
theorem Yh (m:QM):(WE m).length=33:=rfl
structure Zd where
 par:Ze
 most:Int
 gen:Int
 mint:Int
 burn:Int
 treas:Int
 ep:Int
 calm:Int
 emer:Bool
 purses:List Int
 members:List Zb
 entry:List Int
 exit:List Int
 pool:List Zo
 dues:List Zg
 motions:List Zn
 marks:List Int
 ring:List (List Int)
def Zbq:Zd:=⟨Zxj,0,0,0,0,0,0,0,false,[],[],[],[],[],[],[],[],[]⟩
structure SV where
 p:Value
 m:Value
 e:Value
 x:Value
 o:Value
 d:Value
 t:Value
 k:Value
 r:Value
def Zzy:SV:=⟨.slice none 0 0,.slice none 0 0,.slice none 0 0,.slice none 0 0,.slice none 0 0,.slice none 0 0,.slice none 0 0,.slice none 0 0,.slice none 0 0⟩
abbrev stC (s:Zd)(v:SV):List Value:=[.int .u64 s.par.inc,.int .u64 s.par.maxEff,.int .u64 s.par.floor,.int .u64 s.par.cap,.int .u64 s.par.up,.int .u64 s.par.down,.int .u64 s.par.bias,.int .u64 s.par.quot,.int .u64 s.par.biasEm,.int .u64 s.par.quotEm,.int .u64 s.par.recover,.int .u64 s.par.scoreCap,.int .u64 s.par.rate,.int .u64 s.par.bond,.int .i64 s.par.delay,.int .i64 s.par.streak,.int .i64 s.par.boost,.int .i64 s.par.absent,.int .i64 s.par.burn,.int .i64 s.par.churn,.int .i64 s.par.wait,.int .i64 s.par.poll,.int .i64 s.par.enact,.int .i64 s.par.quorum,
 .int .u64 s.most,.int .u64 s.gen,.int .u64 s.mint,.int .u64 s.burn,.int .u64 s.treas,.int .i64 s.ep,.int .i64 s.calm,.bool s.emer,v.p,v.m,v.e,v.x,v.o,v.d,v.t,v.k,v.r]
abbrev stV (s:Zd)(v:SV):Value := .agg #[.int .u64 s.par.inc,.int .u64 s.par.maxEff,.int .u64 s.par.floor,.int .u64 s.par.cap,.int .u64 s.par.up,.int .u64 s.par.down,.int .u64 s.par.bias,.int .u64 s.par.quot,.int .u64 s.par.biasEm,.int .u64 s.par.quotEm,.int .u64 s.par.recover,.int .u64 s.par.scoreCap,.int .u64 s.par.rate,.int .u64 s.par.bond,.int .i64 s.par.delay,.int .i64 s.par.streak,.int .i64 s.par.boost,.int .i64 s.par.absent,.int .i64 s.par.burn,.int .i64 s.par.churn,.int .i64 s.par.wait,.int .i64 s.par.poll,.int .i64 s.par.enact,.int .i64 s.par.quorum,
 .int .u64 s.most,.int .u64 s.gen,.int .u64 s.mint,.int .u64 s.burn,.int .u64 s.treas,.int .i64 s.ep,.int .i64 s.calm,.bool s.emer,v.p,v.m,v.e,v.x,v.o,v.d,v.t,v.k,v.r]
structure ZA (s:Zd):Prop where
 p:Zj s.par
 u:∀z∈[s.most,s.gen,s.mint,s.burn,s.treas],0≤z∧z≤18446744073709551615
 n:∀z∈[s.ep,s.calm],-9223372036854775808≤z∧z≤9223372036854775807
structure Zr (h:PH)(v:SV)(s:Zd):Prop where
 ok:ZA s
 p:Ints h .u64 v.p s.purses
 m:Zh Yv 6 h v.m s.members
 mo:∀x∈s.members,Zf x
 e:Ints h .i64 v.e s.entry
 x:Ints h .i64 v.x s.exit
 o:Zh Zaf 4 h v.o s.pool
 oo:∀x∈s.pool,ZL x
 d:Zh Yz 3 h v.d s.dues
 dd:∀x∈s.dues,Zs x
 t:∃q:List QM,Zh WE 33 h v.t q∧q.map (fun x=>x.2.2)=s.motions∧∀x∈q,Zu h x
 k:Ints h .u8 v.k s.marks
 r:∃q,Zw h v.r q∧xsL q=s.ring
theorem Zr.up {h h':PH}(le:PH.le h h'){v:SV}{s:Zd}(hs:Zr h v s):Zr h' v s:=by
 obtain⟨q,t1,t2,t3⟩:=hs.t;obtain⟨r,r1,r2⟩:=hs.r;exact⟨hs.ok,hs.p.up le,hs.m.up le,hs.mo,hs.e.up le,hs.x.up le,hs.o.up le,hs.oo,hs.d.up le,hs.dd,⟨q,t1.up le,t2,fun x hx=>(t3 x hx).up le⟩,hs.k.up le,⟨r,r1.up le,r2⟩⟩
theorem Ybp (h:PH):Zw h (.slice none 0 0) []:=⟨⟨rfl,none,0,rfl,Nat.le_refl _,by decide,by decide,fun _=>rfl,fun j c hj=>by simp [vsL]at hj⟩,fun q hq=>by cases hq⟩
end Go.X

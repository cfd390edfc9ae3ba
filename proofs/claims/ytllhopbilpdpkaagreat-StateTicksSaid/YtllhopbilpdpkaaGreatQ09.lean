/- Lemmas and contracts. Conditions: as each says. -/
import Derived.Test.YtllhopbilpdpkaaGreatQ04
set_option linter.unusedVariables false
set_option linter.unusedSimpArgs false
set_option maxHeartbeats 12800000
set_option maxRecDepth 20000
namespace Go.X
open Go.RowKit Go.Bl
variable {P:Program}
def Zsg (k:IntKind)(es:List (Int×Value)):List Value:=es.map fun e=>Value.tuple #[.int k e.1,e.2]
def Ycr:List (Int×Value)->Int->Option Value
 | [],_=>none
 | e::es,n=>if n=e.1 then some e.2 else Ycr es n
def Ydz:List (Int×Value)->Int->Value->List (Int×Value)
 | [],n,v=>[(n,v)]
 | e::es,n,v=>if n=e.1 then (e.1,v)::es else e::Ydz es n v
def Ztw:List (Int×Value)->Int->Nat->Option (Nat×Value)
 | [],_,_=>none
 | e::es,n,i=>if n=e.1 then some (i,e.2) else Ztw es n (i+1)
theorem Zox:∀ (es:List (Int×Value))(n:Int)(i:Nat),(Ztw es n i).map Prod.snd=Ycr es n
 | [],_,_=>rfl
 | e::es,n,i=>by
  simp only[Ztw,Ycr];split
  ·rfl
  ·exact Zox es n (i+1)
theorem Zdr {k:IntKind}{T:TypeDesc}(hT:T = .int k)(n:Int):∀(l:List MapEntry) (es:List (Int×Value)) (i:Nat),l.map (fun x=>Value.tuple #[x.key,x.val])=Zsg k es->Instr.findNow T (.int k n) l i=some (Ztw es n i)
 | [],[],i,_=>rfl
 | [],_::_,i,h=>by simp [Zsg]at h
 | _::_,[],i,h=>by simp [Zsg]at h
 | x::l,e::es,i,h=>by
  simp only[Zsg,List.map_cons,List.cons.injEq,Value.tuple.injEq]at h;obtain⟨h1,h2⟩:=h;have hk:x.key = .int k e.1:=by have:=congrArg (fun a:Array Value=>a[0]?) h1;simpa using this
  have hv:x.val=e.2:=by have:=congrArg (fun a:Array Value=>a[1]?) h1;simpa using this
  subst hT;simp only[Instr.findNow,Instr.sameNow,hk,Ztw,hv,if_true];by_cases c:n=e.1
  ·simp [c]
  ·have:(n == e.1)=false:=by simpa using c
   rw[this,if_neg c];exact Zdr rfl n l es (i+1) h2
theorem U9 {kt:TypeId}{k:IntKind}(hk:P.underlying kt=some (.int k))(em:Bool)(n:Int)(W:World):(Instr.checkKey em 10000 kt (.int k n)).run P W = .ok () W:=by
 rw[show (10000:Nat)=9999+1 by rfl,Instr.checkKey];simp [run_underlying hk]
theorem Jt {kt:TypeId}{k:IntKind}(hk:P.underlying kt=some (.int k))(n:Int)(l:List MapEntry)(es:List (Int×Value))(hl:l.map (fun x=>Value.tuple #[x.key,x.val])=Zsg k es)(W:World) :
  (Instr.findKey kt (.int k n) l).run P W = .ok (Ztw es n 0) W:=by
 simp [Instr.findKey,run_underlying hk,Zdr rfl n l es 0 hl]
theorem JP {W:World}{b:Nat}{es:Array MapEntry}{ck:Nat}(h:W.heap[b]?=some (.map es ck)):(getObj b).run P W = .ok (.map es ck) W:=by simp [getObj,Sem.run,h]
theorem Zad {W:World}{b:Nat}{es:Array MapEntry}{ck:Nat}(o:Obj)(h:W.heap[b]?=some (.map es ck)):(setObj b o).run P W = .ok () { W with heap:=W.heap.setIfInBounds b o }:=by simp [setObj,Sem.run,h]
theorem Zhz {L:Own}{h:PH}{W:World}(hg:Zo L h W){b:Nat}{cs:List Value}(hm:(⟨b,4294967295,cs,0⟩:Zn)∈L):∃es ck,W.heap[b]?=some (.map es ck)/\es.toList.map (fun x=>Value.tuple #[x.key,x.val])=cs:=(hg.own _ hm).map rfl
theorem Zyi {T kt et:TypeId}{k:IntKind}{z:Value}(hT:P.underlying T=some (.map kt et))(hk:P.underlying kt=some (.int k))(hz3:∀W,(zeroValue et:Sem Value).run P W = .ok z W)
  {L:Own} {h:PH} {K:Value->Prop} {b:Nat} {n:Int} {ok:Bool} (es:List (Int×Value)) (hm:(⟨b,4294967295,Zsg k es,0⟩:Zn)∈L)
  (hK:K (if ok then .tuple #[(Ycr es n).getD z,.bool (Ycr es n).isSome] else (Ycr es n).getD z)):Yeb P (Instr.lookup T (.map (some b)) (.int k n) ok) L h K:=by
 refine⟨_,fun W hg=>?_,hK⟩;obtain⟨ms,ck,h1,h2⟩:=Zhz hg hm;have hf:=Jt (P:=P) hk n ms.toList es h2 W;have hc:=U9 (P:=P) hk ms.isEmpty n W;have hz':=hz3 W;rw[<- Zox es n 0];simp only[Instr.lookup,Sem.run_bind,run_underlying hT,Result.andThen_ok,JP h1,hc,hf]
 cases hi:Ztw es n 0 with
 | none=>cases ok<;>simp [hz',hc,hf,hi]
 | some p=>cases ok<;>simp [hc,hf,hi]
theorem Zjz:∀ (es:List (Int×Value))(n:Int)(j:Nat)(p:Nat×Value),Ztw es n j=some p->∃i,p.1=j+i/\es[i]?=some (n,p.2)/\∀v,Ydz es n v=es.set i (n,v)
 | [],_,_,_,h=>qL
 | e::es,n,j,p,h=>by
  simp only[Ztw]at h;split at h
  ·rename_i c;injection h with h
   subst h;exact⟨0,rfl,by simp [c],fun v=>by simp [Ydz,c]⟩
  ·rename_i c;obtain⟨i,h1,h2,h3⟩:=Zjz es n (j+1) p h;exact⟨i+1,qf,by simpa using h2,fun v=>by simp [Ydz,c,h3]⟩
theorem Zkq:∀ (es:List (Int×Value))(n:Int)(j:Nat),Ztw es n j=none->∀v,Ydz es n v=es++[(n,v)]
 | [],_,_,_,v=>rfl
 | e::es,n,j,h,v=>by
  simp only[Ztw]at h;split at h
  ·cases h
  ·rename_i c;simp [Ydz,c,Zkq es n (j+1) h v]
theorem Zhd {L1 L2:Own}{h:PH}{W:World}{b:Nat}{cs cs':List Value}{es es':Array MapEntry}{ck ck':Nat}(hg:Zo (L1++⟨b,4294967295,cs,0⟩::L2) h W)(h1:W.heap[b]?=some (.map es ck))(h2:es'.toList.map (fun x=>Value.tuple #[x.key,x.val])=cs') :
  Step (L1++⟨b,4294967295,cs,0⟩::L2) W (L1++⟨b,4294967295,cs',0⟩::L2) h { W with heap:=W.heap.setIfInBounds b (.map es' ck') }:=by
 have hb:b<W.heap.size:=by
  rcases Nat.lt_or_ge b W.heap.size with h3|h3
  ·exact h3
  ·rw[Array.getElem?_eq_none h3]at h1;cases h1
 have hnc:h b=noC:=hg.apart ⟨b,4294967295,cs,0⟩ qj;have hnd:=hg.nodup;simp only[List.map_append,List.map_cons]at hnd;have hnd2:=List.nodup_append.1 hnd;have hnd3:=List.nodup_cons.1 hnd2.2.1;have hne:∀e∈L1++L2,e.b≠b:=fun e he hbe=>by
  rcases List.mem_append.1 he with he|he
  ·exact hnd2.2.2 e.b (List.mem_map_of_mem he) b qj hbe
  ·exact hnd3.1 (by rw[<- hbe];exact List.mem_map_of_mem he)
 have oth:∀x,x≠b->(W.heap.setIfInBounds b (.map es' ck'))[x]?=W.heap[x]?:=fun x hx=>Array.getElem?_setIfInBounds_ne (Ne.symm hx);have hin:∀x:Zn,x∈L1++L2->x∈L1++(⟨b,4294967295,cs,0⟩:Zn)::L2:=fun x hx=>by
  rcases List.mem_append.1 hx with hx|hx
  ·exact List.mem_append.2 (Or.inl hx)
  ·exact List.mem_append.2 (Or.inr (List.mem_cons_of_mem _ hx))
 have hcase:∀x:Zn,x∈L1++(⟨b,4294967295,cs',0⟩:Zn)::L2->x=⟨b,4294967295,cs',0⟩\/x∈L1++L2:=fun x hx=>by
  rcases List.mem_append.1 hx with hx|hx
  ·exact Or.inr (List.mem_append.2 (Or.inl hx))
  ·rcases List.mem_cons.1 hx with hx|hx
   ·exact Or.inl hx
   ·exact Or.inr (List.mem_append.2 (Or.inr hx))
 refine⟨⟨fun b' o v hv=>?_,fun e he=>?_,?_,fun e he=>?_⟩,⟨rfl,rfl,rfl,qj,fun k hk hM=>?_⟩,fun e he=>?_⟩
 ·have hbb:b'≠b:=fun e=>by rw[e,hnc]at hv;cases hv
  have:=hg.sub b' o v hv;simp only[World.cell?]at this ⊢;rw[oth b' hbb];exact this
 ·rcases hcase e he with rfl|he
  ·refine .mkMap rfl ⟨es',ck',?_,h2⟩;simp [hb]
  ·show BlkIs e (W.heap.setIfInBounds b (.map es' ck'))[e.b]?;rw[oth _ (hne e he)];exact hg.own e (hin e he)
 ·simp only[List.map_append,List.map_cons];exact hnd
 ·rcases hcase e he with rfl|he
  ·exact hnc
  ·exact hg.apart e (hin e he)
 ·exact oth k fun e=>hM (by rw[e];simp)
 ·refine Or.inl ?_;rcases hcase e he with rfl|he
  ·simp
  ·exact List.mem_map_of_mem (hin e he)
theorem Yad {T kt et:TypeId}{k:IntKind}(hT:P.underlying T=some (.map kt et))(hk:P.underlying kt=some (.int k)){h:PH}{K:Own->PH->Prop}{b:Nat}{n:Int}{v:Value}(L1 L2:Own)(es:List (Int×Value))
  (hK:K (L1++⟨b,4294967295,Zsg k (Ydz es n v),0⟩::L2) h):xDo P (Instr.mapUpdate T (.map (some b)) (.int k n) v) (L1++⟨b,4294967295,Zsg k es,0⟩::L2) h K:=by
 intro W hg;obtain⟨ms,ck,h1,h2⟩:=Zhz hg (b:=b) (cs:=Zsg k es) qj;have hf:=Jt (P:=P) hk n ms.toList es h2 W;have hc:=U9 (P:=P) hk false n W
 have hstart:(Instr.mapUpdate T (.map (some b)) (.int k n) v).run P W=((match Ztw es n 0 with
   | some (i,_)=>do
    let key <- Instr.keyThatStays (((ms[i]?).map (·.key)).getD (.int k n)) (.int k n)
    setObj b (.map (ms.modify i fun e=>{ e with key,val:=v }) ck)
   | none=>setObj b (.map (ms.push { key := .int k n,val:=v,born:=ck }) (ck+1))):Sem Unit).run P W:=by
  simp only[Instr.mapUpdate,Sem.run_bind,run_underlying hT,Result.andThen_ok,JP h1,hc,hf]
  rfl
 cases hi:Ztw es n 0 with
 | none =>
  rw[hi]at hstart;refine⟨_,h,_,hstart.trans (Zad _ h1),hK,Zhd hg h1 ?_⟩;rw[Zkq es n 0 hi v];simp [Zsg,h2]
 | some p =>
  obtain⟨i,v0⟩:=p;rw[hi]at hstart;obtain⟨i',e1,e2,e3⟩:=Zjz es n 0 (i,v0) hi;simp only[Nat.zero_add]at e1 e2;subst e1;have hm:ms.toList[i]?.map (fun x=>Value.tuple #[x.key,x.val])=some (.tuple #[.int k n,v0]):=by
   rw[<- List.getElem?_map,h2,Zsg,List.getElem?_map,e2];rfl
  obtain⟨x,hx,hxe⟩:=Option.map_eq_some_iff.1 hm;have hkey:x.key = .int k n:=by
   injection hxe with hxe
   have:=congrArg (fun a:Array Value=>a[0]?) hxe
   simpa using this
  have hx':ms[i]?=some x:=by simpa using hx
  have hst:(Instr.keyThatStays (((ms[i]?).map (·.key)).getD (.int k n)) (.int k n)).run P W = .ok (.int k n) W:=by
   rw[hx'];simp [Instr.keyThatStays,hkey,Instr.sameBits]
  refine⟨_,h,_,hstart.trans ?_,hK,Zhd (es':=ms.modify i fun e=>{ e with key := .int k n,val:=v }) (ck':=ck) hg h1 ?_⟩
  ·simp only[Sem.run_bind,hst,Result.andThen_ok];exact Zad _ h1
  ·rw[e3 v];apply List.ext_getElem?;intro j;rw[List.getElem?_map];simp only[Zsg,List.map_set,List.getElem?_set];have hj:(ms.toList[j]?).map (fun x=>Value.tuple #[x.key,x.val])=(es.map fun e=>Value.tuple #[.int k e.1,e.2])[j]?:=by
    rw[<- List.getElem?_map,h2];rfl
   by_cases c:i=j
   ·subst c;have hlt:i<es.length:=(List.getElem?_eq_some_iff.1 e2).1;simp [Array.getElem?_modify,hx',hlt]
   ·simp only[Array.getElem?_toList,Array.getElem?_modify,c,if_false]at hj ⊢;exact hj
theorem J9 {L:Own}{h:PH}{a:Option Addr}{i:Nat}:∀(n j:Nat) (cs:List Value) (K:List Value->Prop),cs.length=n->(∀m,m<n->Z9 h a (i+(j+m))=cs[m]?)->GK L h (UI a i) j n K=K cs
 | 0,j,cs,K,hl,_=>by
  have:cs=[]:=List.eq_nil_of_length_eq_zero hl;subst this
  rfl
 | n+1,j,[],K,hl,_=>by simp at hl
 | n+1,j,c::cs,K,hl,hc=>by
  have h0:=hc 0 qf;simp only[Nat.add_zero,List.getElem?_cons_zero]at h0;rw[Zml,Zai h0]
  rw[J9 n (j+1) cs (fun vs=>K (c::vs)) (by simpa using hl) fun m hm=>by
   have:=hc (m+1) qf;rw[show i+(j+1+m)=i+(j+(m+1)) from qf,this]
   simp]
def kV (ks:List IntKind)(n:List Int):Value := .agg (List.zipWith Value.int ks n).toArray
def Zvb (ks:List IntKind)(es:List (List Int×Value)):List Value:=es.map fun e=>Value.tuple #[kV ks e.1,e.2]
def Zqz:List (List Int×Value)->List Int->Option Value
 | [],_=>none
 | e::es,n=>if n=e.1 then some e.2 else Zqz es n
def Ybv:List (List Int×Value)->List Int->Nat->Option (Nat×Value)
 | [],_,_=>none
 | e::es,n,i=>if n=e.1 then some (i,e.2) else Ybv es n (i+1)
theorem Zhx:∀ (es:List (List Int×Value))(n:List Int)(i:Nat),(Ybv es n i).map Prod.snd=Zqz es n
 | [],_,_=>rfl
 | e::es,n,i=>by
  simp only[Ybv,Zqz];split
  ·rfl
  ·exact Zhx es n (i+1)
theorem Jl {α:Type}{W:World}{body:α->PUnit->Sem (ForInStep PUnit)}:∀(l:List α),(∀f∈l,∀u,(body f u).run P W = .ok (.yield ⟨⟩) W)->(forIn l PUnit.unit body).run P W = .ok ⟨⟩ W
 | [],_=>rfl
 | f::l,hl=>by
  rw[List.forIn_cons,Sem.run_bind,hl f qj _];exact Jl l fun g hg=>hl g (by simp [hg])
theorem Zvz:∀ (fs:List Field)(i:Nat)(ks:List IntKind)(az:List Int)(xs:Array Value),okF P fs i ks=true->az.length=ks.length->(∀j:Nat,xs[i+j]?=(List.zipWith Value.int ks az)[j]?) ->
  ∀ f ∈ fs, f.name ≠ "_" ∧ ∃ k a, P.underlying f.type = some (.int k) ∧ xs[f.offset]? = some (.int k a)
 | [],_,_,_,_,_,_,_,f,hf=>by cases hf
 | _::_,_,[],_,_,h,_,_,_,_=>by simp [okF]at h
 | _::_,_,_::_,[],_,_,ha,_,_,_=>by simp at ha
 | g::fs,i,k::ks,a::az,xs,h,ha,hx,f,hf=>by
  simp only[okF,Bool.and_eq_true,decide_eq_true_eq,beq_iff_eq]at h;obtain⟨⟨⟨h1,h2⟩,h3⟩,h4⟩:=h;rcases List.mem_cons.1 hf with rfl|hf
  ·refine⟨h1,?_⟩
   cases hu:P.underlying f.type with
   | none=>rw[hu]at h3;cases h3
   | some u =>
    rw[hu]at h3
    cases u<;>try (cases h3)
    rename_i k';have hk:k'=k:=by simpa using h3
    subst hk;have hx0:=hx 0;simp only[Nat.add_zero,List.zipWith_cons_cons,List.getElem?_cons_zero]at hx0;exact⟨k',a,rfl,by rw[h2];exact hx0⟩
  ·exact Zvz fs (i+1) ks az xs h4 qP (fun j=>by have:=hx (j+1);rw[show i+1+j=i+(j+1) from qf];simpa using this) f hf
theorem UE {T:Nat}{ks:List IntKind}(ht:P.underlying T=some (.struct (P.fieldsOf T)))(hok:okF P (P.fieldsOf T).toList 0 ks=true)(az:List Int)(ha:az.length=ks.length)(em:Bool)(W:World) :
  (Instr.checkKey em 10000 T (kV ks az)).run P W = .ok () W:=by
 have hm:=Zvz (P:=P) (P.fieldsOf T).toList 0 ks az (List.zipWith Value.int ks az).toArray hok ha (fun j=>qj);rw[show (10000:Nat)=9999+1 by rfl,Instr.checkKey,kV];simp only[Sem.run_bind,run_underlying ht,Result.andThen_ok,<- Array.forIn_toList];rw[Jl]
 ·rfl
 ·intro f hf u;obtain⟨h1,k,a,h2,h3⟩:=hm f hf;have hag:(isAgg f.type).run P W = .ok false W:=Jp h2 W;have px:(part f.type (List.zipWith Value.int ks az).toArray f.offset).run P W = .ok (.int k a) W:=by simp only[part,Sem.run_bind,hag,Result.andThen_ok];simp [h3]
  have hc:(Instr.checkKey em 9999 f.type (.int k a)).run P W = .ok () W:=by
   rw[show (9999:Nat)=9998+1 by rfl,Instr.checkKey];simp [run_underlying h2]
  simp only[ne_eq,h1,not_false_eq_true,if_true,Sem.run_bind,px,Result.andThen_ok,hc]
  rfl
structure Yyt (P:Program)(kt:TypeId)(ks:List IntKind):Prop where
 u:P.underlying kt=some (.struct (P.fieldsOf kt))
 s:P.stoodInHeld kt=false
 ok:okF P (P.fieldsOf kt).toList 0 ks=true
theorem U8 {kt:TypeId}{ks:List IntKind}(hk:Yyt P kt ks)(n:List Int)(hn:n.length=ks.length)(W:World):∀(l:List MapEntry) (es:List (List Int×Value)) (i:Nat),(∀e∈es,e.1.length=ks.length) ->
  l.map (fun x=>Value.tuple #[x.key,x.val])=Zvb ks es->(Instr.findAsking kt (kV ks n) l i).run P W = .ok (Ybv es n i) W
 | [],[],i,_,_=>by simp [Instr.findAsking,Ybv]
 | [],_::_,i,_,h=>by simp [Zvb]at h
 | _::_,[],i,_,h=>by simp [Zvb]at h
 | x::l,e::es,i,hl,h=>by
  simp only[Zvb,List.map_cons,List.cons.injEq,Value.tuple.injEq]at h;obtain⟨h1,h2⟩:=h;have hkey:x.key=kV ks e.1:=by have:=congrArg (fun a:Array Value=>a[0]?) h1;simpa using this
  have hv:x.val=e.2:=by have:=congrArg (fun a:Array Value=>a[1]?) h1;simpa using this
  have he:(Op.equal kt (kV ks n) x.key).run P W = .ok (decide (n=e.1)) W:=by
   rw[hkey];exact Ge hk.u hk.s hk.ok n e.1 hn (hl e qj) W
  have ih:=U8 hk n hn W l es (i+1) (fun y hy=>hl y (by simp [hy])) h2;by_cases c:n=e.1
  ·rw[decide_eq_true c]at he;simp only[Instr.findAsking,Sem.run_bind,he,Result.andThen_ok,if_true,Sem.run_pure,hv,Ybv,if_pos c]
  ·rw[decide_eq_false c]at he;simp only[Instr.findAsking,Sem.run_bind,he,Result.andThen_ok,Bool.false_eq_true,if_false,Ybv,if_neg c];exact ih
theorem GI {kt:TypeId}{ks:List IntKind}(hk:Yyt P kt ks)(n:List Int)(hn:n.length=ks.length)(l:List MapEntry)(es:List (List Int×Value))(he:∀e∈es,e.1.length=ks.length)(hl:l.map (fun x=>Value.tuple #[x.key,x.val])=Zvb ks es)(W:World) :
  (Instr.findKey kt (kV ks n) l).run P W = .ok (Ybv es n 0) W:=by
 have ha:=U8 hk n hn W l es 0 he hl
 cases l with
 | nil =>
  cases es with
  | nil=>simp [Instr.findKey,run_underlying hk.u,Instr.findNow,Ybv]
  | cons _ _=>simp [Zvb]at hl
 | cons x l=>simp only[Instr.findKey,Sem.run_bind,run_underlying hk.u,Result.andThen_ok,Instr.findNow,Instr.sameNow,kV]at ha ⊢;exact ha
theorem Zyz {T kt et:TypeId}{ks:List IntKind}{z:Value}(hT:P.underlying T=some (.map kt et))(hk:Yyt P kt ks)(hz3:∀W,(zeroValue et:Sem Value).run P W = .ok z W)
  {L:Own} {h:PH} {K:Value->Prop} {b:Nat} {n:List Int} (hn:n.length=ks.length) {ok:Bool} (es:List (List Int×Value)) (he:∀e∈es,e.1.length=ks.length) (hm:(⟨b,4294967295,Zvb ks es,0⟩:Zn)∈L)
  (hK:K (if ok then .tuple #[(Zqz es n).getD z,.bool (Zqz es n).isSome] else (Zqz es n).getD z)):Yeb P (Instr.lookup T (.map (some b)) (kV ks n) ok) L h K:=by
 refine⟨_,fun W hg=>?_,hK⟩;obtain⟨ms,ck,h1,h2⟩:=Zhz hg hm;have hf:=GI (P:=P) hk n hn ms.toList es he h2 W;have hc:=UE (P:=P) hk.u hk.ok n hn ms.isEmpty W;have hz':=hz3 W;rw[<- Zhx es n 0];simp only[Instr.lookup,Sem.run_bind,run_underlying hT,Result.andThen_ok,JP h1,hc,hf]
 cases hi:Ybv es n 0 with
 | none=>cases ok<;>simp [hz',hc,hf,hi]
 | some p=>cases ok<;>simp [hc,hf,hi]
theorem Zip {T kt et:TypeId}{ks:List IntKind}(hT:P.underlying T=some (.map kt et))(hk:Yyt P kt ks){h:PH}{K:Own->PH->Prop}{b:Nat}{n:List Int}(hn:n.length=ks.length){v:Value}(L1 L2:Own)(es:List (List Int×Value))(he:∀e∈es,e.1.length=ks.length)(hno:Zqz es n=none)
  (hK:K (L1++⟨b,4294967295,Zvb ks (es++[(n,v)]),0⟩::L2) h):xDo P (Instr.mapUpdate T (.map (some b)) (kV ks n) v) (L1++⟨b,4294967295,Zvb ks es,0⟩::L2) h K:=by
 intro W hg;obtain⟨ms,ck,h1,h2⟩:=Zhz hg (b:=b) (cs:=Zvb ks es) qj;have hf:=GI (P:=P) hk n hn ms.toList es he h2 W;have hc:=UE (P:=P) hk.u hk.ok n hn false W;have hi:Ybv es n 0=none:=by
  have:=Zhx es n 0;rw[hno]at this
  simpa using this
 rw[hi]at hf;have hstart:(Instr.mapUpdate T (.map (some b)) (kV ks n) v).run P W=(setObj b (.map (ms.push { key:=kV ks n,val:=v,born:=ck }) (ck+1)):Sem Unit).run P W:=by
  simp only[Instr.mapUpdate,Sem.run_bind,run_underlying hT,Result.andThen_ok,JP h1,hc,hf]
 refine⟨_,h,_,hstart.trans (Zad _ h1),hK,Zhd hg h1 ?_⟩;simp only[Array.toList_push,List.map_append,h2,Zvb]
 rfl
section
variable {P:Program}
def Ygl (P:Program)(t:TypeId)(xs:Array Value)(off:Nat):Option Value :=
 match P.underlying t,P.info? t with
 | some d,some i=>if Zgg d then some (.agg (xs.extract off (off+i.size))) else xs[off]?
 | _,_=>none
theorem Zzm {t:TypeId}{xs:Array Value}{off:Nat}{u:Value}(h:Ygl P t xs off=some u)(W:World):(part t xs off).run P W = .ok u W:=by
 unfold Ygl at h;split at h
 ·rename_i d i hd hi;have ha:=Jp hd W;have hs:=YW hi W;split at h
  ·rename_i hag;injection h with h
   subst h;simp [part,ha,hag,hs]
  ·rename_i hag;have hag':Zgg d=false:=by simpa using hag
   simp [part,ha,hag',h]
 ·cases h
def Zrt (P:Program):Nat->TypeId->Value->Bool
 | 0,_,_=>false
 | d+1,t,v=>match P.underlying t,v with
  | some .bool,.bool _=>true
  | some (.int k),.int k' _=>k == k'
  | some (.struct fs), .agg xs => !P.stoodInHeld t && fs.toList.all fun f => f.name == "_" || (match Ygl P f.type xs f.offset with
   | some u=>Zrt P d f.type u
   | none=>false)
  | _,_=>false
theorem Zcs:∀ (d:Nat)(t:TypeId)(v:Value),Zrt P d t v=true->∀(D:Nat)(W:World),(Op.equalIn (D+d) t v v).run P W = .ok true W
 | 0,_,_,h,_,_=>qL
 | d+1,t,v,h,D,W=>by
  unfold Zrt at h;split at h
  ·rename_i hu;rw[<- Nat.add_assoc,Op.equalIn];simp [underlying,hu]
  ·rename_i k k' n hu;have:k=k':=by simpa using h
   subst this;rw[<- Nat.add_assoc];rw[run_equalIn_int W (D+d) t k k n n hu];simp
  ·rename_i fs xs hu;simp only[Bool.and_eq_true,Bool.not_eq_true']at h;have hf:P.fieldsOf t=fs:=by simp [Program.fieldsOf,hu]
   rw[<- Nat.add_assoc,run_equalIn_struct W (D+d) t xs xs (by rw[hf];exact hu) h.1,hf]
   have key : ∀ l : List Field, (l.all fun f => f.name == "_" || (match Ygl P f.type xs f.offset with
     | some u=>Zrt P d f.type u
     | none=>false))=true->(Op.eqFields (D+d) xs xs l).run P W = .ok true W:=by
    intro l
    induction l with
    | nil=>intro _;simp [Op.eqFields]
    | cons f l ih =>
     intro hl;rw[List.all_cons, Bool.and_eq_true]at hl;by_cases hn : f.name = "_"
     ·rw[Op.eqFields,if_neg (by simpa using hn)];exact ih hl.2
     ·have h1:=hl.1;have : (f.name == "_") = false := by simpa using hn
      rw[this,Bool.false_or]at h1;split at h1
      ·rename_i u hp;have hr:=Zzm hp W;have he:=Zcs d f.type u h1 D W;rw[Op.eqFields,if_pos hn];simp [hr,he,ih hl.2]
      ·cases h1
   exact key _ h.2
  ·cases h
theorem Zlv {T:TypeId}(xs:Array Value)(hf:Zrt P 8 T (.agg xs)=true)(hg:P.eqGuardType P.depth T=false)(x y:Operand)(K:Value->Prop)(t:Zm K):VO P .eql T x y (.agg xs) (.agg xs) K t=K (.bool true) :=
 Yw (fun W=>by
  simp only[Sem.run_bind,run_eqGuard_agg W .eql T x y _ _ hg,Result.andThen_ok,run_eql_struct,Zcs 8 T (.agg xs) hf 9992 W]) K
theorem UT {T:TypeId}(xs:Array Value)(hf:Zrt P 8 T (.agg xs)=true)(hg:P.eqGuardType P.depth T=false)(x y:Operand)(K:Value->Prop)(t:Zm K):VO P .neq T x y (.agg xs) (.agg xs) K t=K (.bool false) :=
 Yw (fun W=>by
  simp only[Sem.run_bind,run_eqGuard_agg W .neq T x y _ _ hg,Result.andThen_ok,run_neq_struct,Zcs 8 T (.agg xs) hf 9992 W,Bool.not_true]) K
end
abbrev WS (p:Ze):Value := .agg #[.int .u64 p.inc,.int .u64 p.aF,.int .u64 p.floor,.int .u64 p.cap,.int .u64 p.up,.int .u64 p.down,.int .u64 p.aP,.int .u64 p.aQ,.int .u64 p.aO,.int .u64 p.aH,.int .u64 p.recover,.int .u64 p.aA,.int .u64 p.rate,.int .u64 p.aX,.int .i64 p.delay,.int .i64 p.ak,.int .i64 p.aS,.int .i64 p.aJ,.int .i64 p.aG,.int .i64 p.aK,.int .i64 p.wait,.int .i64 p.aW,.int .i64 p.aN,.int .i64 p.aI]
abbrev Jj (p:Ze):List Value:=[.int .u64 p.inc,.int .u64 p.aF,.int .u64 p.floor,.int .u64 p.cap,.int .u64 p.up,.int .u64 p.down,.int .u64 p.aP,.int .u64 p.aQ,.int .u64 p.aO,.int .u64 p.aH,.int .u64 p.recover,.int .u64 p.aA,.int .u64 p.rate,.int .u64 p.aX,.int .i64 p.delay,.int .i64 p.ak,.int .i64 p.aS,.int .i64 p.aJ,.int .i64 p.aG,.int .i64 p.aK,.int .i64 p.wait,.int .i64 p.aW,.int .i64 p.aN,.int .i64 p.aI]
theorem UG {α β:Type}{f:α->List β}{k:Nat}(hf:∀a,(f a).length=k):∀(l:List α) (i m:Nat),m<k->(l.flatMap f)[i*k+m]?=(l[i]?).bind fun a=>(f a)[m]?
 | [],i,m,_=>qj
 | a::l,0,m,hm=>by
  rw[List.flatMap_cons,List.getElem?_append_left (by rw[hf];omega)];simp
 | a::l,i+1,m,hm=>by
  have e:(i+1)*k+m=k+(i*k+m):=by rw[Nat.add_mul];omega
  rw[List.flatMap_cons,List.getElem?_append_right (by rw[hf,e];omega),hf,e,Nat.add_sub_cancel_left,UG hf l i m hm];simp
theorem Z1 {α β:Type}{f:α->List β}{k:Nat}(hf:∀a,(f a).length=k):∀(l:List α),(l.flatMap f).length=l.length*k
 | []=>qj
 | a::l=>by rw[List.flatMap_cons,List.length_append,hf,Z1 hf l,List.length_cons,Nat.add_mul];omega
def gr {α:Type}(z:α)(l:List α)(i:Nat):α:=l.getD i z
theorem Ye {α:Type}{z:α}{l:List α}{i:Nat}(hi:i<l.length):gr z l i=l[i]:=by simp [gr,List.getD,hi]
structure Zd {α:Type}(f:α->List Value)(w:Nat)(h:PH)(v:Value)(l:List α):Prop where
 len:∀a,(f a).length=w
 s:Sl h v l.length w (l.flatMap f)
section
variable {α:Type} {f:α->List Value} {w:Nat} {h:PH} {v:Value} {l:List α}
theorem Zd.up {h':PH}(le:PH.le h h')(hd:Zd f w h v l):Zd f w h' v l:=⟨hd.len,hd.s.up le⟩
theorem Zd.nil (hw:∀a,(f a).length=w)(h:PH):Zd f w h (.slice none 0 0) []:=⟨hw,⟨qj,none,0,rfl,Nat.le_refl _,qh,qj,fun _=>rfl,fun j c hj=>by simp at hj⟩⟩
theorem Zd.open (hd:Zd f w h v l):∃a cap,v = .slice a l.length cap/\l.length<=cap/\l.length<=9223372036854775807/\(a=none->cap=0)/\Zd f w h (.slice a l.length cap) l:=by
 obtain⟨h1,a,cap,rfl,h3,h4,h4',h5,h6⟩:=hd.s;exact⟨a,cap,rfl,h3,h4',h5,hd⟩
theorem Zd.cell {a:Option Addr}{n c:Nat}{z:α}(hd:Zd f w h (.slice a n c) l){i m:Nat}(hi:i<l.length)(hm:m<w):Z9 h a (i*w+m)=(f (gr z l i))[m]?:=by
 obtain⟨h1,a',cap,h2,h3,h4,h4',h5,h6⟩:=hd.s;injection h2 with e1 e2 e3
 subst e1;have hg:=UG hd.len l i m hm;rw[List.getElem?_eq_getElem hi,Option.bind_some,<- Ye (z:=z) hi]at hg;obtain⟨u,hu⟩:∃u,(f (gr z l i))[m]?=some u:=⟨_,List.getElem?_eq_getElem (by rw[hd.len];exact hm)⟩
 rw[hu]at hg ⊢;exact h6 _ _ hg
theorem Us {a:Option Addr}{n c0:Nat}(z:α)(hw0:0<w)(hd:Zd f w h (.slice a n c0) l) :
  (∀(m c e by':Nat) (k:IntKind) (j:Int) (K:Value->Prop) (t:Zm K),0<=j->j<(l.length:Int)->m=l.length->xIA (.sl e w by') (.slice a m c) (.int k j) K t=K (.pointer (UI a (j.toNat*w)))) /\
  (∀(j:Nat) (K:Option Addr->Prop) (t:Zm K),j<l.length->Zqb (.pointer (UI a (j*w))) K t=K (UI a (j*w))) /\
  (∀(L:Own) (j:Nat) (zz:List Value) (by':Nat) (K:Value->Prop) (t:Zm K),j<l.length->xLd ⟨w,true,zz,by'⟩ L h (UI a (j*w)) K t=K (.agg (f (gr z l j)).toArray)) /\
  (∀(j o:Nat) (K:Value->Prop) (t:Zm K),j<l.length->Zkh (.pointer (UI a (j*w))) o K t=K (.pointer (UI a (j*w+o)))) /\
  (∀(j o:Nat) (K:Option Addr->Prop) (t:Zm K),j<l.length->Zqb (.pointer (UI a (j*w+o))) K t=K (UI a (j*w+o))):=by
 have hne:∀j,j<l.length->a≠none:=fun j hj e=>by
  have:=hd.cell (z:=z) hj (m:=0) hw0;rw[e,List.getElem?_eq_getElem (by rw[hd.len];exact hw0)]at this;simp [Z9]at this
 refine⟨fun m c e by' k j K t h0 h1 hm=>?_,fun j K t hj=>GA (hne j hj) K,fun L j zz by' K t hj=>?_,fun j o K t hj=>Zgd (hne j hj) _ _ K,fun j o K t hj=>GA (hne j hj) K⟩
 ·subst hm;exact Zqc (hne j.toNat qf) e w by' _ c k j h0 h1 K t
 ·rw[Ykz,J9 w 0 (f (gr z l j)) _ (hd.len _) fun m hm=>by rw[Nat.zero_add];exact hd.cell hj hm]
theorem Zd.fld {a:Option Addr}{n c0:Nat}(z:α)(hd:Zd f w h (.slice a n c0) l){j o:Nat}(hj:j<l.length){u:Value}(ho:(f (gr z l j))[o]?=some u)(L:Own)(K:Value->Prop)(t:Zm K) :
  Um L h (UI a (j*w+o)) 0 K t=K u:=by
 have hm:o<w:=by
  have:=(List.getElem?_eq_some_iff.1 ho).1
  rwa [hd.len]at this
 exact Zai (by rw[Nat.add_zero,hd.cell (z:=z) hj hm,ho]) K
theorem Zd.pub {o:Option (Nat×Nat)}(hw:∀a,(f a).length=w)(sl:Sl h (ovs o l.length) l.length w (l.flatMap f)):Zd f w h (ovs o l.length) l:=⟨hw,sl⟩
end
open Go.RowKit Go.Bl
abbrev QS:=Value×List Int
def gs (q:List QS)(i:Nat):QS:=q.getD i (.slice none 0 0,[])
def vsL (q:List QS):List Value:=q.map Prod.fst
def xsL (q:List QS):List (List Int):=q.map Prod.snd
theorem G4 {l:List QS}{i:Nat}(hi:i<l.length):gs l i=l[i]:=by simp [gs,List.getD,hi]
theorem Wu (q:List QS):(xsL q).length=q.length:=by simp [xsL]
structure Zx (h:PH)(v:Value)(q:List QS):Prop where
 s:Sl h v q.length 1 (vsL q)
 d:∀p∈q,Ints h .u8 p.1 p.2
theorem Zx.up {h h':PH}(le:PH.le h h'){v:Value}{l:List QS}(hd:Zx h v l):Zx h' v l:=⟨hd.s.up le,fun q hq=>(hd.d q hq).up le⟩
theorem Zx.at {h:PH}{v:Value}{l:List QS}(hd:Zx h v l){i:Nat}(hi:i<l.length):Ints h .u8 (gs l i).1 (gs l i).2:=by
 rw[G4 hi];exact hd.d _ (List.getElem_mem hi)
theorem Zx.open {h:PH}{v:Value}{l:List QS}(hd:Zx h v l) :
  ∃a cap,v = .slice a l.length cap/\l.length<=cap/\l.length<=9223372036854775807/\(a=none->cap=0)/\(∀j,j<l.length->Z9 h a j=some (gs l j).1)/\Zx h (.slice a l.length cap) l:=by
 obtain⟨h1,a,cap,rfl,h3,h4,h4',h5,h6⟩:=hd.s;exact⟨a,cap,rfl,h3,h4',h5,fun j hj=>h6 j _ (by rw[G4 hj];simp [vsL,hj]),hd⟩
theorem Zpt {l:List QS}{i:Nat}(hi:i<l.length):(xsL l)[i]?=some (gs l i).2:=by rw[G4 hi];simp [xsL,hi]
theorem Gp {o:Option (Nat×Nat)}{e sz:Nat}{xs:List Value}{L:Own}{h h':PH}(ha:apO o L h)(ap:Ap (oent e sz o xs L) h'):apO o L h':=by
 cases o with
 | none=>trivial
 | some p=>exact⟨ha.1,ap.1⟩
theorem Ap.oent {o:Option (Nat×Nat)}{e sz:Nat}{xs:List Value}{L:Own}{h:PH}(ap:Ap (oent e sz o xs L) h):Ap L h:=by
 cases o with
 | none=>exact ap
 | some p=>exact ap.2
theorem Zqo {h:PH}{o:Option (Nat×Nat)}{q:List QS}(sl:Sl h (ovs o q.length) q.length 1 (vsL q))(hd:∀p∈q,Ints h .u8 p.1 p.2):Zx h (ovs o q.length) q:=⟨sl,hd⟩
structure Zc where
 bal:Int
 eff:Int
 score:Int
 ak:Int
 owner:Int
 status:Int
def ZQ:Zc:=⟨0,0,0,0,0,0⟩
def YD (m:Zc):List Value:=[.int .u64 m.bal,.int .u64 m.eff,.int .u64 m.score,.int .i64 m.ak,.int .i64 m.owner,.int .i64 m.status]
structure Zf (m:Zc):Prop where
 u:∀z∈[m.bal,m.eff,m.score],0<=z/\z<=18446744073709551615
 n:∀z∈[m.ak,m.owner,m.status],-9223372036854775808<=z/\z<=9223372036854775807
structure Zk where
 au:Int
 mem:Int
 amt:Int
 new:Bool
def Yg:Zk:=⟨0,0,0,false⟩
def UK (d:Zk):List Value:=[.int .i64 d.au,.int .i64 d.mem,.int .u64 d.amt,.bool d.new]
structure ZG (d:Zk):Prop where
 a:0<=d.amt/\d.amt<=18446744073709551615
 n:∀z∈[d.au,d.mem],-9223372036854775808<=z/\z<=9223372036854775807
structure Zh where
 au:Int
 at':Int
 amt:Int
def ZT:Zh:=⟨0,0,0⟩
def Yh (d:Zh):List Value:=[.int .i64 d.au,.int .i64 d.at',.int .u64 d.amt]
structure Zs (d:Zh):Prop where
 a:0<=d.amt/\d.amt<=18446744073709551615
 n:∀z∈[d.au,d.at'],-9223372036854775808<=z/\z<=9223372036854775807
structure Zl where
 au:Int
 what:Int
 par:Ze
 to:Int
 amt:Int
 ends:Int
 due:Int
 state:Int
 yes:List Int
 no:List Int
def Yb:Zl:=⟨0,0,Zhq,0,0,0,0,0,[],[]⟩
abbrev QM:=Value×Value×Zl
def Z0:QM:=(.slice none 0 0,.slice none 0 0,Yb)
def YQ (q:QM):List Value := .int .i64 q.2.2.au :: .int .i64 q.2.2.what::(Jj q.2.2.par++[.int .i64 q.2.2.to,.int .u64 q.2.2.amt,.int .i64 q.2.2.ends,.int .i64 q.2.2.due,.int .i64 q.2.2.state,q.1,q.2.1])
structure Yyq (m:Zl):Prop where
 a:0<=m.amt/\m.amt<=18446744073709551615
 n:∀z∈[m.au,m.what,m.to,m.ends,m.due,m.state],-9223372036854775808<=z/\z<=9223372036854775807
 p:Zj m.par
structure Zr (h:PH)(q:QM):Prop where
 y:Ints h .u8 q.1 q.2.2.yes
 n:Ints h .u8 q.2.1 q.2.2.no
 ok:Yyq q.2.2
theorem Zr.up {h h':PH}(le:PH.le h h'){q:QM}(hd:Zr h q):Zr h' q:=⟨hd.y.up le,hd.n.up le,hd.ok⟩
theorem Z8 (m:Zc):(YD m).length=6:=rfl
theorem VM (m:Zk):(UK m).length=4:=rfl
theorem Yd (m:Zh):(Yh m).length=3:=rfl
theorem Ya (m:QM):(YQ m).length=33:=rfl
structure Zg where
 par:Ze
 most:Int
 gen:Int
 aB:Int
 aG:Int
 an:Int
 ep:Int
 calm:Int
 aT:Bool
 ag:List Int
 ae:List Zc
 entry:List Int
 exit:List Int
 aj:List Zk
 ai:List Zh
 ah:List Zl
 marks:List Int
 ring:List (List Int)
def JB:Zg:=⟨Zhq,0,0,0,0,0,0,0,false,[],[],[],[],[],[],[],[],[]⟩
structure SV where
 p:Value
 m:Value
 e:Value
 x:Value
 o:Value
 d:Value
 t:Value
 k:Value
 r:Value
def Zlm:SV:=⟨.slice none 0 0,.slice none 0 0,.slice none 0 0,.slice none 0 0,.slice none 0 0,.slice none 0 0,.slice none 0 0,.slice none 0 0,.slice none 0 0⟩
abbrev stC (s:Zg)(v:SV):List Value:=[.int .u64 s.par.inc,.int .u64 s.par.aF,.int .u64 s.par.floor,.int .u64 s.par.cap,.int .u64 s.par.up,.int .u64 s.par.down,.int .u64 s.par.aP,.int .u64 s.par.aQ,.int .u64 s.par.aO,.int .u64 s.par.aH,.int .u64 s.par.recover,.int .u64 s.par.aA,.int .u64 s.par.rate,.int .u64 s.par.aX,.int .i64 s.par.delay,.int .i64 s.par.ak,.int .i64 s.par.aS,.int .i64 s.par.aJ,.int .i64 s.par.aG,.int .i64 s.par.aK,.int .i64 s.par.wait,.int .i64 s.par.aW,.int .i64 s.par.aN,.int .i64 s.par.aI,
 .int .u64 s.most,.int .u64 s.gen,.int .u64 s.aB,.int .u64 s.aG,.int .u64 s.an,.int .i64 s.ep,.int .i64 s.calm,.bool s.aT,v.p,v.m,v.e,v.x,v.o,v.d,v.t,v.k,v.r]
abbrev stV (s:Zg)(v:SV):Value := .agg #[.int .u64 s.par.inc,.int .u64 s.par.aF,.int .u64 s.par.floor,.int .u64 s.par.cap,.int .u64 s.par.up,.int .u64 s.par.down,.int .u64 s.par.aP,.int .u64 s.par.aQ,.int .u64 s.par.aO,.int .u64 s.par.aH,.int .u64 s.par.recover,.int .u64 s.par.aA,.int .u64 s.par.rate,.int .u64 s.par.aX,.int .i64 s.par.delay,.int .i64 s.par.ak,.int .i64 s.par.aS,.int .i64 s.par.aJ,.int .i64 s.par.aG,.int .i64 s.par.aK,.int .i64 s.par.wait,.int .i64 s.par.aW,.int .i64 s.par.aN,.int .i64 s.par.aI,
 .int .u64 s.most,.int .u64 s.gen,.int .u64 s.aB,.int .u64 s.aG,.int .u64 s.an,.int .i64 s.ep,.int .i64 s.calm,.bool s.aT,v.p,v.m,v.e,v.x,v.o,v.d,v.t,v.k,v.r]
structure ZB (s:Zg):Prop where
 p:Zj s.par
 u:∀z∈[s.most,s.gen,s.aB,s.aG,s.an],0<=z/\z<=18446744073709551615
 n:∀z∈[s.ep,s.calm],-9223372036854775808<=z/\z<=9223372036854775807
structure Zp (h:PH)(v:SV)(s:Zg):Prop where
 ok:ZB s
 p:Ints h .u64 v.p s.ag
 m:Zd YD 6 h v.m s.ae
 mo:∀x∈s.ae,Zf x
 e:Ints h .i64 v.e s.entry
 x:Ints h .i64 v.x s.exit
 o:Zd UK 4 h v.o s.aj
 oo:∀x∈s.aj,ZG x
 d:Zd Yh 3 h v.d s.ai
 dd:∀x∈s.ai,Zs x
 t:∃q:List QM,Zd YQ 33 h v.t q/\q.map (fun x=>x.2.2)=s.ah/\∀x∈q,Zr h x
 k:Ints h .u8 v.k s.marks
 r:∃q,Zx h v.r q/\xsL q=s.ring
theorem Zp.up {h h':PH}(le:PH.le h h'){v:SV}{s:Zg}(hs:Zp h v s):Zp h' v s:=by
 obtain⟨q,t1,t2,t3⟩:=hs.t;obtain⟨r,r1,r2⟩:=hs.r;exact⟨hs.ok,hs.p.up le,hs.m.up le,hs.mo,hs.e.up le,hs.x.up le,hs.o.up le,hs.oo,hs.d.up le,hs.dd,⟨q,t1.up le,t2,fun x hx=>(t3 x hx).up le⟩,hs.k.up le,⟨r,r1.up le,r2⟩⟩
theorem Zqi (h:PH):Zx h (.slice none 0 0) []:=⟨⟨rfl,none,0,rfl,Nat.le_refl _,qh,qh,fun _=>rfl,fun j c hj=>by simp [vsL]at hj⟩,fun q hq=>by cases hq⟩
theorem Yba:Zj Zhq:=⟨fun z hz=>by simp [WZ,Zhq]at hz;omega,fun z hz=>by simp [YA,Zhq]at hz;omega⟩
theorem Zcp (h:PH):Zp h Zlm JB :=
 ⟨⟨Yba,fun z hz=>by simp [JB]at hz;omega,fun z hz=>by simp [JB]at hz;omega⟩,Y7 h .u64,Zd.nil Z8 h,(fun x hx=>zh),Y7 h .i64,Y7 h .i64,Zd.nil VM h,(fun x hx=>zh),Zd.nil Yd h,(fun x hx=>zh),⟨[],Zd.nil Ya h,rfl,fun x hx=>zh⟩,Y7 h .u8,⟨[],Zqi h,rfl⟩⟩
end Go.X

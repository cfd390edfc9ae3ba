/- Lemmas and contracts. Conditions: as each says. -/
import Derived.ChangeSlices
import Derived.Laws.CopyRow
import Derived.Laws.IdiomCopy
import Derived.Test.YtllhopbilpdpkaaGreatQ00
set_option linter.unusedVariables false
set_option linter.unusedSimpArgs false
set_option maxHeartbeats 12800000
set_option maxRecDepth 20000
namespace Go.X
open Go.RowKit
variable {P:Program}
structure Zw (n0:Nat)(ds:List Deferred)(L:Own)(W:World):Prop where
 at':∀d∈ds,∃D,d={ target := .collected D,args:=#[] }/\W.heap[D]?=some (.deferred (some []))/\n0<=D/\D ∉ L.map Zn.b
 nodup:ds.Nodup
theorem Zw.nil (n0:Nat)(L:Own)(W:World):Zw n0 [] L W:=⟨fun d hd=>(by cases hd),List.nodup_nil⟩
structure Ok (nt:Nat)(M:List Nat)(W0:World)(E:Env)(L:Own)(h:PH)(a:Act)(W:World):Prop where
 env:∀i v,E.lookup i=some v->a.tmps.getD i undef=v
 size:a.tmps.size=nt
 marks:Zw W0.heap.size a.defers L W
 good:Zo L h W
 kept:Zv M W0 W
 fresh:∀e∈L,e.b∈M\/W0.heap.size<=e.b
theorem Zv.refl (M:List Nat)(W:World):Zv M W W:=⟨rfl,rfl,rfl,Nat.le_refl _,fun _ _ _=>rfl⟩
theorem Step.refl {L:Own}{h:PH}{W:World}(hg:Zo L h W):Step L W L h W:=⟨hg,Zv.refl _ _,fun _ he=>Or.inl (List.mem_map_of_mem he)⟩
theorem Zw.step {n0:Nat}{ds:List Deferred}{L L':Own}{h':PH}{W W':World}(m:Zw n0 ds L W)(st:Step L W L' h' W'):Zw n0 ds L' W':=by
 obtain⟨g,k,f⟩:=st;refine⟨fun d hd=>?_,m.nodup⟩;obtain⟨D,e,h1,h0,h2⟩:=m.at' d hd;have hlt:D<W.heap.size:=(Array.getElem?_eq_some_iff.1 h1).1;refine⟨D,e,by rw[k.block D hlt h2];exact h1,h0,fun hm=>?_⟩;obtain⟨x,hx,hb⟩:=List.mem_map.1 hm;rcases f x hx with h3|h3
 ·rw[hb]at h3;exact h2 h3
 ·omega
theorem Zw.heap {n0:Nat}{ds:List Deferred}{L L':Own}{W W':World}(m:Zw n0 ds L W)(hW:W'.heap=W.heap)(hL:∀e∈L',e.b∈L.map Zn.b):Zw n0 ds L' W':=by
 refine⟨fun d hd=>?_,m.nodup⟩;obtain⟨D,e,h1,h0,h2⟩:=m.at' d hd;refine⟨D,e,by rw[hW];exact h1,h0,fun hm=>?_⟩;obtain⟨x,hx,hb⟩:=List.mem_map.1 hm;exact h2 (hb ▸ hL x hx)
theorem Zql {M:List Nat}{W0 W W':World}{L:Own}(k:Zv M W0 W)(fr:∀e∈L,e.b∈M\/W0.heap.size<=e.b)(k':Zv (L.map Zn.b) W W'):Zv M W0 W':=by
 refine⟨k'.os.trans k.os,k'.tape.trans k.tape,k'.output.trans k.output,Nat.le_trans k.size k'.size,fun i hi hM=>?_⟩;rw[k'.block i (Nat.lt_of_lt_of_le hi k.size) ?_]
 ·exact k.block i hi hM
 ·intro hmem;obtain⟨e,he,rfl⟩:=List.mem_map.1 hmem;rcases fr e he with h1|h1
  ·exact hM h1
  ·omega
theorem Ok.step {nt:Nat}{M:List Nat}{W0:World}{E:Env}{L L':Own}{h h':PH}{a:Act}{W W':World}(ok:Ok nt M W0 E L h a W)(st:Step L W L' h' W'):Ok nt M W0 E L' h' a W':=by
 have mk:=ok.marks.step st;obtain⟨g,k,f⟩:=st;refine⟨ok.env,ok.size,mk,g,Zql ok.kept ok.fresh k,fun e he=>?_⟩;rcases f e he with h1|h1
 ·obtain⟨e',he',hb⟩:=List.mem_map.1 h1;rw[<- hb];exact ok.fresh e' he'
 ·exact Or.inr (Nat.le_trans ok.kept.size h1)
theorem Ok.put {nt:Nat}{M:List Nat}{W0:World}{E:Env}{L:Own}{h:PH}{a:Act}{W:World}(ok:Ok nt M W0 E L h a W)(d:Option Tmp)(v:Value)(hd:∀t,d=some t->t<nt) :
  Ok nt M W0 (cons d v E) L h (a.put d v) W:=by
 cases d with
 | none=>exact ok
 | some t =>
  have ht:=hd t rfl;refine⟨fun i u hi=>?_,by simp [Act.put,ok.size],ok.marks,ok.good,ok.kept,ok.fresh⟩;simp only[cons,List.lookup]at hi;by_cases e:i=t
  ·subst e;simp at hi;subst hi;simp [Act.put,ok.size,ht]
  ·have hne:(i == t)=false:=by simpa using e
   rw[hne]at hi;have:=ok.env i u hi;simp only[Act.put];rw[<- this];simp [Array.getD_eq_getD_getElem?,Array.getElem?_setIfInBounds,Ne.symm e]
section
variable {E:Env} {a:Act} (he:∀ i v,E.lookup i=some v->a.tmps.getD i undef=v)
include he
theorem U1 {i:Nat}{K:Value->Prop}(hx:J6 E i K):K (a.tmps.getD i undef):=by
 obtain⟨v,h1,h2⟩:=hx;rw[he i v h1];exact h2
theorem ZW {x:Operand}{K:Value->Prop}(hx:Wl E x K):K (a.eval x):=by
 cases x with
 | tmp i=>exact U1 he hx
 | const v=>exact hx
 | global g=>exact hx
 | func f=>exact hx
theorem YO:∀ {xs:List Operand}{K:List Value->Prop},Uw E xs K->K (xs.map a.eval)
 | [],_,hx=>hx
 | x::xs,K,hx=>by
  have:=ZW he (x:=x) hx;exact YO (xs:=xs) (K:=fun vs=>K (a.eval x::vs)) this
theorem Vv:∀ {ps:List (Nat×Operand)}{K:List (Nat×Value)->Prop},Gt E ps K->K (ps.map fun(i,x)=>(i,a.eval x))
 | [],_,hx=>hx
 | (i,x)::ps,K,hx=>by
  have:=ZW he (x:=x) hx;exact Vv (ps:=ps) (K:=fun vs=>K ((i,a.eval x)::vs)) this
theorem Wt {o:Option Operand}{K:Option Value->Prop}(hx:Zhm E o K):K (o.map a.eval):=by
 cases o with
 | none=>exact hx
 | some x=>exact ZW he (x:=x) hx
end
theorem Vm {m:Sem Value}{v:Value}{W W':World}(h:m.run P W = .ok v W'):(do pure (Next.value (<- m)):Sem Next).run P W = .ok (.value v) W':=by
 simp [h]
theorem Zso {m:Sem Value}{K:Value->Prop}(hx:Zjp P m K)(W:World):∃v,K v/\(do pure (Next.value (<- m)):Sem Next).run P W = .ok (.value v) W:=by
 obtain⟨v,h1,h2⟩:=hx;exact⟨v,h2,Vm (h1 W)⟩
theorem Zar {L:Own}{h:PH}{W:World}(hg:Zo L h W){p:Addr}{j:Nat}{v:Value}(hc:Zjq L h (some p) j=some v):W.cell? (p.add j)=some v:=by
 simp only[Zjq]at hc;split at hc
 ·rename_i hs;have ep:p.add j=⟨(p.add j).block,(p.add j).off,none⟩:=by rw[<- hs]
  rw[ep]
  cases hh:h (p.add j).block (p.add j).off with
  | some u =>
   rw[hh]at hc;simp only at hc;injection hc with hc;subst hc
   exact hg.sub _ _ _ hh
  | none =>
   rw[hh]at hc;simp only at hc;have:∀(M:Own),(∀e∈M,e∈L)->Jw M (p.add j).block (p.add j).off=some v->W.cell? ⟨(p.add j).block,(p.add j).off,none⟩=some v:=by
    intro M
    induction M with
    | nil=>intro _ h0;simp [Jw]at h0
    | cons e M ih =>
     intro hM h0;simp only[Jw]at h0;split at h0
     ·rename_i hb;split at h0
      ·cases h0
      rename_i ht;obtain⟨full,h1,_,h3⟩:=(hg.own e (hM e qj)).cells ht;rw[<- hb];simp only[World.cell?,h1]
      simpa using h3 _ _ h0
     ·exact ih (fun x hx=>hM x wE) h0
   exact this L (fun _ h=>h) hc
 ·cases hc
theorem Zqx (a:Addr)(i j:Nat):(a.add i).add j=a.add (i+j):=by
 unfold Addr.add;by_cases hi:i=0<;>by_cases hj:j=0<;>simp [hi,hj,Nat.add_assoc]
theorem JE {L:Own}{h:PH}{p:Addr}:∀ {n j:Nat} {K:List Value->Prop},GK L h (some p) j n K ->
  ∃vs,K vs/\∀W acc,Zo L h W->(loadCellsFrom p j n acc).run P W = .ok (acc++vs.toArray) W
 | 0,j,K,hx=>⟨[],hx,fun W acc _=>by simp [loadCellsFrom]⟩
 | n+1,j,K,hx=>by
  obtain⟨v,hc,hk⟩:=hx;obtain⟨vs,h1,h2⟩:=JE (n:=n) (j:=j+1) (K:=fun vs=>K (v::vs)) hk;refine⟨v::vs,h1,fun W acc hg=>?_⟩;have hcell:=Zar hg hc;simp only[loadCellsFrom,Sem.run_bind,run_load,hcell,Result.andThen_ok,h2 W (acc.push v) hg];simp
theorem Vb {t:TypeId}{ti:TI}(ht:tI P t=some ti):∃i d z,P.info? t=some i/\P.underlying t=some d/\i.zero=some z/\ti=⟨i.size,Zgg d,z.cells.toList,i.bytes⟩:=by
 unfold tI at ht;split at ht
 ·rename_i i d h1 h2;split at ht
  ·rename_i z h3;injection ht with ht
   exact⟨i,d,z,h1,h2,h3,ht.symm⟩
  ·cases ht
 ·cases ht
theorem Jp {t:TypeId}{d:TypeDesc}(h:P.underlying t=some d)(W:World):(isAgg t).run P W = .ok (Zgg d) W:=by
 unfold isAgg underlying;simp only[Sem.run_bind,run_program,Result.andThen_ok,h,Sem.run_pure]
 cases d<;>rfl
theorem YW {t:TypeId}{i:TypeInfo}(h:P.info? t=some i)(W:World):(sizeOf t).run P W = .ok i.size W:=by
 simp [sizeOf,typeInfo,h]
theorem GM {L:Own}{h:PH}{p:Addr}{t:TypeId}{ti:TI}(ht:tI P t=some ti){K:Value->Prop}(hx:xLd ti L h (some p) K) :
  ∃v,K v/\∀W,Zo L h W->(loadVar t p).run P W = .ok v W:=by
 obtain⟨i,d,z,h1,h2,h3,rfl⟩:=Vb ht;simp only[xLd]at hx
 cases hd:Zgg d with
 | true =>
  rw[hd]at hx;simp only at hx;obtain⟨vs,hk,hr⟩:=JE (P:=P) hx;refine⟨_,hk,fun W hg=>?_⟩;unfold loadVar;simp only[Sem.run_bind,Jp h2,Result.andThen_ok,hd];simp only[if_true,Sem.run_bind,YW h1,Result.andThen_ok,loadCells,hr W #[] hg,Sem.run_pure];simp
 | false =>
  rw[hd]at hx;simp only at hx;obtain⟨v,hc,hk⟩:=hx;refine⟨v,hk,fun W hg=>?_⟩;have:=Zar hg hc;have e0:p.add 0=p:=by simp [Addr.add]
  rw[e0]at this;unfold loadVar;simp only[Sem.run_bind,Jp h2,Result.andThen_ok,hd];simp [this]
open Go.RowKit
variable {P:Program}
theorem Zba {L:Own}{h:PH}{W:World}(hg:Zo L h W){e:Zn}(he:e∈L):e.b<W.heap.size:=by
 rcases Nat.lt_or_ge e.b W.heap.size with h2|h2
 ·exact h2
 ·exact absurd (Array.getElem?_eq_none h2) (hg.own e he).some
theorem Zbo {L:Own}{h:PH}{W:World}(hg:Zo L h W){b o:Nat}{v:Value}(hv:h b o=some v):b<W.heap.size:=by
 have:=hg.sub b o v hv;unfold World.cell? at this;rcases Nat.lt_or_ge b W.heap.size with h1|h1
 ·exact h1
 ·simp [Array.getElem?_eq_none h1]at this
theorem Znk {L:Own}{h:PH}{W:World}(hg:Zo L h W)(x:Zn)(hx:x.b=W.heap.size)(o:Obj)(ho:BlkIs x (some o)) :
  ZS W.heap.size L/\h W.heap.size=noC/\Step L W (x::L) h (W.alloc o):=by
 have hap:∀(M:Own),(∀e∈M,e∈L)->ZS W.heap.size M:=by
  intro M
  induction M with
  | nil=>intro _;trivial
  | cons e M ih=>intro hM;exact⟨by have:=Zba hg (hM e qj);omega,ih fun x hx=>hM x wE⟩
 have hnc:h W.heap.size=noC:=by
  funext o
  cases hh:h W.heap.size o with
  | none=>rfl
  | some v=>have:=Zbo hg hh;omega
 refine⟨hap L fun _ h=>h,hnc,?_,?_,?_⟩
 ·refine⟨fun b o v hv=>?_,fun e he=>?_,?_,fun e he=>?_⟩
  ·have:=Zbo hg hv;rw[World.cell?_alloc_lt W _ ⟨b,o,none⟩ this];exact hg.sub b o v hv
  ·rcases List.mem_cons.1 he with rfl|he
   ·have e:(W.alloc o).heap[e.b]?=some o:=by rw[hx];show (W.heap.push _)[W.heap.size]?=_;simp
    rw[e];exact ho
   ·rw[Below.heap_alloc _ _ _ (Zba hg he)];exact hg.own e he
  ·simp only[List.map_cons,List.nodup_cons,hx];refine⟨fun hm=>?_,hg.nodup⟩;obtain⟨e,he,hb⟩:=List.mem_map.1 hm;have:=Zba hg he;omega
  ·rcases List.mem_cons.1 he with rfl|he
   ·rw[hx];exact hnc
   ·exact hg.apart e he
 ·exact⟨rfl,rfl,rfl,qj,fun k hk _=>Below.heap_alloc _ _ _ hk⟩
 ·intro e he;rcases List.mem_cons.1 he with rfl|he
  ·exact Or.inr (Nat.le_of_eq hx.symm)
  ·exact Or.inl (List.mem_map_of_mem he)
theorem Yea {L:Own}{h:PH}{W:World}(hg:Zo L h W)(cs:Array Value)(T:TypeId)(hT:T≠4294967295) :
  ZS W.heap.size L/\h W.heap.size=noC/\Step L W (⟨W.heap.size,T,cs.toList,cs.toList.length⟩::L) h (W.alloc (.cells cs T)) :=
 Znk hg _ rfl _ (.mk hT ⟨cs,rfl,qj,fun i v hi=>zn⟩)
theorem J7:∀ (vs cs:List Value)(o:Nat),o+vs.length<=cs.length->wr cs o vs=cs.take o++vs++cs.drop (o+vs.length)
 | [],cs,o,_=>by simp [wr]
 | v::vs,cs,o,hl=>by
  simp only[List.length_cons]at hl;rw[wr,J7 vs (cs.set o v) (o+1) qF];apply List.ext_getElem?;intro i;simp only[List.length_cons,List.append_assoc,List.getElem?_append,List.length_take,List.length_set,List.getElem?_take,List.getElem?_set,List.getElem?_drop];rw[show min (o+1) cs.length=o+1 from qf,show min o cs.length=o from qf];by_cases h1:i<o
  ·have:i<o+1:=qf;have h3:o≠i:=qf;simp [h1,this,h3]
  ·by_cases h2:i=o
   ·subst h2;have:i<cs.length:=qf;simp [this]
   ·have h3:¬i<o+1:=qf;have h4:i-o=(i-(o+1))+1:=qf;simp only[h1,h3,if_false,h4,List.getElem?_cons_succ];by_cases h5:i-(o+1)<vs.length
    ·have h6:i-(o+1)+1<vs.length+1:=qf;simp [h5,h6]
    ·have h6:¬i-(o+1)+1<vs.length+1:=qf;simp only[h5,h6,if_false];rw[if_neg qf,show i-(o+1)+1-(vs.length+1)=i-(o+1)-vs.length from qf,show o+1+vs.length=o+(vs.length+1) from qf]
theorem VP {h:PH}{W:World}{b o:Nat}{vs:List Value}:∀ {L:Own} {K:Own->Prop},Zo L h W->Zci L b o vs K ->
  ∃L' W',K L'/\(storeCells ⟨b,o,none⟩ vs).run P W = .ok () W'/\Zo L' h W'/\Zv [b] W W'/\L'.map Zn.b=L.map Zn.b/\b∈L.map Zn.b
 | [],_,_,hx=>hx.elim
 | e::L,K,hg,hx=>by
  obtain⟨h1,h2⟩:=hx;by_cases hb:e.b=b
  ·obtain⟨het,hl,hone,hk⟩:=h1 hb;subst hb;obtain⟨full,hf1,hf2,hf3⟩:=(hg.own e qj).cells het;have hle:e.cs.length<=full.size:=by
    rcases Nat.lt_or_ge full.size e.cs.length with h5|h5
    ·have:=hf3 full.size e.cs[full.size] (by simp [h5]);simp at this
    ·exact h5
   have hrun:=run_storeCells_at (P:=P) e.b o e.t vs 0 full W hf1 qf (fun v hv=>by simpa using List.all_eq_true.1 hone v hv);refine⟨_,_,hk,hrun,?_,?_,rfl,qj⟩
   ·have hnd:=hg.nodup;simp only[List.map_cons,List.nodup_cons]at hnd;refine⟨fun b' o' v hv=>?_,fun e' he'=>?_,?_,fun e' he'=>?_⟩
    ·have hne:b'≠e.b:=fun hbe=>by
      have:=hg.apart e qj;rw[hbe,this]at hv;cases hv
     rw[cell_setRow_other _ _ _ _ hne];exact hg.sub b' o' v hv
    ·rcases List.mem_cons.1 he' with rfl|he'
     ·refine .mk het ⟨_,setRow_heap W e.b full _ e.t (0,0) hf1,?_,?_⟩
      ·simp;omega
      ·intro i v hi;simp only at hi;rw[J7 vs e.cs o hl]at hi;simp only[Nat.add_zero,List.getElem?_toArray];simp only[List.append_assoc,List.getElem?_append,List.length_take,List.getElem?_take,List.getElem?_drop,Array.length_toList]at hi ⊢;rw[show min o e.cs.length=o from qf]at hi;rw[show min o full.size=o from qf];split
       ·rename_i h6;rw[if_pos h6]at hi;simp only[h6,if_true]at hi ⊢
        simpa using hf3 i v hi
       ·rename_i h6;rw[if_neg h6]at hi;split
        ·rename_i h7;rw[if_pos h7]at hi;exact hi
        ·rename_i h7;rw[if_neg h7]at hi
         simpa using hf3 _ v hi
     ·have hne:e'.b≠e.b:=fun hbe=>hnd.1 (by rw[<- hbe];exact List.mem_map_of_mem he');rw[setRow_other _ _ _ _ hne];exact hg.own e' (by simp [he'])
    ·exact hg.nodup
    ·rcases List.mem_cons.1 he' with rfl|he'
     ·exact hg.apart e qj
     ·exact hg.apart e' (by simp [he'])
   ·refine⟨rfl,rfl,rfl,qj,fun k _ hk'=>setRow_other _ _ _ _ ?_⟩
    simpa using hk'
  ·have hg':Zo L h W:=⟨hg.sub,fun e' he'=>hg.own e' (by simp [he']),(List.nodup_cons.1 hg.nodup).2,fun e' he'=>hg.apart e' (by simp [he'])⟩
   obtain⟨L',W',hk,hr,hgd,hkp,hm,hbm⟩:=VP (L:=L) (K:=fun L'=>K (e::L')) hg' (h2 hb);refine⟨e::L',W',hk,hr,⟨hgd.sub,?_,?_,?_⟩,hkp,by simp [hm],by simp [hbm]⟩
   ·intro e' he';rcases List.mem_cons.1 he' with rfl|he'
    ·rw[hkp.block _ (Zba hg qj) (by simpa using hb)];exact hg.own e' qj
    ·exact hgd.own e' he'
   ·have:=hg.nodup;simp only[List.map_cons,hm]at this ⊢;exact this
   ·intro e' he';rcases List.mem_cons.1 he' with rfl|he'
    ·exact hg.apart e' qj
    ·exact hgd.apart e' he'
theorem Zv.mono {M M':List Nat}{W W':World}(k:Zv M W W')(h:∀b∈M,b∈M'):Zv M' W W' :=
 ⟨k.os,k.tape,k.output,k.size,fun i hi hM=>k.block i hi fun hm=>hM (h i hm)⟩
inductive ZN (P:Program)(q:Bool)(L:Own)(h:PH)(K:PK)(W:World):Result Next->Prop
 | val (v:Value) (L':Own) (h':PH) (W':World) (hk:K v L' h') (st:Step L W L' h' W') (sm:q=true->W'=W):ZN P q L h K W (.ok (.value v) W')
 | skip (L':Own) (h':PH) (W':World) (hk:K undef L' h') (st:Step L W L' h' W') (hq:q=false):ZN P q L h K W (.ok .skip W')
 | call (f:FuncId) (args:List Value) (hs:Calls P f args.toArray W fun e W'=>∃r L' h',e = .returned r/\K r L' h'/\Step L W L' h' W'):ZN P q L h K W (.ok (.enter f args.toArray) W)
theorem WK {q:Bool}{m:Sem Value}{L:Own}{h:PH}{K:PK}{W:World}(hg:Zo L h W)(hx:Zjp P m fun v=>K v L h) :
  ZN P q L h K W ((do pure (Next.value (<- m)):Sem Next).run P W):=by
 obtain⟨v,hk,hr⟩:=Zso hx W;rw[hr];exact .val v L h W hk (Step.refl hg) fun _=>rfl
theorem Ub {q:Bool}{m:Sem Value}{L:Own}{h:PH}{K:PK}{W:World}{v:Value}(hg:Zo L h W)(hr:m.run P W = .ok v W)(hk:K v L h) :
  ZN P q L h K W ((do pure (Next.value (<- m)):Sem Next).run P W):=by
 rw[Vm hr];exact .val v L h W hk (Step.refl hg) fun _=>rfl
theorem Zid {q:Bool}(hq:q=false){m:Sem Value}{L:Own}{h:PH}{K:PK}{W:World}{v:Value}{cs:Array Value}{T:TypeId}(hg:Zo L h W)(hr:m.run P W = .ok v (W.alloc (.cells cs T)))
  (hk0:T≠4294967295/\∀b,ZS b L->h b=noC->b=W.heap.size->K v (⟨b,T,cs.toList,cs.toList.length⟩::L) h) :
  ZN P q L h K W ((do pure (Next.value (<- m)):Sem Next).run P W):=by
 obtain⟨hT,hk⟩:=hk0;obtain⟨h1,h2,st⟩:=Yea hg cs T hT;rw[Vm hr];exact .val v _ h _ (hk _ h1 h2 rfl) st fun h=>by rw[hq]at h;cases h
theorem UU {s f o:Nat}{p:Addr}(ho:Ywf P s f=some o)(W:World):(Instr.fieldAt s (.pointer (some p)) f).run P W = .ok (.pointer (some (p.add o))) W:=by
 unfold Ywf at ho;split at ho
 ·rename_i fs h1;split at ho
  ·rename_i fd h2;split at ho
   ·rename_i i h3;split at ho
    ·cases ho
    ·rename_i h4;injection ho with ho
     subst ho;simp [Instr.fieldAt,underlying,h1,h2,Instr.sureAddr,fieldPlace,YW h3,h4]
   ·cases ho
  ·cases ho
 ·cases ho
theorem Zdp {t:Nat}{a i:Value}{K:Value->Prop}(hx:xIA (tSh P t) a i K):∃v,K v/\∀W,(Instr.indexAt t a i).run P W = .ok v W:=by
 unfold tSh at hx;split at hx
 ·rename_i e h1;split at hx
  ·rename_i inf h2;obtain⟨q,n,c,k,j,rfl,rfl,h3,h4,hk⟩:=hx;refine⟨_,hk,fun W=>?_⟩;simp [Instr.indexAt,asIntOf,underlying,h1,h3,h4,YW h2]
  ·exact hx.elim
 ·rename_i n e h1;split at hx
  ·rename_i inf h2;obtain⟨q,k,j,rfl,rfl,h3,h4,hk⟩:=hx;refine⟨_,hk,fun W=>?_⟩;simp [Instr.indexAt,asIntOf,underlying,h1,h3,h4,YW h2,Instr.sureAddr]
  ·exact hx.elim
 ·exact hx.elim
theorem Zrm:∀ (vs:List Value)(k off:Nat)(cs:Array Value),((vs.zipIdx k).foldl (fun(cs:Array Value) (p:Value×Nat)=>cs.setIfInBounds (off+p.2) p.1) cs).toList=wr cs.toList (off+k) vs
 | [],k,off,cs=>rfl
 | v::vs,k,off,cs=>by
  simp only[List.zipIdx_cons,List.foldl_cons,wr];rw[Zrm vs (k+1) off,Array.toList_setIfInBounds,Nat.add_assoc]
theorem Gd {pl:List (Nat×Nat)}:∀ {ps:List (Nat×Value)} {z:List Value} {K:List Value->Prop},YB z pl ps K->∃z',K z'/\Instr.fill (pl.toArray[·]?) z.toArray ps=some z'.toArray
 | [],z,K,hx=>⟨z,hx,rfl⟩
 | (i,v)::ps,z,K,hx=>by
  simp only[YB]at hx
  cases hp:pl[i]? with
  | none=>rw[hp]at hx;exact hx.elim
  | some q =>
   obtain⟨off,size⟩:=q;rw[hp]at hx;obtain⟨h1,h2,h3⟩:=hx;obtain⟨z',hk,hf⟩:=Gd (ps:=ps) (z:=wr z off v.cells.toList) h3;refine⟨z',hk,?_⟩;simp only[Instr.fill,List.getElem?_toArray,hp];rw[if_neg (by simp [h1,h2])];have e:v.cells.zipIdx.foldl (fun cs (c,j)=>cs.setIfInBounds (off+j) c) z.toArray=(wr z off v.cells.toList).toArray:=by
    apply Array.ext';have:=Zrm v.cells.toList 0 off z.toArray;simp only[Nat.add_zero]at this;rw[<- Array.foldl_toList,Array.toList_zipIdx];exact this
   rw[e]
   simpa using hf
theorem Zcl {p q:Nat->Option (Nat×Nat)}(hpq:∀i x,p i=some x->q i=some x):∀ {ps:List (Nat×Value)} {cs r:Array Value},Instr.fill p cs ps=some r->Instr.fill q cs ps=some r
 | [],cs,r,h=>h
 | (i,v)::ps,cs,r,h=>by
  simp only[Instr.fill]at h ⊢
  cases hp:p i with
  | none=>rw[hp]at h;cases h
  | some x =>
   obtain⟨off,size⟩:=x;rw[hp]at h;rw[hpq i _ hp];simp only at h ⊢;split at h
   ·cases h
   ·rename_i hc;rw[if_neg hc];exact Zcl hpq h
theorem JD {t:Nat}{ps:Array (Nat×Value)}{K:Value->Prop}(hx:Y4 P t ps K):Zjp P (Instr.build t ps) K:=by
 obtain⟨z,pl,hb,hf⟩:=hx;obtain⟨z',hk,hr⟩:=Gd hf;refine⟨_,fun W=>?_,hk⟩;unfold bPl at hb;split at hb
 ·rename_i fs ti h1 h2;obtain⟨i,d,zv,g1,g2,g3,rfl⟩:=Vb h2
  cases hm:fs.toList.mapM fun f=>(P.info? f.type).map fun i=>(f.offset,i.size) with
  | none=>rw[hm]at hb;cases hb
  | some pl' =>
   rw[hm]at hb;injection hb with hb
   injection hb with e1 e2
   subst e1;subst e2;have hpl:(fs.mapM (m:=Sem) fun f=>do pure (f.offset,<- sizeOf f.type)).run P W = .ok pl'.toArray W:=by
    have:∀(l:List Field) (pl:List (Nat×Nat)),l.mapM (fun f=>(P.info? f.type).map fun i=>(f.offset,i.size))=some pl ->
      (l.mapM (m:=Sem) fun f=>do pure (f.offset,<- sizeOf f.type)).run P W = .ok pl W:=by
     intro l
     induction l with
     | nil=>intro pl h;simp at h;subst h;rfl
     | cons f l ih =>
      intro pl h;rw[List.mapM_cons]at h
      cases hi:P.info? f.type with
      | none=>rw[hi]at h;cases h
      | some i =>
       rw[hi]at h
       cases hq:l.mapM fun f=>(P.info? f.type).map fun i=>(f.offset,i.size) with
       | none=>rw[hq]at h;cases h
       | some pl2 =>
        rw[hq]at h;injection h with h
        subst h;simp only[List.mapM_cons,Sem.run_bind,YW hi,Result.andThen_ok,Sem.run_pure,ih pl2 hq]
    rw[Array.mapM_eq_mapM_toList];simp only[Sem.run_map,this _ _ hm,Result.andThen_ok]
   unfold Instr.build;simp only[Sem.run_bind,zeroValue,typeInfo,run_program,Result.andThen_ok,g1,Sem.run_pure,g3,underlying,h1,hpl];simp only at hr;have hz:zv.cells.toList.toArray=zv.cells:=qj;rw[hz]at hr;rw[hr]
   rfl
 ·rename_i n e ti h1 h2;obtain⟨i,d,zv,g1,g2,g3,rfl⟩:=Vb h2
  cases hi:P.info? e with
  | none=>rw[hi]at hb;cases hb
  | some ie =>
   rw[hi]at hb;injection hb with hb
   injection hb with e1 e2
   subst e1;subst e2
   have hr2:=Zcl (q:=fun i=>some (i*ie.size,ie.size)) (fun i x hx=>by
    simp only[List.getElem?_toArray,List.getElem?_map]at hx
    cases hg:(List.range n)[i]? with
    | none=>rw[hg]at hx;cases hx
    | some k =>
     rw[hg]at hx;have hk:k=i:=by
      have:=List.getElem?_eq_some_iff.1 hg;obtain⟨_,h⟩:=this
      simpa using h.symm
     rw[<- hk]
     simpa using hx) hr
   unfold Instr.build;simp only[Sem.run_bind,zeroValue,typeInfo,run_program,Result.andThen_ok,g1,Sem.run_pure,g3,underlying,h1,YW hi];have hz:zv.cells.toList.toArray=zv.cells:=qj;rw[hz]at hr2;rw[hr2]
   rfl
 ·cases hb
theorem Zyv {t n:Nat}{ps:Array (Nat×Value)}{K:TypeId->List Value->Prop}(hx:xBS P t n ps K) :
  ∃T cs,(∀W:World,(Instr.buildSlice t n ps).run P W = .ok (.slice (some ⟨W.heap.size,0,none⟩) n n) (W.alloc (.cells cs T)))/\K T cs.toList:=by
 obtain⟨e,z,pl,hb,hf⟩:=hx;obtain⟨z',hk,hr⟩:=Gd hf;refine⟨e,z'.toArray,fun W=>?_,hk⟩;unfold bSl at hb;split at hb
 ·rename_i e' h1;split at hb
  ·rename_i ti h2;split at hb
   ·cases hb
   ·rename_i h3;injection hb with hb
    injection hb with e1 e2
    injection e2 with e2 e3
    subst e1;subst e2;subst e3;obtain⟨i,d,zv,g1,g2,g3,rfl⟩:=Vb h2;simp only at h3 hr;have hfill:Instr.fill (fun j=>some (j*i.size,i.size)) ((List.range (n*i.size)).map (fun j=>zv.cells[j%zv.cells.size]!)).toArray ps.toList=some z'.toArray:=by
     refine Zcl (fun j x hj=>?_) (by simpa using hr);by_cases hjn:j<n
     ·simp [hjn]at hj;rw[hj]
     ·simp [hjn]at hj
    have ha:((List.range (n*i.size)).map (fun j=>zv.cells[j%zv.cells.size]!)).toArray=(Array.range (n*i.size)).map (fun j=>zv.cells[j%zv.cells.size]!):=by
     apply Array.ext';simp
    have hm:¬n*i.size>16777216:=fun h=>h3 (Or.inl h);by_cases hn:n*i.size=0
    ·have hn0:n=0:=by
      rcases Nat.mul_eq_zero.1 hn with h|h
      ·exact h
      ·exact absurd (Or.inr h) h3
     subst hn0;rw[hn]at hfill;simp at hfill;simp [Instr.buildSlice,underlying,h1,YW g1,newRow];rw[show Array.map (fun(_:Nat)=>(default:Value)) (Array.range 0)=#[] from by apply Array.ext';simp,hfill];simp
    ·rw[ha]at hfill;simp [Instr.buildSlice,underlying,h1,YW g1,hn,zeroValue,typeInfo,g1,g3,hfill,newRow,hm]
  ·cases hb
 ·cases hb
theorem Va {α β:Type}(f:α->β)(xs:Array α):(xs.toList.map f).toArray=xs.map f:=by
 apply Array.ext';rw[Array.toList_map]
theorem WG {f : FuncId} {fn : Func} (g1 : P.funcs[f]? = some fn) (g2 : (fn.name == "runtime.NumGoroutine") = false) (g3 : fn.body.isNone = false) (args : Array Value) (W : World) :
  (callFunc f args).run P W = .ok (.enter f args) W:=by
 unfold callFunc;simp only[Sem.run_bind,run_program,Result.andThen_ok,g1,g2,g3,Bool.false_eq_true,if_false,Sem.run_pure]
theorem Zle {dst:Option Tmp}{o:Op}{ty:TypeId}{pos:String}{af:Array Edge}{gd:Option (Nat×Bool)}{E:Env}{L:Own}{h:PH}{K:PK}{a:Act}{W:World}
  (he:∀i v,E.lookup i=some v->a.tmps.getD i undef=v) (hg:Zo L h W) (hx:xOp P o ty E L h K) :
  ZN P (Jv o) L h K W ((execOp a.eval ⟨dst,o,ty,pos,af,gd⟩).run P W):=by
 cases o with
 | move x=>exact .val _ L h W (ZW he (x:=x) hx) (Step.refl hg) fun _=>rfl
 | assign x=>exact .val _ L h W (ZW he (x:=x) hx) (Step.refl hg) fun _=>rfl
 | pick c x y =>
  have h1:=ZW he (x:=c) hx;obtain⟨t,h2,h3,h4⟩:=h1;simp only[execOp,h2]
  cases t with
  | true=>simp only[asBool,pure_bind,if_true];exact .val _ L h W (ZW he (x:=x) (h3 rfl)) (Step.refl hg) fun _=>rfl
  | false=>simp only[asBool,pure_bind];exact .val _ L h W (ZW he (x:=y) (h4 rfl)) (Step.refl hg) fun _=>rfl
 | binOp op T x y U=>exact WK hg (ZW he (x:=y) (ZW he (x:=x) hx))
 | unOp op T x=>exact WK hg (ZW he (x:=x) hx)
 | convert s d x =>
  have h1:=ZW he (x:=x) hx;unfold xCv at h1;split at h1
  ·rename_i e;obtain⟨r,L',h',W',hr,hk,st⟩:=h1 W hg;have e2:execOp a.eval ⟨dst,.convert s d x,ty,pos,af,gd⟩=(do pure (Next.value (<- convert s d (a.eval x)))):=rfl;rw[e2,Vm hr];exact .val r L' h' W' hk st fun h=>by subst e;simp [Jv]at h
  ·split at h1
   ·obtain⟨v,hr,hk⟩:=h1;exact Ub hg (hr W hg) hk
   ·exact WK hg h1
 | extract x i=>exact WK hg (ZW he (x:=x) hx)
 | field s x f=>exact WK hg (ZW he (x:=x) hx)
 | index t x i=>exact WK hg (ZW he (x:=i) (ZW he (x:=x) hx))
 | fieldAddr s x f =>
  have h1:=ZW he (x:=x) hx;obtain⟨o,ho,p,hp,hk⟩:=h1;simp only[execOp,hp];exact Ub hg (UU ho W) hk
 | indexAddr t x i =>
  have h1:=ZW he (x:=i) (ZW he (x:=x) hx);obtain⟨v,hk,hr⟩:=Zdp h1;exact Ub hg (hr W) hk
 | slice t x lo hi mx =>
  have h1:=Wt he (o:=mx) (Wt he (o:=hi) (Wt he (o:=lo) (ZW he (x:=x) hx)));exact WK hg h1
 | nilCheck x =>
  have h1:=ZW he (x:=x) hx;rcases h1 with⟨p,hp,hk⟩ | ⟨t,v,hp,hk⟩ | ⟨nm,t,w,c,hp,hm,hk⟩
  ·simp only[execOp,hp];rw[hp]at hk;exact .val _ L h W hk (Step.refl hg) fun _=>rfl
  ·simp only[execOp,hp];rw[hp]at hk;exact .val _ L h W hk (Step.refl hg) fun _=>rfl
  ·have hm1:=hm W;simp only[execOp,hp];rw[hp]at hk;have hr:(ZN P (Jv (Op.nilCheck x)) L h K W (.ok (.value (.func (.method nm) #[.iface t w] c)) W)) := .val _ L h W hk (Step.refl hg) fun _=>rfl
   simpa [hm1] using hr
 | build t ps =>
  have h1:=Vv he (ps:=ps.toList) hx;have e:(ps.toList.map fun(i,x)=>(i,a.eval x)).toArray=ps.map fun(i,x)=>(i,a.eval x):=Va _ _;simp only[e]at h1;exact WK hg (JD h1)
 | makeInterface t x=>exact WK hg (ZW he (x:=x) hx)
 | typeAssert x s t ok=>exact WK hg (ZW he (x:=x) hx)
 | makeFunc fn first cap =>
  have h1:=YO he (xs:=cap.toList) (YO he (xs:=first.toList) hx);have e1:(first.toList.map a.eval).toArray=first.map a.eval:=Va _ _
  have e2:(cap.toList.map a.eval).toArray=cap.map a.eval:=Va _ _;rw[e1,e2]at h1;exact Ub hg (m:=Instr.makeFunc fn (first.map a.eval) (cap.map a.eval)) rfl h1
 | load t x =>
  have h1:=ZW he (x:=x) hx;obtain⟨p,hp,ti,ht,hl⟩:=h1;obtain⟨v,hk,hr⟩:=GM ht hl;simp only[execOp,hp];exact Ub hg (m:=Instr.loadAt t (.pointer (some p))) (by simpa [Instr.loadAt,Instr.sureAddr] using hr W hg) hk
 | store t x y =>
  have h1:=ZW he (x:=y) (ZW he (x:=x) hx);obtain⟨p,hp,ti,ht,b,o,hbo,hsz,hs⟩:=h1;injection hbo with hbo
  subst hbo;obtain⟨i,d,z,g1,g2,g3,rfl⟩:=Vb ht;obtain⟨L',W',hk,hr,hgd,hkp,hm,hbm⟩:=VP (P:=P) hg hs;simp only[execOp,hp];have hrun:(Instr.storeAt t (.pointer (some ⟨b,o,none⟩)) (a.eval y)).run P W = .ok () W':=by
   simp only at hsz;simp [Instr.storeAt,Instr.sureAddr,storeVar,YW g1,hsz,hr]
  simp only[Sem.run_bind,hrun,Result.andThen_ok,Sem.run_pure];exact .skip L' h W' hk ⟨hgd,hkp.mono (by simpa using hbm),fun e he'=>Or.inl (by rw[<- hm];exact List.mem_map_of_mem he')⟩ rfl
 | alloc t =>
  obtain⟨ti,ht,hk⟩:=hx;obtain⟨i,d,z,g1,g2,g3,rfl⟩:=Vb ht;refine Zid rfl (cs:=z.cells) (T:=t) hg (v:=.pointer (some ⟨W.heap.size,0,none⟩)) ?_ ⟨hk.1,fun b p q e=>by subst e;exact hk.2 _ p q⟩;simp [Instr.alloc,zeroValue,typeInfo,g1,g3,newVar,newRow]
 | box t x =>
  have h1:=ZW he (x:=x) hx;refine Zid rfl (cs:=(a.eval x).cells) (T:=t) hg (v:=.pointer (some ⟨W.heap.size,0,none⟩)) ?_ ⟨h1.1,fun b p q e=>by subst e;exact h1.2 _ p q⟩;simp [Instr.box,newVar,newRow]
 | buildSlice t n ps =>
  have h1:=Vv he (ps:=ps.toList) hx;have e:(ps.toList.map fun(i,x)=>(i,a.eval x)).toArray=ps.map fun(i,x)=>(i,a.eval x):=Va _ _;simp only[e]at h1;obtain⟨T,cs,hr,hk⟩:=Zyv h1;exact Zid rfl hg (hr W) ⟨hk.1,fun b p q e=>by subst e;exact hk.2 _ p q⟩
 | makeSlice t l c =>
  have h1:=ZW he (x:=c) (ZW he (x:=l) hx);obtain⟨T,cs,n,m,hr,hk⟩:=h1;exact Zid rfl hg (hr W) ⟨hk.1,fun b p q e=>by subst e;exact hk.2 _ p q⟩
 | makeMap t r =>
  cases r with
  | some x=>exact hx.elim
  | none =>
   obtain⟨h1,h2,st⟩:=Znk hg ⟨W.heap.size,4294967295,[],0⟩ rfl (.map #[] 0) (.mkMap rfl ⟨#[],0,rfl,rfl⟩);have hr:(Instr.makeMap t none).run P W = .ok (.map (some W.heap.size)) (W.alloc (.map #[] 0)):=by
    simp [Instr.makeMap,newObj,Sem.run]
   have e:execOp a.eval ⟨dst,.makeMap t none,ty,pos,af,gd⟩=(do pure (Next.value (<- Instr.makeMap t none))):=rfl;rw[e,Vm hr];exact .val _ _ h _ (hx _ h1 h2) st fun h=>qL
 | lookup t x i ok =>
  have h1:=ZW he (x:=i) (ZW he (x:=x) hx);obtain⟨v,hr,hk⟩:=h1;exact Ub hg (hr W hg) hk
 | mapUpdate t x i y =>
  have h1:=ZW he (x:=y) (ZW he (x:=i) (ZW he (x:=x) hx));obtain⟨L',h',W',hr,hk,st⟩:=h1 W hg;simp only[execOp,Sem.run_bind,hr,Result.andThen_ok,Sem.run_pure];exact .skip L' h' W' hk st rfl
 | call c =>
  obtain⟨callee,az,ats⟩:=c
  cases callee with
  | value f =>
   have h1:=YO he (xs:=az.toList) (ZW he (x:=f) hx);obtain⟨g,first,cap,hf,hs⟩:=h1;have e2:(first.toList++az.toList.map a.eval++cap.toList).toArray=first++az.map a.eval++cap:=by apply Array.ext';simp
   have e:(execOp a.eval ⟨dst,.call ⟨.value f,az,ats⟩,ty,pos,af,gd⟩).run P W=(callFunc g (first.toList++az.toList.map a.eval++cap.toList).toArray).run P W:=by
    rw[e2];simp only[execOp,resolve,hf,Deferred.ofValue,pure_bind,invoke]
   rw[e];rcases hs.2 W hg with⟨⟨fn,g1,g2,g3⟩,hs⟩ | ⟨v,hr,r,L',h',er,hk,st⟩
   ·rw[WG g1 g2 g3];exact .call g _ hs
   ·rw[hr]
    cases er
    exact .val v L' h' W hk st fun _=>rfl
  | builtin b =>
   have h1:=YO he (xs:=az.toList) hx;have ha:(az.toList.map a.eval).toArray=az.map a.eval:=Va _ _
   cases b with
   | len =>
    obtain⟨v,hv,hk⟩:=h1;have hv':az.map a.eval=#[v]:=by rw[<- ha,hv]
    have e:execOp a.eval ⟨dst,.call ⟨.builtin .len,az,ats⟩,ty,pos,af,gd⟩=(do pure (Next.value (<- Builtin.len_ ats ty #[v]))):=by
     simp [execOp,resolve,invoke,builtin,hv']
    rw[e];exact WK hg hk
   | max =>
    have e:execOp a.eval ⟨dst,.call ⟨.builtin .max,az,ats⟩,ty,pos,af,gd⟩=(do pure (Next.value (<- Builtin.max_ ats ty (az.map a.eval)))):=by
     simp [execOp,resolve,invoke,builtin]
    rw[e,<- ha];exact WK hg h1
   | min =>
    have e:execOp a.eval ⟨dst,.call ⟨.builtin .min,az,ats⟩,ty,pos,af,gd⟩=(do pure (Next.value (<- Builtin.min_ ats ty (az.map a.eval)))):=by
     simp [execOp,resolve,invoke,builtin]
    rw[e,<- ha];exact WK hg h1
   | append =>
    obtain⟨r,L',h',W',hr,hk,st⟩:=h1 W hg;have e:execOp a.eval ⟨dst,.call ⟨.builtin .append,az,ats⟩,ty,pos,af,gd⟩=(do pure (Next.value (<- Builtin.append_ ats ty (az.map a.eval)))):=by
     simp [execOp,resolve,invoke,builtin]
    rw[e,<- ha,Vm hr];exact .val r L' h' W' hk st fun h=>qL
   | copy =>
    obtain⟨r,L',h',W',hr,hk,st⟩:=h1 W hg;have e:execOp a.eval ⟨dst,.call ⟨.builtin .copy,az,ats⟩,ty,pos,af,gd⟩=(do pure (Next.value (<- Builtin.copy_ ats ty (az.map a.eval)))):=by
     simp [execOp,resolve,invoke,builtin]
    rw[e,<- ha,Vm hr];exact .val r L' h' W' hk st fun h=>qL
   | clear =>
    obtain⟨r,L',h',W',hr,hk,st⟩:=h1 W hg;have e:execOp a.eval ⟨dst,.call ⟨.builtin .clear,az,ats⟩,ty,pos,af,gd⟩=(do pure (Next.value (<- Builtin.clear_ ats ty (az.map a.eval)))):=by
     simp [execOp,resolve,invoke,builtin]
    rw[e,<- ha,Vm hr];exact .val r L' h' W' hk st fun h=>qL
   | cap =>
    obtain⟨r,L',h',W',hr,hk,st⟩:=h1 W hg;have e:execOp a.eval ⟨dst,.call ⟨.builtin .cap,az,ats⟩,ty,pos,af,gd⟩=(do pure (Next.value (<- Builtin.cap_ ats ty (az.map a.eval)))):=by
     simp [execOp,resolve,invoke,builtin]
    rw[e,<- ha,Vm hr];exact .val r L' h' W' hk st fun h=>qL
   | _=>exact h1.elim
  | invoke r m =>
   have h1:=YO he (xs:=az.toList) (ZW he (x:=r) hx);obtain⟨T,w,g,u,hrv,hm,hs⟩:=h1;have e:(execOp a.eval ⟨dst,.call ⟨.invoke r m,az,ats⟩,ty,pos,af,gd⟩).run P W=(callFunc g (u::az.toList.map a.eval).toArray).run P W:=by
    simp only[execOp,resolve,pure_bind,invoke,hrv];have e1:(#[Value.iface T w]++az.map a.eval)[0]?=some (.iface T w):=by rw[Array.getElem?_append_left (Nat.zero_lt_one)];rfl
    have e2:(#[Value.iface T w]++az.map a.eval).extract 1 (#[Value.iface T w]++az.map a.eval).size=az.map a.eval:=by
     apply Array.ext';simp [List.take_of_length_le]
    simp only[e1];rw[e2];simp only[callMethod,Sem.run_bind,run_program,Result.andThen_ok,hm W]
    congr 2
    apply Array.ext';simp
   rw[e];rcases hs.2 W hg with⟨⟨fn,g1,g2,g3⟩,hs⟩ | ⟨v,hr,r,L',h',er,hk,st⟩
   ·rw[WG g1 g2 g3];exact .call g _ hs
   ·rw[hr]
    cases er
    exact .val v L' h' W hk st fun _=>rfl
 | _=>exact hx.elim
theorem Ztl {dst:Option Tmp}{o:Op}{ty:TypeId}{pos:String}{af:Array Edge}{gd:Option (Nat×Bool)}{E:Env}{L:Own}{h:PH}{K:Value->Prop}{a:Act}
  (he:∀i v,E.lookup i=some v->a.tmps.getD i undef=v) (hq:Jv o=true) (hx:Zfh P o ty E L h K) :
  ∃v,K v/\∀W,Zo L h W->ZN P true L h (fun v' L' h'=>v'=v/\L'=L/\h'=h) W ((execOp a.eval ⟨dst,o,ty,pos,af,gd⟩).run P W):=by
 have pure':∀ {m:Sem Value} {K:Value->Prop},Zjp P m K->∃v,K v/\∀W,Zo L h W->ZN P true L h (fun v' L' h'=>v'=v/\L'=L/\h'=h) W ((do pure (Next.value (<- m)):Sem Next).run P W):=by
  rintro m K ⟨v,h1,h2⟩;exact⟨v,h2,fun W hg=>Ub hg (h1 W) ⟨rfl,rfl,rfl⟩⟩
 have one:∀ {v:Value},∀W,Zo L h W->ZN P true L h (fun v' L' h'=>v'=v/\L'=L/\h'=h) W (.ok (.value v) W):=fun {v} W hg => .val v L h W ⟨rfl,rfl,rfl⟩ (Step.refl hg) fun _=>rfl
 cases o with
 | move x=>exact⟨_,ZW he (x:=x) hx,one⟩
 | assign x=>exact⟨_,ZW he (x:=x) hx,one⟩
 | pick c x y =>
  have h1:=ZW he (x:=c) hx;obtain⟨t,h2,h3,h4⟩:=h1;simp only[execOp,h2]
  cases t with
  | true=>simp only[asBool,pure_bind,if_true];exact⟨_,ZW he (x:=x) (h3 rfl),one⟩
  | false=>simp only[asBool,pure_bind];exact⟨_,ZW he (x:=y) (h4 rfl),one⟩
 | binOp op T x y U=>exact pure' (ZW he (x:=y) (ZW he (x:=x) hx))
 | unOp op T x=>exact pure' (ZW he (x:=x) hx)
 | convert s d x =>
  have h1:=ZW he (x:=x) hx;unfold xCv at h1;split at h1
  ·rename_i e;subst e;simp [Jv]at hq
  ·split at h1
   ·obtain⟨v,hr,hk⟩:=h1;exact⟨v,hk,fun W hg=>Ub hg (hr W hg) ⟨rfl,rfl,rfl⟩⟩
   ·exact pure' h1
 | extract x i=>exact pure' (ZW he (x:=x) hx)
 | field s x f=>exact pure' (ZW he (x:=x) hx)
 | index t x i=>exact pure' (ZW he (x:=i) (ZW he (x:=x) hx))
 | fieldAddr s x f =>
  have h1:=ZW he (x:=x) hx;obtain⟨o,ho,p,hp,hk⟩:=h1;simp only[execOp,hp];exact⟨_,hk,fun W hg=>Ub hg (UU ho W) ⟨rfl,rfl,rfl⟩⟩
 | indexAddr t x i =>
  have h1:=ZW he (x:=i) (ZW he (x:=x) hx);obtain⟨v,hk,hr⟩:=Zdp h1;exact⟨v,hk,fun W hg=>Ub hg (hr W) ⟨rfl,rfl,rfl⟩⟩
 | slice t x lo hi mx =>
  have h1:=Wt he (o:=mx) (Wt he (o:=hi) (Wt he (o:=lo) (ZW he (x:=x) hx)));exact pure' h1
 | nilCheck x =>
  have h1:=ZW he (x:=x) hx;rcases h1 with⟨p,hp,hk⟩ | ⟨t,v,hp,hk⟩ | ⟨nm,t,w,c,hp,hm,hk⟩
  ·simp only[execOp,hp];rw[hp]at hk;exact⟨_,hk,one⟩
  ·simp only[execOp,hp];rw[hp]at hk;exact⟨_,hk,one⟩
  ·simp only[execOp,hp];rw[hp]at hk;refine⟨_,hk,fun W hg=>?_⟩;have hm1:=hm W;have hr:=one (v:=.func (.method nm) #[.iface t w] c) W hg
   simpa [hm1] using hr
 | build t ps =>
  have h1:=Vv he (ps:=ps.toList) hx;have e:(ps.toList.map fun(i,x)=>(i,a.eval x)).toArray=ps.map fun(i,x)=>(i,a.eval x):=Va _ _;simp only[e]at h1;exact pure' (JD h1)
 | makeFunc fn first cap =>
  have h1:=YO he (xs:=cap.toList) (YO he (xs:=first.toList) hx);have e1:(first.toList.map a.eval).toArray=first.map a.eval:=Va _ _
  have e2:(cap.toList.map a.eval).toArray=cap.map a.eval:=Va _ _;rw[e1,e2]at h1;exact⟨_,h1,fun W hg=>Ub hg (m:=Instr.makeFunc fn (first.map a.eval) (cap.map a.eval)) rfl ⟨rfl,rfl,rfl⟩⟩
 | load t x =>
  have h1:=ZW he (x:=x) hx;obtain⟨p,hp,ti,ht,hl⟩:=h1;obtain⟨v,hk,hr⟩:=GM ht hl;simp only[execOp,hp];exact⟨v,hk,fun W hg=>Ub hg (m:=Instr.loadAt t (.pointer (some p))) (by simpa [Instr.loadAt,Instr.sureAddr] using hr W hg) ⟨rfl,rfl,rfl⟩⟩
 | lookup t x i ok =>
  have h1:=ZW he (x:=i) (ZW he (x:=x) hx);obtain⟨v,hr,hk⟩:=h1;exact⟨v,hk,fun W hg=>Ub hg (hr W hg) ⟨rfl,rfl,rfl⟩⟩
 | call c =>
  obtain⟨callee,az,ats⟩:=c
  cases callee with
  | value f =>
   have h1:=YO he (xs:=az.toList) (ZW he (x:=f) hx);obtain⟨g,first,cap,hf,v,hs,hk⟩:=h1;refine⟨v,hk,fun W hg=>?_⟩;have e2:(first.toList++az.toList.map a.eval++cap.toList).toArray=first++az.map a.eval++cap:=by apply Array.ext';simp
   have e:(execOp a.eval ⟨dst,.call ⟨.value f,az,ats⟩,ty,pos,af,gd⟩).run P W=(callFunc g (first.toList++az.toList.map a.eval++cap.toList).toArray).run P W:=by
    rw[e2];simp only[execOp,resolve,hf,Deferred.ofValue,pure_bind,invoke]
   rw[e];rcases hs.2 W hg with⟨⟨fn,g1,g2,g3⟩,hs⟩ | ⟨u,hr,r,L',h',er,hk',st⟩
   ·rw[WG g1 g2 g3];exact .call g _ hs
   ·rw[hr]
    cases er
    exact .val u L' h' W hk' st fun _=>rfl
  | builtin b =>
   have h1:=YO he (xs:=az.toList) hx;have ha:(az.toList.map a.eval).toArray=az.map a.eval:=Va _ _
   cases b with
   | len =>
    obtain⟨v,hv,hk⟩:=h1;have hv':az.map a.eval=#[v]:=by rw[<- ha,hv]
    have e:execOp a.eval ⟨dst,.call ⟨.builtin .len,az,ats⟩,ty,pos,af,gd⟩=(do pure (Next.value (<- Builtin.len_ ats ty #[v]))):=by
     simp [execOp,resolve,invoke,builtin,hv']
    rw[e];unfold Ygr at hk;split at hk
    ·obtain⟨u,hr,hk⟩:=hk;exact⟨u,hk,fun W hg=>Ub hg (hr W hg) ⟨rfl,rfl,rfl⟩⟩
    ·exact pure' hk
   | _=>cases hq
  | invoke r m=>cases hq
 | _=>cases hq
theorem Zub {dst:Option Tmp}{o:Op}{ty:TypeId}{pos:String}{af:Array Edge}{gd:Option (Nat×Bool)}{E:Env}{L:Own}{h:PH}{K:PK}{a:Act}
  (he:∀i v,E.lookup i=some v->a.tmps.getD i undef=v) (hq:Zki o=true) (hx:xOp P o ty E L h K) :
  ∃v,K v L h/\∀W,(execOp a.eval ⟨dst,o,ty,pos,af,gd⟩).run P W = .ok (.value v) W:=by
 have pure':∀ {m:Sem Value} {K:Value->Prop},Zjp P m K->∃v,K v/\∀W,((do pure (Next.value (<- m)):Sem Next).run P W) = .ok (.value v) W:=by
  rintro m K ⟨v,h1,h2⟩;exact⟨v,h2,fun W=>by rw[Vm (h1 W)]⟩
 cases o with
 | move x=>exact⟨_,ZW he (x:=x) hx,fun W=>rfl⟩
 | assign x=>exact⟨_,ZW he (x:=x) hx,fun W=>rfl⟩
 | pick c x y =>
  have h1:=ZW he (x:=c) hx;obtain⟨t,h2,h3,h4⟩:=h1;simp only[execOp,h2]
  cases t with
  | true=>simp only[asBool,pure_bind,if_true];exact⟨_,ZW he (x:=x) (h3 rfl),fun W=>rfl⟩
  | false=>simp only[asBool,pure_bind];exact⟨_,ZW he (x:=y) (h4 rfl),fun W=>rfl⟩
 | binOp op T x y U=>exact pure' (ZW he (x:=y) (ZW he (x:=x) hx))
 | unOp op T x=>exact pure' (ZW he (x:=x) hx)
 | convert s d x =>
  have h1:=ZW he (x:=x) hx;simp only[Zki,Bool.and_eq_true,bne_iff_ne,ne_eq]at hq;unfold xCv at h1;rw[if_neg hq.1,if_neg hq.2]at h1;exact pure' h1
 | extract x i=>exact pure' (ZW he (x:=x) hx)
 | field s x f=>exact pure' (ZW he (x:=x) hx)
 | index t x i=>exact pure' (ZW he (x:=i) (ZW he (x:=x) hx))
 | fieldAddr s x f =>
  have h1:=ZW he (x:=x) hx;obtain⟨o,ho,p,hp,hk⟩:=h1;refine⟨_,hk,fun W=>?_⟩;simp only[execOp,hp];rw[Vm (UU ho W)]
 | indexAddr t x i =>
  have h1:=ZW he (x:=i) (ZW he (x:=x) hx);obtain⟨v,hk,hr⟩:=Zdp h1;exact⟨v,hk,fun W=>by simp only[execOp];rw[Vm (hr W)]⟩
 | slice t x lo hi mx =>
  have h1:=Wt he (o:=mx) (Wt he (o:=hi) (Wt he (o:=lo) (ZW he (x:=x) hx)));exact pure' h1
 | nilCheck x =>
  have h1:=ZW he (x:=x) hx;rcases h1 with⟨p,hp,hk⟩ | ⟨t,v,hp,hk⟩ | ⟨nm,t,w,c,hp,hm,hk⟩
  ·rw[hp]at hk;exact⟨_,hk,fun W=>by simp only[execOp,hp];rfl⟩
  ·rw[hp]at hk;exact⟨_,hk,fun W=>by simp only[execOp,hp];rfl⟩
  ·rw[hp]at hk;exact⟨_,hk,fun W=>by have hm1:=hm W;simp [execOp,hp,hm1]⟩
 | build t ps =>
  have h1:=Vv he (ps:=ps.toList) hx;have e:(ps.toList.map fun(i,x)=>(i,a.eval x)).toArray=ps.map fun(i,x)=>(i,a.eval x):=Va _ _;simp only[e]at h1;exact pure' (JD h1)
 | makeFunc fn first cap =>
  have h1:=YO he (xs:=cap.toList) (YO he (xs:=first.toList) hx);have e1:(first.toList.map a.eval).toArray=first.map a.eval:=Va _ _
  have e2:(cap.toList.map a.eval).toArray=cap.map a.eval:=Va _ _;rw[e1,e2]at h1;exact⟨_,h1,fun W=>rfl⟩
 | call c =>
  obtain⟨callee,az,ats⟩:=c
  cases callee with
  | builtin b =>
   have h1:=YO he (xs:=az.toList) hx;have ha:(az.toList.map a.eval).toArray=az.map a.eval:=Va _ _
   cases b with
   | len =>
    obtain⟨v,hv,hk⟩:=h1;have hv':az.map a.eval=#[v]:=by rw[<- ha,hv]
    have e:execOp a.eval ⟨dst,.call ⟨.builtin .len,az,ats⟩,ty,pos,af,gd⟩=(do pure (Next.value (<- Builtin.len_ ats ty #[v]))):=by
     simp [execOp,resolve,invoke,builtin,hv']
    rw[e];exact pure' hk
   | _=>cases hq
  | _=>cases hq
 | _=>cases hq
end Go.X

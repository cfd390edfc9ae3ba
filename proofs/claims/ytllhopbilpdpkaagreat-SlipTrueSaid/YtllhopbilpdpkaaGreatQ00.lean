/- Lemmas and contracts. Conditions: as each says. -/
import Derived.CallsIn
import Derived.Deep.Quiet
import Derived.OrdersHeld
import Derived.WalkKit
set_option linter.unusedVariables false
set_option linter.unusedSimpArgs false
set_option maxHeartbeats 12800000
set_option maxRecDepth 20000
namespace Go.X
open Go.RowKit
theorem xx {P Q:Prop}(q:Q)(h:P=Q:=by conv=>lhs;simp -dsimp -implicitDefEqProofs (disch:=first|with_reducible assumption|omega) [go_sem]):P:=Eq.mpr h q
abbrev Env:=List (Nat×Value)
class ObOf where
 o:Option Obj
instance (priority:=low) noOb:ObOf:=⟨none⟩
structure Zm where
 b:Nat
 t:TypeId
 cs:List Value
 cap:Nat
 [ob:ObOf]
abbrev Own:=List Zm
abbrev PH:=Nat→Nat→Option Value
abbrev PK:=Value→Own→PH→Prop
def noC:Nat→Option Value:=fun _=>none
structure Zk {α:Type}(_:α):Type where
structure TI where
 size:Nat
 agg:Bool
 zero:List Value
 bytes:Nat
def Zmf:TypeDesc→Bool
 | .struct _ | .array _ _=>true
 | _=>false
def tI (P:Program)(t:TypeId):Option TI :=
 match P.info? t,P.underlying t with
 | some i,some d=>match i.zero with
  | some z=>some ⟨i.size,Zmf d,z.cells.toList,i.bytes⟩
  | none=>none
 | _,_=>none
inductive Sh where
 | sl (e sz bytes:Nat)
 | ar (n e sz:Nat)
 | no
def tSh (P:Program)(t:TypeId):Sh :=
 match P.underlying t with
 | some (.slice e)=>match P.info? e with
  | some i => .sl e i.size i.bytes
  | none => .no
 | some (.array n e)=>match P.info? e with
  | some i => .ar n e i.size
  | none => .no
 | _ => .no
def Yvl (P:Program)(s f:Nat):Option Nat :=
 match P.underlying s with
 | some (.struct fs)=>match fs[f]? with
  | some fd=>match P.info? fd.type with
   | some i=>if i.size=0 then none else some fd.offset
   | none=>none
  | none=>none
 | _=>none
def xIf (b:Bool)(A B:Prop)(_:Zk A:=⟨⟩)(_:Zk B:=⟨⟩):Prop:=(b=true→A)∧(b=false→B)
def UU {α:Type}(v:α)(K:α→Prop)(_:Zk K:=⟨⟩):Prop:=K v
def Jh (E:Env)(i:Nat)(K:Value→Prop)(_:Zk K:=⟨⟩):Prop:=∃v,E.lookup i=some v∧K v
def Wd (E:Env)(x:Operand)(K:Value→Prop)(_:Zk K:=⟨⟩):Prop :=
 match x with
 | .tmp i=>Jh E i K
 | .const v=>K v
 | .global g=>K (.pointer (some ⟨g,0,none⟩))
 | .func f=>K (.func (.func f) #[] #[])
def Uc (E:Env):List Operand→(List Value→Prop)→Prop
 | [],K=>K []
 | x::xs,K=>Wd E x fun v=>Uc E xs fun vs=>K (v::vs)
def Zqn (v:Value)(K:Bool→Prop)(_:Zk K:=⟨⟩):Prop:=∃b,v = .bool b∧K b
def Zgu (P:Program)(m:Sem Value)(K:Value→Prop)(_:Zk K:=⟨⟩):Prop:=∃v,(∀W,m.run P W = .ok v W)∧K v
def xTI (P:Program)(t:TypeId)(K:TI→Prop)(_:Zk K:=⟨⟩):Prop:=∃ti,tI P t=some ti∧K ti
def xFO (P:Program)(s f:Nat)(K:Nat→Prop)(_:Zk K:=⟨⟩):Prop:=∃o,Yvl P s f=some o∧K o
def Jc (P:Program)(op:BinOp)(T:TypeId)(x y:Operand)(a b:Value)(K:Value→Prop)(_:Zk K:=⟨⟩):Prop:=Zgu P (do eqGuard op T x y a b;binOp op T a b) K
def xUn (P:Program)(op:UnOp)(a:Value)(K:Value→Prop)(_:Zk K:=⟨⟩):Prop:=Zgu P (Op.unary op a) K
def Zdj (P:Program)(s d:TypeId)(a:Value)(K:Value→Prop)(_:Zk K:=⟨⟩):Prop:=Zgu P (convert s d a) K
def Yvf (P:Program)(a:Value)(i:Nat)(K:Value→Prop)(_:Zk K:=⟨⟩):Prop:=Zgu P (Instr.extract a i) K
def xFld (P:Program)(s:TypeId)(a:Value)(f:Nat)(K:Value→Prop)(_:Zk K:=⟨⟩):Prop:=Zgu P (Instr.field s a f) K
def Zda (a:Value)(o:Nat)(K:Value→Prop)(_:Zk K:=⟨⟩):Prop:=∃p,a = .pointer (some p)∧K (.pointer (some (p.add o)))
def xFA (P:Program)(s:TypeId)(a:Value)(f:Nat)(K:Value→Prop)(_:Zk K:=⟨⟩):Prop:=xFO P s f fun o=>Zda a o K
def xIA (s:Sh)(a i:Value)(K:Value→Prop)(_:Zk K:=⟨⟩):Prop :=
 match s with
 | .sl _ sz _=>∃q n c k j,a = .slice (some q) n c∧i = .int k j∧0≤j∧j<(n:Int)∧K (.pointer (some (q.add (j.toNat*sz))))
 | .ar n _ sz=>∃q k j,a = .pointer (some q)∧i = .int k j∧0≤j∧j<(n:Int)∧K (.pointer (some (q.add (j.toNat*sz))))
 | .no=>False
def xIx (P:Program)(t:TypeId)(a i:Value)(K:Value→Prop)(_:Zk K:=⟨⟩):Prop:=Zgu P (Instr.index t a i) K
def xSl (P:Program)(t:TypeId)(a:Value)(l h m:Option Value)(K:Value→Prop)(_:Zk K:=⟨⟩):Prop:=Zgu P (Instr.sliceAt t a l h m) K
def xMI (P:Program)(t:TypeId)(a:Value)(K:Value→Prop)(_:Zk K:=⟨⟩):Prop:=Zgu P (Instr.makeInterface t a) K
def xNC (P:Program)(a:Value)(K:Value→Prop)(_:Zk K:=⟨⟩):Prop:=(∃p,a = .pointer (some p)∧K a)∨(∃t v,a = .iface t v∧K a)∨∃name t w c,a = .func (.method name) #[.iface t w] c∧(∀W,(nilAhead (P.types.size+Made.depth) t w name).run P W = .ok (some false) W)∧K a
def xTA (P:Program)(a:Value)(s t:TypeId)(ok:Bool)(K:Value→Prop)(_:Zk K:=⟨⟩):Prop:=Zgu P (Instr.typeAssert a s t ok) K
def Zch (P:Program)(t:TypeId)(ats:Array TypeId)(a:Value)(K:Value→Prop)(_:Zk K:=⟨⟩):Prop:=Zgu P (Builtin.len_ ats t #[a]) K
def xMM (P:Program)(mx:Bool)(ats:Array TypeId)(t:TypeId)(az:List Value)(K:Value→Prop)(_:Zk K:=⟨⟩):Prop:=Zgu P (if mx then Builtin.max_ ats t az.toArray else Builtin.min_ ats t az.toArray) K
def UN (a:Option Addr)(j:Nat):Option Addr:=a.map (·.add j)
def UK:Own→Nat→Nat→Option Value
 | [],_,_=>none
 | e::L,b,o=>if e.b=b then (if e.t=4294967295 then none else e.cs[o]?) else UK L b o
def Zfq (L:Own)(h:PH)(p:Option Addr)(j:Nat):Option Value :=
 match p with
 | none=>none
 | some q=>if (q.add j).spot=none then (match h (q.add j).block (q.add j).off with|some v=>some v|none=>UK L (q.add j).block (q.add j).off) else none
def Yd (h:PH)(a:Option Addr)(j:Nat):Option Value :=
 match a with
 | none=>none
 | some q=>if (q.add j).spot=none then h (q.add j).block (q.add j).off else none
def Znm (v:Value)(K:Option Addr→Prop)(_:Zk K:=⟨⟩):Prop:=∃p,v = .pointer (some p)∧K (some p)
def Ygo (x:Option Value)(K:Value→Prop)(_:Zk K:=⟨⟩):Prop:=∃v,x=some v∧K v
def Jb (L:Own)(h:PH)(p:Option Addr)(j:Nat)(K:Value→Prop)(_:Zk K:=⟨⟩):Prop:=Ygo (Zfq L h p j) K ⟨⟩
def Zal (L:Own)(b o:Nat)(K:Value→Prop)(_:Zk K:=⟨⟩):Prop:=∃v,UK L b o=some v∧K v
def Wz (cs:List Value)(o:Nat)(K:Value→Prop)(_:Zk K:=⟨⟩):Prop:=∃v,cs[o]?=some v∧K v
def Gl (L:Own)(h:PH)(p:Option Addr):Nat→Nat→(List Value→Prop)→Prop
 | _,0,K=>K []
 | j,n+1,K=>Jb L h p j fun v=>Gl L h p (j+1) n fun vs=>K (v::vs)
def xLd (ti:TI)(L:Own)(h:PH)(p:Option Addr)(K:Value→Prop)(_:Zk K:=⟨⟩):Prop :=
 match ti.agg with
 | true=>Gl L h p 0 ti.size fun cs=>K (.agg cs.toArray)
 | false=>Jb L h p 0 K
def wr (cs:List Value)(o:Nat):List Value→List Value
 | []=>cs
 | v::vs=>wr (cs.set o v) (o+1) vs
def bPl (P:Program)(t:TypeId):Option (List Value×List (Nat×Nat)) :=
 match P.underlying t,tI P t with
 | some (.struct fs),some ti=>(fs.toList.mapM fun f=>(P.info? f.type).map fun i=>(f.offset,i.size)).map fun pl=>(ti.zero,pl)
 | some (.array n e),some ti=>(P.info? e).map fun i=>(ti.zero,(List.range n).map fun k=>(k*i.size,i.size))
 | _,_=>none
def YC (z:List Value)(pl:List (Nat×Nat)):List (Nat×Value)→(List Value→Prop)→Prop
 | [],K=>K z
 | (i,v)::ps,K=>match pl[i]? with
  | some (off,size)=>v.cells.size=size∧off+size≤z.length∧UU (wr z off v.cells.toList) fun z'=>YC z' pl ps K
  | none=>False
def Wj (P:Program)(t:TypeId)(ps:Array (Nat×Value))(K:Value→Prop)(_:Zk K:=⟨⟩):Prop :=
 ∃z pl,bPl P t=some (z,pl)∧YC z pl ps.toList fun z'=>K (.agg z'.toArray)
def Zai (L:Own)(b o:Nat)(vs:List Value)(K:Own→Prop)(_:Zk K:=⟨⟩):Prop :=
 match L with
 | []=>False
 | e::L=>(e.b=b→e.t≠4294967295∧o+vs.length≤e.cs.length∧vs.all Value.oneCell'=true∧K (⟨e.b,e.t,wr e.cs o vs,e.cap⟩::L))∧(e.b≠b→Zai L b o vs fun L'=>K (e::L'))
def xSt (ti:TI)(L:Own)(p:Option Addr)(v:Value)(K:Own→Prop)(_:Zk K:=⟨⟩):Prop :=
 ∃b o,p=some ⟨b,o,none⟩∧v.cells.size=ti.size∧Zai L b o v.cells.toList K
def ZT (b:Nat):Own→Prop
 | []=>True
 | e::L=>e.b≠b∧ZT b L
def Zsc (L:Own)(h:PH)(T:TypeId)(cs:List Value)(K:Nat→Own→Prop)(_:Zk K:=⟨⟩):Prop:=T≠4294967295∧∀b,ZT b L→h b=noC→K b (⟨b,T,cs,cs.length⟩::L)
def Zii (L:Own)(h:PH)(K:Nat→Own→Prop)(_:Zk K:=⟨⟩):Prop:=∀b,ZT b L→h b=noC→K b (⟨b,4294967295,[],0⟩::L)
def bSl (P:Program)(t n:Nat):Option (TypeId×List Value×List (Nat×Nat)) :=
 match P.underlying t with
 | some (.slice e)=>match tI P e with
  | some ti=>if n*ti.size>2 ^ 24∨ti.size=0 then none else some (e,(List.range (n*ti.size)).map (fun j=>ti.zero.toArray[j%ti.zero.toArray.size]!),(List.range n).map fun i=>(i*ti.size,ti.size))
  | none=>none
 | _=>none
def xBS (P:Program)(t len:Nat)(ps:Array (Nat×Value))(K:TypeId→List Value→Prop)(_:Zk K:=⟨⟩):Prop :=
 ∃e z pl,bSl P t len=some (e,z,pl)∧YC z pl ps.toList fun cs=>K e cs
def xMS (P:Program)(t:Nat)(l c:Value)(K:TypeId→List Value→Nat→Nat→Prop)(_:Zk K:=⟨⟩):Prop :=
 ∃T cs n m,(∀W:World,(Instr.makeSlice t l c).run P W = .ok (.slice (some ⟨W.heap.size,0,none⟩) n m) (W.alloc (.cells cs T)))∧K T cs.toList n m
def BlkIs (e:Zm)(o:Option Obj):Prop :=
 if e.t=4294967295 then (match e.ob.o with|some x=>o=some x|none=>∃es ck,o=some (.map es ck)∧es.toList.map (fun x=>Value.tuple #[x.key,x.val])=e.cs)
 else ∃full,o=some (.cells full e.t (0,0))∧full.size=e.cap∧∀(i:Nat) v,e.cs[i]?=some v→full[i]?=some v
theorem BlkIs.cells {e:Zm}{o:Option Obj}(h:BlkIs e o)(ht:e.t≠4294967295):∃full,o=some (.cells full e.t (0,0))∧full.size=e.cap∧∀(i:Nat) v,e.cs[i]?=some v→full[i]?=some v:=by
 unfold BlkIs at h;rwa [if_neg ht]at h
theorem BlkIs.map {e:Zm}{o:Option Obj}(h:BlkIs e o)(ht:e.t=4294967295)(ho:e.ob.o=none:=by rfl):∃es ck,o=some (.map es ck)∧es.toList.map (fun x=>Value.tuple #[x.key,x.val])=e.cs:=by
 unfold BlkIs at h;rwa [if_pos ht,ho]at h
theorem BlkIs.at {e:Zm}{o:Option Obj}(h:BlkIs e o)(ht:e.t=4294967295){x:Obj}(ho:e.ob.o=some x):o=some x:=by
 unfold BlkIs at h;rwa [if_pos ht,ho]at h
theorem BlkIs.mk {e:Zm}{o:Option Obj}(ht:e.t≠4294967295)(h:∃full,o=some (.cells full e.t (0,0))∧full.size=e.cap∧∀(i:Nat) v,e.cs[i]?=some v→full[i]?=some v):BlkIs e o:=by
 unfold BlkIs;rwa [if_neg ht]
theorem BlkIs.mkMap {e:Zm}{o:Option Obj}(ht:e.t=4294967295)(h:∃es ck,o=some (.map es ck)∧es.toList.map (fun x=>Value.tuple #[x.key,x.val])=e.cs)(ho:e.ob.o=none:=by rfl):BlkIs e o:=by
 unfold BlkIs;rwa [if_pos ht,ho]
theorem BlkIs.mkAt {e:Zm}{o:Option Obj}(ht:e.t=4294967295){x:Obj}(ho:e.ob.o=some x)(h:o=some x):BlkIs e o:=by
 unfold BlkIs;rwa [if_pos ht,ho]
theorem BlkIs.some {e:Zm}{o:Option Obj}(h:BlkIs e o):o≠none:=by
 unfold BlkIs at h;split at h
 ·split at h
  ·rw[h];simp
  ·obtain⟨_,_,h,_⟩:=h;rw[h];simp
 ·obtain⟨_,h,_⟩:=h;rw[h];simp
structure Zl (L:Own)(h:PH)(W:World):Prop where
 sub:∀b o v,h b o=some v→W.cell? ⟨b,o,none⟩=some v
 own:∀e∈L,BlkIs e W.heap[e.b]?
 nodup:(L.map Zm.b).Nodup
 apart:∀e∈L,h e.b=noC
structure Zt (M:List Nat)(W W':World):Prop where
 os:W'.os=W.os
 tape:W'.tape=W.tape
 output:W'.output=W.output
 size:W.heap.size≤W'.heap.size
 block:∀k,k<W.heap.size→k ∉ M→W'.heap[k]?=W.heap[k]?
def Step (L:Own)(W:World)(L':Own)(h':PH)(W':World):Prop :=
 Zl L' h' W'∧Zt (L.map Zm.b) W W'∧∀e∈L',e.b∈L.map Zm.b∨W.heap.size≤e.b
def V9 (P : Program) (f : FuncId) : Prop := ∃ fn, P.funcs[f]? = some fn ∧ (fn.name == "runtime.NumGoroutine") = false ∧ fn.body.isNone = false
def XCalls (P:Program)(f:FuncId)(args:Array Value)(W:World)(R:Ending→World→Prop):Prop :=
 (V9 P f∧Calls P f args W R)∨∃v,(callFunc f args).run P W = .ok (.value v) W∧R (.returned v) W
theorem XCalls.mono {P:Program}{f:FuncId}{args:Array Value}{W:World}{R R':Ending→World→Prop}(hs:XCalls P f args W R)(hk:∀e W',R e W'→R' e W'):XCalls P f args W R':=by
 rcases hs with⟨hc,hs⟩ | ⟨v,hr,hs⟩
 ·exact .inl ⟨hc,hs.mono hk⟩
 ·exact .inr ⟨v,hr,hk _ _ hs⟩
def Zc (P:Program)(f:FuncId)(args:List Value)(L:Own)(h:PH)(K:PK):Prop :=
 True∧∀W,Zl L h W→XCalls P f args.toArray W fun e W'=>∃r L' h',e = .returned r∧K r L' h'∧Step L W L' h' W'
def JX (P:Program)(f:FuncId)(args:List Value)(L:Own)(h:PH)(K:PK)(_:Zk K:=⟨⟩):Prop:=Zc P f args L h K
def Ylb (P:Program)(m:Sem Value)(L:Own)(h:PH)(K:Value→Prop)(_:Zk K:=⟨⟩):Prop:=∃v,(∀W,Zl L h W→m.run P W = .ok v W)∧K v
def xDo (P:Program)(m:Sem Unit)(L:Own)(h:PH)(K:Own→PH→Prop)(_:Zk K:=⟨⟩):Prop :=
 ∀W,Zl L h W→∃L' h' W',m.run P W = .ok () W'∧K L' h'∧Step L W L' h' W'
def Zez (P:Program)(m:Sem Value)(L:Own)(h:PH)(K:PK)(_:Zk K:=⟨⟩):Prop :=
 ∀W,Zl L h W→∃r L' h' W',m.run P W = .ok r W'∧K r L' h'∧Step L W L' h' W'
def Zci (P:Program)(fv:Value)(vs:List Value)(L:Own)(h:PH)(K:PK)(_:Zk K:=⟨⟩):Prop :=
 ∃f first cap,fv = .func (.func f) first cap∧JX P f (first.toList++vs++cap.toList) L h K ⟨⟩
def Yro (P:Program)(rv:Value)(name:String)(vs:List Value)(L:Own)(h:PH)(K:PK)(_:Zk K:=⟨⟩):Prop :=
 ∃t w f u,rv = .iface t w∧(∀W,(method (P.types.size+Made.depth) t w name).run P W = .ok (f,u) W)∧JX P f (u::vs) L h K ⟨⟩
def YSpec (P:Program)(l:Nat)(args:List Value)(L:Own)(h:PH)(K:PK):Prop :=
 True∧∀W,Zl L h W→∃fn tmps assign body,(Instr.yield l args.toArray).run P W = .ok (.round l fn tmps assign body) W ∧
  RoundIn Fence.wide 0 P l fn tmps assign body W fun e W'=>∃r L' h',e = .returned r∧K r L' h'∧Step L W L' h' W'
def Ydu (P:Program)(l:Nat)(args:List Value)(L:Own)(h:PH)(K:PK)(_:Zk K:=⟨⟩):Prop:=YSpec P l args L h K
def Zmq (P:Program)(fv:Value)(vs:List Value)(L:Own)(h:PH)(K:PK)(_:Zk K:=⟨⟩):Prop :=
 Zci P fv vs L h K∨∃l,fv = .func (.yield l) #[] #[]∧Ydu P l vs L h K ⟨⟩
def Ub (P:Program)(b:Builtin)(ats:Array TypeId)(ty:TypeId)(vs:List Value)(L:Own)(h:PH)(K:PK)(_:Zk K:=⟨⟩):Prop :=
 match b with
 | .len=>∃v,vs=[v]∧Zch P ty ats v fun r=>UU r (fun r=>K r L h) ⟨⟩
 | .max=>xMM P true ats ty vs fun r=>UU r (fun r=>K r L h) ⟨⟩
 | .min=>xMM P false ats ty vs fun r=>UU r (fun r=>K r L h) ⟨⟩
 | .append=>Zez P (Builtin.append_ ats ty vs.toArray) L h K ⟨⟩
 | .copy=>Zez P (Builtin.copy_ ats ty vs.toArray) L h K ⟨⟩
 | .clear=>Zez P (Builtin.clear_ ats ty vs.toArray) L h K ⟨⟩
 | .cap=>Zez P (Builtin.cap_ ats ty vs.toArray) L h K ⟨⟩
 | _=>False
def xCv (P:Program)(s d:TypeId)(a:Value)(L:Own)(h:PH)(K:PK)(_:Zk K:=⟨⟩):Prop :=
 if s=d then Zez P (convert s d a) L h K
 else if d=9 then Ylb P (convert s d a) L h fun v=>K v L h
 else Zdj P s d a fun v=>UU v (fun v=>K v L h) ⟨⟩
def Yri (P:Program)(ty:TypeId)(ats:Array TypeId)(v:Value)(L:Own)(h:PH)(K:Value→Prop)(_:Zk K:=⟨⟩):Prop :=
 match v with
 | .map (some r)=>Ylb P (Builtin.len_ ats ty #[.map (some r)]) L h K
 | v=>Zch P ty ats v K
def Zrh (P:Program)(b:Builtin)(ats:Array TypeId)(ty:TypeId)(vs:List Value)(L:Own)(h:PH)(K:Value→Prop)(_:Zk K:=⟨⟩):Prop :=
 match b with
 | .len=>∃v,vs=[v]∧Yri P ty ats v L h fun r=>UU r K ⟨⟩
 | _=>False
def JG (E:Env):List (Nat×Operand)→(List (Nat×Value)→Prop)→Prop
 | [],K=>K []
 | (i,x)::xs,K=>Wd E x fun v=>JG E xs fun vs=>K ((i,v)::vs)
def Zdm (E:Env):Option Operand→(Option Value→Prop)→Prop
 | none,K=>K none
 | some x,K=>Wd E x fun v=>K (some v)
def xOp (P:Program)(o:Op)(ty:TypeId)(E:Env)(L:Own)(h:PH)(K:PK)(_:Zk K:=⟨⟩):Prop :=
 match o with
 | .move x | .assign x=>Wd E x fun v=>K v L h
 | .pick c a b=>Wd E c fun v=>Zqn v fun t=>xIf t (Wd E a fun v=>K v L h) (Wd E b fun v=>K v L h) ⟨⟩ ⟨⟩
 | .binOp op T x y _=>Wd E x fun a=>Wd E y fun b=>Jc P op T x y a b fun v=>UU v (fun v=>K v L h) ⟨⟩
 | .unOp op _ x=>Wd E x fun a=>xUn P op a fun v=>UU v (fun v=>K v L h) ⟨⟩
 | .convert s d x=>Wd E x fun a=>xCv P s d a L h K
 | .extract x i=>Wd E x fun a=>Yvf P a i fun v=>K v L h
 | .field s x f=>Wd E x fun a=>xFld P s a f fun v=>UU v (fun v=>K v L h) ⟨⟩
 | .fieldAddr s x f=>Wd E x fun a=>xFA P s a f fun v=>UU v (fun v=>K v L h) ⟨⟩
 | .indexAddr t x i=>Wd E x fun a=>Wd E i fun b=>xIA (tSh P t) a b (fun v=>UU v (fun v=>K v L h) ⟨⟩) ⟨⟩
 | .index t x i=>Wd E x fun a=>Wd E i fun b=>xIx P t a b fun v=>UU v (fun v=>K v L h) ⟨⟩
 | .slice t x lo hi mx=>Wd E x fun a=>Zdm E lo fun l=>Zdm E hi fun u=>Zdm E mx fun m=>xSl P t a l u m fun v=>UU v (fun v=>K v L h) ⟨⟩
 | .nilCheck x=>Wd E x fun a=>xNC P a fun v=>K v L h
 | .build t ps=>JG E ps.toList fun vs=>Wj P t vs.toArray fun v=>UU v (fun v=>K v L h) ⟨⟩
 | .makeInterface t x=>Wd E x fun a=>xMI P t a fun v=>K v L h
 | .makeFunc fn first cap=>Uc E first.toList fun f=>Uc E cap.toList fun c=>K (.func fn f.toArray c.toArray) L h
 | .load t x=>Wd E x fun v=>Znm v fun p=>xTI P t fun ti=>xLd ti L h p fun v=>K v L h
 | .store t x y=>Wd E x fun v=>Wd E y fun u=>Znm v fun p=>xTI P t fun ti=>xSt ti L p u fun L'=>K undef L' h
 | .alloc t=>xTI P t fun ti=>Zsc L h t ti.zero (fun b L'=>K (.pointer (some ⟨b,0,none⟩)) L' h) ⟨⟩
 | .box t x=>Wd E x fun v=>Zsc L h t v.cells.toList (fun b L'=>K (.pointer (some ⟨b,0,none⟩)) L' h) ⟨⟩
 | .buildSlice t n ps=>JG E ps.toList fun vs=>xBS P t n vs.toArray fun T cs=>Zsc L h T cs (fun b L'=>K (.slice (some ⟨b,0,none⟩) n n) L' h) ⟨⟩
 | .makeSlice t l c=>Wd E l fun l=>Wd E c fun c=>xMS P t l c fun T cs n m=>Zsc L h T cs (fun b L'=>K (.slice (some ⟨b,0,none⟩) n m) L' h) ⟨⟩
 | .makeMap _ none=>Zii L h (fun b L'=>K (.map (some b)) L' h) ⟨⟩
 | .lookup t x i ok=>Wd E x fun m=>Wd E i fun k=>Ylb P (Instr.lookup t m k ok) L h fun v=>K v L h
 | .mapUpdate t x i y=>Wd E x fun m=>Wd E i fun k=>Wd E y fun u=>xDo P (Instr.mapUpdate t m k u) L h fun L' h'=>K undef L' h'
 | .call c=>match c.callee with
  | .value f=>Wd E f fun fv=>Uc E c.args.toList fun vs=>Zci P fv vs L h K
  | .builtin b=>Uc E c.args.toList fun vs=>Ub P b c.argTypes ty vs L h K
  | .invoke r m=>Wd E r fun rv=>Uc E c.args.toList fun vs=>Yro P rv m vs L h K
 | .typeAssert x s t ok=>Wd E x fun a=>xTA P a s t ok fun v=>K v L h
 | _=>False
def UW (P:Program)(o:Op)(ty:TypeId)(E:Env)(L:Own)(h:PH)(K:PK)(_:Zk K:=⟨⟩):Prop :=
 match o with
 | .call ⟨.value f,az,_⟩=>Wd E f fun fv=>Uc E az.toList fun vs=>Zmq P fv vs L h K
 | o=>xOp P o ty E L h K
def Jn:List Oper→Nat→Option Tmp
 | [],_=>none
 | o::_,0=>o.dst
 | _::os,n+1=>Jn os n
def cons (d:Option Tmp)(v:Value)(E:Env):Env :=
 match d with
 | some d=>(d,v)::E
 | none=>E
def xGd (v:Value)(want:Bool)(K:Bool→Prop)(_:Zk K:=⟨⟩):Prop:=(∃b,v = .bool b∧K (b == want))∨(v=undef∧K false)
def xG (E:Env)(d:Option Tmp)(want:Bool)(K:Bool→Prop)(_:Zk K:=⟨⟩):Prop:=∃t,d=some t∧Jh E t fun v=>xGd v want K
def Zia (P:Program)(ops:List Oper)(Q:Env→Own→PH→Prop):List Oper→Env→Own→PH→Prop
 | [],E,L,h=>Q E L h
 | o::rest,E,L,h =>
  match o.guard with
  | none=>UW P o.op o.type E L h fun v L h=>Zia P ops Q rest (cons o.dst v E) L h
  | some (j,want)=>xG E (Jn ops j) want (fun t=>xIf t (UW P o.op o.type E L h fun v L h=>Zia P ops Q rest (cons o.dst v E) L h) (Zia P ops Q rest (cons o.dst undef E) L h) ⟨⟩ ⟨⟩) ⟨⟩
abbrev J2:=Exit→Env→Own→PH→Prop
def thn (k:Env→Own→PH→Prop)(Q:J2):J2:=fun e E L h =>
 match e with
 | .normal=>k E L h
 | e=>Q e E L h
def inB (id:Nat)(Q:J2):J2:=fun e E L h =>
 match e with
 | .exit i=>if i=id then Q .normal E L h else Q (.exit i) E L h
 | e=>Q e E L h
def noG (Q:J2):J2:=fun e E L h =>
 match e with
 | .goto _=>False
 | e=>Q e E L h
def UG:Op→Bool
 | .convert s d _=>s != d
 | .move _ | .assign _ | .pick .. | .binOp .. | .unOp .. | .extract .. | .field .. | .fieldAddr .. | .indexAddr .. | .index .. | .slice .. | .nilCheck _ | .build .. | .makeFunc .. | .load .. | .lookup .. => true
 | .call c=>match c.callee with
  | .value _=>true
  | .builtin .len=>true
  | _=>false
 | _=>false
def Zwy (P:Program)(f:FuncId)(args:List Value)(L:Own)(h:PH)(K:Value→Prop)(_:Zk K:=⟨⟩):Prop :=
 ∃v,Zc P f args L h (fun v' L' h'=>v'=v∧L'=L∧h'=h)∧K v
def Zik (P:Program)(fv:Value)(vs:List Value)(L:Own)(h:PH)(K:Value→Prop)(_:Zk K:=⟨⟩):Prop :=
 ∃f first cap,fv = .func (.func f) first cap∧Zwy P f (first.toList++vs++cap.toList) L h K
def Zgb (P:Program)(o:Op)(ty:TypeId)(E:Env)(L:Own)(h:PH)(K:Value→Prop)(_:Zk K:=⟨⟩):Prop :=
 match o with
 | .call c=>match c.callee with
  | .value f=>Wd E f fun fv=>Uc E c.args.toList fun vs=>Zik P fv vs L h K
  | .builtin b=>Uc E c.args.toList fun vs=>Zrh P b c.argTypes ty vs L h K
  | .invoke _ _=>False
 | o=>xOp P o ty E L h fun v _ _=>K v
def Jy (P:Program)(ops:List Oper)(Q:Env→Prop)(L:Own)(h:PH):List Oper→Env→Prop
 | [],E=>Q E
 | o::rest,E =>
  match o.guard with
  | none=>Zgb P o.op o.type E L h fun v=>Jy P ops Q L h rest (cons o.dst v E)
  | some (j,want)=>xG E (Jn ops j) want (fun t=>xIf t (Zgb P o.op o.type E L h fun v=>Jy P ops Q L h rest (cons o.dst v E)) (Jy P ops Q L h rest (cons o.dst undef E)) ⟨⟩ ⟨⟩) ⟨⟩
def Zhl:Op→Bool
 | .convert s d _=>s != d&&d != 9
 | .move _ | .assign _ | .pick .. | .binOp .. | .unOp .. | .extract .. | .field .. | .fieldAddr .. | .indexAddr .. | .index .. | .slice .. | .nilCheck _ | .build .. | .makeFunc .. => true
 | .call c=>match c.callee with
  | .builtin .len=>true
  | _=>false
 | _=>false
def Zno:Op→Bool
 | .load .. => true
 | _=>false
def Zeh:Op→Bool
 | .store .. => true
 | _=>false
def Vw (ops:Array Oper)(i:Nat):Bool:=match ops[i]? with
 | some o => !Zeh o.op
 | none=>true
def Zic (ops:Array Oper)(l:Array Bool)(i:Nat):Bool:=(List.range ops.size).all fun j=>j == i||(l.getD j true||match ops[j]? with
 | some o => !Zeh o.op||o.after.any (fun e=>Region.binds .any e&&e.on == i)
 | none=>true)
inductive Pl where
 | fin
 | nil
 | tk (i:Nat) (t:Pl)
 | tkl (i:Nat) (t:Pl)
 | or (k:Bool) (i:Nat) (t r:Pl)
abbrev Pl.o1:=Pl.or true
abbrev Pl.o2:=Pl.or false
def Pl.heads:Pl→List Nat
 | .or _ i _ r=>i::r.heads
 | _=>[]
def Pl.ok (ops:Array Oper):Pl→Bool→Nat→Array Bool→Bool
 | .fin,top,_,l=>top&&(Region.ready .any ops l).isEmpty
 | .nil,top,_,_ => !top
 | .tk i t,top,n,l=>top&&(Region.free .any ops l i&&(Region.ready .any ops l).contains i&&((ops[i]?).map fun o=>Zhl o.op).getD false&&(match n with
  | 0=>false
  | m+1=>t.ok ops true m (l.setIfInBounds i true)))
 | .tkl i t,top,n,l=>top&&(Region.free .any ops l i&&(Region.ready .any ops l).contains i&&((ops[i]?).map fun o=>Zno o.op).getD false&&Zic ops l i&&(match n with
  | 0=>false
  | m+1=>t.ok ops true m (l.setIfInBounds i true)))
 | .or k i t r,top,n,l=>(!top||decide (Region.ready .any ops l=i::r.heads))&&(k == Vw ops i)&&(match n with
  | 0=>false
  | m+1=>t.ok ops true m (l.setIfInBounds i true))&&r.ok ops false n l
def xAt (P:Program)(ops:List Oper)(L:Own)(h:PH)(E:Env)(K:Env→Own→PH→Prop):List Oper→Nat→Prop
 | [],_=>False
 | _::os,n+1=>xAt P ops L h E K os n
 | o::_,0=>match o.guard with
  | none=>xOp P o.op o.type E L h fun v L h=>K (cons o.dst v E) L h
  | some (j,want)=>xG E (Jn ops j) want (fun t=>xIf t (xOp P o.op o.type E L h fun v L h=>K (cons o.dst v E) L h) (K (cons o.dst undef E) L h) ⟨⟩ ⟨⟩) ⟨⟩
def Kp (s:Option (Own×PH))(L:Own)(h:PH):Prop :=
 match s with
 | none=>True
 | some (L0,h0)=>∀W,Zl L h W→Zl L0 h0 W
def kS (k:Bool)(s:Option (Own×PH)):Option (Own×PH) :=
 match k with
 | true=>s
 | false=>none
def xKp (s:Option (Own×PH))(L:Own)(h:PH)(A:Prop)(_:Zk A:=⟨⟩):Prop:=Kp s L h∧A
def xPl (P:Program)(ops:List Oper)(Q:Env→Own→PH→Prop)(s:Option (Own×PH)):Pl→Env→Own→PH→Prop
 | .fin,E,L,h=>Q E L h
 | .nil,_,_,_=>True
 | .tk i t,E,L,h=>xAt P ops L h E (xPl P ops Q s t) ops i
 | .tkl i t,E,L,h=>∃L0 h0,s=some (L0,h0)∧xAt P ops L0 h0 E (fun E' _ _=>xPl P ops Q s t E' L h) ops i
 | .or k i t r,E,L,h=>xAt P ops L h E (fun E' L' h'=>xKp (kS k s) L' h' (xPl P ops Q (kS k s) t E' L' h') ⟨⟩) ops i∧xPl P ops Q s r E L h
def Ent (E:Env):Env→Prop
 | []=>True
 | (i,v)::F=>E.lookup i=some v∧Ent E F
def Za (L:Own)(h:PH)(L':Own)(h':PH):Prop:=∀W,Zl L h W→Zl L' h' W∧∀e∈L',e.b∈L.map Zm.b
def Uz (nt:Nat)(l:List Oper):Bool:=l.all fun o=>match o.dst with
 | some t=>decide (t<nt)
 | none=>true
def wfC (nt:Nat):Code→Bool
 | .region _ ops _=>Uz nt ops.toList
 | .seq a b | .cond _ a b=>wfC nt a&&wfC nt b
 | .block _ c | .loop c | .scope c=>wfC nt c
 | .rangeFunc _ ps assign body=>(ps.all fun p=>decide (p<nt))&&(wfC nt assign&&wfC nt body)
 | _=>true
abbrev Gv (fn:Nat)(tmps:Array Value)(ps:Array Tmp)(assign body:Code)(D:Nat)(st:LoopState)(pe:Option Code):Obj :=
 .loop { state:=st,pending:=pe,fn,tmps,params:=ps,assign,body,defers:=D }
abbrev Zkh (l:Nat)(o:Obj):Zm := @Zm.mk l 4294967295 [] 0 ⟨some o⟩
def Yfk (Q:J2)(E:Env)(L:Own)(h:PH):Option Code→Prop
 | none=>Q .normal E L h
 | some .ret=>Q .ret E L h
 | some (.exit id)=>Q (.exit id) E L h
 | _=>False
def Zvc (P:Program)(gv:Value)(ps:Array Tmp)(assign body:Code)(Q:J2)(E:Env)(L:Own)(h:PH):Prop :=
 ∃gf lb,gv = .func (.func gf) #[] lb∧V9 P gf∧∀(l D fn:Nat) (tmps:Array Value),(∀i v,E.lookup i=some v→tmps.getD i undef=v)→(ps.all fun p=>decide (p<tmps.size))=true→wfC tmps.size assign=true→wfC tmps.size body=true→ZT l L→h l=noC →
  Zc P gf (.func (.yield l) #[] #[]::lb.toList) (Zkh l (Gv fn tmps ps assign body D .ready none)::L) h fun _ L' h' =>
   ∃st jump L1,L'=Zkh l (Gv fn tmps ps assign body D st jump)::L1∧st ≠ .busy∧Yfk Q E L1 h' jump
def xC (P:Program):Code→J2→Env→Own→PH→Prop
 | .skip,Q,E,L,h=>Q .normal E L h
 | .label _,Q,E,L,h=>Q .normal E L h
 | .seq a b,Q,E,L,h=>xC P a (thn (xC P b Q) Q) E L h
 | .cond c A B,Q,E,L,h=>Wd E c fun v=>Zqn v fun t=>xIf t (xC P A Q E L h) (xC P B Q E L h) ⟨⟩ ⟨⟩
 | .block id c,Q,E,L,h=>xC P c (inB id Q) E L h
 | .scope c,Q,E,L,h=>xC P c (noG Q) E L h
 | .loop c,Q,E,L,h=>∃I:Nat→Env→Own→PH→Prop,(∃n,I n E L h) ∧
   ∀n E L h,I n E L h→∃E' L' h',Ent E E'∧Za L h L' h'∧xC P c (thn (fun E' L' h'=>∃m,m<n∧I m E' L' h') Q) E' L' h'
 | .exit id,Q,E,L,h=>Q (.exit id) E L h
 | .ret,Q,E,L,h=>Q .ret E L h
 | .region _ ops false,Q,E,L,h=>Zia P ops.toList (Q .normal) ops.toList E L h
 | .region _ ops true,Q,E,L,h=>(Region.lexB .any ops=true∧(ops.toList.all fun o=>UG o.op)=true∧Jy P ops.toList (fun E=>Q .normal E L h) L h ops.toList E) ∨
  (Region.noSelect ops=true∧∃T:Pl,T.ok ops true ops.size (Array.replicate ops.size false)=true∧∃I:Env→Own→PH→Prop,(∀E L h,I E L h→∃E' L' h',(E'=E∨Ent E E')∧Za L h L' h'∧Q .normal E' L' h')∧∃s E0 L0 h0,(E0=E∨Ent E E0)∧Za L h L0 h0∧Kp s L0 h0∧xPl P ops.toList I s T E0 L0 h0)
 | .rangeFunc g ps assign body,Q,E,L,h=>Wd E g fun gv=>Zvc P gv ps assign body Q E L h
 | _,_,_,_,_=>False
def Znw (P:Program)(L:Own)(h:PH)(E:Env):List ResultVar→(List Value→Prop)→Prop
 | [],K=>K []
 | .tmp t::rs,K=>Jh E t fun v=>Znw P L h E rs fun vs=>K (v::vs)
 | .cell a t::rs,K=>Jh E a fun v=>Znm v fun p=>xTI P t fun ti=>xLd ti L h p fun v=>Znw P L h E rs fun vs=>K (v::vs)
def Ydy:List Value→Value
 | [v]=>v
 | vs => .tuple vs.toArray
def fin (K:PK)(v:Value)(L:Own)(h:PH):Prop:=∃L' h',Za L h L' h'∧K v L' h'
def Yxd (P:Program)(rs:List ResultVar)(K:PK):J2:=fun e E L h =>
 match e with
 | .ret | .normal=>Znw P L h E rs fun vs=>fin K (Ydy vs) L h
 | _=>False
def Wo:List Value→Nat→Env
 | [],_=>[]
 | v::vs,n=>(n,v)::Wo vs (n+1)
section
variable {P:Program} {ops:Array Oper} {Q:Exit→Act→World→Prop} {S:World→Prop} {keep:Nat→Bool}
def VY (P:Program)(ops:Array Oper)(Q:Exit→Act→World→Prop)(S:World→Prop)(keep:Nat→Bool):Nat→Array Bool→Act→World→Prop
 | 0,listed,a,w=>Region.ready .any ops listed=[]∧Q .normal a w
 | fuel+1,listed,a,w =>
  (Region.ready .any ops listed=[]→Q .normal a w) ∧
  ∀i∈Region.ready .any ops listed,wpOp P ops Q i (fun a' w'=>if keep i=true then S w'∧VY P ops Q S keep fuel (listed.setIfInBounds i true) a' w' else wpAny P .any ops Q fuel (listed.setIfInBounds i true) a' w') a w
theorem Zca:∀ (fuel:Nat)(listed:Array Bool)(a:Act)(w:World),VY P ops Q S keep fuel listed a w→wpAny P .any ops Q fuel listed a w
 | 0,_,_,_,h=>h
 | fuel+1,_,_,_,h=>⟨h.1,fun i hi=>wpOp_mono (fun a' w' h'=>by
   by_cases hk:keep i=true
   ·rw[if_pos hk]at h';exact Zca fuel _ a' w' h'.2
   ·rw[if_neg hk]at h';exact h') (h.2 i hi)⟩
theorem Zfy {i:Nat}{oi:Oper}{v:Value}(hi:ops[i]?=some oi)(hki:keep i=true)(hsel:∀(j:Nat) (o:Oper) cs b,ops[j]?=some o→o.op ≠ .select cs b)
  (hQ:∀c a w,Q (.panic c) (a.put oi.dst v) w→Q (.panic c) a w) :
  ∀(fuel:Nat) (listed:Array Bool) (a:Act) (w:World),
   (∀j oj,ops[j]?=some oj→j≠i→listed.getD j true=false→(∀e∈oj.after,Region.binds .any e=true→e.on≠i)→oi.apart ops oj=true∧keep j=true) →
   i∈Region.ready .any ops listed→YieldsIf P ops S oi v a→S w →
   VY P ops Q S keep fuel (listed.setIfInBounds i true) (a.put oi.dst v) w→VY P ops Q S keep (fuel+1) listed a w:=by
 intro fuel
 induction fuel with
 | zero =>
  intro listed a w _ hr hy hS H;refine⟨fun h=>(by rw[h]at hr;cases hr),fun j hj=>?_⟩;by_cases hji:j=i
  ·subst hji;exact hy.wpOp hi hS (by rw[if_pos hki];exact⟨hS,H⟩)
  ·have:=ready_mono hj hji;rw[H.1]at this
   cases this
 | succ fuel ih =>
  intro listed a w hfree hr hy hS H;refine⟨fun h=>(by rw[h]at hr;cases hr),fun j hj=>?_⟩;by_cases hji:j=i
  ·subst hji;exact hy.wpOp hi hS (by rw[if_pos hki];exact⟨hS,H⟩)
  ·have h1:=H.2 j (ready_mono hj hji);obtain⟨hjun,oj,hoj,hall⟩:=mem_ready.1 hj;have hnot:∀e∈oj.after,Region.binds .any e=true→e.on≠i:=fun e he hb heq=>by
    have h1:=hall e he hb;have h0:=(mem_ready.1 hr).1;rw[heq]at h1;rcases Nat.lt_or_ge i listed.size with h' | h'
    ·simp [h']at h0 h1;rw[h0]at h1;cases h1
    ·simp [Array.getElem?_eq_none h']at h1
   obtain⟨hap,hkj⟩:=hfree j oj hoj hji hjun hnot;simp only[hkj,if_true]at h1 ⊢;have h2:=wpOp_putIf hoj hap (fun cs b=>hsel i oi cs b hi) (fun cs b=>hsel j oj cs b hoj) hQ hy h1;have hfree':∀k ok,ops[k]?=some ok→k≠i→(listed.setIfInBounds j true).getD k true=false →
     (∀e∈ok.after,Region.binds .any e=true→e.on≠i)→oi.apart ops ok=true∧keep k=true:=fun k ok hk hki hun hno=>by
    refine hfree k ok hk hki ?_ hno;by_cases hjk:j=k
    ·subst hjk;exact hjun
    ·rw[getD_set_ne true hjk]at hun;exact hun
   refine wpOp_mono (fun a' w' h3=>⟨h3.2.1,ih (listed.setIfInBounds j true) a' w' hfree' (ready_mono hr (Ne.symm hji)) h3.1 h3.2.1 ?_⟩) h2;rw[Array.setIfInBounds_comm _ _ hji];exact h3.2.2
theorem Zko {i:Nat}{oi:Oper}{v:Value}(hi:ops[i]?=some oi)(hki:keep i=true)(hsel:∀(j:Nat) (o:Oper) cs b,ops[j]?=some o→o.op ≠ .select cs b)
  (hQ:∀c a w,Q (.panic c) (a.put oi.dst v) w→Q (.panic c) a w) :
  ∀(fuel:Nat) (listed:Array Bool) (a:Act) (w:World),
   (∀j oj,ops[j]?=some oj→j≠i→listed.getD j true=false→(∀e∈oj.after,Region.binds .any e=true→e.on≠i)→oi.apart ops oj=true) →
   i∈Region.ready .any ops listed→Yields P ops oi v a→S w →
   VY P ops Q S keep fuel (listed.setIfInBounds i true) (a.put oi.dst v) w→VY P ops Q S keep (fuel+1) listed a w:=by
 intro fuel
 induction fuel with
 | zero =>
  intro listed a w _ hr hy hS H;refine⟨fun h=>(by rw[h]at hr;cases hr),fun j hj=>?_⟩;by_cases hji:j=i
  ·subst hji;exact hy.yieldsIf.wpOp (S:=fun _=>True) hi trivial (by rw[if_pos hki];exact⟨hS,H⟩)
  ·have:=ready_mono hj hji;rw[H.1]at this
   cases this
 | succ fuel ih =>
  intro listed a w hfree hr hy hS H;refine⟨fun h=>(by rw[h]at hr;cases hr),fun j hj=>?_⟩;by_cases hji:j=i
  ·subst hji;exact hy.yieldsIf.wpOp (S:=fun _=>True) hi trivial (by rw[if_pos hki];exact⟨hS,H⟩)
  ·have h1:=H.2 j (ready_mono hj hji);obtain⟨hjun,oj,hoj,hall⟩:=mem_ready.1 hj;have hnot:∀e∈oj.after,Region.binds .any e=true→e.on≠i:=fun e he hb heq=>by
    have h1:=hall e he hb;have h0:=(mem_ready.1 hr).1;rw[heq]at h1;rcases Nat.lt_or_ge i listed.size with h' | h'
    ·simp [h']at h0 h1;rw[h0]at h1;cases h1
    ·simp [Array.getElem?_eq_none h']at h1
   have hap:=hfree j oj hoj hji hjun hnot;have h2:=wpOp_putIf (S:=fun _=>True) hoj hap (fun cs b=>hsel i oi cs b hi) (fun cs b=>hsel j oj cs b hoj) hQ hy.yieldsIf h1;have hfree':∀k ok,ops[k]?=some ok→k≠i→(listed.setIfInBounds j true).getD k true=false →
     (∀e∈ok.after,Region.binds .any e=true→e.on≠i)→oi.apart ops ok=true:=fun k ok hk hki hun hno=>by
    refine hfree k ok hk hki ?_ hno;by_cases hjk:j=k
    ·subst hjk;exact hjun
    ·rw[getD_set_ne true hjk]at hun;exact hun
   refine wpOp_mono (fun a' w' h3=>?_) h2;have hy':Yields P ops oi v a':=h3.1.imp (fun⟨hw,hv⟩=>⟨hw,fun w=>hv w trivial⟩) id;by_cases hkj:keep j=true
   ·rw[if_pos hkj]at h3 ⊢;refine⟨h3.2.1,ih (listed.setIfInBounds j true) a' w' hfree' (ready_mono hr (Ne.symm hji)) hy' h3.2.1 ?_⟩;rw[Array.setIfInBounds_comm _ _ hji];exact h3.2.2
   ·rw[if_neg hkj]at h3 ⊢;refine wpAny_first hi hsel hQ fuel (listed.setIfInBounds j true) a' w' hfree' (ready_mono hr (Ne.symm hji)) hy' ?_;rw[Array.setIfInBounds_comm _ _ hji];exact h3.2
theorem Zpj {rs:List Nat}{fuel:Nat}{listed:Array Bool}{a:Act}{w:World}(hr:Region.ready .any ops listed=rs)(hne:rs≠[])
  (h:∀i∈rs,wpOp P ops Q i (fun a' w'=>if keep i=true then S w'∧VY P ops Q S keep fuel (listed.setIfInBounds i true) a' w' else wpAny P .any ops Q fuel (listed.setIfInBounds i true) a' w') a w):VY P ops Q S keep (fuel+1) listed a w :=
 ⟨fun h0=>absurd (hr ▸ h0) hne,hr ▸ h⟩
theorem Zjl {listed:Array Bool}{a:Act}{w:World}(hr:Region.ready .any ops listed=[])(h:Q .normal a w) :
  ∀fuel,VY P ops Q S keep fuel listed a w
 | 0=>⟨hr,h⟩
 | _+1=>⟨fun _=>h,by rw[hr];simp⟩
theorem Zhr {listed:Array Bool}{i:Nat}(h:Zic ops listed i=true)(j:Nat)(oj:Oper)(hj:ops[j]?=some oj)(hne:j≠i)(hun:listed.getD j true=false)(hno:∀e∈oj.after,Region.binds .any e=true→e.on≠i):Vw ops j=true:=by
 unfold Zic at h;rw[List.all_eq_true]at h;have h1:=h j (List.mem_range.2 (Array.getElem?_eq_some_iff.1 hj).1);simp only[hj,Bool.or_eq_true,beq_iff_eq,hne,false_or,hun,Bool.false_eq_true]at h1;simp only[Vw,hj];rcases h1 with h1|h1
 ·exact h1
 ·obtain⟨e,he,hb⟩:=Array.any_eq_true'.1 h1;simp only[Bool.and_eq_true,beq_iff_eq]at hb;exact absurd hb.2 (hno e he hb.1)
end
open Go.RowKit
variable {P:Program}
section
variable {Q:J2} {E:Env} {L:Own} {h:PH}
@[go_sem ↓] theorem xC_skip:xC P .skip Q E L h=Q .normal E L h:=rfl
@[go_sem ↓] theorem Yxo (l:Nat):xC P (.label l) Q E L h=Q .normal E L h:=rfl
@[go_sem ↓] theorem xC_seq (a b:Code):xC P (.seq a b) Q E L h=xC P a (thn (xC P b Q) Q) E L h:=rfl
@[go_sem ↓] theorem xC_cond (c:Operand)(A B:Code):xC P (.cond c A B) Q E L h=Wd E c fun v=>Zqn v fun t=>xIf t (xC P A Q E L h) (xC P B Q E L h) ⟨⟩ ⟨⟩:=rfl
@[go_sem ↓] theorem Yvx (id:Nat)(c:Code):xC P (.block id c) Q E L h=xC P c (inB id Q) E L h:=rfl
@[go_sem ↓] theorem Ywo (c:Code):xC P (.scope c) Q E L h=xC P c (noG Q) E L h:=rfl
@[go_sem ↓] theorem noG_ret:noG Q .ret E L h=Q .ret E L h:=rfl
@[go_sem ↓] theorem xC_exit (id:Nat):xC P (.exit id) Q E L h=Q (.exit id) E L h:=rfl
@[go_sem ↓] theorem xC_ret:xC P .ret Q E L h=Q .ret E L h:=rfl
@[go_sem ↓] theorem Yel (g:Operand)(ps:Array Tmp)(assign body:Code):xC P (.rangeFunc g ps assign body) Q E L h=Wd E g fun gv=>Zvc P gv ps assign body Q E L h:=rfl
@[go_sem ↓] theorem Yrj (id:Nat)(l:List Oper):xC P (.region id l.toArray false) Q E L h=Zia P l (Q .normal) l E L h:=rfl
@[go_sem ↓] theorem Yka (k:Env→Own→PH→Prop):thn k Q .normal E L h=k E L h:=rfl
@[go_sem ↓] theorem Yug (k:Env→Own→PH→Prop)(i:Nat):thn k Q (.exit i) E L h=Q (.exit i) E L h:=rfl
@[go_sem ↓] theorem thn_ret (k:Env→Own→PH→Prop):thn k Q .ret E L h=Q .ret E L h:=rfl
@[go_sem ↓] theorem Ykj (i:Nat):inB i Q .normal E L h=Q .normal E L h:=rfl
@[go_sem ↓] theorem inB_ret (i:Nat):inB i Q .ret E L h=Q .ret E L h:=rfl
@[go_sem ↓] theorem Ytr (i j:Nat):inB i Q (.exit j) E L h=if j=i then Q .normal E L h else Q (.exit j) E L h:=rfl
@[go_sem ↓] theorem Yvq (rs:List ResultVar)(K:PK):Yxd P rs K .ret E L h=Znw P L h E rs fun vs=>fin K (Ydy vs) L h:=rfl
@[go_sem ↓] theorem Ygh (rs:List ResultVar)(K:PK):Yxd P rs K .normal E L h=Znw P L h E rs fun vs=>fin K (Ydy vs) L h:=rfl
end
section
variable {Q:J2} {E:Env} {L:Own} {h:PH}
theorem Zgl {id:Nat}{l:List Oper}(hB:Region.lexB .any l.toArray=true)(hq:(l.all fun o=>UG o.op)=true)
  (hx:Jy P l (fun E=>Q .normal E L h) L h l E):xC P (.region id l.toArray true) Q E L h:=Or.inl ⟨hB,by simpa using hq,hx⟩
theorem xany {id:Nat}{l:List Oper}(T:Pl)(hs:Region.noSelect l.toArray=true)(hT:T.ok l.toArray true l.length (Array.replicate l.length false)=true)(hx:xPl P l (Q .normal) none T E L h):xC P (.region id l.toArray true) Q E L h :=
 Or.inr ⟨hs,T,by simpa using hT,Q .normal,fun E L h hq=>⟨E,L,h,Or.inl rfl,fun W hg=>⟨hg,fun e he=>List.mem_map_of_mem he⟩,hq⟩,none,E,L,h,Or.inl rfl,fun W hg=>⟨hg,fun e he=>List.mem_map_of_mem he⟩,trivial,hx⟩
theorem Yn {id:Nat}{l:List Oper}(T:Pl)(hs:Region.noSelect l.toArray=true)(hT:T.ok l.toArray true l.length (Array.replicate l.length false)=true)(L0:Own)(hd:Za L h L0 h)(hx:xPl P l (Q .normal) (some (L0,h)) T E L h):xC P (.region id l.toArray true) Q E L h :=
 Or.inr ⟨hs,T,by simpa using hT,Q .normal,fun E L h hq=>⟨E,L,h,Or.inl rfl,fun W hg=>⟨hg,fun e he=>List.mem_map_of_mem he⟩,hq⟩,some (L0,h),E,L,h,Or.inl rfl,fun W hg=>⟨hg,fun e he=>List.mem_map_of_mem he⟩,fun W hg=>(hd W hg).1,hx⟩
theorem WH {γ:Type}{id:Nat}{l:List Oper}(T:Pl)(hs:Region.noSelect l.toArray=true)(hT:T.ok l.toArray true l.length (Array.replicate l.length false)=true)(E0:Env)(L0:Own)(inv:γ→Prop)(env:γ→Env)(own:γ→Own)(ph:γ→PH)
  (hE:Ent E E0) (hd:Za L h L0 h) (hx:xPl P l (fun E L h=>∃s,inv s∧Ent E (env s)∧Za L h (own s) (ph s)) (some (L0,h)) T E0 L h) (ht:∀s,inv s→Q .normal (env s) (own s) (ph s)):xC P (.region id l.toArray true) Q E L h :=
 Or.inr ⟨hs,T,by simpa using hT,_,fun E L h ⟨s,h1,h2,h3⟩=>⟨env s,own s,ph s,Or.inr h2,h3,ht s h1⟩,some (L0,h),E0,L,h,Or.inr hE,fun W hg=>⟨hg,fun e he=>List.mem_map_of_mem he⟩,fun W hg=>(hd W hg).1,hx⟩
section
variable {ops rest:List Oper} {R K:Env→Own→PH→Prop} {s:Option (Own×PH)} {A:Prop}
@[go_sem ↓] theorem kS_true:kS true s=s:=rfl
@[go_sem ↓] theorem Yud:kS false s=none:=rfl
@[go_sem ↓] theorem Yvs (t:Zk A):xKp none L h A t=A:=by simp [xKp,Kp]
@[go_sem ↓] theorem Yxs (t:Zk A):xKp (some (L,h)) L h A t=A:=by simp [xKp,Kp]
theorem xkp {L0:Own}{h0:PH}(hd:Za L h L0 h0)(hA:A):xKp (some (L0,h0)) L h A:=⟨fun W hg=>(hd W hg).1,hA⟩
@[go_sem ↓] theorem xPl_fin:xPl P ops R s .fin E L h=R E L h:=rfl
@[go_sem ↓] theorem xPl_nil:xPl P ops R s .nil E L h=True:=rfl
@[go_sem ↓] theorem xPl_tk (i:Nat)(t:Pl):xPl P ops R s (.tk i t) E L h=xAt P ops L h E (xPl P ops R s t) ops i:=rfl
@[go_sem ↓] theorem xPl_tkl (L0:Own)(h0:PH)(i:Nat)(t:Pl):xPl P ops R (some (L0,h0)) (.tkl i t) E L h=xAt P ops L0 h0 E (fun E' _ _=>xPl P ops R (some (L0,h0)) t E' L h) ops i:=by
 simp only[xPl,Option.some.injEq,Prod.mk.injEq,exists_and_left,eq_iff_iff]
 constructor
 ·rintro⟨L1,h1,⟨rfl,rfl⟩,hx⟩;exact hx
 ·intro hx;exact⟨L0,h0,⟨rfl,rfl⟩,hx⟩
@[go_sem ↓] theorem xPl_one (k:Bool)(i:Nat)(t:Pl):xPl P ops R s (.or k i t .nil) E L h=xAt P ops L h E (fun E' L' h'=>xKp (kS k s) L' h' (xPl P ops R (kS k s) t E' L' h') ⟨⟩) ops i:=by simp [xPl]
theorem Y4 {k:Bool}{i:Nat}{t r:Pl}(h1:xAt P ops L h E (fun E' L' h'=>xKp (kS k s) L' h' (xPl P ops R (kS k s) t E' L' h') ⟨⟩) ops i)(h2:xPl P ops R s r E L h):xPl P ops R s (.or k i t r) E L h:=⟨h1,h2⟩
@[go_sem ↓] theorem Yvt (o:Oper)(n:Nat):xAt P ops L h E K (o::rest) (n+1)=xAt P ops L h E K rest n:=rfl
@[go_sem ↓] theorem Ywm (d:Nat)(o:Op)(ty:Nat)(pos:String)(af:Array Edge):xAt P ops L h E K (⟨some d,o,ty,pos,af,none⟩::rest) 0=xOp P o ty E L h fun v L h=>K ((d,v)::E) L h:=rfl
@[go_sem ↓] theorem Ywq (o:Op)(ty:Nat)(pos:String)(af:Array Edge):xAt P ops L h E K (⟨none,o,ty,pos,af,none⟩::rest) 0=xOp P o ty E L h fun _ L h=>K E L h:=rfl
@[go_sem ↓] theorem Ypu (d:Nat)(o:Op)(ty:Nat)(pos:String)(af:Array Edge)(j:Nat)(want:Bool):xAt P ops L h E K (⟨some d,o,ty,pos,af,some (j,want)⟩::rest) 0 =
  xG E (Jn ops j) want (fun t=>xIf t (xOp P o ty E L h fun v L h=>K ((d,v)::E) L h) (K ((d,undef)::E) L h) ⟨⟩ ⟨⟩) ⟨⟩:=rfl
end
variable {R:Env→Prop} {ops rest:List Oper} {ty:Nat} {K:Value→Prop}
@[go_sem ↓] theorem Yqg:Jy P ops R L h [] E=R E:=rfl
@[go_sem ↓] theorem Yko (d:Nat)(o:Op)(ty:Nat)(pos:String)(af:Array Edge) :
  Jy P ops R L h (⟨some d,o,ty,pos,af,none⟩::rest) E=Zgb P o ty E L h fun v=>Jy P ops R L h rest ((d,v)::E):=rfl
@[go_sem ↓] theorem Ygl (d:Nat)(o:Op)(ty:Nat)(pos:String)(af:Array Edge)(j:Nat)(want:Bool) :
  Jy P ops R L h (⟨some d,o,ty,pos,af,some (j,want)⟩::rest) E =
   xG E (Jn ops j) want (fun t=>xIf t (Zgb P o ty E L h fun v=>Jy P ops R L h rest ((d,v)::E)) (Jy P ops R L h rest ((d,undef)::E)) ⟨⟩ ⟨⟩) ⟨⟩:=rfl
@[go_sem ↓] theorem Ymg (f:Operand)(az:List Operand)(ats:Array Nat):Zgb P (.call ⟨.value f,az.toArray,ats⟩) ty E L h K=Wd E f fun fv=>Uc E az fun vs=>Zik P fv vs L h K:=rfl
@[go_sem ↓] theorem Yij (t:Nat)(x i:Operand)(ok:Bool):Zgb P (.lookup t x i ok) ty E L h K=xOp P (.lookup t x i ok) ty E L h fun v _ _=>K v:=rfl
@[go_sem ↓] theorem Yqf (x:Operand):Zgb P (.move x) ty E L h K=xOp P (.move x) ty E L h fun v _ _=>K v:=rfl
@[go_sem ↓] theorem Yis (x:Operand):Zgb P (.assign x) ty E L h K=xOp P (.assign x) ty E L h fun v _ _=>K v:=rfl
@[go_sem ↓] theorem Yrm (c x y:Operand):Zgb P (.pick c x y) ty E L h K=xOp P (.pick c x y) ty E L h fun v _ _=>K v:=rfl
@[go_sem ↓] theorem Yjm (op:BinOp)(T U:Nat)(x y:Operand):Zgb P (.binOp op T x y U) ty E L h K=xOp P (.binOp op T x y U) ty E L h fun v _ _=>K v:=rfl
@[go_sem ↓] theorem Ynn (op:UnOp)(T:Nat)(x:Operand):Zgb P (.unOp op T x) ty E L h K=xOp P (.unOp op T x) ty E L h fun v _ _=>K v:=rfl
@[go_sem ↓] theorem Zyj (s f:Nat)(x:Operand):Zgb P (.fieldAddr s x f) ty E L h K=xOp P (.fieldAddr s x f) ty E L h fun v _ _=>K v:=rfl
@[go_sem ↓] theorem Zyh (t:Nat)(x i:Operand):Zgb P (.indexAddr t x i) ty E L h K=xOp P (.indexAddr t x i) ty E L h fun v _ _=>K v:=rfl
@[go_sem ↓] theorem Zzl (x:Operand):Zgb P (.nilCheck x) ty E L h K=xOp P (.nilCheck x) ty E L h fun v _ _=>K v:=rfl
@[go_sem ↓] theorem Yqy (t:Nat)(x:Operand):Zgb P (.load t x) ty E L h K=xOp P (.load t x) ty E L h fun v _ _=>K v:=rfl
@[go_sem ↓] theorem Ydd (f:Nat)(first cap:List Value)(vs:List Value):Zik P (.func (.func f) first.toArray cap.toArray) vs L h K=Zwy P f (first++vs++cap) L h K:=by
 apply propext;constructor
 ·rintro⟨g,a,c,he,hk⟩;injection he with h1 h2 h3;injection h1 with h1;subst h1;subst h2;subst h3;exact hk
 ·intro hk;exact⟨_,_,_,rfl,hk⟩
theorem Zsg {f:Nat}{az:List Value}(v:Value)(hs:Zc P f az L h fun v' L' h'=>v'=v∧L'=L∧h'=h)(hk:K v):Zwy P f az L h K:=⟨v,hs,hk⟩
theorem Za.refl (L:Own)(h:PH):Za L h L h:=fun W hg=>⟨hg,fun e he=>List.mem_map_of_mem he⟩
theorem Za.trans {L1 L2 L3:Own}{h1 h2 h3:PH}(a:Za L1 h1 L2 h2)(b:Za L2 h2 L3 h3):Za L1 h1 L3 h3:=fun W hg=>by
 obtain⟨g2,f2⟩:=a W hg;obtain⟨g3,f3⟩:=b W g2;refine⟨g3,fun e he=>?_⟩;obtain⟨e',he',hb⟩:=List.mem_map.1 (f3 e he);rw[← hb];exact f2 e' he'
theorem Za.tail (e:Zm)(L:Own)(h:PH):Za (e::L) h L h:=fun W hg =>
 ⟨⟨hg.sub,fun e' he'=>hg.own e' (by simp [he']),(List.nodup_cons.1 hg.nodup).2,fun e' he'=>hg.apart e' (by simp [he'])⟩,fun e' he'=>by simp;exact Or.inr ⟨e',he',rfl⟩⟩
theorem YO {γ:Type}{c:Code}(s0:γ)(inv:γ→Prop)(env:γ→Env)(own:γ→Own)(ph:γ→PH)(μ:γ→Nat)
  (h0:inv s0) (hE:Ent E (env s0)) (hD:Za L h (own s0) (ph s0))
  (round:∀s,inv s→xC P c (thn (fun E' L' h'=>∃s',inv s'∧μ s'<μ s∧Ent E' (env s')∧Za L' h' (own s') (ph s')) Q) (env s) (own s) (ph s)):xC P (.loop c) Q E L h:=by
 refine⟨fun n E L h=>∃s,inv s∧μ s=n∧Ent E (env s)∧Za L h (own s) (ph s),⟨_,s0,h0,rfl,hE,hD⟩,?_⟩;rintro n E L h ⟨s,hs,rfl,hE,hD⟩;refine⟨_,_,_,hE,hD,?_⟩;have e:(fun E' L' h'=>∃s',inv s'∧μ s'<μ s∧Ent E' (env s')∧Za L' h' (own s') (ph s'))=fun E' L' h'=>∃m,m<μ s∧∃s',inv s'∧μ s'=m∧Ent E' (env s')∧Za L' h' (own s') (ph s'):=by
  funext E' L' h'
  apply propext;constructor
  ·rintro⟨s',a,b,c,d⟩;exact⟨_,b,s',a,rfl,c,d⟩
  ·rintro⟨m,a,s',b,rfl,c,d⟩;exact⟨s',b,a,c,d⟩
 rw[← e];exact round s hs
theorem WP {γ:Type}{c:Code}(s0:γ)(inv:γ→Prop)(env:γ→Env)(μ:γ→Nat)(h0:inv s0)(hE:Ent E (env s0))
  (round:∀s,inv s→xC P c (thn (fun E' L' h'=>∃s',inv s'∧μ s'<μ s∧Ent E' (env s')∧Za L' h' L h) Q) (env s) L h):xC P (.loop c) Q E L h :=
 YO s0 inv env (fun _=>L) (fun _=>h) μ h0 hE (Za.refl L h) round
end
section
variable {A B:Prop} {ta:Zk A} {tb:Zk B}
@[go_sem ↓] theorem Yvm:xIf true A B ta tb=A:=by simp [xIf]
@[go_sem ↓] theorem Ymr:xIf false A B ta tb=B:=by simp [xIf]
@[go_sem] theorem Ypm:xIf true A B ta tb=A:=by simp [xIf]
@[go_sem] theorem Ykd:xIf false A B ta tb=B:=by simp [xIf]
@[go_sem] theorem xIf_not (b:Bool):xIf (!b) A B ta tb=xIf b B A tb ta:=by cases b<;>simp [xIf]
theorem xif {b:Bool}(h1:b=true→A)(h2:b=false→B):xIf b A B ta tb:=⟨h1,h2⟩
theorem VI {p:Prop}[Decidable p](h1:p→A)(h2:¬p→B):xIf (decide p) A B ta tb :=
 ⟨fun h=>h1 (of_decide_eq_true h),fun h=>h2 (of_decide_eq_false h)⟩
end
@[go_sem high] theorem dec_t {p:Prop}[Decidable p](h:p):decide p=true:=decide_eq_true h
@[go_sem high] theorem dec_f {p:Prop}[Decidable p](h:¬p):decide p=false:=decide_eq_false h
@[go_sem] theorem xPut_eq {α:Type}(v:α)(K:α→Prop)(t:Zk K):UU v K t=K v:=rfl
section
variable {K:Value→Prop} {E:Env}
@[go_sem ↓] theorem Zpb (d i:Nat)(v:Value):Jh ((d,v)::E) i K=if i=d then K v else Jh E i K:=by
 by_cases hd:i=d
 ·subst hd;simp [Jh,List.lookup]
 ·have:(i == d)=false:=by simpa using hd
  simp [Jh,List.lookup,this,hd]
@[go_sem ↓] theorem Ypn (n i:Nat)(v:Value)(vs:List Value):Jh (Wo (v::vs) n) i K=if i=n then K v else Jh (Wo vs (n+1)) i K:=Zpb n i v
@[go_sem ↓] theorem Yye (i:Nat):Wd E (.tmp i) K=Jh E i K:=rfl
@[go_sem ↓] theorem Ylc (v:Value):Wd E (.const v) K=K v:=rfl
@[go_sem ↓] theorem Ypa (f:Nat):Wd E (.func f) K=K (.func (.func f) #[] #[]):=rfl
@[go_sem ↓] theorem Yor (K:List Value→Prop):Uc E [] K=K []:=rfl
@[go_sem ↓] theorem Yks (x:Operand)(xs:List Operand)(K:List Value→Prop):Uc E (x::xs) K=Wd E x fun v=>Uc E xs fun vs=>K (v::vs):=rfl
@[go_sem ↓] theorem Ykz (K:List (Nat×Value)→Prop):JG E [] K=K []:=rfl
@[go_sem ↓] theorem Ygw (i:Nat)(x:Operand)(xs:List (Nat×Operand))(K:List (Nat×Value)→Prop):JG E ((i,x)::xs) K=Wd E x fun v=>JG E xs fun vs=>K ((i,v)::vs):=rfl
@[go_sem ↓] theorem Yjt (K:Option Value→Prop):Zdm E none K=K none:=rfl
@[go_sem ↓] theorem Yjo (x:Operand)(K:Option Value→Prop):Zdm E (some x) K=Wd E x fun v=>K (some v):=rfl
@[go_sem ↓] theorem Ykg (b:Bool)(K:Bool→Prop):Zqn (.bool b) K=K b:=by simp [Zqn]
@[go_sem ↓] theorem Yry (p:Addr)(K:Option Addr→Prop):Znm (.pointer (some p)) K=K (some p):=by simp [Znm]
theorem Jz {a:Option Addr}{j:Nat}(ha:a≠none)(K:Option Addr→Prop):Znm (.pointer (UN a j)) K=K (UN a j):=by
 cases a with
 | none=>exact absurd rfl ha
 | some q=>simp [Znm,UN]
end
section
variable {Q:Env→Own→PH→Prop} {E:Env} {L:Own} {h:PH} {ops:List Oper} {rest:List Oper}
@[go_sem ↓] theorem Yuw:Zia P ops Q [] E L h=Q E L h:=rfl
@[go_sem ↓] theorem Ylo (d:Nat)(o:Op)(ty:Nat)(pos:String)(af:Array Edge) :
  Zia P ops Q (⟨some d,o,ty,pos,af,none⟩::rest) E L h=UW P o ty E L h fun v L h=>Zia P ops Q rest ((d,v)::E) L h:=rfl
@[go_sem ↓] theorem Ysk (o:Op)(ty:Nat)(pos:String)(af:Array Edge) :
  Zia P ops Q (⟨none,o,ty,pos,af,none⟩::rest) E L h=UW P o ty E L h fun _ L h=>Zia P ops Q rest E L h:=rfl
@[go_sem ↓] theorem Ykx (d:Nat)(o:Op)(ty:Nat)(pos:String)(af:Array Edge)(j:Nat)(want:Bool) :
  Zia P ops Q (⟨some d,o,ty,pos,af,some (j,want)⟩::rest) E L h =
   xG E (Jn ops j) want (fun t=>xIf t (UW P o ty E L h fun v L h=>Zia P ops Q rest ((d,v)::E) L h) (Zia P ops Q rest ((d,undef)::E) L h) ⟨⟩ ⟨⟩) ⟨⟩:=rfl
@[go_sem] theorem xG_some (d:Nat)(want:Bool)(K:Bool→Prop)(t:Zk K):xG E (some d) want K t=Jh E d fun v=>xGd v want K:=by simp [xG]
@[go_sem ↓] theorem Yql (want:Bool)(K:Bool→Prop)(t:Zk K):xGd undef want K t=K false:=by simp [xGd,undef]
@[go_sem ↓] theorem Yyj (b want:Bool)(K:Bool→Prop)(t:Zk K):xGd (.bool b) want K t=UU (b == want) K:=by simp [xGd,UU,undef]
@[go_sem] theorem Ykb (o:Oper)(os:List Oper):Jn (o::os) 0=o.dst:=rfl
@[go_sem] theorem Ykt (o:Oper)(os:List Oper)(n:Nat):Jn (o::os) (n+1)=Jn os n:=rfl
variable {ty:Nat} {K:PK}
@[go_sem ↓] theorem Ywv (x:Operand):xOp P (.move x) ty E L h K=Wd E x fun v=>K v L h:=rfl
@[go_sem ↓] theorem Ykv (x:Operand):xOp P (.assign x) ty E L h K=Wd E x fun v=>K v L h:=rfl
@[go_sem ↓] theorem Yuy (c a b:Operand):xOp P (.pick c a b) ty E L h K=Wd E c fun v=>Zqn v fun t=>xIf t (Wd E a fun v=>K v L h) (Wd E b fun v=>K v L h) ⟨⟩ ⟨⟩:=rfl
@[go_sem ↓] theorem Yoj (op:BinOp)(T U:Nat)(x y:Operand):xOp P (.binOp op T x y U) ty E L h K=Wd E x fun a=>Wd E y fun b=>Jc P op T x y a b fun v=>UU v (fun v=>K v L h) ⟨⟩:=rfl
@[go_sem ↓] theorem Yuu (op:UnOp)(T:Nat)(x:Operand):xOp P (.unOp op T x) ty E L h K=Wd E x fun a=>xUn P op a fun v=>UU v (fun v=>K v L h) ⟨⟩:=rfl
@[go_sem ↓] theorem Yiw (s d:Nat)(x:Operand)(hs:s≠d)(hd:d≠9):xOp P (.convert s d x) ty E L h K=Wd E x fun a=>Zdj P s d a fun v=>UU v (fun v=>K v L h) ⟨⟩:=by
 show Wd E x (fun a=>xCv P s d a L h K)=_;rw[show (fun a=>xCv P s d a L h K)=fun a=>Zdj P s d a fun v=>UU v (fun v=>K v L h) ⟨⟩ by funext a;unfold xCv;rw[if_neg hs,if_neg hd]]
@[go_sem ↓] theorem Yjb (x:Operand)(i:Nat):xOp P (.extract x i) ty E L h K=Wd E x fun a=>Yvf P a i fun v=>K v L h:=rfl
@[go_sem ↓] theorem Yck (s f:Nat)(x:Operand):xOp P (.fieldAddr s x f) ty E L h K=Wd E x fun a=>xFO P s f fun o=>Zda a o fun v=>UU v (fun v=>K v L h) ⟨⟩:=rfl
@[go_sem ↓] theorem Yai (t:Nat)(x i:Operand):xOp P (.indexAddr t x i) ty E L h K=Wd E x fun a=>Wd E i fun b=>xIA (tSh P t) a b (fun v=>UU v (fun v=>K v L h) ⟨⟩) ⟨⟩:=rfl
@[go_sem ↓] theorem Ypk (t:Nat)(x i:Operand):xOp P (.index t x i) ty E L h K=Wd E x fun a=>Wd E i fun b=>xIx P t a b fun v=>UU v (fun v=>K v L h) ⟨⟩:=rfl
@[go_sem ↓] theorem Yli (t:Nat)(x:Operand)(lo hi mx:Option Operand):xOp P (.slice t x lo hi mx) ty E L h K=Wd E x fun a=>Zdm E lo fun l=>Zdm E hi fun u=>Zdm E mx fun m=>xSl P t a l u m fun v=>UU v (fun v=>K v L h) ⟨⟩:=rfl
@[go_sem ↓] theorem Yda (x:Operand):xOp P (.nilCheck x) ty E L h K=Wd E x fun a=>xNC P a fun v=>K v L h:=rfl
@[go_sem ↓] theorem Yqw (t:Nat)(ps:List (Nat×Operand)):xOp P (.build t ps.toArray) ty E L h K=JG E ps fun vs=>Wj P t vs.toArray fun v=>UU v (fun v=>K v L h) ⟨⟩:=rfl
@[go_sem ↓] theorem Yes (fn:Fn)(first cap:List Operand):xOp P (.makeFunc fn first.toArray cap.toArray) ty E L h K=Uc E first fun f=>Uc E cap fun c=>K (.func fn f.toArray c.toArray) L h:=rfl
@[go_sem ↓] theorem Yfj (t:Nat):xOp P (.makeMap t none) ty E L h K=Zii L h (fun b L'=>K (.map (some b)) L' h) ⟨⟩:=rfl
@[go_sem ↓] theorem Ykk (t:Nat)(x i:Operand)(ok:Bool):xOp P (.lookup t x i ok) ty E L h K=Wd E x fun m=>Wd E i fun k=>Ylb P (Instr.lookup t m k ok) L h fun v=>K v L h:=rfl
@[go_sem ↓] theorem Ybo (t:Nat)(x i y:Operand):xOp P (.mapUpdate t x i y) ty E L h K=Wd E x fun m=>Wd E i fun k=>Wd E y fun u=>xDo P (Instr.mapUpdate t m k u) L h fun L' h'=>K undef L' h':=rfl
@[go_sem ↓] theorem Ytv (t:Nat)(x:Operand):xOp P (.load t x) ty E L h K=Wd E x fun v=>Znm v fun p=>xTI P t fun ti=>xLd ti L h p fun v=>K v L h:=rfl
@[go_sem ↓] theorem Ypp (t:Nat)(x y:Operand):xOp P (.store t x y) ty E L h K=Wd E x fun v=>Wd E y fun u=>Znm v fun p=>xTI P t fun ti=>xSt ti L p u fun L'=>K undef L' h:=rfl
@[go_sem ↓] theorem Ysw (t:Nat):xOp P (.alloc t) ty E L h K=xTI P t fun ti=>Zsc L h t ti.zero (fun b L'=>K (.pointer (some ⟨b,0,none⟩)) L' h) ⟨⟩:=rfl
@[go_sem ↓] theorem xOp_box (t:Nat)(x:Operand):xOp P (.box t x) ty E L h K=Wd E x fun v=>Zsc L h t v.cells.toList (fun b L'=>K (.pointer (some ⟨b,0,none⟩)) L' h) ⟨⟩:=rfl
@[go_sem ↓] theorem Zyi (t n:Nat)(ps:List (Nat×Operand)):xOp P (.buildSlice t n ps.toArray) ty E L h K=JG E ps fun vs=>xBS P t n vs.toArray fun T cs=>Zsc L h T cs (fun b L'=>K (.slice (some ⟨b,0,none⟩) n n) L' h) ⟨⟩:=rfl
@[go_sem ↓] theorem Ycg (t:Nat)(l c:Operand):xOp P (.makeSlice t l c) ty E L h K=Wd E l fun l=>Wd E c fun c=>xMS P t l c fun T cs n m=>Zsc L h T cs (fun b L'=>K (.slice (some ⟨b,0,none⟩) n m) L' h) ⟨⟩:=rfl
@[go_sem ↓] theorem Yun (f:Operand)(az:List Operand)(ats:Array Nat):xOp P (.call ⟨.value f,az.toArray,ats⟩) ty E L h K=Wd E f fun fv=>Uc E az fun vs=>Zci P fv vs L h K:=rfl
@[go_sem ↓] theorem Yfh (b:Builtin)(az:List Operand)(ats:Array Nat):xOp P (.call ⟨.builtin b,az.toArray,ats⟩) ty E L h K=Uc E az fun vs=>Ub P b ats ty vs L h K:=rfl
@[go_sem ↓] theorem Yot (x:Operand):UW P (.move x) ty E L h K=xOp P (.move x) ty E L h K:=rfl
@[go_sem ↓] theorem Yiq (x:Operand):UW P (.assign x) ty E L h K=xOp P (.assign x) ty E L h K:=rfl
@[go_sem ↓] theorem Ytd (c a b:Operand):UW P (.pick c a b) ty E L h K=xOp P (.pick c a b) ty E L h K:=rfl
@[go_sem ↓] theorem Ykl (op:BinOp)(T U:Nat)(x y:Operand):UW P (.binOp op T x y U) ty E L h K=xOp P (.binOp op T x y U) ty E L h K:=rfl
@[go_sem ↓] theorem Yqz (op:UnOp)(T:Nat)(x:Operand):UW P (.unOp op T x) ty E L h K=xOp P (.unOp op T x) ty E L h K:=rfl
@[go_sem ↓] theorem Ydq (s d:Nat)(x:Operand):UW P (.convert s d x) ty E L h K=xOp P (.convert s d x) ty E L h K:=rfl
@[go_sem ↓] theorem Yen (x:Operand)(i:Nat):UW P (.extract x i) ty E L h K=xOp P (.extract x i) ty E L h K:=rfl
@[go_sem ↓] theorem Zyg (s f:Nat)(x:Operand):UW P (.fieldAddr s x f) ty E L h K=xOp P (.fieldAddr s x f) ty E L h K:=rfl
@[go_sem ↓] theorem Zye (t:Nat)(x i:Operand):UW P (.indexAddr t x i) ty E L h K=xOp P (.indexAddr t x i) ty E L h K:=rfl
@[go_sem ↓] theorem Ykf (t:Nat)(x i:Operand):UW P (.index t x i) ty E L h K=xOp P (.index t x i) ty E L h K:=rfl
@[go_sem ↓] theorem Ykc (t:Nat)(x:Operand)(lo hi mx:Option Operand):UW P (.slice t x lo hi mx) ty E L h K=xOp P (.slice t x lo hi mx) ty E L h K:=rfl
@[go_sem ↓] theorem Zzq (x:Operand):UW P (.nilCheck x) ty E L h K=xOp P (.nilCheck x) ty E L h K:=rfl
@[go_sem ↓] theorem Yku (t:Nat)(ps:Array (Nat×Operand)):UW P (.build t ps) ty E L h K=xOp P (.build t ps) ty E L h K:=rfl
@[go_sem ↓] theorem Ybh (fn:Fn)(first cap:Array Operand):UW P (.makeFunc fn first cap) ty E L h K=xOp P (.makeFunc fn first cap) ty E L h K:=rfl
@[go_sem ↓] theorem Yeh (t:Nat)(r:Option Operand):UW P (.makeMap t r) ty E L h K=xOp P (.makeMap t r) ty E L h K:=rfl
@[go_sem ↓] theorem Yic (t:Nat)(x i:Operand)(ok:Bool):UW P (.lookup t x i ok) ty E L h K=xOp P (.lookup t x i ok) ty E L h K:=rfl
@[go_sem ↓] theorem Zyd (t:Nat)(x i y:Operand):UW P (.mapUpdate t x i y) ty E L h K=xOp P (.mapUpdate t x i y) ty E L h K:=rfl
@[go_sem ↓] theorem Yos (t:Nat)(x:Operand):UW P (.load t x) ty E L h K=xOp P (.load t x) ty E L h K:=rfl
@[go_sem ↓] theorem Yjk (t:Nat)(x y:Operand):UW P (.store t x y) ty E L h K=xOp P (.store t x y) ty E L h K:=rfl
@[go_sem ↓] theorem Ykq (t:Nat):UW P (.alloc t) ty E L h K=xOp P (.alloc t) ty E L h K:=rfl
@[go_sem ↓] theorem Yyf (t:Nat)(x:Operand):UW P (.box t x) ty E L h K=xOp P (.box t x) ty E L h K:=rfl
@[go_sem ↓] theorem Zsa (t n:Nat)(ps:Array (Nat×Operand)):UW P (.buildSlice t n ps) ty E L h K=xOp P (.buildSlice t n ps) ty E L h K:=rfl
@[go_sem ↓] theorem Zyq (t:Nat)(l c:Operand):UW P (.makeSlice t l c) ty E L h K=xOp P (.makeSlice t l c) ty E L h K:=rfl
@[go_sem ↓] theorem Ycx (b:Builtin)(az:Array Operand)(ats:Array Nat):UW P (.call ⟨.builtin b,az,ats⟩) ty E L h K=xOp P (.call ⟨.builtin b,az,ats⟩) ty E L h K:=rfl
@[go_sem ↓] theorem Yly (f:Operand)(az:List Operand)(ats:Array Nat):UW P (.call ⟨.value f,az.toArray,ats⟩) ty E L h K=Wd E f fun fv=>Uc E az fun vs=>Zmq P fv vs L h K:=rfl
@[go_sem ↓] theorem Yhj (f:Nat)(first cap:List Value)(vs:List Value):Zmq P (.func (.func f) first.toArray cap.toArray) vs L h K=JX P f (first++vs++cap) L h K ⟨⟩:=by
 apply propext;constructor
 ·rintro(⟨g,a,c,he,hk⟩ | ⟨l,he,_⟩)
  ·injection he with h1 h2 h3;injection h1 with h1;subst h1;subst h2;subst h3;simpa using hk
  ·injection he with h1;cases h1
 ·intro hk;exact .inl ⟨_,_,_,rfl,by simpa using hk⟩
@[go_sem ↓] theorem Yem (l:Nat)(vs:List Value):Zmq P (.func (.yield l) #[] #[]) vs L h K=Ydu P l vs L h K ⟨⟩:=by
 apply propext;constructor
 ·rintro(⟨g,a,c,he,hk⟩ | ⟨l',he,hk⟩)
  ·injection he with h1;cases h1
  ·injection he with h1;injection h1 with h1;subst h1;exact hk
 ·intro hk;exact .inr ⟨l,rfl,hk⟩
@[go_sem ↓] theorem Yhu (f:Nat)(first cap:List Value)(vs:List Value):Zci P (.func (.func f) first.toArray cap.toArray) vs L h K=JX P f (first++vs++cap) L h K ⟨⟩:=by
 apply propext;constructor
 ·rintro⟨g,a,c,he,hk⟩;injection he with h1 h2 h3;injection h1 with h1;subst h1;subst h2;subst h3;exact hk
 ·intro hk;exact⟨_,_,_,rfl,hk⟩
theorem Z2 {T:TypeId}{cs:List Value}{K:Nat→Own→Prop}(hk:∀b,ZT b L→h b=noC→K b (⟨b,T,cs,cs.length⟩::L))(hT:T≠4294967295:=by first|decide|omega):Zsc L h T cs K ⟨⟩:=⟨hT,hk⟩
theorem Ztt {K:Nat→Own→Prop}(hk:∀b,ZT b L→h b=noC→K b (⟨b,4294967295,[],0⟩::L)):Zii L h K ⟨⟩:=hk
end
section
variable {K:Value→Prop} {T:Nat} {x y:Operand}
theorem Yw {m:Sem Value}{v:Value}(hm:∀W,m.run P W = .ok v W)(K:Value→Prop):Zgu P m K=K v:=by
 apply propext;constructor
 ·rintro⟨u,hu,hk⟩;have:=(hu default).symm.trans (hm default);injection this with h1 _
  subst h1;exact hk
 ·intro hk;exact⟨v,hm,hk⟩
@[go_sem ↓] theorem Yur (k:IntKind)(a b:Int):Jc P .add T x y (.int k a) (.int k b) K=K (.int k (k.wrap (a+b))):=Yw (fun W=>by simp [eqGuard,binOp,go_sem]) K
@[go_sem ↓] theorem Ywz (k:IntKind)(a b:Int):Jc P .sub T x y (.int k a) (.int k b) K=K (.int k (k.wrap (a-b))):=Yw (fun W=>by simp [eqGuard,binOp,go_sem]) K
@[go_sem ↓] theorem Yvd (k:IntKind)(a b:Int):Jc P .mul T x y (.int k a) (.int k b) K=K (.int k (k.wrap (a*b))):=Yw (fun W=>by simp [eqGuard,binOp,go_sem]) K
theorem Ygt (k:IntKind)(a b:Int)(hb:b≠0)(W:World):(binOp .quo T (.int k a) (.int k b)).run P W = .ok (.int k (k.wrap (a.tdiv b))) W:=by
 simp [binOp,Op.intDiv,hb,pure]
theorem Ygj (k:IntKind)(a b:Int)(hb:b≠0)(W:World):(binOp .rem T (.int k a) (.int k b)).run P W = .ok (.int k (a.tmod b)) W:=by
 simp [binOp,Op.intDiv,hb,pure]
theorem YU {op:BinOp}(k l:IntKind)(a b:Int)(m:Sem Value):(do eqGuard op T x y (.int k a) (.int l b);m)=m:=by cases op<;>rfl
@[go_sem ↓] theorem Ywk (k:IntKind)(a b:Int)(hb:b≠0):Jc P .quo T x y (.int k a) (.int k b) K=K (.int k (k.wrap (a.tdiv b))) :=
 Yw (fun W=>by rw[YU];exact Ygt k a b hb W) K
@[go_sem ↓] theorem Yxk (k:IntKind)(a b:Int)(hb:b≠0):Jc P .rem T x y (.int k a) (.int k b) K=K (.int k (a.tmod b)) :=
 Yw (fun W=>by rw[YU];exact Ygj k a b hb W) K
@[go_sem ↓] theorem Yxi (k:IntKind)(a b:Int):Jc P .and T x y (.int k a) (.int k b) K=K (.int k (bits .and k a b)) :=
 Yw (fun W=>by rw[YU];simp [binOp,go_sem]) K
@[go_sem ↓] theorem xBin_or (k:IntKind)(a b:Int):Jc P .or T x y (.int k a) (.int k b) K=K (.int k (bits .or k a b)) :=
 Yw (fun W=>by rw[YU];simp [binOp,go_sem]) K
@[go_sem ↓] theorem Yxy (k l:IntKind)(a b:Int)(hb:0≤b):Jc P .shl T x y (.int k a) (.int l b) K=K (.int k (k.wrap (a*2 ^ (min b.toNat k.bits)))) :=
 Yw (fun W=>by rw[YU];simp [binOp,Op.shift,Int.not_lt.2 hb,pure]) K
@[go_sem ↓] theorem Yxx (k l:IntKind)(a b:Int)(hb:0≤b):Jc P .shr T x y (.int k a) (.int l b) K=K (.int k (a/2 ^ (min b.toNat k.bits))) :=
 Yw (fun W=>by
  rw[YU,← Int.fdiv_eq_ediv_of_nonneg a (Int.le_of_lt (Int.pow_pos (by decide)))];simp [binOp,Op.shift,Int.not_lt.2 hb,pure]) K
@[go_sem ↓] theorem Yxz (k:IntKind)(a b:Int):Jc P .eql T x y (.int k a) (.int k b) K=K (.bool (decide (a=b))) :=
 Yw (fun W=>by rw[YU];simp [binOp,Op.intCmp,pure,BEq.beq]) K
@[go_sem ↓] theorem Ywx (k:IntKind)(a b:Int):Jc P .neq T x y (.int k a) (.int k b) K=K (.bool (!decide (a=b))) :=
 Yw (fun W=>by rw[YU];simp [binOp,Op.intCmp,pure,bne,BEq.beq]) K
@[go_sem ↓] theorem Yxt (k:IntKind)(a b:Int):Jc P .lss T x y (.int k a) (.int k b) K=K (.bool (decide (a<b))) :=
 Yw (fun W=>by rw[YU];simp [binOp,Op.intCmp,pure]) K
@[go_sem ↓] theorem Yva (k:IntKind)(a b:Int):Jc P .leq T x y (.int k a) (.int k b) K=K (.bool (decide (a≤b))) :=
 Yw (fun W=>by rw[YU];simp [binOp,Op.intCmp,pure]) K
@[go_sem ↓] theorem Yyg (k:IntKind)(a b:Int):Jc P .gtr T x y (.int k a) (.int k b) K=K (.bool (decide (b<a))) :=
 Yw (fun W=>by rw[YU];simp [binOp,Op.intCmp,pure]) K
@[go_sem ↓] theorem Yvj (k:IntKind)(a b:Int):Jc P .geq T x y (.int k a) (.int k b) K=K (.bool (decide (b≤a))) :=
 Yw (fun W=>by rw[YU];simp [binOp,Op.intCmp,pure]) K
@[go_sem ↓] theorem xUn_not (b:Bool):xUn P .not (.bool b) K=K (.bool (!b)):=Yw (fun W=>by simp [Op.unary,pure]) K
@[go_sem ↓] theorem Ykp (vs:List Value)(i:Nat):Yvf P (.tuple vs.toArray) i K=Wz vs i K:=by
 unfold Yvf
 cases hv:vs[i]? with
 | some v =>
  rw[Yw (v:=v) (fun W=>by simp [Instr.extract,hv,pure])];simp [Wz,hv]
 | none =>
  apply propext;constructor
  ·rintro⟨u,hu,_⟩;have:=hu default;simp [Instr.extract,hv,stuck]at this
  ·rintro⟨u,hu,_⟩;rw[hv]at hu;cases hu
theorem Yag (k:IntKind)(zs:List Int)(o:Nat)(ho:o<zs.length):Wz (zs.map (Value.int k)) o K=K (.int k (zs.getD o 0)):=by
 simp [Wz,ho]
@[go_sem ↓] theorem Yrb (v:Value)(vs:List Value):Wz (v::vs) 0 K=K v:=by simp [Wz]
@[go_sem ↓] theorem Ymf (v:Value)(vs:List Value)(n:Nat):Wz (v::vs) (n+1) K=Wz vs n K:=by simp [Wz]
theorem Ztk {cs:List Value}{o:Nat}{v:Value}(hv:cs[o]?=some v):Wz cs o K=K v:=by simp [Wz,hv]
theorem ZX {s f o:Nat}(ho:Yvl P s f=some o)(K:Nat→Prop):xFO P s f K=K o:=by simp [xFO,ho]
theorem YL {t:Nat}{ti:TI}(ht:tI P t=some ti)(K:TI→Prop):xTI P t K=K ti:=by simp [xTI,ht]
theorem Va (b o j:Nat):(Addr.mk b o none).add j=⟨b,o+j,none⟩:=by
 unfold Addr.add;split
 ·rename_i h;subst h;rfl
 ·rfl
@[go_sem ↓] theorem Yky (b j o:Nat):Zda (.pointer (some ⟨b,j,none⟩)) o K=K (.pointer (some ⟨b,j+o,none⟩)):=by simp [Zda,Va]
theorem Zin (a:Addr)(i j:Nat):(a.add i).add j=a.add (i+j):=by
 unfold Addr.add;by_cases hi:i=0<;>by_cases hj:j=0<;>simp [hi,hj,Nat.add_assoc]
theorem J3 {a:Option Addr}(ha:a≠none)(j o:Nat)(K:Value→Prop):Zda (.pointer (UN a j)) o K=K (.pointer (UN a (j+o))):=by
 cases a with
 | none=>exact absurd rfl ha
 | some q=>simp [Zda,UN,Zin]
@[go_sem] theorem xIA_own (e sz by' b o n c:Nat)(k:IntKind)(j:Int)(h0:0≤j)(h1:j<(n:Int))(t:Zk K) :
  xIA (.sl e sz by') (.slice (some ⟨b,o,none⟩) n c) (.int k j) K t=K (.pointer (some ⟨b,o+j.toNat*sz,none⟩)):=by
 apply propext;constructor
 ·rintro⟨q,n',c',k',j',e1,e2,_,_,hk⟩;injection e1 with e1 e3 e4;injection e1 with e1;injection e2 with e5 e6
  subst e1;subst e6;rw[Va]at hk;exact hk
 ·intro hk;exact⟨_,_,_,_,_,rfl,rfl,h0,h1,by rw[Va];exact hk⟩
theorem Zlm {a:Option Addr}(ha:a≠none)(e sz by' n c:Nat)(k:IntKind)(j:Int)(h0:0≤j)(h1:j<(n:Int))(K:Value→Prop)(t:Zk K) :
  xIA (.sl e sz by') (.slice a n c) (.int k j) K t=K (.pointer (UN a (j.toNat*sz))):=by
 cases a with
 | none=>exact absurd rfl ha
 | some q =>
  apply propext;constructor
  ·rintro⟨q,n',c',k',j',e1,e2,_,_,hk⟩;injection e1 with e1 e3 e4;injection e1 with e1;injection e2 with e5 e6
   subst e1;subst e6;exact hk
  ·intro hk;exact⟨_,_,_,_,_,rfl,rfl,h0,h1,hk⟩
end
section
variable {K:Value→Prop} {L:Own} {h:PH}
@[go_sem ↓] theorem Yfd (n:Nat)(z:List Value)(by':Nat)(p:Option Addr):xLd ⟨n,true,z,by'⟩ L h p K=Gl L h p 0 n fun cs=>K (.agg cs.toArray):=rfl
@[go_sem ↓] theorem xLd_one (n:Nat)(z:List Value)(by':Nat)(p:Option Addr):xLd ⟨n,false,z,by'⟩ L h p K=Jb L h p 0 K:=rfl
@[go_sem ↓] theorem Yhy (p:Option Addr)(j:Nat)(K:List Value→Prop):Gl L h p j 0 K=K []:=rfl
@[go_sem ↓] theorem Zka (p:Option Addr)(j n:Nat)(K:List Value→Prop):Gl L h p j (n+1) K=Jb L h p j fun v=>Gl L h p (j+1) n fun vs=>K (v::vs):=rfl
@[go_sem ↓] theorem Yof (b o j:Nat)(hb:h b=noC):Jb L h (some ⟨b,o,none⟩) j K=Zal L b (o+j) K:=by
 simp [Jb,Ygo,Zal,Zfq,Va,hb,noC]
@[go_sem ↓] theorem Yqq (b ty o c:Nat)(cs:List Value)(hT:ty≠4294967295):Zal (⟨b,ty,cs,c⟩::L) b o K=UU o (fun o=>Wz cs o K) ⟨⟩:=by
 simp [Zal,Wz,UK,UU,hT]
@[go_sem ↓] theorem Zcd (b b' ty o c:Nat)(cs:List Value)(hne:b'≠b):Zal (⟨b',ty,cs,c⟩::L) b o K=Zal L b o K:=by
 simp [Zal,UK,hne]
theorem U0 {a:Option Addr}{i j:Nat}{v:Value}(hv:Yd h a (i+j)=some v)(K:Value→Prop):Jb L h (UN a i) j K=K v:=by
 cases a with
 | none=>simp [Yd]at hv
 | some q =>
  simp only[Yd]at hv;split at hv
  ·rename_i hs;simp [Jb,Ygo,Zfq,UN,Zin,hs,hv]
  ·cases hv
@[go_sem ↓] theorem Yul (b ty o c:Nat)(cs vs:List Value)(K:Own→Prop)(hT:ty≠4294967295) :
  Zai (⟨b,ty,cs,c⟩::L) b o vs K=(o+vs.length≤cs.length∧vs.all Value.oneCell'=true∧UU (wr cs o vs) (fun cs=>K (⟨b,ty,cs,c⟩::L)) ⟨⟩):=by
 simp [Zai,UU,hT]
@[go_sem ↓] theorem Zgd (b b' ty o c:Nat)(cs vs:List Value)(K:Own→Prop)(hne:b'≠b) :
  Zai (⟨b',ty,cs,c⟩::L) b o vs K=Zai L b o vs fun L'=>K (⟨b',ty,cs,c⟩::L'):=by
 simp [Zai,hne]
theorem Yer (n:Nat)(g:Bool)(z:List Value)(by' b o:Nat)(v:Value)(K:Own→Prop):xSt ⟨n,g,z,by'⟩ L (some ⟨b,o,none⟩) v K=(v.cells.size=n∧Zai L b o v.cells.toList K):=by
 apply propext;constructor
 ·rintro⟨b',o',e,hs,hk⟩;injection e with e;injection e with e1 e2;subst e1;subst e2;exact⟨hs,hk⟩
 ·intro ⟨hs,hk⟩;exact⟨_,_,rfl,hs,hk⟩
@[go_sem ↓] theorem xSt_agg (n:Nat)(g:Bool)(z:List Value)(by' b o:Nat)(l:List Value)(K:Own→Prop):xSt ⟨n,g,z,by'⟩ L (some ⟨b,o,none⟩) (.agg l.toArray) K=(l.length=n∧Zai L b o l K):=Yer n g z by' b o _ K
theorem Zet (g:Bool)(z:List Value)(by' b o:Nat)(v:Value)(K:Own→Prop)(hv:v.oneCell'=true):xSt ⟨1,g,z,by'⟩ L (some ⟨b,o,none⟩) v K=Zai L b o [v] K:=by
 have:v.cells=#[v]:=by cases v<;>first|rfl|cases hv
 rw[Yer,this];simp
section
variable (g:Bool) (z:List Value) (by' b o:Nat) (K:Own→Prop)
@[go_sem ↓] theorem xSt_int (k:IntKind)(n:Int):xSt ⟨1,g,z,by'⟩ L (some ⟨b,o,none⟩) (.int k n) K=Zai L b o [.int k n] K:=Zet g z by' b o _ K rfl
@[go_sem ↓] theorem Ytt (n:Bool):xSt ⟨1,g,z,by'⟩ L (some ⟨b,o,none⟩) (.bool n) K=Zai L b o [.bool n] K:=Zet g z by' b o _ K rfl
@[go_sem ↓] theorem Ynb (a:Option Addr)(n c:Nat):xSt ⟨1,g,z,by'⟩ L (some ⟨b,o,none⟩) (.slice a n c) K=Zai L b o [.slice a n c] K:=Zet g z by' b o _ K rfl
end
@[go_sem] theorem Yek (k:IntKind)(n:Int):(Value.int k n).oneCell'=true:=rfl
@[go_sem] theorem Yco (b:Bool):(Value.bool b).oneCell'=true:=rfl
@[go_sem] theorem Zyr (a:Option Addr)(n c:Nat):(Value.slice a n c).oneCell'=true:=rfl
end
section
variable {K:Value→Prop} {L:Own} {h:PH} {a:Option Addr}
theorem idx {n:Nat}{f:Nat→Value}(hc:∀j,j<n→Yd h a j=some (f j)) :
  (∀(c e by':Nat) (k:IntKind) (j:Int) (K:Value→Prop) (t:Zk K),0≤j→j<(n:Int)→xIA (.sl e 1 by') (.slice a n c) (.int k j) K t=K (.pointer (UN a j.toNat))) ∧
  (∀(j:Nat) (K:Option Addr→Prop) (t:Zk K),j<n→Znm (.pointer (UN a j)) K t=K (UN a j)) ∧
  (∀(L:Own) (j:Nat) (K:Value→Prop) (t:Zk K),j<n→Jb L h (UN a j) 0 K t=K (f j)):=by
 have hne:∀j,j<n→a≠none:=fun j hj e=>by
  have:=hc j hj;rw[e]at this;simp [Yd]at this
 refine⟨fun c e by' k j K t h0 h1=>?_,fun j K t hj=>Jz (hne j hj) K,fun L j K t hj=>U0 (by simpa using hc j hj) K⟩;have:=Zlm (hne j.toNat (by omega)) e 1 by' n c k j h0 h1 K t
 rw[this,Nat.mul_one]
end
section
variable {K:Value→Prop} {T ty:Nat}
@[go_sem ↓] theorem Yde (ats:Array Nat)(v:Value)(L:Own)(h:PH)(K:PK):Ub P .len ats ty [v] L h K=Zch P ty ats v fun r=>UU r fun r=>K r L h:=by
 apply propext;constructor
 ·rintro⟨u,hu,hk⟩;injection hu with hu;subst hu;exact hk
 ·intro hk;exact⟨v,rfl,hk⟩
theorem YB {T:Nat}{e:Nat}(hT:P.underlying T=some (.slice e))(a:Option Addr)(n c:Nat):Zch P ty #[T] (.slice a n c) K=K (.int .i64 n) :=
 Yw (fun W=>by simp [Builtin.len_,underlying,hT,goInt]) K
theorem YK (ats:Array Nat)(k l:IntKind)(a b:Int)(L:Own)(h:PH)(K:PK):Ub P .max ats ty [.int k a,.int l b] L h K=K (.int k (max a b)) L h:=by
 have:xMM P true ats ty [.int k a,.int l b] (fun r=>UU r (fun r=>K r L h) ⟨⟩)=K (.int k (max a b)) L h:=by
  refine Yw (fun W=>?_) _;simp [Builtin.max_,Builtin.max2,Int.max_def];omega
 exact this
theorem UP {s d:Nat}{ks kd:IntKind}(hs:P.underlying s=some (.int ks))(hd:P.underlying d=some (.int kd))(k:IntKind)(n:Int):Zdj P s d (.int k n) K=K (.int kd (kd.wrap n)) :=
 Yw (fun W=>by simp [convert,underlying,hs,hd,Conv.intToInt]) K
end
section
variable {K:Value→Prop}
theorem Ys {t:Nat}{z:List Value}{pl:List (Nat×Nat)}(hb:bPl P t=some (z,pl))(ps:List (Nat×Value))(K:Value→Prop):Wj P t ps.toArray K=YC z pl ps fun z'=>K (.agg z'.toArray):=by
 apply propext;constructor
 ·rintro⟨z',pl',h1,h2⟩;rw[hb]at h1;injection h1 with h1;injection h1 with e1 e2;subst e1;subst e2;exact h2
 ·intro h2;exact⟨z,pl,hb,h2⟩
@[go_sem ↓] theorem Yne (z:List Value)(pl:List (Nat×Nat))(K:List Value→Prop):YC z pl [] K=K z:=rfl
theorem We {t n e:Nat}{z:List Value}{pl:List (Nat×Nat)}(hb:bSl P t n=some (e,z,pl))(ps:List (Nat×Value))(K:TypeId→List Value→Prop):xBS P t n ps.toArray K=YC z pl ps fun cs=>K e cs:=by
 apply propext;constructor
 ·rintro⟨e',z',pl',h1,h2⟩;rw[hb]at h1;injection h1 with h1;injection h1 with e1 e2;injection e2 with e2 e3;subst e1;subst e2;subst e3;exact h2
 ·intro h2;exact⟨e,z,pl,hb,h2⟩
def Yus (pl:List (Nat×Nat))(i:Nat)(K:Nat→Nat→Prop)(_:Zk K:=⟨⟩):Prop :=
 match pl[i]? with
 | some (off,size)=>K off size
 | none=>False
@[go_sem ↓] theorem Yjy (z:List Value)(pl:List (Nat×Nat))(i:Nat)(v:Value)(ps:List (Nat×Value))(K:List Value→Prop) :
  YC z pl ((i,v)::ps) K=Yus pl i fun off size=>v.cells.size=size∧off+size≤z.length∧UU (wr z off v.cells.toList) fun z'=>YC z' pl ps K:=rfl
@[go_sem ↓] theorem Yle (off size:Nat)(pl:List (Nat×Nat))(K:Nat→Nat→Prop):Yus ((off,size)::pl) 0 K=K off size:=rfl
@[go_sem ↓] theorem Ylh (q:Nat×Nat)(pl:List (Nat×Nat))(i:Nat)(K:Nat→Nat→Prop):Yus (q::pl) (i+1) K=Yus pl i K:=rfl
@[go_sem ↓ high] theorem wr_map (k:IntKind)(zs:List Int)(o:Nat)(z:Int):wr (zs.map (Value.int k)) o [.int k z]=(zs.set o z).map (Value.int k):=by simp [wr,List.map_set]
@[go_sem] theorem wr_nil (cs:List Value)(o:Nat):wr cs o []=cs:=rfl
@[go_sem] theorem wr_cons (cs:List Value)(o:Nat)(v:Value)(vs:List Value):wr cs o (v::vs)=wr (cs.set o v) (o+1) vs:=rfl
end
section
variable {L:Own} {h:PH} {E:Env} {K:List Value→Prop} {rs:List ResultVar}
@[go_sem ↓] theorem Yub:Znw P L h E [] K=K []:=rfl
@[go_sem ↓] theorem Yvh (t:Nat):Znw P L h E (.tmp t::rs) K=Jh E t fun v=>Znw P L h E rs fun vs=>K (v::vs):=rfl
@[go_sem ↓] theorem Ysc (a t:Nat):Znw P L h E (.cell a t::rs) K=Jh E a fun v=>Znm v fun p=>xTI P t fun ti=>xLd ti L h p fun v=>Znw P L h E rs fun vs=>K (v::vs):=rfl
@[go_sem] theorem Yvu (v:Value):Ydy [v]=v:=rfl
@[go_sem] theorem Yyl (v u:Value)(vs:List Value):Ydy (v::u::vs) = .tuple (v::u::vs).toArray:=rfl
@[go_sem] theorem Yuc:Ydy [] = .tuple #[]:=rfl
theorem ZP {K:PK}{v:Value}{e:Zm}(hk:fin K v L h):fin K v (e::L) h:=by
 obtain⟨L',h',hd,hk⟩:=hk;exact⟨L',h',(Za.tail e L h).trans hd,hk⟩
theorem ZO {K:PK}{v:Value}(hk:K v L h):fin K v L h:=⟨L,h,Za.refl L h,hk⟩
end
@[go_sem high] theorem Yuk (n:Int)(h0 : -9223372036854775808≤n)(h1:n≤9223372036854775807):IntKind.i64.wrap n=n:=by
 simp only[IntKind.wrap,IntKind.bits,IntKind.signed];simp;omega
@[go_sem high] theorem Yxh (n:Int)(h0:0≤n)(h1:n≤18446744073709551615):IntKind.u64.wrap n=n:=by
 simp only[IntKind.wrap,IntKind.bits,IntKind.signed];simp;omega
@[go_sem high] theorem wrap_u8 (n:Int)(h0:0≤n)(h1:n≤255):IntKind.u8.wrap n=n:=by
 simp only[IntKind.wrap,IntKind.bits,IntKind.signed];simp;omega
theorem Ziy (n:Int):IntKind.u8.wrap n=n%256:=by
 simp only[IntKind.wrap,IntKind.bits,IntKind.signed];simp
theorem UB (n:Int):IntKind.u64.wrap n=n%18446744073709551616:=by
 simp only[IntKind.wrap,IntKind.bits,IntKind.signed];simp
@[go_sem high] theorem Yxc (a b:Int)(h0:0≤a)(_h1:0<b):a.tdiv b=a/b:=Int.tdiv_eq_ediv_of_nonneg h0
@[go_sem high] theorem Yvo (a b:Int)(h0:0≤a)(_h1:0<b):a.tmod b=a%b:=Int.tmod_eq_emod_of_nonneg h0
end Go.X
